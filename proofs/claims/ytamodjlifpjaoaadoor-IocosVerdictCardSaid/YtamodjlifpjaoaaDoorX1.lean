/- ref27.Make 25: the node that watches (from region 8 on). -/
import Derived.Test.YtamodjlifpjaoaaDoorX0
import Derived.Test.YtamodjlifpjaoaaDoorGJ
import Derived.Test.YtamodjlifpjaoaaDoorGG
namespace Go.Proofs.YtamodjlifpjaoaaDoor
open Go.RowKit
set_option linter.unusedVariables false
set_option linter.unusedSimpArgs false
attribute [local go_sem] Oper.quietV quietV Oper.gives givesV ext_refl_iff ext_alloc_iff ext_drew_iff ext_drewN_iff
noncomputable def T25 (n : Nat) : Code := textR n Tryd.f25.body
def RMakeP (W : World) (L : List Nd) (e : Ending) (w' : World) : Prop := ∃ rv c, e = .returned rv ∧ NodesN W.heap.size w' rv L c ∧ Ext W w'
def GiveN (N : Nat) (L : List Nd) (v : Value) (w : World) : Prop := ∃ A c, v = .slice A L.length c ∧ NodesN N w (.slice A L.length c) L c
theorem stays_giveN (N : Nat) (L : List Nd) : Stays Ext (GiveN N L) := fun v w w' hE ⟨A, c, hv, h⟩ => ⟨A, c, hv, h.ext hE⟩
theorem NodesN.give {N : Nat} {w : World} {v : Value} {L : List Nd} {c : Nat} (h : NodesN N w v L c) : ∃ A, v = .slice A L.length c := by
  obtain ⟨A, M, h1, h2, _⟩ := h
  exact ⟨A, h2⟩
def MakeS (x : Lts) (p : List Int) : Prop := ∀ (W : World) (v sv pv : Value) (S cs cp f : Nat), LtsV W v x → S < 2 ^ x.n → IntsC W sv (memI S) cs → IntsC W pv p cp → f + (mkT x p S f).length ≤ 100000 →
  Calls Tryd.prog 25 #[v, sv, pv, .int .i64 (f : Int)] W (RMakeP W (mkT x p S f))
theorem obsL_at {x : Lts} {j : Nat} (hj : j < x.O + 1) : (obsLabs x)[j]? = some (x.ins + (j : Int)) := by unfold obsLabs; rw [List.getElem?_map, List.getElem?_range hj]; rfl
/-- The kids up to a label. -/
def kidJ (x : Lts) (q : List Int) (S f j : Nat) : List Int × List Nd := kidsT x (mkT x q) S f ((obsLabs x).take j)
theorem kidJ_zero (x : Lts) (q : List Int) (S f : Nat) : kidJ x q S f 0 = ([], []) := rfl
theorem kidJ_step {x : Lts} {q : List Int} {S f j : Nat} (hj : j < x.O + 1) : kidJ x q S f (j + 1) = ((kidJ x q S f j).1 ++ [((f + 1 + (kidJ x q S f j).2.length : Nat) : Int)], (kidJ x q S f j).2 ++ subT x (mkT x q) S (f + 1 + (kidJ x q S f j).2.length) (x.ins + (j : Int))) :=
  kidsT_take x (mkT x q) S f (obsL_at hj)
theorem kidJ_all (x : Lts) (q : List Int) (S f : Nat) : mkT x (-1 :: q) S f = ⟨-1, (kidJ x q S f (x.O + 1)).1⟩ :: (kidJ x q S f (x.O + 1)).2 := by
  rw [mkT_node (.inl rfl)]
  unfold kidJ
  rw [← obs_len, List.take_length]; rfl
theorem kidJ_len {x : Lts} {q : List Int} {S f : Nat} (j : Nat) : f + 1 + (kidJ x q S f j).2.length ≤ f + (mkT x (-1 :: q) S f).length := by
  have h := mkT_len (x := x) (a := -1) (p := q) (S := S) (f := f) (.inl rfl) j
  show f + 1 + (kidsT x (mkT x q) S f ((obsLabs x).take j)).2.length ≤ _
  have h2 : labsOf x (-1) = obsLabs x := rfl
  rw [h2] at h
  omega
theorem kidJ_fst_len {x : Lts} {q : List Int} {S f j : Nat} (hj : j ≤ x.O + 1) : (kidJ x q S f j).1.length = j := by
  unfold kidJ
  rw [kidsT_len, List.length_take, obs_len]; omega
/-- The nodes of the loop: what has been gathered up to a label. -/
structure KidM (x : Lts) (q : List Int) (S f N j : Nat) (M : List (Nd × Value)) : Prop where
  map : M.map Prod.fst = (kidJ x q S f j).2
  far : ∀ z ∈ M, FarV N z.2
theorem KidM.len {x : Lts} {q : List Int} {S f N j : Nat} {M : List (Nd × Value)} (h : KidM x q S f N j M) : M.length = (kidJ x q S f j).2.length := by rw [← h.map, List.length_map]
theorem KidM.put {x : Lts} {q : List Int} {S f N j : Nat} {M M1 : List (Nd × Value)} (h : KidM x q S f N j M) (hj : j < x.O + 1) (hM : M1.map Prod.fst = subT x (mkT x q) S (f + 1 + M.length) (x.ins + (j : Int))) (hf : ∀ z ∈ M1, FarV N z.2) : KidM x q S f N (j + 1) (M ++ M1) := by
  refine ⟨?_, fun z hz => ?_⟩
  · rw [List.map_append, h.map, hM, kidJ_step hj, h.len]
  · rcases List.mem_append.1 hz with hz | hz
    · exact h.far z hz
    · exact hf z hz
theorem MkSt.sub {W0 W W1 W' : World} {b N : Nat} {nv v v' : Value} {k : List Int} {M M1 : List (Nd × Value)} (h : MkSt W0 W b nv k v M) (e : Ext W W1) (hM : NdT M1 W1) (hf : ∀ z ∈ M1, FarV N z.2) (hN : W.heap.size ≤ N) (hg : W1.grownBy W' v.ownBlock) (ho : W'.ownsRow W0.heap.size 56 2 v' (M.length + M1.length) (ndsV M ++ ndsV M1)) (hb : ∀ b, v'.ownBlock = some b → v.ownBlock = some b ∨ W1.heap.size ≤ b) : MkSt W0 W' b nv k v' (M ++ M1) :=
  h.more e hM (fun z hz => (hf z hz).mono hN) hg ho hb
theorem own_type3 {w : World} {base : Nat} {e : TypeId} {size : Nat} {v : Value} {n : Nat} {xs : List Value} (h : w.ownsRow base e size v n xs) : ∀ b, v.ownBlock = some b → ∃ cs, w.heap[b]? = some (.cells cs e (0, 0)) := fun b hb => by
  rcases h.2 with ⟨h2, _⟩ | ⟨g, cap, cur, h2, _, hg, _⟩
  · rw [h2] at hb; cases hb
  · rw [h2] at hb
    have : g = b := by simpa [Value.ownBlock] using hb
    subst this
    exact ⟨cur, hg⟩
theorem kid_ints {w : World} {N gk capk n : Nat} {k : List Int} (h : w.ownsRow N 3 1 (.slice (some ⟨gk, 0, none⟩) n capk) n (k.map (.int .i64))) (hk : k.length = n) (hn : n ≤ lenMax) : ∃ c, IntsC w (.slice (some ⟨gk, 0, none⟩) n capk) k c := by
  subst hk
  exact ints_of_owns h hn
set_option maxRecDepth 100000 in
set_option maxHeartbeats 16000000 in
theorem rm_t8 (W W1 : World) (b4 : Nat) (x : Lts) (q : List Int) (S f cs cp bp op : Nat) (c0 c5 c6 c7 c8 c9 c10 c11 c12 c13 c14 c15 c16 c17 c18 c19 c20 c21 c22 c23 c24 c25 c26 c27 c28 c29 c30 c31 c32 c33 c34 c35 c36 c37 c38 c39 c40 c41 c42 c43 c44 c45 c46 c47 c48 c49 c50 c51 c52 c53 c54 c55 c56 c57 c58 c59 c60 c61 c62 c63 c64 c65 c66 c67 c68 c69 c70 c71 c72 c73 c74 c75 c76 c77 c78 c79 c80 c81 c82 c83 c84 c85 c86 c87 c88 c89 c90 c91 c92 c93 c94 c95 c96 c97 c98 c99 c100 c101 c102 sv : Value) (h0 : Ext W W1) (hb : BoxL W1 b4 x) (hg : Good x) (hS : S < 2 ^ x.n) (hsv : IntsC W1 sv (memI S) cs)
    (hp : IntsC W1 (.slice (some ⟨bp, op, none⟩) (q.length + 1) cp) (-1 :: q) cp) (hlen : f + (mkT x (-1 :: q) S f).length ≤ 100000) (IH : MakeS x q) :
    Code.wp Tryd.prog (T25 8) (bodyPost Tryd.prog Tryd.f25 (RMakeP W (mkT x (-1 :: q) S f))) ⟨(c0 :: sv :: .slice (some ⟨bp, op, none⟩) (q.length + 1) cp :: .int .i64 (f : Int) :: .pointer (some ⟨b4, 0, none⟩) :: c5 :: c6 :: c7 :: c8 :: c9 :: c10 :: c11 :: c12 :: c13 :: c14 :: c15 :: c16 :: c17 :: c18 :: c19 :: c20 :: c21 :: c22 :: c23 :: c24 :: c25 :: c26 :: c27 :: c28 :: c29 :: c30 :: c31 :: c32 :: c33 :: c34 :: c35 :: c36 :: c37 :: c38 :: c39 :: c40 :: c41 :: c42 :: c43 :: c44 :: c45 :: c46 :: c47 :: c48 :: c49 :: c50 :: c51 :: c52 :: c53 :: c54 :: c55 :: c56 :: c57 :: c58 :: c59 :: c60 :: c61 :: c62 :: c63 :: c64 :: c65 :: c66 :: c67 :: c68 :: c69 :: c70 :: c71 :: c72 :: c73 :: c74 :: c75 :: c76 :: c77 :: c78 :: c79 :: c80 :: c81 :: c82 :: c83 :: c84 :: c85 :: c86 :: c87 :: c88 :: c89 :: c90 :: c91 :: c92 :: c93 :: c94 :: c95 :: c96 :: c97 :: c98 :: c99 :: c100 :: c101 :: c102 :: []).toArray, []⟩ W1 := by
  conv => arg 2; whnf
  obtain ⟨i3, hi3, hz3, hs3, hb3⟩ := info_parts int_info
  obtain ⟨i56, hi56, hz56, hs56, hb56⟩ := info_parts node_info
  have b1' := hg.ins
  have b2' := hg.outs
  have hII := Lib.hid (And.intro hg.II hg.OO)
  have hcp : q.length + 1 ≤ cp ∧ cp ≤ 9223372036854775807 ∨ q.length + 1 ≤ cp := by
    obtain ⟨A, hv, _, h1, _⟩ := hp
    exact .inr (by simpa using h1)
  have hcp : q.length + 1 ≤ cp := by rcases hcp with h | h; exact h.1; exact h
  have hlq : q.length + 1 ≤ 9223372036854775807 := by
    obtain ⟨A, hv, _, _, h2⟩ := hp
    unfold lenMax at h2; simpa using h2
  have HX := Lib.hid (And.intro h0 (And.intro hg (And.intro hS (And.intro hsv (And.intro hp (And.intro hlen IH))))))
  have hbox := Lib.hid hb
  obtain ⟨pA, pc, p0, p1, p2, pS⟩ := hb
  have p0 := fun w' (h : Ext W1 w') => h.cell p0
  have p1 := fun w' (h : Ext W1 w') => h.cell p1
  have p2 := fun w' (h : Ext W1 w') => h.cell p2
  have HP := Lib.hid (And.intro p0 (And.intro p1 (And.intro p2 pS)))
  have hE1 := Ext.refl W1
  have hw : IntKind.i64.wrap (x.ins + x.outs) = x.ins + x.outs := by rw [IntKind.wrap_i64]; omega
  have hfl : f ≤ 100000 := by omega
  have hf1 : IntKind.i64.wrap ((f : Int) + 1) = (f : Int) + 1 := by rw [IntKind.wrap_i64]; omega
  clear h0 hg hS hsv hp hlen IH pS
  go_upto_region 9 with fail
  refine wp_named ?_
  intro W2 hW2
  have HM := MkSt.start W1
  rw [← hW2] at HM
  have e2 := MkSt.ext HM
  have p0 := fun w' (h : Ext W2 w') => p0 w' (e2.trans h)
  have hE2 := Ext.refl W2
  have HM := Lib.hid HM
  have hsz1 := Lib.hid (Nat.le_refl W1.heap.size)
  clear hW2 e2 hE1 p1 p2
  obtain ⟨b10, hb10⟩ : ∃ b, b = W1.heap.size := ⟨_, rfl⟩
  rw [← hb10] at HM ⊢
  have HB10 := Lib.hid hb10
  clear hb10
  go_wp2
  clear p0 hE2
  go_loopw [11, 12] (fun v iv wr => ∃ (j : Nat) (nv : Value) (M : List (Nd × Value)), iv = .int .i64 (x.ins + (j : Int)) ∧ j ≤ x.O + 1 ∧ Hid (KidM x q S f W1.heap.size j M) ∧ Hid (MkSt W1 wr b10 nv (kidJ x q S f j).1 v M)) (fun _ iv _ => (x.ins + (x.O : Int) + 1 - intOf iv).toNat)
  case atStart => exact ⟨0, .slice none 0 0, [], by simp, by omega, Lib.hid ⟨rfl, fun z hz => by cases hz⟩, HM⟩
  case round =>
    clear HM
    obtain ⟨j, nv, M, rfl, hj, HK, HS⟩ := hrel
    obtain ⟨W5, hW5⟩ : ∃ W, W = wr := ⟨_, rfl⟩; subst hW5
    have hE5 := HS.out.ext
    have p0 := fun w' (h : Ext W5 w') => HP.out.1 w' (hE5.trans h)
    have p1 := fun w' (h : Ext W5 w') => HP.out.2.1 w' (hE5.trans h)
    have p2 := fun w' (h : Ext W5 w') => HP.out.2.2.1 w' (hE5.trans h)
    have hR5 := Ext.refl W5
    obtain ⟨c0', c1', f1', hrow, hrowN, _⟩ := HS.out.cells
    obtain ⟨A5, c5, rfl, hnc5, _⟩ := cells_of_owns hrowN
    have hsz := hE5.size
    have hii1 := hII.out.1.1
    have hii2 := hII.out.2.1
    by_cases hlt : j < x.O + 1
    · have hltI : x.ins + (j : Int) ≤ x.ins + x.outs := by omega
      have hkl := kidJ_len (x := x) (q := q) (S := S) (f := f) j
      have hkl2 := kidJ_len (x := x) (q := q) (S := S) (f := f) (j + 1)
      have hML := HK.out.len
      have hlen := HX.out.2.2.2.2.2.1
      have hMl : f + 1 + M.length ≤ 100000 := by omega
      have hjl : (kidJ x q S f j).1.length = j := kidJ_fst_len hj
      have hjO : j ≤ 17 := by have := hII.out.2.2; omega
      have hw2 : IntKind.i64.wrap ((f : Int) + 1 + (M.length : Int)) = (f : Int) + 1 + (M.length : Int) := by rw [IntKind.wrap_i64]; omega
      rw [hjl] at hrow
      have HL := Lib.hid (And.intro hkl2 hjl)
      have HEN := Lib.hid (And.intro hrowN hE5)
      have hnx := fun W' (e : Ext W1 W') => refNext_any W' _ sv x S cs (x.ins + (j : Int)) (HP.out.2.2.2.ext e) HX.out.2.1 HX.out.2.2.1 (HX.out.2.2.2.1.ext e) (by omega) hltI
      clear hkl hkl2 hML hlen hjl hrowN
      go_upto_region 14 with (first
        | (at_builtin; refine wpList_append_own2 rfl _ _ 30 rfl W1.heap.size 3 i3 (.int .i64 0) 1 8 Tryd.underlying30 hi3 hz3 hs3 hb3 rfl (by decide) nv j ((kidJ x q S f j).1.map (.int .i64)) rfl (World.ownsRow.alloc hrow _) ⟨W5.heap.size, 0, none⟩ 1 1 [.int .i64 ((f : Int) + 1 + (M.length : Int))] rfl rfl (new_cell _ _ _ _ rfl) (one_int _) (by unfold maxLen; omega) (by omega) (by simp; omega) ?_; intro v8 w8 hown8 hg8 hb8; obtain ⟨g8, cap8, rfl⟩ := ownsRow_pos hown8 (by omega); have hN8 := MkSt.next (y := (f : Int) + 1 + (M.length : Int)) (HS.out.trans (alloc_ext W5 (.cells #[.int .i64 ((f : Int) + 1 + (M.length : Int))] 3))) hg8 (by rw [HL.out.2]; exact hown8) hb8; obtain ⟨d1, df, hN8⟩ := hN8; have HN8 := Lib.hid hN8; clear hN8 hown8 hg8 hb8))
      refine wp_named ?_
      intro W7 hW7
      rw [← hW7] at HN8
      have hE7 := HN8.out.ext
      have hnx7 := hnx W7 hE7
      have p0 := fun w' (h : Ext W7 w') => HP.out.1 w' (hE7.trans h)
      have p1 := fun w' (h : Ext W7 w') => HP.out.2.1 w' (hE7.trans h)
      have p2 := fun w' (h : Ext W7 w') => HP.out.2.2.1 w' (hE7.trans h)
      have hR7 := Ext.refl W7
      have h63 : IntKind.i64.wrap (x.ins + (j : Int) + 1) = x.ins + (j : Int) + 1 := by rw [IntKind.wrap_i64]; omega
      obtain ⟨T, hT⟩ : ∃ T, aftM x S (x.ins + (j : Int)) = T := ⟨_, rfl⟩
      rw [hT] at hnx7
      have hTl : T < 2 ^ x.n := by rw [← hT]; exact aftM_lt HX.out.2.1 HX.out.2.2.1 _
      have hz := memI_zero T (HX.out.2.1.mask64 hTl)
      have HT := Lib.hid (And.intro hT hTl)
      have HKM : Hid ((kidJ x q S f (j + 1)).1 = (kidJ x q S f j).1 ++ [(f : Int) + 1 + (M.length : Int)]) := Lib.hid (by rw [kidJ_step hlt, HK.out.len]; simp)
      have HE7 := Lib.hid hE7
      clear hW7 d1 df hnx hT hTl hrow c0' c1' f1' hE5 hR5 hsz hE7
      by_cases h0 : T = 0
      · have g0 : (((memI T).length : Int) == 0) = true := by rw [hz, h0]; rfl
        have H0 := Lib.hid h0
        clear hz h0
        go_wp2_with (first
          | ((with_reducible refine hnx7.mono ?_); rintro e W8 ⟨rv2, c2, rfl, ⟨A2, rfl, hi2⟩, e8⟩; have hS8 := HN8.out.trans e8; have hrN := hS8.cells.2.2.2.2.1; have hsz8 := hS8.ext.size; have HS8 := Lib.hid hS8; clear hi2 e8 hS8)
          | (at_builtin; refine wpList_append_own2 rfl _ _ 48 rfl W1.heap.size 56 i56 (.agg #[.int .i64 0, .slice none 0 0]) 2 32 Tryd.underlying48 hi56 hz56 hs56 hb56 rfl (by decide) (.slice A5 M.length c5) M.length (ndsV M) rfl (World.ownsRow.alloc hrN _) ⟨W8.heap.size, 0, none⟩ 1 1 [.int .i64 (-3), .slice none 0 0] rfl rfl (new_cell2 _ _ _ _ _ rfl) (two_cells (-3)) (by unfold maxLen; omega) (by omega) (by simp; omega) ?_; intro v9 w9 hown9 hg9 hb9; have hS9 := HS8.out.sub (M1 := [(⟨-3, []⟩, .slice none 0 0)]) (alloc_ext W8 (.cells #[.int .i64 (-3), .slice none 0 0] 56)) (ndT_nil _ _) (fun z hz => by rw [List.mem_singleton.1 hz]; exact far_nil W8.heap.size 0 0) (Nat.le_refl _) hg9 hown9 hb9; have HS9 := Lib.hid hS9; clear hS9 hown9 hg9 hb9))
        go_roundw
        case rel => exact ⟨j + 1, _, M ++ [(⟨-3, []⟩, .slice none 0 0)], by go_num, by omega, Lib.hid (HK.out.put hlt (by unfold subT; rw [HT.out.1, if_pos H0.out]; rfl) (fun z hz => by rw [List.mem_singleton.1 hz]; exact far_nil _ 0 0)), Lib.hid (by rw [HKM.out]; exact HS9.out)⟩
        case measure => simp [intOf]; omega
      · have g0 : (((memI T).length : Int) == 0) = false := by rw [hz]; simpa using h0
        have H0 := Lib.hid h0
        clear hz h0
        go_upto_region 17 with ((with_reducible refine hnx7.mono ?_); rintro e W8 ⟨rv2, c2, rfl, ⟨A2, rfl, hi2⟩, e8⟩; have hS8 := HN8.out.trans e8; have HS8 := Lib.hid hS8; have hi2' : IntsC W8 (.slice A2 (memI T).length c2) (memI T) c2 := ⟨A2, rfl, hi2⟩; have E8 := e8; clear hS8 hi2 e8)
        have hE8 := HS8.out.ext
        have p0 := fun w' (h : Ext W8 w') => p0 w' (E8.trans h)
        have p1 := fun w' (h : Ext W8 w') => p1 w' (E8.trans h)
        have p2 := fun w' (h : Ext W8 w') => p2 w' (E8.trans h)
        have hR8 := Ext.refl W8
        have hsz8 := Lib.hid hE8.size
        have hb1 := cut_tail bp op q.length cp hcp
        have hpt := ints_tail HX.out.2.2.2.2.1
        obtain ⟨A', hA'⟩ : ∃ A' : Option Addr, A' = if cp = 1 then some ⟨bp, op, none⟩ else some ⟨bp, op + 1, none⟩ := ⟨_, rfl⟩
        rw [← hA'] at hpt
        simp only [← hA'] at hb1
        have hsub : subT x (mkT x q) S (f + 1 + M.length) (x.ins + (j : Int)) = mkT x q T (f + 1 + M.length) := by unfold subT; rw [HT.out.1, if_neg H0.out]
        have hsl : f + 1 + M.length + (mkT x q T (f + 1 + M.length)).length ≤ 100000 := by
          have h1 := HL.out.1
          have h2 := HX.out.2.2.2.2.2.1
          rw [kidJ_step hlt, List.length_append, ← HK.out.len, hsub] at h1
          omega
        have hih : ∀ W', Ext W8 W' → Calls Tryd.prog 25 #[.agg #[.int .i64 x.ins, .int .i64 x.outs, .slice pA x.rows.length pc], .slice A2 (memI T).length c2, .slice A' q.length (cp - 1), .int .i64 ((f : Int) + 1 + (M.length : Int))] W' (RMakeP W' (mkT x q T (f + 1 + M.length))) := fun W' e => by
          have h := HX.out.2.2.2.2.2.2 W' _ _ _ T c2 (cp - 1) (f + 1 + M.length) (HP.out.2.2.2.ext (hE8.trans e)) HT.out.2 (hi2'.ext e) (hpt.ext (hE8.trans e)) hsl
          rw [show ((f + 1 + M.length : Nat) : Int) = (f : Int) + 1 + (M.length : Int) by omega] at h
          exact h
        have hpos := mkT_pos x q T (f + 1 + M.length)
        have HSUB := Lib.hid (And.intro hsub (And.intro hsl hpos))
        clear hA' hsub hsl hpos hpt hi2' hE8
        refine wp_region_ext 11 (factsOf [(10, GiveN W8.heap.size (mkT x q T (f + 1 + M.length)))]) (fun k => ([[], [], [], [], [3], [], [5], [], [7], [5, 6, 7, 8], [1, 2, 3, 4, 5, 6, 7, 8, 9], [0, 1, 2, 3, 4, 5, 6, 7, 8, 9, 10], [0, 1, 2, 3, 4, 5, 6, 7, 8, 9, 10, 11]] : List (List Nat)).getD k []) (by kernel_rfl) (by kernel_rfl) Ext.pre (mono_cons (stays_giveN _ _) (mono_nil)) ?_
        simp only [List.take_succ_cons, List.take_zero]
        repeat (first | (with_reducible refine lexL_quiet' (v := ?_) ?_ ?_ ?_ ?_; rotate_left; (· with_reducible rfl); (· simp [factsOf]); (· intro w1 hw1 _; go_simp; with_reducible rfl); (try simp only [Act.put, List.setIfInBounds_toArray, List.set_cons_zero, List.set_cons_succ])) | (with_reducible refine lexL_skip ?_ ?_; (· simp [Region.wanted, yielded, undef]); (try simp only [Act.put, List.setIfInBounds_toArray, List.set_cons_zero, List.set_cons_succ])) | (with_reducible refine lexL_quiet (v := ?_) ?_ ?_ ?_ ?_; rotate_left; (· simp [Region.wanted, yielded, undef]); (· simp [factsOf]); (· intro w1 hw1 _; go_simp; with_reducible rfl); (try simp only [Act.put, List.setIfInBounds_toArray, List.set_cons_zero, List.set_cons_succ])))
        with_reducible refine lexL_give' (φ := ?_) ?_ ?_ ?_ ?_; rotate_left; (· with_reducible rfl); (· simp only [factsOf, Nat.reduceAdd, ↓reduceIte, Nat.reduceEqDiff]; rfl)
        · intro w5' hw5' _
          go_simp
          refine (hih w5' hw5').mono ?_
          rintro e w6 ⟨rv, c, rfl, hN, e6⟩
          obtain ⟨A9, rfl⟩ := hN.give
          exact ⟨_, rfl, e6, A9, c, rfl, hN.mono hw5'.size⟩
        rintro v9 w5' hw5' ⟨A9, c9, rfl, h9⟩ hk2
        clear hk2 h9 hw5' w5'
        (try simp only [Act.put, List.setIfInBounds_toArray, List.set_cons_zero, List.set_cons_succ])
        repeat (first | (with_reducible refine lexL_quiet' (v := ?_) ?_ ?_ ?_ ?_; rotate_left; (· with_reducible rfl); (· simp [factsOf]); (· intro w1 hw1 _; go_simp; with_reducible rfl); (try simp only [Act.put, List.setIfInBounds_toArray, List.set_cons_zero, List.set_cons_succ])) | (with_reducible refine lexL_skip ?_ ?_; (· simp [Region.wanted, yielded, undef]); (try simp only [Act.put, List.setIfInBounds_toArray, List.set_cons_zero, List.set_cons_succ])) | (with_reducible refine lexL_quiet (v := ?_) ?_ ?_ ?_ ?_; rotate_left; (· simp [Region.wanted, yielded, undef]); (· simp [factsOf]); (· intro w1 hw1 _; go_simp; with_reducible rfl); (try simp only [Act.put, List.setIfInBounds_toArray, List.set_cons_zero, List.set_cons_succ])))
        with_reducible refine lexL_nil ?_; intro w1 hw1 hk1; simp only [List.drop_succ_cons, List.drop_zero]
        obtain ⟨A9', c9', hv9, hN9⟩ := hk1.get 10 rfl rfl
        injection hv9 with hvA _ hvc
        subst hvA hvc
        obtain ⟨A, M9, hM9, hA9, hc9, hok9, hfar9, hl9, hm9, _⟩ := hN9
        injection hA9 with hA9 _ _
        subst hA9
        have hM9l : M9.length = (mkT x q T (f + 1 + M.length)).length := by rw [← hM9, List.length_map]
        obtain ⟨b9, o9, hA9, _, hcc9⟩ := hc9 (by rw [nds_len, hM9l]; have := HSUB.out.2.2; omega)
        subst hA9
        have hS1 := HS8.out.trans hw1
        have hrN := hS1.cells.2.2.2.2.1
        have hsz1' := hS1.ext.size
        have HW := Lib.hid (And.intro hw1 (And.intro hM9 (And.intro hok9 hfar9)))
        have h63b := HSUB.out.2.1
        have hnewl : (ndsV M9).length = (mkT x q T (f + 1 + M.length)).length * 2 := by rw [nds_len, hM9l]
        have hnews : ∀ j u, (ndsV M9)[j]? = some u → w1.cell? ((⟨b9, o9, none⟩ : Addr).add j) = some u := fun j u hj => by rw [Addr.add_lit]; exact hcc9 j u hj
        have hone := nds_one hok9.1
        rw [← hM9l] at hnewl h63b ⊢
        clear hk1 hw1 hS1 hM9 hok9 hfar9 hc9 hcc9 hM9l hih hb1 p0 p1 p2 hR8 hl9 hm9
        go_wp2_with (at_builtin; refine wpList_append_own2 rfl _ _ 48 rfl W1.heap.size 56 i56 (.agg #[.int .i64 0, .slice none 0 0]) 2 32 Tryd.underlying48 hi56 hz56 hs56 hb56 rfl (by decide) (.slice A5 M.length c5) M.length (ndsV M) rfl hrN ⟨b9, o9, none⟩ M9.length c9 (ndsV M9) rfl hnewl hnews hone (by unfold maxLen; omega) (by omega) hsz1' ?_; intro v10 w10 hown10 hg10 hb10; have hS10 := HS8.out.sub (M1 := M9) HW.out.1 HW.out.2.2.1 HW.out.2.2.2 (Nat.le_refl _) hg10 hown10 hb10; have HS10 := Lib.hid hS10; clear hS10 hown10 hg10 hb10)
        go_roundw
        case rel => exact ⟨j + 1, _, M ++ M9, by go_num, by omega, Lib.hid (HK.out.put hlt (by rw [HSUB.out.1]; exact HW.out.2.1) (fun z hz => (HW.out.2.2.2 z hz).mono hsz8.out)), Lib.hid (by rw [HKM.out]; exact HS10.out)⟩
        case measure => simp [intOf]; omega
    · obtain rfl : j = x.O + 1 := by omega
      have hltI : ¬ x.ins + ((x.O + 1 : Nat) : Int) ≤ x.ins + x.outs := by omega
      have hjl : (kidJ x q S f (x.O + 1)).1.length = x.O + 1 := kidJ_fst_len (Nat.le_refl _)
      have hML := HK.out.len
      have hkl := kidJ_len (x := x) (q := q) (S := S) (f := f) (x.O + 1)
      have hlen := HX.out.2.2.2.2.2.1
      have hMl : f + 1 + M.length ≤ 100000 := by omega
      have hMp : 1 ≤ M.length := by
        have h1 := kidJ_step (x := x) (q := q) (S := S) (f := f) (j := x.O) (by omega)
        have h2 := mkT_pos x q (aftM x S (x.ins + (x.O : Int))) (f + 1 + (kidJ x q S f x.O).2.length)
        rw [hML, h1, List.length_append]
        unfold subT
        split
        · simp
        · omega
      rw [hjl] at hrow
      obtain ⟨gk, capk, rfl⟩ := ownsRow_pos hrow (by omega)
      obtain ⟨gn, capn, hgn⟩ := ownsRow_pos hrowN hMp
      injection hgn with hgn _ hcn
      subst hgn hcn
      have HR := Lib.hid (And.intro hrow (And.intro hrowN hE5))
      have hE0 := HX.out.1.trans hE5
      have hcells : Cells (W5.alloc (.cells #[.int .i64 (-1), .slice (some ⟨gk, 0, none⟩) (x.O + 1) capk] 56)) (some ⟨W5.heap.size, 0, none⟩) [.int .i64 (-1), .slice (some ⟨gk, 0, none⟩) (x.O + 1) capk] := cells_blk (heap_alloc_new W5 _)
      have hnews : ∀ j u, (ndsV M)[j]? = some u → (W5.alloc (.cells #[.int .i64 (-1), .slice (some ⟨gk, 0, none⟩) (x.O + 1) capk] 56)).cell? ((⟨gn, 0, none⟩ : Addr).add j) = some u := fun j u hj => by
        rw [Addr.add_lit, Nat.zero_add]; exact (alloc_ext W5 _).cell (cell_at_own hrowN hj)
      have HE0 := Lib.hid hE0
      clear hrow hrowN hE5 hE0 f1' hML hkl hlen hsz
      go_wp2_with (at_builtin; go_loud (refine wpList_append_full2 rfl _ _ 48 rfl 56 i56 (.agg #[.int .i64 0, .slice none 0 0]) 2 32 Tryd.underlying48 hi56 hz56 hs56 hb56 (by decide) (some ⟨W5.heap.size, 0, none⟩) 1 [.int .i64 (-1), .slice (some ⟨gk, 0, none⟩) (x.O + 1) capk] rfl rfl hcells (fun h => by cases h) ⟨gn, 0, none⟩ M.length c5 (ndsV M) rfl (nds_len M) hnews (by omega) (by unfold maxLen; omega) (by omega) ?_); intro c9 w9 e9 hc9 hn9 hd9; rw [show (W5.alloc (.cells #[.int .i64 (-1), .slice (some ⟨gk, 0, none⟩) (x.O + 1) capk] 56)).heap.size = W5.heap.size + 1 by simp] at hc9 hd9; have H9 := Lib.hid (And.intro ((alloc_ext W5 (.cells #[.int .i64 (-1), .slice (some ⟨gk, 0, none⟩) (x.O + 1) capk] 56)).trans e9) (And.intro hc9 (And.intro hn9 hd9))); clear e9 hc9 hn9 hd9)
      go_ret
      have hmk := kidJ_all x q S f
      have hlm : (mkT x (-1 :: q) S f).length = 1 + M.length := by rw [hmk, List.length_cons, HK.out.len]; omega
      refine ⟨_, c9, rfl, ⟨_, ((⟨-1, (kidJ x q S f (x.O + 1)).1⟩, .slice (some ⟨gk, 0, none⟩) (x.O + 1) capk) : Nd × Value) :: M, by rw [List.map_cons, HK.out.map, hmk], by rw [hlm]; rfl, H9.out.2.1, NdT.cons ?_ ?_ (ndT_ext HS.out.cells.2.2.2.2.2 H9.out.1), fun z hz => ?_, by rw [hlm]; exact H9.out.2.2.1, by rw [hlm]; unfold lenMax; omega, ?_⟩, HE0.out.trans H9.out.1⟩
      · exact kid_ints (ownsRow_ext HR.out.1 H9.out.1) hjl (by unfold lenMax; omega)
      · exact fun b o n c e hn => by
          cases e
          exact own_type3 (ownsRow_ext HR.out.1 H9.out.1) _ rfl
      · rcases List.mem_cons.1 hz with rfl | hz
        · exact far_at (Nat.le_trans HX.out.1.size (HR.out.1.lt gk rfl).1) _ _ _
        · exact (HK.out.far z hz).mono HX.out.1.size
      · obtain ⟨cs, hd⟩ := H9.out.2.2.2
        exact ⟨_, cs, rfl, Nat.le_trans HE0.out.size (Nat.le_succ _), hd⟩
end Go.Proofs.YtamodjlifpjaoaaDoor
