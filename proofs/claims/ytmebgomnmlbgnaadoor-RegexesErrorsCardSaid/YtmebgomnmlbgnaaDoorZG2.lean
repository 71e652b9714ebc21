
import Derived.Test.YtmebgomnmlbgnaaDoorZS
import Derived.Test.YtmebgomnmlbgnaaDoorZO
set_option linter.unnecessarySimpa false
set_option linter.unusedSectionVars false
namespace Go.Proofs.YtmebgomnmlbgnaaDoor
open Go.RowKit Go.Maps
set_option linter.unusedVariables false
set_option linter.unusedSimpArgs false
attribute [local go_sem] Oper.quietV quietV Oper.gives givesV ext_refl_iff ext_alloc_iff ext_drew_iff ext_drewN_iff
attribute [local go_sem] RI.Oper.gives RI.givesV
noncomputable def T78 (n : Nat) : Code := textR n Tryd.f78.body
structure RawOk (m : Nat) (D : DN) : Prop where
  pos : 0 < D.rows.length
  le : D.rows.length ≤ 1024
  acc : D.acc.length = D.rows.length
  row : ∀ r ∈ D.rows, r.length = m ∧ ∀ x ∈ r, x < D.rows.length
theorem OwnL.base {w w6 W : World} {L : List Asn} {b : Nat} {o : Obj} (h : OwnL w6 W L) (e : Ext w w6) (hb : w.heap.size ≤ b) (ho : w6.heap[b]? = some o) : OwnL w W (.blk b o :: L) :=
  ⟨e.trans h.ext, fun A hA => by
    rcases List.mem_cons.1 hA with rfl | hA
    · exact ⟨hb, heap_ext h.ext ho⟩
    · exact Asn.mono (h.ok A hA) e.size, List.pairwise_cons.2 ⟨fun B hB c hc hc' => by
    cases hc
    have := (Asn.lt (h.ok B hB) hc').1
    have := lt_of_block ho
    omega, h.apart⟩⟩
theorem OwnL.done {w W : World} {L : List Asn} {e s g n c : Nat} {xs : List Value} (h : OwnL w W (.row e s (.slice (some ⟨g, 0, none⟩) n c) n xs :: L)) : ∃ cs, cs.toList.take (n * s) = xs ∧ OwnL w W (.blk g (.cells cs e (0, 0)) :: L) := by
  have h1 : W.ownsRow w.heap.size e s (.slice (some ⟨g, 0, none⟩) n c) n xs := h.get 0 rfl
  rcases h1.2 with ⟨hv, _⟩ | ⟨g', cap, cur, hv, hb, hg, h2, h3, h4, h5⟩
  · cases hv
  · cases hv
    refine ⟨cur, h5, h.ext, fun A hA => ?_, ?_⟩
    · rcases List.mem_cons.1 hA with rfl | hA
      · exact ⟨hb, hg⟩
      · exact h.ok A (by simp [hA])
    · have hp := List.pairwise_cons.1 h.apart
      exact List.pairwise_cons.2 ⟨fun B hB b hb' => by cases hb'; exact hp.1 B hB g rfl, hp.2⟩
theorem cells_take {W : World} {g t k : Nat} {cs : Array Value} {xs : List Value} (h : W.heap[g]? = some (.cells cs t (0, 0))) (hx : cs.toList.take k = xs) : Cells W (some ⟨g, 0, none⟩) xs := fun hn => by
  obtain ⟨b, o, hA, hlt, hc⟩ := cells_blk h (by rw [← hx] at hn; simp at hn ⊢; omega)
  refine ⟨b, o, hA, hlt, fun j u hj => hc j u ?_⟩
  rw [← hx] at hj
  rw [List.getElem?_take] at hj
  split at hj
  · exact hj
  · cases hj
theorem own_cap {W : World} {B e s n c g : Nat} {xs : List Value} (h : W.ownsRow B e s (.slice (some ⟨g, 0, none⟩) n c) n xs) : n ≤ c ∧ c ≤ maxLen := by
  rcases h.2 with ⟨hv, _⟩ | ⟨g', cap, cur, hv, hb, hg, h2, h3, h4, h5⟩
  · cases hv
  · cases hv; exact ⟨h2, h3⟩
def clsR (D : DN) (cl : List Int) (s : Nat) : List Int := (D.rows.getD s []).map (fun t => cl.getD t 0)
def rowA (D : DN) (cl : List Int) (m s : Nat) : Nat × List Value := (m, (clsR D cl s).map (.int .i64))
theorem pickF_at (cl : List Int) (i : Nat) : ∀ s ∈ pickF cl i, s < i := by
  induction i with
  | zero => intro s h; cases h
  | succ i ih =>
    intro s h
    unfold pickF at h
    split at h
    · rcases List.mem_append.1 h with h | h
      · have := ih s h; omega
      · simp at h; omega
    · have := ih s h; omega
theorem clsR_len {m : Nat} {D : DN} (h : RawOk m D) (cl : List Int) {s : Nat} (hs : s < D.rows.length) : (clsR D cl s).length = m := by
  unfold clsR
  rw [List.length_map]
  have e : D.rows.getD s [] = D.rows[s] := by simp [List.getD, List.getElem?_eq_getElem hs]
  rw [e]
  exact (h.row _ (List.getElem_mem hs)).1
theorem quo_rows {m : Nat} {D : DN} (h : RawOk m D) {cl : List Int} (hc : ∀ c ∈ cl, 0 ≤ c ∧ c ≤ 100000) (P : List Nat) (hP : ∀ s ∈ P, s < D.rows.length) : P.map (rowA D cl m) = (intR (quoN D cl P).rows).map iRow := by
  unfold intR quoN
  simp only [List.map_map]
  refine List.map_congr_left (fun s hs => ?_)
  have e : ∀ t, (((cl.getD t 0).toNat : Nat) : Int) = cl.getD t 0 := fun t => by
    by_cases ht : t < cl.length
    · have := hc cl[t] (List.getElem_mem ht)
      simp [List.getD, List.getElem?_eq_getElem ht]; omega
    · simp [List.getD, List.getElem?_eq_none (Nat.le_of_not_lt ht)]
  have e2 : ((fun x : List Nat => x.map Int.ofNat) ∘ fun s => (D.rows.getD s []).map (fun t => (cl.getD t 0).toNat)) s = clsR D cl s := by
    simp only [Function.comp, List.map_map]
    unfold clsR
    refine List.map_congr_left (fun t _ => ?_)
    exact e t
  show rowA D cl m s = iRow (((fun x : List Nat => x.map Int.ofNat) ∘ fun s => (D.rows.getD s []).map (fun t => (cl.getD t 0).toNat)) s)
  rw [e2]
  unfold rowA iRow
  rw [clsR_len h cl (hP s hs)]
set_option maxRecDepth 100000 in
theorem clip108_any (w : World) (g n c : Nat) (hn : n ≤ c) (hc : c ≤ lenMax) : Calls Tryd.prog 108 #[.slice (some ⟨g, 0, none⟩) n c] w fun e w' => e = .returned (.slice (some ⟨g, 0, none⟩) n n) ∧ w' = w := by
  unfold lenMax at hc
  go_enter Tryd.func108, Tryd.ntmps108
  go_wp2
  go_ret
  exact ⟨rfl, rfl⟩
set_option maxRecDepth 100000 in
theorem clip109_any (w : World) (g n c : Nat) (hn : n ≤ c) (hc : c ≤ lenMax) : Calls Tryd.prog 109 #[.slice (some ⟨g, 0, none⟩) n c] w fun e w' => e = .returned (.slice (some ⟨g, 0, none⟩) n n) ∧ w' = w := by
  unfold lenMax at hc
  go_enter Tryd.func109, Tryd.ntmps109
  go_wp2
  go_ret
  exact ⟨rfl, rfl⟩
theorem lists_clip {w : World} {A : Option Addr} {n c : Nat} {rows : List (List Int)} (h : ListsC w (.slice A n c) rows c) : ListsC w (.slice A n n) rows rows.length := by
  obtain ⟨A', vs, hv, hc, hl, hr, h1, h2⟩ := h
  cases hv
  exact ⟨A, vs, rfl, hc, hl, hr, Nat.le_refl _, h2⟩
theorem OwnL.drop3 {w W : World} {A B C : Asn} (h : OwnL w W [A, B, C]) : OwnL w W [A, B] := (h.perm (L' := [C, A, B]) (List.perm_middle (l₁ := [A, B]))).drop
theorem min_fin {m : Nat} {D : DN} {w w' : World} {e : Ending} {rv : Value} {g : Nat} {cs : Array Value} {S : Nat → Prop} (h : OwnL w w' [.any S (fun W => ListsC W rv (intR D.rows) D.rows.length), .blk g (.cells cs 4)]) (hc : cs.toList.take D.acc.length = D.acc.map .bool)
    (he : e = .returned (.tuple #[.agg #[.int .i64 (m : Int), rv, .slice (some ⟨g, 0, none⟩) D.acc.length D.acc.length], .int .i64 0])) : MinP m (some D) w e w' := ⟨rv, g, cs, S, he, hc, h⟩
abbrev zDfa : Obj := .cells #[.int .i64 0, .slice none 0 0, .slice none 0 0] 28
set_option maxRecDepth 100000 in
set_option maxHeartbeats 16000000 in
theorem min_t27 (w W : World) (m : Nat) (D : DN) (cl : List Int) (b2 b4 cr ca cc : Nat) (rv av cv : Value) (c0 c3 c5 c7 c8 c9 c10 c11 c12 c13 c14 c15 c16 c17 c18 c19 c20 c21 c22 c23 c24 c25 c26 c27 c28 c29 c30 c31 c32 c33 c34 c35 c36 c37 c38 c39 c40 c41 c42 c43 c44 c45 c46 c47 c48 c49 c50 c51 c52 c53 c54 c55 c56 c57 c58 c59 c60 c61 c62 c63 c64 c65 c66 c67 c68 c69 c70 c71 c72 c73 c74 c75 c76 c77 c78 c79 c80 c81 c82 c83 c84 c85 c86 c87 c88 c89 c90 c91 c92 c93 c94 c95 c96 c97 c98 c99 c100 c101 c102 c103 c104 c105 c106 c107 c108 c109 c110 c111 c112 c113 c114 c115 c116 c117 c118 c119 c120 c121 c122 c123 c124 c125 c126 c127 c128 c129 c130 c131 c132 c133 c134 c135 c136 c137 c138 c139 c140 c141 c142 c143 c144 c145 c146 c147 c148 c149 c150 c151 c152 c153 c154 c155 c156 c157 c158 c159 c160 c161 c162 c163 c164 c165 : Value) (r : Option DN)
    (hE : Ext w W) (hm : m ≤ 16) (hB2 : W.heap[b2]? = some (.cells #[rv, av] 109 (0, 0))) (hB4 : w.heap.size ≤ b4 ∧ W.heap[b4]? = some (.cells #[.int .i64 0, .slice none 0 0, .slice none 0 0] 28 (0, 0)))
    (hR : ListsC W rv (intR D.rows) cr) (hA : BoolsC W av D.acc ca) (hC : IntsC W cv cl cc) (hD : RawOk m D) (hcl : cl.length = D.rows.length ∧ ∀ c ∈ cl, 0 ≤ c ∧ c ≤ 100000)
    (hpos : 0 < (pickF cl D.rows.length).length) (hr : r = if (pickF cl D.rows.length).length ≤ 256 then some (quoN D cl (pickF cl D.rows.length)) else none) :
    Code.wp Tryd.prog (T78 27) (bodyPost Tryd.prog Tryd.f78 (MinP m r w)) ⟨(c0 :: .int .i64 (m : Int) :: .pointer (some ⟨b2, 0, none⟩) :: c3 :: .pointer (some ⟨b4, 0, none⟩) :: c5 :: cv :: c7 :: c8 :: c9 :: c10 :: c11 :: c12 :: c13 :: c14 :: c15 :: c16 :: c17 :: c18 :: c19 :: c20 :: c21 :: c22 :: c23 :: c24 :: c25 :: c26 :: c27 :: c28 :: c29 :: c30 :: c31 :: c32 :: c33 :: c34 :: c35 :: c36 :: c37 :: c38 :: c39 :: c40 :: c41 :: c42 :: c43 :: c44 :: c45 :: c46 :: c47 :: c48 :: c49 :: c50 :: c51 :: c52 :: c53 :: c54 :: c55 :: c56 :: c57 :: c58 :: c59 :: c60 :: c61 :: c62 :: c63 :: c64 :: c65 :: c66 :: c67 :: c68 :: c69 :: c70 :: c71 :: c72 :: c73 :: c74 :: c75 :: c76 :: c77 :: c78 :: c79 :: c80 :: c81 :: c82 :: c83 :: c84 :: c85 :: c86 :: c87 :: c88 :: c89 :: c90 :: c91 :: c92 :: c93 :: c94 :: c95 :: c96 :: c97 :: c98 :: c99 :: c100 :: c101 :: c102 :: c103 :: c104 :: c105 :: c106 :: c107 :: c108 :: c109 :: c110 :: c111 :: c112 :: c113 :: c114 :: c115 :: c116 :: c117 :: c118 :: c119 :: c120 :: c121 :: c122 :: c123 :: c124 :: c125 :: c126 :: c127 :: c128 :: c129 :: c130 :: c131 :: c132 :: c133 :: c134 :: c135 :: c136 :: c137 :: c138 :: c139 :: c140 :: c141 :: c142 :: c143 :: c144 :: c145 :: c146 :: c147 :: c148 :: c149 :: c150 :: c151 :: c152 :: c153 :: c154 :: c155 :: c156 :: c157 :: c158 :: c159 :: c160 :: c161 :: c162 :: c163 :: c164 :: c165 :: []).toArray, []⟩ W := by
  conv => arg 2; whnf
  have hlen : (intR D.rows).length = D.rows.length := by simp [intR]
  obtain ⟨bR, oR, u0, c0', hv, -⟩ := hR.at_ (k := 0) (by rw [hlen]; exact hD.pos)
  rw [hlen] at hv
  subst hv
  obtain ⟨Ac, hcv, hcc, -⟩ := id hC
  obtain ⟨bc, oc, hAc, -⟩ := hcc.at_int (k := 0) (by rw [hcl.1]; exact hD.pos)
  subst hAc
  rw [hcl.1] at hcv
  subst hcv
  obtain ⟨ga, oa, hva, -⟩ := bools_row hA (s := 0) (by rw [hD.acc]; exact hD.pos)
  subst hva
  have hn := hD.le
  have HW := Lib.hid (And.intro hE (And.intro hB4 (And.intro hR (And.intro hA (And.intro hcc (And.intro hD (And.intro hcl hr)))))))
  clear hE hB4 hR hA hC hcc hD hcl hr hlen
  go_upto_region 28 with (with_reducible refine wpList_store_blk _ rfl 28 _ _ rfl W.heap.size 28 #[.int .i64 (m : Int), .slice none 0 0, .slice none 0 0] _ rfl rfl (heap_alloc_new _ _) (by kernel_rfl) (by kernel_rfl) (by kernel_rfl) ?_; intro w5 h5 g5)
  obtain ⟨b19, hb19⟩ : ∃ b, b = W.heap.size := ⟨_, rfl⟩
  have hE5 : Ext W w5 := Below.grown (alloc_ext _ _) g5 (alloc_ext W _).size (fun k hk => by cases hk; exact Nat.le_refl _)
  rw [← hb19] at h5 ⊢
  have hO5 : OwnL W w5 [.rows 42 3 1 (.slice none 0 0) [] [], .row 4 1 (.slice none 0 0) 0 [], .blk b19 (.cells #[.int .i64 (m : Int), .slice none 0 0, .slice none 0 0] 28)] := by
    have h1 := (OwnL.nil (Ext.refl W)).add hE5 (A := .blk b19 (.cells #[.int .i64 (m : Int), .slice none 0 0, .slice none 0 0] 28)) ⟨by rw [hb19]; exact Nat.le_refl _, h5⟩
    have h2 := h1.add (Ext.refl _) (A := .row 4 1 (.slice none 0 0) 0 []) (World.ownsRow_nil _ _ _ _)
    exact h2.add (Ext.refl _) (A := .rows 42 3 1 (.slice none 0 0) [] []) (OwnRows.empty _ _ _ _ _)
  have HO5 : Hid (∃ vs rw_ aw, vs.length = (pickF cl 0).length ∧ OwnL W w5 [.rows 42 3 1 rw_ vs ((pickF cl 0).map (rowA D cl m)), .row 4 1 aw ((pickF cl 0).map D.ac).length (((pickF cl 0).map D.ac).map .bool), .blk b19 (.cells #[.int .i64 (m : Int), rw_, aw] 28)]) := Lib.hid ⟨[], _, _, rfl, hO5⟩
  have k2 := fun w' (e : Ext W w') => e.cell (cell_of_blk hB2 0 (u := .slice (some ⟨bR, oR, none⟩) D.rows.length cr) rfl)
  have k3 := fun w' (e : Ext W w') => e.cell (cell_of_blk hB2 1 (u := .slice (some ⟨ga, oa, none⟩) D.acc.length ca) rfl)
  have HK := Lib.hid (And.intro k2 k3)
  have k2 := k2 w5 hE5
  have HB2 := Lib.hid hB2
  clear h5 g5 hO5 hb19 hE5 k3 hB2
  go_wp2
  clear k2
  go_loopw [105] (fun iv wr => ∃ i : Nat, iv = .int .i64 i ∧ i ≤ D.rows.length ∧ Hid (∃ vs rw_ aw, vs.length = (pickF cl i).length ∧ OwnL W wr [.rows 42 3 1 rw_ vs ((pickF cl i).map (rowA D cl m)), .row 4 1 aw ((pickF cl i).map D.ac).length (((pickF cl i).map D.ac).map .bool), .blk b19 (.cells #[.int .i64 (m : Int), rw_, aw] 28)])) (fun iv _ => D.rows.length - (intOf iv).toNat)
  case atStart => exact ⟨0, rfl, Nat.zero_le _, HO5⟩
  case round =>
    clear HO5
    obtain ⟨i, rfl, hi, HO⟩ := hrel
    obtain ⟨W6, hW6⟩ : ∃ W, W = wr := ⟨_, rfl⟩; subst hW6
    obtain ⟨vs, rw_, aw, hvl, hO⟩ := HO.out
    have hpl : (pickF cl i).length ≤ i := by
      have : ∀ i, (pickF cl i).length ≤ i := fun i => by
        induction i with
        | zero => simp [pickF]
        | succ i ih => unfold pickF; split <;> first | (simp; omega) | omega
      exact this i
    have hD := HW.out.2.2.2.2.2.1
    by_cases hlt : i < D.rows.length
    · have hltI : (i : Int) < (D.rows.length : Int) := by omega
      have hltA : (i : Int) < (D.acc.length : Int) := by rw [hD.acc]; omega
      have hil : i < (intR D.rows).length := by simpa [intR] using hlt
      obtain ⟨bR', oR', u, c', hv, _, q1, hi1⟩ := HW.out.2.2.1.at_ hil
      rw [show (intR D.rows).length = D.rows.length by simp [intR]] at hv
      cases hv
      have q1 := hO.ext.cell q1
      have hrow : (intR D.rows)[i] = (D.rows.getD i []).map Int.ofNat := by simp [intR, List.getD, List.getElem?_eq_getElem hlt]
      rw [hrow] at hi1
      have hrl : (D.rows.getD i []).length = m ∧ ∀ x ∈ D.rows.getD i [], x < D.rows.length := by
        have e : D.rows.getD i [] = D.rows[i] := by simp [List.getD, List.getElem?_eq_getElem hlt]
        rw [e]; exact hD.row _ (List.getElem_mem hlt)
      obtain ⟨A2, hu2, hi2, _, _⟩ := hi1
      rw [List.length_map, hrl.1] at hu2
      subst hu2
      have hcle : i < cl.length := by rw [HW.out.2.2.2.2.2.2.1.1]; exact hlt
      obtain ⟨bc', oc', hAc, _, q2⟩ := HW.out.2.2.2.2.1.at_int hcle
      cases hAc
      have hcg : cl[i] = cl.getD i 0 := by simp [List.getD, List.getElem?_eq_getElem hcle]
      rw [hcg] at q2
      obtain ⟨z, hz⟩ : ∃ z, z = cl.getD i 0 := ⟨_, rfl⟩
      rw [← hz] at q2
      have HZ := Lib.hid hz
      obtain ⟨k, hk⟩ : ∃ k, k = (pickF cl i).length := ⟨_, rfl⟩
      obtain ⟨A1, c1, hrv, _, _⟩ := cells_of_owns (show W6.ownsRow W.heap.size 42 1 rw_ vs.length vs from (hO.get 0 rfl : OwnRows W6 W.heap.size 42 3 1 rw_ vs ((pickF cl i).map (rowA D cl m))).own)
      rw [hvl, ← hk] at hrv
      subst hrv
      have q3 := fun w' (e : Ext W6 w') => e.cell (cell_of_blk (hO.blkAt 2 rfl) 1 (u := .slice A1 k c1) rfl)
      have q2 := fun w' (e : Ext W6 w') => (hO.ext.trans e).cell q2
      have HI := Lib.hid (And.intro hi2 (And.intro hrl (And.intro hk (And.intro hvl (And.intro hO hpl)))))
      clear hi2 hrl hk hvl hO hpl hcg hz hrow hil hD HO
      by_cases hzk : z = (k : Int)
      · subst hzk
        have HP : Hid (pickF cl (i + 1) = pickF cl i ++ [i]) := Lib.hid (by
          show (if cl.getD i 0 = ((pickF cl i).length : Int) then _ else _) = _
          rw [if_pos (by rw [← HZ.out, HI.out.2.2.1])])
        have hne : ((k : Int) != (k : Int)) = false := by simp
        --[a
        go_upto_region 31 with fail
        refine wp_region_ext 7 (factsOf []) (fun k => ([[], [], [0, 1], [0, 1, 2], [], [4], [4, 5], [0, 1, 2, 3, 4, 5, 6]] : List (List Nat)).getD k []) (by kernel_rfl) (by kernel_rfl) Ext.pre (mono_nil) ?_
        simp only [List.take_succ_cons, List.take_zero]
        repeat (first | (with_reducible refine lexL_quiet' (v := ?_) ?_ ?_ ?_ ?_; rotate_left; (· with_reducible rfl); (· simp [factsOf]); (· intro w1 hw1 _; go_simp; with_reducible rfl); (try simp only [Act.put, List.setIfInBounds_toArray, List.set_cons_zero, List.set_cons_succ])) | (with_reducible refine lexL_skip ?_ ?_; (· simp [Region.wanted, yielded, undef]); (try simp only [Act.put, List.setIfInBounds_toArray, List.set_cons_zero, List.set_cons_succ])) | (with_reducible refine lexL_quiet (v := ?_) ?_ ?_ ?_ ?_; rotate_left; (· simp [Region.wanted, yielded, undef]); (· simp [factsOf]); (· intro w1 hw1 _; go_simp; with_reducible rfl); (try simp only [Act.put, List.setIfInBounds_toArray, List.set_cons_zero, List.set_cons_succ])))
        with_reducible refine lexL_nil ?_; intro w1 hw1 hk1; simp only [List.drop_succ_cons, List.drop_zero]
        have HW1 := Lib.hid hw1
        clear q1 hw1 q2 q3 hne hk1
        have hmk := mk_ints m (by omega)
        go_upto_region 33 with fail
        refine wp_named ?_
        intro W7 hW7
        have hO7 : OwnL W W7 [.row 3 1 (.slice (some ⟨w1.heap.size, 0, none⟩) m m) m (nxC m (clsR D cl i) 0), .rows 42 3 1 (.slice A1 k c1) vs ((pickF cl i).map (rowA D cl m)), .row 4 1 aw ((pickF cl i).map D.ac).length (((pickF cl i).map D.ac).map .bool), .blk b19 (.cells #[.int .i64 (m : Int), .slice A1 k c1, aw] 28)] := by
          rw [hW7]
          exact (HI.out.2.2.2.2.1.trans HW1.out).add (alloc_ext _ _) (A := .row 3 1 (.slice (some ⟨w1.heap.size, 0, none⟩) m m) m (List.replicate m (.int .i64 0))) (own_new _ _ 3 m (by omega))
        have HO7 := Lib.hid hO7
        have hRl := clsR_len HW.out.2.2.2.2.2.1 cl hlt
        clear hW7 hO7 hmk
        obtain ⟨bt, hbt⟩ : ∃ b, b = w1.heap.size := ⟨_, rfl⟩
        rw [← hbt] at HO7 ⊢
        clear hbt
        obtain ⟨R, hR⟩ : ∃ R, R = clsR D cl i := ⟨_, rfl⟩
        rw [← hR] at HO7 hRl
        have HR := Lib.hid (And.intro hR hRl)
        clear hR hRl
        go_wp2
        go_loopw [122] (fun iv wr => ∃ x : Nat, iv = .int .i64 x ∧ x ≤ m ∧ Hid (OwnL W wr [.row 3 1 (.slice (some ⟨bt, 0, none⟩) m m) m (nxC m R x), .rows 42 3 1 (.slice A1 k c1) vs ((pickF cl i).map (rowA D cl m)), .row 4 1 aw ((pickF cl i).map D.ac).length (((pickF cl i).map D.ac).map .bool), .blk b19 (.cells #[.int .i64 (m : Int), .slice A1 k c1, aw] 28)])) (fun iv _ => m - (intOf iv).toNat)
        case atStart => exact ⟨0, rfl, Nat.zero_le _, HO7⟩
        case round =>
          clear HO7
          obtain ⟨x, rfl, hx, HO⟩ := hrel
          obtain ⟨W8, hW8⟩ : ∃ W, W = wr := ⟨_, rfl⟩; subst hW8
          by_cases hxm : x < m
          · have hxI : (x : Int) < (m : Int) := by omega
            obtain ⟨hxr, t, htd, htn, htc⟩ : ∃ hxr : x < (D.rows.getD i []).length, ∃ t, (D.rows.getD i [])[x] = t ∧ t < D.rows.length ∧ t < cl.length := by
              have hxr : x < (D.rows.getD i []).length := by rw [HI.out.2.1.1]; exact hxm
              refine ⟨hxr, _, rfl, HI.out.2.1.2 _ (List.getElem_mem hxr), ?_⟩
              rw [HW.out.2.2.2.2.2.2.1.1]; exact HI.out.2.1.2 _ (List.getElem_mem hxr)
            have htI : (t : Int) < (D.rows.length : Int) := by omega
            obtain ⟨b5, o5, hA5, _, p1⟩ := HI.out.1.at_int (k := x) (by rw [List.length_map]; exact hxr)
            subst hA5
            have hpx : ((D.rows.getD i []).map Int.ofNat)[x]'(by rw [List.length_map]; exact hxr) = (t : Int) := by rw [List.getElem_map, htd]; rfl
            rw [hpx] at p1
            obtain ⟨bc'', oc'', hAc, _, p2⟩ := HW.out.2.2.2.2.1.at_int htc
            cases hAc
            have hRx : R[x]? = some cl[t] := by
              rw [HR.out.1]; unfold clsR
              rw [List.getElem?_map, List.getElem?_eq_getElem hxr, htd]
              simp [List.getD, List.getElem?_eq_getElem htc]
            obtain ⟨y, hy⟩ : ∃ y, y = cl[t] := ⟨_, rfl⟩
            rw [← hy] at p2 hRx
            have p1 := HO.out.ext.cell p1
            have p2 := HO.out.ext.cell p2
            have s0 := cell_own HO.out 0 rfl (nxC_at HR.out.2 hxm)
            have sf := free_own (e := 3) HO.out 0 rfl x
            have hst := HO.out.store 0 rfl x (.int .i64 y)
            rw [nxC_set HR.out.2 hxm hRx] at hst
            have HST := Lib.hid hst
            clear hst hRx hy htd hpx HO
            go_wp2
            go_roundw
            case rel => exact ⟨x + 1, by go_num, by omega, HST⟩
            case measure => simp [intOf]; omega
          · have hxe : x = m := by omega
            subst hxe
            have hxI : ¬ (x : Int) < (x : Int) := by omega
            have hO := HO.out
            rw [nxC_all HR.out.2] at hO
            obtain ⟨acs, hacs⟩ : ∃ a, a = (pickF cl i).map D.ac := ⟨_, rfl⟩
            obtain ⟨rs, hrs⟩ : ∃ a, a = (pickF cl i).map (rowA D cl x) := ⟨_, rfl⟩
            obtain ⟨xs, hxs⟩ : ∃ a, a = R.map (Value.int .i64) := ⟨_, rfl⟩
            rw [← hacs, ← hrs, ← hxs] at hO
            have hal : acs.length = k := by rw [hacs, List.length_map, HI.out.2.2.1]
            have hkl : k ≤ 1024 := by rw [HI.out.2.2.1]; have := HI.out.2.2.2.2.2; omega
            have HAX := Lib.hid (And.intro hacs (And.intro hrs (And.intro hxs hal)))
            have HOL := Lib.hid hO
            have hacI := (HW.out.2.2.2.1)
            have hiA : i < D.acc.length := by rw [HW.out.2.2.2.2.2.1.acc]; exact hlt
            obtain ⟨ga', oa', hva, q9⟩ := bools_row hacI hiA
            cases hva
            have HQ9 := Lib.hid q9
            have hvk : Hid (vs.length = k) := Lib.hid (by rw [HI.out.2.2.2.1, HI.out.2.2.1])
            clear hacs hrs hxs hO hacI q9 hal HO
            go_upto_region 38 with fail
            refine RI.wp_region_inv 15 (J38 W (.slice (some ⟨bt, 0, none⟩) x x) (.slice A1 k c1) aw x xs vs rs acs (D.ac i) [.blk b19 (.cells #[.int .i64 (x : Int), .slice A1 k c1, aw] 28)]) (fun k => [3, 4, 12, 13].contains k) (fun k => ([[], [0], [], [2], [0, 1, 2, 3], [], [5], [], [7], [], [7, 8, 9], [7, 8, 9, 10], [7, 8, 9, 10, 11], [0, 1, 2, 3, 4, 5, 6, 7, 8, 9, 10, 11, 12], [0, 1, 2, 3, 4, 5, 6], [0, 1, 2, 3, 4, 5, 6, 7, 8, 9, 10, 11, 12, 13, 14], [0, 1, 2, 3, 4, 5, 6, 7, 8, 9, 10, 11, 12, 13, 14, 15], [0, 1, 2, 3, 4, 5, 6, 7, 8, 9, 10, 11, 12, 13, 14, 15, 16]] : List (List Nat)).getD k []) (by kernel_rfl) (by kernel_rfl) ?_ ?_
            rotate_left; simp only [List.take_succ_cons, List.take_zero]; rotate_left
            · exact J38.start (HOL.out.trans (Ext.refl _).drew)
            with_reducible refine RI.lexL_quiet' (v := ?_) ?_ ?_ ?_ ?_; rotate_left; (· with_reducible rfl); (· decide); (· intro G w1 hI1 hA1; have hw1 := hI1.ext; go_simp; with_reducible rfl); (try simp only [Act.put, List.setIfInBounds_toArray, List.set_cons_zero, List.set_cons_succ])
            with_reducible refine RI.lexL_quiet' (v := ?_) ?_ ?_ ?_ ?_; rotate_left; (· with_reducible rfl); (· decide); (· intro G w1 hI1 hA1; have q0 := cell_of_blk (hI1.own.blkAt 5 rfl) 1 (u := .slice A1 k c1) rfl; have q1 := cell_of_blk (hI1.own.blkAt 5 rfl) 2 (u := aw) rfl; go_simp; with_reducible rfl)
            (try simp only [Act.put, List.setIfInBounds_toArray, List.set_cons_zero, List.set_cons_succ])
            with_reducible refine RI.lexL_quiet' (v := ?_) ?_ ?_ ?_ ?_; rotate_left; (· with_reducible rfl); (· decide); (· intro G w1 hI1 hA1; have hw1 := hI1.ext; go_simp; with_reducible rfl); (try simp only [Act.put, List.setIfInBounds_toArray, List.set_cons_zero, List.set_cons_succ])
            with_reducible refine RI.lexL_give' ?_ ?_ ?_ ?_; (· with_reducible rfl); (· decide)
            · intro G w5 hI hA hg
              go_simp
              exact hI.set3 hg
            intro v3 G w5 hI hs2
            obtain ⟨b3, rfl⟩ := hI.p3 v3 (hs2 3 v3 rfl)
            clear hI hs2 G w5
            (try simp only [Act.put, List.setIfInBounds_toArray, List.set_cons_zero, List.set_cons_succ])
            with_reducible refine RI.lexL_give' ?_ ?_ ?_ ?_; (· with_reducible rfl); (· decide)
            · intro G w5 hI hA hg
              have h3 := hA 3 (by decide) _ rfl
              refine gives_app1 25 42 24 (.slice none 0 0) Tryd.underlying25 ints_info rfl (by decide) vs.length vs (.slice (some ⟨bt, 0, none⟩) x x) b3 (.slice A1 k c1) (.tmp 136) (.tmp 138) ?_ ?_ (hI.rows hg) ?_ (hI.blk3 h3) ?_ (by have := hvk.out; omega) hI.ext.size (fun v' w' h1 h2 h4 => hI.set4 hg h3 h1 h2 h4) <;> first | rfl | exact rfl | (go_simp; done)
            intro v4' G w5 hI hs2
            clear hI hs2 G w5
            (try simp only [Act.put, List.setIfInBounds_toArray, List.set_cons_zero, List.set_cons_succ])
            with_reducible refine RI.lexL_quiet' (v := ?_) ?_ ?_ ?_ ?_; rotate_left; (· with_reducible rfl); (· decide); (· intro G w1 hI1 hA1; have hw1 := hI1.ext; go_simp; with_reducible rfl); (try simp only [Act.put, List.setIfInBounds_toArray, List.set_cons_zero, List.set_cons_succ])
            with_reducible refine RI.lexL_quiet' (v := ?_) ?_ ?_ ?_ ?_; rotate_left; (· with_reducible rfl); (· decide); (· intro G w1 hI1 hA1; have q0 := cell_of_blk (hI1.own.blkAt 5 rfl) 1 (u := .slice A1 k c1) rfl; have q1 := cell_of_blk (hI1.own.blkAt 5 rfl) 2 (u := aw) rfl; go_simp; with_reducible rfl)
            (try simp only [Act.put, List.setIfInBounds_toArray, List.set_cons_zero, List.set_cons_succ])
            with_reducible refine RI.lexL_quiet' (v := ?_) ?_ ?_ ?_ ?_; rotate_left; (· with_reducible rfl); (· decide); (· intro G w1 hI1 hA1; have hw1 := hI1.ext; go_simp; with_reducible rfl); (try simp only [Act.put, List.setIfInBounds_toArray, List.set_cons_zero, List.set_cons_succ])
            with_reducible refine RI.lexL_quiet' (v := ?_) ?_ ?_ ?_ ?_; rotate_left; (· with_reducible rfl); (· decide); (· intro G w1 hI1 hA1; have q0 := HK.out.2 w1 hI1.ext; go_simp; with_reducible rfl)
            (try simp only [Act.put, List.setIfInBounds_toArray, List.set_cons_zero, List.set_cons_succ])
            with_reducible refine RI.lexL_quiet' (v := ?_) ?_ ?_ ?_ ?_; rotate_left; (· with_reducible rfl); (· decide); (· intro G w1 hI1 hA1; have hw1 := hI1.ext; go_simp; with_reducible rfl); (try simp only [Act.put, List.setIfInBounds_toArray, List.set_cons_zero, List.set_cons_succ])
            with_reducible refine RI.lexL_quiet' (v := ?_) ?_ ?_ ?_ ?_; rotate_left; (· with_reducible rfl); (· decide); (· intro G w1 hI1 hA1; have hw1 := hI1.ext; go_simp; with_reducible rfl); (try simp only [Act.put, List.setIfInBounds_toArray, List.set_cons_zero, List.set_cons_succ])
            with_reducible refine RI.lexL_quiet' (v := ?_) ?_ ?_ ?_ ?_; rotate_left; (· with_reducible rfl); (· decide); (· intro G w1 hI1 hA1; have q0 := hI1.ext.cell HQ9.out; go_simp; with_reducible rfl)
            (try simp only [Act.put, List.setIfInBounds_toArray, List.set_cons_zero, List.set_cons_succ])
            with_reducible refine RI.lexL_give' ?_ ?_ ?_ ?_; (· with_reducible rfl); (· decide)
            · intro G w5 hI hA hg
              go_simp
              exact hI.set13 hg
            intro v13 G w5 hI hs2
            obtain ⟨b13, rfl⟩ := hI.p13 v13 (hs2 12 v13 rfl)
            clear hI hs2 G w5
            (try simp only [Act.put, List.setIfInBounds_toArray, List.set_cons_zero, List.set_cons_succ])
            with_reducible refine RI.lexL_give' ?_ ?_ ?_ ?_; (· with_reducible rfl); (· decide)
            · intro G w5 hI hA hg
              have h3 := hA 12 (by decide) _ rfl
              refine gives_app1 26 4 1 (.bool false) Tryd.underlying26 bool_info rfl (by decide) acs.length (acs.map .bool) (.bool (D.ac i)) b13 aw (.tmp 141) (.tmp 147) ?_ ?_ (hI.acc hg) ?_ (hI.blk13 h3) ?_ (by have := HAX.out.2.2.2; omega) hI.ext.size (fun v' w' h1 h2 h4 => hI.set14 hg h3 h1 h2 h4) <;> first | rfl | exact rfl | (go_simp; done)
            intro v14 G w5 hI hs2
            clear hI hs2 G w5
            (try simp only [Act.put, List.setIfInBounds_toArray, List.set_cons_zero, List.set_cons_succ])
            with_reducible refine RI.lexL_quiet' (v := ?_) ?_ ?_ ?_ ?_; rotate_left; (· with_reducible rfl); (· decide); (· intro G w1 hI1 hA1; have hw1 := hI1.ext; go_simp; with_reducible rfl); (try simp only [Act.put, List.setIfInBounds_toArray, List.set_cons_zero, List.set_cons_succ])
            with_reducible refine RI.lexL_nil ?_; intro w1 hI1; simp only [List.drop_succ_cons, List.drop_zero]
            have hF := hI1.fin (v4 := v4') (v14 := v14) rfl rfl
            have HF := Lib.hid hF
            have c0 := cell_of_blk (hF.blkAt 2 rfl) 1 (u := .slice A1 k c1) rfl
            have f0 := free_of_blk (hF.blkAt 2 rfl) 1
            have hb1 := heap_setCell_same w1 b19 1 #[.int .i64 (x : Int), .slice A1 k c1, aw] 28 v4' (hF.blkAt 2 rfl)
            have c1' : (w1.setCell ⟨b19, 1, none⟩ v4').cell? ⟨b19, 2, none⟩ = some aw := cell_of_blk hb1 2 (u := aw) rfl
            have f1 : (w1.setCell ⟨b19, 1, none⟩ v4').frozen? ⟨b19, 2, none⟩ = false := free_of_blk hb1 2
            obtain ⟨A4, c4, h4v, _, _⟩ := cells_of_owns (show w1.ownsRow W.heap.size 42 1 v4' (vs ++ [Value.slice (some ⟨bt, 0, none⟩) x x]).length (vs ++ [Value.slice (some ⟨bt, 0, none⟩) x x]) from (show OwnRows w1 W.heap.size 42 3 1 v4' (vs ++ [Value.slice (some ⟨bt, 0, none⟩) x x]) (rs ++ [(x, xs)]) from hF.get 0 rfl).own)
            obtain ⟨A5, c5, h5v, _, _⟩ := cells_of_owns (show w1.ownsRow W.heap.size 4 1 v14 (acs.length + 1) ((acs ++ [D.ac i]).map .bool) from hF.get 1 rfl)
            rw [List.length_append, List.length_singleton] at h4v
            subst h4v h5v
            clear hI1 hF hb1
            go_wp2
            go_roundw
            case rel =>
              refine ⟨i + 1, by go_num, by omega, Lib.hid ⟨vs ++ [Value.slice (some ⟨bt, 0, none⟩) x x], Value.slice A4 (vs.length + 1) c4, Value.slice A5 (acs.length + 1) c5, by rw [HP.out, List.length_append, List.length_append, HI.out.2.2.2.1]; rfl, ?_⟩⟩
              have h := (HF.out.put 2 rfl 1 (Value.slice A4 (vs.length + 1) c4)).put 2 rfl 2 (Value.slice A5 (acs.length + 1) c5)
              rw [HP.out, List.map_append, List.map_append, ← HAX.out.1, ← HAX.out.2.1]
              rw [show [i].map (rowA D cl x) = [(x, xs)] by rw [HAX.out.2.2.1, HR.out.1]; rfl]
              rw [show (acs ++ [i].map D.ac).length = acs.length + 1 by simp]
              exact h
            case measure => simp [intOf]; omega
        --]a
      · have HP : Hid (pickF cl (i + 1) = pickF cl i) := Lib.hid (by
          show (if cl.getD i 0 = ((pickF cl i).length : Int) then _ else _) = _
          rw [if_neg (by rw [← HZ.out, ← HI.out.2.2.1]; exact hzk)])
        have hne : (z != (k : Int)) = true := by simpa using hzk
        clear hzk
        go_upto_region 31 with fail
        refine wp_region_ext 7 (factsOf []) (fun k => ([[], [], [0, 1], [0, 1, 2], [], [4], [4, 5], [0, 1, 2, 3, 4, 5, 6]] : List (List Nat)).getD k []) (by kernel_rfl) (by kernel_rfl) Ext.pre (mono_nil) ?_
        simp only [List.take_succ_cons, List.take_zero]
        repeat (first | (with_reducible refine lexL_quiet' (v := ?_) ?_ ?_ ?_ ?_; rotate_left; (· with_reducible rfl); (· simp [factsOf]); (· intro w1 hw1 _; go_simp; with_reducible rfl); (try simp only [Act.put, List.setIfInBounds_toArray, List.set_cons_zero, List.set_cons_succ])) | (with_reducible refine lexL_skip ?_ ?_; (· simp [Region.wanted, yielded, undef]); (try simp only [Act.put, List.setIfInBounds_toArray, List.set_cons_zero, List.set_cons_succ])) | (with_reducible refine lexL_quiet (v := ?_) ?_ ?_ ?_ ?_; rotate_left; (· simp [Region.wanted, yielded, undef]); (· simp [factsOf]); (· intro w1 hw1 _; go_simp; with_reducible rfl); (try simp only [Act.put, List.setIfInBounds_toArray, List.set_cons_zero, List.set_cons_succ])))
        with_reducible refine lexL_nil ?_; intro w1 hw1 hk1; simp only [List.drop_succ_cons, List.drop_zero]
        go_wp2
        go_roundw
        case rel => exact ⟨i + 1, by go_num, by omega, by rw [HP.out]; exact Lib.hid ⟨_, _, _, HI.out.2.2.2.1, HI.out.2.2.2.2.1.trans hw1⟩⟩
        case measure => simp [intOf]; omega
    · have hie : i = D.rows.length := by omega
      subst hie
      have hltI : ¬ (D.rows.length : Int) < (D.rows.length : Int) := by omega
      have hr := HW.out.2.2.2.2.2.2.2
      have hPs : ∀ s ∈ pickF cl D.rows.length, s < D.rows.length := pickF_at cl _
      obtain ⟨P, hP⟩ : ∃ P, P = pickF cl D.rows.length := ⟨_, rfl⟩
      rw [← hP] at hvl hO hpl hr hPs
      rw [← hP] at hpos
      have hrow : W6.ownsRow W.heap.size 42 1 rw_ vs.length vs := (hO.get 0 rfl : OwnRows W6 W.heap.size 42 3 1 rw_ vs (P.map (rowA D cl m))).own
      have hbow : W6.ownsRow W.heap.size 4 1 aw (P.map D.ac).length ((P.map D.ac).map .bool) := hO.get 1 rfl
      obtain ⟨g1, c1, hrv⟩ := ownsRow_pos hrow (by omega)
      obtain ⟨g2, c2, hav⟩ := ownsRow_pos hbow (by rw [List.length_map]; omega)
      subst hrv hav
      have hcap1 := own_cap hrow
      have hcap2 := own_cap hbow
      rw [List.length_map] at hcap2
      rw [hvl] at hcap1
      obtain ⟨k, hk⟩ : ∃ k, k = P.length := ⟨_, rfl⟩
      have hal : (P.map D.ac).length = k := by rw [List.length_map, hk]
      rw [← hk] at hcap1 hcap2 hvl hr hpos hpl
      have q1 := fun w' (e : Ext W6 w') => e.cell (cell_of_blk (hO.blkAt 2 rfl) 1 (u := .slice (some ⟨g1, 0, none⟩) vs.length c1) rfl)
      have q2 := fun w' (e : Ext W6 w') => e.cell (cell_of_blk (hO.blkAt 2 rfl) 2 (u := .slice (some ⟨g2, 0, none⟩) (P.map D.ac).length c2) rfl)
      rw [hvl] at q1
      rw [hal] at q2
      have hB4 := heap_ext hO.ext HW.out.2.1.2
      have HO := Lib.hid hO
      have HP := Lib.hid (And.intro hP (And.intro hk (And.intro hvl (And.intro hal (And.intro hPs (And.intro hcap1 (And.intro hcap2 hpos)))))))
      have HRR := Lib.hid hr
      have q1' := q1 W6 (Ext.refl _)
      clear hP hk hvl hal hPs hr hO hrow hbow hcap1 hcap2 hD
      by_cases hbig : k ≤ 256
      · have hbI : (k : Int) ≤ 256 := by omega
        go_upto_region 42 with fail
        clear q1'
        have HB4 := Lib.hid hB4
        clear hB4
        refine wp_region_ext 7 (factsOf [(2, fun v _ => v = .slice (some ⟨g1, 0, none⟩) k k), (5, fun v _ => v = .slice (some ⟨g2, 0, none⟩) k k)]) (fun k => ([[], [0], [0, 1], [], [3], [0, 1, 2, 3, 4], [0, 1, 2, 3, 4], [0, 1, 2, 3, 4, 5, 6], [0, 1, 2, 3, 4, 5, 6, 7], [0, 1, 2, 3, 4, 5, 6, 7, 8]] : List (List Nat)).getD k []) (by kernel_rfl) (by kernel_rfl) Ext.pre (mono_cons (stays_eq _) (mono_cons (stays_eq _) (mono_nil))) ?_
        simp only [List.take_succ_cons, List.take_zero]
        repeat (first | (with_reducible refine lexL_quiet' (v := ?_) ?_ ?_ ?_ ?_; rotate_left; (· with_reducible rfl); (· simp [factsOf]); (· intro w1 hw1 _; go_simp; with_reducible rfl); (try simp only [Act.put, List.setIfInBounds_toArray, List.set_cons_zero, List.set_cons_succ])) | (with_reducible refine lexL_skip ?_ ?_; (· simp [Region.wanted, yielded, undef]); (try simp only [Act.put, List.setIfInBounds_toArray, List.set_cons_zero, List.set_cons_succ])) | (with_reducible refine lexL_quiet (v := ?_) ?_ ?_ ?_ ?_; rotate_left; (· simp [Region.wanted, yielded, undef]); (· simp [factsOf]); (· intro w1 hw1 _; go_simp; with_reducible rfl); (try simp only [Act.put, List.setIfInBounds_toArray, List.set_cons_zero, List.set_cons_succ])))
        with_reducible refine lexL_give' (φ := ?_) ?_ ?_ ?_ ?_; rotate_left; (· with_reducible rfl); (· simp only [factsOf, Nat.reduceAdd, ↓reduceIte, Nat.reduceEqDiff]; rfl)
        · intro w2' hw2' hkn
          go_simp
          refine (clip108_any w2' g1 k c1 HP.out.2.2.2.2.2.1.1 (by have := HP.out.2.2.2.2.2.1.2; unfold maxLen at this; unfold lenMax; omega)).mono ?_
          rintro e w3' ⟨rfl, rfl⟩
          exact ⟨_, rfl, Ext.refl _, rfl⟩
        rintro v8 w2' hw2' rfl hk2
        clear hk2 hw2' w2'
        (try simp only [Act.put, List.setIfInBounds_toArray, List.set_cons_zero, List.set_cons_succ])
        repeat (first | (with_reducible refine lexL_quiet' (v := ?_) ?_ ?_ ?_ ?_; rotate_left; (· with_reducible rfl); (· simp [factsOf]); (· intro w1 hw1 _; go_simp; with_reducible rfl); (try simp only [Act.put, List.setIfInBounds_toArray, List.set_cons_zero, List.set_cons_succ])) | (with_reducible refine lexL_skip ?_ ?_; (· simp [Region.wanted, yielded, undef]); (try simp only [Act.put, List.setIfInBounds_toArray, List.set_cons_zero, List.set_cons_succ])) | (with_reducible refine lexL_quiet (v := ?_) ?_ ?_ ?_ ?_; rotate_left; (· simp [Region.wanted, yielded, undef]); (· simp [factsOf]); (· intro w1 hw1 _; go_simp; with_reducible rfl); (try simp only [Act.put, List.setIfInBounds_toArray, List.set_cons_zero, List.set_cons_succ])))
        with_reducible refine lexL_give' (φ := ?_) ?_ ?_ ?_ ?_; rotate_left; (· with_reducible rfl); (· simp only [factsOf, Nat.reduceAdd, ↓reduceIte, Nat.reduceEqDiff]; rfl)
        · intro w2' hw2' hkn
          go_simp
          refine (clip109_any w2' g2 k c2 HP.out.2.2.2.2.2.2.1.1 (by have := HP.out.2.2.2.2.2.2.1.2; unfold maxLen at this; unfold lenMax; omega)).mono ?_
          rintro e w3' ⟨rfl, rfl⟩
          exact ⟨_, rfl, Ext.refl _, rfl⟩
        rintro v9 w2' hw2' rfl hk2
        clear hk2 hw2' w2'
        (try simp only [Act.put, List.setIfInBounds_toArray, List.set_cons_zero, List.set_cons_succ])
        repeat (first | (with_reducible refine lexL_quiet' (v := ?_) ?_ ?_ ?_ ?_; rotate_left; (· with_reducible rfl); (· simp [factsOf]); (· intro w1 hw1 _; go_simp; with_reducible rfl); (try simp only [Act.put, List.setIfInBounds_toArray, List.set_cons_zero, List.set_cons_succ])) | (with_reducible refine lexL_skip ?_ ?_; (· simp [Region.wanted, yielded, undef]); (try simp only [Act.put, List.setIfInBounds_toArray, List.set_cons_zero, List.set_cons_succ])) | (with_reducible refine lexL_quiet (v := ?_) ?_ ?_ ?_ ?_; rotate_left; (· simp [Region.wanted, yielded, undef]); (· simp [factsOf]); (· intro w1 hw1 _; go_simp; with_reducible rfl); (try simp only [Act.put, List.setIfInBounds_toArray, List.set_cons_zero, List.set_cons_succ])))
        with_reducible refine lexL_nil ?_; intro w1 hw1 hk1; simp only [List.drop_succ_cons, List.drop_zero]
        clear hk1
        have hO1 := HO.out.trans hw1
        have c0 := q1 w1 hw1
        have f0 := free_of_blk (hO1.blkAt 2 rfl) 1
        have hb1 := heap_setCell_same w1 b19 1 _ 28 (.slice (some ⟨g1, 0, none⟩) k k) (hO1.blkAt 2 rfl)
        have c1' : (w1.setCell ⟨b19, 1, none⟩ (.slice (some ⟨g1, 0, none⟩) k k)).cell? ⟨b19, 2, none⟩ = some (.slice (some ⟨g2, 0, none⟩) (P.map D.ac).length c2) := cell_of_blk hb1 2 (u := .slice (some ⟨g2, 0, none⟩) (P.map D.ac).length c2) rfl
        have f1 : (w1.setCell ⟨b19, 1, none⟩ (.slice (some ⟨g1, 0, none⟩) k k)).frozen? ⟨b19, 2, none⟩ = false := free_of_blk hb1 2
        have h9 := (hO1.put 2 rfl 1 (Value.slice (some ⟨g1, 0, none⟩) k k)).put 2 rfl 2 (Value.slice (some ⟨g2, 0, none⟩) k k)
        have H9 := Lib.hid h9
        clear h9 hb1 hO1 q1 q2 hw1
        go_upto_region 43 with fail
        refine wp_named ?_
        intro W9 hW9
        have hO9 : OwnL W W9 [.rows 42 3 1 (.slice (some ⟨g1, 0, none⟩) vs.length c1) vs (P.map (rowA D cl m)), .row 4 1 (.slice (some ⟨g2, 0, none⟩) (P.map D.ac).length c2) (P.map D.ac).length ((P.map D.ac).map .bool), .blk b19 (.cells #[.int .i64 (m : Int), .slice (some ⟨g1, 0, none⟩) k k, .slice (some ⟨g2, 0, none⟩) k k] 28)] := by rw [hW9]; exact H9.out
        have hOB := hO9.base HW.out.1 HW.out.2.1.1 HW.out.2.1.2
        have hb19 := hO9.blkAt 2 rfl
        have hb4 := hOB.blkAt 0 rfl
        have HOB := Lib.hid hOB
        clear hW9 H9 c0 f0 c1' f1 hO9 hOB
        go_wp2_with (first
          | (with_reducible refine wpList_load_row rfl 28 _ rfl b19 rfl 28 _ (0, 0) _ hb19 Tryd.underlying28 rfl (by kernel_rfl) ?_)
          | (with_reducible refine wpList_store_blk _ rfl 28 _ _ rfl b4 28 _ _ rfl rfl hb4 (by kernel_rfl) (by kernel_rfl) (by kernel_rfl) ?_; intro w10 h10 g10))
        refine bodyPost_ret (results_ct2 rfl _ _ b4 28 _ (0, 0) _ (by simp [Act.put]) h10 Tryd.underlying28 rfl (by kernel_rfl)) rfl ?_
        have hRS : r = some (quoN D cl P) := by rw [HRR.out, if_pos hbig]
        rw [hRS]
        have hO10 := HOB.out.step (A' := .blk b4 (.cells #[.int .i64 (m : Int), .slice (some ⟨g1, 0, none⟩) k k, .slice (some ⟨g2, 0, none⟩) k k] 28)) 0 rfl g10 (fun c hc => by cases hc; rfl) ⟨HW.out.2.1.1, h10⟩ (fun c hc => .inl hc)
        have hO11 : OwnL w w10 [.rows 42 3 1 (.slice (some ⟨g1, 0, none⟩) vs.length c1) vs (P.map (rowA D cl m)), .row 4 1 (.slice (some ⟨g2, 0, none⟩) (P.map D.ac).length c2) (P.map D.ac).length ((P.map D.ac).map .bool), .blk b19 (.cells #[.int .i64 (m : Int), .slice (some ⟨g1, 0, none⟩) k k, .slice (some ⟨g2, 0, none⟩) k k] 28)] := hO10.drop
        obtain ⟨cs, hcs, hO12⟩ := hO11.swap.done
        have hO13 := hO12.swap.seal (Φ := fun W' => ListsC W' (.slice (some ⟨g1, 0, none⟩) k k) (intR (quoN D cl P).rows) (quoN D cl P).rows.length) (fun W' hok => by
          have hor : OwnRows W' w.heap.size 42 3 1 (.slice (some ⟨g1, 0, none⟩) vs.length c1) vs (P.map (rowA D cl m)) := hok
          rw [quo_rows HW.out.2.2.2.2.2.1 HW.out.2.2.2.2.2.2.1.2 P HP.out.2.2.2.2.1] at hor
          have hlr : (intR (quoN D cl P).rows).length = vs.length := by simp only [intR, quoN, List.length_map]; rw [HP.out.2.2.1, HP.out.2.1]
          have hl := listsC_of_own (n := vs.length) hor hlr (by rw [HP.out.2.2.1]; unfold lenMax; omega) (fun r hr => by
            unfold intR quoN at hr
            simp only [List.map_map] at hr
            obtain ⟨s, hs, rfl⟩ := List.mem_map.1 hr
            have h1 := clsR_len HW.out.2.2.2.2.2.1 cl (HP.out.2.2.2.2.1 s hs)
            unfold clsR at h1
            simp only [Function.comp, List.length_map] at h1 ⊢
            rw [h1]; unfold lenMax; omega)
          have h2 := lists_clip hl
          rw [HP.out.2.2.1] at h2
          have h3 : (quoN D cl P).rows.length = k := by simp only [quoN, List.length_map]; exact HP.out.2.1.symm
          have h4 : (intR (quoN D cl P).rows).length = k := by rw [hlr]; exact HP.out.2.2.1
          rw [h4] at h2
          rw [h3]
          exact h2)
        have hac : (quoN D cl P).acc.length = k := by simp only [quoN, List.length_map]; exact HP.out.2.1.symm
        refine min_fin hO13.drop3 ?_ ?_
        · rw [Nat.mul_one] at hcs
          show cs.toList.take (P.map D.ac).length = _
          rw [hcs]; rfl
        · rw [hac]; simp [Act.put]
      · have hbI : (256 : Int) < (k : Int) := by omega
        have HRN : Hid (r = none) := Lib.hid (by rw [HRR.out, if_neg hbig])
        clear q1 q2
        go_wp2_with (with_reducible refine wpList_store_blk _ rfl 28 _ _ rfl b4 28 #[.int .i64 0, .slice none 0 0, .slice none 0 0] _ rfl rfl hB4 (by kernel_rfl) (by kernel_rfl) (by kernel_rfl) ?_; intro w8 h8 g8)
        refine bodyPost_ret (results_ct2 rfl _ _ b4 28 _ (0, 0) _ (by simp [Act.put]) h8 Tryd.underlying28 rfl (by kernel_rfl)) rfl ?_
        rw [HRN.out]
        have hE8 := HW.out.1.trans HO.out.ext
        exact ⟨by simp [Act.put], Below.grown hE8 g8 hE8.size (fun k hk => by cases hk; exact HW.out.2.1.1)⟩
end Go.Proofs.YtmebgomnmlbgnaaDoor
