/- THE LAW ExtendsUnfold 5: the walk. -/
import Derived.Test.YtggffdkgfgdaoaaDoorD4
import Derived.Test.YtggffdkgfgdaoaaDoorE15
import Derived.Test.YtggffdkgfgdaoaaDoorE16
namespace Go.Proofs.YtggffdkgfgdaoaaDoor
open Go.RowKit Go.Maps
set_option linter.unusedVariables false
set_option linter.unusedSimpArgs false
attribute [local go_sem] Oper.quietV quietV Oper.gives givesV ext_refl_iff ext_alloc_iff ext_drew_iff ext_drewN_iff
theorem kfc_at {w : World} {v : Value} {S : List Sp} {c i : Nat} {s : Sp} (h : KfC w v S c) (hi : S[i]? = some s) : ∃ b o A ca, v = .slice (some ⟨b, o, none⟩) S.length c ∧ w.cell? ⟨b, o + i * 2, none⟩ = some (.int .i64 s.1) ∧ w.cell? ⟨b, o + i * 2 + 1, none⟩ = some (.slice A s.2.length ca) ∧ IntsC w (.slice A s.2.length ca) s.2 ca := by
  obtain ⟨A, lvs, rfl, hc, ⟨hl, hk⟩, _, _⟩ := h
  have hlt := (List.getElem?_eq_some_iff.1 hi).1
  obtain ⟨p, hp⟩ : ∃ p, lvs[i]? = some p := ⟨_, List.getElem?_eq_getElem (by omega)⟩
  obtain ⟨b, o, rfl, _, hcc⟩ := hc (by rw [rec_len cfCells 2 (fun _ => rfl)]; omega)
  obtain ⟨A2, ca, rfl, hI⟩ := hk i s p hi hp
  have g := fun j u h => rec_get cfCells 2 (fun _ => rfl) hp j u h
  exact ⟨b, o, A2, ca, rfl, hcc _ _ (g 0 _ rfl), by rw [Nat.add_assoc]; exact hcc _ _ (g 1 _ rfl), hI⟩
/-- The edges of an unfolded machine lead to its states. -/
theorem unf_ok {x : Xt} (hx : xtR x = 0) {S : List Sp} {rows : List (List (Int × Int))} (h : unfR x = some (S, rows)) : rows.length = S.length ∧ 1 ≤ S.length ∧ S.length ≤ 64 ∧ (∀ row ∈ rows, row.length = x.ins.toNat) ∧ (∀ row ∈ rows, ∀ e ∈ row, stOk rows e.1) ∧ S[0]? = some (0, x.start) := by
  unfold unfR at h
  have hok := uAll_ok hx h
  have hrs := uAll_rows hx h
  have hE := uAll_edge hx h
  dsimp only at hok hrs hE
  have hS := hok.1.1
  have hrl : rows.length = S.length := by omega
  refine ⟨hrl, hok.2.1, hS, hok.2.2, fun row hr e he => ?_, ?_⟩
  · obtain ⟨n, hn⟩ := List.getElem?_of_mem hr
    obtain ⟨c, hc, h2⟩ := hE n row hn
    obtain ⟨j, hj⟩ := List.getElem?_of_mem he
    have h3 := h2 j e hj
    unfold edgeOk at h3
    split at h3
    · exact .inl (by rw [h3])
    · obtain ⟨k, h4, h5⟩ := h3
      exact .inr ⟨k, by rw [hrl]; exact (List.getElem?_eq_some_iff.1 h5).1, by rw [h4]⟩
  · exact first hx 64 _ h
where
  first {x : Xt} (hx : xtR x = 0) : ∀ (i : Nat) (r : List Sp × List (List (Int × Int))), uAll x i = some r → r.1[0]? = some (0, x.start)
    | 0, r, h => by unfold uAll at h; injection h with h; subst h; rfl
    | i + 1, r, h => by
      unfold uAll at h
      split at h
      · cases h
      · rename_i r1 h1
        have h0 := first hx i r1 h1
        have hok := uAll_ok hx h1
        split at h
        · injection h with h; subst h; exact h0
        · rename_i c hc
          split at h
          · cases h
          · rename_i q hq
            injection h with h; subst h
            obtain ⟨t, ht⟩ := (uRow_ok hx (hok.1.2 c (List.mem_of_getElem? hc)) hok.1 hq).2.1
            dsimp only
            rw [← ht, List.getElem?_append_left (by omega)]; exact h0
theorem ms_refl (i o : Int) (r : Rws) : msB i i o o r r = true := by unfold msB; simp
theorem ConfsC.ext {w w' : World} {v : Value} {S : List Sp} {c : Nat} (h : ConfsC w v S c) (e : Ext w w') : ConfsC w' v S c := by
  obtain ⟨A, vs, h1, h2, h3, h4, h5⟩ := h
  exact ⟨A, vs, h1, h2, h3.ext e, fun i s p hs hp => by
    obtain ⟨h6, A2, h7, h8⟩ := h4 i s p hs hp
    exact ⟨h6, A2, h7, IntsC.ext h8 e⟩, h5⟩
theorem wordI_in (ws : List Nat) : ∀ a ∈ wordI ws, 0 ≤ a ∧ a < ((2 : Nat) : Int) := fun a ha => by
  unfold wordI wI at ha
  obtain ⟨y, _, rfl⟩ := List.mem_map.1 ha
  have := Nat.mod_lt y (show 0 < 2 by decide)
  omega
set_option maxRecDepth 100000 in
set_option maxHeartbeats 16000000 in
theorem ExtendsUnfold_any (w : World) (xv : Value) (v : Vd) (wv : Value) (ws : List Nat) (c : Nat) (hx : VdV w xv v) (hw : U8sC w wv ws c) (hT : OpsTab w) : Calls Tryd.prog 5 #[xv, wv] w (LivP w) := by
  have hof := fun W (e : Ext w W) => of_any W xv v (hx.ext e)
  obtain ⟨S, rows, hU⟩ := unf_v v
  obtain ⟨X, hX⟩ : ∃ X, X = ofX v := ⟨_, rfl⟩
  rw [← hX] at hU
  have HXE := Lib.hid hX
  have HXOK : Hid (xtR X = 0 ∧ X.ins = 2) := Lib.hid ⟨by rw [hX]; exact ofX_ok v, by rw [hX]; rfl⟩
  have HUK := Lib.hid (And.intro hU (unf_ok HXOK.out.1 hU))
  obtain ⟨_, _, _, _, Ax, cx, rfl, _⟩ := id hx
  have HW := Lib.hid (And.intro hw hT)
  obtain ⟨Aw, rfl, _⟩ := id hw
  rw [← hX] at hof
  clear hx hw hT hX hU
  go_enter Tryd.func5, Tryd.ntmps5
  go_upto_region 1 with fail
  refine wp_named ?_
  intro W1 hW1
  have hE1 : Ext w W1 := by rw [hW1]; exact (alloc_ext _ _)
  have hB1 : W1.heap[w.heap.size]? = some (.cells #[.int .u8 (v.st : Int), .int .u8 (v.s0 : Int), .int .u8 (v.s1 : Int), .slice Ax v.arcs.length cx] 25 (0, 0)) := by rw [hW1]; exact (heap_alloc_new _ _)
  have hof := hof W1 hE1
  have HE1 := Lib.hid hE1
  clear hW1 hE1
  generalize w.heap.size = b1 at *
  go_upto_region 2 with (first
    | (with_reducible refine wpList_load_row rfl 25 _ rfl b1 rfl 25 _ (0, 0) _ hB1 Tryd.underlying25 rfl (by kernel_rfl) ?_)
    | ((with_reducible refine hof.mono ?_); rintro e W2 ⟨xv, rfl, hXT, e2⟩; obtain ⟨vv, sv, av, vs, q1, q2, rfl, ⟨Av, rfl, _⟩, ⟨As, rfl, _⟩, hrow, _, _⟩ := id hXT; obtain ⟨Aa, ca, rfl, _⟩ := cells_of_owns hrow; clear hrow)
    | (with_reducible refine wpList_store_blk _ rfl 31 _ _ rfl W2.heap.size 31 _ _ rfl rfl (heap_alloc_new _ _) (by kernel_rfl) (by kernel_rfl) (by kernel_rfl) ?_; intro W3 h3 g3))
  have hE23 : Ext W2 W3 := Below.grown (alloc_ext W2 _) g3 (alloc_ext W2 _).size (fun k hk => by cases hk; exact Nat.le_refl _)
  have HE := Lib.hid (And.intro (HE1.out.trans (e2.trans hE23)) (And.intro (hXT.v.ext hE23) h3))
  have hB3 := HE.out.2.2
  have hun := unf_lit W3 _ X HE.out.2.1 (HW.out.2.ext HE.out.1) S rows S.length rows.length HXOK.out.1 HUK.out.1 rfl rfl
  clear hof hB1 e2 hE23 hXT h3 g3 HE1
  generalize W2.heap.size = d at *
  go_upto_region 3 with (first
    | (with_reducible refine wpList_load_row rfl 31 _ rfl d rfl 31 _ (0, 0) _ hB3 Tryd.underlying31 rfl (by kernel_rfl) ?_)
    | ((with_reducible refine hun.mono ?_); rintro e W4 ⟨A4, B4, rfl, hRw, hCf, e4⟩)
    | (with_reducible refine wpList_store_blk _ rfl 52 _ _ rfl W4.heap.size 52 _ _ rfl rfl (heap_alloc_new _ _) (by kernel_rfl) (by kernel_rfl) (by kernel_rfl) ?_; intro W5 h5 g5))
  have hE45 : Ext W4 W5 := Below.grown (alloc_ext W4 _) g5 (alloc_ext W4 _).size (fun k hk => by cases hk; exact Nat.le_refl _)
  have HE5 := Lib.hid (And.intro (HE.out.1.trans (e4.trans hE45)) (And.intro (HE.out.2.1.ext (e4.trans hE45)) (And.intro (hRw.ext hE45) h5)))
  have hB3 := heap_ext (e4.trans hE45) hB3
  have hrf := refUnfold_any W5 _ X HE5.out.2.1 HXOK.out.1 S rows HUK.out.1
  have HC5 := Lib.hid (hCf.ext hE45)
  clear hun hRw hCf e4 hE45 h5 g5
  generalize W4.heap.size = d6 at *
  go_upto_region 4 with (first
    | (with_reducible refine wpList_load_row rfl 31 _ rfl d rfl 31 _ (0, 0) _ hB3 Tryd.underlying31 rfl (by kernel_rfl) ?_)
    | ((with_reducible refine hrf.mono ?_); rintro e W6 ⟨A6, c6, B6, cb6, rfl, hRw6, hKf, e6⟩)
    | (with_reducible refine wpList_store_blk _ rfl 52 _ _ rfl W6.heap.size 52 _ _ rfl rfl (heap_alloc_new _ _) (by kernel_rfl) (by kernel_rfl) (by kernel_rfl) ?_; intro W7 h7 g7))
  have hE67 : Ext W6 W7 := Below.grown (alloc_ext W6 _) g7 (alloc_ext W6 _).size (fun k hk => by cases hk; exact Nat.le_refl _)
  have hE57 := e6.trans hE67
  have HE7 := Lib.hid (And.intro (HE5.out.1.trans hE57) (And.intro (HE5.out.2.1.ext hE57) (And.intro (heap_ext hE57 hB3) (And.intro h7 (And.intro (hRw6.ext hE67) (And.intro (HC5.out.ext hE57) (hKf.ext hE67)))))))
  have hms := machSame_any W7 X.ins X.ins X.outs X.outs _ _ rows rows _ _ (HE5.out.2.2.1.ext hE57) (hRw6.ext hE67)
  rw [ms_refl] at hms
  have hb6 := heap_ext hE57 HE5.out.2.2.2
  have j0 := cell_of_blk hb6 0 (u := .int .i64 X.ins) rfl
  have j1 := cell_of_blk hb6 1 (u := .int .i64 X.outs) rfl
  have j2 := cell_of_blk hb6 2 (u := .slice A4 rows.length rows.length) rfl
  have k0 := cell_of_blk h7 0 (u := .int .i64 X.ins) rfl
  have k1 := cell_of_blk h7 1 (u := .int .i64 X.outs) rfl
  have k2 := cell_of_blk h7 2 (u := .slice A6 rows.length c6) rfl
  clear hrf hB3 hRw6 hKf e6 g7 hE67 hE57 h7 hb6 HE5 HC5
  generalize W6.heap.size = d9 at *
  go_upto_region 6 with ((with_reducible refine hms.mono ?_); rintro e W8 ⟨rfl, e8⟩; replace j2 := e8.cell j2)
  have HE8 := Lib.hid (And.intro (HE7.out.1.trans e8) e8)
  have hSl : S.length ≤ 64 := HUK.out.2.2.2.1
  clear hms e8 j0 j1 j2 k0 k1 k2
  go_wp2
  go_loopw [11] (fun iv wr => ∃ i : Nat, iv = .int .i64 i ∧ i ≤ S.length ∧ Hid (Ext W8 wr)) (fun iv _ => S.length - (intOf iv).toNat)
  case atStart => exact ⟨0, by first | rfl | simp, Nat.zero_le _, Lib.hid (Ext.refl _)⟩
  case round =>
    obtain ⟨i, rfl, hi, HWR⟩ := hrel
    obtain ⟨W9, hW9⟩ : ∃ W, W = wr := ⟨_, rfl⟩; subst hW9
    have hE79 := HE8.out.2.trans HWR.out
    by_cases hlt : i < S.length
    · have hlI : (i : Int) < (S.length : Int) := by omega
      obtain ⟨s, hs⟩ : ∃ s, S[i]? = some s := ⟨_, List.getElem?_eq_getElem hlt⟩
      obtain ⟨bl, ol, Al, hBl, l0, l1, hFl⟩ := confs_at HE7.out.2.2.2.2.2.1 hs rfl
      obtain ⟨bk, ok, Ak, ck, hBk, m0, m1, hIk⟩ := kfc_at HE7.out.2.2.2.2.2.2 hs
      injection hBl with hBl _ _
      injection hBk with hBk _ _
      subst hBl hBk
      have l0 : ∀ w', Ext W9 w' → w'.cell? ⟨bl, ol + i * 2, none⟩ = some (.int .i64 s.1) := fun w' h => (hE79.trans h).cell l0
      have l1 : ∀ w', Ext W9 w' → w'.cell? ⟨bl, ol + i * 2 + 1, none⟩ = some (.slice Al s.2.length s.2.length) := fun w' h => (hE79.trans h).cell l1
      have m0 : ∀ w', Ext W9 w' → w'.cell? ⟨bk, ok + i * 2, none⟩ = some (.int .i64 s.1) := fun w' h => (hE79.trans h).cell m0
      have m1 : ∀ w', Ext W9 w' → w'.cell? ⟨bk, ok + i * 2 + 1, none⟩ = some (.slice Ak s.2.length ck) := fun w' h => (hE79.trans h).cell m1
      have hsm : ∀ W (e : Ext W9 W), Calls Tryd.prog 14 #[.agg #[.int .i64 s.1, .slice Al s.2.length s.2.length], .agg #[.int .i64 s.1, .slice Ak s.2.length ck]] W fun e w' => e = .returned (.int .i64 1) ∧ Ext W w' := fun W e => by
        have h := refSame_any W s.1 s.1 _ _ s.2 s.2 _ _ (IntsC.ext hFl (hE79.trans e)) (hIk.ext (hE79.trans e))
        rw [show (s.1 == s.1 && s.2 == s.2) = true by simp] at h
        exact h
      have hR9 := Ext.refl W9
      clear hs hFl hIk hE79
      go_upto_region 9 with fail
      refine wp_region_ext 23 (factsOf [(8, EqP (.int .i64 1))]) (fun k => ([[], [], [0, 1], [0, 1, 2], [], [], [4, 5], [4, 5, 6], [0, 1, 2, 3, 4, 5, 6, 7], [0, 1, 2, 3, 4, 5, 6, 7, 8], [0, 1, 2, 3, 4, 5, 6, 7, 8, 9], [0, 1, 2, 3, 4, 5, 6, 7, 8, 9, 10], [0, 1, 2, 3, 4, 5, 6, 7, 8, 9, 10], [0, 1, 2, 3, 4, 5, 6, 7, 8, 9, 10, 11, 12], [0, 1, 2, 3, 4, 5, 6, 7, 8, 9, 10, 11, 12, 13], [0, 1, 2, 3, 4, 5, 6, 7, 8, 9, 10, 11, 12, 13, 14], [0, 1, 2, 3, 4, 5, 6, 7, 8, 9, 10, 11, 12, 13, 14, 15], [0, 1, 2, 3, 4, 5, 6, 7, 8, 9, 10], [0, 1, 2, 3, 4, 5, 6, 7, 8, 9, 10], [0, 1, 2, 3, 4, 5, 6, 7, 8, 9, 10, 17, 18], [0, 1, 2, 3, 4, 5, 6, 7, 8, 9, 10, 17, 18, 19], [0, 1, 2, 3, 4, 5, 6, 7, 8, 9, 10, 17, 18, 19, 20], [0, 1, 2, 3, 4, 5, 6, 7, 8, 9, 10, 17, 18, 19, 20, 21], [0, 1, 2, 3, 4, 5, 6, 7, 8, 9, 10, 11, 12, 13, 14, 15, 16, 17, 18, 19, 20, 21, 22], [0, 1, 2, 3, 4, 5, 6, 7, 8, 9, 10, 11, 12, 13, 14, 15, 16, 17, 18, 19, 20, 21, 22, 23]] : List (List Nat)).getD k []) (by kernel_rfl) (by kernel_rfl) Ext.pre (mono_cons (stays_eqP _) (mono_nil)) ?_
      simp only [List.take_succ_cons, List.take_zero]
      repeat (first | (with_reducible refine lexL_quiet' (v := ?_) ?_ ?_ ?_ ?_; rotate_left; (· with_reducible rfl); (· simp [factsOf]); (· intro w1 hw1 _; go_simp; with_reducible rfl); (try simp only [Act.put, List.setIfInBounds_toArray, List.set_cons_zero, List.set_cons_succ])) | (with_reducible refine lexL_skip ?_ ?_; (· simp [Region.wanted, yielded, undef]); (try simp only [Act.put, List.setIfInBounds_toArray, List.set_cons_zero, List.set_cons_succ])) | (with_reducible refine lexL_quiet (v := ?_) ?_ ?_ ?_ ?_; rotate_left; (· simp [Region.wanted, yielded, undef]); (· simp [factsOf]); (· intro w1 hw1 _; go_simp; with_reducible rfl); (try simp only [Act.put, List.setIfInBounds_toArray, List.set_cons_zero, List.set_cons_succ])))
      with_reducible refine lexL_give' (φ := ?_) ?_ ?_ ?_ ?_; rotate_left; (· with_reducible rfl); (· simp only [factsOf, Nat.reduceAdd, ↓reduceIte, Nat.reduceEqDiff]; rfl)
      · intro w5 hw5 _
        go_simp
        refine (hsm w5 hw5).mono ?_
        rintro e w6 ⟨rfl, e6⟩
        exact ⟨_, rfl, e6, rfl⟩
      rintro v8 w5 hw5 hv8 hk2
      unfold EqP at hv8
      subst hv8
      clear hk2 hw5 w5
      (try simp only [Act.put, List.setIfInBounds_toArray, List.set_cons_zero, List.set_cons_succ])
      repeat (first | (with_reducible refine lexL_quiet' (v := ?_) ?_ ?_ ?_ ?_; rotate_left; (· with_reducible rfl); (· simp [factsOf]); (· intro w1 hw1 _; go_simp; with_reducible rfl); (try simp only [Act.put, List.setIfInBounds_toArray, List.set_cons_zero, List.set_cons_succ])) | (with_reducible refine lexL_skip ?_ ?_; (· simp [Region.wanted, yielded, undef]); (try simp only [Act.put, List.setIfInBounds_toArray, List.set_cons_zero, List.set_cons_succ])) | (with_reducible refine lexL_quiet (v := ?_) ?_ ?_ ?_ ?_; rotate_left; (· simp [Region.wanted, yielded, undef]); (· simp [factsOf]); (· intro w1 hw1 _; go_simp; with_reducible rfl); (try simp only [Act.put, List.setIfInBounds_toArray, List.set_cons_zero, List.set_cons_succ])))
      with_reducible refine lexL_nil ?_; intro w1 hw1 hk1; simp only [List.drop_succ_cons, List.drop_zero]
      have HW1 := Lib.hid (HWR.out.trans hw1)
      clear hk1 hsm l0 l1 m0 m1 hR9 hw1
      go_wp2
      refine ⟨⟨i + 1, by go_num, hlt, HW1⟩, ?_⟩
      simp [intOf]; omega
    · have hie : i = S.length := by omega
      subst hie
      have hlt3 : ¬ (S.length : Int) < (S.length : Int) := by omega
      clear hlt hi
      have HE9 := Lib.hid (And.intro (HE7.out.1.trans hE79) hE79)
      have hw16 := word16_any W9 _ ws c (HW.out.1.ext HE9.out.1)
      clear hE79
      go_upto_region 12 with ((with_reducible refine hw16.mono ?_); rintro e W10 ⟨Bu, cu, rfl, hu, e10, hfu⟩)
      have HE10 := Lib.hid (And.intro (HE9.out.1.trans e10) (And.intro (HE9.out.2.trans e10) hu))
      have hrn := run_of W10 X HXOK.out.1 HXOK.out.2 _ (HE7.out.2.1.ext HE10.out.2.1) (HW.out.2.ext HE10.out.1) _ ws cu hu
      have hB3 := heap_ext HE10.out.2.1 HE7.out.2.2.1
      clear hw16 e10 hu hfu
      go_upto_region 13 with (first
        | (with_reducible refine wpList_load_row rfl 31 _ rfl d rfl 31 _ (0, 0) _ hB3 Tryd.underlying31 rfl (by kernel_rfl) ?_)
        | ((with_reducible refine hrn.mono ?_); rintro e W11 ⟨Br, rfl, hr, e11, -⟩))
      have hB9 := heap_ext (HE10.out.2.1.trans e11) HE7.out.2.2.2.1
      have hrf := refRun4_any W11 X.ins X.outs _ rows c6 (HE7.out.2.2.2.2.1.ext (HE10.out.2.1.trans e11)) 0 (.inr ⟨0, by rw [HUK.out.2.1]; exact HUK.out.2.2.1, rfl⟩) 2 (fun row hr => by rw [HUK.out.2.2.2.2.1 row hr, HXOK.out.2]; rfl) HUK.out.2.2.2.2.2.1 _ (wordI ws) cu (HE10.out.2.2.ext e11) (wordI_in ws) (by have := wordI_len ws; omega)
      have hrr := runM_run HXOK.out.1 HUK.out.1 (wordI ws) 0 _ (fun a ha => by rw [HXOK.out.2]; exact wordI_in ws a ha) HUK.out.2.2.2.2.2.2
      rw [show ((0 : Nat) : Int) = 0 from rfl] at hrr
      rw [hrr] at hrf
      have HE11 := Lib.hid (And.intro (HE10.out.1.trans e11) hr)
      clear hrn hB3 hrr e11 hr
      generalize runF X (some (0, X.start)) (wordI ws) = L at *
      generalize wordI ws = wsI at *
      go_wp2_with (first
        | (with_reducible refine wpList_load_row rfl 52 _ rfl d9 rfl 52 _ (0, 0) _ hB9 Tryd.underlying52 rfl (by kernel_rfl) ?_)
        | ((with_reducible refine hrf.mono ?_); rintro e W12 ⟨A7, c7, rfl, h7, e7⟩; have hwd := word_lit W12 Br L.length _ L _ (HE11.out.2.ext e7) rfl h7)
        | ((with_reducible refine hwd.mono ?_); rintro e W13 ⟨rfl, e13⟩; have hlv := lives_any W13 (HW.out.2.ext (HE11.out.1.trans (e7.trans e13))))
        | ((with_reducible refine hlv.mono ?_); rintro e W14 ⟨rfl, e14⟩))
      go_ret
      exact ⟨rfl, HE11.out.1.trans (e7.trans (e13.trans e14))⟩
end Go.Proofs.YtggffdkgfgdaoaaDoor
