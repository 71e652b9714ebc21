/- ref27.Make 25. -/
import Derived.Test.YtamodjlifpjaoaaDoorX1
namespace Go.Proofs.YtamodjlifpjaoaaDoor
open Go.RowKit
set_option linter.unusedVariables false
set_option linter.unusedSimpArgs false
attribute [local go_sem] Oper.quietV quietV Oper.gives givesV ext_refl_iff ext_alloc_iff ext_drew_iff ext_drewN_iff
/-- A node that gives an input, and what follows it. -/
def OwnNd (N : Nat) (a y : Int) (v : Value) (w : World) : Prop := ∃ b b', v = .slice (some ⟨b, 0, none⟩) 1 1 ∧ N ≤ b ∧ N ≤ b' ∧ w.heap[b]? = some (.cells #[.int .i64 a, .slice (some ⟨b', 0, none⟩) 1 1] 56 (0, 0)) ∧ w.heap[b']? = some (.cells #[.int .i64 y] 3 (0, 0))
theorem stays_ownNd (N : Nat) (a y : Int) : Stays Ext (OwnNd N a y) := fun v w w' hE ⟨b, b', hv, h1, h2, h3, h4⟩ => ⟨b, b', hv, h1, h2, heap_ext hE h3, heap_ext hE h4⟩
theorem mkT_in {x : Lts} {a : Int} {q : List Int} {S f : Nat} (h1 : a ≠ -1) (h2 : aftM x S a ≠ 0) : mkT x (a :: q) S f = ⟨a, [((f + 1 : Nat) : Int)]⟩ :: mkT x q (aftM x S a) (f + 1) := by
  rw [mkT_node (.inr h2), show labsOf x a = [a] from if_neg h1]
  simp [kidsT, kidB, subT, h2]
theorem one_int_blk {w : World} {b : Nat} {y : Int} (h : w.heap[b]? = some (.cells #[.int .i64 y] 3 (0, 0))) : IntsC w (.slice (some ⟨b, 0, none⟩) 1 1) [y] 1 := ints_blk h rfl rfl (by omega)
set_option maxRecDepth 100000 in
set_option maxHeartbeats 16000000 in
theorem rm_nil (x : Lts) : MakeS x [] := by
  intro W v sv pv S cs cp f hd hS hsv hp hlen
  obtain ⟨A, c, rfl, _, _⟩ := hd.form
  obtain ⟨Ap, rfl, _, _, _⟩ := hp
  have HM : Hid (mkT x [] S f = [⟨-2, []⟩]) := Lib.hid rfl
  clear hd hS hsv hlen
  go_enter Tryd.func25, Tryd.ntmps25
  go_upto_region 1 with fail
  refine wp_named ?_
  intro W1 hW1
  obtain ⟨hE1, k0, k1, k2⟩ := lts_box (x := x) (A := A) (c := c) hW1
  clear hW1
  generalize W.heap.size = b1 at *
  have hE0 := Ext.refl W1
  have HE := Lib.hid hE1
  clear hE1 k0 k1 k2
  go_wp2
  go_ret
  rw [HM.out]
  refine ⟨_, 1, rfl, ⟨some ⟨W1.heap.size, 0, none⟩, [(⟨-2, []⟩, .slice none 0 0)], rfl, rfl, ?_, ndT_nil _ _, fun z hz => ?_, by simp, by simp [lenMax], _, _, rfl, HE.out.size, heap_alloc_new W1 _⟩, HE.out.trans (alloc_ext W1 _)⟩
  · exact cells_blk (cs := #[.int .i64 (-2), .slice none 0 0]) (heap_alloc_new W1 _)
  · rw [List.mem_singleton.1 hz]; exact far_nil _ 0 0
set_option maxRecDepth 100000 in
set_option maxHeartbeats 16000000 in
theorem rm_cons (x : Lts) (hg : Good x) (a : Int) (q : List Int) (ha : a = -1 ∨ 0 ≤ a ∧ a < x.ins) (IH : MakeS x q) : MakeS x (a :: q) := by
  intro W v sv pv S cs cp f hd hS hsv hp hlen
  obtain ⟨i56, hi56, hz56, hs56, hb56⟩ := info_parts node_info
  obtain ⟨A, c, rfl, hr, hrl⟩ := id hd.form
  obtain ⟨As, rfl, _, _, _⟩ := id hsv
  have b1' := hg.ins
  have b2' := hg.outs
  obtain ⟨bp, op, hpv, hcp, hp0⟩ : ∃ b o, pv = .slice (some ⟨b, o, none⟩) (q.length + 1) cp ∧ q.length + 1 ≤ cp ∧ W.cell? ⟨b, o, none⟩ = some (.int .i64 a) := by
    obtain ⟨A, hv, hc, h1, h2⟩ := hp
    obtain ⟨b, o, h, hcc⟩ := int_at hc (k := 0) (y := a) rfl
    subst h
    exact ⟨b, o, by rw [hv]; simp, by simpa using h1, hcc⟩
  subst hpv
  have hlq : q.length + 1 ≤ 9223372036854775807 := by
    obtain ⟨A, hv, _, _, h2⟩ := hp
    unfold lenMax at h2; simpa using h2
  have hpI : (0 : Int) < ((q.length + 1 : Nat) : Int) := by omega
  have hpN : ¬ ((q.length + 1 : Nat) : Int) = 0 := by omega
  have hfl : f ≤ 100000 := by omega
  have hf1 : IntKind.i64.wrap ((f : Int) + 1) = (f : Int) + 1 := by rw [IntKind.wrap_i64]; omega
  go_enter Tryd.func25, Tryd.ntmps25
  go_upto_region 1 with fail
  refine wp_named ?_
  intro W1 hW1
  obtain ⟨hE1, k0, k1, k2⟩ := lts_box (x := x) (A := A) (c := c) hW1
  clear hW1
  generalize W.heap.size = b1 at *
  have hE0 := Ext.refl W1
  have hp0 := fun w' (h : Ext W1 w') => (hE1.trans h).cell hp0
  have HX := Lib.hid (And.intro hE1 (And.intro hg (And.intro hS (And.intro (hsv.ext hE1) (And.intro (hp.ext hE1) (And.intro hlen (And.intro IH (And.intro (hd.ext hE1) ha))))))))
  have HK := Lib.hid (And.intro k0 (And.intro k1 k2))
  have hnx := refNext_any W1 _ _ x S cs a (hd.ext hE1) hg hS (hsv.ext hE1)
  clear hE1 hg hS hsv hp hlen IH hr hrl hd
  by_cases hw : a = -1
  · have g1 : (a != -1) = false := by simp [hw]
    have HW := Lib.hid hw
    clear hw hnx
    go_upto_region 999 with (first | (with_reducible refine stop_at 8 ?_) | (with_reducible refine stop_at2 8 ?_))
    refine ⟨?_⟩
    have hw := HW.out
    subst hw
    exact rm_t8 W W1 b1 x q S f cs cp bp op _ _ _ _ _ _ _ _ _ _ _ _ _ _ _ _ _ _ _ _ _ _ _ _ _ _ _ _ _ _ _ _ _ _ _ _ _ _ _ _ _ _ _ _ _ _ _ _ _ _ _ _ _ _ _ _ _ _ _ _ _ _ _ _ _ _ _ _ _ _ _ _ _ _ _ _ _ _ _ _ _ _ _ _ _ _ _ _ _ _ _ _ _ _ _ _ _ _ _ _ HX.out.1 ⟨A, c, HK.out.1 W1 (Ext.refl _), HK.out.2.1 W1 (Ext.refl _), HK.out.2.2 W1 (Ext.refl _), HX.out.2.2.2.2.2.2.2.1⟩ HX.out.2.1 HX.out.2.2.1 HX.out.2.2.2.1 (by simpa using HX.out.2.2.2.2.1) HX.out.2.2.2.2.2.1 HX.out.2.2.2.2.2.2.1
  · have g1 : (a != -1) = true := by simp [hw]
    have hab : 0 ≤ a ∧ a < x.ins := ha.resolve_left hw
    have hnx := hnx (by omega) (by omega)
    have HW := Lib.hid hw
    obtain ⟨T, hT⟩ : ∃ T, aftM x S a = T := ⟨_, rfl⟩
    rw [hT] at hnx
    have hTl : T < 2 ^ x.n := by rw [← hT]; exact aftM_lt HX.out.2.1 HX.out.2.2.1 _
    have hz := memI_zero T (HX.out.2.1.mask64 hTl)
    have HT := Lib.hid (And.intro hT hTl)
    have hb1 := cut_tail bp op q.length cp hcp
    have hpt := ints_tail HX.out.2.2.2.2.1
    obtain ⟨A', hA'⟩ : ∃ A' : Option Addr, A' = if cp = 1 then some ⟨bp, op, none⟩ else some ⟨bp, op + 1, none⟩ := ⟨_, rfl⟩
    rw [← hA'] at hpt
    simp only [← hA'] at hb1
    have HPT := Lib.hid hpt
    clear hw hT hTl hpt hA' ha hab
    go_upto_region 4 with fail
    refine wp_region_ext 5 (factsOf []) (fun k => ([[], [], [], [2], [2, 3], [0, 1, 2, 3, 4], [0, 1, 2, 3, 4, 5]] : List (List Nat)).getD k []) (by kernel_rfl) (by kernel_rfl) Ext.pre (mono_nil) ?_
    simp only [List.take_succ_cons, List.take_zero]
    repeat (first | (with_reducible refine lexL_quiet' (v := ?_) ?_ ?_ ?_ ?_; rotate_left; (· with_reducible rfl); (· simp [factsOf]); (· intro w1 hw1 _; go_simp; with_reducible rfl); (try simp only [Act.put, List.setIfInBounds_toArray, List.set_cons_zero, List.set_cons_succ])) | (with_reducible refine lexL_skip ?_ ?_; (· simp [Region.wanted, yielded, undef]); (try simp only [Act.put, List.setIfInBounds_toArray, List.set_cons_zero, List.set_cons_succ])) | (with_reducible refine lexL_quiet (v := ?_) ?_ ?_ ?_ ?_; rotate_left; (· simp [Region.wanted, yielded, undef]); (· simp [factsOf]); (· intro w1 hw1 _; go_simp; with_reducible rfl); (try simp only [Act.put, List.setIfInBounds_toArray, List.set_cons_zero, List.set_cons_succ])))
    with_reducible refine lexL_nil ?_; intro w1 hw1 hk1; simp only [List.drop_succ_cons, List.drop_zero]
    have HW1 := Lib.hid hw1
    have hnx := fun W' (e : Ext W1 W') => refNext_any W' (.agg #[.int .i64 x.ins, .int .i64 x.outs, .slice A x.rows.length c]) (.slice As (memI S).length cs) x S cs a (HX.out.2.2.2.2.2.2.2.1.ext e) HX.out.2.1 HX.out.2.2.1 (HX.out.2.2.2.1.ext e) (by rcases HX.out.2.2.2.2.2.2.2.2 with h | h; exact absurd h HW.out; omega) (by rcases HX.out.2.2.2.2.2.2.2.2 with h | h; exact absurd h HW.out; omega)
    rw [HT.out.1] at hnx
    have hnx1 := hnx w1 hw1
    clear hk1 hw1 hnx
    by_cases h0 : T = 0
    · have g0 : (((memI T).length : Int) == 0) = true := by rw [hz, h0]; rfl
      have HM := Lib.hid (mkT_skip (p := q) (f := f) HW.out (HT.out.1.trans h0))
      clear hz h0
      go_upto_region 6 with ((with_reducible refine hnx1.mono ?_); rintro e W8 ⟨rv2, c2, rfl, ⟨A2, rfl, hi2⟩, e8⟩; have H8 := Lib.hid (HW1.out.trans e8); clear hi2 e8)
      have k0 := fun w' (h : Ext W8 w') => HK.out.1 w' (H8.out.trans h)
      have k1 := fun w' (h : Ext W8 w') => HK.out.2.1 w' (H8.out.trans h)
      have k2 := fun w' (h : Ext W8 w') => HK.out.2.2 w' (H8.out.trans h)
      have hE8 := Ext.refl W8
      have hih : ∀ W', Ext W8 W' → Calls Tryd.prog 25 #[.agg #[.int .i64 x.ins, .int .i64 x.outs, .slice A x.rows.length c], .slice As (memI S).length cs, .slice A' q.length (cp - 1), .int .i64 (f : Int)] W' (RMakeP W' (mkT x q S f)) := fun W' e =>
        HX.out.2.2.2.2.2.2.1 W' _ _ _ S cs (cp - 1) f (HX.out.2.2.2.2.2.2.2.1.ext (H8.out.trans e)) HX.out.2.2.1 (HX.out.2.2.2.1.ext (H8.out.trans e)) (HPT.out.ext (H8.out.trans e)) (by rw [← HM.out]; exact HX.out.2.2.2.2.2.1)
      clear hp0 hE0
      refine wp_region_ext 5 (factsOf []) (fun k => ([[], [], [], [2], [], [0, 1, 2, 3, 4], [0, 1, 2, 3, 4, 5]] : List (List Nat)).getD k []) (by kernel_rfl) (by kernel_rfl) Ext.pre (mono_nil) ?_
      simp only [List.take_succ_cons, List.take_zero]
      repeat (first | (with_reducible refine lexL_quiet' (v := ?_) ?_ ?_ ?_ ?_; rotate_left; (· with_reducible rfl); (· simp [factsOf]); (· intro w1 hw1 _; go_simp; with_reducible rfl); (try simp only [Act.put, List.setIfInBounds_toArray, List.set_cons_zero, List.set_cons_succ])) | (with_reducible refine lexL_skip ?_ ?_; (· simp [Region.wanted, yielded, undef]); (try simp only [Act.put, List.setIfInBounds_toArray, List.set_cons_zero, List.set_cons_succ])) | (with_reducible refine lexL_quiet (v := ?_) ?_ ?_ ?_ ?_; rotate_left; (· simp [Region.wanted, yielded, undef]); (· simp [factsOf]); (· intro w1 hw1 _; go_simp; with_reducible rfl); (try simp only [Act.put, List.setIfInBounds_toArray, List.set_cons_zero, List.set_cons_succ])))
      with_reducible refine lexL_nil ?_; intro w1 hw1 hk1; simp only [List.drop_succ_cons, List.drop_zero]
      have hih1 := hih w1 hw1
      have H9 := Lib.hid (H8.out.trans hw1)
      clear hk1 hih hw1
      go_wp2_with ((with_reducible refine hih1.mono ?_); rintro e W9 ⟨rv, c9, rfl, hN, e9⟩; obtain ⟨A9, rfl⟩ := hN.give; have H10 := Lib.hid (And.intro hN e9); clear hN e9)
      go_ret
      refine ⟨_, c9, rfl, ?_, HX.out.1.trans (H9.out.trans H10.out.2)⟩
      rw [HM.out]
      exact H10.out.1.mono (HX.out.1.trans H9.out).size
    · have g0 : (((memI T).length : Int) == 0) = false := by rw [hz]; simpa using h0
      have HM := Lib.hid (mkT_in (q := q) (f := f) HW.out (fun h => h0 (HT.out.1.symm.trans h)))
      clear hz h0
      go_upto_region 7 with ((with_reducible refine hnx1.mono ?_); rintro e W8 ⟨rv2, c2, rfl, ⟨A2, rfl, hi2⟩, e8⟩; have H8 := Lib.hid (HW1.out.trans e8); have hi2' : IntsC W8 (.slice A2 (memI T).length c2) (memI T) c2 := ⟨A2, rfl, hi2⟩; clear hi2 e8)
      have k0 := fun w' (h : Ext W8 w') => HK.out.1 w' (H8.out.trans h)
      have k1 := fun w' (h : Ext W8 w') => HK.out.2.1 w' (H8.out.trans h)
      have k2 := fun w' (h : Ext W8 w') => HK.out.2.2 w' (H8.out.trans h)
      have hp0 := fun w' (h : Ext W8 w') => hp0 w' (H8.out.trans h)
      have hE8 := Ext.refl W8
      have hsl : f + 1 + (mkT x q T (f + 1)).length ≤ 100000 := by
        have h1 := HX.out.2.2.2.2.2.1
        rw [HM.out, HT.out.1, List.length_cons] at h1
        omega
      have hih : ∀ W', Ext W8 W' → Calls Tryd.prog 25 #[.agg #[.int .i64 x.ins, .int .i64 x.outs, .slice A x.rows.length c], .slice A2 (memI T).length c2, .slice A' q.length (cp - 1), .int .i64 ((f : Int) + 1)] W' (RMakeP W' (mkT x q T (f + 1))) := fun W' e => by
        have h := HX.out.2.2.2.2.2.2.1 W' _ _ _ T c2 (cp - 1) (f + 1) (HX.out.2.2.2.2.2.2.2.1.ext (H8.out.trans e)) HT.out.2 (hi2'.ext e) (HPT.out.ext (H8.out.trans e)) hsl
        rw [show ((f + 1 : Nat) : Int) = (f : Int) + 1 by omega] at h
        exact h
      have hpos := mkT_pos x q T (f + 1)
      have HSUB := Lib.hid (And.intro hsl hpos)
      clear hsl hpos hi2' hE0
      refine wp_region_ext 15 (factsOf [(5, FreshS W8.heap.size #[.int .i64 ((f : Int) + 1)] 3), (7, OwnNd W8.heap.size a ((f : Int) + 1)), (14, GiveN W8.heap.size (mkT x q T (f + 1)))]) (fun k => ([[], [0], [0, 1], [], [3], [3, 4], [0, 1, 2, 3, 4, 5], [0, 1, 2, 3, 4, 5, 6], [], [], [], [10], [], [12], [8, 9, 10, 11, 12, 13], [0, 1, 2, 3, 4, 5, 6, 7, 8, 9, 10, 11, 12, 13, 14], [0, 1, 2, 3, 4, 5, 6, 7, 8, 9, 10, 11, 12, 13, 14, 15]] : List (List Nat)).getD k []) (by kernel_rfl) (by kernel_rfl) Ext.pre (mono_cons (stays_freshS _ _ _) (mono_cons (stays_ownNd _ _ _) (mono_cons (stays_giveN _ _) (mono_nil)))) ?_
      simp only [List.take_succ_cons, List.take_zero]
      repeat (first | (with_reducible refine lexL_quiet' (v := ?_) ?_ ?_ ?_ ?_; rotate_left; (· with_reducible rfl); (· simp [factsOf]); (· intro w1 hw1 _; go_simp; with_reducible rfl); (try simp only [Act.put, List.setIfInBounds_toArray, List.set_cons_zero, List.set_cons_succ])) | (with_reducible refine lexL_skip ?_ ?_; (· simp [Region.wanted, yielded, undef]); (try simp only [Act.put, List.setIfInBounds_toArray, List.set_cons_zero, List.set_cons_succ])) | (with_reducible refine lexL_quiet (v := ?_) ?_ ?_ ?_ ?_; rotate_left; (· simp [Region.wanted, yielded, undef]); (· simp [factsOf]); (· intro w1 hw1 _; go_simp; with_reducible rfl); (try simp only [Act.put, List.setIfInBounds_toArray, List.set_cons_zero, List.set_cons_succ])))
      with_reducible refine lexL_give' (φ := ?_) ?_ ?_ ?_ ?_; rotate_left; (· with_reducible rfl); (· simp only [factsOf, Nat.reduceAdd, ↓reduceIte, Nat.reduceEqDiff]; rfl)
      · intro w5' hw5' _
        go_simp
        exact ⟨_, rfl, hw5'.size, heap_alloc_new w5' _⟩
      rintro v5 w5' hw5' ⟨b5, rfl, hb5, hblk5⟩ hk2
      clear hk2 hblk5 hb5 hw5' w5'
      (try simp only [Act.put, List.setIfInBounds_toArray, List.set_cons_zero, List.set_cons_succ])
      repeat (first | (with_reducible refine lexL_quiet' (v := ?_) ?_ ?_ ?_ ?_; rotate_left; (· with_reducible rfl); (· simp [factsOf]); (· intro w1 hw1 _; go_simp; with_reducible rfl); (try simp only [Act.put, List.setIfInBounds_toArray, List.set_cons_zero, List.set_cons_succ])) | (with_reducible refine lexL_skip ?_ ?_; (· simp [Region.wanted, yielded, undef]); (try simp only [Act.put, List.setIfInBounds_toArray, List.set_cons_zero, List.set_cons_succ])) | (with_reducible refine lexL_quiet (v := ?_) ?_ ?_ ?_ ?_; rotate_left; (· simp [Region.wanted, yielded, undef]); (· simp [factsOf]); (· intro w1 hw1 _; go_simp; with_reducible rfl); (try simp only [Act.put, List.setIfInBounds_toArray, List.set_cons_zero, List.set_cons_succ])))
      with_reducible refine lexL_give' (φ := ?_) ?_ ?_ ?_ ?_; rotate_left; (· with_reducible rfl); (· simp only [factsOf, Nat.reduceAdd, ↓reduceIte, Nat.reduceEqDiff]; rfl)
      · intro w6' hw6' hk6
        go_simp
        obtain ⟨b5', h50, h51, h52⟩ := hk6.get 5 (by decide) rfl rfl
        injection h50 with h50
        injection h50 with h50
        injection h50 with h50
        subst h50
        exact ⟨_, _, rfl, hw6'.size, h51, heap_alloc_new w6' _, heap_ext (alloc_ext w6' _) h52⟩
      rintro v7 w6' hw6' ⟨b7, b7', rfl, h71, h72, h73, h74⟩ hk2
      clear hk2 h71 h72 h73 h74 hw6' w6'
      (try simp only [Act.put, List.setIfInBounds_toArray, List.set_cons_zero, List.set_cons_succ])
      repeat (first | (with_reducible refine lexL_quiet' (v := ?_) ?_ ?_ ?_ ?_; rotate_left; (· with_reducible rfl); (· simp [factsOf]); (· intro w1 hw1 _; go_simp; with_reducible rfl); (try simp only [Act.put, List.setIfInBounds_toArray, List.set_cons_zero, List.set_cons_succ])) | (with_reducible refine lexL_skip ?_ ?_; (· simp [Region.wanted, yielded, undef]); (try simp only [Act.put, List.setIfInBounds_toArray, List.set_cons_zero, List.set_cons_succ])) | (with_reducible refine lexL_quiet (v := ?_) ?_ ?_ ?_ ?_; rotate_left; (· simp [Region.wanted, yielded, undef]); (· simp [factsOf]); (· intro w1 hw1 _; go_simp; with_reducible rfl); (try simp only [Act.put, List.setIfInBounds_toArray, List.set_cons_zero, List.set_cons_succ])))
      with_reducible refine lexL_give' (φ := ?_) ?_ ?_ ?_ ?_; rotate_left; (· with_reducible rfl); (· simp only [factsOf, Nat.reduceAdd, ↓reduceIte, Nat.reduceEqDiff]; rfl)
      · intro w5' hw5' _
        go_simp
        refine (hih w5' hw5').mono ?_
        rintro e w6 ⟨rv, c, rfl, hN, e6⟩
        obtain ⟨A9, rfl⟩ := hN.give
        exact ⟨_, rfl, e6, A9, c, rfl, hN.mono hw5'.size⟩
      rintro v9 w5' hw5' ⟨A9, c9, rfl, h9⟩ hk2
      clear hk2 h9 hw5' w5'
      (try simp only [Act.put, List.setIfInBounds_toArray, List.set_cons_zero, List.set_cons_succ])
      repeat (first | (with_reducible refine lexL_quiet' (v := ?_) ?_ ?_ ?_ ?_; rotate_left; (· with_reducible rfl); (· simp [factsOf]); (· intro w1 hw1 _; go_simp; with_reducible rfl); (try simp only [Act.put, List.setIfInBounds_toArray, List.set_cons_zero, List.set_cons_succ])) | (with_reducible refine lexL_skip ?_ ?_; (· simp [Region.wanted, yielded, undef]); (try simp only [Act.put, List.setIfInBounds_toArray, List.set_cons_zero, List.set_cons_succ])) | (with_reducible refine lexL_quiet (v := ?_) ?_ ?_ ?_ ?_; rotate_left; (· simp [Region.wanted, yielded, undef]); (· simp [factsOf]); (· intro w1 hw1 _; go_simp; with_reducible rfl); (try simp only [Act.put, List.setIfInBounds_toArray, List.set_cons_zero, List.set_cons_succ])))
      with_reducible refine lexL_nil ?_; intro w1 hw1 hk1; simp only [List.drop_succ_cons, List.drop_zero]
      obtain ⟨b7x, b8, h70, h71, h72, h73, h74⟩ := hk1.get 7 rfl rfl
      injection h70 with h70
      injection h70 with h70
      injection h70 with h70
      subst h70
      obtain ⟨A9', c9', hv9, hN9⟩ := hk1.get 14 rfl rfl
      injection hv9 with hvA _ hvc
      subst hvA hvc
      obtain ⟨A0, M9, hM9, hA9, hc9, hok9, hfar9, hl9, hm9, _⟩ := hN9
      injection hA9 with hA9 _ _
      subst hA9
      have hM9l : M9.length = (mkT x q T (f + 1)).length := by rw [← hM9, List.length_map]
      obtain ⟨b9, o9, hA9, _, hcc9⟩ := hc9 (by rw [nds_len, hM9l]; have := HSUB.out.2; omega)
      subst hA9
      have HF := Lib.hid (And.intro hw1 (And.intro hM9 (And.intro hok9 (And.intro hfar9 (And.intro h72 h74)))))
      have h63b := HSUB.out.1
      have hpos := HSUB.out.2
      have hnewl : (ndsV M9).length = (mkT x q T (f + 1)).length * 2 := by rw [nds_len, hM9l]
      have hnews : ∀ j u, (ndsV M9)[j]? = some u → w1.cell? ((⟨b9, o9, none⟩ : Addr).add j) = some u := fun j u hj => by rw [Addr.add_lit]; exact hcc9 j u hj
      have hcells : Cells w1 (some ⟨b7, 0, none⟩) [.int .i64 a, .slice (some ⟨b8, 0, none⟩) 1 1] := cells_blk h73
      rw [← hM9l] at hnewl h63b hpos ⊢
      have HML := Lib.hid hM9l
      clear hk1 hw1 hM9 hok9 hfar9 hc9 hcc9 hM9l hih hb1 k0 k1 k2 hp0 hl9 hm9 h71 h72 h73 h74 hE8
      go_wp2_with (at_builtin; refine wpList_append_full2 rfl _ _ 48 rfl 56 i56 (.agg #[.int .i64 0, .slice none 0 0]) 2 32 Tryd.underlying48 hi56 hz56 hs56 hb56 (by decide) (some ⟨b7, 0, none⟩) 1 [.int .i64 a, .slice (some ⟨b8, 0, none⟩) 1 1] rfl rfl hcells (fun h => by cases h) ⟨b9, o9, none⟩ M9.length c9 (ndsV M9) rfl hnewl hnews hpos (by unfold maxLen; omega) (by omega) ?_; intro c10 w10 e10 hc10 hn10 hd10; have H10 := Lib.hid (And.intro e10 (And.intro hc10 (And.intro hn10 hd10))); clear e10 hc10 hn10 hd10)
      go_ret
      have hlm : (mkT x (a :: q) S f).length = 1 + M9.length := by rw [HM.out, HT.out.1, List.length_cons, HML.out]; omega
      have hsz := (HX.out.1.trans H8.out).size
      refine ⟨_, c10, rfl, ⟨_, ((⟨a, [((f + 1 : Nat) : Int)]⟩, .slice (some ⟨b8, 0, none⟩) 1 1) : Nd × Value) :: M9, by rw [List.map_cons, HF.out.2.1, HM.out, HT.out.1], by rw [hlm]; rfl, H10.out.2.1, NdT.cons ?_ ?_ (ndT_ext HF.out.2.2.1 H10.out.1), fun z hz => ?_, by rw [hlm]; exact H10.out.2.2.1, by rw [hlm]; unfold lenMax; omega, ?_⟩, HX.out.1.trans (H8.out.trans (HF.out.1.trans H10.out.1))⟩
      · exact ⟨1, one_int_blk (heap_ext H10.out.1 (by have := HF.out.2.2.2.2.2; rw [show ((f + 1 : Nat) : Int) = (f : Int) + 1 by omega]; exact this))⟩
      · exact typ_at (heap_ext H10.out.1 HF.out.2.2.2.2.2) _ _ _
      · rcases List.mem_cons.1 hz with rfl | hz
        · exact far_at (Nat.le_trans hsz HF.out.2.2.2.2.1) _ _ _
        · exact (HF.out.2.2.2.1 z hz).mono hsz
      · obtain ⟨cs, hd⟩ := H10.out.2.2.2
        exact ⟨_, cs, rfl, (HX.out.1.trans (H8.out.trans HF.out.1)).size, hd⟩
theorem refMake_any (x : Lts) (hg : Good x) : ∀ (p : List Int), okPlan x p → MakeS x p
  | [], _ => rm_nil x
  | a :: q, h => rm_cons x hg a q (h a (by simp)) (refMake_any x hg q (fun z hz => h z (by simp [hz])))
end Go.Proofs.YtamodjlifpjaoaaDoor
