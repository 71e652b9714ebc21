/- ref29.Same 14. -/
import Derived.Test.YtggffdkgfgdaoaaDoorC2
namespace Go.Proofs.YtggffdkgfgdaoaaDoor
open Go.RowKit Go.Maps
set_option linter.unusedVariables false
set_option linter.unusedSimpArgs false
attribute [local go_sem] Oper.quietV quietV Oper.gives givesV ext_refl_iff ext_alloc_iff ext_drew_iff ext_drewN_iff
set_option maxRecDepth 100000 in
set_option maxHeartbeats 4000000 in
theorem refSame_any (w : World) (s s' : Int) (v v' : Value) (xs ys : List Int) (c c' : Nat) (hv : IntsC w v xs c) (hv' : IntsC w v' ys c') : Calls Tryd.prog 14 #[.agg #[.int .i64 s, v], .agg #[.int .i64 s', v']] w fun e w' => e = .returned (.int .i64 (b01 (s == s' && xs == ys))) ∧ Ext w w' := by
  obtain ⟨r, hr⟩ : ∃ r, r = (s == s' && xs == ys) := ⟨_, rfl⟩
  rw [← hr]
  obtain ⟨A, rfl, ha, hca, hx⟩ := hv
  obtain ⟨B, rfl, hb, hcb, hy⟩ := hv'
  unfold lenMax at hx hy
  have HR0 := Lib.hid hr
  have HC := Lib.hid (And.intro ha hb)
  clear hr ha hb
  go_enter Tryd.func14, Tryd.ntmps14
  go_upto_region 1 with fail
  refine wp_named ?_
  intro W1 hW1
  have hE1 : Ext w W1 := by rw [hW1]; exact (alloc_ext _ _).trans (alloc_ext _ _)
  have a0 : ∀ w', Ext W1 w' → w'.cell? ⟨w.heap.size, 0, none⟩ = some (.int .i64 s) := fun w' h => h.cell (by rw [hW1]; simp [go_sem])
  have a1 : ∀ w', Ext W1 w' → w'.cell? ⟨w.heap.size, 1, none⟩ = some (.slice A xs.length c) := fun w' h => h.cell (by rw [hW1]; simp [go_sem])
  have b0 : ∀ w', Ext W1 w' → w'.cell? ⟨w.heap.size + 1, 0, none⟩ = some (.int .i64 s') := fun w' h => h.cell (by rw [hW1]; simp [go_sem])
  have b1 : ∀ w', Ext W1 w' → w'.cell? ⟨w.heap.size + 1, 1, none⟩ = some (.slice B ys.length c') := fun w' h => h.cell (by rw [hW1]; simp [go_sem])
  have hR1 := Ext.refl W1
  have HE1 := Lib.hid hE1
  clear hW1 hE1
  generalize w.heap.size + 1 = d2 at *
  generalize w.heap.size = d1 at *
  by_cases hs : s = s'
  rotate_left
  · have HR : Hid (r = false) := Lib.hid (by rw [HR0.out, beq_eq_false_iff_ne.2 hs]; rfl)
    have hs2 : (s != s') = true := bne_iff_ne.2 hs
    clear hs
    go_wp2
    go_ret
    exact ⟨by rw [HR.out]; rfl, HE1.out⟩
  subst hs
  by_cases hn : xs.length = ys.length
  rotate_left
  · have HR : Hid (r = false) := Lib.hid (by rw [HR0.out, beq_eq_false_iff_ne.2 (show xs ≠ ys from fun e => hn (by rw [e]))]; simp)
    have hn2 : ((xs.length : Int) != (ys.length : Int)) = true := bne_iff_ne.2 (by omega)
    clear hn
    go_wp2
    go_ret
    exact ⟨by rw [HR.out]; rfl, HE1.out⟩
  have HN := Lib.hid hn
  rw [← hn] at b1 hy
  clear hn
  go_upto_region 3 with fail
  go_wp2
  go_loopw [5] (fun iv wr => ∃ i : Nat, iv = .int .i64 i ∧ i ≤ xs.length ∧ Hid (∀ j < i, xs[j]? = ys[j]?) ∧ Hid (Ext W1 wr)) (fun iv _ => xs.length - (intOf iv).toNat)
  case atStart => exact ⟨0, by first | rfl | simp, Nat.zero_le _, Lib.hid (fun j h => by omega), Lib.hid (Ext.refl _)⟩
  case round =>
    obtain ⟨i, rfl, hi, HI, HW⟩ := hrel
    obtain ⟨W2, hW2⟩ : ∃ W, W = wr := ⟨_, rfl⟩; subst hW2
    have hE2 := HW.out
    have a1 := fun w' (h : Ext W2 w') => a1 w' (hE2.trans h)
    have b1 := fun w' (h : Ext W2 w') => b1 w' (hE2.trans h)
    have hR2 := Ext.refl W2
    by_cases hlt : i < xs.length
    · have hlI : (i : Int) < (xs.length : Int) := by omega
      have hlt' : i < ys.length := by rw [← HN.out]; exact hlt
      obtain ⟨ba, oa, hA, _, ca⟩ := HC.out.1.at_int hlt
      obtain ⟨bb, ob, hB, _, cb⟩ := HC.out.2.at_int hlt'
      subst hA hB
      have hxi := List.getElem?_eq_getElem hlt
      have hyi := List.getElem?_eq_getElem hlt'
      generalize xs[i] = x at *
      generalize ys[i] = y at *
      have HXY := Lib.hid (And.intro hxi hyi)
      have ca := fun w' (h : Ext W2 w') => (HE1.out.trans (hE2.trans h)).cell ca
      have cb := fun w' (h : Ext W2 w') => (HE1.out.trans (hE2.trans h)).cell cb
      clear hxi hyi
      by_cases hq : x = y
      · subst hq
        have HI2 : Hid (∀ j < i + 1, xs[j]? = ys[j]?) := Lib.hid (fun j h => by
          by_cases hj : j = i
          · subst hj; rw [HXY.out.1, HXY.out.2]
          · exact HI.out j (by omega))
        go_upto_region 6 with fail
        refine wp_region_ext 10 (factsOf []) (fun k => ([[], [0], [], [0, 1, 2], [0, 1, 2, 3], [], [5], [], [5, 6, 7], [5, 6, 7, 8], [0, 1, 2, 3, 4, 5, 6, 7, 8, 9]] : List (List Nat)).getD k []) (by kernel_rfl) (by kernel_rfl) Ext.pre (mono_nil) ?_
        simp only [List.take_succ_cons, List.take_zero]
        repeat (first | (with_reducible refine lexL_quiet' (v := ?_) ?_ ?_ ?_ ?_; rotate_left; (· with_reducible rfl); (· simp [factsOf]); (· intro w1 hw1 _; go_simp; with_reducible rfl); (try simp only [Act.put, List.setIfInBounds_toArray, List.set_cons_zero, List.set_cons_succ])) | (with_reducible refine lexL_skip ?_ ?_; (· simp [Region.wanted, yielded, undef]); (try simp only [Act.put, List.setIfInBounds_toArray, List.set_cons_zero, List.set_cons_succ])) | (with_reducible refine lexL_quiet (v := ?_) ?_ ?_ ?_ ?_; rotate_left; (· simp [Region.wanted, yielded, undef]); (· simp [factsOf]); (· intro w1 hw1 _; go_simp; with_reducible rfl); (try simp only [Act.put, List.setIfInBounds_toArray, List.set_cons_zero, List.set_cons_succ])))
        with_reducible refine lexL_nil ?_; intro w1 hw1 hk1; simp only [List.drop_succ_cons, List.drop_zero]
        have HW1 := Lib.hid (hE2.trans hw1)
        clear ca cb a1 b1 hk1
        go_wp2
        refine ⟨⟨i + 1, by go_num, hlt, HI2, HW1⟩, ?_⟩
        simp [intOf]; omega
      · have hq2 : (x != y) = true := bne_iff_ne.2 hq
        have HR : Hid (r = false) := Lib.hid (by
          rw [HR0.out, beq_eq_false_iff_ne.2 (show xs ≠ ys from fun e => ?_)]
          · simp
          · have h1 := HXY.out.1
            rw [e, HXY.out.2] at h1
            injection h1 with h1
            exact hq h1.symm)
        clear hq
        go_upto_region 6 with fail
        refine wp_region_ext 10 (factsOf []) (fun k => ([[], [0], [], [0, 1, 2], [0, 1, 2, 3], [], [5], [], [5, 6, 7], [5, 6, 7, 8], [0, 1, 2, 3, 4, 5, 6, 7, 8, 9]] : List (List Nat)).getD k []) (by kernel_rfl) (by kernel_rfl) Ext.pre (mono_nil) ?_
        simp only [List.take_succ_cons, List.take_zero]
        repeat (first | (with_reducible refine lexL_quiet' (v := ?_) ?_ ?_ ?_ ?_; rotate_left; (· with_reducible rfl); (· simp [factsOf]); (· intro w1 hw1 _; go_simp; with_reducible rfl); (try simp only [Act.put, List.setIfInBounds_toArray, List.set_cons_zero, List.set_cons_succ])) | (with_reducible refine lexL_skip ?_ ?_; (· simp [Region.wanted, yielded, undef]); (try simp only [Act.put, List.setIfInBounds_toArray, List.set_cons_zero, List.set_cons_succ])) | (with_reducible refine lexL_quiet (v := ?_) ?_ ?_ ?_ ?_; rotate_left; (· simp [Region.wanted, yielded, undef]); (· simp [factsOf]); (· intro w1 hw1 _; go_simp; with_reducible rfl); (try simp only [Act.put, List.setIfInBounds_toArray, List.set_cons_zero, List.set_cons_succ])))
        with_reducible refine lexL_nil ?_; intro w1 hw1 hk1; simp only [List.drop_succ_cons, List.drop_zero]
        have HW1 := Lib.hid (HE1.out.trans (hE2.trans hw1))
        clear ca cb a1 b1 hk1
        go_wp2
        go_ret
        exact ⟨by rw [HR.out]; rfl, HW1.out⟩
    · have hie : i = xs.length := by omega
      subst hie
      have hlt3 : ¬ (xs.length : Int) < (xs.length : Int) := by omega
      have HR : Hid (r = true) := Lib.hid (by
        rw [HR0.out, beq_iff_eq.2 rfl, beq_iff_eq.2 (show xs = ys from List.ext_getElem? (fun j => ?_))]
        · rfl
        · by_cases hj : j < xs.length
          · exact HI.out j hj
          · rw [List.getElem?_eq_none (by omega), List.getElem?_eq_none (by rw [← HN.out]; omega)])
      go_wp2
      go_ret
      exact ⟨by rw [HR.out]; rfl, (HE1.out.trans hE2)⟩
end Go.Proofs.YtggffdkgfgdaoaaDoor
