/- ref29.Check 26. -/
import Derived.Test.YtggffdkgfgdaoaaDoorF8
import Derived.Test.YtggffdkgfgdaoaaDoorE13
namespace Go.Proofs.YtggffdkgfgdaoaaDoor
open Go.RowKit
set_option linter.unusedVariables false
set_option linter.unusedSimpArgs false
attribute [local go_sem] Oper.quietV quietV Oper.gives givesV ext_refl_iff ext_alloc_iff ext_drew_iff ext_drewN_iff
set_option maxRecDepth 100000 in
set_option maxHeartbeats 16000000 in
theorem refCheck29_any (w : World) (xv : Value) (x : Xt) (hx : XtV w x xv) : Calls Tryd.prog 26 #[xv] w (ErrP w (xtR x)) := by
  obtain ⟨r, hr⟩ : ∃ r : Int, r = xtR x := ⟨_, rfl⟩
  rw [← hr]
  rw [xtR_eq] at hr
  have HXX := Lib.hid hx
  obtain ⟨vv, sv, av, c1, c2, c3, rfl, hvv, hsv, hav⟩ := hx
  have hvl := fun W' (e : Ext w W') => refCheckValues_any W' vv sv x.vars x.start c1 c2 (hvv.ext e) (hsv.ext e)
  unfold ErrP at hvl
  obtain ⟨Av0, hvv0, hvv1, hvv2, hvv3, hvv4⟩ := hvv
  obtain ⟨As, hs0, hs1, hs2, hs3⟩ := hsv
  obtain ⟨Aa, as', ha0, hal, hac, has, han, ham⟩ := hav
  subst hvv0 hs0 ha0
  unfold lenMax at hvv3 hs3 ham
  have HX := Lib.hid (And.intro hac (And.intro has hal))
  obtain ⟨q, hq⟩ : ∃ q, q = valsR x.vars x.start := ⟨_, rfl⟩
  rw [← hq] at hvl hr
  have HR0 := Lib.hid hr
  have HARC : Hid (∀ W' (e : Ext w W') a y, ArcV w a y → Calls Tryd.prog 53 #[.agg #[.int .i64 x.ins, .int .i64 x.outs, .int .i64 x.states, .slice Av0 x.vars.length c1, .slice As x.start.length c2, .slice Aa x.arcs.length c3], avVal y] W' (ErrP W' (arcR x a))) := Lib.hid (fun W' e a y h => refArc_any W' _ x a y (HXX.out.ext e) (h.ext e))
  obtain ⟨F, hF⟩ : ∃ F, F = acErr x := ⟨_, rfl⟩
  have HF0 : Hid (∀ i a, x.arcs[i]? = some a → F i = arcR x a) := Lib.hid (by intro i a h; rw [hF]; unfold acErr; rw [h])
  rw [← hF] at HR0
  clear hr hq hac has hal hvv1 hvv4 hs1 hF HXX
  obtain ⟨R, hR⟩ : ∃ R : Ac → Int, R = arcR x := ⟨_, rfl⟩
  rw [← hR] at HARC HF0
  clear hR
  generalize x.vars = vars at *
  generalize x.start = start at *
  generalize x.arcs = arcs at *
  generalize x.ins = xins at *
  generalize x.outs = xouts at *
  generalize x.states = xst at *
  go_enter Tryd.func26, Tryd.ntmps26
  go_upto_region 1 with fail
  refine wp_named ?_
  intro W1 hW1
  have hE1 : Ext w W1 := by rw [hW1]; exact alloc_ext w _
  have e0 : ∀ w', Ext W1 w' → w'.cell? ⟨w.heap.size, 0, none⟩ = some (.int .i64 xins) := fun w' h => h.cell (by rw [hW1]; simp [go_sem])
  have e1 : ∀ w', Ext W1 w' → w'.cell? ⟨w.heap.size, 1, none⟩ = some (.int .i64 xouts) := fun w' h => h.cell (by rw [hW1]; simp [go_sem])
  have e2 : ∀ w', Ext W1 w' → w'.cell? ⟨w.heap.size, 2, none⟩ = some (.int .i64 xst) := fun w' h => h.cell (by rw [hW1]; simp [go_sem])
  have e3 : ∀ w', Ext W1 w' → w'.cell? ⟨w.heap.size, 3, none⟩ = some (.slice Av0 vars.length c1) := fun w' h => h.cell (by rw [hW1]; simp [go_sem])
  have e4 : ∀ w', Ext W1 w' → w'.cell? ⟨w.heap.size, 4, none⟩ = some (.slice As start.length c2) := fun w' h => h.cell (by rw [hW1]; simp [go_sem])
  have e5 : ∀ w', Ext W1 w' → w'.cell? ⟨w.heap.size, 5, none⟩ = some (.slice Aa arcs.length c3) := fun w' h => h.cell (by rw [hW1]; simp [go_sem])
  have hR1 := Ext.refl W1
  have HE1 := Lib.hid hE1
  have hvl1 := hvl W1 hE1
  clear hW1 hvl hE1
  generalize w.heap.size = d2 at *
  by_cases g1 : 16 < xins
  · skip
    have HR : Hid (r = 3) := Lib.hid (by rw [HR0.out, if_pos (.inl g1)])
    go_wp2
    go_ret
    exact ⟨by rw [HR.out]; rfl, HE1.out⟩
  by_cases g2 : 16 < xouts
  · skip
    have HR : Hid (r = 3) := Lib.hid (by rw [HR0.out, if_pos (.inr (.inl g2))])
    go_wp2
    go_ret
    exact ⟨by rw [HR.out]; rfl, HE1.out⟩
  by_cases g3 : 64 < xst
  · skip
    have HR : Hid (r = 3) := Lib.hid (by rw [HR0.out, if_pos (.inr (.inr (.inl g3)))])
    go_wp2
    go_ret
    exact ⟨by rw [HR.out]; rfl, HE1.out⟩
  by_cases g4 : (256 : Int) < arcs.length
  · skip
    have HR : Hid (r = 3) := Lib.hid (by rw [HR0.out, if_pos (.inr (.inr (.inr (by omega))))])
    go_wp2
    go_ret
    exact ⟨by rw [HR.out]; rfl, HE1.out⟩
  have HR0 : Hid (r = if q ≠ 0 then q else if xins < 1 ∨ xouts < 1 ∨ xst < 1 then 1 else firstE F arcs.length) := Lib.hid (by rw [HR0.out, if_neg (by omega)])
  go_upto_region 3 with fail
  by_cases hq0 : q = 0
  rotate_left
  · have HR : Hid (r = q) := Lib.hid (by rw [HR0.out, if_pos hq0])
    have hz2 : (q != 0) = true := bne_iff_ne.2 hq0
    clear hq0
    go_upto_region 6 with (first | ((with_reducible refine hvl1.mono ?_); rintro e W2 ⟨rfl, e2'⟩))
    go_ret
    exact ⟨by rw [HR.out]; rfl, HE1.out.trans e2'⟩
  subst hq0
  have HR0 : Hid (r = if xins < 1 ∨ xouts < 1 ∨ xst < 1 then 1 else firstE F arcs.length) := Lib.hid (by rw [HR0.out]; rfl)
  go_upto_region 6 with (first | ((with_reducible refine hvl1.mono ?_); rintro e W2 ⟨rfl, e2'⟩))
  have e0 := fun w' (h : Ext W2 w') => e0 w' (e2'.trans h)
  have e1 := fun w' (h : Ext W2 w') => e1 w' (e2'.trans h)
  have e2 := fun w' (h : Ext W2 w') => e2 w' (e2'.trans h)
  have e3 := fun w' (h : Ext W2 w') => e3 w' (e2'.trans h)
  have e4 := fun w' (h : Ext W2 w') => e4 w' (e2'.trans h)
  have e5 := fun w' (h : Ext W2 w') => e5 w' (e2'.trans h)
  have HE2 := Lib.hid (HE1.out.trans e2')
  have hR2 := Ext.refl W2
  clear hvl1 hR1 e2' HE1
  by_cases l1 : xins < 1
  · skip
    have HR : Hid (r = 1) := Lib.hid (by rw [HR0.out, if_pos (.inl l1)])
    go_wp2
    go_ret
    exact ⟨by rw [HR.out]; rfl, HE2.out⟩
  by_cases l2 : xouts < 1
  · skip
    have HR : Hid (r = 1) := Lib.hid (by rw [HR0.out, if_pos (.inr (.inl l2))])
    go_wp2
    go_ret
    exact ⟨by rw [HR.out]; rfl, HE2.out⟩
  by_cases l3 : xst < 1
  · skip
    have HR : Hid (r = 1) := Lib.hid (by rw [HR0.out, if_pos (.inr (.inr l3))])
    go_wp2
    go_ret
    exact ⟨by rw [HR.out]; rfl, HE2.out⟩
  have HR0 : Hid (r = firstE F arcs.length) := Lib.hid (by rw [HR0.out, if_neg (by omega)])
  go_wp2
  go_loopw [4] (fun iv wr => ∃ (i : Nat), iv = .int .i64 i ∧ i ≤ arcs.length ∧ Hid (∀ k < i, F k = 0) ∧ Hid (Ext W2 wr)) (fun iv _ => arcs.length - (intOf iv).toNat)
  case atStart => exact ⟨0, by first | rfl | simp, Nat.zero_le _, Lib.hid (by intro k h; omega), Lib.hid (Ext.refl _)⟩
  case round =>
    obtain ⟨i, rfl, hi, HF, HW⟩ := hrel
    obtain ⟨W5, hW5⟩ : ∃ W, W = wr := ⟨_, rfl⟩; subst hW5
    have hR5 := Ext.refl W5
    have e0 := fun w' (h : Ext W5 w') => e0 w' (HW.out.trans h)
    have e1 := fun w' (h : Ext W5 w') => e1 w' (HW.out.trans h)
    have e2 := fun w' (h : Ext W5 w') => e2 w' (HW.out.trans h)
    have e3 := fun w' (h : Ext W5 w') => e3 w' (HW.out.trans h)
    have e4 := fun w' (h : Ext W5 w') => e4 w' (HW.out.trans h)
    have e5 := fun w' (h : Ext W5 w') => e5 w' (HW.out.trans h)
    have HW5 := Lib.hid (HE2.out.trans HW.out)
    clear hR2
    by_cases hlt : i < arcs.length
    · have hlI : (i : Int) < (arcs.length : Int) := by omega
      obtain ⟨a, ha⟩ : ∃ a, arcs[i]? = some a := ⟨_, List.getElem?_eq_getElem hlt⟩
      obtain ⟨bs, os, g1', g2', A9, nl, cs9, Au, nu, cu, hA, hay, d0, d1, d2', d3, d4, d5, d6, d7⟩ := arc_lit HX.out.2.2 HX.out.1 HX.out.2.1 ha
      subst hA
      have HLT := Lib.hid hlt
      have HFA := Lib.hid (HF0.out i a ha)
      have hcl := fun W' (e : Ext W5 W') => HARC.out W' (HW5.out.trans e) a _ hay
      unfold avVal ErrP at hcl
      dsimp only at hcl
      obtain ⟨q3, hq3⟩ : ∃ q, q = R a := ⟨_, rfl⟩
      rw [← hq3] at hcl HFA
      clear hq3 ha hay
      have d0 := fun w' (h : Ext W5 w') => (HW5.out.trans h).cell d0
      have d1 := fun w' (h : Ext W5 w') => (HW5.out.trans h).cell d1
      have d2' := fun w' (h : Ext W5 w') => (HW5.out.trans h).cell d2'
      have d3 := fun w' (h : Ext W5 w') => (HW5.out.trans h).cell d3
      have d4 := fun w' (h : Ext W5 w') => (HW5.out.trans h).cell d4
      have d5 := fun w' (h : Ext W5 w') => (HW5.out.trans h).cell d5
      have d6 := fun w' (h : Ext W5 w') => (HW5.out.trans h).cell d6
      have d7 := fun w' (h : Ext W5 w') => (HW5.out.trans h).cell d7
      go_upto_region 11 with fail
      refine wp_region_ext 6 (factsOf []) (fun k => ([[], [], [1], [], [1, 2, 3], [1, 2, 3, 4], [0, 1, 2, 3, 4, 5], [0, 1, 2, 3, 4, 5, 6]] : List (List Nat)).getD k []) (by kernel_rfl) (by kernel_rfl) Ext.pre (mono_nil) ?_
      simp only [List.take_succ_cons, List.take_zero]
      repeat (first | (with_reducible refine lexL_quiet' (v := ?_) ?_ ?_ ?_ ?_; rotate_left; (· with_reducible rfl); (· simp [factsOf]); (· intro w1 hw1 _; go_simp; with_reducible rfl); (try simp only [Act.put, List.setIfInBounds_toArray, List.set_cons_zero, List.set_cons_succ])) | (with_reducible refine lexL_skip ?_ ?_; (· simp [Region.wanted, yielded, undef]); (try simp only [Act.put, List.setIfInBounds_toArray, List.set_cons_zero, List.set_cons_succ])) | (with_reducible refine lexL_quiet (v := ?_) ?_ ?_ ?_ ?_; rotate_left; (· simp [Region.wanted, yielded, undef]); (· simp [factsOf]); (· intro w1 hw1 _; go_simp; with_reducible rfl); (try simp only [Act.put, List.setIfInBounds_toArray, List.set_cons_zero, List.set_cons_succ])))
      with_reducible refine lexL_nil ?_; intro w1 hw1 hk1; simp only [List.drop_succ_cons, List.drop_zero]
      have hcl1 := hcl w1 hw1
      clear hcl e0 e1 e2 e3 e4 d0 d1 d2' d3 d4 d5 d6 d7 hR5
      by_cases hq0 : q3 = 0
      · subst hq0
        go_upto_region 12 with (first | ((with_reducible refine hcl1.mono ?_); rintro e W8 ⟨rfl, e8⟩))
        clear hcl1 hk1
        go_wp2
        refine ⟨⟨i + 1, by go_num, hlt, Lib.hid ?_, Lib.hid ((HW.out.trans hw1).trans e8)⟩, ?_⟩
        · intro k hk
          by_cases hki : k = i
          · subst hki; exact HFA.out
          · exact HF.out k (by omega)
        · simp [intOf]; omega
      · have HR : Hid (r = q3) := Lib.hid (by rw [HR0.out, firstE_at HLT.out HF.out (by rw [HFA.out]; exact hq0), HFA.out])
        have hz2 : (q3 != 0) = true := bne_iff_ne.2 hq0
        clear hq0
        go_upto_region 12 with (first | ((with_reducible refine hcl1.mono ?_); rintro e W8 ⟨rfl, e8⟩))
        clear hcl1 hk1
        go_wp2
        go_ret
        exact ⟨by rw [HR.out]; rfl, (HW5.out.trans hw1).trans e8⟩
    · have hie : i = arcs.length := by omega
      subst hie
      have hlt2 : ¬ (arcs.length : Int) < (arcs.length : Int) := by omega
      have HR : Hid (r = 0) := Lib.hid (by rw [HR0.out]; exact firstE_zero HF.out)
      go_wp2
      go_ret
      exact ⟨by rw [HR.out]; rfl, HW5.out⟩
end Go.Proofs.YtggffdkgfgdaoaaDoor
