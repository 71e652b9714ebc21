/- ref29.Arc 53. -/
import Derived.Test.YtggffdkgfgdaoaaDoorF7
namespace Go.Proofs.YtggffdkgfgdaoaaDoor
open Go.RowKit
set_option linter.unusedVariables false
set_option linter.unusedSimpArgs false
attribute [local go_sem] Oper.quietV quietV Oper.gives givesV ext_refl_iff ext_alloc_iff ext_drew_iff ext_drewN_iff
theorem num_bad {n m : Int} (h : n < 0 ∨ m ≤ n) : numB n m = false := decide_eq_false (by omega)
theorem num_good {n m : Int} (h : ¬ n < 0) (h2 : ¬ m ≤ n) : numB n m = true := decide_eq_true (by omega)
set_option maxRecDepth 100000 in
set_option maxHeartbeats 16000000 in
theorem refArc_any (w : World) (xv : Value) (x : Xt) (a : Ac) (y : Av) (hx : XtV w x xv) (ha : ArcV w a y) : Calls Tryd.prog 53 #[xv, avVal y] w (ErrP w (arcR x a)) := by
  obtain ⟨r, hr⟩ : ∃ r : Int, r = arcR x a := ⟨_, rfl⟩
  rw [← hr]
  unfold arcR at hr
  obtain ⟨vv, sv, av, c1, c2, c3, rfl, hvv, hsv, hav⟩ := hx
  obtain ⟨f1, f2, hg, f4, ⟨cu, hu⟩, f6⟩ := ha
  have hkg := fun W' (e : Ext w W') => refCheck28_any W' vv (nvVal y.g) x.vars a.guard c1 (hvv.ext e) (hg.ext e)
  have hcg := fun W' (e : Ext w W') => refCond_any W' a.guard (nvVal y.g) (hg.ext e)
  have HKU := Lib.hid (fun W' (e : Ext w W') t v (h : NodeV w t v) => refCheck28_any W' vv v x.vars t c1 (hvv.ext e) (h.ext e))
  have HCU := Lib.hid (fun W' (e : Ext w W') t v (h : NodeV w t v) => refCond_any W' t v (h.ext e))
  obtain ⟨Au, us, hyu, hul, huc, hus, hun, hum⟩ := hu
  obtain ⟨_, A8, cs8, vs8, hq8, _⟩ := hg.form
  obtain ⟨y1, y2, ⟨g1, g2, g3⟩, y4, y5, y6⟩ := y
  simp only at f1 f2 f4 f6 hyu
  subst f1 f2 f4 f6 hyu
  have hzz : g3 = .slice A8 a.guard.subs.length cs8 := by
    have h9 := congrArg (fun v => match v with | Value.agg cs => cs[2]? | _ => none) hq8
    simpa [nvVal] using h9
  subst hzz
  unfold avVal
  unfold nvVal at hkg hcg
  unfold lenMax at hum
  unfold ErrP at hkg hcg
  obtain ⟨q, hq⟩ : ∃ q, q = checkR x.vars a.guard := ⟨_, rfl⟩
  obtain ⟨qg, hqg⟩ : ∃ q, q = condT a.guard := ⟨_, rfl⟩
  rw [← hq] at hkg
  rw [← hqg] at hcg
  obtain ⟨Av0, hvv0, hvv1, hvv2, hvv3, hvv4⟩ := hvv
  subst hvv0
  unfold lenMax at hvv3
  have HX := Lib.hid (And.intro huc (And.intro hus hul))
  have HR0 := Lib.hid hr
  have HQ := Lib.hid (And.intro hq hqg)
  obtain ⟨gl, hgl⟩ : ∃ n, n = a.guard.subs.length := ⟨_, rfl⟩
  rw [← hgl] at hkg hcg ⊢
  clear hr hq hqg hg hsv hav huc hus hul hvv1 hvv4 hgl hq8
  dsimp only at *
  generalize a.frm = afrm at *
  generalize a.inp = ainp at *
  generalize a.out = aout at *
  generalize a.dst = adst at *
  generalize a.ups = ups at *
  generalize x.vars = vars at *
  generalize x.ins = xins at *
  generalize x.outs = xouts at *
  generalize x.states = xst at *
  go_enter Tryd.func53, Tryd.ntmps53
  go_upto_region 1 with fail
  refine wp_named ?_
  intro W1 hW1
  have hE1 : Ext w W1 := by rw [hW1]; exact (alloc_ext w _).trans (alloc_ext _ _)
  have e0 : W1.cell? ⟨w.heap.size, 0, none⟩ = some (.int .i64 xins) := by rw [hW1]; simp [go_sem]
  have e1 : W1.cell? ⟨w.heap.size, 1, none⟩ = some (.int .i64 xouts) := by rw [hW1]; simp [go_sem]
  have e2 : W1.cell? ⟨w.heap.size, 2, none⟩ = some (.int .i64 xst) := by rw [hW1]; simp [go_sem]
  have e3 : W1.cell? ⟨w.heap.size, 3, none⟩ = some (.slice Av0 vars.length c1) := by rw [hW1]; simp [go_sem]
  have a0 : W1.cell? ⟨w.heap.size + 1, 0, none⟩ = some (.int .i64 afrm) := by rw [hW1]; simp [go_sem]
  have a1 : W1.cell? ⟨w.heap.size + 1, 1, none⟩ = some (.int .i64 ainp) := by rw [hW1]; simp [go_sem]
  have a2 : W1.cell? ⟨w.heap.size + 1, 2, none⟩ = some (.int .u8 (g1 : Int)) := by rw [hW1]; simp [go_sem]
  have a3 : W1.cell? ⟨w.heap.size + 1, 3, none⟩ = some (.int .i64 g2) := by rw [hW1]; simp [go_sem]
  have a4 : W1.cell? ⟨w.heap.size + 1, 4, none⟩ = some (.slice A8 gl cs8) := by rw [hW1]; simp [go_sem]
  have a5 : W1.cell? ⟨w.heap.size + 1, 5, none⟩ = some (.int .i64 aout) := by rw [hW1]; simp [go_sem]
  have a6 : W1.cell? ⟨w.heap.size + 1, 6, none⟩ = some (.slice Au ups.length cu) := by rw [hW1]; simp [go_sem]
  have a7 : W1.cell? ⟨w.heap.size + 1, 7, none⟩ = some (.int .i64 adst) := by rw [hW1]; simp [go_sem]
  have HE1 := Lib.hid hE1
  have hkg1 := hkg W1 hE1
  clear hW1 hkg hE1
  generalize w.heap.size + 1 = d3 at *
  generalize w.heap.size = d2 at *
  by_cases n1 : afrm < 0
  · skip
    have HR : Hid (r = 1) := Lib.hid (by rw [HR0.out, if_pos]; rw [num_bad (.inl n1)]; simp)
    go_wp2
    go_ret
    exact ⟨by rw [HR.out]; rfl, HE1.out⟩
  by_cases n2 : xst ≤ afrm
  · skip
    have HR : Hid (r = 1) := Lib.hid (by rw [HR0.out, if_pos]; rw [num_bad (.inr n2)]; simp)
    go_wp2
    go_ret
    exact ⟨by rw [HR.out]; rfl, HE1.out⟩
  by_cases n3 : ainp < 0
  · skip
    have HR : Hid (r = 1) := Lib.hid (by rw [HR0.out, if_pos]; rw [num_bad (n := ainp) (m := xins) (.inl n3)]; simp)
    go_wp2
    go_ret
    exact ⟨by rw [HR.out]; rfl, HE1.out⟩
  by_cases n4 : xins ≤ ainp
  · skip
    have HR : Hid (r = 1) := Lib.hid (by rw [HR0.out, if_pos]; rw [num_bad (n := ainp) (m := xins) (.inr n4)]; simp)
    go_wp2
    go_ret
    exact ⟨by rw [HR.out]; rfl, HE1.out⟩
  by_cases n5 : aout < 0
  · skip
    have HR : Hid (r = 1) := Lib.hid (by rw [HR0.out, if_pos]; rw [num_bad (n := aout) (m := xouts) (.inl n5)]; simp)
    go_wp2
    go_ret
    exact ⟨by rw [HR.out]; rfl, HE1.out⟩
  by_cases n6 : xouts ≤ aout
  · skip
    have HR : Hid (r = 1) := Lib.hid (by rw [HR0.out, if_pos]; rw [num_bad (n := aout) (m := xouts) (.inr n6)]; simp)
    go_wp2
    go_ret
    exact ⟨by rw [HR.out]; rfl, HE1.out⟩
  by_cases n7 : adst < 0
  · skip
    have HR : Hid (r = 1) := Lib.hid (by rw [HR0.out, if_pos]; rw [num_bad (n := adst) (m := xst) (.inl n7)]; simp)
    go_wp2
    go_ret
    exact ⟨by rw [HR.out]; rfl, HE1.out⟩
  by_cases n8 : xst ≤ adst
  · skip
    have HR : Hid (r = 1) := Lib.hid (by rw [HR0.out, if_pos]; rw [num_bad (n := adst) (m := xst) (.inr n8)]; simp)
    go_wp2
    go_ret
    exact ⟨by rw [HR.out]; rfl, HE1.out⟩
  have HR0 : Hid (r = if kindR vars a.guard true ≠ 0 then kindR vars a.guard true else if 16 < ups.length then 3 else firstE (upErr vars ups) ups.length) := Lib.hid (by rw [HR0.out, num_good n1 n2, num_good n3 n4, num_good n5 n6, num_good n7 n8]; rfl)
  go_upto_region 3 with fail
  clear e0 e1 e2 a0 a1 a5 a7 n1 n2 n3 n4 n5 n6 n7 n8
  by_cases hq0 : q = 0
  rotate_left
  · have HR : Hid (r = q) := Lib.hid (by
      have h : kindR vars a.guard true = q := by unfold kindR; rw [← HQ.out.1, if_neg hq0]
      rw [HR0.out, h, if_pos hq0])
    have hz2 : (q != 0) = true := bne_iff_ne.2 hq0
    clear hq0
    go_wp2_with (first | ((with_reducible refine hkg1.mono ?_); rintro e W2 ⟨rfl, e2'⟩))
    go_ret
    exact ⟨by rw [HR.out]; rfl, HE1.out.trans e2'⟩
  subst hq0
  have hgk : kindR vars a.guard true = if condT a.guard = true then 0 else 15 := by unfold kindR; rw [← HQ.out.1, if_pos rfl]
  rw [← HQ.out.2] at hgk
  have HGK := Lib.hid hgk
  clear hgk
  cases qg with
  | false =>
    have hcg : ∀ W, Ext w W → Calls Tryd.prog 65 _ W fun e w' => e = .returned (.int .i64 0) ∧ Ext W w' := hcg
    have HR : Hid (r = 15) := Lib.hid (by rw [HR0.out, HGK.out]; rfl)
    go_wp2_with (first | ((with_reducible refine hkg1.mono ?_); rintro e W2 ⟨rfl, e2'⟩; have hcg2 := hcg W2 (HE1.out.trans e2'); have a2 := e2'.cell a2; have a3 := e2'.cell a3; have a4 := e2'.cell a4) | ((with_reducible refine hcg2.mono ?_); rintro e W3 ⟨rfl, e3'⟩))
    go_ret
    exact ⟨by rw [HR.out]; rfl, HE1.out.trans (e2'.trans e3')⟩
  | true =>
    have hcg : ∀ W, Ext w W → Calls Tryd.prog 65 _ W fun e w' => e = .returned (.int .i64 1) ∧ Ext W w' := hcg
    have HR0 : Hid (r = if 16 < ups.length then 3 else firstE (upErr vars ups) ups.length) := Lib.hid (by rw [HR0.out, HGK.out]; rfl)
    go_upto_region 8 with (first | ((with_reducible refine hkg1.mono ?_); rintro e W2 ⟨rfl, e2'⟩; have hcg2 := hcg W2 (HE1.out.trans e2'); have a2 := e2'.cell a2; have a3 := e2'.cell a3; have a4 := e2'.cell a4) | ((with_reducible refine hcg2.mono ?_); rintro e W3 ⟨rfl, e3'⟩))
    have hE13 := e2'.trans e3'
    have HE2 := Lib.hid (HE1.out.trans hE13)
    have e3 : ∀ w', Ext W3 w' → w'.cell? ⟨d2, 3, none⟩ = some (.slice Av0 vars.length c1) := fun w' h => (hE13.trans h).cell e3
    have a6 : ∀ w', Ext W3 w' → w'.cell? ⟨d3, 6, none⟩ = some (.slice Au ups.length cu) := fun w' h => (hE13.trans h).cell a6
    have hR3 := Ext.refl W3
    clear hkg1 hcg hcg2 a2 a3 a4 e2' e3' hE13 HE1
    by_cases hbig : (16 : Int) < ups.length
    · have HR : Hid (r = 3) := Lib.hid (by rw [HR0.out, if_pos (by omega)])
      go_wp2
      go_ret
      exact ⟨by rw [HR.out]; rfl, HE2.out⟩
    have HR0 : Hid (r = firstE (upErr vars ups) ups.length) := Lib.hid (by rw [HR0.out, if_neg (by omega)])
    go_wp2
    go_loopw [6] (fun iv wr => ∃ (i : Nat), iv = .int .i64 i ∧ i ≤ ups.length ∧ Hid (∀ k < i, upErr vars ups k = 0) ∧ Hid (Ext W3 wr)) (fun iv _ => ups.length - (intOf iv).toNat)
    case atStart => exact ⟨0, by first | rfl | simp, Nat.zero_le _, Lib.hid (by intro k h; omega), Lib.hid (Ext.refl _)⟩
    case round =>
      obtain ⟨i, rfl, hi, HF, HW⟩ := hrel
      obtain ⟨W5, hW5⟩ : ∃ W, W = wr := ⟨_, rfl⟩; subst hW5
      have hR5 := Ext.refl W5
      have e3 := fun w' (h : Ext W5 w') => e3 w' (HW.out.trans h)
      have a6 := fun w' (h : Ext W5 w') => a6 w' (HW.out.trans h)
      have HW5 := Lib.hid (HE2.out.trans HW.out)
      clear hR3
      by_cases hlt : i < ups.length
      · have hlI : (i : Int) < (ups.length : Int) := by omega
        obtain ⟨u, hu⟩ : ∃ u, ups[i]? = some u := ⟨_, List.getElem?_eq_getElem hlt⟩
        obtain ⟨bs, os, p, m, z, hA, d0, d1, d2', d3', hns⟩ := up_at HX.out.2.2 HX.out.1 HX.out.2.1 hu
        subst hA
        obtain ⟨_, A9, cs9, vs9, hq9, _⟩ := hns.form
        have hzz : z = .slice A9 u.ex.subs.length cs9 := by
          have h9 := congrArg (fun v => match v with | Value.agg cs => cs[2]? | _ => none) hq9
          simpa using h9
        subst hzz
        clear hq9
        have HLT := Lib.hid hlt
        have d0 := HW5.out.cell d0
        have d1 := HW5.out.cell d1
        have d2' := HW5.out.cell d2'
        have d3' := HW5.out.cell d3'
        obtain ⟨q2, hq2⟩ : ∃ q, q = checkR vars u.ex := ⟨_, rfl⟩
        obtain ⟨qd, hqd⟩ : ∃ q, q = condT u.ex := ⟨_, rfl⟩
        have HQ2 := Lib.hid hq2
        have HQD := Lib.hid hqd
        have HKN := Lib.hid hns
        have HUE : Hid (upErr vars ups i = if numB u.var vars.length = false ∨ (0 < i ∧ ∃ p, ups[i - 1]? = some p ∧ u.var ≤ p.var) then 1 else kindR vars u.ex false) := Lib.hid (by unfold upErr; rw [hu])
        obtain ⟨uv, huv⟩ : ∃ uv, uv = u.var := ⟨_, rfl⟩
        rw [← huv] at d0
        have HUV := Lib.hid huv
        obtain ⟨nl, hnl⟩ : ∃ nl, nl = u.ex.subs.length := ⟨_, rfl⟩
        rw [← hnl] at d3' HKN
        clear hu hq2 hqd hns huv hnl
        go_upto_region 14 with (with_reducible refine wpList_store_blk _ rfl 86 _ _ rfl W5.heap.size 86 _ _ rfl rfl (heap_alloc_new _ _) (by kernel_rfl) (by kernel_rfl) (by kernel_rfl) ?_; intro W6 h6 g6)
        have hE56 : Ext W5 W6 := Below.grown (alloc_ext W5 _) g6 (alloc_ext W5 _).size (fun k hk => by cases hk; exact Nat.le_refl _)
        have x0 : ∀ w', Ext W6 w' → w'.cell? ⟨W5.heap.size, 0, none⟩ = some (.int .i64 uv) := fun w' h => h.cell (cell_of_blk h6 0 (u := .int .i64 uv) rfl)
        have x1 : ∀ w', Ext W6 w' → w'.cell? ⟨W5.heap.size, 1, none⟩ = some (.int .u8 (p : Int)) := fun w' h => h.cell (cell_of_blk h6 1 (u := .int .u8 (p : Int)) rfl)
        have x2 : ∀ w', Ext W6 w' → w'.cell? ⟨W5.heap.size, 2, none⟩ = some (.int .i64 m) := fun w' h => h.cell (cell_of_blk h6 2 (u := .int .i64 m) rfl)
        have x3 : ∀ w', Ext W6 w' → w'.cell? ⟨W5.heap.size, 3, none⟩ = some (.slice A9 nl cs9) := fun w' h => h.cell (cell_of_blk h6 3 (u := .slice A9 nl cs9) rfl)
        have e3 := fun w' (h : Ext W6 w') => e3 w' (hE56.trans h)
        have a6 := fun w' (h : Ext W6 w') => a6 w' (hE56.trans h)
        have HE6 := Lib.hid (HW5.out.trans hE56)
        have HW6 := Lib.hid (HW.out.trans hE56)
        have hk := fun W' (e : Ext W6 W') => HKU.out W' (HE6.out.trans e) _ _ HKN.out
        have hcd := fun W' (e : Ext W6 W') => HCU.out W' (HE6.out.trans e) _ _ HKN.out
        unfold ErrP at hk hcd
        rw [← HQ2.out] at hk
        rw [← HQD.out] at hcd
        clear hE56 d0 d1 d2' d3' HW hR5 g6 h6
        generalize W5.heap.size = b4 at *
        have hR6 := Ext.refl W6
        (try simp only [Act.put, List.setIfInBounds_toArray, List.set_cons_zero, List.set_cons_succ])
        by_cases n1 : uv < 0
        · skip
          have HR : Hid (r = 1) := Lib.hid (by rw [HR0.out, firstE_at HLT.out HF.out (by rw [HUE.out, if_pos (.inl (num_bad (.inl (by have := HUV.out; omega))))]; decide), HUE.out, if_pos (.inl (num_bad (.inl (by have := HUV.out; omega))))])
          go_quiet (fail)
          go_wp2
          go_ret
          exact ⟨by rw [HR.out]; rfl, HE6.out.trans ((Ext.refl _).drewN _)⟩
        by_cases n2 : (vars.length : Int) ≤ uv
        · have H2 := Lib.hid n2
          have HR : Hid (r = 1) := Lib.hid (by rw [HR0.out, firstE_at HLT.out HF.out (by rw [HUE.out, if_pos (.inl (num_bad (.inr (by have := HUV.out; have := H2.out; omega))))]; decide), HUE.out, if_pos (.inl (num_bad (.inr (by have := HUV.out; have := H2.out; omega))))])
          go_quiet (fail)
          go_wp2
          go_ret
          exact ⟨by rw [HR.out]; rfl, HE6.out.trans ((Ext.refl _).drewN _)⟩
        have HNG : Hid (¬ numB u.var vars.length = false) := Lib.hid (by rw [← HUV.out, num_good n1 n2]; simp)
        rcases Nat.eq_zero_or_pos i with h0 | hpos
        · have HPF : Hid (¬ (numB u.var vars.length = false ∨ (0 < i ∧ ∃ p, ups[i - 1]? = some p ∧ u.var ≤ p.var))) := Lib.hid (by rintro (h | ⟨h, _⟩); exact HNG.out h; omega)
          have hg : decide (0 < i) = false := decide_eq_false (by omega)
          clear h0
          have HUE : Hid (upErr vars ups (i) = kindR vars u.ex false) := Lib.hid (by rw [HUE.out, if_neg HPF.out])
          go_quiet (fail)
          go_upto_region 16 with fail
          refine wp_named ?_
          intro W7 hW7
          have hE67 : Ext W6 W7 := by rw [hW7]; exact (Ext.refl W6).drewN _
          have hk7 := hk W7 hE67
          have HE7 := Lib.hid (And.intro (HE6.out.trans hE67) (HW6.out.trans hE67))
          have x0 := x0 W7 hE67
          have x1 := x1 W7 hE67
          have x2 := x2 W7 hE67
          have x3 := x3 W7 hE67
          have e3 := e3 W7 hE67
          have hcd := fun W (e : Ext W7 W) => hcd W (hE67.trans e)
          clear hW7 hE67 hk
          by_cases hq2 : q2 = 0
          rotate_left
          · have HR : Hid (r = q2) := Lib.hid (by
              have h := HUE.out
              unfold kindR at h
              rw [← HQ2.out, if_neg hq2] at h
              rw [HR0.out, firstE_at HLT.out HF.out (by rw [h]; exact hq2), h])
            have hz2 : (q2 != 0) = true := bne_iff_ne.2 hq2
            clear hq2
            go_wp2_with (first | ((with_reducible refine hk7.mono ?_); rintro e W8 ⟨rfl, e8⟩))
            go_ret
            exact ⟨by rw [HR.out]; rfl, HE7.out.1.trans e8⟩
          · subst hq2
            cases qd with
            | true =>
              have hcd : ∀ W, Ext W7 W → Calls Tryd.prog 65 _ W fun e w' => e = .returned (.int .i64 1) ∧ Ext W w' := hcd
              have HR : Hid (r = 15) := Lib.hid (by
                have h := HUE.out
                unfold kindR at h
                rw [← HQ2.out, if_pos rfl, ← HQD.out, if_neg (by simp)] at h
                rw [HR0.out, firstE_at HLT.out HF.out (by rw [h]; decide), h])
              go_wp2_with (first | ((with_reducible refine hk7.mono ?_); rintro e W8 ⟨rfl, e8⟩; have hcd8 := hcd W8 e8; have x1 := e8.cell x1; have x2 := e8.cell x2; have x3 := e8.cell x3) | ((with_reducible refine hcd8.mono ?_); rintro e W9 ⟨rfl, e9⟩))
              go_ret
              exact ⟨by rw [HR.out]; rfl, HE7.out.1.trans (e8.trans e9)⟩
            | false =>
              have hcd : ∀ W, Ext W7 W → Calls Tryd.prog 65 _ W fun e w' => e = .returned (.int .i64 0) ∧ Ext W w' := hcd
              have HU0 : Hid (upErr vars ups (i) = 0) := Lib.hid (by rw [HUE.out]; unfold kindR; rw [← HQ2.out, if_pos rfl, ← HQD.out, if_pos rfl])
              go_wp2_with (first | ((with_reducible refine hk7.mono ?_); rintro e W8 ⟨rfl, e8⟩; have hcd8 := hcd W8 e8; have x1 := e8.cell x1; have x2 := e8.cell x2; have x3 := e8.cell x3) | ((with_reducible refine hcd8.mono ?_); rintro e W9 ⟨rfl, e9⟩))
              refine ⟨⟨i + 1, by go_num, hlt, Lib.hid ?_, Lib.hid (HE7.out.2.trans (e8.trans e9))⟩, ?_⟩
              · intro k hk
                by_cases hki : k = i
                · subst hki; exact HU0.out
                · exact HF.out k (by omega)
              · simp [intOf]; omega
        · obtain ⟨j, rfl⟩ : ∃ j, i = j + 1 := ⟨i - 1, by omega⟩
          obtain ⟨pu, hpu⟩ : ∃ pu, ups[j]? = some pu := ⟨_, List.getElem?_eq_getElem (by omega)⟩
          obtain ⟨bp, op, _, _, _, hAp, dp, _⟩ := up_at HX.out.2.2 HX.out.1 HX.out.2.1 hpu
          injection hAp with hAp
          injection hAp with h1 h2
          subst h1 h2
          have dp := fun w' (h : Ext W6 w') => (HE6.out.trans h).cell dp
          obtain ⟨pv, hpv⟩ : ∃ pv, pv = pu.var := ⟨_, rfl⟩
          rw [← hpv] at dp
          have HP := Lib.hid (And.intro hpu hpv)
          clear hpu hpv
          by_cases hle : uv ≤ pv
          · have HLE := Lib.hid hle
            have HR : Hid (r = 1) := Lib.hid (by rw [HR0.out, firstE_at HLT.out HF.out (by rw [HUE.out, if_pos (.inr ⟨Nat.succ_pos _, pu, HP.out.1, by have := HLE.out; have := HUV.out; have := HP.out.2; omega⟩)]; decide), HUE.out, if_pos (.inr ⟨Nat.succ_pos _, pu, HP.out.1, by have := HLE.out; have := HUV.out; have := HP.out.2; omega⟩)])
            go_quiet (fail)
            go_wp2
            go_ret
            exact ⟨by rw [HR.out]; rfl, HE6.out.trans ((Ext.refl _).drewN _)⟩
          · have HPF : Hid (¬ (numB u.var vars.length = false ∨ (0 < j + 1 ∧ ∃ p, ups[j + 1 - 1]? = some p ∧ u.var ≤ p.var))) := Lib.hid (by
              rintro (h | ⟨_, p, h1, h2⟩)
              · exact HNG.out h
              · have h3 : some pu = some p := HP.out.1.symm.trans h1
                injection h3 with h3
                have := HUV.out
                have := HP.out.2
                rw [h3] at this
                omega)
            have HUE : Hid (upErr vars ups (j + 1) = kindR vars u.ex false) := Lib.hid (by rw [HUE.out, if_neg HPF.out])
            go_quiet (fail)
            go_upto_region 16 with fail
            refine wp_named ?_
            intro W7 hW7
            have hE67 : Ext W6 W7 := by rw [hW7]; exact (Ext.refl W6).drewN _
            have hk7 := hk W7 hE67
            have HE7 := Lib.hid (And.intro (HE6.out.trans hE67) (HW6.out.trans hE67))
            have x0 := x0 W7 hE67
            have x1 := x1 W7 hE67
            have x2 := x2 W7 hE67
            have x3 := x3 W7 hE67
            have e3 := e3 W7 hE67
            have hcd := fun W (e : Ext W7 W) => hcd W (hE67.trans e)
            clear hW7 hE67 hk
            by_cases hq2 : q2 = 0
            rotate_left
            · have HR : Hid (r = q2) := Lib.hid (by
                have h := HUE.out
                unfold kindR at h
                rw [← HQ2.out, if_neg hq2] at h
                rw [HR0.out, firstE_at HLT.out HF.out (by rw [h]; exact hq2), h])
              have hz2 : (q2 != 0) = true := bne_iff_ne.2 hq2
              clear hq2
              go_wp2_with (first | ((with_reducible refine hk7.mono ?_); rintro e W8 ⟨rfl, e8⟩))
              go_ret
              exact ⟨by rw [HR.out]; rfl, HE7.out.1.trans e8⟩
            · subst hq2
              cases qd with
              | true =>
                have hcd : ∀ W, Ext W7 W → Calls Tryd.prog 65 _ W fun e w' => e = .returned (.int .i64 1) ∧ Ext W w' := hcd
                have HR : Hid (r = 15) := Lib.hid (by
                  have h := HUE.out
                  unfold kindR at h
                  rw [← HQ2.out, if_pos rfl, ← HQD.out, if_neg (by simp)] at h
                  rw [HR0.out, firstE_at HLT.out HF.out (by rw [h]; decide), h])
                go_wp2_with (first | ((with_reducible refine hk7.mono ?_); rintro e W8 ⟨rfl, e8⟩; have hcd8 := hcd W8 e8; have x1 := e8.cell x1; have x2 := e8.cell x2; have x3 := e8.cell x3) | ((with_reducible refine hcd8.mono ?_); rintro e W9 ⟨rfl, e9⟩))
                go_ret
                exact ⟨by rw [HR.out]; rfl, HE7.out.1.trans (e8.trans e9)⟩
              | false =>
                have hcd : ∀ W, Ext W7 W → Calls Tryd.prog 65 _ W fun e w' => e = .returned (.int .i64 0) ∧ Ext W w' := hcd
                have HU0 : Hid (upErr vars ups (j + 1) = 0) := Lib.hid (by rw [HUE.out]; unfold kindR; rw [← HQ2.out, if_pos rfl, ← HQD.out, if_pos rfl])
                go_wp2_with (first | ((with_reducible refine hk7.mono ?_); rintro e W8 ⟨rfl, e8⟩; have hcd8 := hcd W8 e8; have x1 := e8.cell x1; have x2 := e8.cell x2; have x3 := e8.cell x3) | ((with_reducible refine hcd8.mono ?_); rintro e W9 ⟨rfl, e9⟩))
                refine ⟨⟨j + 1 + 1, by go_num, hlt, Lib.hid ?_, Lib.hid (HE7.out.2.trans (e8.trans e9))⟩, ?_⟩
                · intro k hk
                  by_cases hki : k = j + 1
                  · subst hki; exact HU0.out
                  · exact HF.out k (by omega)
                · simp [intOf]; omega
      · have hie : i = ups.length := by omega
        subst hie
        have hlt2 : ¬ (ups.length : Int) < (ups.length : Int) := by omega
        have HR : Hid (r = 0) := Lib.hid (by rw [HR0.out]; exact firstE_zero HF.out)
        go_wp2
        go_ret
        exact ⟨by rw [HR.out]; rfl, HW5.out⟩
end Go.Proofs.YtggffdkgfgdaoaaDoor
