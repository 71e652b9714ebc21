/- ref28.CheckValues 29. -/
import Derived.Test.YtggffdkgfgdaoaaDoorF2
namespace Go.Proofs.YtggffdkgfgdaoaaDoor
open Go.RowKit
set_option linter.unusedVariables false
set_option linter.unusedSimpArgs false
attribute [local go_sem] Oper.quietV quietV Oper.gives givesV ext_refl_iff ext_alloc_iff ext_drew_iff ext_drewN_iff
set_option maxRecDepth 100000 in
set_option maxHeartbeats 16000000 in
theorem refCheckValues_any (w : World) (v xv : Value) (l : List Vt) (xs : List Int) (c cx : Nat) (hv : VarsC w v l c) (hx : IntsC w xv xs cx) : Calls Tryd.prog 29 #[v, xv] w (ErrP w (valsR l xs)) := by
  obtain ⟨r, hr⟩ : ∃ r : Int, r = valsR l xs := ⟨_, rfl⟩
  rw [← hr]
  have hcv := refCheckVars_any w v l c hv
  obtain ⟨A, rfl, hcs, hlc, hlm, hsz⟩ := hv
  obtain ⟨Ax, rfl, hxc, hxl, hxm⟩ := hx
  unfold lenMax at hlm hxm
  have HX := Lib.hid (And.intro hcs hxc)
  have HR0 := Lib.hid hr
  obtain ⟨rv, hrv⟩ : ∃ rv, rv = varsR l := ⟨_, rfl⟩
  rw [← hrv] at hcv
  have HRV := Lib.hid hrv
  unfold ErrP at hcv
  clear hr hcs hxc hsz hrv
  by_cases hz : rv = 0
  rotate_left
  · have HR : Hid (r = rv) := Lib.hid (by rw [HR0.out, HRV.out]; exact valsR_vars (by rw [← HRV.out]; exact hz))
    have hz2 : (rv != 0) = true := bne_iff_ne.2 hz
    clear hz
    go_enter Tryd.func29, Tryd.ntmps29
    go_upto_region 2 with (first | ((with_reducible refine hcv.mono ?_); rintro e W1 ⟨rfl, e1⟩))
    clear hcv
    go_wp2
    go_ret
    exact ⟨by rw [HR.out]; rfl, e1⟩
  subst hz
  have HV0 : Hid (varsR l = 0) := Lib.hid HRV.out.symm
  by_cases hle : (xs.length : Int) = l.length
  rotate_left
  · have HR : Hid (r = 16) := Lib.hid (by rw [HR0.out]; exact valsR_len HV0.out (by omega))
    have hz2 : ((xs.length : Int) != (l.length : Int)) = true := bne_iff_ne.2 hle
    clear hle
    go_enter Tryd.func29, Tryd.ntmps29
    go_upto_region 2 with (first | ((with_reducible refine hcv.mono ?_); rintro e W1 ⟨rfl, e1⟩))
    clear hcv
    go_wp2
    go_ret
    exact ⟨by rw [HR.out]; rfl, e1⟩
  have HLE : Hid (xs.length = l.length) := Lib.hid (by omega)
  have hle2 : xs.length = l.length := by omega
  clear hle
  rw [hle2]
  rw [hle2] at hxl hxm
  clear hle2
  go_enter Tryd.func29, Tryd.ntmps29
  go_upto_region 2 with (first | ((with_reducible refine hcv.mono ?_); rintro e W1 ⟨rfl, e1⟩))
  have HE1 := Lib.hid e1
  clear hcv e1
  go_wp2
  go_loopw [6] (fun iv wr => ∃ (i : Nat), iv = .int .i64 i ∧ i ≤ l.length ∧ Hid (∀ k < i, offAt l xs k = false) ∧ Hid (Ext w wr)) (fun iv _ => l.length - (intOf iv).toNat)
  case atStart => exact ⟨0, by first | rfl | simp, Nat.zero_le _, Lib.hid (by intro k h; omega), HE1⟩
  case round =>
    obtain ⟨i, rfl, hi, HF, HW⟩ := hrel
    obtain ⟨W5, hW5⟩ : ∃ W, W = wr := ⟨_, rfl⟩; subst hW5
    have hR5 := Ext.refl W5
    by_cases hlt : i < l.length
    · have hlI : (i : Int) < (l.length : Int) := by omega
      obtain ⟨u, hu⟩ : ∃ u, l[i]? = some u := ⟨_, List.getElem?_eq_getElem hlt⟩
      obtain ⟨x, hx⟩ : ∃ x, xs[i]? = some x := ⟨_, List.getElem?_eq_getElem (by have := HLE.out; omega)⟩
      obtain ⟨bs, os, hA, d0, d1, d2⟩ := var_at HX.out.1 hu
      subst hA
      obtain ⟨bx, ox, hAx, _, dx⟩ := HX.out.2.at_int (List.getElem?_eq_some_iff.1 hx).1
      subst hAx
      rw [(List.getElem?_eq_some_iff.1 hx).2] at dx
      have HOF : Hid (offAt l xs i = (decide (x < u.2.1) || decide (u.2.2 < x))) := Lib.hid (by unfold offAt; rw [hu, hx])
      have HLT := Lib.hid hlt
      obtain ⟨s, lo, hi2⟩ := u
      have d1 := HW.out.cell d1
      have d2 := HW.out.cell d2
      have dx := HW.out.cell dx
      dsimp only at d1 d2
      clear hu hx d0
      by_cases h1 : x < lo
      · skip
        have HR : Hid (r = 1) := Lib.hid (by rw [HR0.out]; exact valsR_off HV0.out HLE.out HLT.out (by rw [HOF.out]; rw [decide_eq_true h1]; rfl))
        go_upto_region 9 with fail
        go_quiet (fail)
        go_wp2
        go_ret
        exact ⟨by rw [HR.out]; rfl, HW.out.trans ((Ext.refl _).drewN _)⟩
      · by_cases h2 : hi2 < x
        · skip
          have HR : Hid (r = 1) := Lib.hid (by rw [HR0.out]; exact valsR_off HV0.out HLE.out HLT.out (by rw [HOF.out]; rw [decide_eq_true h2]; simp))
          go_upto_region 9 with fail
          go_quiet (fail)
          go_wp2
          go_ret
          exact ⟨by rw [HR.out]; rfl, HW.out.trans ((Ext.refl _).drewN _)⟩
        · have HG : Hid (offAt l xs i = false) := Lib.hid (by rw [HOF.out, decide_eq_false h1, decide_eq_false h2]; rfl)
          go_upto_region 9 with fail
          go_quiet (fail)
          go_wp2
          refine ⟨⟨i + 1, by go_num, hlt, Lib.hid ?_, Lib.hid (HW.out.trans ((Ext.refl _).drewN _))⟩, ?_⟩
          · intro k hk
            by_cases hki : k = i
            · subst hki; exact HG.out
            · exact HF.out k (by omega)
          · simp [intOf]; omega
    · have hie : i = l.length := by omega
      subst hie
      have hlt2 : ¬ (l.length : Int) < (l.length : Int) := by omega
      have HR : Hid (r = 0) := Lib.hid (by rw [HR0.out]; exact valsR_good HV0.out HLE.out HF.out)
      go_wp2
      go_ret
      exact ⟨by rw [HR.out]; rfl, HW.out⟩
end Go.Proofs.YtggffdkgfgdaoaaDoor
