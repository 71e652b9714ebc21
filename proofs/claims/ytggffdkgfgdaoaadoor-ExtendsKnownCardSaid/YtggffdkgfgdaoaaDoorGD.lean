/- guards.Check 71. guards.Condition 75, extends.kind 66, guards.Eval 63. extends.kind 66, guards.Eval 63. Machines with variables: al plain data, and in memory; what Check says of them. extends.arc 54. extends.Check 27. -/
import Derived.Test.YtggffdkgfgdaoaaDoorGC
namespace Go.Proofs.YtggffdkgfgdaoaaDoor
open Go.RowKit
set_option linter.unusedVariables false
set_option linter.unusedSimpArgs false
attribute [local go_sem] Oper.quietV quietV Oper.gives givesV ext_refl_iff ext_alloc_iff ext_drew_iff ext_drewN_iff
theorem varsR_le {l : List Vt} (h : varsR l = 0) : l.length ≤ 16 := by
  apply Nat.le_of_not_lt
  intro h2
  rw [varsR_many h2] at h; cases h
def checkR (l : List Vt) (t : Tr) : Int := if varsR l ≠ 0 then varsR l else if 64 < cntT t then 3 else if shapT l.length t = false then 1 else if typT t = false then 15 else 0
theorem checkR_ok {l : List Vt} {t : Tr} (h : checkR l t = 0) : varsR l = 0 ∧ cntT t ≤ 64 ∧ shapT l.length t = true ∧ typT t = true := by
  unfold checkR at h
  split at h
  · rename_i h2; exact absurd h h2
  · rename_i h1
    split at h
    · cases h
    · rename_i h2
      split at h
      · cases h
      · rename_i h3
        split at h
        · cases h
        · rename_i h4
          exact ⟨by omega, by omega, by simpa using h3, by simpa using h4⟩
set_option maxRecDepth 100000 in
set_option maxHeartbeats 16000000 in
theorem check_any (w : World) (v xv : Value) (l : List Vt) (t : Tr) (c : Nat) (hv : VarsC w v l c) (hN : NodeV w t xv) (hT : OpsTab w) : Calls Tryd.prog 71 #[v, xv] w (ErrP w (checkR l t)) := by
  obtain ⟨r, hr⟩ : ∃ r : Int, r = checkR l t := ⟨_, rfl⟩
  rw [← hr]
  unfold checkR at hr
  have hcv := fun W' (e : Ext w W') => checkVars_any W' v l c (hv.ext e)
  have HN := Lib.hid (And.intro hN hT)
  obtain ⟨A, rfl, hcs, hlc, hlm, hsz⟩ := hv
  obtain ⟨hop, Ax, cx, vs, rfl, hvl, hxc, hsub, hnc, hnm⟩ := hN.form
  unfold lenMax at hlm hnm
  obtain ⟨rv, hrv⟩ : ∃ rv, rv = varsR l := ⟨_, rfl⟩
  rw [← hrv] at hcv hr
  have HRV := Lib.hid hrv
  unfold ErrP at hcv
  obtain ⟨r1, hr1⟩ : ∃ r1, r1 = decide ((cntT t : Int) ≤ 64) := ⟨_, rfl⟩
  obtain ⟨r2, hr2⟩ : ∃ r2, r2 = shapT l.length t := ⟨_, rfl⟩
  obtain ⟨r3, hr3⟩ : ∃ r3, r3 = typT t := ⟨_, rfl⟩
  have hr1' : (64 < cntT t) = (r1 = false) := by
    rw [hr1]; apply propext
    constructor
    · intro h; exact decide_eq_false (by omega)
    · intro h; have := of_decide_eq_false h; omega
  rw [← hr2, ← hr3] at hr
  simp only [hr1'] at hr
  have HR1 := Lib.hid hr1
  have HR2 := Lib.hid hr2
  have HR3 := Lib.hid hr3
  have HR0 := Lib.hid hr
  clear hr hr1 hr2 hr3 hr1' hrv hN hT hcs hsz hxc hsub hvl
  generalize t.op = op at *
  generalize t.n = n at *
  generalize t.subs = ts at *
  go_enter Tryd.func71, Tryd.ntmps71
  go_upto_region 1 with fail
  refine wp_named ?_
  intro W1 hW1
  have hE1 : Ext w W1 := by rw [hW1]; first | exact (Ext.refl _).alloc _ | exact ((Ext.refl _).alloc _).drew
  have k0 : ∀ w', Ext W1 w' → w'.cell? ⟨w.heap.size, 0, none⟩ = some (.int .u8 (op : Int)) := fun w' h => h.cell (by rw [hW1]; simp [go_sem])
  have k1 : ∀ w', Ext W1 w' → w'.cell? ⟨w.heap.size, 1, none⟩ = some (.int .i64 n) := fun w' h => h.cell (by rw [hW1]; simp [go_sem])
  have k2 : ∀ w', Ext W1 w' → w'.cell? ⟨w.heap.size, 2, none⟩ = some (.slice Ax ts.length cx) := fun w' h => h.cell (by rw [hW1]; simp [go_sem])
  have hcv1 := hcv W1 hE1
  clear hW1 hcv
  generalize w.heap.size = b2 at *
  by_cases hz : rv = 0
  rotate_left
  · have HR : Hid (r = rv) := Lib.hid (by rw [HR0.out, if_pos hz])
    have hz2 : (rv != 0) = true := bne_iff_ne.2 hz
    clear hz
    go_upto_region 2 with (first | ((with_reducible refine hcv1.mono ?_); rintro e W2 ⟨rfl, e2⟩))
    clear hcv1
    go_wp2
    go_ret
    exact ⟨by rw [HR.out]; rfl, hE1.trans e2⟩
  subst hz
  have HV0 : Hid (varsR l = 0) := Lib.hid HRV.out.symm
  have HR0 : Hid (r = if r1 = false then 3 else if r2 = false then 1 else if r3 = false then 15 else 0) := Lib.hid (by rw [HR0.out]; rfl)
  go_upto_region 2 with (first | ((with_reducible refine hcv1.mono ?_); rintro e W2 ⟨rfl, e2⟩))
  have HE2 := Lib.hid (hE1.trans e2)
  have k0 := fun w' (h : Ext W2 w') => k0 w' (e2.trans h)
  have k1 := fun w' (h : Ext W2 w') => k1 w' (e2.trans h)
  have k2 := fun w' (h : Ext W2 w') => k2 w' (e2.trans h)
  clear hcv1 e2 hE1
  go_upto_region 5 with fail
  refine wp_named ?_
  intro W3 hW3
  have hE3 : Ext W2 W3 := by rw [hW3]; exact alloc_ext _ _
  have hB3 : W3.heap[W2.heap.size]? = some (.cells #[.int .i64 64] 3 (0, 0)) := by rw [hW3]; exact heap_alloc_new _ _
  have hsm := small_of (HN.out.1.ext HE2.out) hE3 (Nat.le_refl _) hB3 (by decide) (by decide)
  unfold SmallP SmallQ at hsm
  rw [← HR1.out] at hsm
  have HBL : Hid (∀ W8, W3.grownBy W8 (some W2.heap.size) → Ext w W8 ∧ Ext W2 W8) := Lib.hid (fun W8 h8 =>
    have h9 := Below.grown hE3 h8 hE3.size (fun k hk => by cases hk; exact Nat.le_refl _)
    ⟨HE2.out.trans h9, h9⟩)
  clear hW3 hB3
  generalize W2.heap.size = b6 at *
  cases r1 with
  | false =>
    have HR : Hid (r = 3) := Lib.hid (by rw [HR0.out]; rfl)
    go_upto_region 11 with (first | ((with_reducible refine hsm.mono ?_); rintro e W8 ⟨L8, rfl, hb8, hg8, hl8, hl9, hl1, hl2⟩))
    go_ret
    exact ⟨by rw [HR.out]; rfl, (HBL.out _ hg8).1⟩
  | true =>
    go_upto_region 7 with (first | ((with_reducible refine hsm.mono ?_); rintro e W8 ⟨L8, rfl, hb8, hg8, hl8, hl9, hl1, hl2⟩))
    have hw8 := (HBL.out _ hg8).1
    have hE8 := (HBL.out _ hg8).2
    have hsh := shap_of (vars := l.length) (by have := varsR_le HV0.out; omega) (HN.out.1.ext hw8) (HN.out.2.ext hw8)
    unfold BoolP at hsh
    rw [← HR2.out] at hsh
    clear hsm hE3 hb8 hg8 hl8 hl9 hl1 hl2 HBL
    cases r2 with
    | false =>
      have HR : Hid (r = 1) := Lib.hid (by rw [HR0.out]; rfl)
      go_upto_region 11 with (first | ((with_reducible refine hsh.mono ?_); rintro e W9 ⟨rfl, e9⟩))
      go_ret
      exact ⟨by rw [HR.out]; rfl, hw8.trans e9⟩
    | true =>
      go_upto_region 9 with (first | ((with_reducible refine hsh.mono ?_); rintro e W9 ⟨rfl, e9⟩))
      have hw9 := hw8.trans e9
      have hE9 := hE8.trans e9
      have hty := typ_of (vars := l.length) (HN.out.1.ext hw9) (HN.out.2.ext hw9) HR2.out.symm
      unfold BoolP at hty
      rw [← HR3.out] at hty
      clear hsh e9 hE8
      cases r3 with
      | false =>
        have HR : Hid (r = 15) := Lib.hid (by rw [HR0.out]; rfl)
        go_upto_region 11 with (first | ((with_reducible refine hty.mono ?_); rintro e W10 ⟨rfl, e10⟩))
        go_ret
        exact ⟨by rw [HR.out]; rfl, hw9.trans e10⟩
      | true =>
        have HR : Hid (r = 0) := Lib.hid (by rw [HR0.out]; rfl)
        go_upto_region 11 with (first | ((with_reducible refine hty.mono ?_); rintro e W10 ⟨rfl, e10⟩))
        go_wp2
        go_ret
        exact ⟨by rw [HR.out]; rfl, hw9.trans e10⟩
end Go.Proofs.YtggffdkgfgdaoaaDoor

namespace Go.Proofs.YtggffdkgfgdaoaaDoor
open Go.RowKit
set_option linter.unusedVariables false
set_option linter.unusedSimpArgs false
attribute [local go_sem] Oper.quietV quietV Oper.gives givesV ext_refl_iff ext_alloc_iff ext_drew_iff ext_drewN_iff
theorem varsR_zero {l : List Vt} (h : varsR l = 0) : ∀ i < l.length, badAt l i = false := by
  intro i hi
  cases hb : badAt l i with
  | false => rfl
  | true => exact absurd ((varsR_bad (by have := varsR_le h; omega) hi hb).symm.trans h) (by decide)
theorem valsR_zero {l : List Vt} {xs : List Int} (h : valsR l xs = 0) : varsR l = 0 ∧ xs.length = l.length ∧ ∀ i < l.length, offAt l xs i = false := by
  by_cases h1 : varsR l = 0
  · by_cases h2 : xs.length = l.length
    · refine ⟨h1, h2, fun i hi => ?_⟩
      cases hb : offAt l xs i with
      | false => rfl
      | true => exact absurd ((valsR_off h1 h2 hi hb).symm.trans h) (by decide)
    · exact absurd ((valsR_len h1 h2).symm.trans h) (by decide)
  · exact absurd ((valsR_vars h1).symm.trans h) h1
theorem vals_small {l : List Vt} {xs : List Int} (h : valsR l xs = 0) : ∀ x ∈ xs, Small x := by
  obtain ⟨h1, h2, h3⟩ := valsR_zero h
  intro x hx
  obtain ⟨i, hi⟩ := List.getElem?_of_mem hx
  have hlt := (List.getElem?_eq_some_iff.1 hi).1
  obtain ⟨u, hu⟩ : ∃ u, l[i]? = some u := ⟨_, List.getElem?_eq_getElem (by omega)⟩
  have h4 := h3 i (by omega)
  have h5 := varsR_zero h1 i (by omega)
  unfold offAt at h4
  unfold badAt varBad at h5
  rw [hu, hi] at h4
  rw [hu] at h5
  simp only [Bool.or_eq_false_iff, decide_eq_false_iff_not] at h4 h5
  unfold Small
  omega
def cndR (l : List Vt) (t : Tr) : Bool := if checkR l t = 0 then condT t else false
def TwoP (w : World) (b : Bool) (r : Int) (e : Ending) (w' : World) : Prop := e = .returned (.tuple #[.bool b, .int .i64 r]) ∧ Ext w w'
set_option maxRecDepth 100000 in
set_option maxHeartbeats 16000000 in
theorem condition_any (w : World) (v xv : Value) (l : List Vt) (t : Tr) (c : Nat) (hv : VarsC w v l c) (hN : NodeV w t xv) (hT : OpsTab w) : Calls Tryd.prog 75 #[v, xv] w (TwoP w (cndR l t) (checkR l t)) := by
  obtain ⟨r, hr⟩ : ∃ r : Int, r = checkR l t := ⟨_, rfl⟩
  obtain ⟨b, hb⟩ : ∃ b, b = cndR l t := ⟨_, rfl⟩
  have hck := fun W' (e : Ext w W') => check_any W' v xv l t c (hv.ext e) (hN.ext e) (hT.ext e)
  unfold ErrP at hck
  rw [← hr] at hck ⊢
  rw [← hb]
  unfold cndR at hb
  rw [← hr] at hb
  obtain ⟨A, rfl, hcs, hlc, hlm, hsz⟩ := hv
  obtain ⟨hop, Ax, cx, vs, rfl, hvl, hxc, hsub, hnc, hnm⟩ := hN.form
  unfold lenMax at hlm hnm
  have hcd := fun w' => cond_any w' t.op hop
  have HB : Hid (b = if r = 0 then decide (6 ≤ t.op) else false) := Lib.hid (by rw [hb]; rfl)
  clear hr hb hN hT hcs hsz hxc hsub hvl
  generalize t.op = op at *
  generalize t.n = n at *
  generalize t.subs = ts at *
  go_enter Tryd.func75, Tryd.ntmps75
  go_upto_region 1 with fail
  refine wp_named ?_
  intro W1 hW1
  have hE1 : Ext w W1 := by rw [hW1]; first | exact (Ext.refl _).alloc _ | exact ((Ext.refl _).alloc _).drew
  have k0 : ∀ w', Ext W1 w' → w'.cell? ⟨w.heap.size, 0, none⟩ = some (.int .u8 (op : Int)) := fun w' h => h.cell (by rw [hW1]; simp [go_sem])
  have k1 : ∀ w', Ext W1 w' → w'.cell? ⟨w.heap.size, 1, none⟩ = some (.int .i64 n) := fun w' h => h.cell (by rw [hW1]; simp [go_sem])
  have k2 : ∀ w', Ext W1 w' → w'.cell? ⟨w.heap.size, 2, none⟩ = some (.slice Ax ts.length cx) := fun w' h => h.cell (by rw [hW1]; simp [go_sem])
  have hck1 := hck W1 hE1
  have hR1 := Ext.refl W1
  clear hW1 hck
  generalize w.heap.size = b2 at *
  go_upto_region 2 with (first | ((with_reducible refine hck1.mono ?_); rintro e W2 ⟨rfl, e2⟩))
  have hcd2 := hcd W2
  clear hcd hck1
  by_cases hz : r = 0
  · obtain ⟨d, hd⟩ : ∃ d, d = decide (6 ≤ op) := ⟨_, rfl⟩
    have HB2 : Hid (b = d) := Lib.hid (by rw [HB.out, if_pos hz, hd])
    rw [← hd] at hcd2
    subst hz
    clear hd HB
    go_upto_region 99 with (first | ((with_reducible refine hcd2.mono ?_); rintro e W3 ⟨rfl, rfl⟩))
    refine bodyPost_ret (results_tmp2 rfl _ _ _) rfl ?_
    rw [HB2.out]
    exact ⟨rfl, hE1.trans e2⟩
  · have hz2 : (r != 0) = true := bne_iff_ne.2 hz
    have HB2 : Hid (b = false) := Lib.hid (by rw [HB.out, if_neg hz])
    clear hz HB hcd2
    go_wp2
    refine bodyPost_ret (results_tmp2 rfl _ _ _) rfl ?_
    rw [HB2.out]
    exact ⟨rfl, hE1.trans e2⟩
end Go.Proofs.YtggffdkgfgdaoaaDoor

namespace Go.Proofs.YtggffdkgfgdaoaaDoor
open Go.RowKit
set_option linter.unusedVariables false
set_option linter.unusedSimpArgs false
attribute [local go_sem] Oper.quietV quietV Oper.gives givesV ext_refl_iff ext_alloc_iff ext_drew_iff ext_drewN_iff
def kindR (l : List Vt) (t : Tr) (b : Bool) : Int := if checkR l t = 0 then (if condT t = b then 0 else 15) else checkR l t
set_option maxRecDepth 100000 in
set_option maxHeartbeats 16000000 in
theorem kind_any (w : World) (v xv : Value) (l : List Vt) (t : Tr) (c : Nat) (b : Bool) (hv : VarsC w v l c) (hN : NodeV w t xv) (hT : OpsTab w) : Calls Tryd.prog 66 #[v, xv, .bool b] w (ErrP w (kindR l t b)) := by
  obtain ⟨r, hr⟩ : ∃ r : Int, r = kindR l t b := ⟨_, rfl⟩
  have hck := fun W' (e : Ext w W') => condition_any W' v xv l t c (hv.ext e) (hN.ext e) (hT.ext e)
  unfold TwoP cndR at hck
  rw [← hr]
  unfold kindR at hr
  obtain ⟨q, hq⟩ : ∃ q : Int, q = checkR l t := ⟨_, rfl⟩
  obtain ⟨d, hd⟩ : ∃ d, d = condT t := ⟨_, rfl⟩
  rw [← hq, ← hd] at hck hr
  obtain ⟨A, rfl, hcs, hlc, hlm, hsz⟩ := hv
  obtain ⟨hop, Ax, cx, vs, rfl, hvl, hxc, hsub, hnc, hnm⟩ := hN.form
  unfold lenMax at hlm hnm
  have HR0 := Lib.hid hr
  clear hr hq hd hN hT hcs hsz hxc hsub hvl
  generalize t.op = op at *
  generalize t.n = n at *
  generalize t.subs = ts at *
  by_cases hz : q = 0
  · subst hz
    rw [if_pos rfl] at HR0
    simp only [if_true] at hck
    cases d <;> cases b
    all_goals
      go_enter Tryd.func66, Tryd.ntmps66
      go_upto_region 1 with fail
      refine wp_named ?_
      intro W1 hW1
      have hE1 : Ext w W1 := by rw [hW1]; first | exact (Ext.refl _).alloc _ | exact ((Ext.refl _).alloc _).drew
      have k0 : ∀ w', Ext W1 w' → w'.cell? ⟨w.heap.size, 0, none⟩ = some (.int .u8 (op : Int)) := fun w' h => h.cell (by rw [hW1]; simp [go_sem])
      have k1 : ∀ w', Ext W1 w' → w'.cell? ⟨w.heap.size, 1, none⟩ = some (.int .i64 n) := fun w' h => h.cell (by rw [hW1]; simp [go_sem])
      have k2 : ∀ w', Ext W1 w' → w'.cell? ⟨w.heap.size, 2, none⟩ = some (.slice Ax ts.length cx) := fun w' h => h.cell (by rw [hW1]; simp [go_sem])
      have hR1 := Ext.refl W1
      have hck1 := hck W1 hE1
      clear hW1 hck
      generalize w.heap.size = b2 at *
      go_upto_region 2 with (first | ((with_reducible refine hck1.mono ?_); rintro e W2 ⟨rfl, e2⟩))
      clear hck1
      go_wp2
      go_ret
      exact ⟨by rw [HR0.out]; rfl, hE1.trans e2⟩
  · have hz2 : (q == 0) = false := beq_eq_false_iff_ne.2 hz
    rw [if_neg hz] at HR0
    simp only [if_neg hz] at hck
    clear hz
    go_enter Tryd.func66, Tryd.ntmps66
    go_upto_region 1 with fail
    refine wp_named ?_
    intro W1 hW1
    have hE1 : Ext w W1 := by rw [hW1]; first | exact (Ext.refl _).alloc _ | exact ((Ext.refl _).alloc _).drew
    have k0 : ∀ w', Ext W1 w' → w'.cell? ⟨w.heap.size, 0, none⟩ = some (.int .u8 (op : Int)) := fun w' h => h.cell (by rw [hW1]; simp [go_sem])
    have k1 : ∀ w', Ext W1 w' → w'.cell? ⟨w.heap.size, 1, none⟩ = some (.int .i64 n) := fun w' h => h.cell (by rw [hW1]; simp [go_sem])
    have k2 : ∀ w', Ext W1 w' → w'.cell? ⟨w.heap.size, 2, none⟩ = some (.slice Ax ts.length cx) := fun w' h => h.cell (by rw [hW1]; simp [go_sem])
    have hR1 := Ext.refl W1
    have hck1 := hck W1 hE1
    clear hW1 hck
    generalize w.heap.size = b2 at *
    go_upto_region 2 with (first | ((with_reducible refine hck1.mono ?_); rintro e W2 ⟨rfl, e2⟩))
    clear hck1
    go_wp2
    go_ret
    exact ⟨by rw [HR0.out]; rfl, hE1.trans e2⟩
def EvalR (w : World) (r : Int × Bool × Int) (e : Ending) (w' : World) : Prop := e = .returned (.tuple #[.int .i64 r.1, .bool r.2.1, .int .i64 r.2.2]) ∧ Ext w w'
def fullR (l : List Vt) (t : Tr) (xs : List Int) : Int × Bool × Int := if checkR l t ≠ 0 then (0, false, checkR l t) else if valsR l xs ≠ 0 then (0, false, valsR l xs) else ((evR xs t).1, (evR xs t).2, 0)
set_option maxRecDepth 100000 in
set_option maxHeartbeats 16000000 in
theorem Eval_any (w : World) (v xv zv : Value) (l : List Vt) (t : Tr) (xs : List Int) (c cz : Nat) (hv : VarsC w v l c) (hN : NodeV w t xv) (hz : IntsC w zv xs cz) (hT : OpsTab w) : Calls Tryd.prog 63 #[v, xv, zv] w (EvalR w (fullR l t xs)) := by
  obtain ⟨r, hr⟩ : ∃ r, r = fullR l t xs := ⟨_, rfl⟩
  have hck := fun W' (e : Ext w W') => check_any W' v xv l t c (hv.ext e) (hN.ext e) (hT.ext e)
  have hvl0 := fun W' (e : Ext w W') => checkValues_any W' v zv l xs c cz (hv.ext e) (hz.ext e)
  have hev := fun W' (e : Ext w W') (h : valsR l xs = 0) (h2 : checkR l t = 0) => eval_of (vals := xs) (vals_small h) (hN.ext e) (hz.ext e) (hT.ext e) (by rw [(valsR_zero h).2.1]; exact (checkR_ok h2).2.2.1)
  unfold ErrP at hck hvl0
  unfold EvalP at hev
  rw [← hr]
  unfold fullR at hr
  obtain ⟨q, hq⟩ : ∃ q : Int, q = checkR l t := ⟨_, rfl⟩
  obtain ⟨u, hu⟩ : ∃ u : Int, u = valsR l xs := ⟨_, rfl⟩
  obtain ⟨z, hzz⟩ : ∃ z, z = evR xs t := ⟨_, rfl⟩
  rw [← hq] at hck hr hev
  rw [← hu] at hvl0 hr hev
  rw [← hzz] at hr hev
  obtain ⟨A, rfl, hcs, hlc, hlm, hsz⟩ := hv
  obtain ⟨Az, rfl, hzc, hzl, hzm⟩ := hz
  obtain ⟨hop, Ax, cx, vs, rfl, hvl, hxc, hsub, hnc, hnm⟩ := hN.form
  unfold lenMax at hlm hnm hzm
  have HR0 := Lib.hid hr
  clear hr hq hu hzz hN hT hcs hsz hxc hsub hvl hzc
  generalize t.op = op at *
  generalize t.n = n at *
  generalize t.subs = ts at *
  obtain ⟨z1, z2⟩ := z
  by_cases hq0 : q = 0
  rotate_left
  · have hz2 : (q != 0) = true := bne_iff_ne.2 hq0
    rw [if_pos hq0] at HR0
    clear hq0 hvl0 hev
    go_enter Tryd.func63, Tryd.ntmps63
    go_upto_region 1 with fail
    refine wp_named ?_
    intro W1 hW1
    have hE1 : Ext w W1 := by rw [hW1]; first | exact (Ext.refl _).alloc _ | exact ((Ext.refl _).alloc _).drew
    have k0 : ∀ w', Ext W1 w' → w'.cell? ⟨w.heap.size, 0, none⟩ = some (.int .u8 (op : Int)) := fun w' h => h.cell (by rw [hW1]; simp [go_sem])
    have k1 : ∀ w', Ext W1 w' → w'.cell? ⟨w.heap.size, 1, none⟩ = some (.int .i64 n) := fun w' h => h.cell (by rw [hW1]; simp [go_sem])
    have k2 : ∀ w', Ext W1 w' → w'.cell? ⟨w.heap.size, 2, none⟩ = some (.slice Ax ts.length cx) := fun w' h => h.cell (by rw [hW1]; simp [go_sem])
    have hR1 := Ext.refl W1
    have hck1 := hck W1 hE1
    clear hW1 hck
    generalize w.heap.size = b2 at *
    go_upto_region 2 with (first | ((with_reducible refine hck1.mono ?_); rintro e W2 ⟨rfl, e2⟩))
    clear hck1
    go_wp2
    refine bodyPost_ret (results_tmp3 rfl _ _ _) rfl ?_
    rw [HR0.out]
    exact ⟨rfl, hE1.trans e2⟩
  subst hq0
  rw [if_neg (by simp)] at HR0
  by_cases hu0 : u = 0
  rotate_left
  · have hz2 : (u != 0) = true := bne_iff_ne.2 hu0
    rw [if_pos hu0] at HR0
    clear hu0 hev
    go_enter Tryd.func63, Tryd.ntmps63
    go_upto_region 1 with fail
    refine wp_named ?_
    intro W1 hW1
    have hE1 : Ext w W1 := by rw [hW1]; first | exact (Ext.refl _).alloc _ | exact ((Ext.refl _).alloc _).drew
    have k0 : ∀ w', Ext W1 w' → w'.cell? ⟨w.heap.size, 0, none⟩ = some (.int .u8 (op : Int)) := fun w' h => h.cell (by rw [hW1]; simp [go_sem])
    have k1 : ∀ w', Ext W1 w' → w'.cell? ⟨w.heap.size, 1, none⟩ = some (.int .i64 n) := fun w' h => h.cell (by rw [hW1]; simp [go_sem])
    have k2 : ∀ w', Ext W1 w' → w'.cell? ⟨w.heap.size, 2, none⟩ = some (.slice Ax ts.length cx) := fun w' h => h.cell (by rw [hW1]; simp [go_sem])
    have hR1 := Ext.refl W1
    have hck1 := hck W1 hE1
    clear hW1 hck
    generalize w.heap.size = b2 at *
    go_upto_region 2 with (first | ((with_reducible refine hck1.mono ?_); rintro e W2 ⟨rfl, e2⟩))
    have hvl1 := hvl0 W2 (hE1.trans e2)
    clear hck1 hvl0
    go_upto_region 5 with (first | ((with_reducible refine hvl1.mono ?_); rintro e W3 ⟨rfl, e3⟩))
    clear hvl1
    go_wp2
    refine bodyPost_ret (results_tmp3 rfl _ _ _) rfl ?_
    rw [HR0.out]
    exact ⟨rfl, (hE1.trans e2).trans e3⟩
  subst hu0
  rw [if_neg (by simp)] at HR0
  go_enter Tryd.func63, Tryd.ntmps63
  go_upto_region 1 with fail
  refine wp_named ?_
  intro W1 hW1
  have hE1 : Ext w W1 := by rw [hW1]; first | exact (Ext.refl _).alloc _ | exact ((Ext.refl _).alloc _).drew
  have k0 : ∀ w', Ext W1 w' → w'.cell? ⟨w.heap.size, 0, none⟩ = some (.int .u8 (op : Int)) := fun w' h => h.cell (by rw [hW1]; simp [go_sem])
  have k1 : ∀ w', Ext W1 w' → w'.cell? ⟨w.heap.size, 1, none⟩ = some (.int .i64 n) := fun w' h => h.cell (by rw [hW1]; simp [go_sem])
  have k2 : ∀ w', Ext W1 w' → w'.cell? ⟨w.heap.size, 2, none⟩ = some (.slice Ax ts.length cx) := fun w' h => h.cell (by rw [hW1]; simp [go_sem])
  have hR1 := Ext.refl W1
  have hck1 := hck W1 hE1
  clear hW1 hck
  generalize w.heap.size = b2 at *
  go_upto_region 2 with (first | ((with_reducible refine hck1.mono ?_); rintro e W2 ⟨rfl, e2⟩))
  have hvl1 := hvl0 W2 (hE1.trans e2)
  clear hck1 hvl0
  go_upto_region 5 with (first | ((with_reducible refine hvl1.mono ?_); rintro e W3 ⟨rfl, e3⟩))
  have hev1 := hev W3 ((hE1.trans e2).trans e3) (by simp) (by simp)
  have hE13 := e2.trans e3
  clear hvl1 hev
  go_upto_region 8 with (first | ((with_reducible refine hev1.mono ?_); rintro e W4 ⟨rfl, e4⟩))
  clear hev1
  go_wp2
  refine bodyPost_ret (results_tmp3 rfl _ _ _) rfl ?_
  rw [HR0.out]
  exact ⟨rfl, ((hE1.trans e2).trans e3).trans e4⟩
end Go.Proofs.YtggffdkgfgdaoaaDoor

namespace Go.Proofs.YtggffdkgfgdaoaaDoor
open Go.RowKit
set_option linter.unusedVariables false
set_option linter.unusedSimpArgs false
theorem rec_len {α : Type} (f : α → List Value) (k : Nat) (hf : ∀ a, (f a).length = k) : ∀ l : List α, (l.flatMap f).length = l.length * k
  | [] => by simp
  | y :: t => by rw [List.flatMap_cons, List.length_append, rec_len f k hf t, hf, List.length_cons, Nat.succ_mul]; omega
theorem rec_get {α : Type} (f : α → List Value) (k : Nat) (hf : ∀ a, (f a).length = k) : ∀ {l : List α} {i : Nat} {r : α} (h : l[i]? = some r) (j : Nat) (u : Value), (f r)[j]? = some u → (l.flatMap f)[i * k + j]? = some u
  | [], i, r, h, _, _, _ => by simp at h
  | y :: t, 0, r, h, j, u, hj => by
    simp at h; subst h
    have := (List.getElem?_eq_some_iff.1 hj).1
    rw [List.flatMap_cons, Nat.zero_mul, Nat.zero_add, List.getElem?_append_left this]; exact hj
  | y :: t, i + 1, r, h, j, u, hj => by
    have h2 := rec_get f k hf (l := t) (i := i) (r := r) (by simpa using h) j u hj
    rw [List.flatMap_cons, List.getElem?_append_right (by rw [hf, Nat.succ_mul]; omega)]
    rw [← h2]; congr 1; rw [hf, Nat.succ_mul]; omega
/-- A new value. -/
structure Up where
  var : Int
  ex : Tr
structure Ac where
  frm : Int
  inp : Int
  guard : Tr
  out : Int
  ups : List Up
  dst : Int
structure Xt where
  ins : Int
  outs : Int
  states : Int
  vars : List Vt
  start : List Int
  arcs : List Ac
abbrev Uv := Int × Nv
def uvCells (u : Uv) : List Value := .int .i64 u.1 :: nvCells u.2
def uvVal (u : Uv) : Value := .agg #[.int .i64 u.1, .int .u8 u.2.1, .int .i64 u.2.2.1, u.2.2.2]
theorem uv_len (u : Uv) : (uvCells u).length = 4 := rfl
def UpsC (w : World) (v : Value) (us : List Up) (c : Nat) : Prop := ∃ (A : Option Addr) (vs : List Uv), v = .slice A us.length c ∧ vs.length = us.length ∧ Cells w A (vs.flatMap uvCells) ∧
  (∀ (i : Nat) (u : Up) (x : Uv), us[i]? = some u → vs[i]? = some x → x.1 = u.var ∧ NodeV w u.ex (nvVal x.2)) ∧ us.length ≤ c ∧ us.length ≤ lenMax
theorem UpsC.ext {w w' : World} {v : Value} {us : List Up} {c : Nat} (h : UpsC w v us c) (e : Ext w w') : UpsC w' v us c := by
  obtain ⟨A, vs, h1, h2, h3, h4, h5⟩ := h
  exact ⟨A, vs, h1, h2, h3.ext e, fun i u x hu hx => ⟨(h4 i u x hu hx).1, (h4 i u x hu hx).2.ext e⟩, h5⟩
/-- An arc al it lies among others. -/
structure Av where
  frm : Int
  inp : Int
  g : Nv
  out : Int
  ups : Value
  dst : Int
def avCells (a : Av) : List Value := [.int .i64 a.frm, .int .i64 a.inp, .int .u8 a.g.1, .int .i64 a.g.2.1, a.g.2.2, .int .i64 a.out, a.ups, .int .i64 a.dst]
def avVal (a : Av) : Value := .agg #[.int .i64 a.frm, .int .i64 a.inp, .int .u8 a.g.1, .int .i64 a.g.2.1, a.g.2.2, .int .i64 a.out, a.ups, .int .i64 a.dst]
theorem av_len (a : Av) : (avCells a).length = 8 := rfl
/-- An arc that is told. -/
def ArcV (w : World) (a : Ac) (x : Av) : Prop := x.frm = a.frm ∧ x.inp = a.inp ∧ NodeV w a.guard (nvVal x.g) ∧ x.out = a.out ∧ (∃ c, UpsC w x.ups a.ups c) ∧ x.dst = a.dst
theorem ArcV.ext {w w' : World} {a : Ac} {x : Av} (h : ArcV w a x) (e : Ext w w') : ArcV w' a x := by
  obtain ⟨h1, h2, h3, h4, ⟨c, h5⟩, h6⟩ := h
  exact ⟨h1, h2, h3.ext e, h4, ⟨c, h5.ext e⟩, h6⟩
def AcsC (w : World) (v : Value) (al : List Ac) (c : Nat) : Prop := ∃ (A : Option Addr) (vs : List Av), v = .slice A al.length c ∧ vs.length = al.length ∧ Cells w A (vs.flatMap avCells) ∧
  (∀ (i : Nat) (a : Ac) (x : Av), al[i]? = some a → vs[i]? = some x → ArcV w a x) ∧ al.length ≤ c ∧ al.length ≤ lenMax
theorem AcsC.ext {w w' : World} {v : Value} {al : List Ac} {c : Nat} (h : AcsC w v al c) (e : Ext w w') : AcsC w' v al c := by
  obtain ⟨A, vs, h1, h2, h3, h4, h5⟩ := h
  exact ⟨A, vs, h1, h2, h3.ext e, fun i u x hu hx => (h4 i u x hu hx).ext e, h5⟩
def XtV (w : World) (x : Xt) (v : Value) : Prop := ∃ vv sv av c1 c2 c3, v = .agg #[.int .i64 x.ins, .int .i64 x.outs, .int .i64 x.states, vv, sv, av] ∧ VarsC w vv x.vars c1 ∧ IntsC w sv x.start c2 ∧ AcsC w av x.arcs c3
theorem XtV.ext {w w' : World} {x : Xt} {v : Value} (h : XtV w x v) (e : Ext w w') : XtV w' x v := by
  obtain ⟨vv, sv, av, c1, c2, c3, h1, h2, h3, h4⟩ := h
  exact ⟨vv, sv, av, c1, c2, c3, h1, h2.ext e, h3.ext e, h4.ext e⟩
/-- One of the new values. -/
theorem up_at {w : World} {A : Option Addr} {vs : List Uv} {us : List Up} (hl : vs.length = us.length) (hc : Cells w A (vs.flatMap uvCells)) (hs : ∀ (i : Nat) (u : Up) (x : Uv), us[i]? = some u → vs[i]? = some x → x.1 = u.var ∧ NodeV w u.ex (nvVal x.2)) {i : Nat} {u : Up} (hi : us[i]? = some u) :
    ∃ b o p m q, A = some ⟨b, o, none⟩ ∧ w.cell? ⟨b, o + i * 4, none⟩ = some (.int .i64 u.var) ∧ w.cell? ⟨b, o + i * 4 + 1, none⟩ = some (.int .u8 (p : Nat)) ∧ w.cell? ⟨b, o + i * 4 + 2, none⟩ = some (.int .i64 m) ∧ w.cell? ⟨b, o + i * 4 + 3, none⟩ = some q ∧ NodeV w u.ex (.agg #[.int .u8 (p : Int), .int .i64 m, q]) := by
  have hlt := (List.getElem?_eq_some_iff.1 hi).1
  obtain ⟨x, hx⟩ : ∃ x, vs[i]? = some x := ⟨_, List.getElem?_eq_getElem (by omega)⟩
  obtain ⟨b, o, rfl, _, hcc⟩ := hc (by rw [rec_len uvCells 4 uv_len]; omega)
  obtain ⟨h1, h2⟩ := hs i u x hi hx
  have g := fun j v h => rec_get uvCells 4 uv_len hx j v h
  refine ⟨b, o, x.2.1, x.2.2.1, x.2.2.2, rfl, ?_, ?_, ?_, ?_, h2⟩
  · rw [← h1]; exact hcc _ _ (g 0 _ rfl)
  · rw [Nat.add_assoc]; exact hcc _ _ (g 1 _ rfl)
  · rw [Nat.add_assoc]; exact hcc _ _ (g 2 _ rfl)
  · rw [Nat.add_assoc]; exact hcc _ _ (g 3 _ rfl)
/-- One of the arcs. -/
theorem arc_at {w : World} {A : Option Addr} {vs : List Av} {al : List Ac} (hl : vs.length = al.length) (hc : Cells w A (vs.flatMap avCells)) (hs : ∀ (i : Nat) (a : Ac) (x : Av), al[i]? = some a → vs[i]? = some x → ArcV w a x) {i : Nat} {a : Ac} (hi : al[i]? = some a) :
    ∃ b o x, A = some ⟨b, o, none⟩ ∧ ArcV w a x ∧ w.cell? ⟨b, o + i * 8, none⟩ = some (.int .i64 x.frm) ∧ w.cell? ⟨b, o + i * 8 + 1, none⟩ = some (.int .i64 x.inp) ∧ w.cell? ⟨b, o + i * 8 + 2, none⟩ = some (.int .u8 (x.g.1 : Nat)) ∧ w.cell? ⟨b, o + i * 8 + 3, none⟩ = some (.int .i64 x.g.2.1) ∧ w.cell? ⟨b, o + i * 8 + 4, none⟩ = some x.g.2.2 ∧
      w.cell? ⟨b, o + i * 8 + 5, none⟩ = some (.int .i64 x.out) ∧ w.cell? ⟨b, o + i * 8 + 6, none⟩ = some x.ups ∧ w.cell? ⟨b, o + i * 8 + 7, none⟩ = some (.int .i64 x.dst) := by
  have hlt := (List.getElem?_eq_some_iff.1 hi).1
  obtain ⟨x, hx⟩ : ∃ x, vs[i]? = some x := ⟨_, List.getElem?_eq_getElem (by omega)⟩
  obtain ⟨b, o, rfl, _, hcc⟩ := hc (by rw [rec_len avCells 8 av_len]; omega)
  have g := fun j v h => rec_get avCells 8 av_len hx j v h
  refine ⟨b, o, x, rfl, hs i a x hi hx, hcc _ _ (g 0 _ rfl), ?_, ?_, ?_, ?_, ?_, ?_, ?_⟩
  · rw [Nat.add_assoc]; exact hcc _ _ (g 1 _ rfl)
  · rw [Nat.add_assoc]; exact hcc _ _ (g 2 _ rfl)
  · rw [Nat.add_assoc]; exact hcc _ _ (g 3 _ rfl)
  · rw [Nat.add_assoc]; exact hcc _ _ (g 4 _ rfl)
  · rw [Nat.add_assoc]; exact hcc _ _ (g 5 _ rfl)
  · rw [Nat.add_assoc]; exact hcc _ _ (g 6 _ rfl)
  · rw [Nat.add_assoc]; exact hcc _ _ (g 7 _ rfl)
/-! ### What is said of them -/
def numB (n m : Int) : Bool := decide (0 ≤ n ∧ n < m)
-- The updates from number i on; before: the variable of the one before (-1 at the start).
def upErr (l : List Vt) (us : List Up) (i : Nat) : Int := match us[i]? with
  | none => 0
  | some u => if numB u.var l.length = false ∨ (0 < i ∧ ∃ p, us[i - 1]? = some p ∧ u.var ≤ p.var) then 1 else kindR l u.ex false
-- The first of them that is not 0.
def firstE (f : Nat → Int) : Nat → Int
  | 0 => 0
  | n + 1 => if firstE f n ≠ 0 then firstE f n else f n
theorem firstE_zero {f : Nat → Int} : ∀ {n : Nat}, (∀ k < n, f k = 0) → firstE f n = 0
  | 0, _ => rfl
  | n + 1, h => by unfold firstE; rw [firstE_zero (n := n) (fun k hk => h k (by omega)), if_neg (by simp), h n (by omega)]
theorem firstE_at {f : Nat → Int} : ∀ {n i : Nat}, i < n → (∀ k < i, f k = 0) → f i ≠ 0 → firstE f n = f i
  | 0, i, h, _, _ => by omega
  | n + 1, i, h, h0, h1 => by
    unfold firstE
    by_cases hin : i = n
    · subst hin; rw [firstE_zero h0, if_neg (by simp)]
    · rw [firstE_at (n := n) (by omega) h0 h1, if_pos h1]
def arcR (x : Xt) (a : Ac) : Int :=
  if (numB a.frm x.states && (numB a.inp x.ins && (numB a.out x.outs && numB a.dst x.states))) = false then 1
  else if kindR x.vars a.guard true ≠ 0 then kindR x.vars a.guard true
  else if 16 < a.ups.length then 3 else firstE (upErr x.vars a.ups) a.ups.length
def xtR (x : Xt) : Int :=
  if 16 < x.ins ∨ 16 < x.outs ∨ 64 < x.states ∨ 256 < x.arcs.length then 3
  else if valsR x.vars x.start ≠ 0 then valsR x.vars x.start
  else if x.ins < 1 ∨ x.outs < 1 ∨ x.states < 1 then 1
  else firstE (fun i => match x.arcs[i]? with | some a => arcR x a | none => 0) x.arcs.length
end Go.Proofs.YtggffdkgfgdaoaaDoor

namespace Go.Proofs.YtggffdkgfgdaoaaDoor
open Go.RowKit
set_option linter.unusedVariables false
set_option linter.unusedSimpArgs false
attribute [local go_sem] Oper.quietV quietV Oper.gives givesV ext_refl_iff ext_alloc_iff ext_drew_iff ext_drewN_iff
theorem numE_any (w : World) (n m : Int) : Calls Tryd.prog 36 #[.int .i64 n, .int .i64 m] w (SameP w (numB n m)) := number_any w n m
theorem quietS {f : FuncId} {args : Array Value} {w : World} {n : Nat} {v : Value} (h : Calls Tryd.prog f args (w.drewN n) fun e w' => e = .returned v ∧ w.drewN n = w') : Calls Tryd.prog f args (w.drewN n) fun e w'' => e = .returned v ∧ ∃ m, w'' = w.drewN m :=
  h.mono fun _ _ ⟨he, hm⟩ => ⟨he, n, hm.symm⟩
set_option maxRecDepth 100000 in
set_option maxHeartbeats 16000000 in
theorem arc_any (w : World) (xv : Value) (x : Xt) (a : Ac) (y : Av) (hx : XtV w x xv) (ha : ArcV w a y) (hT : OpsTab w) : Calls Tryd.prog 54 #[xv, avVal y] w (ErrP w (arcR x a)) := by
  obtain ⟨r, hr⟩ : ∃ r : Int, r = arcR x a := ⟨_, rfl⟩
  rw [← hr]
  unfold arcR at hr
  obtain ⟨vv, sv, av, c1, c2, c3, rfl, hvv, hsv, hav⟩ := hx
  obtain ⟨f1, f2, hg, f4, ⟨cu, hu⟩, f6⟩ := ha
  have hkg := fun W' (e : Ext w W') => kind_any W' vv (nvVal y.g) x.vars a.guard c1 true (hvv.ext e) (hg.ext e) (hT.ext e)
  have HKU : Hid (∀ W' (e : Ext w W') t v, NodeV w t v → Calls Tryd.prog 66 #[vv, v, .bool false] W' (ErrP W' (kindR x.vars t false))) := Lib.hid (fun W' e t v hv => kind_any W' vv v x.vars t c1 false (hvv.ext e) (hv.ext e) (hT.ext e))
  have hn1 := fun W' => numE_any W' a.frm x.states
  have hn2 := fun W' => numE_any W' a.inp x.ins
  have hn3 := fun W' => numE_any W' a.out x.outs
  have hn4 := fun W' => numE_any W' a.dst x.states
  obtain ⟨Au, us, hyu, hul, huc, hus, hun, hum⟩ := hu
  obtain ⟨y1, y2, ⟨g1, g2, g3⟩, y4, y5, y6⟩ := y
  simp only at f1 f2 f4 f6 hyu
  subst f1 f2 f4 f6 hyu
  unfold avVal
  unfold nvVal at hkg
  unfold lenMax at hum
  obtain ⟨b1, hb1⟩ : ∃ b, b = numB a.frm x.states := ⟨_, rfl⟩
  obtain ⟨b2', hb2⟩ : ∃ b, b = numB a.inp x.ins := ⟨_, rfl⟩
  obtain ⟨b3, hb3⟩ : ∃ b, b = numB a.out x.outs := ⟨_, rfl⟩
  obtain ⟨b4', hb4⟩ : ∃ b, b = numB a.dst x.states := ⟨_, rfl⟩
  obtain ⟨q, hq⟩ : ∃ q, q = kindR x.vars a.guard true := ⟨_, rfl⟩
  rw [← hb1] at hn1 hr
  rw [← hb2] at hn2 hr
  rw [← hb3] at hn3 hr
  rw [← hb4] at hn4 hr
  rw [← hq] at hkg hr
  unfold SameP at hn1 hn2 hn3 hn4
  unfold ErrP at hkg
  obtain ⟨Av0, hvv0, hvv1, hvv2, hvv3, hvv4⟩ := hvv
  subst hvv0
  unfold lenMax at hvv3
  have HX := Lib.hid (And.intro huc (And.intro hus (And.intro hul hT)))
  have HR0 := Lib.hid hr
  clear hr hb1 hb2 hb3 hb4 hq hg hT hsv hav huc hus hul hvv1 hvv4
  dsimp only at *
  generalize a.frm = afrm at *
  generalize a.inp = ainp at *
  generalize a.out = aout at *
  generalize a.dst = adst at *
  generalize a.ups = ups at *
  generalize x.vars = vars at *
  generalize x.ins = xins at *
  generalize x.outs = xouts at *
  generalize x.states = xst at *
  go_enter Tryd.func54, Tryd.ntmps54
  go_upto_region 1 with fail
  refine wp_named ?_
  intro W1 hW1
  have hE1 : Ext w W1 := by rw [hW1]; exact (alloc_ext w _).trans (alloc_ext _ _)
  have e0 : ∀ w', Ext W1 w' → w'.cell? ⟨w.heap.size, 0, none⟩ = some (.int .i64 xins) := fun w' h => h.cell (by rw [hW1]; simp [go_sem])
  have e1 : ∀ w', Ext W1 w' → w'.cell? ⟨w.heap.size, 1, none⟩ = some (.int .i64 xouts) := fun w' h => h.cell (by rw [hW1]; simp [go_sem])
  have e2 : ∀ w', Ext W1 w' → w'.cell? ⟨w.heap.size, 2, none⟩ = some (.int .i64 xst) := fun w' h => h.cell (by rw [hW1]; simp [go_sem])
  have e3 : ∀ w', Ext W1 w' → w'.cell? ⟨w.heap.size, 3, none⟩ = some (.slice Av0 vars.length c1) := fun w' h => h.cell (by rw [hW1]; simp [go_sem])
  have a0 : ∀ w', Ext W1 w' → w'.cell? ⟨w.heap.size + 1, 0, none⟩ = some (.int .i64 afrm) := fun w' h => h.cell (by rw [hW1]; simp [go_sem])
  have a1 : ∀ w', Ext W1 w' → w'.cell? ⟨w.heap.size + 1, 1, none⟩ = some (.int .i64 ainp) := fun w' h => h.cell (by rw [hW1]; simp [go_sem])
  have a2 : ∀ w', Ext W1 w' → w'.cell? ⟨w.heap.size + 1, 2, none⟩ = some (.int .u8 (g1 : Int)) := fun w' h => h.cell (by rw [hW1]; simp [go_sem])
  have a3 : ∀ w', Ext W1 w' → w'.cell? ⟨w.heap.size + 1, 3, none⟩ = some (.int .i64 g2) := fun w' h => h.cell (by rw [hW1]; simp [go_sem])
  have a4 : ∀ w', Ext W1 w' → w'.cell? ⟨w.heap.size + 1, 4, none⟩ = some g3 := fun w' h => h.cell (by rw [hW1]; simp [go_sem])
  have a5 : ∀ w', Ext W1 w' → w'.cell? ⟨w.heap.size + 1, 5, none⟩ = some (.int .i64 aout) := fun w' h => h.cell (by rw [hW1]; simp [go_sem])
  have a6 : ∀ w', Ext W1 w' → w'.cell? ⟨w.heap.size + 1, 6, none⟩ = some (.slice Au ups.length cu) := fun w' h => h.cell (by rw [hW1]; simp [go_sem])
  have a7 : ∀ w', Ext W1 w' → w'.cell? ⟨w.heap.size + 1, 7, none⟩ = some (.int .i64 adst) := fun w' h => h.cell (by rw [hW1]; simp [go_sem])
  have hR1 := Ext.refl W1
  have HE1 := Lib.hid hE1
  have hkg1 := hkg W1 hE1
  clear hW1 hkg hE1
  generalize w.heap.size + 1 = d3 at *
  generalize w.heap.size = d2 at *
  cases b1 with
  | false =>
    have HR : Hid (r = 1) := Lib.hid (by rw [HR0.out]; rfl)
    go_upto_region 17 with (first | ((with_reducible refine (hn1 _).mono ?_); rintro e W ⟨rfl, rfl⟩) | ((with_reducible refine (hn2 _).mono ?_); rintro e W ⟨rfl, rfl⟩) | ((with_reducible refine (hn3 _).mono ?_); rintro e W ⟨rfl, rfl⟩) | ((with_reducible refine (hn4 _).mono ?_); rintro e W ⟨rfl, rfl⟩))
    go_ret
    exact ⟨by rw [HR.out]; rfl, HE1.out⟩
  | true => cases b2' with
    | false =>
      have HR : Hid (r = 1) := Lib.hid (by rw [HR0.out]; rfl)
      go_upto_region 17 with (first | ((with_reducible refine (hn1 _).mono ?_); rintro e W ⟨rfl, rfl⟩) | ((with_reducible refine (hn2 _).mono ?_); rintro e W ⟨rfl, rfl⟩) | ((with_reducible refine (hn3 _).mono ?_); rintro e W ⟨rfl, rfl⟩) | ((with_reducible refine (hn4 _).mono ?_); rintro e W ⟨rfl, rfl⟩))
      go_ret
      exact ⟨by rw [HR.out]; rfl, HE1.out⟩
    | true => cases b3 with
      | false =>
        have HR : Hid (r = 1) := Lib.hid (by rw [HR0.out]; rfl)
        go_upto_region 17 with (first | ((with_reducible refine (hn1 _).mono ?_); rintro e W ⟨rfl, rfl⟩) | ((with_reducible refine (hn2 _).mono ?_); rintro e W ⟨rfl, rfl⟩) | ((with_reducible refine (hn3 _).mono ?_); rintro e W ⟨rfl, rfl⟩) | ((with_reducible refine (hn4 _).mono ?_); rintro e W ⟨rfl, rfl⟩))
        go_ret
        exact ⟨by rw [HR.out]; rfl, HE1.out⟩
      | true => cases b4' with
        | false =>
          have HR : Hid (r = 1) := Lib.hid (by rw [HR0.out]; rfl)
          go_upto_region 17 with (first | ((with_reducible refine (hn1 _).mono ?_); rintro e W ⟨rfl, rfl⟩) | ((with_reducible refine (hn2 _).mono ?_); rintro e W ⟨rfl, rfl⟩) | ((with_reducible refine (hn3 _).mono ?_); rintro e W ⟨rfl, rfl⟩) | ((with_reducible refine (hn4 _).mono ?_); rintro e W ⟨rfl, rfl⟩))
          go_ret
          exact ⟨by rw [HR.out]; rfl, HE1.out⟩
        | true =>
          have HR0 : Hid (r = if q ≠ 0 then q else if 16 < ups.length then 3 else firstE (upErr vars ups) ups.length) := Lib.hid (by rw [HR0.out]; rfl)
          go_upto_region 3 with (first | ((with_reducible refine (hn1 _).mono ?_); rintro e W ⟨rfl, rfl⟩) | ((with_reducible refine (hn2 _).mono ?_); rintro e W ⟨rfl, rfl⟩) | ((with_reducible refine (hn3 _).mono ?_); rintro e W ⟨rfl, rfl⟩) | ((with_reducible refine (hn4 _).mono ?_); rintro e W ⟨rfl, rfl⟩))
          clear hn1 hn2 hn3 hn4
          by_cases hq0 : q = 0
          rotate_left
          · have HR : Hid (r = q) := Lib.hid (by rw [HR0.out, if_pos hq0])
            have hz2 : (q != 0) = true := bne_iff_ne.2 hq0
            clear hq0
            go_upto_region 17 with (first | ((with_reducible refine hkg1.mono ?_); rintro e W2 ⟨rfl, e2'⟩))
            go_ret
            exact ⟨by rw [HR.out]; rfl, HE1.out.trans e2'⟩
          subst hq0
          have HR0 : Hid (r = if 16 < ups.length then 3 else firstE (upErr vars ups) ups.length) := Lib.hid (by rw [HR0.out]; rfl)
          go_upto_region 4 with (first | ((with_reducible refine hkg1.mono ?_); rintro e W2 ⟨rfl, e2'⟩))
          have e3 := fun w' (h : Ext W2 w') => e3 w' (e2'.trans h)
          have a6 := fun w' (h : Ext W2 w') => a6 w' (e2'.trans h)
          have HE2 := Lib.hid (HE1.out.trans e2')
          have hR2 := Ext.refl W2
          clear hkg1 e0 e1 e2 a0 a1 a2 a3 a4 a5 a7 hR1 e2' HE1
          by_cases hbig : (16 : Int) < ups.length
          · have HR : Hid (r = 3) := Lib.hid (by rw [HR0.out, if_pos (by omega)])
            go_wp2
            go_ret
            exact ⟨by rw [HR.out]; rfl, HE2.out⟩
          have HR0 : Hid (r = firstE (upErr vars ups) ups.length) := Lib.hid (by rw [HR0.out, if_neg (by omega)])
          go_wp2
          go_loopw [54] (fun iv wr => ∃ (i : Nat), iv = .int .i64 i ∧ i ≤ ups.length ∧ Hid (∀ k < i, upErr vars ups k = 0) ∧ Hid (Ext W2 wr)) (fun iv _ => ups.length - (intOf iv).toNat)
          case atStart => exact ⟨0, by first | rfl | simp, Nat.zero_le _, Lib.hid (by intro k h; omega), Lib.hid (Ext.refl _)⟩
          case round =>
            obtain ⟨i, rfl, hi, HF, HW⟩ := hrel
            obtain ⟨W5, hW5⟩ : ∃ W, W = wr := ⟨_, rfl⟩; subst hW5
            have hR5 := Ext.refl W5
            have e3 := fun w' (h : Ext W5 w') => e3 w' (HW.out.trans h)
            have a6 := fun w' (h : Ext W5 w') => a6 w' (HW.out.trans h)
            have HW5 := Lib.hid (HE2.out.trans HW.out)
            clear hR2
            by_cases hlt : i < ups.length
            · have hlI : (i : Int) < (ups.length : Int) := by omega
              obtain ⟨u, hu⟩ : ∃ u, ups[i]? = some u := ⟨_, List.getElem?_eq_getElem hlt⟩
              obtain ⟨bs, os, p, m, z, hA, d0, d1, d2, d3', hns⟩ := up_at HX.out.2.2.1 HX.out.1 HX.out.2.1 hu
              subst hA
              obtain ⟨_, A9, cs9, vs9, hq9, _⟩ := hns.form
              have hzz : z = .slice A9 u.ex.subs.length cs9 := by
                have h9 := congrArg (fun v => match v with | Value.agg cs => cs[2]? | _ => none) hq9
                simpa using h9
              subst hzz
              clear hq9
              have HLT := Lib.hid hlt
              have HUU := Lib.hid hu
              have d0 := fun w' (h : Ext W5 w') => (HW5.out.trans h).cell d0
              have d1 := fun w' (h : Ext W5 w') => (HW5.out.trans h).cell d1
              have d2' := fun w' (h : Ext W5 w') => (HW5.out.trans h).cell d2
              have d3' := fun w' (h : Ext W5 w') => (HW5.out.trans h).cell d3'
              have hnum := fun w' => numE_any w' u.var vars.length
              unfold SameP at hnum
              obtain ⟨nb, hnb⟩ : ∃ nb, nb = numB u.var vars.length := ⟨_, rfl⟩
              rw [← hnb] at hnum
              obtain ⟨q2, hq2⟩ : ∃ q, q = kindR vars u.ex false := ⟨_, rfl⟩
              have HQ2 := Lib.hid hq2
              have HKN := Lib.hid hns
              have HUE : Hid (upErr vars ups i = if nb = false ∨ (0 < i ∧ ∃ p, ups[i - 1]? = some p ∧ u.var ≤ p.var) then 1 else kindR vars u.ex false) := Lib.hid (by unfold upErr; rw [hu, hnb])
              obtain ⟨uv, huv⟩ : ∃ uv, uv = u.var := ⟨_, rfl⟩
              rw [← huv] at hnum d0
              have HUV := Lib.hid huv
              obtain ⟨nl, hnl⟩ : ∃ nl, nl = u.ex.subs.length := ⟨_, rfl⟩
              rw [← hnl] at d3' HKN
              clear hu hnb hq2 hns huv d2 hnl
              go_upto_region 11 with fail
              refine wp_named ?_
              intro W6 hW6
              have hE56 : Ext W5 W6 := by rw [hW6]; exact alloc_ext _ _
              have x0 : ∀ w', Ext W6 w' → w'.cell? ⟨W5.heap.size, 0, none⟩ = some (.int .i64 uv) := fun w' h => h.cell (by rw [hW6]; simp [go_sem])
              have x1 : ∀ w', Ext W6 w' → w'.cell? ⟨W5.heap.size, 1, none⟩ = some (.int .u8 (p : Int)) := fun w' h => h.cell (by rw [hW6]; simp [go_sem])
              have x2 : ∀ w', Ext W6 w' → w'.cell? ⟨W5.heap.size, 2, none⟩ = some (.int .i64 m) := fun w' h => h.cell (by rw [hW6]; simp [go_sem])
              have x3 : ∀ w', Ext W6 w' → w'.cell? ⟨W5.heap.size, 3, none⟩ = some (.slice A9 nl cs9) := fun w' h => h.cell (by rw [hW6]; simp [go_sem])
              have e3 := fun w' (h : Ext W6 w') => e3 w' (hE56.trans h)
              have a6 := fun w' (h : Ext W6 w') => a6 w' (hE56.trans h)
              have HE6 := Lib.hid (HW5.out.trans hE56)
              have HW6 := Lib.hid (HW.out.trans hE56)
              have hk := fun W' (e : Ext W6 W') => HKU.out W' (HE6.out.trans e) _ _ HKN.out
              unfold ErrP at hk
              rw [← HQ2.out] at hk
              clear hW6 hE56 d0 d1 d2' d3' HW hR5
              generalize W5.heap.size = b4 at *
              have hR6 := Ext.refl W6
              cases nb with
              | false =>
                have HR : Hid (r = 1) := Lib.hid (by rw [HR0.out, firstE_at HLT.out HF.out (by rw [HUE.out, if_pos (.inl rfl)]; decide), HUE.out, if_pos (.inl rfl)])
                go_quiet (exact quietS (hnum _))
                go_wp2
                go_ret
                exact ⟨by rw [HR.out]; rfl, HE6.out.trans ((Ext.refl _).drewN _)⟩
              | true =>
                rcases Nat.eq_zero_or_pos i with h0 | hpos
                · have HPF : Hid (¬ (true = false ∨ (0 < i ∧ ∃ p, ups[i - 1]? = some p ∧ u.var ≤ p.var))) := Lib.hid (by rintro (h | ⟨h, _⟩); cases h; omega)
                  have hg : decide (0 < i) = false := decide_eq_false (by omega)
                  clear h0
                  have HUE : Hid (upErr vars ups (i) = q2) := Lib.hid (by rw [HUE.out, if_neg HPF.out, HQ2.out])
                  go_quiet (exact quietS (hnum _))
                  have hk7 := hk (W6.drewN nq) ((Ext.refl _).drewN _)
                  have HE7 := Lib.hid (HE6.out.trans ((Ext.refl W6).drewN nq))
                  by_cases hq2 : q2 = 0
                  · subst hq2
                    go_upto_region 14 with (first | ((with_reducible refine hk7.mono ?_); rintro e W8 ⟨rfl, e8⟩))
                    clear hk hk7 hnum x0 x1 x2 x3
                    go_wp2
                    refine ⟨⟨i + 1, by go_num, hlt, Lib.hid ?_, Lib.hid ((HW6.out.trans ((Ext.refl W6).drewN nq)).trans e8)⟩, ?_⟩
                    · intro k hk
                      by_cases hki : k = i
                      · subst hki; exact HUE.out
                      · exact HF.out k (by omega)
                    · simp [intOf]; omega
                  · have HR : Hid (r = q2) := Lib.hid (by rw [HR0.out, firstE_at HLT.out HF.out (by rw [HUE.out]; exact hq2), HUE.out])
                    have hz2 : (q2 != 0) = true := bne_iff_ne.2 hq2
                    clear hq2
                    go_upto_region 14 with (first | ((with_reducible refine hk7.mono ?_); rintro e W8 ⟨rfl, e8⟩))
                    clear hk hk7 hnum x0 x1 x2 x3
                    go_wp2
                    go_ret
                    exact ⟨by rw [HR.out]; rfl, HE7.out.trans e8⟩
                · obtain ⟨j, rfl⟩ : ∃ j, i = j + 1 := ⟨i - 1, by omega⟩
                  obtain ⟨pu, hpu⟩ : ∃ pu, ups[j]? = some pu := ⟨_, List.getElem?_eq_getElem (by omega)⟩
                  obtain ⟨bp, op, _, _, _, hAp, dp, _⟩ := up_at HX.out.2.2.1 HX.out.1 HX.out.2.1 hpu
                  injection hAp with hAp
                  injection hAp with h1 h2
                  subst h1 h2
                  have dp := fun w' (h : Ext W6 w') => (HE6.out.trans h).cell dp
                  obtain ⟨pv, hpv⟩ : ∃ pv, pv = pu.var := ⟨_, rfl⟩
                  rw [← hpv] at dp
                  have HP := Lib.hid (And.intro hpu hpv)
                  clear hpu hpv
                  by_cases hle : uv ≤ pv
                  · have HLE := Lib.hid hle
                    have HR : Hid (r = 1) := Lib.hid (by rw [HR0.out, firstE_at HLT.out HF.out (by rw [HUE.out, if_pos (.inr ⟨Nat.succ_pos _, pu, HP.out.1, by have := HLE.out; have := HUV.out; have := HP.out.2; omega⟩)]; decide), HUE.out, if_pos (.inr ⟨Nat.succ_pos _, pu, HP.out.1, by have := HLE.out; have := HUV.out; have := HP.out.2; omega⟩)])
                    go_quiet (exact quietS (hnum _))
                    go_wp2
                    go_ret
                    exact ⟨by rw [HR.out]; rfl, HE6.out.trans ((Ext.refl _).drewN _)⟩
                  · have HPF : Hid (¬ (true = false ∨ (0 < j + 1 ∧ ∃ p, ups[j + 1 - 1]? = some p ∧ u.var ≤ p.var))) := Lib.hid (by
                      rintro (h | ⟨_, p, h1, h2⟩)
                      · cases h
                      · have h3 : some pu = some p := HP.out.1.symm.trans h1
                        injection h3 with h3
                        have := HUV.out
                        have := HP.out.2
                        rw [h3] at this
                        omega)
                    have HUE : Hid (upErr vars ups (j + 1) = q2) := Lib.hid (by rw [HUE.out, if_neg HPF.out, HQ2.out])
                    go_quiet (exact quietS (hnum _))
                    have hk7 := hk (W6.drewN nq) ((Ext.refl _).drewN _)
                    have HE7 := Lib.hid (HE6.out.trans ((Ext.refl W6).drewN nq))
                    by_cases hq2 : q2 = 0
                    · subst hq2
                      go_upto_region 14 with (first | ((with_reducible refine hk7.mono ?_); rintro e W8 ⟨rfl, e8⟩))
                      clear hk hk7 hnum x0 x1 x2 x3
                      go_wp2
                      refine ⟨⟨j + 1 + 1, by go_num, hlt, Lib.hid ?_, Lib.hid ((HW6.out.trans ((Ext.refl W6).drewN nq)).trans e8)⟩, ?_⟩
                      · intro k hk
                        by_cases hki : k = j + 1
                        · subst hki; exact HUE.out
                        · exact HF.out k (by omega)
                      · simp [intOf]; omega
                    · have HR : Hid (r = q2) := Lib.hid (by rw [HR0.out, firstE_at HLT.out HF.out (by rw [HUE.out]; exact hq2), HUE.out])
                      have hz2 : (q2 != 0) = true := bne_iff_ne.2 hq2
                      clear hq2
                      go_upto_region 14 with (first | ((with_reducible refine hk7.mono ?_); rintro e W8 ⟨rfl, e8⟩))
                      clear hk hk7 hnum x0 x1 x2 x3
                      go_wp2
                      go_ret
                      exact ⟨by rw [HR.out]; rfl, HE7.out.trans e8⟩
            · have hie : i = ups.length := by omega
              subst hie
              have hlt2 : ¬ (ups.length : Int) < (ups.length : Int) := by omega
              have HR : Hid (r = 0) := Lib.hid (by rw [HR0.out]; exact firstE_zero HF.out)
              go_wp2
              go_ret
              exact ⟨by rw [HR.out]; rfl, HW5.out⟩
end Go.Proofs.YtggffdkgfgdaoaaDoor

namespace Go.Proofs.YtggffdkgfgdaoaaDoor
open Go.RowKit
set_option linter.unusedVariables false
set_option linter.unusedSimpArgs false
attribute [local go_sem] Oper.quietV quietV Oper.gives givesV ext_refl_iff ext_alloc_iff ext_drew_iff ext_drewN_iff
def acErr (x : Xt) (i : Nat) : Int := match x.arcs[i]? with | some a => arcR x a | none => 0
theorem xtR_eq (x : Xt) : xtR x = if 16 < x.ins ∨ 16 < x.outs ∨ 64 < x.states ∨ 256 < x.arcs.length then 3
  else if valsR x.vars x.start ≠ 0 then valsR x.vars x.start
  else if x.ins < 1 ∨ x.outs < 1 ∨ x.states < 1 then 1
  else firstE (acErr x) x.arcs.length := rfl
set_option maxRecDepth 100000 in
set_option maxHeartbeats 16000000 in
theorem extCheck_any (w : World) (xv : Value) (x : Xt) (hx : XtV w x xv) (hT : OpsTab w) : Calls Tryd.prog 27 #[xv] w (ErrP w (xtR x)) := by
  obtain ⟨r, hr⟩ : ∃ r : Int, r = xtR x := ⟨_, rfl⟩
  rw [← hr]
  rw [xtR_eq] at hr
  have HXX := Lib.hid (And.intro hx hT)
  obtain ⟨vv, sv, av, c1, c2, c3, rfl, hvv, hsv, hav⟩ := hx
  have hvl := fun W' (e : Ext w W') => checkValues_any W' vv sv x.vars x.start c1 c2 (hvv.ext e) (hsv.ext e)
  unfold ErrP at hvl
  obtain ⟨Av0, hvv0, hvv1, hvv2, hvv3, hvv4⟩ := hvv
  obtain ⟨As, hs0, hs1, hs2, hs3⟩ := hsv
  obtain ⟨Aa, as', ha0, hal, hac, has, han, ham⟩ := hav
  subst hvv0 hs0 ha0
  unfold lenMax at hvv3 hs3 ham
  have HX := Lib.hid (And.intro hac (And.intro has hal))
  obtain ⟨q, hq⟩ : ∃ q, q = valsR x.vars x.start := ⟨_, rfl⟩
  rw [← hq] at hvl hr
  have HR0 := Lib.hid hr
  have HARC : Hid (∀ W' (e : Ext w W') a y, ArcV w a y → Calls Tryd.prog 54 #[.agg #[.int .i64 x.ins, .int .i64 x.outs, .int .i64 x.states, .slice Av0 x.vars.length c1, .slice As x.start.length c2, .slice Aa x.arcs.length c3], avVal y] W' (ErrP W' (arcR x a))) := Lib.hid (fun W' e a y h => arc_any W' _ x a y (HXX.out.1.ext e) (h.ext e) (HXX.out.2.ext e))
  obtain ⟨F, hF⟩ : ∃ F, F = acErr x := ⟨_, rfl⟩
  have HF0 : Hid (∀ i a, x.arcs[i]? = some a → F i = arcR x a) := Lib.hid (by intro i a h; rw [hF]; unfold acErr; rw [h])
  rw [← hF] at HR0
  clear hr hq hac has hal hvv1 hvv4 hs1 hT hF HXX
  obtain ⟨R, hR⟩ : ∃ R : Ac → Int, R = arcR x := ⟨_, rfl⟩
  rw [← hR] at HARC HF0
  clear hR
  generalize x.vars = vars at *
  generalize x.start = start at *
  generalize x.arcs = arcs at *
  generalize x.ins = xins at *
  generalize x.outs = xouts at *
  generalize x.states = xst at *
  go_enter Tryd.func27, Tryd.ntmps27
  go_upto_region 1 with fail
  refine wp_named ?_
  intro W1 hW1
  have hE1 : Ext w W1 := by rw [hW1]; exact alloc_ext w _
  have e0 : ∀ w', Ext W1 w' → w'.cell? ⟨w.heap.size, 0, none⟩ = some (.int .i64 xins) := fun w' h => h.cell (by rw [hW1]; simp [go_sem])
  have e1 : ∀ w', Ext W1 w' → w'.cell? ⟨w.heap.size, 1, none⟩ = some (.int .i64 xouts) := fun w' h => h.cell (by rw [hW1]; simp [go_sem])
  have e2 : ∀ w', Ext W1 w' → w'.cell? ⟨w.heap.size, 2, none⟩ = some (.int .i64 xst) := fun w' h => h.cell (by rw [hW1]; simp [go_sem])
  have e3 : ∀ w', Ext W1 w' → w'.cell? ⟨w.heap.size, 3, none⟩ = some (.slice Av0 vars.length c1) := fun w' h => h.cell (by rw [hW1]; simp [go_sem])
  have e4 : ∀ w', Ext W1 w' → w'.cell? ⟨w.heap.size, 4, none⟩ = some (.slice As start.length c2) := fun w' h => h.cell (by rw [hW1]; simp [go_sem])
  have e5 : ∀ w', Ext W1 w' → w'.cell? ⟨w.heap.size, 5, none⟩ = some (.slice Aa arcs.length c3) := fun w' h => h.cell (by rw [hW1]; simp [go_sem])
  have hR1 := Ext.refl W1
  have HE1 := Lib.hid hE1
  have hvl1 := hvl W1 hE1
  clear hW1 hvl hE1
  generalize w.heap.size = d2 at *
  by_cases g1 : 16 < xins
  · skip
    have HR : Hid (r = 3) := Lib.hid (by rw [HR0.out, if_pos (.inl g1)])
    go_wp2
    go_ret
    exact ⟨by rw [HR.out]; rfl, HE1.out⟩
  by_cases g2 : 16 < xouts
  · skip
    have HR : Hid (r = 3) := Lib.hid (by rw [HR0.out, if_pos (.inr (.inl g2))])
    go_wp2
    go_ret
    exact ⟨by rw [HR.out]; rfl, HE1.out⟩
  by_cases g3 : 64 < xst
  · skip
    have HR : Hid (r = 3) := Lib.hid (by rw [HR0.out, if_pos (.inr (.inr (.inl g3)))])
    go_wp2
    go_ret
    exact ⟨by rw [HR.out]; rfl, HE1.out⟩
  by_cases g4 : (256 : Int) < arcs.length
  · skip
    have HR : Hid (r = 3) := Lib.hid (by rw [HR0.out, if_pos (.inr (.inr (.inr (by omega))))])
    go_wp2
    go_ret
    exact ⟨by rw [HR.out]; rfl, HE1.out⟩
  have HR0 : Hid (r = if q ≠ 0 then q else if xins < 1 ∨ xouts < 1 ∨ xst < 1 then 1 else firstE F arcs.length) := Lib.hid (by rw [HR0.out, if_neg (by omega)])
  go_upto_region 3 with fail
  by_cases hq0 : q = 0
  rotate_left
  · have HR : Hid (r = q) := Lib.hid (by rw [HR0.out, if_pos hq0])
    have hz2 : (q != 0) = true := bne_iff_ne.2 hq0
    clear hq0
    go_upto_region 6 with (first | ((with_reducible refine hvl1.mono ?_); rintro e W2 ⟨rfl, e2'⟩))
    go_ret
    exact ⟨by rw [HR.out]; rfl, HE1.out.trans e2'⟩
  subst hq0
  have HR0 : Hid (r = if xins < 1 ∨ xouts < 1 ∨ xst < 1 then 1 else firstE F arcs.length) := Lib.hid (by rw [HR0.out]; rfl)
  go_upto_region 6 with (first | ((with_reducible refine hvl1.mono ?_); rintro e W2 ⟨rfl, e2'⟩))
  have e0 := fun w' (h : Ext W2 w') => e0 w' (e2'.trans h)
  have e1 := fun w' (h : Ext W2 w') => e1 w' (e2'.trans h)
  have e2 := fun w' (h : Ext W2 w') => e2 w' (e2'.trans h)
  have e3 := fun w' (h : Ext W2 w') => e3 w' (e2'.trans h)
  have e4 := fun w' (h : Ext W2 w') => e4 w' (e2'.trans h)
  have e5 := fun w' (h : Ext W2 w') => e5 w' (e2'.trans h)
  have HE2 := Lib.hid (HE1.out.trans e2')
  have hR2 := Ext.refl W2
  clear hvl1 hR1 e2' HE1
  by_cases l1 : xins < 1
  · skip
    have HR : Hid (r = 1) := Lib.hid (by rw [HR0.out, if_pos (.inl l1)])
    go_wp2
    go_ret
    exact ⟨by rw [HR.out]; rfl, HE2.out⟩
  by_cases l2 : xouts < 1
  · skip
    have HR : Hid (r = 1) := Lib.hid (by rw [HR0.out, if_pos (.inr (.inl l2))])
    go_wp2
    go_ret
    exact ⟨by rw [HR.out]; rfl, HE2.out⟩
  by_cases l3 : xst < 1
  · skip
    have HR : Hid (r = 1) := Lib.hid (by rw [HR0.out, if_pos (.inr (.inr l3))])
    go_wp2
    go_ret
    exact ⟨by rw [HR.out]; rfl, HE2.out⟩
  have HR0 : Hid (r = firstE F arcs.length) := Lib.hid (by rw [HR0.out, if_neg (by omega)])
  go_wp2
  go_loopw [50] (fun iv wr => ∃ (i : Nat), iv = .int .i64 i ∧ i ≤ arcs.length ∧ Hid (∀ k < i, F k = 0) ∧ Hid (Ext W2 wr)) (fun iv _ => arcs.length - (intOf iv).toNat)
  case atStart => exact ⟨0, by first | rfl | simp, Nat.zero_le _, Lib.hid (by intro k h; omega), Lib.hid (Ext.refl _)⟩
  case round =>
    obtain ⟨i, rfl, hi, HF, HW⟩ := hrel
    obtain ⟨W5, hW5⟩ : ∃ W, W = wr := ⟨_, rfl⟩; subst hW5
    have hR5 := Ext.refl W5
    have e0 := fun w' (h : Ext W5 w') => e0 w' (HW.out.trans h)
    have e1 := fun w' (h : Ext W5 w') => e1 w' (HW.out.trans h)
    have e2 := fun w' (h : Ext W5 w') => e2 w' (HW.out.trans h)
    have e3 := fun w' (h : Ext W5 w') => e3 w' (HW.out.trans h)
    have e4 := fun w' (h : Ext W5 w') => e4 w' (HW.out.trans h)
    have e5 := fun w' (h : Ext W5 w') => e5 w' (HW.out.trans h)
    have HW5 := Lib.hid (HE2.out.trans HW.out)
    clear hR2
    by_cases hlt : i < arcs.length
    · have hlI : (i : Int) < (arcs.length : Int) := by omega
      obtain ⟨a, ha⟩ : ∃ a, arcs[i]? = some a := ⟨_, List.getElem?_eq_getElem hlt⟩
      obtain ⟨bs, os, y, hA, hay, d0, d1, d2', d3, d4, d5, d6, d7⟩ := arc_at HX.out.2.2 HX.out.1 HX.out.2.1 ha
      subst hA
      have HLT := Lib.hid hlt
      have HAY := Lib.hid hay
      have HFA := Lib.hid (HF0.out i a ha)
      obtain ⟨f1, f2, hg, f4, ⟨cu, hu⟩, f6⟩ := hay
      obtain ⟨Au, us, hyu, hul, huc, hus, hun, hum⟩ := hu
      obtain ⟨y1, y2, ⟨g1, g2, g3⟩, y4, y5, y6⟩ := y
      simp only at f1 f2 f4 f6 hyu
      subst hyu
      obtain ⟨_, A9, cs9, vs9, hq9, _⟩ := hg.form
      have hzz : g3 = .slice A9 a.guard.subs.length cs9 := by
        have h9 := congrArg (fun v => match v with | Value.agg cs => cs[2]? | _ => none) hq9
        simpa [nvVal] using h9
      subst hzz
      clear f1 f2 f4 f6 hg hul huc hus hun hum hq9
      have hcl := fun W' (e : Ext W5 W') => HARC.out W' (HW5.out.trans e) a _ HAY.out
      unfold avVal ErrP at hcl
      dsimp only at *
      obtain ⟨nl, hnl⟩ : ∃ nl, nl = a.guard.subs.length := ⟨_, rfl⟩
      obtain ⟨nu, hnu⟩ : ∃ nu, nu = a.ups.length := ⟨_, rfl⟩
      obtain ⟨q3, hq3⟩ : ∃ q, q = R a := ⟨_, rfl⟩
      rw [← hnl] at d4 hcl
      rw [← hnu] at d6 hcl
      rw [← hq3] at hcl HFA
      clear hnl hnu hq3 ha HAY
      have d0 := fun w' (h : Ext W5 w') => (HW5.out.trans h).cell d0
      have d1 := fun w' (h : Ext W5 w') => (HW5.out.trans h).cell d1
      have d2' := fun w' (h : Ext W5 w') => (HW5.out.trans h).cell d2'
      have d3 := fun w' (h : Ext W5 w') => (HW5.out.trans h).cell d3
      have d4 := fun w' (h : Ext W5 w') => (HW5.out.trans h).cell d4
      have d5 := fun w' (h : Ext W5 w') => (HW5.out.trans h).cell d5
      have d6 := fun w' (h : Ext W5 w') => (HW5.out.trans h).cell d6
      have d7 := fun w' (h : Ext W5 w') => (HW5.out.trans h).cell d7
      go_upto_region 11 with fail
      refine wp_named ?_
      intro W6 hW6
      have hE56 : Ext W5 W6 := by rw [hW6]; exact alloc_ext _ _
      have x0 : ∀ w', Ext W6 w' → w'.cell? ⟨W5.heap.size, 0, none⟩ = some (.int .i64 y1) := fun w' h => h.cell (by rw [hW6]; simp [go_sem])
      have x1 : ∀ w', Ext W6 w' → w'.cell? ⟨W5.heap.size, 1, none⟩ = some (.int .i64 y2) := fun w' h => h.cell (by rw [hW6]; simp [go_sem])
      have x2 : ∀ w', Ext W6 w' → w'.cell? ⟨W5.heap.size, 2, none⟩ = some (.int .u8 (g1 : Int)) := fun w' h => h.cell (by rw [hW6]; simp [go_sem])
      have x3 : ∀ w', Ext W6 w' → w'.cell? ⟨W5.heap.size, 3, none⟩ = some (.int .i64 g2) := fun w' h => h.cell (by rw [hW6]; simp [go_sem])
      have x4 : ∀ w', Ext W6 w' → w'.cell? ⟨W5.heap.size, 4, none⟩ = some (.slice A9 nl cs9) := fun w' h => h.cell (by rw [hW6]; simp [go_sem])
      have x5 : ∀ w', Ext W6 w' → w'.cell? ⟨W5.heap.size, 5, none⟩ = some (.int .i64 y4) := fun w' h => h.cell (by rw [hW6]; simp [go_sem])
      have x6 : ∀ w', Ext W6 w' → w'.cell? ⟨W5.heap.size, 6, none⟩ = some (.slice Au nu cu) := fun w' h => h.cell (by rw [hW6]; simp [go_sem])
      have x7 : ∀ w', Ext W6 w' → w'.cell? ⟨W5.heap.size, 7, none⟩ = some (.int .i64 y6) := fun w' h => h.cell (by rw [hW6]; simp [go_sem])
      have e0 := fun w' (h : Ext W6 w') => e0 w' (hE56.trans h)
      have e1 := fun w' (h : Ext W6 w') => e1 w' (hE56.trans h)
      have e2 := fun w' (h : Ext W6 w') => e2 w' (hE56.trans h)
      have e3 := fun w' (h : Ext W6 w') => e3 w' (hE56.trans h)
      have e4 := fun w' (h : Ext W6 w') => e4 w' (hE56.trans h)
      have e5 := fun w' (h : Ext W6 w') => e5 w' (hE56.trans h)
      have hR6 := Ext.refl W6
      have hcl1 := hcl W6 hE56
      have HW6 := Lib.hid (HW.out.trans hE56)
      have HE6 := Lib.hid (HW5.out.trans hE56)
      clear hW6 hE56 d0 d1 d2' d3 d4 d5 d6 d7 HW hcl hR5
      generalize W5.heap.size = b4 at *
      by_cases hq0 : q3 = 0
      · subst hq0
        go_upto_region 12 with (first | ((with_reducible refine hcl1.mono ?_); rintro e W8 ⟨rfl, e8⟩))
        clear hcl1 x0 x1 x2 x3 x4 x5 x6 x7
        go_wp2
        refine ⟨⟨i + 1, by go_num, hlt, Lib.hid ?_, Lib.hid (HW6.out.trans e8)⟩, ?_⟩
        · intro k hk
          by_cases hki : k = i
          · subst hki; exact HFA.out
          · exact HF.out k (by omega)
        · simp [intOf]; omega
      · have HR : Hid (r = q3) := Lib.hid (by rw [HR0.out, firstE_at HLT.out HF.out (by rw [HFA.out]; exact hq0), HFA.out])
        have hz2 : (q3 != 0) = true := bne_iff_ne.2 hq0
        clear hq0
        go_upto_region 12 with (first | ((with_reducible refine hcl1.mono ?_); rintro e W8 ⟨rfl, e8⟩))
        clear hcl1 x0 x1 x2 x3 x4 x5 x6 x7
        go_wp2
        go_ret
        exact ⟨by rw [HR.out]; rfl, HE6.out.trans e8⟩
    · have hie : i = arcs.length := by omega
      subst hie
      have hlt2 : ¬ (arcs.length : Int) < (arcs.length : Int) := by omega
      have HR : Hid (r = 0) := Lib.hid (by rw [HR0.out]; exact firstE_zero HF.out)
      go_wp2
      go_ret
      exact ⟨by rw [HR.out]; rfl, HW5.out⟩
end Go.Proofs.YtggffdkgfgdaoaaDoor
