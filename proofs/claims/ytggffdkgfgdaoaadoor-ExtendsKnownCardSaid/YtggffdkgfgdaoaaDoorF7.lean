/- ref28.Check 64. -/
import Derived.Test.YtggffdkgfgdaoaaDoorF6
namespace Go.Proofs.YtggffdkgfgdaoaaDoor
open Go.RowKit
set_option linter.unusedVariables false
set_option linter.unusedSimpArgs false
attribute [local go_sem] Oper.quietV quietV Oper.gives givesV ext_refl_iff ext_alloc_iff ext_drew_iff ext_drewN_iff
set_option maxRecDepth 100000 in
set_option maxHeartbeats 16000000 in
theorem refCheck28_any (w : World) (v xv : Value) (l : List Vt) (t : Tr) (c : Nat) (hv : VarsC w v l c) (hN : NodeV w t xv) : Calls Tryd.prog 64 #[v, xv] w (ErrP w (checkR l t)) := by
  obtain ⟨r, hr⟩ : ∃ r : Int, r = checkR l t := ⟨_, rfl⟩
  rw [← hr]
  unfold checkR at hr
  have hcv := fun W' (e : Ext w W') => refCheckVars_any W' v l c (hv.ext e)
  have hct := fun W' (e : Ext w W') => refCount_any (m := 64) (hN.ext e) (by decide) (by decide)
  have hsh := fun W' (e : Ext w W') (h : l.length ≤ 1000) => refShape_any h (hN.ext e)
  have hty := fun W' (e : Ext w W') (h : shapT l.length t = true) => refTypes_any (hN.ext e) h
  unfold ErrP at hcv hct hsh hty
  obtain ⟨A, rfl, hcs, hlc, hlm, hsz⟩ := hv
  obtain ⟨hop, Ax, cx, vs, rfl, hvl, hxc, hsub, hnc, hnm⟩ := hN.form
  unfold lenMax at hlm hnm
  have HR0 := Lib.hid hr
  obtain ⟨rv, hrv⟩ : ∃ rv, rv = varsR l := ⟨_, rfl⟩
  rw [← hrv] at hcv HR0
  have HRV := Lib.hid hrv
  obtain ⟨qc, hqc⟩ : ∃ q, q = min (cntT t : Int) (64 + 1) := ⟨_, rfl⟩
  rw [← hqc] at hct
  obtain ⟨r2, hr2⟩ : ∃ r2, r2 = shapT l.length t := ⟨_, rfl⟩
  obtain ⟨r3, hr3⟩ : ∃ r3, r3 = typT t := ⟨_, rfl⟩
  rw [← hr2] at hsh hty HR0
  rw [← hr3] at hty HR0
  have HQC : Hid ((64 < cntT t) ↔ (64 : Int) < qc) := Lib.hid (by rw [hqc]; omega)
  clear hr hqc hr2 hr3 hrv hN hcs hsz hxc hsub hvl
  generalize t.op = op at *
  generalize t.n = n at *
  generalize t.subs.length = tl at *
  go_enter Tryd.func64, Tryd.ntmps64
  go_upto_region 1 with fail
  refine wp_named ?_
  intro W1 hW1
  have hE1 : Ext w W1 := by rw [hW1]; exact alloc_ext _ _
  have hB1 : W1.heap[w.heap.size]? = some (.cells #[.int .u8 (op : Int), .int .i64 n, .slice Ax tl cx] 68 (0, 0)) := by rw [hW1]; exact heap_alloc_new _ _
  have hcv1 := hcv W1 hE1
  have HE1 := Lib.hid (And.intro hE1 hB1)
  clear hW1 hcv hE1 hB1
  generalize w.heap.size = b2 at *
  by_cases hz : rv = 0
  rotate_left
  · have HR : Hid (r = rv) := Lib.hid (by rw [HR0.out, if_pos hz])
    have hz2 : (rv != 0) = true := bne_iff_ne.2 hz
    clear hz
    go_upto_region 2 with (first | ((with_reducible refine hcv1.mono ?_); rintro e W2 ⟨rfl, e2⟩))
    clear hcv1
    go_wp2
    go_ret
    exact ⟨by rw [HR.out]; rfl, HE1.out.1.trans e2⟩
  subst hz
  have HLL : Hid (l.length ≤ 1000) := Lib.hid (by have := varsR_le HRV.out.symm; omega)
  have HR0 : Hid (r = if 64 < cntT t then 3 else if r2 = false then 1 else if r3 = false then 15 else 0) := Lib.hid (by rw [HR0.out]; rfl)
  go_upto_region 4 with (first | ((with_reducible refine hcv1.mono ?_); rintro e W2 ⟨rfl, e2⟩))
  have HE2 := Lib.hid (HE1.out.1.trans e2)
  have hB2 := heap_ext e2 HE1.out.2
  have hct2 := hct W2 HE2.out
  clear hcv1 e2 hct
  by_cases hbig : (64 : Int) < qc
  · have HR : Hid (r = 3) := Lib.hid (by rw [HR0.out, if_pos (HQC.out.2 hbig)])
    go_upto_region 5 with (first
      | (with_reducible refine wpList_load_row rfl 68 _ rfl b2 rfl 68 _ (0, 0) _ hB2 Tryd.underlying68 rfl (by kernel_rfl) ?_)
      | ((with_reducible refine hct2.mono ?_); rintro e W3 ⟨rfl, e3⟩))
    go_wp2
    go_ret
    exact ⟨by rw [HR.out]; rfl, HE2.out.trans e3⟩
  have HR0 : Hid (r = if r2 = false then 1 else if r3 = false then 15 else 0) := Lib.hid (by rw [HR0.out, if_neg (fun h => hbig (HQC.out.1 h))])
  go_upto_region 6 with (first
    | (with_reducible refine wpList_load_row rfl 68 _ rfl b2 rfl 68 _ (0, 0) _ hB2 Tryd.underlying68 rfl (by kernel_rfl) ?_)
    | ((with_reducible refine hct2.mono ?_); rintro e W3 ⟨rfl, e3⟩))
  have HE3 := Lib.hid (HE2.out.trans e3)
  have hB3 := heap_ext e3 hB2
  have hsh3 := hsh W3 HE3.out HLL.out
  clear hct2 e3 hB2 hsh
  cases r2 with
  | false =>
    have hsh3 : Calls Tryd.prog 73 _ W3 fun e w' => e = .returned (.int .i64 0) ∧ Ext W3 w' := hsh3
    have HR : Hid (r = 1) := Lib.hid (by rw [HR0.out]; rfl)
    go_upto_region 7 with (first
      | (with_reducible refine wpList_load_row rfl 68 _ rfl b2 rfl 68 _ (0, 0) _ hB3 Tryd.underlying68 rfl (by kernel_rfl) ?_)
      | ((with_reducible refine hsh3.mono ?_); rintro e W4 ⟨rfl, e4⟩))
    go_wp2
    go_ret
    exact ⟨by rw [HR.out]; rfl, HE3.out.trans e4⟩
  | true =>
    have hsh3 : Calls Tryd.prog 73 _ W3 fun e w' => e = .returned (.int .i64 1) ∧ Ext W3 w' := hsh3
    go_upto_region 8 with (first
      | (with_reducible refine wpList_load_row rfl 68 _ rfl b2 rfl 68 _ (0, 0) _ hB3 Tryd.underlying68 rfl (by kernel_rfl) ?_)
      | ((with_reducible refine hsh3.mono ?_); rintro e W4 ⟨rfl, e4⟩))
    have HE4 := Lib.hid (HE3.out.trans e4)
    have hB4 := heap_ext e4 hB3
    have hty4 := hty W4 HE4.out (by simp)
    clear hsh3 e4 hB3 hty
    cases r3 with
    | false =>
      have hty4 : Calls Tryd.prog 74 _ W4 fun e w' => e = .returned (.int .i64 0) ∧ Ext W4 w' := hty4
      have HR : Hid (r = 15) := Lib.hid (by rw [HR0.out]; rfl)
      go_wp2_with (first
        | (with_reducible refine wpList_load_row rfl 68 _ rfl b2 rfl 68 _ (0, 0) _ hB4 Tryd.underlying68 rfl (by kernel_rfl) ?_)
        | ((with_reducible refine hty4.mono ?_); rintro e W5 ⟨rfl, e5⟩))
      go_ret
      exact ⟨by rw [HR.out]; rfl, HE4.out.trans e5⟩
    | true =>
      have hty4 : Calls Tryd.prog 74 _ W4 fun e w' => e = .returned (.int .i64 1) ∧ Ext W4 w' := hty4
      have HR : Hid (r = 0) := Lib.hid (by rw [HR0.out]; rfl)
      go_wp2_with (first
        | (with_reducible refine wpList_load_row rfl 68 _ rfl b2 rfl 68 _ (0, 0) _ hB4 Tryd.underlying68 rfl (by kernel_rfl) ?_)
        | ((with_reducible refine hty4.mono ?_); rintro e W5 ⟨rfl, e5⟩))
      go_ret
      exact ⟨by rw [HR.out]; rfl, HE4.out.trans e5⟩
end Go.Proofs.YtggffdkgfgdaoaaDoor
