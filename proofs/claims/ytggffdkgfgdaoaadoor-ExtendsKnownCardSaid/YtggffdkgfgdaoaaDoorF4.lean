/- ref28.Count 52. -/
import Derived.Test.YtggffdkgfgdaoaaDoorGD
namespace Go.Proofs.YtggffdkgfgdaoaaDoor
open Go.RowKit
set_option linter.unusedVariables false
set_option linter.unusedSimpArgs false
attribute [local go_sem] Oper.quietV quietV Oper.gives givesV ext_refl_iff ext_alloc_iff ext_drew_iff ext_drewN_iff
def CntS (k : Nat) : Prop := ∀ (t : Tr) (w : World) (v : Value) (m : Int), SizeOf.sizeOf t ≤ k → NodeV w t v → 0 ≤ m → m ≤ 1000 → Calls Tryd.prog 52 #[v, .int .i64 m] w (ErrP w (min (cntT t : Int) (m + 1)))
set_option maxRecDepth 100000 in
set_option maxHeartbeats 16000000 in
theorem cnt_step (k : Nat) (IH : CntS k) : CntS (k + 1) := by
  intro t w v m hk hN hm0 hm1
  obtain ⟨hop, A, cs, vs, rfl, hvl, hcs, hsub, hnc, hnm⟩ := hN.form
  unfold lenMax at hnm
  have HX := Lib.hid (And.intro hsub (And.intro hcs (And.intro hvl IH)))
  have HSZ := Lib.hid (fun s (h : s ∈ t.subs) => (by have := Tr.sub_lt h; omega : SizeOf.sizeOf s ≤ k))
  obtain ⟨r, hr⟩ : ∃ r, r = min (cntT t : Int) (m + 1) := ⟨_, rfl⟩
  rw [← hr]
  have HR0 : Hid (r = min ((cntTs t.subs : Int) + 1) (m + 1)) := Lib.hid (by rw [hr, cntT_eq]; push_cast; rfl)
  generalize t.op = op at *
  generalize t.n = n at *
  generalize t.subs = ts at *
  clear hk hN hsub hcs hvl IH hr
  go_enter Tryd.func52, Tryd.ntmps52
  go_upto_region 1 with fail
  refine wp_named ?_
  intro W1 hW1
  have hE1 : Ext w W1 := by rw [hW1]; exact alloc_ext _ _
  have k2 : ∀ w', Ext W1 w' → w'.cell? ⟨w.heap.size, 2, none⟩ = some (.slice A ts.length cs) := fun w' h => h.cell (by rw [hW1]; simp [go_sem])
  have HE1 := Lib.hid hE1
  clear hW1 hE1
  generalize w.heap.size = b2 at *
  go_wp2
  go_loopw [5, 6] (fun nv iv wr => ∃ (i : Nat) (n : Int), nv = .int .i64 n ∧ iv = .int .i64 i ∧ i ≤ ts.length ∧ 1 ≤ n ∧ n ≤ 1001 ∧ Hid (n = min ((cntTs (ts.take i) : Int) + 1) (m + 1)) ∧ Hid (Ext W1 wr)) (fun _ iv _ => ts.length - (intOf iv).toNat)
  case atStart => exact ⟨0, 1, by first | rfl | simp, by first | rfl | simp, Nat.zero_le _, by omega, by omega, Lib.hid (by simp [cntTs]; omega), Lib.hid (Ext.refl _)⟩
  case round =>
    obtain ⟨i, n, rfl, rfl, hi, hn0, hn1, HN, HW⟩ := hrel
    obtain ⟨W5, hW5⟩ : ∃ W, W = wr := ⟨_, rfl⟩; subst hW5
    have hE5 := HW.out
    have k2 := k2 W5 hE5
    by_cases hlt : i < ts.length
    rotate_left
    · have hie : i = ts.length := by omega
      subst hie
      have hq : ¬ (ts.length : Int) < (ts.length : Int) := by omega
      have HR : Hid (r = n) := Lib.hid (by rw [HR0.out, HN.out, List.take_length])
      clear hlt hi
      go_wp2
      go_ret
      exact ⟨by rw [HR.out]; rfl, HE1.out.trans hE5⟩
    · have hlI : (i : Int) < (ts.length : Int) := by omega
      by_cases hnm' : n ≤ m
      rotate_left
      · have HR : Hid (r = n) := Lib.hid (by
          have h1 := cnt_le ts i
          have h2 := HN.out
          rw [HR0.out]; omega)
        clear hlt hi
        go_wp2
        go_ret
        exact ⟨by rw [HR.out]; rfl, HE1.out.trans hE5⟩
      · skip
        obtain ⟨s, hsi⟩ : ∃ s, ts[i]? = some s := ⟨_, List.getElem?_eq_getElem hlt⟩
        obtain ⟨bs, os, p, m', q, hA, d0, d1, d2, hns⟩ := sub_at HX.out.2.2.1 HX.out.2.1 HX.out.1 hsi
        subst hA
        obtain ⟨_, A9, cs9, vs9, hq9, _⟩ := hns.form
        have hq : q = .slice A9 s.subs.length cs9 := by
          have h9 := congrArg (fun v => match v with | Value.agg cs => cs[2]? | _ => none) hq9
          simpa using h9
        subst hq
        clear hq9
        obtain ⟨sl, hsl⟩ : ∃ n, n = s.subs.length := ⟨_, rfl⟩
        rw [← hsl] at d2 hns
        clear hsl
        have d0 := (HE1.out.trans hE5).cell d0
        have d1 := (HE1.out.trans hE5).cell d1
        have d2 := (HE1.out.trans hE5).cell d2
        have hcl := HX.out.2.2.2 s W5 _ (m - n) (HSZ.out s (List.mem_of_getElem? hsi)) (hns.ext (HE1.out.trans hE5)) (by omega) (by omega)
        have hc1 := cntT_pos s
        have HST := Lib.hid (cnt_take ts i s hsi)
        obtain ⟨q, hq⟩ : ∃ q, q = min (cntT s : Int) (m - n + 1) := ⟨_, rfl⟩
        rw [← hq] at hcl
        have hq0 : 1 ≤ q := by omega
        have hq1 : n + q ≤ m + 1 := by omega
        have HQ : Hid (n + q = min ((cntTs (ts.take (i + 1)) : Int) + 1) (m + 1)) := Lib.hid (by
          rw [HST.out]
          have h2 := HN.out
          push_cast
          omega)
        have HE5 := Lib.hid hE5
        unfold ErrP at hcl
        clear hq hc1 hns hsi hE5
        go_wp2_with ((with_reducible refine hcl.mono ?_); rintro e W8 ⟨rfl, e8⟩)
        refine ⟨⟨i + 1, n + q, by go_num, by go_num, hlt, by omega, by omega, HQ, Lib.hid (HE5.out.trans e8)⟩, ?_⟩
        simp [intOf]; omega
theorem cnt_any : ∀ k, CntS k
  | 0 => fun t _ _ _ h => by cases t; simp at h
  | k + 1 => cnt_step k (cnt_any k)
theorem refCount_any {t : Tr} {w : World} {v : Value} {m : Int} (hN : NodeV w t v) (h0 : 0 ≤ m) (h1 : m ≤ 1000) : Calls Tryd.prog 52 #[v, .int .i64 m] w (ErrP w (min (cntT t : Int) (m + 1))) := cnt_any _ t w v m (Nat.le_refl _) hN h0 h1
end Go.Proofs.YtggffdkgfgdaoaaDoor
