
import Derived.Test.YtmebgomnmlbgnaaDoorZB
set_option linter.unnecessarySimpa false
set_option linter.unusedSectionVars false
namespace Go.Proofs.YtmebgomnmlbgnaaDoor
open Go.RowKit
set_option linter.unusedVariables false
set_option linter.unusedSimpArgs false
attribute [local go_sem] Oper.quietV quietV Oper.gives givesV ext_refl_iff ext_alloc_iff ext_drew_iff ext_drewN_iff
def RigS (sy : Int) (k : Nat) : Prop := ∀ (t : Tr) (w : World) (v : Value), SizeOf.sizeOf t ≤ k → NodeV w t v → Calls Tryd.prog 70 #[v, .int .i64 sy] w (ErrP w (if valT sy t = true then 1 else 0))
set_option maxRecDepth 100000 in
set_option maxHeartbeats 16000000 in
theorem rig_step (sy : Int) (hsy : 1 ≤ sy) (k : Nat) (IH : RigS sy k) : RigS sy (k + 1) := by
  intro t w v hk hN
  obtain ⟨hop, A, cs, vs, rfl, hvl, hcs, hsub, hnc, hnm⟩ := hN.form
  unfold lenMax at hnm
  have HX := Lib.hid (And.intro hsub (And.intro hcs (And.intro hvl IH)))
  have HSZ := Lib.hid (fun s (h : s ∈ t.subs) => (by have := Tr.sub_lt h; omega : SizeOf.sizeOf s ≤ k))
  obtain ⟨r, hr⟩ : ∃ r : Int, r = if valT sy t = true then 1 else 0 := ⟨_, rfl⟩
  rw [← hr]
  rw [valT_eq] at hr
  have HR0 := Lib.hid hr
  generalize t.op = op at *
  generalize t.n = n at *
  generalize t.subs = ts at *
  clear hk hN hsub hcs hvl IH hr
  go_enter Tryd.func70, Tryd.ntmps70
  go_upto_region 1 with fail
  refine wp_named ?_
  intro W1 hW1
  have hE1 : Ext w W1 := by rw [hW1]; exact alloc_ext _ _
  have k0 : ∀ w', Ext W1 w' → w'.cell? ⟨w.heap.size, 0, none⟩ = some (.int .u8 (op : Int)) := fun w' h => h.cell (by rw [hW1]; simp [go_sem])
  have k1 : ∀ w', Ext W1 w' → w'.cell? ⟨w.heap.size, 1, none⟩ = some (.int .i64 n) := fun w' h => h.cell (by rw [hW1]; simp [go_sem])
  have k2 : ∀ w', Ext W1 w' → w'.cell? ⟨w.heap.size, 2, none⟩ = some (.slice A ts.length cs) := fun w' h => h.cell (by rw [hW1]; simp [go_sem])
  have HE1 := Lib.hid hE1
  clear hW1 hE1
  generalize w.heap.size = b2 at *
  have hR1 := Ext.refl W1
  by_cases h8 : op < 8
  rotate_left
  · have c0 : ((op : Int) == 0) = false := by simp; omega
    have c1 : ((op : Int) == 1) = false := by simp; omega
    have c2 : ((op : Int) == 2) = false := by simp; omega
    have c3 : ((op : Int) == 3) = false := by simp; omega
    have c4 : ((op : Int) == 4) = false := by simp; omega
    have c5 : ((op : Int) == 5) = false := by simp; omega
    have c6 : ((op : Int) == 6) = false := by simp; omega
    have c7 : ((op : Int) == 7) = false := by simp; omega
    have H8 := Lib.hid h8
    clear h8 hop
    have HR : Hid (r = 0) := Lib.hid (by rw [HR0.out, show (ownV sy op n ts.length && valTs sy ts) = false by unfold ownV; simp [H8.out]]; rfl)
    go_wp2
    go_ret
    exact ⟨by rw [HR.out]; rfl, HE1.out⟩
  obtain ⟨z, hz⟩ : ∃ z : Int, z = (op : Int) := ⟨_, rfl⟩
  rw [← hz] at k0 ⊢
  have h9 : op = 0 ∨ op = 1 ∨ op = 2 ∨ op = 3 ∨ op = 4 ∨ op = 5 ∨ op = 6 ∨ op = 7 := by omega
  clear h8 hop
  rcases h9 with rfl | rfl | rfl | rfl | rfl | rfl | rfl | rfl
  · obtain rfl : z = 0 := hz
    by_cases hl : ts.length = 0
    rotate_left
    · have hl2 : ((ts.length : Int) != 0) = true := bne_iff_ne.2 (by omega)
      have HL := Lib.hid hl
      clear hl
      have HR : Hid (r = 0) := Lib.hid (by rw [HR0.out, show (ownV sy 0 n ts.length && valTs sy ts) = false by rw [show ownV sy 0 n ts.length = false by unfold ownV; rw [decide_eq_false (show ¬ ((ts.length : Int) = subT 0) from (by show ¬ (ts.length : Int) = 0; have := HL.out; omega))]; simp]; rfl]; rfl)
      go_wp2
      go_ret
      exact ⟨by rw [HR.out]; rfl, HE1.out⟩
    have hl2 : ((ts.length : Int) != 0) = false := by rw [bne_eq_false_iff_eq]; omega
    have HL := Lib.hid hl
    clear hl
    by_cases hn0 : n = 0
    rotate_left
    · have hn2 : (n != 0) = true := bne_iff_ne.2 hn0
      have HN := Lib.hid hn0
      clear hn0
      have HR : Hid (r = 0) := Lib.hid (by rw [HR0.out, show (ownV sy 0 n ts.length && valTs sy ts) = false by unfold ownV; simp [HN.out]]; rfl)
      go_wp2
      go_ret
      exact ⟨by rw [HR.out]; rfl, HE1.out⟩
    have hn2 : (n != 0) = false := by rw [bne_eq_false_iff_eq]; exact hn0
    have HN := Lib.hid hn0
    clear hn0
    have HR1 : Hid (r = if valTs sy ts = true then 1 else 0) := Lib.hid (by rw [HR0.out]; have : ownV sy 0 n ts.length = true := (by unfold ownV; rw [decide_eq_true (show ((ts.length : Int) = subT 0) from (by show (ts.length : Int) = 0; have := HL.out; omega))]; have := HN.out; simp; omega); rw [this]; simp)
    go_wp2
    go_loopw [6] (fun iv wr => ∃ i : Nat, iv = .int .i64 i ∧ i ≤ 0 ∧ Hid (valTs sy (ts.take i) = true) ∧ Hid (Ext W1 wr)) (fun iv _ => 0 - (intOf iv).toNat)
    case atStart => exact ⟨0, by first | rfl | simp, Nat.zero_le _, Lib.hid (by simp [valTs]), Lib.hid (Ext.refl _)⟩
    case round =>
      obtain ⟨i, rfl, hi, HF, HW⟩ := hrel
      obtain ⟨W5, hW5⟩ : ∃ W, W = wr := ⟨_, rfl⟩; subst hW5
      have k2 := k2 W5 HW.out
      have hE5 := HE1.out.trans HW.out
      have hie : i = 0 := by omega
      subst hie
      have HR : Hid (r = 1) := Lib.hid (by
        rw [HR1.out, if_pos]
        have h := HF.out
        rwa [List.take_of_length_le (by rw [HL.out]; exact Nat.le_refl _)] at h)
      have HE5 := Lib.hid hE5
      clear hE5 hi
      go_wp2
      go_ret
      exact ⟨by rw [HR.out]; rfl, HE5.out⟩
  · obtain rfl : z = 1 := hz
    by_cases hl : ts.length = 0
    rotate_left
    · have hl2 : ((ts.length : Int) != 0) = true := bne_iff_ne.2 (by omega)
      have HL := Lib.hid hl
      clear hl
      have HR : Hid (r = 0) := Lib.hid (by rw [HR0.out, show (ownV sy 1 n ts.length && valTs sy ts) = false by rw [show ownV sy 1 n ts.length = false by unfold ownV; rw [decide_eq_false (show ¬ ((ts.length : Int) = subT 1) from (by show ¬ (ts.length : Int) = 0; have := HL.out; omega))]; simp]; rfl]; rfl)
      go_wp2
      go_ret
      exact ⟨by rw [HR.out]; rfl, HE1.out⟩
    have hl2 : ((ts.length : Int) != 0) = false := by rw [bne_eq_false_iff_eq]; omega
    have HL := Lib.hid hl
    clear hl
    by_cases hn0 : n = 0
    rotate_left
    · have hn2 : (n != 0) = true := bne_iff_ne.2 hn0
      have HN := Lib.hid hn0
      clear hn0
      have HR : Hid (r = 0) := Lib.hid (by rw [HR0.out, show (ownV sy 1 n ts.length && valTs sy ts) = false by unfold ownV; simp [HN.out]]; rfl)
      go_wp2
      go_ret
      exact ⟨by rw [HR.out]; rfl, HE1.out⟩
    have hn2 : (n != 0) = false := by rw [bne_eq_false_iff_eq]; exact hn0
    have HN := Lib.hid hn0
    clear hn0
    have HR1 : Hid (r = if valTs sy ts = true then 1 else 0) := Lib.hid (by rw [HR0.out]; have : ownV sy 1 n ts.length = true := (by unfold ownV; rw [decide_eq_true (show ((ts.length : Int) = subT 1) from (by show (ts.length : Int) = 0; have := HL.out; omega))]; have := HN.out; simp; omega); rw [this]; simp)
    go_wp2
    go_loopw [6] (fun iv wr => ∃ i : Nat, iv = .int .i64 i ∧ i ≤ 0 ∧ Hid (valTs sy (ts.take i) = true) ∧ Hid (Ext W1 wr)) (fun iv _ => 0 - (intOf iv).toNat)
    case atStart => exact ⟨0, by first | rfl | simp, Nat.zero_le _, Lib.hid (by simp [valTs]), Lib.hid (Ext.refl _)⟩
    case round =>
      obtain ⟨i, rfl, hi, HF, HW⟩ := hrel
      obtain ⟨W5, hW5⟩ : ∃ W, W = wr := ⟨_, rfl⟩; subst hW5
      have k2 := k2 W5 HW.out
      have hE5 := HE1.out.trans HW.out
      have hie : i = 0 := by omega
      subst hie
      have HR : Hid (r = 1) := Lib.hid (by
        rw [HR1.out, if_pos]
        have h := HF.out
        rwa [List.take_of_length_le (by rw [HL.out]; exact Nat.le_refl _)] at h)
      have HE5 := Lib.hid hE5
      clear hE5 hi
      go_wp2
      go_ret
      exact ⟨by rw [HR.out]; rfl, HE5.out⟩
  · obtain rfl : z = 2 := hz
    by_cases h1 : n < 0
    · have H1 := Lib.hid h1
      have HR : Hid (r = 0) := Lib.hid (by rw [HR0.out, show (ownV sy 2 n ts.length && valTs sy ts) = false by unfold ownV; have := H1.out; simp [show ¬ n = 0 by omega]; intros; omega]; rfl)
      go_wp2
      go_ret
      exact ⟨by rw [HR.out]; rfl, HE1.out⟩
    by_cases h2 : sy ≤ n
    · have H2 := Lib.hid h2
      have HR : Hid (r = 0) := Lib.hid (by rw [HR0.out, show (ownV sy 2 n ts.length && valTs sy ts) = false by unfold ownV; have := H2.out; simp [show ¬ n = 0 by omega]; intros; omega]; rfl)
      go_wp2
      go_ret
      exact ⟨by rw [HR.out]; rfl, HE1.out⟩
    have HN : Hid (n = 0 ∨ (0 ≤ n ∧ n < sy)) := Lib.hid (.inr ⟨by omega, by omega⟩)
    have h2' : n < sy := by omega
    have h1' : 0 ≤ n := by omega
    by_cases hl : ts.length = 0
    rotate_left
    · have hl2 : ((ts.length : Int) != 0) = true := bne_iff_ne.2 (by omega)
      have HL := Lib.hid hl
      clear hl
      have HR : Hid (r = 0) := Lib.hid (by rw [HR0.out, show (ownV sy 2 n ts.length && valTs sy ts) = false by rw [show ownV sy 2 n ts.length = false by unfold ownV; rw [decide_eq_false (show ¬ ((ts.length : Int) = subT 2) from (by show ¬ (ts.length : Int) = 0; have := HL.out; omega))]; simp]; rfl]; rfl)
      go_wp2
      go_ret
      exact ⟨by rw [HR.out]; rfl, HE1.out⟩
    have hl2 : ((ts.length : Int) != 0) = false := by rw [bne_eq_false_iff_eq]; omega
    have HL := Lib.hid hl
    clear hl
    have HR1 : Hid (r = if valTs sy ts = true then 1 else 0) := Lib.hid (by rw [HR0.out]; have : ownV sy 2 n ts.length = true := (by unfold ownV; rw [decide_eq_true (show ((ts.length : Int) = subT 2) from (by show (ts.length : Int) = 0; have := HL.out; omega))]; have := HN.out; simp; omega); rw [this]; simp)
    go_wp2
    go_loopw [6] (fun iv wr => ∃ i : Nat, iv = .int .i64 i ∧ i ≤ 0 ∧ Hid (valTs sy (ts.take i) = true) ∧ Hid (Ext W1 wr)) (fun iv _ => 0 - (intOf iv).toNat)
    case atStart => exact ⟨0, by first | rfl | simp, Nat.zero_le _, Lib.hid (by simp [valTs]), Lib.hid (Ext.refl _)⟩
    case round =>
      obtain ⟨i, rfl, hi, HF, HW⟩ := hrel
      obtain ⟨W5, hW5⟩ : ∃ W, W = wr := ⟨_, rfl⟩; subst hW5
      have k2 := k2 W5 HW.out
      have hE5 := HE1.out.trans HW.out
      have hie : i = 0 := by omega
      subst hie
      have HR : Hid (r = 1) := Lib.hid (by
        rw [HR1.out, if_pos]
        have h := HF.out
        rwa [List.take_of_length_le (by rw [HL.out]; exact Nat.le_refl _)] at h)
      have HE5 := Lib.hid hE5
      clear hE5 hi
      go_wp2
      go_ret
      exact ⟨by rw [HR.out]; rfl, HE5.out⟩
  · obtain rfl : z = 3 := hz
    by_cases hl : ts.length = 2
    rotate_left
    · have hl2 : ((ts.length : Int) != 2) = true := bne_iff_ne.2 (by omega)
      have HL := Lib.hid hl
      clear hl
      have HR : Hid (r = 0) := Lib.hid (by rw [HR0.out, show (ownV sy 3 n ts.length && valTs sy ts) = false by rw [show ownV sy 3 n ts.length = false by unfold ownV; rw [decide_eq_false (show ¬ ((ts.length : Int) = subT 3) from (by show ¬ (ts.length : Int) = 2; have := HL.out; omega))]; simp]; rfl]; rfl)
      go_wp2
      go_ret
      exact ⟨by rw [HR.out]; rfl, HE1.out⟩
    have hl2 : ((ts.length : Int) != 2) = false := by rw [bne_eq_false_iff_eq]; omega
    have HL := Lib.hid hl
    clear hl
    by_cases hn0 : n = 0
    rotate_left
    · have hn2 : (n != 0) = true := bne_iff_ne.2 hn0
      have HN := Lib.hid hn0
      clear hn0
      have HR : Hid (r = 0) := Lib.hid (by rw [HR0.out, show (ownV sy 3 n ts.length && valTs sy ts) = false by unfold ownV; simp [HN.out]]; rfl)
      go_wp2
      go_ret
      exact ⟨by rw [HR.out]; rfl, HE1.out⟩
    have hn2 : (n != 0) = false := by rw [bne_eq_false_iff_eq]; exact hn0
    have HN := Lib.hid hn0
    clear hn0
    have HR1 : Hid (r = if valTs sy ts = true then 1 else 0) := Lib.hid (by rw [HR0.out]; have : ownV sy 3 n ts.length = true := (by unfold ownV; rw [decide_eq_true (show ((ts.length : Int) = subT 3) from (by show (ts.length : Int) = 2; have := HL.out; omega))]; have := HN.out; simp; omega); rw [this]; simp)
    go_wp2
    go_loopw [6] (fun iv wr => ∃ i : Nat, iv = .int .i64 i ∧ i ≤ 2 ∧ Hid (valTs sy (ts.take i) = true) ∧ Hid (Ext W1 wr)) (fun iv _ => 2 - (intOf iv).toNat)
    case atStart => exact ⟨0, by first | rfl | simp, Nat.zero_le _, Lib.hid (by simp [valTs]), Lib.hid (Ext.refl _)⟩
    case round =>
      obtain ⟨i, rfl, hi, HF, HW⟩ := hrel
      obtain ⟨W5, hW5⟩ : ∃ W, W = wr := ⟨_, rfl⟩; subst hW5
      have k2 := k2 W5 HW.out
      have hE5 := HE1.out.trans HW.out
      by_cases hlt' : i < 2
      · have hlt : i < ts.length := by rw [HL.out]; exact hlt'
        have hiM : (i : Int) < 2 := by omega
        have hiI : (i : Int) < (ts.length : Int) := by have := HL.out; omega
        obtain ⟨s, hsi⟩ : ∃ s, ts[i]? = some s := ⟨_, List.getElem?_eq_getElem hlt⟩
        obtain ⟨bs, os, p, m', q, hA, d0, d1, d2, hns⟩ := sub_at HX.out.2.2.1 HX.out.2.1 HX.out.1 hsi
        subst hA
        obtain ⟨_, A9, cs9, vs9, hq9, _⟩ := hns.form
        have hq : q = .slice A9 s.subs.length cs9 := by
          have h9 := congrArg (fun v => match v with | Value.agg cs => cs[2]? | _ => none) hq9
          simpa using h9
        subst hq
        clear hq9
        obtain ⟨sl, hsl⟩ : ∃ n, n = s.subs.length := ⟨_, rfl⟩
        rw [← hsl] at d2 hns
        clear hsl
        have d0 := hE5.cell d0
        have d1 := hE5.cell d1
        have d2 := hE5.cell d2
        have hcl := HX.out.2.2.2 s W5 _ (HSZ.out s (List.mem_of_getElem? hsi)) (hns.ext hE5)
        have HST := Lib.hid (val_take sy ts i s hsi)
        have HSI := Lib.hid hsi
        have HE5 := Lib.hid hE5
        unfold ErrP at hcl
        clear hsi hns hE5
        cases hv : valT sy s with
        | true =>
          rw [hv] at hcl
          simp only [if_true] at hcl
          have HN2 : Hid (valTs sy (ts.take (i + 1)) = true) := Lib.hid (by rw [HST.out, HF.out, hv]; rfl)
          clear hv
          go_wp2_with ((with_reducible refine hcl.mono ?_); rintro e W8 ⟨rfl, e8⟩)
          go_roundw
          case rel => exact ⟨i + 1, by go_num, hlt', HN2, Lib.hid (HW.out.trans e8)⟩
          case measure => simp [intOf]; omega
        | false =>
          rw [hv] at hcl
          simp only [Bool.false_eq_true, if_false] at hcl
          have HR : Hid (r = 0) := Lib.hid (by
            rw [HR1.out, if_neg]
            intro hall
            rw [val_sub hall HSI.out] at hv; cases hv)
          clear hv
          go_wp2_with ((with_reducible refine hcl.mono ?_); rintro e W8 ⟨rfl, e8⟩)
          go_ret
          exact ⟨by rw [HR.out]; rfl, HE5.out.trans e8⟩
      · have hie : i = 2 := by omega
        subst hie
        have HR : Hid (r = 1) := Lib.hid (by
          rw [HR1.out, if_pos]
          have h := HF.out
          rwa [List.take_of_length_le (by rw [HL.out]; exact Nat.le_refl _)] at h)
        have HE5 := Lib.hid hE5
        clear hE5 hlt' hi
        go_wp2
        go_ret
        exact ⟨by rw [HR.out]; rfl, HE5.out⟩
  · obtain rfl : z = 4 := hz
    by_cases hl : ts.length = 2
    rotate_left
    · have hl2 : ((ts.length : Int) != 2) = true := bne_iff_ne.2 (by omega)
      have HL := Lib.hid hl
      clear hl
      have HR : Hid (r = 0) := Lib.hid (by rw [HR0.out, show (ownV sy 4 n ts.length && valTs sy ts) = false by rw [show ownV sy 4 n ts.length = false by unfold ownV; rw [decide_eq_false (show ¬ ((ts.length : Int) = subT 4) from (by show ¬ (ts.length : Int) = 2; have := HL.out; omega))]; simp]; rfl]; rfl)
      go_wp2
      go_ret
      exact ⟨by rw [HR.out]; rfl, HE1.out⟩
    have hl2 : ((ts.length : Int) != 2) = false := by rw [bne_eq_false_iff_eq]; omega
    have HL := Lib.hid hl
    clear hl
    by_cases hn0 : n = 0
    rotate_left
    · have hn2 : (n != 0) = true := bne_iff_ne.2 hn0
      have HN := Lib.hid hn0
      clear hn0
      have HR : Hid (r = 0) := Lib.hid (by rw [HR0.out, show (ownV sy 4 n ts.length && valTs sy ts) = false by unfold ownV; simp [HN.out]]; rfl)
      go_wp2
      go_ret
      exact ⟨by rw [HR.out]; rfl, HE1.out⟩
    have hn2 : (n != 0) = false := by rw [bne_eq_false_iff_eq]; exact hn0
    have HN := Lib.hid hn0
    clear hn0
    have HR1 : Hid (r = if valTs sy ts = true then 1 else 0) := Lib.hid (by rw [HR0.out]; have : ownV sy 4 n ts.length = true := (by unfold ownV; rw [decide_eq_true (show ((ts.length : Int) = subT 4) from (by show (ts.length : Int) = 2; have := HL.out; omega))]; have := HN.out; simp; omega); rw [this]; simp)
    go_wp2
    go_loopw [6] (fun iv wr => ∃ i : Nat, iv = .int .i64 i ∧ i ≤ 2 ∧ Hid (valTs sy (ts.take i) = true) ∧ Hid (Ext W1 wr)) (fun iv _ => 2 - (intOf iv).toNat)
    case atStart => exact ⟨0, by first | rfl | simp, Nat.zero_le _, Lib.hid (by simp [valTs]), Lib.hid (Ext.refl _)⟩
    case round =>
      obtain ⟨i, rfl, hi, HF, HW⟩ := hrel
      obtain ⟨W5, hW5⟩ : ∃ W, W = wr := ⟨_, rfl⟩; subst hW5
      have k2 := k2 W5 HW.out
      have hE5 := HE1.out.trans HW.out
      by_cases hlt' : i < 2
      · have hlt : i < ts.length := by rw [HL.out]; exact hlt'
        have hiM : (i : Int) < 2 := by omega
        have hiI : (i : Int) < (ts.length : Int) := by have := HL.out; omega
        obtain ⟨s, hsi⟩ : ∃ s, ts[i]? = some s := ⟨_, List.getElem?_eq_getElem hlt⟩
        obtain ⟨bs, os, p, m', q, hA, d0, d1, d2, hns⟩ := sub_at HX.out.2.2.1 HX.out.2.1 HX.out.1 hsi
        subst hA
        obtain ⟨_, A9, cs9, vs9, hq9, _⟩ := hns.form
        have hq : q = .slice A9 s.subs.length cs9 := by
          have h9 := congrArg (fun v => match v with | Value.agg cs => cs[2]? | _ => none) hq9
          simpa using h9
        subst hq
        clear hq9
        obtain ⟨sl, hsl⟩ : ∃ n, n = s.subs.length := ⟨_, rfl⟩
        rw [← hsl] at d2 hns
        clear hsl
        have d0 := hE5.cell d0
        have d1 := hE5.cell d1
        have d2 := hE5.cell d2
        have hcl := HX.out.2.2.2 s W5 _ (HSZ.out s (List.mem_of_getElem? hsi)) (hns.ext hE5)
        have HST := Lib.hid (val_take sy ts i s hsi)
        have HSI := Lib.hid hsi
        have HE5 := Lib.hid hE5
        unfold ErrP at hcl
        clear hsi hns hE5
        cases hv : valT sy s with
        | true =>
          rw [hv] at hcl
          simp only [if_true] at hcl
          have HN2 : Hid (valTs sy (ts.take (i + 1)) = true) := Lib.hid (by rw [HST.out, HF.out, hv]; rfl)
          clear hv
          go_wp2_with ((with_reducible refine hcl.mono ?_); rintro e W8 ⟨rfl, e8⟩)
          go_roundw
          case rel => exact ⟨i + 1, by go_num, hlt', HN2, Lib.hid (HW.out.trans e8)⟩
          case measure => simp [intOf]; omega
        | false =>
          rw [hv] at hcl
          simp only [Bool.false_eq_true, if_false] at hcl
          have HR : Hid (r = 0) := Lib.hid (by
            rw [HR1.out, if_neg]
            intro hall
            rw [val_sub hall HSI.out] at hv; cases hv)
          clear hv
          go_wp2_with ((with_reducible refine hcl.mono ?_); rintro e W8 ⟨rfl, e8⟩)
          go_ret
          exact ⟨by rw [HR.out]; rfl, HE5.out.trans e8⟩
      · have hie : i = 2 := by omega
        subst hie
        have HR : Hid (r = 1) := Lib.hid (by
          rw [HR1.out, if_pos]
          have h := HF.out
          rwa [List.take_of_length_le (by rw [HL.out]; exact Nat.le_refl _)] at h)
        have HE5 := Lib.hid hE5
        clear hE5 hlt' hi
        go_wp2
        go_ret
        exact ⟨by rw [HR.out]; rfl, HE5.out⟩
  · obtain rfl : z = 5 := hz
    by_cases hl : ts.length = 2
    rotate_left
    · have hl2 : ((ts.length : Int) != 2) = true := bne_iff_ne.2 (by omega)
      have HL := Lib.hid hl
      clear hl
      have HR : Hid (r = 0) := Lib.hid (by rw [HR0.out, show (ownV sy 5 n ts.length && valTs sy ts) = false by rw [show ownV sy 5 n ts.length = false by unfold ownV; rw [decide_eq_false (show ¬ ((ts.length : Int) = subT 5) from (by show ¬ (ts.length : Int) = 2; have := HL.out; omega))]; simp]; rfl]; rfl)
      go_wp2
      go_ret
      exact ⟨by rw [HR.out]; rfl, HE1.out⟩
    have hl2 : ((ts.length : Int) != 2) = false := by rw [bne_eq_false_iff_eq]; omega
    have HL := Lib.hid hl
    clear hl
    by_cases hn0 : n = 0
    rotate_left
    · have hn2 : (n != 0) = true := bne_iff_ne.2 hn0
      have HN := Lib.hid hn0
      clear hn0
      have HR : Hid (r = 0) := Lib.hid (by rw [HR0.out, show (ownV sy 5 n ts.length && valTs sy ts) = false by unfold ownV; simp [HN.out]]; rfl)
      go_wp2
      go_ret
      exact ⟨by rw [HR.out]; rfl, HE1.out⟩
    have hn2 : (n != 0) = false := by rw [bne_eq_false_iff_eq]; exact hn0
    have HN := Lib.hid hn0
    clear hn0
    have HR1 : Hid (r = if valTs sy ts = true then 1 else 0) := Lib.hid (by rw [HR0.out]; have : ownV sy 5 n ts.length = true := (by unfold ownV; rw [decide_eq_true (show ((ts.length : Int) = subT 5) from (by show (ts.length : Int) = 2; have := HL.out; omega))]; have := HN.out; simp; omega); rw [this]; simp)
    go_wp2
    go_loopw [6] (fun iv wr => ∃ i : Nat, iv = .int .i64 i ∧ i ≤ 2 ∧ Hid (valTs sy (ts.take i) = true) ∧ Hid (Ext W1 wr)) (fun iv _ => 2 - (intOf iv).toNat)
    case atStart => exact ⟨0, by first | rfl | simp, Nat.zero_le _, Lib.hid (by simp [valTs]), Lib.hid (Ext.refl _)⟩
    case round =>
      obtain ⟨i, rfl, hi, HF, HW⟩ := hrel
      obtain ⟨W5, hW5⟩ : ∃ W, W = wr := ⟨_, rfl⟩; subst hW5
      have k2 := k2 W5 HW.out
      have hE5 := HE1.out.trans HW.out
      by_cases hlt' : i < 2
      · have hlt : i < ts.length := by rw [HL.out]; exact hlt'
        have hiM : (i : Int) < 2 := by omega
        have hiI : (i : Int) < (ts.length : Int) := by have := HL.out; omega
        obtain ⟨s, hsi⟩ : ∃ s, ts[i]? = some s := ⟨_, List.getElem?_eq_getElem hlt⟩
        obtain ⟨bs, os, p, m', q, hA, d0, d1, d2, hns⟩ := sub_at HX.out.2.2.1 HX.out.2.1 HX.out.1 hsi
        subst hA
        obtain ⟨_, A9, cs9, vs9, hq9, _⟩ := hns.form
        have hq : q = .slice A9 s.subs.length cs9 := by
          have h9 := congrArg (fun v => match v with | Value.agg cs => cs[2]? | _ => none) hq9
          simpa using h9
        subst hq
        clear hq9
        obtain ⟨sl, hsl⟩ : ∃ n, n = s.subs.length := ⟨_, rfl⟩
        rw [← hsl] at d2 hns
        clear hsl
        have d0 := hE5.cell d0
        have d1 := hE5.cell d1
        have d2 := hE5.cell d2
        have hcl := HX.out.2.2.2 s W5 _ (HSZ.out s (List.mem_of_getElem? hsi)) (hns.ext hE5)
        have HST := Lib.hid (val_take sy ts i s hsi)
        have HSI := Lib.hid hsi
        have HE5 := Lib.hid hE5
        unfold ErrP at hcl
        clear hsi hns hE5
        cases hv : valT sy s with
        | true =>
          rw [hv] at hcl
          simp only [if_true] at hcl
          have HN2 : Hid (valTs sy (ts.take (i + 1)) = true) := Lib.hid (by rw [HST.out, HF.out, hv]; rfl)
          clear hv
          go_wp2_with ((with_reducible refine hcl.mono ?_); rintro e W8 ⟨rfl, e8⟩)
          go_roundw
          case rel => exact ⟨i + 1, by go_num, hlt', HN2, Lib.hid (HW.out.trans e8)⟩
          case measure => simp [intOf]; omega
        | false =>
          rw [hv] at hcl
          simp only [Bool.false_eq_true, if_false] at hcl
          have HR : Hid (r = 0) := Lib.hid (by
            rw [HR1.out, if_neg]
            intro hall
            rw [val_sub hall HSI.out] at hv; cases hv)
          clear hv
          go_wp2_with ((with_reducible refine hcl.mono ?_); rintro e W8 ⟨rfl, e8⟩)
          go_ret
          exact ⟨by rw [HR.out]; rfl, HE5.out.trans e8⟩
      · have hie : i = 2 := by omega
        subst hie
        have HR : Hid (r = 1) := Lib.hid (by
          rw [HR1.out, if_pos]
          have h := HF.out
          rwa [List.take_of_length_le (by rw [HL.out]; exact Nat.le_refl _)] at h)
        have HE5 := Lib.hid hE5
        clear hE5 hlt' hi
        go_wp2
        go_ret
        exact ⟨by rw [HR.out]; rfl, HE5.out⟩
  · obtain rfl : z = 6 := hz
    by_cases hl : ts.length = 1
    rotate_left
    · have hl2 : ((ts.length : Int) != 1) = true := bne_iff_ne.2 (by omega)
      have HL := Lib.hid hl
      clear hl
      have HR : Hid (r = 0) := Lib.hid (by rw [HR0.out, show (ownV sy 6 n ts.length && valTs sy ts) = false by rw [show ownV sy 6 n ts.length = false by unfold ownV; rw [decide_eq_false (show ¬ ((ts.length : Int) = subT 6) from (by show ¬ (ts.length : Int) = 1; have := HL.out; omega))]; simp]; rfl]; rfl)
      go_wp2
      go_ret
      exact ⟨by rw [HR.out]; rfl, HE1.out⟩
    have hl2 : ((ts.length : Int) != 1) = false := by rw [bne_eq_false_iff_eq]; omega
    have HL := Lib.hid hl
    clear hl
    by_cases hn0 : n = 0
    rotate_left
    · have hn2 : (n != 0) = true := bne_iff_ne.2 hn0
      have HN := Lib.hid hn0
      clear hn0
      have HR : Hid (r = 0) := Lib.hid (by rw [HR0.out, show (ownV sy 6 n ts.length && valTs sy ts) = false by unfold ownV; simp [HN.out]]; rfl)
      go_wp2
      go_ret
      exact ⟨by rw [HR.out]; rfl, HE1.out⟩
    have hn2 : (n != 0) = false := by rw [bne_eq_false_iff_eq]; exact hn0
    have HN := Lib.hid hn0
    clear hn0
    have HR1 : Hid (r = if valTs sy ts = true then 1 else 0) := Lib.hid (by rw [HR0.out]; have : ownV sy 6 n ts.length = true := (by unfold ownV; rw [decide_eq_true (show ((ts.length : Int) = subT 6) from (by show (ts.length : Int) = 1; have := HL.out; omega))]; have := HN.out; simp; omega); rw [this]; simp)
    go_wp2
    go_loopw [6] (fun iv wr => ∃ i : Nat, iv = .int .i64 i ∧ i ≤ 1 ∧ Hid (valTs sy (ts.take i) = true) ∧ Hid (Ext W1 wr)) (fun iv _ => 1 - (intOf iv).toNat)
    case atStart => exact ⟨0, by first | rfl | simp, Nat.zero_le _, Lib.hid (by simp [valTs]), Lib.hid (Ext.refl _)⟩
    case round =>
      obtain ⟨i, rfl, hi, HF, HW⟩ := hrel
      obtain ⟨W5, hW5⟩ : ∃ W, W = wr := ⟨_, rfl⟩; subst hW5
      have k2 := k2 W5 HW.out
      have hE5 := HE1.out.trans HW.out
      by_cases hlt' : i < 1
      · have hlt : i < ts.length := by rw [HL.out]; exact hlt'
        have hiM : (i : Int) < 1 := by omega
        have hiI : (i : Int) < (ts.length : Int) := by have := HL.out; omega
        obtain ⟨s, hsi⟩ : ∃ s, ts[i]? = some s := ⟨_, List.getElem?_eq_getElem hlt⟩
        obtain ⟨bs, os, p, m', q, hA, d0, d1, d2, hns⟩ := sub_at HX.out.2.2.1 HX.out.2.1 HX.out.1 hsi
        subst hA
        obtain ⟨_, A9, cs9, vs9, hq9, _⟩ := hns.form
        have hq : q = .slice A9 s.subs.length cs9 := by
          have h9 := congrArg (fun v => match v with | Value.agg cs => cs[2]? | _ => none) hq9
          simpa using h9
        subst hq
        clear hq9
        obtain ⟨sl, hsl⟩ : ∃ n, n = s.subs.length := ⟨_, rfl⟩
        rw [← hsl] at d2 hns
        clear hsl
        have d0 := hE5.cell d0
        have d1 := hE5.cell d1
        have d2 := hE5.cell d2
        have hcl := HX.out.2.2.2 s W5 _ (HSZ.out s (List.mem_of_getElem? hsi)) (hns.ext hE5)
        have HST := Lib.hid (val_take sy ts i s hsi)
        have HSI := Lib.hid hsi
        have HE5 := Lib.hid hE5
        unfold ErrP at hcl
        clear hsi hns hE5
        cases hv : valT sy s with
        | true =>
          rw [hv] at hcl
          simp only [if_true] at hcl
          have HN2 : Hid (valTs sy (ts.take (i + 1)) = true) := Lib.hid (by rw [HST.out, HF.out, hv]; rfl)
          clear hv
          go_wp2_with ((with_reducible refine hcl.mono ?_); rintro e W8 ⟨rfl, e8⟩)
          go_roundw
          case rel => exact ⟨i + 1, by go_num, hlt', HN2, Lib.hid (HW.out.trans e8)⟩
          case measure => simp [intOf]; omega
        | false =>
          rw [hv] at hcl
          simp only [Bool.false_eq_true, if_false] at hcl
          have HR : Hid (r = 0) := Lib.hid (by
            rw [HR1.out, if_neg]
            intro hall
            rw [val_sub hall HSI.out] at hv; cases hv)
          clear hv
          go_wp2_with ((with_reducible refine hcl.mono ?_); rintro e W8 ⟨rfl, e8⟩)
          go_ret
          exact ⟨by rw [HR.out]; rfl, HE5.out.trans e8⟩
      · have hie : i = 1 := by omega
        subst hie
        have HR : Hid (r = 1) := Lib.hid (by
          rw [HR1.out, if_pos]
          have h := HF.out
          rwa [List.take_of_length_le (by rw [HL.out]; exact Nat.le_refl _)] at h)
        have HE5 := Lib.hid hE5
        clear hE5 hlt' hi
        go_wp2
        go_ret
        exact ⟨by rw [HR.out]; rfl, HE5.out⟩
  · obtain rfl : z = 7 := hz
    by_cases hl : ts.length = 1
    rotate_left
    · have hl2 : ((ts.length : Int) != 1) = true := bne_iff_ne.2 (by omega)
      have HL := Lib.hid hl
      clear hl
      have HR : Hid (r = 0) := Lib.hid (by rw [HR0.out, show (ownV sy 7 n ts.length && valTs sy ts) = false by rw [show ownV sy 7 n ts.length = false by unfold ownV; rw [decide_eq_false (show ¬ ((ts.length : Int) = subT 7) from (by show ¬ (ts.length : Int) = 1; have := HL.out; omega))]; simp]; rfl]; rfl)
      go_wp2
      go_ret
      exact ⟨by rw [HR.out]; rfl, HE1.out⟩
    have hl2 : ((ts.length : Int) != 1) = false := by rw [bne_eq_false_iff_eq]; omega
    have HL := Lib.hid hl
    clear hl
    by_cases hn0 : n = 0
    rotate_left
    · have hn2 : (n != 0) = true := bne_iff_ne.2 hn0
      have HN := Lib.hid hn0
      clear hn0
      have HR : Hid (r = 0) := Lib.hid (by rw [HR0.out, show (ownV sy 7 n ts.length && valTs sy ts) = false by unfold ownV; simp [HN.out]]; rfl)
      go_wp2
      go_ret
      exact ⟨by rw [HR.out]; rfl, HE1.out⟩
    have hn2 : (n != 0) = false := by rw [bne_eq_false_iff_eq]; exact hn0
    have HN := Lib.hid hn0
    clear hn0
    have HR1 : Hid (r = if valTs sy ts = true then 1 else 0) := Lib.hid (by rw [HR0.out]; have : ownV sy 7 n ts.length = true := (by unfold ownV; rw [decide_eq_true (show ((ts.length : Int) = subT 7) from (by show (ts.length : Int) = 1; have := HL.out; omega))]; have := HN.out; simp; omega); rw [this]; simp)
    go_wp2
    go_loopw [6] (fun iv wr => ∃ i : Nat, iv = .int .i64 i ∧ i ≤ 1 ∧ Hid (valTs sy (ts.take i) = true) ∧ Hid (Ext W1 wr)) (fun iv _ => 1 - (intOf iv).toNat)
    case atStart => exact ⟨0, by first | rfl | simp, Nat.zero_le _, Lib.hid (by simp [valTs]), Lib.hid (Ext.refl _)⟩
    case round =>
      obtain ⟨i, rfl, hi, HF, HW⟩ := hrel
      obtain ⟨W5, hW5⟩ : ∃ W, W = wr := ⟨_, rfl⟩; subst hW5
      have k2 := k2 W5 HW.out
      have hE5 := HE1.out.trans HW.out
      by_cases hlt' : i < 1
      · have hlt : i < ts.length := by rw [HL.out]; exact hlt'
        have hiM : (i : Int) < 1 := by omega
        have hiI : (i : Int) < (ts.length : Int) := by have := HL.out; omega
        obtain ⟨s, hsi⟩ : ∃ s, ts[i]? = some s := ⟨_, List.getElem?_eq_getElem hlt⟩
        obtain ⟨bs, os, p, m', q, hA, d0, d1, d2, hns⟩ := sub_at HX.out.2.2.1 HX.out.2.1 HX.out.1 hsi
        subst hA
        obtain ⟨_, A9, cs9, vs9, hq9, _⟩ := hns.form
        have hq : q = .slice A9 s.subs.length cs9 := by
          have h9 := congrArg (fun v => match v with | Value.agg cs => cs[2]? | _ => none) hq9
          simpa using h9
        subst hq
        clear hq9
        obtain ⟨sl, hsl⟩ : ∃ n, n = s.subs.length := ⟨_, rfl⟩
        rw [← hsl] at d2 hns
        clear hsl
        have d0 := hE5.cell d0
        have d1 := hE5.cell d1
        have d2 := hE5.cell d2
        have hcl := HX.out.2.2.2 s W5 _ (HSZ.out s (List.mem_of_getElem? hsi)) (hns.ext hE5)
        have HST := Lib.hid (val_take sy ts i s hsi)
        have HSI := Lib.hid hsi
        have HE5 := Lib.hid hE5
        unfold ErrP at hcl
        clear hsi hns hE5
        cases hv : valT sy s with
        | true =>
          rw [hv] at hcl
          simp only [if_true] at hcl
          have HN2 : Hid (valTs sy (ts.take (i + 1)) = true) := Lib.hid (by rw [HST.out, HF.out, hv]; rfl)
          clear hv
          go_wp2_with ((with_reducible refine hcl.mono ?_); rintro e W8 ⟨rfl, e8⟩)
          go_roundw
          case rel => exact ⟨i + 1, by go_num, hlt', HN2, Lib.hid (HW.out.trans e8)⟩
          case measure => simp [intOf]; omega
        | false =>
          rw [hv] at hcl
          simp only [Bool.false_eq_true, if_false] at hcl
          have HR : Hid (r = 0) := Lib.hid (by
            rw [HR1.out, if_neg]
            intro hall
            rw [val_sub hall HSI.out] at hv; cases hv)
          clear hv
          go_wp2_with ((with_reducible refine hcl.mono ?_); rintro e W8 ⟨rfl, e8⟩)
          go_ret
          exact ⟨by rw [HR.out]; rfl, HE5.out.trans e8⟩
      · have hie : i = 1 := by omega
        subst hie
        have HR : Hid (r = 1) := Lib.hid (by
          rw [HR1.out, if_pos]
          have h := HF.out
          rwa [List.take_of_length_le (by rw [HL.out]; exact Nat.le_refl _)] at h)
        have HE5 := Lib.hid hE5
        clear hE5 hlt' hi
        go_wp2
        go_ret
        exact ⟨by rw [HR.out]; rfl, HE5.out⟩
theorem rig_any (sy : Int) (hsy : 1 ≤ sy) : ∀ k, RigS sy k
  | 0 => fun t _ _ h => by cases t; simp at h
  | k + 1 => rig_step sy hsy k (rig_any sy hsy k)
theorem right_any {sy : Int} (hsy : 1 ≤ sy) {t : Tr} {w : World} {v : Value} (hN : NodeV w t v) : Calls Tryd.prog 70 #[v, .int .i64 sy] w (ErrP w (if valT sy t = true then 1 else 0)) := rig_any sy hsy _ t w v (Nat.le_refl _) hN
set_option maxRecDepth 100000 in
set_option maxHeartbeats 4000000 in
theorem refCheck_any {sy : Int} {t : Tr} {w : World} {v : Value} (hN : NodeV w t v) : Calls Tryd.prog 34 #[v, .int .i64 sy] w (ErrP w (checkX sy t)) := by
  obtain ⟨-, A, c, -, rfl, -⟩ := hN.form
  obtain ⟨r, hr⟩ : ∃ r, r = checkX sy t := ⟨_, rfl⟩
  rw [← hr]
  unfold checkX at hr
  have hcn := fun w1 (e : Ext w w1) => count_anyC (m := 64) (hN.ext e) (by omega) (by omega)
  have hri := fun (h : 1 ≤ sy) w1 (e : Ext w w1) => right_any h (hN.ext e)
  unfold ErrP at hcn hri
  have hmin : (min (cntT t : Int) (64 + 1) ≤ 64) ↔ cntT t ≤ 64 := by omega
  obtain ⟨q, hq⟩ : ∃ q, q = min (cntT t : Int) (64 + 1) := ⟨_, rfl⟩
  rw [← hq] at hcn hmin
  have HRI := Lib.hid hri
  generalize t.op = o at *
  generalize t.n = n at *
  generalize t.subs.length = l at *
  clear hq hN hri
  have hbx : ∀ W : World, W.heap[w.heap.size]? = some (.cells #[.int .u8 (o : Int), .int .i64 n, .slice A l c] 35) → True := fun _ _ => trivial
  go_enter Tryd.func34, Tryd.ntmps34
  go_upto_region 1 with fail
  refine wp_named ?_
  intro W1 hW1
  have hE1 : Ext w W1 := by rw [hW1]; exact alloc_ext _ _
  have hB : W1.heap[w.heap.size]? = some (.cells #[.int .u8 (o : Int), .int .i64 n, .slice A l c] 35) := by rw [hW1]; exact heap_alloc_new _ _
  have k0 := fun w' (e : Ext W1 w') => e.cell (cell_of_blk hB 0 (u := .int .u8 (o : Int)) rfl)
  have k1 := fun w' (e : Ext W1 w') => e.cell (cell_of_blk hB 1 (u := .int .i64 n) rfl)
  have k2 := fun w' (e : Ext W1 w') => e.cell (cell_of_blk hB 2 (u := .slice A l c) rfl)
  have hcn := hcn W1 hE1
  have hri := fun h w1 (e : Ext W1 w1) => HRI.out h w1 (hE1.trans e)
  have HRI := Lib.hid hri
  have HE1 := Lib.hid hE1
  have hR1 := Ext.refl W1
  clear hW1 hB hbx hri hE1
  have HR := Lib.hid hr
  clear hr
  by_cases h1 : 16 < sy
  · have HR2 : Hid (r = 3) := Lib.hid (by rw [HR.out, if_pos (.inl h1)])
    clear hcn
    go_wp2
    go_ret
    exact ⟨by rw [HR2.out]; rfl, HE1.out⟩
  by_cases h2 : 64 < q
  · have HR2 : Hid (r = 3) := Lib.hid (by rw [HR.out, if_pos (.inr (by omega))])
    clear hmin
    go_wp2_with ((with_reducible refine hcn.mono ?_); rintro e W5 ⟨rfl, e5⟩)
    go_ret
    exact ⟨by rw [HR2.out]; rfl, HE1.out.trans e5⟩
  have HC : Hid (¬ (16 < sy ∨ 64 < cntT t)) := Lib.hid (by omega)
  clear hmin
  by_cases h3 : sy < 1
  · have HR2 : Hid (r = 1) := Lib.hid (by rw [HR.out, if_neg HC.out, if_pos (.inl h3)])
    go_wp2_with ((with_reducible refine hcn.mono ?_); rintro e W5 ⟨rfl, e5⟩)
    go_ret
    exact ⟨by rw [HR2.out]; rfl, HE1.out.trans e5⟩
  have hri := fun w1 (e : Ext W1 w1) => HRI.out (by omega) w1 e
  cases hv : valT sy t with
  | true =>
    rw [hv] at hri
    simp only [if_true] at hri
    have HR2 : Hid (r = 0) := Lib.hid (by rw [HR.out, if_neg HC.out, if_neg (by rw [hv]; simp; omega)])
    clear hv
    go_wp2_with (first
      | ((with_reducible refine hcn.mono ?_); rintro e W5 ⟨rfl, e5⟩; have hri := hri W5 e5; have k0 := k0 W5 e5; have k1 := k1 W5 e5; have k2 := k2 W5 e5)
      | ((with_reducible refine hri.mono ?_); rintro e W6 ⟨rfl, e6⟩))
    go_ret
    exact ⟨by rw [HR2.out]; rfl, HE1.out.trans (e5.trans e6)⟩
  | false =>
    rw [hv] at hri
    simp only [Bool.false_eq_true, if_false] at hri
    have HR2 : Hid (r = 1) := Lib.hid (by rw [HR.out, if_neg HC.out, if_pos (.inr hv)])
    clear hv
    go_wp2_with (first
      | ((with_reducible refine hcn.mono ?_); rintro e W5 ⟨rfl, e5⟩; have hri := hri W5 e5; have k0 := k0 W5 e5; have k1 := k1 W5 e5; have k2 := k2 W5 e5)
      | ((with_reducible refine hri.mono ?_); rintro e W6 ⟨rfl, e6⟩))
    go_ret
    exact ⟨by rw [HR2.out]; rfl, HE1.out.trans (e5.trans e6)⟩
end Go.Proofs.YtmebgomnmlbgnaaDoor
