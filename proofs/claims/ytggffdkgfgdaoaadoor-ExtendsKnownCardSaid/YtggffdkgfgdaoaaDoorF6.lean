/- ref28.Condition 65, types 74. -/
import Derived.Test.YtggffdkgfgdaoaaDoorF5
import Derived.Test.YtggffdkgfgdaoaaDoorE1
namespace Go.Proofs.YtggffdkgfgdaoaaDoor
open Go.RowKit
set_option linter.unusedVariables false
set_option linter.unusedSimpArgs false
attribute [local go_sem] Oper.quietV quietV Oper.gives givesV ext_refl_iff ext_alloc_iff ext_drew_iff ext_drewN_iff
set_option maxRecDepth 100000 in
set_option maxHeartbeats 4000000 in
theorem refCond_any (w : World) (t : Tr) (v : Value) (hN : NodeV w t v) : Calls Tryd.prog 65 #[v] w (ErrP w (b01 (condT t))) := by
  obtain ⟨hop, A, cs, vs, rfl, _⟩ := hN.form
  obtain ⟨r, hr⟩ : ∃ r, r = b01 (condT t) := ⟨_, rfl⟩
  rw [← hr]
  unfold condT at hr
  clear hN
  generalize t.op = op at *
  generalize t.n = n at *
  generalize t.subs.length = tl at *
  by_cases h6 : (6 : Int) ≤ op
  · have HR : Hid (r = 1) := Lib.hid (by rw [hr, decide_eq_true (by omega)]; rfl)
    clear hr
    go_enter Tryd.func65, Tryd.ntmps65
    go_upto_region 1 with fail
    refine wp_named ?_
    intro W1 hW1
    have hE1 : Ext w W1 := by rw [hW1]; exact alloc_ext _ _
    have k0 : W1.cell? ⟨w.heap.size, 0, none⟩ = some (.int .u8 (op : Int)) := by rw [hW1]; simp [go_sem]
    clear hW1
    go_wp2
    go_ret
    exact ⟨by rw [HR.out]; rfl, hE1⟩
  · have HR : Hid (r = 0) := Lib.hid (by rw [hr, decide_eq_false (by omega)]; rfl)
    clear hr
    go_enter Tryd.func65, Tryd.ntmps65
    go_upto_region 1 with fail
    refine wp_named ?_
    intro W1 hW1
    have hE1 : Ext w W1 := by rw [hW1]; exact alloc_ext _ _
    have k0 : W1.cell? ⟨w.heap.size, 0, none⟩ = some (.int .u8 (op : Int)) := by rw [hW1]; simp [go_sem]
    clear hW1
    go_wp2
    go_ret
    exact ⟨by rw [HR.out]; rfl, hE1⟩
theorem typs_take (b : Bool) : ∀ (ts : List Tr) (i : Nat) (s : Tr), ts[i]? = some s → typTs b (ts.take (i + 1)) = (typTs b (ts.take i) && ((condT s != b) && typT s))
  | [], i, s, h => by simp at h
  | t :: l, 0, s, h => by simp at h; subst h; simp [typTs]
  | t :: l, i + 1, s, h => by
    have := typs_take b l i s (by simpa using h)
    simp only [List.take_succ_cons, typTs, this, Bool.and_assoc]
theorem typs_bad {b : Bool} {ts : List Tr} {s : Tr} (hs : s ∈ ts) (h : ((condT s != b) && typT s) = false) : typTs b ts = false := by
  induction ts with
  | nil => cases hs
  | cons t l ih =>
    unfold typTs
    rcases List.mem_cons.1 hs with rfl | hs
    · rw [h]; rfl
    · rw [ih hs]; simp
def RtyS (vars k : Nat) : Prop := ∀ (t : Tr) (w : World) (v : Value), SizeOf.sizeOf t ≤ k → NodeV w t v → shapT vars t = true → Calls Tryd.prog 74 #[v] w (ErrP w (b01 (typT t)))
set_option maxRecDepth 100000 in
set_option maxHeartbeats 16000000 in
theorem rty_step (vars k : Nat) (IH : RtyS vars k) : RtyS vars (k + 1) := by
  intro t w v hk hN hsh
  obtain ⟨hop, A, cs, vs, rfl, hvl, hcs, hsub, hnc, hnm⟩ := hN.form
  unfold lenMax at hnm
  have HX := Lib.hid (And.intro hsub (And.intro hcs (And.intro hvl IH)))
  have HSZ := Lib.hid (fun s (h : s ∈ t.subs) => (by have := Tr.sub_lt h; omega : SizeOf.sizeOf s ≤ k))
  obtain ⟨r, hr⟩ : ∃ r, r = b01 (typT t) := ⟨_, rfl⟩
  rw [← hr]
  rw [typT_eq] at hr
  have h2 : 0 < t.subs.length → 2 ≤ t.op := fun h => by
    obtain ⟨o, n, l⟩ := t
    obtain ⟨_, _, _, h4⟩ := subs_of hsh
    simp only [Tr.subs, Tr.op] at h ⊢
    rcases h4 with ⟨_, h5⟩ | ⟨h5, _⟩ | ⟨h5, _⟩
    · rw [h5] at h; simp at h
    · omega
    · omega
  have hshs : ∀ s ∈ t.subs, shapT vars s = true := fun s hs => by
    rw [shapT_eq] at hsh
    simp only [Bool.and_eq_true] at hsh
    obtain ⟨i, hi⟩ := List.getElem?_of_mem hs
    exact shap_sub hsh.2 hi
  have HSH := Lib.hid hshs
  have HH2 := Lib.hid h2
  generalize t.op = op at *
  generalize t.n = n at *
  generalize t.subs = ts at *
  obtain ⟨nb, hnb⟩ : ∃ b, b = numsO op := ⟨_, rfl⟩
  rw [← hnb] at hr
  have HNB := Lib.hid hnb
  have HR0 := Lib.hid hr
  clear hk hN hsub hcs hvl IH hr hsh h2 hshs hnb
  go_enter Tryd.func74, Tryd.ntmps74
  go_upto_region 1 with fail
  refine wp_named ?_
  intro W1 hW1
  have hE1 : Ext w W1 := by rw [hW1]; exact alloc_ext _ _
  have k0 : ∀ w', Ext W1 w' → w'.cell? ⟨w.heap.size, 0, none⟩ = some (.int .u8 (op : Int)) := fun w' h => h.cell (by rw [hW1]; simp [go_sem])
  have k2 : ∀ w', Ext W1 w' → w'.cell? ⟨w.heap.size, 2, none⟩ = some (.slice A ts.length cs) := fun w' h => h.cell (by rw [hW1]; simp [go_sem])
  have HE1 := Lib.hid hE1
  clear hW1 hE1
  generalize w.heap.size = b2 at *
  go_wp2
  go_loopw [3] (fun iv wr => ∃ i : Nat, iv = .int .i64 i ∧ i ≤ ts.length ∧ Hid (typTs nb (ts.take i) = true) ∧ Hid (Ext W1 wr)) (fun iv _ => ts.length - (intOf iv).toNat)
  case atStart => exact ⟨0, by first | rfl | simp, Nat.zero_le _, Lib.hid (by simp [typTs]), Lib.hid (Ext.refl _)⟩
  case round =>
    obtain ⟨i, rfl, hi, HF, HW⟩ := hrel
    obtain ⟨W5, hW5⟩ : ∃ W, W = wr := ⟨_, rfl⟩; subst hW5
    have hE5 := HE1.out.trans HW.out
    have k2 := k2 W5 HW.out
    have k0 := k0 W5 HW.out
    by_cases hlt : i < ts.length
    · have hlI : (i : Int) < (ts.length : Int) := by omega
      skip
      obtain ⟨s, hsi⟩ : ∃ s, ts[i]? = some s := ⟨_, List.getElem?_eq_getElem hlt⟩
      obtain ⟨bs, os, p, m', q, hA, d0, d1, d2, hns⟩ := sub_at HX.out.2.2.1 HX.out.2.1 HX.out.1 hsi
      subst hA
      obtain ⟨_, A9, cs9, vs9, hq9, _⟩ := hns.form
      have hq : q = .slice A9 s.subs.length cs9 := by
        have h9 := congrArg (fun v => match v with | Value.agg cs => cs[2]? | _ => none) hq9
        simpa using h9
      subst hq
      clear hq9
      obtain ⟨sl, hsl⟩ : ∃ n, n = s.subs.length := ⟨_, rfl⟩
      rw [← hsl] at d2 hns
      clear hsl
      have d0 := hE5.cell d0
      have d1 := hE5.cell d1
      have d2 := hE5.cell d2
      have hcd := refCond_any W5 s _ (hns.ext hE5)
      have hcl := fun W (e : Ext W5 W) => HX.out.2.2.2 s W _ (HSZ.out s (List.mem_of_getElem? hsi)) (hns.ext (hE5.trans e)) (HSH.out s (List.mem_of_getElem? hsi))
      unfold ErrP at hcd hcl
      have HST := Lib.hid (typs_take nb ts i s hsi)
      obtain ⟨qc, hqc⟩ : ∃ q, q = condT s := ⟨_, rfl⟩
      obtain ⟨qt, hqt⟩ : ∃ q, q = typT s := ⟨_, rfl⟩
      rw [← hqc] at hcd
      rw [← hqt] at hcl
      have HQ := Lib.hid (And.intro hsi (And.intro hqc hqt))
      have HO2 := Lib.hid (HH2.out (by omega))
      clear hqc hqt hns hsi
      by_cases h9 : (9 : Int) ≤ op
      · obtain rfl : nb = false := by rw [HNB.out]; exact decide_eq_false (by omega)
        cases qc with
        | false =>
          have hcd : Calls Tryd.prog 65 _ W5 fun e w' => e = .returned (.int .i64 0) ∧ Ext W5 w' := hcd
          have HR : Hid (r = 0) := Lib.hid (by rw [HR0.out, typs_bad (List.mem_of_getElem? HQ.out.1) (by rw [← HQ.out.2.1]; rfl)]; rfl)
          go_wp2_with (first | ((with_reducible refine hcd.mono ?_); rintro e W7 ⟨rfl, e7⟩; have hE8 := hE5.trans e7; have hcl := hcl W7 e7; have d0 := e7.cell d0; have d1 := e7.cell d1; have d2 := e7.cell d2; have k2 := e7.cell k2) | ((with_reducible refine hcl.mono ?_); rintro e W8 ⟨rfl, e8⟩; replace hE8 := hE8.trans e8))
          go_ret
          exact ⟨by rw [HR.out]; rfl, hE8⟩
        | true =>
          have hcd : Calls Tryd.prog 65 _ W5 fun e w' => e = .returned (.int .i64 1) ∧ Ext W5 w' := hcd
          cases qt with
          | false =>
            have hcl : ∀ W, Ext W5 W → Calls Tryd.prog 74 _ W fun e w' => e = .returned (.int .i64 0) ∧ Ext W w' := hcl
            have HR : Hid (r = 0) := Lib.hid (by rw [HR0.out, typs_bad (List.mem_of_getElem? HQ.out.1) (by rw [← HQ.out.2.2]; simp)]; rfl)
            go_wp2_with (first | ((with_reducible refine hcd.mono ?_); rintro e W7 ⟨rfl, e7⟩; have hE8 := hE5.trans e7; have hcl := hcl W7 e7; have d0 := e7.cell d0; have d1 := e7.cell d1; have d2 := e7.cell d2; have k2 := e7.cell k2) | ((with_reducible refine hcl.mono ?_); rintro e W8 ⟨rfl, e8⟩; replace hE8 := hE8.trans e8))
            go_ret
            exact ⟨by rw [HR.out]; rfl, hE8⟩
          | true =>
            have hcl : ∀ W, Ext W5 W → Calls Tryd.prog 74 _ W fun e w' => e = .returned (.int .i64 1) ∧ Ext W w' := hcl
            have HST2 := Lib.hid (HST.out.trans (show _ = true by rw [HF.out, ← HQ.out.2.1, ← HQ.out.2.2]; rfl))
            go_wp2_with (first | ((with_reducible refine hcd.mono ?_); rintro e W7 ⟨rfl, e7⟩; have hE8 := HW.out.trans e7; have hcl := hcl W7 e7; have d0 := e7.cell d0; have d1 := e7.cell d1; have d2 := e7.cell d2; have k2 := e7.cell k2) | ((with_reducible refine hcl.mono ?_); rintro e W8 ⟨rfl, e8⟩; replace hE8 := hE8.trans e8))
            refine ⟨⟨i + 1, by go_num, hlt, HST2, Lib.hid hE8⟩, ?_⟩
            simp [intOf]; omega
      · obtain rfl : nb = true := by rw [HNB.out]; have := HO2.out; exact decide_eq_true (by omega)
        cases qc with
        | true =>
          have hcd : Calls Tryd.prog 65 _ W5 fun e w' => e = .returned (.int .i64 1) ∧ Ext W5 w' := hcd
          have HR : Hid (r = 0) := Lib.hid (by rw [HR0.out, typs_bad (List.mem_of_getElem? HQ.out.1) (by rw [← HQ.out.2.1]; rfl)]; rfl)
          go_wp2_with (first | ((with_reducible refine hcd.mono ?_); rintro e W7 ⟨rfl, e7⟩; have hE8 := hE5.trans e7; have hcl := hcl W7 e7; have d0 := e7.cell d0; have d1 := e7.cell d1; have d2 := e7.cell d2; have k2 := e7.cell k2) | ((with_reducible refine hcl.mono ?_); rintro e W8 ⟨rfl, e8⟩; replace hE8 := hE8.trans e8))
          go_ret
          exact ⟨by rw [HR.out]; rfl, hE8⟩
        | false =>
          have hcd : Calls Tryd.prog 65 _ W5 fun e w' => e = .returned (.int .i64 0) ∧ Ext W5 w' := hcd
          cases qt with
          | false =>
            have hcl : ∀ W, Ext W5 W → Calls Tryd.prog 74 _ W fun e w' => e = .returned (.int .i64 0) ∧ Ext W w' := hcl
            have HR : Hid (r = 0) := Lib.hid (by rw [HR0.out, typs_bad (List.mem_of_getElem? HQ.out.1) (by rw [← HQ.out.2.2]; simp)]; rfl)
            go_wp2_with (first | ((with_reducible refine hcd.mono ?_); rintro e W7 ⟨rfl, e7⟩; have hE8 := hE5.trans e7; have hcl := hcl W7 e7; have d0 := e7.cell d0; have d1 := e7.cell d1; have d2 := e7.cell d2; have k2 := e7.cell k2) | ((with_reducible refine hcl.mono ?_); rintro e W8 ⟨rfl, e8⟩; replace hE8 := hE8.trans e8))
            go_ret
            exact ⟨by rw [HR.out]; rfl, hE8⟩
          | true =>
            have hcl : ∀ W, Ext W5 W → Calls Tryd.prog 74 _ W fun e w' => e = .returned (.int .i64 1) ∧ Ext W w' := hcl
            have HST2 := Lib.hid (HST.out.trans (show _ = true by rw [HF.out, ← HQ.out.2.1, ← HQ.out.2.2]; rfl))
            go_wp2_with (first | ((with_reducible refine hcd.mono ?_); rintro e W7 ⟨rfl, e7⟩; have hE8 := HW.out.trans e7; have hcl := hcl W7 e7; have d0 := e7.cell d0; have d1 := e7.cell d1; have d2 := e7.cell d2; have k2 := e7.cell k2) | ((with_reducible refine hcl.mono ?_); rintro e W8 ⟨rfl, e8⟩; replace hE8 := hE8.trans e8))
            refine ⟨⟨i + 1, by go_num, hlt, HST2, Lib.hid hE8⟩, ?_⟩
            simp [intOf]; omega
    · have hie : i = ts.length := by omega
      subst hie
      have hlt2 : ¬ (ts.length : Int) < (ts.length : Int) := by omega
      have HR : Hid (r = 1) := Lib.hid (by rw [HR0.out]; have := HF.out; rw [List.take_length] at this; rw [this]; rfl)
      go_wp2
      go_ret
      exact ⟨by rw [HR.out]; rfl, hE5⟩
theorem rty_any (vars : Nat) : ∀ k, RtyS vars k
  | 0 => fun t _ _ h => by cases t; simp at h
  | k + 1 => rty_step vars k (rty_any vars k)
theorem refTypes_any {vars : Nat} {t : Tr} {w : World} {v : Value} (hN : NodeV w t v) (hs : shapT vars t = true) : Calls Tryd.prog 74 #[v] w (ErrP w (b01 (typT t))) := rty_any vars _ t w v (Nat.le_refl _) hN hs
end Go.Proofs.YtggffdkgfgdaoaaDoor
