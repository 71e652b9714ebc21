/- ref28.subs 82, shape 73. -/
import Derived.Test.YtggffdkgfgdaoaaDoorF4
import Derived.Test.YtggffdkgfgdaoaaDoorF3
namespace Go.Proofs.YtggffdkgfgdaoaaDoor
open Go.RowKit
set_option linter.unusedVariables false
set_option linter.unusedSimpArgs false
attribute [local go_sem] Oper.quietV quietV Oper.gives givesV ext_refl_iff ext_alloc_iff ext_drew_iff ext_drewN_iff
def subsI (op : Nat) : Int := if op = 0 ∨ op = 1 then 0 else if op = 2 ∨ op = 9 then 1 else if 11 < op then -1 else 2
set_option maxRecDepth 100000 in
set_option maxHeartbeats 4000000 in
theorem subs_any (w : World) (op : Nat) (h : op < 256) : Calls Tryd.prog 82 #[.int .u8 (op : Int)] w (IntP w (subsI op)) := by
  obtain ⟨r, hr⟩ : ∃ r, r = subsI op := ⟨_, rfl⟩
  rw [← hr]
  unfold subsI at hr
  have HR0 := Lib.hid hr
  clear hr
  by_cases h0 : op = 0
  · subst h0
    have HR : Hid (r = 0) := Lib.hid HR0.out
    go_enter Tryd.func82, Tryd.ntmps82
    go_wp2
    go_ret
    exact ⟨by rw [HR.out]; rfl, rfl⟩
  by_cases h1 : op = 1
  · subst h1
    have HR : Hid (r = 0) := Lib.hid HR0.out
    go_enter Tryd.func82, Tryd.ntmps82
    go_wp2
    go_ret
    exact ⟨by rw [HR.out]; rfl, rfl⟩
  by_cases h2 : op = 2
  · subst h2
    have HR : Hid (r = 1) := Lib.hid HR0.out
    go_enter Tryd.func82, Tryd.ntmps82
    go_wp2
    go_ret
    exact ⟨by rw [HR.out]; rfl, rfl⟩
  by_cases h9 : op = 9
  · subst h9
    have HR : Hid (r = 1) := Lib.hid HR0.out
    go_enter Tryd.func82, Tryd.ntmps82
    go_wp2
    go_ret
    exact ⟨by rw [HR.out]; rfl, rfl⟩
  have g0 : ((op : Int) == 0) = false := beq_eq_false_iff_ne.2 (by omega)
  have g1 : ((op : Int) == 1) = false := beq_eq_false_iff_ne.2 (by omega)
  have g2 : ((op : Int) == 2) = false := beq_eq_false_iff_ne.2 (by omega)
  have g9 : ((op : Int) == 9) = false := beq_eq_false_iff_ne.2 (by omega)
  by_cases h11 : (11 : Int) < op
  · have HR : Hid (r = -1) := Lib.hid (by rw [HR0.out, if_neg (by omega), if_neg (by omega), if_pos (by omega)])
    clear h0 h1 h2 h9
    go_enter Tryd.func82, Tryd.ntmps82
    go_wp2
    go_ret
    exact ⟨by rw [HR.out]; rfl, rfl⟩
  · have HR : Hid (r = 2) := Lib.hid (by rw [HR0.out, if_neg (by omega), if_neg (by omega), if_neg (by omega)])
    clear h0 h1 h2 h9
    go_enter Tryd.func82, Tryd.ntmps82
    go_wp2
    go_ret
    exact ⟨by rw [HR.out]; rfl, rfl⟩
/-- What shape asks of a node itself. -/
theorem own_bad {vars op : Nat} {n : Int} {k : Nat} (hv : vars ≤ 1000) (h : (k : Int) ≠ subsI op ∨ n < 0 ∨ (1 < op ∧ n ≠ 0) ∨ (op = 1 ∧ (vars : Int) ≤ n) ∨ 2147483648 < n) : ownOk vars op n k = false := by
  unfold ownOk
  by_cases h12 : op < 12
  · have hs : subsI op = subsN op := by
      unfold subsI subsN
      split
      · rfl
      · split
        · rfl
        · rw [if_neg (by omega)]
    rcases h with h | h | h | h | h
    · rw [decide_eq_false (show ¬ (k : Int) = subsN op by rw [← hs]; exact h)]; simp
    · rw [decide_eq_false (show ¬ 0 ≤ n by omega)]; simp
    · have : ¬ n ≤ mostN op vars ∨ ¬ 0 ≤ n := by unfold mostN; rw [if_neg (by omega), if_neg (by omega)]; omega
      rcases this with h | h <;> rw [decide_eq_false h] <;> simp
    · have : ¬ n ≤ mostN op vars := by unfold mostN; rw [if_neg (by omega), if_pos h.1]; omega
      rw [decide_eq_false this]; simp
    · have : ¬ n ≤ mostN op vars := by
        unfold mostN
        split
        · omega
        · split <;> omega
      rw [decide_eq_false this]; simp
  · rw [decide_eq_false h12]; rfl
theorem own_good {vars op : Nat} {n : Int} {k : Nat} (h1 : (k : Int) = subsI op) (h2 : ¬ n < 0) (h3 : ¬ (1 < op ∧ n ≠ 0)) (h4 : ¬ (op = 1 ∧ (vars : Int) ≤ n)) (h5 : ¬ 2147483648 < n) : ownOk vars op n k = true := by
  have h12 : op < 12 := by
    apply Nat.lt_of_not_le
    intro h
    unfold subsI at h1
    rw [if_neg (by omega), if_neg (by omega), if_pos (by omega)] at h1
    omega
  have hs : subsI op = subsN op := by
    unfold subsI subsN
    split
    · rfl
    · split
      · rfl
      · rw [if_neg (by omega)]
  unfold ownOk
  rw [decide_eq_true h12, decide_eq_true (by rw [← hs]; exact h1), decide_eq_true (show 0 ≤ n by omega), decide_eq_true (show n ≤ mostN op vars by
    unfold mostN
    split
    · omega
    · split <;> omega)]
  rfl
theorem quietI {f : FuncId} {args : Array Value} {w : World} {n : Nat} {r : Int} (h : Calls Tryd.prog f args (w.drewN n) (IntP (w.drewN n) r)) : Calls Tryd.prog f args (w.drewN n) fun e w'' => e = .returned (.int .i64 r) ∧ ∃ m, w'' = w.drewN m :=
  h.mono fun _ _ ⟨he, hm⟩ => ⟨he, n, hm.symm⟩
def RshS (vars k : Nat) : Prop := ∀ (t : Tr) (w : World) (v : Value), SizeOf.sizeOf t ≤ k → NodeV w t v → Calls Tryd.prog 73 #[v, .int .i64 (vars : Int)] w (ErrP w (b01 (shapT vars t)))
set_option maxRecDepth 100000 in
set_option maxHeartbeats 16000000 in
theorem rsh_step (vars k : Nat) (hvars : vars ≤ 1000) (IH : RshS vars k) : RshS vars (k + 1) := by
  intro t w v hk hN
  obtain ⟨hop, A, cs, vs, rfl, hvl, hcs, hsub, hnc, hnm⟩ := hN.form
  unfold lenMax at hnm
  have HX := Lib.hid (And.intro hsub (And.intro hcs (And.intro hvl IH)))
  have HSZ := Lib.hid (fun s (h : s ∈ t.subs) => (by have := Tr.sub_lt h; omega : SizeOf.sizeOf s ≤ k))
  obtain ⟨r, hr⟩ : ∃ r, r = b01 (shapT vars t) := ⟨_, rfl⟩
  rw [← hr]
  rw [shapT_eq] at hr
  have hsb := fun w => subs_any w t.op hop
  generalize t.op = op at *
  generalize t.n = n at *
  generalize t.subs = ts at *
  obtain ⟨sb, hsbe⟩ : ∃ b, b = subsI op := ⟨_, rfl⟩
  rw [← hsbe] at hsb
  have HSB := Lib.hid hsbe
  have HR0 := Lib.hid hr
  clear hk hN hsub hcs hvl IH hr hsbe
  go_enter Tryd.func73, Tryd.ntmps73
  go_upto_region 1 with fail
  refine wp_named ?_
  intro W1 hW1
  have hE1 : Ext w W1 := by rw [hW1]; first | exact alloc_ext _ _ | exact (Ext.refl _).alloc _ | exact ((Ext.refl _).alloc _).drew
  have k0 : ∀ w', Ext W1 w' → w'.cell? ⟨w.heap.size, 0, none⟩ = some (.int .u8 (op : Int)) := fun w' h => h.cell (by rw [hW1]; simp [go_sem])
  have k1 : ∀ w', Ext W1 w' → w'.cell? ⟨w.heap.size, 1, none⟩ = some (.int .i64 n) := fun w' h => h.cell (by rw [hW1]; simp [go_sem])
  have k2 : ∀ w', Ext W1 w' → w'.cell? ⟨w.heap.size, 2, none⟩ = some (.slice A ts.length cs) := fun w' h => h.cell (by rw [hW1]; simp [go_sem])
  have HE1 := Lib.hid hE1
  have hR1 := Ext.refl W1
  clear hW1 hE1
  generalize w.heap.size = b2 at *
  by_cases h1 : (ts.length : Int) = sb
  rotate_left
  · have g1 : ((ts.length : Int) != sb) = true := bne_iff_ne.2 h1
    have H1 : Hid ((ts.length : Int) ≠ subsI op) := Lib.hid (by rw [← HSB.out]; exact h1)
    clear h1
    have HR : Hid (r = 0) := Lib.hid (by rw [HR0.out, own_bad hvars (.inl H1.out)]; rfl)
    go_upto_region 1 with fail
    go_quiet (exact quietI (hsb _))
    go_wp2
    go_ret
    exact ⟨by rw [HR.out]; rfl, HE1.out.trans ((Ext.refl _).drewN _)⟩
  have g1 : ((ts.length : Int) != sb) = false := by rw [h1]; exact bne_self_eq_false _
  have H1 : Hid ((ts.length : Int) = subsI op) := Lib.hid (by rw [← HSB.out]; exact h1)
  clear h1
  by_cases h2 : n < 0
  · skip
    have HR : Hid (r = 0) := Lib.hid (by rw [HR0.out, own_bad hvars (.inr (.inl h2))]; rfl)
    go_upto_region 1 with fail
    go_quiet (exact quietI (hsb _))
    go_wp2
    go_ret
    exact ⟨by rw [HR.out]; rfl, HE1.out.trans ((Ext.refl _).drewN _)⟩
  by_cases h3 : (1 : Int) < op
  · have g3 : ((op : Int) == 1) = false := beq_eq_false_iff_ne.2 (by omega)
    by_cases hn0 : n = 0
    · have hz : (n != 0) = false := by rw [hn0]; rfl
      have h5 : ¬ (2147483648 : Int) < n := by omega
      have HR1 : Hid (r = b01 (shapTs vars ts)) := Lib.hid (by rw [HR0.out, own_good H1.out h2 (by omega) (by omega) h5]; rfl)
      clear hn0
      go_upto_region 1 with fail
      go_quiet (exact quietI (hsb _))
      go_upto_region 3 with fail
      go_wp2
      go_loopw [5] (fun iv wr => ∃ i : Nat, iv = .int .i64 i ∧ i ≤ ts.length ∧ Hid (shapTs vars (ts.take i) = true) ∧ Hid (Ext W1 wr)) (fun iv _ => ts.length - (intOf iv).toNat)
      case atStart => exact ⟨0, by first | rfl | simp, Nat.zero_le _, Lib.hid (by simp [shapTs]), Lib.hid ((Ext.refl _).drewN _)⟩
      case round =>
        obtain ⟨i, rfl, hi, HF, HW⟩ := hrel
        obtain ⟨W5, hW5⟩ : ∃ W, W = wr := ⟨_, rfl⟩; subst hW5
        have hE5 := HE1.out.trans HW.out
        have k2 := k2 W5 HW.out
        clear k0 k1 hsb hR1
        by_cases hlt : i < ts.length
        · have hlI : (i : Int) < (ts.length : Int) := by omega
          obtain ⟨s, hsi⟩ : ∃ s, ts[i]? = some s := ⟨_, List.getElem?_eq_getElem hlt⟩
          obtain ⟨bs, os, p, m', q, hA, d0, d1, d2, hns⟩ := sub_at HX.out.2.2.1 HX.out.2.1 HX.out.1 hsi
          subst hA
          obtain ⟨_, A9, cs9, vs9, hq9, _⟩ := hns.form
          have hq : q = .slice A9 s.subs.length cs9 := by
            have h9 := congrArg (fun v => match v with | Value.agg cs => cs[2]? | _ => none) hq9
            simpa using h9
          subst hq
          clear hq9
          obtain ⟨sl, hsl⟩ : ∃ n, n = s.subs.length := ⟨_, rfl⟩
          rw [← hsl] at d2 hns
          clear hsl
          have d0 := hE5.cell d0
          have d1 := hE5.cell d1
          have d2 := hE5.cell d2
          have hcl := HX.out.2.2.2 s W5 _ (HSZ.out s (List.mem_of_getElem? hsi)) (hns.ext hE5)
          unfold ErrP at hcl
          have HST := Lib.hid (shap_take vars ts i s hsi)
          obtain ⟨q, hq⟩ : ∃ q, q = shapT vars s := ⟨_, rfl⟩
          rw [← hq] at hcl HST
          have HQ := Lib.hid (And.intro hsi hq)
          clear hq hns hsi
          cases q with
          | false =>
            have hcl : Calls Tryd.prog 73 _ W5 fun e w' => e = .returned (.int .i64 0) ∧ Ext W5 w' := hcl
            have HR : Hid (r = 0) := Lib.hid (by
              rw [HR1.out]
              cases hall : shapTs vars ts with
              | false => rfl
              | true => exact absurd ((shap_sub hall HQ.out.1).symm.trans HQ.out.2.symm) (by decide))
            go_wp2_with ((with_reducible refine hcl.mono ?_); rintro e W8 ⟨rfl, e8⟩)
            go_ret
            exact ⟨by rw [HR.out]; rfl, hE5.trans e8⟩
          | true =>
            have hcl : Calls Tryd.prog 73 _ W5 fun e w' => e = .returned (.int .i64 1) ∧ Ext W5 w' := hcl
            go_wp2_with ((with_reducible refine hcl.mono ?_); rintro e W8 ⟨rfl, e8⟩)
            refine ⟨⟨i + 1, by go_num, hlt, Lib.hid (by rw [HST.out, HF.out]; rfl), Lib.hid (HW.out.trans e8)⟩, ?_⟩
            simp [intOf]; omega
        · have hie : i = ts.length := by omega
          subst hie
          have hlt2 : ¬ (ts.length : Int) < (ts.length : Int) := by omega
          have HR : Hid (r = 1) := Lib.hid (by rw [HR1.out]; have := HF.out; rw [List.take_length] at this; rw [this]; rfl)
          go_wp2
          go_ret
          exact ⟨by rw [HR.out]; rfl, hE5⟩
    · have hz : (n != 0) = true := bne_iff_ne.2 hn0
      have HR : Hid (r = 0) := Lib.hid (by rw [HR0.out, own_bad hvars (.inr (.inr (.inl ⟨by omega, hn0⟩)))]; rfl)
      go_upto_region 1 with fail
      go_quiet (exact quietI (hsb _))
      go_wp2
      go_ret
      exact ⟨by rw [HR.out]; rfl, HE1.out.trans ((Ext.refl _).drewN _)⟩
  · by_cases h4 : op = 1
    · have g3 : ((op : Int) == 1) = true := beq_iff_eq.2 (by omega)
      by_cases hv : (vars : Int) ≤ n
      · have HH := Lib.hid h4
        clear h4
        have HR : Hid (r = 0) := Lib.hid (by rw [HR0.out, own_bad hvars (.inr (.inr (.inr (.inl ⟨HH.out, hv⟩))))]; rfl)
        go_upto_region 1 with fail
        go_quiet (exact quietI (hsb _))
        go_wp2
        go_ret
        exact ⟨by rw [HR.out]; rfl, HE1.out.trans ((Ext.refl _).drewN _)⟩
      · have h5 : ¬ (2147483648 : Int) < n := by omega
        have HR1 : Hid (r = b01 (shapTs vars ts)) := Lib.hid (by rw [HR0.out, own_good H1.out h2 (by omega) (by omega) h5]; rfl)
        clear h4
        go_upto_region 1 with fail
        go_quiet (exact quietI (hsb _))
        go_upto_region 3 with fail
        go_wp2
        go_loopw [5] (fun iv wr => ∃ i : Nat, iv = .int .i64 i ∧ i ≤ ts.length ∧ Hid (shapTs vars (ts.take i) = true) ∧ Hid (Ext W1 wr)) (fun iv _ => ts.length - (intOf iv).toNat)
        case atStart => exact ⟨0, by first | rfl | simp, Nat.zero_le _, Lib.hid (by simp [shapTs]), Lib.hid ((Ext.refl _).drewN _)⟩
        case round =>
          obtain ⟨i, rfl, hi, HF, HW⟩ := hrel
          obtain ⟨W5, hW5⟩ : ∃ W, W = wr := ⟨_, rfl⟩; subst hW5
          have hE5 := HE1.out.trans HW.out
          have k2 := k2 W5 HW.out
          clear k0 k1 hsb hR1
          by_cases hlt : i < ts.length
          · have hlI : (i : Int) < (ts.length : Int) := by omega
            obtain ⟨s, hsi⟩ : ∃ s, ts[i]? = some s := ⟨_, List.getElem?_eq_getElem hlt⟩
            obtain ⟨bs, os, p, m', q, hA, d0, d1, d2, hns⟩ := sub_at HX.out.2.2.1 HX.out.2.1 HX.out.1 hsi
            subst hA
            obtain ⟨_, A9, cs9, vs9, hq9, _⟩ := hns.form
            have hq : q = .slice A9 s.subs.length cs9 := by
              have h9 := congrArg (fun v => match v with | Value.agg cs => cs[2]? | _ => none) hq9
              simpa using h9
            subst hq
            clear hq9
            obtain ⟨sl, hsl⟩ : ∃ n, n = s.subs.length := ⟨_, rfl⟩
            rw [← hsl] at d2 hns
            clear hsl
            have d0 := hE5.cell d0
            have d1 := hE5.cell d1
            have d2 := hE5.cell d2
            have hcl := HX.out.2.2.2 s W5 _ (HSZ.out s (List.mem_of_getElem? hsi)) (hns.ext hE5)
            unfold ErrP at hcl
            have HST := Lib.hid (shap_take vars ts i s hsi)
            obtain ⟨q, hq⟩ : ∃ q, q = shapT vars s := ⟨_, rfl⟩
            rw [← hq] at hcl HST
            have HQ := Lib.hid (And.intro hsi hq)
            clear hq hns hsi
            cases q with
            | false =>
              have hcl : Calls Tryd.prog 73 _ W5 fun e w' => e = .returned (.int .i64 0) ∧ Ext W5 w' := hcl
              have HR : Hid (r = 0) := Lib.hid (by
                rw [HR1.out]
                cases hall : shapTs vars ts with
                | false => rfl
                | true => exact absurd ((shap_sub hall HQ.out.1).symm.trans HQ.out.2.symm) (by decide))
              go_wp2_with ((with_reducible refine hcl.mono ?_); rintro e W8 ⟨rfl, e8⟩)
              go_ret
              exact ⟨by rw [HR.out]; rfl, hE5.trans e8⟩
            | true =>
              have hcl : Calls Tryd.prog 73 _ W5 fun e w' => e = .returned (.int .i64 1) ∧ Ext W5 w' := hcl
              go_wp2_with ((with_reducible refine hcl.mono ?_); rintro e W8 ⟨rfl, e8⟩)
              refine ⟨⟨i + 1, by go_num, hlt, Lib.hid (by rw [HST.out, HF.out]; rfl), Lib.hid (HW.out.trans e8)⟩, ?_⟩
              simp [intOf]; omega
          · have hie : i = ts.length := by omega
            subst hie
            have hlt2 : ¬ (ts.length : Int) < (ts.length : Int) := by omega
            have HR : Hid (r = 1) := Lib.hid (by rw [HR1.out]; have := HF.out; rw [List.take_length] at this; rw [this]; rfl)
            go_wp2
            go_ret
            exact ⟨by rw [HR.out]; rfl, hE5⟩
    · have g3 : ((op : Int) == 1) = false := beq_eq_false_iff_ne.2 (by omega)
      by_cases h5 : (2147483648 : Int) < n
      · skip
        have HR : Hid (r = 0) := Lib.hid (by rw [HR0.out, own_bad hvars (.inr (.inr (.inr (.inr h5))))]; rfl)
        go_upto_region 1 with fail
        go_quiet (exact quietI (hsb _))
        go_wp2
        go_ret
        exact ⟨by rw [HR.out]; rfl, HE1.out.trans ((Ext.refl _).drewN _)⟩
      · have HR1 : Hid (r = b01 (shapTs vars ts)) := Lib.hid (by rw [HR0.out, own_good H1.out h2 (by omega) (by omega) h5]; rfl)
        clear h4
        go_upto_region 1 with fail
        go_quiet (exact quietI (hsb _))
        go_upto_region 3 with fail
        go_wp2
        go_loopw [5] (fun iv wr => ∃ i : Nat, iv = .int .i64 i ∧ i ≤ ts.length ∧ Hid (shapTs vars (ts.take i) = true) ∧ Hid (Ext W1 wr)) (fun iv _ => ts.length - (intOf iv).toNat)
        case atStart => exact ⟨0, by first | rfl | simp, Nat.zero_le _, Lib.hid (by simp [shapTs]), Lib.hid ((Ext.refl _).drewN _)⟩
        case round =>
          obtain ⟨i, rfl, hi, HF, HW⟩ := hrel
          obtain ⟨W5, hW5⟩ : ∃ W, W = wr := ⟨_, rfl⟩; subst hW5
          have hE5 := HE1.out.trans HW.out
          have k2 := k2 W5 HW.out
          clear k0 k1 hsb hR1
          by_cases hlt : i < ts.length
          · have hlI : (i : Int) < (ts.length : Int) := by omega
            obtain ⟨s, hsi⟩ : ∃ s, ts[i]? = some s := ⟨_, List.getElem?_eq_getElem hlt⟩
            obtain ⟨bs, os, p, m', q, hA, d0, d1, d2, hns⟩ := sub_at HX.out.2.2.1 HX.out.2.1 HX.out.1 hsi
            subst hA
            obtain ⟨_, A9, cs9, vs9, hq9, _⟩ := hns.form
            have hq : q = .slice A9 s.subs.length cs9 := by
              have h9 := congrArg (fun v => match v with | Value.agg cs => cs[2]? | _ => none) hq9
              simpa using h9
            subst hq
            clear hq9
            obtain ⟨sl, hsl⟩ : ∃ n, n = s.subs.length := ⟨_, rfl⟩
            rw [← hsl] at d2 hns
            clear hsl
            have d0 := hE5.cell d0
            have d1 := hE5.cell d1
            have d2 := hE5.cell d2
            have hcl := HX.out.2.2.2 s W5 _ (HSZ.out s (List.mem_of_getElem? hsi)) (hns.ext hE5)
            unfold ErrP at hcl
            have HST := Lib.hid (shap_take vars ts i s hsi)
            obtain ⟨q, hq⟩ : ∃ q, q = shapT vars s := ⟨_, rfl⟩
            rw [← hq] at hcl HST
            have HQ := Lib.hid (And.intro hsi hq)
            clear hq hns hsi
            cases q with
            | false =>
              have hcl : Calls Tryd.prog 73 _ W5 fun e w' => e = .returned (.int .i64 0) ∧ Ext W5 w' := hcl
              have HR : Hid (r = 0) := Lib.hid (by
                rw [HR1.out]
                cases hall : shapTs vars ts with
                | false => rfl
                | true => exact absurd ((shap_sub hall HQ.out.1).symm.trans HQ.out.2.symm) (by decide))
              go_wp2_with ((with_reducible refine hcl.mono ?_); rintro e W8 ⟨rfl, e8⟩)
              go_ret
              exact ⟨by rw [HR.out]; rfl, hE5.trans e8⟩
            | true =>
              have hcl : Calls Tryd.prog 73 _ W5 fun e w' => e = .returned (.int .i64 1) ∧ Ext W5 w' := hcl
              go_wp2_with ((with_reducible refine hcl.mono ?_); rintro e W8 ⟨rfl, e8⟩)
              refine ⟨⟨i + 1, by go_num, hlt, Lib.hid (by rw [HST.out, HF.out]; rfl), Lib.hid (HW.out.trans e8)⟩, ?_⟩
              simp [intOf]; omega
          · have hie : i = ts.length := by omega
            subst hie
            have hlt2 : ¬ (ts.length : Int) < (ts.length : Int) := by omega
            have HR : Hid (r = 1) := Lib.hid (by rw [HR1.out]; have := HF.out; rw [List.take_length] at this; rw [this]; rfl)
            go_wp2
            go_ret
            exact ⟨by rw [HR.out]; rfl, hE5⟩
theorem rsh_any (vars : Nat) (hv : vars ≤ 1000) : ∀ k, RshS vars k
  | 0 => fun t _ _ h => by cases t; simp at h
  | k + 1 => rsh_step vars k hv (rsh_any vars hv k)
theorem refShape_any {vars : Nat} (hv : vars ≤ 1000) {t : Tr} {w : World} {v : Value} (hN : NodeV w t v) : Calls Tryd.prog 73 #[v, .int .i64 (vars : Int)] w (ErrP w (b01 (shapT vars t))) := rsh_any vars hv _ t w v (Nat.le_refl _) hN
end Go.Proofs.YtggffdkgfgdaoaaDoor
