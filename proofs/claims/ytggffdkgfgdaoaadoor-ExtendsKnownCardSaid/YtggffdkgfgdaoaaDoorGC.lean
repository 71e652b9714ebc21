/- guards.shaped 80. guards.typed 81. guards.letter 76, digit 84, part 78, reserved 77, named 68. Maps that are sets: keys with the value true; keys that are strings. Variables: as lists, and in memory; what CheckVars says of them. guards.CheckVars 56. guards.CheckValues 37. -/
import Derived.Test.YtggffdkgfgdaoaaDoorGB
import Derived.StringKeys
namespace Go.Proofs.YtggffdkgfgdaoaaDoor
open Go.RowKit
set_option linter.unusedVariables false
set_option linter.unusedSimpArgs false
attribute [local go_sem] Oper.quietV quietV Oper.gives givesV ext_refl_iff ext_alloc_iff ext_drew_iff ext_drewN_iff
theorem shap_take (vars : Nat) : ∀ (ts : List Tr) (i : Nat) (s : Tr), ts[i]? = some s → shapTs vars (ts.take (i + 1)) = (shapTs vars (ts.take i) && shapT vars s)
  | [], i, s, h => by simp at h
  | t :: l, 0, s, h => by simp at h; subst h; simp [shapTs]
  | t :: l, i + 1, s, h => by
    have := shap_take vars l i s (by simpa using h)
    simp only [List.take_succ_cons, shapTs, this, Bool.and_assoc]
def BoolP (w : World) (r : Bool) (e : Ending) (w' : World) : Prop := e = .returned (.bool r) ∧ Ext w w'
def ShapS (vars k : Nat) : Prop := ∀ (t : Tr) (w : World) (v : Value), SizeOf.sizeOf t ≤ k → NodeV w t v → OpsTab w → Calls Tryd.prog 80 #[v, .int .i64 (vars : Int)] w (BoolP w (shapT vars t))
set_option maxRecDepth 100000 in
set_option maxHeartbeats 16000000 in
theorem shap_step (vars k : Nat) (hvars : vars ≤ 1000) (IH : ShapS vars k) : ShapS vars (k + 1) := by
  intro t w v hk hN hT
  obtain ⟨hop, A, cs, vs, rfl, hvl, hcs, hsub, hnc, hnm⟩ := hN.form
  unfold lenMax at hnm
  have HX := Lib.hid (And.intro hsub (And.intro hT (And.intro hcs (And.intro hvl IH))))
  have hsz : ∀ s ∈ t.subs, SizeOf.sizeOf s ≤ k := fun s h => by have := Tr.sub_lt h; omega
  have HSZ := Lib.hid hsz
  obtain ⟨r, hr⟩ : ∃ r, r = shapT vars t := ⟨_, rfl⟩
  rw [← hr]
  rw [shapT_eq] at hr
  have HR0 := Lib.hid hr
  generalize t.op = op at *
  generalize t.n = n at *
  generalize t.subs = ts at *
  clear hk hN hT hsub hcs hvl IH hsz hr
  go_enter Tryd.func80, Tryd.ntmps80
  go_upto_region 1 with fail
  refine wp_named ?_
  intro W1 hW1
  have hE1 : Ext w W1 := by rw [hW1]; first | exact (Ext.refl _).alloc _ | exact ((Ext.refl _).alloc _).drew
  have k0 : ∀ w', Ext W1 w' → w'.cell? ⟨w.heap.size, 0, none⟩ = some (.int .u8 (op : Int)) := fun w' h => h.cell (by rw [hW1]; simp [go_sem])
  have k1 : ∀ w', Ext W1 w' → w'.cell? ⟨w.heap.size, 1, none⟩ = some (.int .i64 n) := fun w' h => h.cell (by rw [hW1]; simp [go_sem])
  have k2 : ∀ w', Ext W1 w' → w'.cell? ⟨w.heap.size, 2, none⟩ = some (.slice A ts.length cs) := fun w' h => h.cell (by rw [hW1]; simp [go_sem])
  clear hW1
  generalize w.heap.size = b2 at *
  have hE0 := Ext.refl W1
  have HE1 := Lib.hid hE1
  by_cases h12 : (12 : Int) ≤ op
  · have HR : Hid (r = false) := Lib.hid (by rw [HR0.out]; unfold ownOk; rw [decide_eq_false (show ¬ op < 12 by omega)]; rfl)
    clear hE1 HR0
    go_quiet (fail)
    go_wp2
    go_ret
    exact ⟨by rw [HR.out]; rfl, HE1.out.trans ((Ext.refl _).drewN _)⟩
  have HOP : Hid (op < 12) := Lib.hid (by omega)
  have c6 := fun w' (h : Ext W1 w') => h.cell ((HX.out.2.1.ext hE1) op (by omega)).1
  have h12b : (op : Int) < 12 := by omega
  by_cases hsn : (ts.length : Int) = subsN op
  · by_cases hn0 : n < 0
    · have HR : Hid (r = false) := Lib.hid (by rw [HR0.out]; unfold ownOk; rw [decide_eq_false (show ¬ 0 ≤ n by omega)]; simp)
      clear hE1 HR0
      rw [← hsn] at c6
      go_quiet (fail)
      go_wp2
      go_ret
      exact ⟨by rw [HR.out]; first | rfl | exact congrArg (fun b => Ending.returned (.bool b)) decide_eq_true hn0, HE1.out.trans ((Ext.refl _).drewN _)⟩
    · rw [← hsn] at c6
      by_cases hz : op = 0
      · have HMO : Hid (mostN op vars = 2147483648) := Lib.hid (by rw [hz]; rfl)
        have g0 : ((op : Int) == 0) = true := by rw [hz]; rfl
        clear hz
        by_cases hbig : 2147483648 < n
        · have HR : Hid (r = false) := Lib.hid (by rw [HR0.out]; unfold ownOk; rw [HMO.out, decide_eq_false (show ¬ n ≤ 2147483648 by omega)]; simp)
          clear hE1 HR0
          go_quiet (fail)
          go_wp2
          go_ret
          exact ⟨by rw [HR.out]; rfl, HE1.out.trans ((Ext.refl _).drewN _)⟩
        have HR1 : Hid (r = shapTs vars ts) := Lib.hid (by rw [HR0.out]; unfold ownOk; rw [HMO.out, decide_eq_true HOP.out, decide_eq_true hsn, decide_eq_true (show 0 ≤ n by omega), decide_eq_true (show n ≤ 2147483648 by omega)]; rfl)
        clear hE1 HR0
        go_quiet (fail)
        go_wp2
        go_loopw [43] (fun iv wr => ∃ i : Nat, iv = .int .i64 i ∧ i ≤ ts.length ∧ Hid (shapTs vars (ts.take i) = true) ∧ Hid (Ext W1 wr)) (fun iv _ => ts.length - (intOf iv).toNat)
        case atStart => exact ⟨0, by first | rfl | simp, Nat.zero_le _, Lib.hid (by simp [shapTs]), Lib.hid ((Ext.refl _).drewN _)⟩
        case round =>
          clear k0 k1 k2 c6
          obtain ⟨i, rfl, hi, HF, HW⟩ := hrel
          obtain ⟨W5, hW5⟩ : ∃ W, W = wr := ⟨_, rfl⟩; subst hW5
          have hwE := HE1.out.trans HW.out
          have hR5 := Ext.refl W5
          by_cases hlt : i < ts.length
          · have hlI : (i : Int) < (ts.length : Int) := by omega
            obtain ⟨s, hsi⟩ : ∃ s, ts[i]? = some s := ⟨_, List.getElem?_eq_getElem hlt⟩
            obtain ⟨bs, os, p, m, q, hA, d0, d1, d2, hns⟩ := sub_at HX.out.2.2.2.1 HX.out.2.2.1 HX.out.1 hsi
            subst hA
            have d0 := fun w' (h : Ext W5 w') => (hwE.trans h).cell d0
            have d1 := fun w' (h : Ext W5 w') => (hwE.trans h).cell d1
            have d2 := fun w' (h : Ext W5 w') => (hwE.trans h).cell d2
            obtain ⟨_, A9, cs9, vs9, hq9, _⟩ := hns.form
            have hq : q = .slice A9 s.subs.length cs9 := by
              have h9 := congrArg (fun v => match v with | Value.agg cs => cs[2]? | _ => none) hq9
              simpa using h9
            subst hq
            clear hq9
            have hcl := HX.out.2.2.2.2 s (W5.alloc (.cells #[.int .u8 (p : Int), .int .i64 m, .slice A9 s.subs.length cs9] 68)) _ (HSZ.out s (List.mem_of_getElem? hsi)) (hns.ext (hwE.trans (alloc_ext W5 _))) (HX.out.2.1.ext (hwE.trans (alloc_ext W5 _)))
            unfold BoolP at hcl
            obtain ⟨r2, hr2⟩ : ∃ r : Bool, r = shapT vars s := ⟨_, rfl⟩
            rw [← hr2] at hcl
            have HST := Lib.hid (shap_take vars ts i s hsi)
            have HR2 := Lib.hid hr2
            have HSI := Lib.hid hsi
            have HW5 := Lib.hid (hwE.trans (alloc_ext W5 (.cells #[.int .u8 (p : Int), .int .i64 m, .slice A9 s.subs.length cs9] 68)))
            clear hsi hns hr2
            cases r2 with
            | false =>
              have HR : Hid (r = false) := Lib.hid (by
                rw [HR1.out]
                cases hall : shapTs vars ts with
                | false => rfl
                | true => exact absurd ((shap_sub hall HSI.out).symm.trans HR2.out.symm) (by decide))
              go_upto_region 17 with ((with_reducible refine hcl.mono ?_); rintro e W8 ⟨rfl, e8⟩)
              go_ret
              exact ⟨by rw [HR.out]; rfl, HW5.out.trans e8⟩
            | true =>
              go_upto_region 17 with ((with_reducible refine hcl.mono ?_); rintro e W8 ⟨rfl, e8⟩)
              refine ⟨⟨i + 1, by go_num, hlt, Lib.hid (by rw [HST.out, HF.out, ← HR2.out]; rfl), Lib.hid ((HW.out.trans (alloc_ext W5 _)).trans e8)⟩, ?_⟩
              simp [intOf]; omega
          · have hie : i = ts.length := by omega
            subst hie
            have hlt2 : ¬ (ts.length : Int) < (ts.length : Int) := by omega
            have HR : Hid (r = true) := Lib.hid (by rw [HR1.out]; have := HF.out; rwa [List.take_length] at this)
            go_wp2
            go_ret
            exact ⟨by rw [HR.out]; rfl, hwE⟩
      · have g0 : ((op : Int) == 0) = false := beq_eq_false_iff_ne.2 (by omega)
        by_cases hy : op = 1
        · have HMO : Hid (mostN op vars = (vars : Int) - 1) := Lib.hid (by rw [hy]; rfl)
          have g1 : ((op : Int) == 1) = true := by rw [hy]; rfl
          clear hz hy
          by_cases hbig : (vars : Int) - 1 < n
          · have HR : Hid (r = false) := Lib.hid (by rw [HR0.out]; unfold ownOk; rw [HMO.out, decide_eq_false (show ¬ n ≤ (vars : Int) - 1 by omega)]; simp)
            clear hE1 HR0
            go_quiet (fail)
            go_wp2
            go_ret
            exact ⟨by rw [HR.out]; rfl, HE1.out.trans ((Ext.refl _).drewN _)⟩
          have HR1 : Hid (r = shapTs vars ts) := Lib.hid (by rw [HR0.out]; unfold ownOk; rw [HMO.out, decide_eq_true HOP.out, decide_eq_true hsn, decide_eq_true (show 0 ≤ n by omega), decide_eq_true (show n ≤ (vars : Int) - 1 by omega)]; rfl)
          clear hE1 HR0
          go_quiet (fail)
          go_wp2
          go_loopw [43] (fun iv wr => ∃ i : Nat, iv = .int .i64 i ∧ i ≤ ts.length ∧ Hid (shapTs vars (ts.take i) = true) ∧ Hid (Ext W1 wr)) (fun iv _ => ts.length - (intOf iv).toNat)
          case atStart => exact ⟨0, by first | rfl | simp, Nat.zero_le _, Lib.hid (by simp [shapTs]), Lib.hid ((Ext.refl _).drewN _)⟩
          case round =>
            clear k0 k1 k2 c6
            obtain ⟨i, rfl, hi, HF, HW⟩ := hrel
            obtain ⟨W5, hW5⟩ : ∃ W, W = wr := ⟨_, rfl⟩; subst hW5
            have hwE := HE1.out.trans HW.out
            have hR5 := Ext.refl W5
            by_cases hlt : i < ts.length
            · have hlI : (i : Int) < (ts.length : Int) := by omega
              obtain ⟨s, hsi⟩ : ∃ s, ts[i]? = some s := ⟨_, List.getElem?_eq_getElem hlt⟩
              obtain ⟨bs, os, p, m, q, hA, d0, d1, d2, hns⟩ := sub_at HX.out.2.2.2.1 HX.out.2.2.1 HX.out.1 hsi
              subst hA
              have d0 := fun w' (h : Ext W5 w') => (hwE.trans h).cell d0
              have d1 := fun w' (h : Ext W5 w') => (hwE.trans h).cell d1
              have d2 := fun w' (h : Ext W5 w') => (hwE.trans h).cell d2
              obtain ⟨_, A9, cs9, vs9, hq9, _⟩ := hns.form
              have hq : q = .slice A9 s.subs.length cs9 := by
                have h9 := congrArg (fun v => match v with | Value.agg cs => cs[2]? | _ => none) hq9
                simpa using h9
              subst hq
              clear hq9
              have hcl := HX.out.2.2.2.2 s (W5.alloc (.cells #[.int .u8 (p : Int), .int .i64 m, .slice A9 s.subs.length cs9] 68)) _ (HSZ.out s (List.mem_of_getElem? hsi)) (hns.ext (hwE.trans (alloc_ext W5 _))) (HX.out.2.1.ext (hwE.trans (alloc_ext W5 _)))
              unfold BoolP at hcl
              obtain ⟨r2, hr2⟩ : ∃ r : Bool, r = shapT vars s := ⟨_, rfl⟩
              rw [← hr2] at hcl
              have HST := Lib.hid (shap_take vars ts i s hsi)
              have HR2 := Lib.hid hr2
              have HSI := Lib.hid hsi
              have HW5 := Lib.hid (hwE.trans (alloc_ext W5 (.cells #[.int .u8 (p : Int), .int .i64 m, .slice A9 s.subs.length cs9] 68)))
              clear hsi hns hr2
              cases r2 with
              | false =>
                have HR : Hid (r = false) := Lib.hid (by
                  rw [HR1.out]
                  cases hall : shapTs vars ts with
                  | false => rfl
                  | true => exact absurd ((shap_sub hall HSI.out).symm.trans HR2.out.symm) (by decide))
                go_upto_region 17 with ((with_reducible refine hcl.mono ?_); rintro e W8 ⟨rfl, e8⟩)
                go_ret
                exact ⟨by rw [HR.out]; rfl, HW5.out.trans e8⟩
              | true =>
                go_upto_region 17 with ((with_reducible refine hcl.mono ?_); rintro e W8 ⟨rfl, e8⟩)
                refine ⟨⟨i + 1, by go_num, hlt, Lib.hid (by rw [HST.out, HF.out, ← HR2.out]; rfl), Lib.hid ((HW.out.trans (alloc_ext W5 _)).trans e8)⟩, ?_⟩
                simp [intOf]; omega
            · have hie : i = ts.length := by omega
              subst hie
              have hlt2 : ¬ (ts.length : Int) < (ts.length : Int) := by omega
              have HR : Hid (r = true) := Lib.hid (by rw [HR1.out]; have := HF.out; rwa [List.take_length] at this)
              go_wp2
              go_ret
              exact ⟨by rw [HR.out]; rfl, hwE⟩
        · have HMO : Hid (mostN op vars = 0) := Lib.hid (by unfold mostN; rw [if_neg hz, if_neg hy])
          have g1 : ((op : Int) == 1) = false := beq_eq_false_iff_ne.2 (by omega)
          clear hz hy
          by_cases hbig : 0 < n
          · have HR : Hid (r = false) := Lib.hid (by rw [HR0.out]; unfold ownOk; rw [HMO.out, decide_eq_false (show ¬ n ≤ 0 by omega)]; simp)
            clear hE1 HR0
            go_quiet (fail)
            go_wp2
            go_ret
            exact ⟨by rw [HR.out]; rfl, HE1.out.trans ((Ext.refl _).drewN _)⟩
          have HR1 : Hid (r = shapTs vars ts) := Lib.hid (by rw [HR0.out]; unfold ownOk; rw [HMO.out, decide_eq_true HOP.out, decide_eq_true hsn, decide_eq_true (show 0 ≤ n by omega), decide_eq_true (show n ≤ 0 by omega)]; rfl)
          clear hE1 HR0
          go_quiet (fail)
          go_wp2
          go_loopw [43] (fun iv wr => ∃ i : Nat, iv = .int .i64 i ∧ i ≤ ts.length ∧ Hid (shapTs vars (ts.take i) = true) ∧ Hid (Ext W1 wr)) (fun iv _ => ts.length - (intOf iv).toNat)
          case atStart => exact ⟨0, by first | rfl | simp, Nat.zero_le _, Lib.hid (by simp [shapTs]), Lib.hid ((Ext.refl _).drewN _)⟩
          case round =>
            clear k0 k1 k2 c6
            obtain ⟨i, rfl, hi, HF, HW⟩ := hrel
            obtain ⟨W5, hW5⟩ : ∃ W, W = wr := ⟨_, rfl⟩; subst hW5
            have hwE := HE1.out.trans HW.out
            have hR5 := Ext.refl W5
            by_cases hlt : i < ts.length
            · have hlI : (i : Int) < (ts.length : Int) := by omega
              obtain ⟨s, hsi⟩ : ∃ s, ts[i]? = some s := ⟨_, List.getElem?_eq_getElem hlt⟩
              obtain ⟨bs, os, p, m, q, hA, d0, d1, d2, hns⟩ := sub_at HX.out.2.2.2.1 HX.out.2.2.1 HX.out.1 hsi
              subst hA
              have d0 := fun w' (h : Ext W5 w') => (hwE.trans h).cell d0
              have d1 := fun w' (h : Ext W5 w') => (hwE.trans h).cell d1
              have d2 := fun w' (h : Ext W5 w') => (hwE.trans h).cell d2
              obtain ⟨_, A9, cs9, vs9, hq9, _⟩ := hns.form
              have hq : q = .slice A9 s.subs.length cs9 := by
                have h9 := congrArg (fun v => match v with | Value.agg cs => cs[2]? | _ => none) hq9
                simpa using h9
              subst hq
              clear hq9
              have hcl := HX.out.2.2.2.2 s (W5.alloc (.cells #[.int .u8 (p : Int), .int .i64 m, .slice A9 s.subs.length cs9] 68)) _ (HSZ.out s (List.mem_of_getElem? hsi)) (hns.ext (hwE.trans (alloc_ext W5 _))) (HX.out.2.1.ext (hwE.trans (alloc_ext W5 _)))
              unfold BoolP at hcl
              obtain ⟨r2, hr2⟩ : ∃ r : Bool, r = shapT vars s := ⟨_, rfl⟩
              rw [← hr2] at hcl
              have HST := Lib.hid (shap_take vars ts i s hsi)
              have HR2 := Lib.hid hr2
              have HSI := Lib.hid hsi
              have HW5 := Lib.hid (hwE.trans (alloc_ext W5 (.cells #[.int .u8 (p : Int), .int .i64 m, .slice A9 s.subs.length cs9] 68)))
              clear hsi hns hr2
              cases r2 with
              | false =>
                have HR : Hid (r = false) := Lib.hid (by
                  rw [HR1.out]
                  cases hall : shapTs vars ts with
                  | false => rfl
                  | true => exact absurd ((shap_sub hall HSI.out).symm.trans HR2.out.symm) (by decide))
                go_upto_region 17 with ((with_reducible refine hcl.mono ?_); rintro e W8 ⟨rfl, e8⟩)
                go_ret
                exact ⟨by rw [HR.out]; rfl, HW5.out.trans e8⟩
              | true =>
                go_upto_region 17 with ((with_reducible refine hcl.mono ?_); rintro e W8 ⟨rfl, e8⟩)
                refine ⟨⟨i + 1, by go_num, hlt, Lib.hid (by rw [HST.out, HF.out, ← HR2.out]; rfl), Lib.hid ((HW.out.trans (alloc_ext W5 _)).trans e8)⟩, ?_⟩
                simp [intOf]; omega
            · have hie : i = ts.length := by omega
              subst hie
              have hlt2 : ¬ (ts.length : Int) < (ts.length : Int) := by omega
              have HR : Hid (r = true) := Lib.hid (by rw [HR1.out]; have := HF.out; rwa [List.take_length] at this)
              go_wp2
              go_ret
              exact ⟨by rw [HR.out]; rfl, hwE⟩
  · have HR : Hid (r = false) := Lib.hid (by rw [HR0.out]; unfold ownOk; rw [decide_eq_false hsn]; simp)
    have hsn2 := beq_eq_false_iff_ne.2 hsn
    obtain ⟨sn, hsn9⟩ : ∃ sn, sn = subsN op := ⟨_, rfl⟩
    rw [← hsn9] at hsn hsn2 c6
    clear hE1 HR0 hsn9 h12
    have hsn3 : ((ts.length : Int) != sn) = true := bne_iff_ne.2 hsn
    have h12 : ¬ (12 : Int) ≤ op := by omega
    clear hE0 hsn hsn2
    go_quiet (fail)
    go_wp2
    go_ret
    exact ⟨by rw [HR.out]; first | rfl | exact congrArg (fun b => Ending.returned (.bool b)) rfl, HE1.out.trans ((Ext.refl _).drewN _)⟩
theorem shap_any (vars : Nat) (hv : vars ≤ 1000) : ∀ k, ShapS vars k
  | 0 => fun t _ _ h => by cases t; simp at h
  | k + 1 => shap_step vars k hv (shap_any vars hv k)
theorem shap_of {vars : Nat} (hv : vars ≤ 1000) {t : Tr} {w : World} {v : Value} (hN : NodeV w t v) (hT : OpsTab w) : Calls Tryd.prog 80 #[v, .int .i64 (vars : Int)] w (BoolP w (shapT vars t)) := shap_any vars hv _ t w v (Nat.le_refl _) hN hT
end Go.Proofs.YtggffdkgfgdaoaaDoor

namespace Go.Proofs.YtggffdkgfgdaoaaDoor
open Go.RowKit
set_option linter.unusedVariables false
set_option linter.unusedSimpArgs false
attribute [local go_sem] Oper.quietV quietV Oper.gives givesV ext_refl_iff ext_alloc_iff ext_drew_iff ext_drewN_iff
def EqP (u : Value) (v : Value) (w : World) : Prop := v = u
theorem stays_eqP (u : Value) : Stays Ext (EqP u) := fun v w w' _ h => h
theorem typ_take (nb : Bool) : ∀ (ts : List Tr) (i : Nat) (s : Tr), ts[i]? = some s → typTs nb (ts.take (i + 1)) = (typTs nb (ts.take i) && ((condT s != nb) && typT s))
  | [], i, s, h => by simp at h
  | t :: l, 0, s, h => by simp at h; subst h; simp [typTs]
  | t :: l, i + 1, s, h => by
    have := typ_take nb l i s (by simpa using h)
    simp only [List.take_succ_cons, typTs, this, Bool.and_assoc]
theorem typ_sub (nb : Bool) : ∀ {ts : List Tr} {i : Nat} {s : Tr}, typTs nb ts = true → ts[i]? = some s → ((condT s != nb) && typT s) = true
  | [], i, s, _, h => by simp at h
  | t :: l, 0, s, h, hi => by
    simp at hi; subst hi
    simp only [typTs, Bool.and_eq_true] at h
    rw [h.1.1, h.1.2]; rfl
  | t :: l, i + 1, s, h, hi => by
    simp only [typTs, Bool.and_eq_true] at h
    exact typ_sub nb h.2 (by simpa using hi)
def TypS (vars k : Nat) : Prop := ∀ (t : Tr) (w : World) (v : Value), SizeOf.sizeOf t ≤ k → NodeV w t v → OpsTab w → shapT vars t = true → Calls Tryd.prog 81 #[v] w (BoolP w (typT t))
set_option maxRecDepth 100000 in
set_option maxHeartbeats 16000000 in
theorem typ_step (vars k : Nat) (IH : TypS vars k) : TypS vars (k + 1) := by
  intro t w v hk hN hT hs
  obtain ⟨hop, A, cs, vs, rfl, hvl, hcs, hsub, hnc, hnm⟩ := hN.form
  obtain ⟨o1, o2, o3, o4, o5⟩ := own_of hs
  unfold lenMax at hnm
  have HX := Lib.hid (And.intro hsub (And.intro hT (And.intro hcs (And.intro hvl (And.intro o5 IH)))))
  have hsz : ∀ s ∈ t.subs, SizeOf.sizeOf s ≤ k := fun s h => by have := Tr.sub_lt h; omega
  have HSZ := Lib.hid hsz
  obtain ⟨r, hr⟩ : ∃ r, r = typT t := ⟨_, rfl⟩
  rw [← hr]
  rw [typT_eq] at hr
  obtain ⟨nb0, hnb⟩ : ∃ nb, nb = numsO t.op := ⟨_, rfl⟩
  rw [← hnb] at hr
  have HRT := Lib.hid hr
  have HNM := Lib.hid hnb
  generalize t.op = op at *
  generalize t.n = n at *
  generalize t.subs = ts at *
  clear hk hN hT hsub hcs hvl IH hsz hr o2 o3 o4 o5 hs hnb
  go_enter Tryd.func81, Tryd.ntmps81
  go_upto_region 1 with fail
  refine wp_named ?_
  intro W1 hW1
  have hE1 : Ext w W1 := by rw [hW1]; first | exact (Ext.refl _).alloc _ | exact ((Ext.refl _).alloc _).drew
  have k0 : ∀ w', Ext W1 w' → w'.cell? ⟨w.heap.size, 0, none⟩ = some (.int .u8 (op : Int)) := fun w' h => h.cell (by rw [hW1]; simp [go_sem])
  have k2 : ∀ w', Ext W1 w' → w'.cell? ⟨w.heap.size, 2, none⟩ = some (.slice A ts.length cs) := fun w' h => h.cell (by rw [hW1]; simp [go_sem])
  clear hW1
  generalize w.heap.size = b2 at *
  have hE0 := Ext.refl W1
  have HE1 := Lib.hid hE1
  have HK := Lib.hid k0
  have HC6 := Lib.hid (fun w' (h : Ext W1 w') => h.cell ((HX.out.2.1.ext hE1) op (by omega)).2.1)
  have h12b : (op : Int) < 12 := by omega
  clear hE1
  go_wp2
  go_loopw [8] (fun iv wr => ∃ i : Nat, iv = .int .i64 i ∧ i ≤ ts.length ∧ Hid (typTs nb0 (ts.take i) = true) ∧ Hid (Ext W1 wr)) (fun iv _ => ts.length - (intOf iv).toNat)
  case atStart => exact ⟨0, by first | rfl | simp, Nat.zero_le _, Lib.hid (by simp [typTs]), Lib.hid (Ext.refl _)⟩
  case round =>
    clear k0 k2
    obtain ⟨i, rfl, hi, HF, HW⟩ := hrel
    obtain ⟨W5, hW5⟩ : ∃ W, W = wr := ⟨_, rfl⟩; subst hW5
    have hwE := HE1.out.trans HW.out
    have hR5 := Ext.refl W5
    by_cases hlt : i < ts.length
    · have hlI : (i : Int) < (ts.length : Int) := by omega
      obtain ⟨s, hsi⟩ : ∃ s, ts[i]? = some s := ⟨_, List.getElem?_eq_getElem hlt⟩
      obtain ⟨bs, os, p, m, q, hA, d0, d1, d2, hns⟩ := sub_at HX.out.2.2.2.1 HX.out.2.2.1 HX.out.1 hsi
      subst hA
      have d0 := fun w' (h : Ext W5 w') => (hwE.trans h).cell d0
      have d1 := fun w' (h : Ext W5 w') => (hwE.trans h).cell d1
      have d2 := fun w' (h : Ext W5 w') => (hwE.trans h).cell d2
      obtain ⟨hop9, A9, cs9, vs9, hq9, _⟩ := hns.form
      have hq : q = .slice A9 s.subs.length cs9 := by
        have h9 := congrArg (fun v => match v with | Value.agg cs => cs[2]? | _ => none) hq9
        simpa using h9
      have hp : (p : Int) = (s.op : Int) := by
        have h9 := congrArg (fun v => match v with | Value.agg cs => cs[0]? | _ => none) hq9
        simpa using h9
      have hp2 : p = s.op := by omega
      have hcd := fun w' => cond_any w' p (by omega)
      subst hq
      have hW6 := alloc_ext W5 (.cells #[.int .u8 (p : Int), .int .i64 m, .slice A9 s.subs.length cs9] 68)
      have hcl := fun W' (e : Ext (W5.alloc (.cells #[.int .u8 (p : Int), .int .i64 m, .slice A9 s.subs.length cs9] 68)) W') => HX.out.2.2.2.2.2 s W' _ (HSZ.out s (List.mem_of_getElem? hsi)) (hns.ext ((hwE.trans hW6).trans e)) (HX.out.2.1.ext ((hwE.trans hW6).trans e)) (shap_sub HX.out.2.2.2.2.1 hsi)
      unfold BoolP at hcl
      obtain ⟨r2, hr2⟩ : ∃ r : Bool, r = typT s := ⟨_, rfl⟩
      rw [← hr2] at hcl
      obtain ⟨cb, hcb⟩ : ∃ r : Bool, r = decide (6 ≤ p) := ⟨_, rfl⟩
      rw [← hcb] at hcd
      have HST := Lib.hid (typ_take nb0 ts i s hsi)
      have HR2 := Lib.hid hr2
      have HCB : Hid (cb = condT s) := Lib.hid (by rw [hcb, hp2]; rfl)
      have HSI := Lib.hid hsi
      have HW5 := Lib.hid (hwE.trans hW6)
      have c6 := fun w' (h : Ext W5 w') => HC6.out w' (HW.out.trans h)
      have k0 := fun w' (h : Ext W5 w') => HK.out w' (HW.out.trans h)
      rw [← HNM.out] at c6
      obtain ⟨nb, hnb⟩ : ∃ nb, nb = nb0 := ⟨_, rfl⟩
      have HNB := Lib.hid hnb
      rw [← hnb] at c6
      clear hsi hns hr2 hcb hp hp2 hq9 hop9 hnb hW6
      go_upto_region 4 with fail
      refine wp_named ?_
      intro W6 hW6
      rw [← hW6] at hcl HW5
      have x0 : ∀ w', Ext W6 w' → w'.cell? ⟨W5.heap.size, 0, none⟩ = some (.int .u8 (p : Int)) := fun w' h => h.cell (by rw [hW6]; simp [go_sem])
      have x1 : ∀ w', Ext W6 w' → w'.cell? ⟨W5.heap.size, 1, none⟩ = some (.int .i64 m) := fun w' h => h.cell (by rw [hW6]; simp [go_sem])
      have x2 : ∀ w', Ext W6 w' → w'.cell? ⟨W5.heap.size, 2, none⟩ = some (.slice A9 s.subs.length cs9) := fun w' h => h.cell (by rw [hW6]; simp [go_sem])
      have hE56 : Ext W5 W6 := by rw [hW6]; exact alloc_ext _ _
      have c6 := fun w' (h : Ext W6 w') => c6 w' (hE56.trans h)
      have k0 := fun w' (h : Ext W6 w') => k0 w' (hE56.trans h)
      have HW := Lib.hid (HW.out.trans hE56)
      clear hW6 hE56 d0 d1 d2 hwE
      generalize W5.heap.size = b4 at *
      have hR6 := Ext.refl W6
      cases cb with
      | false => cases nb with
        | false =>
          have HR : Hid (r = false) := Lib.hid (by
            rw [HRT.out]
            cases hall : typTs nb0 ts with
            | false => rfl
            | true =>
              have h9 := typ_sub nb0 hall HSI.out
              rw [← HCB.out, ← HNB.out] at h9
              exact absurd h9 (by simp))
          refine wp_region_ext 8 (factsOf [(2, EqP (.bool false))]) (fun k => ([[], [0], [0, 1], [], [3], [3, 4], [3, 4, 5], [3, 4, 5, 6], [0, 1, 2, 3, 4, 5, 6, 7], [0, 1, 2, 3, 4, 5, 6, 7, 8], [0, 1, 2, 3, 4, 5, 6, 7, 8, 9], [0, 1, 2, 3, 4, 5, 6, 7, 8, 9, 10], [0, 1, 2, 3, 4, 5, 6, 7, 8, 9, 10, 11], [0, 1, 2, 3, 4, 5, 6, 7, 8, 9, 10, 11, 12]] : List (List Nat)).getD k []) (by kernel_rfl) (by kernel_rfl) Ext.pre (mono_cons (stays_eqP _) (mono_nil)) ?_
          simp only [List.take_succ_cons, List.take_zero]
          repeat (first | (with_reducible refine lexL_quiet' (v := ?_) ?_ ?_ ?_ ?_; rotate_left; (· with_reducible rfl); (· simp [factsOf]); (· intro w1 hw1 _; go_simp; with_reducible rfl); (try simp only [Act.put, List.setIfInBounds_toArray, List.set_cons_zero, List.set_cons_succ])) | (with_reducible refine lexL_skip ?_ ?_; (· simp [Region.wanted, yielded, undef]); (try simp only [Act.put, List.setIfInBounds_toArray, List.set_cons_zero, List.set_cons_succ])) | (with_reducible refine lexL_quiet (v := ?_) ?_ ?_ ?_ ?_; rotate_left; (· simp [Region.wanted, yielded, undef]); (· simp [factsOf]); (· intro w1 hw1 _; go_simp; with_reducible rfl); (try simp only [Act.put, List.setIfInBounds_toArray, List.set_cons_zero, List.set_cons_succ])))
          with_reducible refine lexL_give' (φ := ?_) ?_ ?_ ?_ ?_; rotate_left; (· with_reducible rfl); (· simp only [factsOf, Nat.reduceAdd, ↓reduceIte, Nat.reduceEqDiff]; rfl)
          · intro w5 hw5 hk5
            go_simp
            refine (hcd w5).mono ?_
            rintro e w6 ⟨rfl, rfl⟩
            exact ⟨_, rfl, Ext.refl _, rfl⟩
          rintro v9 w5 hw5 hv9 hk2
          unfold EqP at hv9
          subst hv9
          clear hk2 hw5 w5
          (try simp only [Act.put, List.setIfInBounds_toArray, List.set_cons_zero, List.set_cons_succ])
          repeat (first | (with_reducible refine lexL_quiet' (v := ?_) ?_ ?_ ?_ ?_; rotate_left; (· with_reducible rfl); (· simp [factsOf]); (· intro w1 hw1 _; go_simp; with_reducible rfl); (try simp only [Act.put, List.setIfInBounds_toArray, List.set_cons_zero, List.set_cons_succ])) | (with_reducible refine lexL_skip ?_ ?_; (· simp [Region.wanted, yielded, undef]); (try simp only [Act.put, List.setIfInBounds_toArray, List.set_cons_zero, List.set_cons_succ])) | (with_reducible refine lexL_quiet (v := ?_) ?_ ?_ ?_ ?_; rotate_left; (· simp [Region.wanted, yielded, undef]); (· simp [factsOf]); (· intro w1 hw1 _; go_simp; with_reducible rfl); (try simp only [Act.put, List.setIfInBounds_toArray, List.set_cons_zero, List.set_cons_succ])))
          with_reducible refine lexL_nil ?_; intro w1 hw1 hk1; simp only [List.drop_succ_cons, List.drop_zero]
          go_wp2
          go_ret
          exact ⟨by rw [HR.out]; rfl, HW5.out.trans hw1⟩
        | true =>
          refine wp_region_ext 8 (factsOf [(2, EqP (.bool false))]) (fun k => ([[], [0], [0, 1], [], [3], [3, 4], [3, 4, 5], [3, 4, 5, 6], [0, 1, 2, 3, 4, 5, 6, 7], [0, 1, 2, 3, 4, 5, 6, 7, 8], [0, 1, 2, 3, 4, 5, 6, 7, 8, 9], [0, 1, 2, 3, 4, 5, 6, 7, 8, 9, 10], [0, 1, 2, 3, 4, 5, 6, 7, 8, 9, 10, 11], [0, 1, 2, 3, 4, 5, 6, 7, 8, 9, 10, 11, 12]] : List (List Nat)).getD k []) (by kernel_rfl) (by kernel_rfl) Ext.pre (mono_cons (stays_eqP _) (mono_nil)) ?_
          simp only [List.take_succ_cons, List.take_zero]
          repeat (first | (with_reducible refine lexL_quiet' (v := ?_) ?_ ?_ ?_ ?_; rotate_left; (· with_reducible rfl); (· simp [factsOf]); (· intro w1 hw1 _; go_simp; with_reducible rfl); (try simp only [Act.put, List.setIfInBounds_toArray, List.set_cons_zero, List.set_cons_succ])) | (with_reducible refine lexL_skip ?_ ?_; (· simp [Region.wanted, yielded, undef]); (try simp only [Act.put, List.setIfInBounds_toArray, List.set_cons_zero, List.set_cons_succ])) | (with_reducible refine lexL_quiet (v := ?_) ?_ ?_ ?_ ?_; rotate_left; (· simp [Region.wanted, yielded, undef]); (· simp [factsOf]); (· intro w1 hw1 _; go_simp; with_reducible rfl); (try simp only [Act.put, List.setIfInBounds_toArray, List.set_cons_zero, List.set_cons_succ])))
          with_reducible refine lexL_give' (φ := ?_) ?_ ?_ ?_ ?_; rotate_left; (· with_reducible rfl); (· simp only [factsOf, Nat.reduceAdd, ↓reduceIte, Nat.reduceEqDiff]; rfl)
          · intro w5 hw5 hk5
            go_simp
            refine (hcd w5).mono ?_
            rintro e w6 ⟨rfl, rfl⟩
            exact ⟨_, rfl, Ext.refl _, rfl⟩
          rintro v9 w5 hw5 hv9 hk2
          unfold EqP at hv9
          subst hv9
          clear hk2 hw5 w5
          (try simp only [Act.put, List.setIfInBounds_toArray, List.set_cons_zero, List.set_cons_succ])
          repeat (first | (with_reducible refine lexL_quiet' (v := ?_) ?_ ?_ ?_ ?_; rotate_left; (· with_reducible rfl); (· simp [factsOf]); (· intro w1 hw1 _; go_simp; with_reducible rfl); (try simp only [Act.put, List.setIfInBounds_toArray, List.set_cons_zero, List.set_cons_succ])) | (with_reducible refine lexL_skip ?_ ?_; (· simp [Region.wanted, yielded, undef]); (try simp only [Act.put, List.setIfInBounds_toArray, List.set_cons_zero, List.set_cons_succ])) | (with_reducible refine lexL_quiet (v := ?_) ?_ ?_ ?_ ?_; rotate_left; (· simp [Region.wanted, yielded, undef]); (· simp [factsOf]); (· intro w1 hw1 _; go_simp; with_reducible rfl); (try simp only [Act.put, List.setIfInBounds_toArray, List.set_cons_zero, List.set_cons_succ])))
          with_reducible refine lexL_nil ?_; intro w1 hw1 hk1; simp only [List.drop_succ_cons, List.drop_zero]
          have hcl1 := hcl w1 hw1
          cases r2 with
          | false =>
            have HR : Hid (r = false) := Lib.hid (by
              rw [HRT.out]
              cases hall : typTs nb0 ts with
              | false => rfl
              | true =>
                have h9 := typ_sub nb0 hall HSI.out
                rw [← HR2.out] at h9
                exact absurd h9 (by simp))
            go_upto_region 7 with ((with_reducible refine hcl1.mono ?_); rintro e W8 ⟨rfl, e8⟩)
            go_ret
            exact ⟨by rw [HR.out]; rfl, HW5.out.trans (hw1.trans e8)⟩
          | true =>
            go_upto_region 7 with ((with_reducible refine hcl1.mono ?_); rintro e W8 ⟨rfl, e8⟩)
            refine ⟨⟨i + 1, by go_num, hlt, Lib.hid (by rw [HST.out, HF.out, ← HR2.out, ← HCB.out, ← HNB.out]; rfl), Lib.hid (HW.out.trans (hw1.trans e8))⟩, ?_⟩
            simp [intOf]; omega
      | true => cases nb with
        | false =>
          refine wp_region_ext 8 (factsOf [(2, EqP (.bool true))]) (fun k => ([[], [0], [0, 1], [], [3], [3, 4], [3, 4, 5], [3, 4, 5, 6], [0, 1, 2, 3, 4, 5, 6, 7], [0, 1, 2, 3, 4, 5, 6, 7, 8], [0, 1, 2, 3, 4, 5, 6, 7, 8, 9], [0, 1, 2, 3, 4, 5, 6, 7, 8, 9, 10], [0, 1, 2, 3, 4, 5, 6, 7, 8, 9, 10, 11], [0, 1, 2, 3, 4, 5, 6, 7, 8, 9, 10, 11, 12]] : List (List Nat)).getD k []) (by kernel_rfl) (by kernel_rfl) Ext.pre (mono_cons (stays_eqP _) (mono_nil)) ?_
          simp only [List.take_succ_cons, List.take_zero]
          repeat (first | (with_reducible refine lexL_quiet' (v := ?_) ?_ ?_ ?_ ?_; rotate_left; (· with_reducible rfl); (· simp [factsOf]); (· intro w1 hw1 _; go_simp; with_reducible rfl); (try simp only [Act.put, List.setIfInBounds_toArray, List.set_cons_zero, List.set_cons_succ])) | (with_reducible refine lexL_skip ?_ ?_; (· simp [Region.wanted, yielded, undef]); (try simp only [Act.put, List.setIfInBounds_toArray, List.set_cons_zero, List.set_cons_succ])) | (with_reducible refine lexL_quiet (v := ?_) ?_ ?_ ?_ ?_; rotate_left; (· simp [Region.wanted, yielded, undef]); (· simp [factsOf]); (· intro w1 hw1 _; go_simp; with_reducible rfl); (try simp only [Act.put, List.setIfInBounds_toArray, List.set_cons_zero, List.set_cons_succ])))
          with_reducible refine lexL_give' (φ := ?_) ?_ ?_ ?_ ?_; rotate_left; (· with_reducible rfl); (· simp only [factsOf, Nat.reduceAdd, ↓reduceIte, Nat.reduceEqDiff]; rfl)
          · intro w5 hw5 hk5
            go_simp
            refine (hcd w5).mono ?_
            rintro e w6 ⟨rfl, rfl⟩
            exact ⟨_, rfl, Ext.refl _, rfl⟩
          rintro v9 w5 hw5 hv9 hk2
          unfold EqP at hv9
          subst hv9
          clear hk2 hw5 w5
          (try simp only [Act.put, List.setIfInBounds_toArray, List.set_cons_zero, List.set_cons_succ])
          repeat (first | (with_reducible refine lexL_quiet' (v := ?_) ?_ ?_ ?_ ?_; rotate_left; (· with_reducible rfl); (· simp [factsOf]); (· intro w1 hw1 _; go_simp; with_reducible rfl); (try simp only [Act.put, List.setIfInBounds_toArray, List.set_cons_zero, List.set_cons_succ])) | (with_reducible refine lexL_skip ?_ ?_; (· simp [Region.wanted, yielded, undef]); (try simp only [Act.put, List.setIfInBounds_toArray, List.set_cons_zero, List.set_cons_succ])) | (with_reducible refine lexL_quiet (v := ?_) ?_ ?_ ?_ ?_; rotate_left; (· simp [Region.wanted, yielded, undef]); (· simp [factsOf]); (· intro w1 hw1 _; go_simp; with_reducible rfl); (try simp only [Act.put, List.setIfInBounds_toArray, List.set_cons_zero, List.set_cons_succ])))
          with_reducible refine lexL_nil ?_; intro w1 hw1 hk1; simp only [List.drop_succ_cons, List.drop_zero]
          have hcl1 := hcl w1 hw1
          cases r2 with
          | false =>
            have HR : Hid (r = false) := Lib.hid (by
              rw [HRT.out]
              cases hall : typTs nb0 ts with
              | false => rfl
              | true =>
                have h9 := typ_sub nb0 hall HSI.out
                rw [← HR2.out] at h9
                exact absurd h9 (by simp))
            go_upto_region 7 with ((with_reducible refine hcl1.mono ?_); rintro e W8 ⟨rfl, e8⟩)
            go_ret
            exact ⟨by rw [HR.out]; rfl, HW5.out.trans (hw1.trans e8)⟩
          | true =>
            go_upto_region 7 with ((with_reducible refine hcl1.mono ?_); rintro e W8 ⟨rfl, e8⟩)
            refine ⟨⟨i + 1, by go_num, hlt, Lib.hid (by rw [HST.out, HF.out, ← HR2.out, ← HCB.out, ← HNB.out]; rfl), Lib.hid (HW.out.trans (hw1.trans e8))⟩, ?_⟩
            simp [intOf]; omega
        | true =>
          have HR : Hid (r = false) := Lib.hid (by
            rw [HRT.out]
            cases hall : typTs nb0 ts with
            | false => rfl
            | true =>
              have h9 := typ_sub nb0 hall HSI.out
              rw [← HCB.out, ← HNB.out] at h9
              exact absurd h9 (by simp))
          refine wp_region_ext 8 (factsOf [(2, EqP (.bool true))]) (fun k => ([[], [0], [0, 1], [], [3], [3, 4], [3, 4, 5], [3, 4, 5, 6], [0, 1, 2, 3, 4, 5, 6, 7], [0, 1, 2, 3, 4, 5, 6, 7, 8], [0, 1, 2, 3, 4, 5, 6, 7, 8, 9], [0, 1, 2, 3, 4, 5, 6, 7, 8, 9, 10], [0, 1, 2, 3, 4, 5, 6, 7, 8, 9, 10, 11], [0, 1, 2, 3, 4, 5, 6, 7, 8, 9, 10, 11, 12]] : List (List Nat)).getD k []) (by kernel_rfl) (by kernel_rfl) Ext.pre (mono_cons (stays_eqP _) (mono_nil)) ?_
          simp only [List.take_succ_cons, List.take_zero]
          repeat (first | (with_reducible refine lexL_quiet' (v := ?_) ?_ ?_ ?_ ?_; rotate_left; (· with_reducible rfl); (· simp [factsOf]); (· intro w1 hw1 _; go_simp; with_reducible rfl); (try simp only [Act.put, List.setIfInBounds_toArray, List.set_cons_zero, List.set_cons_succ])) | (with_reducible refine lexL_skip ?_ ?_; (· simp [Region.wanted, yielded, undef]); (try simp only [Act.put, List.setIfInBounds_toArray, List.set_cons_zero, List.set_cons_succ])) | (with_reducible refine lexL_quiet (v := ?_) ?_ ?_ ?_ ?_; rotate_left; (· simp [Region.wanted, yielded, undef]); (· simp [factsOf]); (· intro w1 hw1 _; go_simp; with_reducible rfl); (try simp only [Act.put, List.setIfInBounds_toArray, List.set_cons_zero, List.set_cons_succ])))
          with_reducible refine lexL_give' (φ := ?_) ?_ ?_ ?_ ?_; rotate_left; (· with_reducible rfl); (· simp only [factsOf, Nat.reduceAdd, ↓reduceIte, Nat.reduceEqDiff]; rfl)
          · intro w5 hw5 hk5
            go_simp
            refine (hcd w5).mono ?_
            rintro e w6 ⟨rfl, rfl⟩
            exact ⟨_, rfl, Ext.refl _, rfl⟩
          rintro v9 w5 hw5 hv9 hk2
          unfold EqP at hv9
          subst hv9
          clear hk2 hw5 w5
          (try simp only [Act.put, List.setIfInBounds_toArray, List.set_cons_zero, List.set_cons_succ])
          repeat (first | (with_reducible refine lexL_quiet' (v := ?_) ?_ ?_ ?_ ?_; rotate_left; (· with_reducible rfl); (· simp [factsOf]); (· intro w1 hw1 _; go_simp; with_reducible rfl); (try simp only [Act.put, List.setIfInBounds_toArray, List.set_cons_zero, List.set_cons_succ])) | (with_reducible refine lexL_skip ?_ ?_; (· simp [Region.wanted, yielded, undef]); (try simp only [Act.put, List.setIfInBounds_toArray, List.set_cons_zero, List.set_cons_succ])) | (with_reducible refine lexL_quiet (v := ?_) ?_ ?_ ?_ ?_; rotate_left; (· simp [Region.wanted, yielded, undef]); (· simp [factsOf]); (· intro w1 hw1 _; go_simp; with_reducible rfl); (try simp only [Act.put, List.setIfInBounds_toArray, List.set_cons_zero, List.set_cons_succ])))
          with_reducible refine lexL_nil ?_; intro w1 hw1 hk1; simp only [List.drop_succ_cons, List.drop_zero]
          go_wp2
          go_ret
          exact ⟨by rw [HR.out]; rfl, HW5.out.trans hw1⟩
    · have hie : i = ts.length := by omega
      subst hie
      have hlt2 : ¬ (ts.length : Int) < (ts.length : Int) := by omega
      have HR : Hid (r = true) := Lib.hid (by rw [HRT.out]; have := HF.out; rwa [List.take_length] at this)
      go_wp2
      go_ret
      exact ⟨by rw [HR.out]; rfl, hwE⟩
theorem typ_any (vars : Nat) : ∀ k, TypS vars k
  | 0 => fun t _ _ h => by cases t; simp at h
  | k + 1 => typ_step vars k (typ_any vars k)
theorem typ_of {vars : Nat} {t : Tr} {w : World} {v : Value} (hN : NodeV w t v) (hT : OpsTab w) (hs : shapT vars t = true) : Calls Tryd.prog 81 #[v] w (BoolP w (typT t)) := typ_any vars _ t w v (Nat.le_refl _) hN hT hs
end Go.Proofs.YtggffdkgfgdaoaaDoor

namespace Go.Proofs.YtggffdkgfgdaoaaDoor
open Go.RowKit
set_option linter.unusedVariables false
set_option linter.unusedSimpArgs false
attribute [local go_sem] Oper.quietV quietV Oper.gives givesV ext_refl_iff ext_alloc_iff ext_drew_iff ext_drewN_iff
def letterB (c : Nat) : Bool := decide ((97 ≤ c ∧ c ≤ 122) ∨ (65 ≤ c ∧ c ≤ 90))
def digitB (c : Nat) : Bool := decide (48 ≤ c ∧ c ≤ 57)
def partB (c : Nat) : Bool := letterB c || (digitB c || c == 95)
def reservedB (s : ByteArray) : Bool := s.toList == [97, 110, 100] || (s.toList == [111, 114] || s.toList == [110, 111, 116])
def SameP (w : World) (r : Bool) (e : Ending) (w' : World) : Prop := e = .returned (.bool r) ∧ w = w'
set_option maxHeartbeats 4000000 in
theorem letter_any (w : World) (c : Nat) (hc : c < 256) : Calls Tryd.prog 76 #[.int .u8 (c : Int)] w (SameP w (letterB c)) := by
  obtain ⟨r, hr⟩ : ∃ r : Bool, r = letterB c := ⟨_, rfl⟩
  rw [← hr]
  by_cases h1 : (97 : Int) ≤ c
  · by_cases h2 : (c : Int) ≤ 122
    · skip
      have HR : Hid (r = true) := Lib.hid (by rw [hr]; unfold letterB; first | exact decide_eq_true (by omega) | exact decide_eq_false (by omega))
      clear hr
      go_enter Tryd.func76, Tryd.ntmps76
      go_wp2
      go_ret
      exact ⟨by rw [HR.out]; rfl, rfl⟩
    · have h3 : (65 : Int) ≤ c := by omega
      have h4 : ¬ (c : Int) ≤ 90 := by omega
      have HR : Hid (r = false) := Lib.hid (by rw [hr]; unfold letterB; first | exact decide_eq_true (by omega) | exact decide_eq_false (by omega))
      clear hr
      go_enter Tryd.func76, Tryd.ntmps76
      go_wp2
      go_ret
      exact ⟨by rw [HR.out]; rfl, rfl⟩
  · by_cases h3 : (65 : Int) ≤ c
    · by_cases h4 : (c : Int) ≤ 90
      · skip
        have HR : Hid (r = true) := Lib.hid (by rw [hr]; unfold letterB; first | exact decide_eq_true (by omega) | exact decide_eq_false (by omega))
        clear hr
        go_enter Tryd.func76, Tryd.ntmps76
        go_wp2
        go_ret
        exact ⟨by rw [HR.out]; rfl, rfl⟩
      · skip
        have HR : Hid (r = false) := Lib.hid (by rw [hr]; unfold letterB; first | exact decide_eq_true (by omega) | exact decide_eq_false (by omega))
        clear hr
        go_enter Tryd.func76, Tryd.ntmps76
        go_wp2
        go_ret
        exact ⟨by rw [HR.out]; rfl, rfl⟩
    · skip
      have HR : Hid (r = false) := Lib.hid (by rw [hr]; unfold letterB; first | exact decide_eq_true (by omega) | exact decide_eq_false (by omega))
      clear hr
      go_enter Tryd.func76, Tryd.ntmps76
      go_wp2
      go_ret
      exact ⟨by rw [HR.out]; rfl, rfl⟩
set_option maxHeartbeats 4000000 in
theorem digit_any (w : World) (c : Nat) (hc : c < 256) : Calls Tryd.prog 84 #[.int .u8 (c : Int)] w (SameP w (digitB c)) := by
  obtain ⟨r, hr⟩ : ∃ r : Bool, r = digitB c := ⟨_, rfl⟩
  rw [← hr]
  by_cases h1 : (48 : Int) ≤ c
  · by_cases h2 : (c : Int) ≤ 57
    · skip
      have HR : Hid (r = true) := Lib.hid (by rw [hr]; unfold digitB; first | exact decide_eq_true (by omega) | exact decide_eq_false (by omega))
      clear hr
      go_enter Tryd.func84, Tryd.ntmps84
      go_wp2
      go_ret
      exact ⟨by rw [HR.out]; rfl, rfl⟩
    · skip
      have HR : Hid (r = false) := Lib.hid (by rw [hr]; unfold digitB; first | exact decide_eq_true (by omega) | exact decide_eq_false (by omega))
      clear hr
      go_enter Tryd.func84, Tryd.ntmps84
      go_wp2
      go_ret
      exact ⟨by rw [HR.out]; rfl, rfl⟩
  · skip
    have HR : Hid (r = false) := Lib.hid (by rw [hr]; unfold digitB; first | exact decide_eq_true (by omega) | exact decide_eq_false (by omega))
    clear hr
    go_enter Tryd.func84, Tryd.ntmps84
    go_wp2
    go_ret
    exact ⟨by rw [HR.out]; rfl, rfl⟩
set_option maxHeartbeats 4000000 in
theorem part_any (w : World) (c : Nat) (hc : c < 256) : Calls Tryd.prog 78 #[.int .u8 (c : Int)] w (SameP w (partB c)) := by
  have h1 := letter_any w c hc
  have h2 := digit_any w c hc
  unfold SameP at h1 h2
  unfold partB
  obtain ⟨a, ha⟩ : ∃ a, a = letterB c := ⟨_, rfl⟩
  obtain ⟨b, hb⟩ : ∃ b, b = digitB c := ⟨_, rfl⟩
  rw [← ha] at h1 ⊢
  rw [← hb] at h2 ⊢
  clear ha hb
  cases a with
  | true =>
    go_enter Tryd.func78, Tryd.ntmps78
    go_wp2_with (first | ((with_reducible refine h1.mono ?_); rintro e W ⟨rfl, rfl⟩))
    go_ret
    exact ⟨rfl, rfl⟩
  | false => cases b with
    | true =>
      go_enter Tryd.func78, Tryd.ntmps78
      go_wp2_with (first | ((with_reducible refine h1.mono ?_); rintro e W ⟨rfl, rfl⟩) | ((with_reducible refine h2.mono ?_); rintro e W ⟨rfl, rfl⟩))
      go_ret
      exact ⟨rfl, rfl⟩
    | false =>
      obtain ⟨r, hr⟩ : ∃ r : Bool, r = (c == 95) := ⟨_, rfl⟩
      rw [← hr]
      have hr2 : ((c : Int) == 95) = r := by
        rw [hr]
        by_cases h : c = 95
        · subst h; rfl
        · rw [beq_eq_false_iff_ne.2 h]; exact beq_eq_false_iff_ne.2 (by omega)
      clear hr
      go_enter Tryd.func78, Tryd.ntmps78
      go_wp2_with (first | ((with_reducible refine h1.mono ?_); rintro e W ⟨rfl, rfl⟩) | ((with_reducible refine h2.mono ?_); rintro e W ⟨rfl, rfl⟩))
      go_ret
      exact ⟨by first | rfl | (rw [← hr2]; rfl), rfl⟩
set_option maxHeartbeats 4000000 in
theorem reserved_any (w : World) (s : ByteArray) : Calls Tryd.prog 77 #[.string s] w (SameP w (reservedB s)) := by
  obtain ⟨r, hr⟩ : ∃ r : Bool, r = reservedB s := ⟨_, rfl⟩
  rw [← hr]
  unfold reservedB at hr
  by_cases h1 : s.toList = [97, 110, 100]
  · have HR : Hid (r = true) := Lib.hid (by rw [hr, h1]; rfl)
    clear hr
    go_enter Tryd.func77, Tryd.ntmps77
    go_wp2
    go_ret
    exact ⟨by rw [HR.out]; rfl, rfl⟩
  · by_cases h2 : s.toList = [111, 114]
    · have HR : Hid (r = true) := Lib.hid (by rw [hr, h2]; rfl)
      clear hr
      go_enter Tryd.func77, Tryd.ntmps77
      go_wp2
      go_ret
      exact ⟨by rw [HR.out]; rfl, rfl⟩
    · have HR : Hid (r = (s.toList == [110, 111, 116])) := Lib.hid (by rw [hr, beq_eq_false_iff_ne.2 h1, beq_eq_false_iff_ne.2 h2]; rfl)
      have HA := Lib.hid (And.intro (beq_eq_false_iff_ne.2 h1) (beq_eq_false_iff_ne.2 h2))
      clear hr
      go_enter Tryd.func77, Tryd.ntmps77
      go_wp2
      go_ret
      exact ⟨by rw [HR.out]; first | rfl | exact congrArg (fun b => Ending.returned (.bool b)) (by rw [HA.out.1, HA.out.2]; rfl), rfl⟩
def sN (s : ByteArray) : List Nat := s.toList.map UInt8.toNat
theorem sN_len (s : ByteArray) : (sN s).length = s.size := by unfold sN; rw [ByteArray.toList_eq, List.length_map, Array.length_toList]; rfl
theorem sN_get (s : ByteArray) {i : Nat} (h : i < s.size) : (sN s)[i]? = some (s[i]'h).toNat := by
  unfold sN; rw [ByteArray.toList_eq, List.getElem?_map]
  have h2 : i < s.data.toList.length := by rw [Array.length_toList]; exact h
  rw [List.getElem?_eq_getElem h2, Array.getElem_toList]; rfl
theorem sN_nil (s : ByteArray) (h : s.size = 0) : s.toList = [] := by
  have := sN_len s
  unfold sN at this; rw [List.length_map, h] at this
  exact List.length_eq_zero_iff.1 this
theorem sN_ne (s : ByteArray) (h : s.size ≠ 0) : ¬ s.toList = [] := by
  intro h2
  have := sN_len s
  unfold sN at this; rw [h2] at this
  exact h this.symm
def namedB (s : ByteArray) : Bool := decide (s.size ≠ 0 ∧ s.size ≤ 16) && (letterB ((sN s).getD 0 0) && (!reservedB s && (sN s).all partB))
set_option maxRecDepth 100000 in
set_option maxHeartbeats 4000000 in
theorem named_any (w : World) (s : ByteArray) (hs : s.size ≤ 9223372036854775807) : Calls Tryd.prog 68 #[.string s] w (SameP w (namedB s)) := by
  obtain ⟨r, hr⟩ : ∃ r : Bool, r = namedB s := ⟨_, rfl⟩
  rw [← hr]
  unfold namedB at hr
  by_cases hz : s.size = 0
  · have h0 := sN_nil s hz
    have HR : Hid (r = false) := Lib.hid (by rw [hr, hz]; rfl)
    clear hr hz
    go_enter Tryd.func68, Tryd.ntmps68
    go_wp2
    go_ret
    exact ⟨by rw [HR.out]; rfl, rfl⟩
  have h0 : s.toList.isEmpty = false := by cases h : s.toList with
    | nil => exact absurd h (sN_ne s hz)
    | cons _ _ => rfl
  have hp : 0 < s.size := by omega
  by_cases hb : (16 : Int) < s.size
  · have HR : Hid (r = false) := Lib.hid (by rw [hr, decide_eq_false (show ¬ (s.size ≠ 0 ∧ s.size ≤ 16) by omega)]; rfl)
    clear hr
    go_enter Tryd.func68, Tryd.ntmps68
    go_wp2
    go_ret
    exact ⟨by rw [HR.out]; first | rfl | exact congrArg (fun b => Ending.returned (.bool b)) (decide_eq_true hb), rfl⟩
  have hg0 := sN_get s hp
  have hd0 : (sN s).getD 0 0 = s[0].toNat := by rw [List.getD_eq_getElem?_getD, hg0]; rfl
  rw [decide_eq_true (show (s.size ≠ 0 ∧ s.size ≤ 16) by omega), hd0, Bool.true_and] at hr
  have h1 := letter_any w s[0].toNat (UInt8.toNat_lt _)
  have h2 := reserved_any w s
  unfold SameP at h1 h2
  obtain ⟨a, ha⟩ : ∃ a, a = letterB s[0].toNat := ⟨_, rfl⟩
  obtain ⟨b, hbb⟩ : ∃ b, b = reservedB s := ⟨_, rfl⟩
  rw [← ha] at h1 hr
  rw [← hbb] at h2 hr
  clear ha hbb hd0 hg0
  cases a with
  | false =>
    have HR : Hid (r = false) := Lib.hid (by rw [hr]; rfl)
    clear hr
    go_enter Tryd.func68, Tryd.ntmps68
    go_wp2_with (first | ((with_reducible refine h1.mono ?_); rintro e W ⟨rfl, rfl⟩))
    go_ret
    exact ⟨by rw [HR.out]; rfl, rfl⟩
  | true => cases b with
    | true =>
      have HR : Hid (r = false) := Lib.hid (by rw [hr]; rfl)
      clear hr
      go_enter Tryd.func68, Tryd.ntmps68
      go_wp2_with (first | ((with_reducible refine h1.mono ?_); rintro e W ⟨rfl, rfl⟩) | ((with_reducible refine h2.mono ?_); rintro e W ⟨rfl, rfl⟩))
      go_ret
      exact ⟨by rw [HR.out]; rfl, rfl⟩
    | false =>
      have HR0 : Hid (r = (sN s).all partB) := Lib.hid (by rw [hr]; rfl)
      clear hr
      go_enter Tryd.func68, Tryd.ntmps68
      go_upto_region 3 with (first | ((with_reducible refine h1.mono ?_); rintro e W ⟨rfl, rfl⟩) | ((with_reducible refine h2.mono ?_); rintro e W ⟨rfl, rfl⟩))
      go_wp2
      go_loopw [23] (fun iv wr => ∃ i : Nat, iv = .int .i64 i ∧ i ≤ s.size ∧ Hid (((sN s).take i).all partB = true) ∧ w = wr) (fun iv _ => s.size - (intOf iv).toNat)
      case atStart => exact ⟨0, by first | rfl | simp, Nat.zero_le _, Lib.hid (by simp), rfl⟩
      case round =>
        obtain ⟨i, rfl, hi, HF, rfl⟩ := hrel
        by_cases hlt : i < s.size
        · have hlI : (i : Int) < (s.size : Int) := by omega
          have h3 := part_any w (s[i]'hlt).toNat (UInt8.toNat_lt _)
          have HG := Lib.hid (sN_get s hlt)
          unfold SameP at h3
          obtain ⟨c, hc⟩ : ∃ c, c = partB (s[i]'hlt).toNat := ⟨_, rfl⟩
          rw [← hc] at h3
          have HC := Lib.hid hc
          clear hc h1 h2
          cases c with
          | false =>
            have HR : Hid (r = false) := Lib.hid (by
              rw [HR0.out]
              cases hall : (sN s).all partB with
              | false => rfl
              | true => exact absurd ((List.all_eq_true.1 hall _ (List.mem_of_getElem? HG.out)).symm.trans HC.out.symm) (by decide))
            go_wp2_with (first | ((with_reducible refine h3.mono ?_); rintro e W ⟨rfl, rfl⟩))
            go_ret
            exact ⟨by rw [HR.out]; rfl, rfl⟩
          | true =>
            go_wp2_with (first | ((with_reducible refine h3.mono ?_); rintro e W ⟨rfl, rfl⟩))
            refine ⟨⟨i + 1, by go_num, hlt, Lib.hid (by rw [List.take_add_one, List.all_append, HF.out, HG.out]; simp [← HC.out]), by first | trivial | rfl⟩, ?_⟩
            simp [intOf]; omega
        · have hie : i = s.size := by omega
          subst hie
          have hlt2 : ¬ (s.size : Int) < (s.size : Int) := by omega
          have HR : Hid (r = true) := Lib.hid (by rw [HR0.out]; have := HF.out; rwa [← sN_len, List.take_length] at this)
          go_wp2
          go_ret
          exact ⟨by rw [HR.out]; rfl, rfl⟩
end Go.Proofs.YtggffdkgfgdaoaaDoor

namespace Go.Proofs.YtggffdkgfgdaoaaDoor
open Go.RowKit Go.Maps Go.WideMaps
set_option linter.unusedVariables false
set_option linter.unusedSimpArgs false
attribute [local go_sem] Oper.quietV quietV Oper.gives givesV ext_refl_iff ext_alloc_iff ext_drew_iff ext_drewN_iff
section
variable {κ : Type} [DecidableEq κ]
/-- Block b is a map of just these keys, each with the value true. -/
def SetIs (w : World) (b : Nat) (enc : κ → Value) (ok : κ → Prop) (ks : List κ) : Prop :=
  ∃ entries clock, w.heap[b]? = some (.map entries clock) ∧ entries.toList.map (fun e => (e.key, e.val)) = ks.map (fun p => (enc p, .bool true)) ∧ (∀ p ∈ ks, ok p)
def SetOf (enc : κ → Value) (ok : κ → Prop) (o : Obj) (ks : List κ) : Prop := ∀ (w : World) (b : Nat), w.heap[b]? = some o → SetIs w b enc ok ks
omit [DecidableEq κ] in
theorem setOf_of {w : World} {b : Nat} {enc : κ → Value} {ok : κ → Prop} {ks : List κ} (h : SetIs w b enc ok ks) : ∃ o, w.heap[b]? = some o ∧ SetOf enc ok o ks := by
  obtain ⟨en, cl, hb, r⟩ := h
  exact ⟨_, hb, fun w' b' hb' => ⟨en, cl, hb', r⟩⟩
omit [DecidableEq κ] in
theorem SetOf.made (enc : κ → Value) (ok : κ → Prop) : SetOf enc ok (.map #[] 0) [] := fun w b hb => ⟨#[], 0, hb, by simp, by simp⟩
variable {P : Program} {k : TypeId} {enc : κ → Value} {ok : κ → Prop} {w : World} {b : Nat} {ks : List κ}
omit [DecidableEq κ] in
theorem find_set (K : KeyEnc P k enc ok) {entries : Array MapEntry} (he : entries.toList.map (fun e => (e.key, e.val)) = ks.map (fun p => (enc p, Value.bool true))) (hok : ∀ p ∈ ks, ok p) {x : κ} (hx : ok x) :
    (x ∉ ks ∧ (Instr.findKey k (enc x) entries.toList).run P w = .ok none w) ∨ ∃ j, x ∈ ks ∧ (Instr.findKey k (enc x) entries.toList).run P w = .ok (some (j, .bool true)) w := by
  obtain ⟨l, hl⟩ := K.read x hx
  have hmem : ∀ e ∈ entries.toList, ∃ p ∈ ks, e.key = enc p ∧ e.val = .bool true := fun e h => by
    have h1 : (e.key, e.val) ∈ ks.map (fun p => (enc p, Value.bool true)) := he ▸ List.mem_map.2 ⟨e, h, rfl⟩
    obtain ⟨p, hp, hpe⟩ := List.mem_map.1 h1
    simp only [Prod.mk.injEq] at hpe
    exact ⟨p, hp, hpe.1.symm, hpe.2.symm⟩
  rcases K.law.find w hl entries.toList (fun e h => by
    obtain ⟨p, hp, hk, _⟩ := hmem e h
    rw [hk]; exact K.read _ (hok p hp)) with ⟨h1, h2⟩ | ⟨j, e, h1, h2, h3⟩
  · refine .inl ⟨fun hm => ?_, h1⟩
    have h4 : (enc x, Value.bool true) ∈ entries.toList.map (fun e => (e.key, e.val)) := he ▸ List.mem_map.2 ⟨x, hm, rfl⟩
    obtain ⟨e', he', hee⟩ := List.mem_map.1 h4
    simp only [Prod.mk.injEq] at hee
    exact h2 e' he' hee.1
  · obtain ⟨p, hpm, hk, hv⟩ := hmem e (List.mem_of_getElem? h2)
    have : p = x := K.inj _ _ (hk.symm.trans h3)
    exact .inr ⟨j, this ▸ hpm, by rw [← hv]; exact h1⟩
theorem set_lookup {W : World} {o : Obj} {t e : TypeId} (K : KeyEnc P k enc ok) (ht : P.underlying t = some (.map k e)) (hz : (zeroValue e).run P W = .ok (.bool false) W) (hb : W.heap[b]? = some o) (ho : SetOf enc ok o ks) {x : κ} (hx : ok x) {v : Value} (hv : v = enc x) :
    (Instr.lookup t (.map (some b)) v false).run P W = .ok (.bool (decide (x ∈ ks))) W := by
  subst hv
  obtain ⟨en, cl, hb', he, hok⟩ := ho W b hb
  obtain ⟨l, hl⟩ := K.read x hx
  have hobj : (getObj b).run P W = .ok (.map en cl) W := by simp [getObj, Sem.run, hb']
  have hchk := K.law.check W en.isEmpty hl
  rcases find_set (w := W) K he hok hx with ⟨h1, h2⟩ | ⟨j, h1, h2⟩
  · simp [Instr.lookup, run_underlying ht, hobj, hchk, h2, h1, hz]
  · simp [Instr.lookup, run_underlying ht, hobj, hchk, h2, h1]
omit [DecidableEq κ] in
theorem set_update {W : World} {t e : TypeId} (K : KeyEnc P k enc ok) (ht : P.underlying t = some (.map k e)) (h : SetIs W b enc ok ks) {x : κ} (hx : ok x) (hn : x ∉ ks) :
    ∃ w', (Instr.mapUpdate t (.map (some b)) (enc x) (.bool true)).run P W = .ok () w' ∧ SetIs w' b enc ok (ks ++ [x]) ∧ W.grownBy w' (some b) := by
  obtain ⟨en, cl, hb, he, hok⟩ := h
  obtain ⟨l, hl⟩ := K.read x hx
  have hobj : (getObj b).run P W = .ok (.map en cl) W := by simp [getObj, Sem.run, hb]
  have hchk := K.law.check W false hl
  have hlt := lt_of_block hb
  rcases find_set (w := W) K he hok hx with ⟨h1, h2⟩ | ⟨j, h1, h2⟩
  · refine ⟨{ W with heap := W.heap.setIfInBounds b (.map (en.push { key := enc x, val := .bool true, born := cl }) (cl + 1)) }, ?_, ?_, ?_⟩
    · simp [Instr.mapUpdate, run_underlying ht, hobj, hchk, h2, setObj, Sem.run, hb]
    · refine ⟨en.push { key := enc x, val := .bool true, born := cl }, cl + 1, by simp [hlt], by simp [he], ?_⟩
      intro p hpm
      rcases List.mem_append.1 hpm with hpm | hpm
      · exact hok p hpm
      · simp at hpm; subst hpm; exact hx
    · exact ⟨rfl, rfl, rfl, by simp, fun i hi hne => by
        have : b ≠ i := fun e => hne (by rw [e])
        simp [Array.getElem?_setIfInBounds_ne this]⟩
  · exact absurd h1 hn
omit [DecidableEq κ] in
/-- A new key is stored: the set has one more. -/
theorem OwnL.setPut {w W : World} {L : List Asn} (h : OwnL w W L) (i : Nat) {o : Obj} {t e : TypeId} (hi : L[i]? = some (.blk b o)) (ho : SetOf enc ok o ks) (K : KeyEnc P k enc ok) (ht : P.underlying t = some (.map k e))
    {x : κ} (hx : ok x) (hn : x ∉ ks) {v : Value} (hv : v = enc x) : ∃ W' o', (Instr.mapUpdate t (.map (some b)) v (.bool true)).run P W = .ok () W' ∧ SetOf enc ok o' (ks ++ [x]) ∧ OwnL w W' (L.set i (.blk b o')) ∧ W.grownBy W' (some b) := by
  subst hv
  have h1 : w.heap.size ≤ b ∧ W.heap[b]? = some o := h.get i hi
  obtain ⟨W', hr, hm, hg⟩ := set_update K ht (ho W b h1.2) hx hn
  obtain ⟨o', hb', hm'⟩ := setOf_of hm
  exact ⟨W', o', hr, hm', h.step (A' := .blk b o') i hi hg (fun c hc => by cases hc; rfl) ⟨h1.1, hb'⟩ (fun c hc => .inl hc), hg⟩
end
theorem key9 : KeyEnc Tryd.prog 9 (fun s : ByteArray => .string s) (fun s => s.size ≤ maxLen) where
  law := string_keyed Tryd.underlying9
  read := fun s h => ⟨_, keyOf_string_mk Tryd.underlying9 h⟩
  inj := fun x y h => by injection h
end Go.Proofs.YtggffdkgfgdaoaaDoor

namespace Go.Proofs.YtggffdkgfgdaoaaDoor
open Go.RowKit
set_option linter.unusedVariables false
set_option linter.unusedSimpArgs false
instance instDecBytes : DecidableEq ByteArray := fun a b => decidable_of_iff (a.data = b.data) ⟨fun h => by cases a; cases b; simp only at h; rw [h], fun h => by rw [h]⟩
instance instMemBytes (s : ByteArray) (l : List ByteArray) : Decidable (s ∈ l) := @List.instDecidableMemOfLawfulBEq ByteArray instBEqOfDecidableEq inferInstance s l
abbrev Vt := ByteArray × Int × Int
def vtCells (u : Vt) : List Value := [.string u.1, .int .i64 u.2.1, .int .i64 u.2.2]
theorem vts_len : ∀ l : List Vt, (l.flatMap vtCells).length = l.length * 3
  | [] => rfl
  | y :: t => by rw [List.flatMap_cons, List.length_append, vts_len t]; simp [vtCells]; omega
theorem vts_get : ∀ {l : List Vt} {i : Nat} {r : Vt} (h : l[i]? = some r) (j : Nat) (u : Value), (vtCells r)[j]? = some u → (l.flatMap vtCells)[i * 3 + j]? = some u
  | [], i, r, h, _, _, _ => by simp at h
  | y :: t, 0, r, h, j, u, hj => by
    simp at h; subst h
    have := (List.getElem?_eq_some_iff.1 hj).1
    rw [List.flatMap_cons, Nat.zero_mul, Nat.zero_add, List.getElem?_append_left this]; exact hj
  | y :: t, i + 1, r, h, j, u, hj => by
    have h2 := vts_get (l := t) (i := i) (r := r) (by simpa using h) j u hj
    rw [List.flatMap_cons, List.getElem?_append_right (by simp [vtCells]; omega)]
    rw [← h2]; congr 1; simp [vtCells]; omega
def VarsC (w : World) (v : Value) (l : List Vt) (c : Nat) : Prop := ∃ A, v = .slice A l.length c ∧ Cells w A (l.flatMap vtCells) ∧ l.length ≤ c ∧ l.length ≤ lenMax ∧ ∀ u ∈ l, u.1.size ≤ maxLen
theorem VarsC.ext {w w' : World} {v : Value} {l : List Vt} {c : Nat} (h : VarsC w v l c) (e : Ext w w') : VarsC w' v l c := by
  obtain ⟨A, h1, h2, h3⟩ := h
  exact ⟨A, h1, h2.ext e, h3⟩
theorem var_at {w : World} {A : Option Addr} {l : List Vt} (hc : Cells w A (l.flatMap vtCells)) {i : Nat} {u : Vt} (hi : l[i]? = some u) :
    ∃ b o, A = some ⟨b, o, none⟩ ∧ w.cell? ⟨b, o + i * 3, none⟩ = some (.string u.1) ∧ w.cell? ⟨b, o + i * 3 + 1, none⟩ = some (.int .i64 u.2.1) ∧ w.cell? ⟨b, o + i * 3 + 2, none⟩ = some (.int .i64 u.2.2) := by
  have hlt := (List.getElem?_eq_some_iff.1 hi).1
  obtain ⟨b, o, rfl, _, hcc⟩ := hc (by rw [vts_len]; omega)
  exact ⟨b, o, rfl, hcc _ _ (vts_get hi 0 _ rfl), by rw [Nat.add_assoc]; exact hcc _ _ (vts_get hi 1 _ rfl), by rw [Nat.add_assoc]; exact hcc _ _ (vts_get hi 2 _ rfl)⟩
def varBad (seen : List ByteArray) (u : Vt) : Bool := !namedB u.1 || (decide (u.1 ∈ seen) || (decide (u.2.1 < -2147483648) || (decide (u.2.2 < u.2.1) || decide (2147483648 < u.2.2))))
def badAt (l : List Vt) (k : Nat) : Bool := match l[k]? with | some u => varBad ((l.take k).map (·.1)) u | none => false
def varsR (l : List Vt) : Int := if 16 < l.length then 3 else if (List.range l.length).any (badAt l) then 1 else 0
theorem varsR_many {l : List Vt} (h : 16 < l.length) : varsR l = 3 := by unfold varsR; rw [if_pos h]
theorem varsR_bad {l : List Vt} (h : ¬ 16 < l.length) {i : Nat} (hi : i < l.length) (hb : badAt l i = true) : varsR l = 1 := by
  unfold varsR; rw [if_neg h, if_pos (List.any_eq_true.2 ⟨i, List.mem_range.2 hi, hb⟩)]
theorem varsR_good {l : List Vt} (h : ¬ 16 < l.length) (hb : ∀ i < l.length, badAt l i = false) : varsR l = 0 := by
  unfold varsR; rw [if_neg h, if_neg]
  intro h2
  obtain ⟨i, hi, hbi⟩ := List.any_eq_true.1 h2
  rw [hb i (List.mem_range.1 hi)] at hbi; cases hbi
end Go.Proofs.YtggffdkgfgdaoaaDoor

namespace Go.Proofs.YtggffdkgfgdaoaaDoor
open Go.RowKit
set_option linter.unusedVariables false
set_option linter.unusedSimpArgs false
attribute [local go_sem] Oper.quietV quietV Oper.gives givesV ext_refl_iff ext_alloc_iff ext_drew_iff ext_drewN_iff
def ErrP (w : World) (r : Int) (e : Ending) (w' : World) : Prop := e = .returned (.int .i64 r) ∧ Ext w w'
abbrev strV : ByteArray → Value := fun s => .string s
abbrev strOk : ByteArray → Prop := fun s => s.size ≤ maxLen
set_option maxRecDepth 100000 in
set_option maxHeartbeats 16000000 in
theorem checkVars_any (w : World) (v : Value) (l : List Vt) (c : Nat) (hv : VarsC w v l c) : Calls Tryd.prog 56 #[v] w (ErrP w (varsR l)) := by
  obtain ⟨r, hr⟩ : ∃ r : Int, r = varsR l := ⟨_, rfl⟩
  rw [← hr]
  obtain ⟨A, rfl, hcs, hlc, hlm, hsz⟩ := hv
  unfold lenMax at hlm
  have HX := Lib.hid (And.intro hcs hsz)
  by_cases hbig : (16 : Int) < l.length
  · have HR : Hid (r = 3) := Lib.hid (by rw [hr]; exact varsR_many (by omega))
    clear hr hcs hsz
    go_enter Tryd.func56, Tryd.ntmps56
    go_wp2
    go_ret
    exact ⟨by rw [HR.out]; rfl, Ext.refl _⟩
  have HR0 := Lib.hid hr
  have HLN : Hid (l.length ≤ 16) := Lib.hid (by omega)
  have hO := (OwnL.nil (Ext.refl w)).add (alloc_ext w (.map #[] 0)) (A := .blk w.heap.size (.map #[] 0)) ⟨Nat.le_refl _, heap_alloc_new w _⟩
  have HO := Lib.hid hO
  clear hr hcs hsz hO
  have hmm := @run_makeMap Tryd.prog
  go_enter Tryd.func56, Tryd.ntmps56
  go_upto_region 4 with fail
  clear hmm
  generalize w.heap.size = gm at *
  go_wp2
  go_loopw [12] (fun iv wr => ∃ (i : Nat) (o : Obj), iv = .int .i64 i ∧ i ≤ l.length ∧ Hid (∀ k < i, badAt l k = false) ∧ Hid (SetOf strV strOk o ((l.take i).map (·.1))) ∧ Hid (OwnL w wr [.blk gm o])) (fun iv _ => l.length - (intOf iv).toNat)
  case atStart => exact ⟨0, _, by first | rfl | simp, Nat.zero_le _, Lib.hid (by intro k h; omega), Lib.hid (SetOf.made _ _), HO⟩
  case round =>
    clear HO
    obtain ⟨i, o, rfl, hi, HF, HS, HW⟩ := hrel
    obtain ⟨W5, hW5⟩ : ∃ W, W = wr := ⟨_, rfl⟩; subst hW5
    have hR5 := Ext.refl W5
    by_cases hlt : i < l.length
    · have hlI : (i : Int) < (l.length : Int) := by omega
      obtain ⟨u, hu⟩ : ∃ u, l[i]? = some u := ⟨_, List.getElem?_eq_getElem hlt⟩
      obtain ⟨bs, os, hA, d0, d1, d2⟩ := var_at HX.out.1 hu
      subst hA
      have hus := HX.out.2 u (List.mem_of_getElem? hu)
      have HUS := Lib.hid hus
      have HBA : Hid (badAt l i = varBad ((l.take i).map (·.1)) u) := Lib.hid (by unfold badAt; rw [hu])
      have HTK : Hid ((l.take (i + 1)).map (·.1) = (l.take i).map (·.1) ++ [u.1]) := Lib.hid (by rw [List.take_add_one, hu, List.map_append]; rfl)
      have HLT := Lib.hid hlt
      obtain ⟨s, lo, hi2⟩ := u
      have d0 := fun w' (h : Ext W5 w') => (HW.out.ext.trans h).cell d0
      have d1 := fun w' (h : Ext W5 w') => (HW.out.ext.trans h).cell d1
      have d2 := fun w' (h : Ext W5 w') => (HW.out.ext.trans h).cell d2
      have hnm := fun w' => named_any w' s hus
      unfold SameP at hnm
      obtain ⟨a, ha⟩ : ∃ a, a = namedB s := ⟨_, rfl⟩
      rw [← ha] at hnm
      have HA := Lib.hid ha
      obtain ⟨d, hd⟩ : ∃ d, d = decide (s ∈ (l.take i).map (·.1)) := ⟨_, rfl⟩
      have HD := Lib.hid hd
      clear hu ha hd hus
      go_upto_region 7 with fail
      refine wp_named ?_
      intro W6 hW6
      have hE56 : Ext W5 W6 := by rw [hW6]; exact alloc_ext _ _
      have x0 : ∀ w', Ext W6 w' → w'.cell? ⟨W5.heap.size, 0, none⟩ = some (.string s) := fun w' h => h.cell (by rw [hW6]; simp [go_sem])
      have x1 : ∀ w', Ext W6 w' → w'.cell? ⟨W5.heap.size, 1, none⟩ = some (.int .i64 lo) := fun w' h => h.cell (by rw [hW6]; simp [go_sem])
      have x2 : ∀ w', Ext W6 w' → w'.cell? ⟨W5.heap.size, 2, none⟩ = some (.int .i64 hi2) := fun w' h => h.cell (by rw [hW6]; simp [go_sem])
      have HO6 := Lib.hid (HW.out.trans hE56)
      have HE6 := Lib.hid HO6.out.ext
      clear hW6 hE56 d0 d1 d2 HW
      generalize W5.heap.size = b4 at *
      have hR6 := Ext.refl W6
      have hnm1 := hnm W6
      clear hnm
      have hlk : (Instr.lookup 129 (.map (some gm)) (.string s) false).run Tryd.prog W6 = .ok (.bool d) W6 := by
        rw [HD.out]; exact set_lookup key9 Tryd.underlying129 (by kernel_rfl) (HO6.out.get 0 rfl).2 HS.out HUS.out rfl
      cases a with
      | false =>
        have HR : Hid (r = 1) := Lib.hid (by rw [HR0.out]; refine varsR_bad (by have := HLN.out; omega) HLT.out (i := i) ?_; rw [HBA.out]; unfold varBad; rw [← HA.out]; rfl)
        go_upto_region 11 with (first | ((with_reducible refine hnm1.mono ?_); rintro e W ⟨rfl, rfl⟩))
        go_ret
        exact ⟨by rw [HR.out]; rfl, HE6.out⟩
      | true => cases d with
        | true =>
          have HR : Hid (r = 1) := Lib.hid (by rw [HR0.out]; refine varsR_bad (by have := HLN.out; omega) HLT.out (i := i) ?_; rw [HBA.out]; unfold varBad; rw [← HD.out]; simp)
          go_upto_region 11 with (first | ((with_reducible refine hnm1.mono ?_); rintro e W ⟨rfl, rfl⟩))
          go_ret
          exact ⟨by rw [HR.out]; rfl, HE6.out⟩
        | false =>
          by_cases h1 : lo < -2147483648
          · skip
            have HR : Hid (r = 1) := Lib.hid (by rw [HR0.out]; refine varsR_bad (by have := HLN.out; omega) HLT.out (i := i) ?_; rw [HBA.out]; unfold varBad; rw [decide_eq_true h1]; simp)
            go_upto_region 11 with (first | ((with_reducible refine hnm1.mono ?_); rintro e W ⟨rfl, rfl⟩))
            go_ret
            exact ⟨by rw [HR.out]; rfl, HE6.out⟩
          · by_cases h2 : hi2 < lo
            · skip
              have HR : Hid (r = 1) := Lib.hid (by rw [HR0.out]; refine varsR_bad (by have := HLN.out; omega) HLT.out (i := i) ?_; rw [HBA.out]; unfold varBad; rw [decide_eq_true h2]; simp)
              go_upto_region 11 with (first | ((with_reducible refine hnm1.mono ?_); rintro e W ⟨rfl, rfl⟩))
              go_ret
              exact ⟨by rw [HR.out]; rfl, HE6.out⟩
            · by_cases h3 : 2147483648 < hi2
              · skip
                have HR : Hid (r = 1) := Lib.hid (by rw [HR0.out]; refine varsR_bad (by have := HLN.out; omega) HLT.out (i := i) ?_; rw [HBA.out]; unfold varBad; rw [decide_eq_true h3]; simp)
                go_upto_region 11 with (first | ((with_reducible refine hnm1.mono ?_); rintro e W ⟨rfl, rfl⟩))
                go_ret
                exact ⟨by rw [HR.out]; rfl, HE6.out⟩
              · have HG : Hid (badAt l i = false) := Lib.hid (by rw [HBA.out]; unfold varBad; rw [← HA.out, ← HD.out, decide_eq_false h1, decide_eq_false h2, decide_eq_false h3]; rfl)
                obtain ⟨W7, o7, hrun, hs7, hO7, hg7⟩ := HO6.out.setPut 0 rfl HS.out key9 Tryd.underlying129 (x := s) HUS.out (of_decide_eq_false HD.out.symm) (v := .string s) rfl
                have HN := Lib.hid (And.intro hs7 hO7)
                clear hs7 hO7 hg7
                go_upto_region 10 with (first | ((with_reducible refine hnm1.mono ?_); rintro e W ⟨rfl, rfl⟩))
                clear hrun hlk x0 x1 x2 hnm1
                go_wp2
                refine ⟨⟨i + 1, o7, by go_num, hlt, Lib.hid ?_, Lib.hid (by rw [HTK.out]; exact HN.out.1), Lib.hid HN.out.2⟩, ?_⟩
                · intro k hk
                  by_cases hki : k = i
                  · subst hki; exact HG.out
                  · exact HF.out k (by omega)
                · simp [intOf]; omega
    · have hie : i = l.length := by omega
      subst hie
      have hlt2 : ¬ (l.length : Int) < (l.length : Int) := by omega
      have HR : Hid (r = 0) := Lib.hid (by rw [HR0.out]; exact varsR_good (by have := HLN.out; omega) HF.out)
      go_wp2
      go_ret
      exact ⟨by rw [HR.out]; rfl, HW.out.ext⟩
end Go.Proofs.YtggffdkgfgdaoaaDoor

namespace Go.Proofs.YtggffdkgfgdaoaaDoor
open Go.RowKit
set_option linter.unusedVariables false
set_option linter.unusedSimpArgs false
attribute [local go_sem] Oper.quietV quietV Oper.gives givesV ext_refl_iff ext_alloc_iff ext_drew_iff ext_drewN_iff
def offAt (l : List Vt) (xs : List Int) (k : Nat) : Bool := match l[k]?, xs[k]? with | some u, some x => decide (x < u.2.1) || decide (u.2.2 < x) | _, _ => false
def valsR (l : List Vt) (xs : List Int) : Int := if varsR l ≠ 0 then varsR l else if xs.length ≠ l.length then 16 else if (List.range l.length).any (offAt l xs) then 1 else 0
theorem valsR_vars {l : List Vt} {xs : List Int} (h : varsR l ≠ 0) : valsR l xs = varsR l := by unfold valsR; rw [if_pos h]
theorem valsR_len {l : List Vt} {xs : List Int} (h : varsR l = 0) (h2 : xs.length ≠ l.length) : valsR l xs = 16 := by unfold valsR; rw [if_neg (by omega), if_pos h2]
theorem valsR_off {l : List Vt} {xs : List Int} (h : varsR l = 0) (h2 : xs.length = l.length) {i : Nat} (hi : i < l.length) (hb : offAt l xs i = true) : valsR l xs = 1 := by
  unfold valsR; rw [if_neg (by omega), if_neg (by omega), if_pos (List.any_eq_true.2 ⟨i, List.mem_range.2 hi, hb⟩)]
theorem valsR_good {l : List Vt} {xs : List Int} (h : varsR l = 0) (h2 : xs.length = l.length) (hb : ∀ i < l.length, offAt l xs i = false) : valsR l xs = 0 := by
  unfold valsR; rw [if_neg (by omega), if_neg (by omega), if_neg]
  intro h2
  obtain ⟨i, hi, hbi⟩ := List.any_eq_true.1 h2
  rw [hb i (List.mem_range.1 hi)] at hbi; cases hbi
set_option maxRecDepth 100000 in
set_option maxHeartbeats 16000000 in
theorem checkValues_any (w : World) (v xv : Value) (l : List Vt) (xs : List Int) (c cx : Nat) (hv : VarsC w v l c) (hx : IntsC w xv xs cx) : Calls Tryd.prog 37 #[v, xv] w (ErrP w (valsR l xs)) := by
  obtain ⟨r, hr⟩ : ∃ r : Int, r = valsR l xs := ⟨_, rfl⟩
  rw [← hr]
  have hcv := checkVars_any w v l c hv
  obtain ⟨A, rfl, hcs, hlc, hlm, hsz⟩ := hv
  obtain ⟨Ax, rfl, hxc, hxl, hxm⟩ := hx
  unfold lenMax at hlm hxm
  have HX := Lib.hid (And.intro hcs hxc)
  have HR0 := Lib.hid hr
  obtain ⟨rv, hrv⟩ : ∃ rv, rv = varsR l := ⟨_, rfl⟩
  rw [← hrv] at hcv
  have HRV := Lib.hid hrv
  unfold ErrP at hcv
  clear hr hcs hxc hsz hrv
  by_cases hz : rv = 0
  rotate_left
  · have HR : Hid (r = rv) := Lib.hid (by rw [HR0.out, HRV.out]; exact valsR_vars (by rw [← HRV.out]; exact hz))
    have hz2 : (rv != 0) = true := bne_iff_ne.2 hz
    clear hz
    go_enter Tryd.func37, Tryd.ntmps37
    go_upto_region 2 with (first | ((with_reducible refine hcv.mono ?_); rintro e W1 ⟨rfl, e1⟩))
    clear hcv
    go_wp2
    go_ret
    exact ⟨by rw [HR.out]; rfl, e1⟩
  subst hz
  have HV0 : Hid (varsR l = 0) := Lib.hid HRV.out.symm
  by_cases hle : (xs.length : Int) = l.length
  rotate_left
  · have HR : Hid (r = 16) := Lib.hid (by rw [HR0.out]; exact valsR_len HV0.out (by omega))
    have hz2 : ((xs.length : Int) != (l.length : Int)) = true := bne_iff_ne.2 hle
    clear hle
    go_enter Tryd.func37, Tryd.ntmps37
    go_upto_region 2 with (first | ((with_reducible refine hcv.mono ?_); rintro e W1 ⟨rfl, e1⟩))
    clear hcv
    go_wp2
    go_ret
    exact ⟨by rw [HR.out]; rfl, e1⟩
  have HLE : Hid (xs.length = l.length) := Lib.hid (by omega)
  have hle2 : xs.length = l.length := by omega
  clear hle
  rw [hle2]
  rw [hle2] at hxl hxm
  clear hle2
  go_enter Tryd.func37, Tryd.ntmps37
  go_upto_region 2 with (first | ((with_reducible refine hcv.mono ?_); rintro e W1 ⟨rfl, e1⟩))
  have HE1 := Lib.hid e1
  clear hcv e1
  go_wp2
  go_loopw [20] (fun iv wr => ∃ (i : Nat), iv = .int .i64 i ∧ i ≤ l.length ∧ Hid (∀ k < i, offAt l xs k = false) ∧ Hid (Ext w wr)) (fun iv _ => l.length - (intOf iv).toNat)
  case atStart => exact ⟨0, by first | rfl | simp, Nat.zero_le _, Lib.hid (by intro k h; omega), HE1⟩
  case round =>
    obtain ⟨i, rfl, hi, HF, HW⟩ := hrel
    obtain ⟨W5, hW5⟩ : ∃ W, W = wr := ⟨_, rfl⟩; subst hW5
    have hR5 := Ext.refl W5
    by_cases hlt : i < l.length
    · have hlI : (i : Int) < (l.length : Int) := by omega
      obtain ⟨u, hu⟩ : ∃ u, l[i]? = some u := ⟨_, List.getElem?_eq_getElem hlt⟩
      obtain ⟨x, hx⟩ : ∃ x, xs[i]? = some x := ⟨_, List.getElem?_eq_getElem (by have := HLE.out; omega)⟩
      obtain ⟨bs, os, hA, d0, d1, d2⟩ := var_at HX.out.1 hu
      subst hA
      obtain ⟨bx, ox, hAx, _, dx⟩ := HX.out.2.at_int (List.getElem?_eq_some_iff.1 hx).1
      subst hAx
      rw [(List.getElem?_eq_some_iff.1 hx).2] at dx
      have HOF : Hid (offAt l xs i = (decide (x < u.2.1) || decide (u.2.2 < x))) := Lib.hid (by unfold offAt; rw [hu, hx])
      have HLT := Lib.hid hlt
      obtain ⟨s, lo, hi2⟩ := u
      have d0 := fun w' (h : Ext W5 w') => (HW.out.trans h).cell d0
      have d1 := fun w' (h : Ext W5 w') => (HW.out.trans h).cell d1
      have d2 := fun w' (h : Ext W5 w') => (HW.out.trans h).cell d2
      have dx := fun w' (h : Ext W5 w') => (HW.out.trans h).cell dx
      clear hu hx
      go_upto_region 9 with fail
      refine wp_named ?_
      intro W6 hW6
      have hE56 : Ext W5 W6 := by rw [hW6]; exact alloc_ext _ _
      have x1 : ∀ w', Ext W6 w' → w'.cell? ⟨W5.heap.size, 1, none⟩ = some (.int .i64 lo) := fun w' h => h.cell (by rw [hW6]; simp [go_sem])
      have x2 : ∀ w', Ext W6 w' → w'.cell? ⟨W5.heap.size, 2, none⟩ = some (.int .i64 hi2) := fun w' h => h.cell (by rw [hW6]; simp [go_sem])
      have dx := fun w' (h : Ext W6 w') => dx w' (hE56.trans h)
      have HE6 := Lib.hid (HW.out.trans hE56)
      clear hW6 hE56 d0 d1 d2 HW
      generalize W5.heap.size = b4 at *
      have hR6 := Ext.refl W6
      by_cases h1 : x < lo
      · skip
        have HR : Hid (r = 1) := Lib.hid (by rw [HR0.out]; exact valsR_off HV0.out HLE.out HLT.out (by rw [HOF.out]; rw [decide_eq_true h1]; rfl))
        go_quiet (fail)
        go_wp2
        go_ret
        exact ⟨by rw [HR.out]; rfl, HE6.out.trans ((Ext.refl _).drewN _)⟩
      · by_cases h2 : hi2 < x
        · skip
          have HR : Hid (r = 1) := Lib.hid (by rw [HR0.out]; exact valsR_off HV0.out HLE.out HLT.out (by rw [HOF.out]; rw [decide_eq_true h2]; simp))
          go_quiet (fail)
          go_wp2
          go_ret
          exact ⟨by rw [HR.out]; rfl, HE6.out.trans ((Ext.refl _).drewN _)⟩
        · have HG : Hid (offAt l xs i = false) := Lib.hid (by rw [HOF.out, decide_eq_false h1, decide_eq_false h2]; rfl)
          go_quiet (fail)
          go_wp2
          refine ⟨⟨i + 1, by go_num, hlt, Lib.hid ?_, Lib.hid (HE6.out.trans ((Ext.refl _).drewN _))⟩, ?_⟩
          · intro k hk
            by_cases hki : k = i
            · subst hki; exact HG.out
            · exact HF.out k (by omega)
          · simp [intOf]; omega
    · have hie : i = l.length := by omega
      subst hie
      have hlt2 : ¬ (l.length : Int) < (l.length : Int) := by omega
      have HR : Hid (r = 0) := Lib.hid (by rw [HR0.out]; exact valsR_good HV0.out HLE.out HF.out)
      go_wp2
      go_ret
      exact ⟨by rw [HR.out]; rfl, HW.out⟩
end Go.Proofs.YtggffdkgfgdaoaaDoor
