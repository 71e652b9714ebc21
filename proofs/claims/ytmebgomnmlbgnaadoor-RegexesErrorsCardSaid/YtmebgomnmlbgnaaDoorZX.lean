/-   -/
import Derived.Test.YtmebgomnmlbgnaaDoorZO
import Derived.Test.YtmebgomnmlbgnaaDoorZW
set_option linter.unnecessarySimpa false
set_option linter.unusedSectionVars false
namespace Go.Proofs.YtmebgomnmlbgnaaDoor
open Go.RowKit Go.Maps
set_option linter.unusedVariables false
set_option linter.unusedSimpArgs false
attribute [local go_sem] Oper.quietV quietV Oper.gives givesV ext_refl_iff ext_alloc_iff ext_drew_iff ext_drewN_iff
theorem beq_take {α : Type} [BEq α] [LawfulBEq α] {xs ys : List α} (h : xs.length = ys.length) {i : Nat} (hi : i < xs.length) (hp : xs.take i = ys.take i) (he : xs[i]? = ys[i]?) : xs.take (i + 1) = ys.take (i + 1) := by
  rw [List.take_add_one, List.take_add_one, hp, he]
theorem beq_ne {α : Type} [BEq α] [LawfulBEq α] {xs ys : List α} {i : Nat} (he : xs[i]? ≠ ys[i]?) : (xs == ys) = false := by
  rw [beq_eq_false_iff_ne]
  intro h; exact he (by rw [h])
set_option maxRecDepth 100000 in
theorem eqInts_any {w : World} {v u : Value} {xs ys : List Int} {ca cb : Nat} (hv : IntsC w v xs ca) (hu : IntsC w u ys cb) : Calls Tryd.prog 68 #[v, u] w (fun e w' => e = .returned (.bool (xs == ys)) ∧ Ext w w') := by
  obtain ⟨A, rfl, ha, _, hx⟩ := hv
  obtain ⟨B, rfl, hb, _, hy⟩ := hu
  unfold lenMax at hx hy
  obtain ⟨R, hR⟩ : ∃ R, R = (xs == ys) := ⟨_, rfl⟩
  rw [← hR]
  have HR := Lib.hid hR
  have HA := Lib.hid (And.intro ha hb)
  clear hR ha hb
  by_cases hl : xs.length = ys.length
  · have hlI : ((xs.length : Int) != (ys.length : Int)) = false := by simp; omega
    have HL := Lib.hid hl
    rw [← hl] at hy hlI ⊢
    clear hl
    go_enter Tryd.func68, Tryd.ntmps68
    go_wp2
    go_loopw [13] (fun iv wr => ∃ i : Nat, iv = .int .i64 i ∧ i ≤ xs.length ∧ Hid (xs.take i = ys.take i) ∧ Ext w wr) (fun iv _ => xs.length - (intOf iv).toNat)
    case atStart => exact ⟨0, rfl, Nat.zero_le _, Lib.hid rfl, Ext.refl _⟩
    case round =>
      obtain ⟨i, rfl, hi, HP, hE⟩ := hrel
      obtain ⟨W3, hW3⟩ : ∃ W, W = wr := ⟨_, rfl⟩; subst hW3
      by_cases hlt : i < xs.length
      · have hiI : (i : Int) < (xs.length : Int) := by omega
        have hlt2 : i < ys.length := by rw [← HL.out]; exact hlt
        obtain ⟨b, o, hA, _, c1⟩ := (HA.out.1.ext hE).at_int hlt
        obtain ⟨b', o', hA', _, c2⟩ := (HA.out.2.ext hE).at_int hlt2
        subst hA hA'
        have c1 := fun w' (h : Ext W3 w') => h.cell c1
        have c2 := fun w' (h : Ext W3 w') => h.cell c2
        have HX : Hid (xs[i]? = some xs[i]) := Lib.hid (List.getElem?_eq_getElem hlt)
        have HY : Hid (ys[i]? = some ys[i]) := Lib.hid (List.getElem?_eq_getElem hlt2)
        generalize xs[i] = a at *
        generalize ys[i] = b2 at *
        clear hlt2
        by_cases hab : a = b2
        · subst hab
          have hne : (a != a) = false := by simp
          have HN : Hid (xs.take (i + 1) = ys.take (i + 1)) := Lib.hid (beq_take HL.out hlt HP.out (HX.out.trans HY.out.symm))
          go_upto_region 6 with fail
          refine wp_region_ext 8 (factsOf []) (fun k => ([[], [], [0, 1], [0, 1, 2], [], [], [4, 5], [4, 5, 6], [0, 1, 2, 3, 4, 5, 6, 7]] : List (List Nat)).getD k []) (by kernel_rfl) (by kernel_rfl) Ext.pre (mono_nil) ?_
          simp only [List.take_succ_cons, List.take_zero]
          repeat (first | (with_reducible refine lexL_quiet' (v := ?_) ?_ ?_ ?_ ?_; rotate_left; (· with_reducible rfl); (· simp [factsOf]); (· intro w1 hw1 _; go_simp; with_reducible rfl); (try simp only [Act.put, List.setIfInBounds_toArray, List.set_cons_zero, List.set_cons_succ])) | (with_reducible refine lexL_skip ?_ ?_; (· simp [Region.wanted, yielded, undef]); (try simp only [Act.put, List.setIfInBounds_toArray, List.set_cons_zero, List.set_cons_succ])) | (with_reducible refine lexL_quiet (v := ?_) ?_ ?_ ?_ ?_; rotate_left; (· simp [Region.wanted, yielded, undef]); (· simp [factsOf]); (· intro w1 hw1 _; go_simp; with_reducible rfl); (try simp only [Act.put, List.setIfInBounds_toArray, List.set_cons_zero, List.set_cons_succ])))
          with_reducible refine lexL_nil ?_; intro w1 hw1 hk1; simp only [List.drop_succ_cons, List.drop_zero]
          have hE9 := hE.trans hw1
          clear hw1 c1 c2
          go_wp2
          go_roundw
          case rel => exact ⟨i + 1, by go_num, by omega, HN, hE9⟩
          case measure => simp [intOf]; omega
        · have hne : (a != b2) = true := by simpa using hab
          have HN : Hid (R = false) := Lib.hid (by rw [HR.out]; exact beq_ne (i := i) (by rw [HX.out, HY.out]; simpa using hab))
          clear hab
          go_upto_region 6 with fail
          refine wp_region_ext 8 (factsOf []) (fun k => ([[], [], [0, 1], [0, 1, 2], [], [], [4, 5], [4, 5, 6], [0, 1, 2, 3, 4, 5, 6, 7]] : List (List Nat)).getD k []) (by kernel_rfl) (by kernel_rfl) Ext.pre (mono_nil) ?_
          simp only [List.take_succ_cons, List.take_zero]
          repeat (first | (with_reducible refine lexL_quiet' (v := ?_) ?_ ?_ ?_ ?_; rotate_left; (· with_reducible rfl); (· simp [factsOf]); (· intro w1 hw1 _; go_simp; with_reducible rfl); (try simp only [Act.put, List.setIfInBounds_toArray, List.set_cons_zero, List.set_cons_succ])) | (with_reducible refine lexL_skip ?_ ?_; (· simp [Region.wanted, yielded, undef]); (try simp only [Act.put, List.setIfInBounds_toArray, List.set_cons_zero, List.set_cons_succ])) | (with_reducible refine lexL_quiet (v := ?_) ?_ ?_ ?_ ?_; rotate_left; (· simp [Region.wanted, yielded, undef]); (· simp [factsOf]); (· intro w1 hw1 _; go_simp; with_reducible rfl); (try simp only [Act.put, List.setIfInBounds_toArray, List.set_cons_zero, List.set_cons_succ])))
          with_reducible refine lexL_nil ?_; intro w1 hw1 hk1; simp only [List.drop_succ_cons, List.drop_zero]
          have hE9 := Lib.hid (hE.trans hw1)
          clear hw1 c1 c2 hE
          go_wp2
          go_ret
          exact ⟨by rw [HN.out]; rfl, hE9.out⟩
      · have hie : i = xs.length := by omega
        subst hie
        have hiI : ¬ (xs.length : Int) < (xs.length : Int) := by omega
        have HN : Hid (R = true) := Lib.hid (by
          rw [HR.out, beq_iff_eq]
          have h := HP.out
          rw [List.take_length] at h
          rw [h, HL.out, List.take_length])
        have HE := Lib.hid hE
        clear hE
        go_wp2
        go_ret
        exact ⟨by rw [HN.out]; rfl, HE.out⟩
  · have hlI : ((xs.length : Int) != (ys.length : Int)) = true := by simp; omega
    have HN : Hid (R = false) := Lib.hid (by rw [HR.out, beq_eq_false_iff_ne]; intro h; exact hl (by rw [h]))
    clear hl
    go_enter Tryd.func68, Tryd.ntmps68
    go_wp2
    go_ret
    exact ⟨by rw [HN.out]; rfl, Ext.refl _⟩
set_option maxRecDepth 100000 in
theorem eqBools_any {w : World} {v u : Value} {xs ys : List Bool} {ca cb : Nat} (hv : BoolsC w v xs ca) (hu : BoolsC w u ys cb) : Calls Tryd.prog 69 #[v, u] w (fun e w' => e = .returned (.bool (xs == ys)) ∧ Ext w w') := by
  obtain ⟨A, rfl, ha, _, hx⟩ := hv
  obtain ⟨B, rfl, hb, _, hy⟩ := hu
  unfold lenMax at hx hy
  obtain ⟨R, hR⟩ : ∃ R, R = (xs == ys) := ⟨_, rfl⟩
  rw [← hR]
  have HR := Lib.hid hR
  have HA := Lib.hid (And.intro ha hb)
  clear hR ha hb
  by_cases hl : xs.length = ys.length
  · have hlI : ((xs.length : Int) != (ys.length : Int)) = false := by simp; omega
    have HL := Lib.hid hl
    rw [← hl] at hy hlI ⊢
    clear hl
    go_enter Tryd.func69, Tryd.ntmps69
    go_wp2
    go_loopw [13] (fun iv wr => ∃ i : Nat, iv = .int .i64 i ∧ i ≤ xs.length ∧ Hid (xs.take i = ys.take i) ∧ Ext w wr) (fun iv _ => xs.length - (intOf iv).toNat)
    case atStart => exact ⟨0, rfl, Nat.zero_le _, Lib.hid rfl, Ext.refl _⟩
    case round =>
      obtain ⟨i, rfl, hi, HP, hE⟩ := hrel
      obtain ⟨W3, hW3⟩ : ∃ W, W = wr := ⟨_, rfl⟩; subst hW3
      by_cases hlt : i < xs.length
      · have hiI : (i : Int) < (xs.length : Int) := by omega
        have hlt2 : i < ys.length := by rw [← HL.out]; exact hlt
        obtain ⟨b, o, hA, _, c1⟩ := (HA.out.1.ext hE).at_bool hlt
        obtain ⟨b', o', hA', _, c2⟩ := (HA.out.2.ext hE).at_bool hlt2
        subst hA hA'
        have c1 := fun w' (h : Ext W3 w') => h.cell c1
        have c2 := fun w' (h : Ext W3 w') => h.cell c2
        have HX : Hid (xs[i]? = some xs[i]) := Lib.hid (List.getElem?_eq_getElem hlt)
        have HY : Hid (ys[i]? = some ys[i]) := Lib.hid (List.getElem?_eq_getElem hlt2)
        generalize xs[i] = a at *
        generalize ys[i] = b2 at *
        clear hlt2
        by_cases hab : a = b2
        · subst hab
          have HN : Hid (xs.take (i + 1) = ys.take (i + 1)) := Lib.hid (beq_take HL.out hlt HP.out (HX.out.trans HY.out.symm))
          cases a
          all_goals
            go_upto_region 6 with fail
            refine wp_region_ext 8 (factsOf []) (fun k => ([[], [], [0, 1], [0, 1, 2], [], [], [4, 5], [4, 5, 6], [0, 1, 2, 3, 4, 5, 6, 7]] : List (List Nat)).getD k []) (by kernel_rfl) (by kernel_rfl) Ext.pre (mono_nil) ?_
            simp only [List.take_succ_cons, List.take_zero]
            repeat (first | (with_reducible refine lexL_quiet' (v := ?_) ?_ ?_ ?_ ?_; rotate_left; (· with_reducible rfl); (· simp [factsOf]); (· intro w1 hw1 _; go_simp; with_reducible rfl); (try simp only [Act.put, List.setIfInBounds_toArray, List.set_cons_zero, List.set_cons_succ])) | (with_reducible refine lexL_skip ?_ ?_; (· simp [Region.wanted, yielded, undef]); (try simp only [Act.put, List.setIfInBounds_toArray, List.set_cons_zero, List.set_cons_succ])) | (with_reducible refine lexL_quiet (v := ?_) ?_ ?_ ?_ ?_; rotate_left; (· simp [Region.wanted, yielded, undef]); (· simp [factsOf]); (· intro w1 hw1 _; go_simp; with_reducible rfl); (try simp only [Act.put, List.setIfInBounds_toArray, List.set_cons_zero, List.set_cons_succ])))
            with_reducible refine lexL_nil ?_; intro w1 hw1 hk1; simp only [List.drop_succ_cons, List.drop_zero]
            have hE9 := hE.trans hw1
            clear hw1 c1 c2
            go_wp2
            go_roundw
            case rel => exact ⟨i + 1, by go_num, by omega, HN, hE9⟩
            case measure => simp [intOf]; omega
        · have HN : Hid (R = false) := Lib.hid (by rw [HR.out]; exact beq_ne (i := i) (by rw [HX.out, HY.out]; simpa using hab))
          cases a <;> cases b2
          · exact absurd rfl hab
          rotate_right
          · exact absurd rfl hab
          all_goals
            clear hab
            go_upto_region 6 with fail
            refine wp_region_ext 8 (factsOf []) (fun k => ([[], [], [0, 1], [0, 1, 2], [], [], [4, 5], [4, 5, 6], [0, 1, 2, 3, 4, 5, 6, 7]] : List (List Nat)).getD k []) (by kernel_rfl) (by kernel_rfl) Ext.pre (mono_nil) ?_
            simp only [List.take_succ_cons, List.take_zero]
            repeat (first | (with_reducible refine lexL_quiet' (v := ?_) ?_ ?_ ?_ ?_; rotate_left; (· with_reducible rfl); (· simp [factsOf]); (· intro w1 hw1 _; go_simp; with_reducible rfl); (try simp only [Act.put, List.setIfInBounds_toArray, List.set_cons_zero, List.set_cons_succ])) | (with_reducible refine lexL_skip ?_ ?_; (· simp [Region.wanted, yielded, undef]); (try simp only [Act.put, List.setIfInBounds_toArray, List.set_cons_zero, List.set_cons_succ])) | (with_reducible refine lexL_quiet (v := ?_) ?_ ?_ ?_ ?_; rotate_left; (· simp [Region.wanted, yielded, undef]); (· simp [factsOf]); (· intro w1 hw1 _; go_simp; with_reducible rfl); (try simp only [Act.put, List.setIfInBounds_toArray, List.set_cons_zero, List.set_cons_succ])))
            with_reducible refine lexL_nil ?_; intro w1 hw1 hk1; simp only [List.drop_succ_cons, List.drop_zero]
            have hE9 := Lib.hid (hE.trans hw1)
            clear hw1 c1 c2 hE
            go_wp2
            go_ret
            exact ⟨by rw [HN.out]; rfl, hE9.out⟩
      · have hie : i = xs.length := by omega
        subst hie
        have hiI : ¬ (xs.length : Int) < (xs.length : Int) := by omega
        have HN : Hid (R = true) := Lib.hid (by
          rw [HR.out, beq_iff_eq]
          have h := HP.out
          rw [List.take_length] at h
          rw [h, HL.out, List.take_length])
        have HE := Lib.hid hE
        clear hE
        go_wp2
        go_ret
        exact ⟨by rw [HN.out]; rfl, HE.out⟩
  · have hlI : ((xs.length : Int) != (ys.length : Int)) = true := by simp; omega
    have HN : Hid (R = false) := Lib.hid (by rw [HR.out, beq_eq_false_iff_ne]; intro h; exact hl (by rw [h]))
    clear hl
    go_enter Tryd.func69, Tryd.ntmps69
    go_wp2
    go_ret
    exact ⟨by rw [HN.out]; rfl, Ext.refl _⟩
set_option maxRecDepth 100000 in
set_option maxHeartbeats 4000000 in
theorem eqLists_any {w : World} {v u : Value} {xs ys : List (List Int)} {ca cb : Nat} (hv : ListsC w v xs ca) (hu : ListsC w u ys cb) : Calls Tryd.prog 67 #[v, u, .func (.func 68) #[] #[]] w (fun e w' => e = .returned (.bool (xs == ys)) ∧ Ext w w') := by
  obtain ⟨A, va, rfl, _, _, _, _, hx⟩ := id hv
  obtain ⟨B, vb, rfl, _, _, _, _, hy⟩ := id hu
  unfold lenMax at hx hy
  obtain ⟨R, hR⟩ : ∃ R, R = (xs == ys) := ⟨_, rfl⟩
  rw [← hR]
  have HR := Lib.hid hR
  have HA := Lib.hid (And.intro hv hu)
  clear hR hv hu
  by_cases hl : xs.length = ys.length
  · have hlI : ((xs.length : Int) != (ys.length : Int)) = false := by simp; omega
    have HL := Lib.hid hl
    clear hl
    go_enter Tryd.func67, Tryd.ntmps67
    go_wp2
    go_loopw [17] (fun iv wr => ∃ i : Nat, iv = .int .i64 i ∧ i ≤ xs.length ∧ Hid (xs.take i = ys.take i) ∧ Ext w wr) (fun iv _ => xs.length - (intOf iv).toNat)
    case atStart => exact ⟨0, rfl, Nat.zero_le _, Lib.hid rfl, Ext.refl _⟩
    case round =>
      obtain ⟨i, rfl, hi, HP, hE⟩ := hrel
      obtain ⟨W3, hW3⟩ : ∃ W, W = wr := ⟨_, rfl⟩; subst hW3
      by_cases hlt : i < xs.length
      · have hiI : (i : Int) < (xs.length : Int) := by omega
        have hlt2 : i < ys.length := by have := HL.out; omega
        have hiI2 : (i : Int) < (ys.length : Int) := by have := HL.out; omega
        obtain ⟨b, o, u1, c', hv1, _, c1, h1⟩ := (HA.out.1.ext hE).at_ hlt
        obtain ⟨b', o', u2, c'', hv2, _, c2, h2⟩ := (HA.out.2.ext hE).at_ hlt2
        cases hv1
        cases hv2
        have hst := eqInts_any h1 h2
        obtain ⟨A1, rfl, -⟩ := id h1
        obtain ⟨A2, rfl, -⟩ := id h2
        have HX : Hid (xs[i]? = some xs[i]) := Lib.hid (List.getElem?_eq_getElem hlt)
        have HY : Hid (ys[i]? = some ys[i]) := Lib.hid (List.getElem?_eq_getElem hlt2)
        clear h1 h2
        generalize xs[i] = a at *
        generalize ys[i] = b2 at *
        clear hlt2
        by_cases hab : a = b2
        · subst hab
          rw [show (a == a) = true by simp] at hst
          have HN : Hid (xs.take (i + 1) = ys.take (i + 1)) := Lib.hid (beq_take HL.out hlt HP.out (HX.out.trans HY.out.symm))
          go_wp2_with ((with_reducible refine hst.mono ?_); rintro e W5 ⟨rfl, e5⟩)
          go_roundw
          case rel => exact ⟨i + 1, by go_num, by omega, HN, hE.trans e5⟩
          case measure => simp [intOf]; omega
        · rw [show (a == b2) = false by simpa using hab] at hst
          have HN : Hid (R = false) := Lib.hid (by rw [HR.out]; exact beq_ne (i := i) (by rw [HX.out, HY.out]; simpa using hab))
          have HE := Lib.hid hE
          clear hab hE
          go_wp2_with ((with_reducible refine hst.mono ?_); rintro e W5 ⟨rfl, e5⟩)
          go_ret
          exact ⟨by rw [HN.out]; rfl, HE.out.trans e5⟩
      · have hie : i = xs.length := by omega
        subst hie
        have hiI : ¬ (xs.length : Int) < (xs.length : Int) := by omega
        have HN : Hid (R = true) := Lib.hid (by
          rw [HR.out, beq_iff_eq]
          have h := HP.out
          rw [List.take_length] at h
          rw [h, HL.out, List.take_length])
        have HE := Lib.hid hE
        clear hE
        go_wp2
        go_ret
        exact ⟨by rw [HN.out]; rfl, HE.out⟩
  · have hlI : ((xs.length : Int) != (ys.length : Int)) = true := by simp; omega
    have HN : Hid (R = false) := Lib.hid (by rw [HR.out, beq_eq_false_iff_ne]; intro h; exact hl (by rw [h]))
    clear hl
    go_enter Tryd.func67, Tryd.ntmps67
    go_wp2
    go_ret
    exact ⟨by rw [HN.out]; rfl, Ext.refl _⟩
end Go.Proofs.YtmebgomnmlbgnaaDoor

namespace Go.Proofs.YtmebgomnmlbgnaaDoor
open Go.RowKit Go.Maps
set_option linter.unusedVariables false
set_option linter.unusedSimpArgs false
attribute [local go_sem] Oper.quietV quietV Oper.gives givesV ext_refl_iff ext_alloc_iff ext_drew_iff ext_drewN_iff
theorem intR_beq (a b : List (List Nat)) : (intR a == intR b) = (a == b) := by
  have h1 : ∀ x y : List Nat, x.map Int.ofNat = y.map Int.ofNat → x = y := fun x y h => (List.map_inj_right (fun a b h => by cases h; rfl)).1 h
  have h2 : ∀ x y : List (List Nat), intR x = intR y → x = y := fun x y h => (List.map_inj_right (fun a b h => h1 a b h)).1 h
  rw [Bool.eq_iff_iff, beq_iff_eq, beq_iff_eq]
  exact ⟨h2 a b, fun h => by rw [h]⟩
def eqR (m : Nat) (r s : Rx) : Bool × Int := match dfaR m r, dfaR m s with
  | some D, some E => (D.rows == E.rows && D.acc == E.acc, 0)
  | _, _ => (false, 3)
set_option maxRecDepth 100000 in
set_option maxHeartbeats 16000000 in
theorem equal_bad1 {sy er : Int} {t u : Tr} {w : World} {v v' : Value} (hN : NodeV w t v) (hN' : NodeV w u v') (hT : Tabs w) (hc1 : checkX sy t = er) (hc2 : er ≠ 0) : Calls Tryd.prog 31 #[v, v', .int .i64 sy] w (PairP w (.bool false) er) := by
  obtain ⟨-, A, c, -, rfl, -⟩ := hN.form
  obtain ⟨-, A', c', -, rfl, -⟩ := hN'.form
  have HK := Lib.hid (And.intro hN (And.intro hN' hT))
  have HC := Lib.hid hc1
  have HC2 := Lib.hid hc2
  obtain ⟨o1, ho1⟩ : ∃ o, o = t.op := ⟨_, rfl⟩
  obtain ⟨n1, hn1⟩ : ∃ o, o = t.n := ⟨_, rfl⟩
  obtain ⟨l1, hl1⟩ : ∃ o, o = t.subs.length := ⟨_, rfl⟩
  obtain ⟨o2, ho2⟩ : ∃ o, o = u.op := ⟨_, rfl⟩
  obtain ⟨n2, hn2⟩ : ∃ o, o = u.n := ⟨_, rfl⟩
  obtain ⟨l2, hl2⟩ : ∃ o, o = u.subs.length := ⟨_, rfl⟩
  rw [← ho1, ← hn1, ← hl1, ← ho2, ← hn2, ← hl2] at HK ⊢
  clear hN hN' hT hc1 hc2 ho1 hn1 hl1 ho2 hn2 hl2
  go_enter Tryd.func31, Tryd.ntmps31
  go_upto_region 1 with fail
  refine wp_named ?_
  intro W1 hW1
  have hE1 : Ext w W1 := by rw [hW1]; exact (alloc_ext _ _).trans (alloc_ext _ _)
  have hB3 : W1.heap[w.heap.size]? = some (.cells #[.int .u8 (o1 : Int), .int .i64 n1, .slice A l1 c] 35) := by rw [hW1]; exact heap_ext (alloc_ext _ _) (heap_alloc_new _ _)
  have hB4 : W1.heap[w.heap.size + 1]? = some (.cells #[.int .u8 (o2 : Int), .int .i64 n2, .slice A' l2 c'] 35) := by rw [hW1]; exact heap_new2 _ _ _
  have HB := Lib.hid (And.intro hE1 (And.intro hB3 hB4))
  clear hW1 hE1
  go_upto_region 2 with (first
    | (with_reducible refine wpList_load_row rfl 35 _ rfl w.heap.size rfl 35 _ (0, 0) _ hB3 Tryd.underlying35 rfl (by kernel_rfl) ?_)
    | (with_reducible refine wpList_load_row rfl 35 _ rfl (w.heap.size + 1) rfl 35 _ (0, 0) _ hB4 Tryd.underlying35 rfl (by kernel_rfl) ?_))
  refine wp_named ?_
  intro W2 hW2
  have hE2 : Ext W1 W2 := by rw [hW2]; exact alloc_ext _ _
  have hBN : W2.heap[W1.heap.size]? = some (.cells #[.int .u8 (o1 : Int), .int .i64 n1, .slice A l1 c, .int .u8 (o2 : Int), .int .i64 n2, .slice A' l2 c'] 35) := by rw [hW2]; exact heap_alloc_new _ _
  obtain ⟨bN, hbN⟩ : ∃ b, b = W1.heap.size := ⟨_, rfl⟩
  rw [← hbN] at hBN ⊢
  have HN := Lib.hid (And.intro hE2 hBN)
  clear hW2 hE2 hBN hbN hB3 hB4
  go_wp2
  have hne : (er != 0) = true := bne_iff_ne.2 HC2.out
  have hck := fun w' (e : Ext W2 w') => check_any (sy := sy) (HK.out.1.ext (HB.out.1.trans (HN.out.1.trans e))) (HK.out.2.2.ext (HB.out.1.trans (HN.out.1.trans e)))
  rw [HC.out] at hck
  have hck : ∀ w', Ext W2 w' → Calls Tryd.prog 35 #[.agg #[.int .u8 (o1 : Int), .int .i64 n1, .slice A l1 c], .int .i64 sy] w' (fun e w'' => e = .returned (.int .i64 er) ∧ Ext w' w'') := hck
  go_loopw [18] (fun iv wr => iv = .int .i64 0 ∧ wr = W2) (fun iv _ => 0)
  case atStart => exact ⟨rfl, rfl⟩
  case round =>
    obtain ⟨rfl, rfl⟩ := hrel
    have c0 := cell_of_blk HN.out.2 0 (u := .int .u8 (o1 : Int)) rfl
    have c1 := cell_of_blk HN.out.2 1 (u := .int .i64 n1) rfl
    have c2 := cell_of_blk HN.out.2 2 (u := .slice A l1 c) rfl
    go_upto_region 4 with fail
    refine wp_named ?_
    intro w7 hW7
    have hE7 : Ext wr w7 := by rw [hW7]; exact alloc_ext _ _
    have h7 : w7.heap[wr.heap.size]? = some (.cells #[.int .u8 (o1 : Int), .int .i64 n1, .slice A l1 c] 35 (0, 0)) := by rw [hW7]; exact heap_alloc_new _ _
    have hck := hck w7 hE7
    have HE7 := Lib.hid hE7
    clear hW7 c0 c1 c2 hE7
    go_wp2_with (first
      | (with_reducible refine wpList_load_row rfl 35 _ rfl wr.heap.size rfl 35 _ (0, 0) _ h7 Tryd.underlying35 rfl (by kernel_rfl) ?_)
      | ((with_reducible refine hck.mono ?_); rintro e W8 ⟨rfl, e8⟩))
    go_ret2
    exact ⟨rfl, HB.out.1.trans (HN.out.1.trans (HE7.out.trans e8))⟩
set_option maxRecDepth 100000 in
set_option maxHeartbeats 16000000 in
theorem equal_bad2 {sy er : Int} {t u : Tr} {w : World} {v v' : Value} (hN : NodeV w t v) (hN' : NodeV w u v') (hT : Tabs w) (hc1 : checkX sy t = 0) (hc2 : checkX sy u = er ∧ er ≠ 0) : Calls Tryd.prog 31 #[v, v', .int .i64 sy] w (PairP w (.bool false) er) := by
  obtain ⟨-, A, c, -, rfl, -⟩ := hN.form
  obtain ⟨-, A', c', -, rfl, -⟩ := hN'.form
  have HK := Lib.hid (And.intro hN (And.intro hN' hT))
  have HC := Lib.hid hc1
  have HC2 := Lib.hid hc2
  obtain ⟨o1, ho1⟩ : ∃ o, o = t.op := ⟨_, rfl⟩
  obtain ⟨n1, hn1⟩ : ∃ o, o = t.n := ⟨_, rfl⟩
  obtain ⟨l1, hl1⟩ : ∃ o, o = t.subs.length := ⟨_, rfl⟩
  obtain ⟨o2, ho2⟩ : ∃ o, o = u.op := ⟨_, rfl⟩
  obtain ⟨n2, hn2⟩ : ∃ o, o = u.n := ⟨_, rfl⟩
  obtain ⟨l2, hl2⟩ : ∃ o, o = u.subs.length := ⟨_, rfl⟩
  rw [← ho1, ← hn1, ← hl1, ← ho2, ← hn2, ← hl2] at HK ⊢
  clear hN hN' hT hc1 hc2 ho1 hn1 hl1 ho2 hn2 hl2
  go_enter Tryd.func31, Tryd.ntmps31
  go_upto_region 1 with fail
  refine wp_named ?_
  intro W1 hW1
  have hE1 : Ext w W1 := by rw [hW1]; exact (alloc_ext _ _).trans (alloc_ext _ _)
  have hB3 : W1.heap[w.heap.size]? = some (.cells #[.int .u8 (o1 : Int), .int .i64 n1, .slice A l1 c] 35) := by rw [hW1]; exact heap_ext (alloc_ext _ _) (heap_alloc_new _ _)
  have hB4 : W1.heap[w.heap.size + 1]? = some (.cells #[.int .u8 (o2 : Int), .int .i64 n2, .slice A' l2 c'] 35) := by rw [hW1]; exact heap_new2 _ _ _
  have HB := Lib.hid (And.intro hE1 (And.intro hB3 hB4))
  clear hW1 hE1
  go_upto_region 2 with (first
    | (with_reducible refine wpList_load_row rfl 35 _ rfl w.heap.size rfl 35 _ (0, 0) _ hB3 Tryd.underlying35 rfl (by kernel_rfl) ?_)
    | (with_reducible refine wpList_load_row rfl 35 _ rfl (w.heap.size + 1) rfl 35 _ (0, 0) _ hB4 Tryd.underlying35 rfl (by kernel_rfl) ?_))
  refine wp_named ?_
  intro W2 hW2
  have hE2 : Ext W1 W2 := by rw [hW2]; exact alloc_ext _ _
  have hBN : W2.heap[W1.heap.size]? = some (.cells #[.int .u8 (o1 : Int), .int .i64 n1, .slice A l1 c, .int .u8 (o2 : Int), .int .i64 n2, .slice A' l2 c'] 35) := by rw [hW2]; exact heap_alloc_new _ _
  obtain ⟨bN, hbN⟩ : ∃ b, b = W1.heap.size := ⟨_, rfl⟩
  rw [← hbN] at hBN ⊢
  have HN := Lib.hid (And.intro hE2 hBN)
  clear hW2 hE2 hBN hbN hB3 hB4
  go_wp2
  have hne : (er != 0) = true := bne_iff_ne.2 HC2.out.2
  have hck1 := fun w' (e : Ext W2 w') => check_any (sy := sy) (HK.out.1.ext (HB.out.1.trans (HN.out.1.trans e))) (HK.out.2.2.ext (HB.out.1.trans (HN.out.1.trans e)))
  have hck2 := fun w' (e : Ext W2 w') => check_any (sy := sy) (HK.out.2.1.ext (HB.out.1.trans (HN.out.1.trans e))) (HK.out.2.2.ext (HB.out.1.trans (HN.out.1.trans e)))
  rw [HC.out] at hck1
  rw [HC2.out.1] at hck2
  have hck1 : ∀ w', Ext W2 w' → Calls Tryd.prog 35 #[.agg #[.int .u8 (o1 : Int), .int .i64 n1, .slice A l1 c], .int .i64 sy] w' (fun e w'' => e = .returned (.int .i64 0) ∧ Ext w' w'') := hck1
  have hck2 : ∀ w', Ext W2 w' → Calls Tryd.prog 35 #[.agg #[.int .u8 (o2 : Int), .int .i64 n2, .slice A' l2 c'], .int .i64 sy] w' (fun e w'' => e = .returned (.int .i64 er) ∧ Ext w' w'') := hck2
  have HCK := Lib.hid (And.intro hck1 hck2)
  clear hck1 hck2
  go_loopw [18] (fun iv wr => (iv = .int .i64 0 ∨ iv = .int .i64 1) ∧ Ext W2 wr) (fun iv _ => 2 - (intOf iv).toNat)
  case atStart => exact ⟨.inl rfl, Ext.refl _⟩
  case round =>
    obtain ⟨hiv, hE⟩ := hrel
    obtain ⟨W3, hW3⟩ : ∃ W, W = wr := ⟨_, rfl⟩; subst hW3
    rcases hiv with rfl | rfl
    ·
      have c0 := hE.cell (cell_of_blk HN.out.2 (3 * 0 + 0) (u := .int .u8 (o1 : Int)) rfl)
      have c1 := hE.cell (cell_of_blk HN.out.2 (3 * 0 + 1) (u := .int .i64 n1) rfl)
      have c2 := hE.cell (cell_of_blk HN.out.2 (3 * 0 + 2) (u := .slice A l1 c) rfl)
      simp only [Nat.reduceMul, Nat.reduceAdd] at c0 c1 c2
      go_upto_region 4 with fail
      refine wp_named ?_
      intro w7 hW7
      have hE7 : Ext W3 w7 := by rw [hW7]; exact alloc_ext _ _
      have h7 : w7.heap[W3.heap.size]? = some (.cells #[.int .u8 (o1 : Int), .int .i64 n1, .slice A l1 c] 35 (0, 0)) := by rw [hW7]; exact heap_alloc_new _ _
      have HE7 := Lib.hid (hE.trans hE7)
      clear hW7 c0 c1 c2 hE7 hE
      have hck := HCK.out.1 w7 HE7.out
      go_wp2_with (first
        | (with_reducible refine wpList_load_row rfl 35 _ rfl W3.heap.size rfl 35 _ (0, 0) _ h7 Tryd.underlying35 rfl (by kernel_rfl) ?_)
        | ((with_reducible refine hck.mono ?_); rintro e W8 ⟨rfl, e8⟩))
      go_roundw
      case rel => exact ⟨.inr rfl, HE7.out.trans e8⟩
      case measure => decide
    ·
      have c0 := hE.cell (cell_of_blk HN.out.2 (3 * 1 + 0) (u := .int .u8 (o2 : Int)) rfl)
      have c1 := hE.cell (cell_of_blk HN.out.2 (3 * 1 + 1) (u := .int .i64 n2) rfl)
      have c2 := hE.cell (cell_of_blk HN.out.2 (3 * 1 + 2) (u := .slice A' l2 c') rfl)
      simp only [Nat.reduceMul, Nat.reduceAdd] at c0 c1 c2
      go_upto_region 4 with fail
      refine wp_named ?_
      intro w7 hW7
      have hE7 : Ext W3 w7 := by rw [hW7]; exact alloc_ext _ _
      have h7 : w7.heap[W3.heap.size]? = some (.cells #[.int .u8 (o2 : Int), .int .i64 n2, .slice A' l2 c'] 35 (0, 0)) := by rw [hW7]; exact heap_alloc_new _ _
      have HE7 := Lib.hid (hE.trans hE7)
      clear hW7 c0 c1 c2 hE7 hE
      have hck := HCK.out.2 w7 HE7.out
      go_wp2_with (first
        | (with_reducible refine wpList_load_row rfl 35 _ rfl W3.heap.size rfl 35 _ (0, 0) _ h7 Tryd.underlying35 rfl (by kernel_rfl) ?_)
        | ((with_reducible refine hck.mono ?_); rintro e W8 ⟨rfl, e8⟩))
      go_ret2
      exact ⟨rfl, HB.out.1.trans (HN.out.1.trans (HE7.out.trans e8))⟩
theorem dr_lists {W W' : World} {r : DR} (h : OwnL W W' [dAny r, dBlk r]) (hf : r.fine) : ListsC W' (.slice r.A r.D.rows.length r.D.rows.length) (intR r.D.rows) r.D.rows.length ∧ BoolsC W' (.slice (some ⟨r.g, 0, none⟩) r.D.acc.length r.D.acc.length) r.D.acc r.D.acc.length := by
  have h1 := h.know 0 rfl
  have h2 : W'.heap[r.g]? = some (.cells r.cs 4) := h.blkAt 1 rfl
  refine ⟨h1, _, rfl, cells_take h2 hf.1, Nat.le_refl _, ?_⟩
  have := hf.2
  unfold lenMax; omega
theorem todfa_dr {m : Nat} {r : Rx} {w : World} {v : Value} (hN : NodeV w r.tr v) (hT : Tabs w) (h1 : 1 ≤ m) (h2 : m ≤ 16) (ho : r.okS m = true) (hcn : r.cnt ≤ 64) :
    (dfaR m r = none → Calls Tryd.prog 11 #[v, .int .i64 (m : Int)] w (fun e w' => e = .returned (.tuple #[zDfaV, .int .i64 3]) ∧ Ext w w')) ∧
    ∀ D, dfaR m r = some D → Calls Tryd.prog 11 #[v, .int .i64 (m : Int)] w (fun e w' => ∃ r : DR, r.D = D ∧ r.fine ∧ e = .returned (.tuple #[.agg #[.int .i64 (m : Int), .slice r.A r.D.rows.length r.D.rows.length, .slice (some ⟨r.g, 0, none⟩) r.D.acc.length r.D.acc.length], .int .i64 0]) ∧ OwnL w w' [dAny r, dBlk r]) := by
  have h := todfa_ok hN hT h1 h2 ho hcn
  refine ⟨fun hn => ?_, fun D hD => ?_⟩
  · rw [hn] at h; exact h
  · have hDok := dfaR_ok hD
    rw [hD] at h
    exact h.mono (fun e w' h => min_dr hDok h)
set_option maxRecDepth 100000 in
set_option maxHeartbeats 16000000 in
theorem equal_ok {m : Nat} {r s : Rx} {w : World} {v v' : Value} (hN : NodeV w r.tr v) (hN' : NodeV w s.tr v') (hT : Tabs w) (hc1 : 1 ≤ m ∧ m ≤ 16) (hc2 : (r.okS m = true ∧ r.cnt ≤ 64) ∧ (s.okS m = true ∧ s.cnt ≤ 64)) : Calls Tryd.prog 31 #[v, v', .int .i64 (m : Int)] w (PairP w (.bool (eqR m r s).1) (eqR m r s).2) := by
  obtain ⟨res, hres⟩ : ∃ q, q = eqR m r s := ⟨_, rfl⟩
  rw [← hres]
  have HRES := Lib.hid hres
  obtain ⟨t, ht⟩ : ∃ t, t = r.tr := ⟨_, rfl⟩
  obtain ⟨u, hu⟩ : ∃ t, t = s.tr := ⟨_, rfl⟩
  obtain ⟨sy, hsy⟩ : ∃ sy : Int, sy = m := ⟨_, rfl⟩
  rw [← ht] at hN
  rw [← hu] at hN'
  rw [← hsy]
  have HT := Lib.hid (And.intro ht (And.intro hu hsy))
  clear ht hu hsy hres
  obtain ⟨-, A, c, -, rfl, -⟩ := hN.form
  obtain ⟨-, A', c', -, rfl, -⟩ := hN'.form
  have HK := Lib.hid (And.intro hN (And.intro hN' hT))
  have HC := Lib.hid hc1
  have HC2 := Lib.hid hc2
  obtain ⟨o1, ho1⟩ : ∃ o, o = t.op := ⟨_, rfl⟩
  obtain ⟨n1, hn1⟩ : ∃ o, o = t.n := ⟨_, rfl⟩
  obtain ⟨l1, hl1⟩ : ∃ o, o = t.subs.length := ⟨_, rfl⟩
  obtain ⟨o2, ho2⟩ : ∃ o, o = u.op := ⟨_, rfl⟩
  obtain ⟨n2, hn2⟩ : ∃ o, o = u.n := ⟨_, rfl⟩
  obtain ⟨l2, hl2⟩ : ∃ o, o = u.subs.length := ⟨_, rfl⟩
  rw [← ho1, ← hn1, ← hl1, ← ho2, ← hn2, ← hl2] at HK ⊢
  clear hN hN' hT hc1 hc2 ho1 hn1 hl1 ho2 hn2 hl2
  go_enter Tryd.func31, Tryd.ntmps31
  go_upto_region 1 with fail
  refine wp_named ?_
  intro W1 hW1
  have hE1 : Ext w W1 := by rw [hW1]; exact (alloc_ext _ _).trans (alloc_ext _ _)
  have hB3 : W1.heap[w.heap.size]? = some (.cells #[.int .u8 (o1 : Int), .int .i64 n1, .slice A l1 c] 35) := by rw [hW1]; exact heap_ext (alloc_ext _ _) (heap_alloc_new _ _)
  have hB4 : W1.heap[w.heap.size + 1]? = some (.cells #[.int .u8 (o2 : Int), .int .i64 n2, .slice A' l2 c'] 35) := by rw [hW1]; exact heap_new2 _ _ _
  have HB := Lib.hid (And.intro hE1 (And.intro hB3 hB4))
  clear hW1 hE1
  go_upto_region 2 with (first
    | (with_reducible refine wpList_load_row rfl 35 _ rfl w.heap.size rfl 35 _ (0, 0) _ hB3 Tryd.underlying35 rfl (by kernel_rfl) ?_)
    | (with_reducible refine wpList_load_row rfl 35 _ rfl (w.heap.size + 1) rfl 35 _ (0, 0) _ hB4 Tryd.underlying35 rfl (by kernel_rfl) ?_))
  refine wp_named ?_
  intro W2 hW2
  have hE2 : Ext W1 W2 := by rw [hW2]; exact alloc_ext _ _
  have hBN : W2.heap[W1.heap.size]? = some (.cells #[.int .u8 (o1 : Int), .int .i64 n1, .slice A l1 c, .int .u8 (o2 : Int), .int .i64 n2, .slice A' l2 c'] 35) := by rw [hW2]; exact heap_alloc_new _ _
  obtain ⟨bN, hbN⟩ : ∃ b, b = W1.heap.size := ⟨_, rfl⟩
  rw [← hbN] at hBN ⊢
  have HN := Lib.hid (And.intro hE2 hBN)
  clear hW2 hE2 hBN hbN hB3 hB4
  go_wp2
  have hck1 := fun w' (e : Ext W2 w') => check_any (sy := sy) (HK.out.1.ext (HB.out.1.trans (HN.out.1.trans e))) (HK.out.2.2.ext (HB.out.1.trans (HN.out.1.trans e)))
  have hck2 := fun w' (e : Ext W2 w') => check_any (sy := sy) (HK.out.2.1.ext (HB.out.1.trans (HN.out.1.trans e))) (HK.out.2.2.ext (HB.out.1.trans (HN.out.1.trans e)))
  rw [HT.out.1, HT.out.2.2, check_rx HC.out.1 HC.out.2 HC2.out.1.2 HC2.out.1.1, ← HT.out.2.2] at hck1
  rw [HT.out.2.1, HT.out.2.2, check_rx HC.out.1 HC.out.2 HC2.out.2.2 HC2.out.2.1, ← HT.out.2.2] at hck2
  have hck1 : ∀ w', Ext W2 w' → Calls Tryd.prog 35 #[.agg #[.int .u8 (o1 : Int), .int .i64 n1, .slice A l1 c], .int .i64 sy] w' (fun e w'' => e = .returned (.int .i64 0) ∧ Ext w' w'') := hck1
  have hck2 : ∀ w', Ext W2 w' → Calls Tryd.prog 35 #[.agg #[.int .u8 (o2 : Int), .int .i64 n2, .slice A' l2 c'], .int .i64 sy] w' (fun e w'' => e = .returned (.int .i64 0) ∧ Ext w' w'') := hck2
  have HCK := Lib.hid (And.intro hck1 hck2)
  clear hck1 hck2
  go_loopw [18] (fun iv wr => (iv = .int .i64 0 ∨ iv = .int .i64 1 ∨ iv = .int .i64 2) ∧ Ext W2 wr) (fun iv _ => 3 - (intOf iv).toNat)
  case atStart => exact ⟨.inl rfl, Ext.refl _⟩
  case round =>
    obtain ⟨hiv, hE⟩ := hrel
    obtain ⟨W3, hW3⟩ : ∃ W, W = wr := ⟨_, rfl⟩; subst hW3
    rcases hiv with rfl | rfl | rfl
    ·
      have c0 := hE.cell (cell_of_blk HN.out.2 (3 * 0 + 0) (u := .int .u8 (o1 : Int)) rfl)
      have c1 := hE.cell (cell_of_blk HN.out.2 (3 * 0 + 1) (u := .int .i64 n1) rfl)
      have c2 := hE.cell (cell_of_blk HN.out.2 (3 * 0 + 2) (u := .slice A l1 c) rfl)
      simp only [Nat.reduceMul, Nat.reduceAdd] at c0 c1 c2
      go_upto_region 4 with fail
      refine wp_named ?_
      intro w7 hW7
      have hE7 : Ext W3 w7 := by rw [hW7]; exact alloc_ext _ _
      have h7 : w7.heap[W3.heap.size]? = some (.cells #[.int .u8 (o1 : Int), .int .i64 n1, .slice A l1 c] 35 (0, 0)) := by rw [hW7]; exact heap_alloc_new _ _
      have HE7 := Lib.hid (hE.trans hE7)
      clear hW7 c0 c1 c2 hE7 hE
      have hck := HCK.out.1 w7 HE7.out
      go_wp2_with (first
        | (with_reducible refine wpList_load_row rfl 35 _ rfl W3.heap.size rfl 35 _ (0, 0) _ h7 Tryd.underlying35 rfl (by kernel_rfl) ?_)
        | ((with_reducible refine hck.mono ?_); rintro e W8 ⟨rfl, e8⟩))
      go_roundw
      case rel => exact ⟨.inr (.inl rfl), HE7.out.trans e8⟩
      case measure => decide
    ·
      have c0 := hE.cell (cell_of_blk HN.out.2 (3 * 1 + 0) (u := .int .u8 (o2 : Int)) rfl)
      have c1 := hE.cell (cell_of_blk HN.out.2 (3 * 1 + 1) (u := .int .i64 n2) rfl)
      have c2 := hE.cell (cell_of_blk HN.out.2 (3 * 1 + 2) (u := .slice A' l2 c') rfl)
      simp only [Nat.reduceMul, Nat.reduceAdd] at c0 c1 c2
      go_upto_region 4 with fail
      refine wp_named ?_
      intro w7 hW7
      have hE7 : Ext W3 w7 := by rw [hW7]; exact alloc_ext _ _
      have h7 : w7.heap[W3.heap.size]? = some (.cells #[.int .u8 (o2 : Int), .int .i64 n2, .slice A' l2 c'] 35 (0, 0)) := by rw [hW7]; exact heap_alloc_new _ _
      have HE7 := Lib.hid (hE.trans hE7)
      clear hW7 c0 c1 c2 hE7 hE
      have hck := HCK.out.2 w7 HE7.out
      go_wp2_with (first
        | (with_reducible refine wpList_load_row rfl 35 _ rfl W3.heap.size rfl 35 _ (0, 0) _ h7 Tryd.underlying35 rfl (by kernel_rfl) ?_)
        | ((with_reducible refine hck.mono ?_); rintro e W8 ⟨rfl, e8⟩))
      go_roundw
      case rel => exact ⟨.inr (.inr rfl), HE7.out.trans e8⟩
      case measure => decide
    ·
      have hE3 := HB.out.1.trans (HN.out.1.trans hE)
      have eW1 := HN.out.1.trans hE
      have hB3 := heap_ext eW1 HB.out.2.1
      have hd1 := todfa_dr (m := m) (r := r) (by rw [← HT.out.1]; exact HK.out.1.ext hE3) (HK.out.2.2.ext hE3) HC.out.1 HC.out.2 HC2.out.1.1 HC2.out.1.2
      have hd2 := fun w' (e : Ext W3 w') => todfa_dr (m := m) (r := s) (by rw [← HT.out.2.1]; exact HK.out.2.1.ext (hE3.trans e)) (HK.out.2.2.ext (hE3.trans e)) HC.out.1 HC.out.2 HC2.out.2.1 HC2.out.2.2
      rw [← HT.out.2.2] at hd1 hd2
      have hB4 := fun w' (e : Ext W3 w') => heap_ext (eW1.trans e) HB.out.2.2
      have HE3 := Lib.hid hE3
      clear hE eW1 hE3
      cases hr1 : dfaR m r with
      | none =>
        have HR : Hid (res = (false, 3)) := Lib.hid (by rw [HRES.out]; unfold eqR; rw [hr1])
        have hst := hd1.1 hr1
        clear hd1 hd2 hr1 hB4
        go_wp2_with (first
          | (with_reducible refine wpList_load_row rfl 35 _ rfl w.heap.size rfl 35 _ (0, 0) _ hB3 Tryd.underlying35 rfl (by kernel_rfl) ?_)
          | ((with_reducible refine hst.mono ?_); rintro e W8 ⟨rfl, e8⟩))
        go_ret2
        rw [HR.out]
        exact ⟨rfl, HE3.out.trans (e8.trans (alloc_ext W8 _))⟩
      | some D1 =>
        have hst := hd1.2 D1 hr1
        cases hr2 : dfaR m s with
        | none =>
          have HR : Hid (res = (false, 3)) := Lib.hid (by rw [HRES.out]; unfold eqR; rw [hr1, hr2])
          have hst2 := fun w' e => (hd2 w' e).1 hr2
          clear hd1 hd2 hr1 hr2
          go_upto_region 11 with (first
            | (with_reducible refine wpList_load_row rfl 35 _ rfl w.heap.size rfl 35 _ (0, 0) _ hB3 Tryd.underlying35 rfl (by kernel_rfl) ?_)
            | ((with_reducible refine hst.mono ?_); rintro e W8 ⟨d1, rfl, hf1, rfl, hO8⟩))
          refine wp_named ?_
          intro W9 hW9
          have e9 : Ext W3 W9 := by rw [hW9]; exact hO8.ext.trans (alloc_ext W8 _)
          have hB4 := hB4 W9 e9
          have hst2 := hst2 W9 e9
          have HE9 := Lib.hid (HE3.out.trans e9)
          clear hW9 e9 hst hB3 hO8
          go_wp2_with (first
            | (with_reducible refine wpList_load_row rfl 35 _ rfl (w.heap.size + 1) rfl 35 _ (0, 0) _ hB4 Tryd.underlying35 rfl (by kernel_rfl) ?_)
            | ((with_reducible refine hst2.mono ?_); rintro e W10 ⟨rfl, e10⟩))
          go_ret2
          rw [HR.out]
          exact ⟨rfl, HE9.out.trans (e10.trans (alloc_ext W10 _))⟩
        | some D2 =>
          have HR : Hid (res = (D1.rows == D2.rows && D1.acc == D2.acc, 0)) := Lib.hid (by rw [HRES.out]; unfold eqR; rw [hr1, hr2])
          have hst2 := fun w' e => (hd2 w' e).2 D2 hr2
          clear hd1 hd2 hr1 hr2
          go_upto_region 11 with (first
            | (with_reducible refine wpList_load_row rfl 35 _ rfl w.heap.size rfl 35 _ (0, 0) _ hB3 Tryd.underlying35 rfl (by kernel_rfl) ?_)
            | ((with_reducible refine hst.mono ?_); rintro e W8 ⟨d1, rfl, hf1, rfl, hO8⟩))
          refine wp_named ?_
          intro W9 hW9
          have e9' : Ext W8 W9 := by rw [hW9]; exact alloc_ext W8 _
          have h11 : W9.heap[W8.heap.size]? = some (.cells #[.int .i64 sy, .slice d1.A d1.D.rows.length d1.D.rows.length, .slice (some ⟨d1.g, 0, none⟩) d1.D.acc.length d1.D.acc.length] 28) := by rw [hW9]; exact heap_alloc_new _ _
          have e9 := hO8.ext.trans e9'
          have hB4 := hB4 W9 e9
          have hst2 := hst2 W9 e9
          have hl1 := dr_lists (hO8.trans e9') hf1
          have HE9 := Lib.hid (And.intro (HE3.out.trans e9) hl1)
          obtain ⟨b11, hb11⟩ : ∃ b, b = W8.heap.size := ⟨_, rfl⟩
          rw [← hb11] at h11 ⊢
          clear hW9 e9 e9' hst hB3 hO8 hl1 hb11
          go_upto_region 14 with (first
            | (with_reducible refine wpList_load_row rfl 35 _ rfl (w.heap.size + 1) rfl 35 _ (0, 0) _ hB4 Tryd.underlying35 rfl (by kernel_rfl) ?_)
            | ((with_reducible refine hst2.mono ?_); rintro e W10 ⟨d2, rfl, hf2, rfl, hO10⟩))
          refine wp_named ?_
          intro W11 hW11
          have e11' : Ext W10 W11 := by rw [hW11]; exact alloc_ext W10 _
          have h13 : W11.heap[W10.heap.size]? = some (.cells #[.int .i64 sy, .slice d2.A d2.D.rows.length d2.D.rows.length, .slice (some ⟨d2.g, 0, none⟩) d2.D.acc.length d2.D.acc.length] 28) := by rw [hW11]; exact heap_alloc_new _ _
          have e11 := hO10.ext.trans e11'
          have hl2 := dr_lists (hO10.trans e11') hf2
          have h11 := heap_ext e11 h11
          obtain ⟨b13, hb13⟩ : ∃ b, b = W10.heap.size := ⟨_, rfl⟩
          rw [← hb13] at h13 ⊢
          have q1 := fun w' (e : Ext W11 w') => e.cell (cell_of_blk h11 1 (u := .slice d1.A d1.D.rows.length d1.D.rows.length) rfl)
          have q2 := fun w' (e : Ext W11 w') => e.cell (cell_of_blk h11 2 (u := .slice (some ⟨d1.g, 0, none⟩) d1.D.acc.length d1.D.acc.length) rfl)
          have q3 := fun w' (e : Ext W11 w') => e.cell (cell_of_blk h13 1 (u := .slice d2.A d2.D.rows.length d2.D.rows.length) rfl)
          have q4 := fun w' (e : Ext W11 w') => e.cell (cell_of_blk h13 2 (u := .slice (some ⟨d2.g, 0, none⟩) d2.D.acc.length d2.D.acc.length) rfl)
          have hst3 := eqLists_any (HE9.out.2.1.ext e11) hl2.1
          have hst4 := fun w' (e : Ext W11 w') => eqBools_any ((HE9.out.2.2.ext e11).ext e) (hl2.2.ext e)
          rw [intR_beq] at hst3
          have HE11 := Lib.hid (HE9.out.1.trans e11)
          clear hW11 e11 e11' hst2 hB4 hO10 hl2 hb13 h11 h13
          have q1' := q1 W11 (Ext.refl _)
          have q3' := q3 W11 (Ext.refl _)
          cases hb : (d1.D.rows == d2.D.rows) with
          | false =>
            rw [hb] at hst3
            have HR : Hid (res = (false, 0)) := Lib.hid (by rw [HR.out, hb]; rfl)
            clear hst4 q1 q2 q3 q4 hb
            go_wp2_with ((with_reducible refine hst3.mono ?_); rintro e W12 ⟨rfl, e12⟩)
            go_ret2
            rw [HR.out]
            exact ⟨rfl, HE11.out.trans e12⟩
          | true =>
            rw [hb] at hst3
            have HR : Hid (res = (d1.D.acc == d2.D.acc, 0)) := Lib.hid (by rw [HR.out, hb]; rfl)
            clear hb q1 q3
            go_wp2_with (first
              | ((with_reducible refine hst3.mono ?_); rintro e W12 ⟨rfl, e12⟩; have q2 := q2 W12 e12; have q4 := q4 W12 e12; have hst4 := hst4 W12 e12)
              | ((with_reducible refine hst4.mono ?_); rintro e W13 ⟨rfl, e13⟩))
            go_ret2
            rw [HR.out]
            exact ⟨rfl, HE11.out.trans (e12.trans e13)⟩
end Go.Proofs.YtmebgomnmlbgnaaDoor
