/- IocosTests 7: the count, and the size of the test. -/
import Derived.Test.YtamodjlifpjaoaaDoorZ2
namespace Go.Proofs.YtamodjlifpjaoaaDoor
open Go.RowKit
set_option linter.unusedVariables false
set_option linter.unusedSimpArgs false
attribute [local go_sem] Oper.quietV quietV Oper.gives givesV ext_refl_iff ext_alloc_iff ext_drew_iff ext_drewN_iff
set_option maxRecDepth 100000 in
set_option maxHeartbeats 16000000 in
theorem tests_t24 (w W : World) (b7 b8 : Nat) (x y : Lts) (fl gl is : Bool) (t p : List Int) (o : Int) (ct cp k : Nat) (c0 c1 c2 c3 c4 c5 c6 c12 c14 c15 c17 c18 c19 c20 c21 c22 c23 c24 c25 c26 c27 c28 c29 c30 c31 c32 c33 c34 c35 c36 c37 c38 c39 c40 c41 c42 c43 c44 c45 c46 c47 c48 c49 c50 c51 c52 c53 c54 c55 c56 c57 c58 c59 c60 c61 c62 c63 c64 c65 c66 c67 c68 c69 c70 c71 c72 c73 c74 c75 c76 c77 c78 c79 c80 c81 c82 c83 c84 c85 c86 c87 c88 c89 c90 c91 c92 c93 c94 c95 c96 c97 c98 c99 c100 c101 c102 c103 c104 c105 c106 c107 c108 c109 c110 c111 c112 c113 c114 c115 c116 c117 c118 c119 c120 c121 c122 c123 c124 c125 c126 c127 c128 c129 c130 c131 c132 c133 c134 c135 c136 c137 c138 c139 c140 c141 c142 c143 c144 c145 c146 c147 c148 c149 tv pv : Value) (hW : TwoV w W b7 b8 x y fl gl) (hT : Tab W) (hacc : accB x = true) (ht : IntsC W tv t ct) (hp : IntsC W pv p cp) (hok : okPlan y p)
    (hpl : p.length ≤ t.length + 5) (hk : cntW p = k) (hV : (mkT y p (begM y) 0).length ≤ 1024 → ∃ wl, verdG x (mkT y p (begM y) 0) = (is, wl) ∧ (is = true ∨ nle wl (t ++ [o]))) :
    Code.wp Tryd.prog (T7 24) (bodyPost Tryd.prog Tryd.f7 (TestsP w)) ⟨(c0 :: c1 :: c2 :: c3 :: c4 :: c5 :: c6 :: .pointer (some ⟨b7, 0, none⟩) :: .pointer (some ⟨b8, 0, none⟩) :: .bool is :: tv :: .int .i64 o :: c12 :: pv :: c14 :: c15 :: .int .i64 (k : Int) :: c17 :: c18 :: c19 :: c20 :: c21 :: c22 :: c23 :: c24 :: c25 :: c26 :: c27 :: c28 :: c29 :: c30 :: c31 :: c32 :: c33 :: c34 :: c35 :: c36 :: c37 :: c38 :: c39 :: c40 :: c41 :: c42 :: c43 :: c44 :: c45 :: c46 :: c47 :: c48 :: c49 :: c50 :: c51 :: c52 :: c53 :: c54 :: c55 :: c56 :: c57 :: c58 :: c59 :: c60 :: c61 :: c62 :: c63 :: c64 :: c65 :: c66 :: c67 :: c68 :: c69 :: c70 :: c71 :: c72 :: c73 :: c74 :: c75 :: c76 :: c77 :: c78 :: c79 :: c80 :: c81 :: c82 :: c83 :: c84 :: c85 :: c86 :: c87 :: c88 :: c89 :: c90 :: c91 :: c92 :: c93 :: c94 :: c95 :: c96 :: c97 :: c98 :: c99 :: c100 :: c101 :: c102 :: c103 :: c104 :: c105 :: c106 :: c107 :: c108 :: c109 :: c110 :: c111 :: c112 :: c113 :: c114 :: c115 :: c116 :: c117 :: c118 :: c119 :: c120 :: c121 :: c122 :: c123 :: c124 :: c125 :: c126 :: c127 :: c128 :: c129 :: c130 :: c131 :: c132 :: c133 :: c134 :: c135 :: c136 :: c137 :: c138 :: c139 :: c140 :: c141 :: c142 :: c143 :: c144 :: c145 :: c146 :: c147 :: c148 :: c149 :: []).toArray, []⟩ W := by
  conv => arg 2; whnf
  obtain ⟨hcx, hcy, hnx, hny, _⟩ := hW.good
  obtain ⟨hin, hout, hOx, hOy⟩ := hW.labs
  have hgy := check_good hcy
  have HX := Lib.hid (And.intro hW (And.intro hT (And.intro hacc (And.intro ht (And.intro hp (And.intro hok (And.intro hpl hV)))))))
  have hlv := fun W' (e : Ext W W') => lives_any W' (hT.ext e)
  obtain ⟨At, rfl, _, _, htm⟩ := id ht
  obtain ⟨Ap, rfl, _, _, hpm⟩ := id hp
  unfold lenMax at htm hpm
  obtain ⟨qA, qc, q0, q1, q2, qS⟩ := hW.bz
  have q0 := fun w' (h : Ext W w') => h.cell q0
  have q1 := fun w' (h : Ext W w') => h.cell q1
  have q2 := fun w' (h : Ext W w') => h.cell q2
  have HQ := Lib.hid (And.intro qS (And.intro hgy (And.intro hok (And.intro hp hOy))))
  have HK := Lib.hid hk
  have hE0 := Ext.refl W
  clear hW hT hacc ht hp hok hV hcx hcy hnx hny hin hout hOx hOy hgy qS hk
  by_cases h5 : 5 < k
  · have hI : (5 : Int) < (k : Int) := by omega
    clear q0 q1 q2 hE0
    go_upto_region 24 with fail
    go_quiet (fail)
    go_wp2_with ((with_reducible refine (hlv _ (by first | exact (Ext.refl _).drewN _ | exact Ext.refl _)).mono ?_); rintro e W10 ⟨rfl, e10⟩)
    go_ret
    exact ⟨rfl, HX.out.1.ext.trans ((by first | exact (Ext.refl W).drewN _ | exact Ext.refl _ : Ext W _).trans e10)⟩
  have hI : ¬ (5 : Int) < (k : Int) := by omega
  have hId : decide ((5 : Int) < (k : Int)) = false := decide_eq_false hI
  by_cases h30 : 30 < t.length
  · have hJ : (30 : Int) < (t.length : Int) := by omega
    clear q0 q1 q2 hE0 h5
    go_upto_region 24 with fail
    go_quiet (fail)
    go_wp2_with ((with_reducible refine (hlv _ (by first | exact (Ext.refl _).drewN _ | exact Ext.refl _)).mono ?_); rintro e W10 ⟨rfl, e10⟩)
    go_ret
    exact ⟨rfl, HX.out.1.ext.trans ((by first | exact (Ext.refl W).drewN _ | exact Ext.refl _ : Ext W _).trans e10)⟩
  have hJ : ¬ (30 : Int) < (t.length : Int) := by omega
  have hJd : decide ((30 : Int) < (t.length : Int)) = false := decide_eq_false hJ
  have hbd : (mkT y p (begM y) 0).length ≤ 100000 := by
    have h1 := mkT_watch HQ.out.2.2.2.2 p (begM y) 0
    rw [HK.out] at h1
    have h2 : 3 ^ k ≤ 3 ^ 5 := Nat.pow_le_pow_right (by omega) (by omega)
    have h3 : 3 ^ k * (p.length + 1) ≤ 3 ^ 5 * 36 := Nat.mul_le_mul h2 (by omega)
    have h4 : (3 : Nat) ^ 5 * 36 = 8748 := by decide
    omega
  have HB := Lib.hid (And.intro hbd (show t.length ≤ 30 by omega))
  have hbg := fun W' (e : Ext W W') => refBegin_any W' _ y (HQ.out.1.ext e) HQ.out.2.1
  clear hbd h5 h30
  go_upto_region 24 with fail
  refine wp_region_ext 12 (factsOf [(10, BegP (begM y))]) (fun k => ([[], [0], [0, 1], [0, 1, 2], [0, 1, 2, 3], [0, 1, 2, 3, 4], [0, 1, 2, 3, 4, 5], [0, 1, 2, 3, 4, 5, 6], [0, 1, 2, 3, 4, 5, 6, 7], [0, 1, 2, 3, 4, 5, 6, 7], [0, 1, 2, 3, 4, 5, 6, 7, 9], [0, 1, 2, 3, 4, 5, 6, 7], [0, 1, 2, 3, 4, 5, 6, 7, 8, 9, 10, 11], [0, 1, 2, 3, 4, 5, 6, 7, 8, 9, 10, 11, 12], [0, 1, 2, 3, 4, 5, 6, 7, 8, 9, 10, 11, 12, 13], [0, 1, 2, 3, 4, 5, 6, 7, 8, 9, 10, 11, 12, 13, 14]] : List (List Nat)).getD k []) (by kernel_rfl) (by kernel_rfl) Ext.pre (mono_cons (stays_begP _) (mono_nil)) ?_
  simp only [List.take_succ_cons, List.take_zero]
  repeat (first | (with_reducible refine lexL_quiet' (v := ?_) ?_ ?_ ?_ ?_; rotate_left; (· with_reducible rfl); (· simp [factsOf]); (· intro w1 hw1 _; go_simp; with_reducible rfl); (try simp only [Act.put, List.setIfInBounds_toArray, List.set_cons_zero, List.set_cons_succ])) | (with_reducible refine lexL_skip ?_ ?_; (· simp [Region.wanted, yielded, undef]); (try simp only [Act.put, List.setIfInBounds_toArray, List.set_cons_zero, List.set_cons_succ])) | (with_reducible refine lexL_quiet (v := ?_) ?_ ?_ ?_ ?_; rotate_left; (· simp [Region.wanted, yielded, undef]); (· simp [factsOf]); (· intro w1 hw1 _; go_simp; with_reducible rfl); (try simp only [Act.put, List.setIfInBounds_toArray, List.set_cons_zero, List.set_cons_succ])))
  with_reducible refine lexL_give (φ := ?_) ?_ ?_ ?_ ?_; rotate_left; (· simp [Region.wanted, yielded, undef]); (· simp only [factsOf, Nat.reduceAdd, ↓reduceIte, Nat.reduceEqDiff]; rfl)
  · intro w5 hw5 _
    go_simp
    refine (hbg w5 hw5).mono ?_
    rintro e w6 ⟨rv, c, rfl, hi, e6⟩
    obtain ⟨A9, rfl, h9⟩ := id hi
    exact ⟨_, rfl, e6, A9, c, rfl, hi⟩
  rintro v9 w5 hw5 ⟨A9, c9, rfl, h9⟩ hk2
  clear hk2 h9 hw5 w5
  (try simp only [Act.put, List.setIfInBounds_toArray, List.set_cons_zero, List.set_cons_succ])
  repeat (first | (with_reducible refine lexL_quiet' (v := ?_) ?_ ?_ ?_ ?_; rotate_left; (· with_reducible rfl); (· simp [factsOf]); (· intro w1 hw1 _; go_simp; with_reducible rfl); (try simp only [Act.put, List.setIfInBounds_toArray, List.set_cons_zero, List.set_cons_succ])) | (with_reducible refine lexL_skip ?_ ?_; (· simp [Region.wanted, yielded, undef]); (try simp only [Act.put, List.setIfInBounds_toArray, List.set_cons_zero, List.set_cons_succ])) | (with_reducible refine lexL_quiet (v := ?_) ?_ ?_ ?_ ?_; rotate_left; (· simp [Region.wanted, yielded, undef]); (· simp [factsOf]); (· intro w1 hw1 _; go_simp; with_reducible rfl); (try simp only [Act.put, List.setIfInBounds_toArray, List.set_cons_zero, List.set_cons_succ])))
  with_reducible refine lexL_nil ?_; intro w1 hw1 hk1; simp only [List.drop_succ_cons, List.drop_zero]
  obtain ⟨A9', c9', hv9, hi9⟩ := hk1.get 10 rfl rfl
  injection hv9 with hvA _ hvc
  subst hvA hvc
  have hrm : Calls Tryd.prog 25 #[.agg #[.int .i64 y.ins, .int .i64 y.outs, .slice qA y.rows.length qc], .slice A9 (memI (begM y)).length c9, .slice Ap p.length cp, .int .i64 0] w1 (RMakeP w1 (mkT y p (begM y) 0)) := refMake_any y HQ.out.2.1 p HQ.out.2.2.1 w1 _ _ _ (begM y) c9 cp 0 (HQ.out.1.ext hw1) (begM_lt HQ.out.2.1) hi9 (HQ.out.2.2.2.1.ext hw1) (by have := HB.out.1; omega)
  have HW := Lib.hid hw1
  clear hk1 hw1 hi9 hbg hE0 q0 q1 q2
  by_cases hbig : 1024 < (mkT y p (begM y) 0).length
  · have hbI : (1024 : Int) < ((mkT y p (begM y) 0).length : Int) := by omega
    go_wp2_with (first
      | ((with_reducible refine hrm.mono ?_); rintro e W6 ⟨rv, c6, rfl, hN6, e6⟩; obtain ⟨A6, rfl⟩ := hN6.give; have hlv6 := hlv W6 (HW.out.trans e6))
      | ((with_reducible refine hlv6.mono ?_); rintro e W10 ⟨rfl, e10⟩))
    go_ret
    exact ⟨rfl, HX.out.1.ext.trans (HW.out.trans (e6.trans e10))⟩
  · have hbI : ¬ (1024 : Int) < ((mkT y p (begM y) 0).length : Int) := by omega
    have HBG := Lib.hid hbig
    clear hbig
    go_upto_region 999 with (first
      | ((with_reducible refine hrm.mono ?_); rintro e W6 ⟨rv, c6, rfl, hN6, e6⟩; obtain ⟨A6, rfl⟩ := hN6.give; have HE6 := Lib.hid (HW.out.trans e6); clear hN6 e6)
      | (with_reducible refine stop_at 26 ?_) | (with_reducible refine stop_at2 26 ?_))
    refine ⟨?_⟩
    obtain ⟨wl, hv1, hv2⟩ := HX.out.2.2.2.2.2.2.2 (by have := HBG.out; omega)
    exact tests_t26 w W6 b7 b8 x y fl gl is t p wl o ct cp _ _ _ _ _ _ _ _ _ _ _ _ _ _ _ _ _ _ _ _ _ _ _ _ _ _ _ _ _ _ _ _ _ _ _ _ _ _ _ _ _ _ _ _ _ _ _ _ _ _ _ _ _ _ _ _ _ _ _ _ _ _ _ _ _ _ _ _ _ _ _ _ _ _ _ _ _ _ _ _ _ _ _ _ _ _ _ _ _ _ _ _ _ _ _ _ _ _ _ _ _ _ _ _ _ _ _ _ _ _ _ _ _ _ _ _ _ _ _ _ _ _ _ _ _ _ _ _ _ _ _ _ _ _ _ _ _ _ _ _ _ _ _ _ _ _ (HX.out.1.ex HE6.out) (HX.out.2.1.ext HE6.out) HX.out.2.2.1 (HX.out.2.2.2.1.ext HE6.out) (HX.out.2.2.2.2.1.ext HE6.out) HX.out.2.2.2.2.2.1 (by have h1 := HX.out.2.2.2.2.2.2.1; have h2 := HB.out.2; omega) HB.out.2 (by have := HBG.out; omega) hv1 hv2
set_option maxRecDepth 100000 in
set_option maxHeartbeats 16000000 in
theorem tests_t18 (w W : World) (b7 b8 : Nat) (x y : Lts) (fl gl is : Bool) (t p : List Int) (o : Int) (ct cp : Nat) (c0 c1 c2 c3 c4 c5 c6 c12 c14 c15 c16 c17 c18 c19 c20 c21 c22 c23 c24 c25 c26 c27 c28 c29 c30 c31 c32 c33 c34 c35 c36 c37 c38 c39 c40 c41 c42 c43 c44 c45 c46 c47 c48 c49 c50 c51 c52 c53 c54 c55 c56 c57 c58 c59 c60 c61 c62 c63 c64 c65 c66 c67 c68 c69 c70 c71 c72 c73 c74 c75 c76 c77 c78 c79 c80 c81 c82 c83 c84 c85 c86 c87 c88 c89 c90 c91 c92 c93 c94 c95 c96 c97 c98 c99 c100 c101 c102 c103 c104 c105 c106 c107 c108 c109 c110 c111 c112 c113 c114 c115 c116 c117 c118 c119 c120 c121 c122 c123 c124 c125 c126 c127 c128 c129 c130 c131 c132 c133 c134 c135 c136 c137 c138 c139 c140 c141 c142 c143 c144 c145 c146 c147 c148 c149 tv pv : Value) (hW : TwoV w W b7 b8 x y fl gl) (hT : Tab W) (hacc : accB x = true) (ht : IntsC W tv t ct) (hp : IntsC W pv p cp) (hok : okPlan y p)
    (hpl : p.length ≤ t.length + 5) (hV : (mkT y p (begM y) 0).length ≤ 1024 → ∃ wl, verdG x (mkT y p (begM y) 0) = (is, wl) ∧ (is = true ∨ nle wl (t ++ [o]))) :
    Code.wp Tryd.prog (T7 18) (bodyPost Tryd.prog Tryd.f7 (TestsP w)) ⟨(c0 :: c1 :: c2 :: c3 :: c4 :: c5 :: c6 :: .pointer (some ⟨b7, 0, none⟩) :: .pointer (some ⟨b8, 0, none⟩) :: .bool is :: tv :: .int .i64 o :: c12 :: pv :: c14 :: c15 :: c16 :: c17 :: c18 :: c19 :: c20 :: c21 :: c22 :: c23 :: c24 :: c25 :: c26 :: c27 :: c28 :: c29 :: c30 :: c31 :: c32 :: c33 :: c34 :: c35 :: c36 :: c37 :: c38 :: c39 :: c40 :: c41 :: c42 :: c43 :: c44 :: c45 :: c46 :: c47 :: c48 :: c49 :: c50 :: c51 :: c52 :: c53 :: c54 :: c55 :: c56 :: c57 :: c58 :: c59 :: c60 :: c61 :: c62 :: c63 :: c64 :: c65 :: c66 :: c67 :: c68 :: c69 :: c70 :: c71 :: c72 :: c73 :: c74 :: c75 :: c76 :: c77 :: c78 :: c79 :: c80 :: c81 :: c82 :: c83 :: c84 :: c85 :: c86 :: c87 :: c88 :: c89 :: c90 :: c91 :: c92 :: c93 :: c94 :: c95 :: c96 :: c97 :: c98 :: c99 :: c100 :: c101 :: c102 :: c103 :: c104 :: c105 :: c106 :: c107 :: c108 :: c109 :: c110 :: c111 :: c112 :: c113 :: c114 :: c115 :: c116 :: c117 :: c118 :: c119 :: c120 :: c121 :: c122 :: c123 :: c124 :: c125 :: c126 :: c127 :: c128 :: c129 :: c130 :: c131 :: c132 :: c133 :: c134 :: c135 :: c136 :: c137 :: c138 :: c139 :: c140 :: c141 :: c142 :: c143 :: c144 :: c145 :: c146 :: c147 :: c148 :: c149 :: []).toArray, []⟩ W := by
  conv => arg 2; whnf
  obtain ⟨Ap, rfl, hpc, _, hpm⟩ := id hp
  unfold lenMax at hpm
  have HX := Lib.hid (And.intro hW (And.intro hT (And.intro hacc (And.intro ht (And.intro hp (And.intro hok (And.intro hpl (And.intro hV hpc))))))))
  clear hW hT hacc ht hp hok hpl hV hpc
  go_wp2
  go_loopw [16, 17] (fun kv iv wr => ∃ i : Nat, kv = .int .i64 (cntW (p.take i) : Int) ∧ iv = .int .i64 i ∧ i ≤ p.length ∧ Ext W wr) (fun _ iv _ => p.length - (intOf iv).toNat)
  case atStart => exact ⟨0, rfl, rfl, by omega, by first | exact Ext.refl _ | exact (Ext.refl _).drew | exact (Ext.refl _).drewN _⟩
  case round =>
    obtain ⟨i, rfl, rfl, hi, hE⟩ := hrel
    obtain ⟨W5, hW5⟩ : ∃ W, W = wr := ⟨_, rfl⟩; subst hW5
    by_cases hlt : i < p.length
    · obtain ⟨a, ha⟩ : ∃ a, p[i]? = some a := ⟨_, List.getElem?_eq_getElem hlt⟩
      obtain ⟨bl, ol, hA, c0'⟩ := int_at (HX.out.2.2.2.2.2.2.2.2.ext hE) ha
      subst hA
      have HS := Lib.hid (cntW_step ha)
      have hcl : cntW (p.take i) ≤ i := by unfold cntW; exact Nat.le_trans List.countP_le_length (List.length_take_le i p)
      have HE5 := Lib.hid hE
      generalize cntW (p.take i) = k at *
      have hkw : IntKind.i64.wrap ((k : Int) + 1) = (k : Int) + 1 := by rw [IntKind.wrap_i64]; omega
      clear ha hE
      by_cases hm : a = -1
      · have g1 : (a == -1) = true := by simp [hm]
        have HM := Lib.hid hm
        clear hm
        go_wp2
        go_roundw
        case rel => exact ⟨i + 1, by rw [HS.out, if_pos HM.out]; go_num, by go_num, by omega, by first | exact HE5.out | exact HE5.out.drew | exact HE5.out.drewN _⟩
        case measure => simp [intOf]; omega
      · have g1 : (a == -1) = false := by simp [hm]
        have HM := Lib.hid hm
        clear hm
        go_wp2
        go_roundw
        case rel => exact ⟨i + 1, by rw [HS.out, if_neg HM.out]; rfl, by go_num, by omega, by first | exact HE5.out | exact HE5.out.drew | exact HE5.out.drewN _⟩
        case measure => simp [intOf]; omega
    · obtain rfl : i = p.length := by omega
      have HE5 := Lib.hid hE
      have hct : cntW (p.take p.length) = cntW p := by rw [List.take_length]
      rw [hct]
      clear hE hct
      go_upto_region 999 with (first | (with_reducible refine stop_at 24 ?_) | (with_reducible refine stop_at2 24 ?_))
      refine ⟨?_⟩
      exact tests_t24 w W5 b7 b8 x y fl gl is t p o ct cp (cntW p) _ _ _ _ _ _ _ _ _ _ _ _ _ _ _ _ _ _ _ _ _ _ _ _ _ _ _ _ _ _ _ _ _ _ _ _ _ _ _ _ _ _ _ _ _ _ _ _ _ _ _ _ _ _ _ _ _ _ _ _ _ _ _ _ _ _ _ _ _ _ _ _ _ _ _ _ _ _ _ _ _ _ _ _ _ _ _ _ _ _ _ _ _ _ _ _ _ _ _ _ _ _ _ _ _ _ _ _ _ _ _ _ _ _ _ _ _ _ _ _ _ _ _ _ _ _ _ _ _ _ _ _ _ _ _ _ _ _ _ _ _ _ _ _ _ (HX.out.1.ex HE5.out) (HX.out.2.1.ext HE5.out) HX.out.2.2.1 (HX.out.2.2.2.1.ext HE5.out) (HX.out.2.2.2.2.1.ext HE5.out) HX.out.2.2.2.2.2.1 HX.out.2.2.2.2.2.2.1 rfl HX.out.2.2.2.2.2.2.2.1
end Go.Proofs.YtamodjlifpjaoaaDoor
