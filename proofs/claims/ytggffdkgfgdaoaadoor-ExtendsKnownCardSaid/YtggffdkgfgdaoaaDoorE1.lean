/- ref28.one 69, ref28.Eval 59. -/
import Derived.Test.YtggffdkgfgdaoaaDoorGB
import Derived.Test.YtggffdkgfgdaoaaDoorCut
namespace Go.Proofs.YtggffdkgfgdaoaaDoor
open Go.RowKit Go.Maps
set_option linter.unusedVariables false
set_option linter.unusedSimpArgs false
attribute [local go_sem] Oper.quietV quietV Oper.gives givesV ext_refl_iff ext_alloc_iff ext_drew_iff ext_drewN_iff
theorem one_any (w : World) (b : Bool) : Calls Tryd.prog 69 #[.bool b] w fun e w' => e = .returned (.int .i64 (b01 b)) ∧ w = w' := by
  cases b with
  | true =>
    go_enter Tryd.func69, Tryd.ntmps69
    go_wp2
    go_ret
    exact ⟨rfl, rfl⟩
  | false =>
    go_enter Tryd.func69, Tryd.ntmps69
    go_wp2
    go_ret
    exact ⟨rfl, rfl⟩
def REvP (w : World) (r : Int × Bool) (e : Ending) (w' : World) : Prop := e = .returned (.tuple #[.int .i64 r.1, .int .i64 (b01 r.2)]) ∧ Ext w w'
noncomputable def T59 (n : Nat) : Code := textR n Tryd.f59.body
/-- From a value and whether it is defined. -/
def finR (y : Bool) (n : Int) : Int × Bool := if y && fitsV n then (n, true) else (0, false)
set_option maxRecDepth 100000 in
set_option maxHeartbeats 2000000 in
theorem reval_t34 (w W : World) (y : Bool) (n : Int) (c0 c1 c2 c3 c4 c5 c6 c7 c9 c10 c12 c13 c14 c15 c16 c17 c18 c19 c20 c21 c22 c23 c24 c25 c26 c27 c28 c29 c30 c31 c32 c33 c34 c35 c36 c37 c38 c39 c40 c41 c42 c43 c44 c45 c46 c47 c48 c49 c50 c51 c52 c53 c54 c55 c56 c57 c58 c59 c60 c61 c62 c63 c64 c65 c66 c67 c68 c69 c70 c71 c72 c73 c74 c75 c76 c77 c78 c79 c80 c81 c82 c83 c84 c85 c86 c87 c88 c89 c90 c91 c92 c93 c94 c95 c96 c97 c98 c99 c100 c101 c102 c103 c104 c105 c106 c107 c108 c109 c110 c111 c112 c113 c114 c115 c116 c117 c118 c119 c120 c121 c122 c123 c124 c125 : Value) (hE : Ext w W) : Code.wp Tryd.prog (T59 34) (bodyPost Tryd.prog Tryd.f59 (REvP w (finR y n))) ⟨(c0 :: c1 :: c2 :: c3 :: c4 :: c5 :: c6 :: c7 :: .int .i64 (b01 y) :: c9 :: c10 :: .int .i64 n :: c12 :: c13 :: c14 :: c15 :: c16 :: c17 :: c18 :: c19 :: c20 :: c21 :: c22 :: c23 :: c24 :: c25 :: c26 :: c27 :: c28 :: c29 :: c30 :: c31 :: c32 :: c33 :: c34 :: c35 :: c36 :: c37 :: c38 :: c39 :: c40 :: c41 :: c42 :: c43 :: c44 :: c45 :: c46 :: c47 :: c48 :: c49 :: c50 :: c51 :: c52 :: c53 :: c54 :: c55 :: c56 :: c57 :: c58 :: c59 :: c60 :: c61 :: c62 :: c63 :: c64 :: c65 :: c66 :: c67 :: c68 :: c69 :: c70 :: c71 :: c72 :: c73 :: c74 :: c75 :: c76 :: c77 :: c78 :: c79 :: c80 :: c81 :: c82 :: c83 :: c84 :: c85 :: c86 :: c87 :: c88 :: c89 :: c90 :: c91 :: c92 :: c93 :: c94 :: c95 :: c96 :: c97 :: c98 :: c99 :: c100 :: c101 :: c102 :: c103 :: c104 :: c105 :: c106 :: c107 :: c108 :: c109 :: c110 :: c111 :: c112 :: c113 :: c114 :: c115 :: c116 :: c117 :: c118 :: c119 :: c120 :: c121 :: c122 :: c123 :: c124 :: c125 :: []).toArray, []⟩ W := by
  obtain ⟨r, hr⟩ : ∃ r, r = finR y n := ⟨_, rfl⟩
  rw [← hr]
  unfold finR fitsV at hr
  have HE := Lib.hid hE
  clear hE
  cases y with
  | false =>
    have HR : Hid (r = (0, false)) := Lib.hid (by rw [hr]; rfl)
    clear hr
    conv => arg 2; whnf
    go_wp2
    refine bodyPost_ret (results_tmp2 rfl _ _ _) rfl ?_
    rw [HR.out]
    exact ⟨rfl, HE.out⟩
  | true =>
    by_cases h1 : 2147483648 < n
    · have HR : Hid (r = (0, false)) := Lib.hid (by rw [hr, if_neg]; simp; omega)
      clear hr
      conv => arg 2; whnf
      go_wp2
      refine bodyPost_ret (results_tmp2 rfl _ _ _) rfl ?_
      rw [HR.out]
      exact ⟨rfl, HE.out⟩
    · by_cases h2 : n < -2147483648
      · have HR : Hid (r = (0, false)) := Lib.hid (by rw [hr, if_neg]; simp; omega)
        clear hr
        conv => arg 2; whnf
        go_wp2
        refine bodyPost_ret (results_tmp2 rfl _ _ _) rfl ?_
        rw [HR.out]
        exact ⟨rfl, HE.out⟩
      · have HR : Hid (r = (n, true)) := Lib.hid (by rw [hr, if_pos]; simp; omega)
        clear hr
        conv => arg 2; whnf
        go_wp2
        refine bodyPost_ret (results_tmp2 rfl _ _ _) rfl ?_
        rw [HR.out]
        exact ⟨rfl, HE.out⟩
theorem finR_eq {y : Bool} {n m : Int} (h : n = m) : finR y n = finR y m := by rw [h]
theorem fits_small {n : Int} (h : Small n) : finR true n = (n, true) := by
  unfold finR fitsV
  rw [if_pos]
  simp; exact h
theorem evR_fin {vals : List Int} {op : Nat} {n : Int} {ts : List Tr} (h2 : 2 ≤ op) (hl : ts.length ≤ 2) : evR vals (.mk op n ts) = finR (fineT vals ts ts.length) (doO op (valT vals ts 0 ts.length) (valT vals ts 1 ts.length)) := by
  rw [evR_op h2 hl]; rfl
theorem evR_fin1 {vals : List Int} {op : Nat} {n : Int} {s : Tr} (h2 : 2 ≤ op) : evR vals (.mk op n [s]) = finR (evR vals s).2 (doO op (evR vals s).1 0) := by
  rw [evR_fin h2 (by simp)]
  simp [fineT, valT]
theorem evR_fin2 {vals : List Int} {op : Nat} {n : Int} {s t : Tr} (h2 : 2 ≤ op) : evR vals (.mk op n [s, t]) = finR ((evR vals s).2 && (evR vals t).2) (doO op (evR vals s).1 (evR vals t).1) := by
  rw [evR_fin h2 (by simp)]
  simp [fineT, valT]
theorem finR_val {y : Bool} {n : Int} : (finR y n).1 = n ∨ (finR y n).1 = 0 := by
  unfold finR
  split
  · exact .inl rfl
  · exact .inr rfl
theorem typs_cond : ∀ {ts : List Tr} {s : Tr}, typTs false ts = true → s ∈ ts → condT s = true ∧ typT s = true
  | [], s, _, h => by cases h
  | t :: l, s, h, hs => by
    unfold typTs at h
    simp only [Bool.and_eq_true] at h
    obtain ⟨⟨h1, h2⟩, h3⟩ := h
    rcases List.mem_cons.1 hs with rfl | hs
    · exact ⟨by simpa using h1, h2⟩
    · exact typs_cond h3 hs
theorem typs_typ {b : Bool} : ∀ {ts : List Tr} {s : Tr}, typTs b ts = true → s ∈ ts → typT s = true
  | [], s, _, h => by cases h
  | t :: l, s, h, hs => by
    unfold typTs at h
    simp only [Bool.and_eq_true] at h
    obtain ⟨⟨h1, h2⟩, h3⟩ := h
    rcases List.mem_cons.1 hs with rfl | hs
    · exact h2
    · exact typs_typ h3 hs
/-- The subs of an operation. -/
theorem subs_of {vars : Nat} {op : Nat} {n : Int} {ts : List Tr} (h : shapT vars (.mk op n ts) = true) : op < 12 ∧ 0 ≤ n ∧ n ≤ mostN op vars ∧ ((op < 2 ∧ ts = []) ∨ ((op = 2 ∨ op = 9) ∧ ∃ s, ts = [s] ∧ shapT vars s = true) ∨ ((2 < op ∧ op ≠ 9) ∧ ∃ s t, ts = [s, t] ∧ shapT vars s = true ∧ shapT vars t = true)) := by
  obtain ⟨h1, h2, h3, h4, h5⟩ := own_of h
  simp only [Tr.op, Tr.n, Tr.subs] at h1 h2 h3 h4 h5
  refine ⟨h1, h3, h4, ?_⟩
  unfold subsN at h2
  split at h2
  · rename_i h6
    exact .inl ⟨by omega, List.length_eq_zero_iff.1 (by omega)⟩
  · split at h2
    · rename_i h6
      refine .inr (.inl ⟨h6, ?_⟩)
      match ts, h2, h5 with
      | [s], _, h5 => exact ⟨s, rfl, shap_sub (i := 0) h5 rfl⟩
      | [], h2, _ => simp at h2
      | _ :: _ :: _, h2, _ => simp at h2; omega
    · rename_i h6 h7
      refine .inr (.inr ⟨by omega, ?_⟩)
      match ts, h2, h5 with
      | [s, t], _, h5 => exact ⟨s, t, rfl, shap_sub (i := 0) h5 rfl, shap_sub (i := 1) h5 rfl⟩
      | [], h2, _ => simp at h2
      | [_], h2, _ => simp at h2
      | _ :: _ :: _ :: _, h2, _ => simp at h2; omega
/-- A condition is 0 or 1. -/
theorem evR_cond {vals : List Int} : ∀ (k : Nat) (t : Tr), SizeOf.sizeOf t ≤ k → shapT vals.length t = true → typT t = true → condT t = true → (evR vals t).1 = 0 ∨ (evR vals t).1 = 1
  | 0, t, hk, _, _, _ => by cases t; simp at hk
  | k + 1, .mk op n ts, hk, hs, ht, hc => by
    obtain ⟨h1, _, _, h4⟩ := subs_of hs
    unfold condT at hc
    have hc := of_decide_eq_true hc
    simp only [Tr.op] at hc
    rw [typT_eq] at ht
    simp only [Tr.op, Tr.subs] at ht
    have hsz : ∀ s ∈ ts, SizeOf.sizeOf s ≤ k := fun s h => by
      have := Tr.sub_lt (t := .mk op n ts) (s := s) h
      omega
    rcases h4 with ⟨h5, _⟩ | ⟨h5, s, rfl, hs1⟩ | ⟨h5, s, t, rfl, hs1, hs2⟩
    · omega
    · rw [evR_fin1 (by omega)]
      have hop : op = 9 := by omega
      subst hop
      have h6 := typs_cond ht (show s ∈ [s] by simp)
      have h7 := evR_cond k s (hsz s (by simp)) hs1 h6.2 h6.1
      rcases finR_val (y := (evR vals s).2) (n := doO 9 (evR vals s).1 0) with h8 | h8
      · rw [h8]
        show 1 - (evR vals s).1 = 0 ∨ 1 - (evR vals s).1 = 1
        omega
      · exact .inl h8
    · rw [evR_fin2 (by omega)]
      rcases finR_val (y := ((evR vals s).2 && (evR vals t).2)) (n := doO op (evR vals s).1 (evR vals t).1) with h8 | h8
      · rw [h8]
        rcases (by omega : op = 6 ∨ op = 7 ∨ op = 8 ∨ op = 10 ∨ op = 11) with rfl | rfl | rfl | rfl | rfl
        · show (if _ then (1 : Int) else 0) = 0 ∨ (if _ then (1 : Int) else 0) = 1
          split <;> simp
        · show (if _ then (1 : Int) else 0) = 0 ∨ (if _ then (1 : Int) else 0) = 1
          split <;> simp
        · show (if _ then (1 : Int) else 0) = 0 ∨ (if _ then (1 : Int) else 0) = 1
          split <;> simp
        · have h6 := typs_cond ht (show s ∈ [s, t] by simp)
          have h7 := evR_cond k s (hsz s (by simp)) hs1 h6.2 h6.1
          have h9 := typs_cond ht (show t ∈ [s, t] by simp)
          have h10 := evR_cond k t (hsz t (by simp)) hs2 h9.2 h9.1
          show (evR vals s).1 * (evR vals t).1 = 0 ∨ (evR vals s).1 * (evR vals t).1 = 1
          rcases h7 with h7 | h7 <;> rcases h10 with h10 | h10 <;> rw [h7, h10] <;> simp
        · have h6 := typs_cond ht (show s ∈ [s, t] by simp)
          have h7 := evR_cond k s (hsz s (by simp)) hs1 h6.2 h6.1
          have h9 := typs_cond ht (show t ∈ [s, t] by simp)
          have h10 := evR_cond k t (hsz t (by simp)) hs2 h9.2 h9.1
          show (if (evR vals s).1 < (evR vals t).1 then (evR vals t).1 else (evR vals s).1) = 0 ∨ (if (evR vals s).1 < (evR vals t).1 then (evR vals t).1 else (evR vals s).1) = 1
          split
          · exact h10
          · exact h7
      · exact .inl h8
end Go.Proofs.YtggffdkgfgdaoaaDoor
