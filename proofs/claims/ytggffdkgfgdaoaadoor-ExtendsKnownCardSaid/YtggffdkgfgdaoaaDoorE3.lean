/- ref28.Eval 59: the recursion. -/
import Derived.Test.YtggffdkgfgdaoaaDoorE2
namespace Go.Proofs.YtggffdkgfgdaoaaDoor
open Go.RowKit Go.Maps
set_option linter.unusedVariables false
set_option linter.unusedSimpArgs false
set_option maxRecDepth 100000 in
theorem rev_step (vals : List Int) (hv : ∀ x ∈ vals, Small x) (k : Nat) (ih : REvS vals k) : REvS vals (k + 1) := by
  rintro ⟨op, n, ts⟩ w v vv c hk hN hi hs ht
  obtain ⟨h12, hn0, hnm, h4⟩ := subs_of hs
  obtain ⟨_, A, c0, vs, rfl, hvl, hcs, hsub, _, _⟩ := hN.form
  simp only [Tr.op, Tr.n, Tr.subs] at hvl hcs hsub ⊢
  rw [typT_eq] at ht
  simp only [Tr.op, Tr.subs] at ht
  have hsz : ∀ s ∈ ts, SizeOf.sizeOf s ≤ k := fun s h => by
    have := Tr.sub_lt (t := .mk op n ts) (s := s) h
    omega
  rcases h4 with ⟨h5, rfl⟩ | ⟨h5, s, rfl, hs1⟩ | ⟨h5, s, t, rfl, hs1, hs2⟩
  · rcases (by omega : op = 0 ∨ op = 1) with rfl | rfl
    · unfold mostN at hnm
      simp at hnm
      refine rev_op0 w vals n A c0 vv _ ?_
      rw [fits_small ⟨by omega, hnm⟩]
      simp [evR, evT]
    · unfold mostN at hnm
      simp at hnm
      obtain ⟨m, rfl⟩ : ∃ m : Nat, n = m := ⟨n.toNat, by omega⟩
      have hm : m < vals.length := by omega
      refine rev_op1 w vals m A c0 vv c hi hm _ ?_
      rw [fits_small (hv _ (List.getElem_mem hm))]
      simp [evR, evT, hm]
  · obtain ⟨b, o, p, m, q, rfl, d0, d1, d2, hns⟩ := sub_at hvl hcs hsub (i := 0) (s := s) rfl
    simp only [Nat.zero_mul, Nat.add_zero] at d0 d1 d2
    have hts := typs_typ ht (show s ∈ [s] by simp)
    have hc1 := fun W' (e : Ext w W') => ih s W' _ vv c (hsz s (by simp)) (hns.ext e) (hi.ext e) hs1 hts
    have hsm := evR_small hv hs1
    rcases h5 with rfl | rfl
    · have hfin := evR_fin1 (vals := vals) (op := 2) (n := n) (s := s) (by omega)
      exact rev_op2 w n b o c0 vv p m q _ _ d0 d1 d2 hsm hc1 _ hfin
    · have hfin := evR_fin1 (vals := vals) (op := 9) (n := n) (s := s) (by omega)
      have hcd := evR_cond (vals := vals) k s (hsz s (by simp)) hs1 hts (typs_cond ht (show s ∈ [s] by simp)).1
      refine rev_op9 w n b o c0 vv p m q _ _ d0 d1 d2 hsm hc1 _ (hfin.trans (finR_eq ?_))
      show 1 - (evR vals s).1 = _
      rcases hcd with h | h <;> rw [h] <;> rfl
  · obtain ⟨b, o, p, m, q, rfl, d0, d1, d2, hns⟩ := sub_at hvl hcs hsub (i := 0) (s := s) rfl
    obtain ⟨b', o', p', m', q', hA, g0, g1, g2, hns'⟩ := sub_at hvl hcs hsub (i := 1) (s := t) rfl
    cases hA
    simp only [Nat.zero_mul, Nat.add_zero, Nat.one_mul] at d0 d1 d2 g0 g1 g2
    have hts := typs_typ ht (show s ∈ [s, t] by simp)
    have hts' := typs_typ ht (show t ∈ [s, t] by simp)
    have hc1 := fun W' (e : Ext w W') => ih s W' _ vv c (hsz s (by simp)) (hns.ext e) (hi.ext e) hs1 hts
    have hc2 := fun W' (e : Ext w W') => ih t W' _ vv c (hsz t (by simp)) (hns'.ext e) (hi.ext e) hs2 hts'
    have hsm1 := evR_small hv hs1
    have hsm2 := evR_small hv hs2
    have hfin := evR_fin2 (vals := vals) (op := op) (n := n) (s := s) (t := t) (by omega)
    rcases (by omega : op = 3 ∨ op = 4 ∨ op = 5 ∨ op = 6 ∨ op = 7 ∨ op = 8 ∨ op = 10 ∨ op = 11) with rfl | rfl | rfl | rfl | rfl | rfl | rfl | rfl
    · exact rev_op3 w n b o c0 vv p p' m m' q q' _ _ _ _ d0 d1 d2 g0 g1 g2 hsm1 hsm2 hc1 hc2 _ hfin
    · exact rev_op4 w n b o c0 vv p p' m m' q q' _ _ _ _ d0 d1 d2 g0 g1 g2 hsm1 hsm2 hc1 hc2 _ hfin
    · exact rev_op5 w n b o c0 vv p p' m m' q q' _ _ _ _ d0 d1 d2 g0 g1 g2 hsm1 hsm2 hc1 hc2 _ hfin
    · refine rev_op6 w n b o c0 vv p p' m m' q q' _ _ _ _ d0 d1 d2 g0 g1 g2 hsm1 hsm2 hc1 hc2 _ (hfin.trans (finR_eq ?_))
      show (if _ then (1 : Int) else 0) = _
      unfold b01
      simp only [beq_iff_eq, decide_eq_true_eq]
    · refine rev_op7 w n b o c0 vv p p' m m' q q' _ _ _ _ d0 d1 d2 g0 g1 g2 hsm1 hsm2 hc1 hc2 _ (hfin.trans (finR_eq ?_))
      show (if _ then (1 : Int) else 0) = _
      unfold b01
      simp only [beq_iff_eq, decide_eq_true_eq]
    · refine rev_op8 w n b o c0 vv p p' m m' q q' _ _ _ _ d0 d1 d2 g0 g1 g2 hsm1 hsm2 hc1 hc2 _ (hfin.trans (finR_eq ?_))
      show (if _ then (1 : Int) else 0) = _
      unfold b01
      simp only [beq_iff_eq, decide_eq_true_eq]
    · have h01 := evR_cond (vals := vals) k s (hsz s (by simp)) hs1 hts (typs_cond ht (show s ∈ [s, t] by simp)).1
      have h01' := evR_cond (vals := vals) k t (hsz t (by simp)) hs2 hts' (typs_cond ht (show t ∈ [s, t] by simp)).1
      refine rev_op10 w n b o c0 vv p p' m m' q q' _ _ _ _ d0 d1 d2 g0 g1 g2 hsm1 hsm2 h01 h01' hc1 hc2 _ (hfin.trans (finR_eq ?_))
      show (evR vals s).1 * (evR vals t).1 = _
      rcases h01 with h | h <;> rcases h01' with h' | h' <;> rw [h, h'] <;> rfl
    · have h01 := evR_cond (vals := vals) k s (hsz s (by simp)) hs1 hts (typs_cond ht (show s ∈ [s, t] by simp)).1
      have h01' := evR_cond (vals := vals) k t (hsz t (by simp)) hs2 hts' (typs_cond ht (show t ∈ [s, t] by simp)).1
      refine rev_op11 w n b o c0 vv p p' m m' q q' _ _ _ _ d0 d1 d2 g0 g1 g2 hsm1 hsm2 h01 h01' hc1 hc2 _ (hfin.trans (finR_eq ?_))
      show (if (evR vals s).1 < (evR vals t).1 then (evR vals t).1 else (evR vals s).1) = _
      rcases h01 with h | h <;> rcases h01' with h' | h' <;> rw [h, h'] <;> rfl
theorem rev_any (vals : List Int) (hv : ∀ x ∈ vals, Small x) : ∀ k, REvS vals k
  | 0 => fun t w v vv c hk => by cases t; simp at hk
  | k + 1 => rev_step vals hv k (rev_any vals hv k)
/-- **ref28.Eval gives the value of a valid expression.** -/
theorem refEval_of {vals : List Int} (hv : ∀ x ∈ vals, Small x) {t : Tr} {w : World} {v vv : Value} {c : Nat} (hN : NodeV w t v) (hi : IntsC w vv vals c) (hs : shapT vals.length t = true) (ht : typT t = true) : Calls Tryd.prog 59 #[v, vv] w (REvP w (evR vals t)) :=
  rev_any vals hv _ t w v vv c (Nat.le_refl _) hN hi hs ht
end Go.Proofs.YtggffdkgfgdaoaaDoor
