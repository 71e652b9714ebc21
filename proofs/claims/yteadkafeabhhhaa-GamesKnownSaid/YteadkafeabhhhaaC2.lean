/- Lists held against one another: Before, Same; the law's list and truths. -/
import Derived.Test.YteadkafeabhhhaaB2
namespace Go.Proofs.Yteadkafeabhhhaa
open Go.RowKit
set_option linter.unusedVariables false
set_option linter.unusedSimpArgs false
attribute [local go_sem] Oper.quietV quietV Oper.gives givesV ext_refl_iff ext_alloc_iff ext_drew_iff ext_drewN_iff

def befG : List Int → List Int → Bool
  | x :: xs, y :: ys => if x = y then befG xs ys else decide (x < y)
  | _, _ => false
def befL (xs ys : List Int) : Bool := if xs.length = ys.length then befG xs ys else decide (xs.length < ys.length)
theorem befG_same : ∀ xs ys : List Int, xs.length = ys.length → (befG xs ys = false ∧ befG ys xs = false ↔ xs = ys)
  | [], [], _ => by simp [befG]
  | x :: xs, y :: ys, h => by
    have ih := befG_same xs ys (by simpa using h)
    unfold befG
    by_cases hxy : x = y
    · subst hxy; simp [ih]
    · rw [if_neg hxy, if_neg (fun e => hxy e.symm)]
      simp [hxy]; omega
theorem befL_same (xs ys : List Int) (h : xs.length = ys.length) : (befL xs ys = false ∧ befL ys xs = false) ↔ xs = ys := by
  unfold befL; rw [if_pos h, if_pos h.symm]; exact befG_same xs ys h
def b01 (b : Bool) : Int := if b then 1 else 0

set_option maxHeartbeats 800000 in
theorem before_any (w : World) (v u : Value) (xs ys : List Int) (ca cb : Nat) (hv : IntsC w v xs ca) (hu : IntsC w u ys cb) :
    Calls Try.prog 51 #[v, u] w fun e w' => e = .returned (.int .i64 (b01 (befL xs ys))) ∧ Ext w w' := by
  obtain ⟨A, rfl, ha, _, hx⟩ := hv
  obtain ⟨B, rfl, hb, _, hy⟩ := hu
  unfold lenMax at hx hy
  by_cases hl : xs.length = ys.length
  · have hl1 : ((xs.length : Int) != (ys.length : Int)) = false := by simp [hl]
    have HB : Hid (befL xs ys = befG xs ys) := if_pos hl
    have HL := Lib.hid hl; clear hl
    go_enter Try.func51, Try.ntmps51
    go_wp2
    go_loopw [5] (fun i wr => ∃ k : Nat, k ≤ xs.length ∧ i = .int .i64 k ∧ Hid (befL xs ys = befG (xs.drop k) (ys.drop k)) ∧ Ext w wr) (fun i _ => xs.length - (intOf i).toNat)
    case atStart => exact ⟨0, by omega, rfl, HB, Ext.refl _⟩
    case round =>
      obtain ⟨k, hk, rfl, hpre, hE⟩ := hrel
      by_cases hlt : k < xs.length
      · have hk2 : k < ys.length := by have := HL.out; omega
        obtain ⟨b, o, rfl, _, c1⟩ := (ha.ext hE).at_int hlt
        obtain ⟨b', o', rfl, _, c2⟩ := (hb.ext hE).at_int hk2
        have hstep : Hid (befL xs ys = if xs[k] = ys[k] then befG (xs.drop (k + 1)) (ys.drop (k + 1)) else decide (xs[k] < ys[k])) := by
          show _ = _
          rw [hpre.out, List.drop_eq_getElem_cons hlt, List.drop_eq_getElem_cons hk2, befG]
        generalize xs[k] = x at *
        generalize ys[k] = y at *
        go_wp2_with fail
        go_quiet (fail)
        cases hc : (x != y)
        · have hxy : x = y := by simpa using hc
          have hres : Hid (befL xs ys = befG (xs.drop (k + 1)) (ys.drop (k + 1))) := by show _ = _; rw [hstep.out, if_pos hxy]
          clear hxy
          go_wp2
          go_roundw
          case rel => exact ⟨k + 1, by omega, by go_num, hres, hE.drewN _⟩
          case measure => simp [intOf]; omega
        · by_cases l1 : x < y
          ·
            have hres : Hid (befL xs ys = true) := by show _ = _; rw [hstep.out, if_neg (by simpa using hc)]; simp; omega
            go_wp2
            go_quiet (fail)
            go_wp2
            go_ret
            exact ⟨by rw [hres.out]; rfl, (hE.drewN _).drewN _⟩
          ·
            have hres : Hid (befL xs ys = false) := by show _ = _; rw [hstep.out, if_neg (by simpa using hc)]; simp; omega
            go_wp2
            go_quiet (fail)
            go_wp2
            go_ret
            exact ⟨by rw [hres.out]; rfl, (hE.drewN _).drewN _⟩
      · have hke : k = xs.length := by omega
        go_wp2
        go_ret
        exact ⟨by rw [hpre.out, hke, List.drop_length]; rfl, hE⟩
  · have hl1 : ((xs.length : Int) != (ys.length : Int)) = true := by simp; omega
    have HB : Hid (befL xs ys = decide (xs.length < ys.length)) := if_neg hl
    clear hl
    by_cases h2 : xs.length < ys.length
    · go_enter Try.func51, Try.ntmps51
      go_wp2
      go_ret
      exact ⟨by rw [HB.out, decide_eq_true h2]; rfl, Ext.refl _⟩
    · go_enter Try.func51, Try.ntmps51
      go_wp2
      go_ret
      exact ⟨by rw [HB.out, decide_eq_false h2]; rfl, Ext.refl _⟩

set_option maxHeartbeats 800000 in
theorem same_any (w : World) (v u : Value) (xs ys : List Int) (ca cb : Nat) (hv : IntsC w v xs ca) (hu : IntsC w u ys cb) :
    Calls Try.prog 35 #[v, u] w fun e w' => e = .returned (.int .i64 (b01 (xs == ys))) ∧ Ext w w' := by
  obtain ⟨A, rfl, ha, hca, hx⟩ := id hv
  obtain ⟨B, rfl, hb, hcb, hy⟩ := id hu
  unfold lenMax at hx hy
  by_cases hl : xs.length = ys.length
  · have hl1 : ((xs.length : Int) != (ys.length : Int)) = false := by simp [hl]
    have HS := Lib.hid (befL_same xs ys hl)
    have h1 := before_any w _ _ xs ys ca cb hv hu
    have h2 := fun w1 (hE : Ext w w1) => before_any w1 _ _ ys xs cb ca (hu.ext hE) (hv.ext hE)
    clear hl
    generalize hb1 : befL xs ys = b1 at *
    generalize hb2 : befL ys xs = b2 at *
    clear hb1 hb2
    go_enter Try.func35, Try.ntmps35
    cases b1 with
    | true =>
      have hs : Hid ((xs == ys) = false) := by
        show _ = _
        rw [beq_eq_false_iff_ne]; intro e; have := HS.out.2 e; simp at this
      go_wp2_with ((with_reducible refine h1.mono ?_); rintro e w1 ⟨rfl, hE1⟩)
      go_wp2
      go_ret
      exact ⟨by rw [hs.out]; rfl, hE1⟩
    | false =>
      cases b2 with
      | true =>
        have hs : Hid ((xs == ys) = false) := by
          show _ = _
          rw [beq_eq_false_iff_ne]; intro e; have := HS.out.2 e; simp at this
        go_wp2_with (first | ((with_reducible refine h1.mono ?_); rintro e w1 ⟨rfl, hE1⟩) | ((with_reducible refine (h2 _ hE1).mono ?_); rintro e w2 ⟨rfl, hE2⟩))
        go_wp2
        go_ret
        exact ⟨by rw [hs.out]; rfl, hE1.trans hE2⟩
      | false =>
        have hs : Hid ((xs == ys) = true) := by
          show _ = _
          rw [beq_iff_eq]; exact HS.out.1 ⟨rfl, rfl⟩
        go_wp2_with (first | ((with_reducible refine h1.mono ?_); rintro e w1 ⟨rfl, hE1⟩) | ((with_reducible refine (h2 _ hE1).mono ?_); rintro e w2 ⟨rfl, hE2⟩))
        go_wp2
        go_ret
        exact ⟨by rw [hs.out]; rfl, hE1.trans hE2⟩
  · have hl1 : ((xs.length : Int) != (ys.length : Int)) = true := by simp; omega
    have hs : Hid ((xs == ys) = false) := by
      show _ = _
      rw [beq_eq_false_iff_ne]; intro e; exact hl (by rw [e])
    clear hl
    go_enter Try.func35, Try.ntmps35
    go_wp2
    go_ret
    exact ⟨by rw [hs.out]; rfl, Ext.refl _⟩

set_option maxHeartbeats 800000 in
theorem list_any (w : World) (v u : Value) (xs ys : List Int) (ca cb : Nat) (e : Int) (hv : IntsC w v xs ca) (hu : IntsC w u ys cb) :
    Calls Try.prog 13 #[v, .int .i64 e, u] w fun r w' => r = .returned (.int .i64 (b01 (e == 0 && ca == xs.length && xs == ys))) ∧ Ext w w' := by
  obtain ⟨A, rfl, ha, hca, hx⟩ := id hv
  obtain ⟨B, rfl, hb, hcb, hy⟩ := id hu
  unfold lenMax at hx hy
  have h1 := same_any w _ _ xs ys ca cb hv hu
  by_cases he : e = 0
  · subst he
    by_cases hc : ca = xs.length
    · subst hc
      have hc1 : ((xs.length : Int) != (xs.length : Int)) = false := by simp
      go_enter Try.func13, Try.ntmps13
      go_wp2_with ((with_reducible refine h1.mono ?_); rintro e w1 ⟨rfl, hE1⟩)
      go_ret
      exact ⟨by simp, hE1⟩
    · have hc1 : ((ca : Int) != (xs.length : Int)) = true := by simp; omega
      have HC := Lib.hid hc
      clear hc
      go_enter Try.func13, Try.ntmps13
      go_wp2
      go_ret
      exact ⟨by rw [show (ca == xs.length) = false by simpa using HC.out]; rfl, Ext.refl _⟩
  · have he1 : (e != 0) = true := by simpa using he
    have HC := Lib.hid he
    clear he
    go_enter Try.func13, Try.ntmps13
    go_wp2
    go_ret
    exact ⟨by rw [show (e == 0) = false by simpa using HC.out]; rfl, Ext.refl _⟩
end Go.Proofs.Yteadkafeabhhhaa
