/- Lists held against one another: slices.Equal, Compare, Same; powers; the law's list and edge. -/
import Derived.Test.YtkmcplhgakpneaaBase
namespace Go.Proofs.Ytkmcplhgakpneaa
open Go.RowKit
set_option linter.unusedVariables false
set_option linter.unusedSimpArgs false

theorem eq_of_pre {xs ys : List Int} (hl : xs.length = ys.length) (h : ∀ j, j < xs.length → xs[j]? = ys[j]?) : xs = ys := by
  apply List.ext_getElem? 
  intro j
  by_cases hj : j < xs.length
  · exact h j hj
  · rw [List.getElem?_eq_none (by omega), List.getElem?_eq_none (by omega)]

set_option maxHeartbeats 800000 in
theorem equal_any (w : World) (v u : Value) (xs ys : List Int) (ca cb : Nat) (hv : IntsC w v xs ca) (hu : IntsC w u ys cb) :
    Calls Try.prog 37 #[v, u] w fun e w' => e = .returned (.bool (xs == ys)) ∧ Ext w w' := by
  obtain ⟨A, rfl, ha, _, hx⟩ := hv
  obtain ⟨B, rfl, hb, _, hy⟩ := hu
  unfold lenMax at hx hy
  by_cases hl : xs.length = ys.length
  · have hl1 : ((xs.length : Int) != (ys.length : Int)) = false := by simp [hl]
    have HL := Lib.hid hl; clear hl
    go_enter Try.func37, Try.ntmps37
    go_wp2
    go_loopw [13, 5] (fun i _ wr => ∃ k : Nat, k ≤ xs.length ∧ i = .int .i64 k ∧ (∀ j, j < k → xs[j]? = ys[j]?) ∧ Ext w wr) (fun i _ _ => xs.length - (intOf i).toNat)
    case atStart => exact ⟨0, by omega, rfl, by simp, Ext.refl _⟩
    case round =>
      obtain ⟨k, hk, rfl, hpre, hE⟩ := hrel
      have HP := Lib.hid hpre; clear hpre
      by_cases hlt : k < xs.length
      · have := HL.out
        have hk2 : k < ys.length := by omega
        obtain ⟨b, o, rfl, h1, h2⟩ := (ha.ext hE).at_int hlt
        obtain ⟨b', o', rfl, h1', h2'⟩ := (hb.ext hE).at_int hk2
        go_wp2_with fail
        go_quiet (fail)
        cases hc : (xs[k] != ys[k])
        · go_wp2
          go_roundw
          case rel =>
            refine ⟨k + 1, by omega, by go_num, fun j hj => ?_, hE.drewN _⟩
            by_cases hjk : j = k
            · subst hjk
              rw [List.getElem?_eq_getElem hlt, List.getElem?_eq_getElem hk2]
              simp at hc; rw [hc]
            · exact HP.out j (by omega)
          case measure => simp [intOf]; omega
        · go_wp2
          go_ret
          have hne : (xs == ys) = false := by
            rw [beq_eq_false_iff_ne]
            rintro rfl
            simp at hc
          rw [hne]
          exact ⟨rfl, hE.drewN _⟩
      · go_wp2
        go_ret
        have : xs = ys := eq_of_pre HL.out (fun j hj => HP.out j (by omega))
        subst this
        exact ⟨by simp, hE⟩
  · have hl1 : ((xs.length : Int) != (ys.length : Int)) = true := by simp; omega
    have hne : (xs == ys) = false := by
      rw [beq_eq_false_iff_ne]
      rintro rfl
      exact hl rfl
    rw [hne]
    clear hne
    go_enter Try.func37, Try.ntmps37
    go_wp2
    go_ret
    exact ⟨rfl, Ext.refl _⟩

def cmpG : List Int → List Int → Int
  | x :: xs, y :: ys => if x < y then -1 else if y < x then 1 else cmpG xs ys
  | _, _ => 0
def cmpL (xs ys : List Int) : Int := if xs.length < ys.length then -1 else if ys.length < xs.length then 1 else cmpG xs ys
theorem cmpG_zero : ∀ xs ys : List Int, xs.length = ys.length → (cmpG xs ys = 0 ↔ xs = ys)
  | [], [], _ => by simp [cmpG]
  | x :: xs, y :: ys, h => by
    have ih := cmpG_zero xs ys (by simpa using h)
    unfold cmpG
    by_cases h1 : x < y
    · simp [h1]; intro e; omega
    · by_cases h2 : y < x
      · simp [h1, h2]; intro e; omega
      · have : x = y := by omega
        subst this
        simp [ih]
theorem cmpL_zero (xs ys : List Int) : (cmpL xs ys == 0) = (xs == ys) := by
  rw [Bool.eq_iff_iff]
  simp only [beq_iff_eq]
  unfold cmpL
  by_cases h1 : xs.length < ys.length
  · simp [h1]; rintro rfl; omega
  · by_cases h2 : ys.length < xs.length
    · simp [h1, h2]; rintro rfl; omega
    · simp only [h1, h2, if_false]
      exact cmpG_zero xs ys (by omega)

set_option maxHeartbeats 800000 in
theorem compare_any (w : World) (v u : Value) (xs ys : List Int) (ca cb : Nat) (hv : IntsC w v xs ca) (hu : IntsC w u ys cb) :
    Calls Try.prog 32 #[v, u] w fun e w' => e = .returned (.int .i64 (cmpL xs ys)) ∧ Ext w w' := by
  obtain ⟨A, rfl, ha, _, hx⟩ := hv
  obtain ⟨B, rfl, hb, _, hy⟩ := hu
  unfold lenMax at hx hy
  by_cases h1 : xs.length < ys.length
  · rw [show cmpL xs ys = -1 by simp [cmpL, h1]]
    go_enter Try.func32, Try.ntmps32
    go_wp2
    go_ret
    exact ⟨rfl, Ext.refl _⟩
  by_cases h2 : ys.length < xs.length
  · rw [show cmpL xs ys = 1 by simp [cmpL, h1, h2]]
    go_enter Try.func32, Try.ntmps32
    go_wp2
    go_ret
    exact ⟨rfl, Ext.refl _⟩
  have HC : Hid (cmpL xs ys = cmpG xs ys) := by show _ = _; simp [cmpL, h1, h2]
  go_enter Try.func32, Try.ntmps32
  go_wp2
  go_loopw [5] (fun i wr => ∃ k : Nat, k ≤ xs.length ∧ i = .int .i64 k ∧ Hid (cmpG xs ys = cmpG (xs.drop k) (ys.drop k)) ∧ Ext w wr) (fun i _ => xs.length - (intOf i).toNat)
  case atStart => exact ⟨0, by omega, rfl, rfl, Ext.refl _⟩
  case round =>
    obtain ⟨k, hk, rfl, hpre, hE⟩ := hrel
    by_cases hlt : k < xs.length
    · have hk2 : k < ys.length := by omega
      obtain ⟨b, o, rfl, _, c1⟩ := (ha.ext hE).at_int hlt
      obtain ⟨b', o', rfl, _, c2⟩ := (hb.ext hE).at_int hk2
      have hstep : Hid (cmpG xs ys = if xs[k] < ys[k] then -1 else if ys[k] < xs[k] then 1 else cmpG (xs.drop (k + 1)) (ys.drop (k + 1))) := by
        show _ = _
        rw [hpre.out, List.drop_eq_getElem_cons hlt, List.drop_eq_getElem_cons hk2, cmpG]
      by_cases l1 : xs[k] < ys[k]
      · have hres : Hid (cmpG xs ys = -1) := by show _ = _; rw [hstep.out, if_pos l1]
        go_wp2_with fail
        go_quiet (fail)
        go_wp2
        go_ret
        exact ⟨by rw [HC.out, hres.out]; rfl, hE.drewN _⟩
      by_cases l2 : ys[k] < xs[k]
      · have hres : Hid (cmpG xs ys = 1) := by show _ = _; rw [hstep.out, if_neg l1, if_pos l2]
        go_wp2_with fail
        go_quiet (fail)
        go_wp2_with fail
        go_quiet (fail)
        go_wp2
        go_ret
        exact ⟨by rw [HC.out, hres.out]; rfl, (hE.drewN _).drewN _⟩
      have hres : Hid (cmpG xs ys = cmpG (xs.drop (k + 1)) (ys.drop (k + 1))) := by show _ = _; rw [hstep.out, if_neg l1, if_neg l2]
      go_wp2_with fail
      go_quiet (fail)
      go_wp2_with fail
      go_quiet (fail)
      go_wp2
      go_roundw
      case rel => exact ⟨k + 1, by omega, by go_num, hres, hE.drewN _⟩
      case measure => simp [intOf]; omega
    · go_wp2
      go_ret
      exact ⟨by rw [HC.out, hpre.out, List.drop_eq_nil_of_le (by omega)]; rfl, hE⟩

theorem same_any (w : World) (v u : Value) (xs ys : List Int) (ca cb : Nat) (hv : IntsC w v xs ca) (hu : IntsC w u ys cb) :
    Calls Try.prog 13 #[v, u] w fun e w' => e = .returned (.bool (xs == ys)) ∧ Ext w w' := by
  rw [← cmpL_zero]
  go_enter Try.func13, Try.ntmps13
  go_wp2_with fail
  refine (compare_any w v u xs ys ca cb hv hu).mono ?_
  rintro e w1 ⟨rfl, hb⟩
  go_wp2
  go_ret
  exact ⟨rfl, hb⟩

/-- A list, an error, what is wanted: all alike, and no spare capacity. -/
def listB (xs : List Int) (c : Nat) (e : Int) (ys : List Int) (f : Int) : Bool := e == f && xs == ys && decide (c = xs.length)
set_option maxHeartbeats 800000 in
theorem list_any (w : World) (v u : Value) (xs ys : List Int) (ca cb : Nat) (e f : Int) (hv : IntsC w v xs ca) (hu : IntsC w u ys cb) :
    Calls Try.prog 17 #[v, .int .i64 e, u, .int .i64 f] w fun r w' => r = .returned (.bool (listB xs ca e ys f)) ∧ Ext w w' := by
  have hv0 := hv
  obtain ⟨A, rfl, ha, _, hx⟩ := hv
  by_cases h1 : (e == f) = true
  · cases h2 : (xs == ys)
    · rw [show listB xs ca e ys f = false by simp [listB, h2]]
      go_enter Try.func17, Try.ntmps17
      go_wp2_with fail
      refine (same_any w _ _ xs ys ca cb hv0 hu).mono ?_
      rintro e w1 ⟨rfl, hb⟩
      have h3 := h2
      go_wp2
      go_ret
      exact ⟨rfl, hb⟩
    · have h4 : ((ca : Int) == (xs.length : Int)) = decide (ca = xs.length) := by
        rw [Bool.eq_iff_iff]; simp; omega
      rw [show listB xs ca e ys f = ((ca : Int) == (xs.length : Int)) by rw [h4]; simp [listB, h2, h1]]
      clear h4
      go_enter Try.func17, Try.ntmps17
      go_wp2_with fail
      refine (same_any w _ _ xs ys ca cb hv0 hu).mono ?_
      rintro e w1 ⟨rfl, hb⟩
      rw [h2]
      go_wp2
      go_ret
      exact ⟨rfl, hb⟩
  · have h1' : (e == f) = false := by simpa using h1
    rw [show listB xs ca e ys f = false by simp [listB, h1']]
    clear h1
    go_enter Try.func17, Try.ntmps17
    go_wp2
    go_ret
    exact ⟨rfl, Ext.refl _⟩

theorem edge_any (w : World) (x y : Int) : Calls Try.prog 28 #[.int .i64 x, .int .i64 y] w fun e w' => e = .returned (.agg #[.int .i64 x, .int .i64 y]) ∧ Ext w w' := by
  go_enter Try.func28, Try.ntmps28
  go_wp2
  refine bodyPost_ret (v := .agg #[.int .i64 x, .int .i64 y]) (by simp [results, Try.results28, go_sem]) rfl ⟨rfl, (Ext.refl _).alloc _⟩

def pow (a : Int) : Nat → Int
  | 0 => 1
  | n + 1 => pow a n * a
set_option maxHeartbeats 400000 in
/-- A power whose steps stay small. -/
theorem power_any (w : World) (a : Int) (n : Nat) (hn : n ≤ 64) (ha : ∀ k, k ≤ n → 0 ≤ pow a k ∧ pow a k ≤ 1000000000) :
    Calls Try.prog 12 #[.int .i64 a, .int .i64 n] w fun e w' => e = .returned (.int .i64 (pow a n)) ∧ Ext w w' := by
  go_enter Try.func12, Try.ntmps12
  go_wp2
  go_loopw [6, 5] (fun i p wr => ∃ k : Nat, k ≤ n ∧ i = .int .i64 k ∧ p = .int .i64 (pow a k) ∧ Ext w wr) (fun i _ _ => n - (intOf i).toNat)
  case atStart => exact ⟨0, by omega, rfl, rfl, Ext.refl _⟩
  case round =>
    obtain ⟨k, hk, rfl, rfl, hE⟩ := hrel
    by_cases hlt : k < n
    · have h1 := ha (k + 1) (by omega)
      have hw : IntKind.i64.wrap (pow a k * a) = pow a (k + 1) := IntWalk.i64_in _ ⟨by have := h1.1; simp only [pow] at this; omega, by have := h1.2; simp only [pow] at this; omega⟩
      clear h1 ha
      go_wp2
      go_roundw
      case rel => exact ⟨k + 1, by omega, by go_num, rfl, hE⟩
      case measure => simp [intOf]; omega
    · go_wp2
      go_ret
      have : k = n := by omega
      subst this
      exact ⟨rfl, hE⟩
end Go.Proofs.Ytkmcplhgakpneaa
