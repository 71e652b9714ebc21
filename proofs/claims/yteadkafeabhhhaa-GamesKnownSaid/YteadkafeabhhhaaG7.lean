/- slices.Reverse, slices.Clip. -/
import Derived.Test.YteadkafeabhhhaaB2
import Derived.Test.YteadkafeabhhhaaRk0
import Derived.Deep.RegionLaw
namespace Go.Proofs.Yteadkafeabhhhaa
open Go.RowKit
set_option linter.unusedVariables false
set_option linter.unusedSimpArgs false
attribute [local go_sem] Oper.quietV quietV Oper.gives givesV ext_refl_iff ext_alloc_iff ext_drew_iff ext_drewN_iff

theorem gtrans {a b c : World} {r : Option Nat} (h : a.grownBy b r) (k : b.grownBy c r) : a.grownBy c r :=
  ⟨k.os.trans h.os, k.tape.trans h.tape, k.output.trans h.output, Nat.le_trans h.size k.size, fun x hx hne => (k.block x (Nat.lt_of_lt_of_le hx h.size) hne).trans (h.block x hx hne)⟩
theorem gdrew {a b : World} {r : Option Nat} (h : a.grownBy b r) : a.grownBy b.drew r := ⟨h.os, h.tape, h.output, h.size, h.block⟩
theorem ownsRow_pos0 {W : World} {base : Nat} {e : TypeId} {size : Nat} {v : Value} {k : Nat} {xs : List Value} (h : W.ownsRow base e size v k xs) (hk : 0 < k) : ∃ g cap, v = .slice (some ⟨g, 0, none⟩) k cap := by
  rcases h.2 with ⟨_, h0⟩ | ⟨g, cap, _, rfl, _⟩
  · omega
  · exact ⟨g, cap, rfl⟩
def revF (xs : List Int) (i t : Nat) : Int := if t < i ∨ xs.length < t + i + 1 then xs.getD (xs.length - 1 - t) 0 else xs.getD t 0
def revAt (xs : List Int) (i : Nat) : List Value := (List.range xs.length).map (fun t => .int .i64 (revF xs i t))
theorem revAt_zero (xs : List Int) : xs.map (Value.int .i64) = revAt xs 0 := by
  unfold revAt revF
  apply List.ext_getElem
  · simp
  · intro i h1 h2
    have hi : i < xs.length := by simpa using h1
    simp [List.getD, hi]; omega
theorem revAt_step (xs : List Int) {i j : Nat} (hij : i < j) (hj : i + j + 1 = xs.length) :
    ((revAt xs i).set i (.int .i64 (revF xs i j))).set j (.int .i64 (revF xs i i)) = revAt xs (i + 1) := by
  have e1 : revF xs i j = revF xs (i + 1) i := by
    unfold revF; rw [if_neg (by omega), if_pos (by omega), show xs.length - 1 - i = j by omega]
  have e2 : revF xs i i = revF xs (i + 1) j := by
    unfold revF; rw [if_neg (by omega), if_pos (by omega), show xs.length - 1 - j = i by omega]
  rw [e1, e2]
  apply List.ext_getElem
  · simp [revAt]
  · intro t h1 h2
    rw [List.getElem_set]
    by_cases htj : j = t
    · subst htj; simp [revAt]
    · rw [if_neg htj, List.getElem_set]
      by_cases hti : i = t
      · subst hti; simp [revAt]
      · rw [if_neg hti]
        simp only [revAt, List.getElem_map, List.getElem_range]
        unfold revF
        by_cases hc : t < i ∨ xs.length < t + i + 1
        · rw [if_pos hc, if_pos (by omega)]
        · rw [if_neg hc, if_neg (by omega)]
theorem revAt_end (xs : List Int) {i : Nat} (h : xs.length ≤ 2 * i + 1) : revAt xs i = xs.reverse.map (.int .i64) := by
  unfold revAt revF
  apply List.ext_getElem
  · simp
  · intro t h1 h2
    have ht : t < xs.length := by simpa using h1
    simp only [List.getElem_map, List.getElem_range, List.getElem_reverse]
    by_cases hc : t < i ∨ xs.length < t + i + 1
    · rw [if_pos hc]; simp [List.getD, show xs.length - 1 - t < xs.length by omega]
    · rw [if_neg hc]
      have : xs.length - 1 - t = t := by omega
      simp [List.getD, ht, this]
theorem revAt_get (xs : List Int) (i : Nat) {t : Nat} (h : t < xs.length) : (revAt xs i)[t]? = some (.int .i64 (revF xs i t)) := by unfold revAt; simp [h]

set_option maxHeartbeats 2000000 in
theorem reverse_any (w : World) (B : Nat) (v : Value) (xs : List Int) (hv : w.ownsRow B 3 1 v xs.length (xs.map (.int .i64))) (hn : xs.length ≤ 100000) :
    Calls Try.prog 44 #[v] w fun e w' => e = .returned (.tuple #[]) ∧ w.grownBy w' v.ownBlock ∧ w'.ownsRow B 3 1 v xs.length (xs.reverse.map (.int .i64)) := by
  obtain ⟨A, c, rfl, hnc, _⟩ := cells_of_owns hv
  rw [revAt_zero] at hv
  obtain ⟨n, hnn⟩ : ∃ n, n = xs.length := ⟨_, rfl⟩
  rw [← hnn] at hv hn ⊢
  have HN := Lib.hid hnn
  clear hnn hnc
  go_enter Try.func44, Try.ntmps44
  go_wp2
  go_loopw [2, 3] (fun iv jv wr => ∃ (i : Nat) (J : Int), iv = .int .i64 i ∧ jv = .int .i64 J ∧ Hid (J = (n : Int) - 1 - i) ∧ i ≤ n ∧ -100000 ≤ J ∧ J ≤ 100000 ∧ w.grownBy wr (Value.slice A n c).ownBlock ∧ wr.ownsRow B 3 1 (.slice A n c) n (revAt xs i)) (fun iv _ _ => n - (intOf iv).toNat)
  case atStart => exact ⟨0, (n : Int) - 1, rfl, rfl, (by show (n : Int) - 1 = (n : Int) - 1 - ((0 : Nat) : Int); omega), by omega, by omega, by omega, World.grownBy.refl _ _, hv⟩
  case round =>
    clear hv
    obtain ⟨i, J, rfl, rfl, hJ, hi, hJ1, hJ2, hg, ho⟩ := hrel
    obtain ⟨W3, hW3⟩ : ∃ W, W = wr := ⟨_, rfl⟩; subst hW3
    by_cases hij : (i : Int) < J
    · obtain ⟨j, rfl⟩ := Int.eq_ofNat_of_zero_le (show 0 ≤ J by omega)
      have hsum : Hid (i + j + 1 = xs.length) := by show _ = _; have := hJ.out; have := HN.out; omega
      have hjn : j < n := by have := hsum.out; have := HN.out; omega
      have hin : i < n := by omega
      obtain ⟨gx, cx, hv⟩ := ownsRow_pos0 ho (by omega)
      obtain rfl : A = some ⟨gx, 0, none⟩ := by injection hv
      clear hv cx
      have hlt : i < j := by omega
      have hne1 : i ≠ j := by omega
      have hne2 : j ≠ i := by omega
      have hst := revAt_step xs hlt hsum.out
      have ci : W3.cell? ⟨gx, i, none⟩ = some (.int .i64 (revF xs i i)) := by
        have := ho.cells (g := gx) rfl i _ (revAt_get xs i (by rw [← HN.out]; exact hin))
        rw [Addr.add_lit, Nat.zero_add] at this; exact this
      have cj : W3.cell? ⟨gx, j, none⟩ = some (.int .i64 (revF xs i j)) := by
        have := ho.cells (g := gx) rfl j _ (revAt_get xs i (by rw [← HN.out]; exact hjn))
        rw [Addr.add_lit, Nat.zero_add] at this; exact this
      have fi := ho.frozenAt i
      have fj := ho.frozenAt j
      have hs1 := ho.stored i (.int .i64 (revF xs i j))
      have hs2 := hs1.1.stored j (.int .i64 (revF xs i i))
      rw [hst] at hs2
      have hs3 := ho.stored j (.int .i64 (revF xs i i))
      have hs4 := hs3.1.stored i (.int .i64 (revF xs i j))
      rw [List.set_comm _ _ hne2, hst] at hs4
      have HS := Lib.hid (And.intro hs1.2 hs2)
      have HS4 := Lib.hid (And.intro hs3.2 hs4)
      clear hst hs1 hs2 hs3 hs4
      generalize revF xs i i = x at *
      generalize revF xs i j = y at *
      have hiI : (i : Int) < (n : Int) := by omega
      have hjI : (j : Int) < (n : Int) := by omega
      go_wp2
      go_region_law (fail)
      all_goals
        go_wp2
        go_roundw
        case rel =>
          exact ⟨i + 1, (j : Int) - 1, by go_num, rfl, (by show (j : Int) - 1 = (n : Int) - 1 - ((i + 1 : Nat) : Int); have := hJ.out; omega), by omega, by omega, by omega, gdrew (gtrans hg (gtrans HS.out.1 HS.out.2.2)), World.ownsRow.drew HS.out.2.1⟩
        case measure => simp [intOf]; omega
    · have hend := revAt_end xs (i := i) (by have := hJ.out; have := HN.out; omega)
      rw [hend] at ho
      have HO := Lib.hid ho
      clear hend ho
      go_wp2
      go_end0
      exact ⟨rfl, hg, by simpa using HO.out⟩
#print axioms reverse_any
set_option maxRecDepth 100000 in
theorem clip_any (w : World) (A : Option Addr) (n c : Nat) (hc : n ≤ c) (hA : A = none → n = 0 ∧ c = 0) (hn : n ≤ 1000000) : Calls Try.prog 45 #[.slice A n c] w fun e w' => e = .returned (.slice A n n) ∧ Ext w w' := by
  cases A with
  | none =>
    obtain ⟨rfl, rfl⟩ := hA rfl
    go_enter Try.func45, Try.ntmps45
    go_wp2
    go_ret
    exact ⟨rfl, Ext.refl _⟩
  | some a =>
    have hcI : (n : Int) ≤ (c : Int) := by omega
    go_enter Try.func45, Try.ntmps45
    go_wp2
    go_ret
    exact ⟨rfl, Ext.refl _⟩
set_option maxRecDepth 100000 in
theorem clip2_any (w : World) (A : Option Addr) (n c : Nat) (hc : n ≤ c) (hA : A = none → n = 0 ∧ c = 0) (hn : n ≤ 1000000) : Calls Try.prog 47 #[.slice A n c] w fun e w' => e = .returned (.slice A n n) ∧ Ext w w' := by
  cases A with
  | none =>
    obtain ⟨rfl, rfl⟩ := hA rfl
    go_enter Try.func47, Try.ntmps47
    go_wp2
    go_ret
    exact ⟨rfl, Ext.refl _⟩
  | some a =>
    have hcI : (n : Int) ≤ (c : Int) := by omega
    go_enter Try.func47, Try.ntmps47
    go_wp2
    go_ret
    exact ⟨rfl, Ext.refl _⟩
end Go.Proofs.Yteadkafeabhhhaa
