/- Words by their numbers; the machine of a raw one is valid. -/
import Derived.Test.YtkmcplhgakpneaaT3
import Derived.Test.YtkmcplhgakpneaaM1
namespace Go.Proofs.Ytkmcplhgakpneaa
set_option linter.unusedVariables false
set_option linter.unusedSimpArgs false

theorem raw_valid (r : Raw) : Valid r.mach := by
  have hn : 1 ≤ r.n ∧ r.n ≤ 6 := by unfold Raw.n; omega
  have hi : 1 ≤ r.ins ∧ r.ins ≤ 3 := by unfold Raw.ins; omega
  have ho : 1 ≤ r.outs ∧ r.outs ≤ 3 := by unfold Raw.outs; omega
  refine ⟨by simp only [Raw.mach]; omega, by simp only [Raw.mach]; omega, by simp [Raw.mach]; omega, ?_, ?_⟩
  · intro x hx
    obtain ⟨s, _, rfl⟩ := List.mem_map.1 hx
    simp [Raw.row, Raw.mach]
  · intro x hx e he
    obtain ⟨s, _, rfl⟩ := List.mem_map.1 hx
    obtain ⟨i, _, rfl⟩ := List.mem_map.1 he
    unfold Raw.edge
    simp only
    split
    · simp [fitsB]
    · have h1 : r.edges.getD (s * r.ins + i) 0 / 4 % r.n < r.n := Nat.mod_lt _ (by omega)
      have h2 : r.edges.getD (s * r.ins + i) 0 / 4 / r.n % r.outs < r.outs := Nat.mod_lt _ (by omega)
      simp only [fitsB, Raw.mach, List.length_map, List.length_range, Bool.or_eq_true, Bool.and_eq_true, beq_iff_eq, decide_eq_true_eq]
      right
      generalize r.edges.getD (s * r.ins + i) 0 / 4 % r.n = a at *
      generalize r.edges.getD (s * r.ins + i) 0 / 4 / r.n % r.outs = c at *
      exact ⟨⟨⟨by omega, by omega⟩, by omega⟩, decide_eq_true (by omega)⟩

/-- The word of k symbols below b with the number n. -/
def dig (b : Nat) : Nat → Nat → List Int
  | 0, _ => []
  | k + 1, n => ((n % b : Nat) : Int) :: dig b k (n / b)
theorem dig_length (b : Nat) : ∀ k n, (dig b k n).length = k
  | 0, _ => rfl
  | k + 1, n => by simp [dig, dig_length b k]
theorem dig_snoc (b : Nat) : ∀ k n, dig b (k + 1) n = dig b k n ++ [((n / b ^ k % b : Nat) : Int)]
  | 0, n => by simp [dig]
  | k + 1, n => by
    rw [dig, dig_snoc b k (n / b), dig, List.cons_append, Nat.div_div_eq_div_mul, Nat.pow_succ, Nat.mul_comm (b ^ k) b]
theorem dig_mem {b : Nat} (hb : 0 < b) : ∀ k n, ∀ x ∈ dig b k n, 0 ≤ x ∧ x < b
  | 0, _ => by simp [dig]
  | k + 1, n => by
    intro x hx
    rcases List.mem_cons.1 hx with rfl | hx
    · have := Nat.mod_lt n hb; omega
    · exact dig_mem hb k _ x hx
theorem dig_all {b : Nat} (hb : 0 < b) : ∀ (k : Nat) (w : List Int), w.length = k → (∀ x ∈ w, 0 ≤ x ∧ x < b) → ∃ n, n < b ^ k ∧ dig b k n = w
  | 0, w, hw, _ => ⟨0, by simp, by rw [List.eq_nil_of_length_eq_zero hw]; rfl⟩
  | k + 1, x :: w, hw, hx => by
    obtain ⟨n, hn, hd⟩ := dig_all hb k w (by simpa using hw) (fun y hy => hx y (List.mem_cons_of_mem _ hy))
    have h0 := hx x List.mem_cons_self
    refine ⟨n * b + x.toNat, ?_, ?_⟩
    · rw [Nat.pow_succ]
      calc n * b + x.toNat < n * b + b := by omega
        _ = (n + 1) * b := by rw [Nat.add_mul, Nat.one_mul]
        _ ≤ b ^ k * b := Nat.mul_le_mul_right _ hn
    · have h1 : (n * b + x.toNat) % b = x.toNat := by
        rw [Nat.mul_comm, Nat.mul_add_mod]; exact Nat.mod_eq_of_lt (by omega)
      have h2 : (n * b + x.toNat) / b = n := by
        rw [Nat.mul_comm, Nat.mul_add_div hb, Nat.div_eq_of_lt (by omega), Nat.add_zero]
      rw [dig, h1, h2, hd]
      congr 1
      omega
theorem words_iff {m : Mach} {b : Nat} (hb : 0 < b) (hm : m.ins = b) (k : Nat) (s t : Int) : Wequiv m k s t ↔ ∀ n, n < b ^ k → runL m s (dig b k n) = runL m t (dig b k n) := by
  constructor
  · intro h n _
    exact h _ (dig_length _ _ _) (fun i hi => by have := dig_mem hb k n i hi; exact ⟨this.1, by omega⟩)
  · intro h w hw hi
    obtain ⟨n, hn, rfl⟩ := dig_all hb k w hw (fun x hx => by have := hi x hx; exact ⟨this.1, by have := this.2; omega⟩)
    exact h n hn
end Go.Proofs.Ytkmcplhgakpneaa
