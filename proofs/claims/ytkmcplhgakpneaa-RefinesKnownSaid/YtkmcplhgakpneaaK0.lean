/- Chains of states: plain laws. -/
import Derived.Test.YtkmcplhgakpneaaN0
import Derived.Test.YtkmcplhgakpneaaN9
namespace Go.Proofs.Ytkmcplhgakpneaa
set_option linter.unusedVariables false
set_option linter.unusedSimpArgs false

theorem canon_named {p : List Int} (h : canonFrom 0 p = true) : namedL p = p := by
  have hok : ∀ i, i < p.length → okAt p i := by
    have := canon_iff p p.length 0 0 (by omega) (by simp [cntB]) (by simp) (by omega)
    simp only [List.drop_zero] at this
    exact fun i hi => this.1 h i (by omega) hi
  refine List.ext_getElem (namedL_length p) fun i h1 h2 => ?_
  obtain ⟨hle, he, hmin⟩ := leastI_spec h2
  have hf : firstG p (leastI p i) = true := (firstG_iff (show leastI p i < p.length by omega)).2 (fun j hj => by rw [he]; exact hmin j hj)
  rw [named_first p h2 hle he hf]
  have := hok i h2
  unfold okAt at this
  rw [getD_lt h2, cntB_eq (by omega)] at this
  exact this.symm

/-- The number of a state in a chain, where d states are not told apart. -/
def chF (d s : Nat) : Int := if s < d then 0 else ((s - d + 1 : Nat) : Int)
def chG (d a : Nat) : Int := if a = 0 then 0 else if a ≤ d then 1 else ((a - d + 1 : Nat) : Int)
def chT (d n : Nat) : List Int := (List.range n).map (chF d)
theorem chG_succ {d : Nat} (hd : 1 ≤ d) (a : Nat) : 0 ≤ chF d a ∧ chF d a ≤ chG d a ∧ chG d (a + 1) = if chF d a = chG d a then chG d a + 1 else chG d a := by
  unfold chF chG
  by_cases h1 : a < d
  · rw [if_pos h1, if_neg (show ¬ a + 1 = 0 by omega), if_pos (show a + 1 ≤ d by omega)]
    by_cases h0 : a = 0
    · rw [if_pos h0]; simp
    · rw [if_neg h0, if_pos (show a ≤ d by omega)]; simp
  · rw [if_neg h1, if_neg (show ¬ a + 1 = 0 by omega), if_neg (show ¬ a + 1 ≤ d by omega), if_neg (show ¬ a = 0 by omega)]
    by_cases h2 : a ≤ d
    · rw [if_pos h2]
      have : a - d = 0 := by omega
      rw [this, show a + 1 - d = 1 by omega]; simp
    · rw [if_neg h2]
      refine ⟨by omega, by omega, ?_⟩
      rw [if_pos rfl]
      omega
theorem canon_ch {d : Nat} (hd : 1 ≤ d) : ∀ (len a : Nat), canonFrom (chG d a) ((List.range' a len).map (chF d)) = true
  | 0, a => by simp [canonFrom]
  | len + 1, a => by
    obtain ⟨h1, h2, h3⟩ := chG_succ hd a
    rw [List.range'_succ, List.map_cons]
    simp only [canonFrom, Bool.and_eq_true, decide_eq_true_eq]
    refine ⟨⟨h1, h2⟩, ?_⟩
    rw [← h3]
    exact canon_ch hd len (a + 1)
theorem chT_named {d : Nat} (hd : 1 ≤ d) (n : Nat) : namedL (chT d n) = chT d n := by
  refine canon_named ?_
  have := canon_ch hd n 0
  rw [show chG d 0 = 0 by simp [chG]] at this
  unfold chT
  rw [List.range_eq_range']
  exact this
theorem chT_length (d n : Nat) : (chT d n).length = n := by simp [chT]
theorem chT_get {d n s : Nat} (hs : s < n) : (chT d n)[s]'(by rw [chT_length]; exact hs) = chF d s := by simp [chT]
theorem chT_count {d : Nat} (hd : 1 ≤ d) : ∀ n, countL (chT d n) = chG d n
  | 0 => by simp [chT, countL, chG]
  | n + 1 => by
    have ih := chT_count hd n
    obtain ⟨h1, h2, h3⟩ := chG_succ hd n
    have hs : chT d (n + 1) = chT d n ++ [chF d n] := by simp [chT, List.range_succ]
    rw [hs, countL_snoc, ih, h3]
    by_cases he : chF d n = chG d n
    · rw [if_pos he, if_pos (by omega), he]
    · rw [if_neg he, if_neg (by omega)]

/-- The chain of n states. -/
def chE (n s : Nat) : Int × Int := (((min (s + 1) (n - 1) : Nat) : Int), (((s + 1) / n : Nat) : Int))
def chainM (n : Nat) : Mach := ⟨1, 2, (List.range n).map (fun s => [chE n s])⟩
theorem chain_rows (n : Nat) : (chainM n).rows.length = n := by simp [chainM]
theorem chain_row {n s : Nat} (hs : s < (chainM n).rows.length) : (chainM n).rows[s] = [chE n s] := by simp [chainM]
theorem div_chain {n s : Nat} (hs : s < n) : (s + 1) / n = if s = n - 1 then 1 else 0 := by
  by_cases h : s = n - 1
  · rw [if_pos h, show s + 1 = n by omega, Nat.div_self (by omega)]
  · rw [if_neg h, Nat.div_eq_of_lt (by omega)]
theorem chain_valid {n : Nat} (h1 : 1 ≤ n) (h2 : n ≤ 64) : Valid (chainM n) where
  ins := by simp [chainM]
  outs := by simp [chainM]
  size := by rw [chain_rows]; exact ⟨h1, h2⟩
  len := fun r hr => by
    obtain ⟨s, _, rfl⟩ := List.mem_map.1 hr
    rfl
  fit := fun r hr e he => by
    obtain ⟨s, hs, rfl⟩ := List.mem_map.1 hr
    have hs := List.mem_range.1 hs
    simp at he
    subst he
    have hd := div_chain hs
    have h3 : min (s + 1) (n - 1) < n := by omega
    have h4 : (s + 1) / n < 2 := by rw [hd]; split <;> omega
    unfold fitsB
    rw [Bool.or_eq_true]
    right
    unfold chE
    generalize min (s + 1) (n - 1) = x at *
    generalize (s + 1) / n = y at *
    simp only [chain_rows, Bool.and_eq_true, decide_eq_true_eq]
    exact ⟨⟨⟨Int.natCast_nonneg _, by omega⟩, Int.natCast_nonneg _⟩, show ((y : Nat) : Int) < 2 by omega⟩
theorem chF_sig {n d s : Nat} (hs : s < n) (hd : 1 ≤ d) (hdn : d ≤ n) : sigC (chT d n) (chE n s) = [if s = n - 1 then 1 else 0, chF d (min (s + 1) (n - 1))] := by
  unfold sigC chE
  simp only
  rw [if_neg (by omega), Int.toNat_natCast, getD_lt (by rw [chT_length]; omega), chT_get (show min (s + 1) (n - 1) < n by omega), div_chain hs]
  congr 1
  split <;> rfl
theorem chain_iter {n : Nat} (h1 : 1 ≤ n) (h2 : n ≤ 64) : ∀ k, k ≤ n - 1 → iterL (chainM n) k = chT (n - k) n
  | 0, _ => by
    simp only [iterL, chain_rows, Nat.sub_zero]
    refine List.ext_getElem (by simp [chT]) fun i h3 h4 => ?_
    rw [chT_length] at h4
    rw [chT_get h4]
    simp [chF, h4]
  | k + 1, hk => by
    have ih := chain_iter h1 h2 k (by omega)
    have hV := chain_valid h1 h2
    show refinedL (chainM n) (iterL (chainM n) k) = _
    rw [ih]
    have hl : (chT (n - k) n).length = (chainM n).rows.length := by rw [chT_length, chain_rows]
    unfold refinedL
    rw [← chT_named (show 1 ≤ n - (k + 1) by omega) n]
    refine namedL_sameK ⟨by rw [keysL_length hl, chT_length, chT_length], fun s t hs ht hs' ht' => ?_⟩
    rw [chT_length] at hs' ht'
    have hsr : s < (chainM n).rows.length := by rw [chain_rows]; exact hs'
    have htr : t < (chainM n).rows.length := by rw [chain_rows]; exact ht'
    rw [keysL_get hl hsr, keysL_get hl htr, key_iff hV hl hsr htr, chT_get hs', chT_get ht', chT_get hs', chT_get ht']
    have hsig : (∀ i (hi : i < (chainM n).rows[s].length) (hi' : i < (chainM n).rows[t].length), sigC (chT (n - k) n) (chainM n).rows[s][i] = sigC (chT (n - k) n) (chainM n).rows[t][i]) ↔ sigC (chT (n - k) n) (chE n s) = sigC (chT (n - k) n) (chE n t) := by
      constructor
      · intro h
        have := h 0 (by rw [chain_row hsr]; simp) (by rw [chain_row htr]; simp)
        simpa [chain_row hsr, chain_row htr] using this
      · intro h i hi hi'
        have hi0 : i = 0 := by rw [chain_row hsr] at hi; simpa using hi
        subst hi0
        simpa [chain_row hsr, chain_row htr] using h
    rw [hsig, chF_sig hs' (by omega) (by omega), chF_sig ht' (by omega) (by omega)]
    simp only [List.cons.injEq, and_true]
    unfold chF
    by_cases a1 : s = n - 1 <;> by_cases a2 : t = n - 1
    · simp only [a1, a2, if_true]; simp
    · rw [if_pos a1, if_neg a2]
      constructor
      · intro h; exact absurd h.2.1 (by omega)
      · intro h; exfalso
        rw [if_neg (show ¬ s < n - (k + 1) by omega)] at h
        split at h <;> omega
    · rw [if_neg a1, if_pos a2]
      constructor
      · intro h; exact absurd h.2.1 (by omega)
      · intro h; exfalso
        rw [if_neg (show ¬ t < n - (k + 1) by omega)] at h
        split at h <;> omega
    · rw [if_neg a1, if_neg a2, show min (s + 1) (n - 1) = s + 1 by omega, show min (t + 1) (n - 1) = t + 1 by omega]
      by_cases b1 : s < n - (k + 1) <;> by_cases b2 : t < n - (k + 1)
      · rw [if_pos b1, if_pos b2, if_pos (show s < n - k by omega), if_pos (show t < n - k by omega), if_pos (show s + 1 < n - k by omega), if_pos (show t + 1 < n - k by omega)]; simp
      · rw [if_pos b1, if_neg b2, if_pos (show s < n - k by omega), if_pos (show s + 1 < n - k by omega), if_neg (show ¬ t + 1 < n - k by omega)]
        constructor
        · intro h; have := h.2.2; omega
        · intro h; omega
      · rw [if_neg b1, if_pos b2, if_pos (show t < n - k by omega), if_pos (show t + 1 < n - k by omega), if_neg (show ¬ s + 1 < n - k by omega)]
        constructor
        · intro h; have := h.2.2; omega
        · intro h; omega
      · rw [if_neg b1, if_neg b2, if_neg (show ¬ s + 1 < n - k by omega), if_neg (show ¬ t + 1 < n - k by omega)]
        constructor
        · intro h; have := h.2.2; omega
        · intro h
          have hst : s = t := by omega
          subst hst; simp
theorem chain_end {n : Nat} (h1 : 1 ≤ n) (h2 : n ≤ 64) : (∀ k, k < n - 1 → iterL (chainM n) k ≠ iterL (chainM n) (k + 1)) ∧ iterL (chainM n) (n - 1) = iterL (chainM n) (n - 1 + 1) := by
  constructor
  · intro k hk he
    rw [chain_iter h1 h2 k (by omega), chain_iter h1 h2 (k + 1) (by omega)] at he
    have h3 := chT_get (d := n - k) (show n - 1 < n by omega)
    have h4 := chT_get (d := n - (k + 1)) (show n - 1 < n by omega)
    simp only [he] at h3
    rw [h3] at h4
    unfold chF at h4
    split at h4 <;> split at h4 <;> omega
  · have hV := chain_valid h1 h2
    show _ = refinedL (chainM n) (iterL (chainM n) (n - 1))
    rw [chain_iter h1 h2 (n - 1) (by omega), show n - (n - 1) = 1 by omega]
    have hl : (chT 1 n).length = (chainM n).rows.length := by rw [chT_length, chain_rows]
    unfold refinedL
    conv => lhs; rw [← chT_named (show 1 ≤ 1 by omega) n]
    refine (namedL_sameK ⟨by rw [keysL_length hl], fun s t hs ht hs' ht' => ?_⟩).symm
    rw [chT_length] at hs' ht'
    have hsr : s < (chainM n).rows.length := by rw [chain_rows]; exact hs'
    have htr : t < (chainM n).rows.length := by rw [chain_rows]; exact ht'
    rw [keysL_get hl hsr, keysL_get hl htr]
    have hid : ∀ x, x < n → chF 1 x = (x : Int) := fun x hx => by unfold chF; split <;> omega
    constructor
    · intro h
      simp only [keyL, List.cons.injEq] at h
      exact h.1
    · intro h
      rw [chT_get hs', chT_get ht', hid s hs', hid t ht'] at h
      have hst : s = t := by omega
      subst hst; rfl
end Go.Proofs.Ytkmcplhgakpneaa
