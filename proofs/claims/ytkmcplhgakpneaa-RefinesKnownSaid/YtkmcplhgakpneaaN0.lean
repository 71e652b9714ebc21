/- Partitions by a test of pairs, and marks: plain laws. -/
import Derived.Test.YtkmcplhgakpneaaT3
namespace Go.Proofs.Ytkmcplhgakpneaa
set_option linter.unusedVariables false
set_option linter.unusedSimpArgs false

/-- What stands in the matrix at a pair of numbers. -/
def matAt (M : List (List Bool)) (x y : Int) : Bool := (M.getD x.toNat []).getD y.toNat false
def apartAt (M : List (List Bool)) (e f : Int × Int) : Bool := (e.2 != f.2) || (decide (0 ≤ e.1) && decide (0 ≤ f.1) && matAt M e.1 f.1)
def apartB (M : List (List Bool)) (es fs : List (Int × Int)) : Bool := (List.range es.length).any (fun i => apartAt M (es.getD i (0, 0)) (fs.getD i (0, 0)))
def Square (n : Nat) (M : List (List Bool)) : Prop := M.length = n ∧ ∀ i, i < n → (M.getD i []).length = n

/-- The last place before t that goes with s. -/
def lastB (eqv : Nat → Nat → Bool) (out : List Int) (s : Nat) : Nat → Int
  | 0 => -1
  | t + 1 => if eqv s t then out.getD t 0 else lastB eqv out s t
def partG (eqv : Nat → Nat → Bool) : Nat → List Int × Int
  | 0 => ([], 0)
  | s + 1 => if lastB eqv (partG eqv s).1 s s < 0 then ((partG eqv s).1 ++ [(partG eqv s).2], (partG eqv s).2 + 1) else ((partG eqv s).1 ++ [lastB eqv (partG eqv s).1 s s], (partG eqv s).2)
theorem partG_length (eqv : Nat → Nat → Bool) : ∀ s, (partG eqv s).1.length = s
  | 0 => rfl
  | s + 1 => by
    have := partG_length eqv s
    unfold partG
    split <;> simp [this]
theorem partG_n (eqv : Nat → Nat → Bool) : ∀ s, 0 ≤ (partG eqv s).2 ∧ (partG eqv s).2 ≤ s
  | 0 => by simp [partG]
  | s + 1 => by
    have := partG_n eqv s
    unfold partG
    split <;> simp <;> omega

section
variable {κ : Type} [BEq κ] [LawfulBEq κ]
theorem names_val (l : List κ) {x : κ} {n : Int} (h : getM (namesOf l) x = some n) : 0 ≤ n := by
  obtain ⟨j, hj, he⟩ := List.mem_iff_getElem.1 (getM_mem h)
  have := names_idx l [] (by simp) j hj
  have h2 : (namesOf l)[j].2 = j := this
  rw [he] at h2
  simp only at h2
  omega
omit [LawfulBEq κ] in
theorem namesOf_snoc (l : List κ) (x : κ) : namesOf (l ++ [x]) = nameStep (namesOf l) x := by unfold namesOf; rw [List.foldl_append]; rfl
theorem names_isSome (l : List κ) (x : κ) : (getM (namesOf l) x).isSome = true ↔ x ∈ l := by
  have := names_mem l [] x
  simpa [namesOf, getM] using this
theorem namedL_snoc (l : List κ) (x : κ) : namedL (l ++ [x]) = namedL l ++ [(getM (nameStep (namesOf l) x) x).getD 0] := by
  unfold namedL
  rw [namesOf_snoc, List.map_append]
  congr 1
  refine List.map_congr_left fun y hy => ?_
  obtain ⟨v, hv⟩ := Option.isSome_iff_exists.1 ((names_isSome l y).2 hy)
  rw [hv, nameStep_keep hv]
theorem lastB_named (eqv : Nat → Nat → Bool) (q : List κ) {s : Nat} (hs : s < q.length) (h : ∀ t (ht : t < s), eqv s t = (q[t] == q[s])) :
    ∀ t, t ≤ s → lastB eqv (namedL (q.take s)) s t = if q[s] ∈ q.take t then (getM (namesOf (q.take s)) q[s]).getD 0 else -1
  | 0, _ => by simp [lastB]
  | t + 1, ht => by
    have ih := lastB_named eqv q hs h t (by omega)
    unfold lastB
    rw [h t (by omega), List.take_succ_eq_append_getElem (show t < q.length by omega)]
    by_cases he : q[t] = q[s]
    · rw [if_pos (by simp [he]), if_pos (by simp [he])]
      have hl : (namedL (q.take s)).length = s := by rw [namedL_length, List.length_take]; omega
      simp only [List.getD, List.getElem?_eq_getElem (show t < (namedL (q.take s)).length by omega), Option.getD_some]
      simp [namedL, he]
    · rw [if_neg (by simpa using he), ih]
      simp only [List.mem_append, List.mem_singleton, Ne.symm he, or_false]
theorem partG_named (eqv : Nat → Nat → Bool) (q : List κ) (h : ∀ s (hs : s < q.length) t (ht : t < s), eqv s t = (q[t] == q[s])) :
    ∀ k, k ≤ q.length → (partG eqv k).1 = namedL (q.take k) ∧ (partG eqv k).2 = ((namesOf (q.take k)).length : Int)
  | 0, _ => by simp [partG, namedL, namesOf]
  | k + 1, hk => by
    have hlt : k < q.length := by omega
    obtain ⟨h1, h2⟩ := partG_named eqv q h k (by omega)
    have hb := lastB_named eqv q hlt (h k hlt) k (Nat.le_refl _)
    rw [← h1] at hb
    rw [List.take_succ_eq_append_getElem hlt, namedL_snoc, namesOf_snoc]
    unfold partG
    rw [hb]
    by_cases hm : q[k] ∈ q.take k
    · obtain ⟨v, hv⟩ := Option.isSome_iff_exists.1 ((names_isSome _ _).2 hm)
      have hv0 := names_val _ hv
      have hst : nameStep (namesOf (q.take k)) q[k] = namesOf (q.take k) := by unfold nameStep; rw [hv]; rfl
      rw [if_pos hm, hst, hv]
      simp only [Option.getD_some]
      rw [if_neg (by omega), h1, h2]
      exact ⟨rfl, rfl⟩
    · have hn : getM (namesOf (q.take k)) q[k] = none := by
        cases hg : getM (namesOf (q.take k)) q[k] with
        | none => rfl
        | some v => exact absurd ((names_isSome _ _).1 (by rw [hg]; rfl)) hm
      have hst : nameStep (namesOf (q.take k)) q[k] = namesOf (q.take k) ++ [(q[k], ((namesOf (q.take k)).length : Int))] := by unfold nameStep; rw [hn]; rfl
      rw [if_neg hm, if_pos (by omega), hst, getM_append, hn, h1, h2]
      simp
end

/-- The marks behind k rounds. -/
def markM (m : Mach) : Nat → List (List Bool)
  | 0 => List.replicate m.rows.length (List.replicate m.rows.length false)
  | k + 1 => (List.range m.rows.length).map fun s => (List.range m.rows.length).map fun t => matAt (markM m k) (s : Nat) (t : Nat) || apartB (markM m k) (m.rows.getD s []) (m.rows.getD t [])
theorem markM_square (m : Mach) : ∀ k, Square m.rows.length (markM m k)
  | 0 => by
    refine ⟨by simp [markM], fun i hi => ?_⟩
    simp [markM, List.getD, hi]
  | k + 1 => by
    refine ⟨by simp [markM], fun i hi => ?_⟩
    simp [markM, List.getD, hi]
theorem matAt_zero (m : Mach) (s t : Nat) (hs : s < m.rows.length) (ht : t < m.rows.length) : matAt (markM m 0) s t = false := by
  simp [matAt, markM, List.getD, hs, ht]
theorem matAt_succ (m : Mach) (k : Nat) (s t : Nat) (hs : s < m.rows.length) (ht : t < m.rows.length) :
    matAt (markM m (k + 1)) s t = (matAt (markM m k) s t || apartB (markM m k) m.rows[s] m.rows[t]) := by
  rw [matAt, markM]
  simp [List.getD, hs, ht]

theorem apartAt_sig {m : Mach} {M : List (List Bool)} {p : List Int} (hM : ∀ s t : Nat, s < m.rows.length → t < m.rows.length → matAt M s t = !(p.getD s 0 == p.getD t 0)) {e f : Int × Int} (he : fitsB m e = true) (hf : fitsB m f = true) :
    apartAt M e f = true ↔ sigC p e ≠ sigC p f := by
  rcases fit_cases he with rfl | ⟨a1, a2, a3⟩
  · rcases fit_cases hf with rfl | ⟨b1, b2, b3⟩
    · simp [apartAt, sigC]
    · simp only [apartAt, sigC]
      have : (-1 : Int) ≠ f.2 := by omega
      simp [this]
  · rcases fit_cases hf with rfl | ⟨b1, b2, b3⟩
    · simp only [apartAt, sigC]
      have : e.2 ≠ (-1 : Int) := by omega
      simp [this]
    · have hm := hM e.1.toNat f.1.toNat (by omega) (by omega)
      rw [Int.toNat_of_nonneg a1, Int.toNat_of_nonneg b1] at hm
      simp only [apartAt, sigC, hm]
      rw [if_neg (by omega), if_neg (by omega)]
      by_cases h2 : e.2 = f.2 <;> simp [h2, a1, b1]

/-- The marks tell apart what the rounds tell apart. -/
theorem mark_iter {m : Mach} (hV : Valid m) : ∀ k (s t : Nat), s < m.rows.length → t < m.rows.length → matAt (markM m k) s t = !((iterL m k).getD s 0 == (iterL m k).getD t 0)
  | 0, s, t, hs, ht => by
    rw [matAt_zero m s t hs ht]
    simp [iterL, List.getD, hs, ht]
  | k + 1, s, t, hs, ht => by
    have ih := mark_iter hV k
    have hl := iterL_length m k
    have hl1 := iterL_length m (k + 1)
    rw [matAt_succ m k s t hs ht, ih s t hs ht]
    have h1 := hV.len _ (List.getElem_mem hs)
    have h2 := hV.len _ (List.getElem_mem ht)
    have hiff := (refinedL_eq hl hs ht).trans (key_iff hV hl hs ht)
    rw [getD_lt (show s < (iterL m k).length by omega), getD_lt (show t < (iterL m k).length by omega), getD_lt (show s < (iterL m (k + 1)).length by omega), getD_lt (show t < (iterL m (k + 1)).length by omega)]
    have hap : apartB (markM m k) m.rows[s] m.rows[t] = true ↔ ¬ ∀ i (hi : i < m.rows[s].length) (hi' : i < m.rows[t].length), sigC (iterL m k) m.rows[s][i] = sigC (iterL m k) m.rows[t][i] := by
      unfold apartB
      rw [List.any_eq_true]
      constructor
      · rintro ⟨i, hi, ha⟩ hall
        have hi1 := List.mem_range.1 hi
        have hi2 : i < m.rows[t].length := by omega
        rw [show m.rows[s].getD i (0, 0) = m.rows[s][i] by simp [List.getD, hi1], show m.rows[t].getD i (0, 0) = m.rows[t][i] by simp [List.getD, hi2]] at ha
        exact (apartAt_sig ih (hV.fit _ (List.getElem_mem hs) _ (List.getElem_mem hi1)) (hV.fit _ (List.getElem_mem ht) _ (List.getElem_mem hi2))).1 ha (hall i hi1 hi2)
      · intro hn
        refine Classical.byContradiction fun hc => hn fun i hi1 hi2 => Classical.byContradiction fun hne => hc ⟨i, List.mem_range.2 hi1, ?_⟩
        rw [show m.rows[s].getD i (0, 0) = m.rows[s][i] by simp [List.getD, hi1], show m.rows[t].getD i (0, 0) = m.rows[t][i] by simp [List.getD, hi2]]
        exact (apartAt_sig ih (hV.fit _ (List.getElem_mem hs) _ (List.getElem_mem hi1)) (hV.fit _ (List.getElem_mem ht) _ (List.getElem_mem hi2))).2 hne
    have hgoal : ((iterL m (k + 1))[s]'(by omega) = (iterL m (k + 1))[t]'(by omega)) ↔ ((iterL m k)[s]'(by omega) = (iterL m k)[t]'(by omega)) ∧ ¬ apartB (markM m k) m.rows[s] m.rows[t] = true := by
      rw [hap, Classical.not_not]
      exact hiff
    apply Bool.eq_iff_iff.2
    simp only [Bool.or_eq_true, Bool.not_eq_true', beq_eq_false_iff_ne, ne_eq, hgoal]
    by_cases ha : apartB (markM m k) m.rows[s] m.rows[t] = true <;> simp [ha]

/-- The partition that the marks make. -/
theorem part_mark {m : Mach} (hV : Valid m) (k : Nat) : (partG (fun s t => !matAt (markM m k) (s : Nat) (t : Nat)) m.rows.length).1 = iterL m k := by
  have hl := iterL_length m k
  have := (partG_named (fun s t => !matAt (markM m k) (s : Nat) (t : Nat)) (iterL m k) (fun s hs t ht => by
    show (!matAt (markM m k) s t) = _
    rw [mark_iter hV k s t (by omega) (by omega), getD_lt hs, getD_lt (show t < (iterL m k).length by omega)]
    simp only [Bool.not_not]
    exact BEq.comm) m.rows.length (by omega)).1
  rw [this, List.take_of_length_le (by omega), iterL_canon]
end Go.Proofs.Ytkmcplhgakpneaa
