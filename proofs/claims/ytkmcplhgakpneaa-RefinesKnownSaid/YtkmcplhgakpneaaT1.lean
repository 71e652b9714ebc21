/- Names by first place: what they tell. -/
import Derived.Test.YtkmcplhgakpneaaS4
import Derived.Test.YtkmcplhgakpneaaE4
namespace Go.Proofs.Ytkmcplhgakpneaa
set_option linter.unusedVariables false
set_option linter.unusedSimpArgs false

section
variable {κ : Type} [BEq κ] [LawfulBEq κ]

omit [LawfulBEq κ] in
/-- Names are places. -/
theorem names_idx : ∀ (l : List κ) (es : List (κ × Int)), (∀ j (h : j < es.length), es[j].2 = j) → ∀ j (h : j < (l.foldl nameStep es).length), (l.foldl nameStep es)[j].2 = j
  | [], _, h => h
  | x :: l, es, h => by
    refine names_idx l (nameStep es x) ?_
    unfold nameStep
    split
    · exact h
    · intro j hj
      simp only [List.length_append, List.length_cons, List.length_nil] at hj
      by_cases hj2 : j < es.length
      · rw [List.getElem_append_left hj2]; exact h j hj2
      · have : j = es.length := by omega
        subst this
        rw [List.getElem_append_right (Nat.le_refl _)]
        simp
/-- One name, one thing. -/
theorem names_inj (l : List κ) {x y : κ} {n : Int} (hx : getM (namesOf l) x = some n) (hy : getM (namesOf l) y = some n) : x = y := by
  have h : ∀ j (h : j < (namesOf l).length), (namesOf l)[j].2 = j := names_idx l [] (by simp)
  obtain ⟨i, hi, hi2⟩ := List.mem_iff_getElem.1 (getM_mem hx)
  obtain ⟨j, hj, hj2⟩ := List.mem_iff_getElem.1 (getM_mem hy)
  have h1 := h i hi
  have h2 := h j hj
  rw [hi2] at h1
  rw [hj2] at h2
  simp only at h1 h2
  have hij : i = j := by omega
  subst hij
  rw [hi2] at hj2
  exact congrArg Prod.fst hj2
theorem names_some (l : List κ) {k : Nat} (hk : k < l.length) : ∃ n, getM (namesOf l) l[k] = some n := by
  have h1 := names_take l hk
  have h2 : namesOf (l.take (k + 1)) = nameStep (namesOf (l.take k)) l[k] := by
    unfold namesOf
    rw [List.take_succ_eq_append_getElem hk, List.foldl_append]; rfl
  obtain ⟨n, hn⟩ := Option.isSome_iff_exists.1 (nameStep_has (namesOf (l.take k)) l[k])
  exact ⟨n, by rw [h1, h2, hn]⟩
omit [LawfulBEq κ] in
theorem namedL_length (l : List κ) : (namedL l).length = l.length := by simp [namedL]
/-- Equal names, equal things. -/
theorem namedL_eq (l : List κ) {s t : Nat} (hs : s < l.length) (ht : t < l.length) : (namedL l)[s]'(by rw [namedL_length]; exact hs) = (namedL l)[t]'(by rw [namedL_length]; exact ht) ↔ l[s] = l[t] := by
  obtain ⟨n, hn⟩ := names_some l hs
  obtain ⟨n', hn'⟩ := names_some l ht
  simp only [namedL, List.getElem_map, hn, hn', Option.getD_some]
  constructor
  · rintro rfl; exact names_inj l hn hn'
  · intro h
    rw [h] at hn
    rw [hn] at hn'
    exact Option.some.inj hn'
/-- x has a name exactly if it is there. -/
theorem names_mem : ∀ (l : List κ) (es : List (κ × Int)) (x : κ), (getM (l.foldl nameStep es) x).isSome = true ↔ (getM es x).isSome = true ∨ x ∈ l
  | [], es, x => by simp
  | y :: l, es, x => by
    rw [List.foldl_cons, names_mem l, List.mem_cons]
    have : (getM (nameStep es y) x).isSome = true ↔ (getM es x).isSome = true ∨ x = y := by
      constructor
      · intro h
        unfold nameStep at h
        split at h
        · exact .inl h
        · rw [getM_append] at h
          cases hg : getM es x with
          | some n => exact .inl rfl
          | none =>
            rw [hg] at h
            by_cases hxy : x = y
            · exact .inr hxy
            · have : (y == x) = false := by simpa using fun e => hxy e.symm
              simp [this] at h
      · rintro (h | rfl)
        · obtain ⟨n, hn⟩ := Option.isSome_iff_exists.1 h
          rw [nameStep_keep hn]; rfl
        · exact nameStep_has es x
    rw [this, or_assoc]
end

/-- How many different things stand ahead of place k. -/
def firstG {κ : Type} [BEq κ] (l : List κ) (k : Nat) : Bool := match l[k]? with | some x => !(l.take k).contains x | none => false
def cntG {κ : Type} [BEq κ] (l : List κ) (n : Nat) : Nat := (List.range n).countP (firstG l)
theorem cntG_succ {κ : Type} [BEq κ] (l : List κ) (n : Nat) : cntG l (n + 1) = cntG l n + (if firstG l n then 1 else 0) := by
  unfold cntG
  rw [List.range_succ, List.countP_append, List.countP_cons, List.countP_nil]
  simp
section
variable {κ : Type} [BEq κ] [LawfulBEq κ]
theorem firstG_iff {l : List κ} {k : Nat} (hk : k < l.length) : firstG l k = true ↔ ∀ j, (hj : j < k) → l[j] ≠ l[k] := by
  unfold firstG
  rw [List.getElem?_eq_getElem hk]
  simp only [Bool.not_eq_true']
  rw [Bool.eq_false_iff, ne_eq, List.contains_iff_mem]
  constructor
  · intro h j hj e
    exact h (List.mem_iff_getElem.2 ⟨j, by rw [List.length_take]; omega, by rw [List.getElem_take]; exact e⟩)
  · intro h hm
    obtain ⟨j, hj, e⟩ := List.mem_iff_getElem.1 hm
    rw [List.length_take] at hj
    rw [List.getElem_take] at e
    exact h j (by omega) e
theorem names_len (l : List κ) : ∀ k, k ≤ l.length → (namesOf (l.take k)).length = cntG l k
  | 0, _ => by simp [namesOf, cntG]
  | k + 1, h => by
    have hk : k < l.length := by omega
    have h2 : namesOf (l.take (k + 1)) = nameStep (namesOf (l.take k)) l[k] := by
      unfold namesOf
      rw [List.take_succ_eq_append_getElem hk, List.foldl_append]; rfl
    have ih := names_len l k (by omega)
    have hm := names_mem (l.take k) [] l[k]
    rw [h2, cntG_succ, ← ih]
    unfold nameStep firstG
    rw [List.getElem?_eq_getElem hk]
    have hz : (getM ([] : List (κ × Int)) l[k]).isSome = false := rfl
    rw [hz] at hm
    simp only [Bool.false_eq_true, false_or] at hm
    by_cases hin : l[k] ∈ l.take k
    · have h1 := hm.2 hin
      rw [if_pos (show (getM (namesOf (l.take k)) l[k]).isSome = true from h1)]
      simp [hin]
    · have h1 : ¬ (getM (namesOf (l.take k)) l[k]).isSome = true := fun h => hin (hm.1 h)
      rw [if_neg h1]
      simp [hin]
/-- The name of a thing that comes for the first time. -/
theorem name_first (l : List κ) {k : Nat} (hk : k < l.length) (hf : firstG l k = true) : getM (namesOf l) l[k] = some (cntG l k : Int) := by
  rw [names_take l hk]
  have h2 : namesOf (l.take (k + 1)) = nameStep (namesOf (l.take k)) l[k] := by
    unfold namesOf
    rw [List.take_succ_eq_append_getElem hk, List.foldl_append]; rfl
  have hin : l[k] ∉ l.take k := by
    intro hm
    obtain ⟨j, hj, e⟩ := List.mem_iff_getElem.1 hm
    rw [List.length_take] at hj
    rw [List.getElem_take] at e
    exact (firstG_iff hk).1 hf j (by omega) e
  have hm := names_mem (l.take k) [] l[k]
  have hz : (getM ([] : List (κ × Int)) l[k]).isSome = false := rfl
  rw [hz] at hm
  simp only [Bool.false_eq_true, false_or] at hm
  have h1 : ¬ (getM (namesOf (l.take k)) l[k]).isSome = true := fun h => hin (hm.1 h)
  rw [h2]
  unfold nameStep
  rw [if_neg h1, getM_append, names_len l k (by omega)]
  have : getM (namesOf (l.take k)) l[k] = none := by simpa using h1
  rw [this]; simp
end
end Go.Proofs.Ytkmcplhgakpneaa
