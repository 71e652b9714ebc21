/- Partitions by their kernel; chains of finer ones come to an end. -/
import Derived.Test.YtkmcplhgakpneaaT1
namespace Go.Proofs.Ytkmcplhgakpneaa
set_option linter.unusedVariables false
set_option linter.unusedSimpArgs false

section
variable {κ κ' : Type} [BEq κ] [LawfulBEq κ] [BEq κ'] [LawfulBEq κ']
theorem first_ex (l : List κ) : ∀ i, (hi : i < l.length) → ∃ k, ∃ hk : k ≤ i, l[k] = l[i] ∧ firstG l k = true := by
  intro i
  induction i using Nat.strongRecOn with
  | _ i ih =>
    intro hi
    by_cases hf : firstG l i = true
    · exact ⟨i, Nat.le_refl _, rfl, hf⟩
    · have : ¬ ∀ j, (hj : j < i) → l[j] ≠ l[i] := fun h => hf ((firstG_iff hi).2 h)
      have h2 : ∃ j, ∃ hj : j < i, l[j] = l[i] := by
        apply Classical.byContradiction
        intro hc
        exact this fun j hj e => hc ⟨j, hj, e⟩
      obtain ⟨j, hj, e⟩ := h2
      obtain ⟨k, hk, e2, hf2⟩ := ih j hj (by omega)
      exact ⟨k, by omega, e2.trans e, hf2⟩
theorem named_first (l : List κ) {i k : Nat} (hi : i < l.length) (hk : k ≤ i) (he : l[k] = l[i]) (hf : firstG l k = true) : (namedL l)[i]'(by rw [namedL_length]; exact hi) = (cntG l k : Int) := by
  have := name_first l (show k < l.length by omega) hf
  simp only [namedL, List.getElem_map]
  rw [← he, this]; rfl

/-- Two lists of things that are equal at the same places. -/
def SameK (l : List κ) (l' : List κ') : Prop := l.length = l'.length ∧ ∀ s t (hs : s < l.length) (ht : t < l.length) (hs' : s < l'.length) (ht' : t < l'.length), l[s] = l[t] ↔ l'[s] = l'[t]
theorem firstG_sameK {l : List κ} {l' : List κ'} (h : SameK l l') {k : Nat} (hk : k < l.length) : firstG l k = firstG l' k := by
  have hk' : k < l'.length := by have := h.1; omega
  apply Bool.eq_iff_iff.2
  rw [firstG_iff hk, firstG_iff hk']
  constructor
  · intro hh j hj e
    exact hh j hj ((h.2 j k (by omega) hk (by omega) hk').2 e)
  · intro hh j hj e
    exact hh j hj ((h.2 j k (by omega) hk (by omega) hk').1 e)
theorem cntG_sameK {l : List κ} {l' : List κ'} (h : SameK l l') : ∀ k, k ≤ l.length → cntG l k = cntG l' k
  | 0, _ => rfl
  | k + 1, hk => by rw [cntG_succ, cntG_succ, cntG_sameK h k (by omega), firstG_sameK h (by omega)]
theorem namedL_sameK {l : List κ} {l' : List κ'} (h : SameK l l') : namedL l = namedL l' := by
  apply List.ext_getElem
  · rw [namedL_length, namedL_length]; exact h.1
  · intro i h1 h2
    have hi : i < l.length := by rwa [namedL_length] at h1
    have hi' : i < l'.length := by rwa [namedL_length] at h2
    obtain ⟨k, hk, he, hf⟩ := first_ex l i hi
    rw [named_first l hi hk he hf, named_first l' hi' hk ((h.2 k i (by omega) hi (by omega) hi').1 he) (by rw [← firstG_sameK h (by omega)]; exact hf), cntG_sameK h k (by omega)]
theorem sameK_named (l : List κ) : SameK l (namedL l) := ⟨(namedL_length l).symm, fun s t hs ht _ _ => (namedL_eq l hs ht).symm⟩
theorem namedL_idem (l : List κ) : namedL (namedL l) = namedL l := (namedL_sameK (sameK_named l)).symm
end

theorem firstB_eq {p : List Int} {k : Nat} (hk : k < p.length) : firstB p k = firstG p k := by
  unfold firstB firstG
  rw [List.getElem?_eq_getElem hk, getD_lt hk]
theorem cntB_eq {p : List Int} : ∀ {k : Nat}, k ≤ p.length → cntB p k = cntG p k
  | 0, _ => rfl
  | k + 1, h => by rw [cntB_succ, cntG_succ, cntB_eq (by omega), firstB_eq (by omega)]
/-- Names make a canonical partition. -/
theorem refCheck_named {κ : Type} [BEq κ] [LawfulBEq κ] (l : List κ) (h : l.length ≤ 256) : refCheck (namedL l) = 0 := by
  unfold refCheck
  rw [if_neg (by rw [namedL_length]; omega), if_pos]
  intro i hi
  have hi' : i < l.length := by rwa [namedL_length] at hi
  obtain ⟨k, hk, he, hf⟩ := first_ex l i hi'
  have hk' : k < l.length := by omega
  have hl : leastI (namedL l) i = k := leastI_eq hi hk ((namedL_eq l hk' hi').2 he) (fun j hj e => (firstG_iff hk').1 hf j hj (((namedL_eq l (by omega) hi').1 e).trans he.symm))
  unfold okAt
  rw [hl, getD_lt hi, named_first l hi' hk he hf, cntB_eq (by rw [namedL_length]; omega), ← cntG_sameK (sameK_named l) k (by omega)]

theorem countP_le_of {α : Type} {p q : α → Bool} : ∀ (l : List α), (∀ x ∈ l, p x = true → q x = true) → l.countP p ≤ l.countP q ∧ (l.countP p = l.countP q → ∀ x ∈ l, q x = true → p x = true)
  | [], _ => by simp
  | a :: l, h => by
    have ih := countP_le_of l (fun x hx => h x (List.mem_cons_of_mem _ hx))
    have ha := h a List.mem_cons_self
    simp only [List.countP_cons]
    cases hp : p a <;> cases hq : q a
    · simp only [Bool.false_eq_true, if_false, Nat.add_zero]
      refine ⟨ih.1, fun e x hx hqx => ?_⟩
      rcases List.mem_cons.1 hx with rfl | hx
      · rw [hq] at hqx; cases hqx
      · exact ih.2 e x hx hqx
    · simp only [Bool.false_eq_true, if_false, if_true, Nat.add_zero]
      exact ⟨by omega, fun e => by omega⟩
    · rw [hp] at ha; rw [hq] at ha; simp at ha
    · simp only [if_true]
      refine ⟨by omega, fun e x hx hqx => ?_⟩
      rcases List.mem_cons.1 hx with rfl | hx
      · exact hp
      · exact ih.2 (by omega) x hx hqx

/-- q is finer than p. -/
def FinerL (q p : List Int) : Prop := q.length = p.length ∧ ∀ s t (hs : s < q.length) (ht : t < q.length) (hs' : s < p.length) (ht' : t < p.length), q[s] = q[t] → p[s] = p[t]
theorem finer_first {q p : List Int} (h : FinerL q p) {i : Nat} (hi : i < p.length) (hf : firstG p i = true) : firstG q i = true := by
  have hi' : i < q.length := by have := h.1; omega
  exact (firstG_iff hi').2 fun j hj e => (firstG_iff hi).1 hf j hj (h.2 j i (by omega) hi' (by omega) hi e)
theorem finer_cnt {q p : List Int} (h : FinerL q p) : cntG p p.length ≤ cntG q p.length ∧ (cntG p p.length = cntG q p.length → SameK q p) := by
  have hc := countP_le_of (p := firstG p) (q := firstG q) (List.range p.length) (fun i hi hf => finer_first h (List.mem_range.1 hi) hf)
  refine ⟨hc.1, fun e => ⟨h.1, fun s t hs ht hs' ht' => ⟨h.2 s t hs ht hs' ht', fun hp => ?_⟩⟩⟩
  have hall := hc.2 e
  -- first places are the same: so are the classes
  have key : ∀ i (hi : i < q.length) (hi' : i < p.length), ∃ k, ∃ hk : k ≤ i, q[k] = q[i] ∧ p[k] = p[i] ∧ firstG p k = true := fun i hi hi' => by
    obtain ⟨k, hk, e1, hf⟩ := first_ex q i hi
    exact ⟨k, hk, e1, h.2 k i (by omega) hi (by omega) hi' e1, hall k (List.mem_range.2 (by omega)) hf⟩
  obtain ⟨a, ha, a1, a2, a3⟩ := key s hs hs'
  obtain ⟨b, hb, b1, b2, b3⟩ := key t ht ht'
  have hab : p[a] = p[b] := (a2.trans hp).trans b2.symm
  have : a = b := by
    rcases Nat.lt_trichotomy a b with hlt | hlt | hlt
    · exact absurd hab ((firstG_iff (by omega)).1 b3 a hlt)
    · exact hlt
    · exact absurd hab.symm ((firstG_iff (by omega)).1 a3 b hlt)
  subst this
  exact a1.symm.trans b1

/-- A chain of finer and finer canonical partitions stands still after fewer steps than there are places. -/
theorem chain_ends (f : Nat → List Int) (n : Nat) (hn : 0 < n) (hl : ∀ k, (f k).length = n) (hcan : ∀ k, namedL (f k) = f k) (hf : ∀ k, FinerL (f (k + 1)) (f k)) :
    ∃ M, M < n ∧ (∀ k, k < M → f k ≠ f (k + 1)) ∧ f M = f (M + 1) := by
  have hstep : ∀ k, f k ≠ f (k + 1) → cntG (f k) n + 1 ≤ cntG (f (k + 1)) n := fun k hne => by
    have h := finer_cnt (hf k)
    rw [hl k] at h
    rcases Nat.lt_or_eq_of_le h.1 with h1 | h1
    · exact h1
    · have := namedL_sameK (h.2 h1)
      rw [hcan, hcan] at this
      exact absurd this.symm hne
  have hbound : ∀ k, cntG (f k) n ≤ n := fun k => by
    have := List.countP_le_length (p := firstG (f k)) (l := List.range n)
    rwa [List.length_range] at this
  have h0 : 1 ≤ cntG (f 0) n := by
    have h1 : firstG (f 0) 0 = true := (firstG_iff (by rw [hl]; omega)).2 (fun j hj => by omega)
    exact List.countP_pos_iff.2 ⟨0, List.mem_range.2 hn, h1⟩
  have hex : ∃ k, f k = f (k + 1) ∧ k < n := by
    apply Classical.byContradiction
    intro hc
    have hall : ∀ k, k < n → f k ≠ f (k + 1) := fun k hk e => hc ⟨k, e, hk⟩
    have : ∀ k, k ≤ n → k + 1 ≤ cntG (f k) n := fun k => by
      induction k with
      | zero => intro _; exact h0
      | succ k ih => intro hk; have := hstep k (hall k (by omega)); have := ih (by omega); omega
    have h1 := this n (Nat.le_refl _)
    have h2 := hbound n
    omega
  obtain ⟨M, hM, hmin⟩ := Go.exists_least hex
  exact ⟨M, hM.2, fun k hk e => by have := hmin k ⟨e, by omega⟩; omega, hM.1⟩
end Go.Proofs.Ytkmcplhgakpneaa
