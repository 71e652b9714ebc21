/- The least word that leads to a set: states in the order in which they are found. Plain lists. -/
import Derived.Test.YteadkafeabhhhaaG0
namespace Go.Proofs.Yteadkafeabhhhaa
set_option linter.unusedVariables false
set_option linter.unusedSimpArgs false

structure Ent where
  st : Nat
  from_ : Int
  inp : Int
  way : List Int
def seenE (es : List Ent) (t : Nat) : Bool := es.any (fun e => e.st == t)
def tryE (c : Ent) (es : List Ent) (i : Nat) (to : Int) : List Ent := if to ≠ -1 ∧ seenE es to.toNat = false then es ++ [⟨to.toNat, c.st, i, c.way ++ [(i : Int)]⟩] else es
def rowAt (c : Ent) (row : List Int) (es : List Ent) : Nat → List Ent
  | 0 => es
  | k + 1 => tryE c (rowAt c row es k) k (row.getD k (-1))
def stAt (M : List (List Int)) : Nat → List Ent
  | 0 => [⟨0, -1, 0, []⟩]
  | n + 1 => match (stAt M n)[n]? with
    | some c => rowAt c (M.getD c.st []) (stAt M n) (M.getD c.st []).length
    | none => stAt M n
def comesF (M : List (List Int)) (set : List Bool) : Nat → Nat → Bool × List Int
  | 0, _ => (true, [])
  | f + 1, n => match (stAt M n)[n]? with
    | none => (true, [])
    | some c => if set.getD c.st false then (false, c.way) else comesF M set f (n + 1)
def comesL (M : List (List Int)) (set : List Bool) : Bool × List Int := comesF M set (M.length + 1) 0

/-- The rows lead to states that are there; no row is long. -/
def OkM (M : List (List Int)) : Prop := 1 ≤ M.length ∧ M.length ≤ 64 ∧ ∀ r ∈ M, r.length ≤ 16 ∧ ∀ x ∈ r, x = -1 ∨ (0 ≤ x ∧ x < M.length)

structure EInv (n : Nat) (es : List Ent) : Prop where
  nd : es.Pairwise (fun a b => a.st ≠ b.st)
  lt : ∀ e ∈ es, e.st < n
  back : ∀ e ∈ es, (e.from_ = -1 ∧ e.way = []) ∨ ∃ e' ∈ es, (e'.st : Int) = e.from_ ∧ e.way = e'.way ++ [e.inp]
  inp : ∀ e ∈ es, 0 ≤ e.inp ∧ e.inp ≤ 16
  frm : ∀ e ∈ es, -1 ≤ e.from_ ∧ e.from_ ≤ 64
  len : ∀ e ∈ es, e.way.length < es.length

theorem seenE_false {es : List Ent} {t : Nat} : seenE es t = false ↔ ∀ e ∈ es, e.st ≠ t := by
  unfold seenE; simp
theorem einv_try {n : Nat} {c : Ent} {es : List Ent} (h : EInv n es) (hc : c ∈ es) {i : Nat} (hi : i ≤ 16) {to : Int} (ht : to = -1 ∨ (0 ≤ to ∧ to < n)) (hn : n ≤ 64) : EInv n (tryE c es i to) ∧ c ∈ tryE c es i to := by
  unfold tryE
  by_cases hx : to ≠ -1 ∧ seenE es to.toNat = false
  · rw [if_pos hx]
    have hs := seenE_false.1 hx.2
    have hcl := h.lt c hc
    refine ⟨⟨List.pairwise_append.2 ⟨h.nd, List.pairwise_singleton _ _, fun a ha b hb => by simp at hb; subst hb; exact hs a ha⟩, fun e he => ?_, fun e he => ?_, fun e he => ?_, fun e he => ?_, fun e he => ?_⟩, by simp [hc]⟩
    · rcases List.mem_append.1 he with he | he
      · exact h.lt e he
      · simp at he; subst he; show to.toNat < n; omega
    · rcases List.mem_append.1 he with he | he
      · rcases h.back e he with h1 | ⟨e', h1, h2⟩
        · exact .inl h1
        · exact .inr ⟨e', by simp [h1], h2⟩
      · simp at he; subst he
        exact .inr ⟨c, by simp [hc], rfl, rfl⟩
    · rcases List.mem_append.1 he with he | he
      · exact h.inp e he
      · simp at he; subst he; show 0 ≤ (i : Int) ∧ (i : Int) ≤ 16; omega
    · rcases List.mem_append.1 he with he | he
      · exact h.frm e he
      · simp at he; subst he; show -1 ≤ (c.st : Int) ∧ (c.st : Int) ≤ 64; omega
    · rw [List.length_append]
      rcases List.mem_append.1 he with he | he
      · have := h.len e he; simp; omega
      · simp at he; subst he
        have := h.len c hc
        simp; omega
  · rw [if_neg hx]; exact ⟨h, hc⟩
theorem einv_row {M : List (List Int)} (hM : OkM M) {c : Ent} {es : List Ent} (h : EInv M.length es) (hc : c ∈ es) {row : List Int} (hr : row ∈ M) : ∀ k, k ≤ row.length → EInv M.length (rowAt c row es k) ∧ c ∈ rowAt c row es k
  | 0, _ => ⟨h, hc⟩
  | k + 1, hk => by
    obtain ⟨h1, h2⟩ := einv_row hM h hc hr k (by omega)
    have h3 := (hM.2.2 row hr).1
    refine einv_try h1 h2 (by omega) ?_ hM.2.1
    have : row.getD k (-1) = row[k] := by simp [List.getD, show k < row.length by omega]
    rw [this]
    exact (hM.2.2 row hr).2 _ (List.getElem_mem _)
theorem getD_memM {M : List (List Int)} {s : Nat} (h : s < M.length) : M.getD s [] ∈ M := by
  have : M.getD s [] = M[s] := by simp [List.getD, h]
  rw [this]; exact List.getElem_mem h
theorem einv_st {M : List (List Int)} (hM : OkM M) : ∀ n, EInv M.length (stAt M n)
  | 0 => by
    unfold stAt
    refine ⟨List.pairwise_singleton _ _, ?_, ?_, ?_, ?_, ?_⟩ <;> intro e he <;> simp at he <;> subst he
    · exact hM.1
    · exact .inl ⟨rfl, rfl⟩
    · exact ⟨by decide, by decide⟩
    · exact ⟨by decide, by decide⟩
    · simp
  | n + 1 => by
    unfold stAt
    have ih := einv_st hM n
    cases h : (stAt M n)[n]? with
    | none => exact ih
    | some c =>
      have hc := List.mem_of_getElem? h
      exact (einv_row hM ih hc (getD_memM (ih.lt c hc)) _ (Nat.le_refl _)).1
theorem einv_len {n : Nat} {es : List Ent} (h : EInv n es) : es.length ≤ n := by
  have h1 : (es.map (·.st)).Nodup := List.pairwise_map.2 h.nd
  have h2 := nodup_le h1 (fun u hu => by obtain ⟨e, he, rfl⟩ := List.mem_map.1 hu; exact h.lt e he)
  simpa using h2
theorem comesF_some {M : List (List Int)} {set : List Bool} {n : Nat} {c : Ent} (hM : OkM M) (h : (stAt M n)[n]? = some c) : comesF M set (M.length + 1 - n) n = if set.getD c.st false then (false, c.way) else comesF M set (M.length + 1 - (n + 1)) (n + 1) := by
  have h1 := einv_len (einv_st hM n)
  have h2 := (List.getElem?_eq_some_iff.1 h).1
  obtain ⟨f, hf⟩ : ∃ f, M.length + 1 - n = f + 1 := ⟨M.length - n, by omega⟩
  have e : comesF M set (f + 1) n = match (stAt M n)[n]? with
    | none => (true, [])
    | some c => if set.getD c.st false then (false, c.way) else comesF M set f (n + 1) := rfl
  rw [hf, e, h, show M.length + 1 - (n + 1) = f by omega]
theorem tryE_len (c : Ent) (es : List Ent) (i : Nat) (x : Int) : es.length ≤ (tryE c es i x).length := by
  unfold tryE; split <;> simp
theorem rowAt_len (c : Ent) (row : List Int) (es : List Ent) : ∀ k, es.length ≤ (rowAt c row es k).length
  | 0 => Nat.le_refl _
  | k + 1 => Nat.le_trans (rowAt_len c row es k) (tryE_len _ _ _ _)
theorem comesF_none {M : List (List Int)} {set : List Bool} {n : Nat} (h : (stAt M n)[n]? = none) (f : Nat) : comesF M set f n = (true, []) := by
  cases f with
  | zero => rfl
  | succ f => unfold comesF; rw [h]
end Go.Proofs.Yteadkafeabhhhaa
