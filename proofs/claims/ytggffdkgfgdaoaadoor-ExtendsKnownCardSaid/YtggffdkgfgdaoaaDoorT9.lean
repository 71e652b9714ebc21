/- What ref29.Conflict computes, al plain data. -/
import Derived.Test.YtggffdkgfgdaoaaDoorE4
import Derived.Test.YtggffdkgfgdaoaaDoorD0
import Derived.Test.YtggffdkgfgdaoaaDoorGH
namespace Go.Proofs.YtggffdkgfgdaoaaDoor
set_option linter.unusedVariables false
set_option linter.unusedSimpArgs false
theorem dom_off (l : List Vt) : ∀ ys ∈ domL l, ∀ i < l.length, offAt l ys i = false := by
  induction l using snoc_ind with
  | h0 => intro ys _ i hi; simp at hi
  | h1 l v ih =>
    intro ys h i hi
    rw [domL_snoc] at h
    unfold domS at h
    obtain ⟨p, hp, h⟩ := List.mem_flatMap.1 h
    obtain ⟨y, hy, rfl⟩ := List.mem_map.1 h
    have hl := (mem_len l p hp)
    rw [List.length_append, List.length_singleton] at hi
    by_cases hil : i < l.length
    · have h1 := ih p hp i hil
      unfold offAt at h1 ⊢
      rw [List.getElem?_append_left hil, List.getElem?_append_left (by omega)]
      exact h1
    · obtain rfl : i = l.length := by omega
      unfold offAt
      rw [List.getElem?_append_right (Nat.le_refl _), Nat.sub_self, List.getElem?_append_right (by omega), hl, Nat.sub_self]
      unfold spanL at hy
      obtain ⟨k, hk, rfl⟩ := List.mem_map.1 hy
      have hk := List.mem_range.1 hk
      simp
      omega
where
  mem_len (l : List Vt) : ∀ p ∈ domL l, p.length = l.length := by
    induction l using snoc_ind with
    | h0 => intro p hp; simp [domL] at hp; subst hp; rfl
    | h1 l v ih =>
      intro p hp
      rw [domL_snoc] at hp
      unfold domS at hp
      obtain ⟨q, hq, hp⟩ := List.mem_flatMap.1 hp
      obtain ⟨y, _, rfl⟩ := List.mem_map.1 hp
      rw [List.length_append, ih q hq, List.length_append]; rfl
theorem dom_vals {l : List Vt} (h0 : varsR l = 0) {ys : List Int} (h : ys ∈ domL l) : valsR l ys = 0 := valsR_good h0 (dom_off.mem_len l ys h) (dom_off l ys h)
def oneB (x : Xt) (a : Ac) (s : Int) (ys : List Int) : Bool := (tkR x a s ys).isSome
def hitR (x : Xt) (a b : Ac) (ys : List Int) : Bool := oneB x a a.frm ys && oneB x b a.frm ys
def pairR (x : Xt) (a b : Ac) : Option (List Int) := if a.inp = b.inp then (domL x.vars).find? (hitR x a b) else none
theorem pairR_eq {x : Xt} (h0 : xtR x = 0) {a b : Ac} (ha : a ∈ x.arcs) (hb : b ∈ x.arcs) : pairR x a b = pairC x a b := by
  have hok := xtR_ok h0
  have hv0 := (valsR_zero hok.2.2.2.2.1).1
  have hha : ∀ ys ∈ domL x.vars, (takeV x a a.frm ys).2.2 = oneB x a a.frm ys ∧ (takeV x b a.frm ys).2.2 = oneB x b a.frm ys := fun ys hy => by
    have hv := dom_vals hv0 hy
    unfold takeV oneB
    rw [takeR_valid (hok.2.2.2.2.2.2.2.2 a ha) hv, takeR_valid (hok.2.2.2.2.2.2.2.2 b hb) hv]
    constructor
    · cases tkR x a a.frm ys <;> rfl
    · cases tkR x b a.frm ys <;> rfl
  unfold pairR pairC
  by_cases h1 : a.inp = b.inp
  · rw [if_pos h1]
    by_cases h2 : b.frm = a.frm
    · rw [if_pos ⟨h2, h1.symm⟩]
      refine find_congr (fun ys hy => ?_)
      unfold hitR bothT
      rw [(hha ys hy).1, (hha ys hy).2]
    · rw [if_neg (fun h => h2 h.1)]
      rw [List.find?_eq_none]
      intro ys _
      unfold hitR oneB tkR
      rw [if_neg (c := b.frm = a.frm ∧ _) (fun h => h2 h.1)]
      simp
  · rw [if_neg h1, if_neg (fun h => h1 h.2.symm)]
where
  find_congr {α : Type} {P Q : α → Bool} : ∀ {L : List α}, (∀ y ∈ L, P y = Q y) → L.find? P = L.find? Q
  | [], _ => rfl
  | a :: L, h => by
    rw [List.find?_cons, List.find?_cons, h a (by simp), find_congr (fun y hy => h y (by simp [hy]))]
/-- What is known before the pair i, k. -/
def noBef (x : Xt) (i k : Nat) : Prop := ∀ i' k' : Nat, i' < k' → (i' < i ∨ (i' = i ∧ k' < k)) → noC x i' k'
theorem noBef_zero (x : Xt) : noBef x 0 0 := fun i' k' _ h => by omega
theorem noBef_row {x : Xt} {i : Nat} (h : noBef x i 0) : noBef x i (i + 1) := fun i' k' h1 h2 => by
  rcases h2 with h2 | ⟨rfl, h2⟩
  · exact h i' k' h1 (.inl h2)
  · omega
theorem noBef_step {x : Xt} {i k : Nat} (h : noBef x i k) (h2 : noC x i k) : noBef x i (k + 1) := fun i' k' h1 h3 => by
  by_cases h4 : i' = i ∧ k' = k
  · obtain ⟨rfl, rfl⟩ := h4; exact h2
  · exact h i' k' h1 (by omega)
theorem noBef_next {x : Xt} {i : Nat} (h : noBef x i x.arcs.length) : noBef x (i + 1) 0 := fun i' k' h1 h2 => by
  by_cases h3 : k' < x.arcs.length
  · exact h i' k' h1 (by omega)
  · exact noC_far (by omega)
theorem noBef_all {x : Xt} (h : noBef x x.arcs.length 0) : CfNo x := fun i k h1 => by
  by_cases h3 : k < x.arcs.length
  · exact h i k h1 (by omega)
  · exact noC_far (by omega)
end Go.Proofs.YtggffdkgfgdaoaaDoor
