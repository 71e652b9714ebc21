/- A search by rounds over keys of any kind: its list is in the order of the least ways; each way that there is leads to something listed that is reached by no greater way. Plain lists. Which systems conform: the search over pairs of sets; a pair that does not conform is found after few observations. Plain. B.Of 11: the plain laws of its rows. Tests as plain data; the test of a plan. Plain. Tests that are valid; what Verdict looks for. Plain. A queue in memory: a slice whose front is cut off and whose end grows. The least bit of a mask, and what is left without it. Plain. How silent arcs are followed from one state: what holds of the mask and of the queue. Plain. math/bits.TrailingZeros64 61, slices.Clip 62, set.list 41. system.labels 39, begin 38, quiet 60 (with 69, 74, 70). -/
import Derived.Test.YtamodjlifpjaoaaDoorGB
import Derived.Deep.AppendSrc
import Derived.Lib.TrailingZeros
import Derived.Laws.Bits64b
namespace Go.Proofs.YtamodjlifpjaoaaDoor
open Go.RowKit
set_option linter.unusedVariables false
set_option linter.unusedSimpArgs false
set_option linter.unusedSectionVars false

structure Fd (κ : Type) where
  key : κ
  fr : Int
  sy : Int
  ln : Int
/-- A word comes before another one. -/
def slt : List Int → List Int → Bool
  | a :: l, b :: m => decide (a < b) || (decide (a = b) && slt l m)
  | _, _ => false
def bef (a b : List Int) : Bool := decide (a.length < b.length) || (decide (a.length = b.length) && slt a b)
theorem slt_irr : ∀ a, slt a a = false
  | [] => rfl
  | x :: l => by unfold slt; rw [slt_irr l]; simp
theorem slt_snoc : ∀ {a b : List Int}, a.length = b.length → slt a b = true → ∀ x y, slt (a ++ [x]) (b ++ [y]) = true
  | [], [], _, h, _, _ => by simp [slt] at h
  | [], _ :: _, hl, _, _, _ => by simp at hl
  | _ :: _, [], hl, _, _, _ => by simp at hl
  | p :: l, q :: m, hl, h, x, y => by
    simp only [List.cons_append]
    unfold slt at h ⊢
    simp only [Bool.or_eq_true, Bool.and_eq_true, decide_eq_true_eq] at h ⊢
    rcases h with h | ⟨h1, h2⟩
    · exact .inl h
    · exact .inr ⟨h1, slt_snoc (by simpa using hl) h2 x y⟩
theorem slt_last : ∀ (a : List Int) {x y : Int}, x < y → slt (a ++ [x]) (a ++ [y]) = true
  | [], x, y, h => by simp [slt, h]
  | p :: l, x, y, h => by simp only [List.cons_append]; unfold slt; rw [slt_last l h]; simp
theorem slt_trans : ∀ {a b c : List Int}, slt a b = true → slt b c = true → slt a c = true
  | [], _, _, h, _ => by unfold slt at h; cases h
  | _ :: _, [], _, h, _ => by unfold slt at h; cases h
  | _ :: _, _ :: _, [], _, h => by unfold slt at h; cases h
  | p :: l, q :: m, r :: n, h, k => by
    unfold slt at h k ⊢
    simp only [Bool.or_eq_true, Bool.and_eq_true, decide_eq_true_eq] at h k ⊢
    rcases h with h | ⟨h1, h2⟩ <;> rcases k with k | ⟨k1, k2⟩
    · exact .inl (by omega)
    · exact .inl (by omega)
    · exact .inl (by omega)
    · exact .inr ⟨by omega, slt_trans h2 k2⟩
theorem slt_tri : ∀ {a b : List Int}, a.length = b.length → slt a b = true ∨ a = b ∨ slt b a = true
  | [], [], _ => .inr (.inl rfl)
  | [], _ :: _, h => by simp at h
  | _ :: _, [], h => by simp at h
  | p :: l, q :: m, h => by
    unfold slt
    simp only [Bool.or_eq_true, Bool.and_eq_true, decide_eq_true_eq]
    rcases slt_tri (a := l) (b := m) (by simpa using h) with h1 | h1 | h1
    · rcases Int.lt_trichotomy p q with h2 | h2 | h2
      · exact .inl (.inl h2)
      · exact .inl (.inr ⟨h2, h1⟩)
      · exact .inr (.inr (.inl h2))
    · rcases Int.lt_trichotomy p q with h2 | h2 | h2
      · exact .inl (.inl h2)
      · exact .inr (.inl (by rw [h2, h1]))
      · exact .inr (.inr (.inl h2))
    · rcases Int.lt_trichotomy p q with h2 | h2 | h2
      · exact .inl (.inl h2)
      · exact .inr (.inr (.inr ⟨h2.symm, h1⟩))
      · exact .inr (.inr (.inl h2))
theorem bef_iff {a b : List Int} : bef a b = true ↔ a.length < b.length ∨ a.length = b.length ∧ slt a b = true := by
  unfold bef; simp
theorem bef_irr (a : List Int) : bef a a = false := by unfold bef; rw [slt_irr]; simp
theorem bef_trans {a b c : List Int} (h : bef a b = true) (k : bef b c = true) : bef a c = true := by
  rw [bef_iff] at *
  rcases h with h | ⟨h1, h2⟩ <;> rcases k with k | ⟨k1, k2⟩
  · exact .inl (by omega)
  · exact .inl (by omega)
  · exact .inl (by omega)
  · exact .inr ⟨by omega, slt_trans h2 k2⟩
theorem bef_tri (a b : List Int) : bef a b = true ∨ a = b ∨ bef b a = true := by
  rw [bef_iff, bef_iff]
  rcases Nat.lt_trichotomy a.length b.length with h | h | h
  · exact .inl (.inl h)
  · rcases slt_tri h with h1 | h1 | h1
    · exact .inl (.inr ⟨h, h1⟩)
    · exact .inr (.inl h1)
    · exact .inr (.inr (.inr ⟨h.symm, h1⟩))
  · exact .inr (.inr (.inl h))
theorem bef_snoc {a b : List Int} (h : bef a b = true) (x y : Int) : bef (a ++ [x]) (b ++ [y]) = true := by
  rw [bef_iff] at *
  simp only [List.length_append, List.length_singleton]
  rcases h with h | ⟨h1, h2⟩
  · exact .inl (by omega)
  · exact .inr ⟨by omega, slt_snoc h1 h2 x y⟩
theorem bef_last (a : List Int) {x y : Int} (h : x < y) : bef (a ++ [x]) (a ++ [y]) = true := by
  rw [bef_iff]; exact .inr ⟨by simp, slt_last a h⟩
/-- Not after. -/
def nle (a b : List Int) : Prop := a = b ∨ bef a b = true
theorem nle_len {a b : List Int} (h : nle a b) : a.length ≤ b.length := by
  rcases h with rfl | h
  · exact Nat.le_refl _
  · rcases bef_iff.1 h with h | h <;> omega
theorem nle_trans {a b c : List Int} (h : nle a b) (k : nle b c) : nle a c := by
  rcases h with rfl | h
  · exact k
  · rcases k with rfl | k
    · exact .inr h
    · exact .inr (bef_trans h k)

section
variable {κ : Type} [DecidableEq κ] (root : κ) (cand : κ → List (Int × κ)) (ok : κ → Bool)
def rt : Fd κ := ⟨root, 0, 0, 0⟩
def inB (l : List (Fd κ)) (t : κ) : Bool := l.any (fun y => decide (y.key = t))
def newB (r : Fd κ) (i : Nat) (e : Int × κ) : Fd κ := ⟨e.2, i, e.1, r.ln + 1⟩
def addB (l : List (Fd κ)) (i : Nat) (e : Int × κ) : List (Fd κ) := if !ok e.2 || inB l e.2 then l else l ++ [newB (l.getD i (rt root)) i e]
def rowB (l : List (Fd κ)) (i : Nat) (es : List (Int × κ)) : List (Fd κ) := es.foldl (fun l e => addB root ok l i e) l
def goB : Nat → List (Fd κ)
  | 0 => [rt root]
  | i + 1 => if i < (goB i).length then rowB root ok (goB i) i (cand ((goB i).getD i (rt root)).key) else goB i
def wayP (L : List (Fd κ)) : Nat → Nat → List Int
  | 0, _ => []
  | k + 1, n => wayP L k (L.getD n (rt root)).fr.toNat ++ [(L.getD n (rt root)).sy]
def wayB (L : List (Fd κ)) (n : Nat) : List Int := wayP root L (L.getD n (rt root)).ln.toNat n
/-- A way, by labels, over keys that are allowed. -/
inductive Way : List Int → κ → Prop
  | nil : Way [] root
  | snoc {u : List Int} {t : κ} {e : Int × κ} : Way u t → e ∈ cand t → ok e.2 = true → Way (u ++ [e.1]) e.2
end
variable {κ : Type} [DecidableEq κ] {root : κ} {cand : κ → List (Int × κ)} {ok : κ → Bool}
theorem inB_iff {l : List (Fd κ)} {t : κ} : inB l t = true ↔ t ∈ l.map Fd.key := by
  unfold inB; rw [List.any_eq_true, List.mem_map]; simp
theorem fd_get {l : List (Fd κ)} {i : Nat} {r d : Fd κ} (h : l[i]? = some r) : l.getD i d = r := by rw [List.getD_eq_getElem?_getD, h]; rfl
theorem pre_get {α : Type} {l L : List α} (h : l <+: L) {i : Nat} {r : α} (hi : l[i]? = some r) : L[i]? = some r := by
  obtain ⟨t, rfl⟩ := h
  rw [List.getElem?_append_left (List.getElem?_eq_some_iff.1 hi).1]; exact hi
theorem addB_pre (l : List (Fd κ)) (i : Nat) (e : Int × κ) : l <+: addB root ok l i e := by
  unfold addB; split
  · exact List.prefix_refl _
  · exact List.prefix_append _ _
theorem rowB_pre (i : Nat) : ∀ (es : List (Int × κ)) (l : List (Fd κ)), l <+: rowB root ok l i es
  | [], l => List.prefix_refl _
  | e :: es, l => (addB_pre l i e).trans (rowB_pre i es _)
theorem rowB_app (l : List (Fd κ)) (i : Nat) (es fs : List (Int × κ)) : rowB root ok l i (es ++ fs) = rowB root ok (rowB root ok l i es) i fs := by unfold rowB; rw [List.foldl_append]
theorem rowB_snoc (l : List (Fd κ)) (i : Nat) {es : List (Int × κ)} {j : Nat} {e : Int × κ} (h : es[j]? = some e) : rowB root ok l i (es.take (j + 1)) = addB root ok (rowB root ok l i (es.take j)) i e := by
  have : es.take (j + 1) = es.take j ++ [e] := by rw [List.take_add_one, h]; rfl
  rw [this, rowB_app]; rfl
theorem rowB_take_pre (l : List (Fd κ)) (i : Nat) (es : List (Int × κ)) (j : Nat) : rowB root ok l i (es.take j) <+: rowB root ok l i es := by
  conv => rhs; rw [← List.take_append_drop j es, rowB_app]
  exact rowB_pre i _ _
theorem goB_succ (i : Nat) : goB root cand ok i <+: goB root cand ok (i + 1) := by
  show _ <+: if _ then _ else _
  split
  · exact rowB_pre _ _ _
  · exact List.prefix_refl _
theorem goB_le {i j : Nat} (h : i ≤ j) : goB root cand ok i <+: goB root cand ok j := by
  induction j with
  | zero => rw [Nat.le_zero.1 h]; exact List.prefix_refl _
  | succ j ih =>
    rcases Nat.lt_or_ge i (j + 1) with h1 | h1
    · exact (ih (by omega)).trans (goB_succ j)
    · rw [Nat.le_antisymm h h1]; exact List.prefix_refl _
theorem goB_step {i : Nat} {r : Fd κ} (h : (goB root cand ok i)[i]? = some r) : goB root cand ok (i + 1) = rowB root ok (goB root cand ok i) i (cand r.key) := by
  show (if _ then _ else _) = _
  rw [if_pos (List.getElem?_eq_some_iff.1 h).1, fd_get h]
theorem goB_stop {i j : Nat} (hi : (goB root cand ok i).length ≤ i) (h : i ≤ j) : goB root cand ok j = goB root cand ok i := by
  induction j with
  | zero => rw [Nat.le_zero.1 h]
  | succ j ih =>
    rcases Nat.lt_or_ge i (j + 1) with h1 | h1
    · have e := ih (by omega)
      show (if _ then _ else _) = _
      rw [e, if_neg (by omega)]
    · rw [Nat.le_antisymm h h1]

/-- What holds of every list on the way. -/
structure OkB (root : κ) (cand : κ → List (Int × κ)) (ok : κ → Bool) (l : List (Fd κ)) : Prop where
  pos : 0 < l.length
  first : l[0]? = some (rt root)
  nodup : (l.map Fd.key).Nodup
  back : ∀ (j : Nat) (r : Fd κ), l[j]? = some r → 0 < j → ∃ (i : Nat) (e : Int × κ) (r' : Fd κ), i < j ∧ l[i]? = some r' ∧ e ∈ cand r'.key ∧ ok e.2 = true ∧ r = newB r' i e
  ord : ∀ (j j' : Nat) (r r' : Fd κ), l[j]? = some r → l[j']? = some r' → 0 < j → j < j' → r.fr < r'.fr ∨ r.fr = r'.fr ∧ r.sy < r'.sy
/-- All that is listed was found from before i, or from i by a label below x. -/
def Frm (l : List (Fd κ)) (i : Nat) (x : Int) : Prop := ∀ (j : Nat) (r : Fd κ), l[j]? = some r → 0 < j → r.fr < i ∨ r.fr = i ∧ r.sy < x
theorem okB_start : OkB root cand ok [rt root] :=
  ⟨by simp, rfl, by simp, fun j r hj h0 => by have := (List.getElem?_eq_some_iff.1 hj).1; simp at this; omega,
   fun j j' r r' hj hj' h0 hlt => by have := (List.getElem?_eq_some_iff.1 hj').1; simp at this; omega⟩
theorem snoc_get {α : Type} {l : List α} {a : α} {j : Nat} {r : α} (h : (l ++ [a])[j]? = some r) : l[j]? = some r ∨ j = l.length ∧ r = a := by
  by_cases hj : j < l.length
  · rw [List.getElem?_append_left hj] at h; exact .inl h
  · have hl := (List.getElem?_eq_some_iff.1 h).1
    simp at hl
    obtain rfl : j = l.length := by omega
    rw [List.getElem?_append_right (Nat.le_refl _), Nat.sub_self] at h
    cases h
    exact .inr ⟨rfl, rfl⟩
theorem OkB.add {l : List (Fd κ)} (h : OkB root cand ok l) {i : Nat} {r : Fd κ} (hi : l[i]? = some r) {e : Int × κ} (he : e ∈ cand r.key) (hb : Frm l i e.1) : OkB root cand ok (addB root ok l i e) := by
  unfold addB
  rw [fd_get hi]
  split
  · exact h
  · rename_i hn
    simp only [Bool.or_eq_true, Bool.not_eq_true', not_or, Bool.not_eq_false, Bool.not_eq_true] at hn
    refine ⟨by simp, ?_, ?_, ?_, ?_⟩
    · rw [List.getElem?_append_left h.pos]; exact h.first
    · rw [List.map_append, List.nodup_append]
      refine ⟨h.nodup, by simp, fun u hu v hv e' => ?_⟩
      simp only [List.map_cons, List.map_nil, List.mem_singleton] at hv
      rw [e', hv] at hu
      have := inB_iff.2 hu
      rw [show (newB r i e).key = e.2 from rfl, hn.2] at this; cases this
    · intro j r2 hj h0
      rcases snoc_get hj with hj | ⟨rfl, rfl⟩
      · obtain ⟨i', e', r', h1, h2, h3, h4, h5⟩ := h.back j r2 hj h0
        exact ⟨i', e', r', h1, by rw [List.getElem?_append_left (List.getElem?_eq_some_iff.1 h2).1]; exact h2, h3, h4, h5⟩
      · exact ⟨i, e, r, (List.getElem?_eq_some_iff.1 hi).1, by rw [List.getElem?_append_left (List.getElem?_eq_some_iff.1 hi).1]; exact hi, he, hn.1, rfl⟩
    · intro j j' r1 r2 hj hj' h0 hlt
      rcases snoc_get hj' with hj' | ⟨rfl, rfl⟩
      · rcases snoc_get hj with hj | ⟨rfl, rfl⟩
        · exact h.ord j j' r1 r2 hj hj' h0 hlt
        · have := (List.getElem?_eq_some_iff.1 hj').1; omega
      · rcases snoc_get hj with hj | ⟨rfl, rfl⟩
        · exact hb j r1 hj h0
        · omega
theorem Frm.add {l : List (Fd κ)} {i : Nat} {e : Int × κ} {x : Int} (hb : Frm l i e.1) (hx : e.1 < x) : Frm (addB root ok l i e) i x := by
  have hw : Frm l i x := fun j r hj h0 => (hb j r hj h0).elim .inl (fun h => .inr ⟨h.1, by have := h.2; omega⟩)
  unfold addB
  split
  · exact hw
  · intro j r hj h0
    rcases snoc_get hj with hj | ⟨rfl, rfl⟩
    · exact hw j r hj h0
    · exact .inr ⟨rfl, hx⟩
/-- Labels rise. -/
def Rise (es : List (Int × κ)) : Prop := es.Pairwise (fun e e' => e.1 < e'.1)
theorem row_ok : ∀ (es : List (Int × κ)) {l : List (Fd κ)} {i : Nat} {r : Fd κ}, OkB root cand ok l → l[i]? = some r → (∀ e ∈ es, e ∈ cand r.key) → Rise es → (∀ e ∈ es, Frm l i e.1) →
    OkB root cand ok (rowB root ok l i es) ∧ ∀ x, (∀ e ∈ es, e.1 < x) → Frm l i x → Frm (rowB root ok l i es) i x
  | [], l, i, r, h, _, _, _, _ => ⟨h, fun x _ hb => hb⟩
  | e :: es, l, i, r, h, hi, hc, hr, hb => by
    have h1 := h.add hi (hc e (by simp)) (hb e (by simp))
    have hi' : (addB root ok l i e)[i]? = some r := pre_get (addB_pre l i e) hi
    have hr' := List.pairwise_cons.1 hr
    have h2 := row_ok es h1 hi' (fun e' he' => hc e' (by simp [he'])) hr'.2 (fun e' he' => (hb e (by simp)).add (hr'.1 e' he'))
    exact ⟨h2.1, fun x hx hbx => h2.2 x (fun e' he' => hx e' (by simp [he'])) ((hb e (by simp)).add (hx e (by simp)))⟩
theorem go_ok (hR : ∀ t, Rise (cand t)) : ∀ i, OkB root cand ok (goB root cand ok i) ∧ ∀ x, Frm (goB root cand ok i) i x
  | 0 => ⟨okB_start, fun x j r hj h0 => by have := (List.getElem?_eq_some_iff.1 hj).1; simp [goB] at this; omega⟩
  | i + 1 => by
    obtain ⟨h1, h2⟩ := go_ok hR i
    have hup : ∀ {l : List (Fd κ)}, (∃ x, Frm l i x) → ∀ y, Frm l (i + 1) y := fun ⟨x, hb⟩ y j r hj h0 => by
      rcases hb j r hj h0 with h | ⟨h, _⟩ <;> exact .inl (by omega)
    by_cases hlt : i < (goB root cand ok i).length
    · have hgi := List.getElem?_eq_getElem hlt
      rw [goB_step hgi]
      have h3 := row_ok (cand ((goB root cand ok i)[i]).key) h1 hgi (fun e he => he) (hR _) (fun e _ => h2 e.1)
      refine ⟨h3.1, hup ?_⟩
      have hmx : ∀ es : List (Int × κ), ∃ x : Int, ∀ e ∈ es, e.1 < x := fun es => by
        induction es with
        | nil => exact ⟨0, fun e he => by cases he⟩
        | cons e es ih =>
          obtain ⟨x, hx⟩ := ih
          refine ⟨max x (e.1 + 1), fun e' he' => ?_⟩
          rcases List.mem_cons.1 he' with rfl | he'
          · omega
          · have := hx e' he'; omega
      obtain ⟨x, hx⟩ := hmx (cand ((goB root cand ok i)[i]).key)
      exact ⟨x, h3.2 x hx (h2 x)⟩
    · have : goB root cand ok (i + 1) = goB root cand ok i := if_neg hlt
      rw [this]
      exact ⟨h1, hup ⟨0, h2 0⟩⟩
/-- What a row has tried is listed. -/
theorem row_in : ∀ (es : List (Int × κ)) (l : List (Fd κ)) (i : Nat) (e : Int × κ), e ∈ es → ok e.2 = true → inB (rowB root ok l i es) e.2 = true
  | [], _, _, _, h, _ => by cases h
  | e' :: es, l, i, e, h, ho => by
    rcases List.mem_cons.1 h with rfl | h
    · have h1 : inB (addB root ok l i e) e.2 = true := by
        unfold addB
        split
        · rename_i hc
          rw [ho] at hc; simpa using hc
        · exact inB_iff.2 (by simp [newB])
      refine inB_iff.2 ?_
      obtain ⟨y, hy, hye⟩ := List.mem_map.1 (inB_iff.1 h1)
      exact List.mem_map.2 ⟨y, (rowB_pre i es _).subset hy, hye⟩
    · exact row_in es _ i e h ho
theorem key_at {l : List (Fd κ)} {t : κ} (h : inB l t = true) : ∃ (n : Nat) (r : Fd κ), l[n]? = some r ∧ r.key = t := by
  obtain ⟨y, hy, he⟩ := List.mem_map.1 (inB_iff.1 h)
  obtain ⟨n, hn⟩ := List.getElem?_of_mem hy
  exact ⟨n, y, hn, he⟩
/-- All that is listed has been tried: its successors are listed, by no later way. -/
theorem go_closed (hR : ∀ t, Rise (cand t)) (N : Nat) (hN : (goB root cand ok N).length ≤ N) {i : Nat} {r : Fd κ} (hi : (goB root cand ok N)[i]? = some r) {e : Int × κ} (he : e ∈ cand r.key) (ho : ok e.2 = true) :
    ∃ (n : Nat) (r2 : Fd κ), (goB root cand ok N)[n]? = some r2 ∧ r2.key = e.2 ∧ (n = 0 ∨ r2.fr < i ∨ r2.fr = i ∧ r2.sy ≤ e.1) := by
  have hil := (List.getElem?_eq_some_iff.1 hi).1
  -- when i was tried
  have hlen : i < (goB root cand ok i).length := by
    refine Classical.byContradiction fun hn => ?_
    have := goB_stop (root := root) (cand := cand) (ok := ok) (i := i) (j := N) (by omega) (by omega)
    rw [this] at hil; exact hn hil
  have hgi := List.getElem?_eq_getElem hlen
  have hri : (goB root cand ok i)[i] = r := by
    have := pre_get (goB_le (root := root) (cand := cand) (ok := ok) (show i ≤ N by omega)) hgi
    rw [this] at hi; cases hi; rfl
  rw [hri] at hgi
  obtain ⟨k, hk⟩ := List.getElem?_of_mem he
  -- the row up to e
  have hsplit := row_in (root := root) (ok := ok) ((cand r.key).take (k + 1)) (goB root cand ok i) i e (by
    rw [List.take_add_one, hk]; simp) ho
  obtain ⟨n, r2, hn, hkey⟩ := key_at hsplit
  have hpre : rowB root ok (goB root cand ok i) i ((cand r.key).take (k + 1)) <+: goB root cand ok N := by
    have h1 := rowB_take_pre (root := root) (ok := ok) (goB root cand ok i) i (cand r.key) (k + 1)
    rw [← goB_step hgi] at h1
    exact h1.trans (goB_le (by omega))
  refine ⟨n, r2, pre_get hpre hn, hkey, ?_⟩
  rcases Nat.eq_zero_or_pos n with h0 | h0
  · exact .inl h0
  right
  obtain ⟨h1, h2⟩ := go_ok (root := root) (cand := cand) (ok := ok) hR i
  have hrise : Rise ((cand r.key).take (k + 1)) := List.Pairwise.sublist (List.take_sublist _ _) (hR r.key)
  have h3 := (row_ok ((cand r.key).take (k + 1)) h1 hgi (fun e' he' => List.mem_of_mem_take he') hrise (fun e' _ => h2 e'.1)).2 (e.1 + 1) (fun e' he' => by
    obtain ⟨j, hj⟩ := List.getElem?_of_mem he'
    have hjl := (List.getElem?_eq_some_iff.1 hj).1
    rw [List.length_take] at hjl
    rw [List.getElem?_take_of_lt (by omega)] at hj
    rcases Nat.lt_or_ge j k with hjk | hjk
    · have := List.pairwise_iff_getElem.1 (hR r.key) j k (List.getElem?_eq_some_iff.1 hj).1 (List.getElem?_eq_some_iff.1 hk).1 hjk
      rw [(List.getElem?_eq_some_iff.1 hj).2, (List.getElem?_eq_some_iff.1 hk).2] at this
      omega
    · obtain rfl : j = k := by omega
      rw [hk] at hj; cases hj; omega) (h2 _)
  rcases h3 n r2 hn h0 with h4 | ⟨h4, h5⟩
  · exact .inl h4
  · exact .inr ⟨h4, by omega⟩

/-! ### Ways -/
theorem OkB.ln {l : List (Fd κ)} (h : OkB root cand ok l) : ∀ (j : Nat) (r : Fd κ), l[j]? = some r → 0 ≤ r.ln ∧ r.ln ≤ j ∧ 0 ≤ r.fr ∧ r.fr ≤ j := by
  intro j
  induction j using Nat.strongRecOn with
  | _ j ih =>
    intro r hr
    rcases Nat.eq_zero_or_pos j with h0 | h0
    · subst h0
      rw [h.first] at hr
      cases hr
      exact ⟨Int.le_refl _, Int.le_refl _, Int.le_refl _, Int.le_refl _⟩
    · obtain ⟨i, e, r', h1, h2, _, _, rfl⟩ := h.back j r hr h0
      have := ih i h1 r' h2
      simp only [newB]
      omega
theorem wayP_len (L : List (Fd κ)) : ∀ (k n : Nat), (wayP root L k n).length = k
  | 0, _ => rfl
  | k + 1, n => by show (_ ++ [_]).length = _; rw [List.length_append, wayP_len L k]; rfl
theorem wayB_len (L : List (Fd κ)) (n : Nat) : (wayB root L n).length = (L.getD n (rt root)).ln.toNat := wayP_len _ _ _
theorem wayB_first {L : List (Fd κ)} (h : L[0]? = some (rt root)) : wayB root L 0 = [] := by unfold wayB; rw [fd_get h]; rfl
theorem wayB_new {L : List (Fd κ)} {i n : Nat} {r : Fd κ} {e : Int × κ} (hi : L[i]? = some r) (hr : 0 ≤ r.ln) (hn : L[n]? = some (newB r i e)) : wayB root L n = wayB root L i ++ [e.1] := by
  unfold wayB
  rw [fd_get hn, fd_get hi]
  have h1 : (newB r i e).ln.toNat = r.ln.toNat + 1 := by show (r.ln + 1).toNat = _; omega
  rw [h1]
  show wayP root L r.ln.toNat (L.getD n (rt root)).fr.toNat ++ [(L.getD n (rt root)).sy] = _
  rw [fd_get hn]; rfl
/-- The ways are ways, and rise. -/
theorem OkB.way {L : List (Fd κ)} (h : OkB root cand ok L) : ∀ (n : Nat) (r : Fd κ), L[n]? = some r → Way root cand ok (wayB root L n) r.key := by
  intro n
  induction n using Nat.strongRecOn with
  | _ n ih =>
    intro r hr
    rcases Nat.eq_zero_or_pos n with h0 | h0
    · subst h0
      rw [wayB_first h.first]
      rw [h.first] at hr; cases hr; exact .nil
    · obtain ⟨i, e, r', h1, h2, h3, h4, rfl⟩ := h.back n r hr h0
      rw [wayB_new h2 (h.ln i r' h2).1 hr]
      exact .snoc (ih i h1 r' h2) h3 h4
theorem OkB.rise {L : List (Fd κ)} (h : OkB root cand ok L) : ∀ (m n : Nat), n < m → m < L.length → bef (wayB root L n) (wayB root L m) = true := by
  intro m
  induction m using Nat.strongRecOn with
  | _ m ih =>
    intro n hnm hm
    obtain ⟨i, e, r', h1, h2, h3, h4, h5⟩ := h.back m _ (List.getElem?_eq_getElem hm) (by omega)
    have hm' : L[m]? = some (newB r' i e) := by rw [← h5]; exact List.getElem?_eq_getElem hm
    rw [wayB_new h2 (h.ln i r' h2).1 hm']
    rcases Nat.eq_zero_or_pos n with h0 | h0
    · subst h0
      rw [wayB_first h.first, bef_iff]; left; simp
    · have hnl : n < L.length := by omega
      obtain ⟨i2, e2, r2, k1, k2, k3, k4, k5⟩ := h.back n _ (List.getElem?_eq_getElem hnl) h0
      have hn' : L[n]? = some (newB r2 i2 e2) := by rw [← k5]; exact List.getElem?_eq_getElem hnl
      rw [wayB_new k2 (h.ln i2 r2 k2).1 hn']
      rcases h.ord n m _ _ hn' hm' h0 hnm with h6 | ⟨h6, h7⟩
      · have h6 : (i2 : Int) < (i : Int) := h6
        exact bef_snoc (ih i h1 i2 (by omega) (by omega)) _ _
      · have h6 : (i2 : Int) = (i : Int) := h6
        have h7 : e2.1 < e.1 := h7
        obtain rfl : i2 = i := by omega
        exact bef_last _ h7
/-- **Each way leads to something listed, by a way that is no later.** -/
theorem go_all (hR : ∀ t, Rise (cand t)) (N : Nat) (hN : (goB root cand ok N).length ≤ N) {u : List Int} {t : κ} (hw : Way root cand ok u t) :
    ∃ (n : Nat) (r : Fd κ), (goB root cand ok N)[n]? = some r ∧ r.key = t ∧ nle (wayB root (goB root cand ok N) n) u := by
  have hok := (go_ok (root := root) (cand := cand) (ok := ok) hR N).1
  induction hw with
  | nil => exact ⟨0, rt root, hok.first, rfl, .inl (wayB_first hok.first)⟩
  | @snoc u t e hw he ho ih =>
    obtain ⟨i, r, hi, rfl, hle⟩ := ih
    obtain ⟨n, r2, hn, hk, hcase⟩ := go_closed hR N hN hi he ho
    refine ⟨n, r2, hn, hk, ?_⟩
    have hi1 : nle (wayB root (goB root cand ok N) i ++ [e.1]) (u ++ [e.1]) := by
      rcases hle with h | h
      · rw [h]; exact .inl rfl
      · exact .inr (bef_snoc h _ _)
    refine nle_trans ?_ hi1
    rcases Nat.eq_zero_or_pos n with h0 | h0
    · subst h0
      rw [wayB_first hok.first]; right; rw [bef_iff]; left; simp
    · rcases hcase with h1 | h1
      · omega
      obtain ⟨i2, e2, r', k1, k2, k3, k4, k5⟩ := hok.back n r2 hn h0
      subst k5
      rw [wayB_new k2 (hok.ln i2 r' k2).1 hn]
      have hil := (List.getElem?_eq_some_iff.1 hi).1
      rcases h1 with h1 | ⟨h1, h2⟩
      · have h1 : (i2 : Int) < (i : Int) := h1
        exact .inr (bef_snoc (hok.rise i i2 (by omega) hil) _ _)
      · have h1 : (i2 : Int) = (i : Int) := h1
        have h2 : e2.1 ≤ e.1 := h2
        obtain rfl : i2 = i := by omega
        rcases Int.lt_or_eq_of_le h2 with h3 | h3
        · exact .inr (bef_last _ h3)
        · rw [h3]; exact .inl rfl
end Go.Proofs.YtamodjlifpjaoaaDoor

namespace Go.Proofs.YtamodjlifpjaoaaDoor
open Go.RowKit
set_option linter.unusedVariables false
set_option linter.unusedSimpArgs false

/-! ### What observations do -/
def tr (x : Lts) (S : Nat) (u : List Int) : Nat := u.foldl (aftM x) S
theorem tr_app (x : Lts) (S : Nat) (u v : List Int) : tr x S (u ++ v) = tr x (tr x S u) v := List.foldl_append
theorem tr_snoc (x : Lts) (S : Nat) (u : List Int) (l : Int) : tr x S (u ++ [l]) = aftM x (tr x S u) l := by rw [tr_app]; rfl
theorem tr_lt {x : Lts} (h : Good x) : ∀ (u : List Int) {S : Nat}, S < 2 ^ x.n → tr x S u < 2 ^ x.n
  | [], _, hS => hS
  | l :: u, _, hS => tr_lt h u (aftM_lt h hS l)
theorem mem_zero : mem 0 = [] := by unfold mem; rw [List.filter_eq_nil_iff]; simp
theorem aftM_zero (x : Lts) (l : Int) : aftM x 0 l = 0 := by unfold aftM; rw [mem_zero]; split <;> rfl
theorem tr_zero (x : Lts) : ∀ u, tr x 0 u = 0
  | [] => rfl
  | l :: u => by show tr x (aftM x 0 l) u = 0; rw [aftM_zero]; exact tr_zero x u
/-- What is observed is observed of one state. -/
theorem aftM_bit {x : Lts} {S : Nat} (hS : S < 2 ^ 64) (l : Int) (t : Nat) : (aftM x S l).testBit t = true ↔ ∃ s, S.testBit s = true ∧ (aftM x (2 ^ s) l).testBit t = true := by
  have hone : ∀ s, S.testBit s = true → ∀ z, z ∈ mem (2 ^ s) ↔ z = s := fun s hs z => by
    have h64 := mask_bit hS hs
    rw [mem_iff (Nat.pow_lt_pow_right (by omega) h64), bit_one]
    simp; exact eq_comm
  unfold aftM
  split
  · rw [aftQ_bit, mem_iff hS]
    constructor
    · rintro ⟨h1, h2⟩
      exact ⟨t, h1, (aftQ_bit x _ t).2 ⟨(hone t h1 t).2 rfl, h2⟩⟩
    · rintro ⟨s, hs, h1⟩
      obtain ⟨h2, h3⟩ := (aftQ_bit x _ t).1 h1
      rw [(hone s hs t).1 h2]
      exact ⟨hs, (hone s hs t).1 h2 ▸ h3⟩
  · rw [aftL_bit]
    constructor
    · rintro ⟨s, hs, r⟩
      have hs := (mem_iff hS).1 hs
      exact ⟨s, hs, (aftL_bit x l _ t).2 ⟨s, (hone s hs s).2 rfl, r⟩⟩
    · rintro ⟨s, hs, h1⟩
      obtain ⟨z, hz, r⟩ := (aftL_bit x l _ t).1 h1
      rw [(hone s hs z).1 hz] at r
      exact ⟨s, (mem_iff hS).2 hs, r⟩
theorem tr_bit {x : Lts} (h : Good x) : ∀ (u : List Int) {S : Nat}, S < 2 ^ x.n → ∀ t, (tr x S u).testBit t = true ↔ ∃ s, S.testBit s = true ∧ (tr x (2 ^ s) u).testBit t = true
  | [], S, hS, t => by
    show S.testBit t = true ↔ ∃ s, S.testBit s = true ∧ (2 ^ s).testBit t = true
    simp only [bit_one, decide_eq_true_eq]
    exact ⟨fun h => ⟨t, h, rfl⟩, fun ⟨s, h1, h2⟩ => h2 ▸ h1⟩
  | l :: u, S, hS, t => by
    show (tr x (aftM x S l) u).testBit t = true ↔ ∃ s, S.testBit s = true ∧ (tr x (aftM x (2 ^ s) l) u).testBit t = true
    have hp : ∀ s, S.testBit s = true → 2 ^ s < 2 ^ x.n := fun s hs => Nat.pow_lt_pow_right (by omega) (mask_bit hS hs)
    rw [tr_bit h u (aftM_lt h hS l)]
    constructor
    · rintro ⟨z, hz, h1⟩
      obtain ⟨s, hs, h2⟩ := (aftM_bit (h.mask64 hS) l z).1 hz
      exact ⟨s, hs, (tr_bit h u (aftM_lt h (hp s hs) l) t).2 ⟨z, h2, h1⟩⟩
    · rintro ⟨s, hs, h1⟩
      obtain ⟨z, hz, h2⟩ := (tr_bit h u (aftM_lt h (hp s hs) l) t).1 h1
      exact ⟨z, (aftM_bit (h.mask64 hS) l z).2 ⟨s, hs, hz⟩, h2⟩

/-! ### The search -/
def labs (x : Lts) : List Int := (List.range (x.I + x.O + 1)).map (fun (j : Nat) => (j : Int))
def candC (x y : Lts) (t : Nat × Nat) : List (Int × (Nat × Nat)) := (labs x).map fun l => (l, (aftM x t.1 l, aftM y t.2 l))
def okC (t : Nat × Nat) : Bool := t.1 != 0 && t.2 != 0
def rootC (x y : Lts) : Nat × Nat := (begM x, begM y)
def goC (x y : Lts) (i : Nat) : List (Fd (Nat × Nat)) := goB (rootC x y) (candC x y) okC i
/-- The number of rounds: 4096. -/
def capC (x : Lts) : Nat := 4096 + (x.n - x.n)
theorem capC_eq (x : Lts) : capC x = 4096 := by unfold capC; omega
def fndL (x y : Lts) : List (Fd (Nat × Nat)) := goC x y (capC x)
def wayC (x y : Lts) (n : Nat) : List Int := wayB (rootC x y) (fndL x y) n
def badC (x y : Lts) (t : Nat × Nat) : Option Int := (obsM x t.1).find? (fun l => aftM y t.2 l == 0)
def offC (x y : Lts) (r : Fd (Nat × Nat)) : Bool := (badC x y r.key).isSome
/-- What Conforms answers of valid systems with equal labels. -/
def confG (x y : Lts) : Bool × List Int × Int × Int :=
  match (fndL x y).findIdx? (offC x y) with
  | none => (true, [], 0, 0)
  | some n => if 256 < ((fndL x y).getD n (rt (rootC x y))).ln then (false, [], 0, 3) else (false, wayC x y n, (badC x y ((fndL x y).getD n (rt (rootC x y))).key).getD 0, 0)
def confR (x y : Lts) : Bool × List Int × Int × Int :=
  if checkI x ≠ 0 then (false, [], 0, checkI x) else if checkI y ≠ 0 then (false, [], 0, checkI y) else if x.ins ≠ y.ins ∨ x.outs ≠ y.outs then (false, [], 0, 5)
  else if !accB x then (false, [], 0, 9) else if 4096 < (fndL x y).length then (false, [], 0, 3) else confG x y
/-- The document's answer. -/
def refConf (x y : Lts) : Int × List Int × Int :=
  match (fndL x y).findIdx? (offC x y) with
  | none => (1, [], 0)
  | some n => (0, wayC x y n, (badC x y ((fndL x y).getD n (rt (rootC x y))).key).getD 0)
theorem candC_rise (x y : Lts) (t : Nat × Nat) : Rise (candC x y t) := by
  unfold Rise candC labs
  rw [List.map_map, List.pairwise_map]
  refine List.Pairwise.imp (fun h => ?_) List.pairwise_lt_range
  simp only [Function.comp]; omega
theorem goC_ok (x y : Lts) (i : Nat) : OkB (rootC x y) (candC x y) okC (goC x y i) := (go_ok (candC_rise x y) i).1
theorem candC_mem {x y : Lts} {t : Nat × Nat} {e : Int × (Nat × Nat)} : e ∈ candC x y t ↔ ∃ l ∈ labs x, e = (l, (aftM x t.1 l, aftM y t.2 l)) := by
  unfold candC
  rw [List.mem_map]
  exact ⟨fun ⟨l, h, e⟩ => ⟨l, h, e.symm⟩, fun ⟨l, h, e⟩ => ⟨l, h, e.symm⟩⟩
theorem wayC_tr {x y : Lts} {u : List Int} {t : Nat × Nat} (h : Way (rootC x y) (candC x y) okC u t) : t = (tr x (begM x) u, tr y (begM y) u) ∧ ∀ l ∈ u, l ∈ labs x := by
  induction h with
  | nil => exact ⟨rfl, fun l hl => by cases hl⟩
  | @snoc u t e hw he ho ih =>
    obtain ⟨l, hl, rfl⟩ := candC_mem.1 he
    obtain ⟨rfl, h2⟩ := ih
    refine ⟨by simp only [tr_snoc], fun z hz => ?_⟩
    rcases List.mem_append.1 hz with hz | hz
    · exact h2 z hz
    · rw [List.mem_singleton.1 hz]; exact hl
theorem tr_way {x y : Lts} (u : List Int) : (∀ l ∈ u, l ∈ labs x) → tr x (begM x) u ≠ 0 → tr y (begM y) u ≠ 0 → Way (rootC x y) (candC x y) okC u (tr x (begM x) u, tr y (begM y) u) := by
  have key : ∀ (n : Nat) (u : List Int), u.length = n → (∀ l ∈ u, l ∈ labs x) → tr x (begM x) u ≠ 0 → tr y (begM y) u ≠ 0 → Way (rootC x y) (candC x y) okC u (tr x (begM x) u, tr y (begM y) u) := fun n => by
    induction n with
    | zero => intro u hu _ _ _; rw [List.length_eq_zero_iff.1 hu]; exact .nil
    | succ n ih =>
      intro u hu hl h1 h2
      have hne : u ≠ [] := fun e => by rw [e] at hu; simp at hu
      have hd := List.dropLast_concat_getLast hne
      generalize u.dropLast = v at *
      generalize u.getLast hne = l at *
      subst hd
      have e1 := tr_snoc x (begM x) v l
      have e2 := tr_snoc y (begM y) v l
      rw [e1] at h1 ⊢
      rw [e2] at h2 ⊢
      have hv1 : tr x (begM x) v ≠ 0 := fun e => h1 (by rw [e, aftM_zero])
      have hv2 : tr y (begM y) v ≠ 0 := fun e => h2 (by rw [e, aftM_zero])
      have hw := ih v (by simpa using hu) (fun z hz => hl z (by simp [hz])) hv1 hv2
      exact Way.snoc (e := (l, (aftM x (tr x (begM x) v) l, aftM y (tr y (begM y) v) l))) hw (candC_mem.2 ⟨l, hl l (by simp), rfl⟩) (by unfold okC; simp [h1, h2])
  exact key _ u rfl
theorem goC_key {x y : Lts} (hx : Good x) (hy : Good y) (i : Nat) {r : Fd (Nat × Nat)} (h : r ∈ goC x y i) : r.key.1 < 2 ^ x.n ∧ r.key.2 < 2 ^ y.n ∧ (r.key.1 ≠ 0 ∧ r.key.2 ≠ 0) := by
  obtain ⟨n, hn⟩ := List.getElem?_of_mem h
  have hok := goC_ok x y i
  have hw := hok.way n r hn
  obtain ⟨e, _⟩ := wayC_tr hw
  refine ⟨by rw [e]; exact tr_lt hx _ (begM_lt hx), by rw [e]; exact tr_lt hy _ (begM_lt hy), ?_⟩
  rcases Nat.eq_zero_or_pos n with h0 | h0
  · subst h0
    rw [hok.first] at hn; cases hn
    exact ⟨sil_ne hx 0, sil_ne hy 0⟩
  · obtain ⟨i, e2, r', _, _, _, h4, rfl⟩ := hok.back n r hn h0
    unfold okC at h4
    simpa [newB] using h4
theorem nodup_bnd {n m : Nat} {l : List (Nat × Nat)} (hd : l.Nodup) (hb : ∀ p ∈ l, p.1 < n ∧ p.2 < m) : l.length ≤ n * m := by
  have h1 : (l.map (fun p => p.1 * m + p.2)).Nodup := by
    refine List.Pairwise.map _ (fun p q hpq => ?_) (hd.imp_of_mem (S := fun p q => p ≠ q ∧ p.2 < m ∧ q.2 < m) (fun {p q} hp hq h => ⟨h, (hb p hp).2, (hb q hq).2⟩))
    obtain ⟨hne, h1, h2⟩ := hpq
    intro e
    have e1 : p.1 = q.1 := by
      rcases Nat.lt_trichotomy p.1 q.1 with h | h | h
      · have := Nat.mul_le_mul_right m h; rw [Nat.succ_mul] at this; omega
      · exact h
      · have := Nat.mul_le_mul_right m h; rw [Nat.succ_mul] at this; omega
    have e2 : p.2 = q.2 := by rw [e1] at e; omega
    exact hne (Prod.ext e1 e2)
  have h2 : ∀ z ∈ l.map (fun p => p.1 * m + p.2), z < n * m := by
    intro z hz
    obtain ⟨p, hp, rfl⟩ := List.mem_map.1 hz
    obtain ⟨h3, h4⟩ := hb p hp
    have := Nat.mul_le_mul_right m h3
    rw [Nat.succ_mul] at this
    omega
  have h3 := List.Nodup.length_le_of_subset h1 (l₂ := List.range (n * m)) (fun z hz => List.mem_range.2 (h2 z hz))
  simpa using h3
theorem goC_len {x y : Lts} (hx : Good x) (hy : Good y) (i : Nat) : (goC x y i).length ≤ 2 ^ x.n * 2 ^ y.n := by
  have := nodup_bnd (goC_ok x y i).nodup (n := 2 ^ x.n) (m := 2 ^ y.n) (fun p hp => by
    obtain ⟨r, hr, rfl⟩ := List.mem_map.1 hp
    have := goC_key hx hy i hr
    exact ⟨this.1, this.2.1⟩)
  simpa using this
theorem goC_small {x y : Lts} (hx : Good x) (hy : Good y) (h5 : x.n ≤ 5) (h5' : y.n ≤ 5) (i : Nat) : (goC x y i).length ≤ 1024 := by
  have h1 := goC_len hx hy i
  have h2 : 2 ^ x.n ≤ 32 := Nat.le_trans (Nat.pow_le_pow_right (by omega) h5) (by decide)
  have h3 : 2 ^ y.n ≤ 32 := Nat.le_trans (Nat.pow_le_pow_right (by omega) h5') (by decide)
  have h4 : 2 ^ x.n * 2 ^ y.n ≤ 32 * 32 := Nat.mul_le_mul h2 h3
  omega

/-! ### What does not conform -/
theorem obsM_iff {x : Lts} {S : Nat} {l : Int} : l ∈ obsM x S ↔ (∃ j : Nat, j ≤ x.O ∧ l = x.ins + (j : Int)) ∧ aftM x S l ≠ 0 := by
  unfold obsM
  rw [List.mem_filter, List.mem_map]
  constructor
  · rintro ⟨⟨j, hj, rfl⟩, h⟩
    exact ⟨⟨j, by have := List.mem_range.1 hj; omega, rfl⟩, by simpa using h⟩
  · rintro ⟨⟨j, hj, rfl⟩, h⟩
    exact ⟨⟨j, List.mem_range.2 (by omega), rfl⟩, by simpa using h⟩
/-- A pair in which something is observed that must not be. -/
def BadP (x y : Lts) (P Q : Nat) : Prop := ∃ l, l ∈ obsM x P ∧ aftM y Q l = 0
theorem badC_iff {x y : Lts} {t : Nat × Nat} : (badC x y t).isSome = true ↔ BadP x y t.1 t.2 := by
  unfold badC BadP
  rw [List.find?_isSome]
  simp
theorem badC_val {x y : Lts} {t : Nat × Nat} {l : Int} (h : badC x y t = some l) : l ∈ obsM x t.1 ∧ aftM y t.2 l = 0 := by
  unfold badC at h
  exact ⟨List.mem_of_find?_eq_some h, by simpa using List.find?_some h⟩
theorem not_nodup {α : Type} {l : List α} (h : ¬ l.Nodup) : ∃ (i j : Nat) (a : α), i < j ∧ l[i]? = some a ∧ l[j]? = some a := by
  refine Classical.byContradiction fun hn => h (List.pairwise_iff_getElem.2 fun i j hi hj hij e => hn ⟨i, j, l[i], hij, List.getElem?_eq_getElem hi, by rw [e]; exact List.getElem?_eq_getElem hj⟩)
/-- **A long trace to what does not conform can be made shorter.** -/
theorem shorten {x y : Lts} (hx : Good x) (hy : Good y) {u : List Int} (hl : ∀ l ∈ u, l ∈ labs x) (hbad : BadP x y (tr x (begM x) u) (tr y (begM y) u)) (hQ : tr y (begM y) u ≠ 0) (hlen : x.n * 2 ^ y.n ≤ u.length) :
    ∃ v : List Int, v.length < u.length ∧ (∀ l ∈ v, l ∈ labs x) ∧ tr x (begM x) v ≠ 0 ∧ tr y (begM y) v ≠ 0 ∧ BadP x y (tr x (begM x) v) (tr y (begM y) v) := by
  obtain ⟨l, hl1, hl2⟩ := hbad
  obtain ⟨hlo, hne⟩ := obsM_iff.1 hl1
  obtain ⟨t, ht⟩ := mask_some hne
  have hPlt := tr_lt hx u (begM_lt hx)
  obtain ⟨s, hs, hst⟩ := (aftM_bit (hx.mask64 hPlt) l t).1 ht
  -- a run to s
  have hrun : ∀ k, k ≤ u.length → ∃ p, (tr x (begM x) (u.take k)).testBit p = true ∧ (tr x (2 ^ p) (u.drop k)).testBit s = true := fun k _ => by
    have h1 : (tr x (tr x (begM x) (u.take k)) (u.drop k)).testBit s = true := by rw [← tr_app, List.take_append_drop]; exact hs
    exact (tr_bit hx (u.drop k) (tr_lt hx _ (begM_lt hx)) s).1 h1
  let f : Nat → Nat := fun k => if h : k ≤ u.length then Classical.choose (hrun k h) else 0
  have hf : ∀ k, k ≤ u.length → (tr x (begM x) (u.take k)).testBit (f k) = true ∧ (tr x (2 ^ f k) (u.drop k)).testBit s = true := fun k hk => by
    have : f k = Classical.choose (hrun k hk) := dif_pos hk
    rw [this]
    exact Classical.choose_spec (hrun k hk)
  let L : List (Nat × Nat) := (List.range (u.length + 1)).map (fun k => (f k, tr y (begM y) (u.take k)))
  have hnd : ¬ L.Nodup := fun hd => by
    have := nodup_bnd hd (n := x.n) (m := 2 ^ y.n) (fun p hp => by
      obtain ⟨k, hk, rfl⟩ := List.mem_map.1 hp
      have hk := List.mem_range.1 hk
      exact ⟨mask_bit (tr_lt hx _ (begM_lt hx)) (hf k (by omega)).1, tr_lt hy _ (begM_lt hy)⟩)
    simp [L] at this
    omega
  obtain ⟨i, j, a, hij, hi, hj⟩ := not_nodup hnd
  have hjl : j < u.length + 1 := by have := (List.getElem?_eq_some_iff.1 hj).1; simpa [L] using this
  have hii : a = (f i, tr y (begM y) (u.take i)) := by
    simp only [L] at hi
    rw [List.getElem?_map, List.getElem?_range (by omega)] at hi
    simpa using hi.symm
  have hjj : a = (f j, tr y (begM y) (u.take j)) := by
    simp only [L] at hj
    rw [List.getElem?_map, List.getElem?_range hjl] at hj
    simpa using hj.symm
  rw [hii] at hjj
  have e1 : f i = f j := congrArg Prod.fst hjj
  have e2 : tr y (begM y) (u.take i) = tr y (begM y) (u.take j) := congrArg Prod.snd hjj
  have hy2 : tr y (begM y) (u.take i ++ u.drop j) = tr y (begM y) u := by
    rw [tr_app, e2, ← tr_app, List.take_append_drop]
  have hx2 : (tr x (begM x) (u.take i ++ u.drop j)).testBit s = true := by
    rw [tr_app]
    exact (tr_bit hx (u.drop j) (tr_lt hx _ (begM_lt hx)) s).2 ⟨f i, (hf i (by omega)).1, by rw [e1]; exact (hf j (by omega)).2⟩
  refine ⟨u.take i ++ u.drop j, ?_, ?_, ?_, by rw [hy2]; exact hQ, ?_⟩
  · rw [List.length_append, List.length_take, List.length_drop]; omega
  · intro z hz
    rcases List.mem_append.1 hz with hz | hz
    · exact hl z (List.mem_of_mem_take hz)
    · exact hl z (List.mem_of_mem_drop hz)
  · intro e; rw [e, Nat.zero_testBit] at hx2; cases hx2
  · rw [hy2]
    refine ⟨l, obsM_iff.2 ⟨hlo, fun e => ?_⟩, hl2⟩
    have h3 := (aftM_bit (hx.mask64 (tr_lt hx (u.take i ++ u.drop j) (begM_lt hx))) l t).2 ⟨s, hx2, hst⟩
    rw [e, Nat.zero_testBit] at h3; cases h3
/-- All that is reached is listed. -/
theorem fndL_all {x y : Lts} (hN : (fndL x y).length ≤ 4096) {u : List Int} {t : Nat × Nat} (h : Way (rootC x y) (candC x y) okC u t) : ∃ (n : Nat) (r : Fd (Nat × Nat)), (fndL x y)[n]? = some r ∧ r.key = t ∧ nle (wayC x y n) u :=
  go_all (candC_rise x y) (capC x) (Nat.le_trans hN (Nat.le_of_eq (capC_eq x).symm)) h
theorem find_first {α : Type} {p : α → Bool} {l : List α} {n : Nat} (h : l.findIdx? p = some n) : ∃ r, l[n]? = some r ∧ p r = true ∧ ∀ (m : Nat) (z : α), m < n → l[m]? = some z → p z = false := by
  obtain ⟨h1, h2, h3⟩ := List.findIdx?_eq_some_iff_getElem.1 h
  refine ⟨l[n], List.getElem?_eq_getElem h1, h2, fun m z hm hz => ?_⟩
  obtain ⟨h4, rfl⟩ := List.getElem?_eq_some_iff.1 hz
  simpa using h3 m hm
theorem find_none {α : Type} {p : α → Bool} {l : List α} (h : l.findIdx? p = none) : ∀ (m : Nat) (z : α), l[m]? = some z → p z = false := fun m z hz => by
  have := List.findIdx?_eq_none_iff.1 h z (List.mem_of_getElem? hz)
  simpa using this
/-- **What does not conform is seen after few observations.** -/
theorem conf_short {x y : Lts} (hx : Good x) (hy : Good y) (hN : (fndL x y).length ≤ 4096) {n : Nat} (h : (fndL x y).findIdx? (offC x y) = some n) : (wayC x y n).length < x.n * 2 ^ y.n := by
  obtain ⟨r, hn, hbad, hfirst⟩ := find_first h
  have hok := goC_ok x y (capC x)
  have hw := hok.way n r hn
  obtain ⟨e, hl⟩ := wayC_tr hw
  have hb := badC_iff.1 hbad
  have hk := goC_key hx hy (capC x) (List.mem_of_getElem? hn)
  refine Classical.byContradiction fun hlen => ?_
  rw [e] at hb hk
  obtain ⟨v, h1, h2, h3, h4, h5⟩ := shorten hx hy hl hb hk.2.2.2 (by show _ ≤ (wayC x y n).length; omega)
  obtain ⟨m, r2, hm, hmk, hle⟩ := fndL_all hN (tr_way v h2 h3 h4)
  have hoff : offC x y r2 = true := badC_iff.2 (by rw [hmk]; exact h5)
  have hlt : m < n := by
    refine Classical.byContradiction fun hge => ?_
    have hle2 := nle_len hle
    have h6 : (wayC x y n).length ≤ (wayC x y m).length := by
      rcases Nat.lt_or_ge n m with hnm | hnm
      · rcases bef_iff.1 (hok.rise m n hnm (List.getElem?_eq_some_iff.1 hm).1) with h7 | h7
        · exact Nat.le_of_lt h7
        · exact Nat.le_of_eq h7.1
      · obtain rfl : n = m := by omega
        exact Nat.le_refl _
    have h1 : v.length < (wayC x y n).length := h1
    omega
  rw [hfirst m r2 hlt hm] at hoff
  cases hoff
theorem wayC_ln {x y : Lts} {n : Nat} {r : Fd (Nat × Nat)} (h : (fndL x y)[n]? = some r) : ((wayC x y n).length : Int) = r.ln := by
  unfold wayC
  rw [wayB_len, fd_get h]
  have := (goC_ok x y (capC x)).ln n r h
  omega
/-- Of small systems Conforms gives the document's answer. -/
theorem conf_small {x y : Lts} (hx : Good x) (hy : Good y) (h5 : x.n ≤ 5) (h5' : y.n ≤ 5) : confG x y = ((refConf x y).1 == 1, (refConf x y).2.1, (refConf x y).2.2, 0) := by
  have hN := goC_small hx hy h5 h5' (capC x)
  unfold confG refConf
  cases hf : (fndL x y).findIdx? (offC x y) with
  | none => rfl
  | some n =>
    obtain ⟨r, hn, _⟩ := find_first hf
    have h1 := conf_short hx hy (Nat.le_trans hN (by omega)) hf
    have h2 := wayC_ln hn
    have h3 : x.n * 2 ^ y.n ≤ 5 * 32 := Nat.mul_le_mul h5 (Nat.le_trans (Nat.pow_le_pow_right (by omega) h5') (by decide))
    simp only
    rw [if_neg (by rw [fd_get hn]; omega)]
    rfl
end Go.Proofs.YtamodjlifpjaoaaDoor

namespace Go.Proofs.YtamodjlifpjaoaaDoor
open Go.RowKit
set_option linter.unusedVariables false
set_option linter.unusedSimpArgs false
def lexA (a : Arc) (k : Nat) (l t : Int) : Prop := a.k < k ∨ a.k = k ∧ (a.l < l ∨ a.l = l ∧ a.t < t)
/-- A row up to (k, l, t). -/
structure RowS (i o n : Int) (f : Bool) (row : List Arc) (k : Nat) (l t : Int) : Prop where
  ok : ∀ a ∈ row, badA i o n a = false
  srt : row.Pairwise (fun a b => ltA a b = true)
  lt : ∀ a ∈ row, lexA a k l t
  full : f = true → ∀ l' : Int, 0 ≤ l' → ((k = 1 ∧ l' < l) ∨ (1 < k ∧ l' < i)) → ∃ a ∈ row, a.k = 1 ∧ a.l = l'
theorem RowS.start (i o n : Int) (f : Bool) : RowS i o n f [] 0 0 0 := ⟨(fun a h => by cases h), .nil, (fun a h => by cases h), (fun _ l' h0 h => by omega)⟩
theorem RowS.skip {i o n : Int} {f : Bool} {row : List Arc} {k : Nat} {l t : Int} (h : RowS i o n f row k l t) (t' : Int) (ht : t ≤ t') : RowS i o n f row k l t' := ⟨h.ok, h.srt, fun a ha => by have := h.lt a ha; unfold lexA at *; omega, h.full⟩
theorem RowS.push {i o n : Int} {f : Bool} {row : List Arc} {k : Nat} {l t : Int} (h : RowS i o n f row k l t) (hk : k ≤ 2) (hl : 0 ≤ l ∧ l < labN i o k) (ht : 0 ≤ t ∧ t < n) : RowS i o n f (row ++ [⟨k, l, t⟩]) k l (t + 1) := by
  refine ⟨fun a ha => ?_, List.pairwise_append.2 ⟨h.srt, List.pairwise_singleton _ _, fun a ha b hb => ?_⟩, fun a ha => ?_, fun hf l' h0 h1 => ?_⟩
  · rcases List.mem_append.1 ha with ha | ha
    · exact h.ok a ha
    · rw [List.mem_singleton.1 ha]; unfold badA; simp; omega
  · rw [List.mem_singleton.1 hb]
    have := h.lt a ha
    unfold ltA lexA at *
    simpa using this
  · rcases List.mem_append.1 ha with ha | ha
    · have := h.lt a ha; unfold lexA at *; omega
    · rw [List.mem_singleton.1 ha]; unfold lexA; simp; omega
  · obtain ⟨a, ha, h2⟩ := h.full hf l' h0 h1
    exact ⟨a, List.mem_append_left _ ha, h2⟩
theorem RowS.label {i o n : Int} {f : Bool} {row : List Arc} {k : Nat} {l t : Int} (h : RowS i o n f row k l t) (hf : f = true → k = 1 → ∃ a ∈ row, a.k = 1 ∧ a.l = l) : RowS i o n f row k (l + 1) 0 := by
  refine ⟨h.ok, h.srt, fun a ha => by have := h.lt a ha; unfold lexA at *; omega, fun hff l' h0 h1 => ?_⟩
  by_cases h2 : k = 1 ∧ l' = l
  · obtain ⟨a, ha, h3⟩ := hf hff h2.1
    exact ⟨a, ha, h3.1, by rw [h3.2, h2.2]⟩
  · exact h.full hff l' h0 (by omega)
theorem RowS.kind {i o n : Int} {f : Bool} {row : List Arc} {k : Nat} {l t : Int} (h : RowS i o n f row k l t) (hl : labN i o k ≤ l) : RowS i o n f row (k + 1) 0 0 := by
  refine ⟨h.ok, h.srt, fun a ha => by have := h.lt a ha; unfold lexA at *; omega, fun hff l' h0 h1 => ?_⟩
  by_cases h2 : k = 1
  · subst h2
    unfold labN at hl
    simp at hl
    exact h.full hff l' h0 (by omega)
  · exact h.full hff l' h0 (by omega)
/-- A row without the new arcs grows by one of its own. -/
theorem RowS.has {i o n : Int} {f : Bool} {row row' : List Arc} {k : Nat} {l t : Int} (h : RowS i o n f row' k l t) (h0 : RowS i o n f row k l 0) (hp : row <+: row') (hlt : row.length < row'.length) (hnew : ∀ a ∈ row'.drop row.length, a.k = k ∧ a.l = l) : ∃ a ∈ row', a.k = k ∧ a.l = l := by
  obtain ⟨tl, rfl⟩ := hp
  rw [List.drop_left] at hnew
  cases tl with
  | nil => simp at hlt
  | cons a tl => exact ⟨a, by simp, hnew a (by simp)⟩
theorem badRow_none {i o n : Int} {r : List Arc} (h1 : ∀ a ∈ r, badA i o n a = false) (h2 : r.Pairwise (fun a b => ltA a b = true)) : badRow i o n r = false := by
  unfold badRow
  rw [List.any_eq_false]
  intro j hj
  have hj := List.mem_range.1 hj
  unfold badAt
  rw [List.getD_eq_getElem?_getD, List.getElem?_eq_getElem hj, Option.getD_some, h1 _ (List.getElem_mem hj), Bool.false_or]
  rcases Nat.eq_zero_or_pos j with h0 | h0
  · subst h0; simp
  · have hj1 : j - 1 < r.length := by omega
    rw [List.getD_eq_getElem?_getD, List.getElem?_eq_getElem hj1, Option.getD_some, List.pairwise_iff_getElem.1 h2 (j - 1) j hj1 hj (by omega)]
    simp
/-- What the systems of B are like. -/
structure BLike (x : Lts) (i o : Nat) (f : Bool) : Prop where
  ins : x.ins = i
  outs : x.outs = o
  good : checkI x = 0
  size : x.n ≤ 5
  full : f = true → ∀ s, s < x.n → ∀ l : Int, 0 ≤ l → l < i → ∃ a ∈ x.arcs s, a.k = 1 ∧ a.l = l
theorem blike_of {i o : Nat} {f : Bool} {rows : List (List Arc)} {N : Nat} (hi : i ≤ 2) (ho : o ≤ 2) (hN : 1 ≤ N ∧ N ≤ 5) (hl : rows.length = N) (hr : ∀ r ∈ rows, r.length ≤ 256 ∧ RowS i o N f r 3 0 0) : BLike ⟨i, o, rows⟩ i o f := by
  refine ⟨rfl, rfl, ?_, by unfold Lts.n; simp only; omega, fun hf s hs l h0 h1 => ?_⟩
  · have hb : bigX ⟨(i : Int), (o : Int), rows⟩ = false := by
      unfold bigX
      rw [Bool.or_eq_false_iff]
      refine ⟨decide_eq_false (by simp only; omega), ?_⟩
      rw [List.any_eq_false]
      intro r hr'
      have := (hr r hr').1
      simp; omega
    unfold checkI
    rw [hb, if_neg (by simp), if_neg (by simp only; omega), if_neg]
    rw [Bool.not_eq_true, List.any_eq_false]
    intro r hr'
    have := (hr r hr').2
    rw [Bool.not_eq_true]
    refine badRow_none (fun a ha => ?_) this.srt
    rw [show ((⟨(i : Int), (o : Int), rows⟩ : Lts).rows.length : Int) = (N : Int) by simp only [hl]]
    exact this.ok a ha
  · have hs' : s < rows.length := hs
    have h2 := (hr _ (List.getElem_mem hs')).2.full hf l h0 (.inr ⟨by omega, h1⟩)
    rw [arcs_eq (x := ⟨(i : Int), (o : Int), rows⟩) hs']
    exact h2
/-- Systems in which all inputs are possible. -/
theorem BLike.acc {x : Lts} {i o : Nat} (h : BLike x i o true) : accB x = true := by
  have hg := check_good h.good
  have hI : x.I = i := by unfold Lts.I; rw [h.ins]; omega
  unfold accB
  rw [List.all_eq_true]
  intro s hs
  rw [List.all_eq_true]
  intro j hj
  have hj := List.mem_range.1 hj
  have hsn : s < x.n := by
    have h2 := (mem_bit hs).2
    unfold reachM at h2
    obtain ⟨s0, hs0, hp⟩ := (cloM_bit x anyArc 1 hg.to_lt s).1 h2
    have h01 : (2 ^ 0).testBit s0 = true := hs0
    rw [bit_one] at h01
    have h0 := of_decide_eq_true h01
    exact hp.lt hg (by have := hg.nn; omega)
  obtain ⟨a, ha, hk, hl⟩ := h.full rfl s hsn (j : Int) (by omega) (by omega)
  rw [bne_iff_ne]
  intro e
  have hne : (j : Int) ≠ x.ins + x.outs := by have := h.ins; have := hg.outs; omega
  have h3 : (aftM x (sil x s) (j : Int)).testBit a.to = true := by
    unfold aftM
    rw [if_neg hne]
    refine (aftL_bit x _ _ _).2 ⟨s, (mem_iff (hg.mask64 (sil_lt hg hsn))).2 (sil_self hg s), a, ha, ?_, sil_self hg a.to⟩
    unfold hit
    simp [hk, hl]
  rw [e, Nat.zero_testBit] at h3
  cases h3
end Go.Proofs.YtamodjlifpjaoaaDoor

namespace Go.Proofs.YtamodjlifpjaoaaDoor
open Go.RowKit
set_option linter.unusedVariables false
set_option linter.unusedSimpArgs false

structure Nd where
  act : Int
  next : List Int
deriving DecidableEq
def obsLabs (x : Lts) : List Int := (List.range (x.O + 1)).map (fun (j : Nat) => x.ins + (j : Int))
def labsOf (x : Lts) (a : Int) : List Int := if a = -1 then obsLabs x else [a]
def subT (x : Lts) (rec : Nat → Nat → List Nd) (S f : Nat) (l : Int) : List Nd := if aftM x S l = 0 then [⟨-3, []⟩] else rec (aftM x S l) f
def kidB (x : Lts) (rec : Nat → Nat → List Nd) (S f : Nat) (k : List Int × List Nd) (l : Int) : List Int × List Nd :=
  (k.1 ++ [((f + 1 + k.2.length : Nat) : Int)], k.2 ++ subT x rec S (f + 1 + k.2.length) l)
def kidsT (x : Lts) (rec : Nat → Nat → List Nd) (S f : Nat) (ls : List Int) : List Int × List Nd := ls.foldl (kidB x rec S f) ([], [])
/-- The test of a plan, in the states S, its first node of number f. -/
def mkT (x : Lts) : List Int → Nat → Nat → List Nd
  | [], _, _ => [⟨-2, []⟩]
  | a :: p, S, f => if a ≠ -1 ∧ aftM x S a = 0 then mkT x p S f else ⟨a, (kidsT x (mkT x p) S f (labsOf x a)).1⟩ :: (kidsT x (mkT x p) S f (labsOf x a)).2
theorem mkT_skip {x : Lts} {a : Int} {p : List Int} {S f : Nat} (h1 : a ≠ -1) (h2 : aftM x S a = 0) : mkT x (a :: p) S f = mkT x p S f := by
  show (if _ then _ else _) = _; rw [if_pos ⟨h1, h2⟩]
theorem mkT_node {x : Lts} {a : Int} {p : List Int} {S f : Nat} (h : a = -1 ∨ aftM x S a ≠ 0) : mkT x (a :: p) S f = ⟨a, (kidsT x (mkT x p) S f (labsOf x a)).1⟩ :: (kidsT x (mkT x p) S f (labsOf x a)).2 := by
  show (if _ then _ else _) = _; rw [if_neg (fun h2 => h.elim (fun e => h2.1 e) (fun e => e h2.2))]
theorem mkT_pos (x : Lts) : ∀ (p : List Int) (S f : Nat), 1 ≤ (mkT x p S f).length
  | [], _, _ => by simp [mkT]
  | a :: p, S, f => by
    by_cases h : a ≠ -1 ∧ aftM x S a = 0
    · rw [mkT_skip h.1 h.2]; exact mkT_pos x p S f
    · rw [mkT_node (by rcases Classical.em (a = -1) with h1 | h1; exact .inl h1; exact .inr fun e => h ⟨h1, e⟩)]; simp
section
variable (x : Lts) (rec : Nat → Nat → List Nd) (S f : Nat)
theorem kidsT_nil : kidsT x rec S f [] = ([], []) := rfl
theorem kidsT_snoc (ls : List Int) (l : Int) : kidsT x rec S f (ls ++ [l]) = kidB x rec S f (kidsT x rec S f ls) l := by unfold kidsT; rw [List.foldl_append]; rfl
theorem kidsT_take {ls : List Int} {i : Nat} {l : Int} (h : ls[i]? = some l) : kidsT x rec S f (ls.take (i + 1)) = kidB x rec S f (kidsT x rec S f (ls.take i)) l := by
  rw [show ls.take (i + 1) = ls.take i ++ [l] by rw [List.take_add_one, h]; rfl, kidsT_snoc]
theorem kidB_len (k : List Int × List Nd) (l : Int) : (kidB x rec S f k l).1.length = k.1.length + 1 := by unfold kidB; simp
theorem kidB_le (k : List Int × List Nd) (l : Int) : k.2.length ≤ (kidB x rec S f k l).2.length := by unfold kidB; simp
theorem fold_le : ∀ (ls : List Int) (k : List Int × List Nd), k.2.length ≤ (ls.foldl (kidB x rec S f) k).2.length
  | [], k => Nat.le_refl _
  | l :: ls, k => Nat.le_trans (kidB_le x rec S f k l) (fold_le ls _)
theorem kidsT_mono (ls : List Int) (i : Nat) : (kidsT x rec S f (ls.take i)).2.length ≤ (kidsT x rec S f ls).2.length := by
  have h : kidsT x rec S f ls = (ls.drop i).foldl (kidB x rec S f) (kidsT x rec S f (ls.take i)) := by unfold kidsT; rw [← List.foldl_append, List.take_append_drop]
  rw [h]; exact fold_le x rec S f _ _
theorem fold_len : ∀ (ls : List Int) (k : List Int × List Nd), (ls.foldl (kidB x rec S f) k).1.length = k.1.length + ls.length
  | [], k => rfl
  | l :: ls, k => by rw [List.foldl_cons, fold_len ls, kidB_len, List.length_cons]; omega
theorem kidsT_len (ls : List Int) : (kidsT x rec S f ls).1.length = ls.length := by unfold kidsT; rw [fold_len]; simp
end
theorem mkT_len {x : Lts} {a : Int} {p : List Int} {S f : Nat} (h : a = -1 ∨ aftM x S a ≠ 0) (i : Nat) : 1 + (kidsT x (mkT x p) S f ((labsOf x a).take i)).2.length ≤ (mkT x (a :: p) S f).length := by
  rw [mkT_node h, List.length_cons]
  have := kidsT_mono x (mkT x p) S f (labsOf x a) i
  omega
theorem labsOf_len {x : Lts} (hg : Good x) (a : Int) : 1 ≤ (labsOf x a).length ∧ (labsOf x a).length ≤ 17 := by
  unfold labsOf obsLabs
  have := hg.OO.2
  split <;> simp <;> omega
theorem labsOf_in {x : Lts} (hg : Good x) {a : Int} (ha : a = -1 ∨ 0 ≤ a ∧ a < x.ins) : ∀ l ∈ labsOf x a, 0 ≤ l ∧ l ≤ x.ins + x.outs := by
  intro l hl
  have h1 := hg.ins
  have h2 := hg.outs
  have h3 := hg.OO.1
  unfold labsOf at hl
  split at hl
  · unfold obsLabs at hl
    obtain ⟨j, hj, rfl⟩ := List.mem_map.1 hl
    have := List.mem_range.1 hj
    omega
  · rw [List.mem_singleton.1 hl]; omega
/-- Which plans are valid. -/
def okPlan (x : Lts) (p : List Int) : Prop := ∀ a ∈ p, a = -1 ∨ 0 ≤ a ∧ a < x.ins
end Go.Proofs.YtamodjlifpjaoaaDoor

namespace Go.Proofs.YtamodjlifpjaoaaDoor
open Go.RowKit
set_option linter.unusedVariables false
set_option linter.unusedSimpArgs false
def nd0 : Nd := ⟨0, []⟩
def ndAt (L : List Nd) (k : Nat) : Nd := L.getD k nd0
theorem ndAt_get {L : List Nd} {k : Nat} {nd : Nd} (h : L[k]? = some nd) : ndAt L k = nd := by unfold ndAt; rw [List.getD_eq_getElem?_getD, h]; rfl
theorem ndAt_none {L : List Nd} {k : Nat} (h : L.length ≤ k) : ndAt L k = nd0 := by unfold ndAt; rw [List.getD_eq_getElem?_getD, List.getElem?_eq_none h]; rfl
def manyOk (i o : Int) (nd : Nd) : Bool :=
  if nd.act = -1 then decide ((nd.next.length : Int) = o + 1) else if 0 ≤ nd.act ∧ nd.act < i then decide ((nd.next.length : Int) = 1)
  else if nd.act = -2 ∨ nd.act = -3 then decide ((nd.next.length : Int) = 0) else false
def offN (N k : Nat) (t : Int) : Bool := decide (t ≤ (k : Int)) || decide ((N : Int) ≤ t)
def okNd (i o : Int) (N k : Nat) (nd : Nd) : Bool := manyOk i o nd && !(nd.next.any (offN N k))
def rightB (i o : Int) (L : List Nd) : Bool := (List.range L.length).all (fun k => okNd i o L.length k (ndAt L k)) && decide (0 < L.length)
/-- What a valid test is like. -/
structure RightT (i o : Int) (L : List Nd) : Prop where
  pos : 0 < L.length
  many : ∀ (k : Nat) (nd : Nd), L[k]? = some nd → manyOk i o nd = true
  next : ∀ (k : Nat) (nd : Nd), L[k]? = some nd → ∀ t ∈ nd.next, (k : Int) < t ∧ t < (L.length : Int)
theorem right_of {i o : Int} {L : List Nd} (h : rightB i o L = true) : RightT i o L := by
  unfold rightB at h
  rw [Bool.and_eq_true, List.all_eq_true, decide_eq_true_eq] at h
  have key : ∀ (k : Nat) (nd : Nd), L[k]? = some nd → manyOk i o nd = true ∧ ∀ t ∈ nd.next, (k : Int) < t ∧ t < (L.length : Int) := fun k nd hk => by
    have h1 := h.1 k (List.mem_range.2 (List.getElem?_eq_some_iff.1 hk).1)
    rw [ndAt_get hk] at h1
    unfold okNd at h1
    rw [Bool.and_eq_true] at h1
    refine ⟨h1.1, fun t ht => ?_⟩
    have h2 : nd.next.any (offN L.length k) = false := by simpa using h1.2
    have h3 := List.any_eq_false.1 h2 t ht
    unfold offN at h3
    simp only [Bool.or_eq_true, decide_eq_true_eq, not_or] at h3
    omega
  exact ⟨h.2, fun k nd hk => (key k nd hk).1, fun k nd hk => (key k nd hk).2⟩
/-- The label of the i-th of what follows. -/
def labV (x : Lts) (nd : Nd) (i : Nat) : Int := if nd.act = -1 then x.ins + (i : Int) else nd.act
def candAt (x : Lts) (nd : Nd) (S i : Nat) : Int × (Nat × Nat) := (labV x nd i, ((nd.next.getD i 0).toNat, aftM x S (labV x nd i)))
def candV (x : Lts) (L : List Nd) (t : Nat × Nat) : List (Int × (Nat × Nat)) := (List.range (ndAt L t.1).next.length).map (candAt x (ndAt L t.1) t.2)
def okV (t : Nat × Nat) : Bool := t.2 != 0
def rootV (x : Lts) : Nat × Nat := (0, begM x)
def goV (x : Lts) (L : List Nd) (i : Nat) : List (Fd (Nat × Nat)) := goB (rootV x) (candV x L) okV i
def capV (x : Lts) : Nat := 32768 + (x.n - x.n)
theorem capV_eq (x : Lts) : capV x = 32768 := by unfold capV; omega
def fndV (x : Lts) (L : List Nd) : List (Fd (Nat × Nat)) := goV x L (capV x)
def wayV (x : Lts) (L : List Nd) (n : Nat) : List Int := wayB (rootV x) (fndV x L) n
def failB (L : List Nd) (r : Fd (Nat × Nat)) : Bool := (ndAt L r.key.1).act == -3
def verdG (x : Lts) (L : List Nd) : Bool × List Int := match (fndV x L).findIdx? (failB L) with | none => (true, []) | some n => (false, wayV x L n)
def verdT (x : Lts) (L : List Nd) : Bool × List Int × Int := ((verdG x L).1, (verdG x L).2, 0)
def verdR (x : Lts) (L : List Nd) : Bool × List Int × Int :=
  if checkI x ≠ 0 then (false, [], checkI x) else if 1024 < L.length then (false, [], 3) else if !rightB x.ins x.outs L then (false, [], 1) else if !accB x then (false, [], 9) else verdT x L
theorem many_one {i o : Int} {nd : Nd} (h : manyOk i o nd = true) (ha : nd.act ≠ -1) : nd.next.length ≤ 1 := by
  unfold manyOk at h
  rw [if_neg ha] at h
  split at h
  · have := of_decide_eq_true h; omega
  · split at h
    · have := of_decide_eq_true h; omega
    · cases h
theorem candV_rise {x : Lts} {L : List Nd} (h : RightT x.ins x.outs L) (t : Nat × Nat) : Rise (candV x L t) := by
  unfold Rise candV
  rw [List.pairwise_map]
  by_cases hk : t.1 < L.length
  · have hm := h.many t.1 _ (List.getElem?_eq_getElem hk)
    rw [← ndAt_get (List.getElem?_eq_getElem hk)] at hm
    generalize ndAt L t.1 = nd at *
    by_cases ha : nd.act = -1
    · refine List.Pairwise.imp (fun {a b} hab => ?_) List.pairwise_lt_range
      unfold candAt labV
      rw [if_pos ha, if_pos ha]
      simp only; omega
    · have h1 := many_one hm ha
      match hl : nd.next.length, h1 with
      | 0, _ => simp
      | 1, _ => simp [List.range_succ]
  · rw [ndAt_none (by omega)]; simp [nd0]
theorem candV_mem {x : Lts} {L : List Nd} {t : Nat × Nat} {e : Int × (Nat × Nat)} : e ∈ candV x L t ↔ ∃ i, i < (ndAt L t.1).next.length ∧ e = candAt x (ndAt L t.1) t.2 i := by
  unfold candV
  rw [List.mem_map]
  exact ⟨fun ⟨i, hi, e⟩ => ⟨i, List.mem_range.1 hi, e.symm⟩, fun ⟨i, hi, e⟩ => ⟨i, List.mem_range.2 hi, e.symm⟩⟩
theorem goV_ok {x : Lts} {L : List Nd} (h : RightT x.ins x.outs L) (i : Nat) : OkB (rootV x) (candV x L) okV (goV x L i) := (go_ok (candV_rise h) i).1
/-- Where the places lie. -/
theorem goV_key {x : Lts} (hx : Good x) {L : List Nd} (h : RightT x.ins x.outs L) (i : Nat) {n : Nat} {r : Fd (Nat × Nat)} (hr : (goV x L i)[n]? = some r) : r.key.1 < L.length ∧ r.key.2 < 2 ^ x.n ∧ r.key.2 ≠ 0 ∧ (0 < n → 0 < r.key.1) := by
  have hok := goV_ok h i
  have key : ∀ n, ∀ r, (goV x L i)[n]? = some r → r.key.1 < L.length ∧ r.key.2 < 2 ^ x.n ∧ r.key.2 ≠ 0 ∧ (0 < n → 0 < r.key.1) := fun n => by
    induction n using Nat.strongRecOn with
    | ind n ih =>
      intro r hr
      rcases Nat.eq_zero_or_pos n with h0 | h0
      · subst h0
        rw [hok.first] at hr; cases hr
        exact ⟨h.pos, begM_lt hx, sil_ne hx 0, fun h => absurd h (by omega)⟩
      · obtain ⟨j, e, r', hj, hr', he, ho, rfl⟩ := hok.back n r hr h0
        obtain ⟨k, hk, rfl⟩ := candV_mem.1 he
        have h1 := ih j hj r' hr'
        have hnd := List.getElem?_eq_getElem h1.1
        rw [ndAt_get hnd] at hk ⊢
        have hgt : (L[r'.key.1].next.getD k 0) ∈ L[r'.key.1].next := by rw [List.getD_eq_getElem?_getD, List.getElem?_eq_getElem hk]; exact List.getElem_mem hk
        have h2 := h.next _ _ hnd _ hgt
        unfold okV at ho
        rw [ndAt_get hnd] at ho
        show ((L[r'.key.1].next.getD k 0).toNat < L.length ∧ aftM x r'.key.2 _ < 2 ^ x.n ∧ aftM x r'.key.2 _ ≠ 0 ∧ (0 < n → 0 < (L[r'.key.1].next.getD k 0).toNat))
        refine ⟨by omega, aftM_lt hx h1.2.1 _, by simpa [candAt] using ho, fun _ => by omega⟩
  exact key n r hr
theorem goV_len {x : Lts} (hx : Good x) {L : List Nd} (h : RightT x.ins x.outs L) (i : Nat) : (goV x L i).length ≤ L.length * 2 ^ x.n := by
  have := nodup_bnd (goV_ok h i).nodup (n := L.length) (m := 2 ^ x.n) (fun p hp => by
    obtain ⟨r, hr, rfl⟩ := List.mem_map.1 hp
    obtain ⟨n, hn⟩ := List.getElem?_of_mem hr
    have := goV_key hx h i hn
    exact ⟨this.1, this.2.1⟩)
  simpa using this
theorem goV_small {x : Lts} (hx : Good x) {L : List Nd} (h : RightT x.ins x.outs L) (h5 : x.n ≤ 5) (hL : L.length ≤ 1024) (i : Nat) : (goV x L i).length ≤ 32768 := by
  have h1 := goV_len hx h i
  have h2 : 2 ^ x.n ≤ 32 := Nat.le_trans (Nat.pow_le_pow_right (by omega) h5) (by decide)
  have h3 : L.length * 2 ^ x.n ≤ 1024 * 32 := Nat.mul_le_mul hL h2
  omega
theorem verdG_none {x : Lts} {L : List Nd} (h : ∀ (m : Nat) (z : Fd (Nat × Nat)), (fndV x L)[m]? = some z → failB L z = false) : verdG x L = (true, []) := by
  unfold verdG
  have : (fndV x L).findIdx? (failB L) = none := by
    rw [List.findIdx?_eq_none_iff]
    intro z hz
    obtain ⟨m, hm⟩ := List.getElem?_of_mem hz
    exact h m z hm
  rw [this]
theorem verdG_some {x : Lts} {L : List Nd} {n : Nat} {r : Fd (Nat × Nat)} (hn : (fndV x L)[n]? = some r) (hb : failB L r = true) (h : ∀ (m : Nat) (z : Fd (Nat × Nat)), m < n → (fndV x L)[m]? = some z → failB L z = false) : verdG x L = (false, wayV x L n) := by
  unfold verdG
  have : (fndV x L).findIdx? (failB L) = some n := by
    rw [List.findIdx?_eq_some_iff_getElem]
    obtain ⟨h1, h2⟩ := List.getElem?_eq_some_iff.1 hn
    refine ⟨h1, by rw [h2]; exact hb, fun j hj => ?_⟩
    rw [h j _ hj (List.getElem?_eq_getElem (by omega))]; simp
  rw [this]
end Go.Proofs.YtamodjlifpjaoaaDoor

namespace Go.Proofs.YtamodjlifpjaoaaDoor
open Go.RowKit
set_option linter.unusedVariables false
set_option linter.unusedSimpArgs false
attribute [local go_sem] Oper.quietV quietV Oper.gives givesV ext_refl_iff ext_alloc_iff ext_drew_iff ext_drewN_iff
/-- v shows xs in a block of its own, wherever it begins there. -/
def Win (B e : Nat) (v : Value) (xs : List Value) (w : World) : Prop :=
  ∃ g off cap cur, v = .slice (some ⟨g, off, none⟩) xs.length cap ∧ B ≤ g ∧ w.heap[g]? = some (.cells cur e (0, 0)) ∧ xs.length ≤ cap ∧ off + cap ≤ cur.size ∧ cap ≤ maxLen ∧ ∀ (j : Nat) (u : Value), xs[j]? = some u → cur[off + j]? = some u
def winA (B e : Nat) (v : Value) (xs : List Value) : Asn := .any (fun b => v.ownBlock = some b) (Win B e v xs)
theorem win_ok {B e : Nat} {v : Value} {xs : List Value} {w : World} (h : Win B e v xs w) : (winA B e v xs).ok B w := by
  obtain ⟨g, off, cap, cur, rfl, hB, hg, r⟩ := h
  refine ⟨fun b hb => ?_, fun w' hw' => ⟨g, off, cap, cur, rfl, hB, (hw' g rfl).trans hg, r⟩⟩
  cases hb
  exact ⟨hB, lt_of_block hg⟩
theorem Win.cell {B e : Nat} {v : Value} {xs : List Value} {w : World} (h : Win B e v xs w) {j : Nat} {u : Value} (hj : xs[j]? = some u) : ∃ g off cap, v = .slice (some ⟨g, off, none⟩) xs.length cap ∧ w.cell? ⟨g, off + j, none⟩ = some u := by
  obtain ⟨g, off, cap, cur, hv, _, hg, _, _, _, hc⟩ := h
  exact ⟨g, off, cap, hv, cell_of_blk hg _ (hc j u hj)⟩
theorem win_new {w : World} {B e n : Nat} (xs : List Value) (hn : xs.length = n) (hB : B ≤ w.heap.size) (hm : n ≤ maxLen) : Win B e (.slice (some ⟨w.heap.size, 0, none⟩) n n) xs (w.alloc (.cells xs.toArray e)) := by
  subst hn
  exact ⟨w.heap.size, 0, xs.length, xs.toArray, rfl, hB, heap_alloc_new w _, Nat.le_refl _, by simp, hm, fun j u hj => by simpa using hj⟩
/-- The front is cut off. -/
theorem Win.tail {B e : Nat} {g off cap : Nat} {x : Value} {xs : List Value} {w : World} (h : Win B e (.slice (some ⟨g, off, none⟩) (xs.length + 1) cap) (x :: xs) w) :
    Win B e (.slice (if cap = 1 then some ⟨g, off, none⟩ else some ⟨g, off + 1, none⟩) xs.length (cap - 1)) xs w := by
  obtain ⟨g', off', cap', cur, hv, hB, hg, hle, hfit, hm, hc⟩ := h
  cases hv
  simp only [List.length_cons] at hle
  by_cases h1 : cap = 1
  · subst h1
    rw [if_pos rfl]
    refine ⟨g, off, 0, cur, rfl, hB, hg, by omega, by omega, by omega, fun j u hj => ?_⟩
    have := (List.getElem?_eq_some_iff.1 hj).1
    omega
  · rw [if_neg h1]
    refine ⟨g, off + 1, cap - 1, cur, rfl, hB, hg, by omega, by omega, by omega, fun j u hj => ?_⟩
    have := hc (j + 1) u (by simpa using hj)
    rw [show off + 1 + j = off + (j + 1) by omega]; exact this
section
variable {P : Program} {w : World}
theorem run_append_win (B : Nat) (t ty e : TypeId) (i : TypeInfo) (z : Value) (bytes : Nat) (ht : P.underlying t = some (.slice e)) (hi : P.info? e = some i) (hz : i.zero = some z) (hsize : i.size = 1) (hby : i.bytes = bytes) (hzs : z.cells = #[z])
    (v : Value) (xs : List Value) (y : Value) (hown : Win B e v xs w) (ad : Addr) (c : Nat) (hnew : w.cell? ad = some y) (h1 : y.oneCell' = true) (h63 : xs.length + 1 ≤ maxLen) (hbytes : (xs.length + 1) * bytes ≤ 140737488355328) :
    ∃ v' w', (Builtin.append_ #[t, t] ty #[v, .slice (some ad) 1 c]).run P w = .ok v' w' ∧ Win B e v' (xs ++ [y]) w' ∧ w.grownBy w' v.ownBlock ∧ (∀ b, v'.ownBlock = some b → v.ownBlock = some b ∨ w.heap.size ≤ b) := by
  obtain ⟨g, off, cap, cur, rfl, hB, hg, hle, hfit, hm, hc⟩ := hown
  have hsrc : Src P i.size t (.slice (some ad) 1 c) 1 [y] w := Src.ofSlice w ht ad 1 c [y] (by rw [hsize]; rfl) (fun j u hj => by
    match j, hj with
    | 0, hj => simp at hj; subst hj; simpa [Addr.add] using hnew) (fun u hu => by rw [List.mem_singleton.1 hu]; exact h1)
  by_cases hroom : xs.length + 1 ≤ cap
  · have hcell : ∀ j, j < [y].length → (w.cell? ⟨g, off + xs.length * i.size + j, none⟩).isSome = true := fun j hj => by
      simp at hj; subst hj
      rw [hsize, Nat.mul_one, Nat.add_zero]
      have hlt : off + xs.length < cur.size := by omega
      rw [cell_of_blk hg _ (Array.getElem?_eq_getElem hlt)]; rfl
    have hfree : ∀ j, j < [y].length → w.frozen? ⟨g, off + xs.length * i.size + j, none⟩ = false := fun j _ => free_of_blk hg _
    have hr := run_append_room_src (P := P) w t t ty e i ht hi g off xs.length cap _ 1 [y] hsrc hroom hcell hfree
    rw [hsize, Nat.mul_one] at hr
    obtain ⟨h2, h3⟩ := setCells_blk g e [y] (off + xs.length) w cur hg
    refine ⟨_, _, hr, ⟨g, off, cap, _, by simp, hB, h2, by simpa using hroom, ?_, hm, fun j u hj => ?_⟩, h3, fun b hb => .inl hb⟩
    · show off + cap ≤ (cur.setIfInBounds (off + xs.length) y).size
      simpa using hfit
    · show (cur.setIfInBounds (off + xs.length) y)[off + j]? = some u
      have hjl := (List.getElem?_eq_some_iff.1 hj).1
      simp at hjl
      by_cases hjx : j = xs.length
      · subst hjx
        rw [List.getElem?_append_right (Nat.le_refl _), Nat.sub_self] at hj
        cases hj
        rw [Array.getElem?_setIfInBounds_self, if_pos (by omega)]
      · rw [List.getElem?_append_left (by omega)] at hj
        rw [Array.getElem?_setIfInBounds_ne (by omega)]
        exact hc j u hj
  · have hold : (Builtin.firstCells i.size xs.length (.slice (some ⟨g, off, none⟩) xs.length cap)).run P w.drew = .ok xs.toArray w.drew := by
      refine run_firstCells_some w.drew i.size xs.length ⟨g, off, none⟩ xs.length cap xs (by rw [hsize, Nat.mul_one]) (fun j u hj => ?_)
      rw [Addr.add_lit]
      have := cell_of_blk hg _ (hc j u hj)
      simpa using this
    have hr := run_append_grow_src (P := P) w t t ty e i z ht hi hz (some ⟨g, off, none⟩) xs.length cap xs hold _ 1 [y] hsrc (by omega) (by unfold maxLen at h63; omega) (growslice_fits (by omega) (by rw [hby]; exact hbytes))
    have hge := grownCap_ge w (xs.length + 1) cap e
    refine ⟨_, _, hr, ⟨w.heap.size, 0, _, _, by simp, Nat.le_trans hB (Nat.le_of_lt (lt_of_block hg)), heap_alloc_new w.drew _, by simpa using hge, ?_, grownCap_le_maxLen w _ cap e h63, fun j u hj => ?_⟩, ⟨rfl, rfl, rfl, by simp, fun k hk _ => ((drew_ext w).trans (alloc_ext w.drew _)).block k hk⟩, fun b hb => by cases hb; exact .inr (Nat.le_refl _)⟩
    · simp only [Array.size_append, List.size_toArray, size_zeroCells, hzs, List.length_append, List.length_singleton, Nat.zero_add]
      simp
      omega
    · rw [Nat.zero_add, Array.getElem?_append_left (by have := (List.getElem?_eq_some_iff.1 hj).1; simpa using this)]
      simpa using hj
theorem wpList_append_win {ops : Array Oper} {rest : List Oper} {o : Oper} {a : Act} {Q : Exit → Act → World → Prop} (hgd : o.guard = none) (s x : Operand) (t : TypeId)
    (ho : o.op = .call { callee := .builtin .append, args := #[s, x], argTypes := #[t, t] })
    (B : Nat) (e : TypeId) (i : TypeInfo) (z : Value) (bytes : Nat) (ht : P.underlying t = some (.slice e)) (hi : P.info? e = some i) (hz : i.zero = some z) (hsize : i.size = 1) (hby : i.bytes = bytes) (hzs : z.cells = #[z])
    (v : Value) (xs : List Value) (y : Value) (hs : a.eval s = v) (hown : Win B e v xs w) (ad : Addr) (c : Nat) (hx : a.eval x = .slice (some ad) 1 c) (hnew : w.cell? ad = some y) (h1 : y.oneCell' = true) (h63 : xs.length + 1 ≤ maxLen) (hbytes : (xs.length + 1) * bytes ≤ 140737488355328)
    (h : ∀ v' w', Win B e v' (xs ++ [y]) w' → w.grownBy w' v.ownBlock → (∀ b, v'.ownBlock = some b → v.ownBlock = some b ∨ w.heap.size ≤ b) → wpList P ops Q rest (a.put o.dst v') w') : wpList P ops Q (o :: rest) a w := by
  refine wpList_plain hgd fun K hK => ?_
  obtain ⟨v', w', hr, h2, h3, h4⟩ := run_append_win (P := P) (w := w) B t o.type e i z bytes ht hi hz hsize hby hzs v xs y hown ad c hnew h1 h63 hbytes
  unfold Oper.wp execOp
  simp only [ho, resolve, invoke, builtin, Sem.run_bind, Sem.run_pure, Result.andThen_ok, List.map_toArray, List.map_cons, List.map_nil, hs, hx, hr]
  exact hK _ _ (h v' w' h2 h3 h4)
end
theorem Win.of {B e : Nat} {v : Value} {xs : List Value} {w w' : World} (h : Win B e v xs w) (hb : ∀ b, v.ownBlock = some b → w'.heap[b]? = w.heap[b]?) : Win B e v xs w' := by
  obtain ⟨g, off, cap, cur, rfl, hB, hg, r⟩ := h
  exact ⟨g, off, cap, cur, rfl, hB, (hb g rfl).trans hg, r⟩
theorem OwnL.win {w W : World} {L : List Asn} (h : OwnL w W L) (k : Nat) {e : Nat} {v : Value} {xs : List Value} (hk : L[k]? = some (winA w.heap.size e v xs)) : Win w.heap.size e v xs W := (h.get k hk).2 W (fun _ _ => rfl)
/-- A new queue. -/
theorem OwnL.winNew {w W : World} {L : List Asn} (h : OwnL w W L) (e n : Nat) (xs : List Value) (hn : xs.length = n) (hm : n ≤ maxLen) : OwnL w (W.alloc (.cells xs.toArray e)) (winA w.heap.size e (.slice (some ⟨W.heap.size, 0, none⟩) n n) xs :: L) := by
  have h1 := win_new (w := W) (B := w.heap.size) (e := e) xs hn h.ext.size hm
  refine h.add (alloc_ext W _) (A := winA w.heap.size e (.slice (some ⟨W.heap.size, 0, none⟩) n n) xs) ⟨fun b hb => ?_, (win_ok h1).2⟩
  have := (win_ok h1).1 b hb
  cases hb
  exact ⟨Nat.le_refl _, this.2⟩
def wV (l : List Nat) : List Value := l.map (fun (s : Nat) => Value.int .i64 s)
theorem wV_len (l : List Nat) : (wV l).length = l.length := by unfold wV; simp
theorem OwnL.queue {w W : World} {L : List Asn} (h : OwnL w W L) (k : Nat) {e : Nat} {v : Value} {ws : List Nat} (hk : L[k]? = some (winA w.heap.size e v (wV ws))) :
    ∃ g off cap, v = .slice (some ⟨g, off, none⟩) ws.length cap ∧ ws.length ≤ cap ∧ cap ≤ 9223372036854775807 ∧ ∀ (j s : Nat), ws[j]? = some s → W.cell? ⟨g, off + j, none⟩ = some (.int .i64 s) := by
  obtain ⟨g, off, cap, cur, hv, _, hg, hle, _, hm, hc⟩ := h.win k hk
  rw [wV_len] at hv hle
  unfold maxLen at hm
  exact ⟨g, off, cap, hv, hle, hm, fun j s hj => cell_of_blk hg _ (hc j _ (by unfold wV; rw [List.getElem?_map, hj]; rfl))⟩
/-- The queue has grown. -/
theorem OwnL.winApp {w W W' : World} {L : List Asn} (h : OwnL w W L) (k : Nat) {e : Nat} {v v' : Value} {xs xs' : List Value} (hk : L[k]? = some (winA w.heap.size e v xs)) (hg : W.grownBy W' v.ownBlock) (ho : Win w.heap.size e v' xs' W')
    (hb : ∀ b, v'.ownBlock = some b → v.ownBlock = some b ∨ W.heap.size ≤ b) : OwnL w W' (L.set k (winA w.heap.size e v' xs')) :=
  h.step k hk hg (fun b hb => hb) (win_ok ho) hb
/-- The queue's front is cut off. -/
theorem OwnL.winTail {w W : World} {L : List Asn} (h : OwnL w W L) (k : Nat) {e g off cap : Nat} {x : Value} {xs : List Value} (hk : L[k]? = some (winA w.heap.size e (.slice (some ⟨g, off, none⟩) (xs.length + 1) cap) (x :: xs))) :
    OwnL w W (L.set k (winA w.heap.size e (.slice (if cap = 1 then some ⟨g, off, none⟩ else some ⟨g, off + 1, none⟩) xs.length (cap - 1)) xs)) :=
  h.step k hk (row := none) ⟨rfl, rfl, rfl, Nat.le_refl _, fun _ _ _ => rfl⟩ (fun b hb => by cases hb) (win_ok (h.win k hk).tail) (fun b hb => by
    left
    show Value.ownBlock (.slice (some ⟨g, off, none⟩) (xs.length + 1) cap) = some b
    split at hb <;> exact hb)
end Go.Proofs.YtamodjlifpjaoaaDoor

namespace Go.Proofs.YtamodjlifpjaoaaDoor
open Go.RowKit
set_option linter.unusedVariables false
set_option linter.unusedSimpArgs false

theorem filter_least (p : Nat → Bool) (c : Nat) : ∀ (n s : Nat), s ≤ c → c < s + n → (∀ t, s ≤ t → t < c → p t = false) → p c = true → (List.range' s n).filter p = c :: (List.range' s n).filter (fun t => p t && !decide (t = c))
  | 0, s, h1, h2, _, _ => by omega
  | n + 1, s, h1, h2, h3, h4 => by
    rw [List.range'_succ]
    rcases Nat.lt_or_ge s c with h | h
    · rw [List.filter_cons_of_neg (by rw [h3 s (Nat.le_refl _) h]; simp), List.filter_cons_of_neg (by rw [h3 s (Nat.le_refl _) h]; simp)]
      exact filter_least p c n (s + 1) (by omega) (by omega) (fun t ht => h3 t (by omega)) h4
    · obtain rfl : s = c := by omega
      rw [List.filter_cons_of_pos h4, List.filter_cons_of_neg (by simp)]
      congr 1
      refine List.filter_congr fun t ht => ?_
      have := (List.mem_range'_1.1 ht).1
      have : t ≠ s := by omega
      simp [this]
theorem least_bits {S : Nat} (h0 : S ≠ 0) (h : S < 2 ^ 64) : Lib.ctz 64 S < 64 ∧ S.testBit (Lib.ctz 64 S) = true ∧ (∀ t, t < Lib.ctz 64 S → S.testBit t = false) ∧ ∀ t, (S &&& (S - 1)).testBit t = (S.testBit t && !decide (t = Lib.ctz 64 S)) := by
  obtain ⟨m, hm, hk⟩ := Lib.ctzFrom_spec 64 S (by omega) h
  have e : Lib.ctz 64 S = Lib.ctzFrom 64 S := by simp [Lib.ctz, h0]
  rw [e]
  generalize Lib.ctzFrom 64 S = k at *
  have hp : 0 < 2 ^ k := Nat.two_pow_pos k
  have hb : ∀ t, S.testBit t = if t < k then false else (2 * m + 1).testBit (t - k) := fun t => by
    have := Nat.testBit_two_pow_mul_add (2 * m + 1) (b := 0) (i := k) hp t
    rw [Nat.add_zero] at this
    rw [hm, this]; simp
  have hs : S - 1 = 2 ^ k * (2 * m) + (2 ^ k - 1) := by rw [hm, Nat.mul_add, Nat.mul_one]; omega
  have hb1 : ∀ t, (S - 1).testBit t = if t < k then (2 ^ k - 1).testBit t else (2 * m).testBit (t - k) := fun t => by
    rw [hs]; exact Nat.testBit_two_pow_mul_add (2 * m) (by omega) t
  refine ⟨hk, by rw [hb, if_neg (by omega), Nat.sub_self, Nat.testBit_zero]; simp, fun t ht => by rw [hb, if_pos ht], fun t => ?_⟩
  rw [Nat.testBit_and, hb, hb1]
  by_cases h1 : t < k
  · simp [h1]
  · by_cases h2 : t = k
    · subst h2; simp [Nat.testBit_zero]
    · rw [if_neg h1, if_neg h1]
      obtain ⟨j, hj⟩ : ∃ j, t - k = j + 1 := ⟨t - k - 1, by omega⟩
      rw [hj, Nat.testBit_succ, Nat.testBit_succ]
      have d1 : (2 * m + 1) / 2 = m := by omega
      have d2 : (2 * m) / 2 = m := by omega
      rw [d1, d2]
      simp [h2]
theorem mem_least {S : Nat} (h0 : S ≠ 0) (h : S < 2 ^ 64) : mem S = Lib.ctz 64 S :: mem (S &&& (S - 1)) := by
  obtain ⟨h1, h2, h3, h4⟩ := least_bits h0 h
  unfold mem
  rw [List.range_eq_range', filter_least S.testBit (Lib.ctz 64 S) 64 0 (Nat.zero_le _) (by omega) (fun t _ ht => h3 t ht) h2]
  congr 1
  exact List.filter_congr fun t _ => (h4 t).symm
theorem and_less (S : Nat) : S &&& (S - 1) ≤ S := Nat.and_le_left
theorem mem_len (S : Nat) : (mem S).length ≤ 64 := by
  unfold mem
  have := List.length_filter_le S.testBit (List.range 64)
  simpa using this
theorem mem_nil {S : Nat} (h : S < 2 ^ 64) (h0 : S ≠ 0) : mem S ≠ [] := by rw [mem_least h0 h]; simp
/-- How an or of masks is written. -/
theorem or_u64 {a b : Nat} (ha : a < 18446744073709551616) (hb : b < 18446744073709551616) : bits .or .u64 (a : Int) (b : Int) = ((a ||| b : Nat) : Int) := bits_or_u64_nat a b ha hb
theorem less_u64 {S : Nat} (h0 : S ≠ 0) (h : S < 18446744073709551616) : bits .and .u64 (S : Int) ((S : Int) - 1) = ((S &&& (S - 1) : Nat) : Int) := by
  have h1 : (S : Int) - 1 = ((S - 1 : Nat) : Int) := by omega
  rw [h1, bits_and_u64_nat S (S - 1) h (by omega)]
theorem shl_u64 {n : Nat} (hn : n < 64) : IntKind.u64.wrap (2 ^ min n 64) = ((2 ^ n : Nat) : Int) := by
  have h : 2 ^ n < 18446744073709551616 := Nat.lt_of_lt_of_le (Nat.pow_lt_pow_right (by omega) hn) (by decide)
  rw [Nat.min_eq_left (by omega), IntKind.wrap_u64]
  have e : ((2 ^ n : Nat) : Int) = (2 : Int) ^ n := by push_cast; rfl
  rw [← e]
  generalize 2 ^ n = z at *
  omega
theorem shl_u64b {n : Nat} (hn : n < 64) : IntKind.u64.wrap (2 ^ n) = ((2 ^ n : Nat) : Int) := by
  have := shl_u64 hn
  rwa [Nat.min_eq_left (by omega)] at this
end Go.Proofs.YtamodjlifpjaoaaDoor

namespace Go.Proofs.YtamodjlifpjaoaaDoor
open Go.RowKit
set_option linter.unusedVariables false
set_option linter.unusedSimpArgs false
/-- The mask M and the queue ws, on the way from a state n by arcs of which p holds. -/
structure Follow (x : Lts) (p : Arc → Bool) (n : Nat) (M : Nat) (ws : List Nat) : Prop where
  lt : M < 2 ^ x.n
  path : ∀ t, M.testBit t = true → Path x p n t
  root : M.testBit n = true
  done : ∀ s, M.testBit s = true → s ∉ ws → ∀ a ∈ x.arcs s, p a = true → M.testBit a.to = true
  inn : ∀ s ∈ ws, M.testBit s = true
  few : 2 * (x.n - cntM x.n M) + ws.length ≤ 2 * x.n + 1
theorem cnt_more {n M t : Nat} (h : M.testBit t = false) (ht : t < n) : cntM n M < cntM n (M ||| 2 ^ t) := by
  unfold cntM
  refine filter_lt _ _ _ (fun a _ ha => by rw [Nat.testBit_or, ha]; rfl) ⟨t, List.mem_range.2 ht, h, by rw [Nat.testBit_or, bit_one]; simp⟩
theorem follow_start {x : Lts} {p : Arc → Bool} {n : Nat} (hn : n < x.n) : Follow x p n (2 ^ n) [n] := by
  refine ⟨Nat.pow_lt_pow_right (by omega) hn, fun t ht => ?_, by rw [bit_one]; simp, fun s hs hn' => ?_, fun s hs => ?_, by simp; omega⟩
  · rw [bit_one] at ht
    rw [← of_decide_eq_true ht]; exact .refl
  · rw [bit_one] at hs
    exact absurd (by rw [← of_decide_eq_true hs]; simp) hn'
  · rw [List.mem_singleton.1 hs, bit_one]; simp
/-- Halfway through the arcs of the queue's first state. -/
structure Half (x : Lts) (p : Arc → Bool) (n : Nat) (M : Nat) (s : Nat) (ws : List Nat) (j φ : Nat) : Prop where
  fol : Follow x p n M (s :: ws)
  part : ∀ (i : Nat) (a : Arc), i < j → (x.arcs s)[i]? = some a → p a = true → M.testBit a.to = true
  less : 2 * (x.n - cntM x.n M) + (ws.length + 1) ≤ φ
theorem half_start {x : Lts} {p : Arc → Bool} {n M s : Nat} {ws : List Nat} (h : Follow x p n M (s :: ws)) : Half x p n M s ws 0 (2 * (x.n - cntM x.n M) + (ws.length + 1)) :=
  ⟨h, fun i a hi => by omega, Nat.le_refl _⟩
theorem Half.skip {x : Lts} {p : Arc → Bool} {n M s j φ : Nat} {ws : List Nat} (h : Half x p n M s ws j φ) {a : Arc} (ha : (x.arcs s)[j]? = some a) (hs : p a = true → M.testBit a.to = true) : Half x p n M s ws (j + 1) φ :=
  ⟨h.fol, fun i b hi hb hp => by
    rcases Nat.lt_or_ge i j with h1 | h1
    · exact h.part i b h1 hb hp
    · obtain rfl : i = j := by omega
      rw [ha] at hb; cases hb; exact hs hp, h.less⟩
theorem Half.push {x : Lts} (hg : Good x) {p : Arc → Bool} {n M s j φ : Nat} {ws : List Nat} (h : Half x p n M s ws j φ) {a : Arc} (ha : (x.arcs s)[j]? = some a) (hp : p a = true) (hb : M.testBit a.to = false) : Half x p n (M ||| 2 ^ a.to) s (ws ++ [a.to]) (j + 1) φ := by
  have hto := hg.to_lt s a (List.mem_of_getElem? ha)
  have hmore := cnt_more hb hto
  have hle := cnt_le x.n (M ||| 2 ^ a.to)
  have hbit : ∀ t, (M ||| 2 ^ a.to).testBit t = true ↔ M.testBit t = true ∨ t = a.to := fun t => by
    rw [Nat.testBit_or, bit_one, Bool.or_eq_true, decide_eq_true_eq]
    exact ⟨fun h => h.imp id Eq.symm, fun h => h.imp id Eq.symm⟩
  refine ⟨⟨Nat.or_lt_two_pow h.fol.lt (Nat.pow_lt_pow_right (by omega) hto), fun t ht => ?_, (hbit n).2 (.inl h.fol.root), fun t ht hn b hbm hpb => ?_, fun t ht => ?_, ?_⟩, fun i b hi hbi hpb => ?_, ?_⟩
  · rcases (hbit t).1 ht with h1 | rfl
    · exact h.fol.path t h1
    · exact (h.fol.path s (h.fol.inn s (by simp))).step (List.mem_of_getElem? ha) hp
  · rcases (hbit t).1 ht with h1 | rfl
    · exact (hbit _).2 (.inl (h.fol.done t h1 (fun hm => hn (by rcases List.mem_cons.1 hm with rfl | hm <;> simp_all)) b hbm hpb))
    · exact absurd (by simp) hn
  · rcases List.mem_cons.1 ht with rfl | ht
    · exact (hbit _).2 (.inl (h.fol.inn _ (by simp)))
    · rcases List.mem_append.1 ht with ht | ht
      · exact (hbit t).2 (.inl (h.fol.inn t (by simp [ht])))
      · rw [List.mem_singleton.1 ht]; exact (hbit _).2 (.inr rfl)
  · have := h.fol.few
    simp only [List.length_cons, List.length_append, List.length_nil] at *
    omega
  · rcases Nat.lt_or_ge i j with h1 | h1
    · exact (hbit _).2 (.inl (h.part i b h1 hbi hpb))
    · obtain rfl : i = j := by omega
      rw [ha] at hbi; cases hbi; exact (hbit _).2 (.inr rfl)
  · have := h.less
    simp only [List.length_append, List.length_cons, List.length_nil]
    omega
theorem Half.pop {x : Lts} {p : Arc → Bool} {n M s φ : Nat} {ws : List Nat} (h : Half x p n M s ws (x.arcs s).length φ) : Follow x p n M ws ∧ 2 * (x.n - cntM x.n M) + ws.length < φ := by
  refine ⟨⟨h.fol.lt, h.fol.path, h.fol.root, fun t ht hn b hb hp => ?_, fun t ht => h.fol.inn t (by simp [ht]), ?_⟩, ?_⟩
  · by_cases he : t = s
    · subst he
      obtain ⟨i, hi⟩ := List.getElem?_of_mem hb
      exact h.part i b (List.getElem?_eq_some_iff.1 hi).1 hi hp
    · exact h.fol.done t ht (by simp [he, hn]) b hb hp
  · have := h.fol.few
    simp only [List.length_cons] at this
    omega
  · have := h.less; omega
theorem Follow.all {x : Lts} {p : Arc → Bool} {n M : Nat} (h : Follow x p n M []) (t : Nat) : M.testBit t = true ↔ Path x p n t := by
  refine ⟨h.path t, fun hp => ?_⟩
  induction hp with
  | refl => exact h.root
  | @step u a _ ha hpa ih => exact h.done u ih (by simp) a ha hpa
theorem follow_sil {x : Lts} (hg : Good x) {n M : Nat} (h : Follow x isSil n M []) : M = sil x n := mask_eq fun t => by
  rw [Bool.eq_iff_iff, h.all t, sil_bit hg]
theorem follow_reach {x : Lts} (hg : Good x) {M : Nat} (h : Follow x anyArc 0 M []) : M = reachM x := mask_eq fun t => by
  rw [Bool.eq_iff_iff, h.all t]
  unfold reachM
  rw [cloM_bit x anyArc 1 hg.to_lt]
  constructor
  · exact fun hp => ⟨0, by decide, hp⟩
  · rintro ⟨s, hs, hp⟩
    have : s = 0 := by
      have h2 : (2 ^ 0).testBit s = true := hs
      rw [bit_one] at h2
      exact (of_decide_eq_true h2).symm
    subst this; exact hp
theorem Follow.bound {x : Lts} (hg : Good x) {p : Arc → Bool} {n M : Nat} {ws : List Nat} (h : Follow x p n M ws) : ws.length ≤ 129 := by have := h.few; have := hg.nn; omega
/-- A bit of a mask, as the program asks for it. -/
theorem shr_bit {M t : Nat} (hM : M < 18446744073709551616) (ht : t < 64) : (((M : Int) / 2 ^ t) % 2 = 0) ↔ M.testBit t = false := by
  have h1 : ((M : Int) / 2 ^ t) % 2 = ((M / 2 ^ t % 2 : Nat) : Int) := by push_cast; rfl
  rw [h1, Nat.testBit_eq_decide_div_mod_eq]
  simp only [decide_eq_false_iff_not]
  omega
theorem shr_test {M t : Nat} (hM : M < 18446744073709551616) : (bits .and .u64 ((M : Int) / 2 ^ t) 1 == 0) = !M.testBit t := by
  have e : (M : Int) / 2 ^ t = ((M / 2 ^ t : Nat) : Int) := by push_cast; rfl
  have hlt : M / 2 ^ t < 18446744073709551616 := Nat.lt_of_le_of_lt (Nat.div_le_self _ _) hM
  have h1 := bits_and_u64_nat (M / 2 ^ t) 1 hlt (by omega)
  rw [e, show (1 : Int) = ((1 : Nat) : Int) from rfl, h1, Nat.and_one_is_mod, Nat.testBit_eq_decide_div_mod_eq, Bool.eq_iff_iff]
  simp only [beq_iff_eq, Bool.not_eq_true', decide_eq_false_iff_not]
  omega
end Go.Proofs.YtamodjlifpjaoaaDoor

namespace Go.Proofs.YtamodjlifpjaoaaDoor
open Go.RowKit
set_option linter.unusedVariables false
set_option linter.unusedSimpArgs false
attribute [local go_sem] Oper.quietV quietV Oper.gives givesV ext_refl_iff ext_alloc_iff ext_drew_iff ext_drewN_iff
/-- The library's table. -/
def Tab (w : World) : Prop := ∀ j, j < 64 → w.cell? ⟨0, j, none⟩ = some (.int .u8 (Lib.deBruijn64tab.getD j 0 : Nat))
theorem Tab.ext {w w' : World} (h : Tab w) (e : Ext w w') : Tab w' := fun j hj => e.cell (h j hj)
theorem tz_key (x a : Nat) (hx : x < 18446744073709551616) (hx0 : x ≠ 0) (hlow : x &&& (18446744073709551616 - x) = a) :
    IntKind.u64.wrap (bits BinOp.and IntKind.u64 (x : Int) (IntKind.u64.wrap (-(x : Int))) * 285870213051353865) / 288230376151711744 = ((a * 285870213051353865 % 18446744073709551616 / 288230376151711744 : Nat) : Int) := by
  have e1 : IntKind.u64.wrap (-(x : Int)) = ((18446744073709551616 - x : Nat) : Int) := by rw [IntKind.wrap_u64]; omega
  rw [e1, bits_and_u64_nat x _ hx (by omega), hlow, IntKind.wrap_u64]
  omega
set_option maxHeartbeats 1000000 in
theorem tz_core (x k idx : Nat) (w : World) (hx0 : ((x : Int) == 0) = false)
    (key : IntKind.u64.wrap (bits BinOp.and IntKind.u64 (x : Int) (IntKind.u64.wrap (-(x : Int))) * 285870213051353865) / 288230376151711744 = (idx : Int))
    (hi : idx < 64) (hk : k < 64) (hcell : w.cell? ⟨0, idx, none⟩ = some (.int .u8 k)) :
    Calls Tryd.prog 61 #[.int .u64 x] w fun e w' => e = .returned (.int .i64 k) ∧ w = w' := by
  go_enter Tryd.func61, Tryd.ntmps61
  go_wp2_with (simp only [key])
  go_ret
  exact ⟨rfl, rfl⟩
theorem tz_any (x : Nat) (h0 : x ≠ 0) (hx : x < 18446744073709551616) (w : World) (hT : Tab w) : Calls Tryd.prog 61 #[.int .u64 x] w fun e w' => e = .returned (.int .i64 (Lib.ctz 64 x)) ∧ w = w' := by
  obtain ⟨hlow, hk⟩ := Lib.lowest_bit 64 x h0 hx
  obtain ⟨hi, htab⟩ := Lib.deBruijn64_at _ hk
  have hcell := hT _ hi
  rw [htab] at hcell
  exact tz_core x _ _ w (by simp; omega) (tz_key x _ hx h0 hlow) hi hk hcell
/-- Clip of a slice of numbers. -/
theorem clip_any (w : World) (A : Option Addr) (n c : Nat) (hn : n ≤ c) (hn' : n ≤ 100000) : Calls Tryd.prog 62 #[.slice A n c] w fun e w' => e = .returned (.slice A n n) ∧ w = w' := by
  go_enter Tryd.func62, Tryd.ntmps62
  go_wp2
  go_ret
  exact ⟨rfl, rfl⟩
theorem and_lt {S : Nat} (h : S ≠ 0) : S &&& (S - 1) < S := Nat.lt_of_le_of_lt Nat.and_le_right (by omega)
theorem fit_clip {W : World} {B n c : Nat} {A : Option Addr} {xs : List Int} (h : W.ownsRow B 3 1 (.slice A n c) n (xs.map (.int .i64))) (hn : xs.length = n) (hl : n ≤ 100000) : FitC W (.slice A n n) xs := by
  subst hn
  obtain ⟨A', c', hv, hnc, hcc⟩ := cells_of_owns h
  cases hv
  exact ⟨_, rfl, hcc, Nat.le_refl _, by unfold lenMax; omega⟩
def memI (S : Nat) : List Int := (mem S).map (fun (s : Nat) => (s : Int))
theorem memI_len (S : Nat) : (memI S).length ≤ 64 := by unfold memI; rw [List.length_map]; exact mem_len S
theorem memI_least {S : Nat} (h0 : S ≠ 0) (h : S < 18446744073709551616) : memI S = (Lib.ctz 64 S : Int) :: memI (S &&& (S - 1)) := by unfold memI; rw [mem_least h0 h]; rfl
set_option maxRecDepth 100000 in
set_option maxHeartbeats 4000000 in
theorem list_any (w : World) (S : Nat) (hS : S < 18446744073709551616) (hT : Tab w) : Calls Tryd.prog 41 #[.int .u64 S] w fun e w' => ∃ v, e = .returned v ∧ FitC w' v (memI S) ∧ Ext w w' := by
  obtain ⟨i3, hi3, hz3, hs3, hb3⟩ := info_parts int_info
  go_enter Tryd.func41, Tryd.ntmps41
  go_wp2
  go_loopw [0, 2] (fun sv ov wr => ∃ (T : Nat) (xs : List Int), sv = .int .u64 T ∧ T < 18446744073709551616 ∧ Hid (memI S = xs ++ memI T) ∧ OwnL w wr [.row 3 1 ov xs.length (xs.map (.int .i64))]) (fun sv _ _ => (intOf sv).toNat)
  case atStart => exact ⟨S, [], rfl, hS, Lib.hid rfl, OwnL.add (OwnL.nil (Ext.refl w)) (Ext.refl w) (A := .row 3 1 (.slice none 0 0) 0 []) (World.ownsRow_nil _ _ _ _)⟩
  case round =>
    obtain ⟨T, xs, rfl, hTl, HM, hO⟩ := hrel
    obtain ⟨W1, hW1⟩ : ∃ W, W = wr := ⟨_, rfl⟩; subst hW1
    have hlen : Hid (xs.length ≤ 64) := Lib.hid (by have h1 := memI_len S; rw [HM.out, List.length_append] at h1; omega)
    by_cases h0 : T = 0
    · subst h0
      have hE : Hid (memI S = xs) := Lib.hid (by have := HM.out; rw [show memI 0 = [] by unfold memI; rw [show mem 0 = [] from by decide]; rfl, List.append_nil] at this; exact this)
      obtain ⟨A, c, hu, hnc, hcc⟩ := cells_of_owns (hO.get 0 rfl)
      have hcl := clip_any W1 A xs.length c hnc (by have := hlen.out; omega)
      have HO := Lib.hid hO
      subst hu
      clear hO hcc
      go_wp2_with ((with_reducible refine hcl.mono ?_); rintro e w5 ⟨rfl, rfl⟩)
      go_ret
      refine ⟨_, rfl, ?_, HO.out.ext⟩
      rw [hE.out]
      exact fit_clip (HO.out.get 0 rfl) rfl (by have := hlen.out; omega)
    · have hne : ((T : Int) != 0) = true := by simp; omega
      have htz := fun W (h : Ext W1 W) => tz_any T h0 hTl W ((hT.ext hO.ext).ext h)
      have hml := memI_least h0 hTl
      have hless := less_u64 h0 hTl
      have hlt : T &&& (T - 1) < 18446744073709551616 := Nat.lt_of_le_of_lt (and_less T) hTl
      have hlt2 : T &&& (T - 1) < T := and_lt h0
      generalize Lib.ctz 64 T = k at *
      have HMS : Hid (memI S = (xs ++ [(k : Int)]) ++ memI (T &&& (T - 1))) := Lib.hid (by rw [HM.out, hml]; simp)
      generalize T &&& (T - 1) = T' at *
      have hown : W1.ownsRow w.heap.size 3 1 u2 xs.length (xs.map (.int .i64)) := hO.get 0 rfl
      have hsz := hO.ext.size
      have HL := hlen.out
      have hEx := Ext.refl W1
      have HO := Lib.hid hO
      clear hO hml HM
      go_wp2_with (first
        | ((with_reducible refine (htz _ (by first | exact hEx | exact hEx.alloc _)).mono ?_); rintro e w5 ⟨rfl, rfl⟩)
        | (at_builtin; refine wpList_append_own2 rfl _ _ 30 rfl w.heap.size 3 i3 (.int .i64 0) 1 8 Tryd.underlying30 hi3 hz3 hs3 hb3 rfl (by decide) u2 xs.length (xs.map (.int .i64)) rfl (World.ownsRow.alloc hown _) ⟨W1.heap.size, 0, none⟩ 1 1 [.int .i64 k] rfl rfl (new_cell _ _ _ _ rfl) (one_int _) (by unfold maxLen; omega) (by omega) (by simp; omega) ?_; intro v8 w8 hown8 hg8 hb8))
      have hO8 := (HO.out.trans (alloc_ext W1 (.cells #[.int .i64 k] 3))).app 0 rfl hg8 hown8 hb8
      go_roundw
      case rel => exact ⟨T', xs ++ [(k : Int)], rfl, hlt, HMS, by simpa using hO8⟩
      case measure => simp [intOf]; omega
end Go.Proofs.YtamodjlifpjaoaaDoor

namespace Go.Proofs.YtamodjlifpjaoaaDoor
open Go.RowKit
set_option linter.unusedVariables false
set_option linter.unusedSimpArgs false
attribute [local go_sem] Oper.quietV quietV Oper.gives givesV ext_refl_iff ext_alloc_iff ext_drew_iff ext_drewN_iff
set_option maxRecDepth 100000 in
theorem labels_any (w : World) (v : Value) (x : Lts) (hd : SysV w v x) (hg : Good x) : Calls Tryd.prog 39 #[v] w fun e w' => e = .returned (.int .i64 (x.ins + x.outs + 1)) ∧ Ext w w' := by
  obtain ⟨A, c, B, d, rfl, hr, hs, hlen⟩ := hd.form
  have h1 := hg.ins
  have h2 := hg.outs
  go_enter Tryd.func39, Tryd.ntmps39
  go_upto_region 1 with fail
  refine wp_named ?_
  intro W1 hW1
  have hE1 : Ext w W1 := by rw [hW1]; exact (Ext.refl _).alloc _
  have k0 : ∀ w', Ext W1 w' → w'.cell? ⟨w.heap.size, 0, none⟩ = some (.int .i64 x.ins) := fun w' h => h.cell (by rw [hW1]; simp [go_sem])
  have k1 : ∀ w', Ext W1 w' → w'.cell? ⟨w.heap.size, 1, none⟩ = some (.int .i64 x.outs) := fun w' h => h.cell (by rw [hW1]; simp [go_sem])
  have k2 : ∀ w', Ext W1 w' → w'.cell? ⟨w.heap.size, 2, none⟩ = some (.slice A x.rows.length c) := fun w' h => h.cell (by rw [hW1]; simp [go_sem])
  have k3 : ∀ w', Ext W1 w' → w'.cell? ⟨w.heap.size, 3, none⟩ = some (.slice B x.rows.length d) := fun w' h => h.cell (by rw [hW1]; simp [go_sem])
  clear hW1
  have hE0 := Ext.refl W1
  clear hr hs hd hg
  go_wp2
  go_ret
  exact ⟨rfl, hE1⟩
set_option maxRecDepth 100000 in
theorem begin_any (w : World) (v : Value) (x : Lts) (hd : SysV w v x) (hg : Good x) : Calls Tryd.prog 38 #[v] w fun e w' => e = .returned (.int .u64 (begM x : Nat)) ∧ Ext w w' := by
  obtain ⟨A, c, B, d, rfl, hr, hs, hlen⟩ := hd.form
  have h1 := hg.size
  unfold begM
  go_enter Tryd.func38, Tryd.ntmps38
  go_upto_region 1 with fail
  refine wp_named ?_
  intro W1 hW1
  have hE1 : Ext w W1 := by rw [hW1]; exact (Ext.refl _).alloc _
  have k0 : ∀ w', Ext W1 w' → w'.cell? ⟨w.heap.size, 0, none⟩ = some (.int .i64 x.ins) := fun w' h => h.cell (by rw [hW1]; simp [go_sem])
  have k1 : ∀ w', Ext W1 w' → w'.cell? ⟨w.heap.size, 1, none⟩ = some (.int .i64 x.outs) := fun w' h => h.cell (by rw [hW1]; simp [go_sem])
  have k2 : ∀ w', Ext W1 w' → w'.cell? ⟨w.heap.size, 2, none⟩ = some (.slice A x.rows.length c) := fun w' h => h.cell (by rw [hW1]; simp [go_sem])
  have k3 : ∀ w', Ext W1 w' → w'.cell? ⟨w.heap.size, 3, none⟩ = some (.slice B x.rows.length d) := fun w' h => h.cell (by rw [hW1]; simp [go_sem])
  clear hW1
  have hE0 := Ext.refl W1
  obtain ⟨b, o, dd, hB, _, hc⟩ := (hs.ext hE1).at_ (sils_at x (s := 0) hg.nn.1)
  injection hB with hB _ hdd
  subst hB hdd
  rw [Nat.add_zero] at hc
  clear hr hs hd hg
  go_wp2
  go_ret
  exact ⟨rfl, hE1⟩
theorem quiet1_any (w : World) (a : Arc) : Calls Tryd.prog 70 #[.agg #[.int .u8 a.k, .int .i64 a.l, .int .i64 a.t]] w fun e w' => e = .returned (.bool (!(a.k == 1))) ∧ Ext w w' := by
  have h : ((a.k : Int) != 1) = (!(a.k == 1)) := by
    rw [Bool.eq_iff_iff]; simp; omega
  go_enter Tryd.func70, Tryd.ntmps70
  go_upto_region 1 with fail
  refine wp_named ?_
  intro W1 hW1
  have hE1 : Ext w W1 := by rw [hW1]; exact (Ext.refl _).alloc _
  have k0 : W1.cell? ⟨w.heap.size, 0, none⟩ = some (.int .u8 a.k) := by rw [hW1]; simp [go_sem]
  clear hW1
  have H := Lib.hid h
  clear h
  go_wp2
  go_ret
  exact ⟨by rw [← H.out]; rfl, hE1⟩
theorem any_take {α : Type} {p : α → Bool} {xs : List α} {k : Nat} {y : α} (hk : xs[k]? = some y) : (xs.take (k + 1)).any p = ((xs.take k).any p || p y) := by
  rw [List.take_add_one, hk, List.any_append]; simp
theorem any_of_get {α : Type} {p : α → Bool} {xs : List α} {k : Nat} {y : α} (hk : xs[k]? = some y) (h : p y = true) : xs.any p = true := List.any_eq_true.2 ⟨_, List.mem_of_getElem? hk, h⟩
theorem any_full {α : Type} {p : α → Bool} {xs : List α} {k : Nat} (hk : xs.length ≤ k) (h : (xs.take k).any p = false) : xs.any p = false := by rwa [List.take_of_length_le hk] at h
def notIn (a : Arc) : Bool := !(a.k == 1)
/-- A Bool behind a search. -/
def IdxB (w : World) (b : Bool) (e : Ending) (w' : World) : Prop := ∃ i : Int, e = .returned (.int .i64 i) ∧ decide (0 ≤ i) = b ∧ Ext w w'
set_option maxRecDepth 100000 in
set_option maxHeartbeats 1000000 in
theorem qindex_any (w : World) (v : Value) (l : List Arc) (hv : ArcsC w v l) : Calls Tryd.prog 74 #[v, .func (.func 70) #[] #[]] w (IdxB w (l.any notIn)) := by
  obtain ⟨A, c, rfl, _, _, hm⟩ := id hv
  unfold lenMax at hm
  go_enter Tryd.func74, Tryd.ntmps74
  go_wp2_with (fail)
  go_loopw [8] (fun i wr => ∃ k : Nat, k ≤ l.length ∧ i = .int .i64 k ∧ Hid ((l.take k).any notIn = false) ∧ Ext w wr) (fun i _ => l.length - (intOf i).toNat)
  case atStart => exact ⟨0, by omega, rfl, Lib.hid (by simp), Ext.refl _⟩
  case round =>
    obtain ⟨k, hk, rfl, HP, hE⟩ := hrel
    obtain ⟨W1, hW1⟩ : ∃ W, W = wr := ⟨_, rfl⟩; subst hW1
    by_cases hlt : k < l.length
    · obtain ⟨y, hy⟩ : ∃ y, l[k]? = some y := ⟨_, List.getElem?_eq_getElem hlt⟩
      obtain ⟨b, o, c', hvv, _, c0, c1, c2⟩ := (hv.ext hE).at_ hy
      injection hvv with hvv _ hcc
      subst hvv hcc
      have HT := Lib.hid (any_take (p := notIn) hy)
      have HM := Lib.hid (any_of_get (p := notIn) hy)
      have hc := quiet1_any W1 y
      have HE := Lib.hid hE
      clear hy hv hE
      have hB : Hid (notIn y = !(y.k == 1)) := Lib.hid rfl
      cases hq : (!(y.k == 1)) with
      | false =>
        rw [hq] at hc
        have hn : Hid ((l.take (k + 1)).any notIn = false) := Lib.hid (by rw [HT.out, HP.out, hB.out, hq]; rfl)
        clear hq
        go_wp2_with ((with_reducible refine hc.mono ?_); rintro e w1 ⟨rfl, e1⟩)
        go_roundw
        case rel => exact ⟨k + 1, by omega, by go_num, hn, HE.out.trans e1⟩
        case measure => simp [intOf]; omega
      | true =>
        rw [hq] at hc
        have hn : Hid (l.any notIn = true) := Lib.hid (HM.out (hB.out.trans hq))
        clear hq
        go_wp2_with ((with_reducible refine hc.mono ?_); rintro e w1 ⟨rfl, e1⟩)
        go_ret
        exact ⟨k, rfl, by rw [hn.out]; simp, HE.out.trans e1⟩
    · have hn : Hid (l.any notIn = false) := Lib.hid (any_full (by omega) HP.out)
      go_wp2
      go_ret
      exact ⟨-1, rfl, by rw [hn.out]; rfl, hE⟩
theorem qcontains_any (w : World) (v : Value) (l : List Arc) (hv : ArcsC w v l) : Calls Tryd.prog 69 #[v, .func (.func 70) #[] #[]] w fun e w' => e = .returned (.bool (l.any notIn)) ∧ Ext w w' := by
  have hc := qindex_any w v l hv
  unfold IdxB at hc
  go_enter Tryd.func69, Tryd.ntmps69
  go_wp2_with ((with_reducible refine hc.mono ?_); rintro e w1 ⟨i, rfl, hi, e1⟩; have hi := Lib.hid hi)
  go_ret
  exact ⟨by rw [← hi.out]; rfl, e1⟩
theorem quiet_not (l : List Arc) : (!(l.any notIn)) = l.all (fun a => a.k == 1) := by
  induction l with
  | nil => rfl
  | cons a l ih => rw [List.any_cons, List.all_cons, ← ih]; unfold notIn; cases (a.k == 1) <;> simp
set_option maxRecDepth 100000 in
theorem quiet_any (w : World) (v : Value) (x : Lts) (s : Nat) (hd : SysV w v x) (hs0 : s < x.n) : Calls Tryd.prog 60 #[v, .int .i64 s] w fun e w' => e = .returned (.bool (quietS x s)) ∧ Ext w w' := by
  obtain ⟨A, c, B, d, rfl, hr, hs, hlen⟩ := hd.form
  have hs1 : s < x.rows.length := hs0
  go_enter Tryd.func60, Tryd.ntmps60
  go_upto_region 1 with fail
  refine wp_named ?_
  intro W1 hW1
  have hE1 : Ext w W1 := by rw [hW1]; exact (Ext.refl _).alloc _
  have k0 : ∀ w', Ext W1 w' → w'.cell? ⟨w.heap.size, 0, none⟩ = some (.int .i64 x.ins) := fun w' h => h.cell (by rw [hW1]; simp [go_sem])
  have k1 : ∀ w', Ext W1 w' → w'.cell? ⟨w.heap.size, 1, none⟩ = some (.int .i64 x.outs) := fun w' h => h.cell (by rw [hW1]; simp [go_sem])
  have k2 : ∀ w', Ext W1 w' → w'.cell? ⟨w.heap.size, 2, none⟩ = some (.slice A x.rows.length c) := fun w' h => h.cell (by rw [hW1]; simp [go_sem])
  have k3 : ∀ w', Ext W1 w' → w'.cell? ⟨w.heap.size, 3, none⟩ = some (.slice B x.rows.length d) := fun w' h => h.cell (by rw [hW1]; simp [go_sem])
  clear hW1
  have hE0 := Ext.refl W1
  obtain ⟨b, o, u, cc, hA, _, hc, hu⟩ := (hr.ext hE1).at_ (List.getElem?_eq_getElem hs1)
  injection hA with hA _ hcc
  subst hA hcc
  rw [← arcs_eq hs1] at hu
  have hcall := qcontains_any W1 u _ hu
  have HQ : Hid ((!((x.arcs s).any notIn)) = quietS x s) := Lib.hid (quiet_not (x.arcs s))
  obtain ⟨A3, c3, rfl, _⟩ := id hu
  generalize (x.arcs s).any notIn = r at *
  clear hr hs hd hu hs0
  go_wp2_with ((with_reducible refine hcall.mono ?_); rintro e w1 ⟨rfl, e1⟩)
  go_ret
  exact ⟨by rw [← HQ.out]; rfl, hE1.trans e1⟩
end Go.Proofs.YtamodjlifpjaoaaDoor
