/- Arguments, read as data: slices whose elements fill cells. -/
import Derived.Test.YteadkafeabhhhaaOpenG
namespace Go.Proofs.Yteadkafeabhhhaa
open Go.ChangeShapes Go.WideShapes Go.ChangeAt Go.RowKit
set_option linter.unusedVariables false
set_option linter.unusedSimpArgs false

section
variable {α : Type}
theorem flatten_len {sz : Nat} : ∀ L : List (List α), (∀ l ∈ L, l.length = sz) → L.flatten.length = L.length * sz
  | [], _ => by simp
  | l :: L, h => by
    rw [List.flatten_cons, List.length_append, h l (by simp), flatten_len L (fun x hx => h x (by simp [hx])), List.length_cons, Nat.succ_mul, Nat.add_comm]
theorem flatten_get {sz : Nat} : ∀ (L : List (List α)), (∀ l ∈ L, l.length = sz) → ∀ (i r : Nat) (l : List α), L[i]? = some l → r < sz → L.flatten[i * sz + r]? = l[r]?
  | [], _, i, r, l, hi, _ => by simp at hi
  | x :: L, h, 0, r, l, hi, hr => by
    simp at hi; subst hi
    rw [List.flatten_cons, Nat.zero_mul, Nat.zero_add, List.getElem?_append_left (by rw [h x (by simp)]; exact hr)]
  | x :: L, h, i + 1, r, l, hi, hr => by
    have hx := h x (by simp)
    rw [List.flatten_cons, List.getElem?_append_right (by rw [hx, Nat.succ_mul]; omega), hx, show (i + 1) * sz + r - sz = i * sz + r by rw [Nat.succ_mul]; omega]
    exact flatten_get L (fun y hy => h y (by simp [hy])) i r l (by simpa using hi) hr
/-- A list out of what is known at each place. -/
theorem list_of_each {Q : Nat → α → Prop} : ∀ (n : Nat), (∀ i, i < n → ∃ y, Q i y) → ∃ L : List α, L.length = n ∧ ∀ (i : Nat) (y : α), L[i]? = some y → Q i y
  | 0, _ => ⟨[], rfl, fun i y h => by simp at h⟩
  | n + 1, h => by
    obtain ⟨L, hl, hq⟩ := list_of_each n (fun i hi => h i (by omega))
    obtain ⟨y, hy⟩ := h n (by omega)
    refine ⟨L ++ [y], by simp [hl], fun i z hz => ?_⟩
    by_cases hi : i < L.length
    · rw [List.getElem?_append_left hi] at hz; exact hq i z hz
    · have hi2 : i = L.length := by
        have := (List.getElem?_eq_some_iff.1 hz).1
        simp at this; omega
      subst hi2
      rw [List.getElem?_append_right (Nat.le_refl _), Nat.sub_self] at hz
      cases hz
      rw [hl]; exact hy
theorem list_of_map {β : Type} {f : β → α} : ∀ (L : List α), (∀ (i : Nat) (y : α), L[i]? = some y → ∃ b, y = f b) → ∃ B : List β, L = B.map f
  | [], _ => ⟨[], rfl⟩
  | y :: L, h => by
    obtain ⟨b, rfl⟩ := h 0 y rfl
    obtain ⟨B, rfl⟩ := list_of_map L (fun i z hz => h (i + 1) z (by simpa using hz))
    exact ⟨b :: B, rfl⟩
end

section
variable {H : Type} {enc : TypeId × Value → H} {P : Program} {w : World}

/-- The elements of a slice, opened. -/
theorem open_slice {t e : TypeId} {fuel : Nat} {cs : List Value} {x : DataW H × List MemPlace} (ht : P.underlying t = some (.slice e)) (h : DataW.trod enc P w 0 (fun _ => true) true fuel t cs = some x) :
    ∃ (A : Option Addr) (len cap n : Nat), cs = [.slice A len cap] ∧ len ≤ cap ∧ cap ≤ maxLen ∧
      ∀ i, i < len → ∃ a css y, A = some a ∧ w.cells? 0 (a.add (i * P.cellsOf e)) (P.cellsOf e) = some css ∧ DataW.trod enc P w 0 (fun _ => true) true n e css = some y := by
  rcases DataW.trod_slice ht h with ⟨rfl, _⟩ | ⟨a, len, cap, elems, rest, n, _, rfl, _, _, hl, hm, hlen, hel, _, _⟩
  · exact ⟨none, 0, 0, 0, rfl, Nat.le_refl _, Nat.zero_le _, fun i hi => by omega⟩
  · refine ⟨some a, len, cap, n, rfl, hl, hm, fun i hi => ?_⟩
    have := hel i hi
    rw [List.getElem?_eq_getElem (show i < elems.length by omega)] at this
    obtain ⟨css, h1, h2⟩ := Option.bind_eq_some_iff.1 this
    exact ⟨a, css, _, rfl, h1, h2⟩
theorem cells_open {A : Option Addr} {len sz : Nat} {Q : Nat → List Value → Prop} (hsz : 0 < sz) (h : ∀ i, i < len → ∃ a css, A = some a ∧ w.cells? 0 (a.add (i * sz)) sz = some css ∧ Q i css) :
    ∃ L : List (List Value), L.length = len ∧ (∀ (i : Nat) (css : List Value), L[i]? = some css → css.length = sz ∧ Q i css) ∧ Cells w A L.flatten := by
  obtain ⟨L, hl, hq⟩ := list_of_each (Q := fun i css => ∃ a, A = some a ∧ w.cells? 0 (a.add (i * sz)) sz = some css ∧ Q i css) len (fun i hi => by obtain ⟨a, css, h1, h2, h3⟩ := h i hi; exact ⟨css, a, h1, h2, h3⟩)
  have hlen : ∀ (i : Nat) (css : List Value), L[i]? = some css → css.length = sz := fun i css hi => by
    obtain ⟨a, _, h2, _⟩ := hq i css hi
    exact (World.cells?_some h2).2.1
  have hall : ∀ l ∈ L, l.length = sz := fun l hm => by
    obtain ⟨i, hi, rfl⟩ := List.mem_iff_getElem.1 hm
    exact hlen i _ (List.getElem?_eq_getElem hi)
  refine ⟨L, hl, fun i css hi => ⟨hlen i css hi, by obtain ⟨a, _, _, h3⟩ := hq i css hi; exact h3⟩, fun hpos => ?_⟩
  rw [flatten_len L hall] at hpos
  have hL0 : 0 < L.length := Nat.pos_of_ne_zero (fun h0 => by rw [h0] at hpos; simp at hpos)
  obtain ⟨a, rfl, h2, _⟩ := hq 0 L[0] (List.getElem?_eq_getElem hL0)
  have hc0 := (World.cells?_some h2).2.2 0 hsz
  have hlt : 0 < (L[0]).length := by rw [hall _ (List.getElem_mem hL0)]; exact hsz
  rw [List.getElem?_eq_getElem hlt] at hc0
  obtain ⟨b, o, sp⟩ := a
  have hsp : sp = none := by
    cases sp with
    | none => rfl
    | some q =>
      simp only [Addr.add, World.cell?] at hc0
      split at hc0 <;> simp at hc0
  subst hsp
  have hb : b < w.heap.size := by
    have := World.block_lt_of_cell? _ _ hc0
    simpa [Addr.add] using this
  refine ⟨b, o, rfl, hb, fun j u hu => ?_⟩
  have hj := (List.getElem?_eq_some_iff.1 hu).1
  rw [flatten_len L hall] at hj
  have hjd : j / sz < L.length := by
    apply Nat.div_lt_of_lt_mul
    rw [Nat.mul_comm]; exact hj
  have hjr : j % sz < sz := Nat.mod_lt _ hsz
  have hje : j / sz * sz + j % sz = j := by rw [Nat.mul_comm]; exact Nat.div_add_mod _ _
  obtain ⟨a, ha, h2, _⟩ := hq (j / sz) L[j / sz] (List.getElem?_eq_getElem hjd)
  cases ha
  have hc := (World.cells?_some h2).2.2 (j % sz) hjr
  have hf := flatten_get L hall (j / sz) (j % sz) _ (List.getElem?_eq_getElem hjd) hjr
  rw [hje, hu] at hf
  rw [← hf] at hc
  rw [Addr.add_lit] at hc
  have hadd : (⟨b, o + j / sz * sz, none⟩ : Addr).add (j % sz) = ⟨b, o + j, none⟩ := by
    rw [Addr.add_lit, Nat.add_assoc, hje]
  rw [hadd] at hc
  exact hc
theorem trod_places {t : TypeId} {v : Value} {d : DataW H} {p : List MemPlace} (h : DataW.Trod enc P w 0 (fun _ => true) true t v d p) : ∀ x ∈ p, x.block < w.heap.size := by
  obtain ⟨fuel, hf⟩ := h
  exact DataW.trod_lt _ _ _ _ hf
end

theorem flatten_single (xs : List Value) : (xs.map (fun u => [u])).flatten = xs := by
  induction xs with
  | nil => rfl
  | cons x r ih => simp [ih]
section
variable {H : Type} {enc : TypeId × Value → H} {W : World}
set_option maxRecDepth 100000 in
theorem open_intsC {t e : TypeId} {k : IntKind} {fuel : Nat} {cs : List Value} {x : DataW H × List MemPlace} (ht : Try.prog.underlying t = some (.slice e)) (he : Try.prog.underlying e = some (.int k)) (hc : Try.prog.cellsOf e = 1)
    (h : DataW.trod enc Try.prog W 0 (fun _ => true) true fuel t cs = some x) :
    ∃ (A : Option Addr) (xs : List Int) (cap : Nat), cs = [.slice A xs.length cap] ∧ Cells W A (xs.map (.int k)) ∧ xs.length ≤ cap ∧ cap ≤ maxLen ∧ ∀ z ∈ xs, (Lit.int k z).wf = true := by
  obtain ⟨A, len, cap, n, rfl, hl, hm, hel⟩ := open_slice ht h
  rw [hc] at hel
  obtain ⟨L, hL, hq, hcs⟩ := cells_open (w := W) (A := A) (len := len) (sz := 1) (Q := fun _ css => ∃ z, css = [.int k z] ∧ (Lit.int k z).wf = true) (by omega) (fun i hi => by
    obtain ⟨a, css, y, h1, h2, h3⟩ := hel i hi
    obtain ⟨z, h4, _, h5⟩ := DataW.trod_int he h3
    exact ⟨a, css, h1, h2, z, h4, h5⟩)
  obtain ⟨B, rfl⟩ := list_of_map (f := fun (z : {z : Int // (Lit.int k z).wf = true}) => [Value.int k z.1]) L (fun i y hy => by obtain ⟨_, z, h1, h2⟩ := hq i y hy; exact ⟨⟨z, h2⟩, h1⟩)
  have hBL : (B.map (·.1)).length = len := by rw [List.length_map] at hL ⊢; exact hL
  refine ⟨A, B.map (·.1), cap, by rw [hBL], ?_, by rw [hBL]; exact hl, hm, fun z hz => ?_⟩
  · have he2 : (B.map (·.1)).map (Value.int k) = (B.map (fun z => [Value.int k z.1])).flatten := by
      rw [← flatten_single ((B.map (·.1)).map (Value.int k)), List.map_map, List.map_map]; exact congrArg List.flatten (List.map_congr_left (fun _ _ => rfl))
    rw [he2]
    exact hcs
  · obtain ⟨y, _, rfl⟩ := List.mem_map.1 hz
    exact y.2
set_option maxRecDepth 100000 in
theorem open_boolsC {t e : TypeId} {fuel : Nat} {cs : List Value} {x : DataW H × List MemPlace} (ht : Try.prog.underlying t = some (.slice e)) (he : Try.prog.underlying e = some .bool) (hc : Try.prog.cellsOf e = 1)
    (h : DataW.trod enc Try.prog W 0 (fun _ => true) true fuel t cs = some x) :
    ∃ (A : Option Addr) (xs : List Bool) (cap : Nat), cs = [.slice A xs.length cap] ∧ Cells W A (xs.map .bool) ∧ xs.length ≤ cap ∧ cap ≤ maxLen := by
  obtain ⟨A, len, cap, n, rfl, hl, hm, hel⟩ := open_slice ht h
  rw [hc] at hel
  obtain ⟨L, hL, hq, hcs⟩ := cells_open (w := W) (A := A) (len := len) (sz := 1) (Q := fun _ css => ∃ z, css = [.bool z]) (by omega) (fun i hi => by
    obtain ⟨a, css, y, h1, h2, h3⟩ := hel i hi
    obtain ⟨z, h4, _⟩ := DataW.trod_bool he h3
    exact ⟨a, css, h1, h2, z, h4⟩)
  obtain ⟨B, rfl⟩ := list_of_map (f := fun (z : Bool) => [Value.bool z]) L (fun i y hy => (hq i y hy).2)
  have hBL : B.length = len := by rw [List.length_map] at hL; exact hL
  refine ⟨A, B, cap, by rw [hBL], ?_, by rw [hBL]; exact hl, hm⟩
  have he2 : B.map Value.bool = (B.map (fun z => [Value.bool z])).flatten := by
    rw [← flatten_single (B.map Value.bool), List.map_map]; exact congrArg List.flatten (List.map_congr_left (fun _ _ => rfl))
  rw [he2]
  exact hcs
end
end Go.Proofs.Yteadkafeabhhhaa
