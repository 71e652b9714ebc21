/- Values of the arguments of the laws, read as data; what the table of operations holds when the call begins. What the table of operations holds when the call begins. -/
import Derived.Test.YtggffdkgfgdaoaaDoorC4
import Derived.Test.YtggffdkgfgdaoaaDoorRows
import Derived.ProofKit
import Derived.Carry
import Derived.OpenShut
import Derived.LaidMore
import Derived.LaidOnce
import Derived.Stop.Joined
namespace Go.Proofs.YtggffdkgfgdaoaaDoor
open Go.ChangeShapes Go.WideShapes Go.ChangeAt Go.RowKit
set_option linter.unusedVariables false
set_option linter.unusedSimpArgs false
theorem Tryd.own : ownKnob Tryd.prog.godebug = none := by kernel_rfl
theorem list4 {α : Type} {l : List α} {n : Nat} (h : l.length = n) (hn : n = 4) : ∃ c0 c1 c2 c3, l = [c0, c1, c2, c3] := by
  subst hn
  match l, h with
  | [c0, c1, c2, c3], _ => exact ⟨c0, c1, c2, c3, rfl⟩
theorem array5 {α : Type} {cs : Array α} (h : cs.size = 5) : ∃ c0 c1 c2 c3 c4, cs = #[c0, c1, c2, c3, c4] := by
  obtain ⟨l⟩ := cs
  match l, h with
  | [c0, c1, c2, c3, c4], _ => exact ⟨c0, c1, c2, c3, c4, rfl⟩
theorem list5 {α : Type} {l : List α} {n : Nat} (h : l.length = n) (hn : n = 5) : ∃ c0 c1 c2 c3 c4, l = [c0, c1, c2, c3, c4] := by
  subst hn
  match l, h with
  | [c0, c1, c2, c3, c4], _ => exact ⟨c0, c1, c2, c3, c4, rfl⟩
theorem list3 {α : Type} {l : List α} {n : Nat} (h : l.length = n) (hn : n = 3) : ∃ c0 c1 c2, l = [c0, c1, c2] := by
  subst hn
  match l, h with
  | [c0, c1, c2], _ => exact ⟨c0, c1, c2, rfl⟩
section
variable {α : Type}
theorem flatten_len {sz : Nat} : ∀ L : List (List α), (∀ l ∈ L, l.length = sz) → L.flatten.length = L.length * sz
  | [], _ => by simp
  | l :: L, h => by
    rw [List.flatten_cons, List.length_append, h l (by simp), flatten_len L (fun x hx => h x (by simp [hx])), List.length_cons, Nat.succ_mul, Nat.add_comm]
theorem flatten_get {sz : Nat} : ∀ (L : List (List α)), (∀ l ∈ L, l.length = sz) → ∀ (i r : Nat) (l : List α), L[i]? = some l → r < sz → L.flatten[i * sz + r]? = l[r]?
  | [], _, i, r, l, hi, _ => by simp at hi
  | x :: L, h, 0, r, l, hi, hr => by
    simp at hi; subst hi
    rw [List.flatten_cons, Nat.zero_mul, Nat.zero_add, List.getElem?_append_left (by rw [h x (by simp)]; exact hr)]
  | x :: L, h, i + 1, r, l, hi, hr => by
    have hx := h x (by simp)
    rw [List.flatten_cons, List.getElem?_append_right (by rw [hx, Nat.succ_mul]; omega), hx, show (i + 1) * sz + r - sz = i * sz + r by rw [Nat.succ_mul]; omega]
    exact flatten_get L (fun y hy => h y (by simp [hy])) i r l (by simpa using hi) hr
/-- A list out of what is known at each place. -/
theorem list_of_each {Q : Nat → α → Prop} : ∀ (n : Nat), (∀ i, i < n → ∃ y, Q i y) → ∃ L : List α, L.length = n ∧ ∀ (i : Nat) (y : α), L[i]? = some y → Q i y
  | 0, _ => ⟨[], rfl, fun i y h => by simp at h⟩
  | n + 1, h => by
    obtain ⟨L, hl, hq⟩ := list_of_each n (fun i hi => h i (by omega))
    obtain ⟨y, hy⟩ := h n (by omega)
    refine ⟨L ++ [y], by simp [hl], fun i z hz => ?_⟩
    by_cases hi : i < L.length
    · rw [List.getElem?_append_left hi] at hz; exact hq i z hz
    · have hi2 : i = L.length := by
        have := (List.getElem?_eq_some_iff.1 hz).1
        simp at this; omega
      subst hi2
      rw [List.getElem?_append_right (Nat.le_refl _), Nat.sub_self] at hz
      cases hz
      rw [hl]; exact hy
theorem list_of_map {β : Type} {f : β → α} : ∀ (L : List α), (∀ (i : Nat) (y : α), L[i]? = some y → ∃ b, y = f b) → ∃ B : List β, L = B.map f
  | [], _ => ⟨[], rfl⟩
  | y :: L, h => by
    obtain ⟨b, rfl⟩ := h 0 y rfl
    obtain ⟨B, rfl⟩ := list_of_map L (fun i z hz => h (i + 1) z (by simpa using hz))
    exact ⟨b :: B, rfl⟩
end

section
variable {H : Type} {enc : TypeId × Value → H} {P : Program} {w : World}

/-- The elements of a slice, opened. -/
theorem open_slice {t e : TypeId} {fuel : Nat} {cs : List Value} {x : DataW H × List MemPlace} (ht : P.underlying t = some (.slice e)) (h : DataW.trod enc P w 0 (fun _ => true) true fuel t cs = some x) :
    ∃ (A : Option Addr) (len cap n : Nat), cs = [.slice A len cap] ∧ len ≤ cap ∧ cap ≤ maxLen ∧
      ∀ i, i < len → ∃ a css y, A = some a ∧ w.cells? 0 (a.add (i * P.cellsOf e)) (P.cellsOf e) = some css ∧ DataW.trod enc P w 0 (fun _ => true) true n e css = some y := by
  rcases DataW.trod_slice ht h with ⟨rfl, _⟩ | ⟨a, len, cap, elems, rest, n, _, rfl, _, _, hl, hm, hlen, hel, _, _⟩
  · exact ⟨none, 0, 0, 0, rfl, Nat.le_refl _, Nat.zero_le _, fun i hi => by omega⟩
  · refine ⟨some a, len, cap, n, rfl, hl, hm, fun i hi => ?_⟩
    have := hel i hi
    rw [List.getElem?_eq_getElem (show i < elems.length by omega)] at this
    obtain ⟨css, h1, h2⟩ := Option.bind_eq_some_iff.1 this
    exact ⟨a, css, _, rfl, h1, h2⟩
theorem cells_open {A : Option Addr} {len sz : Nat} {Q : Nat → List Value → Prop} (hsz : 0 < sz) (h : ∀ i, i < len → ∃ a css, A = some a ∧ w.cells? 0 (a.add (i * sz)) sz = some css ∧ Q i css) :
    ∃ L : List (List Value), L.length = len ∧ (∀ (i : Nat) (css : List Value), L[i]? = some css → css.length = sz ∧ Q i css) ∧ Cells w A L.flatten := by
  obtain ⟨L, hl, hq⟩ := list_of_each (Q := fun i css => ∃ a, A = some a ∧ w.cells? 0 (a.add (i * sz)) sz = some css ∧ Q i css) len (fun i hi => by obtain ⟨a, css, h1, h2, h3⟩ := h i hi; exact ⟨css, a, h1, h2, h3⟩)
  have hlen : ∀ (i : Nat) (css : List Value), L[i]? = some css → css.length = sz := fun i css hi => by
    obtain ⟨a, _, h2, _⟩ := hq i css hi
    exact (World.cells?_some h2).2.1
  have hall : ∀ l ∈ L, l.length = sz := fun l hm => by
    obtain ⟨i, hi, rfl⟩ := List.mem_iff_getElem.1 hm
    exact hlen i _ (List.getElem?_eq_getElem hi)
  refine ⟨L, hl, fun i css hi => ⟨hlen i css hi, by obtain ⟨a, _, _, h3⟩ := hq i css hi; exact h3⟩, fun hpos => ?_⟩
  rw [flatten_len L hall] at hpos
  have hL0 : 0 < L.length := Nat.pos_of_ne_zero (fun h0 => by rw [h0] at hpos; simp at hpos)
  obtain ⟨a, rfl, h2, _⟩ := hq 0 L[0] (List.getElem?_eq_getElem hL0)
  have hc0 := (World.cells?_some h2).2.2 0 hsz
  have hlt : 0 < (L[0]).length := by rw [hall _ (List.getElem_mem hL0)]; exact hsz
  rw [List.getElem?_eq_getElem hlt] at hc0
  obtain ⟨b, o, sp⟩ := a
  have hsp : sp = none := by
    cases sp with
    | none => rfl
    | some q =>
      simp only [Addr.add, World.cell?] at hc0
      split at hc0 <;> simp at hc0
  subst hsp
  have hb : b < w.heap.size := by
    have := World.block_lt_of_cell? _ _ hc0
    simpa [Addr.add] using this
  refine ⟨b, o, rfl, hb, fun j u hu => ?_⟩
  have hj := (List.getElem?_eq_some_iff.1 hu).1
  rw [flatten_len L hall] at hj
  have hjd : j / sz < L.length := by
    apply Nat.div_lt_of_lt_mul
    rw [Nat.mul_comm]; exact hj
  have hjr : j % sz < sz := Nat.mod_lt _ hsz
  have hje : j / sz * sz + j % sz = j := by rw [Nat.mul_comm]; exact Nat.div_add_mod _ _
  obtain ⟨a, ha, h2, _⟩ := hq (j / sz) L[j / sz] (List.getElem?_eq_getElem hjd)
  cases ha
  have hc := (World.cells?_some h2).2.2 (j % sz) hjr
  have hf := flatten_get L hall (j / sz) (j % sz) _ (List.getElem?_eq_getElem hjd) hjr
  rw [hje, hu] at hf
  rw [← hf] at hc
  rw [Addr.add_lit] at hc
  have hadd : (⟨b, o + j / sz * sz, none⟩ : Addr).add (j % sz) = ⟨b, o + j, none⟩ := by
    rw [Addr.add_lit, Nat.add_assoc, hje]
  rw [hadd] at hc
  exact hc
theorem trod_places {t : TypeId} {v : Value} {d : DataW H} {p : List MemPlace} (h : DataW.Trod enc P w 0 (fun _ => true) true t v d p) : ∀ x ∈ p, x.block < w.heap.size := by
  obtain ⟨fuel, hf⟩ := h
  exact DataW.trod_lt _ _ _ _ hf
end

theorem flatten_single (xs : List Value) : (xs.map (fun u => [u])).flatten = xs := by
  induction xs with
  | nil => rfl
  | cons x r ih => simp [ih]
section
variable {H : Type} {enc : TypeId × Value → H} {W : World}
theorem u8_nat {a : Int} (h : (Lit.int .u8 a).wf = true) : ∃ k : Nat, a = k ∧ k < 256 := by
  have := bounds_u8 h
  exact ⟨a.toNat, by omega, by omega⟩
theorem okWide_array' {P : Program} {w : World} {r : Reach} {base : Nat} {t : TypeId} {v : Value} {n : Nat} {e : TypeId} (ht : P.underlying t = some (.array n e)) (h : Value.okWide P w r base t v) : ∃ cs, v = .agg cs ∧ cs.size = P.cellsOf t := by
  simp only [Value.okWide, ht] at h
  obtain ⟨cs, h1, h2, _⟩ := h
  exact ⟨cs, h1, h2⟩
def SixB (t : A6) : Prop := t.1 < 256 ∧ t.2.1 < 256 ∧ t.2.2.1 < 256 ∧ t.2.2.2.1 < 256 ∧ t.2.2.2.2.1 < 256 ∧ t.2.2.2.2.2 < 256
theorem list6 {α : Type} {l : List α} {n : Nat} (h : l.length = n) (hn : n = 6) : ∃ c0 c1 c2 c3 c4 c5, l = [c0, c1, c2, c3, c4, c5] := by
  subst hn
  match l, h with
  | [c0, c1, c2, c3, c4, c5], _ => exact ⟨c0, c1, c2, c3, c4, c5, rfl⟩
theorem list2 {α : Type} {l : List α} {n : Nat} (h : l.length = n) (hn : n = 2) : ∃ c0 c1, l = [c0, c1] := by
  subst hn
  match l, h with
  | [c0, c1], _ => exact ⟨c0, c1, rfl⟩
theorem array4 {α : Type} {cs : Array α} (h : cs.size = 4) : ∃ c0 c1 c2 c3, cs = #[c0, c1, c2, c3] := by
  obtain ⟨l⟩ := cs
  match l, h with
  | [c0, c1, c2, c3], _ => exact ⟨c0, c1, c2, c3, rfl⟩
theorem array2 {α : Type} {cs : Array α} (h : cs.size = 2) : ∃ c0 c1, cs = #[c0, c1] := by
  obtain ⟨l⟩ := cs
  match l, h with
  | [c0, c1], _ => exact ⟨c0, c1, rfl⟩
theorem array3 {α : Type} {cs : Array α} (h : cs.size = 3) : ∃ c0 c1 c2, cs = #[c0, c1, c2] := by
  obtain ⟨l⟩ := cs
  match l, h with
  | [c0, c1, c2], _ => exact ⟨c0, c1, c2, rfl⟩
theorem k5 : Tryd.prog.cellsOf 5 = 1 := by kernel_rfl
set_option maxRecDepth 100000 in
theorem open_six {fuel : Nat} {cs : List Value} {x : DataW H × List MemPlace} (h : DataW.trod enc Tryd.prog W 0 (fun _ => true) true fuel 87 cs = some x) : ∃ t : {t : A6 // SixB t}, cs = a6Cells t.1 := by
  obtain ⟨xs, m, _, _, hlen, hxl, hel⟩ := DataW.trod_array Tryd.underlying87 h
  have k87 : Tryd.prog.cellsOf 87 = 6 := by kernel_rfl
  obtain ⟨c0, c1, c2, c3, c4, c5, rfl⟩ := list6 hlen k87
  obtain ⟨y0, y1, y2, y3, y4, y5, rfl⟩ := list6 hxl rfl
  have h0 : DataW.trod enc Tryd.prog W 0 (fun _ => true) true m 5 [c0] = some y0 := by simpa [k5] using hel 0 (by omega)
  have h1 : DataW.trod enc Tryd.prog W 0 (fun _ => true) true m 5 [c1] = some y1 := by simpa [k5] using hel 1 (by omega)
  have h2 : DataW.trod enc Tryd.prog W 0 (fun _ => true) true m 5 [c2] = some y2 := by simpa [k5] using hel 2 (by omega)
  have h3 : DataW.trod enc Tryd.prog W 0 (fun _ => true) true m 5 [c3] = some y3 := by simpa [k5] using hel 3 (by omega)
  have h4 : DataW.trod enc Tryd.prog W 0 (fun _ => true) true m 5 [c4] = some y4 := by simpa [k5] using hel 4 (by omega)
  have h5 : DataW.trod enc Tryd.prog W 0 (fun _ => true) true m 5 [c5] = some y5 := by simpa [k5] using hel 5 (by omega)
  obtain ⟨a0, e0, _, w0⟩ := DataW.trod_int Tryd.underlying5 h0
  obtain ⟨a1, e1, _, w1⟩ := DataW.trod_int Tryd.underlying5 h1
  obtain ⟨a2, e2, _, w2⟩ := DataW.trod_int Tryd.underlying5 h2
  obtain ⟨a3, e3, _, w3⟩ := DataW.trod_int Tryd.underlying5 h3
  obtain ⟨a4, e4, _, w4⟩ := DataW.trod_int Tryd.underlying5 h4
  obtain ⟨a5, e5, _, w5⟩ := DataW.trod_int Tryd.underlying5 h5
  cases e0; cases e1; cases e2; cases e3; cases e4; cases e5
  obtain ⟨n0, rfl, l0⟩ := u8_nat w0
  obtain ⟨n1, rfl, l1⟩ := u8_nat w1
  obtain ⟨n2, rfl, l2⟩ := u8_nat w2
  obtain ⟨n3, rfl, l3⟩ := u8_nat w3
  obtain ⟨n4, rfl, l4⟩ := u8_nat w4
  obtain ⟨n5, rfl, l5⟩ := u8_nat w5
  exact ⟨⟨(n0, n1, n2, n3, n4, n5), l0, l1, l2, l3, l4, l5⟩, rfl⟩
set_option maxRecDepth 100000 in
theorem open_sixes {fuel : Nat} {c : Value} {x : DataW H × List MemPlace} (h : DataW.trod enc Tryd.prog W 0 (fun _ => true) true fuel 23 [c] = some x) : ∃ (A : Option Addr) (l : List A6) (k : Nat), c = .slice A l.length k ∧ Cells W A (l.flatMap a6Cells) ∧ l.length ≤ k ∧ l.length ≤ lenMax ∧ ∀ t ∈ l, SixB t := by
  obtain ⟨A, len, cap, n, e0, hl, hm, hel⟩ := open_slice Tryd.underlying23 h
  have hc : Tryd.prog.cellsOf 87 = 6 := by kernel_rfl
  rw [hc] at hel
  obtain ⟨L, hL, hq, hcs⟩ := cells_open (w := W) (A := A) (len := len) (sz := 6) (Q := fun _ css => ∃ t : {t : A6 // SixB t}, css = a6Cells t.1) (by omega) (fun i hi => by
    obtain ⟨a, css, y, h1, h2, h3⟩ := hel i hi
    exact ⟨a, css, h1, h2, open_six h3⟩)
  obtain ⟨B, rfl⟩ := list_of_map (f := fun (t : {t : A6 // SixB t}) => a6Cells t.1) L (fun i y hy => (hq i y hy).2)
  have hBL : (B.map (·.1)).length = len := by rw [List.length_map] at hL ⊢; exact hL
  refine ⟨A, B.map (·.1), cap, by rw [hBL]; simpa using e0, ?_, by rw [hBL]; exact hl, by rw [hBL]; exact Nat.le_trans hl hm, fun t ht => ?_⟩
  · have he2 : (B.map (·.1)).flatMap a6Cells = (B.map (fun t => a6Cells t.1)).flatten := by
      rw [List.flatMap_def, List.map_map]; rfl
    rw [he2]
    exact hcs
  · obtain ⟨y, _, rfl⟩ := List.mem_map.1 ht
    exact y.2
set_option maxRecDepth 100000 in
/-- The cells of an array of bytes. -/
theorem open_pair {fuel : Nat} {cs : List Value} {x : DataW H × List MemPlace} (h : DataW.trod enc Tryd.prog W 0 (fun _ => true) true fuel 22 cs = some x) : ∃ p q : Nat, p < 256 ∧ q < 256 ∧ cs = [.int .u8 (p : Int), .int .u8 (q : Int)] := by
  obtain ⟨xs, m, _, _, hlen, hxl, hel⟩ := DataW.trod_array Tryd.underlying22 h
  have k22 : Tryd.prog.cellsOf 22 = 2 := by kernel_rfl
  obtain ⟨c0, c1, rfl⟩ := list2 hlen k22
  obtain ⟨y0, y1, rfl⟩ := list2 hxl rfl
  have h0 : DataW.trod enc Tryd.prog W 0 (fun _ => true) true m 5 [c0] = some y0 := by simpa [k5] using hel 0 (by omega)
  have h1 : DataW.trod enc Tryd.prog W 0 (fun _ => true) true m 5 [c1] = some y1 := by simpa [k5] using hel 1 (by omega)
  obtain ⟨a0, e0, _, w0⟩ := DataW.trod_int Tryd.underlying5 h0
  obtain ⟨a1, e1, _, w1⟩ := DataW.trod_int Tryd.underlying5 h1
  cases e0; cases e1
  obtain ⟨n0, rfl, l0⟩ := u8_nat w0
  obtain ⟨n1, rfl, l1⟩ := u8_nat w1
  exact ⟨n0, n1, l0, l1, rfl⟩
set_option maxRecDepth 100000 in
theorem open_trip {fuel : Nat} {cs : List Value} {x : DataW H × List MemPlace} (h : DataW.trod enc Tryd.prog W 0 (fun _ => true) true fuel 26 cs = some x) : ∃ p q r : Nat, p < 256 ∧ q < 256 ∧ r < 256 ∧ cs = [.int .u8 (p : Int), .int .u8 (q : Int), .int .u8 (r : Int)] := by
  obtain ⟨xs, m, _, _, hlen, hxl, hel⟩ := DataW.trod_array Tryd.underlying26 h
  have k26 : Tryd.prog.cellsOf 26 = 3 := by kernel_rfl
  obtain ⟨c0, c1, c2, rfl⟩ := list3 hlen k26
  obtain ⟨y0, y1, y2, rfl⟩ := list3 hxl rfl
  have h0 : DataW.trod enc Tryd.prog W 0 (fun _ => true) true m 5 [c0] = some y0 := by simpa [k5] using hel 0 (by omega)
  have h1 : DataW.trod enc Tryd.prog W 0 (fun _ => true) true m 5 [c1] = some y1 := by simpa [k5] using hel 1 (by omega)
  have h2 : DataW.trod enc Tryd.prog W 0 (fun _ => true) true m 5 [c2] = some y2 := by simpa [k5] using hel 2 (by omega)
  obtain ⟨a0, e0, _, w0⟩ := DataW.trod_int Tryd.underlying5 h0
  obtain ⟨a1, e1, _, w1⟩ := DataW.trod_int Tryd.underlying5 h1
  obtain ⟨a2, e2, _, w2⟩ := DataW.trod_int Tryd.underlying5 h2
  cases e0; cases e1; cases e2
  obtain ⟨n0, rfl, l0⟩ := u8_nat w0
  obtain ⟨n1, rfl, l1⟩ := u8_nat w1
  obtain ⟨n2, rfl, l2⟩ := u8_nat w2
  exact ⟨n0, n1, n2, l0, l1, l2, rfl⟩
set_option maxRecDepth 100000 in
/-- A value of type V, read as data. -/
theorem open_v {b0 : Nat} {v : Value} {d : DataW H} {p : List MemPlace} (hv : Value.okWide Tryd.prog W .any b0 25 v) (h : DataW.Trod enc Tryd.prog W 0 (fun _ => true) true 25 v d p) : ∃ r, VdV W v r := by
  obtain ⟨cs, rfl, hsz⟩ := okWide_struct Tryd.underlying25 hv
  have hc4 : Tryd.prog.cellsOf 25 = 4 := by kernel_rfl
  obtain ⟨fuel, hf⟩ := h
  obtain ⟨xs, n, _, hx, hlen, hxl, hfs⟩ := DataW.trod_struct Tryd.underlying25 hf
  have hc : cs.size = 4 := hsz.trans hc4
  obtain ⟨c0, c1, c2, c3, rfl⟩ := array4 hc
  obtain ⟨y0, y1, y2, rfl⟩ := list3 (n := 3) hxl rfl
  have k22 : Tryd.prog.cellsOf 22 = 2 := by kernel_rfl
  have k23 : Tryd.prog.cellsOf 23 = 1 := by kernel_rfl
  have h0 : DataW.trod enc Tryd.prog W 0 (fun _ => true) true n 5 [c0] = some y0 := by simpa [k5, Value.cells] using hfs 0 _ rfl
  have h1 : DataW.trod enc Tryd.prog W 0 (fun _ => true) true n 22 [c1, c2] = some y1 := by simpa [k5, k22, Value.cells] using hfs 1 _ rfl
  have h2 : DataW.trod enc Tryd.prog W 0 (fun _ => true) true n 23 [c3] = some y2 := by simpa [k5, k22, k23, Value.cells] using hfs 2 _ rfl
  obtain ⟨a0, e0, _, w0⟩ := DataW.trod_int Tryd.underlying5 h0
  cases e0
  obtain ⟨n0, rfl, l0⟩ := u8_nat w0
  obtain ⟨n1, n2, l1, l2, e1⟩ := open_pair h1
  cases e1
  obtain ⟨A, l, k, rfl, hb, hk, hm, hs⟩ := open_sixes h2
  exact ⟨⟨n0, n1, n2, l⟩, l0, l1, l2, hs, A, k, rfl, hb, hk, hm⟩
set_option maxRecDepth 100000 in
theorem open_p2 {b0 : Nat} {v : Value} {d : DataW H} {p : List MemPlace} (hv : Value.okWide Tryd.prog W .any b0 22 v) (h : DataW.Trod enc Tryd.prog W 0 (fun _ => true) true 22 v d p) : ∃ p q : Nat, p < 256 ∧ q < 256 ∧ v = .agg #[.int .u8 (p : Int), .int .u8 (q : Int)] := by
  obtain ⟨cs, rfl, hsz⟩ := okWide_array' Tryd.underlying22 hv
  obtain ⟨fuel, hf⟩ := h
  have hf : DataW.trod enc Tryd.prog W 0 (fun _ => true) true fuel 22 cs.toList = some (d, p) := by simpa [Value.cells] using hf
  obtain ⟨p, q, l1, l2, e⟩ := open_pair hf
  obtain ⟨l⟩ := cs
  simp only at e
  subst e
  exact ⟨p, q, l1, l2, rfl⟩
set_option maxRecDepth 100000 in
theorem open_p3 {b0 : Nat} {v : Value} {d : DataW H} {p : List MemPlace} (hv : Value.okWide Tryd.prog W .any b0 26 v) (h : DataW.Trod enc Tryd.prog W 0 (fun _ => true) true 26 v d p) : ∃ p q r : Nat, p < 256 ∧ q < 256 ∧ r < 256 ∧ v = .agg #[.int .u8 (p : Int), .int .u8 (q : Int), .int .u8 (r : Int)] := by
  obtain ⟨cs, rfl, hsz⟩ := okWide_array' Tryd.underlying26 hv
  obtain ⟨fuel, hf⟩ := h
  have hf : DataW.trod enc Tryd.prog W 0 (fun _ => true) true fuel 26 cs.toList = some (d, p) := by simpa [Value.cells] using hf
  obtain ⟨p, q, r, l1, l2, l3, e⟩ := open_trip hf
  obtain ⟨l⟩ := cs
  simp only at e
  subst e
  exact ⟨p, q, r, l1, l2, l3, rfl⟩
theorem open_byte {fuel : Nat} {cs : List Value} {x : DataW H × List MemPlace} (h : DataW.trod enc Tryd.prog W 0 (fun _ => true) true fuel 5 cs = some x) : ∃ t : {t : Nat // t < 256}, cs = [.int .u8 (t.1 : Int)] := by
  obtain ⟨a, e, _, w⟩ := DataW.trod_int Tryd.underlying5 h
  obtain ⟨n, rfl, l⟩ := u8_nat w
  exact ⟨⟨n, l⟩, e⟩
set_option maxRecDepth 100000 in
theorem open_u8s {b0 : Nat} {v : Value} {d : DataW H} {p : List MemPlace} (hv : Value.okWide Tryd.prog W .any b0 44 v) (h : DataW.Trod enc Tryd.prog W 0 (fun _ => true) true 44 v d p) : ∃ (xs : List Nat) (c : Nat), U8sC W v xs c := by
  obtain ⟨a, len0, cp, rfl⟩ := okWide_slice Tryd.underlying44 hv
  obtain ⟨fuel, hf⟩ := h
  obtain ⟨A, len, cap, n, e0, hl, hm, hel⟩ := open_slice Tryd.underlying44 hf
  have hc : Tryd.prog.cellsOf 5 = 1 := by kernel_rfl
  rw [hc] at hel
  obtain ⟨L, hL, hq, hcs⟩ := cells_open (w := W) (A := A) (len := len) (sz := 1) (Q := fun _ css => ∃ t : {t : Nat // t < 256}, css = [.int .u8 (t.1 : Int)]) (by omega) (fun i hi => by
    obtain ⟨a, css, y, h1, h2, h3⟩ := hel i hi
    exact ⟨a, css, h1, h2, open_byte h3⟩)
  obtain ⟨B, rfl⟩ := list_of_map (f := fun (t : {t : Nat // t < 256}) => [Value.int .u8 (t.1 : Int)]) L (fun i y hy => (hq i y hy).2)
  have hBL : (B.map (·.1)).length = len := by rw [List.length_map] at hL ⊢; exact hL
  have hve : Value.slice a len0 cp = .slice A len cap := by simpa [Value.cells] using e0
  refine ⟨B.map (·.1), cap, A, by rw [hBL]; exact hve, ?_, by rw [hBL]; exact hl, by rw [hBL]; exact Nat.le_trans hl hm, fun z hz => ?_⟩
  · have he2 : (B.map (·.1)).map (fun (x : Nat) => Value.int .u8 (x : Int)) = (B.map (fun t => [Value.int .u8 (t.1 : Int)])).flatten := by
      rw [List.map_map]
      conv => lhs; rw [← flatten_single (B.map _), List.map_map]
      rfl
    rw [he2]
    exact hcs
  · obtain ⟨y, _, rfl⟩ := List.mem_map.1 hz
    exact y.2
end
end Go.Proofs.YtggffdkgfgdaoaaDoor

namespace Go.Proofs.YtggffdkgfgdaoaaDoor
open Go.ChangeShapes Go.WideShapes Go.ChangeAt Go.RowKit
set_option linter.unusedVariables false
set_option linter.unusedSimpArgs false
theorem list7 {α : Type} {l : List α} {n : Nat} (h : l.length = n) (hn : n = 7) : ∃ c0 c1 c2 c3 c4 c5 c6, l = [c0, c1, c2, c3, c4, c5, c6] := by
  subst hn
  match l, h with
  | [c0, c1, c2, c3, c4, c5, c6], _ => exact ⟨c0, c1, c2, c3, c4, c5, c6, rfl⟩
set_option maxRecDepth 100000 in
theorem row_op {W : World} {fuel : Nat} {cs : List Value} {a b c dd : DataW (List UInt8)} {n : Int} {f : Bool} {p : List MemPlace} (h : DataW.trod (funcToken Tryd.prog) Tryd.prog W 0 (fun _ => true) true fuel 144 cs = some (.agg [a, .lit (.int .i64 n), b, c, .lit (.bool f), dd], p)) :
    cs[1]? = some (.int .i64 n) ∧ cs[5]? = some (.bool f) ∧ ∃ v m q, cs[6]? = some v ∧ DataW.trod (funcToken Tryd.prog) Tryd.prog W 0 (fun _ => true) true m 142 [v] = some (dd, q) := by
  obtain ⟨xs, m, _, hx, hlen, hxl, hfs⟩ := DataW.trod_struct Tryd.underlying144 h
  have k144 : Tryd.prog.cellsOf 144 = 7 := by kernel_rfl
  have k3 : Tryd.prog.cellsOf 3 = 1 := by kernel_rfl
  have k4 : Tryd.prog.cellsOf 4 = 1 := by kernel_rfl
  have k9 : Tryd.prog.cellsOf 9 = 1 := by kernel_rfl
  have k141 : Tryd.prog.cellsOf 141 = 2 := by kernel_rfl
  have k142 : Tryd.prog.cellsOf 142 = 1 := by kernel_rfl
  obtain ⟨c0, c1, c2, c3, c4, c5, c6, rfl⟩ := list7 hlen k144
  obtain ⟨y0, y1, y2, y3, y4, y5, rfl⟩ := list6 (n := 6) hxl rfl
  have h1 : DataW.trod (funcToken Tryd.prog) Tryd.prog W 0 (fun _ => true) true m 3 [c1] = some y1 := by simpa [k3, k4, k9, k141, k142] using hfs 1 _ rfl
  have h4 : DataW.trod (funcToken Tryd.prog) Tryd.prog W 0 (fun _ => true) true m 4 [c5] = some y4 := by simpa [k3, k4, k9, k141, k142] using hfs 4 _ rfl
  have h5 : DataW.trod (funcToken Tryd.prog) Tryd.prog W 0 (fun _ => true) true m 142 [c6] = some y5 := by simpa [k3, k4, k9, k141, k142] using hfs 5 _ rfl
  have hx1 := congrArg Prod.fst hx
  simp at hx1
  obtain ⟨_, e1, _, _, e4, e5⟩ := hx1
  obtain ⟨z1, g1, g2, _⟩ := DataW.trod_int Tryd.underlying3 h1
  obtain ⟨z4, g4, g5⟩ := DataW.trod_bool Tryd.underlying4 h4
  rw [g2] at e1
  rw [g5] at e4
  simp at e1 e4 g1 g4
  subst g1 g4 e1 e4
  exact ⟨rfl, rfl, c6, m, y5.2, rfl, by rw [h5, e5]⟩
def opsD : List (DataW (List UInt8)) := [.agg [.lit (.string []), .lit (.int .i64 0), .lit (.int .i64 8), .agg [.lit (.int .i64 0), .lit (.int .i64 0)], .lit (.bool false), .nil],
  .agg [.lit (.string []), .lit (.int .i64 0), .lit (.int .i64 8), .agg [.lit (.int .i64 0), .lit (.int .i64 0)], .lit (.bool false), .nil],
  .agg [.lit (.string [45]), .lit (.int .i64 1), .lit (.int .i64 7), .agg [.lit (.int .i64 7), .lit (.int .i64 0)], .lit (.bool true), .held [103, 97, 117, 110, 116, 108, 101, 116, 47, 103, 117, 97, 114, 100, 115, 46, 111, 112, 101, 114, 97, 116, 105, 111, 110, 115, 36, 49]],
  .agg [.lit (.string [43]), .lit (.int .i64 2), .lit (.int .i64 5), .agg [.lit (.int .i64 5), .lit (.int .i64 6)], .lit (.bool true), .held [103, 97, 117, 110, 116, 108, 101, 116, 47, 103, 117, 97, 114, 100, 115, 46, 111, 112, 101, 114, 97, 116, 105, 111, 110, 115, 36, 50]],
  .agg [.lit (.string [45]), .lit (.int .i64 2), .lit (.int .i64 5), .agg [.lit (.int .i64 5), .lit (.int .i64 6)], .lit (.bool true), .held [103, 97, 117, 110, 116, 108, 101, 116, 47, 103, 117, 97, 114, 100, 115, 46, 111, 112, 101, 114, 97, 116, 105, 111, 110, 115, 36, 51]],
  .agg [.lit (.string [42]), .lit (.int .i64 2), .lit (.int .i64 6), .agg [.lit (.int .i64 6), .lit (.int .i64 7)], .lit (.bool true), .held [103, 97, 117, 110, 116, 108, 101, 116, 47, 103, 117, 97, 114, 100, 115, 46, 111, 112, 101, 114, 97, 116, 105, 111, 110, 115, 36, 52]],
  .agg [.lit (.string [61]), .lit (.int .i64 2), .lit (.int .i64 4), .agg [.lit (.int .i64 5), .lit (.int .i64 5)], .lit (.bool true), .held [103, 97, 117, 110, 116, 108, 101, 116, 47, 103, 117, 97, 114, 100, 115, 46, 111, 112, 101, 114, 97, 116, 105, 111, 110, 115, 36, 53]],
  .agg [.lit (.string [60]), .lit (.int .i64 2), .lit (.int .i64 4), .agg [.lit (.int .i64 5), .lit (.int .i64 5)], .lit (.bool true), .held [103, 97, 117, 110, 116, 108, 101, 116, 47, 103, 117, 97, 114, 100, 115, 46, 111, 112, 101, 114, 97, 116, 105, 111, 110, 115, 36, 54]],
  .agg [.lit (.string [60, 61]), .lit (.int .i64 2), .lit (.int .i64 4), .agg [.lit (.int .i64 5), .lit (.int .i64 5)], .lit (.bool true), .held [103, 97, 117, 110, 116, 108, 101, 116, 47, 103, 117, 97, 114, 100, 115, 46, 111, 112, 101, 114, 97, 116, 105, 111, 110, 115, 36, 55]],
  .agg [.lit (.string [110, 111, 116]), .lit (.int .i64 1), .lit (.int .i64 3), .agg [.lit (.int .i64 3), .lit (.int .i64 0)], .lit (.bool false), .held [103, 97, 117, 110, 116, 108, 101, 116, 47, 103, 117, 97, 114, 100, 115, 46, 111, 112, 101, 114, 97, 116, 105, 111, 110, 115, 36, 56]],
  .agg [.lit (.string [97, 110, 100]), .lit (.int .i64 2), .lit (.int .i64 2), .agg [.lit (.int .i64 2), .lit (.int .i64 3)], .lit (.bool false), .held [103, 97, 117, 110, 116, 108, 101, 116, 47, 103, 117, 97, 114, 100, 115, 46, 111, 112, 101, 114, 97, 116, 105, 111, 110, 115, 36, 57]],
  .agg [.lit (.string [111, 114]), .lit (.int .i64 2), .lit (.int .i64 1), .agg [.lit (.int .i64 1), .lit (.int .i64 2)], .lit (.bool false), .held [103, 97, 117, 110, 116, 108, 101, 116, 47, 103, 117, 97, 114, 100, 115, 46, 111, 112, 101, 114, 97, 116, 105, 111, 110, 115, 36, 49, 48]]]
set_option maxRecDepth 100000 in
theorem of_ops {W : World} (h : laidMetH Tryd.prog [("gauntlet/guards.operations", Rows.laid_gauntlet_guards_operations)] W) :
    ∃ cs : Array Value, (∀ r, W.cell? ⟨0, r, none⟩ = cs[r]?) ∧ ∃ (fuel : Nat) (p : List MemPlace), DataW.trod (funcToken Tryd.prog) Tryd.prog W 0 (fun _ => true) true fuel 145 cs.toList = some (.agg opsD, p) := by
  obtain ⟨g, t, cs, fuel, p, hg, ht, hv, hd⟩ := h.funcs (n := "gauntlet/guards.operations") (List.mem_cons_self)
  obtain rfl := Option.some.inj ((show Tryd.prog.globalNamed "gauntlet/guards.operations" = some 0 by kernel_rfl).symm.trans hg)
  obtain rfl := Option.some.inj ((show (Tryd.prog.globals[0]?).map (·.type) = some 145 by kernel_rfl).symm.trans ht)
  exact ⟨cs, fun r => World.var?_cell hg hv r, fuel, p, hd.trans (by kernel_rfl)⟩
set_option maxRecDepth 100000 in
theorem ops_row {W : World} {cs : Array Value} {fuel : Nat} {p : List MemPlace} (hd : DataW.trod (funcToken Tryd.prog) Tryd.prog W 0 (fun _ => true) true fuel 145 cs.toList = some (.agg opsD, p)) (k : Nat) (hk : k < 12) {a b c dd : DataW (List UInt8)} {n : Int} {f : Bool}
    (hr : opsD[k]? = some (.agg [a, .lit (.int .i64 n), b, c, .lit (.bool f), dd])) : cs[k * 7 + 1]? = some (.int .i64 n) ∧ cs[k * 7 + 5]? = some (.bool f) ∧ ∃ v m q, cs[k * 7 + 6]? = some v ∧ DataW.trod (funcToken Tryd.prog) Tryd.prog W 0 (fun _ => true) true m 142 [v] = some (dd, q) := by
  obtain ⟨xs, m, _, ex, _, hl, hel⟩ := DataW.trod_array Tryd.underlying145 hd
  have k144 : Tryd.prog.cellsOf 144 = 7 := by kernel_rfl
  have hE := hel k hk
  rw [k144, List.getElem?_eq_getElem (by omega)] at hE
  have e3 : (xs.map (·.1)) = opsD := by
    have := congrArg Prod.fst ex
    simp at this
    exact this.symm
  have e4 : (xs.map (·.1))[k]? = some (.agg [a, .lit (.int .i64 n), b, c, .lit (.bool f), dd]) := by rw [e3]; exact hr
  rw [List.getElem?_map, List.getElem?_eq_getElem (by omega : k < xs.length)] at e4
  simp only [Option.map_some, Option.some.injEq] at e4
  have hE2 : DataW.trod (funcToken Tryd.prog) Tryd.prog W 0 (fun _ => true) true m 144 ((cs.toList.drop (k * 7)).take 7) = some (.agg [a, .lit (.int .i64 n), b, c, .lit (.bool f), dd], (xs[k]).2) := by
    rw [hE, ← e4]
  obtain ⟨h1, h5, v, m', q, h6, h7⟩ := row_op hE2
  have g : ∀ j, j < 7 → ((cs.toList.drop (k * 7)).take 7)[j]? = cs[k * 7 + j]? := fun j hj => by
    rw [List.getElem?_take, if_pos hj, List.getElem?_drop]; simp
  rw [g 1 (by omega)] at h1
  rw [g 5 (by omega)] at h5
  rw [g 6 (by omega)] at h6
  exact ⟨h1, h5, v, m', q, h6, h7⟩
set_option maxRecDepth 100000 in
theorem tab_of_laid {W : World} (h : laidMetH Tryd.prog [("gauntlet/guards.operations", Rows.laid_gauntlet_guards_operations)] W) : OpsTab W := by
  obtain ⟨cs, hc, fuel, p, hd⟩ := of_ops h
  intro k hk
  rw [hc, hc, hc]
  match k, hk with
  | 0, _ => have h1 := ops_row hd 0 (by decide) rfl; exact ⟨h1.1, h1.2.1, fun h => absurd h (by decide)⟩
  | 1, _ => have h1 := ops_row hd 1 (by decide) rfl; exact ⟨h1.1, h1.2.1, fun h => absurd h (by decide)⟩
  | 2, _ =>
    obtain ⟨h1, h5, v, m, q, h6, h7⟩ := ops_row hd 2 (by decide) rfl
    refine ⟨h1, h5, fun _ => ?_⟩
    rw [h6, func_of_trod (f0 := fnO 2) Tryd.underlying142 (by kernel_rfl) h7]
  | 3, _ =>
    obtain ⟨h1, h5, v, m, q, h6, h7⟩ := ops_row hd 3 (by decide) rfl
    refine ⟨h1, h5, fun _ => ?_⟩
    rw [h6, func_of_trod (f0 := fnO 3) Tryd.underlying142 (by kernel_rfl) h7]
  | 4, _ =>
    obtain ⟨h1, h5, v, m, q, h6, h7⟩ := ops_row hd 4 (by decide) rfl
    refine ⟨h1, h5, fun _ => ?_⟩
    rw [h6, func_of_trod (f0 := fnO 4) Tryd.underlying142 (by kernel_rfl) h7]
  | 5, _ =>
    obtain ⟨h1, h5, v, m, q, h6, h7⟩ := ops_row hd 5 (by decide) rfl
    refine ⟨h1, h5, fun _ => ?_⟩
    rw [h6, func_of_trod (f0 := fnO 5) Tryd.underlying142 (by kernel_rfl) h7]
  | 6, _ =>
    obtain ⟨h1, h5, v, m, q, h6, h7⟩ := ops_row hd 6 (by decide) rfl
    refine ⟨h1, h5, fun _ => ?_⟩
    rw [h6, func_of_trod (f0 := fnO 6) Tryd.underlying142 (by kernel_rfl) h7]
  | 7, _ =>
    obtain ⟨h1, h5, v, m, q, h6, h7⟩ := ops_row hd 7 (by decide) rfl
    refine ⟨h1, h5, fun _ => ?_⟩
    rw [h6, func_of_trod (f0 := fnO 7) Tryd.underlying142 (by kernel_rfl) h7]
  | 8, _ =>
    obtain ⟨h1, h5, v, m, q, h6, h7⟩ := ops_row hd 8 (by decide) rfl
    refine ⟨h1, h5, fun _ => ?_⟩
    rw [h6, func_of_trod (f0 := fnO 8) Tryd.underlying142 (by kernel_rfl) h7]
  | 9, _ =>
    obtain ⟨h1, h5, v, m, q, h6, h7⟩ := ops_row hd 9 (by decide) rfl
    refine ⟨h1, h5, fun _ => ?_⟩
    rw [h6, func_of_trod (f0 := fnO 9) Tryd.underlying142 (by kernel_rfl) h7]
  | 10, _ =>
    obtain ⟨h1, h5, v, m, q, h6, h7⟩ := ops_row hd 10 (by decide) rfl
    refine ⟨h1, h5, fun _ => ?_⟩
    rw [h6, func_of_trod (f0 := fnO 10) Tryd.underlying142 (by kernel_rfl) h7]
  | 11, _ =>
    obtain ⟨h1, h5, v, m, q, h6, h7⟩ := ops_row hd 11 (by decide) rfl
    refine ⟨h1, h5, fun _ => ?_⟩
    rw [h6, func_of_trod (f0 := fnO 11) Tryd.underlying142 (by kernel_rfl) h7]
end Go.Proofs.YtggffdkgfgdaoaaDoor
