/- Values of type B and []uint8, read as data; what the table of math/bits holds when the call begins. -/
import Derived.Test.YtamodjlifpjaoaaDoorGJ
import Derived.Test.YtamodjlifpjaoaaDoorRows
import Derived.ProofKit
import Derived.Carry
import Derived.OpenShut
import Derived.LaidMore
import Derived.LaidOnce
import Derived.Stop.Joined
namespace Go.Proofs.YtamodjlifpjaoaaDoor
open Go.ChangeShapes Go.WideShapes Go.ChangeAt Go.RowKit
set_option linter.unusedVariables false
set_option linter.unusedSimpArgs false
theorem Tryd.own : ownKnob Tryd.prog.godebug = none := by kernel_rfl
theorem list4 {α : Type} {l : List α} {n : Nat} (h : l.length = n) (hn : n = 4) : ∃ c0 c1 c2 c3, l = [c0, c1, c2, c3] := by
  subst hn
  match l, h with
  | [c0, c1, c2, c3], _ => exact ⟨c0, c1, c2, c3, rfl⟩
theorem array5 {α : Type} {cs : Array α} (h : cs.size = 5) : ∃ c0 c1 c2 c3 c4, cs = #[c0, c1, c2, c3, c4] := by
  obtain ⟨l⟩ := cs
  match l, h with
  | [c0, c1, c2, c3, c4], _ => exact ⟨c0, c1, c2, c3, c4, rfl⟩
theorem list5 {α : Type} {l : List α} {n : Nat} (h : l.length = n) (hn : n = 5) : ∃ c0 c1 c2 c3 c4, l = [c0, c1, c2, c3, c4] := by
  subst hn
  match l, h with
  | [c0, c1, c2, c3, c4], _ => exact ⟨c0, c1, c2, c3, c4, rfl⟩
theorem list3 {α : Type} {l : List α} {n : Nat} (h : l.length = n) (hn : n = 3) : ∃ c0 c1 c2, l = [c0, c1, c2] := by
  subst hn
  match l, h with
  | [c0, c1, c2], _ => exact ⟨c0, c1, c2, rfl⟩
section
variable {α : Type}
theorem flatten_len {sz : Nat} : ∀ L : List (List α), (∀ l ∈ L, l.length = sz) → L.flatten.length = L.length * sz
  | [], _ => by simp
  | l :: L, h => by
    rw [List.flatten_cons, List.length_append, h l (by simp), flatten_len L (fun x hx => h x (by simp [hx])), List.length_cons, Nat.succ_mul, Nat.add_comm]
theorem flatten_get {sz : Nat} : ∀ (L : List (List α)), (∀ l ∈ L, l.length = sz) → ∀ (i r : Nat) (l : List α), L[i]? = some l → r < sz → L.flatten[i * sz + r]? = l[r]?
  | [], _, i, r, l, hi, _ => by simp at hi
  | x :: L, h, 0, r, l, hi, hr => by
    simp at hi; subst hi
    rw [List.flatten_cons, Nat.zero_mul, Nat.zero_add, List.getElem?_append_left (by rw [h x (by simp)]; exact hr)]
  | x :: L, h, i + 1, r, l, hi, hr => by
    have hx := h x (by simp)
    rw [List.flatten_cons, List.getElem?_append_right (by rw [hx, Nat.succ_mul]; omega), hx, show (i + 1) * sz + r - sz = i * sz + r by rw [Nat.succ_mul]; omega]
    exact flatten_get L (fun y hy => h y (by simp [hy])) i r l (by simpa using hi) hr
/-- A list out of what is known at each place. -/
theorem list_of_each {Q : Nat → α → Prop} : ∀ (n : Nat), (∀ i, i < n → ∃ y, Q i y) → ∃ L : List α, L.length = n ∧ ∀ (i : Nat) (y : α), L[i]? = some y → Q i y
  | 0, _ => ⟨[], rfl, fun i y h => by simp at h⟩
  | n + 1, h => by
    obtain ⟨L, hl, hq⟩ := list_of_each n (fun i hi => h i (by omega))
    obtain ⟨y, hy⟩ := h n (by omega)
    refine ⟨L ++ [y], by simp [hl], fun i z hz => ?_⟩
    by_cases hi : i < L.length
    · rw [List.getElem?_append_left hi] at hz; exact hq i z hz
    · have hi2 : i = L.length := by
        have := (List.getElem?_eq_some_iff.1 hz).1
        simp at this; omega
      subst hi2
      rw [List.getElem?_append_right (Nat.le_refl _), Nat.sub_self] at hz
      cases hz
      rw [hl]; exact hy
theorem list_of_map {β : Type} {f : β → α} : ∀ (L : List α), (∀ (i : Nat) (y : α), L[i]? = some y → ∃ b, y = f b) → ∃ B : List β, L = B.map f
  | [], _ => ⟨[], rfl⟩
  | y :: L, h => by
    obtain ⟨b, rfl⟩ := h 0 y rfl
    obtain ⟨B, rfl⟩ := list_of_map L (fun i z hz => h (i + 1) z (by simpa using hz))
    exact ⟨b :: B, rfl⟩
end

section
variable {H : Type} {enc : TypeId × Value → H} {P : Program} {w : World}

/-- The elements of a slice, opened. -/
theorem open_slice {t e : TypeId} {fuel : Nat} {cs : List Value} {x : DataW H × List MemPlace} (ht : P.underlying t = some (.slice e)) (h : DataW.trod enc P w 0 (fun _ => true) true fuel t cs = some x) :
    ∃ (A : Option Addr) (len cap n : Nat), cs = [.slice A len cap] ∧ len ≤ cap ∧ cap ≤ maxLen ∧
      ∀ i, i < len → ∃ a css y, A = some a ∧ w.cells? 0 (a.add (i * P.cellsOf e)) (P.cellsOf e) = some css ∧ DataW.trod enc P w 0 (fun _ => true) true n e css = some y := by
  rcases DataW.trod_slice ht h with ⟨rfl, _⟩ | ⟨a, len, cap, elems, rest, n, _, rfl, _, _, hl, hm, hlen, hel, _, _⟩
  · exact ⟨none, 0, 0, 0, rfl, Nat.le_refl _, Nat.zero_le _, fun i hi => by omega⟩
  · refine ⟨some a, len, cap, n, rfl, hl, hm, fun i hi => ?_⟩
    have := hel i hi
    rw [List.getElem?_eq_getElem (show i < elems.length by omega)] at this
    obtain ⟨css, h1, h2⟩ := Option.bind_eq_some_iff.1 this
    exact ⟨a, css, _, rfl, h1, h2⟩
theorem cells_open {A : Option Addr} {len sz : Nat} {Q : Nat → List Value → Prop} (hsz : 0 < sz) (h : ∀ i, i < len → ∃ a css, A = some a ∧ w.cells? 0 (a.add (i * sz)) sz = some css ∧ Q i css) :
    ∃ L : List (List Value), L.length = len ∧ (∀ (i : Nat) (css : List Value), L[i]? = some css → css.length = sz ∧ Q i css) ∧ Cells w A L.flatten := by
  obtain ⟨L, hl, hq⟩ := list_of_each (Q := fun i css => ∃ a, A = some a ∧ w.cells? 0 (a.add (i * sz)) sz = some css ∧ Q i css) len (fun i hi => by obtain ⟨a, css, h1, h2, h3⟩ := h i hi; exact ⟨css, a, h1, h2, h3⟩)
  have hlen : ∀ (i : Nat) (css : List Value), L[i]? = some css → css.length = sz := fun i css hi => by
    obtain ⟨a, _, h2, _⟩ := hq i css hi
    exact (World.cells?_some h2).2.1
  have hall : ∀ l ∈ L, l.length = sz := fun l hm => by
    obtain ⟨i, hi, rfl⟩ := List.mem_iff_getElem.1 hm
    exact hlen i _ (List.getElem?_eq_getElem hi)
  refine ⟨L, hl, fun i css hi => ⟨hlen i css hi, by obtain ⟨a, _, _, h3⟩ := hq i css hi; exact h3⟩, fun hpos => ?_⟩
  rw [flatten_len L hall] at hpos
  have hL0 : 0 < L.length := Nat.pos_of_ne_zero (fun h0 => by rw [h0] at hpos; simp at hpos)
  obtain ⟨a, rfl, h2, _⟩ := hq 0 L[0] (List.getElem?_eq_getElem hL0)
  have hc0 := (World.cells?_some h2).2.2 0 hsz
  have hlt : 0 < (L[0]).length := by rw [hall _ (List.getElem_mem hL0)]; exact hsz
  rw [List.getElem?_eq_getElem hlt] at hc0
  obtain ⟨b, o, sp⟩ := a
  have hsp : sp = none := by
    cases sp with
    | none => rfl
    | some q =>
      simp only [Addr.add, World.cell?] at hc0
      split at hc0 <;> simp at hc0
  subst hsp
  have hb : b < w.heap.size := by
    have := World.block_lt_of_cell? _ _ hc0
    simpa [Addr.add] using this
  refine ⟨b, o, rfl, hb, fun j u hu => ?_⟩
  have hj := (List.getElem?_eq_some_iff.1 hu).1
  rw [flatten_len L hall] at hj
  have hjd : j / sz < L.length := by
    apply Nat.div_lt_of_lt_mul
    rw [Nat.mul_comm]; exact hj
  have hjr : j % sz < sz := Nat.mod_lt _ hsz
  have hje : j / sz * sz + j % sz = j := by rw [Nat.mul_comm]; exact Nat.div_add_mod _ _
  obtain ⟨a, ha, h2, _⟩ := hq (j / sz) L[j / sz] (List.getElem?_eq_getElem hjd)
  cases ha
  have hc := (World.cells?_some h2).2.2 (j % sz) hjr
  have hf := flatten_get L hall (j / sz) (j % sz) _ (List.getElem?_eq_getElem hjd) hjr
  rw [hje, hu] at hf
  rw [← hf] at hc
  rw [Addr.add_lit] at hc
  have hadd : (⟨b, o + j / sz * sz, none⟩ : Addr).add (j % sz) = ⟨b, o + j, none⟩ := by
    rw [Addr.add_lit, Nat.add_assoc, hje]
  rw [hadd] at hc
  exact hc
theorem trod_places {t : TypeId} {v : Value} {d : DataW H} {p : List MemPlace} (h : DataW.Trod enc P w 0 (fun _ => true) true t v d p) : ∀ x ∈ p, x.block < w.heap.size := by
  obtain ⟨fuel, hf⟩ := h
  exact DataW.trod_lt _ _ _ _ hf
end

theorem flatten_single (xs : List Value) : (xs.map (fun u => [u])).flatten = xs := by
  induction xs with
  | nil => rfl
  | cons x r ih => simp [ih]
section
variable {H : Type} {enc : TypeId × Value → H} {W : World}
theorem u8_nat {a : Int} (h : (Lit.int .u8 a).wf = true) : ∃ k : Nat, a = k ∧ k < 256 := by
  have := bounds_u8 h
  exact ⟨a.toNat, by omega, by omega⟩
def QuadB (t : Nat × Nat × Nat × Nat) : Prop := t.1 < 256 ∧ t.2.1 < 256 ∧ t.2.2.1 < 256 ∧ t.2.2.2 < 256
def quadCells (t : Nat × Nat × Nat × Nat) : List Value := [.int .u8 (t.1 : Int), .int .u8 (t.2.1 : Int), .int .u8 (t.2.2.1 : Int), .int .u8 (t.2.2.2 : Int)]
set_option maxRecDepth 100000 in
theorem open_quad {fuel : Nat} {cs : List Value} {x : DataW H × List MemPlace} (h : DataW.trod enc Tryd.prog W 0 (fun _ => true) true fuel 111 cs = some x) : ∃ t : {t : Nat × Nat × Nat × Nat // QuadB t}, cs = quadCells t.1 := by
  obtain ⟨xs, m, _, _, hlen, hxl, hel⟩ := DataW.trod_array Tryd.underlying111 h
  have k5 : Tryd.prog.cellsOf 5 = 1 := by kernel_rfl
  have k111 : Tryd.prog.cellsOf 111 = 4 := by kernel_rfl
  obtain ⟨c0, c1, c2, c3, rfl⟩ := list4 hlen k111
  obtain ⟨y0, y1, y2, y3, rfl⟩ := list4 hxl rfl
  have h0 : DataW.trod enc Tryd.prog W 0 (fun _ => true) true m 5 [c0] = some y0 := by simpa [k5] using hel 0 (by omega)
  have h1 : DataW.trod enc Tryd.prog W 0 (fun _ => true) true m 5 [c1] = some y1 := by simpa [k5] using hel 1 (by omega)
  have h2 : DataW.trod enc Tryd.prog W 0 (fun _ => true) true m 5 [c2] = some y2 := by simpa [k5] using hel 2 (by omega)
  have h3 : DataW.trod enc Tryd.prog W 0 (fun _ => true) true m 5 [c3] = some y3 := by simpa [k5] using hel 3 (by omega)
  obtain ⟨a0, e0, _, w0⟩ := DataW.trod_int Tryd.underlying5 h0
  obtain ⟨a1, e1, _, w1⟩ := DataW.trod_int Tryd.underlying5 h1
  obtain ⟨a2, e2, _, w2⟩ := DataW.trod_int Tryd.underlying5 h2
  obtain ⟨a3, e3, _, w3⟩ := DataW.trod_int Tryd.underlying5 h3
  cases e0; cases e1; cases e2; cases e3
  obtain ⟨n0, rfl, l0⟩ := u8_nat w0
  obtain ⟨n1, rfl, l1⟩ := u8_nat w1
  obtain ⟨n2, rfl, l2⟩ := u8_nat w2
  obtain ⟨n3, rfl, l3⟩ := u8_nat w3
  exact ⟨⟨(n0, n1, n2, n3), l0, l1, l2, l3⟩, rfl⟩
set_option maxRecDepth 100000 in
theorem open_quads {fuel : Nat} {c : Value} {x : DataW H × List MemPlace} (h : DataW.trod enc Tryd.prog W 0 (fun _ => true) true fuel 22 [c] = some x) : ∃ (A : Option Addr) (n k : Nat), c = .slice A n k ∧ BytesC W A (n * 4) ∧ n ≤ k ∧ n ≤ lenMax := by
  obtain ⟨A, len, cap, n, e0, hl, hm, hel⟩ := open_slice Tryd.underlying22 h
  have hc : Tryd.prog.cellsOf 111 = 4 := by kernel_rfl
  rw [hc] at hel
  obtain ⟨L, hL, hq, hcs⟩ := cells_open (w := W) (A := A) (len := len) (sz := 4) (Q := fun _ css => ∃ t : {t : Nat × Nat × Nat × Nat // QuadB t}, css = quadCells t.1) (by omega) (fun i hi => by
    obtain ⟨a, css, y, h1, h2, h3⟩ := hel i hi
    exact ⟨a, css, h1, h2, open_quad h3⟩)
  have hlen : L.flatten.length = len * 4 := by
    rw [flatten_len L (sz := 4) (fun l hl => by
      obtain ⟨i, hi, rfl⟩ := List.mem_iff_getElem.1 hl
      exact (hq i _ (List.getElem?_eq_getElem hi)).1), hL]
  have hbyte : ∀ u ∈ L.flatten, ∃ a : Nat, a < 256 ∧ u = .int .u8 (a : Int) := fun u hu => by
    obtain ⟨l, hl, hul⟩ := List.mem_flatten.1 hu
    obtain ⟨i, hi, rfl⟩ := List.mem_iff_getElem.1 hl
    obtain ⟨_, t, ht⟩ := hq i _ (List.getElem?_eq_getElem hi)
    rw [ht] at hul
    obtain ⟨b0, b1, b2, b3⟩ := t.2
    simp only [quadCells, List.mem_cons, List.not_mem_nil, or_false] at hul
    rcases hul with h | h | h | h
    · exact ⟨_, b0, h⟩
    · exact ⟨_, b1, h⟩
    · exact ⟨_, b2, h⟩
    · exact ⟨_, b3, h⟩
  obtain rfl : c = .slice A len cap := by simpa using e0
  refine ⟨A, len, cap, rfl, fun hn => ?_, hl, Nat.le_trans hl hm⟩
  obtain ⟨b, o, hA, hb, hcc⟩ := hcs (by rw [hlen]; exact hn)
  refine ⟨b, o, hA, hb, fun j hj => ?_⟩
  have hj' : j < L.flatten.length := by rw [hlen]; exact hj
  obtain ⟨a, ha, e⟩ := hbyte _ (List.getElem_mem hj')
  exact ⟨a, ha, by rw [← e]; exact hcc j _ (List.getElem?_eq_getElem hj')⟩
set_option maxRecDepth 100000 in
/-- A value of type B, read as data. -/
theorem open_rawB {b0 : Nat} {v : Value} {d : DataW H} {p : List MemPlace} (hv : Value.okWide Tryd.prog W .any b0 24 v) (h : DataW.Trod enc Tryd.prog W 0 (fun _ => true) true 24 v d p) : ∃ r, BV W v r := by
  obtain ⟨cs, rfl, hsz⟩ := okWide_struct Tryd.underlying24 hv
  have hc5 : Tryd.prog.cellsOf 24 = 5 := by kernel_rfl
  obtain ⟨fuel, hf⟩ := h
  obtain ⟨xs, n, _, hx, hlen, hxl, hfs⟩ := DataW.trod_struct Tryd.underlying24 hf
  have hc : cs.size = 5 := hsz.trans hc5
  obtain ⟨c0, c1, c2, c3, c4, rfl⟩ := array5 hc
  obtain ⟨y0, y1, y2, y3, y4, rfl⟩ := list5 (n := 5) hxl rfl
  have k5 : Tryd.prog.cellsOf 5 = 1 := by kernel_rfl
  have k4 : Tryd.prog.cellsOf 4 = 1 := by kernel_rfl
  have k22 : Tryd.prog.cellsOf 22 = 1 := by kernel_rfl
  have h0 : DataW.trod enc Tryd.prog W 0 (fun _ => true) true n 5 [c0] = some y0 := by simpa [k5, Value.cells] using hfs 0 _ rfl
  have h1 : DataW.trod enc Tryd.prog W 0 (fun _ => true) true n 5 [c1] = some y1 := by simpa [k5, Value.cells] using hfs 1 _ rfl
  have h2 : DataW.trod enc Tryd.prog W 0 (fun _ => true) true n 5 [c2] = some y2 := by simpa [k5, Value.cells] using hfs 2 _ rfl
  have h3 : DataW.trod enc Tryd.prog W 0 (fun _ => true) true n 22 [c3] = some y3 := by simpa [k22, Value.cells] using hfs 3 _ rfl
  have h4 : DataW.trod enc Tryd.prog W 0 (fun _ => true) true n 4 [c4] = some y4 := by simpa [k4, Value.cells] using hfs 4 _ rfl
  obtain ⟨a0, e0, _, w0⟩ := DataW.trod_int Tryd.underlying5 h0
  obtain ⟨a1, e1, _, w1⟩ := DataW.trod_int Tryd.underlying5 h1
  obtain ⟨a2, e2, _, w2⟩ := DataW.trod_int Tryd.underlying5 h2
  obtain ⟨f, e4, _⟩ := DataW.trod_bool Tryd.underlying4 h4
  cases e0; cases e1; cases e2; cases e4
  obtain ⟨n0, rfl, l0⟩ := u8_nat w0
  obtain ⟨n1, rfl, l1⟩ := u8_nat w1
  obtain ⟨n2, rfl, l2⟩ := u8_nat w2
  obtain ⟨A, m, k, rfl, hb, hk, hm⟩ := open_quads h3
  exact ⟨⟨n0, n1, n2, m, f⟩, A, k, rfl, hb, l0, l1, l2, hk, hm⟩
theorem open_byte {fuel : Nat} {cs : List Value} {x : DataW H × List MemPlace} (h : DataW.trod enc Tryd.prog W 0 (fun _ => true) true fuel 5 cs = some x) : ∃ t : {t : Nat // t < 256}, cs = [.int .u8 (t.1 : Int)] := by
  obtain ⟨a, e, _, w⟩ := DataW.trod_int Tryd.underlying5 h
  obtain ⟨n, rfl, l⟩ := u8_nat w
  exact ⟨⟨n, l⟩, e⟩
set_option maxRecDepth 100000 in
theorem open_u8s {b0 : Nat} {v : Value} {d : DataW H} {p : List MemPlace} (hv : Value.okWide Tryd.prog W .any b0 25 v) (h : DataW.Trod enc Tryd.prog W 0 (fun _ => true) true 25 v d p) : ∃ (xs : List Nat) (c : Nat), U8sC W v xs c := by
  obtain ⟨a, len0, cp, rfl⟩ := okWide_slice Tryd.underlying25 hv
  obtain ⟨fuel, hf⟩ := h
  obtain ⟨A, len, cap, n, e0, hl, hm, hel⟩ := open_slice Tryd.underlying25 hf
  have hc : Tryd.prog.cellsOf 5 = 1 := by kernel_rfl
  rw [hc] at hel
  obtain ⟨L, hL, hq, hcs⟩ := cells_open (w := W) (A := A) (len := len) (sz := 1) (Q := fun _ css => ∃ t : {t : Nat // t < 256}, css = [.int .u8 (t.1 : Int)]) (by omega) (fun i hi => by
    obtain ⟨a, css, y, h1, h2, h3⟩ := hel i hi
    exact ⟨a, css, h1, h2, open_byte h3⟩)
  obtain ⟨B, rfl⟩ := list_of_map (f := fun (t : {t : Nat // t < 256}) => [Value.int .u8 (t.1 : Int)]) L (fun i y hy => (hq i y hy).2)
  have hBL : (B.map (·.1)).length = len := by rw [List.length_map] at hL ⊢; exact hL
  have hve : Value.slice a len0 cp = .slice A len cap := by simpa [Value.cells] using e0
  refine ⟨B.map (·.1), cap, A, by rw [hBL]; exact hve, ?_, by rw [hBL]; exact hl, by rw [hBL]; exact Nat.le_trans hl hm, fun z hz => ?_⟩
  · have he2 : (B.map (·.1)).map (fun (x : Nat) => Value.int .u8 (x : Int)) = (B.map (fun t => [Value.int .u8 (t.1 : Int)])).flatten := by
      rw [List.map_map]
      conv => lhs; rw [← flatten_single (B.map _), List.map_map]
      rfl
    rw [he2]
    exact hcs
  · obtain ⟨y, _, rfl⟩ := List.mem_map.1 hz
    exact y.2
end
def tabZ : List Int := (List.range 64).map fun j => ((Lib.deBruijn64tab.getD j 0 : Nat) : Int)
theorem tab_laid : (Rows.laid_math_bits_deBruijn64tab : DataW Unit) = .agg (tabZ.map fun n => .lit (.int .u8 n)) := by kernel_rfl
theorem tab_of_laid {W : World} (h : laidMetH Tryd.prog [("math/bits.deBruijn64tab", Rows.laid_math_bits_deBruijn64tab)] W) : Tab W := by
  intro r hr
  rw [MakeChecks.laidMetH_plain _ _ _ (by kernel_rfl)] at h
  obtain ⟨ps, ⟨g, t, cs, fuel, p, q, hg, ht, hv, hd, _, _⟩, _, _⟩ := h
  obtain rfl := Option.some.inj ((show Tryd.prog.globalNamed "math/bits.deBruijn64tab" = some 0 by kernel_rfl).symm.trans hg)
  obtain rfl := Option.some.inj ((show (Tryd.prog.globals[0]?).map (·.type) = some 122 by kernel_rfl).symm.trans ht)
  rw [tab_laid] at hd
  obtain ⟨xs, m, _, ex, _, hl, hel⟩ := DataW.trod_array Tryd.underlying122 hd
  have c5 : Tryd.prog.cellsOf 5 = 1 := by kernel_rfl
  have hE := hel r hr
  rw [c5, Nat.mul_one, List.getElem?_eq_getElem (by omega)] at hE
  obtain ⟨z, e1, e2, _⟩ := DataW.trod_int Tryd.underlying5 hE
  have hlen : tabZ.length = 64 := by kernel_rfl
  have e3 : (xs.map (·.1)) = tabZ.map fun n => .lit (.int .u8 n) := (DataW.agg.inj (Prod.mk.inj ex).1).symm
  have e4 : (xs.map (·.1))[r]? = (tabZ.map fun n => (DataW.lit (.int .u8 n) : DataW Unit))[r]? := by rw [e3]
  rw [List.getElem?_map, List.getElem?_map, List.getElem?_eq_getElem (by omega : r < xs.length), List.getElem?_eq_getElem (by omega : r < tabZ.length), e2] at e4
  have hz : z = ((Lib.deBruijn64tab.getD r 0 : Nat) : Int) := by
    simp only [Option.map_some, Option.some.injEq, DataW.lit.injEq, Lit.int.injEq, true_and] at e4
    rw [e4]; simp [tabZ]
  rw [World.var?_cell hg hv r, ← hz]
  have : cs.toList[r]? = some (.int .u8 z) := by
    have h0 : ((cs.toList.drop r).take 1)[0]? = some (.int .u8 z) := by rw [e1]; rfl
    simpa using h0
  simpa using this
end Go.Proofs.YtamodjlifpjaoaaDoor
