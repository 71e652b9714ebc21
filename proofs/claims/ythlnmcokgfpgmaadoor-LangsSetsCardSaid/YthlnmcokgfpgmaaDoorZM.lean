/- Values of type N, read as data; what the package-level variables hold when the call begins. -/
import Derived.Test.YthlnmcokgfpgmaaDoorZL
import Derived.Test.YthlnmcokgfpgmaaDoorRows
import Derived.ProofKit
import Derived.Carry
import Derived.OpenShut
import Derived.LaidMore
import Derived.LaidOnce
import Derived.Stop.Joined
namespace Go.Proofs.YthlnmcokgfpgmaaDoor
open Go.ChangeShapes Go.WideShapes Go.ChangeAt Go.RowKit
set_option linter.unusedVariables false
set_option linter.unusedSimpArgs false
theorem Tryd.own : ownKnob Tryd.prog.godebug = none := by kernel_rfl
theorem array5 {α : Type} {cs : Array α} (h : cs.size = 5) : ∃ c0 c1 c2 c3 c4, cs = #[c0, c1, c2, c3, c4] := by
  obtain ⟨l⟩ := cs
  match l, h with
  | [c0, c1, c2, c3, c4], _ => exact ⟨c0, c1, c2, c3, c4, rfl⟩
theorem list5 {α : Type} {l : List α} {n : Nat} (h : l.length = n) (hn : n = 5) : ∃ c0 c1 c2 c3 c4, l = [c0, c1, c2, c3, c4] := by
  subst hn
  match l, h with
  | [c0, c1, c2, c3, c4], _ => exact ⟨c0, c1, c2, c3, c4, rfl⟩
theorem list3 {α : Type} {l : List α} {n : Nat} (h : l.length = n) (hn : n = 3) : ∃ c0 c1 c2, l = [c0, c1, c2] := by
  subst hn
  match l, h with
  | [c0, c1, c2], _ => exact ⟨c0, c1, c2, rfl⟩
section
variable {α : Type}
theorem flatten_len {sz : Nat} : ∀ L : List (List α), (∀ l ∈ L, l.length = sz) → L.flatten.length = L.length * sz
  | [], _ => by simp
  | l :: L, h => by
    rw [List.flatten_cons, List.length_append, h l (by simp), flatten_len L (fun x hx => h x (by simp [hx])), List.length_cons, Nat.succ_mul, Nat.add_comm]
theorem flatten_get {sz : Nat} : ∀ (L : List (List α)), (∀ l ∈ L, l.length = sz) → ∀ (i r : Nat) (l : List α), L[i]? = some l → r < sz → L.flatten[i * sz + r]? = l[r]?
  | [], _, i, r, l, hi, _ => by simp at hi
  | x :: L, h, 0, r, l, hi, hr => by
    simp at hi; subst hi
    rw [List.flatten_cons, Nat.zero_mul, Nat.zero_add, List.getElem?_append_left (by rw [h x (by simp)]; exact hr)]
  | x :: L, h, i + 1, r, l, hi, hr => by
    have hx := h x (by simp)
    rw [List.flatten_cons, List.getElem?_append_right (by rw [hx, Nat.succ_mul]; omega), hx, show (i + 1) * sz + r - sz = i * sz + r by rw [Nat.succ_mul]; omega]
    exact flatten_get L (fun y hy => h y (by simp [hy])) i r l (by simpa using hi) hr
/-- A list out of what is known at each place. -/
theorem list_of_each {Q : Nat → α → Prop} : ∀ (n : Nat), (∀ i, i < n → ∃ y, Q i y) → ∃ L : List α, L.length = n ∧ ∀ (i : Nat) (y : α), L[i]? = some y → Q i y
  | 0, _ => ⟨[], rfl, fun i y h => by simp at h⟩
  | n + 1, h => by
    obtain ⟨L, hl, hq⟩ := list_of_each n (fun i hi => h i (by omega))
    obtain ⟨y, hy⟩ := h n (by omega)
    refine ⟨L ++ [y], by simp [hl], fun i z hz => ?_⟩
    by_cases hi : i < L.length
    · rw [List.getElem?_append_left hi] at hz; exact hq i z hz
    · have hi2 : i = L.length := by
        have := (List.getElem?_eq_some_iff.1 hz).1
        simp at this; omega
      subst hi2
      rw [List.getElem?_append_right (Nat.le_refl _), Nat.sub_self] at hz
      cases hz
      rw [hl]; exact hy
theorem list_of_map {β : Type} {f : β → α} : ∀ (L : List α), (∀ (i : Nat) (y : α), L[i]? = some y → ∃ b, y = f b) → ∃ B : List β, L = B.map f
  | [], _ => ⟨[], rfl⟩
  | y :: L, h => by
    obtain ⟨b, rfl⟩ := h 0 y rfl
    obtain ⟨B, rfl⟩ := list_of_map L (fun i z hz => h (i + 1) z (by simpa using hz))
    exact ⟨b :: B, rfl⟩
end

section
variable {H : Type} {enc : TypeId × Value → H} {P : Program} {w : World}

/-- The elements of a slice, opened. -/
theorem open_slice {t e : TypeId} {fuel : Nat} {cs : List Value} {x : DataW H × List MemPlace} (ht : P.underlying t = some (.slice e)) (h : DataW.trod enc P w 0 (fun _ => true) true fuel t cs = some x) :
    ∃ (A : Option Addr) (len cap n : Nat), cs = [.slice A len cap] ∧ len ≤ cap ∧ cap ≤ maxLen ∧
      ∀ i, i < len → ∃ a css y, A = some a ∧ w.cells? 0 (a.add (i * P.cellsOf e)) (P.cellsOf e) = some css ∧ DataW.trod enc P w 0 (fun _ => true) true n e css = some y := by
  rcases DataW.trod_slice ht h with ⟨rfl, _⟩ | ⟨a, len, cap, elems, rest, n, _, rfl, _, _, hl, hm, hlen, hel, _, _⟩
  · exact ⟨none, 0, 0, 0, rfl, Nat.le_refl _, Nat.zero_le _, fun i hi => by omega⟩
  · refine ⟨some a, len, cap, n, rfl, hl, hm, fun i hi => ?_⟩
    have := hel i hi
    rw [List.getElem?_eq_getElem (show i < elems.length by omega)] at this
    obtain ⟨css, h1, h2⟩ := Option.bind_eq_some_iff.1 this
    exact ⟨a, css, _, rfl, h1, h2⟩
theorem cells_open {A : Option Addr} {len sz : Nat} {Q : Nat → List Value → Prop} (hsz : 0 < sz) (h : ∀ i, i < len → ∃ a css, A = some a ∧ w.cells? 0 (a.add (i * sz)) sz = some css ∧ Q i css) :
    ∃ L : List (List Value), L.length = len ∧ (∀ (i : Nat) (css : List Value), L[i]? = some css → css.length = sz ∧ Q i css) ∧ Cells w A L.flatten := by
  obtain ⟨L, hl, hq⟩ := list_of_each (Q := fun i css => ∃ a, A = some a ∧ w.cells? 0 (a.add (i * sz)) sz = some css ∧ Q i css) len (fun i hi => by obtain ⟨a, css, h1, h2, h3⟩ := h i hi; exact ⟨css, a, h1, h2, h3⟩)
  have hlen : ∀ (i : Nat) (css : List Value), L[i]? = some css → css.length = sz := fun i css hi => by
    obtain ⟨a, _, h2, _⟩ := hq i css hi
    exact (World.cells?_some h2).2.1
  have hall : ∀ l ∈ L, l.length = sz := fun l hm => by
    obtain ⟨i, hi, rfl⟩ := List.mem_iff_getElem.1 hm
    exact hlen i _ (List.getElem?_eq_getElem hi)
  refine ⟨L, hl, fun i css hi => ⟨hlen i css hi, by obtain ⟨a, _, _, h3⟩ := hq i css hi; exact h3⟩, fun hpos => ?_⟩
  rw [flatten_len L hall] at hpos
  have hL0 : 0 < L.length := Nat.pos_of_ne_zero (fun h0 => by rw [h0] at hpos; simp at hpos)
  obtain ⟨a, rfl, h2, _⟩ := hq 0 L[0] (List.getElem?_eq_getElem hL0)
  have hc0 := (World.cells?_some h2).2.2 0 hsz
  have hlt : 0 < (L[0]).length := by rw [hall _ (List.getElem_mem hL0)]; exact hsz
  rw [List.getElem?_eq_getElem hlt] at hc0
  obtain ⟨b, o, sp⟩ := a
  have hsp : sp = none := by
    cases sp with
    | none => rfl
    | some q =>
      simp only [Addr.add, World.cell?] at hc0
      split at hc0 <;> simp at hc0
  subst hsp
  have hb : b < w.heap.size := by
    have := World.block_lt_of_cell? _ _ hc0
    simpa [Addr.add] using this
  refine ⟨b, o, rfl, hb, fun j u hu => ?_⟩
  have hj := (List.getElem?_eq_some_iff.1 hu).1
  rw [flatten_len L hall] at hj
  have hjd : j / sz < L.length := by
    apply Nat.div_lt_of_lt_mul
    rw [Nat.mul_comm]; exact hj
  have hjr : j % sz < sz := Nat.mod_lt _ hsz
  have hje : j / sz * sz + j % sz = j := by rw [Nat.mul_comm]; exact Nat.div_add_mod _ _
  obtain ⟨a, ha, h2, _⟩ := hq (j / sz) L[j / sz] (List.getElem?_eq_getElem hjd)
  cases ha
  have hc := (World.cells?_some h2).2.2 (j % sz) hjr
  have hf := flatten_get L hall (j / sz) (j % sz) _ (List.getElem?_eq_getElem hjd) hjr
  rw [hje, hu] at hf
  rw [← hf] at hc
  rw [Addr.add_lit] at hc
  have hadd : (⟨b, o + j / sz * sz, none⟩ : Addr).add (j % sz) = ⟨b, o + j, none⟩ := by
    rw [Addr.add_lit, Nat.add_assoc, hje]
  rw [hadd] at hc
  exact hc
theorem trod_places {t : TypeId} {v : Value} {d : DataW H} {p : List MemPlace} (h : DataW.Trod enc P w 0 (fun _ => true) true t v d p) : ∀ x ∈ p, x.block < w.heap.size := by
  obtain ⟨fuel, hf⟩ := h
  exact DataW.trod_lt _ _ _ _ hf
end

theorem flatten_single (xs : List Value) : (xs.map (fun u => [u])).flatten = xs := by
  induction xs with
  | nil => rfl
  | cons x r ih => simp [ih]
section
variable {H : Type} {enc : TypeId × Value → H} {W : World}
theorem u8_nat {a : Int} (h : (Lit.int .u8 a).wf = true) : ∃ k : Nat, a = k ∧ k < 256 := by
  have := bounds_u8 h
  exact ⟨a.toNat, by omega, by omega⟩
def TriB (t : Nat × Nat × Nat) : Prop := t.1 < 256 ∧ t.2.1 < 256 ∧ t.2.2 < 256
set_option maxRecDepth 100000 in
theorem open_tri {fuel : Nat} {cs : List Value} {x : DataW H × List MemPlace} (h : DataW.trod enc Tryd.prog W 0 (fun _ => true) true fuel 108 cs = some x) : ∃ t : {t : Nat × Nat × Nat // TriB t}, cs = triCells t.1 := by
  obtain ⟨xs, m, _, _, hlen, hxl, hel⟩ := DataW.trod_array Tryd.underlying108 h
  have k5 : Tryd.prog.cellsOf 5 = 1 := by kernel_rfl
  have k108 : Tryd.prog.cellsOf 108 = 3 := by kernel_rfl
  obtain ⟨c0, c1, c2, rfl⟩ := list3 hlen k108
  obtain ⟨y0, y1, y2, rfl⟩ := list3 hxl rfl
  have h0 : DataW.trod enc Tryd.prog W 0 (fun _ => true) true m 5 [c0] = some y0 := by simpa [k5] using hel 0 (by omega)
  have h1 : DataW.trod enc Tryd.prog W 0 (fun _ => true) true m 5 [c1] = some y1 := by simpa [k5] using hel 1 (by omega)
  have h2 : DataW.trod enc Tryd.prog W 0 (fun _ => true) true m 5 [c2] = some y2 := by simpa [k5] using hel 2 (by omega)
  obtain ⟨a0, e0, _, w0⟩ := DataW.trod_int Tryd.underlying5 h0
  obtain ⟨a1, e1, _, w1⟩ := DataW.trod_int Tryd.underlying5 h1
  obtain ⟨a2, e2, _, w2⟩ := DataW.trod_int Tryd.underlying5 h2
  cases e0; cases e1; cases e2
  obtain ⟨n0, rfl, l0⟩ := u8_nat w0
  obtain ⟨n1, rfl, l1⟩ := u8_nat w1
  obtain ⟨n2, rfl, l2⟩ := u8_nat w2
  exact ⟨⟨(n0, n1, n2), l0, l1, l2⟩, rfl⟩
set_option maxRecDepth 100000 in
theorem open_tris {fuel : Nat} {c : Value} {x : DataW H × List MemPlace} (h : DataW.trod enc Tryd.prog W 0 (fun _ => true) true fuel 22 [c] = some x) : ∃ (ts : List (Nat × Nat × Nat)) (k : Nat), TriC W c ts k := by
  obtain ⟨A, len, cap, n, e0, hl, hm, hel⟩ := open_slice Tryd.underlying22 h
  have hc : Tryd.prog.cellsOf 108 = 3 := by kernel_rfl
  rw [hc] at hel
  obtain ⟨L, hL, hq, hcs⟩ := cells_open (w := W) (A := A) (len := len) (sz := 3) (Q := fun _ css => ∃ t : {t : Nat × Nat × Nat // TriB t}, css = triCells t.1) (by omega) (fun i hi => by
    obtain ⟨a, css, y, h1, h2, h3⟩ := hel i hi
    exact ⟨a, css, h1, h2, open_tri h3⟩)
  obtain ⟨B, rfl⟩ := list_of_map (f := fun (t : {t : Nat × Nat × Nat // TriB t}) => triCells t.1) L (fun i y hy => (hq i y hy).2)
  have hBL : (B.map (·.1)).length = len := by rw [List.length_map] at hL ⊢; exact hL
  obtain rfl : c = .slice A len cap := by simpa using e0
  refine ⟨B.map (·.1), cap, A, by rw [hBL], ?_, by rw [hBL]; exact hl, by rw [hBL]; exact Nat.le_trans hl hm, fun z hz => ?_⟩
  · have he2 : (B.map (·.1)).flatMap triCells = (B.map (fun t => triCells t.1)).flatten := by
      rw [List.flatMap_def, List.map_map]; exact congrArg List.flatten (List.map_congr_left (fun _ _ => rfl))
    rw [he2]
    exact hcs
  · obtain ⟨y, _, rfl⟩ := List.mem_map.1 hz
    exact y.2
set_option maxRecDepth 100000 in
/-- A value of type N, read as data. -/
theorem open_rawN {b0 : Nat} {v : Value} {d : DataW H} {p : List MemPlace} (hv : Value.okWide Tryd.prog W .any b0 24 v) (h : DataW.Trod enc Tryd.prog W 0 (fun _ => true) true 24 v d p) : ∃ r, RawNV W v r := by
  obtain ⟨cs, rfl, hsz⟩ := okWide_struct Tryd.underlying24 hv
  have hc5 : Tryd.prog.cellsOf 24 = 5 := by kernel_rfl
  obtain ⟨fuel, hf⟩ := h
  obtain ⟨xs, n, _, hx, hlen, hxl, hfs⟩ := DataW.trod_struct Tryd.underlying24 hf
  have hc : cs.size = 5 := hsz.trans hc5
  obtain ⟨c0, c1, c2, c3, c4, rfl⟩ := array5 hc
  obtain ⟨y0, y1, y2, y3, y4, rfl⟩ := list5 (n := 5) hxl rfl
  have k5 : Tryd.prog.cellsOf 5 = 1 := by kernel_rfl
  have k22 : Tryd.prog.cellsOf 22 = 1 := by kernel_rfl
  have h0 : DataW.trod enc Tryd.prog W 0 (fun _ => true) true n 5 [c0] = some y0 := by simpa [k5, Value.cells] using hfs 0 _ rfl
  have h1 : DataW.trod enc Tryd.prog W 0 (fun _ => true) true n 5 [c1] = some y1 := by simpa [k5, Value.cells] using hfs 1 _ rfl
  have h2 : DataW.trod enc Tryd.prog W 0 (fun _ => true) true n 22 [c2] = some y2 := by simpa [k22, Value.cells] using hfs 2 _ rfl
  have h3 : DataW.trod enc Tryd.prog W 0 (fun _ => true) true n 5 [c3] = some y3 := by simpa [k5, Value.cells] using hfs 3 _ rfl
  have h4 : DataW.trod enc Tryd.prog W 0 (fun _ => true) true n 5 [c4] = some y4 := by simpa [k5, Value.cells] using hfs 4 _ rfl
  obtain ⟨a0, e0, _, w0⟩ := DataW.trod_int Tryd.underlying5 h0
  obtain ⟨a1, e1, _, w1⟩ := DataW.trod_int Tryd.underlying5 h1
  obtain ⟨a3, e3, _, w3⟩ := DataW.trod_int Tryd.underlying5 h3
  obtain ⟨a4, e4, _, w4⟩ := DataW.trod_int Tryd.underlying5 h4
  cases e0; cases e1; cases e3; cases e4
  obtain ⟨n0, rfl, l0⟩ := u8_nat w0
  obtain ⟨n1, rfl, l1⟩ := u8_nat w1
  obtain ⟨n3, rfl, l3⟩ := u8_nat w3
  obtain ⟨n4, rfl, l4⟩ := u8_nat w4
  obtain ⟨ts, k, ht⟩ := open_tris h2
  exact ⟨⟨n0, n1, ts, n3, n4⟩, c2, k, rfl, ht, l0, l1, l3, l4⟩
end
/-- What a listed variable of one function holds. -/
theorem of_func {l : List (String × DataW Unit)} {W : World} (h : laidMetH Tryd.prog l W) {n : String} {b : UInt8} {r : List UInt8} {g f0 : Nat} (hm : (n, DataW.iface "func table" (.agg [.iface "func" (.lit (.string (b :: r)))])) ∈ l)
    (hg0 : Tryd.prog.globalNamed n = some g) (ht0 : (Tryd.prog.globals[g]?).map (·.type) = some 100)
    (hone : ((List.range Tryd.prog.funcs.size).filter fun f => (Tryd.prog.funcs[f]?).any (·.name.toUTF8.data.toList == b :: r)) = [f0]) : W.cell? ⟨g, 0, none⟩ = some (.func (.func f0) #[] #[]) := by
  obtain ⟨g', t, cs, fuel, p, hg, ht, hv, hd⟩ := h.funcs hm
  obtain rfl := Option.some.inj (hg0.symm.trans hg)
  obtain rfl := Option.some.inj (ht0.symm.trans ht)
  have hd' : DataW.trod (funcToken Tryd.prog) Tryd.prog W 0 (fun _ => true) true fuel 100 cs.toList = some (.agg [.held (b :: r)], p) := hd
  obtain ⟨y0, m, hx, hlen, hf⟩ := Go.ChangeShapes.trod_struct1 Tryd.underlying100 hd'
  have k100 : Tryd.prog.cellsOf 100 = 1 := by kernel_rfl
  have k98 : Tryd.prog.cellsOf 98 = 1 := by kernel_rfl
  rw [k100] at hlen
  obtain ⟨c, hc⟩ := List.length_eq_one_iff.1 hlen
  rw [hc] at hf
  have hf' : DataW.trod (funcToken Tryd.prog) Tryd.prog W 0 (fun _ => true) true m 98 [c] = some y0 := by simpa [k98] using hf
  have hy : y0 = (.held (b :: r), y0.2) := by
    have := congrArg Prod.fst hx
    simp at this
    rw [this]
  rw [hy] at hf'
  obtain rfl := func_of_trod (f0 := f0) Tryd.underlying98 hone hf'
  have := World.var?_cell hg hv 0
  rw [Array.eq_one_of_toList hc] at this
  simpa using this
end Go.Proofs.YthlnmcokgfpgmaaDoor
