/- Values of type Dfa and []int, read as data. -/
import Derived.Test.YthlnmcokgfpgmaaDoorZM
namespace Go.Proofs.YthlnmcokgfpgmaaDoor
open Go.ChangeShapes Go.WideShapes Go.ChangeAt Go.RowKit
set_option linter.unusedVariables false
set_option linter.unusedSimpArgs false
section
variable {H : Type} {enc : TypeId × Value → H} {W : World}
theorem array3 {α : Type} {cs : Array α} (h : cs.size = 3) : ∃ c0 c1 c2, cs = #[c0, c1, c2] := by
  obtain ⟨l⟩ := cs
  match l, h with
  | [c0, c1, c2], _ => exact ⟨c0, c1, c2, rfl⟩
set_option maxRecDepth 100000 in
/-- A slice of integers, out of its cells. -/
theorem open_ints' {fuel : Nat} {cs : List Value} {x : DataW H × List MemPlace} (h : DataW.trod enc Tryd.prog W 0 (fun _ => true) true fuel 31 cs = some x) : ∃ v xs c, cs = [v] ∧ IntsC W v xs c := by
  obtain ⟨A, len, cap, n, e0, hl, hm, hel⟩ := open_slice Tryd.underlying31 h
  have hc : Tryd.prog.cellsOf 3 = 1 := by kernel_rfl
  rw [hc] at hel
  obtain ⟨L, hL, hq, hcs⟩ := cells_open (w := W) (A := A) (len := len) (sz := 1) (Q := fun _ css => ∃ t : Int, css = [.int .i64 t]) (by omega) (fun i hi => by
    obtain ⟨a, css, y, h1, h2, h3⟩ := hel i hi
    obtain ⟨t, e, _, _⟩ := DataW.trod_int Tryd.underlying3 h3
    exact ⟨a, css, h1, h2, t, e⟩)
  obtain ⟨B, rfl⟩ := list_of_map (f := fun (t : Int) => [Value.int .i64 t]) L (fun i y hy => (hq i y hy).2)
  have hBL : B.length = len := by rw [List.length_map] at hL; exact hL
  unfold maxLen at hm
  refine ⟨_, B, cap, e0, A, by rw [hBL], ?_, by rw [hBL]; exact hl, by unfold lenMax; omega⟩
  have he2 : B.map (Value.int .i64) = (B.map (fun t => [Value.int .i64 t])).flatten := by
    conv => lhs; rw [← flatten_single (B.map _), List.map_map]
    rfl
  rw [he2]
  exact hcs
set_option maxRecDepth 100000 in
theorem open_bools' {fuel : Nat} {cs : List Value} {x : DataW H × List MemPlace} (h : DataW.trod enc Tryd.prog W 0 (fun _ => true) true fuel 26 cs = some x) : ∃ v xs c, cs = [v] ∧ BoolsC W v xs c := by
  obtain ⟨A, len, cap, n, e0, hl, hm, hel⟩ := open_slice Tryd.underlying26 h
  have hc : Tryd.prog.cellsOf 4 = 1 := by kernel_rfl
  rw [hc] at hel
  obtain ⟨L, hL, hq, hcs⟩ := cells_open (w := W) (A := A) (len := len) (sz := 1) (Q := fun _ css => ∃ t : Bool, css = [.bool t]) (by omega) (fun i hi => by
    obtain ⟨a, css, y, h1, h2, h3⟩ := hel i hi
    obtain ⟨t, e, _⟩ := DataW.trod_bool Tryd.underlying4 h3
    exact ⟨a, css, h1, h2, t, e⟩)
  obtain ⟨B, rfl⟩ := list_of_map (f := fun (t : Bool) => [Value.bool t]) L (fun i y hy => (hq i y hy).2)
  have hBL : B.length = len := by rw [List.length_map] at hL; exact hL
  unfold maxLen at hm
  refine ⟨_, B, cap, e0, A, by rw [hBL], ?_, by rw [hBL]; exact hl, by unfold lenMax; omega⟩
  have he2 : B.map Value.bool = (B.map (fun t => [Value.bool t])).flatten := by
    conv => lhs; rw [← flatten_single (B.map _), List.map_map]
    rfl
  rw [he2]
  exact hcs
set_option maxRecDepth 100000 in
/-- A slice of slices of integers. -/
theorem open_lists' {fuel : Nat} {cs : List Value} {x : DataW H × List MemPlace} (h : DataW.trod enc Tryd.prog W 0 (fun _ => true) true fuel 25 cs = some x) : ∃ v xs c, cs = [v] ∧ ListsC W v xs c := by
  obtain ⟨A, len, cap, n, e0, hl, hm, hel⟩ := open_slice Tryd.underlying25 h
  have hc : Tryd.prog.cellsOf 31 = 1 := by kernel_rfl
  rw [hc] at hel
  obtain ⟨L, hL, hq, hcs⟩ := cells_open (w := W) (A := A) (len := len) (sz := 1) (Q := fun _ css => ∃ t : Value, css = [t] ∧ ∃ xs c, IntsC W t xs c) (by omega) (fun i hi => by
    obtain ⟨a, css, y, h1, h2, h3⟩ := hel i hi
    obtain ⟨t, xs, c, e, h4⟩ := open_ints' h3
    exact ⟨a, css, h1, h2, t, e, xs, c, h4⟩)
  obtain ⟨B, rfl⟩ := list_of_map (f := fun (t : Value) => [t]) L (fun i y hy => by
    obtain ⟨t, e, _⟩ := (hq i y hy).2
    exact ⟨t, e⟩)
  have hBL : B.length = len := by rw [List.length_map] at hL; exact hL
  obtain ⟨X, hXl, hX⟩ := list_of_each (Q := fun i (xs : List Int) => ∃ u c, B[i]? = some u ∧ IntsC W u xs c) len (fun i hi => by
    have hiB : i < B.length := by omega
    obtain ⟨t, e, xs, c, h4⟩ := (hq i [B[i]] (by rw [List.getElem?_map, List.getElem?_eq_getElem hiB]; rfl)).2
    have : B[i] = t := by simpa using e
    exact ⟨xs, B[i], c, List.getElem?_eq_getElem hiB, this ▸ h4⟩)
  unfold maxLen at hm
  refine ⟨_, X, cap, e0, A, B, by rw [hXl], ?_, by omega, fun i u es hu hes => ?_, by rw [hXl]; exact hl, by unfold lenMax; omega⟩
  · have he2 : B = (B.map (fun t => [t])).flatten := (flatten_single B).symm
    rw [he2]
    exact hcs
  · obtain ⟨u', c, h5, h6⟩ := hX i es hes
    rw [hu] at h5
    cases h5
    exact ⟨c, h6⟩
set_option maxRecDepth 100000 in
theorem open_dfa {b0 : Nat} {v : Value} {d : DataW H} {p : List MemPlace} (hv : Value.okWide Tryd.prog W .any b0 28 v) (h : DataW.Trod enc Tryd.prog W 0 (fun _ => true) true 28 v d p) : ∃ r, DfaV W v r := by
  obtain ⟨cs, rfl, hsz⟩ := okWide_struct Tryd.underlying28 hv
  have hc3 : Tryd.prog.cellsOf 28 = 3 := by kernel_rfl
  obtain ⟨fuel, hf⟩ := h
  obtain ⟨xs, n, _, hx, hlen, hxl, hfs⟩ := DataW.trod_struct Tryd.underlying28 hf
  have hc : cs.size = 3 := hsz.trans hc3
  obtain ⟨c0, c1, c2, rfl⟩ := array3 hc
  obtain ⟨y0, y1, y2, rfl⟩ := list3 (n := 3) hxl rfl
  have k3 : Tryd.prog.cellsOf 3 = 1 := by kernel_rfl
  have k25 : Tryd.prog.cellsOf 25 = 1 := by kernel_rfl
  have k26 : Tryd.prog.cellsOf 26 = 1 := by kernel_rfl
  have h0 : DataW.trod enc Tryd.prog W 0 (fun _ => true) true n 3 [c0] = some y0 := by simpa [k3, Value.cells] using hfs 0 _ rfl
  have h1 : DataW.trod enc Tryd.prog W 0 (fun _ => true) true n 25 [c1] = some y1 := by simpa [k3, k25, Value.cells] using hfs 1 _ rfl
  have h2 : DataW.trod enc Tryd.prog W 0 (fun _ => true) true n 26 [c2] = some y2 := by simpa [k3, k25, k26, Value.cells] using hfs 2 _ rfl
  obtain ⟨a0, e0, _, _⟩ := DataW.trod_int Tryd.underlying3 h0
  cases e0
  obtain ⟨v1, rows, cr, e1, hr⟩ := open_lists' h1
  cases e1
  obtain ⟨v2, acc, ca, e2, ha⟩ := open_bools' h2
  cases e2
  exact ⟨⟨a0, rows, acc⟩, c1, cr, c2, ca, rfl, hr, ha⟩
set_option maxRecDepth 100000 in
theorem open_ints {b0 : Nat} {v : Value} {d : DataW H} {p : List MemPlace} (hv : Value.okWide Tryd.prog W .any b0 31 v) (h : DataW.Trod enc Tryd.prog W 0 (fun _ => true) true 31 v d p) : ∃ (xs : List Int) (c : Nat), IntsC W v xs c := by
  obtain ⟨a, len0, cp, rfl⟩ := okWide_slice Tryd.underlying31 hv
  obtain ⟨fuel, hf⟩ := h
  obtain ⟨v', xs, c, e, h1⟩ := open_ints' hf
  have hve : Value.slice a len0 cp = v' := by simpa [Value.cells] using e
  exact ⟨xs, c, hve ▸ h1⟩
end
end Go.Proofs.YthlnmcokgfpgmaaDoor
