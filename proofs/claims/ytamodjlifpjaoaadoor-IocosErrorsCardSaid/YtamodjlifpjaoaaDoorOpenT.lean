/- Values of type []int, []Node and Lts, read as data. -/
import Derived.Test.YtamodjlifpjaoaaDoorGO
import Derived.Test.YtamodjlifpjaoaaDoorGF
import Derived.Test.YtamodjlifpjaoaaDoorGB
namespace Go.Proofs.YtamodjlifpjaoaaDoor
open Go.ChangeShapes Go.WideShapes Go.ChangeAt Go.RowKit
set_option linter.unusedVariables false
set_option linter.unusedSimpArgs false
section
variable {H : Type} {enc : TypeId × Value → H} {W : World}
set_option maxRecDepth 100000 in
/-- A slice of integers, out of its cells. -/
theorem open_ints' {fuel : Nat} {cs : List Value} {x : DataW H × List MemPlace} (h : DataW.trod enc Tryd.prog W 0 (fun _ => true) true fuel 30 cs = some x) : ∃ v xs c, cs = [v] ∧ IntsC W v xs c := by
  obtain ⟨A, len, cap, n, e0, hl, hm, hel⟩ := open_slice Tryd.underlying30 h
  have hc : Tryd.prog.cellsOf 3 = 1 := by kernel_rfl
  rw [hc] at hel
  obtain ⟨L, hL, hq, hcs⟩ := cells_open (w := W) (A := A) (len := len) (sz := 1) (Q := fun _ css => ∃ t : Int, css = [.int .i64 t]) (by omega) (fun i hi => by
    obtain ⟨a, css, y, h1, h2, h3⟩ := hel i hi
    obtain ⟨t, e, _, _⟩ := DataW.trod_int Tryd.underlying3 h3
    exact ⟨a, css, h1, h2, t, e⟩)
  obtain ⟨B, rfl⟩ := list_of_map (f := fun (t : Int) => [Value.int .i64 t]) L (fun i y hy => (hq i y hy).2)
  have hBL : B.length = len := by rw [List.length_map] at hL; exact hL
  unfold maxLen at hm
  refine ⟨_, B, cap, e0, A, by rw [hBL], ?_, by rw [hBL]; exact hl, by unfold lenMax; omega⟩
  have he2 : B.map (Value.int .i64) = (B.map (fun t => [Value.int .i64 t])).flatten := by
    conv => lhs; rw [← flatten_single (B.map _), List.map_map]
    rfl
  rw [he2]
  exact hcs
set_option maxRecDepth 100000 in
theorem open_ints {b0 : Nat} {v : Value} {d : DataW H} {p : List MemPlace} (hv : Value.okWide Tryd.prog W .any b0 30 v) (h : DataW.Trod enc Tryd.prog W 0 (fun _ => true) true 30 v d p) : ∃ (xs : List Int) (c : Nat), IntsC W v xs c := by
  obtain ⟨a, len0, cp, rfl⟩ := okWide_slice Tryd.underlying30 hv
  obtain ⟨fuel, hf⟩ := h
  obtain ⟨u, xs, c, e, hi⟩ := open_ints' hf
  have he : Value.slice a len0 cp = u := by simpa [Value.cells] using e
  exact ⟨xs, c, he ▸ hi⟩
set_option maxRecDepth 100000 in
theorem open_node {fuel : Nat} {cs : List Value} {x : DataW H × List MemPlace} (h : DataW.trod enc Tryd.prog W 0 (fun _ => true) true fuel 56 cs = some x) : ∃ z : {z : Nd × Value // ∃ c, IntsC W z.2 z.1.next c}, cs = ndCells z.1 := by
  obtain ⟨xs, m, _, _, hlen, hxl, hfs⟩ := DataW.trod_struct Tryd.underlying56 h
  have hc : Tryd.prog.cellsOf 56 = 2 := by kernel_rfl
  rw [hc] at hlen
  match cs, hlen with
  | [c0, c1], _ =>
    have k3 : Tryd.prog.cellsOf 3 = 1 := by kernel_rfl
    have k30 : Tryd.prog.cellsOf 30 = 1 := by kernel_rfl
    have h0 := hfs 0 _ rfl
    have h1 := hfs 1 _ rfl
    rw [List.getElem?_eq_getElem (show 0 < xs.length by rw [hxl]; decide)] at h0
    rw [List.getElem?_eq_getElem (show 1 < xs.length by rw [hxl]; decide)] at h1
    simp [k3, k30] at h0 h1
    obtain ⟨x, e0, _, w0⟩ := DataW.trod_int Tryd.underlying3 h0
    obtain ⟨u, es, c, e1, hr⟩ := open_ints' h1
    obtain rfl : c1 = u := by simpa using e1
    cases e0
    exact ⟨⟨(⟨x, es⟩, c1), c, hr⟩, rfl⟩
set_option maxRecDepth 100000 in
theorem open_nodes {b0 : Nat} {v : Value} {d : DataW H} {p : List MemPlace} (hv : Value.okWide Tryd.prog W .any b0 48 v) (h : DataW.Trod enc Tryd.prog W 0 (fun _ => true) true 48 v d p) : ∃ (L : List Nd) (c : Nat), NodesC W v L c := by
  obtain ⟨a, len0, cp, rfl⟩ := okWide_slice Tryd.underlying48 hv
  obtain ⟨fuel, hf⟩ := h
  obtain ⟨A, len, cap, n, e0, hl, hm, hel⟩ := open_slice Tryd.underlying48 hf
  have hc : Tryd.prog.cellsOf 56 = 2 := by kernel_rfl
  rw [hc] at hel
  obtain ⟨L, hL, hq, hcs⟩ := cells_open (w := W) (A := A) (len := len) (sz := 2) (Q := fun _ css => ∃ z : {z : Nd × Value // ∃ c, IntsC W z.2 z.1.next c}, css = ndCells z.1) (by omega) (fun i hi => by
    obtain ⟨a, css, y, h1, h2, h3⟩ := hel i hi
    exact ⟨a, css, h1, h2, open_node h3⟩)
  obtain ⟨B, rfl⟩ := list_of_map (f := fun (z : {z : Nd × Value // ∃ c, IntsC W z.2 z.1.next c}) => ndCells z.1) L (fun i y hy => (hq i y hy).2)
  have hBL : ((B.map (·.1)).map Prod.fst).length = len := by rw [List.length_map] at hL; rw [List.length_map, List.length_map]; exact hL
  have hve : Value.slice a len0 cp = .slice A len cap := by simpa [Value.cells] using e0
  refine ⟨(B.map (·.1)).map Prod.fst, cap, A, B.map (·.1), rfl, by rw [hBL]; exact hve, ?_, fun e he => ?_, by rw [hBL]; exact hl, by rw [hBL]; exact Nat.le_trans hl hm⟩
  · have he2 : ndsV (B.map (·.1)) = (B.map (fun z => ndCells z.1)).flatten := by
      unfold ndsV
      rw [List.flatMap_def, List.map_map]; rfl
    rw [he2]
    exact hcs
  · obtain ⟨z, _, rfl⟩ := List.mem_map.1 he
    exact z.2
set_option maxRecDepth 100000 in
theorem open_arcs {fuel : Nat} {cs : List Value} {x : DataW H × List MemPlace} (h : DataW.trod enc Tryd.prog W 0 (fun _ => true) true fuel 68 cs = some x) :
    ∃ (v : Value) (es : List Arc), cs = [v] ∧ ArcsC W v es := by
  obtain ⟨A, len, cap, n, rfl, hl, hm, hel⟩ := open_slice Tryd.underlying68 h
  have hc : Tryd.prog.cellsOf 67 = 3 := by kernel_rfl
  rw [hc] at hel
  obtain ⟨L, hL, hq, hcs⟩ := cells_open (w := W) (A := A) (len := len) (sz := 3) (Q := fun _ css => ∃ z : Arc, css = arcCells z) (by omega) (fun i hi => by
    obtain ⟨a, css, y, h1, h2, h3⟩ := hel i hi
    refine ⟨a, css, h1, h2, ?_⟩
    obtain ⟨xs, m, _, _, hlen, hxl, hfs⟩ := DataW.trod_struct Tryd.underlying67 h3
    rw [hc] at hlen
    match css, hlen with
    | [c0, c1, c2], _ =>
      have k3 : Tryd.prog.cellsOf 3 = 1 := by kernel_rfl
      have k5 : Tryd.prog.cellsOf 5 = 1 := by kernel_rfl
      have h0 := hfs 0 _ rfl
      have h1 := hfs 1 _ rfl
      have h2 := hfs 2 _ rfl
      rw [List.getElem?_eq_getElem (show 0 < xs.length by rw [hxl]; decide)] at h0
      rw [List.getElem?_eq_getElem (show 1 < xs.length by rw [hxl]; decide)] at h1
      rw [List.getElem?_eq_getElem (show 2 < xs.length by rw [hxl]; decide)] at h2
      simp [k3, k5] at h0 h1 h2
      obtain ⟨x, e0, _, w0⟩ := DataW.trod_int Tryd.underlying5 h0
      obtain ⟨y, e1, _, w1⟩ := DataW.trod_int Tryd.underlying3 h1
      obtain ⟨z, e2, _, w2⟩ := DataW.trod_int Tryd.underlying3 h2
      obtain ⟨k, rfl, _⟩ := u8_nat w0
      cases e0; cases e1; cases e2
      exact ⟨⟨k, y, z⟩, rfl⟩)
  obtain ⟨B, rfl⟩ := list_of_map (f := arcCells) L (fun i y hy => (hq i y hy).2)
  have hBL : B.length = len := by rw [List.length_map] at hL; exact hL
  refine ⟨_, B, rfl, A, cap, by rw [hBL], ?_, by rw [hBL]; exact hl, by rw [hBL]; exact Nat.le_trans hl hm⟩
  rw [List.flatMap_def]
  exact hcs
set_option maxRecDepth 100000 in
theorem open_arows {fuel : Nat} {cs : List Value} {x : DataW H × List MemPlace} (h : DataW.trod enc Tryd.prog W 0 (fun _ => true) true fuel 26 cs = some x) :
    ∃ (v : Value) (rows : List (List Arc)), cs = [v] ∧ ARowsC W v rows := by
  obtain ⟨A, len, cap, n, rfl, hl, hm, hel⟩ := open_slice Tryd.underlying26 h
  have hc : Tryd.prog.cellsOf 68 = 1 := by kernel_rfl
  rw [hc] at hel
  obtain ⟨L, hL, hq, hcs⟩ := cells_open (w := W) (A := A) (len := len) (sz := 1) (Q := fun _ css => ∃ z : {z : Value × List Arc // ArcsC W z.1 z.2}, css = [z.1.1]) (by omega) (fun i hi => by
    obtain ⟨a, css, y, h1, h2, h3⟩ := hel i hi
    obtain ⟨u, es, h4, h5⟩ := open_arcs h3
    exact ⟨a, css, h1, h2, ⟨(u, es), h5⟩, h4⟩)
  obtain ⟨B, rfl⟩ := list_of_map (f := fun (z : {z : Value × List Arc // ArcsC W z.1 z.2}) => [z.1.1]) L (fun i y hy => (hq i y hy).2)
  have hBL : B.length = len := by rw [List.length_map] at hL; exact hL
  refine ⟨_, B.map (·.1.2), rfl, A, cap, B.map (·.1.1), by rw [List.length_map, hBL], ?_, by simp, fun i u es hu hes => ?_, by rw [List.length_map, hBL]; exact hl, by rw [List.length_map, hBL]; exact Nat.le_trans hl hm⟩
  · have he2 : B.map (·.1.1) = (B.map (fun z => [z.1.1])).flatten := by
      rw [← flatten_single (B.map (·.1.1)), List.map_map]; exact congrArg List.flatten (List.map_congr_left (fun _ _ => rfl))
    rw [he2]
    exact hcs
  · rw [List.getElem?_map] at hu hes
    cases hb : B[i]? with
    | none => rw [hb] at hu; simp at hu
    | some z =>
      rw [hb] at hu hes
      simp at hu hes
      subst hu; subst hes
      exact z.2
set_option maxRecDepth 100000 in
theorem open_lts {b0 : Nat} {v : Value} {d : DataW H} {p : List MemPlace} (hv : Value.okWide Tryd.prog W .any b0 28 v) (h : DataW.Trod enc Tryd.prog W 0 (fun _ => true) true 28 v d p) : ∃ x, LtsV W v x := by
  obtain ⟨cs, rfl, hsz⟩ := okWide_struct Tryd.underlying28 hv
  rw [show Tryd.prog.cellsOf 28 = 3 by kernel_rfl] at hsz
  obtain ⟨fuel, hf⟩ := h
  obtain ⟨xs, m, _, _, hlen, hxl, hfs⟩ := DataW.trod_struct Tryd.underlying28 hf
  obtain ⟨l⟩ := cs
  match l, hsz with
  | [c0, c1, c2], _ =>
    have k3 : Tryd.prog.cellsOf 3 = 1 := by kernel_rfl
    have k26 : Tryd.prog.cellsOf 26 = 1 := by kernel_rfl
    have h0 := hfs 0 _ rfl
    have h1 := hfs 1 _ rfl
    have h2 := hfs 2 _ rfl
    rw [List.getElem?_eq_getElem (show 0 < xs.length by rw [hxl]; decide)] at h0
    rw [List.getElem?_eq_getElem (show 1 < xs.length by rw [hxl]; decide)] at h1
    rw [List.getElem?_eq_getElem (show 2 < xs.length by rw [hxl]; decide)] at h2
    simp [k3, k26, Value.cells] at h0 h1 h2
    obtain ⟨x, e0, _, w0⟩ := DataW.trod_int Tryd.underlying3 h0
    obtain ⟨y, e1, _, w1⟩ := DataW.trod_int Tryd.underlying3 h1
    obtain ⟨u, rows, e2, hr⟩ := open_arows h2
    obtain rfl : c2 = u := by simpa using e2
    cases e0; cases e1
    exact ⟨⟨x, y, rows⟩, c2, rfl, hr⟩
end
end Go.Proofs.YtamodjlifpjaoaaDoor
