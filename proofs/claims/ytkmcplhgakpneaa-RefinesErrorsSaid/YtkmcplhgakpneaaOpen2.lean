/- Machines and lists, read as data. -/
import Derived.Test.YtkmcplhgakpneaaOpen
namespace Go.Proofs.Ytkmcplhgakpneaa
open Go.ChangeShapes Go.WideShapes Go.ChangeAt Go.RowKit
set_option linter.unusedVariables false
set_option linter.unusedSimpArgs false
section
variable {H : Type} {enc : TypeId × Value → H} {W : World}
set_option maxRecDepth 100000 in
theorem open_list {b0 : Nat} {v : Value} {d : DataW H} {p : List MemPlace} (hv : Value.okWide Try.prog W .any b0 29 v) (h : DataW.Trod enc Try.prog W 0 (fun _ => true) true 29 v d p) :
    ∃ (xs : List Int) (c : Nat), IntsC W v xs c ∧ ∀ z ∈ xs, (Lit.int .i64 z).wf = true := by
  obtain ⟨a, len, cap, rfl⟩ := okWide_slice Try.underlying29 hv
  obtain ⟨fuel, hf⟩ := h
  obtain ⟨A, zs, c, e0, hc, hl, hm, hw⟩ := open_intsC Try.underlying29 Try.underlying3 (by kernel_rfl) hf
  simp [Value.cells] at e0
  obtain ⟨rfl, rfl, rfl⟩ := e0
  exact ⟨zs, _, ⟨_, rfl, hc, hl, Nat.le_trans hl hm⟩, hw⟩
set_option maxRecDepth 100000 in
theorem open_edgesC {fuel : Nat} {cs : List Value} {x : DataW H × List MemPlace} (h : DataW.trod enc Try.prog W 0 (fun _ => true) true fuel 53 cs = some x) :
    ∃ (v : Value) (es : List (Int × Int)) (c : Nat), cs = [v] ∧ EdgesC W v es c := by
  obtain ⟨A, len, cap, n, rfl, hl, hm, hel⟩ := open_slice Try.underlying53 h
  have hc : Try.prog.cellsOf 63 = 2 := by kernel_rfl
  rw [hc] at hel
  obtain ⟨L, hL, hq, hcs⟩ := cells_open (w := W) (A := A) (len := len) (sz := 2) (Q := fun _ css => ∃ z : Int × Int, css = edgeCells z) (by omega) (fun i hi => by
    obtain ⟨a, css, y, h1, h2, h3⟩ := hel i hi
    refine ⟨a, css, h1, h2, ?_⟩
    obtain ⟨xs, m, _, _, hlen, hxl, hfs⟩ := DataW.trod_struct Try.underlying63 h3
    rw [hc] at hlen
    match css, hlen with
    | [c0, c1], _ =>
      have k3 : Try.prog.cellsOf 3 = 1 := by kernel_rfl
      have h0 := hfs 0 _ rfl
      have h1 := hfs 1 _ rfl
      rw [List.getElem?_eq_getElem (show 0 < xs.length by rw [hxl]; decide)] at h0
      rw [List.getElem?_eq_getElem (show 1 < xs.length by rw [hxl]; decide)] at h1
      simp [k3] at h0 h1
      obtain ⟨x, e0, _, w0⟩ := DataW.trod_int Try.underlying3 h0
      obtain ⟨y, e1, _, w1⟩ := DataW.trod_int Try.underlying3 h1
      cases e0; cases e1
      exact ⟨(x, y), rfl⟩)
  obtain ⟨B, rfl⟩ := list_of_map (f := edgeCells) L (fun i y hy => (hq i y hy).2)
  have hBL : B.length = len := by rw [List.length_map] at hL; exact hL
  refine ⟨_, B, cap, rfl, A, by rw [hBL], ?_, by rw [hBL]; exact hl, by rw [hBL]; exact Nat.le_trans hl hm⟩
  rw [List.flatMap_def]
  exact hcs
set_option maxRecDepth 100000 in
theorem open_rowsC {fuel : Nat} {cs : List Value} {x : DataW H × List MemPlace} (h : DataW.trod enc Try.prog W 0 (fun _ => true) true fuel 25 cs = some x) :
    ∃ (v : Value) (rows : List (List (Int × Int))) (c : Nat), cs = [v] ∧ RowsC W v rows c := by
  obtain ⟨A, len, cap, n, rfl, hl, hm, hel⟩ := open_slice Try.underlying25 h
  have hc : Try.prog.cellsOf 53 = 1 := by kernel_rfl
  rw [hc] at hel
  obtain ⟨L, hL, hq, hcs⟩ := cells_open (w := W) (A := A) (len := len) (sz := 1) (Q := fun _ css => ∃ z : {z : Value × List (Int × Int) // ∃ c, EdgesC W z.1 z.2 c}, css = [z.1.1]) (by omega) (fun i hi => by
    obtain ⟨a, css, y, h1, h2, h3⟩ := hel i hi
    obtain ⟨u, es, c, h4, h5⟩ := open_edgesC h3
    exact ⟨a, css, h1, h2, ⟨(u, es), c, h5⟩, h4⟩)
  obtain ⟨B, rfl⟩ := list_of_map (f := fun (z : {z : Value × List (Int × Int) // ∃ c, EdgesC W z.1 z.2 c}) => [z.1.1]) L (fun i y hy => (hq i y hy).2)
  have hBL : B.length = len := by rw [List.length_map] at hL; exact hL
  refine ⟨_, B.map (·.1.2), cap, rfl, A, B.map (·.1.1), by rw [List.length_map, hBL], ?_, by simp, fun i u es hu hes => ?_, by rw [List.length_map, hBL]; exact hl, by rw [List.length_map, hBL]; exact Nat.le_trans hl hm⟩
  · have he2 : B.map (·.1.1) = (B.map (fun z => [z.1.1])).flatten := by
      rw [← flatten_single (B.map (·.1.1)), List.map_map]; exact congrArg List.flatten (List.map_congr_left (fun _ _ => rfl))
    rw [he2]
    exact hcs
  · rw [List.getElem?_map] at hu hes
    cases hb : B[i]? with
    | none => rw [hb] at hu; simp at hu
    | some z =>
      rw [hb] at hu hes
      simp at hu hes
      subst hu; subst hes
      exact z.2
set_option maxRecDepth 100000 in
theorem open_mach {b0 : Nat} {v : Value} {d : DataW H} {p : List MemPlace} (hv : Value.okWide Try.prog W .any b0 27 v) (h : DataW.Trod enc Try.prog W 0 (fun _ => true) true 27 v d p) : ∃ m, MachV W v m := by
  obtain ⟨cs, rfl, hsz⟩ := okWide_struct Try.underlying27 hv
  rw [show Try.prog.cellsOf 27 = 3 by kernel_rfl] at hsz
  obtain ⟨fuel, hf⟩ := h
  obtain ⟨xs, m, _, _, hlen, hxl, hfs⟩ := DataW.trod_struct Try.underlying27 hf
  obtain ⟨l⟩ := cs
  match l, hsz with
  | [c0, c1, c2], _ =>
    have k3 : Try.prog.cellsOf 3 = 1 := by kernel_rfl
    have k25 : Try.prog.cellsOf 25 = 1 := by kernel_rfl
    have h0 := hfs 0 _ rfl
    have h1 := hfs 1 _ rfl
    have h2 := hfs 2 _ rfl
    rw [List.getElem?_eq_getElem (show 0 < xs.length by rw [hxl]; decide)] at h0
    rw [List.getElem?_eq_getElem (show 1 < xs.length by rw [hxl]; decide)] at h1
    rw [List.getElem?_eq_getElem (show 2 < xs.length by rw [hxl]; decide)] at h2
    simp [k3, k25, Value.cells] at h0 h1 h2
    obtain ⟨x, e0, _, w0⟩ := DataW.trod_int Try.underlying3 h0
    obtain ⟨y, e1, _, w1⟩ := DataW.trod_int Try.underlying3 h1
    obtain ⟨u, rows, c, e2, hr⟩ := open_rowsC h2
    obtain rfl : c2 = u := by simpa using e2
    cases e0; cases e1
    exact ⟨⟨x, y, rows⟩, c2, c, rfl, hr⟩
end
end Go.Proofs.Ytkmcplhgakpneaa
