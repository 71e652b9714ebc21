/- Games, lists and truths, read as data. -/
import Derived.Test.YteadkafeabhhhaaOpenB
import Derived.Test.YteadkafeabhhhaaG1
namespace Go.Proofs.Yteadkafeabhhhaa
open Go.ChangeShapes Go.WideShapes Go.ChangeAt Go.RowKit
set_option linter.unusedVariables false
set_option linter.unusedSimpArgs false
section
variable {H : Type} {enc : TypeId × Value → H} {W : World}
set_option maxRecDepth 100000 in
theorem open_list {b0 : Nat} {v : Value} {d : DataW H} {p : List MemPlace} (hv : Value.okWide Try.prog W .any b0 37 v) (h : DataW.Trod enc Try.prog W 0 (fun _ => true) true 37 v d p) :
    ∃ (xs : List Int) (c : Nat), IntsC W v xs c ∧ ∀ z ∈ xs, (Lit.int .i64 z).wf = true := by
  obtain ⟨a, len, cap, rfl⟩ := okWide_slice Try.underlying37 hv
  obtain ⟨fuel, hf⟩ := h
  obtain ⟨A, zs, c, e0, hc, hl, hm, hw⟩ := open_intsC Try.underlying37 Try.underlying3 (by kernel_rfl) hf
  simp [Value.cells] at e0
  obtain ⟨rfl, rfl, rfl⟩ := e0
  exact ⟨zs, _, ⟨_, rfl, hc, hl, Nat.le_trans hl hm⟩, hw⟩
set_option maxRecDepth 100000 in
theorem open_edgesC {fuel : Nat} {cs : List Value} {x : DataW H × List MemPlace} (h : DataW.trod enc Try.prog W 0 (fun _ => true) true fuel 53 cs = some x) :
    ∃ (v : Value) (es : List (Int × Int)) (c : Nat), cs = [v] ∧ EdgesC W v es c := by
  obtain ⟨A, len, cap, n, rfl, hl, hm, hel⟩ := open_slice Try.underlying53 h
  have hc : Try.prog.cellsOf 52 = 2 := by kernel_rfl
  rw [hc] at hel
  obtain ⟨L, hL, hq, hcs⟩ := cells_open (w := W) (A := A) (len := len) (sz := 2) (Q := fun _ css => ∃ z : Int × Int, css = edgeCells z) (by omega) (fun i hi => by
    obtain ⟨a, css, y, h1, h2, h3⟩ := hel i hi
    refine ⟨a, css, h1, h2, ?_⟩
    obtain ⟨xs, m, _, _, hlen, hxl, hfs⟩ := DataW.trod_struct Try.underlying52 h3
    rw [hc] at hlen
    match css, hlen with
    | [c0, c1], _ =>
      have k3 : Try.prog.cellsOf 3 = 1 := by kernel_rfl
      have h0 := hfs 0 _ rfl
      have h1 := hfs 1 _ rfl
      rw [List.getElem?_eq_getElem (show 0 < xs.length by rw [hxl]; decide)] at h0
      rw [List.getElem?_eq_getElem (show 1 < xs.length by rw [hxl]; decide)] at h1
      simp [k3] at h0 h1
      obtain ⟨x, e0, _, w0⟩ := DataW.trod_int Try.underlying3 h0
      obtain ⟨y, e1, _, w1⟩ := DataW.trod_int Try.underlying3 h1
      cases e0; cases e1
      exact ⟨(x, y), rfl⟩)
  obtain ⟨B, rfl⟩ := list_of_map (f := edgeCells) L (fun i y hy => (hq i y hy).2)
  have hBL : B.length = len := by rw [List.length_map] at hL; exact hL
  refine ⟨_, B, cap, rfl, A, by rw [hBL], ?_, by rw [hBL]; exact hl, by rw [hBL]; exact Nat.le_trans hl hm⟩
  rw [List.flatMap_def]
  exact hcs
set_option maxRecDepth 100000 in
theorem open_rowsC {fuel : Nat} {cs : List Value} {x : DataW H × List MemPlace} (h : DataW.trod enc Try.prog W 0 (fun _ => true) true fuel 27 cs = some x) :
    ∃ (v : Value) (rows : List (List (Int × Int))) (c : Nat), cs = [v] ∧ RowsC W v rows c := by
  obtain ⟨A, len, cap, n, rfl, hl, hm, hel⟩ := open_slice Try.underlying27 h
  have hc : Try.prog.cellsOf 53 = 1 := by kernel_rfl
  rw [hc] at hel
  obtain ⟨L, hL, hq, hcs⟩ := cells_open (w := W) (A := A) (len := len) (sz := 1) (Q := fun _ css => ∃ z : {z : Value × List (Int × Int) // ∃ c, EdgesC W z.1 z.2 c}, css = [z.1.1]) (by omega) (fun i hi => by
    obtain ⟨a, css, y, h1, h2, h3⟩ := hel i hi
    obtain ⟨u, es, c, h4, h5⟩ := open_edgesC h3
    exact ⟨a, css, h1, h2, ⟨(u, es), c, h5⟩, h4⟩)
  obtain ⟨B, rfl⟩ := list_of_map (f := fun (z : {z : Value × List (Int × Int) // ∃ c, EdgesC W z.1 z.2 c}) => [z.1.1]) L (fun i y hy => (hq i y hy).2)
  have hBL : B.length = len := by rw [List.length_map] at hL; exact hL
  refine ⟨_, B.map (·.1.2), cap, rfl, A, B.map (·.1.1), by rw [List.length_map, hBL], ?_, by simp, fun i u es hu hes => ?_, by rw [List.length_map, hBL]; exact hl, by rw [List.length_map, hBL]; exact Nat.le_trans hl hm⟩
  · have he2 : B.map (·.1.1) = (B.map (fun z => [z.1.1])).flatten := by
      rw [← flatten_single (B.map (·.1.1)), List.map_map]; exact congrArg List.flatten (List.map_congr_left (fun _ _ => rfl))
    rw [he2]
    exact hcs
  · rw [List.getElem?_map] at hu hes
    cases hb : B[i]? with
    | none => rw [hb] at hu; simp at hu
    | some z =>
      rw [hb] at hu hes
      simp at hu hes
      subst hu; subst hes
      exact z.2
set_option maxRecDepth 100000 in
theorem open_machC {fuel : Nat} {c0 c1 c2 : Value} {x : DataW H × List MemPlace} (hf : DataW.trod enc Try.prog W 0 (fun _ => true) true fuel 29 [c0, c1, c2] = some x) : ∃ m, MachV W (.agg #[c0, c1, c2]) m := by
  obtain ⟨xs, m, _, _, hlen, hxl, hfs⟩ := DataW.trod_struct Try.underlying29 hf
  have k3 : Try.prog.cellsOf 3 = 1 := by kernel_rfl
  have k27 : Try.prog.cellsOf 27 = 1 := by kernel_rfl
  have h0 := hfs 0 _ rfl
  have h1 := hfs 1 _ rfl
  have h2 := hfs 2 _ rfl
  rw [List.getElem?_eq_getElem (show 0 < xs.length by rw [hxl]; decide)] at h0
  rw [List.getElem?_eq_getElem (show 1 < xs.length by rw [hxl]; decide)] at h1
  rw [List.getElem?_eq_getElem (show 2 < xs.length by rw [hxl]; decide)] at h2
  simp [k3, k27, Value.cells] at h0 h1 h2
  obtain ⟨x, e0, _, w0⟩ := DataW.trod_int Try.underlying3 h0
  obtain ⟨y, e1, _, w1⟩ := DataW.trod_int Try.underlying3 h1
  obtain ⟨u, rows, c, e2, hr⟩ := open_rowsC h2
  obtain rfl : c2 = u := by simpa using e2
  cases e0; cases e1
  exact ⟨⟨x, y, rows⟩, c2, c, rfl, hr⟩
theorem open_game {b0 : Nat} {v : Value} {d : DataW H} {p : List MemPlace} (hv : Value.okWide Try.prog W .any b0 32 v) (h : DataW.Trod enc Try.prog W 0 (fun _ => true) true 32 v d p) : ∃ g, GameV W v g := by
  obtain ⟨cs, rfl, hsz⟩ := okWide_struct Try.underlying32 hv
  rw [show Try.prog.cellsOf 32 = 5 by kernel_rfl] at hsz
  obtain ⟨fuel, hf⟩ := h
  obtain ⟨xs, m, _, _, hlen, hxl, hfs⟩ := DataW.trod_struct Try.underlying32 hf
  obtain ⟨c0, c1, c2, c3, c4, rfl⟩ := array5 hsz
  obtain ⟨y0, y1, y2, rfl⟩ := list3 (n := 3) hxl rfl
  have k29 : Try.prog.cellsOf 29 = 3 := by kernel_rfl
  have k30 : Try.prog.cellsOf 30 = 1 := by kernel_rfl
  have h0 : DataW.trod enc Try.prog W 0 (fun _ => true) true m 29 [c0, c1, c2] = some y0 := by simpa [k29, Value.cells] using hfs 0 _ rfl
  have h1 : DataW.trod enc Try.prog W 0 (fun _ => true) true m 30 [c3] = some y1 := by simpa [k30, Value.cells] using hfs 1 _ rfl
  have h2 : DataW.trod enc Try.prog W 0 (fun _ => true) true m 30 [c4] = some y2 := by simpa [k30, Value.cells] using hfs 2 _ rfl
  obtain ⟨m, rv, cr, hm, hr⟩ := open_machC h0
  obtain ⟨A1, x1, p1, e1, q1, q2, q3⟩ := open_boolsC Try.underlying30 Try.underlying4 (by kernel_rfl) h1
  obtain ⟨A2, x2, p2, e2, r1, r2, r3⟩ := open_boolsC Try.underlying30 Try.underlying4 (by kernel_rfl) h2
  obtain rfl : c3 = .slice A1 x1.length p1 := by simpa using e1
  obtain rfl : c4 = .slice A2 x2.length p2 := by simpa using e2
  cases hm
  exact ⟨⟨m, x1, x2⟩, _, cr, _, p1, _, p2, rfl, hr, ⟨A1, rfl, q1, q2, Nat.le_trans q2 q3⟩, ⟨A2, rfl, r1, r2, Nat.le_trans r2 r3⟩⟩
theorem open_bools {b0 : Nat} {v : Value} {d : DataW H} {p : List MemPlace} (hv : Value.okWide Try.prog W .any b0 30 v) (h : DataW.Trod enc Try.prog W 0 (fun _ => true) true 30 v d p) : ∃ (xs : List Bool) (c : Nat), BoolsC W v xs c := by
  obtain ⟨a, len, cap, rfl⟩ := okWide_slice Try.underlying30 hv
  obtain ⟨fuel, hf⟩ := h
  obtain ⟨A, zs, c, e0, hc, hl, hm⟩ := open_boolsC Try.underlying30 Try.underlying4 (by kernel_rfl) hf
  simp [Value.cells] at e0
  obtain ⟨rfl, rfl, rfl⟩ := e0
  exact ⟨zs, _, _, rfl, hc, hl, Nat.le_trans hl hm⟩
end
end Go.Proofs.Yteadkafeabhhhaa
