/- Values of type Ext, Config and []int, read as data. -/
import Derived.Test.YtggffdkgfgdaoaaDoorGO
import Derived.Test.YtggffdkgfgdaoaaDoorGD
namespace Go.Proofs.YtggffdkgfgdaoaaDoor
open Go.ChangeShapes Go.WideShapes Go.ChangeAt Go.RowKit
set_option linter.unusedVariables false
set_option linter.unusedSimpArgs false
section
variable {H : Type} {enc : TypeId × Value → H} {P : Program} {w : World}
/-- The elements of a slice, opened, at a smaller depth. -/
theorem open_slice2 {t e : TypeId} {fuel : Nat} {cs : List Value} {x : DataW H × List MemPlace} (ht : P.underlying t = some (.slice e)) (h : DataW.trod enc P w 0 (fun _ => true) true fuel t cs = some x) :
    ∃ (A : Option Addr) (len cap n : Nat), cs = [.slice A len cap] ∧ len ≤ cap ∧ cap ≤ maxLen ∧ n < fuel ∧
      ∀ i, i < len → ∃ a css y, A = some a ∧ w.cells? 0 (a.add (i * P.cellsOf e)) (P.cellsOf e) = some css ∧ DataW.trod enc P w 0 (fun _ => true) true n e css = some y := by
  rcases DataW.trod_slice ht h with ⟨rfl, _⟩ | ⟨a, len, cap, elems, rest, n, hf, rfl, _, _, hl, hm, hlen, hel, _, _⟩
  · refine ⟨none, 0, 0, 0, rfl, Nat.le_refl _, Nat.zero_le _, ?_, fun i hi => by omega⟩
    cases fuel with
    | zero => simp [DataW.trod] at h
    | succ n => omega
  · refine ⟨some a, len, cap, n, rfl, hl, hm, by omega, fun i hi => ?_⟩
    have := hel i hi
    rw [List.getElem?_eq_getElem (show i < elems.length by omega)] at this
    obtain ⟨css, h1, h2⟩ := Option.bind_eq_some_iff.1 this
    exact ⟨a, css, _, rfl, h1, h2⟩
end
section
variable {H : Type} {enc : TypeId × Value → H} {W : World}
theorem kc3 : Tryd.prog.cellsOf 3 = 1 := by kernel_rfl
theorem kc9 : Tryd.prog.cellsOf 9 = 1 := by kernel_rfl
theorem kc27 : Tryd.prog.cellsOf 27 = 1 := by kernel_rfl
theorem kc28 : Tryd.prog.cellsOf 28 = 1 := by kernel_rfl
theorem kc29 : Tryd.prog.cellsOf 29 = 1 := by kernel_rfl
theorem kc65 : Tryd.prog.cellsOf 65 = 1 := by kernel_rfl
theorem kc66 : Tryd.prog.cellsOf 66 = 1 := by kernel_rfl
theorem kc68 : Tryd.prog.cellsOf 68 = 3 := by kernel_rfl
theorem kc69 : Tryd.prog.cellsOf 69 = 1 := by kernel_rfl
theorem kc71 : Tryd.prog.cellsOf 71 = 8 := by kernel_rfl
theorem kc79 : Tryd.prog.cellsOf 79 = 3 := by kernel_rfl
theorem kc86 : Tryd.prog.cellsOf 86 = 4 := by kernel_rfl
/-- A node that lies in memory as a tree. -/
abbrev NvT (W : World) := {u : Nv // ∃ t, NodeV W t (nvVal u)}
set_option maxRecDepth 100000 in
theorem open_tree : ∀ (k fuel : Nat) (cs : List Value) (x : DataW H × List MemPlace), fuel ≤ k → DataW.trod enc Tryd.prog W 0 (fun _ => true) true fuel 68 cs = some x → ∃ u : NvT W, cs = nvCells u.1
  | 0, fuel, cs, x, hk, h => by
    have : fuel = 0 := by omega
    subst this
    simp [DataW.trod] at h
  | k + 1, fuel, cs, x, hk, h => by
    obtain ⟨xs, m, hf, _, hlen, hxl, hfs⟩ := DataW.trod_struct Tryd.underlying68 h
    rw [kc68] at hlen
    match cs, hlen with
    | [c0, c1, c2], _ =>
      have h0 := hfs 0 _ rfl
      have h1 := hfs 1 _ rfl
      have h2 := hfs 2 _ rfl
      rw [List.getElem?_eq_getElem (show 0 < xs.length by rw [hxl]; decide)] at h0
      rw [List.getElem?_eq_getElem (show 1 < xs.length by rw [hxl]; decide)] at h1
      rw [List.getElem?_eq_getElem (show 2 < xs.length by rw [hxl]; decide)] at h2
      simp [kc3, kc65, kc66] at h0 h1 h2
      obtain ⟨op, e0, _, w0⟩ := DataW.trod_int Tryd.underlying65 h0
      obtain ⟨n, e1, _, _⟩ := DataW.trod_int Tryd.underlying3 h1
      cases e0; cases e1
      obtain ⟨o, rfl, ho⟩ := u8_nat w0
      obtain ⟨A, len, cap, n', e2, hl, hm, hn, hel⟩ := open_slice2 Tryd.underlying66 h2
      rw [kc68] at hel
      obtain ⟨L, hL, hq, hcs⟩ := cells_open (w := W) (A := A) (len := len) (sz := 3) (Q := fun _ css => ∃ u : NvT W, css = nvCells u.1) (by omega) (fun i hi => by
        obtain ⟨a, css, y, h1, h2, h3⟩ := hel i hi
        exact ⟨a, css, h1, h2, open_tree k n' css y (by omega) h3⟩)
      obtain ⟨B, rfl⟩ := list_of_map (f := fun (u : NvT W) => nvCells u.1) L (fun i y hy => (hq i y hy).2)
      have hBL : B.length = len := by rw [List.length_map] at hL; exact hL
      have hc2 : c2 = .slice A len cap := by simpa using e2
      subst hc2
      refine ⟨⟨(o, n, .slice A len cap), .mk o n (B.map (fun u => Classical.choose u.2)), ?_⟩, rfl⟩
      have hlen : (B.map (fun (u : NvT W) => Classical.choose u.2)).length = len := by rw [List.length_map, hBL]
      have hN : NodeV W (.mk o n (B.map (fun (u : NvT W) => Classical.choose u.2))) (.agg #[.int .u8 (o : Int), .int .i64 n, .slice A (B.map (fun (u : NvT W) => Classical.choose u.2)).length cap]) := by
        refine NodeV.mk ho (vs := B.map (·.1)) (by simp) ?_ (fun i t u ht hu => ?_) (by rw [hlen]; exact hl) (by rw [hlen]; unfold maxLen at hm; unfold lenMax; omega)
        · have he2 : (B.map (·.1)).flatMap nvCells = (B.map (fun u => nvCells u.1)).flatten := by
            rw [List.flatMap_def, List.map_map]; rfl
          rw [he2]; exact hcs
        · rw [List.getElem?_map] at ht hu
          cases hb : B[i]? with
          | none => rw [hb] at hu; simp at hu
          | some z =>
            rw [hb] at ht hu
            simp at ht hu
            subst ht; subst hu
            exact Classical.choose_spec z.2
      rw [hlen] at hN
      exact hN
theorem open_node {fuel : Nat} {cs : List Value} {x : DataW H × List MemPlace} (h : DataW.trod enc Tryd.prog W 0 (fun _ => true) true fuel 68 cs = some x) : ∃ u : NvT W, cs = nvCells u.1 := open_tree _ _ _ _ (Nat.le_refl _) h
theorem lists_flat {α : Type} (B : List α) (f : α → List Value) : B.flatMap f = (B.map f).flatten := List.flatMap_def ..
/-- An update: what it turns, and its expression as a tree. -/
abbrev UvT (W : World) := {u : Uv // ∃ t, NodeV W t (nvVal u.2)}
set_option maxRecDepth 100000 in
theorem open_update {fuel : Nat} {cs : List Value} {x : DataW H × List MemPlace} (h : DataW.trod enc Tryd.prog W 0 (fun _ => true) true fuel 86 cs = some x) : ∃ u : UvT W, cs = uvCells u.1 := by
  obtain ⟨xs, m, hf, _, hlen, hxl, hfs⟩ := DataW.trod_struct Tryd.underlying86 h
  rw [kc86] at hlen
  match cs, hlen with
  | [c0, c1, c2, c3], _ =>
    have h0 := hfs 0 _ rfl
    have h1 := hfs 1 _ rfl
    rw [List.getElem?_eq_getElem (show 0 < xs.length by rw [hxl]; decide)] at h0
    rw [List.getElem?_eq_getElem (show 1 < xs.length by rw [hxl]; decide)] at h1
    simp [kc3, kc68] at h0 h1
    obtain ⟨v, e0, _, _⟩ := DataW.trod_int Tryd.underlying3 h0
    obtain ⟨u, hu⟩ := open_node h1
    cases e0
    exact ⟨⟨(v, u.1), u.2⟩, by unfold uvCells; rw [← hu]⟩
set_option maxRecDepth 100000 in
theorem open_ups {fuel : Nat} {cs : List Value} {x : DataW H × List MemPlace} (h : DataW.trod enc Tryd.prog W 0 (fun _ => true) true fuel 69 cs = some x) : ∃ v us c, cs = [v] ∧ UpsC W v us c := by
  obtain ⟨A, len, cap, n, e0, hl, hm, _, hel⟩ := open_slice2 Tryd.underlying69 h
  rw [kc86] at hel
  obtain ⟨L, hL, hq, hcs⟩ := cells_open (w := W) (A := A) (len := len) (sz := 4) (Q := fun _ css => ∃ u : UvT W, css = uvCells u.1) (by omega) (fun i hi => by
    obtain ⟨a, css, y, h1, h2, h3⟩ := hel i hi
    exact ⟨a, css, h1, h2, open_update h3⟩)
  obtain ⟨B, rfl⟩ := list_of_map (f := fun (u : UvT W) => uvCells u.1) L (fun i y hy => (hq i y hy).2)
  have hBL : B.length = len := by rw [List.length_map] at hL; exact hL
  refine ⟨_, B.map (fun (u : UvT W) => (⟨u.1.1, Classical.choose u.2⟩ : Up)), cap, e0, A, B.map (·.1), by rw [List.length_map, hBL], by simp, ?_, fun i u y hu hy => ?_, by rw [List.length_map, hBL]; exact hl, by rw [List.length_map, hBL]; unfold maxLen at hm; unfold lenMax; omega⟩
  · have he2 : (B.map (·.1)).flatMap uvCells = (B.map (fun u => uvCells u.1)).flatten := by
      rw [List.flatMap_def, List.map_map]; rfl
    rw [he2]; exact hcs
  · rw [List.getElem?_map] at hu hy
    cases hb : B[i]? with
    | none => rw [hb] at hu; simp at hu
    | some z =>
      rw [hb] at hu hy
      simp at hu hy
      subst hu; subst hy
      exact ⟨rfl, Classical.choose_spec z.2⟩
/-- An arc, and what it says. -/
abbrev AvT (W : World) := {p : Av × Ac // ArcV W p.2 p.1}
set_option maxRecDepth 100000 in
theorem open_arc {fuel : Nat} {cs : List Value} {x : DataW H × List MemPlace} (h : DataW.trod enc Tryd.prog W 0 (fun _ => true) true fuel 71 cs = some x) : ∃ p : AvT W, cs = avCells p.1.1 := by
  obtain ⟨xs, m, hf, _, hlen, hxl, hfs⟩ := DataW.trod_struct Tryd.underlying71 h
  rw [kc71] at hlen
  match cs, hlen with
  | [c0, c1, c2, c3, c4, c5, c6, c7], _ =>
    have h0 := hfs 0 _ rfl
    have h1 := hfs 1 _ rfl
    have h2 := hfs 2 _ rfl
    have h3 := hfs 3 _ rfl
    have h4 := hfs 4 _ rfl
    have h5 := hfs 5 _ rfl
    rw [List.getElem?_eq_getElem (show 0 < xs.length by rw [hxl]; decide)] at h0
    rw [List.getElem?_eq_getElem (show 1 < xs.length by rw [hxl]; decide)] at h1
    rw [List.getElem?_eq_getElem (show 2 < xs.length by rw [hxl]; decide)] at h2
    rw [List.getElem?_eq_getElem (show 3 < xs.length by rw [hxl]; decide)] at h3
    rw [List.getElem?_eq_getElem (show 4 < xs.length by rw [hxl]; decide)] at h4
    rw [List.getElem?_eq_getElem (show 5 < xs.length by rw [hxl]; decide)] at h5
    simp [kc3, kc68, kc69] at h0 h1 h2 h3 h4 h5
    obtain ⟨frm, e0, _, _⟩ := DataW.trod_int Tryd.underlying3 h0
    obtain ⟨inp, e1, _, _⟩ := DataW.trod_int Tryd.underlying3 h1
    obtain ⟨u, hu⟩ := open_node h2
    obtain ⟨out, e3, _, _⟩ := DataW.trod_int Tryd.underlying3 h3
    obtain ⟨v, us, c, e4, hus⟩ := open_ups h4
    obtain ⟨dst, e5, _, _⟩ := DataW.trod_int Tryd.underlying3 h5
    cases e0; cases e1; cases e3; cases e4; cases e5
    obtain ⟨t, ht⟩ := u.2
    refine ⟨⟨(⟨frm, inp, u.1, out, c6, dst⟩, ⟨frm, inp, t, out, us, dst⟩), rfl, rfl, ht, rfl, ⟨c, hus⟩, rfl⟩, ?_⟩
    have hu : [c2, c3, c4] = [.int .u8 u.1.1, .int .i64 u.1.2.1, u.1.2.2] := hu
    injection hu with g0 hu
    injection hu with g1 hu
    injection hu with g2 _
    rw [g0, g1, g2]
    rfl
set_option maxRecDepth 100000 in
theorem open_acs {fuel : Nat} {cs : List Value} {x : DataW H × List MemPlace} (h : DataW.trod enc Tryd.prog W 0 (fun _ => true) true fuel 29 cs = some x) : ∃ v al c, cs = [v] ∧ AcsC W v al c := by
  obtain ⟨A, len, cap, n, e0, hl, hm, _, hel⟩ := open_slice2 Tryd.underlying29 h
  rw [kc71] at hel
  obtain ⟨L, hL, hq, hcs⟩ := cells_open (w := W) (A := A) (len := len) (sz := 8) (Q := fun _ css => ∃ p : AvT W, css = avCells p.1.1) (by omega) (fun i hi => by
    obtain ⟨a, css, y, h1, h2, h3⟩ := hel i hi
    exact ⟨a, css, h1, h2, open_arc h3⟩)
  obtain ⟨B, rfl⟩ := list_of_map (f := fun (p : AvT W) => avCells p.1.1) L (fun i y hy => (hq i y hy).2)
  have hBL : B.length = len := by rw [List.length_map] at hL; exact hL
  refine ⟨_, B.map (·.1.2), cap, e0, A, B.map (·.1.1), by rw [List.length_map, hBL], by simp, ?_, fun i u y hu hy => ?_, by rw [List.length_map, hBL]; exact hl, by rw [List.length_map, hBL]; unfold maxLen at hm; unfold lenMax; omega⟩
  · have he2 : (B.map (·.1.1)).flatMap avCells = (B.map (fun u => avCells u.1.1)).flatten := by
      rw [List.flatMap_def, List.map_map]; rfl
    rw [he2]; exact hcs
  · rw [List.getElem?_map] at hu hy
    cases hb : B[i]? with
    | none => rw [hb] at hu; simp at hu
    | some z =>
      rw [hb] at hu hy
      simp at hu hy
      subst hu; subst hy
      exact z.2
set_option maxRecDepth 100000 in
theorem open_var {fuel : Nat} {cs : List Value} {x : DataW H × List MemPlace} (h : DataW.trod enc Tryd.prog W 0 (fun _ => true) true fuel 79 cs = some x) : ∃ u : {u : Vt // u.1.size ≤ maxLen}, cs = vtCells u.1 := by
  obtain ⟨xs, m, hf, _, hlen, hxl, hfs⟩ := DataW.trod_struct Tryd.underlying79 h
  rw [kc79] at hlen
  match cs, hlen with
  | [c0, c1, c2], _ =>
    have h0 := hfs 0 _ rfl
    have h1 := hfs 1 _ rfl
    have h2 := hfs 2 _ rfl
    rw [List.getElem?_eq_getElem (show 0 < xs.length by rw [hxl]; decide)] at h0
    rw [List.getElem?_eq_getElem (show 1 < xs.length by rw [hxl]; decide)] at h1
    rw [List.getElem?_eq_getElem (show 2 < xs.length by rw [hxl]; decide)] at h2
    simp [kc3, kc9] at h0 h1 h2
    obtain ⟨s, e0, _, hs⟩ := DataW.trod_string Tryd.underlying9 h0
    obtain ⟨lo, e1, _, _⟩ := DataW.trod_int Tryd.underlying3 h1
    obtain ⟨hi, e2, _, _⟩ := DataW.trod_int Tryd.underlying3 h2
    cases e0; cases e1; cases e2
    exact ⟨⟨(s, lo, hi), hs⟩, rfl⟩
set_option maxRecDepth 100000 in
theorem open_vars {fuel : Nat} {cs : List Value} {x : DataW H × List MemPlace} (h : DataW.trod enc Tryd.prog W 0 (fun _ => true) true fuel 27 cs = some x) : ∃ v l c, cs = [v] ∧ VarsC W v l c := by
  obtain ⟨A, len, cap, n, e0, hl, hm, _, hel⟩ := open_slice2 Tryd.underlying27 h
  rw [kc79] at hel
  obtain ⟨L, hL, hq, hcs⟩ := cells_open (w := W) (A := A) (len := len) (sz := 3) (Q := fun _ css => ∃ u : {u : Vt // u.1.size ≤ maxLen}, css = vtCells u.1) (by omega) (fun i hi => by
    obtain ⟨a, css, y, h1, h2, h3⟩ := hel i hi
    exact ⟨a, css, h1, h2, open_var h3⟩)
  obtain ⟨B, rfl⟩ := list_of_map (f := fun (u : {u : Vt // u.1.size ≤ maxLen}) => vtCells u.1) L (fun i y hy => (hq i y hy).2)
  have hBL : B.length = len := by rw [List.length_map] at hL; exact hL
  refine ⟨_, B.map (·.1), cap, e0, A, by rw [List.length_map, hBL], ?_, by rw [List.length_map, hBL]; exact hl, by rw [List.length_map, hBL]; unfold maxLen at hm; unfold lenMax; omega, fun u hu => ?_⟩
  · have he2 : (B.map (·.1)).flatMap vtCells = (B.map (fun u => vtCells u.1)).flatten := by
      rw [List.flatMap_def, List.map_map]; rfl
    rw [he2]; exact hcs
  · obtain ⟨z, _, rfl⟩ := List.mem_map.1 hu
    exact z.2
set_option maxRecDepth 100000 in
theorem open_ints' {fuel : Nat} {cs : List Value} {x : DataW H × List MemPlace} (h : DataW.trod enc Tryd.prog W 0 (fun _ => true) true fuel 28 cs = some x) : ∃ v xs c, cs = [v] ∧ IntsC W v xs c := by
  obtain ⟨A, len, cap, n, e0, hl, hm, _, hel⟩ := open_slice2 Tryd.underlying28 h
  rw [kc3] at hel
  obtain ⟨L, hL, hq, hcs⟩ := cells_open (w := W) (A := A) (len := len) (sz := 1) (Q := fun _ css => ∃ t : Int, css = [.int .i64 t]) (by omega) (fun i hi => by
    obtain ⟨a, css, y, h1, h2, h3⟩ := hel i hi
    obtain ⟨t, e, _, _⟩ := DataW.trod_int Tryd.underlying3 h3
    exact ⟨a, css, h1, h2, t, e⟩)
  obtain ⟨B, rfl⟩ := list_of_map (f := fun (t : Int) => [Value.int .i64 t]) L (fun i y hy => (hq i y hy).2)
  have hBL : B.length = len := by rw [List.length_map] at hL; exact hL
  unfold maxLen at hm
  refine ⟨_, B, cap, e0, A, by rw [hBL], ?_, by rw [hBL]; exact hl, by unfold lenMax; omega⟩
  have he2 : B.map (Value.int .i64) = (B.map (fun t => [Value.int .i64 t])).flatten := by
    conv => lhs; rw [← flatten_single (B.map _), List.map_map]
    rfl
  rw [he2]
  exact hcs
set_option maxRecDepth 100000 in
theorem open_ints {b0 : Nat} {v : Value} {d : DataW H} {p : List MemPlace} (hv : Value.okWide Tryd.prog W .any b0 28 v) (h : DataW.Trod enc Tryd.prog W 0 (fun _ => true) true 28 v d p) : ∃ (xs : List Int) (c : Nat), IntsC W v xs c := by
  obtain ⟨a, len0, cp, rfl⟩ := okWide_slice Tryd.underlying28 hv
  obtain ⟨fuel, hf⟩ := h
  obtain ⟨u, xs, c, e, hi⟩ := open_ints' hf
  have he : Value.slice a len0 cp = u := by simpa [Value.cells] using e
  exact ⟨xs, c, he ▸ hi⟩
set_option maxRecDepth 100000 in
theorem open_config {b0 : Nat} {v : Value} {d : DataW H} {p : List MemPlace} (hv : Value.okWide Tryd.prog W .any b0 34 v) (h : DataW.Trod enc Tryd.prog W 0 (fun _ => true) true 34 v d p) : ∃ (s : Int) (yv : Value) (ys : List Int) (c : Nat), v = .agg #[.int .i64 s, yv] ∧ IntsC W yv ys c := by
  obtain ⟨cs, rfl, hsz⟩ := okWide_struct Tryd.underlying34 hv
  rw [show Tryd.prog.cellsOf 34 = 2 by kernel_rfl] at hsz
  obtain ⟨fuel, hf⟩ := h
  obtain ⟨xs, m, _, _, hlen, hxl, hfs⟩ := DataW.trod_struct Tryd.underlying34 hf
  obtain ⟨c0, c1, rfl⟩ := array2 hsz
  have h0 := hfs 0 _ rfl
  have h1 := hfs 1 _ rfl
  rw [List.getElem?_eq_getElem (show 0 < xs.length by rw [hxl]; decide)] at h0
  rw [List.getElem?_eq_getElem (show 1 < xs.length by rw [hxl]; decide)] at h1
  simp [kc3, kc28, Value.cells] at h0 h1
  obtain ⟨s, e0, _, _⟩ := DataW.trod_int Tryd.underlying3 h0
  obtain ⟨u, ys, c, e1, hi⟩ := open_ints' h1
  obtain rfl : c1 = u := by simpa using e1
  cases e0
  exact ⟨s, c1, ys, c, rfl, hi⟩
set_option maxRecDepth 100000 in
theorem open_ext {b0 : Nat} {v : Value} {d : DataW H} {p : List MemPlace} (hv : Value.okWide Tryd.prog W .any b0 31 v) (h : DataW.Trod enc Tryd.prog W 0 (fun _ => true) true 31 v d p) : ∃ x, XtV W x v := by
  obtain ⟨cs, rfl, hsz⟩ := okWide_struct Tryd.underlying31 hv
  rw [show Tryd.prog.cellsOf 31 = 6 by kernel_rfl] at hsz
  obtain ⟨fuel, hf⟩ := h
  obtain ⟨xs, m, _, _, hlen, hxl, hfs⟩ := DataW.trod_struct Tryd.underlying31 hf
  obtain ⟨l⟩ := cs
  match l, hsz with
  | [c0, c1, c2, c3, c4, c5], _ =>
    have h0 := hfs 0 _ rfl
    have h1 := hfs 1 _ rfl
    have h2 := hfs 2 _ rfl
    have h3 := hfs 3 _ rfl
    have h4 := hfs 4 _ rfl
    have h5 := hfs 5 _ rfl
    rw [List.getElem?_eq_getElem (show 0 < xs.length by rw [hxl]; decide)] at h0
    rw [List.getElem?_eq_getElem (show 1 < xs.length by rw [hxl]; decide)] at h1
    rw [List.getElem?_eq_getElem (show 2 < xs.length by rw [hxl]; decide)] at h2
    rw [List.getElem?_eq_getElem (show 3 < xs.length by rw [hxl]; decide)] at h3
    rw [List.getElem?_eq_getElem (show 4 < xs.length by rw [hxl]; decide)] at h4
    rw [List.getElem?_eq_getElem (show 5 < xs.length by rw [hxl]; decide)] at h5
    simp [kc3, kc27, kc28, kc29, Value.cells] at h0 h1 h2 h3 h4 h5
    obtain ⟨ins, e0, _, _⟩ := DataW.trod_int Tryd.underlying3 h0
    obtain ⟨outs, e1, _, _⟩ := DataW.trod_int Tryd.underlying3 h1
    obtain ⟨sts, e2, _, _⟩ := DataW.trod_int Tryd.underlying3 h2
    obtain ⟨v3, vars, k3, e3, g3⟩ := open_vars h3
    obtain ⟨v4, start, k4, e4, g4⟩ := open_ints' h4
    obtain ⟨v5, al, k5, e5, g5⟩ := open_acs h5
    cases e0; cases e1; cases e2
    obtain rfl : c3 = v3 := by simpa using e3
    obtain rfl : c4 = v4 := by simpa using e4
    obtain rfl : c5 = v5 := by simpa using e5
    exact ⟨⟨ins, outs, sts, vars, start, al⟩, c3, c4, c5, k3, k4, k5, rfl, g3, g4, g5⟩
end
end Go.Proofs.YtggffdkgfgdaoaaDoor
