/- Values of type []uint8, read as data. -/
import Derived.Test.YthlnmcokgfpgmaaDoorZM
import Derived.Test.YthlnmcokgfpgmaaDoorZN
namespace Go.Proofs.YthlnmcokgfpgmaaDoor
open Go.ChangeShapes Go.WideShapes Go.ChangeAt Go.RowKit
set_option linter.unusedVariables false
set_option linter.unusedSimpArgs false
section
variable {H : Type} {enc : TypeId × Value → H} {W : World}
theorem open_byte {fuel : Nat} {cs : List Value} {x : DataW H × List MemPlace} (h : DataW.trod enc Tryd.prog W 0 (fun _ => true) true fuel 5 cs = some x) : ∃ t : {t : Nat // t < 256}, cs = [.int .u8 (t.1 : Int)] := by
  obtain ⟨a, e, _, w⟩ := DataW.trod_int Tryd.underlying5 h
  obtain ⟨n, rfl, l⟩ := u8_nat w
  exact ⟨⟨n, l⟩, e⟩
set_option maxRecDepth 100000 in
theorem open_u8s {b0 : Nat} {v : Value} {d : DataW H} {p : List MemPlace} (hv : Value.okWide Tryd.prog W .any b0 56 v) (h : DataW.Trod enc Tryd.prog W 0 (fun _ => true) true 56 v d p) : ∃ (xs : List Nat) (c : Nat), U8sC W v xs c := by
  obtain ⟨a, len0, cp, rfl⟩ := okWide_slice Tryd.underlying56 hv
  obtain ⟨fuel, hf⟩ := h
  obtain ⟨A, len, cap, n, e0, hl, hm, hel⟩ := open_slice Tryd.underlying56 hf
  have hc : Tryd.prog.cellsOf 5 = 1 := by kernel_rfl
  rw [hc] at hel
  obtain ⟨L, hL, hq, hcs⟩ := cells_open (w := W) (A := A) (len := len) (sz := 1) (Q := fun _ css => ∃ t : {t : Nat // t < 256}, css = [.int .u8 (t.1 : Int)]) (by omega) (fun i hi => by
    obtain ⟨a, css, y, h1, h2, h3⟩ := hel i hi
    exact ⟨a, css, h1, h2, open_byte h3⟩)
  obtain ⟨B, rfl⟩ := list_of_map (f := fun (t : {t : Nat // t < 256}) => [Value.int .u8 (t.1 : Int)]) L (fun i y hy => (hq i y hy).2)
  have hBL : (B.map (·.1)).length = len := by rw [List.length_map] at hL ⊢; exact hL
  have hve : Value.slice a len0 cp = .slice A len cap := by simpa [Value.cells] using e0
  refine ⟨B.map (·.1), cap, A, by rw [hBL]; exact hve, ?_, by rw [hBL]; exact hl, by rw [hBL]; exact Nat.le_trans hl hm, fun z hz => ?_⟩
  · have he2 : (B.map (·.1)).map (fun (x : Nat) => Value.int .u8 (x : Int)) = (B.map (fun t => [Value.int .u8 (t.1 : Int)])).flatten := by
      rw [List.map_map]
      conv => lhs; rw [← flatten_single (B.map _), List.map_map]
      rfl
    rw [he2]
    exact hcs
  · obtain ⟨y, _, rfl⟩ := List.mem_map.1 hz
    exact y.2
end
end Go.Proofs.YthlnmcokgfpgmaaDoor
