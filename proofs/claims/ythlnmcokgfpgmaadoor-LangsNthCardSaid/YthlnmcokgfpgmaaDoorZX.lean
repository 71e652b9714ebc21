/- Values of type uint16, read as data. -/
import Derived.Test.YthlnmcokgfpgmaaDoorZM
namespace Go.Proofs.YthlnmcokgfpgmaaDoor
open Go.ChangeShapes Go.WideShapes Go.ChangeAt Go.RowKit
theorem u16_nat {a : Int} (h : (Lit.int .u16 a).wf = true) : ∃ k : Nat, a = k ∧ k < 65536 := by
  have := bounds_u16 h
  exact ⟨a.toNat, by omega, by omega⟩
end Go.Proofs.YthlnmcokgfpgmaaDoor
