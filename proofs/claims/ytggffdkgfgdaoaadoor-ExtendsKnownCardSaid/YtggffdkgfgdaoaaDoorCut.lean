/- A function's text, cut into pieces: what stands from a region on. -/
import Derived.Test.YtggffdkgfgdaoaaDoorGA
namespace Go.Proofs.YtggffdkgfgdaoaaDoor
open Go.RowKit
def headR : Code → Option Nat
  | .region k _ _ => some k
  | .seq a _ => headR a
  | .block _ c => headR c
  | .loop c => headR c
  | _ => none
/-- What stands from region n on (a region on the function's own level). -/
def tailR (n : Nat) : Code → Option Code
  | .seq a b => if headR a = some n then some (.seq a b) else tailR n b
  | _ => none
def textR (n : Nat) (o : Option Code) : Code := match o with
  | some c => (tailR n c).getD .skip
  | none => .skip
/-- The walk stops here. -/
structure Stop (p : Prop) : Prop where
  out : p
/-- To look at a goal from near: an arm (at_builtin; refine halt_here ?_). -/
theorem halt_here {p : Prop} (h : Stop p) : p := h.out
theorem stop_at (n : Nat) {P : Program} {ops : Array Oper} {d : Bool} {rest : Code} {Q : Exit → Act → World → Prop} {a : Act} {w : World} (h : Stop (Code.wp P (.seq (.region n ops d) rest) Q a w)) : Code.wp P (.seq (.region n ops d) rest) Q a w := h.out
theorem stop_at2 (n : Nat) {P : Program} {ops : Array Oper} {d : Bool} {c rest : Code} {Q : Exit → Act → World → Prop} {a : Act} {w : World} (h : Stop (Code.wp P (.seq (.seq (.region n ops d) c) rest) Q a w)) : Code.wp P (.seq (.seq (.region n ops d) c) rest) Q a w := h.out
end Go.Proofs.YtggffdkgfgdaoaaDoor
