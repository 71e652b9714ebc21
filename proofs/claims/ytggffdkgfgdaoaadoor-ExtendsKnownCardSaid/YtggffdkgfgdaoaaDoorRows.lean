/-
  NARROWER THAN 'FOR EVERY INPUT', by the rows' own cells (each row's printed sentence says how): ExtendsStep: laid · ExtendsRun: laid · ExtendsUnfold: laid · ExtendsConflict: laid · ExtendsOrder: laid · ExtendsErrors: loops, laid · ExtendsKnown: laid.
  DERIVED. THE GIVEN ROWS OF THIS SEAT. 7 by the template 'for every input the law returns true; each argument reads behind the call as it read before'; 0 by the template 'total and deterministic' (their statements: YtggffdkgfgdaoaaDoorTotals.lean).
  GIVEN WITH THE SEED: the statements are not yours to turn. If you find one false, say at which input.
  Laid BY PROGRAM, IN A SANDBOX (cutbox-rows.mjs): the forced cells as the released guide's own fill.sh prints them over the translation 9dac3c6ae839ff92… (all of the seat's roots in one cut). By AI agents, Wed Nov 11 2026. No macro, syntax, notation, axiom, sorry.
-/
import Derived.Test.YtggffdkgfgdaoaaDoorChecked
import GoSem.Claim
import GoSem.ClaimJoined
import GoSem.ClaimMapViews
import Derived.JoinedTies
import Derived.KernelRfl
namespace Go.Proofs.YtggffdkgfgdaoaaDoor
/- THE CELL 'sum', in the pinned program and in every row, IS THE sha256 OF THE DUMP (.gsa) THAT YtggffdkgfgdaoaaDoorProg.lean LOADS. Nothing in Lean hashes anything: it is a label: what it is worth is what the hold of that sum in a sandbox is worth. -/
noncomputable def Tryd.pinned : Pinned := { name := "ytggffdkgfgdaoaadoor", sum := "9dac3c6ae839ff92e90e0631481023dcf31dc76999bf1df930a1fd2a6485e088", checked := Tryd.checked }
namespace Rows
def none {H : Type} : Left H := { results := [], args := [] }

/- WHAT THE LISTED PACKAGE-LEVEL VARIABLES READ AS WHEN THE CALL BEGINS. Each datum BY PROGRAM (the guide's laid-datum.mjs) off the statement by which the dump's own 'gosem.cut.vars' lays the variable. In a bare row this is a premise. The card (YtggffdkgfgdaoaaDoorCards.lean) ties it to the program's text. -/
def laid_gauntlet_guards_operations {H : Type} : DataW H := .iface "func table" (.agg [.agg [.lit (.string []), .lit (.int .i64 0), .lit (.int .i64 8), .agg [.lit (.int .i64 0), .lit (.int .i64 0)], .lit (.bool false), .nil], .agg [.lit (.string []), .lit (.int .i64 0), .lit (.int .i64 8), .agg [.lit (.int .i64 0), .lit (.int .i64 0)], .lit (.bool false), .nil], .agg [.lit (.string [45]), .lit (.int .i64 1), .lit (.int .i64 7), .agg [.lit (.int .i64 7), .lit (.int .i64 0)], .lit (.bool true), .iface "func" (.lit (.string [103, 97, 117, 110, 116, 108, 101, 116, 47, 103, 117, 97, 114, 100, 115, 46, 111, 112, 101, 114, 97, 116, 105, 111, 110, 115, 36, 49]))], .agg [.lit (.string [43]), .lit (.int .i64 2), .lit (.int .i64 5), .agg [.lit (.int .i64 5), .lit (.int .i64 6)], .lit (.bool true), .iface "func" (.lit (.string [103, 97, 117, 110, 116, 108, 101, 116, 47, 103, 117, 97, 114, 100, 115, 46, 111, 112, 101, 114, 97, 116, 105, 111, 110, 115, 36, 50]))], .agg [.lit (.string [45]), .lit (.int .i64 2), .lit (.int .i64 5), .agg [.lit (.int .i64 5), .lit (.int .i64 6)], .lit (.bool true), .iface "func" (.lit (.string [103, 97, 117, 110, 116, 108, 101, 116, 47, 103, 117, 97, 114, 100, 115, 46, 111, 112, 101, 114, 97, 116, 105, 111, 110, 115, 36, 51]))], .agg [.lit (.string [42]), .lit (.int .i64 2), .lit (.int .i64 6), .agg [.lit (.int .i64 6), .lit (.int .i64 7)], .lit (.bool true), .iface "func" (.lit (.string [103, 97, 117, 110, 116, 108, 101, 116, 47, 103, 117, 97, 114, 100, 115, 46, 111, 112, 101, 114, 97, 116, 105, 111, 110, 115, 36, 52]))], .agg [.lit (.string [61]), .lit (.int .i64 2), .lit (.int .i64 4), .agg [.lit (.int .i64 5), .lit (.int .i64 5)], .lit (.bool true), .iface "func" (.lit (.string [103, 97, 117, 110, 116, 108, 101, 116, 47, 103, 117, 97, 114, 100, 115, 46, 111, 112, 101, 114, 97, 116, 105, 111, 110, 115, 36, 53]))], .agg [.lit (.string [60]), .lit (.int .i64 2), .lit (.int .i64 4), .agg [.lit (.int .i64 5), .lit (.int .i64 5)], .lit (.bool true), .iface "func" (.lit (.string [103, 97, 117, 110, 116, 108, 101, 116, 47, 103, 117, 97, 114, 100, 115, 46, 111, 112, 101, 114, 97, 116, 105, 111, 110, 115, 36, 54]))], .agg [.lit (.string [60, 61]), .lit (.int .i64 2), .lit (.int .i64 4), .agg [.lit (.int .i64 5), .lit (.int .i64 5)], .lit (.bool true), .iface "func" (.lit (.string [103, 97, 117, 110, 116, 108, 101, 116, 47, 103, 117, 97, 114, 100, 115, 46, 111, 112, 101, 114, 97, 116, 105, 111, 110, 115, 36, 55]))], .agg [.lit (.string [110, 111, 116]), .lit (.int .i64 1), .lit (.int .i64 3), .agg [.lit (.int .i64 3), .lit (.int .i64 0)], .lit (.bool false), .iface "func" (.lit (.string [103, 97, 117, 110, 116, 108, 101, 116, 47, 103, 117, 97, 114, 100, 115, 46, 111, 112, 101, 114, 97, 116, 105, 111, 110, 115, 36, 56]))], .agg [.lit (.string [97, 110, 100]), .lit (.int .i64 2), .lit (.int .i64 2), .agg [.lit (.int .i64 2), .lit (.int .i64 3)], .lit (.bool false), .iface "func" (.lit (.string [103, 97, 117, 110, 116, 108, 101, 116, 47, 103, 117, 97, 114, 100, 115, 46, 111, 112, 101, 114, 97, 116, 105, 111, 110, 115, 36, 57]))], .agg [.lit (.string [111, 114]), .lit (.int .i64 2), .lit (.int .i64 1), .agg [.lit (.int .i64 1), .lit (.int .i64 2)], .lit (.bool false), .iface "func" (.lit (.string [103, 97, 117, 110, 116, 108, 101, 116, 47, 103, 117, 97, 114, 100, 115, 46, 111, 112, 101, 114, 97, 116, 105, 111, 110, 115, 36, 49, 48]))]])

/-- 'gauntletlaw29.ExtendsStep': WHATEVER THE INPUT: true; the input reads as it did. -/
def extendsStepSpec : ChangeSpec := { name := "extendsStep", fn := fun _ => fun
  | [d1, d2, d3] => { results := [.lit (.bool true)], args := [d1, d2, d3] }
  | _ => none }
def extendsStepRow : OpenClaim := { program := "ytggffdkgfgdaoaadoor", sum := "9dac3c6ae839ff92e90e0631481023dcf31dc76999bf1df930a1fd2a6485e088", func := "gauntlet/gauntletlaw29.ExtendsStep", spec := "extendsStep", unfollowed := true, recurses := true, named := ["gauntlet/guards.operations"], plainKeys := false, apart := false, laid := [("gauntlet/guards.operations", laid_gauntlet_guards_operations)] }
def ExtendsStepSaid : Prop := extendsStepRow.holds Tryd.pinned (OpenSpec.ofChange extendsStepSpec)

/-- ITS FALSE NEIGHBOUR: 'it returns false'. Refute it at one input. -/
def extendsStepWrong : ChangeSpec := { name := "extendsStep", fn := fun _ => fun
  | [d1, d2, d3] => { results := [.lit (.bool false)], args := [d1, d2, d3] }
  | _ => none }
def ExtendsStepWrongFalsely : Prop := extendsStepRow.holds Tryd.pinned (OpenSpec.ofChange extendsStepWrong)

/-- 'gauntletlaw29.ExtendsRun': WHATEVER THE INPUT: true; the input reads as it did. -/
def extendsRunSpec : ChangeSpec := { name := "extendsRun", fn := fun _ => fun
  | [d1, d2] => { results := [.lit (.bool true)], args := [d1, d2] }
  | _ => none }
def extendsRunRow : OpenClaim := { program := "ytggffdkgfgdaoaadoor", sum := "9dac3c6ae839ff92e90e0631481023dcf31dc76999bf1df930a1fd2a6485e088", func := "gauntlet/gauntletlaw29.ExtendsRun", spec := "extendsRun", unfollowed := true, recurses := true, named := ["gauntlet/guards.operations"], plainKeys := false, apart := false, laid := [("gauntlet/guards.operations", laid_gauntlet_guards_operations)] }
def ExtendsRunSaid : Prop := extendsRunRow.holds Tryd.pinned (OpenSpec.ofChange extendsRunSpec)

/-- ITS FALSE NEIGHBOUR: 'it returns false'. Refute it at one input. -/
def extendsRunWrong : ChangeSpec := { name := "extendsRun", fn := fun _ => fun
  | [d1, d2] => { results := [.lit (.bool false)], args := [d1, d2] }
  | _ => none }
def ExtendsRunWrongFalsely : Prop := extendsRunRow.holds Tryd.pinned (OpenSpec.ofChange extendsRunWrong)

/-- 'gauntletlaw29.ExtendsUnfold': WHATEVER THE INPUT: true; the input reads as it did. -/
def extendsUnfoldSpec : ChangeSpec := { name := "extendsUnfold", fn := fun _ => fun
  | [d1, d2] => { results := [.lit (.bool true)], args := [d1, d2] }
  | _ => none }
def extendsUnfoldRow : OpenClaim := { program := "ytggffdkgfgdaoaadoor", sum := "9dac3c6ae839ff92e90e0631481023dcf31dc76999bf1df930a1fd2a6485e088", func := "gauntlet/gauntletlaw29.ExtendsUnfold", spec := "extendsUnfold", unfollowed := true, recurses := true, named := ["gauntlet/guards.operations"], plainKeys := false, apart := false, laid := [("gauntlet/guards.operations", laid_gauntlet_guards_operations)] }
def ExtendsUnfoldSaid : Prop := extendsUnfoldRow.holds Tryd.pinned (OpenSpec.ofChange extendsUnfoldSpec)

/-- ITS FALSE NEIGHBOUR: 'it returns false'. Refute it at one input. -/
def extendsUnfoldWrong : ChangeSpec := { name := "extendsUnfold", fn := fun _ => fun
  | [d1, d2] => { results := [.lit (.bool false)], args := [d1, d2] }
  | _ => none }
def ExtendsUnfoldWrongFalsely : Prop := extendsUnfoldRow.holds Tryd.pinned (OpenSpec.ofChange extendsUnfoldWrong)

/-- 'gauntletlaw29.ExtendsConflict': WHATEVER THE INPUT: true; the input reads as it did. -/
def extendsConflictSpec : ChangeSpec := { name := "extendsConflict", fn := fun _ => fun
  | [d] => { results := [.lit (.bool true)], args := [d] }
  | _ => none }
def extendsConflictRow : OpenClaim := { program := "ytggffdkgfgdaoaadoor", sum := "9dac3c6ae839ff92e90e0631481023dcf31dc76999bf1df930a1fd2a6485e088", func := "gauntlet/gauntletlaw29.ExtendsConflict", spec := "extendsConflict", unfollowed := true, recurses := true, named := ["gauntlet/guards.operations"], plainKeys := false, apart := false, laid := [("gauntlet/guards.operations", laid_gauntlet_guards_operations)] }
def ExtendsConflictSaid : Prop := extendsConflictRow.holds Tryd.pinned (OpenSpec.ofChange extendsConflictSpec)

/-- ITS FALSE NEIGHBOUR: 'it returns false'. Refute it at one input. -/
def extendsConflictWrong : ChangeSpec := { name := "extendsConflict", fn := fun _ => fun
  | [d] => { results := [.lit (.bool false)], args := [d] }
  | _ => none }
def ExtendsConflictWrongFalsely : Prop := extendsConflictRow.holds Tryd.pinned (OpenSpec.ofChange extendsConflictWrong)

/-- 'gauntletlaw29.ExtendsOrder': WHATEVER THE INPUT: true; the input reads as it did. -/
def extendsOrderSpec : ChangeSpec := { name := "extendsOrder", fn := fun _ => fun
  | [d1, d2, d3] => { results := [.lit (.bool true)], args := [d1, d2, d3] }
  | _ => none }
def extendsOrderRow : OpenClaim := { program := "ytggffdkgfgdaoaadoor", sum := "9dac3c6ae839ff92e90e0631481023dcf31dc76999bf1df930a1fd2a6485e088", func := "gauntlet/gauntletlaw29.ExtendsOrder", spec := "extendsOrder", unfollowed := true, recurses := true, named := ["gauntlet/guards.operations"], plainKeys := false, apart := false, laid := [("gauntlet/guards.operations", laid_gauntlet_guards_operations)] }
def ExtendsOrderSaid : Prop := extendsOrderRow.holds Tryd.pinned (OpenSpec.ofChange extendsOrderSpec)

/-- ITS FALSE NEIGHBOUR: 'it returns false'. Refute it at one input. -/
def extendsOrderWrong : ChangeSpec := { name := "extendsOrder", fn := fun _ => fun
  | [d1, d2, d3] => { results := [.lit (.bool false)], args := [d1, d2, d3] }
  | _ => none }
def ExtendsOrderWrongFalsely : Prop := extendsOrderRow.holds Tryd.pinned (OpenSpec.ofChange extendsOrderWrong)

/-- 'gauntletlaw29.ExtendsErrors': WHATEVER THE INPUT: true; the input reads as it did. -/
def extendsErrorsSpec : ChangeSpec := { name := "extendsErrors", fn := fun _ => fun
  | [d1, d2, d3] => { results := [.lit (.bool true)], args := [d1, d2, d3] }
  | _ => none }
def extendsErrorsRow : OpenClaim := { program := "ytggffdkgfgdaoaadoor", sum := "9dac3c6ae839ff92e90e0631481023dcf31dc76999bf1df930a1fd2a6485e088", func := "gauntlet/gauntletlaw29.ExtendsErrors", spec := "extendsErrors", unfollowed := true, recurses := true, named := ["gauntlet/guards.operations"], loops := true, plainKeys := false, apart := false, laid := [("gauntlet/guards.operations", laid_gauntlet_guards_operations)] }
def ExtendsErrorsSaid : Prop := extendsErrorsRow.holds Tryd.pinned (OpenSpec.ofChange extendsErrorsSpec)

/-- ITS FALSE NEIGHBOUR: 'it returns false'. Refute it at one input. -/
def extendsErrorsWrong : ChangeSpec := { name := "extendsErrors", fn := fun _ => fun
  | [d1, d2, d3] => { results := [.lit (.bool false)], args := [d1, d2, d3] }
  | _ => none }
def ExtendsErrorsWrongFalsely : Prop := extendsErrorsRow.holds Tryd.pinned (OpenSpec.ofChange extendsErrorsWrong)

/-- 'gauntletlaw29.ExtendsKnown': WHATEVER THE INPUT: true; the input reads as it did. -/
def extendsKnownSpec : ChangeSpec := { name := "extendsKnown", fn := fun _ => fun
  | [] => { results := [.lit (.bool true)], args := [] }
  | _ => none }
def extendsKnownRow : OpenClaim := { program := "ytggffdkgfgdaoaadoor", sum := "9dac3c6ae839ff92e90e0631481023dcf31dc76999bf1df930a1fd2a6485e088", func := "gauntlet/gauntletlaw29.ExtendsKnown", spec := "extendsKnown", unfollowed := true, recurses := true, named := ["gauntlet/guards.operations"], plainKeys := false, apart := false, laid := [("gauntlet/guards.operations", laid_gauntlet_guards_operations)] }
def ExtendsKnownSaid : Prop := extendsKnownRow.holds Tryd.pinned (OpenSpec.ofChange extendsKnownSpec)

/-- ITS FALSE NEIGHBOUR: 'it returns false'. Refute it at one input. -/
def extendsKnownWrong : ChangeSpec := { name := "extendsKnown", fn := fun _ => fun
  | [] => { results := [.lit (.bool false)], args := [] }
  | _ => none }
def ExtendsKnownWrongFalsely : Prop := extendsKnownRow.holds Tryd.pinned (OpenSpec.ofChange extendsKnownWrong)

/- THE SECOND FORM. 'bulk': how many values and letters a reading holds, each counted each time it is reached (what is shared counts as often as it is met; a slice's spare places count too). A statement '..UptoSaid' is the law's where the arguments, and the package variables that the reading takes, are together of bulk at most 1048576: NARROWER than '..Said'. Prove '..Said' where nothing that the law and all that it calls make is longer than what came in: it says more and counts as full. Else prove '..UptoSaid'. A law counts once. -/
mutual
def uptoBulk {H : Type} : DataW H → Nat
  | .lit (.string bytes) => bytes.length + 1
  | .lit _ => 1
  | .nil => 1
  | .ptr d => uptoBulk d + 1
  | .slice elems spare => uptoBulkAll elems + uptoBulkAll spare + 1
  | .agg parts => uptoBulkAll parts + 1
  | .iface _ d => uptoBulk d + 1
  | .map entries => uptoBulkEntries entries + 1
  | .held _ => 1
def uptoBulkAll {H : Type} : List (DataW H) → Nat
  | [] => 0
  | d :: r => uptoBulk d + uptoBulkAll r
def uptoBulkEntries {H : Type} : List (Lit × DataW H) → Nat
  | [] => 0
  | x :: r => uptoBulkEntry x + uptoBulkEntries r
def uptoBulkEntry {H : Type} : Lit × DataW H → Nat
  | (.string bytes, d) => bytes.length + uptoBulk d + 1
  | (_, d) => uptoBulk d + 1
 end
def uptoSmall : (H : Type) → List (DataW H) → Bool := fun _ ds => decide (uptoBulkAll ds ≤ 1048576)
def OpenSpec.upto (s : _root_.Go.ChangeSpec) : _root_.Go.OpenSpec := { _root_.Go.OpenSpec.ofChange s with cond := some uptoSmall }

/-- 'gauntletlaw29.ExtendsStep', WHERE WHAT IT READS IS OF BULK AT MOST 1048576: true; the input reads as it did. -/
def extendsStepUptoRow : OpenClaim := { program := "ytggffdkgfgdaoaadoor", sum := "9dac3c6ae839ff92e90e0631481023dcf31dc76999bf1df930a1fd2a6485e088", func := "gauntlet/gauntletlaw29.ExtendsStep", spec := "extendsStep", unfollowed := true, recurses := true, named := ["gauntlet/guards.operations"], plainKeys := false, apart := false, laid := [("gauntlet/guards.operations", laid_gauntlet_guards_operations)], narrowed := true }
def ExtendsStepUptoSaid : Prop := extendsStepUptoRow.holds Tryd.pinned (OpenSpec.upto extendsStepSpec)

/-- 'gauntletlaw29.ExtendsRun', WHERE WHAT IT READS IS OF BULK AT MOST 1048576: true; the input reads as it did. -/
def extendsRunUptoRow : OpenClaim := { program := "ytggffdkgfgdaoaadoor", sum := "9dac3c6ae839ff92e90e0631481023dcf31dc76999bf1df930a1fd2a6485e088", func := "gauntlet/gauntletlaw29.ExtendsRun", spec := "extendsRun", unfollowed := true, recurses := true, named := ["gauntlet/guards.operations"], plainKeys := false, apart := false, laid := [("gauntlet/guards.operations", laid_gauntlet_guards_operations)], narrowed := true }
def ExtendsRunUptoSaid : Prop := extendsRunUptoRow.holds Tryd.pinned (OpenSpec.upto extendsRunSpec)

/-- 'gauntletlaw29.ExtendsUnfold', WHERE WHAT IT READS IS OF BULK AT MOST 1048576: true; the input reads as it did. -/
def extendsUnfoldUptoRow : OpenClaim := { program := "ytggffdkgfgdaoaadoor", sum := "9dac3c6ae839ff92e90e0631481023dcf31dc76999bf1df930a1fd2a6485e088", func := "gauntlet/gauntletlaw29.ExtendsUnfold", spec := "extendsUnfold", unfollowed := true, recurses := true, named := ["gauntlet/guards.operations"], plainKeys := false, apart := false, laid := [("gauntlet/guards.operations", laid_gauntlet_guards_operations)], narrowed := true }
def ExtendsUnfoldUptoSaid : Prop := extendsUnfoldUptoRow.holds Tryd.pinned (OpenSpec.upto extendsUnfoldSpec)

/-- 'gauntletlaw29.ExtendsConflict', WHERE WHAT IT READS IS OF BULK AT MOST 1048576: true; the input reads as it did. -/
def extendsConflictUptoRow : OpenClaim := { program := "ytggffdkgfgdaoaadoor", sum := "9dac3c6ae839ff92e90e0631481023dcf31dc76999bf1df930a1fd2a6485e088", func := "gauntlet/gauntletlaw29.ExtendsConflict", spec := "extendsConflict", unfollowed := true, recurses := true, named := ["gauntlet/guards.operations"], plainKeys := false, apart := false, laid := [("gauntlet/guards.operations", laid_gauntlet_guards_operations)], narrowed := true }
def ExtendsConflictUptoSaid : Prop := extendsConflictUptoRow.holds Tryd.pinned (OpenSpec.upto extendsConflictSpec)

/-- 'gauntletlaw29.ExtendsOrder', WHERE WHAT IT READS IS OF BULK AT MOST 1048576: true; the input reads as it did. -/
def extendsOrderUptoRow : OpenClaim := { program := "ytggffdkgfgdaoaadoor", sum := "9dac3c6ae839ff92e90e0631481023dcf31dc76999bf1df930a1fd2a6485e088", func := "gauntlet/gauntletlaw29.ExtendsOrder", spec := "extendsOrder", unfollowed := true, recurses := true, named := ["gauntlet/guards.operations"], plainKeys := false, apart := false, laid := [("gauntlet/guards.operations", laid_gauntlet_guards_operations)], narrowed := true }
def ExtendsOrderUptoSaid : Prop := extendsOrderUptoRow.holds Tryd.pinned (OpenSpec.upto extendsOrderSpec)

/-- 'gauntletlaw29.ExtendsErrors', WHERE WHAT IT READS IS OF BULK AT MOST 1048576: true; the input reads as it did. -/
def extendsErrorsUptoRow : OpenClaim := { program := "ytggffdkgfgdaoaadoor", sum := "9dac3c6ae839ff92e90e0631481023dcf31dc76999bf1df930a1fd2a6485e088", func := "gauntlet/gauntletlaw29.ExtendsErrors", spec := "extendsErrors", unfollowed := true, recurses := true, named := ["gauntlet/guards.operations"], loops := true, plainKeys := false, apart := false, laid := [("gauntlet/guards.operations", laid_gauntlet_guards_operations)], narrowed := true }
def ExtendsErrorsUptoSaid : Prop := extendsErrorsUptoRow.holds Tryd.pinned (OpenSpec.upto extendsErrorsSpec)

/-- 'gauntletlaw29.ExtendsKnown', WHERE WHAT IT READS IS OF BULK AT MOST 1048576: true; the input reads as it did. -/
def extendsKnownUptoRow : OpenClaim := { program := "ytggffdkgfgdaoaadoor", sum := "9dac3c6ae839ff92e90e0631481023dcf31dc76999bf1df930a1fd2a6485e088", func := "gauntlet/gauntletlaw29.ExtendsKnown", spec := "extendsKnown", unfollowed := true, recurses := true, named := ["gauntlet/guards.operations"], plainKeys := false, apart := false, laid := [("gauntlet/guards.operations", laid_gauntlet_guards_operations)], narrowed := true }
def ExtendsKnownUptoSaid : Prop := extendsKnownUptoRow.holds Tryd.pinned (OpenSpec.upto extendsKnownSpec)

end Rows
end Go.Proofs.YtggffdkgfgdaoaaDoor
