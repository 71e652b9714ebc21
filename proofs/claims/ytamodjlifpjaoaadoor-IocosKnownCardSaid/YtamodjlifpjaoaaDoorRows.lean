/-
  NARROWER THAN 'FOR EVERY INPUT', by the rows' own cells (each row's printed sentence says how): IocosAfter: laid · IocosConforms: laid · IocosMake: laid · IocosVerdict: laid · IocosTests: laid · IocosErrors: laid · IocosTest: laid · IocosKnown: laid.
  DERIVED. THE GIVEN ROWS OF THIS SEAT. 8 by the template 'for every input the law returns true; each argument reads behind the call as it read before'; 0 by the template 'total and deterministic' (their statements: YtamodjlifpjaoaaDoorTotals.lean).
  GIVEN WITH THE SEED: the statements are not yours to turn. If you find one false, say at which input.
  Laid BY PROGRAM, IN A SANDBOX (cutbox-rows.mjs): the forced cells as the released guide's own fill.sh prints them over the translation 39b4d74d380978b0… (all of the seat's roots in one cut). By AI agents, Wed Nov 11 2026. No macro, syntax, notation, axiom, sorry.
-/
import Derived.Test.YtamodjlifpjaoaaDoorChecked
import GoSem.Claim
import GoSem.ClaimJoined
import GoSem.ClaimMapViews
import Derived.JoinedTies
import Derived.KernelRfl
namespace Go.Proofs.YtamodjlifpjaoaaDoor
/- THE CELL 'sum', in the pinned program and in every row, IS THE sha256 OF THE DUMP (.gsa) THAT YtamodjlifpjaoaaDoorProg.lean LOADS. Nothing in Lean hashes anything: it is a label: what it is worth is what the hold of that sum in a sandbox is worth. -/
noncomputable def Tryd.pinned : Pinned := { name := "ytamodjlifpjaoaadoor", sum := "39b4d74d380978b0cf7538a3c2fc13b5c5224f61caf35336c9c79f838bb0e582", checked := Tryd.checked }
namespace Rows
def none {H : Type} : Left H := { results := [], args := [] }

/- WHAT THE LISTED PACKAGE-LEVEL VARIABLES READ AS WHEN THE CALL BEGINS. Each datum BY PROGRAM (the guide's laid-datum.mjs) off the statement by which the dump's own 'gosem.cut.vars' lays the variable. In a bare row this is a premise. The card (YtamodjlifpjaoaaDoorCards.lean) ties it to the program's text. -/
def laid_math_bits_deBruijn64tab {H : Type} : DataW H := .agg [.lit (.int .u8 0), .lit (.int .u8 1), .lit (.int .u8 56), .lit (.int .u8 2), .lit (.int .u8 57), .lit (.int .u8 49), .lit (.int .u8 28), .lit (.int .u8 3), .lit (.int .u8 61), .lit (.int .u8 58), .lit (.int .u8 42), .lit (.int .u8 50), .lit (.int .u8 38), .lit (.int .u8 29), .lit (.int .u8 17), .lit (.int .u8 4), .lit (.int .u8 62), .lit (.int .u8 47), .lit (.int .u8 59), .lit (.int .u8 36), .lit (.int .u8 45), .lit (.int .u8 43), .lit (.int .u8 51), .lit (.int .u8 22), .lit (.int .u8 53), .lit (.int .u8 39), .lit (.int .u8 33), .lit (.int .u8 30), .lit (.int .u8 24), .lit (.int .u8 18), .lit (.int .u8 12), .lit (.int .u8 5), .lit (.int .u8 63), .lit (.int .u8 55), .lit (.int .u8 48), .lit (.int .u8 27), .lit (.int .u8 60), .lit (.int .u8 41), .lit (.int .u8 37), .lit (.int .u8 16), .lit (.int .u8 46), .lit (.int .u8 35), .lit (.int .u8 44), .lit (.int .u8 21), .lit (.int .u8 52), .lit (.int .u8 32), .lit (.int .u8 23), .lit (.int .u8 11), .lit (.int .u8 54), .lit (.int .u8 26), .lit (.int .u8 40), .lit (.int .u8 15), .lit (.int .u8 34), .lit (.int .u8 20), .lit (.int .u8 31), .lit (.int .u8 10), .lit (.int .u8 25), .lit (.int .u8 14), .lit (.int .u8 19), .lit (.int .u8 9), .lit (.int .u8 13), .lit (.int .u8 8), .lit (.int .u8 7), .lit (.int .u8 6)]

/-- 'gauntletlaw27.IocosAfter': WHATEVER THE INPUT: true; the input reads as it did. -/
def iocosAfterSpec : ChangeSpec := { name := "iocosAfter", fn := fun _ => fun
  | [d1, d2] => { results := [.lit (.bool true)], args := [d1, d2] }
  | _ => none }
def iocosAfterRow : OpenClaim := { program := "ytamodjlifpjaoaadoor", sum := "39b4d74d380978b0cf7538a3c2fc13b5c5224f61caf35336c9c79f838bb0e582", func := "gauntlet/gauntletlaw27.IocosAfter", spec := "iocosAfter", unfollowed := true, recurses := true, named := ["math/bits.deBruijn64tab"], plainKeys := false, apart := false, laid := [("math/bits.deBruijn64tab", laid_math_bits_deBruijn64tab)] }
def IocosAfterSaid : Prop := iocosAfterRow.holds Tryd.pinned (OpenSpec.ofChange iocosAfterSpec)

/-- ITS FALSE NEIGHBOUR: 'it returns false'. Refute it at one input. -/
def iocosAfterWrong : ChangeSpec := { name := "iocosAfter", fn := fun _ => fun
  | [d1, d2] => { results := [.lit (.bool false)], args := [d1, d2] }
  | _ => none }
def IocosAfterWrongFalsely : Prop := iocosAfterRow.holds Tryd.pinned (OpenSpec.ofChange iocosAfterWrong)

/-- 'gauntletlaw27.IocosConforms': WHATEVER THE INPUT: true; the input reads as it did. -/
def iocosConformsSpec : ChangeSpec := { name := "iocosConforms", fn := fun _ => fun
  | [d1, d2] => { results := [.lit (.bool true)], args := [d1, d2] }
  | _ => none }
def iocosConformsRow : OpenClaim := { program := "ytamodjlifpjaoaadoor", sum := "39b4d74d380978b0cf7538a3c2fc13b5c5224f61caf35336c9c79f838bb0e582", func := "gauntlet/gauntletlaw27.IocosConforms", spec := "iocosConforms", unfollowed := true, recurses := true, named := ["math/bits.deBruijn64tab"], plainKeys := false, apart := false, laid := [("math/bits.deBruijn64tab", laid_math_bits_deBruijn64tab)] }
def IocosConformsSaid : Prop := iocosConformsRow.holds Tryd.pinned (OpenSpec.ofChange iocosConformsSpec)

/-- ITS FALSE NEIGHBOUR: 'it returns false'. Refute it at one input. -/
def iocosConformsWrong : ChangeSpec := { name := "iocosConforms", fn := fun _ => fun
  | [d1, d2] => { results := [.lit (.bool false)], args := [d1, d2] }
  | _ => none }
def IocosConformsWrongFalsely : Prop := iocosConformsRow.holds Tryd.pinned (OpenSpec.ofChange iocosConformsWrong)

/-- 'gauntletlaw27.IocosMake': WHATEVER THE INPUT: true; the input reads as it did. -/
def iocosMakeSpec : ChangeSpec := { name := "iocosMake", fn := fun _ => fun
  | [d1, d2] => { results := [.lit (.bool true)], args := [d1, d2] }
  | _ => none }
def iocosMakeRow : OpenClaim := { program := "ytamodjlifpjaoaadoor", sum := "39b4d74d380978b0cf7538a3c2fc13b5c5224f61caf35336c9c79f838bb0e582", func := "gauntlet/gauntletlaw27.IocosMake", spec := "iocosMake", unfollowed := true, recurses := true, named := ["math/bits.deBruijn64tab"], plainKeys := false, apart := false, laid := [("math/bits.deBruijn64tab", laid_math_bits_deBruijn64tab)] }
def IocosMakeSaid : Prop := iocosMakeRow.holds Tryd.pinned (OpenSpec.ofChange iocosMakeSpec)

/-- ITS FALSE NEIGHBOUR: 'it returns false'. Refute it at one input. -/
def iocosMakeWrong : ChangeSpec := { name := "iocosMake", fn := fun _ => fun
  | [d1, d2] => { results := [.lit (.bool false)], args := [d1, d2] }
  | _ => none }
def IocosMakeWrongFalsely : Prop := iocosMakeRow.holds Tryd.pinned (OpenSpec.ofChange iocosMakeWrong)

/-- 'gauntletlaw27.IocosVerdict': WHATEVER THE INPUT: true; the input reads as it did. -/
def iocosVerdictSpec : ChangeSpec := { name := "iocosVerdict", fn := fun _ => fun
  | [d1, d2, d3] => { results := [.lit (.bool true)], args := [d1, d2, d3] }
  | _ => none }
def iocosVerdictRow : OpenClaim := { program := "ytamodjlifpjaoaadoor", sum := "39b4d74d380978b0cf7538a3c2fc13b5c5224f61caf35336c9c79f838bb0e582", func := "gauntlet/gauntletlaw27.IocosVerdict", spec := "iocosVerdict", unfollowed := true, recurses := true, named := ["math/bits.deBruijn64tab"], plainKeys := false, apart := false, laid := [("math/bits.deBruijn64tab", laid_math_bits_deBruijn64tab)] }
def IocosVerdictSaid : Prop := iocosVerdictRow.holds Tryd.pinned (OpenSpec.ofChange iocosVerdictSpec)

/-- ITS FALSE NEIGHBOUR: 'it returns false'. Refute it at one input. -/
def iocosVerdictWrong : ChangeSpec := { name := "iocosVerdict", fn := fun _ => fun
  | [d1, d2, d3] => { results := [.lit (.bool false)], args := [d1, d2, d3] }
  | _ => none }
def IocosVerdictWrongFalsely : Prop := iocosVerdictRow.holds Tryd.pinned (OpenSpec.ofChange iocosVerdictWrong)

/-- 'gauntletlaw27.IocosTests': WHATEVER THE INPUT: true; the input reads as it did. -/
def iocosTestsSpec : ChangeSpec := { name := "iocosTests", fn := fun _ => fun
  | [d1, d2, d3] => { results := [.lit (.bool true)], args := [d1, d2, d3] }
  | _ => none }
def iocosTestsRow : OpenClaim := { program := "ytamodjlifpjaoaadoor", sum := "39b4d74d380978b0cf7538a3c2fc13b5c5224f61caf35336c9c79f838bb0e582", func := "gauntlet/gauntletlaw27.IocosTests", spec := "iocosTests", unfollowed := true, recurses := true, named := ["math/bits.deBruijn64tab"], plainKeys := false, apart := false, laid := [("math/bits.deBruijn64tab", laid_math_bits_deBruijn64tab)] }
def IocosTestsSaid : Prop := iocosTestsRow.holds Tryd.pinned (OpenSpec.ofChange iocosTestsSpec)

/-- ITS FALSE NEIGHBOUR: 'it returns false'. Refute it at one input. -/
def iocosTestsWrong : ChangeSpec := { name := "iocosTests", fn := fun _ => fun
  | [d1, d2, d3] => { results := [.lit (.bool false)], args := [d1, d2, d3] }
  | _ => none }
def IocosTestsWrongFalsely : Prop := iocosTestsRow.holds Tryd.pinned (OpenSpec.ofChange iocosTestsWrong)

/-- 'gauntletlaw27.IocosErrors': WHATEVER THE INPUT: true; the input reads as it did. -/
def iocosErrorsSpec : ChangeSpec := { name := "iocosErrors", fn := fun _ => fun
  | [d1, d2, d3] => { results := [.lit (.bool true)], args := [d1, d2, d3] }
  | _ => none }
def iocosErrorsRow : OpenClaim := { program := "ytamodjlifpjaoaadoor", sum := "39b4d74d380978b0cf7538a3c2fc13b5c5224f61caf35336c9c79f838bb0e582", func := "gauntlet/gauntletlaw27.IocosErrors", spec := "iocosErrors", unfollowed := true, recurses := true, named := ["math/bits.deBruijn64tab"], plainKeys := false, apart := false, laid := [("math/bits.deBruijn64tab", laid_math_bits_deBruijn64tab)] }
def IocosErrorsSaid : Prop := iocosErrorsRow.holds Tryd.pinned (OpenSpec.ofChange iocosErrorsSpec)

/-- ITS FALSE NEIGHBOUR: 'it returns false'. Refute it at one input. -/
def iocosErrorsWrong : ChangeSpec := { name := "iocosErrors", fn := fun _ => fun
  | [d1, d2, d3] => { results := [.lit (.bool false)], args := [d1, d2, d3] }
  | _ => none }
def IocosErrorsWrongFalsely : Prop := iocosErrorsRow.holds Tryd.pinned (OpenSpec.ofChange iocosErrorsWrong)

/-- 'gauntletlaw27.IocosTest': WHATEVER THE INPUT: true; the input reads as it did. -/
def iocosTestSpec : ChangeSpec := { name := "iocosTest", fn := fun _ => fun
  | [d1, d2] => { results := [.lit (.bool true)], args := [d1, d2] }
  | _ => none }
def iocosTestRow : OpenClaim := { program := "ytamodjlifpjaoaadoor", sum := "39b4d74d380978b0cf7538a3c2fc13b5c5224f61caf35336c9c79f838bb0e582", func := "gauntlet/gauntletlaw27.IocosTest", spec := "iocosTest", unfollowed := true, recurses := true, named := ["math/bits.deBruijn64tab"], plainKeys := false, apart := false, laid := [("math/bits.deBruijn64tab", laid_math_bits_deBruijn64tab)] }
def IocosTestSaid : Prop := iocosTestRow.holds Tryd.pinned (OpenSpec.ofChange iocosTestSpec)

/-- ITS FALSE NEIGHBOUR: 'it returns false'. Refute it at one input. -/
def iocosTestWrong : ChangeSpec := { name := "iocosTest", fn := fun _ => fun
  | [d1, d2] => { results := [.lit (.bool false)], args := [d1, d2] }
  | _ => none }
def IocosTestWrongFalsely : Prop := iocosTestRow.holds Tryd.pinned (OpenSpec.ofChange iocosTestWrong)

/-- 'gauntletlaw27.IocosKnown': WHATEVER THE INPUT: true; the input reads as it did. -/
def iocosKnownSpec : ChangeSpec := { name := "iocosKnown", fn := fun _ => fun
  | [] => { results := [.lit (.bool true)], args := [] }
  | _ => none }
def iocosKnownRow : OpenClaim := { program := "ytamodjlifpjaoaadoor", sum := "39b4d74d380978b0cf7538a3c2fc13b5c5224f61caf35336c9c79f838bb0e582", func := "gauntlet/gauntletlaw27.IocosKnown", spec := "iocosKnown", unfollowed := true, recurses := true, named := ["math/bits.deBruijn64tab"], plainKeys := false, apart := false, laid := [("math/bits.deBruijn64tab", laid_math_bits_deBruijn64tab)] }
def IocosKnownSaid : Prop := iocosKnownRow.holds Tryd.pinned (OpenSpec.ofChange iocosKnownSpec)

/-- ITS FALSE NEIGHBOUR: 'it returns false'. Refute it at one input. -/
def iocosKnownWrong : ChangeSpec := { name := "iocosKnown", fn := fun _ => fun
  | [] => { results := [.lit (.bool false)], args := [] }
  | _ => none }
def IocosKnownWrongFalsely : Prop := iocosKnownRow.holds Tryd.pinned (OpenSpec.ofChange iocosKnownWrong)

/- THE SECOND FORM. 'bulk': how many values and letters a reading holds, each counted each time it is reached (what is shared counts as often as it is met; a slice's spare places count too). A statement '..UptoSaid' is the law's where the arguments, and the package variables that the reading takes, are together of bulk at most 1048576: NARROWER than '..Said'. Prove '..Said' where nothing that the law and all that it calls make is longer than what came in: it says more and counts as full. Else prove '..UptoSaid'. A law counts once. -/
mutual
def uptoBulk {H : Type} : DataW H → Nat
  | .lit (.string bytes) => bytes.length + 1
  | .lit _ => 1
  | .nil => 1
  | .ptr d => uptoBulk d + 1
  | .slice elems spare => uptoBulkAll elems + uptoBulkAll spare + 1
  | .agg parts => uptoBulkAll parts + 1
  | .iface _ d => uptoBulk d + 1
  | .map entries => uptoBulkEntries entries + 1
  | .held _ => 1
def uptoBulkAll {H : Type} : List (DataW H) → Nat
  | [] => 0
  | d :: r => uptoBulk d + uptoBulkAll r
def uptoBulkEntries {H : Type} : List (Lit × DataW H) → Nat
  | [] => 0
  | x :: r => uptoBulkEntry x + uptoBulkEntries r
def uptoBulkEntry {H : Type} : Lit × DataW H → Nat
  | (.string bytes, d) => bytes.length + uptoBulk d + 1
  | (_, d) => uptoBulk d + 1
 end
def uptoSmall : (H : Type) → List (DataW H) → Bool := fun _ ds => decide (uptoBulkAll ds ≤ 1048576)
def OpenSpec.upto (s : _root_.Go.ChangeSpec) : _root_.Go.OpenSpec := { _root_.Go.OpenSpec.ofChange s with cond := some uptoSmall }

/-- 'gauntletlaw27.IocosAfter', WHERE WHAT IT READS IS OF BULK AT MOST 1048576: true; the input reads as it did. -/
def iocosAfterUptoRow : OpenClaim := { program := "ytamodjlifpjaoaadoor", sum := "39b4d74d380978b0cf7538a3c2fc13b5c5224f61caf35336c9c79f838bb0e582", func := "gauntlet/gauntletlaw27.IocosAfter", spec := "iocosAfter", unfollowed := true, recurses := true, named := ["math/bits.deBruijn64tab"], plainKeys := false, apart := false, laid := [("math/bits.deBruijn64tab", laid_math_bits_deBruijn64tab)], narrowed := true }
def IocosAfterUptoSaid : Prop := iocosAfterUptoRow.holds Tryd.pinned (OpenSpec.upto iocosAfterSpec)

/-- 'gauntletlaw27.IocosConforms', WHERE WHAT IT READS IS OF BULK AT MOST 1048576: true; the input reads as it did. -/
def iocosConformsUptoRow : OpenClaim := { program := "ytamodjlifpjaoaadoor", sum := "39b4d74d380978b0cf7538a3c2fc13b5c5224f61caf35336c9c79f838bb0e582", func := "gauntlet/gauntletlaw27.IocosConforms", spec := "iocosConforms", unfollowed := true, recurses := true, named := ["math/bits.deBruijn64tab"], plainKeys := false, apart := false, laid := [("math/bits.deBruijn64tab", laid_math_bits_deBruijn64tab)], narrowed := true }
def IocosConformsUptoSaid : Prop := iocosConformsUptoRow.holds Tryd.pinned (OpenSpec.upto iocosConformsSpec)

/-- 'gauntletlaw27.IocosMake', WHERE WHAT IT READS IS OF BULK AT MOST 1048576: true; the input reads as it did. -/
def iocosMakeUptoRow : OpenClaim := { program := "ytamodjlifpjaoaadoor", sum := "39b4d74d380978b0cf7538a3c2fc13b5c5224f61caf35336c9c79f838bb0e582", func := "gauntlet/gauntletlaw27.IocosMake", spec := "iocosMake", unfollowed := true, recurses := true, named := ["math/bits.deBruijn64tab"], plainKeys := false, apart := false, laid := [("math/bits.deBruijn64tab", laid_math_bits_deBruijn64tab)], narrowed := true }
def IocosMakeUptoSaid : Prop := iocosMakeUptoRow.holds Tryd.pinned (OpenSpec.upto iocosMakeSpec)

/-- 'gauntletlaw27.IocosVerdict', WHERE WHAT IT READS IS OF BULK AT MOST 1048576: true; the input reads as it did. -/
def iocosVerdictUptoRow : OpenClaim := { program := "ytamodjlifpjaoaadoor", sum := "39b4d74d380978b0cf7538a3c2fc13b5c5224f61caf35336c9c79f838bb0e582", func := "gauntlet/gauntletlaw27.IocosVerdict", spec := "iocosVerdict", unfollowed := true, recurses := true, named := ["math/bits.deBruijn64tab"], plainKeys := false, apart := false, laid := [("math/bits.deBruijn64tab", laid_math_bits_deBruijn64tab)], narrowed := true }
def IocosVerdictUptoSaid : Prop := iocosVerdictUptoRow.holds Tryd.pinned (OpenSpec.upto iocosVerdictSpec)

/-- 'gauntletlaw27.IocosTests', WHERE WHAT IT READS IS OF BULK AT MOST 1048576: true; the input reads as it did. -/
def iocosTestsUptoRow : OpenClaim := { program := "ytamodjlifpjaoaadoor", sum := "39b4d74d380978b0cf7538a3c2fc13b5c5224f61caf35336c9c79f838bb0e582", func := "gauntlet/gauntletlaw27.IocosTests", spec := "iocosTests", unfollowed := true, recurses := true, named := ["math/bits.deBruijn64tab"], plainKeys := false, apart := false, laid := [("math/bits.deBruijn64tab", laid_math_bits_deBruijn64tab)], narrowed := true }
def IocosTestsUptoSaid : Prop := iocosTestsUptoRow.holds Tryd.pinned (OpenSpec.upto iocosTestsSpec)

/-- 'gauntletlaw27.IocosErrors', WHERE WHAT IT READS IS OF BULK AT MOST 1048576: true; the input reads as it did. -/
def iocosErrorsUptoRow : OpenClaim := { program := "ytamodjlifpjaoaadoor", sum := "39b4d74d380978b0cf7538a3c2fc13b5c5224f61caf35336c9c79f838bb0e582", func := "gauntlet/gauntletlaw27.IocosErrors", spec := "iocosErrors", unfollowed := true, recurses := true, named := ["math/bits.deBruijn64tab"], plainKeys := false, apart := false, laid := [("math/bits.deBruijn64tab", laid_math_bits_deBruijn64tab)], narrowed := true }
def IocosErrorsUptoSaid : Prop := iocosErrorsUptoRow.holds Tryd.pinned (OpenSpec.upto iocosErrorsSpec)

/-- 'gauntletlaw27.IocosTest', WHERE WHAT IT READS IS OF BULK AT MOST 1048576: true; the input reads as it did. -/
def iocosTestUptoRow : OpenClaim := { program := "ytamodjlifpjaoaadoor", sum := "39b4d74d380978b0cf7538a3c2fc13b5c5224f61caf35336c9c79f838bb0e582", func := "gauntlet/gauntletlaw27.IocosTest", spec := "iocosTest", unfollowed := true, recurses := true, named := ["math/bits.deBruijn64tab"], plainKeys := false, apart := false, laid := [("math/bits.deBruijn64tab", laid_math_bits_deBruijn64tab)], narrowed := true }
def IocosTestUptoSaid : Prop := iocosTestUptoRow.holds Tryd.pinned (OpenSpec.upto iocosTestSpec)

/-- 'gauntletlaw27.IocosKnown', WHERE WHAT IT READS IS OF BULK AT MOST 1048576: true; the input reads as it did. -/
def iocosKnownUptoRow : OpenClaim := { program := "ytamodjlifpjaoaadoor", sum := "39b4d74d380978b0cf7538a3c2fc13b5c5224f61caf35336c9c79f838bb0e582", func := "gauntlet/gauntletlaw27.IocosKnown", spec := "iocosKnown", unfollowed := true, recurses := true, named := ["math/bits.deBruijn64tab"], plainKeys := false, apart := false, laid := [("math/bits.deBruijn64tab", laid_math_bits_deBruijn64tab)], narrowed := true }
def IocosKnownUptoSaid : Prop := iocosKnownUptoRow.holds Tryd.pinned (OpenSpec.upto iocosKnownSpec)

end Rows
end Go.Proofs.YtamodjlifpjaoaaDoor
