/-
  NARROWER THAN 'FOR EVERY INPUT', by the rows' own cells (each row's printed sentence says how): LangsLeast: laid · LangsCount: laid · LangsNth: laid · LangsRank: laid · LangsInclusion: laid · LangsSets: laid · LangsLaws: laid · LangsErrors: laid · LangsKnown: laid.
  DERIVED. THE GIVEN ROWS OF THIS SEAT. 9 by the template 'for every input the law returns true; each argument reads behind the call as it read before'; 0 by the template 'total and deterministic' (their statements: YthlnmcokgfpgmaaDoorTotals.lean).
  GIVEN WITH THE SEED: the statements are not yours to turn. If you find one false, say at which input.
  Laid BY PROGRAM, IN A SANDBOX (cutbox-rows.mjs): the forced cells as the released guide's own fill.sh prints them over the translation 00f6f7b839b05603… (all of the seat's roots in one cut). By AI agents, Wed Nov 11 2026. No macro, syntax, notation, axiom, sorry.
-/
import Derived.Test.YthlnmcokgfpgmaaDoorChecked
import GoSem.Claim
import GoSem.ClaimJoined
import GoSem.ClaimMapViews
import Derived.JoinedTies
import Derived.KernelRfl
namespace Go.Proofs.YthlnmcokgfpgmaaDoor
/- THE CELL 'sum', in the pinned program and in every row, IS THE sha256 OF THE DUMP (.gsa) THAT YthlnmcokgfpgmaaDoorProg.lean LOADS. Nothing in Lean hashes anything: it is a label: what it is worth is what the hold of that sum in a sandbox is worth. -/
noncomputable def Tryd.pinned : Pinned := { name := "ythlnmcokgfpgmaadoor", sum := "00f6f7b839b056035e70dab1f0b4578fab1972449ff8021af0c44b59c13674f9", checked := Tryd.checked }
namespace Rows
def none {H : Type} : Left H := { results := [], args := [] }

/- WHAT THE LISTED PACKAGE-LEVEL VARIABLES READ AS WHEN THE CALL BEGINS. Each datum BY PROGRAM (the guide's laid-datum.mjs) off the statement by which the dump's own 'gosem.cut.vars' lays the variable. In a bare row this is a premise. The card (YthlnmcokgfpgmaaDoorCards.lean) ties it to the program's text. -/
def laid_gauntlet_langs_common {H : Type} : DataW H := .iface "func table" (.agg [.iface "func" (.lit (.string [103, 97, 117, 110, 116, 108, 101, 116, 47, 108, 97, 110, 103, 115, 46, 99, 111, 109, 109, 111, 110, 36, 49]))])
def laid_gauntlet_langs_minus {H : Type} : DataW H := .iface "func table" (.agg [.iface "func" (.lit (.string [103, 97, 117, 110, 116, 108, 101, 116, 47, 108, 97, 110, 103, 115, 46, 109, 105, 110, 117, 115, 36, 49]))])
def laid_gauntlet_langs_union {H : Type} : DataW H := .iface "func table" (.agg [.iface "func" (.lit (.string [103, 97, 117, 110, 116, 108, 101, 116, 47, 108, 97, 110, 103, 115, 46, 117, 110, 105, 111, 110, 36, 49]))])

/-- 'gauntletlaw25.LangsLeast': WHATEVER THE INPUT: true; the input reads as it did. -/
def langsLeastSpec : ChangeSpec := { name := "langsLeast", fn := fun _ => fun
  | [d] => { results := [.lit (.bool true)], args := [d] }
  | _ => none }
def langsLeastRow : OpenClaim := { program := "ythlnmcokgfpgmaadoor", sum := "00f6f7b839b056035e70dab1f0b4578fab1972449ff8021af0c44b59c13674f9", func := "gauntlet/gauntletlaw25.LangsLeast", spec := "langsLeast", unfollowed := true, recurses := true, named := ["gauntlet/langs.minus", "gauntlet/langs.common"], plainKeys := false, apart := false, laid := [("gauntlet/langs.common", laid_gauntlet_langs_common), ("gauntlet/langs.minus", laid_gauntlet_langs_minus)] }
def LangsLeastSaid : Prop := langsLeastRow.holds Tryd.pinned (OpenSpec.ofChange langsLeastSpec)

/-- ITS FALSE NEIGHBOUR: 'it returns false'. Refute it at one input. -/
def langsLeastWrong : ChangeSpec := { name := "langsLeast", fn := fun _ => fun
  | [d] => { results := [.lit (.bool false)], args := [d] }
  | _ => none }
def LangsLeastWrongFalsely : Prop := langsLeastRow.holds Tryd.pinned (OpenSpec.ofChange langsLeastWrong)

/-- 'gauntletlaw25.LangsCount': WHATEVER THE INPUT: true; the input reads as it did. -/
def langsCountSpec : ChangeSpec := { name := "langsCount", fn := fun _ => fun
  | [d1, d2] => { results := [.lit (.bool true)], args := [d1, d2] }
  | _ => none }
def langsCountRow : OpenClaim := { program := "ythlnmcokgfpgmaadoor", sum := "00f6f7b839b056035e70dab1f0b4578fab1972449ff8021af0c44b59c13674f9", func := "gauntlet/gauntletlaw25.LangsCount", spec := "langsCount", unfollowed := true, recurses := true, named := ["gauntlet/langs.common", "gauntlet/langs.minus"], plainKeys := false, apart := false, laid := [("gauntlet/langs.common", laid_gauntlet_langs_common), ("gauntlet/langs.minus", laid_gauntlet_langs_minus)] }
def LangsCountSaid : Prop := langsCountRow.holds Tryd.pinned (OpenSpec.ofChange langsCountSpec)

/-- ITS FALSE NEIGHBOUR: 'it returns false'. Refute it at one input. -/
def langsCountWrong : ChangeSpec := { name := "langsCount", fn := fun _ => fun
  | [d1, d2] => { results := [.lit (.bool false)], args := [d1, d2] }
  | _ => none }
def LangsCountWrongFalsely : Prop := langsCountRow.holds Tryd.pinned (OpenSpec.ofChange langsCountWrong)

/-- 'gauntletlaw25.LangsNth': WHATEVER THE INPUT: true; the input reads as it did. -/
def langsNthSpec : ChangeSpec := { name := "langsNth", fn := fun _ => fun
  | [d1, d2] => { results := [.lit (.bool true)], args := [d1, d2] }
  | _ => none }
def langsNthRow : OpenClaim := { program := "ythlnmcokgfpgmaadoor", sum := "00f6f7b839b056035e70dab1f0b4578fab1972449ff8021af0c44b59c13674f9", func := "gauntlet/gauntletlaw25.LangsNth", spec := "langsNth", unfollowed := true, recurses := true, named := ["gauntlet/langs.common", "gauntlet/langs.minus"], plainKeys := false, apart := false, laid := [("gauntlet/langs.common", laid_gauntlet_langs_common), ("gauntlet/langs.minus", laid_gauntlet_langs_minus)] }
def LangsNthSaid : Prop := langsNthRow.holds Tryd.pinned (OpenSpec.ofChange langsNthSpec)

/-- ITS FALSE NEIGHBOUR: 'it returns false'. Refute it at one input. -/
def langsNthWrong : ChangeSpec := { name := "langsNth", fn := fun _ => fun
  | [d1, d2] => { results := [.lit (.bool false)], args := [d1, d2] }
  | _ => none }
def LangsNthWrongFalsely : Prop := langsNthRow.holds Tryd.pinned (OpenSpec.ofChange langsNthWrong)

/-- 'gauntletlaw25.LangsRank': WHATEVER THE INPUT: true; the input reads as it did. -/
def langsRankSpec : ChangeSpec := { name := "langsRank", fn := fun _ => fun
  | [d1, d2] => { results := [.lit (.bool true)], args := [d1, d2] }
  | _ => none }
def langsRankRow : OpenClaim := { program := "ythlnmcokgfpgmaadoor", sum := "00f6f7b839b056035e70dab1f0b4578fab1972449ff8021af0c44b59c13674f9", func := "gauntlet/gauntletlaw25.LangsRank", spec := "langsRank", unfollowed := true, recurses := true, named := ["gauntlet/langs.common", "gauntlet/langs.minus"], plainKeys := false, apart := false, laid := [("gauntlet/langs.common", laid_gauntlet_langs_common), ("gauntlet/langs.minus", laid_gauntlet_langs_minus)] }
def LangsRankSaid : Prop := langsRankRow.holds Tryd.pinned (OpenSpec.ofChange langsRankSpec)

/-- ITS FALSE NEIGHBOUR: 'it returns false'. Refute it at one input. -/
def langsRankWrong : ChangeSpec := { name := "langsRank", fn := fun _ => fun
  | [d1, d2] => { results := [.lit (.bool false)], args := [d1, d2] }
  | _ => none }
def LangsRankWrongFalsely : Prop := langsRankRow.holds Tryd.pinned (OpenSpec.ofChange langsRankWrong)

/-- 'gauntletlaw25.LangsInclusion': WHATEVER THE INPUT: true; the input reads as it did. -/
def langsInclusionSpec : ChangeSpec := { name := "langsInclusion", fn := fun _ => fun
  | [d1, d2] => { results := [.lit (.bool true)], args := [d1, d2] }
  | _ => none }
def langsInclusionRow : OpenClaim := { program := "ythlnmcokgfpgmaadoor", sum := "00f6f7b839b056035e70dab1f0b4578fab1972449ff8021af0c44b59c13674f9", func := "gauntlet/gauntletlaw25.LangsInclusion", spec := "langsInclusion", unfollowed := true, recurses := true, named := ["gauntlet/langs.minus", "gauntlet/langs.common"], plainKeys := false, apart := false, laid := [("gauntlet/langs.common", laid_gauntlet_langs_common), ("gauntlet/langs.minus", laid_gauntlet_langs_minus)] }
def LangsInclusionSaid : Prop := langsInclusionRow.holds Tryd.pinned (OpenSpec.ofChange langsInclusionSpec)

/-- ITS FALSE NEIGHBOUR: 'it returns false'. Refute it at one input. -/
def langsInclusionWrong : ChangeSpec := { name := "langsInclusion", fn := fun _ => fun
  | [d1, d2] => { results := [.lit (.bool false)], args := [d1, d2] }
  | _ => none }
def LangsInclusionWrongFalsely : Prop := langsInclusionRow.holds Tryd.pinned (OpenSpec.ofChange langsInclusionWrong)

/-- 'gauntletlaw25.LangsSets': WHATEVER THE INPUT: true; the input reads as it did. -/
def langsSetsSpec : ChangeSpec := { name := "langsSets", fn := fun _ => fun
  | [d1, d2] => { results := [.lit (.bool true)], args := [d1, d2] }
  | _ => none }
def langsSetsRow : OpenClaim := { program := "ythlnmcokgfpgmaadoor", sum := "00f6f7b839b056035e70dab1f0b4578fab1972449ff8021af0c44b59c13674f9", func := "gauntlet/gauntletlaw25.LangsSets", spec := "langsSets", unfollowed := true, recurses := true, named := ["gauntlet/langs.common", "gauntlet/langs.minus", "gauntlet/langs.union"], plainKeys := false, apart := false, laid := [("gauntlet/langs.union", laid_gauntlet_langs_union), ("gauntlet/langs.common", laid_gauntlet_langs_common), ("gauntlet/langs.minus", laid_gauntlet_langs_minus)] }
def LangsSetsSaid : Prop := langsSetsRow.holds Tryd.pinned (OpenSpec.ofChange langsSetsSpec)

/-- ITS FALSE NEIGHBOUR: 'it returns false'. Refute it at one input. -/
def langsSetsWrong : ChangeSpec := { name := "langsSets", fn := fun _ => fun
  | [d1, d2] => { results := [.lit (.bool false)], args := [d1, d2] }
  | _ => none }
def LangsSetsWrongFalsely : Prop := langsSetsRow.holds Tryd.pinned (OpenSpec.ofChange langsSetsWrong)

/-- 'gauntletlaw25.LangsLaws': WHATEVER THE INPUT: true; the input reads as it did. -/
def langsLawsSpec : ChangeSpec := { name := "langsLaws", fn := fun _ => fun
  | [d1, d2, d3] => { results := [.lit (.bool true)], args := [d1, d2, d3] }
  | _ => none }
def langsLawsRow : OpenClaim := { program := "ythlnmcokgfpgmaadoor", sum := "00f6f7b839b056035e70dab1f0b4578fab1972449ff8021af0c44b59c13674f9", func := "gauntlet/gauntletlaw25.LangsLaws", spec := "langsLaws", unfollowed := true, recurses := true, named := ["gauntlet/langs.common", "gauntlet/langs.minus", "gauntlet/langs.union"], plainKeys := false, apart := false, laid := [("gauntlet/langs.union", laid_gauntlet_langs_union), ("gauntlet/langs.common", laid_gauntlet_langs_common), ("gauntlet/langs.minus", laid_gauntlet_langs_minus)] }
def LangsLawsSaid : Prop := langsLawsRow.holds Tryd.pinned (OpenSpec.ofChange langsLawsSpec)

/-- ITS FALSE NEIGHBOUR: 'it returns false'. Refute it at one input. -/
def langsLawsWrong : ChangeSpec := { name := "langsLaws", fn := fun _ => fun
  | [d1, d2, d3] => { results := [.lit (.bool false)], args := [d1, d2, d3] }
  | _ => none }
def LangsLawsWrongFalsely : Prop := langsLawsRow.holds Tryd.pinned (OpenSpec.ofChange langsLawsWrong)

/-- 'gauntletlaw25.LangsErrors': WHATEVER THE INPUT: true; the input reads as it did. -/
def langsErrorsSpec : ChangeSpec := { name := "langsErrors", fn := fun _ => fun
  | [d1, d2, d3] => { results := [.lit (.bool true)], args := [d1, d2, d3] }
  | _ => none }
def langsErrorsRow : OpenClaim := { program := "ythlnmcokgfpgmaadoor", sum := "00f6f7b839b056035e70dab1f0b4578fab1972449ff8021af0c44b59c13674f9", func := "gauntlet/gauntletlaw25.LangsErrors", spec := "langsErrors", unfollowed := true, recurses := true, named := ["gauntlet/langs.common", "gauntlet/langs.minus", "gauntlet/langs.union"], plainKeys := false, apart := false, laid := [("gauntlet/langs.union", laid_gauntlet_langs_union), ("gauntlet/langs.common", laid_gauntlet_langs_common), ("gauntlet/langs.minus", laid_gauntlet_langs_minus)] }
def LangsErrorsSaid : Prop := langsErrorsRow.holds Tryd.pinned (OpenSpec.ofChange langsErrorsSpec)

/-- ITS FALSE NEIGHBOUR: 'it returns false'. Refute it at one input. -/
def langsErrorsWrong : ChangeSpec := { name := "langsErrors", fn := fun _ => fun
  | [d1, d2, d3] => { results := [.lit (.bool false)], args := [d1, d2, d3] }
  | _ => none }
def LangsErrorsWrongFalsely : Prop := langsErrorsRow.holds Tryd.pinned (OpenSpec.ofChange langsErrorsWrong)

/-- 'gauntletlaw25.LangsKnown': WHATEVER THE INPUT: true; the input reads as it did. -/
def langsKnownSpec : ChangeSpec := { name := "langsKnown", fn := fun _ => fun
  | [] => { results := [.lit (.bool true)], args := [] }
  | _ => none }
def langsKnownRow : OpenClaim := { program := "ythlnmcokgfpgmaadoor", sum := "00f6f7b839b056035e70dab1f0b4578fab1972449ff8021af0c44b59c13674f9", func := "gauntlet/gauntletlaw25.LangsKnown", spec := "langsKnown", unfollowed := true, recurses := true, named := ["gauntlet/langs.common", "gauntlet/langs.union", "gauntlet/langs.minus"], plainKeys := false, apart := false, laid := [("gauntlet/langs.union", laid_gauntlet_langs_union), ("gauntlet/langs.common", laid_gauntlet_langs_common), ("gauntlet/langs.minus", laid_gauntlet_langs_minus)] }
def LangsKnownSaid : Prop := langsKnownRow.holds Tryd.pinned (OpenSpec.ofChange langsKnownSpec)

/-- ITS FALSE NEIGHBOUR: 'it returns false'. Refute it at one input. -/
def langsKnownWrong : ChangeSpec := { name := "langsKnown", fn := fun _ => fun
  | [] => { results := [.lit (.bool false)], args := [] }
  | _ => none }
def LangsKnownWrongFalsely : Prop := langsKnownRow.holds Tryd.pinned (OpenSpec.ofChange langsKnownWrong)

/- THE SECOND FORM. 'bulk': how many values and letters a reading holds, each counted each time it is reached (what is shared counts as often as it is met; a slice's spare places count too). A statement '..UptoSaid' is the law's where the arguments, and the package variables that the reading takes, are together of bulk at most 1048576: NARROWER than '..Said'. Prove '..Said' where nothing that the law and all that it calls make is longer than what came in: it says more and counts as full. Else prove '..UptoSaid'. A law counts once. -/
mutual
def uptoBulk {H : Type} : DataW H → Nat
  | .lit (.string bytes) => bytes.length + 1
  | .lit _ => 1
  | .nil => 1
  | .ptr d => uptoBulk d + 1
  | .slice elems spare => uptoBulkAll elems + uptoBulkAll spare + 1
  | .agg parts => uptoBulkAll parts + 1
  | .iface _ d => uptoBulk d + 1
  | .map entries => uptoBulkEntries entries + 1
  | .held _ => 1
def uptoBulkAll {H : Type} : List (DataW H) → Nat
  | [] => 0
  | d :: r => uptoBulk d + uptoBulkAll r
def uptoBulkEntries {H : Type} : List (Lit × DataW H) → Nat
  | [] => 0
  | x :: r => uptoBulkEntry x + uptoBulkEntries r
def uptoBulkEntry {H : Type} : Lit × DataW H → Nat
  | (.string bytes, d) => bytes.length + uptoBulk d + 1
  | (_, d) => uptoBulk d + 1
 end
def uptoSmall : (H : Type) → List (DataW H) → Bool := fun _ ds => decide (uptoBulkAll ds ≤ 1048576)
def OpenSpec.upto (s : _root_.Go.ChangeSpec) : _root_.Go.OpenSpec := { _root_.Go.OpenSpec.ofChange s with cond := some uptoSmall }

/-- 'gauntletlaw25.LangsLeast', WHERE WHAT IT READS IS OF BULK AT MOST 1048576: true; the input reads as it did. -/
def langsLeastUptoRow : OpenClaim := { program := "ythlnmcokgfpgmaadoor", sum := "00f6f7b839b056035e70dab1f0b4578fab1972449ff8021af0c44b59c13674f9", func := "gauntlet/gauntletlaw25.LangsLeast", spec := "langsLeast", unfollowed := true, recurses := true, named := ["gauntlet/langs.minus", "gauntlet/langs.common"], plainKeys := false, apart := false, laid := [("gauntlet/langs.common", laid_gauntlet_langs_common), ("gauntlet/langs.minus", laid_gauntlet_langs_minus)], narrowed := true }
def LangsLeastUptoSaid : Prop := langsLeastUptoRow.holds Tryd.pinned (OpenSpec.upto langsLeastSpec)

/-- 'gauntletlaw25.LangsCount', WHERE WHAT IT READS IS OF BULK AT MOST 1048576: true; the input reads as it did. -/
def langsCountUptoRow : OpenClaim := { program := "ythlnmcokgfpgmaadoor", sum := "00f6f7b839b056035e70dab1f0b4578fab1972449ff8021af0c44b59c13674f9", func := "gauntlet/gauntletlaw25.LangsCount", spec := "langsCount", unfollowed := true, recurses := true, named := ["gauntlet/langs.common", "gauntlet/langs.minus"], plainKeys := false, apart := false, laid := [("gauntlet/langs.common", laid_gauntlet_langs_common), ("gauntlet/langs.minus", laid_gauntlet_langs_minus)], narrowed := true }
def LangsCountUptoSaid : Prop := langsCountUptoRow.holds Tryd.pinned (OpenSpec.upto langsCountSpec)

/-- 'gauntletlaw25.LangsNth', WHERE WHAT IT READS IS OF BULK AT MOST 1048576: true; the input reads as it did. -/
def langsNthUptoRow : OpenClaim := { program := "ythlnmcokgfpgmaadoor", sum := "00f6f7b839b056035e70dab1f0b4578fab1972449ff8021af0c44b59c13674f9", func := "gauntlet/gauntletlaw25.LangsNth", spec := "langsNth", unfollowed := true, recurses := true, named := ["gauntlet/langs.common", "gauntlet/langs.minus"], plainKeys := false, apart := false, laid := [("gauntlet/langs.common", laid_gauntlet_langs_common), ("gauntlet/langs.minus", laid_gauntlet_langs_minus)], narrowed := true }
def LangsNthUptoSaid : Prop := langsNthUptoRow.holds Tryd.pinned (OpenSpec.upto langsNthSpec)

/-- 'gauntletlaw25.LangsRank', WHERE WHAT IT READS IS OF BULK AT MOST 1048576: true; the input reads as it did. -/
def langsRankUptoRow : OpenClaim := { program := "ythlnmcokgfpgmaadoor", sum := "00f6f7b839b056035e70dab1f0b4578fab1972449ff8021af0c44b59c13674f9", func := "gauntlet/gauntletlaw25.LangsRank", spec := "langsRank", unfollowed := true, recurses := true, named := ["gauntlet/langs.common", "gauntlet/langs.minus"], plainKeys := false, apart := false, laid := [("gauntlet/langs.common", laid_gauntlet_langs_common), ("gauntlet/langs.minus", laid_gauntlet_langs_minus)], narrowed := true }
def LangsRankUptoSaid : Prop := langsRankUptoRow.holds Tryd.pinned (OpenSpec.upto langsRankSpec)

/-- 'gauntletlaw25.LangsInclusion', WHERE WHAT IT READS IS OF BULK AT MOST 1048576: true; the input reads as it did. -/
def langsInclusionUptoRow : OpenClaim := { program := "ythlnmcokgfpgmaadoor", sum := "00f6f7b839b056035e70dab1f0b4578fab1972449ff8021af0c44b59c13674f9", func := "gauntlet/gauntletlaw25.LangsInclusion", spec := "langsInclusion", unfollowed := true, recurses := true, named := ["gauntlet/langs.minus", "gauntlet/langs.common"], plainKeys := false, apart := false, laid := [("gauntlet/langs.common", laid_gauntlet_langs_common), ("gauntlet/langs.minus", laid_gauntlet_langs_minus)], narrowed := true }
def LangsInclusionUptoSaid : Prop := langsInclusionUptoRow.holds Tryd.pinned (OpenSpec.upto langsInclusionSpec)

/-- 'gauntletlaw25.LangsSets', WHERE WHAT IT READS IS OF BULK AT MOST 1048576: true; the input reads as it did. -/
def langsSetsUptoRow : OpenClaim := { program := "ythlnmcokgfpgmaadoor", sum := "00f6f7b839b056035e70dab1f0b4578fab1972449ff8021af0c44b59c13674f9", func := "gauntlet/gauntletlaw25.LangsSets", spec := "langsSets", unfollowed := true, recurses := true, named := ["gauntlet/langs.common", "gauntlet/langs.minus", "gauntlet/langs.union"], plainKeys := false, apart := false, laid := [("gauntlet/langs.union", laid_gauntlet_langs_union), ("gauntlet/langs.common", laid_gauntlet_langs_common), ("gauntlet/langs.minus", laid_gauntlet_langs_minus)], narrowed := true }
def LangsSetsUptoSaid : Prop := langsSetsUptoRow.holds Tryd.pinned (OpenSpec.upto langsSetsSpec)

/-- 'gauntletlaw25.LangsLaws', WHERE WHAT IT READS IS OF BULK AT MOST 1048576: true; the input reads as it did. -/
def langsLawsUptoRow : OpenClaim := { program := "ythlnmcokgfpgmaadoor", sum := "00f6f7b839b056035e70dab1f0b4578fab1972449ff8021af0c44b59c13674f9", func := "gauntlet/gauntletlaw25.LangsLaws", spec := "langsLaws", unfollowed := true, recurses := true, named := ["gauntlet/langs.common", "gauntlet/langs.minus", "gauntlet/langs.union"], plainKeys := false, apart := false, laid := [("gauntlet/langs.union", laid_gauntlet_langs_union), ("gauntlet/langs.common", laid_gauntlet_langs_common), ("gauntlet/langs.minus", laid_gauntlet_langs_minus)], narrowed := true }
def LangsLawsUptoSaid : Prop := langsLawsUptoRow.holds Tryd.pinned (OpenSpec.upto langsLawsSpec)

/-- 'gauntletlaw25.LangsErrors', WHERE WHAT IT READS IS OF BULK AT MOST 1048576: true; the input reads as it did. -/
def langsErrorsUptoRow : OpenClaim := { program := "ythlnmcokgfpgmaadoor", sum := "00f6f7b839b056035e70dab1f0b4578fab1972449ff8021af0c44b59c13674f9", func := "gauntlet/gauntletlaw25.LangsErrors", spec := "langsErrors", unfollowed := true, recurses := true, named := ["gauntlet/langs.common", "gauntlet/langs.minus", "gauntlet/langs.union"], plainKeys := false, apart := false, laid := [("gauntlet/langs.union", laid_gauntlet_langs_union), ("gauntlet/langs.common", laid_gauntlet_langs_common), ("gauntlet/langs.minus", laid_gauntlet_langs_minus)], narrowed := true }
def LangsErrorsUptoSaid : Prop := langsErrorsUptoRow.holds Tryd.pinned (OpenSpec.upto langsErrorsSpec)

/-- 'gauntletlaw25.LangsKnown', WHERE WHAT IT READS IS OF BULK AT MOST 1048576: true; the input reads as it did. -/
def langsKnownUptoRow : OpenClaim := { program := "ythlnmcokgfpgmaadoor", sum := "00f6f7b839b056035e70dab1f0b4578fab1972449ff8021af0c44b59c13674f9", func := "gauntlet/gauntletlaw25.LangsKnown", spec := "langsKnown", unfollowed := true, recurses := true, named := ["gauntlet/langs.common", "gauntlet/langs.union", "gauntlet/langs.minus"], plainKeys := false, apart := false, laid := [("gauntlet/langs.union", laid_gauntlet_langs_union), ("gauntlet/langs.common", laid_gauntlet_langs_common), ("gauntlet/langs.minus", laid_gauntlet_langs_minus)], narrowed := true }
def LangsKnownUptoSaid : Prop := langsKnownUptoRow.holds Tryd.pinned (OpenSpec.upto langsKnownSpec)

end Rows
end Go.Proofs.YthlnmcokgfpgmaaDoor
