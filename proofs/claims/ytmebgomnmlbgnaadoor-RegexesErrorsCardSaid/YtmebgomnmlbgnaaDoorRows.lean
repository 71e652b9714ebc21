/-
  NARROWER THAN 'FOR EVERY INPUT', by the rows' own cells (each row's printed sentence says how): RegexesDfa: laid · RegexesDerive: laid · RegexesText: laid · RegexesParse: laid · RegexesEqual: laid · RegexesErrors: loops, laid · RegexesKnown: laid · RegexesMatches: laid.
  DERIVED. THE GIVEN ROWS OF THIS SEAT. 8 by the template 'for every input the law returns true; each argument reads behind the call as it read before'; 0 by the template 'total and deterministic' (their statements: YtmebgomnmlbgnaaDoorTotals.lean).
  GIVEN WITH THE SEED: the statements are not yours to turn. If you find one false, say at which input.
  Laid BY PROGRAM, IN A SANDBOX (cutbox-rows.mjs): the forced cells as the released guide's own fill.sh prints them over the translation d672a6826592ae3e… (all of the seat's roots in one cut). By AI agents, Wed Nov 11 2026. No macro, syntax, notation, axiom, sorry.
-/
import Derived.Test.YtmebgomnmlbgnaaDoorChecked
import GoSem.Claim
import GoSem.ClaimJoined
import GoSem.ClaimMapViews
import Derived.JoinedTies
import Derived.KernelRfl
namespace Go.Proofs.YtmebgomnmlbgnaaDoor
/- THE CELL 'sum', in the pinned program and in every row, IS THE sha256 OF THE DUMP (.gsa) THAT YtmebgomnmlbgnaaDoorProg.lean LOADS. Nothing in Lean hashes anything: it is a label: what it is worth is what the hold of that sum in a sandbox is worth. -/
noncomputable def Tryd.pinned : Pinned := { name := "ytmebgomnmlbgnaadoor", sum := "d672a6826592ae3ee3914e1f9a5a9dc1ecae3ef2bb36b3024cc49f96bec444ac", checked := Tryd.checked }
namespace Rows
def none {H : Type} : Left H := { results := [], args := [] }

/- WHAT THE LISTED PACKAGE-LEVEL VARIABLES READ AS WHEN THE CALL BEGINS. Each datum BY PROGRAM (the guide's laid-datum.mjs) off the statement by which the dump's own 'gosem.cut.vars' lays the variable. In a bare row this is a premise. The card (YtmebgomnmlbgnaaDoorCards.lean) ties it to the program's text. -/
def laid_gauntlet_regexes_subs {H : Type} : DataW H := .agg [.lit (.int .i64 0), .lit (.int .i64 0), .lit (.int .i64 0), .lit (.int .i64 2), .lit (.int .i64 2), .lit (.int .i64 2), .lit (.int .i64 1), .lit (.int .i64 1)]
def laid_gauntlet_regexes_ranks {H : Type} : DataW H := .agg [.lit (.int .i64 6), .lit (.int .i64 6), .lit (.int .i64 6), .lit (.int .i64 1), .lit (.int .i64 3), .lit (.int .i64 2), .lit (.int .i64 5), .lit (.int .i64 4)]

/-- 'gauntletlaw24.RegexesDfa': WHATEVER THE INPUT: true; the input reads as it did. -/
def regexesDfaSpec : ChangeSpec := { name := "regexesDfa", fn := fun _ => fun
  | [d] => { results := [.lit (.bool true)], args := [d] }
  | _ => none }
def regexesDfaRow : OpenClaim := { program := "ytmebgomnmlbgnaadoor", sum := "d672a6826592ae3ee3914e1f9a5a9dc1ecae3ef2bb36b3024cc49f96bec444ac", func := "gauntlet/gauntletlaw24.RegexesDfa", spec := "regexesDfa", inPlace := ["internal/bytealg.IndexByteString"], unfollowed := true, recurses := true, named := ["gauntlet/regexes.subs", "gauntlet/regexes.ranks"], plainKeys := false, apart := false, laid := [("gauntlet/regexes.subs", laid_gauntlet_regexes_subs), ("gauntlet/regexes.ranks", laid_gauntlet_regexes_ranks)] }
def RegexesDfaSaid : Prop := regexesDfaRow.holds Tryd.pinned (OpenSpec.ofChange regexesDfaSpec)

/-- ITS FALSE NEIGHBOUR: 'it returns false'. Refute it at one input. -/
def regexesDfaWrong : ChangeSpec := { name := "regexesDfa", fn := fun _ => fun
  | [d] => { results := [.lit (.bool false)], args := [d] }
  | _ => none }
def RegexesDfaWrongFalsely : Prop := regexesDfaRow.holds Tryd.pinned (OpenSpec.ofChange regexesDfaWrong)

/-- 'gauntletlaw24.RegexesDerive': WHATEVER THE INPUT: true; the input reads as it did. -/
def regexesDeriveSpec : ChangeSpec := { name := "regexesDerive", fn := fun _ => fun
  | [d1, d2, d3] => { results := [.lit (.bool true)], args := [d1, d2, d3] }
  | _ => none }
def regexesDeriveRow : OpenClaim := { program := "ytmebgomnmlbgnaadoor", sum := "d672a6826592ae3ee3914e1f9a5a9dc1ecae3ef2bb36b3024cc49f96bec444ac", func := "gauntlet/gauntletlaw24.RegexesDerive", spec := "regexesDerive", inPlace := ["internal/bytealg.IndexByteString"], unfollowed := true, recurses := true, named := ["gauntlet/regexes.subs", "gauntlet/regexes.ranks"], plainKeys := false, apart := false, laid := [("gauntlet/regexes.subs", laid_gauntlet_regexes_subs), ("gauntlet/regexes.ranks", laid_gauntlet_regexes_ranks)] }
def RegexesDeriveSaid : Prop := regexesDeriveRow.holds Tryd.pinned (OpenSpec.ofChange regexesDeriveSpec)

/-- ITS FALSE NEIGHBOUR: 'it returns false'. Refute it at one input. -/
def regexesDeriveWrong : ChangeSpec := { name := "regexesDerive", fn := fun _ => fun
  | [d1, d2, d3] => { results := [.lit (.bool false)], args := [d1, d2, d3] }
  | _ => none }
def RegexesDeriveWrongFalsely : Prop := regexesDeriveRow.holds Tryd.pinned (OpenSpec.ofChange regexesDeriveWrong)

/-- 'gauntletlaw24.RegexesText': WHATEVER THE INPUT: true; the input reads as it did. -/
def regexesTextSpec : ChangeSpec := { name := "regexesText", fn := fun _ => fun
  | [d] => { results := [.lit (.bool true)], args := [d] }
  | _ => none }
def regexesTextRow : OpenClaim := { program := "ytmebgomnmlbgnaadoor", sum := "d672a6826592ae3ee3914e1f9a5a9dc1ecae3ef2bb36b3024cc49f96bec444ac", func := "gauntlet/gauntletlaw24.RegexesText", spec := "regexesText", inPlace := ["internal/bytealg.IndexByteString"], unfollowed := true, recurses := true, named := ["gauntlet/regexes.subs", "gauntlet/regexes.ranks"], plainKeys := false, apart := false, laid := [("gauntlet/regexes.subs", laid_gauntlet_regexes_subs), ("gauntlet/regexes.ranks", laid_gauntlet_regexes_ranks)] }
def RegexesTextSaid : Prop := regexesTextRow.holds Tryd.pinned (OpenSpec.ofChange regexesTextSpec)

/-- ITS FALSE NEIGHBOUR: 'it returns false'. Refute it at one input. -/
def regexesTextWrong : ChangeSpec := { name := "regexesText", fn := fun _ => fun
  | [d] => { results := [.lit (.bool false)], args := [d] }
  | _ => none }
def RegexesTextWrongFalsely : Prop := regexesTextRow.holds Tryd.pinned (OpenSpec.ofChange regexesTextWrong)

/-- 'gauntletlaw24.RegexesParse': WHATEVER THE INPUT: true; the input reads as it did. -/
def regexesParseSpec : ChangeSpec := { name := "regexesParse", fn := fun _ => fun
  | [d1, d2] => { results := [.lit (.bool true)], args := [d1, d2] }
  | _ => none }
def regexesParseRow : OpenClaim := { program := "ytmebgomnmlbgnaadoor", sum := "d672a6826592ae3ee3914e1f9a5a9dc1ecae3ef2bb36b3024cc49f96bec444ac", func := "gauntlet/gauntletlaw24.RegexesParse", spec := "regexesParse", inPlace := ["internal/bytealg.IndexByteString"], unfollowed := true, recurses := true, named := ["gauntlet/regexes.subs", "gauntlet/regexes.ranks"], plainKeys := false, apart := false, laid := [("gauntlet/regexes.subs", laid_gauntlet_regexes_subs), ("gauntlet/regexes.ranks", laid_gauntlet_regexes_ranks)] }
def RegexesParseSaid : Prop := regexesParseRow.holds Tryd.pinned (OpenSpec.ofChange regexesParseSpec)

/-- ITS FALSE NEIGHBOUR: 'it returns false'. Refute it at one input. -/
def regexesParseWrong : ChangeSpec := { name := "regexesParse", fn := fun _ => fun
  | [d1, d2] => { results := [.lit (.bool false)], args := [d1, d2] }
  | _ => none }
def RegexesParseWrongFalsely : Prop := regexesParseRow.holds Tryd.pinned (OpenSpec.ofChange regexesParseWrong)

/-- 'gauntletlaw24.RegexesEqual': WHATEVER THE INPUT: true; the input reads as it did. -/
def regexesEqualSpec : ChangeSpec := { name := "regexesEqual", fn := fun _ => fun
  | [d1, d2] => { results := [.lit (.bool true)], args := [d1, d2] }
  | _ => none }
def regexesEqualRow : OpenClaim := { program := "ytmebgomnmlbgnaadoor", sum := "d672a6826592ae3ee3914e1f9a5a9dc1ecae3ef2bb36b3024cc49f96bec444ac", func := "gauntlet/gauntletlaw24.RegexesEqual", spec := "regexesEqual", inPlace := ["internal/bytealg.IndexByteString"], unfollowed := true, recurses := true, named := ["gauntlet/regexes.subs", "gauntlet/regexes.ranks"], plainKeys := false, apart := false, laid := [("gauntlet/regexes.subs", laid_gauntlet_regexes_subs), ("gauntlet/regexes.ranks", laid_gauntlet_regexes_ranks)] }
def RegexesEqualSaid : Prop := regexesEqualRow.holds Tryd.pinned (OpenSpec.ofChange regexesEqualSpec)

/-- ITS FALSE NEIGHBOUR: 'it returns false'. Refute it at one input. -/
def regexesEqualWrong : ChangeSpec := { name := "regexesEqual", fn := fun _ => fun
  | [d1, d2] => { results := [.lit (.bool false)], args := [d1, d2] }
  | _ => none }
def RegexesEqualWrongFalsely : Prop := regexesEqualRow.holds Tryd.pinned (OpenSpec.ofChange regexesEqualWrong)

/-- 'gauntletlaw24.RegexesErrors': WHATEVER THE INPUT: true; the input reads as it did. -/
def regexesErrorsSpec : ChangeSpec := { name := "regexesErrors", fn := fun _ => fun
  | [d1, d2, d3] => { results := [.lit (.bool true)], args := [d1, d2, d3] }
  | _ => none }
def regexesErrorsRow : OpenClaim := { program := "ytmebgomnmlbgnaadoor", sum := "d672a6826592ae3ee3914e1f9a5a9dc1ecae3ef2bb36b3024cc49f96bec444ac", func := "gauntlet/gauntletlaw24.RegexesErrors", spec := "regexesErrors", inPlace := ["internal/bytealg.IndexByteString"], unfollowed := true, recurses := true, named := ["gauntlet/regexes.subs", "gauntlet/regexes.ranks"], loops := true, plainKeys := false, apart := false, laid := [("gauntlet/regexes.subs", laid_gauntlet_regexes_subs), ("gauntlet/regexes.ranks", laid_gauntlet_regexes_ranks)] }
def RegexesErrorsSaid : Prop := regexesErrorsRow.holds Tryd.pinned (OpenSpec.ofChange regexesErrorsSpec)

/-- ITS FALSE NEIGHBOUR: 'it returns false'. Refute it at one input. -/
def regexesErrorsWrong : ChangeSpec := { name := "regexesErrors", fn := fun _ => fun
  | [d1, d2, d3] => { results := [.lit (.bool false)], args := [d1, d2, d3] }
  | _ => none }
def RegexesErrorsWrongFalsely : Prop := regexesErrorsRow.holds Tryd.pinned (OpenSpec.ofChange regexesErrorsWrong)

/-- 'gauntletlaw24.RegexesKnown': WHATEVER THE INPUT: true; the input reads as it did. -/
def regexesKnownSpec : ChangeSpec := { name := "regexesKnown", fn := fun _ => fun
  | [] => { results := [.lit (.bool true)], args := [] }
  | _ => none }
def regexesKnownRow : OpenClaim := { program := "ytmebgomnmlbgnaadoor", sum := "d672a6826592ae3ee3914e1f9a5a9dc1ecae3ef2bb36b3024cc49f96bec444ac", func := "gauntlet/gauntletlaw24.RegexesKnown", spec := "regexesKnown", inPlace := ["internal/bytealg.IndexByteString"], unfollowed := true, recurses := true, named := ["gauntlet/regexes.subs", "gauntlet/regexes.ranks"], plainKeys := false, apart := false, laid := [("gauntlet/regexes.subs", laid_gauntlet_regexes_subs), ("gauntlet/regexes.ranks", laid_gauntlet_regexes_ranks)] }
def RegexesKnownSaid : Prop := regexesKnownRow.holds Tryd.pinned (OpenSpec.ofChange regexesKnownSpec)

/-- ITS FALSE NEIGHBOUR: 'it returns false'. Refute it at one input. -/
def regexesKnownWrong : ChangeSpec := { name := "regexesKnown", fn := fun _ => fun
  | [] => { results := [.lit (.bool false)], args := [] }
  | _ => none }
def RegexesKnownWrongFalsely : Prop := regexesKnownRow.holds Tryd.pinned (OpenSpec.ofChange regexesKnownWrong)

/-- 'gauntletlaw24.RegexesMatches': WHATEVER THE INPUT: true; the input reads as it did. -/
def regexesMatchesSpec : ChangeSpec := { name := "regexesMatches", fn := fun _ => fun
  | [d1, d2] => { results := [.lit (.bool true)], args := [d1, d2] }
  | _ => none }
def regexesMatchesRow : OpenClaim := { program := "ytmebgomnmlbgnaadoor", sum := "d672a6826592ae3ee3914e1f9a5a9dc1ecae3ef2bb36b3024cc49f96bec444ac", func := "gauntlet/gauntletlaw24.RegexesMatches", spec := "regexesMatches", inPlace := ["internal/bytealg.IndexByteString"], unfollowed := true, recurses := true, named := ["gauntlet/regexes.subs", "gauntlet/regexes.ranks"], plainKeys := false, apart := false, laid := [("gauntlet/regexes.subs", laid_gauntlet_regexes_subs), ("gauntlet/regexes.ranks", laid_gauntlet_regexes_ranks)] }
def RegexesMatchesSaid : Prop := regexesMatchesRow.holds Tryd.pinned (OpenSpec.ofChange regexesMatchesSpec)

/-- ITS FALSE NEIGHBOUR: 'it returns false'. Refute it at one input. -/
def regexesMatchesWrong : ChangeSpec := { name := "regexesMatches", fn := fun _ => fun
  | [d1, d2] => { results := [.lit (.bool false)], args := [d1, d2] }
  | _ => none }
def RegexesMatchesWrongFalsely : Prop := regexesMatchesRow.holds Tryd.pinned (OpenSpec.ofChange regexesMatchesWrong)

/- THE SECOND FORM. 'bulk': how many values and letters a reading holds, each counted each time it is reached (what is shared counts as often as it is met; a slice's spare places count too). A statement '..UptoSaid' is the law's where the arguments, and the package variables that the reading takes, are together of bulk at most 1048576: NARROWER than '..Said'. Prove '..Said' where nothing that the law and all that it calls make is longer than what came in: it says more and counts as full. Else prove '..UptoSaid'. A law counts once. -/
mutual
def uptoBulk {H : Type} : DataW H → Nat
  | .lit (.string bytes) => bytes.length + 1
  | .lit _ => 1
  | .nil => 1
  | .ptr d => uptoBulk d + 1
  | .slice elems spare => uptoBulkAll elems + uptoBulkAll spare + 1
  | .agg parts => uptoBulkAll parts + 1
  | .iface _ d => uptoBulk d + 1
  | .map entries => uptoBulkEntries entries + 1
  | .held _ => 1
def uptoBulkAll {H : Type} : List (DataW H) → Nat
  | [] => 0
  | d :: r => uptoBulk d + uptoBulkAll r
def uptoBulkEntries {H : Type} : List (Lit × DataW H) → Nat
  | [] => 0
  | x :: r => uptoBulkEntry x + uptoBulkEntries r
def uptoBulkEntry {H : Type} : Lit × DataW H → Nat
  | (.string bytes, d) => bytes.length + uptoBulk d + 1
  | (_, d) => uptoBulk d + 1
 end
def uptoSmall : (H : Type) → List (DataW H) → Bool := fun _ ds => decide (uptoBulkAll ds ≤ 1048576)
def OpenSpec.upto (s : _root_.Go.ChangeSpec) : _root_.Go.OpenSpec := { _root_.Go.OpenSpec.ofChange s with cond := some uptoSmall }

/-- 'gauntletlaw24.RegexesDfa', WHERE WHAT IT READS IS OF BULK AT MOST 1048576: true; the input reads as it did. -/
def regexesDfaUptoRow : OpenClaim := { program := "ytmebgomnmlbgnaadoor", sum := "d672a6826592ae3ee3914e1f9a5a9dc1ecae3ef2bb36b3024cc49f96bec444ac", func := "gauntlet/gauntletlaw24.RegexesDfa", spec := "regexesDfa", inPlace := ["internal/bytealg.IndexByteString"], unfollowed := true, recurses := true, named := ["gauntlet/regexes.subs", "gauntlet/regexes.ranks"], plainKeys := false, apart := false, laid := [("gauntlet/regexes.subs", laid_gauntlet_regexes_subs), ("gauntlet/regexes.ranks", laid_gauntlet_regexes_ranks)], narrowed := true }
def RegexesDfaUptoSaid : Prop := regexesDfaUptoRow.holds Tryd.pinned (OpenSpec.upto regexesDfaSpec)

/-- 'gauntletlaw24.RegexesDerive', WHERE WHAT IT READS IS OF BULK AT MOST 1048576: true; the input reads as it did. -/
def regexesDeriveUptoRow : OpenClaim := { program := "ytmebgomnmlbgnaadoor", sum := "d672a6826592ae3ee3914e1f9a5a9dc1ecae3ef2bb36b3024cc49f96bec444ac", func := "gauntlet/gauntletlaw24.RegexesDerive", spec := "regexesDerive", inPlace := ["internal/bytealg.IndexByteString"], unfollowed := true, recurses := true, named := ["gauntlet/regexes.subs", "gauntlet/regexes.ranks"], plainKeys := false, apart := false, laid := [("gauntlet/regexes.subs", laid_gauntlet_regexes_subs), ("gauntlet/regexes.ranks", laid_gauntlet_regexes_ranks)], narrowed := true }
def RegexesDeriveUptoSaid : Prop := regexesDeriveUptoRow.holds Tryd.pinned (OpenSpec.upto regexesDeriveSpec)

/-- 'gauntletlaw24.RegexesText', WHERE WHAT IT READS IS OF BULK AT MOST 1048576: true; the input reads as it did. -/
def regexesTextUptoRow : OpenClaim := { program := "ytmebgomnmlbgnaadoor", sum := "d672a6826592ae3ee3914e1f9a5a9dc1ecae3ef2bb36b3024cc49f96bec444ac", func := "gauntlet/gauntletlaw24.RegexesText", spec := "regexesText", inPlace := ["internal/bytealg.IndexByteString"], unfollowed := true, recurses := true, named := ["gauntlet/regexes.subs", "gauntlet/regexes.ranks"], plainKeys := false, apart := false, laid := [("gauntlet/regexes.subs", laid_gauntlet_regexes_subs), ("gauntlet/regexes.ranks", laid_gauntlet_regexes_ranks)], narrowed := true }
def RegexesTextUptoSaid : Prop := regexesTextUptoRow.holds Tryd.pinned (OpenSpec.upto regexesTextSpec)

/-- 'gauntletlaw24.RegexesParse', WHERE WHAT IT READS IS OF BULK AT MOST 1048576: true; the input reads as it did. -/
def regexesParseUptoRow : OpenClaim := { program := "ytmebgomnmlbgnaadoor", sum := "d672a6826592ae3ee3914e1f9a5a9dc1ecae3ef2bb36b3024cc49f96bec444ac", func := "gauntlet/gauntletlaw24.RegexesParse", spec := "regexesParse", inPlace := ["internal/bytealg.IndexByteString"], unfollowed := true, recurses := true, named := ["gauntlet/regexes.subs", "gauntlet/regexes.ranks"], plainKeys := false, apart := false, laid := [("gauntlet/regexes.subs", laid_gauntlet_regexes_subs), ("gauntlet/regexes.ranks", laid_gauntlet_regexes_ranks)], narrowed := true }
def RegexesParseUptoSaid : Prop := regexesParseUptoRow.holds Tryd.pinned (OpenSpec.upto regexesParseSpec)

/-- 'gauntletlaw24.RegexesEqual', WHERE WHAT IT READS IS OF BULK AT MOST 1048576: true; the input reads as it did. -/
def regexesEqualUptoRow : OpenClaim := { program := "ytmebgomnmlbgnaadoor", sum := "d672a6826592ae3ee3914e1f9a5a9dc1ecae3ef2bb36b3024cc49f96bec444ac", func := "gauntlet/gauntletlaw24.RegexesEqual", spec := "regexesEqual", inPlace := ["internal/bytealg.IndexByteString"], unfollowed := true, recurses := true, named := ["gauntlet/regexes.subs", "gauntlet/regexes.ranks"], plainKeys := false, apart := false, laid := [("gauntlet/regexes.subs", laid_gauntlet_regexes_subs), ("gauntlet/regexes.ranks", laid_gauntlet_regexes_ranks)], narrowed := true }
def RegexesEqualUptoSaid : Prop := regexesEqualUptoRow.holds Tryd.pinned (OpenSpec.upto regexesEqualSpec)

/-- 'gauntletlaw24.RegexesErrors', WHERE WHAT IT READS IS OF BULK AT MOST 1048576: true; the input reads as it did. -/
def regexesErrorsUptoRow : OpenClaim := { program := "ytmebgomnmlbgnaadoor", sum := "d672a6826592ae3ee3914e1f9a5a9dc1ecae3ef2bb36b3024cc49f96bec444ac", func := "gauntlet/gauntletlaw24.RegexesErrors", spec := "regexesErrors", inPlace := ["internal/bytealg.IndexByteString"], unfollowed := true, recurses := true, named := ["gauntlet/regexes.subs", "gauntlet/regexes.ranks"], loops := true, plainKeys := false, apart := false, laid := [("gauntlet/regexes.subs", laid_gauntlet_regexes_subs), ("gauntlet/regexes.ranks", laid_gauntlet_regexes_ranks)], narrowed := true }
def RegexesErrorsUptoSaid : Prop := regexesErrorsUptoRow.holds Tryd.pinned (OpenSpec.upto regexesErrorsSpec)

/-- 'gauntletlaw24.RegexesKnown', WHERE WHAT IT READS IS OF BULK AT MOST 1048576: true; the input reads as it did. -/
def regexesKnownUptoRow : OpenClaim := { program := "ytmebgomnmlbgnaadoor", sum := "d672a6826592ae3ee3914e1f9a5a9dc1ecae3ef2bb36b3024cc49f96bec444ac", func := "gauntlet/gauntletlaw24.RegexesKnown", spec := "regexesKnown", inPlace := ["internal/bytealg.IndexByteString"], unfollowed := true, recurses := true, named := ["gauntlet/regexes.subs", "gauntlet/regexes.ranks"], plainKeys := false, apart := false, laid := [("gauntlet/regexes.subs", laid_gauntlet_regexes_subs), ("gauntlet/regexes.ranks", laid_gauntlet_regexes_ranks)], narrowed := true }
def RegexesKnownUptoSaid : Prop := regexesKnownUptoRow.holds Tryd.pinned (OpenSpec.upto regexesKnownSpec)

/-- 'gauntletlaw24.RegexesMatches', WHERE WHAT IT READS IS OF BULK AT MOST 1048576: true; the input reads as it did. -/
def regexesMatchesUptoRow : OpenClaim := { program := "ytmebgomnmlbgnaadoor", sum := "d672a6826592ae3ee3914e1f9a5a9dc1ecae3ef2bb36b3024cc49f96bec444ac", func := "gauntlet/gauntletlaw24.RegexesMatches", spec := "regexesMatches", inPlace := ["internal/bytealg.IndexByteString"], unfollowed := true, recurses := true, named := ["gauntlet/regexes.subs", "gauntlet/regexes.ranks"], plainKeys := false, apart := false, laid := [("gauntlet/regexes.subs", laid_gauntlet_regexes_subs), ("gauntlet/regexes.ranks", laid_gauntlet_regexes_ranks)], narrowed := true }
def RegexesMatchesUptoSaid : Prop := regexesMatchesUptoRow.holds Tryd.pinned (OpenSpec.upto regexesMatchesSpec)

end Rows
end Go.Proofs.YtmebgomnmlbgnaaDoor
