/-
  DERIVED. GIVEN WITH THE SEED: THE CARDS: each row of YthlnmcokgfpgmaaDoorRows.lean that lists a variable, with what it lists TIED to the program's text (the seventh form; the later family's looks); each row that meets fmt, with fmt's text TOLD by the authors' own Lean function (tested against real Go, not proved from fmt's source: count such statements apart). THE CARD IS WHAT COUNTS. Prove the row's statement (the work); the ties are given (YthlnmcokgfpgmaaDoorTie.lean); close each card by the builder's one call (the guide's Derived/Test/ToyasCard.lean, 'card_holds'). Laid BY PROGRAM, IN A SANDBOX (cutbox-door.mjs). By AI agents, Wed Nov 11 2026. No macro, syntax, notation, axiom, sorry.
-/
import Derived.Test.YthlnmcokgfpgmaaDoorRows
import GoSem.ClaimSeven
namespace Go.Proofs.YthlnmcokgfpgmaaDoor
namespace Rows

/-- THE TIED CARD OF 'gauntletlaw25.LangsLeast'. -/
def langsLeastCard : Claim7 := { stood := { row := langsLeastRow, standIns := [], harness := (true, "110267b9e24e0654143a3acc3950e620ab725be1aa77c7fad623e96d1d1776a8"), looks := false }, kinds := [], alts := [], laidByText := true, laidKinds := [.funcs, .funcs], laidTests := true, laidLooks := .later }
def LangsLeastCardSaid : Prop := Claim7.holds Tryd.pinned (.plain (OpenSpec.ofChange langsLeastSpec)) langsLeastCard

/-- THE TIED CARD OF 'gauntletlaw25.LangsCount'. -/
def langsCountCard : Claim7 := { stood := { row := langsCountRow, standIns := [], harness := (true, "110267b9e24e0654143a3acc3950e620ab725be1aa77c7fad623e96d1d1776a8"), looks := false }, kinds := [], alts := [], laidByText := true, laidKinds := [.funcs, .funcs], laidTests := true, laidLooks := .later }
def LangsCountCardSaid : Prop := Claim7.holds Tryd.pinned (.plain (OpenSpec.ofChange langsCountSpec)) langsCountCard

/-- THE TIED CARD OF 'gauntletlaw25.LangsNth'. -/
def langsNthCard : Claim7 := { stood := { row := langsNthRow, standIns := [], harness := (true, "110267b9e24e0654143a3acc3950e620ab725be1aa77c7fad623e96d1d1776a8"), looks := false }, kinds := [], alts := [], laidByText := true, laidKinds := [.funcs, .funcs], laidTests := true, laidLooks := .later }
def LangsNthCardSaid : Prop := Claim7.holds Tryd.pinned (.plain (OpenSpec.ofChange langsNthSpec)) langsNthCard

/-- THE TIED CARD OF 'gauntletlaw25.LangsRank'. -/
def langsRankCard : Claim7 := { stood := { row := langsRankRow, standIns := [], harness := (true, "110267b9e24e0654143a3acc3950e620ab725be1aa77c7fad623e96d1d1776a8"), looks := false }, kinds := [], alts := [], laidByText := true, laidKinds := [.funcs, .funcs], laidTests := true, laidLooks := .later }
def LangsRankCardSaid : Prop := Claim7.holds Tryd.pinned (.plain (OpenSpec.ofChange langsRankSpec)) langsRankCard

/-- THE TIED CARD OF 'gauntletlaw25.LangsInclusion'. -/
def langsInclusionCard : Claim7 := { stood := { row := langsInclusionRow, standIns := [], harness := (true, "110267b9e24e0654143a3acc3950e620ab725be1aa77c7fad623e96d1d1776a8"), looks := false }, kinds := [], alts := [], laidByText := true, laidKinds := [.funcs, .funcs], laidTests := true, laidLooks := .later }
def LangsInclusionCardSaid : Prop := Claim7.holds Tryd.pinned (.plain (OpenSpec.ofChange langsInclusionSpec)) langsInclusionCard

/-- THE TIED CARD OF 'gauntletlaw25.LangsSets'. -/
def langsSetsCard : Claim7 := { stood := { row := langsSetsRow, standIns := [], harness := (true, "110267b9e24e0654143a3acc3950e620ab725be1aa77c7fad623e96d1d1776a8"), looks := false }, kinds := [], alts := [], laidByText := true, laidKinds := [.funcs, .funcs, .funcs], laidTests := true, laidLooks := .later }
def LangsSetsCardSaid : Prop := Claim7.holds Tryd.pinned (.plain (OpenSpec.ofChange langsSetsSpec)) langsSetsCard

/-- THE TIED CARD OF 'gauntletlaw25.LangsLaws'. -/
def langsLawsCard : Claim7 := { stood := { row := langsLawsRow, standIns := [], harness := (true, "110267b9e24e0654143a3acc3950e620ab725be1aa77c7fad623e96d1d1776a8"), looks := false }, kinds := [], alts := [], laidByText := true, laidKinds := [.funcs, .funcs, .funcs], laidTests := true, laidLooks := .later }
def LangsLawsCardSaid : Prop := Claim7.holds Tryd.pinned (.plain (OpenSpec.ofChange langsLawsSpec)) langsLawsCard

/-- THE TIED CARD OF 'gauntletlaw25.LangsErrors'. -/
def langsErrorsCard : Claim7 := { stood := { row := langsErrorsRow, standIns := [], harness := (true, "110267b9e24e0654143a3acc3950e620ab725be1aa77c7fad623e96d1d1776a8"), looks := false }, kinds := [], alts := [], laidByText := true, laidKinds := [.funcs, .funcs, .funcs], laidTests := true, laidLooks := .later }
def LangsErrorsCardSaid : Prop := Claim7.holds Tryd.pinned (.plain (OpenSpec.ofChange langsErrorsSpec)) langsErrorsCard

/-- THE TIED CARD OF 'gauntletlaw25.LangsKnown'. -/
def langsKnownCard : Claim7 := { stood := { row := langsKnownRow, standIns := [], harness := (true, "110267b9e24e0654143a3acc3950e620ab725be1aa77c7fad623e96d1d1776a8"), looks := false }, kinds := [], alts := [], laidByText := true, laidKinds := [.funcs, .funcs, .funcs], laidTests := true, laidLooks := .later }
def LangsKnownCardSaid : Prop := Claim7.holds Tryd.pinned (.plain (OpenSpec.ofChange langsKnownSpec)) langsKnownCard

/-- THE SECOND FORM's CARD OF 'gauntletlaw25.LangsLeast'. -/
def langsLeastUptoCard : Claim7 := { stood := { row := langsLeastUptoRow, standIns := [], harness := (true, "110267b9e24e0654143a3acc3950e620ab725be1aa77c7fad623e96d1d1776a8"), looks := false }, kinds := [], alts := [], laidByText := true, laidKinds := [.funcs, .funcs], laidTests := true, laidLooks := .later }
def LangsLeastUptoCardSaid : Prop := Claim7.holds Tryd.pinned (.plain (OpenSpec.upto langsLeastSpec)) langsLeastUptoCard

/-- THE SECOND FORM's CARD OF 'gauntletlaw25.LangsCount'. -/
def langsCountUptoCard : Claim7 := { stood := { row := langsCountUptoRow, standIns := [], harness := (true, "110267b9e24e0654143a3acc3950e620ab725be1aa77c7fad623e96d1d1776a8"), looks := false }, kinds := [], alts := [], laidByText := true, laidKinds := [.funcs, .funcs], laidTests := true, laidLooks := .later }
def LangsCountUptoCardSaid : Prop := Claim7.holds Tryd.pinned (.plain (OpenSpec.upto langsCountSpec)) langsCountUptoCard

/-- THE SECOND FORM's CARD OF 'gauntletlaw25.LangsNth'. -/
def langsNthUptoCard : Claim7 := { stood := { row := langsNthUptoRow, standIns := [], harness := (true, "110267b9e24e0654143a3acc3950e620ab725be1aa77c7fad623e96d1d1776a8"), looks := false }, kinds := [], alts := [], laidByText := true, laidKinds := [.funcs, .funcs], laidTests := true, laidLooks := .later }
def LangsNthUptoCardSaid : Prop := Claim7.holds Tryd.pinned (.plain (OpenSpec.upto langsNthSpec)) langsNthUptoCard

/-- THE SECOND FORM's CARD OF 'gauntletlaw25.LangsRank'. -/
def langsRankUptoCard : Claim7 := { stood := { row := langsRankUptoRow, standIns := [], harness := (true, "110267b9e24e0654143a3acc3950e620ab725be1aa77c7fad623e96d1d1776a8"), looks := false }, kinds := [], alts := [], laidByText := true, laidKinds := [.funcs, .funcs], laidTests := true, laidLooks := .later }
def LangsRankUptoCardSaid : Prop := Claim7.holds Tryd.pinned (.plain (OpenSpec.upto langsRankSpec)) langsRankUptoCard

/-- THE SECOND FORM's CARD OF 'gauntletlaw25.LangsInclusion'. -/
def langsInclusionUptoCard : Claim7 := { stood := { row := langsInclusionUptoRow, standIns := [], harness := (true, "110267b9e24e0654143a3acc3950e620ab725be1aa77c7fad623e96d1d1776a8"), looks := false }, kinds := [], alts := [], laidByText := true, laidKinds := [.funcs, .funcs], laidTests := true, laidLooks := .later }
def LangsInclusionUptoCardSaid : Prop := Claim7.holds Tryd.pinned (.plain (OpenSpec.upto langsInclusionSpec)) langsInclusionUptoCard

/-- THE SECOND FORM's CARD OF 'gauntletlaw25.LangsSets'. -/
def langsSetsUptoCard : Claim7 := { stood := { row := langsSetsUptoRow, standIns := [], harness := (true, "110267b9e24e0654143a3acc3950e620ab725be1aa77c7fad623e96d1d1776a8"), looks := false }, kinds := [], alts := [], laidByText := true, laidKinds := [.funcs, .funcs, .funcs], laidTests := true, laidLooks := .later }
def LangsSetsUptoCardSaid : Prop := Claim7.holds Tryd.pinned (.plain (OpenSpec.upto langsSetsSpec)) langsSetsUptoCard

/-- THE SECOND FORM's CARD OF 'gauntletlaw25.LangsLaws'. -/
def langsLawsUptoCard : Claim7 := { stood := { row := langsLawsUptoRow, standIns := [], harness := (true, "110267b9e24e0654143a3acc3950e620ab725be1aa77c7fad623e96d1d1776a8"), looks := false }, kinds := [], alts := [], laidByText := true, laidKinds := [.funcs, .funcs, .funcs], laidTests := true, laidLooks := .later }
def LangsLawsUptoCardSaid : Prop := Claim7.holds Tryd.pinned (.plain (OpenSpec.upto langsLawsSpec)) langsLawsUptoCard

/-- THE SECOND FORM's CARD OF 'gauntletlaw25.LangsErrors'. -/
def langsErrorsUptoCard : Claim7 := { stood := { row := langsErrorsUptoRow, standIns := [], harness := (true, "110267b9e24e0654143a3acc3950e620ab725be1aa77c7fad623e96d1d1776a8"), looks := false }, kinds := [], alts := [], laidByText := true, laidKinds := [.funcs, .funcs, .funcs], laidTests := true, laidLooks := .later }
def LangsErrorsUptoCardSaid : Prop := Claim7.holds Tryd.pinned (.plain (OpenSpec.upto langsErrorsSpec)) langsErrorsUptoCard

/-- THE SECOND FORM's CARD OF 'gauntletlaw25.LangsKnown'. -/
def langsKnownUptoCard : Claim7 := { stood := { row := langsKnownUptoRow, standIns := [], harness := (true, "110267b9e24e0654143a3acc3950e620ab725be1aa77c7fad623e96d1d1776a8"), looks := false }, kinds := [], alts := [], laidByText := true, laidKinds := [.funcs, .funcs, .funcs], laidTests := true, laidLooks := .later }
def LangsKnownUptoCardSaid : Prop := Claim7.holds Tryd.pinned (.plain (OpenSpec.upto langsKnownSpec)) langsKnownUptoCard
end Rows
end Go.Proofs.YthlnmcokgfpgmaaDoor
