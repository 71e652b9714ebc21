/-
  DERIVED. GIVEN WITH THE SEED: THE CARDS: each row of YtggffdkgfgdaoaaDoorRows.lean that lists a variable, with what it lists TIED to the program's text (the seventh form; the later family's looks); each row that meets fmt, with fmt's text TOLD by the authors' own Lean function (tested against real Go, not proved from fmt's source: count such statements apart). THE CARD IS WHAT COUNTS. Prove the row's statement (the work); the ties are given (YtggffdkgfgdaoaaDoorTie.lean); close each card by the builder's one call (the guide's Derived/Test/ToyasCard.lean, 'card_holds'). Laid BY PROGRAM, IN A SANDBOX (cutbox-door.mjs). By AI agents, Wed Nov 11 2026. No macro, syntax, notation, axiom, sorry.
-/
import Derived.Test.YtggffdkgfgdaoaaDoorRows
import GoSem.ClaimSeven
namespace Go.Proofs.YtggffdkgfgdaoaaDoor
namespace Rows

/-- THE TIED CARD OF 'gauntletlaw29.ExtendsStep'. -/
def extendsStepCard : Claim7 := { stood := { row := extendsStepRow, standIns := [], harness := (true, "af1d0c5dc23b6d370c768f436b3b2afa0252feca6225f5c33f5e5ceb22fdb1de"), looks := false }, kinds := [], alts := [], laidByText := true, laidKinds := [.funcs], laidTests := true, laidLooks := .later }
def ExtendsStepCardSaid : Prop := Claim7.holds Tryd.pinned (.plain (OpenSpec.ofChange extendsStepSpec)) extendsStepCard

/-- THE TIED CARD OF 'gauntletlaw29.ExtendsRun'. -/
def extendsRunCard : Claim7 := { stood := { row := extendsRunRow, standIns := [], harness := (true, "af1d0c5dc23b6d370c768f436b3b2afa0252feca6225f5c33f5e5ceb22fdb1de"), looks := false }, kinds := [], alts := [], laidByText := true, laidKinds := [.funcs], laidTests := true, laidLooks := .later }
def ExtendsRunCardSaid : Prop := Claim7.holds Tryd.pinned (.plain (OpenSpec.ofChange extendsRunSpec)) extendsRunCard

/-- THE TIED CARD OF 'gauntletlaw29.ExtendsUnfold'. -/
def extendsUnfoldCard : Claim7 := { stood := { row := extendsUnfoldRow, standIns := [], harness := (true, "af1d0c5dc23b6d370c768f436b3b2afa0252feca6225f5c33f5e5ceb22fdb1de"), looks := false }, kinds := [], alts := [], laidByText := true, laidKinds := [.funcs], laidTests := true, laidLooks := .later }
def ExtendsUnfoldCardSaid : Prop := Claim7.holds Tryd.pinned (.plain (OpenSpec.ofChange extendsUnfoldSpec)) extendsUnfoldCard

/-- THE TIED CARD OF 'gauntletlaw29.ExtendsConflict'. -/
def extendsConflictCard : Claim7 := { stood := { row := extendsConflictRow, standIns := [], harness := (true, "af1d0c5dc23b6d370c768f436b3b2afa0252feca6225f5c33f5e5ceb22fdb1de"), looks := false }, kinds := [], alts := [], laidByText := true, laidKinds := [.funcs], laidTests := true, laidLooks := .later }
def ExtendsConflictCardSaid : Prop := Claim7.holds Tryd.pinned (.plain (OpenSpec.ofChange extendsConflictSpec)) extendsConflictCard

/-- THE TIED CARD OF 'gauntletlaw29.ExtendsOrder'. -/
def extendsOrderCard : Claim7 := { stood := { row := extendsOrderRow, standIns := [], harness := (true, "af1d0c5dc23b6d370c768f436b3b2afa0252feca6225f5c33f5e5ceb22fdb1de"), looks := false }, kinds := [], alts := [], laidByText := true, laidKinds := [.funcs], laidTests := true, laidLooks := .later }
def ExtendsOrderCardSaid : Prop := Claim7.holds Tryd.pinned (.plain (OpenSpec.ofChange extendsOrderSpec)) extendsOrderCard

/-- THE TIED CARD OF 'gauntletlaw29.ExtendsErrors'. -/
def extendsErrorsCard : Claim7 := { stood := { row := extendsErrorsRow, standIns := [], harness := (true, "af1d0c5dc23b6d370c768f436b3b2afa0252feca6225f5c33f5e5ceb22fdb1de"), looks := false }, kinds := [], alts := [], laidByText := true, laidKinds := [.funcs], laidTests := true, laidLooks := .later }
def ExtendsErrorsCardSaid : Prop := Claim7.holds Tryd.pinned (.plain (OpenSpec.ofChange extendsErrorsSpec)) extendsErrorsCard

/-- THE TIED CARD OF 'gauntletlaw29.ExtendsKnown'. -/
def extendsKnownCard : Claim7 := { stood := { row := extendsKnownRow, standIns := [], harness := (true, "af1d0c5dc23b6d370c768f436b3b2afa0252feca6225f5c33f5e5ceb22fdb1de"), looks := false }, kinds := [], alts := [], laidByText := true, laidKinds := [.funcs], laidTests := true, laidLooks := .later }
def ExtendsKnownCardSaid : Prop := Claim7.holds Tryd.pinned (.plain (OpenSpec.ofChange extendsKnownSpec)) extendsKnownCard

/-- THE SECOND FORM's CARD OF 'gauntletlaw29.ExtendsStep'. -/
def extendsStepUptoCard : Claim7 := { stood := { row := extendsStepUptoRow, standIns := [], harness := (true, "af1d0c5dc23b6d370c768f436b3b2afa0252feca6225f5c33f5e5ceb22fdb1de"), looks := false }, kinds := [], alts := [], laidByText := true, laidKinds := [.funcs], laidTests := true, laidLooks := .later }
def ExtendsStepUptoCardSaid : Prop := Claim7.holds Tryd.pinned (.plain (OpenSpec.upto extendsStepSpec)) extendsStepUptoCard

/-- THE SECOND FORM's CARD OF 'gauntletlaw29.ExtendsRun'. -/
def extendsRunUptoCard : Claim7 := { stood := { row := extendsRunUptoRow, standIns := [], harness := (true, "af1d0c5dc23b6d370c768f436b3b2afa0252feca6225f5c33f5e5ceb22fdb1de"), looks := false }, kinds := [], alts := [], laidByText := true, laidKinds := [.funcs], laidTests := true, laidLooks := .later }
def ExtendsRunUptoCardSaid : Prop := Claim7.holds Tryd.pinned (.plain (OpenSpec.upto extendsRunSpec)) extendsRunUptoCard

/-- THE SECOND FORM's CARD OF 'gauntletlaw29.ExtendsUnfold'. -/
def extendsUnfoldUptoCard : Claim7 := { stood := { row := extendsUnfoldUptoRow, standIns := [], harness := (true, "af1d0c5dc23b6d370c768f436b3b2afa0252feca6225f5c33f5e5ceb22fdb1de"), looks := false }, kinds := [], alts := [], laidByText := true, laidKinds := [.funcs], laidTests := true, laidLooks := .later }
def ExtendsUnfoldUptoCardSaid : Prop := Claim7.holds Tryd.pinned (.plain (OpenSpec.upto extendsUnfoldSpec)) extendsUnfoldUptoCard

/-- THE SECOND FORM's CARD OF 'gauntletlaw29.ExtendsConflict'. -/
def extendsConflictUptoCard : Claim7 := { stood := { row := extendsConflictUptoRow, standIns := [], harness := (true, "af1d0c5dc23b6d370c768f436b3b2afa0252feca6225f5c33f5e5ceb22fdb1de"), looks := false }, kinds := [], alts := [], laidByText := true, laidKinds := [.funcs], laidTests := true, laidLooks := .later }
def ExtendsConflictUptoCardSaid : Prop := Claim7.holds Tryd.pinned (.plain (OpenSpec.upto extendsConflictSpec)) extendsConflictUptoCard

/-- THE SECOND FORM's CARD OF 'gauntletlaw29.ExtendsOrder'. -/
def extendsOrderUptoCard : Claim7 := { stood := { row := extendsOrderUptoRow, standIns := [], harness := (true, "af1d0c5dc23b6d370c768f436b3b2afa0252feca6225f5c33f5e5ceb22fdb1de"), looks := false }, kinds := [], alts := [], laidByText := true, laidKinds := [.funcs], laidTests := true, laidLooks := .later }
def ExtendsOrderUptoCardSaid : Prop := Claim7.holds Tryd.pinned (.plain (OpenSpec.upto extendsOrderSpec)) extendsOrderUptoCard

/-- THE SECOND FORM's CARD OF 'gauntletlaw29.ExtendsErrors'. -/
def extendsErrorsUptoCard : Claim7 := { stood := { row := extendsErrorsUptoRow, standIns := [], harness := (true, "af1d0c5dc23b6d370c768f436b3b2afa0252feca6225f5c33f5e5ceb22fdb1de"), looks := false }, kinds := [], alts := [], laidByText := true, laidKinds := [.funcs], laidTests := true, laidLooks := .later }
def ExtendsErrorsUptoCardSaid : Prop := Claim7.holds Tryd.pinned (.plain (OpenSpec.upto extendsErrorsSpec)) extendsErrorsUptoCard

/-- THE SECOND FORM's CARD OF 'gauntletlaw29.ExtendsKnown'. -/
def extendsKnownUptoCard : Claim7 := { stood := { row := extendsKnownUptoRow, standIns := [], harness := (true, "af1d0c5dc23b6d370c768f436b3b2afa0252feca6225f5c33f5e5ceb22fdb1de"), looks := false }, kinds := [], alts := [], laidByText := true, laidKinds := [.funcs], laidTests := true, laidLooks := .later }
def ExtendsKnownUptoCardSaid : Prop := Claim7.holds Tryd.pinned (.plain (OpenSpec.upto extendsKnownSpec)) extendsKnownUptoCard
end Rows
end Go.Proofs.YtggffdkgfgdaoaaDoor
