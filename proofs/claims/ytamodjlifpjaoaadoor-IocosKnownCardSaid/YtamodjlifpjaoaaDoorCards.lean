/-
  DERIVED. GIVEN WITH THE SEED: THE CARDS: each row of YtamodjlifpjaoaaDoorRows.lean that lists a variable, with what it lists TIED to the program's text (the seventh form; the later family's looks); each row that meets fmt, with fmt's text TOLD by the authors' own Lean function (tested against real Go, not proved from fmt's source: count such statements apart). THE CARD IS WHAT COUNTS. Prove the row's statement (the work); the ties are given (YtamodjlifpjaoaaDoorTie.lean); close each card by the builder's one call (the guide's Derived/Test/ToyasCard.lean, 'card_holds'). Laid BY PROGRAM, IN A SANDBOX (cutbox-door.mjs). By AI agents, Wed Nov 11 2026. No macro, syntax, notation, axiom, sorry.
-/
import Derived.Test.YtamodjlifpjaoaaDoorRows
import GoSem.ClaimSeven
namespace Go.Proofs.YtamodjlifpjaoaaDoor
namespace Rows

/-- THE TIED CARD OF 'gauntletlaw27.IocosAfter'. -/
def iocosAfterCard : Claim7 := { stood := { row := iocosAfterRow, standIns := [], harness := (true, "8b2e3f269e6f206d1ad08b45bd67d9afdece0b776a0f3a225bab8422754a33b9"), looks := false }, kinds := [], alts := [], laidByText := true, laidKinds := [.data], laidTests := true, laidLooks := .later }
def IocosAfterCardSaid : Prop := Claim7.holds Tryd.pinned (.plain (OpenSpec.ofChange iocosAfterSpec)) iocosAfterCard

/-- THE TIED CARD OF 'gauntletlaw27.IocosConforms'. -/
def iocosConformsCard : Claim7 := { stood := { row := iocosConformsRow, standIns := [], harness := (true, "8b2e3f269e6f206d1ad08b45bd67d9afdece0b776a0f3a225bab8422754a33b9"), looks := false }, kinds := [], alts := [], laidByText := true, laidKinds := [.data], laidTests := true, laidLooks := .later }
def IocosConformsCardSaid : Prop := Claim7.holds Tryd.pinned (.plain (OpenSpec.ofChange iocosConformsSpec)) iocosConformsCard

/-- THE TIED CARD OF 'gauntletlaw27.IocosMake'. -/
def iocosMakeCard : Claim7 := { stood := { row := iocosMakeRow, standIns := [], harness := (true, "8b2e3f269e6f206d1ad08b45bd67d9afdece0b776a0f3a225bab8422754a33b9"), looks := false }, kinds := [], alts := [], laidByText := true, laidKinds := [.data], laidTests := true, laidLooks := .later }
def IocosMakeCardSaid : Prop := Claim7.holds Tryd.pinned (.plain (OpenSpec.ofChange iocosMakeSpec)) iocosMakeCard

/-- THE TIED CARD OF 'gauntletlaw27.IocosVerdict'. -/
def iocosVerdictCard : Claim7 := { stood := { row := iocosVerdictRow, standIns := [], harness := (true, "8b2e3f269e6f206d1ad08b45bd67d9afdece0b776a0f3a225bab8422754a33b9"), looks := false }, kinds := [], alts := [], laidByText := true, laidKinds := [.data], laidTests := true, laidLooks := .later }
def IocosVerdictCardSaid : Prop := Claim7.holds Tryd.pinned (.plain (OpenSpec.ofChange iocosVerdictSpec)) iocosVerdictCard

/-- THE TIED CARD OF 'gauntletlaw27.IocosTests'. -/
def iocosTestsCard : Claim7 := { stood := { row := iocosTestsRow, standIns := [], harness := (true, "8b2e3f269e6f206d1ad08b45bd67d9afdece0b776a0f3a225bab8422754a33b9"), looks := false }, kinds := [], alts := [], laidByText := true, laidKinds := [.data], laidTests := true, laidLooks := .later }
def IocosTestsCardSaid : Prop := Claim7.holds Tryd.pinned (.plain (OpenSpec.ofChange iocosTestsSpec)) iocosTestsCard

/-- THE TIED CARD OF 'gauntletlaw27.IocosErrors'. -/
def iocosErrorsCard : Claim7 := { stood := { row := iocosErrorsRow, standIns := [], harness := (true, "8b2e3f269e6f206d1ad08b45bd67d9afdece0b776a0f3a225bab8422754a33b9"), looks := false }, kinds := [], alts := [], laidByText := true, laidKinds := [.data], laidTests := true, laidLooks := .later }
def IocosErrorsCardSaid : Prop := Claim7.holds Tryd.pinned (.plain (OpenSpec.ofChange iocosErrorsSpec)) iocosErrorsCard

/-- THE TIED CARD OF 'gauntletlaw27.IocosTest'. -/
def iocosTestCard : Claim7 := { stood := { row := iocosTestRow, standIns := [], harness := (true, "8b2e3f269e6f206d1ad08b45bd67d9afdece0b776a0f3a225bab8422754a33b9"), looks := false }, kinds := [], alts := [], laidByText := true, laidKinds := [.data], laidTests := true, laidLooks := .later }
def IocosTestCardSaid : Prop := Claim7.holds Tryd.pinned (.plain (OpenSpec.ofChange iocosTestSpec)) iocosTestCard

/-- THE TIED CARD OF 'gauntletlaw27.IocosKnown'. -/
def iocosKnownCard : Claim7 := { stood := { row := iocosKnownRow, standIns := [], harness := (true, "8b2e3f269e6f206d1ad08b45bd67d9afdece0b776a0f3a225bab8422754a33b9"), looks := false }, kinds := [], alts := [], laidByText := true, laidKinds := [.data], laidTests := true, laidLooks := .later }
def IocosKnownCardSaid : Prop := Claim7.holds Tryd.pinned (.plain (OpenSpec.ofChange iocosKnownSpec)) iocosKnownCard

/-- THE SECOND FORM's CARD OF 'gauntletlaw27.IocosAfter'. -/
def iocosAfterUptoCard : Claim7 := { stood := { row := iocosAfterUptoRow, standIns := [], harness := (true, "8b2e3f269e6f206d1ad08b45bd67d9afdece0b776a0f3a225bab8422754a33b9"), looks := false }, kinds := [], alts := [], laidByText := true, laidKinds := [.data], laidTests := true, laidLooks := .later }
def IocosAfterUptoCardSaid : Prop := Claim7.holds Tryd.pinned (.plain (OpenSpec.upto iocosAfterSpec)) iocosAfterUptoCard

/-- THE SECOND FORM's CARD OF 'gauntletlaw27.IocosConforms'. -/
def iocosConformsUptoCard : Claim7 := { stood := { row := iocosConformsUptoRow, standIns := [], harness := (true, "8b2e3f269e6f206d1ad08b45bd67d9afdece0b776a0f3a225bab8422754a33b9"), looks := false }, kinds := [], alts := [], laidByText := true, laidKinds := [.data], laidTests := true, laidLooks := .later }
def IocosConformsUptoCardSaid : Prop := Claim7.holds Tryd.pinned (.plain (OpenSpec.upto iocosConformsSpec)) iocosConformsUptoCard

/-- THE SECOND FORM's CARD OF 'gauntletlaw27.IocosMake'. -/
def iocosMakeUptoCard : Claim7 := { stood := { row := iocosMakeUptoRow, standIns := [], harness := (true, "8b2e3f269e6f206d1ad08b45bd67d9afdece0b776a0f3a225bab8422754a33b9"), looks := false }, kinds := [], alts := [], laidByText := true, laidKinds := [.data], laidTests := true, laidLooks := .later }
def IocosMakeUptoCardSaid : Prop := Claim7.holds Tryd.pinned (.plain (OpenSpec.upto iocosMakeSpec)) iocosMakeUptoCard

/-- THE SECOND FORM's CARD OF 'gauntletlaw27.IocosVerdict'. -/
def iocosVerdictUptoCard : Claim7 := { stood := { row := iocosVerdictUptoRow, standIns := [], harness := (true, "8b2e3f269e6f206d1ad08b45bd67d9afdece0b776a0f3a225bab8422754a33b9"), looks := false }, kinds := [], alts := [], laidByText := true, laidKinds := [.data], laidTests := true, laidLooks := .later }
def IocosVerdictUptoCardSaid : Prop := Claim7.holds Tryd.pinned (.plain (OpenSpec.upto iocosVerdictSpec)) iocosVerdictUptoCard

/-- THE SECOND FORM's CARD OF 'gauntletlaw27.IocosTests'. -/
def iocosTestsUptoCard : Claim7 := { stood := { row := iocosTestsUptoRow, standIns := [], harness := (true, "8b2e3f269e6f206d1ad08b45bd67d9afdece0b776a0f3a225bab8422754a33b9"), looks := false }, kinds := [], alts := [], laidByText := true, laidKinds := [.data], laidTests := true, laidLooks := .later }
def IocosTestsUptoCardSaid : Prop := Claim7.holds Tryd.pinned (.plain (OpenSpec.upto iocosTestsSpec)) iocosTestsUptoCard

/-- THE SECOND FORM's CARD OF 'gauntletlaw27.IocosErrors'. -/
def iocosErrorsUptoCard : Claim7 := { stood := { row := iocosErrorsUptoRow, standIns := [], harness := (true, "8b2e3f269e6f206d1ad08b45bd67d9afdece0b776a0f3a225bab8422754a33b9"), looks := false }, kinds := [], alts := [], laidByText := true, laidKinds := [.data], laidTests := true, laidLooks := .later }
def IocosErrorsUptoCardSaid : Prop := Claim7.holds Tryd.pinned (.plain (OpenSpec.upto iocosErrorsSpec)) iocosErrorsUptoCard

/-- THE SECOND FORM's CARD OF 'gauntletlaw27.IocosTest'. -/
def iocosTestUptoCard : Claim7 := { stood := { row := iocosTestUptoRow, standIns := [], harness := (true, "8b2e3f269e6f206d1ad08b45bd67d9afdece0b776a0f3a225bab8422754a33b9"), looks := false }, kinds := [], alts := [], laidByText := true, laidKinds := [.data], laidTests := true, laidLooks := .later }
def IocosTestUptoCardSaid : Prop := Claim7.holds Tryd.pinned (.plain (OpenSpec.upto iocosTestSpec)) iocosTestUptoCard

/-- THE SECOND FORM's CARD OF 'gauntletlaw27.IocosKnown'. -/
def iocosKnownUptoCard : Claim7 := { stood := { row := iocosKnownUptoRow, standIns := [], harness := (true, "8b2e3f269e6f206d1ad08b45bd67d9afdece0b776a0f3a225bab8422754a33b9"), looks := false }, kinds := [], alts := [], laidByText := true, laidKinds := [.data], laidTests := true, laidLooks := .later }
def IocosKnownUptoCardSaid : Prop := Claim7.holds Tryd.pinned (.plain (OpenSpec.upto iocosKnownSpec)) iocosKnownUptoCard
end Rows
end Go.Proofs.YtamodjlifpjaoaaDoor
