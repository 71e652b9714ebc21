/-
  DERIVED. GIVEN WITH THE SEED: THE CARDS: each row of YtmebgomnmlbgnaaDoorRows.lean that lists a variable, with what it lists TIED to the program's text (the seventh form; the later family's looks); each row that meets fmt, with fmt's text TOLD by the authors' own Lean function (tested against real Go, not proved from fmt's source: count such statements apart). THE CARD IS WHAT COUNTS. Prove the row's statement (the work); the ties are given (YtmebgomnmlbgnaaDoorTie.lean); close each card by the builder's one call (the guide's Derived/Test/ToyasCard.lean, 'card_holds'). Laid BY PROGRAM, IN A SANDBOX (cutbox-door.mjs). By AI agents, Wed Nov 11 2026. No macro, syntax, notation, axiom, sorry.
-/
import Derived.Test.YtmebgomnmlbgnaaDoorRows
import GoSem.ClaimSeven
namespace Go.Proofs.YtmebgomnmlbgnaaDoor
namespace Rows

/-- THE TIED CARD OF 'gauntletlaw24.RegexesDfa'. -/
def regexesDfaCard : Claim7 := { stood := { row := regexesDfaRow, standIns := [], harness := (true, "0da028b32c7fb44089fe93329c5e23dabbd4b44f5ca0d29e32d383a6572f347c"), looks := false }, kinds := [], alts := [], laidByText := true, laidKinds := [.data, .data], laidTests := true, laidLooks := .later }
def RegexesDfaCardSaid : Prop := Claim7.holds Tryd.pinned (.plain (OpenSpec.ofChange regexesDfaSpec)) regexesDfaCard

/-- THE TIED CARD OF 'gauntletlaw24.RegexesDerive'. -/
def regexesDeriveCard : Claim7 := { stood := { row := regexesDeriveRow, standIns := [], harness := (true, "0da028b32c7fb44089fe93329c5e23dabbd4b44f5ca0d29e32d383a6572f347c"), looks := false }, kinds := [], alts := [], laidByText := true, laidKinds := [.data, .data], laidTests := true, laidLooks := .later }
def RegexesDeriveCardSaid : Prop := Claim7.holds Tryd.pinned (.plain (OpenSpec.ofChange regexesDeriveSpec)) regexesDeriveCard

/-- THE TIED CARD OF 'gauntletlaw24.RegexesText'. -/
def regexesTextCard : Claim7 := { stood := { row := regexesTextRow, standIns := [], harness := (true, "0da028b32c7fb44089fe93329c5e23dabbd4b44f5ca0d29e32d383a6572f347c"), looks := false }, kinds := [], alts := [], laidByText := true, laidKinds := [.data, .data], laidTests := true, laidLooks := .later }
def RegexesTextCardSaid : Prop := Claim7.holds Tryd.pinned (.plain (OpenSpec.ofChange regexesTextSpec)) regexesTextCard

/-- THE TIED CARD OF 'gauntletlaw24.RegexesParse'. -/
def regexesParseCard : Claim7 := { stood := { row := regexesParseRow, standIns := [], harness := (true, "0da028b32c7fb44089fe93329c5e23dabbd4b44f5ca0d29e32d383a6572f347c"), looks := false }, kinds := [], alts := [], laidByText := true, laidKinds := [.data, .data], laidTests := true, laidLooks := .later }
def RegexesParseCardSaid : Prop := Claim7.holds Tryd.pinned (.plain (OpenSpec.ofChange regexesParseSpec)) regexesParseCard

/-- THE TIED CARD OF 'gauntletlaw24.RegexesEqual'. -/
def regexesEqualCard : Claim7 := { stood := { row := regexesEqualRow, standIns := [], harness := (true, "0da028b32c7fb44089fe93329c5e23dabbd4b44f5ca0d29e32d383a6572f347c"), looks := false }, kinds := [], alts := [], laidByText := true, laidKinds := [.data, .data], laidTests := true, laidLooks := .later }
def RegexesEqualCardSaid : Prop := Claim7.holds Tryd.pinned (.plain (OpenSpec.ofChange regexesEqualSpec)) regexesEqualCard

/-- THE TIED CARD OF 'gauntletlaw24.RegexesErrors'. -/
def regexesErrorsCard : Claim7 := { stood := { row := regexesErrorsRow, standIns := [], harness := (true, "0da028b32c7fb44089fe93329c5e23dabbd4b44f5ca0d29e32d383a6572f347c"), looks := false }, kinds := [], alts := [], laidByText := true, laidKinds := [.data, .data], laidTests := true, laidLooks := .later }
def RegexesErrorsCardSaid : Prop := Claim7.holds Tryd.pinned (.plain (OpenSpec.ofChange regexesErrorsSpec)) regexesErrorsCard

/-- THE TIED CARD OF 'gauntletlaw24.RegexesKnown'. -/
def regexesKnownCard : Claim7 := { stood := { row := regexesKnownRow, standIns := [], harness := (true, "0da028b32c7fb44089fe93329c5e23dabbd4b44f5ca0d29e32d383a6572f347c"), looks := false }, kinds := [], alts := [], laidByText := true, laidKinds := [.data, .data], laidTests := true, laidLooks := .later }
def RegexesKnownCardSaid : Prop := Claim7.holds Tryd.pinned (.plain (OpenSpec.ofChange regexesKnownSpec)) regexesKnownCard

/-- THE TIED CARD OF 'gauntletlaw24.RegexesMatches'. -/
def regexesMatchesCard : Claim7 := { stood := { row := regexesMatchesRow, standIns := [], harness := (true, "0da028b32c7fb44089fe93329c5e23dabbd4b44f5ca0d29e32d383a6572f347c"), looks := false }, kinds := [], alts := [], laidByText := true, laidKinds := [.data, .data], laidTests := true, laidLooks := .later }
def RegexesMatchesCardSaid : Prop := Claim7.holds Tryd.pinned (.plain (OpenSpec.ofChange regexesMatchesSpec)) regexesMatchesCard

/-- THE SECOND FORM's CARD OF 'gauntletlaw24.RegexesDfa'. -/
def regexesDfaUptoCard : Claim7 := { stood := { row := regexesDfaUptoRow, standIns := [], harness := (true, "0da028b32c7fb44089fe93329c5e23dabbd4b44f5ca0d29e32d383a6572f347c"), looks := false }, kinds := [], alts := [], laidByText := true, laidKinds := [.data, .data], laidTests := true, laidLooks := .later }
def RegexesDfaUptoCardSaid : Prop := Claim7.holds Tryd.pinned (.plain (OpenSpec.upto regexesDfaSpec)) regexesDfaUptoCard

/-- THE SECOND FORM's CARD OF 'gauntletlaw24.RegexesDerive'. -/
def regexesDeriveUptoCard : Claim7 := { stood := { row := regexesDeriveUptoRow, standIns := [], harness := (true, "0da028b32c7fb44089fe93329c5e23dabbd4b44f5ca0d29e32d383a6572f347c"), looks := false }, kinds := [], alts := [], laidByText := true, laidKinds := [.data, .data], laidTests := true, laidLooks := .later }
def RegexesDeriveUptoCardSaid : Prop := Claim7.holds Tryd.pinned (.plain (OpenSpec.upto regexesDeriveSpec)) regexesDeriveUptoCard

/-- THE SECOND FORM's CARD OF 'gauntletlaw24.RegexesText'. -/
def regexesTextUptoCard : Claim7 := { stood := { row := regexesTextUptoRow, standIns := [], harness := (true, "0da028b32c7fb44089fe93329c5e23dabbd4b44f5ca0d29e32d383a6572f347c"), looks := false }, kinds := [], alts := [], laidByText := true, laidKinds := [.data, .data], laidTests := true, laidLooks := .later }
def RegexesTextUptoCardSaid : Prop := Claim7.holds Tryd.pinned (.plain (OpenSpec.upto regexesTextSpec)) regexesTextUptoCard

/-- THE SECOND FORM's CARD OF 'gauntletlaw24.RegexesParse'. -/
def regexesParseUptoCard : Claim7 := { stood := { row := regexesParseUptoRow, standIns := [], harness := (true, "0da028b32c7fb44089fe93329c5e23dabbd4b44f5ca0d29e32d383a6572f347c"), looks := false }, kinds := [], alts := [], laidByText := true, laidKinds := [.data, .data], laidTests := true, laidLooks := .later }
def RegexesParseUptoCardSaid : Prop := Claim7.holds Tryd.pinned (.plain (OpenSpec.upto regexesParseSpec)) regexesParseUptoCard

/-- THE SECOND FORM's CARD OF 'gauntletlaw24.RegexesEqual'. -/
def regexesEqualUptoCard : Claim7 := { stood := { row := regexesEqualUptoRow, standIns := [], harness := (true, "0da028b32c7fb44089fe93329c5e23dabbd4b44f5ca0d29e32d383a6572f347c"), looks := false }, kinds := [], alts := [], laidByText := true, laidKinds := [.data, .data], laidTests := true, laidLooks := .later }
def RegexesEqualUptoCardSaid : Prop := Claim7.holds Tryd.pinned (.plain (OpenSpec.upto regexesEqualSpec)) regexesEqualUptoCard

/-- THE SECOND FORM's CARD OF 'gauntletlaw24.RegexesErrors'. -/
def regexesErrorsUptoCard : Claim7 := { stood := { row := regexesErrorsUptoRow, standIns := [], harness := (true, "0da028b32c7fb44089fe93329c5e23dabbd4b44f5ca0d29e32d383a6572f347c"), looks := false }, kinds := [], alts := [], laidByText := true, laidKinds := [.data, .data], laidTests := true, laidLooks := .later }
def RegexesErrorsUptoCardSaid : Prop := Claim7.holds Tryd.pinned (.plain (OpenSpec.upto regexesErrorsSpec)) regexesErrorsUptoCard

/-- THE SECOND FORM's CARD OF 'gauntletlaw24.RegexesKnown'. -/
def regexesKnownUptoCard : Claim7 := { stood := { row := regexesKnownUptoRow, standIns := [], harness := (true, "0da028b32c7fb44089fe93329c5e23dabbd4b44f5ca0d29e32d383a6572f347c"), looks := false }, kinds := [], alts := [], laidByText := true, laidKinds := [.data, .data], laidTests := true, laidLooks := .later }
def RegexesKnownUptoCardSaid : Prop := Claim7.holds Tryd.pinned (.plain (OpenSpec.upto regexesKnownSpec)) regexesKnownUptoCard

/-- THE SECOND FORM's CARD OF 'gauntletlaw24.RegexesMatches'. -/
def regexesMatchesUptoCard : Claim7 := { stood := { row := regexesMatchesUptoRow, standIns := [], harness := (true, "0da028b32c7fb44089fe93329c5e23dabbd4b44f5ca0d29e32d383a6572f347c"), looks := false }, kinds := [], alts := [], laidByText := true, laidKinds := [.data, .data], laidTests := true, laidLooks := .later }
def RegexesMatchesUptoCardSaid : Prop := Claim7.holds Tryd.pinned (.plain (OpenSpec.upto regexesMatchesSpec)) regexesMatchesUptoCard
end Rows
end Go.Proofs.YtmebgomnmlbgnaaDoor
