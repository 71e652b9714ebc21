/-
  No cell of these rows narrows 'for every input' (looked for: loops, veiled, ifaces, maps, wideKeys, modest, calm, conditions, laid).
  DERIVED. THE GIVEN ROWS OF THIS SEAT. 6 by the template 'for every input the law returns true; each argument reads behind the call as it read before'; 0 by the template 'total and deterministic' (their statements: YteadkafeabhhhaaTotals.lean).
  GIVEN WITH THE SEED: the statements are not yours to turn. If you find one false, say at which input.
  Laid BY PROGRAM, IN A SANDBOX (cutbox-rows.mjs): the forced cells as the released guide's own fill.sh prints them over the translation 1291345362adbc82… (all of the seat's roots in one cut). By AI agents, Wed Nov 11 2026. No macro, syntax, notation, axiom, sorry.
-/
import Derived.Test.YteadkafeabhhhaaChecked
import GoSem.Claim
import GoSem.ClaimJoined
import GoSem.ClaimMapViews
import Derived.JoinedTies
import Derived.KernelRfl
namespace Go.Proofs.Yteadkafeabhhhaa
/- THE CELL 'sum', in the pinned program and in every row, IS THE sha256 OF THE DUMP (.gsa) THAT YteadkafeabhhhaaProg.lean LOADS. Nothing in Lean hashes anything: it is a label: what it is worth is what the hold of that sum in a sandbox is worth. -/
noncomputable def Try.pinned : Pinned := { name := "yteadkafeabhhhaa", sum := "1291345362adbc8263cf7c439c99a02e7123d56abd1900d82727e0175a804de5", checked := Try.checked }
namespace Rows
def none {H : Type} : Left H := { results := [], args := [] }

/-- 'gauntletlaw32.GamesTurns': WHATEVER THE INPUT: true; the input reads as it did. -/
def gamesTurnsSpec : ChangeSpec := { name := "gamesTurns", fn := fun _ => fun
  | [d] => { results := [.lit (.bool true)], args := [d] }
  | _ => none }
def gamesTurnsRow : OpenClaim := { program := "yteadkafeabhhhaa", sum := "1291345362adbc8263cf7c439c99a02e7123d56abd1900d82727e0175a804de5", func := "gauntlet/gauntletlaw32.GamesTurns", spec := "gamesTurns", unfollowed := true, recurses := true, apart := false }
def GamesTurnsSaid : Prop := gamesTurnsRow.holds Try.pinned (OpenSpec.ofChange gamesTurnsSpec)

/-- ITS FALSE NEIGHBOUR: 'it returns false'. Refute it at one input. -/
def gamesTurnsWrong : ChangeSpec := { name := "gamesTurns", fn := fun _ => fun
  | [d] => { results := [.lit (.bool false)], args := [d] }
  | _ => none }
def GamesTurnsWrongFalsely : Prop := gamesTurnsRow.holds Try.pinned (OpenSpec.ofChange gamesTurnsWrong)

/-- 'gauntletlaw32.GamesStrategies': WHATEVER THE INPUT: true; the input reads as it did. -/
def gamesStrategiesSpec : ChangeSpec := { name := "gamesStrategies", fn := fun _ => fun
  | [d] => { results := [.lit (.bool true)], args := [d] }
  | _ => none }
def gamesStrategiesRow : OpenClaim := { program := "yteadkafeabhhhaa", sum := "1291345362adbc8263cf7c439c99a02e7123d56abd1900d82727e0175a804de5", func := "gauntlet/gauntletlaw32.GamesStrategies", spec := "gamesStrategies", unfollowed := true, recurses := true, apart := false }
def GamesStrategiesSaid : Prop := gamesStrategiesRow.holds Try.pinned (OpenSpec.ofChange gamesStrategiesSpec)

/-- ITS FALSE NEIGHBOUR: 'it returns false'. Refute it at one input. -/
def gamesStrategiesWrong : ChangeSpec := { name := "gamesStrategies", fn := fun _ => fun
  | [d] => { results := [.lit (.bool false)], args := [d] }
  | _ => none }
def GamesStrategiesWrongFalsely : Prop := gamesStrategiesRow.holds Try.pinned (OpenSpec.ofChange gamesStrategiesWrong)

/-- 'gauntletlaw32.GamesCheck': WHATEVER THE INPUT: true; the input reads as it did. -/
def gamesCheckSpec : ChangeSpec := { name := "gamesCheck", fn := fun _ => fun
  | [d1, d2] => { results := [.lit (.bool true)], args := [d1, d2] }
  | _ => none }
def gamesCheckRow : OpenClaim := { program := "yteadkafeabhhhaa", sum := "1291345362adbc8263cf7c439c99a02e7123d56abd1900d82727e0175a804de5", func := "gauntlet/gauntletlaw32.GamesCheck", spec := "gamesCheck", unfollowed := true, recurses := true, apart := false }
def GamesCheckSaid : Prop := gamesCheckRow.holds Try.pinned (OpenSpec.ofChange gamesCheckSpec)

/-- ITS FALSE NEIGHBOUR: 'it returns false'. Refute it at one input. -/
def gamesCheckWrong : ChangeSpec := { name := "gamesCheck", fn := fun _ => fun
  | [d1, d2] => { results := [.lit (.bool false)], args := [d1, d2] }
  | _ => none }
def GamesCheckWrongFalsely : Prop := gamesCheckRow.holds Try.pinned (OpenSpec.ofChange gamesCheckWrong)

/-- 'gauntletlaw32.GamesSupervisor': WHATEVER THE INPUT: true; the input reads as it did. -/
def gamesSupervisorSpec : ChangeSpec := { name := "gamesSupervisor", fn := fun _ => fun
  | [d1, d2] => { results := [.lit (.bool true)], args := [d1, d2] }
  | _ => none }
def gamesSupervisorRow : OpenClaim := { program := "yteadkafeabhhhaa", sum := "1291345362adbc8263cf7c439c99a02e7123d56abd1900d82727e0175a804de5", func := "gauntlet/gauntletlaw32.GamesSupervisor", spec := "gamesSupervisor", unfollowed := true, recurses := true, apart := false }
def GamesSupervisorSaid : Prop := gamesSupervisorRow.holds Try.pinned (OpenSpec.ofChange gamesSupervisorSpec)

/-- ITS FALSE NEIGHBOUR: 'it returns false'. Refute it at one input. -/
def gamesSupervisorWrong : ChangeSpec := { name := "gamesSupervisor", fn := fun _ => fun
  | [d1, d2] => { results := [.lit (.bool false)], args := [d1, d2] }
  | _ => none }
def GamesSupervisorWrongFalsely : Prop := gamesSupervisorRow.holds Try.pinned (OpenSpec.ofChange gamesSupervisorWrong)

/-- 'gauntletlaw32.GamesErrors': WHATEVER THE INPUT: true; the input reads as it did. -/
def gamesErrorsSpec : ChangeSpec := { name := "gamesErrors", fn := fun _ => fun
  | [d1, d2, d3] => { results := [.lit (.bool true)], args := [d1, d2, d3] }
  | _ => none }
def gamesErrorsRow : OpenClaim := { program := "yteadkafeabhhhaa", sum := "1291345362adbc8263cf7c439c99a02e7123d56abd1900d82727e0175a804de5", func := "gauntlet/gauntletlaw32.GamesErrors", spec := "gamesErrors", unfollowed := true, recurses := true, apart := false }
def GamesErrorsSaid : Prop := gamesErrorsRow.holds Try.pinned (OpenSpec.ofChange gamesErrorsSpec)

/-- ITS FALSE NEIGHBOUR: 'it returns false'. Refute it at one input. -/
def gamesErrorsWrong : ChangeSpec := { name := "gamesErrors", fn := fun _ => fun
  | [d1, d2, d3] => { results := [.lit (.bool false)], args := [d1, d2, d3] }
  | _ => none }
def GamesErrorsWrongFalsely : Prop := gamesErrorsRow.holds Try.pinned (OpenSpec.ofChange gamesErrorsWrong)

/-- 'gauntletlaw32.GamesKnown': WHATEVER THE INPUT: true; the input reads as it did. -/
def gamesKnownSpec : ChangeSpec := { name := "gamesKnown", fn := fun _ => fun
  | [] => { results := [.lit (.bool true)], args := [] }
  | _ => none }
def gamesKnownRow : OpenClaim := { program := "yteadkafeabhhhaa", sum := "1291345362adbc8263cf7c439c99a02e7123d56abd1900d82727e0175a804de5", func := "gauntlet/gauntletlaw32.GamesKnown", spec := "gamesKnown", unfollowed := true, recurses := true, apart := false }
def GamesKnownSaid : Prop := gamesKnownRow.holds Try.pinned (OpenSpec.ofChange gamesKnownSpec)

/-- ITS FALSE NEIGHBOUR: 'it returns false'. Refute it at one input. -/
def gamesKnownWrong : ChangeSpec := { name := "gamesKnown", fn := fun _ => fun
  | [] => { results := [.lit (.bool false)], args := [] }
  | _ => none }
def GamesKnownWrongFalsely : Prop := gamesKnownRow.holds Try.pinned (OpenSpec.ofChange gamesKnownWrong)

/- THE SECOND FORM. 'bulk': how many values and letters a reading holds, each counted each time it is reached (what is shared counts as often as it is met; a slice's spare places count too). A statement '..UptoSaid' is the law's where the arguments, and the package variables that the reading takes, are together of bulk at most 1048576: NARROWER than '..Said'. Prove '..Said' where nothing that the law and all that it calls make is longer than what came in: it says more and counts as full. Else prove '..UptoSaid'. A law counts once. -/
mutual
def uptoBulk {H : Type} : DataW H → Nat
  | .lit (.string bytes) => bytes.length + 1
  | .lit _ => 1
  | .nil => 1
  | .ptr d => uptoBulk d + 1
  | .slice elems spare => uptoBulkAll elems + uptoBulkAll spare + 1
  | .agg parts => uptoBulkAll parts + 1
  | .iface _ d => uptoBulk d + 1
  | .map entries => uptoBulkEntries entries + 1
  | .held _ => 1
def uptoBulkAll {H : Type} : List (DataW H) → Nat
  | [] => 0
  | d :: r => uptoBulk d + uptoBulkAll r
def uptoBulkEntries {H : Type} : List (Lit × DataW H) → Nat
  | [] => 0
  | x :: r => uptoBulkEntry x + uptoBulkEntries r
def uptoBulkEntry {H : Type} : Lit × DataW H → Nat
  | (.string bytes, d) => bytes.length + uptoBulk d + 1
  | (_, d) => uptoBulk d + 1
 end
def uptoSmall : (H : Type) → List (DataW H) → Bool := fun _ ds => decide (uptoBulkAll ds ≤ 1048576)
def OpenSpec.upto (s : _root_.Go.ChangeSpec) : _root_.Go.OpenSpec := { _root_.Go.OpenSpec.ofChange s with cond := some uptoSmall }

/-- 'gauntletlaw32.GamesTurns', WHERE WHAT IT READS IS OF BULK AT MOST 1048576: true; the input reads as it did. -/
def gamesTurnsUptoRow : OpenClaim := { program := "yteadkafeabhhhaa", sum := "1291345362adbc8263cf7c439c99a02e7123d56abd1900d82727e0175a804de5", func := "gauntlet/gauntletlaw32.GamesTurns", spec := "gamesTurns", unfollowed := true, recurses := true, apart := false, narrowed := true }
def GamesTurnsUptoSaid : Prop := gamesTurnsUptoRow.holds Try.pinned (OpenSpec.upto gamesTurnsSpec)

/-- 'gauntletlaw32.GamesStrategies', WHERE WHAT IT READS IS OF BULK AT MOST 1048576: true; the input reads as it did. -/
def gamesStrategiesUptoRow : OpenClaim := { program := "yteadkafeabhhhaa", sum := "1291345362adbc8263cf7c439c99a02e7123d56abd1900d82727e0175a804de5", func := "gauntlet/gauntletlaw32.GamesStrategies", spec := "gamesStrategies", unfollowed := true, recurses := true, apart := false, narrowed := true }
def GamesStrategiesUptoSaid : Prop := gamesStrategiesUptoRow.holds Try.pinned (OpenSpec.upto gamesStrategiesSpec)

/-- 'gauntletlaw32.GamesCheck', WHERE WHAT IT READS IS OF BULK AT MOST 1048576: true; the input reads as it did. -/
def gamesCheckUptoRow : OpenClaim := { program := "yteadkafeabhhhaa", sum := "1291345362adbc8263cf7c439c99a02e7123d56abd1900d82727e0175a804de5", func := "gauntlet/gauntletlaw32.GamesCheck", spec := "gamesCheck", unfollowed := true, recurses := true, apart := false, narrowed := true }
def GamesCheckUptoSaid : Prop := gamesCheckUptoRow.holds Try.pinned (OpenSpec.upto gamesCheckSpec)

/-- 'gauntletlaw32.GamesSupervisor', WHERE WHAT IT READS IS OF BULK AT MOST 1048576: true; the input reads as it did. -/
def gamesSupervisorUptoRow : OpenClaim := { program := "yteadkafeabhhhaa", sum := "1291345362adbc8263cf7c439c99a02e7123d56abd1900d82727e0175a804de5", func := "gauntlet/gauntletlaw32.GamesSupervisor", spec := "gamesSupervisor", unfollowed := true, recurses := true, apart := false, narrowed := true }
def GamesSupervisorUptoSaid : Prop := gamesSupervisorUptoRow.holds Try.pinned (OpenSpec.upto gamesSupervisorSpec)

/-- 'gauntletlaw32.GamesErrors', WHERE WHAT IT READS IS OF BULK AT MOST 1048576: true; the input reads as it did. -/
def gamesErrorsUptoRow : OpenClaim := { program := "yteadkafeabhhhaa", sum := "1291345362adbc8263cf7c439c99a02e7123d56abd1900d82727e0175a804de5", func := "gauntlet/gauntletlaw32.GamesErrors", spec := "gamesErrors", unfollowed := true, recurses := true, apart := false, narrowed := true }
def GamesErrorsUptoSaid : Prop := gamesErrorsUptoRow.holds Try.pinned (OpenSpec.upto gamesErrorsSpec)

/-- 'gauntletlaw32.GamesKnown', WHERE WHAT IT READS IS OF BULK AT MOST 1048576: true; the input reads as it did. -/
def gamesKnownUptoRow : OpenClaim := { program := "yteadkafeabhhhaa", sum := "1291345362adbc8263cf7c439c99a02e7123d56abd1900d82727e0175a804de5", func := "gauntlet/gauntletlaw32.GamesKnown", spec := "gamesKnown", unfollowed := true, recurses := true, apart := false, narrowed := true }
def GamesKnownUptoSaid : Prop := gamesKnownUptoRow.holds Try.pinned (OpenSpec.upto gamesKnownSpec)

end Rows
end Go.Proofs.Yteadkafeabhhhaa
