/-
  DERIVED. GIVEN WITH THE SEED: THE PROGRAM's TIES (one call each: nine closed facts by the kernel) AND EACH ROW's TIE, after the 31st guide's Derived/Test/Toyas{Tie, Card}.lean. No idea stands in it: it is a product of the set-up. Laid BY PROGRAM, IN A SANDBOX (cutbox-door.mjs). By AI agents, Wed Nov 11 2026. No macro, syntax, notation, axiom, sorry.
-/
import Derived.Test.YthlnmcokgfpgmaaDoorRows
import Derived.LaidByTextLater
import Derived.SevenTiedAt
import Derived.LaidSub
import Derived.LaidOnce
namespace Go.Proofs.YthlnmcokgfpgmaaDoor
open Go
set_option maxRecDepth 100000
theorem seatTie1 : Tryd.prog.laidByTextLater [("gauntlet/langs.union", Rows.laid_gauntlet_langs_union), ("gauntlet/langs.common", Rows.laid_gauntlet_langs_common), ("gauntlet/langs.minus", Rows.laid_gauntlet_langs_minus)] [.funcs, .funcs, .funcs] true :=
  Program.laidByTextLater_by_one 24 8 2 (by kernel_rfl) (by kernel_rfl) (by kernel_rfl) (by kernel_rfl) (by kernel_rfl) (by kernel_rfl) (fun _ _ => by kernel_rfl)
theorem noOwnUnsafe : Tryd.pinned.checked.prog.headLifts.contains "ownunsafe" = false := by kernel_rfl
theorem tie : Tryd.prog.laidByTextLater [("gauntlet/langs.common", Rows.laid_gauntlet_langs_common), ("gauntlet/langs.minus", Rows.laid_gauntlet_langs_minus)] [.funcs, .funcs] true :=
  Program.laidByTextLater.sub seatTie1 ["gauntlet/langs.common", "gauntlet/langs.minus"] (by kernel_rfl) (by kernel_rfl)
theorem langsLeast_row_tie : Rows.langsLeastRow.laidByTextAt .later Tryd.pinned [.funcs, .funcs] true :=
  OpenClaim.laidByTextAt_later rfl rfl tie noOwnUnsafe
theorem langsCount_row_tie : Rows.langsCountRow.laidByTextAt .later Tryd.pinned [.funcs, .funcs] true :=
  OpenClaim.laidByTextAt_later rfl rfl tie noOwnUnsafe
theorem langsNth_row_tie : Rows.langsNthRow.laidByTextAt .later Tryd.pinned [.funcs, .funcs] true :=
  OpenClaim.laidByTextAt_later rfl rfl tie noOwnUnsafe
theorem langsRank_row_tie : Rows.langsRankRow.laidByTextAt .later Tryd.pinned [.funcs, .funcs] true :=
  OpenClaim.laidByTextAt_later rfl rfl tie noOwnUnsafe
theorem langsInclusion_row_tie : Rows.langsInclusionRow.laidByTextAt .later Tryd.pinned [.funcs, .funcs] true :=
  OpenClaim.laidByTextAt_later rfl rfl tie noOwnUnsafe
theorem tie2 : Tryd.prog.laidByTextLater [("gauntlet/langs.union", Rows.laid_gauntlet_langs_union), ("gauntlet/langs.common", Rows.laid_gauntlet_langs_common), ("gauntlet/langs.minus", Rows.laid_gauntlet_langs_minus)] [.funcs, .funcs, .funcs] true :=
  Program.laidByTextLater.sub seatTie1 ["gauntlet/langs.union", "gauntlet/langs.common", "gauntlet/langs.minus"] (by kernel_rfl) (by kernel_rfl)
theorem langsSets_row_tie : Rows.langsSetsRow.laidByTextAt .later Tryd.pinned [.funcs, .funcs, .funcs] true :=
  OpenClaim.laidByTextAt_later rfl rfl tie2 noOwnUnsafe
theorem langsLaws_row_tie : Rows.langsLawsRow.laidByTextAt .later Tryd.pinned [.funcs, .funcs, .funcs] true :=
  OpenClaim.laidByTextAt_later rfl rfl tie2 noOwnUnsafe
theorem langsErrors_row_tie : Rows.langsErrorsRow.laidByTextAt .later Tryd.pinned [.funcs, .funcs, .funcs] true :=
  OpenClaim.laidByTextAt_later rfl rfl tie2 noOwnUnsafe
theorem langsKnown_row_tie : Rows.langsKnownRow.laidByTextAt .later Tryd.pinned [.funcs, .funcs, .funcs] true :=
  OpenClaim.laidByTextAt_later rfl rfl tie2 noOwnUnsafe
theorem langsLeastUpto_row_tie : Rows.langsLeastUptoRow.laidByTextAt .later Tryd.pinned [.funcs, .funcs] true :=
  OpenClaim.laidByTextAt_later rfl rfl tie noOwnUnsafe
theorem langsCountUpto_row_tie : Rows.langsCountUptoRow.laidByTextAt .later Tryd.pinned [.funcs, .funcs] true :=
  OpenClaim.laidByTextAt_later rfl rfl tie noOwnUnsafe
theorem langsNthUpto_row_tie : Rows.langsNthUptoRow.laidByTextAt .later Tryd.pinned [.funcs, .funcs] true :=
  OpenClaim.laidByTextAt_later rfl rfl tie noOwnUnsafe
theorem langsRankUpto_row_tie : Rows.langsRankUptoRow.laidByTextAt .later Tryd.pinned [.funcs, .funcs] true :=
  OpenClaim.laidByTextAt_later rfl rfl tie noOwnUnsafe
theorem langsInclusionUpto_row_tie : Rows.langsInclusionUptoRow.laidByTextAt .later Tryd.pinned [.funcs, .funcs] true :=
  OpenClaim.laidByTextAt_later rfl rfl tie noOwnUnsafe
theorem langsSetsUpto_row_tie : Rows.langsSetsUptoRow.laidByTextAt .later Tryd.pinned [.funcs, .funcs, .funcs] true :=
  OpenClaim.laidByTextAt_later rfl rfl tie2 noOwnUnsafe
theorem langsLawsUpto_row_tie : Rows.langsLawsUptoRow.laidByTextAt .later Tryd.pinned [.funcs, .funcs, .funcs] true :=
  OpenClaim.laidByTextAt_later rfl rfl tie2 noOwnUnsafe
theorem langsErrorsUpto_row_tie : Rows.langsErrorsUptoRow.laidByTextAt .later Tryd.pinned [.funcs, .funcs, .funcs] true :=
  OpenClaim.laidByTextAt_later rfl rfl tie2 noOwnUnsafe
theorem langsKnownUpto_row_tie : Rows.langsKnownUptoRow.laidByTextAt .later Tryd.pinned [.funcs, .funcs, .funcs] true :=
  OpenClaim.laidByTextAt_later rfl rfl tie2 noOwnUnsafe
end Go.Proofs.YthlnmcokgfpgmaaDoor
