/- The card of ExtendsUnfold: for every V and every word the law returns true, and its arguments read as before. The table of operations holds what the program's text gives it. -/
import Derived.Test.YtggffdkgfgdaoaaDoorGO
import Derived.Test.YtggffdkgfgdaoaaDoorD5
import Derived.Test.YtggffdkgfgdaoaaDoorTie
import Derived.Test.YtggffdkgfgdaoaaDoorCards
import Derived.SevenTiedAt
namespace Go.Proofs.YtggffdkgfgdaoaaDoor
open Go.ChangeShapes Go.WideShapes Go.ChangeAt Go.RowKit
set_option linter.unusedVariables false
set_option linter.unusedSimpArgs false
theorem Tryd.laidOut : laidOutB Tryd.prog = true := by kernel_rfl
theorem extendsUnfold_door (os : Os) (args : Array Value) : laidMetH Tryd.prog Rows.extendsUnfoldRow.laid ((World.doorLaid Tryd.prog 38 os).forCall (fun _ _ => 0) ⟨#[], args, []⟩).memory :=
  laidMetH_of_parts3 (fuel := 8) (laidMet_of_run' 8 (by kernel_rfl) (by kernel_rfl)) (by kernel_rfl) (by kernel_rfl)
set_option maxRecDepth 100000 in
theorem extendsUnfold_lifted (os : Os) (started : os.Started) (H : Type) (enc : TypeId × Value → H) :
    ReturnsInHanded {} Tryd.checked os 5 .any (fun w args => (Rows.extendsUnfoldSpec.pre enc Tryd.prog Tryd.f5 [] false w args ∧ laidMetH Tryd.prog Rows.extendsUnfoldRow.laid w) ∧ sizedMet enc Tryd.prog Tryd.f5 (OpenSpec.ofChange Rows.extendsUnfoldSpec) false w args)
      (Rows.extendsUnfoldSpec.post enc Tryd.prog Tryd.f5 false true false false) := by
  refine returnsInHanded_of_change_and (C := Tryd.checked) (X := fun w _ => laidMetH Tryd.prog Rows.extendsUnfoldRow.laid w) (fun _ _ _ hh h => h.of_heap hh) Tryd.own started (by kernel_rfl) Tryd.func5
    (ChangeSpec.witness_shaped (enc := enc) (C := Tryd.checked) (os := os) (X := fun w _ => laidMetH Tryd.prog Rows.extendsUnfoldRow.laid w) false (World.doorLaid Tryd.prog 38 os) #[.agg #[.int .u8 0, .int .u8 0, .int .u8 0, .slice none 0 0], .slice none 0 0] 8 rfl (World.shaped_of_RefB (by kernel_rfl) (by kernel_rfl)) (by kernel_rfl) (by kernel_rfl) (by kernel_rfl) (extendsUnfold_door os _)) ?_
  intro W base args ds gs before hval0 hW _ _ hL _
  have hval : ∀ (j : Nat) t v, Tryd.f5.params[j]? = some t → args[j]? = some v → Value.okWide Tryd.prog W .any base t v := hval0
  have hW' := hW
  obtain ⟨p, q, hA0, hV, rfl, hfz, hnd⟩ := hW
  have hA : DataW.TrodAll enc Tryd.prog W 0 (fun _ => true) true Tryd.f5.params.toList args.toList ds p := hA0
  rw [Tryd.params5] at hA hval
  obtain ⟨v0, v1, d0, d1, p0, p1, rfl, rfl, rfl, h0, h1⟩ := trodAll_two hA
  obtain ⟨rfl, rfl⟩ := trodVars_none hV
  obtain ⟨r0, hr0⟩ := open_v (hval 0 25 v0 rfl rfl) h0
  obtain ⟨xs1, c1, hx1⟩ := open_u8s (hval 1 44 v1 rfl rfl) h1
  have hT := tab_of_laid hL
  refine (ExtendsUnfold_any W v0 r0 v1 xs1 c1 hr0 hx1 hT).mono fun e W' ⟨he, hE⟩ => ?_
  subst he
  refine ⟨_, rfl, _, _, _, [], p0 ++ p1, [], hW', ?_, ?_, rfl, ?_, fun h => by simp at h⟩
  · exact trodAll_mk1 (shut_bool Tryd.underlying4 true)
  · exact trodAll_mk2 (Below.trod Tryd.laidOut (by kernel_rfl) (of_decide_eq_true (by kernel_rfl)) h0 hE (trod_places h0)) (Below.trod Tryd.laidOut (by kernel_rfl) (of_decide_eq_true (by kernel_rfl)) h1 hE (trod_places h1))
  · exact Below.frame hE _
theorem extendsUnfold_holds : Rows.ExtendsUnfoldSaid :=
  OpenClaim.holds_of_wide 5 Tryd.f5 rfl rfl rfl rfl rfl rfl rfl ⟨rfl, rfl, rfl, rfl, rfl⟩ rfl rfl rfl rfl rfl (by kernel_rfl) Tryd.func5 (by kernel_rfl)
    (of_decide_eq_true (by kernel_rfl)) (by unfold Func.isWrapper; first | (rw [if_pos (by decide +kernel)]; kernel_rfl) | (rw [if_neg (by decide +kernel)]; exact ⟨rfl, rfl⟩))
    (fun os started H enc _ => extendsUnfold_lifted os started H enc)
theorem extendsUnfold_card : Rows.ExtendsUnfoldCardSaid :=
  Claim7.holds_tied_plain_at .later [] [.funcs] true (true, "af1d0c5dc23b6d370c768f436b3b2afa0252feca6225f5c33f5e5ceb22fdb1de") false
    extendsUnfold_holds (fun _ h => by cases h) (by kernel_rfl) (fun _ h => by cases h) extendsUnfold_row_tie rfl ⟨rfl, rfl⟩ (by kernel_rfl) rfl
    (fun f fn hf hfn => by
      obtain rfl : f = 5 := Option.some.inj ((show Tryd.prog.funcNamed "gauntlet/gauntletlaw29.ExtendsUnfold" = some 5 by kernel_rfl).symm.trans hf) |>.symm
      obtain rfl : fn = Tryd.f5 := (Option.some.inj (Tryd.func5.symm.trans hfn)).symm
      exact ⟨by kernel_rfl, fun j t ht => by
        rw [Tryd.params5] at ht
        have hm : t ∈ [25, 44] := by simpa using Array.mem_of_getElem? ht
        have hall : ([25, 44].all fun u => !Tryd.prog.wantsStandIn u) = true := by kernel_rfl
        exact (show Tryd.prog.wantsStandIn t = false by simpa using List.all_eq_true.1 hall t hm)⟩)
    (by kernel_rfl)
#print axioms extendsUnfold_card
end Go.Proofs.YtggffdkgfgdaoaaDoor
