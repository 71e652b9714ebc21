/- The card of LangsKnown: for no argument the law returns true, and its arguments read as before. The listed variables hold the functions that the program's text gives them. -/
import Derived.Test.YthlnmcokgfpgmaaDoorZM
import Derived.Test.YthlnmcokgfpgmaaDoorZZ
import Derived.Test.YthlnmcokgfpgmaaDoorTie
import Derived.Test.YthlnmcokgfpgmaaDoorCards
import Derived.SevenTiedAt
namespace Go.Proofs.YthlnmcokgfpgmaaDoor
open Go.ChangeShapes Go.WideShapes Go.ChangeAt Go.RowKit
set_option linter.unusedVariables false
set_option linter.unusedSimpArgs false
theorem Tryd.laidOut : laidOutB Tryd.prog = true := by kernel_rfl
theorem langsKnown_met {W : World} (h : laidMetH Tryd.prog Rows.langsKnownRow.laid W) : GlobM W ∧ GlobC W ∧ GlobU W :=
  ⟨of_func (g := 0) (f0 := 93) h (by unfold Rows.langsKnownRow; exact List.mem_cons_of_mem _ (List.mem_cons_of_mem _ (List.mem_cons_self))) (by kernel_rfl) (by kernel_rfl) (by kernel_rfl),
   of_func (g := 2) (f0 := 95) h (by unfold Rows.langsKnownRow; exact List.mem_cons_of_mem _ (List.mem_cons_self)) (by kernel_rfl) (by kernel_rfl) (by kernel_rfl),
   of_func (g := 1) (f0 := 94) h (by unfold Rows.langsKnownRow; exact List.mem_cons_self) (by kernel_rfl) (by kernel_rfl) (by kernel_rfl)⟩
theorem langsKnown_door (os : Os) (args : Array Value) : laidMetH Tryd.prog Rows.langsKnownRow.laid ((World.doorLaid Tryd.prog 24 os).forCall (fun _ _ => 0) ⟨#[], args, []⟩).memory :=
  laidMetH_of_parts3 (fuel := 8) (laidMet_of_run' 8 (by kernel_rfl) (by kernel_rfl)) (by kernel_rfl) (by kernel_rfl)
set_option maxRecDepth 100000 in
theorem langsKnown_lifted (os : Os) (started : os.Started) (H : Type) (enc : TypeId × Value → H) :
    ReturnsInHanded {} Tryd.checked os 11 .any (fun w args => (Rows.langsKnownSpec.pre enc Tryd.prog Tryd.f11 [] false w args ∧ laidMetH Tryd.prog Rows.langsKnownRow.laid w) ∧ sizedMet enc Tryd.prog Tryd.f11 (OpenSpec.ofChange Rows.langsKnownSpec) false w args)
      (Rows.langsKnownSpec.post enc Tryd.prog Tryd.f11 false true false false) := by
  refine returnsInHanded_of_change_and (C := Tryd.checked) (X := fun w _ => laidMetH Tryd.prog Rows.langsKnownRow.laid w) (fun _ _ _ hh h => h.of_heap hh) Tryd.own started (by kernel_rfl) Tryd.func11
    (ChangeSpec.witness_shaped (enc := enc) (C := Tryd.checked) (os := os) (X := fun w _ => laidMetH Tryd.prog Rows.langsKnownRow.laid w) false (World.doorLaid Tryd.prog 24 os) #[] 8 rfl (World.shaped_of_RefB (by kernel_rfl) (by kernel_rfl)) (by kernel_rfl) (by kernel_rfl) (by kernel_rfl) (langsKnown_door os _)) ?_
  intro W base args ds gs before hval0 hW _ _ hL _
  have hval : ∀ (j : Nat) t v, Tryd.f11.params[j]? = some t → args[j]? = some v → Value.okWide Tryd.prog W .any base t v := hval0
  have hW' := hW
  obtain ⟨p, q, hA0, hV, rfl, hfz, hnd⟩ := hW
  have hA : DataW.TrodAll enc Tryd.prog W 0 (fun _ => true) true Tryd.f11.params.toList args.toList ds p := hA0
  rw [Tryd.params11] at hA hval
  obtain ⟨rfl, rfl, rfl⟩ := trodAll_none hA
  obtain ⟨rfl, rfl⟩ := trodVars_none hV
  obtain ⟨hgm, hgc, hgu⟩ := langsKnown_met hL
  refine (LangsKnown_any W hgm hgc hgu).mono fun e W' ⟨he, hE⟩ => ?_
  subst he
  refine ⟨_, rfl, _, _, _, [], [], [], hW', ?_, ?_, rfl, ?_, fun h => by simp at h⟩
  · exact trodAll_mk1 (shut_bool Tryd.underlying4 true)
  · exact trodAll_mk0 
  · exact Below.frame hE _
theorem langsKnown_holds : Rows.LangsKnownSaid :=
  OpenClaim.holds_of_wide 11 Tryd.f11 rfl rfl rfl rfl rfl rfl rfl ⟨rfl, rfl, rfl, rfl, rfl⟩ rfl rfl rfl rfl rfl (by kernel_rfl) Tryd.func11 (by kernel_rfl)
    (of_decide_eq_true (by kernel_rfl)) (by unfold Func.isWrapper; first | (rw [if_pos (by decide +kernel)]; kernel_rfl) | (rw [if_neg (by decide +kernel)]; exact ⟨rfl, rfl⟩))
    (fun os started H enc _ => langsKnown_lifted os started H enc)
theorem langsKnown_card : Rows.LangsKnownCardSaid :=
  Claim7.holds_tied_plain_at .later [] [.funcs, .funcs, .funcs] true (true, "110267b9e24e0654143a3acc3950e620ab725be1aa77c7fad623e96d1d1776a8") false
    langsKnown_holds (fun _ h => by cases h) (by kernel_rfl) (fun _ h => by cases h) langsKnown_row_tie rfl ⟨rfl, rfl⟩ (by kernel_rfl) rfl
    (fun f fn hf hfn => by
      obtain rfl : f = 11 := Option.some.inj ((show Tryd.prog.funcNamed "gauntlet/gauntletlaw25.LangsKnown" = some 11 by kernel_rfl).symm.trans hf) |>.symm
      obtain rfl : fn = Tryd.f11 := (Option.some.inj (Tryd.func11.symm.trans hfn)).symm
      exact ⟨by kernel_rfl, fun j t ht => by
        rw [Tryd.params11] at ht
        simp at ht⟩)
    (by kernel_rfl)
#print axioms langsKnown_card
end Go.Proofs.YthlnmcokgfpgmaaDoor
