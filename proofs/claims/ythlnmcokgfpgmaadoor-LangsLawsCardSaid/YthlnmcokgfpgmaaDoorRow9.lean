/- The card of LangsLaws: for any two automata and a length the law returns true, and its arguments read as before. The listed variables hold the functions that the program's text gives them. -/
import Derived.Test.YthlnmcokgfpgmaaDoorZM
import Derived.Test.YthlnmcokgfpgmaaDoorYD
import Derived.Test.YthlnmcokgfpgmaaDoorTie
import Derived.Test.YthlnmcokgfpgmaaDoorCards
import Derived.SevenTiedAt
namespace Go.Proofs.YthlnmcokgfpgmaaDoor
open Go.ChangeShapes Go.WideShapes Go.ChangeAt Go.RowKit
set_option linter.unusedVariables false
set_option linter.unusedSimpArgs false
theorem Tryd.laidOut : laidOutB Tryd.prog = true := by kernel_rfl
theorem langsLaws_met {W : World} (h : laidMetH Tryd.prog Rows.langsLawsRow.laid W) : GlobM W ∧ GlobC W ∧ GlobU W :=
  ⟨of_func (g := 0) (f0 := 93) h (by unfold Rows.langsLawsRow; exact List.mem_cons_of_mem _ (List.mem_cons_of_mem _ (List.mem_cons_self))) (by kernel_rfl) (by kernel_rfl) (by kernel_rfl),
   of_func (g := 2) (f0 := 95) h (by unfold Rows.langsLawsRow; exact List.mem_cons_of_mem _ (List.mem_cons_self)) (by kernel_rfl) (by kernel_rfl) (by kernel_rfl),
   of_func (g := 1) (f0 := 94) h (by unfold Rows.langsLawsRow; exact List.mem_cons_self) (by kernel_rfl) (by kernel_rfl) (by kernel_rfl)⟩
theorem langsLaws_door (os : Os) (args : Array Value) : laidMetH Tryd.prog Rows.langsLawsRow.laid ((World.doorLaid Tryd.prog 24 os).forCall (fun _ _ => 0) ⟨#[], args, []⟩).memory :=
  laidMetH_of_parts3 (fuel := 8) (laidMet_of_run' 8 (by kernel_rfl) (by kernel_rfl)) (by kernel_rfl) (by kernel_rfl)
set_option maxRecDepth 100000 in
theorem langsLaws_lifted (os : Os) (started : os.Started) (H : Type) (enc : TypeId × Value → H) :
    ReturnsInHanded {} Tryd.checked os 9 .any (fun w args => (Rows.langsLawsSpec.pre enc Tryd.prog Tryd.f9 [] false w args ∧ laidMetH Tryd.prog Rows.langsLawsRow.laid w) ∧ sizedMet enc Tryd.prog Tryd.f9 (OpenSpec.ofChange Rows.langsLawsSpec) false w args)
      (Rows.langsLawsSpec.post enc Tryd.prog Tryd.f9 false true false false) := by
  refine returnsInHanded_of_change_and (C := Tryd.checked) (X := fun w _ => laidMetH Tryd.prog Rows.langsLawsRow.laid w) (fun _ _ _ hh h => h.of_heap hh) Tryd.own started (by kernel_rfl) Tryd.func9
    (ChangeSpec.witness_shaped (enc := enc) (C := Tryd.checked) (os := os) (X := fun w _ => laidMetH Tryd.prog Rows.langsLawsRow.laid w) false (World.doorLaid Tryd.prog 24 os) #[.agg #[.int .u8 0, .int .u8 0, .slice none 0 0, .int .u8 0, .int .u8 0], .agg #[.int .u8 0, .int .u8 0, .slice none 0 0, .int .u8 0, .int .u8 0], .int .u8 0] 8 rfl (World.shaped_of_RefB (by kernel_rfl) (by kernel_rfl)) (by kernel_rfl) (by kernel_rfl) (by kernel_rfl) (langsLaws_door os _)) ?_
  intro W base args ds gs before hval0 hW _ _ hL _
  have hval : ∀ (j : Nat) t v, Tryd.f9.params[j]? = some t → args[j]? = some v → Value.okWide Tryd.prog W .any base t v := hval0
  have hW' := hW
  obtain ⟨p, q, hA0, hV, rfl, hfz, hnd⟩ := hW
  have hA : DataW.TrodAll enc Tryd.prog W 0 (fun _ => true) true Tryd.f9.params.toList args.toList ds p := hA0
  rw [Tryd.params9] at hA hval
  obtain ⟨v0, v1, v2, d0, d1, d2, p0, p1, p2, rfl, rfl, rfl, h0, h1, h2⟩ := trodAll_three hA
  obtain ⟨rfl, rfl⟩ := trodVars_none hV
  obtain ⟨r0, hr0⟩ := open_rawN (hval 0 24 v0 rfl rfl) h0
  obtain ⟨r1, hr1⟩ := open_rawN (hval 1 24 v1 rfl rfl) h1
  obtain ⟨m2, rfl, rfl, rfl, w2⟩ := open_int Tryd.underlying5 (hval 2 5 v2 rfl rfl) h2
  obtain ⟨n2, rfl, hn2⟩ := u8_nat w2
  obtain ⟨hgm, hgc, hgu⟩ := langsLaws_met hL
  refine (LangsLaws_any W v0 v1 r0 r1 n2 hr0 hr1 hn2 hgm hgc hgu).mono fun e W' ⟨he, hE⟩ => ?_
  subst he
  refine ⟨_, rfl, _, _, _, [], p0 ++ (p1 ++ []), [], hW', ?_, ?_, rfl, ?_, fun h => by simp at h⟩
  · exact trodAll_mk1 (shut_bool Tryd.underlying4 true)
  · exact trodAll_mk3 (Below.trod Tryd.laidOut (by kernel_rfl) (of_decide_eq_true (by kernel_rfl)) h0 hE (trod_places h0)) (Below.trod Tryd.laidOut (by kernel_rfl) (of_decide_eq_true (by kernel_rfl)) h1 hE (trod_places h1)) (shut_int Tryd.underlying5 w2)
  · exact Below.frame hE _
theorem langsLaws_holds : Rows.LangsLawsSaid :=
  OpenClaim.holds_of_wide 9 Tryd.f9 rfl rfl rfl rfl rfl rfl rfl ⟨rfl, rfl, rfl, rfl, rfl⟩ rfl rfl rfl rfl rfl (by kernel_rfl) Tryd.func9 (by kernel_rfl)
    (of_decide_eq_true (by kernel_rfl)) (by unfold Func.isWrapper; first | (rw [if_pos (by decide +kernel)]; kernel_rfl) | (rw [if_neg (by decide +kernel)]; exact ⟨rfl, rfl⟩))
    (fun os started H enc _ => langsLaws_lifted os started H enc)
theorem langsLaws_card : Rows.LangsLawsCardSaid :=
  Claim7.holds_tied_plain_at .later [] [.funcs, .funcs, .funcs] true (true, "110267b9e24e0654143a3acc3950e620ab725be1aa77c7fad623e96d1d1776a8") false
    langsLaws_holds (fun _ h => by cases h) (by kernel_rfl) (fun _ h => by cases h) langsLaws_row_tie rfl ⟨rfl, rfl⟩ (by kernel_rfl) rfl
    (fun f fn hf hfn => by
      obtain rfl : f = 9 := Option.some.inj ((show Tryd.prog.funcNamed "gauntlet/gauntletlaw25.LangsLaws" = some 9 by kernel_rfl).symm.trans hf) |>.symm
      obtain rfl : fn = Tryd.f9 := (Option.some.inj (Tryd.func9.symm.trans hfn)).symm
      exact ⟨by kernel_rfl, fun j t ht => by
        rw [Tryd.params9] at ht
        have hm : t ∈ [24, 24, 5] := by simpa using Array.mem_of_getElem? ht
        have hall : ([24, 24, 5].all fun u => !Tryd.prog.wantsStandIn u) = true := by kernel_rfl
        exact (show Tryd.prog.wantsStandIn t = false by simpa using List.all_eq_true.1 hall t hm)⟩)
    (by kernel_rfl)
#print axioms langsLaws_card
end Go.Proofs.YthlnmcokgfpgmaaDoor
