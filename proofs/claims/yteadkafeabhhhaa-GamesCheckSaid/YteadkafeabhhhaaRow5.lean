/- The row of GamesCheck: for every game the law returns true, and its argument reads as before. -/
import Derived.Test.YteadkafeabhhhaaL5
import Derived.Test.YteadkafeabhhhaaOpenB
namespace Go.Proofs.Yteadkafeabhhhaa
open Go.ChangeShapes Go.WideShapes Go.ChangeAt Go.RowKit
set_option linter.unusedVariables false
set_option linter.unusedSimpArgs false

theorem open_u8s {H : Type} {enc : TypeId × Value → H} {b0 : Nat} {W : World} {v : Value} {d : DataW H} {p : List MemPlace} (hv : Value.okWide Try.prog W .any b0 50 v) (h : DataW.Trod enc Try.prog W 0 (fun _ => true) true 50 v d p) : ∃ (xs : List Nat) (c : Nat), U8sC W v xs c := by
  obtain ⟨a, len, cp, rfl⟩ := okWide_slice Try.underlying50 hv
  obtain ⟨fuel, hf⟩ := h
  obtain ⟨A, zs, cap, e0, hc, hl, hm, hw⟩ := open_intsC Try.underlying50 Try.underlying5 (by kernel_rfl) hf
  have hbd : ∀ x ∈ zs, 0 ≤ x ∧ x ≤ 255 := fun x hx => bounds_u8 (hw x hx)
  have hve : Value.slice a len cp = .slice A zs.length cap := by simpa [Value.cells] using e0
  refine ⟨zs.map Int.toNat, cap, A, by rw [hve]; simp, ?_, by simpa using hl, by simp; omega, fun x hx => ?_⟩
  · rw [List.map_map]
    rw [show zs.map ((fun (x : Nat) => Value.int .u8 (x : Int)) ∘ Int.toNat) = zs.map (.int .u8) from List.map_congr_left (fun z hz => by have := hbd z hz; simp only [Function.comp_apply]; rw [Int.toNat_of_nonneg this.1])]
    exact hc
  · obtain ⟨z, hz, rfl⟩ := List.mem_map.1 hx
    have := hbd z hz; omega

set_option maxRecDepth 100000 in
theorem gamesCheck_lifted (os : Os) (started : os.Started) (H : Type) (enc : TypeId × Value → H) :
    ReturnsInHanded {} Try.checked os 5 .any (Rows.gamesCheckSpec.pre6 enc Try.prog Try.f5 Rows.gamesCheckRow.domain false) (Rows.gamesCheckSpec.post enc Try.prog Try.f5 false true false false) := by
  refine returnsInHanded_of_change (C := Try.checked) Try.own started (by kernel_rfl) Try.func5
    (ChangeSpec.witness6 (enc := enc) (C := Try.checked) false ⟨#[], #[.agg #[.int .u8 0, .int .u8 0, .int .u8 0, .bool false, .slice none 0 0, .int .u8 0, .int .u8 0], .slice none 0 0], []⟩ 8 (by kernel_rfl) (by kernel_rfl) (by kernel_rfl) (by kernel_rfl)) ?_
  intro W base args ds gs before hval0 hW hcnd _
  have hval : ∀ (j : Nat) t v, Try.f5.params[j]? = some t → args[j]? = some v → Value.okWide Try.prog W .any base t v := hval0
  have hW' := hW
  obtain ⟨p, q, hA0, hV, rfl, hfz, hnd⟩ := hW
  have hA : DataW.TrodAll enc Try.prog W 0 (fun _ => true) true Try.f5.params.toList args.toList ds p := hA0
  rw [Try.params5] at hA hval
  obtain ⟨v0, v1, d0, d1, p0, p1, rfl, rfl, rfl, h0, h1⟩ := trodAll_two hA
  obtain ⟨rfl, rfl⟩ := trodVars_none hV
  obtain ⟨⟨r, hr⟩, hlt0⟩ := open_rawG (hval 0 26 v0 rfl rfl) h0
  obtain ⟨ls, cl, hls⟩ := open_u8s (hval 1 50 v1 rfl rfl) h1
  refine (GamesCheck_any W v0 v1 r hr ls cl hls).mono fun e W' ⟨he, hE⟩ => ?_
  subst he
  refine ⟨_, rfl, _, _, _, [], p0 ++ p1, [], hW', ?_, ?_, rfl, ?_, fun h => by simp at h⟩
  · exact trodAll_mk1 (shut_bool Try.underlying4 true)
  · exact trodAll_mk2 (Below.trod Try.laidOut (by kernel_rfl) (of_decide_eq_true (by kernel_rfl)) h0 hE hlt0) (Below.trod Try.laidOut (by kernel_rfl) (of_decide_eq_true (by kernel_rfl)) h1 hE (trod_places h1))
  · exact Below.frame hE _

theorem gamesCheck_holds : Rows.GamesCheckSaid :=
  OpenClaim.holds_of_wide 5 Try.f5 rfl rfl rfl rfl rfl rfl rfl ⟨rfl, rfl, rfl, rfl, rfl⟩ rfl rfl rfl rfl rfl (by kernel_rfl) Try.func5 (by kernel_rfl)
    (of_decide_eq_true (by kernel_rfl)) (by unfold Func.isWrapper; first | (rw [if_pos (by decide +kernel)]; kernel_rfl) | (rw [if_neg (by decide +kernel)]; exact ⟨rfl, rfl⟩))
    (fun os started H enc _ => gamesCheck_lifted os started H enc)
#print axioms gamesCheck_holds
end Go.Proofs.Yteadkafeabhhhaa
