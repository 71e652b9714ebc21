/- The row of RefinesRespects: for every machine and any two partitions the law returns true, and its arguments read as before. -/
import Derived.Test.YtkmcplhgakpneaaR7
import Derived.Test.YtkmcplhgakpneaaRow3
import Derived.Test.YtkmcplhgakpneaaOpen
namespace Go.Proofs.Ytkmcplhgakpneaa
open Go.ChangeShapes Go.WideShapes Go.ChangeAt Go.RowKit
set_option linter.unusedVariables false
set_option linter.unusedSimpArgs false

section
variable {H : Type} {enc : TypeId × Value → H} {W : World}
set_option maxRecDepth 100000 in
theorem open_p {b0 : Nat} {v : Value} {d : DataW H} {p : List MemPlace} (hv : Value.okWide Try.prog W .any b0 58 v) (h : DataW.Trod enc Try.prog W 0 (fun _ => true) true 58 v d p) :
    ∃ (yv : Value) (xs : List Nat) (cx : Nat), v = .agg #[yv] ∧ U8C W yv xs cx := by
  obtain ⟨cs, rfl, hsz⟩ := okWide_struct Try.underlying58 hv
  rw [show Try.prog.cellsOf 58 = 1 by kernel_rfl] at hsz
  obtain ⟨fuel, hf⟩ := h
  obtain ⟨xs, m, _, _, hlen, hxl, hfs⟩ := DataW.trod_struct Try.underlying58 hf
  obtain ⟨l⟩ := cs
  match l, hsz with
  | [c0], _ =>
    have k46 : Try.prog.cellsOf 46 = 1 := by kernel_rfl
    have h0 := hfs 0 _ rfl
    rw [List.getElem?_eq_getElem (show 0 < xs.length by rw [hxl]; decide)] at h0
    simp [k46, Value.cells] at h0
    obtain ⟨A, zs, cap, e0, hc, hl, hm, hw⟩ := open_intsC Try.underlying46 Try.underlying5 (by kernel_rfl) h0
    cases e0
    have hbd : ∀ x ∈ zs, 0 ≤ x ∧ x ≤ 255 := fun x hx => bounds_u8 (hw x hx)
    refine ⟨_, zs.map Int.toNat, cap, rfl, A, by simp, ?_, by simpa using hl, by simp; omega, fun x hx => ?_⟩
    · rw [List.map_map]
      rw [show zs.map ((fun (x : Nat) => Value.int .u8 (x : Int)) ∘ Int.toNat) = zs.map (.int .u8) from List.map_congr_left (fun z hz => by have := hbd z hz; simp only [Function.comp_apply]; rw [Int.toNat_of_nonneg this.1])]
      exact hc
    · obtain ⟨z, hz, rfl⟩ := List.mem_map.1 hx
      have := hbd z hz; omega
end

set_option maxRecDepth 100000 in
theorem refinesRespects_lifted (os : Os) (started : os.Started) (H : Type) (enc : TypeId × Value → H) :
    ReturnsInHanded {} Try.checked os 7 .any (Rows.refinesRespectsSpec.pre6 enc Try.prog Try.f7 Rows.refinesRespectsRow.domain false) (Rows.refinesRespectsSpec.post enc Try.prog Try.f7 false true false false) := by
  refine returnsInHanded_of_change (C := Try.checked) Try.own started (by kernel_rfl) Try.func7
    (ChangeSpec.witness6 (enc := enc) (C := Try.checked) false ⟨#[], #[.agg #[.int .u8 0, .int .u8 0, .int .u8 0, .bool false, .slice none 0 0], .agg #[.slice none 0 0], .agg #[.slice none 0 0]], []⟩ 8 (by kernel_rfl) (by kernel_rfl) (by kernel_rfl) (by kernel_rfl)) ?_
  intro W base args ds gs before hval0 hW hcnd _
  have hval : ∀ (j : Nat) t v, Try.f7.params[j]? = some t → args[j]? = some v → Value.okWide Try.prog W .any base t v := hval0
  have hW' := hW
  obtain ⟨p, q, hA0, hV, rfl, hfz, hnd⟩ := hW
  have hA : DataW.TrodAll enc Try.prog W 0 (fun _ => true) true Try.f7.params.toList args.toList ds p := hA0
  rw [Try.params7] at hA hval
  obtain ⟨v0, v1, v2, d0, d1, d2, p0, p1, p2, rfl, rfl, rfl, h0, h1, h2⟩ := trodAll_three hA
  obtain ⟨rfl, rfl⟩ := trodVars_none hV
  obtain ⟨⟨r, hr⟩, hlt0⟩ := open_raw (hval 0 24 v0 rfl rfl) h0
  obtain ⟨yv, xs, cx, rfl, hy⟩ := open_p (hval 1 58 v1 rfl rfl) h1
  obtain ⟨zv, ys, cy, rfl, hz⟩ := open_p (hval 2 58 v2 rfl rfl) h2
  refine (RefinesRespects_any W v0 r hr yv zv xs ys cx cy hy hz).mono fun e W' ⟨he, hE⟩ => ?_
  subst he
  refine ⟨_, rfl, _, _, _, [], p0 ++ (p1 ++ (p2 ++ [])), [], hW', ?_, ?_, rfl, ?_, fun h => by simp at h⟩
  · exact trodAll_mk1 (shut_bool Try.underlying4 true)
  · exact trodAll_cons_mk (Below.trod Try.laidOut (by kernel_rfl) (of_decide_eq_true (by kernel_rfl)) h0 hE hlt0)
      (trodAll_cons_mk (Below.trod Try.laidOut (by kernel_rfl) (of_decide_eq_true (by kernel_rfl)) h1 hE (trod_places h1))
        (trodAll_cons_mk (Below.trod Try.laidOut (by kernel_rfl) (of_decide_eq_true (by kernel_rfl)) h2 hE (trod_places h2)) rfl))
  · exact Below.frame hE _

theorem refinesRespects_holds : Rows.RefinesRespectsSaid :=
  OpenClaim.holds_of_wide 7 Try.f7 rfl rfl rfl rfl rfl rfl rfl ⟨rfl, rfl, rfl, rfl, rfl⟩ rfl rfl rfl rfl rfl (by kernel_rfl) Try.func7 (by kernel_rfl)
    (of_decide_eq_true (by kernel_rfl)) (by unfold Func.isWrapper; first | (rw [if_pos (by decide +kernel)]; kernel_rfl) | (rw [if_neg (by decide +kernel)]; exact ⟨rfl, rfl⟩))
    (fun os started H enc _ => refinesRespects_lifted os started H enc)
#print axioms refinesRespects_holds
end Go.Proofs.Ytkmcplhgakpneaa
