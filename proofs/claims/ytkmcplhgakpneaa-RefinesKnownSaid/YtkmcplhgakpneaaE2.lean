/- refines.Equivalent, refines.Respects. -/
import Derived.Test.YtkmcplhgakpneaaE1
namespace Go.Proofs.Ytkmcplhgakpneaa
open Go.RowKit Go.Maps
set_option linter.unusedVariables false
set_option linter.unusedSimpArgs false
attribute [local go_sem] Oper.quietV quietV Oper.gives givesV ext_refl_iff ext_alloc_iff ext_drew_iff ext_drewN_iff

set_option maxRecDepth 100000 in
theorem Equivalent_bad (w : World) (mv : Value) (m : Mach) (hm : MachV w mv m) (s t : Int) (h0 : checkM m ≠ 0) :
    Calls Try.prog 22 #[mv, .int .i64 s, .int .i64 t] w fun e w' => e = .returned (.tuple #[.bool false, .int .i64 (checkM m)]) ∧ Ext w w' := by
  obtain ⟨rv, c, rfl, hr⟩ := id hm
  go_enter Try.func22, Try.ntmps22
  go_upto_region 1 with fail
  refine wp_named ?_
  intro W1 hW1
  have hE1 : Ext w W1 := by rw [hW1]; exact (Ext.refl _).alloc _
  have k0 : ∀ w', Ext W1 w' → w'.cell? ⟨w.heap.size, 0, none⟩ = some (.int .i64 m.ins) := fun w' h => h.cell (by rw [hW1]; simp [go_sem])
  have k1 : ∀ w', Ext W1 w' → w'.cell? ⟨w.heap.size, 1, none⟩ = some (.int .i64 m.outs) := fun w' h => h.cell (by rw [hW1]; simp [go_sem])
  have k2 : ∀ w', Ext W1 w' → w'.cell? ⟨w.heap.size, 2, none⟩ = some rv := fun w' h => h.cell (by rw [hW1]; simp [go_sem])
  clear hW1
  have hcl := Classes_bad W1 _ m (hm.ext hE1) h0
  go_wp2_with (go_at_call 16; refine hcl.mono ?_; rintro e W2 ⟨rfl, hE2⟩)
  go_ret2
  exact ⟨rfl, hE1.trans hE2⟩

set_option maxRecDepth 100000 in
theorem Equivalent_any (w : World) (mv : Value) (m : Mach) (hm : MachV w mv m) (hV : Valid m) (s t : Int) (M : Nat) (hM6 : M ≤ 1000000) (hstep : ∀ k, k < M → iterL m k ≠ iterL m (k + 1)) (hM : iterL m M = iterL m (M + 1)) :
    Calls Try.prog 22 #[mv, .int .i64 s, .int .i64 t] w fun e w' => (e = .returned (if 0 ≤ s ∧ 0 ≤ t ∧ s < m.rows.length ∧ t < m.rows.length then .tuple #[.bool ((iterL m M).getD s.toNat 0 == (iterL m M).getD t.toNat 0), .int .i64 0] else .tuple #[.bool false, .int .i64 1])) ∧ Ext w w' := by
  obtain ⟨rv, c, rfl, hr⟩ := id hm
  have hl := iterL_length m M
  generalize hR : (if 0 ≤ s ∧ 0 ≤ t ∧ s < m.rows.length ∧ t < m.rows.length then Value.tuple #[.bool ((iterL m M).getD s.toNat 0 == (iterL m M).getD t.toNat 0), .int .i64 0] else .tuple #[.bool false, .int .i64 1]) = R
  go_enter Try.func22, Try.ntmps22
  go_upto_region 1 with fail
  refine wp_named ?_
  intro W1 hW1
  have hE1 : Ext w W1 := by rw [hW1]; exact (Ext.refl _).alloc _
  have k0 : ∀ w', Ext W1 w' → w'.cell? ⟨w.heap.size, 0, none⟩ = some (.int .i64 m.ins) := fun w' h => h.cell (by rw [hW1]; simp [go_sem])
  have k1 : ∀ w', Ext W1 w' → w'.cell? ⟨w.heap.size, 1, none⟩ = some (.int .i64 m.outs) := fun w' h => h.cell (by rw [hW1]; simp [go_sem])
  have k2 : ∀ w', Ext W1 w' → w'.cell? ⟨w.heap.size, 2, none⟩ = some rv := fun w' h => h.cell (by rw [hW1]; simp [go_sem])
  clear hW1
  have hcl := Classes_any W1 _ m (hm.ext hE1) hV M hM6 hstep hM
  generalize hP : iterL m M = P at *
  have HH := Lib.hid (And.intro hP (And.intro hl hR))
  clear hP hl hstep hM hR
  go_upto_region 4 with (go_at_call 16; refine hcl.mono ?_; rintro e W2 ⟨⟨v, rfl, hv⟩, hE2⟩)
  obtain ⟨A, rfl, hcs, _, hpm⟩ := hv
  clear hcl
  have hE12 := hE1.trans hE2
  by_cases hcase : 0 ≤ s ∧ 0 ≤ t ∧ s < m.rows.length ∧ t < m.rows.length
  · obtain ⟨ks, rfl⟩ := Int.eq_ofNat_of_zero_le hcase.1
    obtain ⟨kt, rfl⟩ := Int.eq_ofNat_of_zero_le hcase.2.1
    have hlen := HH.out.2.1
    have hks : ks < P.length := by omega
    have hkt : kt < P.length := by omega
    have hRv := HH.out.2.2
    rw [if_pos hcase, Int.toNat_natCast, Int.toNat_natCast] at hRv
    simp only [List.getD, List.getElem?_eq_getElem hks, List.getElem?_eq_getElem hkt, Option.getD_some] at hRv
    have HR := Lib.hid hRv
    obtain ⟨b, o, rfl, hb, c0⟩ := hcs.at_int hks
    obtain ⟨b', o', hA, hb', c1⟩ := hcs.at_int hkt
    cases hA
    clear hcase hlen hRv HH hb'
    rcases Nat.lt_trichotomy ks kt with hlt | hlt | hlt
    · have hlt2 : ¬ kt < ks := by omega
      go_wp2
      go_quiet (fail)
      go_wp2
      go_ret2
      exact ⟨congrArg Ending.returned HR.out, hE12.drewN _⟩
    · subst hlt
      have hlt2 : ¬ ks < ks := by omega
      go_wp2
      go_quiet (fail)
      go_wp2
      go_ret2
      exact ⟨congrArg Ending.returned (by simpa using HR.out), hE12.drewN _⟩
    · have hlt2 : ¬ ks < kt := by omega
      go_wp2
      go_quiet (fail)
      go_wp2
      go_ret2
      exact ⟨congrArg Ending.returned HR.out, hE12.drewN _⟩
  · have hRv := HH.out.2.2
    rw [if_neg hcase] at hRv
    have HR := Lib.hid hRv
    have HC := Lib.hid (And.intro HH.out.2.1 hcase)
    clear hRv hcase HH
    go_wp2
    all_goals first
      | (exfalso; have := HC.out; omega)
      | (go_ret2; exact ⟨congrArg Ending.returned HR.out, hE12⟩)
end Go.Proofs.Ytkmcplhgakpneaa
