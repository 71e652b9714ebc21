/- refines.Respects. -/
import Derived.Test.YtkmcplhgakpneaaE2
namespace Go.Proofs.Ytkmcplhgakpneaa
open Go.RowKit Go.Maps
set_option linter.unusedVariables false
set_option linter.unusedSimpArgs false
attribute [local go_sem] Oper.quietV quietV Oper.gives givesV ext_refl_iff ext_alloc_iff ext_drew_iff ext_drewN_iff

theorem canonFrom_bound : ∀ (p : List Int) (n : Int), canonFrom n p = true → ∀ x ∈ p, 0 ≤ x ∧ x ≤ n + p.length
  | [], _, _ => by simp
  | b :: r, n, h => by
    simp only [canonFrom, Bool.and_eq_true, decide_eq_true_eq] at h
    intro x hx
    simp only [List.length_cons]
    rcases List.mem_cons.1 hx with rfl | hx
    · omega
    · have := canonFrom_bound r _ h.2 x hx
      split at this <;> omega
theorem canon_wf {p : List Int} (h : checkP p = 0) : ∀ x ∈ p, wfI x := by
  intro x hx
  unfold checkP at h
  split at h
  · simp at h
  · split at h
    · rename_i h1 h2
      have := canonFrom_bound p 0 h2 x hx
      exact WalkArith.wf_i64 (by omega)
    · simp at h

def respectsR (m : Mach) (p : List Int) : Bool × Int :=
  if checkM m ≠ 0 then (false, checkM m) else if checkP p ≠ 0 then (false, checkP p) else if p.length ≠ m.rows.length then (false, 16) else (refinedL m p == p, 0)

set_option maxRecDepth 100000 in
theorem Respects_any (w : World) (mv pv : Value) (m : Mach) (hm : MachV w mv m) (p : List Int) (cp : Nat) (hp : IntsC w pv p cp) :
    Calls Try.prog 24 #[mv, pv] w fun e w' => e = .returned (.tuple #[.bool (respectsR m p).1, .int .i64 (respectsR m p).2]) ∧ Ext w w' := by
  obtain ⟨rv, c, rfl, hr⟩ := id hm
  obtain ⟨Ap, rfl, hcp, hpc, hpm⟩ := id hp
  obtain ⟨Ar, vs, rfl, hcr, hvs, hrr, hrc, hrm⟩ := id hr
  generalize hR : (Value.tuple #[.bool (respectsR m p).1, .int .i64 (respectsR m p).2]) = R
  go_enter Try.func24, Try.ntmps24
  go_upto_region 1 with fail
  refine wp_named ?_
  intro W1 hW1
  have hE1 : Ext w W1 := by rw [hW1]; exact (Ext.refl _).alloc _
  have k0 : ∀ w', Ext W1 w' → w'.cell? ⟨w.heap.size, 0, none⟩ = some (.int .i64 m.ins) := fun w' h => h.cell (by rw [hW1]; simp [go_sem])
  have k1 : ∀ w', Ext W1 w' → w'.cell? ⟨w.heap.size, 1, none⟩ = some (.int .i64 m.outs) := fun w' h => h.cell (by rw [hW1]; simp [go_sem])
  have k2 : ∀ w', Ext W1 w' → w'.cell? ⟨w.heap.size, 2, none⟩ = some (.slice Ar m.rows.length c) := fun w' h => h.cell (by rw [hW1]; simp [go_sem])
  clear hW1
  have hck := check_any W1 _ m (hm.ext hE1)
  by_cases h0 : checkM m = 0
  · have hV := (valid_iff m).1 h0
    rw [h0] at hck
    have hRR := hR
    simp only [respectsR, h0, ne_eq, not_true_eq_false, if_false] at hRR
    have HR := Lib.hid hRR
    clear hR hRR
    go_upto_region 4 with (go_at_call 30; refine hck.mono ?_; rintro e W2 ⟨rfl, hE2⟩)
    have hE12 := hE1.trans hE2
    have hcp2 := classesCheck_any W2 _ p cp (hp.ext hE12)
    by_cases h1 : checkP p = 0
    · rw [h1] at hcp2
      have hRR := HR.out
      simp only [h1, ne_eq, not_true_eq_false, if_false] at hRR
      have HR2 := Lib.hid hRR
      clear hRR HR
      go_upto_region 7 with (go_at_call 36; refine hcp2.mono ?_; rintro e W3 ⟨rfl, hE3⟩)
      have hE13 := hE12.trans hE3
      have hE23 := hE2.trans hE3
      by_cases h2 : p.length = m.rows.length
      · have hRR := HR2.out
        rw [if_neg (by omega)] at hRR
        have HR3 := Lib.hid hRR
        have hrf := refined_any W3 _ _ m (hm.ext hE13) hV p cp (hp.ext hE13) h2 (canon_wf h1)
        have h2' : ((p.length : Int) != (m.rows.length : Int)) = false := by simp [h2]
        clear hRR HR2 h2
        go_wp2_with (first
          | (go_at_call 38; refine hrf.mono ?_; rintro e W4 ⟨⟨u, rfl, hu, -⟩, hE4⟩)
          | (go_at_call 37; refine (equal_any W4 _ _ _ _ _ _ hu (hp.ext (hE13.trans hE4))).mono ?_; rintro e W5 ⟨rfl, hE5⟩))
        go_ret2
        exact ⟨congrArg Ending.returned HR3.out, (hE13.trans hE4).trans hE5⟩
      · have hRR := HR2.out
        rw [if_pos h2] at hRR
        have HR3 := Lib.hid hRR
        have h2' : ((p.length : Int) != (m.rows.length : Int)) = true := by simp; omega
        clear hRR HR2
        go_wp2
        go_ret2
        exact ⟨congrArg Ending.returned HR3.out, hE13⟩
    · have hRR := HR.out
      rw [if_pos h1] at hRR
      have HR2 := Lib.hid hRR
      have h1' : (checkP p != 0) = true := by simp [h1]
      clear hRR HR
      go_wp2_with (go_at_call 36; refine hcp2.mono ?_; rintro e W3 ⟨rfl, hE3⟩)
      go_ret2
      exact ⟨congrArg Ending.returned HR2.out, hE12.trans hE3⟩
  · have hRR := hR
    simp only [respectsR, ne_eq, h0, not_false_eq_true, if_true] at hRR
    have HR := Lib.hid hRR
    have h0' : (checkM m != 0) = true := by simp [h0]
    clear hR hRR
    go_wp2_with (go_at_call 30; refine hck.mono ?_; rintro e W2 ⟨rfl, hE2⟩)
    go_ret2
    exact ⟨congrArg Ending.returned HR.out, hE1.trans hE2⟩
end Go.Proofs.Ytkmcplhgakpneaa
