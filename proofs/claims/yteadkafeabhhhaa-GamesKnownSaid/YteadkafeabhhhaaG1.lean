/- Games: their check, lists held against one another, safe states and ranks. -/
import Derived.Test.YteadkafeabhhhaaB2
namespace Go.Proofs.Yteadkafeabhhhaa
open Go.RowKit
set_option linter.unusedVariables false
set_option linter.unusedSimpArgs false
attribute [local go_sem] Oper.quietV quietV Oper.gives givesV ext_refl_iff ext_alloc_iff ext_drew_iff ext_drewN_iff

structure Game where
  m : Mach
  ours : List Bool
  set : List Bool
def GameV (w : World) (v : Value) (g : Game) : Prop := ∃ rv cr ov co sv cs, v = .agg #[.int .i64 g.m.ins, .int .i64 g.m.outs, rv, ov, sv] ∧ RowsC w rv g.m.rows cr ∧ BoolsC w ov g.ours co ∧ BoolsC w sv g.set cs
theorem GameV.ext {w w' : World} {v : Value} {g : Game} (h : GameV w v g) (e : Ext w w') : GameV w' v g := by
  obtain ⟨rv, cr, ov, co, sv, cs, hv, h1, h2, h3⟩ := h
  exact ⟨rv, cr, ov, co, sv, cs, hv, h1.ext e, h2.ext e, h3.ext e⟩


def cnt16 (g : Game) : Int := if g.ours.length = g.m.rows.length ∧ g.set.length = g.m.rows.length then 0 else 16
def checkG (g : Game) : Int := if checkM g.m ≠ 0 then checkM g.m else cnt16 g

set_option maxHeartbeats 2000000 in
theorem refCheck_any (w : World) (gv : Value) (g : Game) (hg : GameV w gv g) : Calls Try.prog 28 #[gv] w fun e w' => e = .returned (.int .i64 (cnt16 g)) ∧ Ext w w' := by
  obtain ⟨rv, cr, ov, co, sv, cs, rfl, hr, ho, hs⟩ := hg
  obtain ⟨Ar, vr, rfl, _, _, _, _, hrm⟩ := id hr
  obtain ⟨Ao, rfl, hoc, _, hom⟩ := id ho
  obtain ⟨As, rfl, hsc, _, hsm⟩ := id hs
  unfold lenMax at hrm hom hsm
  go_enter Try.func28, Try.ntmps28
  go_upto_region 1 with fail
  refine wp_named ?_
  intro W1 hW1
  have hE1 : Ext w W1 := by rw [hW1]; exact (Ext.refl _).alloc _
  have k0 : ∀ w', Ext W1 w' → w'.cell? ⟨w.heap.size, 0, none⟩ = some (.int .i64 g.m.ins) := fun w' h => h.cell (by rw [hW1]; simp [go_sem])
  have k1 : ∀ w', Ext W1 w' → w'.cell? ⟨w.heap.size, 1, none⟩ = some (.int .i64 g.m.outs) := fun w' h => h.cell (by rw [hW1]; simp [go_sem])
  have k2 : ∀ w', Ext W1 w' → w'.cell? ⟨w.heap.size, 2, none⟩ = some (.slice Ar g.m.rows.length cr) := fun w' h => h.cell (by rw [hW1]; simp [go_sem])
  have k3 : ∀ w', Ext W1 w' → w'.cell? ⟨w.heap.size, 3, none⟩ = some (.slice Ao g.ours.length co) := fun w' h => h.cell (by rw [hW1]; simp [go_sem])
  have k4 : ∀ w', Ext W1 w' → w'.cell? ⟨w.heap.size, 4, none⟩ = some (.slice As g.set.length cs) := fun w' h => h.cell (by rw [hW1]; simp [go_sem])
  clear hW1
  have hE0 := Ext.refl W1
  by_cases h1 : g.ours.length = g.m.rows.length
  · have h1' : ((g.ours.length : Int) != (g.m.rows.length : Int)) = false := by simp [h1]
    by_cases h2 : g.set.length = g.m.rows.length
    · have h2' : ((g.set.length : Int) != (g.m.rows.length : Int)) = false := by simp [h2]
      have hc : Hid (cnt16 g = 0) := if_pos ⟨h1, h2⟩
      clear h1 h2
      go_wp2
      go_ret
      exact ⟨by rw [hc.out]; rfl, hE1⟩
    · have h2' : ((g.set.length : Int) != (g.m.rows.length : Int)) = true := by simp; omega
      have hc : Hid (cnt16 g = 16) := if_neg (fun h => h2 h.2)
      clear h1 h2
      go_wp2
      go_ret
      exact ⟨by rw [hc.out]; rfl, hE1⟩
  · have h1' : ((g.ours.length : Int) != (g.m.rows.length : Int)) = true := by simp; omega
    have hc : Hid (cnt16 g = 16) := if_neg (fun h => h1 h.1)
    clear h1
    go_wp2
    go_ret
    exact ⟨by rw [hc.out]; rfl, hE1⟩

set_option maxHeartbeats 2000000 in
theorem gcheck_any (w : World) (gv : Value) (g : Game) (hg : GameV w gv g) : Calls Try.prog 29 #[gv] w fun e w' => e = .returned (.int .i64 (checkG g)) ∧ Ext w w' := by
  obtain ⟨rv, cr, ov, co, sv, cs, rfl, hr, ho, hs⟩ := hg
  obtain ⟨Ar, vr, rfl, _, _, _, _, hrm⟩ := id hr
  obtain ⟨Ao, rfl, hoc, _, hom⟩ := id ho
  obtain ⟨As, rfl, hsc, _, hsm⟩ := id hs
  unfold lenMax at hrm hom hsm
  go_enter Try.func29, Try.ntmps29
  go_upto_region 1 with fail
  refine wp_named ?_
  intro W1 hW1
  have hE1 : Ext w W1 := by rw [hW1]; exact (Ext.refl _).alloc _
  have k0 : ∀ w', Ext W1 w' → w'.cell? ⟨w.heap.size, 0, none⟩ = some (.int .i64 g.m.ins) := fun w' h => h.cell (by rw [hW1]; simp [go_sem])
  have k1 : ∀ w', Ext W1 w' → w'.cell? ⟨w.heap.size, 1, none⟩ = some (.int .i64 g.m.outs) := fun w' h => h.cell (by rw [hW1]; simp [go_sem])
  have k2 : ∀ w', Ext W1 w' → w'.cell? ⟨w.heap.size, 2, none⟩ = some (.slice Ar g.m.rows.length cr) := fun w' h => h.cell (by rw [hW1]; simp [go_sem])
  have k3 : ∀ w', Ext W1 w' → w'.cell? ⟨w.heap.size, 3, none⟩ = some (.slice Ao g.ours.length co) := fun w' h => h.cell (by rw [hW1]; simp [go_sem])
  have k4 : ∀ w', Ext W1 w' → w'.cell? ⟨w.heap.size, 4, none⟩ = some (.slice As g.set.length cs) := fun w' h => h.cell (by rw [hW1]; simp [go_sem])
  clear hW1
  have hE0 := Ext.refl W1
  have hm := check_any W1 (.agg #[.int .i64 g.m.ins, .int .i64 g.m.outs, .slice Ar g.m.rows.length cr]) g.m ⟨_, cr, rfl, hr.ext hE1⟩
  go_wp2_with fail
  refine hm.mono ?_
  rintro e w2 ⟨rfl, hE2⟩
  by_cases hz : checkM g.m = 0
  · have hz' : (checkM g.m != 0) = false := by simp [hz]
    have HZ : Hid (checkG g = cnt16 g) := if_neg (fun h => h hz)
    clear hz hm
    by_cases h1 : g.ours.length = g.m.rows.length
    · have h1' : ((g.ours.length : Int) != (g.m.rows.length : Int)) = false := by simp [h1]
      by_cases h2 : g.set.length = g.m.rows.length
      · have h2' : ((g.set.length : Int) != (g.m.rows.length : Int)) = false := by simp [h2]
        have hc : Hid (cnt16 g = 0) := if_pos ⟨h1, h2⟩
        clear h1 h2
        go_wp2
        go_ret
        exact ⟨by rw [HZ.out, hc.out]; rfl, hE1.trans hE2⟩
      · have h2' : ((g.set.length : Int) != (g.m.rows.length : Int)) = true := by simp; omega
        have hc : Hid (cnt16 g = 16) := if_neg (fun h => h2 h.2)
        clear h1 h2
        go_wp2
        go_ret
        exact ⟨by rw [HZ.out, hc.out]; rfl, hE1.trans hE2⟩
    · have h1' : ((g.ours.length : Int) != (g.m.rows.length : Int)) = true := by simp; omega
      have hc : Hid (cnt16 g = 16) := if_neg (fun h => h1 h.1)
      clear h1
      go_wp2
      go_ret
      exact ⟨by rw [HZ.out, hc.out]; rfl, hE1.trans hE2⟩
  · have hz' : (checkM g.m != 0) = true := by simpa using hz
    have HZ : Hid (checkG g = checkM g.m) := if_pos hz
    clear hz hm
    go_wp2
    go_ret
    exact ⟨by rw [HZ.out]; rfl, hE1.trans hE2⟩
end Go.Proofs.Yteadkafeabhhhaa
