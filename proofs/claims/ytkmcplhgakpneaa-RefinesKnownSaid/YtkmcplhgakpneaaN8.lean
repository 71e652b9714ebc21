/- gauntletref07.Rounds, gauntletref07.Classes. -/
import Derived.Test.YtkmcplhgakpneaaN2
import Derived.Test.YtkmcplhgakpneaaN7
import Derived.Test.YtkmcplhgakpneaaS5
namespace Go.Proofs.Ytkmcplhgakpneaa
open Go.RowKit Go.Maps
set_option linter.unusedVariables false
set_option linter.unusedSimpArgs false
attribute [local go_sem] Oper.quietV quietV Oper.gives givesV ext_refl_iff ext_alloc_iff ext_drew_iff ext_drewN_iff

set_option maxRecDepth 100000 in
theorem refRounds_any (w : World) (mv : Value) (m : Mach) (hm : MachV w mv m) (hV : Valid m) (k : Nat) (hk : k ≤ 100000) :
    Calls Try.prog 19 #[mv, .int .i64 k] w fun e w' => (∃ u c, e = .returned u ∧ IntsC w' u (iterL m k) c) ∧ Ext w w' := by
  have hm0 := hm
  obtain ⟨rv, c, rfl, hr⟩ := hm
  have hsz := hV.size.2
  have hpm := part_mark hV k
  have HP := Lib.hid hpm
  clear hpm hr
  go_enter Try.func19, Try.ntmps19
  go_upto_region 1 with fail
  refine wp_named ?_
  intro W1 hW1
  have hE1 : Ext w W1 := by rw [hW1]; exact (Ext.refl _).alloc _
  have k0 : W1.cell? ⟨w.heap.size, 0, none⟩ = some (.int .i64 m.ins) := by rw [hW1]; simp [go_sem]
  have k1 : W1.cell? ⟨w.heap.size, 1, none⟩ = some (.int .i64 m.outs) := by rw [hW1]; simp [go_sem]
  have k2 : W1.cell? ⟨w.heap.size, 2, none⟩ = some rv := by rw [hW1]; simp [go_sem]
  clear hW1
  have hmk := marked_any W1 _ m (hm0.ext hE1) hV k hk
  go_wp2_with (first
    | (go_at_call 35; refine hmk.mono ?_; rintro e W2 ⟨⟨u, rfl, hu⟩, hE2⟩)
    | (go_at_call 34; refine (partition_any W2 u _ m.rows.length hu (markM_square m k) (by omega) (fun s t => !matAt (markM m k) (s : Nat) (t : Nat)) (fun _ _ => rfl)).mono ?_; rintro e W3 ⟨⟨u3, c3, rfl, hu3⟩, hE3⟩))
  go_ret
  rw [HP.out] at hu3
  exact ⟨⟨_, _, rfl, hu3⟩, (hE1.trans hE2).trans hE3⟩

set_option maxRecDepth 100000 in
theorem refClasses_any (w : World) (mv : Value) (m : Mach) (hm : MachV w mv m) (hV : Valid m) :
    Calls Try.prog 18 #[mv] w fun e w' => (∃ u c, e = .returned u ∧ IntsC w' u (iterL m m.rows.length) c) ∧ Ext w w' := by
  have hm0 := hm
  obtain ⟨rv, c, rfl, hr⟩ := hm
  have hsz := hV.size.2
  obtain ⟨A, vs0, rfl, _, _, _, _, _⟩ := id hr
  clear hr
  go_enter Try.func18, Try.ntmps18
  go_upto_region 1 with fail
  refine wp_named ?_
  intro W1 hW1
  have hE1 : Ext w W1 := by rw [hW1]; exact (Ext.refl _).alloc _
  have k0 : W1.cell? ⟨w.heap.size, 0, none⟩ = some (.int .i64 m.ins) := by rw [hW1]; simp [go_sem]
  have k1 : W1.cell? ⟨w.heap.size, 1, none⟩ = some (.int .i64 m.outs) := by rw [hW1]; simp [go_sem]
  have k2 : W1.cell? ⟨w.heap.size, 2, none⟩ = some (.slice A m.rows.length c) := by rw [hW1]; simp [go_sem]
  clear hW1
  have hrd := refRounds_any W1 _ m (hm0.ext hE1) hV m.rows.length (by omega)
  go_wp2_with (go_at_call 19; refine hrd.mono ?_; rintro e W2 ⟨⟨u, c2, rfl, hu⟩, hE2⟩)
  go_ret
  exact ⟨⟨_, _, rfl, hu⟩, hE1.trans hE2⟩

theorem list_yes (w : World) (v u : Value) (xs : List Int) (cu : Nat) (e : Int) (hv : FitC w v xs) (hu : IntsC w u xs cu) : Calls Try.prog 17 #[v, .int .i64 e, u, .int .i64 e] w fun r w' => r = .returned (.bool true) ∧ Ext w w' := by
  have := list_any w v u xs xs xs.length cu e e hv hu
  rwa [show listB xs xs.length e xs e = true by simp [listB]] at this
theorem refRounds_int (w : World) (mv : Value) (m : Mach) (hm : MachV w mv m) (hV : Valid m) (x : Int) (k : Nat) (hx : x = k) (hk : k ≤ 100000) :
    Calls Try.prog 19 #[mv, .int .i64 x] w fun e w' => (∃ u c, e = .returned u ∧ IntsC w' u (iterL m k) c) ∧ Ext w w' := by subst hx; exact refRounds_any w mv m hm hV k hk
theorem Rounds_int (w : World) (mv : Value) (m : Mach) (hm : MachV w mv m) (hV : Valid m) (x : Int) (K : Nat) (hx : x = K) (hK : K ≤ 1000000) (M : Nat) (hstep : ∀ k, k < M → iterL m k ≠ iterL m (k + 1)) (hM : iterL m M = iterL m (M + 1)) :
    Calls Try.prog 10 #[mv, .int .i64 x] w fun e w' => (∃ v, e = .returned (.tuple #[v, .int .i64 0]) ∧ FitC w' v (iterL m K)) ∧ Ext w w' := by subst hx; exact Rounds_any w mv m hm hV K hK M hstep hM
theorem same_yes (w : World) (v u : Value) (xs ys : List Int) (ca cb : Nat) (hv : IntsC w v xs ca) (hu : IntsC w u ys cb) (h : xs = ys) : Calls Try.prog 13 #[v, u] w fun e w' => e = .returned (.bool true) ∧ Ext w w' := by
  have := same_any w v u xs ys ca cb hv hu
  rwa [show (xs == ys) = true by simp [h]] at this
theorem same_no (w : World) (v u : Value) (xs ys : List Int) (ca cb : Nat) (hv : IntsC w v xs ca) (hu : IntsC w u ys cb) (h : (xs == ys) = false) : Calls Try.prog 13 #[v, u] w fun e w' => e = .returned (.bool false) ∧ Ext w w' := by
  have := same_any w v u xs ys ca cb hv hu
  rwa [h] at this
end Go.Proofs.Ytkmcplhgakpneaa
