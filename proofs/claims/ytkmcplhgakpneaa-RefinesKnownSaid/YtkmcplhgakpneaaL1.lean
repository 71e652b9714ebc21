/- gauntletlaw07.lives. -/
import Derived.Test.YtkmcplhgakpneaaE3
import Derived.Test.YtkmcplhgakpneaaM1
import Derived.Test.YtkmcplhgakpneaaC1
namespace Go.Proofs.Ytkmcplhgakpneaa
open Go.RowKit Go.Maps
set_option linter.unusedVariables false
set_option linter.unusedSimpArgs false
attribute [local go_sem] Oper.quietV quietV Oper.gives givesV ext_refl_iff ext_alloc_iff ext_drew_iff ext_drewN_iff

/-- The machine of the chapter's examples. -/
def m0 : Mach := ⟨2, 2, [[(1, 0), (2, 0)], [(1, 0), (3, 0)], [(2, 0), (0, 1)], [(3, 0), (1, 1)]]⟩
theorem m0_check : checkM m0 = 0 := by decide +kernel
theorem m0_valid : Valid m0 := (valid_iff m0).1 m0_check
theorem m0_0 : iterL m0 0 = [0, 0, 0, 0] := by decide +kernel
theorem m0_1 : iterL m0 1 = [0, 0, 1, 1] := by decide +kernel
theorem m0_2 : iterL m0 2 = [0, 0, 1, 1] := by decide +kernel
theorem m0_5 : iterL m0 5 = [0, 0, 1, 1] := by decide +kernel
theorem m0_step : ∀ k, k < 1 → iterL m0 k ≠ iterL m0 (k + 1) := by
  intro k hk
  have : k = 0 := by omega
  subst this
  rw [m0_0, m0_1]; decide
theorem m0_end : iterL m0 1 = iterL m0 (1 + 1) := by rw [m0_1, m0_2]
theorem m0_r1 : respectsR m0 [0, 0, 1, 1] = (true, 0) := by decide +kernel
theorem m0_r2 : respectsR m0 [0, 1, 2, 3] = (true, 0) := by decide +kernel
theorem m0_r3 : respectsR m0 [0, 0, 1, 2] = (false, 0) := by decide +kernel
theorem m0_r4 : respectsR m0 [0, 0, 0, 0] = (false, 0) := by decide +kernel
theorem m0_r5 : respectsR m0 [0, 1] = (false, 16) := by decide +kernel
theorem m0_r6 : respectsR m0 [1, 0, 0, 0] = (false, 1) := by decide +kernel

theorem cellsAt_new (W : World) (cs : Array Value) (t : TypeId) : Cells (W.alloc (.cells cs t)) (some ⟨W.heap.size, 0, none⟩) cs.toList := fun _ =>
  ⟨W.heap.size, 0, rfl, by simp, fun j u h => by have := cells_new W cs t j u h; rwa [Addr.add_lit] at this⟩
theorem edges_new2 (W : World) (a b c d : Int) (t : TypeId) : EdgesC (W.alloc (.cells #[.int .i64 a, .int .i64 b, .int .i64 c, .int .i64 d] t)) (.slice (some ⟨W.heap.size, 0, none⟩) 2 2) [(a, b), (c, d)] 2 :=
  ⟨_, rfl, cellsAt_new W _ t, Nat.le_refl _, by unfold lenMax; simp⟩
theorem ints_new4 (W : World) (a b c d : Int) (t : TypeId) : FitC (W.alloc (.cells #[.int .i64 a, .int .i64 b, .int .i64 c, .int .i64 d] t)) (.slice (some ⟨W.heap.size, 0, none⟩) 4 4) [a, b, c, d] :=
  ⟨_, rfl, cellsAt_new W _ t, Nat.le_refl _, by unfold lenMax; simp⟩
theorem ints_new2 (W : World) (a b : Int) (t : TypeId) : FitC (W.alloc (.cells #[.int .i64 a, .int .i64 b] t)) (.slice (some ⟨W.heap.size, 0, none⟩) 2 2) [a, b] :=
  ⟨_, rfl, cellsAt_new W _ t, Nat.le_refl _, by unfold lenMax; simp⟩

theorem ints_nil (W : World) : FitC W (.slice none 0 0) [] := ⟨none, rfl, Cells.nil _ _, Nat.le_refl _, by unfold lenMax; simp⟩
theorem list_ok (w : World) (v u : Value) (xs : List Int) (e : Int) (hv : FitC w v xs) (hu : FitC w u xs) : Calls Try.prog 17 #[v, .int .i64 e, u, .int .i64 e] w fun r w' => r = .returned (.bool true) ∧ Ext w w' := by
  have h := list_any w v u xs xs _ _ e e hv hu
  have hb : listB xs xs.length e xs e = true := by simp [listB]
  rw [hb] at h
  exact h
theorem resp4 (W : World) (mv : Value) (hm : MachV W mv m0) (a b c d : Int) (t : TypeId) (r : Bool) (f : Int) (h : respectsR m0 [a, b, c, d] = (r, f)) :
    Calls Try.prog 24 #[mv, .slice (some ⟨W.heap.size, 0, none⟩) 4 4] (W.alloc (.cells #[.int .i64 a, .int .i64 b, .int .i64 c, .int .i64 d] t)) fun e w' => e = .returned (.tuple #[.bool r, .int .i64 f]) ∧ Ext W w' := by
  have h1 := Respects_any _ _ _ m0 (hm.ext ((Ext.refl W).alloc _)) _ _ (ints_new4 W a b c d t)
  rw [h] at h1
  exact h1.mono (fun _ _ h => ⟨h.1, ((Ext.refl W).alloc _).trans h.2⟩)
theorem resp2 (W : World) (mv : Value) (hm : MachV W mv m0) (a b : Int) (t : TypeId) (r : Bool) (f : Int) (h : respectsR m0 [a, b] = (r, f)) :
    Calls Try.prog 24 #[mv, .slice (some ⟨W.heap.size, 0, none⟩) 2 2] (W.alloc (.cells #[.int .i64 a, .int .i64 b] t)) fun e w' => e = .returned (.tuple #[.bool r, .int .i64 f]) ∧ Ext W w' := by
  have h1 := Respects_any _ _ _ m0 (hm.ext ((Ext.refl W).alloc _)) _ _ (ints_new2 W a b t)
  rw [h] at h1
  exact h1.mono (fun _ _ h => ⟨h.1, ((Ext.refl W).alloc _).trans h.2⟩)

set_option maxRecDepth 100000 in
set_option maxHeartbeats 4000000 in
theorem lives_any (w : World) : Calls Try.prog 15 #[] w fun e w' => e = .returned (.bool true) ∧ Ext w w' := by
  go_enter Try.func15, Try.ntmps15
  have t1 : True := trivial
  have t2 : True := trivial
  have t3 : True := trivial
  have t4 : True := trivial
  have t5 : True := trivial
  have t6 : True := trivial
  have t7 : True := trivial
  have t8 : True := trivial
  go_upto_region 2 with (first
    | (go_at_call 28; clear t1; refine (edge_any _ _ _).mono ?_; rintro e w1 ⟨rfl, e1⟩)
    | (go_at_call 28; clear t2; refine (edge_any _ _ _).mono ?_; rintro e w2 ⟨rfl, e2⟩)
    | (go_at_call 28; clear t3; refine (edge_any _ _ _).mono ?_; rintro e w3 ⟨rfl, e3⟩)
    | (go_at_call 28; clear t4; refine (edge_any _ _ _).mono ?_; rintro e w4 ⟨rfl, e4⟩)
    | (go_at_call 28; clear t5; refine (edge_any _ _ _).mono ?_; rintro e w5 ⟨rfl, e5⟩)
    | (go_at_call 28; clear t6; refine (edge_any _ _ _).mono ?_; rintro e w6 ⟨rfl, e6⟩)
    | (go_at_call 28; clear t7; refine (edge_any _ _ _).mono ?_; rintro e w7 ⟨rfl, e7⟩)
    | (go_at_call 28; clear t8; refine (edge_any _ _ _).mono ?_; rintro e w' ⟨rfl, hE⟩))
  refine wp_named ?_
  intro W hW
  have hm0 : MachV W (.agg #[.int .i64 2, .int .i64 2, .slice (some ⟨w'.heap.size + 1, 0, none⟩) 4 4]) m0 := by
    have a1 := (((((edges_new2 w2 1 0 2 0 63).ext e3).ext e4).ext (((Ext.refl w4).alloc _).trans e5)).ext e6).ext (((Ext.refl w6).alloc _).trans e7) |>.ext hE
    have a2 := ((((edges_new2 w4 1 0 3 0 63).ext e5).ext e6).ext (((Ext.refl w6).alloc _).trans e7)).ext hE
    have a3 := ((edges_new2 w6 2 0 0 1 63).ext e7).ext hE
    have a4 := edges_new2 w' 3 0 1 1 63
    have x3 : Ext (w'.alloc (.cells #[.int .i64 3, .int .i64 0, .int .i64 1, .int .i64 1] 63)) W := by rw [hW]; exact ((Ext.refl _).alloc _).alloc _
    have x0 : Ext w' W := ((Ext.refl w').alloc _).trans x3
    have hc := cellsAt_new (w'.alloc (.cells #[.int .i64 3, .int .i64 0, .int .i64 1, .int .i64 1] 63)) #[.slice (some ⟨w2.heap.size, 0, none⟩) 2 2, .slice (some ⟨w4.heap.size, 0, none⟩) 2 2, .slice (some ⟨w6.heap.size, 0, none⟩) 2 2, .slice (some ⟨w'.heap.size, 0, none⟩) 2 2] 53
    have xc : Ext ((w'.alloc (.cells #[.int .i64 3, .int .i64 0, .int .i64 1, .int .i64 1] 63)).alloc (.cells #[.slice (some ⟨w2.heap.size, 0, none⟩) 2 2, .slice (some ⟨w4.heap.size, 0, none⟩) 2 2, .slice (some ⟨w6.heap.size, 0, none⟩) 2 2, .slice (some ⟨w'.heap.size, 0, none⟩) 2 2] 53)) W := by rw [hW]; exact (Ext.refl _).alloc _
    rw [World.size_alloc] at hc
    refine ⟨_, 4, rfl, _, _, rfl, hc.ext xc, rfl, ?_, Nat.le_refl _, by unfold lenMax; simp [m0]⟩
    intro i u es hu hes
    match i, hu, hes with
    | 0, hu, hes => cases hu; cases hes; exact ⟨2, a1.ext x0⟩
    | 1, hu, hes => cases hu; cases hes; exact ⟨2, a2.ext x0⟩
    | 2, hu, hes => cases hu; cases hes; exact ⟨2, a3.ext x0⟩
    | 3, hu, hes => cases hu; cases hes; exact ⟨2, a4.ext x3⟩
    | n + 4, hu, hes => simp at hu
  have hEw : Ext w W := by
    rw [hW]
    exact (((((((((e1.trans e2).alloc _).trans e3).trans e4).alloc _).trans e5).trans e6).alloc _ |>.trans e7).trans hE).alloc _ |>.alloc _ |>.alloc _
  have k0 : ∀ W', Ext W W' → W'.cell? ⟨w'.heap.size + 1 + 1, 0, none⟩ = some (.int .i64 2) := fun W' h => h.cell (by rw [hW]; simp [go_sem])
  have k1 : ∀ W', Ext W W' → W'.cell? ⟨w'.heap.size + 1 + 1, 1, none⟩ = some (.int .i64 2) := fun W' h => h.cell (by rw [hW]; simp [go_sem])
  have k2 : ∀ W', Ext W W' → W'.cell? ⟨w'.heap.size + 1 + 1, 2, none⟩ = some (.slice (some ⟨w'.heap.size + 1, 0, none⟩) 4 4) := fun W' h => h.cell (by rw [hW]; simp [go_sem])
  generalize w'.heap.size = N at *
  generalize w2.heap.size = N2
  generalize w4.heap.size = N4
  generalize w6.heap.size = N6
  clear hW hE e1 e2 e3 e4 e5 e6 e7
  have hm : ∀ W', Ext W W' → MachV W' (.agg #[.int .i64 2, .int .i64 2, .slice (some ⟨N + 1, 0, none⟩) 4 4]) m0 := fun W' h => hm0.ext h
  clear hm0
  have hEc := Ext.refl W
  have ha := Rounds_any W _ m0 (hm _ hEc) m0_valid 0 (by omega) 1 m0_step m0_end
  rw [m0_0] at ha
  go_upto_region 3 with (go_at_call 10; refine ha.mono ?_; rintro e Wa ⟨⟨va, rfl, fa⟩, hEa⟩)
  clear ha
  have hb := Rounds_any Wa _ m0 (hm _ hEa) m0_valid 1 (by omega) 1 m0_step m0_end
  rw [m0_1] at hb
  go_upto_region 4 with (go_at_call 10; refine hb.mono ?_; rintro e Wb ⟨⟨vb, rfl, fb⟩, hEb⟩)
  clear hb
  have fa := IntsC.ext fa hEb
  have hEb := hEa.trans hEb
  have hc := Rounds_any Wb _ m0 (hm _ hEb) m0_valid 5 (by omega) 1 m0_step m0_end
  rw [m0_5] at hc
  go_upto_region 5 with (go_at_call 10; refine hc.mono ?_; rintro e Wc ⟨⟨vc, rfl, fc⟩, hEc⟩)
  clear hc
  have fa := IntsC.ext fa hEc
  have fb := IntsC.ext fb hEc
  have hEc := hEb.trans hEc
  have hd := Rounds_bad Wc _ m0 (hm _ hEc) (-1) (.inr (by omega))
  rw [m0_check] at hd
  go_upto_region 6 with (go_at_call 10; refine hd.mono ?_; rintro e Wd ⟨rfl, hEd⟩)
  clear hd
  have fa := IntsC.ext fa hEd
  have fb := IntsC.ext fb hEd
  have fc := IntsC.ext fc hEd
  have hEd := hEc.trans hEd
  have hp := Classes_any Wd _ m0 (hm _ hEd) m0_valid 1 (by omega) m0_step m0_end
  rw [m0_1] at hp
  go_upto_region 7 with (go_at_call 16; refine hp.mono ?_; rintro e We ⟨⟨vp, rfl, fp⟩, hEe⟩)
  clear hp
  have fa := IntsC.ext fa hEe
  have fb := IntsC.ext fb hEe
  have fc := IntsC.ext fc hEe
  have hEe := hEd.trans hEe
  have hq := Equivalent_any We _ m0 (hm _ hEe) m0_valid 0 1 1 (by omega) m0_step m0_end
  rw [m0_1] at hq
  have hq : Calls Try.prog 22 #[.agg #[.int .i64 2, .int .i64 2, .slice (some ⟨N + 1, 0, none⟩) 4 4], .int .i64 0, .int .i64 1] We fun e w' => e = .returned (.tuple #[.bool true, .int .i64 0]) ∧ Ext We w' := hq
  go_upto_region 8 with (go_at_call 22; refine hq.mono ?_; rintro e Wf ⟨rfl, hEf⟩)
  clear hq
  have fa := IntsC.ext fa hEf
  have fb := IntsC.ext fb hEf
  have fc := IntsC.ext fc hEf
  have fp := IntsC.ext fp hEf
  have hEf := hEe.trans hEf
  have hq := Equivalent_any Wf _ m0 (hm _ hEf) m0_valid 1 2 1 (by omega) m0_step m0_end
  rw [m0_1] at hq
  have hq : Calls Try.prog 22 #[.agg #[.int .i64 2, .int .i64 2, .slice (some ⟨N + 1, 0, none⟩) 4 4], .int .i64 1, .int .i64 2] Wf fun e w' => e = .returned (.tuple #[.bool false, .int .i64 0]) ∧ Ext Wf w' := hq
  go_upto_region 9 with (go_at_call 22; refine hq.mono ?_; rintro e Wg ⟨rfl, hEg⟩)
  clear hq
  have fa := IntsC.ext fa hEg
  have fb := IntsC.ext fb hEg
  have fc := IntsC.ext fc hEg
  have fp := IntsC.ext fp hEg
  have hEg := hEf.trans hEg
  have hx := Ext.refl Wg
  have t1 : True := trivial
  have t2 : True := trivial
  have t3 : True := trivial
  have t4 : True := trivial
  have t5 : True := trivial
  go_upto_region 11 with (first
    | (go_at_call 17; clear t1; refine (list_ok _ _ _ _ _ (IntsC.ext fa (hx.alloc _)) (ints_new4 _ _ _ _ _ _)).mono ?_; rintro e L ⟨rfl, hx1⟩; have hx := (hx.alloc _).trans hx1)
    | (go_at_call 17; clear t2; refine (list_ok _ _ _ _ _ (IntsC.ext fb (hx.alloc _)) (ints_new4 _ _ _ _ _ _)).mono ?_; rintro e L ⟨rfl, hx1⟩; have hx := (hx.alloc _).trans hx1)
    | (go_at_call 17; clear t3; refine (list_ok _ _ _ _ _ (IntsC.ext fc (hx.alloc _)) (ints_new4 _ _ _ _ _ _)).mono ?_; rintro e L ⟨rfl, hx1⟩; have hx := (hx.alloc _).trans hx1)
    | (go_at_call 17; clear t4; refine (list_ok _ _ _ _ _ (ints_nil _) (ints_nil _)).mono ?_; rintro e L ⟨rfl, hx1⟩; have hx := hx.trans hx1)
    | (go_at_call 17; clear t5; refine (list_ok _ _ _ _ _ (IntsC.ext fp (hx.alloc _)) (ints_new4 _ _ _ _ _ _)).mono ?_; rintro e L ⟨rfl, hx1⟩; have hx := (hx.alloc _).trans hx1))
  have hL := hEg.trans hx
  go_upto_region 12 with (go_at_call 24; refine (resp4 _ _ (hm _ hL) _ _ _ _ _ _ _ m0_r1).mono ?_; rintro e R0 ⟨rfl, g0⟩)
  have r0 := hL.trans g0
  go_upto_region 13 with (go_at_call 24; refine (resp4 _ _ (hm _ r0) _ _ _ _ _ _ _ m0_r2).mono ?_; rintro e R1 ⟨rfl, g1⟩)
  have r1 := r0.trans g1
  go_upto_region 14 with (go_at_call 24; refine (resp4 _ _ (hm _ r1) _ _ _ _ _ _ _ m0_r3).mono ?_; rintro e R2 ⟨rfl, g2⟩)
  have r2 := r1.trans g2
  go_upto_region 15 with (go_at_call 24; refine (resp4 _ _ (hm _ r2) _ _ _ _ _ _ _ m0_r4).mono ?_; rintro e R3 ⟨rfl, g3⟩)
  have r3 := r2.trans g3
  go_upto_region 16 with (go_at_call 24; refine (resp2 _ _ (hm _ r3) _ _ _ _ _ m0_r5).mono ?_; rintro e R4 ⟨rfl, g4⟩)
  have r4 := r3.trans g4
  go_upto_region 17 with (go_at_call 24; refine (resp4 _ _ (hm _ r4) _ _ _ _ _ _ _ m0_r6).mono ?_; rintro e R5 ⟨rfl, g5⟩)
  have r5 := r4.trans g5
  go_wp2
  go_ret
  exact ⟨rfl, hEw.trans r5⟩
#print axioms lives_any
end Go.Proofs.Ytkmcplhgakpneaa
