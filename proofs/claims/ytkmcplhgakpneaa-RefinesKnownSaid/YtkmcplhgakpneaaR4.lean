/- gauntletlaw07.RefinesClasses: the walk. -/
import Derived.Test.YtkmcplhgakpneaaR3
import Derived.Test.YtkmcplhgakpneaaN8
import Derived.Test.YtkmcplhgakpneaaN3
namespace Go.Proofs.Ytkmcplhgakpneaa
open Go.RowKit Go.Maps
set_option linter.unusedVariables false
set_option linter.unusedSimpArgs false
attribute [local go_sem] Oper.quietV quietV Oper.gives givesV ext_refl_iff ext_alloc_iff ext_drew_iff ext_drewN_iff


theorem finerF_of {q p : List Int} (h : FinerL q p) : finerF q p = true := finerF_true (fun i hi k hk => by
  unfold finerAt
  rw [getD_lt hi, getD_lt (show k < q.length by omega), getD_lt (show i < p.length by have := h.1; omega), getD_lt (show k < p.length by have := h.1; omega)]
  by_cases he : q[i] = q[k]
  · have := h.2 i k hi (by omega) (by have := h.1; omega) (by have := h.1; omega) he
    simp [this]
  · simp [he])
theorem finer_yes (w : World) (v u : Value) (p q : List Int) (cp cq : Nat) (hp : IntsC w v p cp) (hq : IntsC w u q cq) (hl : p.length ≤ q.length) (h : finerF p q = true) :
    Calls Try.prog 20 #[v, u] w fun e w' => e = .returned (.int .i64 1) ∧ Ext w w' := by
  have := finer_any w v u p q cp cq hp hq hl
  rw [h] at this
  exact this
theorem FinerL.refl (p : List Int) : FinerL p p := ⟨rfl, fun _ _ _ _ _ _ h => h⟩
theorem FinerL.trans {a b c : List Int} (h : FinerL a b) (k : FinerL b c) : FinerL a c :=
  ⟨h.1.trans k.1, fun s t hs ht hs' ht' he => k.2 s t (by have := h.1; omega) (by have := h.1; omega) hs' ht' (h.2 s t hs ht (by have := h.1; omega) (by have := h.1; omega) he)⟩
theorem iterL_finer_add (m : Mach) (k : Nat) : ∀ j, FinerL (iterL m (k + j)) (iterL m k)
  | 0 => FinerL.refl _
  | j + 1 => (iterL_finer m (k + j)).trans (iterL_finer_add m k j)
theorem iterL_end (m : Mach) {M : Nat} (h : iterL m M = iterL m (M + 1)) {k : Nat} (hk : M ≤ k) : iterL m k = iterL m M := by
  have := iterL_stays m h (k - M)
  rwa [show M + (k - M) = k by omega] at this
/-- The last classes are finer than those of any round. -/
theorem iterL_last_finer (m : Mach) {M : Nat} (h : iterL m M = iterL m (M + 1)) (k : Nat) : FinerL (iterL m M) (iterL m k) := by
  by_cases hk : k ≤ M
  · have := iterL_finer_add m k (M - k)
    rwa [show k + (M - k) = M by omega] at this
  · rw [iterL_end m h (show M ≤ k by omega)]; exact FinerL.refl _

set_option maxRecDepth 100000 in
set_option maxHeartbeats 2000000 in
theorem RefinesClasses_any (w : World) (v : Value) (r : Raw) (hr : RawV w v r) (z : Nat) (hz : z < 256) : Calls Try.prog 4 #[v, .int .u8 z] w fun e w' => e = .returned (.bool true) ∧ Ext w w' := by
  obtain ⟨ev, c, rfl, hu, hb1, hb2, hb3⟩ := id hr
  have hV := raw_valid r
  have h6 : r.mach.rows.length ≤ 6 := by simp [Raw.mach, Raw.n]; omega
  obtain ⟨M, hM, hstep, hend⟩ := rounds_end hV
  have hsz := hV.size
  go_enter Try.func4, Try.ntmps4
  go_upto_region 1 with fail
  refine wp_named ?_
  intro W1 hW1
  have hE1 : Ext w W1 := by rw [hW1]; exact (Ext.refl _).alloc _
  have k0 : ∀ w', Ext W1 w' → w'.cell? ⟨w.heap.size, 0, none⟩ = some (.int .u8 r.states) := fun w' h => h.cell (by rw [hW1]; simp [go_sem])
  have k1 : ∀ w', Ext W1 w' → w'.cell? ⟨w.heap.size, 1, none⟩ = some (.int .u8 r.inputs) := fun w' h => h.cell (by rw [hW1]; simp [go_sem])
  have k2 : ∀ w', Ext W1 w' → w'.cell? ⟨w.heap.size, 2, none⟩ = some (.int .u8 r.outputs) := fun w' h => h.cell (by rw [hW1]; simp [go_sem])
  have k3 : ∀ w', Ext W1 w' → w'.cell? ⟨w.heap.size, 3, none⟩ = some (.bool r.part) := fun w' h => h.cell (by rw [hW1]; simp [go_sem])
  have k4 : ∀ w', Ext W1 w' → w'.cell? ⟨w.heap.size, 4, none⟩ = some ev := fun w' h => h.cell (by rw [hW1]; simp [go_sem])
  clear hW1
  obtain ⟨Ae, rfl, hu2⟩ := hu
  clear hu2
  have hof := Of_any W1 _ r (hr.ext hE1)
  generalize hmm : r.mach = m at *
  clear hmm
  go_upto_region 2 with (go_at_call 9; refine hof.mono ?_; rintro e W2 ⟨⟨mv, rfl, ⟨rv, cr, rfl, hrows⟩⟩, hE2⟩; obtain ⟨Ar, vs, rfl, hrr⟩ := id hrows; clear hrr)
  refine wp_named ?_
  intro W hW
  have hm : ∀ w', Ext W w' → MachV w' (.agg #[.int .i64 m.ins, .int .i64 m.outs, .slice Ar m.rows.length cr]) m := fun w' h =>
    ⟨_, cr, rfl, hrows.ext (by refine Ext.trans ?_ h; rw [hW]; exact (Ext.refl _).alloc _)⟩
  have q0 : ∀ w', Ext W w' → w'.cell? ⟨W2.heap.size, 0, none⟩ = some (.int .i64 m.ins) := fun w' h => h.cell (by rw [hW]; simp [go_sem])
  have q1 : ∀ w', Ext W w' → w'.cell? ⟨W2.heap.size, 1, none⟩ = some (.int .i64 m.outs) := fun w' h => h.cell (by rw [hW]; simp [go_sem])
  have q2 : ∀ w', Ext W w' → w'.cell? ⟨W2.heap.size, 2, none⟩ = some (.slice Ar m.rows.length cr) := fun w' h => h.cell (by rw [hW]; simp [go_sem])
  have hEW : Ext w W := by rw [hW]; exact (hE1.trans hE2).alloc _
  generalize W2.heap.size = N at *
  clear hW hrows hof k0 k1 k2 k3 k4 hr
  have hcl := Classes_any W _ m (hm _ (Ext.refl _)) hV M (by omega) hstep hend
  have hfin := iterL_end m hend (show M ≤ m.rows.length by omega)
  have hpre : 0 < M → (iterL m (M - 1) == iterL m M) = false := fun h0 => by
    have := hstep (M - 1) (by omega)
    rw [show M - 1 + 1 = M by omega] at this
    simpa using this
  have hmin : iterL m (min z 6) = iterL m z := by
    by_cases hz6 : z ≤ 6
    · rw [Nat.min_eq_left hz6]
    · rw [Nat.min_eq_right (by omega), iterL_end m hend (show M ≤ 6 by omega), iterL_end m hend (show M ≤ z by omega)]
  have hf1 := finerF_of (iterL_finer m z)
  have hf2 := finerF_of (iterL_last_finer m hend (z + 1))
  have hl1 := iterL_length m z
  have hl2 := iterL_length m (z + 1)
  have hl3 := iterL_length m M
  have HH := Lib.hid (And.intro hfin (And.intro hpre (And.intro hmin (And.intro hf1 (And.intro hf2 (And.intro hl1 (And.intro hl2 hl3)))))))
  have HE := Lib.hid (And.intro hstep hend)
  clear hfin hpre hmin hf1 hf2 hl1 hl2 hl3 hstep hend
  have hMl : ¬ (m.rows.length : Int) ≤ (M : Int) := by omega
  have hMn : ¬ (M : Int) < 0 := by omega
  go_upto_region 3 with (go_at_call 16; refine hcl.mono ?_; rintro e W3 ⟨⟨pv, rfl, fp⟩, hE3⟩)
  clear hcl
  have r0 := fun w' (h : Ext W3 w') => q0 w' (hE3.trans h)
  have r1 := fun w' (h : Ext W3 w') => q1 w' (hE3.trans h)
  have r2 := fun w' (h : Ext W3 w') => q2 w' (hE3.trans h)
  have hm3 : ∀ w', Ext W3 w' → MachV w' (.agg #[.int .i64 m.ins, .int .i64 m.outs, .slice Ar m.rows.length cr]) m := fun w' h => hm w' (hE3.trans h)
  have hEW3 := hEW.trans hE3
  clear q0 q1 q2 hm hEW hE1 hE2 hE3
  generalize Value.agg #[.int .u8 r.states, .int .u8 r.inputs, .int .u8 r.outputs, .bool r.part, .slice Ae r.edges.length c] = v0
  have fp : ∀ w', Ext W3 w' → FitC w' pv (iterL m M) := fun w' h => IntsC.ext fp h
  have hcs := fun w' (h : Ext W3 w') => refClasses_any w' _ m (hm3 w' h) hV
  have t1 : True := trivial
  by_cases hM0 : 0 < M
  · have hM1 : (0 : Int) < (M : Int) := by omega
    go_upto_region 5 with (first
      | (go_at_call 18; refine (hcs W3 (Ext.refl _)).mono ?_; rintro e W4 ⟨⟨u4, c4, rfl, f4⟩, hE4⟩; rw [HH.out.1] at f4)
      | (go_at_call 17; refine (list_yes W4 pv u4 _ c4 0 (fp _ hE4) f4).mono ?_; rintro e W5 ⟨rfl, hE5⟩; have hE5 := hE4.trans hE5)
      | (go_at_call 19; clear t1; refine (refRounds_int W5 _ m (hm3 _ hE5) hV _ M (by omega) (by omega)).mono ?_; rintro e W6 ⟨⟨u6, c6, rfl, f6⟩, hE6⟩; have hE6 := hE5.trans hE6)
      | (go_at_call 13; refine (same_yes W6 u6 pv _ _ c6 _ f6 (fp _ hE6) rfl).mono ?_; rintro e W7 ⟨rfl, hE7⟩; have hE7 := hE6.trans hE7)
      | (go_at_call 19; refine (refRounds_int W7 _ m (hm3 _ hE7) hV _ (M - 1) (by omega) (by omega)).mono ?_; rintro e W8 ⟨⟨u8, c8, rfl, f8⟩, hE8⟩; have hE8 := hE7.trans hE8)
      | (go_at_call 13; refine (same_no W8 u8 pv _ _ c8 _ f8 (fp _ hE8) (HH.out.2.1 hM0)).mono ?_; rintro e W9 ⟨rfl, hE9⟩; have hE9 := hE8.trans hE9))
    have hra := Rounds_int W9 _ m (hm3 _ hE9) hV _ z rfl (by omega) M HE.out.1 HE.out.2
    go_upto_region 6 with (go_at_call 10; refine hra.mono ?_; rintro e Wa ⟨⟨va, rfl, fa⟩, hEa⟩)
    clear hra
    have hEa := hE9.trans hEa
    have fa : ∀ w', Ext Wa w' → FitC w' va (iterL m z) := fun w' h => IntsC.ext fa h
    have s1 : True := trivial
    go_wp2_with (first
      | (go_at_call 10; refine (Rounds_int Wa _ m (hm3 _ hEa) hV _ (z + 1) (by omega) (by omega) M HE.out.1 HE.out.2).mono ?_; rintro e Wb ⟨⟨vb, rfl, fb⟩, hEb⟩; have hEab := hEb; have hEb := hEa.trans hEb)
      | (go_at_call 19; refine (refRounds_int Wb _ m (hm3 _ hEb) hV _ (min z 6) (by omega) (by omega)).mono ?_; rintro e Wc ⟨⟨uc, cc, rfl, fc⟩, hEc⟩; rw [HH.out.2.2.1] at fc; have hEac := hEab.trans hEc; have fb := IntsC.ext fb hEc; have hEc := hEb.trans hEc)
      | (go_at_call 17; refine (list_yes Wc va uc _ cc 0 (fa _ hEac) fc).mono ?_; rintro e Wd ⟨rfl, hEd⟩; have hEad := hEac.trans hEd; have fb := IntsC.ext fb hEd; have hEd := hEc.trans hEd)
      | (go_at_call 20; clear s1; refine (finer_yes Wd vb va _ _ _ _ fb (fa _ hEad) (by have := HH.out.2.2.2.2.2.1; have := HH.out.2.2.2.2.2.2.1; omega) HH.out.2.2.2.1).mono ?_; rintro e We ⟨rfl, hEe⟩; have fb := IntsC.ext fb hEe; have hEe := hEd.trans hEe)
      | (go_at_call 20; refine (finer_yes We pv vb _ _ _ _ (fp _ hEe) fb (by have := HH.out.2.2.2.2.2.2.2; have := HH.out.2.2.2.2.2.2.1; omega) HH.out.2.2.2.2.1).mono ?_; rintro e Wf ⟨rfl, hEf⟩; have hEf := hEe.trans hEf)
      | (go_at_call 15; refine (lives_any _).mono ?_; rintro e Wg ⟨rfl, hEg⟩))
    all_goals
      go_ret
      exact ⟨rfl, (hEW3.trans hEf).trans hEg⟩
  · have hM1 : ¬ (0 : Int) < (M : Int) := by omega
    go_upto_region 5 with (first
      | (go_at_call 18; refine (hcs W3 (Ext.refl _)).mono ?_; rintro e W4 ⟨⟨u4, c4, rfl, f4⟩, hE4⟩; rw [HH.out.1] at f4)
      | (go_at_call 17; refine (list_yes W4 pv u4 _ c4 0 (fp _ hE4) f4).mono ?_; rintro e W5 ⟨rfl, hE5⟩; have hE5 := hE4.trans hE5)
      | (go_at_call 19; clear t1; refine (refRounds_int W5 _ m (hm3 _ hE5) hV _ M (by omega) (by omega)).mono ?_; rintro e W6 ⟨⟨u6, c6, rfl, f6⟩, hE6⟩; have hE6 := hE5.trans hE6)
      | (go_at_call 13; refine (same_yes W6 u6 pv _ _ c6 _ f6 (fp _ hE6) rfl).mono ?_; rintro e W7 ⟨rfl, hE7⟩; have hE7 := hE6.trans hE7))
    have hra := Rounds_int W7 _ m (hm3 _ hE7) hV _ z rfl (by omega) M HE.out.1 HE.out.2
    go_upto_region 6 with (go_at_call 10; refine hra.mono ?_; rintro e Wa ⟨⟨va, rfl, fa⟩, hEa⟩)
    clear hra
    have hEa := hE7.trans hEa
    have fa : ∀ w', Ext Wa w' → FitC w' va (iterL m z) := fun w' h => IntsC.ext fa h
    have s1 : True := trivial
    go_wp2_with (first
      | (go_at_call 10; refine (Rounds_int Wa _ m (hm3 _ hEa) hV _ (z + 1) (by omega) (by omega) M HE.out.1 HE.out.2).mono ?_; rintro e Wb ⟨⟨vb, rfl, fb⟩, hEb⟩; have hEab := hEb; have hEb := hEa.trans hEb)
      | (go_at_call 19; refine (refRounds_int Wb _ m (hm3 _ hEb) hV _ (min z 6) (by omega) (by omega)).mono ?_; rintro e Wc ⟨⟨uc, cc, rfl, fc⟩, hEc⟩; rw [HH.out.2.2.1] at fc; have hEac := hEab.trans hEc; have fb := IntsC.ext fb hEc; have hEc := hEb.trans hEc)
      | (go_at_call 17; refine (list_yes Wc va uc _ cc 0 (fa _ hEac) fc).mono ?_; rintro e Wd ⟨rfl, hEd⟩; have hEad := hEac.trans hEd; have fb := IntsC.ext fb hEd; have hEd := hEc.trans hEd)
      | (go_at_call 20; clear s1; refine (finer_yes Wd vb va _ _ _ _ fb (fa _ hEad) (by have := HH.out.2.2.2.2.2.1; have := HH.out.2.2.2.2.2.2.1; omega) HH.out.2.2.2.1).mono ?_; rintro e We ⟨rfl, hEe⟩; have fb := IntsC.ext fb hEe; have hEe := hEd.trans hEe)
      | (go_at_call 20; refine (finer_yes We pv vb _ _ _ _ (fp _ hEe) fb (by have := HH.out.2.2.2.2.2.2.2; have := HH.out.2.2.2.2.2.2.1; omega) HH.out.2.2.2.2.1).mono ?_; rintro e Wf ⟨rfl, hEf⟩; have hEf := hEe.trans hEf)
      | (go_at_call 15; refine (lives_any _).mono ?_; rintro e Wg ⟨rfl, hEg⟩))
    all_goals
      go_ret
      exact ⟨rfl, (hEW3.trans hEf).trans hEg⟩
#print axioms RefinesClasses_any
end Go.Proofs.Ytkmcplhgakpneaa
