/- gauntletlaw07.RefinesEquivalent: the walk. -/
import Derived.Test.YtkmcplhgakpneaaR4
import Derived.Test.YtkmcplhgakpneaaN5
namespace Go.Proofs.Ytkmcplhgakpneaa
open Go.RowKit Go.Maps
set_option linter.unusedVariables false
set_option linter.unusedSimpArgs false
attribute [local go_sem] Oper.quietV quietV Oper.gives givesV ext_refl_iff ext_alloc_iff ext_drew_iff ext_drewN_iff

theorem wordOf_ok (xs : List Nat) {n : Nat} (hn : 1 ≤ n) : ∀ x ∈ wordOf xs n, 0 ≤ x ∧ x < n := fun x hx => by
  obtain ⟨y, _, rfl⟩ := List.mem_map.1 hx
  have := Nat.mod_lt y (show 0 < n by omega)
  omega
theorem wordOf_length (xs : List Nat) (n : Nat) : (wordOf xs n).length ≤ 12 := by simp [wordOf]; omega
/-- In one class: no word tells them apart. -/
theorem class_words {m : Mach} (hV : Valid m) {M : Nat} (hend : iterL m M = iterL m (M + 1)) {s t : Nat} (hs : s < m.rows.length) (ht : t < m.rows.length) (he : (iterL m M).getD s 0 = (iterL m M).getD t 0) (ws : List Int) (hw : ∀ x ∈ ws, InOK m x) : runL m s ws = runL m t ws := by
  have hf := iterL_last_finer m hend ws.length
  have hl := iterL_length m M
  have hl2 := iterL_length m ws.length
  rw [getD_lt (show s < (iterL m M).length by omega), getD_lt (show t < (iterL m M).length by omega)] at he
  have := hf.2 s t (by omega) (by omega) (by omega) (by omega) he
  exact (iterL_words hV ws.length hs ht).1 this ws rfl hw


set_option maxRecDepth 100000 in
set_option maxHeartbeats 4000000 in
theorem RefinesEquivalent_any (w : World) (v : Value) (r : Raw) (hr : RawV w v r) (z0 z1 : Int) (yv : Value) (xs : List Nat) (cx : Nat) (hy : U8C w yv xs cx) :
    Calls Try.prog 5 #[v, .agg #[.int .i64 z0, .int .i64 z1], .agg #[yv]] w fun e w' => e = .returned (.bool true) ∧ Ext w w' := by
  obtain ⟨ev, c, rfl, hu, hb1, hb2, hb3⟩ := id hr
  have hV := raw_valid r
  have h6 : r.mach.rows.length ≤ 6 := by simp [Raw.mach, Raw.n]; omega
  obtain ⟨M, hM, hstep, hend⟩ := rounds_end hV
  have hsz := hV.size
  go_enter Try.func5, Try.ntmps5
  go_upto_region 1 with fail
  refine wp_named ?_
  intro W1 hW1
  have hE1 : Ext w W1 := by rw [hW1]; exact (((Ext.refl _).alloc _).alloc _).alloc _
  have k0 : ∀ w', Ext W1 w' → w'.cell? ⟨w.heap.size, 0, none⟩ = some (.int .u8 r.states) := fun w' h => h.cell (by rw [hW1]; simp [go_sem])
  have k1 : ∀ w', Ext W1 w' → w'.cell? ⟨w.heap.size, 1, none⟩ = some (.int .u8 r.inputs) := fun w' h => h.cell (by rw [hW1]; simp [go_sem])
  have k2 : ∀ w', Ext W1 w' → w'.cell? ⟨w.heap.size, 2, none⟩ = some (.int .u8 r.outputs) := fun w' h => h.cell (by rw [hW1]; simp [go_sem])
  have k3 : ∀ w', Ext W1 w' → w'.cell? ⟨w.heap.size, 3, none⟩ = some (.bool r.part) := fun w' h => h.cell (by rw [hW1]; simp [go_sem])
  have k4 : ∀ w', Ext W1 w' → w'.cell? ⟨w.heap.size, 4, none⟩ = some ev := fun w' h => h.cell (by rw [hW1]; simp [go_sem])
  have k5 : ∀ w', Ext W1 w' → w'.cell? ⟨w.heap.size + 1, 0, none⟩ = some (.int .i64 z0) := fun w' h => h.cell (by rw [hW1]; simp [go_sem])
  have k6 : ∀ w', Ext W1 w' → w'.cell? ⟨w.heap.size + 1, 1, none⟩ = some (.int .i64 z1) := fun w' h => h.cell (by rw [hW1]; simp [go_sem])
  have k7 : ∀ w', Ext W1 w' → w'.cell? ⟨w.heap.size + 1 + 1, 0, none⟩ = some yv := fun w' h => h.cell (by rw [hW1]; simp [go_sem])
  clear hW1
  obtain ⟨Ae, rfl, hu2⟩ := hu
  clear hu2
  have hof := Of_any W1 _ r (hr.ext hE1)
  have hri : 1 ≤ r.ins ∧ r.ins ≤ 3 := by unfold Raw.ins; omega
  have hins : r.mach.ins = (r.ins : Int) := rfl
  generalize hmm : r.mach = m at *
  clear hmm
  go_upto_region 2 with (go_at_call 9; refine hof.mono ?_; rintro e W2 ⟨⟨mv, rfl, ⟨rv, cr, rfl, hrows⟩⟩, hE2⟩; obtain ⟨Ar, vs, rfl, hrr⟩ := id hrows; clear hrr)
  refine wp_named ?_
  intro W hW
  have hm : ∀ w', Ext W w' → MachV w' (.agg #[.int .i64 r.ins, .int .i64 m.outs, .slice Ar m.rows.length cr]) m := fun w' h =>
    ⟨_, cr, by rw [hins], hrows.ext (by refine Ext.trans ?_ h; rw [hW]; exact (Ext.refl _).alloc _)⟩
  have q0 : ∀ w', Ext W w' → w'.cell? ⟨W2.heap.size, 0, none⟩ = some (.int .i64 r.ins) := fun w' h => h.cell (by rw [hW]; simp [go_sem, hins])
  have q1 : ∀ w', Ext W w' → w'.cell? ⟨W2.heap.size, 1, none⟩ = some (.int .i64 m.outs) := fun w' h => h.cell (by rw [hW]; simp [go_sem])
  have q2 : ∀ w', Ext W w' → w'.cell? ⟨W2.heap.size, 2, none⟩ = some (.slice Ar m.rows.length cr) := fun w' h => h.cell (by rw [hW]; simp [go_sem])
  have hE2W : Ext W1 W := by rw [hW]; exact hE2.alloc _
  have hEW : Ext w W := hE1.trans hE2W
  have hz0 : ∀ w', Ext W w' → w'.cell? ⟨w.heap.size + 1, 0, none⟩ = some (.int .i64 z0) := fun w' h => k5 _ (hE2W.trans h)
  have hz1 : ∀ w', Ext W w' → w'.cell? ⟨w.heap.size + 1, 1, none⟩ = some (.int .i64 z1) := fun w' h => k6 _ (hE2W.trans h)
  have hyy : ∀ w', Ext W w' → w'.cell? ⟨w.heap.size + 1 + 1, 0, none⟩ = some yv := fun w' h => k7 _ (hE2W.trans h)
  generalize W2.heap.size = N at *
  have HINS := Lib.hid hins
  clear hW hrows hof k0 k1 k2 k3 k4 k5 k6 k7 hr hE2 hE2W hins
  generalize Value.agg #[.int .u8 r.states, .int .u8 r.inputs, .int .u8 r.outputs, .bool r.part, .slice Ae r.edges.length c] = v0
  have hwo := wOf_any W yv xs cx (hy.ext hEW) r.ins (by omega)
  have hwk := wordOf_ok xs hri.1
  have hwl := wordOf_length xs r.ins
  generalize wordOf xs r.ins = ws at *
  have HWS := Lib.hid (And.intro hwk hwl)
  clear hwk hwl
  go_upto_region 3 with (go_at_call 21; refine hwo.mono ?_; rintro e W3 ⟨⟨wv, cw, rfl, hwv⟩, hE3⟩)
  clear hwo
  have HEQ := Equivalent_any W3 _ m (hm _ hE3) hV z0 z1 M (by omega) hstep hend
  have HE := Lib.hid (And.intro hstep (And.intro hend hV))
  clear hstep hend hV
  by_cases hc1 : z0 < 0
  ·
    have hval := HEQ
    rw [if_neg ((by omega))] at hval
    go_upto_region 4 with (go_at_call 22; refine hval.mono ?_; rintro e W4 ⟨rfl, hE4⟩)
    clear hval HEQ
    have y0 := hz0 _ (hE3.trans hE4)
    have y1 := hz1 _ (hE3.trans hE4)
    have y2 := q2 _ (hE3.trans hE4)
    go_wp2_with (go_at_call 15; refine (lives_any _).mono ?_; rintro e W9 ⟨rfl, hE9⟩)
    all_goals
      go_ret
      exact ⟨rfl, (hEW.trans (hE3.trans hE4)).trans hE9⟩
  · by_cases hc2 : z1 < 0
    ·
      have hval := HEQ
      rw [if_neg ((by omega))] at hval
      go_upto_region 4 with (go_at_call 22; refine hval.mono ?_; rintro e W4 ⟨rfl, hE4⟩)
      clear hval HEQ
      have y0 := hz0 _ (hE3.trans hE4)
      have y1 := hz1 _ (hE3.trans hE4)
      have y2 := q2 _ (hE3.trans hE4)
      go_wp2_with (go_at_call 15; refine (lives_any _).mono ?_; rintro e W9 ⟨rfl, hE9⟩)
      all_goals
        go_ret
        exact ⟨rfl, (hEW.trans (hE3.trans hE4)).trans hE9⟩
    · by_cases hc3 : (m.rows.length : Int) ≤ z0
      ·
        have hval := HEQ
        rw [if_neg ((by omega))] at hval
        go_upto_region 4 with (go_at_call 22; refine hval.mono ?_; rintro e W4 ⟨rfl, hE4⟩)
        clear hval HEQ
        have y0 := hz0 _ (hE3.trans hE4)
        have y1 := hz1 _ (hE3.trans hE4)
        have y2 := q2 _ (hE3.trans hE4)
        go_wp2_with (go_at_call 15; refine (lives_any _).mono ?_; rintro e W9 ⟨rfl, hE9⟩)
        all_goals
          go_ret
          exact ⟨rfl, (hEW.trans (hE3.trans hE4)).trans hE9⟩
      · by_cases hc4 : (m.rows.length : Int) ≤ z1
        ·
          have hval := HEQ
          rw [if_neg ((by omega))] at hval
          go_upto_region 4 with (go_at_call 22; refine hval.mono ?_; rintro e W4 ⟨rfl, hE4⟩)
          clear hval HEQ
          have y0 := hz0 _ (hE3.trans hE4)
          have y1 := hz1 _ (hE3.trans hE4)
          have y2 := q2 _ (hE3.trans hE4)
          go_wp2_with (go_at_call 15; refine (lives_any _).mono ?_; rintro e W9 ⟨rfl, hE9⟩)
          all_goals
            go_ret
            exact ⟨rfl, (hEW.trans (hE3.trans hE4)).trans hE9⟩
        · rw [if_pos (by omega)] at HEQ
          obtain ⟨s, rfl⟩ := Int.eq_ofNat_of_zero_le (show 0 ≤ z0 by omega)
          obtain ⟨t, rfl⟩ := Int.eq_ofNat_of_zero_le (show 0 ≤ z1 by omega)
          rw [Int.toNat_natCast, Int.toNat_natCast] at HEQ
          have hsn : s < m.rows.length := by omega
          have htn : t < m.rows.length := by omega
          have hPl := iterL_length m M
          have hfin := iterL_end m HE.out.2.1 (show M ≤ m.rows.length by omega)
          have hin : ∀ x ∈ ws, InOK m x := fun x hx => ⟨(HWS.out.1 x hx).1, by rw [HINS.out]; exact (HWS.out.1 x hx).2⟩
          have hcw := fun he => class_words HE.out.2.2 HE.out.2.1 hsn htn he ws hin
          have hcs := fun w' (h : Ext W w') => refClasses_any w' _ m (hm w' h) HE.out.2.2
          simp only [hfin] at hcs
          have hrun := fun w' (h : Ext W3 w') (x : Nat) (hx : x < m.rows.length) => run_any w' _ wv m (hm w' (hE3.trans h)) HE.out.2.2 (x : Int) ws cw (hwv.ext h) ⟨by omega, by omega⟩ hin (by have := HWS.out.2; omega)
          generalize iterL m M = P at *
          have hsP : s < P.length := by omega
          have htP : t < P.length := by omega
          rw [getD_lt hsP, getD_lt htP] at HEQ
          rw [getD_lt hsP, getD_lt htP] at hcw
          have hsI : (s : Int) < (P.length : Int) := by omega
          have htI : (t : Int) < (P.length : Int) := by omega
          have hsJ : (s : Int) < (m.rows.length : Int) := by omega
          have htJ : (t : Int) < (m.rows.length : Int) := by omega
          have hn1 : ¬ m.rows.length ≤ s := by omega
          have hn3 : (0 : Int) ≤ (s : Int) := by omega
          have hn4 : (0 : Int) ≤ (t : Int) := by omega
          have hn2 : ¬ m.rows.length ≤ t := by omega
          have HCW := Lib.hid hcw
          have HRUN := Lib.hid hrun
          have HPL := Lib.hid (And.intro hPl hin)
          clear hcw hPl hfin hin hrun hM
          cases hpq : (P[s] == P[t]) with
          | true =>
            rw [hpq] at HEQ
            go_upto_region 7 with (first
              | (go_at_call 22; refine HEQ.mono ?_; rintro e W4 ⟨rfl, hE4⟩; have hE34 := hE3.trans hE4; have y0 := hz0 _ hE34; have y1 := hz1 _ hE34; have y2 := q2 _ hE34; have y3 := q0 _ hE34; have y4 := q1 _ hE34)
              | (go_at_call 18; refine (hcs W4 (hE3.trans hE4)).mono ?_; rintro e W5 ⟨⟨pv, cp, rfl, hpv⟩, hE5⟩))
            obtain ⟨Ap, rfl, hpc, _, hpm⟩ := hpv
            obtain ⟨bp, op, rfl, hbp, ps⟩ := hpc.at_int hsP
            obtain ⟨bp', op', hA, _, pt⟩ := hpc.at_int htP
            cases hA
            have hE35 := hE4.trans hE5
            have hE05 := hE3.trans hE35
            have q0 : ∀ w', Ext W5 w' → w'.cell? ⟨N, 0, none⟩ = some (.int .i64 r.ins) := fun w' h => q0 w' (hE05.trans h)
            have q1 : ∀ w', Ext W5 w' → w'.cell? ⟨N, 1, none⟩ = some (.int .i64 m.outs) := fun w' h => q1 w' (hE05.trans h)
            have q2 : ∀ w', Ext W5 w' → w'.cell? ⟨N, 2, none⟩ = some (.slice Ar m.rows.length cr) := fun w' h => q2 w' (hE05.trans h)
            have hz0 : ∀ w', Ext W5 w' → w'.cell? ⟨w.heap.size + 1, 0, none⟩ = some (.int .i64 s) := fun w' h => hz0 w' (hE05.trans h)
            have hz1 : ∀ w', Ext W5 w' → w'.cell? ⟨w.heap.size + 1, 1, none⟩ = some (.int .i64 t) := fun w' h => hz1 w' (hE05.trans h)
            have ps : ∀ w', Ext W5 w' → w'.cell? ⟨bp, op + s, none⟩ = some (.int .i64 P[s]) := fun w' h => h.cell ps
            have pt : ∀ w', Ext W5 w' → w'.cell? ⟨bp, op + t, none⟩ = some (.int .i64 P[t]) := fun w' h => h.cell pt
            have hru := HCW.out (by simpa using hpq)
            have HRU := Lib.hid hru
            clear hru HCW HEQ hcs hyy hpc hbp y0 y1 y2 y3 y4
            refine wp_region_ext 30 (factsOf [(25, fun v w => ∃ c, IntsC w v (runL m s ws) c)]) (fun k => ([[], [0], [0, 1], [0, 1, 2], [0, 1, 2], [0, 1, 2], [0, 1, 2, 5], [0, 1, 2, 4, 5, 6], [0, 1, 2, 4, 5, 6, 7], [0, 1, 2], [0, 1, 2], [0, 1, 2, 10], [0, 1, 2, 9, 10, 11], [0, 1, 2, 9, 10, 11, 12], [0, 1, 2, 4, 5, 6, 7, 8, 9, 10, 11, 12, 13], [0, 1, 2, 3, 4, 5, 6, 7, 8, 9, 10, 11, 12, 13, 14], [0, 1, 2, 3, 4, 5, 6, 7, 8, 9, 10, 11, 12, 13, 14, 15], [0, 1, 2, 3, 4, 5, 6, 7, 8, 9, 10, 11, 12, 13, 14, 15, 16], [0, 1, 2, 3, 4, 5, 6, 7, 8, 9, 10, 11, 12, 13, 14, 15, 16, 17], [0, 1, 2, 3, 4, 5, 6, 7, 8, 9, 10, 11, 12, 13, 14, 15, 16, 17, 18], [0, 1, 2, 3, 4, 5, 6, 7, 8, 9, 10, 11, 12, 13, 14, 15, 16, 17, 18, 19], [0, 1, 2, 3, 4, 5, 6, 7, 8, 9, 10, 11, 12, 13, 14, 15, 16, 17, 18, 19, 20], [0, 1, 2, 3, 4, 5, 6, 7, 8, 9, 10, 11, 12, 13, 14, 15, 16, 17, 18, 19, 20], [0, 1, 2, 3, 4, 5, 6, 7, 8, 9, 10, 11, 12, 13, 14, 15, 16, 17, 18, 19, 20, 22], [0, 1, 2, 3, 4, 5, 6, 7, 8, 9, 10, 11, 12, 13, 14, 15, 16, 17, 18, 19, 20], [0, 1, 2, 3, 4, 5, 6, 7, 8, 9, 10, 11, 12, 13, 14, 15, 16, 17, 18, 19, 20, 21, 22, 23, 24], [0, 1, 2, 3, 4, 5, 6, 7, 8, 9, 10, 11, 12, 13, 14, 15, 16, 17, 18, 19, 20], [0, 1, 2, 3, 4, 5, 6, 7, 8, 9, 10, 11, 12, 13, 14, 15, 16, 17, 18, 19, 20], [0, 1, 2, 3, 4, 5, 6, 7, 8, 9, 10, 11, 12, 13, 14, 15, 16, 17, 18, 19, 20, 27], [0, 1, 2, 3, 4, 5, 6, 7, 8, 9, 10, 11, 12, 13, 14, 15, 16, 17, 18, 19, 20], [0, 1, 2, 3, 4, 5, 6, 7, 8, 9, 10, 11, 12, 13, 14, 15, 16, 17, 18, 19, 20, 21, 22, 23, 24, 25, 26, 27, 28, 29], [0, 1, 2, 3, 4, 5, 6, 7, 8, 9, 10, 11, 12, 13, 14, 15, 16, 17, 18, 19, 20, 21, 22, 23, 24, 25, 26, 27, 28, 29, 30], [0, 1, 2, 3, 4, 5, 6, 7, 8, 9, 10, 11, 12, 13, 14, 15, 16, 17, 18, 19, 20, 21, 22, 23, 24, 25, 26, 27, 28, 29, 30, 31], [0, 1, 2, 3, 4, 5, 6, 7, 8, 9, 10, 11, 12, 13, 14, 15, 16, 17, 18, 19, 20, 21, 22, 23, 24, 25, 26, 27, 28, 29, 30, 31, 32], [0, 1, 2, 3, 4, 5, 6, 7, 8, 9, 10, 11, 12, 13, 14, 15, 16, 17, 18, 19, 20, 21, 22, 23, 24, 25, 26, 27, 28, 29, 30, 31, 32, 33], [0, 1, 2, 3, 4, 5, 6, 7, 8, 9, 10, 11, 12, 13, 14, 15, 16, 17, 18, 19, 20, 21, 22, 23, 24, 25, 26, 27, 28, 29, 30, 31, 32, 33, 34], [0, 1, 2, 3, 4, 5, 6, 7, 8, 9, 10, 11, 12, 13, 14, 15, 16, 17, 18, 19, 20, 21, 22, 23, 24, 25, 26, 27, 28, 29, 30, 31, 32, 33, 34, 35], [0, 1, 2, 3, 4, 5, 6, 7, 8, 9, 10, 11, 12, 13, 14, 15, 16, 17, 18, 19, 20, 21, 22, 23, 24, 25, 26, 27, 28, 29, 30, 31, 32, 33, 34, 35, 36]] : List (List Nat)).getD k []) (by kernel_rfl) (by kernel_rfl) Ext.pre (mono_cons (stays_ints _) (mono_nil)) ?_
            simp only [List.take_succ_cons, List.take_zero]
            repeat (first | (with_reducible refine lexL_quiet' (v := ?_) ?_ ?_ ?_ ?_; rotate_left; (· with_reducible rfl); (· simp [factsOf]); (· intro w1 hw1 _; go_simp; with_reducible rfl); (try simp only [Act.put, List.setIfInBounds_toArray, List.set_cons_zero, List.set_cons_succ])) | (with_reducible refine lexL_skip ?_ ?_; (· simp [Region.wanted, yielded, undef]); (try simp only [Act.put, List.setIfInBounds_toArray, List.set_cons_zero, List.set_cons_succ])) | (with_reducible refine lexL_quiet (v := ?_) ?_ ?_ ?_ ?_; rotate_left; (· simp [Region.wanted, yielded, undef]); (· simp [factsOf]); (· intro w1 hw1 _; go_simp; with_reducible rfl); (try simp only [Act.put, List.setIfInBounds_toArray, List.set_cons_zero, List.set_cons_succ])))
            with_reducible refine lexL_give (φ := ?_) ?_ ?_ ?_ ?_; rotate_left; (· simp [Region.wanted, yielded, undef]); (· simp only [factsOf, Nat.reduceAdd, ↓reduceIte, Nat.reduceEqDiff]; rfl)
            · intro w1 hw1 _
              go_simp
              refine (HRUN.out w1 (hE35.trans hw1) s hsn).mono ?_
              rintro e w2 ⟨⟨u, c, rfl, hu⟩, hb⟩
              exact ⟨_, rfl, hb, c, hu⟩
            rintro v3 w1 hw1 h3 hk1
            clear hk1 hw1 h3 w1
            (try simp only [Act.put, List.setIfInBounds_toArray, List.set_cons_zero, List.set_cons_succ])
            repeat (first | (with_reducible refine lexL_quiet' (v := ?_) ?_ ?_ ?_ ?_; rotate_left; (· with_reducible rfl); (· simp [factsOf]); (· intro w1 hw1 _; go_simp; with_reducible rfl); (try simp only [Act.put, List.setIfInBounds_toArray, List.set_cons_zero, List.set_cons_succ])) | (with_reducible refine lexL_skip ?_ ?_; (· simp [Region.wanted, yielded, undef]); (try simp only [Act.put, List.setIfInBounds_toArray, List.set_cons_zero, List.set_cons_succ])) | (with_reducible refine lexL_quiet (v := ?_) ?_ ?_ ?_ ?_; rotate_left; (· simp [Region.wanted, yielded, undef]); (· simp [factsOf]); (· intro w1 hw1 _; go_simp; with_reducible rfl); (try simp only [Act.put, List.setIfInBounds_toArray, List.set_cons_zero, List.set_cons_succ])))
            with_reducible refine lexL_nil ?_; intro w1 hw1 hk1; simp only [List.drop_succ_cons, List.drop_zero]
            obtain ⟨c3, g3⟩ := hk1.get 25 rfl rfl
            clear hk1
            go_wp2_with (first
              | (go_at_call 14; refine (HRUN.out w1 (hE35.trans hw1) t htn).mono ?_; rintro e w2 ⟨⟨u7, c7, rfl, g7⟩, hE82⟩)
              | (go_at_call 13; refine (same_yes w2 _ _ _ _ c3 c7 (g3.ext hE82) g7 HRU.out).mono ?_; rintro e w9 ⟨rfl, hE89⟩)
              | (go_at_call 15; refine (lives_any _).mono ?_; rintro e W9 ⟨rfl, hE9⟩))
            go_ret
            exact ⟨rfl, hEW.trans (hE05.trans (hw1.trans (hE82.trans (hE89.trans hE9))))⟩
          | false =>
            rw [hpq] at HEQ
            go_upto_region 7 with (first
              | (go_at_call 22; refine HEQ.mono ?_; rintro e W4 ⟨rfl, hE4⟩; have hE34 := hE3.trans hE4; have y0 := hz0 _ hE34; have y1 := hz1 _ hE34; have y2 := q2 _ hE34; have y3 := q0 _ hE34; have y4 := q1 _ hE34)
              | (go_at_call 18; refine (hcs W4 (hE3.trans hE4)).mono ?_; rintro e W5 ⟨⟨pv, cp, rfl, hpv⟩, hE5⟩))
            obtain ⟨Ap, rfl, hpc, _, hpm⟩ := hpv
            obtain ⟨bp, op, rfl, hbp, ps⟩ := hpc.at_int hsP
            obtain ⟨bp', op', hA, _, pt⟩ := hpc.at_int htP
            cases hA
            have hE35 := hE4.trans hE5
            have hE05 := hE3.trans hE35
            have hz0 : ∀ w', Ext W5 w' → w'.cell? ⟨w.heap.size + 1, 0, none⟩ = some (.int .i64 s) := fun w' h => hz0 w' (hE05.trans h)
            have hz1 : ∀ w', Ext W5 w' → w'.cell? ⟨w.heap.size + 1, 1, none⟩ = some (.int .i64 t) := fun w' h => hz1 w' (hE05.trans h)
            have ps : ∀ w', Ext W5 w' → w'.cell? ⟨bp, op + s, none⟩ = some (.int .i64 P[s]) := fun w' h => h.cell ps
            have pt : ∀ w', Ext W5 w' → w'.cell? ⟨bp, op + t, none⟩ = some (.int .i64 P[t]) := fun w' h => h.cell pt
            clear HCW HEQ hcs hyy hpc hbp y0 y1 y2 y3 y4 q0 q1 q2
            refine wp_region_ext 30 (factsOf [(25, fun v w => ∃ c, IntsC w v (runL m s ws) c)]) (fun k => ([[], [0], [0, 1], [0, 1, 2], [0, 1, 2], [0, 1, 2], [0, 1, 2, 5], [0, 1, 2, 4, 5, 6], [0, 1, 2, 4, 5, 6, 7], [0, 1, 2], [0, 1, 2], [0, 1, 2, 10], [0, 1, 2, 9, 10, 11], [0, 1, 2, 9, 10, 11, 12], [0, 1, 2, 4, 5, 6, 7, 8, 9, 10, 11, 12, 13], [0, 1, 2, 3, 4, 5, 6, 7, 8, 9, 10, 11, 12, 13, 14], [0, 1, 2, 3, 4, 5, 6, 7, 8, 9, 10, 11, 12, 13, 14, 15], [0, 1, 2, 3, 4, 5, 6, 7, 8, 9, 10, 11, 12, 13, 14, 15, 16], [0, 1, 2, 3, 4, 5, 6, 7, 8, 9, 10, 11, 12, 13, 14, 15, 16, 17], [0, 1, 2, 3, 4, 5, 6, 7, 8, 9, 10, 11, 12, 13, 14, 15, 16, 17, 18], [0, 1, 2, 3, 4, 5, 6, 7, 8, 9, 10, 11, 12, 13, 14, 15, 16, 17, 18, 19], [0, 1, 2, 3, 4, 5, 6, 7, 8, 9, 10, 11, 12, 13, 14, 15, 16, 17, 18, 19, 20], [0, 1, 2, 3, 4, 5, 6, 7, 8, 9, 10, 11, 12, 13, 14, 15, 16, 17, 18, 19, 20], [0, 1, 2, 3, 4, 5, 6, 7, 8, 9, 10, 11, 12, 13, 14, 15, 16, 17, 18, 19, 20, 22], [0, 1, 2, 3, 4, 5, 6, 7, 8, 9, 10, 11, 12, 13, 14, 15, 16, 17, 18, 19, 20], [0, 1, 2, 3, 4, 5, 6, 7, 8, 9, 10, 11, 12, 13, 14, 15, 16, 17, 18, 19, 20, 21, 22, 23, 24], [0, 1, 2, 3, 4, 5, 6, 7, 8, 9, 10, 11, 12, 13, 14, 15, 16, 17, 18, 19, 20], [0, 1, 2, 3, 4, 5, 6, 7, 8, 9, 10, 11, 12, 13, 14, 15, 16, 17, 18, 19, 20], [0, 1, 2, 3, 4, 5, 6, 7, 8, 9, 10, 11, 12, 13, 14, 15, 16, 17, 18, 19, 20, 27], [0, 1, 2, 3, 4, 5, 6, 7, 8, 9, 10, 11, 12, 13, 14, 15, 16, 17, 18, 19, 20], [0, 1, 2, 3, 4, 5, 6, 7, 8, 9, 10, 11, 12, 13, 14, 15, 16, 17, 18, 19, 20, 21, 22, 23, 24, 25, 26, 27, 28, 29], [0, 1, 2, 3, 4, 5, 6, 7, 8, 9, 10, 11, 12, 13, 14, 15, 16, 17, 18, 19, 20, 21, 22, 23, 24, 25, 26, 27, 28, 29, 30], [0, 1, 2, 3, 4, 5, 6, 7, 8, 9, 10, 11, 12, 13, 14, 15, 16, 17, 18, 19, 20, 21, 22, 23, 24, 25, 26, 27, 28, 29, 30, 31], [0, 1, 2, 3, 4, 5, 6, 7, 8, 9, 10, 11, 12, 13, 14, 15, 16, 17, 18, 19, 20, 21, 22, 23, 24, 25, 26, 27, 28, 29, 30, 31, 32], [0, 1, 2, 3, 4, 5, 6, 7, 8, 9, 10, 11, 12, 13, 14, 15, 16, 17, 18, 19, 20, 21, 22, 23, 24, 25, 26, 27, 28, 29, 30, 31, 32, 33], [0, 1, 2, 3, 4, 5, 6, 7, 8, 9, 10, 11, 12, 13, 14, 15, 16, 17, 18, 19, 20, 21, 22, 23, 24, 25, 26, 27, 28, 29, 30, 31, 32, 33, 34], [0, 1, 2, 3, 4, 5, 6, 7, 8, 9, 10, 11, 12, 13, 14, 15, 16, 17, 18, 19, 20, 21, 22, 23, 24, 25, 26, 27, 28, 29, 30, 31, 32, 33, 34, 35], [0, 1, 2, 3, 4, 5, 6, 7, 8, 9, 10, 11, 12, 13, 14, 15, 16, 17, 18, 19, 20, 21, 22, 23, 24, 25, 26, 27, 28, 29, 30, 31, 32, 33, 34, 35, 36]] : List (List Nat)).getD k []) (by kernel_rfl) (by kernel_rfl) Ext.pre (mono_cons (stays_ints _) (mono_nil)) ?_
            simp only [List.take_succ_cons, List.take_zero]
            repeat (first | (with_reducible refine lexL_quiet' (v := ?_) ?_ ?_ ?_ ?_; rotate_left; (· with_reducible rfl); (· simp [factsOf]); (· intro w1 hw1 _; go_simp; with_reducible rfl); (try simp only [Act.put, List.setIfInBounds_toArray, List.set_cons_zero, List.set_cons_succ])) | (with_reducible refine lexL_skip ?_ ?_; (· simp [Region.wanted, yielded, undef]); (try simp only [Act.put, List.setIfInBounds_toArray, List.set_cons_zero, List.set_cons_succ])) | (with_reducible refine lexL_quiet (v := ?_) ?_ ?_ ?_ ?_; rotate_left; (· simp [Region.wanted, yielded, undef]); (· simp [factsOf]); (· intro w1 hw1 _; go_simp; with_reducible rfl); (try simp only [Act.put, List.setIfInBounds_toArray, List.set_cons_zero, List.set_cons_succ])))
            with_reducible refine lexL_nil ?_; intro w1 hw1 hk1; simp only [List.drop_succ_cons, List.drop_zero]
            clear hk1
            go_wp2_with (go_at_call 15; refine (lives_any _).mono ?_; rintro e W9 ⟨rfl, hE9⟩)
            go_ret
            exact ⟨rfl, hEW.trans (hE05.trans (hw1.trans hE9))⟩
#print axioms RefinesEquivalent_any
end Go.Proofs.Ytkmcplhgakpneaa
