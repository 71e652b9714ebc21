/- gauntletlaw07.RefinesRounds: the walk. -/
import Derived.Test.YtkmcplhgakpneaaW1
import Derived.Test.YtkmcplhgakpneaaL1
namespace Go.Proofs.Ytkmcplhgakpneaa
open Go.RowKit Go.Maps
set_option linter.unusedVariables false
set_option linter.unusedSimpArgs false
attribute [local go_sem] Oper.quietV quietV Oper.gives givesV ext_refl_iff ext_alloc_iff ext_drew_iff ext_drewN_iff

theorem RawV.ext {w w' : World} {v : Value} {r : Raw} (h : RawV w v r) (e : Ext w w') : RawV w' v r := by
  obtain ⟨ev, c, hv, ⟨A, he, hc, h1, h2, h3⟩, h4⟩ := h
  exact ⟨ev, c, hv, ⟨A, he, hc.ext e, h1, h2, h3⟩, h4⟩

theorem stays_ints (xs : List Int) : Stays Ext (fun v w => ∃ c, IntsC w v xs c) := fun _ _ _ hE ⟨c, h⟩ => ⟨c, h.ext hE⟩
theorem pow_nat (b : Nat) : ∀ n, pow (b : Int) n = ((b ^ n : Nat) : Int)
  | 0 => rfl
  | n + 1 => by rw [pow, pow_nat b n, Nat.pow_succ]; push_cast; first | rfl | rw [Int.mul_comm]
theorem pow_small {b k : Nat} (hb : 1 ≤ b ∧ b ≤ 3) (hk : k ≤ 4) : b ^ k ≤ 81 :=
  Nat.le_trans (Nat.pow_le_pow_left hb.2 k) (Nat.le_trans (Nat.pow_le_pow_right (by omega) hk) (by decide))

set_option maxRecDepth 100000 in
set_option maxHeartbeats 2000000 in
theorem RefinesRounds_any (w : World) (v : Value) (r : Raw) (hr : RawV w v r) (z : Nat) (hz : z < 256) : Calls Try.prog 3 #[v, .int .u8 z] w fun e w' => e = .returned (.bool true) ∧ Ext w w' := by
  obtain ⟨ev, c, rfl, hu, hb1, hb2, hb3⟩ := id hr
  obtain ⟨i0, hi0, hz0, hz1, hz2⟩ := info_parts int_info
  have hV := raw_valid r
  obtain ⟨M, hM, hstep, hend⟩ := rounds_end hV
  have hsz := hV.size
  go_enter Try.func3, Try.ntmps3
  go_upto_region 1 with fail
  refine wp_named ?_
  intro W1 hW1
  have hE1 : Ext w W1 := by rw [hW1]; exact (Ext.refl _).alloc _
  have k0 : ∀ w', Ext W1 w' → w'.cell? ⟨w.heap.size, 0, none⟩ = some (.int .u8 r.states) := fun w' h => h.cell (by rw [hW1]; simp [go_sem])
  have k1 : ∀ w', Ext W1 w' → w'.cell? ⟨w.heap.size, 1, none⟩ = some (.int .u8 r.inputs) := fun w' h => h.cell (by rw [hW1]; simp [go_sem])
  have k2 : ∀ w', Ext W1 w' → w'.cell? ⟨w.heap.size, 2, none⟩ = some (.int .u8 r.outputs) := fun w' h => h.cell (by rw [hW1]; simp [go_sem])
  have k3 : ∀ w', Ext W1 w' → w'.cell? ⟨w.heap.size, 3, none⟩ = some (.bool r.part) := fun w' h => h.cell (by rw [hW1]; simp [go_sem])
  have k4 : ∀ w', Ext W1 w' → w'.cell? ⟨w.heap.size, 4, none⟩ = some ev := fun w' h => h.cell (by rw [hW1]; simp [go_sem])
  clear hW1
  obtain ⟨Ae, rfl, hu2⟩ := hu
  clear hu2
  have hof := Of_any W1 _ r (hr.ext hE1)
  generalize hmm : r.mach = m at *
  have hins : m.ins = (r.ins : Int) := by rw [← hmm]; rfl
  have hi13 : 1 ≤ r.ins ∧ r.ins ≤ 3 := by unfold Raw.ins; omega
  go_upto_region 2 with (go_at_call 9; refine hof.mono ?_; rintro e W2 ⟨⟨mv, rfl, ⟨rv, cr, rfl, hrows⟩⟩, hE2⟩; obtain ⟨Ar, vs, rfl, hrr⟩ := id hrows; clear hrr)
  refine wp_named ?_
  intro W hW
  have hm : ∀ w', Ext W w' → MachV w' (.agg #[.int .i64 r.ins, .int .i64 m.outs, .slice Ar m.rows.length cr]) m := fun w' h =>
    ⟨_, cr, by rw [hins], hrows.ext (by refine Ext.trans ?_ h; rw [hW]; exact (Ext.refl _).alloc _)⟩
  have q0 : ∀ w', Ext W w' → w'.cell? ⟨W2.heap.size, 0, none⟩ = some (.int .i64 r.ins) := fun w' h => h.cell (by rw [hW]; simp [go_sem])
  have q1 : ∀ w', Ext W w' → w'.cell? ⟨W2.heap.size, 1, none⟩ = some (.int .i64 m.outs) := fun w' h => h.cell (by rw [hW]; simp [go_sem])
  have q2 : ∀ w', Ext W w' → w'.cell? ⟨W2.heap.size, 2, none⟩ = some (.slice Ar m.rows.length cr) := fun w' h => h.cell (by rw [hW]; simp [go_sem])
  have hEW : Ext w W := by rw [hW]; exact (hE1.trans hE2).alloc _
  generalize W2.heap.size = N at *
  have HINS := Lib.hid hins
  clear hW hrows hof k0 k1 k2 k3 k4 hr hins
  go_upto_region 3 with fail
  have hK : (z : Int) % 5 = ((z % 5 : Nat) : Int) := by push_cast; rfl
  simp only [hK]
  have hK4 : z % 5 ≤ 4 := by omega
  generalize z % 5 = K at *
  clear hK
  have hrd := Rounds_any W _ m (hm _ (Ext.refl W)) hV K (by omega) M hstep hend
  have hlen := iterL_length m K
  have hrc := refCheck_iterL m (by omega) K
  have hwd : ∀ s t : Nat, s < m.rows.length → t < m.rows.length → ((iterL m K).getD s 0 = (iterL m K).getD t 0 ↔ ∀ n, n < r.ins ^ K → runL m s (dig r.ins K n) = runL m t (dig r.ins K n)) := fun s t hs ht => by
    rw [getD_lt (by omega), getD_lt (by omega)]
    exact (iterL_words hV K hs ht).trans (words_iff (by omega) HINS.out K s t)
  generalize iterL m K = P at *
  have HR := Lib.hid hrc
  have HW := Lib.hid (And.intro hlen hwd)
  clear hrc hlen hwd hstep hend
  go_upto_region 4 with (go_at_call 10; refine hrd.mono ?_; rintro e W3 ⟨⟨pv, rfl, hpf⟩, hE3⟩)
  clear hrd
  have hrc := refCheck_any W3 pv P _ hpf
  rw [HR.out] at hrc
  obtain ⟨Ap, rfl, hpc, -, hpm⟩ := id hpf
  have hPl := HW.out.1
  have hPb : ((P.length : Int) != (m.rows.length : Int)) = false := by rw [hPl]; simp
  have HPL := Lib.hid hPl
  clear hPl
  go_upto_region 6 with (go_at_call 11; refine hrc.mono ?_; rintro e W4 ⟨rfl, hE4⟩)
  have hpc := hpc.ext hE4
  have hE4 := hE3.trans hE4
  have hEW4 := hEW.trans hE4
  have q0 : ∀ w', Ext W4 w' → w'.cell? ⟨N, 0, none⟩ = some (.int .i64 r.ins) := fun w' h => q0 w' (hE4.trans h)
  have q1 : ∀ w', Ext W4 w' → w'.cell? ⟨N, 1, none⟩ = some (.int .i64 m.outs) := fun w' h => q1 w' (hE4.trans h)
  have q2 : ∀ w', Ext W4 w' → w'.cell? ⟨N, 2, none⟩ = some (.slice Ar m.rows.length cr) := fun w' h => q2 w' (hE4.trans h)
  have hm : ∀ w', Ext W4 w' → MachV w' (.agg #[.int .i64 r.ins, .int .i64 m.outs, .slice Ar m.rows.length cr]) m := fun w' h => hm w' (hE4.trans h)
  have hP64 : P.length ≤ 64 := by have := HPL.out; omega
  have hins0 : ¬ r.ins = 0 := by omega
  generalize Value.agg #[.int .u8 r.states, .int .u8 r.inputs, .int .u8 r.outputs, .bool r.part, .slice Ae r.edges.length c] = v0
  go_wp2
  go_loopw [9] (fun i wr => ∃ s : Nat, s ≤ P.length ∧ i = .int .i64 s ∧ Ext W4 wr) (fun i _ => P.length - (intOf i).toNat)
  case atStart => exact ⟨0, by omega, rfl, Ext.refl _⟩
  case round =>
    obtain ⟨s, hs, rfl, hE⟩ := hrel
    by_cases hsl : s < P.length
    · go_wp2
      go_loopw [10] (fun i w5 => ∃ t : Nat, t ≤ s ∧ i = .int .i64 t ∧ Ext W4 w5) (fun i _ => s - (intOf i).toNat)
      case atStart => exact ⟨0, by omega, rfl, hE⟩
      case round =>
        obtain ⟨t, ht, rfl, hE5⟩ := hrel
        obtain ⟨W5, hW5⟩ : ∃ W, W = wr := ⟨_, rfl⟩
        subst hW5
        by_cases htl : t < s
        · have hA := pow_small hi13 hK4
          have hpw := power_any W5 r.ins K (by omega) (fun k hk => by rw [pow_nat]; have := pow_small hi13 (show k ≤ 4 by omega); omega)
          rw [pow_nat] at hpw
          have hcls := HW.out.2 s t (by have := HPL.out; omega) (by have := HPL.out; omega)
          rw [getD_lt hsl, getD_lt (show t < P.length by omega)] at hcls
          generalize hAA : r.ins ^ K = A at *
          have HC := Lib.hid hcls
          clear hcls
          go_upto_region 14 with (go_at_call 12; refine hpw.mono ?_; rintro e W6 ⟨rfl, hE6⟩)
          have hE46 := hE5.trans hE6
          go_wp2
          go_loopw [13, 11] (fun nv bv w7 => ∃ (n : Nat) (b : Bool), n ≤ A ∧ nv = .int .i64 n ∧ bv = .bool b ∧ (b = true → ∀ j, j < n → runL m s (dig r.ins K j) = runL m t (dig r.ins K j)) ∧ (b = false → ∃ j, j < A ∧ runL m s (dig r.ins K j) ≠ runL m t (dig r.ins K j)) ∧ Ext W4 w7) (fun nv _ _ => A - (intOf nv).toNat)
          case atStart => exact ⟨0, true, by omega, rfl, rfl, fun _ j hj => by omega, fun h => by simp at h, hE46⟩
          case round =>
            obtain ⟨n, b, hnA, rfl, rfl, hbt, hbf, hE7⟩ := hrel
            obtain ⟨W7, hW7⟩ : ∃ W, W = wr := ⟨_, rfl⟩
            subst hW7
            have HB := Lib.hid (And.intro hbt hbf)
            clear hbt hbf
            by_cases hgo : n < A ∧ b = true
            · obtain ⟨hnl, rfl⟩ := hgo
              go_wp2
              go_loopw [16, 14, 15] (fun iv wv vv w8 => ∃ k : Nat, k ≤ K ∧ iv = .int .i64 k ∧ vv = .int .i64 ((n / r.ins ^ k : Nat) : Int) ∧ Ext W7 w8 ∧ w8.ownsRow W7.heap.size 3 1 wv (dig r.ins k n).length ((dig r.ins k n).map (.int .i64))) (fun iv _ _ _ => K - (intOf iv).toNat)
              case atStart => exact ⟨0, by omega, rfl, by simp, Ext.refl _, World.ownsRow_nil _ _ _ _⟩
              case round =>
                obtain ⟨k, hkK, rfl, rfl, hE8, hown⟩ := hrel
                obtain ⟨W8, hW8⟩ : ∃ W, W = wr := ⟨_, rfl⟩
                subst hW8
                by_cases hkl : k < K
                · have hdl := dig_length r.ins k n
                  have hsn := dig_snoc r.ins k n
                  have hdiv : n / r.ins ^ (k + 1) = n / r.ins ^ k / r.ins := by rw [Nat.pow_succ, Nat.div_div_eq_div_mul]
                  have hq0 : n / r.ins ^ k ≤ n := Nat.div_le_self _ _
                  generalize n / r.ins ^ k = q at *
                  have HS := Lib.hid (And.intro hsn (And.intro hdiv hdl))
                  have hE78 := hE7.trans hE8
                  clear hsn hdiv
                  go_wp2_with (at_builtin; refine wpList_append_own _ rfl _ _ 29 rfl W7.heap.size 3 i0 (.int .i64 0) 1 8 Try.underlying29 hi0 hz0 hz1 hz2 rfl (by decide) _ _ _ rfl (hown.alloc _) ⟨W8.heap.size, 0, none⟩ 1 1 [.int .i64 ((q : Int) % (r.ins : Int))] rfl rfl (cell_one_new _ _ _) (ints_oneCell _ [(q : Int) % (r.ins : Int)]) (by unfold maxLen; omega) (by omega) (by have := hE8.size; simp; omega) ?_; intro v3 w3 hown3 hg3 _; have hE83 := ext_grown (hE8.alloc _) (hown.alloc _) (Nat.le_refl _) hg3; have hE43 := hE7.trans hE83)
                  go_roundw
                  case rel =>
                    refine ⟨k + 1, by omega, by go_num, ?_, hE83, ?_⟩
                    · rw [HS.out.2.1, show (q : Int) / (r.ins : Int) = ((q / r.ins : Nat) : Int) by push_cast; rfl]
                      have := Nat.div_le_self q r.ins
                      generalize q / r.ins = d at *
                      congr 1
                      unfold wrap64
                      omega
                    · rw [HS.out.1, List.length_append, List.map_append]
                      have : [((q % r.ins : Nat) : Int)].map (Value.int .i64) = [.int .i64 ((q : Int) % (r.ins : Int))] := by simp
                      rw [this]; exact hown3
                  case measure => simp [intOf]; omega
                · have hkk : k = K := by omega
                  subst hkk
                  obtain ⟨cw, hwi⟩ := ints_of_owns hown (by rw [dig_length]; unfold lenMax; omega)
                  have hdg := fun (x : Int) (hx : x ∈ dig r.ins k n) => dig_mem (b := r.ins) (by omega) k n x hx
                  have hdl := dig_length r.ins k n
                  have hInn : ∀ x ∈ dig r.ins k n, InOK m x := fun x hx => ⟨(hdg x hx).1, by rw [HINS.out]; exact (hdg x hx).2⟩
                  have hE78 := hE7.trans hE8
                  generalize hws : dig r.ins k n = ws at *
                  have HIN := Lib.hid hInn
                  have HWS := Lib.hid hws
                  obtain ⟨Aw, rfl, hwc⟩ := id hwi
                  have hss : StateOK m (s : Int) := ⟨by omega, by have := HPL.out; omega⟩
                  have htt : StateOK m (t : Int) := ⟨by omega, by have := HPL.out; omega⟩
                  clear hInn hws hdg hwc hown
                  have hwl : ws.length ≤ 100000 := by omega
                  have HDL := Lib.hid hdl
                  clear hdl
                  have g0 : ∀ w', Ext W8 w' → w'.cell? ⟨N, 0, none⟩ = some (.int .i64 r.ins) := fun w' h => q0 w' (hE78.trans h)
                  have g1 : ∀ w', Ext W8 w' → w'.cell? ⟨N, 1, none⟩ = some (.int .i64 m.outs) := fun w' h => q1 w' (hE78.trans h)
                  have g2 : ∀ w', Ext W8 w' → w'.cell? ⟨N, 2, none⟩ = some (.slice Ar m.rows.length cr) := fun w' h => q2 w' (hE78.trans h)
                  go_upto_region 23 with fail
                  refine wp_region_ext 7 (factsOf [(3, fun v w => ∃ c, IntsC w v (runL m s ws) c)]) (fun k => ([[], [], [], [0, 1, 2], [], [], [], [0, 1, 2, 3, 4, 5, 6], [0, 1, 2, 3, 4, 5, 6, 7], [0, 1, 2, 3, 4, 5, 6, 7, 8]] : List (List Nat)).getD k []) (by kernel_rfl) (by kernel_rfl) Ext.pre (mono_cons (stays_ints _) (mono_nil)) ?_
                  simp only [List.take_succ_cons, List.take_zero]
                  repeat (first | (with_reducible refine lexL_quiet' (v := ?_) ?_ ?_ ?_ ?_; rotate_left; (· with_reducible rfl); (· simp [factsOf]); (· intro w1 hw1 _; go_simp; with_reducible rfl); (try simp only [Act.put, List.setIfInBounds_toArray, List.set_cons_zero, List.set_cons_succ])) | (with_reducible refine lexL_skip ?_ ?_; (· simp [Region.wanted, yielded, undef]); (try simp only [Act.put, List.setIfInBounds_toArray, List.set_cons_zero, List.set_cons_succ])) | (with_reducible refine lexL_quiet (v := ?_) ?_ ?_ ?_ ?_; rotate_left; (· simp [Region.wanted, yielded, undef]); (· simp [factsOf]); (· intro w1 hw1 _; go_simp; with_reducible rfl); (try simp only [Act.put, List.setIfInBounds_toArray, List.set_cons_zero, List.set_cons_succ])))
                  with_reducible refine lexL_give' (φ := ?_) ?_ ?_ ?_ ?_; rotate_left; (· with_reducible rfl); (· simp only [factsOf, Nat.reduceAdd, ↓reduceIte, Nat.reduceEqDiff]; rfl)
                  · intro w1 hw1 _
                    go_simp
                    refine (run_any w1 _ _ m (hm _ (hE78.trans hw1)) hV s ws cw (hwi.ext hw1) hss HIN.out hwl).mono ?_
                    rintro e w2 ⟨⟨u, c, rfl, hu⟩, hb⟩
                    exact ⟨_, rfl, hb, c, hu⟩
                  rintro v3 w1 hw1 h3 hk1
                  clear hk1 hw1 h3 w1
                  (try simp only [Act.put, List.setIfInBounds_toArray, List.set_cons_zero, List.set_cons_succ])
                  repeat (first | (with_reducible refine lexL_quiet' (v := ?_) ?_ ?_ ?_ ?_; rotate_left; (· with_reducible rfl); (· simp [factsOf]); (· intro w1 hw1 _; go_simp; with_reducible rfl); (try simp only [Act.put, List.setIfInBounds_toArray, List.set_cons_zero, List.set_cons_succ])) | (with_reducible refine lexL_skip ?_ ?_; (· simp [Region.wanted, yielded, undef]); (try simp only [Act.put, List.setIfInBounds_toArray, List.set_cons_zero, List.set_cons_succ])) | (with_reducible refine lexL_quiet (v := ?_) ?_ ?_ ?_ ?_; rotate_left; (· simp [Region.wanted, yielded, undef]); (· simp [factsOf]); (· intro w1 hw1 _; go_simp; with_reducible rfl); (try simp only [Act.put, List.setIfInBounds_toArray, List.set_cons_zero, List.set_cons_succ])))
                  with_reducible refine lexL_nil ?_; intro w1 hw1 hk1; simp only [List.drop_succ_cons, List.drop_zero]
                  obtain ⟨c3, g3⟩ := hk1.get 3 rfl rfl
                  clear hk1
                  have hE81 := hE78.trans hw1
                  have hrt := run_any w1 _ _ m (hm _ hE81) hV t ws cw (hwi.ext hw1) htt HIN.out hwl
                  go_wp2_with (first
                    | (go_at_call 14; refine hrt.mono ?_; rintro e w2 ⟨⟨u7, c7, rfl, g7⟩, hE82⟩)
                    | (go_at_call 13; refine (same_any w2 _ _ _ _ c3 c7 (g3.ext hE82) g7).mono ?_; rintro e w9 ⟨rfl, hE89⟩))
                  go_roundw
                  case rel =>
                    by_cases hsame : runL m s ws = runL m t ws
                    · refine ⟨n + 1, true, by omega, by go_num, by simp [hsame], fun _ j hj => ?_, fun h => by simp at h, (hE81.trans hE82).trans hE89⟩
                      by_cases hjn : j = n
                      · subst hjn; rw [HWS.out]; exact hsame
                      · exact HB.out.1 trivial j (by omega)
                    · refine ⟨n + 1, false, by omega, by go_num, by simp [hsame], fun h => by simp at h, fun _ => ⟨n, hnl, by rw [HWS.out]; exact hsame⟩, (hE81.trans hE82).trans hE89⟩
                  case measure => simp [intOf]; omega
            · have htP : t < P.length := by omega
              obtain ⟨bp, op, rfl, hbp, cs⟩ := hpc.at_int hsl
              obtain ⟨bp', op', hA', hbp', ct⟩ := hpc.at_int htP
              cases hA'
              have cs := hE7.cell cs
              have ct := hE7.cell ct
              have hsl' : (s : Int) < (P.length : Int) := by omega
              have htl' : (t : Int) < (P.length : Int) := by omega
              cases b with
              | false =>
                have hne : (P[s] == P[t]) = false := by
                  rw [beq_eq_false_iff_ne]
                  intro he
                  obtain ⟨j, hj, hjn⟩ := HB.out.2 rfl
                  exact hjn (HC.out.1 he j hj)
                by_cases hnl : n < A
                · go_wp2
                  go_quiet (fail)
                  go_wp2
                  go_roundw
                  case rel => exact ⟨t + 1, by omega, by go_num, hE7.drewN _⟩
                  case measure => simp [intOf]; omega
                · go_wp2
                  go_quiet (fail)
                  go_wp2
                  go_roundw
                  case rel => exact ⟨t + 1, by omega, by go_num, hE7.drewN _⟩
                  case measure => simp [intOf]; omega
              | true =>
                have hnl : ¬ n < A := fun h => hgo ⟨h, rfl⟩
                have heq : (P[s] == P[t]) = true := by
                  rw [beq_iff_eq]
                  exact HC.out.2 (fun j hj => HB.out.1 rfl j (by omega))
                clear hgo
                go_wp2
                go_quiet (fail)
                go_wp2
                go_roundw
                case rel => exact ⟨t + 1, by omega, by go_num, hE7.drewN _⟩
                case measure => simp [intOf]; omega
        · go_wp2
          go_roundw
          case rel => exact ⟨s + 1, by omega, by go_num, hE5⟩
          case measure => simp [intOf]; omega
    · go_wp2_with (go_at_call 15; refine (lives_any _).mono ?_; rintro e W9 ⟨rfl, hE9⟩)
      go_ret
      exact ⟨rfl, (hEW4.trans hE).trans hE9⟩
#print axioms RefinesRounds_any
end Go.Proofs.Ytkmcplhgakpneaa
