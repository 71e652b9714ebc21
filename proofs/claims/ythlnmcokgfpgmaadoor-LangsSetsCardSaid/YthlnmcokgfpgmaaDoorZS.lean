/- ref23.Check 38. acceptors.Minimal 30, langs.Complement 35: what is not valid is refused. -/
import Derived.Test.YthlnmcokgfpgmaaDoorZH
namespace Go.Proofs.YthlnmcokgfpgmaaDoor
open Go.RowKit
set_option linter.unusedVariables false
set_option linter.unusedSimpArgs false
attribute [local go_sem] Oper.quietV quietV Oper.gives givesV ext_refl_iff ext_alloc_iff ext_drew_iff ext_drewN_iff
theorem checkD_err (d : Dfa) (X : Bool) (h : d.rows.length ≤ 256 → X = (badA d || d.rows.any (badR d.sy d.rows.length))) : errC d.sy d.rows.length (b01 X) = checkD d := by
  unfold errC checkD sizC
  by_cases h1 : 16 < d.sy
  · simp [h1]
  by_cases h2 : (256 : Int) < d.rows.length
  · simp [h1, h2]
  rw [h (by omega), if_neg h1, if_neg h2, if_neg h1, if_neg h2]
  cases badA d <;> cases d.rows.any (badR d.sy d.rows.length) <;> simp [b01]
noncomputable def T38 (n : Nat) : Code := textR n Tryd.f38.body
set_option maxRecDepth 100000 in
set_option maxHeartbeats 8000000 in
theorem chk_t5 (w W1 : World) (b1 : Nat) (d : Dfa) (X : Bool) (c0 c2 c5 c6 c7 c8 c9 c10 c11 c12 c13 c14 c15 c16 c17 c18 c19 c20 c21 c22 c23 c24 c25 c26 c27 c28 c29 c30 c31 c32 c33 c34 c35 c36 c37 c38 c39 c40 c41 c42 c43 c44 c45 c46 c47 c48 c49 c50 c51 c52 c53 c54 c55 c56 c57 c58 c59 c60 c61 c62 c63 c64 c65 c66 c67 c68 c69 c70 c71 c72 c73 c74 c75 c76 c77 : Value) (hX : X = badA d) (hE1 : Ext w W1) (hb : BoxD W1 b1 d) :
    Code.wp Tryd.prog (T38 5) (bodyPost Tryd.prog Tryd.f38 fun e w' => e = .returned (.int .i64 (checkD d)) ∧ Ext w w') ⟨(c0 :: .pointer (some ⟨b1, 0, none⟩) :: c2 :: .int .i64 d.rows.length :: .int .i64 (b01 X) :: c5 :: c6 :: c7 :: c8 :: c9 :: c10 :: c11 :: c12 :: c13 :: c14 :: c15 :: c16 :: c17 :: c18 :: c19 :: c20 :: c21 :: c22 :: c23 :: c24 :: c25 :: c26 :: c27 :: c28 :: c29 :: c30 :: c31 :: c32 :: c33 :: c34 :: c35 :: c36 :: c37 :: c38 :: c39 :: c40 :: c41 :: c42 :: c43 :: c44 :: c45 :: c46 :: c47 :: c48 :: c49 :: c50 :: c51 :: c52 :: c53 :: c54 :: c55 :: c56 :: c57 :: c58 :: c59 :: c60 :: c61 :: c62 :: c63 :: c64 :: c65 :: c66 :: c67 :: c68 :: c69 :: c70 :: c71 :: c72 :: c73 :: c74 :: c75 :: c76 :: c77 :: []).toArray, []⟩ W1 := by
  conv => arg 2; whnf
  obtain ⟨Ar, Aa, cr, ca, p0, p1, p2, hD⟩ := hb
  have k0 := fun w' (h : Ext W1 w') => h.cell p0
  have k1 := fun w' (h : Ext W1 w') => h.cell p1
  obtain ⟨rv, cr', av, ca', hv, hr, ha⟩ := hD
  simp only [Value.agg.injEq, Array.mk.injEq, List.cons.injEq, and_true, true_and] at hv
  obtain ⟨rfl, rfl⟩ := hv
  obtain ⟨Ar', vr, hv', _, _, _, _, hrm⟩ := id hr
  unfold lenMax at hrm
  have hE0 := Ext.refl W1
  have HX := Lib.hid hX
  clear hX p0 p1 p2 ha hv'
  go_wp2
  go_loopw [4, 5] (fun wv sv wr => ∃ s : Nat, sv = .int .i64 s ∧ s ≤ d.rows.length ∧ wv = .int .i64 (b01 (X || (d.rows.take s).any (badR d.sy d.rows.length))) ∧ Ext W1 wr) (fun _ sv _ => d.rows.length - (intOf sv).toNat)
  case atStart => exact ⟨0, rfl, by omega, by simp, Ext.refl _⟩
  case round =>
    obtain ⟨s, rfl, hs, rfl, hE⟩ := hrel
    obtain ⟨W3, hW3⟩ : ∃ W, W = wr := ⟨_, rfl⟩; subst hW3
    by_cases hbig : 256 < d.rows.length
    · have H := Lib.hid (checkD_err d (X || (d.rows.take s).any (badR d.sy d.rows.length)) (fun h => by omega))
      have kk0 := k0 W3 hE
      have hbI : ¬ (d.rows.length : Int) ≤ 256 := by omega
      have her := errors_any W3 d.sy d.rows.length (b01 (X || (d.rows.take s).any (badR d.sy d.rows.length)))
      have HEE := Lib.hid (hE1.trans hE)
      generalize (X || (d.rows.take s).any (badR d.sy d.rows.length)) = Z at *
      by_cases hlt : s < d.rows.length
      · have hsI : (s : Int) < (d.rows.length : Int) := by omega
        go_wp2_with ((with_reducible refine her.mono ?_); rintro e w1 ⟨rfl, rfl⟩)
        go_ret
        exact ⟨by rw [← H.out]; rfl, HEE.out⟩
      · have hsI : ¬ (s : Int) < (d.rows.length : Int) := by omega
        go_wp2_with ((with_reducible refine her.mono ?_); rintro e w1 ⟨rfl, rfl⟩)
        go_ret
        exact ⟨by rw [← H.out]; rfl, HEE.out⟩
    have hbI : (d.rows.length : Int) ≤ 256 := by omega
    by_cases hlt : s < d.rows.length
    · have hsI : (s : Int) < (d.rows.length : Int) := by omega
      obtain ⟨b, o, u, c', hv, _, c1, hi⟩ := hr.at_ hlt
      injection hv with hv
      subst hv
      have HT := Lib.hid (any_take (p := badR d.sy d.rows.length) hlt)
      generalize d.rows[s] = r at *
      obtain ⟨A2, rfl, hi2, _, him⟩ := hi
      unfold lenMax at him
      have HB : Hid (badR d.sy d.rows.length r = (((r.length : Int) != d.sy) || r.any (badW d.rows.length))) := rfl
      have kk1 := fun w' (h : Ext W3 w') => k1 w' (hE.trans h)
      have kk0 := fun w' (h : Ext W3 w') => k0 w' (hE.trans h)
      have cc1 := fun w' (h : Ext W3 w') => h.cell (hE.cell c1)
      have hE30 := Ext.refl W3
      cases hl : ((r.length : Int) != d.sy) with
      | true =>
        rw [hl] at HB
        go_upto_region 8 with fail
        go_quiet (fail)
        have hE := hE.trans ((Ext.refl W3).drewN nq)
        clear kk1 kk0 cc1 hE30
        generalize W3.drewN nq = W5 at *
        go_wp2
        go_loopw [4, 6] (fun wv av wr => ∃ a : Nat, av = .int .i64 a ∧ a ≤ r.length ∧ wv = .int .i64 (b01 (true || (r.take a).any (badW d.rows.length))) ∧ Ext W1 wr) (fun _ av _ => r.length - (intOf av).toNat)
        case atStart => exact ⟨0, rfl, by omega, by simp [b01], hE⟩
        case round =>
          obtain ⟨a, rfl, ha, rfl, hE⟩ := hrel
          obtain ⟨W4, hW4⟩ : ∃ W, W = wr := ⟨_, rfl⟩; subst hW4
          have kk1 := k1 W4 hE
          have cc := hE.cell c1
          by_cases hal : a < r.length
          · obtain ⟨b', o', hA2, _, c2⟩ := hi2.at_int hal
            subst hA2
            have c2 := hE.cell c2
            have HT2 := Lib.hid (any_take (p := badW d.rows.length) hal)
            generalize r[a] = y at *
            have hY : Hid (badW d.rows.length y = (decide (y < 0) || decide ((d.rows.length : Int) ≤ y))) := rfl
            have halI : (a : Int) < (r.length : Int) := by omega
            by_cases y1 : y < 0
            · have hn : Hid ((true || (r.take (a + 1)).any (badW d.rows.length)) = true) := by show _ = _; rw [HT2.out, hY.out, decide_eq_true y1]; simp
              go_wp2
              go_roundw
              case rel => exact ⟨a + 1, by go_num, by omega, by rw [hn.out]; rfl, hE⟩
              case measure => simp [intOf]; omega
            by_cases y2 : (d.rows.length : Int) ≤ y
            · have hn : Hid ((true || (r.take (a + 1)).any (badW d.rows.length)) = true) := by show _ = _; rw [HT2.out, hY.out, decide_eq_true y2]; simp
              go_wp2
              go_roundw
              case rel => exact ⟨a + 1, by go_num, by omega, by rw [hn.out]; rfl, hE⟩
              case measure => simp [intOf]; omega
            · have hn : Hid ((true || (r.take (a + 1)).any (badW d.rows.length)) = (true || (r.take a).any (badW d.rows.length))) := by show _ = _; rw [HT2.out, hY.out, decide_eq_false y1, decide_eq_false y2]; simp
              generalize (true || (r.take a).any (badW d.rows.length)) = Z at *
              go_wp2
              go_roundw
              case rel => exact ⟨a + 1, by go_num, by omega, by rw [hn.out], hE⟩
              case measure => simp [intOf]; omega
          · obtain rfl : a = r.length := by omega
            rw [List.take_length]
            have hfin : Hid ((X || (d.rows.take (s + 1)).any (badR d.sy d.rows.length)) = (true || r.any (badW d.rows.length))) := by
              show _ = _
              rw [HT.out, HB.out]
              cases X <;> cases (d.rows.take s).any (badR d.sy d.rows.length) <;> simp
            generalize (true || r.any (badW d.rows.length)) = Z at *
            go_wp2
            go_roundw
            case rel => exact ⟨s + 1, by go_num, by omega, by rw [hfin.out], hE⟩
            case measure => simp [intOf]; omega
      | false =>
        rw [hl] at HB
        go_upto_region 8 with fail
        go_quiet (fail)
        have hE := hE.trans ((Ext.refl W3).drewN nq)
        clear kk1 kk0 cc1 hE30
        generalize W3.drewN nq = W5 at *
        go_wp2
        go_loopw [4, 6] (fun wv av wr => ∃ a : Nat, av = .int .i64 a ∧ a ≤ r.length ∧ wv = .int .i64 (b01 ((X || (d.rows.take s).any (badR d.sy d.rows.length)) || (r.take a).any (badW d.rows.length))) ∧ Ext W1 wr) (fun _ av _ => r.length - (intOf av).toNat)
        case atStart => exact ⟨0, rfl, by omega, by simp [b01], hE⟩
        case round =>
          obtain ⟨a, rfl, ha, rfl, hE⟩ := hrel
          obtain ⟨W4, hW4⟩ : ∃ W, W = wr := ⟨_, rfl⟩; subst hW4
          have kk1 := k1 W4 hE
          have cc := hE.cell c1
          by_cases hal : a < r.length
          · obtain ⟨b', o', hA2, _, c2⟩ := hi2.at_int hal
            subst hA2
            have c2 := hE.cell c2
            have HT2 := Lib.hid (any_take (p := badW d.rows.length) hal)
            generalize r[a] = y at *
            have hY : Hid (badW d.rows.length y = (decide (y < 0) || decide ((d.rows.length : Int) ≤ y))) := rfl
            have halI : (a : Int) < (r.length : Int) := by omega
            by_cases y1 : y < 0
            · have hn : Hid (((X || (d.rows.take s).any (badR d.sy d.rows.length)) || (r.take (a + 1)).any (badW d.rows.length)) = true) := by show _ = _; rw [HT2.out, hY.out, decide_eq_true y1]; simp
              go_wp2
              go_roundw
              case rel => exact ⟨a + 1, by go_num, by omega, by rw [hn.out]; rfl, hE⟩
              case measure => simp [intOf]; omega
            by_cases y2 : (d.rows.length : Int) ≤ y
            · have hn : Hid (((X || (d.rows.take s).any (badR d.sy d.rows.length)) || (r.take (a + 1)).any (badW d.rows.length)) = true) := by show _ = _; rw [HT2.out, hY.out, decide_eq_true y2]; simp
              go_wp2
              go_roundw
              case rel => exact ⟨a + 1, by go_num, by omega, by rw [hn.out]; rfl, hE⟩
              case measure => simp [intOf]; omega
            · have hn : Hid (((X || (d.rows.take s).any (badR d.sy d.rows.length)) || (r.take (a + 1)).any (badW d.rows.length)) = ((X || (d.rows.take s).any (badR d.sy d.rows.length)) || (r.take a).any (badW d.rows.length))) := by show _ = _; rw [HT2.out, hY.out, decide_eq_false y1, decide_eq_false y2]; simp
              generalize ((X || (d.rows.take s).any (badR d.sy d.rows.length)) || (r.take a).any (badW d.rows.length)) = Z at *
              go_wp2
              go_roundw
              case rel => exact ⟨a + 1, by go_num, by omega, by rw [hn.out], hE⟩
              case measure => simp [intOf]; omega
          · obtain rfl : a = r.length := by omega
            rw [List.take_length]
            have hfin : Hid ((X || (d.rows.take (s + 1)).any (badR d.sy d.rows.length)) = ((X || (d.rows.take s).any (badR d.sy d.rows.length)) || r.any (badW d.rows.length))) := by
              show _ = _
              rw [HT.out, HB.out]
              cases X <;> cases (d.rows.take s).any (badR d.sy d.rows.length) <;> simp
            generalize ((X || (d.rows.take s).any (badR d.sy d.rows.length)) || r.any (badW d.rows.length)) = Z at *
            go_wp2
            go_roundw
            case rel => exact ⟨s + 1, by go_num, by omega, by rw [hfin.out], hE⟩
            case measure => simp [intOf]; omega
    · obtain rfl : s = d.rows.length := by omega
      rw [List.take_length]
      have H := Lib.hid (checkD_err d (X || d.rows.any (badR d.sy d.rows.length)) (fun h => by rw [HX.out]))
      have kk0 := k0 W3 hE
      have her := errors_any W3 d.sy d.rows.length (b01 (X || d.rows.any (badR d.sy d.rows.length)))
      have HEE := Lib.hid (hE1.trans hE)
      generalize (X || d.rows.any (badR d.sy d.rows.length)) = Z at *
      go_wp2_with ((with_reducible refine her.mono ?_); rintro e w1 ⟨rfl, rfl⟩)
      go_ret
      exact ⟨by rw [← H.out]; rfl, HEE.out⟩
set_option maxRecDepth 100000 in
set_option maxHeartbeats 8000000 in
theorem refCheck_any (w : World) (dv : Value) (d : Dfa) (hd : DfaV w dv d) : Calls Tryd.prog 38 #[dv] w fun e w' => e = .returned (.int .i64 (checkD d)) ∧ Ext w w' := by
  obtain ⟨rv, cr, av, ca, rfl, hr, ha⟩ := id hd
  obtain ⟨Ar, vr, rfl, _, _, _, _, hrm⟩ := id hr
  obtain ⟨Aa, rfl, hac, _, ham⟩ := id ha
  unfold lenMax at hrm ham
  go_enter Tryd.func38, Tryd.ntmps38
  go_upto_region 1 with fail
  refine wp_named ?_
  intro W1 hW1
  have hE1 : Ext w W1 := by rw [hW1]; exact (Ext.refl _).alloc _
  have k0 : ∀ w', Ext W1 w' → w'.cell? ⟨w.heap.size, 0, none⟩ = some (.int .i64 d.sy) := fun w' h => h.cell (by rw [hW1]; simp [go_sem])
  have k1 : ∀ w', Ext W1 w' → w'.cell? ⟨w.heap.size, 1, none⟩ = some (.slice Ar d.rows.length cr) := fun w' h => h.cell (by rw [hW1]; simp [go_sem])
  have k2 : ∀ w', Ext W1 w' → w'.cell? ⟨w.heap.size, 2, none⟩ = some (.slice Aa d.acc.length ca) := fun w' h => h.cell (by rw [hW1]; simp [go_sem])
  clear hW1
  have hE0 := Ext.refl W1
  have hA : Hid (badA d = (decide (d.sy < 1) || decide ((d.rows.length : Int) < 1) || ((d.acc.length : Int) != (d.rows.length : Int)))) := rfl
  have hB : BoxD W1 w.heap.size d := ⟨Ar, Aa, cr, ca, k0 _ hE0, k1 _ hE0, k2 _ hE0, hd.ext hE1⟩
  clear hr hac
  by_cases h1 : d.sy < 1
  · have H := Lib.hid (show true = badA d by rw [hA.out, decide_eq_true h1]; rfl)
    go_upto_region 999 with (with_reducible refine stop_at2 5 ?_)
    refine ⟨?_⟩
    exact chk_t5 w W1 _ d _ _ _ _ _ _ _ _ _ _ _ _ _ _ _ _ _ _ _ _ _ _ _ _ _ _ _ _ _ _ _ _ _ _ _ _ _ _ _ _ _ _ _ _ _ _ _ _ _ _ _ _ _ _ _ _ _ _ _ _ _ _ _ _ _ _ _ _ _ _ _ _ _ _ _ _ H.out hE1 hB
  by_cases h2 : (d.rows.length : Int) < 1
  · have H := Lib.hid (show true = badA d by rw [hA.out, decide_eq_true h2]; simp)
    have h2' : ((d.rows.length : Int) == 0) = true := by rw [beq_iff_eq]; omega
    clear h2
    go_upto_region 999 with (with_reducible refine stop_at2 5 ?_)
    refine ⟨?_⟩
    exact chk_t5 w W1 _ d _ _ _ _ _ _ _ _ _ _ _ _ _ _ _ _ _ _ _ _ _ _ _ _ _ _ _ _ _ _ _ _ _ _ _ _ _ _ _ _ _ _ _ _ _ _ _ _ _ _ _ _ _ _ _ _ _ _ _ _ _ _ _ _ _ _ _ _ _ _ _ _ _ _ _ _ H.out hE1 hB
  have h2' : ¬ (d.rows.length : Int) = 0 := by omega
  have h2'' : ((d.rows.length : Int) == 0) = false := by simpa using h2'
  cases h3 : ((d.acc.length : Int) != (d.rows.length : Int)) with
  | true =>
    have H := Lib.hid (show true = badA d by rw [hA.out, h3]; simp)
    go_upto_region 999 with (with_reducible refine stop_at2 5 ?_)
    refine ⟨?_⟩
    exact chk_t5 w W1 _ d _ _ _ _ _ _ _ _ _ _ _ _ _ _ _ _ _ _ _ _ _ _ _ _ _ _ _ _ _ _ _ _ _ _ _ _ _ _ _ _ _ _ _ _ _ _ _ _ _ _ _ _ _ _ _ _ _ _ _ _ _ _ _ _ _ _ _ _ _ _ _ _ _ _ _ _ H.out hE1 hB
  | false =>
    have H := Lib.hid (show false = badA d by rw [hA.out, h3, decide_eq_false h1, decide_eq_false h2]; rfl)
    go_upto_region 999 with (with_reducible refine stop_at2 5 ?_)
    refine ⟨?_⟩
    exact chk_t5 w W1 _ d _ _ _ _ _ _ _ _ _ _ _ _ _ _ _ _ _ _ _ _ _ _ _ _ _ _ _ _ _ _ _ _ _ _ _ _ _ _ _ _ _ _ _ _ _ _ _ _ _ _ _ _ _ _ _ _ _ _ _ _ _ _ _ _ _ _ _ _ _ _ _ _ _ _ _ _ H.out hE1 hB
end Go.Proofs.YthlnmcokgfpgmaaDoor

namespace Go.Proofs.YthlnmcokgfpgmaaDoor
open Go.RowKit Go.Maps
set_option linter.unusedVariables false
set_option linter.unusedSimpArgs false
attribute [local go_sem] Oper.quietV quietV Oper.gives givesV ext_refl_iff ext_alloc_iff ext_drew_iff ext_drewN_iff
def zV : Value := .agg #[.int .i64 0, .slice none 0 0, .slice none 0 0]
set_option maxRecDepth 100000 in
set_option maxHeartbeats 4000000 in
theorem minimal_bad (w : World) (dv : Value) (d : Dfa) (hd : DfaV w dv d) (hz : checkD d ≠ 0) : Calls Tryd.prog 30 #[dv] w fun e w' => e = .returned (.tuple #[zV, .int .i64 (checkD d)]) ∧ Ext w w' := by
  obtain ⟨rv, cr, av, ca, rfl, hr, ha⟩ := id hd
  obtain ⟨Ar, vr, rfl, _, _, _, _, hrm⟩ := id hr
  obtain ⟨Aa, rfl, hac, _, ham⟩ := id ha
  unfold lenMax at hrm ham
  go_enter Tryd.func30, Tryd.ntmps30
  go_upto_region 1 with fail
  refine wp_named ?_
  intro W1 hW1
  have hE1 : Ext w W1 := by rw [hW1]; exact ((Ext.refl _).alloc _).alloc _
  have k0 : ∀ w', Ext W1 w' → w'.cell? ⟨w.heap.size, 0, none⟩ = some (.int .i64 d.sy) := fun w' h => h.cell (by rw [hW1]; simp [go_sem])
  have k1 : ∀ w', Ext W1 w' → w'.cell? ⟨w.heap.size, 1, none⟩ = some (.slice Ar d.rows.length cr) := fun w' h => h.cell (by rw [hW1]; simp [go_sem])
  have k2 : ∀ w', Ext W1 w' → w'.cell? ⟨w.heap.size, 2, none⟩ = some (.slice Aa d.acc.length ca) := fun w' h => h.cell (by rw [hW1]; simp [go_sem])
  have kb : ∀ w', Ext W1 w' → w'.heap[w.heap.size + 1]? = some (.cells #[.int .i64 0, .slice none 0 0, .slice none 0 0] 28 (0, 0)) := fun w' h => heap_ext h (by rw [hW1]; have h9 := heap_alloc_new (w.alloc (.cells #[.int .i64 d.sy, .slice Ar d.rows.length cr, .slice Aa d.acc.length ca] 28)) (.cells #[.int .i64 0, .slice none 0 0, .slice none 0 0] 28 (0, 0)); simpa using h9)
  have HB6 : Hid (w.heap.size ≤ w.heap.size + 1) := Lib.hid (by omega)
  clear hW1
  generalize w.heap.size + 1 = b6 at *
  have hE0 := Ext.refl W1
  have hc1 := check_any W1 _ d (hd.ext hE1)
  have hz' : (checkD d != 0) = true := by simpa using hz
  generalize hzz : checkD d = z at *
  have HZ := Lib.hid hzz
  clear hz hzz
  go_upto_region 3 with ((with_reducible refine hc1.mono ?_); rintro e w1 ⟨rfl, e1⟩)
  have hb6 := kb w1 e1
  have he6 := hE1.trans e1
  go_wp2_with (first
    | (with_reducible refine wpList_build0 rfl 28 rfl _ (build_zero _) ?_)
    | (with_reducible refine wpList_store_blk _ rfl 28 _ _ rfl b6 28 _ _ rfl rfl hb6 (by kernel_rfl) (by kernel_rfl) (by kernel_rfl) ?_; intro w8 h8 g8))
  try rw [Exit.noGoto_ret]
  try simp only [Exit.inBlock, Exit.then]
  refine bodyPost_ret (results_cell_tmp rfl _ _ b6 28 _ (0, 0) _ (by simp [Act.put]) h8 Tryd.underlying28 rfl (by kernel_rfl)) rfl ?_
  exact ⟨by rw [HZ.out]; rfl, Below.grown he6 g8 he6.size (fun k hk => by cases hk; exact HB6.out)⟩
set_option maxRecDepth 100000 in
set_option maxHeartbeats 4000000 in
theorem comp_bad (w : World) (dv : Value) (d : Dfa) (hd : DfaV w dv d) (hz : checkD d ≠ 0) : Calls Tryd.prog 35 #[dv] w fun e w' => e = .returned (.tuple #[zV, .int .i64 (checkD d)]) ∧ Ext w w' := by
  obtain ⟨rv, cr, av, ca, rfl, hr, ha⟩ := id hd
  obtain ⟨Ar, vr, rfl, _, _, _, _, hrm⟩ := id hr
  obtain ⟨Aa, rfl, hac, _, ham⟩ := id ha
  unfold lenMax at hrm ham
  go_enter Tryd.func35, Tryd.ntmps35
  go_upto_region 1 with fail
  refine wp_named ?_
  intro W1 hW1
  have hE1 : Ext w W1 := by rw [hW1]; exact ((Ext.refl _).alloc _).alloc _
  have k0 : ∀ w', Ext W1 w' → w'.cell? ⟨w.heap.size, 0, none⟩ = some (.int .i64 d.sy) := fun w' h => h.cell (by rw [hW1]; simp [go_sem])
  have k1 : ∀ w', Ext W1 w' → w'.cell? ⟨w.heap.size, 1, none⟩ = some (.slice Ar d.rows.length cr) := fun w' h => h.cell (by rw [hW1]; simp [go_sem])
  have k2 : ∀ w', Ext W1 w' → w'.cell? ⟨w.heap.size, 2, none⟩ = some (.slice Aa d.acc.length ca) := fun w' h => h.cell (by rw [hW1]; simp [go_sem])
  have kb : ∀ w', Ext W1 w' → w'.heap[w.heap.size + 1]? = some (.cells #[.int .i64 0, .slice none 0 0, .slice none 0 0] 28 (0, 0)) := fun w' h => heap_ext h (by rw [hW1]; have h9 := heap_alloc_new (w.alloc (.cells #[.int .i64 d.sy, .slice Ar d.rows.length cr, .slice Aa d.acc.length ca] 28)) (.cells #[.int .i64 0, .slice none 0 0, .slice none 0 0] 28 (0, 0)); simpa using h9)
  have HB6 : Hid (w.heap.size ≤ w.heap.size + 1 ∧ w.heap.size + 1 < W1.heap.size) := Lib.hid ⟨by omega, by rw [hW1]; simp⟩
  clear hW1
  generalize w.heap.size + 1 = b6 at *
  have hE0 := Ext.refl W1
  have hc1 := minimal_bad W1 _ d (hd.ext hE1) hz
  have hz' : (checkD d != 0) = true := by simpa using hz
  generalize hzz : checkD d = z at *
  have HZ := Lib.hid hzz
  clear hz hzz
  unfold zV at hc1
  go_upto_region 2 with (first
    | ((with_reducible refine hc1.mono ?_); rintro e w1 ⟨rfl, e1⟩)
    | (with_reducible refine wpList_store_blk _ rfl 28 _ _ rfl w1.heap.size 28 _ _ rfl rfl (heap_alloc_new _ _) (by kernel_rfl) (by kernel_rfl) (by kernel_rfl) ?_; intro w2 h2 g2))
  have e2 : Ext w1 w2 := Below.grown (alloc_ext w1 _) g2 (alloc_ext w1 _).size (fun k hk => by cases hk; exact Nat.le_refl _)
  have hb6 := kb w2 (e1.trans e2)
  have he6 := hE1.trans (e1.trans e2)
  have HB6 := Lib.hid HB6.out.1
  go_wp2_with (first
    | (with_reducible refine wpList_build0 rfl 28 rfl _ (build_zero _) ?_)
    | (with_reducible refine wpList_store_blk _ rfl 28 _ _ rfl b6 28 _ _ rfl rfl hb6 (by kernel_rfl) (by kernel_rfl) (by kernel_rfl) ?_; intro w8 h8 g8))
  try rw [Exit.noGoto_ret]
  try simp only [Exit.inBlock, Exit.then]
  refine bodyPost_ret (results_cell_tmp rfl _ _ b6 28 _ (0, 0) _ (by simp [Act.put]) h8 Tryd.underlying28 rfl (by kernel_rfl)) rfl ?_
  exact ⟨by rw [HZ.out]; rfl, Below.grown he6 g8 he6.size (fun k hk => by cases hk; exact HB6.out)⟩
theorem namesOf_le {κ : Type} [BEq κ] [LawfulBEq κ] (ks : List κ) : (namesOf ks).length ≤ ks.length :=
  List.Nodup.length_le_of_subset (namesOf_nodup ks) (fun x hx => mem_namesOf.1 hx)
theorem RefR.many_le {rows : List (List Int)} {cl : List Int} {many : Nat} {r : List Int × Nat} (h : RefR rows cl many r) : r.2 ≤ rows.length := by
  induction h with
  | @stop cl many h1 =>
    have h2 := namesOf_le (keysR rows cl)
    have h3 : (keysR rows cl).length = rows.length := by
      have := nextR_len rows cl
      unfold nextR at this
      simpa using this
    unfold namesR at h1
    show many ≤ _
    omega
  | step _ _ ih => exact ih
theorem opR_small {g : Bool → Bool → Bool} {a b : Dfa} {r : Dfa × Int} (h : OpR g a b r) (hn : chkL a b = 0 → (pairsL a b).length ≤ 256) : r.2 = chkL a b ∧ (chkL a b ≠ 0 → r.1 = zeroD) := by
  have hl : (rowsP a b (pairsL a b)).length = (pairsL a b).length := by unfold rowsP; simp
  cases h with
  | bad h0 => exact ⟨rfl, fun _ => rfl⟩
  | big h0 h1 => have := hn h0; omega
  | many h0 h1 h2 h3 =>
    have := hn h0
    have h4 := h2.many_le
    simp only at h4
    omega
  | set h0 h1 h2 h3 => exact ⟨h0.symm, fun h => absurd h0 h⟩
theorem pairs_small {a b : Dfa} {m : Nat} (h : chkL a b = 0) (hn : a.rows.length * b.rows.length ≤ m) : (pairsL a b).length ≤ m := by
  obtain ⟨ha, hb, hk⟩ := chkL_zero h
  exact Nat.le_trans (okP_all ha hb hk).bound hn
end Go.Proofs.YthlnmcokgfpgmaaDoor
