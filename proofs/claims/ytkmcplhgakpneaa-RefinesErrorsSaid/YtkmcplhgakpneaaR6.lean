/- gauntletlaw07.RefinesErrors: the walk. -/
import Derived.Test.YtkmcplhgakpneaaS7
import Derived.Test.YtkmcplhgakpneaaN4
import Derived.Test.YtkmcplhgakpneaaL1
import Derived.Test.YtkmcplhgakpneaaN8
namespace Go.Proofs.Ytkmcplhgakpneaa
open Go.RowKit Go.Maps
set_option linter.unusedVariables false
set_option linter.unusedSimpArgs false
attribute [local go_sem] Oper.quietV quietV Oper.gives givesV ext_refl_iff ext_alloc_iff ext_drew_iff ext_drewN_iff

theorem list_nil (w : World) (e : Int) : Calls Try.prog 17 #[.slice none 0 0, .int .i64 e, .slice none 0 0, .int .i64 e] w fun r w' => r = .returned (.bool true) ∧ Ext w w' := list_yes w _ _ [] 0 e (ints_nil w) (ints_nil w)


set_option maxRecDepth 100000 in
set_option maxHeartbeats 16000000 in
theorem RefinesErrors_any (w : World) (mv pv : Value) (m : Mach) (hm : MachV w mv m) (p : List Int) (cp : Nat) (hp : IntsC w pv p cp) (z0 z1 : Int) (hz0 : z0 ≤ 9223372036854775807) :
    Calls Try.prog 6 #[mv, pv, .agg #[.int .i64 z0, .int .i64 z1]] w fun e w' => e = .returned (.bool true) ∧ Ext w w' := by
  have hm0 := hm
  have hp0 := hp
  obtain ⟨rv, c, rfl, hr⟩ := hm
  have hr0 := hr
  obtain ⟨A, vs, rfl, _, _, _, _, hrm⟩ := hr
  obtain ⟨Ap, rfl, _, _, hpm⟩ := hp
  unfold lenMax at hrm hpm
  by_cases h70 : 70 < m.rows.length
  · have h70' : (70 : Int) < (m.rows.length : Int) := by omega
    go_enter Try.func6, Try.ntmps6
    go_wp2
    go_ret
    exact ⟨rfl, ((Ext.refl _).alloc _).alloc _⟩
  · have h70' : ¬ (70 : Int) < (m.rows.length : Int) := by omega
    by_cases h300 : 300 < p.length
    · have h300' : (300 : Int) < (p.length : Int) := by omega
      go_enter Try.func6, Try.ntmps6
      go_wp2
      go_ret
      exact ⟨rfl, ((Ext.refl _).alloc _).alloc _⟩
    · have h300' : ¬ (300 : Int) < (p.length : Int) := by omega
      go_enter Try.func6, Try.ntmps6
      go_upto_region 3 with fail
      refine wp_named ?_
      intro W1 hW1
      have hE1 : Ext w W1 := by rw [hW1]; exact ((Ext.refl _).alloc _).alloc _
      have k0 : ∀ w', Ext W1 w' → w'.cell? ⟨w.heap.size, 0, none⟩ = some (.int .i64 m.ins) := fun w' h => h.cell (by rw [hW1]; simp [go_sem])
      have k1 : ∀ w', Ext W1 w' → w'.cell? ⟨w.heap.size, 1, none⟩ = some (.int .i64 m.outs) := fun w' h => h.cell (by rw [hW1]; simp [go_sem])
      have k2 : ∀ w', Ext W1 w' → w'.cell? ⟨w.heap.size, 2, none⟩ = some (.slice A m.rows.length c) := fun w' h => h.cell (by rw [hW1]; simp [go_sem])
      have k5 : ∀ w', Ext W1 w' → w'.cell? ⟨w.heap.size + 1, 0, none⟩ = some (.int .i64 z0) := fun w' h => h.cell (by rw [hW1]; simp [go_sem])
      have k6 : ∀ w', Ext W1 w' → w'.cell? ⟨w.heap.size + 1, 1, none⟩ = some (.int .i64 z1) := fun w' h => h.cell (by rw [hW1]; simp [go_sem])
      clear hW1
      have k22 := k2 W1 (Ext.refl _)
      go_wp2
      go_loop [7] (fun i => ∃ s : Nat, s ≤ m.rows.length ∧ i = .int .i64 s) (fun i => m.rows.length - (intOf i).toNat)
      case atStart => exact ⟨0, by omega, rfl⟩
      case round =>
        obtain ⟨s, hs, rfl⟩ := hrel
        by_cases hsl : s < m.rows.length
        · obtain ⟨b, o, us, cs, hv, hb, c0, hes⟩ := (hr0.ext hE1).at_ hsl
          obtain rfl : A = some ⟨b, o, none⟩ := by injection hv
          clear hv
          obtain ⟨As, rfl, hcs, _, hms⟩ := hes
          unfold lenMax at hms
          have hsI : (s : Int) < (m.rows.length : Int) := by omega
          by_cases h20 : (20 : Int) < (m.rows[s].length : Int)
          · go_wp2
            go_ret
            exact ⟨rfl, hE1⟩
          · go_wp2
            go_round
            case rel => exact ⟨s + 1, by omega, by go_num⟩
            case measure => simp [intOf]; omega
        · have hsI : ¬ (s : Int) < (m.rows.length : Int) := by omega
          have hmW : ∀ w', Ext W1 w' → MachV w' (.agg #[.int .i64 m.ins, .int .i64 m.outs, .slice A m.rows.length c]) m := fun w' h => hm0.ext (hE1.trans h)
          have hpW : ∀ w', Ext W1 w' → IntsC w' (.slice Ap p.length cp) p cp := fun w' h => hp0.ext (hE1.trans h)
          by_cases hC : checkM m = 0
          · have hV := (valid_iff m).1 hC
            obtain ⟨M, hM, hstep, hend⟩ := rounds_end hV
            have hck := refCheck04_any W1 _ m (hmW _ (Ext.refl _))
            rw [hC] at hck
            have hMn : ¬ (m.rows.length : Int) ≤ (M : Int) := by omega
            have hrb := fun w' (h : Ext W1 w') => Classes_any w' _ m (hmW _ h) hV M (by omega) hstep hend
            have hrd := fun w' (h : Ext W1 w') => Respects_any w' _ _ m (hmW _ h) p cp (hpW _ h)
            have hrp := fun w' (h : Ext W1 w') => refCheck_any w' _ p _ (hpW _ h)
            simp only [refCheck_eq] at hrp
            have hre := fun w' (h : Ext W1 w') => Equivalent_any w' _ m (hmW _ h) hV z0 z1 M (by omega) hstep hend
            have hD : (checkP p = (respectsR m p).2 ∧ (respectsR m p).2 ≠ 0 ∧ (respectsR m p).1 = false) ∨ ((respectsR m p).2 = 16 ∧ (respectsR m p).1 = false ∧ checkP p = 0 ∧ p.length ≠ m.rows.length) ∨ ((respectsR m p).2 = 0 ∧ checkP p = 0 ∧ p.length = m.rows.length) := by
              unfold respectsR
              rw [if_neg (by simp [hC])]
              by_cases h1 : checkP p = 0
              · rw [if_neg (by simp [h1])]
                by_cases h2 : p.length = m.rows.length
                · rw [if_neg (by simp [h2])]; exact .inr (.inr ⟨rfl, h1, h2⟩)
                · rw [if_pos h2]; exact .inr (.inl ⟨rfl, rfl, h1, h2⟩)
              · rw [if_pos h1]; exact .inl ⟨rfl, h1, rfl⟩
            generalize (respectsR m p).1 = db at *
            generalize (respectsR m p).2 = hc at *
            generalize checkP p = cpv at *
            have HD := Lib.hid hD
            have hra : ∀ w' (h : Ext W1 w'), Calls Try.prog 10 #[.agg #[.int .i64 m.ins, .int .i64 m.outs, .slice A m.rows.length c], .int .i64 z0] w' fun e w'' => (∃ Aa, e = .returned (.tuple #[.slice Aa (if z0 < 0 then 0 else m.rows.length) (if z0 < 0 then 0 else m.rows.length), .int .i64 (if z0 < 0 then 1 else 0)])) ∧ Ext w' w'' := fun w' h => by
              by_cases hz : z0 < 0
              · have := Rounds_bad w' _ m (hmW _ h) z0 (.inr hz)
                rw [if_neg (by simp [hC])] at this
                simp only [if_pos hz]
                exact this.mono (fun e w'' ⟨h1, h2⟩ => ⟨⟨none, h1⟩, h2⟩)
              · obtain ⟨K, rfl⟩ := Int.eq_ofNat_of_zero_le (show 0 ≤ z0 by omega)
                simp only [if_neg hz]
                exact (Rounds_big w' _ m (hmW _ h) hV K (by omega) M hstep hend).mono (fun e w'' => by
                  rintro ⟨⟨v, rfl, Aa, rfl, _⟩, hE⟩
                  rw [iterL_length]
                  exact ⟨⟨Aa, rfl⟩, hE⟩)
            obtain ⟨eb, e15, hre, heq⟩ : ∃ (eb : Bool) (e15 : Int), (∀ w' (h : Ext W1 w'), Calls Try.prog 22 #[.agg #[.int .i64 m.ins, .int .i64 m.outs, .slice A m.rows.length c], .int .i64 z0, .int .i64 z1] w' fun e w'' => e = .returned (.tuple #[.bool eb, .int .i64 e15]) ∧ Ext w' w'') ∧
                ((0 ≤ z0 ∧ 0 ≤ z1 ∧ z0 < m.rows.length ∧ z1 < m.rows.length ∧ e15 = 0) ∨ (¬ (0 ≤ z0 ∧ 0 ≤ z1 ∧ z0 < m.rows.length ∧ z1 < m.rows.length) ∧ e15 = 1 ∧ eb = false)) := by
              by_cases hcc : 0 ≤ z0 ∧ 0 ≤ z1 ∧ z0 < m.rows.length ∧ z1 < m.rows.length
              · simp only [if_pos hcc] at hre
                exact ⟨_, _, hre, .inl ⟨hcc.1, hcc.2.1, hcc.2.2.1, hcc.2.2.2, rfl⟩⟩
              · simp only [if_neg hcc] at hre
                exact ⟨_, _, hre, .inr ⟨hcc, rfl, rfl⟩⟩
            have HEQ := Lib.hid heq
            clear hstep hend hV hC hD hM heq
            generalize hl9 : (if z0 < 0 then 0 else m.rows.length) = l9 at *
            generalize he10 : (if z0 < 0 then (1 : Int) else 0) = e10 at *
            have H9 := Lib.hid (And.intro hl9 he10)
            clear hl9 he10
            go_upto_region 15 with (first
              | (go_at_call 23; refine hck.mono ?_; rintro e W2 ⟨rfl, hE2⟩; have x5 := k5 _ hE2; have x6 := k6 _ hE2; have x0 := k0 _ hE2; have x1 := k1 _ hE2; have x2 := k2 _ hE2)
              | (go_at_call 10; refine (hra _ hE2).mono ?_; rintro e W3 ⟨⟨Aa, rfl⟩, hE3⟩; have hE3 := hE2.trans hE3; clear x0 x1 x2 x5 x6; have x5 := k5 _ hE3; have x6 := k6 _ hE3; have x0 := k0 _ hE3; have x1 := k1 _ hE3; have x2 := k2 _ hE3)
              | (go_at_call 16; refine (hrb _ hE3).mono ?_; rintro e W4 ⟨⟨vb, rfl, -⟩, hE4⟩; have hE4 := hE3.trans hE4; clear x0 x1 x2 x5 x6; have x5 := k5 _ hE4; have x6 := k6 _ hE4; have x0 := k0 _ hE4; have x1 := k1 _ hE4; have x2 := k2 _ hE4)
              | (go_at_call 22; refine (hre _ hE4).mono ?_; rintro e W5 ⟨rfl, hE5⟩; have hE5 := hE4.trans hE5; clear x0 x1 x2 x5 x6; have x5 := k5 _ hE5; have x6 := k6 _ hE5; have x0 := k0 _ hE5; have x1 := k1 _ hE5; have x2 := k2 _ hE5)
              | (go_at_call 24; refine (hrd _ hE5).mono ?_; rintro e W6 ⟨rfl, hE6⟩; have hE6 := hE5.trans hE6; clear x0 x1 x2 x5 x6; have x5 := k5 _ hE6; have x6 := k6 _ hE6; have x0 := k0 _ hE6; have x1 := k1 _ hE6; have x2 := k2 _ hE6))
            clear hck hra hrb hre hrd
            have x2 := k2 _ hE6
            have x5 := k5 _ hE6
            have x6 := k6 _ hE6
            go_cut [145] (fun s wx => s = .bool false ∧ W6 = wx)
            case first =>
              obtain ⟨hl9, he10⟩ := H9.out
              by_cases hz : z0 < 0
              · rw [if_pos hz] at hl9 he10
                subst hl9 he10
                have hz2 : ¬ (0 : Int) ≤ z0 := by omega
                go_wp2
                go_meet
                exact ⟨rfl, rfl⟩
              · rw [if_neg hz] at hl9 he10
                subst hl9 he10
                have hz2 : (0 : Int) ≤ z0 := by omega
                go_wp2
                go_meet
                exact ⟨rfl, rfl⟩
            case rest =>
              obtain ⟨rfl, rfl⟩ := hcut
              go_upto_region 17 with fail
              obtain ⟨TH, hTH⟩ : ∃ TH, TH = decide (0 ≤ z0 ∧ 0 ≤ z1 ∧ z0 < m.rows.length ∧ z1 < m.rows.length) := ⟨_, rfl⟩
              have HTH := Lib.hid hTH
              clear hTH
              go_cut [18] (fun s wx => s = .bool TH ∧ W6 = wx)
              case first =>
                by_cases h1 : 0 ≤ z0
                · by_cases h2 : 0 ≤ z1
                  · by_cases h3 : z0 < m.rows.length
                    · by_cases h4 : z1 < m.rows.length
                      · go_wp2
                        go_meet
                        exact ⟨by rw [HTH.out, show decide (0 ≤ z0 ∧ 0 ≤ z1 ∧ z0 < m.rows.length ∧ z1 < m.rows.length) = true by simp; omega], rfl⟩
                      · go_wp2
                        go_meet
                        exact ⟨by rw [HTH.out, show decide (0 ≤ z0 ∧ 0 ≤ z1 ∧ z0 < m.rows.length ∧ z1 < m.rows.length) = false by simp; omega], rfl⟩
                    · go_wp2
                      go_meet
                      exact ⟨by rw [HTH.out, show decide (0 ≤ z0 ∧ 0 ≤ z1 ∧ z0 < m.rows.length ∧ z1 < m.rows.length) = false by simp; omega], rfl⟩
                  · go_wp2
                    go_meet
                    exact ⟨by rw [HTH.out, show decide (0 ≤ z0 ∧ 0 ≤ z1 ∧ z0 < m.rows.length ∧ z1 < m.rows.length) = false by simp; omega], rfl⟩
                · go_wp2
                  go_meet
                  exact ⟨by rw [HTH.out, show decide (0 ≤ z0 ∧ 0 ≤ z1 ∧ z0 < m.rows.length ∧ z1 < m.rows.length) = false by simp; omega], rfl⟩
              case rest =>
                obtain ⟨rfl, rfl⟩ := hcut
                go_upto_region 18 with fail
                go_cut [184] (fun s wx => s = .bool false ∧ W6 = wx)
                case first =>
                  rcases HEQ.out with ⟨h1, h2, h3, h4, rfl⟩ | ⟨h1, rfl, rfl⟩
                  · have hd : TH = true := by rw [HTH.out]; simp; omega
                    subst hd
                    go_wp2
                    go_meet
                    exact ⟨rfl, rfl⟩
                  · have hd : TH = false := by rw [HTH.out]; simp; omega
                    subst hd
                    go_wp2
                    go_meet
                    exact ⟨rfl, rfl⟩
                case rest =>
                  obtain ⟨rfl, rfl⟩ := hcut
                  go_upto_region 20 with fail
                  rcases HD.out with ⟨hc0, hc1, rfl⟩ | ⟨rfl, rfl, rfl, hc2⟩ | ⟨rfl, rfl, hc2⟩
                  · subst hc0
                    have hcz : (cpv == 0) = false := by simpa using hc1
                    go_wp2_with (first
                      | (go_at_call 11; refine (hrp _ hE6).mono ?_; rintro e W7 ⟨rfl, hE7⟩; have hE7 := hE6.trans hE7; have x2 := k2 _ hE7)
                      | (go_at_call 15; refine (lives_any _).mono ?_; rintro e W9 ⟨rfl, hE9⟩; have hE9 := hE7.trans hE9))
                    go_ret
                    exact ⟨rfl, hE1.trans hE9⟩
                  · have hlz : ((p.length : Int) != (m.rows.length : Int)) = true := by simp; omega
                    go_wp2_with (first
                      | (go_at_call 11; refine (hrp _ hE6).mono ?_; rintro e W7 ⟨rfl, hE7⟩; have hE7 := hE6.trans hE7; have x2 := k2 _ hE7)
                      | (go_at_call 15; refine (lives_any _).mono ?_; rintro e W9 ⟨rfl, hE9⟩; have hE9 := hE7.trans hE9))
                    go_ret
                    exact ⟨rfl, hE1.trans hE9⟩
                  · have hlz : ((p.length : Int) != (m.rows.length : Int)) = false := by simp; omega
                    clear hc2
                    go_wp2_with (first
                      | (go_at_call 11; refine (hrp _ hE6).mono ?_; rintro e W7 ⟨rfl, hE7⟩; have hE7 := hE6.trans hE7; have x2 := k2 _ hE7)
                      | (go_at_call 15; refine (lives_any _).mono ?_; rintro e W9 ⟨rfl, hE9⟩; have hE9 := hE7.trans hE9))
                    go_ret
                    exact ⟨rfl, hE1.trans hE9⟩
          · have hck := refCheck04_any W1 _ m (hmW _ (Ext.refl _))
            have hra := fun w' (h : Ext W1 w') => Rounds_bad w' _ m (hmW _ h) z0 (.inl hC)
            have hrb := fun w' (h : Ext W1 w') => Classes_bad w' _ m (hmW _ h) hC
            have hrc := fun w' (h : Ext W1 w') => Equivalent_bad w' _ m (hmW _ h) z0 z1 hC
            have hrd := fun w' (h : Ext W1 w') => Respects_any w' _ _ m (hmW _ h) p cp (hpW _ h)
            simp only [ne_eq, hC, not_false_eq_true, if_true] at hra
            rw [show respectsR m p = (false, checkM m) by simp [respectsR, hC]] at hrd
            have hC2 : (checkM m != 0) = true := by simpa using hC
            generalize checkM m = C at *
            have HC := Lib.hid hC
            clear hC
            have t1 : True := trivial
            go_wp2_with (first
              | (go_at_call 23; refine hck.mono ?_; rintro e W2 ⟨rfl, hE2⟩; have x5 := k5 _ hE2; have x6 := k6 _ hE2; have x0 := k0 _ hE2; have x1 := k1 _ hE2; have x2 := k2 _ hE2)
              | (go_at_call 10; refine (hra _ hE2).mono ?_; rintro e W3 ⟨rfl, hE3⟩; have hE3 := hE2.trans hE3; clear x0 x1 x2 x5 x6; have x5 := k5 _ hE3; have x6 := k6 _ hE3; have x0 := k0 _ hE3; have x1 := k1 _ hE3; have x2 := k2 _ hE3)
              | (go_at_call 16; refine (hrb _ hE3).mono ?_; rintro e W4 ⟨rfl, hE4⟩; have hE4 := hE3.trans hE4; clear x0 x1 x2 x5 x6; have x5 := k5 _ hE4; have x6 := k6 _ hE4; have x0 := k0 _ hE4; have x1 := k1 _ hE4; have x2 := k2 _ hE4)
              | (go_at_call 22; refine (hrc _ hE4).mono ?_; rintro e W5 ⟨rfl, hE5⟩; have hE5 := hE4.trans hE5; clear x0 x1 x2 x5 x6; have x5 := k5 _ hE5; have x6 := k6 _ hE5; have x0 := k0 _ hE5; have x1 := k1 _ hE5; have x2 := k2 _ hE5)
              | (go_at_call 24; refine (hrd _ hE5).mono ?_; rintro e W6 ⟨rfl, hE6⟩; have hE6 := hE5.trans hE6; clear x0 x1 x2 x5 x6; have x5 := k5 _ hE6; have x6 := k6 _ hE6; have x0 := k0 _ hE6; have x1 := k1 _ hE6; have x2 := k2 _ hE6)
              | (go_at_call 17; clear t1; refine (list_nil _ _).mono ?_; rintro e W7 ⟨rfl, hE7⟩; have hE7 := hE6.trans hE7)
              | (go_at_call 17; refine (list_nil _ _).mono ?_; rintro e W8 ⟨rfl, hE8⟩; have hE8 := hE7.trans hE8)
              | (go_at_call 15; refine (lives_any _).mono ?_; rintro e W9 ⟨rfl, hE9⟩; have hE9 := hE8.trans hE9))
            go_ret
            exact ⟨rfl, hE1.trans hE9⟩
end Go.Proofs.Ytkmcplhgakpneaa
