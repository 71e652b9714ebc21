/- gauntletlaw32.GamesErrors 7: the walk. -/
import Derived.Test.YteadkafeabhhhaaH4
import Derived.Test.YteadkafeabhhhaaL3
namespace Go.Proofs.Yteadkafeabhhhaa
open Go.RowKit
set_option linter.unusedVariables false
set_option linter.unusedSimpArgs false
attribute [local go_sem] Oper.quietV quietV Oper.gives givesV ext_refl_iff ext_alloc_iff ext_drew_iff ext_drewN_iff
attribute [local go_sem] wrap_one

theorem Safe_bad (w : World) (gv : Value) (g : Game) (hg : GameV w gv g) (k : Int) (hc : checkG g = k) (hk : k ≠ 0) : Calls Try.prog 10 #[gv] w fun e w' => e = .returned (.tuple #[.slice none 0 0, .int .i64 k]) ∧ Ext w w' :=
  (Safe_any w gv g hg).mono fun e w' ⟨h, hE⟩ => by
    rw [if_neg (by rw [hc]; exact hk), hc] at h
    exact ⟨h, hE⟩
theorem Ranks_bad (w : World) (gv : Value) (g : Game) (hg : GameV w gv g) (k : Int) (hc : checkG g = k) (hk : k ≠ 0) : Calls Try.prog 11 #[gv] w fun e w' => e = .returned (.tuple #[.slice none 0 0, .int .i64 k]) ∧ Ext w w' :=
  (Ranks_any w gv g hg).mono fun e w' ⟨h, hE⟩ => by
    rw [if_neg (by rw [hc]; exact hk), hc] at h
    exact ⟨h, hE⟩
theorem Avoid_bad (w : World) (gv : Value) (g : Game) (hg : GameV w gv g) (k : Int) (hc : checkG g = k) (hk : k ≠ 0) : Calls Try.prog 16 #[gv] w fun e w' => e = .returned (.tuple #[.slice none 0 0, .int .i64 k]) ∧ Ext w w' :=
  (Avoid_any w gv g hg).mono fun e w' ⟨h, hE⟩ => by
    rw [if_neg (by rw [hc]; exact hk), hc] at h
    exact ⟨h, hE⟩
theorem Attack_bad (w : World) (gv : Value) (g : Game) (hg : GameV w gv g) (k : Int) (hc : checkG g = k) (hk : k ≠ 0) : Calls Try.prog 17 #[gv] w fun e w' => e = .returned (.tuple #[.slice none 0 0, .int .i64 k]) ∧ Ext w w' :=
  (Attack_any w gv g hg).mono fun e w' ⟨h, hE⟩ => by
    rw [if_neg (by rw [hc]; exact hk), hc] at h
    exact ⟨h, hE⟩

/-- What the supervisor's law asks of the error: the values that it may have. -/
theorem sup_cases (m : Mach) (th bad : List Bool) (hm : checkM m = 0) : ((th.length : Int) ≠ m.ins ∨ bad.length ≠ m.rows.length) ∧ supE m th bad = 16 ∨ ¬ ((th.length : Int) ≠ m.ins ∨ bad.length ≠ m.rows.length) ∧ (supE m th bad = 7 ∨ supE m th bad = 0) := by
  unfold supE
  rw [if_neg (fun h => h hm)]
  by_cases h : (th.length : Int) ≠ m.ins ∨ bad.length ≠ m.rows.length
  · exact .inl ⟨h, by rw [if_pos h]⟩
  · refine .inr ⟨h, ?_⟩
    rw [if_neg h]
    split
    · exact .inl rfl
    · exact .inr rfl
theorem sup_zero {m : Mach} {th bad : List Bool} (h : supE m th bad ≠ 0) : supRes m th bad = ⟨0, 0, []⟩ := if_neg h
set_option maxRecDepth 100000 in
set_option maxHeartbeats 16000000 in
theorem GamesErrors_any (w : World) (gv lv tv : Value) (g : Game) (hg : GameV w gv g) (l : List Int) (cl : Nat) (hl : IntsC w lv l cl) (th : List Bool) (ct : Nat) (ht : BoolsC w tv th ct) :
    Calls Try.prog 7 #[gv, lv, tv] w fun e w' => e = .returned (.bool true) ∧ Ext w w' := by
  have hg0 := hg
  have hl0 := hl
  have ht0 := ht
  obtain ⟨rv, cr, ov, co, sv, cs, rfl, hr, ho, hs⟩ := hg
  obtain ⟨Ar, vr, rfl, _, _, _, _, hrm⟩ := id hr
  obtain ⟨Ao, rfl, hoc, _, hom⟩ := id ho
  obtain ⟨As, rfl, hsc, _, hsm⟩ := id hs
  unfold lenMax at hrm hom hsm
  obtain ⟨Al, rfl, _, _, hlm⟩ := hl
  obtain ⟨At, rfl, _, _, htm⟩ := ht
  unfold lenMax at hlm htm
  have HRR := Lib.hid hr
  go_enter Try.func7, Try.ntmps7
  go_upto_region 1 with fail
  refine wp_named ?_
  intro W1 hW1
  have hE1 : Ext w W1 := by rw [hW1]; exact (Ext.refl _).alloc _
  have k0 : ∀ w', Ext W1 w' → w'.cell? ⟨w.heap.size, 0, none⟩ = some (.int .i64 g.m.ins) := fun w' h => h.cell (by rw [hW1]; simp [go_sem])
  have k1 : ∀ w', Ext W1 w' → w'.cell? ⟨w.heap.size, 1, none⟩ = some (.int .i64 g.m.outs) := fun w' h => h.cell (by rw [hW1]; simp [go_sem])
  have k2 : ∀ w', Ext W1 w' → w'.cell? ⟨w.heap.size, 2, none⟩ = some (.slice Ar g.m.rows.length cr) := fun w' h => h.cell (by rw [hW1]; simp [go_sem])
  have k3 : ∀ w', Ext W1 w' → w'.cell? ⟨w.heap.size, 3, none⟩ = some (.slice Ao g.ours.length co) := fun w' h => h.cell (by rw [hW1]; simp [go_sem])
  have k4 : ∀ w', Ext W1 w' → w'.cell? ⟨w.heap.size, 4, none⟩ = some (.slice As g.set.length cs) := fun w' h => h.cell (by rw [hW1]; simp [go_sem])
  clear hW1
  have hE0 := Ext.refl W1
  have HR := Lib.hid (hr.ext hE1)
  have hG : ∀ w', Ext W1 w' → GameV w' (.agg #[.int .i64 g.m.ins, .int .i64 g.m.outs, .slice Ar g.m.rows.length cr, .slice Ao g.ours.length co, .slice As g.set.length cs]) g := fun w' h => hg0.ext (hE1.trans h)
  have hL : ∀ w', Ext W1 w' → IntsC w' (.slice Al l.length cl) l cl := fun w' h => hl0.ext (hE1.trans h)
  have hT : ∀ w', Ext W1 w' → BoolsC w' (.slice At th.length ct) th ct := fun w' h => ht0.ext (hE1.trans h)
  clear hr ho hs hoc hsc hg0 hl0 ht0 HRR
  have k2w := k2 W1 hE0
  go_wp2
  go_loopw [8, 7] (fun i z wr => ∃ (s : Nat) (y : Int), s ≤ 71 ∧ i = .int .i64 s ∧ z = .int .i64 y ∧ W1 = wr) (fun i _ _ => 71 - (intOf i).toNat)
  case atStart => exact ⟨0, 0, by omega, rfl, rfl, rfl⟩
  case round =>
    obtain ⟨s, y, hs, rfl, rfl, rfl⟩ := hrel
    by_cases hlt : s < g.m.rows.length
    · have hltI : (s : Int) < (g.m.rows.length : Int) := by omega
      by_cases h71 : s < 71
      · have h71I : (s : Int) < 71 := by omega
        obtain ⟨b, o, us, cu, hv, hbb, c0, hes⟩ := HR.out.at_ hlt
        obtain rfl : Ar = some ⟨b, o, none⟩ := by injection hv
        obtain ⟨Ae, rfl, hce, _, hme⟩ := hes
        generalize (g.m.rows[s]).length = el at *
        clear hce hme
        go_wp2
        go_roundw
        case rel => exact ⟨s + 1, _, by omega, by go_num, rfl, trivial⟩
        case measure => simp [intOf]; omega
      · have h71I : ¬ (s : Int) < 71 := by omega
        have h70 : (70 : Int) < (g.m.rows.length : Int) := by omega
        go_wp2_with (go_at_call 15; refine (lives_any _).mono ?_; rintro e wz ⟨rfl, ez⟩)
        go_ret
        exact ⟨rfl, hE1.trans ez⟩
    · have hltI : ¬ (s : Int) < (g.m.rows.length : Int) := by omega
      go_upto_region 6 with fail
      by_cases h1 : (70 : Int) < (g.m.rows.length : Int)
      · skip
        go_wp2_with (go_at_call 15; refine (lives_any _).mono ?_; rintro e wz ⟨rfl, ez⟩)
        go_ret
        exact ⟨rfl, hE1.trans ez⟩
      by_cases h2 : 300 < y
      · skip
        go_wp2_with (go_at_call 15; refine (lives_any _).mono ?_; rintro e wz ⟨rfl, ez⟩)
        go_ret
        exact ⟨rfl, hE1.trans ez⟩
      by_cases h3 : (70 : Int) < (g.ours.length : Int)
      · skip
        go_wp2_with (go_at_call 15; refine (lives_any _).mono ?_; rintro e wz ⟨rfl, ez⟩)
        go_ret
        exact ⟨rfl, hE1.trans ez⟩
      by_cases h4 : (70 : Int) < (g.set.length : Int)
      · skip
        go_wp2_with (go_at_call 15; refine (lives_any _).mono ?_; rintro e wz ⟨rfl, ez⟩)
        go_ret
        exact ⟨rfl, hE1.trans ez⟩
      by_cases h5 : (70 : Int) < (l.length : Int)
      · skip
        go_wp2_with (go_at_call 15; refine (lives_any _).mono ?_; rintro e wz ⟨rfl, ez⟩)
        go_ret
        exact ⟨rfl, hE1.trans ez⟩
      by_cases h6 : (20 : Int) < (th.length : Int)
      · skip
        go_wp2_with (go_at_call 15; refine (lives_any _).mono ?_; rintro e wz ⟨rfl, ez⟩)
        go_ret
        exact ⟨rfl, hE1.trans ez⟩
      go_upto_region 8 with fail
      have hcm0 := fun w' (h : Ext W1 w') => check_any w' _ g.m (hG w' h).mach.1
      have hgc0 := fun w' (h : Ext W1 w') => gcheck_any w' _ g (hG w' h)
      have hrc0 := fun w' (h : Ext W1 w') => refCheck_any w' _ g (hG w' h)
      by_cases hkm : checkM g.m = 0
      · have hcm := hcm0
        rw [hkm] at hcm
        clear hcm0
        by_cases hc16 : cnt16 g = 0
        · have hG0 : checkG g = 0 := by unfold checkG; rw [if_neg (fun h => h hkm)]; exact hc16
          have hF : Fine g := (fine_iff g).1 hG0
          have hrc := hrc0
          have hgc := hgc0
          rw [hc16] at hrc
          rw [hG0] at hgc
          have hst0 := fun w' (h : Ext W1 w') => refStrategy_any w' _ _ g (hG w' h) hF l cl (hL w' h)
          by_cases hs : stratE g l = 0
          · have hst := hst0
            rw [hs] at hst
            have hav := fun w' (h : Ext W1 w') => CheckAvoid_eq w' _ _ g (hG w' h) l cl (hL w' h) _ (comesL (folL g l) g.set).2 0 (by unfold avRes; rw [hG0, hs, if_neg (by decide), if_neg (by decide)]) _ rfl
            have hat := fun w' (h : Ext W1 w') => CheckAttack_eq w' _ _ g (hG w' h) l cl (hL w' h) _ 0 (by unfold atRes; rw [hG0, hs, if_neg (by decide), if_neg (by decide)])
            have HK := Lib.hid (And.intro hG0 (And.intro hc16 (And.intro hF hs)))
            clear hG0 hc16 hF hs hst0 hgc0 hrc0
            generalize comesL (folL g l) g.set = CC at *
            generalize wins (folL g l) g.set = ww at *
            obtain ⟨cb, cw⟩ := CC
            rcases sup_cases g.m th g.set hkm with ⟨hne, hsE⟩ | ⟨heq, hsE | hsE⟩
            · have hsu := fun w' (h : Ext W1 w') => Sup_eq w' _ _ _ g.m (hG w' h).mach.1 th g.set ct _ (hT w' h) (hG w' h).mach.2.2.choose_spec ⟨0, 0, []⟩ 16 (sup_zero (by rw [hsE]; decide)) hsE
              by_cases hc1 : (th.length : Int) = g.m.ins
              · have hc2 : g.set.length ≠ g.m.rows.length := fun h => by rcases hne with h2 | h2; exact h2 hc1; exact h2 h
                have hq1 : ((th.length : Int) != g.m.ins) = false := by simpa using hc1
                have hq2 : ((g.set.length : Int) != (g.m.rows.length : Int)) = true := by simp; omega
                have HH := Lib.hid (And.intro hkm hsE)
                clear hne hsE hc1 hc2 hkm
                go_wp2_with (first  | (go_at_call 27; refine (hcm _ hE0).mono ?_; rintro e wa ⟨rfl, ea⟩; have hE0 := hE0.trans ea)  | (go_at_call 28; refine (hrc _ hE0).mono ?_; rintro e wa ⟨rfl, ea⟩; have hE0 := hE0.trans ea)  | (go_at_call 29; refine (hgc _ hE0).mono ?_; rintro e wa ⟨rfl, ea⟩; have hE0 := hE0.trans ea)  | (go_at_call 30; refine (hst _ hE0).mono ?_; rintro e wa ⟨rfl, ea⟩; have hE0 := hE0.trans ea)  | (go_at_call 20; refine (hav _ hE0).mono ?_; rintro e wd ⟨A20, rfl, _, ed⟩; have hE0 := hE0.trans ed)  | (go_at_call 21; refine (hat _ hE0).mono ?_; rintro e wd ⟨rfl, ed⟩; have hE0 := hE0.trans ed)  | (go_at_call 24; refine (hsu _ hE0).mono ?_; rintro e wf ⟨A24, rfl, _, ef⟩; have hE0 := hE0.trans ef)  | (go_at_call 10; refine (hb1 _ (hE0.alloc _)).mono ?_; rintro e wg ⟨rfl, eg⟩; have hE0 := (hE0.alloc _).trans eg)  | (go_at_call 11; refine (hb2 _ hE0).mono ?_; rintro e wg ⟨rfl, eg⟩; have hE0 := hE0.trans eg)  | (go_at_call 16; refine (hb3 _ hE0).mono ?_; rintro e wg ⟨rfl, eg⟩; have hE0 := hE0.trans eg)  | (go_at_call 17; refine (hb4 _ hE0).mono ?_; rintro e wg ⟨rfl, eg⟩; have hE0 := hE0.trans eg)  | (go_at_call 15; refine (lives_any _).mono ?_; rintro e wz ⟨rfl, ez⟩))
                go_ret
                exact ⟨rfl, (hE1.trans (hE0.alloc _)).trans ez⟩
              · have hq1 : ((th.length : Int) != g.m.ins) = true := by simpa using hc1
                have HH := Lib.hid (And.intro hkm hsE)
                clear hne hsE hc1 hkm
                go_wp2_with (first  | (go_at_call 27; refine (hcm _ hE0).mono ?_; rintro e wa ⟨rfl, ea⟩; have hE0 := hE0.trans ea)  | (go_at_call 28; refine (hrc _ hE0).mono ?_; rintro e wa ⟨rfl, ea⟩; have hE0 := hE0.trans ea)  | (go_at_call 29; refine (hgc _ hE0).mono ?_; rintro e wa ⟨rfl, ea⟩; have hE0 := hE0.trans ea)  | (go_at_call 30; refine (hst _ hE0).mono ?_; rintro e wa ⟨rfl, ea⟩; have hE0 := hE0.trans ea)  | (go_at_call 20; refine (hav _ hE0).mono ?_; rintro e wd ⟨A20, rfl, _, ed⟩; have hE0 := hE0.trans ed)  | (go_at_call 21; refine (hat _ hE0).mono ?_; rintro e wd ⟨rfl, ed⟩; have hE0 := hE0.trans ed)  | (go_at_call 24; refine (hsu _ hE0).mono ?_; rintro e wf ⟨A24, rfl, _, ef⟩; have hE0 := hE0.trans ef)  | (go_at_call 10; refine (hb1 _ (hE0.alloc _)).mono ?_; rintro e wg ⟨rfl, eg⟩; have hE0 := (hE0.alloc _).trans eg)  | (go_at_call 11; refine (hb2 _ hE0).mono ?_; rintro e wg ⟨rfl, eg⟩; have hE0 := hE0.trans eg)  | (go_at_call 16; refine (hb3 _ hE0).mono ?_; rintro e wg ⟨rfl, eg⟩; have hE0 := hE0.trans eg)  | (go_at_call 17; refine (hb4 _ hE0).mono ?_; rintro e wg ⟨rfl, eg⟩; have hE0 := hE0.trans eg)  | (go_at_call 15; refine (lives_any _).mono ?_; rintro e wz ⟨rfl, ez⟩))
                go_ret
                exact ⟨rfl, (hE1.trans (hE0.alloc _)).trans ez⟩
            · have hsu := fun w' (h : Ext W1 w') => Sup_eq w' _ _ _ g.m (hG w' h).mach.1 th g.set ct _ (hT w' h) (hG w' h).mach.2.2.choose_spec ⟨0, 0, []⟩ 7 (sup_zero (by rw [hsE]; decide)) hsE
              have hc1 : (th.length : Int) = g.m.ins := Classical.byContradiction (fun h => heq (.inl h))
              have hc2 : g.set.length = g.m.rows.length := Classical.byContradiction (fun h => heq (.inr h))
              have hq1 : ((th.length : Int) != g.m.ins) = false := by simpa using hc1
              have hq2 : ((g.set.length : Int) != (g.m.rows.length : Int)) = false := by simp; omega
              have HH := Lib.hid (And.intro hkm hsE)
              clear heq hsE hc1 hc2 hkm
              go_wp2_with (first  | (go_at_call 27; refine (hcm _ hE0).mono ?_; rintro e wa ⟨rfl, ea⟩; have hE0 := hE0.trans ea)  | (go_at_call 28; refine (hrc _ hE0).mono ?_; rintro e wa ⟨rfl, ea⟩; have hE0 := hE0.trans ea)  | (go_at_call 29; refine (hgc _ hE0).mono ?_; rintro e wa ⟨rfl, ea⟩; have hE0 := hE0.trans ea)  | (go_at_call 30; refine (hst _ hE0).mono ?_; rintro e wa ⟨rfl, ea⟩; have hE0 := hE0.trans ea)  | (go_at_call 20; refine (hav _ hE0).mono ?_; rintro e wd ⟨A20, rfl, _, ed⟩; have hE0 := hE0.trans ed)  | (go_at_call 21; refine (hat _ hE0).mono ?_; rintro e wd ⟨rfl, ed⟩; have hE0 := hE0.trans ed)  | (go_at_call 24; refine (hsu _ hE0).mono ?_; rintro e wf ⟨A24, rfl, _, ef⟩; have hE0 := hE0.trans ef)  | (go_at_call 10; refine (hb1 _ (hE0.alloc _)).mono ?_; rintro e wg ⟨rfl, eg⟩; have hE0 := (hE0.alloc _).trans eg)  | (go_at_call 11; refine (hb2 _ hE0).mono ?_; rintro e wg ⟨rfl, eg⟩; have hE0 := hE0.trans eg)  | (go_at_call 16; refine (hb3 _ hE0).mono ?_; rintro e wg ⟨rfl, eg⟩; have hE0 := hE0.trans eg)  | (go_at_call 17; refine (hb4 _ hE0).mono ?_; rintro e wg ⟨rfl, eg⟩; have hE0 := hE0.trans eg)  | (go_at_call 15; refine (lives_any _).mono ?_; rintro e wz ⟨rfl, ez⟩))
              go_ret
              exact ⟨rfl, (hE1.trans (hE0.alloc _)).trans ez⟩
            · have hsu := fun w' (h : Ext W1 w') => Sup_eq w' _ _ _ g.m (hG w' h).mach.1 th g.set ct _ (hT w' h) (hG w' h).mach.2.2.choose_spec (supRes g.m th g.set) 0 rfl hsE
              have hc1 : (th.length : Int) = g.m.ins := Classical.byContradiction (fun h => heq (.inl h))
              have hc2 : g.set.length = g.m.rows.length := Classical.byContradiction (fun h => heq (.inr h))
              have hq1 : ((th.length : Int) != g.m.ins) = false := by simpa using hc1
              have hq2 : ((g.set.length : Int) != (g.m.rows.length : Int)) = false := by simp; omega
              have HH := Lib.hid (And.intro hkm hsE)
              generalize supRes g.m th g.set = MM at *
              clear heq hsE hc1 hc2 hkm
              go_wp2_with (first  | (go_at_call 27; refine (hcm _ hE0).mono ?_; rintro e wa ⟨rfl, ea⟩; have hE0 := hE0.trans ea)  | (go_at_call 28; refine (hrc _ hE0).mono ?_; rintro e wa ⟨rfl, ea⟩; have hE0 := hE0.trans ea)  | (go_at_call 29; refine (hgc _ hE0).mono ?_; rintro e wa ⟨rfl, ea⟩; have hE0 := hE0.trans ea)  | (go_at_call 30; refine (hst _ hE0).mono ?_; rintro e wa ⟨rfl, ea⟩; have hE0 := hE0.trans ea)  | (go_at_call 20; refine (hav _ hE0).mono ?_; rintro e wd ⟨A20, rfl, _, ed⟩; have hE0 := hE0.trans ed)  | (go_at_call 21; refine (hat _ hE0).mono ?_; rintro e wd ⟨rfl, ed⟩; have hE0 := hE0.trans ed)  | (go_at_call 24; refine (hsu _ hE0).mono ?_; rintro e wf ⟨A24, rfl, _, ef⟩; have hE0 := hE0.trans ef)  | (go_at_call 10; refine (hb1 _ (hE0.alloc _)).mono ?_; rintro e wg ⟨rfl, eg⟩; have hE0 := (hE0.alloc _).trans eg)  | (go_at_call 11; refine (hb2 _ hE0).mono ?_; rintro e wg ⟨rfl, eg⟩; have hE0 := hE0.trans eg)  | (go_at_call 16; refine (hb3 _ hE0).mono ?_; rintro e wg ⟨rfl, eg⟩; have hE0 := hE0.trans eg)  | (go_at_call 17; refine (hb4 _ hE0).mono ?_; rintro e wg ⟨rfl, eg⟩; have hE0 := hE0.trans eg)  | (go_at_call 15; refine (lives_any _).mono ?_; rintro e wz ⟨rfl, ez⟩))
              go_ret
              exact ⟨rfl, (hE1.trans (hE0.alloc _)).trans ez⟩
          · obtain ⟨kb, hkb⟩ : ∃ kb, kb = stratE g l := ⟨_, rfl⟩
            rw [← hkb] at hs
            have hst := hst0
            rw [← hkb] at hst
            have hav := fun w' (h : Ext W1 w') => CheckAvoid_eq w' _ _ g (hG w' h) l cl (hL w' h) false [] kb (by unfold avRes; rw [hG0, if_neg (by decide), ← hkb, if_pos hs]) 0 rfl
            have hat := fun w' (h : Ext W1 w') => CheckAttack_eq w' _ _ g (hG w' h) l cl (hL w' h) false kb (by unfold atRes; rw [hG0, if_neg (by decide), ← hkb, if_pos hs])
            have hk0 : (kb != kb) = false := by simp
            have hk1 : (kb == 0) = false := by simpa using hs
            have hk2 : (kb != 0) = true := by simpa using hs
            have HK := Lib.hid (And.intro hG0 (And.intro hc16 (And.intro hF (And.intro hs hkb))))
            clear hG0 hc16 hF hs hkb hst0 hgc0 hrc0
            rcases sup_cases g.m th g.set hkm with ⟨hne, hsE⟩ | ⟨heq, hsE | hsE⟩
            · have hsu := fun w' (h : Ext W1 w') => Sup_eq w' _ _ _ g.m (hG w' h).mach.1 th g.set ct _ (hT w' h) (hG w' h).mach.2.2.choose_spec ⟨0, 0, []⟩ 16 (sup_zero (by rw [hsE]; decide)) hsE
              by_cases hc1 : (th.length : Int) = g.m.ins
              · have hc2 : g.set.length ≠ g.m.rows.length := fun h => by rcases hne with h2 | h2; exact h2 hc1; exact h2 h
                have hq1 : ((th.length : Int) != g.m.ins) = false := by simpa using hc1
                have hq2 : ((g.set.length : Int) != (g.m.rows.length : Int)) = true := by simp; omega
                have HH := Lib.hid (And.intro hkm hsE)
                clear hne hsE hc1 hc2 hkm
                go_wp2_with (first  | (go_at_call 27; refine (hcm _ hE0).mono ?_; rintro e wa ⟨rfl, ea⟩; have hE0 := hE0.trans ea)  | (go_at_call 28; refine (hrc _ hE0).mono ?_; rintro e wa ⟨rfl, ea⟩; have hE0 := hE0.trans ea)  | (go_at_call 29; refine (hgc _ hE0).mono ?_; rintro e wa ⟨rfl, ea⟩; have hE0 := hE0.trans ea)  | (go_at_call 30; refine (hst _ hE0).mono ?_; rintro e wa ⟨rfl, ea⟩; have hE0 := hE0.trans ea)  | (go_at_call 20; refine (hav _ hE0).mono ?_; rintro e wd ⟨A20, rfl, _, ed⟩; have hE0 := hE0.trans ed)  | (go_at_call 21; refine (hat _ hE0).mono ?_; rintro e wd ⟨rfl, ed⟩; have hE0 := hE0.trans ed)  | (go_at_call 24; refine (hsu _ hE0).mono ?_; rintro e wf ⟨A24, rfl, _, ef⟩; have hE0 := hE0.trans ef)  | (go_at_call 10; refine (hb1 _ (hE0.alloc _)).mono ?_; rintro e wg ⟨rfl, eg⟩; have hE0 := (hE0.alloc _).trans eg)  | (go_at_call 11; refine (hb2 _ hE0).mono ?_; rintro e wg ⟨rfl, eg⟩; have hE0 := hE0.trans eg)  | (go_at_call 16; refine (hb3 _ hE0).mono ?_; rintro e wg ⟨rfl, eg⟩; have hE0 := hE0.trans eg)  | (go_at_call 17; refine (hb4 _ hE0).mono ?_; rintro e wg ⟨rfl, eg⟩; have hE0 := hE0.trans eg)  | (go_at_call 15; refine (lives_any _).mono ?_; rintro e wz ⟨rfl, ez⟩))
                go_ret
                exact ⟨rfl, (hE1.trans (hE0.alloc _)).trans ez⟩
              · have hq1 : ((th.length : Int) != g.m.ins) = true := by simpa using hc1
                have HH := Lib.hid (And.intro hkm hsE)
                clear hne hsE hc1 hkm
                go_wp2_with (first  | (go_at_call 27; refine (hcm _ hE0).mono ?_; rintro e wa ⟨rfl, ea⟩; have hE0 := hE0.trans ea)  | (go_at_call 28; refine (hrc _ hE0).mono ?_; rintro e wa ⟨rfl, ea⟩; have hE0 := hE0.trans ea)  | (go_at_call 29; refine (hgc _ hE0).mono ?_; rintro e wa ⟨rfl, ea⟩; have hE0 := hE0.trans ea)  | (go_at_call 30; refine (hst _ hE0).mono ?_; rintro e wa ⟨rfl, ea⟩; have hE0 := hE0.trans ea)  | (go_at_call 20; refine (hav _ hE0).mono ?_; rintro e wd ⟨A20, rfl, _, ed⟩; have hE0 := hE0.trans ed)  | (go_at_call 21; refine (hat _ hE0).mono ?_; rintro e wd ⟨rfl, ed⟩; have hE0 := hE0.trans ed)  | (go_at_call 24; refine (hsu _ hE0).mono ?_; rintro e wf ⟨A24, rfl, _, ef⟩; have hE0 := hE0.trans ef)  | (go_at_call 10; refine (hb1 _ (hE0.alloc _)).mono ?_; rintro e wg ⟨rfl, eg⟩; have hE0 := (hE0.alloc _).trans eg)  | (go_at_call 11; refine (hb2 _ hE0).mono ?_; rintro e wg ⟨rfl, eg⟩; have hE0 := hE0.trans eg)  | (go_at_call 16; refine (hb3 _ hE0).mono ?_; rintro e wg ⟨rfl, eg⟩; have hE0 := hE0.trans eg)  | (go_at_call 17; refine (hb4 _ hE0).mono ?_; rintro e wg ⟨rfl, eg⟩; have hE0 := hE0.trans eg)  | (go_at_call 15; refine (lives_any _).mono ?_; rintro e wz ⟨rfl, ez⟩))
                go_ret
                exact ⟨rfl, (hE1.trans (hE0.alloc _)).trans ez⟩
            · have hsu := fun w' (h : Ext W1 w') => Sup_eq w' _ _ _ g.m (hG w' h).mach.1 th g.set ct _ (hT w' h) (hG w' h).mach.2.2.choose_spec ⟨0, 0, []⟩ 7 (sup_zero (by rw [hsE]; decide)) hsE
              have hc1 : (th.length : Int) = g.m.ins := Classical.byContradiction (fun h => heq (.inl h))
              have hc2 : g.set.length = g.m.rows.length := Classical.byContradiction (fun h => heq (.inr h))
              have hq1 : ((th.length : Int) != g.m.ins) = false := by simpa using hc1
              have hq2 : ((g.set.length : Int) != (g.m.rows.length : Int)) = false := by simp; omega
              have HH := Lib.hid (And.intro hkm hsE)
              clear heq hsE hc1 hc2 hkm
              go_wp2_with (first  | (go_at_call 27; refine (hcm _ hE0).mono ?_; rintro e wa ⟨rfl, ea⟩; have hE0 := hE0.trans ea)  | (go_at_call 28; refine (hrc _ hE0).mono ?_; rintro e wa ⟨rfl, ea⟩; have hE0 := hE0.trans ea)  | (go_at_call 29; refine (hgc _ hE0).mono ?_; rintro e wa ⟨rfl, ea⟩; have hE0 := hE0.trans ea)  | (go_at_call 30; refine (hst _ hE0).mono ?_; rintro e wa ⟨rfl, ea⟩; have hE0 := hE0.trans ea)  | (go_at_call 20; refine (hav _ hE0).mono ?_; rintro e wd ⟨A20, rfl, _, ed⟩; have hE0 := hE0.trans ed)  | (go_at_call 21; refine (hat _ hE0).mono ?_; rintro e wd ⟨rfl, ed⟩; have hE0 := hE0.trans ed)  | (go_at_call 24; refine (hsu _ hE0).mono ?_; rintro e wf ⟨A24, rfl, _, ef⟩; have hE0 := hE0.trans ef)  | (go_at_call 10; refine (hb1 _ (hE0.alloc _)).mono ?_; rintro e wg ⟨rfl, eg⟩; have hE0 := (hE0.alloc _).trans eg)  | (go_at_call 11; refine (hb2 _ hE0).mono ?_; rintro e wg ⟨rfl, eg⟩; have hE0 := hE0.trans eg)  | (go_at_call 16; refine (hb3 _ hE0).mono ?_; rintro e wg ⟨rfl, eg⟩; have hE0 := hE0.trans eg)  | (go_at_call 17; refine (hb4 _ hE0).mono ?_; rintro e wg ⟨rfl, eg⟩; have hE0 := hE0.trans eg)  | (go_at_call 15; refine (lives_any _).mono ?_; rintro e wz ⟨rfl, ez⟩))
              go_ret
              exact ⟨rfl, (hE1.trans (hE0.alloc _)).trans ez⟩
            · have hsu := fun w' (h : Ext W1 w') => Sup_eq w' _ _ _ g.m (hG w' h).mach.1 th g.set ct _ (hT w' h) (hG w' h).mach.2.2.choose_spec (supRes g.m th g.set) 0 rfl hsE
              have hc1 : (th.length : Int) = g.m.ins := Classical.byContradiction (fun h => heq (.inl h))
              have hc2 : g.set.length = g.m.rows.length := Classical.byContradiction (fun h => heq (.inr h))
              have hq1 : ((th.length : Int) != g.m.ins) = false := by simpa using hc1
              have hq2 : ((g.set.length : Int) != (g.m.rows.length : Int)) = false := by simp; omega
              have HH := Lib.hid (And.intro hkm hsE)
              generalize supRes g.m th g.set = MM at *
              clear heq hsE hc1 hc2 hkm
              go_wp2_with (first  | (go_at_call 27; refine (hcm _ hE0).mono ?_; rintro e wa ⟨rfl, ea⟩; have hE0 := hE0.trans ea)  | (go_at_call 28; refine (hrc _ hE0).mono ?_; rintro e wa ⟨rfl, ea⟩; have hE0 := hE0.trans ea)  | (go_at_call 29; refine (hgc _ hE0).mono ?_; rintro e wa ⟨rfl, ea⟩; have hE0 := hE0.trans ea)  | (go_at_call 30; refine (hst _ hE0).mono ?_; rintro e wa ⟨rfl, ea⟩; have hE0 := hE0.trans ea)  | (go_at_call 20; refine (hav _ hE0).mono ?_; rintro e wd ⟨A20, rfl, _, ed⟩; have hE0 := hE0.trans ed)  | (go_at_call 21; refine (hat _ hE0).mono ?_; rintro e wd ⟨rfl, ed⟩; have hE0 := hE0.trans ed)  | (go_at_call 24; refine (hsu _ hE0).mono ?_; rintro e wf ⟨A24, rfl, _, ef⟩; have hE0 := hE0.trans ef)  | (go_at_call 10; refine (hb1 _ (hE0.alloc _)).mono ?_; rintro e wg ⟨rfl, eg⟩; have hE0 := (hE0.alloc _).trans eg)  | (go_at_call 11; refine (hb2 _ hE0).mono ?_; rintro e wg ⟨rfl, eg⟩; have hE0 := hE0.trans eg)  | (go_at_call 16; refine (hb3 _ hE0).mono ?_; rintro e wg ⟨rfl, eg⟩; have hE0 := hE0.trans eg)  | (go_at_call 17; refine (hb4 _ hE0).mono ?_; rintro e wg ⟨rfl, eg⟩; have hE0 := hE0.trans eg)  | (go_at_call 15; refine (lives_any _).mono ?_; rintro e wz ⟨rfl, ez⟩))
              go_ret
              exact ⟨rfl, (hE1.trans (hE0.alloc _)).trans ez⟩
        · have hc : cnt16 g = 16 := by
            unfold cnt16 at hc16 ⊢
            split
            · rename_i h; exact absurd (if_pos h) hc16
            · rfl
          have hG0 : checkG g = 16 := by unfold checkG; rw [if_neg (fun h => h hkm)]; exact hc
          have hrc := hrc0
          have hgc := hgc0
          rw [hc] at hrc
          rw [hG0] at hgc
          have hav := fun w' (h : Ext W1 w') => CheckAvoid_eq w' _ _ g (hG w' h) l cl (hL w' h) false [] 16 (by unfold avRes; rw [hG0, if_pos (by decide)]) 0 rfl
          have hat := fun w' (h : Ext W1 w') => CheckAttack_eq w' _ _ g (hG w' h) l cl (hL w' h) false 16 (by unfold atRes; rw [hG0, if_pos (by decide)])
          have hb1 := fun w' (h : Ext W1 w') => Safe_bad w' _ g (hG w' h) 16 hG0 (by decide)
          have hb2 := fun w' (h : Ext W1 w') => Ranks_bad w' _ g (hG w' h) 16 hG0 (by decide)
          have hb3 := fun w' (h : Ext W1 w') => Avoid_bad w' _ g (hG w' h) 16 hG0 (by decide)
          have hb4 := fun w' (h : Ext W1 w') => Attack_bad w' _ g (hG w' h) 16 hG0 (by decide)
          have HK := Lib.hid (And.intro hc hG0)
          clear hc hG0 hgc0 hrc0 hc16
          rcases sup_cases g.m th g.set hkm with ⟨hne, hsE⟩ | ⟨heq, hsE | hsE⟩
          · have hsu := fun w' (h : Ext W1 w') => Sup_eq w' _ _ _ g.m (hG w' h).mach.1 th g.set ct _ (hT w' h) (hG w' h).mach.2.2.choose_spec ⟨0, 0, []⟩ 16 (sup_zero (by rw [hsE]; decide)) hsE
            by_cases hc1 : (th.length : Int) = g.m.ins
            · have hc2 : g.set.length ≠ g.m.rows.length := fun h => by rcases hne with h2 | h2; exact h2 hc1; exact h2 h
              have hq1 : ((th.length : Int) != g.m.ins) = false := by simpa using hc1
              have hq2 : ((g.set.length : Int) != (g.m.rows.length : Int)) = true := by simp; omega
              have HH := Lib.hid (And.intro hkm hsE)
              clear hne hsE hc1 hc2 hkm
              go_wp2_with (first  | (go_at_call 27; refine (hcm _ hE0).mono ?_; rintro e wa ⟨rfl, ea⟩; have hE0 := hE0.trans ea)  | (go_at_call 28; refine (hrc _ hE0).mono ?_; rintro e wa ⟨rfl, ea⟩; have hE0 := hE0.trans ea)  | (go_at_call 29; refine (hgc _ hE0).mono ?_; rintro e wa ⟨rfl, ea⟩; have hE0 := hE0.trans ea)  | (go_at_call 30; refine (hst _ hE0).mono ?_; rintro e wa ⟨rfl, ea⟩; have hE0 := hE0.trans ea)  | (go_at_call 20; refine (hav _ hE0).mono ?_; rintro e wd ⟨A20, rfl, _, ed⟩; have hE0 := hE0.trans ed)  | (go_at_call 21; refine (hat _ hE0).mono ?_; rintro e wd ⟨rfl, ed⟩; have hE0 := hE0.trans ed)  | (go_at_call 24; refine (hsu _ hE0).mono ?_; rintro e wf ⟨A24, rfl, _, ef⟩; have hE0 := hE0.trans ef)  | (go_at_call 10; refine (hb1 _ (hE0.alloc _)).mono ?_; rintro e wg ⟨rfl, eg⟩; have hE0 := (hE0.alloc _).trans eg)  | (go_at_call 11; refine (hb2 _ hE0).mono ?_; rintro e wg ⟨rfl, eg⟩; have hE0 := hE0.trans eg)  | (go_at_call 16; refine (hb3 _ hE0).mono ?_; rintro e wg ⟨rfl, eg⟩; have hE0 := hE0.trans eg)  | (go_at_call 17; refine (hb4 _ hE0).mono ?_; rintro e wg ⟨rfl, eg⟩; have hE0 := hE0.trans eg)  | (go_at_call 15; refine (lives_any _).mono ?_; rintro e wz ⟨rfl, ez⟩))
              go_ret
              exact ⟨rfl, (hE1.trans hE0).trans ez⟩
            · have hq1 : ((th.length : Int) != g.m.ins) = true := by simpa using hc1
              have HH := Lib.hid (And.intro hkm hsE)
              clear hne hsE hc1 hkm
              go_wp2_with (first  | (go_at_call 27; refine (hcm _ hE0).mono ?_; rintro e wa ⟨rfl, ea⟩; have hE0 := hE0.trans ea)  | (go_at_call 28; refine (hrc _ hE0).mono ?_; rintro e wa ⟨rfl, ea⟩; have hE0 := hE0.trans ea)  | (go_at_call 29; refine (hgc _ hE0).mono ?_; rintro e wa ⟨rfl, ea⟩; have hE0 := hE0.trans ea)  | (go_at_call 30; refine (hst _ hE0).mono ?_; rintro e wa ⟨rfl, ea⟩; have hE0 := hE0.trans ea)  | (go_at_call 20; refine (hav _ hE0).mono ?_; rintro e wd ⟨A20, rfl, _, ed⟩; have hE0 := hE0.trans ed)  | (go_at_call 21; refine (hat _ hE0).mono ?_; rintro e wd ⟨rfl, ed⟩; have hE0 := hE0.trans ed)  | (go_at_call 24; refine (hsu _ hE0).mono ?_; rintro e wf ⟨A24, rfl, _, ef⟩; have hE0 := hE0.trans ef)  | (go_at_call 10; refine (hb1 _ (hE0.alloc _)).mono ?_; rintro e wg ⟨rfl, eg⟩; have hE0 := (hE0.alloc _).trans eg)  | (go_at_call 11; refine (hb2 _ hE0).mono ?_; rintro e wg ⟨rfl, eg⟩; have hE0 := hE0.trans eg)  | (go_at_call 16; refine (hb3 _ hE0).mono ?_; rintro e wg ⟨rfl, eg⟩; have hE0 := hE0.trans eg)  | (go_at_call 17; refine (hb4 _ hE0).mono ?_; rintro e wg ⟨rfl, eg⟩; have hE0 := hE0.trans eg)  | (go_at_call 15; refine (lives_any _).mono ?_; rintro e wz ⟨rfl, ez⟩))
              go_ret
              exact ⟨rfl, (hE1.trans hE0).trans ez⟩
          · have hsu := fun w' (h : Ext W1 w') => Sup_eq w' _ _ _ g.m (hG w' h).mach.1 th g.set ct _ (hT w' h) (hG w' h).mach.2.2.choose_spec ⟨0, 0, []⟩ 7 (sup_zero (by rw [hsE]; decide)) hsE
            have hc1 : (th.length : Int) = g.m.ins := Classical.byContradiction (fun h => heq (.inl h))
            have hc2 : g.set.length = g.m.rows.length := Classical.byContradiction (fun h => heq (.inr h))
            have hq1 : ((th.length : Int) != g.m.ins) = false := by simpa using hc1
            have hq2 : ((g.set.length : Int) != (g.m.rows.length : Int)) = false := by simp; omega
            have HH := Lib.hid (And.intro hkm hsE)
            clear heq hsE hc1 hc2 hkm
            go_wp2_with (first  | (go_at_call 27; refine (hcm _ hE0).mono ?_; rintro e wa ⟨rfl, ea⟩; have hE0 := hE0.trans ea)  | (go_at_call 28; refine (hrc _ hE0).mono ?_; rintro e wa ⟨rfl, ea⟩; have hE0 := hE0.trans ea)  | (go_at_call 29; refine (hgc _ hE0).mono ?_; rintro e wa ⟨rfl, ea⟩; have hE0 := hE0.trans ea)  | (go_at_call 30; refine (hst _ hE0).mono ?_; rintro e wa ⟨rfl, ea⟩; have hE0 := hE0.trans ea)  | (go_at_call 20; refine (hav _ hE0).mono ?_; rintro e wd ⟨A20, rfl, _, ed⟩; have hE0 := hE0.trans ed)  | (go_at_call 21; refine (hat _ hE0).mono ?_; rintro e wd ⟨rfl, ed⟩; have hE0 := hE0.trans ed)  | (go_at_call 24; refine (hsu _ hE0).mono ?_; rintro e wf ⟨A24, rfl, _, ef⟩; have hE0 := hE0.trans ef)  | (go_at_call 10; refine (hb1 _ (hE0.alloc _)).mono ?_; rintro e wg ⟨rfl, eg⟩; have hE0 := (hE0.alloc _).trans eg)  | (go_at_call 11; refine (hb2 _ hE0).mono ?_; rintro e wg ⟨rfl, eg⟩; have hE0 := hE0.trans eg)  | (go_at_call 16; refine (hb3 _ hE0).mono ?_; rintro e wg ⟨rfl, eg⟩; have hE0 := hE0.trans eg)  | (go_at_call 17; refine (hb4 _ hE0).mono ?_; rintro e wg ⟨rfl, eg⟩; have hE0 := hE0.trans eg)  | (go_at_call 15; refine (lives_any _).mono ?_; rintro e wz ⟨rfl, ez⟩))
            go_ret
            exact ⟨rfl, (hE1.trans hE0).trans ez⟩
          · have hsu := fun w' (h : Ext W1 w') => Sup_eq w' _ _ _ g.m (hG w' h).mach.1 th g.set ct _ (hT w' h) (hG w' h).mach.2.2.choose_spec (supRes g.m th g.set) 0 rfl hsE
            have hc1 : (th.length : Int) = g.m.ins := Classical.byContradiction (fun h => heq (.inl h))
            have hc2 : g.set.length = g.m.rows.length := Classical.byContradiction (fun h => heq (.inr h))
            have hq1 : ((th.length : Int) != g.m.ins) = false := by simpa using hc1
            have hq2 : ((g.set.length : Int) != (g.m.rows.length : Int)) = false := by simp; omega
            have HH := Lib.hid (And.intro hkm hsE)
            generalize supRes g.m th g.set = MM at *
            clear heq hsE hc1 hc2 hkm
            go_wp2_with (first  | (go_at_call 27; refine (hcm _ hE0).mono ?_; rintro e wa ⟨rfl, ea⟩; have hE0 := hE0.trans ea)  | (go_at_call 28; refine (hrc _ hE0).mono ?_; rintro e wa ⟨rfl, ea⟩; have hE0 := hE0.trans ea)  | (go_at_call 29; refine (hgc _ hE0).mono ?_; rintro e wa ⟨rfl, ea⟩; have hE0 := hE0.trans ea)  | (go_at_call 30; refine (hst _ hE0).mono ?_; rintro e wa ⟨rfl, ea⟩; have hE0 := hE0.trans ea)  | (go_at_call 20; refine (hav _ hE0).mono ?_; rintro e wd ⟨A20, rfl, _, ed⟩; have hE0 := hE0.trans ed)  | (go_at_call 21; refine (hat _ hE0).mono ?_; rintro e wd ⟨rfl, ed⟩; have hE0 := hE0.trans ed)  | (go_at_call 24; refine (hsu _ hE0).mono ?_; rintro e wf ⟨A24, rfl, _, ef⟩; have hE0 := hE0.trans ef)  | (go_at_call 10; refine (hb1 _ (hE0.alloc _)).mono ?_; rintro e wg ⟨rfl, eg⟩; have hE0 := (hE0.alloc _).trans eg)  | (go_at_call 11; refine (hb2 _ hE0).mono ?_; rintro e wg ⟨rfl, eg⟩; have hE0 := hE0.trans eg)  | (go_at_call 16; refine (hb3 _ hE0).mono ?_; rintro e wg ⟨rfl, eg⟩; have hE0 := hE0.trans eg)  | (go_at_call 17; refine (hb4 _ hE0).mono ?_; rintro e wg ⟨rfl, eg⟩; have hE0 := hE0.trans eg)  | (go_at_call 15; refine (lives_any _).mono ?_; rintro e wz ⟨rfl, ez⟩))
            go_ret
            exact ⟨rfl, (hE1.trans hE0).trans ez⟩
      · obtain ⟨km, hkme⟩ : ∃ km, km = checkM g.m := ⟨_, rfl⟩
        have hG0 : checkG g = km := by unfold checkG; rw [if_pos hkm]; exact hkme.symm
        rw [← hkme] at hkm
        have hcm := fun w' (h : Ext W1 w') => hcm0 w' h
        have hgc := fun w' (h : Ext W1 w') => hgc0 w' h
        rw [← hkme] at hcm
        rw [hG0] at hgc
        have hav := fun w' (h : Ext W1 w') => CheckAvoid_eq w' _ _ g (hG w' h) l cl (hL w' h) false [] km (by unfold avRes; rw [hG0, if_pos hkm]) 0 rfl
        have hat := fun w' (h : Ext W1 w') => CheckAttack_eq w' _ _ g (hG w' h) l cl (hL w' h) false km (by unfold atRes; rw [hG0, if_pos hkm])
        have hsE : supE g.m th g.set = km := by unfold supE; rw [← hkme, if_pos hkm]
        have hsu := fun w' (h : Ext W1 w') => Sup_eq w' _ _ _ g.m (hG w' h).mach.1 th g.set ct _ (hT w' h) (hG w' h).mach.2.2.choose_spec ⟨0, 0, []⟩ km (sup_zero (by rw [hsE]; exact hkm)) hsE
        have hb1 := fun w' (h : Ext W1 w') => Safe_bad w' _ g (hG w' h) km hG0 hkm
        have hb2 := fun w' (h : Ext W1 w') => Ranks_bad w' _ g (hG w' h) km hG0 hkm
        have hb3 := fun w' (h : Ext W1 w') => Avoid_bad w' _ g (hG w' h) km hG0 hkm
        have hb4 := fun w' (h : Ext W1 w') => Attack_bad w' _ g (hG w' h) km hG0 hkm
        have HK := Lib.hid (And.intro hkme hG0)
        clear hkme hG0 hsE hcm0 hgc0 hrc0
        have hkk : (km != km) = false := by simp
        have hkk2 : (km == km) = true := by simp
        have hk0 : (km == 0) = false := by simpa using hkm
        have hk1 : (km != 0) = true := by simpa using hkm
        clear hkm
        go_wp2_with (first  | (go_at_call 27; refine (hcm _ hE0).mono ?_; rintro e wa ⟨rfl, ea⟩; have hE0 := hE0.trans ea)  | (go_at_call 28; refine (hrc _ hE0).mono ?_; rintro e wa ⟨rfl, ea⟩; have hE0 := hE0.trans ea)  | (go_at_call 29; refine (hgc _ hE0).mono ?_; rintro e wa ⟨rfl, ea⟩; have hE0 := hE0.trans ea)  | (go_at_call 30; refine (hst _ hE0).mono ?_; rintro e wa ⟨rfl, ea⟩; have hE0 := hE0.trans ea)  | (go_at_call 20; refine (hav _ hE0).mono ?_; rintro e wd ⟨A20, rfl, _, ed⟩; have hE0 := hE0.trans ed)  | (go_at_call 21; refine (hat _ hE0).mono ?_; rintro e wd ⟨rfl, ed⟩; have hE0 := hE0.trans ed)  | (go_at_call 24; refine (hsu _ hE0).mono ?_; rintro e wf ⟨A24, rfl, _, ef⟩; have hE0 := hE0.trans ef)  | (go_at_call 10; refine (hb1 _ (hE0.alloc _)).mono ?_; rintro e wg ⟨rfl, eg⟩; have hE0 := (hE0.alloc _).trans eg)  | (go_at_call 11; refine (hb2 _ hE0).mono ?_; rintro e wg ⟨rfl, eg⟩; have hE0 := hE0.trans eg)  | (go_at_call 16; refine (hb3 _ hE0).mono ?_; rintro e wg ⟨rfl, eg⟩; have hE0 := hE0.trans eg)  | (go_at_call 17; refine (hb4 _ hE0).mono ?_; rintro e wg ⟨rfl, eg⟩; have hE0 := hE0.trans eg)  | (go_at_call 15; refine (lives_any _).mono ?_; rintro e wz ⟨rfl, ez⟩))
        go_ret
        exact ⟨rfl, (hE1.trans hE0).trans ez⟩
#print axioms GamesErrors_any
end Go.Proofs.Yteadkafeabhhhaa
