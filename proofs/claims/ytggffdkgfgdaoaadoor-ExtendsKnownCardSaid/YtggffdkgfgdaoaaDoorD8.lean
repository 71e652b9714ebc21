/- THE LAW ExtendsErrors 8: the walk. -/
import Derived.Test.YtggffdkgfgdaoaaDoorF10
import Derived.Test.YtggffdkgfgdaoaaDoorC3
namespace Go.Proofs.YtggffdkgfgdaoaaDoor
open Go.RowKit Go.Maps
set_option linter.unusedVariables false
set_option linter.unusedSimpArgs false
attribute [local go_sem] Oper.quietV quietV Oper.gives givesV ext_refl_iff ext_alloc_iff ext_drew_iff ext_drewN_iff
set_option maxRecDepth 100000 in
set_option maxHeartbeats 16000000 in
theorem ExtendsErrors_any (w : World) (xv : Value) (x : Xt) (s : Int) (ys : List Int) (yv : Value) (cy : Nat) (wv : Value) (ws : List Int) (cw : Nat) (hx : XtV w x xv) (hy : IntsC w yv ys cy) (hw : IntsC w wv ws cw) (hT : OpsTab w) : Calls Tryd.prog 8 #[xv, .agg #[.int .i64 s, yv], wv] w (LivP w) := by
  have HA := Lib.hid (And.intro hx (And.intro hy hw))
  have HT := Lib.hid hT
  obtain ⟨vv, sv, av, c1, c2, c3, rfl, ⟨Av, rfl, _⟩, ⟨As, rfl, _⟩, ⟨Aa, as', rfl, _⟩⟩ := hx
  obtain ⟨Ay, rfl, _, _, hym⟩ := hy
  obtain ⟨Aw, rfl, _, _, hwm⟩ := hw
  unfold lenMax at hym hwm
  clear hT
  go_enter Tryd.func8, Tryd.ntmps8
  go_upto_region 1 with fail
  refine wp_named ?_
  intro W1 hW1
  have hE1 : Ext w W1 := by rw [hW1]; exact (alloc_ext _ _).trans (alloc_ext _ _)
  have hB3 : W1.heap[w.heap.size]? = some (.cells #[.int .i64 x.ins, .int .i64 x.outs, .int .i64 x.states, .slice Av x.vars.length c1, .slice As x.start.length c2, .slice Aa x.arcs.length c3] 31 (0, 0)) := by rw [hW1]; exact heap_ext (alloc_ext _ _) (heap_alloc_new _ _)
  have hB4 : W1.heap[w.heap.size + 1]? = some (.cells #[.int .i64 s, .slice Ay ys.length cy] 34 (0, 0)) := by
    rw [hW1]
    have := heap_alloc_new (w.alloc (.cells #[.int .i64 x.ins, .int .i64 x.outs, .int .i64 x.states, .slice Av x.vars.length c1, .slice As x.start.length c2, .slice Aa x.arcs.length c3] 31)) (.cells #[.int .i64 s, .slice Ay ys.length cy] 34)
    simpa using this
  have hgr := great_any W1 _ x (HA.out.1.ext hE1)
  have HE1 := Lib.hid (And.intro hE1 hB4)
  clear hW1 hE1 hB4
  generalize w.heap.size + 1 = d4 at *
  generalize w.heap.size = d3 at *
  unfold GreatP at hgr
  have y1 := cell_of_blk HE1.out.2 1 (u := .slice Ay ys.length cy) rfl
  have HL1 := Lib.hid (fun W (e : Ext W1 W) => lives_any W (HT.out.ext (HE1.out.1.trans e)))
  by_cases hy20 : (20 : Int) < ys.length
  · skip
    go_wp2_with (first
      | (with_reducible refine wpList_load_row rfl 31 _ rfl d3 rfl 31 _ (0, 0) _ hB3 Tryd.underlying31 rfl (by kernel_rfl) ?_)
      | ((with_reducible refine hgr.mono ?_); rintro e W2 ⟨hg, e2⟩; have y1 := e2.cell y1; have hlv := HL1.out W2 e2; rcases hg with rfl | rfl)
      | ((with_reducible refine hlv.mono ?_); rintro e W3 ⟨rfl, e3⟩))
    all_goals
      go_ret
      exact ⟨rfl, HE1.out.1.trans (e2.trans e3)⟩
  by_cases hw3 : (300 : Int) < ws.length
  · skip
    go_wp2_with (first
      | (with_reducible refine wpList_load_row rfl 31 _ rfl d3 rfl 31 _ (0, 0) _ hB3 Tryd.underlying31 rfl (by kernel_rfl) ?_)
      | ((with_reducible refine hgr.mono ?_); rintro e W2 ⟨hg, e2⟩; have y1 := e2.cell y1; have hlv := HL1.out W2 e2; rcases hg with rfl | rfl)
      | ((with_reducible refine hlv.mono ?_); rintro e W3 ⟨rfl, e3⟩))
    all_goals
      go_ret
      exact ⟨rfl, HE1.out.1.trans (e2.trans e3)⟩
  go_upto_region 3 with (first
    | (with_reducible refine wpList_load_row rfl 31 _ rfl d3 rfl 31 _ (0, 0) _ hB3 Tryd.underlying31 rfl (by kernel_rfl) ?_)
    | ((with_reducible refine hgr.mono ?_); rintro e W2 ⟨hg, e2⟩; have y1 := e2.cell y1; have hlv := HL1.out W2 e2; rcases hg with rfl | rfl)
    | ((with_reducible refine hlv.mono ?_); rintro e W3 ⟨rfl, e3⟩))
  rotate_left
  · go_ret
    exact ⟨rfl, HE1.out.1.trans (e2.trans e3)⟩
  have HE2 := Lib.hid (And.intro (HE1.out.1.trans e2) (heap_ext e2 HE1.out.2))
  have hB3 := heap_ext e2 hB3
  have hck := refCheck29_any W2 _ x (HA.out.1.ext HE2.out.1)
  have hxc := fun W (e : Ext W2 W) => extCheck_any W _ x (HA.out.1.ext (HE2.out.1.trans e)) (HT.out.ext (HE2.out.1.trans e))
  have hrn := fun W (e : Ext W2 W) => extRun_any W _ x _ ws cw (HA.out.1.ext (HE2.out.1.trans e)) (HT.out.ext (HE2.out.1.trans e)) (HA.out.2.2.ext (HE2.out.1.trans e))
  have hst := fun W (e : Ext W2 W) => extStep_any W _ x s _ ys cy 0 (HA.out.1.ext (HE2.out.1.trans e)) (HT.out.ext (HE2.out.1.trans e)) (HA.out.2.1.ext (HE2.out.1.trans e))
  unfold ErrP at hck hxc
  obtain ⟨q, hq⟩ : ∃ q, q = xtR x := ⟨_, rfl⟩
  rw [← hq] at hck hxc
  have HQ := Lib.hid hq
  obtain ⟨er, her⟩ : ∃ r, r = runE x ws := ⟨_, rfl⟩
  rw [← her] at hrn
  have HER := Lib.hid her
  obtain ⟨fe, hfe⟩ : ∃ r, r = stpE x s ys 0 := ⟨_, rfl⟩
  rw [← hfe] at hst
  have HFE := Lib.hid hfe
  clear hq her hfe hgr e2 y1 hlv HL1 HE1
  go_upto_region 4 with (first
    | (with_reducible refine wpList_load_row rfl 31 _ rfl d3 rfl 31 _ (0, 0) _ hB3 Tryd.underlying31 rfl (by kernel_rfl) ?_)
    | ((with_reducible refine hck.mono ?_); rintro e W3 ⟨rfl, e3⟩))
  have hxc3 := hxc W3 e3
  have hB3' := heap_ext e3 hB3
  go_upto_region 6 with (first
    | (with_reducible refine wpList_load_row rfl 31 _ rfl d3 rfl 31 _ (0, 0) _ hB3' Tryd.underlying31 rfl (by kernel_rfl) ?_)
    | ((with_reducible refine hxc3.mono ?_); rintro e W4 ⟨rfl, e4⟩))
  have HE4 := Lib.hid (e3.trans e4)
  have hB3 := heap_ext HE4.out hB3
  have hrn4 := hrn W4 HE4.out
  clear hck hxc hxc3 hB3' e3 e4 hrn
  by_cases hq0 : q = 0
  rotate_left
  · obtain rfl : er = q := by rw [HER.out]; unfold runE; rw [← HQ.out, if_pos hq0]
    obtain rfl : fe = er := by rw [HFE.out]; unfold stpE; rw [← HQ.out, if_pos hq0]
    have hrn4 := hrn4.mono (fun _ _ h => h.2 hq0)
    have hst := fun W e => (hst W e).mono (fun _ _ h => h.2 hq0)
    have hun := fun W (e : Ext W2 W) => (unfold_any W _ x (HA.out.1.ext (HE2.out.1.trans e)) (HT.out.ext (HE2.out.1.trans e))).mono (fun _ _ h => h.1 (by rw [← HQ.out]; exact hq0))
    have hcf := fun W (e : Ext W2 W) => (conflict_any W _ x (HA.out.1.ext (HE2.out.1.trans e)) (HT.out.ext (HE2.out.1.trans e))).mono (fun _ _ h => And.intro (h.1 (by rw [← HQ.out]; exact hq0)) h.2.2.2)
    rw [← HQ.out] at hun hcf
    have hz : (fe != 0) = true := bne_iff_ne.2 hq0
    clear hq0
    go_upto_region 7 with (first
      | (with_reducible refine wpList_load_row rfl 31 _ rfl d3 rfl 31 _ (0, 0) _ hB3 Tryd.underlying31 rfl (by kernel_rfl) ?_)
      | ((with_reducible refine hrn4.mono ?_); rintro e W5 ⟨rfl, e5⟩))
    have HE5 := Lib.hid (HE4.out.trans e5)
    have hB3 := heap_ext e5 hB3
    have hB4 := heap_ext HE5.out HE2.out.2
    have hst5 := hst W5 HE5.out
    clear hrn4 e5 hst
    go_upto_region 8 with (first
      | (with_reducible refine wpList_load_row rfl 31 _ rfl d3 rfl 31 _ (0, 0) _ hB3 Tryd.underlying31 rfl (by kernel_rfl) ?_)
      | (with_reducible refine wpList_load_row rfl 34 _ rfl d4 rfl 34 _ (0, 0) _ hB4 Tryd.underlying34 rfl (by kernel_rfl) ?_)
      | ((with_reducible refine hst5.mono ?_); rintro e W6 ⟨rfl, e6⟩)
      | (with_reducible refine wpList_store_blk _ rfl 34 _ _ rfl W6.heap.size 34 _ _ rfl rfl (heap_alloc_new _ _) (by kernel_rfl) (by kernel_rfl) (by kernel_rfl) ?_; intro W7 h7 g7))
    have hE67 : Ext W6 W7 := Below.grown (alloc_ext W6 _) g7 (alloc_ext W6 _).size (fun k hk => by cases hk; exact Nat.le_refl _)
    have HE7 := Lib.hid (HE5.out.trans (e6.trans hE67))
    have hB3 := heap_ext (e6.trans hE67) hB3
    have hun7 := hun W7 HE7.out
    have H7 := Lib.hid h7
    clear hst5 hB4 e6 g7 hE67 h7 hun
    generalize W6.heap.size = d10 at *
    go_upto_region 10 with (first
      | (with_reducible refine wpList_load_row rfl 31 _ rfl d3 rfl 31 _ (0, 0) _ hB3 Tryd.underlying31 rfl (by kernel_rfl) ?_)
      | ((with_reducible refine hun7.mono ?_); rintro e W8 ⟨rfl, e8⟩)
      | (with_reducible refine wpList_store_blk _ rfl 52 _ _ rfl W8.heap.size 52 _ _ rfl rfl (heap_alloc_new _ _) (by kernel_rfl) (by kernel_rfl) (by kernel_rfl) ?_; intro W9 h9 g9))
    have hE89 : Ext W8 W9 := Below.grown (alloc_ext W8 _) g9 (alloc_ext W8 _).size (fun k hk => by cases hk; exact Nat.le_refl _)
    have HE9 := Lib.hid (And.intro (HE7.out.trans (e8.trans hE89)) (heap_ext (e8.trans hE89) H7.out))
    have hB3 := heap_ext (e8.trans hE89) hB3
    have hcf9 := hcf W9 HE9.out.1
    have H9 := Lib.hid h9
    clear hun7 e8 g9 hE89 h9 hcf H7
    generalize W8.heap.size = d13 at *
    go_upto_region 11 with (first
      | (with_reducible refine wpList_load_row rfl 31 _ rfl d3 rfl 31 _ (0, 0) _ hB3 Tryd.underlying31 rfl (by kernel_rfl) ?_)
      | ((with_reducible refine hcf9.mono ?_); rintro e W10 ⟨rfl, e10⟩))
    have HE10 := Lib.hid (HE2.out.1.trans (HE9.out.1.trans e10))
    have j0 := e10.cell (cell_of_blk HE9.out.2 0 (u := .int .i64 0) rfl)
    have j1 := e10.cell (cell_of_blk HE9.out.2 1 (u := .slice none 0 0) rfl)
    have k0 := e10.cell (cell_of_blk H9.out 0 (u := .int .i64 0) rfl)
    have k2 := e10.cell (cell_of_blk H9.out 2 (u := .slice none 0 0) rfl)
    have hlv := lives_any W10 (HT.out.ext HE10.out)
    have hz2 : (fe == fe) = true := beq_self_eq_true _
    clear hcf9 e10 hB3
    go_wp2_with ((with_reducible refine hlv.mono ?_); rintro e W11 ⟨rfl, e11⟩)
    go_ret
    exact ⟨rfl, HE10.out.trans e11⟩
  · subst hq0
    have HEW : Hid (er = wordC ws x.ins) := Lib.hid (by rw [HER.out]; unfold runE; rw [← HQ.out]; rfl)
    have HFV : Hid (fe = if numB s x.states = false then 1 else if valsR x.vars ys ≠ 0 then valsR x.vars ys else if (stepR x s ys 0).isNone then 7 else 0) := Lib.hid (by
      rw [HFE.out]
      unfold stpE
      rw [← HQ.out, if_neg (show ¬ ((0 : Int) ≠ 0) by simp)]
      have h0 : numB 0 x.ins = true := by have := (xtR_ok HQ.out.symm).2.2.2.2.2.1; exact decide_eq_true (by omega)
      rw [h0, if_neg (c := true = false) (by simp)])
    have hrn4 := hrn4.mono (R' := fun e w' => ∃ A n c, e = .returned (.tuple #[.slice A n c, .int .i64 er]) ∧ (er ≠ 0 → n = 0) ∧ n ≤ c ∧ n ≤ 9223372036854775807 ∧ Ext W4 w') (fun e w' h => by
      by_cases h0 : er = 0
      · obtain ⟨A, h1, ⟨A', _, _, h4, h5⟩, h6, _⟩ := h.1 h0
        exact ⟨A, _, _, by rw [h0]; exact h1, fun h => absurd h0 h, h4, h5, h6⟩
      · exact ⟨none, 0, 0, (h.2 h0).1, fun _ => rfl, Nat.le_refl _, by omega, (h.2 h0).2⟩)
    have hst := fun W e => (hst W e).mono (R' := fun e w' => ∃ t A n c o, e = .returned (.tuple #[.agg #[.int .i64 t, .slice A n c], .int .i64 o, .int .i64 fe]) ∧ Ext W w') (fun e w' h => by
      by_cases h0 : fe = 0
      · obtain ⟨t, zs, o, A, _, h1, _, h3⟩ := h.1 h0
        exact ⟨t, A, _, _, o, by rw [h0]; exact h1, h3⟩
      · exact ⟨0, none, 0, 0, 0, (h.2 h0).1, (h.2 h0).2⟩)
    have hwd := fun W (e : Ext W2 W) => refWord_any W _ ws cw x.ins (HA.out.2.2.ext (HE2.out.1.trans e))
    rw [← HEW.out] at hwd
    obtain ⟨c1', hvc⟩ : ∃ c', VarsC w (.slice Av x.vars.length c1) x.vars c' := by
      obtain ⟨vv, sv, av, c1', c2', c3', h1, h2, _⟩ := HA.out.1
      cases h1
      exact ⟨_, h2⟩
    have hvl := fun W (e : Ext W2 W) => refCheckValues_any W _ _ x.vars ys c1' cy (hvc.ext (HE2.out.1.trans e)) (HA.out.2.1.ext (HE2.out.1.trans e))
    unfold ErrP at hvl
    obtain ⟨vr, hvr⟩ : ∃ r, r = valsR x.vars ys := ⟨_, rfl⟩
    rw [← hvr] at hvl HFV
    clear hvr hvc
    go_upto_region 7 with (first
      | (with_reducible refine wpList_load_row rfl 31 _ rfl d3 rfl 31 _ (0, 0) _ hB3 Tryd.underlying31 rfl (by kernel_rfl) ?_)
      | ((with_reducible refine hrn4.mono ?_); rintro e W5 ⟨Ar, nr, cr, rfl, hnr, hnc, hnm, e5⟩))
    have HE5 := Lib.hid (HE4.out.trans e5)
    have hB3 := heap_ext e5 hB3
    have hB4 := heap_ext HE5.out HE2.out.2
    have hst5 := hst W5 HE5.out
    have HNR := Lib.hid hnr
    clear hrn4 e5 hst hnr
    go_upto_region 8 with (first
      | (with_reducible refine wpList_load_row rfl 31 _ rfl d3 rfl 31 _ (0, 0) _ hB3 Tryd.underlying31 rfl (by kernel_rfl) ?_)
      | (with_reducible refine wpList_load_row rfl 34 _ rfl d4 rfl 34 _ (0, 0) _ hB4 Tryd.underlying34 rfl (by kernel_rfl) ?_)
      | ((with_reducible refine hst5.mono ?_); rintro e W6 ⟨tt, At, nt, ct, ot, rfl, e6⟩)
      | (with_reducible refine wpList_store_blk _ rfl 34 _ _ rfl W6.heap.size 34 _ _ rfl rfl (heap_alloc_new _ _) (by kernel_rfl) (by kernel_rfl) (by kernel_rfl) ?_; intro W7 h7 g7))
    have hE67 : Ext W6 W7 := Below.grown (alloc_ext W6 _) g7 (alloc_ext W6 _).size (fun k hk => by cases hk; exact Nat.le_refl _)
    have HE7 := Lib.hid (HE5.out.trans (e6.trans hE67))
    have hB3 := heap_ext (e6.trans hE67) hB3
    have hwd7 := hwd W7 HE7.out
    clear hst5 hB4 e6 g7 hE67 h7 hwd
    generalize W6.heap.size = d10 at *
    have i0 := cell_of_blk hB3 0 (u := .int .i64 x.ins) rfl
    go_upto_region 13 with ((with_reducible refine hwd7.mono ?_); rintro e W8 ⟨rfl, rfl⟩)
    have i2 := cell_of_blk hB3 2 (u := .int .i64 x.states) rfl
    have i3 := cell_of_blk hB3 3 (u := .slice Av x.vars.length c1) rfl
    have hB4 := heap_ext HE7.out HE2.out.2
    have j0 := cell_of_blk hB4 0 (u := .int .i64 s) rfl
    have j1 := cell_of_blk hB4 1 (u := .slice Ay ys.length cy) rfl
    have hvl7 := hvl W7 HE7.out
    have HL7 := Lib.hid (fun W (e : Ext W7 W) => lives_any W (HT.out.ext ((HE2.out.1.trans HE7.out).trans e)))
    have HE27 := Lib.hid (HE2.out.1.trans HE7.out)
    have hee : (er != er) = false := bne_self_eq_false _
    clear hwd7 hvl hB3 hB4 i0
    by_cases her : er = 0
    · subst her
      go_upto_region 15 with fail
      by_cases hs0 : 0 ≤ s
      rotate_left
      · obtain rfl : fe = 1 := by rw [HFV.out, if_pos (show numB s x.states = false from decide_eq_false (by omega))]
        have hlv := HL7.out _ (Ext.refl _)
        go_wp2_with ((with_reducible refine hlv.mono ?_); rintro e W11 ⟨rfl, e11⟩)
        go_ret
        exact ⟨rfl, HE27.out.trans e11⟩
      by_cases hs1 : s < x.states
      rotate_left
      · obtain rfl : fe = 1 := by rw [HFV.out, if_pos (show numB s x.states = false from decide_eq_false (by omega))]
        have hlv := HL7.out _ (Ext.refl _)
        go_wp2_with ((with_reducible refine hlv.mono ?_); rintro e W11 ⟨rfl, e11⟩)
        go_ret
        exact ⟨rfl, HE27.out.trans e11⟩
      have hfv : fe = if vr ≠ 0 then vr else if (stepR x s ys 0).isNone then 7 else 0 := by
        rw [HFV.out, show numB s x.states = true from decide_eq_true ⟨hs0, hs1⟩]; rfl
      have HFV2 := Lib.hid hfv
      clear hfv
      by_cases hv0 : vr = 0
      rotate_left
      · obtain rfl : fe = vr := by rw [HFV2.out, if_pos hv0]
        have hvv : (fe == fe) = true := beq_self_eq_true _
        clear hv0
        go_wp2_with (first
          | ((with_reducible refine hvl7.mono ?_); rintro e W10 ⟨rfl, e10⟩; have hlv := HL7.out W10 e10)
          | ((with_reducible refine hlv.mono ?_); rintro e W11 ⟨rfl, e11⟩))
        go_ret
        exact ⟨rfl, HE27.out.trans (e10.trans e11)⟩
      subst hv0
      have HFV3 : Hid (fe = 7 ∨ fe = 0) := Lib.hid (by rw [HFV2.out, if_neg (by simp)]; split <;> simp)
      rcases HFV3.out with rfl | rfl
      · skip
        go_wp2_with (first
          | ((with_reducible refine hvl7.mono ?_); rintro e W10 ⟨rfl, e10⟩; have hlv := HL7.out W10 e10)
          | ((with_reducible refine hlv.mono ?_); rintro e W11 ⟨rfl, e11⟩))
        go_ret
        exact ⟨rfl, HE27.out.trans (e10.trans e11)⟩
      · skip
        go_wp2_with (first
          | ((with_reducible refine hvl7.mono ?_); rintro e W10 ⟨rfl, e10⟩; have hlv := HL7.out W10 e10)
          | ((with_reducible refine hlv.mono ?_); rintro e W11 ⟨rfl, e11⟩))
        go_ret
        exact ⟨rfl, HE27.out.trans (e10.trans e11)⟩
    · obtain rfl : nr = 0 := HNR.out her
      have hez : (er != 0) = true := bne_iff_ne.2 her
      clear her
      go_upto_region 15 with fail
      by_cases hs0 : 0 ≤ s
      rotate_left
      · obtain rfl : fe = 1 := by rw [HFV.out, if_pos (show numB s x.states = false from decide_eq_false (by omega))]
        have hlv := HL7.out _ (Ext.refl _)
        go_wp2_with ((with_reducible refine hlv.mono ?_); rintro e W11 ⟨rfl, e11⟩)
        go_ret
        exact ⟨rfl, HE27.out.trans e11⟩
      by_cases hs1 : s < x.states
      rotate_left
      · obtain rfl : fe = 1 := by rw [HFV.out, if_pos (show numB s x.states = false from decide_eq_false (by omega))]
        have hlv := HL7.out _ (Ext.refl _)
        go_wp2_with ((with_reducible refine hlv.mono ?_); rintro e W11 ⟨rfl, e11⟩)
        go_ret
        exact ⟨rfl, HE27.out.trans e11⟩
      have hfv : fe = if vr ≠ 0 then vr else if (stepR x s ys 0).isNone then 7 else 0 := by
        rw [HFV.out, show numB s x.states = true from decide_eq_true ⟨hs0, hs1⟩]; rfl
      have HFV2 := Lib.hid hfv
      clear hfv
      by_cases hv0 : vr = 0
      rotate_left
      · obtain rfl : fe = vr := by rw [HFV2.out, if_pos hv0]
        have hvv : (fe == fe) = true := beq_self_eq_true _
        clear hv0
        go_wp2_with (first
          | ((with_reducible refine hvl7.mono ?_); rintro e W10 ⟨rfl, e10⟩; have hlv := HL7.out W10 e10)
          | ((with_reducible refine hlv.mono ?_); rintro e W11 ⟨rfl, e11⟩))
        go_ret
        exact ⟨rfl, HE27.out.trans (e10.trans e11)⟩
      subst hv0
      have HFV3 : Hid (fe = 7 ∨ fe = 0) := Lib.hid (by rw [HFV2.out, if_neg (by simp)]; split <;> simp)
      rcases HFV3.out with rfl | rfl
      · skip
        go_wp2_with (first
          | ((with_reducible refine hvl7.mono ?_); rintro e W10 ⟨rfl, e10⟩; have hlv := HL7.out W10 e10)
          | ((with_reducible refine hlv.mono ?_); rintro e W11 ⟨rfl, e11⟩))
        go_ret
        exact ⟨rfl, HE27.out.trans (e10.trans e11)⟩
      · skip
        go_wp2_with (first
          | ((with_reducible refine hvl7.mono ?_); rintro e W10 ⟨rfl, e10⟩; have hlv := HL7.out W10 e10)
          | ((with_reducible refine hlv.mono ?_); rintro e W11 ⟨rfl, e11⟩))
        go_ret
        exact ⟨rfl, HE27.out.trans (e10.trans e11)⟩
end Go.Proofs.YtggffdkgfgdaoaaDoor
