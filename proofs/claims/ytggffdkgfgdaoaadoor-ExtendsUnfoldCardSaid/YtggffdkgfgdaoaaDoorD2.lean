/- THE LAW ExtendsOrder 7: the walk. -/
import Derived.Test.YtggffdkgfgdaoaaDoorD1
namespace Go.Proofs.YtggffdkgfgdaoaaDoor
open Go.RowKit Go.Maps
set_option linter.unusedVariables false
set_option linter.unusedSimpArgs false
attribute [local go_sem] Oper.quietV quietV Oper.gives givesV ext_refl_iff ext_alloc_iff ext_drew_iff ext_drewN_iff
/-- What Conflict answers of a machine of V.Of. -/
def CfvP (x : Xt) (W : World) (e : Ending) (w' : World) : Prop := ∃ (i k er : Int) (A : Option Addr) (n : Nat), e = .returned (.tuple #[.int .i64 i, .int .i64 k, .slice A n n, .int .i64 er]) ∧ (er = 0 ∨ er = 7) ∧ (er = 7 → CfNo x) ∧ Ext W w'
theorem conf_of (W : World) (v : Vd) (xv : Value) (hx : XtV W (ofX v) xv) (hT : OpsTab W) : Calls Tryd.prog 23 #[xv] W (CfvP (ofX v) W) := by
  refine (conflict_any W xv (ofX v) hx hT).mono ?_
  rintro e w' ⟨_, _, h, hE⟩
  rcases h (ofX_ok v) (by show combR varsV ≤ 4096; rw [varsV_comb]; decide) with ⟨i, k, xs, A, _, he, _⟩ | ⟨hc, he⟩
  · exact ⟨i, k, 0, A, xs.length, he, .inl rfl, fun h => absurd h (by decide), hE⟩
  · exact ⟨0, 0, 7, none, 0, he, .inr rfl, fun _ => hc, hE⟩
def RunV (w : World) (L : List Int) (e : Ending) (w' : World) : Prop := ∃ A, e = .returned (.tuple #[.slice A L.length L.length, .int .i64 0]) ∧ FitC w' (.slice A L.length L.length) L ∧ Ext w w' ∧ ∀ a, A = some a → w.heap.size ≤ a.block
theorem run_of (W : World) (x : Xt) (h0 : xtR x = 0) (hins : x.ins = 2) (xv : Value) (hx : XtV W x xv) (hT : OpsTab W) (u : Value) (ws : List Nat) (c : Nat) (hu : IntsC W u (wordI ws) c) : Calls Tryd.prog 17 #[xv, u] W (RunV W (runF x (some (0, x.start)) (wordI ws))) := by
  refine (extRun_any W xv x u _ c hx hT hu).mono ?_
  rintro e w' ⟨h, _⟩
  exact h (by unfold runE; rw [if_neg (by simpa using h0), hins]; exact wordI_ok ws)
set_option maxRecDepth 100000 in
set_option maxHeartbeats 16000000 in
theorem ExtendsOrder_any (w : World) (xv : Value) (v : Vd) (p q : Nat) (wv : Value) (ws : List Nat) (c : Nat) (hp : p < 256) (hq : q < 256) (hx : VdV w xv v) (hw : U8sC w wv ws c) (hT : OpsTab w) : Calls Tryd.prog 7 #[xv, .agg #[.int .u8 (p : Int), .int .u8 (q : Int)], wv] w (LivP w) := by
  have hof := fun W (e : Ext w W) => of_any W xv v (hx.ext e)
  have HPQ : Hid (IntKind.i64.wrap (p : Int) = (p : Int) ∧ IntKind.i64.wrap (q : Int) = (q : Int)) := Lib.hid ⟨wrap_nat hp, wrap_nat hq⟩
  clear hp hq
  obtain ⟨X, hX⟩ : ∃ X, X = ofX v := ⟨_, rfl⟩
  have HXE := Lib.hid hX
  obtain ⟨_, _, _, _, Ax, cx, rfl, _⟩ := id hx
  have HW := Lib.hid (And.intro hw hT)
  obtain ⟨Aw, rfl, _⟩ := id hw
  rw [← hX] at hof
  clear hx hw hT hX
  go_enter Tryd.func7, Tryd.ntmps7
  go_upto_region 1 with fail
  refine wp_named ?_
  intro W1 hW1
  have hE1 : Ext w W1 := by rw [hW1]; exact (alloc_ext _ _).trans (alloc_ext _ _)
  have hB1 : W1.heap[w.heap.size]? = some (.cells #[.int .u8 (v.st : Int), .int .u8 (v.s0 : Int), .int .u8 (v.s1 : Int), .slice Ax v.arcs.length cx] 25 (0, 0)) := by rw [hW1]; exact heap_ext (alloc_ext _ _) (heap_alloc_new _ _)
  have hB2 : W1.heap[w.heap.size + 1]? = some (.cells #[.int .u8 (p : Int), .int .u8 (q : Int)] 22 (0, 0)) := by
    rw [hW1]
    have := heap_alloc_new (w.alloc (.cells #[.int .u8 (v.st : Int), .int .u8 (v.s0 : Int), .int .u8 (v.s1 : Int), .slice Ax v.arcs.length cx] 25)) (.cells #[.int .u8 (p : Int), .int .u8 (q : Int)] 22)
    simpa using this
  have hof := hof W1 hE1
  have HE1 := Lib.hid (And.intro hE1 hB2)
  clear hW1 hE1 hB2
  generalize w.heap.size = b1 at *
  go_upto_region 2 with (first
    | (with_reducible refine wpList_load_row rfl 25 _ rfl b1 rfl 25 _ (0, 0) _ hB1 Tryd.underlying25 rfl (by kernel_rfl) ?_)
    | ((with_reducible refine hof.mono ?_); rintro e W2 ⟨xv, rfl, hXT, e2⟩; obtain ⟨vv, sv, av, vs, q1, q2, rfl, ⟨Av, rfl, _⟩, ⟨As, rfl, _⟩, hrow, _, _⟩ := id hXT; obtain ⟨Aa, ca, rfl, _⟩ := cells_of_owns hrow; clear hrow)
    | (with_reducible refine wpList_store_blk _ rfl 31 _ _ rfl W2.heap.size 31 _ _ rfl rfl (heap_alloc_new _ _) (by kernel_rfl) (by kernel_rfl) (by kernel_rfl) ?_; intro W3 h3 g3))
  have hE23 : Ext W2 W3 := Below.grown (alloc_ext W2 _) g3 (alloc_ext W2 _).size (fun k hk => by cases hk; exact Nat.le_refl _)
  have c5 : ∀ w', Ext W3 w' → w'.cell? ⟨W2.heap.size, 5, none⟩ = some (.slice Aa X.arcs.length ca) := fun w' h => h.cell (cell_of_blk h3 5 (u := .slice Aa X.arcs.length ca) rfl)
  have HE := Lib.hid (And.intro (HE1.out.1.trans (e2.trans hE23)) (And.intro (heap_ext (e2.trans hE23) HE1.out.2) (And.intro (hXT.ext hE23) h3)))
  have HDD : Hid (W1.heap.size ≤ W2.heap.size ∧ W2.heap.size < W3.heap.size) := Lib.hid ⟨e2.size, lt_of_block h3⟩
  have HNW : Hid (w.heap.size ≤ W1.heap.size) := Lib.hid HE1.out.1.size
  clear hof hB1 e2 hE23 hXT h3 g3 HE1
  generalize W2.heap.size = d at *
  have hR3 := Ext.refl W3
  go_upto_region 3 with fail
  have hcf := conf_of W3 v _ (by rw [← HXE.out]; exact HE.out.2.2.1.v) (HW.out.2.ext HE.out.1)
  rw [← HXE.out] at hcf
  have hB3 := HE.out.2.2.2
  go_upto_region 4 with (first
    | (with_reducible refine wpList_load_row rfl 31 _ rfl d rfl 31 _ (0, 0) _ hB3 Tryd.underlying31 rfl (by kernel_rfl) ?_)
    | ((with_reducible refine hcf.mono ?_); rintro e W4 ⟨ci, ck, er, A4, n4, rfl, her, hno, e4⟩))
  have HE2 := Lib.hid (HE.out.1.trans e4)
  rcases her with rfl | rfl
  · clear c5 hR3 hcf hB3
    have hlv := lives_any W4 (HW.out.2.ext HE2.out)
    go_wp2_with ((with_reducible refine hlv.mono ?_); rintro e W9 ⟨rfl, e9⟩)
    go_ret
    exact ⟨rfl, HE2.out.trans e9⟩
  have HNO := Lib.hid (hno rfl)
  have HE4 := Lib.hid e4
  clear hno e4 hcf hB3
  by_cases hn0 : X.arcs.length = 0
  · have hn1 : ((X.arcs.length : Int) == 0) = true := beq_iff_eq.2 (by omega)
    clear hn0 c5 hR3
    have hlv := lives_any W4 (HW.out.2.ext HE2.out)
    go_wp2_with ((with_reducible refine hlv.mono ?_); rintro e W9 ⟨rfl, e9⟩)
    go_ret
    exact ⟨rfl, HE2.out.trans e9⟩
  have hn1 : ((X.arcs.length : Int) == 0) = false := beq_eq_false_iff_ne.2 (by omega)
  have hw16 := word16_any W4 _ ws c (HW.out.1.ext HE2.out)
  go_upto_region 7 with ((with_reducible refine hw16.mono ?_); rintro e W5 ⟨Bu, cu, rfl, hu, e5, hfu⟩)
  have HE5 := Lib.hid (And.intro (HE4.out.trans e5) (And.intro hu hfu))
  have hrn := run_of W5 X (by rw [HXE.out]; exact ofX_ok v) (by rw [HXE.out]; rfl) _ (HE.out.2.2.1.v.ext HE5.out.1) (HW.out.2.ext (HE.out.1.trans HE5.out.1)) _ ws cu hu
  have hB3 := heap_ext HE5.out.1 HE.out.2.2.2
  clear hw16 e5 hu hfu hn1
  go_upto_region 8 with (first
    | (with_reducible refine wpList_load_row rfl 31 _ rfl d rfl 31 _ (0, 0) _ hB3 Tryd.underlying31 rfl (by kernel_rfl) ?_)
    | ((with_reducible refine hrn.mono ?_); rintro e W6 ⟨Br, rfl, hr, e6, hfr⟩))
  have HE6 := Lib.hid (And.intro (HE5.out.1.trans e6) (And.intro (HE5.out.2.1.ext e6) (And.intro hr hfr)))
  have HS6 : Hid (W5.heap.size ≥ W3.heap.size ∧ W4.heap.size ≥ W3.heap.size) := Lib.hid ⟨HE5.out.1.size, HE4.out.size⟩
  have hB2 := heap_ext HE6.out.1 HE.out.2.1
  have s0 : ∀ w', Ext W6 w' → w'.cell? ⟨b1 + 1, 0, none⟩ = some (.int .u8 (p : Int)) := fun w' h => h.cell (cell_of_blk hB2 0 (u := .int .u8 (p : Int)) rfl)
  have s1 : ∀ w', Ext W6 w' → w'.cell? ⟨b1 + 1, 1, none⟩ = some (.int .u8 (q : Int)) := fun w' h => h.cell (cell_of_blk hB2 1 (u := .int .u8 (q : Int)) rfl)
  have hR6 := Ext.refl W6
  obtain ⟨i, hi⟩ : ∃ i, i = p % X.arcs.length := ⟨_, rfl⟩
  obtain ⟨k, hk⟩ : ∃ k, k = q % X.arcs.length := ⟨_, rfl⟩
  obtain ⟨mi, mi'⟩ := mods hi (by omega)
  obtain ⟨mk, mk'⟩ := mods hk (by omega)
  have HIK : Hid (i < X.arcs.length ∧ k < X.arcs.length) := Lib.hid ⟨by rw [hi]; exact Nat.mod_lt _ (by omega), by rw [hk]; exact Nat.mod_lt _ (by omega)⟩
  obtain ⟨hwp, hwq⟩ := HPQ.out
  have hnz : ¬ ((X.arcs.length : Int) = 0) := by omega
  clear hi hk hrn hB3 e6 hr hfr hB2 c5 hR3
  refine wp_region_ext 11 (factsOf []) (fun k => ([[], [0], [0, 1], [], [0, 1, 2, 3], [], [5], [5, 6], [], [5, 6, 7, 8], [0, 1, 2, 3, 4], [0, 1, 2, 3, 4, 5, 6, 7, 8, 9, 10]] : List (List Nat)).getD k []) (by kernel_rfl) (by kernel_rfl) Ext.pre (mono_nil) ?_
  simp only [List.take_succ_cons, List.take_zero]
  repeat (first | (with_reducible refine lexL_quiet' (v := ?_) ?_ ?_ ?_ ?_; rotate_left; (· with_reducible rfl); (· simp [factsOf]); (· intro w1 hw1 _; go_simp; with_reducible rfl); (try simp only [Act.put, List.setIfInBounds_toArray, List.set_cons_zero, List.set_cons_succ])) | (with_reducible refine lexL_skip ?_ ?_; (· simp [Region.wanted, yielded, undef]); (try simp only [Act.put, List.setIfInBounds_toArray, List.set_cons_zero, List.set_cons_succ])) | (with_reducible refine lexL_quiet (v := ?_) ?_ ?_ ?_ ?_; rotate_left; (· simp [Region.wanted, yielded, undef]); (· simp [factsOf]); (· intro w1 hw1 _; go_simp; with_reducible rfl); (try simp only [Act.put, List.setIfInBounds_toArray, List.set_cons_zero, List.set_cons_succ])))
  with_reducible refine lexL_nil ?_; intro w1 hw1 hk1; simp only [List.drop_succ_cons, List.drop_zero]
  obtain ⟨W7, hW7⟩ : ∃ W, W = w1 := ⟨_, rfl⟩
  subst hW7
  go_upto_region 9 with fail
  have HW7 := Lib.hid hw1
  clear hw1
  have hX6 := HE.out.2.2.1.ext (HE6.out.1.trans HW7.out)
  obtain ⟨vv', sv', av', ys, c1, c2, hveq, hvv, hsv, hrow, hvl, hat, hm⟩ := id hX6
  obtain ⟨q1', q2', q3'⟩ := agg6_inj hveq
  rw [← q3'] at hrow
  obtain ⟨g, cg, hAg⟩ := ownsRow_pos hrow (by omega)
  obtain ⟨hAg1, hAg2⟩ := slice_inj2 hAg
  subst hAg1 hAg2 q1' q2' q3'
  obtain ⟨yi, hyi⟩ : ∃ y, ys[i]? = some y := ⟨_, List.getElem?_eq_getElem (by rw [hvl]; exact HIK.out.1)⟩
  obtain ⟨yk, hyk⟩ : ∃ y, ys[k]? = some y := ⟨_, List.getElem?_eq_getElem (by rw [hvl]; exact HIK.out.2)⟩
  obtain ⟨ai, hai⟩ : ∃ y, X.arcs[i]? = some y := ⟨_, List.getElem?_eq_getElem HIK.out.1⟩
  obtain ⟨ak, hak⟩ : ∃ y, X.arcs[k]? = some y := ⟨_, List.getElem?_eq_getElem HIK.out.2⟩
  have HYK := Lib.hid (And.intro hyk (And.intro (hat k ak yk hak hyk) hak))
  have HYI := Lib.hid (And.intro hyi (And.intro (hat i ai yi hai hyi) hai))
  have HAT := Lib.hid (And.intro hat (And.intro hvl (And.intro hvv (And.intro hsv hm))))
  have HROW := Lib.hid hrow
  have h5 := cell_of_blk (heap_ext (HE6.out.1.trans HW7.out) HE.out.2.2.2) 5 (u := .slice (some ⟨g, 0, none⟩) X.arcs.length ca) rfl
  have HDG : Hid (d ≠ g ∧ d < W7.heap.size ∧ W1.heap.size ≤ g) := Lib.hid ⟨fun e => own_ne hrow (heap_ext (HE6.out.1.trans HW7.out) HE.out.2.2.2) (by decide) (by rw [e]; rfl), lt_of_block (heap_ext (HE6.out.1.trans HW7.out) HE.out.2.2.2), (hrow.lt g rfl).1⟩
  have H5 := Lib.hid h5
  have HILT := Lib.hid HIK.out
  have hilt : (i : Int) < (X.arcs.length : Int) := by have := HIK.out.1; omega
  have hklt : (k : Int) < (X.arcs.length : Int) := by have := HIK.out.2; omega
  clear hwp hwq hveq hvv hsv hrow hvl hat hm hyi hyk hai hak hX6 h5 s0 s1 mi mi' mk mk' hk1 hAg
  refine RI.wp_region_inv 18 (SwI W1.heap.size g d X.arcs.length ca yi yk i ys W7) (fun k => [10, 15, 17].contains k) (fun k => ([[], [0], [], [], [3], [], [], [6], [], [6, 7, 8], [6, 7, 8, 9], [], [11], [], [11, 12, 13], [11, 12, 13, 14], [0, 1, 2, 6, 7, 8, 9, 10, 11, 12, 13, 14, 15], [0, 1, 2, 6, 7, 8, 9, 10, 11, 12, 13, 14, 15, 16], [0, 1, 2, 3, 4, 5, 6, 7, 8, 9, 10, 11, 12, 13, 14, 15, 16, 17], [0, 1, 2, 3, 4, 5, 6, 7, 8, 9, 10, 11, 12, 13, 14, 15, 16, 17, 18]] : List (List Nat)).getD k []) (by kernel_rfl) (by kernel_rfl) ?_ ?_
  rotate_left; simp only [List.take_succ_cons, List.take_zero]; rotate_left
  · exact SwI.start (Ext.refl _).drew H5.out HROW.out
  repeat (first | (with_reducible refine RI.lexL_quiet' (v := ?_) ?_ ?_ ?_ ?_; rotate_left; (· with_reducible rfl); (· decide); (· intro G w1 hI1 hA1; have hw1 := hI1.ext; go_simp; with_reducible rfl); (try simp only [Act.put, List.setIfInBounds_toArray, List.set_cons_zero, List.set_cons_succ])) | (with_reducible refine RI.lexL_skip ?_ ?_; (· simp [Region.wanted, yielded, undef]); (try simp only [Act.put, List.setIfInBounds_toArray, List.set_cons_zero, List.set_cons_succ])) | (with_reducible refine RI.lexL_quiet (v := ?_) ?_ ?_ ?_ ?_; rotate_left; (· simp [Region.wanted, yielded, undef]); (· decide); (· intro G w1 hI1 hA1; have hw1 := hI1.ext; go_simp; with_reducible rfl); (try simp only [Act.put, List.setIfInBounds_toArray, List.set_cons_zero, List.set_cons_succ])))
  with_reducible refine RI.lexL_give' ?_ ?_ ?_ ?_; (· with_reducible rfl); (· decide)
  · intro G w5 hI hA hg
    refine gives_load71 (.tmp 73) ?_ g (k * 8) ?_ yk (av_rg (hI.row10 hg) HYK.out.1) (hI.load10 hg) <;> first | rfl | exact rfl | (go_simp; done)
  intro v10 G w5 hI hs2
  have hv := hI.a10 v10 (hs2 10 v10 rfl)
  subst hv
  clear hI hs2 G w5
  (try simp only [Act.put, List.setIfInBounds_toArray, List.set_cons_zero, List.set_cons_succ])
  repeat (first | (with_reducible refine RI.lexL_quiet' (v := ?_) ?_ ?_ ?_ ?_; rotate_left; (· with_reducible rfl); (· decide); (· intro G w1 hI1 hA1; have hw1 := hI1.ext; go_simp; with_reducible rfl); (try simp only [Act.put, List.setIfInBounds_toArray, List.set_cons_zero, List.set_cons_succ])) | (with_reducible refine RI.lexL_skip ?_ ?_; (· simp [Region.wanted, yielded, undef]); (try simp only [Act.put, List.setIfInBounds_toArray, List.set_cons_zero, List.set_cons_succ])) | (with_reducible refine RI.lexL_quiet (v := ?_) ?_ ?_ ?_ ?_; rotate_left; (· simp [Region.wanted, yielded, undef]); (· decide); (· intro G w1 hI1 hA1; have hw1 := hI1.ext; go_simp; with_reducible rfl); (try simp only [Act.put, List.setIfInBounds_toArray, List.set_cons_zero, List.set_cons_succ])))
  with_reducible refine RI.lexL_give' ?_ ?_ ?_ ?_; (· with_reducible rfl); (· decide)
  · intro G w5 hI hA hg
    refine gives_load71 (.tmp 78) ?_ g (i * 8) ?_ yi (av_rg (hI.row15 hg) HYI.out.1) (hI.load15 hg) <;> first | rfl | exact rfl | (go_simp; done)
  intro v15 G w5 hI hs2
  have hv := hI.a15 v15 (hs2 15 v15 rfl)
  subst hv
  clear hI hs2 G w5
  (try simp only [Act.put, List.setIfInBounds_toArray, List.set_cons_zero, List.set_cons_succ])
  repeat (first | (with_reducible refine RI.lexL_quiet' (v := ?_) ?_ ?_ ?_ ?_; rotate_left; (· with_reducible rfl); (· decide); (· intro G w1 hI1 hA1; have hw1 := hI1.ext; go_simp; with_reducible rfl); (try simp only [Act.put, List.setIfInBounds_toArray, List.set_cons_zero, List.set_cons_succ])) | (with_reducible refine RI.lexL_skip ?_ ?_; (· simp [Region.wanted, yielded, undef]); (try simp only [Act.put, List.setIfInBounds_toArray, List.set_cons_zero, List.set_cons_succ])) | (with_reducible refine RI.lexL_quiet (v := ?_) ?_ ?_ ?_ ?_; rotate_left; (· simp [Region.wanted, yielded, undef]); (· decide); (· intro G w1 hI1 hA1; have hw1 := hI1.ext; go_simp; with_reducible rfl); (try simp only [Act.put, List.setIfInBounds_toArray, List.set_cons_zero, List.set_cons_succ])))
  with_reducible refine RI.lexL_give' ?_ ?_ ?_ ?_; (· with_reducible rfl); (· decide)
  · intro G w5 hI hA hg
    have h10 := hA 10 (by decide) _ rfl
    have h15 := hA 15 (by decide) _ rfl
    have hil : i < ys.length := by rw [HAT.out.2.1]; exact HILT.out.1
    refine gives_store71 (.tmp 80) (.tmp 74) ?_ g (i * 8) ?_ yk ?_ (av_put (hI.pre hg) hil yk).1 (arc_one HYK.out.2.1) (hI.store hg h10 h15 HDG.out.1 HDG.out.2.1 hil) <;> first | rfl | exact rfl | (go_simp; done)
  intro v17 G w5 hI hs2
  clear hI hs2 G w5
  (try simp only [Act.put, List.setIfInBounds_toArray, List.set_cons_zero, List.set_cons_succ])
  with_reducible refine RI.lexL_nil ?_; intro w1 hI1; simp only [List.drop_succ_cons, List.drop_zero]
  obtain ⟨_, _, hrow1⟩ := hI1.mid v17 rfl
  have hkl : k < (ys.set i yk).length := by rw [List.length_set, HAT.out.2.1]; exact HILT.out.2
  obtain ⟨ht9, hr9, hg9⟩ := av_put hrow1 hkl yi
  have HG9 := Lib.hid (And.intro (grown_trans hI1.gr hg9) hr9)
  have hon := arc_one HYI.out.2.1
  clear hrow1 hkl hr9 hg9 hI1
  go_upto_region 10 with (with_reducible refine wpList_store_mid rfl 71 _ _ rfl g (k * 8) (avCells yi).toArray rfl rfl ht9 (arc_size' yi) hon ?_)
  refine wp_named ?_
  intro W9 hW9
  have hW9' : W9 = w1.setCells g (k * 8) (avCells yi) := hW9
  rw [← hW9'] at HG9
  clear ht9 hon hW9 hW9'
  have hGL : g < W3.heap.size := by
    obtain ⟨_, _, av3, _, _, _, hv3, _, _, hrow3, _⟩ := HE.out.2.2.1
    obtain ⟨_, _, e3⟩ := agg6_inj hv3
    rw [← e3] at hrow3
    exact (hrow3.lt g rfl).2
  have hperm := swap_perm HYI.out.2.2 HYK.out.2.2
  have hXok : xtR X = 0 := by rw [HXE.out]; exact ofX_ok v
  have hlaw := order_law hXok hperm HNO.out (wordI ws)
  have h0' := swap_ok hXok hperm
  have hXT9 := XtT.swap HAT.out.2.2.1 HAT.out.2.2.2.1 HROW.out HAT.out.2.1 HAT.out.1 HAT.out.2.2.2.2 HYI.out.2.1 HYK.out.2.1 HG9.out.1 HG9.out.2
  have hE7 : Ext w W7 := HE.out.1.trans (HE6.out.1.trans HW7.out)
  have hE9 : Ext w W9 := Below.grown hE7 HG9.out.1 hE7.size (fun j hj => by cases hj; exact Nat.le_trans HNW.out HDG.out.2.2)
  have hu9 : IntsC W9 (.slice Bu (wordI ws).length cu) (wordI ws) cu := IntsC.grown (HE6.out.2.1.ext HW7.out) (N := W3.heap.size) (fun _ a ha => Nat.le_trans HS6.out.2 (HE5.out.2.2 a ha)) hGL HG9.out.1
  have hr9 : IntsC W9 (.slice Br (runF X (some (0, X.start)) (wordI ws)).length (runF X (some (0, X.start)) (wordI ws)).length) (runF X (some (0, X.start)) (wordI ws)) (runF X (some (0, X.start)) (wordI ws)).length := IntsC.grown (IntsC.ext HE6.out.2.2.1 HW7.out) (N := W3.heap.size) (fun _ a ha => Nat.le_trans HS6.out.1 (HE6.out.2.2.2 a ha)) hGL HG9.out.1
  have hB9 := (HG9.out.1.block d HDG.out.2.1 (by simpa using HDG.out.1)).trans (heap_ext (HE6.out.1.trans HW7.out) HE.out.2.2.2)
  have hins : X.ins = 2 := by rw [HXE.out]; rfl
  have hrn9 := run_of W9 _ h0' hins _ hXT9.v (HW.out.2.ext hE9) _ ws cu hu9
  have hlaw : runF (swapX X ((X.arcs.set i ak).set k ai)) (some (0, (swapX X ((X.arcs.set i ak).set k ai)).start)) (wordI ws) = runF X (some (0, X.start)) (wordI ws) := hlaw
  rw [hlaw] at hrn9
  have HR9 := Lib.hid (And.intro hr9 hE9)
  clear hlaw h0' hXT9 hu9 hr9 hins hXok hperm hGL hE7 hE9 HG9
  generalize runF X (some (0, X.start)) (wordI ws) = L at *
  generalize wordI ws = wsI at *
  go_upto_region 11 with (first
    | (with_reducible refine wpList_load_row rfl 31 _ rfl d rfl 31 _ (0, 0) _ hB9 Tryd.underlying31 rfl (by kernel_rfl) ?_)
    | ((with_reducible refine hrn9.mono ?_); rintro e W10 ⟨As2, rfl, hs, e10, _⟩))
  have HE2 := Lib.hid (HR9.out.2.trans e10)
  have hwd := word_lit W10 As2 L.length L.length L _ hs rfl (HR9.out.1.ext e10)
  clear hrn9 hB9 hs e10
  go_wp2_with (first
    | ((with_reducible refine hwd.mono ?_); rintro e W11 ⟨rfl, e11⟩; have hlv := lives_any W11 (HW.out.2.ext (HE2.out.trans e11)))
    | ((with_reducible refine hlv.mono ?_); rintro e W12 ⟨rfl, e12⟩))
  go_ret
  exact ⟨rfl, HE2.out.trans (e11.trans e12)⟩
end Go.Proofs.YtggffdkgfgdaoaaDoor
