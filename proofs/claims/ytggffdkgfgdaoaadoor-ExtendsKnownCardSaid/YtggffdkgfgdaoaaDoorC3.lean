/- lives 12: the examples hold. -/
import Derived.Test.YtggffdkgfgdaoaaDoorC2
namespace Go.Proofs.YtggffdkgfgdaoaaDoor
open Go.RowKit Go.Maps
set_option linter.unusedVariables false
set_option linter.unusedSimpArgs false
attribute [local go_sem] Oper.quietV quietV Oper.gives givesV ext_refl_iff ext_alloc_iff ext_drew_iff ext_drewN_iff
def rowsW : Rws := [[(1, 0), (-1, -1)], [(2, 0), (0, 1)], [(0, 1), (1, 1)]]
def spsW : List Sp := [(0, [0]), (0, [1]), (0, [2])]
theorem edges_lit {w : World} {b : Nat} {p q r s : Int} (h : w.heap[b]? = some (.cells #[.int .i64 p, .int .i64 q, .int .i64 r, .int .i64 s] 83 (0, 0))) : EdgesC w (.slice (some ⟨b, 0, none⟩) 2 2) [(p, q), (r, s)] 2 :=
  ⟨_, rfl, fun _ => ⟨b, 0, rfl, lt_of_block h, fun j u hj => by rw [Nat.zero_add]; exact cell_of_blk h j (by simpa [edgeCells] using hj)⟩, Nat.le_refl _, by simp [lenMax]⟩
theorem rows_lit {w : World} {b : Nat} {v0 v1 v2 : Value} {r0 r1 r2 : List (Int × Int)} {c0 c1 c2 : Nat} (h : w.heap[b]? = some (.cells #[v0, v1, v2] 84 (0, 0))) (h0 : EdgesC w v0 r0 c0) (h1 : EdgesC w v1 r1 c1) (h2 : EdgesC w v2 r2 c2) : RowsC w (.slice (some ⟨b, 0, none⟩) 3 3) [r0, r1, r2] 3 := by
  refine ⟨_, [v0, v1, v2], rfl, fun _ => ⟨b, 0, rfl, lt_of_block h, fun j u hj => by rw [Nat.zero_add]; exact cell_of_blk h j (by simpa using hj)⟩, rfl, fun i u es hu hes => ?_, Nat.le_refl _, by simp [lenMax]⟩
  match i, hu, hes with
  | 0, hu, hes => simp at hu hes; subst hu hes; exact ⟨c0, h0⟩
  | 1, hu, hes => simp at hu hes; subst hu hes; exact ⟨c1, h1⟩
  | 2, hu, hes => simp at hu hes; subst hu hes; exact ⟨c2, h2⟩
theorem agg6_inj {a b c d e f a' b' c' d' e' f' : Value} (h : Value.agg #[a, b, c, d, e, f] = .agg #[a', b', c', d', e', f']) : d = d' ∧ e = e' ∧ f = f' := by
  injection h with h
  simp at h
  exact ⟨h.2.2.2.1, h.2.2.2.2.1, h.2.2.2.2.2⟩
theorem put_guard {N g ca : Nat} {W : World} {v0 v1 : Value} {s : Value} (h : XtT N W cX (.agg #[.int .i64 2, .int .i64 2, .int .i64 1, v0, v1, .slice (some ⟨g, 0, none⟩) 3 ca])) (hn : NodeT N W gC (.agg #[.int .u8 6, .int .i64 0, s])) :
    (∃ p q r, W.cell? ⟨g, 10, none⟩ = some p ∧ W.cell? ⟨g, 11, none⟩ = some q ∧ W.cell? ⟨g, 12, none⟩ = some r) ∧ W.frozen? ⟨g, 10, none⟩ = false ∧ W.frozen? ⟨g, 11, none⟩ = false ∧ W.frozen? ⟨g, 12, none⟩ = false ∧ N ≤ g ∧
    (∀ d cs τ, W.heap[d]? = some (.cells cs τ (0, 0)) → τ ≠ 71 → d ≠ g) ∧ W.grownBy (((W.setCell ⟨g, 10, none⟩ (.int .u8 6)).setCell ⟨g, 11, none⟩ (.int .i64 0)).setCell ⟨g, 12, none⟩ s) (some g) ∧
    XtT N (((W.setCell ⟨g, 10, none⟩ (.int .u8 6)).setCell ⟨g, 11, none⟩ (.int .i64 0)).setCell ⟨g, 12, none⟩ s) cY (.agg #[.int .i64 2, .int .i64 2, .int .i64 1, v0, v1, .slice (some ⟨g, 0, none⟩) 3 ca]) := by
  obtain ⟨vv, sv, av, vs, c1, c2, hv, hvv, hsv, hrow, hvl, hat, hm⟩ := h
  obtain ⟨e1, e2, e3⟩ := agg6_inj hv
  subst e1 e2 e3
  match vs, hvl with
  | [y0, y1, y2], _ =>
    have hrow : W.ownsRow N 71 8 (.slice (some ⟨g, 0, none⟩) 3 ca) 3 ([y0, y1, y2].flatMap avCells) := hrow
    have s1 := hrow.stored 10 (.int .u8 6)
    have s2 := s1.1.stored 11 (.int .i64 0)
    have s3 := s2.1.stored 12 s
    have hg := grown_trans (grown_trans s1.2 s2.2) s3.2
    obtain ⟨gc, gf, hgb⟩ : ∃ cs f, W.heap[g]? = some (.cells cs 71 f) := by
      rcases hrow.2 with ⟨h, _⟩ | ⟨g', cap, cur, h, _, hb, _⟩
      · cases h
      · have e : g = g' := by injection h with h; injection h with h; injection h
        subst e; exact ⟨_, _, hb⟩
    have hkp : Kp N W _ := Kp.grown hgb (.inl rfl) hg
    refine ⟨⟨_, _, _, cell_at_own hrow (j := 10) rfl, cell_at_own hrow (j := 11) rfl, cell_at_own hrow (j := 12) rfl⟩, hrow.frozenAt _, hrow.frozenAt _, hrow.frozenAt _, (hrow.lt g rfl).1, fun d cs τ hd hτ => fun e => ?_, hg, ?_⟩
    · have := own_ne hrow hd hτ
      rw [e] at this; exact this rfl
    · refine ⟨_, _, _, [y0, ⟨y1.frm, y1.inp, (6, 0, s), y1.out, y1.ups, y1.dst⟩, y2], c1, c2, rfl, hvv.keep hkp, hsv.keep hkp, s3.1, rfl, fun i a y ha hy => ?_, by simp [cY, lenMax]⟩
      match i, ha, hy with
      | 0, ha, hy => simp [cY] at ha hy; subst ha hy; exact (hat 0 cA y0 rfl rfl).keep hkp
      | 1, ha, hy =>
        simp [cY] at ha hy; subst ha hy
        obtain ⟨a1, a2, a3, a4, a5, a6⟩ := (hat 1 cB y1 rfl rfl).keep hkp
        exact ⟨a1, a2, hn.keep hkp, a4, a5, a6⟩
      | 2, ha, hy => simp [cY] at ha hy; subst ha hy; exact (hat 2 cC y2 rfl rfl).keep hkp
def LivP (w : World) (e : Ending) (w' : World) : Prop := e = .returned (.bool true) ∧ Ext w w'
set_option maxRecDepth 100000 in
set_option maxHeartbeats 64000000 in
theorem lives_any (w : World) (hT0 : OpsTab w) : Calls Tryd.prog 12 #[] w (LivP w) := by
  have HT0 := Lib.hid hT0
  clear hT0
  go_enter Tryd.func12, Tryd.ntmps12
  go_upto_region 2 with ((with_reducible refine (counter_any _).mono ?_); rintro e W1 ⟨xv, rfl, hXT, e1⟩; have HXT := Lib.hid hXT; obtain ⟨vv, sv, av, vs, q1, q2, rfl, ⟨Av, rfl, _⟩, ⟨As, rfl, _⟩, hrow, _, _⟩ := hXT; obtain ⟨g, ca, rfl⟩ := ownsRow_pos hrow (by decide); clear hrow)
  have HXT : Hid (XtT w.heap.size W1 cX (.agg #[.int .i64 2, .int .i64 2, .int .i64 1, .slice Av 1 q1, .slice As 1 q2, .slice (some ⟨g, 0, none⟩) 3 ca])) := Lib.hid HXT.out
  refine wp_named ?_
  intro W2 hW2
  have hE2 : Ext W1 W2 := by rw [hW2]; exact alloc_ext _ _
  have hB2 : W2.heap[W1.heap.size]? = some (.cells #[.int .i64 2, .int .i64 2, .int .i64 1, .slice Av 1 q1, .slice As 1 q2, .slice (some ⟨g, 0, none⟩) 3 ca] 31 (0, 0)) := by rw [hW2]; exact heap_alloc_new _ _
  have HX := Lib.hid (And.intro (HXT.out.ext hE2) (And.intro (HT0.out.ext (e1.trans hE2)) (And.intro (e1.trans hE2) (fun W' (h : Ext W2 W') => heap_ext h hB2))))
  have HE := Lib.hid (Ext.refl W2)
  clear hW2 hE2 hB2 e1 HXT
  generalize W1.heap.size = b1 at *
  have hx := HX.out.1.v.ext (HE.out.trans (alloc_ext W2 (.cells (([0, 0, 0, 0] : List Int).map (Value.int .i64)).toArray 3)))
  have hT := HX.out.2.1.ext (HE.out.trans (alloc_ext W2 (.cells (([0, 0, 0, 0] : List Int).map (Value.int .i64)).toArray 3)))
  have hy := ints_lit W2 [0, 0, 0, 0] 4 rfl (by decide)
  simp only [List.map_cons, List.map_nil] at hx hT hy
  have hr := run_lit _ _ cX hx hT _ [0, 0, 0, 0] _ 4 4 hy cX_ok (by kernel_rfl) cX_r1 rfl
  have hB := HX.out.2.2.2 _ HE.out
  clear hx hT hy
  go_upto_region 3 with (first
    | (with_reducible refine wpList_load_row rfl 31 _ rfl b1 rfl 31 _ (0, 0) _ hB Tryd.underlying31 rfl (by kernel_rfl) ?_)
    | ((with_reducible refine hr.mono ?_); rintro e W3 ⟨A1, rfl, f1, en⟩))
  have eS : Ext W2 W3 := (alloc_ext W2 _).trans en
  replace HE := Lib.hid (HE.out.trans eS)
  clear hr hB en
  have hx := HX.out.1.v.ext (HE.out.trans (alloc_ext W3 (.cells (([0, 1, 1, 0] : List Int).map (Value.int .i64)).toArray 3)))
  have hT := HX.out.2.1.ext (HE.out.trans (alloc_ext W3 (.cells (([0, 1, 1, 0] : List Int).map (Value.int .i64)).toArray 3)))
  have hy := ints_lit W3 [0, 1, 1, 0] 4 rfl (by decide)
  simp only [List.map_cons, List.map_nil] at hx hT hy
  have hr := run_lit _ _ cX hx hT _ [0, 1, 1, 0] _ 4 4 hy cX_ok (by kernel_rfl) cX_r2 rfl
  have hB := HX.out.2.2.2 _ HE.out
  clear hx hT hy
  go_upto_region 4 with (first
    | (with_reducible refine wpList_load_row rfl 31 _ rfl b1 rfl 31 _ (0, 0) _ hB Tryd.underlying31 rfl (by kernel_rfl) ?_)
    | ((with_reducible refine hr.mono ?_); rintro e W4 ⟨A2, rfl, f2, en⟩))
  have eS : Ext W3 W4 := (alloc_ext W3 _).trans en
  replace HE := Lib.hid (HE.out.trans eS)
  clear hr hB en
  replace f1 := IntsC.ext f1 eS
  clear eS
  have hx := HX.out.1.v.ext (HE.out.trans (alloc_ext W4 (.cells (([1] : List Int).map (Value.int .i64)).toArray 3)))
  have hT := HX.out.2.1.ext (HE.out.trans (alloc_ext W4 (.cells (([1] : List Int).map (Value.int .i64)).toArray 3)))
  have hy := ints_lit W4 [1] 1 rfl (by decide)
  simp only [List.map_cons, List.map_nil] at hx hT hy
  have hr := run_lit _ _ cX hx hT _ [1] _ 1 1 hy cX_ok (by kernel_rfl) cX_r3 rfl
  have hB := HX.out.2.2.2 _ HE.out
  clear hx hT hy
  go_upto_region 5 with (first
    | (with_reducible refine wpList_load_row rfl 31 _ rfl b1 rfl 31 _ (0, 0) _ hB Tryd.underlying31 rfl (by kernel_rfl) ?_)
    | ((with_reducible refine hr.mono ?_); rintro e W5 ⟨A3, rfl, f3, en⟩))
  have eS : Ext W4 W5 := (alloc_ext W4 _).trans en
  replace HE := Lib.hid (HE.out.trans eS)
  clear hr hB en
  replace f1 := IntsC.ext f1 eS
  replace f2 := IntsC.ext f2 eS
  clear eS
  have hw1 := fun u (hu : IntsC _ u [0, 0, 1, 0] 4) => word_lit (W5.alloc (.cells #[.int .i64 0, .int .i64 0, .int .i64 1, .int .i64 0] 3)) A1 4 4 [0, 0, 1, 0] u (IntsC.ext f1 (alloc_ext _ _)) rfl hu
  have hy1 := ints_lit W5 [0, 0, 1, 0] 4 rfl (by decide)
  simp only [List.map_cons, List.map_nil] at hy1
  have hw1 := hw1 _ hy1
  clear hy1
  go_upto_region 7 with (first
    | ((with_reducible refine hw1.mono ?_); rintro e W6 ⟨rfl, e6⟩; have eS6 : Ext W5 W6 := (alloc_ext W5 _).trans e6; have hy2 := ints_lit W6 [0, 1, -1, -1] 4 rfl (by decide); simp only [List.map_cons, List.map_nil] at hy2; have hw2 := word_lit (W6.alloc (.cells #[.int .i64 0, .int .i64 1, .int .i64 (-1), .int .i64 (-1)] 3)) A2 4 4 [0, 1, -1, -1] _ (IntsC.ext f2 (eS6.trans (alloc_ext _ _))) rfl hy2; clear e6 hy2)
    | ((with_reducible refine hw2.mono ?_); rintro e W7 ⟨rfl, e7⟩; have eS7 : Ext W5 W7 := eS6.trans ((alloc_ext W6 _).trans e7); have hy3 := ints_lit W7 [-1] 1 rfl (by decide); simp only [List.map_cons, List.map_nil] at hy3; have hw3 := word_lit (W7.alloc (.cells #[.int .i64 (-1)] 3)) A3 1 1 [-1] _ (IntsC.ext f3 (eS7.trans (alloc_ext _ _))) rfl hy3; clear e7 hy3)
    | ((with_reducible refine hw3.mono ?_); rintro e W8 ⟨rfl, e8⟩; have eS8 : Ext W5 W8 := eS7.trans ((alloc_ext W7 _).trans e8)))
  replace HE := Lib.hid (HE.out.trans eS8)
  clear hw1 hw2 hw3 eS6 eS7 eS8 e8 f1 f2 f3
  have hx := HX.out.1.v.ext (HE.out.trans (alloc_ext W8 (.cells (([2] : List Int).map (Value.int .i64)).toArray 3)))
  have hT := HX.out.2.1.ext (HE.out.trans (alloc_ext W8 (.cells (([2] : List Int).map (Value.int .i64)).toArray 3)))
  have hy := ints_lit W8 [2] 1 rfl (by decide)
  simp only [List.map_cons, List.map_nil] at hx hT hy
  have hr := step_lit _ _ cX hx hT _ 0 [2] 1 0 0 1 [0] 1 hy cX_s4 cX_s1 rfl
  have hB := HX.out.2.2.2 _ HE.out
  clear hx hT hy
  go_upto_region 8 with (first
    | (with_reducible refine wpList_load_row rfl 31 _ rfl b1 rfl 31 _ (0, 0) _ hB Tryd.underlying31 rfl (by kernel_rfl) ?_)
    | ((with_reducible refine hr.mono ?_); rintro e W9 ⟨A4, rfl, f4, en⟩))
  refine wp_named ?_
  intro W10 hW10
  have e910 : Ext W9 W10 := by rw [hW10]; exact alloc_ext _ _
  have hB8 : W10.heap[W9.heap.size]? = some (.cells #[.int .i64 0, .slice A4 1 1] 34 (0, 0)) := by rw [hW10]; exact heap_alloc_new _ _
  replace f4 := IntsC.ext f4 e910
  replace HE := Lib.hid (HE.out.trans (((alloc_ext W8 _).trans en).trans e910))
  clear hr hB en hW10 e910
  generalize W9.heap.size = b8 at *
  have hx := HX.out.1.v.ext (HE.out.trans (alloc_ext W10 (.cells (([0] : List Int).map (Value.int .i64)).toArray 3)))
  have hT := HX.out.2.1.ext (HE.out.trans (alloc_ext W10 (.cells (([0] : List Int).map (Value.int .i64)).toArray 3)))
  have hy := ints_lit W10 [0] 1 rfl (by decide)
  simp only [List.map_cons, List.map_nil] at hx hT hy
  have hr := step_err _ _ cX hx hT _ 0 [0] 1 1 7 hy cX_s2 (by decide)
  have hB := HX.out.2.2.2 _ HE.out
  clear hx hT hy
  go_upto_region 9 with (first
    | (with_reducible refine wpList_load_row rfl 31 _ rfl b1 rfl 31 _ (0, 0) _ hB Tryd.underlying31 rfl (by kernel_rfl) ?_)
    | ((with_reducible refine hr.mono ?_); rintro e W11 ⟨rfl, en⟩))
  have eS : Ext W10 W11 := (alloc_ext W10 _).trans en
  replace HE := Lib.hid (HE.out.trans eS)
  clear hr hB en
  replace f4 := IntsC.ext f4 eS
  replace hB8 := heap_ext eS hB8
  clear eS
  have hx := HX.out.1.v.ext (HE.out.trans (alloc_ext W11 (.cells (([3] : List Int).map (Value.int .i64)).toArray 3)))
  have hT := HX.out.2.1.ext (HE.out.trans (alloc_ext W11 (.cells (([3] : List Int).map (Value.int .i64)).toArray 3)))
  have hy := ints_lit W11 [3] 1 rfl (by decide)
  simp only [List.map_cons, List.map_nil] at hx hT hy
  have hr := step_err _ _ cX hx hT _ 0 [3] 1 0 1 hy cX_s3 (by decide)
  have hB := HX.out.2.2.2 _ HE.out
  clear hx hT hy
  go_upto_region 10 with (first
    | (with_reducible refine wpList_load_row rfl 31 _ rfl b1 rfl 31 _ (0, 0) _ hB Tryd.underlying31 rfl (by kernel_rfl) ?_)
    | ((with_reducible refine hr.mono ?_); rintro e W12 ⟨rfl, en⟩))
  have eS : Ext W11 W12 := (alloc_ext W11 _).trans en
  replace HE := Lib.hid (HE.out.trans eS)
  clear hr hB en
  replace f4 := IntsC.ext f4 eS
  replace hB8 := heap_ext eS hB8
  clear eS
  have s1 := cell_of_blk hB8 1 (u := .slice A4 1 1) rfl
  have hy1 := ints_lit W12 [0] 1 rfl (by decide)
  simp only [List.map_cons, List.map_nil] at hy1
  have hw1 := word_lit (W12.alloc (.cells #[.int .i64 0] 3)) A4 1 1 [0] _ (IntsC.ext f4 (alloc_ext _ _)) rfl hy1
  clear hy1
  go_upto_region 12 with ((with_reducible refine hw1.mono ?_); rintro e W13 ⟨rfl, e13⟩; have eS13 : Ext W12 W13 := (alloc_ext W12 _).trans e13; have s0 := cell_of_blk (heap_ext eS13 hB8) 0 (u := .int .i64 0) rfl)
  replace HE := Lib.hid (HE.out.trans eS13)
  clear hw1 e13 eS13 s0 s1 f4 hB8
  have hr := unf_lit W13 _ cX (HX.out.1.v.ext HE.out) (HX.out.2.1.ext HE.out) spsW rowsW 3 3 cX_ok cX_u rfl rfl
  have hB := HX.out.2.2.2 _ HE.out
  go_upto_region 13 with (first
    | (with_reducible refine wpList_load_row rfl 31 _ rfl b1 rfl 31 _ (0, 0) _ hB Tryd.underlying31 rfl (by kernel_rfl) ?_)
    | ((with_reducible refine hr.mono ?_); rintro e W14 ⟨Ar, Bl, rfl, hrw, hcf, en⟩))
  refine wp_named ?_
  intro W15 hW15
  have e15 : Ext W14 W15 := by rw [hW15]; exact alloc_ext _ _
  have hB10 : W15.heap[W14.heap.size]? = some (.cells #[.int .i64 2, .int .i64 2, .slice Ar 3 3] 52 (0, 0)) := by rw [hW15]; exact heap_alloc_new _ _
  replace HE := Lib.hid (HE.out.trans (en.trans e15))
  have HU := Lib.hid (And.intro (hrw.ext e15) (And.intro hcf (And.intro e15 hB10)))
  clear hr hB en hW15 e15 hB10 hrw hcf
  generalize W14.heap.size = b10 at *
  go_upto_region 14 with fail
  refine wp_named ?_
  intro W16 hW16
  have e16 : Ext W15 W16 := by rw [hW16]; exact alloc_ext _ _
  have hB12 : W16.heap[W15.heap.size]? = some (.cells #[.int .i64 (-1), .int .i64 (-1)] 83 (0, 0)) := by rw [hW16]; exact heap_alloc_new _ _
  have p0 := cell_of_blk hB12 0 (u := .int .i64 (-1)) rfl
  have p1 := cell_of_blk hB12 1 (u := .int .i64 (-1)) rfl
  replace HE := Lib.hid (HE.out.trans e16)
  have H16 := Lib.hid e16
  clear hW16 e16 hB12
  generalize W15.heap.size = b12 at *
  go_upto_region 15 with fail
  refine wp_named ?_
  intro W17 hW17
  have e17 : Ext W16 W17 := by rw [hW17]; exact (alloc_ext _ _).trans (((alloc_ext _ _).trans (alloc_ext _ _)).trans ((alloc_ext _ _).trans (alloc_ext _ _)))
  have hRW : RowsC W17 (.slice (some ⟨W16.heap.size + 1 + 1 + 1, 0, none⟩) 3 3) rowsW 3 ∧ W17.heap[W16.heap.size + 1 + 1 + 1 + 1]? = some (.cells #[.int .i64 2, .int .i64 2, .slice (some ⟨W16.heap.size + 1 + 1 + 1, 0, none⟩) 3 3] 52 (0, 0)) := by
    obtain ⟨o1, ho1⟩ : ∃ o : Obj, o = .cells #[.int .i64 1, .int .i64 0, .int .i64 (-1), .int .i64 (-1)] 83 := ⟨_, rfl⟩
    obtain ⟨o2, ho2⟩ : ∃ o : Obj, o = .cells #[.int .i64 2, .int .i64 0, .int .i64 0, .int .i64 1] 83 := ⟨_, rfl⟩
    obtain ⟨o3, ho3⟩ : ∃ o : Obj, o = .cells #[.int .i64 0, .int .i64 1, .int .i64 1, .int .i64 1] 83 := ⟨_, rfl⟩
    obtain ⟨o4, ho4⟩ : ∃ o : Obj, o = .cells #[.slice (some ⟨W16.heap.size, 0, none⟩) 2 2, .slice (some ⟨W16.heap.size + 1, 0, none⟩) 2 2, .slice (some ⟨W16.heap.size + 1 + 1, 0, none⟩) 2 2] 84 := ⟨_, rfl⟩
    obtain ⟨o5, ho5⟩ : ∃ o : Obj, o = .cells #[.int .i64 2, .int .i64 2, .slice (some ⟨W16.heap.size + 1 + 1 + 1, 0, none⟩) 3 3] 52 := ⟨_, rfl⟩
    have hW : W17 = ((((W16.alloc o1).alloc o2).alloc o3).alloc o4).alloc o5 := by rw [hW17, ho1, ho2, ho3, ho4, ho5]
    have q1 : W17.heap[W16.heap.size]? = some o1 := by rw [hW]; exact heap_ext (((alloc_ext _ _).trans (alloc_ext _ _)).trans ((alloc_ext _ _).trans (alloc_ext _ _))) (heap_alloc_new W16 o1)
    have q2 : W17.heap[W16.heap.size + 1]? = some o2 := by rw [hW]; have h := heap_alloc_new (W16.alloc o1) o2; exact heap_ext ((alloc_ext _ _).trans ((alloc_ext _ _).trans (alloc_ext _ _))) (by simpa using h)
    have q3 : W17.heap[W16.heap.size + 1 + 1]? = some o3 := by rw [hW]; have h := heap_alloc_new ((W16.alloc o1).alloc o2) o3; exact heap_ext ((alloc_ext _ _).trans (alloc_ext _ _)) (by simpa using h)
    have q4 : W17.heap[W16.heap.size + 1 + 1 + 1]? = some o4 := by rw [hW]; have h := heap_alloc_new (((W16.alloc o1).alloc o2).alloc o3) o4; exact heap_ext (alloc_ext _ _) (by simpa using h)
    have q5 : W17.heap[W16.heap.size + 1 + 1 + 1 + 1]? = some o5 := by rw [hW]; have h := heap_alloc_new ((((W16.alloc o1).alloc o2).alloc o3).alloc o4) o5; simpa using h
    rw [ho1] at q1
    rw [ho2] at q2
    rw [ho3] at q3
    rw [ho4] at q4
    rw [ho5] at q5
    exact ⟨rows_lit q4 (edges_lit q1) (edges_lit q2) (edges_lit q3), q5⟩
  have hE1517 := H16.out.trans e17
  replace HE := Lib.hid (HE.out.trans e17)
  clear hW17 p0 p1
  generalize W16.heap.size + 1 + 1 + 1 + 1 = b13 at *
  generalize W16.heap.size + 1 + 1 + 1 = gr at *
  have hsm := machSame_any W17 2 2 2 2 _ _ rowsW rowsW 3 3 (HU.out.1.ext hE1517) hRW.1
  rw [show msB 2 2 2 2 rowsW rowsW = true by unfold msB; simp] at hsm
  have m0 := cell_of_blk (heap_ext hE1517 HU.out.2.2.2) 0 (u := .int .i64 2) rfl
  have m1 := cell_of_blk (heap_ext hE1517 HU.out.2.2.2) 1 (u := .int .i64 2) rfl
  have m2 := cell_of_blk (heap_ext hE1517 HU.out.2.2.2) 2 (u := .slice Ar 3 3) rfl
  have k0 := cell_of_blk hRW.2 0 (u := .int .i64 2) rfl
  have k1 := cell_of_blk hRW.2 1 (u := .int .i64 2) rfl
  have k2 := cell_of_blk hRW.2 2 (u := .slice (some ⟨gr, 0, none⟩) 3 3) rfl
  obtain ⟨bl, ol, A5, hBl, _, hcf, hf5⟩ := confs_at (i := 2) (s := (0, [2])) (n := 1) HU.out.2.1 rfl rfl
  have hBl := slice_adr hBl
  subst hBl
  have H1417 := Lib.hid (HU.out.2.2.1.trans hE1517)
  have HF5 := Lib.hid hf5
  have cf := H1417.out.cell hcf
  simp only [Nat.reduceMul] at cf
  clear hRW hE1517 hcf hf5 e17 H16 HU
  go_upto_region 17 with (first
    | ((with_reducible refine hsm.mono ?_); rintro e W18 ⟨rfl, e18⟩; replace cf := e18.cell cf; have hy1 := ints_lit W18 [2] 1 rfl (by decide); simp only [List.map_cons, List.map_nil] at hy1; have hw1 := word_lit (W18.alloc (.cells #[.int .i64 2] 3)) A5 1 1 [2] _ (IntsC.ext HF5.out ((H1417.out.trans e18).trans (alloc_ext _ _))) rfl hy1; clear hy1)
    | ((with_reducible refine hw1.mono ?_); rintro e W19 ⟨rfl, e19⟩; have e1719 : Ext W17 W19 := e18.trans ((alloc_ext W18 _).trans e19)))
  replace HE := Lib.hid (HE.out.trans e1719)
  clear hsm hw1 m0 m1 m2 k0 k1 k2 cf e18 e19 e1719 HF5 H1417
  have hr := conf_no W19 _ cX (HX.out.1.v.ext HE.out) (HX.out.2.1.ext HE.out) cX_ok (by rw [cX_c]; decide) cX_no
  have hB := HX.out.2.2.2 _ HE.out
  go_upto_region 18 with (first
    | (with_reducible refine wpList_load_row rfl 31 _ rfl b1 rfl 31 _ (0, 0) _ hB Tryd.underlying31 rfl (by kernel_rfl) ?_)
    | ((with_reducible refine hr.mono ?_); rintro e W20 ⟨rfl, en⟩))
  replace HE := Lib.hid (HE.out.trans en)
  clear hr hB en
  have c5 : ∀ w', Ext W20 w' → w'.cell? ⟨b1, 5, none⟩ = some (.slice (some ⟨g, 0, none⟩) 3 ca) := fun w' h => cell_of_blk (HX.out.2.2.2 _ (HE.out.trans h)) 5 (u := .slice (some ⟨g, 0, none⟩) 3 ca) rfl
  have HNS : Hid (∀ w', Ext W20 w' → w.heap.size ≤ w'.heap.size) := Lib.hid (fun w' h => ((HX.out.2.2.1.trans HE.out).trans h).size)
  obtain ⟨N, hNN⟩ : ∃ N, N = w.heap.size := ⟨_, rfl⟩
  rw [← hNN] at HNS
  have HNN := Lib.hid hNN
  clear hNN
  have hR20 := Ext.refl W20
  refine wp_region_ext 5 (factsOf [(2, EqP (.agg #[.int .u8 0, .int .i64 0, .slice none 0 0])), (3, EqP (.agg #[.int .u8 0, .int .i64 0, .slice none 0 0])), (4, TwoF N 6 gC)]) (fun k => ([[], [0], [], [2], [2, 3], [0, 1, 2, 3, 4], [0, 1, 2, 3, 4, 5], [0, 1, 2, 3, 4, 5, 6]] : List (List Nat)).getD k []) (by kernel_rfl) (by kernel_rfl) Ext.pre (mono_cons (stays_eqP _) (mono_cons (stays_eqP _) (mono_cons (stays_twoF _ _ _) (mono_nil)))) ?_
  simp only [List.take_succ_cons, List.take_zero]
  repeat (first | (with_reducible refine lexL_quiet' (v := ?_) ?_ ?_ ?_ ?_; rotate_left; (· with_reducible rfl); (· simp [factsOf]); (· intro w1 hw1 _; go_simp; with_reducible rfl); (try simp only [Act.put, List.setIfInBounds_toArray, List.set_cons_zero, List.set_cons_succ])) | (with_reducible refine lexL_skip ?_ ?_; (· simp [Region.wanted, yielded, undef]); (try simp only [Act.put, List.setIfInBounds_toArray, List.set_cons_zero, List.set_cons_succ])) | (with_reducible refine lexL_quiet (v := ?_) ?_ ?_ ?_ ?_; rotate_left; (· simp [Region.wanted, yielded, undef]); (· simp [factsOf]); (· intro w1 hw1 _; go_simp; with_reducible rfl); (try simp only [Act.put, List.setIfInBounds_toArray, List.set_cons_zero, List.set_cons_succ])))
  with_reducible refine lexL_give' (φ := ?_) ?_ ?_ ?_ ?_; rotate_left; (· with_reducible rfl); (· simp only [factsOf, Nat.reduceAdd, ↓reduceIte, Nat.reduceEqDiff]; rfl)
  · intro w5 hw5 _
    go_simp
    refine (num_lit w5 0).mono ?_
    rintro e w6 ⟨rfl, e6⟩
    exact ⟨_, rfl, e6, rfl⟩
  rintro v2 w5 hw5 hv2 hk2
  unfold EqP at hv2
  subst hv2
  clear hk2 hw5 w5
  (try simp only [Act.put, List.setIfInBounds_toArray, List.set_cons_zero, List.set_cons_succ])
  with_reducible refine lexL_give' (φ := ?_) ?_ ?_ ?_ ?_; rotate_left; (· with_reducible rfl); (· simp only [factsOf, Nat.reduceAdd, ↓reduceIte, Nat.reduceEqDiff]; rfl)
  · intro w5 hw5 _
    go_simp
    refine (num_lit w5 0).mono ?_
    rintro e w6 ⟨rfl, e6⟩
    exact ⟨_, rfl, e6, rfl⟩
  rintro v3 w5 hw5 hv3 hk2
  unfold EqP at hv3
  subst hv3
  clear hk2 hw5 w5
  (try simp only [Act.put, List.setIfInBounds_toArray, List.set_cons_zero, List.set_cons_succ])
  with_reducible refine lexL_give' (φ := ?_) ?_ ?_ ?_ ?_; rotate_left; (· with_reducible rfl); (· simp only [factsOf, Nat.reduceAdd, ↓reduceIte, Nat.reduceEqDiff]; rfl)
  · intro w5 hw5 _
    go_simp
    refine (two_lit w5 N 6 6 (by decide) (HNS.out w5 hw5) (by decide) (.mk 0 0 []) (.mk 0 0 []) _ _ (num_leaf N _ 0) (num_leaf N _ 0)).mono ?_
    rintro e w6 ⟨A, l, c, rfl, h1, e6⟩
    exact ⟨_, rfl, e6, A, l, c, rfl, h1⟩
  rintro v4 w5 hw5 ⟨A6, l6, c6, rfl, h6⟩ hk2
  clear hk2 hw5 h6 w5
  (try simp only [Act.put, List.setIfInBounds_toArray, List.set_cons_zero, List.set_cons_succ])
  with_reducible refine lexL_nil ?_; intro w1 hw1 hk1; simp only [List.drop_succ_cons, List.drop_zero]
  have hn6 := twoF_t (hk1.get 4 rfl rfl)
  have hEw := HE.out.trans hw1
  have hXT := HX.out.1.ext hEw
  rw [← HNN.out] at hXT
  obtain ⟨⟨zp, zq, zr, z10, z11, z12⟩, t10, t11, t12, hNg, hne, hgr, hXY⟩ := put_guard hXT hn6
  have HY := Lib.hid (And.intro hEw (And.intro hNg (And.intro hne (And.intro hgr hXY))))
  clear hk1 hw1 hn6 hEw hXT hNg hne hgr hXY c5 hR20
  go_upto_region 19 with fail
  refine wp_named ?_
  intro W21 hW21
  have HW21 : Hid (W21 = ((w1.setCell ⟨g, 10, none⟩ (.int .u8 6)).setCell ⟨g, 11, none⟩ (.int .i64 0)).setCell ⟨g, 12, none⟩ (.slice A6 l6 c6)) := Lib.hid hW21
  clear hW21 z10 z11 z12 t10 t11 t12
  have hgr := HY.out.2.2.2.1
  have hXY := HY.out.2.2.2.2
  rw [← HW21.out] at hgr hXY
  have hB1 := HX.out.2.2.2 _ HY.out.1
  have hB := (hgr.block b1 (lt_of_block hB1) (by simpa using HY.out.2.2.1 b1 _ 31 hB1 (by decide))).trans hB1
  have hE21 : Ext w W21 := Below.grown (HX.out.2.2.1.trans HY.out.1) hgr (HX.out.2.2.1.trans HY.out.1).size (fun k hk => by cases hk; rw [← HNN.out]; exact HY.out.2.1)
  have hr := conf_yes W21 _ cY hXY.v (HT0.out.ext hE21) cY_ok (by rw [show combR cY.vars = 3 by kernel_rfl]; decide) cY_at (n := 1) rfl
  have HE21 := Lib.hid hE21
  clear hgr hXY hB1 hE21 HW21 HY HX HE
  go_upto_region 20 with (first
    | (with_reducible refine wpList_load_row rfl 31 _ rfl b1 rfl 31 _ (0, 0) _ hB Tryd.underlying31 rfl (by kernel_rfl) ?_)
    | ((with_reducible refine hr.mono ?_); rintro e W22 ⟨A7, rfl, f7, en⟩))
  have HE22 := Lib.hid (HE21.out.trans en)
  have hy1 := ints_lit W22 [0] 1 rfl (by decide)
  simp only [List.map_cons, List.map_nil] at hy1
  have hw1 := word_lit (W22.alloc (.cells #[.int .i64 0] 3)) A7 1 1 [0] _ (IntsC.ext f7 (alloc_ext _ _)) rfl hy1
  clear hr hB en hy1 f7
  go_wp2_with ((with_reducible refine hw1.mono ?_); rintro e W23 ⟨rfl, e23⟩)
  go_ret
  exact ⟨rfl, HE22.out.trans ((alloc_ext W22 _).trans e23)⟩
end Go.Proofs.YtggffdkgfgdaoaaDoor
