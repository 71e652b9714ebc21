/- extends.Unfold 19. -/
import Derived.Test.YtggffdkgfgdaoaaDoorGG
namespace Go.Proofs.YtggffdkgfgdaoaaDoor
open Go.RowKit Go.Maps
set_option linter.unusedVariables false
set_option linter.unusedSimpArgs false
attribute [local go_sem] Oper.quietV quietV Oper.gives givesV ext_refl_iff ext_alloc_iff ext_drew_iff ext_drewN_iff
attribute [local go_sem] RI.Oper.gives RI.givesV
theorem slice_info : (Tryd.prog.info? 84).map (fun i => (i.zero, i.size, i.bytes)) = some (some (.slice none 0 0), 1, 24) := by kernel_rfl
theorem conf_info : (Tryd.prog.info? 34).map (fun i => (i.zero, i.size, i.bytes)) = some (some (.agg #[.int .i64 0, .slice none 0 0]), 2, 32) := by kernel_rfl
/-- What Unfold answers. -/
def UnfP (w : World) (x : Xt) (r : Option (List Sp × List (List (Int × Int)))) (e : Ending) (w' : World) : Prop :=
  (xtR x ≠ 0 → e = .returned (.tuple #[.agg #[.int .i64 0, .int .i64 0, .slice none 0 0], .slice none 0 0, .int .i64 (xtR x)]) ∧ Ext w w') ∧
  (xtR x = 0 → r = none → e = .returned (.tuple #[.agg #[.int .i64 0, .int .i64 0, .slice none 0 0], .slice none 0 0, .int .i64 3]) ∧ Ext w w') ∧
  (xtR x = 0 → ∀ S rows, r = some (S, rows) → ∃ rv lv, e = .returned (.tuple #[.agg #[.int .i64 x.ins, .int .i64 x.outs, rv], lv, .int .i64 0]) ∧ RowsC w' rv rows rows.length ∧ ConfsC w' lv S S.length ∧ Ext w w')
set_option maxRecDepth 100000 in
set_option maxHeartbeats 64000000 in
theorem unfold_any (w : World) (xv : Value) (x : Xt) (hx : XtV w x xv) (hT : OpsTab w) : Calls Tryd.prog 19 #[xv] w (UnfP w x (unfR x)) := by
  have hck := fun W' (e : Ext w W') => extCheck_any W' xv x (hx.ext e) (hT.ext e)
  have hst := fun W' (e : Ext w W') (h : xtR x = 0) (c : Sp) (inp : Int) (hc : okSp x c) => step_any W' xv x c.1 c.2 inp (hx.ext e) (hT.ext e) (okSp_len hc).1 (okSp_len hc).2 (ups_ok h)
  have hcf := fun W' (e : Ext w W') (c : Sp) (hc : okSp x c) => config_any W' xv x c.1 c.2 (hx.ext e) (okSp_len hc).1 (okSp_len hc).2
  have hbg := fun W' (e : Ext w W') (h : xtR x = 0) => begin_any W' xv x (hx.ext e) (okSp_len (okSp_start h)).2
  obtain ⟨vv, sv, av, c1, c2, c3, rfl, hvv, hsv, hav⟩ := hx
  obtain ⟨Av0, hvv0, hvv1, hvv2, hvv3, hvv4⟩ := hvv
  obtain ⟨As, hs0, hs1, hs2, hs3⟩ := hsv
  obtain ⟨Aa, as', ha0, hal, hac, has, han, ham⟩ := hav
  subst hvv0 hs0 ha0
  unfold lenMax at hvv3 hs3 ham
  unfold ErrP at hck
  unfold SpotP at hbg
  unfold StepP at hst
  obtain ⟨q, hq⟩ : ∃ q, q = xtR x := ⟨_, rfl⟩
  rw [← hq] at hck
  have HST := Lib.hid hst
  have HBG := Lib.hid hbg
  have HCF := Lib.hid hcf
  have HQ := Lib.hid hq
  clear hq hst hbg hcf hT hvv1 hvv4 hs1 hal hac has
  obtain ⟨xb, hxb⟩ : ∃ o : Obj, o = .cells #[.int .i64 x.ins, .int .i64 x.outs, .int .i64 x.states, .slice Av0 x.vars.length c1, .slice As x.start.length c2, .slice Aa x.arcs.length c3] 31 := ⟨_, rfl⟩
  have HXB := Lib.hid hxb
  clear hxb
  go_enter Tryd.func19, Tryd.ntmps19
  go_upto_region 1 with fail
  refine wp_named ?_
  intro W1 hW1
  have hE1 : Ext w W1 := by rw [hW1]; exact (alloc_ext w _).trans (alloc_ext _ _)
  have hB2 : W1.heap[w.heap.size + 1]? = some zMach := by
    rw [hW1]
    have h := heap_alloc_new (w.alloc xb) zMach
    rw [HXB.out] at h
    simpa using h
  have hB1 : W1.heap[w.heap.size]? = some xb := by rw [hW1, HXB.out]; exact heap_ext (alloc_ext _ _) (heap_alloc_new _ _)
  have e0 : ∀ w', Ext W1 w' → w'.cell? ⟨w.heap.size, 0, none⟩ = some (.int .i64 x.ins) := fun w' h => h.cell (by rw [hW1]; simp [go_sem])
  have e1 : ∀ w', Ext W1 w' → w'.cell? ⟨w.heap.size, 1, none⟩ = some (.int .i64 x.outs) := fun w' h => h.cell (by rw [hW1]; simp [go_sem])
  have e2 : ∀ w', Ext W1 w' → w'.cell? ⟨w.heap.size, 2, none⟩ = some (.int .i64 x.states) := fun w' h => h.cell (by rw [hW1]; simp [go_sem])
  have e3 : ∀ w', Ext W1 w' → w'.cell? ⟨w.heap.size, 3, none⟩ = some (.slice Av0 x.vars.length c1) := fun w' h => h.cell (by rw [hW1]; simp [go_sem])
  have e4 : ∀ w', Ext W1 w' → w'.cell? ⟨w.heap.size, 4, none⟩ = some (.slice As x.start.length c2) := fun w' h => h.cell (by rw [hW1]; simp [go_sem])
  have e5 : ∀ w', Ext W1 w' → w'.cell? ⟨w.heap.size, 5, none⟩ = some (.slice Aa x.arcs.length c3) := fun w' h => h.cell (by rw [hW1]; simp [go_sem])
  have hR1 := Ext.refl W1
  have hck1 := hck W1 hE1
  have HE1 := Lib.hid (And.intro hE1 (And.intro hB1 hB2))
  have HD : Hid (w.heap.size ≤ w.heap.size ∧ w.heap.size < w.heap.size + 1) := Lib.hid (by omega)
  clear hW1 hE1 hB1 hB2 hck
  generalize w.heap.size + 1 = d2 at *
  generalize hd1 : w.heap.size = d1 at *
  have HDW := Lib.hid hd1
  clear hd1
  by_cases hq0 : q = 0
  rotate_left
  · have HR : Hid (xtR x = q ∧ q ≠ 0) := Lib.hid ⟨HQ.out.symm, hq0⟩
    have hz2 : (q != 0) = true := bne_iff_ne.2 hq0
    clear hq0
    go_upto_region 3 with ((with_reducible refine hck1.mono ?_); rintro e W2 ⟨rfl, e2'⟩)
    have HE2 := Lib.hid (And.intro (HE1.out.1.trans e2') (heap_ext e2' HE1.out.2.2))
    clear hck1 e2' e0 e1 e2 e3 e4 e5 hR1
    go_wp2_with (with_reducible refine wpList_store_blk _ rfl 52 _ _ rfl d2 52 _ _ rfl rfl (HE2.out).2 (by kernel_rfl) (by kernel_rfl) (by kernel_rfl) ?_; intro w8 h8 g8)
    refine bodyPost_ret (results_cell_tmp2 rfl _ _ d2 52 _ (0, 0) _ (by simp [Act.put]) h8 Tryd.underlying52 rfl (by kernel_rfl)) rfl ?_
    have hE8 := Below.grown HE2.out.1 g8 HE2.out.1.size (fun k hk => by cases hk; rw [HDW.out]; exact Nat.le_of_lt HD.out.2)
    exact ⟨fun _ => ⟨by rw [HR.out.1]; rfl, hE8⟩, fun h => absurd (HR.out.1.symm.trans h) HR.out.2, fun h => absurd (HR.out.1.symm.trans h) HR.out.2⟩
  subst hq0
  go_upto_region 4 with ((with_reducible refine hck1.mono ?_); rintro e W2 ⟨rfl, e2'⟩)
  have HX0 : Hid (xtR x = 0) := Lib.hid HQ.out.symm
  have e0 := fun w' (h : Ext W2 w') => e0 w' ((e2').trans h)
  have e1 := fun w' (h : Ext W2 w') => e1 w' ((e2').trans h)
  have e2 := fun w' (h : Ext W2 w') => e2 w' ((e2').trans h)
  have e3 := fun w' (h : Ext W2 w') => e3 w' ((e2').trans h)
  have e4 := fun w' (h : Ext W2 w') => e4 w' ((e2').trans h)
  have e5 := fun w' (h : Ext W2 w') => e5 w' ((e2').trans h)
  have hR2 := Ext.refl W2
  have HE2 := Lib.hid (And.intro (HE1.out.1.trans e2') (And.intro (heap_ext e2' HE1.out.2.1) (heap_ext e2' HE1.out.2.2)))
  have hbg2 := fun W' (e : Ext W2 W') => HBG.out W' (HE2.out.1.trans e) HX0.out
  have HROW := Lib.hid (okSp_row HX0.out (okSp_start HX0.out))
  have HSL := Lib.hid (okSp_len (okSp_start HX0.out)).2
  have hmm := @run_makeMap Tryd.prog
  clear hck1 e2' hR1 HE1
  refine RI.wp_region_inv 9 (U4 W2 (0, x.start)) (fun k => [1, 2, 3, 5, 6].contains k) (fun k => ([[], [0], [0, 1], [], [], [0, 1, 4], [0, 1, 3, 4, 5], [0, 1, 3, 4, 5, 6], [0, 1, 2, 4, 5], [0, 1, 2, 3, 4, 5, 6, 7, 8]] : List (List Nat)).getD k []) (by kernel_rfl) (by kernel_rfl) ?_ ?_
  rotate_left; simp only [List.take_succ_cons, List.take_zero]; rotate_left
  · exact U4.start _ _ (Ext.refl _).drew
  repeat (first | (with_reducible refine RI.lexL_quiet' (v := ?_) ?_ ?_ ?_ ?_; rotate_left; (· with_reducible rfl); (· decide); (· intro G w1 hI1 hA1; have hw1 := hI1.ext; go_simp; with_reducible rfl); (try simp only [Act.put, List.setIfInBounds_toArray, List.set_cons_zero, List.set_cons_succ])) | (with_reducible refine RI.lexL_skip ?_ ?_; (· simp [Region.wanted, yielded, undef]); (try simp only [Act.put, List.setIfInBounds_toArray, List.set_cons_zero, List.set_cons_succ])) | (with_reducible refine RI.lexL_quiet (v := ?_) ?_ ?_ ?_ ?_; rotate_left; (· simp [Region.wanted, yielded, undef]); (· decide); (· intro G w1 hI1 hA1; have hw1 := hI1.ext; go_simp; with_reducible rfl); (try simp only [Act.put, List.setIfInBounds_toArray, List.set_cons_zero, List.set_cons_succ])))
  with_reducible refine RI.lexL_give' ?_ ?_ ?_ ?_; (· with_reducible rfl); (· decide)
  · intro G w5 hI hA hg
    have hw5 := hI.ext
    go_simp
    refine (hbg2 w5 hw5).mono ?_
    rintro e w6 ⟨rfl, e6⟩
    exact ⟨_, rfl, hI.call1 e6⟩
  intro v1 G w5 hI hs2
  have hv1 := hI.c1 v1 (hs2 1 v1 rfl)
  unfold spV at hv1
  dsimp only at hv1
  subst hv1
  clear hI hs2 G w5
  (try simp only [Act.put, List.setIfInBounds_toArray, List.set_cons_zero, List.set_cons_succ])
  with_reducible refine RI.lexL_give' ?_ ?_ ?_ ?_; (· with_reducible rfl); (· decide)
  · intro G w5 hI hA hg
    refine gives_lit (.tmp 27) ?_ 0 x.start ?_ HSL.out (hI.set2 hg HSL.out) <;> first | rfl | exact rfl | (go_simp; done)
  intro v2 G w5 hI hs2
  obtain ⟨bl, rfl⟩ := hI.p2 v2 (hs2 2 v2 rfl)
  clear hI hs2 G w5
  (try simp only [Act.put, List.setIfInBounds_toArray, List.set_cons_zero, List.set_cons_succ])
  with_reducible refine RI.lexL_give' ?_ ?_ ?_ ?_; (· with_reducible rfl); (· decide)
  · intro G w5 hI hA hg
    go_simp
    exact hI.set3 hg
  intro v3 G w5 hI hs2
  obtain ⟨bm, rfl⟩ := hI.p3 v3 (hs2 3 v3 rfl)
  clear hI hs2 G w5
  (try simp only [Act.put, List.setIfInBounds_toArray, List.set_cons_zero, List.set_cons_succ])
  repeat (first | (with_reducible refine RI.lexL_quiet' (v := ?_) ?_ ?_ ?_ ?_; rotate_left; (· with_reducible rfl); (· decide); (· intro G w1 hI1 hA1; have hw1 := hI1.ext; go_simp; with_reducible rfl); (try simp only [Act.put, List.setIfInBounds_toArray, List.set_cons_zero, List.set_cons_succ])) | (with_reducible refine RI.lexL_skip ?_ ?_; (· simp [Region.wanted, yielded, undef]); (try simp only [Act.put, List.setIfInBounds_toArray, List.set_cons_zero, List.set_cons_succ])) | (with_reducible refine RI.lexL_quiet (v := ?_) ?_ ?_ ?_ ?_; rotate_left; (· simp [Region.wanted, yielded, undef]); (· decide); (· intro G w1 hI1 hA1; have hw1 := hI1.ext; go_simp; with_reducible rfl); (try simp only [Act.put, List.setIfInBounds_toArray, List.set_cons_zero, List.set_cons_succ])))
  with_reducible refine RI.lexL_give' ?_ ?_ ?_ ?_; (· with_reducible rfl); (· decide)
  · intro G w5 hI hA hg
    have hw5 := hI.ext
    go_simp
    refine (hbg2 w5 hw5).mono ?_
    rintro e w6 ⟨rfl, e6⟩
    exact ⟨_, rfl, hI.call5 e6⟩
  intro v5 G w5 hI hs2
  have hv5 := hI.c5 v5 (hs2 5 v5 rfl)
  unfold spV at hv5
  dsimp only at hv5
  subst hv5
  clear hI hs2 G w5
  (try simp only [Act.put, List.setIfInBounds_toArray, List.set_cons_zero, List.set_cons_succ])
  with_reducible refine RI.lexL_give' ?_ ?_ ?_ ?_; (· with_reducible rfl); (· decide)
  · intro G w5 hI hA hg
    have h3 := hA 3 (by decide) _ rfl
    obtain ⟨w6, hrun, h6⟩ := hI.set6 hg h3 HROW.out (v := .agg (spotL 0 x.start).toArray) rfl
    exact gives_insert 103 _ _ _ rfl hrun (h6 _)
  intro v6 G w5 hI hs2
  clear hI hs2 G w5
  (try simp only [Act.put, List.setIfInBounds_toArray, List.set_cons_zero, List.set_cons_succ])
  repeat (first | (with_reducible refine RI.lexL_quiet' (v := ?_) ?_ ?_ ?_ ?_; rotate_left; (· with_reducible rfl); (· decide); (· intro G w1 hI1 hA1; have hw1 := hI1.ext; go_simp; with_reducible rfl); (try simp only [Act.put, List.setIfInBounds_toArray, List.set_cons_zero, List.set_cons_succ])) | (with_reducible refine RI.lexL_skip ?_ ?_; (· simp [Region.wanted, yielded, undef]); (try simp only [Act.put, List.setIfInBounds_toArray, List.set_cons_zero, List.set_cons_succ])) | (with_reducible refine RI.lexL_quiet (v := ?_) ?_ ?_ ?_ ?_; rotate_left; (· simp [Region.wanted, yielded, undef]); (· decide); (· intro G w1 hI1 hA1; have hw1 := hI1.ext; go_simp; with_reducible rfl); (try simp only [Act.put, List.setIfInBounds_toArray, List.set_cons_zero, List.set_cons_succ])))
  with_reducible refine RI.lexL_nil ?_; intro w1 hI1; simp only [List.drop_succ_cons, List.drop_zero]
  obtain ⟨om0, hO, _, hM⟩ := hI1.own
  have hM := hM v6 rfl
  have hO : OwnL W2 w1 [.row 93 17 (.slice (some ⟨bl, 0, none⟩) 1 1) 1 (spC (0, x.start)), .blk bm om0] := hO
  have hO0 : OwnL w W2 [.blk d2 zMach, .blk d1 xb] := ⟨HE2.out.1, fun A hA => by
    rcases List.mem_cons.1 hA with rfl | hA
    · exact ⟨by rw [HDW.out]; exact Nat.le_of_lt HD.out.2, HE2.out.2.2⟩
    · simp at hA; subst hA; exact ⟨by rw [HDW.out]; exact Nat.le_refl _, HE2.out.2.1⟩, by
    refine List.pairwise_cons.2 ⟨fun B hB b hb hb' => ?_, List.pairwise_singleton _ _⟩
    simp at hB; subst hB
    have h1 : b = d2 := hb
    have h2 : b = d1 := hb'
    have := HD.out.2; omega⟩
  have hO2 := hO0.join hO
  have hE21 := hO.ext
  have e0 := fun w' (h : Ext w1 w') => e0 w' ((hE21).trans h)
  have e1 := fun w' (h : Ext w1 w') => e1 w' ((hE21).trans h)
  have e2 := fun w' (h : Ext w1 w') => e2 w' ((hE21).trans h)
  have e3 := fun w' (h : Ext w1 w') => e3 w' ((hE21).trans h)
  have e4 := fun w' (h : Ext w1 w') => e4 w' ((hE21).trans h)
  have e5 := fun w' (h : Ext w1 w') => e5 w' ((hE21).trans h)
  have HO := Lib.hid (And.intro hO2 hM)
  have hR3 := Ext.refl w1
  clear hI1 hO hO0 hO2 hM hE21 hbg2 hR2 HROW hmm HE2 HBG
  go_upto_region 6 with fail
  refine wp_named ?_
  intro W5 hW5
  have hU5 : UnfSt w W5 xb d1 d2 w1.heap.size bm x.ins x.outs (.slice (some ⟨bl, 0, none⟩) 1 1) [(0, x.start)] [] := by
    refine ⟨.slice none 0 0, om0, [], HO.out.2, ?_⟩
    rw [hW5]
    have h1 := HO.out.1.add (alloc_ext w1 (.cells #[.int .i64 x.ins, .int .i64 x.outs, .slice none 0 0] 52)) (A := .blk w1.heap.size (.cells #[.int .i64 x.ins, .int .i64 x.outs, .slice none 0 0] 52)) ⟨Nat.le_refl _, heap_alloc_new w1 _⟩
    have h2 := h1.add (Ext.refl _) (A := .rows 84 83 2 (.slice none 0 0) [] []) (OwnRows.none _ _ _ _ _)
    unfold UL
    rw [show [((0 : Int), x.start)].flatMap spC = spC (0, x.start) by simp]
    exact h2
  have HU5 := Lib.hid hU5
  clear hW5 hU5 HO e0 e1 e2 e3 e4 e5 hR3
  generalize w1.heap.size = d8 at *
  have hcm := HCF
  go_wp2
  go_loopw [6, 9] (fun lv iv wr => ∃ (i : Nat) (S : List Sp) (rows : List (List (Int × Int))), iv = .int .i64 i ∧ i ≤ S.length ∧ S.length ≤ 64 ∧ rows.length = i ∧ (∃ g c, lv = .slice (some ⟨g, 0, none⟩) S.length c) ∧ Hid (uAll x i = some (S, rows)) ∧ Hid (UnfSt w wr xb d1 d2 d8 bm x.ins x.outs lv S rows)) (fun _ iv _ => 65 - (intOf iv).toNat)
  case atStart => exact ⟨0, [(0, x.start)], [], by first | rfl | simp, Nat.zero_le _, by simp, rfl, ⟨bl, 1, rfl⟩, Lib.hid rfl, HU5⟩
  case round =>
    clear HU5
    obtain ⟨i, S, rows, rfl, hi, hS64, hrl, ⟨gl, cl, rfl⟩, HA, HU⟩ := hrel
    obtain ⟨W6, hW6⟩ : ∃ W, W = wr := ⟨_, rfl⟩; subst hW6
    by_cases hlt : i < S.length
    · have hlI : (i : Int) < (S.length : Int) := by omega
      obtain ⟨c, hc⟩ : ∃ c, S[i]? = some c := ⟨_, List.getElem?_eq_getElem hlt⟩
      have HAO := Lib.hid (uAll_ok HX0.out HA.out)
      have HOK := Lib.hid (HAO.out.1.2 c (List.mem_of_getElem? hc))
      obtain ⟨n, hn⟩ : ∃ n : Nat, x.ins = (n : Int) := ⟨x.ins.toNat, by have := (xtR_ok HX0.out).2.2.2.2.2.1; omega⟩
      have HN := Lib.hid hn
      have HNB : Hid (1 ≤ n ∧ n ≤ 16) := Lib.hid (by have h1 := (xtR_ok HX0.out).1; have h2 := (xtR_ok HX0.out).2.2.2.2.2.1; omega)
      have hmk := mk_edges n (by have := HNB.out.2; omega)
      have hn16 : n ≤ 16 := HNB.out.2
      have b1 := HU.out.box
      rw [HXB.out] at b1
      have q0 := cell_of_blk b1 0 (u := .int .i64 x.ins) rfl
      rw [hn] at q0
      have HC := Lib.hid hc
      clear b1 hn hc
      go_upto_region 10 with fail
      refine wp_named ?_
      intro W7 hW7
      have hU7 := HU.out.begin n (by omega)
      rw [← hW7] at hU7
      have HU7 := Lib.hid hU7
      have hE67 : Ext W6 W7 := by rw [hW7]; exact alloc_ext _ _
      clear hW7 hU7 q0 hmk HU hE67
      generalize W6.heap.size = g at *
      go_wp2
      go_loopw [6, 49] (fun lv kv wr => ∃ (k : Nat) (S1 : List Sp) (row : List (Int × Int)), kv = .int .i64 k ∧ k ≤ n ∧ row.length = k ∧ S1.length ≤ 64 ∧ i < S1.length ∧ (∃ g c, lv = .slice (some ⟨g, 0, none⟩) S1.length c) ∧ Hid (uRow x c S k = some (S1, row)) ∧ Hid (UnfRow w wr xb d1 d2 d8 bm x.ins x.outs lv S1 rows g n (fl row n))) (fun _ kv _ => n - (intOf kv).toNat)
      case atStart => exact ⟨0, S, [], by first | rfl | simp, Nat.zero_le _, rfl, hS64, hlt, ⟨gl, cl, rfl⟩, Lib.hid rfl, HU7⟩
      case round =>
        clear HU7
        obtain ⟨k, S1, row, rfl, hk, hrw, hS1, hiS1, ⟨gm, cm, rfl⟩, HR1, HU1⟩ := hrel
        obtain ⟨W8, hW8⟩ : ∃ W, W = wr := ⟨_, rfl⟩; subst hW8
        by_cases hkn : k < n
        · have hkI : (k : Int) < (n : Int) := by omega
          have HO1 := Lib.hid (uRow_ok HX0.out HOK.out HAO.out.1 HR1.out)
          have HC1 : Hid (S1[i]? = some c) := Lib.hid (by
            obtain ⟨t, ht⟩ := HO1.out.2.1
            have h1 := HC.out
            have h2 : S1 = S ++ t := ht.symm
            rw [h2, List.getElem?_append_left (by omega)]; exact h1)
          have hfl : (fl row n).length = n := fl_len (by omega)
          obtain ⟨z0, z1, z2, z3⟩ := HU1.out.at_ (i := k) (by omega)
          go_upto_region 14 with fail
          refine wp_named ?_
          intro W9 hW9
          have hU9 := HU1.out.edge (i := k) (by omega) (-1) (-1)
          rw [← hW9, ← hrw, fl_set (by omega)] at hU9
          have HU9 := Lib.hid hU9
          have hR9 := Ext.refl W9
          have b1 := HU9.out.box
          rw [HXB.out] at b1
          have e0 : ∀ w', Ext W9 w' → w'.cell? ⟨d1, 0, none⟩ = some (.int .i64 x.ins) := fun w' h => h.cell (cell_of_blk b1 0 (u := .int .i64 x.ins) rfl)
          have e1 : ∀ w', Ext W9 w' → w'.cell? ⟨d1, 1, none⟩ = some (.int .i64 x.outs) := fun w' h => h.cell (cell_of_blk b1 1 (u := .int .i64 x.outs) rfl)
          have e2 : ∀ w', Ext W9 w' → w'.cell? ⟨d1, 2, none⟩ = some (.int .i64 x.states) := fun w' h => h.cell (cell_of_blk b1 2 (u := .int .i64 x.states) rfl)
          have e3 : ∀ w', Ext W9 w' → w'.cell? ⟨d1, 3, none⟩ = some (.slice Av0 x.vars.length c1) := fun w' h => h.cell (cell_of_blk b1 3 (u := .slice Av0 x.vars.length c1) rfl)
          have e4 : ∀ w', Ext W9 w' → w'.cell? ⟨d1, 4, none⟩ = some (.slice As x.start.length c2) := fun w' h => h.cell (cell_of_blk b1 4 (u := .slice As x.start.length c2) rfl)
          have e5 : ∀ w', Ext W9 w' → w'.cell? ⟨d1, 5, none⟩ = some (.slice Aa x.arcs.length c3) := fun w' h => h.cell (cell_of_blk b1 5 (u := .slice Aa x.arcs.length c3) rfl)
          have hs := fun W' (e : Ext W9 W') => HST.out W' (HU9.out.ext.trans e) HX0.out c (k : Int) HOK.out
          have hrg : ∀ w', Ext W9 w' → w'.rangeAt gm (i * 17) (spotL c.1 c.2) := fun w' h j v hj => h.cell (range_spot HU9.out.lst (fun d hd => (okSp_len (HO1.out.1.2 d hd)).2) HC1.out j v hj)
          have hcl : c.2.length ≤ 16 := (okSp_len HOK.out).2
          have HSV : Hid (stepV x c.1 c.2 (k : Int) = match stepR x c.1 c.2 (k : Int) with | some r => (r.1, r.2.1, r.2.2, true) | none => (c.1, c.2, -1, false)) := Lib.hid rfl
          have HSO : Hid (∀ r, stepR x c.1 c.2 (k : Int) = some r → okSp x (r.1, r.2.1)) := Lib.hid (fun r h => stepR_ok HX0.out HOK.out.2 h)
          have HRW : Hid (uRow x c S (k + 1) = match uStep x c S1 (k : Int) with | none => none | some q => some (q.1, row ++ [q.2])) := Lib.hid (uRow_step HR1.out)
          have hUS : uStep x c S1 (k : Int) = match stepR x c.1 c.2 (k : Int) with | none => some (S1, (-1, -1)) | some r => (match idxP S1 (r.1, r.2.1) with | some n => some (S1, ((n : Int), r.2.2)) | none => if S1.length = 64 then none else some (S1 ++ [(r.1, r.2.1)], ((S1.length : Int), r.2.2))) := rfl
          rw [hUS] at HRW
          obtain ⟨R, hRR⟩ : ∃ R, R = stepR x c.1 c.2 (k : Int) := ⟨_, rfl⟩
          rw [← hRR] at HSV HSO HRW
          have HCF9 : Hid True := Lib.hid trivial
          clear hRR hUS b1 z0 z1 z2 z3 hW9 hU9 HU1
          cases R with
          | none =>
            have hsv := HSV.out
            dsimp only at hsv
            rw [hsv] at hs
            dsimp only at hs
            have HZL : Hid (c.2.length ≤ 16) := Lib.hid hcl
            clear hsv
            refine RI.wp_region_inv 14 (SpJ W9 [(6, .tuple #[.agg (spotL c.1 c.2).toArray, .int .i64 (-1), .bool false])] 11 12 c.1 c.2) (fun k => [6, 11, 12].contains k) (fun k => ([[], [], [], [1, 2], [1, 2, 3], [], [0, 1, 2, 3, 4, 5], [0, 1, 2, 3, 4, 5, 6], [0, 1, 2, 3, 4, 5, 6, 7], [0, 1, 2, 3, 4, 5, 6, 7], [0, 1, 2, 3, 4, 5, 6, 7], [], [0, 1, 2, 3, 4, 5, 6, 7, 8, 11], [0, 1, 2, 3, 4, 5, 6, 7, 8, 9, 11, 12], [0, 1, 2, 3, 4, 5, 6, 7, 8, 9, 10, 11, 12, 13]] : List (List Nat)).getD k []) (by kernel_rfl) (by kernel_rfl) ?_ ?_
            rotate_left; simp only [List.take_succ_cons, List.take_zero]; rotate_left
            · exact SpJ.start _ _ _ _ _ _ (Ext.refl _).drew
            with_reducible refine RI.lexL_quiet' (v := ?_) ?_ ?_ ?_ ?_; rotate_left; (· with_reducible rfl); (· decide); (· intro G w1 hI1 hA1; have hw1 := hI1.ext; go_simp; with_reducible rfl); (try simp only [Act.put, List.setIfInBounds_toArray, List.set_cons_zero, List.set_cons_succ])
            with_reducible refine RI.lexL_quiet' (v := ?_) ?_ ?_ ?_ ?_; rotate_left; (· with_reducible rfl); (· decide); (· intro G w1 hI1 hA1; have hw1 := hI1.ext; go_simp; with_reducible rfl); (try simp only [Act.put, List.setIfInBounds_toArray, List.set_cons_zero, List.set_cons_succ])
            with_reducible refine RI.lexL_quiet' (v := ?_) ?_ ?_ ?_ ?_; rotate_left; (· with_reducible rfl); (· decide); (· intro G w1 hI1 hA1; have hw1 := hI1.ext; go_simp; with_reducible rfl); (try simp only [Act.put, List.setIfInBounds_toArray, List.set_cons_zero, List.set_cons_succ])
            with_reducible refine RI.lexL_quiet' (v := ?_) ?_ ?_ ?_ ?_; rotate_left; (· with_reducible rfl); (· decide); (· intro G w1 hI1 hA1; have hw1 := hI1.ext; go_simp; with_reducible rfl); (try simp only [Act.put, List.setIfInBounds_toArray, List.set_cons_zero, List.set_cons_succ])
            with_reducible refine RI.lexL_quiet' (v := ?_) ?_ ?_ ?_ ?_; rotate_left; (· with_reducible rfl); (· decide); (· intro G w1 hI hA; (with_reducible refine quiet_load_mid (.tmp 60) ?_ _ _ ?_ (hrg w1 hI.ext) hcl) <;> (first | rfl | exact rfl | (go_simp; done) | (simp [Act.eval]; done))); (try simp only [Act.put, List.setIfInBounds_toArray, List.set_cons_zero, List.set_cons_succ])
            repeat (first | (with_reducible refine RI.lexL_quiet' (v := ?_) ?_ ?_ ?_ ?_; rotate_left; (· with_reducible rfl); (· decide); (· intro G w1 hI1 hA1; have hw1 := hI1.ext; go_simp; with_reducible rfl); (try simp only [Act.put, List.setIfInBounds_toArray, List.set_cons_zero, List.set_cons_succ])) | (with_reducible refine RI.lexL_skip ?_ ?_; (· simp [Region.wanted, yielded, undef]); (try simp only [Act.put, List.setIfInBounds_toArray, List.set_cons_zero, List.set_cons_succ])) | (with_reducible refine RI.lexL_quiet (v := ?_) ?_ ?_ ?_ ?_; rotate_left; (· simp [Region.wanted, yielded, undef]); (· decide); (· intro G w1 hI1 hA1; have hw1 := hI1.ext; go_simp; with_reducible rfl); (try simp only [Act.put, List.setIfInBounds_toArray, List.set_cons_zero, List.set_cons_succ])))
            with_reducible refine RI.lexL_give' ?_ ?_ ?_ ?_; (· with_reducible rfl); (· decide)
            · intro G w5 hI hA hg
              have hw5 := hI.ext
              go_simp
              refine (hs w5 hw5).mono ?_
              rintro e w6 ⟨rfl, e6⟩
              exact ⟨_, rfl, hI.call (by decide) (by decide) e6 (by simp)⟩
            intro v4 G w5 hI hs2
            have hv4 := hI.c _ (List.mem_cons_self ..) v4 (hs2 6 v4 rfl)
            dsimp only at hv4
            subst hv4
            clear hI hs2 G w5
            (try simp only [Act.put, List.setIfInBounds_toArray, List.set_cons_zero, List.set_cons_succ])
            repeat (first | (with_reducible refine RI.lexL_quiet' (v := ?_) ?_ ?_ ?_ ?_; rotate_left; (· with_reducible rfl); (· decide); (· intro G w1 hI1 hA1; have hw1 := hI1.ext; go_simp; with_reducible rfl); (try simp only [Act.put, List.setIfInBounds_toArray, List.set_cons_zero, List.set_cons_succ])) | (with_reducible refine RI.lexL_skip ?_ ?_; (· simp [Region.wanted, yielded, undef]); (try simp only [Act.put, List.setIfInBounds_toArray, List.set_cons_zero, List.set_cons_succ])) | (with_reducible refine RI.lexL_quiet (v := ?_) ?_ ?_ ?_ ?_; rotate_left; (· simp [Region.wanted, yielded, undef]); (· decide); (· intro G w1 hI1 hA1; have hw1 := hI1.ext; go_simp; with_reducible rfl); (try simp only [Act.put, List.setIfInBounds_toArray, List.set_cons_zero, List.set_cons_succ])))
            with_reducible refine RI.lexL_give' ?_ ?_ ?_ ?_; (· with_reducible rfl); (· decide)
            · intro G w5 hI hA hg
              go_simp
              exact hI.alloc hg (by decide) (by simp) rfl
            intro v9 G w5 hI hs2
            obtain ⟨b9, rfl, hb9, hr9⟩ := hI.a v9 (hs2 11 v9 rfl)
            clear hr9 hI hs2 G w5
            (try simp only [Act.put, List.setIfInBounds_toArray, List.set_cons_zero, List.set_cons_succ])
            with_reducible refine RI.lexL_give' ?_ ?_ ?_ ?_; (· with_reducible rfl); (· decide)
            · intro G w5 hI hA hg
              have h9 := hA 11 (by decide) _ rfl
              obtain ⟨b', hb', _, h3, _⟩ := hI.a _ h9
              have hb' := ptr_inj hb'; subst hb'
              refine gives_store_spot (.tmp 12) (.tmp 64) ?_ b9 ?_ ?_ (h3 hg) (by simp) HZL.out (fun w' hB hgr => hI.store (by decide) (by simp) h9 hB hgr) <;> first | rfl | exact rfl | (go_simp; done)
            intro v10 G w5 hI hs2
            clear hI hs2 G w5
            (try simp only [Act.put, List.setIfInBounds_toArray, List.set_cons_zero, List.set_cons_succ])
            repeat (first | (with_reducible refine RI.lexL_quiet' (v := ?_) ?_ ?_ ?_ ?_; rotate_left; (· with_reducible rfl); (· decide); (· intro G w1 hI1 hA1; have hw1 := hI1.ext; go_simp; with_reducible rfl); (try simp only [Act.put, List.setIfInBounds_toArray, List.set_cons_zero, List.set_cons_succ])) | (with_reducible refine RI.lexL_skip ?_ ?_; (· simp [Region.wanted, yielded, undef]); (try simp only [Act.put, List.setIfInBounds_toArray, List.set_cons_zero, List.set_cons_succ])) | (with_reducible refine RI.lexL_quiet (v := ?_) ?_ ?_ ?_ ?_; rotate_left; (· simp [Region.wanted, yielded, undef]); (· decide); (· intro G w1 hI1 hA1; have hw1 := hI1.ext; go_simp; with_reducible rfl); (try simp only [Act.put, List.setIfInBounds_toArray, List.set_cons_zero, List.set_cons_succ])))
            with_reducible refine RI.lexL_nil ?_; intro w1 hI1; simp only [List.drop_succ_cons, List.drop_zero]
            obtain ⟨b', hb', _, _, h4⟩ := hI1.a _ rfl
            have hb' := ptr_inj hb'; subst hb'
            have h4 : SpotB w1 b9 c.1 c.2 := h4 v10 rfl
            have hE4 := hI1.e
            have HU4 := Lib.hid (And.intro (HU9.out.trans hE4) (And.intro h4 (HU9.out.spot hE4 (c := (c.1, c.2)) hb9 h4)))
            clear hI1 h4 hE4 hb9 hs hrg e0 e1 e2 e3 e4 e5
            have HR2 : Hid (uRow x c S (k + 1) = some (S1, row ++ [(-1, -1)])) := Lib.hid HRW.out
            go_wp2
            refine ⟨⟨k + 1, S1, row ++ [(-1, -1)], by go_num, hkn, by simp [hrw], hS1, hiS1, ⟨gm, cm, rfl⟩, HR2, Lib.hid HU4.out.1⟩, ?_⟩
            simp [intOf]; omega
          | some rr =>
            obtain ⟨t, zs, o⟩ := rr
            have hsv := HSV.out
            dsimp only at hsv
            rw [hsv] at hs
            dsimp only at hs
            have HSP : Hid (okSp x (t, zs)) := Lib.hid (HSO.out _ rfl)
            have HZL : Hid (zs.length ≤ 16) := Lib.hid (okSp_len HSP.out).2
            clear hsv
            refine RI.wp_region_inv 14 (SpJ W9 [(6, .tuple #[.agg (spotL t zs).toArray, .int .i64 o, .bool true])] 11 12 t zs) (fun k => [6, 11, 12].contains k) (fun k => ([[], [], [], [1, 2], [1, 2, 3], [], [0, 1, 2, 3, 4, 5], [0, 1, 2, 3, 4, 5, 6], [0, 1, 2, 3, 4, 5, 6, 7], [0, 1, 2, 3, 4, 5, 6, 7], [0, 1, 2, 3, 4, 5, 6, 7], [], [0, 1, 2, 3, 4, 5, 6, 7, 8, 11], [0, 1, 2, 3, 4, 5, 6, 7, 8, 9, 11, 12], [0, 1, 2, 3, 4, 5, 6, 7, 8, 9, 10, 11, 12, 13]] : List (List Nat)).getD k []) (by kernel_rfl) (by kernel_rfl) ?_ ?_
            rotate_left; simp only [List.take_succ_cons, List.take_zero]; rotate_left
            · exact SpJ.start _ _ _ _ _ _ (Ext.refl _).drew
            with_reducible refine RI.lexL_quiet' (v := ?_) ?_ ?_ ?_ ?_; rotate_left; (· with_reducible rfl); (· decide); (· intro G w1 hI1 hA1; have hw1 := hI1.ext; go_simp; with_reducible rfl); (try simp only [Act.put, List.setIfInBounds_toArray, List.set_cons_zero, List.set_cons_succ])
            with_reducible refine RI.lexL_quiet' (v := ?_) ?_ ?_ ?_ ?_; rotate_left; (· with_reducible rfl); (· decide); (· intro G w1 hI1 hA1; have hw1 := hI1.ext; go_simp; with_reducible rfl); (try simp only [Act.put, List.setIfInBounds_toArray, List.set_cons_zero, List.set_cons_succ])
            with_reducible refine RI.lexL_quiet' (v := ?_) ?_ ?_ ?_ ?_; rotate_left; (· with_reducible rfl); (· decide); (· intro G w1 hI1 hA1; have hw1 := hI1.ext; go_simp; with_reducible rfl); (try simp only [Act.put, List.setIfInBounds_toArray, List.set_cons_zero, List.set_cons_succ])
            with_reducible refine RI.lexL_quiet' (v := ?_) ?_ ?_ ?_ ?_; rotate_left; (· with_reducible rfl); (· decide); (· intro G w1 hI1 hA1; have hw1 := hI1.ext; go_simp; with_reducible rfl); (try simp only [Act.put, List.setIfInBounds_toArray, List.set_cons_zero, List.set_cons_succ])
            with_reducible refine RI.lexL_quiet' (v := ?_) ?_ ?_ ?_ ?_; rotate_left; (· with_reducible rfl); (· decide); (· intro G w1 hI hA; (with_reducible refine quiet_load_mid (.tmp 60) ?_ _ _ ?_ (hrg w1 hI.ext) hcl) <;> (first | rfl | exact rfl | (go_simp; done) | (simp [Act.eval]; done))); (try simp only [Act.put, List.setIfInBounds_toArray, List.set_cons_zero, List.set_cons_succ])
            repeat (first | (with_reducible refine RI.lexL_quiet' (v := ?_) ?_ ?_ ?_ ?_; rotate_left; (· with_reducible rfl); (· decide); (· intro G w1 hI1 hA1; have hw1 := hI1.ext; go_simp; with_reducible rfl); (try simp only [Act.put, List.setIfInBounds_toArray, List.set_cons_zero, List.set_cons_succ])) | (with_reducible refine RI.lexL_skip ?_ ?_; (· simp [Region.wanted, yielded, undef]); (try simp only [Act.put, List.setIfInBounds_toArray, List.set_cons_zero, List.set_cons_succ])) | (with_reducible refine RI.lexL_quiet (v := ?_) ?_ ?_ ?_ ?_; rotate_left; (· simp [Region.wanted, yielded, undef]); (· decide); (· intro G w1 hI1 hA1; have hw1 := hI1.ext; go_simp; with_reducible rfl); (try simp only [Act.put, List.setIfInBounds_toArray, List.set_cons_zero, List.set_cons_succ])))
            with_reducible refine RI.lexL_give' ?_ ?_ ?_ ?_; (· with_reducible rfl); (· decide)
            · intro G w5 hI hA hg
              have hw5 := hI.ext
              go_simp
              refine (hs w5 hw5).mono ?_
              rintro e w6 ⟨rfl, e6⟩
              exact ⟨_, rfl, hI.call (by decide) (by decide) e6 (by simp)⟩
            intro v4 G w5 hI hs2
            have hv4 := hI.c _ (List.mem_cons_self ..) v4 (hs2 6 v4 rfl)
            dsimp only at hv4
            subst hv4
            clear hI hs2 G w5
            (try simp only [Act.put, List.setIfInBounds_toArray, List.set_cons_zero, List.set_cons_succ])
            repeat (first | (with_reducible refine RI.lexL_quiet' (v := ?_) ?_ ?_ ?_ ?_; rotate_left; (· with_reducible rfl); (· decide); (· intro G w1 hI1 hA1; have hw1 := hI1.ext; go_simp; with_reducible rfl); (try simp only [Act.put, List.setIfInBounds_toArray, List.set_cons_zero, List.set_cons_succ])) | (with_reducible refine RI.lexL_skip ?_ ?_; (· simp [Region.wanted, yielded, undef]); (try simp only [Act.put, List.setIfInBounds_toArray, List.set_cons_zero, List.set_cons_succ])) | (with_reducible refine RI.lexL_quiet (v := ?_) ?_ ?_ ?_ ?_; rotate_left; (· simp [Region.wanted, yielded, undef]); (· decide); (· intro G w1 hI1 hA1; have hw1 := hI1.ext; go_simp; with_reducible rfl); (try simp only [Act.put, List.setIfInBounds_toArray, List.set_cons_zero, List.set_cons_succ])))
            with_reducible refine RI.lexL_give' ?_ ?_ ?_ ?_; (· with_reducible rfl); (· decide)
            · intro G w5 hI hA hg
              go_simp
              exact hI.alloc hg (by decide) (by simp) rfl
            intro v9 G w5 hI hs2
            obtain ⟨b9, rfl, hb9, hr9⟩ := hI.a v9 (hs2 11 v9 rfl)
            clear hr9 hI hs2 G w5
            (try simp only [Act.put, List.setIfInBounds_toArray, List.set_cons_zero, List.set_cons_succ])
            with_reducible refine RI.lexL_give' ?_ ?_ ?_ ?_; (· with_reducible rfl); (· decide)
            · intro G w5 hI hA hg
              have h9 := hA 11 (by decide) _ rfl
              obtain ⟨b', hb', _, h3, _⟩ := hI.a _ h9
              have hb' := ptr_inj hb'; subst hb'
              refine gives_store_spot (.tmp 12) (.tmp 64) ?_ b9 ?_ ?_ (h3 hg) (by simp) HZL.out (fun w' hB hgr => hI.store (by decide) (by simp) h9 hB hgr) <;> first | rfl | exact rfl | (go_simp; done)
            intro v10 G w5 hI hs2
            clear hI hs2 G w5
            (try simp only [Act.put, List.setIfInBounds_toArray, List.set_cons_zero, List.set_cons_succ])
            repeat (first | (with_reducible refine RI.lexL_quiet' (v := ?_) ?_ ?_ ?_ ?_; rotate_left; (· with_reducible rfl); (· decide); (· intro G w1 hI1 hA1; have hw1 := hI1.ext; go_simp; with_reducible rfl); (try simp only [Act.put, List.setIfInBounds_toArray, List.set_cons_zero, List.set_cons_succ])) | (with_reducible refine RI.lexL_skip ?_ ?_; (· simp [Region.wanted, yielded, undef]); (try simp only [Act.put, List.setIfInBounds_toArray, List.set_cons_zero, List.set_cons_succ])) | (with_reducible refine RI.lexL_quiet (v := ?_) ?_ ?_ ?_ ?_; rotate_left; (· simp [Region.wanted, yielded, undef]); (· decide); (· intro G w1 hI1 hA1; have hw1 := hI1.ext; go_simp; with_reducible rfl); (try simp only [Act.put, List.setIfInBounds_toArray, List.set_cons_zero, List.set_cons_succ])))
            with_reducible refine RI.lexL_nil ?_; intro w1 hI1; simp only [List.drop_succ_cons, List.drop_zero]
            obtain ⟨b', hb', _, _, h4⟩ := hI1.a _ rfl
            have hb' := ptr_inj hb'; subst hb'
            have h4 : SpotB w1 b9 t zs := h4 v10 rfl
            have hE4 := hI1.e
            have HU4 := Lib.hid (And.intro (HU9.out.trans hE4) (And.intro h4 (HU9.out.spot hE4 (c := (t, zs)) hb9 h4)))
            clear hI1 h4 hE4 hb9 hs hrg e0 e1 e2 e3 e4 e5
            have hask := HU4.out.1.ask (c := (t, zs)) (okSp_row HX0.out HSP.out)
            have hb9 := HU4.out.2.1
            have hzl := HZL.out
            have HRW2 : Hid (uRow x c S (k + 1) = match (match idxP S1 (t, zs) with | some n => some (S1, ((n : Int), o)) | none => if S1.length = 64 then none else some (S1 ++ [(t, zs)], ((S1.length : Int), o))) with | none => none | some q => some (q.1, row ++ [q.2])) := Lib.hid HRW.out
            have HMORE : Hid (idxP S1 (t, zs) = idxP S1 (t, zs)) := Lib.hid rfl
            obtain ⟨J, hJ⟩ : ∃ J, J = idxP S1 (t, zs) := ⟨_, rfl⟩
            have HJ := Lib.hid hJ
            rw [← hJ] at hask HRW2
            clear hJ HMORE HRW
            have hfl2 : (fl (row ++ [(-1, -1)]) n).length = n := fl_len (by simp; omega)
            cases J with
            | some j =>
              have HR2 : Hid (uRow x c S (k + 1) = some (S1, row ++ [((j : Int), o)])) := Lib.hid HRW2.out
              have hask2 : (Instr.lookup 103 (.map (some bm)) (.agg (spotL t zs).toArray) true).run Tryd.prog w1 = .ok (.tuple #[.int .i64 (j : Int), .bool true]) w1 := hask
              clear hask
              obtain ⟨z0, z1, z2, z3⟩ := HU4.out.1.at_ (i := k) (by omega)
              go_upto_region 23 with (with_reducible refine wpList_load_spot rfl _ rfl b9 rfl hb9 hzl ?_)
              refine wp_named ?_
              intro W10 hW10
              have hU10 := HU4.out.1.edge (i := k) (by omega) (j : Int) o
              rw [← hW10, ← hrw, fl_reset (by omega)] at hU10
              have HU10 := Lib.hid hU10
              clear hW10 hU10 z0 z1 z2 z3 HU4 hb9 hask2
              go_wp2
              refine ⟨⟨k + 1, S1, row ++ [((j : Int), o)], by go_num, hkn, by simp [hrw], hS1, hiS1, ⟨gm, cm, rfl⟩, HR2, HU10⟩, ?_⟩
              simp [intOf]; omega
            | none =>
              have hask2 : (Instr.lookup 103 (.map (some bm)) (.agg (spotL t zs).toArray) true).run Tryd.prog w1 = .ok (.tuple #[.int .i64 0, .bool false]) w1 := hask
              clear hask
              by_cases h64 : S1.length = 64
              · have HRN : Hid (unfR x = none) := Lib.hid (by
                  have h1 : uRow x c S (k + 1) = none := by rw [HRW2.out]; dsimp only; rw [if_pos h64]
                  have h2 := uAll_step HA.out HC.out
                  rw [uRow_none h1 (n := x.ins.toNat) (by have := HN.out; omega)] at h2
                  exact uAll_none h2 (by omega))
                have hg64 : ((S1.length : Int) == 64) = true := by simp; omega
                have HB := Lib.hid (And.intro HU4.out.1.ext HU4.out.1.res)
                clear h64
                go_upto_region 20 with (with_reducible refine wpList_load_spot rfl _ rfl b9 rfl hb9 hzl ?_)
                go_wp2_with (with_reducible refine wpList_store_blk _ rfl 52 _ _ rfl d2 52 _ _ rfl rfl (HB.out).2 (by kernel_rfl) (by kernel_rfl) (by kernel_rfl) ?_; intro w8 h8 g8)
                refine bodyPost_ret (results_cell_tmp2 rfl _ _ d2 52 _ (0, 0) _ (by simp [Act.put]) h8 Tryd.underlying52 rfl (by kernel_rfl)) rfl ?_
                have hE8 := Below.grown HB.out.1 g8 HB.out.1.size (fun k hk => by cases hk; rw [HDW.out]; exact Nat.le_of_lt HD.out.2)
                refine ⟨fun h => absurd HX0.out h, fun _ _ => ⟨rfl, hE8⟩, fun _ S2 rows2 h => ?_⟩
                rw [HRN.out] at h; cases h
              · have hg64 : ((S1.length : Int) == 64) = false := by simp; omega
                have HR2 : Hid (uRow x c S (k + 1) = some (S1 ++ [(t, zs)], row ++ [((S1.length : Int), o)])) := Lib.hid (by rw [HRW2.out]; dsimp only; rw [if_neg h64])
                go_upto_region 21 with (with_reducible refine wpList_load_spot rfl _ rfl b9 rfl hb9 hzl ?_)
                have hlen := HU4.out.1.lv_ (by omega)
                clear hask2 hb9 hfl2 hg64 h64
                obtain ⟨rv, om, vs, hMO, hOW⟩ := HU4.out.2.2
                have HMO := Lib.hid hMO
                have HOW := Lib.hid hOW
                clear hMO hOW
                refine RI.wp_region_inv 7 (I21 w (.slice (some ⟨gm, 0, none⟩) S1.length cm) S1 (t, zs) [.blk b9 (.cells (spotL t zs).toArray 93), .row 83 2 (.slice (some ⟨g, 0, none⟩) n n) n ((fl (row ++ [(-1, -1)]) n).flatMap edgeCells), .rows 84 83 2 rv vs (rows.map eRow), .blk d8 (.cells #[.int .i64 x.ins, .int .i64 x.outs, rv] 52), .blk bm om, .blk d2 zMach, .blk d1 xb]) (fun k => [5, 6].contains k) (fun k => ([[], [], [], [], [], [4], [3, 4, 5], [0, 1, 2, 3, 4, 5, 6], [0, 1, 2, 3, 4, 5, 6, 7]] : List (List Nat)).getD k []) (by kernel_rfl) (by kernel_rfl) ?_ ?_
                rotate_left; simp only [List.take_succ_cons, List.take_zero]; rotate_left
                · exact I21.start (HOW.out.trans (Ext.refl _).drew)
                with_reducible refine RI.lexL_quiet' (v := ?_) ?_ ?_ ?_ ?_; rotate_left; (· with_reducible rfl); (· decide); (· intro G w1 hI1 hA1; have hw1 := hI1.ext; go_simp; with_reducible rfl); (try simp only [Act.put, List.setIfInBounds_toArray, List.set_cons_zero, List.set_cons_succ])
                with_reducible refine RI.lexL_quiet' (v := ?_) ?_ ?_ ?_ ?_; rotate_left; (· with_reducible rfl); (· decide); (· intro G w1 hI hA; (with_reducible refine quiet_load_spot (.tmp 12) ?_ _ ?_ hI.beside hzl) <;> (first | rfl | exact rfl | (go_simp; done) | (simp [Act.eval]; done))); (try simp only [Act.put, List.setIfInBounds_toArray, List.set_cons_zero, List.set_cons_succ])
                with_reducible refine RI.lexL_quiet' (v := ?_) ?_ ?_ ?_ ?_; rotate_left; (· with_reducible rfl); (· decide); (· intro G w1 hI1 hA1; have hw1 := hI1.ext; go_simp; with_reducible rfl); (try simp only [Act.put, List.setIfInBounds_toArray, List.set_cons_zero, List.set_cons_succ])
                with_reducible refine RI.lexL_quiet' (v := ?_) ?_ ?_ ?_ ?_; rotate_left; (· with_reducible rfl); (· decide); (· intro G w1 hI1 hA1; have hw1 := hI1.ext; go_simp; with_reducible rfl); (try simp only [Act.put, List.setIfInBounds_toArray, List.set_cons_zero, List.set_cons_succ])
                with_reducible refine RI.lexL_quiet' (v := ?_) ?_ ?_ ?_ ?_; rotate_left; (· with_reducible rfl); (· decide); (· intro G w1 hI hA; (with_reducible refine quiet_load_spot (.tmp 12) ?_ _ ?_ hI.beside hzl) <;> (first | rfl | exact rfl | (go_simp; done) | (simp [Act.eval]; done))); (try simp only [Act.put, List.setIfInBounds_toArray, List.set_cons_zero, List.set_cons_succ])
                with_reducible refine RI.lexL_give' ?_ ?_ ?_ ?_; (· with_reducible rfl); (· decide)
                · intro G w5 hI hA hg
                  refine gives_lit (.tmp 86) ?_ t zs ?_ hzl (hI.set5 hg) <;> first | rfl | exact rfl | (go_simp; done)
                intro v5 G w5 hI hs2
                obtain ⟨b5, rfl⟩ := hI.p5 v5 (hs2 5 v5 rfl)
                clear hI hs2 G w5
                (try simp only [Act.put, List.setIfInBounds_toArray, List.set_cons_zero, List.set_cons_succ])
                with_reducible refine RI.lexL_give' ?_ ?_ ?_ ?_; (· with_reducible rfl); (· decide)
                · intro G w5 hI hA hg
                  have h5 := hA 5 (by decide) _ rfl
                  refine gives_spot S1 (t, zs) b5 (.slice (some ⟨gm, 0, none⟩) S1.length cm) (.tmp 85) (.tmp 87) ?_ ?_ (hI.row hg) ?_ (hI.blk h5) hzl (by omega) hI.ext.size (fun v' w' h1 h2 h3 => hI.set6 hg h5 h1 h2 h3) <;> first | rfl | exact rfl | (go_simp; done)
                intro v6 G w5 hI hs2
                clear hI hs2 G w5
                (try simp only [Act.put, List.setIfInBounds_toArray, List.set_cons_zero, List.set_cons_succ])
                with_reducible refine RI.lexL_nil ?_; intro w1 hI1; simp only [List.drop_succ_cons, List.drop_zero]
                have hF := hI1.fin rfl
                obtain ⟨gv, cv, rfl⟩ := ownsRow_pos (hF.get 0 rfl) (by omega)
                obtain ⟨w10, hrun, hU10⟩ := UnfRow.more (okSp_row HX0.out HSP.out) HJ.out.symm HMO.out hF
                rename_i wq _
                have HU10 := Lib.hid hU10
                have hlen2 : ((S1.length : Int) + 1) = (((S1 ++ [(t, zs)]).length : Nat) : Int) := by simp
                have h64' : S1.length ≠ 64 := by
                  intro h
                  have h2 := HRW2.out
                  rw [HR2.out] at h2
                  dsimp only at h2
                  rw [if_pos h] at h2; cases h2
                clear hI1 hF hU10
                go_upto_region 22 with fail
                obtain ⟨z0, z1, z2, z3⟩ := HU10.out.at_ (i := k) (by rw [fl_len (by simp; omega)]; exact hkn)
                go_upto_region 23 with fail
                refine wp_named ?_
                intro W10 hW10
                have hU11 := HU10.out.edge (i := k) (by rw [fl_len (by simp; omega)]; exact hkn) (S1.length : Int) o
                rw [← hW10, ← hrw, fl_reset (by omega)] at hU11
                have HU11 := Lib.hid hU11
                clear hW10 hU11 z0 z1 z2 z3 HU4 HU10
                go_wp2
                refine ⟨⟨k + 1, S1 ++ [(t, zs)], row ++ [((S1.length : Int), o)], by go_num, hkn, by simp [hrw], by simp; omega, by simp; omega, ⟨gv, cv, by rw [List.length_append, List.length_singleton]⟩, HR2, HU11⟩, ?_⟩
                simp [intOf]; omega
        · have hke : k = n := by omega
          subst hke
          have hlt2 : ¬ (k : Int) < (k : Int) := by omega
          have hfu := fl_full hrw
          have hU1 := HU1.out
          rw [hfu] at hU1
          obtain ⟨rv, om, vs, hMO, hOW⟩ := hU1
          obtain ⟨hrow, hvl, hb8⟩ := own_rows hOW
          have HOW := Lib.hid (And.intro hMO hOW)
          obtain ⟨Ar, cr, hrv, _, _⟩ := cells_of_owns hrow
          have k82 := cell_of_blk hb8 2 (u := rv) rfl
          have hvi : vs.length = i := by omega
          rw [hvi] at hrv
          subst hrv
          have HVI := Lib.hid hvi
          rw [hvi] at hrow
          clear hvi hvl
          have hi64 : i ≤ 64 := by omega
          obtain ⟨i8, hi8, hz8, hs8, hb9⟩ := info_parts slice_info
          have hws := (OwnL.ext HOW.out.2).size
          have HA2 : Hid (uAll x (i + 1) = some (S1, rows ++ [row])) := Lib.hid (by rw [uAll_step HA.out HC.out, show x.ins.toNat = k by have := HN.out; omega, HR1.out])
          clear hfu hMO hOW HU1
          go_upto_region 24 with fail
          go_upto_region 8 with (at_builtin; refine wpList_append_own2 rfl _ _ 50 rfl w.heap.size 84 i8 (.slice none 0 0) 1 24 Tryd.underlying50 hi8 hz8 hs8 hb9 rfl (by decide) (.slice Ar i cr) i vs rfl (World.ownsRow.alloc hrow _) ⟨W8.heap.size, 0, none⟩ 1 1 [.slice (some ⟨g, 0, none⟩) k k] rfl rfl (new_cell _ _ _ _ rfl) (fun u hu => by simp at hu; subst hu; rfl) (by unfold maxLen; omega) (by omega) (by simp; omega) ?_; intro v8 w8 hown8 hg8 hb88; obtain ⟨gv, cv, rfl⟩ := ownsRow_pos hown8 (by omega); have hp8 := (HOW.out.2.trans (alloc_ext W8 _)).push hg8 (by rw [HVI.out]; exact hown8) hb88; have hb8' := hp8.blkAt 1 rfl; have k82' := cell_of_blk hb8' 2 (u := .slice Ar i cr) rfl; have t82 := free_of_blk hb8' 2)
          have hcl := UnfRow.close HOW.out.1 (HOW.out.2.trans (alloc_ext W8 (.cells #[.slice (some ⟨g, 0, none⟩) k k] 84))) hrw hg8 (by rw [HVI.out]; exact hown8) hb88
          refine wp_named ?_
          intro W11 hW11
          rw [← hW11] at hcl
          have HCL := Lib.hid hcl
          clear hcl hW11 hown8 hg8 hb88 hp8 hb8' k82' t82 hrow hb8 k82
          go_wp2
          refine ⟨⟨i + 1, S1, rows ++ [row], by go_num, by omega, hS1, by simp [hrl], ⟨gm, cm, rfl⟩, HA2, HCL⟩, ?_⟩
          simp [intOf]; omega
    · have hie : i = S.length := by omega
      subst hie
      have hlt2 : ¬ (S.length : Int) < (S.length : Int) := by omega
      have HRF : Hid (unfR x = some (S, rows)) := Lib.hid (uAll_end HA.out (Nat.le_refl _) hS64)
      have HAO := Lib.hid (uAll_ok HX0.out HA.out)
      obtain ⟨rv, om, vs, hMO, hOW⟩ := HU.out
      have h1 := hOW.add (Ext.refl _) (A := .row 34 2 (.slice none 0 0) 0 []) (World.ownsRow_nil _ _ _ _)
      have h2 := h1.add (Ext.refl _) (A := .any (fun _ => False) (CfKnow [] [])) ⟨fun b h => h.elim, fun w' _ i s p hs => by simp at hs⟩
      have HO2 := Lib.hid h2
      clear hMO hOW h1 h2 HU
      go_wp2
      go_loopw [17, 104] (fun cv jv wr => ∃ (j : Nat) (us : List (Int × Value)), jv = .int .i64 j ∧ j ≤ S.length ∧ us.length = j ∧ Hid (∃ F, OwnL w wr (.any F (CfKnow us (S.take j)) :: .row 34 2 cv j (us.flatMap cfCells) :: UL xb d1 d2 d8 bm x.ins x.outs (.slice (some ⟨gl, 0, none⟩) S.length cl) rv om S vs rows))) (fun _ jv _ => S.length - (intOf jv).toNat)
      case atStart => exact ⟨0, [], by first | rfl | simp, Nat.zero_le _, rfl, Lib.hid ⟨_, HO2.out⟩⟩
      case round =>
        clear HO2
        obtain ⟨j, us, rfl, hj, hul, HU⟩ := hrel
        obtain ⟨W7, hW7⟩ : ∃ W, W = wr := ⟨_, rfl⟩; subst hW7
        by_cases hlt : j < S.length
        · have hlI : (j : Int) < (S.length : Int) := by omega
          obtain ⟨c, hc⟩ : ∃ c, S[j]? = some c := ⟨_, List.getElem?_eq_getElem hlt⟩
          have HC := Lib.hid hc
          have HOK := Lib.hid (HAO.out.1.2 c (List.mem_of_getElem? hc))
          obtain ⟨F, hOF⟩ := HU.out
          have hrg : W7.rangeAt gl (j * 17) (spotL c.1 c.2) := range_spot (hOF.get 4 rfl) (fun d hd => (okSp_len (HAO.out.1.2 d hd)).2) hc
          have hcl : c.2.length ≤ 16 := (okSp_len HOK.out).2
          have hif : (Tryd.prog.info? 93).map (·.size) = some (spotL c.1 c.2).length := by rw [spot_info (s := c.1) hcl]; simp
          have hz7 := new_spot W7
          have b1 := hOF.blkAt 7 rfl
          have HOF := Lib.hid hOF
          clear hc hOF
          go_upto_region 29 with (first
            | (with_reducible refine wpList_load_mid rfl 93 _ rfl gl (j * 17) rfl (spotL c.1 c.2) _ hrg Tryd.underlying93 rfl hif ?_)
            | (with_reducible refine wpList_store_spot rfl _ _ rfl W7.heap.size rfl rfl hz7 (by simp) hcl ?_; intro w8 h8 g8))
          have hE8 : Ext W7 w8 := Below.grown (alloc_ext W7 _) g8 (alloc_ext W7 _).size (fun k hk => by cases hk; exact Nat.le_refl _)
          rw [HXB.out] at b1
          have e0 := hE8.cell (cell_of_blk b1 0 (u := .int .i64 x.ins) rfl)
          have e1 := hE8.cell (cell_of_blk b1 1 (u := .int .i64 x.outs) rfl)
          have e2 := hE8.cell (cell_of_blk b1 2 (u := .int .i64 x.states) rfl)
          have e3 := hE8.cell (cell_of_blk b1 3 (u := .slice Av0 x.vars.length c1) rfl)
          have e4 := hE8.cell (cell_of_blk b1 4 (u := .slice As x.start.length c2) rfl)
          have e5 := hE8.cell (cell_of_blk b1 5 (u := .slice Aa x.arcs.length c3) rfl)
          have hcf8 := HCF.out w8 (HOF.out.ext.trans hE8) c HOK.out
          unfold ConfP at hcf8
          have HE8 := Lib.hid hE8
          clear b1 hz7 hrg g8 hE8
          generalize W7.heap.size = b19 at *
          obtain ⟨i4, hi4, hz4, hs4, hb4⟩ := info_parts conf_info
          have hws := HOF.out.ext.size
          have hj64 : j ≤ 64 := by omega
          have HLJ : Hid (us.length = (S.take j).length) := Lib.hid (by rw [List.length_take]; omega)
          obtain ⟨nn, hnn⟩ : ∃ nn, nn = c.2.length := ⟨_, rfl⟩
          go_upto_region 30 with (first
            | (with_reducible refine wpList_load_spot rfl _ rfl b19 rfl h8 hcl ?_)
            | ((with_reducible refine hcf8.mono ?_); rintro e W9 ⟨A9, rfl, hf9, hn9, e9⟩; have hO9 := OwnL.conf (HOF.out.trans HE8.out) HLJ.out e9 hf9 hn9; obtain ⟨F9, hO9⟩ := hO9; have hrow9 := hO9.get 1 rfl; have hws9 := hO9.ext.size)
            | (at_builtin; refine wpList_append_own2 rfl _ _ 53 rfl w.heap.size 34 i4 (.agg #[.int .i64 0, .slice none 0 0]) 2 32 Tryd.underlying53 hi4 hz4 hs4 hb4 rfl (by decide) u17 j (us.flatMap cfCells) rfl (World.ownsRow.alloc hrow9 _) ⟨W9.heap.size, 0, none⟩ 1 1 [.int .i64 c.1, .slice A9 c.2.length c.2.length] rfl rfl (new_cell2 _ _ _ _ _ rfl) (fun u hu => by simp at hu; rcases hu with rfl | rfl <;> rfl) (by unfold maxLen; omega) (by omega) (by simp; omega) ?_; intro v10 w10 hown10 hg10 hb10))
          have hO10 := (hO9.trans (alloc_ext W9 (.cells #[.int .i64 c.1, .slice A9 c.2.length c.2.length] 34))).app 1 rfl hg10 hown10 hb10
          have HO10 : Hid (∃ F, OwnL w w10 (.any F (CfKnow (us ++ [(c.1, Value.slice A9 c.2.length c.2.length)]) (S.take (j + 1))) :: .row 34 2 v10 (j + 1) ((us ++ [(c.1, Value.slice A9 c.2.length c.2.length)]).flatMap cfCells) :: UL xb d1 d2 d8 bm x.ins x.outs (.slice (some ⟨gl, 0, none⟩) S.length cl) rv om S vs rows)) := Lib.hid ⟨F9, by
            have h9 : S.take (j + 1) = S.take j ++ [c] := by rw [List.take_add_one, HC.out]; rfl
            rw [h9, List.flatMap_append, show [(c.1, Value.slice A9 c.2.length c.2.length)].flatMap cfCells = [.int .i64 c.1, .slice A9 c.2.length c.2.length] by simp [cfCells]]
            exact hO10⟩
          clear hO10 hO9 hrow9 hown10 hg10 hb10 hf9 hn9 e9 hcf8 e0 e1 e2 e3 e4 e5
          go_wp2
          refine ⟨⟨j + 1, us ++ [(c.1, Value.slice A9 c.2.length c.2.length)], by go_num, hlt, by simp [hul], HO10⟩, ?_⟩
          simp [intOf]; omega
        · have hje : j = S.length := by omega
          subst hje
          have hlt3 : ¬ (S.length : Int) < (S.length : Int) := by omega
          obtain ⟨F, hOF⟩ := HU.out
          rw [List.take_length] at hOF
          have hRW : OwnRows W7 w.heap.size 84 83 2 rv vs (rows.map eRow) := hOF.get 2 rfl
          obtain ⟨Ar, cr, hrv, hncr, _⟩ := cells_of_owns hRW.own
          have hvl : vs.length = S.length := by rw [hRW.len]; simp; omega
          rw [hvl] at hrv hncr
          subst hrv
          have hrow : W7.ownsRow w.heap.size 34 2 u17 S.length (us.flatMap cfCells) := hOF.get 1 rfl
          obtain ⟨Ac, cc, hcv, hncc, _⟩ := cells_of_owns hrow
          subst hcv
          have hb8 := hOF.blkAt 3 rfl
          have k82 := cell_of_blk hb8 2 (u := .slice Ar S.length cr) rfl
          have t82 := free_of_blk hb8 2
          have hclr := fun W => clipR_any W Ar S.length cr hncr (by omega)
          have hclc := fun W => clipC_any W Ac S.length cc hncc (by omega)
          have HOF := Lib.hid hOF
          have HRL := Lib.hid hrl
          have HUL := Lib.hid hul
          clear hOF HU HA hRW hrow hb8 hvl hrl hul
          go_upto_region 32 with ((with_reducible refine (hclr _).mono ?_); rintro e W8 ⟨rfl, rfl⟩)
          refine wp_named ?_
          intro W8 hW8
          have hO8 := HOF.out.put 3 rfl 2 (.slice Ar S.length S.length)
          rw [← hW8] at hO8
          have hb8 := hO8.blkAt 3 rfl
          have k80 : ∀ w', Ext W8 w' → w'.cell? ⟨d8, 0, none⟩ = some (.int .i64 x.ins) := fun w' h => h.cell (cell_of_blk hb8 0 (u := .int .i64 x.ins) rfl)
          have k81 : ∀ w', Ext W8 w' → w'.cell? ⟨d8, 1, none⟩ = some (.int .i64 x.outs) := fun w' h => h.cell (cell_of_blk hb8 1 (u := .int .i64 x.outs) rfl)
          have k82 : ∀ w', Ext W8 w' → w'.cell? ⟨d8, 2, none⟩ = some (.slice Ar S.length S.length) := fun w' h => h.cell (cell_of_blk hb8 2 (u := .slice Ar S.length S.length) rfl)
          have hR8 := Ext.refl W8
          have HO8 := Lib.hid hO8
          clear hO8 hb8 hW8 t82 hclr HOF
          refine wp_region_ext 3 (factsOf [(2, EqP (.slice Ac S.length S.length))]) (fun k => ([[], [], [1], [0, 1, 2], [0, 1, 2, 3], [0, 1, 2, 3, 4]] : List (List Nat)).getD k []) (by kernel_rfl) (by kernel_rfl) Ext.pre (mono_cons (stays_eqP _) (mono_nil)) ?_
          simp only [List.take_succ_cons, List.take_zero]
          repeat (first | (with_reducible refine lexL_quiet' (v := ?_) ?_ ?_ ?_ ?_; rotate_left; (· with_reducible rfl); (· simp [factsOf]); (· intro w1 hw1 _; go_simp; with_reducible rfl); (try simp only [Act.put, List.setIfInBounds_toArray, List.set_cons_zero, List.set_cons_succ])) | (with_reducible refine lexL_skip ?_ ?_; (· simp [Region.wanted, yielded, undef]); (try simp only [Act.put, List.setIfInBounds_toArray, List.set_cons_zero, List.set_cons_succ])) | (with_reducible refine lexL_quiet (v := ?_) ?_ ?_ ?_ ?_; rotate_left; (· simp [Region.wanted, yielded, undef]); (· simp [factsOf]); (· intro w1 hw1 _; go_simp; with_reducible rfl); (try simp only [Act.put, List.setIfInBounds_toArray, List.set_cons_zero, List.set_cons_succ])))
          with_reducible refine lexL_give' (φ := ?_) ?_ ?_ ?_ ?_; rotate_left; (· with_reducible rfl); (· simp only [factsOf, Nat.reduceAdd, ↓reduceIte, Nat.reduceEqDiff]; rfl)
          · intro w5 hw5 hk5
            go_simp
            refine (hclc w5).mono ?_
            rintro e w6 ⟨rfl, rfl⟩
            exact ⟨_, rfl, Ext.refl _, rfl⟩
          rintro v9 w5 hw5 hv9 hk2
          unfold EqP at hv9
          subst hv9
          clear hk2 hw5 w5
          (try simp only [Act.put, List.setIfInBounds_toArray, List.set_cons_zero, List.set_cons_succ])
          with_reducible refine lexL_nil ?_; intro w1 hw1 hk1; simp only [List.drop_succ_cons, List.drop_zero]
          have HO9 := Lib.hid (HO8.out.trans hw1)
          clear hk1 hw1 k80 k81 k82 hclc
          go_wp2_with (with_reducible refine wpList_store_blk _ rfl 52 _ _ rfl d2 52 _ _ rfl rfl (HO9.out.blkAt 6 rfl) (by kernel_rfl) (by kernel_rfl) (by kernel_rfl) ?_; intro w8 h8 g8)
          refine bodyPost_ret (results_cell_tmp2 rfl _ _ d2 52 _ (0, 0) _ (by simp [Act.put]) h8 Tryd.underlying52 rfl (by kernel_rfl)) rfl ?_
          have hO := HO9.out.step 6 (A' := .blk d2 (.cells #[.int .i64 x.ins, .int .i64 x.outs, .slice Ar S.length S.length] 52)) rfl g8 (fun k hk => by cases hk; exact rfl) ⟨by rw [HDW.out]; exact Nat.le_of_lt HD.out.2, h8⟩ (fun k hk => .inl hk)
          refine ⟨fun h => absurd HX0.out h, fun _ h => (by rw [HRF.out] at h; cases h), fun _ S2 rows2 h => ?_⟩
          rw [HRF.out] at h
          injection h with h
          injection h with h1 h2
          subst h1 h2
          have hn16 := (xtR_ok HX0.out).1
          refine ⟨_, _, rfl, ?_, confs_of (hO.get 1 rfl) rfl HUL.out (hO.know 0 rfl) (by omega), hO.ext⟩
          rw [HRL.out]
          exact rowsC_of (hO.get 2 rfl) HRL.out (by omega) (fun r hr => by have := HAO.out.2.2 r hr; omega)
end Go.Proofs.YtggffdkgfgdaoaaDoor
