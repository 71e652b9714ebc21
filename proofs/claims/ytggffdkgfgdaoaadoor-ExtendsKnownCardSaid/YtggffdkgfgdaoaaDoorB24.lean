/- extends.Conflict 23. -/
import Derived.Test.YtggffdkgfgdaoaaDoorGH
import Derived.Deep.LoopGhost
namespace Go.Proofs.YtggffdkgfgdaoaaDoor
open Go.RowKit Go.Maps
set_option linter.unusedVariables false
set_option linter.unusedSimpArgs false
attribute [local go_sem] Oper.quietV quietV Oper.gives givesV ext_refl_iff ext_alloc_iff ext_drew_iff ext_drewN_iff
theorem results_tmp4 {fn : Func} {t u v z : Tmp} (h : fn.results = #[.tmp t, .tmp u, .tmp v, .tmp z]) (tmps : Array Value) (P : Program) (w : World) :
    (results fn tmps).run P w = .ok (.tuple #[tmps.getD t undef, tmps.getD u undef, tmps.getD v undef, tmps.getD z undef]) w := by
  simp [results, h]
def CflP (w : World) (x : Xt) (e : Ending) (w' : World) : Prop :=
  (xtR x ≠ 0 → e = .returned (.tuple #[.int .i64 0, .int .i64 0, .slice none 0 0, .int .i64 (xtR x)])) ∧
  (xtR x = 0 → 4096 < combR x.vars → e = .returned (.tuple #[.int .i64 0, .int .i64 0, .slice none 0 0, .int .i64 3])) ∧
  (xtR x = 0 → combR x.vars ≤ 4096 → (∃ i k xs A, CfAt x i k xs ∧ e = .returned (.tuple #[.int .i64 (i : Nat), .int .i64 (k : Nat), .slice A xs.length xs.length, .int .i64 0]) ∧ FitC w' (.slice A xs.length xs.length) xs) ∨ (CfNo x ∧ e = .returned (.tuple #[.int .i64 0, .int .i64 0, .slice none 0 0, .int .i64 7]))) ∧ Ext w w'
set_option maxRecDepth 100000 in
set_option maxHeartbeats 64000000 in
theorem conflict_any (w : World) (xv : Value) (x : Xt) (hx : XtV w x xv) (hT : OpsTab w) : Calls Tryd.prog 23 #[xv] w (CflP w x) := by
  have hck := fun W' (e : Ext w W') => extCheck_any W' xv x (hx.ext e) (hT.ext e)
  have htk := fun W' (e : Ext w W') (h : xtR x = 0) a y (hA : ArcV w a y) (ha : a ∈ x.arcs) s (ys : List Int) (hl : ys.length = x.vars.length) => take_any W' xv x a y s ys (hx.ext e) (hA.ext e) (hT.ext e) hl (by rw [hl]; exact varsR_le (valsR_zero (xtR_ok h).2.2.2.2.1).1) (ups_ok h a ha)
  obtain ⟨vv, sv, av, c1, c2, c3, rfl, hvv, hsv, hav⟩ := hx
  have hcb := fun W' (e : Ext w W') (h : xtR x = 0) => comb_any W' vv x.vars c1 (hvv.ext e) (span_ok (valsR_zero (xtR_ok h).2.2.2.2.1).1)
  have hnx := fun W' g (xs : List Int) (e : Ext w W') (h : xtR x = 0) (hg : w.heap.size ≤ g) (hB : IntB W' g xs) (hl : xs.length = x.vars.length) (hs : ∀ x ∈ xs, Small x) => next_any w W' vv x.vars c1 g xs hvv (span_ok (valsR_zero (xtR_ok h).2.2.2.2.1).1) e hg hB hl hs
  obtain ⟨Av0, hvv0, hvv1, hvv2, hvv3, hvv4⟩ := hvv
  obtain ⟨As, hs0, hs1, hs2, hs3⟩ := hsv
  obtain ⟨Aa, as', ha0, hal, hac, has, han, ham⟩ := hav
  subst hvv0 hs0 ha0
  unfold lenMax at hvv3 hs3 ham
  unfold ErrP at hck hcb
  obtain ⟨q, hq⟩ : ∃ q, q = xtR x := ⟨_, rfl⟩
  obtain ⟨cb, hcb0⟩ : ∃ c, c = combR x.vars := ⟨_, rfl⟩
  rw [← hq] at hck
  rw [← hcb0] at hcb
  have HX := Lib.hid (And.intro hac (And.intro has (And.intro hal hvv1)))
  have HTK := Lib.hid htk
  have HCB := Lib.hid hcb
  have HNX := Lib.hid hnx
  have HQ := Lib.hid (And.intro hq hcb0)
  clear hq hcb0 htk hcb hnx hT hvv1 hvv4 hs1 hal hac has
  obtain ⟨xb, hxb⟩ : ∃ o : Obj, o = .cells #[.int .i64 x.ins, .int .i64 x.outs, .int .i64 x.states, .slice Av0 x.vars.length c1, .slice As x.start.length c2, .slice Aa x.arcs.length c3] 31 := ⟨_, rfl⟩
  have HXB := Lib.hid hxb
  clear hxb
  go_enter Tryd.func23, Tryd.ntmps23
  go_upto_region 1 with fail
  refine wp_named ?_
  intro W1 hW1
  have hE1 : Ext w W1 := by rw [hW1]; exact alloc_ext w _
  have hB1 : W1.heap[w.heap.size]? = some xb := by rw [hW1, HXB.out]; exact heap_alloc_new _ _
  have hck1 := hck W1 hE1
  have hld : ∀ W : World, W.heap[w.heap.size]? = some xb → W.heap[w.heap.size]? = some (.cells #[.int .i64 x.ins, .int .i64 x.outs, .int .i64 x.states, .slice Av0 x.vars.length c1, .slice As x.start.length c2, .slice Aa x.arcs.length c3] 31 (0, 0)) := fun W h => by rw [h, HXB.out]
  have hB1' := hld W1 hB1
  have HE1 := Lib.hid (And.intro hE1 hB1)
  have HLD := Lib.hid hld
  clear hW1 hE1 hB1 hck hld
  generalize hd1 : w.heap.size = d1 at *
  have HDW := Lib.hid hd1
  clear hd1
  by_cases hq0 : q = 0
  rotate_left
  · have HR : Hid (xtR x = q ∧ q ≠ 0) := Lib.hid ⟨HQ.out.1.symm, hq0⟩
    have hz2 : (q != 0) = true := bne_iff_ne.2 hq0
    clear hq0
    go_upto_region 3 with (first
      | (with_reducible refine wpList_load_row rfl 31 _ rfl d1 rfl 31 _ (0, 0) _ hB1' Tryd.underlying31 rfl (by kernel_rfl) ?_)
      | ((with_reducible refine hck1.mono ?_); rintro e W2 ⟨rfl, e2'⟩))
    have HE2 := Lib.hid (HE1.out.1.trans e2')
    clear hck1 e2' hB1'
    go_wp2
    refine bodyPost_ret (results_tmp4 rfl _ _ _) rfl ?_
    exact ⟨fun _ => by rw [HR.out.1]; rfl, fun h => absurd (HR.out.1.symm.trans h) HR.out.2, fun h => absurd (HR.out.1.symm.trans h) HR.out.2, HE2.out⟩
  subst hq0
  have HX0 : Hid (xtR x = 0) := Lib.hid HQ.out.1.symm
  go_upto_region 4 with (first
    | (with_reducible refine wpList_load_row rfl 31 _ rfl d1 rfl 31 _ (0, 0) _ hB1' Tryd.underlying31 rfl (by kernel_rfl) ?_)
    | ((with_reducible refine hck1.mono ?_); rintro e W2 ⟨rfl, e2'⟩))
  have HE2 := Lib.hid (And.intro (HE1.out.1.trans e2') (heap_ext e2' HE1.out.2))
  have q3 := cell_of_blk (HLD.out W2 HE2.out.2) 3 (u := .slice Av0 x.vars.length c1) rfl
  have hcb2 := HCB.out W2 HE2.out.1 HX0.out
  clear hck1 e2' hB1' HE1
  by_cases hbig : 4096 < cb
  · have hg : (decide (cb > 4096)) = true := decide_eq_true hbig
    have HR : Hid (4096 < combR x.vars) := Lib.hid (by rw [← HQ.out.2]; exact hbig)
    go_upto_region 5 with ((with_reducible refine hcb2.mono ?_); rintro e W3 ⟨rfl, e3'⟩)
    have HE3 := Lib.hid (HE2.out.1.trans e3')
    clear hcb2 q3 e3'
    go_wp2
    refine bodyPost_ret (results_tmp4 rfl _ _ _) rfl ?_
    exact ⟨fun h => absurd HX0.out h, fun _ _ => rfl, fun _ h => absurd h (by have := HR.out; omega), HE3.out⟩
  have HCR : Hid (combR x.vars ≤ 4096) := Lib.hid (by rw [← HQ.out.2]; omega)
  go_upto_region 6 with ((with_reducible refine hcb2.mono ?_); rintro e W3 ⟨rfl, e3'⟩)
  have HE3 := Lib.hid (And.intro (HE2.out.1.trans e3') (heap_ext e3' HE2.out.2))
  have q5 := cell_of_blk (HLD.out W3 HE3.out.2) 5 (u := .slice Aa x.arcs.length c3) rfl
  clear hcb2 q3 e3' HE2 hbig
  go_wp2
  clear q5
  go_loopw [30] (fun iv wr => ∃ (i : Nat), iv = .int .i64 i ∧ i ≤ x.arcs.length ∧ Hid (∀ i' k' : Nat, i' < i → i' < k' → noC x i' k') ∧ Hid (Ext W3 wr)) (fun iv _ => x.arcs.length - (intOf iv).toNat)
  case atStart => exact ⟨0, by first | rfl | simp, Nat.zero_le _, Lib.hid (fun i' k' h => by omega), Lib.hid (Ext.refl _)⟩
  case round =>
    obtain ⟨i, rfl, hi, HN1, HW⟩ := hrel
    obtain ⟨W5, hW5⟩ : ∃ W, W = wr := ⟨_, rfl⟩; subst hW5
    have HE5 := Lib.hid (And.intro (HE3.out.1.trans HW.out) (heap_ext HW.out HE3.out.2))
    by_cases hlt : i < x.arcs.length
    · have hlI : (i : Int) < (x.arcs.length : Int) := by omega
      obtain ⟨a, ha⟩ : ∃ a, x.arcs[i]? = some a := ⟨_, List.getElem?_eq_getElem hlt⟩
      obtain ⟨bs, os, ya, hA, haya, d0, d1', d2', d3', d4', d5, d6', d7⟩ := arc_at HX.out.2.2.1 HX.out.1 HX.out.2.1 ha
      have hA2 := hA
      subst hA
      have HA := Lib.hid (And.intro ha haya)
      have HTA := Lib.hid (fun W' (e : Ext w W') s ys hl => HTK.out W' e HX0.out a ya haya (List.mem_of_getElem? ha) s ys hl)
      obtain ⟨f1, f2, hg, f4, ⟨cua, hu⟩, f6⟩ := haya
      obtain ⟨Aua, usa, hyu, hul, huc, hus, hun, hum⟩ := hu
      obtain ⟨y1a, y2a, ⟨g1a, g2a, g3a⟩, y4a, y5a, y6a⟩ := ya
      simp only at f1 f2 f4 f6 hyu
      subst hyu f1 f2
      obtain ⟨_, A9a, cs9a, vs9, hq9, hr9⟩ := hg.form
      have hzz : g3a = .slice A9a (a).guard.subs.length cs9a := by
        have h9 := congrArg (fun v => match v with | Value.agg cs => cs[2]? | _ => none) hq9
        simpa [nvVal] using h9
      subst hzz
      clear f4 f6 hg hul huc hus hun hum hq9 hr9 vs9 usa
      unfold avVal at HTA
      dsimp only at *
      obtain ⟨na, hna⟩ : ∃ nl, nl = a.guard.subs.length := ⟨_, rfl⟩
      obtain ⟨ma, hma⟩ : ∃ nu, nu = a.ups.length := ⟨_, rfl⟩
      rw [← hna] at d4' HTA
      rw [← hma] at d6' HTA
      have d0 := HE5.out.1.cell d0
      have d1' := HE5.out.1.cell d1'
      have d2' := HE5.out.1.cell d2'
      have d3' := HE5.out.1.cell d3'
      have d4' := HE5.out.1.cell d4'
      have d5 := HE5.out.1.cell d5
      have d6' := HE5.out.1.cell d6'
      have d7 := HE5.out.1.cell d7
      clear hna hma ha
      clear hA2
      go_upto_region 9 with fail
      refine wp_named ?_
      intro W6 hW6
      have hE56 : Ext W5 W6 := by rw [hW6]; exact alloc_ext _ _
      have hBA : W6.heap[W5.heap.size]? = some (.cells #[.int .i64 a.frm, .int .i64 a.inp, .int .u8 (g1a : Int), .int .i64 g2a, .slice A9a na cs9a, .int .i64 y4a, .slice Aua ma cua, .int .i64 y6a] 71 (0, 0)) := by rw [hW6]; exact heap_alloc_new _ _
      have HE6 := Lib.hid (And.intro (HE5.out.1.trans hE56) (And.intro (heap_ext hE56 HE5.out.2) (And.intro hBA (HW.out.trans hE56))))
      have HD6 : Hid (d1 < W5.heap.size) := Lib.hid (lt_of_block HE5.out.2)
      clear hW6 hE56 hBA d0 d1' d2' d3' d4' d5 d6' d7 HW
      generalize W5.heap.size = b8 at *
      go_wp2
      refine wp_scope_straight ?_
      apply wp_seq_k
      intro K9 hK9
      refine wp_label ?_
      refine hK9 _ _ ?_
      clear hK9
      go_wp2
      go_loopw [9] (fun kv wr => ∃ (k : Nat), kv = .int .i64 k ∧ i < k ∧ k ≤ x.arcs.length ∧ Hid (∀ k' : Nat, i < k' → k' < k → noC x i k') ∧ Hid (Ext W6 wr)) (fun kv _ => x.arcs.length - (intOf kv).toNat)
      case atStart => exact ⟨i + 1, by go_num, by omega, by omega, Lib.hid (fun k' h1 h2 => by omega), Lib.hid (Ext.refl _)⟩
      case round =>
        obtain ⟨k, rfl, hik, hkl, HN2, HW2⟩ := hrel
        obtain ⟨W7, hW7⟩ : ∃ W, W = wr := ⟨_, rfl⟩; subst hW7
        have HE7 := Lib.hid (And.intro (HE6.out.1.trans HW2.out) (And.intro (heap_ext HW2.out HE6.out.2.1) (And.intro (heap_ext HW2.out HE6.out.2.2.1) (HE6.out.2.2.2.trans HW2.out))))
        have q5 := cell_of_blk (HLD.out W7 HE7.out.2.1) 5 (u := .slice (some ⟨bs, os, none⟩) x.arcs.length c3) rfl
        by_cases hkn : k < x.arcs.length
        · have hkI : (k : Int) < (x.arcs.length : Int) := by omega
          obtain ⟨b, hb⟩ : ∃ b, x.arcs[k]? = some b := ⟨_, List.getElem?_eq_getElem hkn⟩
          obtain ⟨bs2, os2, yb, hA, hayb, d0, d1', d2', d3', d4', d5, d6', d7⟩ := arc_at HX.out.2.2.1 HX.out.1 HX.out.2.1 hb
          injection hA with hA
          injection hA with hA1 hA2
          subst hA1 hA2
          have HB := Lib.hid (And.intro hb hayb)
          have HTB := Lib.hid (fun W' (e : Ext w W') s ys hl => HTK.out W' e HX0.out b yb hayb (List.mem_of_getElem? hb) s ys hl)
          obtain ⟨f1, f2, hg, f4, ⟨cub, hu⟩, f6⟩ := hayb
          obtain ⟨Aub, usb, hyu, hul, huc, hus, hun, hum⟩ := hu
          obtain ⟨y1b, y2b, ⟨g1b, g2b, g3b⟩, y4b, y5b, y6b⟩ := yb
          simp only at f1 f2 f4 f6 hyu
          subst hyu f1 f2
          obtain ⟨_, A9b, cs9b, vs9, hq9, hr9⟩ := hg.form
          have hzz : g3b = .slice A9b (b).guard.subs.length cs9b := by
            have h9 := congrArg (fun v => match v with | Value.agg cs => cs[2]? | _ => none) hq9
            simpa [nvVal] using h9
          subst hzz
          clear f4 f6 hg hul huc hus hun hum hq9 hr9 vs9 usb
          unfold avVal at HTB
          dsimp only at *
          obtain ⟨nb, hnb⟩ : ∃ nl, nl = b.guard.subs.length := ⟨_, rfl⟩
          obtain ⟨mb, hmb⟩ : ∃ nu, nu = b.ups.length := ⟨_, rfl⟩
          rw [← hnb] at d4' HTB
          rw [← hmb] at d6' HTB
          have d0 := HE7.out.1.cell d0
          have d1' := HE7.out.1.cell d1'
          have d2' := HE7.out.1.cell d2'
          have d3' := HE7.out.1.cell d3'
          have d4' := HE7.out.1.cell d4'
          have d5 := HE7.out.1.cell d5
          have d6' := HE7.out.1.cell d6'
          have d7 := HE7.out.1.cell d7
          clear hnb hmb hb
          go_upto_region 13 with fail
          refine wp_named ?_
          intro W8 hW8
          have hE78 : Ext W7 W8 := by rw [hW8]; exact alloc_ext _ _
          have hBB : W8.heap[W7.heap.size]? = some (.cells #[.int .i64 b.frm, .int .i64 b.inp, .int .u8 (g1b : Int), .int .i64 g2b, .slice A9b nb cs9b, .int .i64 y4b, .slice Aub mb cub, .int .i64 y6b] 71 (0, 0)) := by rw [hW8]; exact heap_alloc_new _ _
          have HE8 := Lib.hid (And.intro (HE7.out.1.trans hE78) (And.intro (heap_ext hE78 HE7.out.2.1) (And.intro (heap_ext hE78 HE7.out.2.2.1) (And.intro hBB (And.intro (HW2.out.trans hE78) (HE7.out.2.2.2.trans hE78))))))
          have HD8 : Hid (d1 < W7.heap.size ∧ b8 < W7.heap.size) := Lib.hid ⟨lt_of_block HE7.out.2.1, lt_of_block HE7.out.2.2.1⟩
          have r0 := cell_of_blk HE8.out.2.2.1 0 (u := .int .i64 a.frm) rfl
          have r1 := cell_of_blk HE8.out.2.2.1 1 (u := .int .i64 a.inp) rfl
          have s0 := cell_of_blk hBB 0 (u := .int .i64 b.frm) rfl
          have s1 := cell_of_blk hBB 1 (u := .int .i64 b.inp) rfl
          have HPC : Hid (pairC x a b = if b.frm = a.frm ∧ b.inp = a.inp then (domL x.vars).find? (bothT x a b) else none) := Lib.hid rfl
          have HNC : Hid (pairC x a b = none → noC x i k) := Lib.hid (fun h a' b' ha' hb' => by
            have h1 := HA.out.1.symm.trans ha'
            have h2 := HB.out.1.symm.trans hb'
            injection h1 with h1
            injection h2 with h2
            subst h1 h2; exact h)
          clear hW8 hE78 hBB d0 d1' d2' d3' d4' d5 d6' d7 HW2 q5 HE7
          generalize W7.heap.size = b10 at *
          have HN2' : Hid (noC x i k → ∀ k' : Nat, i < k' → k' < k + 1 → noC x i k') := Lib.hid (fun h k' h1 h2 => by
            by_cases hk' : k' = k
            · subst hk'; exact h
            · exact HN2.out k' h1 (by omega))
          by_cases gf : b.frm = a.frm
          rotate_left
          · have gf2 : (b.frm != a.frm) = true := bne_iff_ne.2 gf
            have HNO : Hid (noC x i k) := Lib.hid (HNC.out (by rw [HPC.out, if_neg (fun h => gf h.1)]))
            clear gf
            go_wp2
            refine ⟨⟨k + 1, by go_num, by omega, hkn, Lib.hid (HN2'.out HNO.out), Lib.hid HE8.out.2.2.2.2.1⟩, ?_⟩
            simp [intOf]; omega
          have gf2 : (b.frm != a.frm) = false := bne_eq_false_iff_eq.2 gf
          have GF := Lib.hid gf
          clear gf
          by_cases gi : b.inp = a.inp
          rotate_left
          · have gi2 : (b.inp != a.inp) = true := bne_iff_ne.2 gi
            have HNO : Hid (noC x i k) := Lib.hid (HNC.out (by rw [HPC.out, if_neg (fun h => gi h.2)]))
            clear gi
            go_wp2
            refine ⟨⟨k + 1, by go_num, by omega, hkn, Lib.hid (HN2'.out HNO.out), Lib.hid HE8.out.2.2.2.2.1⟩, ?_⟩
            simp [intOf]; omega
          have gi2 : (b.inp != a.inp) = false := bne_eq_false_iff_eq.2 gi
          have HPC : Hid (pairC x a b = (domL x.vars).find? (bothT x a b)) := Lib.hid (by rw [HPC.out, if_pos ⟨GF.out, gi⟩])
          clear gi
          have hvs : x.vars.length ≤ 16 := varsR_le (valsR_zero (xtR_ok HX0.out).2.2.2.2.1).1
          have HSP := Lib.hid (span_ok (valsR_zero (xtR_ok HX0.out).2.2.2.2.1).1)
          have hmk := mk_ints x.vars.length (by omega)
          have q3 := cell_of_blk (HLD.out W8 HE8.out.2.1) 3 (u := .slice Av0 x.vars.length c1) rfl
          go_upto_region 15 with fail
          refine wp_named ?_
          intro W9 hW9
          have hE89 : Ext W8 W9 := by rw [hW9]; exact alloc_ext _ _
          have hIB : IntB W9 W8.heap.size (List.replicate x.vars.length 0) := by
            unfold IntB
            rw [hW9, List.map_replicate, List.toArray_replicate]
            exact heap_alloc_new _ _
          have HE9 := Lib.hid (And.intro hE89 hIB)
          have HDG : Hid (w.heap.size ≤ W8.heap.size ∧ d1 ≠ W8.heap.size ∧ b8 ≠ W8.heap.size ∧ b10 ≠ W8.heap.size) := Lib.hid ⟨HE8.out.1.size, Nat.ne_of_lt (lt_of_block HE8.out.2.1), Nat.ne_of_lt (lt_of_block HE8.out.2.2.1), Nat.ne_of_lt (lt_of_block HE8.out.2.2.2.1)⟩
          have HE8G : Hid (∀ W, W9.grownBy W (some W8.heap.size) → Ext W8 W) := Lib.hid (fun W h => Below.grown hE89 h hE89.size (fun k hk => by cases hk; exact Nat.le_refl _))
          clear hW9 hE89 hIB hmk q3 r0 r1 s0 s1
          generalize W8.heap.size = g at *
          go_wp2
          go_loopw [67] (fun jv wr => ∃ (j : Nat) (L : List Int), jv = .int .i64 j ∧ j ≤ x.vars.length ∧ L.length = x.vars.length ∧ Hid (L.take j = (x.vars.map (·.2.1)).take j) ∧ Hid (IntB wr g L ∧ W9.grownBy wr (some g))) (fun jv _ => x.vars.length - (intOf jv).toNat)
          case atStart => exact ⟨0, List.replicate x.vars.length 0, by first | rfl | simp, Nat.zero_le _, by simp, Lib.hid (by simp), Lib.hid ⟨HE9.out.2, grown_of_ext (Ext.refl _) _⟩⟩
          case round =>
            obtain ⟨j, L, rfl, hj, hLl, HL, HWJ⟩ := hrel
            obtain ⟨W10, hW10⟩ : ∃ W, W = wr := ⟨_, rfl⟩; subst hW10
            have HE10 := Lib.hid (HE8G.out W10 HWJ.out.2)
            by_cases hjn : j < x.vars.length
            · have hjI : (j : Int) < (x.vars.length : Int) := by omega
              obtain ⟨⟨nm, lo, hi2⟩, hv⟩ : ∃ v, x.vars[j]? = some v := ⟨_, List.getElem?_eq_getElem hjn⟩
              obtain ⟨bv, ov, hAv, v0, v1, v2⟩ := var_at HX.out.2.2.2 hv
              subst hAv
              dsimp only at v1
              have v1 := (HE8.out.1.trans HE10.out).cell v1
              have q3 := HE10.out.cell (cell_of_blk (HLD.out W8 HE8.out.2.1) 3 (u := .slice (some ⟨bv, ov, none⟩) x.vars.length c1) rfl)
              have sg := HWJ.out.1.cell (i := j) (by omega)
              have tg := free_of_blk HWJ.out.1 j
              have HL2 : Hid ((L.set j lo).take (j + 1) = (x.vars.map (·.2.1)).take (j + 1)) := Lib.hid (by
                rw [take_set_next L j lo (by omega), HL.out, List.take_add_one, List.getElem?_map, hv]; rfl)
              clear v0 v2 hv
              go_wp2
              refine ⟨⟨j + 1, L.set j lo, by go_num, hjn, by rw [List.length_set]; exact hLl, HL2, Lib.hid ⟨HWJ.out.1.set j lo, grown_trans HWJ.out.2 (grown_setK W10 g j _)⟩⟩, ?_⟩
              simp [intOf]; omega
            · have hje : j = x.vars.length := by omega
              subst hje
              have hlt3 : ¬ (x.vars.length : Int) < (x.vars.length : Int) := by omega
              have HLL : Hid (L = x.vars.map (·.2.1)) := Lib.hid (by
                have h := HL.out
                rw [List.take_of_length_le (by omega), List.take_of_length_le (by simp)] at h; exact h)
              have HWL : Hid (IntB W10 g (x.vars.map (·.2.1)) ∧ W9.grownBy W10 (some g)) := Lib.hid (by rw [← HLL.out]; exact HWJ.out)
              have HDF := Lib.hid (dom_first x.vars HSP.out)
              clear HWJ HE10 hLl HL HLL
              go_wp2
              go_loopg [] ((domL x.vars).length) (fun gk wr => ∃ (j : Nat) (xs : List Int), gk = (domL x.vars).length - j ∧ Hid ((domL x.vars)[j]? = some xs) ∧ Hid (∀ j' < j, ∀ y, (domL x.vars)[j']? = some y → bothT x a b y = false) ∧ Hid (IntB wr g xs ∧ W9.grownBy wr (some g)))
              case atStart => exact ⟨0, _, rfl, HDF, Lib.hid (fun j' h => by omega), HWL⟩
              case round =>
                clear HWL HDF
                obtain ⟨j, xs, hgk, HJ, HJ1, HW4⟩ := hrel
                obtain ⟨W11, hW11⟩ : ∃ W, W = wr := ⟨_, rfl⟩; subst hW11
                have HE10 := Lib.hid (HE8G.out W11 HW4.out.2)
                have hxl := (dom_next x.vars HSP.out j xs HJ.out).1
                have hxl16 : xs.length ≤ 16 := by omega
                have HXS := Lib.hid (dom_small x.vars HSP.out xs (List.mem_of_getElem? HJ.out))
                have r0 := cell_of_blk (heap_ext HE10.out HE8.out.2.2.1) 0 (u := .int .i64 a.frm) rfl
                have hpl := place_any W11 a.frm _ xs xs.length (HW4.out.1.fit (by omega)) hxl16
                unfold SpotP at hpl
                rw [hxl] at hpl
                go_upto_region 21 with (first
                  | ((with_reducible refine hpl.mono ?_); rintro e W12 ⟨rfl, e12⟩; have hz12 := new_spot W12)
                  | (with_reducible refine wpList_store_spot rfl _ _ rfl W12.heap.size rfl rfl hz12 (by simp) hxl16 ?_; intro w13 h13 g13))
                have hE13 : Ext W11 w13 := e12.trans (Below.grown (alloc_ext W12 _) g13 (alloc_ext W12 _).size (fun k hk => by cases hk; exact Nat.le_refl _))
                have HE13 := Lib.hid hE13
                clear hpl hz12 g13 e12 hE13 r0
                generalize W12.heap.size = b13 at *
                have hb1 := HLD.out w13 (heap_ext (HE10.out.trans HE13.out) HE8.out.2.1)
                have hb8 := heap_ext (HE10.out.trans HE13.out) HE8.out.2.2.1
                have hta := HTA.out w13 (HE8.out.1.trans (HE10.out.trans HE13.out)) a.frm xs hxl
                have HBD : Hid (bothT x a b xs = ((takeV x a a.frm xs).2.2 && (takeV x b a.frm xs).2.2)) := Lib.hid rfl
                have HVL := Lib.hid (takeV_len x a a.frm xs)
                obtain ⟨⟨t1, z1, v1⟩, hv1⟩ : ∃ r, r = takeV x a a.frm xs := ⟨_, rfl⟩
                rw [← hv1] at hta HBD HVL
                unfold TakeP at hta
                dsimp only at hta
                have hz1 : z1.length ≤ 16 := by have h : z1.length = xs.length := HVL.out; omega
                clear hv1
                go_upto_region 22 with (first
                  | (with_reducible refine wpList_load_row rfl 31 _ rfl d1 rfl 31 _ (0, 0) _ hb1 Tryd.underlying31 rfl (by kernel_rfl) ?_)
                  | (with_reducible refine wpList_load_row rfl 71 _ rfl b8 rfl 71 _ (0, 0) _ hb8 Tryd.underlying71 rfl (by kernel_rfl) ?_)
                  | (with_reducible refine wpList_load_spot rfl _ rfl b13 rfl h13 hxl16 ?_)
                  | ((with_reducible refine hta.mono ?_); rintro e W14 ⟨rfl, e14⟩; have hz14 := new_spot W14)
                  | (with_reducible refine wpList_store_spot rfl _ _ rfl W14.heap.size rfl rfl hz14 (by simp) hz1 ?_; intro w15 h15 g15))
                have hE15 : Ext w13 w15 := e14.trans (Below.grown (alloc_ext W14 _) g15 (alloc_ext W14 _).size (fun k hk => by cases hk; exact Nat.le_refl _))
                have HE15 := Lib.hid hE15
                clear hta hz14 g15 h15 e14 hE15 hb1 hb8
                generalize W14.heap.size = b14 at *
                cases v1 with
                | false =>
                  have HBT : Hid (bothT x a b xs = false) := Lib.hid (by rw [HBD.out]; rfl)
                  clear h13
                  go_upto_region 26 with fail
                  have HEW := Lib.hid (And.intro (HE10.out.trans (HE13.out.trans HE15.out)) (And.intro (HW4.out.1.ext (HE13.out.trans HE15.out)) (grown_trans HW4.out.2 (grown_of_ext (HE13.out.trans HE15.out) _))))
                  have q3 := cell_of_blk (HLD.out w15 (heap_ext HEW.out.1 HE8.out.2.1)) 3 (u := .slice Av0 x.vars.length c1) rfl
                  have hn := HNX.out w15 g xs (HE8.out.1.trans HEW.out.1) HX0.out (by rw [← HDW.out]; exact HDG.out.1) HEW.out.2.1 hxl HXS.out
                  unfold NextP at hn
                  have HJ2 : Hid (∀ j' < j + 1, ∀ y, (domL x.vars)[j']? = some y → bothT x a b y = false) := Lib.hid (fun j' hj' y hy => by
                    by_cases hjj : j' = j
                    · subst hjj
                      have h1 := HJ.out.symm.trans hy
                      injection h1 with h1
                      rw [← h1]; exact HBT.out
                    · exact HJ1.out j' (by omega) y hy)
                  obtain ⟨⟨zs, zb⟩, hzz⟩ : ∃ r, r = nextV x.vars xs := ⟨_, rfl⟩
                  rw [← hzz] at hn
                  dsimp only at hn
                  rw [hxl] at hn
                  have HZ := Lib.hid hzz
                  clear hzz
                  cases zb with
                  | true =>
                    have HD2 : Hid ((domL x.vars)[j + 1]? = some zs) := Lib.hid (by
                      cases hq : (domL x.vars)[j + 1]? with
                      | none =>
                        have h1 := (dom_next x.vars HSP.out j xs HJ.out).2.2 hq
                        rw [← HZ.out] at h1; cases h1
                      | some ys =>
                        have h1 := (dom_next x.vars HSP.out j xs HJ.out).2.1 ys hq
                        rw [← HZ.out] at h1
                        injection h1 with h1 _
                        rw [h1])
                    have hjl := (List.getElem?_eq_some_iff.1 HD2.out).1
                    have HJL := Lib.hid hjl
                    clear hjl
                    go_wp2_with ((with_reducible refine hn.mono ?_); rintro e W20 ⟨rfl, hi20, hg20⟩; have HW20 := Lib.hid (And.intro hi20 (grown_trans HEW.out.2.2 hg20)); clear hi20 hg20)
                    go_roundg ((domL x.vars).length - (j + 1))
                    case rel => exact ⟨j + 1, zs, rfl, HD2, HJ2, HW20⟩
                    case measure => have := HJL.out; omega
                  | false =>
                    have HNO : Hid (noC x i k) := Lib.hid (HNC.out (by
                      rw [HPC.out]
                      refine find_no (fun j' y hy => ?_)
                      by_cases hjj : j' < j + 1
                      · exact HJ2.out j' hjj y hy
                      · have hlen : (domL x.vars)[j + 1]? = none := by
                          cases hq : (domL x.vars)[j + 1]? with
                          | none => rfl
                          | some ys =>
                            have h1 := (dom_next x.vars HSP.out j xs HJ.out).2.1 ys hq
                            rw [← HZ.out] at h1; cases h1
                        rw [List.getElem?_eq_none_iff] at hlen
                        have := (List.getElem?_eq_some_iff.1 hy).1
                        omega))
                    go_wp2_with ((with_reducible refine hn.mono ?_); rintro e W20 ⟨rfl, hi20, hg20⟩; have HW20 := Lib.hid (HE8.out.2.2.2.2.1.trans (HE8G.out W20 (grown_trans HEW.out.2.2 hg20))); clear hi20 hg20)
                    refine ⟨⟨k + 1, by go_num, by omega, hkn, Lib.hid (HN2'.out HNO.out), HW20⟩, ?_⟩
                    simp [intOf]; omega
                | true =>
                  have hb1 := HLD.out w15 (heap_ext (HE10.out.trans (HE13.out.trans HE15.out)) HE8.out.2.1)
                  have hb10 := heap_ext (HE10.out.trans (HE13.out.trans HE15.out)) HE8.out.2.2.2.1
                  have h13 := SpotB.ext h13 HE15.out
                  have htb := HTB.out w15 (HE8.out.1.trans (HE10.out.trans (HE13.out.trans HE15.out))) a.frm xs hxl
                  have HVL := Lib.hid (takeV_len x b a.frm xs)
                  obtain ⟨⟨t2, z2, v2⟩, hv2⟩ : ∃ r, r = takeV x b a.frm xs := ⟨_, rfl⟩
                  rw [← hv2] at htb HBD HVL
                  unfold TakeP at htb
                  dsimp only at htb
                  have hz2 : z2.length ≤ 16 := by have h : z2.length = xs.length := HVL.out; omega
                  clear hv2
                  go_upto_region 24 with (first
                    | (with_reducible refine wpList_load_row rfl 31 _ rfl d1 rfl 31 _ (0, 0) _ hb1 Tryd.underlying31 rfl (by kernel_rfl) ?_)
                    | (with_reducible refine wpList_load_row rfl 71 _ rfl b10 rfl 71 _ (0, 0) _ hb10 Tryd.underlying71 rfl (by kernel_rfl) ?_)
                    | (with_reducible refine wpList_load_spot rfl _ rfl b13 rfl h13 hxl16 ?_)
                    | ((with_reducible refine htb.mono ?_); rintro e W16 ⟨rfl, e16⟩; have hz16 := new_spot W16)
                    | (with_reducible refine wpList_store_spot rfl _ _ rfl W16.heap.size rfl rfl hz16 (by simp) hz2 ?_; intro w17 h17 g17))
                  have hE17 : Ext w15 w17 := e16.trans (Below.grown (alloc_ext W16 _) g17 (alloc_ext W16 _).size (fun k hk => by cases hk; exact Nat.le_refl _))
                  have HE17 := Lib.hid hE17
                  clear htb hz16 g17 h17 e16 hE17 hb1 hb10 h13
                  generalize W16.heap.size = b16 at *
                  cases v2 with
                  | false =>
                    have HBT : Hid (bothT x a b xs = false) := Lib.hid (by rw [HBD.out]; rfl)
                    go_upto_region 26 with fail
                    have HEW := Lib.hid (And.intro (HE10.out.trans (HE13.out.trans (HE15.out.trans HE17.out))) (And.intro (HW4.out.1.ext (HE13.out.trans (HE15.out.trans HE17.out))) (grown_trans HW4.out.2 (grown_of_ext (HE13.out.trans (HE15.out.trans HE17.out)) _))))
                    have q3 := cell_of_blk (HLD.out w17 (heap_ext HEW.out.1 HE8.out.2.1)) 3 (u := .slice Av0 x.vars.length c1) rfl
                    have hn := HNX.out w17 g xs (HE8.out.1.trans HEW.out.1) HX0.out (by rw [← HDW.out]; exact HDG.out.1) HEW.out.2.1 hxl HXS.out
                    unfold NextP at hn
                    have HJ2 : Hid (∀ j' < j + 1, ∀ y, (domL x.vars)[j']? = some y → bothT x a b y = false) := Lib.hid (fun j' hj' y hy => by
                      by_cases hjj : j' = j
                      · subst hjj
                        have h1 := HJ.out.symm.trans hy
                        injection h1 with h1
                        rw [← h1]; exact HBT.out
                      · exact HJ1.out j' (by omega) y hy)
                    obtain ⟨⟨zs, zb⟩, hzz⟩ : ∃ r, r = nextV x.vars xs := ⟨_, rfl⟩
                    rw [← hzz] at hn
                    dsimp only at hn
                    rw [hxl] at hn
                    have HZ := Lib.hid hzz
                    clear hzz
                    cases zb with
                    | true =>
                      have HD2 : Hid ((domL x.vars)[j + 1]? = some zs) := Lib.hid (by
                        cases hq : (domL x.vars)[j + 1]? with
                        | none =>
                          have h1 := (dom_next x.vars HSP.out j xs HJ.out).2.2 hq
                          rw [← HZ.out] at h1; cases h1
                        | some ys =>
                          have h1 := (dom_next x.vars HSP.out j xs HJ.out).2.1 ys hq
                          rw [← HZ.out] at h1
                          injection h1 with h1 _
                          rw [h1])
                      have hjl := (List.getElem?_eq_some_iff.1 HD2.out).1
                      have HJL := Lib.hid hjl
                      clear hjl
                      go_wp2_with ((with_reducible refine hn.mono ?_); rintro e W20 ⟨rfl, hi20, hg20⟩; have HW20 := Lib.hid (And.intro hi20 (grown_trans HEW.out.2.2 hg20)); clear hi20 hg20)
                      go_roundg ((domL x.vars).length - (j + 1))
                      case rel => exact ⟨j + 1, zs, rfl, HD2, HJ2, HW20⟩
                      case measure => have := HJL.out; omega
                    | false =>
                      have HNO : Hid (noC x i k) := Lib.hid (HNC.out (by
                        rw [HPC.out]
                        refine find_no (fun j' y hy => ?_)
                        by_cases hjj : j' < j + 1
                        · exact HJ2.out j' hjj y hy
                        · have hlen : (domL x.vars)[j + 1]? = none := by
                            cases hq : (domL x.vars)[j + 1]? with
                            | none => rfl
                            | some ys =>
                              have h1 := (dom_next x.vars HSP.out j xs HJ.out).2.1 ys hq
                              rw [← HZ.out] at h1; cases h1
                          rw [List.getElem?_eq_none_iff] at hlen
                          have := (List.getElem?_eq_some_iff.1 hy).1
                          omega))
                      go_wp2_with ((with_reducible refine hn.mono ?_); rintro e W20 ⟨rfl, hi20, hg20⟩; have HW20 := Lib.hid (HE8.out.2.2.2.2.1.trans (HE8G.out W20 (grown_trans HEW.out.2.2 hg20))); clear hi20 hg20)
                      refine ⟨⟨k + 1, by go_num, by omega, hkn, Lib.hid (HN2'.out HNO.out), HW20⟩, ?_⟩
                      simp [intOf]; omega
                  | true =>
                    have HBT : Hid (bothT x a b xs = true) := Lib.hid (by rw [HBD.out]; rfl)
                    have HCA : Hid (CfAt x i k xs) := Lib.hid ⟨hik, ⟨a, b, HA.out.1, HB.out.1, by rw [HPC.out]; exact find_at HJ1.out HJ.out HBT.out⟩, fun i' k' h1 h2 => by
                      rcases h2 with h2 | ⟨h2, h3⟩
                      · exact HN1.out i' k' h2 h1
                      · subst h2; exact HN2.out k' h1 h3⟩
                    have HFI := Lib.hid (IntB.fit (HW4.out.1.ext (HE13.out.trans (HE15.out.trans HE17.out))) (by omega))
                    have HEF := Lib.hid (HE8.out.1.trans (HE10.out.trans (HE13.out.trans (HE15.out.trans HE17.out))))
                    have HXL := Lib.hid hxl
                    go_wp2
                    refine bodyPost_ret (results_tmp4 rfl _ _ _) rfl ?_
                    refine ⟨fun h => absurd HX0.out h, fun _ h => absurd h (by have := HCR.out; omega), fun _ _ => .inl ⟨i, k, xs, some ⟨g, 0, none⟩, HCA.out, ?_, HFI.out⟩, HEF.out⟩
                    rw [HXL.out]; rfl
        · have hke : k = x.arcs.length := by omega
          subst hke
          have hlt3 : ¬ (x.arcs.length : Int) < (x.arcs.length : Int) := by omega
          have HN3 : Hid (∀ i' k' : Nat, i' < i + 1 → i' < k' → noC x i' k') := Lib.hid (fun i' k' h1 h2 => by
            by_cases h3 : i' = i
            · subst h3
              by_cases h4 : k' < x.arcs.length
              · exact HN2.out k' h2 h4
              · exact noC_far (by omega)
            · exact HN1.out i' k' (by omega) h2)
          go_wp2
          refine ⟨⟨i + 1, by go_num, hlt, HN3, Lib.hid HE7.out.2.2.2⟩, ?_⟩
          simp [intOf]; omega
    · have hie : i = x.arcs.length := by omega
      subst hie
      have hlt2 : ¬ (x.arcs.length : Int) < (x.arcs.length : Int) := by omega
      have HCN : Hid (CfNo x) := Lib.hid (fun i' k' h => by
        by_cases h1 : i' < x.arcs.length
        · exact HN1.out i' k' h1 h
        · exact noC_far (by omega))
      go_wp2
      refine bodyPost_ret (results_tmp4 rfl _ _ _) rfl ?_
      exact ⟨fun h => absurd HX0.out h, fun _ h => absurd h (by have := HCR.out; omega), fun _ _ => .inr ⟨HCN.out, rfl⟩, HE5.out.1⟩
end Go.Proofs.YtggffdkgfgdaoaaDoor
