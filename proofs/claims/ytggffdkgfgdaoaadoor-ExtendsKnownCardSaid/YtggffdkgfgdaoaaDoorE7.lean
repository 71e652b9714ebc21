/- ref29.Step 13. -/
import Derived.Test.YtggffdkgfgdaoaaDoorE6
import Derived.Test.YtggffdkgfgdaoaaDoorGF
namespace Go.Proofs.YtggffdkgfgdaoaaDoor
open Go.RowKit Go.Maps
set_option linter.unusedVariables false
set_option linter.unusedSimpArgs false
attribute [local go_sem] Oper.quietV quietV Oper.gives givesV ext_refl_iff ext_alloc_iff ext_drew_iff ext_drewN_iff
attribute [local go_sem] RI.Oper.gives RI.givesV
structure StI (k d : Nat) (cells : Array Value) (W : World) (G : Vals) (w : World) : Prop where
  g : W.grownBy w (some d)
  old : G k = none → w.heap[d]? = some (.cells #[.int .i64 0, .slice none 0 0] 34 (0, 0))
  new : ∀ u, G k = some u → w.heap[d]? = some (.cells cells 34 (0, 0))
theorem StI.ext {k d : Nat} {cells : Array Value} {W : World} {G : Vals} {w : World} (h : StI k d cells W G w) : W.grownBy w (some d) := h.g
theorem StI.start {k d : Nat} {cells : Array Value} {W w : World} (e : Ext W w) (h : W.heap[d]? = some (.cells #[.int .i64 0, .slice none 0 0] 34 (0, 0))) : StI k d cells W (fun _ => none) w := ⟨grown_of_ext e _, fun _ => heap_ext e h, fun u h => (by cases h)⟩
theorem StI.store {k d : Nat} {cells : Array Value} {W w w' : World} {G : Vals} (h : StI k d cells W G w) {u : Value} (hB : w'.heap[d]? = some (.cells cells 34 (0, 0))) (hg : w.grownBy w' (some d)) : StI k d cells W (G.put k u) w' :=
  ⟨grown_trans h.g hg, fun hk => (by rw [put_eq] at hk; cases hk), fun _ _ => hB⟩
/-- What Step hands back, told in one form. -/
def stT : Option (Int × List Int × Int) → Int × List Int × Int × Int
  | some q => (q.1, q.2.1, q.2.2, 1)
  | none => (0, [], -1, 0)
def StQ (w : World) (q : Int × List Int × Int × Int) (e : Ending) (w' : World) : Prop := ∃ A c, e = .returned (.tuple #[.agg #[.int .i64 q.1, .slice A q.2.1.length c], .int .i64 q.2.2.1, .int .i64 q.2.2.2]) ∧ IntsC w' (.slice A q.2.1.length c) q.2.1 c ∧ NewA w.heap.size A q.2.1 ∧ Ext w w'
def tp2 (can : Int) (g : Value) : Value := .tuple #[g, .int .i64 can]
theorem tp2_inj {can : Int} : ∀ g g', tp2 can g = tp2 can g' → g = g' := fun g g' h => by unfold tp2 at h; injection h with h; simpa using h
theorem alloc3_2z (w : World) (A B C : Obj) : (((w.alloc A).alloc B).alloc C).heap[w.heap.size + 1 + 1]? = some C := by
  have h := heap_alloc_new ((w.alloc A).alloc B) C
  simpa using h
set_option maxRecDepth 100000 in
set_option maxHeartbeats 16000000 in
theorem refStep_any (w : World) (xv : Value) (x : Xt) (s : Int) (ys : List Int) (yv : Value) (cy : Nat) (inp : Int) (hx : XtV w x xv) (hy : IntsC w yv ys cy) (hx0 : xtR x = 0) (hv0 : valsR x.vars ys = 0) : Calls Tryd.prog 13 #[xv, .agg #[.int .i64 s, yv], .int .i64 inp] w (StQ w (stT (stepR x s ys inp))) := by
  obtain ⟨r, hr⟩ : ∃ r, r = stepR x s ys inp := ⟨_, rfl⟩
  rw [← hr]
  unfold stepR at hr
  have HST := Lib.hid (fun i a (h : x.arcs[i]? = some a) => (stepL_drop (x := x) (s := s) (ys := ys) (inp := inp) h).trans (by rw [takeR_valid ((xtR_ok hx0).2.2.2.2.2.2.2.2 a (List.mem_of_getElem? h)) hv0]))
  have HTK := Lib.hid (fun W' (e : Ext w W') i a y (h : x.arcs[i]? = some a) (hA : ArcV w a y) => refTake_of W' xv x a y s ys yv cy (hx.ext e) (hA.ext e) (hy.ext e) hv0 ((xtR_ok hx0).2.2.2.2.2.2.2.2 a (List.mem_of_getElem? h)))
  have h256 := (xtR_ok hx0).2.2.2.1
  obtain ⟨vv, sv, av, c1, c2, c3, rfl, hvv, hsv, hav⟩ := hx
  obtain ⟨Av0, rfl, _⟩ := hvv
  obtain ⟨As, rfl, _⟩ := hsv
  obtain ⟨Aa, as', rfl, hal, hac, has, han, ham⟩ := hav
  obtain ⟨Ay, rfl, _⟩ := hy
  have HX := Lib.hid (And.intro hal (And.intro hac has))
  have HR0 := Lib.hid hr
  clear hr hal hac has hx0 hv0
  generalize x.arcs = arcs at *
  go_enter Tryd.func13, Tryd.ntmps13
  go_upto_region 1 with fail
  refine wp_named ?_
  intro W1 hW1
  have hE1 : Ext w W1 := by rw [hW1]; exact ((alloc_ext w _).trans (alloc_ext _ _)).trans (alloc_ext _ _)
  have hB6 : W1.heap[w.heap.size + 1 + 1]? = some (.cells #[.int .i64 0, .slice none 0 0] 34 (0, 0)) := by rw [hW1]; exact alloc3_2z _ _ _ _
  have e0 : ∀ w', Ext W1 w' → w'.cell? ⟨w.heap.size, 0, none⟩ = some (.int .i64 x.ins) := fun w' h => h.cell (by rw [hW1]; simp [go_sem])
  have e1 : ∀ w', Ext W1 w' → w'.cell? ⟨w.heap.size, 1, none⟩ = some (.int .i64 x.outs) := fun w' h => h.cell (by rw [hW1]; simp [go_sem])
  have e2 : ∀ w', Ext W1 w' → w'.cell? ⟨w.heap.size, 2, none⟩ = some (.int .i64 x.states) := fun w' h => h.cell (by rw [hW1]; simp [go_sem])
  have e3 : ∀ w', Ext W1 w' → w'.cell? ⟨w.heap.size, 3, none⟩ = some (.slice Av0 x.vars.length c1) := fun w' h => h.cell (by rw [hW1]; simp [go_sem])
  have e4 : ∀ w', Ext W1 w' → w'.cell? ⟨w.heap.size, 4, none⟩ = some (.slice As x.start.length c2) := fun w' h => h.cell (by rw [hW1]; simp [go_sem])
  have e5 : ∀ w', Ext W1 w' → w'.cell? ⟨w.heap.size, 5, none⟩ = some (.slice Aa arcs.length c3) := fun w' h => h.cell (by rw [hW1]; simp [go_sem])
  have s0 : ∀ w', Ext W1 w' → w'.cell? ⟨w.heap.size + 1, 0, none⟩ = some (.int .i64 s) := fun w' h => h.cell (by rw [hW1]; simp [go_sem])
  have s1 : ∀ w', Ext W1 w' → w'.cell? ⟨w.heap.size + 1, 1, none⟩ = some (.slice Ay ys.length cy) := fun w' h => h.cell (by rw [hW1]; simp [go_sem])
  have HD : Hid (w.heap.size ≤ w.heap.size + 1 + 1 ∧ w.heap.size ≠ w.heap.size + 1 + 1) := Lib.hid ⟨by omega, by omega⟩
  have HE1 := Lib.hid (And.intro hE1 hB6)
  have HL6 := Lib.hid (lt_of_block hB6)
  have hR1 := Ext.refl W1
  clear hW1 hE1 hB6
  generalize w.heap.size + 1 + 1 = d6 at *
  generalize w.heap.size + 1 = d4 at *
  generalize hd3 : w.heap.size = d3 at *
  have HDW := Lib.hid hd3
  clear hd3
  unfold lenMax at ham
  go_wp2
  go_loopw [9] (fun iv wr => ∃ i : Nat, iv = .int .i64 i ∧ i ≤ arcs.length ∧ Hid (r = stepL x s ys inp (arcs.drop i)) ∧ Hid (Ext W1 wr)) (fun iv _ => arcs.length - (intOf iv).toNat)
  case atStart => exact ⟨0, by first | rfl | simp, Nat.zero_le _, Lib.hid (by rw [List.drop_zero]; exact HR0.out), Lib.hid (Ext.refl _)⟩
  case round =>
    obtain ⟨i, rfl, hi, HI, HW⟩ := hrel
    obtain ⟨W2, hW2⟩ : ∃ W, W = wr := ⟨_, rfl⟩; subst hW2
    have hE2 := HW.out
    have e5 := fun w' (h : Ext W2 w') => e5 w' (hE2.trans h)
    have hR2 := Ext.refl W2
    by_cases hlt : i < arcs.length
    · have hlI : (i : Int) < (arcs.length : Int) := by omega
      obtain ⟨a, ha⟩ : ∃ a, arcs[i]? = some a := ⟨_, List.getElem?_eq_getElem hlt⟩
      have HDR := Lib.hid (HST.out i a ha)
      obtain ⟨ba, oa, y, hA, hAV, k0, k1, k2, k3, k4, k5, k6, k7⟩ := arc_at HX.out.1 HX.out.2.1 HX.out.2.2 ha
      subst hA
      have HTK2 := Lib.hid (fun W' (e : Ext W2 W') => HTK.out W' ((HE1.out.1.trans hE2).trans e) i a y ha hAV)
      have hbw : ba < w.heap.size := World.block_lt_of_cell? _ _ k0
      have HBA : Hid (ba ≠ d6) := Lib.hid (by rw [HDW.out] at hbw; have := HD.out.1; omega)
      obtain ⟨y1, y2, ⟨g1, g2, g3⟩, y4, y5, y6⟩ := y
      have HAV := Lib.hid (And.intro hAV.2.1 hAV.2.2.2.1)
      obtain ⟨_, _, hg, _, ⟨cu, hus⟩, _⟩ := hAV
      obtain ⟨Au, us, hyu, _⟩ := hus
      simp only at hyu HAV k0 k1 k2 k3 k4 k5 k6 k7
      subst hyu
      obtain ⟨_, A9, cs9, vs9, hq9, _⟩ := hg.form
      have hzz : g3 = .slice A9 a.guard.subs.length cs9 := by
        have h9 := congrArg (fun v => match v with | Value.agg cs => cs[2]? | _ => none) hq9
        simpa [nvVal] using h9
      subst hzz
      obtain ⟨nl, hnl⟩ : ∃ nl, nl = a.guard.subs.length := ⟨_, rfl⟩
      rw [← hnl] at k4 HTK2
      obtain ⟨nu, hnu⟩ : ∃ nl, nl = a.ups.length := ⟨_, rfl⟩
      rw [← hnu] at k6 HTK2
      unfold avVal at HTK2
      dsimp only at HTK2
      clear hnl hnu hq9 hg ha
      obtain ⟨q, hq⟩ : ∃ q, q = tkR x a s ys := ⟨_, rfl⟩
      rw [← hq] at HTK2 HDR
      obtain ⟨⟨t, zs, can⟩, hqt⟩ : ∃ p, p = tkT q := ⟨_, rfl⟩
      rw [← hqt] at HTK2
      unfold TkQ at HTK2
      dsimp only at HTK2
      have HQT := Lib.hid hqt
      clear hq hqt
      have hE02 := HE1.out.1.trans hE2
      have k0 := fun w' (h : Ext W2 w') => (hE02.trans h).cell k0
      have k1 := fun w' (h : Ext W2 w') => (hE02.trans h).cell k1
      have k2 := fun w' (h : Ext W2 w') => (hE02.trans h).cell k2
      have k3 := fun w' (h : Ext W2 w') => (hE02.trans h).cell k3
      have k4 := fun w' (h : Ext W2 w') => (hE02.trans h).cell k4
      have k5 := fun w' (h : Ext W2 w') => (hE02.trans h).cell k5
      have k6 := fun w' (h : Ext W2 w') => (hE02.trans h).cell k6
      have k7 := fun w' (h : Ext W2 w') => (hE02.trans h).cell k7
      have e0 := fun w' (h : Ext W2 w') => e0 w' (hE2.trans h)
      have e1 := fun w' (h : Ext W2 w') => e1 w' (hE2.trans h)
      have e2 := fun w' (h : Ext W2 w') => e2 w' (hE2.trans h)
      have e3 := fun w' (h : Ext W2 w') => e3 w' (hE2.trans h)
      have e4 := fun w' (h : Ext W2 w') => e4 w' (hE2.trans h)
      have s0 := fun w' (h : Ext W2 w') => s0 w' (hE2.trans h)
      have s1 := fun w' (h : Ext W2 w') => s1 w' (hE2.trans h)
      have htk := HTK2.out
      clear hE02 hbw
      go_upto_region 4 with fail
      refine RI.wp_region_inv 13 (RsI 7 11 12 (tp2 can) t zs W2) (fun k => [7, 11, 12].contains k) (fun k => ([[], [], [1], [], [1, 2, 3], [1, 2, 3, 4], [], [0, 1, 2, 3, 4, 5, 6], [0, 1, 2, 3, 4, 5, 6, 7], [0, 1, 2, 3, 4, 5, 6, 7, 8], [0, 1, 2, 3, 4, 5, 6, 7, 8], [], [0, 1, 2, 3, 4, 5, 6, 7, 8, 9, 11], [0, 1, 2, 3, 4, 5, 6, 7, 8, 9, 10, 11, 12]] : List (List Nat)).getD k []) (by kernel_rfl) (by kernel_rfl) ?_ ?_
      rotate_left; simp only [List.take_succ_cons, List.take_zero]; rotate_left
      · exact RsI.start (Ext.refl _).drew
      repeat (first | (with_reducible refine RI.lexL_quiet' (v := ?_) ?_ ?_ ?_ ?_; rotate_left; (· with_reducible rfl); (· decide); (· intro G w1 hI1 hA1; have hw1 := hI1.ext; go_simp; with_reducible rfl); (try simp only [Act.put, List.setIfInBounds_toArray, List.set_cons_zero, List.set_cons_succ])) | (with_reducible refine RI.lexL_skip ?_ ?_; (· simp [Region.wanted, yielded, undef]); (try simp only [Act.put, List.setIfInBounds_toArray, List.set_cons_zero, List.set_cons_succ])) | (with_reducible refine RI.lexL_quiet (v := ?_) ?_ ?_ ?_ ?_; rotate_left; (· simp [Region.wanted, yielded, undef]); (· decide); (· intro G w1 hI1 hA1; have hw1 := hI1.ext; go_simp; with_reducible rfl); (try simp only [Act.put, List.setIfInBounds_toArray, List.set_cons_zero, List.set_cons_succ])))
      with_reducible refine RI.lexL_give' ?_ ?_ ?_ ?_; (· with_reducible rfl); (· decide)
      · intro G w5 hI hA hg
        have hw5 := hI.ext
        go_simp
        refine (htk w5 hw5).mono ?_
        rintro e w6 ⟨A, c, rfl, h1, h2, e6⟩
        exact ⟨_, rfl, hI.call (by decide) (by decide) hg e6 h1 h2⟩
      intro v7 G w5 hI hs2
      obtain ⟨A7, c7, hv7, -⟩ := hI.c v7 (hs2 7 v7 rfl)
      unfold tp2 cfgV at hv7
      subst hv7
      clear hI hs2 G w5
      (try simp only [Act.put, List.setIfInBounds_toArray, List.set_cons_zero, List.set_cons_succ])
      repeat (first | (with_reducible refine RI.lexL_quiet' (v := ?_) ?_ ?_ ?_ ?_; rotate_left; (· with_reducible rfl); (· decide); (· intro G w1 hI1 hA1; have hw1 := hI1.ext; go_simp; with_reducible rfl); (try simp only [Act.put, List.setIfInBounds_toArray, List.set_cons_zero, List.set_cons_succ])) | (with_reducible refine RI.lexL_skip ?_ ?_; (· simp [Region.wanted, yielded, undef]); (try simp only [Act.put, List.setIfInBounds_toArray, List.set_cons_zero, List.set_cons_succ])) | (with_reducible refine RI.lexL_quiet (v := ?_) ?_ ?_ ?_ ?_; rotate_left; (· simp [Region.wanted, yielded, undef]); (· decide); (· intro G w1 hI1 hA1; have hw1 := hI1.ext; go_simp; with_reducible rfl); (try simp only [Act.put, List.setIfInBounds_toArray, List.set_cons_zero, List.set_cons_succ])))
      with_reducible refine RI.lexL_give' ?_ ?_ ?_ ?_; (· with_reducible rfl); (· decide)
      · intro G w5 hI hA hg
        go_simp
        exact hI.alloc (by decide) (by decide) hg
      intro v11 G w5 hI hs2
      obtain ⟨b10, hv11, -⟩ := hI.a v11 (hs2 11 v11 rfl)
      unfold ptrV at hv11
      subst hv11
      clear hI hs2 G w5
      (try simp only [Act.put, List.setIfInBounds_toArray, List.set_cons_zero, List.set_cons_succ])
      with_reducible refine RI.lexL_give' ?_ ?_ ?_ ?_; (· with_reducible rfl); (· decide)
      · intro G w5 hI hA hg
        have h7 := hA 7 (by decide) _ rfl
        have h11 := hA 11 (by decide) _ rfl
        obtain ⟨b', hb', _, _, h3⟩ := hI.a _ h11
        have hb' := ptrV_inj (b := b10) hb'
        subst hb'
        refine gives_store_blk 34 (.tmp 10) (.tmp 28) ?_ b10 ?_ ?_ (h3 hg) (cells := #[.int .i64 t, .slice A7 zs.length c7]) rfl (by kernel_rfl) (by kernel_rfl) (fun w' hB hgr => hI.store (by decide) (by decide) tp2_inj hg h7 h11 hB hgr) <;> first | rfl | exact rfl | (go_simp; done)
      intro v12 G w5 hI hs2
      clear hI hs2 G w5
      (try simp only [Act.put, List.setIfInBounds_toArray, List.set_cons_zero, List.set_cons_succ])
      with_reducible refine RI.lexL_nil ?_; intro w1 hI1; simp only [List.drop_succ_cons, List.drop_zero]
      have hdn := hI1.done tp2_inj (u := v12) (A := A7) (c := c7) (b := b10) rfl rfl rfl
      clear hI1 htk
      go_upto_region 5 with fail
      obtain ⟨W3, hW3⟩ : ∃ W, W = w1 := ⟨_, rfl⟩
      subst hW3
      have HDN := Lib.hid hdn
      have hE3 := hdn.1
      clear hdn k0 k2 k3 k4 k6 k7 e0 e1 e2 e3 e4 s0 s1 hR2
      have hR3 := Ext.refl W3
      cases q with
      | none =>
        obtain ⟨rfl, rfl, rfl⟩ : t = 0 ∧ zs = [] ∧ can = 0 := by
          have h := HQT.out; unfold tkT at h; injection h with h1 h; injection h with h2 h3; exact ⟨h1, h2, h3⟩
        have HI2 : Hid (r = stepL x s ys inp (arcs.drop (i + 1))) := Lib.hid (by rw [HI.out, HDR.out]; split <;> rfl)
        clear k1 k5 e5
        go_wp2
        refine ⟨⟨i + 1, by go_num, hlt, HI2, Lib.hid (HW.out.trans HDN.out.1)⟩, ?_⟩
        simp [intOf]; omega
      | some q =>
      obtain ⟨rfl, rfl, rfl⟩ : t = q.1 ∧ zs = q.2 ∧ can = 1 := by
        have h := HQT.out; unfold tkT at h; injection h with h1 h; injection h with h2 h3; exact ⟨h1, h2, h3⟩
      by_cases hin : a.inp = inp
      rotate_left
      · have HI2 : Hid (r = stepL x s ys inp (arcs.drop (i + 1))) := Lib.hid (by rw [HI.out, HDR.out, if_neg hin])
        have hin2 : (y2 == inp) = false := beq_eq_false_iff_ne.2 (by rw [HAV.out.1]; exact hin)
        clear hin
        go_wp2
        refine ⟨⟨i + 1, by go_num, hlt, HI2, Lib.hid (HW.out.trans HDN.out.1)⟩, ?_⟩
        simp [intOf]; omega
      · have HR : Hid (r = some (q.1, q.2, a.out)) := Lib.hid (by rw [HI.out, HDR.out, if_pos hin])
        have hin2 : (y2 == inp) = true := beq_iff_eq.2 (by rw [HAV.out.1]; exact hin)
        clear hin
        go_upto_region 6 with fail
        have hb3 := heap_ext (hE2.trans hE3) HE1.out.2
        have hne : b10 ≠ d6 := by have h1 := HDN.out.2.2.2.2; have h2 := HL6.out; have h3 := hE2.size; omega
        have e5 := fun w' (h : W3.grownBy w' (some d6)) => h.cell (e5 W3 hE3) (by simpa using HD.out.2)
        have k5 := fun w' (h : W3.grownBy w' (some d6)) => h.cell (k5 W3 hE3) (by simpa using HBA.out)
        have t0 := fun w' (h : W3.grownBy w' (some d6)) => h.cell (cell_of_blk HDN.out.2.1 0 (u := .int .i64 q.1) rfl) (by simpa using hne)
        have t1 := fun w' (h : W3.grownBy w' (some d6)) => h.cell (cell_of_blk HDN.out.2.1 1 (u := .slice A7 q.2.length c7) rfl) (by simpa using hne)
        have HB3 := Lib.hid hb3
        have HE03 := Lib.hid (HE1.out.1.trans (hE2.trans hE3))
        have HS3 : Hid (d6 < W2.heap.size ∧ w.heap.size ≤ W2.heap.size) := Lib.hid ⟨by have h2 := HL6.out; have h3 := hE2.size; omega, (HE1.out.1.trans hE2).size⟩
        clear k1 hin2 hb3 hne hE2 hE3 hR3
        refine RI.wp_region_inv 8 (StI 7 d6 #[.int .i64 q.1, .slice A7 q.2.length c7] W3) (fun k => [7].contains k) (fun k => ([[], [], [1], [], [1, 2, 3], [1, 2, 3, 4], [1, 2, 3, 4, 5], [0], [0, 1, 2, 3, 4, 5, 6, 7], [0, 1, 2, 3, 4, 5, 6, 7, 8]] : List (List Nat)).getD k []) (by kernel_rfl) (by kernel_rfl) ?_ ?_
        rotate_left; simp only [List.take_succ_cons, List.take_zero]; rotate_left
        · exact StI.start (Ext.refl _).drew HB3.out
        repeat (first | (with_reducible refine RI.lexL_quiet' (v := ?_) ?_ ?_ ?_ ?_; rotate_left; (· with_reducible rfl); (· decide); (· intro G w1 hI1 hA1; have hw1 := hI1.ext; go_simp; with_reducible rfl); (try simp only [Act.put, List.setIfInBounds_toArray, List.set_cons_zero, List.set_cons_succ])) | (with_reducible refine RI.lexL_skip ?_ ?_; (· simp [Region.wanted, yielded, undef]); (try simp only [Act.put, List.setIfInBounds_toArray, List.set_cons_zero, List.set_cons_succ])) | (with_reducible refine RI.lexL_quiet (v := ?_) ?_ ?_ ?_ ?_; rotate_left; (· simp [Region.wanted, yielded, undef]); (· decide); (· intro G w1 hI1 hA1; have hw1 := hI1.ext; go_simp; with_reducible rfl); (try simp only [Act.put, List.setIfInBounds_toArray, List.set_cons_zero, List.set_cons_succ])))
        with_reducible refine RI.lexL_give' ?_ ?_ ?_ ?_; (· with_reducible rfl); (· decide)
        · intro G w5 hI hA hg
          refine gives_store_blk 34 (.tmp 6) (.tmp 42) ?_ d6 ?_ ?_ (hI.old hg) (cells := #[.int .i64 q.1, .slice A7 q.2.length c7]) rfl (by kernel_rfl) (by kernel_rfl) (fun w' hB hgr => hI.store hB hgr) <;> first | rfl | exact rfl | (go_simp; done)
        intro v7 G w5 hI hs2
        clear hI hs2 G w5
        (try simp only [Act.put, List.setIfInBounds_toArray, List.set_cons_zero, List.set_cons_succ])
        with_reducible refine RI.lexL_nil ?_; intro w1 hI1; simp only [List.drop_succ_cons, List.drop_zero]
        have h8 := hI1.new v7 rfl
        have HG := Lib.hid hI1.g
        clear hI1 e5 k5 t0 t1
        go_wp2
        refine bodyPost_ret (results_cell_tmp2 rfl _ _ d6 34 _ (0, 0) _ (by simp [Act.put]) h8 Tryd.underlying34 rfl (by kernel_rfl)) rfl ?_
        rw [HR.out, ← HAV.out.2]
        exact ⟨A7, c7, rfl, IntsC.grown HDN.out.2.2.1 HDN.out.2.2.2.1 HS3.out.1 HG.out, fun h0 a ha => Nat.le_trans HS3.out.2 (HDN.out.2.2.2.1 h0 a ha), Below.grown HE03.out HG.out HE03.out.size (fun k hk => by cases hk; rw [HDW.out]; exact HD.out.1)⟩
    · have hie : i = arcs.length := by omega
      subst hie
      have hlt3 : ¬ (arcs.length : Int) < (arcs.length : Int) := by omega
      have HR : Hid (r = none) := Lib.hid (by rw [HI.out, List.drop_length]; rfl)
      have hb8 := heap_ext hE2 HE1.out.2
      have HE := Lib.hid (HE1.out.1.trans hE2)
      go_wp2_with (with_reducible refine wpList_store_blk _ rfl 34 _ _ rfl d6 34 _ _ rfl rfl hb8 (by kernel_rfl) (by kernel_rfl) (by kernel_rfl) ?_; intro w8 h8 g8)
      refine bodyPost_ret (results_cell_tmp2 rfl _ _ d6 34 _ (0, 0) _ (by simp [Act.put]) h8 Tryd.underlying34 rfl (by kernel_rfl)) rfl ?_
      rw [HR.out]
      exact ⟨none, 0, rfl, ⟨none, rfl, fun h => absurd h (by simp [stT]), Nat.le_refl _, by simp [stT]⟩, fun h => absurd h (by simp [stT]), Below.grown HE.out g8 HE.out.size (fun k hk => by cases hk; rw [HDW.out]; exact HD.out.1)⟩
end Go.Proofs.YtggffdkgfgdaoaaDoor
