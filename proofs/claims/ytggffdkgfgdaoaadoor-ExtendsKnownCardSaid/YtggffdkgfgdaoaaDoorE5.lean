/- ref29.Take 41. -/
import Derived.Test.YtggffdkgfgdaoaaDoorE4
import Derived.Test.YtggffdkgfgdaoaaDoorGE
namespace Go.Proofs.YtggffdkgfgdaoaaDoor
open Go.RowKit Go.Maps
set_option linter.unusedVariables false
set_option linter.unusedSimpArgs false
attribute [local go_sem] Oper.quietV quietV Oper.gives givesV ext_refl_iff ext_alloc_iff ext_drew_iff ext_drewN_iff
def TkP (w : World) (r : Option (Int × List Int)) (e : Ending) (w' : World) : Prop := Ext w w' ∧ (∀ t zs, r = some (t, zs) → ∃ A c, e = .returned (.tuple #[.agg #[.int .i64 t, .slice A zs.length c], .int .i64 1]) ∧ IntsC w' (.slice A zs.length c) zs c ∧ NewA w.heap.size A zs) ∧
  (r = none → e = .returned (.tuple #[.agg #[.int .i64 0, .slice none 0 0], .int .i64 0]))
theorem evR_false {vals : List Int} {t : Tr} (h : (evR vals t).2 = false) : (evR vals t).1 = 0 := by
  unfold evR at h ⊢
  cases hq : evT vals t with
  | none => rfl
  | some r => rw [hq] at h; exact Bool.noConfusion h
set_option maxRecDepth 100000 in
set_option maxHeartbeats 16000000 in
theorem refTake_any (w : World) (xv : Value) (x : Xt) (a : Ac) (y : Av) (s : Int) (ys : List Int) (yv : Value) (cy : Nat) (hx : XtV w x xv) (ha : ArcV w a y) (hy : IntsC w yv ys cy) (hx0 : valsR x.vars ys = 0) (haok : arcR x a = 0) : Calls Tryd.prog 41 #[xv, avVal y, .agg #[.int .i64 s, yv]] w (TkP w (tkR x a s ys)) := by
  obtain ⟨r, hr⟩ : ∃ r, r = tkR x a s ys := ⟨_, rfl⟩
  rw [← hr]
  unfold tkR at hr
  have hl := (valsR_zero hx0).2.1
  have hm : ys.length ≤ 16 := by rw [hl]; exact varsR_le (valsR_zero hx0).1
  have hev := fun W' (e : Ext w W') (t : Tr) (z : Nv) (hN : NodeV W' t (nvVal z)) (h1 : checkR x.vars t = 0) => refEval_of (vals := ys) (vals_small hx0) hN (hy.ext e) (by rw [hl]; exact (checkR_ok h1).2.2.1) (checkR_ok h1).2.2.2
  have hgc := (arcR_guard haok).1
  have huv := arcR_ups haok
  have hsm : ∀ t : Tr, checkR x.vars t = 0 → Small (evR ys t).1 := fun t h1 => evR_small (vals_small hx0) (by rw [hl]; exact (checkR_ok h1).2.2.1)
  obtain ⟨vv, sv, av, c1, c2, c3, rfl, hvv, hsv, hav⟩ := hx
  obtain ⟨f1, f2, hg, f4, ⟨cu, hus⟩, f6⟩ := ha
  obtain ⟨Av0, hvv0, hvv1, hvv2, hvv3, hvv4⟩ := hvv
  obtain ⟨As, hs0, _, _, hs3⟩ := hsv
  obtain ⟨Aa, as', ha0, _, _, _, _, ham⟩ := hav
  obtain ⟨Au, us, hyu, hul, huc, hus, hun, hum⟩ := hus
  obtain ⟨y1, y2, ⟨g1, g2, g3⟩, y4, y5, y6⟩ := y
  simp only at f1 f2 f4 f6 hyu
  obtain ⟨Ay, hy0, hyc, hyn, hym⟩ := hy
  subst hvv0 hs0 ha0 f1 f2 f4 f6 hyu hy0
  unfold lenMax at hvv3 hs3 ham hum hym
  unfold avVal
  have hevg := fun W' (e : Ext w W') => hev W' e a.guard (g1, g2, g3) (hg.ext e) hgc
  have hgs := hsm a.guard hgc
  unfold nvVal REvP at hevg
  obtain ⟨_, A9, cs9, vs9, hq9, _⟩ := hg.form
  have hzz : g3 = .slice A9 a.guard.subs.length cs9 := by
    have h9 := congrArg (fun v => match v with | Value.agg cs => cs[2]? | _ => none) hq9
    simpa [nvVal] using h9
  subst hzz
  have hgf := @evR_false ys a.guard
  obtain ⟨⟨rn, ris⟩, hrg⟩ : ∃ r, r = evR ys a.guard := ⟨_, rfl⟩
  rw [← hrg] at hr hevg hgs hgf
  dsimp only at hr hevg hgs hgf ⊢
  have HX := Lib.hid (And.intro huc (And.intro hus (And.intro hul (And.intro hvv1 (And.intro hev (And.intro huv (And.intro hsm hyc)))))))
  have HR0 := Lib.hid hr
  clear hr hrg hg huc hus hul hvv1 hvv4 hev huv hq9 hsm hgc haok hx0 hyc
  obtain ⟨nl, hnl⟩ : ∃ nl, nl = a.guard.subs.length := ⟨_, rfl⟩
  rw [← hnl] at hevg ⊢
  clear hnl
  rw [← hl] at ⊢ hvv3
  have HL := Lib.hid hl
  clear hl
  generalize a.frm = afrm at *
  generalize a.inp = ainp at *
  generalize a.out = aout at *
  generalize a.dst = adst at *
  generalize a.ups = ups at *
  generalize x.start = start at *
  generalize x.arcs = arcs at *
  generalize x.vars = vars at *
  generalize x.ins = xins at *
  generalize x.outs = xouts at *
  generalize x.states = xst at *
  go_enter Tryd.func41, Tryd.ntmps41
  go_upto_region 1 with fail
  refine wp_named ?_
  intro W1 hW1
  have hE1 : Ext w W1 := by rw [hW1]; exact (((alloc_ext w _).trans (alloc_ext _ _)).trans (alloc_ext _ _)).trans (alloc_ext _ _)
  have hB6 : W1.heap[w.heap.size + 1 + 1 + 1]? = some (.cells #[.int .i64 0, .slice none 0 0] 34 (0, 0)) := by rw [hW1]; exact alloc4_3 _ _ _ _ _
  have q3 : ∀ w', Ext W1 w' → w'.cell? ⟨w.heap.size, 3, none⟩ = some (.slice Av0 ys.length c1) := fun w' h => h.cell (by rw [hW1]; simp [go_sem])
  have a0 : ∀ w', Ext W1 w' → w'.cell? ⟨w.heap.size + 1, 0, none⟩ = some (.int .i64 afrm) := fun w' h => h.cell (by rw [hW1]; simp [go_sem])
  have a2 : ∀ w', Ext W1 w' → w'.cell? ⟨w.heap.size + 1, 2, none⟩ = some (.int .u8 (g1 : Int)) := fun w' h => h.cell (by rw [hW1]; simp [go_sem])
  have a3 : ∀ w', Ext W1 w' → w'.cell? ⟨w.heap.size + 1, 3, none⟩ = some (.int .i64 g2) := fun w' h => h.cell (by rw [hW1]; simp [go_sem])
  have a4 : ∀ w', Ext W1 w' → w'.cell? ⟨w.heap.size + 1, 4, none⟩ = some (.slice A9 nl cs9) := fun w' h => h.cell (by rw [hW1]; simp [go_sem])
  have a6 : ∀ w', Ext W1 w' → w'.cell? ⟨w.heap.size + 1, 6, none⟩ = some (.slice Au ups.length cu) := fun w' h => h.cell (by rw [hW1]; simp [go_sem])
  have a7 : ∀ w', Ext W1 w' → w'.cell? ⟨w.heap.size + 1, 7, none⟩ = some (.int .i64 adst) := fun w' h => h.cell (by rw [hW1]; simp [go_sem])
  have s0 : ∀ w', Ext W1 w' → w'.cell? ⟨w.heap.size + 1 + 1, 0, none⟩ = some (.int .i64 s) := fun w' h => h.cell (by rw [hW1]; simp [go_sem])
  have s1 : ∀ w', Ext W1 w' → w'.cell? ⟨w.heap.size + 1 + 1, 1, none⟩ = some (.slice Ay ys.length cy) := fun w' h => h.cell (by rw [hW1]; simp [go_sem])
  have hev1 := hevg W1 hE1
  have HD : Hid (w.heap.size ≤ w.heap.size + 1 + 1 + 1) := Lib.hid (by omega)
  have hR1 := Ext.refl W1
  have HE1 := Lib.hid (And.intro hE1 hB6)
  clear hW1 hE1 hB6 hevg
  generalize w.heap.size + 1 + 1 + 1 = d6 at *
  generalize w.heap.size + 1 + 1 = d5 at *
  generalize w.heap.size + 1 = d4 at *
  generalize hd3 : w.heap.size = d3 at *
  have HDW := Lib.hid hd3
  have HD : Hid (d3 ≤ d6 ∧ True) := Lib.hid ⟨HD.out, trivial⟩
  clear hd3
  by_cases gf : afrm = s
  rotate_left
  · have HR : Hid (r = none) := Lib.hid (by rw [HR0.out, if_neg (fun h => gf h.1)])
    have gf2 : (afrm != s) = true := bne_iff_ne.2 gf
    clear gf
    go_upto_region 3 with ((with_reducible refine hev1.mono ?_); rintro e W2 ⟨rfl, e2⟩)
    have HE2 := Lib.hid (And.intro (HE1.out.1.trans e2) (heap_ext e2 HE1.out.2))
    clear hev1 e2 q3 a0 a2 a3 a4 a6 a7 s0 s1 hR1
    have hb8 := HE2.out.2
    go_wp2_with (with_reducible refine wpList_store_blk _ rfl 34 _ _ rfl d6 34 _ _ rfl rfl hb8 (by kernel_rfl) (by kernel_rfl) (by kernel_rfl) ?_; intro w8 h8 g8)
    refine bodyPost_ret (results_cell_tmp rfl _ _ d6 34 _ (0, 0) _ (by simp [Act.put]) h8 Tryd.underlying34 rfl (by kernel_rfl)) rfl ?_
    exact ⟨Below.grown HE2.out.1 g8 (HE2.out.1).size (fun k hk => by cases hk; rw [HDW.out]; exact HD.out.1), fun t zs h => (by rw [HR.out] at h; cases h), fun _ => rfl⟩
  subst gf
  cases ris with
  | false =>
    obtain rfl := hgf rfl
    have HR : Hid (r = none) := Lib.hid (by rw [HR0.out, if_neg (fun h => (by cases h.2.1))])
    have hb0 : b01 false = 0 := rfl
    go_upto_region 3 with ((with_reducible refine hev1.mono ?_); rintro e W2 ⟨rfl, e2⟩)
    have HE2 := Lib.hid (And.intro (HE1.out.1.trans e2) (heap_ext e2 HE1.out.2))
    clear hev1 e2 q3 a0 a2 a3 a4 a6 a7 s0 s1 hR1
    have hb8 := HE2.out.2
    go_wp2_with (with_reducible refine wpList_store_blk _ rfl 34 _ _ rfl d6 34 _ _ rfl rfl hb8 (by kernel_rfl) (by kernel_rfl) (by kernel_rfl) ?_; intro w8 h8 g8)
    refine bodyPost_ret (results_cell_tmp rfl _ _ d6 34 _ (0, 0) _ (by simp [Act.put]) h8 Tryd.underlying34 rfl (by kernel_rfl)) rfl ?_
    exact ⟨Below.grown HE2.out.1 g8 (HE2.out.1).size (fun k hk => by cases hk; rw [HDW.out]; exact HD.out.1), fun t zs h => (by rw [HR.out] at h; cases h), fun _ => rfl⟩
  | true =>
  have hb1 : b01 true = 1 := rfl
  unfold Small at hgs
  by_cases gn : rn = 1
  rotate_left
  · have HR : Hid (r = none) := Lib.hid (by rw [HR0.out, if_neg (fun h => gn h.2.2)])
    have gn2 : (rn != 1) = true := bne_iff_ne.2 gn
    clear gn
    go_upto_region 3 with ((with_reducible refine hev1.mono ?_); rintro e W2 ⟨rfl, e2⟩)
    have HE2 := Lib.hid (And.intro (HE1.out.1.trans e2) (heap_ext e2 HE1.out.2))
    clear hev1 e2 q3 a0 a2 a3 a4 a6 a7 s0 s1 hR1
    have hb8 := HE2.out.2
    go_wp2_with (with_reducible refine wpList_store_blk _ rfl 34 _ _ rfl d6 34 _ _ rfl rfl hb8 (by kernel_rfl) (by kernel_rfl) (by kernel_rfl) ?_; intro w8 h8 g8)
    refine bodyPost_ret (results_cell_tmp rfl _ _ d6 34 _ (0, 0) _ (by simp [Act.put]) h8 Tryd.underlying34 rfl (by kernel_rfl)) rfl ?_
    exact ⟨Below.grown HE2.out.1 g8 (HE2.out.1).size (fun k hk => by cases hk; rw [HDW.out]; exact HD.out.1), fun t zs h => (by rw [HR.out] at h; cases h), fun _ => rfl⟩
  subst gn
  have HR0 : Hid (r = (tkV vars ys ups ys.length).map (fun c => (adst, c))) := Lib.hid (by rw [HR0.out, if_pos ⟨rfl, rfl, rfl⟩])
  go_upto_region 5 with ((with_reducible refine hev1.mono ?_); rintro e W2 ⟨rfl, e2⟩)
  have HE2 := Lib.hid (And.intro (HE1.out.1.trans e2) (heap_ext e2 HE1.out.2))
  have q3 := fun w' (h : Ext W2 w') => q3 w' (e2.trans h)
  have a6 := fun w' (h : Ext W2 w') => a6 w' (e2.trans h)
  have a7 := fun w' (h : Ext W2 w') => a7 w' (e2.trans h)
  have s1 := fun w' (h : Ext W2 w') => s1 w' (e2.trans h)
  have HN2 : Hid (d3 ≤ W2.heap.size ∧ d6 < W2.heap.size) := Lib.hid ⟨by rw [← HDW.out]; exact HE2.out.1.size, lt_of_block HE2.out.2⟩
  clear hev1 e2 a0 a2 a3 a4 s0 hR1 HE1 hgs hgf
  have hO0 : OwnL W2 W2 [.row 3 1 (.slice none 0 0) 0 []] := (OwnL.nil (Ext.refl W2)).add (Ext.refl _) (A := .row 3 1 (.slice none 0 0) 0 []) (World.ownsRow_nil _ _ _ _)
  go_wp2
  go_loopw [10, 11] (fun xv iv wr => ∃ (v : Nat) (L : List Int), iv = .int .i64 v ∧ v ≤ ys.length ∧ L.length = v ∧ Hid (tkV vars ys ups v = some L) ∧ Hid (OwnL W2 wr [.row 3 1 xv v (L.map (.int .i64))])) (fun _ iv _ => ys.length - (intOf iv).toNat)
  case atStart => exact ⟨0, [], by first | rfl | simp, Nat.zero_le _, rfl, Lib.hid rfl, Lib.hid hO0⟩
  case round =>
    clear hO0
    obtain ⟨v, L, rfl, hv, hLl, HT, HO⟩ := hrel
    obtain ⟨W5, hW5⟩ : ∃ W, W = wr := ⟨_, rfl⟩; subst hW5
    have hE5 := HO.out.ext
    have HEE := Lib.hid hE5
    by_cases hlt : v < ys.length
    · have hlI : (v : Int) < (ys.length : Int) := by omega
      obtain ⟨by_, oy, hA, _, cx⟩ := HX.out.2.2.2.2.2.2.2.at_int hlt
      subst hA
      have cx := (HE2.out.1.trans hE5).cell cx
      obtain ⟨UP, hUP⟩ : ∃ U, U = upV vars ys v ups (ys.getD v 0) := ⟨_, rfl⟩
      have hgd : ys.getD v 0 = ys[v] := by rw [List.getD_eq_getElem?_getD, List.getElem?_eq_getElem hlt]; rfl
      rw [hgd] at hUP
      have HUP := Lib.hid hUP
      have HGD := Lib.hid hgd
      clear hUP hgd
      generalize ys[v] = z0 at *
      have hvl : v < vars.length := by rw [← HL.out]; exact hlt
      obtain ⟨⟨nm, lo, hi2⟩, hvt⟩ : ∃ q, vars[v]? = some q := ⟨_, List.getElem?_eq_getElem hvl⟩
      have HVT := Lib.hid hvt
      clear hvt
      have q3 := fun w' (h : Ext W5 w') => q3 w' (hE5.trans h)
      have a6 := fun w' (h : Ext W5 w') => a6 w' (hE5.trans h)
      have s1 := fun w' (h : Ext W5 w') => s1 w' (hE5.trans h)
      have hR5 := Ext.refl W5
      clear hE5
      go_upto_region 10 with fail
      clear cx
      go_wp2
      go_loopw [12, 13] (fun kv iv wr => ∃ (i : Nat) (k : Int), kv = .int .i64 k ∧ iv = .int .i64 i ∧ i ≤ ups.length ∧ Hid (UP = upV vars ys v (ups.drop i) k) ∧ Hid (Ext W5 wr)) (fun _ iv _ => ups.length - (intOf iv).toNat)
      case atStart => exact ⟨0, z0, rfl, by first | rfl | simp, Nat.zero_le _, Lib.hid (by rw [List.drop_zero]; exact HUP.out), Lib.hid (Ext.refl _)⟩
      case round =>
        obtain ⟨i, k, rfl, rfl, hi, HI, HW⟩ := hrel
        obtain ⟨W6, hW6⟩ : ∃ W, W = wr := ⟨_, rfl⟩; subst hW6
        have hE6 := HW.out
        have q3 := fun w' (h : Ext W6 w') => q3 w' (hE6.trans h)
        have a6 := fun w' (h : Ext W6 w') => a6 w' (hE6.trans h)
        have s1 := fun w' (h : Ext W6 w') => s1 w' (hE6.trans h)
        have hR6 := Ext.refl W6
        clear hE6
        by_cases hlt2 : i < ups.length
        · have hlI2 : (i : Int) < (ups.length : Int) := by omega
          obtain ⟨u, hu⟩ : ∃ u, ups[i]? = some u := ⟨_, List.getElem?_eq_getElem hlt2⟩
          have HDR := Lib.hid (upV_drop (l := vars) (old := ys) (v := v) hu k)
          obtain ⟨bs, os, p, m, z, hA, d0, d1, d2, d3', hns⟩ := up_at HX.out.2.2.1 HX.out.1 HX.out.2.1 hu
          subst hA
          have HWE := Lib.hid (HE2.out.1.trans (HEE.out.trans HW.out))
          have d0 := HWE.out.cell d0
          by_cases hne : u.var = (v : Int)
          · have HUE : Hid (UP = if (evR ys u.ex).2 = false ∨ (evR ys u.ex).1 < lo ∨ hi2 < (evR ys u.ex).1 then none else upV vars ys v (ups.drop (i + 1)) (evR ys u.ex).1) := Lib.hid (by rw [HI.out, HDR.out, if_pos hne, HVT.out])
            have huok := HX.out.2.2.2.2.2.1 u (List.mem_of_getElem? hu)
            have HSM := Lib.hid (HX.out.2.2.2.2.2.2.1 u.ex huok.2.2)
            have HEF := Lib.hid (fun h => @evR_false ys u.ex h)
            have hev6 := fun W' (e : Ext W6 W') => HX.out.2.2.2.2.1 W' (HWE.out.trans e) u.ex (p, m, z) (hns.ext (HWE.out.trans e)) huok.2.2
            unfold nvVal REvP at hev6
            dsimp only at hev6
            obtain ⟨bv, ov, hAv, v0, v1, v2⟩ := var_at HX.out.2.2.2.1 HVT.out
            subst hAv
            obtain ⟨_, A8, cs8, vs8, hq8, _⟩ := hns.form
            have hzz : z = .slice A8 u.ex.subs.length cs8 := by
              have h9 := congrArg (fun v => match v with | Value.agg cs => cs[2]? | _ => none) hq8
              simpa using h9
            subst hzz
            obtain ⟨⟨n2, is2⟩, hr2⟩ : ∃ r, r = evR ys u.ex := ⟨_, rfl⟩
            rw [← hr2] at HUE HSM HEF hev6
            dsimp only at HUE HSM HEF hev6
            rw [hne] at d0
            obtain ⟨nl2, hnl2⟩ : ∃ nl2, nl2 = u.ex.subs.length := ⟨_, rfl⟩
            rw [← hnl2] at d3' hev6
            have d0 := fun w' (h : Ext W6 w') => h.cell d0
            have d1 := fun w' (h : Ext W6 w') => (HWE.out.trans h).cell d1
            have d2 := fun w' (h : Ext W6 w') => (HWE.out.trans h).cell d2
            have d3' := fun w' (h : Ext W6 w') => (HWE.out.trans h).cell d3'
            have v1 := fun w' (h : Ext W6 w') => (HWE.out.trans h).cell v1
            have v2 := fun w' (h : Ext W6 w') => (HWE.out.trans h).cell v2
            have hvl2 : (v : Int) < (ys.length : Int) := hlI
            clear hq8 hr2 hu hns hnl2 huok hne v0
            go_upto_region 13 with fail
            refine wp_region_ext 13 (factsOf [(8, EqP (.tuple #[.int .i64 n2, .int .i64 (b01 is2)]))]) (fun k => ([[], [0], [], [0, 1, 2], [0, 1, 2, 3], [0, 1, 2, 3, 4], [], [6], [0, 1, 2, 3, 4, 5, 6, 7], [0, 1, 2, 3, 4, 5, 6, 7, 8], [0, 1, 2, 3, 4, 5, 6, 7, 8, 9], [0, 1, 2, 3, 4, 5, 6, 7, 8, 9], [0, 1, 2, 3, 4, 5, 6, 7, 8, 9, 10], [0, 1, 2, 3, 4, 5, 6, 7, 8, 9, 10, 11, 12]] : List (List Nat)).getD k []) (by kernel_rfl) (by kernel_rfl) Ext.pre (mono_cons (stays_eqP _) (mono_nil)) ?_
            simp only [List.take_succ_cons, List.take_zero]
            repeat (first | (with_reducible refine lexL_quiet' (v := ?_) ?_ ?_ ?_ ?_; rotate_left; (· with_reducible rfl); (· simp [factsOf]); (· intro w1 hw1 _; go_simp; with_reducible rfl); (try simp only [Act.put, List.setIfInBounds_toArray, List.set_cons_zero, List.set_cons_succ])) | (with_reducible refine lexL_skip ?_ ?_; (· simp [Region.wanted, yielded, undef]); (try simp only [Act.put, List.setIfInBounds_toArray, List.set_cons_zero, List.set_cons_succ])) | (with_reducible refine lexL_quiet (v := ?_) ?_ ?_ ?_ ?_; rotate_left; (· simp [Region.wanted, yielded, undef]); (· simp [factsOf]); (· intro w1 hw1 _; go_simp; with_reducible rfl); (try simp only [Act.put, List.setIfInBounds_toArray, List.set_cons_zero, List.set_cons_succ])))
            with_reducible refine lexL_give' (φ := ?_) ?_ ?_ ?_ ?_; rotate_left; (· with_reducible rfl); (· simp only [factsOf, Nat.reduceAdd, ↓reduceIte, Nat.reduceEqDiff]; rfl)
            · intro w5 hw5 _
              go_simp
              refine (hev6 w5 hw5).mono ?_
              rintro e w6 ⟨rfl, e6⟩
              exact ⟨_, rfl, e6, rfl⟩
            rintro v2' w5 hw5 hv2' hk2
            unfold EqP at hv2'
            subst hv2'
            clear hk2 hw5 w5
            (try simp only [Act.put, List.setIfInBounds_toArray, List.set_cons_zero, List.set_cons_succ])
            repeat (first | (with_reducible refine lexL_quiet' (v := ?_) ?_ ?_ ?_ ?_; rotate_left; (· with_reducible rfl); (· simp [factsOf]); (· intro w1 hw1 _; go_simp; with_reducible rfl); (try simp only [Act.put, List.setIfInBounds_toArray, List.set_cons_zero, List.set_cons_succ])) | (with_reducible refine lexL_skip ?_ ?_; (· simp [Region.wanted, yielded, undef]); (try simp only [Act.put, List.setIfInBounds_toArray, List.set_cons_zero, List.set_cons_succ])) | (with_reducible refine lexL_quiet (v := ?_) ?_ ?_ ?_ ?_; rotate_left; (· simp [Region.wanted, yielded, undef]); (· simp [factsOf]); (· intro w1 hw1 _; go_simp; with_reducible rfl); (try simp only [Act.put, List.setIfInBounds_toArray, List.set_cons_zero, List.set_cons_succ])))
            with_reducible refine lexL_nil ?_; intro w1 hw1 hk1; simp only [List.drop_succ_cons, List.drop_zero]
            have HW1 := Lib.hid hw1
            clear hk1 hev6 d0 d1 d2 d3'
            have hsm2 := HSM.out
            unfold Small at hsm2
            go_upto_region 14 with fail
            cases is2 with
            | false =>
              have HUN : Hid (UP = none) := Lib.hid (by rw [HUE.out, if_pos (.inl rfl)])
              have HR : Hid (r = none) := Lib.hid (by rw [HR0.out, tkV_bad hlt (by rw [HGD.out, ← HUP.out]; exact HUN.out)]; rfl)
              have hb0 : b01 false = 0 := rfl
              have HW2 := Lib.hid (HEE.out.trans (HW.out.trans HW1.out))
              clear hw1 q3 a6 s1 v1 v2 hsm2
              have hb8 := (heap_ext HW2.out HE2.out.2)
              go_wp2_with (with_reducible refine wpList_store_blk _ rfl 34 _ _ rfl d6 34 _ _ rfl rfl hb8 (by kernel_rfl) (by kernel_rfl) (by kernel_rfl) ?_; intro w8 h8 g8)
              refine bodyPost_ret (results_cell_tmp rfl _ _ d6 34 _ (0, 0) _ (by simp [Act.put]) h8 Tryd.underlying34 rfl (by kernel_rfl)) rfl ?_
              exact ⟨Below.grown (HE2.out.1.trans HW2.out) g8 ((HE2.out.1.trans HW2.out)).size (fun k hk => by cases hk; rw [HDW.out]; exact HD.out.1), fun t zs h => (by rw [HR.out] at h; cases h), fun _ => rfl⟩
            | true =>
            have hb1 : b01 true = 1 := rfl
            by_cases glo : n2 < lo
            · have HUN : Hid (UP = none) := Lib.hid (by rw [HUE.out, if_pos (.inr (.inl glo))])
              have HR : Hid (r = none) := Lib.hid (by rw [HR0.out, tkV_bad hlt (by rw [HGD.out, ← HUP.out]; exact HUN.out)]; rfl)
              have HW2 := Lib.hid (HEE.out.trans (HW.out.trans HW1.out))
              go_upto_region 15 with fail
              clear hw1 q3 a6 s1 v1 v2 hsm2
              have hb8 := (heap_ext HW2.out HE2.out.2)
              go_wp2_with (with_reducible refine wpList_store_blk _ rfl 34 _ _ rfl d6 34 _ _ rfl rfl hb8 (by kernel_rfl) (by kernel_rfl) (by kernel_rfl) ?_; intro w8 h8 g8)
              refine bodyPost_ret (results_cell_tmp rfl _ _ d6 34 _ (0, 0) _ (by simp [Act.put]) h8 Tryd.underlying34 rfl (by kernel_rfl)) rfl ?_
              exact ⟨Below.grown (HE2.out.1.trans HW2.out) g8 ((HE2.out.1.trans HW2.out)).size (fun k hk => by cases hk; rw [HDW.out]; exact HD.out.1), fun t zs h => (by rw [HR.out] at h; cases h), fun _ => rfl⟩
            by_cases ghi : hi2 < n2
            · have HUN : Hid (UP = none) := Lib.hid (by rw [HUE.out, if_pos (.inr (.inr ghi))])
              have HR : Hid (r = none) := Lib.hid (by rw [HR0.out, tkV_bad hlt (by rw [HGD.out, ← HUP.out]; exact HUN.out)]; rfl)
              have HW2 := Lib.hid (HEE.out.trans (HW.out.trans HW1.out))
              go_upto_region 15 with fail
              clear hw1 q3 a6 s1 v1 v2 hsm2
              have hb8 := (heap_ext HW2.out HE2.out.2)
              go_wp2_with (with_reducible refine wpList_store_blk _ rfl 34 _ _ rfl d6 34 _ _ rfl rfl hb8 (by kernel_rfl) (by kernel_rfl) (by kernel_rfl) ?_; intro w8 h8 g8)
              refine bodyPost_ret (results_cell_tmp rfl _ _ d6 34 _ (0, 0) _ (by simp [Act.put]) h8 Tryd.underlying34 rfl (by kernel_rfl)) rfl ?_
              exact ⟨Below.grown (HE2.out.1.trans HW2.out) g8 ((HE2.out.1.trans HW2.out)).size (fun k hk => by cases hk; rw [HDW.out]; exact HD.out.1), fun t zs h => (by rw [HR.out] at h; cases h), fun _ => rfl⟩
            have HI2 : Hid (UP = upV vars ys v (ups.drop (i + 1)) n2) := Lib.hid (by rw [HUE.out, if_neg (by simp; omega)])
            have HW3 := Lib.hid (HW.out.trans HW1.out)
            go_wp2
            refine ⟨⟨i + 1, n2, rfl, by go_num, hlt2, HI2, HW3⟩, ?_⟩
            simp [intOf]; omega
          · have hne2 : (u.var != (v : Int)) = true := bne_iff_ne.2 hne
            have HI2 : Hid (UP = upV vars ys v (ups.drop (i + 1)) k) := Lib.hid (by rw [HI.out, HDR.out, if_neg hne])
            clear hne d1 d2 d3' hns hu
            go_wp2
            refine ⟨⟨i + 1, k, rfl, by go_num, hlt2, HI2, HW⟩, ?_⟩
            simp [intOf]; omega
        · have hie : i = ups.length := by omega
          subst hie
          have hlt3 : ¬ (ups.length : Int) < (ups.length : Int) := by omega
          have HUK : Hid (UP = some k) := Lib.hid (by rw [HI.out, List.drop_length]; rfl)
          have HT2 : Hid (tkV vars ys ups (v + 1) = some (L ++ [k])) := Lib.hid (by
            unfold tkV
            rw [HT.out]
            dsimp only
            rw [HGD.out, ← HUP.out, HUK.out])
          obtain ⟨i3, hi3, hz3, hs3', hb3⟩ := info_parts int_info
          have hO6 := HO.out.trans HW.out
          have hown : W6.ownsRow W2.heap.size 3 1 u10 v (L.map (.int .i64)) := hO6.get 0 rfl
          have hsz := hO6.ext.size
          have hv16 : v < 16 := by omega
          clear q3 s1 hi HI
          go_wp2_with (at_builtin; refine wpList_append_own2 rfl _ _ 28 rfl W2.heap.size 3 i3 (.int .i64 0) 1 8 Tryd.underlying28 hi3 hz3 hs3' hb3 rfl (by decide) u10 v (L.map (.int .i64)) rfl (World.ownsRow.alloc hown _) ⟨W6.heap.size, 0, none⟩ 1 1 [.int .i64 k] rfl rfl (new_cell _ _ _ _ (by first | rfl | simp)) (one_int _) (by unfold maxLen; omega) (by omega) (by simp; omega) ?_; intro v6 w6 hown6 hg6 hb6)
          have hO7 := (hO6.trans (alloc_ext W6 (.cells #[.int .i64 k] 3))).app 0 rfl hg6 hown6 hb6
          refine ⟨⟨v + 1, L ++ [k], by go_num, by omega, by simp [hLl], HT2, Lib.hid (by rw [List.map_append]; exact hO7)⟩, ?_⟩
          simp [intOf]; omega
    · have hie : v = ys.length := by omega
      subst hie
      have hlt3 : ¬ (ys.length : Int) < (ys.length : Int) := by omega
      have HR : Hid (r = some (adst, L)) := Lib.hid (by rw [HR0.out, HT.out]; rfl)
      have h1 : W5.ownsRow W2.heap.size 3 1 u10 L.length (L.map (.int .i64)) := by rw [hLl]; exact HO.out.get 0 rfl
      obtain ⟨c', hc'⟩ := ints_of_owns h1 (by rw [hLl]; unfold lenMax; omega)
      have hnew := fun b hb => (h1.lt b hb)
      obtain ⟨Al, hAl, hcl, hnl, hml⟩ := id hc'
      have hb6 := heap_ext hE5 HE2.out.2
      have a7 := a7 W5 hE5
      have q3 := q3 W5 hE5
      have hNA : NewA W2.heap.size Al L := fun _ a ha => (h1.lt a.block (by rw [hAl, ha]; rfl)).1
      subst hAl
      have HC := Lib.hid (And.intro hc' (And.intro hNA (HE2.out.1.trans hE5)))
      clear h1 hnew hcl hnl hml hc' hNA HO hE5
      go_wp2_with (with_reducible refine wpList_store_blk _ rfl 34 _ _ rfl d6 34 _ _ rfl rfl hb6 (by kernel_rfl) (by kernel_rfl) (by kernel_rfl) ?_; intro w8 h8 g8)
      refine bodyPost_ret (results_cell_tmp rfl _ _ d6 34 _ (0, 0) _ (by simp [Act.put]) h8 Tryd.underlying34 rfl (by kernel_rfl)) rfl ?_
      refine ⟨Below.grown HC.out.2.2 g8 HC.out.2.2.size (fun k hk => by cases hk; rw [HDW.out]; exact HD.out.1), fun t zs h => ?_, fun h => (by rw [HR.out] at h; cases h)⟩
      rw [HR.out] at h
      cases h
      exact ⟨Al, c', by rw [hLl]; rfl, IntsC.grown HC.out.1 HC.out.2.1 HN2.out.2 g8, fun h0 a ha => Nat.le_trans (by rw [HDW.out]; exact HN2.out.1) (HC.out.2.1 h0 a ha)⟩
/-- What Take hands back, told in one form. -/
def tkT : Option (Int × List Int) → Int × List Int × Int
  | some q => (q.1, q.2, 1)
  | none => (0, [], 0)
def TkQ (w : World) (q : Int × List Int × Int) (e : Ending) (w' : World) : Prop := ∃ A c, e = .returned (.tuple #[.agg #[.int .i64 q.1, .slice A q.2.1.length c], .int .i64 q.2.2]) ∧ IntsC w' (.slice A q.2.1.length c) q.2.1 c ∧ NewA w.heap.size A q.2.1 ∧ Ext w w'
theorem refTake_of (w : World) (xv : Value) (x : Xt) (a : Ac) (y : Av) (s : Int) (ys : List Int) (yv : Value) (cy : Nat) (hx : XtV w x xv) (ha : ArcV w a y) (hy : IntsC w yv ys cy) (hx0 : valsR x.vars ys = 0) (haok : arcR x a = 0) : Calls Tryd.prog 41 #[xv, avVal y, .agg #[.int .i64 s, yv]] w (TkQ w (tkT (tkR x a s ys))) := by
  refine (refTake_any w xv x a y s ys yv cy hx ha hy hx0 haok).mono ?_
  rintro e w' ⟨hE, h1, h2⟩
  cases hq : tkR x a s ys with
  | none => exact ⟨none, 0, h2 hq, ⟨none, rfl, fun h => absurd h (by simp [tkT]), Nat.le_refl _, by simp [tkT]⟩, fun h => absurd h (by simp [tkT]), hE⟩
  | some q =>
    obtain ⟨A, c, h3, h4, h5⟩ := h1 q.1 q.2 hq
    exact ⟨A, c, h3, h4, h5, hE⟩
end Go.Proofs.YtggffdkgfgdaoaaDoor
