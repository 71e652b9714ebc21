/- ref29.Conflict 24. -/
import Derived.Test.YtggffdkgfgdaoaaDoorE12
import Derived.Test.YtggffdkgfgdaoaaDoorE6
import Derived.Test.YtggffdkgfgdaoaaDoorE7
import Derived.Test.YtggffdkgfgdaoaaDoorT9
import Derived.Test.YtggffdkgfgdaoaaDoorB24
namespace Go.Proofs.YtggffdkgfgdaoaaDoor
open Go.RowKit Go.Maps
set_option linter.unusedVariables false
set_option linter.unusedSimpArgs false
attribute [local go_sem] Oper.quietV quietV Oper.gives givesV ext_refl_iff ext_alloc_iff ext_drew_iff ext_drewN_iff
attribute [local go_sem] RI.Oper.gives RI.givesV
theorem arc_lit {w : World} {A : Option Addr} {vs : List Av} {al : List Ac} (hl : vs.length = al.length) (hc : Cells w A (vs.flatMap avCells)) (hs : ∀ (i : Nat) (a : Ac) (x : Av), al[i]? = some a → vs[i]? = some x → ArcV w a x) {i : Nat} {a : Ac} (hi : al[i]? = some a) :
    ∃ (b o g1 : Nat) (g2 : Int) (A9 : Option Addr) (n9 c9 : Nat) (Au : Option Addr) (nu cu : Nat), A = some ⟨b, o, none⟩ ∧ ArcV w a ⟨a.frm, a.inp, (g1, g2, .slice A9 n9 c9), a.out, .slice Au nu cu, a.dst⟩ ∧ w.cell? ⟨b, o + i * 8, none⟩ = some (.int .i64 a.frm) ∧ w.cell? ⟨b, o + i * 8 + 1, none⟩ = some (.int .i64 a.inp) ∧ w.cell? ⟨b, o + i * 8 + 2, none⟩ = some (.int .u8 (g1 : Nat)) ∧ w.cell? ⟨b, o + i * 8 + 3, none⟩ = some (.int .i64 g2) ∧ w.cell? ⟨b, o + i * 8 + 4, none⟩ = some (.slice A9 n9 c9) ∧
      w.cell? ⟨b, o + i * 8 + 5, none⟩ = some (.int .i64 a.out) ∧ w.cell? ⟨b, o + i * 8 + 6, none⟩ = some (.slice Au nu cu) ∧ w.cell? ⟨b, o + i * 8 + 7, none⟩ = some (.int .i64 a.dst) := by
  obtain ⟨ba, oa, y, hA, hAV, k0, k1, k2, k3, k4, k5, k6, k7⟩ := arc_at hl hc hs hi
  obtain ⟨y1, y2, ⟨g1, g2, g3⟩, y4, y5, y6⟩ := y
  obtain ⟨q1, q2, hg, q4, ⟨cu, hus⟩, q6⟩ := id hAV
  obtain ⟨Au, us, hyu, _⟩ := hus
  simp only at hyu q1 q2 q4 q6 k0 k1 k2 k3 k4 k5 k6 k7
  subst q1 q2 q4 q6 hyu
  obtain ⟨_, A9, cs9, vs9, hq9, _⟩ := hg.form
  have hzz : g3 = .slice A9 a.guard.subs.length cs9 := by
    have h9 := congrArg (fun v => match v with | Value.agg cs => cs[2]? | _ => none) hq9
    simpa [nvVal] using h9
  subst hzz
  exact ⟨ba, oa, g1, g2, A9, _, cs9, Au, _, cu, hA, hAV, k0, k1, k2, k3, k4, k5, k6, k7⟩
def NewCf (N : Nat) (v : Value) (w : World) : Prop := ∃ b, v = .pointer (some ⟨b, 0, none⟩) ∧ N ≤ b ∧ w.heap[b]? = some (.cells #[.int .i64 0, .slice none 0 0] 34 (0, 0))
theorem stays_newCf (N : Nat) : Stays Ext (NewCf N) := fun v w w' e ⟨b, h1, h2, h3⟩ => ⟨b, h1, h2, heap_ext e h3⟩
def CrP (w : World) (x : Xt) (e : Ending) (w' : World) : Prop :=
  ((∃ (i k : Nat) (xs : List Int) (A : Option Addr) (c : Nat), CfAt x i k xs ∧ e = .returned (.tuple #[.int .i64 i, .int .i64 k, .slice A xs.length c, .int .i64 1]) ∧ IntsC w' (.slice A xs.length c) xs c) ∨ (CfNo x ∧ e = .returned (.tuple #[.int .i64 0, .int .i64 0, .slice none 0 0, .int .i64 0]))) ∧ Ext w w'
set_option maxRecDepth 100000 in
set_option maxHeartbeats 16000000 in
theorem refConflict_any (w : World) (xv : Value) (x : Xt) (hx : XtV w x xv) (hx0 : xtR x = 0) (hd : ∀ i ≤ x.vars.length, (domL (x.vars.take i)).length ≤ 5000) : Calls Tryd.prog 24 #[xv] w (CrP w x) := by
  have HTK := Lib.hid (fun W (e : Ext w W) a y s ys yv cy (hA : ArcV W a y) (hy : IntsC W yv ys cy) (ha : a ∈ x.arcs) (hv : valsR x.vars ys = 0) => refTake_of W xv x a y s ys yv cy (hx.ext e) hA hy hv ((xtR_ok hx0).2.2.2.2.2.2.2.2 a ha))
  have HOK := Lib.hid hx0
  have hv0 := (valsR_zero (xtR_ok hx0).2.2.2.2.1).1
  have hdom := fun W vv c (hv : VarsC W vv x.vars c) => domain_any W vv x.vars c hv (span_ok hv0) (varsR_le hv0) hd
  obtain ⟨vv, sv, av, c1, c2, c3, rfl, hvv, hsv, hav⟩ := hx
  have hdom := fun W (e : Ext w W) => hdom W vv c1 (hvv.ext e)
  obtain ⟨Av0, rfl, _⟩ := hvv
  obtain ⟨As, rfl, _⟩ := hsv
  obtain ⟨Aa, as', rfl, hal, hac, has, han, ham⟩ := hav
  have HX := Lib.hid (And.intro hal (And.intro hac has))
  have HV0 := Lib.hid hv0
  unfold lenMax at ham
  clear hal hac has hx0 hv0 hd
  go_enter Tryd.func24, Tryd.ntmps24
  go_upto_region 1 with fail
  refine wp_named ?_
  intro W1 hW1
  have hE1 : Ext w W1 := by rw [hW1]; exact alloc_ext w _
  have e0 : ∀ w', Ext W1 w' → w'.cell? ⟨w.heap.size, 0, none⟩ = some (.int .i64 x.ins) := fun w' h => h.cell (by rw [hW1]; simp [go_sem])
  have e1 : ∀ w', Ext W1 w' → w'.cell? ⟨w.heap.size, 1, none⟩ = some (.int .i64 x.outs) := fun w' h => h.cell (by rw [hW1]; simp [go_sem])
  have e2 : ∀ w', Ext W1 w' → w'.cell? ⟨w.heap.size, 2, none⟩ = some (.int .i64 x.states) := fun w' h => h.cell (by rw [hW1]; simp [go_sem])
  have e3 : ∀ w', Ext W1 w' → w'.cell? ⟨w.heap.size, 3, none⟩ = some (.slice Av0 x.vars.length c1) := fun w' h => h.cell (by rw [hW1]; simp [go_sem])
  have e4 : ∀ w', Ext W1 w' → w'.cell? ⟨w.heap.size, 4, none⟩ = some (.slice As x.start.length c2) := fun w' h => h.cell (by rw [hW1]; simp [go_sem])
  have e5 : ∀ w', Ext W1 w' → w'.cell? ⟨w.heap.size, 5, none⟩ = some (.slice Aa x.arcs.length c3) := fun w' h => h.cell (by rw [hW1]; simp [go_sem])
  have hR1 := Ext.refl W1
  have hdom := hdom W1 hE1
  have HE1 := Lib.hid hE1
  clear hW1 hE1
  generalize w.heap.size = b1 at *
  go_upto_region 2 with ((with_reducible refine hdom.mono ?_); rintro e W2 ⟨Ad, cd, rfl, hD, e2'⟩)
  have HD := Lib.hid (And.intro (HE1.out.trans e2') hD)
  have HVL := Lib.hid (fun ys (h : ys ∈ domL x.vars) => dom_vals HV0.out h)
  have HDM : Hid (∃ D, D = domL x.vars) := Lib.hid ⟨_, rfl⟩
  obtain ⟨D, hD0⟩ := HDM.out
  have HDD := Lib.hid hD0
  have HPR := Lib.hid (fun a b (ha : a ∈ x.arcs) (hb : b ∈ x.arcs) => pairR_eq HOK.out ha hb)
  unfold pairR at HPR
  rw [← hD0] at HD HVL HPR ⊢
  have e0 := fun w' (h : Ext W2 w') => e0 w' (e2'.trans h)
  have e1 := fun w' (h : Ext W2 w') => e1 w' (e2'.trans h)
  have e2 := fun w' (h : Ext W2 w') => e2 w' (e2'.trans h)
  have e3 := fun w' (h : Ext W2 w') => e3 w' (e2'.trans h)
  have e4 := fun w' (h : Ext W2 w') => e4 w' (e2'.trans h)
  have e5 := fun w' (h : Ext W2 w') => e5 w' (e2'.trans h)
  have hR2 := Ext.refl W2
  clear hdom hR1 hD e2' hD0 HDM
  have hD5 : D.length ≤ 9223372036854775807 := by obtain ⟨_, _, _, _, _, _, _, h⟩ := HD.out.2; exact h
  go_wp2
  go_loopw [7] (fun iv wr => ∃ i : Nat, iv = .int .i64 i ∧ i ≤ x.arcs.length ∧ Hid (noBef x i 0) ∧ Hid (Ext W2 wr)) (fun iv _ => x.arcs.length - (intOf iv).toNat)
  case atStart => exact ⟨0, by first | rfl | simp, Nat.zero_le _, Lib.hid (noBef_zero x), Lib.hid (Ext.refl _)⟩
  case round =>
    obtain ⟨i, rfl, hi, HI, HW⟩ := hrel
    obtain ⟨W3, hW3⟩ : ∃ W, W = wr := ⟨_, rfl⟩; subst hW3
    have hE3 := HW.out
    have e5' := fun w' (h : Ext W3 w') => e5 w' (hE3.trans h)
    have hR3 := Ext.refl W3
    by_cases hlt : i < x.arcs.length
    rotate_left
    · have hie : i = x.arcs.length := by omega
      subst hie
      have hlt3 : ¬ (x.arcs.length : Int) < (x.arcs.length : Int) := by omega
      have HR : Hid (CrP w x (.returned (.tuple #[.int .i64 0, .int .i64 0, .slice none 0 0, .int .i64 0])) W3) := Lib.hid ⟨.inr ⟨noBef_all HI.out, rfl⟩, HD.out.1.trans hE3⟩
      clear e0 e1 e2 e3 e4 hE3 e5 hlt hi
      go_wp2
      refine bodyPost_ret (results_tmp4 rfl _ _ _) rfl ?_
      exact HR.out
    · have hlI : (i : Int) < (x.arcs.length : Int) := by omega
      obtain ⟨a, ha⟩ : ∃ a, x.arcs[i]? = some a := ⟨_, List.getElem?_eq_getElem hlt⟩
      obtain ⟨ba, oa, g1, g2, A9, n9, c9, Au, nu, cu, hA, hAV, k0, k1, k2, k3, k4, k5, k6, k7⟩ := arc_lit HX.out.1 HX.out.2.1 HX.out.2.2 ha
      subst hA
      have HA := Lib.hid (And.intro ha hAV)
      have HI1 := Lib.hid (noBef_row HI.out)
      have k0 : ∀ w', Ext W2 w' → w'.cell? ⟨ba, oa + i * 8, none⟩ = some (.int .i64 a.frm) := fun w' h => (HD.out.1.trans h).cell k0
      have k1 : ∀ w', Ext W2 w' → w'.cell? ⟨ba, oa + i * 8 + 1, none⟩ = some (.int .i64 a.inp) := fun w' h => (HD.out.1.trans h).cell k1
      have k2 : ∀ w', Ext W2 w' → w'.cell? ⟨ba, oa + i * 8 + 2, none⟩ = some (.int .u8 (g1 : Nat)) := fun w' h => (HD.out.1.trans h).cell k2
      have k3 : ∀ w', Ext W2 w' → w'.cell? ⟨ba, oa + i * 8 + 3, none⟩ = some (.int .i64 g2) := fun w' h => (HD.out.1.trans h).cell k3
      have k4 : ∀ w', Ext W2 w' → w'.cell? ⟨ba, oa + i * 8 + 4, none⟩ = some (.slice A9 n9 c9) := fun w' h => (HD.out.1.trans h).cell k4
      have k5 : ∀ w', Ext W2 w' → w'.cell? ⟨ba, oa + i * 8 + 5, none⟩ = some (.int .i64 a.out) := fun w' h => (HD.out.1.trans h).cell k5
      have k6 : ∀ w', Ext W2 w' → w'.cell? ⟨ba, oa + i * 8 + 6, none⟩ = some (.slice Au nu cu) := fun w' h => (HD.out.1.trans h).cell k6
      have k7 : ∀ w', Ext W2 w' → w'.cell? ⟨ba, oa + i * 8 + 7, none⟩ = some (.int .i64 a.dst) := fun w' h => (HD.out.1.trans h).cell k7
      clear ha hAV HI hR3 hE3
      go_wp2
      go_loopw [8] (fun iv wr => ∃ k : Nat, iv = .int .i64 k ∧ k ≤ x.arcs.length ∧ Hid (i < k) ∧ Hid (noBef x i k) ∧ Hid (Ext W2 wr)) (fun iv _ => x.arcs.length - (intOf iv).toNat)
      case atStart => exact ⟨i + 1, by go_num, hlt, Lib.hid (Nat.lt_succ_self i), HI1, HW⟩
      case round =>
        clear HI1 HW e5'
        obtain ⟨k, rfl, hk, HIK, HI, HW⟩ := hrel
        obtain ⟨W4, hW4⟩ : ∃ W, W = wr := ⟨_, rfl⟩; subst hW4
        have hE4 := HW.out
        have e5' := fun w' (h : Ext W4 w') => e5 w' (hE4.trans h)
        have hR4 := Ext.refl W4
        by_cases hkt : k < x.arcs.length
        rotate_left
        · have hke : k = x.arcs.length := by omega
          subst hke
          have hq : ¬ (x.arcs.length : Int) < (x.arcs.length : Int) := by omega
          have HI2 := Lib.hid (noBef_next HI.out)
          clear e0 e1 e2 e3 e4 hE4 e5 hkt hk k0 k1 k2 k3 k4 k5 k6 k7 HI
          go_wp2
          refine ⟨⟨i + 1, by go_num, hlt, HI2, HW⟩, ?_⟩
          simp [intOf]; omega
        · have hkI : (k : Int) < (x.arcs.length : Int) := by omega
          obtain ⟨b, hb⟩ : ∃ a, x.arcs[k]? = some a := ⟨_, List.getElem?_eq_getElem hkt⟩
          obtain ⟨bb, ob, p1, p2, B9, m9, d9, Bu, mu, du, hB, hBV, l0, l1, l2, l3, l4, l5, l6, l7⟩ := arc_lit HX.out.1 HX.out.2.1 HX.out.2.2 hb
          cases hB
          have HB := Lib.hid (And.intro hb hBV)
          have hpr := HPR.out a b (List.mem_of_getElem? HA.out.1) (List.mem_of_getElem? hb)
          have HPC : Hid ((if a.inp = b.inp then D.find? (hitR x a b) else none) = pairC x a b) := Lib.hid hpr
          have HNB := Lib.hid HI.out
          have HNX : Hid (pairC x a b = none → noBef x i (k + 1)) := Lib.hid (fun h => noBef_step HI.out (fun a' b' ha' hb' => by
            rw [HA.out.1] at ha'
            rw [hb] at hb'
            injection ha' with ha'
            injection hb' with hb'
            subst ha' hb'
            exact h))
          have l0 : ∀ w', Ext W2 w' → w'.cell? ⟨ba, oa + k * 8, none⟩ = some (.int .i64 b.frm) := fun w' h => (HD.out.1.trans h).cell l0
          have l1 : ∀ w', Ext W2 w' → w'.cell? ⟨ba, oa + k * 8 + 1, none⟩ = some (.int .i64 b.inp) := fun w' h => (HD.out.1.trans h).cell l1
          have l2 : ∀ w', Ext W2 w' → w'.cell? ⟨ba, oa + k * 8 + 2, none⟩ = some (.int .u8 (p1 : Nat)) := fun w' h => (HD.out.1.trans h).cell l2
          have l3 : ∀ w', Ext W2 w' → w'.cell? ⟨ba, oa + k * 8 + 3, none⟩ = some (.int .i64 p2) := fun w' h => (HD.out.1.trans h).cell l3
          have l4 : ∀ w', Ext W2 w' → w'.cell? ⟨ba, oa + k * 8 + 4, none⟩ = some (.slice B9 m9 d9) := fun w' h => (HD.out.1.trans h).cell l4
          have l5 : ∀ w', Ext W2 w' → w'.cell? ⟨ba, oa + k * 8 + 5, none⟩ = some (.int .i64 b.out) := fun w' h => (HD.out.1.trans h).cell l5
          have l6 : ∀ w', Ext W2 w' → w'.cell? ⟨ba, oa + k * 8 + 6, none⟩ = some (.slice Bu mu du) := fun w' h => (HD.out.1.trans h).cell l6
          have l7 : ∀ w', Ext W2 w' → w'.cell? ⟨ba, oa + k * 8 + 7, none⟩ = some (.int .i64 b.dst) := fun w' h => (HD.out.1.trans h).cell l7
          clear hb hBV hpr HI hE4
          go_wp2
          go_loopw [9] (fun iv wr => ∃ j : Nat, iv = .int .i64 j ∧ j ≤ D.length ∧ Hid (∀ (j' : Nat), j' < j → ∀ ys, D[j']? = some ys → hitR x a b ys = false) ∧ Hid (Ext W2 wr)) (fun iv _ => D.length - (intOf iv).toNat)
          case atStart => exact ⟨0, by first | rfl | simp, Nat.zero_le _, Lib.hid (fun j h => by omega), HW⟩
          case round =>
            clear HW e5' hR4
            obtain ⟨j, rfl, hj, HJ, HW⟩ := hrel
            obtain ⟨W5, hW5⟩ : ∃ W, W = wr := ⟨_, rfl⟩; subst hW5
            have hE5 := HW.out
            by_cases hjt : j < D.length
            rotate_left
            · have hje : j = D.length := by omega
              subst hje
              have hq : decide (D.length < D.length) = false := by simp
              have HI2 : Hid (noBef x i (k + 1)) := Lib.hid (HNX.out (by
                rw [← HPC.out]
                split
                · exact find_no (fun i y h => HJ.out i (List.getElem?_eq_some_iff.1 h).1 y h)
                · rfl))
              clear e0 e1 e2 e3 e4 hE5 hjt hj k0 k2 k3 k4 k5 k6 k7 l0 l2 l3 l4 l5 l6 l7 HJ
              go_upto_region 9 with fail
              go_quiet (fail)
              go_wp2
              refine ⟨⟨k + 1, by go_num, hkt, Lib.hid (Nat.lt_succ_of_lt HIK.out), HI2, Lib.hid (HW.out.drewN _)⟩, ?_⟩
              simp [intOf]; omega
            · have hq : decide (j < D.length) = true := by simpa using hjt
              have e5' := e5 W5 hE5
              have k1' := k1 W5 hE5
              have l1' := l1 W5 hE5
              by_cases hab : a.inp = b.inp
              rotate_left
              · have hab2 : (a.inp == b.inp) = false := beq_eq_false_iff_ne.2 hab
                have HI2 : Hid (noBef x i (k + 1)) := Lib.hid (HNX.out (by
                  rw [← HPC.out, if_neg hab]))
                clear e0 e1 e2 e3 e4 hE5 hj k0 k2 k3 k4 k5 k6 k7 l0 l2 l3 l4 l5 l6 l7 HJ hab
                go_upto_region 9 with fail
                go_quiet (fail)
                go_wp2
                refine ⟨⟨k + 1, by go_num, hkt, Lib.hid (Nat.lt_succ_of_lt HIK.out), HI2, Lib.hid (HW.out.drewN _)⟩, ?_⟩
                simp [intOf]; omega
              · have hab2 : (a.inp == b.inp) = true := beq_iff_eq.2 hab
                have HAB := Lib.hid hab
                obtain ⟨ys, hys⟩ : ∃ y, D[j]? = some y := ⟨_, List.getElem?_eq_getElem hjt⟩
                obtain ⟨bo, oo, u, cy, hAd, _, hcu, hIu⟩ := HD.out.2.at_ hjt
                injection hAd with hAd _ _
                subst hAd
                have hyy : D[j] = ys := by have := List.getElem?_eq_getElem hjt; rw [hys] at this; injection this with this; exact this.symm
                rw [hyy] at hIu
                obtain ⟨Ay, rfl, _⟩ := id hIu
                have HY := Lib.hid (And.intro hys hIu)
                have hcu : ∀ w', Ext W5 w' → w'.cell? ⟨bo, oo + j, none⟩ = some (.slice Ay ys.length cy) := fun w' h => (hE5.trans h).cell hcu
                clear hab hys hIu hyy
                go_upto_region 9 with fail
                go_quiet (fail)
                go_upto_region 11 with fail
                refine wp_named ?_
                intro W6 hW6
                have hE6 : Ext W2 W6 := by rw [hW6]; exact hE5.drewN _
                have hcu : ∀ w', Ext W6 w' → w'.cell? ⟨bo, oo + j, none⟩ = some (.slice Ay ys.length cy) := fun w' h => hcu w' (Ext.trans (by rw [hW6]; exact (Ext.refl W5).drewN _) h)
                clear hW6 e5' k1' l1' hR2 hE5 HW
                have e0 := fun w' (h : Ext W6 w') => e0 w' ((hE6).trans h)
                have e1 := fun w' (h : Ext W6 w') => e1 w' ((hE6).trans h)
                have e2 := fun w' (h : Ext W6 w') => e2 w' ((hE6).trans h)
                have e3 := fun w' (h : Ext W6 w') => e3 w' ((hE6).trans h)
                have e4 := fun w' (h : Ext W6 w') => e4 w' ((hE6).trans h)
                have e5 := fun w' (h : Ext W6 w') => e5 w' ((hE6).trans h)
                have k0 := fun w' (h : Ext W6 w') => k0 w' ((hE6).trans h)
                have k1 := fun w' (h : Ext W6 w') => k1 w' ((hE6).trans h)
                have k2 := fun w' (h : Ext W6 w') => k2 w' ((hE6).trans h)
                have k3 := fun w' (h : Ext W6 w') => k3 w' ((hE6).trans h)
                have k4 := fun w' (h : Ext W6 w') => k4 w' ((hE6).trans h)
                have k5 := fun w' (h : Ext W6 w') => k5 w' ((hE6).trans h)
                have k6 := fun w' (h : Ext W6 w') => k6 w' ((hE6).trans h)
                have k7 := fun w' (h : Ext W6 w') => k7 w' ((hE6).trans h)
                have l0 := fun w' (h : Ext W6 w') => l0 w' ((hE6).trans h)
                have l1 := fun w' (h : Ext W6 w') => l1 w' ((hE6).trans h)
                have l2 := fun w' (h : Ext W6 w') => l2 w' ((hE6).trans h)
                have l3 := fun w' (h : Ext W6 w') => l3 w' ((hE6).trans h)
                have l4 := fun w' (h : Ext W6 w') => l4 w' ((hE6).trans h)
                have l5 := fun w' (h : Ext W6 w') => l5 w' ((hE6).trans h)
                have l6 := fun w' (h : Ext W6 w') => l6 w' ((hE6).trans h)
                have l7 := fun w' (h : Ext W6 w') => l7 w' ((hE6).trans h)
                have hR6 := Ext.refl W6
                have HE6 := Lib.hid hE6
                clear hE6
                refine wp_region_ext 12 (factsOf [(11, NewCf W6.heap.size)]) (fun k => ([[], [0], [], [0, 1, 2], [0, 1, 2, 3], [0, 1, 2, 3, 4], [], [], [6, 7], [6, 7, 8], [0, 1, 2, 3, 4, 5, 6, 7, 8, 9], [], [0, 1, 2, 3, 4, 5, 6, 7, 8, 9, 10, 11]] : List (List Nat)).getD k []) (by kernel_rfl) (by kernel_rfl) Ext.pre (mono_cons (stays_newCf _) (mono_nil)) ?_
                simp only [List.take_succ_cons, List.take_zero]
                repeat (first | (with_reducible refine lexL_quiet' (v := ?_) ?_ ?_ ?_ ?_; rotate_left; (· with_reducible rfl); (· simp [factsOf]); (· intro w1 hw1 _; go_simp; with_reducible rfl); (try simp only [Act.put, List.setIfInBounds_toArray, List.set_cons_zero, List.set_cons_succ])) | (with_reducible refine lexL_skip ?_ ?_; (· simp [Region.wanted, yielded, undef]); (try simp only [Act.put, List.setIfInBounds_toArray, List.set_cons_zero, List.set_cons_succ])) | (with_reducible refine lexL_quiet (v := ?_) ?_ ?_ ?_ ?_; rotate_left; (· simp [Region.wanted, yielded, undef]); (· simp [factsOf]); (· intro w1 hw1 _; go_simp; with_reducible rfl); (try simp only [Act.put, List.setIfInBounds_toArray, List.set_cons_zero, List.set_cons_succ])))
                with_reducible refine lexL_give' (φ := ?_) ?_ ?_ ?_ ?_; rotate_left; (· with_reducible rfl); (· simp only [factsOf, Nat.reduceAdd, ↓reduceIte, Nat.reduceEqDiff]; rfl)
                · intro w5 hw5 _
                  go_simp
                  exact ⟨w5.heap.size, rfl, hw5.size, heap_alloc_new _ _⟩
                rintro v11 w5 hw5 ⟨b11, rfl, -, -⟩ hk2
                clear hk2 hw5 w5
                (try simp only [Act.put, List.setIfInBounds_toArray, List.set_cons_zero, List.set_cons_succ])
                with_reducible refine lexL_nil ?_; intro w1 hw1 hk1; simp only [List.drop_succ_cons, List.drop_zero]
                obtain ⟨b11', hv11, hN11, hB11⟩ := hk1.get 11 rfl rfl
                have hv11 := ptr_inj hv11
                subst hv11
                go_upto_region 12 with (with_reducible refine wpList_store_blk _ rfl 34 _ _ rfl b11 34 _ _ rfl rfl hB11 (by kernel_rfl) (by kernel_rfl) (by kernel_rfl) ?_; intro W7 h7 g7)
                have hE7 : Ext W6 W7 := Below.grown hw1 g7 hw1.size (fun k hk => by cases hk; exact hN11)
                have HC7 : Hid (Ext W2 W7 ∧ W7.heap[b11]? = some (.cells #[.int .i64 a.frm, .slice Ay ys.length cy] 34 (0, 0))) := Lib.hid ⟨HE6.out.trans hE7, h7⟩
                have e0 := fun w' (h : Ext W7 w') => e0 w' ((hE7).trans h)
                have e1 := fun w' (h : Ext W7 w') => e1 w' ((hE7).trans h)
                have e2 := fun w' (h : Ext W7 w') => e2 w' ((hE7).trans h)
                have e3 := fun w' (h : Ext W7 w') => e3 w' ((hE7).trans h)
                have e4 := fun w' (h : Ext W7 w') => e4 w' ((hE7).trans h)
                have e5 := fun w' (h : Ext W7 w') => e5 w' ((hE7).trans h)
                have k0 := fun w' (h : Ext W7 w') => k0 w' ((hE7).trans h)
                have k1 := fun w' (h : Ext W7 w') => k1 w' ((hE7).trans h)
                have k2 := fun w' (h : Ext W7 w') => k2 w' ((hE7).trans h)
                have k3 := fun w' (h : Ext W7 w') => k3 w' ((hE7).trans h)
                have k4 := fun w' (h : Ext W7 w') => k4 w' ((hE7).trans h)
                have k5 := fun w' (h : Ext W7 w') => k5 w' ((hE7).trans h)
                have k6 := fun w' (h : Ext W7 w') => k6 w' ((hE7).trans h)
                have k7 := fun w' (h : Ext W7 w') => k7 w' ((hE7).trans h)
                have l0 := fun w' (h : Ext W7 w') => l0 w' ((hE7).trans h)
                have l1 := fun w' (h : Ext W7 w') => l1 w' ((hE7).trans h)
                have l2 := fun w' (h : Ext W7 w') => l2 w' ((hE7).trans h)
                have l3 := fun w' (h : Ext W7 w') => l3 w' ((hE7).trans h)
                have l4 := fun w' (h : Ext W7 w') => l4 w' ((hE7).trans h)
                have l5 := fun w' (h : Ext W7 w') => l5 w' ((hE7).trans h)
                have l6 := fun w' (h : Ext W7 w') => l6 w' ((hE7).trans h)
                have l7 := fun w' (h : Ext W7 w') => l7 w' ((hE7).trans h)
                have hcu := fun w' (h : Ext W7 w') => hcu w' (hE7.trans h)
                have s0 : ∀ w', Ext W7 w' → w'.cell? ⟨b11, 0, none⟩ = some (.int .i64 a.frm) := fun w' h => h.cell (cell_of_blk h7 0 (u := .int .i64 a.frm) rfl)
                have s1 : ∀ w', Ext W7 w' → w'.cell? ⟨b11, 1, none⟩ = some (.slice Ay ys.length cy) := fun w' h => h.cell (cell_of_blk h7 1 (u := .slice Ay ys.length cy) rfl)
                have hR7 := Ext.refl W7
                clear hR6 hN11 hB11 g7 h7 hw1 hk1 hE7
                obtain ⟨qa, hqa⟩ : ∃ q, q = tkR x a a.frm ys := ⟨_, rfl⟩
                obtain ⟨qb, hqb⟩ : ∃ q, q = tkR x b a.frm ys := ⟨_, rfl⟩
                have hta := fun W (e : Ext W7 W) => HTK.out W (HD.out.1.trans (HC7.out.1.trans e)) a _ a.frm ys _ cy (HA.out.2.ext (HD.out.1.trans (HC7.out.1.trans e))) (HY.out.2.ext (HC7.out.1.trans e)) (List.mem_of_getElem? HA.out.1) (HVL.out ys (List.mem_of_getElem? HY.out.1))
                have htb := fun W (e : Ext W7 W) => HTK.out W (HD.out.1.trans (HC7.out.1.trans e)) b _ a.frm ys _ cy (HB.out.2.ext (HD.out.1.trans (HC7.out.1.trans e))) (HY.out.2.ext (HC7.out.1.trans e)) (List.mem_of_getElem? HB.out.1) (HVL.out ys (List.mem_of_getElem? HY.out.1))
                rw [← hqa] at hta
                rw [← hqb] at htb
                have HTA := Lib.hid hta
                have HTB := Lib.hid htb
                clear hta htb
                have HQ : Hid (hitR x a b ys = (qa.isSome && qb.isSome)) := Lib.hid (by unfold hitR oneB; rw [← hqa, ← hqb])
                clear hqa hqb
                obtain ⟨⟨t, zs, can⟩, hqt⟩ : ∃ p, p = tkT qa := ⟨_, rfl⟩
                obtain ⟨⟨t', zs', can'⟩, hqt'⟩ : ∃ p, p = tkT qb := ⟨_, rfl⟩
                rw [← hqt] at HTA
                rw [← hqt'] at HTB
                unfold TkQ avVal at HTA HTB
                dsimp only at HTA HTB
                have HCN : Hid (can = (if qa.isSome then 1 else 0) ∧ can' = (if qb.isSome then 1 else 0)) := Lib.hid ⟨by
                  have h := congrArg (fun p => p.2.2) hqt
                  cases qa <;> exact h, by
                  have h := congrArg (fun p => p.2.2) hqt'
                  cases qb <;> exact h⟩
                clear hqt hqt'
                refine RI.wp_region_inv 13 (RsI 7 11 12 (tp2 can) t zs W7) (fun k => [7, 11, 12].contains k) (fun k => ([[], [], [1], [], [1, 2, 3], [1, 2, 3, 4], [], [0, 1, 2, 3, 4, 5, 6], [0, 1, 2, 3, 4, 5, 6, 7], [0, 1, 2, 3, 4, 5, 6, 7, 8], [0, 1, 2, 3, 4, 5, 6, 7, 8], [], [0, 1, 2, 3, 4, 5, 6, 7, 8, 9, 11], [0, 1, 2, 3, 4, 5, 6, 7, 8, 9, 10, 11, 12]] : List (List Nat)).getD k []) (by kernel_rfl) (by kernel_rfl) ?_ ?_
                rotate_left; simp only [List.take_succ_cons, List.take_zero]; rotate_left
                · exact RsI.start (Ext.refl _).drew
                repeat (first | (with_reducible refine RI.lexL_quiet' (v := ?_) ?_ ?_ ?_ ?_; rotate_left; (· with_reducible rfl); (· decide); (· intro G w1 hI1 hA1; have hw1 := hI1.ext; go_simp; with_reducible rfl); (try simp only [Act.put, List.setIfInBounds_toArray, List.set_cons_zero, List.set_cons_succ])) | (with_reducible refine RI.lexL_skip ?_ ?_; (· simp [Region.wanted, yielded, undef]); (try simp only [Act.put, List.setIfInBounds_toArray, List.set_cons_zero, List.set_cons_succ])) | (with_reducible refine RI.lexL_quiet (v := ?_) ?_ ?_ ?_ ?_; rotate_left; (· simp [Region.wanted, yielded, undef]); (· decide); (· intro G w1 hI1 hA1; have hw1 := hI1.ext; go_simp; with_reducible rfl); (try simp only [Act.put, List.setIfInBounds_toArray, List.set_cons_zero, List.set_cons_succ])))
                with_reducible refine RI.lexL_give' ?_ ?_ ?_ ?_; (· with_reducible rfl); (· decide)
                · intro G w5 hI hA hg
                  have hw5 := hI.ext
                  go_simp
                  refine (HTA.out w5 hw5).mono ?_
                  rintro e w6 ⟨A, c, rfl, h1, h2, e6⟩
                  exact ⟨_, rfl, hI.call (by decide) (by decide) hg e6 h1 h2⟩
                intro v7 G w5 hI hs2
                obtain ⟨A7x, c7x, hv7, -⟩ := hI.c v7 (hs2 7 v7 rfl)
                unfold tp2 cfgV at hv7
                subst hv7
                clear hI hs2 G w5
                (try simp only [Act.put, List.setIfInBounds_toArray, List.set_cons_zero, List.set_cons_succ])
                repeat (first | (with_reducible refine RI.lexL_quiet' (v := ?_) ?_ ?_ ?_ ?_; rotate_left; (· with_reducible rfl); (· decide); (· intro G w1 hI1 hA1; have hw1 := hI1.ext; go_simp; with_reducible rfl); (try simp only [Act.put, List.setIfInBounds_toArray, List.set_cons_zero, List.set_cons_succ])) | (with_reducible refine RI.lexL_skip ?_ ?_; (· simp [Region.wanted, yielded, undef]); (try simp only [Act.put, List.setIfInBounds_toArray, List.set_cons_zero, List.set_cons_succ])) | (with_reducible refine RI.lexL_quiet (v := ?_) ?_ ?_ ?_ ?_; rotate_left; (· simp [Region.wanted, yielded, undef]); (· decide); (· intro G w1 hI1 hA1; have hw1 := hI1.ext; go_simp; with_reducible rfl); (try simp only [Act.put, List.setIfInBounds_toArray, List.set_cons_zero, List.set_cons_succ])))
                with_reducible refine RI.lexL_give' ?_ ?_ ?_ ?_; (· with_reducible rfl); (· decide)
                · intro G w5 hI hA hg
                  go_simp
                  exact hI.alloc (by decide) (by decide) hg
                intro v11 G w5 hI hs2
                obtain ⟨b10x, hv11, -⟩ := hI.a v11 (hs2 11 v11 rfl)
                unfold ptrV at hv11
                subst hv11
                clear hI hs2 G w5
                (try simp only [Act.put, List.setIfInBounds_toArray, List.set_cons_zero, List.set_cons_succ])
                with_reducible refine RI.lexL_give' ?_ ?_ ?_ ?_; (· with_reducible rfl); (· decide)
                · intro G w5 hI hA hg
                  have h7 := hA 7 (by decide) _ rfl
                  have h11 := hA 11 (by decide) _ rfl
                  obtain ⟨b', hb', _, _, h3⟩ := hI.a _ h11
                  have hb' := ptrV_inj (b := b10x) hb'
                  subst hb'
                  refine gives_store_blk 34 (.tmp 11) (.tmp 75) ?_ b10x ?_ ?_ (h3 hg) (cells := #[.int .i64 t, .slice A7x (zs).length c7x]) rfl (by kernel_rfl) (by kernel_rfl) (fun w' hB hgr => hI.store (by decide) (by decide) tp2_inj hg h7 h11 hB hgr) <;> first | rfl | exact rfl | (go_simp; done)
                intro v12 G w5 hI hs2
                clear hI hs2 G w5
                (try simp only [Act.put, List.setIfInBounds_toArray, List.set_cons_zero, List.set_cons_succ])
                repeat (first | (with_reducible refine RI.lexL_quiet' (v := ?_) ?_ ?_ ?_ ?_; rotate_left; (· with_reducible rfl); (· decide); (· intro G w1 hI1 hA1; have hw1 := hI1.ext; go_simp; with_reducible rfl); (try simp only [Act.put, List.setIfInBounds_toArray, List.set_cons_zero, List.set_cons_succ])) | (with_reducible refine RI.lexL_skip ?_ ?_; (· simp [Region.wanted, yielded, undef]); (try simp only [Act.put, List.setIfInBounds_toArray, List.set_cons_zero, List.set_cons_succ])) | (with_reducible refine RI.lexL_quiet (v := ?_) ?_ ?_ ?_ ?_; rotate_left; (· simp [Region.wanted, yielded, undef]); (· decide); (· intro G w1 hI1 hA1; have hw1 := hI1.ext; go_simp; with_reducible rfl); (try simp only [Act.put, List.setIfInBounds_toArray, List.set_cons_zero, List.set_cons_succ])))
                with_reducible refine RI.lexL_nil ?_; intro w1 hI1; simp only [List.drop_succ_cons, List.drop_zero]
                obtain ⟨W8, hW9⟩ : ∃ W, W = w1 := ⟨_, rfl⟩
                subst hW9
                have hEW8 := (hI1.done tp2_inj (u := v12) (A := A7x) (c := c7x) (b := b10x) rfl rfl rfl).1
                clear hI1
                go_upto_region 13 with fail
                have e0 := fun w' (h : Ext W8 w') => e0 w' ((hEW8).trans h)
                have e1 := fun w' (h : Ext W8 w') => e1 w' ((hEW8).trans h)
                have e2 := fun w' (h : Ext W8 w') => e2 w' ((hEW8).trans h)
                have e3 := fun w' (h : Ext W8 w') => e3 w' ((hEW8).trans h)
                have e4 := fun w' (h : Ext W8 w') => e4 w' ((hEW8).trans h)
                have e5 := fun w' (h : Ext W8 w') => e5 w' ((hEW8).trans h)
                have l0 := fun w' (h : Ext W8 w') => l0 w' ((hEW8).trans h)
                have l1 := fun w' (h : Ext W8 w') => l1 w' ((hEW8).trans h)
                have l2 := fun w' (h : Ext W8 w') => l2 w' ((hEW8).trans h)
                have l3 := fun w' (h : Ext W8 w') => l3 w' ((hEW8).trans h)
                have l4 := fun w' (h : Ext W8 w') => l4 w' ((hEW8).trans h)
                have l5 := fun w' (h : Ext W8 w') => l5 w' ((hEW8).trans h)
                have l6 := fun w' (h : Ext W8 w') => l6 w' ((hEW8).trans h)
                have l7 := fun w' (h : Ext W8 w') => l7 w' ((hEW8).trans h)
                have s0 := fun w' (h : Ext W8 w') => s0 w' (hEW8.trans h)
                have s1 := fun w' (h : Ext W8 w') => s1 w' (hEW8.trans h)
                have hcu := fun w' (h : Ext W8 w') => hcu w' (hEW8.trans h)
                have HTB8 := Lib.hid (fun w' (h : Ext W8 w') => HTB.out w' (hEW8.trans h))
                have HE8 := Lib.hid hEW8
                clear k0 k1 k2 k3 k4 k5 k6 k7 hR7 hEW8
                refine RI.wp_region_inv 13 (RsI 7 11 12 (tp2 can') t' zs' W8) (fun k => [7, 11, 12].contains k) (fun k => ([[], [], [1], [], [1, 2, 3], [1, 2, 3, 4], [], [0, 1, 2, 3, 4, 5, 6], [0, 1, 2, 3, 4, 5, 6, 7], [0, 1, 2, 3, 4, 5, 6, 7, 8], [0, 1, 2, 3, 4, 5, 6, 7, 8], [], [0, 1, 2, 3, 4, 5, 6, 7, 8, 9, 11], [0, 1, 2, 3, 4, 5, 6, 7, 8, 9, 10, 11, 12]] : List (List Nat)).getD k []) (by kernel_rfl) (by kernel_rfl) ?_ ?_
                rotate_left; simp only [List.take_succ_cons, List.take_zero]; rotate_left
                · exact RsI.start (Ext.refl _).drew
                repeat (first | (with_reducible refine RI.lexL_quiet' (v := ?_) ?_ ?_ ?_ ?_; rotate_left; (· with_reducible rfl); (· decide); (· intro G w1 hI1 hA1; have hw1 := hI1.ext; go_simp; with_reducible rfl); (try simp only [Act.put, List.setIfInBounds_toArray, List.set_cons_zero, List.set_cons_succ])) | (with_reducible refine RI.lexL_skip ?_ ?_; (· simp [Region.wanted, yielded, undef]); (try simp only [Act.put, List.setIfInBounds_toArray, List.set_cons_zero, List.set_cons_succ])) | (with_reducible refine RI.lexL_quiet (v := ?_) ?_ ?_ ?_ ?_; rotate_left; (· simp [Region.wanted, yielded, undef]); (· decide); (· intro G w1 hI1 hA1; have hw1 := hI1.ext; go_simp; with_reducible rfl); (try simp only [Act.put, List.setIfInBounds_toArray, List.set_cons_zero, List.set_cons_succ])))
                with_reducible refine RI.lexL_give' ?_ ?_ ?_ ?_; (· with_reducible rfl); (· decide)
                · intro G w5 hI hA hg
                  have hw5 := hI.ext
                  go_simp
                  refine (HTB8.out w5 hw5).mono ?_
                  rintro e w6 ⟨A, c, rfl, h1, h2, e6⟩
                  exact ⟨_, rfl, hI.call (by decide) (by decide) hg e6 h1 h2⟩
                intro v7 G w5 hI hs2
                obtain ⟨A7y, c7y, hv7, -⟩ := hI.c v7 (hs2 7 v7 rfl)
                unfold tp2 cfgV at hv7
                subst hv7
                clear hI hs2 G w5
                (try simp only [Act.put, List.setIfInBounds_toArray, List.set_cons_zero, List.set_cons_succ])
                repeat (first | (with_reducible refine RI.lexL_quiet' (v := ?_) ?_ ?_ ?_ ?_; rotate_left; (· with_reducible rfl); (· decide); (· intro G w1 hI1 hA1; have hw1 := hI1.ext; go_simp; with_reducible rfl); (try simp only [Act.put, List.setIfInBounds_toArray, List.set_cons_zero, List.set_cons_succ])) | (with_reducible refine RI.lexL_skip ?_ ?_; (· simp [Region.wanted, yielded, undef]); (try simp only [Act.put, List.setIfInBounds_toArray, List.set_cons_zero, List.set_cons_succ])) | (with_reducible refine RI.lexL_quiet (v := ?_) ?_ ?_ ?_ ?_; rotate_left; (· simp [Region.wanted, yielded, undef]); (· decide); (· intro G w1 hI1 hA1; have hw1 := hI1.ext; go_simp; with_reducible rfl); (try simp only [Act.put, List.setIfInBounds_toArray, List.set_cons_zero, List.set_cons_succ])))
                with_reducible refine RI.lexL_give' ?_ ?_ ?_ ?_; (· with_reducible rfl); (· decide)
                · intro G w5 hI hA hg
                  go_simp
                  exact hI.alloc (by decide) (by decide) hg
                intro v11 G w5 hI hs2
                obtain ⟨b10y, hv11, -⟩ := hI.a v11 (hs2 11 v11 rfl)
                unfold ptrV at hv11
                subst hv11
                clear hI hs2 G w5
                (try simp only [Act.put, List.setIfInBounds_toArray, List.set_cons_zero, List.set_cons_succ])
                with_reducible refine RI.lexL_give' ?_ ?_ ?_ ?_; (· with_reducible rfl); (· decide)
                · intro G w5 hI hA hg
                  have h7 := hA 7 (by decide) _ rfl
                  have h11 := hA 11 (by decide) _ rfl
                  obtain ⟨b', hb', _, _, h3⟩ := hI.a _ h11
                  have hb' := ptrV_inj (b := b10y) hb'
                  subst hb'
                  refine gives_store_blk 34 (.tmp 13) (.tmp 86) ?_ b10y ?_ ?_ (h3 hg) (cells := #[.int .i64 t', .slice A7y (zs').length c7y]) rfl (by kernel_rfl) (by kernel_rfl) (fun w' hB hgr => hI.store (by decide) (by decide) tp2_inj hg h7 h11 hB hgr) <;> first | rfl | exact rfl | (go_simp; done)
                intro v12 G w5 hI hs2
                clear hI hs2 G w5
                (try simp only [Act.put, List.setIfInBounds_toArray, List.set_cons_zero, List.set_cons_succ])
                repeat (first | (with_reducible refine RI.lexL_quiet' (v := ?_) ?_ ?_ ?_ ?_; rotate_left; (· with_reducible rfl); (· decide); (· intro G w1 hI1 hA1; have hw1 := hI1.ext; go_simp; with_reducible rfl); (try simp only [Act.put, List.setIfInBounds_toArray, List.set_cons_zero, List.set_cons_succ])) | (with_reducible refine RI.lexL_skip ?_ ?_; (· simp [Region.wanted, yielded, undef]); (try simp only [Act.put, List.setIfInBounds_toArray, List.set_cons_zero, List.set_cons_succ])) | (with_reducible refine RI.lexL_quiet (v := ?_) ?_ ?_ ?_ ?_; rotate_left; (· simp [Region.wanted, yielded, undef]); (· decide); (· intro G w1 hI1 hA1; have hw1 := hI1.ext; go_simp; with_reducible rfl); (try simp only [Act.put, List.setIfInBounds_toArray, List.set_cons_zero, List.set_cons_succ])))
                with_reducible refine RI.lexL_nil ?_; intro w1 hI1; simp only [List.drop_succ_cons, List.drop_zero]
                obtain ⟨W9, hW9⟩ : ∃ W, W = w1 := ⟨_, rfl⟩
                subst hW9
                have hEW9 := (hI1.done tp2_inj (u := v12) (A := A7y) (c := c7y) (b := b10y) rfl rfl rfl).1
                clear hI1
                go_upto_region 14 with fail
                have hcu := hcu W9 hEW9
                have HW9 : Hid (Ext W2 W9) := Lib.hid (HC7.out.1.trans (HE8.out.trans hEW9))
                clear e0 e1 e2 e3 e4 e5 l0 l1 l2 l3 l4 l5 l6 l7 s0 s1 hEW9
                cases qa with
                | none =>
                  cases qb with
                  | none =>
                    have HH : Hid (hitR x a b ys = false) := Lib.hid HQ.out
                    have HJ2 : Hid (∀ (j' : Nat), j' < j + 1 → ∀ ys, D[j']? = some ys → hitR x a b ys = false) := Lib.hid (fun j' hj' zs h => by
                      by_cases hjj : j' = j
                      · subst hjj
                        rw [HY.out.1] at h
                        injection h with h
                        subst h
                        exact HH.out
                      · exact HJ.out j' (by omega) zs h)
                    obtain ⟨rfl, rfl⟩ : can = 0 ∧ can' = 0 := HCN.out
                    clear hcu HQ
                    go_wp2
                    refine ⟨⟨j + 1, by go_num, hjt, HJ2, HW9⟩, ?_⟩
                    simp [intOf]; omega
                  | some q =>
                    have HH : Hid (hitR x a b ys = false) := Lib.hid HQ.out
                    have HJ2 : Hid (∀ (j' : Nat), j' < j + 1 → ∀ ys, D[j']? = some ys → hitR x a b ys = false) := Lib.hid (fun j' hj' zs h => by
                      by_cases hjj : j' = j
                      · subst hjj
                        rw [HY.out.1] at h
                        injection h with h
                        subst h
                        exact HH.out
                      · exact HJ.out j' (by omega) zs h)
                    obtain ⟨rfl, rfl⟩ : can = 0 ∧ can' = 1 := HCN.out
                    clear hcu HQ
                    go_wp2
                    refine ⟨⟨j + 1, by go_num, hjt, HJ2, HW9⟩, ?_⟩
                    simp [intOf]; omega
                | some q =>
                  cases qb with
                  | none =>
                    have HH : Hid (hitR x a b ys = false) := Lib.hid HQ.out
                    have HJ2 : Hid (∀ (j' : Nat), j' < j + 1 → ∀ ys, D[j']? = some ys → hitR x a b ys = false) := Lib.hid (fun j' hj' zs h => by
                      by_cases hjj : j' = j
                      · subst hjj
                        rw [HY.out.1] at h
                        injection h with h
                        subst h
                        exact HH.out
                      · exact HJ.out j' (by omega) zs h)
                    obtain ⟨rfl, rfl⟩ : can = 1 ∧ can' = 0 := HCN.out
                    clear hcu HQ
                    go_wp2
                    refine ⟨⟨j + 1, by go_num, hjt, HJ2, HW9⟩, ?_⟩
                    simp [intOf]; omega
                  | some q' =>
                    obtain ⟨rfl, rfl⟩ : can = 1 ∧ can' = 1 := HCN.out
                    have hpc : pairC x a b = some ys := by
                      rw [← HPC.out, if_pos HAB.out]
                      exact find_at HJ.out HY.out.1 HQ.out
                    have HR : Hid (∀ w', Ext W9 w' → CrP w x (.returned (.tuple #[.int .i64 i, .int .i64 k, .slice Ay ys.length cy, .int .i64 1])) w') := Lib.hid (fun w' h => ⟨.inl ⟨i, k, ys, Ay, cy, ⟨HIK.out, ⟨a, b, HA.out.1, HB.out.1, hpc⟩, HNB.out⟩, rfl, HY.out.2.ext (HW9.out.trans h)⟩, HD.out.1.trans (HW9.out.trans h)⟩)
                    have hjI : (j : Int) < (D.length : Int) := by omega
                    clear hpc
                    go_upto_region 15 with fail
                    go_quiet (fail)
                    go_wp2
                    refine bodyPost_ret (results_tmp4 rfl _ _ _) rfl ?_
                    exact HR.out _ ((Ext.refl _).drewN _)
end Go.Proofs.YtggffdkgfgdaoaaDoor
