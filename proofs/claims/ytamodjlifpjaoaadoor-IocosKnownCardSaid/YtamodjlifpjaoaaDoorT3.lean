/- IocosTest 9. -/
import Derived.Test.YtamodjlifpjaoaaDoorT1
import Derived.Test.YtamodjlifpjaoaaDoorGH
import Derived.Test.YtamodjlifpjaoaaDoorGL
import Derived.Test.YtamodjlifpjaoaaDoorGJ
namespace Go.Proofs.YtamodjlifpjaoaaDoor
open Go.RowKit
set_option linter.unusedVariables false
set_option linter.unusedSimpArgs false
attribute [local go_sem] Oper.quietV quietV Oper.gives givesV ext_refl_iff ext_alloc_iff ext_drew_iff ext_drewN_iff
set_option maxRecDepth 100000 in
set_option maxHeartbeats 16000000 in
theorem iocosTest_any (w : World) (bv v : Value) (r : BNum) (L : List Nd) (ct : Nat) (hb : BV w bv r) (hN : NodesC w v L ct) (hT : Tab w) :
    Calls Tryd.prog 9 #[bv, v] w fun e w' => e = .returned (.bool true) ∧ Ext w w' := by
  have hof := fun W (e : Ext w W) => bOf_any W bv r (hb.ext e)
  have hlv0 := fun W (e : Ext w W) => lives_any W (hT.ext e)
  obtain ⟨A, c, rfl, hA, h1, h2, h3, _, hnm⟩ := id hb
  obtain ⟨At, M, _, rfl, _, _, _, hlm⟩ := id hN
  unfold lenMax at hlm
  have HX := Lib.hid (And.intro hN hT)
  clear hb hN hT hA
  go_enter Tryd.func9, Tryd.ntmps9
  go_upto_region 1 with fail
  refine wp_named ?_
  intro W1 hW1
  have hE1 : Ext w W1 := by rw [hW1]; exact (Ext.refl _).alloc _
  have k0 : W1.cell? ⟨w.heap.size, 0, none⟩ = some (.int .u8 r.i) := by rw [hW1]; simp [go_sem]
  have k1 : W1.cell? ⟨w.heap.size, 1, none⟩ = some (.int .u8 r.o) := by rw [hW1]; simp [go_sem]
  have k2 : W1.cell? ⟨w.heap.size, 2, none⟩ = some (.int .u8 r.m) := by rw [hW1]; simp [go_sem]
  have k3 : W1.cell? ⟨w.heap.size, 3, none⟩ = some (.slice A r.n c) := by rw [hW1]; simp [go_sem]
  have k4 : W1.cell? ⟨w.heap.size, 4, none⟩ = some (.bool r.f) := by rw [hW1]; simp [go_sem]
  clear hW1
  generalize w.heap.size = b2 at *
  have HK := Lib.hid (And.intro k0 (And.intro k1 (And.intro k2 (And.intro k3 k4))))
  have HE1 := Lib.hid hE1
  clear k0 k1 k2 k3 k4 hE1
  go_wp2
  go_loopw [5, 6] (fun sv iv wr => ∃ s : Int, ∃ i : Nat, sv = .int .i64 s ∧ iv = .int .i64 i ∧ i ≤ L.length ∧ i ≤ 1031 ∧ Ext W1 wr) (fun _ iv _ => 1031 - (intOf iv).toNat)
  case atStart => exact ⟨0, 0, rfl, rfl, by omega, by omega, by first | exact Ext.refl _ | exact (Ext.refl _).drew | exact (Ext.refl _).drewN _⟩
  case round =>
    obtain ⟨s, i, rfl, rfl, hi, hi2, hE⟩ := hrel
    obtain ⟨W5, hW5⟩ : ∃ W, W = wr := ⟨_, rfl⟩; subst hW5
    have HE5 := Lib.hid hE
    by_cases hgo : i < L.length ∧ i < 1031
    · obtain ⟨hlt, hlt2⟩ := hgo
      obtain ⟨nd, hnd⟩ : ∃ nd, L[i]? = some nd := ⟨_, List.getElem?_eq_getElem hlt⟩
      obtain ⟨b, of, u, cu, hA, d0, d1, hu⟩ := (HX.out.1.ext (HE1.out.trans hE)).at_ hnd
      injection hA with hA _ _
      subst hA
      obtain ⟨Au, rfl, _, _, hum⟩ := id hu
      unfold lenMax at hum
      clear hnd hE hu
      go_wp2
      go_roundw
      case rel => exact ⟨_, i + 1, rfl, by go_num, by omega, by omega, by first | exact HE5.out | exact HE5.out.drew | exact HE5.out.drewN _⟩
      case measure => simp [intOf]; omega
    · have hlv := hlv0 W5 (HE1.out.trans hE)
      have hstop : i = L.length ∨ i = 1031 := by omega
      have hI : ¬ (i : Int) < (L.length : Int) ∨ ¬ (i : Int) < 1031 := by omega
      clear hE
      by_cases hbig : 1030 < L.length
      · have hI2 : (1030 : Int) < (L.length : Int) := by omega
        by_cases hil : i < L.length
        · have hI3 : (i : Int) < (L.length : Int) := by omega
          have hI4 : ¬ (i : Int) < 1031 := by omega
          clear hI
          go_wp2_with ((with_reducible refine hlv.mono ?_); rintro e W7 ⟨rfl, e7⟩)
          go_ret
          exact ⟨rfl, HE1.out.trans (HE5.out.trans e7)⟩
        · have hI3 : ¬ (i : Int) < (L.length : Int) := by omega
          clear hI
          go_wp2_with ((with_reducible refine hlv.mono ?_); rintro e W7 ⟨rfl, e7⟩)
          go_ret
          exact ⟨rfl, HE1.out.trans (HE5.out.trans e7)⟩
      · have hI2 : ¬ (1030 : Int) < (L.length : Int) := by omega
        have hI3 : ¬ (i : Int) < (L.length : Int) := by omega
        by_cases hs : 3000 < s
        · clear hI
          go_wp2_with ((with_reducible refine hlv.mono ?_); rintro e W7 ⟨rfl, e7⟩)
          go_ret
          exact ⟨rfl, HE1.out.trans (HE5.out.trans e7)⟩
        · have k0 := HE5.out.cell HK.out.1
          have k1 := HE5.out.cell HK.out.2.1
          have k2 := HE5.out.cell HK.out.2.2.1
          have k3 := HE5.out.cell HK.out.2.2.2.1
          have k4 := HE5.out.cell HK.out.2.2.2.2
          have hof := hof W5 (HE1.out.trans HE5.out)
          have HL := Lib.hid hbig
          clear hI hlv hstop hgo hbig
          go_upto_region 9 with (first
            | ((with_reducible refine hof.mono ?_); rintro e W2 ⟨x, A2, c2, rfl, hL2, hB2, e2⟩)
            | (with_reducible refine wpList_store_blk _ rfl 28 _ _ rfl W2.heap.size 28 _ _ rfl rfl (heap_alloc_new _ _) (by kernel_rfl) (by kernel_rfl) (by kernel_rfl) ?_; intro W3 h3' g3))
          have e3 : Ext W2 W3 := Below.grown (alloc_ext W2 _) g3 (alloc_ext W2 _).size (fun k hk => by cases hk; exact Nat.le_refl _)
          have hE3 := HE1.out.trans (HE5.out.trans (e2.trans e3))
          have d0 : ∀ w', Ext W3 w' → w'.cell? ⟨W2.heap.size, 0, none⟩ = some (.int .i64 x.ins) := fun w' h => h.cell (cell_of_blk h3' 0 rfl)
          have d1 : ∀ w', Ext W3 w' → w'.cell? ⟨W2.heap.size, 1, none⟩ = some (.int .i64 x.outs) := fun w' h => h.cell (cell_of_blk h3' 1 rfl)
          have d2 : ∀ w', Ext W3 w' → w'.cell? ⟨W2.heap.size, 2, none⟩ = some (.slice A2 x.rows.length c2) := fun w' h => h.cell (cell_of_blk h3' 2 rfl)
          have HE3 := Lib.hid hE3
          have hg := check_good hB2.good
          have hL3 := hL2.ext e3
          have hN3 := HX.out.1.ext hE3
          have hT3 := HX.out.2.ext hE3
          have hte := refTest_any W3 _ L ct x.ins x.outs hN3 hg.outs (by have := HL.out; omega)
          have hra := fun W (e : Ext W3 W) => refAccepts_any W _ x (hL3.ext e) hg
          have hvd := fun W (e : Ext W3 W) => Verdict_any W _ x _ L ct (hL3.ext e) (fun _ _ => hB2.size) (hN3.ext e) (hT3.ext e)
          have hlv := fun W (e : Ext W3 W) => lives_any W (hT3.ext e)
          have HV : Hid (verdR x L = if 1024 < L.length then (false, [], 3) else if !rightB x.ins x.outs L then (false, [], 1) else if !accB x then (false, [], 9) else verdT x L) := Lib.hid (if_neg (by simpa using hB2.good))
          have HTE : Hid (testR x.ins x.outs L = if 1024 < L.length then 3 else if rightB x.ins x.outs L then 0 else 1) := Lib.hid rfl
          clear hof h3' g3 e3 hE3 e2 hL2 hB2 hg hL3 hN3 hT3 k0 k1 k2 k3 k4 hlv0 HK
          generalize W2.heap.size = b5 at *
          have hE0 := Ext.refl W3
          by_cases hbig : 1024 < L.length
          · rw [HTE.out, if_pos hbig] at hte
            rw [HV.out, if_pos hbig] at hvd
            clear hbig
            go_upto_region 9 with fail
            go_wp2_with (first
              | ((with_reducible refine hte.mono ?_); rintro e W4 ⟨rfl, e4⟩; have d0 := fun w' (h : Ext W4 w') => d0 w' (e4.trans h); have d1 := fun w' (h : Ext W4 w') => d1 w' (e4.trans h); have d2 := fun w' (h : Ext W4 w') => d2 w' (e4.trans h); have hE4 := Ext.refl W4; have hra4 := hra W4 e4; have hvd4 := hvd W4 e4; have HE4 := Lib.hid e4; clear e4 hE0)
              | ((with_reducible refine hra4.mono ?_); rintro e W5 ⟨rfl, e5⟩; have hvd4 := hvd W5 (HE4.out.trans e5); have d0 := fun w' (h : Ext W5 w') => d0 w' (e5.trans h); have d1 := fun w' (h : Ext W5 w') => d1 w' (e5.trans h); have d2 := fun w' (h : Ext W5 w') => d2 w' (e5.trans h); have hE5 := Ext.refl W5; have HE4 := Lib.hid (HE4.out.trans e5); clear e5 hE4)
              | ((with_reducible refine hvd4.mono ?_); rintro e W6 ⟨v6, rfl, ⟨A6, rfl, hc6, hn6, hm6⟩, e6⟩; have hlv6 := hlv W6 (HE4.out.trans e6); have HE6 := Lib.hid (HE4.out.trans e6); clear e6 hc6 hn6)
              | ((with_reducible refine hlv6.mono ?_); rintro e W7 ⟨rfl, e7⟩))
            go_ret
            exact ⟨rfl, HE3.out.trans (HE6.out.trans e7)⟩
          rw [HTE.out, if_neg hbig] at hte
          rw [HV.out, if_neg hbig] at hvd
          clear hbig
          cases hrt : rightB x.ins x.outs L with
          | false =>
            rw [hrt] at hte hvd
            clear hrt
            go_upto_region 9 with fail
            go_wp2_with (first
              | ((with_reducible refine hte.mono ?_); rintro e W4 ⟨rfl, e4⟩; have d0 := fun w' (h : Ext W4 w') => d0 w' (e4.trans h); have d1 := fun w' (h : Ext W4 w') => d1 w' (e4.trans h); have d2 := fun w' (h : Ext W4 w') => d2 w' (e4.trans h); have hE4 := Ext.refl W4; have hra4 := hra W4 e4; have hvd4 := hvd W4 e4; have HE4 := Lib.hid e4; clear e4 hE0)
              | ((with_reducible refine hra4.mono ?_); rintro e W5 ⟨rfl, e5⟩; have hvd4 := hvd W5 (HE4.out.trans e5); have d0 := fun w' (h : Ext W5 w') => d0 w' (e5.trans h); have d1 := fun w' (h : Ext W5 w') => d1 w' (e5.trans h); have d2 := fun w' (h : Ext W5 w') => d2 w' (e5.trans h); have hE5 := Ext.refl W5; have HE4 := Lib.hid (HE4.out.trans e5); clear e5 hE4)
              | ((with_reducible refine hvd4.mono ?_); rintro e W6 ⟨v6, rfl, ⟨A6, rfl, hc6, hn6, hm6⟩, e6⟩; have hlv6 := hlv W6 (HE4.out.trans e6); have HE6 := Lib.hid (HE4.out.trans e6); clear e6 hc6 hn6)
              | ((with_reducible refine hlv6.mono ?_); rintro e W7 ⟨rfl, e7⟩))
            go_ret
            exact ⟨rfl, HE3.out.trans (HE6.out.trans e7)⟩
          | true =>
            rw [hrt] at hte hvd
            clear hrt
            cases hac : accB x with
            | false =>
              rw [hac] at hvd hra
              clear hac
              go_upto_region 9 with fail
              go_wp2_with (first
                | ((with_reducible refine hte.mono ?_); rintro e W4 ⟨rfl, e4⟩; have d0 := fun w' (h : Ext W4 w') => d0 w' (e4.trans h); have d1 := fun w' (h : Ext W4 w') => d1 w' (e4.trans h); have d2 := fun w' (h : Ext W4 w') => d2 w' (e4.trans h); have hE4 := Ext.refl W4; have hra4 := hra W4 e4; have hvd4 := hvd W4 e4; have HE4 := Lib.hid e4; clear e4 hE0)
                | ((with_reducible refine hra4.mono ?_); rintro e W5 ⟨rfl, e5⟩; have hvd4 := hvd W5 (HE4.out.trans e5); have d0 := fun w' (h : Ext W5 w') => d0 w' (e5.trans h); have d1 := fun w' (h : Ext W5 w') => d1 w' (e5.trans h); have d2 := fun w' (h : Ext W5 w') => d2 w' (e5.trans h); have hE5 := Ext.refl W5; have HE4 := Lib.hid (HE4.out.trans e5); clear e5 hE4)
                | ((with_reducible refine hvd4.mono ?_); rintro e W6 ⟨v6, rfl, ⟨A6, rfl, hc6, hn6, hm6⟩, e6⟩; have hlv6 := hlv W6 (HE4.out.trans e6); have HE6 := Lib.hid (HE4.out.trans e6); clear e6 hc6 hn6)
                | ((with_reducible refine hlv6.mono ?_); rintro e W7 ⟨rfl, e7⟩))
              go_ret
              exact ⟨rfl, HE3.out.trans (HE6.out.trans e7)⟩
            | true =>
              rw [hac] at hvd hra
              have hvd : ∀ W, Ext W3 W → Calls Tryd.prog 29 #[.agg #[.int .i64 x.ins, .int .i64 x.outs, .slice A2 x.rows.length c2], .slice At L.length ct] W (VerdP W (verdT x L)) := hvd
              have hvt : Hid (verdT x L = ((verdG x L).1, (verdG x L).2, 0)) := Lib.hid rfl
              rw [hvt.out] at hvd
              generalize (verdG x L).1 = P at *
              generalize (verdG x L).2 = T at *
              clear hac hvt
              go_upto_region 9 with fail
              go_wp2_with (first
                | ((with_reducible refine hte.mono ?_); rintro e W4 ⟨rfl, e4⟩; have d0 := fun w' (h : Ext W4 w') => d0 w' (e4.trans h); have d1 := fun w' (h : Ext W4 w') => d1 w' (e4.trans h); have d2 := fun w' (h : Ext W4 w') => d2 w' (e4.trans h); have hE4 := Ext.refl W4; have hra4 := hra W4 e4; have hvd4 := hvd W4 e4; have HE4 := Lib.hid e4; clear e4 hE0)
                | ((with_reducible refine hra4.mono ?_); rintro e W5 ⟨rfl, e5⟩; have hvd4 := hvd W5 (HE4.out.trans e5); have d0 := fun w' (h : Ext W5 w') => d0 w' (e5.trans h); have d1 := fun w' (h : Ext W5 w') => d1 w' (e5.trans h); have d2 := fun w' (h : Ext W5 w') => d2 w' (e5.trans h); have hE5 := Ext.refl W5; have HE4 := Lib.hid (HE4.out.trans e5); clear e5 hE4)
                | ((with_reducible refine hvd4.mono ?_); rintro e W6 ⟨v6, rfl, ⟨A6, rfl, hc6, hn6, hm6⟩, e6⟩; have hlv6 := hlv W6 (HE4.out.trans e6); have HE6 := Lib.hid (HE4.out.trans e6); clear e6 hc6 hn6)
                | ((with_reducible refine hlv6.mono ?_); rintro e W7 ⟨rfl, e7⟩))
              go_ret
              exact ⟨rfl, HE3.out.trans (HE6.out.trans e7)⟩
end Go.Proofs.YtamodjlifpjaoaaDoor
