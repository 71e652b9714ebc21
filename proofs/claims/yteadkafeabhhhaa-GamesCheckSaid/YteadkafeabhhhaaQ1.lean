/- gauntletref32.Avoid 18, Attack 19: the strategies by definition. -/
import Derived.Test.YteadkafeabhhhaaQ0
import Derived.Test.YteadkafeabhhhaaS0
import Derived.Test.YteadkafeabhhhaaF1
namespace Go.Proofs.Yteadkafeabhhhaa
open Go.RowKit
set_option linter.unusedVariables false
set_option linter.unusedSimpArgs false
attribute [local go_sem] Oper.quietV quietV Oper.gives givesV ext_refl_iff ext_alloc_iff ext_drew_iff ext_drewN_iff


theorem ints_snoc (F : Nat → Int) (s : Nat) : ((List.range s).map F).map (Value.int .i64) ++ [.int .i64 (F s)] = ((List.range (s + 1)).map F).map (.int .i64) := by simp [List.range_succ]
theorem ints_of_owns' {w : World} {base : Nat} {e : TypeId} {v : Value} {xs : List Int} {n : Nat} (h : w.ownsRow base e 1 v n (xs.map (.int .i64))) (hn : xs.length = n) (hl : n ≤ lenMax) : ∃ c, IntsC w v xs c := by
  subst hn; exact ints_of_owns h hl
set_option maxRecDepth 100000 in
set_option maxHeartbeats 8000000 in
theorem refAvoid_any (w : World) (gv : Value) (g : Game) (hg : GameV w gv g) (hF : Fine g) : Calls Try.prog 18 #[gv] w fun e w' => (∃ v c, e = .returned v ∧ IntsC w' v (avoidL g) c) ∧ Ext w w' := by
  obtain ⟨rv, cr, ov, co, sv, cs, rfl, hr, ho, hs⟩ := hg
  obtain ⟨Ar, vr, rfl, _, _, _, _, hrm⟩ := id hr
  obtain ⟨Ao, rfl, hoc, _, hom⟩ := id ho
  obtain ⟨As, rfl, hsc, _, hsm⟩ := id hs
  unfold lenMax at hrm hom hsm
  obtain ⟨hV, hol, hsl⟩ := hF
  have hsz := hV.size
  obtain ⟨n, hn⟩ : ∃ n, n = g.m.rows.length := ⟨_, rfl⟩
  rw [← hn] at hol hsl hsz hrm hr ⊢
  rw [hol] at hom ho ⊢
  rw [hsl] at hsm hs ⊢
  have HN := Lib.hid hn
  have HOL := Lib.hid hol
  have HSL := Lib.hid hsl
  have HV := Lib.hid hV
  clear hV hol hsl hn
  have hn64 : n ≤ 64 := hsz.2
  have hn1 : 1 ≤ n := hsz.1
  go_enter Try.func18, Try.ntmps18
  go_upto_region 1 with fail
  refine wp_named ?_
  intro W1 hW1
  have hE1 : Ext w W1 := by rw [hW1]; exact (Ext.refl _).alloc _
  have k0 : ∀ w', Ext W1 w' → w'.cell? ⟨w.heap.size, 0, none⟩ = some (.int .i64 g.m.ins) := fun w' h => h.cell (by rw [hW1]; simp [go_sem])
  have k1 : ∀ w', Ext W1 w' → w'.cell? ⟨w.heap.size, 1, none⟩ = some (.int .i64 g.m.outs) := fun w' h => h.cell (by rw [hW1]; simp [go_sem])
  have k2 : ∀ w', Ext W1 w' → w'.cell? ⟨w.heap.size, 2, none⟩ = some (.slice Ar n cr) := fun w' h => h.cell (by rw [hW1]; simp [go_sem])
  have k3 : ∀ w', Ext W1 w' → w'.cell? ⟨w.heap.size, 3, none⟩ = some (.slice Ao n co) := fun w' h => h.cell (by rw [hW1]; simp [go_sem])
  have k4 : ∀ w', Ext W1 w' → w'.cell? ⟨w.heap.size, 4, none⟩ = some (.slice As n cs) := fun w' h => h.cell (by rw [hW1]; simp [go_sem])
  clear hW1
  have hE0 := Ext.refl W1
  have hW0 : Ext w W1.drew := hE1.drew
  have hx0 : Ext W1 W1.drew := (Ext.refl W1).drew
  go_region_held3 (fun w' => Ext W1 w') ((first | exact hx0 | exact hEo | exact hEf))
    ((first
      | (go_at_call 12; refine (Others_any _ _ g.ours co (ho.ext hW0) (by rw [HOL.out]; exact hn64)).mono ?_; rintro e wo ⟨⟨u, cu', rfl, hu⟩, hEo⟩; have hEo := hx0.trans hEo)
      | (go_at_call 14; refine (force_any _ _ _ _ g.m ⟨_, cr, rfl, hr.ext (hE1.trans hEo)⟩ HV.out (othersL g.ours) g.set _ cs hu (hs.ext (hE1.trans hEo)) (by unfold othersL; rw [List.length_map, HOL.out]; exact HN.out) (by rw [HSL.out]; exact HN.out)).mono ?_; rintro e wf ⟨⟨v3, c3, rfl, hrk⟩, hEf⟩; have hEf := hEo.trans hEf)))
  obtain ⟨Wr, hWr⟩ : ∃ Wr, Wr = wf := ⟨_, rfl⟩
  subst hWr
  obtain ⟨R, hR⟩ : ∃ R, R = rankG g.m (othersL g.ours) g.set := ⟨_, rfl⟩
  rw [← hR] at hrk
  have hEr := hEf
  clear hEf hEo hu hW0 hx0 hE0
  have HRL : Hid (R.length = n ∧ (∀ u, -1 ≤ R.getD u 0) ∧ (∀ u, R.getD u 0 ≤ 100)) := by
    show _ ∧ _ ∧ _
    rw [hR]
    exact ⟨by rw [rankG_len]; exact HN.out.symm, fun u => (rank_bd g.m HV.out _ g.set u).1, fun u => (rank_bd g.m HV.out _ g.set u).2⟩
  have HR := Lib.hid hR
  obtain ⟨A3, rfl, hrc, _, hrm⟩ := hrk
  rw [HRL.out.1] at hrm ⊢
  unfold lenMax at hrm
  clear hR
  obtain ⟨i3, hi3, hz3, hs3, hb3⟩ := info_parts int_info
  go_wp2
  go_loopw [5, 4] (fun i v wr => ∃ s : Nat, s ≤ n ∧ i = .int .i64 s ∧ Ext W1 wr ∧ OwnL Wr wr [.row 3 1 v s (((List.range s).map (rAvF g)).map (.int .i64))]) (fun i _ _ => n - (intOf i).toNat)
  case atStart => exact ⟨0, by omega, rfl, hEr, Ext.refl _, (fun B hB => by simp at hB; subst hB; exact World.ownsRow_nil _ _ _ _), List.pairwise_singleton _ _⟩
  case round =>
    obtain ⟨s, hs, rfl, hE, hO⟩ := hrel
    obtain ⟨W3, hW3⟩ : ∃ W, W = wr := ⟨_, rfl⟩; subst hW3
    by_cases hlt : s < n
    · have hltI : (s : Int) < (n : Int) := by omega
      have hsm : s < g.m.rows.length := by rw [← HN.out]; exact hlt
      obtain ⟨b, o, us, cu, hv, hbb, c0, hes⟩ := hr.at_ hsm
      obtain rfl : Ar = some ⟨b, o, none⟩ := by injection hv
      have hre := row_eq hsm
      obtain ⟨Ae, rfl, hce, _, hme⟩ := hes
      unfold lenMax at hme
      rw [← hre] at hce hme c0
      have hlen : ((g.m.row s).length : Int) = g.m.ins := by rw [hre]; exact HV.out.len _ (List.getElem_mem hsm)
      have c0 := hE.cell (hE1.cell c0)
      obtain ⟨el, hel⟩ : ∃ el, el = (g.m.row s).length := ⟨_, rfl⟩
      rw [← hel] at c0 hme hlen
      have hel16 : el ≤ 16 := by have := HV.out.ins; omega
      have HEL := Lib.hid (And.intro hel hlen)
      have k0e : W3.cell? ⟨w.heap.size, 0, none⟩ = some (.int .i64 (el : Int)) := by rw [hlen]; exact k0 W3 hE
      have hso : s < g.ours.length := by rw [HOL.out]; exact hlt
      obtain ⟨bo, oo, hAo, _, co0⟩ := hoc.at_bool hso
      obtain rfl : Ao = some ⟨bo, oo, none⟩ := hAo
      have co0 := hE.cell (hE1.cell co0)
      have hog : g.ours.getD s false = g.ours[s] := by simp [List.getD, hso]
      have hsr : s < R.length := by rw [HRL.out.1]; exact hlt
      obtain ⟨b3, o3, hA3, _, cr0⟩ := hrc.at_int hsr
      obtain rfl : A3 = some ⟨b3, o3, none⟩ := hA3
      have cr0 := hO.ext.cell cr0
      have hrg : R.getD s 0 = R[s] := by simp [List.getD, hsr]
      have HG := Lib.hid (And.intro hog hrg)
      have hx1 := HRL.out.2.1 s
      have hx2 := HRL.out.2.2 s
      rw [hrg] at hx1 hx2
      generalize g.ours[s] = ob at *
      generalize R[s] = rs at *
      clear hre hlen hel hog hrg hbb hv hso hsr
      go_wp2
      go_loopw [7, 6] (fun i bst wr => ∃ t : Nat, t ≤ el ∧ i = .int .i64 ((el : Int) - 1 - t) ∧ bst = .int .i64 (downB (pAv g R s) el t) ∧ Ext W3 wr) (fun i _ _ => (intOf i + 1).toNat)
      case atStart =>
        have hib := HV.out.ins
        have hel2 := HEL.out.2
        have hw1 : wrap64 (g.m.ins - 1) = g.m.ins - 1 := by unfold wrap64; omega
        exact ⟨0, by omega, by rw [hel2, hw1]; go_num, rfl, Ext.refl _⟩
      case round =>
        obtain ⟨t, ht, rfl, rfl, hE2⟩ := hrel
        obtain ⟨W5, hW5⟩ : ∃ W, W = wr := ⟨_, rfl⟩; subst hW5
        have c0 := hE2.cell c0
        have co0 := hE2.cell co0
        have cr0 := hE2.cell cr0
        have k0e := hE2.cell k0e
        have hE := hE.trans hE2
        by_cases htl : t < el
        · obtain ⟨j, hj⟩ : ∃ j : Nat, (el : Int) - 1 - t = (j : Int) := ⟨el - 1 - t, by omega⟩
          rw [hj]
          have hjl : j < el := by omega
          have hjI : (0 : Int) ≤ (j : Int) := by omega
          have hjI2 : (j : Int) < (el : Int) := by omega
          have hj16 : (j : Int) ≤ 16 := by omega
          have HJ : Hid (downB (pAv g R s) el (t + 1) = if pAv g R s j then (j : Int) else downB (pAv g R s) el t) := by
            show downB _ _ _ = _
            have e : el - 1 - t = j := by omega
            show (if pAv g R s (el - 1 - t) then ((el - 1 - t : Nat) : Int) else _) = _
            rw [e]
          have HT : Hid (t < el ∧ (el : Int) - 1 - t = (j : Int)) := ⟨htl, hj⟩
          have hir : j < (g.m.row s).length := by rw [← HEL.out.1]; exact hjl
          obtain ⟨be, oe, hAe, _, d0, d1⟩ := hce.at_edge hir
          obtain rfl : Ae = some ⟨be, oe, none⟩ := hAe
          have d0 := hE.cell (hE1.cell d0)
          have hfx := toAt_range (g := g) HV.out hir
          have hta : toAt g s j = (g.m.row s)[j].1 := by unfold toAt; simp [List.getD, hir]
          rw [hta] at hfx
          generalize (g.m.row s)[j].1 = x at *
          have hxb : x < 100 := by have := HN.out; omega
          have HX := Lib.hid hta
          generalize downB (pAv g R s) el t = bst at *
          clear hj htl ht d1 hta hir
          cases ob with
          | false =>
            have PJ : Hid (pAv g R s j = false) := by
              show _ = _
              simp only [pAv, pAt]
              rw [HG.out.1, HG.out.2, HX.out]
              simp [*]
            go_wp2
            go_roundw
            case rel => exact ⟨t + 1, by have := HT.out.1; omega, by have := HT.out.2; congr 1; push_cast; omega, by rw [HJ.out, PJ.out]; rfl, hE2⟩
            case measure => have := HT.out.2; simp [intOf]; try omega
          | true =>
            by_cases hrs : rs < 0
            · by_cases hx0 : 0 ≤ x
              · obtain ⟨u, rfl⟩ := Int.eq_ofNat_of_zero_le hx0
                have hur : u < R.length := by rw [HRL.out.1]; have := HN.out; omega
                obtain ⟨b4, o4, hA4, _, cr1⟩ := hrc.at_int hur
                cases hA4
                have cr1 := hE2.cell (hO.ext.cell cr1)
                have hrg1 : R.getD u 0 = R[u] := by simp [List.getD, hur]
                have hub : (u : Int) < (n : Int) := by have := HN.out; omega
                have HR1 := Lib.hid hrg1
                generalize R[u] = y at *
                clear hrg1 hur
                by_cases hy : y < 0
                · skip
                  have PJ : Hid (pAv g R s j = true) := by
                    show _ = _
                    simp only [pAv, pAt]
                    rw [HG.out.1, HX.out, HG.out.2, Int.toNat_natCast, HR1.out]
                    simp [*]
                  go_wp2
                  go_roundw
                  case rel => exact ⟨t + 1, by have := HT.out.1; omega, by have := HT.out.2; congr 1; push_cast; omega, by rw [HJ.out, PJ.out]; rfl, hE2⟩
                  case measure => have := HT.out.2; simp [intOf]; try omega
                · skip
                  have PJ : Hid (pAv g R s j = false) := by
                    show _ = _
                    simp only [pAv, pAt]
                    rw [HG.out.1, HX.out, HG.out.2, Int.toNat_natCast, HR1.out]
                    simp [*]
                  go_wp2
                  go_roundw
                  case rel => exact ⟨t + 1, by have := HT.out.1; omega, by have := HT.out.2; congr 1; push_cast; omega, by rw [HJ.out, PJ.out]; rfl, hE2⟩
                  case measure => have := HT.out.2; simp [intOf]; try omega
              · skip
                have PJ : Hid (pAv g R s j = false) := by
                  show _ = _
                  simp only [pAv, pAt]
                  rw [HG.out.1, HG.out.2, HX.out]
                  simp [*]
                go_wp2
                go_roundw
                case rel => exact ⟨t + 1, by have := HT.out.1; omega, by have := HT.out.2; congr 1; push_cast; omega, by rw [HJ.out, PJ.out]; rfl, hE2⟩
                case measure => have := HT.out.2; simp [intOf]; try omega
            · skip
              have PJ : Hid (pAv g R s j = false) := by
                show _ = _
                simp only [pAv, pAt]
                rw [HG.out.1, HG.out.2, HX.out]
                simp [*]
              go_wp2
              go_roundw
              case rel => exact ⟨t + 1, by have := HT.out.1; omega, by have := HT.out.2; congr 1; push_cast; omega, by rw [HJ.out, PJ.out]; rfl, hE2⟩
              case measure => have := HT.out.2; simp [intOf]; try omega
        · have hte : t = el := by omega
          have hF : downB (pAv g R s) el t = (rAvF g) s := by rw [hte, HEL.out.1, HR.out]; rfl
          rw [hF]
          have hnI : ¬ (0 : Int) ≤ (el : Int) - 1 - t := by omega
          have hO := hO.trans hE2
          have hown : W5.ownsRow Wr.heap.size 3 1 u4 s (((List.range s).map (rAvF g)).map (.int .i64)) := hO.get 0 rfl
          have hsz3 := hO.ext.size
          clear hte hF
          go_wp2_with (at_builtin; refine wpList_append_own2 rfl _ _ 37 rfl Wr.heap.size 3 i3 (.int .i64 0) 1 8 Try.underlying37 hi3 hz3 hs3 hb3 rfl (by decide) u4 s _ rfl (World.ownsRow.alloc hown _) ⟨W5.heap.size, 0, none⟩ 1 1 [.int .i64 ((rAvF g) s)] rfl rfl (cells_new _ #[.int .i64 ((rAvF g) s)] _) (one_int _) (by unfold maxLen; omega) (by omega) (by simp; omega) ?_; intro v6 w6 hown6 hg6 hb6)
          go_roundw
          case rel =>
            rw [ints_snoc] at hown6
            have h1 := (hO.trans (alloc_ext _ _)).app 0 rfl hg6 hown6 hb6
            exact ⟨s + 1, by omega, by go_num, hEr.trans h1.ext, h1⟩
          case measure => simp [intOf]; omega
    · have hse : s = n := by omega
      have hnI : ¬ (s : Int) < (n : Int) := by omega
      have hrow : W3.ownsRow Wr.heap.size 3 1 u4 s (((List.range s).map (rAvF g)).map (.int .i64)) := hO.get 0 rfl
      have HRW := Lib.hid hrow
      clear hrow hO
      go_wp2
      go_ret
      refine ⟨?_, hE1.trans hE⟩
      have h1 := HRW.out
      rw [hse, HN.out, avoid_eq ⟨HV.out, by rw [HOL.out]; exact HN.out, by rw [HSL.out]; exact HN.out⟩] at h1
      have hl : (stratL g (fun _ => false) (fun _ => 0)).length = g.m.rows.length := stratL_len _ _ _
      obtain ⟨cf, hcf⟩ := ints_of_owns' h1 (stratL_len _ _ _) (by unfold lenMax; have := HN.out; omega)
      exact ⟨_, rfl, cf, hcf⟩
#print axioms refAvoid_any
set_option maxRecDepth 100000 in
set_option maxHeartbeats 8000000 in
theorem refAttack_any (w : World) (gv : Value) (g : Game) (hg : GameV w gv g) (hF : Fine g) : Calls Try.prog 19 #[gv] w fun e w' => (∃ v c, e = .returned v ∧ IntsC w' v (attackL g) c) ∧ Ext w w' := by
  obtain ⟨rv, cr, ov, co, sv, cs, rfl, hr, ho, hs⟩ := hg
  obtain ⟨Ar, vr, rfl, _, _, _, _, hrm⟩ := id hr
  obtain ⟨Ao, rfl, hoc, _, hom⟩ := id ho
  obtain ⟨As, rfl, hsc, _, hsm⟩ := id hs
  unfold lenMax at hrm hom hsm
  obtain ⟨hV, hol, hsl⟩ := hF
  have hsz := hV.size
  obtain ⟨n, hn⟩ : ∃ n, n = g.m.rows.length := ⟨_, rfl⟩
  rw [← hn] at hol hsl hsz hrm hr ⊢
  rw [hol] at hom ho ⊢
  rw [hsl] at hsm hs ⊢
  have HN := Lib.hid hn
  have HOL := Lib.hid hol
  have HSL := Lib.hid hsl
  have HV := Lib.hid hV
  clear hV hol hsl hn
  have hn64 : n ≤ 64 := hsz.2
  have hn1 : 1 ≤ n := hsz.1
  go_enter Try.func19, Try.ntmps19
  go_upto_region 1 with fail
  refine wp_named ?_
  intro W1 hW1
  have hE1 : Ext w W1 := by rw [hW1]; exact (Ext.refl _).alloc _
  have k0 : ∀ w', Ext W1 w' → w'.cell? ⟨w.heap.size, 0, none⟩ = some (.int .i64 g.m.ins) := fun w' h => h.cell (by rw [hW1]; simp [go_sem])
  have k1 : ∀ w', Ext W1 w' → w'.cell? ⟨w.heap.size, 1, none⟩ = some (.int .i64 g.m.outs) := fun w' h => h.cell (by rw [hW1]; simp [go_sem])
  have k2 : ∀ w', Ext W1 w' → w'.cell? ⟨w.heap.size, 2, none⟩ = some (.slice Ar n cr) := fun w' h => h.cell (by rw [hW1]; simp [go_sem])
  have k3 : ∀ w', Ext W1 w' → w'.cell? ⟨w.heap.size, 3, none⟩ = some (.slice Ao n co) := fun w' h => h.cell (by rw [hW1]; simp [go_sem])
  have k4 : ∀ w', Ext W1 w' → w'.cell? ⟨w.heap.size, 4, none⟩ = some (.slice As n cs) := fun w' h => h.cell (by rw [hW1]; simp [go_sem])
  clear hW1
  have hE0 := Ext.refl W1
  go_upto_region 2 with (go_at_call 14; refine (force_any _ _ _ _ g.m ⟨_, cr, rfl, hr.ext hE1⟩ HV.out g.ours g.set _ cs (ho.ext hE1) (hs.ext hE1) (by rw [HOL.out]; exact HN.out) (by rw [HSL.out]; exact HN.out)).mono ?_; rintro e wf ⟨⟨v3, c3, rfl, hrk⟩, hEf⟩)
  obtain ⟨Wr, hWr⟩ : ∃ Wr, Wr = wf := ⟨_, rfl⟩
  subst hWr
  obtain ⟨R, hR⟩ : ∃ R, R = rankG g.m g.ours g.set := ⟨_, rfl⟩
  rw [← hR] at hrk
  have hEr := hEf
  clear hEf hE0
  have HRL : Hid (R.length = n ∧ (∀ u, -1 ≤ R.getD u 0) ∧ (∀ u, R.getD u 0 ≤ 100)) := by
    show _ ∧ _ ∧ _
    rw [hR]
    exact ⟨by rw [rankG_len]; exact HN.out.symm, fun u => (rank_bd g.m HV.out _ g.set u).1, fun u => (rank_bd g.m HV.out _ g.set u).2⟩
  have HR := Lib.hid hR
  obtain ⟨A3, rfl, hrc, _, hrm⟩ := hrk
  rw [HRL.out.1] at hrm ⊢
  unfold lenMax at hrm
  clear hR
  obtain ⟨i3, hi3, hz3, hs3, hb3⟩ := info_parts int_info
  go_wp2
  go_loopw [5, 4] (fun i v wr => ∃ s : Nat, s ≤ n ∧ i = .int .i64 s ∧ Ext W1 wr ∧ OwnL Wr wr [.row 3 1 v s (((List.range s).map (rAtF g)).map (.int .i64))]) (fun i _ _ => n - (intOf i).toNat)
  case atStart => exact ⟨0, by omega, rfl, hEr, Ext.refl _, (fun B hB => by simp at hB; subst hB; exact World.ownsRow_nil _ _ _ _), List.pairwise_singleton _ _⟩
  case round =>
    obtain ⟨s, hs, rfl, hE, hO⟩ := hrel
    obtain ⟨W3, hW3⟩ : ∃ W, W = wr := ⟨_, rfl⟩; subst hW3
    by_cases hlt : s < n
    · have hltI : (s : Int) < (n : Int) := by omega
      have hsm : s < g.m.rows.length := by rw [← HN.out]; exact hlt
      obtain ⟨b, o, us, cu, hv, hbb, c0, hes⟩ := hr.at_ hsm
      obtain rfl : Ar = some ⟨b, o, none⟩ := by injection hv
      have hre := row_eq hsm
      obtain ⟨Ae, rfl, hce, _, hme⟩ := hes
      unfold lenMax at hme
      rw [← hre] at hce hme c0
      have hlen : ((g.m.row s).length : Int) = g.m.ins := by rw [hre]; exact HV.out.len _ (List.getElem_mem hsm)
      have c0 := hE.cell (hE1.cell c0)
      obtain ⟨el, hel⟩ : ∃ el, el = (g.m.row s).length := ⟨_, rfl⟩
      rw [← hel] at c0 hme hlen
      have hel16 : el ≤ 16 := by have := HV.out.ins; omega
      have HEL := Lib.hid (And.intro hel hlen)
      have k0e : W3.cell? ⟨w.heap.size, 0, none⟩ = some (.int .i64 (el : Int)) := by rw [hlen]; exact k0 W3 hE
      have hso : s < g.ours.length := by rw [HOL.out]; exact hlt
      obtain ⟨bo, oo, hAo, _, co0⟩ := hoc.at_bool hso
      obtain rfl : Ao = some ⟨bo, oo, none⟩ := hAo
      have co0 := hE.cell (hE1.cell co0)
      have hog : g.ours.getD s false = g.ours[s] := by simp [List.getD, hso]
      have hsr : s < R.length := by rw [HRL.out.1]; exact hlt
      obtain ⟨b3, o3, hA3, _, cr0⟩ := hrc.at_int hsr
      obtain rfl : A3 = some ⟨b3, o3, none⟩ := hA3
      have cr0 := hO.ext.cell cr0
      have hrg : R.getD s 0 = R[s] := by simp [List.getD, hsr]
      have HG := Lib.hid (And.intro hog hrg)
      have hx1 := HRL.out.2.1 s
      have hx2 := HRL.out.2.2 s
      rw [hrg] at hx1 hx2
      generalize g.ours[s] = ob at *
      generalize R[s] = rs at *
      clear hre hlen hel hog hrg hbb hv hso hsr
      go_wp2
      go_loopw [7, 6] (fun i bst wr => ∃ t : Nat, t ≤ el ∧ i = .int .i64 ((el : Int) - 1 - t) ∧ bst = .int .i64 (downB (pAt g R s) el t) ∧ Ext W3 wr) (fun i _ _ => (intOf i + 1).toNat)
      case atStart =>
        have hib := HV.out.ins
        have hel2 := HEL.out.2
        have hw1 : wrap64 (g.m.ins - 1) = g.m.ins - 1 := by unfold wrap64; omega
        exact ⟨0, by omega, by rw [hel2, hw1]; go_num, rfl, Ext.refl _⟩
      case round =>
        obtain ⟨t, ht, rfl, rfl, hE2⟩ := hrel
        obtain ⟨W5, hW5⟩ : ∃ W, W = wr := ⟨_, rfl⟩; subst hW5
        have c0 := hE2.cell c0
        have co0 := hE2.cell co0
        have cr0 := hE2.cell cr0
        have k0e := hE2.cell k0e
        have hE := hE.trans hE2
        by_cases htl : t < el
        · obtain ⟨j, hj⟩ : ∃ j : Nat, (el : Int) - 1 - t = (j : Int) := ⟨el - 1 - t, by omega⟩
          rw [hj]
          have hjl : j < el := by omega
          have hjI : (0 : Int) ≤ (j : Int) := by omega
          have hjI2 : (j : Int) < (el : Int) := by omega
          have hj16 : (j : Int) ≤ 16 := by omega
          have HJ : Hid (downB (pAt g R s) el (t + 1) = if pAt g R s j then (j : Int) else downB (pAt g R s) el t) := by
            show downB _ _ _ = _
            have e : el - 1 - t = j := by omega
            show (if pAt g R s (el - 1 - t) then ((el - 1 - t : Nat) : Int) else _) = _
            rw [e]
          have HT : Hid (t < el ∧ (el : Int) - 1 - t = (j : Int)) := ⟨htl, hj⟩
          have hir : j < (g.m.row s).length := by rw [← HEL.out.1]; exact hjl
          obtain ⟨be, oe, hAe, _, d0, d1⟩ := hce.at_edge hir
          obtain rfl : Ae = some ⟨be, oe, none⟩ := hAe
          have d0 := hE.cell (hE1.cell d0)
          have hfx := toAt_range (g := g) HV.out hir
          have hta : toAt g s j = (g.m.row s)[j].1 := by unfold toAt; simp [List.getD, hir]
          rw [hta] at hfx
          generalize (g.m.row s)[j].1 = x at *
          have hxb : x < 100 := by have := HN.out; omega
          have HX := Lib.hid hta
          generalize downB (pAt g R s) el t = bst at *
          clear hj htl ht d1 hta hir
          cases ob with
          | false =>
            have PJ : Hid (pAt g R s j = false) := by
              show _ = _
              simp only [pAv, pAt]
              rw [HG.out.1, HG.out.2, HX.out]
              simp [*]
            go_upto_region 11 with fail
            go_quiet (fail)
            go_wp2
            go_roundw
            case rel => exact ⟨t + 1, by have := HT.out.1; omega, by have := HT.out.2; congr 1; push_cast; omega, by rw [HJ.out, PJ.out]; rfl, hE2.drewN _⟩
            case measure => have := HT.out.2; simp [intOf]; try omega
          | true =>
            by_cases hrs : 0 < rs
            · by_cases hx0 : 0 ≤ x
              · obtain ⟨u, rfl⟩ := Int.eq_ofNat_of_zero_le hx0
                have hur : u < R.length := by rw [HRL.out.1]; have := HN.out; omega
                obtain ⟨b4, o4, hA4, _, cr1⟩ := hrc.at_int hur
                cases hA4
                have cr1 := hE2.cell (hO.ext.cell cr1)
                have hrg1 : R.getD u 0 = R[u] := by simp [List.getD, hur]
                have hub : (u : Int) < (n : Int) := by have := HN.out; omega
                have HR1 := Lib.hid hrg1
                generalize R[u] = y at *
                clear hrg1 hur
                have hrw : IntKind.i64.wrap (rs - 1) = rs - 1 := by
                  simp [IntKind.wrap, IntKind.bits, IntKind.signed]; omega
                by_cases hy : y = rs - 1
                · have hyb : (y == rs - 1) = true := by simpa using hy
                  have HY := Lib.hid hy
                  clear hy
                  have PJ : Hid (pAt g R s j = true) := by
                    show _ = _
                    simp only [pAv, pAt]
                    rw [HG.out.1, HX.out, HG.out.2, Int.toNat_natCast, HR1.out]
                    simp [*, HY.out]
                  go_upto_region 11 with fail
                  go_quiet (fail)
                  go_wp2
                  go_roundw
                  case rel => exact ⟨t + 1, by have := HT.out.1; omega, by have := HT.out.2; congr 1; push_cast; omega, by rw [HJ.out, PJ.out]; rfl, hE2.drewN _⟩
                  case measure => have := HT.out.2; simp [intOf]; try omega
                · have hyb : (y == rs - 1) = false := by simpa using hy
                  have HY := Lib.hid hy
                  clear hy
                  have PJ : Hid (pAt g R s j = false) := by
                    show _ = _
                    simp only [pAv, pAt]
                    rw [HG.out.1, HX.out, HG.out.2, Int.toNat_natCast, HR1.out]
                    simp [*]; exact HY.out
                  go_upto_region 11 with fail
                  go_quiet (fail)
                  go_wp2
                  go_roundw
                  case rel => exact ⟨t + 1, by have := HT.out.1; omega, by have := HT.out.2; congr 1; push_cast; omega, by rw [HJ.out, PJ.out]; rfl, hE2.drewN _⟩
                  case measure => have := HT.out.2; simp [intOf]; try omega
              · skip
                have PJ : Hid (pAt g R s j = false) := by
                  show _ = _
                  simp only [pAv, pAt]
                  rw [HG.out.1, HG.out.2, HX.out]
                  simp [*]
                go_upto_region 11 with fail
                go_quiet (fail)
                go_wp2
                go_roundw
                case rel => exact ⟨t + 1, by have := HT.out.1; omega, by have := HT.out.2; congr 1; push_cast; omega, by rw [HJ.out, PJ.out]; rfl, hE2.drewN _⟩
                case measure => have := HT.out.2; simp [intOf]; try omega
            · skip
              have PJ : Hid (pAt g R s j = false) := by
                show _ = _
                simp only [pAv, pAt]
                rw [HG.out.1, HG.out.2, HX.out]
                simp [*]
              go_upto_region 11 with fail
              go_quiet (fail)
              go_wp2
              go_roundw
              case rel => exact ⟨t + 1, by have := HT.out.1; omega, by have := HT.out.2; congr 1; push_cast; omega, by rw [HJ.out, PJ.out]; rfl, hE2.drewN _⟩
              case measure => have := HT.out.2; simp [intOf]; try omega
        · have hte : t = el := by omega
          have hF : downB (pAt g R s) el t = (rAtF g) s := by rw [hte, HEL.out.1, HR.out]; rfl
          rw [hF]
          have hnI : ¬ (0 : Int) ≤ (el : Int) - 1 - t := by omega
          have hO := hO.trans hE2
          have hown : W5.ownsRow Wr.heap.size 3 1 u4 s (((List.range s).map (rAtF g)).map (.int .i64)) := hO.get 0 rfl
          have hsz3 := hO.ext.size
          clear hte hF
          go_wp2_with (at_builtin; refine wpList_append_own2 rfl _ _ 37 rfl Wr.heap.size 3 i3 (.int .i64 0) 1 8 Try.underlying37 hi3 hz3 hs3 hb3 rfl (by decide) u4 s _ rfl (World.ownsRow.alloc hown _) ⟨W5.heap.size, 0, none⟩ 1 1 [.int .i64 ((rAtF g) s)] rfl rfl (cells_new _ #[.int .i64 ((rAtF g) s)] _) (one_int _) (by unfold maxLen; omega) (by omega) (by simp; omega) ?_; intro v6 w6 hown6 hg6 hb6)
          go_roundw
          case rel =>
            rw [ints_snoc] at hown6
            have h1 := (hO.trans (alloc_ext _ _)).app 0 rfl hg6 hown6 hb6
            exact ⟨s + 1, by omega, by go_num, hEr.trans h1.ext, h1⟩
          case measure => simp [intOf]; omega
    · have hse : s = n := by omega
      have hnI : ¬ (s : Int) < (n : Int) := by omega
      have hrow : W3.ownsRow Wr.heap.size 3 1 u4 s (((List.range s).map (rAtF g)).map (.int .i64)) := hO.get 0 rfl
      have HRW := Lib.hid hrow
      clear hrow hO
      go_wp2
      go_ret
      refine ⟨?_, hE1.trans hE⟩
      have h1 := HRW.out
      rw [hse, HN.out, attack_eq ⟨HV.out, by rw [HOL.out]; exact HN.out, by rw [HSL.out]; exact HN.out⟩] at h1
      have hl : (stratL g (fun _ => false) (fun _ => 0)).length = g.m.rows.length := stratL_len _ _ _
      obtain ⟨cf, hcf⟩ := ints_of_owns' h1 (stratL_len _ _ _) (by unfold lenMax; have := HN.out; omega)
      exact ⟨_, rfl, cf, hcf⟩
#print axioms refAttack_any
end Go.Proofs.Yteadkafeabhhhaa
