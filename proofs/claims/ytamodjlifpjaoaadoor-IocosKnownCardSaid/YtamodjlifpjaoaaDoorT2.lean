/- ref27.Check 34. -/
import Derived.Test.YtamodjlifpjaoaaDoorGD
import Derived.Test.YtamodjlifpjaoaaDoorGR
namespace Go.Proofs.YtamodjlifpjaoaaDoor
open Go.RowKit
set_option linter.unusedVariables false
set_option linter.unusedSimpArgs false
attribute [local go_sem] Oper.quietV quietV Oper.gives givesV ext_refl_iff ext_alloc_iff ext_drew_iff ext_drewN_iff
theorem checkI_no {x : Lts} (h1 : bigX x = false) (h2 : ¬ (x.ins < 0 ∨ x.outs < 0 ∨ x.rows.length < 1)) : checkI x = if x.rows.any (badRow x.ins x.outs x.rows.length) then 1 else 0 := by
  unfold checkI
  rw [h1, if_neg (by simp), if_neg h2]
theorem labN_fold (i o : Int) (k : Nat) : (if k = 2 then o else if k = 1 then i else 1) = labN i o k := by
  unfold labN
  by_cases h1 : k = 1
  · subst h1; simp
  · simp [h1]
set_option maxRecDepth 100000 in
set_option maxHeartbeats 16000000 in
theorem refCheck_any (w : World) (v : Value) (x : Lts) (hd : LtsV w v x) : Calls Tryd.prog 34 #[v] w fun e w' => e = .returned (.int .i64 (checkI x)) ∧ Ext w w' := by
  obtain ⟨A, c, rfl, hr, hlen⟩ := hd.form
  go_enter Tryd.func34, Tryd.ntmps34
  go_upto_region 1 with fail
  refine wp_named ?_
  intro W1 hW1
  have hE1 : Ext w W1 := by rw [hW1]; exact (Ext.refl _).alloc _
  have k0 : ∀ w', Ext W1 w' → w'.cell? ⟨w.heap.size, 0, none⟩ = some (.int .i64 x.ins) := fun w' h => h.cell (by rw [hW1]; simp [go_sem])
  have k1 : ∀ w', Ext W1 w' → w'.cell? ⟨w.heap.size, 1, none⟩ = some (.int .i64 x.outs) := fun w' h => h.cell (by rw [hW1]; simp [go_sem])
  have k2 : ∀ w', Ext W1 w' → w'.cell? ⟨w.heap.size, 2, none⟩ = some (.slice A x.rows.length c) := fun w' h => h.cell (by rw [hW1]; simp [go_sem])
  clear hW1
  generalize w.heap.size = b1 at *
  have hE0 := Ext.refl W1
  have HB : Hid (bigX x = (decide (16 < x.ins ∨ 16 < x.outs ∨ 64 < x.rows.length) || x.rows.any longR)) := Lib.hid rfl
  have HC : Hid (bigX x = true → checkI x = 3) := Lib.hid (fun h => by unfold checkI; rw [h]; rfl)
  have HR := Lib.hid (And.intro (hr.ext hE1) hE1)
  clear hd hr hE1
  by_cases h1 : 16 < x.ins
  · have H : Hid (checkI x = 3) := Lib.hid (HC.out (by rw [HB.out, decide_eq_true (.inl h1)]; rfl))
    go_wp2
    go_ret
    exact ⟨by rw [H.out]; rfl, HR.out.2⟩
  by_cases h2 : 16 < x.outs
  · have H : Hid (checkI x = 3) := Lib.hid (HC.out (by rw [HB.out, decide_eq_true (.inr (.inl h2))]; rfl))
    go_wp2
    go_ret
    exact ⟨by rw [H.out]; rfl, HR.out.2⟩
  by_cases h3 : 64 < x.rows.length
  · have H : Hid (checkI x = 3) := Lib.hid (HC.out (by rw [HB.out, decide_eq_true (.inr (.inr h3))]; rfl))
    go_wp2
    go_ret
    exact ⟨by rw [H.out]; rfl, HR.out.2⟩
  have HB : Hid (bigX x = x.rows.any longR) := Lib.hid (by rw [HB.out, decide_eq_false (by omega)]; rfl)
  go_upto_region 5 with fail
  have HK := Lib.hid (And.intro k0 (And.intro k1 k2))
  clear k0 k1 k2
  go_loopw [4] (fun iv wr => ∃ i : Nat, iv = .int .i64 i ∧ i ≤ x.rows.length ∧ Hid ((x.rows.take i).any longR = false) ∧ Ext W1 wr) (fun iv _ => x.rows.length - (intOf iv).toNat)
  case atStart => exact ⟨0, rfl, by omega, Lib.hid (by simp), by first | exact Ext.refl _ | exact (Ext.refl _).drew | exact (Ext.refl _).drewN _⟩
  case round =>
    obtain ⟨i, rfl, hi, HP, hE⟩ := hrel
    obtain ⟨W4, hW4⟩ : ∃ W, W = wr := ⟨_, rfl⟩; subst hW4
    have k0 := fun w' (h : Ext W4 w') => HK.out.1 w' (hE.trans h)
    have k1 := fun w' (h : Ext W4 w') => HK.out.2.1 w' (hE.trans h)
    have k2 := fun w' (h : Ext W4 w') => HK.out.2.2 w' (hE.trans h)
    have hE4 := Ext.refl W4
    have HE := Lib.hid hE
    by_cases hlt : i < x.rows.length
    · obtain ⟨r, hri⟩ : ∃ r, x.rows[i]? = some r := ⟨_, List.getElem?_eq_getElem hlt⟩
      obtain ⟨b, o, u, c', hvv, _, c0, hu⟩ := (HR.out.1.ext hE).at_ hri
      injection hvv with hvv _ hcc
      subst hvv hcc
      obtain ⟨A5, c5, rfl, _, _, hrm⟩ := id hu
      unfold lenMax at hrm
      have HT := Lib.hid (any_take (p := longR) hri)
      have HM := Lib.hid (any_of_get (p := longR) hri)
      have c0 := fun w' (h : Ext W4 w') => h.cell c0
      clear hri hu hE
      by_cases hl : 256 < r.length
      · have H : Hid (checkI x = 3) := Lib.hid (HC.out (by rw [HB.out]; exact HM.out (decide_eq_true hl)))
        have hI : (256 : Int) < (r.length : Int) := by omega
        go_wp2
        go_ret
        exact ⟨by rw [H.out]; rfl, HR.out.2.trans HE.out⟩
      · have hI : ¬ (256 : Int) < (r.length : Int) := by omega
        have hn : Hid ((x.rows.take (i + 1)).any longR = false) := Lib.hid (by rw [HT.out, HP.out, show longR r = false from decide_eq_false hl]; rfl)
        go_wp2
        go_roundw
        case rel => exact ⟨i + 1, by go_num, hlt, hn, by first | exact HE.out | exact HE.out.drew | exact HE.out.drewN _⟩
        case measure => simp [intOf]; omega
    have hbig : bigX x = false := by rw [HB.out, any_full (by omega) HP.out]
    have HBG := Lib.hid hbig
    clear hbig HP hE
    by_cases h4 : x.ins < 0
    · have H : Hid (checkI x = 1) := Lib.hid (by unfold checkI; rw [HBG.out, if_neg (by simp), if_pos (.inl h4)])
      go_wp2
      go_ret
      exact ⟨by rw [H.out]; rfl, HR.out.2.trans HE.out⟩
    by_cases h5 : x.outs < 0
    · have H : Hid (checkI x = 1) := Lib.hid (by unfold checkI; rw [HBG.out, if_neg (by simp), if_pos (.inr (.inl h5))])
      go_wp2
      go_ret
      exact ⟨by rw [H.out]; rfl, HR.out.2.trans HE.out⟩
    by_cases h6 : x.rows.length < 1
    · have H : Hid (checkI x = 1) := Lib.hid (by unfold checkI; rw [HBG.out, if_neg (by simp), if_pos (.inr (.inr h6))])
      have g6 : ((x.rows.length : Int) == 0) = true := beq_iff_eq.2 (by omega)
      go_wp2
      go_ret
      exact ⟨by rw [H.out]; rfl, HR.out.2.trans HE.out⟩
    have HC : Hid (checkI x = if x.rows.any (badRow x.ins x.outs x.rows.length) then 1 else 0) := Lib.hid (checkI_no HBG.out (by omega))
    have g6 : ((x.rows.length : Int) == 0) = false := beq_eq_false_iff_ne.2 (by omega)
    go_upto_region 12 with fail
    clear g6 k0 k1 k2 HBG HB hlt
    go_loopw [5] (fun iv wr => ∃ i : Nat, iv = .int .i64 i ∧ i ≤ x.rows.length ∧ Hid ((x.rows.take i).any (badRow x.ins x.outs x.rows.length) = false) ∧ Ext W1 wr) (fun iv _ => x.rows.length - (intOf iv).toNat)
    case atStart => exact ⟨0, rfl, by omega, Lib.hid (by simp), by first | exact HE.out | exact HE.out.drew | exact HE.out.drewN _⟩
    case round =>
      clear HE hi hE4
      obtain ⟨i, rfl, hi, HP, hE⟩ := hrel
      obtain ⟨W4, hW4⟩ : ∃ W, W = wr := ⟨_, rfl⟩; subst hW4
      by_cases hlt : i < x.rows.length
      · obtain ⟨r, hri⟩ : ∃ r, x.rows[i]? = some r := ⟨_, List.getElem?_eq_getElem hlt⟩
        obtain ⟨b, o, u, c', hvv, _, c0, hu⟩ := (HR.out.1.ext hE).at_ hri
        injection hvv with hvv _ hcc
        subst hvv hcc
        obtain ⟨A5, c5, rfl, _, _, hrm⟩ := id hu
        unfold lenMax at hrm
        have HT := Lib.hid (any_take (p := badRow x.ins x.outs x.rows.length) hri)
        have HM := Lib.hid (any_of_get (p := badRow x.ins x.outs x.rows.length) hri)
        have HU := Lib.hid (And.intro hu c0)
        have HE := Lib.hid hE
        clear hri hu c0
        go_upto_region 15 with fail
        go_loopw [6] (fun jv wr => ∃ j : Nat, jv = .int .i64 j ∧ j ≤ r.length ∧ Hid (∀ t, t < j → badAt x.ins x.outs x.rows.length r t = false) ∧ Ext W4 wr) (fun jv _ => r.length - (intOf jv).toNat)
        case atStart => exact ⟨0, rfl, by omega, Lib.hid (fun t ht => by omega), by first | exact Ext.refl _ | exact (Ext.refl _).drew | exact (Ext.refl _).drewN _⟩
        case round =>
          clear hE
          obtain ⟨j, rfl, hj, HQ, hE⟩ := hrel
          obtain ⟨W5, hW5⟩ : ∃ W, W = wr := ⟨_, rfl⟩; subst hW5
          have k0 := fun w' (h : Ext W5 w') => HK.out.1 w' (HE.out.trans (hE.trans h))
          have k1 := fun w' (h : Ext W5 w') => HK.out.2.1 w' (HE.out.trans (hE.trans h))
          have k2 := fun w' (h : Ext W5 w') => HK.out.2.2 w' (HE.out.trans (hE.trans h))
          have c0 := fun w' (h : Ext W5 w') => (hE.trans h).cell HU.out.2
          have hE5 := Ext.refl W5
          by_cases hjl : j < r.length
          · obtain ⟨a, haj⟩ : ∃ a, r[j]? = some a := ⟨_, List.getElem?_eq_getElem hjl⟩
            obtain ⟨b5, o5, c6, hv5, _, a0', a1, a2⟩ := (HU.out.1.ext hE).at_ haj
            injection hv5 with hv5 _ hc6
            subst hv5 hc6
            have hbadT : Hid (badAt x.ins x.outs x.rows.length r j = (badA x.ins x.outs x.rows.length a || (decide (0 < j) && !ltA (r.getD (j - 1) a0) a))) := Lib.hid (badAt_eq haj)
            have hyes : Hid (badAt x.ins x.outs x.rows.length r j = true → checkI x = 1) := Lib.hid (fun h => by rw [HC.out, HM.out (badRow_yes hjl h)]; rfl)
            have hno : Hid (badAt x.ins x.outs x.rows.length r j = false → ∀ t, t < j + 1 → badAt x.ins x.outs x.rows.length r t = false) := Lib.hid (fun h t ht => by
              rcases Nat.lt_or_ge t j with h1 | h1
              · exact HQ.out t h1
              · obtain rfl : t = j := by omega
                exact h)
            have HA : Hid (badA x.ins x.outs x.rows.length a = decide (2 < a.k ∨ a.l < 0 ∨ labN x.ins x.outs a.k ≤ a.l ∨ a.t < 0 ∨ (x.rows.length : Int) ≤ a.t)) := Lib.hid rfl
            have HEE := Lib.hid (HR.out.2.trans (HE.out.trans hE))
            have HE5 := Lib.hid hE
            clear haj hE
            go_upto_region 18 with fail
            refine wp_named ?_
            intro W6 hW6
            have e6 : Ext W5 W6 := by rw [hW6]; first | exact alloc_ext _ _ | exact (alloc_ext _ _).drew | exact (drew_ext _).trans (alloc_ext _ _)
            have m0 : ∀ w', Ext W6 w' → w'.cell? ⟨W5.heap.size, 0, none⟩ = some (.int .u8 a.k) := fun w' h => h.cell (by rw [hW6]; simp [go_sem])
            have m1 : ∀ w', Ext W6 w' → w'.cell? ⟨W5.heap.size, 1, none⟩ = some (.int .i64 a.l) := fun w' h => h.cell (by rw [hW6]; simp [go_sem])
            have m2 : ∀ w', Ext W6 w' → w'.cell? ⟨W5.heap.size, 2, none⟩ = some (.int .i64 a.t) := fun w' h => h.cell (by rw [hW6]; simp [go_sem])
            clear hW6 a0' a1 a2
            have k0 := fun w' (h : Ext W6 w') => k0 w' (e6.trans h)
            have k1 := fun w' (h : Ext W6 w') => k1 w' (e6.trans h)
            have k2 := fun w' (h : Ext W6 w') => k2 w' (e6.trans h)
            have c0 := fun w' (h : Ext W6 w') => c0 w' (e6.trans h)
            have hE6 := Ext.refl W6
            have HE6 := Lib.hid e6
            clear e6 hE5
            generalize W5.heap.size = b6 at *
            have hbf := fun W p => refBefore_any W p a
            generalize hak : a.k = ak at *
            generalize hal : a.l = al at *
            generalize hat : a.t = at' at *
            have HAV : Hid (a.k = ak ∧ a.l = al ∧ a.t = at') := Lib.hid ⟨hak, hal, hat⟩
            clear hak hal hat
            by_cases q1 : ak = 1
            · have g1 : ((ak : Int) == 1) = true := by simp [q1]
              have g2 : ((ak : Int) == 2) = false := by simp [q1]
              have hlab : labN x.ins x.outs ak = x.ins := by rw [q1]; rfl
              clear q1
              go_upto_region 23 with fail
              have HA : Hid (badA x.ins x.outs x.rows.length a = decide (2 < ak ∨ al < 0 ∨ x.ins ≤ al ∨ at' < 0 ∨ (x.rows.length : Int) ≤ at')) := Lib.hid (by rw [HA.out, hlab])
              clear hlab
              by_cases c1 : (2 : Int) < (ak : Int)
              · have H := Lib.hid (hyes.out (by rw [hbadT.out, HA.out, decide_eq_true (.inl (by omega))]; rfl))
                go_wp2
                go_ret
                exact ⟨by rw [H.out]; rfl, HEE.out.trans HE6.out⟩
              by_cases c2 : al < 0
              · have H := Lib.hid (hyes.out (by rw [hbadT.out, HA.out, decide_eq_true (.inr (.inl c2))]; rfl))
                go_wp2
                go_ret
                exact ⟨by rw [H.out]; rfl, HEE.out.trans HE6.out⟩
              by_cases c3 : x.ins ≤ al
              · have H := Lib.hid (hyes.out (by rw [hbadT.out, HA.out, decide_eq_true (.inr (.inr (.inl c3)))]; rfl))
                go_wp2
                go_ret
                exact ⟨by rw [H.out]; rfl, HEE.out.trans HE6.out⟩
              by_cases c4 : at' < 0
              · have H := Lib.hid (hyes.out (by rw [hbadT.out, HA.out, decide_eq_true (.inr (.inr (.inr (.inl c4))))]; rfl))
                go_wp2
                go_ret
                exact ⟨by rw [H.out]; rfl, HEE.out.trans HE6.out⟩
              by_cases c5 : (x.rows.length : Int) ≤ at'
              · have H := Lib.hid (hyes.out (by rw [hbadT.out, HA.out, decide_eq_true (.inr (.inr (.inr (.inr c5))))]; rfl))
                go_wp2
                go_ret
                exact ⟨by rw [H.out]; rfl, HEE.out.trans HE6.out⟩
              have HOK : Hid (badAt x.ins x.outs x.rows.length r j = (decide (0 < j) && !ltA (r.getD (j - 1) a0) a)) := Lib.hid (by rw [hbadT.out, HA.out, decide_eq_false (by omega)]; rfl)
              go_upto_region 25 with fail
              rcases Nat.eq_zero_or_pos j with hj0 | hj0
              · subst hj0
                have HN := Lib.hid (hno.out (by rw [HOK.out]; rfl))
                refine wp_region_ext 13 (factsOf []) (fun k => ([[], [0], [0, 1], [0, 1, 2], [0, 1, 2, 3], [0, 1, 2], [0, 1, 2, 3, 4, 5], [0, 1, 2, 3, 4, 5, 6], [0, 1, 2], [0, 1, 2, 8], [0, 1, 2, 3, 4, 5, 6, 7, 8, 9], [0, 1, 2, 3, 4, 5, 6, 7, 8, 9, 10], [0, 1, 2], [0, 1, 2, 3, 4, 5, 6, 7, 8, 9, 10, 11, 12], [0, 1, 2, 3, 4, 5, 6, 7, 8, 9, 10, 11, 12, 13], [0, 1, 2, 3, 4, 5, 6, 7, 8, 9, 10, 11, 12, 13, 14]] : List (List Nat)).getD k []) (by kernel_rfl) (by kernel_rfl) Ext.pre (mono_nil) ?_
                simp only [List.take_succ_cons, List.take_zero]
                repeat (first | (with_reducible refine lexL_quiet' (v := ?_) ?_ ?_ ?_ ?_; rotate_left; (· with_reducible rfl); (· simp [factsOf]); (· intro w1 hw1 _; go_simp; with_reducible rfl); (try simp only [Act.put, List.setIfInBounds_toArray, List.set_cons_zero, List.set_cons_succ])) | (with_reducible refine lexL_skip ?_ ?_; (· simp [Region.wanted, yielded, undef]); (try simp only [Act.put, List.setIfInBounds_toArray, List.set_cons_zero, List.set_cons_succ])) | (with_reducible refine lexL_quiet (v := ?_) ?_ ?_ ?_ ?_; rotate_left; (· simp [Region.wanted, yielded, undef]); (· simp [factsOf]); (· intro w1 hw1 _; go_simp; with_reducible rfl); (try simp only [Act.put, List.setIfInBounds_toArray, List.set_cons_zero, List.set_cons_succ])))
                with_reducible refine lexL_nil ?_; intro w1 hw1 hk1; simp only [List.drop_succ_cons, List.drop_zero]
                clear hk1
                go_wp2
                go_roundw
                case rel => exact ⟨1, by go_num, by omega, HN, HE5.out.trans (HE6.out.trans hw1)⟩
                case measure => simp [intOf]; omega
              · obtain ⟨i', rfl⟩ : ∃ i', j = i' + 1 := ⟨j - 1, by omega⟩
                obtain ⟨p, hp⟩ : ∃ p, r[i']? = some p := ⟨_, List.getElem?_eq_getElem (by omega)⟩
                obtain ⟨b7, o7, c7, hv7, _, p0, p1, p2⟩ := (HU.out.1.ext HE5.out).at_ hp
                injection hv7 with hv7 _ hc7
                injection hv7 with hv7
                injection hv7 with hb7 ho7
                subst hb7 ho7 hc7
                have p0 := fun w' (h : Ext W6 w') => (HE6.out.trans h).cell p0
                have p1 := fun w' (h : Ext W6 w') => (HE6.out.trans h).cell p1
                have p2 := fun w' (h : Ext W6 w') => (HE6.out.trans h).cell p2
                have HOK : Hid (badAt x.ins x.outs x.rows.length r (i' + 1) = !ltA p a) := Lib.hid (by
                  rw [HOK.out, List.getD_eq_getElem?_getD, show i' + 1 - 1 = i' by omega, hp, decide_eq_true (by omega)]; rfl)
                have hbf := fun W => hbf W p
                have hil : (i' : Int) < (r.length : Int) := by omega
                have hil2 : i' < r.length := by omega
                have hsub : IntKind.i64.wrap (i' : Int) = (i' : Int) := by rw [IntKind.wrap_i64]; omega
                clear hp
                generalize p.k = pk at *
                generalize p.l = pl at *
                generalize p.t = pt at *
                cases hC : ltA p a with
                | true =>
                  rw [hC] at hbf
                  have HN := Lib.hid (hno.out (by rw [HOK.out, hC]; rfl))
                  clear hC
                  refine wp_region_ext 13 (factsOf []) (fun k => ([[], [0], [0, 1], [0, 1, 2], [0, 1, 2, 3], [0, 1, 2], [0, 1, 2, 3, 4, 5], [0, 1, 2, 3, 4, 5, 6], [0, 1, 2], [0, 1, 2, 8], [0, 1, 2, 3, 4, 5, 6, 7, 8, 9], [0, 1, 2, 3, 4, 5, 6, 7, 8, 9, 10], [0, 1, 2], [0, 1, 2, 3, 4, 5, 6, 7, 8, 9, 10, 11, 12], [0, 1, 2, 3, 4, 5, 6, 7, 8, 9, 10, 11, 12, 13], [0, 1, 2, 3, 4, 5, 6, 7, 8, 9, 10, 11, 12, 13, 14]] : List (List Nat)).getD k []) (by kernel_rfl) (by kernel_rfl) Ext.pre (mono_nil) ?_
                  simp only [List.take_succ_cons, List.take_zero]
                  repeat (first | (with_reducible refine lexL_quiet' (v := ?_) ?_ ?_ ?_ ?_; rotate_left; (· with_reducible rfl); (· simp [factsOf]); (· intro w1 hw1 _; go_simp; with_reducible rfl); (try simp only [Act.put, List.setIfInBounds_toArray, List.set_cons_zero, List.set_cons_succ])) | (with_reducible refine lexL_skip ?_ ?_; (· simp [Region.wanted, yielded, undef]); (try simp only [Act.put, List.setIfInBounds_toArray, List.set_cons_zero, List.set_cons_succ])) | (with_reducible refine lexL_quiet (v := ?_) ?_ ?_ ?_ ?_; rotate_left; (· simp [Region.wanted, yielded, undef]); (· simp [factsOf]); (· intro w1 hw1 _; go_simp; with_reducible rfl); (try simp only [Act.put, List.setIfInBounds_toArray, List.set_cons_zero, List.set_cons_succ])))
                  with_reducible refine lexL_nil ?_; intro w1 hw1 hk1; simp only [List.drop_succ_cons, List.drop_zero]
                  clear hk1
                  go_wp2_with ((with_reducible refine (hbf _).mono ?_); rintro e w9 ⟨rfl, e9⟩)
                  go_roundw
                  case rel => exact ⟨i' + 1 + 1, by go_num, by omega, HN, HE5.out.trans (HE6.out.trans (hw1.trans e9))⟩
                  case measure => simp [intOf]; omega
                | false =>
                  rw [hC] at hbf
                  have H := Lib.hid (hyes.out (by rw [HOK.out, hC]; rfl))
                  clear hC
                  refine wp_region_ext 13 (factsOf []) (fun k => ([[], [0], [0, 1], [0, 1, 2], [0, 1, 2, 3], [0, 1, 2], [0, 1, 2, 3, 4, 5], [0, 1, 2, 3, 4, 5, 6], [0, 1, 2], [0, 1, 2, 8], [0, 1, 2, 3, 4, 5, 6, 7, 8, 9], [0, 1, 2, 3, 4, 5, 6, 7, 8, 9, 10], [0, 1, 2], [0, 1, 2, 3, 4, 5, 6, 7, 8, 9, 10, 11, 12], [0, 1, 2, 3, 4, 5, 6, 7, 8, 9, 10, 11, 12, 13], [0, 1, 2, 3, 4, 5, 6, 7, 8, 9, 10, 11, 12, 13, 14]] : List (List Nat)).getD k []) (by kernel_rfl) (by kernel_rfl) Ext.pre (mono_nil) ?_
                  simp only [List.take_succ_cons, List.take_zero]
                  repeat (first | (with_reducible refine lexL_quiet' (v := ?_) ?_ ?_ ?_ ?_; rotate_left; (· with_reducible rfl); (· simp [factsOf]); (· intro w1 hw1 _; go_simp; with_reducible rfl); (try simp only [Act.put, List.setIfInBounds_toArray, List.set_cons_zero, List.set_cons_succ])) | (with_reducible refine lexL_skip ?_ ?_; (· simp [Region.wanted, yielded, undef]); (try simp only [Act.put, List.setIfInBounds_toArray, List.set_cons_zero, List.set_cons_succ])) | (with_reducible refine lexL_quiet (v := ?_) ?_ ?_ ?_ ?_; rotate_left; (· simp [Region.wanted, yielded, undef]); (· simp [factsOf]); (· intro w1 hw1 _; go_simp; with_reducible rfl); (try simp only [Act.put, List.setIfInBounds_toArray, List.set_cons_zero, List.set_cons_succ])))
                  with_reducible refine lexL_nil ?_; intro w1 hw1 hk1; simp only [List.drop_succ_cons, List.drop_zero]
                  clear hk1
                  go_wp2_with ((with_reducible refine (hbf _).mono ?_); rintro e w9 ⟨rfl, e9⟩)
                  go_ret
                  exact ⟨by rw [H.out]; rfl, HEE.out.trans (HE6.out.trans (hw1.trans e9))⟩
            by_cases q2 : ak = 2
            · have g1 : ((ak : Int) == 1) = false := by simp [q2]
              have g2 : ((ak : Int) == 2) = true := by simp [q2]
              have hlab : labN x.ins x.outs ak = x.outs := by rw [q2]; rfl
              clear q1 q2
              go_upto_region 23 with fail
              have HA : Hid (badA x.ins x.outs x.rows.length a = decide (2 < ak ∨ al < 0 ∨ x.outs ≤ al ∨ at' < 0 ∨ (x.rows.length : Int) ≤ at')) := Lib.hid (by rw [HA.out, hlab])
              clear hlab
              by_cases c1 : (2 : Int) < (ak : Int)
              · have H := Lib.hid (hyes.out (by rw [hbadT.out, HA.out, decide_eq_true (.inl (by omega))]; rfl))
                go_wp2
                go_ret
                exact ⟨by rw [H.out]; rfl, HEE.out.trans HE6.out⟩
              by_cases c2 : al < 0
              · have H := Lib.hid (hyes.out (by rw [hbadT.out, HA.out, decide_eq_true (.inr (.inl c2))]; rfl))
                go_wp2
                go_ret
                exact ⟨by rw [H.out]; rfl, HEE.out.trans HE6.out⟩
              by_cases c3 : x.outs ≤ al
              · have H := Lib.hid (hyes.out (by rw [hbadT.out, HA.out, decide_eq_true (.inr (.inr (.inl c3)))]; rfl))
                go_wp2
                go_ret
                exact ⟨by rw [H.out]; rfl, HEE.out.trans HE6.out⟩
              by_cases c4 : at' < 0
              · have H := Lib.hid (hyes.out (by rw [hbadT.out, HA.out, decide_eq_true (.inr (.inr (.inr (.inl c4))))]; rfl))
                go_wp2
                go_ret
                exact ⟨by rw [H.out]; rfl, HEE.out.trans HE6.out⟩
              by_cases c5 : (x.rows.length : Int) ≤ at'
              · have H := Lib.hid (hyes.out (by rw [hbadT.out, HA.out, decide_eq_true (.inr (.inr (.inr (.inr c5))))]; rfl))
                go_wp2
                go_ret
                exact ⟨by rw [H.out]; rfl, HEE.out.trans HE6.out⟩
              have HOK : Hid (badAt x.ins x.outs x.rows.length r j = (decide (0 < j) && !ltA (r.getD (j - 1) a0) a)) := Lib.hid (by rw [hbadT.out, HA.out, decide_eq_false (by omega)]; rfl)
              go_upto_region 25 with fail
              rcases Nat.eq_zero_or_pos j with hj0 | hj0
              · subst hj0
                have HN := Lib.hid (hno.out (by rw [HOK.out]; rfl))
                refine wp_region_ext 13 (factsOf []) (fun k => ([[], [0], [0, 1], [0, 1, 2], [0, 1, 2, 3], [0, 1, 2], [0, 1, 2, 3, 4, 5], [0, 1, 2, 3, 4, 5, 6], [0, 1, 2], [0, 1, 2, 8], [0, 1, 2, 3, 4, 5, 6, 7, 8, 9], [0, 1, 2, 3, 4, 5, 6, 7, 8, 9, 10], [0, 1, 2], [0, 1, 2, 3, 4, 5, 6, 7, 8, 9, 10, 11, 12], [0, 1, 2, 3, 4, 5, 6, 7, 8, 9, 10, 11, 12, 13], [0, 1, 2, 3, 4, 5, 6, 7, 8, 9, 10, 11, 12, 13, 14]] : List (List Nat)).getD k []) (by kernel_rfl) (by kernel_rfl) Ext.pre (mono_nil) ?_
                simp only [List.take_succ_cons, List.take_zero]
                repeat (first | (with_reducible refine lexL_quiet' (v := ?_) ?_ ?_ ?_ ?_; rotate_left; (· with_reducible rfl); (· simp [factsOf]); (· intro w1 hw1 _; go_simp; with_reducible rfl); (try simp only [Act.put, List.setIfInBounds_toArray, List.set_cons_zero, List.set_cons_succ])) | (with_reducible refine lexL_skip ?_ ?_; (· simp [Region.wanted, yielded, undef]); (try simp only [Act.put, List.setIfInBounds_toArray, List.set_cons_zero, List.set_cons_succ])) | (with_reducible refine lexL_quiet (v := ?_) ?_ ?_ ?_ ?_; rotate_left; (· simp [Region.wanted, yielded, undef]); (· simp [factsOf]); (· intro w1 hw1 _; go_simp; with_reducible rfl); (try simp only [Act.put, List.setIfInBounds_toArray, List.set_cons_zero, List.set_cons_succ])))
                with_reducible refine lexL_nil ?_; intro w1 hw1 hk1; simp only [List.drop_succ_cons, List.drop_zero]
                clear hk1
                go_wp2
                go_roundw
                case rel => exact ⟨1, by go_num, by omega, HN, HE5.out.trans (HE6.out.trans hw1)⟩
                case measure => simp [intOf]; omega
              · obtain ⟨i', rfl⟩ : ∃ i', j = i' + 1 := ⟨j - 1, by omega⟩
                obtain ⟨p, hp⟩ : ∃ p, r[i']? = some p := ⟨_, List.getElem?_eq_getElem (by omega)⟩
                obtain ⟨b7, o7, c7, hv7, _, p0, p1, p2⟩ := (HU.out.1.ext HE5.out).at_ hp
                injection hv7 with hv7 _ hc7
                injection hv7 with hv7
                injection hv7 with hb7 ho7
                subst hb7 ho7 hc7
                have p0 := fun w' (h : Ext W6 w') => (HE6.out.trans h).cell p0
                have p1 := fun w' (h : Ext W6 w') => (HE6.out.trans h).cell p1
                have p2 := fun w' (h : Ext W6 w') => (HE6.out.trans h).cell p2
                have HOK : Hid (badAt x.ins x.outs x.rows.length r (i' + 1) = !ltA p a) := Lib.hid (by
                  rw [HOK.out, List.getD_eq_getElem?_getD, show i' + 1 - 1 = i' by omega, hp, decide_eq_true (by omega)]; rfl)
                have hbf := fun W => hbf W p
                have hil : (i' : Int) < (r.length : Int) := by omega
                have hil2 : i' < r.length := by omega
                have hsub : IntKind.i64.wrap (i' : Int) = (i' : Int) := by rw [IntKind.wrap_i64]; omega
                clear hp
                generalize p.k = pk at *
                generalize p.l = pl at *
                generalize p.t = pt at *
                cases hC : ltA p a with
                | true =>
                  rw [hC] at hbf
                  have HN := Lib.hid (hno.out (by rw [HOK.out, hC]; rfl))
                  clear hC
                  refine wp_region_ext 13 (factsOf []) (fun k => ([[], [0], [0, 1], [0, 1, 2], [0, 1, 2, 3], [0, 1, 2], [0, 1, 2, 3, 4, 5], [0, 1, 2, 3, 4, 5, 6], [0, 1, 2], [0, 1, 2, 8], [0, 1, 2, 3, 4, 5, 6, 7, 8, 9], [0, 1, 2, 3, 4, 5, 6, 7, 8, 9, 10], [0, 1, 2], [0, 1, 2, 3, 4, 5, 6, 7, 8, 9, 10, 11, 12], [0, 1, 2, 3, 4, 5, 6, 7, 8, 9, 10, 11, 12, 13], [0, 1, 2, 3, 4, 5, 6, 7, 8, 9, 10, 11, 12, 13, 14]] : List (List Nat)).getD k []) (by kernel_rfl) (by kernel_rfl) Ext.pre (mono_nil) ?_
                  simp only [List.take_succ_cons, List.take_zero]
                  repeat (first | (with_reducible refine lexL_quiet' (v := ?_) ?_ ?_ ?_ ?_; rotate_left; (· with_reducible rfl); (· simp [factsOf]); (· intro w1 hw1 _; go_simp; with_reducible rfl); (try simp only [Act.put, List.setIfInBounds_toArray, List.set_cons_zero, List.set_cons_succ])) | (with_reducible refine lexL_skip ?_ ?_; (· simp [Region.wanted, yielded, undef]); (try simp only [Act.put, List.setIfInBounds_toArray, List.set_cons_zero, List.set_cons_succ])) | (with_reducible refine lexL_quiet (v := ?_) ?_ ?_ ?_ ?_; rotate_left; (· simp [Region.wanted, yielded, undef]); (· simp [factsOf]); (· intro w1 hw1 _; go_simp; with_reducible rfl); (try simp only [Act.put, List.setIfInBounds_toArray, List.set_cons_zero, List.set_cons_succ])))
                  with_reducible refine lexL_nil ?_; intro w1 hw1 hk1; simp only [List.drop_succ_cons, List.drop_zero]
                  clear hk1
                  go_wp2_with ((with_reducible refine (hbf _).mono ?_); rintro e w9 ⟨rfl, e9⟩)
                  go_roundw
                  case rel => exact ⟨i' + 1 + 1, by go_num, by omega, HN, HE5.out.trans (HE6.out.trans (hw1.trans e9))⟩
                  case measure => simp [intOf]; omega
                | false =>
                  rw [hC] at hbf
                  have H := Lib.hid (hyes.out (by rw [HOK.out, hC]; rfl))
                  clear hC
                  refine wp_region_ext 13 (factsOf []) (fun k => ([[], [0], [0, 1], [0, 1, 2], [0, 1, 2, 3], [0, 1, 2], [0, 1, 2, 3, 4, 5], [0, 1, 2, 3, 4, 5, 6], [0, 1, 2], [0, 1, 2, 8], [0, 1, 2, 3, 4, 5, 6, 7, 8, 9], [0, 1, 2, 3, 4, 5, 6, 7, 8, 9, 10], [0, 1, 2], [0, 1, 2, 3, 4, 5, 6, 7, 8, 9, 10, 11, 12], [0, 1, 2, 3, 4, 5, 6, 7, 8, 9, 10, 11, 12, 13], [0, 1, 2, 3, 4, 5, 6, 7, 8, 9, 10, 11, 12, 13, 14]] : List (List Nat)).getD k []) (by kernel_rfl) (by kernel_rfl) Ext.pre (mono_nil) ?_
                  simp only [List.take_succ_cons, List.take_zero]
                  repeat (first | (with_reducible refine lexL_quiet' (v := ?_) ?_ ?_ ?_ ?_; rotate_left; (· with_reducible rfl); (· simp [factsOf]); (· intro w1 hw1 _; go_simp; with_reducible rfl); (try simp only [Act.put, List.setIfInBounds_toArray, List.set_cons_zero, List.set_cons_succ])) | (with_reducible refine lexL_skip ?_ ?_; (· simp [Region.wanted, yielded, undef]); (try simp only [Act.put, List.setIfInBounds_toArray, List.set_cons_zero, List.set_cons_succ])) | (with_reducible refine lexL_quiet (v := ?_) ?_ ?_ ?_ ?_; rotate_left; (· simp [Region.wanted, yielded, undef]); (· simp [factsOf]); (· intro w1 hw1 _; go_simp; with_reducible rfl); (try simp only [Act.put, List.setIfInBounds_toArray, List.set_cons_zero, List.set_cons_succ])))
                  with_reducible refine lexL_nil ?_; intro w1 hw1 hk1; simp only [List.drop_succ_cons, List.drop_zero]
                  clear hk1
                  go_wp2_with ((with_reducible refine (hbf _).mono ?_); rintro e w9 ⟨rfl, e9⟩)
                  go_ret
                  exact ⟨by rw [H.out]; rfl, HEE.out.trans (HE6.out.trans (hw1.trans e9))⟩
            have g1 : ((ak : Int) == 1) = false := beq_eq_false_iff_ne.2 (by omega)
            have g2 : ((ak : Int) == 2) = false := beq_eq_false_iff_ne.2 (by omega)
            have hlab : labN x.ins x.outs ak = 1 := by unfold labN; rw [if_neg q1, if_neg q2]
            clear q1 q2
            go_upto_region 23 with fail
            have HA : Hid (badA x.ins x.outs x.rows.length a = decide (2 < ak ∨ al < 0 ∨ 1 ≤ al ∨ at' < 0 ∨ (x.rows.length : Int) ≤ at')) := Lib.hid (by rw [HA.out, hlab])
            clear hlab
            by_cases c1 : (2 : Int) < (ak : Int)
            · have H := Lib.hid (hyes.out (by rw [hbadT.out, HA.out, decide_eq_true (.inl (by omega))]; rfl))
              go_wp2
              go_ret
              exact ⟨by rw [H.out]; rfl, HEE.out.trans HE6.out⟩
            by_cases c2 : al < 0
            · have H := Lib.hid (hyes.out (by rw [hbadT.out, HA.out, decide_eq_true (.inr (.inl c2))]; rfl))
              go_wp2
              go_ret
              exact ⟨by rw [H.out]; rfl, HEE.out.trans HE6.out⟩
            by_cases c3 : 1 ≤ al
            · have H := Lib.hid (hyes.out (by rw [hbadT.out, HA.out, decide_eq_true (.inr (.inr (.inl c3)))]; rfl))
              go_wp2
              go_ret
              exact ⟨by rw [H.out]; rfl, HEE.out.trans HE6.out⟩
            by_cases c4 : at' < 0
            · have H := Lib.hid (hyes.out (by rw [hbadT.out, HA.out, decide_eq_true (.inr (.inr (.inr (.inl c4))))]; rfl))
              go_wp2
              go_ret
              exact ⟨by rw [H.out]; rfl, HEE.out.trans HE6.out⟩
            by_cases c5 : (x.rows.length : Int) ≤ at'
            · have H := Lib.hid (hyes.out (by rw [hbadT.out, HA.out, decide_eq_true (.inr (.inr (.inr (.inr c5))))]; rfl))
              go_wp2
              go_ret
              exact ⟨by rw [H.out]; rfl, HEE.out.trans HE6.out⟩
            have HOK : Hid (badAt x.ins x.outs x.rows.length r j = (decide (0 < j) && !ltA (r.getD (j - 1) a0) a)) := Lib.hid (by rw [hbadT.out, HA.out, decide_eq_false (by omega)]; rfl)
            go_upto_region 25 with fail
            rcases Nat.eq_zero_or_pos j with hj0 | hj0
            · subst hj0
              have HN := Lib.hid (hno.out (by rw [HOK.out]; rfl))
              refine wp_region_ext 13 (factsOf []) (fun k => ([[], [0], [0, 1], [0, 1, 2], [0, 1, 2, 3], [0, 1, 2], [0, 1, 2, 3, 4, 5], [0, 1, 2, 3, 4, 5, 6], [0, 1, 2], [0, 1, 2, 8], [0, 1, 2, 3, 4, 5, 6, 7, 8, 9], [0, 1, 2, 3, 4, 5, 6, 7, 8, 9, 10], [0, 1, 2], [0, 1, 2, 3, 4, 5, 6, 7, 8, 9, 10, 11, 12], [0, 1, 2, 3, 4, 5, 6, 7, 8, 9, 10, 11, 12, 13], [0, 1, 2, 3, 4, 5, 6, 7, 8, 9, 10, 11, 12, 13, 14]] : List (List Nat)).getD k []) (by kernel_rfl) (by kernel_rfl) Ext.pre (mono_nil) ?_
              simp only [List.take_succ_cons, List.take_zero]
              repeat (first | (with_reducible refine lexL_quiet' (v := ?_) ?_ ?_ ?_ ?_; rotate_left; (· with_reducible rfl); (· simp [factsOf]); (· intro w1 hw1 _; go_simp; with_reducible rfl); (try simp only [Act.put, List.setIfInBounds_toArray, List.set_cons_zero, List.set_cons_succ])) | (with_reducible refine lexL_skip ?_ ?_; (· simp [Region.wanted, yielded, undef]); (try simp only [Act.put, List.setIfInBounds_toArray, List.set_cons_zero, List.set_cons_succ])) | (with_reducible refine lexL_quiet (v := ?_) ?_ ?_ ?_ ?_; rotate_left; (· simp [Region.wanted, yielded, undef]); (· simp [factsOf]); (· intro w1 hw1 _; go_simp; with_reducible rfl); (try simp only [Act.put, List.setIfInBounds_toArray, List.set_cons_zero, List.set_cons_succ])))
              with_reducible refine lexL_nil ?_; intro w1 hw1 hk1; simp only [List.drop_succ_cons, List.drop_zero]
              clear hk1
              go_wp2
              go_roundw
              case rel => exact ⟨1, by go_num, by omega, HN, HE5.out.trans (HE6.out.trans hw1)⟩
              case measure => simp [intOf]; omega
            · obtain ⟨i', rfl⟩ : ∃ i', j = i' + 1 := ⟨j - 1, by omega⟩
              obtain ⟨p, hp⟩ : ∃ p, r[i']? = some p := ⟨_, List.getElem?_eq_getElem (by omega)⟩
              obtain ⟨b7, o7, c7, hv7, _, p0, p1, p2⟩ := (HU.out.1.ext HE5.out).at_ hp
              injection hv7 with hv7 _ hc7
              injection hv7 with hv7
              injection hv7 with hb7 ho7
              subst hb7 ho7 hc7
              have p0 := fun w' (h : Ext W6 w') => (HE6.out.trans h).cell p0
              have p1 := fun w' (h : Ext W6 w') => (HE6.out.trans h).cell p1
              have p2 := fun w' (h : Ext W6 w') => (HE6.out.trans h).cell p2
              have HOK : Hid (badAt x.ins x.outs x.rows.length r (i' + 1) = !ltA p a) := Lib.hid (by
                rw [HOK.out, List.getD_eq_getElem?_getD, show i' + 1 - 1 = i' by omega, hp, decide_eq_true (by omega)]; rfl)
              have hbf := fun W => hbf W p
              have hil : (i' : Int) < (r.length : Int) := by omega
              have hil2 : i' < r.length := by omega
              have hsub : IntKind.i64.wrap (i' : Int) = (i' : Int) := by rw [IntKind.wrap_i64]; omega
              clear hp
              generalize p.k = pk at *
              generalize p.l = pl at *
              generalize p.t = pt at *
              cases hC : ltA p a with
              | true =>
                rw [hC] at hbf
                have HN := Lib.hid (hno.out (by rw [HOK.out, hC]; rfl))
                clear hC
                refine wp_region_ext 13 (factsOf []) (fun k => ([[], [0], [0, 1], [0, 1, 2], [0, 1, 2, 3], [0, 1, 2], [0, 1, 2, 3, 4, 5], [0, 1, 2, 3, 4, 5, 6], [0, 1, 2], [0, 1, 2, 8], [0, 1, 2, 3, 4, 5, 6, 7, 8, 9], [0, 1, 2, 3, 4, 5, 6, 7, 8, 9, 10], [0, 1, 2], [0, 1, 2, 3, 4, 5, 6, 7, 8, 9, 10, 11, 12], [0, 1, 2, 3, 4, 5, 6, 7, 8, 9, 10, 11, 12, 13], [0, 1, 2, 3, 4, 5, 6, 7, 8, 9, 10, 11, 12, 13, 14]] : List (List Nat)).getD k []) (by kernel_rfl) (by kernel_rfl) Ext.pre (mono_nil) ?_
                simp only [List.take_succ_cons, List.take_zero]
                repeat (first | (with_reducible refine lexL_quiet' (v := ?_) ?_ ?_ ?_ ?_; rotate_left; (· with_reducible rfl); (· simp [factsOf]); (· intro w1 hw1 _; go_simp; with_reducible rfl); (try simp only [Act.put, List.setIfInBounds_toArray, List.set_cons_zero, List.set_cons_succ])) | (with_reducible refine lexL_skip ?_ ?_; (· simp [Region.wanted, yielded, undef]); (try simp only [Act.put, List.setIfInBounds_toArray, List.set_cons_zero, List.set_cons_succ])) | (with_reducible refine lexL_quiet (v := ?_) ?_ ?_ ?_ ?_; rotate_left; (· simp [Region.wanted, yielded, undef]); (· simp [factsOf]); (· intro w1 hw1 _; go_simp; with_reducible rfl); (try simp only [Act.put, List.setIfInBounds_toArray, List.set_cons_zero, List.set_cons_succ])))
                with_reducible refine lexL_nil ?_; intro w1 hw1 hk1; simp only [List.drop_succ_cons, List.drop_zero]
                clear hk1
                go_wp2_with ((with_reducible refine (hbf _).mono ?_); rintro e w9 ⟨rfl, e9⟩)
                go_roundw
                case rel => exact ⟨i' + 1 + 1, by go_num, by omega, HN, HE5.out.trans (HE6.out.trans (hw1.trans e9))⟩
                case measure => simp [intOf]; omega
              | false =>
                rw [hC] at hbf
                have H := Lib.hid (hyes.out (by rw [HOK.out, hC]; rfl))
                clear hC
                refine wp_region_ext 13 (factsOf []) (fun k => ([[], [0], [0, 1], [0, 1, 2], [0, 1, 2, 3], [0, 1, 2], [0, 1, 2, 3, 4, 5], [0, 1, 2, 3, 4, 5, 6], [0, 1, 2], [0, 1, 2, 8], [0, 1, 2, 3, 4, 5, 6, 7, 8, 9], [0, 1, 2, 3, 4, 5, 6, 7, 8, 9, 10], [0, 1, 2], [0, 1, 2, 3, 4, 5, 6, 7, 8, 9, 10, 11, 12], [0, 1, 2, 3, 4, 5, 6, 7, 8, 9, 10, 11, 12, 13], [0, 1, 2, 3, 4, 5, 6, 7, 8, 9, 10, 11, 12, 13, 14]] : List (List Nat)).getD k []) (by kernel_rfl) (by kernel_rfl) Ext.pre (mono_nil) ?_
                simp only [List.take_succ_cons, List.take_zero]
                repeat (first | (with_reducible refine lexL_quiet' (v := ?_) ?_ ?_ ?_ ?_; rotate_left; (· with_reducible rfl); (· simp [factsOf]); (· intro w1 hw1 _; go_simp; with_reducible rfl); (try simp only [Act.put, List.setIfInBounds_toArray, List.set_cons_zero, List.set_cons_succ])) | (with_reducible refine lexL_skip ?_ ?_; (· simp [Region.wanted, yielded, undef]); (try simp only [Act.put, List.setIfInBounds_toArray, List.set_cons_zero, List.set_cons_succ])) | (with_reducible refine lexL_quiet (v := ?_) ?_ ?_ ?_ ?_; rotate_left; (· simp [Region.wanted, yielded, undef]); (· simp [factsOf]); (· intro w1 hw1 _; go_simp; with_reducible rfl); (try simp only [Act.put, List.setIfInBounds_toArray, List.set_cons_zero, List.set_cons_succ])))
                with_reducible refine lexL_nil ?_; intro w1 hw1 hk1; simp only [List.drop_succ_cons, List.drop_zero]
                clear hk1
                go_wp2_with ((with_reducible refine (hbf _).mono ?_); rintro e w9 ⟨rfl, e9⟩)
                go_ret
                exact ⟨by rw [H.out]; rfl, HEE.out.trans (HE6.out.trans (hw1.trans e9))⟩
          · have hn : Hid ((x.rows.take (i + 1)).any (badRow x.ins x.outs x.rows.length) = false) := Lib.hid (by rw [HT.out, HP.out, badRow_no (fun t ht => HQ.out t (by omega))]; rfl)
            have HE5 := Lib.hid hE
            clear hE
            go_wp2
            go_roundw
            case rel => exact ⟨i + 1, by go_num, hlt, hn, by first | exact HE.out.trans HE5.out | exact (HE.out.trans HE5.out).drew | exact (HE.out.trans HE5.out).drewN _⟩
            case measure => simp [intOf]; omega
      · have H : Hid (checkI x = 0) := Lib.hid (by rw [HC.out, any_full (by omega) HP.out]; rfl)
        have HE := Lib.hid hE
        clear hE
        go_wp2
        go_ret
        exact ⟨by rw [H.out]; rfl, HR.out.2.trans HE.out⟩
end Go.Proofs.YtamodjlifpjaoaaDoor
