/- The operations of two sets: langs.operation.do 56 (93). Written by gen_o.py. -/
import Derived.Test.YthlnmcokgfpgmaaDoorZE
namespace Go.Proofs.YthlnmcokgfpgmaaDoor
open Go.RowKit Go.Maps
set_option linter.unusedVariables false
set_option linter.unusedSimpArgs false
attribute [local go_sem] Oper.quietV quietV Oper.gives givesV ext_refl_iff ext_alloc_iff ext_drew_iff ext_drewN_iff

set_option maxRecDepth 100000 in
set_option maxHeartbeats 16000000 in
theorem do93_any (w : World) (dv dv' : Value) (a b : Dfa) (hd : DfaV w dv a) (hd' : DfaV w dv' b) :
    Calls Tryd.prog 56 #[.agg #[.func (.func 93) #[] #[]], dv, dv'] w (OpP (fun x y => x && !y) a b w) := by
  obtain ⟨rv, cr, av, ca, rfl, hr, ha⟩ := id hd
  obtain ⟨Ar, vr, rfl, _, _, _, _, hrm⟩ := id hr
  obtain ⟨Aa, rfl, hac, _, ham⟩ := id ha
  obtain ⟨rv', cr', av', ca', rfl, hr', ha'⟩ := id hd'
  obtain ⟨Ar', vr', rfl, _, _, _, _, hrm'⟩ := id hr'
  obtain ⟨Aa', rfl, hac', _, ham'⟩ := id ha'
  unfold lenMax at hrm ham hrm' ham'
  go_enter Tryd.func56, Tryd.ntmps56
  go_upto_region 1 with fail
  refine wp_named ?_
  intro W1 hW1
  have hE1 : Ext w W1 := by rw [hW1]; exact ((((Ext.refl _).alloc _).alloc _).alloc _).alloc _
  have k3 : ∀ w', Ext W1 w' → w'.cell? ⟨w.heap.size, 0, none⟩ = some (.func (.func 93) #[] #[]) := fun w' h => h.cell (by rw [hW1]; simp [go_sem])
  have k0 : ∀ w', Ext W1 w' → w'.cell? ⟨w.heap.size + 1, 0, none⟩ = some (.int .i64 a.sy) := fun w' h => h.cell (by rw [hW1]; simp [go_sem])
  have k1 : ∀ w', Ext W1 w' → w'.cell? ⟨w.heap.size + 1, 1, none⟩ = some (.slice Ar a.rows.length cr) := fun w' h => h.cell (by rw [hW1]; simp [go_sem])
  have k2 : ∀ w', Ext W1 w' → w'.cell? ⟨w.heap.size + 1, 2, none⟩ = some (.slice Aa a.acc.length ca) := fun w' h => h.cell (by rw [hW1]; simp [go_sem])
  have l0 : ∀ w', Ext W1 w' → w'.cell? ⟨w.heap.size + 1 + 1, 0, none⟩ = some (.int .i64 b.sy) := fun w' h => h.cell (by rw [hW1]; simp [go_sem])
  have l1 : ∀ w', Ext W1 w' → w'.cell? ⟨w.heap.size + 1 + 1, 1, none⟩ = some (.slice Ar' b.rows.length cr') := fun w' h => h.cell (by rw [hW1]; simp [go_sem])
  have l2 : ∀ w', Ext W1 w' → w'.cell? ⟨w.heap.size + 1 + 1, 2, none⟩ = some (.slice Aa' b.acc.length ca') := fun w' h => h.cell (by rw [hW1]; simp [go_sem])
  have kb : ∀ w', Ext W1 w' → w'.heap[w.heap.size + 1 + 1 + 1]? = some (.cells #[.int .i64 0, .slice none 0 0, .slice none 0 0] 28 (0, 0)) := fun w' h => heap_ext h (by rw [hW1]; have h9 := heap_alloc_new (((w.alloc (.cells #[.func (.func 93) #[] #[]] 100)).alloc (.cells #[.int .i64 a.sy, .slice Ar a.rows.length cr, .slice Aa a.acc.length ca] 28)).alloc (.cells #[.int .i64 b.sy, .slice Ar' b.rows.length cr', .slice Aa' b.acc.length ca'] 28)) (.cells #[.int .i64 0, .slice none 0 0, .slice none 0 0] 28 (0, 0)); simpa using h9)
  have HB6 : Hid (w.heap.size ≤ w.heap.size + 1 + 1 + 1) := Lib.hid (by omega)
  clear hW1
  generalize w.heap.size + 1 + 1 + 1 = b6 at *
  have hE0 := Ext.refl W1
  have hc1 := checked_any W1 _ _ a b (hd.ext hE1) (hd'.ext hE1)
  by_cases hz : chkL a b = 0
  rotate_left
  · have hz' : (chkL a b != 0) = true := by simpa using hz
    have H := Lib.hid (OpR.bad (g := fun x y => x && !y) hz)
    clear hz
    go_upto_region 3 with ((with_reducible refine hc1.mono ?_); rintro e w1 ⟨rfl, e1⟩)
    have hb6 := kb w1 e1
    have he6 := hE1.trans e1
    go_wp2_with (first
      | (with_reducible refine wpList_build0 rfl 28 rfl _ (build_zero _) ?_)
      | (with_reducible refine wpList_store_blk _ rfl 28 _ _ rfl b6 28 _ _ rfl rfl hb6 (by kernel_rfl) (by kernel_rfl) (by kernel_rfl) ?_; intro w8 h8 g8))
    try rw [Exit.noGoto_ret]
    try simp only [Exit.inBlock, Exit.then]
    refine bodyPost_ret (results_cell_tmp rfl _ _ b6 28 _ (0, 0) _ (by simp [Act.put]) h8 Tryd.underlying28 rfl (by kernel_rfl)) rfl ?_
    exact ⟨_, _, rfl, H.out, (fun _ _ => dfa_zero _), Below.grown he6 g8 he6.size (fun k hk => by cases hk; exact HB6.out)⟩
  obtain ⟨hga, hgb, hkk⟩ := chkL_zero hz
  have HZ := Lib.hid hz
  rw [hz] at hc1
  clear hz
  go_upto_region 4 with ((with_reducible refine hc1.mono ?_); rintro e w1 ⟨rfl, e1⟩)
  have hda := hd.ext (hE1.trans e1)
  have hdb := hd'.ext (hE1.trans e1)
  have hokL := okP_all hga hgb hkk
  have HG := Lib.hid (And.intro hga (And.intro hgb (And.intro hkk hokL)))
  clear hc1 hga hgb hkk hokL
  by_cases hbig : (pairsL a b).length ≤ 4096
  rotate_left
  · have H := Lib.hid (OpR.big (g := fun x y => x && !y) HZ.out (Nat.lt_of_not_le hbig))
    have hc2 := pairs_big w1 _ _ a b hda hdb HG.out.1 HG.out.2.1 HG.out.2.2.1 hbig
    clear hbig hda hdb
    go_upto_region 6 with ((with_reducible refine hc2.mono ?_); rintro e w2 ⟨rfl, e2⟩)
    have hb6 := kb w2 (e1.trans e2)
    have he6 := hE1.trans (e1.trans e2)
    go_wp2_with (first
      | (with_reducible refine wpList_build0 rfl 28 rfl _ (build_zero _) ?_)
      | (with_reducible refine wpList_store_blk _ rfl 28 _ _ rfl b6 28 _ _ rfl rfl hb6 (by kernel_rfl) (by kernel_rfl) (by kernel_rfl) ?_; intro w8 h8 g8))
    try rw [Exit.noGoto_ret]
    try simp only [Exit.inBlock, Exit.then]
    refine bodyPost_ret (results_cell_tmp rfl _ _ b6 28 _ (0, 0) _ (by simp [Act.put]) h8 Tryd.underlying28 rfl (by kernel_rfl)) rfl ?_
    exact ⟨_, _, rfl, H.out, (fun _ _ => dfa_zero _), Below.grown he6 g8 he6.size (fun k hk => by cases hk; exact HB6.out)⟩
  have hc2 := pairs_ok w1 _ _ a b hda hdb HG.out.1 HG.out.2.1 HG.out.2.2.1 hbig
  clear hda hdb
  go_upto_region 7 with ((with_reducible refine hc2.mono ?_); rintro e w2 ⟨lv, rv2, cL, rfl, ⟨AL, cl2, rfl, hcl, hll⟩, hlr, e2⟩)
  clear hc2
  have hE2 : Ext W1 w2 := e1.trans e2
  have hlrl : (rowsP a b (pairsL a b)).length = (pairsL a b).length := by unfold rowsP; simp
  have hcll : (clsO (fun x y => x && !y) a b).length = (pairsL a b).length := by unfold clsO; simp
  have hcla : ∀ (n : Nat) (r : Rch), (pairsL a b)[n]? = some r → (clsO (fun x y => x && !y) a b)[n]? = some (if (a.ac r.p && !b.ac r.q) then 1 else 0) := fun n r h => by unfold clsO; rw [List.getElem?_map, h]; rfl
  have HSet := Lib.hid (fun cl many h h' => OpR.set (g := fun x y => x && !y) (a := a) (b := b) (cl := cl) (many := many) HZ.out hbig h h')
  have HMany := Lib.hid (fun cl many h h' => OpR.many (g := fun x y => x && !y) (a := a) (b := b) (cl := cl) (many := many) HZ.out hbig h h')
  have HOK := Lib.hid (And.intro (rowsOk_pairs HG.out.1 HG.out.2.1 HG.out.2.2.1 hbig) (And.intro (clsO_ok (fun x y => x && !y) a b) (And.intro hcll hcla)))
  have HRK : Hid (∀ r ∈ rowsP a b (pairsL a b), r.length = a.k) := Lib.hid (fun r hr => by
    unfold rowsP at hr
    obtain ⟨x, _, rfl⟩ := List.mem_map.1 hr
    simp [numsP])
  have hL0 : 1 ≤ (pairsL a b).length := by have := HG.out.2.2.2.pos; omega
  rw [hlrl] at HOK
  clear hcll hcla
  generalize clsO (fun x y => x && !y) a b = C at *
  generalize rowsP a b (pairsL a b) = RP at *
  generalize pairsL a b = L at *
  have hmk := mk_ints L.length (by omega)
  go_upto_region 8 with fail
  refine wp_named ?_
  intro W3 hW3
  have hO3 : OwnL w2 W3 [.row 3 1 (.slice (some ⟨w2.heap.size, 0, none⟩) L.length L.length) L.length (nxC L.length C 0)] := by
    rw [hW3]
    exact (OwnL.nil (Ext.refl w2)).add (alloc_ext _ _) (A := .row 3 1 (.slice (some ⟨w2.heap.size, 0, none⟩) L.length L.length) L.length (List.replicate L.length (.int .i64 0))) (own_new _ _ 3 _ (by omega))
  clear hW3 hmk
  generalize w2.heap.size = gc at *
  go_wp2
  go_loopw [46] (fun iv wr => ∃ n : Nat, iv = .int .i64 n ∧ n ≤ L.length ∧ OwnL w2 wr [.row 3 1 (.slice (some ⟨gc, 0, none⟩) L.length L.length) L.length (nxC L.length C n)]) (fun iv _ => L.length - (intOf iv).toNat)
  case atStart => exact ⟨0, rfl, Nat.zero_le _, hO3⟩
  case round =>
    clear hO3
    obtain ⟨n, rfl, hn, hO⟩ := hrel
    obtain ⟨W4, hW4⟩ : ∃ W, W = wr := ⟨_, rfl⟩; subst hW4
    by_cases hnl : n < L.length
    · obtain ⟨r, hr0⟩ : ∃ r, L[n]? = some r := ⟨_, List.getElem?_eq_getElem hnl⟩
      have hin := HG.out.2.2.2.inn r (List.mem_of_getElem? hr0)
      have hE3 : Ext W1 W4 := hE2.trans hO.ext
      obtain ⟨bL, oL, hAL, c0, c1, c2, c3, c4⟩ := rch_at (Cells.ext hcl hO.ext) hr0
      obtain ⟨ba, oa, hAa, ca0⟩ := HG.out.1.acc_at (hac.ext (hE1.trans hE3)) hin.1
      obtain ⟨bb, ob, hAb, cb0⟩ := HG.out.2.1.acc_at (hac'.ext (hE1.trans hE3)) hin.2
      subst hAL hAa hAb
      have hpa : r.p < a.acc.length := by rw [HG.out.1.acc]; exact hin.1
      have hqb : r.q < b.acc.length := by rw [HG.out.2.1.acc]; exact hin.2
      have hcn := HOK.out.2.2.2 n r hr0
      generalize hra : a.ac r.p = xa at *
      generalize hrb : b.ac r.q = xb at *
      have HCN := Lib.hid hcn
      clear hra hrb hr0 hin hcn
      have hnI : (n : Int) < (L.length : Int) := by omega
      have kk2 := k2 W4 hE3
      have ll2 := l2 W4 hE3
      have kk3 := k3 W4 hE3
      go_upto_region 11 with fail
      refine wp_named ?_
      intro W5 hW5
      have e45 : Ext W4 W5 := by rw [hW5]; exact alloc_ext _ _
      have d0 : W5.cell? ⟨W4.heap.size, 0, none⟩ = some (.int .i64 r.p) := by rw [hW5]; simp [go_sem]
      have d1 : W5.cell? ⟨W4.heap.size, 1, none⟩ = some (.int .i64 r.q) := by rw [hW5]; simp [go_sem]
      have kk2 := e45.cell kk2
      have ll2 := e45.cell ll2
      have kk3 := e45.cell kk3
      have ca0 := e45.cell ca0
      have cb0 := e45.cell cb0
      have hO := hO.trans e45
      have hpaI : (r.p : Int) < (a.acc.length : Int) := by omega
      have hqbI : (r.q : Int) < (b.acc.length : Int) := by omega
      clear hW5 c0 c1 c2 c3 c4 e45 hE3
      generalize W4.heap.size = b4 at *
      cases hx : (xa && !xb) with
      | false =>
        have hop := fun w => minus1_any w xa xb
        rw [hx] at hop
        have hn0 : C[n]? = some 0 := by rw [HCN.out]; simp only [hx]; rfl
        have hst := nxC_same (n := L.length) HOK.out.2.2.1 hnl hn0
        rw [hst] at hO
        have HOH := Lib.hid hO
        clear hx hn0 hst hO
        go_quiet ((go_at_call 93; exact Calls.quiet_of_same (hop _)))
        go_wp2
        go_roundw
        case rel => exact ⟨n + 1, by go_num, by omega, HOH.out.trans ((Ext.refl _).drewN _)⟩
        case measure => simp [intOf]; omega
      | true =>
        have hop := fun w => minus1_any w xa xb
        rw [hx] at hop
        have hn0 : C[n]? = some 1 := by rw [HCN.out]; simp only [hx]; rfl
        have hst := nxC_set (n := L.length) HOK.out.2.2.1 hnl hn0
        go_quiet ((go_at_call 93; exact Calls.quiet_of_same (hop _)))
        go_upto_region 12 with fail
        refine wp_named ?_
        intro W6 hW6
        have hO : OwnL w2 W6 [.row 3 1 (.slice (some ⟨gc, 0, none⟩) L.length L.length) L.length (nxC L.length C n)] := by rw [hW6]; exact hO.trans ((Ext.refl W5).drewN _)
        clear hW6
        have s0 := cell_own hO 0 rfl (nxC_at HOK.out.2.2.1 hnl)
        have sf := free_own (e := 3) hO 0 rfl n
        have hst2 := hO.store 0 rfl n (.int .i64 1)
        rw [hst] at hst2
        have HST := Lib.hid hst2
        clear hst2 hst hn0 hO
        go_wp2
        go_roundw
        case rel => exact ⟨n + 1, by go_num, by omega, HST.out⟩
        case measure => simp [intOf]; omega
    · obtain rfl : n = L.length := by omega
      rw [nxC_all HOK.out.2.2.1] at hO
      have hCn : C.length = L.length := HOK.out.2.2.1
      have hCC : IntsC W4 (.slice (some ⟨gc, 0, none⟩) L.length L.length) C C.length := by
        have := hO.ints 0 rfl hCn (by unfold lenMax; omega)
        exact this
      have hcln := cloneI_any W4 _ C _ hCC (by omega) (by omega)
      go_upto_region 15 with ((with_reducible refine hcln.mono ?_); rintro e w5 ⟨v5, rfl, hown5, e5⟩)
      rw [hCn] at hown5
      obtain ⟨g5, c5, rfl⟩ := ownsRow_pos hown5 (by omega)
      have hO5 : OwnL w2 w5 [.row 3 1 (.slice (some ⟨g5, 0, none⟩) L.length c5) L.length (C.map (.int .i64)), .row 3 1 (.slice (some ⟨gc, 0, none⟩) L.length L.length) L.length (C.map (.int .i64))] := hO.add e5 hown5
      have hrf := refine_any w5 _ rv2 C _ (hCC.ext e5) RP cL (hlr.ext hO5.ext) (by have := HOK.out.1; exact this) (by rw [hlrl]; exact HOK.out.2.1)
      clear hcln hown5 hO hCC
      go_upto_region 16 with ((with_reducible refine hrf.mono ?_); rintro e w6 ⟨v6, cl, many, rfl, hfit, href, hcls, e6⟩)
      clear hrf
      obtain ⟨hfl, hfv⟩ := href.final
      have hfl : cl.length = RP.length := hfl
      have hfv : ∀ c ∈ cl, 0 ≤ c ∧ c < (many : Int) := hfv
      have hE6 : Ext W1 w6 := hE2.trans (hO5.ext.trans e6)
      have h5 : w6.ownsRow w2.heap.size 3 1 (.slice (some ⟨g5, 0, none⟩) L.length c5) L.length (C.map (.int .i64)) := (hO5.trans e6).get 0 rfl
      by_cases hmany : 256 < many
      · have H := Lib.hid (HMany.out cl many href hmany)
        clear hfl hfv hfit hcls href h5 hO5 hnl
        go_upto_region 17 with fail
        have hb6 := kb w6 hE6
        have he6 := hE1.trans hE6
        go_wp2_with (first
          | (with_reducible refine wpList_build0 rfl 28 rfl _ (build_zero _) ?_)
          | (with_reducible refine wpList_store_blk _ rfl 28 _ _ rfl b6 28 _ _ rfl rfl hb6 (by kernel_rfl) (by kernel_rfl) (by kernel_rfl) ?_; intro w8 h8 g8))
        try rw [Exit.noGoto_ret]
        try simp only [Exit.inBlock, Exit.then]
        refine bodyPost_ret (results_cell_tmp rfl _ _ b6 28 _ (0, 0) _ (by simp [Act.put]) h8 Tryd.underlying28 rfl (by kernel_rfl)) rfl ?_
        exact ⟨_, _, rfl, H.out, (fun _ _ => dfa_zero _), Below.grown he6 g8 he6.size (fun k hk => by cases hk; exact HB6.out)⟩
      · have HR := Lib.hid (HSet.out cl many href (by omega))
        have hm1 : 1 ≤ many := by
          have h1 : 0 < cl.length := by rw [hfl, hlrl]; omega
          have := hfv cl[0] (List.getElem_mem h1)
          omega
        have hmkS := mk_slices many (by omega)
        have hmkB := mk_bools many (by omega)
        have HF := Lib.hid (And.intro hfl (And.intro hfv (And.intro hfit (And.intro hcls h5))))
        clear hfl hfv hfit hcls href h5 hnl
        go_upto_region 18 with fail
        have k0 : ∀ w', Ext w6 w' → w'.cell? ⟨w.heap.size + 1, 0, none⟩ = some (.int .i64 a.sy) := fun w' h => k0 w' (hE6.trans h)
        refine wp_region_ext 8 (factsOf [(3, FreshN w6.heap.size many (.slice none 0 0) 31), (5, FreshN w6.heap.size many (.bool false) 4), (7, Fresh w6.heap.size #[.int .i64 0, .slice none 0 0, .slice none 0 0] 28)]) (fun k => ([[], [0], [], [2], [], [4], [0, 1, 2, 3, 4, 5], [], [0, 1, 2, 3, 4, 5, 6, 7]] : List (List Nat)).getD k []) (by kernel_rfl) (by kernel_rfl) Ext.pre (mono_cons (stays_freshN _ _ _ _) (mono_cons (stays_freshN _ _ _ _) (mono_cons (stays_fresh _ _ _) (mono_nil)))) ?_
        simp only [List.take_succ_cons, List.take_zero]
        repeat (first | (with_reducible refine lexL_quiet' (v := ?_) ?_ ?_ ?_ ?_; rotate_left; (· with_reducible rfl); (· simp [factsOf]); (· intro w1 hw1 _; go_simp; with_reducible rfl); (try simp only [Act.put, List.setIfInBounds_toArray, List.set_cons_zero, List.set_cons_succ])) | (with_reducible refine lexL_skip ?_ ?_; (· simp [Region.wanted, yielded, undef]); (try simp only [Act.put, List.setIfInBounds_toArray, List.set_cons_zero, List.set_cons_succ])) | (with_reducible refine lexL_quiet (v := ?_) ?_ ?_ ?_ ?_; rotate_left; (· simp [Region.wanted, yielded, undef]); (· simp [factsOf]); (· intro w1 hw1 _; go_simp; with_reducible rfl); (try simp only [Act.put, List.setIfInBounds_toArray, List.set_cons_zero, List.set_cons_succ])))
        with_reducible refine lexL_give' (φ := ?_) ?_ ?_ ?_ ?_; rotate_left; (· with_reducible rfl); (· simp only [factsOf, Nat.reduceAdd, ↓reduceIte, Nat.reduceEqDiff]; rfl)
        · intro w2' hw2' _
          go_simp
          exact ⟨_, rfl, hw2'.size, heap_alloc_new w2' _⟩
        rintro v4 w2' hw2' ⟨b4, rfl, hb4, hblk4⟩ hk2
        clear hk2 hw2' hblk4 w2'
        (try simp only [Act.put, List.setIfInBounds_toArray, List.set_cons_zero, List.set_cons_succ])
        repeat (first | (with_reducible refine lexL_quiet' (v := ?_) ?_ ?_ ?_ ?_; rotate_left; (· with_reducible rfl); (· simp [factsOf]); (· intro w1 hw1 _; go_simp; with_reducible rfl); (try simp only [Act.put, List.setIfInBounds_toArray, List.set_cons_zero, List.set_cons_succ])) | (with_reducible refine lexL_skip ?_ ?_; (· simp [Region.wanted, yielded, undef]); (try simp only [Act.put, List.setIfInBounds_toArray, List.set_cons_zero, List.set_cons_succ])) | (with_reducible refine lexL_quiet (v := ?_) ?_ ?_ ?_ ?_; rotate_left; (· simp [Region.wanted, yielded, undef]); (· simp [factsOf]); (· intro w1 hw1 _; go_simp; with_reducible rfl); (try simp only [Act.put, List.setIfInBounds_toArray, List.set_cons_zero, List.set_cons_succ])))
        with_reducible refine lexL_give' (φ := ?_) ?_ ?_ ?_ ?_; rotate_left; (· with_reducible rfl); (· simp only [factsOf, Nat.reduceAdd, ↓reduceIte, Nat.reduceEqDiff]; rfl)
        · intro w2' hw2' _
          go_simp
          exact ⟨_, rfl, hw2'.size, heap_alloc_new w2' _⟩
        rintro v5 w2' hw2' ⟨b5, rfl, hb5, hblk5⟩ hk2
        clear hk2 hw2' hblk5 w2'
        (try simp only [Act.put, List.setIfInBounds_toArray, List.set_cons_zero, List.set_cons_succ])
        repeat (first | (with_reducible refine lexL_quiet' (v := ?_) ?_ ?_ ?_ ?_; rotate_left; (· with_reducible rfl); (· simp [factsOf]); (· intro w1 hw1 _; go_simp; with_reducible rfl); (try simp only [Act.put, List.setIfInBounds_toArray, List.set_cons_zero, List.set_cons_succ])) | (with_reducible refine lexL_skip ?_ ?_; (· simp [Region.wanted, yielded, undef]); (try simp only [Act.put, List.setIfInBounds_toArray, List.set_cons_zero, List.set_cons_succ])) | (with_reducible refine lexL_quiet (v := ?_) ?_ ?_ ?_ ?_; rotate_left; (· simp [Region.wanted, yielded, undef]); (· simp [factsOf]); (· intro w1 hw1 _; go_simp; with_reducible rfl); (try simp only [Act.put, List.setIfInBounds_toArray, List.set_cons_zero, List.set_cons_succ])))
        with_reducible refine lexL_give' (φ := ?_) ?_ ?_ ?_ ?_; rotate_left; (· with_reducible rfl); (· simp only [factsOf, Nat.reduceAdd, ↓reduceIte, Nat.reduceEqDiff]; rfl)
        · intro w2' hw2' _
          go_simp
          exact (fresh_alloc _ _ _ _ hw2'.size).2
        rintro v8 w2' hw2' ⟨b8, rfl, hb8, hblk8⟩ hk2
        clear hk2 hw2' hblk8 w2'
        (try simp only [Act.put, List.setIfInBounds_toArray, List.set_cons_zero, List.set_cons_succ])
        with_reducible refine lexL_nil ?_; intro w1 hw1 hk1; simp only [List.drop_succ_cons, List.drop_zero]
        obtain ⟨c4, h3, g4, hB4⟩ := hk1.get 3 rfl rfl
        obtain rfl : c4 = b4 := by injection h3 with h3; injection h3 with h3; injection h3 with h3; exact h3.symm
        obtain ⟨c5', h3', g5', hB5⟩ := hk1.get 5 rfl rfl
        obtain rfl : c5' = b5 := by injection h3' with h3; injection h3 with h3; injection h3 with h3; exact h3.symm
        obtain ⟨c8, h8, g8, hB8⟩ := hk1.get 7 rfl rfl
        obtain rfl : c8 = b8 := by cases h8; rfl
        have hn45 := blk_ne hB4 hB5 (by decide)
        have hn48 := blk_ne hB4 hB8 (by decide)
        have hn58 := blk_ne hB5 hB8 (by decide)
        clear hk1 h3 h3' h8 g4 g5' g8
        go_upto_region 19 with (with_reducible refine wpList_store_blk _ rfl 28 _ _ rfl c8 28 _ _ rfl rfl hB8 (by kernel_rfl) (by kernel_rfl) (by kernel_rfl) ?_; intro w7 h7 g7)
        have hE7 : Ext w6 w7 := Below.grown hw1 g7 hw1.size (fun k hk => by cases hk; exact hb8)
        have hC4 := (g7.block c4 (lt_of_block hB4) (by simp; omega)).trans hB4
        have hC5 := (g7.block c5' (lt_of_block hB5) (by simp; omega)).trans hB5
        have hO7 : OwnL w6 w7 [.row 31 1 (.slice (some ⟨c4, 0, none⟩) many many) many (List.replicate many (.slice none 0 0)), .row 4 1 (.slice (some ⟨c5', 0, none⟩) many many) many (List.replicate many (.bool false)), .blk c8 (.cells #[.int .i64 a.sy, .slice (some ⟨c4, 0, none⟩) many many, .slice (some ⟨c5', 0, none⟩) many many] 28)] := by
          refine ⟨hE7, fun A hA => ?_, ?_⟩
          · simp at hA
            rcases hA with rfl | rfl | rfl
            · exact own_of_blk hC4 hb4 (by omega)
            · exact own_of_blk hC5 hb5 (by omega)
            · exact ⟨hb8, h7⟩
          · simp [Asn.foot, Value.ownBlock]
            refine ⟨⟨?_, ?_⟩, ?_⟩ <;> omega
        clear hC4 hC5 hB4 hB5 hB8 h7 g7 hw1 hb4 hb5 hb8 hn45 hn48 hn58 hE7 hmkS hmkB w1
        have hfc : IntsC w6 v6 cl cl.length := HF.out.2.2.1
        obtain ⟨Ac, rfl, hcc, _, hcm⟩ := hfc
        have hclL : cl.length = L.length := HF.out.1.trans hlrl
        obtain ⟨Ar2, vr2, rfl, _, _, _, _, hrm2⟩ := id hlr
        unfold lenMax at hcm hrm2
        rw [hclL, hlrl]
        have hkk := HG.out.1.kk.2
        obtain ⟨i31, hi31, hz31, hs31, hb31⟩ := info_parts int_info
        clear hcm hrm2 hac hac' hcl k0 k1 k2 k3 l0 l1 l2
        go_wp2
        go_loopw [92] (fun iv wr => ∃ (i : Nat) (vs : List Value) (D : List Asn), iv = .int .i64 i ∧ i ≤ L.length ∧ Hid (QInv a.k RP cl many vs D i) ∧ OwnL w6 wr (.row 31 1 (.slice (some ⟨c4, 0, none⟩) many many) many vs :: .row 4 1 (.slice (some ⟨c5', 0, none⟩) many many) many (accI C cl many i) :: .blk c8 (.cells #[.int .i64 a.sy, .slice (some ⟨c4, 0, none⟩) many many, .slice (some ⟨c5', 0, none⟩) many many] 28) :: D)) (fun iv _ => L.length - (intOf iv).toNat)
        case atStart => exact ⟨0, _, [], rfl, Nat.zero_le _, Lib.hid (QInv.start _ _ _ _), by rw [accI_zero]; exact hO7⟩
        case round =>
          clear hO7
          obtain ⟨i, vs, D, rfl, hi, hQ, hO⟩ := hrel
          obtain ⟨W8, hW8⟩ : ∃ W, W = wr := ⟨_, rfl⟩; subst hW8
          by_cases hil : i < L.length
          · have hiR : i < RP.length := by omega
            have hic : i < cl.length := by omega
            obtain ⟨br, oo, uu, c', hv, _, c1, hi1⟩ := hlr.at_ hiR
            injection hv with hv; subst hv
            have eW : Ext w2 W8 := hO5.ext.trans (e6.trans hO.ext)
            have c1 := eW.cell c1
            have hrk := HRK.out _ (List.getElem_mem hiR)
            have hrt : ∀ t ∈ RP[i], 0 ≤ t ∧ t < (L.length : Int) := fun t ht => by have := (HOK.out.1.fit _ (List.getElem_mem hiR)).2 t ht; rw [hlrl] at this; exact this
            obtain ⟨q, hq⟩ := Int.eq_ofNat_of_zero_le (HF.out.2.1 _ (List.getElem_mem hic)).1
            have hqm : q < many := by have := (HF.out.2.1 _ (List.getElem_mem hic)).2; omega
            have hqg : cl[i]? = some (q : Int) := by rw [List.getElem?_eq_getElem hic, hq]
            obtain ⟨bc, oc, hAc, _, c2⟩ := (hcc.ext hO.ext).at_int hic
            subst hAc
            rw [hq] at c2
            obtain ⟨A2, rfl, hi2, _, him⟩ := hi1
            rw [hrk] at c1
            have hi3 := hi2
            have eW3 := eW
            have hi2 := hi2.ext eW
            have hrq := fun hm => rowQ_at (RP := RP) hqg hm hiR
            have HQG := Lib.hid (And.intro hqg (And.intro hrk (And.intro hrt hrq)))
            have d1 := cell_of_blk (hO.get 2 rfl).2 1 (u := .slice (some ⟨c4, 0, none⟩) many many) rfl
            have hiI : (i : Int) < (L.length : Int) := by omega
            have hqI : (q : Int) < (many : Int) := by omega
            clear hqg hrk hrt hrq hq hic him
            by_cases hmem : (q : Int) ∈ cl.take i
            · obtain ⟨_, g, cs, hD, hvq, _⟩ := hQ.out.seen q hqm hmem
              have s0 := cell_own hO 0 rfl hvq
              have hneq := fun w => neq_nil w 31 3 (some ⟨g, 0, none⟩) a.k a.k Tryd.underlying31
              have HN : Hid (QInv a.k RP cl many vs D (i + 1)) := Lib.hid (hQ.out.old HQG.out.1 hmem)
              rw [← accI_old HQG.out.1 hmem] at hO
              have HO := Lib.hid hO
              clear hmem hvq hD hO
              go_wp2
              go_roundw
              case rel => exact ⟨i + 1, vs, D, by go_num, by omega, HN, HO.out⟩
              case measure => simp [intOf]; omega
            · have hvq := hQ.out.new q hqm hmem
              have s0 := cell_own hO 0 rfl hvq
              have hneq := fun w => neq_nil w 31 3 none 0 0 Tryd.underlying31
              obtain ⟨z, hz⟩ : ∃ z, C[i]? = some z := ⟨_, List.getElem?_eq_getElem (by rw [hCn]; exact hil)⟩
              have ha3 := HF.out.2.2.2.2.cells (g := g5) rfl i (.int .i64 z) (by rw [List.getElem?_map, hz]; rfl)
              rw [Addr.add_lit, Nat.zero_add] at ha3
              have ha3 := hO.ext.cell ha3
              have hacq := accQ_at (C := C) HQG.out.1 hmem hz
              have HACQ := Lib.hid (And.intro hacq (And.intro hmem (And.intro hvq (And.intro hz hO))))
              clear hmem hvq hz hacq hO
              go_upto_region 24 with fail
              clear s0 c1 c2 hneq
              have d1e : ∀ w', Ext W8 w' → w'.cell? ⟨c8, 1, none⟩ = some (.slice (some ⟨c4, 0, none⟩) many many) := fun w' h => h.cell d1
              have d2 := cell_of_blk (HACQ.out.2.2.2.2.get 2 rfl).2 2 (u := .slice (some ⟨c5', 0, none⟩) many many) rfl
              have d2e : ∀ w', Ext W8 w' → w'.cell? ⟨c8, 2, none⟩ = some (.slice (some ⟨c5', 0, none⟩) many many) := fun w' h => h.cell d2
              have ha3e : ∀ w', Ext W8 w' → w'.cell? ⟨g5, i, none⟩ = some (.int .i64 z) := fun w' h => h.cell ha3
              clear d1 d2 ha3
              refine wp_region_ext 8 (factsOf []) (fun k => ([[], [0], [], [], [], [3, 4], [3, 4, 5], [3, 4, 5, 6], [0, 1, 2, 3, 4, 5, 6, 7], [0, 1, 2, 3, 4, 5, 6, 7, 8]] : List (List Nat)).getD k []) (by kernel_rfl) (by kernel_rfl) Ext.pre (mono_nil) ?_
              simp only [List.take_succ_cons, List.take_zero]
              repeat (first | (with_reducible refine lexL_quiet' (v := ?_) ?_ ?_ ?_ ?_; rotate_left; (· with_reducible rfl); (· simp [factsOf]); (· intro w1 hw1 _; go_simp; with_reducible rfl); (try simp only [Act.put, List.setIfInBounds_toArray, List.set_cons_zero, List.set_cons_succ])) | (with_reducible refine lexL_skip ?_ ?_; (· simp [Region.wanted, yielded, undef]); (try simp only [Act.put, List.setIfInBounds_toArray, List.set_cons_zero, List.set_cons_succ])) | (with_reducible refine lexL_quiet (v := ?_) ?_ ?_ ?_ ?_; rotate_left; (· simp [Region.wanted, yielded, undef]); (· simp [factsOf]); (· intro w1 hw1 _; go_simp; with_reducible rfl); (try simp only [Act.put, List.setIfInBounds_toArray, List.set_cons_zero, List.set_cons_succ])))
              with_reducible refine lexL_nil ?_; intro w1 hw1 hk1; simp only [List.drop_succ_cons, List.drop_zero]
              clear hk1
              have hO9 := HACQ.out.2.2.2.2.trans hw1
              have s0 := cell_own hO9 1 rfl (accI_at (C := C) (cl := cl) (i := i) hqm)
              have sf := free_own (e := 4) hO9 1 rfl q
              have hst := hO9.store 1 rfl q (.bool (accQ C cl q))
              rw [accI_new HQG.out.1 hqm, HACQ.out.1] at hst
              have HST := Lib.hid hst
              clear hst hO9
              go_upto_region 25 with fail
              refine wp_named ?_
              intro W9 hW9
              have hO9 : OwnL w6 W9 (.row 31 1 (.slice (some ⟨c4, 0, none⟩) many many) many vs :: .row 4 1 (.slice (some ⟨c5', 0, none⟩) many many) many (accI C cl many (i + 1)) :: .blk c8 (.cells #[.int .i64 a.sy, .slice (some ⟨c4, 0, none⟩) many many, .slice (some ⟨c5', 0, none⟩) many many] 28) :: D) := by rw [hW9]; exact HST.out
              have hrq := HQG.out.2.2.2 HACQ.out.2.1
              have hvset : vs.set q (.slice none 0 0) = vs := list_set_self HACQ.out.2.2.1
              have hvlen : q < vs.length := by rw [hQ.out.len]; exact hqm
              have hrl := HQG.out.2.1
              have hrt := HQG.out.2.2.1
              have HQ1 := Lib.hid (And.intro HQG.out.1 (And.intro HACQ.out.2.1 (And.intro hQ.out hqm)))
              clear hW9 s0 sf HST hw1 w1 d1e d2e ha3e HACQ c1 HQG hQ hi2
              generalize RP[i] = row at *
              have eW2 : Ext w2 w6 := hO5.ext.trans e6
              clear eW3
              have hO10 : OwnL w6 W9 (.row 3 1 (.slice none 0 0) 0 (((rowQ RP cl q).take 0).map (.int .i64)) :: .row 31 1 (.slice (some ⟨c4, 0, none⟩) many many) many (vs.set q (.slice none 0 0)) :: .row 4 1 (.slice (some ⟨c5', 0, none⟩) many many) many (accI C cl many (i + 1)) :: .blk c8 (.cells #[.int .i64 a.sy, .slice (some ⟨c4, 0, none⟩) many many, .slice (some ⟨c5', 0, none⟩) many many] 28) :: D) := by
                rw [hvset]
                exact hO9.add (Ext.refl _) (A := .row 3 1 (.slice none 0 0) 0 []) (World.ownsRow_nil _ _ _ _)
              have HRT := Lib.hid (And.intro hrt hrq)
              clear hrt hrq hvset hO9
              go_wp2
              go_loopw [118] (fun xv wr => ∃ (x : Nat) (u : Value), xv = .int .i64 x ∧ x ≤ a.k ∧ OwnL w6 wr (.row 3 1 u x (((rowQ RP cl q).take x).map (.int .i64)) :: .row 31 1 (.slice (some ⟨c4, 0, none⟩) many many) many (vs.set q u) :: .row 4 1 (.slice (some ⟨c5', 0, none⟩) many many) many (accI C cl many (i + 1)) :: .blk c8 (.cells #[.int .i64 a.sy, .slice (some ⟨c4, 0, none⟩) many many, .slice (some ⟨c5', 0, none⟩) many many] 28) :: D)) (fun xv _ => a.k - (intOf xv).toNat)
              case atStart => exact ⟨0, _, rfl, Nat.zero_le _, hO10⟩
              case round =>
                clear hO10
                obtain ⟨x, u, rfl, hx, hO⟩ := hrel
                obtain ⟨Wa, hWa⟩ : ∃ W, W = wr := ⟨_, rfl⟩; subst hWa
                by_cases hxl : x < a.k
                · have hxr : x < row.length := by omega
                  have htb := HRT.out.1 _ (List.getElem_mem hxr)
                  obtain ⟨t, ht⟩ := Int.eq_ofNat_of_zero_le htb.1
                  obtain ⟨b2, o2, hA2, _, c3⟩ := (hi3.ext (eW2.trans hO.ext)).at_int hxr
                  subst hA2
                  have htl : t < L.length := by omega
                  have htc : t < cl.length := by omega
                  obtain ⟨bc', oc', hAc, _, c4'⟩ := hcc.at_int htc
                  cases hAc
                  rw [ht] at c3
                  have hrqx : (rowQ RP cl q).take (x + 1) = (rowQ RP cl q).take x ++ [cl[t]] := by
                    have hlx : x < (rowQ RP cl q).length := by rw [HRT.out.2]; simpa using hxr
                    rw [List.take_succ_eq_append_getElem hlx]
                    congr 2
                    have hg : ∀ (l : List Int) (h : x < l.length), l = row.map (fun t => cl.getD t.toNat 0) → l[x] = cl[t] := fun l h e => by
                      subst e
                      rw [List.getElem_map, ht]
                      simp [List.getD, htc]
                    exact hg _ _ HRT.out.2
                  have d1 := cell_of_blk (hO.get 3 rfl).2 1 (u := .slice (some ⟨c4, 0, none⟩) many many) rfl
                  have s0 := cell_own hO 1 rfl (j := q) (u := u) (by rw [List.getElem?_set_self hvlen])
                  have hxI : (x : Int) < (a.k : Int) := by omega
                  have htI : (t : Int) < (L.length : Int) := by omega
                  have cE : ∀ w', Ext w6 w' → w'.cell? ⟨bc, oc + t, none⟩ = some (.int .i64 cl[t]) := fun w' h => h.cell c4'
                  generalize cl[t] = vv at *
                  have HRX := Lib.hid hrqx
                  have HS0 : Hid (Wa.cell? ⟨c8, 1, none⟩ = some (.slice (some ⟨c4, 0, none⟩) many many) ∧ Wa.cell? ⟨c4, q, none⟩ = some u ∧ Wa.cell? ⟨bc, oc + t, none⟩ = some (.int .i64 vv)) := Lib.hid ⟨d1, s0, cE _ hO.ext⟩
                  clear hrqx d1 s0 c4' ht htb
                  go_upto_region 28 with fail
                  clear c3
                  have hsz7 := hO.ext.size
                  have hS0 : Sr c8 c4 q bc (oc + t) many u vv Wa.drew := ⟨(drew_ext _).cell HS0.out.1, (drew_ext _).cell HS0.out.2.1, (drew_ext _).cell HS0.out.2.2⟩
                  refine wp_region_bar 14 (Sr c8 c4 q bc (oc + t) many u vv) (by kernel_rfl) ?_
                  refine wpAnyB_take (i := 0) (v := ?_) rfl (by kernel_rfl) (by kernel_rfl) (by kernel_rfl) (by kernel_rfl) (fun _ _ _ h => h) (Or.inl ⟨by rfl, ?_⟩) hS0 ?_
                  rotate_left
                  · (intro w hSw; obtain ⟨s1, s2, s3⟩ := hSw; go_simp; first | done | with_reducible rfl)
                  try simp only [Act.put, List.setIfInBounds_toArray, List.set_cons_zero, List.set_cons_succ]
                  refine wpAnyB_take (i := 1) (v := ?_) rfl (by kernel_rfl) (by kernel_rfl) (by kernel_rfl) (by kernel_rfl) (fun _ _ _ h => h) (Or.inl ⟨by rfl, ?_⟩) hS0 ?_
                  rotate_left
                  · (intro w hSw; obtain ⟨s1, s2, s3⟩ := hSw; go_simp; first | done | with_reducible rfl)
                  try simp only [Act.put, List.setIfInBounds_toArray, List.set_cons_zero, List.set_cons_succ]
                  refine wpAnyB_take (i := 2) (v := ?_) rfl (by kernel_rfl) (by kernel_rfl) (by kernel_rfl) (by kernel_rfl) (fun _ _ _ h => h) (Or.inl ⟨by rfl, ?_⟩) hS0 ?_
                  rotate_left
                  · (intro w hSw; obtain ⟨s1, s2, s3⟩ := hSw; go_simp; first | done | with_reducible rfl)
                  try simp only [Act.put, List.setIfInBounds_toArray, List.set_cons_zero, List.set_cons_succ]
                  refine wpAnyB_take (i := 3) (v := ?_) rfl (by kernel_rfl) (by kernel_rfl) (by kernel_rfl) (by kernel_rfl) (fun _ _ _ h => h) (Or.inl ⟨by rfl, ?_⟩) hS0 ?_
                  rotate_left
                  · (intro w hSw; obtain ⟨s1, s2, s3⟩ := hSw; go_simp; first | done | with_reducible rfl)
                  try simp only [Act.put, List.setIfInBounds_toArray, List.set_cons_zero, List.set_cons_succ]
                  refine wpAnyB_take (i := 4) (v := ?_) rfl (by kernel_rfl) (by kernel_rfl) (by kernel_rfl) (by kernel_rfl) (fun _ _ _ h => h) (Or.inl ⟨by rfl, ?_⟩) hS0 ?_
                  rotate_left
                  · (intro w hSw; obtain ⟨s1, s2, s3⟩ := hSw; go_simp; first | done | with_reducible rfl)
                  try simp only [Act.put, List.setIfInBounds_toArray, List.set_cons_zero, List.set_cons_succ]
                  refine wpAnyB_take (i := 5) (v := ?_) rfl (by kernel_rfl) (by kernel_rfl) (by kernel_rfl) (by kernel_rfl) (fun _ _ _ h => h) (Or.inl ⟨by rfl, ?_⟩) hS0 ?_
                  rotate_left
                  · (intro w hSw; obtain ⟨s1, s2, s3⟩ := hSw; go_simp; first | done | with_reducible rfl)
                  try simp only [Act.put, List.setIfInBounds_toArray, List.set_cons_zero, List.set_cons_succ]
                  refine wpAnyB_take (i := 6) (v := ?_) rfl (by kernel_rfl) (by kernel_rfl) (by kernel_rfl) (by kernel_rfl) (fun _ _ _ h => h) (Or.inl ⟨by rfl, ?_⟩) hS0 ?_
                  rotate_left
                  · (intro w hSw; obtain ⟨s1, s2, s3⟩ := hSw; go_simp; first | done | with_reducible rfl)
                  try simp only [Act.put, List.setIfInBounds_toArray, List.set_cons_zero, List.set_cons_succ]
                  refine wpAnyB_take (i := 7) (v := ?_) rfl (by kernel_rfl) (by kernel_rfl) (by kernel_rfl) (by kernel_rfl) (fun _ _ _ h => h) (Or.inl ⟨by rfl, ?_⟩) hS0 ?_
                  rotate_left
                  · (intro w hSw; obtain ⟨s1, s2, s3⟩ := hSw; go_simp; first | done | with_reducible rfl)
                  try simp only [Act.put, List.setIfInBounds_toArray, List.set_cons_zero, List.set_cons_succ]
                  refine wpAnyB_take (i := 8) (v := ?_) rfl (by kernel_rfl) (by kernel_rfl) (by kernel_rfl) (by kernel_rfl) (fun _ _ _ h => h) (Or.inl ⟨by rfl, ?_⟩) hS0 ?_
                  rotate_left
                  · (intro w hSw; obtain ⟨s1, s2, s3⟩ := hSw; go_simp; first | done | with_reducible rfl)
                  try simp only [Act.put, List.setIfInBounds_toArray, List.set_cons_zero, List.set_cons_succ]
                  refine wpAnyB_take (i := 9) (v := ?_) rfl (by kernel_rfl) (by kernel_rfl) (by kernel_rfl) (by kernel_rfl) (fun _ _ _ h => h) (Or.inl ⟨by rfl, ?_⟩) hS0 ?_
                  rotate_left
                  · (intro w hSw; obtain ⟨s1, s2, s3⟩ := hSw; go_simp; first | done | with_reducible rfl)
                  try simp only [Act.put, List.setIfInBounds_toArray, List.set_cons_zero, List.set_cons_succ]
                  refine wpAnyB_take (i := 10) (v := ?_) rfl (by kernel_rfl) (by kernel_rfl) (by kernel_rfl) (by kernel_rfl) (fun _ _ _ h => h) (Or.inl ⟨by rfl, ?_⟩) hS0 ?_
                  rotate_left
                  · (intro w hSw; obtain ⟨s1, s2, s3⟩ := hSw; go_simp; first | done | with_reducible rfl)
                  try simp only [Act.put, List.setIfInBounds_toArray, List.set_cons_zero, List.set_cons_succ]
                  refine wpAnyB_take (i := 11) (v := ?_) rfl (by kernel_rfl) (by kernel_rfl) (by kernel_rfl) (by kernel_rfl) (fun _ _ _ h => h) (Or.inl ⟨by rfl, ?_⟩) hS0 ?_
                  rotate_left
                  · (intro w hSw; obtain ⟨s1, s2, s3⟩ := hSw; go_simp; first | done | with_reducible rfl)
                  try simp only [Act.put, List.setIfInBounds_toArray, List.set_cons_zero, List.set_cons_succ]
                  refine wpAnyB_ready (rs := [12]) (by kernel_rfl) (by simp) (AllB.cons rfl (fun K hK => ?_) AllB.nil)
                  go_simp
                  refine hK.out _ _ (Sr.ext hS0 (alloc_ext _ _)) ?_
                  clear hK K
                  try simp only [Act.put, List.setIfInBounds_toArray, List.set_cons_zero, List.set_cons_succ]
                  refine wpAnyB_ready (rs := [13]) (by kernel_rfl) (by simp) (AllB.cons rfl (fun K hK => ?_) AllB.nil)
                  refine step_append_own3 rfl _ _ 31 rfl w6.heap.size 3 i31 (.int .i64 0) 1 8 Tryd.underlying31 hi31 hz31 hs31 hb31 rfl (by decide) u x (((rowQ RP cl q).take x).map (.int .i64)) (by rfl) ((hO.trans (by repeat (first | exact Ext.refl _ | refine Ext.drew ?_ | refine Ext.alloc ?_ _))).get 0 rfl) ⟨_, 0, none⟩ 1 1 [.int .i64 vv] (by rfl) rfl (new_cell _ _ _ _ (by simp)) (one_int _) (by unfold maxLen; omega) (by omega) (by simp; omega) ?_
                  intro v6 wb hown6 hg6 hb6 hk6
                  have hO8 := (hO.trans (by repeat (first | exact Ext.refl _ | refine Ext.drew ?_ | refine Ext.alloc ?_ _))).app 0 rfl hg6 hown6 hb6
                  obtain ⟨g6, c6, rfl⟩ := ownsRow_pos hown6 (by omega)
                  have hf8 := free_own (e := 31) hO8 1 rfl q
                  have d8 := cell_of_blk (hO8.get 3 rfl).2 1 (u := .slice (some ⟨c4, 0, none⟩) many many) rfl
                  have s9 := cell_own hO8 1 rfl (List.getElem?_set_self hvlen)
                  have hS8 : Sr c8 c4 q bc (oc + t) many u vv wb := ⟨d8, s9, cE _ hO8.ext⟩
                  refine hK.out _ _ hS8 ?_
                  clear hK K hk6 hb6 hg6 hown6 hS8 hS0 hsz7
                  try simp only [Act.put, List.setIfInBounds_toArray, List.set_cons_zero, List.set_cons_succ]
                  refine wpAnyB_tail rfl rfl (by decide) (by kernel_rfl) ?_
                  have hO9 := hO8.store 1 rfl q (.slice (some ⟨g6, 0, none⟩) (x + 1) c6)
                  have hO9 : OwnL w6 _ (.row 3 1 (.slice (some ⟨g6, 0, none⟩) (x + 1) c6) (x + 1) (((rowQ RP cl q).take x).map (.int .i64) ++ [.int .i64 vv]) :: .row 31 1 (.slice (some ⟨c4, 0, none⟩) many many) many ((vs.set q u).set q (.slice (some ⟨g6, 0, none⟩) (x + 1) c6)) :: .row 4 1 (.slice (some ⟨c5', 0, none⟩) many many) many (accI C cl many (i + 1)) :: .blk c8 (.cells #[.int .i64 a.sy, .slice (some ⟨c4, 0, none⟩) many many, .slice (some ⟨c5', 0, none⟩) many many] 28) :: D) := hO9
                  rw [List.set_set, show ((rowQ RP cl q).take x).map (Value.int .i64) ++ [.int .i64 vv] = ((rowQ RP cl q).take (x + 1)).map (.int .i64) by rw [HRX.out, List.map_append]; rfl] at hO9
                  have HO9 := Lib.hid hO9
                  clear hO9 hO8 hO
                  go_wp2
                  go_roundw
                  case rel => exact ⟨x + 1, _, by go_num, hxl, HO9.out⟩
                  case measure => simp [intOf]; omega
                · obtain rfl : x = a.k := by omega
                  have hown := hO.get 0 rfl
                  obtain ⟨gu, cu, rfl⟩ := ownsRow_pos hown (by omega)
                  have hcap := own_cap hown
                  have s0 := cell_own hO 1 rfl (j := q) (u := .slice (some ⟨gu, 0, none⟩) a.k cu) (by rw [List.getElem?_set_self hvlen])
                  have d1 := cell_of_blk (hO.get 3 rfl).2 1 (u := .slice (some ⟨c4, 0, none⟩) many many) rfl
                  have d1e : ∀ w', Ext Wa w' → w'.cell? ⟨c8, 1, none⟩ = some (.slice (some ⟨c4, 0, none⟩) many many) := fun w' h => h.cell d1
                  have s0e : ∀ w', Ext Wa w' → w'.cell? ⟨c4, q, none⟩ = some (.slice (some ⟨gu, 0, none⟩) a.k cu) := fun w' h => h.cell s0
                  have HO := Lib.hid hO
                  have HCAP := Lib.hid hcap
                  clear hO hown hcap s0 d1
                  go_upto_region 30 with fail
                  refine wp_region_ext 9 (factsOf [(8, fun v _ => v = .slice (some ⟨gu, 0, none⟩) a.k a.k)]) (fun k => ([[], [0], [], [], [3], [], [3, 4, 5], [3, 4, 5, 6], [3, 4, 5, 6, 7], [0, 1, 2, 3, 4, 5, 6, 7, 8], [0, 1, 2, 3, 4, 5, 6, 7, 8, 9]] : List (List Nat)).getD k []) (by kernel_rfl) (by kernel_rfl) Ext.pre (mono_cons (stays_eq _) (mono_nil)) ?_
                  simp only [List.take_succ_cons, List.take_zero]
                  repeat (first | (with_reducible refine lexL_quiet' (v := ?_) ?_ ?_ ?_ ?_; rotate_left; (· with_reducible rfl); (· simp [factsOf]); (· intro w1 hw1 _; go_simp; with_reducible rfl); (try simp only [Act.put, List.setIfInBounds_toArray, List.set_cons_zero, List.set_cons_succ])) | (with_reducible refine lexL_skip ?_ ?_; (· simp [Region.wanted, yielded, undef]); (try simp only [Act.put, List.setIfInBounds_toArray, List.set_cons_zero, List.set_cons_succ])) | (with_reducible refine lexL_quiet (v := ?_) ?_ ?_ ?_ ?_; rotate_left; (· simp [Region.wanted, yielded, undef]); (· simp [factsOf]); (· intro w1 hw1 _; go_simp; with_reducible rfl); (try simp only [Act.put, List.setIfInBounds_toArray, List.set_cons_zero, List.set_cons_succ])))
                  with_reducible refine lexL_give' (φ := ?_) ?_ ?_ ?_ ?_; rotate_left; (· with_reducible rfl); (· simp only [factsOf, Nat.reduceAdd, ↓reduceIte, Nat.reduceEqDiff]; rfl)
                  · intro w2' hw2' hkn
                    go_simp
                    refine (clip_any w2' gu a.k cu HCAP.out.1 (by have := HCAP.out.2; unfold maxLen at this; unfold lenMax; omega)).mono ?_
                    rintro e w3' ⟨rfl, rfl⟩
                    exact ⟨_, rfl, Ext.refl _, rfl⟩
                  rintro v8 w2' hw2' rfl hk2
                  clear hk2 hw2' w2'
                  (try simp only [Act.put, List.setIfInBounds_toArray, List.set_cons_zero, List.set_cons_succ])
                  repeat (first | (with_reducible refine lexL_quiet' (v := ?_) ?_ ?_ ?_ ?_; rotate_left; (· with_reducible rfl); (· simp [factsOf]); (· intro w1 hw1 _; go_simp; with_reducible rfl); (try simp only [Act.put, List.setIfInBounds_toArray, List.set_cons_zero, List.set_cons_succ])) | (with_reducible refine lexL_skip ?_ ?_; (· simp [Region.wanted, yielded, undef]); (try simp only [Act.put, List.setIfInBounds_toArray, List.set_cons_zero, List.set_cons_succ])) | (with_reducible refine lexL_quiet (v := ?_) ?_ ?_ ?_ ?_; rotate_left; (· simp [Region.wanted, yielded, undef]); (· simp [factsOf]); (· intro w1 hw1 _; go_simp; with_reducible rfl); (try simp only [Act.put, List.setIfInBounds_toArray, List.set_cons_zero, List.set_cons_succ])))
                  with_reducible refine lexL_nil ?_; intro w1 hw1 hk1; simp only [List.drop_succ_cons, List.drop_zero]
                  clear hk1
                  have s1 := s0e w1 hw1
                  have sf := free_own (e := 31) (HO.out.trans hw1) 1 rfl q
                  have hst := (HO.out.trans hw1).store 1 rfl q (.slice (some ⟨gu, 0, none⟩) a.k a.k)
                  have HST := Lib.hid hst
                  clear hst
                  go_wp2
                  have hst : OwnL w6 _ (.row 3 1 (.slice (some ⟨gu, 0, none⟩) a.k cu) a.k (((rowQ RP cl q).take a.k).map (.int .i64)) :: .row 31 1 (.slice (some ⟨c4, 0, none⟩) many many) many ((vs.set q (.slice (some ⟨gu, 0, none⟩) a.k cu)).set q (.slice (some ⟨gu, 0, none⟩) a.k a.k)) :: .row 4 1 (.slice (some ⟨c5', 0, none⟩) many many) many (accI C cl many (i + 1)) :: .blk c8 (.cells #[.int .i64 a.sy, .slice (some ⟨c4, 0, none⟩) many many, .slice (some ⟨c5', 0, none⟩) many many] 28) :: D) := HST.out
                  rw [List.set_set] at hst
                  obtain ⟨cs, hcs, hdone⟩ := hst.done
                  have hql : (rowQ RP cl q).length = a.k := by rw [HRT.out.2, List.length_map]; exact hrl
                  rw [List.take_of_length_le (Nat.le_of_eq hql), Nat.mul_one] at hcs
                  have hnew := QInv.add HQ1.out.2.2.1 HQ1.out.1 HQ1.out.2.1 HQ1.out.2.2.2 (g := gu) (cs := cs) hql hcs
                  go_roundw
                  case rel => exact ⟨i + 1, _, _, by go_num, by omega, Lib.hid hnew, hdone.perm ((List.Perm.swap _ _ _).trans ((List.Perm.swap _ _ _).cons _ |>.trans (((List.Perm.swap _ _ _).cons _).cons _)))⟩
                  case measure => simp [intOf]; omega
          · obtain rfl : i = L.length := by omega
            have hall : ∀ c, c < many → (c : Int) ∈ cl := fun c hc => by
              obtain ⟨j, hj, he⟩ := HF.out.2.2.2.1.all c hc
              exact List.mem_of_getElem? he
            have hb6 := kb w6 hE6
            have hOB := hO.base (hE1.trans hE6) HB6.out hb6
            have hQ2 := hQ.out
            rw [← hclL] at hQ2
            have hOB2 := hOB
            rw [← hclL] at hOB2
            have hbw := (hOB.get 0 rfl).2
            have hb8 := (hOB.get 3 rfl).2
            have HFIN : Hid (∀ w8, W8.grownBy w8 (some b6) → w8.heap[b6]? = some (.cells #[.int .i64 a.sy, .slice (some ⟨c4, 0, none⟩) many many, .slice (some ⟨c5', 0, none⟩) many many] 28 (0, 0)) → FarF w.heap.size w8 (.agg #[.int .i64 a.sy, .slice (some ⟨c4, 0, none⟩) many many, .slice (some ⟨c5', 0, none⟩) many many]) (quoD a.sy RP C cl many) ∧ Ext w w8) := Lib.hid (fun w8 hg hb => by
              have hO8 := hOB2.step (A' := .blk b6 (.cells #[.int .i64 a.sy, .slice (some ⟨c4, 0, none⟩) many many, .slice (some ⟨c5', 0, none⟩) many many] 28 (0, 0))) 0 rfl hg (fun c hc => by cases hc; rfl) ⟨HB6.out, hb⟩ (fun c hc => .inl hc)
              exact ⟨quo_far hQ2 hall (by omega) (by omega) hO8 (fun A hA => by simp [hA]) (by simp) (by simp), hO8.ext⟩)
            clear hO hOB hOB2 hQ2 hall hb6
            go_wp2_with (first
              | (with_reducible refine wpList_load_row rfl 28 _ rfl c8 rfl 28 _ (0, 0) _ hb8 Tryd.underlying28 rfl (by kernel_rfl) ?_)
              | (with_reducible refine wpList_store_blk _ rfl 28 _ _ rfl b6 28 _ _ rfl rfl hbw (by kernel_rfl) (by kernel_rfl) (by kernel_rfl) ?_; intro w8 h8 g8))
            try rw [Exit.noGoto_ret]
            try simp only [Exit.inBlock, Exit.then]
            refine bodyPost_ret (results_cell_tmp rfl _ _ b6 28 _ (0, 0) _ (by simp [Act.put]) h8 Tryd.underlying28 rfl (by kernel_rfl)) rfl ?_
            have hfin := HFIN.out w8 g8 h8
            exact ⟨_, _, rfl, HR.out, hfin.1, hfin.2⟩
end Go.Proofs.YthlnmcokgfpgmaaDoor
