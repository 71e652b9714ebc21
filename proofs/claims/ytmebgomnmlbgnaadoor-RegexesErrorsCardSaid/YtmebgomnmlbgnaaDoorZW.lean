/-   -/
import Derived.Test.YtmebgomnmlbgnaaDoorZV
import Derived.Test.YtmebgomnmlbgnaaDoorZD
import Derived.Test.YtmebgomnmlbgnaaDoorZM
set_option linter.unnecessarySimpa false
set_option linter.unusedSectionVars false
namespace Go.Proofs.YtmebgomnmlbgnaaDoor
open Go.RowKit Go.Maps
set_option linter.unusedVariables false
set_option linter.unusedSimpArgs false
attribute [local go_sem] Oper.quietV quietV Oper.gives givesV ext_refl_iff ext_alloc_iff ext_drew_iff ext_drewN_iff
abbrev zDfaV : Value := .agg #[.int .i64 0, .slice none 0 0, .slice none 0 0]
set_option maxRecDepth 100000 in
set_option maxHeartbeats 16000000 in
theorem todfa_bad {sy er : Int} {t : Tr} {w : World} {v : Value} (hN : NodeV w t v) (hT : Tabs w) (he : checkX sy t = er) (hz : er ≠ 0) : Calls Tryd.prog 11 #[v, .int .i64 sy] w (PairP w zDfaV er) := by
  obtain ⟨hop, A, c, vs, rfl, -⟩ := hN.form
  have HK := Lib.hid (And.intro hN hT)
  go_enter Tryd.func11, Tryd.ntmps11
  go_upto_region 1 with fail
  refine wp_named ?_
  intro W1 hW1
  have hE1 : Ext w W1 := by rw [hW1]; exact (alloc_ext _ _).trans (alloc_ext _ _)
  have hB2 : W1.heap[w.heap.size]? = some (.cells #[.int .u8 (t.op : Int), .int .i64 t.n, .slice A t.subs.length c] 35) := by rw [hW1]; exact heap_ext (alloc_ext _ _) (heap_alloc_new _ _)
  have hB4 : W1.heap[w.heap.size + 1]? = some zDfa := by rw [hW1]; exact heap_new2 _ _ _
  have hck := check_any (sy := sy) (HK.out.1.ext hE1) (HK.out.2.ext hE1)
  have HB := Lib.hid (And.intro hE1 hB4)
  clear hW1 hN hT hB4 hop
  rw [he] at hck
  have hne : (er != 0) = true := bne_iff_ne.2 hz
  have hck : Calls Tryd.prog 35 #[.agg #[.int .u8 (t.op : Int), .int .i64 t.n, .slice A t.subs.length c], .int .i64 sy] W1 (fun e w' => e = .returned (.int .i64 er) ∧ Ext W1 w') := hck
  clear he hz hE1
  go_wp2_with (first
    | (with_reducible refine wpList_load_row rfl 35 _ rfl w.heap.size rfl 35 _ (0, 0) _ hB2 Tryd.underlying35 rfl (by kernel_rfl) ?_)
    | ((with_reducible refine hck.mono ?_); rintro e W8 ⟨rfl, e8⟩)
    | (with_reducible refine wpList_store_blk _ rfl 28 _ _ rfl (w.heap.size + 1) 28 #[.int .i64 0, .slice none 0 0, .slice none 0 0] _ rfl rfl (heap_ext e8 HB.out.2) (by kernel_rfl) (by kernel_rfl) (by kernel_rfl) ?_; intro w10 h10 g10))
  refine bodyPost_ret (results_ct2 rfl _ _ (w.heap.size + 1) 28 _ (0, 0) _ (by simp [Act.put]) h10 Tryd.underlying28 rfl (by kernel_rfl)) rfl ?_
  have hE10 := HB.out.1.trans e8
  exact ⟨by simp [Act.put], Below.grown hE10 g10 hE10.size (fun k hk => by cases hk; exact Nat.le_succ _)⟩
set_option maxRecDepth 100000 in
set_option maxHeartbeats 16000000 in
theorem todfa_ok {m : Nat} {r : Rx} {w : World} {v : Value} (hN : NodeV w r.tr v) (hT : Tabs w) (h1 : 1 ≤ m) (h2 : m ≤ 16) (ho : r.okS m = true) (hcn : r.cnt ≤ 64) : Calls Tryd.prog 11 #[v, .int .i64 (m : Int)] w (MinP m (dfaR m r) w) := by
  obtain ⟨sy, hsy⟩ : ∃ sy : Int, sy = m := ⟨_, rfl⟩
  have he : checkX sy r.tr = 0 := by rw [hsy]; exact check_rx h1 h2 hcn ho
  have HSY := Lib.hid hsy
  rw [← hsy]
  clear hsy
  obtain ⟨t, ht⟩ : ∃ t, t = r.tr := ⟨_, rfl⟩
  rw [← ht] at hN he
  have HTR := Lib.hid ht
  clear ht
  obtain ⟨hop, A, c, vs, rfl, -⟩ := hN.form
  have HK := Lib.hid (And.intro hN hT)
  go_enter Tryd.func11, Tryd.ntmps11
  go_upto_region 1 with fail
  refine wp_named ?_
  intro W1 hW1
  have hE1 : Ext w W1 := by rw [hW1]; exact (alloc_ext _ _).trans (alloc_ext _ _)
  have hB2 : W1.heap[w.heap.size]? = some (.cells #[.int .u8 (t.op : Int), .int .i64 t.n, .slice A t.subs.length c] 35) := by rw [hW1]; exact heap_ext (alloc_ext _ _) (heap_alloc_new _ _)
  have hB4 : W1.heap[w.heap.size + 1]? = some zDfa := by rw [hW1]; exact heap_new2 _ _ _
  have hck := check_any (sy := sy) (HK.out.1.ext hE1) (HK.out.2.ext hE1)
  have HB := Lib.hid (And.intro hE1 hB4)
  clear hW1 hN hT hB4 hop
  rw [he] at hck
  have hck : Calls Tryd.prog 35 #[.agg #[.int .u8 (t.op : Int), .int .i64 t.n, .slice A t.subs.length c], .int .i64 sy] W1 (fun e w' => e = .returned (.int .i64 0) ∧ Ext W1 w') := hck
  have hst := fun w' (e : Ext W1 w') => dfa_any m h2 r w' (.agg #[.int .u8 (t.op : Int), .int .i64 t.n, .slice A t.subs.length c]) (by rw [← HTR.out]; exact HK.out.1.ext (hE1.trans e))
  rw [← HSY.out] at hst
  have hB2e := fun w' (e : Ext W1 w') => heap_ext e hB2
  clear he hE1
  cases hr : dfaR m r with
  | none =>
    rw [hr] at hst
    have hst : ∀ w', Ext W1 w' → Calls Tryd.prog 41 #[.agg #[.int .u8 (t.op : Int), .int .i64 t.n, .slice A t.subs.length c], .int .i64 sy] w' (fun e w'' => e = .returned (.tuple #[.agg #[.int .i64 0, .slice none 0 0, .slice none 0 0], .int .i64 3]) ∧ Ext w' w'') := hst
    have HRR := Lib.hid hr
    clear hr
    go_wp2_with (first
      | (with_reducible refine wpList_load_row rfl 35 _ rfl w.heap.size rfl 35 _ (0, 0) _ hB2 Tryd.underlying35 rfl (by kernel_rfl) ?_)
      | ((with_reducible refine hck.mono ?_); rintro e W8 ⟨rfl, e8⟩; have hB2 := hB2e W8 e8)
      | ((with_reducible refine (hst W8 e8).mono ?_); rintro e W9 ⟨rfl, e9⟩)
      | (with_reducible refine wpList_store_blk _ rfl 28 _ _ rfl (w.heap.size + 1) 28 #[.int .i64 0, .slice none 0 0, .slice none 0 0] _ rfl rfl (heap_ext (e8.trans e9) HB.out.2) (by kernel_rfl) (by kernel_rfl) (by kernel_rfl) ?_; intro w10 h10 g10))
    refine bodyPost_ret (results_ct2 rfl _ _ (w.heap.size + 1) 28 _ (0, 0) _ (by simp [Act.put]) h10 Tryd.underlying28 rfl (by kernel_rfl)) rfl ?_
    have hE10 := HB.out.1.trans (e8.trans e9)
    rw [HRR.out]
    exact ⟨by simp [Act.put], Below.grown hE10 g10 hE10.size (fun k hk => by cases hk; exact Nat.le_succ _)⟩
  | some D =>
    rw [hr] at hst
    have hDok := dfaR_ok hr
    have hst : ∀ w', Ext W1 w' → Calls Tryd.prog 41 #[.agg #[.int .u8 (t.op : Int), .int .i64 t.n, .slice A t.subs.length c], .int .i64 sy] w' (fun e w'' => ∃ r : DR, r.D = D ∧ r.fine ∧ e = .returned (.tuple #[.agg #[.int .i64 sy, .slice r.A r.D.rows.length r.D.rows.length, .slice (some ⟨r.g, 0, none⟩) r.D.acc.length r.D.acc.length], .int .i64 0]) ∧ OwnL w' w'' [dAny r, dBlk r]) := fun w' e => (hst w' e).mono (fun e w' h => by
      rw [HSY.out]; exact min_dr hDok h)
    have HRR := Lib.hid hr
    clear hr
    go_wp2_with (first
      | (with_reducible refine wpList_load_row rfl 35 _ rfl w.heap.size rfl 35 _ (0, 0) _ hB2 Tryd.underlying35 rfl (by kernel_rfl) ?_)
      | ((with_reducible refine hck.mono ?_); rintro e W8 ⟨rfl, e8⟩; have hB2 := hB2e W8 e8)
      | ((with_reducible refine (hst W8 e8).mono ?_); rintro e W9 ⟨r9, rfl, hf9, rfl, hO9⟩)
      | (with_reducible refine wpList_store_blk _ rfl 28 _ _ rfl (w.heap.size + 1) 28 #[.int .i64 sy, .slice r9.A r9.D.rows.length r9.D.rows.length, .slice (some ⟨r9.g, 0, none⟩) r9.D.acc.length r9.D.acc.length] _ rfl rfl (heap_ext (e8.trans hO9.ext) HB.out.2) (by kernel_rfl) (by kernel_rfl) (by kernel_rfl) ?_; intro w10 h10 g10))
    refine bodyPost_ret (results_ct2 rfl _ _ (w.heap.size + 1) 28 _ (0, 0) _ (by simp [Act.put]) h10 Tryd.underlying28 rfl (by kernel_rfl)) rfl ?_
    have hOB := hO9.base (HB.out.1.trans e8) (Nat.le_succ _) (heap_ext e8 HB.out.2)
    have hO10 := (hOB.step (A' := .blk (w.heap.size + 1) (.cells #[.int .i64 sy, .slice r9.A r9.D.rows.length r9.D.rows.length, .slice (some ⟨r9.g, 0, none⟩) r9.D.acc.length r9.D.acc.length] 28)) 0 rfl g10 (fun c hc => by cases hc; rfl) ⟨Nat.le_succ _, h10⟩ (fun c hc => .inl hc)).drop
    rw [HRR.out]
    exact min_of_dr hf9 (by rw [← HSY.out]; try simp [Act.put, DR.rv, DR.av]) hO10
end Go.Proofs.YtmebgomnmlbgnaaDoor

namespace Go.Proofs.YtmebgomnmlbgnaaDoor
open Go.RowKit Go.Maps
set_option linter.unusedVariables false
set_option linter.unusedSimpArgs false
attribute [local go_sem] Oper.quietV quietV Oper.gives givesV ext_refl_iff ext_alloc_iff ext_drew_iff ext_drewN_iff
set_option maxRecDepth 100000 in
set_option maxHeartbeats 8000000 in
theorem refSame_eq (w : World) (dv dv' : Value) (d : Dfa) (hd : DfaV w dv d) (hd' : DfaV w dv' d) : Calls Tryd.prog 14 #[dv, dv'] w fun e w' => e = .returned (.int .i64 1) ∧ Ext w w' := by
  obtain ⟨rv, cr, av, ca, rfl, hr, ha⟩ := id hd
  obtain ⟨Ar, vr, rfl, _, _, _, _, hrm⟩ := id hr
  obtain ⟨Aa, rfl, hac, _, ham⟩ := id ha
  obtain ⟨rv', cr', av', ca', rfl, hr', ha'⟩ := id hd'
  obtain ⟨Ar', vr', rfl, _, _, _, _, hrm'⟩ := id hr'
  obtain ⟨Aa', rfl, hac', _, ham'⟩ := id ha'
  unfold lenMax at hrm ham
  go_enter Tryd.func14, Tryd.ntmps14
  go_upto_region 1 with fail
  refine wp_named ?_
  intro W1 hW1
  have hE1 : Ext w W1 := by rw [hW1]; exact ((Ext.refl _).alloc _).alloc _
  have k0 : ∀ w', Ext W1 w' → w'.cell? ⟨w.heap.size, 0, none⟩ = some (.int .i64 d.sy) := fun w' h => h.cell (by rw [hW1]; simp [go_sem])
  have k1 : ∀ w', Ext W1 w' → w'.cell? ⟨w.heap.size, 1, none⟩ = some (.slice Ar d.rows.length cr) := fun w' h => h.cell (by rw [hW1]; simp [go_sem])
  have k2 : ∀ w', Ext W1 w' → w'.cell? ⟨w.heap.size, 2, none⟩ = some (.slice Aa d.acc.length ca) := fun w' h => h.cell (by rw [hW1]; simp [go_sem])
  have l0 : ∀ w', Ext W1 w' → w'.cell? ⟨w.heap.size + 1, 0, none⟩ = some (.int .i64 d.sy) := fun w' h => h.cell (by rw [hW1]; simp [go_sem])
  have l1 : ∀ w', Ext W1 w' → w'.cell? ⟨w.heap.size + 1, 1, none⟩ = some (.slice Ar' d.rows.length cr') := fun w' h => h.cell (by rw [hW1]; simp [go_sem])
  have l2 : ∀ w', Ext W1 w' → w'.cell? ⟨w.heap.size + 1, 2, none⟩ = some (.slice Aa' d.acc.length ca') := fun w' h => h.cell (by rw [hW1]; simp [go_sem])
  clear hW1
  have hE0 := Ext.refl W1
  go_wp2
  go_loopw [5] (fun sv wr => ∃ s : Nat, sv = .int .i64 s ∧ s ≤ d.rows.length ∧ Ext W1 wr) (fun sv _ => d.rows.length - (intOf sv).toNat)
  case atStart => exact ⟨0, rfl, by omega, Ext.refl _⟩
  case round =>
    obtain ⟨s, rfl, hs, hE⟩ := hrel
    obtain ⟨W3, hW3⟩ : ∃ W, W = wr := ⟨_, rfl⟩; subst hW3
    have kk1 := k1 W3 hE
    by_cases hlt : s < d.rows.length
    · have hsI : (s : Int) < (d.rows.length : Int) := by omega
      obtain ⟨b, o, u, c', hv, _, c1, hi⟩ := (hr.ext (hE1.trans hE)).at_ hlt
      obtain ⟨b', o', u', c'', hv', _, c1', hi'⟩ := (hr'.ext (hE1.trans hE)).at_ hlt
      injection hv with hv
      injection hv' with hv'
      subst hv hv'
      have hsm := fun W (e : Ext W3 W) => sameL_any W _ _ _ _ _ _ (hi.ext e) (hi'.ext e)
      have hse : ∀ x : List Int, b01 (x == x) = 1 := fun x => by simp [b01]
      have p1 := fun w' (h : Ext W3 w') => k1 w' (hE.trans h)
      have q1 := fun w' (h : Ext W3 w') => l1 w' (hE.trans h)
      have c1 := fun w' (h : Ext W3 w') => h.cell c1
      have c1' := fun w' (h : Ext W3 w') => h.cell c1'
      have hE3 := Ext.refl W3
      obtain ⟨Au, rfl, _⟩ := id hi
      obtain ⟨Au', rfl, _⟩ := id hi'
      have HSM := Lib.hid (And.intro hsm hse)
      clear hsm hse hi hi'
      go_upto_region 6 with fail
      refine wp_region_ext 10 (factsOf []) (fun k => ([[], [0], [], [0, 1, 2], [0, 1, 2, 3], [], [5], [], [5, 6, 7], [5, 6, 7, 8], [0, 1, 2, 3, 4, 5, 6, 7, 8, 9], [0, 1, 2, 3, 4, 5, 6, 7, 8, 9, 10]] : List (List Nat)).getD k []) (by kernel_rfl) (by kernel_rfl) Ext.pre (mono_nil) ?_
      simp only [List.take_succ_cons, List.take_zero]
      repeat (first | (with_reducible refine lexL_quiet' (v := ?_) ?_ ?_ ?_ ?_; rotate_left; (· with_reducible rfl); (· simp [factsOf]); (· intro w1 hw1 _; go_simp; with_reducible rfl); (try simp only [Act.put, List.setIfInBounds_toArray, List.set_cons_zero, List.set_cons_succ])) | (with_reducible refine lexL_skip ?_ ?_; (· simp [Region.wanted, yielded, undef]); (try simp only [Act.put, List.setIfInBounds_toArray, List.set_cons_zero, List.set_cons_succ])) | (with_reducible refine lexL_quiet (v := ?_) ?_ ?_ ?_ ?_; rotate_left; (· simp [Region.wanted, yielded, undef]); (· simp [factsOf]); (· intro w1 hw1 _; go_simp; with_reducible rfl); (try simp only [Act.put, List.setIfInBounds_toArray, List.set_cons_zero, List.set_cons_succ])))
      with_reducible refine lexL_nil ?_; intro w1 hw1 hk1; simp only [List.drop_succ_cons, List.drop_zero]
      clear hk1
      have hE9 := hE.trans hw1
      have hsm1 := HSM.out.1 w1 hw1
      rw [HSM.out.2] at hsm1
      clear p1 q1 c1 c1' hw1 kk1
      go_wp2_with ((with_reducible refine hsm1.mono ?_); rintro e w5 ⟨rfl, e5⟩)
      go_roundw
      case rel => exact ⟨s + 1, by go_num, by omega, hE9.trans e5⟩
      case measure => simp [intOf]; omega
    · obtain rfl : s = d.rows.length := by omega
      go_wp2
      go_loopw [6] (fun sv wr => ∃ s : Nat, sv = .int .i64 s ∧ s ≤ d.acc.length ∧ Ext W1 wr) (fun sv _ => d.acc.length - (intOf sv).toNat)
      case atStart => exact ⟨0, rfl, by omega, hE⟩
      case round =>
        obtain ⟨s, rfl, hs, hE⟩ := hrel
        obtain ⟨W4, hW4⟩ : ∃ W, W = wr := ⟨_, rfl⟩; subst hW4
        have kk2 := k2 W4 hE
        by_cases hlt : s < d.acc.length
        · have hsI : (s : Int) < (d.acc.length : Int) := by omega
          obtain ⟨b, o, hA, _, c1⟩ := (hac.ext (hE1.trans hE)).at_bool hlt
          obtain ⟨b', o', hA', _, c1'⟩ := (hac'.ext (hE1.trans hE)).at_bool hlt
          subst hA hA'
          have p1 := fun w' (h : Ext W4 w') => k2 w' (hE.trans h)
          have q1 := fun w' (h : Ext W4 w') => l2 w' (hE.trans h)
          have c1 := fun w' (h : Ext W4 w') => h.cell c1
          have c1' := fun w' (h : Ext W4 w') => h.cell c1'
          have hE4 := Ext.refl W4
          generalize d.acc[s] = g at *
          clear kk1
          go_upto_region 11 with fail
          go_quiet (fail)
          go_wp2
          go_roundw
          case rel => exact ⟨s + 1, by go_num, by omega, hE.drewN _⟩
          case measure => simp [intOf]; omega
        · obtain rfl : s = d.acc.length := by omega
          clear kk1
          go_wp2
          go_ret
          exact ⟨rfl, hE1.trans hE⟩
end Go.Proofs.YtmebgomnmlbgnaaDoor
