/- gauntletref25.Complement 37. THE LAW LangsSets 8: the walk (printed by gen_k8.py). -/
import Derived.Test.YthlnmcokgfpgmaaDoorYE
import Derived.Test.YthlnmcokgfpgmaaDoorZJ
import Derived.Test.YthlnmcokgfpgmaaDoorZV
import Derived.Test.YthlnmcokgfpgmaaDoorYD
namespace Go.Proofs.YthlnmcokgfpgmaaDoor
open Go.RowKit Go.Maps
set_option linter.unusedVariables false
set_option linter.unusedSimpArgs false
attribute [local go_sem] Oper.quietV quietV Oper.gives givesV ext_refl_iff ext_alloc_iff ext_drew_iff ext_drewN_iff
def S37 (b5 b1 ga oa n ca i : Nat) (accv : Value) (g : Bool) (w : World) : Prop := w.cell? ⟨b5, 2, none⟩ = some accv ∧ w.cell? ⟨b1, 2, none⟩ = some (.slice (some ⟨ga, oa, none⟩) n ca) ∧ w.cell? ⟨ga, oa + i, none⟩ = some (.bool g)
theorem S37.ext {b5 b1 ga oa n ca i : Nat} {accv : Value} {g : Bool} {w w' : World} (h : S37 b5 b1 ga oa n ca i accv g w) (e : Ext w w') : S37 b5 b1 ga oa n ca i accv g w' := ⟨e.cell h.1, e.cell h.2.1, e.cell h.2.2⟩
theorem bools_at {w : World} {A : Option Addr} {xs : List Bool} (h : Cells w A (xs.map .bool)) {k : Nat} {g : Bool} (hk : xs[k]? = some g) :
    ∃ b o, A = some ⟨b, o, none⟩ ∧ b < w.heap.size ∧ w.cell? ⟨b, o + k, none⟩ = some (.bool g) := by
  obtain ⟨hlt, rfl⟩ := List.getElem?_eq_some_iff.1 hk
  exact h.at_bool hlt
set_option maxRecDepth 100000 in
set_option maxHeartbeats 8000000 in
theorem refComp_any (w : World) (dv : Value) (d : Dfa) (hd : DfaV w dv d) (hg : Good d) : Calls Tryd.prog 37 #[dv] w fun e w' => ∃ v q, e = .returned v ∧ DfaV w' v q ∧ CompW d q ∧ Ext w w' := by
  obtain ⟨rv, cr, av, ca, rfl, hr, ha⟩ := id hd
  obtain ⟨Ar, vr, rfl, _, _, _, _, hrm⟩ := id hr
  obtain ⟨Aa, rfl, hac, _, ham⟩ := id ha
  unfold lenMax at hrm ham
  obtain ⟨i4, hi4, hz4, hs4, hb4'⟩ := info_parts bool_info
  have hgs := hg.size
  have hal : 1 ≤ d.acc.length ∧ d.acc.length ≤ 256 := by rw [hg.acc]; exact hgs
  clear hgs
  have HG := Lib.hid hg
  go_enter Tryd.func37, Tryd.ntmps37
  go_upto_region 1 with fail
  refine wp_named ?_
  intro W1 hW1
  have hE1 : Ext w W1 := by rw [hW1]; exact ((Ext.refl _).alloc _).alloc _
  have k0 : ∀ w', Ext W1 w' → w'.cell? ⟨w.heap.size, 0, none⟩ = some (.int .i64 d.sy) := fun w' h => h.cell (by rw [hW1]; simp [go_sem])
  have k1 : ∀ w', Ext W1 w' → w'.cell? ⟨w.heap.size, 1, none⟩ = some (.slice Ar d.rows.length cr) := fun w' h => h.cell (by rw [hW1]; simp [go_sem])
  have k2 : ∀ w', Ext W1 w' → w'.cell? ⟨w.heap.size, 2, none⟩ = some (.slice Aa d.acc.length ca) := fun w' h => h.cell (by rw [hW1]; simp [go_sem])
  have kb : ∀ w', Ext W1 w' → w'.heap[w.heap.size + 1]? = some (.cells #[.int .i64 0, .slice none 0 0, .slice none 0 0] 28 (0, 0)) := fun w' h => heap_ext h (by rw [hW1]; have h9 := heap_alloc_new (w.alloc (.cells #[.int .i64 d.sy, .slice Ar d.rows.length cr, .slice Aa d.acc.length ca] 28)) (.cells #[.int .i64 0, .slice none 0 0, .slice none 0 0] 28 (0, 0)); simpa using h9)
  have HB6 : Hid (w.heap.size ≤ w.heap.size + 1 ∧ w.heap.size + 1 < W1.heap.size) := Lib.hid ⟨by omega, by rw [hW1]; simp⟩
  clear hW1
  generalize w.heap.size + 1 = b6 at *
  generalize hb1 : w.heap.size = b1 at *
  have hE0 := Ext.refl W1
  clear hg hd ha
  go_upto_region 2 with (with_reducible refine wpList_store_blk _ rfl 28 _ _ rfl W1.heap.size 28 _ _ rfl rfl (heap_alloc_new _ _) (by kernel_rfl) (by kernel_rfl) (by kernel_rfl) ?_; intro W3 h3 g3)
  have hE3 : Ext W1 W3 := Below.grown (alloc_ext W1 _) g3 (alloc_ext W1 _).size (fun k hk => by cases hk; exact Nat.le_refl _)
  have hO : OwnL W1 W3 [.row 4 1 (.slice none 0 0) 0 (((d.acc.map (! ·)).take 0).map Value.bool), .blk W1.heap.size (.cells #[.int .i64 d.sy, .slice Ar d.rows.length cr, .slice none 0 0] 28 (0, 0))] := by
    have h1 : OwnL W1 W3 [.blk W1.heap.size (.cells #[.int .i64 d.sy, .slice Ar d.rows.length cr, .slice none 0 0] 28 (0, 0))] := ⟨hE3, fun A hA => by rw [List.mem_singleton.1 hA]; exact ⟨Nat.le_refl _, h3⟩, List.pairwise_singleton _ _⟩
    exact h1.add (Ext.refl _) (A := .row 4 1 (.slice none 0 0) 0 []) (World.ownsRow_nil _ _ _ _)
  clear g3 h3 hE3 hE0
  generalize W1.heap.size = b5 at *
  go_wp2
  go_loopw [4] (fun sv wr => ∃ (i : Nat) (accv : Value), sv = .int .i64 i ∧ i ≤ d.acc.length ∧ OwnL W1 wr [.row 4 1 accv i (((d.acc.map (! ·)).take i).map Value.bool), .blk b5 (.cells #[.int .i64 d.sy, .slice Ar d.rows.length cr, accv] 28 (0, 0))]) (fun sv _ => d.acc.length - (intOf sv).toNat)
  case atStart => exact ⟨0, _, rfl, by omega, hO⟩
  case round =>
    clear hO
    obtain ⟨i, accv, rfl, hi, hO⟩ := hrel
    obtain ⟨W4, hW4⟩ : ∃ W, W = wr := ⟨_, rfl⟩; subst hW4
    by_cases hlt : i < d.acc.length
    · have hltI : (i : Int) < (d.acc.length : Int) := by omega
      obtain ⟨g, hgi⟩ : ∃ g, d.acc[i]? = some g := ⟨_, List.getElem?_eq_getElem hlt⟩
      obtain ⟨ga, oa, rfl, _, hcg⟩ := bools_at (hac.ext (hE1.trans hO.ext)) hgi
      have HGI := Lib.hid hgi
      have HBS : Hid (((d.acc.map (! ·)).take (i + 1)).map Value.bool = ((d.acc.map (! ·)).take i).map Value.bool ++ [.bool (!g)]) := Lib.hid (by rw [take_more (i := i) (x := !g) (by rw [List.getElem?_map, hgi]; rfl), List.map_append]; rfl)
      have k2' := k2 W4 hO.ext
      obtain ⟨Av, cv, rfl⟩ := own_form (hO.get 0 rfl)
      have c5 := cell_of_blk (hO.get 1 rfl).2 2 (u := .slice Av i cv) rfl
      have hS0 : S37 b5 b1 ga oa d.acc.length ca i (.slice Av i cv) g W4.drew := ⟨(drew_ext _).cell c5, (drew_ext _).cell k2', (drew_ext _).cell hcg⟩
      have hi8 : i ≤ 255 := by omega
      clear hgi hcg c5
      go_upto_region 5 with fail
      clear k2'
      refine wp_region_bar 11 (S37 b5 b1 ga oa d.acc.length ca i (.slice Av i cv) g) (by kernel_rfl) ?_
      refine wpAnyB_take (i := 0) (v := ?_) rfl (by kernel_rfl) (by kernel_rfl) (by kernel_rfl) (by kernel_rfl) (fun _ _ _ h => h) (Or.inl ⟨by rfl, ?_⟩) hS0 ?_
      rotate_left
      · (intro w hSw; obtain ⟨s1, s2, s3⟩ := hSw; go_simp; first | done | with_reducible rfl)
      try simp only [Act.put, List.setIfInBounds_toArray, List.set_cons_zero, List.set_cons_succ]
      refine wpAnyB_take (i := 1) (v := ?_) rfl (by kernel_rfl) (by kernel_rfl) (by kernel_rfl) (by kernel_rfl) (fun _ _ _ h => h) (Or.inl ⟨by rfl, ?_⟩) hS0 ?_
      rotate_left
      · (intro w hSw; obtain ⟨s1, s2, s3⟩ := hSw; go_simp; first | done | with_reducible rfl)
      try simp only [Act.put, List.setIfInBounds_toArray, List.set_cons_zero, List.set_cons_succ]
      refine wpAnyB_take (i := 2) (v := ?_) rfl (by kernel_rfl) (by kernel_rfl) (by kernel_rfl) (by kernel_rfl) (fun _ _ _ h => h) (Or.inl ⟨by rfl, ?_⟩) hS0 ?_
      rotate_left
      · (intro w hSw; obtain ⟨s1, s2, s3⟩ := hSw; go_simp; first | done | with_reducible rfl)
      try simp only [Act.put, List.setIfInBounds_toArray, List.set_cons_zero, List.set_cons_succ]
      refine wpAnyB_take (i := 3) (v := ?_) rfl (by kernel_rfl) (by kernel_rfl) (by kernel_rfl) (by kernel_rfl) (fun _ _ _ h => h) (Or.inl ⟨by rfl, ?_⟩) hS0 ?_
      rotate_left
      · (intro w hSw; obtain ⟨s1, s2, s3⟩ := hSw; go_simp; first | done | with_reducible rfl)
      try simp only [Act.put, List.setIfInBounds_toArray, List.set_cons_zero, List.set_cons_succ]
      refine wpAnyB_take (i := 4) (v := ?_) rfl (by kernel_rfl) (by kernel_rfl) (by kernel_rfl) (by kernel_rfl) (fun _ _ _ h => h) (Or.inl ⟨by rfl, ?_⟩) hS0 ?_
      rotate_left
      · (intro w hSw; obtain ⟨s1, s2, s3⟩ := hSw; go_simp; first | done | with_reducible rfl)
      try simp only [Act.put, List.setIfInBounds_toArray, List.set_cons_zero, List.set_cons_succ]
      refine wpAnyB_take (i := 5) (v := ?_) rfl (by kernel_rfl) (by kernel_rfl) (by kernel_rfl) (by kernel_rfl) (fun _ _ _ h => h) (Or.inl ⟨by rfl, ?_⟩) hS0 ?_
      rotate_left
      · (intro w hSw; obtain ⟨s1, s2, s3⟩ := hSw; go_simp; first | done | with_reducible rfl)
      try simp only [Act.put, List.setIfInBounds_toArray, List.set_cons_zero, List.set_cons_succ]
      refine wpAnyB_take (i := 6) (v := ?_) rfl (by kernel_rfl) (by kernel_rfl) (by kernel_rfl) (by kernel_rfl) (fun _ _ _ h => h) (Or.inl ⟨by rfl, ?_⟩) hS0 ?_
      rotate_left
      · (intro w hSw; obtain ⟨s1, s2, s3⟩ := hSw; go_simp; first | done | with_reducible rfl)
      try simp only [Act.put, List.setIfInBounds_toArray, List.set_cons_zero, List.set_cons_succ]
      refine wpAnyB_take (i := 7) (v := ?_) rfl (by kernel_rfl) (by kernel_rfl) (by kernel_rfl) (by kernel_rfl) (fun _ _ _ h => h) (Or.inl ⟨by rfl, ?_⟩) hS0 ?_
      rotate_left
      · (intro w hSw; obtain ⟨s1, s2, s3⟩ := hSw; go_simp; first | done | with_reducible rfl)
      try simp only [Act.put, List.setIfInBounds_toArray, List.set_cons_zero, List.set_cons_succ]
      refine wpAnyB_ready (rs := [8]) (by kernel_rfl) (by simp) (AllB.cons rfl (fun K hK => ?_) AllB.nil)
      go_simp
      refine hK.out _ _ (S37.ext hS0 (alloc_ext _ _)) ?_
      clear hK K
      try simp only [Act.put, List.setIfInBounds_toArray, List.set_cons_zero, List.set_cons_succ]
      refine wpAnyB_ready (rs := [9]) (by kernel_rfl) (by simp) (AllB.cons rfl (fun K hK => ?_) AllB.nil)
      refine step_append_own2 rfl _ _ 26 rfl W1.heap.size 4 i4 (.bool false) 1 1 Tryd.underlying26 hi4 hz4 hs4 hb4' rfl (by decide) (.slice Av i cv) i (((d.acc.map (! ·)).take i).map Value.bool) (by rfl) ((hO.trans ((drew_ext _).trans (alloc_ext _ _))).get 0 rfl) ⟨_, 0, none⟩ 1 1 [.bool (!g)] (by rfl) rfl (new_cell _ _ _ _ (by simp)) (one_bool _) (by unfold maxLen; omega) (by omega) (by have := hO.ext.size; simp; omega) ?_
      intro v9 w9 hown9 hg9 hb9
      obtain ⟨g9, c9, rfl⟩ := ownsRow_pos hown9 (by omega)
      have hO9 := (hO.trans ((drew_ext _).trans (alloc_ext _ _))).app 0 rfl hg9 hown9 hb9
      have hO9 : OwnL W1 w9 [.row 4 1 (.slice (some ⟨g9, 0, none⟩) (i + 1) c9) (i + 1) (((d.acc.map (! ·)).take (i + 1)).map Value.bool), .blk b5 (.cells #[.int .i64 d.sy, .slice Ar d.rows.length cr, .slice Av i cv] 28 (0, 0))] := by rw [HBS.out]; exact hO9
      have d9 := cell_of_blk (hO9.get 1 rfl).2 2 (u := .slice Av i cv) rfl
      have hSk : S37 b5 b1 ga oa d.acc.length ca i (.slice Av i cv) g w9 := by
        have h4 : OwnL W1 w9 _ := hO9
        exact ⟨d9, k2 _ h4.ext, by
          obtain ⟨ga2, oa2, he, _, h2⟩ := bools_at (hac.ext (hE1.trans h4.ext)) (k := i) (g := g) HGI.out
          cases he
          exact h2⟩
      refine hK.out _ _ hSk ?_
      clear hK K
      try simp only [Act.put, List.setIfInBounds_toArray, List.set_cons_zero, List.set_cons_succ]
      refine wpAnyB_take (i := 10) (v := ?_) rfl (by kernel_rfl) (by kernel_rfl) (by kernel_rfl) (by kernel_rfl) (fun _ _ _ h => h) (Or.inl ⟨by rfl, ?_⟩) hSk ?_
      rotate_left
      · (intro w hSw; obtain ⟨s1, s2, s3⟩ := hSw; go_simp; first | done | with_reducible rfl)
      try simp only [Act.put, List.setIfInBounds_toArray, List.set_cons_zero, List.set_cons_succ]
      have f9 := free_of_blk (hO9.get 1 rfl).2
      refine wpAnyB_tail rfl rfl (by decide) (by kernel_rfl) ?_
      have hO10 := hO9.put 1 rfl 2 (.slice (some ⟨g9, 0, none⟩) (i + 1) c9)
      have HO10 := Lib.hid hO10
      clear hO10 hO9
      go_wp2
      go_roundw
      case rel => exact ⟨i + 1, _, by go_num, by omega, HO10.out⟩
      case measure => simp [intOf]; omega
    · have hie : i = d.acc.length := by omega
      subst hie
      have hac2 : W4.ownsRow W1.heap.size 4 1 accv d.acc.length (((d.acc.map (! ·)).take d.acc.length).map Value.bool) := hO.get 0 rfl
      obtain ⟨gA, cA, rfl⟩ := ownsRow_pos hac2 (by omega)
      rw [List.take_of_length_le (by simp)] at hac2
      obtain ⟨c9, hbo⟩ := bools_of_owns hac2 (by simp) (by unfold lenMax; omega)
      have d0 := cell_of_blk (hO.get 1 rfl).2 0 (u := .int .i64 d.sy) rfl
      have d1 := cell_of_blk (hO.get 1 rfl).2 1 (u := .slice Ar d.rows.length cr) rfl
      have d2 := cell_of_blk (hO.get 1 rfl).2 2 (u := .slice (some ⟨gA, 0, none⟩) d.acc.length cA) rfl
      have hD : DfaV W4 (.agg #[.int .i64 d.sy, .slice Ar d.rows.length cr, .slice (some ⟨gA, 0, none⟩) d.acc.length cA]) (flipD d) := ⟨_, cr, _, c9, rfl, hr.ext (hE1.trans hO.ext), hbo⟩
      have hmn := min_any W4 _ _ hD (flip_good HG.out)
      unfold MinP at hmn
      have hE4 := hE1.trans hO.ext
      have k2e := k2 W4 hO.ext
      have hb := kb W4 hO.ext
      have hlt6 := lt_of_block hb
      have HE := Lib.hid (And.intro hE4 hlt6)
      have hb' := fun w' (h : Ext W4 w') => heap_ext h hb
      clear hO hac2 hD hbo hE4 hb hlt6 k0 k1 k2 kb
      go_wp2_with (first
        | ((with_reducible refine hmn.mono ?_); rintro e w5 ⟨v, q, rfl, hfar, hcan, hlike, hsy, hqn, e5⟩; obtain ⟨rvq, crq, avq, caq, rfl, ⟨Arq, vrq, rfl, -⟩, ⟨Aaq, rfl, -⟩⟩ := id (hfar w5 (fun _ _ _ => rfl)); have hb5 := hb' w5 e5; have HSY := Lib.hid hsy; clear hsy)
        | (with_reducible refine wpList_store_blk _ rfl 28 _ _ rfl b6 28 _ _ rfl rfl hb5 (by kernel_rfl) (by kernel_rfl) (by kernel_rfl) ?_; intro w8 h8 g8))
      refine bodyPost_ret (results_cell_row rfl _ _ b6 28 _ (0, 0) _ (by simp [Act.put]) h8 Tryd.underlying28 rfl (by kernel_rfl)) rfl ?_
      have hfw := hfar w8 (fun bk h1 h2 => g8.block bk h2 (fun e => by cases e; have := HE.out.2; omega))
      refine ⟨_, q, rfl, hfw, comp_like HG.out hcan hlike HSY.out, Below.grown (HE.out.1.trans e5) g8 (HE.out.1.trans e5).size (fun k hk => by cases hk; have := HB6.out.1; omega)⟩
end Go.Proofs.YthlnmcokgfpgmaaDoor

namespace Go.Proofs.YthlnmcokgfpgmaaDoor
open Go.RowKit Go.Maps
set_option linter.unusedVariables false
set_option linter.unusedSimpArgs false
attribute [local go_sem] Oper.quietV quietV Oper.gives givesV ext_refl_iff ext_alloc_iff ext_drew_iff ext_drewN_iff
noncomputable def T8 (n : Nat) : Code := textR n Tryd.f8.body
/-- A set in a block, without spare room. -/
def BoxF (W : World) (b : Nat) (d : Dfa) : Prop := ∃ Ar Aa, W.cell? ⟨b, 0, none⟩ = some (.int .i64 d.sy) ∧ W.cell? ⟨b, 1, none⟩ = some (.slice Ar d.rows.length d.rows.length) ∧ W.cell? ⟨b, 2, none⟩ = some (.slice Aa d.acc.length d.acc.length) ∧ DfaV W (.agg #[.int .i64 d.sy, .slice Ar d.rows.length d.rows.length, .slice Aa d.acc.length d.acc.length]) d
theorem BoxF.ext {W W' : World} {b : Nat} {d : Dfa} (h : BoxF W b d) (e : Ext W W') : BoxF W' b d := by
  obtain ⟨Ar, Aa, h0, h1, h2, h3⟩ := h
  exact ⟨Ar, Aa, e.cell h0, e.cell h1, e.cell h2, h3.ext e⟩
theorem boxF_new {w1 w2 : World} {q : Dfa} {A A' : Option Addr} {bk : Nat} (h2 : w2.heap[bk]? = some (.cells #[.int .i64 q.sy, .slice A q.rows.length q.rows.length, .slice A' q.acc.length q.acc.length] 28 (0, 0))) (hd : DfaF w1 (.agg #[.int .i64 q.sy, .slice A q.rows.length q.rows.length, .slice A' q.acc.length q.acc.length]) q) (e : Ext w1 w2) : BoxF w2 bk q := 
  ⟨A, A', cell_of_blk h2 0 rfl, cell_of_blk h2 1 rfl, cell_of_blk h2 2 rfl, hd.dfa.ext e⟩
def DfaA8 (d : Dfa) (v : Value) (w : World) : Prop := DfaV w v d
theorem stays_dfaA8 (d : Dfa) : Stays Ext (DfaA8 d) := fun v w w' hE h => DfaV.ext h hE
theorem set_eq (w : World) (n : Nat) (hn : n = 0 ∨ n = 1 ∨ n = 2) (dv dv' : Value) (a b q : Dfa) (hd : DfaV w dv a) (hd' : DfaV w dv' b) (hga : Good a) (hgb : Good b) (hk : a.k = b.k) (hsz : a.n * b.n ≤ 256) (hq : OpW (gK n) a b q) :
    Calls Tryd.prog 36 #[.int .i64 n, dv, dv'] w fun e w' => ∃ v, e = .returned v ∧ DfaV w' v q ∧ Ext w w' :=
  (refSet_any w n hn dv dv' a b hd hd' hga hgb hk hsz).mono fun e w' ⟨v, q', he, hv, hq', hE⟩ => ⟨v, he, (opW_one hq' hq) ▸ hv, hE⟩
theorem comp_eq (w : World) (dv : Value) (d q : Dfa) (hd : DfaV w dv d) (hg : Good d) (hq : CompW d q) : Calls Tryd.prog 37 #[dv] w fun e w' => ∃ v, e = .returned v ∧ DfaV w' v q ∧ Ext w w' :=
  (refComp_any w dv d hd hg).mono fun e w' ⟨v, q', he, hv, hq', hE⟩ => ⟨v, he, (compW_one hq' hq) ▸ hv, hE⟩
def lcA (u c m : Dfa) (A B A' B' A2 B2 : Option Addr) : Array Value := #[.int .i64 u.sy, .slice A u.rows.length u.rows.length, .slice B u.acc.length u.acc.length, .int .i64 c.sy, .slice A' c.rows.length c.rows.length, .slice B' c.acc.length c.acc.length, .int .i64 m.sy, .slice A2 m.rows.length m.rows.length, .slice B2 m.acc.length m.acc.length]
set_option maxRecDepth 100000 in
set_option maxHeartbeats 16000000 in
theorem sets_t10 (w W : World) (b5 b6 b7 b9 b11 b13 : Nat) (a b u c m o : Dfa) (c0 c1 c2 c3 c4 c8 c10 c12 c14 c15 c16 c17 c18 c19 c20 c21 c22 c23 c24 c25 c26 c27 c28 c29 c30 c31 c32 c33 c34 c35 c36 c37 c38 c39 c40 c41 c42 c43 c44 c45 c46 c47 c48 c49 c50 c51 c52 c53 c54 c55 c56 c57 c58 c59 c60 c61 c62 c63 c64 c65 c66 c67 c68 c69 c70 c71 c72 c73 c74 c75 c76 c77 c78 c79 c80 c81 c82 c83 c84 c85 c86 c87 c88 c89 c90 c91 c92 c93 c94 c95 c96 c97 c98 c99 c100 c101 c102 c103 c104 c105 c106 c107 c108 c109 c110 c111 c112 c113 c114 c115 c116 c117 c118 c119 c120 c121 c122 c123 c124 : Value) (H : LH w W b5 b6 a b) (h7 : BoxF W b7 u) (h9 : BoxF W b9 c) (h11 : BoxF W b11 m) (h13 : BoxF W b13 o)
    (hu : OpW (fun x y => x || y) a b u) (hc : OpW (fun x y => x && y) a b c) (hm : OpW (fun x y => x && !y) a b m) (ho : CompW a o ∧ o.n ≤ a.n) :
    Code.wp Tryd.prog (T8 10) (bodyPost Tryd.prog Tryd.f8 fun e w' => e = .returned (.bool true) ∧ Ext w w') ⟨(c0 :: c1 :: c2 :: c3 :: c4 :: .pointer (some ⟨b5, 0, none⟩) :: .pointer (some ⟨b6, 0, none⟩) :: .pointer (some ⟨b7, 0, none⟩) :: c8 :: .pointer (some ⟨b9, 0, none⟩) :: c10 :: .pointer (some ⟨b11, 0, none⟩) :: c12 :: .pointer (some ⟨b13, 0, none⟩) :: c14 :: c15 :: c16 :: c17 :: c18 :: c19 :: c20 :: c21 :: c22 :: c23 :: c24 :: c25 :: c26 :: c27 :: c28 :: c29 :: c30 :: c31 :: c32 :: c33 :: c34 :: c35 :: c36 :: c37 :: c38 :: c39 :: c40 :: c41 :: c42 :: c43 :: c44 :: c45 :: c46 :: c47 :: c48 :: c49 :: c50 :: c51 :: c52 :: c53 :: c54 :: c55 :: c56 :: c57 :: c58 :: c59 :: c60 :: c61 :: c62 :: c63 :: c64 :: c65 :: c66 :: c67 :: c68 :: c69 :: c70 :: c71 :: c72 :: c73 :: c74 :: c75 :: c76 :: c77 :: c78 :: c79 :: c80 :: c81 :: c82 :: c83 :: c84 :: c85 :: c86 :: c87 :: c88 :: c89 :: c90 :: c91 :: c92 :: c93 :: c94 :: c95 :: c96 :: c97 :: c98 :: c99 :: c100 :: c101 :: c102 :: c103 :: c104 :: c105 :: c106 :: c107 :: c108 :: c109 :: c110 :: c111 :: c112 :: c113 :: c114 :: c115 :: c116 :: c117 :: c118 :: c119 :: c120 :: c121 :: c122 :: c123 :: c124 :: []).toArray, []⟩ W := by
  conv => arg 2; whnf
  have hkk : a.k = b.k := by unfold Dfa.k; rw [H.s]
  have hba := H.ba
  have hbb := H.bb
  obtain ⟨A5, B5, c5', d5', p50, p51, p52, p5D⟩ := hba
  have p50 := fun w' (h : Ext W w') => h.cell p50
  have p51 := fun w' (h : Ext W w') => h.cell p51
  have p52 := fun w' (h : Ext W w') => h.cell p52
  obtain ⟨A6, B6, c6', d6', p60, p61, p62, p6D⟩ := hbb
  have p60 := fun w' (h : Ext W w') => h.cell p60
  have p61 := fun w' (h : Ext W w') => h.cell p61
  have p62 := fun w' (h : Ext W w') => h.cell p62
  obtain ⟨A7, B7, p70, p71, p72, p7D⟩ := h7
  obtain ⟨A9, B9, p90, p91, p92, p9D⟩ := h9
  obtain ⟨A11, B11, p110, p111, p112, p11D⟩ := h11
  obtain ⟨A13, B13, p130, p131, p132, p13D⟩ := h13
  have p130 := fun w' (h : Ext W w') => h.cell p130
  have p131 := fun w' (h : Ext W w') => h.cell p131
  have p132 := fun w' (h : Ext W w') => h.cell p132
  have s0 := fun W1 (e : Ext W W1) => set_eq W1 0 (.inl rfl) _ _ a b u (p5D.ext e) (p6D.ext e) H.ga H.gb hkk H.n hu
  have s1 := fun W1 (e : Ext W W1) => set_eq W1 1 (.inr (.inl rfl)) _ _ a b c (p5D.ext e) (p6D.ext e) H.ga H.gb hkk H.n hc
  have s2 := fun W1 (e : Ext W W1) => set_eq W1 2 (.inr (.inr rfl)) _ _ a b m (p5D.ext e) (p6D.ext e) H.ga H.gb hkk H.n hm
  have s3 := fun W1 (e : Ext W W1) => comp_eq W1 _ a o (p5D.ext e) H.ga ho.1
  have s4 := fun W1 (e : Ext W W1) v hv => refSame_eq W1 (.agg #[.int .i64 o.sy, .slice A13 o.rows.length o.rows.length, .slice B13 o.acc.length o.acc.length]) v o (p13D.ext e) hv
  have hlv := fun W1 (e : Ext W W1) => lives_any W1 (H.m.ext e) (H.c.ext e)
  have HS := Lib.hid (And.intro s0 (And.intro s1 (And.intro s2 (And.intro s3 (And.intro s4 (And.intro hlv H.e))))))
  have HU := Lib.hid (And.intro p7D (And.intro p9D p11D))
  clear s0 s1 s2 s3 s4 hlv H hu hc hm ho hkk p5D p6D p7D p9D p11D p13D
  have hE0 := Ext.refl W
  go_upto_region 11 with fail
  refine wp_named ?_
  intro W2 hW2
  have hO2 : OwnL W W2 [.blk W.heap.size (.cells (lcA u c m A7 B7 A9 B9 A11 B11) 28 (0, 0))] := by
    rw [hW2]
    exact (OwnL.nil (Ext.refl W)).add (alloc_ext W (.cells (lcA u c m A7 B7 A9 B9 A11 B11) 28 (0, 0))) (A := .blk W.heap.size _) ⟨Nat.le_refl _, heap_alloc_new _ _⟩
  clear hW2 p70 p71 p72 p90 p91 p92 p110 p111 p112 hE0
  generalize W.heap.size = gl at *
  go_wp2
  go_loopw [16] (fun iv wr => ∃ i : Nat, iv = .int .i64 i ∧ i ≤ 3 ∧ OwnL W wr [.blk gl (.cells (lcA u c m A7 B7 A9 B9 A11 B11) 28 (0, 0))]) (fun iv _ => 3 - (intOf iv).toNat)
  case atStart => exact ⟨0, rfl, Nat.zero_le _, hO2⟩
  case round =>
    clear hO2
    obtain ⟨i, rfl, hi, hO⟩ := hrel
    obtain ⟨W4, hW4⟩ : ∃ W, W = wr := ⟨_, rfl⟩; subst hW4
    have hcase : i = 0 ∨ i = 1 ∨ i = 2 ∨ i = 3 := by omega
    clear hi
    rcases hcase with rfl | rfl | rfl | rfl
    · skip
      have q0 := fun w' (h : Ext W4 w') => h.cell (cell_of_blk (hO.get 0 rfl).2 0 (u := .int .i64 (u).sy) rfl)
      have q1 := fun w' (h : Ext W4 w') => h.cell (cell_of_blk (hO.get 0 rfl).2 1 (u := .slice A7 (u).rows.length (u).rows.length) rfl)
      have q2 := fun w' (h : Ext W4 w') => h.cell (cell_of_blk (hO.get 0 rfl).2 2 (u := .slice B7 (u).acc.length (u).acc.length) rfl)
      have hst := fun W1 (e : Ext W4 W1) => HS.out.1 W1 (hO.ext.trans e)
      have hsm := fun W1 (e : Ext W4 W1) v (hv : DfaV W1 v u) => refSame_eq W1 (.agg #[.int .i64 (u).sy, .slice A7 (u).rows.length (u).rows.length, .slice B7 (u).acc.length (u).acc.length]) v u (by first | exact HU.out.1.ext (hO.ext.trans e) | exact HU.out.2.1.ext (hO.ext.trans e) | exact HU.out.2.2.ext (hO.ext.trans e)) hv
      have p50 := fun w' (h : Ext W4 w') => p50 w' (hO.ext.trans h)
      have p51 := fun w' (h : Ext W4 w') => p51 w' (hO.ext.trans h)
      have p52 := fun w' (h : Ext W4 w') => p52 w' (hO.ext.trans h)
      have p60 := fun w' (h : Ext W4 w') => p60 w' (hO.ext.trans h)
      have p61 := fun w' (h : Ext W4 w') => p61 w' (hO.ext.trans h)
      have p62 := fun w' (h : Ext W4 w') => p62 w' (hO.ext.trans h)
      have hE4 := Ext.refl W4
      have HO := Lib.hid hO
      clear hO
      go_upto_region 14 with fail
      refine wp_region_ext 38 (factsOf [(7, DfaA8 u), (8, fun v _ => v = .int .i64 1)]) (fun k => ([[], [], [0, 1], [0, 1, 2], [], [], [], [4, 5, 6], [0, 1, 2, 3, 4, 5, 6, 7], [0, 1, 2, 3, 4, 5, 6, 7, 8], [0, 1, 2, 3, 4, 5, 6, 7, 8, 9], [0, 1, 2, 3, 4, 5, 6, 7, 8, 9, 10], [0, 1, 2, 3, 4, 5, 6, 7, 8, 9, 10], [0, 1, 2, 3, 4, 5, 6, 7, 8, 9, 10, 11, 12], [0, 1, 2, 3, 4, 5, 6, 7, 8, 9, 10, 11, 12, 13], [0, 1, 2, 3, 4, 5, 6, 7, 8, 9, 10, 11, 12, 13, 14], [0, 1, 2, 3, 4, 5, 6, 7, 8, 9, 10, 11, 12, 13, 14, 15], [0, 1, 2, 3, 4, 5, 6, 7, 8, 9, 10], [0, 1, 2, 3, 4, 5, 6, 7, 8, 9, 10], [0, 1, 2, 3, 4, 5, 6, 7, 8, 9, 10, 17, 18], [0, 1, 2, 3, 4, 5, 6, 7, 8, 9, 10, 17, 18, 19], [0, 1, 2, 3, 4, 5, 6, 7, 8, 9, 10, 17, 18, 19, 20], [0, 1, 2, 3, 4, 5, 6, 7, 8, 9, 10, 17, 18, 19, 20, 21], [0, 1, 2, 3, 4, 5, 6, 7, 8, 9, 10, 11, 12, 13, 14, 15, 16, 17, 18, 19, 20, 21, 22], [0, 1, 2, 3, 4, 5, 6, 7, 8, 9, 10, 11, 12, 13, 14, 15, 16, 17, 18, 19, 20, 21, 22, 23], [0, 1, 2, 3, 4, 5, 6, 7, 8, 9, 10, 11, 12, 13, 14, 15, 16, 17, 18, 19, 20, 21, 22, 23, 24], [0, 1, 2, 3, 4, 5, 6, 7, 8, 9, 10, 11, 12, 13, 14, 15, 16, 17, 18, 19, 20, 21, 22, 23, 24, 25], [0, 1, 2, 3, 4, 5, 6, 7, 8, 9, 10, 11, 12, 13, 14, 15, 16, 17, 18, 19, 20, 21, 22, 23, 24, 25], [0, 1, 2, 3, 4, 5, 6, 7, 8, 9, 10, 11, 12, 13, 14, 15, 16, 17, 18, 19, 20, 21, 22, 23, 24, 25, 26, 27], [0, 1, 2, 3, 4, 5, 6, 7, 8, 9, 10, 11, 12, 13, 14, 15, 16, 17, 18, 19, 20, 21, 22, 23, 24, 25, 26, 27, 28], [0, 1, 2, 3, 4, 5, 6, 7, 8, 9, 10, 11, 12, 13, 14, 15, 16, 17, 18, 19, 20, 21, 22, 23, 24, 25, 26, 27, 28, 29], [0, 1, 2, 3, 4, 5, 6, 7, 8, 9, 10, 11, 12, 13, 14, 15, 16, 17, 18, 19, 20, 21, 22, 23, 24, 25, 26, 27, 28, 29, 30], [0, 1, 2, 3, 4, 5, 6, 7, 8, 9, 10, 11, 12, 13, 14, 15, 16, 17, 18, 19, 20, 21, 22, 23, 24, 25], [0, 1, 2, 3, 4, 5, 6, 7, 8, 9, 10, 11, 12, 13, 14, 15, 16, 17, 18, 19, 20, 21, 22, 23, 24, 25], [0, 1, 2, 3, 4, 5, 6, 7, 8, 9, 10, 11, 12, 13, 14, 15, 16, 17, 18, 19, 20, 21, 22, 23, 24, 25, 32, 33], [0, 1, 2, 3, 4, 5, 6, 7, 8, 9, 10, 11, 12, 13, 14, 15, 16, 17, 18, 19, 20, 21, 22, 23, 24, 25, 32, 33, 34], [0, 1, 2, 3, 4, 5, 6, 7, 8, 9, 10, 11, 12, 13, 14, 15, 16, 17, 18, 19, 20, 21, 22, 23, 24, 25, 32, 33, 34, 35], [0, 1, 2, 3, 4, 5, 6, 7, 8, 9, 10, 11, 12, 13, 14, 15, 16, 17, 18, 19, 20, 21, 22, 23, 24, 25, 32, 33, 34, 35, 36], [0, 1, 2, 3, 4, 5, 6, 7, 8, 9, 10, 11, 12, 13, 14, 15, 16, 17, 18, 19, 20, 21, 22, 23, 24, 25, 26, 27, 28, 29, 30, 31, 32, 33, 34, 35, 36, 37], [0, 1, 2, 3, 4, 5, 6, 7, 8, 9, 10, 11, 12, 13, 14, 15, 16, 17, 18, 19, 20, 21, 22, 23, 24, 25, 26, 27, 28, 29, 30, 31, 32, 33, 34, 35, 36, 37, 38]] : List (List Nat)).getD k []) (by kernel_rfl) (by kernel_rfl) Ext.pre (mono_cons (stays_dfaA8 _) (mono_cons (stays_eq _) (mono_nil))) ?_
      simp only [List.take_succ_cons, List.take_zero]
      repeat (first | (with_reducible refine lexL_quiet' (v := ?_) ?_ ?_ ?_ ?_; rotate_left; (· with_reducible rfl); (· simp [factsOf]); (· intro w1 hw1 _; go_simp; with_reducible rfl); (try simp only [Act.put, List.setIfInBounds_toArray, List.set_cons_zero, List.set_cons_succ])) | (with_reducible refine lexL_skip ?_ ?_; (· simp [Region.wanted, yielded, undef]); (try simp only [Act.put, List.setIfInBounds_toArray, List.set_cons_zero, List.set_cons_succ])) | (with_reducible refine lexL_quiet (v := ?_) ?_ ?_ ?_ ?_; rotate_left; (· simp [Region.wanted, yielded, undef]); (· simp [factsOf]); (· intro w1 hw1 _; go_simp; with_reducible rfl); (try simp only [Act.put, List.setIfInBounds_toArray, List.set_cons_zero, List.set_cons_succ])))
      with_reducible refine lexL_give' (φ := ?_) ?_ ?_ ?_ ?_; rotate_left; (· with_reducible rfl); (· simp only [factsOf, Nat.reduceAdd, ↓reduceIte, Nat.reduceEqDiff]; rfl)
      · intro w5 hw5 _
        go_simp
        refine (hst w5 hw5).mono ?_
        rintro e w6 ⟨v, rfl, hv, e6⟩
        exact ⟨_, rfl, e6, hv⟩
      rintro v7 w5 hw5 h7 hk2
      clear hk2 hw5 h7 w5
      (try simp only [Act.put, List.setIfInBounds_toArray, List.set_cons_zero, List.set_cons_succ])
      with_reducible refine lexL_give' (φ := ?_) ?_ ?_ ?_ ?_; rotate_left; (· with_reducible rfl); (· simp only [factsOf, Nat.reduceAdd, ↓reduceIte, Nat.reduceEqDiff]; rfl)
      · intro w5 hw5 hkn
        have h7 : DfaV w5 v7 u := hkn.get 7 (by decide) rfl rfl
        go_simp
        refine (hsm w5 hw5 v7 h7).mono ?_
        rintro e w6 ⟨rfl, e6⟩
        exact ⟨_, rfl, e6, rfl⟩
      rintro v8 w5 hw5 rfl hk2
      clear hk2 hw5 w5
      (try simp only [Act.put, List.setIfInBounds_toArray, List.set_cons_zero, List.set_cons_succ])
      repeat (first | (with_reducible refine lexL_quiet' (v := ?_) ?_ ?_ ?_ ?_; rotate_left; (· with_reducible rfl); (· simp [factsOf]); (· intro w1 hw1 _; go_simp; with_reducible rfl); (try simp only [Act.put, List.setIfInBounds_toArray, List.set_cons_zero, List.set_cons_succ])) | (with_reducible refine lexL_skip ?_ ?_; (· simp [Region.wanted, yielded, undef]); (try simp only [Act.put, List.setIfInBounds_toArray, List.set_cons_zero, List.set_cons_succ])) | (with_reducible refine lexL_quiet (v := ?_) ?_ ?_ ?_ ?_; rotate_left; (· simp [Region.wanted, yielded, undef]); (· simp [factsOf]); (· intro w1 hw1 _; go_simp; with_reducible rfl); (try simp only [Act.put, List.setIfInBounds_toArray, List.set_cons_zero, List.set_cons_succ])))
      with_reducible refine lexL_nil ?_; intro w1 hw1 hk1; simp only [List.drop_succ_cons, List.drop_zero]
      clear hk1 hst hsm
      go_wp2
      go_roundw
      case rel => exact ⟨0 + 1, rfl, by omega, HO.out.trans hw1⟩
      case measure => simp [intOf]
    · skip
      have q0 := fun w' (h : Ext W4 w') => h.cell (cell_of_blk (hO.get 0 rfl).2 3 (u := .int .i64 (c).sy) rfl)
      have q1 := fun w' (h : Ext W4 w') => h.cell (cell_of_blk (hO.get 0 rfl).2 4 (u := .slice A9 (c).rows.length (c).rows.length) rfl)
      have q2 := fun w' (h : Ext W4 w') => h.cell (cell_of_blk (hO.get 0 rfl).2 5 (u := .slice B9 (c).acc.length (c).acc.length) rfl)
      have hst := fun W1 (e : Ext W4 W1) => HS.out.2.1 W1 (hO.ext.trans e)
      have hsm := fun W1 (e : Ext W4 W1) v (hv : DfaV W1 v c) => refSame_eq W1 (.agg #[.int .i64 (c).sy, .slice A9 (c).rows.length (c).rows.length, .slice B9 (c).acc.length (c).acc.length]) v c (by first | exact HU.out.1.ext (hO.ext.trans e) | exact HU.out.2.1.ext (hO.ext.trans e) | exact HU.out.2.2.ext (hO.ext.trans e)) hv
      have p50 := fun w' (h : Ext W4 w') => p50 w' (hO.ext.trans h)
      have p51 := fun w' (h : Ext W4 w') => p51 w' (hO.ext.trans h)
      have p52 := fun w' (h : Ext W4 w') => p52 w' (hO.ext.trans h)
      have p60 := fun w' (h : Ext W4 w') => p60 w' (hO.ext.trans h)
      have p61 := fun w' (h : Ext W4 w') => p61 w' (hO.ext.trans h)
      have p62 := fun w' (h : Ext W4 w') => p62 w' (hO.ext.trans h)
      have hE4 := Ext.refl W4
      have HO := Lib.hid hO
      clear hO
      go_upto_region 14 with fail
      refine wp_region_ext 38 (factsOf [(7, DfaA8 c), (8, fun v _ => v = .int .i64 1)]) (fun k => ([[], [], [0, 1], [0, 1, 2], [], [], [], [4, 5, 6], [0, 1, 2, 3, 4, 5, 6, 7], [0, 1, 2, 3, 4, 5, 6, 7, 8], [0, 1, 2, 3, 4, 5, 6, 7, 8, 9], [0, 1, 2, 3, 4, 5, 6, 7, 8, 9, 10], [0, 1, 2, 3, 4, 5, 6, 7, 8, 9, 10], [0, 1, 2, 3, 4, 5, 6, 7, 8, 9, 10, 11, 12], [0, 1, 2, 3, 4, 5, 6, 7, 8, 9, 10, 11, 12, 13], [0, 1, 2, 3, 4, 5, 6, 7, 8, 9, 10, 11, 12, 13, 14], [0, 1, 2, 3, 4, 5, 6, 7, 8, 9, 10, 11, 12, 13, 14, 15], [0, 1, 2, 3, 4, 5, 6, 7, 8, 9, 10], [0, 1, 2, 3, 4, 5, 6, 7, 8, 9, 10], [0, 1, 2, 3, 4, 5, 6, 7, 8, 9, 10, 17, 18], [0, 1, 2, 3, 4, 5, 6, 7, 8, 9, 10, 17, 18, 19], [0, 1, 2, 3, 4, 5, 6, 7, 8, 9, 10, 17, 18, 19, 20], [0, 1, 2, 3, 4, 5, 6, 7, 8, 9, 10, 17, 18, 19, 20, 21], [0, 1, 2, 3, 4, 5, 6, 7, 8, 9, 10, 11, 12, 13, 14, 15, 16, 17, 18, 19, 20, 21, 22], [0, 1, 2, 3, 4, 5, 6, 7, 8, 9, 10, 11, 12, 13, 14, 15, 16, 17, 18, 19, 20, 21, 22, 23], [0, 1, 2, 3, 4, 5, 6, 7, 8, 9, 10, 11, 12, 13, 14, 15, 16, 17, 18, 19, 20, 21, 22, 23, 24], [0, 1, 2, 3, 4, 5, 6, 7, 8, 9, 10, 11, 12, 13, 14, 15, 16, 17, 18, 19, 20, 21, 22, 23, 24, 25], [0, 1, 2, 3, 4, 5, 6, 7, 8, 9, 10, 11, 12, 13, 14, 15, 16, 17, 18, 19, 20, 21, 22, 23, 24, 25], [0, 1, 2, 3, 4, 5, 6, 7, 8, 9, 10, 11, 12, 13, 14, 15, 16, 17, 18, 19, 20, 21, 22, 23, 24, 25, 26, 27], [0, 1, 2, 3, 4, 5, 6, 7, 8, 9, 10, 11, 12, 13, 14, 15, 16, 17, 18, 19, 20, 21, 22, 23, 24, 25, 26, 27, 28], [0, 1, 2, 3, 4, 5, 6, 7, 8, 9, 10, 11, 12, 13, 14, 15, 16, 17, 18, 19, 20, 21, 22, 23, 24, 25, 26, 27, 28, 29], [0, 1, 2, 3, 4, 5, 6, 7, 8, 9, 10, 11, 12, 13, 14, 15, 16, 17, 18, 19, 20, 21, 22, 23, 24, 25, 26, 27, 28, 29, 30], [0, 1, 2, 3, 4, 5, 6, 7, 8, 9, 10, 11, 12, 13, 14, 15, 16, 17, 18, 19, 20, 21, 22, 23, 24, 25], [0, 1, 2, 3, 4, 5, 6, 7, 8, 9, 10, 11, 12, 13, 14, 15, 16, 17, 18, 19, 20, 21, 22, 23, 24, 25], [0, 1, 2, 3, 4, 5, 6, 7, 8, 9, 10, 11, 12, 13, 14, 15, 16, 17, 18, 19, 20, 21, 22, 23, 24, 25, 32, 33], [0, 1, 2, 3, 4, 5, 6, 7, 8, 9, 10, 11, 12, 13, 14, 15, 16, 17, 18, 19, 20, 21, 22, 23, 24, 25, 32, 33, 34], [0, 1, 2, 3, 4, 5, 6, 7, 8, 9, 10, 11, 12, 13, 14, 15, 16, 17, 18, 19, 20, 21, 22, 23, 24, 25, 32, 33, 34, 35], [0, 1, 2, 3, 4, 5, 6, 7, 8, 9, 10, 11, 12, 13, 14, 15, 16, 17, 18, 19, 20, 21, 22, 23, 24, 25, 32, 33, 34, 35, 36], [0, 1, 2, 3, 4, 5, 6, 7, 8, 9, 10, 11, 12, 13, 14, 15, 16, 17, 18, 19, 20, 21, 22, 23, 24, 25, 26, 27, 28, 29, 30, 31, 32, 33, 34, 35, 36, 37], [0, 1, 2, 3, 4, 5, 6, 7, 8, 9, 10, 11, 12, 13, 14, 15, 16, 17, 18, 19, 20, 21, 22, 23, 24, 25, 26, 27, 28, 29, 30, 31, 32, 33, 34, 35, 36, 37, 38]] : List (List Nat)).getD k []) (by kernel_rfl) (by kernel_rfl) Ext.pre (mono_cons (stays_dfaA8 _) (mono_cons (stays_eq _) (mono_nil))) ?_
      simp only [List.take_succ_cons, List.take_zero]
      repeat (first | (with_reducible refine lexL_quiet' (v := ?_) ?_ ?_ ?_ ?_; rotate_left; (· with_reducible rfl); (· simp [factsOf]); (· intro w1 hw1 _; go_simp; with_reducible rfl); (try simp only [Act.put, List.setIfInBounds_toArray, List.set_cons_zero, List.set_cons_succ])) | (with_reducible refine lexL_skip ?_ ?_; (· simp [Region.wanted, yielded, undef]); (try simp only [Act.put, List.setIfInBounds_toArray, List.set_cons_zero, List.set_cons_succ])) | (with_reducible refine lexL_quiet (v := ?_) ?_ ?_ ?_ ?_; rotate_left; (· simp [Region.wanted, yielded, undef]); (· simp [factsOf]); (· intro w1 hw1 _; go_simp; with_reducible rfl); (try simp only [Act.put, List.setIfInBounds_toArray, List.set_cons_zero, List.set_cons_succ])))
      with_reducible refine lexL_give' (φ := ?_) ?_ ?_ ?_ ?_; rotate_left; (· with_reducible rfl); (· simp only [factsOf, Nat.reduceAdd, ↓reduceIte, Nat.reduceEqDiff]; rfl)
      · intro w5 hw5 _
        go_simp
        refine (hst w5 hw5).mono ?_
        rintro e w6 ⟨v, rfl, hv, e6⟩
        exact ⟨_, rfl, e6, hv⟩
      rintro v7 w5 hw5 h7 hk2
      clear hk2 hw5 h7 w5
      (try simp only [Act.put, List.setIfInBounds_toArray, List.set_cons_zero, List.set_cons_succ])
      with_reducible refine lexL_give' (φ := ?_) ?_ ?_ ?_ ?_; rotate_left; (· with_reducible rfl); (· simp only [factsOf, Nat.reduceAdd, ↓reduceIte, Nat.reduceEqDiff]; rfl)
      · intro w5 hw5 hkn
        have h7 : DfaV w5 v7 c := hkn.get 7 (by decide) rfl rfl
        go_simp
        refine (hsm w5 hw5 v7 h7).mono ?_
        rintro e w6 ⟨rfl, e6⟩
        exact ⟨_, rfl, e6, rfl⟩
      rintro v8 w5 hw5 rfl hk2
      clear hk2 hw5 w5
      (try simp only [Act.put, List.setIfInBounds_toArray, List.set_cons_zero, List.set_cons_succ])
      repeat (first | (with_reducible refine lexL_quiet' (v := ?_) ?_ ?_ ?_ ?_; rotate_left; (· with_reducible rfl); (· simp [factsOf]); (· intro w1 hw1 _; go_simp; with_reducible rfl); (try simp only [Act.put, List.setIfInBounds_toArray, List.set_cons_zero, List.set_cons_succ])) | (with_reducible refine lexL_skip ?_ ?_; (· simp [Region.wanted, yielded, undef]); (try simp only [Act.put, List.setIfInBounds_toArray, List.set_cons_zero, List.set_cons_succ])) | (with_reducible refine lexL_quiet (v := ?_) ?_ ?_ ?_ ?_; rotate_left; (· simp [Region.wanted, yielded, undef]); (· simp [factsOf]); (· intro w1 hw1 _; go_simp; with_reducible rfl); (try simp only [Act.put, List.setIfInBounds_toArray, List.set_cons_zero, List.set_cons_succ])))
      with_reducible refine lexL_nil ?_; intro w1 hw1 hk1; simp only [List.drop_succ_cons, List.drop_zero]
      clear hk1 hst hsm
      go_wp2
      go_roundw
      case rel => exact ⟨1 + 1, rfl, by omega, HO.out.trans hw1⟩
      case measure => simp [intOf]
    · skip
      have q0 := fun w' (h : Ext W4 w') => h.cell (cell_of_blk (hO.get 0 rfl).2 6 (u := .int .i64 (m).sy) rfl)
      have q1 := fun w' (h : Ext W4 w') => h.cell (cell_of_blk (hO.get 0 rfl).2 7 (u := .slice A11 (m).rows.length (m).rows.length) rfl)
      have q2 := fun w' (h : Ext W4 w') => h.cell (cell_of_blk (hO.get 0 rfl).2 8 (u := .slice B11 (m).acc.length (m).acc.length) rfl)
      have hst := fun W1 (e : Ext W4 W1) => HS.out.2.2.1 W1 (hO.ext.trans e)
      have hsm := fun W1 (e : Ext W4 W1) v (hv : DfaV W1 v m) => refSame_eq W1 (.agg #[.int .i64 (m).sy, .slice A11 (m).rows.length (m).rows.length, .slice B11 (m).acc.length (m).acc.length]) v m (by first | exact HU.out.1.ext (hO.ext.trans e) | exact HU.out.2.1.ext (hO.ext.trans e) | exact HU.out.2.2.ext (hO.ext.trans e)) hv
      have p50 := fun w' (h : Ext W4 w') => p50 w' (hO.ext.trans h)
      have p51 := fun w' (h : Ext W4 w') => p51 w' (hO.ext.trans h)
      have p52 := fun w' (h : Ext W4 w') => p52 w' (hO.ext.trans h)
      have p60 := fun w' (h : Ext W4 w') => p60 w' (hO.ext.trans h)
      have p61 := fun w' (h : Ext W4 w') => p61 w' (hO.ext.trans h)
      have p62 := fun w' (h : Ext W4 w') => p62 w' (hO.ext.trans h)
      have hE4 := Ext.refl W4
      have HO := Lib.hid hO
      clear hO
      go_upto_region 14 with fail
      refine wp_region_ext 38 (factsOf [(7, DfaA8 m), (8, fun v _ => v = .int .i64 1)]) (fun k => ([[], [], [0, 1], [0, 1, 2], [], [], [], [4, 5, 6], [0, 1, 2, 3, 4, 5, 6, 7], [0, 1, 2, 3, 4, 5, 6, 7, 8], [0, 1, 2, 3, 4, 5, 6, 7, 8, 9], [0, 1, 2, 3, 4, 5, 6, 7, 8, 9, 10], [0, 1, 2, 3, 4, 5, 6, 7, 8, 9, 10], [0, 1, 2, 3, 4, 5, 6, 7, 8, 9, 10, 11, 12], [0, 1, 2, 3, 4, 5, 6, 7, 8, 9, 10, 11, 12, 13], [0, 1, 2, 3, 4, 5, 6, 7, 8, 9, 10, 11, 12, 13, 14], [0, 1, 2, 3, 4, 5, 6, 7, 8, 9, 10, 11, 12, 13, 14, 15], [0, 1, 2, 3, 4, 5, 6, 7, 8, 9, 10], [0, 1, 2, 3, 4, 5, 6, 7, 8, 9, 10], [0, 1, 2, 3, 4, 5, 6, 7, 8, 9, 10, 17, 18], [0, 1, 2, 3, 4, 5, 6, 7, 8, 9, 10, 17, 18, 19], [0, 1, 2, 3, 4, 5, 6, 7, 8, 9, 10, 17, 18, 19, 20], [0, 1, 2, 3, 4, 5, 6, 7, 8, 9, 10, 17, 18, 19, 20, 21], [0, 1, 2, 3, 4, 5, 6, 7, 8, 9, 10, 11, 12, 13, 14, 15, 16, 17, 18, 19, 20, 21, 22], [0, 1, 2, 3, 4, 5, 6, 7, 8, 9, 10, 11, 12, 13, 14, 15, 16, 17, 18, 19, 20, 21, 22, 23], [0, 1, 2, 3, 4, 5, 6, 7, 8, 9, 10, 11, 12, 13, 14, 15, 16, 17, 18, 19, 20, 21, 22, 23, 24], [0, 1, 2, 3, 4, 5, 6, 7, 8, 9, 10, 11, 12, 13, 14, 15, 16, 17, 18, 19, 20, 21, 22, 23, 24, 25], [0, 1, 2, 3, 4, 5, 6, 7, 8, 9, 10, 11, 12, 13, 14, 15, 16, 17, 18, 19, 20, 21, 22, 23, 24, 25], [0, 1, 2, 3, 4, 5, 6, 7, 8, 9, 10, 11, 12, 13, 14, 15, 16, 17, 18, 19, 20, 21, 22, 23, 24, 25, 26, 27], [0, 1, 2, 3, 4, 5, 6, 7, 8, 9, 10, 11, 12, 13, 14, 15, 16, 17, 18, 19, 20, 21, 22, 23, 24, 25, 26, 27, 28], [0, 1, 2, 3, 4, 5, 6, 7, 8, 9, 10, 11, 12, 13, 14, 15, 16, 17, 18, 19, 20, 21, 22, 23, 24, 25, 26, 27, 28, 29], [0, 1, 2, 3, 4, 5, 6, 7, 8, 9, 10, 11, 12, 13, 14, 15, 16, 17, 18, 19, 20, 21, 22, 23, 24, 25, 26, 27, 28, 29, 30], [0, 1, 2, 3, 4, 5, 6, 7, 8, 9, 10, 11, 12, 13, 14, 15, 16, 17, 18, 19, 20, 21, 22, 23, 24, 25], [0, 1, 2, 3, 4, 5, 6, 7, 8, 9, 10, 11, 12, 13, 14, 15, 16, 17, 18, 19, 20, 21, 22, 23, 24, 25], [0, 1, 2, 3, 4, 5, 6, 7, 8, 9, 10, 11, 12, 13, 14, 15, 16, 17, 18, 19, 20, 21, 22, 23, 24, 25, 32, 33], [0, 1, 2, 3, 4, 5, 6, 7, 8, 9, 10, 11, 12, 13, 14, 15, 16, 17, 18, 19, 20, 21, 22, 23, 24, 25, 32, 33, 34], [0, 1, 2, 3, 4, 5, 6, 7, 8, 9, 10, 11, 12, 13, 14, 15, 16, 17, 18, 19, 20, 21, 22, 23, 24, 25, 32, 33, 34, 35], [0, 1, 2, 3, 4, 5, 6, 7, 8, 9, 10, 11, 12, 13, 14, 15, 16, 17, 18, 19, 20, 21, 22, 23, 24, 25, 32, 33, 34, 35, 36], [0, 1, 2, 3, 4, 5, 6, 7, 8, 9, 10, 11, 12, 13, 14, 15, 16, 17, 18, 19, 20, 21, 22, 23, 24, 25, 26, 27, 28, 29, 30, 31, 32, 33, 34, 35, 36, 37], [0, 1, 2, 3, 4, 5, 6, 7, 8, 9, 10, 11, 12, 13, 14, 15, 16, 17, 18, 19, 20, 21, 22, 23, 24, 25, 26, 27, 28, 29, 30, 31, 32, 33, 34, 35, 36, 37, 38]] : List (List Nat)).getD k []) (by kernel_rfl) (by kernel_rfl) Ext.pre (mono_cons (stays_dfaA8 _) (mono_cons (stays_eq _) (mono_nil))) ?_
      simp only [List.take_succ_cons, List.take_zero]
      repeat (first | (with_reducible refine lexL_quiet' (v := ?_) ?_ ?_ ?_ ?_; rotate_left; (· with_reducible rfl); (· simp [factsOf]); (· intro w1 hw1 _; go_simp; with_reducible rfl); (try simp only [Act.put, List.setIfInBounds_toArray, List.set_cons_zero, List.set_cons_succ])) | (with_reducible refine lexL_skip ?_ ?_; (· simp [Region.wanted, yielded, undef]); (try simp only [Act.put, List.setIfInBounds_toArray, List.set_cons_zero, List.set_cons_succ])) | (with_reducible refine lexL_quiet (v := ?_) ?_ ?_ ?_ ?_; rotate_left; (· simp [Region.wanted, yielded, undef]); (· simp [factsOf]); (· intro w1 hw1 _; go_simp; with_reducible rfl); (try simp only [Act.put, List.setIfInBounds_toArray, List.set_cons_zero, List.set_cons_succ])))
      with_reducible refine lexL_give' (φ := ?_) ?_ ?_ ?_ ?_; rotate_left; (· with_reducible rfl); (· simp only [factsOf, Nat.reduceAdd, ↓reduceIte, Nat.reduceEqDiff]; rfl)
      · intro w5 hw5 _
        go_simp
        refine (hst w5 hw5).mono ?_
        rintro e w6 ⟨v, rfl, hv, e6⟩
        exact ⟨_, rfl, e6, hv⟩
      rintro v7 w5 hw5 h7 hk2
      clear hk2 hw5 h7 w5
      (try simp only [Act.put, List.setIfInBounds_toArray, List.set_cons_zero, List.set_cons_succ])
      with_reducible refine lexL_give' (φ := ?_) ?_ ?_ ?_ ?_; rotate_left; (· with_reducible rfl); (· simp only [factsOf, Nat.reduceAdd, ↓reduceIte, Nat.reduceEqDiff]; rfl)
      · intro w5 hw5 hkn
        have h7 : DfaV w5 v7 m := hkn.get 7 (by decide) rfl rfl
        go_simp
        refine (hsm w5 hw5 v7 h7).mono ?_
        rintro e w6 ⟨rfl, e6⟩
        exact ⟨_, rfl, e6, rfl⟩
      rintro v8 w5 hw5 rfl hk2
      clear hk2 hw5 w5
      (try simp only [Act.put, List.setIfInBounds_toArray, List.set_cons_zero, List.set_cons_succ])
      repeat (first | (with_reducible refine lexL_quiet' (v := ?_) ?_ ?_ ?_ ?_; rotate_left; (· with_reducible rfl); (· simp [factsOf]); (· intro w1 hw1 _; go_simp; with_reducible rfl); (try simp only [Act.put, List.setIfInBounds_toArray, List.set_cons_zero, List.set_cons_succ])) | (with_reducible refine lexL_skip ?_ ?_; (· simp [Region.wanted, yielded, undef]); (try simp only [Act.put, List.setIfInBounds_toArray, List.set_cons_zero, List.set_cons_succ])) | (with_reducible refine lexL_quiet (v := ?_) ?_ ?_ ?_ ?_; rotate_left; (· simp [Region.wanted, yielded, undef]); (· simp [factsOf]); (· intro w1 hw1 _; go_simp; with_reducible rfl); (try simp only [Act.put, List.setIfInBounds_toArray, List.set_cons_zero, List.set_cons_succ])))
      with_reducible refine lexL_nil ?_; intro w1 hw1 hk1; simp only [List.drop_succ_cons, List.drop_zero]
      clear hk1 hst hsm
      go_wp2
      go_roundw
      case rel => exact ⟨2 + 1, rfl, by omega, HO.out.trans hw1⟩
      case measure => simp [intOf]
    · have hst := fun W1 (e : Ext W4 W1) => HS.out.2.2.2.1 W1 (hO.ext.trans e)
      have hsm := fun W1 (e : Ext W4 W1) v hv => HS.out.2.2.2.2.1 W1 (hO.ext.trans e) v hv
      have hlv := fun W1 (e : Ext W4 W1) => HS.out.2.2.2.2.2.1 W1 (hO.ext.trans e)
      have p50 := fun w' (h : Ext W4 w') => p50 w' (hO.ext.trans h)
      have p51 := fun w' (h : Ext W4 w') => p51 w' (hO.ext.trans h)
      have p52 := fun w' (h : Ext W4 w') => p52 w' (hO.ext.trans h)
      have p130 := fun w' (h : Ext W4 w') => p130 w' (hO.ext.trans h)
      have p131 := fun w' (h : Ext W4 w') => p131 w' (hO.ext.trans h)
      have p132 := fun w' (h : Ext W4 w') => p132 w' (hO.ext.trans h)
      have hE4 := Ext.refl W4
      have HO := Lib.hid hO.ext
      clear hO p60 p61 p62
      go_upto_region 16 with fail
      refine wp_region_ext 3 (factsOf [(2, DfaA8 o)]) (fun k => ([[], [], [1], [0, 1, 2], [0, 1, 2, 3], [0, 1, 2, 3, 4], [0, 1, 2, 3, 4, 5], [0, 1, 2, 3, 4, 5, 6], [0, 1, 2, 3, 4, 5, 6, 7]] : List (List Nat)).getD k []) (by kernel_rfl) (by kernel_rfl) Ext.pre (mono_cons (stays_dfaA8 _) (mono_nil)) ?_
      simp only [List.take_succ_cons, List.take_zero]
      repeat (first | (with_reducible refine lexL_quiet' (v := ?_) ?_ ?_ ?_ ?_; rotate_left; (· with_reducible rfl); (· simp [factsOf]); (· intro w1 hw1 _; go_simp; with_reducible rfl); (try simp only [Act.put, List.setIfInBounds_toArray, List.set_cons_zero, List.set_cons_succ])) | (with_reducible refine lexL_skip ?_ ?_; (· simp [Region.wanted, yielded, undef]); (try simp only [Act.put, List.setIfInBounds_toArray, List.set_cons_zero, List.set_cons_succ])) | (with_reducible refine lexL_quiet (v := ?_) ?_ ?_ ?_ ?_; rotate_left; (· simp [Region.wanted, yielded, undef]); (· simp [factsOf]); (· intro w1 hw1 _; go_simp; with_reducible rfl); (try simp only [Act.put, List.setIfInBounds_toArray, List.set_cons_zero, List.set_cons_succ])))
      with_reducible refine lexL_give' (φ := ?_) ?_ ?_ ?_ ?_; rotate_left; (· with_reducible rfl); (· simp only [factsOf, Nat.reduceAdd, ↓reduceIte, Nat.reduceEqDiff]; rfl)
      · intro w5 hw5 _
        go_simp
        refine (hst w5 hw5).mono ?_
        rintro e w6 ⟨v, rfl, hv, e6⟩
        exact ⟨_, rfl, e6, hv⟩
      rintro v7 w5 hw5 h7 hk2
      clear hk2 hw5 h7 w5
      (try simp only [Act.put, List.setIfInBounds_toArray, List.set_cons_zero, List.set_cons_succ])
      with_reducible refine lexL_nil ?_; intro w1 hw1 hk1; simp only [List.drop_succ_cons, List.drop_zero]
      have h7 : DfaV w1 v7 o := hk1 2 _ _ rfl rfl
      have hsm1 := hsm w1 hw1 v7 h7
      clear hk1 hst hsm h7
      go_wp2_with (first
        | ((with_reducible refine hsm1.mono ?_); rintro e w6 ⟨rfl, e6⟩; have hlv1 := hlv w6 (hw1.trans e6))
        | ((with_reducible refine hlv1.mono ?_); rintro e w7 ⟨rfl, e7⟩))
      go_ret
      exact ⟨rfl, HS.out.2.2.2.2.2.2.trans (HO.out.trans (hw1.trans (e6.trans e7)))⟩
set_option maxRecDepth 100000 in
set_option maxHeartbeats 8000000 in
theorem sets_t6 (w W : World) (b5 b6 b7 b9 : Nat) (a b u c : Dfa) (c0 c1 c2 c3 c4 c11 c12 c13 c14 c15 c16 c17 c18 c19 c20 c21 c22 c23 c24 c25 c26 c27 c28 c29 c30 c31 c32 c33 c34 c35 c36 c37 c38 c39 c40 c41 c42 c43 c44 c45 c46 c47 c48 c49 c50 c51 c52 c53 c54 c55 c56 c57 c58 c59 c60 c61 c62 c63 c64 c65 c66 c67 c68 c69 c70 c71 c72 c73 c74 c75 c76 c77 c78 c79 c80 c81 c82 c83 c84 c85 c86 c87 c88 c89 c90 c91 c92 c93 c94 c95 c96 c97 c98 c99 c100 c101 c102 c103 c104 c105 c106 c107 c108 c109 c110 c111 c112 c113 c114 c115 c116 c117 c118 c119 c120 c121 c122 c123 c124 : Value) (H : LH w W b5 b6 a b) (h7 : BoxF W b7 u) (h9 : BoxF W b9 c)
    (hu : OpW (fun x y => x || y) a b u) (hc : OpW (fun x y => x && y) a b c) :
    Code.wp Tryd.prog (T8 6) (bodyPost Tryd.prog Tryd.f8 fun e w' => e = .returned (.bool true) ∧ Ext w w') ⟨(c0 :: c1 :: c2 :: c3 :: c4 :: .pointer (some ⟨b5, 0, none⟩) :: .pointer (some ⟨b6, 0, none⟩) :: .pointer (some ⟨b7, 0, none⟩) :: .int .i64 0 :: .pointer (some ⟨b9, 0, none⟩) :: .int .i64 0 :: c11 :: c12 :: c13 :: c14 :: c15 :: c16 :: c17 :: c18 :: c19 :: c20 :: c21 :: c22 :: c23 :: c24 :: c25 :: c26 :: c27 :: c28 :: c29 :: c30 :: c31 :: c32 :: c33 :: c34 :: c35 :: c36 :: c37 :: c38 :: c39 :: c40 :: c41 :: c42 :: c43 :: c44 :: c45 :: c46 :: c47 :: c48 :: c49 :: c50 :: c51 :: c52 :: c53 :: c54 :: c55 :: c56 :: c57 :: c58 :: c59 :: c60 :: c61 :: c62 :: c63 :: c64 :: c65 :: c66 :: c67 :: c68 :: c69 :: c70 :: c71 :: c72 :: c73 :: c74 :: c75 :: c76 :: c77 :: c78 :: c79 :: c80 :: c81 :: c82 :: c83 :: c84 :: c85 :: c86 :: c87 :: c88 :: c89 :: c90 :: c91 :: c92 :: c93 :: c94 :: c95 :: c96 :: c97 :: c98 :: c99 :: c100 :: c101 :: c102 :: c103 :: c104 :: c105 :: c106 :: c107 :: c108 :: c109 :: c110 :: c111 :: c112 :: c113 :: c114 :: c115 :: c116 :: c117 :: c118 :: c119 :: c120 :: c121 :: c122 :: c123 :: c124 :: []).toArray, []⟩ W := by
  conv => arg 2; whnf
  have HH := Lib.hid (And.intro H (And.intro h7 (And.intro h9 (And.intro hu hc))))
  have hba := H.ba
  have hbb := H.bb
  obtain ⟨A5, B5, c5', d5', p50, p51, p52, p5D⟩ := hba
  have p50 := fun w' (h : Ext W w') => h.cell p50
  have p51 := fun w' (h : Ext W w') => h.cell p51
  have p52 := fun w' (h : Ext W w') => h.cell p52
  obtain ⟨A6, B6, c6', d6', p60, p61, p62, p6D⟩ := hbb
  have p60 := fun w' (h : Ext W w') => h.cell p60
  have p61 := fun w' (h : Ext W w') => h.cell p61
  have p62 := fun w' (h : Ext W w') => h.cell p62
  have hE0 := Ext.refl W
  have hm := op_set (Minus_any W _ _ a b p5D p6D H.m) (chk_ok H.ga H.gb H.s) H.n
  have hd := fun W1 (e : Ext W W1) => comp_set (p5D.ext e) H.ga
  clear H h7 h9 hu hc p5D p6D
  go_upto_region 7 with (first
    | ((with_reducible refine (hm).mono ?_); rintro e w1 ⟨m, AM, BM, rfl, hmq, hF, e1⟩)
    | (with_reducible refine wpList_store_blk _ rfl 28 _ _ rfl (w1).heap.size 28 _ _ rfl rfl (heap_alloc_new _ _) (by kernel_rfl) (by kernel_rfl) (by kernel_rfl) ?_; intro w2 h2 g2))
  have e12 : Ext w1 w2 := Below.grown (alloc_ext w1 _) g2 (alloc_ext w1 _).size (fun k hk => by cases hk; exact Nat.le_refl _)
  have eB := e1.trans e12
  have hbm := Lib.hid (boxF_new h2 hF e12)
  clear h2 g2 hF
  generalize (w1).heap.size = bm at *
  clear e12 e1
  have e02 := eB
  clear eB hm
  have hd2 := hd w2 e02
  clear hd
  go_upto_region 8 with (first
    | ((with_reducible refine (hd2).mono ?_); rintro e w3 ⟨o, AX, BX, rfl, hoq, hF, e1⟩)
    | (with_reducible refine wpList_store_blk _ rfl 28 _ _ rfl (w3).heap.size 28 _ _ rfl rfl (heap_alloc_new _ _) (by kernel_rfl) (by kernel_rfl) (by kernel_rfl) ?_; intro w4 h2 g2))
  have e12 : Ext w3 w4 := Below.grown (alloc_ext w3 _) g2 (alloc_ext w3 _).size (fun k hk => by cases hk; exact Nat.le_refl _)
  have eB := e1.trans e12
  have hbo := Lib.hid (boxF_new h2 hF e12)
  clear h2 g2 hF
  generalize (w3).heap.size = bo at *
  clear e12 e1
  have e04 := e02.trans eB
  have hbm := Lib.hid (hbm.out.ext eB)
  have HX := Lib.hid (And.intro hmq (And.intro hoq e04))
  clear p50 p51 p52 p60 p61 p62 hd2 hmq hoq e04 e02 eB hE0
  go_upto_region 999 with (with_reducible refine stop_at 10 ?_)
  refine ⟨?_⟩
  have e04 := HX.out.2.2
  exact sets_t10 w w4 b5 b6 b7 b9 bm bo a b u c m o _ _ _ _ _ _ _ _ _ _ _ _ _ _ _ _ _ _ _ _ _ _ _ _ _ _ _ _ _ _ _ _ _ _ _ _ _ _ _ _ _ _ _ _ _ _ _ _ _ _ _ _ _ _ _ _ _ _ _ _ _ _ _ _ _ _ _ _ _ _ _ _ _ _ _ _ _ _ _ _ _ _ _ _ _ _ _ _ _ _ _ _ _ _ _ _ _ _ _ _ _ _ _ _ _ _ _ _ _ _ _ _ _ _ _ _ _ _ _ (HH.out.1.ext e04) (HH.out.2.1.ext e04) (HH.out.2.2.1.ext e04) hbm.out hbo.out HH.out.2.2.2.1 HH.out.2.2.2.2 HX.out.1 HX.out.2.1
set_option maxRecDepth 100000 in
set_option maxHeartbeats 8000000 in
theorem sets_t4 (w W : World) (b5 b6 : Nat) (a b : Dfa) (c0 c1 c2 c3 c4 c7 c8 c9 c10 c11 c12 c13 c14 c15 c16 c17 c18 c19 c20 c21 c22 c23 c24 c25 c26 c27 c28 c29 c30 c31 c32 c33 c34 c35 c36 c37 c38 c39 c40 c41 c42 c43 c44 c45 c46 c47 c48 c49 c50 c51 c52 c53 c54 c55 c56 c57 c58 c59 c60 c61 c62 c63 c64 c65 c66 c67 c68 c69 c70 c71 c72 c73 c74 c75 c76 c77 c78 c79 c80 c81 c82 c83 c84 c85 c86 c87 c88 c89 c90 c91 c92 c93 c94 c95 c96 c97 c98 c99 c100 c101 c102 c103 c104 c105 c106 c107 c108 c109 c110 c111 c112 c113 c114 c115 c116 c117 c118 c119 c120 c121 c122 c123 c124 : Value) (H : LH w W b5 b6 a b) :
    Code.wp Tryd.prog (T8 4) (bodyPost Tryd.prog Tryd.f8 fun e w' => e = .returned (.bool true) ∧ Ext w w') ⟨(c0 :: c1 :: c2 :: c3 :: c4 :: .pointer (some ⟨b5, 0, none⟩) :: .pointer (some ⟨b6, 0, none⟩) :: c7 :: c8 :: c9 :: c10 :: c11 :: c12 :: c13 :: c14 :: c15 :: c16 :: c17 :: c18 :: c19 :: c20 :: c21 :: c22 :: c23 :: c24 :: c25 :: c26 :: c27 :: c28 :: c29 :: c30 :: c31 :: c32 :: c33 :: c34 :: c35 :: c36 :: c37 :: c38 :: c39 :: c40 :: c41 :: c42 :: c43 :: c44 :: c45 :: c46 :: c47 :: c48 :: c49 :: c50 :: c51 :: c52 :: c53 :: c54 :: c55 :: c56 :: c57 :: c58 :: c59 :: c60 :: c61 :: c62 :: c63 :: c64 :: c65 :: c66 :: c67 :: c68 :: c69 :: c70 :: c71 :: c72 :: c73 :: c74 :: c75 :: c76 :: c77 :: c78 :: c79 :: c80 :: c81 :: c82 :: c83 :: c84 :: c85 :: c86 :: c87 :: c88 :: c89 :: c90 :: c91 :: c92 :: c93 :: c94 :: c95 :: c96 :: c97 :: c98 :: c99 :: c100 :: c101 :: c102 :: c103 :: c104 :: c105 :: c106 :: c107 :: c108 :: c109 :: c110 :: c111 :: c112 :: c113 :: c114 :: c115 :: c116 :: c117 :: c118 :: c119 :: c120 :: c121 :: c122 :: c123 :: c124 :: []).toArray, []⟩ W := by
  conv => arg 2; whnf
  have HH := Lib.hid H
  have hba := H.ba
  have hbb := H.bb
  obtain ⟨A5, B5, c5', d5', p50, p51, p52, p5D⟩ := hba
  have p50 := fun w' (h : Ext W w') => h.cell p50
  have p51 := fun w' (h : Ext W w') => h.cell p51
  have p52 := fun w' (h : Ext W w') => h.cell p52
  obtain ⟨A6, B6, c6', d6', p60, p61, p62, p6D⟩ := hbb
  have p60 := fun w' (h : Ext W w') => h.cell p60
  have p61 := fun w' (h : Ext W w') => h.cell p61
  have p62 := fun w' (h : Ext W w') => h.cell p62
  have hE0 := Ext.refl W
  have hm := op_set (Union_any W _ _ a b p5D p6D H.u) (chk_ok H.ga H.gb H.s) H.n
  have hd := fun W1 (e : Ext W W1) => op_set (Common_any W1 _ _ a b (p5D.ext e) (p6D.ext e) (H.c.ext e)) (chk_ok H.ga H.gb H.s) H.n
  clear H p5D p6D
  go_upto_region 5 with (first
    | ((with_reducible refine (hm).mono ?_); rintro e w1 ⟨u, AM, BM, rfl, hmq, hF, e1⟩)
    | (with_reducible refine wpList_store_blk _ rfl 28 _ _ rfl (w1).heap.size 28 _ _ rfl rfl (heap_alloc_new _ _) (by kernel_rfl) (by kernel_rfl) (by kernel_rfl) ?_; intro w2 h2 g2))
  have e12 : Ext w1 w2 := Below.grown (alloc_ext w1 _) g2 (alloc_ext w1 _).size (fun k hk => by cases hk; exact Nat.le_refl _)
  have eB := e1.trans e12
  have hbm := Lib.hid (boxF_new h2 hF e12)
  clear h2 g2 hF
  generalize (w1).heap.size = bm at *
  clear e12 e1
  have e02 := eB
  clear eB hm
  have hd2 := hd w2 e02
  clear hd
  go_upto_region 999 with (first
    | (with_reducible refine stop_at 6 ?_)
    | ((with_reducible refine (hd2).mono ?_); rintro e w3 ⟨c, AX, BX, rfl, hxq, hF, e1⟩)
    | (with_reducible refine wpList_store_blk _ rfl 28 _ _ rfl (w3).heap.size 28 _ _ rfl rfl (heap_alloc_new _ _) (by kernel_rfl) (by kernel_rfl) (by kernel_rfl) ?_; intro w4 h2 g2))
  refine ⟨?_⟩
  have e12 : Ext w3 w4 := Below.grown (alloc_ext w3 _) g2 (alloc_ext w3 _).size (fun k hk => by cases hk; exact Nat.le_refl _)
  have eB := e1.trans e12
  have hbx := Lib.hid (boxF_new h2 hF e12)
  clear h2 g2 hF
  generalize (w3).heap.size = bx at *
  clear e12 e1
  have e04 := e02.trans eB
  have hbm := hbm.out.ext eB
  exact sets_t6 w w4 b5 b6 bm bx a b u c _ _ _ _ _ _ _ _ _ _ _ _ _ _ _ _ _ _ _ _ _ _ _ _ _ _ _ _ _ _ _ _ _ _ _ _ _ _ _ _ _ _ _ _ _ _ _ _ _ _ _ _ _ _ _ _ _ _ _ _ _ _ _ _ _ _ _ _ _ _ _ _ _ _ _ _ _ _ _ _ _ _ _ _ _ _ _ _ _ _ _ _ _ _ _ _ _ _ _ _ _ _ _ _ _ _ _ _ _ _ _ _ _ _ _ _ _ _ _ (HH.out.ext e04) hbm hbx.out hmq hxq
set_option maxRecDepth 100000 in
set_option maxHeartbeats 8000000 in
theorem sets_t2 (w W : World) (b5 b6 : Nat) (a b : Dfa) (c0 c1 c2 c3 c4 c7 c8 c9 c10 c11 c12 c13 c14 c15 c16 c17 c18 c19 c20 c21 c22 c23 c24 c25 c26 c27 c28 c29 c30 c31 c32 c33 c34 c35 c36 c37 c38 c39 c40 c41 c42 c43 c44 c45 c46 c47 c48 c49 c50 c51 c52 c53 c54 c55 c56 c57 c58 c59 c60 c61 c62 c63 c64 c65 c66 c67 c68 c69 c70 c71 c72 c73 c74 c75 c76 c77 c78 c79 c80 c81 c82 c83 c84 c85 c86 c87 c88 c89 c90 c91 c92 c93 c94 c95 c96 c97 c98 c99 c100 c101 c102 c103 c104 c105 c106 c107 c108 c109 c110 c111 c112 c113 c114 c115 c116 c117 c118 c119 c120 c121 c122 c123 c124 : Value) (h0 : Ext w W) (hm : GlobM W) (hc : GlobC W) (hu : GlobU W) (h7 : BoxD W b5 a) (h8 : BoxD W b6 b) (hga : Good a) (hgb : Good b) (hk : a.k ≤ 3) (hs : a.sy = b.sy) (hna : a.n ≤ 64) (hnb : b.n ≤ 64) :
    Code.wp Tryd.prog (T8 2) (bodyPost Tryd.prog Tryd.f8 fun e w' => e = .returned (.bool true) ∧ Ext w w') ⟨(c0 :: c1 :: c2 :: c3 :: c4 :: .pointer (some ⟨b5, 0, none⟩) :: .pointer (some ⟨b6, 0, none⟩) :: c7 :: c8 :: c9 :: c10 :: c11 :: c12 :: c13 :: c14 :: c15 :: c16 :: c17 :: c18 :: c19 :: c20 :: c21 :: c22 :: c23 :: c24 :: c25 :: c26 :: c27 :: c28 :: c29 :: c30 :: c31 :: c32 :: c33 :: c34 :: c35 :: c36 :: c37 :: c38 :: c39 :: c40 :: c41 :: c42 :: c43 :: c44 :: c45 :: c46 :: c47 :: c48 :: c49 :: c50 :: c51 :: c52 :: c53 :: c54 :: c55 :: c56 :: c57 :: c58 :: c59 :: c60 :: c61 :: c62 :: c63 :: c64 :: c65 :: c66 :: c67 :: c68 :: c69 :: c70 :: c71 :: c72 :: c73 :: c74 :: c75 :: c76 :: c77 :: c78 :: c79 :: c80 :: c81 :: c82 :: c83 :: c84 :: c85 :: c86 :: c87 :: c88 :: c89 :: c90 :: c91 :: c92 :: c93 :: c94 :: c95 :: c96 :: c97 :: c98 :: c99 :: c100 :: c101 :: c102 :: c103 :: c104 :: c105 :: c106 :: c107 :: c108 :: c109 :: c110 :: c111 :: c112 :: c113 :: c114 :: c115 :: c116 :: c117 :: c118 :: c119 :: c120 :: c121 :: c122 :: c123 :: c124 :: []).toArray, []⟩ W := by
  conv => arg 2; whnf
  have hmul := small_mul (show a.rows.length ≤ 64 from hna) (show b.rows.length ≤ 64 from hnb)
  have hlv := lives_any W hm hc
  by_cases hbig : a.n * b.n ≤ 256
  · have H : LH w W b5 b6 a b := ⟨h0, hm, hc, hu, h7, h8, hga, hgb, hk, hs, hbig⟩
    have HH := Lib.hid H
    obtain ⟨A7, B7, c7', d7', p70, p71, p72, p7D⟩ := h7
    have p70 := fun w' (h : Ext W w') => h.cell p70
    have p71 := fun w' (h : Ext W w') => h.cell p71
    have p72 := fun w' (h : Ext W w') => h.cell p72
    obtain ⟨A8, B8, c8', d8', p80, p81, p82, p8D⟩ := h8
    have p80 := fun w' (h : Ext W w') => h.cell p80
    have p81 := fun w' (h : Ext W w') => h.cell p81
    have p82 := fun w' (h : Ext W w') => h.cell p82
    have hE0 := Ext.refl W
    have hnot : ¬ (256 : Int) < ((a.rows.length * b.rows.length : Nat) : Int) := by unfold Dfa.n at hbig; omega
    clear H hlv hga hgb hk hs hna hnb h0 hm hc hu hbig p7D p8D
    generalize a.rows.length * b.rows.length = N at *
    go_upto_region 999 with (with_reducible refine stop_at 4 ?_)
    refine ⟨?_⟩
    exact sets_t4 w W b5 b6 a b _ _ _ _ _ _ _ _ _ _ _ _ _ _ _ _ _ _ _ _ _ _ _ _ _ _ _ _ _ _ _ _ _ _ _ _ _ _ _ _ _ _ _ _ _ _ _ _ _ _ _ _ _ _ _ _ _ _ _ _ _ _ _ _ _ _ _ _ _ _ _ _ _ _ _ _ _ _ _ _ _ _ _ _ _ _ _ _ _ _ _ _ _ _ _ _ _ _ _ _ _ _ _ _ _ _ _ _ _ _ _ _ _ _ _ _ _ _ _ _ _ _ _ HH.out
  · skip
    obtain ⟨A7, B7, c7', d7', p70, p71, p72, p7D⟩ := h7
    have p70 := fun w' (h : Ext W w') => h.cell p70
    have p71 := fun w' (h : Ext W w') => h.cell p71
    have p72 := fun w' (h : Ext W w') => h.cell p72
    obtain ⟨A8, B8, c8', d8', p80, p81, p82, p8D⟩ := h8
    have p80 := fun w' (h : Ext W w') => h.cell p80
    have p81 := fun w' (h : Ext W w') => h.cell p81
    have p82 := fun w' (h : Ext W w') => h.cell p82
    have hE0 := Ext.refl W
    have hnot : (256 : Int) < ((a.rows.length * b.rows.length : Nat) : Int) := by unfold Dfa.n at hbig; omega
    clear hga hgb hk hs hna hnb hm hc hu hbig p7D p8D
    generalize a.rows.length * b.rows.length = N at *
    go_wp2_with ((with_reducible refine hlv.mono ?_); rintro e w1 ⟨rfl, e1⟩)
    go_ret
    exact ⟨rfl, h0.trans e1⟩
set_option maxRecDepth 100000 in
set_option maxHeartbeats 4000000 in
theorem LangsSets_any (w : World) (xv yv : Value) (x y : RawN) (hx : RawNV w xv x) (hy : RawNV w yv y) (hm : GlobM w) (hc : GlobC w) (hu : GlobU w) : Calls Tryd.prog 8 #[xv, yv] w fun e w' => e = .returned (.bool true) ∧ Ext w w' := by
  obtain ⟨av, ca, rfl, ha, hxb⟩ := id hx
  obtain ⟨Aa, rfl, _⟩ := id ha
  obtain ⟨av', ca', rfl, ha', hxb'⟩ := id hy
  obtain ⟨Aa', rfl, _⟩ := id ha'
  go_enter Tryd.func8, Tryd.ntmps8
  go_upto_region 1 with fail
  refine wp_named ?_
  intro W1 hW1
  have hE1 : Ext w W1 := by rw [hW1]; exact ((Ext.refl _).alloc _).alloc _
  have z1 : W1.heap[w.heap.size]? = some (.cells #[.int .u8 x.sy, .int .u8 x.many, .slice Aa x.arcs.length ca, .int .u8 x.st, .int .u8 x.ac] 24 (0, 0)) := by rw [hW1]; exact heap_ext (alloc_ext _ _) (heap_alloc_new w _)
  have z2 : W1.heap[w.heap.size + 1]? = some (.cells #[.int .u8 y.sy, .int .u8 y.many, .slice Aa' y.arcs.length ca', .int .u8 y.st, .int .u8 y.ac] 24 (0, 0)) := by
    rw [hW1]
    have h9 := heap_alloc_new (w.alloc (.cells #[.int .u8 x.sy, .int .u8 x.many, .slice Aa x.arcs.length ca, .int .u8 x.st, .int .u8 x.ac] 24)) (.cells #[.int .u8 y.sy, .int .u8 y.many, .slice Aa' y.arcs.length ca', .int .u8 y.st, .int .u8 y.ac] 24)
    simpa using h9
  clear hW1
  generalize w.heap.size + 1 = b2 at *
  generalize w.heap.size = b1 at *
  have k0 := cell_of_blk z1 0 (u := .int .u8 x.sy) rfl
  have k1 := cell_of_blk z1 1 (u := .int .u8 x.many) rfl
  have k2 := cell_of_blk z1 2 (u := .slice Aa x.arcs.length ca) rfl
  have k3 := cell_of_blk z1 3 (u := .int .u8 x.st) rfl
  have k4 := cell_of_blk z1 4 (u := .int .u8 x.ac) rfl
  have l0 := cell_of_blk z2 0 (u := .int .u8 y.sy) rfl
  have l1 := cell_of_blk z2 1 (u := .int .u8 y.many) rfl
  have l2 := cell_of_blk z2 2 (u := .slice Aa' y.arcs.length ca') rfl
  have l3 := cell_of_blk z2 3 (u := .int .u8 y.st) rfl
  have l4 := cell_of_blk z2 4 (u := .int .u8 y.ac) rfl
  have hdf := dfas_any W1 _ _ x y (hx.ext hE1) (hy.ext hE1)
  have HX := Lib.hid (And.intro hm (And.intro hc (And.intro hu hE1)))
  clear hx hy ha ha' hxb hxb' z1 z2 hm hc hu hE1
  go_upto_region 999 with (first
    | (with_reducible refine stop_at2 2 ?_)
    | (go_at_call 12; refine hdf.mono ?_; rintro e wB ⟨v1, v2, a, b, rfl, hd1, hd2, hg1, hg2, hn1, hn2, hs1, hs2, eB⟩; obtain ⟨rvA, crA, avA, caA, rfl, ⟨ArA, vrA, rfl, -⟩, ⟨AaA, rfl, -⟩⟩ := id hd1; obtain ⟨rvB, crB, avB, caB, rfl, ⟨ArB, vrB, rfl, -⟩, ⟨AaB, rfl, -⟩⟩ := id hd2; clear hdf; have HS := Lib.hid hs1; clear hs1)
    | (with_reducible refine wpList_store_blk _ rfl 28 _ _ rfl wB.heap.size 28 _ _ rfl rfl (heap_ext (alloc_ext _ _) (heap_alloc_new _ _)) (by kernel_rfl) (by kernel_rfl) (by kernel_rfl) ?_; intro w1 h1 g1)
    | (with_reducible refine wpList_store_blk _ rfl 28 _ _ rfl (wB.heap.size + 1) 28 _ _ rfl rfl ((g1.block _ (by simp) (by simp)).trans (by have := heap_alloc_new (wB.alloc (.cells #[.int .i64 0, .slice none 0 0, .slice none 0 0] 28)) (.cells #[.int .i64 0, .slice none 0 0, .slice none 0 0] 28); simpa using this)) (by kernel_rfl) (by kernel_rfl) (by kernel_rfl) ?_; intro w2 h2 g2))
  refine ⟨?_⟩
  have eB1 : Ext wB w1 := Below.grown ((alloc_ext wB _).trans (alloc_ext _ _)) g1 ((alloc_ext wB _).trans (alloc_ext _ _)).size (fun k hk => by cases hk; exact Nat.le_refl _)
  have e12 : Ext wB w2 := Below.grown eB1 g2 eB1.size (fun k hk => by cases hk; omega)
  have h1 := (g2.block _ (lt_of_block h1) (by simp)).trans h1
  have hE2 : Ext w w2 := HX.out.2.2.2.trans (eB.trans e12)
  exact sets_t2 w w2 wB.heap.size (wB.heap.size + 1) a b _ _ _ _ _ _ _ _ _ _ _ _ _ _ _ _ _ _ _ _ _ _ _ _ _ _ _ _ _ _ _ _ _ _ _ _ _ _ _ _ _ _ _ _ _ _ _ _ _ _ _ _ _ _ _ _ _ _ _ _ _ _ _ _ _ _ _ _ _ _ _ _ _ _ _ _ _ _ _ _ _ _ _ _ _ _ _ _ _ _ _ _ _ _ _ _ _ _ _ _ _ _ _ _ _ _ _ _ _ _ _ _ _ _ _ _ _ _ _ _ _ _ _ hE2 (HX.out.1.ext hE2) (HX.out.2.1.ext hE2) (HX.out.2.2.1.ext hE2) (BoxD.of h1 (hd1.ext e12)) (BoxD.of h2 (hd2.ext e12)) hg1 hg2 (by have := hg1.kk; omega) HS.out hn1 hn2
end Go.Proofs.YthlnmcokgfpgmaaDoor
