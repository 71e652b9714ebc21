/-    -/
import Derived.Test.YtmebgomnmlbgnaaDoorZO
set_option linter.unnecessarySimpa false
set_option linter.unusedSectionVars false
namespace Go.Proofs.YtmebgomnmlbgnaaDoor
open Go.RowKit Go.Maps
set_option linter.unusedVariables false
set_option linter.unusedSimpArgs false
attribute [local go_sem] Oper.quietV quietV Oper.gives givesV ext_refl_iff ext_alloc_iff ext_drew_iff ext_drewN_iff
def pairS (D C : DN) (s : Nat × List Bool) (a : Nat) : Nat × List Bool := (D.nx s.1 a, (stF C s.2 a).1.set 0 ((stF C s.2 a).1.getD 0 false || D.ac (D.nx s.1 a)))
section
variable {P : Program} {ops : Array Oper} {rest : List Oper} {o : Oper} {a : Act} {Q : Exit → Act → World → Prop}
theorem wpList_store_tail (w : World) (hgd : o.guard = none) (ty : TypeId) (x y : Operand) (ho : o.op = .store ty x y) (g : Nat) (t : TypeId) (v : Value) (l T : List Value)
    (hx : a.eval x = .pointer (some ⟨g, 1, none⟩)) (hy : a.eval y = .agg T.toArray) (hg : w.heap[g]? = some (.cells (v :: l).toArray t (0, 0))) (hl : T.length = l.length) (hi : (P.info? ty).map (·.size) = some T.toArray.size) (h1 : T.toArray.all (·.oneCell') = true)
    (h : ∀ w', w'.heap[g]? = some (.cells (v :: T).toArray t (0, 0)) → w.grownBy w' (some g) → wpList P ops Q rest (a.put o.dst undef) w') : wpList P ops Q (o :: rest) a w := by
  refine wpList_store_mid hgd ty x y ho g 1 T.toArray hx hy (fun j hj => ?_) hi h1 ?_
  · refine ⟨?_, free_of_blk hg _⟩
    rw [cell_of_row w g (1 + j) _ t (0, 0) hg]
    have : 1 + j < (v :: l).toArray.size := by simp at hj ⊢; omega
    rw [Array.getElem?_eq_getElem this]; rfl
  · obtain ⟨h2, h3⟩ := setCells_blk g t T 1 w _ hg
    have e : setsAt (v :: l).toArray 1 T = (v :: T).toArray := by
      apply Array.ext'
      rw [setsAt_toList _ _ _ (by simp; omega)]
      simp [hl, Nat.add_comm]
    rw [e] at h2
    exact h _ h2 h3
theorem tail_range {w : World} {b : Nat} {t : TypeId} {v : Value} {l : List Value} (hb : w.heap[b]? = some (.cells (v :: l).toArray t (0, 0))) : w.rangeAt b 1 l := fun j u hj => cell_of_blk hb (1 + j) (by rw [Nat.add_comm]; simpa using hj)
end
theorem set_one (v : Value) (l : List Bool) (b : Bool) : (v :: l.map Value.bool).toArray.setIfInBounds 1 (.bool b) = (v :: (l.set 0 b).map Value.bool).toArray := by
  apply Array.ext'; simp [List.map_set]
theorem zc135 (p : Nat) : Tryd.zeroCells135.setIfInBounds 0 (.int .i64 (p : Int)) = (Value.int .i64 (p : Int) :: falses 256).toArray := by kernel_rfl
theorem zs135 : Tryd.zeroCells135.size = 257 := by kernel_rfl
theorem zc135_i (p : Nat) : (Tryd.prog.info? 135).map (·.size) = some (Tryd.zeroCells135.setIfInBounds 0 (.int .i64 (p : Int))).size := by rw [zc135]; simp only [falses, List.size_toArray, List.length_cons, List.length_replicate]; kernel_rfl
theorem bools_ones (l : List Bool) : (l.map Value.bool).toArray.all (·.oneCell') = true := by rw [List.all_toArray, List.all_eq_true]; exact bools_one l
theorem pair_ones (p : Nat) (l : List Bool) : (Value.int .i64 (p : Int) :: l.map Value.bool).toArray.all (·.oneCell') = true := by
  rw [List.all_toArray, List.all_cons, Bool.and_eq_true]
  exact ⟨rfl, List.all_eq_true.2 (bools_one l)⟩
theorem falses_map (n : Nat) : falses n = (List.replicate n false).map Value.bool := by simp [falses]
theorem zc135_o (p : Nat) : (Tryd.zeroCells135.setIfInBounds 0 (.int .i64 (p : Int))).all (·.oneCell') = true := by rw [zc135, falses_map]; exact pair_ones p _
theorem info133 {l : List Bool} (h : l.length = 256) : (Tryd.prog.info? 133).map (·.size) = some (l.map Value.bool).toArray.size := by simp only [List.size_toArray, List.length_map, h]; kernel_rfl
theorem info133' {l : List Bool} (h : l.length = 256) : (Tryd.prog.info? 133).map (·.size) = some (l.map Value.bool).length := by simp only [List.length_map, h]; kernel_rfl
theorem info135 (p : Nat) {l : List Bool} (h : l.length = 256) : (Tryd.prog.info? 135).map (·.size) = some (Value.int .i64 (p : Int) :: l.map Value.bool).toArray.size := by simp only [List.size_toArray, List.length_cons, List.length_map, h]; kernel_rfl
theorem stF_len (D : DN) (s : List Bool) (a : Nat) : (stF D s a).1.length = 256 := stU_len D s a _
set_option maxRecDepth 100000 in
set_option maxHeartbeats 4000000 in
theorem behind1_any {W : World} {m : Nat} {D C : DN} {b1 b2 : Nat} (s : Nat × List Bool) {a : Nat} (hD : D.ok m) (hC : C.ok m) (h1 : DBox W b1 m D) (h2 : DBox W b2 m C) (hs : s.1 < D.rows.length) (hq : s.2.length = 256) (ha : a < m) :
    Calls Tryd.prog 98 #[pairV s, .int .i64 (a : Int), .pointer (some ⟨b1, 0, none⟩), .pointer (some ⟨b2, 0, none⟩)] W fun e w' => e = .returned (pairV (pairS D C s a)) ∧ Ext W w' := by
  obtain ⟨x, q⟩ := s
  have hs : x < D.rows.length := hs
  have hq : q.length = 256 := hq
  obtain ⟨g1, o1, c1, g2, o2, c2, r1, r2, r3⟩ := h1.row hD hs ha
  have hpl := hD.nx hs ha
  obtain ⟨g3, o3, c3, r4, r5⟩ := h1.accs hD hpl
  obtain ⟨p, hp⟩ : ∃ p, p = D.nx x a := ⟨_, rfl⟩
  rw [← hp] at r3 r5 hpl
  have HP := Lib.hid hp
  clear hp
  obtain ⟨X, hX⟩ : ∃ X, X = q.map Value.bool := ⟨_, rfl⟩
  have HX := Lib.hid hX
  have hX257 : (Tryd.prog.info? 135).map (·.size) = some (Value.int .i64 (x : Int) :: X).toArray.size := by rw [hX]; simp only [List.size_toArray, List.length_cons, List.length_map, hq]; kernel_rfl
  show Calls Tryd.prog 98 #[.agg (Value.int .i64 (x : Int) :: q.map .bool).toArray, .int .i64 (a : Int), .pointer (some ⟨b1, 0, none⟩), .pointer (some ⟨b2, 0, none⟩)] W _
  rw [← hX]
  obtain ⟨Y, hY⟩ : ∃ Y, Y = (Value.int .i64 (x : Int) :: X).toArray := ⟨_, rfl⟩
  rw [← hY] at hX257 ⊢
  have HY := Lib.hid hY
  clear hX hY
  have HD := Lib.hid hD
  have HC := Lib.hid hC
  have HB2 := Lib.hid h2
  clear h1 h2 hD hC
  have hsI : (x : Int) < (D.rows.length : Int) := by omega
  have hpI : (p : Int) < (D.rows.length : Int) := by omega
  have haI : (a : Int) < (m : Int) := by omega
  go_enter Tryd.func98, Tryd.ntmps98
  go_upto_region 1 with fail
  refine wp_named ?_
  intro W1 hW1
  have hE1 : Ext W W1 := by rw [hW1]; exact (alloc_ext _ _).trans (alloc_ext _ _)
  have hB4 : W1.heap[W.heap.size]? = some (.cells Y 135) := by rw [hW1]; exact heap_ext (alloc_ext _ _) (heap_alloc_new _ _)
  have hB6 : W1.heap[W.heap.size + 1]? = some (.cells Tryd.zeroCells135 135) := by rw [hW1]; exact heap_new2 _ _ _
  clear hW1
  rw [HY.out] at hB4
  have k0 := cell_of_blk hB4 0 (u := .int .i64 (x : Int)) rfl
  have q1 := hE1.cell r1
  have q2 := hE1.cell r2
  have q3 := hE1.cell r3
  clear r1 r2 r3
  go_upto_region 2 with (with_reducible refine wpList_store_blk _ rfl 135 _ _ rfl W1.heap.size 135 _ _ rfl rfl (heap_alloc_new _ _) (by simp) (zc135_i p) (zc135_o p) ?_; intro w9 h9 g9)
  rw [zc135, falses_map] at h9
  obtain ⟨b7, hb7⟩ : ∃ b, b = W1.heap.size := ⟨_, rfl⟩
  have hb7' : W.heap.size + 2 ≤ b7 := by rw [hb7]; have := (Array.getElem?_eq_some_iff.1 hB6).1; omega
  have hE9 : Ext W1 w9 := Below.grown (alloc_ext _ _) g9 (alloc_ext W1 _).size (fun k hk => by cases hk; exact Nat.le_refl _)
  rw [← hb7] at h9 ⊢
  clear g9 k0 q1 q2 q3 hb7
  have hB4 := heap_ext hE9 hB4
  have hB6 := heap_ext hE9 hB6
  have hE9 := hE1.trans hE9
  have HR4 := Lib.hid r4
  have HR5 := Lib.hid r5
  clear r4 r5 hE1
  obtain ⟨cv, cw, hC2, hCV⟩ := HB2.out.ext hE9
  have hst := fun w' (e : Ext w9 w') => step_any (W := w') (s := q) HC.out (hCV.ext e) hq ha
  have hrg := tail_range hB4
  rw [HX.out] at hrg
  obtain ⟨X', hX'⟩ : ∃ X', X' = (q.map Value.bool).toArray := ⟨_, rfl⟩
  obtain ⟨T, hT⟩ : ∃ T, T = stF C q a := ⟨_, rfl⟩
  have hTl : T.1.length = 256 := by rw [hT]; exact stF_len C q a
  rw [← hT] at hst
  have hi3 := info133' hq
  have HT := Lib.hid hT
  clear hT
  go_upto_region 3 with (first
    | (with_reducible refine wpList_load_row rfl 28 _ rfl b2 rfl 28 _ (0, 0) _ hC2 Tryd.underlying28 rfl (by kernel_rfl) ?_)
    | (with_reducible refine wpList_load_mid rfl 133 _ rfl W.heap.size 1 rfl (q.map Value.bool) _ hrg Tryd.underlying133 rfl hi3 ?_)
    | ((with_reducible refine (hst _ (Ext.refl _)).mono ?_); rintro e W8 ⟨rfl, e8⟩)
    | (with_reducible refine wpList_store_tail _ rfl 133 _ _ rfl b7 135 (.int .i64 (p : Int)) ((List.replicate 256 false).map Value.bool) (T.1.map Value.bool) rfl rfl (heap_ext e8 h9) (by simp [hTl]) (info133 hTl) (bools_ones _) ?_; intro w10 h10 g10))
  clear hC2 hCV hst hrg hi3
  have hE8 := hE9.trans e8
  have hE10 : Ext W w10 := Below.grown hE8 g10 hE8.size (fun k hk => by cases hk; omega)
  have hB6 : w10.heap[W.heap.size + 1]? = some (.cells Tryd.zeroCells135 135) := by
    rw [g10.block _ (by have := (Array.getElem?_eq_some_iff.1 (heap_ext e8 hB6)).1; exact this) (fun h => by cases h; omega)]
    exact heap_ext e8 hB6
  have hr4 := hE10.cell HR4.out
  have hr5 := hE10.cell HR5.out
  have k0 := cell_of_blk h10 0 (u := .int .i64 (p : Int)) rfl
  have k1 : w10.cell? ⟨b7, 1, none⟩ = some (.bool (T.1.getD 0 false)) := cell_of_blk h10 1 (by have := bools_at T.1 0 (by omega); rw [List.getElem?_toArray] at this ⊢; exact this)
  have f1 := free_of_blk h10 1
  have HQ := Lib.hid (And.intro h10 (And.intro hB6 hE10))
  have hne : W.heap.size + 1 ≠ b7 := by omega
  have HN := Lib.hid (And.intro hne (And.intro hTl (show W.heap.size ≤ b7 by omega)))
  clear h10 g10 hE8 e8 hE9 h9 hB4 hTl hb7' hpl hne HR4 HR5 hB6 hE10
  cases hb : T.1.getD 0 false with
  | true =>
    rw [hb] at k1
    have hV : Hid ((T.1.getD 0 false || D.ac p) = true) := Lib.hid (by rw [hb]; rfl)
    clear hb
    go_upto_region 4 with fail
    refine wp_named ?_
    intro W11 hW11
    have hB7 : W11.heap[b7]? = some (.cells (Value.int .i64 (p : Int) :: (T.1.set 0 true).map Value.bool).toArray 135) := by
      rw [hW11, ← set_one]; exact heap_setCell_same w10 b7 1 _ 135 (.bool true) HQ.out.1
    have hB6 : W11.heap[W.heap.size + 1]? = some (.cells Tryd.zeroCells135 135) := by
      rw [hW11]; exact (heap_setCell_other w10 ⟨b7, 1, none⟩ (W.heap.size + 1) _ (fun h => HN.out.1 h)).trans HQ.out.2.1
    have hE11 : Ext W W11 := by rw [hW11]; exact Ext.setCell HQ.out.2.2 HN.out.2.2 _
    have hl : (T.1.set 0 true).length = 256 := by rw [List.length_set]; exact HN.out.2.1
    have hs5 := info135 p hl
    have ho5 := pair_ones p (T.1.set 0 true)
    obtain ⟨Z, hZ⟩ : ∃ Z, Z = (Value.int .i64 (p : Int) :: (T.1.set 0 true).map Value.bool).toArray := ⟨_, rfl⟩
    have hzs : Z.size = Tryd.zeroCells135.size := by
      have h1 : Z.size = 257 := by rw [hZ]; simp [HN.out.2.1]
      exact h1.trans zs135.symm
    rw [← hZ] at hB7 hs5 ho5
    have HZ := Lib.hid hZ
    clear hZ hW11 k0 k1 f1 hr4 hr5 hl
    go_wp2_with (first
      | (with_reducible refine wpList_load_row rfl 135 _ rfl b7 rfl 135 _ (0, 0) _ hB7 Tryd.underlying135 rfl hs5 ?_)
      | (with_reducible refine wpList_store_blk _ rfl 135 _ _ rfl (W.heap.size + 1) 135 _ _ rfl rfl hB6 hzs hs5 ho5 ?_; intro w12 h12 g12))
    refine bodyPost_ret (results_cell_row rfl _ _ (W.heap.size + 1) 135 _ (0, 0) _ (by simp [Act.put]) h12 Tryd.underlying135 rfl hs5) rfl ?_
    refine ⟨?_, Below.grown hE11 g12 hE11.size (fun k hk => by cases hk; exact Nat.le_succ _)⟩
    rw [HZ.out, ← hV.out, HP.out, HT.out]
    rfl
  | false =>
    rw [hb] at k1
    cases hc : D.ac p with
    | true =>
      have hV : Hid ((T.1.getD 0 false || D.ac p) = true) := Lib.hid (by rw [hb, hc]; rfl)
      rw [hc] at hr5
      clear hb hc
      go_upto_region 4 with fail
      refine wp_named ?_
      intro W11 hW11
      have hB7 : W11.heap[b7]? = some (.cells (Value.int .i64 (p : Int) :: (T.1.set 0 true).map Value.bool).toArray 135) := by
        rw [hW11, ← set_one]; exact heap_setCell_same w10 b7 1 _ 135 (.bool true) HQ.out.1
      have hB6 : W11.heap[W.heap.size + 1]? = some (.cells Tryd.zeroCells135 135) := by
        rw [hW11]; exact (heap_setCell_other w10 ⟨b7, 1, none⟩ (W.heap.size + 1) _ (fun h => HN.out.1 h)).trans HQ.out.2.1
      have hE11 : Ext W W11 := by rw [hW11]; exact Ext.setCell HQ.out.2.2 HN.out.2.2 _
      have hl : (T.1.set 0 true).length = 256 := by rw [List.length_set]; exact HN.out.2.1
      have hs5 := info135 p hl
      have ho5 := pair_ones p (T.1.set 0 true)
      obtain ⟨Z, hZ⟩ : ∃ Z, Z = (Value.int .i64 (p : Int) :: (T.1.set 0 true).map Value.bool).toArray := ⟨_, rfl⟩
      have hzs : Z.size = Tryd.zeroCells135.size := by
        have h1 : Z.size = 257 := by rw [hZ]; simp [HN.out.2.1]
        exact h1.trans zs135.symm
      rw [← hZ] at hB7 hs5 ho5
      have HZ := Lib.hid hZ
      clear hZ hW11 k0 k1 f1 hr4 hr5 hl
      go_wp2_with (first
        | (with_reducible refine wpList_load_row rfl 135 _ rfl b7 rfl 135 _ (0, 0) _ hB7 Tryd.underlying135 rfl hs5 ?_)
        | (with_reducible refine wpList_store_blk _ rfl 135 _ _ rfl (W.heap.size + 1) 135 _ _ rfl rfl hB6 hzs hs5 ho5 ?_; intro w12 h12 g12))
      refine bodyPost_ret (results_cell_row rfl _ _ (W.heap.size + 1) 135 _ (0, 0) _ (by simp [Act.put]) h12 Tryd.underlying135 rfl hs5) rfl ?_
      refine ⟨?_, Below.grown hE11 g12 hE11.size (fun k hk => by cases hk; exact Nat.le_succ _)⟩
      rw [HZ.out, ← hV.out, HP.out, HT.out]
      rfl
    | false =>
      have hV : Hid ((T.1.getD 0 false || D.ac p) = false) := Lib.hid (by rw [hb, hc]; rfl)
      rw [hc] at hr5
      clear hb hc
      go_upto_region 4 with fail
      refine wp_named ?_
      intro W11 hW11
      have hB7 : W11.heap[b7]? = some (.cells (Value.int .i64 (p : Int) :: (T.1.set 0 false).map Value.bool).toArray 135) := by
        rw [hW11, ← set_one]; exact heap_setCell_same w10 b7 1 _ 135 (.bool false) HQ.out.1
      have hB6 : W11.heap[W.heap.size + 1]? = some (.cells Tryd.zeroCells135 135) := by
        rw [hW11]; exact (heap_setCell_other w10 ⟨b7, 1, none⟩ (W.heap.size + 1) _ (fun h => HN.out.1 h)).trans HQ.out.2.1
      have hE11 : Ext W W11 := by rw [hW11]; exact Ext.setCell HQ.out.2.2 HN.out.2.2 _
      have hl : (T.1.set 0 false).length = 256 := by rw [List.length_set]; exact HN.out.2.1
      have hs5 := info135 p hl
      have ho5 := pair_ones p (T.1.set 0 false)
      obtain ⟨Z, hZ⟩ : ∃ Z, Z = (Value.int .i64 (p : Int) :: (T.1.set 0 false).map Value.bool).toArray := ⟨_, rfl⟩
      have hzs : Z.size = Tryd.zeroCells135.size := by
        have h1 : Z.size = 257 := by rw [hZ]; simp [HN.out.2.1]
        exact h1.trans zs135.symm
      rw [← hZ] at hB7 hs5 ho5
      have HZ := Lib.hid hZ
      clear hZ hW11 k0 k1 f1 hr4 hr5 hl
      go_wp2_with (first
        | (with_reducible refine wpList_load_row rfl 135 _ rfl b7 rfl 135 _ (0, 0) _ hB7 Tryd.underlying135 rfl hs5 ?_)
        | (with_reducible refine wpList_store_blk _ rfl 135 _ _ rfl (W.heap.size + 1) 135 _ _ rfl rfl hB6 hzs hs5 ho5 ?_; intro w12 h12 g12))
      refine bodyPost_ret (results_cell_row rfl _ _ (W.heap.size + 1) 135 _ (0, 0) _ (by simp [Act.put]) h12 Tryd.underlying135 rfl hs5) rfl ?_
      refine ⟨?_, Below.grown hE11 g12 hE11.size (fun k hk => by cases hk; exact Nat.le_succ _)⟩
      rw [HZ.out, ← hV.out, HP.out, HT.out]
      rfl
end Go.Proofs.YtmebgomnmlbgnaaDoor

namespace Go.Proofs.YtmebgomnmlbgnaaDoor
open Go.RowKit Go.Maps
set_option linter.unusedVariables false
set_option linter.unusedSimpArgs false
attribute [local go_sem] Oper.quietV quietV Oper.gives givesV ext_refl_iff ext_alloc_iff ext_drew_iff ext_drewN_iff
theorem wpList_guarded {P : Program} {ops : Array Oper} {rest : List Oper} {o : Oper} {a : Act} {w : World} {Q : Exit → Act → World → Prop} (hw : Region.wanted o (yielded ops a.tmps) = true) (h : wpList P ops Q ({ o with guard := none } :: rest) a w) : wpList P ops Q (o :: rest) a w := by
  unfold wpList at h ⊢
  rw [if_pos hw]
  rw [if_pos (by simp [Region.wanted])] at h
  exact h
set_option maxRecDepth 100000 in
theorem behind2_any {W : World} {m : Nat} {C : DN} {b2 : Nat} (s : Nat × List Bool) (hC : C.ok m) (h2 : DBox W b2 m C) (hq : s.2.length = 256) :
    Calls Tryd.prog 100 #[pairV s, .pointer (some ⟨b2, 0, none⟩)] W fun e w' => e = .returned (.bool (smF C s.2)) ∧ Ext W w' := by
  obtain ⟨x, q⟩ := s
  have hq : q.length = 256 := hq
  have hX257 := info135 x hq
  show Calls Tryd.prog 100 #[.agg (Value.int .i64 (x : Int) :: q.map .bool).toArray, .pointer (some ⟨b2, 0, none⟩)] W fun e w' => e = .returned (.bool (smF C q)) ∧ Ext W w'
  obtain ⟨Y, hY⟩ : ∃ Y, Y = (Value.int .i64 (x : Int) :: q.map .bool).toArray := ⟨_, rfl⟩
  rw [← hY] at hX257 ⊢
  have HY := Lib.hid hY
  clear hY
  obtain ⟨cv, cw, hC2, hCV⟩ := h2
  have HC := Lib.hid (And.intro hC (And.intro hC2 hCV))
  clear hC hC2 hCV
  go_enter Tryd.func100, Tryd.ntmps100
  go_upto_region 1 with fail
  refine wp_named ?_
  intro W1 hW1
  have hE1 : Ext W W1 := by rw [hW1]; exact alloc_ext _ _
  have hB4 : W1.heap[W.heap.size]? = some (.cells Y 135) := by rw [hW1]; exact heap_alloc_new _ _
  rw [HY.out] at hB4
  have hrg := tail_range hB4
  have hC2 := heap_ext hE1 HC.out.2.1
  have hst := some_any (W := W1) (s := q) HC.out.1 (HC.out.2.2.ext hE1) hq
  have hi3 := info133' hq
  have HE1 := Lib.hid hE1
  clear hW1 hB4 hE1
  go_wp2_with (first
    | (with_reducible refine wpList_load_row rfl 28 _ rfl b2 rfl 28 _ (0, 0) _ hC2 Tryd.underlying28 rfl (by kernel_rfl) ?_)
    | (with_reducible refine wpList_load_mid rfl 133 _ rfl W.heap.size 1 rfl (q.map Value.bool) _ hrg Tryd.underlying133 rfl hi3 ?_)
    | ((with_reducible refine hst.mono ?_); rintro e W8 ⟨rfl, e8⟩))
  go_ret
  exact ⟨rfl, HE1.out.trans e8⟩
def spotS (D : DN) (s : Bool × List Bool) (a : Nat) : Bool × List Bool := (false, (stF D s.2 a).1.set 0 ((stF D s.2 a).1.getD 0 false || (stF D s.2 a).2))
def spotA (D : DN) (s : Bool × List Bool) : Bool := s.1 || smF D s.2
theorem info143 (b : Bool) {l : List Bool} (h : l.length = 256) : (Tryd.prog.info? 143).map (·.size) = some (Value.bool b :: l.map Value.bool).toArray.size := by simp only [List.size_toArray, List.length_cons, List.length_map, h]; kernel_rfl
set_option maxRecDepth 100000 in
theorem often2_any {W : World} {m : Nat} {C : DN} {b2 : Nat} (s : Bool × List Bool) (hC : C.ok m) (h2 : DBox W b2 m C) (hq : s.2.length = 256) :
    Calls Tryd.prog 104 #[spotV s, .pointer (some ⟨b2, 0, none⟩)] W fun e w' => e = .returned (.bool (spotA C s)) ∧ Ext W w' := by
  obtain ⟨x, q⟩ := s
  have hq : q.length = 256 := hq
  have hX257 := info143 x hq
  show Calls Tryd.prog 104 #[.agg (Value.bool x :: q.map .bool).toArray, .pointer (some ⟨b2, 0, none⟩)] W fun e w' => e = .returned (.bool (x || smF C q)) ∧ Ext W w'
  obtain ⟨Y, hY⟩ : ∃ Y, Y = (Value.bool x :: q.map .bool).toArray := ⟨_, rfl⟩
  rw [← hY] at hX257 ⊢
  have HY := Lib.hid hY
  clear hY
  obtain ⟨cv, cw, hC2, hCV⟩ := h2
  have HC := Lib.hid (And.intro hC (And.intro hC2 hCV))
  clear hC hC2 hCV
  go_enter Tryd.func104, Tryd.ntmps104
  go_upto_region 1 with fail
  refine wp_named ?_
  intro W1 hW1
  have hE1 : Ext W W1 := by rw [hW1]; exact alloc_ext _ _
  have hB4 : W1.heap[W.heap.size]? = some (.cells Y 143) := by rw [hW1]; exact heap_alloc_new _ _
  rw [HY.out] at hB4
  have hrg := tail_range hB4
  have k0 := cell_of_blk hB4 0 (u := .bool x) rfl
  have hC2 := heap_ext hE1 HC.out.2.1
  have hst := some_any (W := W1) (s := q) HC.out.1 (HC.out.2.2.ext hE1) hq
  have hi3 := info133' hq
  have HE1 := Lib.hid hE1
  clear hW1 hB4 hE1
  cases x with
  | true =>
    clear hst
    go_wp2
    go_ret
    exact ⟨rfl, HE1.out⟩
  | false =>
  have d0 := cell_of_blk hC2 0 (u := .int .i64 (m : Int)) rfl
  have d1 := cell_of_blk hC2 1 (u := cv) rfl
  have d2 := cell_of_blk hC2 2 (u := cw) rfl
  go_wp2_with (first
    | (refine wpList_guarded (by go_simp) ?_; with_reducible refine wpList_load_mid rfl 133 _ rfl W.heap.size 1 rfl (q.map Value.bool) _ hrg Tryd.underlying133 rfl hi3 ?_)
    | ((with_reducible refine hst.mono ?_); rintro e W8 ⟨rfl, e8⟩))
  go_ret
  exact ⟨rfl, HE1.out.trans e8⟩
end Go.Proofs.YtmebgomnmlbgnaaDoor

namespace Go.Proofs.YtmebgomnmlbgnaaDoor
open Go.RowKit Go.Maps
set_option linter.unusedVariables false
set_option linter.unusedSimpArgs false
attribute [local go_sem] Oper.quietV quietV Oper.gives givesV ext_refl_iff ext_alloc_iff ext_drew_iff ext_drewN_iff
theorem zs143 : Tryd.zeroCells143.size = 257 := by kernel_rfl
theorem zs133 : Tryd.zeroCells133.size = 256 := by kernel_rfl
theorem fill_tail {f : Nat → Option (Nat × Nat)} {z : Array Value} {v : Value} {n : Nat} (hf : f 1 = some (1, n)) (hv : v.cells.size = n) (hz : z.size = 1 + n) : Instr.fill f z [(1, v)] = some (z.toList.take 1 ++ v.cells.toList).toArray := by
  unfold Instr.fill
  rw [hf]
  simp only
  rw [if_neg (by rw [hv, hz]; simp)]
  show some _ = _
  congr 1
  rw [← Array.foldl_toList, Array.toList_zipIdx]
  have h := fold_sets 1 v.cells.toList 0 z
  refine Eq.trans h ?_
  apply Array.ext'
  rw [setsAt_toList _ _ _ (by simp; omega)]
  simp [hz, hv]
theorem built143 {L : List Bool} (h : L.length = 256) : Tryd.prog.built 143 [(1, .agg (L.map Value.bool).toArray)] = some (Value.bool false :: L.map Value.bool).toArray := by
  have e : ∀ v, Tryd.prog.built 143 [(1, v)] = Instr.fill (#[(0, 1), (1, 256)][·]?) Tryd.zeroCells143 [(1, v)] := fun v => by kernel_rfl
  rw [e, fill_tail (n := 256) rfl (by simp [Value.cells, h]) (by kernel_rfl)]
  have e2 : Tryd.zeroCells143.toList.take 1 = [Value.bool false] := by kernel_rfl
  rw [e2]
  simp [Value.cells]
theorem wpList_build {P : Program} {ops : Array Oper} {rest : List Oper} {o : Oper} {a : Act} {w : World} {Q : Exit → Act → World → Prop} (hgd : o.guard = none) (t : TypeId) (parts : Array (Nat × Operand)) (ho : o.op = .build t parts) (vs : List (Nat × Value)) (hv : parts.toList.map (fun p => (p.1, a.eval p.2)) = vs) (cells : Array Value) (hb : P.built t vs = some cells) (h : wpList P ops Q rest (a.put o.dst (.agg cells)) w) : wpList P ops Q (o :: rest) a w := by
  refine wpList_plain hgd fun K' hK' => ?_
  unfold Oper.wp
  subst hv
  have h0 := run_build w t (parts.map (fun p => (p.1, a.eval p.2))) cells (by rw [Array.toList_map]; exact hb)
  simp only [execOp, ho]
  simp only [h0, Sem.run_bind, Sem.run_pure, Result.andThen_ok]
  exact hK' _ _ h
set_option maxRecDepth 100000 in
set_option maxHeartbeats 4000000 in
theorem often1_any {W : World} {m : Nat} {D : DN} {b2 : Nat} (s : Bool × List Bool) {a : Nat} (hD : D.ok m) (h2 : DBox W b2 m D) (hq : s.2.length = 256) (ha : a < m) :
    Calls Tryd.prog 103 #[spotV s, .int .i64 (a : Int), .pointer (some ⟨b2, 0, none⟩)] W fun e w' => e = .returned (spotV (spotS D s a)) ∧ Ext W w' := by
  obtain ⟨x, q⟩ := s
  have hq : q.length = 256 := hq
  have hX257 := info143 x hq
  show Calls Tryd.prog 103 #[.agg (Value.bool x :: q.map .bool).toArray, .int .i64 (a : Int), .pointer (some ⟨b2, 0, none⟩)] W _
  obtain ⟨Y, hY⟩ : ∃ Y, Y = (Value.bool x :: q.map .bool).toArray := ⟨_, rfl⟩
  rw [← hY] at hX257 ⊢
  have HY := Lib.hid hY
  clear hY
  obtain ⟨cv, cw, hC2, hCV⟩ := h2
  have HC := Lib.hid (And.intro hD (And.intro hC2 hCV))
  clear hD hC2 hCV
  go_enter Tryd.func103, Tryd.ntmps103
  go_upto_region 1 with fail
  refine wp_named ?_
  intro W1 hW1
  have hE1 : Ext W W1 := by rw [hW1]; exact (alloc_ext _ _).trans (alloc_ext _ _)
  have hB4 : W1.heap[W.heap.size]? = some (.cells Y 143) := by rw [hW1]; exact heap_ext (alloc_ext _ _) (heap_alloc_new _ _)
  have hB5 : W1.heap[W.heap.size + 1]? = some (.cells Tryd.zeroCells143 143) := by rw [hW1]; exact heap_new2 _ _ _
  rw [HY.out] at hB4
  have hrg := tail_range hB4
  have hC2 := heap_ext hE1 HC.out.2.1
  have hst := step_any (W := W1) (s := q) HC.out.1 (HC.out.2.2.ext hE1) hq ha
  have hi3 := info133' hq
  obtain ⟨T, hT⟩ : ∃ T, T = stF D q a := ⟨_, rfl⟩
  have hTl : T.1.length = 256 := by rw [hT]; exact stF_len D q a
  have hTz : (T.1.map Value.bool).toArray.size = Tryd.zeroCells133.size := by
    have h1 : (T.1.map Value.bool).toArray.size = 256 := by simp [hTl]
    exact h1.trans zs133.symm
  rw [← hT] at hst
  have HT := Lib.hid hT
  have HQ1 := Lib.hid (And.intro hB5 hE1)
  clear hW1 hB4 hE1 hB5 hT
  go_upto_region 2 with (first
    | (with_reducible refine wpList_load_row rfl 28 _ rfl b2 rfl 28 _ (0, 0) _ hC2 Tryd.underlying28 rfl (by kernel_rfl) ?_)
    | (with_reducible refine wpList_load_mid rfl 133 _ rfl W.heap.size 1 rfl (q.map Value.bool) _ hrg Tryd.underlying133 rfl hi3 ?_)
    | ((with_reducible refine hst.mono ?_); rintro e W8 ⟨rfl, e8⟩)
    | (with_reducible refine wpList_store_blk _ rfl 133 _ _ rfl W8.heap.size 133 _ _ rfl rfl (heap_alloc_new _ _) hTz (info133 hTl) (bools_ones _) ?_; intro w10 h10 g10))
  obtain ⟨b6, hb6⟩ : ∃ b, b = W8.heap.size := ⟨_, rfl⟩
  have hge : W.heap.size + 2 ≤ b6 := by
    have h1 := (Array.getElem?_eq_some_iff.1 (heap_ext e8 HQ1.out.1)).1
    omega
  have hE8 := (HQ1.out.2.trans e8).trans (alloc_ext W8 (.cells Tryd.zeroCells133 133))
  have hE10 : Ext W w10 := Below.grown hE8 g10 hE8.size (fun k hk => by cases hk; omega)
  have hB5 : w10.heap[W.heap.size + 1]? = some (.cells Tryd.zeroCells143 143) := by
    rw [g10.block _ (by simp; omega) (fun h => absurd (Option.some.inj h) (by omega))]
    exact heap_ext (e8.trans (alloc_ext W8 (.cells Tryd.zeroCells133 133))) HQ1.out.1
  rw [← hb6] at h10 ⊢
  have k1 : w10.cell? ⟨b6, 0, none⟩ = some (.bool (T.1.getD 0 false)) := cell_of_blk h10 0 (bools_at T.1 0 (by omega))
  have f1 := free_of_blk h10 0
  have HQ := Lib.hid (And.intro h10 (And.intro hB5 hE10))
  have hne : W.heap.size + 1 ≠ b6 := by omega
  have HN := Lib.hid (And.intro hne (And.intro hTl (show W.heap.size ≤ b6 by omega)))
  clear h10 g10 hE8 e8 hTl hge hne hB5 hE10 hb6 hst hrg hi3 hC2 hTz HQ1
  cases hb : T.1.getD 0 false with
  | true =>
    rw [hb] at k1
    have hV : Hid ((T.1.getD 0 false || T.2) = true) := Lib.hid (by rw [hb]; rfl)
    clear hb
    go_upto_region 3 with fail
    refine wp_named ?_
    intro W11 hW11
    have hB7 : W11.heap[b6]? = some (.cells ((T.1.set 0 true).map Value.bool).toArray 133) := by
      rw [hW11, ← bools_set]; exact heap_setCell_same w10 b6 0 _ 133 (.bool true) HQ.out.1
    have hB5 : W11.heap[W.heap.size + 1]? = some (.cells Tryd.zeroCells143 143) := by
      rw [hW11]; exact (heap_setCell_other w10 ⟨b6, 0, none⟩ (W.heap.size + 1) _ (fun h => HN.out.1 h)).trans HQ.out.2.1
    have hE11 : Ext W W11 := by rw [hW11]; exact Ext.setCell HQ.out.2.2 HN.out.2.2 _
    have hl : (T.1.set 0 true).length = 256 := by rw [List.length_set]; exact HN.out.2.1
    have hs6 := info133 hl
    have hs5 := info143 false hl
    have hbu := built143 hl
    have ho5 : (Value.bool false :: (T.1.set 0 true).map Value.bool).toArray.all (·.oneCell') = true := by
      rw [List.all_toArray, List.all_cons, Bool.and_eq_true]
      exact ⟨rfl, List.all_eq_true.2 (bools_one _)⟩
    obtain ⟨Z, hZ⟩ : ∃ Z, Z = (Value.bool false :: (T.1.set 0 true).map Value.bool).toArray := ⟨_, rfl⟩
    obtain ⟨Y6, hY6⟩ : ∃ Z, Z = ((T.1.set 0 true).map Value.bool).toArray := ⟨_, rfl⟩
    have hzs : Z.size = Tryd.zeroCells143.size := by
      have h1 : Z.size = 257 := by rw [hZ]; simp [HN.out.2.1]
      exact h1.trans zs143.symm
    rw [← hZ] at hs5 ho5 hbu
    rw [← hY6] at hbu hB7 hs6
    have HZ := Lib.hid hZ
    clear hZ hW11 k1 f1 hl hY6
    go_wp2_with (first
      | (with_reducible refine wpList_load_row rfl 133 _ rfl b6 rfl 133 _ (0, 0) _ hB7 Tryd.underlying133 rfl hs6 ?_)
      | (refine wpList_build rfl 143 #[(1, .tmp 22)] rfl [(1, .agg Y6)] ?_ Z hbu ?_; (· rfl))
      | (with_reducible refine wpList_store_blk _ rfl 143 _ _ rfl (W.heap.size + 1) 143 _ _ rfl rfl hB5 hzs hs5 ho5 ?_; intro w12 h12 g12))
    refine bodyPost_ret (results_cell_row rfl _ _ (W.heap.size + 1) 143 _ (0, 0) _ (by simp [Act.put]) h12 Tryd.underlying143 rfl hs5) rfl ?_
    refine ⟨?_, Below.grown hE11 g12 hE11.size (fun k hk => by cases hk; exact Nat.le_succ _)⟩
    rw [HZ.out, show T.1.set 0 true = T.1.set 0 (T.1.getD 0 false || T.2) from congrArg (T.1.set 0) hV.out.symm, HT.out]
    rfl
  | false =>
    rw [hb] at k1
    cases hc : T.2 with
    | true =>
      have hV : Hid ((T.1.getD 0 false || T.2) = true) := Lib.hid (by rw [hb, hc]; rfl)
      clear hb hc
      go_upto_region 3 with fail
      refine wp_named ?_
      intro W11 hW11
      have hB7 : W11.heap[b6]? = some (.cells ((T.1.set 0 true).map Value.bool).toArray 133) := by
        rw [hW11, ← bools_set]; exact heap_setCell_same w10 b6 0 _ 133 (.bool true) HQ.out.1
      have hB5 : W11.heap[W.heap.size + 1]? = some (.cells Tryd.zeroCells143 143) := by
        rw [hW11]; exact (heap_setCell_other w10 ⟨b6, 0, none⟩ (W.heap.size + 1) _ (fun h => HN.out.1 h)).trans HQ.out.2.1
      have hE11 : Ext W W11 := by rw [hW11]; exact Ext.setCell HQ.out.2.2 HN.out.2.2 _
      have hl : (T.1.set 0 true).length = 256 := by rw [List.length_set]; exact HN.out.2.1
      have hs6 := info133 hl
      have hs5 := info143 false hl
      have hbu := built143 hl
      have ho5 : (Value.bool false :: (T.1.set 0 true).map Value.bool).toArray.all (·.oneCell') = true := by
        rw [List.all_toArray, List.all_cons, Bool.and_eq_true]
        exact ⟨rfl, List.all_eq_true.2 (bools_one _)⟩
      obtain ⟨Z, hZ⟩ : ∃ Z, Z = (Value.bool false :: (T.1.set 0 true).map Value.bool).toArray := ⟨_, rfl⟩
      obtain ⟨Y6, hY6⟩ : ∃ Z, Z = ((T.1.set 0 true).map Value.bool).toArray := ⟨_, rfl⟩
      have hzs : Z.size = Tryd.zeroCells143.size := by
        have h1 : Z.size = 257 := by rw [hZ]; simp [HN.out.2.1]
        exact h1.trans zs143.symm
      rw [← hZ] at hs5 ho5 hbu
      rw [← hY6] at hbu hB7 hs6
      have HZ := Lib.hid hZ
      clear hZ hW11 k1 f1 hl hY6
      go_wp2_with (first
        | (with_reducible refine wpList_load_row rfl 133 _ rfl b6 rfl 133 _ (0, 0) _ hB7 Tryd.underlying133 rfl hs6 ?_)
        | (refine wpList_build rfl 143 #[(1, .tmp 22)] rfl [(1, .agg Y6)] ?_ Z hbu ?_; (· rfl))
        | (with_reducible refine wpList_store_blk _ rfl 143 _ _ rfl (W.heap.size + 1) 143 _ _ rfl rfl hB5 hzs hs5 ho5 ?_; intro w12 h12 g12))
      refine bodyPost_ret (results_cell_row rfl _ _ (W.heap.size + 1) 143 _ (0, 0) _ (by simp [Act.put]) h12 Tryd.underlying143 rfl hs5) rfl ?_
      refine ⟨?_, Below.grown hE11 g12 hE11.size (fun k hk => by cases hk; exact Nat.le_succ _)⟩
      rw [HZ.out, show T.1.set 0 true = T.1.set 0 (T.1.getD 0 false || T.2) from congrArg (T.1.set 0) hV.out.symm, HT.out]
      rfl
    | false =>
      have hV : Hid ((T.1.getD 0 false || T.2) = false) := Lib.hid (by rw [hb, hc]; rfl)
      clear hb hc
      go_upto_region 3 with fail
      refine wp_named ?_
      intro W11 hW11
      have hB7 : W11.heap[b6]? = some (.cells ((T.1.set 0 false).map Value.bool).toArray 133) := by
        rw [hW11, ← bools_set]; exact heap_setCell_same w10 b6 0 _ 133 (.bool false) HQ.out.1
      have hB5 : W11.heap[W.heap.size + 1]? = some (.cells Tryd.zeroCells143 143) := by
        rw [hW11]; exact (heap_setCell_other w10 ⟨b6, 0, none⟩ (W.heap.size + 1) _ (fun h => HN.out.1 h)).trans HQ.out.2.1
      have hE11 : Ext W W11 := by rw [hW11]; exact Ext.setCell HQ.out.2.2 HN.out.2.2 _
      have hl : (T.1.set 0 false).length = 256 := by rw [List.length_set]; exact HN.out.2.1
      have hs6 := info133 hl
      have hs5 := info143 false hl
      have hbu := built143 hl
      have ho5 : (Value.bool false :: (T.1.set 0 false).map Value.bool).toArray.all (·.oneCell') = true := by
        rw [List.all_toArray, List.all_cons, Bool.and_eq_true]
        exact ⟨rfl, List.all_eq_true.2 (bools_one _)⟩
      obtain ⟨Z, hZ⟩ : ∃ Z, Z = (Value.bool false :: (T.1.set 0 false).map Value.bool).toArray := ⟨_, rfl⟩
      obtain ⟨Y6, hY6⟩ : ∃ Z, Z = ((T.1.set 0 false).map Value.bool).toArray := ⟨_, rfl⟩
      have hzs : Z.size = Tryd.zeroCells143.size := by
        have h1 : Z.size = 257 := by rw [hZ]; simp [HN.out.2.1]
        exact h1.trans zs143.symm
      rw [← hZ] at hs5 ho5 hbu
      rw [← hY6] at hbu hB7 hs6
      have HZ := Lib.hid hZ
      clear hZ hW11 k1 f1 hl hY6
      go_wp2_with (first
        | (with_reducible refine wpList_load_row rfl 133 _ rfl b6 rfl 133 _ (0, 0) _ hB7 Tryd.underlying133 rfl hs6 ?_)
        | (refine wpList_build rfl 143 #[(1, .tmp 22)] rfl [(1, .agg Y6)] ?_ Z hbu ?_; (· rfl))
        | (with_reducible refine wpList_store_blk _ rfl 143 _ _ rfl (W.heap.size + 1) 143 _ _ rfl rfl hB5 hzs hs5 ho5 ?_; intro w12 h12 g12))
      refine bodyPost_ret (results_cell_row rfl _ _ (W.heap.size + 1) 143 _ (0, 0) _ (by simp [Act.put]) h12 Tryd.underlying143 rfl hs5) rfl ?_
      refine ⟨?_, Below.grown hE11 g12 hE11.size (fun k hk => by cases hk; exact Nat.le_succ _)⟩
      rw [HZ.out, show T.1.set 0 false = T.1.set 0 (T.1.getD 0 false || T.2) from congrArg (T.1.set 0) hV.out.symm, HT.out]
      rfl
end Go.Proofs.YtmebgomnmlbgnaaDoor
