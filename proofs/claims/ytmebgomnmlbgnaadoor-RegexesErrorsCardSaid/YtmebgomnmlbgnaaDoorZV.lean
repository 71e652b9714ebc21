/-    -/
import Derived.Test.YtmebgomnmlbgnaaDoorZH3
set_option linter.unnecessarySimpa false
set_option linter.unusedSectionVars false
namespace Go.Proofs.YtmebgomnmlbgnaaDoor
open Go.RowKit Go.Maps
set_option linter.unusedVariables false
set_option linter.unusedSimpArgs false
attribute [local go_sem] Oper.quietV quietV Oper.gives givesV ext_refl_iff ext_alloc_iff ext_drew_iff ext_drewN_iff
set_option maxRecDepth 100000 in
set_option maxHeartbeats 16000000 in
theorem dfa_t10_star (w W : World) (m b2 b4 gl cl : Nat) (n0 : Int) (sv : Value) (r1 : DR) (c0 c3 c5 c7 c8 c9 c10 c11 c12 c13 c14 c15 c16 c17 c18 c19 c20 c21 c22 c23 c24 c25 c26 c27 c28 c29 c30 c31 c32 c33 c34 c35 c36 c37 c38 c39 c40 c41 c42 c43 c44 c45 c46 c47 c48 c49 c50 c51 c52 c53 c54 c55 c56 c57 c58 c59 c60 c61 c62 c63 c64 c65 c66 c67 c68 c69 c70 c71 c72 c73 c74 c75 c76 c77 c78 c79 c80 c81 c82 c83 c84 c85 c86 c87 c88 c89 c90 c91 c92 c93 c94 c95 c96 c97 c98 c99 c100 c101 c102 c103 c104 c105 c106 c107 c108 c109 c110 c111 c112 c113 c114 c115 c116 : Value) (hm : m ≤ 16) (hO : OwnL w W [.row 28 3 (.slice (some ⟨gl, 0, none⟩) 1 cl) 1 (dCells m r1), dAny r1, dBlk r1, .blk b4 zDfa])
    (hB2 : W.heap[b2]? = some (.cells #[.int .u8 6, .int .i64 n0, sv] 35 (0, 0))) (f1 : r1.fine) (k1 : r1.D.ok m) :
    Code.wp Tryd.prog (T41 10) (bodyPost Tryd.prog Tryd.f41 (MinP m ((oftenD m r1.D).bind minD) w)) ⟨(c0 :: .int .i64 (m : Int) :: .pointer (some ⟨b2, 0, none⟩) :: c3 :: .pointer (some ⟨b4, 0, none⟩) :: c5 :: .slice (some ⟨gl, 0, none⟩) 1 cl :: c7 :: c8 :: c9 :: c10 :: c11 :: c12 :: c13 :: c14 :: c15 :: c16 :: c17 :: c18 :: c19 :: c20 :: c21 :: c22 :: c23 :: c24 :: c25 :: c26 :: c27 :: c28 :: c29 :: c30 :: c31 :: c32 :: c33 :: c34 :: c35 :: c36 :: c37 :: c38 :: c39 :: c40 :: c41 :: c42 :: c43 :: c44 :: c45 :: c46 :: c47 :: c48 :: c49 :: c50 :: c51 :: c52 :: c53 :: c54 :: c55 :: c56 :: c57 :: c58 :: c59 :: c60 :: c61 :: c62 :: c63 :: c64 :: c65 :: c66 :: c67 :: c68 :: c69 :: c70 :: c71 :: c72 :: c73 :: c74 :: c75 :: c76 :: c77 :: c78 :: c79 :: c80 :: c81 :: c82 :: c83 :: c84 :: c85 :: c86 :: c87 :: c88 :: c89 :: c90 :: c91 :: c92 :: c93 :: c94 :: c95 :: c96 :: c97 :: c98 :: c99 :: c100 :: c101 :: c102 :: c103 :: c104 :: c105 :: c106 :: c107 :: c108 :: c109 :: c110 :: c111 :: c112 :: c113 :: c114 :: c115 :: c116 :: []).toArray, []⟩ W := by
  conv => arg 2; whnf
  have hb4 := (show w.heap.size ≤ b4 ∧ W.heap[b4]? = some zDfa from hO.get 3 rfl)
  have d1 := DR.dfaV (m := m) (i := 1) (j := 2) hO rfl rfl f1
  have hrow : W.ownsRow w.heap.size 28 3 (.slice (some ⟨gl, 0, none⟩) 1 cl) 1 (dCells m r1) := hO.get 0 rfl
  have g1 := own_range (ys := dCells m r1) (pre := []) (post := []) (i := 0) hrow (by simp) rfl
  have HW := Lib.hid (And.intro hO.ext (And.intro hb4 (And.intro d1 (And.intro k1 g1))))
  have k0 := cell_of_blk hB2 0 (u := .int .u8 6) rfl
  have K0 := Lib.hid k0
  clear hO hb4 d1 k1 f1 hrow g1 hB2 k0
  go_upto_region 11 with (with_reducible refine wpList_store_blk _ rfl 109 _ _ rfl W.heap.size 109 #[.slice none 0 0, .slice none 0 0] _ rfl rfl (heap_alloc_new _ _) (by kernel_rfl) (by kernel_rfl) (by kernel_rfl) ?_; intro w5 h5 g5)
  obtain ⟨b11, hb11⟩ : ∃ b, b = W.heap.size := ⟨_, rfl⟩
  have hE5 : Ext W w5 := Below.grown (alloc_ext _ _) g5 (alloc_ext W _).size (fun k hk => by cases hk; exact Nat.le_refl _)
  rw [← hb11] at h5 ⊢
  have HB11 := Lib.hid hb11
  have H5 := Lib.hid (And.intro hE5 h5)
  clear g5 hb11
  have k0 := hE5.cell K0.out
  have hrg := range_ext HW.out.2.2.2.2 hE5
  have hst0 := often_any hm HW.out.2.2.2.1 (HW.out.2.2.1.ext hE5)
  obtain ⟨R, hR⟩ : ∃ R, R = oftenD m r1.D := ⟨_, rfl⟩
  rw [← hR] at hst0
  have HR := Lib.hid hR
  have hN : b11 + 1 ≤ w5.heap.size := Nat.succ_le_of_lt (Array.getElem?_eq_some_iff.1 h5).1
  have hst : Calls Tryd.prog 76 #[.int .i64 (m : Int), .agg (dCells m r1).toArray] w5 (fun e w' => ∃ v, e = .returned v ∧ RawQ R (b11 + 1) v w' ∧ Ext w5 w')   := hst0.mono (fun e w' h => rawQ_of hN h)
  clear hst0 hE5 h5 hR hN
  go_upto_region 999 with (first
    | (with_reducible refine stop_at2 27 ?_)
    | (with_reducible refine wpList_load_mid rfl 28 _ rfl gl 0 rfl (dCells m r1) _ hrg Tryd.underlying28 rfl (by kernel_rfl) ?_)
    | ((with_reducible refine hst.mono ?_); rintro e W8 ⟨v, rfl, hq, e8⟩; obtain ⟨x, y, hval⟩ := hq.form; obtain ⟨rfl, ⟨Ax, nx, cx, rfl⟩, ⟨Ay, ny, cy, rfl⟩⟩ := id hval; have HQ := Lib.hid hq; clear hval hq)
    | (with_reducible refine wpList_store_blk _ rfl 109 _ _ rfl b11 109 #[.slice Ax nx cx, .slice Ay ny cy] _ rfl rfl (heap_ext e8 H5.out.2) (by kernel_rfl) (by kernel_rfl) (by kernel_rfl) ?_; intro w10 h10 g10))
  refine ⟨?_⟩
  have hE8 := H5.out.1.trans e8
  have hE10 : Ext W w10 := Below.grown hE8 g10 hE8.size (fun k hk => by cases hk; exact Nat.le_of_eq HB11.out.symm)
  obtain ⟨cr, ca, hls⟩ := (HQ.out.of g10.size (fun c hc hl => g10.block c hl (fun e => by cases e; omega))).lists
  rw [← HR.out]
  exact dfa_t27 w w10 m b4 b11 cr ca _ _ R _ _ _ _ _ _ _ _ _ _ _ _ _ _ _ _ _ _ _ _ _ _ _ _ _ _ _ _ _ _ _ _ _ _ _ _ _ _ _ _ _ _ _ _ _ _ _ _ _ _ _ _ _ _ _ _ _ _ _ _ _ _ _ _ _ _ _ _ _ _ _ _ _ _ _ _ _ _ _ _ _ _ _ _ _ _ _ _ _ _ _ _ _ _ _ _ _ _ _ _ _ _ _ _ _ _ _ _ _ _ _ _ _ hm (HW.out.1.trans hE10) ⟨HW.out.2.1.1, heap_ext hE10 HW.out.2.1.2⟩ h10 (fun D hD => ⟨raw_often (HR.out.symm.trans hD), (hls D hD).1, (hls D hD).2⟩)
set_option maxRecDepth 100000 in
set_option maxHeartbeats 16000000 in
theorem dfa_t10_none (w W : World) (m b2 b4 sy : Nat) (sv tv : Value) (D : DN) (c0 c3 c5 c7 c8 c9 c10 c11 c12 c13 c14 c15 c16 c17 c18 c19 c20 c21 c22 c23 c24 c25 c26 c27 c28 c29 c30 c31 c32 c33 c34 c35 c36 c37 c38 c39 c40 c41 c42 c43 c44 c45 c46 c47 c48 c49 c50 c51 c52 c53 c54 c55 c56 c57 c58 c59 c60 c61 c62 c63 c64 c65 c66 c67 c68 c69 c70 c71 c72 c73 c74 c75 c76 c77 c78 c79 c80 c81 c82 c83 c84 c85 c86 c87 c88 c89 c90 c91 c92 c93 c94 c95 c96 c97 c98 c99 c100 c101 c102 c103 c104 c105 c106 c107 c108 c109 c110 c111 c112 c113 c114 c115 c116 : Value) (hm : m ≤ 16) (hE : Ext w W) (hb4 : w.heap.size ≤ b4 ∧ W.heap[b4]? = some zDfa)
    (hB2 : W.heap[b2]? = some (.cells #[.int .u8 0, .int .i64 (sy : Int), sv] 35 (0, 0))) (hD : leafD 0 sy m = some D) :
    Code.wp Tryd.prog (T41 10) (bodyPost Tryd.prog Tryd.f41 (MinP m (minD D) w)) ⟨(c0 :: .int .i64 (m : Int) :: .pointer (some ⟨b2, 0, none⟩) :: c3 :: .pointer (some ⟨b4, 0, none⟩) :: c5 :: tv :: c7 :: c8 :: c9 :: c10 :: c11 :: c12 :: c13 :: c14 :: c15 :: c16 :: c17 :: c18 :: c19 :: c20 :: c21 :: c22 :: c23 :: c24 :: c25 :: c26 :: c27 :: c28 :: c29 :: c30 :: c31 :: c32 :: c33 :: c34 :: c35 :: c36 :: c37 :: c38 :: c39 :: c40 :: c41 :: c42 :: c43 :: c44 :: c45 :: c46 :: c47 :: c48 :: c49 :: c50 :: c51 :: c52 :: c53 :: c54 :: c55 :: c56 :: c57 :: c58 :: c59 :: c60 :: c61 :: c62 :: c63 :: c64 :: c65 :: c66 :: c67 :: c68 :: c69 :: c70 :: c71 :: c72 :: c73 :: c74 :: c75 :: c76 :: c77 :: c78 :: c79 :: c80 :: c81 :: c82 :: c83 :: c84 :: c85 :: c86 :: c87 :: c88 :: c89 :: c90 :: c91 :: c92 :: c93 :: c94 :: c95 :: c96 :: c97 :: c98 :: c99 :: c100 :: c101 :: c102 :: c103 :: c104 :: c105 :: c106 :: c107 :: c108 :: c109 :: c110 :: c111 :: c112 :: c113 :: c114 :: c115 :: c116 :: []).toArray, []⟩ W := by
  conv => arg 2; whnf
  have HW := Lib.hid (And.intro hE (And.intro hb4 hD))
  have k0 := fun w' (e : Ext W w') => e.cell (cell_of_blk hB2 0 (u := .int .u8 0) rfl)
  have k1 := fun w' (e : Ext W w') => e.cell (cell_of_blk hB2 1 (u := .int .i64 (sy : Int)) rfl)
  have k2 := fun w' (e : Ext W w') => e.cell (cell_of_blk hB2 2 (u := sv) rfl)
  have hB2e := fun w' (e : Ext W w') => heap_ext e hB2
  clear hE hb4 hD hB2
  go_upto_region 11 with (with_reducible refine wpList_store_blk _ rfl 109 _ _ rfl W.heap.size 109 #[.slice none 0 0, .slice none 0 0] _ rfl rfl (heap_alloc_new _ _) (by kernel_rfl) (by kernel_rfl) (by kernel_rfl) ?_; intro w5 h5 g5)
  obtain ⟨b11, hb11⟩ : ∃ b, b = W.heap.size := ⟨_, rfl⟩
  have hE5 : Ext W w5 := Below.grown (alloc_ext _ _) g5 (alloc_ext W _).size (fun k hk => by cases hk; exact Nat.le_refl _)
  rw [← hb11] at h5 ⊢
  have HB11 := Lib.hid hb11
  have H5 := Lib.hid (And.intro hE5 h5)
  clear g5 hb11
  have k0 := k0 w5 hE5
  have k1 := k1 w5 hE5
  have k2 := k2 w5 hE5
  have hst : Calls Tryd.prog 77 #[.agg #[.int .u8 0, .int .i64 (sy : Int), sv], .int .i64 (m : Int)] w5 (fun e w' => ∃ A c A' c', e = .returned (.agg #[.slice A D.rows.length c, .slice A' D.acc.length c']) ∧ Ext w5 w' ∧ ∀ w'' : World, (∀ b, w5.heap.size ≤ b → b < w'.heap.size → w''.heap[b]? = w'.heap[b]?) → ListsC w'' (.slice A D.rows.length c) (D.rows.map (·.map Int.ofNat)) c ∧ BoolsC w'' (.slice A' D.acc.length c') D.acc c') := leaf_any (W := w5) (sv := sv) (o := 0) hm HW.out.2.2
  have hB2 := hB2e w5 hE5
  clear hE5 h5 hB2e
  go_upto_region 999 with (first
    | (with_reducible refine stop_at2 27 ?_)
    | (with_reducible refine wpList_load_row rfl 35 _ rfl b2 rfl 35 _ (0, 0) _ hB2 Tryd.underlying35 rfl (by kernel_rfl) ?_)
    | ((with_reducible refine hst.mono ?_); rintro e W8 ⟨A, c, A', c', rfl, e8, hL⟩)
    | (with_reducible refine wpList_store_blk _ rfl 109 _ _ rfl b11 109 _ _ rfl rfl (heap_ext e8 H5.out.2) (by kernel_rfl) (by kernel_rfl) (by kernel_rfl) ?_; intro w10 h10 g10))
  refine ⟨?_⟩
  have hE8 := H5.out.1.trans e8
  have hE10 : Ext W w10 := Below.grown hE8 g10 hE8.size (fun k hk => by cases hk; exact Nat.le_of_eq HB11.out.symm)
  have hls := hL w10 (fun b hb hl => g10.block b hl (fun e => by cases e; have := (Array.getElem?_eq_some_iff.1 H5.out.2).1; omega))
  exact dfa_t27 w w10 m b4 b11 c c' _ _ (some D) _ _ _ _ _ _ _ _ _ _ _ _ _ _ _ _ _ _ _ _ _ _ _ _ _ _ _ _ _ _ _ _ _ _ _ _ _ _ _ _ _ _ _ _ _ _ _ _ _ _ _ _ _ _ _ _ _ _ _ _ _ _ _ _ _ _ _ _ _ _ _ _ _ _ _ _ _ _ _ _ _ _ _ _ _ _ _ _ _ _ _ _ _ _ _ _ _ _ _ _ _ _ _ _ _ _ _ _ _ _ _ _ _ hm (HW.out.1.trans hE10) ⟨HW.out.2.1.1, heap_ext hE10 HW.out.2.1.2⟩ h10 (fun D' hD' => by cases hD'; exact ⟨raw_leaf HW.out.2.2, hls.1, hls.2⟩)
set_option maxRecDepth 100000 in
set_option maxHeartbeats 16000000 in
theorem dfa_t10_empty (w W : World) (m b2 b4 sy : Nat) (sv tv : Value) (D : DN) (c0 c3 c5 c7 c8 c9 c10 c11 c12 c13 c14 c15 c16 c17 c18 c19 c20 c21 c22 c23 c24 c25 c26 c27 c28 c29 c30 c31 c32 c33 c34 c35 c36 c37 c38 c39 c40 c41 c42 c43 c44 c45 c46 c47 c48 c49 c50 c51 c52 c53 c54 c55 c56 c57 c58 c59 c60 c61 c62 c63 c64 c65 c66 c67 c68 c69 c70 c71 c72 c73 c74 c75 c76 c77 c78 c79 c80 c81 c82 c83 c84 c85 c86 c87 c88 c89 c90 c91 c92 c93 c94 c95 c96 c97 c98 c99 c100 c101 c102 c103 c104 c105 c106 c107 c108 c109 c110 c111 c112 c113 c114 c115 c116 : Value) (hm : m ≤ 16) (hE : Ext w W) (hb4 : w.heap.size ≤ b4 ∧ W.heap[b4]? = some zDfa)
    (hB2 : W.heap[b2]? = some (.cells #[.int .u8 1, .int .i64 (sy : Int), sv] 35 (0, 0))) (hD : leafD 1 sy m = some D) :
    Code.wp Tryd.prog (T41 10) (bodyPost Tryd.prog Tryd.f41 (MinP m (minD D) w)) ⟨(c0 :: .int .i64 (m : Int) :: .pointer (some ⟨b2, 0, none⟩) :: c3 :: .pointer (some ⟨b4, 0, none⟩) :: c5 :: tv :: c7 :: c8 :: c9 :: c10 :: c11 :: c12 :: c13 :: c14 :: c15 :: c16 :: c17 :: c18 :: c19 :: c20 :: c21 :: c22 :: c23 :: c24 :: c25 :: c26 :: c27 :: c28 :: c29 :: c30 :: c31 :: c32 :: c33 :: c34 :: c35 :: c36 :: c37 :: c38 :: c39 :: c40 :: c41 :: c42 :: c43 :: c44 :: c45 :: c46 :: c47 :: c48 :: c49 :: c50 :: c51 :: c52 :: c53 :: c54 :: c55 :: c56 :: c57 :: c58 :: c59 :: c60 :: c61 :: c62 :: c63 :: c64 :: c65 :: c66 :: c67 :: c68 :: c69 :: c70 :: c71 :: c72 :: c73 :: c74 :: c75 :: c76 :: c77 :: c78 :: c79 :: c80 :: c81 :: c82 :: c83 :: c84 :: c85 :: c86 :: c87 :: c88 :: c89 :: c90 :: c91 :: c92 :: c93 :: c94 :: c95 :: c96 :: c97 :: c98 :: c99 :: c100 :: c101 :: c102 :: c103 :: c104 :: c105 :: c106 :: c107 :: c108 :: c109 :: c110 :: c111 :: c112 :: c113 :: c114 :: c115 :: c116 :: []).toArray, []⟩ W := by
  conv => arg 2; whnf
  have HW := Lib.hid (And.intro hE (And.intro hb4 hD))
  have k0 := fun w' (e : Ext W w') => e.cell (cell_of_blk hB2 0 (u := .int .u8 1) rfl)
  have k1 := fun w' (e : Ext W w') => e.cell (cell_of_blk hB2 1 (u := .int .i64 (sy : Int)) rfl)
  have k2 := fun w' (e : Ext W w') => e.cell (cell_of_blk hB2 2 (u := sv) rfl)
  have hB2e := fun w' (e : Ext W w') => heap_ext e hB2
  clear hE hb4 hD hB2
  go_upto_region 11 with (with_reducible refine wpList_store_blk _ rfl 109 _ _ rfl W.heap.size 109 #[.slice none 0 0, .slice none 0 0] _ rfl rfl (heap_alloc_new _ _) (by kernel_rfl) (by kernel_rfl) (by kernel_rfl) ?_; intro w5 h5 g5)
  obtain ⟨b11, hb11⟩ : ∃ b, b = W.heap.size := ⟨_, rfl⟩
  have hE5 : Ext W w5 := Below.grown (alloc_ext _ _) g5 (alloc_ext W _).size (fun k hk => by cases hk; exact Nat.le_refl _)
  rw [← hb11] at h5 ⊢
  have HB11 := Lib.hid hb11
  have H5 := Lib.hid (And.intro hE5 h5)
  clear g5 hb11
  have k0 := k0 w5 hE5
  have k1 := k1 w5 hE5
  have k2 := k2 w5 hE5
  have hst : Calls Tryd.prog 77 #[.agg #[.int .u8 1, .int .i64 (sy : Int), sv], .int .i64 (m : Int)] w5 (fun e w' => ∃ A c A' c', e = .returned (.agg #[.slice A D.rows.length c, .slice A' D.acc.length c']) ∧ Ext w5 w' ∧ ∀ w'' : World, (∀ b, w5.heap.size ≤ b → b < w'.heap.size → w''.heap[b]? = w'.heap[b]?) → ListsC w'' (.slice A D.rows.length c) (D.rows.map (·.map Int.ofNat)) c ∧ BoolsC w'' (.slice A' D.acc.length c') D.acc c') := leaf_any (W := w5) (sv := sv) (o := 1) hm HW.out.2.2
  have hB2 := hB2e w5 hE5
  clear hE5 h5 hB2e
  go_upto_region 999 with (first
    | (with_reducible refine stop_at2 27 ?_)
    | (with_reducible refine wpList_load_row rfl 35 _ rfl b2 rfl 35 _ (0, 0) _ hB2 Tryd.underlying35 rfl (by kernel_rfl) ?_)
    | ((with_reducible refine hst.mono ?_); rintro e W8 ⟨A, c, A', c', rfl, e8, hL⟩)
    | (with_reducible refine wpList_store_blk _ rfl 109 _ _ rfl b11 109 _ _ rfl rfl (heap_ext e8 H5.out.2) (by kernel_rfl) (by kernel_rfl) (by kernel_rfl) ?_; intro w10 h10 g10))
  refine ⟨?_⟩
  have hE8 := H5.out.1.trans e8
  have hE10 : Ext W w10 := Below.grown hE8 g10 hE8.size (fun k hk => by cases hk; exact Nat.le_of_eq HB11.out.symm)
  have hls := hL w10 (fun b hb hl => g10.block b hl (fun e => by cases e; have := (Array.getElem?_eq_some_iff.1 H5.out.2).1; omega))
  exact dfa_t27 w w10 m b4 b11 c c' _ _ (some D) _ _ _ _ _ _ _ _ _ _ _ _ _ _ _ _ _ _ _ _ _ _ _ _ _ _ _ _ _ _ _ _ _ _ _ _ _ _ _ _ _ _ _ _ _ _ _ _ _ _ _ _ _ _ _ _ _ _ _ _ _ _ _ _ _ _ _ _ _ _ _ _ _ _ _ _ _ _ _ _ _ _ _ _ _ _ _ _ _ _ _ _ _ _ _ _ _ _ _ _ _ _ _ _ _ _ _ _ _ _ _ _ _ hm (HW.out.1.trans hE10) ⟨HW.out.2.1.1, heap_ext hE10 HW.out.2.1.2⟩ h10 (fun D' hD' => by cases hD'; exact ⟨raw_leaf HW.out.2.2, hls.1, hls.2⟩)
set_option maxRecDepth 100000 in
set_option maxHeartbeats 16000000 in
theorem dfa_t10_sym (w W : World) (m b2 b4 sy : Nat) (sv tv : Value) (D : DN) (c0 c3 c5 c7 c8 c9 c10 c11 c12 c13 c14 c15 c16 c17 c18 c19 c20 c21 c22 c23 c24 c25 c26 c27 c28 c29 c30 c31 c32 c33 c34 c35 c36 c37 c38 c39 c40 c41 c42 c43 c44 c45 c46 c47 c48 c49 c50 c51 c52 c53 c54 c55 c56 c57 c58 c59 c60 c61 c62 c63 c64 c65 c66 c67 c68 c69 c70 c71 c72 c73 c74 c75 c76 c77 c78 c79 c80 c81 c82 c83 c84 c85 c86 c87 c88 c89 c90 c91 c92 c93 c94 c95 c96 c97 c98 c99 c100 c101 c102 c103 c104 c105 c106 c107 c108 c109 c110 c111 c112 c113 c114 c115 c116 : Value) (hm : m ≤ 16) (hE : Ext w W) (hb4 : w.heap.size ≤ b4 ∧ W.heap[b4]? = some zDfa)
    (hB2 : W.heap[b2]? = some (.cells #[.int .u8 2, .int .i64 (sy : Int), sv] 35 (0, 0))) (hD : leafD 2 sy m = some D) :
    Code.wp Tryd.prog (T41 10) (bodyPost Tryd.prog Tryd.f41 (MinP m (minD D) w)) ⟨(c0 :: .int .i64 (m : Int) :: .pointer (some ⟨b2, 0, none⟩) :: c3 :: .pointer (some ⟨b4, 0, none⟩) :: c5 :: tv :: c7 :: c8 :: c9 :: c10 :: c11 :: c12 :: c13 :: c14 :: c15 :: c16 :: c17 :: c18 :: c19 :: c20 :: c21 :: c22 :: c23 :: c24 :: c25 :: c26 :: c27 :: c28 :: c29 :: c30 :: c31 :: c32 :: c33 :: c34 :: c35 :: c36 :: c37 :: c38 :: c39 :: c40 :: c41 :: c42 :: c43 :: c44 :: c45 :: c46 :: c47 :: c48 :: c49 :: c50 :: c51 :: c52 :: c53 :: c54 :: c55 :: c56 :: c57 :: c58 :: c59 :: c60 :: c61 :: c62 :: c63 :: c64 :: c65 :: c66 :: c67 :: c68 :: c69 :: c70 :: c71 :: c72 :: c73 :: c74 :: c75 :: c76 :: c77 :: c78 :: c79 :: c80 :: c81 :: c82 :: c83 :: c84 :: c85 :: c86 :: c87 :: c88 :: c89 :: c90 :: c91 :: c92 :: c93 :: c94 :: c95 :: c96 :: c97 :: c98 :: c99 :: c100 :: c101 :: c102 :: c103 :: c104 :: c105 :: c106 :: c107 :: c108 :: c109 :: c110 :: c111 :: c112 :: c113 :: c114 :: c115 :: c116 :: []).toArray, []⟩ W := by
  conv => arg 2; whnf
  have HW := Lib.hid (And.intro hE (And.intro hb4 hD))
  have k0 := fun w' (e : Ext W w') => e.cell (cell_of_blk hB2 0 (u := .int .u8 2) rfl)
  have k1 := fun w' (e : Ext W w') => e.cell (cell_of_blk hB2 1 (u := .int .i64 (sy : Int)) rfl)
  have k2 := fun w' (e : Ext W w') => e.cell (cell_of_blk hB2 2 (u := sv) rfl)
  have hB2e := fun w' (e : Ext W w') => heap_ext e hB2
  clear hE hb4 hD hB2
  go_upto_region 11 with (with_reducible refine wpList_store_blk _ rfl 109 _ _ rfl W.heap.size 109 #[.slice none 0 0, .slice none 0 0] _ rfl rfl (heap_alloc_new _ _) (by kernel_rfl) (by kernel_rfl) (by kernel_rfl) ?_; intro w5 h5 g5)
  obtain ⟨b11, hb11⟩ : ∃ b, b = W.heap.size := ⟨_, rfl⟩
  have hE5 : Ext W w5 := Below.grown (alloc_ext _ _) g5 (alloc_ext W _).size (fun k hk => by cases hk; exact Nat.le_refl _)
  rw [← hb11] at h5 ⊢
  have HB11 := Lib.hid hb11
  have H5 := Lib.hid (And.intro hE5 h5)
  clear g5 hb11
  have k0 := k0 w5 hE5
  have k1 := k1 w5 hE5
  have k2 := k2 w5 hE5
  have hst : Calls Tryd.prog 77 #[.agg #[.int .u8 2, .int .i64 (sy : Int), sv], .int .i64 (m : Int)] w5 (fun e w' => ∃ A c A' c', e = .returned (.agg #[.slice A D.rows.length c, .slice A' D.acc.length c']) ∧ Ext w5 w' ∧ ∀ w'' : World, (∀ b, w5.heap.size ≤ b → b < w'.heap.size → w''.heap[b]? = w'.heap[b]?) → ListsC w'' (.slice A D.rows.length c) (D.rows.map (·.map Int.ofNat)) c ∧ BoolsC w'' (.slice A' D.acc.length c') D.acc c') := leaf_any (W := w5) (sv := sv) (o := 2) hm HW.out.2.2
  have hB2 := hB2e w5 hE5
  clear hE5 h5 hB2e
  go_upto_region 999 with (first
    | (with_reducible refine stop_at2 27 ?_)
    | (with_reducible refine wpList_load_row rfl 35 _ rfl b2 rfl 35 _ (0, 0) _ hB2 Tryd.underlying35 rfl (by kernel_rfl) ?_)
    | ((with_reducible refine hst.mono ?_); rintro e W8 ⟨A, c, A', c', rfl, e8, hL⟩)
    | (with_reducible refine wpList_store_blk _ rfl 109 _ _ rfl b11 109 _ _ rfl rfl (heap_ext e8 H5.out.2) (by kernel_rfl) (by kernel_rfl) (by kernel_rfl) ?_; intro w10 h10 g10))
  refine ⟨?_⟩
  have hE8 := H5.out.1.trans e8
  have hE10 : Ext W w10 := Below.grown hE8 g10 hE8.size (fun k hk => by cases hk; exact Nat.le_of_eq HB11.out.symm)
  have hls := hL w10 (fun b hb hl => g10.block b hl (fun e => by cases e; have := (Array.getElem?_eq_some_iff.1 H5.out.2).1; omega))
  exact dfa_t27 w w10 m b4 b11 c c' _ _ (some D) _ _ _ _ _ _ _ _ _ _ _ _ _ _ _ _ _ _ _ _ _ _ _ _ _ _ _ _ _ _ _ _ _ _ _ _ _ _ _ _ _ _ _ _ _ _ _ _ _ _ _ _ _ _ _ _ _ _ _ _ _ _ _ _ _ _ _ _ _ _ _ _ _ _ _ _ _ _ _ _ _ _ _ _ _ _ _ _ _ _ _ _ _ _ _ _ _ _ _ _ _ _ _ _ _ _ _ _ _ _ _ _ _ hm (HW.out.1.trans hE10) ⟨HW.out.2.1.1, heap_ext hE10 HW.out.2.1.2⟩ h10 (fun D' hD' => by cases hD'; exact ⟨raw_leaf HW.out.2.2, hls.1, hls.2⟩)
end Go.Proofs.YtmebgomnmlbgnaaDoor

namespace Go.Proofs.YtmebgomnmlbgnaaDoor
open Go.RowKit Go.Maps
set_option linter.unusedVariables false
set_option linter.unusedSimpArgs false
attribute [local go_sem] Oper.quietV quietV Oper.gives givesV ext_refl_iff ext_alloc_iff ext_drew_iff ext_drewN_iff
def flipI (l : List Bool) (i : Nat) : List Bool := (l.take i).map (!·) ++ l.drop i
theorem flipI_set {l : List Bool} {i : Nat} (h : i < l.length) : (flipI l i).set i (!(l.getD i false)) = flipI l (i + 1) := by
  unfold flipI
  have hl : ((l.take i).map (!·)).length = i := by simp; omega
  have hd : l.drop i = l[i] :: l.drop (i + 1) := List.drop_eq_getElem_cons h
  have hg : l.getD i false = l[i] := by simp [List.getD, List.getElem?_eq_getElem h]
  rw [List.set_append_right _ _ (by omega), hl, Nat.sub_self, hd, List.set_cons_zero, List.take_succ_eq_append_getElem h, List.map_append, List.append_assoc, hg]
  rfl
theorem flipI_at {l : List Bool} {i : Nat} (h : i < l.length) : (flipI l i)[i]? = some (l.getD i false) := by
  unfold flipI
  have hl : ((l.take i).map (!·)).length = i := by simp; omega
  rw [List.getElem?_append_right (by omega), hl, Nat.sub_self, List.getElem?_drop, Nat.add_zero]
  simp [List.getD, List.getElem?_eq_getElem h]
theorem flipI_len {l : List Bool} {i : Nat} (h : i ≤ l.length) : (flipI l i).length = l.length := by unfold flipI; simp; omega
theorem flipI_all (l : List Bool) : flipI l l.length = l.map (!·) := by unfold flipI; simp
theorem take_set {cs : Array Value} {n i : Nat} {v : Value} {xs : List Value} (h : cs.toList.take n = xs) (hi : i < n) (hx : xs.length = n) : (cs.setIfInBounds i v).toList.take n = xs.set i v := by
  rw [Array.toList_setIfInBounds, List.take_set, h]
set_option maxRecDepth 100000 in
set_option maxHeartbeats 16000000 in
theorem dfa_t10_not (w W : World) (m b2 b4 gl cl : Nat) (n0 : Int) (sv : Value) (r1 : DR) (c0 c3 c5 c7 c8 c9 c10 c11 c12 c13 c14 c15 c16 c17 c18 c19 c20 c21 c22 c23 c24 c25 c26 c27 c28 c29 c30 c31 c32 c33 c34 c35 c36 c37 c38 c39 c40 c41 c42 c43 c44 c45 c46 c47 c48 c49 c50 c51 c52 c53 c54 c55 c56 c57 c58 c59 c60 c61 c62 c63 c64 c65 c66 c67 c68 c69 c70 c71 c72 c73 c74 c75 c76 c77 c78 c79 c80 c81 c82 c83 c84 c85 c86 c87 c88 c89 c90 c91 c92 c93 c94 c95 c96 c97 c98 c99 c100 c101 c102 c103 c104 c105 c106 c107 c108 c109 c110 c111 c112 c113 c114 c115 c116 : Value) (hm : m ≤ 16) (hO : OwnL w W [.row 28 3 (.slice (some ⟨gl, 0, none⟩) 1 cl) 1 (dCells m r1), dAny r1, dBlk r1, .blk b4 zDfa])
    (hB2 : W.heap[b2]? = some (.cells #[.int .u8 7, .int .i64 n0, sv] 35 (0, 0))) (f1 : r1.fine) (k1 : r1.D.ok m) :
    Code.wp Tryd.prog (T41 10) (bodyPost Tryd.prog Tryd.f41 (MinP m (some ⟨r1.D.rows, r1.D.acc.map (!·)⟩) w)) ⟨(c0 :: .int .i64 (m : Int) :: .pointer (some ⟨b2, 0, none⟩) :: c3 :: .pointer (some ⟨b4, 0, none⟩) :: c5 :: .slice (some ⟨gl, 0, none⟩) 1 cl :: c7 :: c8 :: c9 :: c10 :: c11 :: c12 :: c13 :: c14 :: c15 :: c16 :: c17 :: c18 :: c19 :: c20 :: c21 :: c22 :: c23 :: c24 :: c25 :: c26 :: c27 :: c28 :: c29 :: c30 :: c31 :: c32 :: c33 :: c34 :: c35 :: c36 :: c37 :: c38 :: c39 :: c40 :: c41 :: c42 :: c43 :: c44 :: c45 :: c46 :: c47 :: c48 :: c49 :: c50 :: c51 :: c52 :: c53 :: c54 :: c55 :: c56 :: c57 :: c58 :: c59 :: c60 :: c61 :: c62 :: c63 :: c64 :: c65 :: c66 :: c67 :: c68 :: c69 :: c70 :: c71 :: c72 :: c73 :: c74 :: c75 :: c76 :: c77 :: c78 :: c79 :: c80 :: c81 :: c82 :: c83 :: c84 :: c85 :: c86 :: c87 :: c88 :: c89 :: c90 :: c91 :: c92 :: c93 :: c94 :: c95 :: c96 :: c97 :: c98 :: c99 :: c100 :: c101 :: c102 :: c103 :: c104 :: c105 :: c106 :: c107 :: c108 :: c109 :: c110 :: c111 :: c112 :: c113 :: c114 :: c115 :: c116 :: []).toArray, []⟩ W := by
  conv => arg 2; whnf
  obtain ⟨A, g, cs, S, D⟩ := r1
  obtain ⟨f1, f2⟩ := f1
  have f1 : cs.toList.take D.acc.length = D.acc.map .bool := f1
  have f2 : D.acc.length ≤ 256 := f2
  have hO : OwnL w W [.row 28 3 (.slice (some ⟨gl, 0, none⟩) 1 cl) 1 [.int .i64 (m : Int), .slice A D.rows.length D.rows.length, .slice (some ⟨g, 0, none⟩) D.acc.length D.acc.length], dAny ⟨A, g, cs, S, D⟩, .blk g (.cells cs 4), .blk b4 zDfa] := hO
  have k0 := cell_of_blk hB2 0 (u := .int .u8 7) rfl
  have K0 := Lib.hid k0
  have HO0 : Hid (∃ cs', cs'.toList.take D.acc.length = (flipI D.acc 0).map .bool ∧ OwnL w W [.row 28 3 (.slice (some ⟨gl, 0, none⟩) 1 cl) 1 [.int .i64 (m : Int), .slice A D.rows.length D.rows.length, .slice (some ⟨g, 0, none⟩) D.acc.length D.acc.length], dAny ⟨A, g, cs, S, D⟩, .blk g (.cells cs' 4), .blk b4 zDfa]) := Lib.hid ⟨cs, by rw [f1]; simp [flipI], hO⟩
  have hE0 := Lib.hid hO.ext
  clear hO hB2 k0 f1 k1
  go_upto_region 11 with (with_reducible refine wpList_store_blk _ rfl 109 _ _ rfl W.heap.size 109 #[.slice none 0 0, .slice none 0 0] _ rfl rfl (heap_alloc_new _ _) (by kernel_rfl) (by kernel_rfl) (by kernel_rfl) ?_; intro w5 h5 g5)
  have hE5 : Ext W w5 := Below.grown (alloc_ext _ _) g5 (alloc_ext W _).size (fun k hk => by cases hk; exact Nat.le_refl _)
  obtain ⟨b11, hb11⟩ : ∃ b, b = W.heap.size := ⟨_, rfl⟩
  rw [← hb11] at ⊢
  have k0 := hE5.cell K0.out
  have HO5 : Hid (∃ cs', cs'.toList.take D.acc.length = (flipI D.acc 0).map .bool ∧ OwnL w w5 [.row 28 3 (.slice (some ⟨gl, 0, none⟩) 1 cl) 1 [.int .i64 (m : Int), .slice A D.rows.length D.rows.length, .slice (some ⟨g, 0, none⟩) D.acc.length D.acc.length], dAny ⟨A, g, cs, S, D⟩, .blk g (.cells cs' 4), .blk b4 zDfa]) := Lib.hid (by
    obtain ⟨cs', h1, h2⟩ := HO0.out
    exact ⟨cs', h1, h2.trans hE5⟩)
  have q2 : w5.cell? ⟨gl, 2, none⟩ = some (.slice (some ⟨g, 0, none⟩) D.acc.length D.acc.length) := by
    obtain ⟨cs', h1, h2⟩ := HO5.out
    exact cell_at_own (show w5.ownsRow w.heap.size 28 3 (.slice (some ⟨gl, 0, none⟩) 1 cl) 1 _ from h2.get 0 rfl) (j := 2) rfl
  clear g5 h5 hE5 hb11 HO0
  go_upto_region 22 with fail
  clear k0 q2
  go_wp2
  go_loopw [88] (fun iv wr => ∃ i : Nat, iv = .int .i64 i ∧ i ≤ D.acc.length ∧ Hid (∃ cs', cs'.toList.take D.acc.length = (flipI D.acc i).map .bool ∧ OwnL w wr [.row 28 3 (.slice (some ⟨gl, 0, none⟩) 1 cl) 1 [.int .i64 (m : Int), .slice A D.rows.length D.rows.length, .slice (some ⟨g, 0, none⟩) D.acc.length D.acc.length], dAny ⟨A, g, cs, S, D⟩, .blk g (.cells cs' 4), .blk b4 zDfa])) (fun iv _ => D.acc.length - (intOf iv).toNat)
  case atStart => exact ⟨0, rfl, Nat.zero_le _, HO5⟩
  case round =>
    clear HO5
    obtain ⟨i, rfl, hi, HO⟩ := hrel
    obtain ⟨W6, hW6⟩ : ∃ W, W = wr := ⟨_, rfl⟩; subst hW6
    obtain ⟨cs', hcs, hO⟩ := HO.out
    by_cases hlt : i < D.acc.length
    · have hltI : (i : Int) < (D.acc.length : Int) := by omega
      have q2 := fun w' (e : Ext W6 w') => e.cell (cell_at_own (show W6.ownsRow w.heap.size 28 3 (.slice (some ⟨gl, 0, none⟩) 1 cl) 1 _ from hO.get 0 rfl) (j := 2) (u := .slice (some ⟨g, 0, none⟩) D.acc.length D.acc.length) rfl)
      have hci : cs'[i]? = some (.bool (D.acc.getD i false)) := by
        have h1 : (cs'.toList.take D.acc.length)[i]? = some (.bool (D.acc.getD i false)) := by rw [hcs, List.getElem?_map, flipI_at hlt]; rfl
        rw [List.getElem?_take_of_lt hlt] at h1
        simpa using h1
      have q3 := fun w' (e : Ext W6 w') => e.cell (cell_of_blk (hO.blkAt 2 rfl) i hci)
      have HC := Lib.hid (And.intro hcs (And.intro hci hO))
      clear hcs hci hO HO
      have hset := flipI_set hlt
      cases hb : D.acc.getD i false <;> rw [hb] at q3 hset
      all_goals
        have HS := Lib.hid hset
        clear hset hb
        go_upto_region 24 with fail
        refine wp_region_ext 13 (factsOf []) (fun k => ([[], [0], [0, 1], [0, 1, 2], [], [], [5], [5, 6], [5, 6, 7], [], [5, 6, 7, 8, 9], [5, 6, 7, 8, 9, 10], [5, 6, 7, 8, 9, 10, 11], [0, 1, 2, 3, 4, 5, 6, 7, 8, 9, 10, 11, 12], [0, 1, 2, 3, 4, 5, 6, 7, 8, 9, 10, 11, 12, 13]] : List (List Nat)).getD k []) (by kernel_rfl) (by kernel_rfl) Ext.pre (mono_nil) ?_
        simp only [List.take_succ_cons, List.take_zero]
        repeat (first | (with_reducible refine lexL_quiet' (v := ?_) ?_ ?_ ?_ ?_; rotate_left; (· with_reducible rfl); (· simp [factsOf]); (· intro w1 hw1 _; go_simp; with_reducible rfl); (try simp only [Act.put, List.setIfInBounds_toArray, List.set_cons_zero, List.set_cons_succ])) | (with_reducible refine lexL_skip ?_ ?_; (· simp [Region.wanted, yielded, undef]); (try simp only [Act.put, List.setIfInBounds_toArray, List.set_cons_zero, List.set_cons_succ])) | (with_reducible refine lexL_quiet (v := ?_) ?_ ?_ ?_ ?_; rotate_left; (· simp [Region.wanted, yielded, undef]); (· simp [factsOf]); (· intro w1 hw1 _; go_simp; with_reducible rfl); (try simp only [Act.put, List.setIfInBounds_toArray, List.set_cons_zero, List.set_cons_succ])))
        with_reducible refine lexL_nil ?_; intro w1 hw1 hk1; simp only [List.drop_succ_cons, List.drop_zero]
        have hO1 := HC.out.2.2.trans hw1
        have q4 := q3 w1 hw1
        have f4 := free_of_blk (hO1.blkAt 2 rfl) i
        have hp := fun v => hO1.put 2 rfl i v
        have HP := Lib.hid hp
        clear hO1 hp q2 q3 hw1
        go_wp2
        go_roundw
        case rel => exact ⟨i + 1, by go_num, by omega, Lib.hid ⟨_, by rw [take_set HC.out.1 hlt (by rw [List.length_map]; exact flipI_len hi), ← List.map_set]; exact congrArg (List.map Value.bool) HS.out, HP.out _⟩⟩
        case measure => simp [intOf]; omega
    · have hie : i = D.acc.length := by omega
      subst hie
      have hltI : ¬ (D.acc.length : Int) < (D.acc.length : Int) := by omega
      rw [flipI_all] at hcs
      have hrow : W6.ownsRow w.heap.size 28 3 (.slice (some ⟨gl, 0, none⟩) 1 cl) 1 [.int .i64 (m : Int), .slice A D.rows.length D.rows.length, .slice (some ⟨g, 0, none⟩) D.acc.length D.acc.length] := hO.get 0 rfl
      have hrg := own_range (ys := [.int .i64 (m : Int), .slice A D.rows.length D.rows.length, .slice (some ⟨g, 0, none⟩) D.acc.length D.acc.length]) (pre := []) (post := []) (i := 0) hrow (by simp) rfl
      have hb4 := hO.blkAt 3 rfl
      have HO := Lib.hid (And.intro hcs hO)
      clear hcs hO hrow
      go_wp2_with (first
        | (with_reducible refine wpList_load_mid rfl 28 _ rfl gl 0 rfl _ _ hrg Tryd.underlying28 rfl (by kernel_rfl) ?_)
        | (with_reducible refine wpList_store_blk _ rfl 28 _ _ rfl b4 28 #[.int .i64 (m : Int), .slice A D.rows.length D.rows.length, .slice (some ⟨g, 0, none⟩) D.acc.length D.acc.length] _ rfl rfl hb4 (by kernel_rfl) (by kernel_rfl) (by kernel_rfl) ?_; intro w10 h10 g10))
      refine bodyPost_ret (results_ct2 rfl _ _ b4 28 _ (0, 0) _ (by simp [Act.put]) h10 Tryd.underlying28 rfl (by kernel_rfl)) rfl ?_
      have hO := HO.out.2
      have hO2 := hO.step (A' := .blk b4 (.cells #[.int .i64 (m : Int), .slice A D.rows.length D.rows.length, .slice (some ⟨g, 0, none⟩) D.acc.length D.acc.length] 28)) 3 rfl g10 (fun c hc => by cases hc; rfl) ⟨(show w.heap.size ≤ b4 ∧ _ from hO.get 3 rfl).1, h10⟩ (fun c hc => .inl hc)
      have hO3 : OwnL w w10 [dAny ⟨A, g, cs, S, D⟩, .blk g (.cells cs' 4), .blk b4 (.cells #[.int .i64 (m : Int), .slice A D.rows.length D.rows.length, .slice (some ⟨g, 0, none⟩) D.acc.length D.acc.length] 28)] := hO2.drop
      have hl : (D.acc.map (!·)).length = D.acc.length := List.length_map _
      refine min_fin (D := ⟨D.rows, D.acc.map (!·)⟩) (S := S) (rv := .slice A D.rows.length D.rows.length) hO3.drop3 ?_ ?_
      · show cs'.toList.take (D.acc.map (!·)).length = _
        rw [hl]; exact HO.out.1
      · show _ = Ending.returned (.tuple #[.agg #[.int .i64 (m : Int), _, .slice (some ⟨g, 0, none⟩) (D.acc.map (!·)).length (D.acc.map (!·)).length], .int .i64 0])
        rw [hl]; simp [Act.put]
end Go.Proofs.YtmebgomnmlbgnaaDoor

namespace Go.Proofs.YtmebgomnmlbgnaaDoor
open Go.RowKit Go.Maps
set_option linter.unusedVariables false
set_option linter.unusedSimpArgs false
attribute [local go_sem] Oper.quietV quietV Oper.gives givesV ext_refl_iff ext_alloc_iff ext_drew_iff ext_drewN_iff
def subsX : Rx → List Rx
  | .none => [] | .empty => [] | .sym _ => [] | .or x y => [x, y] | .seq x y => [x, y] | .and x y => [x, y] | .star x => [x] | .not x => [x]
theorem subsX_tr (x : Rx) : x.tr.subs = (subsX x).map Rx.tr := by cases x <;> rfl
theorem subsX_lt {x y : Rx} (h : y ∈ subsX x) : SizeOf.sizeOf y < SizeOf.sizeOf x := by
  cases x <;> simp [subsX] at h
  all_goals first | (rcases h with rfl | rfl <;> simp <;> omega) | (subst h; simp)
theorem dfaR_sub_none {m : Nat} {x y : Rx} (h : y ∈ subsX x) (hn : dfaR m y = none) : dfaR m x = none := by
  cases x <;> simp [subsX] at h
  all_goals first
    | (rcases h with rfl | rfl <;> unfold dfaR <;> rw [hn] <;> first | rfl | (cases dfaR m _ <;> rfl))
    | (subst h; unfold dfaR; rw [hn]; rfl)
def dl (L : List DR) : List Asn := L.reverse.flatMap (fun r => [dAny r, dBlk r])
theorem dl_snoc (L : List DR) (r : DR) : dl (L ++ [r]) = [dAny r, dBlk r] ++ dl L := by simp [dl]
theorem own7 {w W : World} {r a c a' c' x y : Asn} (h : OwnL w W [r, a', c', a, c, x, y]) : OwnL w W [r, a, c, a', c', x] := by
  refine (h.perm (L' := [y, r, a, c, a', c', x]) ?_).drop
  refine (List.perm_middle (l₁ := [r, a', c', a, c, x])).trans (List.Perm.cons _ (List.Perm.cons _ ?_))
  exact List.Perm.append_right [x] (List.perm_append_comm (l₁ := [a', c']) (l₂ := [a, c]))
theorem own5 {w W : World} {r a c x y : Asn} (h : OwnL w W [r, a, c, x, y]) : OwnL w W [r, a, c, x] :=
  (h.perm (L' := [y, r, a, c, x]) (List.perm_middle (l₁ := [r, a, c, x]))).drop
theorem dfa_info : (Tryd.prog.info? 28).map (fun i => (i.zero, i.size, i.bytes)) = some (some (.agg #[.int .i64 0, .slice none 0 0, .slice none 0 0]), 3, 56) := by kernel_rfl
set_option maxRecDepth 100000 in
set_option maxHeartbeats 16000000 in
theorem dfa_step (x : Rx) (m : Nat) (hm : m ≤ 16) (ih : ∀ y ∈ subsX x, ∀ (w : World) (v : Value), NodeV w y.tr v → Calls Tryd.prog 41 #[v, .int .i64 (m : Int)] w (MinP m (dfaR m y) w)) (w : World) (v : Value) (hv : NodeV w x.tr v) :
    Calls Tryd.prog 41 #[v, .int .i64 (m : Int)] w (MinP m (dfaR m x) w) := by
  have IH := Lib.hid ih
  clear ih
  obtain ⟨hop, A, c, vs, rfl, hvl, hcs, hsub, hc1, hc2⟩ := hv.form
  have HV := Lib.hid (And.intro hvl (And.intro hcs hsub))
  have hsl : x.tr.subs.length = (subsX x).length := by rw [subsX_tr, List.length_map]
  have hs2 : (subsX x).length ≤ 2 := by cases x <;> simp [subsX]
  rw [hsl]
  have HSL := Lib.hid hsl
  clear hv hvl hcs hsub hc1 hc2 hop hsl
  obtain ⟨i28, hi28, hz28, hs28, hb28⟩ := info_parts dfa_info
  go_enter Tryd.func41, Tryd.ntmps41
  go_upto_region 2 with fail
  refine wp_named ?_
  intro W1 hW1
  obtain ⟨b2, hb2⟩ : ∃ b, b = w.heap.size := ⟨_, rfl⟩
  obtain ⟨b4, hb4⟩ : ∃ b, b = w.heap.size + 1 := ⟨_, rfl⟩
  obtain ⟨nodeO, hno⟩ : ∃ o : Obj, o = .cells #[.int .u8 (x.tr.op : Int), .int .i64 x.tr.n, .slice A (subsX x).length c] 35 := ⟨_, rfl⟩
  have hO1 : OwnL w W1 (.row 28 3 (.slice none 0 0) 0 (([] : List DR).flatMap (dCells m)) :: (dl [] ++ [.blk b4 zDfa, .blk b2 nodeO])) := by
    rw [hW1, hb2, hb4, hno]
    have h1 := (OwnL.nil (Ext.refl w)).add (alloc_ext w (.cells #[.int .u8 (x.tr.op : Int), .int .i64 x.tr.n, .slice A (subsX x).length c] 35)) (A := .blk w.heap.size _) ⟨Nat.le_refl _, heap_alloc_new w _⟩
    have h2 := h1.add (alloc_ext _ zDfa) (A := .blk (w.heap.size + 1) zDfa) ⟨by simp, by have := heap_alloc_new (w.alloc (.cells #[.int .u8 (x.tr.op : Int), .int .i64 x.tr.n, .slice A (subsX x).length c] 35)) zDfa; simpa using this⟩
    exact h2.add (Ext.refl _) (A := .row 28 3 (.slice none 0 0) 0 []) (World.ownsRow_nil _ _ _ _)
  have k2 : W1.cell? ⟨b2, 2, none⟩ = some (.slice A (subsX x).length c) := by
    have h := hO1.blkAt 2 rfl
    rw [hno] at h
    exact cell_of_blk h 2 rfl
  rw [← hb4, ← hb2]
  have HNO := Lib.hid (And.intro hno (And.intro hb2 hb4))
  have HO1 : Hid (∃ L : List DR, L.length = 0 ∧ (∀ r ∈ L, r.fine ∧ r.D.ok m) ∧ ((subsX x).take 0).map (dfaR m) = L.map (fun r => some r.D) ∧ OwnL w W1 (.row 28 3 (.slice none 0 0) 0 (L.flatMap (dCells m)) :: (dl L ++ [.blk b4 zDfa, .blk b2 nodeO]))) := Lib.hid ⟨[], rfl, by simp, rfl, hO1⟩
  clear hW1 hO1 hno hb2 hb4
  go_wp2
  clear k2
  go_loopw [6, 17] (fun tv iv wr => ∃ k : Nat, iv = .int .i64 k ∧ k ≤ (subsX x).length ∧ Hid (∃ L : List DR, L.length = k ∧ (∀ r ∈ L, r.fine ∧ r.D.ok m) ∧ ((subsX x).take k).map (dfaR m) = L.map (fun r => some r.D) ∧ OwnL w wr (.row 28 3 tv k (L.flatMap (dCells m)) :: (dl L ++ [.blk b4 zDfa, .blk b2 nodeO])))) (fun _ iv _ => (subsX x).length - (intOf iv).toNat)
  case atStart => exact ⟨0, rfl, Nat.zero_le _, HO1⟩
  case round =>
    clear HO1
    obtain ⟨k, rfl, hk, HO⟩ := hrel
    obtain ⟨W6, hW6⟩ : ∃ W, W = wr := ⟨_, rfl⟩; subst hW6
    obtain ⟨L, hLl, hLf, hLd, hO⟩ := HO.out
    by_cases hlt : k < (subsX x).length
    · have hltI : (k : Int) < ((subsX x).length : Int) := by omega
      obtain ⟨y, hy⟩ : ∃ y, (subsX x)[k]? = some y := ⟨_, List.getElem?_eq_getElem hlt⟩
      have hsy : x.tr.subs[k]? = some y.tr := by rw [subsX_tr, List.getElem?_map, hy]; rfl
      have hym := List.mem_of_getElem? hy
      obtain ⟨b, o, p, mm, q, hA, c0, c1, c2, hn⟩ := sub_at HV.out.1 HV.out.2.1 HV.out.2.2 hsy
      subst hA
      obtain ⟨_, Aq, cq, vq, hq, -⟩ := hn.form
      simp only [Value.agg.injEq, Array.mk.injEq, List.cons.injEq, and_true] at hq
      obtain ⟨_, _, rfl⟩ := hq
      have c0 := hO.ext.cell c0
      have c1 := hO.ext.cell c1
      have c2 := hO.ext.cell c2
      generalize y.tr.subs.length = lq at *
      have HL := Lib.hid (And.intro hLl (And.intro hLf (And.intro hLd (And.intro hO (And.intro hy (And.intro hym hn))))))
      clear hLl hLf hLd hO hy hsy hym hn HO
      go_upto_region 5 with fail
      refine wp_named ?_
      intro w7 hW7
      have hE7 : Ext W6 w7 := by rw [hW7]; exact alloc_ext _ _
      have h7 : w7.heap[W6.heap.size]? = some (.cells #[.int .u8 (y.tr.op : Int), .int .i64 y.tr.n, .slice Aq lq cq] 35 (0, 0)) := by rw [hW7]; exact heap_alloc_new _ _
      clear hW7
      have hst := IH.out y HL.out.2.2.2.2.2.1 w7 _ (HL.out.2.2.2.2.2.2.ext (HL.out.2.2.2.1.ext.trans hE7))
      obtain ⟨b8, hb8⟩ : ∃ b, b = W6.heap.size := ⟨_, rfl⟩
      rw [← hb8] at h7 ⊢
      have HE7 := Lib.hid hE7
      clear c0 c1 c2 hb8 hE7
      cases hr : dfaR m y with
      | none =>
        rw [hr] at hst
        have HN : Hid (dfaR m x = none) := Lib.hid (dfaR_sub_none HL.out.2.2.2.2.2.1 hr)
        have hst : Calls Tryd.prog 41 #[.agg #[.int .u8 (y.tr.op : Int), .int .i64 y.tr.n, .slice Aq lq cq], .int .i64 (m : Int)] w7 (fun e w' => e = .returned (.tuple #[.agg #[.int .i64 0, .slice none 0 0, .slice none 0 0], .int .i64 3]) ∧ Ext w7 w') := hst
        have hb4 := (show OwnL w W6 (_ :: (dl L ++ [.blk b4 zDfa, .blk b2 nodeO])) from HL.out.2.2.2.1).ok (.blk b4 zDfa) (by simp)
        have hb4 : w.heap.size ≤ b4 ∧ W6.heap[b4]? = some zDfa := hb4
        have HB4 := Lib.hid hb4
        clear hr hb4
        go_wp2_with (first
          | (with_reducible refine wpList_load_row rfl 35 _ rfl b8 rfl 35 _ (0, 0) _ h7 Tryd.underlying35 rfl (by kernel_rfl) ?_)
          | ((with_reducible refine hst.mono ?_); rintro e W8 ⟨rfl, e8⟩)
          | (with_reducible refine wpList_store_blk _ rfl 28 (.tmp 4) _ rfl b4 28 #[.int .i64 0, .slice none 0 0, .slice none 0 0] _ rfl rfl (heap_ext ((HE7.out.trans e8).trans (alloc_ext _ _)) HB4.out.2) (by kernel_rfl) (by kernel_rfl) (by kernel_rfl) ?_; intro w10 h10 g10))
        refine bodyPost_ret (results_ct2 rfl _ _ b4 28 _ (0, 0) _ (by simp [Act.put]) h10 Tryd.underlying28 rfl (by kernel_rfl)) rfl ?_
        rw [HN.out]
        have hE10 := HL.out.2.2.2.1.ext.trans ((HE7.out.trans e8).trans (alloc_ext W8 (.cells #[.int .i64 0, .slice none 0 0, .slice none 0 0] 28)))
        exact ⟨by simp [Act.put], Below.grown hE10 g10 hE10.size (fun k hk => by cases hk; exact HB4.out.1)⟩
      | some D =>
        rw [hr] at hst
        have hDok := dfaR_ok hr
        have hst : Calls Tryd.prog 41 #[.agg #[.int .u8 (y.tr.op : Int), .int .i64 y.tr.n, .slice Aq lq cq], .int .i64 (m : Int)] w7 (fun e w' => ∃ r : DR, r.D = D ∧ r.fine ∧ e = .returned (.tuple #[.agg #[.int .i64 (m : Int), .slice r.A r.D.rows.length r.D.rows.length, .slice (some ⟨r.g, 0, none⟩) r.D.acc.length r.D.acc.length], .int .i64 0]) ∧ OwnL w7 w' [dAny r, dBlk r]) := hst.mono (fun e w' h => min_dr hDok h)
        have HR := Lib.hid (And.intro hr hDok)
        clear hr hDok
        go_upto_region 6 with (first
          | (with_reducible refine wpList_load_row rfl 35 _ rfl b8 rfl 35 _ (0, 0) _ h7 Tryd.underlying35 rfl (by kernel_rfl) ?_)
          | ((with_reducible refine hst.mono ?_); rintro e W8 ⟨r, rfl, hrf, rfl, hO8⟩))
        refine wp_named ?_
        intro W9 hW9
        have hOJ : OwnL w W8 (.row 28 3 u6 k (L.flatMap (dCells m)) :: (dl (L ++ [r]) ++ [.blk b4 zDfa, .blk b2 nodeO])) := by
          rw [dl_snoc]
          exact (((HL.out.2.2.2.1.trans HE7.out).join hO8).perm (List.perm_middle (l₁ := [dAny r, dBlk r])))
        have e9 : Ext W8 W9 := by rw [hW9]; exact alloc_ext _ _
        have hO9 := hOJ.trans e9
        obtain ⟨b9, hb9⟩ : ∃ b, b = W8.heap.size := ⟨_, rfl⟩
        have h9 : W9.heap[b9]? = some (.cells #[.int .i64 (m : Int), .slice r.A r.D.rows.length r.D.rows.length, .slice (some ⟨r.g, 0, none⟩) r.D.acc.length r.D.acc.length] 28 (0, 0)) := by rw [hW9, hb9]; exact heap_alloc_new _ _
        rw [← hb9]
        have HO9 := Lib.hid (And.intro hO9 hrf)
        have hrow : W9.ownsRow w.heap.size 28 3 u6 k (L.flatMap (dCells m)) := hO9.get 0 rfl
        have hN9 := (hO9.ext.trans (alloc_ext W9 (.cells #[.int .i64 (m : Int), .slice r.A r.D.rows.length r.D.rows.length, .slice (some ⟨r.g, 0, none⟩) r.D.acc.length r.D.acc.length] 28))).size
        have hone : ∀ u ∈ dCells m r, u.oneCell' = true := by intro u hu; simp [dCells, DR.rv, DR.av] at hu; rcases hu with rfl | rfl | rfl <;> rfl
        clear hW9 hOJ e9 hO9 hb9 hst h7 hO8 hrf
        go_wp2_with (first
          | (with_reducible refine wpList_load_row rfl 28 _ rfl b9 rfl 28 _ (0, 0) _ h9 Tryd.underlying28 rfl (by kernel_rfl) ?_)
          | (at_builtin; refine wpList_append_own2 rfl _ _ 107 rfl w.heap.size 28 i28 (.agg #[.int .i64 0, .slice none 0 0, .slice none 0 0]) 3 56 Tryd.underlying107 hi28 hz28 hs28 hb28 rfl (by decide) u6 k (L.flatMap (dCells m)) rfl (World.ownsRow.alloc hrow _) ⟨W9.heap.size, 0, none⟩ 1 1 (dCells m r) rfl rfl (cells_new _ _ _) hone (by unfold maxLen; omega) (by omega) hN9 ?_; intro v8 w8 hown8 hg8 hb8))
        go_roundw
        case rel =>
          refine ⟨k + 1, by go_num, by omega, Lib.hid ⟨L ++ [r], by rw [List.length_append, HL.out.1]; rfl, fun r' hr' => ?_, ?_, ?_⟩⟩
          · rcases List.mem_append.1 hr' with h | h
            · exact HL.out.2.1 r' h
            · simp at h; subst h; exact ⟨HO9.out.2, HR.out.2⟩
          · have hyl := (List.getElem?_eq_some_iff.1 HL.out.2.2.2.2.1)
            obtain ⟨hyl, hye⟩ := hyl
            rw [List.take_succ_eq_append_getElem hyl, List.map_append, HL.out.2.2.1, hye, List.map_append]
            simp [HR.out.1]
          · have h := (HO9.out.1.trans (alloc_ext W9 (.cells #[.int .i64 (m : Int), .slice r.A r.D.rows.length r.D.rows.length, .slice (some ⟨r.g, 0, none⟩) r.D.acc.length r.D.acc.length] 28))).app 0 rfl hg8 hown8 hb8
            rw [List.flatMap_append, show [r].flatMap (dCells m) = dCells m r by simp]
            exact h
        case measure => simp [intOf]; omega
    · have hke : k = (subsX x).length := by omega
      subst hke
      have hltI : ¬ ((subsX x).length : Int) < ((subsX x).length : Int) := by omega
      rw [List.take_length] at hLd
      have HL := Lib.hid (And.intro hLl (And.intro hLf (And.intro hLd hO)))
      clear hLl hLf hLd hO HO
      go_upto_region 999 with (first | (with_reducible refine stop_at 10 ?_) | (with_reducible refine stop_at2 10 ?_))
      refine ⟨?_⟩
      obtain ⟨hLl, hLf, hLd, hO⟩ := HL.out
      have hb2 : W6.heap[b2]? = some nodeO := (show w.heap.size ≤ b2 ∧ W6.heap[b2]? = some nodeO from hO.ok (.blk b2 nodeO) (by simp)).2
      rw [HNO.out.1] at hb2
      have hb4 : w.heap.size ≤ b4 ∧ W6.heap[b4]? = some zDfa := hO.ok (.blk b4 zDfa) (by simp)
      have two : ∀ {y z : Rx} {f : DN → DN → Option DN}, subsX x = [y, z] → dfaR m x = ((dfaR m y).bind fun A => (dfaR m z).bind fun B => (f A B).bind minD) → ∃ r1 r2, L = [r1, r2] ∧ dfaR m x = (f r1.D r2.D).bind minD := by
        intro y z f h1 h2
        rw [h1] at hLd hLl
        match L, hLl with
        | [r1, r2], _ =>
          simp only [List.map_cons, List.map_nil, List.cons.injEq, and_true] at hLd
          exact ⟨r1, r2, rfl, by rw [h2, hLd.1, hLd.2]; rfl⟩
      have one : ∀ {y : Rx}, subsX x = [y] → ∃ r1, L = [r1] ∧ dfaR m y = some r1.D := by
        intro y h1
        rw [h1] at hLd hLl
        match L, hLl with
        | [r1], _ =>
          simp only [List.map_cons, List.map_nil, List.cons.injEq, and_true] at hLd
          exact ⟨r1, rfl, hLd⟩
      cases x with
      | none =>
        obtain ⟨D, hD⟩ := leafD_some 0 0 m
        rw [show dfaR m (.none) = minD D by show (leafD 0 0 m).bind minD = _; rw [hD]; rfl]
        exact dfa_t10_none w W6 m b2 b4 0 _ u6 D _ _ _ _ _ _ _ _ _ _ _ _ _ _ _ _ _ _ _ _ _ _ _ _ _ _ _ _ _ _ _ _ _ _ _ _ _ _ _ _ _ _ _ _ _ _ _ _ _ _ _ _ _ _ _ _ _ _ _ _ _ _ _ _ _ _ _ _ _ _ _ _ _ _ _ _ _ _ _ _ _ _ _ _ _ _ _ _ _ _ _ _ _ _ _ _ _ _ _ _ _ _ _ _ _ _ _ _ _ _ _ _ _ hm hO.ext hb4 hb2 hD
      | empty =>
        obtain ⟨D, hD⟩ := leafD_some 1 0 m
        rw [show dfaR m (.empty) = minD D by show (leafD 1 0 m).bind minD = _; rw [hD]; rfl]
        exact dfa_t10_empty w W6 m b2 b4 0 _ u6 D _ _ _ _ _ _ _ _ _ _ _ _ _ _ _ _ _ _ _ _ _ _ _ _ _ _ _ _ _ _ _ _ _ _ _ _ _ _ _ _ _ _ _ _ _ _ _ _ _ _ _ _ _ _ _ _ _ _ _ _ _ _ _ _ _ _ _ _ _ _ _ _ _ _ _ _ _ _ _ _ _ _ _ _ _ _ _ _ _ _ _ _ _ _ _ _ _ _ _ _ _ _ _ _ _ _ _ _ _ _ _ _ _ hm hO.ext hb4 hb2 hD
      | sym a =>
        obtain ⟨D, hD⟩ := leafD_some 2 a m
        rw [show dfaR m (.sym a) = minD D by show (leafD 2 a m).bind minD = _; rw [hD]; rfl]
        exact dfa_t10_sym w W6 m b2 b4 a _ u6 D _ _ _ _ _ _ _ _ _ _ _ _ _ _ _ _ _ _ _ _ _ _ _ _ _ _ _ _ _ _ _ _ _ _ _ _ _ _ _ _ _ _ _ _ _ _ _ _ _ _ _ _ _ _ _ _ _ _ _ _ _ _ _ _ _ _ _ _ _ _ _ _ _ _ _ _ _ _ _ _ _ _ _ _ _ _ _ _ _ _ _ _ _ _ _ _ _ _ _ _ _ _ _ _ _ _ _ _ _ _ _ _ _ hm hO.ext hb4 hb2 hD
      | or y z =>
        obtain ⟨r1, r2, rfl, e⟩ := two (f := bothD 3 m) rfl rfl
        rw [e]
        obtain ⟨gl, cl, rfl⟩ := ownsRow_pos (show W6.ownsRow w.heap.size 28 3 u6 2 _ from hO.get 0 rfl) (by decide)
        have hO2 : OwnL w W6 [.row 28 3 (.slice (some ⟨gl, 0, none⟩) 2 cl) 2 (dCells m r1 ++ dCells m r2), dAny r2, dBlk r2, dAny r1, dBlk r1, .blk b4 zDfa, .blk b2 nodeO] := hO
        exact dfa_t10_or w W6 m b2 b4 gl cl _ _ r1 r2 _ _ _ _ _ _ _ _ _ _ _ _ _ _ _ _ _ _ _ _ _ _ _ _ _ _ _ _ _ _ _ _ _ _ _ _ _ _ _ _ _ _ _ _ _ _ _ _ _ _ _ _ _ _ _ _ _ _ _ _ _ _ _ _ _ _ _ _ _ _ _ _ _ _ _ _ _ _ _ _ _ _ _ _ _ _ _ _ _ _ _ _ _ _ _ _ _ _ _ _ _ _ _ _ _ _ _ _ _ _ _ _ _ hm (own7 hO2) hb2 (hLf r1 (by simp)).1 (hLf r2 (by simp)).1 (hLf r1 (by simp)).2 (hLf r2 (by simp)).2
      | seq y z =>
        obtain ⟨r1, r2, rfl, e⟩ := two (f := behindD m) rfl rfl
        rw [e]
        obtain ⟨gl, cl, rfl⟩ := ownsRow_pos (show W6.ownsRow w.heap.size 28 3 u6 2 _ from hO.get 0 rfl) (by decide)
        have hO2 : OwnL w W6 [.row 28 3 (.slice (some ⟨gl, 0, none⟩) 2 cl) 2 (dCells m r1 ++ dCells m r2), dAny r2, dBlk r2, dAny r1, dBlk r1, .blk b4 zDfa, .blk b2 nodeO] := hO
        exact dfa_t10_seq w W6 m b2 b4 gl cl _ _ r1 r2 _ _ _ _ _ _ _ _ _ _ _ _ _ _ _ _ _ _ _ _ _ _ _ _ _ _ _ _ _ _ _ _ _ _ _ _ _ _ _ _ _ _ _ _ _ _ _ _ _ _ _ _ _ _ _ _ _ _ _ _ _ _ _ _ _ _ _ _ _ _ _ _ _ _ _ _ _ _ _ _ _ _ _ _ _ _ _ _ _ _ _ _ _ _ _ _ _ _ _ _ _ _ _ _ _ _ _ _ _ _ _ _ _ hm (own7 hO2) hb2 (hLf r1 (by simp)).1 (hLf r2 (by simp)).1 (hLf r1 (by simp)).2 (hLf r2 (by simp)).2
      | and y z =>
        obtain ⟨r1, r2, rfl, e⟩ := two (f := bothD 5 m) rfl rfl
        rw [e]
        obtain ⟨gl, cl, rfl⟩ := ownsRow_pos (show W6.ownsRow w.heap.size 28 3 u6 2 _ from hO.get 0 rfl) (by decide)
        have hO2 : OwnL w W6 [.row 28 3 (.slice (some ⟨gl, 0, none⟩) 2 cl) 2 (dCells m r1 ++ dCells m r2), dAny r2, dBlk r2, dAny r1, dBlk r1, .blk b4 zDfa, .blk b2 nodeO] := hO
        exact dfa_t10_and w W6 m b2 b4 gl cl _ _ r1 r2 _ _ _ _ _ _ _ _ _ _ _ _ _ _ _ _ _ _ _ _ _ _ _ _ _ _ _ _ _ _ _ _ _ _ _ _ _ _ _ _ _ _ _ _ _ _ _ _ _ _ _ _ _ _ _ _ _ _ _ _ _ _ _ _ _ _ _ _ _ _ _ _ _ _ _ _ _ _ _ _ _ _ _ _ _ _ _ _ _ _ _ _ _ _ _ _ _ _ _ _ _ _ _ _ _ _ _ _ _ _ _ _ _ hm (own7 hO2) hb2 (hLf r1 (by simp)).1 (hLf r2 (by simp)).1 (hLf r1 (by simp)).2 (hLf r2 (by simp)).2
      | star y =>
        obtain ⟨r1, rfl, e1⟩ := one rfl
        rw [show dfaR m (.star y) = (oftenD m r1.D).bind minD by unfold dfaR; rw [e1]; rfl]
        obtain ⟨gl, cl, rfl⟩ := ownsRow_pos (show W6.ownsRow w.heap.size 28 3 u6 1 _ from hO.get 0 rfl) (by decide)
        have hO2 : OwnL w W6 [.row 28 3 (.slice (some ⟨gl, 0, none⟩) 1 cl) 1 (dCells m r1), dAny r1, dBlk r1, .blk b4 zDfa, .blk b2 nodeO] := hO
        exact dfa_t10_star w W6 m b2 b4 gl cl _ _ r1 _ _ _ _ _ _ _ _ _ _ _ _ _ _ _ _ _ _ _ _ _ _ _ _ _ _ _ _ _ _ _ _ _ _ _ _ _ _ _ _ _ _ _ _ _ _ _ _ _ _ _ _ _ _ _ _ _ _ _ _ _ _ _ _ _ _ _ _ _ _ _ _ _ _ _ _ _ _ _ _ _ _ _ _ _ _ _ _ _ _ _ _ _ _ _ _ _ _ _ _ _ _ _ _ _ _ _ _ _ _ _ _ _ hm (own5 hO2) hb2 (hLf r1 (by simp)).1 (hLf r1 (by simp)).2
      | not y =>
        obtain ⟨r1, rfl, e1⟩ := one rfl
        rw [show dfaR m (.not y) = some ⟨r1.D.rows, r1.D.acc.map (!·)⟩ by unfold dfaR; rw [e1]; rfl]
        obtain ⟨gl, cl, rfl⟩ := ownsRow_pos (show W6.ownsRow w.heap.size 28 3 u6 1 _ from hO.get 0 rfl) (by decide)
        have hO2 : OwnL w W6 [.row 28 3 (.slice (some ⟨gl, 0, none⟩) 1 cl) 1 (dCells m r1), dAny r1, dBlk r1, .blk b4 zDfa, .blk b2 nodeO] := hO
        exact dfa_t10_not w W6 m b2 b4 gl cl _ _ r1 _ _ _ _ _ _ _ _ _ _ _ _ _ _ _ _ _ _ _ _ _ _ _ _ _ _ _ _ _ _ _ _ _ _ _ _ _ _ _ _ _ _ _ _ _ _ _ _ _ _ _ _ _ _ _ _ _ _ _ _ _ _ _ _ _ _ _ _ _ _ _ _ _ _ _ _ _ _ _ _ _ _ _ _ _ _ _ _ _ _ _ _ _ _ _ _ _ _ _ _ _ _ _ _ _ _ _ _ _ _ _ _ _ hm (own5 hO2) hb2 (hLf r1 (by simp)).1 (hLf r1 (by simp)).2
theorem dfa_any (m : Nat) (hm : m ≤ 16) : ∀ (x : Rx) (w : World) (v : Value), NodeV w x.tr v → Calls Tryd.prog 41 #[v, .int .i64 (m : Int)] w (MinP m (dfaR m x) w)
  | x, w, v, hv => dfa_step x m hm (fun y hy w v hv => dfa_any m hm y w v hv) w v hv
termination_by x => SizeOf.sizeOf x
decreasing_by exact subsX_lt hy
end Go.Proofs.YtmebgomnmlbgnaaDoor
