
import Derived.Test.YtmebgomnmlbgnaaDoorZU
set_option linter.unnecessarySimpa false
set_option linter.unusedSectionVars false
namespace Go.Proofs.YtmebgomnmlbgnaaDoor
open Go.RowKit Go.Maps
set_option linter.unusedVariables false
set_option linter.unusedSimpArgs false
attribute [local go_sem] Oper.quietV quietV Oper.gives givesV ext_refl_iff ext_alloc_iff ext_drew_iff ext_drewN_iff
attribute [local go_sem] RI.Oper.gives RI.givesV
theorem own_range {W : World} {N e size g n c i : Nat} {xs ys pre post : List Value} (h : W.ownsRow N e size (.slice (some ⟨g, 0, none⟩) n c) n xs) (hx : xs = pre ++ (ys ++ post)) (hi : pre.length = i) : W.rangeAt g i ys := fun j v hj => by
  refine cell_at_own h ?_
  rw [hx, List.getElem?_append_right (by omega), hi, Nat.add_sub_cancel_left, List.getElem?_append_left (List.getElem?_eq_some_iff.1 hj).1]
  exact hj
set_option maxRecDepth 100000 in
set_option maxHeartbeats 16000000 in
theorem dfa_t10_or (w W : World) (m b2 b4 gl cl : Nat) (n0 : Int) (sv : Value) (r1 r2 : DR) (c0 c3 c5 c7 c8 c9 c10 c11 c12 c13 c14 c15 c16 c17 c18 c19 c20 c21 c22 c23 c24 c25 c26 c27 c28 c29 c30 c31 c32 c33 c34 c35 c36 c37 c38 c39 c40 c41 c42 c43 c44 c45 c46 c47 c48 c49 c50 c51 c52 c53 c54 c55 c56 c57 c58 c59 c60 c61 c62 c63 c64 c65 c66 c67 c68 c69 c70 c71 c72 c73 c74 c75 c76 c77 c78 c79 c80 c81 c82 c83 c84 c85 c86 c87 c88 c89 c90 c91 c92 c93 c94 c95 c96 c97 c98 c99 c100 c101 c102 c103 c104 c105 c106 c107 c108 c109 c110 c111 c112 c113 c114 c115 c116 : Value) (hm : m ≤ 16) (hO : OwnL w W [.row 28 3 (.slice (some ⟨gl, 0, none⟩) 2 cl) 2 (dCells m r1 ++ dCells m r2), dAny r1, dBlk r1, dAny r2, dBlk r2, .blk b4 zDfa])
    (hB2 : W.heap[b2]? = some (.cells #[.int .u8 3, .int .i64 n0, sv] 35 (0, 0))) (f1 : r1.fine) (f2 : r2.fine) (k1 : r1.D.ok m) (k2 : r2.D.ok m) :
    Code.wp Tryd.prog (T41 10) (bodyPost Tryd.prog Tryd.f41 (MinP m ((bothD 3 m r1.D r2.D).bind minD) w)) ⟨(c0 :: .int .i64 (m : Int) :: .pointer (some ⟨b2, 0, none⟩) :: c3 :: .pointer (some ⟨b4, 0, none⟩) :: c5 :: .slice (some ⟨gl, 0, none⟩) 2 cl :: c7 :: c8 :: c9 :: c10 :: c11 :: c12 :: c13 :: c14 :: c15 :: c16 :: c17 :: c18 :: c19 :: c20 :: c21 :: c22 :: c23 :: c24 :: c25 :: c26 :: c27 :: c28 :: c29 :: c30 :: c31 :: c32 :: c33 :: c34 :: c35 :: c36 :: c37 :: c38 :: c39 :: c40 :: c41 :: c42 :: c43 :: c44 :: c45 :: c46 :: c47 :: c48 :: c49 :: c50 :: c51 :: c52 :: c53 :: c54 :: c55 :: c56 :: c57 :: c58 :: c59 :: c60 :: c61 :: c62 :: c63 :: c64 :: c65 :: c66 :: c67 :: c68 :: c69 :: c70 :: c71 :: c72 :: c73 :: c74 :: c75 :: c76 :: c77 :: c78 :: c79 :: c80 :: c81 :: c82 :: c83 :: c84 :: c85 :: c86 :: c87 :: c88 :: c89 :: c90 :: c91 :: c92 :: c93 :: c94 :: c95 :: c96 :: c97 :: c98 :: c99 :: c100 :: c101 :: c102 :: c103 :: c104 :: c105 :: c106 :: c107 :: c108 :: c109 :: c110 :: c111 :: c112 :: c113 :: c114 :: c115 :: c116 :: []).toArray, []⟩ W := by
  conv => arg 2; whnf
  have hb4 := (show w.heap.size ≤ b4 ∧ W.heap[b4]? = some zDfa from hO.get 5 rfl)
  have d1 := DR.dfaV (m := m) (i := 1) (j := 2) hO rfl rfl f1
  have d2 := DR.dfaV (m := m) (i := 3) (j := 4) hO rfl rfl f2
  have hrow : W.ownsRow w.heap.size 28 3 (.slice (some ⟨gl, 0, none⟩) 2 cl) 2 (dCells m r1 ++ dCells m r2) := hO.get 0 rfl
  have g1 := own_range (ys := dCells m r1) (pre := []) (post := dCells m r2) (i := 0) hrow rfl rfl
  have g2 := own_range (ys := dCells m r2) (pre := dCells m r1) (post := []) (i := 3) hrow (by simp) rfl
  have HG := Lib.hid (And.intro g1 g2)
  have HW := Lib.hid (And.intro hO.ext (And.intro hb4 (And.intro d1 (And.intro d2 (And.intro k1 k2)))))
  have k0 := cell_of_blk hB2 0 (u := .int .u8 3) rfl
  have K0 := Lib.hid k0
  clear hO hb4 d1 d2 k1 k2 f1 f2 hrow g1 g2 hB2 k0
  go_upto_region 11 with (with_reducible refine wpList_store_blk _ rfl 109 _ _ rfl W.heap.size 109 #[.slice none 0 0, .slice none 0 0] _ rfl rfl (heap_alloc_new _ _) (by kernel_rfl) (by kernel_rfl) (by kernel_rfl) ?_; intro w5 h5 g5)
  obtain ⟨b11, hb11⟩ : ∃ b, b = W.heap.size := ⟨_, rfl⟩
  have hE5 : Ext W w5 := Below.grown (alloc_ext _ _) g5 (alloc_ext W _).size (fun k hk => by cases hk; exact Nat.le_refl _)
  rw [← hb11] at h5 ⊢
  have HB11 := Lib.hid hb11
  have H5 := Lib.hid (And.intro hE5 h5)
  have k0 := hE5.cell K0.out
  clear g5 h5 hE5 hb11
  obtain ⟨R, hR⟩ : ∃ R, R = bothD 3 m r1.D r2.D := ⟨_, rfl⟩
  rw [← hR]
  have HR := Lib.hid hR
  have HST : Hid (∀ w', Ext W w' → Calls Tryd.prog 74 #[.int .u8 3, .int .i64 (m : Int), .agg (dCells m r1).toArray, .agg (dCells m r2).toArray] w' (RawP R w')) := Lib.hid (fun w' e => by
    rw [hR]
    exact both_any (o := 3) hm HW.out.2.2.2.2.1 HW.out.2.2.2.2.2 (HW.out.2.2.1.ext e) (HW.out.2.2.2.1.ext e))
  clear hR
  go_upto_region 15 with fail
  have k0 := K0.out
  refine RI.wp_region_inv 14 (JB 9 13 W b11 R) (fun k => [9, 13].contains k) (fun k => ([[], [0], [], [], [3], [3, 4], [], [6], [6, 7], [0, 1, 2, 3, 4, 5, 6, 7, 8], [0, 1, 2, 3, 4, 5, 6, 7, 8, 9], [0, 1, 2, 3, 4, 5, 6, 7, 8, 9, 10], [0, 1, 2, 3, 4, 5, 6, 7, 8, 9, 10], [0, 1, 2, 3, 4, 5, 6, 7, 8, 9, 10, 11], [0, 1, 2, 3, 4, 5, 6, 7, 8, 9, 10, 11, 12, 13]] : List (List Nat)).getD k []) (by kernel_rfl) (by kernel_rfl) ?_ ?_
  rotate_left; simp only [List.take_succ_cons, List.take_zero]; rotate_left
  · exact JB.start (H5.out.1.trans (Ext.refl _).drew) (heap_ext (Ext.refl _).drew H5.out.2)
  with_reducible refine RI.lexL_quiet' (v := ?_) ?_ ?_ ?_ ?_; rotate_left; (· with_reducible rfl); (· decide); (· intro G w1 hI1 hA1; have hw1 := hI1.ext; go_simp; with_reducible rfl); (try simp only [Act.put, List.setIfInBounds_toArray, List.set_cons_zero, List.set_cons_succ])
  with_reducible refine RI.lexL_quiet' (v := ?_) ?_ ?_ ?_ ?_; rotate_left; (· with_reducible rfl); (· decide); (· intro G w1 hI1 hA1; have q0 := hI1.ext.cell k0; go_simp; with_reducible rfl)
  (try simp only [Act.put, List.setIfInBounds_toArray, List.set_cons_zero, List.set_cons_succ])
  with_reducible refine RI.lexL_quiet' (v := ?_) ?_ ?_ ?_ ?_; rotate_left; (· with_reducible rfl); (· decide); (· intro G w1 hI1 hA1; have hw1 := hI1.ext; go_simp; with_reducible rfl); (try simp only [Act.put, List.setIfInBounds_toArray, List.set_cons_zero, List.set_cons_succ])
  with_reducible refine RI.lexL_quiet' (v := ?_) ?_ ?_ ?_ ?_; rotate_left; (· with_reducible rfl); (· decide); (· intro G w1 hI1 hA1; have hw1 := hI1.ext; go_simp; with_reducible rfl); (try simp only [Act.put, List.setIfInBounds_toArray, List.set_cons_zero, List.set_cons_succ])
  with_reducible refine RI.lexL_quiet' (v := ?_) ?_ ?_ ?_ ?_; rotate_left; (· with_reducible rfl); (· decide); (· intro G w1 hI1 hA1; have hw1 := hI1.ext; go_simp; with_reducible rfl); (try simp only [Act.put, List.setIfInBounds_toArray, List.set_cons_zero, List.set_cons_succ])
  with_reducible refine RI.lexL_quiet' (v := ?_) ?_ ?_ ?_ ?_; rotate_left; (· with_reducible rfl); (· decide); (· intro G w1 hI1 hA1; (refine quiet_mid 28 (.tmp 50) ?_ gl 0 ?_ (C := dCells m r1) (range_ext HG.out.1 hI1.ext) _ Tryd.underlying28 rfl (by kernel_rfl)) <;> (first | rfl | exact rfl | (go_simp; done) | (simp [Act.eval]; done)))
  (try simp only [Act.put, List.setIfInBounds_toArray, List.set_cons_zero, List.set_cons_succ])
  with_reducible refine RI.lexL_quiet' (v := ?_) ?_ ?_ ?_ ?_; rotate_left; (· with_reducible rfl); (· decide); (· intro G w1 hI1 hA1; have hw1 := hI1.ext; go_simp; with_reducible rfl); (try simp only [Act.put, List.setIfInBounds_toArray, List.set_cons_zero, List.set_cons_succ])
  with_reducible refine RI.lexL_quiet' (v := ?_) ?_ ?_ ?_ ?_; rotate_left; (· with_reducible rfl); (· decide); (· intro G w1 hI1 hA1; have hw1 := hI1.ext; go_simp; with_reducible rfl); (try simp only [Act.put, List.setIfInBounds_toArray, List.set_cons_zero, List.set_cons_succ])
  with_reducible refine RI.lexL_quiet' (v := ?_) ?_ ?_ ?_ ?_; rotate_left; (· with_reducible rfl); (· decide); (· intro G w1 hI1 hA1; (refine quiet_mid 28 (.tmp 53) ?_ gl 3 ?_ (C := dCells m r2) (range_ext HG.out.2 hI1.ext) _ Tryd.underlying28 rfl (by kernel_rfl)) <;> (first | rfl | exact rfl | (go_simp; done) | (simp [Act.eval]; done)))
  (try simp only [Act.put, List.setIfInBounds_toArray, List.set_cons_zero, List.set_cons_succ])
  with_reducible refine RI.lexL_give' ?_ ?_ ?_ ?_; (· with_reducible rfl); (· decide)
  · intro G w5 hI hA hg
    go_simp
    refine (HST.out w5 hI.ext).mono ?_
    intro e w6 hP
    obtain ⟨v, rfl, hq, e6⟩ := rawQ_of (N := b11 + 1) (Nat.succ_le_of_lt (Array.getElem?_eq_some_iff.1 (hI.raw (hI.n hg))).1) hP
    exact ⟨v, rfl, hI.call (by decide) hg e6 hq⟩
  intro v9 G w5 hI hs2
  obtain ⟨x, y, hval⟩ := (hI.ans v9 (hs2 9 v9 rfl)).form
  obtain ⟨rfl, ⟨Ax, nx, cx, rfl⟩, ⟨Ay, ny, cy, rfl⟩⟩ := id hval
  have HVAL := Lib.hid hval
  clear hI hs2 G w5 hval
  (try simp only [Act.put, List.setIfInBounds_toArray, List.set_cons_zero, List.set_cons_succ])
  with_reducible refine RI.lexL_quiet' (v := ?_) ?_ ?_ ?_ ?_; rotate_left; (· with_reducible rfl); (· decide); (· intro G w1 hI1 hA1; have hw1 := hI1.ext; go_simp; with_reducible rfl); (try simp only [Act.put, List.setIfInBounds_toArray, List.set_cons_zero, List.set_cons_succ])
  with_reducible refine RI.lexL_quiet' (v := ?_) ?_ ?_ ?_ ?_; rotate_left; (· with_reducible rfl); (· decide); (· intro G w1 hI1 hA1; have hw1 := hI1.ext; go_simp; with_reducible rfl); (try simp only [Act.put, List.setIfInBounds_toArray, List.set_cons_zero, List.set_cons_succ])
  with_reducible refine RI.lexL_quiet' (v := ?_) ?_ ?_ ?_ ?_; rotate_left; (· with_reducible rfl); (· decide); (· intro G w1 hI1 hA1; have hw1 := hI1.ext; go_simp; with_reducible rfl); (try simp only [Act.put, List.setIfInBounds_toArray, List.set_cons_zero, List.set_cons_succ])
  with_reducible refine RI.lexL_give' ?_ ?_ ?_ ?_; (· with_reducible rfl); (· decide)
  · intro G w5 hI hA hg
    have h9 := hA 9 (by decide) _ rfl
    refine gives_store_blk 109 (.tmp 11) (.tmp 56) ?_ b11 ?_ (t := 109) (cells := #[.slice Ax nx cx, .slice Ay ny cy]) ?_ (hI.raw hg) (by kernel_rfl) (by kernel_rfl) (by kernel_rfl) (fun w' h1 h2 => hI.store (by decide) (Nat.le_of_eq HB11.out.symm) h9 HVAL.out h1 h2) <;> first | rfl | exact rfl | (go_simp; done)
  intro v13 G w5 hI hs2
  clear hI hs2 G w5
  (try simp only [Act.put, List.setIfInBounds_toArray, List.set_cons_zero, List.set_cons_succ])
  with_reducible refine RI.lexL_nil ?_; intro w1 hI1; simp only [List.drop_succ_cons, List.drop_zero]
  have HI := Lib.hid hI1
  clear hI1
  go_upto_region 999 with (with_reducible refine stop_at2 27 ?_)
  refine ⟨?_⟩
  have hblk := HI.out.st v13 _ _ _ rfl rfl HVAL.out
  obtain ⟨cr, ca, hls⟩ := (HI.out.ans _ rfl).lists
  rw [← HR.out]
  exact dfa_t27 w _ m b4 b11 cr ca _ _ R _ _ _ _ _ _ _ _ _ _ _ _ _ _ _ _ _ _ _ _ _ _ _ _ _ _ _ _ _ _ _ _ _ _ _ _ _ _ _ _ _ _ _ _ _ _ _ _ _ _ _ _ _ _ _ _ _ _ _ _ _ _ _ _ _ _ _ _ _ _ _ _ _ _ _ _ _ _ _ _ _ _ _ _ _ _ _ _ _ _ _ _ _ _ _ _ _ _ _ _ _ _ _ _ _ _ _ _ _ _ _ _ _ hm (HW.out.1.trans HI.out.ext) ⟨HW.out.2.1.1, heap_ext HI.out.ext HW.out.2.1.2⟩ hblk (fun D hD => ⟨raw_both HW.out.2.2.2.2.1 HW.out.2.2.2.2.2 (HR.out.symm.trans hD), (hls D hD).1, (hls D hD).2⟩)
set_option maxRecDepth 100000 in
set_option maxHeartbeats 16000000 in
theorem dfa_t10_and (w W : World) (m b2 b4 gl cl : Nat) (n0 : Int) (sv : Value) (r1 r2 : DR) (c0 c3 c5 c7 c8 c9 c10 c11 c12 c13 c14 c15 c16 c17 c18 c19 c20 c21 c22 c23 c24 c25 c26 c27 c28 c29 c30 c31 c32 c33 c34 c35 c36 c37 c38 c39 c40 c41 c42 c43 c44 c45 c46 c47 c48 c49 c50 c51 c52 c53 c54 c55 c56 c57 c58 c59 c60 c61 c62 c63 c64 c65 c66 c67 c68 c69 c70 c71 c72 c73 c74 c75 c76 c77 c78 c79 c80 c81 c82 c83 c84 c85 c86 c87 c88 c89 c90 c91 c92 c93 c94 c95 c96 c97 c98 c99 c100 c101 c102 c103 c104 c105 c106 c107 c108 c109 c110 c111 c112 c113 c114 c115 c116 : Value) (hm : m ≤ 16) (hO : OwnL w W [.row 28 3 (.slice (some ⟨gl, 0, none⟩) 2 cl) 2 (dCells m r1 ++ dCells m r2), dAny r1, dBlk r1, dAny r2, dBlk r2, .blk b4 zDfa])
    (hB2 : W.heap[b2]? = some (.cells #[.int .u8 5, .int .i64 n0, sv] 35 (0, 0))) (f1 : r1.fine) (f2 : r2.fine) (k1 : r1.D.ok m) (k2 : r2.D.ok m) :
    Code.wp Tryd.prog (T41 10) (bodyPost Tryd.prog Tryd.f41 (MinP m ((bothD 5 m r1.D r2.D).bind minD) w)) ⟨(c0 :: .int .i64 (m : Int) :: .pointer (some ⟨b2, 0, none⟩) :: c3 :: .pointer (some ⟨b4, 0, none⟩) :: c5 :: .slice (some ⟨gl, 0, none⟩) 2 cl :: c7 :: c8 :: c9 :: c10 :: c11 :: c12 :: c13 :: c14 :: c15 :: c16 :: c17 :: c18 :: c19 :: c20 :: c21 :: c22 :: c23 :: c24 :: c25 :: c26 :: c27 :: c28 :: c29 :: c30 :: c31 :: c32 :: c33 :: c34 :: c35 :: c36 :: c37 :: c38 :: c39 :: c40 :: c41 :: c42 :: c43 :: c44 :: c45 :: c46 :: c47 :: c48 :: c49 :: c50 :: c51 :: c52 :: c53 :: c54 :: c55 :: c56 :: c57 :: c58 :: c59 :: c60 :: c61 :: c62 :: c63 :: c64 :: c65 :: c66 :: c67 :: c68 :: c69 :: c70 :: c71 :: c72 :: c73 :: c74 :: c75 :: c76 :: c77 :: c78 :: c79 :: c80 :: c81 :: c82 :: c83 :: c84 :: c85 :: c86 :: c87 :: c88 :: c89 :: c90 :: c91 :: c92 :: c93 :: c94 :: c95 :: c96 :: c97 :: c98 :: c99 :: c100 :: c101 :: c102 :: c103 :: c104 :: c105 :: c106 :: c107 :: c108 :: c109 :: c110 :: c111 :: c112 :: c113 :: c114 :: c115 :: c116 :: []).toArray, []⟩ W := by
  conv => arg 2; whnf
  have hb4 := (show w.heap.size ≤ b4 ∧ W.heap[b4]? = some zDfa from hO.get 5 rfl)
  have d1 := DR.dfaV (m := m) (i := 1) (j := 2) hO rfl rfl f1
  have d2 := DR.dfaV (m := m) (i := 3) (j := 4) hO rfl rfl f2
  have hrow : W.ownsRow w.heap.size 28 3 (.slice (some ⟨gl, 0, none⟩) 2 cl) 2 (dCells m r1 ++ dCells m r2) := hO.get 0 rfl
  have g1 := own_range (ys := dCells m r1) (pre := []) (post := dCells m r2) (i := 0) hrow rfl rfl
  have g2 := own_range (ys := dCells m r2) (pre := dCells m r1) (post := []) (i := 3) hrow (by simp) rfl
  have HG := Lib.hid (And.intro g1 g2)
  have HW := Lib.hid (And.intro hO.ext (And.intro hb4 (And.intro d1 (And.intro d2 (And.intro k1 k2)))))
  have k0 := cell_of_blk hB2 0 (u := .int .u8 5) rfl
  have K0 := Lib.hid k0
  clear hO hb4 d1 d2 k1 k2 f1 f2 hrow g1 g2 hB2 k0
  go_upto_region 11 with (with_reducible refine wpList_store_blk _ rfl 109 _ _ rfl W.heap.size 109 #[.slice none 0 0, .slice none 0 0] _ rfl rfl (heap_alloc_new _ _) (by kernel_rfl) (by kernel_rfl) (by kernel_rfl) ?_; intro w5 h5 g5)
  obtain ⟨b11, hb11⟩ : ∃ b, b = W.heap.size := ⟨_, rfl⟩
  have hE5 : Ext W w5 := Below.grown (alloc_ext _ _) g5 (alloc_ext W _).size (fun k hk => by cases hk; exact Nat.le_refl _)
  rw [← hb11] at h5 ⊢
  have HB11 := Lib.hid hb11
  have H5 := Lib.hid (And.intro hE5 h5)
  have k0 := hE5.cell K0.out
  clear g5 h5 hE5 hb11
  obtain ⟨R, hR⟩ : ∃ R, R = bothD 5 m r1.D r2.D := ⟨_, rfl⟩
  rw [← hR]
  have HR := Lib.hid hR
  have HST : Hid (∀ w', Ext W w' → Calls Tryd.prog 74 #[.int .u8 5, .int .i64 (m : Int), .agg (dCells m r1).toArray, .agg (dCells m r2).toArray] w' (RawP R w')) := Lib.hid (fun w' e => by
    rw [hR]
    exact both_any (o := 5) hm HW.out.2.2.2.2.1 HW.out.2.2.2.2.2 (HW.out.2.2.1.ext e) (HW.out.2.2.2.1.ext e))
  clear hR
  go_upto_region 15 with fail
  have k0 := K0.out
  refine RI.wp_region_inv 14 (JB 9 13 W b11 R) (fun k => [9, 13].contains k) (fun k => ([[], [0], [], [], [3], [3, 4], [], [6], [6, 7], [0, 1, 2, 3, 4, 5, 6, 7, 8], [0, 1, 2, 3, 4, 5, 6, 7, 8, 9], [0, 1, 2, 3, 4, 5, 6, 7, 8, 9, 10], [0, 1, 2, 3, 4, 5, 6, 7, 8, 9, 10], [0, 1, 2, 3, 4, 5, 6, 7, 8, 9, 10, 11], [0, 1, 2, 3, 4, 5, 6, 7, 8, 9, 10, 11, 12, 13]] : List (List Nat)).getD k []) (by kernel_rfl) (by kernel_rfl) ?_ ?_
  rotate_left; simp only [List.take_succ_cons, List.take_zero]; rotate_left
  · exact JB.start (H5.out.1.trans (Ext.refl _).drew) (heap_ext (Ext.refl _).drew H5.out.2)
  with_reducible refine RI.lexL_quiet' (v := ?_) ?_ ?_ ?_ ?_; rotate_left; (· with_reducible rfl); (· decide); (· intro G w1 hI1 hA1; have hw1 := hI1.ext; go_simp; with_reducible rfl); (try simp only [Act.put, List.setIfInBounds_toArray, List.set_cons_zero, List.set_cons_succ])
  with_reducible refine RI.lexL_quiet' (v := ?_) ?_ ?_ ?_ ?_; rotate_left; (· with_reducible rfl); (· decide); (· intro G w1 hI1 hA1; have q0 := hI1.ext.cell k0; go_simp; with_reducible rfl)
  (try simp only [Act.put, List.setIfInBounds_toArray, List.set_cons_zero, List.set_cons_succ])
  with_reducible refine RI.lexL_quiet' (v := ?_) ?_ ?_ ?_ ?_; rotate_left; (· with_reducible rfl); (· decide); (· intro G w1 hI1 hA1; have hw1 := hI1.ext; go_simp; with_reducible rfl); (try simp only [Act.put, List.setIfInBounds_toArray, List.set_cons_zero, List.set_cons_succ])
  with_reducible refine RI.lexL_quiet' (v := ?_) ?_ ?_ ?_ ?_; rotate_left; (· with_reducible rfl); (· decide); (· intro G w1 hI1 hA1; have hw1 := hI1.ext; go_simp; with_reducible rfl); (try simp only [Act.put, List.setIfInBounds_toArray, List.set_cons_zero, List.set_cons_succ])
  with_reducible refine RI.lexL_quiet' (v := ?_) ?_ ?_ ?_ ?_; rotate_left; (· with_reducible rfl); (· decide); (· intro G w1 hI1 hA1; have hw1 := hI1.ext; go_simp; with_reducible rfl); (try simp only [Act.put, List.setIfInBounds_toArray, List.set_cons_zero, List.set_cons_succ])
  with_reducible refine RI.lexL_quiet' (v := ?_) ?_ ?_ ?_ ?_; rotate_left; (· with_reducible rfl); (· decide); (· intro G w1 hI1 hA1; (refine quiet_mid 28 (.tmp 50) ?_ gl 0 ?_ (C := dCells m r1) (range_ext HG.out.1 hI1.ext) _ Tryd.underlying28 rfl (by kernel_rfl)) <;> (first | rfl | exact rfl | (go_simp; done) | (simp [Act.eval]; done)))
  (try simp only [Act.put, List.setIfInBounds_toArray, List.set_cons_zero, List.set_cons_succ])
  with_reducible refine RI.lexL_quiet' (v := ?_) ?_ ?_ ?_ ?_; rotate_left; (· with_reducible rfl); (· decide); (· intro G w1 hI1 hA1; have hw1 := hI1.ext; go_simp; with_reducible rfl); (try simp only [Act.put, List.setIfInBounds_toArray, List.set_cons_zero, List.set_cons_succ])
  with_reducible refine RI.lexL_quiet' (v := ?_) ?_ ?_ ?_ ?_; rotate_left; (· with_reducible rfl); (· decide); (· intro G w1 hI1 hA1; have hw1 := hI1.ext; go_simp; with_reducible rfl); (try simp only [Act.put, List.setIfInBounds_toArray, List.set_cons_zero, List.set_cons_succ])
  with_reducible refine RI.lexL_quiet' (v := ?_) ?_ ?_ ?_ ?_; rotate_left; (· with_reducible rfl); (· decide); (· intro G w1 hI1 hA1; (refine quiet_mid 28 (.tmp 53) ?_ gl 3 ?_ (C := dCells m r2) (range_ext HG.out.2 hI1.ext) _ Tryd.underlying28 rfl (by kernel_rfl)) <;> (first | rfl | exact rfl | (go_simp; done) | (simp [Act.eval]; done)))
  (try simp only [Act.put, List.setIfInBounds_toArray, List.set_cons_zero, List.set_cons_succ])
  with_reducible refine RI.lexL_give' ?_ ?_ ?_ ?_; (· with_reducible rfl); (· decide)
  · intro G w5 hI hA hg
    go_simp
    refine (HST.out w5 hI.ext).mono ?_
    intro e w6 hP
    obtain ⟨v, rfl, hq, e6⟩ := rawQ_of (N := b11 + 1) (Nat.succ_le_of_lt (Array.getElem?_eq_some_iff.1 (hI.raw (hI.n hg))).1) hP
    exact ⟨v, rfl, hI.call (by decide) hg e6 hq⟩
  intro v9 G w5 hI hs2
  obtain ⟨x, y, hval⟩ := (hI.ans v9 (hs2 9 v9 rfl)).form
  obtain ⟨rfl, ⟨Ax, nx, cx, rfl⟩, ⟨Ay, ny, cy, rfl⟩⟩ := id hval
  have HVAL := Lib.hid hval
  clear hI hs2 G w5 hval
  (try simp only [Act.put, List.setIfInBounds_toArray, List.set_cons_zero, List.set_cons_succ])
  with_reducible refine RI.lexL_quiet' (v := ?_) ?_ ?_ ?_ ?_; rotate_left; (· with_reducible rfl); (· decide); (· intro G w1 hI1 hA1; have hw1 := hI1.ext; go_simp; with_reducible rfl); (try simp only [Act.put, List.setIfInBounds_toArray, List.set_cons_zero, List.set_cons_succ])
  with_reducible refine RI.lexL_quiet' (v := ?_) ?_ ?_ ?_ ?_; rotate_left; (· with_reducible rfl); (· decide); (· intro G w1 hI1 hA1; have hw1 := hI1.ext; go_simp; with_reducible rfl); (try simp only [Act.put, List.setIfInBounds_toArray, List.set_cons_zero, List.set_cons_succ])
  with_reducible refine RI.lexL_quiet' (v := ?_) ?_ ?_ ?_ ?_; rotate_left; (· with_reducible rfl); (· decide); (· intro G w1 hI1 hA1; have hw1 := hI1.ext; go_simp; with_reducible rfl); (try simp only [Act.put, List.setIfInBounds_toArray, List.set_cons_zero, List.set_cons_succ])
  with_reducible refine RI.lexL_give' ?_ ?_ ?_ ?_; (· with_reducible rfl); (· decide)
  · intro G w5 hI hA hg
    have h9 := hA 9 (by decide) _ rfl
    refine gives_store_blk 109 (.tmp 11) (.tmp 56) ?_ b11 ?_ (t := 109) (cells := #[.slice Ax nx cx, .slice Ay ny cy]) ?_ (hI.raw hg) (by kernel_rfl) (by kernel_rfl) (by kernel_rfl) (fun w' h1 h2 => hI.store (by decide) (Nat.le_of_eq HB11.out.symm) h9 HVAL.out h1 h2) <;> first | rfl | exact rfl | (go_simp; done)
  intro v13 G w5 hI hs2
  clear hI hs2 G w5
  (try simp only [Act.put, List.setIfInBounds_toArray, List.set_cons_zero, List.set_cons_succ])
  with_reducible refine RI.lexL_nil ?_; intro w1 hI1; simp only [List.drop_succ_cons, List.drop_zero]
  have HI := Lib.hid hI1
  clear hI1
  go_upto_region 999 with (with_reducible refine stop_at2 27 ?_)
  refine ⟨?_⟩
  have hblk := HI.out.st v13 _ _ _ rfl rfl HVAL.out
  obtain ⟨cr, ca, hls⟩ := (HI.out.ans _ rfl).lists
  rw [← HR.out]
  exact dfa_t27 w _ m b4 b11 cr ca _ _ R _ _ _ _ _ _ _ _ _ _ _ _ _ _ _ _ _ _ _ _ _ _ _ _ _ _ _ _ _ _ _ _ _ _ _ _ _ _ _ _ _ _ _ _ _ _ _ _ _ _ _ _ _ _ _ _ _ _ _ _ _ _ _ _ _ _ _ _ _ _ _ _ _ _ _ _ _ _ _ _ _ _ _ _ _ _ _ _ _ _ _ _ _ _ _ _ _ _ _ _ _ _ _ _ _ _ _ _ _ _ _ _ _ hm (HW.out.1.trans HI.out.ext) ⟨HW.out.2.1.1, heap_ext HI.out.ext HW.out.2.1.2⟩ hblk (fun D hD => ⟨raw_both HW.out.2.2.2.2.1 HW.out.2.2.2.2.2 (HR.out.symm.trans hD), (hls D hD).1, (hls D hD).2⟩)
set_option maxRecDepth 100000 in
set_option maxHeartbeats 16000000 in
theorem dfa_t10_seq (w W : World) (m b2 b4 gl cl : Nat) (n0 : Int) (sv : Value) (r1 r2 : DR) (c0 c3 c5 c7 c8 c9 c10 c11 c12 c13 c14 c15 c16 c17 c18 c19 c20 c21 c22 c23 c24 c25 c26 c27 c28 c29 c30 c31 c32 c33 c34 c35 c36 c37 c38 c39 c40 c41 c42 c43 c44 c45 c46 c47 c48 c49 c50 c51 c52 c53 c54 c55 c56 c57 c58 c59 c60 c61 c62 c63 c64 c65 c66 c67 c68 c69 c70 c71 c72 c73 c74 c75 c76 c77 c78 c79 c80 c81 c82 c83 c84 c85 c86 c87 c88 c89 c90 c91 c92 c93 c94 c95 c96 c97 c98 c99 c100 c101 c102 c103 c104 c105 c106 c107 c108 c109 c110 c111 c112 c113 c114 c115 c116 : Value) (hm : m ≤ 16) (hO : OwnL w W [.row 28 3 (.slice (some ⟨gl, 0, none⟩) 2 cl) 2 (dCells m r1 ++ dCells m r2), dAny r1, dBlk r1, dAny r2, dBlk r2, .blk b4 zDfa])
    (hB2 : W.heap[b2]? = some (.cells #[.int .u8 4, .int .i64 n0, sv] 35 (0, 0))) (f1 : r1.fine) (f2 : r2.fine) (k1 : r1.D.ok m) (k2 : r2.D.ok m) :
    Code.wp Tryd.prog (T41 10) (bodyPost Tryd.prog Tryd.f41 (MinP m ((behindD m r1.D r2.D).bind minD) w)) ⟨(c0 :: .int .i64 (m : Int) :: .pointer (some ⟨b2, 0, none⟩) :: c3 :: .pointer (some ⟨b4, 0, none⟩) :: c5 :: .slice (some ⟨gl, 0, none⟩) 2 cl :: c7 :: c8 :: c9 :: c10 :: c11 :: c12 :: c13 :: c14 :: c15 :: c16 :: c17 :: c18 :: c19 :: c20 :: c21 :: c22 :: c23 :: c24 :: c25 :: c26 :: c27 :: c28 :: c29 :: c30 :: c31 :: c32 :: c33 :: c34 :: c35 :: c36 :: c37 :: c38 :: c39 :: c40 :: c41 :: c42 :: c43 :: c44 :: c45 :: c46 :: c47 :: c48 :: c49 :: c50 :: c51 :: c52 :: c53 :: c54 :: c55 :: c56 :: c57 :: c58 :: c59 :: c60 :: c61 :: c62 :: c63 :: c64 :: c65 :: c66 :: c67 :: c68 :: c69 :: c70 :: c71 :: c72 :: c73 :: c74 :: c75 :: c76 :: c77 :: c78 :: c79 :: c80 :: c81 :: c82 :: c83 :: c84 :: c85 :: c86 :: c87 :: c88 :: c89 :: c90 :: c91 :: c92 :: c93 :: c94 :: c95 :: c96 :: c97 :: c98 :: c99 :: c100 :: c101 :: c102 :: c103 :: c104 :: c105 :: c106 :: c107 :: c108 :: c109 :: c110 :: c111 :: c112 :: c113 :: c114 :: c115 :: c116 :: []).toArray, []⟩ W := by
  conv => arg 2; whnf
  have hb4 := (show w.heap.size ≤ b4 ∧ W.heap[b4]? = some zDfa from hO.get 5 rfl)
  have d1 := DR.dfaV (m := m) (i := 1) (j := 2) hO rfl rfl f1
  have d2 := DR.dfaV (m := m) (i := 3) (j := 4) hO rfl rfl f2
  have hrow : W.ownsRow w.heap.size 28 3 (.slice (some ⟨gl, 0, none⟩) 2 cl) 2 (dCells m r1 ++ dCells m r2) := hO.get 0 rfl
  have g1 := own_range (ys := dCells m r1) (pre := []) (post := dCells m r2) (i := 0) hrow rfl rfl
  have g2 := own_range (ys := dCells m r2) (pre := dCells m r1) (post := []) (i := 3) hrow (by simp) rfl
  have HG := Lib.hid (And.intro g1 g2)
  have HW := Lib.hid (And.intro hO.ext (And.intro hb4 (And.intro d1 (And.intro d2 (And.intro k1 k2)))))
  have k0 := cell_of_blk hB2 0 (u := .int .u8 4) rfl
  have K0 := Lib.hid k0
  clear hO hb4 d1 d2 k1 k2 f1 f2 hrow g1 g2 hB2 k0
  go_upto_region 11 with (with_reducible refine wpList_store_blk _ rfl 109 _ _ rfl W.heap.size 109 #[.slice none 0 0, .slice none 0 0] _ rfl rfl (heap_alloc_new _ _) (by kernel_rfl) (by kernel_rfl) (by kernel_rfl) ?_; intro w5 h5 g5)
  obtain ⟨b11, hb11⟩ : ∃ b, b = W.heap.size := ⟨_, rfl⟩
  have hE5 : Ext W w5 := Below.grown (alloc_ext _ _) g5 (alloc_ext W _).size (fun k hk => by cases hk; exact Nat.le_refl _)
  rw [← hb11] at h5 ⊢
  have HB11 := Lib.hid hb11
  have H5 := Lib.hid (And.intro hE5 h5)
  have k0 := hE5.cell K0.out
  clear g5 h5 hE5 hb11
  obtain ⟨R, hR⟩ : ∃ R, R = behindD m r1.D r2.D := ⟨_, rfl⟩
  have HR := Lib.hid hR
  have HST : Hid (∀ w', Ext W w' → Calls Tryd.prog 75 #[.int .i64 (m : Int), .agg (dCells m r1).toArray, .agg (dCells m r2).toArray] w' (RawP R w')) := Lib.hid (fun w' e => by
    rw [hR]
    exact behind_any hm HW.out.2.2.2.2.1 HW.out.2.2.2.2.2 (HW.out.2.2.1.ext e) (HW.out.2.2.2.1.ext e))
  clear hR
  go_upto_region 17 with fail
  refine RI.wp_region_inv 12 (JB 7 11 W b11 R) (fun k => [7, 11].contains k) (fun k => ([[], [], [1], [1, 2], [], [4], [4, 5], [0, 1, 2, 3, 4, 5, 6], [0, 1, 2, 3, 4, 5, 6, 7], [0, 1, 2, 3, 4, 5, 6, 7, 8], [0, 1, 2, 3, 4, 5, 6, 7, 8], [0, 1, 2, 3, 4, 5, 6, 7, 8, 9], [0, 1, 2, 3, 4, 5, 6, 7, 8, 9, 10, 11]] : List (List Nat)).getD k []) (by kernel_rfl) (by kernel_rfl) ?_ ?_
  rotate_left; simp only [List.take_succ_cons, List.take_zero]; rotate_left
  · exact JB.start (H5.out.1.trans (Ext.refl _).drew) (heap_ext (Ext.refl _).drew H5.out.2)
  with_reducible refine RI.lexL_quiet' (v := ?_) ?_ ?_ ?_ ?_; rotate_left; (· with_reducible rfl); (· decide); (· intro G w1 hI1 hA1; have hw1 := hI1.ext; go_simp; with_reducible rfl); (try simp only [Act.put, List.setIfInBounds_toArray, List.set_cons_zero, List.set_cons_succ])
  with_reducible refine RI.lexL_quiet' (v := ?_) ?_ ?_ ?_ ?_; rotate_left; (· with_reducible rfl); (· decide); (· intro G w1 hI1 hA1; have hw1 := hI1.ext; go_simp; with_reducible rfl); (try simp only [Act.put, List.setIfInBounds_toArray, List.set_cons_zero, List.set_cons_succ])
  with_reducible refine RI.lexL_quiet' (v := ?_) ?_ ?_ ?_ ?_; rotate_left; (· with_reducible rfl); (· decide); (· intro G w1 hI1 hA1; have hw1 := hI1.ext; go_simp; with_reducible rfl); (try simp only [Act.put, List.setIfInBounds_toArray, List.set_cons_zero, List.set_cons_succ])
  with_reducible refine RI.lexL_quiet' (v := ?_) ?_ ?_ ?_ ?_; rotate_left; (· with_reducible rfl); (· decide); (· intro G w1 hI1 hA1; (refine quiet_mid 28 (.tmp 63) ?_ gl 0 ?_ (C := dCells m r1) (range_ext HG.out.1 hI1.ext) _ Tryd.underlying28 rfl (by kernel_rfl)) <;> (first | rfl | exact rfl | (go_simp; done) | (simp [Act.eval]; done)))
  (try simp only [Act.put, List.setIfInBounds_toArray, List.set_cons_zero, List.set_cons_succ])
  with_reducible refine RI.lexL_quiet' (v := ?_) ?_ ?_ ?_ ?_; rotate_left; (· with_reducible rfl); (· decide); (· intro G w1 hI1 hA1; have hw1 := hI1.ext; go_simp; with_reducible rfl); (try simp only [Act.put, List.setIfInBounds_toArray, List.set_cons_zero, List.set_cons_succ])
  with_reducible refine RI.lexL_quiet' (v := ?_) ?_ ?_ ?_ ?_; rotate_left; (· with_reducible rfl); (· decide); (· intro G w1 hI1 hA1; have hw1 := hI1.ext; go_simp; with_reducible rfl); (try simp only [Act.put, List.setIfInBounds_toArray, List.set_cons_zero, List.set_cons_succ])
  with_reducible refine RI.lexL_quiet' (v := ?_) ?_ ?_ ?_ ?_; rotate_left; (· with_reducible rfl); (· decide); (· intro G w1 hI1 hA1; (refine quiet_mid 28 (.tmp 66) ?_ gl 3 ?_ (C := dCells m r2) (range_ext HG.out.2 hI1.ext) _ Tryd.underlying28 rfl (by kernel_rfl)) <;> (first | rfl | exact rfl | (go_simp; done) | (simp [Act.eval]; done)))
  (try simp only [Act.put, List.setIfInBounds_toArray, List.set_cons_zero, List.set_cons_succ])
  with_reducible refine RI.lexL_give' ?_ ?_ ?_ ?_; (· with_reducible rfl); (· decide)
  · intro G w5 hI hA hg
    go_simp
    refine (HST.out w5 hI.ext).mono ?_
    intro e w6 hP
    obtain ⟨v, rfl, hq, e6⟩ := rawQ_of (N := b11 + 1) (Nat.succ_le_of_lt (Array.getElem?_eq_some_iff.1 (hI.raw (hI.n hg))).1) hP
    exact ⟨v, rfl, hI.call (by decide) hg e6 hq⟩
  intro v9 G w5 hI hs2
  obtain ⟨x, y, hval⟩ := (hI.ans v9 (hs2 7 v9 rfl)).form
  obtain ⟨rfl, ⟨Ax, nx, cx, rfl⟩, ⟨Ay, ny, cy, rfl⟩⟩ := id hval
  have HVAL := Lib.hid hval
  clear hI hs2 G w5 hval
  (try simp only [Act.put, List.setIfInBounds_toArray, List.set_cons_zero, List.set_cons_succ])
  with_reducible refine RI.lexL_quiet' (v := ?_) ?_ ?_ ?_ ?_; rotate_left; (· with_reducible rfl); (· decide); (· intro G w1 hI1 hA1; have hw1 := hI1.ext; go_simp; with_reducible rfl); (try simp only [Act.put, List.setIfInBounds_toArray, List.set_cons_zero, List.set_cons_succ])
  with_reducible refine RI.lexL_quiet' (v := ?_) ?_ ?_ ?_ ?_; rotate_left; (· with_reducible rfl); (· decide); (· intro G w1 hI1 hA1; have hw1 := hI1.ext; go_simp; with_reducible rfl); (try simp only [Act.put, List.setIfInBounds_toArray, List.set_cons_zero, List.set_cons_succ])
  with_reducible refine RI.lexL_quiet' (v := ?_) ?_ ?_ ?_ ?_; rotate_left; (· with_reducible rfl); (· decide); (· intro G w1 hI1 hA1; have hw1 := hI1.ext; go_simp; with_reducible rfl); (try simp only [Act.put, List.setIfInBounds_toArray, List.set_cons_zero, List.set_cons_succ])
  with_reducible refine RI.lexL_give' ?_ ?_ ?_ ?_; (· with_reducible rfl); (· decide)
  · intro G w5 hI hA hg
    have h9 := hA 7 (by decide) _ rfl
    refine gives_store_blk 109 (.tmp 11) (.tmp 69) ?_ b11 ?_ (t := 109) (cells := #[.slice Ax nx cx, .slice Ay ny cy]) ?_ (hI.raw hg) (by kernel_rfl) (by kernel_rfl) (by kernel_rfl) (fun w' h1 h2 => hI.store (by decide) (Nat.le_of_eq HB11.out.symm) h9 HVAL.out h1 h2) <;> first | rfl | exact rfl | (go_simp; done)
  intro v13 G w5 hI hs2
  clear hI hs2 G w5
  (try simp only [Act.put, List.setIfInBounds_toArray, List.set_cons_zero, List.set_cons_succ])
  with_reducible refine RI.lexL_nil ?_; intro w1 hI1; simp only [List.drop_succ_cons, List.drop_zero]
  have HI := Lib.hid hI1
  clear hI1
  go_upto_region 999 with (with_reducible refine stop_at2 27 ?_)
  refine ⟨?_⟩
  have hblk := HI.out.st v13 _ _ _ rfl rfl HVAL.out
  obtain ⟨cr, ca, hls⟩ := (HI.out.ans _ rfl).lists
  rw [← HR.out]
  exact dfa_t27 w _ m b4 b11 cr ca _ _ R _ _ _ _ _ _ _ _ _ _ _ _ _ _ _ _ _ _ _ _ _ _ _ _ _ _ _ _ _ _ _ _ _ _ _ _ _ _ _ _ _ _ _ _ _ _ _ _ _ _ _ _ _ _ _ _ _ _ _ _ _ _ _ _ _ _ _ _ _ _ _ _ _ _ _ _ _ _ _ _ _ _ _ _ _ _ _ _ _ _ _ _ _ _ _ _ _ _ _ _ _ _ _ _ _ _ _ _ _ _ _ _ _ hm (HW.out.1.trans HI.out.ext) ⟨HW.out.2.1.1, heap_ext HI.out.ext HW.out.2.1.2⟩ hblk (fun D hD => ⟨raw_behind HW.out.2.2.2.2.1 (HR.out.symm.trans hD), (hls D hD).1, (hls D hD).2⟩)
end Go.Proofs.YtmebgomnmlbgnaaDoor
