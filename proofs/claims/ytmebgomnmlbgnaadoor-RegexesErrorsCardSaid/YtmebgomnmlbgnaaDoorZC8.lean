
import Derived.Test.YtmebgomnmlbgnaaDoorZP
import Derived.Test.YtmebgomnmlbgnaaDoorZQ
import Derived.Test.YtmebgomnmlbgnaaDoorZE6
import Derived.Test.YtmebgomnmlbgnaaDoorZE7
set_option linter.unnecessarySimpa false
set_option linter.unusedSectionVars false
namespace Go.Proofs.YtmebgomnmlbgnaaDoor
open Go.RowKit Go.Maps
set_option linter.unusedVariables false
set_option linter.unusedSimpArgs false
attribute [local go_sem] Oper.quietV quietV Oper.gives givesV ext_refl_iff ext_alloc_iff ext_drew_iff ext_drewN_iff
def behindD (m : Nat) (D C : DN) : Option DN := expD (fun s => smF C s.2) (expF m (pairS D C) (0, (List.replicate 256 false).set 0 (D.ac 0)))
def oftenD (m : Nat) (D : DN) : Option DN := expD (spotA D) (expF m (spotS D) (true, (List.replicate 256 false).set 0 true))
theorem zc135' : Tryd.zeroCells135 = (Value.int .i64 ((0 : Nat) : Int) :: (List.replicate 256 false).map Value.bool).toArray := by kernel_rfl
theorem zc143' : Tryd.zeroCells143.setIfInBounds 0 (.bool true) = (Value.bool true :: (List.replicate 256 false).map Value.bool).toArray := by kernel_rfl
theorem spot_ones (p : Bool) (l : List Bool) : (Value.bool p :: l.map Value.bool).toArray.all (·.oneCell') = true := by
  rw [List.all_toArray, List.all_cons, Bool.and_eq_true]
  exact ⟨rfl, List.all_eq_true.2 (bools_one l)⟩
set_option maxRecDepth 100000 in
set_option maxHeartbeats 4000000 in
theorem behind_any {W : World} {m : Nat} {D C : DN} {dv cv : Value} (hm : m ≤ 16) (hD : D.ok m) (hC : C.ok m) (h1 : DfaV W dv (D.dfa m)) (h2 : DfaV W cv (C.dfa m)) :
    Calls Tryd.prog 75 #[.int .i64 (m : Int), dv, cv] W (RawP (behindD m D C) W) := by
  obtain ⟨rv, cr, av, ca, rfl, l1, l2⟩ := h1
  obtain ⟨rv', cr', av', ca', rfl, l3, l4⟩ := h2
  obtain ⟨ga, oa, hva, ha0⟩ := bools_row l2 (s := 0) (by rw [hD.acc]; exact hD.pos)
  subst hva
  have hpI : (0 : Int) < (D.acc.length : Int) := by have := hD.acc; have := hD.pos; omega
  have HD := Lib.hid (And.intro hD (And.intro l1 l2))
  have HC := Lib.hid (And.intro hC (And.intro l3 l4))
  clear l1 l2 l3 l4 hD hC
  show Calls Tryd.prog 75 #[.int .i64 (m : Int), .agg #[.int .i64 (m : Int), rv, .slice (some ⟨ga, oa, none⟩) D.acc.length ca], .agg #[.int .i64 (m : Int), rv', av']] W (RawP (behindD m D C) W)
  obtain ⟨R, hR⟩ : ∃ R, R = behindD m D C := ⟨_, rfl⟩
  rw [← hR]
  have HR := Lib.hid hR
  clear hR
  go_enter Tryd.func75, Tryd.ntmps75
  go_upto_region 1 with fail
  refine wp_named ?_
  intro W0 hW0
  have hE0 : Ext W W0 := by rw [hW0]; exact ((alloc_ext _ _).trans (alloc_ext _ _)).trans (alloc_ext _ _)
  have hB4 : W0.heap[W.heap.size]? = some (.cells #[.int .i64 (m : Int), rv, .slice (some ⟨ga, oa, none⟩) D.acc.length ca] 28) := by rw [hW0]; exact heap_ext ((alloc_ext _ _).trans (alloc_ext _ _)) (heap_alloc_new _ _)
  have hB5 : W0.heap[W.heap.size + 1]? = some (.cells #[.int .i64 (m : Int), rv', av'] 28) := by rw [hW0]; exact heap_ext (alloc_ext _ _) (heap_new2 _ _ _)
  have hZ : W0.heap[W.heap.size + 1 + 1]? = some zRaw := by rw [hW0]; exact heap_new3 _ _ _ _
  have hsz := (Array.getElem?_eq_some_iff.1 hZ).1
  clear hW0
  have z1 : (Tryd.prog.info? 135).map (·.size) = some Tryd.zeroCells135.size := by kernel_rfl
  have z2 : Tryd.zeroCells135.all (·.oneCell') = true := by rw [zc135']; exact pair_ones 0 _
  go_upto_region 2 with (with_reducible refine wpList_store_blk _ rfl 135 _ _ rfl W0.heap.size 135 _ _ rfl rfl (heap_alloc_new _ _) rfl z1 z2 ?_; intro w9 h9 g9)
  obtain ⟨b8, hb8⟩ : ∃ b, b = W0.heap.size := ⟨_, rfl⟩
  have hE9 : Ext W0 w9 := Below.grown (alloc_ext _ _) g9 (alloc_ext W0 _).size (fun k hk => by cases hk; exact Nat.le_refl _)
  rw [← hb8] at h9 hsz ⊢
  rw [zc135'] at h9
  clear g9 z1 z2
  obtain ⟨v, hv⟩ : ∃ v, v = D.ac 0 := ⟨_, rfl⟩
  rw [← hv, Nat.add_zero] at ha0
  have HB8 := Lib.hid hb8
  have HV := Lib.hid hv
  clear hb8 hv
  have k2 := cell_of_blk (heap_ext hE9 hB4) 2 (u := .slice (some ⟨ga, oa, none⟩) D.acc.length ca) rfl
  have ka := (hE0.trans hE9).cell ha0
  have c0 : w9.cell? ⟨b8, 1, none⟩ = some (.bool false) := cell_of_blk h9 1 (by
    have := bools_at (List.replicate 256 false) 0 (by rw [List.length_replicate]; omega)
    rw [List.getElem?_toArray] at this ⊢
    have e : (List.replicate 256 false).getD 0 false = false := by kernel_rfl
    rw [e] at this
    exact this)
  have f0 := free_of_blk h9 1
  have H9 := Lib.hid h9
  clear h9 ha0
  go_upto_region 3 with fail
  refine wp_named ?_
  intro W1 hW1
  have hE1 : Ext W0 W1 := by rw [hW1]; exact Ext.setCell hE9 (by show W0.heap.size ≤ b8; rw [HB8.out]; exact Nat.le_refl _) _
  have hB8 : W1.heap[b8]? = some (.cells (Value.int .i64 ((0 : Nat) : Int) :: ((List.replicate 256 false).set 0 v).map Value.bool).toArray 135) := by
    rw [hW1, ← set_one]; exact heap_setCell_same w9 b8 1 _ 135 (.bool v) H9.out
  have hl : ((List.replicate 256 false).set 0 v).length = 256 := by rw [List.length_set, List.length_replicate]
  have hi8 := info135 0 hl
  obtain ⟨q0, hq0⟩ : ∃ q, q = (List.replicate 256 false).set 0 v := ⟨_, rfl⟩
  rw [← hq0] at hl hi8 hB8
  have HQ := Lib.hid (And.intro hq0 HV.out)
  clear hq0
  have hB4 := heap_ext hE1 hB4
  have hB5 := heap_ext hE1 hB5
  have hZ := heap_ext hE1 hZ
  have hsz1 := (Array.getElem?_eq_some_iff.1 hZ).1
  have hE1 := hE0.trans hE1
  have b1 : DBox W1 W.heap.size m D := ⟨rv, _, hB4, DfaV.ext ⟨rv, cr, _, ca, rfl, HD.out.2⟩ hE1⟩
  have b2 : DBox W1 (W.heap.size + 1) m C := ⟨rv', av', hB5, DfaV.ext ⟨rv', cr', av', ca', rfl, HC.out.2⟩ hE1⟩
  have hst : Calls Tryd.prog 97 #[.int .i64 (m : Int), .agg (Value.int .i64 ((0 : Nat) : Int) :: q0.map Value.bool).toArray, .func (.func 98) #[] #[.pointer (some ⟨W.heap.size, 0, none⟩), .pointer (some ⟨W.heap.size + 1, 0, none⟩)], .func (.func 100) #[] #[.pointer (some ⟨W.heap.size + 1, 0, none⟩)]] W1 (RawP R W1) := by
    rw [HR.out]
    unfold behindD
    rw [← HQ.out.2, ← HQ.out.1]
    refine (explore97_any (w := W1) (s0 := (0, q0)) (step := pairS D C) (acc := fun s => smF C s.2) (fun s => s.1 < D.rows.length ∧ s.2.length = 256) (fun s hs => ⟨by have := HD.out.1.big; omega, hs.2⟩) hm
      (fun w' s a e hs ha => behind1_any s HD.out.1 HC.out.1 (b1.ext e) (b2.ext e) hs.1 hs.2 ha)
      (fun w' s e hs => behind2_any s HC.out.1 (b2.ext e) hs.2)
      ⟨HD.out.1.pos, hl⟩ (fun s a hs ha => ⟨HD.out.1.nx hs.1 ha, by unfold pairS; rw [List.length_set]; exact stF_len _ _ _⟩)).mono ?_
    intro e w' h
    exact raw_of h
  have HE1 := Lib.hid (And.intro hE1 (And.intro (show W.heap.size ≤ W.heap.size + 1 + 1 by omega) hsz1))
  obtain ⟨X, hX⟩ : ∃ X, X = (Value.int .i64 ((0 : Nat) : Int) :: q0.map Value.bool).toArray := ⟨_, rfl⟩
  rw [← hX] at hst hi8 hB8
  clear hW1 hB4 hB5 b1 b2 hE1 hsz1 hl hE9 hE0 k2 ka c0 f0 H9 hX hsz
  cases R with
  | none =>
    go_wp2_with (first
      | ((with_reducible refine hst.mono ?_); rintro e W8 ⟨A, n, c, A', n', c', rfl, e8⟩)
      | (with_reducible refine wpList_load_row rfl 135 _ rfl b8 rfl 135 _ (0, 0) _ hB8 Tryd.underlying135 rfl hi8 ?_)
      | (with_reducible refine wpList_store_blk _ rfl 109 _ _ rfl (W.heap.size + 1 + 1) 109 _ _ rfl rfl (heap_ext e8 hZ) (by kernel_rfl) (by kernel_rfl) (by kernel_rfl) ?_; intro w10 h10 g10))
    have hE8 := HE1.out.1.trans e8
    refine bodyPost_ret (results_ct2 rfl _ _ (W.heap.size + 1 + 1) 109 _ (0, 0) _ (by simp [Act.put]) h10 Tryd.underlying109 rfl (by kernel_rfl)) rfl ?_
    exact ⟨A, n, c, A', n', c', by simp [Act.put], Below.grown hE8 g10 hE8.size (fun k hk => by cases hk; exact HE1.out.2.1)⟩
  | some D0 =>
    go_wp2_with (first
      | ((with_reducible refine hst.mono ?_); rintro e W8 ⟨A, c, A', c', rfl, e8, hL⟩)
      | (with_reducible refine wpList_load_row rfl 135 _ rfl b8 rfl 135 _ (0, 0) _ hB8 Tryd.underlying135 rfl hi8 ?_)
      | (with_reducible refine wpList_store_blk _ rfl 109 _ _ rfl (W.heap.size + 1 + 1) 109 _ _ rfl rfl (heap_ext e8 hZ) (by kernel_rfl) (by kernel_rfl) (by kernel_rfl) ?_; intro w10 h10 g10))
    have hE8 := HE1.out.1.trans e8
    refine bodyPost_ret (results_ct2 rfl _ _ (W.heap.size + 1 + 1) 109 _ (0, 0) _ (by simp [Act.put]) h10 Tryd.underlying109 rfl (by kernel_rfl)) rfl ?_
    exact ⟨A, c, A', c', by simp [Act.put], Below.grown hE8 g10 hE8.size (fun k hk => by cases hk; exact HE1.out.2.1), raw_keep e8 g10 HE1.out.1 HE1.out.2.2 hL⟩
set_option maxRecDepth 100000 in
set_option maxHeartbeats 4000000 in
theorem often_any {W : World} {m : Nat} {D : DN} {dv : Value} (hm : m ≤ 16) (hD : D.ok m) (h1 : DfaV W dv (D.dfa m)) :
    Calls Tryd.prog 76 #[.int .i64 (m : Int), dv] W (RawP (oftenD m D) W) := by
  obtain ⟨rv, cr, av, ca, rfl, l1, l2⟩ := h1
  have HD := Lib.hid (And.intro hD (And.intro l1 l2))
  clear l1 l2 hD
  show Calls Tryd.prog 76 #[.int .i64 (m : Int), .agg #[.int .i64 (m : Int), rv, av]] W (RawP (oftenD m D) W)
  obtain ⟨R, hR⟩ : ∃ R, R = oftenD m D := ⟨_, rfl⟩
  rw [← hR]
  have HR := Lib.hid hR
  clear hR
  go_enter Tryd.func76, Tryd.ntmps76
  go_upto_region 1 with fail
  refine wp_named ?_
  intro W0 hW0
  have hE0 : Ext W W0 := by rw [hW0]; exact (alloc_ext _ _).trans (alloc_ext _ _)
  have hB4 : W0.heap[W.heap.size]? = some (.cells #[.int .i64 (m : Int), rv, av] 28) := by rw [hW0]; exact heap_ext (alloc_ext _ _) (heap_alloc_new _ _)
  have hZ : W0.heap[W.heap.size + 1]? = some zRaw := by rw [hW0]; exact heap_new2 _ _ _
  have hsz := (Array.getElem?_eq_some_iff.1 hZ).1
  clear hW0
  have z1 : (Tryd.prog.info? 143).map (·.size) = some (Tryd.zeroCells143.setIfInBounds 0 (.bool true)).size := by rw [zc143']; exact info143 true (by rw [List.length_replicate])
  have z2 : (Tryd.zeroCells143.setIfInBounds 0 (.bool true)).all (·.oneCell') = true := by rw [zc143']; exact spot_ones true _
  have z3 : (Tryd.zeroCells143.setIfInBounds 0 (.bool true)).size = Tryd.zeroCells143.size := by simp
  go_upto_region 2 with (with_reducible refine wpList_store_blk _ rfl 143 _ _ rfl W0.heap.size 143 _ _ rfl rfl (heap_alloc_new _ _) z3 z1 z2 ?_; intro w9 h9 g9)
  obtain ⟨b8, hb8⟩ : ∃ b, b = W0.heap.size := ⟨_, rfl⟩
  have hE9 : Ext W0 w9 := Below.grown (alloc_ext _ _) g9 (alloc_ext W0 _).size (fun k hk => by cases hk; exact Nat.le_refl _)
  rw [← hb8] at h9 hsz ⊢
  rw [zc143'] at h9
  have HB8 := Lib.hid hb8
  clear g9 z1 z2 z3 hb8
  have c0 : w9.cell? ⟨b8, 1, none⟩ = some (.bool false) := cell_of_blk h9 1 (by
    have := bools_at (List.replicate 256 false) 0 (by rw [List.length_replicate]; omega)
    rw [List.getElem?_toArray] at this ⊢
    have e : (List.replicate 256 false).getD 0 false = false := by kernel_rfl
    rw [e] at this
    exact this)
  have f0 := free_of_blk h9 1
  have H9 := Lib.hid h9
  clear h9
  go_upto_region 3 with fail
  refine wp_named ?_
  intro W1 hW1
  have hE1 : Ext W0 W1 := by rw [hW1]; exact Ext.setCell hE9 (by show W0.heap.size ≤ b8; rw [HB8.out]; exact Nat.le_refl _) _
  have hB8 : W1.heap[b8]? = some (.cells (Value.bool true :: ((List.replicate 256 false).set 0 true).map Value.bool).toArray 143) := by
    rw [hW1, ← set_one]; exact heap_setCell_same w9 b8 1 _ 143 (.bool true) H9.out
  have hl : ((List.replicate 256 false).set 0 true).length = 256 := by rw [List.length_set, List.length_replicate]
  have hi8 := info143 true hl
  obtain ⟨q0, hq0⟩ : ∃ q, q = (List.replicate 256 false).set 0 true := ⟨_, rfl⟩
  rw [← hq0] at hl hi8 hB8
  have HQ := Lib.hid hq0
  clear hq0
  have hB4 := heap_ext hE1 hB4
  have hZ := heap_ext hE1 hZ
  have hsz1 := (Array.getElem?_eq_some_iff.1 hZ).1
  have hE1 := hE0.trans hE1
  have b1 : DBox W1 W.heap.size m D := ⟨rv, _, hB4, DfaV.ext ⟨rv, cr, _, ca, rfl, HD.out.2⟩ hE1⟩
  have hst : Calls Tryd.prog 102 #[.int .i64 (m : Int), .agg (Value.bool true :: q0.map Value.bool).toArray, .func (.func 103) #[] #[.pointer (some ⟨W.heap.size, 0, none⟩)], .func (.func 104) #[] #[.pointer (some ⟨W.heap.size, 0, none⟩)]] W1 (RawP R W1) := by
    rw [HR.out]
    unfold oftenD
    rw [← HQ.out]
    refine (explore102_any (w := W1) (s0 := (true, q0)) (step := spotS D) (acc := spotA D) (fun s => s.2.length = 256) (fun s hs => hs) hm
      (fun w' s a e hs ha => often1_any s HD.out.1 (b1.ext e) hs ha)
      (fun w' s e hs => often2_any s HD.out.1 (b1.ext e) hs)
      hl (fun s a hs ha => by unfold spotS; rw [List.length_set]; exact stF_len _ _ _)).mono ?_
    intro e w' h
    exact raw_of h
  have HE1 := Lib.hid (And.intro hE1 (And.intro (show W.heap.size ≤ W.heap.size + 1 by omega) hsz1))
  obtain ⟨X, hX⟩ : ∃ X, X = (Value.bool true :: q0.map Value.bool).toArray := ⟨_, rfl⟩
  rw [← hX] at hst hi8 hB8
  clear hW1 hB4 b1 hE1 hsz1 hl hE9 hE0 c0 f0 H9 hX hsz
  cases R with
  | none =>
    go_wp2_with (first
      | ((with_reducible refine hst.mono ?_); rintro e W8 ⟨A, n, c, A', n', c', rfl, e8⟩)
      | (with_reducible refine wpList_load_row rfl 143 _ rfl b8 rfl 143 _ (0, 0) _ hB8 Tryd.underlying143 rfl hi8 ?_)
      | (with_reducible refine wpList_store_blk _ rfl 109 _ _ rfl (W.heap.size + 1) 109 _ _ rfl rfl (heap_ext e8 hZ) (by kernel_rfl) (by kernel_rfl) (by kernel_rfl) ?_; intro w10 h10 g10))
    have hE8 := HE1.out.1.trans e8
    refine bodyPost_ret (results_ct2 rfl _ _ (W.heap.size + 1) 109 _ (0, 0) _ (by simp [Act.put]) h10 Tryd.underlying109 rfl (by kernel_rfl)) rfl ?_
    exact ⟨A, n, c, A', n', c', by simp [Act.put], Below.grown hE8 g10 hE8.size (fun k hk => by cases hk; exact HE1.out.2.1)⟩
  | some D0 =>
    go_wp2_with (first
      | ((with_reducible refine hst.mono ?_); rintro e W8 ⟨A, c, A', c', rfl, e8, hL⟩)
      | (with_reducible refine wpList_load_row rfl 143 _ rfl b8 rfl 143 _ (0, 0) _ hB8 Tryd.underlying143 rfl hi8 ?_)
      | (with_reducible refine wpList_store_blk _ rfl 109 _ _ rfl (W.heap.size + 1) 109 _ _ rfl rfl (heap_ext e8 hZ) (by kernel_rfl) (by kernel_rfl) (by kernel_rfl) ?_; intro w10 h10 g10))
    have hE8 := HE1.out.1.trans e8
    refine bodyPost_ret (results_ct2 rfl _ _ (W.heap.size + 1) 109 _ (0, 0) _ (by simp [Act.put]) h10 Tryd.underlying109 rfl (by kernel_rfl)) rfl ?_
    exact ⟨A, c, A', c', by simp [Act.put], Below.grown hE8 g10 hE8.size (fun k hk => by cases hk; exact HE1.out.2.1), raw_keep e8 g10 HE1.out.1 HE1.out.2.2 hL⟩
end Go.Proofs.YtmebgomnmlbgnaaDoor
