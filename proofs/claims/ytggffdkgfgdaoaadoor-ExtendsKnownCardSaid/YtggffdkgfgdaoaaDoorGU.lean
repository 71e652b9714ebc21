/- counter 30, told with its blocks. (written by gen_k9.py) ExtendsKnown 9: regions 0 to 4, and the whole. -/
import Derived.Test.YtggffdkgfgdaoaaDoorK8
namespace Go.Proofs.YtggffdkgfgdaoaaDoor
open Go.RowKit Go.Maps
set_option linter.unusedVariables false
set_option linter.unusedSimpArgs false
attribute [local go_sem] Oper.quietV quietV Oper.gives givesV ext_refl_iff ext_alloc_iff ext_drew_iff ext_drewN_iff
def VarK (v : Value) (w : World) : Prop := ∃ b, v = .slice (some ⟨b, 0, none⟩) 1 1 ∧ w.heap[b]? = some (.cells #[.string nmN, .int .i64 0, .int .i64 2] 79 (0, 0))
theorem stays_varK : Stays Ext VarK := fun v w w' e ⟨b, h1, h2⟩ => ⟨b, h1, heap_ext e h2⟩
def VarKN (N : Nat) (v : Value) (w : World) : Prop := ∃ b, v = .slice (some ⟨b, 0, none⟩) 1 1 ∧ N ≤ b ∧ w.heap[b]? = some (.cells #[.string nmN, .int .i64 0, .int .i64 2] 79 (0, 0))
theorem stays_varKN (N : Nat) : Stays Ext (VarKN N) := fun v w w' e ⟨b, h1, h2, h3⟩ => ⟨b, h1, h2, heap_ext e h3⟩
def CntK (w : World) (e : Ending) (w' : World) : Prop := ∃ (bv ba : Nat) (As : Option Addr) (ns : Nat), e = .returned (.agg #[.int .i64 2, .int .i64 2, .int .i64 1, .slice (some ⟨bv, 0, none⟩) 1 1, .slice As ns ns, .slice (some ⟨ba, 0, none⟩) 3 3]) ∧ w'.heap[bv]? = some (.cells #[.string nmN, .int .i64 0, .int .i64 2] 79 (0, 0)) ∧ w.heap.size ≤ bv ∧ w.heap.size ≤ ba ∧ IntsT w.heap.size w' (.slice As ns ns) [0] 1 ∧ LitA w.heap.size [cA, cB, cC] (.slice (some ⟨ba, 0, none⟩) 3 3) w' ∧ Ext w w'
set_option maxRecDepth 100000 in
set_option maxHeartbeats 16000000 in
theorem counterK_any (w : World) : Calls Tryd.prog 30 #[] w (CntK w) := by
  go_enter Tryd.func30, Tryd.ntmps30
  go_upto_region 1 with fail
  refine wp_named ?_
  intro W1 hW1
  have hE1 : Ext w W1 := by rw [hW1]; exact alloc_ext w _
  have hB0 : W1.heap[w.heap.size]? = some (.cells #[.int .i64 0, .int .i64 0, .int .i64 0, .slice none 0 0, .slice none 0 0, .slice none 0 0] 31 (0, 0)) := by rw [hW1]; exact heap_alloc_new _ _
  clear hW1
  generalize hd : w.heap.size = N at *
  have HDW := Lib.hid hd
  clear hd
  go_upto_region 2 with ((with_reducible refine (name_lit _ _).mono ?_); rintro e W2 ⟨rfl, e2⟩)
  refine wp_named ?_
  intro W3 hW3
  have hE3 : Ext W1 W3 := by rw [hW3]; exact e2.trans (alloc_ext _ _)
  have hB1 : W3.heap[W2.heap.size]? = some (.cells #[.int .u8 1, .int .i64 0, .slice none 0 0] 68 (0, 0)) := by rw [hW3]; exact heap_alloc_new _ _
  have a0 : ∀ w', Ext W3 w' → w'.cell? ⟨W2.heap.size, 0, none⟩ = some (.int .u8 1) := fun w' h => h.cell (cell_of_blk hB1 0 (u := .int .u8 1) rfl)
  have a1 : ∀ w', Ext W3 w' → w'.cell? ⟨W2.heap.size, 1, none⟩ = some (.int .i64 0) := fun w' h => h.cell (cell_of_blk hB1 1 (u := .int .i64 0) rfl)
  have a2 : ∀ w', Ext W3 w' → w'.cell? ⟨W2.heap.size, 2, none⟩ = some (.slice none 0 0) := fun w' h => h.cell (cell_of_blk hB1 2 (u := .slice none 0 0) rfl)
  have HE3 := Lib.hid (And.intro (hE1.trans hE3) (heap_ext hE3 hB0))
  have hR3 := Ext.refl W3
  have HNS : Hid (∀ w', Ext W3 w' → N ≤ w'.heap.size) := Lib.hid (fun w' h => by rw [← HDW.out]; exact (HE3.out.1.trans h).size)
  clear hW3 hB1 hE3 e2 hE1 hB0
  generalize W2.heap.size = b1 at *
  refine wp_region_ext 29 (factsOf [(1, VarKN N), (2, IntF N [0]), (4, EqP (.agg #[.int .u8 0, .int .i64 2, .slice none 0 0])), (5, TwoF N 7 gA), (7, EqP (.agg #[.int .u8 0, .int .i64 1, .slice none 0 0])), (8, TwoF N 3 uA.ex), (10, UpF1 N uA), (13, EqP (.agg #[.int .u8 0, .int .i64 2, .slice none 0 0])), (14, TwoF N 6 gB), (15, EqP (.agg #[.int .u8 0, .int .i64 0, .slice none 0 0])), (17, UpF1 N uB), (19, EqP (.agg #[.int .u8 0, .int .i64 0, .slice none 0 0])), (20, EqP (.agg #[.int .u8 0, .int .i64 0, .slice none 0 0])), (21, TwoF N 6 gC), (23, EqP (.agg #[.int .u8 0, .int .i64 1, .slice none 0 0])), (24, TwoF N 4 uC.ex), (26, UpF1 N uC), (28, LitA N [cA, cB, cC])]) (fun k => ([[], [0], [], [], [], [3, 4], [], [3, 4, 5], [3, 4, 5, 6, 7], [3, 4, 5, 6, 7, 8], [3, 4, 5, 6, 7, 8, 9], [3, 4, 5, 6, 7, 8, 9, 10], [], [3, 4, 5, 6, 7, 8], [3, 4, 5, 6, 7, 8, 12, 13], [3, 4, 5, 6, 7, 8, 12, 13, 14], [3, 4, 5, 6, 7, 8, 12, 13, 14, 15], [3, 4, 5, 6, 7, 8, 12, 13, 14, 15, 16], [3, 4, 5, 6, 7, 8, 12, 13, 14, 15, 16, 17], [3, 4, 5, 6, 7, 8, 12, 13, 14, 15], [3, 4, 5, 6, 7, 8, 12, 13, 14, 15, 19], [3, 4, 5, 6, 7, 8, 12, 13, 14, 15, 19, 20], [], [3, 4, 5, 6, 7, 8, 12, 13, 14, 15, 19, 20, 21], [3, 4, 5, 6, 7, 8, 12, 13, 14, 15, 19, 20, 21, 22, 23], [3, 4, 5, 6, 7, 8, 12, 13, 14, 15, 19, 20, 21, 22, 23, 24], [3, 4, 5, 6, 7, 8, 12, 13, 14, 15, 19, 20, 21, 22, 23, 24, 25], [3, 4, 5, 6, 7, 8, 12, 13, 14, 15, 19, 20, 21, 22, 23, 24, 25, 26], [3, 4, 5, 6, 7, 8, 9, 10, 11, 12, 13, 14, 15, 16, 17, 18, 19, 20, 21, 22, 23, 24, 25, 26, 27], [0, 1, 2, 3, 4, 5, 6, 7, 8, 9, 10, 11, 12, 13, 14, 15, 16, 17, 18, 19, 20, 21, 22, 23, 24, 25, 26, 27, 28], [0, 1, 2, 3, 4, 5, 6, 7, 8, 9, 10, 11, 12, 13, 14, 15, 16, 17, 18, 19, 20, 21, 22, 23, 24, 25, 26, 27, 28, 29]] : List (List Nat)).getD k []) (by kernel_rfl) (by kernel_rfl) Ext.pre (mono_cons (stays_varKN N) (mono_cons (stays_intF _ _) (mono_cons (stays_eqP _) (mono_cons (stays_twoF _ _ _) (mono_cons (stays_eqP _) (mono_cons (stays_twoF _ _ _) (mono_cons (stays_upF1 _ _) (mono_cons (stays_eqP _) (mono_cons (stays_twoF _ _ _) (mono_cons (stays_eqP _) (mono_cons (stays_upF1 _ _) (mono_cons (stays_eqP _) (mono_cons (stays_eqP _) (mono_cons (stays_twoF _ _ _) (mono_cons (stays_eqP _) (mono_cons (stays_twoF _ _ _) (mono_cons (stays_upF1 _ _) (mono_cons (stays_litA _ _) (mono_nil))))))))))))))))))) ?_
  simp only [List.take_succ_cons, List.take_zero]
  repeat (first | (with_reducible refine lexL_quiet' (v := ?_) ?_ ?_ ?_ ?_; rotate_left; (· with_reducible rfl); (· simp [factsOf]); (· intro w1 hw1 _; go_simp; with_reducible rfl); (try simp only [Act.put, List.setIfInBounds_toArray, List.set_cons_zero, List.set_cons_succ])) | (with_reducible refine lexL_skip ?_ ?_; (· simp [Region.wanted, yielded, undef]); (try simp only [Act.put, List.setIfInBounds_toArray, List.set_cons_zero, List.set_cons_succ])) | (with_reducible refine lexL_quiet (v := ?_) ?_ ?_ ?_ ?_; rotate_left; (· simp [Region.wanted, yielded, undef]); (· simp [factsOf]); (· intro w1 hw1 _; go_simp; with_reducible rfl); (try simp only [Act.put, List.setIfInBounds_toArray, List.set_cons_zero, List.set_cons_succ])))
  with_reducible refine lexL_give' (φ := ?_) ?_ ?_ ?_ ?_; rotate_left; (· with_reducible rfl); (· simp only [factsOf, Nat.reduceAdd, ↓reduceIte, Nat.reduceEqDiff]; rfl)
  · intro w5 hw5 hk5
    go_simp
    exact ⟨w5.heap.size, rfl, HNS.out w5 hw5, heap_alloc_new _ _⟩
  rintro v1 w5 hw5 ⟨b1v, rfl, h1⟩ hk2
  clear hk2 hw5 h1 w5
  (try simp only [Act.put, List.setIfInBounds_toArray, List.set_cons_zero, List.set_cons_succ])
  repeat (first | (with_reducible refine lexL_quiet' (v := ?_) ?_ ?_ ?_ ?_; rotate_left; (· with_reducible rfl); (· simp [factsOf]); (· intro w1 hw1 _; go_simp; with_reducible rfl); (try simp only [Act.put, List.setIfInBounds_toArray, List.set_cons_zero, List.set_cons_succ])) | (with_reducible refine lexL_skip ?_ ?_; (· simp [Region.wanted, yielded, undef]); (try simp only [Act.put, List.setIfInBounds_toArray, List.set_cons_zero, List.set_cons_succ])) | (with_reducible refine lexL_quiet (v := ?_) ?_ ?_ ?_ ?_; rotate_left; (· simp [Region.wanted, yielded, undef]); (· simp [factsOf]); (· intro w1 hw1 _; go_simp; with_reducible rfl); (try simp only [Act.put, List.setIfInBounds_toArray, List.set_cons_zero, List.set_cons_succ])))
  with_reducible refine lexL_give' (φ := ?_) ?_ ?_ ?_ ?_; rotate_left; (· with_reducible rfl); (· simp only [factsOf, Nat.reduceAdd, ↓reduceIte, Nat.reduceEqDiff]; rfl)
  · intro w5 hw5 hk5
    go_simp
    exact ⟨some ⟨w5.heap.size, 0, none⟩, 1, rfl, _, rfl, CellsT.blk (HNS.out w5 hw5) (heap_alloc_new _ _), Nat.le_refl _, by simp [lenMax]⟩
  rintro v2 w5 hw5 ⟨A2, n2, rfl, h2⟩ hk2
  clear hk2 hw5 h2 w5
  (try simp only [Act.put, List.setIfInBounds_toArray, List.set_cons_zero, List.set_cons_succ])
  repeat (first | (with_reducible refine lexL_quiet' (v := ?_) ?_ ?_ ?_ ?_; rotate_left; (· with_reducible rfl); (· simp [factsOf]); (· intro w1 hw1 _; go_simp; with_reducible rfl); (try simp only [Act.put, List.setIfInBounds_toArray, List.set_cons_zero, List.set_cons_succ])) | (with_reducible refine lexL_skip ?_ ?_; (· simp [Region.wanted, yielded, undef]); (try simp only [Act.put, List.setIfInBounds_toArray, List.set_cons_zero, List.set_cons_succ])) | (with_reducible refine lexL_quiet (v := ?_) ?_ ?_ ?_ ?_; rotate_left; (· simp [Region.wanted, yielded, undef]); (· simp [factsOf]); (· intro w1 hw1 _; go_simp; with_reducible rfl); (try simp only [Act.put, List.setIfInBounds_toArray, List.set_cons_zero, List.set_cons_succ])))
  with_reducible refine lexL_give' (φ := ?_) ?_ ?_ ?_ ?_; rotate_left; (· with_reducible rfl); (· simp only [factsOf, Nat.reduceAdd, ↓reduceIte, Nat.reduceEqDiff]; rfl)
  · intro w5 hw5 _
    go_simp
    refine (num_lit w5 2).mono ?_
    rintro e w6 ⟨rfl, e6⟩
    exact ⟨_, rfl, e6, rfl⟩
  rintro v4 w5 hw5 hv4 hk2
  unfold EqP at hv4
  subst hv4
  clear hk2 hw5 w5
  (try simp only [Act.put, List.setIfInBounds_toArray, List.set_cons_zero, List.set_cons_succ])
  repeat (first | (with_reducible refine lexL_quiet' (v := ?_) ?_ ?_ ?_ ?_; rotate_left; (· with_reducible rfl); (· simp [factsOf]); (· intro w1 hw1 _; go_simp; with_reducible rfl); (try simp only [Act.put, List.setIfInBounds_toArray, List.set_cons_zero, List.set_cons_succ])) | (with_reducible refine lexL_skip ?_ ?_; (· simp [Region.wanted, yielded, undef]); (try simp only [Act.put, List.setIfInBounds_toArray, List.set_cons_zero, List.set_cons_succ])) | (with_reducible refine lexL_quiet (v := ?_) ?_ ?_ ?_ ?_; rotate_left; (· simp [Region.wanted, yielded, undef]); (· simp [factsOf]); (· intro w1 hw1 _; go_simp; with_reducible rfl); (try simp only [Act.put, List.setIfInBounds_toArray, List.set_cons_zero, List.set_cons_succ])))
  with_reducible refine lexL_give' (φ := ?_) ?_ ?_ ?_ ?_; rotate_left; (· with_reducible rfl); (· simp only [factsOf, Nat.reduceAdd, ↓reduceIte, Nat.reduceEqDiff]; rfl)
  · intro w5 hw5 _
    go_simp
    refine (two_lit w5 N 7 7 (by decide) (HNS.out w5 hw5) (by decide) (.mk 1 0 []) (.mk 0 2 []) _ _ (name_leaf N _ 0) (num_leaf N _ 2)).mono ?_
    rintro e w6 ⟨A, l, c, rfl, h1, e6⟩
    exact ⟨_, rfl, e6, A, l, c, rfl, h1⟩
  rintro v5 w5 hw5 ⟨A5, l5, c5, rfl, h5⟩ hk2
  clear hk2 hw5 h5 w5
  (try simp only [Act.put, List.setIfInBounds_toArray, List.set_cons_zero, List.set_cons_succ])
  repeat (first | (with_reducible refine lexL_quiet' (v := ?_) ?_ ?_ ?_ ?_; rotate_left; (· with_reducible rfl); (· simp [factsOf]); (· intro w1 hw1 _; go_simp; with_reducible rfl); (try simp only [Act.put, List.setIfInBounds_toArray, List.set_cons_zero, List.set_cons_succ])) | (with_reducible refine lexL_skip ?_ ?_; (· simp [Region.wanted, yielded, undef]); (try simp only [Act.put, List.setIfInBounds_toArray, List.set_cons_zero, List.set_cons_succ])) | (with_reducible refine lexL_quiet (v := ?_) ?_ ?_ ?_ ?_; rotate_left; (· simp [Region.wanted, yielded, undef]); (· simp [factsOf]); (· intro w1 hw1 _; go_simp; with_reducible rfl); (try simp only [Act.put, List.setIfInBounds_toArray, List.set_cons_zero, List.set_cons_succ])))
  with_reducible refine lexL_give' (φ := ?_) ?_ ?_ ?_ ?_; rotate_left; (· with_reducible rfl); (· simp only [factsOf, Nat.reduceAdd, ↓reduceIte, Nat.reduceEqDiff]; rfl)
  · intro w5 hw5 _
    go_simp
    refine (num_lit w5 1).mono ?_
    rintro e w6 ⟨rfl, e6⟩
    exact ⟨_, rfl, e6, rfl⟩
  rintro v7 w5 hw5 hv7 hk2
  unfold EqP at hv7
  subst hv7
  clear hk2 hw5 w5
  (try simp only [Act.put, List.setIfInBounds_toArray, List.set_cons_zero, List.set_cons_succ])
  repeat (first | (with_reducible refine lexL_quiet' (v := ?_) ?_ ?_ ?_ ?_; rotate_left; (· with_reducible rfl); (· simp [factsOf]); (· intro w1 hw1 _; go_simp; with_reducible rfl); (try simp only [Act.put, List.setIfInBounds_toArray, List.set_cons_zero, List.set_cons_succ])) | (with_reducible refine lexL_skip ?_ ?_; (· simp [Region.wanted, yielded, undef]); (try simp only [Act.put, List.setIfInBounds_toArray, List.set_cons_zero, List.set_cons_succ])) | (with_reducible refine lexL_quiet (v := ?_) ?_ ?_ ?_ ?_; rotate_left; (· simp [Region.wanted, yielded, undef]); (· simp [factsOf]); (· intro w1 hw1 _; go_simp; with_reducible rfl); (try simp only [Act.put, List.setIfInBounds_toArray, List.set_cons_zero, List.set_cons_succ])))
  with_reducible refine lexL_give' (φ := ?_) ?_ ?_ ?_ ?_; rotate_left; (· with_reducible rfl); (· simp only [factsOf, Nat.reduceAdd, ↓reduceIte, Nat.reduceEqDiff]; rfl)
  · intro w5 hw5 _
    go_simp
    refine (two_lit w5 N 3 3 (by decide) (HNS.out w5 hw5) (by decide) (.mk 1 0 []) (.mk 0 1 []) _ _ (name_leaf N _ 0) (num_leaf N _ 1)).mono ?_
    rintro e w6 ⟨A, l, c, rfl, h1, e6⟩
    exact ⟨_, rfl, e6, A, l, c, rfl, h1⟩
  rintro v8 w5 hw5 ⟨A8, l8, c8, rfl, h8⟩ hk2
  clear hk2 hw5 h8 w5
  (try simp only [Act.put, List.setIfInBounds_toArray, List.set_cons_zero, List.set_cons_succ])
  repeat (first | (with_reducible refine lexL_quiet' (v := ?_) ?_ ?_ ?_ ?_; rotate_left; (· with_reducible rfl); (· simp [factsOf]); (· intro w1 hw1 _; go_simp; with_reducible rfl); (try simp only [Act.put, List.setIfInBounds_toArray, List.set_cons_zero, List.set_cons_succ])) | (with_reducible refine lexL_skip ?_ ?_; (· simp [Region.wanted, yielded, undef]); (try simp only [Act.put, List.setIfInBounds_toArray, List.set_cons_zero, List.set_cons_succ])) | (with_reducible refine lexL_quiet (v := ?_) ?_ ?_ ?_ ?_; rotate_left; (· simp [Region.wanted, yielded, undef]); (· simp [factsOf]); (· intro w1 hw1 _; go_simp; with_reducible rfl); (try simp only [Act.put, List.setIfInBounds_toArray, List.set_cons_zero, List.set_cons_succ])))
  with_reducible refine lexL_give' (φ := ?_) ?_ ?_ ?_ ?_; rotate_left; (· with_reducible rfl); (· simp only [factsOf, Nat.reduceAdd, ↓reduceIte, Nat.reduceEqDiff]; rfl)
  · intro w5 hw5 hk5
    go_simp
    have hn := twoF_t (hk5.get 8 (by decide) rfl rfl)
    exact ⟨some ⟨w5.heap.size, 0, none⟩, rfl, ups_one (HNS.out w5 hw5) (heap_alloc_new _ _) (hn.ext (alloc_ext _ _))⟩
  rintro v10 w5 hw5 ⟨A10, rfl, h10⟩ hk2
  clear hk2 hw5 h10 w5
  (try simp only [Act.put, List.setIfInBounds_toArray, List.set_cons_zero, List.set_cons_succ])
  repeat (first | (with_reducible refine lexL_quiet' (v := ?_) ?_ ?_ ?_ ?_; rotate_left; (· with_reducible rfl); (· simp [factsOf]); (· intro w1 hw1 _; go_simp; with_reducible rfl); (try simp only [Act.put, List.setIfInBounds_toArray, List.set_cons_zero, List.set_cons_succ])) | (with_reducible refine lexL_skip ?_ ?_; (· simp [Region.wanted, yielded, undef]); (try simp only [Act.put, List.setIfInBounds_toArray, List.set_cons_zero, List.set_cons_succ])) | (with_reducible refine lexL_quiet (v := ?_) ?_ ?_ ?_ ?_; rotate_left; (· simp [Region.wanted, yielded, undef]); (· simp [factsOf]); (· intro w1 hw1 _; go_simp; with_reducible rfl); (try simp only [Act.put, List.setIfInBounds_toArray, List.set_cons_zero, List.set_cons_succ])))
  with_reducible refine lexL_give' (φ := ?_) ?_ ?_ ?_ ?_; rotate_left; (· with_reducible rfl); (· simp only [factsOf, Nat.reduceAdd, ↓reduceIte, Nat.reduceEqDiff]; rfl)
  · intro w5 hw5 _
    go_simp
    refine (num_lit w5 2).mono ?_
    rintro e w6 ⟨rfl, e6⟩
    exact ⟨_, rfl, e6, rfl⟩
  rintro v13 w5 hw5 hv13 hk2
  unfold EqP at hv13
  subst hv13
  clear hk2 hw5 w5
  (try simp only [Act.put, List.setIfInBounds_toArray, List.set_cons_zero, List.set_cons_succ])
  repeat (first | (with_reducible refine lexL_quiet' (v := ?_) ?_ ?_ ?_ ?_; rotate_left; (· with_reducible rfl); (· simp [factsOf]); (· intro w1 hw1 _; go_simp; with_reducible rfl); (try simp only [Act.put, List.setIfInBounds_toArray, List.set_cons_zero, List.set_cons_succ])) | (with_reducible refine lexL_skip ?_ ?_; (· simp [Region.wanted, yielded, undef]); (try simp only [Act.put, List.setIfInBounds_toArray, List.set_cons_zero, List.set_cons_succ])) | (with_reducible refine lexL_quiet (v := ?_) ?_ ?_ ?_ ?_; rotate_left; (· simp [Region.wanted, yielded, undef]); (· simp [factsOf]); (· intro w1 hw1 _; go_simp; with_reducible rfl); (try simp only [Act.put, List.setIfInBounds_toArray, List.set_cons_zero, List.set_cons_succ])))
  with_reducible refine lexL_give' (φ := ?_) ?_ ?_ ?_ ?_; rotate_left; (· with_reducible rfl); (· simp only [factsOf, Nat.reduceAdd, ↓reduceIte, Nat.reduceEqDiff]; rfl)
  · intro w5 hw5 _
    go_simp
    refine (two_lit w5 N 6 6 (by decide) (HNS.out w5 hw5) (by decide) (.mk 1 0 []) (.mk 0 2 []) _ _ (name_leaf N _ 0) (num_leaf N _ 2)).mono ?_
    rintro e w6 ⟨A, l, c, rfl, h1, e6⟩
    exact ⟨_, rfl, e6, A, l, c, rfl, h1⟩
  rintro v14 w5 hw5 ⟨A14, l14, c14, rfl, h14⟩ hk2
  clear hk2 hw5 h14 w5
  (try simp only [Act.put, List.setIfInBounds_toArray, List.set_cons_zero, List.set_cons_succ])
  repeat (first | (with_reducible refine lexL_quiet' (v := ?_) ?_ ?_ ?_ ?_; rotate_left; (· with_reducible rfl); (· simp [factsOf]); (· intro w1 hw1 _; go_simp; with_reducible rfl); (try simp only [Act.put, List.setIfInBounds_toArray, List.set_cons_zero, List.set_cons_succ])) | (with_reducible refine lexL_skip ?_ ?_; (· simp [Region.wanted, yielded, undef]); (try simp only [Act.put, List.setIfInBounds_toArray, List.set_cons_zero, List.set_cons_succ])) | (with_reducible refine lexL_quiet (v := ?_) ?_ ?_ ?_ ?_; rotate_left; (· simp [Region.wanted, yielded, undef]); (· simp [factsOf]); (· intro w1 hw1 _; go_simp; with_reducible rfl); (try simp only [Act.put, List.setIfInBounds_toArray, List.set_cons_zero, List.set_cons_succ])))
  with_reducible refine lexL_give' (φ := ?_) ?_ ?_ ?_ ?_; rotate_left; (· with_reducible rfl); (· simp only [factsOf, Nat.reduceAdd, ↓reduceIte, Nat.reduceEqDiff]; rfl)
  · intro w5 hw5 _
    go_simp
    refine (num_lit w5 0).mono ?_
    rintro e w6 ⟨rfl, e6⟩
    exact ⟨_, rfl, e6, rfl⟩
  rintro v15 w5 hw5 hv15 hk2
  unfold EqP at hv15
  subst hv15
  clear hk2 hw5 w5
  (try simp only [Act.put, List.setIfInBounds_toArray, List.set_cons_zero, List.set_cons_succ])
  repeat (first | (with_reducible refine lexL_quiet' (v := ?_) ?_ ?_ ?_ ?_; rotate_left; (· with_reducible rfl); (· simp [factsOf]); (· intro w1 hw1 _; go_simp; with_reducible rfl); (try simp only [Act.put, List.setIfInBounds_toArray, List.set_cons_zero, List.set_cons_succ])) | (with_reducible refine lexL_skip ?_ ?_; (· simp [Region.wanted, yielded, undef]); (try simp only [Act.put, List.setIfInBounds_toArray, List.set_cons_zero, List.set_cons_succ])) | (with_reducible refine lexL_quiet (v := ?_) ?_ ?_ ?_ ?_; rotate_left; (· simp [Region.wanted, yielded, undef]); (· simp [factsOf]); (· intro w1 hw1 _; go_simp; with_reducible rfl); (try simp only [Act.put, List.setIfInBounds_toArray, List.set_cons_zero, List.set_cons_succ])))
  with_reducible refine lexL_give' (φ := ?_) ?_ ?_ ?_ ?_; rotate_left; (· with_reducible rfl); (· simp only [factsOf, Nat.reduceAdd, ↓reduceIte, Nat.reduceEqDiff]; rfl)
  · intro w5 hw5 hk5
    go_simp
    exact ⟨some ⟨w5.heap.size, 0, none⟩, rfl, ups_one (HNS.out w5 hw5) (heap_alloc_new _ _) (num_leaf _ _ _)⟩
  rintro v17 w5 hw5 ⟨A17, rfl, h17⟩ hk2
  clear hk2 hw5 h17 w5
  (try simp only [Act.put, List.setIfInBounds_toArray, List.set_cons_zero, List.set_cons_succ])
  repeat (first | (with_reducible refine lexL_quiet' (v := ?_) ?_ ?_ ?_ ?_; rotate_left; (· with_reducible rfl); (· simp [factsOf]); (· intro w1 hw1 _; go_simp; with_reducible rfl); (try simp only [Act.put, List.setIfInBounds_toArray, List.set_cons_zero, List.set_cons_succ])) | (with_reducible refine lexL_skip ?_ ?_; (· simp [Region.wanted, yielded, undef]); (try simp only [Act.put, List.setIfInBounds_toArray, List.set_cons_zero, List.set_cons_succ])) | (with_reducible refine lexL_quiet (v := ?_) ?_ ?_ ?_ ?_; rotate_left; (· simp [Region.wanted, yielded, undef]); (· simp [factsOf]); (· intro w1 hw1 _; go_simp; with_reducible rfl); (try simp only [Act.put, List.setIfInBounds_toArray, List.set_cons_zero, List.set_cons_succ])))
  with_reducible refine lexL_give' (φ := ?_) ?_ ?_ ?_ ?_; rotate_left; (· with_reducible rfl); (· simp only [factsOf, Nat.reduceAdd, ↓reduceIte, Nat.reduceEqDiff]; rfl)
  · intro w5 hw5 _
    go_simp
    refine (num_lit w5 0).mono ?_
    rintro e w6 ⟨rfl, e6⟩
    exact ⟨_, rfl, e6, rfl⟩
  rintro v19 w5 hw5 hv19 hk2
  unfold EqP at hv19
  subst hv19
  clear hk2 hw5 w5
  (try simp only [Act.put, List.setIfInBounds_toArray, List.set_cons_zero, List.set_cons_succ])
  repeat (first | (with_reducible refine lexL_quiet' (v := ?_) ?_ ?_ ?_ ?_; rotate_left; (· with_reducible rfl); (· simp [factsOf]); (· intro w1 hw1 _; go_simp; with_reducible rfl); (try simp only [Act.put, List.setIfInBounds_toArray, List.set_cons_zero, List.set_cons_succ])) | (with_reducible refine lexL_skip ?_ ?_; (· simp [Region.wanted, yielded, undef]); (try simp only [Act.put, List.setIfInBounds_toArray, List.set_cons_zero, List.set_cons_succ])) | (with_reducible refine lexL_quiet (v := ?_) ?_ ?_ ?_ ?_; rotate_left; (· simp [Region.wanted, yielded, undef]); (· simp [factsOf]); (· intro w1 hw1 _; go_simp; with_reducible rfl); (try simp only [Act.put, List.setIfInBounds_toArray, List.set_cons_zero, List.set_cons_succ])))
  with_reducible refine lexL_give' (φ := ?_) ?_ ?_ ?_ ?_; rotate_left; (· with_reducible rfl); (· simp only [factsOf, Nat.reduceAdd, ↓reduceIte, Nat.reduceEqDiff]; rfl)
  · intro w5 hw5 _
    go_simp
    refine (num_lit w5 0).mono ?_
    rintro e w6 ⟨rfl, e6⟩
    exact ⟨_, rfl, e6, rfl⟩
  rintro v20 w5 hw5 hv20 hk2
  unfold EqP at hv20
  subst hv20
  clear hk2 hw5 w5
  (try simp only [Act.put, List.setIfInBounds_toArray, List.set_cons_zero, List.set_cons_succ])
  repeat (first | (with_reducible refine lexL_quiet' (v := ?_) ?_ ?_ ?_ ?_; rotate_left; (· with_reducible rfl); (· simp [factsOf]); (· intro w1 hw1 _; go_simp; with_reducible rfl); (try simp only [Act.put, List.setIfInBounds_toArray, List.set_cons_zero, List.set_cons_succ])) | (with_reducible refine lexL_skip ?_ ?_; (· simp [Region.wanted, yielded, undef]); (try simp only [Act.put, List.setIfInBounds_toArray, List.set_cons_zero, List.set_cons_succ])) | (with_reducible refine lexL_quiet (v := ?_) ?_ ?_ ?_ ?_; rotate_left; (· simp [Region.wanted, yielded, undef]); (· simp [factsOf]); (· intro w1 hw1 _; go_simp; with_reducible rfl); (try simp only [Act.put, List.setIfInBounds_toArray, List.set_cons_zero, List.set_cons_succ])))
  with_reducible refine lexL_give' (φ := ?_) ?_ ?_ ?_ ?_; rotate_left; (· with_reducible rfl); (· simp only [factsOf, Nat.reduceAdd, ↓reduceIte, Nat.reduceEqDiff]; rfl)
  · intro w5 hw5 _
    go_simp
    refine (two_lit w5 N 6 6 (by decide) (HNS.out w5 hw5) (by decide) (.mk 0 0 []) (.mk 0 0 []) _ _ (num_leaf N _ 0) (num_leaf N _ 0)).mono ?_
    rintro e w6 ⟨A, l, c, rfl, h1, e6⟩
    exact ⟨_, rfl, e6, A, l, c, rfl, h1⟩
  rintro v21 w5 hw5 ⟨A21, l21, c21, rfl, h21⟩ hk2
  clear hk2 hw5 h21 w5
  (try simp only [Act.put, List.setIfInBounds_toArray, List.set_cons_zero, List.set_cons_succ])
  repeat (first | (with_reducible refine lexL_quiet' (v := ?_) ?_ ?_ ?_ ?_; rotate_left; (· with_reducible rfl); (· simp [factsOf]); (· intro w1 hw1 _; go_simp; with_reducible rfl); (try simp only [Act.put, List.setIfInBounds_toArray, List.set_cons_zero, List.set_cons_succ])) | (with_reducible refine lexL_skip ?_ ?_; (· simp [Region.wanted, yielded, undef]); (try simp only [Act.put, List.setIfInBounds_toArray, List.set_cons_zero, List.set_cons_succ])) | (with_reducible refine lexL_quiet (v := ?_) ?_ ?_ ?_ ?_; rotate_left; (· simp [Region.wanted, yielded, undef]); (· simp [factsOf]); (· intro w1 hw1 _; go_simp; with_reducible rfl); (try simp only [Act.put, List.setIfInBounds_toArray, List.set_cons_zero, List.set_cons_succ])))
  with_reducible refine lexL_give' (φ := ?_) ?_ ?_ ?_ ?_; rotate_left; (· with_reducible rfl); (· simp only [factsOf, Nat.reduceAdd, ↓reduceIte, Nat.reduceEqDiff]; rfl)
  · intro w5 hw5 _
    go_simp
    refine (num_lit w5 1).mono ?_
    rintro e w6 ⟨rfl, e6⟩
    exact ⟨_, rfl, e6, rfl⟩
  rintro v23 w5 hw5 hv23 hk2
  unfold EqP at hv23
  subst hv23
  clear hk2 hw5 w5
  (try simp only [Act.put, List.setIfInBounds_toArray, List.set_cons_zero, List.set_cons_succ])
  repeat (first | (with_reducible refine lexL_quiet' (v := ?_) ?_ ?_ ?_ ?_; rotate_left; (· with_reducible rfl); (· simp [factsOf]); (· intro w1 hw1 _; go_simp; with_reducible rfl); (try simp only [Act.put, List.setIfInBounds_toArray, List.set_cons_zero, List.set_cons_succ])) | (with_reducible refine lexL_skip ?_ ?_; (· simp [Region.wanted, yielded, undef]); (try simp only [Act.put, List.setIfInBounds_toArray, List.set_cons_zero, List.set_cons_succ])) | (with_reducible refine lexL_quiet (v := ?_) ?_ ?_ ?_ ?_; rotate_left; (· simp [Region.wanted, yielded, undef]); (· simp [factsOf]); (· intro w1 hw1 _; go_simp; with_reducible rfl); (try simp only [Act.put, List.setIfInBounds_toArray, List.set_cons_zero, List.set_cons_succ])))
  with_reducible refine lexL_give' (φ := ?_) ?_ ?_ ?_ ?_; rotate_left; (· with_reducible rfl); (· simp only [factsOf, Nat.reduceAdd, ↓reduceIte, Nat.reduceEqDiff]; rfl)
  · intro w5 hw5 _
    go_simp
    refine (two_lit w5 N 4 4 (by decide) (HNS.out w5 hw5) (by decide) (.mk 1 0 []) (.mk 0 1 []) _ _ (name_leaf N _ 0) (num_leaf N _ 1)).mono ?_
    rintro e w6 ⟨A, l, c, rfl, h1, e6⟩
    exact ⟨_, rfl, e6, A, l, c, rfl, h1⟩
  rintro v24 w5 hw5 ⟨A24, l24, c24, rfl, h24⟩ hk2
  clear hk2 hw5 h24 w5
  (try simp only [Act.put, List.setIfInBounds_toArray, List.set_cons_zero, List.set_cons_succ])
  repeat (first | (with_reducible refine lexL_quiet' (v := ?_) ?_ ?_ ?_ ?_; rotate_left; (· with_reducible rfl); (· simp [factsOf]); (· intro w1 hw1 _; go_simp; with_reducible rfl); (try simp only [Act.put, List.setIfInBounds_toArray, List.set_cons_zero, List.set_cons_succ])) | (with_reducible refine lexL_skip ?_ ?_; (· simp [Region.wanted, yielded, undef]); (try simp only [Act.put, List.setIfInBounds_toArray, List.set_cons_zero, List.set_cons_succ])) | (with_reducible refine lexL_quiet (v := ?_) ?_ ?_ ?_ ?_; rotate_left; (· simp [Region.wanted, yielded, undef]); (· simp [factsOf]); (· intro w1 hw1 _; go_simp; with_reducible rfl); (try simp only [Act.put, List.setIfInBounds_toArray, List.set_cons_zero, List.set_cons_succ])))
  with_reducible refine lexL_give' (φ := ?_) ?_ ?_ ?_ ?_; rotate_left; (· with_reducible rfl); (· simp only [factsOf, Nat.reduceAdd, ↓reduceIte, Nat.reduceEqDiff]; rfl)
  · intro w5 hw5 hk5
    go_simp
    have hn := twoF_t (hk5.get 24 (by decide) rfl rfl)
    exact ⟨some ⟨w5.heap.size, 0, none⟩, rfl, ups_one (HNS.out w5 hw5) (heap_alloc_new _ _) (hn.ext (alloc_ext _ _))⟩
  rintro v26 w5 hw5 ⟨A26, rfl, h26⟩ hk2
  clear hk2 hw5 h26 w5
  (try simp only [Act.put, List.setIfInBounds_toArray, List.set_cons_zero, List.set_cons_succ])
  repeat (first | (with_reducible refine lexL_quiet' (v := ?_) ?_ ?_ ?_ ?_; rotate_left; (· with_reducible rfl); (· simp [factsOf]); (· intro w1 hw1 _; go_simp; with_reducible rfl); (try simp only [Act.put, List.setIfInBounds_toArray, List.set_cons_zero, List.set_cons_succ])) | (with_reducible refine lexL_skip ?_ ?_; (· simp [Region.wanted, yielded, undef]); (try simp only [Act.put, List.setIfInBounds_toArray, List.set_cons_zero, List.set_cons_succ])) | (with_reducible refine lexL_quiet (v := ?_) ?_ ?_ ?_ ?_; rotate_left; (· simp [Region.wanted, yielded, undef]); (· simp [factsOf]); (· intro w1 hw1 _; go_simp; with_reducible rfl); (try simp only [Act.put, List.setIfInBounds_toArray, List.set_cons_zero, List.set_cons_succ])))
  with_reducible refine lexL_give' (φ := ?_) ?_ ?_ ?_ ?_; rotate_left; (· with_reducible rfl); (· simp only [factsOf, Nat.reduceAdd, ↓reduceIte, Nat.reduceEqDiff]; rfl)
  · intro w5 hw5 hk5
    go_simp
    have g1 := twoF_t (hk5.get 5 (by decide) rfl rfl)
    have g2 := twoF_t (hk5.get 14 (by decide) rfl rfl)
    have g3 := twoF_t (hk5.get 21 (by decide) rfl rfl)
    have u1 := upF1_t (hk5.get 10 (by decide) rfl rfl)
    have u2 := upF1_t (hk5.get 17 (by decide) rfl rfl)
    have u3 := upF1_t (hk5.get 26 (by decide) rfl rfl)
    refine ⟨w5.heap.size, 3, [⟨0, 0, (7, 0, .slice A5 l5 c5), 0, .slice A10 1 1, 0⟩, ⟨0, 0, (6, 0, .slice A14 l14 c14), 1, .slice A17 1 1, 0⟩, ⟨0, 1, (6, 0, .slice A21 l21 c21), 1, .slice A26 1 1, 0⟩], rfl, rfl, HNS.out w5 hw5, rfl, heap_alloc_new _ _, fun i a y ha hy => ?_⟩
    match i, ha, hy with
    | 0, ha, hy => simp at ha hy; subst ha hy; exact ⟨rfl, rfl, g1.ext (alloc_ext _ _), rfl, ⟨1, u1.keep (.of (alloc_ext _ _))⟩, rfl⟩
    | 1, ha, hy => simp at ha hy; subst ha hy; exact ⟨rfl, rfl, g2.ext (alloc_ext _ _), rfl, ⟨1, u2.keep (.of (alloc_ext _ _))⟩, rfl⟩
    | 2, ha, hy => simp at ha hy; subst ha hy; exact ⟨rfl, rfl, g3.ext (alloc_ext _ _), rfl, ⟨1, u3.keep (.of (alloc_ext _ _))⟩, rfl⟩
  rintro v28 w5 hw5 ⟨b28, n28, vs28, rfl, h28⟩ hk2
  clear hk2 hw5 h28 w5
  (try simp only [Act.put, List.setIfInBounds_toArray, List.set_cons_zero, List.set_cons_succ])
  with_reducible refine lexL_nil ?_; intro w1 hw1 hk1; simp only [List.drop_succ_cons, List.drop_zero]
  obtain ⟨b1', hb1', hN1, hV1⟩ := hk1.get 1 rfl rfl
  have hb1' := slice_inj hb1'
  subst hb1'
  obtain ⟨_, _, _, hV2⟩ := hk1.get 2 rfl rfl
  obtain ⟨b28', n28', vs, hv28, hn28, hN28, hvl, hB28, hat⟩ := hk1.get 28 rfl rfl
  have hn3 : n28' = 3 := hn28.symm
  subst hn3
  have hB0 := heap_ext hw1 HE3.out.2
  have HW := Lib.hid (And.intro hw1 (And.intro hN1 (And.intro hV1 (And.intro hV2 (And.intro hN28 (And.intro hvl (And.intro hB28 hat)))))))
  have H28 := Lib.hid hv28
  clear hk1 hw1 hV1 hV2 hv28 hn28 hN28 hvl hB28 hat a0 a1 a2 hN1
  go_wp2_with (with_reducible refine wpList_store_blk _ rfl 31 _ _ rfl N 31 _ _ rfl rfl hB0 (by kernel_rfl) (by kernel_rfl) (by kernel_rfl) ?_; intro w8 h8 g8)
  refine bodyPost_ret (results_cell_row rfl _ _ N 31 _ (0, 0) _ (by simp [Act.put]) h8 Tryd.underlying31 rfl (by kernel_rfl)) rfl ?_
  have hkp : Kp N w1 w8 := Kp.grown hB0 (.inr rfl) g8
  have hb28 : b28' ≠ N := fun e => by have h := HW.out.2.2.2.2.2.2.1; rw [e, hB0] at h; injection h with h; injection h with _ h _; cases h
  have hb1n : b1v ≠ N := fun e => by have h := HW.out.2.2.1; rw [e, hB0] at h; injection h with h; injection h with _ h _; cases h
  have hB8 := (g8.block b28' (lt_of_block HW.out.2.2.2.2.2.2.1) (by simpa using hb28)).trans HW.out.2.2.2.2.2.2.1
  have hV8 := (g8.block b1v (lt_of_block HW.out.2.2.1) (by simpa using hb1n)).trans HW.out.2.2.1
  have hE := Below.grown (HE3.out.1.trans HW.out.1) g8 (HE3.out.1.trans HW.out.1).size (fun k hk => by cases hk; rw [HDW.out]; exact Nat.le_refl _)
  have h28 := H28.out
  cases h28
  unfold CntK
  rw [HDW.out]
  exact ⟨b1v, b28, A2, n2, rfl, hV8, HW.out.2.1, HW.out.2.2.2.2.1, HW.out.2.2.2.1.keep hkp, ⟨b28, 3, vs, rfl, rfl, HW.out.2.2.2.2.1, HW.out.2.2.2.2.2.1, hB8, fun i a y ha hy => (HW.out.2.2.2.2.2.2.2 i a y ha hy).keep hkp⟩, hE⟩
end Go.Proofs.YtggffdkgfgdaoaaDoor

namespace Go.Proofs.YtggffdkgfgdaoaaDoor
open Go.RowKit Go.Maps
set_option linter.unusedVariables false
set_option linter.unusedSimpArgs false
attribute [local go_sem] Oper.quietV quietV Oper.gives givesV ext_refl_iff ext_alloc_iff ext_drew_iff ext_drewN_iff
theorem CellsT.keepG {N g : Nat} {τ τ' : TypeId} {w w' : World} {A : Option Addr} {cs : List Value} {c0 : Array Value} {f : Nat × Nat} (h : CellsT N τ w A cs) (hg : w.heap[g]? = some (.cells c0 τ' f)) (hne : τ ≠ τ') (e : w.grownBy w' (some g)) : CellsT N τ w' A cs := fun h0 => by
  obtain ⟨b, o, h1, hN, h2, ⟨c1, f1, h4⟩, h3⟩ := h h0
  have h5 := e.block b h2 (fun e => by
    injection e with e
    rw [e, hg] at h4; injection h4 with h4; injection h4 with _ h4 _; exact hne h4.symm)
  exact ⟨b, o, h1, hN, Nat.lt_of_lt_of_le h2 e.size, ⟨c1, f1, h5.trans h4⟩, fun j u hj => (cell_keep h5 _).trans (h3 j u hj)⟩
theorem NodeT.keepG {N g : Nat} {w w' : World} {t : Tr} {v : Value} {c0 : Array Value} {f : Nat × Nat} (h : NodeT N w t v) (hg : w.heap[g]? = some (.cells c0 79 f)) (e : w.grownBy w' (some g)) : NodeT N w' t v := by
  induction h with
  | mk h0 h1 h2 _ h4 h5 ih => exact .mk h0 h1 (h2.keepG hg (by decide) e) ih h4 h5
theorem UpsT.keepG {N g : Nat} {w w' : World} {v : Value} {us : List Up} {c : Nat} {c0 : Array Value} {f : Nat × Nat} (h : UpsT N w v us c) (hg : w.heap[g]? = some (.cells c0 79 f)) (e : w.grownBy w' (some g)) : UpsT N w' v us c := by
  obtain ⟨A, vs, h1, h2, h3, h4, h5⟩ := h
  exact ⟨A, vs, h1, h2, h3.keepG hg (by decide) e, fun i u x hu hx => ⟨(h4 i u x hu hx).1, (h4 i u x hu hx).2.keepG hg e⟩, h5⟩
theorem ArcT.keepG {N g : Nat} {w w' : World} {a : Ac} {x : Av} {c0 : Array Value} {f : Nat × Nat} (h : ArcT N w a x) (hg : w.heap[g]? = some (.cells c0 79 f)) (e : w.grownBy w' (some g)) : ArcT N w' a x := by
  obtain ⟨h1, h2, h3, h4, ⟨c, h5⟩, h6⟩ := h
  exact ⟨h1, h2, h3.keepG hg e, h4, ⟨c, h5.keepG hg e⟩, h6⟩
set_option maxRecDepth 100000 in
set_option maxHeartbeats 16000000 in
theorem ExtendsKnown_any (w : World) (hT : OpsTab w) : Calls Tryd.prog 9 #[] w (LivP w) := by
  have HT := Lib.hid hT
  clear hT
  go_enter Tryd.func9, Tryd.ntmps9
  go_upto_region 2 with ((with_reducible refine (counterK_any _).mono ?_); rintro e W1 ⟨bv, ba, As, ns, rfl, hV, hNv, hNa, hI, hA, e1⟩)
  refine wp_named ?_
  intro W2 hW2
  obtain ⟨As', hAs, hcI, _, _⟩ := id hI
  cases hAs
  have e2 : Ext W1 W2 := by rw [hW2]; exact alloc_ext _ _
  have hD : W2.heap[W1.heap.size]? = some (.cells #[.int .i64 2, .int .i64 2, .int .i64 1, .slice (some ⟨bv, 0, none⟩) 1 1, .slice As 1 1, .slice (some ⟨ba, 0, none⟩) 3 3] 31 (0, 0)) := by rw [hW2]; exact heap_alloc_new _ _
  have hV2 := heap_ext e2 hV
  obtain ⟨d, hd⟩ : ∃ d, d = W1.heap.size := ⟨_, rfl⟩
  rw [← hd] at hD ⊢
  have hdw : w.heap.size ≤ d := by rw [hd]; exact e1.size
  clear hW2 hd
  have hdb : d ≠ bv := fun e => by rw [e, hV2] at hD; injection hD with h; injection h with _ h _; cases h
  have hda : d ≠ ba := fun e => by
    obtain ⟨b', n', vs, hva, _, _, _, hBa, _⟩ := hA
    cases hva
    rw [e, heap_ext e2 hBa] at hD; injection hD with h; injection h with _ h _; cases h
  -- High = 63
  obtain ⟨W3, hW3⟩ : ∃ W3, W3 = W2.setCell ⟨bv, 2, none⟩ (.int .i64 63) := ⟨_, rfl⟩
  have hg3 : W2.grownBy W3 (some bv) := by rw [hW3]; exact grown_setK _ bv 2 _
  have hV3 : W3.heap[bv]? = some (.cells #[.string nmN, .int .i64 0, .int .i64 63] 79 (0, 0)) := by rw [hW3]; exact heap_setCell_same _ bv 2 _ 79 _ hV2
  have hD3 := (hg3.block d (lt_of_block hD) (fun e => hdb (by injection e))).trans hD
  -- the first arc alone
  obtain ⟨W4, hW4⟩ : ∃ W4, W4 = W3.setCell ⟨d, 5, none⟩ (.slice (some ⟨ba, 0, none⟩) 1 3) := ⟨_, rfl⟩
  have hg4 : W3.grownBy W4 (some d) := by rw [hW4]; exact grown_setK _ d 5 _
  have hV4 := (hg4.block bv (lt_of_block hV3) (fun e => hdb (by injection e with e; exact e.symm))).trans hV3
  have hD4 : W4.heap[d]? = some (.cells #[.int .i64 2, .int .i64 2, .int .i64 1, .slice (some ⟨bv, 0, none⟩) 1 1, .slice As 1 1, .slice (some ⟨ba, 0, none⟩) 1 3] 31 (0, 0)) := by rw [hW4]; exact heap_setCell_same _ d 5 _ 31 _ hD3
  have hk4 : Kp w.heap.size W3 W4 := Kp.grown hD3 (.inr rfl) hg4
  have hI4 : IntsT w.heap.size W4 (.slice As 1 1) [0] 1 := ⟨As, rfl, ((hcI.keep (by decide) (.of e2)).keepG hV2 (by decide) hg3).keep (by decide) hk4, Nat.le_refl _, by simp [lenMax]⟩
  obtain ⟨b', n', vs, hva, _, _, hvl, hBa, hat⟩ := hA
  cases hva
  have hBa2 := heap_ext e2 hBa
  have hBa3 := (hg3.block ba (lt_of_block hBa2) (fun e => by injection e with e; rw [e, hV2] at hBa2; injection hBa2 with h; injection h with _ h _; cases h)).trans hBa2
  have hBa4 := (hg4.block ba (lt_of_block hBa3) (fun e => hda (by injection e with e; exact e.symm))).trans hBa3
  have p3 := cell_of_blk hD 3 (u := .slice (some ⟨bv, 0, none⟩) 1 1) rfl
  have k2 := cell_of_blk hV2 2 (u := .int .i64 2) rfl
  have f2 := free_of_blk hV2 2
  go_upto_region 3 with fail
  rw [← hW3]
  have HW3 := Lib.hid hW3
  clear hW3
  clear p3 k2 f2
  have p5 := cell_of_blk hD3 5 (u := .slice (some ⟨ba, 0, none⟩) 3 3) rfl
  have f5 := free_of_blk hD3 5
  go_upto_region 4 with fail
  rw [← hW4]
  clear hW4
  clear p5 f5
  have hR := Ext.refl W4
  have p5 : ∀ w', Ext W4 w' → w'.cell? ⟨d, 5, none⟩ = some (.slice (some ⟨ba, 0, none⟩) 1 3) := fun w' e => e.cell (cell_of_blk hD4 5 rfl)
  obtain ⟨y0, y1, y2, rfl⟩ : ∃ y0 y1 y2, vs = [y0, y1, y2] := by
    match vs, hvl with
    | [a, b, c], _ => exact ⟨a, b, c, rfl⟩
  obtain ⟨t1, t2, t3, t4, ⟨cu, hus⟩, t6⟩ := hat 0 cA y0 rfl rfl
  obtain ⟨r1, r2, ⟨g1, g2, g3⟩, r4, u0, r6⟩ := y0
  subst t1 t2 t4 t6
  have hu4 : UpsT w.heap.size W4 u0 [uA] cu := ((hus.keep (.of e2)).keepG hV2 hg3).keep hk4
  have hw4 : Ext w W4 := Below.grown (Below.grown (e1.trans e2) hg3 (e1.trans e2).size (fun k hk => by cases hk; exact hNv)) hg4 (Nat.le_trans (e1.trans e2).size hg3.size) (fun k hk => by cases hk; exact hdw)
  have HH := Lib.hid (And.intro hV4 (And.intro hD4 (And.intro hI4 (And.intro hBa4 (And.intro hu4 hw4)))))
  have HB := Lib.hid (And.intro hdb (And.intro hda hNa))
  clear hV hV2 hV3 hV4 hD hD3 hD4 hg3 hg4 hk4 hI4 hI hcI hBa hBa2 hBa3 hBa4 hvl hat hdw hus hu4 hw4 t3 hdb hda hNa HW3
  refine wp_region_ext 5 (factsOf [(2, EqP (.agg #[.int .u8 0, .int .i64 0, .slice none 0 0])), (3, EqP (.agg #[.int .u8 0, .int .i64 0, .slice none 0 0])), (4, TwoF 0 6 gC)]) (fun k => ([[], [0], [], [2], [2, 3], [0, 1, 2, 3, 4], [0, 1, 2, 3, 4, 5], [0, 1, 2, 3, 4, 5, 6]] : List (List Nat)).getD k []) (by kernel_rfl) (by kernel_rfl) Ext.pre (mono_cons (stays_eqP _) (mono_cons (stays_eqP _) (mono_cons (stays_twoF _ _ _) (mono_nil)))) ?_
  simp only [List.take_succ_cons, List.take_zero]
  repeat (first | (with_reducible refine lexL_quiet' (v := ?_) ?_ ?_ ?_ ?_; rotate_left; (· with_reducible rfl); (· simp [factsOf]); (· intro w1 hw1 _; go_simp; with_reducible rfl); (try simp only [Act.put, List.setIfInBounds_toArray, List.set_cons_zero, List.set_cons_succ])) | (with_reducible refine lexL_skip ?_ ?_; (· simp [Region.wanted, yielded, undef]); (try simp only [Act.put, List.setIfInBounds_toArray, List.set_cons_zero, List.set_cons_succ])) | (with_reducible refine lexL_quiet (v := ?_) ?_ ?_ ?_ ?_; rotate_left; (· simp [Region.wanted, yielded, undef]); (· simp [factsOf]); (· intro w1 hw1 _; go_simp; with_reducible rfl); (try simp only [Act.put, List.setIfInBounds_toArray, List.set_cons_zero, List.set_cons_succ])))
  with_reducible refine lexL_give' (φ := ?_) ?_ ?_ ?_ ?_; rotate_left; (· with_reducible rfl); (· simp only [factsOf, Nat.reduceAdd, ↓reduceIte, Nat.reduceEqDiff]; rfl)
  · intro w5 hw5 _
    go_simp
    refine (num_lit w5 0).mono ?_
    rintro e w6 ⟨rfl, e6⟩
    exact ⟨_, rfl, e6, rfl⟩
  rintro v2 w5 hw5 hv2 hk2
  unfold EqP at hv2
  subst hv2
  clear hk2 hw5 w5
  (try simp only [Act.put, List.setIfInBounds_toArray, List.set_cons_zero, List.set_cons_succ])
  repeat (first | (with_reducible refine lexL_quiet' (v := ?_) ?_ ?_ ?_ ?_; rotate_left; (· with_reducible rfl); (· simp [factsOf]); (· intro w1 hw1 _; go_simp; with_reducible rfl); (try simp only [Act.put, List.setIfInBounds_toArray, List.set_cons_zero, List.set_cons_succ])) | (with_reducible refine lexL_skip ?_ ?_; (· simp [Region.wanted, yielded, undef]); (try simp only [Act.put, List.setIfInBounds_toArray, List.set_cons_zero, List.set_cons_succ])) | (with_reducible refine lexL_quiet (v := ?_) ?_ ?_ ?_ ?_; rotate_left; (· simp [Region.wanted, yielded, undef]); (· simp [factsOf]); (· intro w1 hw1 _; go_simp; with_reducible rfl); (try simp only [Act.put, List.setIfInBounds_toArray, List.set_cons_zero, List.set_cons_succ])))
  with_reducible refine lexL_give' (φ := ?_) ?_ ?_ ?_ ?_; rotate_left; (· with_reducible rfl); (· simp only [factsOf, Nat.reduceAdd, ↓reduceIte, Nat.reduceEqDiff]; rfl)
  · intro w5 hw5 _
    go_simp
    refine (num_lit w5 0).mono ?_
    rintro e w6 ⟨rfl, e6⟩
    exact ⟨_, rfl, e6, rfl⟩
  rintro v3 w5 hw5 hv3 hk2
  unfold EqP at hv3
  subst hv3
  clear hk2 hw5 w5
  (try simp only [Act.put, List.setIfInBounds_toArray, List.set_cons_zero, List.set_cons_succ])
  repeat (first | (with_reducible refine lexL_quiet' (v := ?_) ?_ ?_ ?_ ?_; rotate_left; (· with_reducible rfl); (· simp [factsOf]); (· intro w1 hw1 _; go_simp; with_reducible rfl); (try simp only [Act.put, List.setIfInBounds_toArray, List.set_cons_zero, List.set_cons_succ])) | (with_reducible refine lexL_skip ?_ ?_; (· simp [Region.wanted, yielded, undef]); (try simp only [Act.put, List.setIfInBounds_toArray, List.set_cons_zero, List.set_cons_succ])) | (with_reducible refine lexL_quiet (v := ?_) ?_ ?_ ?_ ?_; rotate_left; (· simp [Region.wanted, yielded, undef]); (· simp [factsOf]); (· intro w1 hw1 _; go_simp; with_reducible rfl); (try simp only [Act.put, List.setIfInBounds_toArray, List.set_cons_zero, List.set_cons_succ])))
  with_reducible refine lexL_give' (φ := ?_) ?_ ?_ ?_ ?_; rotate_left; (· with_reducible rfl); (· simp only [factsOf, Nat.reduceAdd, ↓reduceIte, Nat.reduceEqDiff]; rfl)
  · intro w5 hw5 hk5
    go_simp
    refine (two_lit w5 0 6 6 (by decide) (Nat.zero_le _) (by decide) (.mk 0 0 []) (.mk 0 0 []) _ _ (num_leaf 0 _ 0) (num_leaf 0 _ 0)).mono ?_
    rintro e w6 ⟨A, l, c, rfl, h1, e6⟩
    exact ⟨_, rfl, e6, A, l, c, rfl, h1⟩
  rintro v4 w5 hw5 ⟨A4, l4, c4, rfl, h4⟩ hk2
  clear hk2 hw5 h4 w5
  (try simp only [Act.put, List.setIfInBounds_toArray, List.set_cons_zero, List.set_cons_succ])
  with_reducible refine lexL_nil ?_; intro w1 hw1 hk1; simp only [List.drop_succ_cons, List.drop_zero]
  have hgd := twoF_t (hk1.get 4 rfl rfl)
  clear hk1
  have hBa := heap_ext hw1 HH.out.2.2.2.1
  obtain ⟨W5, hW5⟩ : ∃ W5, W5 = ((w1.setCell ⟨ba, 2, none⟩ (.int .u8 6)).setCell ⟨ba, 3, none⟩ (.int .i64 0)).setCell ⟨ba, 4, none⟩ (.slice A4 l4 c4) := ⟨_, rfl⟩
  have hg5 : w1.grownBy W5 (some ba) := by rw [hW5]; exact grown_trans (grown_trans (grown_setK _ ba 2 _) (grown_setK _ ba 3 _)) (grown_setK _ ba 4 _)
  have hBa5 : W5.heap[ba]? = some (.cells (avCells ⟨0, 0, (6, 0, .slice A4 l4 c4), 0, u0, 0⟩ ++ (avCells y1 ++ avCells y2)).toArray 71 (0, 0)) := by
    rw [hW5]
    have h := heap_setCell_same _ ba 4 _ 71 (.slice A4 l4 c4) (heap_setCell_same _ ba 3 _ 71 (.int .i64 0) (heap_setCell_same _ ba 2 _ 71 (.int .u8 6) hBa))
    simpa [avCells, cA] using h
  have hkp : Kp w.heap.size w1 W5 := Kp.grown hBa (.inl rfl) hg5
  have hkp0 : Kp 0 w1 W5 := Kp.grown hBa (.inl rfl) hg5
  have hD5 := (hg5.block d (lt_of_block (heap_ext hw1 HH.out.2.1)) (fun e => HB.out.2.1 (by injection e))).trans (heap_ext hw1 HH.out.2.1)
  have hV1 := heap_ext hw1 HH.out.1
  have hV5 := (hg5.block bv (lt_of_block hV1) (fun e => by injection e with e; rw [e, hBa] at hV1; injection hV1 with h; injection h with _ h _; cases h)).trans hV1
  have hI5 := ((HH.out.2.2.1.keep (.of hw1)).keep hkp).v
  have hu5 := ((HH.out.2.2.2.2.1.keep (.of hw1)).keep hkp).v
  have hg5v := (hgd.keep hkp0).v
  have hE5 : Ext w W5 := Below.grown (HH.out.2.2.2.2.2.trans hw1) hg5 (HH.out.2.2.2.2.2.trans hw1).size (fun k hk => by cases hk; exact HB.out.2.2)
  have hVC : VarsC W5 (.slice (some ⟨bv, 0, none⟩) 1 1) kX.vars 1 := (show VarsT 0 W5 _ kX.vars 1 from ⟨_, rfl, CellsT.blk (Nat.zero_le _) hV5, Nat.le_refl _, by simp [kX, lenMax], fun u hu => by simp [kX] at hu; subst hu; decide⟩).v
  have hAC : AcsC W5 (.slice (some ⟨ba, 0, none⟩) 1 3) kX.arcs 3 := ⟨_, [⟨0, 0, (6, 0, .slice A4 l4 c4), 0, u0, 0⟩], rfl, rfl, fun _ => ⟨ba, 0, rfl, lt_of_block hBa5, fun j u hj => by
      rw [Nat.zero_add]
      refine cell_of_blk hBa5 j ?_
      have hlt := (List.getElem?_eq_some_iff.1 hj).1
      simp only [List.flatMap_cons, List.flatMap_nil, List.append_nil] at hj hlt
      rw [List.getElem?_toArray, List.getElem?_append_left hlt]
      exact hj⟩, fun i a x ha hx => by
        match i, ha, hx with
        | 0, ha, hx => simp [kX] at ha hx; subst ha hx; exact ⟨rfl, rfl, hg5v, rfl, ⟨_, hu5⟩, rfl⟩, by decide, by decide⟩
  have hX5 : XtV W5 kX (.agg #[.int .i64 2, .int .i64 2, .int .i64 1, .slice (some ⟨bv, 0, none⟩) 1 1, .slice As 1 1, .slice (some ⟨ba, 0, none⟩) 1 3]) := ⟨_, _, _, _, _, _, rfl, hVC, hI5, hAC⟩
  have H5 := Lib.hid (And.intro hE5 (And.intro hD5 hX5))
  have k2 := cell_of_blk hBa 2 (u := .int .u8 g1) rfl
  have k3 := cell_of_blk hBa 3 (u := .int .i64 g2) rfl
  have k4 := cell_of_blk hBa 4 (u := g3) rfl
  have f2 := free_of_blk hBa 2
  have f3 := free_of_blk hBa 3
  have f4 := free_of_blk hBa 4
  have HN := Lib.hid hW5
  clear hBa hW5 hg5 hBa5 hkp hkp0 hD5 hV1 hV5 hI5 hu5 hg5v hE5 hVC hAC hX5 p5 hgd
  go_upto_region 999 with (first
    | (with_reducible refine stop_at 5 ?_)
    | (with_reducible refine stop_at2 5 ?_))
  refine ⟨?_⟩
  rw [← HN.out]
  exact known_t5 w W5 d _ _ _ _ _ _ _ _ _ _ _ _ _ _ _ _ _ _ _ _ _ _ _ _ _ _ _ _ _ _ _ _ _ _ _ _ _ _ _ _ _ _ _ _ _ _ _ _ _ _ _ _ _ _ _ _ _ _ _ _ _ _ _ _ _ _ _ _ _ _ _ _ _ _ _ _ _ _ _ _ _ _ _ _ _ _ _ _ _ _ _ _ _ _ _ _ _ _ _ _ _ _ _ _ _ _ _ _ _ _ _ _ _ _ _ _ _ _ _ _ _ _ _ _ _ _ _ _ _ _ _ _ _ _ _ _ _ _ _ _ _ _ _ _ _ _ _ _ _ _ _ _ _ _ _ _ _ _ _ _ _ _ _ _ _ _ _ _ _ _ _ _ _ _ _ _ _ _ _ _ _ _ _ _ _ _ _ _ _ _ _ _ _ _ _ _ _ _ _ _ _ _ _ _ _ _ _ _ _ _ _ _ _ _ _ _ _ _ _ H5.out.1 HT.out H5.out.2.1 H5.out.2.2
end Go.Proofs.YtggffdkgfgdaoaaDoor
