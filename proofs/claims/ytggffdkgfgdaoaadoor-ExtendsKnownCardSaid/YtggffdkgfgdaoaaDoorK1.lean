/- ExtendsKnown 9, backwards: region 27. -/
import Derived.Test.YtggffdkgfgdaoaaDoorK0
import Derived.Test.YtggffdkgfgdaoaaDoorD8
import Derived.Test.YtggffdkgfgdaoaaDoorCut
namespace Go.Proofs.YtggffdkgfgdaoaaDoor
open Go.RowKit Go.Maps
set_option linter.unusedVariables false
set_option linter.unusedSimpArgs false
attribute [local go_sem] Oper.quietV quietV Oper.gives givesV ext_refl_iff ext_alloc_iff ext_drew_iff ext_drewN_iff
noncomputable def T9 (n : Nat) : Code := textR n Tryd.f9.body
def KLit (xs : List Int) (n : Nat) (v : Value) (w : World) : Prop := ∃ b, v = .slice (some ⟨b, 0, none⟩) n n ∧ IntsC w (.slice (some ⟨b, 0, none⟩) n n) xs n
theorem stays_kLit (xs : List Int) (n : Nat) : Stays Ext (KLit xs n) := fun v w w' e ⟨b, h1, h2⟩ => ⟨b, h1, h2.ext e⟩
def KCnt (v : Value) (w : World) : Prop := ∃ vv sv av, v = .agg #[.int .i64 2, .int .i64 2, .int .i64 1, vv, sv, av] ∧ XtV w cX v
theorem stays_kCnt : Stays Ext KCnt := fun v w w' e ⟨a, b, c, h1, h2⟩ => ⟨a, b, c, h1, h2.ext e⟩
theorem kints_zero (w : World) (n : Nat) (hn : n ≤ 1000) : IntsC (w.alloc (.cells (Array.replicate n (.int .i64 0)) 3)) (.slice (some ⟨w.heap.size, 0, none⟩) n n) (List.replicate n 0) n := by
  refine ⟨some ⟨w.heap.size, 0, none⟩, by rw [List.length_replicate], ?_, by rw [List.length_replicate]; exact Nat.le_refl _, by rw [List.length_replicate]; unfold lenMax; omega⟩
  have := cells_blk (heap_alloc_new w (.cells (Array.replicate n (.int .i64 0)) 3))
  simpa using this
def kZeros : List Int := List.replicate 257 0
theorem nil_ext (w : World) (i : Int) : XtV w ⟨i, 0, 0, [], [], []⟩ (.agg #[.int .i64 i, .int .i64 0, .int .i64 0, .slice none 0 0, .slice none 0 0, .slice none 0 0]) :=
  ⟨_, _, _, 0, 0, 0, rfl, ⟨none, rfl, fun h => by simp at h, Nat.le_refl _, by simp [lenMax], fun u hu => by simp at hu⟩, fit_nil w, ⟨none, [], rfl, rfl, fun h => by simp at h, fun i a x h => by simp at h, Nat.le_refl _, by simp [lenMax]⟩⟩
set_option maxRecDepth 100000 in
set_option maxHeartbeats 16000000 in
theorem known_t27 (w W : World) (A : Option Addr) (c0 c1 c2 c3 c5 c6 c7 c8 c9 c10 c11 c12 c13 c14 c15 c16 c17 c18 c19 c21 c22 c23 c24 c25 c26 c27 c28 c29 c30 c31 c32 c33 c34 c35 c36 c37 c38 c39 c40 c41 c42 c43 c44 c45 c46 c47 c48 c49 c50 c51 c52 c53 c54 c55 c56 c57 c58 c59 c60 c61 c62 c63 c64 c65 c66 c67 c68 c69 c70 c71 c72 c73 c74 c75 c76 c77 c78 c79 c80 c81 c82 c83 c84 c85 c86 c87 c88 c89 c90 c91 c92 c93 c94 c95 c96 c97 c98 c99 c100 c101 c102 c103 c104 c105 c106 c107 c108 c109 c110 c111 c112 c113 c114 c115 c116 c117 c118 c119 c120 c121 c122 c123 c124 c125 c126 c127 c128 c129 c130 c131 c132 c133 c134 c135 c136 c137 c138 c139 c140 c141 c142 c143 c144 c145 c146 c147 c148 c149 c150 c151 c152 c153 c154 c155 c156 c157 c158 c159 c160 c161 c162 c163 c164 c165 c166 c167 c168 c169 c170 c171 c172 c173 c174 c175 c176 c177 c178 c179 c180 c181 c182 c183 c184 c185 c186 c187 c188 c189 c190 c191 c192 c193 c194 c195 c196 c197 c198 c199 c200 c201 c202 c203 c204 c205 c206 c207 c208 c209 c210 c211 c212 c213 : Value) (h0 : Ext w W) (hT : OpsTab W) (hr : FitC W (.slice A 3 3) [1, 0, 0]) :
    Code.wp Tryd.prog (T9 27) (bodyPost Tryd.prog Tryd.f9 (LivP w)) ⟨(c0 :: c1 :: c2 :: c3 :: .int .i64 0 :: c5 :: c6 :: c7 :: c8 :: c9 :: c10 :: c11 :: c12 :: c13 :: c14 :: c15 :: c16 :: c17 :: c18 :: c19 :: .slice A 3 3 :: c21 :: c22 :: c23 :: c24 :: c25 :: c26 :: c27 :: c28 :: c29 :: c30 :: c31 :: c32 :: c33 :: c34 :: c35 :: c36 :: c37 :: c38 :: c39 :: c40 :: c41 :: c42 :: c43 :: c44 :: c45 :: c46 :: c47 :: c48 :: c49 :: c50 :: c51 :: c52 :: c53 :: c54 :: c55 :: c56 :: c57 :: c58 :: c59 :: c60 :: c61 :: c62 :: c63 :: c64 :: c65 :: c66 :: c67 :: c68 :: c69 :: c70 :: c71 :: c72 :: c73 :: c74 :: c75 :: c76 :: c77 :: c78 :: c79 :: c80 :: c81 :: c82 :: c83 :: c84 :: c85 :: c86 :: c87 :: c88 :: c89 :: c90 :: c91 :: c92 :: c93 :: c94 :: c95 :: c96 :: c97 :: c98 :: c99 :: c100 :: c101 :: c102 :: c103 :: c104 :: c105 :: c106 :: c107 :: c108 :: c109 :: c110 :: c111 :: c112 :: c113 :: c114 :: c115 :: c116 :: c117 :: c118 :: c119 :: c120 :: c121 :: c122 :: c123 :: c124 :: c125 :: c126 :: c127 :: c128 :: c129 :: c130 :: c131 :: c132 :: c133 :: c134 :: c135 :: c136 :: c137 :: c138 :: c139 :: c140 :: c141 :: c142 :: c143 :: c144 :: c145 :: c146 :: c147 :: c148 :: c149 :: c150 :: c151 :: c152 :: c153 :: c154 :: c155 :: c156 :: c157 :: c158 :: c159 :: c160 :: c161 :: c162 :: c163 :: c164 :: c165 :: c166 :: c167 :: c168 :: c169 :: c170 :: c171 :: c172 :: c173 :: c174 :: c175 :: c176 :: c177 :: c178 :: c179 :: c180 :: c181 :: c182 :: c183 :: c184 :: c185 :: c186 :: c187 :: c188 :: c189 :: c190 :: c191 :: c192 :: c193 :: c194 :: c195 :: c196 :: c197 :: c198 :: c199 :: c200 :: c201 :: c202 :: c203 :: c204 :: c205 :: c206 :: c207 :: c208 :: c209 :: c210 :: c211 :: c212 :: c213 :: []).toArray, []⟩ W := by
  conv => arg 2; whnf
  have hE0 := Ext.refl W
  have hwd := fun W' u c (e : Ext W W') (hu : IntsC W' u [1, 0, 0] c) => word_lit W' A 3 c [1, 0, 0] u (IntsC.ext hr e) rfl hu
  have h8a := fun W' (e : Ext W W') => ExtendsErrors_any W' _ ⟨17, 0, 0, [], [], []⟩ 0 [] _ 0 _ [] 0 (nil_ext W' 17) (fit_nil W') (fit_nil W') (hT.ext e)
  have hct := fun W' => counter_any W'
  have h8b := fun W' v u c (e : Ext W W') (hv : XtV W' cX v) (hu : IntsC W' u kZeros c) => ExtendsErrors_any W' v cX 1 [] _ 0 u kZeros c hv (fit_nil W') hu (hT.ext e)
  have hlv := fun W' (e : Ext W W') => lives_any W' (hT.ext e)
  have mi : ∀ w, (Instr.makeSlice 28 (.int .i64 257) (.int .i64 257)).run Tryd.prog w = .ok (.slice (some ⟨w.heap.size, 0, none⟩) 257 257) (w.alloc (.cells (Array.replicate 257 (.int .i64 0)) 3)) := fun w => mk_ints 257 (by omega) w
  have HW := Lib.hid h0
  clear h0 hT hr
  go_upto_region 27 with fail
  refine wp_region_ext 14 (factsOf [(2, KLit [1, 0, 0] 3), (3, EqP (.int .i64 1)), (8, EqP (.bool true)), (11, KCnt), (13, KLit kZeros 257)]) (fun k => ([[], [], [], [0, 1, 2], [0, 1, 2, 3], [0, 1, 2, 3, 4], [0, 1, 2, 3, 4, 5], [0, 1, 2, 3, 4, 5], [0, 1, 2, 3, 4, 5, 6, 7], [0, 1, 2, 3, 4, 5, 6, 7, 8], [0, 1, 2, 3, 4, 5, 6, 7, 8, 9], [0, 1, 2, 3, 4, 5, 6, 7, 8, 9, 10], [0, 1, 2, 3, 4, 5, 6, 7, 8, 9, 10], [0, 1, 2, 3, 4, 5, 6, 7, 8, 9, 10], [0, 1, 2, 3, 4, 5, 6, 7, 8, 9, 10, 11, 12, 13], [0, 1, 2, 3, 4, 5, 6, 7, 8, 9, 10, 11, 12, 13, 14], [0, 1, 2, 3, 4, 5, 6, 7, 8, 9, 10, 11, 12, 13, 14, 15], [0, 1, 2, 3, 4, 5, 6, 7, 8, 9, 10, 11, 12, 13, 14, 15, 16], [0, 1, 2, 3, 4, 5, 6, 7, 8, 9, 10, 11, 12, 13, 14, 15, 16, 17], [0, 1, 2, 3, 4, 5, 6, 7, 8, 9, 10, 11, 12, 13, 14, 15, 16, 17, 18]] : List (List Nat)).getD k []) (by kernel_rfl) (by kernel_rfl) Ext.pre (mono_cons (stays_kLit _ _) (mono_cons (stays_eqP _) (mono_cons (stays_eqP _) (mono_cons (stays_kCnt) (mono_cons (stays_kLit _ _) (mono_nil)))))) ?_
  simp only [List.take_succ_cons, List.take_zero]
  repeat (first | (with_reducible refine lexL_quiet' (v := ?_) ?_ ?_ ?_ ?_; rotate_left; (· with_reducible rfl); (· simp [factsOf]); (· intro w1 hw1 _; go_simp; with_reducible rfl); (try simp only [Act.put, List.setIfInBounds_toArray, List.set_cons_zero, List.set_cons_succ])) | (with_reducible refine lexL_skip ?_ ?_; (· simp [Region.wanted, yielded, undef]); (try simp only [Act.put, List.setIfInBounds_toArray, List.set_cons_zero, List.set_cons_succ])) | (with_reducible refine lexL_quiet (v := ?_) ?_ ?_ ?_ ?_; rotate_left; (· simp [Region.wanted, yielded, undef]); (· simp [factsOf]); (· intro w1 hw1 _; go_simp; with_reducible rfl); (try simp only [Act.put, List.setIfInBounds_toArray, List.set_cons_zero, List.set_cons_succ])))
  with_reducible refine lexL_give' (φ := ?_) ?_ ?_ ?_ ?_; rotate_left; (· with_reducible rfl); (· simp only [factsOf, Nat.reduceAdd, ↓reduceIte, Nat.reduceEqDiff]; rfl)
  · intro w5 hw5 _
    go_simp
    exact ⟨w5.heap.size, rfl, ints_lit w5 [1, 0, 0] 3 rfl (by decide)⟩
  rintro v2 w5 hw5 ⟨b2, rfl, -⟩ hk2
  clear hk2 hw5 w5
  (try simp only [Act.put, List.setIfInBounds_toArray, List.set_cons_zero, List.set_cons_succ])
  repeat (first | (with_reducible refine lexL_quiet' (v := ?_) ?_ ?_ ?_ ?_; rotate_left; (· with_reducible rfl); (· simp [factsOf]); (· intro w1 hw1 _; go_simp; with_reducible rfl); (try simp only [Act.put, List.setIfInBounds_toArray, List.set_cons_zero, List.set_cons_succ])) | (with_reducible refine lexL_skip ?_ ?_; (· simp [Region.wanted, yielded, undef]); (try simp only [Act.put, List.setIfInBounds_toArray, List.set_cons_zero, List.set_cons_succ])) | (with_reducible refine lexL_quiet (v := ?_) ?_ ?_ ?_ ?_; rotate_left; (· simp [Region.wanted, yielded, undef]); (· simp [factsOf]); (· intro w1 hw1 _; go_simp; with_reducible rfl); (try simp only [Act.put, List.setIfInBounds_toArray, List.set_cons_zero, List.set_cons_succ])))
  with_reducible refine lexL_give' (φ := ?_) ?_ ?_ ?_ ?_; rotate_left; (· with_reducible rfl); (· simp only [factsOf, Nat.reduceAdd, ↓reduceIte, Nat.reduceEqDiff]; rfl)
  · intro w5 hw5 hk5
    obtain ⟨b2', hv2, h2⟩ := hk5.get 2 (by decide) rfl rfl
    have hv2 := slice_inj hv2
    subst hv2
    go_simp
    refine (hwd w5 _ _ hw5 h2).mono ?_
    rintro e w6 ⟨rfl, e6⟩
    exact ⟨_, rfl, e6, rfl⟩
  rintro v3 w5 hw5 hv3 hk2
  unfold EqP at hv3
  subst hv3
  clear hk2 hw5 w5
  (try simp only [Act.put, List.setIfInBounds_toArray, List.set_cons_zero, List.set_cons_succ])
  repeat (first | (with_reducible refine lexL_quiet' (v := ?_) ?_ ?_ ?_ ?_; rotate_left; (· with_reducible rfl); (· simp [factsOf]); (· intro w1 hw1 _; go_simp; with_reducible rfl); (try simp only [Act.put, List.setIfInBounds_toArray, List.set_cons_zero, List.set_cons_succ])) | (with_reducible refine lexL_skip ?_ ?_; (· simp [Region.wanted, yielded, undef]); (try simp only [Act.put, List.setIfInBounds_toArray, List.set_cons_zero, List.set_cons_succ])) | (with_reducible refine lexL_quiet (v := ?_) ?_ ?_ ?_ ?_; rotate_left; (· simp [Region.wanted, yielded, undef]); (· simp [factsOf]); (· intro w1 hw1 _; go_simp; with_reducible rfl); (try simp only [Act.put, List.setIfInBounds_toArray, List.set_cons_zero, List.set_cons_succ])))
  with_reducible refine lexL_give (φ := ?_) ?_ ?_ ?_ ?_; rotate_left; (· simp [Region.wanted, yielded, undef]); (· simp only [factsOf, Nat.reduceAdd, ↓reduceIte, Nat.reduceEqDiff]; rfl)
  · intro w5 hw5 _
    go_simp
    refine (h8a w5 hw5).mono ?_
    rintro e w6 ⟨rfl, e6⟩
    exact ⟨_, rfl, e6, rfl⟩
  rintro v8 w5 hw5 hv8 hk2
  unfold EqP at hv8
  subst hv8
  clear hk2 hw5 w5
  (try simp only [Act.put, List.setIfInBounds_toArray, List.set_cons_zero, List.set_cons_succ])
  repeat (first | (with_reducible refine lexL_quiet' (v := ?_) ?_ ?_ ?_ ?_; rotate_left; (· with_reducible rfl); (· simp [factsOf]); (· intro w1 hw1 _; go_simp; with_reducible rfl); (try simp only [Act.put, List.setIfInBounds_toArray, List.set_cons_zero, List.set_cons_succ])) | (with_reducible refine lexL_skip ?_ ?_; (· simp [Region.wanted, yielded, undef]); (try simp only [Act.put, List.setIfInBounds_toArray, List.set_cons_zero, List.set_cons_succ])) | (with_reducible refine lexL_quiet (v := ?_) ?_ ?_ ?_ ?_; rotate_left; (· simp [Region.wanted, yielded, undef]); (· simp [factsOf]); (· intro w1 hw1 _; go_simp; with_reducible rfl); (try simp only [Act.put, List.setIfInBounds_toArray, List.set_cons_zero, List.set_cons_succ])))
  with_reducible refine lexL_give (φ := ?_) ?_ ?_ ?_ ?_; rotate_left; (· simp [Region.wanted, yielded, undef]); (· simp only [factsOf, Nat.reduceAdd, ↓reduceIte, Nat.reduceEqDiff]; rfl)
  · intro w5 hw5 _
    go_simp
    refine (hct w5).mono ?_
    rintro e w6 ⟨v, rfl, h1, e6⟩
    obtain ⟨vv, sv, av, vs, c1, c2, hv, _⟩ := id h1
    exact ⟨_, rfl, e6, vv, sv, av, hv, h1.v⟩
  rintro v11 w5 hw5 ⟨vv, sv, av, rfl, -⟩ hk2
  clear hk2 hw5 w5
  (try simp only [Act.put, List.setIfInBounds_toArray, List.set_cons_zero, List.set_cons_succ])
  repeat (first | (with_reducible refine lexL_quiet' (v := ?_) ?_ ?_ ?_ ?_; rotate_left; (· with_reducible rfl); (· simp [factsOf]); (· intro w1 hw1 _; go_simp; with_reducible rfl); (try simp only [Act.put, List.setIfInBounds_toArray, List.set_cons_zero, List.set_cons_succ])) | (with_reducible refine lexL_skip ?_ ?_; (· simp [Region.wanted, yielded, undef]); (try simp only [Act.put, List.setIfInBounds_toArray, List.set_cons_zero, List.set_cons_succ])) | (with_reducible refine lexL_quiet (v := ?_) ?_ ?_ ?_ ?_; rotate_left; (· simp [Region.wanted, yielded, undef]); (· simp [factsOf]); (· intro w1 hw1 _; go_simp; with_reducible rfl); (try simp only [Act.put, List.setIfInBounds_toArray, List.set_cons_zero, List.set_cons_succ])))
  with_reducible refine lexL_give (φ := ?_) ?_ ?_ ?_ ?_; rotate_left; (· simp [Region.wanted, yielded, undef]); (· simp only [factsOf, Nat.reduceAdd, ↓reduceIte, Nat.reduceEqDiff]; rfl)
  · intro w5 hw5 _
    go_simp
    exact ⟨w5.heap.size, rfl, kints_zero w5 257 (by omega)⟩
  rintro v13 w5 hw5 ⟨b13, rfl, -⟩ hk2
  clear hk2 hw5 w5
  (try simp only [Act.put, List.setIfInBounds_toArray, List.set_cons_zero, List.set_cons_succ])
  repeat (first | (with_reducible refine lexL_quiet' (v := ?_) ?_ ?_ ?_ ?_; rotate_left; (· with_reducible rfl); (· simp [factsOf]); (· intro w1 hw1 _; go_simp; with_reducible rfl); (try simp only [Act.put, List.setIfInBounds_toArray, List.set_cons_zero, List.set_cons_succ])) | (with_reducible refine lexL_skip ?_ ?_; (· simp [Region.wanted, yielded, undef]); (try simp only [Act.put, List.setIfInBounds_toArray, List.set_cons_zero, List.set_cons_succ])) | (with_reducible refine lexL_quiet (v := ?_) ?_ ?_ ?_ ?_; rotate_left; (· simp [Region.wanted, yielded, undef]); (· simp [factsOf]); (· intro w1 hw1 _; go_simp; with_reducible rfl); (try simp only [Act.put, List.setIfInBounds_toArray, List.set_cons_zero, List.set_cons_succ])))
  with_reducible refine lexL_nil ?_; intro w1 hw1 hk1; simp only [List.drop_succ_cons, List.drop_zero]
  obtain ⟨_, _, _, _, hcx⟩ := hk1.get 11 rfl rfl
  obtain ⟨b13', hv13, h13⟩ := hk1.get 13 rfl rfl
  have hv13 := slice_inj hv13
  subst hv13
  have h8 := h8b w1 _ _ _ hw1 hcx h13
  have H1 := Lib.hid (HW.out.trans hw1)
  have hlv1 := fun W' (e : Ext w1 W') => hlv W' (hw1.trans e)
  clear hk1 hcx h13 h8a h8b hct hwd mi hw1 hlv
  go_wp2_with (first
    | ((with_reducible refine h8.mono ?_); rintro e W8 ⟨rfl, e8⟩; have hlv8 := hlv1 W8 e8)
    | ((with_reducible refine hlv8.mono ?_); rintro e W9 ⟨rfl, e9⟩))
  go_ret
  exact ⟨rfl, H1.out.trans (e8.trans e9)⟩
end Go.Proofs.YtggffdkgfgdaoaaDoor
