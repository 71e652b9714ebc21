/- IocosKnown 10, from its beginning. -/
import Derived.Test.YtamodjlifpjaoaaDoorK4
import Derived.Test.YtamodjlifpjaoaaDoorGF
import Derived.Test.YtamodjlifpjaoaaDoorGE
import Derived.Test.YtamodjlifpjaoaaDoorGI
namespace Go.Proofs.YtamodjlifpjaoaaDoor
open Go.RowKit
set_option linter.unusedVariables false
set_option linter.unusedSimpArgs false
attribute [local go_sem] Oper.quietV quietV Oper.gives givesV ext_refl_iff ext_alloc_iff ext_drew_iff ext_drewN_iff
def kPlan (n : Nat) : List Int := List.replicate n (-1)
theorem kPlan_len (n : Nat) : (kPlan n).length = n := List.length_replicate
theorem make_watch {x : Lts} (h0 : checkI x = 0) {n : Nat} (hn : n ≤ 256) : makeR x (kPlan n) = if 1024 < (mkT x (kPlan n) (begM x) 0).length then ([], 3) else (mkT x (kPlan n) (begM x) 0, 0) := by
  unfold makeR
  rw [if_neg (by rw [h0]; simp), if_neg (by rw [kPlan_len]; omega), if_neg]
  rw [Bool.not_eq_true, List.any_eq_false]
  intro a ha
  rw [List.eq_of_mem_replicate ha]
  have h := (check_good h0).ins
  unfold badP
  simp
theorem loop_make : ∃ L, makeR loopX (kPlan 9) = (L, 0) ∧ L.length = 19 := by
  have h := loop_val
  refine ⟨mkT loopX (kPlan 9) (begM loopX) 0, ?_, h.2⟩
  rw [make_watch h.1 (by omega), if_neg]
  have h2 : (mkT loopX (kPlan 9) (begM loopX) 0).length = 19 := h.2
  omega
theorem still_make8 : ∃ L, makeR stillX (kPlan 8) = (L, 0) ∧ L.length = 766 := by
  have h := still_val
  refine ⟨mkT stillX (kPlan 8) (begM stillX) 0, ?_, h.2⟩
  rw [make_watch h.1 (by omega), if_neg]
  have h2 : (mkT stillX (kPlan 8) (begM stillX) 0).length = 766 := h.2
  omega
theorem still_make9 : makeR stillX (kPlan 9) = ([], 3) := by
  rw [make_watch still_val.1 (by omega), if_pos]
  have h2 : (mkT stillX (kPlan 9) (begM stillX) 0).length = 1534 := still_val9
  omega
theorem both_obs : observeR bothX [0, 1] = ([0], 0) ∧ afterR bothX [1] = ([], 0) := by decide +kernel
set_option maxRecDepth 100000 in
set_option maxHeartbeats 16000000 in
theorem known_t10 (w W : World) (b1 b4 : Nat) (c0 c2 c3 c5 c6 c7 c8 c9 c10 c11 c12 c13 c14 c15 c16 c17 c18 c19 c20 c21 c22 c23 c24 c25 c26 c27 c28 c29 c30 c31 c32 c33 c34 c35 c36 c37 c38 c39 c40 c41 c42 c43 c44 c45 c46 c47 c48 c49 c50 c51 c52 c53 c54 c55 c56 c57 c58 c59 c60 c61 c62 c63 c64 c65 c66 c67 c68 c69 c70 c71 c72 c73 c74 c75 c76 c77 c78 c79 c80 c81 c82 c83 c84 c85 c86 c87 c88 c89 c90 c91 c92 c93 c94 c95 c96 c97 c98 c99 c100 c101 c102 c103 c104 c105 c106 c107 c108 c109 c110 c111 c112 c113 c114 c115 c116 c117 c118 c119 c120 c121 c122 c123 c124 c125 c126 c127 c128 c129 c130 c131 c132 c133 c134 c135 c136 c137 c138 c139 c140 c141 c142 c143 c144 c145 c146 c147 c148 c149 c150 c151 c152 c153 c154 c155 c156 c157 c158 c159 c160 c161 c162 c163 c164 c165 c166 c167 c168 c169 c170 c171 c172 c173 c174 c175 c176 c177 c178 c179 c180 c181 c182 c183 c184 c185 c186 c187 c188 c189 c190 c191 c192 c193 c194 c195 c196 c197 c198 c199 c200 c201 c202 c203 c204 c205 c206 c207 c208 c209 c210 c211 c212 c213 c214 c215 c216 c217 c218 c219 c220 c221 c222 c223 c224 c225 c226 c227 c228 c229 c230 : Value) (h0 : Ext w W) (hT : Tab W) (hb : BoxL W b1 loopX) (hc : BoxL W b4 bothX) :
    Code.wp Tryd.prog (T10 10) (bodyPost Tryd.prog Tryd.f10 (KnownP w)) ⟨(c0 :: .pointer (some ⟨b1, 0, none⟩) :: c2 :: c3 :: .pointer (some ⟨b4, 0, none⟩) :: c5 :: c6 :: c7 :: c8 :: c9 :: c10 :: c11 :: c12 :: c13 :: c14 :: c15 :: c16 :: c17 :: c18 :: c19 :: c20 :: c21 :: c22 :: c23 :: c24 :: c25 :: c26 :: c27 :: c28 :: c29 :: c30 :: c31 :: c32 :: c33 :: c34 :: c35 :: c36 :: c37 :: c38 :: c39 :: c40 :: c41 :: c42 :: c43 :: c44 :: c45 :: c46 :: c47 :: c48 :: c49 :: c50 :: c51 :: c52 :: c53 :: c54 :: c55 :: c56 :: c57 :: c58 :: c59 :: c60 :: c61 :: c62 :: c63 :: c64 :: c65 :: c66 :: c67 :: c68 :: c69 :: c70 :: c71 :: c72 :: c73 :: c74 :: c75 :: c76 :: c77 :: c78 :: c79 :: c80 :: c81 :: c82 :: c83 :: c84 :: c85 :: c86 :: c87 :: c88 :: c89 :: c90 :: c91 :: c92 :: c93 :: c94 :: c95 :: c96 :: c97 :: c98 :: c99 :: c100 :: c101 :: c102 :: c103 :: c104 :: c105 :: c106 :: c107 :: c108 :: c109 :: c110 :: c111 :: c112 :: c113 :: c114 :: c115 :: c116 :: c117 :: c118 :: c119 :: c120 :: c121 :: c122 :: c123 :: c124 :: c125 :: c126 :: c127 :: c128 :: c129 :: c130 :: c131 :: c132 :: c133 :: c134 :: c135 :: c136 :: c137 :: c138 :: c139 :: c140 :: c141 :: c142 :: c143 :: c144 :: c145 :: c146 :: c147 :: c148 :: c149 :: c150 :: c151 :: c152 :: c153 :: c154 :: c155 :: c156 :: c157 :: c158 :: c159 :: c160 :: c161 :: c162 :: c163 :: c164 :: c165 :: c166 :: c167 :: c168 :: c169 :: c170 :: c171 :: c172 :: c173 :: c174 :: c175 :: c176 :: c177 :: c178 :: c179 :: c180 :: c181 :: c182 :: c183 :: c184 :: c185 :: c186 :: c187 :: c188 :: c189 :: c190 :: c191 :: c192 :: c193 :: c194 :: c195 :: c196 :: c197 :: c198 :: c199 :: c200 :: c201 :: c202 :: c203 :: c204 :: c205 :: c206 :: c207 :: c208 :: c209 :: c210 :: c211 :: c212 :: c213 :: c214 :: c215 :: c216 :: c217 :: c218 :: c219 :: c220 :: c221 :: c222 :: c223 :: c224 :: c225 :: c226 :: c227 :: c228 :: c229 :: c230 :: []).toArray, []⟩ W := by
  conv => arg 2; whnf
  obtain ⟨pA, pc, p0, p1, p2, pS⟩ := hc
  have p0 := fun w' (h : Ext W w') => h.cell p0
  have p1 := fun w' (h : Ext W w') => h.cell p1
  have p2 := fun w' (h : Ext W w') => h.cell p2
  have HX := Lib.hid (And.intro h0 (And.intro hT hb))
  have hob := Observe_any (W.alloc (.cells #[.int .i64 0, .int .i64 1] 3)) _ bothX (.slice (some ⟨W.heap.size, 0, none⟩) 2 2) [0, 1] 2 (pS.ext (alloc_ext W _)) (ints_blk (heap_alloc_new W _) rfl rfl (by omega)) (hT.ext (alloc_ext W _))
  rw [both_obs.1] at hob
  have haf := fun W' (e : Ext W W') => After_any (W'.alloc (.cells #[.int .i64 1] 3)) _ bothX (.slice (some ⟨W'.heap.size, 0, none⟩) 1 1) [1] 1 (pS.ext (e.alloc _)) (ints_blk (heap_alloc_new W' _) rfl rfl (by omega)) (hT.ext (e.alloc _))
  rw [both_obs.2] at haf
  have hE0 := Ext.refl W
  clear h0 hT hb pS
  generalize bothX.ins = bi at *
  generalize bothX.outs = bo at *
  generalize bothX.rows.length = bn at *
  go_upto_region 11 with ((with_reducible refine hob.mono ?_); rintro e W5 ⟨rv, rfl, hf5, e5⟩)
  have e05 := (alloc_ext W (.cells #[.int .i64 0, .int .i64 1] 3)).trans e5
  have haf5 := haf W5 e05
  have p0 := fun w' (h : Ext W5 w') => p0 w' (e05.trans h)
  have p1 := fun w' (h : Ext W5 w') => p1 w' (e05.trans h)
  have p2 := fun w' (h : Ext W5 w') => p2 w' (e05.trans h)
  have hE5 := Ext.refl W5
  have H5 := Lib.hid (And.intro hf5 e05)
  clear hob haf e5 e05 hf5 hE0
  go_upto_region 12 with ((with_reducible refine haf5.mono ?_); rintro e W6 ⟨rv6, rfl, ⟨A6, rfl, _⟩, e6⟩)
  have e56 := (alloc_ext W5 (.cells #[.int .i64 1] 3)).trans e6
  obtain ⟨A5, rfl, _⟩ := id H5.out.1
  have hsm : Calls Tryd.prog 15 #[.slice A5 1 1, .int .i64 0, .slice (some ⟨W6.heap.size, 0, none⟩) 1 1] (W6.alloc (.cells #[.int .i64 0] 3)) (fun r w' => r = .returned (.int .i64 1) ∧ Ext (W6.alloc (.cells #[.int .i64 0] 3)) w') := sameE_any (W6.alloc (.cells #[.int .i64 0] 3)) _ (.slice (some ⟨W6.heap.size, 0, none⟩) 1 1) [0] [0] 1 1 0 ((H5.out.1.ext e56).ext (alloc_ext W6 _)) (ints_blk (heap_alloc_new W6 _) rfl rfl (by omega)) (by omega)
  have H6 := Lib.hid (H5.out.2.trans e56)
  clear haf5 e6 e56 p0 p1 p2 hE5
  go_upto_region 999 with (first | (with_reducible refine stop_at 14 ?_) | (with_reducible refine stop_at2 14 ?_) | ((with_reducible refine hsm.mono ?_); rintro e W7 ⟨rfl, e7⟩))
  refine ⟨?_⟩
  have e9 := H6.out.trans ((alloc_ext W6 (.cells #[.int .i64 0] 3)).trans e7)
  exact known_t14 w W7 b1 _ _ _ _ _ _ _ _ _ _ _ _ _ _ _ _ _ _ _ _ _ _ _ _ _ _ _ _ _ _ _ _ _ _ _ _ _ _ _ _ _ _ _ _ _ _ _ _ _ _ _ _ _ _ _ _ _ _ _ _ _ _ _ _ _ _ _ _ _ _ _ _ _ _ _ _ _ _ _ _ _ _ _ _ _ _ _ _ _ _ _ _ _ _ _ _ _ _ _ _ _ _ _ _ _ _ _ _ _ _ _ _ _ _ _ _ _ _ _ _ _ _ _ _ _ _ _ _ _ _ _ _ _ _ _ _ _ _ _ _ _ _ _ _ _ _ _ _ _ _ _ _ _ _ _ _ _ _ _ _ _ _ _ _ _ _ _ _ _ _ _ _ _ _ _ _ _ _ _ _ _ _ _ _ _ _ _ _ _ _ _ _ _ _ _ _ _ _ _ _ _ _ _ _ _ _ _ _ _ _ _ _ _ _ _ _ _ _ _ _ _ _ _ _ _ _ _ _ _ _ (HX.out.1.trans e9) (HX.out.2.1.ext e9) (HX.out.2.2.ext e9)
theorem box_lit {W : World} {b2 b3 : Nat} {x : Lts} {vs : List Value} {n : Nat} (hn : x.rows.length = n) (hl : vs.length = n) (h3 : W.heap[b3]? = some (.cells #[.int .i64 x.ins, .int .i64 x.outs, .slice (some ⟨b2, 0, none⟩) n n] 28 (0, 0))) (h2 : W.heap[b2]? = some (.cells vs.toArray 68 (0, 0))) (hr : LsArcs vs x.rows W) (h10 : n ≤ 100000) : BoxL W b3 x := by
  subst hn
  refine ⟨some ⟨b2, 0, none⟩, x.rows.length, cell_of_blk h3 0 rfl, cell_of_blk h3 1 rfl, cell_of_blk h3 2 rfl, _, rfl, some ⟨b2, 0, none⟩, x.rows.length, vs, rfl, ?_, hl, fun i u es hu hes => hr.2 i u es hu hes, Nat.le_refl _, by unfold lenMax; omega⟩
  have := cells_blk h2
  simpa using this
theorem one_row {W : World} {u : Value} {l : List Arc} (h : ArcW u l W) : LsArcs [u] [l] W := (LsArcs.nil W).snoc h
theorem arcs_new {w : World} {b : Nat} {l : List Arc} {n : Nat} {cs : Array Value} (hn : l.length = n) (h : w.heap[b]? = some (.cells cs 67 (0, 0))) (hc : cs.toList = l.flatMap arcCells) (h10 : n ≤ 1000) : ArcW (.slice (some ⟨b, 0, none⟩) n n) l w := by
  subst hn
  exact ⟨some ⟨b, 0, none⟩, l.length, rfl, hc ▸ cells_blk h, Nat.le_refl _, by unfold lenMax; omega⟩
set_option maxRecDepth 100000 in
set_option maxHeartbeats 16000000 in
theorem iocosKnown_any (w : World) (hT : Tab w) : Calls Tryd.prog 10 #[] w (KnownP w) := by
  have HT := Lib.hid hT
  clear hT
  go_enter Tryd.func10, Tryd.ntmps10
  go_upto_region 1 with fail
  go_upto_region 2 with (with_reducible refine wpList_store_blk _ rfl 28 _ _ rfl ((w.alloc (.cells #[.int .u8 2, .int .i64 0, .int .i64 0] 67)).alloc (.cells #[.slice (some ⟨w.heap.size, 0, none⟩) 1 1] 68)).heap.size 28 _ _ rfl rfl (heap_alloc_new _ _) (by kernel_rfl) (by kernel_rfl) (by kernel_rfl) ?_; intro w4 h4' g4)
  refine wp_named ?_
  intro W3 hW3
  have e3 : Ext w W3 := by rw [hW3]; exact (((Ext.refl w).alloc _).alloc _).alloc _
  have hA : W3.heap[w.heap.size]? = some (.cells #[.int .u8 2, .int .i64 0, .int .i64 0] 67 (0, 0)) := by rw [hW3]; exact heap_ext (alloc_ext _ _) (heap_ext (alloc_ext _ _) (heap_alloc_new w _))
  have hB : W3.heap[w.heap.size + 1]? = some (.cells #[.slice (some ⟨w.heap.size, 0, none⟩) 1 1] 68 (0, 0)) := by
    rw [hW3]
    refine heap_ext (alloc_ext _ _) ?_
    have := heap_alloc_new (w.alloc (.cells #[.int .u8 2, .int .i64 0, .int .i64 0] 67)) (.cells #[.slice (some ⟨w.heap.size, 0, none⟩) 1 1] 68)
    simpa using this
  have hC : W3.heap[w.heap.size + 1 + 1]? = some (.cells #[.int .i64 0, .int .i64 1, .slice (some ⟨w.heap.size + 1, 0, none⟩) 1 1] 28 (0, 0)) := by
    rw [hW3]
    have := heap_alloc_new ((w.alloc (.cells #[.int .u8 2, .int .i64 0, .int .i64 0] 67)).alloc (.cells #[.slice (some ⟨w.heap.size, 0, none⟩) 1 1] 68)) (.cells #[.int .i64 0, .int .i64 1, .slice (some ⟨w.heap.size + 1, 0, none⟩) 1 1] 28)
    simpa using this
  have hBox : BoxL W3 (w.heap.size + 1 + 1) loopX := box_lit (n := 1) rfl rfl hC hB (one_row (arcs_new rfl hA rfl (by omega))) (by omega)
  clear hW3 hA hB hC
  generalize w.heap.size + 1 + 1 = b1 at *
  generalize w.heap.size + 1 = bq at *
  generalize w.heap.size = br at *
  have HB := Lib.hid (And.intro e3 hBox)
  obtain ⟨pA, pc, p0, p1, p2, pS⟩ := hBox
  have p0 := fun w' (h : Ext W3 w') => h.cell p0
  have p1 := fun w' (h : Ext W3 w') => h.cell p1
  have p2 := fun w' (h : Ext W3 w') => h.cell p2
  obtain ⟨L, hL, hLl⟩ := loop_make
  have hmk := Make_any (W3.alloc (.cells #[.int .i64 (-1), .int .i64 (-1), .int .i64 (-1), .int .i64 (-1), .int .i64 (-1), .int .i64 (-1), .int .i64 (-1), .int .i64 (-1), .int .i64 (-1)] 3)) _ loopX (.slice (some ⟨W3.heap.size, 0, none⟩) 9 9) (kPlan 9) 9 (pS.ext (alloc_ext W3 _)) (ints_blk (heap_alloc_new W3 _) rfl (kPlan_len 9) (by omega)) (HT.out.ext (e3.trans (alloc_ext W3 _)))
  rw [hL] at hmk
  unfold MakeP at hmk
  have hE0 := Ext.refl W3
  clear hL pS e3
  generalize loopX.ins = li at *
  generalize loopX.outs = lo at *
  generalize loopX.rows.length = ln at *
  go_upto_region 3 with ((with_reducible refine hmk.mono ?_); rintro e W5 ⟨rv, rfl, ⟨A5, M5, _, hv5, _⟩, e5⟩)
  subst hv5
  have H5 := Lib.hid (HB.out.1.trans ((alloc_ext W3 (.cells #[.int .i64 (-1), .int .i64 (-1), .int .i64 (-1), .int .i64 (-1), .int .i64 (-1), .int .i64 (-1), .int .i64 (-1), .int .i64 (-1), .int .i64 (-1)] 3)).trans e5))
  have HB5 := Lib.hid (HB.out.2.ext ((alloc_ext W3 (.cells #[.int .i64 (-1), .int .i64 (-1), .int .i64 (-1), .int .i64 (-1), .int .i64 (-1), .int .i64 (-1), .int .i64 (-1), .int .i64 (-1), .int .i64 (-1)] 3)).trans e5))
  clear hmk e5 p0 p1 p2 hE0 HB
  -- both
  go_upto_region 4 with fail
  refine wp_named ?_
  intro W6 hW6
  have e6 : Ext W5 W6 := by rw [hW6]; exact (((Ext.refl W5).alloc _).alloc _).alloc _
  have hA : W6.heap[W5.heap.size]? = some (.cells #[.int .u8 0, .int .i64 0, .int .i64 1, .int .u8 2, .int .i64 0, .int .i64 0] 67 (0, 0)) := by rw [hW6]; exact heap_ext (alloc_ext _ _) (heap_ext (alloc_ext _ _) (heap_alloc_new W5 _))
  have hB : W6.heap[W5.heap.size + 1]? = some (.cells #[.slice (some ⟨W5.heap.size, 0, none⟩) 2 2, .slice none 0 0] 68 (0, 0)) := by
    rw [hW6]
    refine heap_ext (alloc_ext _ _) ?_
    have := heap_alloc_new (W5.alloc (.cells #[.int .u8 0, .int .i64 0, .int .i64 1, .int .u8 2, .int .i64 0, .int .i64 0] 67)) (.cells #[.slice (some ⟨W5.heap.size, 0, none⟩) 2 2, .slice none 0 0] 68)
    simpa using this
  have hC : W6.heap[W5.heap.size + 1 + 1]? = some (.cells #[.int .i64 0, .int .i64 1, .slice (some ⟨W5.heap.size + 1, 0, none⟩) 2 2] 28 (0, 0)) := by
    rw [hW6]
    have := heap_alloc_new ((W5.alloc (.cells #[.int .u8 0, .int .i64 0, .int .i64 1, .int .u8 2, .int .i64 0, .int .i64 0] 67)).alloc (.cells #[.slice (some ⟨W5.heap.size, 0, none⟩) 2 2, .slice none 0 0] 68)) (.cells #[.int .i64 0, .int .i64 1, .slice (some ⟨W5.heap.size + 1, 0, none⟩) 2 2] 28)
    simpa using this
  clear hW6
  have hge : w.heap.size ≤ W5.heap.size + 1 := by have := H5.out.size; omega
  have hne : W5.heap.size + 1 + 1 ≠ W5.heap.size + 1 := by omega
  have hne' : W5.heap.size ≠ W5.heap.size + 1 := by omega
  have hX : ∀ w', Ext W5 w' → ∀ u, Ext W5 (w'.setCell ⟨W5.heap.size + 1, 1, none⟩ u) := fun w' h u => h.setCell (Nat.le_succ _) u
  generalize W5.heap.size + 1 + 1 = bx at *
  generalize W5.heap.size + 1 = by_ at *
  generalize W5.heap.size = bz at *
  have HG := Lib.hid (And.intro hge (And.intro hne (And.intro hne' hX)))
  clear hge hne hne' hX
  have q2 := fun w' (h : Ext W6 w') => h.cell (cell_of_blk hC 2 (u := .slice (some ⟨by_, 0, none⟩) 2 2) rfl)
  have hc1 : (W6.alloc (.cells #[.int .u8 0, .int .i64 0, .int .i64 0] 67)).cell? ⟨by_, 1, none⟩ = some (.slice none 0 0) := (alloc_ext W6 _).cell (cell_of_blk hB 1 rfl)
  have hf1 : (W6.alloc (.cells #[.int .u8 0, .int .i64 0, .int .i64 0] 67)).frozen? ⟨by_, 1, none⟩ = false := free_of_blk (heap_ext (alloc_ext W6 _) hB) 1
  have hE6 := Ext.refl W6
  go_upto_region 5 with fail
  refine wp_named ?_
  intro W7 hW7
  have hE7 : Ext W5 W7 := by rw [hW7]; exact HG.out.2.2.2 _ (e6.alloc _) _
  have hlt := lt_of_block hB
  have hD0 : (W6.alloc (.cells #[.int .u8 0, .int .i64 0, .int .i64 0] 67)).heap[by_]? = some (.cells #[.slice (some ⟨bz, 0, none⟩) 2 2, .slice none 0 0] 68 (0, 0)) := heap_ext (alloc_ext W6 _) hB
  have h7B := heap_setCell_same _ by_ 1 _ 68 (.slice (some ⟨W6.heap.size, 0, none⟩) 1 1) hD0
  have h7A := (heap_setCell_other (W6.alloc (.cells #[.int .u8 0, .int .i64 0, .int .i64 0] 67)) ⟨by_, 1, none⟩ bz (.slice (some ⟨W6.heap.size, 0, none⟩) 1 1) HG.out.2.2.1).trans (heap_ext (alloc_ext W6 _) hA)
  have h7C := (heap_setCell_other (W6.alloc (.cells #[.int .u8 0, .int .i64 0, .int .i64 0] 67)) ⟨by_, 1, none⟩ bx (.slice (some ⟨W6.heap.size, 0, none⟩) 1 1) HG.out.2.1).trans (heap_ext (alloc_ext W6 _) hC)
  have h7D := (heap_setCell_other (W6.alloc (.cells #[.int .u8 0, .int .i64 0, .int .i64 0] 67)) ⟨by_, 1, none⟩ W6.heap.size (.slice (some ⟨W6.heap.size, 0, none⟩) 1 1) (by show W6.heap.size ≠ by_; omega)).trans (heap_alloc_new W6 _)
  rw [← hW7] at h7A h7B h7C h7D
  have hBo : BoxL W7 bx bothX := box_lit (n := 2) (vs := [.slice (some ⟨bz, 0, none⟩) 2 2, .slice (some ⟨W6.heap.size, 0, none⟩) 1 1]) rfl rfl h7C h7B ((one_row (arcs_new (n := 2) (l := [⟨0, 0, 1⟩, ⟨2, 0, 0⟩]) rfl h7A rfl (by omega))).snoc (arcs_new (n := 1) (l := [⟨0, 0, 0⟩]) rfl h7D rfl (by omega))) (by omega)
  have HB7 := Lib.hid (And.intro (H5.out.trans hE7) (And.intro (HB5.out.ext hE7) hBo))
  clear hBo h7A h7B h7C h7D hD0 hlt hE7 hW7 hE6 hf1 hc1 q2 hA hB hC e6 H5 HB5 HG
  generalize W6.heap.size = b6 at *
  -- still
  go_upto_region 6 with fail
  refine wp_named ?_
  intro W8 hW8
  have e8 : Ext W7 W8 := by rw [hW8]; exact (((Ext.refl W7).alloc _).alloc _).alloc _
  have hA : W8.heap[W7.heap.size]? = some (.cells #[.int .u8 2, .int .i64 0, .int .i64 0, .int .u8 2, .int .i64 1, .int .i64 0] 67 (0, 0)) := by rw [hW8]; exact heap_ext (alloc_ext _ _) (heap_ext (alloc_ext _ _) (heap_alloc_new W7 _))
  have hB : W8.heap[W7.heap.size + 1]? = some (.cells #[.slice (some ⟨W7.heap.size, 0, none⟩) 2 2] 68 (0, 0)) := by
    rw [hW8]
    refine heap_ext (alloc_ext _ _) ?_
    have := heap_alloc_new (W7.alloc (.cells #[.int .u8 2, .int .i64 0, .int .i64 0, .int .u8 2, .int .i64 1, .int .i64 0] 67)) (.cells #[.slice (some ⟨W7.heap.size, 0, none⟩) 2 2] 68)
    simpa using this
  have hC : W8.heap[W7.heap.size + 1 + 1]? = some (.cells #[.int .i64 0, .int .i64 2, .slice (some ⟨W7.heap.size + 1, 0, none⟩) 1 1] 28 (0, 0)) := by
    rw [hW8]
    have := heap_alloc_new ((W7.alloc (.cells #[.int .u8 2, .int .i64 0, .int .i64 0, .int .u8 2, .int .i64 1, .int .i64 0] 67)).alloc (.cells #[.slice (some ⟨W7.heap.size, 0, none⟩) 2 2] 68)) (.cells #[.int .i64 0, .int .i64 2, .slice (some ⟨W7.heap.size + 1, 0, none⟩) 1 1] 28)
    simpa using this
  have hSt : BoxL W8 (W7.heap.size + 1 + 1) stillX := box_lit (n := 1) rfl rfl hC hB (one_row (arcs_new (n := 2) rfl hA rfl (by omega))) (by omega)
  have HB8 := Lib.hid (And.intro (HB7.out.1.trans e8) (And.intro (HB7.out.2.1.ext e8) (HB7.out.2.2.ext e8)))
  clear hW8 hA hB hC e8 HB7
  generalize W7.heap.size + 1 + 1 = bs at *
  generalize W7.heap.size + 1 = bs1 at *
  generalize W7.heap.size = bs2 at *
  obtain ⟨pA, pc, p0, p1, p2, pS⟩ := hSt
  have p0 := fun w' (h : Ext W8 w') => h.cell p0
  have p1 := fun w' (h : Ext W8 w') => h.cell p1
  have p2 := fun w' (h : Ext W8 w') => h.cell p2
  obtain ⟨L8, hL8, hl8⟩ := still_make8
  have hmk := Make_any (W8.alloc (.cells #[.int .i64 (-1), .int .i64 (-1), .int .i64 (-1), .int .i64 (-1), .int .i64 (-1), .int .i64 (-1), .int .i64 (-1), .int .i64 (-1)] 3)) _ stillX (.slice (some ⟨W8.heap.size, 0, none⟩) 8 8) (kPlan 8) 8 (pS.ext (alloc_ext W8 _)) (ints_blk (heap_alloc_new W8 _) rfl (kPlan_len 8) (by omega)) (HT.out.ext (HB8.out.1.trans (alloc_ext W8 _)))
  rw [hL8] at hmk
  have hmk9 := fun W' (e : Ext W8 W') => Make_any (W'.alloc (.cells #[.int .i64 (-1), .int .i64 (-1), .int .i64 (-1), .int .i64 (-1), .int .i64 (-1), .int .i64 (-1), .int .i64 (-1), .int .i64 (-1), .int .i64 (-1)] 3)) _ stillX (.slice (some ⟨W'.heap.size, 0, none⟩) 9 9) (kPlan 9) 9 (pS.ext (e.alloc _)) (ints_blk (heap_alloc_new W' _) rfl (kPlan_len 9) (by omega)) (HT.out.ext (HB8.out.1.trans (e.alloc _)))
  rw [still_make9] at hmk9
  unfold MakeP at hmk hmk9
  have hE0 := Ext.refl W8
  clear hL8 pS
  generalize stillX.ins = si at *
  generalize stillX.outs = so at *
  generalize stillX.rows.length = sn at *
  go_upto_region 7 with ((with_reducible refine hmk.mono ?_); rintro e W9 ⟨rv, rfl, ⟨A9, M9, _, hv9, _⟩, e9⟩)
  subst hv9
  have e89 := (alloc_ext W8 (.cells #[.int .i64 (-1), .int .i64 (-1), .int .i64 (-1), .int .i64 (-1), .int .i64 (-1), .int .i64 (-1), .int .i64 (-1), .int .i64 (-1)] 3)).trans e9
  have hmk99 := hmk9 W9 e89
  have p0 := fun w' (h : Ext W9 w') => p0 w' (e89.trans h)
  have p1 := fun w' (h : Ext W9 w') => p1 w' (e89.trans h)
  have p2 := fun w' (h : Ext W9 w') => p2 w' (e89.trans h)
  have hE9 := Ext.refl W9
  have H9 := Lib.hid e89
  clear hmk hmk9 e9 e89 hE0
  go_upto_region 8 with ((with_reducible refine hmk99.mono ?_); rintro e W10 ⟨rv, rfl, ⟨A10, M10, _, hv10, _⟩, e10⟩)
  subst hv10
  have H10 := Lib.hid (H9.out.trans ((alloc_ext W9 (.cells #[.int .i64 (-1), .int .i64 (-1), .int .i64 (-1), .int .i64 (-1), .int .i64 (-1), .int .i64 (-1), .int .i64 (-1), .int .i64 (-1), .int .i64 (-1)] 3)).trans e10))
  clear hmk99 e10 p0 p1 p2 hE9
  have g1 : ((L.length : Int) != 19) = false := by rw [hLl]; rfl
  have g2 : ((L8.length : Int) != 766) = false := by rw [hl8]; rfl
  clear hLl hl8
  go_upto_region 999 with (first | (with_reducible refine stop_at 10 ?_) | (with_reducible refine stop_at2 10 ?_))
  refine ⟨?_⟩
  exact known_t10 w W10 b1 bx _ _ _ _ _ _ _ _ _ _ _ _ _ _ _ _ _ _ _ _ _ _ _ _ _ _ _ _ _ _ _ _ _ _ _ _ _ _ _ _ _ _ _ _ _ _ _ _ _ _ _ _ _ _ _ _ _ _ _ _ _ _ _ _ _ _ _ _ _ _ _ _ _ _ _ _ _ _ _ _ _ _ _ _ _ _ _ _ _ _ _ _ _ _ _ _ _ _ _ _ _ _ _ _ _ _ _ _ _ _ _ _ _ _ _ _ _ _ _ _ _ _ _ _ _ _ _ _ _ _ _ _ _ _ _ _ _ _ _ _ _ _ _ _ _ _ _ _ _ _ _ _ _ _ _ _ _ _ _ _ _ _ _ _ _ _ _ _ _ _ _ _ _ _ _ _ _ _ _ _ _ _ _ _ _ _ _ _ _ _ _ _ _ _ _ _ _ _ _ _ _ _ _ _ _ _ _ _ _ _ _ _ _ _ _ _ _ _ _ _ _ _ _ _ _ _ _ _ _ (HB8.out.1.trans H10.out) (HT.out.ext (HB8.out.1.trans H10.out)) (HB8.out.2.1.ext H10.out) (HB8.out.2.2.ext H10.out)
end Go.Proofs.YtamodjlifpjaoaaDoor
