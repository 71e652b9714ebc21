/- IocosKnown 10: what comes to the ends of the long chains. -/
import Derived.Test.YtamodjlifpjaoaaDoorK3
import Derived.Test.YtamodjlifpjaoaaDoorGI
namespace Go.Proofs.YtamodjlifpjaoaaDoor
open Go.RowKit
set_option linter.unusedVariables false
set_option linter.unusedSimpArgs false
attribute [local go_sem] Oper.quietV quietV Oper.gives givesV ext_refl_iff ext_alloc_iff ext_drew_iff ext_drewN_iff
theorem arc_new {w : World} {b : Nat} {k : Nat} {t : Int} (h : w.heap[b]? = some (.cells #[.int .u8 k, .int .i64 0, .int .i64 t] 67 (0, 0))) : ArcW (.slice (some ⟨b, 0, none⟩) 1 1) [⟨k, 0, t⟩] w :=
  ⟨some ⟨b, 0, none⟩, 1, rfl, cells_blk h, Nat.le_refl _, by simp [lenMax]⟩
theorem arc_far {N b : Nat} (h : N ≤ b) (n c : Nat) : FarW N (.slice (some ⟨b, 0, none⟩) n c) := fun b' ⟨o, n', c', e, _⟩ => by cases e; exact h
theorem box_of {W : World} {b g c N e : Nat} {o : Int} {rows : List (List Arc)} {vs : List Value} (hb : W.heap[b]? = some (.cells #[.int .i64 0, .int .i64 o, .slice (some ⟨g, 0, none⟩) rows.length c] 28 (0, 0))) (ho : W.ownsRow N e 1 (.slice (some ⟨g, 0, none⟩) rows.length c) rows.length vs) (h : LsArcs vs rows W) (hl : rows.length ≤ 100000) : BoxL W b ⟨0, o, rows⟩ :=
  ⟨some ⟨g, 0, none⟩, c, cell_of_blk hb 0 rfl, cell_of_blk hb 1 rfl, cell_of_blk hb 2 rfl, ⟨_, rfl, h.rows ho hl⟩⟩
theorem arcs_one {vs : List Value} {rows : List (List Arc)} {w : World} (h : LsArcs vs rows w) : ∀ u ∈ vs, u.oneCell' = true := fun u hu => by
  obtain ⟨i, hi⟩ := List.getElem?_of_mem hu
  obtain ⟨r, hr⟩ : ∃ r, rows[i]? = some r := ⟨_, List.getElem?_eq_getElem (by rw [← h.1]; exact (List.getElem?_eq_some_iff.1 hi).1)⟩
  obtain ⟨A, c, hv, _⟩ := h.2 i u r hi hr
  rw [hv]; rfl
theorem LsArcs.init {vs : List Value} {rows : List (List Arc)} {w : World} {u : Value} {l : List Arc} (h : LsArcs (vs ++ [u]) (rows ++ [l]) w) : LsArcs vs rows w := by
  have hl : vs.length = rows.length := by have := h.1; simpa using this
  refine ⟨hl, fun i x r hx hr => h.2 i x r ?_ ?_⟩
  · rw [List.getElem?_append_left (List.getElem?_eq_some_iff.1 hx).1]; exact hx
  · rw [List.getElem?_append_left (List.getElem?_eq_some_iff.1 hr).1]; exact hr
theorem nil_arc (w : World) : ArcW (.slice none 0 0) [] w := ⟨none, 0, rfl, fun h => by simp at h, Nat.le_refl _, by simp [lenMax]⟩
theorem box_seal {W0 W : World} {b g c : Nat} {o : Int} {rows : List (List Arc)} {vs : List Value} {F : Nat → Prop} {L : List Asn} (h : OwnL W0 W (.blk b (.cells #[.int .i64 0, .int .i64 o, .slice (some ⟨g, 0, none⟩) rows.length c] 28) :: .row 68 1 (.slice (some ⟨g, 0, none⟩) rows.length c) rows.length vs :: .any F (LsArcs vs rows) :: L)) (hl : rows.length ≤ 100000) :
    ∃ F', OwnL W0 W (.any F' (fun W => BoxL W b ⟨0, o, rows⟩) :: L) := by
  have h1 := h.seal (Φ := fun W' => W'.heap[b]? = some (.cells #[.int .i64 0, .int .i64 o, .slice (some ⟨g, 0, none⟩) rows.length c] 28 (0, 0))) (fun W' hA => hA.2)
  have h2 := h1.swap.seal (Φ := fun W' => W'.ownsRow W0.heap.size 68 1 (.slice (some ⟨g, 0, none⟩) rows.length c) rows.length vs) (fun W' hA => hA)
  have h3 := h2.merge.merge.weaken (Φ' := fun W => BoxL W b ⟨0, o, rows⟩) (fun W h => box_of h.1.2 h.1.1 h.2 hl)
  exact ⟨_, h3⟩
set_option maxRecDepth 100000 in
set_option maxHeartbeats 16000000 in
theorem known_t20 (w W0 W : World) (b1 b12 b13 : Nat) (v v' : Value) (c0 c2 c3 c4 c5 c6 c7 c8 c9 c10 c11 c14 c15 c16 c17 c18 c19 c20 c21 c22 c23 c24 c25 c26 c27 c28 c29 c30 c31 c32 c33 c34 c35 c36 c37 c38 c39 c40 c41 c42 c43 c44 c45 c46 c47 c48 c49 c50 c51 c52 c53 c54 c55 c56 c57 c58 c59 c60 c61 c62 c63 c64 c65 c66 c67 c68 c69 c70 c71 c72 c73 c74 c75 c76 c77 c78 c79 c80 c81 c82 c83 c84 c85 c86 c87 c88 c89 c90 c91 c92 c93 c94 c95 c96 c97 c98 c99 c100 c101 c102 c103 c104 c105 c106 c107 c108 c109 c110 c111 c112 c113 c114 c115 c116 c117 c118 c119 c120 c121 c122 c123 c124 c125 c126 c127 c128 c129 c130 c131 c132 c133 c134 c135 c136 c137 c138 c139 c140 c141 c142 c143 c144 c145 c146 c147 c148 c149 c150 c151 c152 c153 c154 c155 c156 c157 c158 c159 c160 c161 c162 c163 c164 c165 c166 c167 c168 c169 c170 c171 c172 c173 c174 c175 c176 c177 c178 c179 c180 c181 c182 c183 c184 c185 c186 c187 c188 c189 c190 c191 c192 c193 c194 c195 c196 c197 c198 c199 c200 c201 c202 c203 c204 c205 c206 c207 c208 c209 c210 c211 c212 c213 c214 c215 c216 c217 c218 c219 c220 c221 c222 c223 c224 c225 c226 c227 c228 c229 c230 : Value) (h0 : Ext w W0) (hT : Tab W0) (hb : BoxL W0 b1 loopX) (hS : TwoSt W0 W b12 b13 0 0 v v' (chR 0 63) (chR 2 63)) :
    Code.wp Tryd.prog (T10 20) (bodyPost Tryd.prog Tryd.f10 (KnownP w)) ⟨(c0 :: .pointer (some ⟨b1, 0, none⟩) :: c2 :: c3 :: c4 :: c5 :: c6 :: c7 :: c8 :: c9 :: c10 :: c11 :: .pointer (some ⟨b12, 0, none⟩) :: .pointer (some ⟨b13, 0, none⟩) :: c14 :: c15 :: c16 :: c17 :: c18 :: c19 :: c20 :: c21 :: c22 :: c23 :: c24 :: c25 :: c26 :: c27 :: c28 :: c29 :: c30 :: c31 :: c32 :: c33 :: c34 :: c35 :: c36 :: c37 :: c38 :: c39 :: c40 :: c41 :: c42 :: c43 :: c44 :: c45 :: c46 :: c47 :: c48 :: c49 :: c50 :: c51 :: c52 :: c53 :: c54 :: c55 :: c56 :: c57 :: c58 :: c59 :: c60 :: c61 :: c62 :: c63 :: c64 :: c65 :: c66 :: c67 :: c68 :: c69 :: c70 :: c71 :: c72 :: c73 :: c74 :: c75 :: c76 :: c77 :: c78 :: c79 :: c80 :: c81 :: c82 :: c83 :: c84 :: c85 :: c86 :: c87 :: c88 :: c89 :: c90 :: c91 :: c92 :: c93 :: c94 :: c95 :: c96 :: c97 :: c98 :: c99 :: c100 :: c101 :: c102 :: c103 :: c104 :: c105 :: c106 :: c107 :: c108 :: c109 :: c110 :: c111 :: c112 :: c113 :: c114 :: c115 :: c116 :: c117 :: c118 :: c119 :: c120 :: c121 :: c122 :: c123 :: c124 :: c125 :: c126 :: c127 :: c128 :: c129 :: c130 :: c131 :: c132 :: c133 :: c134 :: c135 :: c136 :: c137 :: c138 :: c139 :: c140 :: c141 :: c142 :: c143 :: c144 :: c145 :: c146 :: c147 :: c148 :: c149 :: c150 :: c151 :: c152 :: c153 :: c154 :: c155 :: c156 :: c157 :: c158 :: c159 :: c160 :: c161 :: c162 :: c163 :: c164 :: c165 :: c166 :: c167 :: c168 :: c169 :: c170 :: c171 :: c172 :: c173 :: c174 :: c175 :: c176 :: c177 :: c178 :: c179 :: c180 :: c181 :: c182 :: c183 :: c184 :: c185 :: c186 :: c187 :: c188 :: c189 :: c190 :: c191 :: c192 :: c193 :: c194 :: c195 :: c196 :: c197 :: c198 :: c199 :: c200 :: c201 :: c202 :: c203 :: c204 :: c205 :: c206 :: c207 :: c208 :: c209 :: c210 :: c211 :: c212 :: c213 :: c214 :: c215 :: c216 :: c217 :: c218 :: c219 :: c220 :: c221 :: c222 :: c223 :: c224 :: c225 :: c226 :: c227 :: c228 :: c229 :: c230 :: []).toArray, []⟩ W := by
  conv => arg 2; whnf
  obtain ⟨i68, hi68, hz68, hs68, hb68⟩ := info_parts arcs_info
  obtain ⟨vs, vs', F, F', hO⟩ := hS
  have l12 := chR_len 0 63
  have l13 := chR_len 2 63
  obtain ⟨g12, cp12, hv12⟩ := ownsRow_pos (hO.get 1 rfl) (by omega)
  obtain ⟨g13, cp13, hv13⟩ := ownsRow_pos (hO.get 4 rfl) (by omega)
  subst hv12 hv13
  have HX := Lib.hid (And.intro h0 (And.intro hT hb))
  -- the outputs
  have p0 := cell_of_blk (hO.get 0 rfl).2 1 rfl
  have f0 := free_of_blk (hO.get 0 rfl).2 1
  have s1 := hO.put 0 rfl 1 (.int .i64 1)
  have p1 := cell_of_blk (s1.get 3 rfl).2 1 rfl
  have f1 := free_of_blk (s1.get 3 rfl).2 1
  have s2 := s1.put 3 rfl 1 (.int .i64 1)
  have hO2 : OwnL W0 ((W.setCell ⟨b12, 1, none⟩ (.int .i64 1)).setCell ⟨b13, 1, none⟩ (.int .i64 1)) [.blk b12 (.cells #[.int .i64 0, .int .i64 1, .slice (some ⟨g12, 0, none⟩) (chR 0 63).length cp12] 28), .row 68 1 (.slice (some ⟨g12, 0, none⟩) (chR 0 63).length cp12) (chR 0 63).length vs, .any F (LsArcs vs (chR 0 63)), .blk b13 (.cells #[.int .i64 0, .int .i64 1, .slice (some ⟨g13, 0, none⟩) (chR 2 63).length cp13] 28), .row 68 1 (.slice (some ⟨g13, 0, none⟩) (chR 2 63).length cp13) (chR 2 63).length vs', .any F' (LsArcs vs' (chR 2 63))] := s2
  clear h0 hT hb hO s1 s2
  go_upto_region 21 with fail
  refine wp_named ?_
  intro W2 hW2
  rw [← hW2] at hO2
  rw [l12, l13] at hO2
  clear hW2 p0 p1 f0 f1
  -- the end of the silent chain
  have q2 := fun w' (e : Ext W2 w') => e.cell (cell_of_blk (hO2.get 0 rfl).2 2 (u := .slice (some ⟨g12, 0, none⟩) 63 cp12) rfl)
  have hEa : Ext W2 ((W2.alloc (.cells #[.int .u8 2, .int .i64 0, .int .i64 63] 67)).alloc (.cells #[.slice (some ⟨W2.heap.size, 0, none⟩) 1 1] 68)) := ((Ext.refl W2).alloc _).alloc _
  have hrow : ((W2.alloc (.cells #[.int .u8 2, .int .i64 0, .int .i64 63] 67)).alloc (.cells #[.slice (some ⟨W2.heap.size, 0, none⟩) 1 1] 68)).ownsRow W0.heap.size 68 1 (.slice (some ⟨g12, 0, none⟩) 63 cp12) 63 vs := (hO2.trans hEa).get 1 rfl
  have hbase := hO2.ext.size
  have hua : ArcW (.slice (some ⟨W2.heap.size, 0, none⟩) 1 1) [⟨2, 0, 63⟩] ((W2.alloc (.cells #[.int .u8 2, .int .i64 0, .int .i64 63] 67)).alloc (.cells #[.slice (some ⟨W2.heap.size, 0, none⟩) 1 1] 68)) := arc_new (heap_ext (alloc_ext _ _) (heap_alloc_new W2 _))
  have hE0 := Ext.refl W2
  go_upto_region 22 with (at_builtin; refine wpList_append_own2 rfl _ _ 26 rfl W0.heap.size 68 i68 (.slice none 0 0) 1 24 Tryd.underlying26 hi68 hz68 hs68 hb68 rfl (by decide) (.slice (some ⟨g12, 0, none⟩) 63 cp12) 63 vs rfl hrow ⟨W2.heap.size + 1, 0, none⟩ 1 1 [.slice (some ⟨W2.heap.size, 0, none⟩) 1 1] rfl rfl (new_cell _ _ _ _ (by simp)) (by intro u hu; simp at hu; subst hu; rfl) (by unfold maxLen; omega) (by omega) (by simp; omega) ?_; intro v8 w8 hown8 hg8 hb8; obtain ⟨g8, c8, hv8⟩ := ownsRow_pos hown8 (by omega); rw [show (63 + 1 : Nat) = 64 from rfl] at hv8 hown8; subst hv8; obtain ⟨x8, y8, F8, hO8⟩ := chain_more (r := chR 0 63) (by rw [l12]; exact hO2) hEa hua (arc_far (Nat.le_refl _) 1 1) hg8 (by rw [l12]; exact hown8) hb8)
  refine wp_named ?_
  intro W3 hW3
  rw [← hW3] at hO8
  have hO3 : OwnL W0 W3 (.blk b12 (.cells #[.int .i64 0, .int .i64 1, .slice (some ⟨g8, 0, none⟩) longX.rows.length c8] 28) :: .row 68 1 (.slice (some ⟨g8, 0, none⟩) longX.rows.length c8) longX.rows.length (vs ++ [.slice (some ⟨W2.heap.size, 0, none⟩) 1 1]) :: .any F8 (LsArcs (vs ++ [.slice (some ⟨W2.heap.size, 0, none⟩) 1 1]) longX.rows) :: [.blk b13 (.cells #[.int .i64 0, .int .i64 1, .slice (some ⟨g13, 0, none⟩) 63 cp13] 28), .row 68 1 (.slice (some ⟨g13, 0, none⟩) 63 cp13) 63 vs', .any F' (LsArcs vs' (chR 2 63))]) := by
    have e1 : longX.rows.length = 64 := by show (chR 0 63 ++ _).length = 64; rw [List.length_append, l12]; rfl
    have e2 : (chR 0 63 ++ [[(⟨2, 0, 63⟩ : Arc)]]).length = 64 := e1
    rw [e1]
    rw [e2] at hO8
    exact hO8
  clear hO8 hW3 x8 y8 hg8 hb8 hown8 hua hrow hEa q2 hE0 hO2 hbase
  obtain ⟨Fl, hO3⟩ := box_seal hO3 (by show (chR 0 63 ++ _).length ≤ 100000; rw [List.length_append, l12]; decide)
  -- a copy of the other one
  have q0 := fun w' (e : Ext W3 w') => e.cell (cell_of_blk (hO3.get 1 rfl).2 0 (u := .int .i64 0) rfl)
  have q1 := fun w' (e : Ext W3 w') => e.cell (cell_of_blk (hO3.get 1 rfl).2 1 (u := .int .i64 1) rfl)
  have q2 := fun w' (e : Ext W3 w') => e.cell (cell_of_blk (hO3.get 1 rfl).2 2 (u := .slice (some ⟨g13, 0, none⟩) 63 cp13) rfl)
  have hE0 := Ext.refl W3
  go_upto_region 23 with (with_reducible refine wpList_store_blk _ rfl 28 _ _ rfl W3.heap.size 28 _ _ rfl rfl (heap_alloc_new _ _) (by kernel_rfl) (by kernel_rfl) (by kernel_rfl) ?_; intro w4 h4' g4)
  have hO4 := (hO3.add (alloc_ext W3 _) (A := .blk W3.heap.size (.cells #[.int .i64 0, .int .i64 0, .slice none 0 0] 28)) ⟨Nat.le_refl _, heap_alloc_new W3 _⟩).step 0 (A' := .blk W3.heap.size (.cells #[.int .i64 0, .int .i64 1, .slice (some ⟨g13, 0, none⟩) 63 cp13] 28)) rfl g4 (fun k hk => by cases hk; exact rfl) ⟨hO3.ext.size, h4'⟩ (fun k hk => .inl hk)
  generalize W3.heap.size = b15 at *
  have h5 := hO4.add (alloc_ext w4 (.cells #[] 68)) (A := .row 68 1 (.slice (some ⟨w4.heap.size, 0, none⟩) 0 0) 0 []) ⟨rfl, .inr ⟨w4.heap.size, 0, #[], rfl, Nat.le_refl _, heap_alloc_new w4 _, Nat.le_refl _, by unfold maxLen; omega, rfl, rfl⟩⟩
  have h5 : OwnL W0 (w4.alloc (.cells #[] 68)) [.row 68 1 (.slice (some ⟨w4.heap.size, 0, none⟩) 0 0) 0 [], .blk b15 (.cells #[.int .i64 0, .int .i64 1, .slice (some ⟨g13, 0, none⟩) 63 cp13] 28), .any Fl (fun W => BoxL W b12 ⟨0, 1, longX.rows⟩), .blk b13 (.cells #[.int .i64 0, .int .i64 1, .slice (some ⟨g13, 0, none⟩) 63 cp13] 28), .row 68 1 (.slice (some ⟨g13, 0, none⟩) 63 cp13) 63 vs', .any F' (LsArcs vs' (chR 2 63))] := h5
  clear q0 q1 q2 hE0 hO3 hO4 h4' g4
  have q2 := fun w' (e : Ext (w4.alloc (.cells #[] 68)) w') => e.cell (cell_of_blk (h5.get 3 rfl).2 2 (u := .slice (some ⟨g13, 0, none⟩) 63 cp13) rfl)
  have hE5 := Ext.refl (w4.alloc (.cells #[] 68))
  have hla := h5.know 5 rfl
  have hvl : vs'.length = 63 := by rw [hla.1, l13]
  have hrow13 := h5.get 4 rfl
  have hsz5 := h5.ext.size
  go_upto_region 24 with (first
    | (at_builtin; refine wpList_append_own2 rfl _ _ 26 rfl W0.heap.size 68 i68 (.slice none 0 0) 1 24 Tryd.underlying26 hi68 hz68 hs68 hb68 rfl (by decide) (.slice (some ⟨w4.heap.size, 0, none⟩) 0 0) 0 [] rfl (h5.get 0 rfl) ⟨g13, 0, none⟩ 63 cp13 vs' rfl (by omega) (fun j u hj => by rw [Addr.add_lit, Nat.zero_add]; exact cell_at_own hrow13 hj) (arcs_one hla) (by unfold maxLen; omega) (by omega) hsz5 ?_; intro v9 w9 hown9 hg9 hb9; obtain ⟨g9, c9, hv9⟩ := ownsRow_pos hown9 (by omega); rw [show (0 + 63 : Nat) = 63 from rfl] at hv9; subst hv9; have h6 := h5.app 0 rfl hg9 hown9 hb9; have hE6 : Ext w9 ((w9.alloc (.cells #[.int .u8 2, .int .i64 0, .int .i64 63] 67)).alloc (.cells #[.slice (some ⟨w9.heap.size, 0, none⟩) 1 1] 68)) := ((Ext.refl w9).alloc _).alloc _; have hua : ArcW (.slice (some ⟨w9.heap.size, 0, none⟩) 1 1) [⟨2, 0, 63⟩] ((w9.alloc (.cells #[.int .u8 2, .int .i64 0, .int .i64 63] 67)).alloc (.cells #[.slice (some ⟨w9.heap.size, 0, none⟩) 1 1] 68)) := arc_new (heap_ext (alloc_ext _ _) (heap_alloc_new w9 _)); have h7 := h6.add hE6 (arc_any hua (arc_far (Nat.le_refl _) 1 1)); have hrow9 : ((w9.alloc (.cells #[.int .u8 2, .int .i64 0, .int .i64 63] 67)).alloc (.cells #[.slice (some ⟨w9.heap.size, 0, none⟩) 1 1] 68)).ownsRow W0.heap.size 68 1 (.slice (some ⟨g9, 0, none⟩) 63 c9) 63 vs' := h7.get 1 rfl; have hsz9 := h7.ext.size; clear hown9 hg9 hb9 h5 q2 hla hrow13 hsz5 hE5)
    | (at_builtin; refine wpList_append_own2 rfl _ _ 26 rfl W0.heap.size 68 i68 (.slice none 0 0) 1 24 Tryd.underlying26 hi68 hz68 hs68 hb68 rfl (by decide) (.slice (some ⟨g9, 0, none⟩) 63 c9) 63 vs' rfl hrow9 ⟨w9.heap.size + 1, 0, none⟩ 1 1 [.slice (some ⟨w9.heap.size, 0, none⟩) 1 1] rfl rfl (new_cell _ _ _ _ (by simp)) (by intro u hu; simp at hu; subst hu; rfl) (by unfold maxLen; omega) (by omega) hsz9 ?_; intro v10 w10 hown10 hg10 hb10; obtain ⟨g10, c10, hv10⟩ := ownsRow_pos hown10 (by omega); rw [show (63 + 1 : Nat) = 64 from rfl] at hv10 hown10; subst hv10; have h8 := h7.app 1 rfl hg10 hown10 hb10; have hc10 := cell_of_blk (h8.get 2 rfl).2 2 (u := .slice (some ⟨g13, 0, none⟩) 63 cp13) rfl; have hf10 := free_of_blk (h8.get 2 rfl).2 2; have h9 := h8.put 2 rfl 2 (.slice (some ⟨g10, 0, none⟩) 64 c10)))
  refine wp_named ?_
  intro W11 hW11
  rw [← hW11] at h9
  have h10 : OwnL W0 W11 ([.any (lsF1 (.slice (some ⟨w9.heap.size, 0, none⟩) 1 1)) (ArcW (.slice (some ⟨w9.heap.size, 0, none⟩) 1 1) [⟨2, 0, 63⟩]), .row 68 1 (.slice (some ⟨g10, 0, none⟩) 64 c10) 64 (vs' ++ [.slice (some ⟨w9.heap.size, 0, none⟩) 1 1]), .blk b15 (.cells #[.int .i64 0, .int .i64 1, .slice (some ⟨g10, 0, none⟩) 64 c10] 28), .any Fl (fun W => BoxL W b12 ⟨0, 1, longX.rows⟩)] ++ [.blk b13 (.cells #[.int .i64 0, .int .i64 1, .slice (some ⟨g13, 0, none⟩) 63 cp13] 28), .row 68 1 (.slice (some ⟨g13, 0, none⟩) 63 cp13) 63 vs', .any F' (LsArcs vs' (chR 2 63))]) := h9
  have h10 := h10.perm List.perm_append_comm
  clear h9 h8 h7 h6 hW11 hc10 hf10 hg10 hb10 hown10 hrow9 hua hE6 hsz9
  have h10 : OwnL W0 W11 (.blk b13 (.cells #[.int .i64 0, .int .i64 1, .slice (some ⟨g13, 0, none⟩) 63 cp13] 28) :: .row 68 1 (.slice (some ⟨g13, 0, none⟩) 63 cp13) (chR 2 63).length vs' :: .any F' (LsArcs vs' (chR 2 63)) :: [.any (lsF1 (.slice (some ⟨w9.heap.size, 0, none⟩) 1 1)) (ArcW (.slice (some ⟨w9.heap.size, 0, none⟩) 1 1) [⟨2, 0, 63⟩]), .row 68 1 (.slice (some ⟨g10, 0, none⟩) 64 c10) 64 (vs' ++ [.slice (some ⟨w9.heap.size, 0, none⟩) 1 1]), .blk b15 (.cells #[.int .i64 0, .int .i64 1, .slice (some ⟨g10, 0, none⟩) 64 c10] 28), .any Fl (fun W => BoxL W b12 ⟨0, 1, longX.rows⟩)]) := by rw [l13]; exact h10
  have q2 := fun w' (e : Ext W11 w') => e.cell (cell_of_blk (h10.get 0 rfl).2 2 (u := .slice (some ⟨g13, 0, none⟩) 63 cp13) rfl)
  have hE11 : Ext W11 (W11.alloc (.cells #[.slice none 0 0] 68)) := alloc_ext W11 _
  have hrow : (W11.alloc (.cells #[.slice none 0 0] 68)).ownsRow W0.heap.size 68 1 (.slice (some ⟨g13, 0, none⟩) 63 cp13) 63 vs' := by have := (h10.trans hE11).get 1 rfl; rw [l13] at this; exact this
  have hsz := (h10.trans hE11).ext.size
  have hE0 := Ext.refl W11
  go_upto_region 999 with (first | (with_reducible refine stop_at 25 ?_) | (with_reducible refine stop_at2 25 ?_) | (at_builtin; refine wpList_append_own2 rfl _ _ 26 rfl W0.heap.size 68 i68 (.slice none 0 0) 1 24 Tryd.underlying26 hi68 hz68 hs68 hb68 rfl (by decide) (.slice (some ⟨g13, 0, none⟩) 63 cp13) 63 vs' rfl hrow ⟨W11.heap.size, 0, none⟩ 1 1 [.slice none 0 0] rfl rfl (new_cell _ _ _ _ rfl) (by intro u hu; simp at hu; subst hu; rfl) (by unfold maxLen; omega) (by omega) hsz ?_; intro v12 w12 hown12 hg12 hb12; obtain ⟨gm, cm, hv12⟩ := ownsRow_pos hown12 (by omega); rw [show (63 + 1 : Nat) = 64 from rfl] at hv12 hown12; subst hv12; obtain ⟨x12, y12, F12, hO12⟩ := chain_more (r := chR 2 63) h10 hE11 (nil_arc _) (far_nil _ 0 0).w hg12 (by rw [l13]; exact hown12) hb12))
  refine ⟨?_⟩
  refine wp_named ?_
  intro W13 hW13
  rw [← hW13] at hO12
  have eL : ∀ l : List Arc, (chR 2 63 ++ [l]).length = 64 := fun l => by rw [List.length_append, l13]; rfl
  have hmu : BoxL W13 b13 muteX := box_of (rows := muteX.rows) (by rw [show muteX.rows.length = 64 from eL _]; exact (hO12.get 0 rfl).2) (by rw [show muteX.rows.length = 64 from eL _]; have := hO12.get 1 rfl; rw [eL] at this; exact this) (hO12.know 2 rfl) (by rw [show muteX.rows.length = 64 from eL _]; decide)
  have hfa : BoxL W13 b15 farX := box_of (rows := farX.rows) (by rw [show farX.rows.length = 64 from eL _]; exact (hO12.get 5 rfl).2) (by rw [show farX.rows.length = 64 from eL _]; exact hO12.get 4 rfl) ((show LsArcs _ _ W13 from hO12.know 2 rfl).init.snoc (hO12.know 3 rfl)) (by rw [show farX.rows.length = 64 from eL _]; decide)
  have hlo : BoxL W13 b12 longX := hO12.know 6 rfl
  have hE13 := hO12.ext
  clear hO12 hW13 x12 y12 hg12 hb12 hown12 hrow hE11 hsz q2 hE0 h10
  exact known_t25 w W13 b1 b12 b13 b15 _ _ _ _ _ _ _ _ _ _ _ _ _ _ _ _ _ _ _ _ _ _ _ _ _ _ _ _ _ _ _ _ _ _ _ _ _ _ _ _ _ _ _ _ _ _ _ _ _ _ _ _ _ _ _ _ _ _ _ _ _ _ _ _ _ _ _ _ _ _ _ _ _ _ _ _ _ _ _ _ _ _ _ _ _ _ _ _ _ _ _ _ _ _ _ _ _ _ _ _ _ _ _ _ _ _ _ _ _ _ _ _ _ _ _ _ _ _ _ _ _ _ _ _ _ _ _ _ _ _ _ _ _ _ _ _ _ _ _ _ _ _ _ _ _ _ _ _ _ _ _ _ _ _ _ _ _ _ _ _ _ _ _ _ _ _ _ _ _ _ _ _ _ _ _ _ _ _ _ _ _ _ _ _ _ _ _ _ _ _ _ _ _ _ _ _ _ _ _ _ _ _ _ _ _ _ _ _ _ _ _ _ _ _ _ _ _ _ _ _ _ _ _ _ _ _ _ (HX.out.1.trans hE13) (HX.out.2.1.ext hE13) (HX.out.2.2.ext hE13) hlo hmu hfa
set_option maxRecDepth 100000 in
set_option maxHeartbeats 16000000 in
theorem known_t14 (w W : World) (b1 : Nat) (c0 c2 c3 c4 c5 c6 c7 c8 c9 c10 c11 c12 c13 c14 c15 c16 c17 c18 c19 c20 c21 c22 c23 c24 c25 c26 c27 c28 c29 c30 c31 c32 c33 c34 c35 c36 c37 c38 c39 c40 c41 c42 c43 c44 c45 c46 c47 c48 c49 c50 c51 c52 c53 c54 c55 c56 c57 c58 c59 c60 c61 c62 c63 c64 c65 c66 c67 c68 c69 c70 c71 c72 c73 c74 c75 c76 c77 c78 c79 c80 c81 c82 c83 c84 c85 c86 c87 c88 c89 c90 c91 c92 c93 c94 c95 c96 c97 c98 c99 c100 c101 c102 c103 c104 c105 c106 c107 c108 c109 c110 c111 c112 c113 c114 c115 c116 c117 c118 c119 c120 c121 c122 c123 c124 c125 c126 c127 c128 c129 c130 c131 c132 c133 c134 c135 c136 c137 c138 c139 c140 c141 c142 c143 c144 c145 c146 c147 c148 c149 c150 c151 c152 c153 c154 c155 c156 c157 c158 c159 c160 c161 c162 c163 c164 c165 c166 c167 c168 c169 c170 c171 c172 c173 c174 c175 c176 c177 c178 c179 c180 c181 c182 c183 c184 c185 c186 c187 c188 c189 c190 c191 c192 c193 c194 c195 c196 c197 c198 c199 c200 c201 c202 c203 c204 c205 c206 c207 c208 c209 c210 c211 c212 c213 c214 c215 c216 c217 c218 c219 c220 c221 c222 c223 c224 c225 c226 c227 c228 c229 c230 : Value) (h0 : Ext w W) (hT : Tab W) (hb : BoxL W b1 loopX) :
    Code.wp Tryd.prog (T10 14) (bodyPost Tryd.prog Tryd.f10 (KnownP w)) ⟨(c0 :: .pointer (some ⟨b1, 0, none⟩) :: c2 :: c3 :: c4 :: c5 :: c6 :: c7 :: c8 :: c9 :: c10 :: c11 :: c12 :: c13 :: c14 :: c15 :: c16 :: c17 :: c18 :: c19 :: c20 :: c21 :: c22 :: c23 :: c24 :: c25 :: c26 :: c27 :: c28 :: c29 :: c30 :: c31 :: c32 :: c33 :: c34 :: c35 :: c36 :: c37 :: c38 :: c39 :: c40 :: c41 :: c42 :: c43 :: c44 :: c45 :: c46 :: c47 :: c48 :: c49 :: c50 :: c51 :: c52 :: c53 :: c54 :: c55 :: c56 :: c57 :: c58 :: c59 :: c60 :: c61 :: c62 :: c63 :: c64 :: c65 :: c66 :: c67 :: c68 :: c69 :: c70 :: c71 :: c72 :: c73 :: c74 :: c75 :: c76 :: c77 :: c78 :: c79 :: c80 :: c81 :: c82 :: c83 :: c84 :: c85 :: c86 :: c87 :: c88 :: c89 :: c90 :: c91 :: c92 :: c93 :: c94 :: c95 :: c96 :: c97 :: c98 :: c99 :: c100 :: c101 :: c102 :: c103 :: c104 :: c105 :: c106 :: c107 :: c108 :: c109 :: c110 :: c111 :: c112 :: c113 :: c114 :: c115 :: c116 :: c117 :: c118 :: c119 :: c120 :: c121 :: c122 :: c123 :: c124 :: c125 :: c126 :: c127 :: c128 :: c129 :: c130 :: c131 :: c132 :: c133 :: c134 :: c135 :: c136 :: c137 :: c138 :: c139 :: c140 :: c141 :: c142 :: c143 :: c144 :: c145 :: c146 :: c147 :: c148 :: c149 :: c150 :: c151 :: c152 :: c153 :: c154 :: c155 :: c156 :: c157 :: c158 :: c159 :: c160 :: c161 :: c162 :: c163 :: c164 :: c165 :: c166 :: c167 :: c168 :: c169 :: c170 :: c171 :: c172 :: c173 :: c174 :: c175 :: c176 :: c177 :: c178 :: c179 :: c180 :: c181 :: c182 :: c183 :: c184 :: c185 :: c186 :: c187 :: c188 :: c189 :: c190 :: c191 :: c192 :: c193 :: c194 :: c195 :: c196 :: c197 :: c198 :: c199 :: c200 :: c201 :: c202 :: c203 :: c204 :: c205 :: c206 :: c207 :: c208 :: c209 :: c210 :: c211 :: c212 :: c213 :: c214 :: c215 :: c216 :: c217 :: c218 :: c219 :: c220 :: c221 :: c222 :: c223 :: c224 :: c225 :: c226 :: c227 :: c228 :: c229 :: c230 :: []).toArray, []⟩ W := by
  conv => arg 2; whnf
  obtain ⟨i68, hi68, hz68, hs68, hb68⟩ := info_parts arcs_info
  have HX := Lib.hid (And.intro h0 (And.intro hT hb))
  have hS := TwoSt.start W
  clear h0 hT hb
  go_upto_region 15 with fail
  have HS := Lib.hid hS
  clear hS
  generalize W.heap.size + 1 = b13 at *
  generalize W.heap.size = b12 at *
  go_wp2
  go_loopw [14] (fun sv wr => ∃ (s : Nat) (v v' : Value), sv = .int .i64 s ∧ s ≤ 63 ∧ Hid (TwoSt W wr b12 b13 0 0 v v' (chR 0 s) (chR 2 s))) (fun sv _ => 63 - (intOf sv).toNat)
  case atStart => exact ⟨0, _, _, rfl, by omega, HS⟩
  case round =>
    clear HS
    obtain ⟨s, v, v', rfl, hs, HT⟩ := hrel
    obtain ⟨W5, hW5⟩ : ∃ W, W = wr := ⟨_, rfl⟩; subst hW5
    by_cases hlt : s < 63
    · have hlI : (s : Int) < 63 := by omega
      obtain ⟨vs, vs', F, F', hO⟩ := HT.out
      have l12 := chR_len 0 s
      have l13 := chR_len 2 s
      have q2 := HT.out.cell
      have hEa : Ext W5 ((W5.alloc (.cells #[.int .u8 0, .int .i64 0, .int .i64 ((s : Int) + 1)] 67)).alloc (.cells #[.slice (some ⟨W5.heap.size, 0, none⟩) 1 1] 68)) := ((Ext.refl W5).alloc _).alloc _
      have hrow : ((W5.alloc (.cells #[.int .u8 0, .int .i64 0, .int .i64 ((s : Int) + 1)] 67)).alloc (.cells #[.slice (some ⟨W5.heap.size, 0, none⟩) 1 1] 68)).ownsRow W.heap.size 68 1 v s vs := by have := (hO.trans hEa).get 1 rfl; rw [l12] at this; exact this
      have hbase := (hO.trans hEa).ext.size
      have hua : ArcW (.slice (some ⟨W5.heap.size, 0, none⟩) 1 1) [⟨0, 0, (s : Int) + 1⟩] ((W5.alloc (.cells #[.int .u8 0, .int .i64 0, .int .i64 ((s : Int) + 1)] 67)).alloc (.cells #[.slice (some ⟨W5.heap.size, 0, none⟩) 1 1] 68)) := arc_new (heap_ext (alloc_ext _ _) (heap_alloc_new W5 _))
      have hE0 := Ext.refl W5
      go_upto_region 19 with (at_builtin; refine wpList_append_own2 rfl _ _ 26 rfl W.heap.size 68 i68 (.slice none 0 0) 1 24 Tryd.underlying26 hi68 hz68 hs68 hb68 rfl (by decide) v s vs rfl hrow ⟨W5.heap.size + 1, 0, none⟩ 1 1 [.slice (some ⟨W5.heap.size, 0, none⟩) 1 1] rfl rfl (new_cell _ _ _ _ (by simp)) (by intro u hu; simp at hu; subst hu; rfl) (by unfold maxLen; omega) (by omega) hbase ?_; intro v8 w8 hown8 hg8 hb8; obtain ⟨g8, c8, hv8⟩ := ownsRow_pos hown8 (by omega); subst hv8; obtain ⟨x8, y8, F8, hO8⟩ := chain_more (r := chR 0 s) hO hEa hua (arc_far (Nat.le_refl _) 1 1) hg8 (by rw [l12]; exact hown8) hb8)
      refine wp_named ?_
      intro W6 hW6
      rw [← hW6] at hO8
      have hT6 : TwoSt W W6 b12 b13 0 0 (.slice (some ⟨g8, 0, none⟩) (s + 1) c8) v' (chR 0 (s + 1)) (chR 2 s) := by rw [chR_succ]; exact ⟨_, _, _, _, hO8⟩
      clear hO8 hW6 x8 y8 hg8 hb8 hown8 hua hrow hEa q2 hE0 hO hbase
      obtain ⟨ws, ws', G, G', hO⟩ := hT6.swap
      have q2 := hT6.swap.cell
      have hEa : Ext W6 ((W6.alloc (.cells #[.int .u8 2, .int .i64 0, .int .i64 ((s : Int) + 1)] 67)).alloc (.cells #[.slice (some ⟨W6.heap.size, 0, none⟩) 1 1] 68)) := ((Ext.refl W6).alloc _).alloc _
      have hrow : ((W6.alloc (.cells #[.int .u8 2, .int .i64 0, .int .i64 ((s : Int) + 1)] 67)).alloc (.cells #[.slice (some ⟨W6.heap.size, 0, none⟩) 1 1] 68)).ownsRow W.heap.size 68 1 v' s ws := by have := (hO.trans hEa).get 1 rfl; rw [l13] at this; exact this
      have hbase := (hO.trans hEa).ext.size
      have hua : ArcW (.slice (some ⟨W6.heap.size, 0, none⟩) 1 1) [⟨2, 0, (s : Int) + 1⟩] ((W6.alloc (.cells #[.int .u8 2, .int .i64 0, .int .i64 ((s : Int) + 1)] 67)).alloc (.cells #[.slice (some ⟨W6.heap.size, 0, none⟩) 1 1] 68)) := arc_new (heap_ext (alloc_ext _ _) (heap_alloc_new W6 _))
      have hE0 := Ext.refl W6
      clear hT6
      go_wp2_with (at_builtin; refine wpList_append_own2 rfl _ _ 26 rfl W.heap.size 68 i68 (.slice none 0 0) 1 24 Tryd.underlying26 hi68 hz68 hs68 hb68 rfl (by decide) v' s ws rfl hrow ⟨W6.heap.size + 1, 0, none⟩ 1 1 [.slice (some ⟨W6.heap.size, 0, none⟩) 1 1] rfl rfl (new_cell _ _ _ _ (by simp)) (by intro u hu; simp at hu; subst hu; rfl) (by unfold maxLen; omega) (by omega) hbase ?_; intro v9 w9 hown9 hg9 hb9; obtain ⟨g9, c9', hv9⟩ := ownsRow_pos hown9 (by omega); subst hv9; obtain ⟨x9, y9, F9, hO9⟩ := chain_more (r := chR 2 s) hO hEa hua (arc_far (Nat.le_refl _) 1 1) hg9 (by rw [l13]; exact hown9) hb9)
      go_roundw
      case rel =>
        have hT9 : TwoSt W (w9.setCell ⟨b13, 2, none⟩ (.slice (some ⟨g9, 0, none⟩) (s + 1) c9')) b13 b12 0 0 (.slice (some ⟨g9, 0, none⟩) (s + 1) c9') (.slice (some ⟨g8, 0, none⟩) (s + 1) c8) (chR 2 (s + 1)) (chR 0 (s + 1)) := by rw [chR_succ]; exact ⟨_, _, _, _, hO9⟩
        exact ⟨s + 1, _, _, by go_num, by omega, Lib.hid (by first | exact hT9.swap | exact hT9.swap.trans (drew_ext _))⟩
      case measure => simp [intOf]; omega
    · have hse : s = 63 := by omega
      subst hse
      go_upto_region 999 with (first | (with_reducible refine stop_at 20 ?_) | (with_reducible refine stop_at2 20 ?_))
      refine ⟨?_⟩
      exact known_t20 w W W5 b1 b12 b13 v v' _ _ _ _ _ _ _ _ _ _ _ _ _ _ _ _ _ _ _ _ _ _ _ _ _ _ _ _ _ _ _ _ _ _ _ _ _ _ _ _ _ _ _ _ _ _ _ _ _ _ _ _ _ _ _ _ _ _ _ _ _ _ _ _ _ _ _ _ _ _ _ _ _ _ _ _ _ _ _ _ _ _ _ _ _ _ _ _ _ _ _ _ _ _ _ _ _ _ _ _ _ _ _ _ _ _ _ _ _ _ _ _ _ _ _ _ _ _ _ _ _ _ _ _ _ _ _ _ _ _ _ _ _ _ _ _ _ _ _ _ _ _ _ _ _ _ _ _ _ _ _ _ _ _ _ _ _ _ _ _ _ _ _ _ _ _ _ _ _ _ _ _ _ _ _ _ _ _ _ _ _ _ _ _ _ _ _ _ _ _ _ _ _ _ _ _ _ _ _ _ _ _ _ _ _ _ _ _ _ _ _ _ _ _ _ _ _ _ _ _ _ _ _ _ _ _ _ _ HX.out.1 HX.out.2.1 HX.out.2.2 HT.out
end Go.Proofs.YtamodjlifpjaoaaDoor
