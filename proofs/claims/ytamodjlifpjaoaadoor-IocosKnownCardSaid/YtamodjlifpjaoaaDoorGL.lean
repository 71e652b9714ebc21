/- lives 20: regions 11 to 23. lives 20: regions 11 to 20. lives 20: regions 0 to 10; the whole. lives 20: regions 0 to 3; the whole. -/
import Derived.Test.YtamodjlifpjaoaaDoorGK
namespace Go.Proofs.YtamodjlifpjaoaaDoor
open Go.RowKit
set_option linter.unusedVariables false
set_option linter.unusedSimpArgs false
attribute [local go_sem] Oper.quietV quietV Oper.gives givesV ext_refl_iff ext_alloc_iff ext_drew_iff ext_drewN_iff
theorem nodes_blk {W : World} {b0 b1 b : Nat} (h0 : W.heap[b0]? = some (.cells #[.int .i64 1] 3 (0, 0))) (h1 : W.heap[b1]? = some (.cells #[.int .i64 2, .int .i64 3, .int .i64 4] 3 (0, 0)))
    (h : W.heap[b]? = some (.cells #[.int .i64 0, .slice (some ⟨b0, 0, none⟩) 1 1, .int .i64 (-1), .slice (some ⟨b1, 0, none⟩) 3 3, .int .i64 (-2), .slice none 0 0, .int .i64 (-3), .slice none 0 0, .int .i64 (-3), .slice none 0 0] 56 (0, 0))) : NodesC W (.slice (some ⟨b, 0, none⟩) 5 5) sTest 5 := by
  refine ⟨some ⟨b, 0, none⟩, [(⟨0, [1]⟩, .slice (some ⟨b0, 0, none⟩) 1 1), (⟨-1, [2, 3, 4]⟩, .slice (some ⟨b1, 0, none⟩) 3 3), (⟨-2, []⟩, .slice none 0 0), (⟨-3, []⟩, .slice none 0 0), (⟨-3, []⟩, .slice none 0 0)], rfl, rfl, cells_blk h, fun e he => ?_, Nat.le_refl _, by unfold lenMax; simp [sTest]⟩
  simp only [List.mem_cons, List.not_mem_nil, or_false] at he
  rcases he with rfl | rfl | rfl | rfl | rfl
  · exact ⟨1, ints_blk (xs := [1]) h0 rfl rfl (by omega)⟩
  · exact ⟨3, ints_blk (xs := [2, 3, 4]) h1 rfl rfl (by omega)⟩
  · exact ⟨0, fit_nil W⟩
  · exact ⟨0, fit_nil W⟩
  · exact ⟨0, fit_nil W⟩
theorem three_new (W : World) (A B C : Obj) : (((W.alloc A).alloc B).alloc C).heap[W.heap.size]? = some A ∧ (((W.alloc A).alloc B).alloc C).heap[W.heap.size + 1]? = some B ∧ (((W.alloc A).alloc B).alloc C).heap[W.heap.size + 1 + 1]? = some C ∧ Ext W (((W.alloc A).alloc B).alloc C) := by
  have ha := heap_ext ((alloc_ext (W.alloc A) B).trans (alloc_ext _ C)) (heap_alloc_new W A)
  have hb := heap_ext (alloc_ext _ C) (heap_alloc_new (W.alloc A) B)
  have hc := heap_alloc_new ((W.alloc A).alloc B) C
  simp only [World.size_alloc] at hb hc
  exact ⟨ha, hb, hc, ((alloc_ext W A).trans (alloc_ext _ B)).trans (alloc_ext _ C)⟩
set_option maxRecDepth 100000 in
set_option maxHeartbeats 8000000 in
theorem lives_t21 (w W : World) (b1 b2 b3 : Nat) (c0 c4 c5 c6 c7 c8 c9 c10 c11 c12 c13 c14 c15 c16 c17 c18 c19 c20 c21 c22 c23 c24 c25 c26 c27 c28 c29 c30 c31 c32 c33 c34 c35 c36 c37 c38 c39 c40 c41 c42 c43 c44 c45 c46 c47 c48 c49 c50 c51 c52 c53 c54 c55 c56 c57 c58 c59 c60 c61 c62 c63 c64 c65 c66 c67 c68 c69 c70 c71 c72 c73 c74 c75 c76 c77 c78 c79 c80 c81 c82 c83 c84 c85 c86 c87 c88 c89 c90 c91 c92 c93 c94 c95 c96 c97 c98 c99 c100 c101 c102 c103 c104 c105 c106 c107 c108 c109 c110 c111 c112 c113 c114 c115 c116 c117 c118 c119 c120 c121 c122 c123 c124 c125 c126 c127 c128 c129 c130 c131 c132 c133 c134 c135 c136 c137 c138 c139 c140 c141 c142 c143 c144 c145 c146 c147 c148 c149 c150 c151 c152 c153 c154 c155 c156 c157 c158 c159 c160 c161 c162 c163 c164 c165 c166 c167 c168 c169 c170 c171 c172 c173 c174 c175 c176 c177 c178 c179 c180 c181 c182 c183 c184 c185 c186 c187 c188 c189 c190 c191 c192 c193 c194 c195 c196 c197 c198 c199 c200 c201 c202 c203 c204 c205 c206 c207 c208 c209 c210 c211 c212 c213 c214 c215 c216 c217 c218 c219 c220 c221 c222 c223 c224 c225 c226 c227 c228 c229 c230 c231 c232 c233 c234 c235 c236 c237 c238 c239 c240 c241 c242 c243 c244 c245 c246 c247 c248 c249 c250 c251 c252 c253 c254 c255 c256 c257 c258 c259 c260 c261 c262 c263 c264 c265 c266 c267 c268 c269 c270 c271 c272 : Value) (h : LV w W b1 b2 b3) :
    Code.wp Tryd.prog (T20 21) (bodyPost Tryd.prog Tryd.f20 (LiveP w)) ⟨(c0 :: .pointer (some ⟨b1, 0, none⟩) :: .pointer (some ⟨b2, 0, none⟩) :: .pointer (some ⟨b3, 0, none⟩) :: c4 :: c5 :: c6 :: c7 :: c8 :: c9 :: c10 :: c11 :: c12 :: c13 :: c14 :: c15 :: c16 :: c17 :: c18 :: c19 :: c20 :: c21 :: c22 :: c23 :: c24 :: c25 :: c26 :: c27 :: c28 :: c29 :: c30 :: c31 :: c32 :: c33 :: c34 :: c35 :: c36 :: c37 :: c38 :: c39 :: c40 :: c41 :: c42 :: c43 :: c44 :: c45 :: c46 :: c47 :: c48 :: c49 :: c50 :: c51 :: c52 :: c53 :: c54 :: c55 :: c56 :: c57 :: c58 :: c59 :: c60 :: c61 :: c62 :: c63 :: c64 :: c65 :: c66 :: c67 :: c68 :: c69 :: c70 :: c71 :: c72 :: c73 :: c74 :: c75 :: c76 :: c77 :: c78 :: c79 :: c80 :: c81 :: c82 :: c83 :: c84 :: c85 :: c86 :: c87 :: c88 :: c89 :: c90 :: c91 :: c92 :: c93 :: c94 :: c95 :: c96 :: c97 :: c98 :: c99 :: c100 :: c101 :: c102 :: c103 :: c104 :: c105 :: c106 :: c107 :: c108 :: c109 :: c110 :: c111 :: c112 :: c113 :: c114 :: c115 :: c116 :: c117 :: c118 :: c119 :: c120 :: c121 :: c122 :: c123 :: c124 :: c125 :: c126 :: c127 :: c128 :: c129 :: c130 :: c131 :: c132 :: c133 :: c134 :: c135 :: c136 :: c137 :: c138 :: c139 :: c140 :: c141 :: c142 :: c143 :: c144 :: c145 :: c146 :: c147 :: c148 :: c149 :: c150 :: c151 :: c152 :: c153 :: c154 :: c155 :: c156 :: c157 :: c158 :: c159 :: c160 :: c161 :: c162 :: c163 :: c164 :: c165 :: c166 :: c167 :: c168 :: c169 :: c170 :: c171 :: c172 :: c173 :: c174 :: c175 :: c176 :: c177 :: c178 :: c179 :: c180 :: c181 :: c182 :: c183 :: c184 :: c185 :: c186 :: c187 :: c188 :: c189 :: c190 :: c191 :: c192 :: c193 :: c194 :: c195 :: c196 :: c197 :: c198 :: c199 :: c200 :: c201 :: c202 :: c203 :: c204 :: c205 :: c206 :: c207 :: c208 :: c209 :: c210 :: c211 :: c212 :: c213 :: c214 :: c215 :: c216 :: c217 :: c218 :: c219 :: c220 :: c221 :: c222 :: c223 :: c224 :: c225 :: c226 :: c227 :: c228 :: c229 :: c230 :: c231 :: c232 :: c233 :: c234 :: c235 :: c236 :: c237 :: c238 :: c239 :: c240 :: c241 :: c242 :: c243 :: c244 :: c245 :: c246 :: c247 :: c248 :: c249 :: c250 :: c251 :: c252 :: c253 :: c254 :: c255 :: c256 :: c257 :: c258 :: c259 :: c260 :: c261 :: c262 :: c263 :: c264 :: c265 :: c266 :: c267 :: c268 :: c269 :: c270 :: c271 :: c272 :: []).toArray, []⟩ W := by
  conv => arg 2; whnf
  have HL := Lib.hid h
  obtain ⟨pA, pc, r0, r1, r2, rS⟩ := h.s
  have pS : LtsV W (.agg #[.int .i64 1, .int .i64 2, .slice pA 2 pc]) _ := rS
  have p0 : ∀ w', Ext W w' → w'.cell? ⟨b1, 0, none⟩ = some (.int .i64 1) := fun w' h => h.cell r0
  have p1 : ∀ w', Ext W w' → w'.cell? ⟨b1, 1, none⟩ = some (.int .i64 2) := fun w' h => h.cell r1
  have p2 : ∀ w', Ext W w' → w'.cell? ⟨b1, 2, none⟩ = some (.slice pA 2 pc) := fun w' h => h.cell r2
  clear r0 r1 r2 rS
  have hE0 := Ext.refl W
  have hmk := make_at make_val (pS.ext (alloc_ext W (.cells #[.int .i64 0, .int .i64 (-1)] 3))) (ints_blk (xs := [0, -1]) (n := 2) (heap_alloc_new W _) rfl rfl (by omega)) (h.tab.ext (alloc_ext _ _))
  clear h pS
  go_upto_region 22 with ((with_reducible refine hmk.mono ?_); rintro e w1 ⟨rv, rfl, hN, e1⟩)
  clear hmk p0 p1 p2 hE0
  obtain ⟨At, hAt⟩ : ∃ At, rv = .slice At 5 5 := by obtain ⟨A, _, _, h, _⟩ := hN; exact ⟨A, h⟩
  subst hAt
  have HN := Lib.hid (And.intro hN e1)
  clear hN e1
  obtain ⟨oa2, ob2, oc, e3⟩ := three_new w1 (.cells #[.int .i64 1] 3) (.cells #[.int .i64 2, .int .i64 3, .int .i64 4] 3) (.cells #[.int .i64 0, .slice (some ⟨w1.heap.size, 0, none⟩) 1 1, .int .i64 (-1), .slice (some ⟨w1.heap.size + 1, 0, none⟩) 3 3, .int .i64 (-2), .slice none 0 0, .int .i64 (-3), .slice none 0 0, .int .i64 (-3), .slice none 0 0] 56)
  have hn := nodes_yes (HN.out.1.ext e3) (nodes_blk oa2 ob2 oc)
  have E3 := Lib.hid e3
  clear oc oa2 ob2 e3
  go_upto_region 999 with (first | ((with_reducible refine hn.mono ?_); rintro e w4 ⟨rfl, e4⟩) | (with_reducible refine stop_at 24 ?_) | (with_reducible refine stop_at2 24 ?_))
  refine ⟨?_⟩
  exact lives_t24 w w4 b1 b2 b3 _ _ _ _ _ _ _ _ _ _ _ _ _ _ _ _ _ _ _ _ _ _ _ _ _ _ _ _ _ _ _ _ _ _ _ _ _ _ _ _ _ _ _ _ _ _ _ _ _ _ _ _ _ _ _ _ _ _ _ _ _ _ _ _ _ _ _ _ _ _ _ _ _ _ _ _ _ _ _ _ _ _ _ _ _ _ _ _ _ _ _ _ _ _ _ _ _ _ _ _ _ _ _ _ _ _ _ _ _ _ _ _ _ _ _ _ _ _ _ _ _ _ _ _ _ _ _ _ _ _ _ _ _ _ _ _ _ _ _ _ _ _ _ _ _ _ _ _ _ _ _ _ _ _ _ _ _ _ _ _ _ _ _ _ _ _ _ _ _ _ _ _ _ _ _ _ _ _ _ _ _ _ _ _ _ _ _ _ _ _ _ _ _ _ _ _ _ _ _ _ _ _ _ _ _ _ _ _ _ _ _ _ _ _ _ _ _ _ _ _ _ _ _ _ _ _ _ _ _ _ _ _ _ _ _ _ _ _ _ _ _ _ _ _ _ _ _ _ _ _ _ _ _ _ _ _ _ _ _ _ _ _ _ _ _ _ _ _ _ _ (HL.out.next ((alloc_ext W _).trans (HN.out.2.trans (E3.out.trans e4)))) (HN.out.1.ext (E3.out.trans e4))
end Go.Proofs.YtamodjlifpjaoaaDoor

namespace Go.Proofs.YtamodjlifpjaoaaDoor
open Go.RowKit
set_option linter.unusedVariables false
set_option linter.unusedSimpArgs false
attribute [local go_sem] Oper.quietV quietV Oper.gives givesV ext_refl_iff ext_alloc_iff ext_drew_iff ext_drewN_iff
/-- What the calls have handed back, before region 19. -/
structure Obs3 (W : World) (va vb vc : Value) : Prop where
  a : FitC W va [3]
  b : FitC W vb [1]
  c : FitC W vc [1, 3]
theorem Obs3.ext {W W' : World} {va vb vc : Value} (h : Obs3 W va vb vc) (e : Ext W W') : Obs3 W' va vb vc := ⟨fit_ext h.a e, fit_ext h.b e, fit_ext h.c e⟩
set_option maxRecDepth 100000 in
set_option maxHeartbeats 8000000 in
theorem lives_t19 (w W : World) (b1 b2 b3 : Nat) (va vb vc : Value) (c0 c4 c5 c6 c7 c8 c9 c20 c21 c22 c23 c24 c25 c26 c27 c28 c29 c30 c31 c32 c33 c34 c35 c36 c37 c38 c39 c40 c41 c42 c43 c44 c45 c46 c47 c48 c49 c50 c51 c52 c53 c54 c55 c56 c57 c58 c59 c60 c61 c62 c63 c64 c65 c66 c67 c68 c69 c70 c71 c72 c73 c74 c75 c76 c77 c78 c79 c80 c81 c82 c83 c84 c85 c86 c87 c88 c89 c90 c91 c92 c93 c94 c95 c96 c97 c98 c99 c100 c101 c102 c103 c104 c105 c106 c107 c108 c109 c110 c111 c112 c113 c114 c115 c116 c117 c118 c119 c120 c121 c122 c123 c124 c125 c126 c127 c128 c129 c130 c131 c132 c133 c134 c135 c136 c137 c138 c139 c140 c141 c142 c143 c144 c145 c146 c147 c148 c149 c150 c151 c152 c153 c154 c155 c156 c157 c158 c159 c160 c161 c162 c163 c164 c165 c166 c167 c168 c169 c170 c171 c172 c173 c174 c175 c176 c177 c178 c179 c180 c181 c182 c183 c184 c185 c186 c187 c188 c189 c190 c191 c192 c193 c194 c195 c196 c197 c198 c199 c200 c201 c202 c203 c204 c205 c206 c207 c208 c209 c210 c211 c212 c213 c214 c215 c216 c217 c218 c219 c220 c221 c222 c223 c224 c225 c226 c227 c228 c229 c230 c231 c232 c233 c234 c235 c236 c237 c238 c239 c240 c241 c242 c243 c244 c245 c246 c247 c248 c249 c250 c251 c252 c253 c254 c255 c256 c257 c258 c259 c260 c261 c262 c263 c264 c265 c266 c267 c268 c269 c270 c271 c272 : Value) (h : LV w W b1 b2 b3) (ho : Obs3 W va vb vc) :
    Code.wp Tryd.prog (T20 19) (bodyPost Tryd.prog Tryd.f20 (LiveP w)) ⟨(c0 :: .pointer (some ⟨b1, 0, none⟩) :: .pointer (some ⟨b2, 0, none⟩) :: .pointer (some ⟨b3, 0, none⟩) :: c4 :: c5 :: c6 :: c7 :: c8 :: c9 :: .int .i64 0 :: va :: vb :: .int .i64 0 :: vc :: .int .i64 0 :: .bool false :: .int .i64 0 :: .bool true :: .int .i64 0 :: c20 :: c21 :: c22 :: c23 :: c24 :: c25 :: c26 :: c27 :: c28 :: c29 :: c30 :: c31 :: c32 :: c33 :: c34 :: c35 :: c36 :: c37 :: c38 :: c39 :: c40 :: c41 :: c42 :: c43 :: c44 :: c45 :: c46 :: c47 :: c48 :: c49 :: c50 :: c51 :: c52 :: c53 :: c54 :: c55 :: c56 :: c57 :: c58 :: c59 :: c60 :: c61 :: c62 :: c63 :: c64 :: c65 :: c66 :: c67 :: c68 :: c69 :: c70 :: c71 :: c72 :: c73 :: c74 :: c75 :: c76 :: c77 :: c78 :: c79 :: c80 :: c81 :: c82 :: c83 :: c84 :: c85 :: c86 :: c87 :: c88 :: c89 :: c90 :: c91 :: c92 :: c93 :: c94 :: c95 :: c96 :: c97 :: c98 :: c99 :: c100 :: c101 :: c102 :: c103 :: c104 :: c105 :: c106 :: c107 :: c108 :: c109 :: c110 :: c111 :: c112 :: c113 :: c114 :: c115 :: c116 :: c117 :: c118 :: c119 :: c120 :: c121 :: c122 :: c123 :: c124 :: c125 :: c126 :: c127 :: c128 :: c129 :: c130 :: c131 :: c132 :: c133 :: c134 :: c135 :: c136 :: c137 :: c138 :: c139 :: c140 :: c141 :: c142 :: c143 :: c144 :: c145 :: c146 :: c147 :: c148 :: c149 :: c150 :: c151 :: c152 :: c153 :: c154 :: c155 :: c156 :: c157 :: c158 :: c159 :: c160 :: c161 :: c162 :: c163 :: c164 :: c165 :: c166 :: c167 :: c168 :: c169 :: c170 :: c171 :: c172 :: c173 :: c174 :: c175 :: c176 :: c177 :: c178 :: c179 :: c180 :: c181 :: c182 :: c183 :: c184 :: c185 :: c186 :: c187 :: c188 :: c189 :: c190 :: c191 :: c192 :: c193 :: c194 :: c195 :: c196 :: c197 :: c198 :: c199 :: c200 :: c201 :: c202 :: c203 :: c204 :: c205 :: c206 :: c207 :: c208 :: c209 :: c210 :: c211 :: c212 :: c213 :: c214 :: c215 :: c216 :: c217 :: c218 :: c219 :: c220 :: c221 :: c222 :: c223 :: c224 :: c225 :: c226 :: c227 :: c228 :: c229 :: c230 :: c231 :: c232 :: c233 :: c234 :: c235 :: c236 :: c237 :: c238 :: c239 :: c240 :: c241 :: c242 :: c243 :: c244 :: c245 :: c246 :: c247 :: c248 :: c249 :: c250 :: c251 :: c252 :: c253 :: c254 :: c255 :: c256 :: c257 :: c258 :: c259 :: c260 :: c261 :: c262 :: c263 :: c264 :: c265 :: c266 :: c267 :: c268 :: c269 :: c270 :: c271 :: c272 :: []).toArray, []⟩ W := by
  conv => arg 2; whnf
  have HL := Lib.hid (And.intro h ho)
  clear h ho
  have h1 := same_yes (fit_ext HL.out.2.a (alloc_ext W (.cells #[.int .i64 3] 3))) (ints_blk (xs := [3]) (n := 1) (heap_alloc_new W _) rfl rfl (by omega)) (by decide)
  have h2 := fun w1 (E : Ext W w1) => same_yes (fit_ext HL.out.2.b (E.trans (alloc_ext w1 (.cells #[.int .i64 1] 3)))) (ints_blk (xs := [1]) (n := 1) (heap_alloc_new w1 _) rfl rfl (by omega)) (by decide)
  have h3 := fun w1 (E : Ext W w1) => same_yes (fit_ext HL.out.2.c (E.trans (alloc_ext w1 (.cells #[.int .i64 1, .int .i64 3] 3)))) (ints_blk (xs := [1, 3]) (n := 2) (heap_alloc_new w1 _) rfl rfl (by omega)) (by decide)
  obtain ⟨Aa, rfl, -⟩ := id HL.out.2.a
  obtain ⟨Ab, rfl, -⟩ := id HL.out.2.b
  obtain ⟨Ac, rfl, -⟩ := id HL.out.2.c
  have hwr : IntKind.i64.wrap 1 = 1 := by decide
  have h1 : Calls Tryd.prog 15 #[.slice Aa 1 1, .int .i64 0, .slice (some ⟨W.heap.size, 0, none⟩) 1 1] _ _ := h1
  have h2 : ∀ w1 (E : Ext W w1), Calls Tryd.prog 15 #[.slice Ab 1 1, .int .i64 0, .slice (some ⟨w1.heap.size, 0, none⟩) 1 1] (w1.alloc (.cells #[.int .i64 1] 3)) (fun r w' => r = .returned (.int .i64 1) ∧ Ext (w1.alloc (.cells #[.int .i64 1] 3)) w') := h2
  have h3 : ∀ w1 (E : Ext W w1), Calls Tryd.prog 15 #[.slice Ac 2 2, .int .i64 0, .slice (some ⟨w1.heap.size, 0, none⟩) 2 2] (w1.alloc (.cells #[.int .i64 1, .int .i64 3] 3)) (fun r w' => r = .returned (.int .i64 1) ∧ Ext (w1.alloc (.cells #[.int .i64 1, .int .i64 3] 3)) w') := h3
  go_upto_region 999 with (first
    | ((with_reducible refine h1.mono ?_); rintro e w1 ⟨rfl, e1⟩; have E1 := (alloc_ext W _).trans e1)
    | ((with_reducible refine (h2 w1 E1).mono ?_); rintro e w2 ⟨rfl, e2⟩; have E2 := E1.trans ((alloc_ext w1 _).trans e2))
    | ((with_reducible refine (h3 w2 E2).mono ?_); rintro e w3 ⟨rfl, e3⟩; have E3 := E2.trans ((alloc_ext w2 _).trans e3))
    | (with_reducible refine stop_at 21 ?_) | (with_reducible refine stop_at2 21 ?_))
  refine ⟨?_⟩
  exact lives_t21 w w3 b1 b2 b3 _ _ _ _ _ _ _ _ _ _ _ _ _ _ _ _ _ _ _ _ _ _ _ _ _ _ _ _ _ _ _ _ _ _ _ _ _ _ _ _ _ _ _ _ _ _ _ _ _ _ _ _ _ _ _ _ _ _ _ _ _ _ _ _ _ _ _ _ _ _ _ _ _ _ _ _ _ _ _ _ _ _ _ _ _ _ _ _ _ _ _ _ _ _ _ _ _ _ _ _ _ _ _ _ _ _ _ _ _ _ _ _ _ _ _ _ _ _ _ _ _ _ _ _ _ _ _ _ _ _ _ _ _ _ _ _ _ _ _ _ _ _ _ _ _ _ _ _ _ _ _ _ _ _ _ _ _ _ _ _ _ _ _ _ _ _ _ _ _ _ _ _ _ _ _ _ _ _ _ _ _ _ _ _ _ _ _ _ _ _ _ _ _ _ _ _ _ _ _ _ _ _ _ _ _ _ _ _ _ _ _ _ _ _ _ _ _ _ _ _ _ _ _ _ _ _ _ _ _ _ _ _ _ _ _ _ _ _ _ _ _ _ _ _ _ _ _ _ _ _ _ _ _ _ _ _ _ _ _ _ _ _ _ _ _ _ _ _ _ _ (HL.out.1.next E3)
set_option maxRecDepth 100000 in
set_option maxHeartbeats 8000000 in
theorem lives_t14 (w W : World) (b1 b2 b3 : Nat) (c0 c4 c5 c6 c7 c8 c9 c10 c11 c12 c13 c14 c15 c16 c17 c18 c19 c20 c21 c22 c23 c24 c25 c26 c27 c28 c29 c30 c31 c32 c33 c34 c35 c36 c37 c38 c39 c40 c41 c42 c43 c44 c45 c46 c47 c48 c49 c50 c51 c52 c53 c54 c55 c56 c57 c58 c59 c60 c61 c62 c63 c64 c65 c66 c67 c68 c69 c70 c71 c72 c73 c74 c75 c76 c77 c78 c79 c80 c81 c82 c83 c84 c85 c86 c87 c88 c89 c90 c91 c92 c93 c94 c95 c96 c97 c98 c99 c100 c101 c102 c103 c104 c105 c106 c107 c108 c109 c110 c111 c112 c113 c114 c115 c116 c117 c118 c119 c120 c121 c122 c123 c124 c125 c126 c127 c128 c129 c130 c131 c132 c133 c134 c135 c136 c137 c138 c139 c140 c141 c142 c143 c144 c145 c146 c147 c148 c149 c150 c151 c152 c153 c154 c155 c156 c157 c158 c159 c160 c161 c162 c163 c164 c165 c166 c167 c168 c169 c170 c171 c172 c173 c174 c175 c176 c177 c178 c179 c180 c181 c182 c183 c184 c185 c186 c187 c188 c189 c190 c191 c192 c193 c194 c195 c196 c197 c198 c199 c200 c201 c202 c203 c204 c205 c206 c207 c208 c209 c210 c211 c212 c213 c214 c215 c216 c217 c218 c219 c220 c221 c222 c223 c224 c225 c226 c227 c228 c229 c230 c231 c232 c233 c234 c235 c236 c237 c238 c239 c240 c241 c242 c243 c244 c245 c246 c247 c248 c249 c250 c251 c252 c253 c254 c255 c256 c257 c258 c259 c260 c261 c262 c263 c264 c265 c266 c267 c268 c269 c270 c271 c272 : Value) (h : LV w W b1 b2 b3) :
    Code.wp Tryd.prog (T20 14) (bodyPost Tryd.prog Tryd.f20 (LiveP w)) ⟨(c0 :: .pointer (some ⟨b1, 0, none⟩) :: .pointer (some ⟨b2, 0, none⟩) :: .pointer (some ⟨b3, 0, none⟩) :: c4 :: c5 :: c6 :: c7 :: c8 :: c9 :: c10 :: c11 :: c12 :: c13 :: c14 :: c15 :: c16 :: c17 :: c18 :: c19 :: c20 :: c21 :: c22 :: c23 :: c24 :: c25 :: c26 :: c27 :: c28 :: c29 :: c30 :: c31 :: c32 :: c33 :: c34 :: c35 :: c36 :: c37 :: c38 :: c39 :: c40 :: c41 :: c42 :: c43 :: c44 :: c45 :: c46 :: c47 :: c48 :: c49 :: c50 :: c51 :: c52 :: c53 :: c54 :: c55 :: c56 :: c57 :: c58 :: c59 :: c60 :: c61 :: c62 :: c63 :: c64 :: c65 :: c66 :: c67 :: c68 :: c69 :: c70 :: c71 :: c72 :: c73 :: c74 :: c75 :: c76 :: c77 :: c78 :: c79 :: c80 :: c81 :: c82 :: c83 :: c84 :: c85 :: c86 :: c87 :: c88 :: c89 :: c90 :: c91 :: c92 :: c93 :: c94 :: c95 :: c96 :: c97 :: c98 :: c99 :: c100 :: c101 :: c102 :: c103 :: c104 :: c105 :: c106 :: c107 :: c108 :: c109 :: c110 :: c111 :: c112 :: c113 :: c114 :: c115 :: c116 :: c117 :: c118 :: c119 :: c120 :: c121 :: c122 :: c123 :: c124 :: c125 :: c126 :: c127 :: c128 :: c129 :: c130 :: c131 :: c132 :: c133 :: c134 :: c135 :: c136 :: c137 :: c138 :: c139 :: c140 :: c141 :: c142 :: c143 :: c144 :: c145 :: c146 :: c147 :: c148 :: c149 :: c150 :: c151 :: c152 :: c153 :: c154 :: c155 :: c156 :: c157 :: c158 :: c159 :: c160 :: c161 :: c162 :: c163 :: c164 :: c165 :: c166 :: c167 :: c168 :: c169 :: c170 :: c171 :: c172 :: c173 :: c174 :: c175 :: c176 :: c177 :: c178 :: c179 :: c180 :: c181 :: c182 :: c183 :: c184 :: c185 :: c186 :: c187 :: c188 :: c189 :: c190 :: c191 :: c192 :: c193 :: c194 :: c195 :: c196 :: c197 :: c198 :: c199 :: c200 :: c201 :: c202 :: c203 :: c204 :: c205 :: c206 :: c207 :: c208 :: c209 :: c210 :: c211 :: c212 :: c213 :: c214 :: c215 :: c216 :: c217 :: c218 :: c219 :: c220 :: c221 :: c222 :: c223 :: c224 :: c225 :: c226 :: c227 :: c228 :: c229 :: c230 :: c231 :: c232 :: c233 :: c234 :: c235 :: c236 :: c237 :: c238 :: c239 :: c240 :: c241 :: c242 :: c243 :: c244 :: c245 :: c246 :: c247 :: c248 :: c249 :: c250 :: c251 :: c252 :: c253 :: c254 :: c255 :: c256 :: c257 :: c258 :: c259 :: c260 :: c261 :: c262 :: c263 :: c264 :: c265 :: c266 :: c267 :: c268 :: c269 :: c270 :: c271 :: c272 :: []).toArray, []⟩ W := by
  conv => arg 2; whnf
  have HL := Lib.hid h
  obtain ⟨pA, pc, r0, r1, r2, rS⟩ := h.s
  have pS : LtsV W (.agg #[.int .i64 1, .int .i64 2, .slice pA 2 pc]) _ := rS
  have p0 : ∀ w', Ext W w' → w'.cell? ⟨b1, 0, none⟩ = some (.int .i64 1) := fun w' h => h.cell r0
  have p1 : ∀ w', Ext W w' → w'.cell? ⟨b1, 1, none⟩ = some (.int .i64 2) := fun w' h => h.cell r1
  have p2 : ∀ w', Ext W w' → w'.cell? ⟨b1, 2, none⟩ = some (.slice pA 2 pc) := fun w' h => h.cell r2
  clear r0 r1 r2 rS
  obtain ⟨qA, qc, r0, r1, r2, rS⟩ := h.i
  have qS : LtsV W (.agg #[.int .i64 1, .int .i64 2, .slice qA 2 qc]) _ := rS
  have q0 : ∀ w', Ext W w' → w'.cell? ⟨b2, 0, none⟩ = some (.int .i64 1) := fun w' h => h.cell r0
  have q1 : ∀ w', Ext W w' → w'.cell? ⟨b2, 1, none⟩ = some (.int .i64 2) := fun w' h => h.cell r1
  have q2 : ∀ w', Ext W w' → w'.cell? ⟨b2, 2, none⟩ = some (.slice qA 2 qc) := fun w' h => h.cell r2
  clear r0 r1 r2 rS
  have hE0 := Ext.refl W
  have h1 := obs_at obs1_val (pS.ext (alloc_ext W (.cells #[.int .i64 0] 3))) (ints_blk (xs := [0]) (n := 1) (heap_alloc_new W _) rfl rfl (by omega)) (h.tab.ext (alloc_ext _ _))
  have h2 := fun w1 (E : Ext W w1) => obs_at obs2_val (pS.ext (E.trans (alloc_ext w1 (.cells #[.int .i64 1] 3)))) (ints_blk (xs := [1]) (n := 1) (heap_alloc_new w1 _) rfl rfl (by omega)) (HL.out.tab.ext (E.trans (alloc_ext _ _)))
  have h3 := fun w1 (E : Ext W w1) v (hv : LtsV w1 v sK) => obs_at obs3_val (hv.ext (alloc_ext w1 (.cells #[.int .i64 1, .int .i64 2] 3))) (ints_blk (xs := [1, 2]) (n := 2) (heap_alloc_new w1 _) rfl rfl (by omega)) (HL.out.tab.ext (E.trans (alloc_ext _ _)))
  have h4 := fun w1 (E : Ext W w1) => acc_at acc1_val (pS.ext E) (HL.out.tab.ext E)
  have h5 := fun w1 (E : Ext W w1) => acc_at acc2_val (qS.ext E) (HL.out.tab.ext E)
  clear h pS qS
  go_upto_region 999 with (first
    | ((with_reducible refine h1.mono ?_); rintro e w1 ⟨va, rfl, hf1, e1⟩; have E1 := (alloc_ext W _).trans e1)
    | ((with_reducible refine (h2 w1 E1).mono ?_); rintro e w2 ⟨vb, rfl, hf2, e2⟩; have e12 := (alloc_ext w1 _).trans e2; have E2 := E1.trans e12)
    | (go_at_call 49; refine (k_any w2).mono ?_; rintro e w3 ⟨Ak, ck, rfl, hk, e3⟩; have E3 := E2.trans e3; have h33 := h3 w3 E3 _ hk)
    | ((with_reducible refine h33.mono ?_); rintro e w4 ⟨vc, rfl, hf4, e4⟩; have e34 := (alloc_ext w3 _).trans e4; have E4 := E3.trans e34)
    | ((with_reducible refine (h4 w4 E4).mono ?_); rintro e w5 ⟨rfl, e5⟩; have E5 := E4.trans e5)
    | ((with_reducible refine (h5 w5 E5).mono ?_); rintro e w6 ⟨rfl, e6⟩; have E6 := E5.trans e6)
    | (with_reducible refine stop_at 19 ?_) | (with_reducible refine stop_at2 19 ?_))
  refine ⟨?_⟩
  exact lives_t19 w w6 b1 b2 b3 va vb vc _ _ _ _ _ _ _ _ _ _ _ _ _ _ _ _ _ _ _ _ _ _ _ _ _ _ _ _ _ _ _ _ _ _ _ _ _ _ _ _ _ _ _ _ _ _ _ _ _ _ _ _ _ _ _ _ _ _ _ _ _ _ _ _ _ _ _ _ _ _ _ _ _ _ _ _ _ _ _ _ _ _ _ _ _ _ _ _ _ _ _ _ _ _ _ _ _ _ _ _ _ _ _ _ _ _ _ _ _ _ _ _ _ _ _ _ _ _ _ _ _ _ _ _ _ _ _ _ _ _ _ _ _ _ _ _ _ _ _ _ _ _ _ _ _ _ _ _ _ _ _ _ _ _ _ _ _ _ _ _ _ _ _ _ _ _ _ _ _ _ _ _ _ _ _ _ _ _ _ _ _ _ _ _ _ _ _ _ _ _ _ _ _ _ _ _ _ _ _ _ _ _ _ _ _ _ _ _ _ _ _ _ _ _ _ _ _ _ _ _ _ _ _ _ _ _ _ _ _ _ _ _ _ _ _ _ _ _ _ _ _ _ _ _ _ _ _ _ _ _ _ _ _ _ _ _ _ _ _ _ (HL.out.next E6) ⟨fit_ext hf1 (e12.trans (e3.trans (e34.trans (e5.trans e6)))), fit_ext hf2 (e3.trans (e34.trans (e5.trans e6))), fit_ext hf4 (e5.trans e6)⟩
set_option maxRecDepth 100000 in
set_option maxHeartbeats 8000000 in
theorem lives_t11 (w W : World) (b1 b2 b3 : Nat) (c0 c4 c5 c6 c7 c8 c9 c10 c11 c12 c13 c14 c15 c16 c17 c18 c19 c20 c21 c22 c23 c24 c25 c26 c27 c28 c29 c30 c31 c32 c33 c34 c35 c36 c37 c38 c39 c40 c41 c42 c43 c44 c45 c46 c47 c48 c49 c50 c51 c52 c53 c54 c55 c56 c57 c58 c59 c60 c61 c62 c63 c64 c65 c66 c67 c68 c69 c70 c71 c72 c73 c74 c75 c76 c77 c78 c79 c80 c81 c82 c83 c84 c85 c86 c87 c88 c89 c90 c91 c92 c93 c94 c95 c96 c97 c98 c99 c100 c101 c102 c103 c104 c105 c106 c107 c108 c109 c110 c111 c112 c113 c114 c115 c116 c117 c118 c119 c120 c121 c122 c123 c124 c125 c126 c127 c128 c129 c130 c131 c132 c133 c134 c135 c136 c137 c138 c139 c140 c141 c142 c143 c144 c145 c146 c147 c148 c149 c150 c151 c152 c153 c154 c155 c156 c157 c158 c159 c160 c161 c162 c163 c164 c165 c166 c167 c168 c169 c170 c171 c172 c173 c174 c175 c176 c177 c178 c179 c180 c181 c182 c183 c184 c185 c186 c187 c188 c189 c190 c191 c192 c193 c194 c195 c196 c197 c198 c199 c200 c201 c202 c203 c204 c205 c206 c207 c208 c209 c210 c211 c212 c213 c214 c215 c216 c217 c218 c219 c220 c221 c222 c223 c224 c225 c226 c227 c228 c229 c230 c231 c232 c233 c234 c235 c236 c237 c238 c239 c240 c241 c242 c243 c244 c245 c246 c247 c248 c249 c250 c251 c252 c253 c254 c255 c256 c257 c258 c259 c260 c261 c262 c263 c264 c265 c266 c267 c268 c269 c270 c271 c272 : Value) (h : LV w W b1 b2 b3) :
    Code.wp Tryd.prog (T20 11) (bodyPost Tryd.prog Tryd.f20 (LiveP w)) ⟨(c0 :: .pointer (some ⟨b1, 0, none⟩) :: .pointer (some ⟨b2, 0, none⟩) :: .pointer (some ⟨b3, 0, none⟩) :: c4 :: c5 :: c6 :: c7 :: c8 :: c9 :: c10 :: c11 :: c12 :: c13 :: c14 :: c15 :: c16 :: c17 :: c18 :: c19 :: c20 :: c21 :: c22 :: c23 :: c24 :: c25 :: c26 :: c27 :: c28 :: c29 :: c30 :: c31 :: c32 :: c33 :: c34 :: c35 :: c36 :: c37 :: c38 :: c39 :: c40 :: c41 :: c42 :: c43 :: c44 :: c45 :: c46 :: c47 :: c48 :: c49 :: c50 :: c51 :: c52 :: c53 :: c54 :: c55 :: c56 :: c57 :: c58 :: c59 :: c60 :: c61 :: c62 :: c63 :: c64 :: c65 :: c66 :: c67 :: c68 :: c69 :: c70 :: c71 :: c72 :: c73 :: c74 :: c75 :: c76 :: c77 :: c78 :: c79 :: c80 :: c81 :: c82 :: c83 :: c84 :: c85 :: c86 :: c87 :: c88 :: c89 :: c90 :: c91 :: c92 :: c93 :: c94 :: c95 :: c96 :: c97 :: c98 :: c99 :: c100 :: c101 :: c102 :: c103 :: c104 :: c105 :: c106 :: c107 :: c108 :: c109 :: c110 :: c111 :: c112 :: c113 :: c114 :: c115 :: c116 :: c117 :: c118 :: c119 :: c120 :: c121 :: c122 :: c123 :: c124 :: c125 :: c126 :: c127 :: c128 :: c129 :: c130 :: c131 :: c132 :: c133 :: c134 :: c135 :: c136 :: c137 :: c138 :: c139 :: c140 :: c141 :: c142 :: c143 :: c144 :: c145 :: c146 :: c147 :: c148 :: c149 :: c150 :: c151 :: c152 :: c153 :: c154 :: c155 :: c156 :: c157 :: c158 :: c159 :: c160 :: c161 :: c162 :: c163 :: c164 :: c165 :: c166 :: c167 :: c168 :: c169 :: c170 :: c171 :: c172 :: c173 :: c174 :: c175 :: c176 :: c177 :: c178 :: c179 :: c180 :: c181 :: c182 :: c183 :: c184 :: c185 :: c186 :: c187 :: c188 :: c189 :: c190 :: c191 :: c192 :: c193 :: c194 :: c195 :: c196 :: c197 :: c198 :: c199 :: c200 :: c201 :: c202 :: c203 :: c204 :: c205 :: c206 :: c207 :: c208 :: c209 :: c210 :: c211 :: c212 :: c213 :: c214 :: c215 :: c216 :: c217 :: c218 :: c219 :: c220 :: c221 :: c222 :: c223 :: c224 :: c225 :: c226 :: c227 :: c228 :: c229 :: c230 :: c231 :: c232 :: c233 :: c234 :: c235 :: c236 :: c237 :: c238 :: c239 :: c240 :: c241 :: c242 :: c243 :: c244 :: c245 :: c246 :: c247 :: c248 :: c249 :: c250 :: c251 :: c252 :: c253 :: c254 :: c255 :: c256 :: c257 :: c258 :: c259 :: c260 :: c261 :: c262 :: c263 :: c264 :: c265 :: c266 :: c267 :: c268 :: c269 :: c270 :: c271 :: c272 :: []).toArray, []⟩ W := by
  conv => arg 2; whnf
  have HL := Lib.hid h
  have h3 := fun w1 (E : Ext W w1) v (hv : LtsV w1 v sK) => after_at after5_val (hv.ext (alloc_ext w1 (.cells #[.int .i64 0] 3))) (ints_blk (xs := [0]) (n := 1) (heap_alloc_new w1 _) rfl rfl (by omega)) (HL.out.tab.ext (E.trans (alloc_ext _ _)))
  have h4 := fun w1 v (hv : FitC w1 v [1, 2]) => same_yes (fit_ext hv (alloc_ext w1 (.cells #[.int .i64 1, .int .i64 2] 3))) (ints_blk (xs := [1, 2]) (n := 2) (heap_alloc_new w1 _) rfl rfl (by omega)) (by decide)
  clear h
  go_upto_region 999 with (first
    | (go_at_call 49; refine (k_any W).mono ?_; rintro e w3 ⟨Ak, ck, rfl, hk, e3⟩; have h33 := h3 w3 e3 _ hk)
    | ((with_reducible refine h33.mono ?_); rintro e w4 ⟨vc, rfl, hf4, e4⟩; obtain ⟨Ac, rfl, -⟩ := id hf4; have h44 : Calls Tryd.prog 15 #[.slice Ac 2 2, .int .i64 0, .slice (some ⟨w4.heap.size, 0, none⟩) 2 2] (w4.alloc (.cells #[.int .i64 1, .int .i64 2] 3)) (fun r w' => r = .returned (.int .i64 1) ∧ Ext (w4.alloc (.cells #[.int .i64 1, .int .i64 2] 3)) w') := h4 w4 _ hf4)
    | ((with_reducible refine h44.mono ?_); rintro e w5 ⟨rfl, e5⟩)
    | (with_reducible refine stop_at 14 ?_) | (with_reducible refine stop_at2 14 ?_))
  refine ⟨?_⟩
  exact lives_t14 w w5 b1 b2 b3 _ _ _ _ _ _ _ _ _ _ _ _ _ _ _ _ _ _ _ _ _ _ _ _ _ _ _ _ _ _ _ _ _ _ _ _ _ _ _ _ _ _ _ _ _ _ _ _ _ _ _ _ _ _ _ _ _ _ _ _ _ _ _ _ _ _ _ _ _ _ _ _ _ _ _ _ _ _ _ _ _ _ _ _ _ _ _ _ _ _ _ _ _ _ _ _ _ _ _ _ _ _ _ _ _ _ _ _ _ _ _ _ _ _ _ _ _ _ _ _ _ _ _ _ _ _ _ _ _ _ _ _ _ _ _ _ _ _ _ _ _ _ _ _ _ _ _ _ _ _ _ _ _ _ _ _ _ _ _ _ _ _ _ _ _ _ _ _ _ _ _ _ _ _ _ _ _ _ _ _ _ _ _ _ _ _ _ _ _ _ _ _ _ _ _ _ _ _ _ _ _ _ _ _ _ _ _ _ _ _ _ _ _ _ _ _ _ _ _ _ _ _ _ _ _ _ _ _ _ _ _ _ _ _ _ _ _ _ _ _ _ _ _ _ _ _ _ _ _ _ _ _ _ _ _ _ _ _ _ _ _ _ _ _ _ _ _ _ _ _ (HL.out.next (e3.trans ((alloc_ext w3 _).trans (e4.trans ((alloc_ext w4 _).trans e5)))))
end Go.Proofs.YtamodjlifpjaoaaDoor

namespace Go.Proofs.YtamodjlifpjaoaaDoor
open Go.RowKit
set_option linter.unusedVariables false
set_option linter.unusedSimpArgs false
attribute [local go_sem] Oper.quietV quietV Oper.gives givesV ext_refl_iff ext_alloc_iff ext_drew_iff ext_drewN_iff
theorem new_world (W : World) (o : Obj) : ∃ A, W.alloc o = A ∧ A.heap[W.heap.size]? = some o ∧ A.heap.size = W.heap.size + 1 ∧ Ext W A := ⟨_, rfl, heap_alloc_new W o, by simp, alloc_ext W o⟩
def trRows : List (List Int) := [[0], [0, 1], [3, 3], [1]]
def waRows : List (List Int) := [[1], [0], [0], []]
theorem after_row {n : Nat} {t u : List Int} (ht : trRows[n]? = some t) (hu : waRows[n]? = some u) : afterR sS t = (u, 0) := by
  match n, ht, hu with
  | 0, ht, hu => cases ht; cases hu; exact after1_val
  | 1, ht, hu => cases ht; cases hu; exact after2_val
  | 2, ht, hu => cases ht; cases hu; exact after3_val
  | 3, ht, hu => cases ht; cases hu; exact after4_val
  | n + 4, ht, hu => simp [trRows] at ht
theorem rows_tr {W : World} {a b c d e : Nat} (ha : W.heap[a]? = some (.cells #[.int .i64 0] 3 (0, 0))) (hb : W.heap[b]? = some (.cells #[.int .i64 0, .int .i64 1] 3 (0, 0))) (hc : W.heap[c]? = some (.cells #[.int .i64 3, .int .i64 3] 3 (0, 0))) (hd : W.heap[d]? = some (.cells #[.int .i64 1] 3 (0, 0)))
    (he : W.heap[e]? = some (.cells #[.slice (some ⟨a, 0, none⟩) 1 1, .slice (some ⟨b, 0, none⟩) 2 2, .slice (some ⟨c, 0, none⟩) 2 2, .slice (some ⟨d, 0, none⟩) 1 1] 30 (0, 0))) : ListsC W (.slice (some ⟨e, 0, none⟩) 4 4) trRows 4 := by
  refine lists_blk he rfl rfl (by omega) (fun i u es hu hes => ?_)
  match i, hu, hes with
  | 0, hu, hes => cases hu; cases hes; exact ⟨1, ints_blk (xs := [0]) ha rfl rfl (by omega)⟩
  | 1, hu, hes => cases hu; cases hes; exact ⟨2, ints_blk (xs := [0, 1]) hb rfl rfl (by omega)⟩
  | 2, hu, hes => cases hu; cases hes; exact ⟨2, ints_blk (xs := [3, 3]) hc rfl rfl (by omega)⟩
  | 3, hu, hes => cases hu; cases hes; exact ⟨1, ints_blk (xs := [1]) hd rfl rfl (by omega)⟩
  | n + 4, hu, hes => simp at hu
theorem rows_wa {W : World} {a b c e : Nat} (ha : W.heap[a]? = some (.cells #[.int .i64 1] 3 (0, 0))) (hb : W.heap[b]? = some (.cells #[.int .i64 0] 3 (0, 0))) (hc : W.heap[c]? = some (.cells #[.int .i64 0] 3 (0, 0)))
    (he : W.heap[e]? = some (.cells #[.slice (some ⟨a, 0, none⟩) 1 1, .slice (some ⟨b, 0, none⟩) 1 1, .slice (some ⟨c, 0, none⟩) 1 1, .slice none 0 0] 30 (0, 0))) : ListsC W (.slice (some ⟨e, 0, none⟩) 4 4) waRows 4 := by
  refine lists_blk he rfl rfl (by omega) (fun i u es hu hes => ?_)
  match i, hu, hes with
  | 0, hu, hes => cases hu; cases hes; exact ⟨1, ints_blk (xs := [1]) ha rfl rfl (by omega)⟩
  | 1, hu, hes => cases hu; cases hes; exact ⟨1, ints_blk (xs := [0]) hb rfl rfl (by omega)⟩
  | 2, hu, hes => cases hu; cases hes; exact ⟨1, ints_blk (xs := [0]) hc rfl rfl (by omega)⟩
  | 3, hu, hes => cases hu; cases hes; exact ⟨0, fit_nil W⟩
  | n + 4, hu, hes => simp at hu
def AftV (u : List Int) (v : Value) (w : World) : Prop := ∃ rv, v = .tuple #[rv, .int .i64 0] ∧ FitC w rv u
theorem stays_aftv (u : List Int) : Stays Ext (AftV u) := fun v w w' hE ⟨rv, hv, h⟩ => ⟨rv, hv, fit_ext h hE⟩
set_option maxRecDepth 100000 in
set_option maxHeartbeats 16000000 in
theorem lives_t4 (w W : World) (b1 b2 b3 : Nat) (c0 c4 c5 c6 c7 c8 c9 c10 c11 c12 c13 c14 c15 c16 c17 c18 c19 c20 c21 c22 c23 c24 c25 c26 c27 c28 c29 c30 c31 c32 c33 c34 c35 c36 c37 c38 c39 c40 c41 c42 c43 c44 c45 c46 c47 c48 c49 c50 c51 c52 c53 c54 c55 c56 c57 c58 c59 c60 c61 c62 c63 c64 c65 c66 c67 c68 c69 c70 c71 c72 c73 c74 c75 c76 c77 c78 c79 c80 c81 c82 c83 c84 c85 c86 c87 c88 c89 c90 c91 c92 c93 c94 c95 c96 c97 c98 c99 c100 c101 c102 c103 c104 c105 c106 c107 c108 c109 c110 c111 c112 c113 c114 c115 c116 c117 c118 c119 c120 c121 c122 c123 c124 c125 c126 c127 c128 c129 c130 c131 c132 c133 c134 c135 c136 c137 c138 c139 c140 c141 c142 c143 c144 c145 c146 c147 c148 c149 c150 c151 c152 c153 c154 c155 c156 c157 c158 c159 c160 c161 c162 c163 c164 c165 c166 c167 c168 c169 c170 c171 c172 c173 c174 c175 c176 c177 c178 c179 c180 c181 c182 c183 c184 c185 c186 c187 c188 c189 c190 c191 c192 c193 c194 c195 c196 c197 c198 c199 c200 c201 c202 c203 c204 c205 c206 c207 c208 c209 c210 c211 c212 c213 c214 c215 c216 c217 c218 c219 c220 c221 c222 c223 c224 c225 c226 c227 c228 c229 c230 c231 c232 c233 c234 c235 c236 c237 c238 c239 c240 c241 c242 c243 c244 c245 c246 c247 c248 c249 c250 c251 c252 c253 c254 c255 c256 c257 c258 c259 c260 c261 c262 c263 c264 c265 c266 c267 c268 c269 c270 c271 c272 : Value) (h : LV w W b1 b2 b3) :
    Code.wp Tryd.prog (T20 4) (bodyPost Tryd.prog Tryd.f20 (LiveP w)) ⟨(c0 :: .pointer (some ⟨b1, 0, none⟩) :: .pointer (some ⟨b2, 0, none⟩) :: .pointer (some ⟨b3, 0, none⟩) :: c4 :: c5 :: c6 :: c7 :: c8 :: c9 :: c10 :: c11 :: c12 :: c13 :: c14 :: c15 :: c16 :: c17 :: c18 :: c19 :: c20 :: c21 :: c22 :: c23 :: c24 :: c25 :: c26 :: c27 :: c28 :: c29 :: c30 :: c31 :: c32 :: c33 :: c34 :: c35 :: c36 :: c37 :: c38 :: c39 :: c40 :: c41 :: c42 :: c43 :: c44 :: c45 :: c46 :: c47 :: c48 :: c49 :: c50 :: c51 :: c52 :: c53 :: c54 :: c55 :: c56 :: c57 :: c58 :: c59 :: c60 :: c61 :: c62 :: c63 :: c64 :: c65 :: c66 :: c67 :: c68 :: c69 :: c70 :: c71 :: c72 :: c73 :: c74 :: c75 :: c76 :: c77 :: c78 :: c79 :: c80 :: c81 :: c82 :: c83 :: c84 :: c85 :: c86 :: c87 :: c88 :: c89 :: c90 :: c91 :: c92 :: c93 :: c94 :: c95 :: c96 :: c97 :: c98 :: c99 :: c100 :: c101 :: c102 :: c103 :: c104 :: c105 :: c106 :: c107 :: c108 :: c109 :: c110 :: c111 :: c112 :: c113 :: c114 :: c115 :: c116 :: c117 :: c118 :: c119 :: c120 :: c121 :: c122 :: c123 :: c124 :: c125 :: c126 :: c127 :: c128 :: c129 :: c130 :: c131 :: c132 :: c133 :: c134 :: c135 :: c136 :: c137 :: c138 :: c139 :: c140 :: c141 :: c142 :: c143 :: c144 :: c145 :: c146 :: c147 :: c148 :: c149 :: c150 :: c151 :: c152 :: c153 :: c154 :: c155 :: c156 :: c157 :: c158 :: c159 :: c160 :: c161 :: c162 :: c163 :: c164 :: c165 :: c166 :: c167 :: c168 :: c169 :: c170 :: c171 :: c172 :: c173 :: c174 :: c175 :: c176 :: c177 :: c178 :: c179 :: c180 :: c181 :: c182 :: c183 :: c184 :: c185 :: c186 :: c187 :: c188 :: c189 :: c190 :: c191 :: c192 :: c193 :: c194 :: c195 :: c196 :: c197 :: c198 :: c199 :: c200 :: c201 :: c202 :: c203 :: c204 :: c205 :: c206 :: c207 :: c208 :: c209 :: c210 :: c211 :: c212 :: c213 :: c214 :: c215 :: c216 :: c217 :: c218 :: c219 :: c220 :: c221 :: c222 :: c223 :: c224 :: c225 :: c226 :: c227 :: c228 :: c229 :: c230 :: c231 :: c232 :: c233 :: c234 :: c235 :: c236 :: c237 :: c238 :: c239 :: c240 :: c241 :: c242 :: c243 :: c244 :: c245 :: c246 :: c247 :: c248 :: c249 :: c250 :: c251 :: c252 :: c253 :: c254 :: c255 :: c256 :: c257 :: c258 :: c259 :: c260 :: c261 :: c262 :: c263 :: c264 :: c265 :: c266 :: c267 :: c268 :: c269 :: c270 :: c271 :: c272 :: []).toArray, []⟩ W := by
  conv => arg 2; whnf
  have HL := Lib.hid h
  clear h
  go_upto_region 5 with fail
  obtain ⟨s, hs⟩ : ∃ s, W.heap.size = s := ⟨_, rfl⟩
  simp only [hs]
  obtain ⟨A1, r1, h1, z1, e1⟩ := new_world W (.cells #[.int .i64 0] 3)
  rw [r1]
  rw [hs] at h1 z1
  obtain ⟨A2, r2, h2, z2, e2⟩ := new_world A1 (.cells #[.int .i64 0, .int .i64 1] 3)
  rw [r2]
  rw [z1] at h2 z2
  obtain ⟨A3, r3, h3, z3, e3⟩ := new_world A2 (.cells #[.int .i64 3, .int .i64 3] 3)
  rw [r3]
  rw [z2] at h3 z3
  obtain ⟨A4, r4, h4, z4, e4⟩ := new_world A3 (.cells #[.int .i64 1] 3)
  rw [r4]
  rw [z3] at h4 z4
  obtain ⟨A5, r5, h5, z5, e5⟩ := new_world A4 (.cells #[.slice (some ⟨s, 0, none⟩) 1 1, .slice (some ⟨s + 1, 0, none⟩) 2 2, .slice (some ⟨s + 1 + 1, 0, none⟩) 2 2, .slice (some ⟨s + 1 + 1 + 1, 0, none⟩) 1 1] 30)
  rw [r5]
  rw [z4] at h5 z5
  obtain ⟨A6, r6, h6, z6, e6⟩ := new_world A5 (.cells #[.int .i64 1] 3)
  rw [r6]
  rw [z5] at h6 z6
  obtain ⟨A7, r7, h7, z7, e7⟩ := new_world A6 (.cells #[.int .i64 0] 3)
  rw [r7]
  rw [z6] at h7 z7
  obtain ⟨A8, r8, h8, z8, e8⟩ := new_world A7 (.cells #[.int .i64 0] 3)
  rw [r8]
  rw [z7] at h8 z8
  obtain ⟨A9, r9, h9, z9, e9⟩ := new_world A8 (.cells #[.slice (some ⟨s + 1 + 1 + 1 + 1 + 1, 0, none⟩) 1 1, .slice (some ⟨s + 1 + 1 + 1 + 1 + 1 + 1, 0, none⟩) 1 1, .slice (some ⟨s + 1 + 1 + 1 + 1 + 1 + 1 + 1, 0, none⟩) 1 1, .slice none 0 0] 30)
  rw [r9]
  rw [z8] at h9 z9
  have htr := rows_tr (heap_ext e9 (heap_ext e8 (heap_ext e7 (heap_ext e6 (heap_ext e5 (heap_ext e4 (heap_ext e3 (heap_ext e2 (h1))))))))) (heap_ext e9 (heap_ext e8 (heap_ext e7 (heap_ext e6 (heap_ext e5 (heap_ext e4 (heap_ext e3 (h2)))))))) (heap_ext e9 (heap_ext e8 (heap_ext e7 (heap_ext e6 (heap_ext e5 (heap_ext e4 (h3))))))) (heap_ext e9 (heap_ext e8 (heap_ext e7 (heap_ext e6 (heap_ext e5 (h4)))))) (heap_ext e9 (heap_ext e8 (heap_ext e7 (heap_ext e6 (h5)))))
  have hwa := rows_wa (heap_ext e9 (heap_ext e8 (heap_ext e7 (h6)))) (heap_ext e9 (heap_ext e8 (h7))) (heap_ext e9 (h8)) (h9)
  have eW := e1.trans (e2.trans (e3.trans (e4.trans (e5.trans (e6.trans (e7.trans (e8.trans e9)))))))
  have HX := Lib.hid (And.intro (HL.out.next eW) (And.intro htr hwa))
  clear h9 z9 r9 e9 h8 z8 r8 e8 h7 z7 r7 e7 h6 z6 r6 e6 h5 z5 r5 e5 h4 z4 r4 e4 h3 z3 r3 e3 h2 z2 r2 e2 h1 z1 r1 e1 eW htr hwa hs A8 A7 A6 A5 A4 A3 A2 A1
  generalize s + 1 + 1 + 1 + 1 + 1 + 1 + 1 + 1 = bw at *
  generalize s + 1 + 1 + 1 + 1 = bt at *
  obtain ⟨pA, pc, r0, r1, r2, rS⟩ := HX.out.1.s
  have pS : LtsV A9 (.agg #[.int .i64 1, .int .i64 2, .slice pA 2 pc]) _ := rS
  have p0 : ∀ w', Ext A9 w' → w'.cell? ⟨b1, 0, none⟩ = some (.int .i64 1) := fun w' h => h.cell r0
  have p1 : ∀ w', Ext A9 w' → w'.cell? ⟨b1, 1, none⟩ = some (.int .i64 2) := fun w' h => h.cell r1
  have p2 : ∀ w', Ext A9 w' → w'.cell? ⟨b1, 2, none⟩ = some (.slice pA 2 pc) := fun w' h => h.cell r2
  clear r0 r1 r2 rS
  have HP := Lib.hid pS
  clear pS
  go_wp2
  go_loopw [6] (fun nv wr => ∃ n : Nat, nv = .int .i64 n ∧ n ≤ 4 ∧ Ext A9 wr) (fun nv _ => 4 - (intOf nv).toNat)
  case atStart => exact ⟨0, rfl, by omega, Ext.refl _⟩
  case round =>
    obtain ⟨n, rfl, hn, hE⟩ := hrel
    obtain ⟨W5, hW5⟩ : ∃ W, W = wr := ⟨_, rfl⟩; subst hW5
    by_cases hlt : n < 4
    · obtain ⟨t, ht⟩ : ∃ t, trRows[n]? = some t := ⟨_, List.getElem?_eq_getElem hlt⟩
      obtain ⟨u, hu⟩ : ∃ u, waRows[n]? = some u := ⟨_, List.getElem?_eq_getElem hlt⟩
      have hval := after_row ht hu
      have hul : u.length ≤ 100 := by
        have := List.mem_of_getElem? hu
        simp [waRows] at this
        rcases this with rfl | rfl | rfl <;> simp
      obtain ⟨x1, x2, ut, ct, hA, _, d0, hti⟩ := (HX.out.2.1.ext hE).at_ (k := n) hlt
      obtain ⟨y1, y2, uw, cw, hB, _, d1, hwi⟩ := (HX.out.2.2.ext hE).at_ (k := n) hlt
      have hti : IntsC W5 ut t ct := by have e : trRows[n]'hlt = t := (List.getElem?_eq_some_iff.1 ht).2; rw [← e]; exact hti
      have hwi : IntsC W5 uw u cw := by have e : waRows[n]'hlt = u := (List.getElem?_eq_some_iff.1 hu).2; rw [← e]; exact hwi
      have hA' : (⟨bt, 0, none⟩ : Addr) = ⟨x1, x2, none⟩ := by injection hA with h; injection h
      have hB' : (⟨bw, 0, none⟩ : Addr) = ⟨y1, y2, none⟩ := by injection hB with h; injection h
      clear hA hB
      cases hA'
      cases hB'
      rw [Nat.zero_add] at d0 d1
      obtain ⟨At, rfl, _⟩ := id hti
      obtain ⟨Aw, rfl, _⟩ := id hwi
      have hI : (n : Int) < 4 := by omega
      have HT := Lib.hid (And.intro hval (And.intro hti (And.intro hwi (And.intro hul hE))))
      have d0 := fun w' (h : Ext W5 w') => h.cell d0
      have d1 := fun w' (h : Ext W5 w') => h.cell d1
      have k0 := fun w' (h : Ext W5 w') => p0 w' (hE.trans h)
      have k1 := fun w' (h : Ext W5 w') => p1 w' (hE.trans h)
      have k2 := fun w' (h : Ext W5 w') => p2 w' (hE.trans h)
      have hR5 := Ext.refl W5
      clear ht hu hval hti hwi hul hE p0 p1 p2
      go_upto_region 8 with fail
      refine wp_region_ext 10 (factsOf [(5, AftV u)]) (fun k => ([[], [], [], [1, 2], [1, 2, 3], [0, 1, 2, 3, 4], [0, 1, 2, 3, 4, 5], [0, 1, 2, 3, 4, 5, 6], [0, 1, 2, 3, 4, 5, 6], [0, 1, 2, 3, 4, 5, 6, 7], [0, 1, 2, 3, 4, 5, 6, 7, 8, 9]] : List (List Nat)).getD k []) (by kernel_rfl) (by kernel_rfl) Ext.pre (mono_cons (stays_aftv u) (mono_nil)) ?_
      simp only [List.take_succ_cons, List.take_zero]
      repeat (first | (with_reducible refine lexL_quiet' (v := ?_) ?_ ?_ ?_ ?_; rotate_left; (· with_reducible rfl); (· simp [factsOf]); (· intro w1 hw1 _; go_simp; with_reducible rfl); (try simp only [Act.put, List.setIfInBounds_toArray, List.set_cons_zero, List.set_cons_succ])) | (with_reducible refine lexL_skip ?_ ?_; (· simp [Region.wanted, yielded, undef]); (try simp only [Act.put, List.setIfInBounds_toArray, List.set_cons_zero, List.set_cons_succ])) | (with_reducible refine lexL_quiet (v := ?_) ?_ ?_ ?_ ?_; rotate_left; (· simp [Region.wanted, yielded, undef]); (· simp [factsOf]); (· intro w1 hw1 _; go_simp; with_reducible rfl); (try simp only [Act.put, List.setIfInBounds_toArray, List.set_cons_zero, List.set_cons_succ])))
      with_reducible refine lexL_give' (φ := ?_) ?_ ?_ ?_ ?_; rotate_left; (· with_reducible rfl); (· simp only [factsOf, Nat.reduceAdd, ↓reduceIte, Nat.reduceEqDiff]; rfl)
      · intro w5 hw5 _
        go_simp
        refine (after_at HT.out.1 (HP.out.ext (HT.out.2.2.2.2.trans hw5)) (HT.out.2.1.ext hw5) (HX.out.1.tab.ext (HT.out.2.2.2.2.trans hw5))).mono ?_
        rintro e w6 ⟨rv, rfl, hf, e6⟩
        exact ⟨_, rfl, e6, rv, rfl, hf⟩
      rintro v7 w5 hw5 ⟨rv, rfl, hf5⟩ hk2
      clear hk2 hf5 hw5 w5
      (try simp only [Act.put, List.setIfInBounds_toArray, List.set_cons_zero, List.set_cons_succ])
      repeat (first | (with_reducible refine lexL_quiet' (v := ?_) ?_ ?_ ?_ ?_; rotate_left; (· with_reducible rfl); (· simp [factsOf]); (· intro w1 hw1 _; go_simp; with_reducible rfl); (try simp only [Act.put, List.setIfInBounds_toArray, List.set_cons_zero, List.set_cons_succ])) | (with_reducible refine lexL_skip ?_ ?_; (· simp [Region.wanted, yielded, undef]); (try simp only [Act.put, List.setIfInBounds_toArray, List.set_cons_zero, List.set_cons_succ])) | (with_reducible refine lexL_quiet (v := ?_) ?_ ?_ ?_ ?_; rotate_left; (· simp [Region.wanted, yielded, undef]); (· simp [factsOf]); (· intro w1 hw1 _; go_simp; with_reducible rfl); (try simp only [Act.put, List.setIfInBounds_toArray, List.set_cons_zero, List.set_cons_succ])))
      with_reducible refine lexL_nil ?_; intro w1 hw1 hk1; simp only [List.drop_succ_cons, List.drop_zero]
      obtain ⟨rv', h9, hf9⟩ := hk1.get 5 rfl rfl
      injection h9 with h9
      injection h9 with h9
      simp at h9
      subst h9
      have HF := Lib.hid (And.intro hf9 hw1)
      have hsm := same_yes hf9 (HT.out.2.2.1.ext hw1) (by have := HT.out.2.2.2.1; omega)
      obtain ⟨Ar, rfl, -⟩ := id hf9
      have d1 := d1 w1 hw1
      clear hk1 hf9 hw1 k0 k1 k2 d0 hR5
      go_wp2_with ((with_reducible refine hsm.mono ?_); rintro e w6 ⟨rfl, e6⟩)
      go_roundw
      case rel => exact ⟨n + 1, by go_num, by omega, HT.out.2.2.2.2.trans (HF.out.2.trans e6)⟩
      case measure => simp [intOf]; omega
    · obtain rfl : n = 4 := by omega
      have HE := Lib.hid hE
      clear hE p0 p1 p2
      go_upto_region 999 with (first | (with_reducible refine stop_at 11 ?_) | (with_reducible refine stop_at2 11 ?_))
      refine ⟨?_⟩
      exact lives_t11 w W5 b1 b2 b3 _ _ _ _ _ _ _ _ _ _ _ _ _ _ _ _ _ _ _ _ _ _ _ _ _ _ _ _ _ _ _ _ _ _ _ _ _ _ _ _ _ _ _ _ _ _ _ _ _ _ _ _ _ _ _ _ _ _ _ _ _ _ _ _ _ _ _ _ _ _ _ _ _ _ _ _ _ _ _ _ _ _ _ _ _ _ _ _ _ _ _ _ _ _ _ _ _ _ _ _ _ _ _ _ _ _ _ _ _ _ _ _ _ _ _ _ _ _ _ _ _ _ _ _ _ _ _ _ _ _ _ _ _ _ _ _ _ _ _ _ _ _ _ _ _ _ _ _ _ _ _ _ _ _ _ _ _ _ _ _ _ _ _ _ _ _ _ _ _ _ _ _ _ _ _ _ _ _ _ _ _ _ _ _ _ _ _ _ _ _ _ _ _ _ _ _ _ _ _ _ _ _ _ _ _ _ _ _ _ _ _ _ _ _ _ _ _ _ _ _ _ _ _ _ _ _ _ _ _ _ _ _ _ _ _ _ _ _ _ _ _ _ _ _ _ _ _ _ _ _ _ _ _ _ _ _ _ _ _ _ _ _ _ _ _ _ _ _ _ _ (HX.out.1.next HE.out)
end Go.Proofs.YtamodjlifpjaoaaDoor

namespace Go.Proofs.YtamodjlifpjaoaaDoor
open Go.RowKit
set_option linter.unusedVariables false
set_option linter.unusedSimpArgs false
attribute [local go_sem] Oper.quietV quietV Oper.gives givesV ext_refl_iff ext_alloc_iff ext_drew_iff ext_drewN_iff
def RowP (v : Value) (w : World) : Prop := ∃ b, v = .slice (some ⟨b, 0, none⟩) 3 3 ∧ w.heap[b]? = some (.cells #[.int .u8 1, .int .i64 0, .int .i64 1, .int .u8 2, .int .i64 0, .int .i64 0, .int .u8 2, .int .i64 1, .int .i64 0] 67 (0, 0))
theorem stays_rowp : Stays Ext RowP := fun v w w' hE ⟨b, hv, h⟩ => ⟨b, hv, heap_ext hE h⟩
theorem arcs_cells {W : World} {u : Value} {l : List Arc} (h : ArcsC W u l) (hl : 0 < l.length) : ∃ b o c, u = .slice (some ⟨b, o, none⟩) l.length c ∧ Cells W (some ⟨b, o, none⟩) (l.flatMap arcCells) := by
  obtain ⟨A, c, rfl, hc, _⟩ := h
  obtain ⟨b, o, rfl, _, _⟩ := hc (by rw [arcs_len]; omega)
  exact ⟨b, o, c, rfl, hc⟩
set_option maxRecDepth 100000 in
set_option maxHeartbeats 16000000 in
theorem lives_t2 (w W : World) (b1 b2 g : Nat) (u0 u1 : Value) (c0 c3 c4 c5 c6 c7 c8 c9 c10 c11 c12 c13 c14 c15 c16 c17 c18 c19 c20 c21 c22 c23 c24 c25 c26 c27 c28 c29 c30 c31 c32 c33 c34 c35 c36 c37 c38 c39 c40 c41 c42 c43 c44 c45 c46 c47 c48 c49 c50 c51 c52 c53 c54 c55 c56 c57 c58 c59 c60 c61 c62 c63 c64 c65 c66 c67 c68 c69 c70 c71 c72 c73 c74 c75 c76 c77 c78 c79 c80 c81 c82 c83 c84 c85 c86 c87 c88 c89 c90 c91 c92 c93 c94 c95 c96 c97 c98 c99 c100 c101 c102 c103 c104 c105 c106 c107 c108 c109 c110 c111 c112 c113 c114 c115 c116 c117 c118 c119 c120 c121 c122 c123 c124 c125 c126 c127 c128 c129 c130 c131 c132 c133 c134 c135 c136 c137 c138 c139 c140 c141 c142 c143 c144 c145 c146 c147 c148 c149 c150 c151 c152 c153 c154 c155 c156 c157 c158 c159 c160 c161 c162 c163 c164 c165 c166 c167 c168 c169 c170 c171 c172 c173 c174 c175 c176 c177 c178 c179 c180 c181 c182 c183 c184 c185 c186 c187 c188 c189 c190 c191 c192 c193 c194 c195 c196 c197 c198 c199 c200 c201 c202 c203 c204 c205 c206 c207 c208 c209 c210 c211 c212 c213 c214 c215 c216 c217 c218 c219 c220 c221 c222 c223 c224 c225 c226 c227 c228 c229 c230 c231 c232 c233 c234 c235 c236 c237 c238 c239 c240 c241 c242 c243 c244 c245 c246 c247 c248 c249 c250 c251 c252 c253 c254 c255 c256 c257 c258 c259 c260 c261 c262 c263 c264 c265 c266 c267 c268 c269 c270 c271 c272 : Value) (h : Ext w W) (hT : Tab W) (hs : BoxL W b1 sS) (hb2 : W.heap[b2]? = some (.cells #[.int .i64 1, .int .i64 2, .slice (some ⟨g, 0, none⟩) 2 2] 28 (0, 0)))
    (hg : Cells W (some ⟨g, 0, none⟩) [u0, u1]) (h0 : ArcsC W u0 [⟨1, 0, 1⟩]) (h1 : ArcsC W u1 [⟨1, 0, 1⟩, ⟨2, 0, 0⟩]) :
    Code.wp Tryd.prog (T20 2) (bodyPost Tryd.prog Tryd.f20 (LiveP w)) ⟨(c0 :: .pointer (some ⟨b1, 0, none⟩) :: .pointer (some ⟨b2, 0, none⟩) :: c3 :: c4 :: c5 :: c6 :: c7 :: c8 :: c9 :: c10 :: c11 :: c12 :: c13 :: c14 :: c15 :: c16 :: c17 :: c18 :: c19 :: c20 :: c21 :: c22 :: c23 :: c24 :: c25 :: c26 :: c27 :: c28 :: c29 :: c30 :: c31 :: c32 :: c33 :: c34 :: c35 :: c36 :: c37 :: c38 :: c39 :: c40 :: c41 :: c42 :: c43 :: c44 :: c45 :: c46 :: c47 :: c48 :: c49 :: c50 :: c51 :: c52 :: c53 :: c54 :: c55 :: c56 :: c57 :: c58 :: c59 :: c60 :: c61 :: c62 :: c63 :: c64 :: c65 :: c66 :: c67 :: c68 :: c69 :: c70 :: c71 :: c72 :: c73 :: c74 :: c75 :: c76 :: c77 :: c78 :: c79 :: c80 :: c81 :: c82 :: c83 :: c84 :: c85 :: c86 :: c87 :: c88 :: c89 :: c90 :: c91 :: c92 :: c93 :: c94 :: c95 :: c96 :: c97 :: c98 :: c99 :: c100 :: c101 :: c102 :: c103 :: c104 :: c105 :: c106 :: c107 :: c108 :: c109 :: c110 :: c111 :: c112 :: c113 :: c114 :: c115 :: c116 :: c117 :: c118 :: c119 :: c120 :: c121 :: c122 :: c123 :: c124 :: c125 :: c126 :: c127 :: c128 :: c129 :: c130 :: c131 :: c132 :: c133 :: c134 :: c135 :: c136 :: c137 :: c138 :: c139 :: c140 :: c141 :: c142 :: c143 :: c144 :: c145 :: c146 :: c147 :: c148 :: c149 :: c150 :: c151 :: c152 :: c153 :: c154 :: c155 :: c156 :: c157 :: c158 :: c159 :: c160 :: c161 :: c162 :: c163 :: c164 :: c165 :: c166 :: c167 :: c168 :: c169 :: c170 :: c171 :: c172 :: c173 :: c174 :: c175 :: c176 :: c177 :: c178 :: c179 :: c180 :: c181 :: c182 :: c183 :: c184 :: c185 :: c186 :: c187 :: c188 :: c189 :: c190 :: c191 :: c192 :: c193 :: c194 :: c195 :: c196 :: c197 :: c198 :: c199 :: c200 :: c201 :: c202 :: c203 :: c204 :: c205 :: c206 :: c207 :: c208 :: c209 :: c210 :: c211 :: c212 :: c213 :: c214 :: c215 :: c216 :: c217 :: c218 :: c219 :: c220 :: c221 :: c222 :: c223 :: c224 :: c225 :: c226 :: c227 :: c228 :: c229 :: c230 :: c231 :: c232 :: c233 :: c234 :: c235 :: c236 :: c237 :: c238 :: c239 :: c240 :: c241 :: c242 :: c243 :: c244 :: c245 :: c246 :: c247 :: c248 :: c249 :: c250 :: c251 :: c252 :: c253 :: c254 :: c255 :: c256 :: c257 :: c258 :: c259 :: c260 :: c261 :: c262 :: c263 :: c264 :: c265 :: c266 :: c267 :: c268 :: c269 :: c270 :: c271 :: c272 :: []).toArray, []⟩ W := by
  conv => arg 2; whnf
  have HX := Lib.hid (And.intro h (And.intro hT (And.intro hs (And.intro hb2 (And.intro hg (And.intro h0 h1))))))
  obtain ⟨bp, op, cp, rfl, hc0⟩ := arcs_cells h0 (by simp)
  obtain ⟨bq, oq, cq, rfl, hc1⟩ := arcs_cells h1 (by simp)
  have p0 := cell_of_blk hb2 0 (u := .int .i64 1) rfl
  have p1 := cell_of_blk hb2 1 (u := .int .i64 2) rfl
  have p2 := cell_of_blk hb2 2 (u := .slice (some ⟨g, 0, none⟩) 2 2) rfl
  have q0 : W.cell? ⟨g, 0, none⟩ = some (.slice (some ⟨bp, op, none⟩) 1 cp) := by obtain ⟨b, o, he, _, hc⟩ := hg (by simp); cases he; exact hc 0 _ rfl
  have q1 : W.cell? ⟨g, 1, none⟩ = some (.slice (some ⟨bq, oq, none⟩) 2 cq) := by obtain ⟨b, o, he, _, hc⟩ := hg (by simp); cases he; exact hc 1 _ rfl
  have key : ∀ (j : Nat) (u : Value), ([⟨1, 0, 1⟩, ⟨2, 0, 0⟩].flatMap arcCells)[j]? = some u → W.cell? ⟨bq, oq + j, none⟩ = some u := fun j u hj => by obtain ⟨b, o, he, _, hc⟩ := hc1 (by simp [arcCells]); cases he; exact hc j u hj
  have a0 := key 0 (.int .u8 1) rfl
  rw [Nat.add_zero] at a0
  have a1 := key 1 (.int .i64 0) rfl
  have a2 := key 2 (.int .i64 1) rfl
  have a3 := key 3 (.int .u8 2) rfl
  have a4 := key 4 (.int .i64 0) rfl
  have a5 := key 5 (.int .i64 0) rfl
  clear h hT hs hg h0 h1 hc0 hc1 key
  go_upto_region 3 with (first
    | (with_reducible refine wpList_store_blk _ rfl 28 _ _ rfl W.heap.size 28 _ _ rfl rfl (heap_alloc_new _ _) (by kernel_rfl) (by kernel_rfl) (by kernel_rfl) ?_; intro W3 h3 g3))
  have e3 : Ext W W3 := Below.grown (alloc_ext W _) g3 (alloc_ext W _).size (fun k hk => by cases hk; exact Nat.le_refl _)
  have p2 := fun w' (h : Ext W3 w') => h.cell (e3.cell p2)
  have q0 := fun w' (h : Ext W3 w') => h.cell (e3.cell q0)
  have q1 := fun w' (h : Ext W3 w') => h.cell (e3.cell q1)
  have a0 := fun w' (h : Ext W3 w') => h.cell (e3.cell a0)
  have a1 := fun w' (h : Ext W3 w') => h.cell (e3.cell a1)
  have a2 := fun w' (h : Ext W3 w') => h.cell (e3.cell a2)
  have a3 := fun w' (h : Ext W3 w') => h.cell (e3.cell a3)
  have a4 := fun w' (h : Ext W3 w') => h.cell (e3.cell a4)
  have a5 := fun w' (h : Ext W3 w') => h.cell (e3.cell a5)
  have HE := Lib.hid (And.intro e3 h3)
  have hsz := lt_of_block h3
  have hR3 := Ext.refl W3
  have hlt2 : b2 < W.heap.size := lt_of_block hb2
  clear e3 h3 g3 p0 p1 hb2
  obtain ⟨b3, hb3⟩ : ∃ b, b = W.heap.size := ⟨_, rfl⟩
  rw [← hb3] at HE hsz hlt2
  simp only [← hb3]
  refine wp_region_ext 18 (factsOf [(17, RowP)]) (fun k => ([[], [0], [0, 1], [0, 1, 2], [], [4], [4, 5], [4, 5, 6], [4, 5, 6, 7], [4, 5, 6, 7, 8], [], [10], [10, 11], [10, 11, 12], [10, 11, 12, 13], [10, 11, 12, 13, 14], [], [4, 5, 6, 7, 8, 9, 10, 11, 12, 13, 14, 15, 16], [0, 1, 2, 3, 4, 5, 6, 7, 8, 9, 10, 11, 12, 13, 14, 15, 16, 17], [0, 1, 2, 3, 4, 5, 6, 7, 8, 9, 10, 11, 12, 13, 14, 15, 16, 17, 18], [0, 1, 2, 3, 4, 5, 6, 7, 8, 9, 10, 11, 12, 13, 14, 15, 16, 17, 18, 19]] : List (List Nat)).getD k []) (by kernel_rfl) (by kernel_rfl) Ext.pre (mono_cons (stays_rowp) (mono_nil)) ?_
  simp only [List.take_succ_cons, List.take_zero]
  repeat (first | (with_reducible refine lexL_quiet' (v := ?_) ?_ ?_ ?_ ?_; rotate_left; (· with_reducible rfl); (· simp [factsOf]); (· intro w1 hw1 _; go_simp; with_reducible rfl); (try simp only [Act.put, List.setIfInBounds_toArray, List.set_cons_zero, List.set_cons_succ])) | (with_reducible refine lexL_skip ?_ ?_; (· simp [Region.wanted, yielded, undef]); (try simp only [Act.put, List.setIfInBounds_toArray, List.set_cons_zero, List.set_cons_succ])) | (with_reducible refine lexL_quiet (v := ?_) ?_ ?_ ?_ ?_; rotate_left; (· simp [Region.wanted, yielded, undef]); (· simp [factsOf]); (· intro w1 hw1 _; go_simp; with_reducible rfl); (try simp only [Act.put, List.setIfInBounds_toArray, List.set_cons_zero, List.set_cons_succ])))
  with_reducible refine lexL_give' (φ := ?_) ?_ ?_ ?_ ?_; rotate_left; (· with_reducible rfl); (· simp only [factsOf, Nat.reduceAdd, ↓reduceIte, Nat.reduceEqDiff]; rfl)
  · intro w5 hw5 _
    go_simp
    exact ⟨_, rfl, heap_alloc_new w5 _⟩
  rintro v8 w5 hw5 ⟨b8, rfl, h8⟩ hk2
  clear hk2 h8 hw5 w5
  (try simp only [Act.put, List.setIfInBounds_toArray, List.set_cons_zero, List.set_cons_succ])
  repeat (first | (with_reducible refine lexL_quiet' (v := ?_) ?_ ?_ ?_ ?_; rotate_left; (· with_reducible rfl); (· simp [factsOf]); (· intro w1 hw1 _; go_simp; with_reducible rfl); (try simp only [Act.put, List.setIfInBounds_toArray, List.set_cons_zero, List.set_cons_succ])) | (with_reducible refine lexL_skip ?_ ?_; (· simp [Region.wanted, yielded, undef]); (try simp only [Act.put, List.setIfInBounds_toArray, List.set_cons_zero, List.set_cons_succ])) | (with_reducible refine lexL_quiet (v := ?_) ?_ ?_ ?_ ?_; rotate_left; (· simp [Region.wanted, yielded, undef]); (· simp [factsOf]); (· intro w1 hw1 _; go_simp; with_reducible rfl); (try simp only [Act.put, List.setIfInBounds_toArray, List.set_cons_zero, List.set_cons_succ])))
  with_reducible refine lexL_nil ?_; intro w1 hw1 hk1; simp only [List.drop_succ_cons, List.drop_zero]
  obtain ⟨b9, h9, h8⟩ := hk1.get 17 rfl rfl
  injection h9 with h9
  injection h9 with h9
  injection h9 with h9
  subst h9
  have hb3' := heap_ext hw1 HE.out.2
  have hne : b8 ≠ b3 := fun e => by subst e; rw [h8] at hb3'; simp at hb3'
  have HB := Lib.hid (And.intro hb3 (And.intro hw1 (And.intro h8 hne)))
  obtain ⟨o9, ho9⟩ : ∃ o : Obj, o = .cells #[.slice (some ⟨bp, op, none⟩) 1 cp, .slice (some ⟨b8, 0, none⟩) 3 3] 68 := ⟨_, rfl⟩
  have hb4 := heap_ext (alloc_ext w1 o9) hb3'
  have k3 := cell_of_blk hb4 2 (u := .slice (some ⟨g, 0, none⟩) 2 2) rfl
  have f3 := free_of_blk hb4 2
  have hnew := heap_alloc_new w1 o9
  have HN := Lib.hid (And.intro hb4 (And.intro hnew ho9))
  clear hk1 h8 hne hb3' hb3 p2 q0 q1 a0 a1 a2 a3 a4 a5 hR3 hsz hw1 hb4 hnew
  subst ho9
  go_upto_region 999 with (first | (with_reducible refine stop_at 4 ?_) | (with_reducible refine stop_at2 4 ?_))
  refine ⟨?_⟩
  obtain ⟨hb4, hnew, -⟩ := HN.out
  generalize hw5 : w1.alloc (.cells #[.slice (some ⟨bp, op, none⟩) 1 cp, .slice (some ⟨b8, 0, none⟩) 3 3] 68) = w5 at *
  have e15 : Ext w1 w5 := by rw [← hw5]; exact alloc_ext _ _
  obtain ⟨hbW, hw1, h8, hne⟩ := HB.out
  have hlt1 : b3 < w1.heap.size := lt_of_block (heap_ext hw1 HE.out.2)
  have eW5 : Ext W w5 := HE.out.1.trans (hw1.trans e15)
  have eW6 : Ext W (w5.setCell ⟨b3, 2, none⟩ (.slice (some ⟨w1.heap.size, 0, none⟩) 2 2)) := eW5.setCell (Nat.le_of_eq hbW.symm) _
  have gS : w5.grownBy (w5.setCell ⟨b3, 2, none⟩ (.slice (some ⟨w1.heap.size, 0, none⟩) 2 2)) (some b3) := ⟨rfl, rfl, rfl, by simp, fun c _ hc => heap_setCell_other w5 ⟨b3, 2, none⟩ c _ (fun e => hc (by simp [e]))⟩
  have h3n : (w5.setCell ⟨b3, 2, none⟩ (.slice (some ⟨w1.heap.size, 0, none⟩) 2 2)).heap[b3]? = some (.cells #[.int .i64 1, .int .i64 2, .slice (some ⟨w1.heap.size, 0, none⟩) 2 2] 28 (0, 0)) := heap_setCell_same w5 b3 2 _ 28 _ hb4
  obtain ⟨hwW, hT, hs, hb2, hg, h0, h1⟩ := HX.out
  have hI : BoxL W b2 sI := ⟨some ⟨g, 0, none⟩, 2, cell_of_blk hb2 0 rfl, cell_of_blk hb2 1 rfl, cell_of_blk hb2 2 rfl, _, rfl, arows_of hg rfl rfl (fun i u es hu hes => by
    match i, hu, hes with
    | 0, hu, hes => cases hu; cases hes; exact h0
    | 1, hu, hes => cases hu; cases hes; exact h1
    | n + 2, hu, hes => simp at hu) (Nat.le_refl _) (by decide)⟩
  have hrow : Cells (w5.setCell ⟨b3, 2, none⟩ (.slice (some ⟨w1.heap.size, 0, none⟩) 2 2)) (some ⟨w1.heap.size, 0, none⟩) [.slice (some ⟨bp, op, none⟩) 1 cp, .slice (some ⟨b8, 0, none⟩) 3 3] := (cells_blk hnew).far gS (fun b o h => by cases h; omega)
  have h8n : Cells (w5.setCell ⟨b3, 2, none⟩ (.slice (some ⟨w1.heap.size, 0, none⟩) 2 2)) (some ⟨b8, 0, none⟩) ([⟨1, 0, 1⟩, ⟨2, 0, 0⟩, ⟨2, 1, 0⟩].flatMap arcCells) := (cells_blk (heap_ext e15 h8)).far gS (fun b o h => by cases h; exact hne)
  have hJ : BoxL (w5.setCell ⟨b3, 2, none⟩ (.slice (some ⟨w1.heap.size, 0, none⟩) 2 2)) b3 sJ := ⟨some ⟨w1.heap.size, 0, none⟩, 2, cell_of_blk h3n 0 rfl, cell_of_blk h3n 1 rfl, cell_of_blk h3n 2 rfl, _, rfl, arows_of hrow rfl rfl (fun i u es hu hes => by
    match i, hu, hes with
    | 0, hu, hes => cases hu; cases hes; exact h0.ext eW6
    | 1, hu, hes => cases hu; cases hes; exact ⟨_, 3, rfl, h8n, Nat.le_refl _, by unfold lenMax; simp⟩
    | n + 2, hu, hes => simp at hu) (Nat.le_refl _) (by decide)⟩
  exact lives_t4 w _ b1 b2 b3 _ _ _ _ _ _ _ _ _ _ _ _ _ _ _ _ _ _ _ _ _ _ _ _ _ _ _ _ _ _ _ _ _ _ _ _ _ _ _ _ _ _ _ _ _ _ _ _ _ _ _ _ _ _ _ _ _ _ _ _ _ _ _ _ _ _ _ _ _ _ _ _ _ _ _ _ _ _ _ _ _ _ _ _ _ _ _ _ _ _ _ _ _ _ _ _ _ _ _ _ _ _ _ _ _ _ _ _ _ _ _ _ _ _ _ _ _ _ _ _ _ _ _ _ _ _ _ _ _ _ _ _ _ _ _ _ _ _ _ _ _ _ _ _ _ _ _ _ _ _ _ _ _ _ _ _ _ _ _ _ _ _ _ _ _ _ _ _ _ _ _ _ _ _ _ _ _ _ _ _ _ _ _ _ _ _ _ _ _ _ _ _ _ _ _ _ _ _ _ _ _ _ _ _ _ _ _ _ _ _ _ _ _ _ _ _ _ _ _ _ _ _ _ _ _ _ _ _ _ _ _ _ _ _ _ _ _ _ _ _ _ _ _ _ _ _ _ _ _ _ _ _ _ _ _ _ _ _ _ _ _ _ _ _ _ _ _ _ _ _ ⟨hwW.trans eW6, hT.ext eW6, hs.ext eW6, hI.ext eW6, hJ⟩
set_option maxRecDepth 100000 in
set_option maxHeartbeats 16000000 in
theorem lives_any (w : World) (hT : Tab w) : Calls Tryd.prog 20 #[] w (LiveP w) := by
  have HT := Lib.hid hT
  clear hT
  have h1 : Calls Tryd.prog 48 #[.slice none 0 0] w (CoinP w []) := coin_any w none [] (by decide) (Cells.nil _ _) (fun _ => rfl)
  have h2 : ∀ w1 : World, Calls Tryd.prog 48 #[.slice (some ⟨w1.heap.size, 0, none⟩) 1 1] (w1.alloc (.cells #[.int .u8 1, .int .i64 0, .int .i64 1] 67)) (CoinP (w1.alloc (.cells #[.int .u8 1, .int .i64 0, .int .i64 1] 67)) [⟨1, 0, 1⟩]) := fun w1 => coin_any (w1.alloc (.cells #[.int .u8 1, .int .i64 0, .int .i64 1] 67)) (some ⟨w1.heap.size, 0, none⟩) [⟨1, 0, 1⟩] (by decide) (cells_blk (heap_alloc_new w1 _)) (fun h => by cases h)
  go_enter Tryd.func20, Tryd.ntmps20
  go_upto_region 999 with (first
    | (with_reducible refine stop_at 2 ?_)
    | ((with_reducible refine h1.mono ?_); rintro e wA ⟨gA, vsA, rfl, hcA, hlA, hrA, eA, hfA⟩)
    | ((with_reducible refine (h2 wA).mono ?_); rintro e wB ⟨gB, vsB, rfl, hcB, hlB, hrB, eB, hfB⟩)
    | (with_reducible refine wpList_store_blk _ rfl 28 _ _ rfl wB.heap.size 28 _ _ rfl rfl (heap_ext (alloc_ext _ _) (heap_alloc_new _ _)) (by kernel_rfl) (by kernel_rfl) (by kernel_rfl) ?_; intro w1 h1 g1)
    | (with_reducible refine wpList_store_blk _ rfl 28 _ _ rfl (wB.heap.size + 1) 28 _ _ rfl rfl ((g1.block _ (by simp) (by simp)).trans (by have := heap_alloc_new (wB.alloc (.cells #[.int .i64 0, .int .i64 0, .slice none 0 0] 28)) (.cells #[.int .i64 0, .int .i64 0, .slice none 0 0] 28); simpa using this)) (by kernel_rfl) (by kernel_rfl) (by kernel_rfl) ?_; intro w2 h2 g2))
  refine ⟨?_⟩
  have eB1 : Ext wB w1 := Below.grown ((alloc_ext wB _).trans (alloc_ext _ _)) g1 ((alloc_ext wB _).trans (alloc_ext _ _)).size (fun k hk => by cases hk; exact Nat.le_refl _)
  have e12 : Ext wB w2 := Below.grown eB1 g2 eB1.size (fun k hk => by cases hk; omega)
  have h1 := (g2.block _ (lt_of_block h1) (by simp)).trans h1
  have eAB : Ext wA w2 := (alloc_ext wA _).trans (eB.trans e12)
  have eW : Ext w w2 := eA.trans eAB
  have hS : BoxL w2 wB.heap.size sS := ⟨some ⟨gA, 0, none⟩, 2, cell_of_blk h1 0 rfl, cell_of_blk h1 1 rfl, cell_of_blk h1 2 rfl, _, rfl, arows_of (hcA.ext eAB) rfl hlA (fun i u es hu hes => (hrA i u es hu hes).ext eAB) (Nat.le_refl _) (by decide)⟩
  match vsB, hlB with
  | [u0, u1], _ =>
    exact lives_t2 w w2 wB.heap.size (wB.heap.size + 1) gB u0 u1 _ _ _ _ _ _ _ _ _ _ _ _ _ _ _ _ _ _ _ _ _ _ _ _ _ _ _ _ _ _ _ _ _ _ _ _ _ _ _ _ _ _ _ _ _ _ _ _ _ _ _ _ _ _ _ _ _ _ _ _ _ _ _ _ _ _ _ _ _ _ _ _ _ _ _ _ _ _ _ _ _ _ _ _ _ _ _ _ _ _ _ _ _ _ _ _ _ _ _ _ _ _ _ _ _ _ _ _ _ _ _ _ _ _ _ _ _ _ _ _ _ _ _ _ _ _ _ _ _ _ _ _ _ _ _ _ _ _ _ _ _ _ _ _ _ _ _ _ _ _ _ _ _ _ _ _ _ _ _ _ _ _ _ _ _ _ _ _ _ _ _ _ _ _ _ _ _ _ _ _ _ _ _ _ _ _ _ _ _ _ _ _ _ _ _ _ _ _ _ _ _ _ _ _ _ _ _ _ _ _ _ _ _ _ _ _ _ _ _ _ _ _ _ _ _ _ _ _ _ _ _ _ _ _ _ _ _ _ _ _ _ _ _ _ _ _ _ _ _ _ _ _ _ _ _ _ _ _ _ _ _ _ _ _ _ _ _ _ _ _ _ eW (HT.out.ext eW) hS h2 (hcB.ext e12) ((hrB 0 u0 _ rfl rfl).ext e12) ((hrB 1 u1 _ rfl rfl).ext e12)
end Go.Proofs.YtamodjlifpjaoaaDoor
