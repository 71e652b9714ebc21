/- IocosErrors 8: the middle pieces. -/
import Derived.Test.YtamodjlifpjaoaaDoorU3
import Derived.Deep.CutBlock
namespace Go.Proofs.YtamodjlifpjaoaaDoor
open Go.RowKit
set_option linter.unusedVariables false
set_option linter.unusedSimpArgs false
attribute [local go_sem] Oper.quietV quietV Oper.gives givesV ext_refl_iff ext_alloc_iff ext_drew_iff ext_drewN_iff
set_option maxRecDepth 100000 in
set_option maxHeartbeats 16000000 in
theorem err_t19 (w W : World) (b3 : Nat) (x : Lts) (ls : List Int) (ct : Nat) (c0 c1 c4 c5 c6 c7 c8 c9 c10 c11 c16 c17 c18 c19 c20 c21 c22 c23 c24 c25 c26 c27 c28 c29 c30 c31 c32 c33 c34 c35 c36 c37 c38 c39 c40 c41 c42 c43 c44 c45 c46 c47 c48 c49 c50 c51 c52 c53 c54 c55 c56 c57 c58 c59 c60 c61 c62 c63 c64 c65 c66 c67 c68 c69 c70 c71 c72 c73 c74 c75 c76 c77 c78 c79 c80 c81 c82 c83 c84 c85 c86 c87 c88 c89 c90 c91 c92 c93 c94 c95 c96 c97 c98 c99 c100 c101 c102 c103 c104 c105 c106 c107 c108 c109 c110 c111 c112 c113 c114 c115 c116 c117 c118 c119 c120 c121 c122 c123 c124 c125 c126 c127 c128 c129 c130 c131 c132 c133 c134 c135 c136 c137 c138 c139 c140 c141 c142 c143 c144 c145 c146 c147 c148 c149 c150 c151 c152 c153 c154 c155 c156 c157 c158 c159 c160 c161 c162 c163 c164 c165 c166 c167 c168 c169 c170 c171 c172 c173 c174 c175 c176 c177 c178 c179 c180 c181 c182 c183 c184 c185 c186 c187 c188 c189 c190 c191 c192 c193 c194 c195 c196 c197 c198 c199 c200 c201 c202 c203 c204 c205 c206 c207 c208 c209 c210 c211 c212 c213 c214 c215 c216 c217 c218 c219 c220 c221 c222 c223 c224 c225 c226 c227 c228 c229 c230 c231 c232 c233 c234 c235 c236 c237 c238 c239 c240 c241 c242 c243 c244 c245 c246 c247 c248 c249 c250 c251 c252 c253 c254 c255 c256 c257 c258 c259 c260 c261 c262 c263 c264 c265 c266 c267 c268 c269 c270 c271 c272 c273 c274 c275 c276 c277 c278 c279 c280 c281 c282 c283 c284 c285 c286 c287 c288 c289 c290 c291 c292 c293 c294 c295 c296 c297 c298 c299 c300 c301 c302 c303 c304 c305 c306 c307 c308 c309 c310 tv sv vv : Value) (ea eo : Int) (hx0 : checkI x = 0) (hea : (afterR x ls).2 = ea) (heo : (observeR x ls).2 = eo) (hX : LoopE w W b3 x ls ct tv sv vv) :
    Code.wp Tryd.prog (T8 19) (bodyPost Tryd.prog Tryd.f8 (ErrP w)) ⟨(c0 :: c1 :: tv :: .pointer (some ⟨b3, 0, none⟩) :: c4 :: c5 :: c6 :: c7 :: c8 :: c9 :: c10 :: c11 :: .int .i64 ea :: sv :: vv :: .int .i64 eo :: c16 :: c17 :: c18 :: c19 :: c20 :: c21 :: c22 :: c23 :: c24 :: c25 :: c26 :: c27 :: c28 :: c29 :: c30 :: c31 :: c32 :: c33 :: c34 :: c35 :: c36 :: c37 :: c38 :: c39 :: c40 :: c41 :: c42 :: c43 :: c44 :: c45 :: c46 :: c47 :: c48 :: c49 :: c50 :: c51 :: c52 :: c53 :: c54 :: c55 :: c56 :: c57 :: c58 :: c59 :: c60 :: c61 :: c62 :: c63 :: c64 :: c65 :: c66 :: c67 :: c68 :: c69 :: c70 :: c71 :: c72 :: c73 :: c74 :: c75 :: c76 :: c77 :: c78 :: c79 :: c80 :: c81 :: c82 :: c83 :: c84 :: c85 :: c86 :: c87 :: c88 :: c89 :: c90 :: c91 :: c92 :: c93 :: c94 :: c95 :: c96 :: c97 :: c98 :: c99 :: c100 :: c101 :: c102 :: c103 :: c104 :: c105 :: c106 :: c107 :: c108 :: c109 :: c110 :: c111 :: c112 :: c113 :: c114 :: c115 :: c116 :: c117 :: c118 :: c119 :: c120 :: c121 :: c122 :: c123 :: c124 :: c125 :: c126 :: c127 :: c128 :: c129 :: c130 :: c131 :: c132 :: c133 :: c134 :: c135 :: c136 :: c137 :: c138 :: c139 :: c140 :: c141 :: c142 :: c143 :: c144 :: c145 :: c146 :: c147 :: c148 :: c149 :: c150 :: c151 :: c152 :: c153 :: c154 :: c155 :: c156 :: c157 :: c158 :: c159 :: c160 :: c161 :: c162 :: c163 :: c164 :: c165 :: c166 :: c167 :: c168 :: c169 :: c170 :: c171 :: c172 :: c173 :: c174 :: c175 :: c176 :: c177 :: c178 :: c179 :: c180 :: c181 :: c182 :: c183 :: c184 :: c185 :: c186 :: c187 :: c188 :: c189 :: c190 :: c191 :: c192 :: c193 :: c194 :: c195 :: c196 :: c197 :: c198 :: c199 :: c200 :: c201 :: c202 :: c203 :: c204 :: c205 :: c206 :: c207 :: c208 :: c209 :: c210 :: c211 :: c212 :: c213 :: c214 :: c215 :: c216 :: c217 :: c218 :: c219 :: c220 :: c221 :: c222 :: c223 :: c224 :: c225 :: c226 :: c227 :: c228 :: c229 :: c230 :: c231 :: c232 :: c233 :: c234 :: c235 :: c236 :: c237 :: c238 :: c239 :: c240 :: c241 :: c242 :: c243 :: c244 :: c245 :: c246 :: c247 :: c248 :: c249 :: c250 :: c251 :: c252 :: c253 :: c254 :: c255 :: c256 :: c257 :: c258 :: c259 :: c260 :: c261 :: c262 :: c263 :: c264 :: c265 :: c266 :: c267 :: c268 :: c269 :: c270 :: c271 :: c272 :: c273 :: c274 :: c275 :: c276 :: c277 :: c278 :: c279 :: c280 :: c281 :: c282 :: c283 :: c284 :: c285 :: c286 :: c287 :: c288 :: c289 :: c290 :: c291 :: c292 :: c293 :: c294 :: c295 :: c296 :: c297 :: c298 :: c299 :: c300 :: c301 :: c302 :: c303 :: c304 :: c305 :: c306 :: c307 :: c308 :: c309 :: c310 :: []).toArray, []⟩ W := by
  conv => arg 2; whnf
  obtain ⟨At, rfl, hc, _, hlm⟩ := id hX.list
  unfold lenMax at hlm
  have HX := Lib.hid (And.intro hX (And.intro hx0 (And.intro hea heo)))
  clear hX hx0 hea heo hc
  by_cases hl : 256 < ls.length
  · have hI : (256 : Int) < (ls.length : Int) := by omega
    have H3 : Hid ((3 : Int) = fK ls.length ((ls.take 0).any (badT x)) ∧ (3 : Int) = fK ls.length ((ls.take 0).any (badP x))) := Lib.hid (by unfold fK; rw [if_pos hl, if_pos hl]; exact ⟨rfl, rfl⟩)
    clear hl
    go_upto_block 0 with fail
    refine err_loop w b3 x ls ct _ _ _ _ _ _ _ _ _ _ _ _ _ _ _ _ _ _ _ _ _ _ _ _ _ _ _ _ _ _ _ _ _ _ _ _ _ _ _ _ _ _ _ _ _ _ _ _ _ _ _ _ _ _ _ _ _ _ _ _ _ _ _ _ _ _ _ _ _ _ _ _ _ _ _ _ _ _ _ _ _ _ _ _ _ _ _ _ _ _ _ _ _ _ _ _ _ _ _ _ _ _ _ _ _ _ _ _ _ _ _ _ _ _ _ _ _ _ _ _ _ _ _ _ _ _ _ _ _ _ _ _ _ _ _ _ _ _ _ _ _ _ _ _ _ _ _ _ _ _ _ _ _ _ _ _ _ _ _ _ _ _ _ _ _ _ _ _ _ _ _ _ _ _ _ _ _ _ _ _ _ _ _ _ _ _ _ _ _ _ _ _ _ _ _ _ _ _ _ _ _ _ _ _ _ _ _ _ _ _ _ _ _ _ _ _ _ _ _ _ _ _ _ _ _ _ _ _ ea eo HX.out.2.1 HX.out.2.2.1 HX.out.2.2.2 _ ?_ ls.length 0 _ _ _ _ _ _ _ _ _ _ _ _ _ _ _ _ _ _ _ _ _ _ _ _ _ _ _ _ _ _ _ _ _ _ _ _ _ _ _ _ _ _ _ _ _ _ _ _ _ _ _ _ _ _ _ _ _ _ _ _ _ _ _ _ _ _ _ _ _ _ _ _ _ _ _ _ 3 0 3 0 W (by omega) rfl H3.out.1 rfl H3.out.2 HX.out.1
    assumption
  · have hI : ¬ (256 : Int) < (ls.length : Int) := by omega
    have H3 : Hid ((0 : Int) = fK ls.length ((ls.take 0).any (badT x)) ∧ (0 : Int) = fK ls.length ((ls.take 0).any (badP x))) := Lib.hid (by unfold fK; rw [if_neg hl, if_neg hl]; exact ⟨rfl, rfl⟩)
    clear hl
    go_upto_block 0 with fail
    refine err_loop w b3 x ls ct _ _ _ _ _ _ _ _ _ _ _ _ _ _ _ _ _ _ _ _ _ _ _ _ _ _ _ _ _ _ _ _ _ _ _ _ _ _ _ _ _ _ _ _ _ _ _ _ _ _ _ _ _ _ _ _ _ _ _ _ _ _ _ _ _ _ _ _ _ _ _ _ _ _ _ _ _ _ _ _ _ _ _ _ _ _ _ _ _ _ _ _ _ _ _ _ _ _ _ _ _ _ _ _ _ _ _ _ _ _ _ _ _ _ _ _ _ _ _ _ _ _ _ _ _ _ _ _ _ _ _ _ _ _ _ _ _ _ _ _ _ _ _ _ _ _ _ _ _ _ _ _ _ _ _ _ _ _ _ _ _ _ _ _ _ _ _ _ _ _ _ _ _ _ _ _ _ _ _ _ _ _ _ _ _ _ _ _ _ _ _ _ _ _ _ _ _ _ _ _ _ _ _ _ _ _ _ _ _ _ _ _ _ _ _ _ _ _ _ _ _ _ _ _ _ _ _ _ ea eo HX.out.2.1 HX.out.2.2.1 HX.out.2.2.2 _ ?_ ls.length 0 _ _ _ _ _ _ _ _ _ _ _ _ _ _ _ _ _ _ _ _ _ _ _ _ _ _ _ _ _ _ _ _ _ _ _ _ _ _ _ _ _ _ _ _ _ _ _ _ _ _ _ _ _ _ _ _ _ _ _ _ _ _ _ _ _ _ _ _ _ _ _ _ _ _ _ _ 0 0 0 0 W (by omega) rfl H3.out.1 rfl H3.out.2 HX.out.1
    assumption
set_option maxRecDepth 100000 in
set_option maxHeartbeats 16000000 in
theorem err_t12 (w W : World) (b3 : Nat) (x : Lts) (ls : List Int) (ct : Nat) (c0 c1 c4 c5 c6 c8 c9 c10 c11 c12 c13 c14 c15 c16 c17 c18 c19 c20 c21 c22 c23 c24 c25 c26 c27 c28 c29 c30 c31 c32 c33 c34 c35 c36 c37 c38 c39 c40 c41 c42 c43 c44 c45 c46 c47 c48 c49 c50 c51 c52 c53 c54 c55 c56 c57 c58 c59 c60 c61 c62 c63 c64 c65 c66 c67 c68 c69 c70 c71 c72 c73 c74 c75 c76 c77 c78 c79 c80 c81 c82 c83 c84 c85 c86 c87 c88 c89 c90 c91 c92 c93 c94 c95 c96 c97 c98 c99 c100 c101 c102 c103 c104 c105 c106 c107 c108 c109 c110 c111 c112 c113 c114 c115 c116 c117 c118 c119 c120 c121 c122 c123 c124 c125 c126 c127 c128 c129 c130 c131 c132 c133 c134 c135 c136 c137 c138 c139 c140 c141 c142 c143 c144 c145 c146 c147 c148 c149 c150 c151 c152 c153 c154 c155 c156 c157 c158 c159 c160 c161 c162 c163 c164 c165 c166 c167 c168 c169 c170 c171 c172 c173 c174 c175 c176 c177 c178 c179 c180 c181 c182 c183 c184 c185 c186 c187 c188 c189 c190 c191 c192 c193 c194 c195 c196 c197 c198 c199 c200 c201 c202 c203 c204 c205 c206 c207 c208 c209 c210 c211 c212 c213 c214 c215 c216 c217 c218 c219 c220 c221 c222 c223 c224 c225 c226 c227 c228 c229 c230 c231 c232 c233 c234 c235 c236 c237 c238 c239 c240 c241 c242 c243 c244 c245 c246 c247 c248 c249 c250 c251 c252 c253 c254 c255 c256 c257 c258 c259 c260 c261 c262 c263 c264 c265 c266 c267 c268 c269 c270 c271 c272 c273 c274 c275 c276 c277 c278 c279 c280 c281 c282 c283 c284 c285 c286 c287 c288 c289 c290 c291 c292 c293 c294 c295 c296 c297 c298 c299 c300 c301 c302 c303 c304 c305 c306 c307 c308 c309 c310 tv : Value) (p : Int) (hp : checkI x = p) (h0 : Ext w W) (hT : Tab W) (hb : BoxL W b3 x) (ht : IntsC W tv ls ct) :
    Code.wp Tryd.prog (T8 12) (bodyPost Tryd.prog Tryd.f8 (ErrP w)) ⟨(c0 :: c1 :: tv :: .pointer (some ⟨b3, 0, none⟩) :: c4 :: c5 :: c6 :: .int .i64 p :: c8 :: c9 :: c10 :: c11 :: c12 :: c13 :: c14 :: c15 :: c16 :: c17 :: c18 :: c19 :: c20 :: c21 :: c22 :: c23 :: c24 :: c25 :: c26 :: c27 :: c28 :: c29 :: c30 :: c31 :: c32 :: c33 :: c34 :: c35 :: c36 :: c37 :: c38 :: c39 :: c40 :: c41 :: c42 :: c43 :: c44 :: c45 :: c46 :: c47 :: c48 :: c49 :: c50 :: c51 :: c52 :: c53 :: c54 :: c55 :: c56 :: c57 :: c58 :: c59 :: c60 :: c61 :: c62 :: c63 :: c64 :: c65 :: c66 :: c67 :: c68 :: c69 :: c70 :: c71 :: c72 :: c73 :: c74 :: c75 :: c76 :: c77 :: c78 :: c79 :: c80 :: c81 :: c82 :: c83 :: c84 :: c85 :: c86 :: c87 :: c88 :: c89 :: c90 :: c91 :: c92 :: c93 :: c94 :: c95 :: c96 :: c97 :: c98 :: c99 :: c100 :: c101 :: c102 :: c103 :: c104 :: c105 :: c106 :: c107 :: c108 :: c109 :: c110 :: c111 :: c112 :: c113 :: c114 :: c115 :: c116 :: c117 :: c118 :: c119 :: c120 :: c121 :: c122 :: c123 :: c124 :: c125 :: c126 :: c127 :: c128 :: c129 :: c130 :: c131 :: c132 :: c133 :: c134 :: c135 :: c136 :: c137 :: c138 :: c139 :: c140 :: c141 :: c142 :: c143 :: c144 :: c145 :: c146 :: c147 :: c148 :: c149 :: c150 :: c151 :: c152 :: c153 :: c154 :: c155 :: c156 :: c157 :: c158 :: c159 :: c160 :: c161 :: c162 :: c163 :: c164 :: c165 :: c166 :: c167 :: c168 :: c169 :: c170 :: c171 :: c172 :: c173 :: c174 :: c175 :: c176 :: c177 :: c178 :: c179 :: c180 :: c181 :: c182 :: c183 :: c184 :: c185 :: c186 :: c187 :: c188 :: c189 :: c190 :: c191 :: c192 :: c193 :: c194 :: c195 :: c196 :: c197 :: c198 :: c199 :: c200 :: c201 :: c202 :: c203 :: c204 :: c205 :: c206 :: c207 :: c208 :: c209 :: c210 :: c211 :: c212 :: c213 :: c214 :: c215 :: c216 :: c217 :: c218 :: c219 :: c220 :: c221 :: c222 :: c223 :: c224 :: c225 :: c226 :: c227 :: c228 :: c229 :: c230 :: c231 :: c232 :: c233 :: c234 :: c235 :: c236 :: c237 :: c238 :: c239 :: c240 :: c241 :: c242 :: c243 :: c244 :: c245 :: c246 :: c247 :: c248 :: c249 :: c250 :: c251 :: c252 :: c253 :: c254 :: c255 :: c256 :: c257 :: c258 :: c259 :: c260 :: c261 :: c262 :: c263 :: c264 :: c265 :: c266 :: c267 :: c268 :: c269 :: c270 :: c271 :: c272 :: c273 :: c274 :: c275 :: c276 :: c277 :: c278 :: c279 :: c280 :: c281 :: c282 :: c283 :: c284 :: c285 :: c286 :: c287 :: c288 :: c289 :: c290 :: c291 :: c292 :: c293 :: c294 :: c295 :: c296 :: c297 :: c298 :: c299 :: c300 :: c301 :: c302 :: c303 :: c304 :: c305 :: c306 :: c307 :: c308 :: c309 :: c310 :: []).toArray, []⟩ W := by
  conv => arg 2; whnf
  have HX := Lib.hid (And.intro h0 (And.intro hT (And.intro hb (And.intro ht hp))))
  have hlv := fun W' (e : Ext W W') => lives_any W' (hT.ext e)
  obtain ⟨pA, pc, p0, p1, p2, pS⟩ := hb
  have p0 := fun w' (h : Ext W w') => h.cell p0
  have p1 := fun w' (h : Ext W w') => h.cell p1
  have p2 := fun w' (h : Ext W w') => h.cell p2
  have hE0 := Ext.refl W
  have haf := After_any W _ x tv ls ct pS ht hT
  have hob := fun W' (e : Ext W W') => Observe_any W' _ x tv ls ct (pS.ext e) (ht.ext e) (hT.ext e)
  by_cases hp0 : p = 0
  · have g0 : (p != 0) = false := by simp [hp0]
    have HP := Lib.hid (hp.trans hp0)
    generalize hA1 : (afterR x ls).2 = ea at *
    generalize hO1 : (observeR x ls).2 = eo at *
    have HEA := Lib.hid (And.intro hA1 hO1)
    clear hp hp0 pS h0 hT ht hlv hA1 hO1
    go_upto_region 13 with ((with_reducible refine haf.mono ?_); rintro e W1 ⟨sv, rfl, hs, e1⟩)
    have hob1 := hob W1 e1
    have H1 := Lib.hid (And.intro hs e1)
    have p0 := fun w' (h : Ext W1 w') => p0 w' (e1.trans h)
    have p1 := fun w' (h : Ext W1 w') => p1 w' (e1.trans h)
    have p2 := fun w' (h : Ext W1 w') => p2 w' (e1.trans h)
    have hE0 := Ext.refl W1
    clear haf hob hs e1
    go_upto_region 999 with (first
      | ((with_reducible refine hob1.mono ?_); rintro e W2 ⟨vv, rfl, hv, e2⟩; have H2 := Lib.hid (And.intro hv e2); clear hv e2)
      | (with_reducible refine stop_at2 19 ?_) | (with_reducible refine stop_at 19 ?_))
    refine ⟨?_⟩
    have e02 := H1.out.2.trans H2.out.2
    exact err_t19 w W2 b3 x ls ct _ _ _ _ _ _ _ _ _ _ _ _ _ _ _ _ _ _ _ _ _ _ _ _ _ _ _ _ _ _ _ _ _ _ _ _ _ _ _ _ _ _ _ _ _ _ _ _ _ _ _ _ _ _ _ _ _ _ _ _ _ _ _ _ _ _ _ _ _ _ _ _ _ _ _ _ _ _ _ _ _ _ _ _ _ _ _ _ _ _ _ _ _ _ _ _ _ _ _ _ _ _ _ _ _ _ _ _ _ _ _ _ _ _ _ _ _ _ _ _ _ _ _ _ _ _ _ _ _ _ _ _ _ _ _ _ _ _ _ _ _ _ _ _ _ _ _ _ _ _ _ _ _ _ _ _ _ _ _ _ _ _ _ _ _ _ _ _ _ _ _ _ _ _ _ _ _ _ _ _ _ _ _ _ _ _ _ _ _ _ _ _ _ _ _ _ _ _ _ _ _ _ _ _ _ _ _ _ _ _ _ _ _ _ _ _ _ _ _ _ _ _ _ _ _ _ _ _ _ _ _ _ _ _ _ _ _ _ _ _ _ _ _ _ _ _ _ _ _ _ _ _ _ _ _ _ _ _ _ _ _ _ _ _ _ _ _ _ _ _ _ _ _ _ _ _ _ _ _ _ _ _ _ _ _ _ _ _ _ _ _ _ _ _ _ _ _ _ _ _ _ _ _ _ _ tv sv vv ea eo HP.out HEA.out.1 HEA.out.2 ⟨HX.out.1.trans e02, HX.out.2.1.ext e02, HX.out.2.2.1.ext e02, HX.out.2.2.2.1.ext e02, H1.out.1.ext H2.out.2, H2.out.1⟩
  · have g0 : (p != 0) = true := by simp [hp0]
    have g1 : (p == p) = true := by simp
    have hA : afterR x ls = ([], p) := by unfold afterR; rw [hp, if_pos hp0]
    have hO : observeR x ls = ([], p) := by unfold observeR; rw [hp, if_pos hp0]
    have hM : makeR x ls = ([], p) := by unfold makeR; rw [hp, if_pos hp0]
    have hV : verdR x [] = (false, [], p) := by unfold verdR; rw [hp, if_pos hp0]
    have hC : acceptsR x = (false, p) := by unfold acceptsR; rw [hp, if_pos hp0]
    rw [hA] at haf
    rw [hO] at hob
    have hac := fun W' (e : Ext W W') => Accepts_any W' _ x (pS.ext e) (hT.ext e)
    rw [hC] at hac
    have hmk := fun W' (e : Ext W W') => Make_any W' _ x tv ls ct (pS.ext e) (ht.ext e) (hT.ext e)
    rw [hM] at hmk
    have hve := fun W' (e : Ext W W') => Verdict_any W' _ x _ [] 0 (pS.ext e) (fun h => absurd (hp.symm.trans h) hp0) (nodes_nil W') (hT.ext e)
    rw [hV] at hve
    clear hp hp0 pS h0 hT ht hA hO hM hV hC
    go_upto_region 13 with ((with_reducible refine haf.mono ?_); rintro e W1 ⟨sv, rfl, ⟨A1, rfl, _, _, hm1⟩, e1⟩)
    have hob1 := hob W1 e1
    have H1 := Lib.hid e1
    have p0 := fun w' (h : Ext W1 w') => p0 w' (e1.trans h)
    have p1 := fun w' (h : Ext W1 w') => p1 w' (e1.trans h)
    have p2 := fun w' (h : Ext W1 w') => p2 w' (e1.trans h)
    have hE0 := Ext.refl W1
    clear haf hob e1
    go_upto_region 14 with ((with_reducible refine hob1.mono ?_); rintro e W2 ⟨vv, rfl, ⟨A2, rfl, _, _, hm2⟩, e2⟩)
    have hac2 := hac W2 (H1.out.trans e2)
    have H2 := Lib.hid (H1.out.trans e2)
    have p0 := fun w' (h : Ext W2 w') => p0 w' (e2.trans h)
    have p1 := fun w' (h : Ext W2 w') => p1 w' (e2.trans h)
    have p2 := fun w' (h : Ext W2 w') => p2 w' (e2.trans h)
    have hE0 := Ext.refl W2
    clear hob1 hac e2
    go_upto_region 16 with ((with_reducible refine hac2.mono ?_); rintro e W3 ⟨rfl, e3⟩)
    have hmk3 := hmk W3 (H2.out.trans e3)
    have H3 := Lib.hid (H2.out.trans e3)
    have p0 := fun w' (h : Ext W3 w') => p0 w' (e3.trans h)
    have p1 := fun w' (h : Ext W3 w') => p1 w' (e3.trans h)
    have p2 := fun w' (h : Ext W3 w') => p2 w' (e3.trans h)
    have hE0 := Ext.refl W3
    clear hac2 hmk e3
    go_upto_region 17 with ((with_reducible refine hmk3.mono ?_); rintro e W4 ⟨mv, rfl, ⟨A4, M4, hM4, rfl, _, _, _, hm4⟩, e4⟩)
    have hve4 := hve W4 (H3.out.trans e4)
    have H4 := Lib.hid (H3.out.trans e4)
    have p0 := fun w' (h : Ext W4 w') => p0 w' (e4.trans h)
    have p1 := fun w' (h : Ext W4 w') => p1 w' (e4.trans h)
    have p2 := fun w' (h : Ext W4 w') => p2 w' (e4.trans h)
    have hE0 := Ext.refl W4
    clear hmk3 hve e4
    go_upto_region 18 with ((with_reducible refine hve4.mono ?_); rintro e W5 ⟨rv, rfl, ⟨A5, rfl, _, _, hm5⟩, e5⟩)
    have hlv5 := hlv W5 (H4.out.trans e5)
    have H5 := Lib.hid (H4.out.trans e5)
    clear hve4 hlv e5 p0 p1 p2
    go_wp2_with ((with_reducible refine hlv5.mono ?_); rintro e W6 ⟨rfl, e6⟩)
    go_ret
    exact ⟨rfl, HX.out.1.trans (H5.out.trans e6)⟩
end Go.Proofs.YtamodjlifpjaoaaDoor
