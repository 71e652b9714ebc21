/- ExtendsKnown 9, backwards: regions 22 to 24. -/
import Derived.Test.YtggffdkgfgdaoaaDoorK2
namespace Go.Proofs.YtggffdkgfgdaoaaDoor
open Go.RowKit Go.Maps
set_option linter.unusedVariables false
set_option linter.unusedSimpArgs false
attribute [local go_sem] Oper.quietV quietV Oper.gives givesV ext_refl_iff ext_alloc_iff ext_drew_iff ext_drewN_iff
theorem conf_lim (W : World) (xv : Value) (x : Xt) (hx : XtV W x xv) (hT : OpsTab W) (h0 : xtR x = 0) (h1 : 4096 < combR x.vars) :
    Calls Tryd.prog 23 #[xv] W (fun e w' => e = .returned (.tuple #[.int .i64 0, .int .i64 0, .slice none 0 0, .int .i64 3]) ∧ Ext W w') := by
  refine (conflict_any W xv x hx hT).mono ?_
  rintro e w' ⟨_, h, _, h3⟩
  exact ⟨h h0 h1, h3⟩
set_option maxRecDepth 100000 in
set_option maxHeartbeats 16000000 in
theorem known_t22 (w W : World) (d : Nat) (A : Option Addr) (vv sv av : Value) (c0 c1 c2 c3 c5 c6 c7 c9 c10 c15 c16 c17 c18 c19 c20 c21 c22 c23 c24 c25 c26 c27 c28 c29 c30 c31 c32 c33 c34 c35 c36 c37 c38 c39 c40 c41 c42 c43 c44 c45 c46 c47 c48 c49 c50 c51 c52 c53 c54 c55 c56 c57 c58 c59 c60 c61 c62 c63 c64 c65 c66 c67 c68 c69 c70 c71 c72 c73 c74 c75 c76 c77 c78 c79 c80 c81 c82 c83 c84 c85 c86 c87 c88 c89 c90 c91 c92 c93 c94 c95 c96 c97 c98 c99 c100 c101 c102 c103 c104 c105 c106 c107 c108 c109 c110 c111 c112 c113 c114 c115 c116 c117 c118 c119 c120 c121 c122 c123 c124 c125 c126 c127 c128 c129 c130 c131 c132 c133 c134 c135 c136 c137 c138 c139 c140 c141 c142 c143 c144 c145 c146 c147 c148 c149 c150 c151 c152 c153 c154 c155 c156 c157 c158 c159 c160 c161 c162 c163 c164 c165 c166 c167 c168 c169 c170 c171 c172 c173 c174 c175 c176 c177 c178 c179 c180 c181 c182 c183 c184 c185 c186 c187 c188 c189 c190 c191 c192 c193 c194 c195 c196 c197 c198 c199 c200 c201 c202 c203 c204 c205 c206 c207 c208 c209 c210 c211 c212 c213 : Value) (h0 : Ext w W) (hT : OpsTab W) (hB : W.heap[d]? = some (.cells #[.int .i64 1, .int .i64 1, .int .i64 1, vv, sv, av] 31 (0, 0))) (hX : XtV W kZ3 (.agg #[.int .i64 1, .int .i64 1, .int .i64 1, vv, sv, av])) (hh : FitC W (.slice A 12 12) kHit) :
    Code.wp Tryd.prog (T9 22) (bodyPost Tryd.prog Tryd.f9 (LivP w)) ⟨(c0 :: c1 :: c2 :: c3 :: .int .i64 0 :: c5 :: c6 :: c7 :: .int .i64 3 :: c9 :: c10 :: .pointer (some ⟨d, 0, none⟩) :: .int .i64 0 :: .int .i64 1 :: .slice A 12 12 :: c15 :: c16 :: c17 :: c18 :: c19 :: c20 :: c21 :: c22 :: c23 :: c24 :: c25 :: c26 :: c27 :: c28 :: c29 :: c30 :: c31 :: c32 :: c33 :: c34 :: c35 :: c36 :: c37 :: c38 :: c39 :: c40 :: c41 :: c42 :: c43 :: c44 :: c45 :: c46 :: c47 :: c48 :: c49 :: c50 :: c51 :: c52 :: c53 :: c54 :: c55 :: c56 :: c57 :: c58 :: c59 :: c60 :: c61 :: c62 :: c63 :: c64 :: c65 :: c66 :: c67 :: c68 :: c69 :: c70 :: c71 :: c72 :: c73 :: c74 :: c75 :: c76 :: c77 :: c78 :: c79 :: c80 :: c81 :: c82 :: c83 :: c84 :: c85 :: c86 :: c87 :: c88 :: c89 :: c90 :: c91 :: c92 :: c93 :: c94 :: c95 :: c96 :: c97 :: c98 :: c99 :: c100 :: c101 :: c102 :: c103 :: c104 :: c105 :: c106 :: c107 :: c108 :: c109 :: c110 :: c111 :: c112 :: c113 :: c114 :: c115 :: c116 :: c117 :: c118 :: c119 :: c120 :: c121 :: c122 :: c123 :: c124 :: c125 :: c126 :: c127 :: c128 :: c129 :: c130 :: c131 :: c132 :: c133 :: c134 :: c135 :: c136 :: c137 :: c138 :: c139 :: c140 :: c141 :: c142 :: c143 :: c144 :: c145 :: c146 :: c147 :: c148 :: c149 :: c150 :: c151 :: c152 :: c153 :: c154 :: c155 :: c156 :: c157 :: c158 :: c159 :: c160 :: c161 :: c162 :: c163 :: c164 :: c165 :: c166 :: c167 :: c168 :: c169 :: c170 :: c171 :: c172 :: c173 :: c174 :: c175 :: c176 :: c177 :: c178 :: c179 :: c180 :: c181 :: c182 :: c183 :: c184 :: c185 :: c186 :: c187 :: c188 :: c189 :: c190 :: c191 :: c192 :: c193 :: c194 :: c195 :: c196 :: c197 :: c198 :: c199 :: c200 :: c201 :: c202 :: c203 :: c204 :: c205 :: c206 :: c207 :: c208 :: c209 :: c210 :: c211 :: c212 :: c213 :: []).toArray, []⟩ W := by
  conv => arg 2; whnf
  have hcf := conf_lim W _ kZ3 hX hT kZ3_ok (by rw [kZ3_c]; decide)
  have HW := Lib.hid (And.intro h0 (And.intro hT hh))
  clear h0 hT hX hh
  go_upto_region 23 with (first
    | (with_reducible refine wpList_load_row rfl 31 _ rfl d rfl 31 _ (0, 0) _ hB Tryd.underlying31 rfl (by kernel_rfl) ?_)
    | ((with_reducible refine hcf.mono ?_); rintro e W6 ⟨rfl, e6⟩))
  have e7 : Ext W6 (W6.alloc (.cells (kHit.map (.int .i64)).toArray 3)) := alloc_ext _ _
  have hwd := word_lit _ A 12 12 kHit (.slice (some ⟨W6.heap.size, 0, none⟩) 12 12) (IntsC.ext HW.out.2.2 (e6.trans e7)) rfl (ints_lit W6 kHit 12 rfl (by decide))
  have H7 := Lib.hid (And.intro (HW.out.1.trans (e6.trans e7)) (HW.out.2.1.ext (e6.trans e7)))
  simp only [kHit, List.map] at hwd
  clear hB hcf HW e7
  go_upto_region 999 with (first
    | (with_reducible refine stop_at 25 ?_)
    | (with_reducible refine stop_at2 25 ?_)
    | ((with_reducible refine hwd.mono ?_); rintro e W8 ⟨rfl, e8⟩))
  refine ⟨?_⟩
  exact known_t25 w W8 _ _ _ _ _ _ _ _ _ _ _ _ _ _ _ _ _ _ _ _ _ _ _ _ _ _ _ _ _ _ _ _ _ _ _ _ _ _ _ _ _ _ _ _ _ _ _ _ _ _ _ _ _ _ _ _ _ _ _ _ _ _ _ _ _ _ _ _ _ _ _ _ _ _ _ _ _ _ _ _ _ _ _ _ _ _ _ _ _ _ _ _ _ _ _ _ _ _ _ _ _ _ _ _ _ _ _ _ _ _ _ _ _ _ _ _ _ _ _ _ _ _ _ _ _ _ _ _ _ _ _ _ _ _ _ _ _ _ _ _ _ _ _ _ _ _ _ _ _ _ _ _ _ _ _ _ _ _ _ _ _ _ _ _ _ _ _ _ _ _ _ _ _ _ _ _ _ _ _ _ _ _ _ _ _ _ _ _ _ _ _ _ _ _ _ _ _ _ _ _ _ _ _ _ _ _ _ _ _ _ _ _ _ _ (H7.out.1.trans e8) (H7.out.2.ext e8)
end Go.Proofs.YtggffdkgfgdaoaaDoor
