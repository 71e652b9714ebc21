/- IocosErrors 8. -/
import Derived.Test.YtamodjlifpjaoaaDoorU4
import Derived.Test.YtamodjlifpjaoaaDoorGG
namespace Go.Proofs.YtamodjlifpjaoaaDoor
open Go.RowKit
set_option linter.unusedVariables false
set_option linter.unusedSimpArgs false
attribute [local go_sem] Oper.quietV quietV Oper.gives givesV ext_refl_iff ext_alloc_iff ext_drew_iff ext_drewN_iff
def bothR (x y : Lts) : Int := if checkI x ≠ 0 then checkI x else if checkI y ≠ 0 then checkI y else if x.ins ≠ y.ins ∨ x.outs ≠ y.outs then 5 else 0
theorem both_conf {x y : Lts} (h : bothR x y ≠ 0) : confR x y = (false, [], 0, bothR x y) := by
  unfold bothR at h ⊢
  unfold confR
  split
  · rfl
  · rename_i h1
    rw [if_neg h1] at h
    split
    · rfl
    · rename_i h2
      rw [if_neg h2] at h
      split
      · rfl
      · rename_i h3
        rw [if_neg h3] at h
        exact absurd rfl h
set_option maxRecDepth 100000 in
set_option maxHeartbeats 16000000 in
theorem err_t9 (w W : World) (b3 b4 : Nat) (x y : Lts) (ls : List Int) (ct : Nat) (c0 c1 c5 c6 c9 c10 c11 c12 c13 c14 c15 c16 c17 c18 c19 c20 c21 c22 c23 c24 c25 c26 c27 c28 c29 c30 c31 c32 c33 c34 c35 c36 c37 c38 c39 c40 c41 c42 c43 c44 c45 c46 c47 c48 c49 c50 c51 c52 c53 c54 c55 c56 c57 c58 c59 c60 c61 c62 c63 c64 c65 c66 c67 c68 c69 c70 c71 c72 c73 c74 c75 c76 c77 c78 c79 c80 c81 c82 c83 c84 c85 c86 c87 c88 c89 c90 c91 c92 c93 c94 c95 c96 c97 c98 c99 c100 c101 c102 c103 c104 c105 c106 c107 c108 c109 c110 c111 c112 c113 c114 c115 c116 c117 c118 c119 c120 c121 c122 c123 c124 c125 c126 c127 c128 c129 c130 c131 c132 c133 c134 c135 c136 c137 c138 c139 c140 c141 c142 c143 c144 c145 c146 c147 c148 c149 c150 c151 c152 c153 c154 c155 c156 c157 c158 c159 c160 c161 c162 c163 c164 c165 c166 c167 c168 c169 c170 c171 c172 c173 c174 c175 c176 c177 c178 c179 c180 c181 c182 c183 c184 c185 c186 c187 c188 c189 c190 c191 c192 c193 c194 c195 c196 c197 c198 c199 c200 c201 c202 c203 c204 c205 c206 c207 c208 c209 c210 c211 c212 c213 c214 c215 c216 c217 c218 c219 c220 c221 c222 c223 c224 c225 c226 c227 c228 c229 c230 c231 c232 c233 c234 c235 c236 c237 c238 c239 c240 c241 c242 c243 c244 c245 c246 c247 c248 c249 c250 c251 c252 c253 c254 c255 c256 c257 c258 c259 c260 c261 c262 c263 c264 c265 c266 c267 c268 c269 c270 c271 c272 c273 c274 c275 c276 c277 c278 c279 c280 c281 c282 c283 c284 c285 c286 c287 c288 c289 c290 c291 c292 c293 c294 c295 c296 c297 c298 c299 c300 c301 c302 c303 c304 c305 c306 c307 c308 c309 c310 tv : Value) (p q : Int) (hp : checkI x = p) (hq : bothR x y = q) (h0 : Ext w W) (hT : Tab W) (hb : BoxL W b3 x) (hb2 : BoxL W b4 y) (ht : IntsC W tv ls ct) :
    Code.wp Tryd.prog (T8 9) (bodyPost Tryd.prog Tryd.f8 (ErrP w)) ⟨(c0 :: c1 :: tv :: .pointer (some ⟨b3, 0, none⟩) :: .pointer (some ⟨b4, 0, none⟩) :: c5 :: c6 :: .int .i64 p :: .int .i64 q :: c9 :: c10 :: c11 :: c12 :: c13 :: c14 :: c15 :: c16 :: c17 :: c18 :: c19 :: c20 :: c21 :: c22 :: c23 :: c24 :: c25 :: c26 :: c27 :: c28 :: c29 :: c30 :: c31 :: c32 :: c33 :: c34 :: c35 :: c36 :: c37 :: c38 :: c39 :: c40 :: c41 :: c42 :: c43 :: c44 :: c45 :: c46 :: c47 :: c48 :: c49 :: c50 :: c51 :: c52 :: c53 :: c54 :: c55 :: c56 :: c57 :: c58 :: c59 :: c60 :: c61 :: c62 :: c63 :: c64 :: c65 :: c66 :: c67 :: c68 :: c69 :: c70 :: c71 :: c72 :: c73 :: c74 :: c75 :: c76 :: c77 :: c78 :: c79 :: c80 :: c81 :: c82 :: c83 :: c84 :: c85 :: c86 :: c87 :: c88 :: c89 :: c90 :: c91 :: c92 :: c93 :: c94 :: c95 :: c96 :: c97 :: c98 :: c99 :: c100 :: c101 :: c102 :: c103 :: c104 :: c105 :: c106 :: c107 :: c108 :: c109 :: c110 :: c111 :: c112 :: c113 :: c114 :: c115 :: c116 :: c117 :: c118 :: c119 :: c120 :: c121 :: c122 :: c123 :: c124 :: c125 :: c126 :: c127 :: c128 :: c129 :: c130 :: c131 :: c132 :: c133 :: c134 :: c135 :: c136 :: c137 :: c138 :: c139 :: c140 :: c141 :: c142 :: c143 :: c144 :: c145 :: c146 :: c147 :: c148 :: c149 :: c150 :: c151 :: c152 :: c153 :: c154 :: c155 :: c156 :: c157 :: c158 :: c159 :: c160 :: c161 :: c162 :: c163 :: c164 :: c165 :: c166 :: c167 :: c168 :: c169 :: c170 :: c171 :: c172 :: c173 :: c174 :: c175 :: c176 :: c177 :: c178 :: c179 :: c180 :: c181 :: c182 :: c183 :: c184 :: c185 :: c186 :: c187 :: c188 :: c189 :: c190 :: c191 :: c192 :: c193 :: c194 :: c195 :: c196 :: c197 :: c198 :: c199 :: c200 :: c201 :: c202 :: c203 :: c204 :: c205 :: c206 :: c207 :: c208 :: c209 :: c210 :: c211 :: c212 :: c213 :: c214 :: c215 :: c216 :: c217 :: c218 :: c219 :: c220 :: c221 :: c222 :: c223 :: c224 :: c225 :: c226 :: c227 :: c228 :: c229 :: c230 :: c231 :: c232 :: c233 :: c234 :: c235 :: c236 :: c237 :: c238 :: c239 :: c240 :: c241 :: c242 :: c243 :: c244 :: c245 :: c246 :: c247 :: c248 :: c249 :: c250 :: c251 :: c252 :: c253 :: c254 :: c255 :: c256 :: c257 :: c258 :: c259 :: c260 :: c261 :: c262 :: c263 :: c264 :: c265 :: c266 :: c267 :: c268 :: c269 :: c270 :: c271 :: c272 :: c273 :: c274 :: c275 :: c276 :: c277 :: c278 :: c279 :: c280 :: c281 :: c282 :: c283 :: c284 :: c285 :: c286 :: c287 :: c288 :: c289 :: c290 :: c291 :: c292 :: c293 :: c294 :: c295 :: c296 :: c297 :: c298 :: c299 :: c300 :: c301 :: c302 :: c303 :: c304 :: c305 :: c306 :: c307 :: c308 :: c309 :: c310 :: []).toArray, []⟩ W := by
  conv => arg 2; whnf
  have HX := Lib.hid (And.intro h0 (And.intro hT (And.intro hb (And.intro ht (And.intro hp hq)))))
  obtain ⟨pA, pc, p0, p1, p2, pS⟩ := hb
  have p0 := fun w' (h : Ext W w') => h.cell p0
  have p1 := fun w' (h : Ext W w') => h.cell p1
  have p2 := fun w' (h : Ext W w') => h.cell p2
  obtain ⟨qA, qc, q0, q1, q2, qS⟩ := hb2
  have q0 := fun w' (h : Ext W w') => h.cell q0
  have q1 := fun w' (h : Ext W w') => h.cell q1
  have q2 := fun w' (h : Ext W w') => h.cell q2
  have hE0 := Ext.refl W
  have hcf := Conforms_any W _ _ x y pS qS hT
  have hch := fun W' (e : Ext W W') => check_any W' _ x (pS.ext e)
  rw [hp] at hch
  have n1 : (p != p) = false := by simp
  by_cases hq0 : q = 0
  · have g0 : (q != 0) = false := by simp [hq0]
    generalize confR x y = r at *
    obtain ⟨P, T, O, E⟩ := r
    clear hq0 hp hq pS qS h0 hT ht
    go_upto_region 10 with ((with_reducible refine hcf.mono ?_); rintro e W1 ⟨cv, rfl, ⟨A1, rfl, _, _, hm1⟩, e1⟩)
    have hch1 := hch W1 e1
    have H1 := Lib.hid e1
    have p0 := fun w' (h : Ext W1 w') => p0 w' (e1.trans h)
    have p1 := fun w' (h : Ext W1 w') => p1 w' (e1.trans h)
    have p2 := fun w' (h : Ext W1 w') => p2 w' (e1.trans h)
    have hE1 := Ext.refl W1
    clear hcf hch e1 q0 q1 q2 hE0
    go_upto_region 999 with (first
      | ((with_reducible refine hch1.mono ?_); rintro e W2 ⟨rfl, e2⟩; have H2 := Lib.hid (H1.out.trans e2); clear e2)
      | (with_reducible refine stop_at2 12 ?_) | (with_reducible refine stop_at 12 ?_))
    refine ⟨?_⟩
    exact err_t12 w W2 b3 x ls ct _ _ _ _ _ _ _ _ _ _ _ _ _ _ _ _ _ _ _ _ _ _ _ _ _ _ _ _ _ _ _ _ _ _ _ _ _ _ _ _ _ _ _ _ _ _ _ _ _ _ _ _ _ _ _ _ _ _ _ _ _ _ _ _ _ _ _ _ _ _ _ _ _ _ _ _ _ _ _ _ _ _ _ _ _ _ _ _ _ _ _ _ _ _ _ _ _ _ _ _ _ _ _ _ _ _ _ _ _ _ _ _ _ _ _ _ _ _ _ _ _ _ _ _ _ _ _ _ _ _ _ _ _ _ _ _ _ _ _ _ _ _ _ _ _ _ _ _ _ _ _ _ _ _ _ _ _ _ _ _ _ _ _ _ _ _ _ _ _ _ _ _ _ _ _ _ _ _ _ _ _ _ _ _ _ _ _ _ _ _ _ _ _ _ _ _ _ _ _ _ _ _ _ _ _ _ _ _ _ _ _ _ _ _ _ _ _ _ _ _ _ _ _ _ _ _ _ _ _ _ _ _ _ _ _ _ _ _ _ _ _ _ _ _ _ _ _ _ _ _ _ _ _ _ _ _ _ _ _ _ _ _ _ _ _ _ _ _ _ _ _ _ _ _ _ _ _ _ _ _ _ _ _ _ _ _ _ _ _ _ _ _ _ _ _ _ _ _ _ _ _ _ _ _ _ _ _ _ tv p HX.out.2.2.2.2.1 (HX.out.1.trans H2.out) (HX.out.2.1.ext H2.out) (HX.out.2.2.1.ext H2.out) (HX.out.2.2.2.1.ext H2.out)
  · have g0 : (q != 0) = true := by simp [hq0]
    have n2 : (q != q) = false := by simp
    rw [both_conf (by rw [hq]; exact hq0), hq] at hcf
    clear hq0 hp hq pS qS h0 hT ht
    go_upto_region 10 with ((with_reducible refine hcf.mono ?_); rintro e W1 ⟨cv, rfl, ⟨A1, rfl, _, _, hm1⟩, e1⟩)
    have hch1 := hch W1 e1
    have H1 := Lib.hid e1
    have p0 := fun w' (h : Ext W1 w') => p0 w' (e1.trans h)
    have p1 := fun w' (h : Ext W1 w') => p1 w' (e1.trans h)
    have p2 := fun w' (h : Ext W1 w') => p2 w' (e1.trans h)
    have hE1 := Ext.refl W1
    clear hcf hch e1 q0 q1 q2 hE0
    go_upto_region 999 with (first
      | ((with_reducible refine hch1.mono ?_); rintro e W2 ⟨rfl, e2⟩; have H2 := Lib.hid (H1.out.trans e2); clear e2)
      | (with_reducible refine stop_at2 12 ?_) | (with_reducible refine stop_at 12 ?_))
    refine ⟨?_⟩
    exact err_t12 w W2 b3 x ls ct _ _ _ _ _ _ _ _ _ _ _ _ _ _ _ _ _ _ _ _ _ _ _ _ _ _ _ _ _ _ _ _ _ _ _ _ _ _ _ _ _ _ _ _ _ _ _ _ _ _ _ _ _ _ _ _ _ _ _ _ _ _ _ _ _ _ _ _ _ _ _ _ _ _ _ _ _ _ _ _ _ _ _ _ _ _ _ _ _ _ _ _ _ _ _ _ _ _ _ _ _ _ _ _ _ _ _ _ _ _ _ _ _ _ _ _ _ _ _ _ _ _ _ _ _ _ _ _ _ _ _ _ _ _ _ _ _ _ _ _ _ _ _ _ _ _ _ _ _ _ _ _ _ _ _ _ _ _ _ _ _ _ _ _ _ _ _ _ _ _ _ _ _ _ _ _ _ _ _ _ _ _ _ _ _ _ _ _ _ _ _ _ _ _ _ _ _ _ _ _ _ _ _ _ _ _ _ _ _ _ _ _ _ _ _ _ _ _ _ _ _ _ _ _ _ _ _ _ _ _ _ _ _ _ _ _ _ _ _ _ _ _ _ _ _ _ _ _ _ _ _ _ _ _ _ _ _ _ _ _ _ _ _ _ _ _ _ _ _ _ _ _ _ _ _ _ _ _ _ _ _ _ _ _ _ _ _ _ _ _ _ _ _ _ _ _ _ _ _ _ _ _ _ _ _ _ _ _ tv p HX.out.2.2.2.2.1 (HX.out.1.trans H2.out) (HX.out.2.1.ext H2.out) (HX.out.2.2.1.ext H2.out) (HX.out.2.2.2.1.ext H2.out)
set_option maxRecDepth 100000 in
set_option maxHeartbeats 16000000 in
theorem iocosErrors_any (w : World) (v1 v2 tv : Value) (x y : Lts) (ls : List Int) (ct : Nat) (hd1 : LtsV w v1 x) (hd2 : LtsV w v2 y) (ht : IntsC w tv ls ct) (hT : Tab w) :
    Calls Tryd.prog 8 #[v1, v2, tv] w fun e w' => e = .returned (.bool true) ∧ Ext w w' := by
  obtain ⟨A, c, rfl, hr, hlen⟩ := id hd1.form
  obtain ⟨B, d, rfl, hr', hlen'⟩ := id hd2.form
  obtain ⟨At, hA, hc, _, hlm⟩ := id ht
  unfold lenMax at hlm
  show Calls Tryd.prog 8 _ w (ErrP w)
  go_enter Tryd.func8, Tryd.ntmps8
  go_upto_region 1 with fail
  refine wp_named ?_
  intro W1 hW1
  have hE1 : Ext w W1 := by rw [hW1]; first | exact ((Ext.refl _).alloc _).alloc _ | exact (((Ext.refl _).alloc _).alloc _).drew
  have k0 : W1.cell? ⟨w.heap.size, 0, none⟩ = some (.int .i64 x.ins) := by rw [hW1]; simp [go_sem]
  have k1 : W1.cell? ⟨w.heap.size, 1, none⟩ = some (.int .i64 x.outs) := by rw [hW1]; simp [go_sem]
  have k2 : W1.cell? ⟨w.heap.size, 2, none⟩ = some (.slice A x.rows.length c) := by rw [hW1]; simp [go_sem]
  have m0 : W1.cell? ⟨w.heap.size + 1, 0, none⟩ = some (.int .i64 y.ins) := by rw [hW1]; simp [go_sem]
  have m1 : W1.cell? ⟨w.heap.size + 1, 1, none⟩ = some (.int .i64 y.outs) := by rw [hW1]; simp [go_sem]
  have m2 : W1.cell? ⟨w.heap.size + 1, 2, none⟩ = some (.slice B y.rows.length d) := by rw [hW1]; simp [go_sem]
  clear hW1
  generalize w.heap.size + 1 = b4 at *
  generalize w.heap.size = b3 at *
  have hX1 : BoxL W1 b3 x := ⟨A, c, k0, k1, k2, hd1.ext hE1⟩
  have hX2 : BoxL W1 b4 y := ⟨B, d, m0, m1, m2, hd2.ext hE1⟩
  have HX := Lib.hid (And.intro hE1 (And.intro (hT.ext hE1) (And.intro hX1 (And.intro hX2 (ht.ext hE1)))))
  have p0 := fun w' (h : Ext W1 w') => h.cell k0
  have p1 := fun w' (h : Ext W1 w') => h.cell k1
  have p2 := fun w' (h : Ext W1 w') => h.cell k2
  have q0 := fun w' (h : Ext W1 w') => h.cell m0
  have q1 := fun w' (h : Ext W1 w') => h.cell m1
  have q2 := fun w' (h : Ext W1 w') => h.cell m2
  have hgx := great_any W1 _ x (hd1.ext hE1)
  have hgy := fun W (e : Ext W1 W) => great_any W _ y (hd2.ext (hE1.trans e))
  have hcx := fun W (e : Ext W1 W) => refCheck_any W _ x (hd1.ext (hE1.trans e))
  have hcy := fun W (e : Ext W1 W) => refCheck_any W _ y (hd2.ext (hE1.trans e))
  have hlv := fun W (e : Ext W1 W) => lives_any W (hT.ext (hE1.trans e))
  have hE0 := Ext.refl W1
  clear hd1 hd2 hr hr' hlen hlen' ht hT k0 k1 k2 m0 m1 m2 hX1 hX2 hE1 hc
  subst hA
  cases hg1 : greatB x with
  | true =>
    rw [hg1, show b01 true = 1 from rfl] at hgx
    clear hg1 hgy hcx hcy
    go_wp2_with (first
      | ((with_reducible refine hgx.mono ?_); rintro e W2 ⟨rfl, e2⟩; have hlv2 := hlv W2 e2)
      | ((with_reducible refine hlv2.mono ?_); rintro e W3 ⟨rfl, e3⟩))
    go_ret
    exact ⟨rfl, HX.out.1.trans (e2.trans e3)⟩
  | false =>
    rw [hg1, show b01 false = 0 from rfl] at hgx
    clear hg1
    cases hg2 : greatB y with
    | true =>
      rw [hg2, show b01 true = 1 from rfl] at hgy
      clear hg2 hcx hcy
      go_wp2_with (first
        | ((with_reducible refine hgx.mono ?_); rintro e W2 ⟨rfl, e2⟩; have hgy2 := hgy W2 e2; have q0 := fun w' (h : Ext W2 w') => q0 w' (e2.trans h); have q1 := fun w' (h : Ext W2 w') => q1 w' (e2.trans h); have q2 := fun w' (h : Ext W2 w') => q2 w' (e2.trans h); have hE2 := Ext.refl W2)
        | ((with_reducible refine hgy2.mono ?_); rintro e W3 ⟨rfl, e3⟩; have hlv3 := hlv W3 (e2.trans e3))
        | ((with_reducible refine hlv3.mono ?_); rintro e W4 ⟨rfl, e4⟩))
      go_ret
      exact ⟨rfl, HX.out.1.trans (e2.trans (e3.trans e4))⟩
    | false =>
      rw [hg2, show b01 false = 0 from rfl] at hgy
      clear hg2
      by_cases hl : 300 < ls.length
      · have hI : (300 : Int) < (ls.length : Int) := by omega
        clear hcx hcy
        go_wp2_with (first
          | ((with_reducible refine hgx.mono ?_); rintro e W2 ⟨rfl, e2⟩; have hgy2 := hgy W2 e2; have q0 := fun w' (h : Ext W2 w') => q0 w' (e2.trans h); have q1 := fun w' (h : Ext W2 w') => q1 w' (e2.trans h); have q2 := fun w' (h : Ext W2 w') => q2 w' (e2.trans h); have hE2 := Ext.refl W2)
          | ((with_reducible refine hgy2.mono ?_); rintro e W3 ⟨rfl, e3⟩; have hlv3 := hlv W3 (e2.trans e3))
          | ((with_reducible refine hlv3.mono ?_); rintro e W4 ⟨rfl, e4⟩))
        go_ret
        exact ⟨rfl, HX.out.1.trans (e2.trans (e3.trans e4))⟩
      · have hI : ¬ (300 : Int) < (ls.length : Int) := by omega
        clear hlv
        go_upto_region 3 with (first
          | ((with_reducible refine hgx.mono ?_); rintro e W2 ⟨rfl, e2⟩; have hgy2 := hgy W2 e2; have q0 := fun w' (h : Ext W2 w') => q0 w' (e2.trans h); have q1 := fun w' (h : Ext W2 w') => q1 w' (e2.trans h); have q2 := fun w' (h : Ext W2 w') => q2 w' (e2.trans h); have hE2 := Ext.refl W2)
          | ((with_reducible refine hgy2.mono ?_); rintro e W3 ⟨rfl, e3⟩))
        have e13 := e2.trans e3
        have hcx3 := hcx W3 e13
        have p0 := fun w' (h : Ext W3 w') => p0 w' (e13.trans h)
        have p1 := fun w' (h : Ext W3 w') => p1 w' (e13.trans h)
        have p2 := fun w' (h : Ext W3 w') => p2 w' (e13.trans h)
        have q0 := fun w' (h : Ext W3 w') => q0 w' (e3.trans h)
        have q1 := fun w' (h : Ext W3 w') => q1 w' (e3.trans h)
        have q2 := fun w' (h : Ext W3 w') => q2 w' (e3.trans h)
        have hcy := fun W (e : Ext W3 W) => hcy W (e13.trans e)
        have hE3 := Ext.refl W3
        have H13 := Lib.hid e13
        clear hgx hgy hgy2 hcx e2 e3 e13 hE2 hE0 hI hl
        have HB : Hid (bothR x y = if checkI x ≠ 0 then checkI x else if checkI y ≠ 0 then checkI y else if x.ins ≠ y.ins ∨ x.outs ≠ y.outs then 5 else 0) := Lib.hid rfl
        by_cases hp : checkI x = 0
        · rw [hp] at hcx3
          by_cases hr : checkI y = 0
          · rw [hr] at hcy
            have HB : Hid (bothR x y = if x.ins ≠ y.ins ∨ x.outs ≠ y.outs then 5 else 0) := Lib.hid (by rw [HB.out, if_neg (by simpa using hp), if_neg (by simpa using hr)])
            by_cases hi : x.ins = y.ins
            · by_cases ho : x.outs = y.outs
              · have HP : Hid (checkI x = 0 ∧ bothR x y = 0) := Lib.hid ⟨hp, by rw [HB.out, if_neg (by simp [hi, ho])]⟩
                have g1 : (x.ins != y.ins) = false := by simp [hi]
                have g2 : (x.outs != y.outs) = false := by simp [ho]
                clear hp hr hi ho
                go_upto_region 999 with (first
                  | ((with_reducible refine hcx3.mono ?_); rintro e W4 ⟨rfl, e4⟩; have hcy4 := hcy W4 e4; have E4 := e4; have hE4 := Ext.refl W4; have q0 := fun w' (h : Ext W4 w') => q0 w' (e4.trans h); have q1 := fun w' (h : Ext W4 w') => q1 w' (e4.trans h); have q2 := fun w' (h : Ext W4 w') => q2 w' (e4.trans h))
                  | ((with_reducible refine hcy4.mono ?_); rintro e W5 ⟨rfl, e5⟩; have H2 := Lib.hid (H13.out.trans (E4.trans e5)); have p0 := fun w' (h : Ext W5 w') => p0 w' (E4.trans (e5.trans h)); have p1 := fun w' (h : Ext W5 w') => p1 w' (E4.trans (e5.trans h)); have q0 := fun w' (h : Ext W5 w') => q0 w' (e5.trans h); have q1 := fun w' (h : Ext W5 w') => q1 w' (e5.trans h); have hE5 := Ext.refl W5)
                  | (with_reducible refine stop_at2 9 ?_) | (with_reducible refine stop_at 9 ?_))
                refine ⟨?_⟩
                exact err_t9 w W5 b3 b4 x y ls ct _ _ _ _ _ _ _ _ _ _ _ _ _ _ _ _ _ _ _ _ _ _ _ _ _ _ _ _ _ _ _ _ _ _ _ _ _ _ _ _ _ _ _ _ _ _ _ _ _ _ _ _ _ _ _ _ _ _ _ _ _ _ _ _ _ _ _ _ _ _ _ _ _ _ _ _ _ _ _ _ _ _ _ _ _ _ _ _ _ _ _ _ _ _ _ _ _ _ _ _ _ _ _ _ _ _ _ _ _ _ _ _ _ _ _ _ _ _ _ _ _ _ _ _ _ _ _ _ _ _ _ _ _ _ _ _ _ _ _ _ _ _ _ _ _ _ _ _ _ _ _ _ _ _ _ _ _ _ _ _ _ _ _ _ _ _ _ _ _ _ _ _ _ _ _ _ _ _ _ _ _ _ _ _ _ _ _ _ _ _ _ _ _ _ _ _ _ _ _ _ _ _ _ _ _ _ _ _ _ _ _ _ _ _ _ _ _ _ _ _ _ _ _ _ _ _ _ _ _ _ _ _ _ _ _ _ _ _ _ _ _ _ _ _ _ _ _ _ _ _ _ _ _ _ _ _ _ _ _ _ _ _ _ _ _ _ _ _ _ _ _ _ _ _ _ _ _ _ _ _ _ _ _ _ _ _ _ _ _ _ _ _ _ _ _ _ _ _ _ _ _ _ _ _ _ _ _ 0 0 HP.out.1 HP.out.2 (HX.out.1.trans H2.out) (HX.out.2.1.ext H2.out) (HX.out.2.2.1.ext H2.out) (HX.out.2.2.2.1.ext H2.out) (HX.out.2.2.2.2.ext H2.out)
              · have HP : Hid (checkI x = 0 ∧ bothR x y = 5) := Lib.hid ⟨hp, by rw [HB.out, if_pos (.inr ho)]⟩
                have g1 : (x.ins != y.ins) = false := by simp [hi]
                have g2 : (x.outs != y.outs) = true := by simp [ho]
                clear hp hr hi ho
                go_upto_region 999 with (first
                  | ((with_reducible refine hcx3.mono ?_); rintro e W4 ⟨rfl, e4⟩; have hcy4 := hcy W4 e4; have E4 := e4; have hE4 := Ext.refl W4; have q0 := fun w' (h : Ext W4 w') => q0 w' (e4.trans h); have q1 := fun w' (h : Ext W4 w') => q1 w' (e4.trans h); have q2 := fun w' (h : Ext W4 w') => q2 w' (e4.trans h))
                  | ((with_reducible refine hcy4.mono ?_); rintro e W5 ⟨rfl, e5⟩; have H2 := Lib.hid (H13.out.trans (E4.trans e5)); have p0 := fun w' (h : Ext W5 w') => p0 w' (E4.trans (e5.trans h)); have p1 := fun w' (h : Ext W5 w') => p1 w' (E4.trans (e5.trans h)); have q0 := fun w' (h : Ext W5 w') => q0 w' (e5.trans h); have q1 := fun w' (h : Ext W5 w') => q1 w' (e5.trans h); have hE5 := Ext.refl W5)
                  | (with_reducible refine stop_at2 9 ?_) | (with_reducible refine stop_at 9 ?_))
                refine ⟨?_⟩
                exact err_t9 w W5 b3 b4 x y ls ct _ _ _ _ _ _ _ _ _ _ _ _ _ _ _ _ _ _ _ _ _ _ _ _ _ _ _ _ _ _ _ _ _ _ _ _ _ _ _ _ _ _ _ _ _ _ _ _ _ _ _ _ _ _ _ _ _ _ _ _ _ _ _ _ _ _ _ _ _ _ _ _ _ _ _ _ _ _ _ _ _ _ _ _ _ _ _ _ _ _ _ _ _ _ _ _ _ _ _ _ _ _ _ _ _ _ _ _ _ _ _ _ _ _ _ _ _ _ _ _ _ _ _ _ _ _ _ _ _ _ _ _ _ _ _ _ _ _ _ _ _ _ _ _ _ _ _ _ _ _ _ _ _ _ _ _ _ _ _ _ _ _ _ _ _ _ _ _ _ _ _ _ _ _ _ _ _ _ _ _ _ _ _ _ _ _ _ _ _ _ _ _ _ _ _ _ _ _ _ _ _ _ _ _ _ _ _ _ _ _ _ _ _ _ _ _ _ _ _ _ _ _ _ _ _ _ _ _ _ _ _ _ _ _ _ _ _ _ _ _ _ _ _ _ _ _ _ _ _ _ _ _ _ _ _ _ _ _ _ _ _ _ _ _ _ _ _ _ _ _ _ _ _ _ _ _ _ _ _ _ _ _ _ _ _ _ _ _ _ _ _ _ _ _ _ _ _ _ _ _ _ _ _ _ _ _ _ 0 5 HP.out.1 HP.out.2 (HX.out.1.trans H2.out) (HX.out.2.1.ext H2.out) (HX.out.2.2.1.ext H2.out) (HX.out.2.2.2.1.ext H2.out) (HX.out.2.2.2.2.ext H2.out)
            · have HP : Hid (checkI x = 0 ∧ bothR x y = 5) := Lib.hid ⟨hp, by rw [HB.out, if_pos (.inl hi)]⟩
              have g1 : (x.ins != y.ins) = true := by simp [hi]
              clear hp hr hi
              go_upto_region 999 with (first
                | ((with_reducible refine hcx3.mono ?_); rintro e W4 ⟨rfl, e4⟩; have hcy4 := hcy W4 e4; have E4 := e4; have hE4 := Ext.refl W4; have q0 := fun w' (h : Ext W4 w') => q0 w' (e4.trans h); have q1 := fun w' (h : Ext W4 w') => q1 w' (e4.trans h); have q2 := fun w' (h : Ext W4 w') => q2 w' (e4.trans h))
                | ((with_reducible refine hcy4.mono ?_); rintro e W5 ⟨rfl, e5⟩; have H2 := Lib.hid (H13.out.trans (E4.trans e5)); have p0 := fun w' (h : Ext W5 w') => p0 w' (E4.trans (e5.trans h)); have p1 := fun w' (h : Ext W5 w') => p1 w' (E4.trans (e5.trans h)); have q0 := fun w' (h : Ext W5 w') => q0 w' (e5.trans h); have q1 := fun w' (h : Ext W5 w') => q1 w' (e5.trans h); have hE5 := Ext.refl W5)
                | (with_reducible refine stop_at2 9 ?_) | (with_reducible refine stop_at 9 ?_))
              refine ⟨?_⟩
              exact err_t9 w W5 b3 b4 x y ls ct _ _ _ _ _ _ _ _ _ _ _ _ _ _ _ _ _ _ _ _ _ _ _ _ _ _ _ _ _ _ _ _ _ _ _ _ _ _ _ _ _ _ _ _ _ _ _ _ _ _ _ _ _ _ _ _ _ _ _ _ _ _ _ _ _ _ _ _ _ _ _ _ _ _ _ _ _ _ _ _ _ _ _ _ _ _ _ _ _ _ _ _ _ _ _ _ _ _ _ _ _ _ _ _ _ _ _ _ _ _ _ _ _ _ _ _ _ _ _ _ _ _ _ _ _ _ _ _ _ _ _ _ _ _ _ _ _ _ _ _ _ _ _ _ _ _ _ _ _ _ _ _ _ _ _ _ _ _ _ _ _ _ _ _ _ _ _ _ _ _ _ _ _ _ _ _ _ _ _ _ _ _ _ _ _ _ _ _ _ _ _ _ _ _ _ _ _ _ _ _ _ _ _ _ _ _ _ _ _ _ _ _ _ _ _ _ _ _ _ _ _ _ _ _ _ _ _ _ _ _ _ _ _ _ _ _ _ _ _ _ _ _ _ _ _ _ _ _ _ _ _ _ _ _ _ _ _ _ _ _ _ _ _ _ _ _ _ _ _ _ _ _ _ _ _ _ _ _ _ _ _ _ _ _ _ _ _ _ _ _ _ _ _ _ _ _ _ _ _ _ _ _ _ _ _ _ _ 0 5 HP.out.1 HP.out.2 (HX.out.1.trans H2.out) (HX.out.2.1.ext H2.out) (HX.out.2.2.1.ext H2.out) (HX.out.2.2.2.1.ext H2.out) (HX.out.2.2.2.2.ext H2.out)
          · have HP : Hid (checkI x = 0 ∧ bothR x y = checkI y) := Lib.hid ⟨hp, by rw [HB.out, if_neg (by simpa using hp), if_pos hr]⟩
            have g1 : (checkI y == 0) = false := by simp [hr]
            clear hp hr HB
            generalize checkI y = r at *
            go_upto_region 999 with (first
              | ((with_reducible refine hcx3.mono ?_); rintro e W4 ⟨rfl, e4⟩; have hcy4 := hcy W4 e4; have E4 := e4; have hE4 := Ext.refl W4; have q0 := fun w' (h : Ext W4 w') => q0 w' (e4.trans h); have q1 := fun w' (h : Ext W4 w') => q1 w' (e4.trans h); have q2 := fun w' (h : Ext W4 w') => q2 w' (e4.trans h))
              | ((with_reducible refine hcy4.mono ?_); rintro e W5 ⟨rfl, e5⟩; have H2 := Lib.hid (H13.out.trans (E4.trans e5)))
              | (with_reducible refine stop_at2 9 ?_) | (with_reducible refine stop_at 9 ?_))
            refine ⟨?_⟩
            exact err_t9 w W5 b3 b4 x y ls ct _ _ _ _ _ _ _ _ _ _ _ _ _ _ _ _ _ _ _ _ _ _ _ _ _ _ _ _ _ _ _ _ _ _ _ _ _ _ _ _ _ _ _ _ _ _ _ _ _ _ _ _ _ _ _ _ _ _ _ _ _ _ _ _ _ _ _ _ _ _ _ _ _ _ _ _ _ _ _ _ _ _ _ _ _ _ _ _ _ _ _ _ _ _ _ _ _ _ _ _ _ _ _ _ _ _ _ _ _ _ _ _ _ _ _ _ _ _ _ _ _ _ _ _ _ _ _ _ _ _ _ _ _ _ _ _ _ _ _ _ _ _ _ _ _ _ _ _ _ _ _ _ _ _ _ _ _ _ _ _ _ _ _ _ _ _ _ _ _ _ _ _ _ _ _ _ _ _ _ _ _ _ _ _ _ _ _ _ _ _ _ _ _ _ _ _ _ _ _ _ _ _ _ _ _ _ _ _ _ _ _ _ _ _ _ _ _ _ _ _ _ _ _ _ _ _ _ _ _ _ _ _ _ _ _ _ _ _ _ _ _ _ _ _ _ _ _ _ _ _ _ _ _ _ _ _ _ _ _ _ _ _ _ _ _ _ _ _ _ _ _ _ _ _ _ _ _ _ _ _ _ _ _ _ _ _ _ _ _ _ _ _ _ _ _ _ _ _ _ _ _ _ _ _ _ _ _ 0 r HP.out.1 HP.out.2 (HX.out.1.trans H2.out) (HX.out.2.1.ext H2.out) (HX.out.2.2.1.ext H2.out) (HX.out.2.2.2.1.ext H2.out) (HX.out.2.2.2.2.ext H2.out)
        · have HP : Hid (checkI x = checkI x ∧ bothR x y = checkI x) := Lib.hid ⟨rfl, by rw [HB.out, if_pos hp]⟩
          have g1 : (checkI x == 0) = false := by simp [hp]
          have HQ := Lib.hid HP.out.1
          clear hp HB hcy
          generalize hpp : checkI x = p at *
          have HPP := Lib.hid hpp
          clear hpp
          go_upto_region 999 with (first
            | ((with_reducible refine hcx3.mono ?_); rintro e W4 ⟨rfl, e4⟩; have H2 := Lib.hid (H13.out.trans e4))
            | (with_reducible refine stop_at2 9 ?_) | (with_reducible refine stop_at 9 ?_))
          refine ⟨?_⟩
          exact err_t9 w W4 b3 b4 x y ls ct _ _ _ _ _ _ _ _ _ _ _ _ _ _ _ _ _ _ _ _ _ _ _ _ _ _ _ _ _ _ _ _ _ _ _ _ _ _ _ _ _ _ _ _ _ _ _ _ _ _ _ _ _ _ _ _ _ _ _ _ _ _ _ _ _ _ _ _ _ _ _ _ _ _ _ _ _ _ _ _ _ _ _ _ _ _ _ _ _ _ _ _ _ _ _ _ _ _ _ _ _ _ _ _ _ _ _ _ _ _ _ _ _ _ _ _ _ _ _ _ _ _ _ _ _ _ _ _ _ _ _ _ _ _ _ _ _ _ _ _ _ _ _ _ _ _ _ _ _ _ _ _ _ _ _ _ _ _ _ _ _ _ _ _ _ _ _ _ _ _ _ _ _ _ _ _ _ _ _ _ _ _ _ _ _ _ _ _ _ _ _ _ _ _ _ _ _ _ _ _ _ _ _ _ _ _ _ _ _ _ _ _ _ _ _ _ _ _ _ _ _ _ _ _ _ _ _ _ _ _ _ _ _ _ _ _ _ _ _ _ _ _ _ _ _ _ _ _ _ _ _ _ _ _ _ _ _ _ _ _ _ _ _ _ _ _ _ _ _ _ _ _ _ _ _ _ _ _ _ _ _ _ _ _ _ _ _ _ _ _ _ _ _ _ _ _ _ _ _ _ _ _ _ _ _ _ _ p p HPP.out HP.out.2 (HX.out.1.trans H2.out) (HX.out.2.1.ext H2.out) (HX.out.2.2.1.ext H2.out) (HX.out.2.2.2.1.ext H2.out) (HX.out.2.2.2.2.ext H2.out)
end Go.Proofs.YtamodjlifpjaoaaDoor
