/-     -/
import Derived.Test.YtmebgomnmlbgnaaDoorZJ
import Derived.Test.YtmebgomnmlbgnaaDoorZM
import Derived.Test.YtmebgomnmlbgnaaDoorZX
import Derived.Test.YtmebgomnmlbgnaaDoorZW
import Derived.Test.YtmebgomnmlbgnaaDoorZF
import Derived.Test.YtmebgomnmlbgnaaDoorZS
set_option linter.unnecessarySimpa false
set_option linter.unusedSectionVars false
namespace Go.Proofs.YtmebgomnmlbgnaaDoor
def bs (l : List UInt8) : ByteArray := ⟨l.toArray⟩
def xA : Rx := .sym 0
def xB : Rx := .sym 1
def xAB : Rx := .or xA xB
def x1 : Rx := .or xA (.and xB (.seq xA (.star xB)))
def x2 : Rx := .seq (.seq (.star xAB) xA) xB
def x4 : Rx := .not (.star xA)
def x5 : Rx := .star (.not xA)
def y2 : Rx := .not (.seq xA xB)
def y3 : Rx := .and xA xB
def y4 : Rx := .seq xA xA
def z1 : Rx := .not (.seq (.star xA) xB)
def e1 : Rx := .not xAB
def e2 : Rx := .and (.not xA) (.not xB)
def e3 : Rx := .seq (.star xA) (.star xA)
def e4 : Rx := .star xA
def e5 : Rx := .seq xA xB
def e6 : Rx := .seq xB xA
set_option maxRecDepth 100000 in
theorem pa_x1 : parA ⟨#[97, 124, 98, 38, 97, 98, 42]⟩ 2 = .tree x1 := by kernel_rfl
set_option maxRecDepth 100000 in
theorem pa_x2 : parA ⟨#[40, 97, 124, 98, 41, 42, 97, 98]⟩ 2 = .tree x2 := by kernel_rfl
set_option maxRecDepth 100000 in
theorem pa_xA : parA ⟨#[40, 40, 97, 41, 41]⟩ 2 = .tree xA := by kernel_rfl
set_option maxRecDepth 100000 in
theorem pa_x4 : parA ⟨#[126, 97, 42]⟩ 2 = .tree x4 := by kernel_rfl
set_option maxRecDepth 100000 in
theorem pa_x5 : parA ⟨#[40, 126, 97, 41, 42]⟩ 2 = .tree x5 := by kernel_rfl
set_option maxRecDepth 100000 in
theorem pa_y2 : parA ⟨#[126, 40, 97, 98, 41]⟩ 2 = .tree y2 := by kernel_rfl
set_option maxRecDepth 100000 in
theorem pa_y3 : parA ⟨#[97, 38, 98]⟩ 2 = .tree y3 := by kernel_rfl
set_option maxRecDepth 100000 in
theorem pa_y4 : parA ⟨#[97, 97]⟩ 2 = .tree y4 := by kernel_rfl
set_option maxRecDepth 100000 in
theorem pa_z1 : parA ⟨#[126, 40, 97, 42, 98, 41]⟩ 2 = .tree z1 := by kernel_rfl
set_option maxRecDepth 100000 in
theorem pa_e1 : parA ⟨#[126, 40, 97, 124, 98, 41]⟩ 2 = .tree e1 := by kernel_rfl
set_option maxRecDepth 100000 in
theorem pa_e2 : parA ⟨#[126, 97, 38, 126, 98]⟩ 2 = .tree e2 := by kernel_rfl
set_option maxRecDepth 100000 in
theorem pa_e3 : parA ⟨#[97, 42, 97, 42]⟩ 2 = .tree e3 := by kernel_rfl
set_option maxRecDepth 100000 in
theorem pa_e4 : parA ⟨#[97, 42]⟩ 2 = .tree e4 := by kernel_rfl
set_option maxRecDepth 100000 in
theorem pa_e5 : parA ⟨#[97, 98]⟩ 2 = .tree e5 := by kernel_rfl
set_option maxRecDepth 100000 in
theorem pa_e6 : parA ⟨#[98, 97]⟩ 2 = .tree e6 := by kernel_rfl
set_option maxRecDepth 100000 in
theorem pb_0 : parA ⟨#[]⟩ 2 = .err 4 0 := by kernel_rfl
set_option maxRecDepth 100000 in
theorem pb_1 : parA ⟨#[97, 124]⟩ 2 = .err 4 2 := by kernel_rfl
set_option maxRecDepth 100000 in
theorem pb_2 : parA ⟨#[99]⟩ 2 = .err 4 0 := by kernel_rfl
set_option maxRecDepth 100000 in
theorem pb_3 : parA ⟨#[97, 32, 98]⟩ 2 = .err 4 1 := by kernel_rfl
set_option maxRecDepth 100000 in
theorem pb_4 : parA ⟨#[42]⟩ 2 = .err 4 0 := by kernel_rfl
set_option maxRecDepth 100000 in
theorem pb_5 : parA ⟨#[40, 97]⟩ 2 = .err 4 2 := by kernel_rfl
set_option maxRecDepth 100000 in
theorem wr_x1 : wrB x1 0 = ⟨#[97, 124, 98, 38, 97, 98, 42]⟩ := by kernel_rfl
set_option maxRecDepth 100000 in
theorem wr_x2 : wrB x2 0 = ⟨#[40, 97, 124, 98, 41, 42, 97, 98]⟩ := by kernel_rfl
set_option maxRecDepth 100000 in
theorem wr_xA : wrB xA 0 = ⟨#[97]⟩ := by kernel_rfl
set_option maxRecDepth 100000 in
theorem wr_x4 : wrB x4 0 = ⟨#[126, 97, 42]⟩ := by kernel_rfl
set_option maxRecDepth 100000 in
theorem wr_x5 : wrB x5 0 = ⟨#[40, 126, 97, 41, 42]⟩ := by kernel_rfl
set_option maxRecDepth 100000 in
theorem wd_x2 : wrB (derR 0 x2) 0 = ⟨#[40, 40, 97, 124, 98, 41, 42, 97, 124, 49, 41, 98]⟩ := by kernel_rfl
set_option maxRecDepth 100000 in
theorem cd_x2 : decide ((derR 0 x2).cnt ≤ 64) = true := by kernel_rfl
set_option maxRecDepth 100000 in
theorem od_x2 : (derR 0 x2).okS 2 = true := by kernel_rfl
set_option maxRecDepth 100000 in
theorem wd_y2 : wrB (derR 0 y2) 0 = ⟨#[126, 98]⟩ := by kernel_rfl
set_option maxRecDepth 100000 in
theorem cd_y2 : decide ((derR 0 y2).cnt ≤ 64) = true := by kernel_rfl
set_option maxRecDepth 100000 in
theorem od_y2 : (derR 0 y2).okS 2 = true := by kernel_rfl
set_option maxRecDepth 100000 in
theorem wd_y3 : wrB (derR 0 y3) 0 = ⟨#[48]⟩ := by kernel_rfl
set_option maxRecDepth 100000 in
theorem cd_y3 : decide ((derR 0 y3).cnt ≤ 64) = true := by kernel_rfl
set_option maxRecDepth 100000 in
theorem od_y3 : (derR 0 y3).okS 2 = true := by kernel_rfl
set_option maxRecDepth 100000 in
theorem wd_y4 : wrB (derR 1 y4) 0 = ⟨#[48]⟩ := by kernel_rfl
set_option maxRecDepth 100000 in
theorem cd_y4 : decide ((derR 1 y4).cnt ≤ 64) = true := by kernel_rfl
set_option maxRecDepth 100000 in
theorem od_y4 : (derR 1 y4).okS 2 = true := by kernel_rfl
set_option maxRecDepth 100000 in
theorem ma_1 : matR [0, 1] z1 = false := by kernel_rfl
set_option maxRecDepth 100000 in
theorem ma_2 : matR [1, 0] z1 = true := by kernel_rfl
set_option maxRecDepth 100000 in
theorem ma_3 : matR [] z1 = true := by kernel_rfl
set_option maxRecDepth 100000 in
theorem wc_1 : wordC [0, 1] 2 = 0 := by kernel_rfl
set_option maxRecDepth 100000 in
theorem wc_2 : wordC [1, 0] 2 = 0 := by kernel_rfl
set_option maxRecDepth 100000 in
theorem wc_3 : wordC [] 2 = 0 := by kernel_rfl
set_option maxRecDepth 100000 in
theorem da_x2 : dfaR 2 x2 = some ⟨[[1, 0], [1, 2], [1, 0]], [false, false, true]⟩ := by kernel_rfl
set_option maxRecDepth 100000 in
theorem eq_1 : eqR 2 e1 e2 = (true, 0) := by kernel_rfl
set_option maxRecDepth 100000 in
theorem eq_2 : eqR 2 e3 e4 = (true, 0) := by kernel_rfl
set_option maxRecDepth 100000 in
theorem eq_3 : eqR 2 e5 e6 = (false, 0) := by kernel_rfl
end Go.Proofs.YtmebgomnmlbgnaaDoor

namespace Go.Proofs.YtmebgomnmlbgnaaDoor
open Go.RowKit Go.Maps
set_option linter.unusedVariables false
set_option linter.unusedSimpArgs false
attribute [local go_sem] Oper.quietV quietV Oper.gives givesV ext_refl_iff ext_alloc_iff ext_drew_iff ext_drewN_iff
abbrev nd3 (t : Tr) (A : Option Addr) (c : Nat) : Value := .agg #[.int .u8 (t.op : Int), .int .i64 t.n, .slice A t.subs.length c]
set_option maxRecDepth 100000 in
theorem read_ok (s : ByteArray) (r : Rx) (hp : parA s 2 = .tree r) (hs : s.size ≤ 1000) (w : World) : Calls Tryd.prog 38 #[.string s] w (fun e w' => ∃ A c, e = .returned (nd3 r.tr A c) ∧ NodeV w' r.tr (nd3 r.tr A c) ∧ Ext w w') := by
  obtain ⟨t, ht⟩ : ∃ t, t = r.tr := ⟨_, rfl⟩
  have hst : Calls Tryd.prog 28 #[.string s, .int .i64 2] (w.alloc (.cells #[.int .u8 0, .int .i64 0, .slice none 0 0] 35)) (fun e w' => ∃ A c, e = .returned (.tuple #[.agg #[.int .u8 (t.op : Int), .int .i64 t.n, .slice A t.subs.length c], .int .i64 0, .int .i64 0]) ∧ NodeB (butS (fun _ => True) w.heap.size) false w' t (.agg #[.int .u8 (t.op : Int), .int .i64 t.n, .slice A t.subs.length c]) ∧ Ext (w.alloc (.cells #[.int .u8 0, .int .i64 0, .slice none 0 0] 35)) w') := by
    have h := parse_any (S := butS (fun _ => True) w.heap.size) (w := w.alloc (.cells #[.int .u8 0, .int .i64 0, .slice none 0 0] 35)) (s := s) (sy := 2) (fun b hb => ⟨trivial, by simp at hb; omega⟩) (by omega)
    rw [hp] at h
    rw [ht]
    exact h
  rw [← ht]
  show Calls Tryd.prog 38 #[.string s] w (fun e w' => ∃ A c, e = .returned (.agg #[.int .u8 (t.op : Int), .int .i64 t.n, .slice A t.subs.length c]) ∧ NodeV w' t (.agg #[.int .u8 (t.op : Int), .int .i64 t.n, .slice A t.subs.length c]) ∧ Ext w w')
  generalize t.op = o at *
  generalize t.n = n at *
  generalize t.subs.length = l at *
  clear ht hp
  go_enter Tryd.func38, Tryd.ntmps38
  go_upto_region 1 with fail
  refine wp_named ?_
  intro W1 hW1
  rw [← hW1] at hst
  have hE1 : Ext w W1 := by rw [hW1]; exact alloc_ext _ _
  have hB2 : W1.heap[w.heap.size]? = some (.cells #[.int .u8 0, .int .i64 0, .slice none 0 0] 35) := by rw [hW1]; exact heap_alloc_new _ _
  have HB := Lib.hid (And.intro hE1 hB2)
  clear hW1 hE1 hB2
  go_upto_region 2 with ((with_reducible refine hst.mono ?_); rintro e W8 ⟨A, c, rfl, hN, e8⟩)
  refine wp_named ?_
  intro W9 hW9
  have h9 : W9.heap[W8.heap.size]? = some (.cells #[.int .u8 (o : Int), .int .i64 n, .slice A l c] 35) := by rw [hW9]; exact heap_alloc_new _ _
  have e9 : Ext W8 W9 := by rw [hW9]; exact alloc_ext _ _
  have H9 := Lib.hid (And.intro e9 hN)
  clear hW9 e9 hN hst
  go_wp2_with (first
    | (with_reducible refine wpList_load_row rfl 35 _ rfl W8.heap.size rfl 35 _ (0, 0) _ h9 Tryd.underlying35 rfl (by kernel_rfl) ?_)
    | (with_reducible refine wpList_store_blk _ rfl 35 _ _ rfl w.heap.size 35 #[.int .u8 (o : Int), .int .i64 n, .slice A l c] _ rfl rfl (heap_ext (e8.trans H9.out.1) HB.out.2) (by kernel_rfl) (by kernel_rfl) (by kernel_rfl) ?_; intro w10 h10 g10))
  refine bodyPost_ret (results_cell_row rfl _ _ w.heap.size 35 _ (0, 0) _ (by simp [Act.put]) h10 Tryd.underlying35 rfl (by kernel_rfl)) rfl ?_
  have hE9 := HB.out.1.trans (e8.trans H9.out.1)
  exact ⟨A, c, by simp [Act.put], ((H9.out.2.ext H9.out.1).past g10).node, Below.grown hE9 g10 hE9.size (fun k hk => by cases hk; exact Nat.le_refl _)⟩
noncomputable def T16 (n : Nat) : Code := textR n Tryd.f16.body
def LivP (w : World) (e : Ending) (w' : World) : Prop := e = .returned (.bool true) ∧ Ext w w'
end Go.Proofs.YtmebgomnmlbgnaaDoor

namespace Go.Proofs.YtmebgomnmlbgnaaDoor
open Go.RowKit Go.Maps
set_option linter.unusedVariables false
set_option linter.unusedSimpArgs false
attribute [local go_sem] Oper.quietV quietV Oper.gives givesV ext_refl_iff ext_alloc_iff ext_drew_iff ext_drewN_iff
theorem eq_lit {w : World} {v v' : Value} {r s : Rx} {b : Bool} (h : eqR 2 r s = (b, 0)) (hN : NodeV w r.tr v) (hN' : NodeV w s.tr v') (hT : Tabs w) (o1 : r.okS 2 = true) (c1 : r.cnt ≤ 64) (o2 : s.okS 2 = true) (c2 : s.cnt ≤ 64) : Calls Tryd.prog 31 #[v, v', .int .i64 2] w (fun e w' => e = .returned (.tuple #[.bool b, .int .i64 0]) ∧ Ext w w') := by
  have h1 := equal_ok (m := 2) hN hN' hT ⟨by omega, by omega⟩ ⟨⟨o1, c1⟩, ⟨o2, c2⟩⟩
  rw [h] at h1
  exact h1
set_option maxRecDepth 100000 in
set_option maxHeartbeats 16000000 in
theorem live_t31 (w W : World) (c0 c1 c2 c3 c4 c5 c6 c7 c8 c9 c10 c11 c12 c13 c14 c15 c16 c17 c18 c19 c20 c21 c22 c23 c24 c25 c26 c27 c28 c29 c30 c31 c32 c33 c34 c35 c36 c37 c38 c39 c40 c41 c42 c43 c44 c45 c46 c47 c48 c49 c50 c51 c52 c53 c54 c55 c56 c57 c58 c59 c60 c61 c62 c63 c64 c65 c66 c67 c68 c69 c70 c71 c72 c73 c74 c75 c76 c77 c78 c79 c80 c81 c82 c83 c84 c85 c86 c87 c88 c89 c90 c91 c92 c93 c94 c95 c96 c97 c98 c99 c100 c101 c102 c103 c104 c105 c106 c107 c108 c109 c110 c111 c112 c113 c114 c115 c116 c117 c118 c119 c120 c121 c122 c123 c124 c125 c126 c127 c128 c129 c130 c131 c132 c133 c134 c135 c136 c137 c138 c139 c140 c141 c142 c143 c144 c145 c146 c147 c148 c149 c150 c151 c152 c153 c154 c155 c156 c157 c158 c159 c160 c161 c162 c163 c164 c165 c166 c167 c168 c169 c170 c171 c172 c173 c174 c175 c176 c177 c178 c179 c180 c181 c182 c183 c184 c185 c186 c187 c188 c189 c190 c191 c192 c193 c194 c195 c196 c197 c198 c199 c200 c201 c202 c203 c204 c205 c206 c207 c208 c209 c210 c211 c212 c213 c214 c215 c216 c217 c218 c219 c220 c221 c222 c223 : Value) (hE : Ext w W) (hT : Tabs W) :
    Code.wp Tryd.prog (T16 31) (bodyPost Tryd.prog Tryd.f16 (LivP w)) ⟨(c0 :: c1 :: c2 :: c3 :: c4 :: c5 :: c6 :: c7 :: c8 :: c9 :: c10 :: c11 :: c12 :: c13 :: c14 :: c15 :: c16 :: c17 :: c18 :: c19 :: c20 :: c21 :: c22 :: c23 :: c24 :: c25 :: c26 :: c27 :: c28 :: c29 :: c30 :: c31 :: c32 :: c33 :: c34 :: c35 :: c36 :: c37 :: c38 :: c39 :: c40 :: c41 :: c42 :: c43 :: c44 :: c45 :: c46 :: c47 :: c48 :: c49 :: c50 :: c51 :: c52 :: c53 :: c54 :: c55 :: c56 :: c57 :: c58 :: c59 :: c60 :: c61 :: c62 :: c63 :: c64 :: c65 :: c66 :: c67 :: c68 :: c69 :: c70 :: c71 :: c72 :: c73 :: c74 :: c75 :: c76 :: c77 :: c78 :: c79 :: c80 :: c81 :: c82 :: c83 :: c84 :: c85 :: c86 :: c87 :: c88 :: c89 :: c90 :: c91 :: c92 :: c93 :: c94 :: c95 :: c96 :: c97 :: c98 :: c99 :: c100 :: c101 :: c102 :: c103 :: c104 :: c105 :: c106 :: c107 :: c108 :: c109 :: c110 :: c111 :: c112 :: c113 :: c114 :: c115 :: c116 :: c117 :: c118 :: c119 :: c120 :: c121 :: c122 :: c123 :: c124 :: c125 :: c126 :: c127 :: c128 :: c129 :: c130 :: c131 :: c132 :: c133 :: c134 :: c135 :: c136 :: c137 :: c138 :: c139 :: c140 :: c141 :: c142 :: c143 :: c144 :: c145 :: c146 :: c147 :: c148 :: c149 :: c150 :: c151 :: c152 :: c153 :: c154 :: c155 :: c156 :: c157 :: c158 :: c159 :: c160 :: c161 :: c162 :: c163 :: c164 :: c165 :: c166 :: c167 :: c168 :: c169 :: c170 :: c171 :: c172 :: c173 :: c174 :: c175 :: c176 :: c177 :: c178 :: c179 :: c180 :: c181 :: c182 :: c183 :: c184 :: c185 :: c186 :: c187 :: c188 :: c189 :: c190 :: c191 :: c192 :: c193 :: c194 :: c195 :: c196 :: c197 :: c198 :: c199 :: c200 :: c201 :: c202 :: c203 :: c204 :: c205 :: c206 :: c207 :: c208 :: c209 :: c210 :: c211 :: c212 :: c213 :: c214 :: c215 :: c216 :: c217 :: c218 :: c219 :: c220 :: c221 :: c222 :: c223 :: []).toArray, []⟩ W := by
  conv => arg 2; whnf
  have HT := Lib.hid (And.intro hE hT)
  obtain ⟨W0, hW0⟩ : ∃ W0, W0 = W := ⟨_, rfl⟩
  have hX : Ext W W0 := by rw [hW0]; exact Ext.refl _
  rw [← hW0]
  clear hE hT hW0
  have ra := read_ok ⟨#[126, 40, 97, 124, 98, 41]⟩ e1 pa_e1 (by decide) W0
  go_upto_region 32 with (first
    | ((with_reducible refine ra.mono ?_); rintro e Wa ⟨A1, c1, rfl, n1, ea⟩; have rb := read_ok ⟨#[126, 97, 38, 126, 98]⟩ e2 pa_e2 (by decide) Wa)
    | ((with_reducible refine rb.mono ?_); rintro e Wb ⟨A2, c2, rfl, n2, eb⟩; have hq := eq_lit (b := true) eq_1 (n1.ext eb) n2 (HT.out.2.ext (hX.trans (ea.trans eb))) (by decide) (by decide) (by decide) (by decide))
    | ((with_reducible refine hq.mono ?_); rintro e Wc ⟨rfl, ec⟩))
  have hX : Ext W Wc := hX.trans (ea.trans (eb.trans ec))
  obtain ⟨W0, hW0⟩ : ∃ W, W = Wc := ⟨_, rfl⟩; subst hW0
  clear ra rb hq n1 n2 ea eb ec
  have ra := read_ok ⟨#[97, 42, 97, 42]⟩ e3 pa_e3 (by decide) W0
  go_upto_region 33 with (first
    | ((with_reducible refine ra.mono ?_); rintro e Wa ⟨A1, c1, rfl, n1, ea⟩; have rb := read_ok ⟨#[97, 42]⟩ e4 pa_e4 (by decide) Wa)
    | ((with_reducible refine rb.mono ?_); rintro e Wb ⟨A2, c2, rfl, n2, eb⟩; have hq := eq_lit (b := true) eq_2 (n1.ext eb) n2 (HT.out.2.ext (hX.trans (ea.trans eb))) (by decide) (by decide) (by decide) (by decide))
    | ((with_reducible refine hq.mono ?_); rintro e Wc ⟨rfl, ec⟩))
  have hX : Ext W Wc := hX.trans (ea.trans (eb.trans ec))
  obtain ⟨W0, hW0⟩ : ∃ W, W = Wc := ⟨_, rfl⟩; subst hW0
  clear ra rb hq n1 n2 ea eb ec
  have ra := read_ok ⟨#[97, 98]⟩ e5 pa_e5 (by decide) W0
  go_upto_region 34 with (first
    | ((with_reducible refine ra.mono ?_); rintro e Wa ⟨A1, c1, rfl, n1, ea⟩; have rb := read_ok ⟨#[98, 97]⟩ e6 pa_e6 (by decide) Wa)
    | ((with_reducible refine rb.mono ?_); rintro e Wb ⟨A2, c2, rfl, n2, eb⟩; have hq := eq_lit (b := false) eq_3 (n1.ext eb) n2 (HT.out.2.ext (hX.trans (ea.trans eb))) (by decide) (by decide) (by decide) (by decide))
    | ((with_reducible refine hq.mono ?_); rintro e Wc ⟨rfl, ec⟩))
  have hX : Ext W Wc := hX.trans (ea.trans (eb.trans ec))
  obtain ⟨W0, hW0⟩ : ∃ W, W = Wc := ⟨_, rfl⟩; subst hW0
  clear ra rb hq n1 n2 ea eb ec
  go_wp2
  go_ret
  exact ⟨rfl, HT.out.1.trans hX⟩
end Go.Proofs.YtmebgomnmlbgnaaDoor

namespace Go.Proofs.YtmebgomnmlbgnaaDoor
open Go.RowKit Go.Maps
set_option linter.unusedVariables false
set_option linter.unusedSimpArgs false
attribute [local go_sem] Oper.quietV quietV Oper.gives givesV ext_refl_iff ext_alloc_iff ext_drew_iff ext_drewN_iff
theorem ints_lit {W : World} {b : Nat} {xs : List Int} (h : W.heap[b]? = some (.cells (xs.map (Value.int .i64)).toArray 3 (0, 0))) (hl : xs.length ≤ 1000) : IntsC W (.slice (some ⟨b, 0, none⟩) xs.length xs.length) xs xs.length :=
  ⟨_, rfl, by have := cells_blk h; simpa using this, Nat.le_refl _, by unfold lenMax; omega⟩
theorem mat_lit {w : World} {v vw : Value} {r : Rx} {ws : List Int} {cv : Nat} {b : Bool} (h : matR ws r = b) (hN : NodeV w r.tr v) (hT : Tabs w) (hI : IntsC w vw ws cv) (o1 : r.okS 2 = true) (c1 : r.cnt ≤ 64) (hw : wordC ws 2 = 0) : Calls Tryd.prog 23 #[v, .int .i64 2, vw] w (fun e w' => e = .returned (.tuple #[.bool b, .int .i64 0]) ∧ Ext w w') := by
  have h1 := matches_ok (sy := 2) hN hT hI (by omega) (by omega) o1 c1 hw
  rw [h] at h1
  exact h1
def litRow (a b : Int) : Obj := .cells #[.int .i64 a, .int .i64 b] 3
def litRows (b : Nat) : Obj := .cells #[.slice (some ⟨b, 0, none⟩) 2 2, .slice (some ⟨b + 1, 0, none⟩) 2 2, .slice (some ⟨b + 1 + 1, 0, none⟩) 2 2] 42
def litAcc : Obj := .cells #[.bool false, .bool false, .bool true] 4
theorem dfa_lit (W : World) (o : Obj) : DfaV ((((((W.alloc (litRow 1 0)).alloc (litRow 1 2)).alloc (litRow 1 0)).alloc (litRows W.heap.size)).alloc litAcc).alloc o)
    (.agg #[.int .i64 2, .slice (some ⟨W.heap.size + 1 + 1 + 1, 0, none⟩) 3 3, .slice (some ⟨W.heap.size + 1 + 1 + 1 + 1, 0, none⟩) 3 3]) (DN.dfa 2 ⟨[[1, 0], [1, 2], [1, 0]], [false, false, true]⟩) := by
  obtain ⟨W1, hW1⟩ : ∃ V, V = W.alloc (litRow 1 0) := ⟨_, rfl⟩
  have s1 : W1.heap.size = W.heap.size + 1 := by rw [hW1]; simp
  have h1 : W1.heap[W.heap.size]? = some (litRow 1 0) := by rw [hW1]; exact heap_alloc_new _ _
  rw [← hW1]
  obtain ⟨W2, hW2⟩ : ∃ V, V = W1.alloc (litRow 1 2) := ⟨_, rfl⟩
  have s2 : W2.heap.size = W.heap.size + 1 + 1 := by rw [hW2]; simp [s1]
  have h2 : W2.heap[W.heap.size + 1]? = some (litRow 1 2) := by rw [hW2, ← s1]; exact heap_alloc_new _ _
  have e2 : Ext W1 W2 := by rw [hW2]; exact alloc_ext _ _
  rw [← hW2]
  obtain ⟨W3, hW3⟩ : ∃ V, V = W2.alloc (litRow 1 0) := ⟨_, rfl⟩
  have s3 : W3.heap.size = W.heap.size + 1 + 1 + 1 := by rw [hW3]; simp [s2]
  have h3 : W3.heap[W.heap.size + 1 + 1]? = some (litRow 1 0) := by rw [hW3, ← s2]; exact heap_alloc_new _ _
  have e3 : Ext W2 W3 := by rw [hW3]; exact alloc_ext _ _
  rw [← hW3]
  obtain ⟨W4, hW4⟩ : ∃ V, V = W3.alloc (litRows W.heap.size) := ⟨_, rfl⟩
  have s4 : W4.heap.size = W.heap.size + 1 + 1 + 1 + 1 := by rw [hW4]; simp [s3]
  have h4 : W4.heap[W.heap.size + 1 + 1 + 1]? = some (litRows W.heap.size) := by rw [hW4, ← s3]; exact heap_alloc_new _ _
  have e4 : Ext W3 W4 := by rw [hW4]; exact alloc_ext _ _
  rw [← hW4]
  have h5 : (W4.alloc litAcc).heap[W.heap.size + 1 + 1 + 1 + 1]? = some litAcc := by rw [← s4]; exact heap_alloc_new _ _
  have e5 : Ext W4 ((W4.alloc litAcc).alloc o) := (alloc_ext _ _).trans (alloc_ext _ _)
  have e6 : Ext (W4.alloc litAcc) ((W4.alloc litAcc).alloc o) := alloc_ext _ _
  have h1 := heap_ext (e2.trans (e3.trans (e4.trans e5))) h1
  have h2 := heap_ext (e3.trans (e4.trans e5)) h2
  have h3 := heap_ext (e4.trans e5) h3
  have h4 := heap_ext e5 h4
  have h5 := heap_ext e6 h5
  generalize (W4.alloc litAcc).alloc o = V at *
  have i1 := ints_lit (xs := [1, 0]) h1 (by decide)
  have i2 := ints_lit (xs := [1, 2]) h2 (by decide)
  have i3 := ints_lit (xs := [1, 0]) h3 (by decide)
  refine ⟨_, 3, _, 3, rfl, ?_, ?_⟩
  · refine lists_blk h4 rfl rfl (by decide) (fun i u es hu hes => ?_)
    match i with
    | 0 => cases hu; cases hes; exact ⟨2, i1⟩
    | 1 => cases hu; cases hes; exact ⟨2, i2⟩
    | 2 => cases hu; cases hes; exact ⟨2, i3⟩
    | n + 3 => simp [litRows] at hu
  · exact ⟨_, rfl, cells_blk h5, by decide, by unfold lenMax; decide⟩
theorem todfa_x2 {w : World} {v : Value} (hN : NodeV w x2.tr v) (hT : Tabs w) : Calls Tryd.prog 11 #[v, .int .i64 2] w (fun e w' => ∃ (A : Option Addr) (g : Nat), e = .returned (.tuple #[.agg #[.int .i64 2, .slice A 3 3, .slice (some ⟨g, 0, none⟩) 3 3], .int .i64 0]) ∧ DfaV w' (.agg #[.int .i64 2, .slice A 3 3, .slice (some ⟨g, 0, none⟩) 3 3]) (DN.dfa 2 ⟨[[1, 0], [1, 2], [1, 0]], [false, false, true]⟩) ∧ Ext w w') := by
  refine ((todfa_dr (m := 2) hN hT (by omega) (by omega) (by decide) (by decide)).2 _ da_x2).mono ?_
  rintro e w' ⟨r, hr, hf, he, hO⟩
  have hd := DR.dfaV (m := 2) (i := 0) (j := 1) hO rfl rfl hf
  unfold DR.rv DR.av at hd
  rw [hr] at he hd
  exact ⟨r.A, r.g, he, hd, hO.ext⟩
set_option maxRecDepth 100000 in
set_option maxHeartbeats 16000000 in
theorem live_t24 (w W : World) (c0 c1 c2 c3 c4 c5 c6 c7 c8 c9 c10 c11 c12 c13 c14 c15 c16 c17 c18 c19 c20 c21 c22 c23 c24 c25 c26 c27 c28 c29 c30 c31 c32 c33 c34 c35 c36 c37 c38 c39 c40 c41 c42 c43 c44 c45 c46 c47 c48 c49 c50 c51 c52 c53 c54 c55 c56 c57 c58 c59 c60 c61 c62 c63 c64 c65 c66 c67 c68 c69 c70 c71 c72 c73 c74 c75 c76 c77 c78 c79 c80 c81 c82 c83 c84 c85 c86 c87 c88 c89 c90 c91 c92 c93 c94 c95 c96 c97 c98 c99 c100 c101 c102 c103 c104 c105 c106 c107 c108 c109 c110 c111 c112 c113 c114 c115 c116 c117 c118 c119 c120 c121 c122 c123 c124 c125 c126 c127 c128 c129 c130 c131 c132 c133 c134 c135 c136 c137 c138 c139 c140 c141 c142 c143 c144 c145 c146 c147 c148 c149 c150 c151 c152 c153 c154 c155 c156 c157 c158 c159 c160 c161 c162 c163 c164 c165 c166 c167 c168 c169 c170 c171 c172 c173 c174 c175 c176 c177 c178 c179 c180 c181 c182 c183 c184 c185 c186 c187 c188 c189 c190 c191 c192 c193 c194 c195 c196 c197 c198 c199 c200 c201 c202 c203 c204 c205 c206 c207 c208 c209 c210 c211 c212 c213 c214 c215 c216 c217 c218 c219 c220 c221 c222 c223 : Value) (hE : Ext w W) (hT : Tabs W) :
    Code.wp Tryd.prog (T16 24) (bodyPost Tryd.prog Tryd.f16 (LivP w)) ⟨(c0 :: c1 :: c2 :: c3 :: c4 :: c5 :: c6 :: c7 :: c8 :: c9 :: c10 :: c11 :: c12 :: c13 :: c14 :: c15 :: c16 :: c17 :: c18 :: c19 :: c20 :: c21 :: c22 :: c23 :: c24 :: c25 :: c26 :: c27 :: c28 :: c29 :: c30 :: c31 :: c32 :: c33 :: c34 :: c35 :: c36 :: c37 :: c38 :: c39 :: c40 :: c41 :: c42 :: c43 :: c44 :: c45 :: c46 :: c47 :: c48 :: c49 :: c50 :: c51 :: c52 :: c53 :: c54 :: c55 :: c56 :: c57 :: c58 :: c59 :: c60 :: c61 :: c62 :: c63 :: c64 :: c65 :: c66 :: c67 :: c68 :: c69 :: c70 :: c71 :: c72 :: c73 :: c74 :: c75 :: c76 :: c77 :: c78 :: c79 :: c80 :: c81 :: c82 :: c83 :: c84 :: c85 :: c86 :: c87 :: c88 :: c89 :: c90 :: c91 :: c92 :: c93 :: c94 :: c95 :: c96 :: c97 :: c98 :: c99 :: c100 :: c101 :: c102 :: c103 :: c104 :: c105 :: c106 :: c107 :: c108 :: c109 :: c110 :: c111 :: c112 :: c113 :: c114 :: c115 :: c116 :: c117 :: c118 :: c119 :: c120 :: c121 :: c122 :: c123 :: c124 :: c125 :: c126 :: c127 :: c128 :: c129 :: c130 :: c131 :: c132 :: c133 :: c134 :: c135 :: c136 :: c137 :: c138 :: c139 :: c140 :: c141 :: c142 :: c143 :: c144 :: c145 :: c146 :: c147 :: c148 :: c149 :: c150 :: c151 :: c152 :: c153 :: c154 :: c155 :: c156 :: c157 :: c158 :: c159 :: c160 :: c161 :: c162 :: c163 :: c164 :: c165 :: c166 :: c167 :: c168 :: c169 :: c170 :: c171 :: c172 :: c173 :: c174 :: c175 :: c176 :: c177 :: c178 :: c179 :: c180 :: c181 :: c182 :: c183 :: c184 :: c185 :: c186 :: c187 :: c188 :: c189 :: c190 :: c191 :: c192 :: c193 :: c194 :: c195 :: c196 :: c197 :: c198 :: c199 :: c200 :: c201 :: c202 :: c203 :: c204 :: c205 :: c206 :: c207 :: c208 :: c209 :: c210 :: c211 :: c212 :: c213 :: c214 :: c215 :: c216 :: c217 :: c218 :: c219 :: c220 :: c221 :: c222 :: c223 :: []).toArray, []⟩ W := by
  conv => arg 2; whnf
  have HT := Lib.hid (And.intro hE hT)
  obtain ⟨W0, hW0⟩ : ∃ W0, W0 = W := ⟨_, rfl⟩
  have hX : Ext W W0 := by rw [hW0]; exact Ext.refl _
  rw [← hW0]
  clear hE hT hW0
  have ra := read_ok ⟨#[126, 40, 97, 42, 98, 41]⟩ z1 pa_z1 (by decide) W0
  go_upto_region 25 with (first
    | ((with_reducible refine ra.mono ?_); rintro e Wa ⟨A1, c1, rfl, n1, ea⟩; have hq : Calls Tryd.prog 23 #[nd3 z1.tr A1 c1, .int .i64 2, .slice (some ⟨Wa.heap.size, 0, none⟩) 2 2] (Wa.alloc (.cells #[.int .i64 0, .int .i64 1] 3)) (fun e w' => e = .returned (.tuple #[.bool false, .int .i64 0]) ∧ Ext (Wa.alloc (.cells #[.int .i64 0, .int .i64 1] 3)) w') := mat_lit (b := false) (w := Wa.alloc (.cells (([0, 1] : List Int).map (Value.int .i64)).toArray 3)) ma_1 (n1.ext (alloc_ext _ _)) (HT.out.2.ext (hX.trans (ea.trans (alloc_ext _ _)))) (ints_lit (xs := [0, 1]) (heap_alloc_new Wa _) (by decide)) (by decide) (by decide) wc_1)
    | ((with_reducible refine hq.mono ?_); rintro e Wc ⟨rfl, ec⟩))
  have hX : Ext W Wc := hX.trans (ea.trans ((alloc_ext _ _).trans ec))
  obtain ⟨W0, hW0⟩ : ∃ W, W = Wc := ⟨_, rfl⟩; subst hW0
  clear ra hq n1 ea ec
  have ra := read_ok ⟨#[126, 40, 97, 42, 98, 41]⟩ z1 pa_z1 (by decide) W0
  go_upto_region 26 with (first
    | ((with_reducible refine ra.mono ?_); rintro e Wa ⟨A1, c1, rfl, n1, ea⟩; have hq : Calls Tryd.prog 23 #[nd3 z1.tr A1 c1, .int .i64 2, .slice (some ⟨Wa.heap.size, 0, none⟩) 2 2] (Wa.alloc (.cells #[.int .i64 1, .int .i64 0] 3)) (fun e w' => e = .returned (.tuple #[.bool true, .int .i64 0]) ∧ Ext (Wa.alloc (.cells #[.int .i64 1, .int .i64 0] 3)) w') := mat_lit (b := true) (w := Wa.alloc (.cells (([1, 0] : List Int).map (Value.int .i64)).toArray 3)) ma_2 (n1.ext (alloc_ext _ _)) (HT.out.2.ext (hX.trans (ea.trans (alloc_ext _ _)))) (ints_lit (xs := [1, 0]) (heap_alloc_new Wa _) (by decide)) (by decide) (by decide) wc_2)
    | ((with_reducible refine hq.mono ?_); rintro e Wc ⟨rfl, ec⟩))
  have hX : Ext W Wc := hX.trans (ea.trans ((alloc_ext _ _).trans ec))
  obtain ⟨W0, hW0⟩ : ∃ W, W = Wc := ⟨_, rfl⟩; subst hW0
  clear ra hq n1 ea ec
  have ra := read_ok ⟨#[126, 40, 97, 42, 98, 41]⟩ z1 pa_z1 (by decide) W0
  go_upto_region 27 with (first
    | ((with_reducible refine ra.mono ?_); rintro e Wa ⟨A1, c1, rfl, n1, ea⟩; have hq := mat_lit (b := true) (ws := []) (cv := 0) (vw := .slice none 0 0) ma_3 n1 (HT.out.2.ext (hX.trans ea)) ⟨none, rfl, Cells.nil _ _, Nat.le_refl _, by unfold lenMax; decide⟩ (by decide) (by decide) wc_3)
    | ((with_reducible refine hq.mono ?_); rintro e Wc ⟨rfl, ec⟩))
  have hX : Ext W Wc := hX.trans (ea.trans ec)
  clear ra hq n1 ea ec
  have ra := read_ok ⟨#[40, 97, 124, 98, 41, 42, 97, 98]⟩ x2 pa_x2 (by decide) Wc
  go_upto_region 28 with (first
    | ((with_reducible refine ra.mono ?_); rintro e Wa ⟨A1, c1, rfl, n1, ea⟩; have hq := todfa_x2 n1 (HT.out.2.ext (hX.trans ea)))
    | ((with_reducible refine hq.mono ?_); rintro e We ⟨Ad, gd, rfl, hd, ed⟩))
  refine wp_named ?_
  intro Wd hWd
  have hX : Ext W Wd := by rw [hWd]; exact hX.trans (ea.trans (ed.trans (alloc_ext _ _)))
  have h26 : Wd.heap[We.heap.size]? = some (.cells #[.int .i64 2, .slice Ad 3 3, .slice (some ⟨gd, 0, none⟩) 3 3] 28) := by rw [hWd]; exact heap_alloc_new _ _
  have hd := hd.ext (alloc_ext We (.cells #[.int .i64 2, .slice Ad 3 3, .slice (some ⟨gd, 0, none⟩) 3 3] 28))
  rw [← hWd] at hd
  obtain ⟨b26, hb26⟩ : ∃ b, b = We.heap.size := ⟨_, rfl⟩
  rw [← hb26] at h26 ⊢
  have HD := Lib.hid (And.intro hX (And.intro h26 hd))
  clear ra hq n1 ea ed hWd hb26 hX h26 hd
  go_upto_region 29 with fail
  refine wp_named ?_
  intro Wf hWf
  have hl := dfa_lit Wd (.cells #[.int .i64 2, .slice (some ⟨Wd.heap.size + 1 + 1 + 1, 0, none⟩) 3 3, .slice (some ⟨Wd.heap.size + 1 + 1 + 1 + 1, 0, none⟩) 3 3] 28)
  have h28 := heap_alloc_new (((((Wd.alloc (litRow 1 0)).alloc (litRow 1 2)).alloc (litRow 1 0)).alloc (litRows Wd.heap.size)).alloc litAcc) (.cells #[.int .i64 2, .slice (some ⟨Wd.heap.size + 1 + 1 + 1, 0, none⟩) 3 3, .slice (some ⟨Wd.heap.size + 1 + 1 + 1 + 1, 0, none⟩) 3 3] 28)
  have eWf : Ext Wd Wf := by rw [hWf]; exact (((((alloc_ext _ _).trans (alloc_ext _ _)).trans (alloc_ext _ _)).trans (alloc_ext _ _)).trans (alloc_ext _ _)).trans (alloc_ext _ _)
  have hWf2 : Wf = (((((Wd.alloc (litRow 1 0)).alloc (litRow 1 2)).alloc (litRow 1 0)).alloc (litRows Wd.heap.size)).alloc litAcc).alloc (.cells #[.int .i64 2, .slice (some ⟨Wd.heap.size + 1 + 1 + 1, 0, none⟩) 3 3, .slice (some ⟨Wd.heap.size + 1 + 1 + 1 + 1, 0, none⟩) 3 3] 28) := hWf
  rw [← hWf2] at hl h28
  have hsz : (((((Wd.alloc (litRow 1 0)).alloc (litRow 1 2)).alloc (litRow 1 0)).alloc (litRows Wd.heap.size)).alloc litAcc).heap.size = Wd.heap.size + 1 + 1 + 1 + 1 + 1 := by simp
  rw [hsz] at h28
  have h26 := heap_ext eWf HD.out.2.1
  have hs := refSame_eq Wf _ _ _ (HD.out.2.2.ext eWf) hl
  have HX := Lib.hid (HD.out.1.trans eWf)
  clear hWf hWf2 hl eWf hsz
  generalize Wd.heap.size + 1 + 1 + 1 + 1 + 1 = b28 at *
  generalize Wd.heap.size + 1 + 1 + 1 + 1 = ba at *
  generalize Wd.heap.size + 1 + 1 + 1 = br at *
  have c0 := cell_of_blk h26 0 (u := .int .i64 2) rfl
  have c1 := cell_of_blk h26 1 (u := .slice Ad 3 3) rfl
  have c2 := cell_of_blk h26 2 (u := .slice (some ⟨gd, 0, none⟩) 3 3) rfl
  have d0 := cell_of_blk h28 0 (u := .int .i64 2) rfl
  have d1 := cell_of_blk h28 1 (u := .slice (some ⟨br, 0, none⟩) 3 3) rfl
  have d2 := cell_of_blk h28 2 (u := .slice (some ⟨ba, 0, none⟩) 3 3) rfl
  go_upto_region 999 with (first
    | (with_reducible refine stop_at 31 ?_)
    | ((with_reducible refine hs.mono ?_); rintro e Wg ⟨rfl, eg⟩))
  refine ⟨?_⟩
  exact live_t31 w Wg _ _ _ _ _ _ _ _ _ _ _ _ _ _ _ _ _ _ _ _ _ _ _ _ _ _ _ _ _ _ _ _ _ _ _ _ _ _ _ _ _ _ _ _ _ _ _ _ _ _ _ _ _ _ _ _ _ _ _ _ _ _ _ _ _ _ _ _ _ _ _ _ _ _ _ _ _ _ _ _ _ _ _ _ _ _ _ _ _ _ _ _ _ _ _ _ _ _ _ _ _ _ _ _ _ _ _ _ _ _ _ _ _ _ _ _ _ _ _ _ _ _ _ _ _ _ _ _ _ _ _ _ _ _ _ _ _ _ _ _ _ _ _ _ _ _ _ _ _ _ _ _ _ _ _ _ _ _ _ _ _ _ _ _ _ _ _ _ _ _ _ _ _ _ _ _ _ _ _ _ _ _ _ _ _ _ _ _ _ _ _ _ _ _ _ _ _ _ _ _ _ _ _ _ _ _ _ _ _ _ _ _ _ _ _ _ _ _ _ _ _ _ _ _ (HT.out.1.trans (HX.out.trans eg)) (HT.out.2.ext (HX.out.trans eg))
end Go.Proofs.YtmebgomnmlbgnaaDoor
