/- IocosKnown 10, backwards: the long chains are compared. -/
import Derived.Test.YtamodjlifpjaoaaDoorK1
import Derived.Test.YtamodjlifpjaoaaDoorGE
namespace Go.Proofs.YtamodjlifpjaoaaDoor
open Go.RowKit
set_option linter.unusedVariables false
set_option linter.unusedSimpArgs false
attribute [local go_sem] Oper.quietV quietV Oper.gives givesV ext_refl_iff ext_alloc_iff ext_drew_iff ext_drewN_iff
theorem after_nil {x : Lts} (h : checkI x = 0) : afterR x [] = (memI (begM x), 0) := by
  unfold afterR
  rw [if_neg (by rw [h]; simp), if_neg (by simp), if_neg (by simp)]
  rfl
theorem long_after : afterR longX [] = (memI (begM longX), 0) := after_nil ch_ok.1
theorem long_many : (memI (begM longX)).length = 64 := by unfold memI; rw [List.length_map, long_mem, List.length_range]
set_option maxRecDepth 100000 in
set_option maxHeartbeats 16000000 in
theorem known_t25 (w W : World) (b1 b12 b13 b15 : Nat) (c0 c2 c3 c4 c5 c6 c7 c8 c9 c10 c11 c14 c16 c17 c18 c19 c20 c21 c22 c23 c24 c25 c26 c27 c28 c29 c30 c31 c32 c33 c34 c35 c36 c37 c38 c39 c40 c41 c42 c43 c44 c45 c46 c47 c48 c49 c50 c51 c52 c53 c54 c55 c56 c57 c58 c59 c60 c61 c62 c63 c64 c65 c66 c67 c68 c69 c70 c71 c72 c73 c74 c75 c76 c77 c78 c79 c80 c81 c82 c83 c84 c85 c86 c87 c88 c89 c90 c91 c92 c93 c94 c95 c96 c97 c98 c99 c100 c101 c102 c103 c104 c105 c106 c107 c108 c109 c110 c111 c112 c113 c114 c115 c116 c117 c118 c119 c120 c121 c122 c123 c124 c125 c126 c127 c128 c129 c130 c131 c132 c133 c134 c135 c136 c137 c138 c139 c140 c141 c142 c143 c144 c145 c146 c147 c148 c149 c150 c151 c152 c153 c154 c155 c156 c157 c158 c159 c160 c161 c162 c163 c164 c165 c166 c167 c168 c169 c170 c171 c172 c173 c174 c175 c176 c177 c178 c179 c180 c181 c182 c183 c184 c185 c186 c187 c188 c189 c190 c191 c192 c193 c194 c195 c196 c197 c198 c199 c200 c201 c202 c203 c204 c205 c206 c207 c208 c209 c210 c211 c212 c213 c214 c215 c216 c217 c218 c219 c220 c221 c222 c223 c224 c225 c226 c227 c228 c229 c230 : Value) (h0 : Ext w W) (hT : Tab W) (hb : BoxL W b1 loopX) (hl : BoxL W b12 longX) (hm : BoxL W b13 muteX) (hf : BoxL W b15 farX) :
    Code.wp Tryd.prog (T10 25) (bodyPost Tryd.prog Tryd.f10 (KnownP w)) ⟨(c0 :: .pointer (some ⟨b1, 0, none⟩) :: c2 :: c3 :: c4 :: c5 :: c6 :: c7 :: c8 :: c9 :: c10 :: c11 :: .pointer (some ⟨b12, 0, none⟩) :: .pointer (some ⟨b13, 0, none⟩) :: c14 :: .pointer (some ⟨b15, 0, none⟩) :: c16 :: c17 :: c18 :: c19 :: c20 :: c21 :: c22 :: c23 :: c24 :: c25 :: c26 :: c27 :: c28 :: c29 :: c30 :: c31 :: c32 :: c33 :: c34 :: c35 :: c36 :: c37 :: c38 :: c39 :: c40 :: c41 :: c42 :: c43 :: c44 :: c45 :: c46 :: c47 :: c48 :: c49 :: c50 :: c51 :: c52 :: c53 :: c54 :: c55 :: c56 :: c57 :: c58 :: c59 :: c60 :: c61 :: c62 :: c63 :: c64 :: c65 :: c66 :: c67 :: c68 :: c69 :: c70 :: c71 :: c72 :: c73 :: c74 :: c75 :: c76 :: c77 :: c78 :: c79 :: c80 :: c81 :: c82 :: c83 :: c84 :: c85 :: c86 :: c87 :: c88 :: c89 :: c90 :: c91 :: c92 :: c93 :: c94 :: c95 :: c96 :: c97 :: c98 :: c99 :: c100 :: c101 :: c102 :: c103 :: c104 :: c105 :: c106 :: c107 :: c108 :: c109 :: c110 :: c111 :: c112 :: c113 :: c114 :: c115 :: c116 :: c117 :: c118 :: c119 :: c120 :: c121 :: c122 :: c123 :: c124 :: c125 :: c126 :: c127 :: c128 :: c129 :: c130 :: c131 :: c132 :: c133 :: c134 :: c135 :: c136 :: c137 :: c138 :: c139 :: c140 :: c141 :: c142 :: c143 :: c144 :: c145 :: c146 :: c147 :: c148 :: c149 :: c150 :: c151 :: c152 :: c153 :: c154 :: c155 :: c156 :: c157 :: c158 :: c159 :: c160 :: c161 :: c162 :: c163 :: c164 :: c165 :: c166 :: c167 :: c168 :: c169 :: c170 :: c171 :: c172 :: c173 :: c174 :: c175 :: c176 :: c177 :: c178 :: c179 :: c180 :: c181 :: c182 :: c183 :: c184 :: c185 :: c186 :: c187 :: c188 :: c189 :: c190 :: c191 :: c192 :: c193 :: c194 :: c195 :: c196 :: c197 :: c198 :: c199 :: c200 :: c201 :: c202 :: c203 :: c204 :: c205 :: c206 :: c207 :: c208 :: c209 :: c210 :: c211 :: c212 :: c213 :: c214 :: c215 :: c216 :: c217 :: c218 :: c219 :: c220 :: c221 :: c222 :: c223 :: c224 :: c225 :: c226 :: c227 :: c228 :: c229 :: c230 :: []).toArray, []⟩ W := by
  conv => arg 2; whnf
  obtain ⟨t, hfm, ht⟩ := fm_val
  obtain ⟨pA, pc, p0, p1, p2, pS⟩ := hl
  have p0 := fun w' (h : Ext W w') => h.cell p0
  have p1 := fun w' (h : Ext W w') => h.cell p1
  have p2 := fun w' (h : Ext W w') => h.cell p2
  obtain ⟨qA, qc, q0, q1, q2, qS⟩ := hm
  have q0 := fun w' (h : Ext W w') => h.cell q0
  have q1 := fun w' (h : Ext W w') => h.cell q1
  have q2 := fun w' (h : Ext W w') => h.cell q2
  obtain ⟨rA, rc, r0, r1, r2, rS⟩ := hf
  have r0 := fun w' (h : Ext W w') => h.cell r0
  have r1 := fun w' (h : Ext W w') => h.cell r1
  have r2 := fun w' (h : Ext W w') => h.cell r2
  have hc1 := Conforms_any W _ _ farX muteX rS qS hT
  rw [hfm] at hc1
  unfold ConfP at hc1
  have hc2 := fun W' (e : Ext W W') => Conforms_any W' _ _ longX farX (pS.ext e) (rS.ext e) (hT.ext e)
  rw [lf_val] at hc2
  unfold ConfP at hc2
  have haf := fun W' (e : Ext W W') => After_any W' _ longX _ [] 0 (pS.ext e) (knil_ints W') (hT.ext e)
  rw [long_after] at haf
  have HX := Lib.hid (And.intro h0 (And.intro hT hb))
  have hE0 := Ext.refl W
  have htI : (t.length : Int) = 63 := by omega
  have hmI : ((memI (begM longX)).length : Int) = 64 := by rw [long_many]; rfl
  clear h0 hT hb hfm pS qS rS
  generalize longX.ins = li at *
  generalize longX.outs = lo at *
  generalize longX.rows.length = ln at *
  generalize farX.ins = fi at *
  generalize farX.outs = fo at *
  generalize farX.rows.length = fn at *
  generalize muteX.ins = mi at *
  generalize muteX.outs = mo at *
  generalize muteX.rows.length = mn at *
  generalize memI (begM longX) = ml at *
  go_upto_region 26 with ((with_reducible refine hc1.mono ?_); rintro e W5 ⟨tv, rfl, hf5, e5⟩)
  have hc25 := hc2 W5 e5
  have p0 := fun w' (h : Ext W5 w') => p0 w' (e5.trans h)
  have p1 := fun w' (h : Ext W5 w') => p1 w' (e5.trans h)
  have p2 := fun w' (h : Ext W5 w') => p2 w' (e5.trans h)
  have r0 := fun w' (h : Ext W5 w') => r0 w' (e5.trans h)
  have r1 := fun w' (h : Ext W5 w') => r1 w' (e5.trans h)
  have r2 := fun w' (h : Ext W5 w') => r2 w' (e5.trans h)
  have hE5 := Ext.refl W5
  have H5 := Lib.hid (And.intro hf5 e5)
  clear hc1 hc2 e5 hf5 hE0 q0 q1 q2
  go_upto_region 27 with ((with_reducible refine hc25.mono ?_); rintro e W6 ⟨tv6, rfl, _, e6⟩)
  have haf6 := haf W6 (H5.out.2.trans e6)
  have p0 := fun w' (h : Ext W6 w') => p0 w' (e6.trans h)
  have p1 := fun w' (h : Ext W6 w') => p1 w' (e6.trans h)
  have p2 := fun w' (h : Ext W6 w') => p2 w' (e6.trans h)
  have hE6 := Ext.refl W6
  have H6 := Lib.hid (H5.out.2.trans e6)
  clear hc25 haf e6 hE5 r0 r1 r2
  go_upto_region 28 with ((with_reducible refine haf6.mono ?_); rintro e W7 ⟨tv7, rfl, ⟨A7, rfl, _⟩, e7⟩)
  obtain ⟨A5, rfl, _⟩ := id H5.out.1
  have H7 := Lib.hid (H6.out.trans e7)
  clear haf6 p0 p1 p2 hE6 e7
  have g1 : ((t.length : Int) != 63) = false := by rw [htI]; rfl
  have g2 : ((ml.length : Int) != 64) = false := by rw [hmI]; rfl
  clear htI hmI ht
  go_upto_region 999 with (first | (with_reducible refine stop_at 30 ?_) | (with_reducible refine stop_at2 30 ?_))
  refine ⟨?_⟩
  exact known_t30 w W7 b1 _ _ _ _ _ _ _ _ _ _ _ _ _ _ _ _ _ _ _ _ _ _ _ _ _ _ _ _ _ _ _ _ _ _ _ _ _ _ _ _ _ _ _ _ _ _ _ _ _ _ _ _ _ _ _ _ _ _ _ _ _ _ _ _ _ _ _ _ _ _ _ _ _ _ _ _ _ _ _ _ _ _ _ _ _ _ _ _ _ _ _ _ _ _ _ _ _ _ _ _ _ _ _ _ _ _ _ _ _ _ _ _ _ _ _ _ _ _ _ _ _ _ _ _ _ _ _ _ _ _ _ _ _ _ _ _ _ _ _ _ _ _ _ _ _ _ _ _ _ _ _ _ _ _ _ _ _ _ _ _ _ _ _ _ _ _ _ _ _ _ _ _ _ _ _ _ _ _ _ _ _ _ _ _ _ _ _ _ _ _ _ _ _ _ _ _ _ _ _ _ _ _ _ _ _ _ _ _ _ _ _ _ _ _ _ _ _ _ _ _ _ _ _ _ _ _ _ _ _ _ (HX.out.1.trans H7.out) (HX.out.2.1.ext H7.out) (HX.out.2.2.ext H7.out)
end Go.Proofs.YtamodjlifpjaoaaDoor
