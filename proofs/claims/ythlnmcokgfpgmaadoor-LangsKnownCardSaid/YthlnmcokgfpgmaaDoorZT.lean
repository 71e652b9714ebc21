/- THE LAW LangsErrors 10: the walk. -/
import Derived.Test.YthlnmcokgfpgmaaDoorZS
import Derived.Test.YthlnmcokgfpgmaaDoorZP
import Derived.Test.YthlnmcokgfpgmaaDoorZH
namespace Go.Proofs.YthlnmcokgfpgmaaDoor
open Go.RowKit Go.Maps
set_option linter.unusedVariables false
set_option linter.unusedSimpArgs false
attribute [local go_sem] Oper.quietV quietV Oper.gives givesV ext_refl_iff ext_alloc_iff ext_drew_iff ext_drewN_iff
noncomputable def T10 (n : Nat) : Code := textR n Tryd.f10.body
theorem rank_tri {a : Dfa} {xs : List Int} (h : checkD a = 0) : ∃ r e : Int, rankR a xs = (r, e) ∧ ((wordC xs a.sy ≠ 0 ∧ r = 0 ∧ e = wordC xs a.sy) ∨ (wordC xs a.sy = 0 ∧ e = 0) ∨ (wordC xs a.sy = 0 ∧ e = 3 ∧ r = 0)) := by
  unfold rankR
  rw [if_neg (fun h' => h' h)]
  by_cases h1 : wordC xs a.sy = 0
  · rw [if_neg (fun h' => h' h1)]
    split
    · exact ⟨_, _, rfl, .inr (.inr ⟨h1, rfl, rfl⟩)⟩
    · exact ⟨_, _, rfl, .inr (.inl ⟨h1, rfl⟩)⟩
  · rw [if_pos h1]
    exact ⟨_, _, rfl, .inl ⟨h1, rfl, rfl⟩⟩
theorem nth_neg {W : World} {dv : Value} {d : Dfa} (hd : DfaV W dv d) : Calls Tryd.prog 21 #[dv, .int .i64 (-1)] W fun e w' => e = .returned (.tuple #[.slice none 0 0, .int .i64 (if checkD d ≠ 0 then checkD d else 1)]) ∧ Ext W w' :=
  (Nth_any W dv d hd (-1) (by omega)).mono fun e w' h => by
    unfold NthP at h
    by_cases hz : checkD d = 0
    · rw [if_neg (fun h' => h' hz), if_pos (by omega)] at h
      rw [if_neg (fun h' => h' hz)]; exact h
    · rw [if_pos hz] at h ⊢; exact h
theorem op_err {f : Nat} {args : Array Value} {W : World} {g : Bool → Bool → Bool} {a b : Dfa} (h : Calls Tryd.prog f args W (OpP g a b W)) (hn : chkL a b = 0 → (pairsL a b).length ≤ 256) :
    Calls Tryd.prog f args W fun e w' => ∃ (sy : Int) (A : Option Addr) (n c : Nat) (A' : Option Addr) (n' c' : Nat), e = .returned (.tuple #[.agg #[.int .i64 sy, .slice A n c, .slice A' n' c'], .int .i64 (chkL a b)]) ∧ (chkL a b ≠ 0 → n = 0) ∧ Ext W w' :=
  h.mono fun e w' ⟨v, r, he, hop, hfar, hE⟩ => by
    obtain ⟨h1, h2⟩ := opR_small hop hn
    obtain ⟨rv, av, hv, ⟨Ar, vr, hrv, _⟩, ⟨Aa, hav, _⟩⟩ := hfar.dfa
    subst he hv hrv hav
    refine ⟨_, Ar, _, _, Aa, _, _, by rw [h1], fun hz => ?_, hE⟩
    rw [h2 hz]; rfl
theorem incl_err {args : Array Value} {W : World} {a b : Dfa} (h : Calls Tryd.prog 29 args W (InclP (inclR a b) W)) (hn : a.rows.length * b.rows.length ≤ 256) :
    Calls Tryd.prog 29 args W fun e w' => ∃ (B : Bool) (A : Option Addr) (n c : Nat), e = .returned (.tuple #[.bool B, .slice A n c, .int .i64 (chkL a b)]) ∧ (chkL a b ≠ 0 → B = false ∧ n = 0) ∧ Ext W w' :=
  h.mono fun e w' ⟨v, he, hf, hE⟩ => by
    obtain ⟨A, hv, _⟩ := hf
    subst he hv
    by_cases hz : chkL a b = 0
    · obtain ⟨ha, hb, hk⟩ := chkL_zero hz
      have hs : a.sy = b.sy := by have := ha.kk.1; have := hb.kk.1; omega
      have h1 := incl_small ha hb hs hn
      refine ⟨_, A, _, _, by rw [h1, hz], fun h => absurd hz h, hE⟩
    · have h1 : inclR a b = (false, [], chkL a b) := if_pos hz
      refine ⟨_, A, _, _, by rw [h1], fun _ => ⟨by simp only [h1], by simp only [h1]; rfl⟩, hE⟩
set_option maxRecDepth 100000 in
set_option maxHeartbeats 8000000 in
theorem err_t15 (w W : World) (b3 : Nat) (xv : Value) (xs : List Int) (c : Nat) (a : Dfa) (c0 c1 c4 c5 c6 c8 c9 c10 c11 c12 c13 c14 c15 c16 c17 c18 c19 c20 c21 c22 c23 c24 c25 c26 c27 c28 c29 c30 c31 c32 c33 c34 c35 c36 c37 c38 c39 c40 c41 c42 c43 c44 c45 c46 c47 c48 c49 c50 c51 c52 c53 c54 c55 c56 c57 c58 c59 c60 c61 c62 c63 c64 c65 c66 c67 c68 c69 c70 c71 c72 c73 c74 c75 c76 c77 c78 c79 c80 c81 c82 c83 c84 c85 c86 c87 c88 c89 c90 c91 c92 c93 c94 c95 c96 c97 c98 c99 c100 c101 c102 c103 c104 c105 c106 c107 c108 c109 c110 c111 c112 c113 c114 c115 c116 c117 c118 c119 c120 c121 c122 c123 c124 c125 c126 c127 c128 c129 c130 c131 c132 c133 c134 c135 c136 c137 c138 c139 c140 c141 c142 c143 c144 c145 c146 c147 c148 c149 c150 c151 c152 c153 c154 c155 c156 c157 c158 c159 c160 c161 c162 c163 c164 c165 c166 c167 c168 c169 c170 c171 c172 c173 c174 c175 c176 c177 c178 c179 c180 c181 c182 c183 c184 c185 c186 c187 c188 c189 c190 c191 c192 c193 c194 c195 c196 c197 c198 c199 c200 c201 c202 c203 c204 c205 c206 c207 c208 c209 c210 c211 c212 c213 c214 c215 c216 c217 c218 c219 c220 c221 c222 c223 c224 c225 c226 c227 c228 c229 c230 c231 c232 c233 c234 c235 c236 c237 c238 c239 c240 c241 c242 c243 c244 c245 c246 c247 c248 c249 c250 c251 c252 c253 c254 c255 c256 : Value) (h0 : Ext w W) (hm : GlobM W) (hc : GlobC W) (hb : BoxD W b3 a) (hx : IntsC W xv xs c) :
    Code.wp Tryd.prog (T10 15) (bodyPost Tryd.prog Tryd.f10 fun e w' => e = .returned (.bool true) ∧ Ext w w') ⟨(c0 :: c1 :: xv :: .pointer (some ⟨b3, 0, none⟩) :: c4 :: c5 :: c6 :: .int .i64 (checkD a) :: c8 :: c9 :: c10 :: c11 :: c12 :: c13 :: c14 :: c15 :: c16 :: c17 :: c18 :: c19 :: c20 :: c21 :: c22 :: c23 :: c24 :: c25 :: c26 :: c27 :: c28 :: c29 :: c30 :: c31 :: c32 :: c33 :: c34 :: c35 :: c36 :: c37 :: c38 :: c39 :: c40 :: c41 :: c42 :: c43 :: c44 :: c45 :: c46 :: c47 :: c48 :: c49 :: c50 :: c51 :: c52 :: c53 :: c54 :: c55 :: c56 :: c57 :: c58 :: c59 :: c60 :: c61 :: c62 :: c63 :: c64 :: c65 :: c66 :: c67 :: c68 :: c69 :: c70 :: c71 :: c72 :: c73 :: c74 :: c75 :: c76 :: c77 :: c78 :: c79 :: c80 :: c81 :: c82 :: c83 :: c84 :: c85 :: c86 :: c87 :: c88 :: c89 :: c90 :: c91 :: c92 :: c93 :: c94 :: c95 :: c96 :: c97 :: c98 :: c99 :: c100 :: c101 :: c102 :: c103 :: c104 :: c105 :: c106 :: c107 :: c108 :: c109 :: c110 :: c111 :: c112 :: c113 :: c114 :: c115 :: c116 :: c117 :: c118 :: c119 :: c120 :: c121 :: c122 :: c123 :: c124 :: c125 :: c126 :: c127 :: c128 :: c129 :: c130 :: c131 :: c132 :: c133 :: c134 :: c135 :: c136 :: c137 :: c138 :: c139 :: c140 :: c141 :: c142 :: c143 :: c144 :: c145 :: c146 :: c147 :: c148 :: c149 :: c150 :: c151 :: c152 :: c153 :: c154 :: c155 :: c156 :: c157 :: c158 :: c159 :: c160 :: c161 :: c162 :: c163 :: c164 :: c165 :: c166 :: c167 :: c168 :: c169 :: c170 :: c171 :: c172 :: c173 :: c174 :: c175 :: c176 :: c177 :: c178 :: c179 :: c180 :: c181 :: c182 :: c183 :: c184 :: c185 :: c186 :: c187 :: c188 :: c189 :: c190 :: c191 :: c192 :: c193 :: c194 :: c195 :: c196 :: c197 :: c198 :: c199 :: c200 :: c201 :: c202 :: c203 :: c204 :: c205 :: c206 :: c207 :: c208 :: c209 :: c210 :: c211 :: c212 :: c213 :: c214 :: c215 :: c216 :: c217 :: c218 :: c219 :: c220 :: c221 :: c222 :: c223 :: c224 :: c225 :: c226 :: c227 :: c228 :: c229 :: c230 :: c231 :: c232 :: c233 :: c234 :: c235 :: c236 :: c237 :: c238 :: c239 :: c240 :: c241 :: c242 :: c243 :: c244 :: c245 :: c246 :: c247 :: c248 :: c249 :: c250 :: c251 :: c252 :: c253 :: c254 :: c255 :: c256 :: []).toArray, []⟩ W := by
  conv => arg 2; whnf
  obtain ⟨Ar, Aa, cr, ca, p0, p1, p2, hD⟩ := hb
  have p0 := fun w' (h : Ext W w') => h.cell p0
  have p1 := fun w' (h : Ext W w') => h.cell p1
  have p2 := fun w' (h : Ext W w') => h.cell p2
  have hE0 := Ext.refl W
  have HA := Lib.hid (And.intro h0 (And.intro hm hc))
  have hlv := fun W1 (e : Ext W W1) => lives_any W1 (HA.out.2.1.ext e) (HA.out.2.2.ext e)
  obtain ⟨Ax, rfl, _⟩ := id hx
  have hrk := Rank_any W _ a hD _ xs c hx
  have hng := fun W1 (e : Ext W W1) => nth_neg (hD.ext e)
  by_cases hz : checkD a = 0
  · obtain ⟨r, e, hre, htri⟩ := rank_tri (xs := xs) hz
    have hrk := two_val hrk hre
    have hwc := fun W1 (e : Ext W W1) => refWord_any W1 _ xs c a.sy (hx.ext e)
    simp only [hz, ne_eq, not_true_eq_false, if_false] at hng ⊢
    generalize wordC xs a.sy = bad at *
    have HX := Lib.hid hx
    clear hx hz hre h0 hm hc
    rcases htri with ⟨hb0, rfl, hbe⟩ | ⟨rfl, rfl⟩ | ⟨rfl, rfl, rfl⟩
    · have hb1 : (bad == 0) = false := by simpa using hb0
      have HB0 := Lib.hid hb0
      rw [hbe] at hrk
      clear hb0 hbe
      go_wp2_with (first
        | ((with_reducible refine hrk.mono ?_); rintro e w1 ⟨rfl, e1⟩; have hwc1 := hwc w1 e1)
        | ((with_reducible refine hwc1.mono ?_); rintro e w2 ⟨rfl, rfl⟩; have hng1 := hng w1 e1)
        | ((with_reducible refine hng1.mono ?_); rintro e w3 ⟨rfl, e3⟩; have hl := hlv w3 (e1.trans e3))
        | ((with_reducible refine hl.mono ?_); rintro e w4 ⟨rfl, e4⟩))
      go_ret
      exact ⟨rfl, HA.out.1.trans (e1.trans (e3.trans e4))⟩
    all_goals
      go_wp2_with (first
        | ((with_reducible refine hrk.mono ?_); rintro e w1 ⟨rfl, e1⟩; have hwc1 := hwc w1 e1)
        | ((with_reducible refine hwc1.mono ?_); rintro e w2 ⟨rfl, rfl⟩; have hng1 := hng w1 e1)
        | ((with_reducible refine hng1.mono ?_); rintro e w3 ⟨rfl, e3⟩; have hl := hlv w3 (e1.trans e3))
        | ((with_reducible refine hl.mono ?_); rintro e w4 ⟨rfl, e4⟩))
      go_ret
      exact ⟨rfl, HA.out.1.trans (e1.trans (e3.trans e4))⟩
  · have hrk := two_val hrk (show rankR a xs = (0, checkD a) from if_pos hz)
    have hcp := fun W1 (e : Ext W W1) => comp_bad W1 _ a (hD.ext e) hz
    have hls : ∀ W1, Ext W W1 → Calls Tryd.prog 13 #[.agg #[.int .i64 a.sy, .slice Ar a.rows.length cr, .slice Aa a.acc.length ca]] W1 fun e w' => ∃ A, e = .returned (.tuple #[.slice A 0 0, .bool false, .int .i64 (checkD a)]) ∧ Ext W1 w' := fun W1 e => (Least_any W1 _ a (hD.ext e) (HA.out.2.1.ext e)).mono fun e' w' ⟨v, he, hf, hE⟩ => by
      have h1 : leastR a = ([], false, checkD a) := if_pos hz
      rw [h1] at he hf
      obtain ⟨A, hv, _⟩ := hf
      subst he hv
      exact ⟨A, rfl, hE⟩
    have hfi : ∀ W1, Ext W W1 → Calls Tryd.prog 14 #[.agg #[.int .i64 a.sy, .slice Ar a.rows.length cr, .slice Aa a.acc.length ca]] W1 fun e w' => e = .returned (.tuple #[.bool false, .int .i64 (checkD a)]) ∧ Ext W1 w' := fun W1 e => (Finite_any W1 _ a (hD.ext e)).mono fun e' w' h => by
      rcases h with ⟨_, h2⟩ | ⟨h1, _⟩
      · exact h2
      · exact absurd h1 hz
    have hco := fun W1 (e : Ext W W1) => two_val (CountOf_any W1 _ a (hD.ext e) (-1)) (show countR a (-1) = (0, checkD a) from if_pos hz)
    simp only [hz, ne_eq, not_false_eq_true, if_true] at hng
    unfold zV at hcp
    have hz1 : (checkD a == 0) = false := by simpa using hz
    generalize checkD a = z at *
    clear hx hz h0 hm hc
    go_upto_region 20 with ((with_reducible refine hrk.mono ?_); rintro e w1 ⟨rfl, e1⟩; have hcp1 := hcp w1 e1)
    go_upto_region 21 with (first
      | ((with_reducible refine hcp1.mono ?_); rintro e w2 ⟨rfl, e2⟩)
      | (with_reducible refine wpList_store_blk _ rfl 28 _ _ rfl w2.heap.size 28 _ _ rfl rfl (heap_alloc_new _ _) (by kernel_rfl) (by kernel_rfl) (by kernel_rfl) ?_; intro w3 h3 g3))
    have e23 : Ext w2 w3 := Below.grown (alloc_ext w2 _) g3 (alloc_ext w2 _).size (fun k hk => by cases hk; exact Nat.le_refl _)
    have q1 := cell_of_blk h3 1 (u := .slice none 0 0) rfl
    have q1 := fun w' (h : Ext w3 w') => h.cell q1
    have e3 := e1.trans (e2.trans e23)
    have hls3 := hls w3 e3
    have hE3 := Ext.refl w3
    clear hcp hcp1 hls hrk g3 h3 hD
    have p0 := fun w' (h : Ext w3 w') => p0 w' (e3.trans h)
    have p1 := fun w' (h : Ext w3 w') => p1 w' (e3.trans h)
    have p2 := fun w' (h : Ext w3 w') => p2 w' (e3.trans h)
    go_upto_region 25 with (first
      | ((with_reducible refine hls3.mono ?_); rintro e w4 ⟨A4, rfl, e4⟩; have hfi4 := hfi w4 (e3.trans e4))
      | ((with_reducible refine hfi4.mono ?_); rintro e w5 ⟨rfl, e5⟩; have e35 := e4.trans e5; have hco5 := hco w5 (e3.trans e35))
      | ((with_reducible refine hco5.mono ?_); rintro e w6 ⟨rfl, e6⟩; have e36 := e35.trans e6; have hng6 := hng w6 (e3.trans e36))
      | ((with_reducible refine hng6.mono ?_); rintro e w7 ⟨rfl, e7⟩; have e37 := e36.trans e7; have hl7 := hlv w7 (e3.trans e37)))
    go_wp2_with ((with_reducible refine hl7.mono ?_); rintro e w8 ⟨rfl, e8⟩)
    go_ret
    exact ⟨rfl, HA.out.1.trans ((e3.trans e37).trans e8)⟩
set_option maxRecDepth 100000 in
set_option maxHeartbeats 8000000 in
theorem err_t9 (w W : World) (b3 b4 : Nat) (xv : Value) (xs : List Int) (c : Nat) (a b : Dfa) (za0 z0 : Int) (c0 c1 c5 c6 c9 c10 c11 c12 c13 c14 c15 c16 c17 c18 c19 c20 c21 c22 c23 c24 c25 c26 c27 c28 c29 c30 c31 c32 c33 c34 c35 c36 c37 c38 c39 c40 c41 c42 c43 c44 c45 c46 c47 c48 c49 c50 c51 c52 c53 c54 c55 c56 c57 c58 c59 c60 c61 c62 c63 c64 c65 c66 c67 c68 c69 c70 c71 c72 c73 c74 c75 c76 c77 c78 c79 c80 c81 c82 c83 c84 c85 c86 c87 c88 c89 c90 c91 c92 c93 c94 c95 c96 c97 c98 c99 c100 c101 c102 c103 c104 c105 c106 c107 c108 c109 c110 c111 c112 c113 c114 c115 c116 c117 c118 c119 c120 c121 c122 c123 c124 c125 c126 c127 c128 c129 c130 c131 c132 c133 c134 c135 c136 c137 c138 c139 c140 c141 c142 c143 c144 c145 c146 c147 c148 c149 c150 c151 c152 c153 c154 c155 c156 c157 c158 c159 c160 c161 c162 c163 c164 c165 c166 c167 c168 c169 c170 c171 c172 c173 c174 c175 c176 c177 c178 c179 c180 c181 c182 c183 c184 c185 c186 c187 c188 c189 c190 c191 c192 c193 c194 c195 c196 c197 c198 c199 c200 c201 c202 c203 c204 c205 c206 c207 c208 c209 c210 c211 c212 c213 c214 c215 c216 c217 c218 c219 c220 c221 c222 c223 c224 c225 c226 c227 c228 c229 c230 c231 c232 c233 c234 c235 c236 c237 c238 c239 c240 c241 c242 c243 c244 c245 c246 c247 c248 c249 c250 c251 c252 c253 c254 c255 c256 : Value) (h0 : Ext w W) (hm : GlobM W) (hc : GlobC W) (hu : GlobU W) (hb : BoxD W b3 a) (hb' : BoxD W b4 b) (hx : IntsC W xv xs c) (hn : a.rows.length * b.rows.length ≤ 256) (hza0 : checkD a = za0) (hz0 : chkL a b = z0) :
    Code.wp Tryd.prog (T10 9) (bodyPost Tryd.prog Tryd.f10 fun e w' => e = .returned (.bool true) ∧ Ext w w') ⟨(c0 :: c1 :: xv :: .pointer (some ⟨b3, 0, none⟩) :: .pointer (some ⟨b4, 0, none⟩) :: c5 :: c6 :: .int .i64 za0 :: .int .i64 z0 :: c9 :: c10 :: c11 :: c12 :: c13 :: c14 :: c15 :: c16 :: c17 :: c18 :: c19 :: c20 :: c21 :: c22 :: c23 :: c24 :: c25 :: c26 :: c27 :: c28 :: c29 :: c30 :: c31 :: c32 :: c33 :: c34 :: c35 :: c36 :: c37 :: c38 :: c39 :: c40 :: c41 :: c42 :: c43 :: c44 :: c45 :: c46 :: c47 :: c48 :: c49 :: c50 :: c51 :: c52 :: c53 :: c54 :: c55 :: c56 :: c57 :: c58 :: c59 :: c60 :: c61 :: c62 :: c63 :: c64 :: c65 :: c66 :: c67 :: c68 :: c69 :: c70 :: c71 :: c72 :: c73 :: c74 :: c75 :: c76 :: c77 :: c78 :: c79 :: c80 :: c81 :: c82 :: c83 :: c84 :: c85 :: c86 :: c87 :: c88 :: c89 :: c90 :: c91 :: c92 :: c93 :: c94 :: c95 :: c96 :: c97 :: c98 :: c99 :: c100 :: c101 :: c102 :: c103 :: c104 :: c105 :: c106 :: c107 :: c108 :: c109 :: c110 :: c111 :: c112 :: c113 :: c114 :: c115 :: c116 :: c117 :: c118 :: c119 :: c120 :: c121 :: c122 :: c123 :: c124 :: c125 :: c126 :: c127 :: c128 :: c129 :: c130 :: c131 :: c132 :: c133 :: c134 :: c135 :: c136 :: c137 :: c138 :: c139 :: c140 :: c141 :: c142 :: c143 :: c144 :: c145 :: c146 :: c147 :: c148 :: c149 :: c150 :: c151 :: c152 :: c153 :: c154 :: c155 :: c156 :: c157 :: c158 :: c159 :: c160 :: c161 :: c162 :: c163 :: c164 :: c165 :: c166 :: c167 :: c168 :: c169 :: c170 :: c171 :: c172 :: c173 :: c174 :: c175 :: c176 :: c177 :: c178 :: c179 :: c180 :: c181 :: c182 :: c183 :: c184 :: c185 :: c186 :: c187 :: c188 :: c189 :: c190 :: c191 :: c192 :: c193 :: c194 :: c195 :: c196 :: c197 :: c198 :: c199 :: c200 :: c201 :: c202 :: c203 :: c204 :: c205 :: c206 :: c207 :: c208 :: c209 :: c210 :: c211 :: c212 :: c213 :: c214 :: c215 :: c216 :: c217 :: c218 :: c219 :: c220 :: c221 :: c222 :: c223 :: c224 :: c225 :: c226 :: c227 :: c228 :: c229 :: c230 :: c231 :: c232 :: c233 :: c234 :: c235 :: c236 :: c237 :: c238 :: c239 :: c240 :: c241 :: c242 :: c243 :: c244 :: c245 :: c246 :: c247 :: c248 :: c249 :: c250 :: c251 :: c252 :: c253 :: c254 :: c255 :: c256 :: []).toArray, []⟩ W := by
  subst hza0 hz0
  conv => arg 2; whnf
  have HB := Lib.hid hb
  obtain ⟨Ar, Aa, cr, ca, p0, p1, p2, hD⟩ := hb
  obtain ⟨Ar', Aa', cr', ca', q0, q1, q2, hD'⟩ := hb'
  have p0 := fun w' (h : Ext W w') => h.cell p0
  have p1 := fun w' (h : Ext W w') => h.cell p1
  have p2 := fun w' (h : Ext W w') => h.cell p2
  have q0 := fun w' (h : Ext W w') => h.cell q0
  have q1 := fun w' (h : Ext W w') => h.cell q1
  have q2 := fun w' (h : Ext W w') => h.cell q2
  have hE0 := Ext.refl W
  have HA := Lib.hid (And.intro h0 (And.intro hm (And.intro hc (And.intro hu hx))))
  have hsm : chkL a b = 0 → (pairsL a b).length ≤ 256 := fun h => pairs_small h hn
  have hun := op_err (Union_any W _ _ a b hD hD' hu) hsm
  have hcm := fun W1 (e : Ext W W1) => op_err (Common_any W1 _ _ a b (hD.ext e) (hD'.ext e) (hc.ext e)) hsm
  have hmi := fun W1 (e : Ext W W1) => op_err (Minus_any W1 _ _ a b (hD.ext e) (hD'.ext e) (hm.ext e)) hsm
  have hin := fun W1 (e : Ext W W1) => incl_err (Inclusion_any W1 _ _ a b (hD.ext e) (hD'.ext e) (hm.ext e)) hn
  clear h0 hm hc hu hx hsm hn
  generalize chkL a b = z at *
  generalize hza : checkD a = za at *
  have HZA := Lib.hid hza.symm
  clear hza
  go_upto_region 10 with (first
    | ((with_reducible refine hun.mono ?_); rintro e w1 ⟨sy1, A1, n1, c1', AA1, na1, ca1, rfl, hz1, e1⟩)
    | (with_reducible refine wpList_store_blk _ rfl 28 _ _ rfl w1.heap.size 28 _ _ rfl rfl (heap_alloc_new _ _) (by kernel_rfl) (by kernel_rfl) (by kernel_rfl) ?_; intro w2 h2 g2))
  have e12 : Ext w1 w2 := Below.grown (alloc_ext w1 _) g2 (alloc_ext w1 _).size (fun k hk => by cases hk; exact Nat.le_refl _)
  have u1 := cell_of_blk h2 1 (u := .slice A1 n1 c1') rfl
  have eB := e1.trans e12
  have hcm2 := hcm w2 eB
  clear hun hcm h2 g2 e1 e12
  generalize w1.heap.size = bu at *
  go_upto_region 11 with (first
    | ((with_reducible refine hcm2.mono ?_); rintro e w3 ⟨sy3, A3, n3, c3', AA3, na3, ca3, rfl, hz3, e3⟩)
    | (with_reducible refine wpList_store_blk _ rfl 28 _ _ rfl w3.heap.size 28 _ _ rfl rfl (heap_alloc_new _ _) (by kernel_rfl) (by kernel_rfl) (by kernel_rfl) ?_; intro w4 h4 g4))
  have e34 : Ext w3 w4 := Below.grown (alloc_ext w3 _) g4 (alloc_ext w3 _).size (fun k hk => by cases hk; exact Nat.le_refl _)
  have u3 := cell_of_blk h4 1 (u := .slice A3 n3 c3') rfl
  have u1 := (e3.trans e34).cell u1
  have eC := eB.trans (e3.trans e34)
  have hmi4 := hmi w4 eC
  clear hcm2 hmi h4 g4 e3 e34 eB
  generalize w3.heap.size = bc at *
  go_upto_region 12 with (first
    | ((with_reducible refine hmi4.mono ?_); rintro e w5 ⟨sy5, A5, n5, c5', AA5, na5, ca5, rfl, hz5, e5⟩)
    | (with_reducible refine wpList_store_blk _ rfl 28 _ _ rfl w5.heap.size 28 _ _ rfl rfl (heap_alloc_new _ _) (by kernel_rfl) (by kernel_rfl) (by kernel_rfl) ?_; intro w6 h6 g6))
  have e56 : Ext w5 w6 := Below.grown (alloc_ext w5 _) g6 (alloc_ext w5 _).size (fun k hk => by cases hk; exact Nat.le_refl _)
  have u5 := cell_of_blk h6 1 (u := .slice A5 n5 c5') rfl
  have u1 := (e5.trans e56).cell u1
  have u3 := (e5.trans e56).cell u3
  have eD := eC.trans (e5.trans e56)
  have hin6 := hin w6 eD
  clear hmi4 hin h6 g6 e5 e56 eC
  generalize w5.heap.size = bm at *
  go_upto_region 13 with ((with_reducible refine hin6.mono ?_); rintro e w7 ⟨B7, A7, n7, c7', rfl, hz7, e7⟩)
  have u1 := e7.cell u1
  have u3 := e7.cell u3
  have u5 := e7.cell u5
  have eE := eD.trans e7
  have HE := Lib.hid eE
  clear hin6 eD e7 p0 p1 p2 q0 q1 q2 eE hD hD' hE0
  by_cases hz : z = 0
  · subst hz
    clear hz1 hz3 hz5 hz7 u1 u3 u5
    go_upto_region 999 with (with_reducible refine stop_at 15 ?_)
    refine ⟨?_⟩
    rw [HZA.out]
    exact err_t15 w w7 b3 xv xs c a _ _ _ _ _ _ _ _ _ _ _ _ _ _ _ _ _ _ _ _ _ _ _ _ _ _ _ _ _ _ _ _ _ _ _ _ _ _ _ _ _ _ _ _ _ _ _ _ _ _ _ _ _ _ _ _ _ _ _ _ _ _ _ _ _ _ _ _ _ _ _ _ _ _ _ _ _ _ _ _ _ _ _ _ _ _ _ _ _ _ _ _ _ _ _ _ _ _ _ _ _ _ _ _ _ _ _ _ _ _ _ _ _ _ _ _ _ _ _ _ _ _ _ _ _ _ _ _ _ _ _ _ _ _ _ _ _ _ _ _ _ _ _ _ _ _ _ _ _ _ _ _ _ _ _ _ _ _ _ _ _ _ _ _ _ _ _ _ _ _ _ _ _ _ _ _ _ _ _ _ _ _ _ _ _ _ _ _ _ _ _ _ _ _ _ _ _ _ _ _ _ _ _ _ _ _ _ _ _ _ _ _ _ _ _ _ _ _ _ _ _ _ _ _ _ _ _ _ _ _ _ _ _ _ _ _ _ _ _ _ _ _ _ _ _ _ _ _ _ _ _ _ _ _ (HA.out.1.trans HE.out) (HA.out.2.1.ext HE.out) (HA.out.2.2.1.ext HE.out) (HB.out.ext HE.out) (HA.out.2.2.2.2.ext HE.out)
  · obtain rfl := hz1 hz
    obtain rfl := hz3 hz
    obtain rfl := hz5 hz
    obtain ⟨rfl, rfl⟩ := hz7 hz
    have hz' : (z != 0) = true := by simpa using hz
    clear hz1 hz3 hz5 hz7 hz
    go_upto_region 999 with (with_reducible refine stop_at 15 ?_)
    refine ⟨?_⟩
    rw [HZA.out]
    exact err_t15 w w7 b3 xv xs c a _ _ _ _ _ _ _ _ _ _ _ _ _ _ _ _ _ _ _ _ _ _ _ _ _ _ _ _ _ _ _ _ _ _ _ _ _ _ _ _ _ _ _ _ _ _ _ _ _ _ _ _ _ _ _ _ _ _ _ _ _ _ _ _ _ _ _ _ _ _ _ _ _ _ _ _ _ _ _ _ _ _ _ _ _ _ _ _ _ _ _ _ _ _ _ _ _ _ _ _ _ _ _ _ _ _ _ _ _ _ _ _ _ _ _ _ _ _ _ _ _ _ _ _ _ _ _ _ _ _ _ _ _ _ _ _ _ _ _ _ _ _ _ _ _ _ _ _ _ _ _ _ _ _ _ _ _ _ _ _ _ _ _ _ _ _ _ _ _ _ _ _ _ _ _ _ _ _ _ _ _ _ _ _ _ _ _ _ _ _ _ _ _ _ _ _ _ _ _ _ _ _ _ _ _ _ _ _ _ _ _ _ _ _ _ _ _ _ _ _ _ _ _ _ _ _ _ _ _ _ _ _ _ _ _ _ _ _ _ _ _ _ _ _ _ _ _ _ _ _ _ _ _ _ (HA.out.1.trans HE.out) (HA.out.2.1.ext HE.out) (HA.out.2.2.1.ext HE.out) (HB.out.ext HE.out) (HA.out.2.2.2.2.ext HE.out)
theorem chk_two {a b : Dfa} : chkL a b = if checkD a ≠ 0 then checkD a else if checkD b ≠ 0 then checkD b else if a.sy ≠ b.sy then 5 else 0 := rfl
set_option maxRecDepth 100000 in
set_option maxHeartbeats 8000000 in
theorem LangsErrors_any (w : World) (v0 v1 : Value) (a b : Dfa) (xv : Value) (xs : List Int) (c : Nat) (hd : DfaV w v0 a) (hd' : DfaV w v1 b) (hx : IntsC w xv xs c) (hm : GlobM w) (hc : GlobC w) (hu : GlobU w) :
    Calls Tryd.prog 10 #[v0, v1, xv] w fun e w' => e = .returned (.bool true) ∧ Ext w w' := by
  obtain ⟨rv, cr, av, ca, rfl, hr, ha⟩ := id hd
  obtain ⟨Ar, vr, rfl, _, _, _, _, hrm⟩ := id hr
  obtain ⟨Aa, rfl, hac, _, ham⟩ := id ha
  obtain ⟨rv', cr', av', ca', rfl, hr', ha'⟩ := id hd'
  obtain ⟨Ar', vr', rfl, _, _, _, _, hrm'⟩ := id hr'
  obtain ⟨Aa', rfl, hac', _, ham'⟩ := id ha'
  obtain ⟨Ax, rfl, _, _, hxm⟩ := id hx
  unfold lenMax at hrm ham hrm' ham' hxm
  clear hr hr' ha ha' hac hac'
  go_enter Tryd.func10, Tryd.ntmps10
  go_upto_region 1 with fail
  refine wp_named ?_
  intro W1 hW1
  have hE1 : Ext w W1 := by rw [hW1]; exact ((Ext.refl _).alloc _).alloc _
  have k0 : ∀ w', Ext W1 w' → w'.cell? ⟨w.heap.size, 0, none⟩ = some (.int .i64 a.sy) := fun w' h => h.cell (by rw [hW1]; simp [go_sem])
  have k1 : ∀ w', Ext W1 w' → w'.cell? ⟨w.heap.size, 1, none⟩ = some (.slice Ar a.rows.length cr) := fun w' h => h.cell (by rw [hW1]; simp [go_sem])
  have k2 : ∀ w', Ext W1 w' → w'.cell? ⟨w.heap.size, 2, none⟩ = some (.slice Aa a.acc.length ca) := fun w' h => h.cell (by rw [hW1]; simp [go_sem])
  have l0 : ∀ w', Ext W1 w' → w'.cell? ⟨w.heap.size + 1, 0, none⟩ = some (.int .i64 b.sy) := fun w' h => h.cell (by rw [hW1]; simp [go_sem])
  have l1 : ∀ w', Ext W1 w' → w'.cell? ⟨w.heap.size + 1, 1, none⟩ = some (.slice Ar' b.rows.length cr') := fun w' h => h.cell (by rw [hW1]; simp [go_sem])
  have l2 : ∀ w', Ext W1 w' → w'.cell? ⟨w.heap.size + 1, 2, none⟩ = some (.slice Aa' b.acc.length ca') := fun w' h => h.cell (by rw [hW1]; simp [go_sem])
  clear hW1
  have hE0 := Ext.refl W1
  have hlv := lives_any W1 (hm.ext hE1) (hc.ext hE1)
  by_cases hA1 : (15 : Int) < (a.rows.length : Int)
  · clear k0 k2 l0 l2 hd hd' hx
    go_wp2_with ((with_reducible refine hlv.mono ?_); rintro e w4 ⟨rfl, e4⟩)
    go_ret
    exact ⟨rfl, hE1.trans e4⟩
  by_cases hB1 : (15 : Int) < (b.rows.length : Int)
  · clear k0 k2 l0 l2 hd hd' hx
    go_wp2_with ((with_reducible refine hlv.mono ?_); rintro e w4 ⟨rfl, e4⟩)
    go_ret
    exact ⟨rfl, hE1.trans e4⟩
  by_cases hX1 : (300 : Int) < (xs.length : Int)
  · clear k0 k2 l0 l2 hd hd' hx
    go_wp2_with ((with_reducible refine hlv.mono ?_); rintro e w4 ⟨rfl, e4⟩)
    go_ret
    exact ⟨rfl, hE1.trans e4⟩
  have hn : a.rows.length * b.rows.length ≤ 256 := Nat.le_trans (Nat.mul_le_mul (show a.rows.length ≤ 15 by omega) (show b.rows.length ≤ 15 by omega)) (by omega)
  have HB1 : Hid (BoxD W1 w.heap.size a) := Lib.hid ⟨Ar, Aa, cr, ca, k0 _ hE0, k1 _ hE0, k2 _ hE0, hd.ext hE1⟩
  have HB2 : Hid (BoxD W1 (w.heap.size + 1) b) := Lib.hid ⟨Ar', Aa', cr', ca', l0 _ hE0, l1 _ hE0, l2 _ hE0, hd'.ext hE1⟩
  have HA := Lib.hid (And.intro hm (And.intro hc (And.intro hu (And.intro hx hn))))
  have hca := refCheck_any W1 _ a (hd.ext hE1)
  have hcb := fun W2 (e : Ext W1 W2) => refCheck_any W2 _ b (hd'.ext (hE1.trans e))
  have HL0 := Lib.hid (chk_two (a := a) (b := b))
  clear hm hc hu hx hn hlv hd hd'
  by_cases hz : checkD a = 0
  · have HZA := Lib.hid hz
    rw [hz] at hca
    go_upto_region 5 with ((with_reducible refine hca.mono ?_); rintro e w2 ⟨rfl, e2⟩)
    have hcb := hcb w2 e2
    by_cases hzb : checkD b = 0
    · rw [hzb] at hcb
      by_cases hs : a.sy = b.sy
      · have HL := Lib.hid (show chkL a b = 0 by rw [HL0.out, if_neg (fun h => h hz), if_neg (fun h => h hzb), if_neg (fun h => h hs)])
        have hs' : (a.sy != b.sy) = false := by simpa using hs
        clear hs hz hzb
        go_upto_region 7 with ((with_reducible refine hcb.mono ?_); rintro e w3 ⟨rfl, e3⟩)
        have e13 := e2.trans e3
        go_upto_region 999 with (with_reducible refine stop_at 9 ?_)
        refine ⟨?_⟩
        have HE := Lib.hid (hE1.trans e13)
        exact err_t9 w _ _ _ _ xs c a b _ _ _ _ _ _ _ _ _ _ _ _ _ _ _ _ _ _ _ _ _ _ _ _ _ _ _ _ _ _ _ _ _ _ _ _ _ _ _ _ _ _ _ _ _ _ _ _ _ _ _ _ _ _ _ _ _ _ _ _ _ _ _ _ _ _ _ _ _ _ _ _ _ _ _ _ _ _ _ _ _ _ _ _ _ _ _ _ _ _ _ _ _ _ _ _ _ _ _ _ _ _ _ _ _ _ _ _ _ _ _ _ _ _ _ _ _ _ _ _ _ _ _ _ _ _ _ _ _ _ _ _ _ _ _ _ _ _ _ _ _ _ _ _ _ _ _ _ _ _ _ _ _ _ _ _ _ _ _ _ _ _ _ _ _ _ _ _ _ _ _ _ _ _ _ _ _ _ _ _ _ _ _ _ _ _ _ _ _ _ _ _ _ _ _ _ _ _ _ _ _ _ _ _ _ _ _ _ _ _ _ _ _ _ _ _ _ _ _ _ _ _ _ _ _ _ _ _ _ _ _ _ _ _ _ _ _ _ _ _ _ _ _ _ _ _ _ _ _ _ _ _ _ _ HE.out (HA.out.1.ext HE.out) (HA.out.2.1.ext HE.out) (HA.out.2.2.1.ext HE.out) (HB1.out.ext e13) (HB2.out.ext e13) (HA.out.2.2.2.1.ext HE.out) HA.out.2.2.2.2 HZA.out HL.out
      · have HL := Lib.hid (show chkL a b = 5 by rw [HL0.out, if_neg (fun h => h hz), if_neg (fun h => h hzb), if_pos hs])
        have hs' : (a.sy != b.sy) = true := by simpa using hs
        clear hs hz hzb
        go_upto_region 7 with ((with_reducible refine hcb.mono ?_); rintro e w3 ⟨rfl, e3⟩)
        have e13 := e2.trans e3
        go_upto_region 999 with (with_reducible refine stop_at 9 ?_)
        refine ⟨?_⟩
        have HE := Lib.hid (hE1.trans e13)
        exact err_t9 w _ _ _ _ xs c a b _ _ _ _ _ _ _ _ _ _ _ _ _ _ _ _ _ _ _ _ _ _ _ _ _ _ _ _ _ _ _ _ _ _ _ _ _ _ _ _ _ _ _ _ _ _ _ _ _ _ _ _ _ _ _ _ _ _ _ _ _ _ _ _ _ _ _ _ _ _ _ _ _ _ _ _ _ _ _ _ _ _ _ _ _ _ _ _ _ _ _ _ _ _ _ _ _ _ _ _ _ _ _ _ _ _ _ _ _ _ _ _ _ _ _ _ _ _ _ _ _ _ _ _ _ _ _ _ _ _ _ _ _ _ _ _ _ _ _ _ _ _ _ _ _ _ _ _ _ _ _ _ _ _ _ _ _ _ _ _ _ _ _ _ _ _ _ _ _ _ _ _ _ _ _ _ _ _ _ _ _ _ _ _ _ _ _ _ _ _ _ _ _ _ _ _ _ _ _ _ _ _ _ _ _ _ _ _ _ _ _ _ _ _ _ _ _ _ _ _ _ _ _ _ _ _ _ _ _ _ _ _ _ _ _ _ _ _ _ _ _ _ _ _ _ _ _ _ _ _ _ _ _ _ HE.out (HA.out.1.ext HE.out) (HA.out.2.1.ext HE.out) (HA.out.2.2.1.ext HE.out) (HB1.out.ext e13) (HB2.out.ext e13) (HA.out.2.2.2.1.ext HE.out) HA.out.2.2.2.2 HZA.out HL.out
    · have HL := Lib.hid (show chkL a b = checkD b by rw [HL0.out, if_neg (fun h => h hz), if_pos hzb])
      have hzb' : (checkD b == 0) = false := by simpa using hzb
      clear hz hzb
      go_upto_region 7 with ((with_reducible refine hcb.mono ?_); rintro e w3 ⟨rfl, e3⟩)
      have e13 := e2.trans e3
      go_upto_region 999 with (with_reducible refine stop_at 9 ?_)
      refine ⟨?_⟩
      have HE := Lib.hid (hE1.trans e13)
      exact err_t9 w _ _ _ _ xs c a b _ _ _ _ _ _ _ _ _ _ _ _ _ _ _ _ _ _ _ _ _ _ _ _ _ _ _ _ _ _ _ _ _ _ _ _ _ _ _ _ _ _ _ _ _ _ _ _ _ _ _ _ _ _ _ _ _ _ _ _ _ _ _ _ _ _ _ _ _ _ _ _ _ _ _ _ _ _ _ _ _ _ _ _ _ _ _ _ _ _ _ _ _ _ _ _ _ _ _ _ _ _ _ _ _ _ _ _ _ _ _ _ _ _ _ _ _ _ _ _ _ _ _ _ _ _ _ _ _ _ _ _ _ _ _ _ _ _ _ _ _ _ _ _ _ _ _ _ _ _ _ _ _ _ _ _ _ _ _ _ _ _ _ _ _ _ _ _ _ _ _ _ _ _ _ _ _ _ _ _ _ _ _ _ _ _ _ _ _ _ _ _ _ _ _ _ _ _ _ _ _ _ _ _ _ _ _ _ _ _ _ _ _ _ _ _ _ _ _ _ _ _ _ _ _ _ _ _ _ _ _ _ _ _ _ _ _ _ _ _ _ _ _ _ _ _ _ _ _ _ _ _ _ _ HE.out (HA.out.1.ext HE.out) (HA.out.2.1.ext HE.out) (HA.out.2.2.1.ext HE.out) (HB1.out.ext e13) (HB2.out.ext e13) (HA.out.2.2.2.1.ext HE.out) HA.out.2.2.2.2 HZA.out HL.out
  · have HL := Lib.hid (show chkL a b = checkD a by rw [HL0.out, if_pos hz])
    have hz' : (checkD a == 0) = false := by simpa using hz
    clear hz
    go_upto_region 5 with ((with_reducible refine hca.mono ?_); rintro e w2 ⟨rfl, e2⟩)
    go_upto_region 999 with (with_reducible refine stop_at 9 ?_)
    refine ⟨?_⟩
    have HE := Lib.hid (hE1.trans e2)
    exact err_t9 w _ _ _ _ xs c a b _ _ _ _ _ _ _ _ _ _ _ _ _ _ _ _ _ _ _ _ _ _ _ _ _ _ _ _ _ _ _ _ _ _ _ _ _ _ _ _ _ _ _ _ _ _ _ _ _ _ _ _ _ _ _ _ _ _ _ _ _ _ _ _ _ _ _ _ _ _ _ _ _ _ _ _ _ _ _ _ _ _ _ _ _ _ _ _ _ _ _ _ _ _ _ _ _ _ _ _ _ _ _ _ _ _ _ _ _ _ _ _ _ _ _ _ _ _ _ _ _ _ _ _ _ _ _ _ _ _ _ _ _ _ _ _ _ _ _ _ _ _ _ _ _ _ _ _ _ _ _ _ _ _ _ _ _ _ _ _ _ _ _ _ _ _ _ _ _ _ _ _ _ _ _ _ _ _ _ _ _ _ _ _ _ _ _ _ _ _ _ _ _ _ _ _ _ _ _ _ _ _ _ _ _ _ _ _ _ _ _ _ _ _ _ _ _ _ _ _ _ _ _ _ _ _ _ _ _ _ _ _ _ _ _ _ _ _ _ _ _ _ _ _ _ _ _ _ _ _ _ _ _ _ HE.out (HA.out.1.ext HE.out) (HA.out.2.1.ext HE.out) (HA.out.2.2.1.ext HE.out) (HB1.out.ext e2) (HB2.out.ext e2) (HA.out.2.2.2.1.ext HE.out) HA.out.2.2.2.2 rfl HL.out
end Go.Proofs.YthlnmcokgfpgmaaDoor
