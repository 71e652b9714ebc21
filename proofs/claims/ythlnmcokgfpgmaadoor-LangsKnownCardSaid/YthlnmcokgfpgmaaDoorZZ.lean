/- THE LAW LangsKnown 11: the walk. -/
import Derived.Test.YthlnmcokgfpgmaaDoorZY
import Derived.Test.YthlnmcokgfpgmaaDoorZW
import Derived.Test.YthlnmcokgfpgmaaDoorZT
namespace Go.Proofs.YthlnmcokgfpgmaaDoor
open Go.RowKit Go.Maps
set_option linter.unusedVariables false
set_option linter.unusedSimpArgs false
attribute [local go_sem] Oper.quietV quietV Oper.gives givesV ext_refl_iff ext_alloc_iff ext_drew_iff ext_drewN_iff
noncomputable def T11 (n : Nat) : Code := textR n Tryd.f11.body
theorem dfaF_v {w : World} {v : Value} {d : Dfa} (h : DfaF w v d) : DfaV w v d := by
  obtain ⟨rv, av, h1, h2, h3⟩ := h
  exact ⟨rv, _, av, _, h1, h2, h3⟩
/-- An operation of two rings that gives the ring of 240. -/
theorem op_240 {args : Array Value} {W : World} (h : Calls Tryd.prog 33 args W (OpP (fun x y => x && y) (ringD 15) (ringD 16) W)) : Calls Tryd.prog 33 args W fun e w' => ∃ (A A' : Option Addr) (c c' : Nat), e = .returned (.tuple #[.agg #[.int .i64 1, .slice A 240 c, .slice A' 240 c'], .int .i64 0]) ∧ DfaV w' (.agg #[.int .i64 1, .slice A 240 c, .slice A' 240 c']) (ringD 240) ∧ Ext W w' :=
  h.mono fun e w' ⟨v, r, he, hop, hfar, hE⟩ => by
    have h1 := common_240 hop
    subst h1
    have hd := dfaF_v hfar.dfa
    obtain ⟨rv, cr, av, ca, hv, ⟨Ar, vr, hrv, _⟩, ⟨Aa, hav, _⟩⟩ := id hd
    have e1 : (ringD 240).rows.length = 240 := ring_n 240
    have e2 : (ringD 240).acc.length = 240 := by unfold ringD; simp
    rw [e1] at hrv
    rw [e2] at hav
    subst he hv hrv hav
    exact ⟨Ar, Aa, cr, ca, rfl, hd, hE⟩
/-- An operation of two rings that is refused. -/
theorem op_far {f : Nat} {g : Bool → Bool → Bool} {a b : Dfa} {args : Array Value} {W : World} (h : Calls Tryd.prog f args W (OpP g a b W)) (hr : ∀ r, OpR g a b r → r = (zeroD, 3)) : Calls Tryd.prog f args W fun e w' => ∃ (A A' : Option Addr) (c c' : Nat), e = .returned (.tuple #[.agg #[.int .i64 0, .slice A 0 c, .slice A' 0 c'], .int .i64 3]) ∧ Ext W w' :=
  h.mono fun e w' ⟨v, r, he, hop, hfar, hE⟩ => by
    have h1 := hr r hop
    subst h1
    obtain ⟨rv, cr, av, ca, hv, ⟨Ar, vr, hrv, _⟩, ⟨Aa, hav, _⟩⟩ := dfaF_v hfar.dfa
    subst he hv hrv hav
    exact ⟨Ar, Aa, cr, ca, rfl, hE⟩
theorem incl_form {args : Array Value} {W : World} {r : Bool × List Int × Int} {x : Bool} {l : List Int} {c : Int} {n : Nat} (h : Calls Tryd.prog 29 args W (InclP r W)) (hr : r = (x, l, c)) (hl : l.length = n) : Calls Tryd.prog 29 args W fun e w' => ∃ A, e = .returned (.tuple #[.bool x, .slice A n n, .int .i64 c]) ∧ Ext W w' :=
  h.mono fun e w' ⟨v, he, hf, hE⟩ => by
    subst hr
    obtain ⟨A, hv, _⟩ := hf
    rw [hl] at hv
    subst he hv
    exact ⟨A, rfl, hE⟩
def BoxR (W : World) (b n : Nat) : Prop := ∃ (A A' : Option Addr) (c c' : Nat), W.cell? ⟨b, 0, none⟩ = some (.int .i64 1) ∧ W.cell? ⟨b, 1, none⟩ = some (.slice A n c) ∧ W.cell? ⟨b, 2, none⟩ = some (.slice A' n c') ∧ DfaV W (.agg #[.int .i64 1, .slice A n c, .slice A' n c']) (ringD n)
theorem BoxR.ext {W W' : World} {b n : Nat} (h : BoxR W b n) (e : Ext W W') : BoxR W' b n := by
  obtain ⟨A, A', c, c', h1, h2, h3, h4⟩ := h
  exact ⟨A, A', c, c', e.cell h1, e.cell h2, e.cell h3, h4.ext e⟩
def BoxA (W : World) (b : Nat) : Prop := ∃ (A A' : Option Addr) (c c' : Nat), W.cell? ⟨b, 0, none⟩ = some (.int .i64 16) ∧ W.cell? ⟨b, 1, none⟩ = some (.slice A 1 c) ∧ W.cell? ⟨b, 2, none⟩ = some (.slice A' 1 c') ∧ DfaV W (.agg #[.int .i64 16, .slice A 1 c, .slice A' 1 c']) allD
theorem nth_big {w : World} {dv : Value} {d : Dfa} (hd : DfaV w dv d) (hg : checkD d = 0) {k : Nat} {z : Int} {n : Nat} {u : List Nat} (hz : z = (k : Int)) (hk : k ≤ 9223372036854775807) (hs : (scan d 257 0 k).1 = n) (hn : n ≠ 257) (hu : nthW d n 0 (scan d 257 0 k).2 = u) (hl : u.length = n) : Calls Tryd.prog 21 #[dv, .int .i64 z] w fun e w' => ∃ A c, e = .returned (.tuple #[.slice A n c, .int .i64 0]) ∧ IntsC w' (.slice A n c) (wI u) c ∧ Ext w w' := by
  subst hz
  refine (Nth_any w dv d hd k (by omega)).mono fun e w' h => ?_
  unfold NthP at h
  rw [if_neg (fun h' => h' hg), if_neg (by omega), Int.toNat_natCast, hs, if_neg hn, hu] at h
  obtain ⟨v, he, hi, hE⟩ := h
  have hi : IntsC w' v (wI u) n := hi
  obtain ⟨A, hv, h2, h3, h4⟩ := id hi
  rw [wI_len, hl] at hv
  subst hv
  exact ⟨A, n, he, hi, hE⟩
theorem nth_lim {w : World} {dv : Value} (hd : DfaV w dv (ringD 2)) : Calls Tryd.prog 21 #[dv, .int .i64 129] w fun e w' => e = .returned (.tuple #[.slice none 0 0, .int .i64 3]) ∧ Ext w w' :=
  (nth_fin (k := 129) hd (ring_good (by omega)) (by omega) scan_129).mono fun e w' ⟨c, he, hc, hE⟩ => by
    rcases hc with ⟨_, h⟩ | ⟨rfl, _⟩
    · exact absurd h ring2_inf
    · exact ⟨he, hE⟩
def u128 : List Nat := nthW (ringD 2) 256 0 (scan (ringD 2) 257 0 128).2
set_option maxRecDepth 100000 in
theorem u128_len : u128.length = 256 := by decide +kernel
def w63 : List Nat := nthW allD 16 0 (scan allD 257 0 9223372036854775807).2
theorem w63_len : w63.length = 16 := by decide +kernel
theorem long_len : long.length = 256 := List.length_replicate
set_option maxRecDepth 100000 in
set_option maxHeartbeats 16000000 in
theorem known_t21 (w W : World) (b17 : Nat) (c0 c1 c2 c3 c4 c5 c6 c7 c8 c9 c10 c11 c12 c13 c14 c15 c16 c18 c19 c20 c21 c22 c23 c24 c25 c26 c27 c28 c29 c30 c31 c32 c33 c34 c35 c36 c37 c38 c39 c40 c41 c42 c43 c44 c45 c46 c47 c48 c49 c50 c51 c52 c53 c54 c55 c56 c57 c58 c59 c60 c61 c62 c63 c64 c65 c66 c67 c68 c69 c70 c71 c72 c73 c74 c75 c76 c77 c78 c79 c80 c81 c82 c83 c84 c85 c86 c87 c88 c89 c90 c91 c92 c93 c94 c95 c96 c97 c98 c99 c100 c101 c102 c103 c104 c105 c106 c107 c108 c109 c110 c111 c112 c113 c114 c115 c116 c117 c118 c119 c120 c121 c122 c123 c124 c125 c126 c127 c128 c129 c130 c131 c132 c133 c134 c135 c136 c137 c138 c139 c140 c141 c142 c143 c144 c145 c146 c147 c148 c149 c150 c151 c152 c153 c154 c155 c156 c157 c158 c159 c160 c161 c162 c163 c164 c165 c166 c167 c168 c169 c170 c171 c172 c173 c174 c175 c176 c177 c178 c179 c180 c181 c182 c183 c184 c185 c186 c187 c188 c189 c190 c191 c192 c193 c194 c195 c196 c197 c198 c199 c200 c201 c202 c203 c204 c205 c206 c207 c208 c209 c210 c211 c212 c213 c214 c215 c216 c217 c218 c219 c220 c221 c222 c223 c224 c225 c226 c227 c228 c229 c230 c231 c232 c233 c234 c235 c236 c237 c238 c239 c240 c241 c242 c243 c244 c245 c246 c247 c248 c249 c250 c251 c252 c253 c254 c255 c256 c257 c258 c259 c260 c261 c262 c263 c264 c265 c266 c267 c268 c269 c270 c271 c272 c273 : Value) (h0 : Ext w W) (hm : GlobM W) (hc : GlobC W) (hu : GlobU W) (hb : BoxA W b17) :
    Code.wp Tryd.prog (T11 21) (bodyPost Tryd.prog Tryd.f11 fun e w' => e = .returned (.bool true) ∧ Ext w w') ⟨(c0 :: c1 :: c2 :: c3 :: c4 :: c5 :: c6 :: c7 :: c8 :: c9 :: c10 :: c11 :: c12 :: c13 :: c14 :: c15 :: c16 :: .pointer (some ⟨b17, 0, none⟩) :: c18 :: c19 :: c20 :: c21 :: c22 :: c23 :: c24 :: c25 :: c26 :: c27 :: c28 :: c29 :: c30 :: c31 :: c32 :: c33 :: c34 :: c35 :: c36 :: c37 :: c38 :: c39 :: c40 :: c41 :: c42 :: c43 :: c44 :: c45 :: c46 :: c47 :: c48 :: c49 :: c50 :: c51 :: c52 :: c53 :: c54 :: c55 :: c56 :: c57 :: c58 :: c59 :: c60 :: c61 :: c62 :: c63 :: c64 :: c65 :: c66 :: c67 :: c68 :: c69 :: c70 :: c71 :: c72 :: c73 :: c74 :: c75 :: c76 :: c77 :: c78 :: c79 :: c80 :: c81 :: c82 :: c83 :: c84 :: c85 :: c86 :: c87 :: c88 :: c89 :: c90 :: c91 :: c92 :: c93 :: c94 :: c95 :: c96 :: c97 :: c98 :: c99 :: c100 :: c101 :: c102 :: c103 :: c104 :: c105 :: c106 :: c107 :: c108 :: c109 :: c110 :: c111 :: c112 :: c113 :: c114 :: c115 :: c116 :: c117 :: c118 :: c119 :: c120 :: c121 :: c122 :: c123 :: c124 :: c125 :: c126 :: c127 :: c128 :: c129 :: c130 :: c131 :: c132 :: c133 :: c134 :: c135 :: c136 :: c137 :: c138 :: c139 :: c140 :: c141 :: c142 :: c143 :: c144 :: c145 :: c146 :: c147 :: c148 :: c149 :: c150 :: c151 :: c152 :: c153 :: c154 :: c155 :: c156 :: c157 :: c158 :: c159 :: c160 :: c161 :: c162 :: c163 :: c164 :: c165 :: c166 :: c167 :: c168 :: c169 :: c170 :: c171 :: c172 :: c173 :: c174 :: c175 :: c176 :: c177 :: c178 :: c179 :: c180 :: c181 :: c182 :: c183 :: c184 :: c185 :: c186 :: c187 :: c188 :: c189 :: c190 :: c191 :: c192 :: c193 :: c194 :: c195 :: c196 :: c197 :: c198 :: c199 :: c200 :: c201 :: c202 :: c203 :: c204 :: c205 :: c206 :: c207 :: c208 :: c209 :: c210 :: c211 :: c212 :: c213 :: c214 :: c215 :: c216 :: c217 :: c218 :: c219 :: c220 :: c221 :: c222 :: c223 :: c224 :: c225 :: c226 :: c227 :: c228 :: c229 :: c230 :: c231 :: c232 :: c233 :: c234 :: c235 :: c236 :: c237 :: c238 :: c239 :: c240 :: c241 :: c242 :: c243 :: c244 :: c245 :: c246 :: c247 :: c248 :: c249 :: c250 :: c251 :: c252 :: c253 :: c254 :: c255 :: c256 :: c257 :: c258 :: c259 :: c260 :: c261 :: c262 :: c263 :: c264 :: c265 :: c266 :: c267 :: c268 :: c269 :: c270 :: c271 :: c272 :: c273 :: []).toArray, []⟩ W := by
  conv => arg 2; whnf
  obtain ⟨A, A', c, c', p0, p1, p2, hD⟩ := hb
  have p0 := fun w' (h : Ext W w') => h.cell p0
  have p1 := fun w' (h : Ext W w') => h.cell p1
  have p2 := fun w' (h : Ext W w') => h.cell p2
  have hE0 := Ext.refl W
  have HA := Lib.hid (And.intro h0 (And.intro hm (And.intro hc (And.intro hu hD))))
  have hlv := fun W1 (e : Ext W W1) => lives_any W1 (HA.out.2.1.ext e) (HA.out.2.2.1.ext e)
  have hn1 := nth_big hD all_good (z := 4611686018427387904) (k := 4611686018427387904) rfl (by omega) scan_62 (by omega) (u := w62) rfl w62_len
  have hn2 := fun W1 dv (h : DfaV W1 dv (ringD 2)) => nth_big h ((good_iff _).2 (ring_good (by omega))) (z := 128) (k := 128) rfl (by omega) scan_128 (by omega) (u := u128) rfl u128_len
  have hn3 := fun W1 dv (h : DfaV W1 dv (ringD 2)) => nth_lim h
  have hn4 := fun W1 (e : Ext W W1) => nth_big (hD.ext e) all_good (z := 9223372036854775807) (k := 9223372036854775807) rfl (by omega) scan_63 (by omega) (u := w63) rfl w63_len
  have hrk := fun W1 (e : Ext W W1) dv c9 (h : IntsC W1 dv (wI w62) c9) => two_val (Rank_any W1 _ allD (hD.ext e) dv _ c9 h) rank_62
  have hev := fun W1 => even_any W1
  have hle := fun W1 (e : Ext W W1) v0 v1 (h1 : DfaV W1 v0 (ringD 2)) (h2 : DfaV W1 v1 evenD) => LangsErrors_any W1 v0 v1 (ringD 2) evenD (.slice none 0 0) [] 0 h1 h2 (fit_nil _) (HA.out.2.1.ext e) (HA.out.2.2.1.ext e) (HA.out.2.2.2.1.ext e)
  have hr2 : ∀ W, Calls Tryd.prog 39 #[.int .i64 2] W fun e w' => ∃ v, e = .returned v ∧ DfaV w' v (ringD 2) ∧ Ext W w' := fun W => ring_any W 2 (by omega)
  clear h0 hm hc hu hD
  go_upto_region 22 with ((with_reducible refine hn1.mono ?_); rintro e w1 ⟨A1, c1, rfl, hi1, e1⟩)
  go_upto_region 23 with (first
    | ((with_reducible refine (hr2 _).mono ?_); rintro e w2 ⟨v2, rfl, hd2, e2⟩; have hn2' := hn2 w2 v2 hd2)
    | ((with_reducible refine hn2'.mono ?_); rintro e w3 ⟨A3, c3, rfl, hi3, e3⟩))
  have e23 := e2.trans e3
  have e13 := e1.trans e23
  clear hn1 hn2 hn2' hd2 e2 e3 hi3
  go_upto_region 24 with (first
    | ((with_reducible refine (hr2 _).mono ?_); rintro e w4 ⟨v4, rfl, hd4, e4⟩; have hn3' := hn3 w4 v4 hd4)
    | ((with_reducible refine hn3'.mono ?_); rintro e w5 ⟨rfl, e5⟩))
  have e15 := e13.trans (e4.trans e5)
  have hn4 := hn4 w5 e15
  clear hn3 hn3' hd4
  go_upto_region 25 with ((with_reducible refine hn4.mono ?_); rintro e w6 ⟨A6, c6, rfl, hi6, e6⟩)
  have e16 := e15.trans e6
  have e61 := e23.trans ((e4.trans e5).trans e6)
  have hrk6 := hrk w6 e16 _ _ (hi1.ext e61)
  clear hn4 hrk hi1 hi6 e61
  go_upto_region 26 with ((with_reducible refine hrk6.mono ?_); rintro e w7 ⟨rfl, e7⟩)
  have e17 := e16.trans e7
  clear hrk6 p0 p1 p2
  go_wp2_with (first
    | ((with_reducible refine (hr2 _).mono ?_); rintro e w8 ⟨v8, rfl, hd8, e8⟩; have hev8 := hev w8)
    | ((with_reducible refine hev8.mono ?_); rintro e w9 ⟨v9, rfl, hd9, e9⟩; have e19 := e17.trans (e8.trans e9); have hle9 := hle w9 e19 v8 v9 (hd8.ext e9) (dfaF_v hd9))
    | ((with_reducible refine hle9.mono ?_); rintro e w10 ⟨rfl, e10⟩; have hl := hlv w10 (e19.trans e10))
    | ((with_reducible refine hl.mono ?_); rintro e w11 ⟨rfl, e11⟩))
  go_ret
  exact ⟨rfl, HA.out.1.trans ((e19.trans e10).trans e11)⟩
set_option maxRecDepth 100000 in
set_option maxHeartbeats 16000000 in
theorem known_t13 (w W : World) (c0 c1 c2 c3 c4 c5 c6 c7 c8 c9 c10 c11 c12 c13 c14 c15 c16 c17 c18 c19 c20 c21 c22 c23 c24 c25 c26 c27 c28 c29 c30 c31 c32 c33 c34 c35 c36 c37 c38 c39 c40 c41 c42 c43 c44 c45 c46 c47 c48 c49 c50 c51 c52 c53 c54 c55 c56 c57 c58 c59 c60 c61 c62 c63 c64 c65 c66 c67 c68 c69 c70 c71 c72 c73 c74 c75 c76 c77 c78 c79 c80 c81 c82 c83 c84 c85 c86 c87 c88 c89 c90 c91 c92 c93 c94 c95 c96 c97 c98 c99 c100 c101 c102 c103 c104 c105 c106 c107 c108 c109 c110 c111 c112 c113 c114 c115 c116 c117 c118 c119 c120 c121 c122 c123 c124 c125 c126 c127 c128 c129 c130 c131 c132 c133 c134 c135 c136 c137 c138 c139 c140 c141 c142 c143 c144 c145 c146 c147 c148 c149 c150 c151 c152 c153 c154 c155 c156 c157 c158 c159 c160 c161 c162 c163 c164 c165 c166 c167 c168 c169 c170 c171 c172 c173 c174 c175 c176 c177 c178 c179 c180 c181 c182 c183 c184 c185 c186 c187 c188 c189 c190 c191 c192 c193 c194 c195 c196 c197 c198 c199 c200 c201 c202 c203 c204 c205 c206 c207 c208 c209 c210 c211 c212 c213 c214 c215 c216 c217 c218 c219 c220 c221 c222 c223 c224 c225 c226 c227 c228 c229 c230 c231 c232 c233 c234 c235 c236 c237 c238 c239 c240 c241 c242 c243 c244 c245 c246 c247 c248 c249 c250 c251 c252 c253 c254 c255 c256 c257 c258 c259 c260 c261 c262 c263 c264 c265 c266 c267 c268 c269 c270 c271 c272 c273 : Value) (h0 : Ext w W) (hm : GlobM W) (hc : GlobC W) (hu : GlobU W) :
    Code.wp Tryd.prog (T11 13) (bodyPost Tryd.prog Tryd.f11 fun e w' => e = .returned (.bool true) ∧ Ext w w') ⟨(c0 :: c1 :: c2 :: c3 :: c4 :: c5 :: c6 :: c7 :: c8 :: c9 :: c10 :: c11 :: c12 :: c13 :: c14 :: c15 :: c16 :: c17 :: c18 :: c19 :: c20 :: c21 :: c22 :: c23 :: c24 :: c25 :: c26 :: c27 :: c28 :: c29 :: c30 :: c31 :: c32 :: c33 :: c34 :: c35 :: c36 :: c37 :: c38 :: c39 :: c40 :: c41 :: c42 :: c43 :: c44 :: c45 :: c46 :: c47 :: c48 :: c49 :: c50 :: c51 :: c52 :: c53 :: c54 :: c55 :: c56 :: c57 :: c58 :: c59 :: c60 :: c61 :: c62 :: c63 :: c64 :: c65 :: c66 :: c67 :: c68 :: c69 :: c70 :: c71 :: c72 :: c73 :: c74 :: c75 :: c76 :: c77 :: c78 :: c79 :: c80 :: c81 :: c82 :: c83 :: c84 :: c85 :: c86 :: c87 :: c88 :: c89 :: c90 :: c91 :: c92 :: c93 :: c94 :: c95 :: c96 :: c97 :: c98 :: c99 :: c100 :: c101 :: c102 :: c103 :: c104 :: c105 :: c106 :: c107 :: c108 :: c109 :: c110 :: c111 :: c112 :: c113 :: c114 :: c115 :: c116 :: c117 :: c118 :: c119 :: c120 :: c121 :: c122 :: c123 :: c124 :: c125 :: c126 :: c127 :: c128 :: c129 :: c130 :: c131 :: c132 :: c133 :: c134 :: c135 :: c136 :: c137 :: c138 :: c139 :: c140 :: c141 :: c142 :: c143 :: c144 :: c145 :: c146 :: c147 :: c148 :: c149 :: c150 :: c151 :: c152 :: c153 :: c154 :: c155 :: c156 :: c157 :: c158 :: c159 :: c160 :: c161 :: c162 :: c163 :: c164 :: c165 :: c166 :: c167 :: c168 :: c169 :: c170 :: c171 :: c172 :: c173 :: c174 :: c175 :: c176 :: c177 :: c178 :: c179 :: c180 :: c181 :: c182 :: c183 :: c184 :: c185 :: c186 :: c187 :: c188 :: c189 :: c190 :: c191 :: c192 :: c193 :: c194 :: c195 :: c196 :: c197 :: c198 :: c199 :: c200 :: c201 :: c202 :: c203 :: c204 :: c205 :: c206 :: c207 :: c208 :: c209 :: c210 :: c211 :: c212 :: c213 :: c214 :: c215 :: c216 :: c217 :: c218 :: c219 :: c220 :: c221 :: c222 :: c223 :: c224 :: c225 :: c226 :: c227 :: c228 :: c229 :: c230 :: c231 :: c232 :: c233 :: c234 :: c235 :: c236 :: c237 :: c238 :: c239 :: c240 :: c241 :: c242 :: c243 :: c244 :: c245 :: c246 :: c247 :: c248 :: c249 :: c250 :: c251 :: c252 :: c253 :: c254 :: c255 :: c256 :: c257 :: c258 :: c259 :: c260 :: c261 :: c262 :: c263 :: c264 :: c265 :: c266 :: c267 :: c268 :: c269 :: c270 :: c271 :: c272 :: c273 :: []).toArray, []⟩ W := by
  conv => arg 2; whnf
  have HA := Lib.hid (And.intro h0 (And.intro hm (And.intro hc hu)))
  have hmk : ∀ w : World, (Instr.makeSlice 31 (.int .i64 16) (.int .i64 16)).run Tryd.prog w = .ok (.slice (some ⟨w.heap.size, 0, none⟩) 16 16) (w.alloc (.cells (Array.replicate 16 (.int .i64 0)) 3)) := mk_ints 16 (by omega)
  have hEW := Ext.refl W
  have eA : Ext W ((((W.alloc (.cells (Array.replicate 16 (.int .i64 0)) 3)).alloc (.cells #[.slice (some ⟨W.heap.size, 0, none⟩) 16 16] 31)).alloc (.cells #[.bool true] 4)).alloc (.cells #[.int .i64 0, .slice none 0 0, .slice none 0 0] 28)) := (((alloc_ext _ _).trans (alloc_ext _ _)).trans (alloc_ext _ _)).trans (alloc_ext _ _)
  have q4 : ((((W.alloc (.cells (Array.replicate 16 (.int .i64 0)) 3)).alloc (.cells #[.slice (some ⟨W.heap.size, 0, none⟩) 16 16] 31)).alloc (.cells #[.bool true] 4)).alloc (.cells #[.int .i64 0, .slice none 0 0, .slice none 0 0] 28)).heap[W.heap.size]? = some (.cells (Array.replicate 16 (.int .i64 0)) 3 (0, 0)) := heap_ext (((alloc_ext _ _).trans (alloc_ext _ _)).trans (alloc_ext _ _)) (heap_alloc_new _ _)
  have q5 : ((((W.alloc (.cells (Array.replicate 16 (.int .i64 0)) 3)).alloc (.cells #[.slice (some ⟨W.heap.size, 0, none⟩) 16 16] 31)).alloc (.cells #[.bool true] 4)).alloc (.cells #[.int .i64 0, .slice none 0 0, .slice none 0 0] 28)).heap[W.heap.size + 1]? = some (.cells #[.slice (some ⟨W.heap.size, 0, none⟩) 16 16] 31 (0, 0)) := heap_ext ((alloc_ext _ _).trans (alloc_ext _ _)) (by have := heap_alloc_new (W.alloc (.cells (Array.replicate 16 (.int .i64 0)) 3)) (.cells #[.slice (some ⟨W.heap.size, 0, none⟩) 16 16] 31); simpa using this)
  have q6 : ((((W.alloc (.cells (Array.replicate 16 (.int .i64 0)) 3)).alloc (.cells #[.slice (some ⟨W.heap.size, 0, none⟩) 16 16] 31)).alloc (.cells #[.bool true] 4)).alloc (.cells #[.int .i64 0, .slice none 0 0, .slice none 0 0] 28)).heap[W.heap.size + 1 + 1]? = some (.cells #[.bool true] 4 (0, 0)) := heap_ext (alloc_ext _ _) (by have := heap_alloc_new ((W.alloc (.cells (Array.replicate 16 (.int .i64 0)) 3)).alloc (.cells #[.slice (some ⟨W.heap.size, 0, none⟩) 16 16] 31)) (.cells #[.bool true] 4); simpa using this)
  have q8 : ((((W.alloc (.cells (Array.replicate 16 (.int .i64 0)) 3)).alloc (.cells #[.slice (some ⟨W.heap.size, 0, none⟩) 16 16] 31)).alloc (.cells #[.bool true] 4)).alloc (.cells #[.int .i64 0, .slice none 0 0, .slice none 0 0] 28)).heap[W.heap.size + 1 + 1 + 1]? = some (.cells #[.int .i64 0, .slice none 0 0, .slice none 0 0] 28 (0, 0)) := by have := heap_alloc_new (((W.alloc (.cells (Array.replicate 16 (.int .i64 0)) 3)).alloc (.cells #[.slice (some ⟨W.heap.size, 0, none⟩) 16 16] 31)).alloc (.cells #[.bool true] 4)) (.cells #[.int .i64 0, .slice none 0 0, .slice none 0 0] 28); simpa using this
  clear h0 hm hc hu
  generalize hs : W.heap.size = sz at *
  go_upto_region 14 with (with_reducible refine wpList_store_blk _ rfl 28 _ _ rfl (sz + 1 + 1 + 1) 28 _ _ rfl rfl q8 (by kernel_rfl) (by kernel_rfl) (by kernel_rfl) ?_; intro w1 h1 g1)
  have e1 : Ext W w1 := Below.grown eA g1 eA.size (fun k hk => by cases hk; omega)
  have hB5 := (g1.block (sz + 1) (lt_of_block q5) (by simp)).trans q5
  have hB4 := (g1.block sz (lt_of_block q4) (by simp; omega)).trans q4
  have hB6 := (g1.block (sz + 1 + 1) (lt_of_block q6) (by simp)).trans q6
  have hz : DfaV w1 (.agg #[.int .i64 16, .slice (some ⟨sz + 1, 0, none⟩) 1 1, .slice (some ⟨sz + 1 + 1, 0, none⟩) 1 1]) allD := by
    refine ⟨_, 1, _, 1, rfl, lists_blk hB5 rfl rfl (by omega) (fun i u es hu hes => ?_), bools_blk (xs := [true]) hB6 rfl rfl (by omega)⟩
    match i, hu, hes with
    | 0, hu, hes =>
      cases hu; cases hes
      refine ⟨16, ?_⟩
      have h := ints_blk (xs := List.replicate 16 0) (n := 16) hB4 (by simp) (by simp) (by omega)
      unfold FitC at h
      simpa using h
    | n + 1, hu, hes => simp at hu
  have y0 := cell_of_blk h1 0 (u := .int .i64 16) rfl
  have y1 := cell_of_blk h1 1 (u := .slice (some ⟨sz + 1, 0, none⟩) 1 1) rfl
  have y2 := cell_of_blk h1 2 (u := .slice (some ⟨sz + 1 + 1, 0, none⟩) 1 1) rfl
  have hbox : BoxA w1 (sz + 1 + 1 + 1) := ⟨_, _, _, _, y0, y1, y2, hz⟩
  have p0 := fun w' (h : Ext w1 w') => h.cell y0
  have p1 := fun w' (h : Ext w1 w') => h.cell y1
  have p2 := fun w' (h : Ext w1 w') => h.cell y2
  have hE1 := Ext.refl w1
  have HB := Lib.hid (And.intro hbox (And.intro e1 hz))
  have c15 := two_val (CountOf_any w1 _ allD hz 15) count_15
  have c16 := fun W2 (e : Ext w1 W2) => two_val (CountOf_any W2 _ allD (HB.out.2.2.ext e) 16) count_16
  clear hB5 hB4 hB6 h1 g1 q4 q5 q6 q8 eA hmk hz hbox y0 y1 y2 e1
  go_upto_region 15 with ((with_reducible refine c15.mono ?_); rintro e w2 ⟨rfl, e2⟩; have c16 := c16 w2 e2)
  go_upto_region 16 with ((with_reducible refine c16.mono ?_); rintro e w3 ⟨rfl, e3⟩)
  have e13 := e2.trans e3
  clear c15 c16 e2 e3
  have hmk : ∀ w : World, (Instr.makeSlice 31 (.int .i64 256) (.int .i64 256)).run Tryd.prog w = .ok (.slice (some ⟨w.heap.size, 0, none⟩) 256 256) (w.alloc (.cells (Array.replicate 256 (.int .i64 0)) 3)) := mk_ints 256 (by omega)
  go_upto_region 17 with fail
  refine wp_named ?_
  intro W4 hW4
  have e34 : Ext w3 W4 := by rw [hW4]; exact alloc_ext _ _
  have hbl : W4.heap[w3.heap.size]? = some (.cells (Array.replicate 256 (.int .i64 0)) 3 (0, 0)) := by rw [hW4]; exact heap_alloc_new _ _
  have hlg : IntsC W4 (.slice (some ⟨w3.heap.size, 0, none⟩) 256 256) long 256 := by
    have h := ints_blk (xs := long) (n := 256) hbl (by unfold long; rw [List.map_replicate, Array.toList_replicate]) long_len (by omega)
    unfold FitC at h
    rw [long_len] at h
    exact h
  have e14 := e13.trans e34
  clear hW4 hbl e34 hmk
  generalize w3.heap.size = bl at *
  have hra := two_val (Rank_any W4 _ allD (HB.out.2.2.ext e14) _ long 256 hlg) rank_all
  have hrr := fun W5 (e : Ext W4 W5) v (h : DfaV W5 v (ringD 2)) => two_val (Rank_any W5 v (ringD 2) h _ long 256 (hlg.ext e)) rank_ring
  have hr2 : ∀ W, Calls Tryd.prog 39 #[.int .i64 2] W fun e w' => ∃ v, e = .returned v ∧ DfaV w' v (ringD 2) ∧ Ext W w' := fun W => ring_any W 2 (by omega)
  have p0 := fun w' (h : Ext W4 w') => p0 w' (e14.trans h)
  have p1 := fun w' (h : Ext W4 w') => p1 w' (e14.trans h)
  have p2 := fun w' (h : Ext W4 w') => p2 w' (e14.trans h)
  have hE4 := Ext.refl W4
  clear hlg
  go_upto_region 18 with ((with_reducible refine hra.mono ?_); rintro e w5 ⟨rfl, e5⟩)
  go_upto_region 19 with (first
    | ((with_reducible refine (hr2 _).mono ?_); rintro e w6 ⟨v6, rfl, hd6, e6⟩; have hrr6 := hrr w6 (e5.trans e6) v6 hd6)
    | ((with_reducible refine hrr6.mono ?_); rintro e w7 ⟨rfl, e7⟩))
  have e47 := e5.trans (e6.trans e7)
  clear hra hrr hrr6 hd6 hr2
  go_upto_region 999 with (with_reducible refine stop_at 21 ?_)
  refine ⟨?_⟩
  have eF := e14.trans e47
  have eG := HB.out.2.1.trans eF
  have hbx : BoxA w7 (sz + 1 + 1 + 1) := by
    obtain ⟨A, A', c, c', h1, h2, h3, h4⟩ := HB.out.1
    exact ⟨A, A', c, c', eF.cell h1, eF.cell h2, eF.cell h3, h4.ext eF⟩
  exact known_t21 w w7 (sz + 1 + 1 + 1) _ _ _ _ _ _ _ _ _ _ _ _ _ _ _ _ _ _ _ _ _ _ _ _ _ _ _ _ _ _ _ _ _ _ _ _ _ _ _ _ _ _ _ _ _ _ _ _ _ _ _ _ _ _ _ _ _ _ _ _ _ _ _ _ _ _ _ _ _ _ _ _ _ _ _ _ _ _ _ _ _ _ _ _ _ _ _ _ _ _ _ _ _ _ _ _ _ _ _ _ _ _ _ _ _ _ _ _ _ _ _ _ _ _ _ _ _ _ _ _ _ _ _ _ _ _ _ _ _ _ _ _ _ _ _ _ _ _ _ _ _ _ _ _ _ _ _ _ _ _ _ _ _ _ _ _ _ _ _ _ _ _ _ _ _ _ _ _ _ _ _ _ _ _ _ _ _ _ _ _ _ _ _ _ _ _ _ _ _ _ _ _ _ _ _ _ _ _ _ _ _ _ _ _ _ _ _ _ _ _ _ _ _ _ _ _ _ _ _ _ _ _ _ _ _ _ _ _ _ _ _ _ _ _ _ _ _ _ _ _ _ _ _ _ _ _ _ _ _ _ _ _ _ _ _ _ _ _ _ _ _ _ _ _ _ _ _ _ _ _ _ _ _ (HA.out.1.trans eG) (HA.out.2.1.ext eG) (HA.out.2.2.1.ext eG) (HA.out.2.2.2.ext eG) hbx
set_option maxRecDepth 100000 in
set_option maxHeartbeats 16000000 in
theorem known_t7 (w W : World) (b1 : Nat) (c0 c2 c3 c4 c5 c6 c7 c8 c9 c10 c11 c12 c13 c14 c15 c16 c17 c18 c19 c20 c21 c22 c23 c24 c25 c26 c27 c28 c29 c30 c31 c32 c33 c34 c35 c36 c37 c38 c39 c40 c41 c42 c43 c44 c45 c46 c47 c48 c49 c50 c51 c52 c53 c54 c55 c56 c57 c58 c59 c60 c61 c62 c63 c64 c65 c66 c67 c68 c69 c70 c71 c72 c73 c74 c75 c76 c77 c78 c79 c80 c81 c82 c83 c84 c85 c86 c87 c88 c89 c90 c91 c92 c93 c94 c95 c96 c97 c98 c99 c100 c101 c102 c103 c104 c105 c106 c107 c108 c109 c110 c111 c112 c113 c114 c115 c116 c117 c118 c119 c120 c121 c122 c123 c124 c125 c126 c127 c128 c129 c130 c131 c132 c133 c134 c135 c136 c137 c138 c139 c140 c141 c142 c143 c144 c145 c146 c147 c148 c149 c150 c151 c152 c153 c154 c155 c156 c157 c158 c159 c160 c161 c162 c163 c164 c165 c166 c167 c168 c169 c170 c171 c172 c173 c174 c175 c176 c177 c178 c179 c180 c181 c182 c183 c184 c185 c186 c187 c188 c189 c190 c191 c192 c193 c194 c195 c196 c197 c198 c199 c200 c201 c202 c203 c204 c205 c206 c207 c208 c209 c210 c211 c212 c213 c214 c215 c216 c217 c218 c219 c220 c221 c222 c223 c224 c225 c226 c227 c228 c229 c230 c231 c232 c233 c234 c235 c236 c237 c238 c239 c240 c241 c242 c243 c244 c245 c246 c247 c248 c249 c250 c251 c252 c253 c254 c255 c256 c257 c258 c259 c260 c261 c262 c263 c264 c265 c266 c267 c268 c269 c270 c271 c272 c273 : Value) (h0 : Ext w W) (hm : GlobM W) (hc : GlobC W) (hu : GlobU W) (hb : BoxR W b1 240) :
    Code.wp Tryd.prog (T11 7) (bodyPost Tryd.prog Tryd.f11 fun e w' => e = .returned (.bool true) ∧ Ext w w') ⟨(c0 :: .pointer (some ⟨b1, 0, none⟩) :: c2 :: c3 :: c4 :: c5 :: c6 :: c7 :: c8 :: c9 :: c10 :: c11 :: c12 :: c13 :: c14 :: c15 :: c16 :: c17 :: c18 :: c19 :: c20 :: c21 :: c22 :: c23 :: c24 :: c25 :: c26 :: c27 :: c28 :: c29 :: c30 :: c31 :: c32 :: c33 :: c34 :: c35 :: c36 :: c37 :: c38 :: c39 :: c40 :: c41 :: c42 :: c43 :: c44 :: c45 :: c46 :: c47 :: c48 :: c49 :: c50 :: c51 :: c52 :: c53 :: c54 :: c55 :: c56 :: c57 :: c58 :: c59 :: c60 :: c61 :: c62 :: c63 :: c64 :: c65 :: c66 :: c67 :: c68 :: c69 :: c70 :: c71 :: c72 :: c73 :: c74 :: c75 :: c76 :: c77 :: c78 :: c79 :: c80 :: c81 :: c82 :: c83 :: c84 :: c85 :: c86 :: c87 :: c88 :: c89 :: c90 :: c91 :: c92 :: c93 :: c94 :: c95 :: c96 :: c97 :: c98 :: c99 :: c100 :: c101 :: c102 :: c103 :: c104 :: c105 :: c106 :: c107 :: c108 :: c109 :: c110 :: c111 :: c112 :: c113 :: c114 :: c115 :: c116 :: c117 :: c118 :: c119 :: c120 :: c121 :: c122 :: c123 :: c124 :: c125 :: c126 :: c127 :: c128 :: c129 :: c130 :: c131 :: c132 :: c133 :: c134 :: c135 :: c136 :: c137 :: c138 :: c139 :: c140 :: c141 :: c142 :: c143 :: c144 :: c145 :: c146 :: c147 :: c148 :: c149 :: c150 :: c151 :: c152 :: c153 :: c154 :: c155 :: c156 :: c157 :: c158 :: c159 :: c160 :: c161 :: c162 :: c163 :: c164 :: c165 :: c166 :: c167 :: c168 :: c169 :: c170 :: c171 :: c172 :: c173 :: c174 :: c175 :: c176 :: c177 :: c178 :: c179 :: c180 :: c181 :: c182 :: c183 :: c184 :: c185 :: c186 :: c187 :: c188 :: c189 :: c190 :: c191 :: c192 :: c193 :: c194 :: c195 :: c196 :: c197 :: c198 :: c199 :: c200 :: c201 :: c202 :: c203 :: c204 :: c205 :: c206 :: c207 :: c208 :: c209 :: c210 :: c211 :: c212 :: c213 :: c214 :: c215 :: c216 :: c217 :: c218 :: c219 :: c220 :: c221 :: c222 :: c223 :: c224 :: c225 :: c226 :: c227 :: c228 :: c229 :: c230 :: c231 :: c232 :: c233 :: c234 :: c235 :: c236 :: c237 :: c238 :: c239 :: c240 :: c241 :: c242 :: c243 :: c244 :: c245 :: c246 :: c247 :: c248 :: c249 :: c250 :: c251 :: c252 :: c253 :: c254 :: c255 :: c256 :: c257 :: c258 :: c259 :: c260 :: c261 :: c262 :: c263 :: c264 :: c265 :: c266 :: c267 :: c268 :: c269 :: c270 :: c271 :: c272 :: c273 :: []).toArray, []⟩ W := by
  conv => arg 2; whnf
  obtain ⟨A, A', c, c', p0, p1, p2, hD⟩ := hb
  have p0 := fun w' (h : Ext W w') => h.cell p0
  have p1 := fun w' (h : Ext W w') => h.cell p1
  have p2 := fun w' (h : Ext W w') => h.cell p2
  have hE0 := Ext.refl W
  have HA := Lib.hid (And.intro h0 (And.intro hm (And.intro hc (And.intro hu hD))))
  obtain ⟨l16, h16, hl16⟩ := incl_16
  have hi1 := fun W1 (e : Ext W W1) v u (h1 : DfaV W1 v (ringD 16)) (h2 : DfaV W1 u (ringD 240)) => incl_form (Inclusion_any W1 v u _ _ h1 h2 (HA.out.2.1.ext e)) h16 hl16
  have hi2 := fun W1 (e : Ext W W1) u (h2 : DfaV W1 u (ringD 239)) => incl_form (Inclusion_any W1 _ u _ _ (HA.out.2.2.2.2.ext e) h2 (HA.out.2.1.ext e)) incl_far (n := 0) rfl
  have hi3 := fun W1 (e : Ext W W1) u (h2 : DfaV W1 u (ringD 240)) => incl_form (Inclusion_any W1 _ u _ _ (HA.out.2.2.2.2.ext e) h2 (HA.out.2.1.ext e)) incl_240 (n := 0) rfl
  have hi4 := fun W1 (e : Ext W W1) v u (h1 : DfaV W1 v (ringD 256)) (h2 : DfaV W1 u (ringD 64)) => incl_form (Inclusion_any W1 v u _ _ h1 h2 (HA.out.2.1.ext e)) incl_256 (n := 0) rfl
  have hr16 : ∀ W, Calls Tryd.prog 39 #[.int .i64 16] W fun e w' => ∃ v, e = .returned v ∧ DfaV w' v (ringD 16) ∧ Ext W w' := fun W => ring_any W 16 (by omega)
  have hr240 : ∀ W, Calls Tryd.prog 39 #[.int .i64 240] W fun e w' => ∃ v, e = .returned v ∧ DfaV w' v (ringD 240) ∧ Ext W w' := fun W => ring_any W 240 (by omega)
  have hr239 : ∀ W, Calls Tryd.prog 39 #[.int .i64 239] W fun e w' => ∃ v, e = .returned v ∧ DfaV w' v (ringD 239) ∧ Ext W w' := fun W => ring_any W 239 (by omega)
  have hr256 : ∀ W, Calls Tryd.prog 39 #[.int .i64 256] W fun e w' => ∃ v, e = .returned v ∧ DfaV w' v (ringD 256) ∧ Ext W w' := fun W => ring_any W 256 (by omega)
  have hr64 : ∀ W, Calls Tryd.prog 39 #[.int .i64 64] W fun e w' => ∃ v, e = .returned v ∧ DfaV w' v (ringD 64) ∧ Ext W w' := fun W => ring_any W 64 (by omega)
  clear h0 hm hc hu hD h16 hl16
  go_upto_region 8 with (first
    | ((with_reducible refine (hr16 _).mono ?_); rintro e w1 ⟨v1, rfl, hd1, e1⟩)
    | ((with_reducible refine (hr240 _).mono ?_); rintro e w2 ⟨v2, rfl, hd2, e2⟩; have hi1' := hi1 w2 (e1.trans e2) v1 v2 (hd1.ext e2) hd2)
    | ((with_reducible refine hi1'.mono ?_); rintro e w3 ⟨A3, rfl, e3⟩))
  have e13 := (e1.trans e2).trans e3
  clear hi1 hi1' hd1 hd2 e1 e2 e3 hr16
  have p0 := fun w' (h : Ext w3 w') => p0 w' (e13.trans h)
  have p1 := fun w' (h : Ext w3 w') => p1 w' (e13.trans h)
  have p2 := fun w' (h : Ext w3 w') => p2 w' (e13.trans h)
  have hE3 := Ext.refl w3
  refine wp_region_ext 9 (factsOf [(1, DfaA (ringD 239)), (2, fun v _ => ∃ A, v = .tuple #[.bool false, .slice A 0 0, .int .i64 3])]) (fun k => ([[], [], [0, 1], [0, 1, 2], [0, 1, 2, 3], [0, 1, 2, 3], [0, 1, 2, 3], [0, 1, 2, 3, 4], [0, 1, 2, 3, 4, 5, 7], [0, 1, 2, 3, 4, 5, 6, 7, 8]] : List (List Nat)).getD k []) (by kernel_rfl) (by kernel_rfl) Ext.pre (mono_cons (stays_dfaA _) (mono_cons (fun _ _ _ _ h => h) (mono_nil))) ?_
  simp only [List.take_succ_cons, List.take_zero]
  repeat (first | (with_reducible refine lexL_quiet' (v := ?_) ?_ ?_ ?_ ?_; rotate_left; (· with_reducible rfl); (· simp [factsOf]); (· intro w1 hw1 _; go_simp; with_reducible rfl); (try simp only [Act.put, List.setIfInBounds_toArray, List.set_cons_zero, List.set_cons_succ])) | (with_reducible refine lexL_skip ?_ ?_; (· simp [Region.wanted, yielded, undef]); (try simp only [Act.put, List.setIfInBounds_toArray, List.set_cons_zero, List.set_cons_succ])) | (with_reducible refine lexL_quiet (v := ?_) ?_ ?_ ?_ ?_; rotate_left; (· simp [Region.wanted, yielded, undef]); (· simp [factsOf]); (· intro w1 hw1 _; go_simp; with_reducible rfl); (try simp only [Act.put, List.setIfInBounds_toArray, List.set_cons_zero, List.set_cons_succ])))
  with_reducible refine lexL_give' (φ := ?_) ?_ ?_ ?_ ?_; rotate_left; (· with_reducible rfl); (· simp only [factsOf, Nat.reduceAdd, ↓reduceIte, Nat.reduceEqDiff]; rfl)
  · intro w4 hw4 _
    go_simp
    refine (hr239 w4).mono ?_
    rintro e w5 ⟨u, rfl, h3, e5⟩
    exact ⟨_, rfl, e5, h3⟩
  rintro vb w4 hw4 h3 hk2
  clear hk2 hw4 h3 w4
  (try simp only [Act.put, List.setIfInBounds_toArray, List.set_cons_zero, List.set_cons_succ])
  with_reducible refine lexL_give' (φ := ?_) ?_ ?_ ?_ ?_; rotate_left; (· with_reducible rfl); (· simp only [factsOf, Nat.reduceAdd, ↓reduceIte, Nat.reduceEqDiff]; rfl)
  · intro w4 hw4 hkn
    have h3 : DfaV w4 vb (ringD 239) := hkn.get 1 (by decide) rfl rfl
    go_simp
    refine (hi2 w4 (e13.trans hw4) vb h3).mono ?_
    rintro e w5 ⟨A5, rfl, e5⟩
    exact ⟨_, rfl, e5, A5, rfl⟩
  rintro vc w4 hw4 ⟨A4, rfl⟩ hk2
  clear hk2 hw4 w4
  (try simp only [Act.put, List.setIfInBounds_toArray, List.set_cons_zero, List.set_cons_succ])
  repeat (first | (with_reducible refine lexL_quiet' (v := ?_) ?_ ?_ ?_ ?_; rotate_left; (· with_reducible rfl); (· simp [factsOf]); (· intro w1 hw1 _; go_simp; with_reducible rfl); (try simp only [Act.put, List.setIfInBounds_toArray, List.set_cons_zero, List.set_cons_succ])) | (with_reducible refine lexL_skip ?_ ?_; (· simp [Region.wanted, yielded, undef]); (try simp only [Act.put, List.setIfInBounds_toArray, List.set_cons_zero, List.set_cons_succ])) | (with_reducible refine lexL_quiet (v := ?_) ?_ ?_ ?_ ?_; rotate_left; (· simp [Region.wanted, yielded, undef]); (· simp [factsOf]); (· intro w1 hw1 _; go_simp; with_reducible rfl); (try simp only [Act.put, List.setIfInBounds_toArray, List.set_cons_zero, List.set_cons_succ])))
  with_reducible refine lexL_nil ?_; intro w1 hw1 hk1; simp only [List.drop_succ_cons, List.drop_zero]
  have e14 := e13.trans hw1
  have p0 := fun w' (h : Ext w1 w') => p0 w' (hw1.trans h)
  have p1 := fun w' (h : Ext w1 w') => p1 w' (hw1.trans h)
  have p2 := fun w' (h : Ext w1 w') => p2 w' (hw1.trans h)
  have hE4 := Ext.refl w1
  clear hk1 hw1
  go_upto_region 9 with fail
  refine wp_region_ext 9 (factsOf [(1, DfaA (ringD 240)), (2, fun v _ => ∃ A, v = .tuple #[.bool true, .slice A 0 0, .int .i64 0])]) (fun k => ([[], [], [0, 1], [0, 1, 2], [0, 1, 2, 3], [0, 1, 2, 3], [0, 1, 2, 3], [0, 1, 2, 3, 4], [0, 1, 2, 3, 4, 5, 7], [0, 1, 2, 3, 4, 5, 6, 7, 8]] : List (List Nat)).getD k []) (by kernel_rfl) (by kernel_rfl) Ext.pre (mono_cons (stays_dfaA _) (mono_cons (fun _ _ _ _ h => h) (mono_nil))) ?_
  simp only [List.take_succ_cons, List.take_zero]
  repeat (first | (with_reducible refine lexL_quiet' (v := ?_) ?_ ?_ ?_ ?_; rotate_left; (· with_reducible rfl); (· simp [factsOf]); (· intro w1 hw1 _; go_simp; with_reducible rfl); (try simp only [Act.put, List.setIfInBounds_toArray, List.set_cons_zero, List.set_cons_succ])) | (with_reducible refine lexL_skip ?_ ?_; (· simp [Region.wanted, yielded, undef]); (try simp only [Act.put, List.setIfInBounds_toArray, List.set_cons_zero, List.set_cons_succ])) | (with_reducible refine lexL_quiet (v := ?_) ?_ ?_ ?_ ?_; rotate_left; (· simp [Region.wanted, yielded, undef]); (· simp [factsOf]); (· intro w1 hw1 _; go_simp; with_reducible rfl); (try simp only [Act.put, List.setIfInBounds_toArray, List.set_cons_zero, List.set_cons_succ])))
  with_reducible refine lexL_give' (φ := ?_) ?_ ?_ ?_ ?_; rotate_left; (· with_reducible rfl); (· simp only [factsOf, Nat.reduceAdd, ↓reduceIte, Nat.reduceEqDiff]; rfl)
  · intro w4 hw4 _
    go_simp
    refine (hr240 w4).mono ?_
    rintro e w5 ⟨u, rfl, h3, e5⟩
    exact ⟨_, rfl, e5, h3⟩
  rintro vb w4 hw4 h3 hk2
  clear hk2 hw4 h3 w4
  (try simp only [Act.put, List.setIfInBounds_toArray, List.set_cons_zero, List.set_cons_succ])
  with_reducible refine lexL_give' (φ := ?_) ?_ ?_ ?_ ?_; rotate_left; (· with_reducible rfl); (· simp only [factsOf, Nat.reduceAdd, ↓reduceIte, Nat.reduceEqDiff]; rfl)
  · intro w4 hw4 hkn
    have h3 : DfaV w4 vb (ringD 240) := hkn.get 1 (by decide) rfl rfl
    go_simp
    refine (hi3 w4 (e14.trans hw4) vb h3).mono ?_
    rintro e w5 ⟨A5, rfl, e5⟩
    exact ⟨_, rfl, e5, A5, rfl⟩
  rintro vc w4 hw4 ⟨A4, rfl⟩ hk2
  clear hk2 hw4 w4
  (try simp only [Act.put, List.setIfInBounds_toArray, List.set_cons_zero, List.set_cons_succ])
  repeat (first | (with_reducible refine lexL_quiet' (v := ?_) ?_ ?_ ?_ ?_; rotate_left; (· with_reducible rfl); (· simp [factsOf]); (· intro w1 hw1 _; go_simp; with_reducible rfl); (try simp only [Act.put, List.setIfInBounds_toArray, List.set_cons_zero, List.set_cons_succ])) | (with_reducible refine lexL_skip ?_ ?_; (· simp [Region.wanted, yielded, undef]); (try simp only [Act.put, List.setIfInBounds_toArray, List.set_cons_zero, List.set_cons_succ])) | (with_reducible refine lexL_quiet (v := ?_) ?_ ?_ ?_ ?_; rotate_left; (· simp [Region.wanted, yielded, undef]); (· simp [factsOf]); (· intro w1 hw1 _; go_simp; with_reducible rfl); (try simp only [Act.put, List.setIfInBounds_toArray, List.set_cons_zero, List.set_cons_succ])))
  with_reducible refine lexL_nil ?_; intro w1 hw1 hk1; simp only [List.drop_succ_cons, List.drop_zero]
  have e15 := e14.trans hw1
  clear hk1 hw1 p0 p1 p2
  go_upto_region 11 with (first
    | ((with_reducible refine (hr256 _).mono ?_); rintro e w6 ⟨v6, rfl, hd6, e6⟩)
    | ((with_reducible refine (hr64 _).mono ?_); rintro e w7 ⟨v7, rfl, hd7, e7⟩; have hi4' := hi4 w7 (e15.trans (e6.trans e7)) v6 v7 (hd6.ext e7) hd7)
    | ((with_reducible refine hi4'.mono ?_); rintro e w8 ⟨A8, rfl, e8⟩))
  have eF := e15.trans ((e6.trans e7).trans e8)
  clear hi2 hi3 hi4 hi4' hd6 hd7 hr256 hr64 hr240 hr239
  go_upto_region 999 with (with_reducible refine stop_at 13 ?_)
  refine ⟨?_⟩
  exact known_t13 w w8 _ _ _ _ _ _ _ _ _ _ _ _ _ _ _ _ _ _ _ _ _ _ _ _ _ _ _ _ _ _ _ _ _ _ _ _ _ _ _ _ _ _ _ _ _ _ _ _ _ _ _ _ _ _ _ _ _ _ _ _ _ _ _ _ _ _ _ _ _ _ _ _ _ _ _ _ _ _ _ _ _ _ _ _ _ _ _ _ _ _ _ _ _ _ _ _ _ _ _ _ _ _ _ _ _ _ _ _ _ _ _ _ _ _ _ _ _ _ _ _ _ _ _ _ _ _ _ _ _ _ _ _ _ _ _ _ _ _ _ _ _ _ _ _ _ _ _ _ _ _ _ _ _ _ _ _ _ _ _ _ _ _ _ _ _ _ _ _ _ _ _ _ _ _ _ _ _ _ _ _ _ _ _ _ _ _ _ _ _ _ _ _ _ _ _ _ _ _ _ _ _ _ _ _ _ _ _ _ _ _ _ _ _ _ _ _ _ _ _ _ _ _ _ _ _ _ _ _ _ _ _ _ _ _ _ _ _ _ _ _ _ _ _ _ _ _ _ _ _ _ _ _ _ _ _ _ _ _ _ _ _ _ _ _ _ _ _ _ _ _ _ _ _ _ (HA.out.1.trans eF) (HA.out.2.1.ext eF) (HA.out.2.2.1.ext eF) (HA.out.2.2.2.1.ext eF)
set_option maxRecDepth 100000 in
set_option maxHeartbeats 16000000 in
theorem LangsKnown_any (w : World) (hm : GlobM w) (hc : GlobC w) (hu : GlobU w) : Calls Tryd.prog 11 #[] w fun e w' => e = .returned (.bool true) ∧ Ext w w' := by
  go_enter Tryd.func11, Tryd.ntmps11
  have hr15 : ∀ W, Calls Tryd.prog 39 #[.int .i64 15] W fun e w' => ∃ v, e = .returned v ∧ DfaV w' v (ringD 15) ∧ Ext W w' := fun W => ring_any W 15 (by omega)
  have hr16 : ∀ W, Calls Tryd.prog 39 #[.int .i64 16] W fun e w' => ∃ v, e = .returned v ∧ DfaV w' v (ringD 16) ∧ Ext W w' := fun W => ring_any W 16 (by omega)
  have hr17 : ∀ W, Calls Tryd.prog 39 #[.int .i64 17] W fun e w' => ∃ v, e = .returned v ∧ DfaV w' v (ringD 17) ∧ Ext W w' := fun W => ring_any W 17 (by omega)
  have hr64 : ∀ W, Calls Tryd.prog 39 #[.int .i64 64] W fun e w' => ∃ v, e = .returned v ∧ DfaV w' v (ringD 64) ∧ Ext W w' := fun W => ring_any W 64 (by omega)
  have hr63 : ∀ W, Calls Tryd.prog 39 #[.int .i64 63] W fun e w' => ∃ v, e = .returned v ∧ DfaV w' v (ringD 63) ∧ Ext W w' := fun W => ring_any W 63 (by omega)
  have hr65 : ∀ W, Calls Tryd.prog 39 #[.int .i64 65] W fun e w' => ∃ v, e = .returned v ∧ DfaV w' v (ringD 65) ∧ Ext W w' := fun W => ring_any W 65 (by omega)
  have HG := Lib.hid (And.intro hm (And.intro hc hu))
  clear hm hc hu
  go_upto_region 2 with (first
    | ((with_reducible refine (hr15 _).mono ?_); rintro e wa ⟨va, rfl, ha, ea⟩)
    | ((with_reducible refine (hr16 _).mono ?_); rintro e wb ⟨vb, rfl, hb, eb⟩; have hop := op_240 (Common_any wb va vb _ _ (ha.ext eb) hb (HG.out.2.1.ext (ea.trans eb))))
    | ((with_reducible refine hop.mono ?_); rintro e wc ⟨A1, A1', c1, c1', rfl, hd1, ec⟩)
    | (with_reducible refine wpList_store_blk _ rfl 28 _ _ rfl wc.heap.size 28 _ _ rfl rfl (heap_alloc_new _ _) (by kernel_rfl) (by kernel_rfl) (by kernel_rfl) ?_; intro wd h g))
  have ed : Ext wc wd := Below.grown (alloc_ext wc _) g (alloc_ext wc _).size (fun k hk => by cases hk; exact Nat.le_refl _)
  have hbox : BoxR wd wc.heap.size 240 := ⟨A1, A1', c1, c1', cell_of_blk h 0 rfl, cell_of_blk h 1 rfl, cell_of_blk h 2 rfl, hd1.ext ed⟩
  have y1 := cell_of_blk h 1 (u := .slice A1 240 c1) rfl
  have e1 : Ext w wd := ((ea.trans eb).trans ec).trans ed
  have HB := Lib.hid hbox
  clear hop ha hb hd1 h g ed ea eb ec hr15 hbox
  generalize wc.heap.size = b1 at *
  generalize hw1 : wd = w1 at *
  clear hw1
  go_upto_region 3 with (first
    | ((with_reducible refine (hr16 _).mono ?_); rintro e wa ⟨va, rfl, ha, ea⟩)
    | ((with_reducible refine (hr17 _).mono ?_); rintro e wb ⟨vb, rfl, hb, eb⟩; have hop := op_far (Common_any wb va vb _ _ (ha.ext eb) hb (HG.out.2.1.ext (e1.trans (ea.trans eb)))) (fun r h => far_common h))
    | ((with_reducible refine hop.mono ?_); rintro e wc ⟨A2, A2', c2, c2', rfl, ec⟩)
    | (with_reducible refine wpList_store_blk _ rfl 28 _ _ rfl wc.heap.size 28 _ _ rfl rfl (heap_alloc_new _ _) (by kernel_rfl) (by kernel_rfl) (by kernel_rfl) ?_; intro wd h g))
  have ed : Ext wc wd := Below.grown (alloc_ext wc _) g (alloc_ext wc _).size (fun k hk => by cases hk; exact Nat.le_refl _)
  have y2 := cell_of_blk h 1 (u := .slice A2 0 c2) rfl
  have e2 := e1.trans (((ea.trans eb).trans ec).trans ed)
  have eo : Ext _ wd := ((ea.trans eb).trans ec).trans ed
  have y1 := eo.cell y1
  have f2 := eo
  clear hop ha hb h g ed ea eb ec eo hr17 hr16
  generalize wc.heap.size = b2 at *
  generalize hw2 : wd = w2 at *
  clear hw2
  go_upto_region 4 with (first
    | ((with_reducible refine (hr64 _).mono ?_); rintro e wa ⟨va, rfl, ha, ea⟩)
    | ((with_reducible refine (hr63 _).mono ?_); rintro e wb ⟨vb, rfl, hb, eb⟩; have hop := op_far (Union_any wb va vb _ _ (ha.ext eb) hb (HG.out.2.2.ext (e2.trans (ea.trans eb)))) (fun r h => far_union1 h))
    | ((with_reducible refine hop.mono ?_); rintro e wc ⟨A3, A3', c3, c3', rfl, ec⟩)
    | (with_reducible refine wpList_store_blk _ rfl 28 _ _ rfl wc.heap.size 28 _ _ rfl rfl (heap_alloc_new _ _) (by kernel_rfl) (by kernel_rfl) (by kernel_rfl) ?_; intro wd h g))
  have ed : Ext wc wd := Below.grown (alloc_ext wc _) g (alloc_ext wc _).size (fun k hk => by cases hk; exact Nat.le_refl _)
  have y3 := cell_of_blk h 1 (u := .slice A3 0 c3) rfl
  have e3 := e2.trans (((ea.trans eb).trans ec).trans ed)
  have eo : Ext _ wd := ((ea.trans eb).trans ec).trans ed
  have y1 := eo.cell y1
  have y2 := eo.cell y2
  have f3 := f2.trans eo
  clear hop ha hb h g ed ea eb ec eo hr63
  generalize wc.heap.size = b3 at *
  generalize hw3 : wd = w3 at *
  clear hw3
  go_upto_region 5 with (first
    | ((with_reducible refine (hr65 _).mono ?_); rintro e wa ⟨va, rfl, ha, ea⟩)
    | ((with_reducible refine (hr64 _).mono ?_); rintro e wb ⟨vb, rfl, hb, eb⟩; have hop := op_far (Union_any wb va vb _ _ (ha.ext eb) hb (HG.out.2.2.ext (e3.trans (ea.trans eb)))) (fun r h => far_union2 h))
    | ((with_reducible refine hop.mono ?_); rintro e wc ⟨A4, A4', c4, c4', rfl, ec⟩)
    | (with_reducible refine wpList_store_blk _ rfl 28 _ _ rfl wc.heap.size 28 _ _ rfl rfl (heap_alloc_new _ _) (by kernel_rfl) (by kernel_rfl) (by kernel_rfl) ?_; intro wd h g))
  have ed : Ext wc wd := Below.grown (alloc_ext wc _) g (alloc_ext wc _).size (fun k hk => by cases hk; exact Nat.le_refl _)
  have y4 := cell_of_blk h 1 (u := .slice A4 0 c4) rfl
  have e4 := e3.trans (((ea.trans eb).trans ec).trans ed)
  have eo : Ext _ wd := ((ea.trans eb).trans ec).trans ed
  have y1 := eo.cell y1
  have y2 := eo.cell y2
  have y3 := eo.cell y3
  have f4 := f3.trans eo
  clear hop ha hb h g ed ea eb ec eo hr65 hr64
  generalize wc.heap.size = b4 at *
  go_upto_region 999 with (with_reducible refine stop_at 7 ?_)
  refine ⟨?_⟩
  exact known_t7 w _ b1 _ _ _ _ _ _ _ _ _ _ _ _ _ _ _ _ _ _ _ _ _ _ _ _ _ _ _ _ _ _ _ _ _ _ _ _ _ _ _ _ _ _ _ _ _ _ _ _ _ _ _ _ _ _ _ _ _ _ _ _ _ _ _ _ _ _ _ _ _ _ _ _ _ _ _ _ _ _ _ _ _ _ _ _ _ _ _ _ _ _ _ _ _ _ _ _ _ _ _ _ _ _ _ _ _ _ _ _ _ _ _ _ _ _ _ _ _ _ _ _ _ _ _ _ _ _ _ _ _ _ _ _ _ _ _ _ _ _ _ _ _ _ _ _ _ _ _ _ _ _ _ _ _ _ _ _ _ _ _ _ _ _ _ _ _ _ _ _ _ _ _ _ _ _ _ _ _ _ _ _ _ _ _ _ _ _ _ _ _ _ _ _ _ _ _ _ _ _ _ _ _ _ _ _ _ _ _ _ _ _ _ _ _ _ _ _ _ _ _ _ _ _ _ _ _ _ _ _ _ _ _ _ _ _ _ _ _ _ _ _ _ _ _ _ _ _ _ _ _ _ _ _ _ _ _ _ _ _ _ _ _ _ _ _ _ _ _ _ _ _ _ _ _ e4 (HG.out.1.ext e4) (HG.out.2.1.ext e4) (HG.out.2.2.ext e4) (HB.out.ext f4)
end Go.Proofs.YthlnmcokgfpgmaaDoor
