/- IocosErrors 8: the loop over the list. -/
import Derived.Test.YtamodjlifpjaoaaDoorU2
import Derived.Deep.CutRange
namespace Go.Proofs.YtamodjlifpjaoaaDoor
open Go.RowKit
set_option linter.unusedVariables false
set_option linter.unusedSimpArgs false
attribute [local go_sem] Oper.quietV quietV Oper.gives givesV ext_refl_iff ext_alloc_iff ext_drew_iff ext_drewN_iff
/-- The block behind region n (a region in one bracket with it, on the function's own level). -/
def blkA (n : Nat) (o : Option Code) : Code := match o with
  | some c => (match tailR n c with | some (.seq (.seq _ b) _) => b | _ => .skip)
  | none => .skip
theorem stop_blk (k : Nat) {P : Program} {c rest : Code} {Q : Exit → Act → World → Prop} {a : Act} {w : World} (h : Stop (Code.wp P (.seq (.block k c) rest) Q a w)) : Code.wp P (.seq (.block k c) rest) Q a w := h.out
theorem rounds_k {P : Program} {c : Code} {Q : Exit → Act → World → Prop} {n : Nat} {a : Act} {w : World} (h : ∀ K : Act → World → Prop, (∀ a w, Code.rounds P c Q n a w → K a w) → c.wp P (Exit.then K Q) a w) : Code.rounds P c Q (n + 1) a w := h _ (fun _ _ h => h)
noncomputable def B8 (n : Nat) : Code := blkA n Tryd.f8.body
structure LoopE (w W : World) (b3 : Nat) (x : Lts) (ls : List Int) (ct : Nat) (tv sv vv : Value) : Prop where
  ext : Ext w W
  tab : Tab W
  box : BoxL W b3 x
  list : IntsC W tv ls ct
  s : FitC W sv (afterR x ls).1
  v : FitC W vv (observeR x ls).1
theorem LoopE.ex {w W W' : World} {b3 : Nat} {x : Lts} {ls : List Int} {ct : Nat} {tv sv vv : Value} (h : LoopE w W b3 x ls ct tv sv vv) (e : Ext W W') : LoopE w W' b3 x ls ct tv sv vv :=
  ⟨h.ext.trans e, h.tab.ext e, h.box.ext e, h.list.ext e, h.s.ext e, h.v.ext e⟩
set_option maxRecDepth 100000 in
set_option maxHeartbeats 16000000 in
theorem err_loop (w : World) (b3 : Nat) (x : Lts) (ls : List Int) (ct : Nat) (c0 c1 c4 c5 c6 c7 c8 c9 c10 c11 c16 c17 c18 c19 c20 c21 c22 c27 c28 c29 c30 c31 c32 c33 c34 c35 c36 c37 c38 c39 c40 c41 c42 c43 c44 c45 c46 c47 c48 c49 c50 c51 c52 c53 c54 c55 c56 c57 c58 c59 c60 c61 c62 c63 c64 c65 c66 c67 c68 c69 c70 c71 c72 c73 c74 c75 c76 c77 c78 c79 c80 c81 c82 c83 c84 c85 c86 c87 c88 c89 c90 c91 c92 c93 c94 c95 c96 c97 c98 c99 c100 c101 c102 c103 c104 c105 c106 c107 c108 c109 c110 c111 c112 c113 c114 c115 c116 c117 c118 c119 c120 c121 c122 c123 c124 c125 c126 c127 c128 c129 c130 c131 c132 c133 c134 c135 c136 c137 c138 c139 c140 c141 c142 c143 c144 c145 c146 c147 c148 c149 c150 c151 c152 c153 c154 c155 c156 c157 c158 c159 c160 c161 c162 c163 c164 c165 c166 c167 c168 c169 c170 c171 c172 c173 c174 c175 c176 c177 c178 c179 c256 c257 c258 c259 c260 c261 c262 c263 c264 c265 c266 c267 c268 c269 c270 c271 c272 c273 c274 c275 c276 c277 c278 c279 c280 c281 c282 c283 c284 c285 c286 c287 c288 c289 c290 c291 c292 c293 c294 c295 c296 c297 c298 c299 c300 c301 c302 c303 c304 c305 c306 c307 c308 c309 c310 tv sv vv : Value) (ea eo : Int) (hx0 : checkI x = 0) (hea : (afterR x ls).2 = ea) (heo : (observeR x ls).2 = eo) (K : Act → World → Prop) (hK : ∀ a W, Code.wp Tryd.prog (T8 31) (bodyPost Tryd.prog Tryd.f8 (ErrP w)) a W → K a W) (n : Nat) : ∀ (i : Nat) (c180 c181 c182 c183 c184 c185 c186 c187 c188 c189 c190 c191 c192 c193 c194 c195 c196 c197 c198 c199 c200 c201 c202 c203 c204 c205 c206 c207 c208 c209 c210 c211 c212 c213 c214 c215 c216 c217 c218 c219 c220 c221 c222 c223 c224 c225 c226 c227 c228 c229 c230 c231 c232 c233 c234 c235 c236 c237 c238 c239 c240 c241 c242 c243 c244 c245 c246 c247 c248 c249 c250 c251 c252 c253 c254 c255 : Value) (T S P I : Int) (W : World),
    i + n = ls.length → I = (i : Int) → T = fK ls.length ((ls.take i).any (badT x)) → S = b01 ((List.range i).any (badS x ls)) → P = fK ls.length ((ls.take i).any (badP x)) → LoopE w W b3 x ls ct tv sv vv →
    Code.wp Tryd.prog (B8 22) (Exit.then K (bodyPost Tryd.prog Tryd.f8 (ErrP w))) ⟨(c0 :: c1 :: tv :: .pointer (some ⟨b3, 0, none⟩) :: c4 :: c5 :: c6 :: c7 :: c8 :: c9 :: c10 :: c11 :: .int .i64 ea :: sv :: vv :: .int .i64 eo :: c16 :: c17 :: c18 :: c19 :: c20 :: c21 :: c22 :: .int .i64 T :: .int .i64 S :: .int .i64 P :: .int .i64 I :: c27 :: c28 :: c29 :: c30 :: c31 :: c32 :: c33 :: c34 :: c35 :: c36 :: c37 :: c38 :: c39 :: c40 :: c41 :: c42 :: c43 :: c44 :: c45 :: c46 :: c47 :: c48 :: c49 :: c50 :: c51 :: c52 :: c53 :: c54 :: c55 :: c56 :: c57 :: c58 :: c59 :: c60 :: c61 :: c62 :: c63 :: c64 :: c65 :: c66 :: c67 :: c68 :: c69 :: c70 :: c71 :: c72 :: c73 :: c74 :: c75 :: c76 :: c77 :: c78 :: c79 :: c80 :: c81 :: c82 :: c83 :: c84 :: c85 :: c86 :: c87 :: c88 :: c89 :: c90 :: c91 :: c92 :: c93 :: c94 :: c95 :: c96 :: c97 :: c98 :: c99 :: c100 :: c101 :: c102 :: c103 :: c104 :: c105 :: c106 :: c107 :: c108 :: c109 :: c110 :: c111 :: c112 :: c113 :: c114 :: c115 :: c116 :: c117 :: c118 :: c119 :: c120 :: c121 :: c122 :: c123 :: c124 :: c125 :: c126 :: c127 :: c128 :: c129 :: c130 :: c131 :: c132 :: c133 :: c134 :: c135 :: c136 :: c137 :: c138 :: c139 :: c140 :: c141 :: c142 :: c143 :: c144 :: c145 :: c146 :: c147 :: c148 :: c149 :: c150 :: c151 :: c152 :: c153 :: c154 :: c155 :: c156 :: c157 :: c158 :: c159 :: c160 :: c161 :: c162 :: c163 :: c164 :: c165 :: c166 :: c167 :: c168 :: c169 :: c170 :: c171 :: c172 :: c173 :: c174 :: c175 :: c176 :: c177 :: c178 :: c179 :: c180 :: c181 :: c182 :: c183 :: c184 :: c185 :: c186 :: c187 :: c188 :: c189 :: c190 :: c191 :: c192 :: c193 :: c194 :: c195 :: c196 :: c197 :: c198 :: c199 :: c200 :: c201 :: c202 :: c203 :: c204 :: c205 :: c206 :: c207 :: c208 :: c209 :: c210 :: c211 :: c212 :: c213 :: c214 :: c215 :: c216 :: c217 :: c218 :: c219 :: c220 :: c221 :: c222 :: c223 :: c224 :: c225 :: c226 :: c227 :: c228 :: c229 :: c230 :: c231 :: c232 :: c233 :: c234 :: c235 :: c236 :: c237 :: c238 :: c239 :: c240 :: c241 :: c242 :: c243 :: c244 :: c245 :: c246 :: c247 :: c248 :: c249 :: c250 :: c251 :: c252 :: c253 :: c254 :: c255 :: c256 :: c257 :: c258 :: c259 :: c260 :: c261 :: c262 :: c263 :: c264 :: c265 :: c266 :: c267 :: c268 :: c269 :: c270 :: c271 :: c272 :: c273 :: c274 :: c275 :: c276 :: c277 :: c278 :: c279 :: c280 :: c281 :: c282 :: c283 :: c284 :: c285 :: c286 :: c287 :: c288 :: c289 :: c290 :: c291 :: c292 :: c293 :: c294 :: c295 :: c296 :: c297 :: c298 :: c299 :: c300 :: c301 :: c302 :: c303 :: c304 :: c305 :: c306 :: c307 :: c308 :: c309 :: c310 :: []).toArray, []⟩ W := by
  intro i c180 c181 c182 c183 c184 c185 c186 c187 c188 c189 c190 c191 c192 c193 c194 c195 c196 c197 c198 c199 c200 c201 c202 c203 c204 c205 c206 c207 c208 c209 c210 c211 c212 c213 c214 c215 c216 c217 c218 c219 c220 c221 c222 c223 c224 c225 c226 c227 c228 c229 c230 c231 c232 c233 c234 c235 c236 c237 c238 c239 c240 c241 c242 c243 c244 c245 c246 c247 c248 c249 c250 c251 c252 c253 c254 c255 T S P I W hin hI hT hS hP hX
  conv => arg 2; whnf
  have hg := check_good hx0
  have h1' := hg.ins
  have h2' := hg.outs
  have hw : IntKind.i64.wrap (x.ins + x.outs) = x.ins + x.outs := by rw [IntKind.wrap_i64]; omega
  have HG := Lib.hid (And.intro hx0 (And.intro hea heo))
  clear hx0 hea heo hg
  apply wp_block
  refine wp_loop_rounds (n + 1) ?_
  induction n generalizing i c180 c181 c182 c183 c184 c185 c186 c187 c188 c189 c190 c191 c192 c193 c194 c195 c196 c197 c198 c199 c200 c201 c202 c203 c204 c205 c206 c207 c208 c209 c210 c211 c212 c213 c214 c215 c216 c217 c218 c219 c220 c221 c222 c223 c224 c225 c226 c227 c228 c229 c230 c231 c232 c233 c234 c235 c236 c237 c238 c239 c240 c241 c242 c243 c244 c245 c246 c247 c248 c249 c250 c251 c252 c253 c254 c255 T S P I W with
  | zero =>
    refine rounds_k ?_
    intro K2 hK2
    obtain rfl : i = ls.length := by omega
    subst hI
    obtain ⟨At, rfl, hc, _, hlm⟩ := id hX.list
    unfold lenMax at hlm
    have HX := Lib.hid hX
    have HTT : Hid (T = ea) := Lib.hid (by rw [hT, List.take_length, ← after_err HG.out.1, HG.out.2.1])
    have HSS : Hid (S = eo) := Lib.hid (by rw [hS, ← HG.out.2.2, observe_err HG.out.1]; rfl)
    have HPP : Hid ((makeR x ls).2 = P ∨ (makeR x ls).2 = 3 ∧ P = 0) := Lib.hid (by rw [hP, List.take_length]; exact make_err HG.out.1 ls)
    rw [HTT.out, HSS.out]
    clear hin hX hc hT hS hP HTT HSS
    go_wp2
    try refine hK _ _ ?_
    exact err_t31 w W b3 x ls (afterR x ls).1 (observeR x ls).1 (makeR x ls).1 ea eo P (makeR x ls).2 ct _ _ _ _ _ _ _ _ _ _ _ _ _ _ _ _ _ _ _ _ _ _ _ _ _ _ _ _ _ _ _ _ _ _ _ _ _ _ _ _ _ _ _ _ _ _ _ _ _ _ _ _ _ _ _ _ _ _ _ _ _ _ _ _ _ _ _ _ _ _ _ _ _ _ _ _ _ _ _ _ _ _ _ _ _ _ _ _ _ _ _ _ _ _ _ _ _ _ _ _ _ _ _ _ _ _ _ _ _ _ _ _ _ _ _ _ _ _ _ _ _ _ _ _ _ _ _ _ _ _ _ _ _ _ _ _ _ _ _ _ _ _ _ _ _ _ _ _ _ _ _ _ _ _ _ _ _ _ _ _ _ _ _ _ _ _ _ _ _ _ _ _ _ _ _ _ _ _ _ _ _ _ _ _ _ _ _ _ _ _ _ _ _ _ _ _ _ _ _ _ _ _ _ _ _ _ _ _ _ _ _ _ _ _ _ _ _ _ _ _ _ _ _ _ _ _ _ _ _ _ _ _ _ _ _ _ _ _ _ _ _ _ _ _ _ _ _ _ _ _ _ _ _ _ _ _ _ _ _ _ _ _ _ _ _ _ _ _ _ _ _ _ _ _ _ _ _ _ _ _ _ _ _ _ _ _ _ _ _ _ _ _ _ _ _ _ _ _ _ _ _ _ _ _ _ HX.out.ext HX.out.tab HX.out.box HX.out.list HX.out.s HX.out.v (fun h => after_none (by rw [HG.out.2.1]; exact h)) (fun h => observe_none (by rw [HG.out.2.2]; exact h)) rfl make_none HPP.out
  | succ n ih =>
    refine rounds_k ?_
    intro K2 hK2
    have hlt : i < ls.length := by omega
    subst hI
    obtain ⟨At, rfl, hc, _, hlm⟩ := id hX.list
    unfold lenMax at hlm
    obtain ⟨a, ha⟩ : ∃ a, ls[i]? = some a := ⟨_, List.getElem?_eq_getElem hlt⟩
    obtain ⟨bl, ol, hA, c0'⟩ := int_at hc ha
    subst hA
    obtain ⟨pA, pc, p0, p1, p2, pS⟩ := hX.box
    have H1 : Hid (fK ls.length ((ls.take (i + 1)).any (badT x)) = if T = 0 ∧ badT x a = true then 1 else T) := Lib.hid (by rw [any_take ha, fK_step, ← hT])
    have H3 : Hid (fK ls.length ((ls.take (i + 1)).any (badP x)) = if P = 0 ∧ badP x a = true then 1 else P) := Lib.hid (by rw [any_take ha, fK_step, ← hP])
    have H2 : Hid (b01 ((List.range (i + 1)).any (badS x ls)) = if badS x ls i = true then 1 else S) := Lib.hid (by rw [badSt_step, b01_or, ← hS])
    have HBT : Hid (badT x a = (decide (a < 0) || decide (x.ins + x.outs + 1 ≤ a))) := Lib.hid rfl
    have HBP : Hid (badP x a = (decide (a ≠ -1) && (decide (a < 0) || decide (x.ins ≤ a)))) := Lib.hid rfl
    have HBS : Hid (badS x ls i = (decide (a < 0) || (decide ((x.rows.length : Int) ≤ a) || (decide (0 < i) && decide (a ≤ ls.getD (i - 1) 0))))) := Lib.hid (badS_eq ha)
    have HX := Lib.hid hX
    have HC := Lib.hid hc
    have c0' := fun w' (h : Ext W w') => h.cell c0'
    have p0 := fun w' (h : Ext W w') => h.cell p0
    have p1 := fun w' (h : Ext W w') => h.cell p1
    have p2 := fun w' (h : Ext W w') => h.cell p2
    have HA := Lib.hid (And.intro c0' (And.intro p0 (And.intro p1 p2)))
    have hE6 := Ext.refl W
    clear hX ha pS hT hS hP hc p2
    go_upto_region 999 with (with_reducible refine stop_at2 25 ?_)
    refine ⟨?_⟩
    apply wp_seq_k
    intro _ _
    go_cut [23] from 186 to 206 (fun tv wx => Ext W wx ∧ ∃ T' : Int, tv = .int .i64 T' ∧ Hid (T' = if T = 0 ∧ badT x a = true then 1 else T))
    case first =>
      by_cases q0 : T = 0
      · have g0 : (T == 0) = true := by simp [q0]
        have Q0 := Lib.hid q0
        clear q0
        by_cases q1 : a < 0
        ·
          have HF := Lib.hid (show 1 = (if T = 0 ∧ badT x a = true then 1 else T) from (if_pos ⟨Q0.out, by rw [HBT.out, decide_eq_true q1]; rfl⟩).symm)
          go_upto_region 25 with fail
          go_quiet (fail)
          go_wp2
          go_meet
          exact ⟨by first | exact (Ext.refl _).drewN _ | exact Ext.refl _, _, rfl, HF⟩
        · have q1' : decide (a < 0) = false := decide_eq_false q1
          by_cases q2 : x.ins + x.outs < a
          ·
            have HF := Lib.hid (show 1 = (if T = 0 ∧ badT x a = true then 1 else T) from (if_pos ⟨Q0.out, by rw [HBT.out, decide_eq_true (show x.ins + x.outs + 1 ≤ a by omega)]; simp⟩).symm)
            go_upto_region 25 with fail
            go_quiet (fail)
            go_wp2
            go_meet
            exact ⟨by first | exact (Ext.refl _).drewN _ | exact Ext.refl _, _, rfl, HF⟩
          ·
            have HF := Lib.hid (show T = (if T = 0 ∧ badT x a = true then 1 else T) from (if_neg (fun h => by have := h.2; rw [HBT.out, decide_eq_false q1, decide_eq_false (by omega)] at this; cases this)).symm)
            go_upto_region 25 with fail
            go_quiet (fail)
            go_wp2
            go_meet
            exact ⟨by first | exact (Ext.refl _).drewN _ | exact Ext.refl _, _, rfl, HF⟩
      · have g0 : (T == 0) = false := by simp [q0]
        have Q0 := Lib.hid q0
        clear q0
        have HF := Lib.hid (show T = (if T = 0 ∧ badT x a = true then 1 else T) from (if_neg (fun h => Q0.out h.1)).symm)
        go_upto_region 25 with fail
        go_quiet (fail)
        go_wp2
        go_meet
        exact ⟨by first | exact (Ext.refl _).drewN _ | exact Ext.refl _, _, rfl, HF⟩
    case rest =>
      obtain ⟨e7, T', rfl, HT'⟩ := hcut
      obtain ⟨W7, hW7⟩ : ∃ W, W = wc := ⟨_, rfl⟩; subst hW7
      have HE7 := Lib.hid e7
      have c0' := fun w' (h : Ext W7 w') => c0' w' (e7.trans h)
      have p2 := fun w' (h : Ext W7 w') => HA.out.2.2.2 w' (e7.trans h)
      have hE7 := Ext.refl W7
      clear e7 hE6 p0 p1
      go_upto_region 999 with (with_reducible refine stop_at2 27 ?_)
      refine ⟨?_⟩
      apply wp_seq_k
      intro _ _
      go_cut [24] from 207 to 237 (fun tv wx => Ext W7 wx ∧ ∃ S' : Int, tv = .int .i64 S' ∧ Hid (S' = if badS x ls i = true then 1 else S))
      case first =>
        by_cases q1 : a < 0
        ·
          have HF := Lib.hid (show 1 = (if badS x ls i = true then 1 else S) from (if_pos (by rw [HBS.out, decide_eq_true q1]; rfl)).symm)
          go_upto_region 27 with fail
          go_quiet (fail)
          go_wp2
          go_meet
          exact ⟨by first | exact (Ext.refl _).drewN _ | exact Ext.refl _, _, rfl, HF⟩
        have q1' : decide (a < 0) = false := decide_eq_false q1
        by_cases q2 : (x.rows.length : Int) ≤ a
        ·
          have HF := Lib.hid (show 1 = (if badS x ls i = true then 1 else S) from (if_pos (by rw [HBS.out, decide_eq_true q2]; simp)).symm)
          go_upto_region 27 with fail
          go_quiet (fail)
          go_wp2
          go_meet
          exact ⟨by first | exact (Ext.refl _).drewN _ | exact Ext.refl _, _, rfl, HF⟩
        have q2' : decide ((x.rows.length : Int) ≤ a) = false := decide_eq_false q2
        rcases Nat.eq_zero_or_pos i with hi0 | hi0
        · have hi2 : decide ((0 : Int) < (i : Int)) = false := decide_eq_false (by omega)
          have hi3 : decide (0 < i) = false := decide_eq_false (by omega)
          have HI0 := Lib.hid (show ¬ 0 < i by omega)
          clear hi0
          have HF := Lib.hid (show S = (if badS x ls i = true then 1 else S) from (if_neg (fun h => by rw [HBS.out, decide_eq_false q1, decide_eq_false q2, decide_eq_false HI0.out] at h; cases h)).symm)
          go_upto_region 27 with fail
          go_quiet (fail)
          go_wp2
          go_meet
          exact ⟨by first | exact (Ext.refl _).drewN _ | exact Ext.refl _, _, rfl, HF⟩
        · obtain ⟨i', hi'⟩ : ∃ i', i = i' + 1 := ⟨i - 1, by omega⟩
          obtain ⟨p, hp⟩ : ∃ p, ls[i']? = some p := ⟨_, List.getElem?_eq_getElem (by omega)⟩
          obtain ⟨bl2, ol2, hA2, c1'⟩ := int_at HC.out hp
          cases hA2
          have c1' := fun w' (h : Ext W7 w') => (HE7.out.trans h).cell c1'
          have HBS : Hid (badS x ls i = decide (a ≤ p)) := Lib.hid (by rw [HBS.out, decide_eq_false q1, decide_eq_false q2, List.getD_eq_getElem?_getD, show i - 1 = i' by omega, hp, decide_eq_true (show 0 < i by omega)]; simp)
          have hi1 : (0 : Int) < (i : Int) := by omega
          have hil : (i' : Int) < (ls.length : Int) := by omega
          have hil2 : i' < ls.length := by omega
          have hsub : IntKind.i64.wrap ((i : Int) - 1) = (i' : Int) := by rw [IntKind.wrap_i64]; omega
          clear hp hi'
          by_cases q3 : a ≤ p
          ·
            have HF := Lib.hid (show 1 = (if badS x ls i = true then 1 else S) from (if_pos (by rw [HBS.out, decide_eq_true q3])).symm)
            go_upto_region 27 with fail
            go_quiet (fail)
            go_wp2
            go_meet
            exact ⟨by first | exact (Ext.refl _).drewN _ | exact Ext.refl _, _, rfl, HF⟩
          ·
            have HF := Lib.hid (show S = (if badS x ls i = true then 1 else S) from (if_neg (fun h => by rw [HBS.out, decide_eq_false q3] at h; cases h)).symm)
            go_upto_region 27 with fail
            go_quiet (fail)
            go_wp2
            go_meet
            exact ⟨by first | exact (Ext.refl _).drewN _ | exact Ext.refl _, _, rfl, HF⟩
      case rest =>
        obtain ⟨e8, S', rfl, HS'⟩ := hcut
        obtain ⟨W8, hW8⟩ : ∃ W, W = wc := ⟨_, rfl⟩; subst hW8
        have HE8 := Lib.hid (HE7.out.trans e8)
        have c0' := fun w' (h : Ext W8 w') => c0' w' (e8.trans h)
        have p0 := fun w' (h : Ext W8 w') => HA.out.2.1 w' (HE7.out.trans (e8.trans h))
        have hE8 := Ext.refl W8
        clear e8 hE7 p2
        go_upto_region 29 with fail
        by_cases q0 : P = 0
        · have g0 : (P == 0) = true := by simp [q0]
          have Q0 := Lib.hid q0
          clear q0
          by_cases q1 : a < -1
          ·
            have HF := Lib.hid (show 1 = (if P = 0 ∧ badP x a = true then 1 else P) from (if_pos ⟨Q0.out, by rw [HBP.out, decide_eq_true (show a ≠ -1 by omega), decide_eq_true (show a < 0 by omega)]; rfl⟩).symm)
            go_quiet (fail)
            go_wp2
            exact ih (i + 1) _ _ _ _ _ _ _ _ _ _ _ _ _ _ _ _ _ _ _ _ _ _ _ _ _ _ _ _ _ _ _ _ _ _ _ _ _ _ _ _ _ _ _ _ _ _ _ _ _ _ _ _ _ _ _ _ _ _ _ _ _ _ _ _ _ _ _ _ _ _ _ _ _ _ _ _ _ _ _ _ _ (by omega) (by go_num) (HT'.out.trans H1.out.symm) (HS'.out.trans H2.out.symm) (HF.out.trans H3.out.symm) (HX.out.ex (HE8.out.trans (by first | exact (Ext.refl _).drewN _ | exact Ext.refl _)))
          · have q1' : decide (a < -1) = false := decide_eq_false q1
            by_cases q2 : x.ins ≤ a
            ·
              have HF := Lib.hid (show 1 = (if P = 0 ∧ badP x a = true then 1 else P) from (if_pos ⟨Q0.out, by rw [HBP.out, decide_eq_true (show a ≠ -1 by omega), decide_eq_true q2]; simp⟩).symm)
              go_quiet (fail)
              go_wp2
              exact ih (i + 1) _ _ _ _ _ _ _ _ _ _ _ _ _ _ _ _ _ _ _ _ _ _ _ _ _ _ _ _ _ _ _ _ _ _ _ _ _ _ _ _ _ _ _ _ _ _ _ _ _ _ _ _ _ _ _ _ _ _ _ _ _ _ _ _ _ _ _ _ _ _ _ _ _ _ _ _ _ _ _ _ _ (by omega) (by go_num) (HT'.out.trans H1.out.symm) (HS'.out.trans H2.out.symm) (HF.out.trans H3.out.symm) (HX.out.ex (HE8.out.trans (by first | exact (Ext.refl _).drewN _ | exact Ext.refl _)))
            ·
              have HF := Lib.hid (show P = (if P = 0 ∧ badP x a = true then 1 else P) from (if_neg (fun h => by have := h.2; rw [HBP.out] at this; simp at this; omega)).symm)
              go_quiet (fail)
              go_wp2
              exact ih (i + 1) _ _ _ _ _ _ _ _ _ _ _ _ _ _ _ _ _ _ _ _ _ _ _ _ _ _ _ _ _ _ _ _ _ _ _ _ _ _ _ _ _ _ _ _ _ _ _ _ _ _ _ _ _ _ _ _ _ _ _ _ _ _ _ _ _ _ _ _ _ _ _ _ _ _ _ _ _ _ _ _ _ (by omega) (by go_num) (HT'.out.trans H1.out.symm) (HS'.out.trans H2.out.symm) (HF.out.trans H3.out.symm) (HX.out.ex (HE8.out.trans (by first | exact (Ext.refl _).drewN _ | exact Ext.refl _)))
        · have g0 : (P == 0) = false := by simp [q0]
          have Q0 := Lib.hid q0
          clear q0
          have HF := Lib.hid (show P = (if P = 0 ∧ badP x a = true then 1 else P) from (if_neg (fun h => Q0.out h.1)).symm)
          go_quiet (fail)
          go_wp2
          exact ih (i + 1) _ _ _ _ _ _ _ _ _ _ _ _ _ _ _ _ _ _ _ _ _ _ _ _ _ _ _ _ _ _ _ _ _ _ _ _ _ _ _ _ _ _ _ _ _ _ _ _ _ _ _ _ _ _ _ _ _ _ _ _ _ _ _ _ _ _ _ _ _ _ _ _ _ _ _ _ _ _ _ _ _ (by omega) (by go_num) (HT'.out.trans H1.out.symm) (HS'.out.trans H2.out.symm) (HF.out.trans H3.out.symm) (HX.out.ex (HE8.out.trans (by first | exact (Ext.refl _).drewN _ | exact Ext.refl _)))
end Go.Proofs.YtamodjlifpjaoaaDoor
