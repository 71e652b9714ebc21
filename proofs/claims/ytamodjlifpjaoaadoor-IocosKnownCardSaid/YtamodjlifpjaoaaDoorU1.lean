/- gauntletlaw27.great 33; IocosErrors 8, the last piece. -/
import Derived.Test.YtamodjlifpjaoaaDoorT2
import Derived.Test.YtamodjlifpjaoaaDoorGL
import Derived.Test.YtamodjlifpjaoaaDoorGE
namespace Go.Proofs.YtamodjlifpjaoaaDoor
open Go.RowKit
set_option linter.unusedVariables false
set_option linter.unusedSimpArgs false
attribute [local go_sem] Oper.quietV quietV Oper.gives givesV ext_refl_iff ext_alloc_iff ext_drew_iff ext_drewN_iff
def gS (x : Lts) (i : Nat) : Int := (x.rows.take i).foldl (fun s r => IntKind.i64.wrap (s + (r.length : Int))) 0
theorem gS_step {x : Lts} {i : Nat} {r : List Arc} (h : x.rows[i]? = some r) : gS x (i + 1) = IntKind.i64.wrap (gS x i + (r.length : Int)) := by
  unfold gS
  rw [List.take_add_one, h, List.foldl_append]; rfl
def greatB (x : Lts) : Bool := decide (70 < x.rows.length ∨ 600 < gS x x.rows.length)
set_option maxRecDepth 100000 in
set_option maxHeartbeats 16000000 in
theorem great_any (w : World) (v : Value) (x : Lts) (hd : LtsV w v x) : Calls Tryd.prog 33 #[v] w fun e w' => e = .returned (.int .i64 (b01 (greatB x))) ∧ Ext w w' := by
  obtain ⟨A, c, rfl, hr, hlen⟩ := hd.form
  go_enter Tryd.func33, Tryd.ntmps33
  go_upto_region 1 with fail
  refine wp_named ?_
  intro W1 hW1
  have hE1 : Ext w W1 := by rw [hW1]; exact (Ext.refl _).alloc _
  have k0 : ∀ w', Ext W1 w' → w'.cell? ⟨w.heap.size, 0, none⟩ = some (.int .i64 x.ins) := fun w' h => h.cell (by rw [hW1]; simp [go_sem])
  have k1 : ∀ w', Ext W1 w' → w'.cell? ⟨w.heap.size, 1, none⟩ = some (.int .i64 x.outs) := fun w' h => h.cell (by rw [hW1]; simp [go_sem])
  have k2 : ∀ w', Ext W1 w' → w'.cell? ⟨w.heap.size, 2, none⟩ = some (.slice A x.rows.length c) := fun w' h => h.cell (by rw [hW1]; simp [go_sem])
  clear hW1
  generalize w.heap.size = b1 at *
  have hE0 := Ext.refl W1
  have HR := Lib.hid (And.intro (hr.ext hE1) hE1)
  have HK := Lib.hid k2
  clear hd hr hE1 k0 k1 k2
  go_wp2
  go_loopw [3, 4] (fun sv iv wr => ∃ s : Int, ∃ i : Nat, Hid (s = gS x i) ∧ sv = .int .i64 s ∧ iv = .int .i64 i ∧ i ≤ x.rows.length ∧ i ≤ 71 ∧ Ext W1 wr) (fun _ iv _ => 71 - (intOf iv).toNat)
  case atStart => exact ⟨0, 0, Lib.hid rfl, rfl, rfl, by omega, by omega, by first | exact Ext.refl _ | exact (Ext.refl _).drew | exact (Ext.refl _).drewN _⟩
  case round =>
    obtain ⟨s, i, HS, rfl, rfl, hi, hi2, hE⟩ := hrel
    obtain ⟨W5, hW5⟩ : ∃ W, W = wr := ⟨_, rfl⟩; subst hW5
    have k2 := fun w' (h : Ext W5 w') => HK.out w' (hE.trans h)
    have HE5 := Lib.hid hE
    have hE5 := Ext.refl W5
    by_cases hlt : i < x.rows.length
    · by_cases hlt2 : i < 71
      · obtain ⟨r, hri⟩ : ∃ r, x.rows[i]? = some r := ⟨_, List.getElem?_eq_getElem hlt⟩
        obtain ⟨b, o, u, c', hvv, _, c0, hu⟩ := (HR.out.1.ext hE).at_ hri
        injection hvv with hvv _ hcc
        subst hvv hcc
        obtain ⟨A5, c5, rfl, _, _, hrm⟩ := id hu
        unfold lenMax at hrm
        have c0 := fun w' (h : Ext W5 w') => h.cell c0
        have HS2 := Lib.hid (gS_step hri)
        clear hri hu hE
        go_wp2
        go_roundw
        case rel => exact ⟨_, i + 1, Lib.hid (by rw [HS2.out, ← HS.out]; exact (IntWalk.i64_left _).symm), rfl, by go_num, by omega, by omega, by first | exact HE5.out | exact HE5.out.drew | exact HE5.out.drewN _⟩
        case measure => simp [intOf]; omega
      · have hI : (70 : Int) < (x.rows.length : Int) := by omega
        have hr : Hid (greatB x = true) := Lib.hid (decide_eq_true (.inl (by omega)))
        clear hE
        go_wp2
        go_ret
        exact ⟨by rw [hr.out]; rfl, HR.out.2.trans HE5.out⟩
    · clear hE
      by_cases hl : 70 < x.rows.length
      · have hI : (70 : Int) < (x.rows.length : Int) := by omega
        have hr : Hid (greatB x = true) := Lib.hid (decide_eq_true (.inl (by omega)))
        go_wp2
        go_ret
        exact ⟨by rw [hr.out]; rfl, HR.out.2.trans HE5.out⟩
      · have hI : ¬ (70 : Int) < (x.rows.length : Int) := by omega
        obtain rfl : i = x.rows.length := by omega
        by_cases hs : 600 < s
        · have hr : Hid (greatB x = true) := Lib.hid (decide_eq_true (.inr (by rw [← HS.out]; exact hs)))
          go_wp2
          go_ret
          exact ⟨by rw [hr.out]; rfl, HR.out.2.trans HE5.out⟩
        · have hr : Hid (greatB x = false) := Lib.hid (decide_eq_false (by rw [← HS.out]; exact fun h => h.elim hl hs))
          go_wp2
          go_ret
          exact ⟨by rw [hr.out]; rfl, HR.out.2.trans HE5.out⟩
noncomputable def T8 (n : Nat) : Code := textR n Tryd.f8.body
/-- What IocosErrors answers. -/
def ErrP (w : World) (e : Ending) (w' : World) : Prop := e = .returned (.bool true) ∧ Ext w w'
set_option maxRecDepth 100000 in
set_option maxHeartbeats 16000000 in
theorem err_t31 (w W : World) (b3 : Nat) (x : Lts) (ls S V : List Int) (M : List Nd) (e1 e2 pl me : Int) (ct : Nat) (c0 c1 c4 c5 c6 c7 c8 c9 c10 c11 c16 c17 c18 c19 c20 c21 c22 c26 c27 c28 c29 c30 c31 c32 c33 c34 c35 c36 c37 c38 c39 c40 c41 c42 c43 c44 c45 c46 c47 c48 c49 c50 c51 c52 c53 c54 c55 c56 c57 c58 c59 c60 c61 c62 c63 c64 c65 c66 c67 c68 c69 c70 c71 c72 c73 c74 c75 c76 c77 c78 c79 c80 c81 c82 c83 c84 c85 c86 c87 c88 c89 c90 c91 c92 c93 c94 c95 c96 c97 c98 c99 c100 c101 c102 c103 c104 c105 c106 c107 c108 c109 c110 c111 c112 c113 c114 c115 c116 c117 c118 c119 c120 c121 c122 c123 c124 c125 c126 c127 c128 c129 c130 c131 c132 c133 c134 c135 c136 c137 c138 c139 c140 c141 c142 c143 c144 c145 c146 c147 c148 c149 c150 c151 c152 c153 c154 c155 c156 c157 c158 c159 c160 c161 c162 c163 c164 c165 c166 c167 c168 c169 c170 c171 c172 c173 c174 c175 c176 c177 c178 c179 c180 c181 c182 c183 c184 c185 c186 c187 c188 c189 c190 c191 c192 c193 c194 c195 c196 c197 c198 c199 c200 c201 c202 c203 c204 c205 c206 c207 c208 c209 c210 c211 c212 c213 c214 c215 c216 c217 c218 c219 c220 c221 c222 c223 c224 c225 c226 c227 c228 c229 c230 c231 c232 c233 c234 c235 c236 c237 c238 c239 c240 c241 c242 c243 c244 c245 c246 c247 c248 c249 c250 c251 c252 c253 c254 c255 c256 c257 c258 c259 c260 c261 c262 c263 c264 c265 c266 c267 c268 c269 c270 c271 c272 c273 c274 c275 c276 c277 c278 c279 c280 c281 c282 c283 c284 c285 c286 c287 c288 c289 c290 c291 c292 c293 c294 c295 c296 c297 c298 c299 c300 c301 c302 c303 c304 c305 c306 c307 c308 c309 c310 tv sv vv : Value) (h0 : Ext w W) (hT : Tab W) (hb : BoxL W b3 x) (ht : IntsC W tv ls ct)
    (hs : FitC W sv S) (hv : FitC W vv V) (hS : e1 ≠ 0 → S = []) (hV : e2 ≠ 0 → V = []) (hM : makeR x ls = (M, me)) (hM0 : me ≠ 0 → M = []) (hpl : me = pl ∨ me = 3 ∧ pl = 0) :
    Code.wp Tryd.prog (T8 31) (bodyPost Tryd.prog Tryd.f8 (ErrP w)) ⟨(c0 :: c1 :: tv :: .pointer (some ⟨b3, 0, none⟩) :: c4 :: c5 :: c6 :: c7 :: c8 :: c9 :: c10 :: c11 :: .int .i64 e1 :: sv :: vv :: .int .i64 e2 :: c16 :: c17 :: c18 :: c19 :: c20 :: c21 :: c22 :: .int .i64 e1 :: .int .i64 e2 :: .int .i64 pl :: c26 :: c27 :: c28 :: c29 :: c30 :: c31 :: c32 :: c33 :: c34 :: c35 :: c36 :: c37 :: c38 :: c39 :: c40 :: c41 :: c42 :: c43 :: c44 :: c45 :: c46 :: c47 :: c48 :: c49 :: c50 :: c51 :: c52 :: c53 :: c54 :: c55 :: c56 :: c57 :: c58 :: c59 :: c60 :: c61 :: c62 :: c63 :: c64 :: c65 :: c66 :: c67 :: c68 :: c69 :: c70 :: c71 :: c72 :: c73 :: c74 :: c75 :: c76 :: c77 :: c78 :: c79 :: c80 :: c81 :: c82 :: c83 :: c84 :: c85 :: c86 :: c87 :: c88 :: c89 :: c90 :: c91 :: c92 :: c93 :: c94 :: c95 :: c96 :: c97 :: c98 :: c99 :: c100 :: c101 :: c102 :: c103 :: c104 :: c105 :: c106 :: c107 :: c108 :: c109 :: c110 :: c111 :: c112 :: c113 :: c114 :: c115 :: c116 :: c117 :: c118 :: c119 :: c120 :: c121 :: c122 :: c123 :: c124 :: c125 :: c126 :: c127 :: c128 :: c129 :: c130 :: c131 :: c132 :: c133 :: c134 :: c135 :: c136 :: c137 :: c138 :: c139 :: c140 :: c141 :: c142 :: c143 :: c144 :: c145 :: c146 :: c147 :: c148 :: c149 :: c150 :: c151 :: c152 :: c153 :: c154 :: c155 :: c156 :: c157 :: c158 :: c159 :: c160 :: c161 :: c162 :: c163 :: c164 :: c165 :: c166 :: c167 :: c168 :: c169 :: c170 :: c171 :: c172 :: c173 :: c174 :: c175 :: c176 :: c177 :: c178 :: c179 :: c180 :: c181 :: c182 :: c183 :: c184 :: c185 :: c186 :: c187 :: c188 :: c189 :: c190 :: c191 :: c192 :: c193 :: c194 :: c195 :: c196 :: c197 :: c198 :: c199 :: c200 :: c201 :: c202 :: c203 :: c204 :: c205 :: c206 :: c207 :: c208 :: c209 :: c210 :: c211 :: c212 :: c213 :: c214 :: c215 :: c216 :: c217 :: c218 :: c219 :: c220 :: c221 :: c222 :: c223 :: c224 :: c225 :: c226 :: c227 :: c228 :: c229 :: c230 :: c231 :: c232 :: c233 :: c234 :: c235 :: c236 :: c237 :: c238 :: c239 :: c240 :: c241 :: c242 :: c243 :: c244 :: c245 :: c246 :: c247 :: c248 :: c249 :: c250 :: c251 :: c252 :: c253 :: c254 :: c255 :: c256 :: c257 :: c258 :: c259 :: c260 :: c261 :: c262 :: c263 :: c264 :: c265 :: c266 :: c267 :: c268 :: c269 :: c270 :: c271 :: c272 :: c273 :: c274 :: c275 :: c276 :: c277 :: c278 :: c279 :: c280 :: c281 :: c282 :: c283 :: c284 :: c285 :: c286 :: c287 :: c288 :: c289 :: c290 :: c291 :: c292 :: c293 :: c294 :: c295 :: c296 :: c297 :: c298 :: c299 :: c300 :: c301 :: c302 :: c303 :: c304 :: c305 :: c306 :: c307 :: c308 :: c309 :: c310 :: []).toArray, []⟩ W := by
  conv => arg 2; whnf
  have HX := Lib.hid (And.intro h0 hT)
  have HPL := Lib.hid hpl
  obtain ⟨pA, pc, p0, p1, p2, pS⟩ := hb
  have p0 := fun w' (h : Ext W w') => h.cell p0
  have p1 := fun w' (h : Ext W w') => h.cell p1
  have p2 := fun w' (h : Ext W w') => h.cell p2
  have hmk := Make_any W _ x tv ls ct pS ht hT
  rw [hM] at hmk
  unfold MakeP at hmk
  have hlv := fun W' (e : Ext W W') => lives_any W' (hT.ext e)
  obtain ⟨As, rfl, _, _, hms⟩ := hs
  obtain ⟨Av, rfl, _, _, hmv⟩ := hv
  unfold lenMax at hms hmv
  have hE0 := Ext.refl W
  have n1 : (e1 != e1) = false := by simp
  have n2 : (e2 != e2) = false := by simp
  clear h0 hT hpl hM pS ht
  by_cases z1 : e1 = 0
  · have k1 : (e1 != 0) = false := by simp [z1]
    clear z1 hS
    by_cases z2 : e2 = 0
    · have k2 : (e2 != 0) = false := by simp [z2]
      clear z2 hV
      by_cases qm : me = pl
      · subst qm
        have g1 : (me == me) = true := by simp
        by_cases q0 : me = 0
        · have g2 : (me == 0) = true := by simp [q0]
          clear HPL
          go_wp2_with (first
            | ((with_reducible refine hmk.mono ?_); rintro e W1 ⟨rv, rfl, ⟨A1, M1, hM1, rfl, _, _, _, hm1⟩, e1⟩; have hlv1 := hlv W1 e1; have HE1 := Lib.hid e1; unfold lenMax at hm1; clear e1)
            | ((with_reducible refine hlv1.mono ?_); rintro e W2 ⟨rfl, e2⟩))
          go_ret
          exact ⟨rfl, HX.out.1.trans (HE1.out.trans e2)⟩
        · have g2 : (me == 0) = false := by simp [q0]
          have hM := hM0 q0
          subst hM
          clear HPL
          go_wp2_with (first
            | ((with_reducible refine hmk.mono ?_); rintro e W1 ⟨rv, rfl, ⟨A1, M1, hM1, rfl, _, _, _, hm1⟩, e1⟩; have hlv1 := hlv W1 e1; have HE1 := Lib.hid e1; unfold lenMax at hm1; clear e1)
            | ((with_reducible refine hlv1.mono ?_); rintro e W2 ⟨rfl, e2⟩))
          go_ret
          exact ⟨rfl, HX.out.1.trans (HE1.out.trans e2)⟩
      · have hx := HPL.out.resolve_left qm
        obtain ⟨rfl, rfl⟩ := hx
        have hM := hM0 (by decide)
        subst hM
        clear HPL
        go_wp2_with (first
          | ((with_reducible refine hmk.mono ?_); rintro e W1 ⟨rv, rfl, ⟨A1, M1, hM1, rfl, _, _, _, hm1⟩, e1⟩; have hlv1 := hlv W1 e1; have HE1 := Lib.hid e1; unfold lenMax at hm1; clear e1)
          | ((with_reducible refine hlv1.mono ?_); rintro e W2 ⟨rfl, e2⟩))
        go_ret
        exact ⟨rfl, HX.out.1.trans (HE1.out.trans e2)⟩
    · have k2 : (e2 != 0) = true := by simp [z2]
      have hV := hV z2
      subst hV
      clear z2
      by_cases qm : me = pl
      · subst qm
        have g1 : (me == me) = true := by simp
        by_cases q0 : me = 0
        · have g2 : (me == 0) = true := by simp [q0]
          clear HPL
          go_wp2_with (first
            | ((with_reducible refine hmk.mono ?_); rintro e W1 ⟨rv, rfl, ⟨A1, M1, hM1, rfl, _, _, _, hm1⟩, e1⟩; have hlv1 := hlv W1 e1; have HE1 := Lib.hid e1; unfold lenMax at hm1; clear e1)
            | ((with_reducible refine hlv1.mono ?_); rintro e W2 ⟨rfl, e2⟩))
          go_ret
          exact ⟨rfl, HX.out.1.trans (HE1.out.trans e2)⟩
        · have g2 : (me == 0) = false := by simp [q0]
          have hM := hM0 q0
          subst hM
          clear HPL
          go_wp2_with (first
            | ((with_reducible refine hmk.mono ?_); rintro e W1 ⟨rv, rfl, ⟨A1, M1, hM1, rfl, _, _, _, hm1⟩, e1⟩; have hlv1 := hlv W1 e1; have HE1 := Lib.hid e1; unfold lenMax at hm1; clear e1)
            | ((with_reducible refine hlv1.mono ?_); rintro e W2 ⟨rfl, e2⟩))
          go_ret
          exact ⟨rfl, HX.out.1.trans (HE1.out.trans e2)⟩
      · have hx := HPL.out.resolve_left qm
        obtain ⟨rfl, rfl⟩ := hx
        have hM := hM0 (by decide)
        subst hM
        clear HPL
        go_wp2_with (first
          | ((with_reducible refine hmk.mono ?_); rintro e W1 ⟨rv, rfl, ⟨A1, M1, hM1, rfl, _, _, _, hm1⟩, e1⟩; have hlv1 := hlv W1 e1; have HE1 := Lib.hid e1; unfold lenMax at hm1; clear e1)
          | ((with_reducible refine hlv1.mono ?_); rintro e W2 ⟨rfl, e2⟩))
        go_ret
        exact ⟨rfl, HX.out.1.trans (HE1.out.trans e2)⟩
  · have k1 : (e1 != 0) = true := by simp [z1]
    have hS := hS z1
    subst hS
    clear z1
    by_cases z2 : e2 = 0
    · have k2 : (e2 != 0) = false := by simp [z2]
      clear z2 hV
      by_cases qm : me = pl
      · subst qm
        have g1 : (me == me) = true := by simp
        by_cases q0 : me = 0
        · have g2 : (me == 0) = true := by simp [q0]
          clear HPL
          go_wp2_with (first
            | ((with_reducible refine hmk.mono ?_); rintro e W1 ⟨rv, rfl, ⟨A1, M1, hM1, rfl, _, _, _, hm1⟩, e1⟩; have hlv1 := hlv W1 e1; have HE1 := Lib.hid e1; unfold lenMax at hm1; clear e1)
            | ((with_reducible refine hlv1.mono ?_); rintro e W2 ⟨rfl, e2⟩))
          go_ret
          exact ⟨rfl, HX.out.1.trans (HE1.out.trans e2)⟩
        · have g2 : (me == 0) = false := by simp [q0]
          have hM := hM0 q0
          subst hM
          clear HPL
          go_wp2_with (first
            | ((with_reducible refine hmk.mono ?_); rintro e W1 ⟨rv, rfl, ⟨A1, M1, hM1, rfl, _, _, _, hm1⟩, e1⟩; have hlv1 := hlv W1 e1; have HE1 := Lib.hid e1; unfold lenMax at hm1; clear e1)
            | ((with_reducible refine hlv1.mono ?_); rintro e W2 ⟨rfl, e2⟩))
          go_ret
          exact ⟨rfl, HX.out.1.trans (HE1.out.trans e2)⟩
      · have hx := HPL.out.resolve_left qm
        obtain ⟨rfl, rfl⟩ := hx
        have hM := hM0 (by decide)
        subst hM
        clear HPL
        go_wp2_with (first
          | ((with_reducible refine hmk.mono ?_); rintro e W1 ⟨rv, rfl, ⟨A1, M1, hM1, rfl, _, _, _, hm1⟩, e1⟩; have hlv1 := hlv W1 e1; have HE1 := Lib.hid e1; unfold lenMax at hm1; clear e1)
          | ((with_reducible refine hlv1.mono ?_); rintro e W2 ⟨rfl, e2⟩))
        go_ret
        exact ⟨rfl, HX.out.1.trans (HE1.out.trans e2)⟩
    · have k2 : (e2 != 0) = true := by simp [z2]
      have hV := hV z2
      subst hV
      clear z2
      by_cases qm : me = pl
      · subst qm
        have g1 : (me == me) = true := by simp
        by_cases q0 : me = 0
        · have g2 : (me == 0) = true := by simp [q0]
          clear HPL
          go_wp2_with (first
            | ((with_reducible refine hmk.mono ?_); rintro e W1 ⟨rv, rfl, ⟨A1, M1, hM1, rfl, _, _, _, hm1⟩, e1⟩; have hlv1 := hlv W1 e1; have HE1 := Lib.hid e1; unfold lenMax at hm1; clear e1)
            | ((with_reducible refine hlv1.mono ?_); rintro e W2 ⟨rfl, e2⟩))
          go_ret
          exact ⟨rfl, HX.out.1.trans (HE1.out.trans e2)⟩
        · have g2 : (me == 0) = false := by simp [q0]
          have hM := hM0 q0
          subst hM
          clear HPL
          go_wp2_with (first
            | ((with_reducible refine hmk.mono ?_); rintro e W1 ⟨rv, rfl, ⟨A1, M1, hM1, rfl, _, _, _, hm1⟩, e1⟩; have hlv1 := hlv W1 e1; have HE1 := Lib.hid e1; unfold lenMax at hm1; clear e1)
            | ((with_reducible refine hlv1.mono ?_); rintro e W2 ⟨rfl, e2⟩))
          go_ret
          exact ⟨rfl, HX.out.1.trans (HE1.out.trans e2)⟩
      · have hx := HPL.out.resolve_left qm
        obtain ⟨rfl, rfl⟩ := hx
        have hM := hM0 (by decide)
        subst hM
        clear HPL
        go_wp2_with (first
          | ((with_reducible refine hmk.mono ?_); rintro e W1 ⟨rv, rfl, ⟨A1, M1, hM1, rfl, _, _, _, hm1⟩, e1⟩; have hlv1 := hlv W1 e1; have HE1 := Lib.hid e1; unfold lenMax at hm1; clear e1)
          | ((with_reducible refine hlv1.mono ?_); rintro e W2 ⟨rfl, e2⟩))
        go_ret
        exact ⟨rfl, HX.out.1.trans (HE1.out.trans e2)⟩
end Go.Proofs.YtamodjlifpjaoaaDoor
