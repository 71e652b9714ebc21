/- THE LAW LangsNth 5: the walk. -/
import Derived.Test.YthlnmcokgfpgmaaDoorZV
import Derived.Test.YthlnmcokgfpgmaaDoorZP
import Derived.Test.YthlnmcokgfpgmaaDoorZQ
import Derived.Test.YthlnmcokgfpgmaaDoorZR
namespace Go.Proofs.YthlnmcokgfpgmaaDoor
open Go.RowKit Go.Maps
set_option linter.unusedVariables false
set_option linter.unusedSimpArgs false
attribute [local go_sem] Oper.quietV quietV Oper.gives givesV ext_refl_iff ext_alloc_iff ext_drew_iff ext_drewN_iff
noncomputable def T5 (n : Nat) : Code := textR n Tryd.f5.body
theorem nth_fin {w : World} {dv : Value} {d : Dfa} (hd : DfaV w dv d) (hg : Good d) {k : Nat} (hk : k ≤ 400) (hs : (scan d 257 0 k).1 = 257) : Calls Tryd.prog 21 #[dv, .int .i64 k] w fun e w' => ∃ c : Int, e = .returned (.tuple #[.slice none 0 0, .int .i64 c]) ∧ ((c = 7 ∧ FinD d) ∨ (c = 3 ∧ ¬ FinD d)) ∧ Ext w w' :=
  (Nth_any w dv d hd k (by omega)).mono fun e w' h => by
    unfold NthP at h
    rw [if_neg (fun h' => h' ((good_iff d).2 hg)), if_neg (by omega), Int.toNat_natCast, if_pos hs] at h
    exact h
theorem nth_word {w : World} {dv : Value} {d : Dfa} (hd : DfaV w dv d) (hg : Good d) {k : Nat} (hk : k ≤ 400) (hs : (scan d 257 0 k).1 ≠ 257) : Calls Tryd.prog 21 #[dv, .int .i64 k] w fun e w' => ∃ v, e = .returned (.tuple #[v, .int .i64 0]) ∧ IntsC w' v (wI (nthW d (scan d 257 0 k).1 0 (scan d 257 0 k).2)) (scan d 257 0 k).1 ∧ Ext w w' :=
  (Nth_any w dv d hd k (by omega)).mono fun e w' h => by
    unfold NthP at h
    rw [if_neg (fun h' => h' ((good_iff d).2 hg)), if_neg (by omega), Int.toNat_natCast, if_neg hs] at h
    exact h
theorem wordC_ok {u : List Nat} {d : Dfa} (hg : Good d) (hw : okW d.k u) (hl : u.length ≤ 256) : wordC (wI u) d.sy = 0 := by
  unfold wordC
  rw [if_neg (by rw [wI_len]; omega), if_neg]
  rw [Bool.not_eq_true, List.any_eq_false]
  intro x hx
  obtain ⟨y, hy, rfl⟩ := List.mem_map.1 hx
  have h1 := hw y hy
  have h2 := hg.kk.1
  simp only [badW, Bool.or_eq_true, decide_eq_true_eq]
  omega
def DfaA (d : Dfa) (v : Value) (w : World) : Prop := DfaV w v d
theorem stays_dfaA (d : Dfa) : Stays Ext (DfaA d) := fun v w w' hE h => DfaV.ext h hE
def RInF (a b : Dfa) (v : Value) (w : World) : Prop := ∃ (A : Option Addr) (n c : Nat), v = .tuple #[.int .i64 (refIncl a b).1, .slice A n c]
theorem stays_rInF (a b : Dfa) : Stays Ext (RInF a b) := fun v w w' hE h => h
/-- What Nth answers beyond the words of five symbols. -/
def NthB (a : Dfa) (k : Nat) (e : Int) (wv : Value) (W : World) : Prop :=
  (wv = .slice none 0 0 ∧ (scan a 257 0 k).1 = 257 ∧ ((e = 7 ∧ FinD a) ∨ (e = 3 ∧ ¬ FinD a))) ∨ (e = 0 ∧ (scan a 257 0 k).1 ≠ 257 ∧ ∃ u : List Nat, IntsC W wv (wI u) u.length ∧ u.length ≤ 256 ∧ 5 < u.length ∧ okW a.k u ∧ accW a u = true ∧ rankR a (wI u) = ((k : Int), 0))
set_option maxRecDepth 100000 in
set_option maxHeartbeats 16000000 in
theorem nth_t8 (w W : World) (b5 k : Nat) (e : Int) (wv : Value) (a : Dfa) (c0 c1 c2 c3 c4 c6 c7 c11 c12 c13 c14 c15 c16 c17 c18 c19 c20 c21 c22 c23 c24 c25 c26 c27 c28 c29 c30 c31 c32 c33 c34 c35 c36 c37 c38 c39 c40 c41 c42 c43 c44 c45 c46 c47 c48 c49 c50 c51 c52 c53 c54 c55 c56 c57 c58 c59 c60 c61 c62 c63 c64 c65 c66 c67 c68 c69 c70 c71 c72 c73 c74 c75 c76 c77 c78 c79 c80 c81 c82 c83 c84 c85 c86 c87 c88 c89 c90 c91 c92 c93 c94 c95 c96 c97 c98 c99 c100 c101 c102 c103 c104 c105 c106 c107 c108 c109 c110 c111 c112 c113 c114 c115 c116 c117 c118 c119 c120 c121 c122 c123 c124 c125 c126 c127 c128 c129 c130 c131 c132 c133 c134 c135 c136 c137 c138 c139 c140 c141 c142 c143 c144 c145 c146 c147 c148 c149 c150 c151 c152 c153 c154 c155 c156 c157 c158 c159 c160 c161 c162 c163 c164 c165 c166 c167 c168 c169 c170 c171 c172 c173 : Value) (h0 : Ext w W) (hm : GlobM W) (hc : GlobC W) (hb : BoxD W b5 a) (hg : Good a) (hk3 : a.k ≤ 3) (hk : k < 400) (hl : (wordsL a 5).length ≤ k) (hN : NthB a k e wv W) :
    Code.wp Tryd.prog (T5 8) (bodyPost Tryd.prog Tryd.f5 fun e w' => e = .returned (.bool true) ∧ Ext w w') ⟨(c0 :: c1 :: c2 :: c3 :: c4 :: .pointer (some ⟨b5, 0, none⟩) :: c6 :: c7 :: .int .i64 k :: wv :: .int .i64 e :: c11 :: c12 :: c13 :: c14 :: c15 :: c16 :: c17 :: c18 :: c19 :: c20 :: c21 :: c22 :: c23 :: c24 :: c25 :: c26 :: c27 :: c28 :: c29 :: c30 :: c31 :: c32 :: c33 :: c34 :: c35 :: c36 :: c37 :: c38 :: c39 :: c40 :: c41 :: c42 :: c43 :: c44 :: c45 :: c46 :: c47 :: c48 :: c49 :: c50 :: c51 :: c52 :: c53 :: c54 :: c55 :: c56 :: c57 :: c58 :: c59 :: c60 :: c61 :: c62 :: c63 :: c64 :: c65 :: c66 :: c67 :: c68 :: c69 :: c70 :: c71 :: c72 :: c73 :: c74 :: c75 :: c76 :: c77 :: c78 :: c79 :: c80 :: c81 :: c82 :: c83 :: c84 :: c85 :: c86 :: c87 :: c88 :: c89 :: c90 :: c91 :: c92 :: c93 :: c94 :: c95 :: c96 :: c97 :: c98 :: c99 :: c100 :: c101 :: c102 :: c103 :: c104 :: c105 :: c106 :: c107 :: c108 :: c109 :: c110 :: c111 :: c112 :: c113 :: c114 :: c115 :: c116 :: c117 :: c118 :: c119 :: c120 :: c121 :: c122 :: c123 :: c124 :: c125 :: c126 :: c127 :: c128 :: c129 :: c130 :: c131 :: c132 :: c133 :: c134 :: c135 :: c136 :: c137 :: c138 :: c139 :: c140 :: c141 :: c142 :: c143 :: c144 :: c145 :: c146 :: c147 :: c148 :: c149 :: c150 :: c151 :: c152 :: c153 :: c154 :: c155 :: c156 :: c157 :: c158 :: c159 :: c160 :: c161 :: c162 :: c163 :: c164 :: c165 :: c166 :: c167 :: c168 :: c169 :: c170 :: c171 :: c172 :: c173 :: []).toArray, []⟩ W := by
  conv => arg 2; whnf
  obtain ⟨Ar, Aa, cr, ca, p0, p1, p2, hD⟩ := hb
  have hkk := hg.kk
  have hsy : a.sy = (a.k : Int) := hkk.1.symm
  rw [hsy] at p0
  have hDk : DfaV W (.agg #[.int .i64 (a.k : Int), .slice Ar a.rows.length cr, .slice Aa a.acc.length ca]) a := by rw [← hsy]; exact hD
  have p0 := fun w' (h : Ext W w') => h.cell p0
  have p1 := fun w' (h : Ext W w') => h.cell p1
  have p2 := fun w' (h : Ext W w') => h.cell p2
  have hE0 := Ext.refl W
  have hgu := upto_good ⟨hkk.2.1, hk3⟩
  have hup := fun W1 => upto_any W1 a.k ⟨hkk.2.1, hk3⟩
  have hri := fun W1 (e : Ext W W1) uv hu => refIncl_any W1 _ uv a (uptoD a.k) (hDk.ext e) hu hg hgu (upto_k a.k).symm
  have hshort := upto_short hg hk3
  have h01 := refIncl_one a (uptoD a.k)
  have HA := Lib.hid (And.intro h0 (And.intro hm (And.intro hc (And.intro hg (And.intro hk3 (And.intro hDk hsy))))))
  have HL := Lib.hid (And.intro hl hshort)
  have HN := Lib.hid hN
  have hlv := fun W1 (e : Ext W W1) => lives_any W1 (HA.out.2.1.ext e) (HA.out.2.2.1.ext e)
  clear h0 hm hc hg hk3 hD hDk hl hshort hN hkk hsy hgu
  go_upto_region 8 with fail
  refine wp_region_ext 9 (factsOf [(3, DfaA (uptoD a.k)), (4, RInF a (uptoD a.k))]) (fun k => ([[], [], [1], [1, 2], [0, 1, 2, 3], [0, 1, 2, 3, 4], [0, 1, 2, 3, 4, 5], [0, 1, 2, 3, 4, 5], [0, 1, 2, 3, 4, 5, 6], [0, 1, 2, 3, 4, 5, 6, 7, 8]] : List (List Nat)).getD k []) (by kernel_rfl) (by kernel_rfl) Ext.pre (mono_cons (stays_dfaA _) (mono_cons (stays_rInF _ _) (mono_nil))) ?_
  simp only [List.take_succ_cons, List.take_zero]
  repeat (first | (with_reducible refine lexL_quiet' (v := ?_) ?_ ?_ ?_ ?_; rotate_left; (· with_reducible rfl); (· simp [factsOf]); (· intro w1 hw1 _; go_simp; with_reducible rfl); (try simp only [Act.put, List.setIfInBounds_toArray, List.set_cons_zero, List.set_cons_succ])) | (with_reducible refine lexL_skip ?_ ?_; (· simp [Region.wanted, yielded, undef]); (try simp only [Act.put, List.setIfInBounds_toArray, List.set_cons_zero, List.set_cons_succ])) | (with_reducible refine lexL_quiet (v := ?_) ?_ ?_ ?_ ?_; rotate_left; (· simp [Region.wanted, yielded, undef]); (· simp [factsOf]); (· intro w1 hw1 _; go_simp; with_reducible rfl); (try simp only [Act.put, List.setIfInBounds_toArray, List.set_cons_zero, List.set_cons_succ])))
  with_reducible refine lexL_give' (φ := ?_) ?_ ?_ ?_ ?_; rotate_left; (· with_reducible rfl); (· simp only [factsOf, Nat.reduceAdd, ↓reduceIte, Nat.reduceEqDiff]; rfl)
  · intro w2 hw2 _
    go_simp
    refine (hup w2).mono ?_
    rintro e w3 ⟨u, rfl, h3, e3⟩
    exact ⟨_, rfl, e3, h3⟩
  rintro v3 w2 hw2 h3 hk2
  clear hk2 hw2 h3 w2
  (try simp only [Act.put, List.setIfInBounds_toArray, List.set_cons_zero, List.set_cons_succ])
  with_reducible refine lexL_give' (φ := ?_) ?_ ?_ ?_ ?_; rotate_left; (· with_reducible rfl); (· simp only [factsOf, Nat.reduceAdd, ↓reduceIte, Nat.reduceEqDiff]; rfl)
  · intro w2 hw2 hkn
    have h3 : DfaV w2 v3 (uptoD a.k) := hkn.get 3 (by decide) rfl rfl
    go_simp
    refine (hri w2 hw2 v3 h3).mono ?_
    rintro e w3 ⟨u, c, rfl, hu, e3⟩
    obtain ⟨A, rfl, _⟩ := hu
    exact ⟨_, rfl, e3, A, _, c, rfl⟩
  rintro v4 w2 hw2 ⟨A4, n4, c4', rfl⟩ hk2
  clear hk2 hw2 w2
  (try simp only [Act.put, List.setIfInBounds_toArray, List.set_cons_zero, List.set_cons_succ])
  repeat (first | (with_reducible refine lexL_quiet' (v := ?_) ?_ ?_ ?_ ?_; rotate_left; (· with_reducible rfl); (· simp [factsOf]); (· intro w1 hw1 _; go_simp; with_reducible rfl); (try simp only [Act.put, List.setIfInBounds_toArray, List.set_cons_zero, List.set_cons_succ])) | (with_reducible refine lexL_skip ?_ ?_; (· simp [Region.wanted, yielded, undef]); (try simp only [Act.put, List.setIfInBounds_toArray, List.set_cons_zero, List.set_cons_succ])) | (with_reducible refine lexL_quiet (v := ?_) ?_ ?_ ?_ ?_; rotate_left; (· simp [Region.wanted, yielded, undef]); (· simp [factsOf]); (· intro w1 hw1 _; go_simp; with_reducible rfl); (try simp only [Act.put, List.setIfInBounds_toArray, List.set_cons_zero, List.set_cons_succ])))
  with_reducible refine lexL_nil ?_; intro w1 hw1 hk1; simp only [List.drop_succ_cons, List.drop_zero]
  clear hk1 hup hri hE0
  have p0 := fun w' (h : Ext w1 w') => p0 w' (hw1.trans h)
  have p1 := fun w' (h : Ext w1 w') => p1 w' (hw1.trans h)
  have p2 := fun w' (h : Ext w1 w') => p2 w' (hw1.trans h)
  have hlv := fun W1 (e : Ext w1 W1) => hlv W1 (hw1.trans e)
  have hE0 := Ext.refl w1
  have HE1 := Lib.hid hw1
  clear hw1
  generalize (refIncl a (uptoD a.k)).1 = R1 at *
  rcases HN.out with ⟨rfl, hs, ⟨rfl, hf⟩ | ⟨rfl, hf⟩⟩ | ⟨rfl, hs, u, hu, h256, h5, hok, hacc, hrk⟩
  · have hgone := nth_gone HA.out.2.2.2.1 (by omega) hs
    have hco : ∀ W3 (e : Ext w1 W3) (i : Nat), i ≤ 64 → Calls Tryd.prog 19 #[.agg #[.int .i64 (a.k : Int), .slice Ar a.rows.length cr, .slice Aa a.acc.length ca], .int .i64 i] W3 fun e w' => e = .returned (.tuple #[.int .i64 (cntW a i 0 : Nat), .int .i64 0]) ∧ Ext W3 w' := fun W3 e i hi => two_val (CountOf_any W3 _ a (HA.out.2.2.2.2.2.1.ext (HE1.out.trans e)) i) (count_exact HA.out.2.2.2.1 (by omega) (by have := cnt_short a (show i < 257 by omega); omega))
    have hrf : ∀ W3 (e : Ext w1 W3), Calls Tryd.prog 17 #[.agg #[.int .i64 (a.k : Int), .slice Ar a.rows.length cr, .slice Aa a.acc.length ca]] W3 fun e w' => e = .returned (.int .i64 1) ∧ Ext W3 w' := fun W3 e => (refFin_any W3 _ a (HA.out.2.2.2.2.2.1.ext (HE1.out.trans e)) HA.out.2.2.2.1).mono fun e' w' ⟨b, h1, h2, h3⟩ => ⟨by rw [h1, h2.2 hf]; rfl, h3⟩
    have HGO := Lib.hid hgone
    have HF := Lib.hid (And.intro hs hf)
    clear hgone hs hf
    rcases h01 with rfl | rfl
    all_goals
      go_wp2
      go_loopw [15, 16] (fun mv iv wr => ∃ i : Nat, iv = .int .i64 i ∧ i ≤ 65 ∧ mv = .int .i64 (shortC a i : Nat) ∧ Ext w1 wr) (fun _ iv _ => 65 - (intOf iv).toNat)
      case atStart => exact ⟨0, rfl, by omega, rfl, Ext.refl _⟩
      case round =>
        obtain ⟨i, rfl, hi, rfl, hE⟩ := hrel
        obtain ⟨W3, hW3⟩ : ∃ W, W = wr := ⟨_, rfl⟩; subst hW3
        have hsb : shortC a i ≤ 400 := by have h1 := shortC_mono a (show i ≤ 257 by omega); have := HGO.out; omega
        by_cases hil : i < 65
        · have hiI : (i : Int) ≤ 64 := by omega
          have hc3 := hco W3 hE i (by omega)
          have hss := shortC_succ a i
          have hcb : cntW a i 0 ≤ 400 := by have h1 := cnt_short a (show i < 257 by omega); have := HGO.out; omega
          have HSS := Lib.hid hss
          have p0 := p0 W3 hE
          have p1 := p1 W3 hE
          have p2 := p2 W3 hE
          clear hss
          generalize cntW a i 0 = X at *
          generalize shortC a i = Y at *
          go_wp2_with ((with_reducible refine hc3.mono ?_); rintro e w4 ⟨rfl, e4⟩)
          go_roundw
          case rel => exact ⟨i + 1, by go_num, by omega, by rw [HSS.out]; go_num, hE.trans e4⟩
          case measure => simp [intOf]; omega
        · obtain rfl : i = 65 := by omega
          have hle : shortC a 65 ≤ k := Nat.le_trans (shortC_mono a (by omega)) HGO.out
          have hleI : ((shortC a 65 : Nat) : Int) ≤ (k : Int) := by omega
          have hrf3 := hrf W3 hE
          have HE := Lib.hid hE
          have p0 := p0 W3 hE
          have p1 := p1 W3 hE
          have p2 := p2 W3 hE
          clear hle hco hrf hE
          generalize shortC a 65 = Y at *
          go_wp2_with (first
            | ((with_reducible refine hrf3.mono ?_); rintro e w4 ⟨rfl, e4⟩; have hl4 := hlv w4 (HE.out.trans e4))
            | ((with_reducible refine hl4.mono ?_); rintro e w5 ⟨rfl, e5⟩))
          go_ret
          exact ⟨rfl, HA.out.1.trans (HE1.out.trans (HE.out.trans (e4.trans e5)))⟩
  · have hR0 : R1 = 0 := by
      rcases h01 with h | h
      · exact h
      · exact absurd (fin_short HA.out.2.2.2.1 (HL.out.2 h)) hf
    subst hR0
    have hrf : ∀ W3 (e : Ext w1 W3), Calls Tryd.prog 17 #[.agg #[.int .i64 (a.k : Int), .slice Ar a.rows.length cr, .slice Aa a.acc.length ca]] W3 fun e w' => e = .returned (.int .i64 0) ∧ Ext W3 w' := fun W3 e => (refFin_any W3 _ a (HA.out.2.2.2.2.2.1.ext (HE1.out.trans e)) HA.out.2.2.2.1).mono fun e' w' ⟨b, h1, h2, h3⟩ => ⟨by
      cases b with
      | false => rw [h1]; rfl
      | true => exact absurd (h2.1 rfl) hf, h3⟩
    have hrf3 := hrf w1 hE0
    clear hf hs h01 hrf
    go_wp2_with (first
      | ((with_reducible refine hrf3.mono ?_); rintro e w4 ⟨rfl, e4⟩; have hl4 := hlv w4 e4)
      | ((with_reducible refine hl4.mono ?_); rintro e w5 ⟨rfl, e5⟩))
    go_ret
    exact ⟨rfl, HA.out.1.trans (HE1.out.trans (e4.trans e5))⟩
  · have hR0 : R1 = 0 := by
      rcases h01 with h | h
      · exact h
      · exact absurd (scan_short HA.out.2.2.2.1 (HL.out.2 h) HL.out.1 (by omega)) hs
    subst hR0
    have hu1 := hu.ext HE1.out
    have hwd := (refWord_any w1 _ (wI u) u.length a.sy hu1)
    rw [wordC_ok HA.out.2.2.2.1 hok h256, HA.out.2.2.2.2.2.2] at hwd
    have hac := accepts_any w1 _ _ a u u.length (HA.out.2.2.2.2.2.1.ext HE1.out) HA.out.2.2.2.1 hu1 hok
    rw [hacc] at hac
    have hrk3 : ∀ W3 (e : Ext w1 W3), Calls Tryd.prog 22 #[.agg #[.int .i64 (a.k : Int), .slice Ar a.rows.length cr, .slice Aa a.acc.length ca], wv] W3 fun e w' => e = .returned (.tuple #[.int .i64 k, .int .i64 0]) ∧ Ext W3 w' := fun W3 e => two_val (Rank_any W3 _ a (HA.out.2.2.2.2.2.1.ext (HE1.out.trans e)) _ _ _ (hu1.ext e)) hrk
    obtain ⟨Au, rfl, _⟩ := id hu1
    rw [wI_len] at hwd hac hrk3 ⊢
    have h5I : (5 : Int) < (u.length : Int) := by omega
    have h256I : ¬ (256 : Int) < (u.length : Int) := by omega
    clear hu hu1 hs h01 hok hacc hrk
    go_wp2_with (first
      | ((with_reducible refine hwd.mono ?_); rintro e w2 ⟨rfl, rfl⟩)
      | ((with_reducible refine hac.mono ?_); rintro e w3 ⟨rfl, e3⟩; have hrk4 := hrk3 w3 e3)
      | ((with_reducible refine hrk4.mono ?_); rintro e w4 ⟨rfl, e4⟩; have hl4 := hlv w4 (e3.trans e4))
      | ((with_reducible refine hl4.mono ?_); rintro e w5 ⟨rfl, e5⟩))
    go_ret
    exact ⟨rfl, HA.out.1.trans (HE1.out.trans (e3.trans (e4.trans e5)))⟩
set_option maxRecDepth 100000 in
set_option maxHeartbeats 16000000 in
theorem nth_t2 (w W : World) (b5 n : Nat) (hn : n < 65536) (a : Dfa) (c0 c2 c3 c4 c6 c7 c8 c9 c10 c11 c12 c13 c14 c15 c16 c17 c18 c19 c20 c21 c22 c23 c24 c25 c26 c27 c28 c29 c30 c31 c32 c33 c34 c35 c36 c37 c38 c39 c40 c41 c42 c43 c44 c45 c46 c47 c48 c49 c50 c51 c52 c53 c54 c55 c56 c57 c58 c59 c60 c61 c62 c63 c64 c65 c66 c67 c68 c69 c70 c71 c72 c73 c74 c75 c76 c77 c78 c79 c80 c81 c82 c83 c84 c85 c86 c87 c88 c89 c90 c91 c92 c93 c94 c95 c96 c97 c98 c99 c100 c101 c102 c103 c104 c105 c106 c107 c108 c109 c110 c111 c112 c113 c114 c115 c116 c117 c118 c119 c120 c121 c122 c123 c124 c125 c126 c127 c128 c129 c130 c131 c132 c133 c134 c135 c136 c137 c138 c139 c140 c141 c142 c143 c144 c145 c146 c147 c148 c149 c150 c151 c152 c153 c154 c155 c156 c157 c158 c159 c160 c161 c162 c163 c164 c165 c166 c167 c168 c169 c170 c171 c172 c173 : Value) (h0 : Ext w W) (hm : GlobM W) (hc : GlobC W) (hb : BoxD W b5 a) (hg : Good a) (hk3 : a.k ≤ 3) :
    Code.wp Tryd.prog (T5 2) (bodyPost Tryd.prog Tryd.f5 fun e w' => e = .returned (.bool true) ∧ Ext w w') ⟨(c0 :: .int .u16 n :: c2 :: c3 :: c4 :: .pointer (some ⟨b5, 0, none⟩) :: c6 :: c7 :: c8 :: c9 :: c10 :: c11 :: c12 :: c13 :: c14 :: c15 :: c16 :: c17 :: c18 :: c19 :: c20 :: c21 :: c22 :: c23 :: c24 :: c25 :: c26 :: c27 :: c28 :: c29 :: c30 :: c31 :: c32 :: c33 :: c34 :: c35 :: c36 :: c37 :: c38 :: c39 :: c40 :: c41 :: c42 :: c43 :: c44 :: c45 :: c46 :: c47 :: c48 :: c49 :: c50 :: c51 :: c52 :: c53 :: c54 :: c55 :: c56 :: c57 :: c58 :: c59 :: c60 :: c61 :: c62 :: c63 :: c64 :: c65 :: c66 :: c67 :: c68 :: c69 :: c70 :: c71 :: c72 :: c73 :: c74 :: c75 :: c76 :: c77 :: c78 :: c79 :: c80 :: c81 :: c82 :: c83 :: c84 :: c85 :: c86 :: c87 :: c88 :: c89 :: c90 :: c91 :: c92 :: c93 :: c94 :: c95 :: c96 :: c97 :: c98 :: c99 :: c100 :: c101 :: c102 :: c103 :: c104 :: c105 :: c106 :: c107 :: c108 :: c109 :: c110 :: c111 :: c112 :: c113 :: c114 :: c115 :: c116 :: c117 :: c118 :: c119 :: c120 :: c121 :: c122 :: c123 :: c124 :: c125 :: c126 :: c127 :: c128 :: c129 :: c130 :: c131 :: c132 :: c133 :: c134 :: c135 :: c136 :: c137 :: c138 :: c139 :: c140 :: c141 :: c142 :: c143 :: c144 :: c145 :: c146 :: c147 :: c148 :: c149 :: c150 :: c151 :: c152 :: c153 :: c154 :: c155 :: c156 :: c157 :: c158 :: c159 :: c160 :: c161 :: c162 :: c163 :: c164 :: c165 :: c166 :: c167 :: c168 :: c169 :: c170 :: c171 :: c172 :: c173 :: []).toArray, []⟩ W := by
  conv => arg 2; whnf
  have HB := Lib.hid hb
  obtain ⟨Ar, Aa, cr, ca, p0, p1, p2, hD⟩ := hb
  have p0 := fun w' (h : Ext W w') => h.cell p0
  have p1 := fun w' (h : Ext W w') => h.cell p1
  have p2 := fun w' (h : Ext W w') => h.cell p2
  have hE0 := Ext.refl W
  have hwo : Calls Tryd.prog 20 #[.agg #[.int .i64 a.sy, .slice Ar a.rows.length cr, .slice Aa a.acc.length ca], .int .i64 5] W fun e w' => ∃ v, e = .returned v ∧ WordsC w' v (wordsL a 5) ∧ Ext W w' := words_any W _ a 5 hD hg hk3 (by omega)
  obtain ⟨k, hk⟩ : ∃ k, n % 400 = k := ⟨_, rfl⟩
  have hk4 : k < 400 := by omega
  have hmod : ((n : Nat) : Int).tmod 400 = (k : Int) := by rw [Int.tmod_eq_emod_of_nonneg (by omega)]; omega
  have HA := Lib.hid (And.intro h0 (And.intro hm (And.intro hc (And.intro hg (And.intro hk3 hD)))))
  have hlv := fun W1 (e : Ext W W1) => lives_any W1 (HA.out.2.1.ext e) (HA.out.2.2.1.ext e)
  have hwl := words_len a hk3 (show 5 ≤ 6 by omega)
  have hwl0 : (wordsL a 5).length = (wordsL a 5).length := rfl
  clear h0 hm hc hg hk3 hD hk
  go_upto_region 3 with ((with_reducible refine hwo.mono ?_); rintro e w2 ⟨v, rfl, hv, e2⟩)
  obtain ⟨Al, cl, vs, rfl, _, _, _, _, hlm⟩ := id hv
  clear hwo
  have HV := Lib.hid hv
  by_cases hlt : k < (wordsL a 5).length
  · obtain ⟨hm5, hget, hlen⟩ := nth_small HA.out.2.2.2.1 hlt (by unfold topN; omega) (show 5 ≤ 256 by omega)
    have hnt : ∀ W3 (e : Ext w2 W3), Calls Tryd.prog 21 #[.agg #[.int .i64 a.sy, .slice Ar a.rows.length cr, .slice Aa a.acc.length ca], .int .i64 k] W3 _ := fun W3 e => nth_word (HA.out.2.2.2.2.2.ext (e2.trans e)) HA.out.2.2.2.1 (by omega) (by omega)
    have hra := rank_at HA.out.2.2.2.1 (show 5 ≤ 256 by omega) hget (by omega)
    generalize hu : nthW a (scan a 257 0 k).1 0 (scan a 257 0 k).2 = u at *
    generalize (scan a 257 0 k).1 = m at *
    obtain ⟨bl, ol, cl2, uk, hvv, hcell, ⟨ck, huk⟩, hnil⟩ := HV.out.at_ hlt
    injection hvv with hA _ hC
    subst hA
    subst hC
    have hge : (wordsL a 5)[k] = u := (List.getElem?_eq_some_iff.1 hget).2
    rw [hge] at huk
    have HU := Lib.hid huk
    have hltI : (k : Int) < ((wordsL a 5).length : Int) := by omega
    clear hv hget hge hu huk hm5 hnil
    have hk5 := fun w' (h : Ext w2 w') => h.cell hcell
    have hrk : ∀ W3 (e : Ext w2 W3), Calls Tryd.prog 22 #[.agg #[.int .i64 a.sy, .slice Ar a.rows.length cr, .slice Aa a.acc.length ca], uk] W3 fun e w' => e = .returned (.tuple #[.int .i64 k, .int .i64 0]) ∧ Ext W3 w' := fun W3 e => two_val (Rank_any W3 _ a (HA.out.2.2.2.2.2.ext (e2.trans e)) _ _ _ (HU.out.ext e)) hra
    have hE20 := Ext.refl w2
    have p0 := fun w' (h : Ext w2 w') => p0 w' (e2.trans h)
    have p1 := fun w' (h : Ext w2 w') => p1 w' (e2.trans h)
    have p2 := fun w' (h : Ext w2 w') => p2 w' (e2.trans h)
    have hlv := fun W1 (e : Ext w2 W1) => hlv W1 (e2.trans e)
    have hnt2 := hnt w2 hE20
    have HE2 := Lib.hid e2
    clear hcell hnt hwl hwl0 hra e2
    go_upto_region 6 with ((with_reducible refine hnt2.mono ?_); rintro e w3 ⟨v3, rfl, hv3, e3⟩)
    obtain ⟨A3, rfl, _⟩ := id hv3
    clear hnt2
    have p0 := fun w' (h : Ext w3 w') => p0 w' (e3.trans h)
    have p1 := fun w' (h : Ext w3 w') => p1 w' (e3.trans h)
    have p2 := fun w' (h : Ext w3 w') => p2 w' (e3.trans h)
    have hk5 := fun w' (h : Ext w3 w') => hk5 w' (e3.trans h)
    have hE30 := Ext.refl w3
    refine wp_region_ext 10 (factsOf [(5, fun v _ => v = .tuple #[.int .i64 k, .int .i64 0])]) (fun k => ([[], [], [], [1, 2], [1, 2, 3], [0, 1, 2, 3, 4], [0, 1, 2, 3, 4, 5], [0, 1, 2, 3, 4, 5, 6], [0, 1, 2, 3, 4, 5, 6], [0, 1, 2, 3, 4, 5, 6, 7], [0, 1, 2, 3, 4, 5, 6, 7, 8, 9]] : List (List Nat)).getD k []) (by kernel_rfl) (by kernel_rfl) Ext.pre (mono_cons (stays_eq _) (mono_nil)) ?_
    simp only [List.take_succ_cons, List.take_zero]
    repeat (first | (with_reducible refine lexL_quiet' (v := ?_) ?_ ?_ ?_ ?_; rotate_left; (· with_reducible rfl); (· simp [factsOf]); (· intro w1 hw1 _; go_simp; with_reducible rfl); (try simp only [Act.put, List.setIfInBounds_toArray, List.set_cons_zero, List.set_cons_succ])) | (with_reducible refine lexL_skip ?_ ?_; (· simp [Region.wanted, yielded, undef]); (try simp only [Act.put, List.setIfInBounds_toArray, List.set_cons_zero, List.set_cons_succ])) | (with_reducible refine lexL_quiet (v := ?_) ?_ ?_ ?_ ?_; rotate_left; (· simp [Region.wanted, yielded, undef]); (· simp [factsOf]); (· intro w1 hw1 _; go_simp; with_reducible rfl); (try simp only [Act.put, List.setIfInBounds_toArray, List.set_cons_zero, List.set_cons_succ])))
    with_reducible refine lexL_give' (φ := ?_) ?_ ?_ ?_ ?_; rotate_left; (· with_reducible rfl); (· simp only [factsOf, Nat.reduceAdd, ↓reduceIte, Nat.reduceEqDiff]; rfl)
    · intro w4 hw4 _
      go_simp
      refine (hrk w4 (e3.trans hw4)).mono ?_
      rintro e w5 ⟨rfl, e5⟩
      exact ⟨_, rfl, e5, rfl⟩
    rintro v5 w4 hw4 rfl hk2
    clear hk2 hw4 w4
    (try simp only [Act.put, List.setIfInBounds_toArray, List.set_cons_zero, List.set_cons_succ])
    repeat (first | (with_reducible refine lexL_quiet' (v := ?_) ?_ ?_ ?_ ?_; rotate_left; (· with_reducible rfl); (· simp [factsOf]); (· intro w1 hw1 _; go_simp; with_reducible rfl); (try simp only [Act.put, List.setIfInBounds_toArray, List.set_cons_zero, List.set_cons_succ])) | (with_reducible refine lexL_skip ?_ ?_; (· simp [Region.wanted, yielded, undef]); (try simp only [Act.put, List.setIfInBounds_toArray, List.set_cons_zero, List.set_cons_succ])) | (with_reducible refine lexL_quiet (v := ?_) ?_ ?_ ?_ ?_; rotate_left; (· simp [Region.wanted, yielded, undef]); (· simp [factsOf]); (· intro w1 hw1 _; go_simp; with_reducible rfl); (try simp only [Act.put, List.setIfInBounds_toArray, List.set_cons_zero, List.set_cons_succ])))
    with_reducible refine lexL_nil ?_; intro w1 hw1 hk1; simp only [List.drop_succ_cons, List.drop_zero]
    clear hk1
    have hk5 := hk5 w1 hw1
    have his := is_any w1 _ _ _ _ _ _ (hv3.ext hw1) (HU.out.ext (e3.trans hw1)) true 0
    have hisB : isB (wI u) m true 0 (wI u) = true := by unfold isB; rw [wI_len, hlen]; simp
    rw [hisB] at his
    have his : Calls Tryd.prog 23 #[.slice A3 (wI u).length m, .bool true, .int .i64 0, uk] w1 fun e w' => e = .returned (.int .i64 1) ∧ Ext w1 w' := his
    have HE3 := Lib.hid (HE2.out.trans (e3.trans hw1))
    have hlv := fun W1 (e : Ext w1 W1) => hlv W1 ((e3.trans hw1).trans e)
    clear p0 p1 p2 hisB hrk
    go_wp2_with (first
      | ((with_reducible refine his.mono ?_); rintro e w4 ⟨rfl, e4⟩; have hl4 := hlv w4 e4)
      | ((with_reducible refine hl4.mono ?_); rintro e w5 ⟨rfl, e5⟩))
    go_ret
    exact ⟨rfl, HA.out.1.trans (HE3.out.trans (e4.trans e5))⟩
  · have hge : (wordsL a 5).length ≤ k := Nat.le_of_not_lt hlt
    have hltI : ¬ (k : Int) < ((wordsL a 5).length : Int) := by omega
    have hE20 := Ext.refl w2
    have p0 := fun w' (h : Ext w2 w') => p0 w' (e2.trans h)
    have p1 := fun w' (h : Ext w2 w') => p1 w' (e2.trans h)
    have p2 := fun w' (h : Ext w2 w') => p2 w' (e2.trans h)
    have HG := Lib.hid hge
    by_cases hs : (scan a 257 0 k).1 = 257
    · have hnt := nth_fin (HA.out.2.2.2.2.2.ext e2) HA.out.2.2.2.1 (show k ≤ 400 by omega) hs
      have HS := Lib.hid hs
      clear hs hge hlt hv hwl hwl0
      go_upto_region 999 with (first
        | (with_reducible refine stop_at 8 ?_)
        | ((with_reducible refine hnt.mono ?_); rintro e w3 ⟨c, rfl, hc, e3⟩; clear hnt; have HC := Lib.hid hc; clear hc))
      refine ⟨?_⟩
      have e23 := e2.trans e3
      exact nth_t8 w w3 b5 k c _ a _ _ _ _ _ _ _ _ _ _ _ _ _ _ _ _ _ _ _ _ _ _ _ _ _ _ _ _ _ _ _ _ _ _ _ _ _ _ _ _ _ _ _ _ _ _ _ _ _ _ _ _ _ _ _ _ _ _ _ _ _ _ _ _ _ _ _ _ _ _ _ _ _ _ _ _ _ _ _ _ _ _ _ _ _ _ _ _ _ _ _ _ _ _ _ _ _ _ _ _ _ _ _ _ _ _ _ _ _ _ _ _ _ _ _ _ _ _ _ _ _ _ _ _ _ _ _ _ _ _ _ _ _ _ _ _ _ _ _ _ _ _ _ _ _ _ _ _ _ _ _ _ _ _ _ _ _ _ _ _ _ _ _ _ _ _ _ _ _ _ (HA.out.1.trans e23) (HA.out.2.1.ext e23) (HA.out.2.2.1.ext e23) (HB.out.ext e23) HA.out.2.2.2.1 HA.out.2.2.2.2.1 hk4 HG.out (.inl ⟨rfl, HS.out, HC.out⟩)
    · have hnt := nth_word (HA.out.2.2.2.2.2.ext e2) HA.out.2.2.2.1 (show k ≤ 400 by omega) hs
      obtain ⟨u, hu, hul, h256, h5, hok, hacc, hrk⟩ := nth_great HA.out.2.2.2.1 hge (by omega) hs
      rw [← hu, ← hul] at hnt
      have HS := Lib.hid (And.intro hs (And.intro h256 (And.intro h5 (And.intro hok (And.intro hacc hrk)))))
      clear hs hge hlt hv hwl hwl0 hu hul h256 h5 hok hacc hrk
      go_upto_region 999 with (first
        | (with_reducible refine stop_at 8 ?_)
        | ((with_reducible refine hnt.mono ?_); rintro e w3 ⟨v3, rfl, hv3, e3⟩; clear hnt; have HC := Lib.hid hv3; obtain ⟨A3, rfl, _⟩ := id hv3; clear hv3))
      refine ⟨?_⟩
      have e23 := e2.trans e3
      exact nth_t8 w w3 b5 k 0 _ a _ _ _ _ _ _ _ _ _ _ _ _ _ _ _ _ _ _ _ _ _ _ _ _ _ _ _ _ _ _ _ _ _ _ _ _ _ _ _ _ _ _ _ _ _ _ _ _ _ _ _ _ _ _ _ _ _ _ _ _ _ _ _ _ _ _ _ _ _ _ _ _ _ _ _ _ _ _ _ _ _ _ _ _ _ _ _ _ _ _ _ _ _ _ _ _ _ _ _ _ _ _ _ _ _ _ _ _ _ _ _ _ _ _ _ _ _ _ _ _ _ _ _ _ _ _ _ _ _ _ _ _ _ _ _ _ _ _ _ _ _ _ _ _ _ _ _ _ _ _ _ _ _ _ _ _ _ _ _ _ _ _ _ _ _ _ _ _ _ _ (HA.out.1.trans e23) (HA.out.2.1.ext e23) (HA.out.2.2.1.ext e23) (HB.out.ext e23) HA.out.2.2.2.1 HA.out.2.2.2.2.1 hk4 HG.out (.inr ⟨rfl, HS.out.1, u, HC.out, HS.out.2⟩)
set_option maxRecDepth 100000 in
set_option maxHeartbeats 4000000 in
theorem LangsNth_any (w : World) (xv : Value) (x : RawN) (n : Nat) (hx : RawNV w xv x) (hn : n < 65536) (hm : GlobM w) (hc : GlobC w) : Calls Tryd.prog 5 #[xv, .int .u16 n] w fun e w' => e = .returned (.bool true) ∧ Ext w w' := by
  obtain ⟨av, ca, rfl, ha, hxb⟩ := id hx
  obtain ⟨Aa, rfl, _⟩ := id ha
  go_enter Tryd.func5, Tryd.ntmps5
  go_upto_region 1 with fail
  refine wp_named ?_
  intro W1 hW1
  have hE1 : Ext w W1 := by rw [hW1]; exact (Ext.refl _).alloc _
  have z1 : W1.heap[w.heap.size]? = some (.cells #[.int .u8 x.sy, .int .u8 x.many, .slice Aa x.arcs.length ca, .int .u8 x.st, .int .u8 x.ac] 24 (0, 0)) := by rw [hW1]; exact heap_alloc_new w _
  clear hW1
  generalize w.heap.size = b1 at *
  have k0 := cell_of_blk z1 0 (u := .int .u8 x.sy) rfl
  have k1 := cell_of_blk z1 1 (u := .int .u8 x.many) rfl
  have k2 := cell_of_blk z1 2 (u := .slice Aa x.arcs.length ca) rfl
  have k3 := cell_of_blk z1 3 (u := .int .u8 x.st) rfl
  have k4 := cell_of_blk z1 4 (u := .int .u8 x.ac) rfl
  have hdf := dfas_any W1 _ _ x x (hx.ext hE1) (hx.ext hE1)
  have HX := Lib.hid (And.intro hm (And.intro hc hE1))
  clear hx ha hxb z1 hm hc hE1
  go_upto_region 999 with (first
    | (with_reducible refine stop_at 2 ?_)
    | (go_at_call 12; refine hdf.mono ?_; rintro e wB ⟨v1, v2, a, b, rfl, hd1, hd2, hg1, hg2, hn1, hn2, hs1, hs2, eB⟩; obtain ⟨rvA, crA, avA, caA, rfl, ⟨ArA, vrA, rfl, -⟩, ⟨AaA, rfl, -⟩⟩ := id hd1; obtain ⟨rvB, crB, avB, caB, rfl, ⟨ArB, vrB, rfl, -⟩, ⟨AaB, rfl, -⟩⟩ := id hd2; clear hdf)
    | (with_reducible refine wpList_store_blk _ rfl 28 _ _ rfl wB.heap.size 28 _ _ rfl rfl (heap_ext (alloc_ext _ _) (heap_alloc_new _ _)) (by kernel_rfl) (by kernel_rfl) (by kernel_rfl) ?_; intro w1 h1 g1)
    | (with_reducible refine wpList_store_blk _ rfl 28 _ _ rfl (wB.heap.size + 1) 28 _ _ rfl rfl ((g1.block _ (by simp) (by simp)).trans (by have := heap_alloc_new (wB.alloc (.cells #[.int .i64 0, .slice none 0 0, .slice none 0 0] 28)) (.cells #[.int .i64 0, .slice none 0 0, .slice none 0 0] 28); simpa using this)) (by kernel_rfl) (by kernel_rfl) (by kernel_rfl) ?_; intro w2 h2 g2))
  refine ⟨?_⟩
  have eB1 : Ext wB w1 := Below.grown ((alloc_ext wB _).trans (alloc_ext _ _)) g1 ((alloc_ext wB _).trans (alloc_ext _ _)).size (fun k hk => by cases hk; exact Nat.le_refl _)
  have e12 : Ext wB w2 := Below.grown eB1 g2 eB1.size (fun k hk => by cases hk; omega)
  have h1 := (g2.block _ (lt_of_block h1) (by simp)).trans h1
  rw [← hs1] at h1
  have hE2 : Ext w w2 := HX.out.2.2.trans (eB.trans e12)
  exact nth_t2 w w2 wB.heap.size n hn a _ _ _ _ _ _ _ _ _ _ _ _ _ _ _ _ _ _ _ _ _ _ _ _ _ _ _ _ _ _ _ _ _ _ _ _ _ _ _ _ _ _ _ _ _ _ _ _ _ _ _ _ _ _ _ _ _ _ _ _ _ _ _ _ _ _ _ _ _ _ _ _ _ _ _ _ _ _ _ _ _ _ _ _ _ _ _ _ _ _ _ _ _ _ _ _ _ _ _ _ _ _ _ _ _ _ _ _ _ _ _ _ _ _ _ _ _ _ _ _ _ _ _ _ _ _ _ _ _ _ _ _ _ _ _ _ _ _ _ _ _ _ _ _ _ _ _ _ _ _ _ _ _ _ _ _ _ _ _ _ _ _ _ _ _ _ _ _ _ _ _ _ hE2 (HX.out.1.ext hE2) (HX.out.2.1.ext hE2) (BoxD.of h1 (hd1.ext e12)) hg1 (by have := hg1.kk; omega)
end Go.Proofs.YthlnmcokgfpgmaaDoor
