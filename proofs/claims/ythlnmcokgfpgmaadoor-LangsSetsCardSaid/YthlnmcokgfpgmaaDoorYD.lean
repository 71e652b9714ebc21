/- ref23.Same 31: equal automata. THE LAW LangsLaws 9: the walk. -/
import Derived.Test.YthlnmcokgfpgmaaDoorZS
import Derived.Test.YthlnmcokgfpgmaaDoorYC
import Derived.Test.YthlnmcokgfpgmaaDoorZL
namespace Go.Proofs.YthlnmcokgfpgmaaDoor
open Go.RowKit Go.Maps
set_option linter.unusedVariables false
set_option linter.unusedSimpArgs false
attribute [local go_sem] Oper.quietV quietV Oper.gives givesV ext_refl_iff ext_alloc_iff ext_drew_iff ext_drewN_iff
set_option maxRecDepth 100000 in
set_option maxHeartbeats 8000000 in
theorem refSame_eq (w : World) (dv dv' : Value) (d : Dfa) (hd : DfaV w dv d) (hd' : DfaV w dv' d) : Calls Tryd.prog 31 #[dv, dv'] w fun e w' => e = .returned (.int .i64 1) ∧ Ext w w' := by
  obtain ⟨rv, cr, av, ca, rfl, hr, ha⟩ := id hd
  obtain ⟨Ar, vr, rfl, _, _, _, _, hrm⟩ := id hr
  obtain ⟨Aa, rfl, hac, _, ham⟩ := id ha
  obtain ⟨rv', cr', av', ca', rfl, hr', ha'⟩ := id hd'
  obtain ⟨Ar', vr', rfl, _, _, _, _, hrm'⟩ := id hr'
  obtain ⟨Aa', rfl, hac', _, ham'⟩ := id ha'
  unfold lenMax at hrm ham
  go_enter Tryd.func31, Tryd.ntmps31
  go_upto_region 1 with fail
  refine wp_named ?_
  intro W1 hW1
  have hE1 : Ext w W1 := by rw [hW1]; exact ((Ext.refl _).alloc _).alloc _
  have k0 : ∀ w', Ext W1 w' → w'.cell? ⟨w.heap.size, 0, none⟩ = some (.int .i64 d.sy) := fun w' h => h.cell (by rw [hW1]; simp [go_sem])
  have k1 : ∀ w', Ext W1 w' → w'.cell? ⟨w.heap.size, 1, none⟩ = some (.slice Ar d.rows.length cr) := fun w' h => h.cell (by rw [hW1]; simp [go_sem])
  have k2 : ∀ w', Ext W1 w' → w'.cell? ⟨w.heap.size, 2, none⟩ = some (.slice Aa d.acc.length ca) := fun w' h => h.cell (by rw [hW1]; simp [go_sem])
  have l0 : ∀ w', Ext W1 w' → w'.cell? ⟨w.heap.size + 1, 0, none⟩ = some (.int .i64 d.sy) := fun w' h => h.cell (by rw [hW1]; simp [go_sem])
  have l1 : ∀ w', Ext W1 w' → w'.cell? ⟨w.heap.size + 1, 1, none⟩ = some (.slice Ar' d.rows.length cr') := fun w' h => h.cell (by rw [hW1]; simp [go_sem])
  have l2 : ∀ w', Ext W1 w' → w'.cell? ⟨w.heap.size + 1, 2, none⟩ = some (.slice Aa' d.acc.length ca') := fun w' h => h.cell (by rw [hW1]; simp [go_sem])
  clear hW1
  have hE0 := Ext.refl W1
  go_wp2
  go_loopw [5] (fun sv wr => ∃ s : Nat, sv = .int .i64 s ∧ s ≤ d.rows.length ∧ Ext W1 wr) (fun sv _ => d.rows.length - (intOf sv).toNat)
  case atStart => exact ⟨0, rfl, by omega, Ext.refl _⟩
  case round =>
    obtain ⟨s, rfl, hs, hE⟩ := hrel
    obtain ⟨W3, hW3⟩ : ∃ W, W = wr := ⟨_, rfl⟩; subst hW3
    have kk1 := k1 W3 hE
    by_cases hlt : s < d.rows.length
    · have hsI : (s : Int) < (d.rows.length : Int) := by omega
      obtain ⟨b, o, u, c', hv, _, c1, hi⟩ := (hr.ext (hE1.trans hE)).at_ hlt
      obtain ⟨b', o', u', c'', hv', _, c1', hi'⟩ := (hr'.ext (hE1.trans hE)).at_ hlt
      injection hv with hv
      injection hv' with hv'
      subst hv hv'
      have hsm := fun W (e : Ext W3 W) => sameL_any W _ _ _ _ _ _ (hi.ext e) (hi'.ext e)
      have hse : ∀ x : List Int, b01 (x == x) = 1 := fun x => by simp [b01]
      have p1 := fun w' (h : Ext W3 w') => k1 w' (hE.trans h)
      have q1 := fun w' (h : Ext W3 w') => l1 w' (hE.trans h)
      have c1 := fun w' (h : Ext W3 w') => h.cell c1
      have c1' := fun w' (h : Ext W3 w') => h.cell c1'
      have hE3 := Ext.refl W3
      obtain ⟨Au, rfl, _⟩ := id hi
      obtain ⟨Au', rfl, _⟩ := id hi'
      have HSM := Lib.hid (And.intro hsm hse)
      clear hsm hse hi hi'
      go_upto_region 6 with fail
      refine wp_region_ext 10 (factsOf []) (fun k => ([[], [0], [], [0, 1, 2], [0, 1, 2, 3], [], [5], [], [5, 6, 7], [5, 6, 7, 8], [0, 1, 2, 3, 4, 5, 6, 7, 8, 9], [0, 1, 2, 3, 4, 5, 6, 7, 8, 9, 10]] : List (List Nat)).getD k []) (by kernel_rfl) (by kernel_rfl) Ext.pre (mono_nil) ?_
      simp only [List.take_succ_cons, List.take_zero]
      repeat (first | (with_reducible refine lexL_quiet' (v := ?_) ?_ ?_ ?_ ?_; rotate_left; (· with_reducible rfl); (· simp [factsOf]); (· intro w1 hw1 _; go_simp; with_reducible rfl); (try simp only [Act.put, List.setIfInBounds_toArray, List.set_cons_zero, List.set_cons_succ])) | (with_reducible refine lexL_skip ?_ ?_; (· simp [Region.wanted, yielded, undef]); (try simp only [Act.put, List.setIfInBounds_toArray, List.set_cons_zero, List.set_cons_succ])) | (with_reducible refine lexL_quiet (v := ?_) ?_ ?_ ?_ ?_; rotate_left; (· simp [Region.wanted, yielded, undef]); (· simp [factsOf]); (· intro w1 hw1 _; go_simp; with_reducible rfl); (try simp only [Act.put, List.setIfInBounds_toArray, List.set_cons_zero, List.set_cons_succ])))
      with_reducible refine lexL_nil ?_; intro w1 hw1 hk1; simp only [List.drop_succ_cons, List.drop_zero]
      clear hk1
      have hE9 := hE.trans hw1
      have hsm1 := HSM.out.1 w1 hw1
      rw [HSM.out.2] at hsm1
      clear p1 q1 c1 c1' hw1 kk1
      go_wp2_with ((with_reducible refine hsm1.mono ?_); rintro e w5 ⟨rfl, e5⟩)
      go_roundw
      case rel => exact ⟨s + 1, by go_num, by omega, hE9.trans e5⟩
      case measure => simp [intOf]; omega
    · obtain rfl : s = d.rows.length := by omega
      go_wp2
      go_loopw [6] (fun sv wr => ∃ s : Nat, sv = .int .i64 s ∧ s ≤ d.acc.length ∧ Ext W1 wr) (fun sv _ => d.acc.length - (intOf sv).toNat)
      case atStart => exact ⟨0, rfl, by omega, hE⟩
      case round =>
        obtain ⟨s, rfl, hs, hE⟩ := hrel
        obtain ⟨W4, hW4⟩ : ∃ W, W = wr := ⟨_, rfl⟩; subst hW4
        have kk2 := k2 W4 hE
        by_cases hlt : s < d.acc.length
        · have hsI : (s : Int) < (d.acc.length : Int) := by omega
          obtain ⟨b, o, hA, _, c1⟩ := (hac.ext (hE1.trans hE)).at_bool hlt
          obtain ⟨b', o', hA', _, c1'⟩ := (hac'.ext (hE1.trans hE)).at_bool hlt
          subst hA hA'
          have p1 := fun w' (h : Ext W4 w') => k2 w' (hE.trans h)
          have q1 := fun w' (h : Ext W4 w') => l2 w' (hE.trans h)
          have c1 := fun w' (h : Ext W4 w') => h.cell c1
          have c1' := fun w' (h : Ext W4 w') => h.cell c1'
          have hE4 := Ext.refl W4
          generalize d.acc[s] = g at *
          clear kk1
          go_upto_region 11 with fail
          go_quiet (fail)
          go_wp2
          go_roundw
          case rel => exact ⟨s + 1, by go_num, by omega, hE.drewN _⟩
          case measure => simp [intOf]; omega
        · obtain rfl : s = d.acc.length := by omega
          clear kk1
          go_wp2
          go_ret
          exact ⟨rfl, hE1.trans hE⟩
end Go.Proofs.YthlnmcokgfpgmaaDoor

namespace Go.Proofs.YthlnmcokgfpgmaaDoor
open Go.RowKit Go.Maps
set_option linter.unusedVariables false
set_option linter.unusedSimpArgs false
attribute [local go_sem] Oper.quietV quietV Oper.gives givesV ext_refl_iff ext_alloc_iff ext_drew_iff ext_drewN_iff
noncomputable def T9 (n : Nat) : Code := textR n Tryd.f9.body
/-- Boxed sets. -/
theorem dfaF_form {W : World} {v : Value} {q : Dfa} (h : DfaF W v q) : ∃ A A', v = .agg #[.int .i64 q.sy, .slice A q.rows.length q.rows.length, .slice A' q.acc.length q.acc.length] := by
  obtain ⟨rv, av, rfl, ⟨A, vr, rfl, _⟩, ⟨A', rfl, _⟩⟩ := h
  exact ⟨A, A', rfl⟩
theorem op_set {f : Nat} {args : Array Value} {W : World} {g : Bool → Bool → Bool} {a b : Dfa} (h : Calls Tryd.prog f args W (OpP g a b W)) (h0 : chkL a b = 0) (hn : a.n * b.n ≤ 256) :
    Calls Tryd.prog f args W fun e w' => ∃ (q : Dfa) (A A' : Option Addr), e = .returned (.tuple #[.agg #[.int .i64 q.sy, .slice A q.rows.length q.rows.length, .slice A' q.acc.length q.acc.length], .int .i64 0]) ∧ OpW g a b q ∧ DfaF w' (.agg #[.int .i64 q.sy, .slice A q.rows.length q.rows.length, .slice A' q.acc.length q.acc.length]) q ∧ Ext W w' :=
  h.mono fun e w' ⟨v, r, he, hop, hfar, hE⟩ => by
    have h2 := opR_ok hop h0 hn
    obtain ⟨A, A', hv⟩ := dfaF_form hfar.dfa
    rw [h2] at he
    subst hv
    exact ⟨r.1, A, A', he, (opR_set hop h2).2.2.2, hfar.dfa, hE⟩
theorem comp_set {W : World} {v : Value} {d : Dfa} (hd : DfaV W v d) (hg : Good d) :
    Calls Tryd.prog 35 #[v] W fun e w' => ∃ (q : Dfa) (A A' : Option Addr), e = .returned (.tuple #[.agg #[.int .i64 q.sy, .slice A q.rows.length q.rows.length, .slice A' q.acc.length q.acc.length], .int .i64 0]) ∧ (CompW d q ∧ q.n ≤ d.n) ∧ DfaF w' (.agg #[.int .i64 q.sy, .slice A q.rows.length q.rows.length, .slice A' q.acc.length q.acc.length]) q ∧ Ext W w' :=
  (comp_any W v d hd hg).mono fun e w' ⟨v, q, he, hq, hfar, hE⟩ => by
    obtain ⟨A, A', hv⟩ := dfaF_form hfar.dfa
    subst hv
    exact ⟨q, A, A', he, hq, hfar.dfa, hE⟩
theorem chk_ok {a b : Dfa} (ha : Good a) (hb : Good b) (hs : a.sy = b.sy) : chkL a b = 0 := by
  unfold chkL
  rw [if_neg (by rw [(good_iff a).2 ha]; simp), if_neg (by rw [(good_iff b).2 hb]; simp), if_neg (fun h => h hs)]
theorem count_box {W : World} {v : Value} {d : Dfa} (hd : DfaV W v d) (hg : Good d) (hk : d.k ≤ 3) {k : Nat} (hn : k < 20) :
    Calls Tryd.prog 19 #[v, .int .i64 k] W fun e w' => e = .returned (.tuple #[.int .i64 (cntW d k 0 : Nat), .int .i64 0]) ∧ Ext W w' :=
  two_val (CountOf_any W v d hd k) (count_len hg hk (by omega : k ≤ 20)).1
def mvA (x0 x1 x2 x3 : Nat) (i : Nat) : Array Value := #[.int .i64 (if 0 < i then (x0 : Int) else 0), .int .i64 (if 1 < i then (x1 : Int) else 0), .int .i64 (if 2 < i then (x2 : Int) else 0), .int .i64 (if 3 < i then (x3 : Int) else 0)]
theorem wrap_sum {x y : Nat} (hx : x ≤ 3486784401) (hy : y ≤ 3486784401) : IntKind.i64.wrap ((x : Int) + (y : Int)) = (x : Int) + (y : Int) := by rw [IntKind.wrap_i64]; omega
set_option maxRecDepth 100000 in
set_option maxHeartbeats 8000000 in
theorem laws_t16 (w W : World) (b7 b8 b13 b15 : Nat) (n : Nat) (a b u c : Dfa) (c0 c1 c3 c4 c5 c6 c9 c10 c11 c12 c14 c16 c17 c18 c19 c20 c21 c22 c23 c24 c25 c26 c27 c28 c29 c30 c31 c32 c33 c34 c35 c36 c37 c38 c39 c40 c41 c42 c43 c44 c45 c46 c47 c48 c49 c50 c51 c52 c53 c54 c55 c56 c57 c58 c59 c60 c61 c62 c63 c64 c65 c66 c67 c68 c69 c70 c71 c72 c73 c74 c75 c76 c77 c78 c79 c80 c81 c82 c83 c84 c85 c86 c87 c88 c89 c90 c91 c92 c93 c94 c95 c96 c97 c98 c99 c100 c101 c102 c103 c104 c105 c106 c107 c108 c109 c110 c111 c112 c113 c114 c115 c116 c117 c118 c119 c120 c121 c122 c123 c124 c125 c126 c127 c128 c129 c130 c131 c132 c133 c134 c135 c136 c137 c138 c139 c140 c141 c142 c143 c144 c145 c146 c147 c148 c149 c150 c151 c152 c153 c154 c155 c156 c157 c158 c159 c160 c161 c162 c163 c164 c165 c166 : Value) (h0 : Ext w W) (hm : GlobM W) (hc : GlobC W) (hn : n < 256) (h7 : BoxD W b7 a) (h8 : BoxD W b8 b) (h13 : BoxD W b13 u) (h15 : BoxD W b15 c)
    (hga : Good a) (hgb : Good b) (hk : a.k ≤ 3) (hs : a.sy = b.sy) (hu : OpW (fun x y => x || y) a b u) (hcc : OpW (fun x y => x && y) a b c) :
    Code.wp Tryd.prog (T9 16) (bodyPost Tryd.prog Tryd.f9 fun e w' => e = .returned (.bool true) ∧ Ext w w') ⟨(c0 :: c1 :: .int .u8 n :: c3 :: c4 :: c5 :: c6 :: .pointer (some ⟨b7, 0, none⟩) :: .pointer (some ⟨b8, 0, none⟩) :: c9 :: c10 :: c11 :: c12 :: .pointer (some ⟨b13, 0, none⟩) :: c14 :: .pointer (some ⟨b15, 0, none⟩) :: c16 :: c17 :: c18 :: c19 :: c20 :: c21 :: c22 :: c23 :: c24 :: c25 :: c26 :: c27 :: c28 :: c29 :: c30 :: c31 :: c32 :: c33 :: c34 :: c35 :: c36 :: c37 :: c38 :: c39 :: c40 :: c41 :: c42 :: c43 :: c44 :: c45 :: c46 :: c47 :: c48 :: c49 :: c50 :: c51 :: c52 :: c53 :: c54 :: c55 :: c56 :: c57 :: c58 :: c59 :: c60 :: c61 :: c62 :: c63 :: c64 :: c65 :: c66 :: c67 :: c68 :: c69 :: c70 :: c71 :: c72 :: c73 :: c74 :: c75 :: c76 :: c77 :: c78 :: c79 :: c80 :: c81 :: c82 :: c83 :: c84 :: c85 :: c86 :: c87 :: c88 :: c89 :: c90 :: c91 :: c92 :: c93 :: c94 :: c95 :: c96 :: c97 :: c98 :: c99 :: c100 :: c101 :: c102 :: c103 :: c104 :: c105 :: c106 :: c107 :: c108 :: c109 :: c110 :: c111 :: c112 :: c113 :: c114 :: c115 :: c116 :: c117 :: c118 :: c119 :: c120 :: c121 :: c122 :: c123 :: c124 :: c125 :: c126 :: c127 :: c128 :: c129 :: c130 :: c131 :: c132 :: c133 :: c134 :: c135 :: c136 :: c137 :: c138 :: c139 :: c140 :: c141 :: c142 :: c143 :: c144 :: c145 :: c146 :: c147 :: c148 :: c149 :: c150 :: c151 :: c152 :: c153 :: c154 :: c155 :: c156 :: c157 :: c158 :: c159 :: c160 :: c161 :: c162 :: c163 :: c164 :: c165 :: c166 :: []).toArray, []⟩ W := by
  conv => arg 2; whnf
  obtain ⟨m, hmm⟩ : ∃ m, m = n % 20 := ⟨_, rfl⟩
  have hm20 : m < 20 := by omega
  have hadd := count_add hu hcc hs m
  have hka := hga.kk
  have hkb := hgb.kk
  have hku := hu.1.good.kk
  have hkc := hcc.1.good.kk
  have hk2 : b.k = a.k := by unfold Dfa.k; rw [hs]
  have hk3 := hu.k
  have hk4 := hcc.k
  have l1 := (count_len hga hk (by omega : m ≤ 20)).2
  have l2 := (count_len hgb (by omega) (by omega : m ≤ 20)).2
  have l3 := (count_len hu.1.good (by omega) (by omega : m ≤ 20)).2
  have l4 := (count_len hcc.1.good (by omega) (by omega : m ≤ 20)).2
  obtain ⟨A7, B7, c7, e7, p70, p71, p72, d7⟩ := h7
  obtain ⟨A8, B8, c8, e8, p80, p81, p82, d8⟩ := h8
  obtain ⟨A13, B13, c13, e13, p130, p131, p132, d13⟩ := h13
  obtain ⟨A15, B15, c15, e15, p150, p151, p152, d15⟩ := h15
  have n7 := fun W1 (e : Ext W W1) => count_box (d7.ext e) hga hk hm20
  have n8 := fun W1 (e : Ext W W1) => count_box (d8.ext e) hgb (by omega) hm20
  have n13 := fun W1 (e : Ext W W1) => count_box (d13.ext e) hu.1.good (by omega) hm20
  have n15 := fun W1 (e : Ext W W1) => count_box (d15.ext e) hcc.1.good (by omega) hm20
  have hlv := fun W1 (e : Ext W W1) => lives_any W1 (hm.ext e) (hc.ext e)
  have HA := Lib.hid (And.intro n7 (And.intro n8 (And.intro n13 (And.intro n15 (And.intro hlv h0)))))
  clear n7 n8 n13 n15 hlv h0 hm hc hga hgb hu hcc d7 d8 d13 d15 hka hkb hku hkc hk2 hk3 hk4 hk hs
  generalize cntW a m 0 = N7 at *
  generalize cntW b m 0 = N8 at *
  generalize cntW u m 0 = N13 at *
  generalize cntW c m 0 = N15 at *
  have hmod : ((n : Int) % 20) = (m : Int) := by omega
  clear hmm
  go_upto_region 19 with fail
  rw [hmod]
  refine wp_named ?_
  intro W2 hW2
  have hE2 : Ext W W2 := by rw [hW2]; exact (alloc_ext W _).trans (alloc_ext _ _)
  have hO2 : OwnL W W2 [.blk (W.heap.size + 1) (.cells (mvA N7 N8 N13 N15 0) 69 (0, 0)), .blk W.heap.size (.cells #[.int .i64 a.sy, .slice A7 a.rows.length c7, .slice B7 a.acc.length e7, .int .i64 b.sy, .slice A8 b.rows.length c8, .slice B8 b.acc.length e8, .int .i64 u.sy, .slice A13 u.rows.length c13, .slice B13 u.acc.length e13, .int .i64 c.sy, .slice A15 c.rows.length c15, .slice B15 c.acc.length e15] 28 (0, 0))] := by
    rw [hW2]
    have h1 := (OwnL.nil (Ext.refl W)).add (alloc_ext W (.cells #[.int .i64 a.sy, .slice A7 a.rows.length c7, .slice B7 a.acc.length e7, .int .i64 b.sy, .slice A8 b.rows.length c8, .slice B8 b.acc.length e8, .int .i64 u.sy, .slice A13 u.rows.length c13, .slice B13 u.acc.length e13, .int .i64 c.sy, .slice A15 c.rows.length c15, .slice B15 c.acc.length e15] 28 (0, 0))) (A := .blk W.heap.size _) ⟨Nat.le_refl _, heap_alloc_new _ _⟩
    refine h1.add (alloc_ext _ (.cells (mvA N7 N8 N13 N15 0) 69 (0, 0))) (A := .blk (W.heap.size + 1) _) ⟨by simp, ?_⟩
    have h9 := heap_alloc_new (W.alloc (.cells #[.int .i64 a.sy, .slice A7 a.rows.length c7, .slice B7 a.acc.length e7, .int .i64 b.sy, .slice A8 b.rows.length c8, .slice B8 b.acc.length e8, .int .i64 u.sy, .slice A13 u.rows.length c13, .slice B13 u.acc.length e13, .int .i64 c.sy, .slice A15 c.rows.length c15, .slice B15 c.acc.length e15] 28 (0, 0))) (.cells (mvA N7 N8 N13 N15 0) 69 (0, 0))
    simpa using h9
  have hw1 := wrap_sum l1 l2
  have hw2 : IntKind.i64.wrap ((N13 : Int) + (N15 : Int)) = (N7 : Int) + (N8 : Int) := by rw [wrap_sum l3 l4]; omega
  have HW := Lib.hid (And.intro hw1 hw2)
  clear hW2 p70 p71 p72 p80 p81 p82 p130 p131 p132 p150 p151 p152 l1 l2 l3 l4 hadd hmod hw1 hw2 hE2
  generalize W.heap.size + 1 = gm at *
  generalize W.heap.size = gl at *
  go_wp2
  go_loopw [24] (fun iv wr => ∃ i : Nat, iv = .int .i64 i ∧ i ≤ 4 ∧ OwnL W wr [.blk gm (.cells (mvA N7 N8 N13 N15 i) 69 (0, 0)), .blk gl (.cells #[.int .i64 a.sy, .slice A7 a.rows.length c7, .slice B7 a.acc.length e7, .int .i64 b.sy, .slice A8 b.rows.length c8, .slice B8 b.acc.length e8, .int .i64 u.sy, .slice A13 u.rows.length c13, .slice B13 u.acc.length e13, .int .i64 c.sy, .slice A15 c.rows.length c15, .slice B15 c.acc.length e15] 28 (0, 0))]) (fun iv _ => 4 - (intOf iv).toNat)
  case atStart => exact ⟨0, rfl, Nat.zero_le _, hO2⟩
  case round =>
    clear hO2
    obtain ⟨i, rfl, hi, hO⟩ := hrel
    obtain ⟨W4, hW4⟩ : ∃ W, W = wr := ⟨_, rfl⟩; subst hW4
    have hcase : i = 0 ∨ i = 1 ∨ i = 2 ∨ i = 3 ∨ i = 4 := by omega
    clear hi
    rcases hcase with rfl | rfl | rfl | rfl | rfl
    · skip
      have q0 := cell_of_blk (hO.get 1 rfl).2 0 (u := (.int .i64 a.sy)) rfl
      have q1 := cell_of_blk (hO.get 1 rfl).2 1 (u := (.slice A7 a.rows.length c7)) rfl
      have q2 := cell_of_blk (hO.get 1 rfl).2 2 (u := (.slice B7 a.acc.length e7)) rfl
      have hcl := HA.out.1 W4 hO.ext
      have HO := Lib.hid hO
      clear hO
      go_upto_region 23 with ((with_reducible refine hcl.mono ?_); rintro e w5 ⟨rfl, e5⟩)
      have hO5 := HO.out.trans e5
      have s0 := cell_of_blk (hO5.get 0 rfl).2 0 (u := .int .i64 0) rfl
      have sf := free_of_blk (hO5.get 0 rfl).2 0
      have hst := hO5.put 0 (b := gm) rfl 0 (.int .i64 (N7 : Int))
      have HST := Lib.hid hst
      clear hst hO5 q0 q1 q2 hcl
      go_wp2
      go_roundw
      case rel => exact ⟨0 + 1, rfl, by omega, HST.out⟩
      case measure => simp [intOf]
    · skip
      have q0 := cell_of_blk (hO.get 1 rfl).2 3 (u := (.int .i64 b.sy)) rfl
      have q1 := cell_of_blk (hO.get 1 rfl).2 4 (u := (.slice A8 b.rows.length c8)) rfl
      have q2 := cell_of_blk (hO.get 1 rfl).2 5 (u := (.slice B8 b.acc.length e8)) rfl
      have hcl := HA.out.2.1 W4 hO.ext
      have HO := Lib.hid hO
      clear hO
      go_upto_region 23 with ((with_reducible refine hcl.mono ?_); rintro e w5 ⟨rfl, e5⟩)
      have hO5 := HO.out.trans e5
      have s0 := cell_of_blk (hO5.get 0 rfl).2 1 (u := .int .i64 0) rfl
      have sf := free_of_blk (hO5.get 0 rfl).2 1
      have hst := hO5.put 0 (b := gm) rfl 1 (.int .i64 (N8 : Int))
      have HST := Lib.hid hst
      clear hst hO5 q0 q1 q2 hcl
      go_wp2
      go_roundw
      case rel => exact ⟨1 + 1, rfl, by omega, HST.out⟩
      case measure => simp [intOf]
    · skip
      have q0 := cell_of_blk (hO.get 1 rfl).2 6 (u := (.int .i64 u.sy)) rfl
      have q1 := cell_of_blk (hO.get 1 rfl).2 7 (u := (.slice A13 u.rows.length c13)) rfl
      have q2 := cell_of_blk (hO.get 1 rfl).2 8 (u := (.slice B13 u.acc.length e13)) rfl
      have hcl := HA.out.2.2.1 W4 hO.ext
      have HO := Lib.hid hO
      clear hO
      go_upto_region 23 with ((with_reducible refine hcl.mono ?_); rintro e w5 ⟨rfl, e5⟩)
      have hO5 := HO.out.trans e5
      have s0 := cell_of_blk (hO5.get 0 rfl).2 2 (u := .int .i64 0) rfl
      have sf := free_of_blk (hO5.get 0 rfl).2 2
      have hst := hO5.put 0 (b := gm) rfl 2 (.int .i64 (N13 : Int))
      have HST := Lib.hid hst
      clear hst hO5 q0 q1 q2 hcl
      go_wp2
      go_roundw
      case rel => exact ⟨2 + 1, rfl, by omega, HST.out⟩
      case measure => simp [intOf]
    · skip
      have q0 := cell_of_blk (hO.get 1 rfl).2 9 (u := (.int .i64 c.sy)) rfl
      have q1 := cell_of_blk (hO.get 1 rfl).2 10 (u := (.slice A15 c.rows.length c15)) rfl
      have q2 := cell_of_blk (hO.get 1 rfl).2 11 (u := (.slice B15 c.acc.length e15)) rfl
      have hcl := HA.out.2.2.2.1 W4 hO.ext
      have HO := Lib.hid hO
      clear hO
      go_upto_region 23 with ((with_reducible refine hcl.mono ?_); rintro e w5 ⟨rfl, e5⟩)
      have hO5 := HO.out.trans e5
      have s0 := cell_of_blk (hO5.get 0 rfl).2 3 (u := .int .i64 0) rfl
      have sf := free_of_blk (hO5.get 0 rfl).2 3
      have hst := hO5.put 0 (b := gm) rfl 3 (.int .i64 (N15 : Int))
      have HST := Lib.hid hst
      clear hst hO5 q0 q1 q2 hcl
      go_wp2
      go_roundw
      case rel => exact ⟨3 + 1, rfl, by omega, HST.out⟩
      case measure => simp [intOf]
    · have q0 := cell_of_blk (hO.get 0 rfl).2 0 (u := .int .i64 N7) rfl
      have q1 := cell_of_blk (hO.get 0 rfl).2 1 (u := .int .i64 N8) rfl
      have q2 := cell_of_blk (hO.get 0 rfl).2 2 (u := .int .i64 N13) rfl
      have q3 := cell_of_blk (hO.get 0 rfl).2 3 (u := .int .i64 N15) rfl
      have hl := HA.out.2.2.2.2.1 W4 hO.ext
      obtain ⟨hw1, hw2⟩ := HW.out
      have hee : ((N7 : Int) + (N8 : Int) == (N7 : Int) + (N8 : Int)) = true := by simp
      have HE := Lib.hid hO.ext
      clear hO
      go_wp2_with ((with_reducible refine hl.mono ?_); rintro e w5 ⟨rfl, e5⟩)
      go_ret
      exact ⟨rfl, HA.out.2.2.2.2.2.trans (HE.out.trans e5)⟩
structure LH (w W : World) (b7 b8 : Nat) (a b : Dfa) : Prop where
  e : Ext w W
  m : GlobM W
  c : GlobC W
  u : GlobU W
  ba : BoxD W b7 a
  bb : BoxD W b8 b
  ga : Good a
  gb : Good b
  k : a.k ≤ 3
  s : a.sy = b.sy
  n : a.n * b.n ≤ 256
theorem LH.ext {w W W' : World} {b7 b8 : Nat} {a b : Dfa} (h : LH w W b7 b8 a b) (e : Ext W W') : LH w W' b7 b8 a b := ⟨h.e.trans e, h.m.ext e, h.c.ext e, h.u.ext e, h.ba.ext e, h.bb.ext e, h.ga, h.gb, h.k, h.s, h.n⟩
theorem box_new {w1 w2 : World} {q : Dfa} {A A' : Option Addr} {bk : Nat} (h2 : w2.heap[bk]? = some (.cells #[.int .i64 q.sy, .slice A q.rows.length q.rows.length, .slice A' q.acc.length q.acc.length] 28 (0, 0))) (hd : DfaF w1 (.agg #[.int .i64 q.sy, .slice A q.rows.length q.rows.length, .slice A' q.acc.length q.acc.length]) q) (e : Ext w1 w2) : BoxD w2 bk q := BoxD.of h2 (hd.dfa.ext e)
set_option maxRecDepth 100000 in
set_option maxHeartbeats 8000000 in
theorem laws_t12 (w W : World) (b7 b8 b9 b11 b13 b15 b17 b18 : Nat) (n : Nat) (a b u c p q m : Dfa) (c0 c1 c3 c4 c5 c6 c14 c16 c19 c20 c21 c22 c23 c24 c25 c26 c27 c28 c29 c30 c31 c32 c33 c34 c35 c36 c37 c38 c39 c40 c41 c42 c43 c44 c45 c46 c47 c48 c49 c50 c51 c52 c53 c54 c55 c56 c57 c58 c59 c60 c61 c62 c63 c64 c65 c66 c67 c68 c69 c70 c71 c72 c73 c74 c75 c76 c77 c78 c79 c80 c81 c82 c83 c84 c85 c86 c87 c88 c89 c90 c91 c92 c93 c94 c95 c96 c97 c98 c99 c100 c101 c102 c103 c104 c105 c106 c107 c108 c109 c110 c111 c112 c113 c114 c115 c116 c117 c118 c119 c120 c121 c122 c123 c124 c125 c126 c127 c128 c129 c130 c131 c132 c133 c134 c135 c136 c137 c138 c139 c140 c141 c142 c143 c144 c145 c146 c147 c148 c149 c150 c151 c152 c153 c154 c155 c156 c157 c158 c159 c160 c161 c162 c163 c164 c165 c166 : Value) (H : LH w W b7 b8 a b) (hn : n < 256) (h9 : BoxD W b9 p) (h11 : BoxD W b11 q) (h13 : BoxD W b13 u) (h15 : BoxD W b15 c) (h17 : BoxD W b17 m) (h18 : BoxD W b18 m)
    (hp : CompW a p ∧ p.n ≤ a.n) (hq : CompW b q ∧ q.n ≤ b.n) (hu : OpW (fun x y => x || y) a b u) (hcc : OpW (fun x y => x && y) a b c) :
    Code.wp Tryd.prog (T9 12) (bodyPost Tryd.prog Tryd.f9 fun e w' => e = .returned (.bool true) ∧ Ext w w') ⟨(c0 :: c1 :: .int .u8 n :: c3 :: c4 :: c5 :: c6 :: .pointer (some ⟨b7, 0, none⟩) :: .pointer (some ⟨b8, 0, none⟩) :: .pointer (some ⟨b9, 0, none⟩) :: .int .i64 0 :: .pointer (some ⟨b11, 0, none⟩) :: .int .i64 0 :: .pointer (some ⟨b13, 0, none⟩) :: c14 :: .pointer (some ⟨b15, 0, none⟩) :: c16 :: .pointer (some ⟨b17, 0, none⟩) :: .pointer (some ⟨b18, 0, none⟩) :: c19 :: c20 :: c21 :: c22 :: c23 :: c24 :: c25 :: c26 :: c27 :: c28 :: c29 :: c30 :: c31 :: c32 :: c33 :: c34 :: c35 :: c36 :: c37 :: c38 :: c39 :: c40 :: c41 :: c42 :: c43 :: c44 :: c45 :: c46 :: c47 :: c48 :: c49 :: c50 :: c51 :: c52 :: c53 :: c54 :: c55 :: c56 :: c57 :: c58 :: c59 :: c60 :: c61 :: c62 :: c63 :: c64 :: c65 :: c66 :: c67 :: c68 :: c69 :: c70 :: c71 :: c72 :: c73 :: c74 :: c75 :: c76 :: c77 :: c78 :: c79 :: c80 :: c81 :: c82 :: c83 :: c84 :: c85 :: c86 :: c87 :: c88 :: c89 :: c90 :: c91 :: c92 :: c93 :: c94 :: c95 :: c96 :: c97 :: c98 :: c99 :: c100 :: c101 :: c102 :: c103 :: c104 :: c105 :: c106 :: c107 :: c108 :: c109 :: c110 :: c111 :: c112 :: c113 :: c114 :: c115 :: c116 :: c117 :: c118 :: c119 :: c120 :: c121 :: c122 :: c123 :: c124 :: c125 :: c126 :: c127 :: c128 :: c129 :: c130 :: c131 :: c132 :: c133 :: c134 :: c135 :: c136 :: c137 :: c138 :: c139 :: c140 :: c141 :: c142 :: c143 :: c144 :: c145 :: c146 :: c147 :: c148 :: c149 :: c150 :: c151 :: c152 :: c153 :: c154 :: c155 :: c156 :: c157 :: c158 :: c159 :: c160 :: c161 :: c162 :: c163 :: c164 :: c165 :: c166 :: []).toArray, []⟩ W := by
  conv => arg 2; whnf
  have HH := Lib.hid (And.intro H (And.intro h13 (And.intro h15 (And.intro hu (And.intro hcc (And.intro hp.1 hq.1))))))
  obtain ⟨A9, B9, c9', d9', p90, p91, p92, p9D⟩ := h9
  have p90 := fun w' (h : Ext W w') => h.cell p90
  have p91 := fun w' (h : Ext W w') => h.cell p91
  have p92 := fun w' (h : Ext W w') => h.cell p92
  obtain ⟨A11, B11, c11', d11', p110, p111, p112, p11D⟩ := h11
  have p110 := fun w' (h : Ext W w') => h.cell p110
  have p111 := fun w' (h : Ext W w') => h.cell p111
  have p112 := fun w' (h : Ext W w') => h.cell p112
  obtain ⟨A13, B13, c13', d13', p130, p131, p132, p13D⟩ := h13
  have p130 := fun w' (h : Ext W w') => h.cell p130
  have p131 := fun w' (h : Ext W w') => h.cell p131
  have p132 := fun w' (h : Ext W w') => h.cell p132
  obtain ⟨A17, B17, c17', d17', p170, p171, p172, p17D⟩ := h17
  have p170 := fun w' (h : Ext W w') => h.cell p170
  have p171 := fun w' (h : Ext W w') => h.cell p171
  have p172 := fun w' (h : Ext W w') => h.cell p172
  obtain ⟨A18, B18, c18', d18', p180, p181, p182, p18D⟩ := h18
  have p180 := fun w' (h : Ext W w') => h.cell p180
  have p181 := fun w' (h : Ext W w') => h.cell p181
  have p182 := fun w' (h : Ext W w') => h.cell p182
  have hE0 := Ext.refl W
  have hv := comp_set p13D hu.1.good
  have hspq : p.sy = q.sy := by rw [hp.1.2.1, hq.1.2.1]; exact H.s
  have hw := fun W1 (e : Ext W W1) => op_set (Common_any W1 _ _ p q (p9D.ext e) (p11D.ext e) (H.c.ext e)) (chk_ok hp.1.1.good hq.1.1.good hspq) (Nat.le_trans (Nat.mul_le_mul hp.2 hq.2) H.n)
  have hm := fun W1 (e : Ext W W1) => refSame_eq W1 _ _ m (p17D.ext e) (p18D.ext e)
  have HM := Lib.hid hm
  clear H h15 hu hcc hp hq hspq hm p13D p9D p11D p17D p18D
  go_upto_region 13 with (first
    | ((with_reducible refine (hv).mono ?_); rintro e w1 ⟨v, AV, BV, rfl, hvq, hF, e1⟩)
    | (with_reducible refine wpList_store_blk _ rfl 28 _ _ rfl (w1).heap.size 28 _ _ rfl rfl (heap_alloc_new _ _) (by kernel_rfl) (by kernel_rfl) (by kernel_rfl) ?_; intro w2 h2 g2))
  have e12 : Ext w1 w2 := Below.grown (alloc_ext w1 _) g2 (alloc_ext w1 _).size (fun k hk => by cases hk; exact Nat.le_refl _)
  have eB := e1.trans e12
  have hbv := Lib.hid (box_new h2 hF e12)
  clear h2 g2 hF
  generalize (w1).heap.size = bv at *
  clear e12 e1
  have e02 := eB
  clear eB hv p130 p131 p132
  have hw2 := hw w2 e02
  clear hw
  go_upto_region 14 with (first
    | ((with_reducible refine (hw2).mono ?_); rintro e w3 ⟨x, AX, BX, rfl, hxq, hF, e1⟩)
    | (with_reducible refine wpList_store_blk _ rfl 28 _ _ rfl (w3).heap.size 28 _ _ rfl rfl (heap_alloc_new _ _) (by kernel_rfl) (by kernel_rfl) (by kernel_rfl) ?_; intro w4 h2 g2))
  have e12 : Ext w3 w4 := Below.grown (alloc_ext w3 _) g2 (alloc_ext w3 _).size (fun k hk => by cases hk; exact Nat.le_refl _)
  have eB := e1.trans e12
  have hbx := Lib.hid (box_new h2 hF e12)
  clear h2 g2 hF
  generalize (w3).heap.size = bx at *
  clear e12 e1
  have hvx : v = x := comp_union HH.out.2.2.2.2.2.1 HH.out.2.2.2.2.2.2 HH.out.2.2.2.1 hvq.1 hxq HH.out.1.s
  subst hvx
  have e04 := e02.trans eB
  have hbv := Lib.hid (hbv.out.ext eB)
  clear eB hw2 hvq hxq e02 p90 p91 p92 p110 p111 p112 hE0
  have hm4 := HM.out w4 e04
  have HBV := hbv
  obtain ⟨Av, Bv, cv, dv, pv0, pv1, pv2, pvD⟩ := hbv.out
  have pv0 := fun w' (h : Ext w4 w') => h.cell pv0
  have pv1 := fun w' (h : Ext w4 w') => h.cell pv1
  have pv2 := fun w' (h : Ext w4 w') => h.cell pv2
  obtain ⟨Ax, Bx, cx, dx, px0, px1, px2, pxD⟩ := hbx.out
  have px0 := fun w' (h : Ext w4 w') => h.cell px0
  have px1 := fun w' (h : Ext w4 w') => h.cell px1
  have px2 := fun w' (h : Ext w4 w') => h.cell px2
  have hs2 := fun W1 (e : Ext w4 W1) => refSame_eq W1 _ _ v (pvD.ext e) (pxD.ext e)
  have HS2 := Lib.hid hs2
  have p170 := fun w' (h : Ext w4 w') => p170 w' (e04.trans h)
  have p171 := fun w' (h : Ext w4 w') => p171 w' (e04.trans h)
  have p172 := fun w' (h : Ext w4 w') => p172 w' (e04.trans h)
  have p180 := fun w' (h : Ext w4 w') => p180 w' (e04.trans h)
  have p181 := fun w' (h : Ext w4 w') => p181 w' (e04.trans h)
  have p182 := fun w' (h : Ext w4 w') => p182 w' (e04.trans h)
  have hE4 := Ext.refl w4
  have HE4 := Lib.hid e04
  clear hbv hbx hs2 pvD pxD HM e04
  go_upto_region 999 with (first
    | (with_reducible refine stop_at 16 ?_)
    | ((with_reducible refine hm4.mono ?_); rintro e w5 ⟨rfl, e5⟩; have hs5 := HS2.out w5 e5)
    | ((with_reducible refine hs5.mono ?_); rintro e w6 ⟨rfl, e6⟩))
  refine ⟨?_⟩
  have e06 := HE4.out.trans (e5.trans e6)
  exact laws_t16 w w6 b7 b8 b13 b15 n a b u c _ _ _ _ _ _ _ _ _ _ _ _ _ _ _ _ _ _ _ _ _ _ _ _ _ _ _ _ _ _ _ _ _ _ _ _ _ _ _ _ _ _ _ _ _ _ _ _ _ _ _ _ _ _ _ _ _ _ _ _ _ _ _ _ _ _ _ _ _ _ _ _ _ _ _ _ _ _ _ _ _ _ _ _ _ _ _ _ _ _ _ _ _ _ _ _ _ _ _ _ _ _ _ _ _ _ _ _ _ _ _ _ _ _ _ _ _ _ _ _ _ _ _ _ _ _ _ _ _ _ _ _ _ _ _ _ _ _ _ _ _ _ _ _ _ _ _ _ _ _ _ _ _ _ _ _ _ _ _ _ _ _ (HH.out.1.e.trans e06) (HH.out.1.m.ext e06) (HH.out.1.c.ext e06) hn (HH.out.1.ba.ext e06) (HH.out.1.bb.ext e06) (HH.out.2.1.ext e06) (HH.out.2.2.1.ext e06) HH.out.1.ga HH.out.1.gb HH.out.1.k HH.out.1.s HH.out.2.2.2.1 HH.out.2.2.2.2.1
set_option maxRecDepth 100000 in
set_option maxHeartbeats 8000000 in
theorem laws_t10 (w W : World) (b7 b8 b9 b11 b13 b15 : Nat) (n : Nat) (a b u c p q : Dfa) (c0 c1 c3 c4 c5 c6 c10 c12 c14 c16 c17 c18 c19 c20 c21 c22 c23 c24 c25 c26 c27 c28 c29 c30 c31 c32 c33 c34 c35 c36 c37 c38 c39 c40 c41 c42 c43 c44 c45 c46 c47 c48 c49 c50 c51 c52 c53 c54 c55 c56 c57 c58 c59 c60 c61 c62 c63 c64 c65 c66 c67 c68 c69 c70 c71 c72 c73 c74 c75 c76 c77 c78 c79 c80 c81 c82 c83 c84 c85 c86 c87 c88 c89 c90 c91 c92 c93 c94 c95 c96 c97 c98 c99 c100 c101 c102 c103 c104 c105 c106 c107 c108 c109 c110 c111 c112 c113 c114 c115 c116 c117 c118 c119 c120 c121 c122 c123 c124 c125 c126 c127 c128 c129 c130 c131 c132 c133 c134 c135 c136 c137 c138 c139 c140 c141 c142 c143 c144 c145 c146 c147 c148 c149 c150 c151 c152 c153 c154 c155 c156 c157 c158 c159 c160 c161 c162 c163 c164 c165 c166 : Value) (H : LH w W b7 b8 a b) (hn : n < 256) (h9 : BoxD W b9 p) (h11 : BoxD W b11 q) (h13 : BoxD W b13 u) (h15 : BoxD W b15 c)
    (hp : CompW a p ∧ p.n ≤ a.n) (hq : CompW b q ∧ q.n ≤ b.n) (hu : OpW (fun x y => x || y) a b u) (hcc : OpW (fun x y => x && y) a b c) :
    Code.wp Tryd.prog (T9 10) (bodyPost Tryd.prog Tryd.f9 fun e w' => e = .returned (.bool true) ∧ Ext w w') ⟨(c0 :: c1 :: .int .u8 n :: c3 :: c4 :: c5 :: c6 :: .pointer (some ⟨b7, 0, none⟩) :: .pointer (some ⟨b8, 0, none⟩) :: .pointer (some ⟨b9, 0, none⟩) :: c10 :: .pointer (some ⟨b11, 0, none⟩) :: c12 :: .pointer (some ⟨b13, 0, none⟩) :: c14 :: .pointer (some ⟨b15, 0, none⟩) :: c16 :: c17 :: c18 :: c19 :: c20 :: c21 :: c22 :: c23 :: c24 :: c25 :: c26 :: c27 :: c28 :: c29 :: c30 :: c31 :: c32 :: c33 :: c34 :: c35 :: c36 :: c37 :: c38 :: c39 :: c40 :: c41 :: c42 :: c43 :: c44 :: c45 :: c46 :: c47 :: c48 :: c49 :: c50 :: c51 :: c52 :: c53 :: c54 :: c55 :: c56 :: c57 :: c58 :: c59 :: c60 :: c61 :: c62 :: c63 :: c64 :: c65 :: c66 :: c67 :: c68 :: c69 :: c70 :: c71 :: c72 :: c73 :: c74 :: c75 :: c76 :: c77 :: c78 :: c79 :: c80 :: c81 :: c82 :: c83 :: c84 :: c85 :: c86 :: c87 :: c88 :: c89 :: c90 :: c91 :: c92 :: c93 :: c94 :: c95 :: c96 :: c97 :: c98 :: c99 :: c100 :: c101 :: c102 :: c103 :: c104 :: c105 :: c106 :: c107 :: c108 :: c109 :: c110 :: c111 :: c112 :: c113 :: c114 :: c115 :: c116 :: c117 :: c118 :: c119 :: c120 :: c121 :: c122 :: c123 :: c124 :: c125 :: c126 :: c127 :: c128 :: c129 :: c130 :: c131 :: c132 :: c133 :: c134 :: c135 :: c136 :: c137 :: c138 :: c139 :: c140 :: c141 :: c142 :: c143 :: c144 :: c145 :: c146 :: c147 :: c148 :: c149 :: c150 :: c151 :: c152 :: c153 :: c154 :: c155 :: c156 :: c157 :: c158 :: c159 :: c160 :: c161 :: c162 :: c163 :: c164 :: c165 :: c166 :: []).toArray, []⟩ W := by
  conv => arg 2; whnf
  have HH := Lib.hid (And.intro H (And.intro h9 (And.intro h11 (And.intro h13 (And.intro h15 (And.intro hp (And.intro hq (And.intro hu hcc))))))))
  have hba := H.ba
  have hbb := H.bb
  obtain ⟨A7, B7, c7', d7', p70, p71, p72, p7D⟩ := hba
  have p70 := fun w' (h : Ext W w') => h.cell p70
  have p71 := fun w' (h : Ext W w') => h.cell p71
  have p72 := fun w' (h : Ext W w') => h.cell p72
  obtain ⟨A8, B8, c8', d8', p80, p81, p82, p8D⟩ := hbb
  have p80 := fun w' (h : Ext W w') => h.cell p80
  have p81 := fun w' (h : Ext W w') => h.cell p81
  have p82 := fun w' (h : Ext W w') => h.cell p82
  obtain ⟨A11, B11, c11', d11', p110, p111, p112, p11D⟩ := h11
  have p110 := fun w' (h : Ext W w') => h.cell p110
  have p111 := fun w' (h : Ext W w') => h.cell p111
  have p112 := fun w' (h : Ext W w') => h.cell p112
  have hE0 := Ext.refl W
  have hsaq : a.sy = q.sy := by rw [hq.1.2.1]; exact H.s
  have hm := op_set (Minus_any W _ _ a b p7D p8D H.m) (chk_ok H.ga H.gb H.s) H.n
  have hd := fun W1 (e : Ext W W1) => op_set (Common_any W1 _ _ a q (p7D.ext e) (p11D.ext e) (H.c.ext e)) (chk_ok H.ga hq.1.1.good hsaq) (Nat.le_trans (Nat.mul_le_mul (Nat.le_refl _) hq.2) H.n)
  clear H h9 h13 h15 hu hcc hp hq hsaq p7D p8D p11D
  go_upto_region 11 with (first
    | ((with_reducible refine (hm).mono ?_); rintro e w1 ⟨m, AM, BM, rfl, hmq, hF, e1⟩)
    | (with_reducible refine wpList_store_blk _ rfl 28 _ _ rfl (w1).heap.size 28 _ _ rfl rfl (heap_alloc_new _ _) (by kernel_rfl) (by kernel_rfl) (by kernel_rfl) ?_; intro w2 h2 g2))
  have e12 : Ext w1 w2 := Below.grown (alloc_ext w1 _) g2 (alloc_ext w1 _).size (fun k hk => by cases hk; exact Nat.le_refl _)
  have eB := e1.trans e12
  have hbm := Lib.hid (box_new h2 hF e12)
  clear h2 g2 hF
  generalize (w1).heap.size = bm at *
  clear e12 e1
  have e02 := eB
  clear eB hm p80 p81 p82
  have hd2 := hd w2 e02
  clear hd
  go_upto_region 999 with (first
    | (with_reducible refine stop_at 12 ?_)
    | ((with_reducible refine (hd2).mono ?_); rintro e w3 ⟨x, AX, BX, rfl, hxq, hF, e1⟩)
    | (with_reducible refine wpList_store_blk _ rfl 28 _ _ rfl (w3).heap.size 28 _ _ rfl rfl (heap_alloc_new _ _) (by kernel_rfl) (by kernel_rfl) (by kernel_rfl) ?_; intro w4 h2 g2))
  refine ⟨?_⟩
  have e12 : Ext w3 w4 := Below.grown (alloc_ext w3 _) g2 (alloc_ext w3 _).size (fun k hk => by cases hk; exact Nat.le_refl _)
  have eB := e1.trans e12
  have hbx := Lib.hid (box_new h2 hF e12)
  clear h2 g2 hF
  generalize (w3).heap.size = bx at *
  clear e12 e1
  have hmx : m = x := minus_comm HH.out.2.2.2.2.2.2.1.1 hmq hxq HH.out.1.s
  subst hmx
  have e04 := e02.trans eB
  have hbm := hbm.out.ext eB
  exact laws_t12 w w4 b7 b8 b9 b11 b13 b15 bm bx n a b u c p q m _ _ _ _ _ _ _ _ _ _ _ _ _ _ _ _ _ _ _ _ _ _ _ _ _ _ _ _ _ _ _ _ _ _ _ _ _ _ _ _ _ _ _ _ _ _ _ _ _ _ _ _ _ _ _ _ _ _ _ _ _ _ _ _ _ _ _ _ _ _ _ _ _ _ _ _ _ _ _ _ _ _ _ _ _ _ _ _ _ _ _ _ _ _ _ _ _ _ _ _ _ _ _ _ _ _ _ _ _ _ _ _ _ _ _ _ _ _ _ _ _ _ _ _ _ _ _ _ _ _ _ _ _ _ _ _ _ _ _ _ _ _ _ _ _ _ _ _ _ _ _ _ _ _ _ _ (HH.out.1.ext e04) hn (HH.out.2.1.ext e04) (HH.out.2.2.1.ext e04) (HH.out.2.2.2.1.ext e04) (HH.out.2.2.2.2.1.ext e04) hbm hbx.out HH.out.2.2.2.2.2.1 HH.out.2.2.2.2.2.2.1 HH.out.2.2.2.2.2.2.2.1 HH.out.2.2.2.2.2.2.2.2
set_option maxRecDepth 100000 in
set_option maxHeartbeats 8000000 in
theorem laws_t6 (w W : World) (b7 b8 b9 b11 : Nat) (n : Nat) (a b p q : Dfa) (c0 c1 c3 c4 c5 c6 c13 c14 c15 c16 c17 c18 c19 c20 c21 c22 c23 c24 c25 c26 c27 c28 c29 c30 c31 c32 c33 c34 c35 c36 c37 c38 c39 c40 c41 c42 c43 c44 c45 c46 c47 c48 c49 c50 c51 c52 c53 c54 c55 c56 c57 c58 c59 c60 c61 c62 c63 c64 c65 c66 c67 c68 c69 c70 c71 c72 c73 c74 c75 c76 c77 c78 c79 c80 c81 c82 c83 c84 c85 c86 c87 c88 c89 c90 c91 c92 c93 c94 c95 c96 c97 c98 c99 c100 c101 c102 c103 c104 c105 c106 c107 c108 c109 c110 c111 c112 c113 c114 c115 c116 c117 c118 c119 c120 c121 c122 c123 c124 c125 c126 c127 c128 c129 c130 c131 c132 c133 c134 c135 c136 c137 c138 c139 c140 c141 c142 c143 c144 c145 c146 c147 c148 c149 c150 c151 c152 c153 c154 c155 c156 c157 c158 c159 c160 c161 c162 c163 c164 c165 c166 : Value) (H : LH w W b7 b8 a b) (hn : n < 256) (h9 : BoxD W b9 p) (h11 : BoxD W b11 q)
    (hp : CompW a p ∧ p.n ≤ a.n) (hq : CompW b q ∧ q.n ≤ b.n) :
    Code.wp Tryd.prog (T9 6) (bodyPost Tryd.prog Tryd.f9 fun e w' => e = .returned (.bool true) ∧ Ext w w') ⟨(c0 :: c1 :: .int .u8 n :: c3 :: c4 :: c5 :: c6 :: .pointer (some ⟨b7, 0, none⟩) :: .pointer (some ⟨b8, 0, none⟩) :: .pointer (some ⟨b9, 0, none⟩) :: .int .i64 0 :: .pointer (some ⟨b11, 0, none⟩) :: .int .i64 0 :: c13 :: c14 :: c15 :: c16 :: c17 :: c18 :: c19 :: c20 :: c21 :: c22 :: c23 :: c24 :: c25 :: c26 :: c27 :: c28 :: c29 :: c30 :: c31 :: c32 :: c33 :: c34 :: c35 :: c36 :: c37 :: c38 :: c39 :: c40 :: c41 :: c42 :: c43 :: c44 :: c45 :: c46 :: c47 :: c48 :: c49 :: c50 :: c51 :: c52 :: c53 :: c54 :: c55 :: c56 :: c57 :: c58 :: c59 :: c60 :: c61 :: c62 :: c63 :: c64 :: c65 :: c66 :: c67 :: c68 :: c69 :: c70 :: c71 :: c72 :: c73 :: c74 :: c75 :: c76 :: c77 :: c78 :: c79 :: c80 :: c81 :: c82 :: c83 :: c84 :: c85 :: c86 :: c87 :: c88 :: c89 :: c90 :: c91 :: c92 :: c93 :: c94 :: c95 :: c96 :: c97 :: c98 :: c99 :: c100 :: c101 :: c102 :: c103 :: c104 :: c105 :: c106 :: c107 :: c108 :: c109 :: c110 :: c111 :: c112 :: c113 :: c114 :: c115 :: c116 :: c117 :: c118 :: c119 :: c120 :: c121 :: c122 :: c123 :: c124 :: c125 :: c126 :: c127 :: c128 :: c129 :: c130 :: c131 :: c132 :: c133 :: c134 :: c135 :: c136 :: c137 :: c138 :: c139 :: c140 :: c141 :: c142 :: c143 :: c144 :: c145 :: c146 :: c147 :: c148 :: c149 :: c150 :: c151 :: c152 :: c153 :: c154 :: c155 :: c156 :: c157 :: c158 :: c159 :: c160 :: c161 :: c162 :: c163 :: c164 :: c165 :: c166 :: []).toArray, []⟩ W := by
  conv => arg 2; whnf
  have HH := Lib.hid (And.intro H (And.intro h9 (And.intro h11 (And.intro hp hq))))
  have hba := H.ba
  have hbb := H.bb
  obtain ⟨A7, B7, c7', d7', p70, p71, p72, p7D⟩ := hba
  have p70 := fun w' (h : Ext W w') => h.cell p70
  have p71 := fun w' (h : Ext W w') => h.cell p71
  have p72 := fun w' (h : Ext W w') => h.cell p72
  obtain ⟨A8, B8, c8', d8', p80, p81, p82, p8D⟩ := hbb
  have p80 := fun w' (h : Ext W w') => h.cell p80
  have p81 := fun w' (h : Ext W w') => h.cell p81
  have p82 := fun w' (h : Ext W w') => h.cell p82
  have hE0 := Ext.refl W
  have hm := op_set (Union_any W _ _ a b p7D p8D H.u) (chk_ok H.ga H.gb H.s) H.n
  have hd := fun W1 (e : Ext W W1) => op_set (Common_any W1 _ _ a b (p7D.ext e) (p8D.ext e) (H.c.ext e)) (chk_ok H.ga H.gb H.s) H.n
  clear H h9 h11 hp hq p7D p8D
  go_upto_region 7 with (first
    | ((with_reducible refine (hm).mono ?_); rintro e w1 ⟨u, AM, BM, rfl, hmq, hF, e1⟩)
    | (with_reducible refine wpList_store_blk _ rfl 28 _ _ rfl (w1).heap.size 28 _ _ rfl rfl (heap_alloc_new _ _) (by kernel_rfl) (by kernel_rfl) (by kernel_rfl) ?_; intro w2 h2 g2))
  have e12 : Ext w1 w2 := Below.grown (alloc_ext w1 _) g2 (alloc_ext w1 _).size (fun k hk => by cases hk; exact Nat.le_refl _)
  have eB := e1.trans e12
  have hbm := Lib.hid (box_new h2 hF e12)
  clear h2 g2 hF
  generalize (w1).heap.size = bm at *
  clear e12 e1
  have e02 := eB
  clear eB hm
  have hd2 := hd w2 e02
  clear hd
  go_upto_region 8 with (first
    | ((with_reducible refine (hd2).mono ?_); rintro e w3 ⟨x, AX, BX, rfl, hxq, hF, e1⟩)
    | (with_reducible refine wpList_store_blk _ rfl 28 _ _ rfl (w3).heap.size 28 _ _ rfl rfl (heap_alloc_new _ _) (by kernel_rfl) (by kernel_rfl) (by kernel_rfl) ?_; intro w4 h2 g2))
  have e12 : Ext w3 w4 := Below.grown (alloc_ext w3 _) g2 (alloc_ext w3 _).size (fun k hk => by cases hk; exact Nat.le_refl _)
  have eB := e1.trans e12
  have hbx := Lib.hid (box_new h2 hF e12)
  clear h2 g2 hF
  generalize (w3).heap.size = bx at *
  clear e12 e1
  have e04 := e02.trans eB
  have hbm := Lib.hid (hbm.out.ext eB)
  have HX := Lib.hid (And.intro hmq (And.intro hxq e04))
  clear p70 p71 p72 p80 p81 p82 hd2 hmq hxq e04 e02 eB hE0
  go_upto_region 999 with (with_reducible refine stop_at 10 ?_)
  refine ⟨?_⟩
  have e04 := HX.out.2.2
  exact laws_t10 w w4 b7 b8 b9 b11 bm bx n a b u x p q _ _ _ _ _ _ _ _ _ _ _ _ _ _ _ _ _ _ _ _ _ _ _ _ _ _ _ _ _ _ _ _ _ _ _ _ _ _ _ _ _ _ _ _ _ _ _ _ _ _ _ _ _ _ _ _ _ _ _ _ _ _ _ _ _ _ _ _ _ _ _ _ _ _ _ _ _ _ _ _ _ _ _ _ _ _ _ _ _ _ _ _ _ _ _ _ _ _ _ _ _ _ _ _ _ _ _ _ _ _ _ _ _ _ _ _ _ _ _ _ _ _ _ _ _ _ _ _ _ _ _ _ _ _ _ _ _ _ _ _ _ _ _ _ _ _ _ _ _ _ _ _ _ _ _ _ _ _ _ _ (HH.out.1.ext e04) hn (HH.out.2.1.ext e04) (HH.out.2.2.1.ext e04) hbm.out hbx.out HH.out.2.2.2.1 HH.out.2.2.2.2 HX.out.1 HX.out.2.1
set_option maxRecDepth 100000 in
set_option maxHeartbeats 8000000 in
theorem laws_t4 (w W : World) (b7 b8 : Nat) (n : Nat) (a b : Dfa) (c0 c1 c3 c4 c5 c6 c9 c10 c11 c12 c13 c14 c15 c16 c17 c18 c19 c20 c21 c22 c23 c24 c25 c26 c27 c28 c29 c30 c31 c32 c33 c34 c35 c36 c37 c38 c39 c40 c41 c42 c43 c44 c45 c46 c47 c48 c49 c50 c51 c52 c53 c54 c55 c56 c57 c58 c59 c60 c61 c62 c63 c64 c65 c66 c67 c68 c69 c70 c71 c72 c73 c74 c75 c76 c77 c78 c79 c80 c81 c82 c83 c84 c85 c86 c87 c88 c89 c90 c91 c92 c93 c94 c95 c96 c97 c98 c99 c100 c101 c102 c103 c104 c105 c106 c107 c108 c109 c110 c111 c112 c113 c114 c115 c116 c117 c118 c119 c120 c121 c122 c123 c124 c125 c126 c127 c128 c129 c130 c131 c132 c133 c134 c135 c136 c137 c138 c139 c140 c141 c142 c143 c144 c145 c146 c147 c148 c149 c150 c151 c152 c153 c154 c155 c156 c157 c158 c159 c160 c161 c162 c163 c164 c165 c166 : Value) (H : LH w W b7 b8 a b) (hn : n < 256) :
    Code.wp Tryd.prog (T9 4) (bodyPost Tryd.prog Tryd.f9 fun e w' => e = .returned (.bool true) ∧ Ext w w') ⟨(c0 :: c1 :: .int .u8 n :: c3 :: c4 :: c5 :: c6 :: .pointer (some ⟨b7, 0, none⟩) :: .pointer (some ⟨b8, 0, none⟩) :: c9 :: c10 :: c11 :: c12 :: c13 :: c14 :: c15 :: c16 :: c17 :: c18 :: c19 :: c20 :: c21 :: c22 :: c23 :: c24 :: c25 :: c26 :: c27 :: c28 :: c29 :: c30 :: c31 :: c32 :: c33 :: c34 :: c35 :: c36 :: c37 :: c38 :: c39 :: c40 :: c41 :: c42 :: c43 :: c44 :: c45 :: c46 :: c47 :: c48 :: c49 :: c50 :: c51 :: c52 :: c53 :: c54 :: c55 :: c56 :: c57 :: c58 :: c59 :: c60 :: c61 :: c62 :: c63 :: c64 :: c65 :: c66 :: c67 :: c68 :: c69 :: c70 :: c71 :: c72 :: c73 :: c74 :: c75 :: c76 :: c77 :: c78 :: c79 :: c80 :: c81 :: c82 :: c83 :: c84 :: c85 :: c86 :: c87 :: c88 :: c89 :: c90 :: c91 :: c92 :: c93 :: c94 :: c95 :: c96 :: c97 :: c98 :: c99 :: c100 :: c101 :: c102 :: c103 :: c104 :: c105 :: c106 :: c107 :: c108 :: c109 :: c110 :: c111 :: c112 :: c113 :: c114 :: c115 :: c116 :: c117 :: c118 :: c119 :: c120 :: c121 :: c122 :: c123 :: c124 :: c125 :: c126 :: c127 :: c128 :: c129 :: c130 :: c131 :: c132 :: c133 :: c134 :: c135 :: c136 :: c137 :: c138 :: c139 :: c140 :: c141 :: c142 :: c143 :: c144 :: c145 :: c146 :: c147 :: c148 :: c149 :: c150 :: c151 :: c152 :: c153 :: c154 :: c155 :: c156 :: c157 :: c158 :: c159 :: c160 :: c161 :: c162 :: c163 :: c164 :: c165 :: c166 :: []).toArray, []⟩ W := by
  conv => arg 2; whnf
  have HH := Lib.hid H
  have hba := H.ba
  have hbb := H.bb
  obtain ⟨A7, B7, c7', d7', p70, p71, p72, p7D⟩ := hba
  have p70 := fun w' (h : Ext W w') => h.cell p70
  have p71 := fun w' (h : Ext W w') => h.cell p71
  have p72 := fun w' (h : Ext W w') => h.cell p72
  obtain ⟨A8, B8, c8', d8', p80, p81, p82, p8D⟩ := hbb
  have p80 := fun w' (h : Ext W w') => h.cell p80
  have p81 := fun w' (h : Ext W w') => h.cell p81
  have p82 := fun w' (h : Ext W w') => h.cell p82
  have hE0 := Ext.refl W
  have hm := comp_set p7D H.ga
  have hd := fun W1 (e : Ext W W1) => comp_set (p8D.ext e) H.gb
  clear H p7D p8D
  go_upto_region 5 with (first
    | ((with_reducible refine (hm).mono ?_); rintro e w1 ⟨p, AM, BM, rfl, hmq, hF, e1⟩)
    | (with_reducible refine wpList_store_blk _ rfl 28 _ _ rfl (w1).heap.size 28 _ _ rfl rfl (heap_alloc_new _ _) (by kernel_rfl) (by kernel_rfl) (by kernel_rfl) ?_; intro w2 h2 g2))
  have e12 : Ext w1 w2 := Below.grown (alloc_ext w1 _) g2 (alloc_ext w1 _).size (fun k hk => by cases hk; exact Nat.le_refl _)
  have eB := e1.trans e12
  have hbm := Lib.hid (box_new h2 hF e12)
  clear h2 g2 hF
  generalize (w1).heap.size = bm at *
  clear e12 e1
  have e02 := eB
  clear eB hm
  have hd2 := hd w2 e02
  clear hd
  go_upto_region 999 with (first
    | (with_reducible refine stop_at 6 ?_)
    | ((with_reducible refine (hd2).mono ?_); rintro e w3 ⟨q, AX, BX, rfl, hxq, hF, e1⟩)
    | (with_reducible refine wpList_store_blk _ rfl 28 _ _ rfl (w3).heap.size 28 _ _ rfl rfl (heap_alloc_new _ _) (by kernel_rfl) (by kernel_rfl) (by kernel_rfl) ?_; intro w4 h2 g2))
  refine ⟨?_⟩
  have e12 : Ext w3 w4 := Below.grown (alloc_ext w3 _) g2 (alloc_ext w3 _).size (fun k hk => by cases hk; exact Nat.le_refl _)
  have eB := e1.trans e12
  have hbx := Lib.hid (box_new h2 hF e12)
  clear h2 g2 hF
  generalize (w3).heap.size = bx at *
  clear e12 e1
  have e04 := e02.trans eB
  have hbm := hbm.out.ext eB
  exact laws_t6 w w4 b7 b8 bm bx n a b p q _ _ _ _ _ _ _ _ _ _ _ _ _ _ _ _ _ _ _ _ _ _ _ _ _ _ _ _ _ _ _ _ _ _ _ _ _ _ _ _ _ _ _ _ _ _ _ _ _ _ _ _ _ _ _ _ _ _ _ _ _ _ _ _ _ _ _ _ _ _ _ _ _ _ _ _ _ _ _ _ _ _ _ _ _ _ _ _ _ _ _ _ _ _ _ _ _ _ _ _ _ _ _ _ _ _ _ _ _ _ _ _ _ _ _ _ _ _ _ _ _ _ _ _ _ _ _ _ _ _ _ _ _ _ _ _ _ _ _ _ _ _ _ _ _ _ _ _ _ _ _ _ _ _ _ _ _ _ _ _ (HH.out.ext e04) hn hbm hbx.out hmq hxq
theorem small_mul {x y : Nat} (hx : x ≤ 64) (hy : y ≤ 64) : IntKind.i64.wrap ((x : Int) * (y : Int)) = ((x * y : Nat) : Int) := by
  have h : x * y ≤ 64 * 64 := Nat.mul_le_mul hx hy
  rw [← Int.natCast_mul, IntKind.wrap_i64]; omega
set_option maxRecDepth 100000 in
set_option maxHeartbeats 8000000 in
theorem laws_t2 (w W : World) (b7 b8 : Nat) (n : Nat) (a b : Dfa) (c0 c1 c3 c4 c5 c6 c9 c10 c11 c12 c13 c14 c15 c16 c17 c18 c19 c20 c21 c22 c23 c24 c25 c26 c27 c28 c29 c30 c31 c32 c33 c34 c35 c36 c37 c38 c39 c40 c41 c42 c43 c44 c45 c46 c47 c48 c49 c50 c51 c52 c53 c54 c55 c56 c57 c58 c59 c60 c61 c62 c63 c64 c65 c66 c67 c68 c69 c70 c71 c72 c73 c74 c75 c76 c77 c78 c79 c80 c81 c82 c83 c84 c85 c86 c87 c88 c89 c90 c91 c92 c93 c94 c95 c96 c97 c98 c99 c100 c101 c102 c103 c104 c105 c106 c107 c108 c109 c110 c111 c112 c113 c114 c115 c116 c117 c118 c119 c120 c121 c122 c123 c124 c125 c126 c127 c128 c129 c130 c131 c132 c133 c134 c135 c136 c137 c138 c139 c140 c141 c142 c143 c144 c145 c146 c147 c148 c149 c150 c151 c152 c153 c154 c155 c156 c157 c158 c159 c160 c161 c162 c163 c164 c165 c166 : Value) (h0 : Ext w W) (hm : GlobM W) (hc : GlobC W) (hu : GlobU W) (h7 : BoxD W b7 a) (h8 : BoxD W b8 b) (hga : Good a) (hgb : Good b) (hk : a.k ≤ 3) (hs : a.sy = b.sy) (hna : a.n ≤ 64) (hnb : b.n ≤ 64) (hn : n < 256) :
    Code.wp Tryd.prog (T9 2) (bodyPost Tryd.prog Tryd.f9 fun e w' => e = .returned (.bool true) ∧ Ext w w') ⟨(c0 :: c1 :: .int .u8 n :: c3 :: c4 :: c5 :: c6 :: .pointer (some ⟨b7, 0, none⟩) :: .pointer (some ⟨b8, 0, none⟩) :: c9 :: c10 :: c11 :: c12 :: c13 :: c14 :: c15 :: c16 :: c17 :: c18 :: c19 :: c20 :: c21 :: c22 :: c23 :: c24 :: c25 :: c26 :: c27 :: c28 :: c29 :: c30 :: c31 :: c32 :: c33 :: c34 :: c35 :: c36 :: c37 :: c38 :: c39 :: c40 :: c41 :: c42 :: c43 :: c44 :: c45 :: c46 :: c47 :: c48 :: c49 :: c50 :: c51 :: c52 :: c53 :: c54 :: c55 :: c56 :: c57 :: c58 :: c59 :: c60 :: c61 :: c62 :: c63 :: c64 :: c65 :: c66 :: c67 :: c68 :: c69 :: c70 :: c71 :: c72 :: c73 :: c74 :: c75 :: c76 :: c77 :: c78 :: c79 :: c80 :: c81 :: c82 :: c83 :: c84 :: c85 :: c86 :: c87 :: c88 :: c89 :: c90 :: c91 :: c92 :: c93 :: c94 :: c95 :: c96 :: c97 :: c98 :: c99 :: c100 :: c101 :: c102 :: c103 :: c104 :: c105 :: c106 :: c107 :: c108 :: c109 :: c110 :: c111 :: c112 :: c113 :: c114 :: c115 :: c116 :: c117 :: c118 :: c119 :: c120 :: c121 :: c122 :: c123 :: c124 :: c125 :: c126 :: c127 :: c128 :: c129 :: c130 :: c131 :: c132 :: c133 :: c134 :: c135 :: c136 :: c137 :: c138 :: c139 :: c140 :: c141 :: c142 :: c143 :: c144 :: c145 :: c146 :: c147 :: c148 :: c149 :: c150 :: c151 :: c152 :: c153 :: c154 :: c155 :: c156 :: c157 :: c158 :: c159 :: c160 :: c161 :: c162 :: c163 :: c164 :: c165 :: c166 :: []).toArray, []⟩ W := by
  conv => arg 2; whnf
  have hmul := small_mul (show a.rows.length ≤ 64 from hna) (show b.rows.length ≤ 64 from hnb)
  have hlv := lives_any W hm hc
  by_cases hbig : a.n * b.n ≤ 256
  · have H : LH w W b7 b8 a b := ⟨h0, hm, hc, hu, h7, h8, hga, hgb, hk, hs, hbig⟩
    have HH := Lib.hid H
    obtain ⟨A7, B7, c7', d7', p70, p71, p72, p7D⟩ := h7
    have p70 := fun w' (h : Ext W w') => h.cell p70
    have p71 := fun w' (h : Ext W w') => h.cell p71
    have p72 := fun w' (h : Ext W w') => h.cell p72
    obtain ⟨A8, B8, c8', d8', p80, p81, p82, p8D⟩ := h8
    have p80 := fun w' (h : Ext W w') => h.cell p80
    have p81 := fun w' (h : Ext W w') => h.cell p81
    have p82 := fun w' (h : Ext W w') => h.cell p82
    have hE0 := Ext.refl W
    have hnot : ¬ (256 : Int) < ((a.rows.length * b.rows.length : Nat) : Int) := by unfold Dfa.n at hbig; omega
    clear H hlv hga hgb hk hs hna hnb h0 hm hc hu hbig p7D p8D
    generalize a.rows.length * b.rows.length = N at *
    go_upto_region 999 with (with_reducible refine stop_at 4 ?_)
    refine ⟨?_⟩
    exact laws_t4 w W b7 b8 n a b _ _ _ _ _ _ _ _ _ _ _ _ _ _ _ _ _ _ _ _ _ _ _ _ _ _ _ _ _ _ _ _ _ _ _ _ _ _ _ _ _ _ _ _ _ _ _ _ _ _ _ _ _ _ _ _ _ _ _ _ _ _ _ _ _ _ _ _ _ _ _ _ _ _ _ _ _ _ _ _ _ _ _ _ _ _ _ _ _ _ _ _ _ _ _ _ _ _ _ _ _ _ _ _ _ _ _ _ _ _ _ _ _ _ _ _ _ _ _ _ _ _ _ _ _ _ _ _ _ _ _ _ _ _ _ _ _ _ _ _ _ _ _ _ _ _ _ _ _ _ _ _ _ _ _ _ _ _ _ _ _ _ _ _ HH.out hn
  · skip
    obtain ⟨A7, B7, c7', d7', p70, p71, p72, p7D⟩ := h7
    have p70 := fun w' (h : Ext W w') => h.cell p70
    have p71 := fun w' (h : Ext W w') => h.cell p71
    have p72 := fun w' (h : Ext W w') => h.cell p72
    obtain ⟨A8, B8, c8', d8', p80, p81, p82, p8D⟩ := h8
    have p80 := fun w' (h : Ext W w') => h.cell p80
    have p81 := fun w' (h : Ext W w') => h.cell p81
    have p82 := fun w' (h : Ext W w') => h.cell p82
    have hE0 := Ext.refl W
    have hnot : (256 : Int) < ((a.rows.length * b.rows.length : Nat) : Int) := by unfold Dfa.n at hbig; omega
    clear hga hgb hk hs hna hnb hm hc hu hbig p7D p8D
    generalize a.rows.length * b.rows.length = N at *
    go_wp2_with ((with_reducible refine hlv.mono ?_); rintro e w1 ⟨rfl, e1⟩)
    go_ret
    exact ⟨rfl, h0.trans e1⟩
set_option maxRecDepth 100000 in
set_option maxHeartbeats 4000000 in
theorem LangsLaws_any (w : World) (xv yv : Value) (x y : RawN) (n : Nat) (hx : RawNV w xv x) (hy : RawNV w yv y) (hn : n < 256) (hm : GlobM w) (hc : GlobC w) (hu : GlobU w) : Calls Tryd.prog 9 #[xv, yv, .int .u8 n] w fun e w' => e = .returned (.bool true) ∧ Ext w w' := by
  obtain ⟨av, ca, rfl, ha, hxb⟩ := id hx
  obtain ⟨Aa, rfl, _⟩ := id ha
  obtain ⟨av', ca', rfl, ha', hxb'⟩ := id hy
  obtain ⟨Aa', rfl, _⟩ := id ha'
  go_enter Tryd.func9, Tryd.ntmps9
  go_upto_region 1 with fail
  refine wp_named ?_
  intro W1 hW1
  have hE1 : Ext w W1 := by rw [hW1]; exact ((Ext.refl _).alloc _).alloc _
  have z1 : W1.heap[w.heap.size]? = some (.cells #[.int .u8 x.sy, .int .u8 x.many, .slice Aa x.arcs.length ca, .int .u8 x.st, .int .u8 x.ac] 24 (0, 0)) := by rw [hW1]; exact heap_ext (alloc_ext _ _) (heap_alloc_new w _)
  have z2 : W1.heap[w.heap.size + 1]? = some (.cells #[.int .u8 y.sy, .int .u8 y.many, .slice Aa' y.arcs.length ca', .int .u8 y.st, .int .u8 y.ac] 24 (0, 0)) := by
    rw [hW1]
    have h9 := heap_alloc_new (w.alloc (.cells #[.int .u8 x.sy, .int .u8 x.many, .slice Aa x.arcs.length ca, .int .u8 x.st, .int .u8 x.ac] 24)) (.cells #[.int .u8 y.sy, .int .u8 y.many, .slice Aa' y.arcs.length ca', .int .u8 y.st, .int .u8 y.ac] 24)
    simpa using h9
  clear hW1
  generalize w.heap.size + 1 = b2 at *
  generalize w.heap.size = b1 at *
  have k0 := cell_of_blk z1 0 (u := .int .u8 x.sy) rfl
  have k1 := cell_of_blk z1 1 (u := .int .u8 x.many) rfl
  have k2 := cell_of_blk z1 2 (u := .slice Aa x.arcs.length ca) rfl
  have k3 := cell_of_blk z1 3 (u := .int .u8 x.st) rfl
  have k4 := cell_of_blk z1 4 (u := .int .u8 x.ac) rfl
  have l0 := cell_of_blk z2 0 (u := .int .u8 y.sy) rfl
  have l1 := cell_of_blk z2 1 (u := .int .u8 y.many) rfl
  have l2 := cell_of_blk z2 2 (u := .slice Aa' y.arcs.length ca') rfl
  have l3 := cell_of_blk z2 3 (u := .int .u8 y.st) rfl
  have l4 := cell_of_blk z2 4 (u := .int .u8 y.ac) rfl
  have hdf := dfas_any W1 _ _ x y (hx.ext hE1) (hy.ext hE1)
  have HX := Lib.hid (And.intro hm (And.intro hc (And.intro hu hE1)))
  clear hx hy ha ha' hxb hxb' z1 z2 hm hc hu hE1
  go_upto_region 999 with (first
    | (with_reducible refine stop_at2 2 ?_)
    | (go_at_call 12; refine hdf.mono ?_; rintro e wB ⟨v1, v2, a, b, rfl, hd1, hd2, hg1, hg2, hn1, hn2, hs1, hs2, eB⟩; obtain ⟨rvA, crA, avA, caA, rfl, ⟨ArA, vrA, rfl, -⟩, ⟨AaA, rfl, -⟩⟩ := id hd1; obtain ⟨rvB, crB, avB, caB, rfl, ⟨ArB, vrB, rfl, -⟩, ⟨AaB, rfl, -⟩⟩ := id hd2; clear hdf; have HS := Lib.hid hs1; clear hs1)
    | (with_reducible refine wpList_store_blk _ rfl 28 _ _ rfl wB.heap.size 28 _ _ rfl rfl (heap_ext (alloc_ext _ _) (heap_alloc_new _ _)) (by kernel_rfl) (by kernel_rfl) (by kernel_rfl) ?_; intro w1 h1 g1)
    | (with_reducible refine wpList_store_blk _ rfl 28 _ _ rfl (wB.heap.size + 1) 28 _ _ rfl rfl ((g1.block _ (by simp) (by simp)).trans (by have := heap_alloc_new (wB.alloc (.cells #[.int .i64 0, .slice none 0 0, .slice none 0 0] 28)) (.cells #[.int .i64 0, .slice none 0 0, .slice none 0 0] 28); simpa using this)) (by kernel_rfl) (by kernel_rfl) (by kernel_rfl) ?_; intro w2 h2 g2))
  refine ⟨?_⟩
  have eB1 : Ext wB w1 := Below.grown ((alloc_ext wB _).trans (alloc_ext _ _)) g1 ((alloc_ext wB _).trans (alloc_ext _ _)).size (fun k hk => by cases hk; exact Nat.le_refl _)
  have e12 : Ext wB w2 := Below.grown eB1 g2 eB1.size (fun k hk => by cases hk; omega)
  have h1 := (g2.block _ (lt_of_block h1) (by simp)).trans h1
  have hE2 : Ext w w2 := HX.out.2.2.2.trans (eB.trans e12)
  exact laws_t2 w w2 wB.heap.size (wB.heap.size + 1) n a b _ _ _ _ _ _ _ _ _ _ _ _ _ _ _ _ _ _ _ _ _ _ _ _ _ _ _ _ _ _ _ _ _ _ _ _ _ _ _ _ _ _ _ _ _ _ _ _ _ _ _ _ _ _ _ _ _ _ _ _ _ _ _ _ _ _ _ _ _ _ _ _ _ _ _ _ _ _ _ _ _ _ _ _ _ _ _ _ _ _ _ _ _ _ _ _ _ _ _ _ _ _ _ _ _ _ _ _ _ _ _ _ _ _ _ _ _ _ _ _ _ _ _ _ _ _ _ _ _ _ _ _ _ _ _ _ _ _ _ _ _ _ _ _ _ _ _ _ _ _ _ _ _ _ _ _ _ _ _ _ _ _ _ _ hE2 (HX.out.1.ext hE2) (HX.out.2.1.ext hE2) (HX.out.2.2.1.ext hE2) (BoxD.of h1 (hd1.ext e12)) (BoxD.of h2 (hd2.ext e12)) hg1 hg2 (by have := hg1.kk; omega) HS.out hn1 hn2 hn
end Go.Proofs.YthlnmcokgfpgmaaDoor
