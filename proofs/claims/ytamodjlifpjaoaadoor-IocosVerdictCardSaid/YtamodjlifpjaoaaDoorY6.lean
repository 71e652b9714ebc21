/- IocosVerdict 6: the test. -/
import Derived.Test.YtamodjlifpjaoaaDoorY5
namespace Go.Proofs.YtamodjlifpjaoaaDoor
open Go.RowKit
set_option linter.unusedVariables false
set_option linter.unusedSimpArgs false
attribute [local go_sem] Oper.quietV quietV Oper.gives givesV ext_refl_iff ext_alloc_iff ext_drew_iff ext_drewN_iff
def LisP (l : List Int) (v : Value) (w : World) : Prop := ∃ A c, v = .slice A l.length c ∧ IntsC w (.slice A l.length c) l c
theorem stays_lisP (l : List Int) : Stays Ext (LisP l) := fun v w w' hE ⟨A, c, hv, h⟩ => ⟨A, c, hv, h.ext hE⟩
theorem few_of {x y : Lts} (hy : Good y) (hO : y.O ≤ 2) {p : List Int} (hp : okPlan y p) (hl : p.length ≤ 5) {L' : List Nd} (hA : AlmostT (mkT y p (begM y) 0) L') : (runsL x L' L'.length 0 (begM x) []).length ≤ 1000 := by
  have h1 := runs_few (x := x) hy hO hA p L'.length 0 (begM x) (begM y) [] hp (fun i nd h => by rw [Nat.zero_add]; exact h)
  have h2 : 3 ^ p.length ≤ 3 ^ 5 := Nat.pow_le_pow_right (by omega) hl
  omega
theorem big_five {k : Nat} (h : k ≤ 5) : bigN k ≤ 364 := by
  rcases (by omega : k = 0 ∨ k = 1 ∨ k = 2 ∨ k = 3 ∨ k = 4 ∨ k = 5) with h | h | h | h | h | h <;> rw [h] <;> decide
set_option maxRecDepth 100000 in
set_option maxHeartbeats 16000000 in
theorem vlaw_t3 (w W : World) (b7 b8 : Nat) (x y : Lts) (fl gl : Bool) (ns : List Nat) (cv : Nat) (c0 c1 c3 c4 c5 c6 c9 c10 c11 c12 c13 c14 c15 c16 c17 c18 c19 c20 c21 c22 c23 c24 c25 c26 c27 c28 c29 c30 c31 c32 c33 c34 c35 c36 c37 c38 c39 c40 c41 c42 c43 c44 c45 c46 c47 c48 c49 c50 c51 c52 c53 c54 c55 c56 c57 c58 c59 c60 c61 c62 c63 c64 c65 c66 c67 c68 c69 c70 c71 c72 c73 c74 c75 c76 c77 c78 c79 c80 c81 c82 c83 c84 c85 c86 c87 c88 c89 c90 c91 c92 c93 c94 c95 c96 c97 c98 c99 c100 c101 c102 c103 v : Value) (hW : TwoV w W b7 b8 x y fl gl) (hT : Tab W) (hv : U8sC W v ns cv) :
    Code.wp Tryd.prog (T6 3) (bodyPost Tryd.prog Tryd.f6 (VLawP w)) ⟨(c0 :: c1 :: v :: c3 :: c4 :: c5 :: c6 :: .pointer (some ⟨b7, 0, none⟩) :: .pointer (some ⟨b8, 0, none⟩) :: c9 :: c10 :: c11 :: c12 :: c13 :: c14 :: c15 :: c16 :: c17 :: c18 :: c19 :: c20 :: c21 :: c22 :: c23 :: c24 :: c25 :: c26 :: c27 :: c28 :: c29 :: c30 :: c31 :: c32 :: c33 :: c34 :: c35 :: c36 :: c37 :: c38 :: c39 :: c40 :: c41 :: c42 :: c43 :: c44 :: c45 :: c46 :: c47 :: c48 :: c49 :: c50 :: c51 :: c52 :: c53 :: c54 :: c55 :: c56 :: c57 :: c58 :: c59 :: c60 :: c61 :: c62 :: c63 :: c64 :: c65 :: c66 :: c67 :: c68 :: c69 :: c70 :: c71 :: c72 :: c73 :: c74 :: c75 :: c76 :: c77 :: c78 :: c79 :: c80 :: c81 :: c82 :: c83 :: c84 :: c85 :: c86 :: c87 :: c88 :: c89 :: c90 :: c91 :: c92 :: c93 :: c94 :: c95 :: c96 :: c97 :: c98 :: c99 :: c100 :: c101 :: c102 :: c103 :: []).toArray, []⟩ W := by
  conv => arg 2; whnf
  obtain ⟨hcx, hcy, hnx, hny, _⟩ := hW.good
  obtain ⟨hin, hout, hOx, hOy⟩ := hW.labs
  have hgx := check_good hcx
  have hgy := check_good hcy
  obtain ⟨qA, qc, q0, q1, q2, qS⟩ := hW.bz
  have q0 := fun w' (h : Ext W w') => h.cell q0
  have q1 := fun w' (h : Ext W w') => h.cell q1
  have q2 := fun w' (h : Ext W w') => h.cell q2
  have hE0 := Ext.refl W
  obtain ⟨Av, rfl, hvc, hvn, hvm, hvb⟩ := id hv
  unfold maxLen at hvm
  have hbg := fun W' (e : Ext W W') => refBegin_any W' _ y (qS.ext e) hgy
  have hpn := fun W' (e : Ext W W') => plan_any W' _ ns cv y.ins y.I hgy.II.1.symm hgy.II.2 (hv.ext e)
  have hpk := planI_ok hgy ns
  have hpl := planI_len ns y.I
  have hb2 := Nat.le_trans (mkT_bound hOy (planI ns y.I) (begM y) 0) (big_five hpl)
  have hR : RightT x.ins x.outs (mkT y (planI ns y.I) (begM y) 0) := right_of (by rw [hin, hout]; exact mkT_right hgy hpk (begM y))
  have hfew := fun L' (hA : AlmostT (mkT y (planI ns y.I) (begM y) 0) L') => few_of (x := x) hgy hOy hpk hpl hA
  have hmk := fun W' sv pv cs cp (e : Ext W W') hs hp => refMake_any y hgy (planI ns y.I) hpk W' _ sv pv (begM y) cs cp 0 (qS.ext e) (begM_lt hgy) hs hp (by omega)
  have HX := Lib.hid (And.intro hW (And.intro hT (And.intro hvc (And.intro hvb (And.intro hR hfew)))))
  generalize planI ns y.I = pl at *
  clear hW hT hv hcx hcy hnx hny hin hout hOx hOy hgx hgy hpk hpl hR hfew hvc hvb qS
  go_upto_region 3 with fail
  refine wp_region_ext 7 (factsOf [(2, LisP (memI (begM y))), (6, LisP pl)]) (fun k => ([[], [], [1], [], [], [4], [1, 2, 3, 4, 5], [0, 1, 2, 3, 4, 5, 6], [0, 1, 2, 3, 4, 5, 6, 7]] : List (List Nat)).getD k []) (by kernel_rfl) (by kernel_rfl) Ext.pre (mono_cons (stays_lisP _) (mono_cons (stays_lisP _) (mono_nil))) ?_
  simp only [List.take_succ_cons, List.take_zero]
  repeat (first | (with_reducible refine lexL_quiet' (v := ?_) ?_ ?_ ?_ ?_; rotate_left; (· with_reducible rfl); (· simp [factsOf]); (· intro w1 hw1 _; go_simp; with_reducible rfl); (try simp only [Act.put, List.setIfInBounds_toArray, List.set_cons_zero, List.set_cons_succ])) | (with_reducible refine lexL_skip ?_ ?_; (· simp [Region.wanted, yielded, undef]); (try simp only [Act.put, List.setIfInBounds_toArray, List.set_cons_zero, List.set_cons_succ])) | (with_reducible refine lexL_quiet (v := ?_) ?_ ?_ ?_ ?_; rotate_left; (· simp [Region.wanted, yielded, undef]); (· simp [factsOf]); (· intro w1 hw1 _; go_simp; with_reducible rfl); (try simp only [Act.put, List.setIfInBounds_toArray, List.set_cons_zero, List.set_cons_succ])))
  with_reducible refine lexL_give' (φ := ?_) ?_ ?_ ?_ ?_; rotate_left; (· with_reducible rfl); (· simp only [factsOf, Nat.reduceAdd, ↓reduceIte, Nat.reduceEqDiff]; rfl)
  · intro w5 hw5 _
    go_simp
    refine (hbg w5 hw5).mono ?_
    rintro e w6 ⟨rv, c, rfl, hi, e6⟩
    obtain ⟨A9, rfl, h9⟩ := id hi
    exact ⟨_, rfl, e6, A9, c, rfl, hi⟩
  rintro v9 w5 hw5 ⟨A9, c9, rfl, h9⟩ hk2
  clear hk2 h9 hw5 w5
  (try simp only [Act.put, List.setIfInBounds_toArray, List.set_cons_zero, List.set_cons_succ])
  repeat (first | (with_reducible refine lexL_quiet' (v := ?_) ?_ ?_ ?_ ?_; rotate_left; (· with_reducible rfl); (· simp [factsOf]); (· intro w1 hw1 _; go_simp; with_reducible rfl); (try simp only [Act.put, List.setIfInBounds_toArray, List.set_cons_zero, List.set_cons_succ])) | (with_reducible refine lexL_skip ?_ ?_; (· simp [Region.wanted, yielded, undef]); (try simp only [Act.put, List.setIfInBounds_toArray, List.set_cons_zero, List.set_cons_succ])) | (with_reducible refine lexL_quiet (v := ?_) ?_ ?_ ?_ ?_; rotate_left; (· simp [Region.wanted, yielded, undef]); (· simp [factsOf]); (· intro w1 hw1 _; go_simp; with_reducible rfl); (try simp only [Act.put, List.setIfInBounds_toArray, List.set_cons_zero, List.set_cons_succ])))
  with_reducible refine lexL_give' (φ := ?_) ?_ ?_ ?_ ?_; rotate_left; (· with_reducible rfl); (· simp only [factsOf, Nat.reduceAdd, ↓reduceIte, Nat.reduceEqDiff]; rfl)
  · intro w5 hw5 _
    go_simp
    refine (hpn w5 hw5).mono ?_
    rintro e w6 ⟨rv, c, rfl, hi, e6⟩
    obtain ⟨A9, rfl, h9⟩ := id hi
    exact ⟨_, rfl, e6, A9, c, rfl, hi⟩
  rintro v10 w5 hw5 ⟨A10, c10, rfl, h10⟩ hk2
  clear hk2 h10 hw5 w5
  (try simp only [Act.put, List.setIfInBounds_toArray, List.set_cons_zero, List.set_cons_succ])
  repeat (first | (with_reducible refine lexL_quiet' (v := ?_) ?_ ?_ ?_ ?_; rotate_left; (· with_reducible rfl); (· simp [factsOf]); (· intro w1 hw1 _; go_simp; with_reducible rfl); (try simp only [Act.put, List.setIfInBounds_toArray, List.set_cons_zero, List.set_cons_succ])) | (with_reducible refine lexL_skip ?_ ?_; (· simp [Region.wanted, yielded, undef]); (try simp only [Act.put, List.setIfInBounds_toArray, List.set_cons_zero, List.set_cons_succ])) | (with_reducible refine lexL_quiet (v := ?_) ?_ ?_ ?_ ?_; rotate_left; (· simp [Region.wanted, yielded, undef]); (· simp [factsOf]); (· intro w1 hw1 _; go_simp; with_reducible rfl); (try simp only [Act.put, List.setIfInBounds_toArray, List.set_cons_zero, List.set_cons_succ])))
  with_reducible refine lexL_nil ?_; intro w1 hw1 hk1; simp only [List.drop_succ_cons, List.drop_zero]
  obtain ⟨A9', c9', hv9, hi9⟩ := hk1.get 2 rfl rfl
  injection hv9 with hvA _ hvc
  subst hvA hvc
  obtain ⟨A10', c10', hv10, hi10⟩ := hk1.get 6 rfl rfl
  injection hv10 with hvA _ hvc
  subst hvA hvc
  have hmk1 : Calls Tryd.prog 25 #[.agg #[.int .i64 y.ins, .int .i64 y.outs, .slice qA y.rows.length qc], .slice A9 (memI (begM y)).length c9, .slice A10 pl.length c10, .int .i64 0] w1 (RMakeP w1 (mkT y pl (begM y) 0)) := hmk w1 _ _ c9 c10 hw1 hi9 hi10
  have HW1 := Lib.hid hw1
  clear hmk hk1 hi9 hi10 hbg hpn hw1 hE0 q0 q1 q2
  generalize mkT y pl (begM y) 0 = L at *
  go_upto_region 4 with ((with_reducible refine hmk1.mono ?_); rintro e W5 ⟨rv, cn5, rfl, hN5, e5⟩; obtain ⟨A5, rfl⟩ := hN5.give)
  have H5 := Lib.hid (And.intro hN5 (HW1.out.trans e5))
  have hE5 := Ext.refl W5
  have h0 : AlmostT L L := almost_self L
  have hfin : ∀ (c0 c1 c2 c3 c4 c5 c6 c10 c11 c12 c13 c14 c15 c16 c17 c18 c19 c20 c21 c22 c23 c24 c25 c26 c27 c28 c29 c30 c31 c32 c33 c34 c35 c36 c37 c38 c39 c40 c41 c42 c43 c44 c45 c46 c47 c48 c49 c50 c51 c52 c53 c54 c55 c56 c57 c58 c59 c60 c61 c62 c63 c64 c65 c66 c67 c68 c69 c70 c71 c72 c73 c74 c75 c76 c77 c78 c79 c80 c81 c82 c83 c84 c85 c86 c87 c88 c89 c90 c91 c92 c93 c94 c95 c96 c97 c98 c99 c100 c101 c102 c103 : Value), Code.wp Tryd.prog (T6 6) (bodyPost Tryd.prog Tryd.f6 (VLawP w)) ⟨(c0 :: c1 :: c2 :: c3 :: c4 :: c5 :: c6 :: .pointer (some ⟨b7, 0, none⟩) :: .pointer (some ⟨b8, 0, none⟩) :: .slice A5 L.length cn5 :: c10 :: c11 :: c12 :: c13 :: c14 :: c15 :: c16 :: c17 :: c18 :: c19 :: c20 :: c21 :: c22 :: c23 :: c24 :: c25 :: c26 :: c27 :: c28 :: c29 :: c30 :: c31 :: c32 :: c33 :: c34 :: c35 :: c36 :: c37 :: c38 :: c39 :: c40 :: c41 :: c42 :: c43 :: c44 :: c45 :: c46 :: c47 :: c48 :: c49 :: c50 :: c51 :: c52 :: c53 :: c54 :: c55 :: c56 :: c57 :: c58 :: c59 :: c60 :: c61 :: c62 :: c63 :: c64 :: c65 :: c66 :: c67 :: c68 :: c69 :: c70 :: c71 :: c72 :: c73 :: c74 :: c75 :: c76 :: c77 :: c78 :: c79 :: c80 :: c81 :: c82 :: c83 :: c84 :: c85 :: c86 :: c87 :: c88 :: c89 :: c90 :: c91 :: c92 :: c93 :: c94 :: c95 :: c96 :: c97 :: c98 :: c99 :: c100 :: c101 :: c102 :: c103 :: []).toArray, []⟩ W5 := fun c0 c1 c2 c3 c4 c5 c6 c10 c11 c12 c13 c14 c15 c16 c17 c18 c19 c20 c21 c22 c23 c24 c25 c26 c27 c28 c29 c30 c31 c32 c33 c34 c35 c36 c37 c38 c39 c40 c41 c42 c43 c44 c45 c46 c47 c48 c49 c50 c51 c52 c53 c54 c55 c56 c57 c58 c59 c60 c61 c62 c63 c64 c65 c66 c67 c68 c69 c70 c71 c72 c73 c74 c75 c76 c77 c78 c79 c80 c81 c82 c83 c84 c85 c86 c87 c88 c89 c90 c91 c92 c93 c94 c95 c96 c97 c98 c99 c100 c101 c102 c103 =>
    vlaw_t6 w W5 b7 b8 x y fl gl L cn5 _ _ _ _ _ _ _ _ _ _ _ _ _ _ _ _ _ _ _ _ _ _ _ _ _ _ _ _ _ _ _ _ _ _ _ _ _ _ _ _ _ _ _ _ _ _ _ _ _ _ _ _ _ _ _ _ _ _ _ _ _ _ _ _ _ _ _ _ _ _ _ _ _ _ _ _ _ _ _ _ _ _ _ _ _ _ _ _ _ _ _ _ _ _ _ _ _ _ _ _ _ _ (HX.out.1.ex H5.out.2) (HX.out.2.1.ext H5.out.2) hN5.nodes HX.out.2.2.2.2.1 (by omega) (HX.out.2.2.2.2.2 L h0)
  have HFIN := Lib.hid hfin
  clear hmk1 hN5 e5 h0 hfin
  by_cases h5 : 5 < ns.length
  · obtain ⟨n, hn⟩ : ∃ n, ns[5]? = some n := ⟨_, List.getElem?_eq_getElem h5⟩
    have hn2 := HX.out.2.2.2.1 n (List.mem_of_getElem? hn)
    obtain ⟨bf, of_, hA, _, hcc⟩ := (HX.out.2.2.1.ext H5.out.2) (by rw [List.length_map]; omega)
    subst hA
    have hci := fun w' (h : Ext W5 w') => h.cell (hcc 5 (.int .u8 (n : Int)) (by rw [List.getElem?_map, hn]; rfl))
    have hpos := HX.out.2.2.2.2.1.pos
    have w0 : IntKind.i64.wrap (n : Int) = n := by rw [IntKind.wrap_i64]; omega
    have hmd : (n : Int).tmod (L.length : Int) = ((n % L.length : Nat) : Int) := by
      rw [Int.tmod_eq_emod_of_nonneg (by omega)]; push_cast; rfl
    have hml := Nat.mod_lt n hpos
    have hz0 : ¬ (L.length : Int) = 0 := by omega
    generalize n % L.length = k at *
    obtain ⟨nd, hnd⟩ : ∃ nd, L[k]? = some nd := ⟨_, List.getElem?_eq_getElem hml⟩
    obtain ⟨b, hA, hNb, hcell, hfree, hset, hext⟩ := H5.out.1.fail hnd
    subst hA
    have hcell' := fun w' (h : Ext W5 w') => h.cell hcell
    have h5I : (5 : Int) < (ns.length : Int) := by omega
    have HND := Lib.hid (And.intro hnd (And.intro hset (And.intro hext hNb)))
    clear hcc hn hnd hset hext hNb
    by_cases ha : nd.act = -2
    · have g1 : (nd.act == -2) = true := by simp [ha]
      have HA := Lib.hid ha
      clear ha
      go_upto_region 999 with (first | (with_reducible refine stop_at 6 ?_) | (with_reducible refine stop_at2 6 ?_))
      refine ⟨?_⟩
      have hE9 : Ext W (W5.setCell ⟨b, k * 2, none⟩ (.int .i64 (-3))) := HND.out.2.2.1 W H5.out.2 HW1.out.size
      have hN9 := HND.out.2.1
      rw [show (failN L k).length = L.length from failN_len L k] at hN9
      have hac := ndAt_act HND.out.1 HA.out
      exact vlaw_t6 w _ b7 b8 x y fl gl (failN L k) cn5 _ _ _ _ _ _ _ _ _ _ _ _ _ _ _ _ _ _ _ _ _ _ _ _ _ _ _ _ _ _ _ _ _ _ _ _ _ _ _ _ _ _ _ _ _ _ _ _ _ _ _ _ _ _ _ _ _ _ _ _ _ _ _ _ _ _ _ _ _ _ _ _ _ _ _ _ _ _ _ _ _ _ _ _ _ _ _ _ _ _ _ _ _ _ _ _ _ _ _ _ _ _ (HX.out.1.ex hE9) (HX.out.2.1.ext hE9) hN9 (failN_right HX.out.2.2.2.2.1 hml hac) (by rw [failN_len]; omega) (HX.out.2.2.2.2.2 (failN L k) (failN_almost hml hac))
    · have g1 : (nd.act == -2) = false := by simp [ha]
      clear ha
      go_upto_region 999 with (first | (with_reducible refine stop_at 6 ?_) | (with_reducible refine stop_at2 6 ?_))
      refine ⟨?_⟩
      exact HFIN.out _ _ _ _ _ _ _ _ _ _ _ _ _ _ _ _ _ _ _ _ _ _ _ _ _ _ _ _ _ _ _ _ _ _ _ _ _ _ _ _ _ _ _ _ _ _ _ _ _ _ _ _ _ _ _ _ _ _ _ _ _ _ _ _ _ _ _ _ _ _ _ _ _ _ _ _ _ _ _ _ _ _ _ _ _ _ _ _ _ _ _ _ _ _ _ _ _ _ _ _ _
  · have h5I : ¬ (5 : Int) < (ns.length : Int) := by omega
    go_upto_region 999 with (first | (with_reducible refine stop_at 6 ?_) | (with_reducible refine stop_at2 6 ?_))
    refine ⟨?_⟩
    exact HFIN.out _ _ _ _ _ _ _ _ _ _ _ _ _ _ _ _ _ _ _ _ _ _ _ _ _ _ _ _ _ _ _ _ _ _ _ _ _ _ _ _ _ _ _ _ _ _ _ _ _ _ _ _ _ _ _ _ _ _ _ _ _ _ _ _ _ _ _ _ _ _ _ _ _ _ _ _ _ _ _ _ _ _ _ _ _ _ _ _ _ _ _ _ _ _ _ _ _ _ _ _ _
set_option maxRecDepth 100000 in
set_option maxHeartbeats 16000000 in
theorem iocosVerdict_any (w : World) (bx by' v : Value) (r s : BNum) (ns : List Nat) (cv : Nat) (hb : BV w bx r) (hb2 : BV w by' s) (hv : U8sC w v ns cv) (hT : Tab w) :
    Calls Tryd.prog 6 #[bx, by', v] w fun e w' => e = .returned (.bool true) ∧ Ext w w' := by
  obtain ⟨A, c, rfl, hA, h1, h2, h3, h4, hnm⟩ := id hb
  obtain ⟨B, d, rfl, hB, j1, j2, j3, j4, jnm⟩ := id hb2
  have HX := Lib.hid (And.intro hv (And.intro hT (And.intro hA hB)))
  clear hb hb2 hv hT hA hB
  show Calls Tryd.prog 6 _ w (VLawP w)
  go_enter Tryd.func6, Tryd.ntmps6
  go_upto_region 1 with fail
  go_region_held3 (fun w' => w'.cell? ⟨w.heap.size, 0, none⟩ = some (.int .u8 r.i) ∧ w'.cell? ⟨w.heap.size, 1, none⟩ = some (.int .u8 r.o)) ((constructor <;> simp [go_sem])) (fail)
  go_upto_region 2 with fail
  refine wp_named ?_
  intro W1 hW1
  have hE1 : Ext w W1 := by rw [hW1]; first | exact ((Ext.refl _).alloc _).alloc _ | exact (((Ext.refl _).alloc _).alloc _).drew
  have k0 : ∀ w', Ext W1 w' → w'.cell? ⟨w.heap.size, 0, none⟩ = some (.int .u8 r.i) := fun w' h => h.cell (by rw [hW1]; simp [go_sem])
  have k1 : ∀ w', Ext W1 w' → w'.cell? ⟨w.heap.size, 1, none⟩ = some (.int .u8 r.o) := fun w' h => h.cell (by rw [hW1]; simp [go_sem])
  have k2 : ∀ w', Ext W1 w' → w'.cell? ⟨w.heap.size, 2, none⟩ = some (.int .u8 r.m) := fun w' h => h.cell (by rw [hW1]; simp [go_sem])
  have k3 : ∀ w', Ext W1 w' → w'.cell? ⟨w.heap.size, 3, none⟩ = some (.slice A r.n c) := fun w' h => h.cell (by rw [hW1]; simp [go_sem])
  have k4 : ∀ w', Ext W1 w' → w'.cell? ⟨w.heap.size, 4, none⟩ = some (.bool r.f) := fun w' h => h.cell (by rw [hW1]; simp [go_sem])
  have m0 : ∀ w', Ext W1 w' → w'.cell? ⟨w.heap.size + 1, 0, none⟩ = some (.int .u8 r.i) := fun w' h => h.cell (by rw [hW1]; simp [go_sem])
  have m1 : ∀ w', Ext W1 w' → w'.cell? ⟨w.heap.size + 1, 1, none⟩ = some (.int .u8 r.o) := fun w' h => h.cell (by rw [hW1]; simp [go_sem])
  have m2 : ∀ w', Ext W1 w' → w'.cell? ⟨w.heap.size + 1, 2, none⟩ = some (.int .u8 s.m) := fun w' h => h.cell (by rw [hW1]; simp [go_sem])
  have m3 : ∀ w', Ext W1 w' → w'.cell? ⟨w.heap.size + 1, 3, none⟩ = some (.slice B s.n d) := fun w' h => h.cell (by rw [hW1]; simp [go_sem])
  have m4 : ∀ w', Ext W1 w' → w'.cell? ⟨w.heap.size + 1, 4, none⟩ = some (.bool s.f) := fun w' h => h.cell (by rw [hW1]; simp [go_sem])
  clear hW1
  generalize w.heap.size + 1 = b4 at *
  generalize w.heap.size = b3 at *
  have hox := fun W (e : Ext W1 W) => bOfK_any W (.agg #[.int .u8 r.i, .int .u8 r.o, .int .u8 r.m, .slice A r.n c, .bool r.f]) ⟨r.i, r.o, r.m, r.n, r.f⟩ ⟨A, c, rfl, HX.out.2.2.1.ext (hE1.trans e), h1, h2, h3, h4, hnm⟩
  have hoy := fun W (e : Ext W1 W) => bOfK_any W (.agg #[.int .u8 r.i, .int .u8 r.o, .int .u8 s.m, .slice B s.n d, .bool s.f]) ⟨r.i, r.o, s.m, s.n, s.f⟩ ⟨B, d, rfl, HX.out.2.2.2.ext (hE1.trans e), h1, h2, j3, j4, jnm⟩
  have HM := Lib.hid (And.intro (show r.i % 3 ≤ 2 by omega) (show r.o % 3 ≤ 2 by omega))
  have HE1 := Lib.hid hE1
  have hE0 := Ext.refl W1
  clear hE1
  refine Dis.wp_region_apart 6 [4, 5] (factsOf [(1, OfV (r.i % 3) (r.o % 3) r.f), (3, OfV (r.i % 3) (r.o % 3) s.f), (4, Fresh W1.heap.size #[.int .i64 0, .int .i64 0, .slice none 0 0] 28), (5, Fresh W1.heap.size #[.int .i64 0, .int .i64 0, .slice none 0 0] 28)]) (fun k => ([[], [0], [], [0, 1, 2], [], [], [0, 1, 2, 3, 4, 5], [0, 1, 2, 3, 4, 5, 6]] : List (List Nat)).getD k []) (by kernel_rfl) (by kernel_rfl) Ext.pre (fun _ _ h => h.size) (mono_cons (stays_ofV _ _ _) (mono_cons (stays_ofV _ _ _) (mono_cons (stays_fresh _ _ _) (mono_cons (stays_fresh _ _ _) (mono_nil))))) ?_
  simp only [List.take_succ_cons, List.take_zero]
  repeat (first | (with_reducible refine Dis.lexL_quiet' (v := ?_) ?_ ?_ ?_ ?_; rotate_left; (· with_reducible rfl); (· simp [factsOf]); (· intro w1 hw1 _; go_simp; with_reducible rfl); (try simp only [Act.put, List.setIfInBounds_toArray, List.set_cons_zero, List.set_cons_succ])) | (with_reducible refine Dis.lexL_skip ?_ ?_; (· simp [Region.wanted, yielded, undef]); (try simp only [Act.put, List.setIfInBounds_toArray, List.set_cons_zero, List.set_cons_succ])) | (with_reducible refine Dis.lexL_quiet (v := ?_) ?_ ?_ ?_ ?_; rotate_left; (· simp [Region.wanted, yielded, undef]); (· simp [factsOf]); (· intro w1 hw1 _; go_simp; with_reducible rfl); (try simp only [Act.put, List.setIfInBounds_toArray, List.set_cons_zero, List.set_cons_succ])))
  with_reducible refine Dis.lexL_give' (φ := ?_) ?_ ?_ ?_ ?_ ?_; rotate_left; (· with_reducible rfl); (· simp only [factsOf, Nat.reduceAdd, ↓reduceIte, Nat.reduceEqDiff]; rfl); (· decide)
  · intro w5 hw5 _
    go_simp
    refine (hox w5 hw5).mono ?_
    rintro e w6 ⟨x, A1, c1, rfl, hK, hB, e6⟩
    exact ⟨_, rfl, e6, x, A1, c1, rfl, hK, hB⟩
  rintro v1 w5 hw5 ⟨x1, A1, c1, rfl, hK1, hB1⟩ hk2
  clear hk2 hw5 hK1 hB1 w5
  generalize x1.ins = xi at *
  generalize x1.outs = xo at *
  generalize x1.rows.length = xn at *
  clear x1
  (try simp only [Act.put, List.setIfInBounds_toArray, List.set_cons_zero, List.set_cons_succ])
  repeat (first | (with_reducible refine Dis.lexL_quiet' (v := ?_) ?_ ?_ ?_ ?_; rotate_left; (· with_reducible rfl); (· simp [factsOf]); (· intro w1 hw1 _; go_simp; with_reducible rfl); (try simp only [Act.put, List.setIfInBounds_toArray, List.set_cons_zero, List.set_cons_succ])) | (with_reducible refine Dis.lexL_skip ?_ ?_; (· simp [Region.wanted, yielded, undef]); (try simp only [Act.put, List.setIfInBounds_toArray, List.set_cons_zero, List.set_cons_succ])) | (with_reducible refine Dis.lexL_quiet (v := ?_) ?_ ?_ ?_ ?_; rotate_left; (· simp [Region.wanted, yielded, undef]); (· simp [factsOf]); (· intro w1 hw1 _; go_simp; with_reducible rfl); (try simp only [Act.put, List.setIfInBounds_toArray, List.set_cons_zero, List.set_cons_succ])))
  with_reducible refine Dis.lexL_give' (φ := ?_) ?_ ?_ ?_ ?_ ?_; rotate_left; (· with_reducible rfl); (· simp only [factsOf, Nat.reduceAdd, ↓reduceIte, Nat.reduceEqDiff]; rfl); (· decide)
  · intro w5 hw5 _
    go_simp
    refine (hoy w5 hw5).mono ?_
    rintro e w6 ⟨x, A1, c1, rfl, hK, hB, e6⟩
    exact ⟨_, rfl, e6, x, A1, c1, rfl, hK, hB⟩
  rintro v3 w5 hw5 ⟨y1, A3, c3, rfl, hK1, hB1⟩ hk2
  clear hk2 hw5 hK1 hB1 w5
  generalize y1.ins = yi at *
  generalize y1.outs = yo at *
  generalize y1.rows.length = yn at *
  clear y1
  (try simp only [Act.put, List.setIfInBounds_toArray, List.set_cons_zero, List.set_cons_succ])
  with_reducible refine Dis.lexL_make' (φ := ?_) ?_ ?_ ?_ ?_; rotate_left; (· with_reducible rfl); (· simp only [factsOf, Nat.reduceAdd, ↓reduceIte, Nat.reduceEqDiff]; rfl)
  · intro w2' hw2' _
    go_simp
    exact ⟨(fresh_alloc _ _ _ _ hw2'.size).2, fun _ => ⟨_, rfl, Nat.le_refl _, by simp⟩⟩
  rintro v4 w2' hw2' ⟨b7, rfl, hb7, hblk8⟩ hk2
  clear hk2 hw2' hblk8 w2'
  (try simp only [Act.put, List.setIfInBounds_toArray, List.set_cons_zero, List.set_cons_succ])
  with_reducible refine Dis.lexL_make' (φ := ?_) ?_ ?_ ?_ ?_; rotate_left; (· with_reducible rfl); (· simp only [factsOf, Nat.reduceAdd, ↓reduceIte, Nat.reduceEqDiff]; rfl)
  · intro w2' hw2' _
    go_simp
    exact ⟨(fresh_alloc _ _ _ _ hw2'.size).2, fun _ => ⟨_, rfl, Nat.le_refl _, by simp⟩⟩
  rintro v5 w2' hw2' ⟨b8, rfl, hb8, hblk8⟩ hk2
  clear hk2 hw2' hblk8 w2'
  (try simp only [Act.put, List.setIfInBounds_toArray, List.set_cons_zero, List.set_cons_succ])
  with_reducible refine Dis.lexL_nil ?_; intro w1 hw1 hk1; simp only [List.drop_succ_cons, List.drop_zero]
  have hne := hk1.apart 4 5 (by decide) (by decide) (by decide) rfl rfl
  simp only [Dis.blkP, ne_eq, Option.some.injEq] at hne
  obtain ⟨x, A1', c1', e1, hKx, hBx⟩ := hk1.get 1 rfl rfl
  obtain ⟨rfl, rfl, rfl, rfl, rfl⟩ : xi = x.ins ∧ xo = x.outs ∧ A1 = A1' ∧ xn = x.rows.length ∧ c1 = c1' := by simpa using e1
  obtain ⟨y, A3', c3', e3, hKy, hBy⟩ := hk1.get 3 rfl rfl
  obtain ⟨rfl, rfl, rfl, rfl, rfl⟩ : yi = y.ins ∧ yo = y.outs ∧ A3 = A3' ∧ yn = y.rows.length ∧ c3 = c3' := by simpa using e3
  obtain ⟨b7', e7, _, hB7⟩ := hk1.get 4 rfl rfl
  obtain rfl : b7' = b7 := by simpa using e7.symm
  obtain ⟨b8', e8, _, hB8⟩ := hk1.get 5 rfl rfl
  obtain rfl : b8' = b8 := by simpa using e8.symm
  clear e1 e3 e7 e8 hk1 hox hoy k0 k1 k2 k3 k4 m0 m1 m2 m3 m4 hE0
  go_upto_region 999 with (first
    | (with_reducible refine stop_at2 3 ?_)
    | (with_reducible refine stop_at 3 ?_)
    | (with_reducible refine wpList_store_blk _ rfl 28 _ _ rfl b7' 28 _ _ rfl rfl hB7 (by kernel_rfl) (by kernel_rfl) (by kernel_rfl) ?_; intro w2 h2' g2; have hB8' := (g2.block b8' (lt_of_block hB8) (by simp; omega)).trans hB8)
    | (with_reducible refine wpList_store_blk _ rfl 28 _ _ rfl b8' 28 _ _ rfl rfl hB8' (by kernel_rfl) (by kernel_rfl) (by kernel_rfl) ?_; intro w3 h3' g3))
  have hTW := two_of hw1 hKx hKy hBx hBy HM.out.1 HM.out.2 hne hb7 hb8 hB7 hB8 g2 h2' g3 h3'
  have HTW := Lib.hid (And.intro hTW (HE1.out.trans hTW.ext))
  clear hTW hw1 hKx hKy hBx hBy hne hb7 hb8 hB7 hB8 hB8' g2 h2' g3 h3'
  refine ⟨?_⟩
  have hW : TwoV w w3 b7' b8' x y r.f s.f := ⟨HTW.out.2, HTW.out.1.bx, HTW.out.1.bz, HTW.out.1.lx⟩
  exact vlaw_t3 w w3 b7' b8' x y r.f s.f ns cv _ _ _ _ _ _ _ _ _ _ _ _ _ _ _ _ _ _ _ _ _ _ _ _ _ _ _ _ _ _ _ _ _ _ _ _ _ _ _ _ _ _ _ _ _ _ _ _ _ _ _ _ _ _ _ _ _ _ _ _ _ _ _ _ _ _ _ _ _ _ _ _ _ _ _ _ _ _ _ _ _ _ _ _ _ _ _ _ _ _ _ _ _ _ _ _ _ _ _ _ _ v hW (HX.out.2.1.ext HTW.out.2) (HX.out.1.ext HTW.out.2)
end Go.Proofs.YtamodjlifpjaoaaDoor
