/- IocosMake 5. -/
import Derived.Test.YtamodjlifpjaoaaDoorX3
import Derived.Test.YtamodjlifpjaoaaDoorGL
namespace Go.Proofs.YtamodjlifpjaoaaDoor
open Go.RowKit
set_option linter.unusedVariables false
set_option linter.unusedSimpArgs false
attribute [local go_sem] Oper.quietV quietV Oper.gives givesV ext_refl_iff ext_alloc_iff ext_drew_iff ext_drewN_iff
def BegP (S : Nat) (v : Value) (w : World) : Prop := ∃ A c, v = .slice A (memI S).length c ∧ IntsC w (.slice A (memI S).length c) (memI S) c
theorem stays_begP (S : Nat) : Stays Ext (BegP S) := fun v w w' hE ⟨A, c, hv, h⟩ => ⟨A, c, hv, h.ext hE⟩
theorem makeR_small {x : Lts} (h0 : checkI x = 0) (hO : x.O ≤ 2) {p : List Int} (hp : okPlan x p) (hl : p.length ≤ 5) : makeR x p = (mkT x p (begM x) 0, 0) := by
  unfold makeR
  rw [if_neg (by simpa using h0), if_neg (by omega), if_neg, if_neg]
  · have h1 := mkT_bound hO p (begM x) 0
    have h2 : bigN p.length ≤ 364 := by
      rcases (by omega : p.length = 0 ∨ p.length = 1 ∨ p.length = 2 ∨ p.length = 3 ∨ p.length = 4 ∨ p.length = 5) with h | h | h | h | h | h <;> rw [h] <;> decide
    omega
  · rw [Bool.not_eq_true, List.any_eq_false]
    intro a ha
    unfold badP
    rcases hp a ha with h | h <;> simp <;> omega
set_option maxRecDepth 100000 in
set_option maxHeartbeats 16000000 in
theorem iocosMake_any (w : World) (bv v : Value) (r : BNum) (ns : List Nat) (cv : Nat) (hb : BV w bv r) (hv : U8sC w v ns cv) (hT : Tab w) :
    Calls Tryd.prog 5 #[bv, v] w fun e w' => e = .returned (.bool true) ∧ Ext w w' := by
  have hof := fun W (e : Ext w W) => bOf_any W bv r (hb.ext e)
  obtain ⟨A, c, rfl, hA, h1, h2, h3, _, hnm⟩ := id hb
  have HX := Lib.hid (And.intro hv hT)
  clear hb hv hT hA
  go_enter Tryd.func5, Tryd.ntmps5
  go_upto_region 1 with fail
  refine wp_named ?_
  intro W1 hW1
  have hE1 : Ext w W1 := by rw [hW1]; exact (Ext.refl _).alloc _
  have k0 : W1.cell? ⟨w.heap.size, 0, none⟩ = some (.int .u8 r.i) := by rw [hW1]; simp [go_sem]
  have k1 : W1.cell? ⟨w.heap.size, 1, none⟩ = some (.int .u8 r.o) := by rw [hW1]; simp [go_sem]
  have k2 : W1.cell? ⟨w.heap.size, 2, none⟩ = some (.int .u8 r.m) := by rw [hW1]; simp [go_sem]
  have k3 : W1.cell? ⟨w.heap.size, 3, none⟩ = some (.slice A r.n c) := by rw [hW1]; simp [go_sem]
  have k4 : W1.cell? ⟨w.heap.size, 4, none⟩ = some (.bool r.f) := by rw [hW1]; simp [go_sem]
  clear hW1
  generalize w.heap.size = b2 at *
  have hof := hof W1 hE1
  go_upto_region 2 with (first
    | ((with_reducible refine hof.mono ?_); rintro e W2 ⟨x, A2, c2, rfl, hL2, hB2, e2⟩)
    | (with_reducible refine wpList_store_blk _ rfl 28 _ _ rfl W2.heap.size 28 _ _ rfl rfl (heap_alloc_new _ _) (by kernel_rfl) (by kernel_rfl) (by kernel_rfl) ?_; intro W3 h3' g3))
  have e3 : Ext W2 W3 := Below.grown (alloc_ext W2 _) g3 (alloc_ext W2 _).size (fun k hk => by cases hk; exact Nat.le_refl _)
  have hE3 := hE1.trans (e2.trans e3)
  have d0 : ∀ w', Ext W3 w' → w'.cell? ⟨W2.heap.size, 0, none⟩ = some (.int .i64 x.ins) := fun w' h => h.cell (cell_of_blk h3' 0 rfl)
  have d1 : ∀ w', Ext W3 w' → w'.cell? ⟨W2.heap.size, 1, none⟩ = some (.int .i64 x.outs) := fun w' h => h.cell (cell_of_blk h3' 1 rfl)
  have d2 : ∀ w', Ext W3 w' → w'.cell? ⟨W2.heap.size, 2, none⟩ = some (.slice A2 x.rows.length c2) := fun w' h => h.cell (cell_of_blk h3' 2 rfl)
  have HE3 := Lib.hid hE3
  have hg := check_good hB2.good
  have hL3 := hL2.ext e3
  have hT3 := HX.out.2.ext hE3
  have hok := planI_ok hg ns
  have hpl := planI_len ns x.I
  have hO2 : x.O ≤ 2 := by have h1 := hg.OO.1; have h2 := hB2.outs; have h3 : r.o % 3 < 3 := Nat.mod_lt _ (by omega); omega
  have hmr := makeR_small hB2.good hO2 hok hpl
  have hrt := mkT_right hg hok (begM x)
  have hbd := mkT_bound hO2 (planI ns x.I) (begM x) 0
  have hb2 : (mkT x (planI ns x.I) (begM x) 0).length ≤ 364 := by
    have : bigN (planI ns x.I).length ≤ 364 := by
      rcases (by omega : (planI ns x.I).length = 0 ∨ (planI ns x.I).length = 1 ∨ (planI ns x.I).length = 2 ∨ (planI ns x.I).length = 3 ∨ (planI ns x.I).length = 4 ∨ (planI ns x.I).length = 5) with h | h | h | h | h | h <;> rw [h] <;> decide
    omega
  have hpn := plan_any W3 v ns cv x.ins x.I hg.II.1.symm hg.II.2 (HX.out.1.ext hE3)
  have HG := Lib.hid (And.intro hL3 (And.intro hg (And.intro hT3 (And.intro hok (And.intro hmr (And.intro hrt hb2))))))
  generalize planI ns x.I = p at *
  have hE0 := Ext.refl W3
  clear hof h3' g3 e3 hE3 hE1 e2 hL2 hB2 hg hL3 hT3 hok hpl hO2 hmr hrt hbd hb2 k0 k1 k2 k3 k4 HX
  generalize W2.heap.size = b5 at *
  go_upto_region 3 with ((with_reducible refine hpn.mono ?_); rintro e W4 ⟨pv, cp, rfl, hp4, e4⟩)
  have HP := Lib.hid (And.intro hp4 e4)
  have hmk := Make_any W4 _ x pv p cp (HG.out.1.ext e4) hp4 (HG.out.2.2.1.ext e4)
  rw [HG.out.2.2.2.2.1] at hmk
  unfold MakeP at hmk
  have d0 := fun w' (h : Ext W4 w') => d0 w' (e4.trans h)
  have d1 := fun w' (h : Ext W4 w') => d1 w' (e4.trans h)
  have d2 := fun w' (h : Ext W4 w') => d2 w' (e4.trans h)
  have hE0 := Ext.refl W4
  clear hpn hp4 e4
  go_upto_region 4 with ((with_reducible refine hmk.mono ?_); rintro e W5 ⟨tv, rfl, hN5, e5⟩; obtain ⟨At, M5, hM5, hvt, hc5, hok5, hl5, hm5⟩ := id hN5)
  have HT := Lib.hid (And.intro hN5 (HP.out.2.trans e5))
  subst hvt
  have hbg := fun W (e : Ext W5 W) => refBegin_any W _ x (HG.out.1.ext (HT.out.2.trans e)) HG.out.2.1
  have HP5 := Lib.hid (HP.out.1.ext e5)
  have d0 := fun w' (h : Ext W5 w') => d0 w' (e5.trans h)
  have d1 := fun w' (h : Ext W5 w') => d1 w' (e5.trans h)
  have d2 := fun w' (h : Ext W5 w') => d2 w' (e5.trans h)
  have hE0 := Ext.refl W5
  clear hmk e5 hN5 hM5 hc5 hok5
  refine wp_region_ext 4 (factsOf [(2, BegP (begM x))]) (fun k => ([[], [], [1], [], [0, 1, 2, 3], [0, 1, 2, 3, 4]] : List (List Nat)).getD k []) (by kernel_rfl) (by kernel_rfl) Ext.pre (mono_cons (stays_begP _) (mono_nil)) ?_
  simp only [List.take_succ_cons, List.take_zero]
  repeat (first | (with_reducible refine lexL_quiet' (v := ?_) ?_ ?_ ?_ ?_; rotate_left; (· with_reducible rfl); (· simp [factsOf]); (· intro w1 hw1 _; go_simp; with_reducible rfl); (try simp only [Act.put, List.setIfInBounds_toArray, List.set_cons_zero, List.set_cons_succ])) | (with_reducible refine lexL_skip ?_ ?_; (· simp [Region.wanted, yielded, undef]); (try simp only [Act.put, List.setIfInBounds_toArray, List.set_cons_zero, List.set_cons_succ])) | (with_reducible refine lexL_quiet (v := ?_) ?_ ?_ ?_ ?_; rotate_left; (· simp [Region.wanted, yielded, undef]); (· simp [factsOf]); (· intro w1 hw1 _; go_simp; with_reducible rfl); (try simp only [Act.put, List.setIfInBounds_toArray, List.set_cons_zero, List.set_cons_succ])))
  with_reducible refine lexL_give' (φ := ?_) ?_ ?_ ?_ ?_; rotate_left; (· with_reducible rfl); (· simp only [factsOf, Nat.reduceAdd, ↓reduceIte, Nat.reduceEqDiff]; rfl)
  · intro w5 hw5 _
    go_simp
    refine (hbg w5 hw5).mono ?_
    rintro e w6 ⟨rv, c, rfl, hi, e6⟩
    obtain ⟨A9, rfl, h9⟩ := id hi
    exact ⟨_, rfl, e6, A9, c, rfl, hi⟩
  rintro v9 w5 hw5 ⟨A9, c9, rfl, h9⟩ hk2
  clear hk2 h9 hw5 w5
  (try simp only [Act.put, List.setIfInBounds_toArray, List.set_cons_zero, List.set_cons_succ])
  repeat (first | (with_reducible refine lexL_quiet' (v := ?_) ?_ ?_ ?_ ?_; rotate_left; (· with_reducible rfl); (· simp [factsOf]); (· intro w1 hw1 _; go_simp; with_reducible rfl); (try simp only [Act.put, List.setIfInBounds_toArray, List.set_cons_zero, List.set_cons_succ])) | (with_reducible refine lexL_skip ?_ ?_; (· simp [Region.wanted, yielded, undef]); (try simp only [Act.put, List.setIfInBounds_toArray, List.set_cons_zero, List.set_cons_succ])) | (with_reducible refine lexL_quiet (v := ?_) ?_ ?_ ?_ ?_; rotate_left; (· simp [Region.wanted, yielded, undef]); (· simp [factsOf]); (· intro w1 hw1 _; go_simp; with_reducible rfl); (try simp only [Act.put, List.setIfInBounds_toArray, List.set_cons_zero, List.set_cons_succ])))
  with_reducible refine lexL_nil ?_; intro w1 hw1 hk1; simp only [List.drop_succ_cons, List.drop_zero]
  obtain ⟨A9', c9', hv9, hi9⟩ := hk1.get 2 rfl rfl
  injection hv9 with hvA _ hvc
  subst hvA hvc
  have hrm : Calls Tryd.prog 25 #[.agg #[.int .i64 x.ins, .int .i64 x.outs, .slice A2 x.rows.length c2], .slice A9 (memI (begM x)).length c9, pv, .int .i64 0] w1 (RMakeP w1 (mkT x p (begM x) 0)) := refMake_any x HG.out.2.1 p HG.out.2.2.2.1 w1 (.agg #[.int .i64 x.ins, .int .i64 x.outs, .slice A2 x.rows.length c2]) _ pv (begM x) c9 cp 0 (HG.out.1.ext (HT.out.2.trans hw1)) (begM_lt HG.out.2.1) hi9 (HP5.out.ext hw1) (by have := HG.out.2.2.2.2.2.2; omega)
  have HW := Lib.hid hw1
  clear hk1 hw1 hi9 hbg hE0
  go_upto_region 5 with ((with_reducible refine hrm.mono ?_); rintro e W6 ⟨rv, c6, rfl, hN6, e6⟩; obtain ⟨A6, rfl⟩ := hN6.give)
  have e56 := HW.out.trans e6
  have hnd := nodes_yes (HT.out.1.ext e56) hN6.nodes
  have hte := fun W (e : Ext W6 W) => refTest_any W _ (mkT x p (begM x) 0) _ x.ins x.outs (HT.out.1.ext (e56.trans e)) HG.out.2.1.outs (by have := HG.out.2.2.2.2.2.2; omega)
  rw [testR_yes (by have := HG.out.2.2.2.2.2.2; omega) HG.out.2.2.2.2.2.1] at hte
  have hlv := fun W (e : Ext W6 W) => lives_any W (HG.out.2.2.1.ext (HT.out.2.trans (e56.trans e)))
  have HE6 := Lib.hid (HT.out.2.trans e56)
  have d0 := fun w' (h : Ext W6 w') => d0 w' (e56.trans h)
  have d1 := fun w' (h : Ext W6 w') => d1 w' (e56.trans h)
  have d2 := fun w' (h : Ext W6 w') => d2 w' (e56.trans h)
  have hE0 := Ext.refl W6
  clear hN6 e6 e56 hrm
  generalize (mkT x p (begM x) 0).length = nL at *
  have gl : ((nL : Int) == (nL : Int)) = true := by simp
  go_wp2_with (first
    | ((with_reducible refine hnd.mono ?_); rintro e W7 ⟨rfl, e7⟩; have hte7 := hte W7 e7; have d0 := fun w' (h : Ext W7 w') => d0 w' (e7.trans h); have d1 := fun w' (h : Ext W7 w') => d1 w' (e7.trans h); have hE7 := Ext.refl W7; have H7 := Lib.hid e7; clear e7)
    | ((with_reducible refine hte7.mono ?_); rintro e W8 ⟨rfl, e8⟩; have hlv8 := hlv W8 (H7.out.trans e8); have H8 := Lib.hid (H7.out.trans e8); clear e8)
    | ((with_reducible refine hlv8.mono ?_); rintro e W9 ⟨rfl, e9⟩))
  go_ret
  exact ⟨rfl, HE3.out.trans (HE6.out.trans (H8.out.trans e9))⟩
end Go.Proofs.YtamodjlifpjaoaaDoor
