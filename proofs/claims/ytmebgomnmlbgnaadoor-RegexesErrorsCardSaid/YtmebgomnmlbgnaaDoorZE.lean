/-   -/
import Derived.Test.YtmebgomnmlbgnaaDoorZD
set_option linter.unnecessarySimpa false
set_option linter.unusedSectionVars false
namespace Go.Proofs.YtmebgomnmlbgnaaDoor
open Go.RowKit Go.Maps
set_option linter.unusedVariables false
set_option linter.unusedSimpArgs false
attribute [local go_sem] Oper.quietV quietV Oper.gives givesV ext_refl_iff ext_alloc_iff ext_drew_iff ext_drewN_iff
def orR (x y : Rx) : Rx := if x = .none then y else if y = .none ∨ x = y then x else .or x y
def andR (x y : Rx) : Rx := if x = .none ∨ y = .none then .none else if x = y then x else .and x y
def seqR (x y : Rx) : Rx := if x = .none ∨ y = .none then .none else if x = .empty then y else if y = .empty then x else .seq x y
def notR : Rx → Rx
  | .not w => w
  | x => .not x
theorem op_none {x : Rx} : x.tr.op = 0 ↔ x = .none := by cases x <;> simp [Rx.tr, Tr.op]
theorem op_empty {x : Rx} : x.tr.op = 1 ↔ x = .empty := by cases x <;> simp [Rx.tr, Tr.op]
theorem eqT_rx (x y : Rx) : eqT x.tr y.tr = decide (x = y) := by
  by_cases h : x = y
  · subst h; rw [decide_eq_true rfl]; exact (eqT_iff _ _).2 rfl
  · rw [decide_eq_false h]
    cases he : eqT x.tr y.tr with
    | false => rfl
    | true => exact absurd (tr_inj ((eqT_iff _ _).1 he)) h
set_option maxRecDepth 100000 in
set_option maxHeartbeats 4000000 in
theorem or_any {S : Nat → Prop} {x y : Rx} {w : World} {A1 A2 : Option Addr} {c1 c2 : Nat} (hS : New S w) (h1 : NodeB S false w x.tr (ndV x.tr A1 c1)) (h2 : NodeB S false w y.tr (ndV y.tr A2 c2)) : Calls Tryd.prog 81 #[ndV x.tr A1 c1, ndV y.tr A2 c2] w (NodeQ S false w (orR x y).tr) := by
  obtain ⟨z, hz⟩ : ∃ z, z = orR x y := ⟨_, rfl⟩
  rw [← hz]
  unfold orR at hz
  have HX := Lib.hid (fun b (hb : w.heap.size ≤ b) => And.intro (h1.but hb) (h2.but hb))
  have HS := Lib.hid hS
  have HOX := Lib.hid (And.intro (@op_none x) (And.intro (@op_none y) (And.intro (@op_empty x) (@op_empty y))))
  have HZ := Lib.hid hz
  have hsm := fun w' (e : Ext w w') => same_any (h1.ext e).node (h2.ext e).node
  have htw := fun w' (e : Ext w w') S' (hS' : New S' w') (a : NodeB S' false w x.tr (ndV x.tr A1 c1)) (b : NodeB S' false w y.tr (ndV y.tr A2 c2)) => two3 hS' (a.ext e) (b.ext e)
  rw [eqT_rx] at hsm
  obtain ⟨rs, hrs⟩ : ∃ r : Bool, r = decide (x = y) := ⟨_, rfl⟩
  rw [← hrs] at hsm
  unfold BoolP at hsm
  unfold MadeQ at htw
  have HRS := Lib.hid hrs
  unfold ndV at hsm htw HX ⊢
  generalize hox : x.tr.op = o1 at *
  generalize x.tr.n = n1 at *
  generalize x.tr.subs.length = l1 at *
  generalize hoy : y.tr.op = o2 at *
  generalize y.tr.n = n2 at *
  generalize y.tr.subs.length = l2 at *
  have HSM := Lib.hid hsm
  have HTW := Lib.hid htw
  clear h1 h2 hz hsm htw hrs hox hoy hS
  go_enter Tryd.func81, Tryd.ntmps81
  go_upto_region 1 with fail
  refine wp_named ?_
  intro W1 hW1
  have hE1 : Ext w W1 := by rw [hW1]; exact ((alloc_ext _ _).trans (alloc_ext _ _)).trans (alloc_ext _ _)
  have k0 : ∀ w', Ext W1 w' → w'.cell? ⟨w.heap.size, 0, none⟩ = some (.int .u8 (o1 : Int)) := fun w' h => h.cell (by rw [hW1]; simp [go_sem])
  have k1 : ∀ w', Ext W1 w' → w'.cell? ⟨w.heap.size, 1, none⟩ = some (.int .i64 n1) := fun w' h => h.cell (by rw [hW1]; simp [go_sem])
  have k2 : ∀ w', Ext W1 w' → w'.cell? ⟨w.heap.size, 2, none⟩ = some (.slice A1 l1 c1) := fun w' h => h.cell (by rw [hW1]; simp [go_sem])
  have j0 : ∀ w', Ext W1 w' → w'.cell? ⟨w.heap.size + 1, 0, none⟩ = some (.int .u8 (o2 : Int)) := fun w' h => h.cell (by rw [hW1]; simp [go_sem])
  have j1 : ∀ w', Ext W1 w' → w'.cell? ⟨w.heap.size + 1, 1, none⟩ = some (.int .i64 n2) := fun w' h => h.cell (by rw [hW1]; simp [go_sem])
  have j2 : ∀ w', Ext W1 w' → w'.cell? ⟨w.heap.size + 1, 2, none⟩ = some (.slice A2 l2 c2) := fun w' h => h.cell (by rw [hW1]; simp [go_sem])
  have hB : W1.heap[w.heap.size + 1 + 1]? = some (.cells zNode 35 (0, 0)) := by rw [hW1]; exact alloc3_2 _ _ _ _
  have hR1 := Ext.refl W1
  have HE1 := Lib.hid hE1
  have HB := Lib.hid hB
  have HD : Hid (w.heap.size ≤ w.heap.size + 1 + 1) := Lib.hid (by omega)
  have HX := Lib.hid (HX.out _ HD.out)
  have HS := Lib.hid (HS.out.but hE1 (lt_of_block hB))
  clear hW1 hE1 hB
  generalize w.heap.size + 1 + 1 = b3 at *
  by_cases ho : o1 = 0
  · have g0 : ((o1 : Int) == 0) = true := by rw [ho]; rfl
    have hz : z = y := by rw [HZ.out, if_pos (HOX.out.1.1 ho)]
    clear ho
    go_wp2_with (with_reducible refine wpList_store_blk _ rfl 35 _ _ rfl b3 35 _ _ rfl rfl HB.out (by kernel_rfl) (by kernel_rfl) (by kernel_rfl) ?_; intro w8 h8 g8)
    refine bodyPost_ret (results_cell_row rfl _ _ b3 35 _ (0, 0) _ (by simp [Act.put]) h8 Tryd.underlying35 rfl (by kernel_rfl)) rfl ?_
    have hE8 : Ext w w8 := Below.grown (HE1.out.trans (Ext.refl _)) g8 (HE1.out.trans (Ext.refl _)).size (fun k hk => by cases hk; exact HD.out)
    have hn := (HX.out.2.ext (HE1.out.trans (Ext.refl _))).past g8
    obtain ⟨A', c', hv⟩ := hn.val
    rw [hz]
    exact ⟨A', c', by rw [← hv], by rw [← hv]; exact hn, hE8⟩
  have g0 : ((o1 : Int) == 0) = false := beq_eq_false_iff_ne.2 (by omega)
  have HNX : Hid (x ≠ .none) := Lib.hid (fun h => ho (HOX.out.1.2 h))
  clear ho
  by_cases ho2 : o2 = 0
  · have g1 : ((o2 : Int) == 0) = true := by rw [ho2]; rfl
    have hz : z = x := by rw [HZ.out, if_neg HNX.out, if_pos (.inl (HOX.out.2.1.1 ho2))]
    clear ho2
    go_wp2_with (with_reducible refine wpList_store_blk _ rfl 35 _ _ rfl b3 35 _ _ rfl rfl HB.out (by kernel_rfl) (by kernel_rfl) (by kernel_rfl) ?_; intro w8 h8 g8)
    refine bodyPost_ret (results_cell_row rfl _ _ b3 35 _ (0, 0) _ (by simp [Act.put]) h8 Tryd.underlying35 rfl (by kernel_rfl)) rfl ?_
    have hE8 : Ext w w8 := Below.grown (HE1.out.trans (Ext.refl _)) g8 (HE1.out.trans (Ext.refl _)).size (fun k hk => by cases hk; exact HD.out)
    have hn := (HX.out.1.ext (HE1.out.trans (Ext.refl _))).past g8
    obtain ⟨A', c', hv⟩ := hn.val
    rw [hz]
    exact ⟨A', c', by rw [← hv], by rw [← hv]; exact hn, hE8⟩
  have g1 : ((o2 : Int) == 0) = false := beq_eq_false_iff_ne.2 (by omega)
  have HNY : Hid (y ≠ .none) := Lib.hid (fun h => ho2 (HOX.out.2.1.2 h))
  clear ho2
  have hsm := HSM.out W1 HE1.out
  cases rs with
  | true =>
    have hz : z = x := by rw [HZ.out, if_neg HNX.out, if_pos (.inr (of_decide_eq_true HRS.out.symm))]
    go_wp2_with (first | ((with_reducible refine hsm.mono ?_); rintro e W5 ⟨rfl, e5⟩) | (with_reducible refine wpList_store_blk _ rfl 35 _ _ rfl b3 35 _ _ rfl rfl (heap_ext e5 HB.out) (by kernel_rfl) (by kernel_rfl) (by kernel_rfl) ?_; intro w8 h8 g8))
    refine bodyPost_ret (results_cell_row rfl _ _ b3 35 _ (0, 0) _ (by simp [Act.put]) h8 Tryd.underlying35 rfl (by kernel_rfl)) rfl ?_
    have hE8 : Ext w w8 := Below.grown (HE1.out.trans (e5)) g8 (HE1.out.trans (e5)).size (fun k hk => by cases hk; exact HD.out)
    have hn := (HX.out.1.ext (HE1.out.trans (e5))).past g8
    obtain ⟨A', c', hv⟩ := hn.val
    rw [hz]
    exact ⟨A', c', by rw [← hv], by rw [← hv]; exact hn, hE8⟩
  | false =>
    have hz : z = .or x y := by rw [HZ.out, if_neg HNX.out, if_neg (fun h => h.elim HNY.out (of_decide_eq_false HRS.out.symm))]
    have htw := fun w' (e : Ext W1 w') => HTW.out w' (HE1.out.trans e) _ (HS.out.ext e) HX.out.1 HX.out.2
    have HTW2 := Lib.hid htw
    clear htw
    go_wp2_with (first | ((with_reducible refine hsm.mono ?_); rintro e W5 ⟨rfl, e5⟩) | ((with_reducible refine (HTW2.out _ e5).mono ?_); rintro e W6 ⟨A6, c6, rfl, h6, e6⟩) | (with_reducible refine wpList_store_blk _ rfl 35 _ _ rfl b3 35 _ _ rfl rfl (heap_ext (e5.trans e6) HB.out) (by kernel_rfl) (by kernel_rfl) (by kernel_rfl) ?_; intro w8 h8 g8))
    refine bodyPost_ret (results_cell_row rfl _ _ b3 35 _ (0, 0) _ (by simp [Act.put]) h8 Tryd.underlying35 rfl (by kernel_rfl)) rfl ?_
    rw [hz]
    exact ⟨A6, c6, rfl, h6.past g8, Below.grown ((HE1.out.trans e5).trans e6) g8 ((HE1.out.trans e5).trans e6).size (fun k hk => by cases hk; exact HD.out)⟩
set_option maxRecDepth 100000 in
set_option maxHeartbeats 4000000 in
theorem and_any {S : Nat → Prop} {x y : Rx} {w : World} {A1 A2 : Option Addr} {c1 c2 : Nat} (hS : New S w) (h1 : NodeB S false w x.tr (ndV x.tr A1 c1)) (h2 : NodeB S false w y.tr (ndV y.tr A2 c2)) : Calls Tryd.prog 82 #[ndV x.tr A1 c1, ndV y.tr A2 c2] w (NodeQ S false w (andR x y).tr) := by
  obtain ⟨z, hz⟩ : ∃ z, z = andR x y := ⟨_, rfl⟩
  rw [← hz]
  unfold andR at hz
  have HX := Lib.hid (fun b (hb : w.heap.size ≤ b) => And.intro (h1.but hb) (h2.but hb))
  have HS := Lib.hid hS
  have HOX := Lib.hid (And.intro (@op_none x) (And.intro (@op_none y) (And.intro (@op_empty x) (@op_empty y))))
  have HZ := Lib.hid hz
  have hsm := fun w' (e : Ext w w') => same_any (h1.ext e).node (h2.ext e).node
  have htw := fun w' (e : Ext w w') S' (hS' : New S' w') (a : NodeB S' false w x.tr (ndV x.tr A1 c1)) (b : NodeB S' false w y.tr (ndV y.tr A2 c2)) => two5 hS' (a.ext e) (b.ext e)
  rw [eqT_rx] at hsm
  obtain ⟨rs, hrs⟩ : ∃ r : Bool, r = decide (x = y) := ⟨_, rfl⟩
  rw [← hrs] at hsm
  unfold BoolP at hsm
  unfold MadeQ at htw
  have HRS := Lib.hid hrs
  unfold ndV at hsm htw HX ⊢
  generalize hox : x.tr.op = o1 at *
  generalize x.tr.n = n1 at *
  generalize x.tr.subs.length = l1 at *
  generalize hoy : y.tr.op = o2 at *
  generalize y.tr.n = n2 at *
  generalize y.tr.subs.length = l2 at *
  have HSM := Lib.hid hsm
  have HTW := Lib.hid htw
  clear h1 h2 hz hsm htw hrs hox hoy hS
  go_enter Tryd.func82, Tryd.ntmps82
  go_upto_region 1 with fail
  refine wp_named ?_
  intro W1 hW1
  have hE1 : Ext w W1 := by rw [hW1]; exact ((alloc_ext _ _).trans (alloc_ext _ _)).trans (alloc_ext _ _)
  have k0 : ∀ w', Ext W1 w' → w'.cell? ⟨w.heap.size, 0, none⟩ = some (.int .u8 (o1 : Int)) := fun w' h => h.cell (by rw [hW1]; simp [go_sem])
  have k1 : ∀ w', Ext W1 w' → w'.cell? ⟨w.heap.size, 1, none⟩ = some (.int .i64 n1) := fun w' h => h.cell (by rw [hW1]; simp [go_sem])
  have k2 : ∀ w', Ext W1 w' → w'.cell? ⟨w.heap.size, 2, none⟩ = some (.slice A1 l1 c1) := fun w' h => h.cell (by rw [hW1]; simp [go_sem])
  have j0 : ∀ w', Ext W1 w' → w'.cell? ⟨w.heap.size + 1, 0, none⟩ = some (.int .u8 (o2 : Int)) := fun w' h => h.cell (by rw [hW1]; simp [go_sem])
  have j1 : ∀ w', Ext W1 w' → w'.cell? ⟨w.heap.size + 1, 1, none⟩ = some (.int .i64 n2) := fun w' h => h.cell (by rw [hW1]; simp [go_sem])
  have j2 : ∀ w', Ext W1 w' → w'.cell? ⟨w.heap.size + 1, 2, none⟩ = some (.slice A2 l2 c2) := fun w' h => h.cell (by rw [hW1]; simp [go_sem])
  have hB : W1.heap[w.heap.size + 1 + 1]? = some (.cells zNode 35 (0, 0)) := by rw [hW1]; exact alloc3_2 _ _ _ _
  have hR1 := Ext.refl W1
  have HE1 := Lib.hid hE1
  have HB := Lib.hid hB
  have HD : Hid (w.heap.size ≤ w.heap.size + 1 + 1) := Lib.hid (by omega)
  have HX := Lib.hid (HX.out _ HD.out)
  have HS := Lib.hid (HS.out.but hE1 (lt_of_block hB))
  clear hW1 hE1 hB
  generalize w.heap.size + 1 + 1 = b3 at *
  by_cases ho : o1 = 0
  · have g0 : ((o1 : Int) == 0) = true := by rw [ho]; rfl
    have hz : z = .none := by rw [HZ.out, if_pos (.inl (HOX.out.1.1 ho))]
    clear ho
    go_wp2_with (with_reducible refine wpList_store_blk _ rfl 35 _ _ rfl b3 35 _ _ rfl rfl HB.out (by kernel_rfl) (by kernel_rfl) (by kernel_rfl) ?_; intro w8 h8 g8)
    refine bodyPost_ret (results_cell_row rfl _ _ b3 35 _ (0, 0) _ (by simp [Act.put]) h8 Tryd.underlying35 rfl (by kernel_rfl)) rfl ?_
    rw [hz]
    exact ⟨none, 0, rfl, nodeB_leaf _ _ _ 0 0 (by decide) _, Below.grown HE1.out g8 HE1.out.size (fun k hk => by cases hk; exact HD.out)⟩
  have g0 : ((o1 : Int) == 0) = false := beq_eq_false_iff_ne.2 (by omega)
  have HNX : Hid (x ≠ .none) := Lib.hid (fun h => ho (HOX.out.1.2 h))
  clear ho
  by_cases ho2 : o2 = 0
  · have g1 : ((o2 : Int) == 0) = true := by rw [ho2]; rfl
    have hz : z = .none := by rw [HZ.out, if_pos (.inr (HOX.out.2.1.1 ho2))]
    clear ho2
    go_wp2_with (with_reducible refine wpList_store_blk _ rfl 35 _ _ rfl b3 35 _ _ rfl rfl HB.out (by kernel_rfl) (by kernel_rfl) (by kernel_rfl) ?_; intro w8 h8 g8)
    refine bodyPost_ret (results_cell_row rfl _ _ b3 35 _ (0, 0) _ (by simp [Act.put]) h8 Tryd.underlying35 rfl (by kernel_rfl)) rfl ?_
    rw [hz]
    exact ⟨none, 0, rfl, nodeB_leaf _ _ _ 0 0 (by decide) _, Below.grown HE1.out g8 HE1.out.size (fun k hk => by cases hk; exact HD.out)⟩
  have g1 : ((o2 : Int) == 0) = false := beq_eq_false_iff_ne.2 (by omega)
  have HNY : Hid (y ≠ .none) := Lib.hid (fun h => ho2 (HOX.out.2.1.2 h))
  clear ho2
  have hsm := HSM.out W1 HE1.out
  cases rs with
  | true =>
    have hz : z = x := by rw [HZ.out, if_neg (fun h => h.elim HNX.out HNY.out), if_pos (of_decide_eq_true HRS.out.symm)]
    go_wp2_with (first | ((with_reducible refine hsm.mono ?_); rintro e W5 ⟨rfl, e5⟩) | (with_reducible refine wpList_store_blk _ rfl 35 _ _ rfl b3 35 _ _ rfl rfl (heap_ext e5 HB.out) (by kernel_rfl) (by kernel_rfl) (by kernel_rfl) ?_; intro w8 h8 g8))
    refine bodyPost_ret (results_cell_row rfl _ _ b3 35 _ (0, 0) _ (by simp [Act.put]) h8 Tryd.underlying35 rfl (by kernel_rfl)) rfl ?_
    have hE8 : Ext w w8 := Below.grown (HE1.out.trans (e5)) g8 (HE1.out.trans (e5)).size (fun k hk => by cases hk; exact HD.out)
    have hn := (HX.out.1.ext (HE1.out.trans (e5))).past g8
    obtain ⟨A', c', hv⟩ := hn.val
    rw [hz]
    exact ⟨A', c', by rw [← hv], by rw [← hv]; exact hn, hE8⟩
  | false =>
    have hz : z = .and x y := by rw [HZ.out, if_neg (fun h => h.elim HNX.out HNY.out), if_neg (of_decide_eq_false HRS.out.symm)]
    have htw := fun w' (e : Ext W1 w') => HTW.out w' (HE1.out.trans e) _ (HS.out.ext e) HX.out.1 HX.out.2
    have HTW2 := Lib.hid htw
    clear htw
    go_wp2_with (first | ((with_reducible refine hsm.mono ?_); rintro e W5 ⟨rfl, e5⟩) | ((with_reducible refine (HTW2.out _ e5).mono ?_); rintro e W6 ⟨A6, c6, rfl, h6, e6⟩) | (with_reducible refine wpList_store_blk _ rfl 35 _ _ rfl b3 35 _ _ rfl rfl (heap_ext (e5.trans e6) HB.out) (by kernel_rfl) (by kernel_rfl) (by kernel_rfl) ?_; intro w8 h8 g8))
    refine bodyPost_ret (results_cell_row rfl _ _ b3 35 _ (0, 0) _ (by simp [Act.put]) h8 Tryd.underlying35 rfl (by kernel_rfl)) rfl ?_
    rw [hz]
    exact ⟨A6, c6, rfl, h6.past g8, Below.grown ((HE1.out.trans e5).trans e6) g8 ((HE1.out.trans e5).trans e6).size (fun k hk => by cases hk; exact HD.out)⟩
set_option maxRecDepth 100000 in
set_option maxHeartbeats 4000000 in
theorem seq_any {S : Nat → Prop} {x y : Rx} {w : World} {A1 A2 : Option Addr} {c1 c2 : Nat} (hS : New S w) (h1 : NodeB S false w x.tr (ndV x.tr A1 c1)) (h2 : NodeB S false w y.tr (ndV y.tr A2 c2)) : Calls Tryd.prog 84 #[ndV x.tr A1 c1, ndV y.tr A2 c2] w (NodeQ S false w (seqR x y).tr) := by
  obtain ⟨z, hz⟩ : ∃ z, z = seqR x y := ⟨_, rfl⟩
  rw [← hz]
  unfold seqR at hz
  have HX := Lib.hid (fun b (hb : w.heap.size ≤ b) => And.intro (h1.but hb) (h2.but hb))
  have HS := Lib.hid hS
  have HOX := Lib.hid (And.intro (@op_none x) (And.intro (@op_none y) (And.intro (@op_empty x) (@op_empty y))))
  have HZ := Lib.hid hz
  have hsm := fun w' (e : Ext w w') => same_any (h1.ext e).node (h2.ext e).node
  have htw := fun w' (e : Ext w w') S' (hS' : New S' w') (a : NodeB S' false w x.tr (ndV x.tr A1 c1)) (b : NodeB S' false w y.tr (ndV y.tr A2 c2)) => two4 hS' (a.ext e) (b.ext e)
  rw [eqT_rx] at hsm
  obtain ⟨rs, hrs⟩ : ∃ r : Bool, r = decide (x = y) := ⟨_, rfl⟩
  rw [← hrs] at hsm
  unfold BoolP at hsm
  unfold MadeQ at htw
  have HRS := Lib.hid hrs
  unfold ndV at hsm htw HX ⊢
  generalize hox : x.tr.op = o1 at *
  generalize x.tr.n = n1 at *
  generalize x.tr.subs.length = l1 at *
  generalize hoy : y.tr.op = o2 at *
  generalize y.tr.n = n2 at *
  generalize y.tr.subs.length = l2 at *
  have HSM := Lib.hid hsm
  have HTW := Lib.hid htw
  clear h1 h2 hz hsm htw hrs hox hoy hS
  go_enter Tryd.func84, Tryd.ntmps84
  go_upto_region 1 with fail
  refine wp_named ?_
  intro W1 hW1
  have hE1 : Ext w W1 := by rw [hW1]; exact ((alloc_ext _ _).trans (alloc_ext _ _)).trans (alloc_ext _ _)
  have k0 : ∀ w', Ext W1 w' → w'.cell? ⟨w.heap.size, 0, none⟩ = some (.int .u8 (o1 : Int)) := fun w' h => h.cell (by rw [hW1]; simp [go_sem])
  have k1 : ∀ w', Ext W1 w' → w'.cell? ⟨w.heap.size, 1, none⟩ = some (.int .i64 n1) := fun w' h => h.cell (by rw [hW1]; simp [go_sem])
  have k2 : ∀ w', Ext W1 w' → w'.cell? ⟨w.heap.size, 2, none⟩ = some (.slice A1 l1 c1) := fun w' h => h.cell (by rw [hW1]; simp [go_sem])
  have j0 : ∀ w', Ext W1 w' → w'.cell? ⟨w.heap.size + 1, 0, none⟩ = some (.int .u8 (o2 : Int)) := fun w' h => h.cell (by rw [hW1]; simp [go_sem])
  have j1 : ∀ w', Ext W1 w' → w'.cell? ⟨w.heap.size + 1, 1, none⟩ = some (.int .i64 n2) := fun w' h => h.cell (by rw [hW1]; simp [go_sem])
  have j2 : ∀ w', Ext W1 w' → w'.cell? ⟨w.heap.size + 1, 2, none⟩ = some (.slice A2 l2 c2) := fun w' h => h.cell (by rw [hW1]; simp [go_sem])
  have hB : W1.heap[w.heap.size + 1 + 1]? = some (.cells zNode 35 (0, 0)) := by rw [hW1]; exact alloc3_2 _ _ _ _
  have hR1 := Ext.refl W1
  have HE1 := Lib.hid hE1
  have HB := Lib.hid hB
  have HD : Hid (w.heap.size ≤ w.heap.size + 1 + 1) := Lib.hid (by omega)
  have HX := Lib.hid (HX.out _ HD.out)
  have HS := Lib.hid (HS.out.but hE1 (lt_of_block hB))
  clear hW1 hE1 hB
  generalize w.heap.size + 1 + 1 = b3 at *
  by_cases ho : o1 = 0
  · have g0 : ((o1 : Int) == 0) = true := by rw [ho]; rfl
    have hz : z = .none := by rw [HZ.out, if_pos (.inl (HOX.out.1.1 ho))]
    clear ho
    go_wp2_with (with_reducible refine wpList_store_blk _ rfl 35 _ _ rfl b3 35 _ _ rfl rfl HB.out (by kernel_rfl) (by kernel_rfl) (by kernel_rfl) ?_; intro w8 h8 g8)
    refine bodyPost_ret (results_cell_row rfl _ _ b3 35 _ (0, 0) _ (by simp [Act.put]) h8 Tryd.underlying35 rfl (by kernel_rfl)) rfl ?_
    rw [hz]
    exact ⟨none, 0, rfl, nodeB_leaf _ _ _ 0 0 (by decide) _, Below.grown HE1.out g8 HE1.out.size (fun k hk => by cases hk; exact HD.out)⟩
  have g0 : ((o1 : Int) == 0) = false := beq_eq_false_iff_ne.2 (by omega)
  have HNX : Hid (x ≠ .none) := Lib.hid (fun h => ho (HOX.out.1.2 h))
  clear ho
  by_cases ho2 : o2 = 0
  · have g1 : ((o2 : Int) == 0) = true := by rw [ho2]; rfl
    have hz : z = .none := by rw [HZ.out, if_pos (.inr (HOX.out.2.1.1 ho2))]
    clear ho2
    go_wp2_with (with_reducible refine wpList_store_blk _ rfl 35 _ _ rfl b3 35 _ _ rfl rfl HB.out (by kernel_rfl) (by kernel_rfl) (by kernel_rfl) ?_; intro w8 h8 g8)
    refine bodyPost_ret (results_cell_row rfl _ _ b3 35 _ (0, 0) _ (by simp [Act.put]) h8 Tryd.underlying35 rfl (by kernel_rfl)) rfl ?_
    rw [hz]
    exact ⟨none, 0, rfl, nodeB_leaf _ _ _ 0 0 (by decide) _, Below.grown HE1.out g8 HE1.out.size (fun k hk => by cases hk; exact HD.out)⟩
  have g1 : ((o2 : Int) == 0) = false := beq_eq_false_iff_ne.2 (by omega)
  have HNN : Hid (¬ (x = .none ∨ y = .none)) := Lib.hid (fun h => h.elim HNX.out (fun h => ho2 (HOX.out.2.1.2 h)))
  clear ho2
  by_cases ho : o1 = 1
  · have g2 : ((o1 : Int) == 1) = true := by rw [ho]; rfl
    have hz : z = y := by rw [HZ.out, if_neg HNN.out, if_pos (HOX.out.2.2.1.1 ho)]
    clear ho
    go_wp2_with (with_reducible refine wpList_store_blk _ rfl 35 _ _ rfl b3 35 _ _ rfl rfl HB.out (by kernel_rfl) (by kernel_rfl) (by kernel_rfl) ?_; intro w8 h8 g8)
    refine bodyPost_ret (results_cell_row rfl _ _ b3 35 _ (0, 0) _ (by simp [Act.put]) h8 Tryd.underlying35 rfl (by kernel_rfl)) rfl ?_
    have hE8 : Ext w w8 := Below.grown (HE1.out.trans (Ext.refl _)) g8 (HE1.out.trans (Ext.refl _)).size (fun k hk => by cases hk; exact HD.out)
    have hn := (HX.out.2.ext (HE1.out.trans (Ext.refl _))).past g8
    obtain ⟨A', c', hv⟩ := hn.val
    rw [hz]
    exact ⟨A', c', by rw [← hv], by rw [← hv]; exact hn, hE8⟩
  have g2 : ((o1 : Int) == 1) = false := beq_eq_false_iff_ne.2 (by omega)
  have HNX : Hid (x ≠ .empty) := Lib.hid (fun h => ho (HOX.out.2.2.1.2 h))
  clear ho
  by_cases ho2 : o2 = 1
  · have g3 : ((o2 : Int) == 1) = true := by rw [ho2]; rfl
    have hz : z = x := by rw [HZ.out, if_neg HNN.out, if_neg HNX.out, if_pos (HOX.out.2.2.2.1 ho2)]
    clear ho2
    go_wp2_with (with_reducible refine wpList_store_blk _ rfl 35 _ _ rfl b3 35 _ _ rfl rfl HB.out (by kernel_rfl) (by kernel_rfl) (by kernel_rfl) ?_; intro w8 h8 g8)
    refine bodyPost_ret (results_cell_row rfl _ _ b3 35 _ (0, 0) _ (by simp [Act.put]) h8 Tryd.underlying35 rfl (by kernel_rfl)) rfl ?_
    have hE8 : Ext w w8 := Below.grown (HE1.out.trans (Ext.refl _)) g8 (HE1.out.trans (Ext.refl _)).size (fun k hk => by cases hk; exact HD.out)
    have hn := (HX.out.1.ext (HE1.out.trans (Ext.refl _))).past g8
    obtain ⟨A', c', hv⟩ := hn.val
    rw [hz]
    exact ⟨A', c', by rw [← hv], by rw [← hv]; exact hn, hE8⟩
  have g3 : ((o2 : Int) == 1) = false := beq_eq_false_iff_ne.2 (by omega)
  have hz : z = .seq x y := by rw [HZ.out, if_neg HNN.out, if_neg HNX.out, if_neg (fun h => ho2 (HOX.out.2.2.2.2 h))]
  clear ho2
  have htw := HTW.out W1 HE1.out _ HS.out HX.out.1 HX.out.2
  go_wp2_with (first | ((with_reducible refine htw.mono ?_); rintro e W6 ⟨A6, c6, rfl, h6, e6⟩) | (with_reducible refine wpList_store_blk _ rfl 35 _ _ rfl b3 35 _ _ rfl rfl (heap_ext e6 HB.out) (by kernel_rfl) (by kernel_rfl) (by kernel_rfl) ?_; intro w8 h8 g8))
  refine bodyPost_ret (results_cell_row rfl _ _ b3 35 _ (0, 0) _ (by simp [Act.put]) h8 Tryd.underlying35 rfl (by kernel_rfl)) rfl ?_
  rw [hz]
  exact ⟨A6, c6, rfl, h6.past g8, Below.grown (HE1.out.trans e6) g8 (HE1.out.trans e6).size (fun k hk => by cases hk; exact HD.out)⟩
end Go.Proofs.YtmebgomnmlbgnaaDoor

namespace Go.Proofs.YtmebgomnmlbgnaaDoor
open Go.RowKit Go.Maps
set_option linter.unusedVariables false
set_option linter.unusedSimpArgs false
attribute [local go_sem] Oper.quietV quietV Oper.gives givesV ext_refl_iff ext_alloc_iff ext_drew_iff ext_drewN_iff
theorem op_not {x : Rx} : x.tr.op = 7 ↔ ∃ y, x = .not y := by cases x <;> simp [Rx.tr, Tr.op]
set_option maxRecDepth 100000 in
set_option maxHeartbeats 4000000 in
theorem not_any {S : Nat → Prop} {x : Rx} {w : World} {A1 : Option Addr} {c1 : Nat} (hS : New S w) (h1 : NodeB S false w x.tr (ndV x.tr A1 c1)) : Calls Tryd.prog 83 #[ndV x.tr A1 c1] w (NodeQ S false w (notR x).tr) := by
  obtain ⟨z, hz⟩ : ∃ z, z = notR x := ⟨_, rfl⟩
  rw [← hz]
  have HX := Lib.hid (fun b (hb : w.heap.size ≤ b) => h1.but hb)
  have HS := Lib.hid hS
  have HZ := Lib.hid hz
  have hon := fun w' (e : Ext w w') S' (hS' : New S' w') (a : NodeB S' false w x.tr (ndV x.tr A1 c1)) => one7 hS' (a.ext e)
  unfold MadeQ at hon
  by_cases hop : x.tr.op = 7
  · obtain ⟨y, rfl⟩ := op_not.1 hop
    obtain ⟨b, o, c, A2, c2, hv, d0, d1, d2, hn2⟩ := h1.sub (i := 0) (s := y.tr) rfl
    have hv : (some ⟨b, o, none⟩ : Option Addr) = A1 ∧ c = c1 := by
      have h9 := congrArg (fun v => match v with | Value.agg cs => cs[2]? | _ => none) hv
      simp [ndV] at h9
      exact ⟨h9.1.symm, h9.2.symm⟩
    obtain ⟨rfl, rfl⟩ := hv
    have d0 : w.cell? ⟨b, o, none⟩ = some (.int .u8 (y.tr.op : Int)) := by simpa using d0
    have d1 : w.cell? ⟨b, o + 1, none⟩ = some (.int .i64 y.tr.n) := by simpa using d1
    have d2 : w.cell? ⟨b, o + 2, none⟩ = some (.slice A2 y.tr.subs.length c2) := by simpa using d2
    have HY := Lib.hid (fun b (hb : w.heap.size ≤ b) => hn2.but hb)
    have hz : z = y := hz
    have HZ := Lib.hid hz
    clear hz h1 hn2 hon HX
    show Calls Tryd.prog 83 #[.agg #[.int .u8 7, .int .i64 0, .slice (some ⟨b, o, none⟩) 1 c]] w _
    unfold ndV at HY
    generalize y.tr.op = o1 at *
    generalize y.tr.n = n1 at *
    generalize y.tr.subs.length = l1 at *
    go_enter Tryd.func83, Tryd.ntmps83
    go_upto_region 1 with fail
    refine wp_named ?_
    intro W1 hW1
    have hE1 : Ext w W1 := by rw [hW1]; exact (alloc_ext _ _).trans (alloc_ext _ _)
    have k0 : ∀ w', Ext W1 w' → w'.cell? ⟨w.heap.size, 0, none⟩ = some (.int .u8 7) := fun w' h => h.cell (by rw [hW1]; simp [go_sem])
    have k2 : ∀ w', Ext W1 w' → w'.cell? ⟨w.heap.size, 2, none⟩ = some (.slice (some ⟨b, o, none⟩) 1 c) := fun w' h => h.cell (by rw [hW1]; simp [go_sem])
    have hB : W1.heap[w.heap.size + 1]? = some (.cells zNode 35 (0, 0)) := by rw [hW1]; exact alloc2_1 _ _ _
    have d0 := fun w1 (h : Ext W1 w1) => (hE1.trans h).cell d0
    have d1 := fun w1 (h : Ext W1 w1) => (hE1.trans h).cell d1
    have d2 := fun w1 (h : Ext W1 w1) => (hE1.trans h).cell d2
    have hR1 := Ext.refl W1
    have HE1 := Lib.hid hE1
    have HB := Lib.hid hB
    have HD : Hid (w.heap.size ≤ w.heap.size + 1) := Lib.hid (by omega)
    have HY := Lib.hid (HY.out _ HD.out)
    clear hW1 hE1 hB
    generalize w.heap.size + 1 = b3 at *
    go_wp2_with (with_reducible refine wpList_store_blk _ rfl 35 _ _ rfl b3 35 _ _ rfl rfl HB.out (by kernel_rfl) (by kernel_rfl) (by kernel_rfl) ?_; intro w8 h8 g8)
    refine bodyPost_ret (results_cell_row rfl _ _ b3 35 _ (0, 0) _ (by simp [Act.put]) h8 Tryd.underlying35 rfl (by kernel_rfl)) rfl ?_
    have hE8 : Ext w w8 := Below.grown HE1.out g8 HE1.out.size (fun k hk => by cases hk; exact HD.out)
    have hn := (HY.out.ext HE1.out).past g8
    obtain ⟨A', c', hv⟩ := hn.val
    rw [HZ.out]
    exact ⟨A', c', by rw [← hv], by rw [← hv]; exact hn, hE8⟩
  have hz : z = .not x := by
    rw [hz]
    cases x <;> first | rfl | exact absurd rfl hop
  have g0 : ((x.tr.op : Int) == 7) = false := beq_eq_false_iff_ne.2 (by omega)
  have HZ := Lib.hid hz
  unfold ndV at hon HX ⊢
  generalize x.tr.op = o1 at *
  generalize x.tr.n = n1 at *
  generalize x.tr.subs.length = l1 at *
  have HON := Lib.hid hon
  clear hz h1 hon hS hop
  go_enter Tryd.func83, Tryd.ntmps83
  go_upto_region 1 with fail
  refine wp_named ?_
  intro W1 hW1
  have hE1 : Ext w W1 := by rw [hW1]; exact (alloc_ext _ _).trans (alloc_ext _ _)
  have k0 : ∀ w', Ext W1 w' → w'.cell? ⟨w.heap.size, 0, none⟩ = some (.int .u8 (o1 : Int)) := fun w' h => h.cell (by rw [hW1]; simp [go_sem])
  have k1 : ∀ w', Ext W1 w' → w'.cell? ⟨w.heap.size, 1, none⟩ = some (.int .i64 n1) := fun w' h => h.cell (by rw [hW1]; simp [go_sem])
  have k2 : ∀ w', Ext W1 w' → w'.cell? ⟨w.heap.size, 2, none⟩ = some (.slice A1 l1 c1) := fun w' h => h.cell (by rw [hW1]; simp [go_sem])
  have hB : W1.heap[w.heap.size + 1]? = some (.cells zNode 35 (0, 0)) := by rw [hW1]; exact alloc2_1 _ _ _
  have hR1 := Ext.refl W1
  have HE1 := Lib.hid hE1
  have HB := Lib.hid hB
  have HD : Hid (w.heap.size ≤ w.heap.size + 1) := Lib.hid (by omega)
  have htw := HON.out W1 hE1 _ (HS.out.but hE1 (lt_of_block hB)) (HX.out _ HD.out)
  clear hW1 hE1 hB
  generalize w.heap.size + 1 = b3 at *
  go_wp2_with (first | ((with_reducible refine htw.mono ?_); rintro e W6 ⟨A6, c6, rfl, h6, e6⟩) | (with_reducible refine wpList_store_blk _ rfl 35 _ _ rfl b3 35 _ _ rfl rfl (heap_ext e6 HB.out) (by kernel_rfl) (by kernel_rfl) (by kernel_rfl) ?_; intro w8 h8 g8))
  refine bodyPost_ret (results_cell_row rfl _ _ b3 35 _ (0, 0) _ (by simp [Act.put]) h8 Tryd.underlying35 rfl (by kernel_rfl)) rfl ?_
  rw [HZ.out]
  exact ⟨A6, c6, rfl, h6.past g8, Below.grown (HE1.out.trans e6) g8 (HE1.out.trans e6).size (fun k hk => by cases hk; exact HD.out)⟩
end Go.Proofs.YtmebgomnmlbgnaaDoor
