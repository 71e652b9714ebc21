
import Derived.Test.YtmebgomnmlbgnaaDoorZE
set_option linter.unnecessarySimpa false
set_option linter.unusedSectionVars false
namespace Go.Proofs.YtmebgomnmlbgnaaDoor
open Go.RowKit Go.Maps
set_option linter.unusedVariables false
set_option linter.unusedSimpArgs false
attribute [local go_sem] Oper.quietV quietV Oper.gives givesV ext_refl_iff ext_alloc_iff ext_drew_iff ext_drewN_iff
attribute [local go_sem] RI.Oper.gives RI.givesV
def derR (a : Int) : Rx → Rx
  | .none => .none | .empty => .none
  | .sym b => if (b : Int) = a then .empty else .none
  | .or x y => orR (derR a x) (derR a y)
  | .and x y => andR (derR a x) (derR a y)
  | .not x => notR (derR a x)
  | .star x => seqR (derR a x) (.star x)
  | .seq x y => if nulR x = true then orR (seqR (derR a x) y) (derR a y) else seqR (derR a x) y
def NdF (S : Nat → Prop) (t : Tr) (v : Value) (w : World) : Prop := ∃ A c, v = .agg #[.int .u8 (t.op : Int), .int .i64 t.n, .slice A t.subs.length c] ∧ NodeB S false w t (.agg #[.int .u8 (t.op : Int), .int .i64 t.n, .slice A t.subs.length c])
theorem stays_ndF (S : Nat → Prop) (t : Tr) : Stays Ext (NdF S t) := fun v w w' e ⟨A, c, h1, h2⟩ => ⟨A, c, h1, h2.ext e⟩
def DerS (a : Int) (r : Rx) : Prop := ∀ (S : Nat → Prop) (w : World) (A : Option Addr) (c : Nat), New S w → NodeB S false w r.tr (ndV r.tr A c) → Calls Tryd.prog 48 #[ndV r.tr A c, .int .i64 a] w (NodeQ S false w (derR a r).tr)
set_option maxRecDepth 100000 in
set_option maxHeartbeats 4000000 in
theorem der_none (a : Int) : DerS a .none := by
  intro S w A c hS hN
  show Calls Tryd.prog 48 #[.agg #[.int .u8 0, .int .i64 0, .slice A 0 c], .int .i64 a] w _
  go_enter Tryd.func48, Tryd.ntmps48
  go_upto_region 1 with fail
  refine wp_named ?_
  intro W1 hW1
  have hE1 : Ext w W1 := by rw [hW1]; exact (alloc_ext _ _).trans (alloc_ext _ _)
  have k0 : ∀ w', Ext W1 w' → w'.cell? ⟨w.heap.size, 0, none⟩ = some (.int .u8 0) := fun w' h => h.cell (by rw [hW1]; simp [go_sem])
  have k1 : ∀ w', Ext W1 w' → w'.cell? ⟨w.heap.size, 1, none⟩ = some (.int .i64 0) := fun w' h => h.cell (by rw [hW1]; simp [go_sem])
  have k2 : ∀ w', Ext W1 w' → w'.cell? ⟨w.heap.size, 2, none⟩ = some (.slice A 0 c) := fun w' h => h.cell (by rw [hW1]; simp [go_sem])
  have hB : W1.heap[w.heap.size + 1]? = some (.cells zNode 35 (0, 0)) := by rw [hW1]; exact alloc2_1 _ _ _
  have hR1 := Ext.refl W1
  have HE1 := Lib.hid hE1
  have HB := Lib.hid hB
  have HD : Hid (w.heap.size ≤ w.heap.size + 1) := Lib.hid (by omega)
  have HS := Lib.hid (hS.but hE1 (lt_of_block hB))
  clear hW1 hE1 hB hS
  generalize w.heap.size + 1 = b3 at *
  go_wp2_with (with_reducible refine wpList_store_blk _ rfl 35 _ _ rfl b3 35 _ _ rfl rfl HB.out (by kernel_rfl) (by kernel_rfl) (by kernel_rfl) ?_; intro w8 h8 g8)
  refine bodyPost_ret (results_cell_row rfl _ _ b3 35 _ (0, 0) _ (by simp [Act.put]) h8 Tryd.underlying35 rfl (by kernel_rfl)) rfl ?_
  exact ⟨none, 0, by first | rfl | (rw [HZ.out]; rfl), by first | exact nodeB_leaf _ _ _ 0 0 (by decide) _ | (rw [HZ.out]; exact nodeB_leaf _ _ _ 0 0 (by decide) _), Below.grown HE1.out g8 HE1.out.size (fun k hk => by cases hk; exact HD.out)⟩
set_option maxRecDepth 100000 in
set_option maxHeartbeats 4000000 in
theorem der_empty (a : Int) : DerS a .empty := by
  intro S w A c hS hN
  show Calls Tryd.prog 48 #[.agg #[.int .u8 1, .int .i64 0, .slice A 0 c], .int .i64 a] w _
  go_enter Tryd.func48, Tryd.ntmps48
  go_upto_region 1 with fail
  refine wp_named ?_
  intro W1 hW1
  have hE1 : Ext w W1 := by rw [hW1]; exact (alloc_ext _ _).trans (alloc_ext _ _)
  have k0 : ∀ w', Ext W1 w' → w'.cell? ⟨w.heap.size, 0, none⟩ = some (.int .u8 1) := fun w' h => h.cell (by rw [hW1]; simp [go_sem])
  have k1 : ∀ w', Ext W1 w' → w'.cell? ⟨w.heap.size, 1, none⟩ = some (.int .i64 0) := fun w' h => h.cell (by rw [hW1]; simp [go_sem])
  have k2 : ∀ w', Ext W1 w' → w'.cell? ⟨w.heap.size, 2, none⟩ = some (.slice A 0 c) := fun w' h => h.cell (by rw [hW1]; simp [go_sem])
  have hB : W1.heap[w.heap.size + 1]? = some (.cells zNode 35 (0, 0)) := by rw [hW1]; exact alloc2_1 _ _ _
  have hR1 := Ext.refl W1
  have HE1 := Lib.hid hE1
  have HB := Lib.hid hB
  have HD : Hid (w.heap.size ≤ w.heap.size + 1) := Lib.hid (by omega)
  have HS := Lib.hid (hS.but hE1 (lt_of_block hB))
  clear hW1 hE1 hB hS
  generalize w.heap.size + 1 = b3 at *
  go_wp2_with (with_reducible refine wpList_store_blk _ rfl 35 _ _ rfl b3 35 _ _ rfl rfl HB.out (by kernel_rfl) (by kernel_rfl) (by kernel_rfl) ?_; intro w8 h8 g8)
  refine bodyPost_ret (results_cell_row rfl _ _ b3 35 _ (0, 0) _ (by simp [Act.put]) h8 Tryd.underlying35 rfl (by kernel_rfl)) rfl ?_
  exact ⟨none, 0, by first | rfl | (rw [HZ.out]; rfl), by first | exact nodeB_leaf _ _ _ 0 0 (by decide) _ | (rw [HZ.out]; exact nodeB_leaf _ _ _ 0 0 (by decide) _), Below.grown HE1.out g8 HE1.out.size (fun k hk => by cases hk; exact HD.out)⟩
set_option maxRecDepth 100000 in
set_option maxHeartbeats 4000000 in
theorem der_sym (a : Int) (s : Nat) : DerS a (.sym s) := by
  intro S w A c hS hN
  show Calls Tryd.prog 48 #[.agg #[.int .u8 2, .int .i64 (s : Int), .slice A 0 c], .int .i64 a] w _
  obtain ⟨z, hz⟩ : ∃ z, z = derR a (.sym s) := ⟨_, rfl⟩
  rw [← hz]
  unfold derR at hz
  by_cases hsa : (s : Int) = a
  · have g0 : ((s : Int) == a) = true := beq_iff_eq.2 hsa
    have HZ : Hid (z = .empty) := Lib.hid (by rw [hz, if_pos hsa])
    clear hsa hz hN
    go_enter Tryd.func48, Tryd.ntmps48
    go_upto_region 1 with fail
    refine wp_named ?_
    intro W1 hW1
    have hE1 : Ext w W1 := by rw [hW1]; exact (alloc_ext _ _).trans (alloc_ext _ _)
    have k0 : ∀ w', Ext W1 w' → w'.cell? ⟨w.heap.size, 0, none⟩ = some (.int .u8 2) := fun w' h => h.cell (by rw [hW1]; simp [go_sem])
    have k1 : ∀ w', Ext W1 w' → w'.cell? ⟨w.heap.size, 1, none⟩ = some (.int .i64 (s : Int)) := fun w' h => h.cell (by rw [hW1]; simp [go_sem])
    have k2 : ∀ w', Ext W1 w' → w'.cell? ⟨w.heap.size, 2, none⟩ = some (.slice A 0 c) := fun w' h => h.cell (by rw [hW1]; simp [go_sem])
    have hB : W1.heap[w.heap.size + 1]? = some (.cells zNode 35 (0, 0)) := by rw [hW1]; exact alloc2_1 _ _ _
    have hR1 := Ext.refl W1
    have HE1 := Lib.hid hE1
    have HB := Lib.hid hB
    have HD : Hid (w.heap.size ≤ w.heap.size + 1) := Lib.hid (by omega)
    have HS := Lib.hid (hS.but hE1 (lt_of_block hB))
    clear hW1 hE1 hB hS
    generalize w.heap.size + 1 = b3 at *
    go_wp2_with (with_reducible refine wpList_store_blk _ rfl 35 _ _ rfl b3 35 _ _ rfl rfl HB.out (by kernel_rfl) (by kernel_rfl) (by kernel_rfl) ?_; intro w8 h8 g8)
    refine bodyPost_ret (results_cell_row rfl _ _ b3 35 _ (0, 0) _ (by simp [Act.put]) h8 Tryd.underlying35 rfl (by kernel_rfl)) rfl ?_
    exact ⟨none, 0, by first | rfl | (rw [HZ.out]; rfl), by first | exact nodeB_leaf _ _ _ 1 0 (by decide) _ | (rw [HZ.out]; exact nodeB_leaf _ _ _ 1 0 (by decide) _), Below.grown HE1.out g8 HE1.out.size (fun k hk => by cases hk; exact HD.out)⟩
  · have g0 : ((s : Int) == a) = false := beq_eq_false_iff_ne.2 hsa
    have HZ : Hid (z = .none) := Lib.hid (by rw [hz, if_neg hsa])
    clear hsa hz hN
    go_enter Tryd.func48, Tryd.ntmps48
    go_upto_region 1 with fail
    refine wp_named ?_
    intro W1 hW1
    have hE1 : Ext w W1 := by rw [hW1]; exact (alloc_ext _ _).trans (alloc_ext _ _)
    have k0 : ∀ w', Ext W1 w' → w'.cell? ⟨w.heap.size, 0, none⟩ = some (.int .u8 2) := fun w' h => h.cell (by rw [hW1]; simp [go_sem])
    have k1 : ∀ w', Ext W1 w' → w'.cell? ⟨w.heap.size, 1, none⟩ = some (.int .i64 (s : Int)) := fun w' h => h.cell (by rw [hW1]; simp [go_sem])
    have k2 : ∀ w', Ext W1 w' → w'.cell? ⟨w.heap.size, 2, none⟩ = some (.slice A 0 c) := fun w' h => h.cell (by rw [hW1]; simp [go_sem])
    have hB : W1.heap[w.heap.size + 1]? = some (.cells zNode 35 (0, 0)) := by rw [hW1]; exact alloc2_1 _ _ _
    have hR1 := Ext.refl W1
    have HE1 := Lib.hid hE1
    have HB := Lib.hid hB
    have HD : Hid (w.heap.size ≤ w.heap.size + 1) := Lib.hid (by omega)
    have HS := Lib.hid (hS.but hE1 (lt_of_block hB))
    clear hW1 hE1 hB hS
    generalize w.heap.size + 1 = b3 at *
    go_wp2_with (with_reducible refine wpList_store_blk _ rfl 35 _ _ rfl b3 35 _ _ rfl rfl HB.out (by kernel_rfl) (by kernel_rfl) (by kernel_rfl) ?_; intro w8 h8 g8)
    refine bodyPost_ret (results_cell_row rfl _ _ b3 35 _ (0, 0) _ (by simp [Act.put]) h8 Tryd.underlying35 rfl (by kernel_rfl)) rfl ?_
    exact ⟨none, 0, by first | rfl | (rw [HZ.out]; rfl), by first | exact nodeB_leaf _ _ _ 0 0 (by decide) _ | (rw [HZ.out]; exact nodeB_leaf _ _ _ 0 0 (by decide) _), Below.grown HE1.out g8 HE1.out.size (fun k hk => by cases hk; exact HD.out)⟩
set_option maxRecDepth 100000 in
set_option maxHeartbeats 16000000 in
theorem der_or (a : Int) (x y : Rx) (hx : DerS a x) (hy : DerS a y) : DerS a (.or x y) := by
  intro S w A c hS hN
  obtain ⟨b, o, c', A1, c1, hv, d0, d1, d2, hn1⟩ := hN.sub (i := 0) (s := x.tr) rfl
  obtain ⟨b', o', c'', A2, c2, hv', d3, d4, d5, hn2⟩ := hN.sub (i := 1) (s := y.tr) rfl
  have hv0 : A = some ⟨b, o, none⟩ := by
    have h9 := congrArg (fun v => match v with | Value.agg cs => cs[2]? | _ => none) hv
    simp [ndV] at h9; exact h9.1
  have hv1 : A = some ⟨b', o', none⟩ := by
    have h9 := congrArg (fun v => match v with | Value.agg cs => cs[2]? | _ => none) hv'
    simp [ndV] at h9; exact h9.1
  rw [hv0] at hv1
  cases hv1
  subst hv0
  have d0 : w.cell? ⟨b, o, none⟩ = some (.int .u8 (x.tr.op : Int)) := by simpa using d0
  have d1 : w.cell? ⟨b, o + 1, none⟩ = some (.int .i64 x.tr.n) := by simpa using d1
  have d2 : w.cell? ⟨b, o + 2, none⟩ = some (.slice A1 x.tr.subs.length c1) := by simpa using d2
  have d3 : w.cell? ⟨b, o + 3, none⟩ = some (.int .u8 (y.tr.op : Int)) := by simpa using d3
  have d4 : w.cell? ⟨b, o + 3 + 1, none⟩ = some (.int .i64 y.tr.n) := by simpa using d4
  have d5 : w.cell? ⟨b, o + 3 + 2, none⟩ = some (.slice A2 y.tr.subs.length c2) := by simpa using d5
  have HX := Lib.hid (fun b (hb : w.heap.size ≤ b) => And.intro (hn1.but hb) (hn2.but hb))
  have h1 := fun w' (e : Ext w w') S' (hS' : New S' w') (q : NodeB S' false w x.tr (ndV x.tr A1 c1)) => hx S' w' A1 c1 hS' (q.ext e)
  have h2 := fun w' (e : Ext w w') S' (hS' : New S' w') (q : NodeB S' false w y.tr (ndV y.tr A2 c2)) => hy S' w' A2 c2 hS' (q.ext e)
  show Calls Tryd.prog 48 #[.agg #[.int .u8 3, .int .i64 0, .slice (some ⟨b, o, none⟩) 2 c], .int .i64 a] w _
  go_enter Tryd.func48, Tryd.ntmps48
  go_upto_region 1 with fail
  refine wp_named ?_
  intro W1 hW1
  have hE1 : Ext w W1 := by rw [hW1]; exact (alloc_ext _ _).trans (alloc_ext _ _)
  have k0 : ∀ w', Ext W1 w' → w'.cell? ⟨w.heap.size, 0, none⟩ = some (.int .u8 3) := fun w' h => h.cell (by rw [hW1]; simp [go_sem])
  have k1 : ∀ w', Ext W1 w' → w'.cell? ⟨w.heap.size, 1, none⟩ = some (.int .i64 0) := fun w' h => h.cell (by rw [hW1]; simp [go_sem])
  have k2 : ∀ w', Ext W1 w' → w'.cell? ⟨w.heap.size, 2, none⟩ = some (.slice (some ⟨b, o, none⟩) 2 c) := fun w' h => h.cell (by rw [hW1]; simp [go_sem])
  have hB : W1.heap[w.heap.size + 1]? = some (.cells zNode 35 (0, 0)) := by rw [hW1]; exact alloc2_1 _ _ _
  have hR1 := Ext.refl W1
  have HE1 := Lib.hid hE1
  have HB := Lib.hid hB
  have HD : Hid (w.heap.size ≤ w.heap.size + 1) := Lib.hid (by omega)
  have HS := Lib.hid (hS.but hE1 (lt_of_block hB))
  have HX := Lib.hid (HX.out _ HD.out)
  clear hW1 hB hS hN hv hv' hn1 hn2 hx hy
  have d0 := fun w1 (h : Ext W1 w1) => (hE1.trans h).cell d0
  have d1 := fun w1 (h : Ext W1 w1) => (hE1.trans h).cell d1
  have d2 := fun w1 (h : Ext W1 w1) => (hE1.trans h).cell d2
  have d3 := fun w1 (h : Ext W1 w1) => (hE1.trans h).cell d3
  have d4 := fun w1 (h : Ext W1 w1) => (hE1.trans h).cell d4
  have d5 := fun w1 (h : Ext W1 w1) => (hE1.trans h).cell d5
  clear hE1
  generalize w.heap.size + 1 = b3 at *
  obtain ⟨dx, hdx⟩ : ∃ d, d = derR a x := ⟨_, rfl⟩
  obtain ⟨dy, hdy⟩ : ∃ d, d = derR a y := ⟨_, rfl⟩
  have HZ : Hid (derR a (.or x y) = orR dx dy) := Lib.hid (by rw [hdx, hdy]; rfl)
  rw [← hdx] at h1
  rw [← hdy] at h2
  unfold NodeQ ndV at h1 h2
  unfold ndV at HX
  have H1 := Lib.hid h1
  have H2 := Lib.hid h2
  clear h1 h2 hdx hdy
  generalize x.tr.op = ox at *
  generalize x.tr.n = nx at *
  generalize x.tr.subs.length = lx at *
  generalize y.tr.op = oy at *
  generalize y.tr.n = ny at *
  generalize y.tr.subs.length = ly at *
  go_upto_region 6 with fail
  refine wp_region_ext 11 (factsOf [(5, NdF (butS S b3) dx.tr)]) (fun k => ([[], [0], [0, 1], [0, 1, 2], [], [0, 1, 2, 3, 4], [], [6], [6, 7], [6, 7, 8], [], [0, 1, 2, 3, 4, 5, 6, 7, 8, 9, 10], [0, 1, 2, 3, 4, 5, 6, 7, 8, 9, 10, 11], [0, 1, 2, 3, 4, 5, 6, 7, 8, 9, 10, 11, 12]] : List (List Nat)).getD k []) (by kernel_rfl) (by kernel_rfl) Ext.pre (mono_cons (stays_ndF _ _) (mono_nil)) ?_
  simp only [List.take_succ_cons, List.take_zero]
  repeat (first | (with_reducible refine lexL_quiet' (v := ?_) ?_ ?_ ?_ ?_; rotate_left; (· with_reducible rfl); (· simp [factsOf]); (· intro w1 hw1 _; go_simp; with_reducible rfl); (try simp only [Act.put, List.setIfInBounds_toArray, List.set_cons_zero, List.set_cons_succ])) | (with_reducible refine lexL_skip ?_ ?_; (· simp [Region.wanted, yielded, undef]); (try simp only [Act.put, List.setIfInBounds_toArray, List.set_cons_zero, List.set_cons_succ])) | (with_reducible refine lexL_quiet (v := ?_) ?_ ?_ ?_ ?_; rotate_left; (· simp [Region.wanted, yielded, undef]); (· simp [factsOf]); (· intro w1 hw1 _; go_simp; with_reducible rfl); (try simp only [Act.put, List.setIfInBounds_toArray, List.set_cons_zero, List.set_cons_succ])))
  with_reducible refine lexL_give' (φ := ?_) ?_ ?_ ?_ ?_; rotate_left; (· with_reducible rfl); (· simp only [factsOf, Nat.reduceAdd, ↓reduceIte, Nat.reduceEqDiff]; rfl)
  · intro w5 hw5 _
    go_simp
    refine (H1.out w5 (HE1.out.trans hw5) _ (HS.out.ext hw5) HX.out.1).mono ?_
    rintro e w6 ⟨A, c, rfl, h6, e6⟩
    exact ⟨_, rfl, e6, A, c, rfl, h6⟩
  rintro v5 w5 hw5 ⟨A5, c5, rfl, h5⟩ hk2
  clear hk2 hw5 h5 w5
  (try simp only [Act.put, List.setIfInBounds_toArray, List.set_cons_zero, List.set_cons_succ])
  repeat (first | (with_reducible refine lexL_quiet' (v := ?_) ?_ ?_ ?_ ?_; rotate_left; (· with_reducible rfl); (· simp [factsOf]); (· intro w1 hw1 _; go_simp; with_reducible rfl); (try simp only [Act.put, List.setIfInBounds_toArray, List.set_cons_zero, List.set_cons_succ])) | (with_reducible refine lexL_skip ?_ ?_; (· simp [Region.wanted, yielded, undef]); (try simp only [Act.put, List.setIfInBounds_toArray, List.set_cons_zero, List.set_cons_succ])) | (with_reducible refine lexL_quiet (v := ?_) ?_ ?_ ?_ ?_; rotate_left; (· simp [Region.wanted, yielded, undef]); (· simp [factsOf]); (· intro w1 hw1 _; go_simp; with_reducible rfl); (try simp only [Act.put, List.setIfInBounds_toArray, List.set_cons_zero, List.set_cons_succ])))
  with_reducible refine lexL_nil ?_; intro w1 hw1 hk1; simp only [List.drop_succ_cons, List.drop_zero]
  obtain ⟨A', c', hv5, h5⟩ := hk1.get 5 rfl rfl
  have hor := fun w' (e : Ext w1 w') A11 c11 (h11 : NodeB (butS S b3) false w' dy.tr (.agg #[.int .u8 (dy.tr.op : Int), .int .i64 dy.tr.n, .slice A11 dy.tr.subs.length c11])) => (show Calls Tryd.prog 81 #[.agg #[.int .u8 (dx.tr.op : Int), .int .i64 dx.tr.n, .slice A5 dx.tr.subs.length c5], .agg #[.int .u8 (dy.tr.op : Int), .int .i64 dy.tr.n, .slice A11 dy.tr.subs.length c11]] w' (NodeQ (butS S b3) false w' (orR dx dy).tr) from or_any (HS.out.ext (hw1.trans e)) (by rw [← hv5] at h5; exact h5.ext e) h11)
  unfold NodeQ ndV at hor
  have HW1 := Lib.hid hw1
  have HOR := Lib.hid hor
  have h2 := H2.out w1 (HE1.out.trans hw1) _ (HS.out.ext hw1) HX.out.2
  clear hk1 hw1 h5 hv5 hor
  generalize hz : (orR dx dy).tr = z at *
  have HZ := Lib.hid (HZ.out ▸ hz : (derR a (.or x y)).tr = z)
  clear hz
  go_wp2_with (first | ((with_reducible refine h2.mono ?_); rintro e W5 ⟨A11, c11, rfl, h11, e5⟩; have hor := HOR.out W5 e5 A11 c11 h11) | ((with_reducible refine hor.mono ?_); rintro e W6 ⟨A6, c6, rfl, h6, e6⟩) | (with_reducible refine wpList_store_blk _ rfl 35 _ _ rfl b3 35 _ _ rfl rfl (heap_ext ((HW1.out.trans e5).trans e6) HB.out) (by kernel_rfl) (by kernel_rfl) (by kernel_rfl) ?_; intro w8 h8 g8))
  refine bodyPost_ret (results_cell_row rfl _ _ b3 35 _ (0, 0) _ (by simp [Act.put]) h8 Tryd.underlying35 rfl (by kernel_rfl)) rfl ?_
  rw [HZ.out]
  have hE6 := (HE1.out.trans (HW1.out.trans e5)).trans e6
  exact ⟨A6, c6, rfl, h6.past g8, Below.grown hE6 g8 hE6.size (fun k hk => by cases hk; exact HD.out)⟩
set_option maxRecDepth 100000 in
set_option maxHeartbeats 16000000 in
theorem der_and (a : Int) (x y : Rx) (hx : DerS a x) (hy : DerS a y) : DerS a (.and x y) := by
  intro S w A c hS hN
  obtain ⟨b, o, c', A1, c1, hv, d0, d1, d2, hn1⟩ := hN.sub (i := 0) (s := x.tr) rfl
  obtain ⟨b', o', c'', A2, c2, hv', d3, d4, d5, hn2⟩ := hN.sub (i := 1) (s := y.tr) rfl
  have hv0 : A = some ⟨b, o, none⟩ := by
    have h9 := congrArg (fun v => match v with | Value.agg cs => cs[2]? | _ => none) hv
    simp [ndV] at h9; exact h9.1
  have hv1 : A = some ⟨b', o', none⟩ := by
    have h9 := congrArg (fun v => match v with | Value.agg cs => cs[2]? | _ => none) hv'
    simp [ndV] at h9; exact h9.1
  rw [hv0] at hv1
  cases hv1
  subst hv0
  have d0 : w.cell? ⟨b, o, none⟩ = some (.int .u8 (x.tr.op : Int)) := by simpa using d0
  have d1 : w.cell? ⟨b, o + 1, none⟩ = some (.int .i64 x.tr.n) := by simpa using d1
  have d2 : w.cell? ⟨b, o + 2, none⟩ = some (.slice A1 x.tr.subs.length c1) := by simpa using d2
  have d3 : w.cell? ⟨b, o + 3, none⟩ = some (.int .u8 (y.tr.op : Int)) := by simpa using d3
  have d4 : w.cell? ⟨b, o + 3 + 1, none⟩ = some (.int .i64 y.tr.n) := by simpa using d4
  have d5 : w.cell? ⟨b, o + 3 + 2, none⟩ = some (.slice A2 y.tr.subs.length c2) := by simpa using d5
  have HX := Lib.hid (fun b (hb : w.heap.size ≤ b) => And.intro (hn1.but hb) (hn2.but hb))
  have h1 := fun w' (e : Ext w w') S' (hS' : New S' w') (q : NodeB S' false w x.tr (ndV x.tr A1 c1)) => hx S' w' A1 c1 hS' (q.ext e)
  have h2 := fun w' (e : Ext w w') S' (hS' : New S' w') (q : NodeB S' false w y.tr (ndV y.tr A2 c2)) => hy S' w' A2 c2 hS' (q.ext e)
  show Calls Tryd.prog 48 #[.agg #[.int .u8 5, .int .i64 0, .slice (some ⟨b, o, none⟩) 2 c], .int .i64 a] w _
  go_enter Tryd.func48, Tryd.ntmps48
  go_upto_region 1 with fail
  refine wp_named ?_
  intro W1 hW1
  have hE1 : Ext w W1 := by rw [hW1]; exact (alloc_ext _ _).trans (alloc_ext _ _)
  have k0 : ∀ w', Ext W1 w' → w'.cell? ⟨w.heap.size, 0, none⟩ = some (.int .u8 5) := fun w' h => h.cell (by rw [hW1]; simp [go_sem])
  have k1 : ∀ w', Ext W1 w' → w'.cell? ⟨w.heap.size, 1, none⟩ = some (.int .i64 0) := fun w' h => h.cell (by rw [hW1]; simp [go_sem])
  have k2 : ∀ w', Ext W1 w' → w'.cell? ⟨w.heap.size, 2, none⟩ = some (.slice (some ⟨b, o, none⟩) 2 c) := fun w' h => h.cell (by rw [hW1]; simp [go_sem])
  have hB : W1.heap[w.heap.size + 1]? = some (.cells zNode 35 (0, 0)) := by rw [hW1]; exact alloc2_1 _ _ _
  have hR1 := Ext.refl W1
  have HE1 := Lib.hid hE1
  have HB := Lib.hid hB
  have HD : Hid (w.heap.size ≤ w.heap.size + 1) := Lib.hid (by omega)
  have HS := Lib.hid (hS.but hE1 (lt_of_block hB))
  have HX := Lib.hid (HX.out _ HD.out)
  clear hW1 hB hS hN hv hv' hn1 hn2 hx hy
  have d0 := fun w1 (h : Ext W1 w1) => (hE1.trans h).cell d0
  have d1 := fun w1 (h : Ext W1 w1) => (hE1.trans h).cell d1
  have d2 := fun w1 (h : Ext W1 w1) => (hE1.trans h).cell d2
  have d3 := fun w1 (h : Ext W1 w1) => (hE1.trans h).cell d3
  have d4 := fun w1 (h : Ext W1 w1) => (hE1.trans h).cell d4
  have d5 := fun w1 (h : Ext W1 w1) => (hE1.trans h).cell d5
  clear hE1
  generalize w.heap.size + 1 = b3 at *
  obtain ⟨dx, hdx⟩ : ∃ d, d = derR a x := ⟨_, rfl⟩
  obtain ⟨dy, hdy⟩ : ∃ d, d = derR a y := ⟨_, rfl⟩
  have HZ : Hid (derR a (.and x y) = andR dx dy) := Lib.hid (by rw [hdx, hdy]; rfl)
  rw [← hdx] at h1
  rw [← hdy] at h2
  unfold NodeQ ndV at h1 h2
  unfold ndV at HX
  have H1 := Lib.hid h1
  have H2 := Lib.hid h2
  clear h1 h2 hdx hdy
  generalize x.tr.op = ox at *
  generalize x.tr.n = nx at *
  generalize x.tr.subs.length = lx at *
  generalize y.tr.op = oy at *
  generalize y.tr.n = ny at *
  generalize y.tr.subs.length = ly at *
  go_upto_region 8 with fail
  refine wp_region_ext 11 (factsOf [(5, NdF (butS S b3) dx.tr)]) (fun k => ([[], [0], [0, 1], [0, 1, 2], [], [0, 1, 2, 3, 4], [], [6], [6, 7], [6, 7, 8], [], [0, 1, 2, 3, 4, 5, 6, 7, 8, 9, 10], [0, 1, 2, 3, 4, 5, 6, 7, 8, 9, 10, 11], [0, 1, 2, 3, 4, 5, 6, 7, 8, 9, 10, 11, 12]] : List (List Nat)).getD k []) (by kernel_rfl) (by kernel_rfl) Ext.pre (mono_cons (stays_ndF _ _) (mono_nil)) ?_
  simp only [List.take_succ_cons, List.take_zero]
  repeat (first | (with_reducible refine lexL_quiet' (v := ?_) ?_ ?_ ?_ ?_; rotate_left; (· with_reducible rfl); (· simp [factsOf]); (· intro w1 hw1 _; go_simp; with_reducible rfl); (try simp only [Act.put, List.setIfInBounds_toArray, List.set_cons_zero, List.set_cons_succ])) | (with_reducible refine lexL_skip ?_ ?_; (· simp [Region.wanted, yielded, undef]); (try simp only [Act.put, List.setIfInBounds_toArray, List.set_cons_zero, List.set_cons_succ])) | (with_reducible refine lexL_quiet (v := ?_) ?_ ?_ ?_ ?_; rotate_left; (· simp [Region.wanted, yielded, undef]); (· simp [factsOf]); (· intro w1 hw1 _; go_simp; with_reducible rfl); (try simp only [Act.put, List.setIfInBounds_toArray, List.set_cons_zero, List.set_cons_succ])))
  with_reducible refine lexL_give' (φ := ?_) ?_ ?_ ?_ ?_; rotate_left; (· with_reducible rfl); (· simp only [factsOf, Nat.reduceAdd, ↓reduceIte, Nat.reduceEqDiff]; rfl)
  · intro w5 hw5 _
    go_simp
    refine (H1.out w5 (HE1.out.trans hw5) _ (HS.out.ext hw5) HX.out.1).mono ?_
    rintro e w6 ⟨A, c, rfl, h6, e6⟩
    exact ⟨_, rfl, e6, A, c, rfl, h6⟩
  rintro v5 w5 hw5 ⟨A5, c5, rfl, h5⟩ hk2
  clear hk2 hw5 h5 w5
  (try simp only [Act.put, List.setIfInBounds_toArray, List.set_cons_zero, List.set_cons_succ])
  repeat (first | (with_reducible refine lexL_quiet' (v := ?_) ?_ ?_ ?_ ?_; rotate_left; (· with_reducible rfl); (· simp [factsOf]); (· intro w1 hw1 _; go_simp; with_reducible rfl); (try simp only [Act.put, List.setIfInBounds_toArray, List.set_cons_zero, List.set_cons_succ])) | (with_reducible refine lexL_skip ?_ ?_; (· simp [Region.wanted, yielded, undef]); (try simp only [Act.put, List.setIfInBounds_toArray, List.set_cons_zero, List.set_cons_succ])) | (with_reducible refine lexL_quiet (v := ?_) ?_ ?_ ?_ ?_; rotate_left; (· simp [Region.wanted, yielded, undef]); (· simp [factsOf]); (· intro w1 hw1 _; go_simp; with_reducible rfl); (try simp only [Act.put, List.setIfInBounds_toArray, List.set_cons_zero, List.set_cons_succ])))
  with_reducible refine lexL_nil ?_; intro w1 hw1 hk1; simp only [List.drop_succ_cons, List.drop_zero]
  obtain ⟨A', c', hv5, h5⟩ := hk1.get 5 rfl rfl
  have hor := fun w' (e : Ext w1 w') A11 c11 (h11 : NodeB (butS S b3) false w' dy.tr (.agg #[.int .u8 (dy.tr.op : Int), .int .i64 dy.tr.n, .slice A11 dy.tr.subs.length c11])) => (show Calls Tryd.prog 82 #[.agg #[.int .u8 (dx.tr.op : Int), .int .i64 dx.tr.n, .slice A5 dx.tr.subs.length c5], .agg #[.int .u8 (dy.tr.op : Int), .int .i64 dy.tr.n, .slice A11 dy.tr.subs.length c11]] w' (NodeQ (butS S b3) false w' (andR dx dy).tr) from and_any (HS.out.ext (hw1.trans e)) (by rw [← hv5] at h5; exact h5.ext e) h11)
  unfold NodeQ ndV at hor
  have HW1 := Lib.hid hw1
  have HOR := Lib.hid hor
  have h2 := H2.out w1 (HE1.out.trans hw1) _ (HS.out.ext hw1) HX.out.2
  clear hk1 hw1 h5 hv5 hor
  generalize hz : (andR dx dy).tr = z at *
  have HZ := Lib.hid (HZ.out ▸ hz : (derR a (.and x y)).tr = z)
  clear hz
  go_wp2_with (first | ((with_reducible refine h2.mono ?_); rintro e W5 ⟨A11, c11, rfl, h11, e5⟩; have hor := HOR.out W5 e5 A11 c11 h11) | ((with_reducible refine hor.mono ?_); rintro e W6 ⟨A6, c6, rfl, h6, e6⟩) | (with_reducible refine wpList_store_blk _ rfl 35 _ _ rfl b3 35 _ _ rfl rfl (heap_ext ((HW1.out.trans e5).trans e6) HB.out) (by kernel_rfl) (by kernel_rfl) (by kernel_rfl) ?_; intro w8 h8 g8))
  refine bodyPost_ret (results_cell_row rfl _ _ b3 35 _ (0, 0) _ (by simp [Act.put]) h8 Tryd.underlying35 rfl (by kernel_rfl)) rfl ?_
  rw [HZ.out]
  have hE6 := (HE1.out.trans (HW1.out.trans e5)).trans e6
  exact ⟨A6, c6, rfl, h6.past g8, Below.grown hE6 g8 hE6.size (fun k hk => by cases hk; exact HD.out)⟩
set_option maxRecDepth 100000 in
set_option maxHeartbeats 16000000 in
theorem der_not (a : Int) (x : Rx) (hx : DerS a x) : DerS a (.not x) := by
  intro S w A c hS hN
  obtain ⟨b, o, c', A1, c1, hv, d0, d1, d2, hn1⟩ := hN.sub (i := 0) (s := x.tr) rfl
  have hv0 : A = some ⟨b, o, none⟩ := by
    have h9 := congrArg (fun v => match v with | Value.agg cs => cs[2]? | _ => none) hv
    simp [ndV] at h9; exact h9.1
  subst hv0
  have d0 : w.cell? ⟨b, o, none⟩ = some (.int .u8 (x.tr.op : Int)) := by simpa using d0
  have d1 : w.cell? ⟨b, o + 1, none⟩ = some (.int .i64 x.tr.n) := by simpa using d1
  have d2 : w.cell? ⟨b, o + 2, none⟩ = some (.slice A1 x.tr.subs.length c1) := by simpa using d2
  have HX := Lib.hid (fun b (hb : w.heap.size ≤ b) => And.intro (hn1.but hb) (hN.but hb))
  have h1 := fun w' (e : Ext w w') S' (hS' : New S' w') (q : NodeB S' false w x.tr (ndV x.tr A1 c1)) => hx S' w' A1 c1 hS' (q.ext e)
  show Calls Tryd.prog 48 #[.agg #[.int .u8 7, .int .i64 0, .slice (some ⟨b, o, none⟩) 1 c], .int .i64 a] w _
  go_enter Tryd.func48, Tryd.ntmps48
  go_upto_region 1 with fail
  refine wp_named ?_
  intro W1 hW1
  have hE1 : Ext w W1 := by rw [hW1]; exact (alloc_ext _ _).trans (alloc_ext _ _)
  have k0 : ∀ w', Ext W1 w' → w'.cell? ⟨w.heap.size, 0, none⟩ = some (.int .u8 7) := fun w' h => h.cell (by rw [hW1]; simp [go_sem])
  have k1 : ∀ w', Ext W1 w' → w'.cell? ⟨w.heap.size, 1, none⟩ = some (.int .i64 0) := fun w' h => h.cell (by rw [hW1]; simp [go_sem])
  have k2 : ∀ w', Ext W1 w' → w'.cell? ⟨w.heap.size, 2, none⟩ = some (.slice (some ⟨b, o, none⟩) 1 c) := fun w' h => h.cell (by rw [hW1]; simp [go_sem])
  have hB : W1.heap[w.heap.size + 1]? = some (.cells zNode 35 (0, 0)) := by rw [hW1]; exact alloc2_1 _ _ _
  have hR1 := Ext.refl W1
  have HE1 := Lib.hid hE1
  have HB := Lib.hid hB
  have HD : Hid (w.heap.size ≤ w.heap.size + 1) := Lib.hid (by omega)
  have HS := Lib.hid (hS.but hE1 (lt_of_block hB))
  have HX := Lib.hid (HX.out _ HD.out)
  clear hW1 hB hS hN hv hn1 hx
  have d0 := fun w1 (h : Ext W1 w1) => (hE1.trans h).cell d0
  have d1 := fun w1 (h : Ext W1 w1) => (hE1.trans h).cell d1
  have d2 := fun w1 (h : Ext W1 w1) => (hE1.trans h).cell d2
  clear hE1
  generalize w.heap.size + 1 = b3 at *
  obtain ⟨dx, hdx⟩ : ∃ d, d = derR a x := ⟨_, rfl⟩
  have HZ : Hid (derR a (.not x) = notR dx) := Lib.hid (by rw [hdx]; rfl)
  rw [← hdx] at h1
  unfold NodeQ ndV at h1
  unfold ndV at HX
  have h1 := h1 W1 HE1.out _ HS.out HX.out.1
  clear hdx
  generalize x.tr.op = ox at *
  generalize x.tr.n = nx at *
  generalize x.tr.subs.length = lx at *
  have hor := fun w' (e : Ext W1 w') A5 c5 (h5 : NodeB (butS S b3) false w' dx.tr (.agg #[.int .u8 (dx.tr.op : Int), .int .i64 dx.tr.n, .slice A5 dx.tr.subs.length c5])) => (show Calls Tryd.prog 83 #[.agg #[.int .u8 (dx.tr.op : Int), .int .i64 dx.tr.n, .slice A5 dx.tr.subs.length c5]] w' (NodeQ (butS S b3) false w' (notR dx).tr) from not_any (HS.out.ext e) h5)
  unfold NodeQ ndV at hor
  have HOR := Lib.hid hor
  clear hor
  generalize hz : (notR dx).tr = z at *
  have HZ := Lib.hid (HZ.out ▸ hz : (derR a (.not x)).tr = z)
  clear hz
  go_wp2_with (first | ((with_reducible refine h1.mono ?_); rintro e W5 ⟨A11, c11, rfl, h11, e5⟩; have hor := HOR.out W5 e5 A11 c11 h11) | ((with_reducible refine hor.mono ?_); rintro e W6 ⟨A6, c6, rfl, h6, e6⟩) | (with_reducible refine wpList_store_blk _ rfl 35 _ _ rfl b3 35 _ _ rfl rfl (heap_ext (e5.trans e6) HB.out) (by kernel_rfl) (by kernel_rfl) (by kernel_rfl) ?_; intro w8 h8 g8))
  refine bodyPost_ret (results_cell_row rfl _ _ b3 35 _ (0, 0) _ (by simp [Act.put]) h8 Tryd.underlying35 rfl (by kernel_rfl)) rfl ?_
  rw [HZ.out]
  have hE6 := (HE1.out.trans e5).trans e6
  exact ⟨A6, c6, rfl, h6.past g8, Below.grown hE6 g8 hE6.size (fun k hk => by cases hk; exact HD.out)⟩
set_option maxRecDepth 100000 in
set_option maxHeartbeats 16000000 in
theorem der_star (a : Int) (x : Rx) (hx : DerS a x) : DerS a (.star x) := by
  intro S w A c hS hN
  obtain ⟨b, o, c', A1, c1, hv, d0, d1, d2, hn1⟩ := hN.sub (i := 0) (s := x.tr) rfl
  have hv0 : A = some ⟨b, o, none⟩ := by
    have h9 := congrArg (fun v => match v with | Value.agg cs => cs[2]? | _ => none) hv
    simp [ndV] at h9; exact h9.1
  subst hv0
  have d0 : w.cell? ⟨b, o, none⟩ = some (.int .u8 (x.tr.op : Int)) := by simpa using d0
  have d1 : w.cell? ⟨b, o + 1, none⟩ = some (.int .i64 x.tr.n) := by simpa using d1
  have d2 : w.cell? ⟨b, o + 2, none⟩ = some (.slice A1 x.tr.subs.length c1) := by simpa using d2
  have HX := Lib.hid (fun b (hb : w.heap.size ≤ b) => And.intro (hn1.but hb) (hN.but hb))
  have h1 := fun w' (e : Ext w w') S' (hS' : New S' w') (q : NodeB S' false w x.tr (ndV x.tr A1 c1)) => hx S' w' A1 c1 hS' (q.ext e)
  show Calls Tryd.prog 48 #[.agg #[.int .u8 6, .int .i64 0, .slice (some ⟨b, o, none⟩) 1 c], .int .i64 a] w _
  go_enter Tryd.func48, Tryd.ntmps48
  go_upto_region 1 with fail
  refine wp_named ?_
  intro W1 hW1
  have hE1 : Ext w W1 := by rw [hW1]; exact (alloc_ext _ _).trans (alloc_ext _ _)
  have k0 : ∀ w', Ext W1 w' → w'.cell? ⟨w.heap.size, 0, none⟩ = some (.int .u8 6) := fun w' h => h.cell (by rw [hW1]; simp [go_sem])
  have k1 : ∀ w', Ext W1 w' → w'.cell? ⟨w.heap.size, 1, none⟩ = some (.int .i64 0) := fun w' h => h.cell (by rw [hW1]; simp [go_sem])
  have k2 : ∀ w', Ext W1 w' → w'.cell? ⟨w.heap.size, 2, none⟩ = some (.slice (some ⟨b, o, none⟩) 1 c) := fun w' h => h.cell (by rw [hW1]; simp [go_sem])
  have hB : W1.heap[w.heap.size + 1]? = some (.cells zNode 35 (0, 0)) := by rw [hW1]; exact alloc2_1 _ _ _
  have hR1 := Ext.refl W1
  have HE1 := Lib.hid hE1
  have HB := Lib.hid hB
  have HD : Hid (w.heap.size ≤ w.heap.size + 1) := Lib.hid (by omega)
  have HS := Lib.hid (hS.but hE1 (lt_of_block hB))
  have HX := Lib.hid (HX.out _ HD.out)
  clear hW1 hB hS hN hv hn1 hx
  have d0 := fun w1 (h : Ext W1 w1) => (hE1.trans h).cell d0
  have d1 := fun w1 (h : Ext W1 w1) => (hE1.trans h).cell d1
  have d2 := fun w1 (h : Ext W1 w1) => (hE1.trans h).cell d2
  clear hE1
  generalize w.heap.size + 1 = b3 at *
  obtain ⟨dx, hdx⟩ : ∃ d, d = derR a x := ⟨_, rfl⟩
  have HZ : Hid (derR a (.star x) = seqR dx (.star x)) := Lib.hid (by rw [hdx]; rfl)
  rw [← hdx] at h1
  unfold NodeQ ndV at h1
  have HX2 := Lib.hid HX.out.2
  unfold ndV at HX
  have H1 := Lib.hid h1
  clear h1 hdx
  generalize x.tr.op = ox at *
  generalize x.tr.n = nx at *
  generalize x.tr.subs.length = lx at *
  go_upto_region 12 with fail
  refine wp_region_ext 7 (factsOf [(5, NdF (butS S b3) dx.tr)]) (fun k => ([[], [0], [0, 1], [0, 1, 2], [], [0, 1, 2, 3, 4], [], [0, 1, 2, 3, 4, 5, 6], [0, 1, 2, 3, 4, 5, 6, 7]] : List (List Nat)).getD k []) (by kernel_rfl) (by kernel_rfl) Ext.pre (mono_cons (stays_ndF _ _) (mono_nil)) ?_
  simp only [List.take_succ_cons, List.take_zero]
  repeat (first | (with_reducible refine lexL_quiet' (v := ?_) ?_ ?_ ?_ ?_; rotate_left; (· with_reducible rfl); (· simp [factsOf]); (· intro w1 hw1 _; go_simp; with_reducible rfl); (try simp only [Act.put, List.setIfInBounds_toArray, List.set_cons_zero, List.set_cons_succ])) | (with_reducible refine lexL_skip ?_ ?_; (· simp [Region.wanted, yielded, undef]); (try simp only [Act.put, List.setIfInBounds_toArray, List.set_cons_zero, List.set_cons_succ])) | (with_reducible refine lexL_quiet (v := ?_) ?_ ?_ ?_ ?_; rotate_left; (· simp [Region.wanted, yielded, undef]); (· simp [factsOf]); (· intro w1 hw1 _; go_simp; with_reducible rfl); (try simp only [Act.put, List.setIfInBounds_toArray, List.set_cons_zero, List.set_cons_succ])))
  with_reducible refine lexL_give' (φ := ?_) ?_ ?_ ?_ ?_; rotate_left; (· with_reducible rfl); (· simp only [factsOf, Nat.reduceAdd, ↓reduceIte, Nat.reduceEqDiff]; rfl)
  · intro w5 hw5 _
    go_simp
    refine (H1.out w5 (HE1.out.trans hw5) _ (HS.out.ext hw5) HX.out.1).mono ?_
    rintro e w6 ⟨A, c, rfl, h6, e6⟩
    exact ⟨_, rfl, e6, A, c, rfl, h6⟩
  rintro v5 w5 hw5 ⟨A5, c5, rfl, h5⟩ hk2
  clear hk2 hw5 h5 w5
  (try simp only [Act.put, List.setIfInBounds_toArray, List.set_cons_zero, List.set_cons_succ])
  repeat (first | (with_reducible refine lexL_quiet' (v := ?_) ?_ ?_ ?_ ?_; rotate_left; (· with_reducible rfl); (· simp [factsOf]); (· intro w1 hw1 _; go_simp; with_reducible rfl); (try simp only [Act.put, List.setIfInBounds_toArray, List.set_cons_zero, List.set_cons_succ])) | (with_reducible refine lexL_skip ?_ ?_; (· simp [Region.wanted, yielded, undef]); (try simp only [Act.put, List.setIfInBounds_toArray, List.set_cons_zero, List.set_cons_succ])) | (with_reducible refine lexL_quiet (v := ?_) ?_ ?_ ?_ ?_; rotate_left; (· simp [Region.wanted, yielded, undef]); (· simp [factsOf]); (· intro w1 hw1 _; go_simp; with_reducible rfl); (try simp only [Act.put, List.setIfInBounds_toArray, List.set_cons_zero, List.set_cons_succ])))
  with_reducible refine lexL_nil ?_; intro w1 hw1 hk1; simp only [List.drop_succ_cons, List.drop_zero]
  obtain ⟨A', c', hv5, h5⟩ := hk1.get 5 rfl rfl
  have hor : Calls Tryd.prog 84 #[.agg #[.int .u8 (dx.tr.op : Int), .int .i64 dx.tr.n, .slice A5 dx.tr.subs.length c5], .agg #[.int .u8 6, .int .i64 0, .slice (some ⟨b, o, none⟩) 1 c]] w1 (NodeQ (butS S b3) false w1 (seqR dx (.star x)).tr) := seq_any (HS.out.ext hw1) (by rw [← hv5] at h5; exact h5) (HX2.out.ext (HE1.out.trans hw1))
  unfold NodeQ ndV at hor
  have HW1 := Lib.hid hw1
  clear hk1 hw1 h5 hv5
  generalize hz : (seqR dx (.star x)).tr = z at *
  have HZ := Lib.hid (HZ.out ▸ hz : (derR a (.star x)).tr = z)
  clear hz
  go_wp2_with (first | ((with_reducible refine hor.mono ?_); rintro e W6 ⟨A6, c6, rfl, h6, e6⟩) | (with_reducible refine wpList_store_blk _ rfl 35 _ _ rfl b3 35 _ _ rfl rfl (heap_ext (HW1.out.trans e6) HB.out) (by kernel_rfl) (by kernel_rfl) (by kernel_rfl) ?_; intro w8 h8 g8))
  refine bodyPost_ret (results_cell_row rfl _ _ b3 35 _ (0, 0) _ (by simp [Act.put]) h8 Tryd.underlying35 rfl (by kernel_rfl)) rfl ?_
  rw [HZ.out]
  have hE6 := (HE1.out.trans HW1.out).trans e6
  exact ⟨A6, c6, rfl, h6.past g8, Below.grown hE6 g8 hE6.size (fun k hk => by cases hk; exact HD.out)⟩
theorem NodeB.past2 {S : Nat → Prop} {F : Bool} {w w' : World} {t : Tr} {v : Value} {h : Nat} (hN : NodeB (butS S h) F w t v) (g : w.grownBy w' (some h)) : NodeB (butS S h) F w' t v :=
  hN.keep (w' := w') g.size (fun b hb hl => g.block b hl (fun e => hb.2 (by injection e)))
def SG (S : Nat → Prop) (G : Vals) : Nat → Prop := fun b => S b ∧ G 11 ≠ some (.pointer (some ⟨b, 0, none⟩))
structure DsI (W1 : World) (S : Nat → Prop) (dx sd : Tr) (G : Vals) (w : World) : Prop where
  ext : Ext W1 w
  c5 : ∀ v, G 5 = some v → NdF (SG S G) dx v w
  c10 : ∀ v, G 10 = some v → NdF (SG S G) sd v w
  a11 : ∀ v, G 11 = some v → ∃ b, v = .pointer (some ⟨b, 0, none⟩) ∧ W1.heap.size ≤ b ∧ b < w.heap.size ∧ w.heap[b]? = some (.cells zNode 35 (0, 0))
theorem ndF_ext {S : Nat → Prop} {t : Tr} {v : Value} {w w' : World} (h : NdF S t v w) (e : Ext w w') : NdF S t v w' := stays_ndF S t v w w' e h
theorem DsI.new {W1 w : World} {S : Nat → Prop} {dx sd : Tr} {G : Vals} (h : DsI W1 S dx sd G w) (hS : New S W1) : New (SG S G) w := fun b hb => ⟨hS b (Nat.le_trans h.ext.size hb), fun e => by
  obtain ⟨b', h1, _, h2, _⟩ := h.a11 _ e
  injection h1 with h1; injection h1 with h1; injection h1 with h1
  omega⟩
theorem DsI.old0 {W1 w w0 : World} {S : Nat → Prop} {dx sd : Tr} {G : Vals} (h : DsI W1 S dx sd G w) (h0 : w0.heap.size ≤ W1.heap.size) {F : Bool} {t : Tr} {v : Value} (hN : NodeB S F w0 t v) : NodeB (SG S G) F w0 t v := hN.mono (fun b hb hl => ⟨hb, fun e => by
  obtain ⟨b', h1, h2, _, _⟩ := h.a11 _ e
  injection h1 with h1; injection h1 with h1; injection h1 with h1
  omega⟩)
theorem SG_put {S : Nat → Prop} {G : Vals} {k : Nat} {v : Value} (hk : k ≠ 11) : SG S (G.put k v) = SG S G := by
  unfold SG Vals.put
  simp [Ne.symm hk]
theorem DsI.call {W1 w w' : World} {S : Nat → Prop} {dx sd : Tr} {G : Vals} (h : DsI W1 S dx sd G w) (k : Nat) {v : Value} (e : Ext w w') (hk : (k = 5 ∧ NdF (SG S G) dx v w') ∨ (k = 10 ∧ NdF (SG S G) sd v w')) : DsI W1 S dx sd (G.put k v) w' := by
  have hk11 : k ≠ 11 := by rcases hk with ⟨rfl, _⟩ | ⟨rfl, _⟩ <;> decide
  refine ⟨h.ext.trans e, ?_, ?_, ?_⟩
  · intro u hu
    rw [SG_put hk11]
    rcases hk with ⟨rfl, h1⟩ | ⟨rfl, h1⟩
    · simp [Vals.put] at hu; subst hu; exact h1
    · exact ndF_ext (h.c5 u (by simpa [Vals.put] using hu)) e
  · intro u hu
    rw [SG_put hk11]
    rcases hk with ⟨rfl, h1⟩ | ⟨rfl, h1⟩
    · exact ndF_ext (h.c10 u (by simpa [Vals.put] using hu)) e
    · simp [Vals.put] at hu; subst hu; exact h1
  · intro u hu
    obtain ⟨b, h1, h2, h3, h4⟩ := h.a11 u (by simpa [Vals.put, Ne.symm hk11] using hu)
    exact ⟨b, h1, h2, Nat.lt_of_lt_of_le h3 e.size, heap_ext e h4⟩
theorem DsI.alloc {W1 w : World} {S : Nat → Prop} {dx sd : Tr} {G : Vals} (h : DsI W1 S dx sd G w) (hg : G 11 = none) : DsI W1 S dx sd (G.put 11 (.pointer (some ⟨w.heap.size, 0, none⟩))) (w.alloc (.cells zNode 35)) := by
  have hm : ∀ {F : Bool} {t : Tr} {v : Value}, NodeB (SG S G) F w t v → NodeB (SG S (G.put 11 (.pointer (some ⟨w.heap.size, 0, none⟩)))) F (w.alloc (.cells zNode 35)) t v := fun hN => (hN.mono (fun b hb hl => ⟨hb.1, fun e => by
    have e' : w.heap.size = b := by revert e; simp [Vals.put]
    omega⟩)).ext (alloc_ext _ _)
  refine ⟨h.ext.trans (alloc_ext _ _), ?_, ?_, ?_⟩
  · intro u hu
    obtain ⟨A, c, h1, h2⟩ := h.c5 u (by simpa [Vals.put] using hu)
    exact ⟨A, c, h1, hm h2⟩
  · intro u hu
    obtain ⟨A, c, h1, h2⟩ := h.c10 u (by simpa [Vals.put] using hu)
    exact ⟨A, c, h1, hm h2⟩
  · intro u hu
    simp [Vals.put] at hu
    exact ⟨_, hu.symm, h.ext.size, by simp, heap_alloc_new _ _⟩
set_option maxRecDepth 100000 in
set_option maxHeartbeats 16000000 in
theorem der_seq (a : Int) (x y : Rx) (hx : DerS a x) (hy : DerS a y) : DerS a (.seq x y) := by
  intro S w A c hS hN
  obtain ⟨b, o, c', A1, c1, hv, d0, d1, d2, hn1⟩ := hN.sub (i := 0) (s := x.tr) rfl
  obtain ⟨b', o', c'', A2, c2, hv', d3, d4, d5, hn2⟩ := hN.sub (i := 1) (s := y.tr) rfl
  have hv0 : A = some ⟨b, o, none⟩ := by
    have h9 := congrArg (fun v => match v with | Value.agg cs => cs[2]? | _ => none) hv
    simp [ndV] at h9; exact h9.1
  have hv1 : A = some ⟨b', o', none⟩ := by
    have h9 := congrArg (fun v => match v with | Value.agg cs => cs[2]? | _ => none) hv'
    simp [ndV] at h9; exact h9.1
  rw [hv0] at hv1
  cases hv1
  subst hv0
  have d0 : w.cell? ⟨b, o, none⟩ = some (.int .u8 (x.tr.op : Int)) := by simpa using d0
  have d1 : w.cell? ⟨b, o + 1, none⟩ = some (.int .i64 x.tr.n) := by simpa using d1
  have d2 : w.cell? ⟨b, o + 2, none⟩ = some (.slice A1 x.tr.subs.length c1) := by simpa using d2
  have d3 : w.cell? ⟨b, o + 3, none⟩ = some (.int .u8 (y.tr.op : Int)) := by simpa using d3
  have d4 : w.cell? ⟨b, o + 3 + 1, none⟩ = some (.int .i64 y.tr.n) := by simpa using d4
  have d5 : w.cell? ⟨b, o + 3 + 2, none⟩ = some (.slice A2 y.tr.subs.length c2) := by simpa using d5
  have HX := Lib.hid (fun b (hb : w.heap.size ≤ b) => And.intro (hn1.but hb) (hn2.but hb))
  have h1 := fun w' (e : Ext w w') S' (hS' : New S' w') (q : NodeB S' false w x.tr (ndV x.tr A1 c1)) => hx S' w' A1 c1 hS' (q.ext e)
  have h2 := fun w' (e : Ext w w') S' (hS' : New S' w') (q : NodeB S' false w y.tr (ndV y.tr A2 c2)) => hy S' w' A2 c2 hS' (q.ext e)
  have hnl := fun w' (e : Ext w w') => nullable_any (r := x) (hn1.ext e).node
  show Calls Tryd.prog 48 #[.agg #[.int .u8 4, .int .i64 0, .slice (some ⟨b, o, none⟩) 2 c], .int .i64 a] w _
  go_enter Tryd.func48, Tryd.ntmps48
  go_upto_region 1 with fail
  refine wp_named ?_
  intro W1 hW1
  have hE1 : Ext w W1 := by rw [hW1]; exact (alloc_ext _ _).trans (alloc_ext _ _)
  have k0 : ∀ w', Ext W1 w' → w'.cell? ⟨w.heap.size, 0, none⟩ = some (.int .u8 4) := fun w' h => h.cell (by rw [hW1]; simp [go_sem])
  have k1 : ∀ w', Ext W1 w' → w'.cell? ⟨w.heap.size, 1, none⟩ = some (.int .i64 0) := fun w' h => h.cell (by rw [hW1]; simp [go_sem])
  have k2 : ∀ w', Ext W1 w' → w'.cell? ⟨w.heap.size, 2, none⟩ = some (.slice (some ⟨b, o, none⟩) 2 c) := fun w' h => h.cell (by rw [hW1]; simp [go_sem])
  have hB : W1.heap[w.heap.size + 1]? = some (.cells zNode 35 (0, 0)) := by rw [hW1]; exact alloc2_1 _ _ _
  have hR1 := Ext.refl W1
  have HE1 := Lib.hid hE1
  have HB := Lib.hid hB
  have HD : Hid (w.heap.size ≤ w.heap.size + 1) := Lib.hid (by omega)
  have HS := Lib.hid (hS.but hE1 (lt_of_block hB))
  have HX := Lib.hid (HX.out _ HD.out)
  clear hW1 hB hS hN hv hv' hn1 hn2 hx hy
  have d0 := fun w1 (h : Ext W1 w1) => (hE1.trans h).cell d0
  have d1 := fun w1 (h : Ext W1 w1) => (hE1.trans h).cell d1
  have d2 := fun w1 (h : Ext W1 w1) => (hE1.trans h).cell d2
  have d3 := fun w1 (h : Ext W1 w1) => (hE1.trans h).cell d3
  have d4 := fun w1 (h : Ext W1 w1) => (hE1.trans h).cell d4
  have d5 := fun w1 (h : Ext W1 w1) => (hE1.trans h).cell d5
  clear hE1
  generalize w.heap.size + 1 = b3 at *
  obtain ⟨dx, hdx⟩ : ∃ d, d = derR a x := ⟨_, rfl⟩
  obtain ⟨dy, hdy⟩ : ∃ d, d = derR a y := ⟨_, rfl⟩
  obtain ⟨nl, hnl9⟩ : ∃ b, b = nulR x := ⟨_, rfl⟩
  rw [← hnl9] at hnl
  obtain ⟨sd, hsd⟩ : ∃ d, d = seqR dx y := ⟨_, rfl⟩
  have HZ : Hid (derR a (.seq x y) = if nl = true then orR sd dy else sd) := Lib.hid (by rw [hsd, hdx, hdy, hnl9]; rfl)
  have HSQ : Hid (∀ (w' : World) (A5 : Option Addr) (c5 : Nat) (S' : Nat → Prop), New S' w' → NodeB S' false w' dx.tr (ndV dx.tr A5 c5) → NodeB S' false w' y.tr (ndV y.tr A2 c2) → Calls Tryd.prog 84 #[ndV dx.tr A5 c5, ndV y.tr A2 c2] w' (NodeQ S' false w' sd.tr)) := Lib.hid (fun w' A5 c5 S' hS' h5 hy => by rw [hsd]; exact seq_any hS' h5 hy)
  rw [← hdx] at h1
  rw [← hdy] at h2
  unfold NodeQ ndV at h1 h2 HSQ
  unfold BoolP ndV at hnl
  have HY2 := Lib.hid HX.out.2
  unfold ndV at HX HY2
  have H1 := Lib.hid h1
  have H2 := Lib.hid h2
  have HNL := Lib.hid hnl
  clear h1 h2 hdx hdy hnl hsd hnl9
  generalize x.tr.op = ox at *
  generalize x.tr.n = nx at *
  generalize x.tr.subs.length = lx at *
  generalize y.tr.op = oy at *
  generalize y.tr.n = ny at *
  generalize y.tr.subs.length = ly at *
  go_upto_region 14 with fail
  refine wp_named ?_
  intro W2 hW2
  have hW21 : W2 = W1 := hW2
  subst hW21
  clear hW2
  refine RI.wp_region_inv 12 (DsI W2 (butS S b3) dx.tr sd.tr) (fun k => [5, 10, 11].contains k) (fun k => ([[], [0], [0, 1], [0, 1, 2], [], [0, 1, 2, 3, 4], [], [6], [6, 7], [6, 7, 8], [0, 1, 2, 3, 4, 5, 6, 7, 8, 9], [], [0, 1, 2, 3, 4, 5, 6, 7, 8, 9, 10, 11]] : List (List Nat)).getD k []) (by kernel_rfl) (by kernel_rfl) ?_ ?_
  rotate_left; simp only [List.take_succ_cons, List.take_zero]; rotate_left
  · exact ⟨(Ext.refl _).drew, fun v h => (by cases h), fun v h => (by cases h), fun v h => (by cases h)⟩
  repeat (first | (with_reducible refine RI.lexL_quiet' (v := ?_) ?_ ?_ ?_ ?_; rotate_left; (· with_reducible rfl); (· decide); (· intro G w1 hI1 hA1; have hw1 := hI1.ext; go_simp; with_reducible rfl); (try simp only [Act.put, List.setIfInBounds_toArray, List.set_cons_zero, List.set_cons_succ])) | (with_reducible refine RI.lexL_skip ?_ ?_; (· simp [Region.wanted, yielded, undef]); (try simp only [Act.put, List.setIfInBounds_toArray, List.set_cons_zero, List.set_cons_succ])) | (with_reducible refine RI.lexL_quiet (v := ?_) ?_ ?_ ?_ ?_; rotate_left; (· simp [Region.wanted, yielded, undef]); (· decide); (· intro G w1 hI1 hA1; have hw1 := hI1.ext; go_simp; with_reducible rfl); (try simp only [Act.put, List.setIfInBounds_toArray, List.set_cons_zero, List.set_cons_succ])))
  with_reducible refine RI.lexL_give' ?_ ?_ ?_ ?_; (· with_reducible rfl); (· decide)
  · intro G w5 hI hA hg
    have hw5 := hI.ext
    go_simp
    refine (H1.out w5 (HE1.out.trans hw5) _ (hI.new HS.out) (hI.old0 HE1.out.size HX.out.1)).mono ?_
    rintro e w6 ⟨A, c, rfl, h6, e6⟩
    exact ⟨_, rfl, hI.call 5 e6 (.inl ⟨rfl, A, c, rfl, h6⟩)⟩
  intro v5 G w5 hI hs2
  obtain ⟨A5, c5, rfl, -⟩ := hI.c5 v5 (hs2 5 v5 rfl)
  clear hI hs2 G w5
  (try simp only [Act.put, List.setIfInBounds_toArray, List.set_cons_zero, List.set_cons_succ])
  repeat (first | (with_reducible refine RI.lexL_quiet' (v := ?_) ?_ ?_ ?_ ?_; rotate_left; (· with_reducible rfl); (· decide); (· intro G w1 hI1 hA1; have hw1 := hI1.ext; go_simp; with_reducible rfl); (try simp only [Act.put, List.setIfInBounds_toArray, List.set_cons_zero, List.set_cons_succ])) | (with_reducible refine RI.lexL_skip ?_ ?_; (· simp [Region.wanted, yielded, undef]); (try simp only [Act.put, List.setIfInBounds_toArray, List.set_cons_zero, List.set_cons_succ])) | (with_reducible refine RI.lexL_quiet (v := ?_) ?_ ?_ ?_ ?_; rotate_left; (· simp [Region.wanted, yielded, undef]); (· decide); (· intro G w1 hI1 hA1; have hw1 := hI1.ext; go_simp; with_reducible rfl); (try simp only [Act.put, List.setIfInBounds_toArray, List.set_cons_zero, List.set_cons_succ])))
  with_reducible refine RI.lexL_give' ?_ ?_ ?_ ?_; (· with_reducible rfl); (· decide)
  · intro G w5 hI hA hg
    have h5 := hA 5 (by decide) _ rfl
    obtain ⟨A5', c5', hv5, hn5⟩ := hI.c5 _ h5
    rw [← hv5] at hn5
    clear hv5 h5
    have hw5 := hI.ext
    go_simp
    refine (HSQ.out w5 A5 c5 _ (hI.new HS.out) hn5 ((hI.old0 HE1.out.size HY2.out).ext (HE1.out.trans hw5))).mono ?_
    rintro e w6 ⟨A, c, rfl, h6, e6⟩
    exact ⟨_, rfl, hI.call 10 e6 (.inr ⟨rfl, A, c, rfl, h6⟩)⟩
  intro v10 G w5 hI hs2
  obtain ⟨A10, c10, rfl, -⟩ := hI.c10 v10 (hs2 10 v10 rfl)
  clear hI hs2 G w5
  (try simp only [Act.put, List.setIfInBounds_toArray, List.set_cons_zero, List.set_cons_succ])
  with_reducible refine RI.lexL_give' ?_ ?_ ?_ ?_; (· with_reducible rfl); (· decide)
  · intro G w5 hI hA hg
    go_simp
    exact hI.alloc hg
  intro v11 G w5 hI hs2
  obtain ⟨b5, rfl, -⟩ := hI.a11 v11 (hs2 11 v11 rfl)
  clear hI hs2 G w5
  (try simp only [Act.put, List.setIfInBounds_toArray, List.set_cons_zero, List.set_cons_succ])
  with_reducible refine RI.lexL_nil ?_; intro w1 hI1; simp only [List.drop_succ_cons, List.drop_zero]
  obtain ⟨A10', c10', hv10, hn10⟩ := hI1.c10 _ rfl
  rw [← hv10] at hn10
  obtain ⟨b5', hv11, hb5a, hb5b, hb5⟩ := hI1.a11 _ rfl
  have hv11 : b5 = b5' := by injection hv11 with h1; injection h1 with h1; injection h1
  subst hv11
  have hn10 : NodeB (butS (butS S b3) b5) false w1 sd.tr (.agg #[.int .u8 (sd.tr.op : Int), .int .i64 sd.tr.n, .slice A10 sd.tr.subs.length c10]) := hn10.mono (fun b hb _ => ⟨hb.1, fun e => hb.2 (by rw [e]; rfl)⟩)
  have HB5 := Lib.hid (And.intro hI1.ext (And.intro hb5a (And.intro hb5 hn10)))
  clear hI1 hb5a hb5b hb5 hn10 hv10
  go_upto_region 15 with (with_reducible refine wpList_store_blk _ rfl 35 _ _ rfl b5 35 _ _ rfl rfl HB5.out.2.2.1 (by kernel_rfl) (by kernel_rfl) (by kernel_rfl) ?_; intro w8 h8 g8)
  have hE8 : Ext W2 w8 := Below.grown HB5.out.1 g8 HB5.out.1.size (fun k hk => by cases hk; exact HB5.out.2.1)
  have hn8 := HB5.out.2.2.2.past2 g8
  have f0 : ∀ w', Ext w8 w' → w'.cell? ⟨b5, 0, none⟩ = some (.int .u8 (sd.tr.op : Int)) := fun w' e => e.cell (cell_of_blk h8 0 rfl)
  have f1 : ∀ w', Ext w8 w' → w'.cell? ⟨b5, 1, none⟩ = some (.int .i64 sd.tr.n) := fun w' e => e.cell (cell_of_blk h8 1 rfl)
  have f2 : ∀ w', Ext w8 w' → w'.cell? ⟨b5, 2, none⟩ = some (.slice A10 sd.tr.subs.length c10) := fun w' e => e.cell (cell_of_blk h8 2 rfl)
  have k2 := fun w1 (h : Ext w8 w1) => k2 w1 (hE8.trans h)
  have d0 := fun w1 (h : Ext w8 w1) => d0 w1 (hE8.trans h)
  have d1 := fun w1 (h : Ext w8 w1) => d1 w1 (hE8.trans h)
  have d2 := fun w1 (h : Ext w8 w1) => d2 w1 (hE8.trans h)
  have d3 := fun w1 (h : Ext w8 w1) => d3 w1 (hE8.trans h)
  have d4 := fun w1 (h : Ext w8 w1) => d4 w1 (hE8.trans h)
  have d5 := fun w1 (h : Ext w8 w1) => d5 w1 (hE8.trans h)
  have hR8 := Ext.refl w8
  have HY3 : Hid (NodeB (butS (butS S b3) b5) false w y.tr (.agg #[.int .u8 (oy : Int), .int .i64 ny, .slice A2 ly c2])) := Lib.hid (HY2.out.mono (fun b hb hl => ⟨hb, by have := HE1.out.size; have := HB5.out.2.1; omega⟩))
  have HB53 : Hid (b3 < b5) := Lib.hid (by have := lt_of_block HB.out; have := HB5.out.2.1; omega)
  have HS3 : Hid (New (butS (butS S b3) b5) w8) := Lib.hid (fun b hb => ⟨HS.out b (Nat.le_trans hE8.size hb), by have := lt_of_block h8; omega⟩)
  have HE8 := Lib.hid (HE1.out.trans hE8)
  have HB8 := Lib.hid (And.intro (heap_ext hE8 HB.out) h8)
  have HN8 := Lib.hid hn8
  have HL8 : Hid (w.heap.size ≤ b5) := Lib.hid (Nat.le_trans HE1.out.size HB5.out.2.1)
  have hnl := HNL.out w8 HE8.out
  clear HB5 g8 hE8 h8 hn8 HSQ H1 HX hR1
  cases nl with
  | false =>
    have HZ : Hid (derR a (.seq x y) = sd) := Lib.hid (by rw [HZ.out]; rfl)
    generalize hz : sd.tr = z at *
    have HZ := Lib.hid (HZ.out ▸ hz : (derR a (.seq x y)).tr = z)
    clear hz
    go_wp2_with (first | ((with_reducible refine hnl.mono ?_); rintro e W5 ⟨rfl, e5⟩) | (with_reducible refine wpList_store_blk _ rfl 35 _ _ rfl b3 35 _ _ rfl rfl (heap_ext e5 HB8.out.1) (by kernel_rfl) (by kernel_rfl) (by kernel_rfl) ?_; intro w9 h9 g9))
    refine bodyPost_ret (results_cell_row rfl _ _ b3 35 _ (0, 0) _ (by simp [Act.put]) h9 Tryd.underlying35 rfl (by kernel_rfl)) rfl ?_
    rw [HZ.out]
    have hE9 := HE8.out.trans e5
    exact ⟨A10, c10, rfl, ((HN8.out.ext e5).mono (fun b hb _ => hb.1)).past g9, Below.grown hE9 g9 hE9.size (fun k hk => by cases hk; exact HD.out)⟩
  | true =>
    have HZ : Hid (derR a (.seq x y) = orR sd dy) := Lib.hid (by rw [HZ.out]; rfl)
    go_upto_region 16 with ((with_reducible refine hnl.mono ?_); rintro e W5 ⟨rfl, e5⟩)
    have f0 := fun w' (h : Ext W5 w') => f0 w' (e5.trans h)
    have f1 := fun w' (h : Ext W5 w') => f1 w' (e5.trans h)
    have f2 := fun w' (h : Ext W5 w') => f2 w' (e5.trans h)
    have k2 := fun w1 (h : Ext W5 w1) => k2 w1 (e5.trans h)
    have d0 := fun w1 (h : Ext W5 w1) => d0 w1 (e5.trans h)
    have d1 := fun w1 (h : Ext W5 w1) => d1 w1 (e5.trans h)
    have d2 := fun w1 (h : Ext W5 w1) => d2 w1 (e5.trans h)
    have d3 := fun w1 (h : Ext W5 w1) => d3 w1 (e5.trans h)
    have d4 := fun w1 (h : Ext W5 w1) => d4 w1 (e5.trans h)
    have d5 := fun w1 (h : Ext W5 w1) => d5 w1 (e5.trans h)
    have hR5 := Ext.refl W5
    have HE5 := Lib.hid (HE8.out.trans e5)
    have HB5 := Lib.hid (And.intro (heap_ext e5 HB8.out.1) (heap_ext e5 HB8.out.2))
    have HN5 := Lib.hid (HN8.out.ext e5)
    have HS5 := Lib.hid (HS3.out.ext e5)
    clear e5 hR8 hnl HN8 HB8
    refine wp_region_ext 7 (factsOf [(6, NdF (butS (butS S b3) b5) dy.tr)]) (fun k => ([[], [], [1], [1, 2], [1, 2, 3], [], [1, 2, 3, 4, 5], [0, 1, 2, 3, 4, 5, 6], [0, 1, 2, 3, 4, 5, 6, 7]] : List (List Nat)).getD k []) (by kernel_rfl) (by kernel_rfl) Ext.pre (mono_cons (stays_ndF _ _) (mono_nil)) ?_
    simp only [List.take_succ_cons, List.take_zero]
    repeat (first | (with_reducible refine lexL_quiet' (v := ?_) ?_ ?_ ?_ ?_; rotate_left; (· with_reducible rfl); (· simp [factsOf]); (· intro w1 hw1 _; go_simp; with_reducible rfl); (try simp only [Act.put, List.setIfInBounds_toArray, List.set_cons_zero, List.set_cons_succ])) | (with_reducible refine lexL_skip ?_ ?_; (· simp [Region.wanted, yielded, undef]); (try simp only [Act.put, List.setIfInBounds_toArray, List.set_cons_zero, List.set_cons_succ])) | (with_reducible refine lexL_quiet (v := ?_) ?_ ?_ ?_ ?_; rotate_left; (· simp [Region.wanted, yielded, undef]); (· simp [factsOf]); (· intro w1 hw1 _; go_simp; with_reducible rfl); (try simp only [Act.put, List.setIfInBounds_toArray, List.set_cons_zero, List.set_cons_succ])))
    with_reducible refine lexL_give' (φ := ?_) ?_ ?_ ?_ ?_; rotate_left; (· with_reducible rfl); (· simp only [factsOf, Nat.reduceAdd, ↓reduceIte, Nat.reduceEqDiff]; rfl)
    · intro w5 hw5 _
      go_simp
      refine (H2.out w5 (HE5.out.trans hw5) _ (HS5.out.ext hw5) HY3.out).mono ?_
      rintro e w6 ⟨A, c, rfl, h6, e6⟩
      exact ⟨_, rfl, e6, A, c, rfl, h6⟩
    rintro v6 w5 hw5 ⟨A6, c6, rfl, h6⟩ hk2
    clear hk2 hw5 h6 w5
    (try simp only [Act.put, List.setIfInBounds_toArray, List.set_cons_zero, List.set_cons_succ])
    repeat (first | (with_reducible refine lexL_quiet' (v := ?_) ?_ ?_ ?_ ?_; rotate_left; (· with_reducible rfl); (· simp [factsOf]); (· intro w1 hw1 _; go_simp; with_reducible rfl); (try simp only [Act.put, List.setIfInBounds_toArray, List.set_cons_zero, List.set_cons_succ])) | (with_reducible refine lexL_skip ?_ ?_; (· simp [Region.wanted, yielded, undef]); (try simp only [Act.put, List.setIfInBounds_toArray, List.set_cons_zero, List.set_cons_succ])) | (with_reducible refine lexL_quiet (v := ?_) ?_ ?_ ?_ ?_; rotate_left; (· simp [Region.wanted, yielded, undef]); (· simp [factsOf]); (· intro w1 hw1 _; go_simp; with_reducible rfl); (try simp only [Act.put, List.setIfInBounds_toArray, List.set_cons_zero, List.set_cons_succ])))
    with_reducible refine lexL_nil ?_; intro w1 hw1 hk1; simp only [List.drop_succ_cons, List.drop_zero]
    obtain ⟨A', c', hv6, h6⟩ := hk1.get 6 rfl rfl
    have hor : Calls Tryd.prog 81 #[.agg #[.int .u8 (sd.tr.op : Int), .int .i64 sd.tr.n, .slice A10 sd.tr.subs.length c10], .agg #[.int .u8 (dy.tr.op : Int), .int .i64 dy.tr.n, .slice A6 dy.tr.subs.length c6]] w1 (NodeQ (butS (butS S b3) b5) false w1 (orR sd dy).tr) := or_any (HS5.out.ext hw1) (HN5.out.ext hw1) (by rw [← hv6] at h6; exact h6)
    unfold NodeQ ndV at hor
    have HW1 := Lib.hid hw1
    clear hk1 hw1 h6 hv6 f0 f1 f2
    generalize hz : (orR sd dy).tr = z at *
    have HZ := Lib.hid (HZ.out ▸ hz : (derR a (.seq x y)).tr = z)
    clear hz
    go_upto_region 17 with (first | ((with_reducible refine hor.mono ?_); rintro e W6 ⟨A7, c7, rfl, h7, e7⟩) | (with_reducible refine wpList_store_blk _ rfl 35 _ _ rfl b5 35 _ _ rfl rfl (heap_ext (HW1.out.trans e7) HB5.out.2) (by kernel_rfl) (by kernel_rfl) (by kernel_rfl) ?_; intro w9 h9 g9))
    have f0 : ∀ w', Ext w9 w' → w'.cell? ⟨b5, 0, none⟩ = some (.int .u8 (z.op : Int)) := fun w' e => e.cell (cell_of_blk h9 0 rfl)
    have f1 : ∀ w', Ext w9 w' → w'.cell? ⟨b5, 1, none⟩ = some (.int .i64 z.n) := fun w' e => e.cell (cell_of_blk h9 1 rfl)
    have f2 : ∀ w', Ext w9 w' → w'.cell? ⟨b5, 2, none⟩ = some (.slice A7 z.subs.length c7) := fun w' e => e.cell (cell_of_blk h9 2 rfl)
    have hR9 := Ext.refl w9
    have hE6 := (HE5.out.trans HW1.out).trans e7
    have HE9 : Hid (Ext w w9) := Lib.hid (Below.grown hE6 g9 hE6.size (fun k hk => by cases hk; exact HL8.out))
    have HN9 : Hid (NodeB (butS S b3) false w9 z (.agg #[.int .u8 (z.op : Int), .int .i64 z.n, .slice A7 z.subs.length c7])) := Lib.hid (h7.past g9)
    have hb39 : W6.heap[b3]? = some (.cells zNode 35 (0, 0)) := heap_ext (HW1.out.trans e7) HB5.out.1
    have HB9 : Hid (w9.heap[b3]? = some (.cells zNode 35 (0, 0))) := Lib.hid (by
      rw [g9.block b3 (lt_of_block hb39) (fun e => by
        injection e with e
        have h1 := HB5.out.1
        have h2 := HB5.out.2
        rw [e] at h1
        exact absurd HB53.out (by omega))]
      exact hb39)
    clear h9 g9 hE6 e7 h7 hb39 hor
    go_wp2_with (with_reducible refine wpList_store_blk _ rfl 35 _ _ rfl b3 35 _ _ rfl rfl HB9.out (by kernel_rfl) (by kernel_rfl) (by kernel_rfl) ?_; intro w10 h10 g10)
    refine bodyPost_ret (results_cell_row rfl _ _ b3 35 _ (0, 0) _ (by simp [Act.put]) h10 Tryd.underlying35 rfl (by kernel_rfl)) rfl ?_
    rw [HZ.out]
    exact ⟨A7, c7, rfl, HN9.out.past g10, Below.grown HE9.out g10 HE9.out.size (fun k hk => by cases hk; exact HD.out)⟩
theorem der_all (a : Int) : ∀ r : Rx, DerS a r
  | .none => der_none a | .empty => der_empty a | .sym s => der_sym a s
  | .or x y => der_or a x y (der_all a x) (der_all a y) | .and x y => der_and a x y (der_all a x) (der_all a y) | .seq x y => der_seq a x y (der_all a x) (der_all a y)
  | .not x => der_not a x (der_all a x) | .star x => der_star a x (der_all a x)
theorem derive_any {S : Nat → Prop} {r : Rx} {w : World} {A : Option Addr} {c : Nat} (a : Int) (hS : New S w) (h : NodeB S false w r.tr (ndV r.tr A c)) : Calls Tryd.prog 48 #[ndV r.tr A c, .int .i64 a] w (NodeQ S false w (derR a r).tr) := der_all a r S w A c hS h
end Go.Proofs.YtmebgomnmlbgnaaDoor
