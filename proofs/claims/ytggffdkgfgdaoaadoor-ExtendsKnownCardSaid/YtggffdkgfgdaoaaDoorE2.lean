/- ref28.Eval 59: what it computes. (written by gen_e2.py) -/
import Derived.Test.YtggffdkgfgdaoaaDoorE1
namespace Go.Proofs.YtggffdkgfgdaoaaDoor
open Go.RowKit Go.Maps
set_option linter.unusedVariables false
set_option linter.unusedSimpArgs false
attribute [local go_sem] Oper.quietV quietV Oper.gives givesV ext_refl_iff ext_alloc_iff ext_drew_iff ext_drewN_iff
def REvS (vals : List Int) (k : Nat) : Prop := ∀ (t : Tr) (w : World) (v vv : Value) (c : Nat), SizeOf.sizeOf t ≤ k → NodeV w t v → IntsC w vv vals c → shapT vals.length t = true → typT t = true → Calls Tryd.prog 59 #[v, vv] w (REvP w (evR vals t))
theorem min01 (a b : Bool) : min (b01 a) (b01 b) = b01 (a && b) := by cases a <;> cases b <;> rfl
theorem mn01 (a b : Bool) : (if b01 b < b01 a then b01 b else b01 a) = b01 (a && b) := by cases a <;> cases b <;> rfl
theorem mn01' (a b : Bool) : (if b01 a < b01 b then b01 a else b01 b) = b01 (a && b) := by cases a <;> cases b <;> rfl
set_option maxRecDepth 100000 in
set_option maxHeartbeats 4000000 in
theorem rev_op0 (w : World) (vals : List Int) (n : Int) (A : Option Addr) (c0 : Nat) (vv : Value) (r : Int × Bool) (hr : r = finR true n) : Calls Tryd.prog 59 #[.agg #[.int .u8 0, .int .i64 n, .slice A 0 c0], vv] w (REvP w r) := by
  subst hr
  go_enter Tryd.func59, Tryd.ntmps59
  go_upto_region 1 with fail
  refine wp_named ?_
  intro W1 hW1
  have hE1 : Ext w W1 := by rw [hW1]; exact alloc_ext w _
  have hB1 : ∀ w', Ext W1 w' → w'.heap[w.heap.size]? = some (.cells #[.int .u8 0, .int .i64 n, .slice A 0 c0] 68 (0, 0)) := fun w' h => heap_ext h (by rw [hW1]; exact heap_alloc_new _ _)
  have e0 := fun w' (h : Ext W1 w') => cell_of_blk (hB1 w' h) 0 (u := .int .u8 0) rfl
  have e1 := fun w' (h : Ext W1 w') => cell_of_blk (hB1 w' h) 1 (u := .int .i64 n) rfl
  have e2 := fun w' (h : Ext W1 w') => cell_of_blk (hB1 w' h) 2 (u := .slice A 0 c0) rfl
  have hR1 := Ext.refl W1
  clear hB1 hW1
  generalize w.heap.size = b1 at *
  go_upto_region 999 with (with_reducible refine stop_at2 34 ?_)
  refine ⟨?_⟩
  exact reval_t34 w _ true n _ _ _ _ _ _ _ _ _ _ _ _ _ _ _ _ _ _ _ _ _ _ _ _ _ _ _ _ _ _ _ _ _ _ _ _ _ _ _ _ _ _ _ _ _ _ _ _ _ _ _ _ _ _ _ _ _ _ _ _ _ _ _ _ _ _ _ _ _ _ _ _ _ _ _ _ _ _ _ _ _ _ _ _ _ _ _ _ _ _ _ _ _ _ _ _ _ _ _ _ _ _ _ _ _ _ _ _ _ _ _ _ _ _ _ _ _ _ _ _ _ _ _ _ hE1
set_option maxRecDepth 100000 in
set_option maxHeartbeats 4000000 in
theorem rev_op1 (w : World) (vals : List Int) (n : Nat) (A : Option Addr) (c0 : Nat) (vv : Value) (c : Nat) (hv : IntsC w vv vals c) (hn : n < vals.length) (r : Int × Bool) (hr : r = finR true vals[n]) : Calls Tryd.prog 59 #[.agg #[.int .u8 1, .int .i64 n, .slice A 0 c0], vv] w (REvP w r) := by
  subst hr
  obtain ⟨Av, rfl, hc, h3, h4⟩ := hv
  unfold lenMax at h4
  obtain ⟨b, o, hA, _, cx⟩ := hc.at_int hn
  subst hA
  have hni : (n : Int) < (vals.length : Int) := by omega
  generalize vals[n] = z at *
  clear hc
  go_enter Tryd.func59, Tryd.ntmps59
  go_upto_region 1 with fail
  refine wp_named ?_
  intro W1 hW1
  have hE1 : Ext w W1 := by rw [hW1]; exact alloc_ext w _
  have hB1 : ∀ w', Ext W1 w' → w'.heap[w.heap.size]? = some (.cells #[.int .u8 1, .int .i64 (n : Int), .slice A 0 c0] 68 (0, 0)) := fun w' h => heap_ext h (by rw [hW1]; exact heap_alloc_new _ _)
  have e0 := fun w' (h : Ext W1 w') => cell_of_blk (hB1 w' h) 0 (u := .int .u8 1) rfl
  have e1 := fun w' (h : Ext W1 w') => cell_of_blk (hB1 w' h) 1 (u := .int .i64 (n : Int)) rfl
  have e2 := fun w' (h : Ext W1 w') => cell_of_blk (hB1 w' h) 2 (u := .slice A 0 c0) rfl
  have hR1 := Ext.refl W1
  clear hB1 hW1
  generalize w.heap.size = b1 at *
  have cx := hE1.cell cx
  go_upto_region 999 with (with_reducible refine stop_at2 34 ?_)
  refine ⟨?_⟩
  exact reval_t34 w _ true z _ _ _ _ _ _ _ _ _ _ _ _ _ _ _ _ _ _ _ _ _ _ _ _ _ _ _ _ _ _ _ _ _ _ _ _ _ _ _ _ _ _ _ _ _ _ _ _ _ _ _ _ _ _ _ _ _ _ _ _ _ _ _ _ _ _ _ _ _ _ _ _ _ _ _ _ _ _ _ _ _ _ _ _ _ _ _ _ _ _ _ _ _ _ _ _ _ _ _ _ _ _ _ _ _ _ _ _ _ _ _ _ _ _ _ _ _ _ _ _ _ _ _ _ hE1
set_option maxRecDepth 100000 in
set_option maxHeartbeats 4000000 in
theorem rev_op2 (w : World) (n : Int) (b o c0 : Nat) (vv : Value) (p : Nat) (m : Int) (q : Value) (a : Int) (f : Bool) (d0 : w.cell? ⟨b, o, none⟩ = some (.int .u8 (p : Int))) (d1 : w.cell? ⟨b, o + 1, none⟩ = some (.int .i64 m)) (d2 : w.cell? ⟨b, o + 2, none⟩ = some q)
    (ha : Small a) (hc : ∀ W', Ext w W' → Calls Tryd.prog 59 #[.agg #[.int .u8 (p : Int), .int .i64 m, q], vv] W' (REvP W' (a, f))) (r : Int × Bool) (hr : r = finR f (-a)) : Calls Tryd.prog 59 #[.agg #[.int .u8 2, .int .i64 n, .slice (some ⟨b, o, none⟩) 1 c0], vv] w (REvP w r) := by
  subst hr
  unfold Small at ha
  go_enter Tryd.func59, Tryd.ntmps59
  go_upto_region 1 with fail
  refine wp_named ?_
  intro W1 hW1
  have hE1 : Ext w W1 := by rw [hW1]; exact alloc_ext w _
  have hB1 : ∀ w', Ext W1 w' → w'.heap[w.heap.size]? = some (.cells #[.int .u8 2, .int .i64 n, .slice (some ⟨b, o, none⟩) 1 c0] 68 (0, 0)) := fun w' h => heap_ext h (by rw [hW1]; exact heap_alloc_new _ _)
  have e0 := fun w' (h : Ext W1 w') => cell_of_blk (hB1 w' h) 0 (u := .int .u8 2) rfl
  have e1 := fun w' (h : Ext W1 w') => cell_of_blk (hB1 w' h) 1 (u := .int .i64 n) rfl
  have e2 := fun w' (h : Ext W1 w') => cell_of_blk (hB1 w' h) 2 (u := .slice (some ⟨b, o, none⟩) 1 c0) rfl
  have hR1 := Ext.refl W1
  clear hB1 hW1
  generalize w.heap.size = b1 at *
  have d0 := fun w' (h : Ext W1 w') => (hE1.trans h).cell d0
  have d1 := fun w' (h : Ext W1 w') => (hE1.trans h).cell d1
  have d2 := fun w' (h : Ext W1 w') => (hE1.trans h).cell d2
  have hc1 := hc W1 hE1
  clear hc
  go_upto_region 999 with (first
    | (with_reducible refine stop_at2 34 ?_)
    | ((with_reducible refine hc1.mono ?_); rintro e W2 ⟨rfl, e2'⟩)
    | ((with_reducible refine (one_any _ _).mono ?_); rintro e W3 ⟨rfl, rfl⟩))
  refine ⟨?_⟩
  exact reval_t34 w _ f (-a) _ _ _ _ _ _ _ _ _ _ _ _ _ _ _ _ _ _ _ _ _ _ _ _ _ _ _ _ _ _ _ _ _ _ _ _ _ _ _ _ _ _ _ _ _ _ _ _ _ _ _ _ _ _ _ _ _ _ _ _ _ _ _ _ _ _ _ _ _ _ _ _ _ _ _ _ _ _ _ _ _ _ _ _ _ _ _ _ _ _ _ _ _ _ _ _ _ _ _ _ _ _ _ _ _ _ _ _ _ _ _ _ _ _ _ _ _ _ _ _ _ _ _ _ (hE1.trans e2')
set_option maxRecDepth 100000 in
set_option maxHeartbeats 4000000 in
theorem rev_op9 (w : World) (n : Int) (b o c0 : Nat) (vv : Value) (p : Nat) (m : Int) (q : Value) (a : Int) (f : Bool) (d0 : w.cell? ⟨b, o, none⟩ = some (.int .u8 (p : Int))) (d1 : w.cell? ⟨b, o + 1, none⟩ = some (.int .i64 m)) (d2 : w.cell? ⟨b, o + 2, none⟩ = some q)
    (ha : Small a) (hc : ∀ W', Ext w W' → Calls Tryd.prog 59 #[.agg #[.int .u8 (p : Int), .int .i64 m, q], vv] W' (REvP W' (a, f))) (r : Int × Bool) (hr : r = finR f (b01 (a == 0))) : Calls Tryd.prog 59 #[.agg #[.int .u8 9, .int .i64 n, .slice (some ⟨b, o, none⟩) 1 c0], vv] w (REvP w r) := by
  subst hr
  unfold Small at ha
  go_enter Tryd.func59, Tryd.ntmps59
  go_upto_region 1 with fail
  refine wp_named ?_
  intro W1 hW1
  have hE1 : Ext w W1 := by rw [hW1]; exact alloc_ext w _
  have hB1 : ∀ w', Ext W1 w' → w'.heap[w.heap.size]? = some (.cells #[.int .u8 9, .int .i64 n, .slice (some ⟨b, o, none⟩) 1 c0] 68 (0, 0)) := fun w' h => heap_ext h (by rw [hW1]; exact heap_alloc_new _ _)
  have e0 := fun w' (h : Ext W1 w') => cell_of_blk (hB1 w' h) 0 (u := .int .u8 9) rfl
  have e1 := fun w' (h : Ext W1 w') => cell_of_blk (hB1 w' h) 1 (u := .int .i64 n) rfl
  have e2 := fun w' (h : Ext W1 w') => cell_of_blk (hB1 w' h) 2 (u := .slice (some ⟨b, o, none⟩) 1 c0) rfl
  have hR1 := Ext.refl W1
  clear hB1 hW1
  generalize w.heap.size = b1 at *
  have d0 := fun w' (h : Ext W1 w') => (hE1.trans h).cell d0
  have d1 := fun w' (h : Ext W1 w') => (hE1.trans h).cell d1
  have d2 := fun w' (h : Ext W1 w') => (hE1.trans h).cell d2
  have hc1 := hc W1 hE1
  clear hc
  go_upto_region 999 with (first
    | (with_reducible refine stop_at2 34 ?_)
    | ((with_reducible refine hc1.mono ?_); rintro e W2 ⟨rfl, e2'⟩)
    | ((with_reducible refine (one_any _ _).mono ?_); rintro e W3 ⟨rfl, rfl⟩))
  refine ⟨?_⟩
  exact reval_t34 w _ f (b01 (a == 0)) _ _ _ _ _ _ _ _ _ _ _ _ _ _ _ _ _ _ _ _ _ _ _ _ _ _ _ _ _ _ _ _ _ _ _ _ _ _ _ _ _ _ _ _ _ _ _ _ _ _ _ _ _ _ _ _ _ _ _ _ _ _ _ _ _ _ _ _ _ _ _ _ _ _ _ _ _ _ _ _ _ _ _ _ _ _ _ _ _ _ _ _ _ _ _ _ _ _ _ _ _ _ _ _ _ _ _ _ _ _ _ _ _ _ _ _ _ _ _ _ _ _ _ _ (hE1.trans e2')
set_option maxRecDepth 100000 in
set_option maxHeartbeats 4000000 in
theorem rev_op3 (w : World) (n : Int) (b o c0 : Nat) (vv : Value) (p p' : Nat) (m m' : Int) (q q' : Value) (a : Int) (f : Bool) (a' : Int) (f' : Bool) (d0 : w.cell? ⟨b, o, none⟩ = some (.int .u8 (p : Int))) (d1 : w.cell? ⟨b, o + 1, none⟩ = some (.int .i64 m)) (d2 : w.cell? ⟨b, o + 2, none⟩ = some q)
    (g0 : w.cell? ⟨b, o + 3, none⟩ = some (.int .u8 (p' : Int))) (g1 : w.cell? ⟨b, o + 3 + 1, none⟩ = some (.int .i64 m')) (g2 : w.cell? ⟨b, o + 3 + 2, none⟩ = some q')
    (ha : Small a) (ha' : Small a') (hc : ∀ W', Ext w W' → Calls Tryd.prog 59 #[.agg #[.int .u8 (p : Int), .int .i64 m, q], vv] W' (REvP W' (a, f))) (hc' : ∀ W', Ext w W' → Calls Tryd.prog 59 #[.agg #[.int .u8 (p' : Int), .int .i64 m', q'], vv] W' (REvP W' (a', f'))) (r : Int × Bool) (hr : r = finR (f && f') (a + a')) : Calls Tryd.prog 59 #[.agg #[.int .u8 3, .int .i64 n, .slice (some ⟨b, o, none⟩) 2 c0], vv] w (REvP w r) := by
  subst hr
  unfold Small at ha ha'
  go_enter Tryd.func59, Tryd.ntmps59
  go_upto_region 1 with fail
  refine wp_named ?_
  intro W1 hW1
  have hE1 : Ext w W1 := by rw [hW1]; exact alloc_ext w _
  have hB1 : ∀ w', Ext W1 w' → w'.heap[w.heap.size]? = some (.cells #[.int .u8 3, .int .i64 n, .slice (some ⟨b, o, none⟩) 2 c0] 68 (0, 0)) := fun w' h => heap_ext h (by rw [hW1]; exact heap_alloc_new _ _)
  have e0 := fun w' (h : Ext W1 w') => cell_of_blk (hB1 w' h) 0 (u := .int .u8 3) rfl
  have e1 := fun w' (h : Ext W1 w') => cell_of_blk (hB1 w' h) 1 (u := .int .i64 n) rfl
  have e2 := fun w' (h : Ext W1 w') => cell_of_blk (hB1 w' h) 2 (u := .slice (some ⟨b, o, none⟩) 2 c0) rfl
  have hR1 := Ext.refl W1
  clear hB1 hW1
  generalize w.heap.size = b1 at *
  have d0 := fun w' (h : Ext W1 w') => (hE1.trans h).cell d0
  have d1 := fun w' (h : Ext W1 w') => (hE1.trans h).cell d1
  have d2 := fun w' (h : Ext W1 w') => (hE1.trans h).cell d2
  have g0 := fun w' (h : Ext W1 w') => (hE1.trans h).cell g0
  have g1 := fun w' (h : Ext W1 w') => (hE1.trans h).cell g1
  have g2 := fun w' (h : Ext W1 w') => (hE1.trans h).cell g2
  have hc1 := hc W1 hE1
  have hc2 := fun W' (e : Ext W1 W') => hc' W' (hE1.trans e)
  have hmn := mn01 f f'
  have hmn' := mn01' f f'
  have hmin := min01 f f'
  clear hc hc'
  go_upto_region 999 with (first
    | (with_reducible refine stop_at2 34 ?_)
    | ((with_reducible refine hc1.mono ?_); rintro e W2 ⟨rfl, e2'⟩)
    | ((with_reducible refine (hc2 _ e2').mono ?_); rintro e W4 ⟨rfl, e4'⟩; have e14 := e2'.trans e4')
    | ((with_reducible refine (one_any _ _).mono ?_); rintro e W3 ⟨rfl, rfl⟩))
  refine ⟨?_⟩
  exact reval_t34 w _ (f && f') (a + a') _ _ _ _ _ _ _ _ _ _ _ _ _ _ _ _ _ _ _ _ _ _ _ _ _ _ _ _ _ _ _ _ _ _ _ _ _ _ _ _ _ _ _ _ _ _ _ _ _ _ _ _ _ _ _ _ _ _ _ _ _ _ _ _ _ _ _ _ _ _ _ _ _ _ _ _ _ _ _ _ _ _ _ _ _ _ _ _ _ _ _ _ _ _ _ _ _ _ _ _ _ _ _ _ _ _ _ _ _ _ _ _ _ _ _ _ _ _ _ _ _ _ _ _ (hE1.trans e14)
set_option maxRecDepth 100000 in
set_option maxHeartbeats 4000000 in
theorem rev_op4 (w : World) (n : Int) (b o c0 : Nat) (vv : Value) (p p' : Nat) (m m' : Int) (q q' : Value) (a : Int) (f : Bool) (a' : Int) (f' : Bool) (d0 : w.cell? ⟨b, o, none⟩ = some (.int .u8 (p : Int))) (d1 : w.cell? ⟨b, o + 1, none⟩ = some (.int .i64 m)) (d2 : w.cell? ⟨b, o + 2, none⟩ = some q)
    (g0 : w.cell? ⟨b, o + 3, none⟩ = some (.int .u8 (p' : Int))) (g1 : w.cell? ⟨b, o + 3 + 1, none⟩ = some (.int .i64 m')) (g2 : w.cell? ⟨b, o + 3 + 2, none⟩ = some q')
    (ha : Small a) (ha' : Small a') (hc : ∀ W', Ext w W' → Calls Tryd.prog 59 #[.agg #[.int .u8 (p : Int), .int .i64 m, q], vv] W' (REvP W' (a, f))) (hc' : ∀ W', Ext w W' → Calls Tryd.prog 59 #[.agg #[.int .u8 (p' : Int), .int .i64 m', q'], vv] W' (REvP W' (a', f'))) (r : Int × Bool) (hr : r = finR (f && f') (a - a')) : Calls Tryd.prog 59 #[.agg #[.int .u8 4, .int .i64 n, .slice (some ⟨b, o, none⟩) 2 c0], vv] w (REvP w r) := by
  subst hr
  unfold Small at ha ha'
  go_enter Tryd.func59, Tryd.ntmps59
  go_upto_region 1 with fail
  refine wp_named ?_
  intro W1 hW1
  have hE1 : Ext w W1 := by rw [hW1]; exact alloc_ext w _
  have hB1 : ∀ w', Ext W1 w' → w'.heap[w.heap.size]? = some (.cells #[.int .u8 4, .int .i64 n, .slice (some ⟨b, o, none⟩) 2 c0] 68 (0, 0)) := fun w' h => heap_ext h (by rw [hW1]; exact heap_alloc_new _ _)
  have e0 := fun w' (h : Ext W1 w') => cell_of_blk (hB1 w' h) 0 (u := .int .u8 4) rfl
  have e1 := fun w' (h : Ext W1 w') => cell_of_blk (hB1 w' h) 1 (u := .int .i64 n) rfl
  have e2 := fun w' (h : Ext W1 w') => cell_of_blk (hB1 w' h) 2 (u := .slice (some ⟨b, o, none⟩) 2 c0) rfl
  have hR1 := Ext.refl W1
  clear hB1 hW1
  generalize w.heap.size = b1 at *
  have d0 := fun w' (h : Ext W1 w') => (hE1.trans h).cell d0
  have d1 := fun w' (h : Ext W1 w') => (hE1.trans h).cell d1
  have d2 := fun w' (h : Ext W1 w') => (hE1.trans h).cell d2
  have g0 := fun w' (h : Ext W1 w') => (hE1.trans h).cell g0
  have g1 := fun w' (h : Ext W1 w') => (hE1.trans h).cell g1
  have g2 := fun w' (h : Ext W1 w') => (hE1.trans h).cell g2
  have hc1 := hc W1 hE1
  have hc2 := fun W' (e : Ext W1 W') => hc' W' (hE1.trans e)
  have hmn := mn01 f f'
  have hmn' := mn01' f f'
  have hmin := min01 f f'
  clear hc hc'
  go_upto_region 999 with (first
    | (with_reducible refine stop_at2 34 ?_)
    | ((with_reducible refine hc1.mono ?_); rintro e W2 ⟨rfl, e2'⟩)
    | ((with_reducible refine (hc2 _ e2').mono ?_); rintro e W4 ⟨rfl, e4'⟩; have e14 := e2'.trans e4')
    | ((with_reducible refine (one_any _ _).mono ?_); rintro e W3 ⟨rfl, rfl⟩))
  refine ⟨?_⟩
  exact reval_t34 w _ (f && f') (a - a') _ _ _ _ _ _ _ _ _ _ _ _ _ _ _ _ _ _ _ _ _ _ _ _ _ _ _ _ _ _ _ _ _ _ _ _ _ _ _ _ _ _ _ _ _ _ _ _ _ _ _ _ _ _ _ _ _ _ _ _ _ _ _ _ _ _ _ _ _ _ _ _ _ _ _ _ _ _ _ _ _ _ _ _ _ _ _ _ _ _ _ _ _ _ _ _ _ _ _ _ _ _ _ _ _ _ _ _ _ _ _ _ _ _ _ _ _ _ _ _ _ _ _ _ (hE1.trans e14)
set_option maxRecDepth 100000 in
set_option maxHeartbeats 4000000 in
theorem rev_op5 (w : World) (n : Int) (b o c0 : Nat) (vv : Value) (p p' : Nat) (m m' : Int) (q q' : Value) (a : Int) (f : Bool) (a' : Int) (f' : Bool) (d0 : w.cell? ⟨b, o, none⟩ = some (.int .u8 (p : Int))) (d1 : w.cell? ⟨b, o + 1, none⟩ = some (.int .i64 m)) (d2 : w.cell? ⟨b, o + 2, none⟩ = some q)
    (g0 : w.cell? ⟨b, o + 3, none⟩ = some (.int .u8 (p' : Int))) (g1 : w.cell? ⟨b, o + 3 + 1, none⟩ = some (.int .i64 m')) (g2 : w.cell? ⟨b, o + 3 + 2, none⟩ = some q')
    (ha : Small a) (ha' : Small a') (hc : ∀ W', Ext w W' → Calls Tryd.prog 59 #[.agg #[.int .u8 (p : Int), .int .i64 m, q], vv] W' (REvP W' (a, f))) (hc' : ∀ W', Ext w W' → Calls Tryd.prog 59 #[.agg #[.int .u8 (p' : Int), .int .i64 m', q'], vv] W' (REvP W' (a', f'))) (r : Int × Bool) (hr : r = finR (f && f') (a * a')) : Calls Tryd.prog 59 #[.agg #[.int .u8 5, .int .i64 n, .slice (some ⟨b, o, none⟩) 2 c0], vv] w (REvP w r) := by
  subst hr
  unfold Small at ha ha'
  have hmf := mul_fits ha ha'
  have hw5 : IntKind.i64.wrap (a * a') = a * a' := by rw [IntKind.wrap_i64]; omega
  go_enter Tryd.func59, Tryd.ntmps59
  go_upto_region 1 with fail
  refine wp_named ?_
  intro W1 hW1
  have hE1 : Ext w W1 := by rw [hW1]; exact alloc_ext w _
  have hB1 : ∀ w', Ext W1 w' → w'.heap[w.heap.size]? = some (.cells #[.int .u8 5, .int .i64 n, .slice (some ⟨b, o, none⟩) 2 c0] 68 (0, 0)) := fun w' h => heap_ext h (by rw [hW1]; exact heap_alloc_new _ _)
  have e0 := fun w' (h : Ext W1 w') => cell_of_blk (hB1 w' h) 0 (u := .int .u8 5) rfl
  have e1 := fun w' (h : Ext W1 w') => cell_of_blk (hB1 w' h) 1 (u := .int .i64 n) rfl
  have e2 := fun w' (h : Ext W1 w') => cell_of_blk (hB1 w' h) 2 (u := .slice (some ⟨b, o, none⟩) 2 c0) rfl
  have hR1 := Ext.refl W1
  clear hB1 hW1
  generalize w.heap.size = b1 at *
  have d0 := fun w' (h : Ext W1 w') => (hE1.trans h).cell d0
  have d1 := fun w' (h : Ext W1 w') => (hE1.trans h).cell d1
  have d2 := fun w' (h : Ext W1 w') => (hE1.trans h).cell d2
  have g0 := fun w' (h : Ext W1 w') => (hE1.trans h).cell g0
  have g1 := fun w' (h : Ext W1 w') => (hE1.trans h).cell g1
  have g2 := fun w' (h : Ext W1 w') => (hE1.trans h).cell g2
  have hc1 := hc W1 hE1
  have hc2 := fun W' (e : Ext W1 W') => hc' W' (hE1.trans e)
  have hmn := mn01 f f'
  have hmn' := mn01' f f'
  have hmin := min01 f f'
  clear hc hc'
  go_upto_region 999 with (first
    | (with_reducible refine stop_at2 34 ?_)
    | ((with_reducible refine hc1.mono ?_); rintro e W2 ⟨rfl, e2'⟩)
    | ((with_reducible refine (hc2 _ e2').mono ?_); rintro e W4 ⟨rfl, e4'⟩; have e14 := e2'.trans e4')
    | ((with_reducible refine (one_any _ _).mono ?_); rintro e W3 ⟨rfl, rfl⟩))
  refine ⟨?_⟩
  exact reval_t34 w _ (f && f') (a * a') _ _ _ _ _ _ _ _ _ _ _ _ _ _ _ _ _ _ _ _ _ _ _ _ _ _ _ _ _ _ _ _ _ _ _ _ _ _ _ _ _ _ _ _ _ _ _ _ _ _ _ _ _ _ _ _ _ _ _ _ _ _ _ _ _ _ _ _ _ _ _ _ _ _ _ _ _ _ _ _ _ _ _ _ _ _ _ _ _ _ _ _ _ _ _ _ _ _ _ _ _ _ _ _ _ _ _ _ _ _ _ _ _ _ _ _ _ _ _ _ _ _ _ _ (hE1.trans e14)
set_option maxRecDepth 100000 in
set_option maxHeartbeats 4000000 in
theorem rev_op6 (w : World) (n : Int) (b o c0 : Nat) (vv : Value) (p p' : Nat) (m m' : Int) (q q' : Value) (a : Int) (f : Bool) (a' : Int) (f' : Bool) (d0 : w.cell? ⟨b, o, none⟩ = some (.int .u8 (p : Int))) (d1 : w.cell? ⟨b, o + 1, none⟩ = some (.int .i64 m)) (d2 : w.cell? ⟨b, o + 2, none⟩ = some q)
    (g0 : w.cell? ⟨b, o + 3, none⟩ = some (.int .u8 (p' : Int))) (g1 : w.cell? ⟨b, o + 3 + 1, none⟩ = some (.int .i64 m')) (g2 : w.cell? ⟨b, o + 3 + 2, none⟩ = some q')
    (ha : Small a) (ha' : Small a') (hc : ∀ W', Ext w W' → Calls Tryd.prog 59 #[.agg #[.int .u8 (p : Int), .int .i64 m, q], vv] W' (REvP W' (a, f))) (hc' : ∀ W', Ext w W' → Calls Tryd.prog 59 #[.agg #[.int .u8 (p' : Int), .int .i64 m', q'], vv] W' (REvP W' (a', f'))) (r : Int × Bool) (hr : r = finR (f && f') (b01 (a == a'))) : Calls Tryd.prog 59 #[.agg #[.int .u8 6, .int .i64 n, .slice (some ⟨b, o, none⟩) 2 c0], vv] w (REvP w r) := by
  subst hr
  unfold Small at ha ha'
  go_enter Tryd.func59, Tryd.ntmps59
  go_upto_region 1 with fail
  refine wp_named ?_
  intro W1 hW1
  have hE1 : Ext w W1 := by rw [hW1]; exact alloc_ext w _
  have hB1 : ∀ w', Ext W1 w' → w'.heap[w.heap.size]? = some (.cells #[.int .u8 6, .int .i64 n, .slice (some ⟨b, o, none⟩) 2 c0] 68 (0, 0)) := fun w' h => heap_ext h (by rw [hW1]; exact heap_alloc_new _ _)
  have e0 := fun w' (h : Ext W1 w') => cell_of_blk (hB1 w' h) 0 (u := .int .u8 6) rfl
  have e1 := fun w' (h : Ext W1 w') => cell_of_blk (hB1 w' h) 1 (u := .int .i64 n) rfl
  have e2 := fun w' (h : Ext W1 w') => cell_of_blk (hB1 w' h) 2 (u := .slice (some ⟨b, o, none⟩) 2 c0) rfl
  have hR1 := Ext.refl W1
  clear hB1 hW1
  generalize w.heap.size = b1 at *
  have d0 := fun w' (h : Ext W1 w') => (hE1.trans h).cell d0
  have d1 := fun w' (h : Ext W1 w') => (hE1.trans h).cell d1
  have d2 := fun w' (h : Ext W1 w') => (hE1.trans h).cell d2
  have g0 := fun w' (h : Ext W1 w') => (hE1.trans h).cell g0
  have g1 := fun w' (h : Ext W1 w') => (hE1.trans h).cell g1
  have g2 := fun w' (h : Ext W1 w') => (hE1.trans h).cell g2
  have hc1 := hc W1 hE1
  have hc2 := fun W' (e : Ext W1 W') => hc' W' (hE1.trans e)
  have hmn := mn01 f f'
  have hmn' := mn01' f f'
  have hmin := min01 f f'
  clear hc hc'
  go_upto_region 999 with (first
    | (with_reducible refine stop_at2 34 ?_)
    | ((with_reducible refine hc1.mono ?_); rintro e W2 ⟨rfl, e2'⟩)
    | ((with_reducible refine (hc2 _ e2').mono ?_); rintro e W4 ⟨rfl, e4'⟩; have e14 := e2'.trans e4')
    | ((with_reducible refine (one_any _ _).mono ?_); rintro e W3 ⟨rfl, rfl⟩))
  refine ⟨?_⟩
  exact reval_t34 w _ (f && f') (b01 (a == a')) _ _ _ _ _ _ _ _ _ _ _ _ _ _ _ _ _ _ _ _ _ _ _ _ _ _ _ _ _ _ _ _ _ _ _ _ _ _ _ _ _ _ _ _ _ _ _ _ _ _ _ _ _ _ _ _ _ _ _ _ _ _ _ _ _ _ _ _ _ _ _ _ _ _ _ _ _ _ _ _ _ _ _ _ _ _ _ _ _ _ _ _ _ _ _ _ _ _ _ _ _ _ _ _ _ _ _ _ _ _ _ _ _ _ _ _ _ _ _ _ _ _ _ _ (hE1.trans e14)
set_option maxRecDepth 100000 in
set_option maxHeartbeats 4000000 in
theorem rev_op7 (w : World) (n : Int) (b o c0 : Nat) (vv : Value) (p p' : Nat) (m m' : Int) (q q' : Value) (a : Int) (f : Bool) (a' : Int) (f' : Bool) (d0 : w.cell? ⟨b, o, none⟩ = some (.int .u8 (p : Int))) (d1 : w.cell? ⟨b, o + 1, none⟩ = some (.int .i64 m)) (d2 : w.cell? ⟨b, o + 2, none⟩ = some q)
    (g0 : w.cell? ⟨b, o + 3, none⟩ = some (.int .u8 (p' : Int))) (g1 : w.cell? ⟨b, o + 3 + 1, none⟩ = some (.int .i64 m')) (g2 : w.cell? ⟨b, o + 3 + 2, none⟩ = some q')
    (ha : Small a) (ha' : Small a') (hc : ∀ W', Ext w W' → Calls Tryd.prog 59 #[.agg #[.int .u8 (p : Int), .int .i64 m, q], vv] W' (REvP W' (a, f))) (hc' : ∀ W', Ext w W' → Calls Tryd.prog 59 #[.agg #[.int .u8 (p' : Int), .int .i64 m', q'], vv] W' (REvP W' (a', f'))) (r : Int × Bool) (hr : r = finR (f && f') (b01 (decide (a < a')))) : Calls Tryd.prog 59 #[.agg #[.int .u8 7, .int .i64 n, .slice (some ⟨b, o, none⟩) 2 c0], vv] w (REvP w r) := by
  subst hr
  unfold Small at ha ha'
  go_enter Tryd.func59, Tryd.ntmps59
  go_upto_region 1 with fail
  refine wp_named ?_
  intro W1 hW1
  have hE1 : Ext w W1 := by rw [hW1]; exact alloc_ext w _
  have hB1 : ∀ w', Ext W1 w' → w'.heap[w.heap.size]? = some (.cells #[.int .u8 7, .int .i64 n, .slice (some ⟨b, o, none⟩) 2 c0] 68 (0, 0)) := fun w' h => heap_ext h (by rw [hW1]; exact heap_alloc_new _ _)
  have e0 := fun w' (h : Ext W1 w') => cell_of_blk (hB1 w' h) 0 (u := .int .u8 7) rfl
  have e1 := fun w' (h : Ext W1 w') => cell_of_blk (hB1 w' h) 1 (u := .int .i64 n) rfl
  have e2 := fun w' (h : Ext W1 w') => cell_of_blk (hB1 w' h) 2 (u := .slice (some ⟨b, o, none⟩) 2 c0) rfl
  have hR1 := Ext.refl W1
  clear hB1 hW1
  generalize w.heap.size = b1 at *
  have d0 := fun w' (h : Ext W1 w') => (hE1.trans h).cell d0
  have d1 := fun w' (h : Ext W1 w') => (hE1.trans h).cell d1
  have d2 := fun w' (h : Ext W1 w') => (hE1.trans h).cell d2
  have g0 := fun w' (h : Ext W1 w') => (hE1.trans h).cell g0
  have g1 := fun w' (h : Ext W1 w') => (hE1.trans h).cell g1
  have g2 := fun w' (h : Ext W1 w') => (hE1.trans h).cell g2
  have hc1 := hc W1 hE1
  have hc2 := fun W' (e : Ext W1 W') => hc' W' (hE1.trans e)
  have hmn := mn01 f f'
  have hmn' := mn01' f f'
  have hmin := min01 f f'
  clear hc hc'
  go_upto_region 999 with (first
    | (with_reducible refine stop_at2 34 ?_)
    | ((with_reducible refine hc1.mono ?_); rintro e W2 ⟨rfl, e2'⟩)
    | ((with_reducible refine (hc2 _ e2').mono ?_); rintro e W4 ⟨rfl, e4'⟩; have e14 := e2'.trans e4')
    | ((with_reducible refine (one_any _ _).mono ?_); rintro e W3 ⟨rfl, rfl⟩))
  refine ⟨?_⟩
  exact reval_t34 w _ (f && f') (b01 (decide (a < a'))) _ _ _ _ _ _ _ _ _ _ _ _ _ _ _ _ _ _ _ _ _ _ _ _ _ _ _ _ _ _ _ _ _ _ _ _ _ _ _ _ _ _ _ _ _ _ _ _ _ _ _ _ _ _ _ _ _ _ _ _ _ _ _ _ _ _ _ _ _ _ _ _ _ _ _ _ _ _ _ _ _ _ _ _ _ _ _ _ _ _ _ _ _ _ _ _ _ _ _ _ _ _ _ _ _ _ _ _ _ _ _ _ _ _ _ _ _ _ _ _ _ _ _ _ (hE1.trans e14)
set_option maxRecDepth 100000 in
set_option maxHeartbeats 4000000 in
theorem rev_op8 (w : World) (n : Int) (b o c0 : Nat) (vv : Value) (p p' : Nat) (m m' : Int) (q q' : Value) (a : Int) (f : Bool) (a' : Int) (f' : Bool) (d0 : w.cell? ⟨b, o, none⟩ = some (.int .u8 (p : Int))) (d1 : w.cell? ⟨b, o + 1, none⟩ = some (.int .i64 m)) (d2 : w.cell? ⟨b, o + 2, none⟩ = some q)
    (g0 : w.cell? ⟨b, o + 3, none⟩ = some (.int .u8 (p' : Int))) (g1 : w.cell? ⟨b, o + 3 + 1, none⟩ = some (.int .i64 m')) (g2 : w.cell? ⟨b, o + 3 + 2, none⟩ = some q')
    (ha : Small a) (ha' : Small a') (hc : ∀ W', Ext w W' → Calls Tryd.prog 59 #[.agg #[.int .u8 (p : Int), .int .i64 m, q], vv] W' (REvP W' (a, f))) (hc' : ∀ W', Ext w W' → Calls Tryd.prog 59 #[.agg #[.int .u8 (p' : Int), .int .i64 m', q'], vv] W' (REvP W' (a', f'))) (r : Int × Bool) (hr : r = finR (f && f') (b01 (decide (a ≤ a')))) : Calls Tryd.prog 59 #[.agg #[.int .u8 8, .int .i64 n, .slice (some ⟨b, o, none⟩) 2 c0], vv] w (REvP w r) := by
  subst hr
  unfold Small at ha ha'
  go_enter Tryd.func59, Tryd.ntmps59
  go_upto_region 1 with fail
  refine wp_named ?_
  intro W1 hW1
  have hE1 : Ext w W1 := by rw [hW1]; exact alloc_ext w _
  have hB1 : ∀ w', Ext W1 w' → w'.heap[w.heap.size]? = some (.cells #[.int .u8 8, .int .i64 n, .slice (some ⟨b, o, none⟩) 2 c0] 68 (0, 0)) := fun w' h => heap_ext h (by rw [hW1]; exact heap_alloc_new _ _)
  have e0 := fun w' (h : Ext W1 w') => cell_of_blk (hB1 w' h) 0 (u := .int .u8 8) rfl
  have e1 := fun w' (h : Ext W1 w') => cell_of_blk (hB1 w' h) 1 (u := .int .i64 n) rfl
  have e2 := fun w' (h : Ext W1 w') => cell_of_blk (hB1 w' h) 2 (u := .slice (some ⟨b, o, none⟩) 2 c0) rfl
  have hR1 := Ext.refl W1
  clear hB1 hW1
  generalize w.heap.size = b1 at *
  have d0 := fun w' (h : Ext W1 w') => (hE1.trans h).cell d0
  have d1 := fun w' (h : Ext W1 w') => (hE1.trans h).cell d1
  have d2 := fun w' (h : Ext W1 w') => (hE1.trans h).cell d2
  have g0 := fun w' (h : Ext W1 w') => (hE1.trans h).cell g0
  have g1 := fun w' (h : Ext W1 w') => (hE1.trans h).cell g1
  have g2 := fun w' (h : Ext W1 w') => (hE1.trans h).cell g2
  have hc1 := hc W1 hE1
  have hc2 := fun W' (e : Ext W1 W') => hc' W' (hE1.trans e)
  have hmn := mn01 f f'
  have hmn' := mn01' f f'
  have hmin := min01 f f'
  clear hc hc'
  go_upto_region 999 with (first
    | (with_reducible refine stop_at2 34 ?_)
    | ((with_reducible refine hc1.mono ?_); rintro e W2 ⟨rfl, e2'⟩)
    | ((with_reducible refine (hc2 _ e2').mono ?_); rintro e W4 ⟨rfl, e4'⟩; have e14 := e2'.trans e4')
    | ((with_reducible refine (one_any _ _).mono ?_); rintro e W3 ⟨rfl, rfl⟩))
  refine ⟨?_⟩
  exact reval_t34 w _ (f && f') (b01 (decide (a ≤ a'))) _ _ _ _ _ _ _ _ _ _ _ _ _ _ _ _ _ _ _ _ _ _ _ _ _ _ _ _ _ _ _ _ _ _ _ _ _ _ _ _ _ _ _ _ _ _ _ _ _ _ _ _ _ _ _ _ _ _ _ _ _ _ _ _ _ _ _ _ _ _ _ _ _ _ _ _ _ _ _ _ _ _ _ _ _ _ _ _ _ _ _ _ _ _ _ _ _ _ _ _ _ _ _ _ _ _ _ _ _ _ _ _ _ _ _ _ _ _ _ _ _ _ _ _ (hE1.trans e14)
set_option maxRecDepth 100000 in
set_option maxHeartbeats 4000000 in
theorem rev_op10 (w : World) (n : Int) (b o c0 : Nat) (vv : Value) (p p' : Nat) (m m' : Int) (q q' : Value) (a : Int) (f : Bool) (a' : Int) (f' : Bool) (d0 : w.cell? ⟨b, o, none⟩ = some (.int .u8 (p : Int))) (d1 : w.cell? ⟨b, o + 1, none⟩ = some (.int .i64 m)) (d2 : w.cell? ⟨b, o + 2, none⟩ = some q)
    (g0 : w.cell? ⟨b, o + 3, none⟩ = some (.int .u8 (p' : Int))) (g1 : w.cell? ⟨b, o + 3 + 1, none⟩ = some (.int .i64 m')) (g2 : w.cell? ⟨b, o + 3 + 2, none⟩ = some q')
    (ha : Small a) (ha' : Small a') (h01 : a = 0 ∨ a = 1) (h01' : a' = 0 ∨ a' = 1) (hc : ∀ W', Ext w W' → Calls Tryd.prog 59 #[.agg #[.int .u8 (p : Int), .int .i64 m, q], vv] W' (REvP W' (a, f))) (hc' : ∀ W', Ext w W' → Calls Tryd.prog 59 #[.agg #[.int .u8 (p' : Int), .int .i64 m', q'], vv] W' (REvP W' (a', f'))) (r : Int × Bool) (hr : r = finR (f && f') (b01 (a == 1 && a' == 1))) : Calls Tryd.prog 59 #[.agg #[.int .u8 10, .int .i64 n, .slice (some ⟨b, o, none⟩) 2 c0], vv] w (REvP w r) := by
  subst hr
  clear ha ha'
  rcases h01 with rfl | rfl <;> rcases h01' with rfl | rfl
  · go_enter Tryd.func59, Tryd.ntmps59
    go_upto_region 1 with fail
    refine wp_named ?_
    intro W1 hW1
    have hE1 : Ext w W1 := by rw [hW1]; exact alloc_ext w _
    have hB1 : ∀ w', Ext W1 w' → w'.heap[w.heap.size]? = some (.cells #[.int .u8 10, .int .i64 n, .slice (some ⟨b, o, none⟩) 2 c0] 68 (0, 0)) := fun w' h => heap_ext h (by rw [hW1]; exact heap_alloc_new _ _)
    have e0 := fun w' (h : Ext W1 w') => cell_of_blk (hB1 w' h) 0 (u := .int .u8 10) rfl
    have e1 := fun w' (h : Ext W1 w') => cell_of_blk (hB1 w' h) 1 (u := .int .i64 n) rfl
    have e2 := fun w' (h : Ext W1 w') => cell_of_blk (hB1 w' h) 2 (u := .slice (some ⟨b, o, none⟩) 2 c0) rfl
    have hR1 := Ext.refl W1
    clear hB1 hW1
    generalize w.heap.size = b1 at *
    have d0 := fun w' (h : Ext W1 w') => (hE1.trans h).cell d0
    have d1 := fun w' (h : Ext W1 w') => (hE1.trans h).cell d1
    have d2 := fun w' (h : Ext W1 w') => (hE1.trans h).cell d2
    have g0 := fun w' (h : Ext W1 w') => (hE1.trans h).cell g0
    have g1 := fun w' (h : Ext W1 w') => (hE1.trans h).cell g1
    have g2 := fun w' (h : Ext W1 w') => (hE1.trans h).cell g2
    have hc1 := hc W1 hE1
    have hc2 := fun W' (e : Ext W1 W') => hc' W' (hE1.trans e)
    have hmn := mn01 f f'
    have hmn' := mn01' f f'
    have hmin := min01 f f'
    clear hc hc'
    go_upto_region 999 with (first
      | (with_reducible refine stop_at2 34 ?_)
      | ((with_reducible refine hc1.mono ?_); rintro e W2 ⟨rfl, e2'⟩)
      | ((with_reducible refine (hc2 _ e2').mono ?_); rintro e W4 ⟨rfl, e4'⟩; have e14 := e2'.trans e4')
      | ((with_reducible refine (one_any _ _).mono ?_); rintro e W3 ⟨rfl, rfl⟩))
    refine ⟨?_⟩
    exact reval_t34 w _ (f && f') 0 _ _ _ _ _ _ _ _ _ _ _ _ _ _ _ _ _ _ _ _ _ _ _ _ _ _ _ _ _ _ _ _ _ _ _ _ _ _ _ _ _ _ _ _ _ _ _ _ _ _ _ _ _ _ _ _ _ _ _ _ _ _ _ _ _ _ _ _ _ _ _ _ _ _ _ _ _ _ _ _ _ _ _ _ _ _ _ _ _ _ _ _ _ _ _ _ _ _ _ _ _ _ _ _ _ _ _ _ _ _ _ _ _ _ _ _ _ _ _ _ _ _ _ _ (hE1.trans e14)
  · go_enter Tryd.func59, Tryd.ntmps59
    go_upto_region 1 with fail
    refine wp_named ?_
    intro W1 hW1
    have hE1 : Ext w W1 := by rw [hW1]; exact alloc_ext w _
    have hB1 : ∀ w', Ext W1 w' → w'.heap[w.heap.size]? = some (.cells #[.int .u8 10, .int .i64 n, .slice (some ⟨b, o, none⟩) 2 c0] 68 (0, 0)) := fun w' h => heap_ext h (by rw [hW1]; exact heap_alloc_new _ _)
    have e0 := fun w' (h : Ext W1 w') => cell_of_blk (hB1 w' h) 0 (u := .int .u8 10) rfl
    have e1 := fun w' (h : Ext W1 w') => cell_of_blk (hB1 w' h) 1 (u := .int .i64 n) rfl
    have e2 := fun w' (h : Ext W1 w') => cell_of_blk (hB1 w' h) 2 (u := .slice (some ⟨b, o, none⟩) 2 c0) rfl
    have hR1 := Ext.refl W1
    clear hB1 hW1
    generalize w.heap.size = b1 at *
    have d0 := fun w' (h : Ext W1 w') => (hE1.trans h).cell d0
    have d1 := fun w' (h : Ext W1 w') => (hE1.trans h).cell d1
    have d2 := fun w' (h : Ext W1 w') => (hE1.trans h).cell d2
    have g0 := fun w' (h : Ext W1 w') => (hE1.trans h).cell g0
    have g1 := fun w' (h : Ext W1 w') => (hE1.trans h).cell g1
    have g2 := fun w' (h : Ext W1 w') => (hE1.trans h).cell g2
    have hc1 := hc W1 hE1
    have hc2 := fun W' (e : Ext W1 W') => hc' W' (hE1.trans e)
    have hmn := mn01 f f'
    have hmn' := mn01' f f'
    have hmin := min01 f f'
    clear hc hc'
    go_upto_region 999 with (first
      | (with_reducible refine stop_at2 34 ?_)
      | ((with_reducible refine hc1.mono ?_); rintro e W2 ⟨rfl, e2'⟩)
      | ((with_reducible refine (hc2 _ e2').mono ?_); rintro e W4 ⟨rfl, e4'⟩; have e14 := e2'.trans e4')
      | ((with_reducible refine (one_any _ _).mono ?_); rintro e W3 ⟨rfl, rfl⟩))
    refine ⟨?_⟩
    exact reval_t34 w _ (f && f') 0 _ _ _ _ _ _ _ _ _ _ _ _ _ _ _ _ _ _ _ _ _ _ _ _ _ _ _ _ _ _ _ _ _ _ _ _ _ _ _ _ _ _ _ _ _ _ _ _ _ _ _ _ _ _ _ _ _ _ _ _ _ _ _ _ _ _ _ _ _ _ _ _ _ _ _ _ _ _ _ _ _ _ _ _ _ _ _ _ _ _ _ _ _ _ _ _ _ _ _ _ _ _ _ _ _ _ _ _ _ _ _ _ _ _ _ _ _ _ _ _ _ _ _ _ (hE1.trans e14)
  · go_enter Tryd.func59, Tryd.ntmps59
    go_upto_region 1 with fail
    refine wp_named ?_
    intro W1 hW1
    have hE1 : Ext w W1 := by rw [hW1]; exact alloc_ext w _
    have hB1 : ∀ w', Ext W1 w' → w'.heap[w.heap.size]? = some (.cells #[.int .u8 10, .int .i64 n, .slice (some ⟨b, o, none⟩) 2 c0] 68 (0, 0)) := fun w' h => heap_ext h (by rw [hW1]; exact heap_alloc_new _ _)
    have e0 := fun w' (h : Ext W1 w') => cell_of_blk (hB1 w' h) 0 (u := .int .u8 10) rfl
    have e1 := fun w' (h : Ext W1 w') => cell_of_blk (hB1 w' h) 1 (u := .int .i64 n) rfl
    have e2 := fun w' (h : Ext W1 w') => cell_of_blk (hB1 w' h) 2 (u := .slice (some ⟨b, o, none⟩) 2 c0) rfl
    have hR1 := Ext.refl W1
    clear hB1 hW1
    generalize w.heap.size = b1 at *
    have d0 := fun w' (h : Ext W1 w') => (hE1.trans h).cell d0
    have d1 := fun w' (h : Ext W1 w') => (hE1.trans h).cell d1
    have d2 := fun w' (h : Ext W1 w') => (hE1.trans h).cell d2
    have g0 := fun w' (h : Ext W1 w') => (hE1.trans h).cell g0
    have g1 := fun w' (h : Ext W1 w') => (hE1.trans h).cell g1
    have g2 := fun w' (h : Ext W1 w') => (hE1.trans h).cell g2
    have hc1 := hc W1 hE1
    have hc2 := fun W' (e : Ext W1 W') => hc' W' (hE1.trans e)
    have hmn := mn01 f f'
    have hmn' := mn01' f f'
    have hmin := min01 f f'
    clear hc hc'
    go_upto_region 999 with (first
      | (with_reducible refine stop_at2 34 ?_)
      | ((with_reducible refine hc1.mono ?_); rintro e W2 ⟨rfl, e2'⟩)
      | ((with_reducible refine (hc2 _ e2').mono ?_); rintro e W4 ⟨rfl, e4'⟩; have e14 := e2'.trans e4')
      | ((with_reducible refine (one_any _ _).mono ?_); rintro e W3 ⟨rfl, rfl⟩))
    refine ⟨?_⟩
    exact reval_t34 w _ (f && f') 0 _ _ _ _ _ _ _ _ _ _ _ _ _ _ _ _ _ _ _ _ _ _ _ _ _ _ _ _ _ _ _ _ _ _ _ _ _ _ _ _ _ _ _ _ _ _ _ _ _ _ _ _ _ _ _ _ _ _ _ _ _ _ _ _ _ _ _ _ _ _ _ _ _ _ _ _ _ _ _ _ _ _ _ _ _ _ _ _ _ _ _ _ _ _ _ _ _ _ _ _ _ _ _ _ _ _ _ _ _ _ _ _ _ _ _ _ _ _ _ _ _ _ _ _ (hE1.trans e14)
  · go_enter Tryd.func59, Tryd.ntmps59
    go_upto_region 1 with fail
    refine wp_named ?_
    intro W1 hW1
    have hE1 : Ext w W1 := by rw [hW1]; exact alloc_ext w _
    have hB1 : ∀ w', Ext W1 w' → w'.heap[w.heap.size]? = some (.cells #[.int .u8 10, .int .i64 n, .slice (some ⟨b, o, none⟩) 2 c0] 68 (0, 0)) := fun w' h => heap_ext h (by rw [hW1]; exact heap_alloc_new _ _)
    have e0 := fun w' (h : Ext W1 w') => cell_of_blk (hB1 w' h) 0 (u := .int .u8 10) rfl
    have e1 := fun w' (h : Ext W1 w') => cell_of_blk (hB1 w' h) 1 (u := .int .i64 n) rfl
    have e2 := fun w' (h : Ext W1 w') => cell_of_blk (hB1 w' h) 2 (u := .slice (some ⟨b, o, none⟩) 2 c0) rfl
    have hR1 := Ext.refl W1
    clear hB1 hW1
    generalize w.heap.size = b1 at *
    have d0 := fun w' (h : Ext W1 w') => (hE1.trans h).cell d0
    have d1 := fun w' (h : Ext W1 w') => (hE1.trans h).cell d1
    have d2 := fun w' (h : Ext W1 w') => (hE1.trans h).cell d2
    have g0 := fun w' (h : Ext W1 w') => (hE1.trans h).cell g0
    have g1 := fun w' (h : Ext W1 w') => (hE1.trans h).cell g1
    have g2 := fun w' (h : Ext W1 w') => (hE1.trans h).cell g2
    have hc1 := hc W1 hE1
    have hc2 := fun W' (e : Ext W1 W') => hc' W' (hE1.trans e)
    have hmn := mn01 f f'
    have hmn' := mn01' f f'
    have hmin := min01 f f'
    clear hc hc'
    go_upto_region 999 with (first
      | (with_reducible refine stop_at2 34 ?_)
      | ((with_reducible refine hc1.mono ?_); rintro e W2 ⟨rfl, e2'⟩)
      | ((with_reducible refine (hc2 _ e2').mono ?_); rintro e W4 ⟨rfl, e4'⟩; have e14 := e2'.trans e4')
      | ((with_reducible refine (one_any _ _).mono ?_); rintro e W3 ⟨rfl, rfl⟩))
    refine ⟨?_⟩
    exact reval_t34 w _ (f && f') 1 _ _ _ _ _ _ _ _ _ _ _ _ _ _ _ _ _ _ _ _ _ _ _ _ _ _ _ _ _ _ _ _ _ _ _ _ _ _ _ _ _ _ _ _ _ _ _ _ _ _ _ _ _ _ _ _ _ _ _ _ _ _ _ _ _ _ _ _ _ _ _ _ _ _ _ _ _ _ _ _ _ _ _ _ _ _ _ _ _ _ _ _ _ _ _ _ _ _ _ _ _ _ _ _ _ _ _ _ _ _ _ _ _ _ _ _ _ _ _ _ _ _ _ _ (hE1.trans e14)
set_option maxRecDepth 100000 in
set_option maxHeartbeats 4000000 in
theorem rev_op11 (w : World) (n : Int) (b o c0 : Nat) (vv : Value) (p p' : Nat) (m m' : Int) (q q' : Value) (a : Int) (f : Bool) (a' : Int) (f' : Bool) (d0 : w.cell? ⟨b, o, none⟩ = some (.int .u8 (p : Int))) (d1 : w.cell? ⟨b, o + 1, none⟩ = some (.int .i64 m)) (d2 : w.cell? ⟨b, o + 2, none⟩ = some q)
    (g0 : w.cell? ⟨b, o + 3, none⟩ = some (.int .u8 (p' : Int))) (g1 : w.cell? ⟨b, o + 3 + 1, none⟩ = some (.int .i64 m')) (g2 : w.cell? ⟨b, o + 3 + 2, none⟩ = some q')
    (ha : Small a) (ha' : Small a') (h01 : a = 0 ∨ a = 1) (h01' : a' = 0 ∨ a' = 1) (hc : ∀ W', Ext w W' → Calls Tryd.prog 59 #[.agg #[.int .u8 (p : Int), .int .i64 m, q], vv] W' (REvP W' (a, f))) (hc' : ∀ W', Ext w W' → Calls Tryd.prog 59 #[.agg #[.int .u8 (p' : Int), .int .i64 m', q'], vv] W' (REvP W' (a', f'))) (r : Int × Bool) (hr : r = finR (f && f') (b01 (a == 1 || a' == 1))) : Calls Tryd.prog 59 #[.agg #[.int .u8 11, .int .i64 n, .slice (some ⟨b, o, none⟩) 2 c0], vv] w (REvP w r) := by
  subst hr
  clear ha ha'
  rcases h01 with rfl | rfl <;> rcases h01' with rfl | rfl
  · go_enter Tryd.func59, Tryd.ntmps59
    go_upto_region 1 with fail
    refine wp_named ?_
    intro W1 hW1
    have hE1 : Ext w W1 := by rw [hW1]; exact alloc_ext w _
    have hB1 : ∀ w', Ext W1 w' → w'.heap[w.heap.size]? = some (.cells #[.int .u8 11, .int .i64 n, .slice (some ⟨b, o, none⟩) 2 c0] 68 (0, 0)) := fun w' h => heap_ext h (by rw [hW1]; exact heap_alloc_new _ _)
    have e0 := fun w' (h : Ext W1 w') => cell_of_blk (hB1 w' h) 0 (u := .int .u8 11) rfl
    have e1 := fun w' (h : Ext W1 w') => cell_of_blk (hB1 w' h) 1 (u := .int .i64 n) rfl
    have e2 := fun w' (h : Ext W1 w') => cell_of_blk (hB1 w' h) 2 (u := .slice (some ⟨b, o, none⟩) 2 c0) rfl
    have hR1 := Ext.refl W1
    clear hB1 hW1
    generalize w.heap.size = b1 at *
    have d0 := fun w' (h : Ext W1 w') => (hE1.trans h).cell d0
    have d1 := fun w' (h : Ext W1 w') => (hE1.trans h).cell d1
    have d2 := fun w' (h : Ext W1 w') => (hE1.trans h).cell d2
    have g0 := fun w' (h : Ext W1 w') => (hE1.trans h).cell g0
    have g1 := fun w' (h : Ext W1 w') => (hE1.trans h).cell g1
    have g2 := fun w' (h : Ext W1 w') => (hE1.trans h).cell g2
    have hc1 := hc W1 hE1
    have hc2 := fun W' (e : Ext W1 W') => hc' W' (hE1.trans e)
    have hmn := mn01 f f'
    have hmn' := mn01' f f'
    have hmin := min01 f f'
    clear hc hc'
    go_upto_region 999 with (first
      | (with_reducible refine stop_at2 34 ?_)
      | ((with_reducible refine hc1.mono ?_); rintro e W2 ⟨rfl, e2'⟩)
      | ((with_reducible refine (hc2 _ e2').mono ?_); rintro e W4 ⟨rfl, e4'⟩; have e14 := e2'.trans e4')
      | ((with_reducible refine (one_any _ _).mono ?_); rintro e W3 ⟨rfl, rfl⟩))
    refine ⟨?_⟩
    exact reval_t34 w _ (f && f') 0 _ _ _ _ _ _ _ _ _ _ _ _ _ _ _ _ _ _ _ _ _ _ _ _ _ _ _ _ _ _ _ _ _ _ _ _ _ _ _ _ _ _ _ _ _ _ _ _ _ _ _ _ _ _ _ _ _ _ _ _ _ _ _ _ _ _ _ _ _ _ _ _ _ _ _ _ _ _ _ _ _ _ _ _ _ _ _ _ _ _ _ _ _ _ _ _ _ _ _ _ _ _ _ _ _ _ _ _ _ _ _ _ _ _ _ _ _ _ _ _ _ _ _ _ (hE1.trans e14)
  · go_enter Tryd.func59, Tryd.ntmps59
    go_upto_region 1 with fail
    refine wp_named ?_
    intro W1 hW1
    have hE1 : Ext w W1 := by rw [hW1]; exact alloc_ext w _
    have hB1 : ∀ w', Ext W1 w' → w'.heap[w.heap.size]? = some (.cells #[.int .u8 11, .int .i64 n, .slice (some ⟨b, o, none⟩) 2 c0] 68 (0, 0)) := fun w' h => heap_ext h (by rw [hW1]; exact heap_alloc_new _ _)
    have e0 := fun w' (h : Ext W1 w') => cell_of_blk (hB1 w' h) 0 (u := .int .u8 11) rfl
    have e1 := fun w' (h : Ext W1 w') => cell_of_blk (hB1 w' h) 1 (u := .int .i64 n) rfl
    have e2 := fun w' (h : Ext W1 w') => cell_of_blk (hB1 w' h) 2 (u := .slice (some ⟨b, o, none⟩) 2 c0) rfl
    have hR1 := Ext.refl W1
    clear hB1 hW1
    generalize w.heap.size = b1 at *
    have d0 := fun w' (h : Ext W1 w') => (hE1.trans h).cell d0
    have d1 := fun w' (h : Ext W1 w') => (hE1.trans h).cell d1
    have d2 := fun w' (h : Ext W1 w') => (hE1.trans h).cell d2
    have g0 := fun w' (h : Ext W1 w') => (hE1.trans h).cell g0
    have g1 := fun w' (h : Ext W1 w') => (hE1.trans h).cell g1
    have g2 := fun w' (h : Ext W1 w') => (hE1.trans h).cell g2
    have hc1 := hc W1 hE1
    have hc2 := fun W' (e : Ext W1 W') => hc' W' (hE1.trans e)
    have hmn := mn01 f f'
    have hmn' := mn01' f f'
    have hmin := min01 f f'
    clear hc hc'
    go_upto_region 999 with (first
      | (with_reducible refine stop_at2 34 ?_)
      | ((with_reducible refine hc1.mono ?_); rintro e W2 ⟨rfl, e2'⟩)
      | ((with_reducible refine (hc2 _ e2').mono ?_); rintro e W4 ⟨rfl, e4'⟩; have e14 := e2'.trans e4')
      | ((with_reducible refine (one_any _ _).mono ?_); rintro e W3 ⟨rfl, rfl⟩))
    refine ⟨?_⟩
    exact reval_t34 w _ (f && f') 1 _ _ _ _ _ _ _ _ _ _ _ _ _ _ _ _ _ _ _ _ _ _ _ _ _ _ _ _ _ _ _ _ _ _ _ _ _ _ _ _ _ _ _ _ _ _ _ _ _ _ _ _ _ _ _ _ _ _ _ _ _ _ _ _ _ _ _ _ _ _ _ _ _ _ _ _ _ _ _ _ _ _ _ _ _ _ _ _ _ _ _ _ _ _ _ _ _ _ _ _ _ _ _ _ _ _ _ _ _ _ _ _ _ _ _ _ _ _ _ _ _ _ _ _ (hE1.trans e14)
  · go_enter Tryd.func59, Tryd.ntmps59
    go_upto_region 1 with fail
    refine wp_named ?_
    intro W1 hW1
    have hE1 : Ext w W1 := by rw [hW1]; exact alloc_ext w _
    have hB1 : ∀ w', Ext W1 w' → w'.heap[w.heap.size]? = some (.cells #[.int .u8 11, .int .i64 n, .slice (some ⟨b, o, none⟩) 2 c0] 68 (0, 0)) := fun w' h => heap_ext h (by rw [hW1]; exact heap_alloc_new _ _)
    have e0 := fun w' (h : Ext W1 w') => cell_of_blk (hB1 w' h) 0 (u := .int .u8 11) rfl
    have e1 := fun w' (h : Ext W1 w') => cell_of_blk (hB1 w' h) 1 (u := .int .i64 n) rfl
    have e2 := fun w' (h : Ext W1 w') => cell_of_blk (hB1 w' h) 2 (u := .slice (some ⟨b, o, none⟩) 2 c0) rfl
    have hR1 := Ext.refl W1
    clear hB1 hW1
    generalize w.heap.size = b1 at *
    have d0 := fun w' (h : Ext W1 w') => (hE1.trans h).cell d0
    have d1 := fun w' (h : Ext W1 w') => (hE1.trans h).cell d1
    have d2 := fun w' (h : Ext W1 w') => (hE1.trans h).cell d2
    have g0 := fun w' (h : Ext W1 w') => (hE1.trans h).cell g0
    have g1 := fun w' (h : Ext W1 w') => (hE1.trans h).cell g1
    have g2 := fun w' (h : Ext W1 w') => (hE1.trans h).cell g2
    have hc1 := hc W1 hE1
    have hc2 := fun W' (e : Ext W1 W') => hc' W' (hE1.trans e)
    have hmn := mn01 f f'
    have hmn' := mn01' f f'
    have hmin := min01 f f'
    clear hc hc'
    go_upto_region 999 with (first
      | (with_reducible refine stop_at2 34 ?_)
      | ((with_reducible refine hc1.mono ?_); rintro e W2 ⟨rfl, e2'⟩)
      | ((with_reducible refine (hc2 _ e2').mono ?_); rintro e W4 ⟨rfl, e4'⟩; have e14 := e2'.trans e4')
      | ((with_reducible refine (one_any _ _).mono ?_); rintro e W3 ⟨rfl, rfl⟩))
    refine ⟨?_⟩
    exact reval_t34 w _ (f && f') 1 _ _ _ _ _ _ _ _ _ _ _ _ _ _ _ _ _ _ _ _ _ _ _ _ _ _ _ _ _ _ _ _ _ _ _ _ _ _ _ _ _ _ _ _ _ _ _ _ _ _ _ _ _ _ _ _ _ _ _ _ _ _ _ _ _ _ _ _ _ _ _ _ _ _ _ _ _ _ _ _ _ _ _ _ _ _ _ _ _ _ _ _ _ _ _ _ _ _ _ _ _ _ _ _ _ _ _ _ _ _ _ _ _ _ _ _ _ _ _ _ _ _ _ _ (hE1.trans e14)
  · go_enter Tryd.func59, Tryd.ntmps59
    go_upto_region 1 with fail
    refine wp_named ?_
    intro W1 hW1
    have hE1 : Ext w W1 := by rw [hW1]; exact alloc_ext w _
    have hB1 : ∀ w', Ext W1 w' → w'.heap[w.heap.size]? = some (.cells #[.int .u8 11, .int .i64 n, .slice (some ⟨b, o, none⟩) 2 c0] 68 (0, 0)) := fun w' h => heap_ext h (by rw [hW1]; exact heap_alloc_new _ _)
    have e0 := fun w' (h : Ext W1 w') => cell_of_blk (hB1 w' h) 0 (u := .int .u8 11) rfl
    have e1 := fun w' (h : Ext W1 w') => cell_of_blk (hB1 w' h) 1 (u := .int .i64 n) rfl
    have e2 := fun w' (h : Ext W1 w') => cell_of_blk (hB1 w' h) 2 (u := .slice (some ⟨b, o, none⟩) 2 c0) rfl
    have hR1 := Ext.refl W1
    clear hB1 hW1
    generalize w.heap.size = b1 at *
    have d0 := fun w' (h : Ext W1 w') => (hE1.trans h).cell d0
    have d1 := fun w' (h : Ext W1 w') => (hE1.trans h).cell d1
    have d2 := fun w' (h : Ext W1 w') => (hE1.trans h).cell d2
    have g0 := fun w' (h : Ext W1 w') => (hE1.trans h).cell g0
    have g1 := fun w' (h : Ext W1 w') => (hE1.trans h).cell g1
    have g2 := fun w' (h : Ext W1 w') => (hE1.trans h).cell g2
    have hc1 := hc W1 hE1
    have hc2 := fun W' (e : Ext W1 W') => hc' W' (hE1.trans e)
    have hmn := mn01 f f'
    have hmn' := mn01' f f'
    have hmin := min01 f f'
    clear hc hc'
    go_upto_region 999 with (first
      | (with_reducible refine stop_at2 34 ?_)
      | ((with_reducible refine hc1.mono ?_); rintro e W2 ⟨rfl, e2'⟩)
      | ((with_reducible refine (hc2 _ e2').mono ?_); rintro e W4 ⟨rfl, e4'⟩; have e14 := e2'.trans e4')
      | ((with_reducible refine (one_any _ _).mono ?_); rintro e W3 ⟨rfl, rfl⟩))
    refine ⟨?_⟩
    exact reval_t34 w _ (f && f') 1 _ _ _ _ _ _ _ _ _ _ _ _ _ _ _ _ _ _ _ _ _ _ _ _ _ _ _ _ _ _ _ _ _ _ _ _ _ _ _ _ _ _ _ _ _ _ _ _ _ _ _ _ _ _ _ _ _ _ _ _ _ _ _ _ _ _ _ _ _ _ _ _ _ _ _ _ _ _ _ _ _ _ _ _ _ _ _ _ _ _ _ _ _ _ _ _ _ _ _ _ _ _ _ _ _ _ _ _ _ _ _ _ _ _ _ _ _ _ _ _ _ _ _ _ (hE1.trans e14)
end Go.Proofs.YtggffdkgfgdaoaaDoor
