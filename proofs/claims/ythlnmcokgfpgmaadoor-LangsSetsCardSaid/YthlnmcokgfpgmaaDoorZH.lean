/- Small ones: law25.is 23. law25.even 40, law25.ends 47. langs.Union 32, Common 33, Minus 34. What lives asks, reckoned. Sends and receives of one goroutine that never waits, for the walk: laws of a region that holds one. A function's text, cut into pieces: what stands from a region on. What lives asks of its callees; what stands in its boxes. lives: the last piece, regions 40 to 43. lives: regions 35 to 39. lives: regions 28 to 34, the loop of the words by number. lives: regions 17 to 27, the loop of the numbers of words. lives: regions 12 to 16, the inclusions; regions 7 to 11, the least words. lives: regions 0 to 6, the making of the examples; lives 18. -/
import Derived.Test.YthlnmcokgfpgmaaDoorZA
import Derived.Test.YthlnmcokgfpgmaaDoorZF
import Derived.Test.YthlnmcokgfpgmaaDoorZG
import Derived.Test.YthlnmcokgfpgmaaDoorZB
import Derived.Test.YthlnmcokgfpgmaaDoorZC
import Derived.Conc.LoneCalls
import Derived.Conc.LoneSelectN
namespace Go.Proofs.YthlnmcokgfpgmaaDoor
open Go.RowKit Go.Maps
set_option linter.unusedVariables false
set_option linter.unusedSimpArgs false
attribute [local go_sem] Oper.quietV quietV Oper.gives givesV ext_refl_iff ext_alloc_iff ext_drew_iff ext_drewN_iff
/-- Whether a word is answered as it should be: there, without error, the word that is wanted, of no more room than it needs. -/
def isB (xs : List Int) (c : Nat) (there : Bool) (e : Int) (ys : List Int) : Bool := there && e == 0 && xs == ys && (c : Int) == (xs.length : Int)
set_option maxRecDepth 100000 in
set_option maxHeartbeats 4000000 in
theorem is_any (w : World) (v u : Value) (xs ys : List Int) (ca cb : Nat) (hv : IntsC w v xs ca) (hu : IntsC w u ys cb) (there : Bool) (e : Int) :
    Calls Tryd.prog 23 #[v, .bool there, .int .i64 e, u] w fun r w' => r = .returned (.int .i64 (b01 (isB xs ca there e ys))) ∧ Ext w w' := by
  have hs := same_any w v u xs ys ca cb hv hu
  obtain ⟨A, rfl, _, _, hm⟩ := id hv
  obtain ⟨A', rfl, _, _, hm'⟩ := id hu
  unfold lenMax at hm hm'
  cases there with
  | false =>
    have H : Hid (isB xs ca false e ys = false) := rfl
    go_enter Tryd.func23, Tryd.ntmps23
    go_wp2
    go_ret
    exact ⟨by rw [H.out]; rfl, Ext.refl _⟩
  | true =>
    cases h1 : (e == 0) with
    | false =>
      have H : Hid (isB xs ca true e ys = false) := by show _ = _; unfold isB; rw [h1]; rfl
      go_enter Tryd.func23, Tryd.ntmps23
      go_wp2
      go_ret
      exact ⟨by rw [H.out]; rfl, Ext.refl _⟩
    | true =>
      cases h2 : (xs == ys) with
      | false =>
        have H : Hid (isB xs ca true e ys = false) := by show _ = _; unfold isB; rw [h1, h2]; rfl
        rw [h2] at hs
        go_enter Tryd.func23, Tryd.ntmps23
        go_wp2_with ((with_reducible refine hs.mono ?_); rintro e w1 ⟨rfl, e1⟩)
        go_ret
        exact ⟨by rw [H.out]; rfl, e1⟩
      | true =>
        rw [h2] at hs
        cases h3 : ((ca : Int) == (xs.length : Int)) with
        | false =>
          have H : Hid (isB xs ca true e ys = false) := by show _ = _; unfold isB; rw [h1, h2, h3]; rfl
          go_enter Tryd.func23, Tryd.ntmps23
          go_wp2_with ((with_reducible refine hs.mono ?_); rintro e w1 ⟨rfl, e1⟩)
          go_ret
          exact ⟨by rw [H.out]; rfl, e1⟩
        | true =>
          have H : Hid (isB xs ca true e ys = true) := by show _ = _; unfold isB; rw [h1, h2, h3]; rfl
          go_enter Tryd.func23, Tryd.ntmps23
          go_wp2_with ((with_reducible refine hs.mono ?_); rintro e w1 ⟨rfl, e1⟩)
          go_ret
          exact ⟨by rw [H.out]; rfl, e1⟩
end Go.Proofs.YthlnmcokgfpgmaaDoor

namespace Go.Proofs.YthlnmcokgfpgmaaDoor
open Go.RowKit Go.Maps
set_option linter.unusedVariables false
set_option linter.unusedSimpArgs false
attribute [local go_sem] Oper.quietV quietV Oper.gives givesV ext_refl_iff ext_alloc_iff ext_drew_iff ext_drewN_iff
theorem new_world (W : World) (o : Obj) : ∃ A : World, A.heap[W.heap.size]? = some o ∧ A.heap.size = W.heap.size + 1 ∧ A = W.alloc o := ⟨_, heap_alloc_new W o, by simp, rfl⟩
def evenD : Dfa := ⟨2, [[1, 1], [0, 0]], [true, false]⟩
def endsD : Dfa := ⟨2, [[1, 0], [1, 2], [1, 0]], [false, false, true]⟩
set_option maxRecDepth 100000 in
set_option maxHeartbeats 4000000 in
theorem even_any (w : World) : Calls Tryd.prog 40 #[] w fun e w' => ∃ v, e = .returned v ∧ DfaF w' v evenD ∧ Ext w w' := by
  go_enter Tryd.func40, Tryd.ntmps40
  go_upto_region 1 with fail
  refine wp_named ?_
  intro W1 hW1
  have hE1 : Ext w W1 := by rw [hW1]; exact (Ext.refl _).alloc _
  have kb : ∀ w', Ext W1 w' → w'.heap[w.heap.size]? = some (.cells #[.int .i64 0, .slice none 0 0, .slice none 0 0] 28 (0, 0)) := fun w' h => heap_ext h (by rw [hW1]; exact heap_alloc_new w _)
  have hlt : w.heap.size < W1.heap.size := by rw [hW1]; simp
  clear hW1
  generalize hb0 : w.heap.size = b0 at *
  go_wp2_with (with_reducible refine wpList_store_blk _ rfl 28 _ _ rfl b0 28 _ _ rfl rfl (kb _ (by repeat (first | exact Ext.refl _ | refine Ext.alloc ?_ _))) (by kernel_rfl) (by kernel_rfl) (by kernel_rfl) ?_; intro w8 h8 g8)
  refine bodyPost_ret (results_cell_row rfl _ _ b0 28 _ (0, 0) _ (by simp [Act.put]) h8 Tryd.underlying28 rfl (by kernel_rfl)) rfl ?_
  generalize hs : W1.heap.size = s at *
  obtain ⟨A, n0, zA, eA⟩ := new_world W1 (.cells #[.int .i64 1, .int .i64 1] 3)
  rw [← eA] at g8
  obtain ⟨B, n1, zB, eB⟩ := new_world A (.cells #[.int .i64 0, .int .i64 0] 3)
  rw [← eB] at g8
  obtain ⟨C, n2, zC, eC⟩ := new_world B (.cells #[.slice (some ⟨s, 0, none⟩) 2 2, .slice (some ⟨s + 1, 0, none⟩) 2 2] 31)
  rw [← eC] at g8
  obtain ⟨D, n3, zD, eD⟩ := new_world C (.cells #[.bool true, .bool false] 4)
  rw [← eD] at g8
  have xA : Ext W1 A := by rw [eA]; exact alloc_ext _ _
  have xB : Ext A B := by rw [eB]; exact alloc_ext _ _
  have xC : Ext B C := by rw [eC]; exact alloc_ext _ _
  have xD : Ext C D := by rw [eD]; exact alloc_ext _ _
  clear eA eB eC eD
  have hk : ∀ (i : Nat) (o : Obj), s ≤ i → D.heap[i]? = some o → w8.heap[i]? = some o := fun i o hi h => (g8.block i (lt_of_block h) (by simp; omega)).trans h
  have c0 := hk _ _ (by omega) (heap_ext (xB.trans (xC.trans xD)) n0)
  have c1 := hk _ _ (by omega) (heap_ext (xC.trans xD) n1)
  have c2 := hk _ _ (by omega) (heap_ext xD n2)
  have c3 := hk _ _ (by omega) n3
  rw [hs] at c0
  rw [zA, hs] at c1
  rw [zB, zA, hs] at c2
  rw [zC, zB, zA, hs] at c3
  refine ⟨_, rfl, ⟨_, _, rfl, lists_blk c2 rfl rfl (by omega) (fun i u es hu hes => ?_), bools_blk (xs := [true, false]) c3 rfl rfl (by omega)⟩, ?_⟩
  · match i, hu, hes with
    | 0, hu, hes => cases hu; cases hes; exact ⟨2, ints_blk (xs := [1, 1]) c0 rfl rfl (by omega)⟩
    | 1, hu, hes => cases hu; cases hes; exact ⟨2, ints_blk (xs := [0, 0]) c1 rfl rfl (by omega)⟩
    | n + 2, hu, hes => simp at hu
  · have hE9 := hE1.trans (xA.trans (xB.trans (xC.trans xD)))
    exact Below.grown hE9 g8 hE9.size (fun k hk => by cases hk; omega)
set_option maxRecDepth 100000 in
set_option maxHeartbeats 4000000 in
theorem ends_any (w : World) : Calls Tryd.prog 47 #[] w fun e w' => ∃ v, e = .returned v ∧ DfaF w' v endsD ∧ Ext w w' := by
  go_enter Tryd.func47, Tryd.ntmps47
  go_upto_region 1 with fail
  refine wp_named ?_
  intro W1 hW1
  have hE1 : Ext w W1 := by rw [hW1]; exact (Ext.refl _).alloc _
  have kb : ∀ w', Ext W1 w' → w'.heap[w.heap.size]? = some (.cells #[.int .i64 0, .slice none 0 0, .slice none 0 0] 28 (0, 0)) := fun w' h => heap_ext h (by rw [hW1]; exact heap_alloc_new w _)
  have hlt : w.heap.size < W1.heap.size := by rw [hW1]; simp
  clear hW1
  generalize hb0 : w.heap.size = b0 at *
  go_wp2_with (with_reducible refine wpList_store_blk _ rfl 28 _ _ rfl b0 28 _ _ rfl rfl (kb _ (by repeat (first | exact Ext.refl _ | refine Ext.alloc ?_ _))) (by kernel_rfl) (by kernel_rfl) (by kernel_rfl) ?_; intro w8 h8 g8)
  refine bodyPost_ret (results_cell_row rfl _ _ b0 28 _ (0, 0) _ (by simp [Act.put]) h8 Tryd.underlying28 rfl (by kernel_rfl)) rfl ?_
  generalize hs : W1.heap.size = s at *
  obtain ⟨A, n0, zA, eA⟩ := new_world W1 (.cells #[.int .i64 1, .int .i64 0] 3)
  rw [← eA] at g8
  obtain ⟨B, n1, zB, eB⟩ := new_world A (.cells #[.int .i64 1, .int .i64 2] 3)
  rw [← eB] at g8
  obtain ⟨B2, n2, zB2, eB2⟩ := new_world B (.cells #[.int .i64 1, .int .i64 0] 3)
  rw [← eB2] at g8
  obtain ⟨C, n3, zC, eC⟩ := new_world B2 (.cells #[.slice (some ⟨s, 0, none⟩) 2 2, .slice (some ⟨s + 1, 0, none⟩) 2 2, .slice (some ⟨s + 1 + 1, 0, none⟩) 2 2] 31)
  rw [← eC] at g8
  obtain ⟨D, n4, zD, eD⟩ := new_world C (.cells #[.bool false, .bool false, .bool true] 4)
  rw [← eD] at g8
  have xA : Ext W1 A := by rw [eA]; exact alloc_ext _ _
  have xB : Ext A B := by rw [eB]; exact alloc_ext _ _
  have xB2 : Ext B B2 := by rw [eB2]; exact alloc_ext _ _
  have xC : Ext B2 C := by rw [eC]; exact alloc_ext _ _
  have xD : Ext C D := by rw [eD]; exact alloc_ext _ _
  clear eA eB eB2 eC eD
  have hk : ∀ (i : Nat) (o : Obj), s ≤ i → D.heap[i]? = some o → w8.heap[i]? = some o := fun i o hi h => (g8.block i (lt_of_block h) (by simp; omega)).trans h
  have c0 := hk _ _ (by omega) (heap_ext (xB.trans (xB2.trans (xC.trans xD))) n0)
  have c1 := hk _ _ (by omega) (heap_ext (xB2.trans (xC.trans xD)) n1)
  have c2 := hk _ _ (by omega) (heap_ext (xC.trans xD) n2)
  have c3 := hk _ _ (by omega) (heap_ext xD n3)
  have c4 := hk _ _ (by omega) n4
  rw [hs] at c0
  rw [zA, hs] at c1
  rw [zB, zA, hs] at c2
  rw [zB2, zB, zA, hs] at c3
  rw [zC, zB2, zB, zA, hs] at c4
  refine ⟨_, rfl, ⟨_, _, rfl, lists_blk c3 rfl rfl (by omega) (fun i u es hu hes => ?_), bools_blk (xs := [false, false, true]) c4 rfl rfl (by omega)⟩, ?_⟩
  · match i, hu, hes with
    | 0, hu, hes => cases hu; cases hes; exact ⟨2, ints_blk (xs := [1, 0]) c0 rfl rfl (by omega)⟩
    | 1, hu, hes => cases hu; cases hes; exact ⟨2, ints_blk (xs := [1, 2]) c1 rfl rfl (by omega)⟩
    | 2, hu, hes => cases hu; cases hes; exact ⟨2, ints_blk (xs := [1, 0]) c2 rfl rfl (by omega)⟩
    | n + 3, hu, hes => simp at hu
  · have hE9 := hE1.trans (xA.trans (xB.trans (xB2.trans (xC.trans xD))))
    exact Below.grown hE9 g8 hE9.size (fun k hk => by cases hk; omega)
end Go.Proofs.YthlnmcokgfpgmaaDoor

namespace Go.Proofs.YthlnmcokgfpgmaaDoor
open Go.RowKit Go.Maps
set_option linter.unusedVariables false
set_option linter.unusedSimpArgs false
attribute [local go_sem] Oper.quietV quietV Oper.gives givesV ext_refl_iff ext_alloc_iff ext_drew_iff ext_drewN_iff
def GlobU (w : World) : Prop := w.cell? ⟨1, 0, none⟩ = some (.func (.func 94) #[] #[])
def GlobC (w : World) : Prop := w.cell? ⟨2, 0, none⟩ = some (.func (.func 95) #[] #[])
theorem GlobU.ext {w w' : World} (h : GlobU w) (e : Ext w w') : GlobU w' := e.cell h
theorem GlobC.ext {w w' : World} (h : GlobC w) (e : Ext w w') : GlobC w' := e.cell h
set_option maxRecDepth 100000 in
set_option maxHeartbeats 4000000 in
theorem Union_any (w : World) (dv dv' : Value) (a b : Dfa) (hd : DfaV w dv a) (hd' : DfaV w dv' b) (hgl : GlobU w) :
    Calls Tryd.prog 32 #[dv, dv'] w (OpP (fun x y => x || y) a b w) := by
  obtain ⟨rv, cr, av, ca, rfl, hr, ha⟩ := id hd
  obtain ⟨Ar, vr, rfl, _, _, _, _, hrm⟩ := id hr
  obtain ⟨Aa, rfl, hac, _, ham⟩ := id ha
  obtain ⟨rv', cr', av', ca', rfl, hr', ha'⟩ := id hd'
  obtain ⟨Ar', vr', rfl, _, _, _, _, hrm'⟩ := id hr'
  obtain ⟨Aa', rfl, hac', _, ham'⟩ := id ha'
  unfold lenMax at hrm ham hrm' ham'
  go_enter Tryd.func32, Tryd.ntmps32
  go_upto_region 1 with fail
  refine wp_named ?_
  intro W1 hW1
  have hE1 : Ext w W1 := by rw [hW1]; exact ((((Ext.refl _).alloc _).alloc _)).alloc _
  have k0 : W1.cell? ⟨w.heap.size, 0, none⟩ = some (.int .i64 a.sy) := by rw [hW1]; simp [go_sem]
  have k1 : W1.cell? ⟨w.heap.size, 1, none⟩ = some (.slice Ar a.rows.length cr) := by rw [hW1]; simp [go_sem]
  have k2 : W1.cell? ⟨w.heap.size, 2, none⟩ = some (.slice Aa a.acc.length ca) := by rw [hW1]; simp [go_sem]
  have l0 : W1.cell? ⟨w.heap.size + 1, 0, none⟩ = some (.int .i64 b.sy) := by rw [hW1]; simp [go_sem]
  have l1 : W1.cell? ⟨w.heap.size + 1, 1, none⟩ = some (.slice Ar' b.rows.length cr') := by rw [hW1]; simp [go_sem]
  have l2 : W1.cell? ⟨w.heap.size + 1, 2, none⟩ = some (.slice Aa' b.acc.length ca') := by rw [hW1]; simp [go_sem]
  have kb : ∀ w', Ext W1 w' → w'.heap[w.heap.size + 1 + 1]? = some (.cells #[.int .i64 0, .slice none 0 0, .slice none 0 0] 28 (0, 0)) := fun w' h => heap_ext h (by rw [hW1]; have h9 := heap_alloc_new ((w.alloc (.cells #[.int .i64 a.sy, .slice Ar a.rows.length cr, .slice Aa a.acc.length ca] 28)).alloc (.cells #[.int .i64 b.sy, .slice Ar' b.rows.length cr', .slice Aa' b.acc.length ca'] 28)) (.cells #[.int .i64 0, .slice none 0 0, .slice none 0 0] 28 (0, 0)); simpa using h9)
  have HB6 : Hid (w.heap.size ≤ w.heap.size + 1 + 1 ∧ w.heap.size + 1 + 1 < W1.heap.size) := Lib.hid ⟨by omega, by rw [hW1]; simp⟩
  clear hW1
  generalize w.heap.size + 1 + 1 = b6 at *
  have hdo := do94_any W1 _ _ a b (hd.ext hE1) (hd'.ext hE1)
  have hgv := hgl.ext hE1
  unfold GlobU at hgv
  go_wp2_with (first
    | (go_at_call 56; refine hdo.mono ?_; rintro e w2 ⟨v, r, rfl, hop, hfar, e2⟩; have hb6 := kb w2 e2; obtain ⟨rv2, av2, rfl, ⟨Ar2, vr2, rfl, -⟩, ⟨Aa2, rfl, -⟩⟩ := id hfar.dfa)
    | (with_reducible refine wpList_store_blk _ rfl 28 _ _ rfl b6 28 _ _ rfl rfl hb6 (by kernel_rfl) (by kernel_rfl) (by kernel_rfl) ?_; intro w8 h8 g8))
  try rw [Exit.noGoto_ret]
  try simp only [Exit.inBlock, Exit.then]
  refine bodyPost_ret (results_cell_tmp rfl _ _ b6 28 _ (0, 0) _ (by simp [Act.put]) h8 Tryd.underlying28 rfl (by kernel_rfl)) rfl ?_
  have hfar := (hfar.of (w1 := w8) (fun b hb hlt => g8.block b hlt (fun e => by cases e; have := HB6.out.2; omega))).mono hE1.size
  exact ⟨_, r, rfl, hop, hfar, Below.grown (hE1.trans e2) g8 (hE1.trans e2).size (fun k hk => by cases hk; exact HB6.out.1)⟩
set_option maxRecDepth 100000 in
set_option maxHeartbeats 4000000 in
theorem Common_any (w : World) (dv dv' : Value) (a b : Dfa) (hd : DfaV w dv a) (hd' : DfaV w dv' b) (hgl : GlobC w) :
    Calls Tryd.prog 33 #[dv, dv'] w (OpP (fun x y => x && y) a b w) := by
  obtain ⟨rv, cr, av, ca, rfl, hr, ha⟩ := id hd
  obtain ⟨Ar, vr, rfl, _, _, _, _, hrm⟩ := id hr
  obtain ⟨Aa, rfl, hac, _, ham⟩ := id ha
  obtain ⟨rv', cr', av', ca', rfl, hr', ha'⟩ := id hd'
  obtain ⟨Ar', vr', rfl, _, _, _, _, hrm'⟩ := id hr'
  obtain ⟨Aa', rfl, hac', _, ham'⟩ := id ha'
  unfold lenMax at hrm ham hrm' ham'
  go_enter Tryd.func33, Tryd.ntmps33
  go_upto_region 1 with fail
  refine wp_named ?_
  intro W1 hW1
  have hE1 : Ext w W1 := by rw [hW1]; exact ((((Ext.refl _).alloc _).alloc _)).alloc _
  have k0 : W1.cell? ⟨w.heap.size, 0, none⟩ = some (.int .i64 a.sy) := by rw [hW1]; simp [go_sem]
  have k1 : W1.cell? ⟨w.heap.size, 1, none⟩ = some (.slice Ar a.rows.length cr) := by rw [hW1]; simp [go_sem]
  have k2 : W1.cell? ⟨w.heap.size, 2, none⟩ = some (.slice Aa a.acc.length ca) := by rw [hW1]; simp [go_sem]
  have l0 : W1.cell? ⟨w.heap.size + 1, 0, none⟩ = some (.int .i64 b.sy) := by rw [hW1]; simp [go_sem]
  have l1 : W1.cell? ⟨w.heap.size + 1, 1, none⟩ = some (.slice Ar' b.rows.length cr') := by rw [hW1]; simp [go_sem]
  have l2 : W1.cell? ⟨w.heap.size + 1, 2, none⟩ = some (.slice Aa' b.acc.length ca') := by rw [hW1]; simp [go_sem]
  have kb : ∀ w', Ext W1 w' → w'.heap[w.heap.size + 1 + 1]? = some (.cells #[.int .i64 0, .slice none 0 0, .slice none 0 0] 28 (0, 0)) := fun w' h => heap_ext h (by rw [hW1]; have h9 := heap_alloc_new ((w.alloc (.cells #[.int .i64 a.sy, .slice Ar a.rows.length cr, .slice Aa a.acc.length ca] 28)).alloc (.cells #[.int .i64 b.sy, .slice Ar' b.rows.length cr', .slice Aa' b.acc.length ca'] 28)) (.cells #[.int .i64 0, .slice none 0 0, .slice none 0 0] 28 (0, 0)); simpa using h9)
  have HB6 : Hid (w.heap.size ≤ w.heap.size + 1 + 1 ∧ w.heap.size + 1 + 1 < W1.heap.size) := Lib.hid ⟨by omega, by rw [hW1]; simp⟩
  clear hW1
  generalize w.heap.size + 1 + 1 = b6 at *
  have hdo := do95_any W1 _ _ a b (hd.ext hE1) (hd'.ext hE1)
  have hgv := hgl.ext hE1
  unfold GlobC at hgv
  go_wp2_with (first
    | (go_at_call 56; refine hdo.mono ?_; rintro e w2 ⟨v, r, rfl, hop, hfar, e2⟩; have hb6 := kb w2 e2; obtain ⟨rv2, av2, rfl, ⟨Ar2, vr2, rfl, -⟩, ⟨Aa2, rfl, -⟩⟩ := id hfar.dfa)
    | (with_reducible refine wpList_store_blk _ rfl 28 _ _ rfl b6 28 _ _ rfl rfl hb6 (by kernel_rfl) (by kernel_rfl) (by kernel_rfl) ?_; intro w8 h8 g8))
  try rw [Exit.noGoto_ret]
  try simp only [Exit.inBlock, Exit.then]
  refine bodyPost_ret (results_cell_tmp rfl _ _ b6 28 _ (0, 0) _ (by simp [Act.put]) h8 Tryd.underlying28 rfl (by kernel_rfl)) rfl ?_
  have hfar := (hfar.of (w1 := w8) (fun b hb hlt => g8.block b hlt (fun e => by cases e; have := HB6.out.2; omega))).mono hE1.size
  exact ⟨_, r, rfl, hop, hfar, Below.grown (hE1.trans e2) g8 (hE1.trans e2).size (fun k hk => by cases hk; exact HB6.out.1)⟩
set_option maxRecDepth 100000 in
set_option maxHeartbeats 4000000 in
theorem Minus_any (w : World) (dv dv' : Value) (a b : Dfa) (hd : DfaV w dv a) (hd' : DfaV w dv' b) (hgl : GlobM w) :
    Calls Tryd.prog 34 #[dv, dv'] w (OpP (fun x y => x && !y) a b w) := by
  obtain ⟨rv, cr, av, ca, rfl, hr, ha⟩ := id hd
  obtain ⟨Ar, vr, rfl, _, _, _, _, hrm⟩ := id hr
  obtain ⟨Aa, rfl, hac, _, ham⟩ := id ha
  obtain ⟨rv', cr', av', ca', rfl, hr', ha'⟩ := id hd'
  obtain ⟨Ar', vr', rfl, _, _, _, _, hrm'⟩ := id hr'
  obtain ⟨Aa', rfl, hac', _, ham'⟩ := id ha'
  unfold lenMax at hrm ham hrm' ham'
  go_enter Tryd.func34, Tryd.ntmps34
  go_upto_region 1 with fail
  refine wp_named ?_
  intro W1 hW1
  have hE1 : Ext w W1 := by rw [hW1]; exact ((((Ext.refl _).alloc _).alloc _)).alloc _
  have k0 : W1.cell? ⟨w.heap.size, 0, none⟩ = some (.int .i64 a.sy) := by rw [hW1]; simp [go_sem]
  have k1 : W1.cell? ⟨w.heap.size, 1, none⟩ = some (.slice Ar a.rows.length cr) := by rw [hW1]; simp [go_sem]
  have k2 : W1.cell? ⟨w.heap.size, 2, none⟩ = some (.slice Aa a.acc.length ca) := by rw [hW1]; simp [go_sem]
  have l0 : W1.cell? ⟨w.heap.size + 1, 0, none⟩ = some (.int .i64 b.sy) := by rw [hW1]; simp [go_sem]
  have l1 : W1.cell? ⟨w.heap.size + 1, 1, none⟩ = some (.slice Ar' b.rows.length cr') := by rw [hW1]; simp [go_sem]
  have l2 : W1.cell? ⟨w.heap.size + 1, 2, none⟩ = some (.slice Aa' b.acc.length ca') := by rw [hW1]; simp [go_sem]
  have kb : ∀ w', Ext W1 w' → w'.heap[w.heap.size + 1 + 1]? = some (.cells #[.int .i64 0, .slice none 0 0, .slice none 0 0] 28 (0, 0)) := fun w' h => heap_ext h (by rw [hW1]; have h9 := heap_alloc_new ((w.alloc (.cells #[.int .i64 a.sy, .slice Ar a.rows.length cr, .slice Aa a.acc.length ca] 28)).alloc (.cells #[.int .i64 b.sy, .slice Ar' b.rows.length cr', .slice Aa' b.acc.length ca'] 28)) (.cells #[.int .i64 0, .slice none 0 0, .slice none 0 0] 28 (0, 0)); simpa using h9)
  have HB6 : Hid (w.heap.size ≤ w.heap.size + 1 + 1 ∧ w.heap.size + 1 + 1 < W1.heap.size) := Lib.hid ⟨by omega, by rw [hW1]; simp⟩
  clear hW1
  generalize w.heap.size + 1 + 1 = b6 at *
  have hdo := do93_any W1 _ _ a b (hd.ext hE1) (hd'.ext hE1)
  have hgv := hgl.ext hE1
  unfold GlobM at hgv
  go_wp2_with (first
    | (go_at_call 56; refine hdo.mono ?_; rintro e w2 ⟨v, r, rfl, hop, hfar, e2⟩; have hb6 := kb w2 e2; obtain ⟨rv2, av2, rfl, ⟨Ar2, vr2, rfl, -⟩, ⟨Aa2, rfl, -⟩⟩ := id hfar.dfa)
    | (with_reducible refine wpList_store_blk _ rfl 28 _ _ rfl b6 28 _ _ rfl rfl hb6 (by kernel_rfl) (by kernel_rfl) (by kernel_rfl) ?_; intro w8 h8 g8))
  try rw [Exit.noGoto_ret]
  try simp only [Exit.inBlock, Exit.then]
  refine bodyPost_ret (results_cell_tmp rfl _ _ b6 28 _ (0, 0) _ (by simp [Act.put]) h8 Tryd.underlying28 rfl (by kernel_rfl)) rfl ?_
  have hfar := (hfar.of (w1 := w8) (fun b hb hlt => g8.block b hlt (fun e => by cases e; have := HB6.out.2; omega))).mono hE1.size
  exact ⟨_, r, rfl, hop, hfar, Below.grown (hE1.trans e2) g8 (hE1.trans e2).size (fun k hk => by cases hk; exact HB6.out.1)⟩
end Go.Proofs.YthlnmcokgfpgmaaDoor

namespace Go.Proofs.YthlnmcokgfpgmaaDoor
open Go.RowKit Go.Maps
set_option linter.unusedVariables false
def opG (g : Bool → Bool → Bool) (a b : Dfa) : Option (List Int × Nat) := refG (rowsP a b (pairsL a b)) 20 (clsO g a b) 0
def emptyD : Dfa := ⟨2, [[0, 0]], [false]⟩
theorem OpR.known {g : Bool → Bool → Bool} {a b d : Dfa} {cl : List Int} {many : Nat} (h0 : chkL a b = 0) (h1 : (pairsL a b).length ≤ 4096) (h2 : opG g a b = some (cl, many)) (h3 : many ≤ 256) (h4 : quoD a.sy (rowsP a b (pairsL a b)) (clsO g a b) cl many = d) {r : Dfa × Int} (h : OpR g a b r) : r = (d, 0) := by
  rw [← h4]
  exact h.one (.set h0 h1 (refG_is 20 h2) h3)
def commD : Dfa := ⟨2, [[1, 2], [0, 3], [0, 0], [1, 2]], [false, false, false, true]⟩
theorem common_val {r : Dfa × Int} (h : OpR (fun x y => x && y) endsD evenD r) : r = (commD, 0) := OpR.known (by decide +kernel) (by decide +kernel) (cl := [0, 1, 2, 0, 3, 2]) (many := 4) (by decide +kernel) (by decide) (by unfold commD quoD; simp only [Dfa.mk.injEq]; refine ⟨rfl, ?_, ?_⟩ <;> decide +kernel) h
theorem minus1_val {r : Dfa × Int} (h : OpR (fun x y => x && !y) evenD evenD r) : r = (emptyD, 0) := OpR.known (by decide +kernel) (by decide +kernel) (cl := [0, 0]) (many := 1) (by decide +kernel) (by decide) (by unfold emptyD quoD; simp only [Dfa.mk.injEq]; refine ⟨rfl, ?_, ?_⟩ <;> decide +kernel) h
theorem minus2_val {r : Dfa × Int} (h : OpR (fun x y => x && !y) endsD endsD r) : r = (emptyD, 0) := OpR.known (by decide +kernel) (by decide +kernel) (cl := [0, 0, 0]) (many := 1) (by decide +kernel) (by decide) (by unfold emptyD quoD; simp only [Dfa.mk.injEq]; refine ⟨rfl, ?_, ?_⟩ <;> decide +kernel) h
theorem incl1_val : inclR endsD evenD = (false, [0, 0, 1], 0) := by decide +kernel
theorem incl2_val : inclR evenD endsD = (false, [], 0) := by decide +kernel
theorem incl3_val : inclR commD evenD = (true, [], 0) := by decide +kernel
theorem least1_val : leastR endsD = ([0, 1], true, 0) := by decide +kernel
theorem least2_val : leastR commD = ([0, 1], true, 0) := by decide +kernel
theorem least3_val : leastR emptyD = ([], false, 0) := by decide +kernel
theorem count_val : countR endsD 1 = (0, 0) ∧ countR endsD 5 = (8, 0) ∧ countR evenD 3 = (0, 0) ∧ countR evenD 62 = (4611686018427387904, 0) ∧ countR evenD 64 = (0, 3) := by decide +kernel
theorem rank_val : rankR endsD [1, 0, 1] = (2, 0) ∧ rankR endsD [0, 0] = (0, 0) ∧ rankR evenD [1] = (1, 0) := by decide +kernel
theorem emptyD_no (s : Nat) : emptyD.ac s = false := by
  unfold Dfa.ac emptyD
  match s with
  | 0 => rfl
  | s + 1 => rfl
theorem fin_empty : FinD emptyD := fun w hw ha => by rw [emptyD_no] at ha; cases ha
theorem fin_ends : ¬ FinD endsD := fun h => by
  have := h [0, 0, 1] (fun x hx => by
    have : x ≤ 1 := by simp at hx; omega
    show x < 2
    omega) (by decide)
  revert this
  decide
def nthL (k : Nat) : Nat × List Nat := ((scan endsD 257 0 k).1, nthW endsD (scan endsD 257 0 k).1 0 (scan endsD 257 0 k).2)
theorem nth0_val : nthL 0 = (2, [0, 1]) := by decide +kernel
theorem nth1_val : nthL 1 = (3, [0, 0, 1]) := by decide +kernel
theorem nth2_val : nthL 2 = (3, [1, 0, 1]) := by decide +kernel
theorem nth3_val : nthL 3 = (4, [0, 0, 0, 1]) := by decide +kernel
theorem nthE_val : (scan emptyD 257 0 0).1 = 257 := by decide +kernel
end Go.Proofs.YthlnmcokgfpgmaaDoor

namespace Go.Proofs.YthlnmcokgfpgmaaDoor
open Go.RowKit Go.Conc
set_option linter.unusedVariables false
set_option linter.unusedSimpArgs false

section
variable {P : Program} {ops : Array Oper} {Q : Exit → Act → World → Prop} {a : Act} {w w' : World} {l : List Nat} {i : Nat} {o : Oper}

/-- From the operations l of a region on. -/
def opsTo (P : Program) (ops : Array Oper) (Q : Exit → Act → World → Prop) (l : List Nat) (a : Act) (w : World) : Prop :=
  ∀ (b : Frame) (k : List Item) (cs : List Frame), ∃ e a' w', Q e a' w' ∧ Arrives P (lone (b.at a (.inRegion ops l :: k)) cs w) b k cs e a' w'

theorem wp_region_to {id : Nat} (h : opsTo P ops Q (List.range ops.size) a w) : (Code.region id ops false).wp P Q a w :=
  fun b k cs => let ⟨e, a', w', q, r⟩ := h b k cs; ⟨e, a', w', q, .of_steps (.one step_region) r⟩
theorem opsTo_nil (h : Q .normal a w) : opsTo P ops Q [] a w := fun b k cs => ⟨.normal, a, w, h, .one step_region_end⟩

theorem at_finish (ho : ops[i]? = some o) (b : Frame) (k : List Item) (v : Value) : (b.at a (.inRegion ops (i :: l) :: k)).finish v = b.at (a.put o.dst v) (.inRegion ops l :: k) := by
  rw [Frame.finish_at, ho]; rfl
theorem opsTo_val {v : Value} (ho : ops[i]? = some o) (hw : Region.wanted o (yielded ops a.tmps) = true) (hr : (execOp a.eval o).run P w = .ok (.value v) w')
    (h : opsTo P ops Q l (a.put o.dst v) w') : opsTo P ops Q (i :: l) a w := fun b k cs => by
  obtain ⟨e, a', w₂, hq, harr⟩ := h b k cs
  refine ⟨e, a', w₂, hq, .of_steps (.one (step_lone_go ?_)) harr⟩
  rw [stepG_op ho hw, ← at_finish ho]
  simp [stepG.apply, hr]

theorem stepG_comm_any {b : Frame} {k : List Item} {cs : List Frame} {cases : Array CommCase} {blocking : Bool} {shape : CommShape} (ho : ops[i]? = some o) (hw : Region.wanted o (yielded ops a.tmps) = true)
    (hr : (execOp a.eval o).run P w = .ok (.comm cases blocking shape) w') :
    ∃ es, stepG P true (G (b.at a (.inRegion ops (i :: l) :: k)) cs) w = .comm (G (b.at a (.inRegion ops (i :: l) :: k)) cs) cases blocking shape w' es := by
  rw [stepG_oper ho hw]
  simp [stepG.apply, hr, G, Frame.at, GStep.after]

variable {c cap s r : Nat} {buf : Array Value} {z z' v : Value} {tm closed : Bool}
theorem opsTo_send (ho : ops[i]? = some o) (hw : Region.wanted o (yielded ops a.tmps) = true) (hr : (execOp a.eval o).run P w = .ok (.comm #[scase c v z'] true .send) w')
    (hc : w'.heap[c]? = some (.chan cap buf false s r tm)) (hroom : buf.size < cap) (h : opsTo P ops Q l (a.put o.dst undef) (w'.setChan c cap (buf.push v) false (s + 1) r tm)) : opsTo P ops Q (i :: l) a w := fun b k cs => by
  obtain ⟨e, a', w₂, hq, harr⟩ := h b k cs
  obtain ⟨es, hs⟩ := stepG_comm_any (P := P) (b := b) (k := k) (cs := cs) (l := l) ho hw hr
  have h1 := step_lone_send_room hs hc hroom
  rw [at_finish ho] at h1
  exact ⟨e, a', w₂, hq, .of_steps (.one h1) harr⟩
theorem opsTo_recv (ok : Bool) (ho : ops[i]? = some o) (hw : Region.wanted o (yielded ops a.tmps) = true) (hr : (execOp a.eval o).run P w = .ok (.comm #[rcase c z] true (.recv ok)) w')
    (hc : w'.heap[c]? = some (.chan cap buf closed s r tm)) (hsome : 0 < buf.size) (h : opsTo P ops Q l (a.put o.dst (got ok (buf.getD 0 undef) true)) (w'.setChan c cap (buf.extract 1 buf.size) closed s (r + 1) tm)) : opsTo P ops Q (i :: l) a w := fun b k cs => by
  obtain ⟨e, a', w₂, hq, harr⟩ := h b k cs
  obtain ⟨es, hs⟩ := stepG_comm_any (P := P) (b := b) (k := k) (cs := cs) (l := l) ho hw hr
  have h1 := step_lone_recv_buf ok hs hc hsome
  rw [at_finish ho] at h1
  exact ⟨e, a', w₂, hq, .of_steps (.one h1) harr⟩
theorem opsTo_recv_shut (ok : Bool) (ho : ops[i]? = some o) (hw : Region.wanted o (yielded ops a.tmps) = true) (hr : (execOp a.eval o).run P w = .ok (.comm #[rcase c z] true (.recv ok)) w')
    (hc : w'.heap[c]? = some (.chan cap #[] true s r tm)) (h : opsTo P ops Q l (a.put o.dst (got ok z false)) w') : opsTo P ops Q (i :: l) a w := fun b k cs => by
  obtain ⟨e, a', w₂, hq, harr⟩ := h b k cs
  obtain ⟨es, hs⟩ := stepG_comm_any (P := P) (b := b) (k := k) (cs := cs) (l := l) ho hw hr
  have h1 := step_lone_recv_shut ok hs hc
  rw [at_finish ho] at h1
  exact ⟨e, a', w₂, hq, .of_steps (.one h1) harr⟩
end
end Go.Proofs.YthlnmcokgfpgmaaDoor

namespace Go.Proofs.YthlnmcokgfpgmaaDoor
open Go.RowKit
def headR : Code → Option Nat
  | .region k _ _ => some k
  | .seq a _ => headR a
  | .block _ c => headR c
  | .loop c => headR c
  | _ => none
/-- What stands from region n on (a region on the function's own level). -/
def tailR (n : Nat) : Code → Option Code
  | .seq a b => if headR a = some n then some (.seq a b) else tailR n b
  | _ => none
def textR (n : Nat) (o : Option Code) : Code := match o with
  | some c => (tailR n c).getD .skip
  | none => .skip
/-- The walk stops here. -/
structure Stop (p : Prop) : Prop where
  out : p
/-- To look at a goal from near: an arm (at_builtin; refine halt_here ?_). -/
theorem halt_here {p : Prop} (h : Stop p) : p := h.out
theorem stop_at (n : Nat) {P : Program} {ops : Array Oper} {d : Bool} {rest : Code} {Q : Exit → Act → World → Prop} {a : Act} {w : World} (h : Stop (Code.wp P (.seq (.region n ops d) rest) Q a w)) : Code.wp P (.seq (.region n ops d) rest) Q a w := h.out
theorem stop_at2 (n : Nat) {P : Program} {ops : Array Oper} {d : Bool} {c rest : Code} {Q : Exit → Act → World → Prop} {a : Act} {w : World} (h : Stop (Code.wp P (.seq (.seq (.region n ops d) c) rest) Q a w)) : Code.wp P (.seq (.seq (.region n ops d) c) rest) Q a w := h.out
end Go.Proofs.YthlnmcokgfpgmaaDoor

namespace Go.Proofs.YthlnmcokgfpgmaaDoor
open Go.RowKit Go.Maps
set_option linter.unusedVariables false
noncomputable def T18 (n : Nat) : Code := textR n Tryd.f18.body
theorem fin_e (W : World) (dv : Value) (hd : DfaV W dv endsD) : Calls Tryd.prog 14 #[dv] W fun e w' => e = .returned (.tuple #[.bool false, .int .i64 0]) ∧ Ext W w' :=
  (Finite_any W dv endsD hd).mono fun e w' h => by
    rcases h with ⟨h, _⟩ | ⟨_, b, rfl, hb, he⟩
    · exact absurd (by decide +kernel) h
    · cases b with
      | true => exact absurd (hb.1 rfl) fin_ends
      | false => exact ⟨rfl, he⟩
theorem fin_z (W : World) (dv : Value) (hd : DfaV W dv emptyD) : Calls Tryd.prog 14 #[dv] W fun e w' => e = .returned (.tuple #[.bool true, .int .i64 0]) ∧ Ext W w' :=
  (Finite_any W dv emptyD hd).mono fun e w' h => by
    rcases h with ⟨h, _⟩ | ⟨_, b, rfl, hb, he⟩
    · exact absurd (by decide +kernel) h
    · rw [hb.2 fin_empty]; exact ⟨rfl, he⟩
theorem nth_none {W w' : World} {d : Dfa} {k : Int} {e : Ending} (h : NthP d k W e w') (hc : checkD d = 0) (hk : ¬ k < 0) {j : Nat} (hj : k.toNat = j) (hs : (scan d 257 0 j).1 = 257) (hf : FinD d) : e = .returned (.tuple #[.slice none 0 0, .int .i64 7]) ∧ Ext W w' := by
  unfold NthP at h
  rw [if_neg (fun h => h hc), if_neg hk, hj, if_pos hs] at h
  obtain ⟨c, rfl, hc, he⟩ := h
  rcases hc with ⟨rfl, _⟩ | ⟨_, hn⟩
  · exact ⟨rfl, he⟩
  · exact absurd hf hn
theorem good_empty : checkD emptyD = 0 := by decide +kernel
theorem nth_g (W : World) (dv : Value) {d : Dfa} (hd : DfaV W dv d) (k j : Nat) (hk : k ≤ 100) (hc : checkD d = 0) (hj : k = j) (hs : (scan d 257 0 j).1 = 257) (hf : FinD d) : Calls Tryd.prog 21 #[dv, .int .i64 k] W fun e w' => e = .returned (.tuple #[.slice none 0 0, .int .i64 7]) ∧ Ext W w' :=
  (Nth_any W dv d hd k (by omega)).mono fun e w' h => nth_none h hc (by omega) (Int.toNat_natCast k) (hj ▸ hs) hf
theorem nth_z0 (W : World) (dv : Value) (hd : DfaV W dv emptyD) : Calls Tryd.prog 21 #[dv, .int .i64 ((0 : Nat) : Int)] W fun e w' => e = .returned (.tuple #[.slice none 0 0, .int .i64 7]) ∧ Ext W w' :=
  nth_g W dv hd 0 0 (by omega) good_empty rfl nthE_val fin_empty
theorem nth_z (W : World) (dv : Value) (hd : DfaV W dv emptyD) : Calls Tryd.prog 21 #[dv, .int .i64 0] W fun e w' => e = .returned (.tuple #[.slice none 0 0, .int .i64 7]) ∧ Ext W w' := nth_z0 W dv hd
theorem nth_some {W w' : World} {d : Dfa} {k : Int} {e : Ending} (h : NthP d k W e w') (hc : checkD d = 0) (hk : ¬ k < 0) {n : Nat} {l : List Nat} {p : Nat × Nat} (hs : scan d 257 0 k.toNat = p) (hp : p.1 ≠ 257) (hn : p.1 = n) (hl : nthW d p.1 0 p.2 = l) : ∃ v, e = .returned (.tuple #[v, .int .i64 0]) ∧ IntsC w' v (l.map (fun x : Nat => (x : Int))) n ∧ Ext W w' := by
  unfold NthP at h
  rw [if_neg (fun h => h hc), if_neg hk, hs, if_neg hp, hl, hn] at h
  exact h
theorem good_ends : checkD endsD = 0 := by decide +kernel
theorem nth_e (W : World) (dv : Value) (hd : DfaV W dv endsD) (k : Nat) {n : Nat} {l : List Nat} (hk : k ≤ 100) (h0 : nthL k = (n, l)) (hn : n ≠ 257) : Calls Tryd.prog 21 #[dv, .int .i64 k] W fun e w' => ∃ v, e = .returned (.tuple #[v, .int .i64 0]) ∧ IntsC w' v (l.map (fun x : Nat => (x : Int))) n ∧ Ext W w' :=
  (Nth_any W dv endsD hd k (by omega)).mono fun e w' h => by
    unfold nthL at h0
    have hk2 : (k : Int).toNat = k := Int.toNat_natCast k
    generalize hs : scan endsD 257 0 k = p at h0
    rw [← hk2] at hs
    cases h0
    exact nth_some h good_ends (by omega) hs hn rfl rfl
theorem two_val {f : Nat} {args : Array Value} {W : World} {r : Int × Int} {x y : Int} (h : Calls Tryd.prog f args W (TwoP r W)) (hr : r = (x, y)) : Calls Tryd.prog f args W fun e w' => e = .returned (.tuple #[.int .i64 x, .int .i64 y]) ∧ Ext W w' := by
  subst hr; exact h
theorem incl_val {f : Nat} {args : Array Value} {W : World} {r : Bool × List Int × Int} {x : Bool} {l : List Int} (h : Calls Tryd.prog f args W (InclP r W)) (hr : r = (x, l, 0)) : Calls Tryd.prog f args W fun e w' => ∃ v, e = .returned (.tuple #[.bool x, v, .int .i64 0]) ∧ FitC w' v l ∧ Ext W w' := by
  subst hr; exact h
theorem least_val {f : Nat} {args : Array Value} {W : World} {r : List Int × Bool × Int} {x : Bool} {l : List Int} (h : Calls Tryd.prog f args W (LeastP r W)) (hr : r = (l, x, 0)) : Calls Tryd.prog f args W fun e w' => ∃ v, e = .returned (.tuple #[v, .bool x, .int .i64 0]) ∧ FitC w' v l ∧ Ext W w' := by
  subst hr; exact h
/-- A box that holds an automaton. -/
def BoxD (W : World) (b : Nat) (d : Dfa) : Prop := ∃ Ar Aa cr ca, W.cell? ⟨b, 0, none⟩ = some (.int .i64 d.sy) ∧ W.cell? ⟨b, 1, none⟩ = some (.slice Ar d.rows.length cr) ∧ W.cell? ⟨b, 2, none⟩ = some (.slice Aa d.acc.length ca) ∧ DfaV W (.agg #[.int .i64 d.sy, .slice Ar d.rows.length cr, .slice Aa d.acc.length ca]) d
theorem BoxD.ext {W W' : World} {b : Nat} {d : Dfa} (h : BoxD W b d) (e : Ext W W') : BoxD W' b d := by
  obtain ⟨Ar, Aa, cr, ca, h0, h1, h2, h3⟩ := h
  exact ⟨Ar, Aa, cr, ca, e.cell h0, e.cell h1, e.cell h2, h3.ext e⟩
theorem BoxD.of {W : World} {b : Nat} {d : Dfa} {Ar Aa : Option Addr} {cr ca : Nat} (hb : W.heap[b]? = some (.cells #[.int .i64 d.sy, .slice Ar d.rows.length cr, .slice Aa d.acc.length ca] 28 (0, 0))) (hd : DfaV W (.agg #[.int .i64 d.sy, .slice Ar d.rows.length cr, .slice Aa d.acc.length ca]) d) : BoxD W b d :=
  ⟨Ar, Aa, cr, ca, cell_of_blk hb 0 rfl, cell_of_blk hb 1 rfl, cell_of_blk hb 2 rfl, hd⟩
/-- What lies in memory behind the making of the examples. -/
structure LV (w W : World) (b1 b2 b3 b5 b7 : Nat) : Prop where
  ext : Ext w W
  m : GlobM W
  c : GlobC W
  a : BoxD W b1 endsD
  b : BoxD W b2 evenD
  co : BoxD W b3 commD
  n : BoxD W b5 emptyD
  z : BoxD W b7 emptyD
theorem LV.next {w W W' : World} {b1 b2 b3 b5 b7 : Nat} (h : LV w W b1 b2 b3 b5 b7) (e : Ext W W') : LV w W' b1 b2 b3 b5 b7 :=
  ⟨h.ext.trans e, h.m.ext e, h.c.ext e, h.a.ext e, h.b.ext e, h.co.ext e, h.n.ext e, h.z.ext e⟩
end Go.Proofs.YthlnmcokgfpgmaaDoor

namespace Go.Proofs.YthlnmcokgfpgmaaDoor
open Go.RowKit Go.Maps
set_option linter.unusedVariables false
set_option linter.unusedSimpArgs false
attribute [local go_sem] Oper.quietV quietV Oper.gives givesV ext_refl_iff ext_alloc_iff ext_drew_iff ext_drewN_iff
set_option maxRecDepth 100000 in
set_option maxHeartbeats 2000000 in
theorem lives_t40 (w W : World) (b1 b2 b3 b5 b7 : Nat) (c0 c2 c3 c4 c5 c6 c8 c9 c10 c11 c12 c13 c14 c15 c16 c17 c18 c19 c20 c21 c22 c23 c24 c25 c26 c27 c28 c29 c30 c31 c32 c33 c34 c35 c36 c37 c38 c39 c40 c41 c42 c43 c44 c45 c46 c47 c48 c49 c50 c51 c52 c53 c54 c55 c56 c57 c58 c59 c60 c61 c62 c63 c64 c65 c66 c67 c68 c69 c70 c71 c72 c73 c74 c75 c76 c77 c78 c79 c80 c81 c82 c83 c84 c85 c86 c87 c88 c89 c90 c91 c92 c93 c94 c95 c96 c97 c98 c99 c100 c101 c102 c103 c104 c105 c106 c107 c108 c109 c110 c111 c112 c113 c114 c115 c116 c117 c118 c119 c120 c121 c122 c123 c124 c125 c126 c127 c128 c129 c130 c131 c132 c133 c134 c135 c136 c137 c138 c139 c140 c141 c142 c143 c144 c145 c146 c147 c148 c149 c150 c151 c152 c153 c154 c155 c156 c157 c158 c159 c160 c161 c162 c163 c164 c165 c166 c167 c168 c169 c170 c171 c172 c173 c174 c175 c176 c177 c178 c179 c180 c181 c182 c183 c184 c185 c186 c187 c188 c189 c190 c191 c192 c193 c194 c195 c196 c197 c198 c199 c200 c201 c202 c203 c204 c205 c206 c207 c208 c209 c210 c211 c212 c213 c214 c215 c216 c217 c218 c219 c220 c221 c222 c223 c224 c225 c226 c227 c228 c229 c230 c231 c232 c233 c234 c235 c236 c237 c238 c239 c240 c241 c242 c243 c244 c245 c246 c247 c248 c249 c250 c251 c252 c253 c254 c255 c256 c257 c258 c259 c260 c261 c262 c263 c264 c265 c266 c267 c268 c269 c270 c271 c272 c273 c274 c275 c276 c277 c278 c279 c280 c281 c282 : Value) (h : LV w W b1 b2 b3 b5 b7) :
    Code.wp Tryd.prog (T18 40) (bodyPost Tryd.prog Tryd.f18 fun e w' => e = .returned (.bool true) ∧ Ext w w') ⟨(c0 :: .pointer (some ⟨b1, 0, none⟩) :: c2 :: c3 :: c4 :: c5 :: c6 :: .pointer (some ⟨b7, 0, none⟩) :: c8 :: c9 :: c10 :: c11 :: c12 :: c13 :: c14 :: c15 :: c16 :: c17 :: c18 :: c19 :: c20 :: c21 :: c22 :: c23 :: c24 :: c25 :: c26 :: c27 :: c28 :: c29 :: c30 :: c31 :: c32 :: c33 :: c34 :: c35 :: c36 :: c37 :: c38 :: c39 :: c40 :: c41 :: c42 :: c43 :: c44 :: c45 :: c46 :: c47 :: c48 :: c49 :: c50 :: c51 :: c52 :: c53 :: c54 :: c55 :: c56 :: c57 :: c58 :: c59 :: c60 :: c61 :: c62 :: c63 :: c64 :: c65 :: c66 :: c67 :: c68 :: c69 :: c70 :: c71 :: c72 :: c73 :: c74 :: c75 :: c76 :: c77 :: c78 :: c79 :: c80 :: c81 :: c82 :: c83 :: c84 :: c85 :: c86 :: c87 :: c88 :: c89 :: c90 :: c91 :: c92 :: c93 :: c94 :: c95 :: c96 :: c97 :: c98 :: c99 :: c100 :: c101 :: c102 :: c103 :: c104 :: c105 :: c106 :: c107 :: c108 :: c109 :: c110 :: c111 :: c112 :: c113 :: c114 :: c115 :: c116 :: c117 :: c118 :: c119 :: c120 :: c121 :: c122 :: c123 :: c124 :: c125 :: c126 :: c127 :: c128 :: c129 :: c130 :: c131 :: c132 :: c133 :: c134 :: c135 :: c136 :: c137 :: c138 :: c139 :: c140 :: c141 :: c142 :: c143 :: c144 :: c145 :: c146 :: c147 :: c148 :: c149 :: c150 :: c151 :: c152 :: c153 :: c154 :: c155 :: c156 :: c157 :: c158 :: c159 :: c160 :: c161 :: c162 :: c163 :: c164 :: c165 :: c166 :: c167 :: c168 :: c169 :: c170 :: c171 :: c172 :: c173 :: c174 :: c175 :: c176 :: c177 :: c178 :: c179 :: c180 :: c181 :: c182 :: c183 :: c184 :: c185 :: c186 :: c187 :: c188 :: c189 :: c190 :: c191 :: c192 :: c193 :: c194 :: c195 :: c196 :: c197 :: c198 :: c199 :: c200 :: c201 :: c202 :: c203 :: c204 :: c205 :: c206 :: c207 :: c208 :: c209 :: c210 :: c211 :: c212 :: c213 :: c214 :: c215 :: c216 :: c217 :: c218 :: c219 :: c220 :: c221 :: c222 :: c223 :: c224 :: c225 :: c226 :: c227 :: c228 :: c229 :: c230 :: c231 :: c232 :: c233 :: c234 :: c235 :: c236 :: c237 :: c238 :: c239 :: c240 :: c241 :: c242 :: c243 :: c244 :: c245 :: c246 :: c247 :: c248 :: c249 :: c250 :: c251 :: c252 :: c253 :: c254 :: c255 :: c256 :: c257 :: c258 :: c259 :: c260 :: c261 :: c262 :: c263 :: c264 :: c265 :: c266 :: c267 :: c268 :: c269 :: c270 :: c271 :: c272 :: c273 :: c274 :: c275 :: c276 :: c277 :: c278 :: c279 :: c280 :: c281 :: c282 :: []).toArray, []⟩ W := by
  conv => arg 2; whnf
  obtain ⟨Ar, Aa, cr, ca, p0, p1, p2, hA⟩ := h.a
  obtain ⟨Ar7, Aa7, cr7, ca7, q0, q1, q2, hZ⟩ := h.z
  have HE := Lib.hid h.ext
  clear h
  have p0 := fun w' (h : Ext W w') => h.cell p0
  have p1 := fun w' (h : Ext W w') => h.cell p1
  have p2 := fun w' (h : Ext W w') => h.cell p2
  have q0 := fun w' (h : Ext W w') => h.cell q0
  have q1 := fun w' (h : Ext W w') => h.cell q1
  have q2 := fun w' (h : Ext W w') => h.cell q2
  have hE0 := Ext.refl W
  have hf1 := fin_e W _ hA
  have hf2 := fun W1 (e : Ext W W1) => fin_z W1 _ (hZ.ext e)
  have hf3 := fun W1 (e : Ext W W1) => nth_z W1 _ (hZ.ext e)
  clear hA hZ
  go_wp2_with (first
    | ((with_reducible refine hf1.mono ?_); rintro e w1 ⟨rfl, e1⟩; clear hf1)
    | ((with_reducible refine (hf2 w1 e1).mono ?_); rintro e w2 ⟨rfl, e2⟩; have e12 := e1.trans e2; clear hf2)
    | ((with_reducible refine (hf3 w2 e12).mono ?_); rintro e w3 ⟨rfl, e3⟩; clear hf3))
  go_ret
  exact ⟨rfl, HE.out.trans (e12.trans e3)⟩
end Go.Proofs.YthlnmcokgfpgmaaDoor

namespace Go.Proofs.YthlnmcokgfpgmaaDoor
open Go.RowKit Go.Maps
set_option linter.unusedVariables false
set_option linter.unusedSimpArgs false
attribute [local go_sem] Oper.quietV quietV Oper.gives givesV ext_refl_iff ext_alloc_iff ext_drew_iff ext_drewN_iff
set_option maxRecDepth 100000 in
set_option maxHeartbeats 2000000 in
theorem lives_t35 (w W : World) (b1 b2 b3 b5 b7 : Nat) (c0 c3 c4 c5 c6 c8 c9 c10 c11 c12 c13 c14 c15 c16 c17 c18 c19 c20 c21 c22 c23 c24 c25 c26 c27 c28 c29 c30 c31 c32 c33 c34 c35 c36 c37 c38 c39 c40 c41 c42 c43 c44 c45 c46 c47 c48 c49 c50 c51 c52 c53 c54 c55 c56 c57 c58 c59 c60 c61 c62 c63 c64 c65 c66 c67 c68 c69 c70 c71 c72 c73 c74 c75 c76 c77 c78 c79 c80 c81 c82 c83 c84 c85 c86 c87 c88 c89 c90 c91 c92 c93 c94 c95 c96 c97 c98 c99 c100 c101 c102 c103 c104 c105 c106 c107 c108 c109 c110 c111 c112 c113 c114 c115 c116 c117 c118 c119 c120 c121 c122 c123 c124 c125 c126 c127 c128 c129 c130 c131 c132 c133 c134 c135 c136 c137 c138 c139 c140 c141 c142 c143 c144 c145 c146 c147 c148 c149 c150 c151 c152 c153 c154 c155 c156 c157 c158 c159 c160 c161 c162 c163 c164 c165 c166 c167 c168 c169 c170 c171 c172 c173 c174 c175 c176 c177 c178 c179 c180 c181 c182 c183 c184 c185 c186 c187 c188 c189 c190 c191 c192 c193 c194 c195 c196 c197 c198 c199 c200 c201 c202 c203 c204 c205 c206 c207 c208 c209 c210 c211 c212 c213 c214 c215 c216 c217 c218 c219 c220 c221 c222 c223 c224 c225 c226 c227 c228 c229 c230 c231 c232 c233 c234 c235 c236 c237 c238 c239 c240 c241 c242 c243 c244 c245 c246 c247 c248 c249 c250 c251 c252 c253 c254 c255 c256 c257 c258 c259 c260 c261 c262 c263 c264 c265 c266 c267 c268 c269 c270 c271 c272 c273 c274 c275 c276 c277 c278 c279 c280 c281 c282 : Value) (h : LV w W b1 b2 b3 b5 b7) :
    Code.wp Tryd.prog (T18 35) (bodyPost Tryd.prog Tryd.f18 fun e w' => e = .returned (.bool true) ∧ Ext w w') ⟨(c0 :: .pointer (some ⟨b1, 0, none⟩) :: .pointer (some ⟨b2, 0, none⟩) :: c3 :: c4 :: c5 :: c6 :: .pointer (some ⟨b7, 0, none⟩) :: c8 :: c9 :: c10 :: c11 :: c12 :: c13 :: c14 :: c15 :: c16 :: c17 :: c18 :: c19 :: c20 :: c21 :: c22 :: c23 :: c24 :: c25 :: c26 :: c27 :: c28 :: c29 :: c30 :: c31 :: c32 :: c33 :: c34 :: c35 :: c36 :: c37 :: c38 :: c39 :: c40 :: c41 :: c42 :: c43 :: c44 :: c45 :: c46 :: c47 :: c48 :: c49 :: c50 :: c51 :: c52 :: c53 :: c54 :: c55 :: c56 :: c57 :: c58 :: c59 :: c60 :: c61 :: c62 :: c63 :: c64 :: c65 :: c66 :: c67 :: c68 :: c69 :: c70 :: c71 :: c72 :: c73 :: c74 :: c75 :: c76 :: c77 :: c78 :: c79 :: c80 :: c81 :: c82 :: c83 :: c84 :: c85 :: c86 :: c87 :: c88 :: c89 :: c90 :: c91 :: c92 :: c93 :: c94 :: c95 :: c96 :: c97 :: c98 :: c99 :: c100 :: c101 :: c102 :: c103 :: c104 :: c105 :: c106 :: c107 :: c108 :: c109 :: c110 :: c111 :: c112 :: c113 :: c114 :: c115 :: c116 :: c117 :: c118 :: c119 :: c120 :: c121 :: c122 :: c123 :: c124 :: c125 :: c126 :: c127 :: c128 :: c129 :: c130 :: c131 :: c132 :: c133 :: c134 :: c135 :: c136 :: c137 :: c138 :: c139 :: c140 :: c141 :: c142 :: c143 :: c144 :: c145 :: c146 :: c147 :: c148 :: c149 :: c150 :: c151 :: c152 :: c153 :: c154 :: c155 :: c156 :: c157 :: c158 :: c159 :: c160 :: c161 :: c162 :: c163 :: c164 :: c165 :: c166 :: c167 :: c168 :: c169 :: c170 :: c171 :: c172 :: c173 :: c174 :: c175 :: c176 :: c177 :: c178 :: c179 :: c180 :: c181 :: c182 :: c183 :: c184 :: c185 :: c186 :: c187 :: c188 :: c189 :: c190 :: c191 :: c192 :: c193 :: c194 :: c195 :: c196 :: c197 :: c198 :: c199 :: c200 :: c201 :: c202 :: c203 :: c204 :: c205 :: c206 :: c207 :: c208 :: c209 :: c210 :: c211 :: c212 :: c213 :: c214 :: c215 :: c216 :: c217 :: c218 :: c219 :: c220 :: c221 :: c222 :: c223 :: c224 :: c225 :: c226 :: c227 :: c228 :: c229 :: c230 :: c231 :: c232 :: c233 :: c234 :: c235 :: c236 :: c237 :: c238 :: c239 :: c240 :: c241 :: c242 :: c243 :: c244 :: c245 :: c246 :: c247 :: c248 :: c249 :: c250 :: c251 :: c252 :: c253 :: c254 :: c255 :: c256 :: c257 :: c258 :: c259 :: c260 :: c261 :: c262 :: c263 :: c264 :: c265 :: c266 :: c267 :: c268 :: c269 :: c270 :: c271 :: c272 :: c273 :: c274 :: c275 :: c276 :: c277 :: c278 :: c279 :: c280 :: c281 :: c282 :: []).toArray, []⟩ W := by
  conv => arg 2; whnf
  obtain ⟨Ar, Aa, cr, ca, p0, p1, p2, hA⟩ := h.a
  obtain ⟨Ar2, Aa2, cr2, ca2, q0, q1, q2, hB⟩ := h.b
  have HL := Lib.hid h
  clear h
  have p0 := fun w' (h : Ext W w') => h.cell p0
  have p1 := fun w' (h : Ext W w') => h.cell p1
  have p2 := fun w' (h : Ext W w') => h.cell p2
  have q0 := fun w' (h : Ext W w') => h.cell q0
  have q1 := fun w' (h : Ext W w') => h.cell q1
  have q2 := fun w' (h : Ext W w') => h.cell q2
  have hE0 := Ext.refl W
  have hf1 := two_val (Rank_any (W.alloc (.cells #[.int .i64 1, .int .i64 0, .int .i64 1] 3)) _ endsD (hA.ext (alloc_ext _ _)) _ [1, 0, 1] 3 (ints_blk (xs := [1, 0, 1]) (n := 3) (heap_alloc_new _ _) rfl rfl (by omega))) rank_val.1
  have hf2 := fun W1 (e : Ext W W1) => two_val (Rank_any (W1.alloc (.cells #[.int .i64 0, .int .i64 0] 3)) _ endsD (hA.ext (e.alloc _)) _ [0, 0] 2 (ints_blk (xs := [0, 0]) (n := 2) (heap_alloc_new _ _) rfl rfl (by omega))) rank_val.2.1
  have hf3 := fun W1 (e : Ext W W1) => two_val (Rank_any (W1.alloc (.cells #[.int .i64 1] 3)) _ evenD (hB.ext (e.alloc _)) _ [1] 1 (ints_blk (xs := [1]) (n := 1) (heap_alloc_new _ _) rfl rfl (by omega))) rank_val.2.2
  clear hA hB
  go_upto_region 999 with (first
    | (with_reducible refine stop_at 40 ?_)
    | ((with_reducible refine hf1.mono ?_); rintro e w1 ⟨rfl, e1⟩; clear hf1; have e1 := (alloc_ext _ _).trans e1)
    | ((with_reducible refine (hf2 w1 e1).mono ?_); rintro e w2 ⟨rfl, e2⟩; have e12 := e1.trans ((alloc_ext _ _).trans e2); clear hf2)
    | ((with_reducible refine (hf3 w2 e12).mono ?_); rintro e w3 ⟨rfl, e3⟩; have e13 := e12.trans ((alloc_ext _ _).trans e3); clear hf3))
  refine ⟨?_⟩
  exact lives_t40 w _ b1 b2 b3 b5 b7 _ _ _ _ _ _ _ _ _ _ _ _ _ _ _ _ _ _ _ _ _ _ _ _ _ _ _ _ _ _ _ _ _ _ _ _ _ _ _ _ _ _ _ _ _ _ _ _ _ _ _ _ _ _ _ _ _ _ _ _ _ _ _ _ _ _ _ _ _ _ _ _ _ _ _ _ _ _ _ _ _ _ _ _ _ _ _ _ _ _ _ _ _ _ _ _ _ _ _ _ _ _ _ _ _ _ _ _ _ _ _ _ _ _ _ _ _ _ _ _ _ _ _ _ _ _ _ _ _ _ _ _ _ _ _ _ _ _ _ _ _ _ _ _ _ _ _ _ _ _ _ _ _ _ _ _ _ _ _ _ _ _ _ _ _ _ _ _ _ _ _ _ _ _ _ _ _ _ _ _ _ _ _ _ _ _ _ _ _ _ _ _ _ _ _ _ _ _ _ _ _ _ _ _ _ _ _ _ _ _ _ _ _ _ _ _ _ _ _ _ _ _ _ _ _ _ _ _ _ _ _ _ _ _ _ _ _ _ _ _ _ _ _ _ _ _ _ _ _ _ _ _ _ _ _ _ _ _ _ _ _ _ _ _ _ _ _ _ _ _ _ _ _ _ _ _ _ _ _ _ _ (HL.out.next e13)
end Go.Proofs.YthlnmcokgfpgmaaDoor

namespace Go.Proofs.YthlnmcokgfpgmaaDoor
open Go.RowKit Go.Maps
set_option linter.unusedVariables false
set_option linter.unusedSimpArgs false
attribute [local go_sem] Oper.quietV quietV Oper.gives givesV ext_refl_iff ext_alloc_iff ext_drew_iff ext_drewN_iff
def nthRows : List (List Int) := [[0, 1], [0, 0, 1], [1, 0, 1], [0, 0, 0, 1]]
theorem nth_w (W : World) (dv : Value) (hd : DfaV W dv endsD) (n : Nat) (hn : n < nthRows.length) : Calls Tryd.prog 21 #[dv, .int .i64 n] W fun e w' => ∃ v, e = .returned (.tuple #[v, .int .i64 0]) ∧ FitC w' v nthRows[n] ∧ Ext W w' := by
  match n, hn with
  | 0, _ => exact nth_e W dv hd 0 (by omega) nth0_val (by decide)
  | 1, _ => exact nth_e W dv hd 1 (by omega) nth1_val (by decide)
  | 2, _ => exact nth_e W dv hd 2 (by omega) nth2_val (by decide)
  | 3, _ => exact nth_e W dv hd 3 (by omega) nth3_val (by decide)
theorem is_same (W : World) (v u : Value) (xs : List Int) {c : Nat} (hv : FitC W v xs) (hu : IntsC W u xs c) : Calls Tryd.prog 23 #[v, .bool true, .int .i64 0, u] W fun r w' => r = .returned (.int .i64 1) ∧ Ext W w' :=
  (is_any W v u xs xs xs.length c hv hu true 0).mono fun e w' h => by
    have : isB xs xs.length true 0 xs = true := by simp [isB]
    rw [this] at h
    exact h
theorem nth_rows {W : World} {s : Nat} (c0 : W.heap[s]? = some (.cells #[.int .i64 0, .int .i64 1] 3 (0, 0))) (c1 : W.heap[s + 1]? = some (.cells #[.int .i64 0, .int .i64 0, .int .i64 1] 3 (0, 0))) (c2 : W.heap[s + 1 + 1]? = some (.cells #[.int .i64 1, .int .i64 0, .int .i64 1] 3 (0, 0))) (c3 : W.heap[s + 1 + 1 + 1]? = some (.cells #[.int .i64 0, .int .i64 0, .int .i64 0, .int .i64 1] 3 (0, 0)))
    (c4 : W.heap[s + 1 + 1 + 1 + 1]? = some (.cells #[.slice (some ⟨s, 0, none⟩) 2 2, .slice (some ⟨s + 1, 0, none⟩) 3 3, .slice (some ⟨s + 1 + 1, 0, none⟩) 3 3, .slice (some ⟨s + 1 + 1 + 1, 0, none⟩) 4 4] 31 (0, 0))) : ListsC W (.slice (some ⟨s + 1 + 1 + 1 + 1, 0, none⟩) 4 4) nthRows 4 := by
  refine lists_blk c4 rfl rfl (by omega) (fun i u es hu hes => ?_)
  match i, hu, hes with
  | 0, hu, hes => cases hu; cases hes; exact ⟨2, ints_blk (xs := [0, 1]) c0 rfl rfl (by omega)⟩
  | 1, hu, hes => cases hu; cases hes; exact ⟨3, ints_blk (xs := [0, 0, 1]) c1 rfl rfl (by omega)⟩
  | 2, hu, hes => cases hu; cases hes; exact ⟨3, ints_blk (xs := [1, 0, 1]) c2 rfl rfl (by omega)⟩
  | 3, hu, hes => cases hu; cases hes; exact ⟨4, ints_blk (xs := [0, 0, 0, 1]) c3 rfl rfl (by omega)⟩
  | n + 4, hu, hes => simp at hu
set_option maxRecDepth 100000 in
set_option maxHeartbeats 4000000 in
theorem lives_t28 (w W : World) (b1 b2 b3 b5 b7 : Nat) (c0 c3 c4 c5 c6 c8 c9 c10 c11 c12 c13 c14 c15 c16 c17 c18 c19 c20 c21 c22 c23 c24 c25 c26 c27 c28 c29 c30 c31 c32 c33 c34 c35 c36 c37 c38 c39 c40 c41 c42 c43 c44 c45 c46 c47 c48 c49 c50 c51 c52 c53 c54 c55 c56 c57 c58 c59 c60 c61 c62 c63 c64 c65 c66 c67 c68 c69 c70 c71 c72 c73 c74 c75 c76 c77 c78 c79 c80 c81 c82 c83 c84 c85 c86 c87 c88 c89 c90 c91 c92 c93 c94 c95 c96 c97 c98 c99 c100 c101 c102 c103 c104 c105 c106 c107 c108 c109 c110 c111 c112 c113 c114 c115 c116 c117 c118 c119 c120 c121 c122 c123 c124 c125 c126 c127 c128 c129 c130 c131 c132 c133 c134 c135 c136 c137 c138 c139 c140 c141 c142 c143 c144 c145 c146 c147 c148 c149 c150 c151 c152 c153 c154 c155 c156 c157 c158 c159 c160 c161 c162 c163 c164 c165 c166 c167 c168 c169 c170 c171 c172 c173 c174 c175 c176 c177 c178 c179 c180 c181 c182 c183 c184 c185 c186 c187 c188 c189 c190 c191 c192 c193 c194 c195 c196 c197 c198 c199 c200 c201 c202 c203 c204 c205 c206 c207 c208 c209 c210 c211 c212 c213 c214 c215 c216 c217 c218 c219 c220 c221 c222 c223 c224 c225 c226 c227 c228 c229 c230 c231 c232 c233 c234 c235 c236 c237 c238 c239 c240 c241 c242 c243 c244 c245 c246 c247 c248 c249 c250 c251 c252 c253 c254 c255 c256 c257 c258 c259 c260 c261 c262 c263 c264 c265 c266 c267 c268 c269 c270 c271 c272 c273 c274 c275 c276 c277 c278 c279 c280 c281 c282 : Value) (h : LV w W b1 b2 b3 b5 b7) :
    Code.wp Tryd.prog (T18 28) (bodyPost Tryd.prog Tryd.f18 fun e w' => e = .returned (.bool true) ∧ Ext w w') ⟨(c0 :: .pointer (some ⟨b1, 0, none⟩) :: .pointer (some ⟨b2, 0, none⟩) :: c3 :: c4 :: c5 :: c6 :: .pointer (some ⟨b7, 0, none⟩) :: c8 :: c9 :: c10 :: c11 :: c12 :: c13 :: c14 :: c15 :: c16 :: c17 :: c18 :: c19 :: c20 :: c21 :: c22 :: c23 :: c24 :: c25 :: c26 :: c27 :: c28 :: c29 :: c30 :: c31 :: c32 :: c33 :: c34 :: c35 :: c36 :: c37 :: c38 :: c39 :: c40 :: c41 :: c42 :: c43 :: c44 :: c45 :: c46 :: c47 :: c48 :: c49 :: c50 :: c51 :: c52 :: c53 :: c54 :: c55 :: c56 :: c57 :: c58 :: c59 :: c60 :: c61 :: c62 :: c63 :: c64 :: c65 :: c66 :: c67 :: c68 :: c69 :: c70 :: c71 :: c72 :: c73 :: c74 :: c75 :: c76 :: c77 :: c78 :: c79 :: c80 :: c81 :: c82 :: c83 :: c84 :: c85 :: c86 :: c87 :: c88 :: c89 :: c90 :: c91 :: c92 :: c93 :: c94 :: c95 :: c96 :: c97 :: c98 :: c99 :: c100 :: c101 :: c102 :: c103 :: c104 :: c105 :: c106 :: c107 :: c108 :: c109 :: c110 :: c111 :: c112 :: c113 :: c114 :: c115 :: c116 :: c117 :: c118 :: c119 :: c120 :: c121 :: c122 :: c123 :: c124 :: c125 :: c126 :: c127 :: c128 :: c129 :: c130 :: c131 :: c132 :: c133 :: c134 :: c135 :: c136 :: c137 :: c138 :: c139 :: c140 :: c141 :: c142 :: c143 :: c144 :: c145 :: c146 :: c147 :: c148 :: c149 :: c150 :: c151 :: c152 :: c153 :: c154 :: c155 :: c156 :: c157 :: c158 :: c159 :: c160 :: c161 :: c162 :: c163 :: c164 :: c165 :: c166 :: c167 :: c168 :: c169 :: c170 :: c171 :: c172 :: c173 :: c174 :: c175 :: c176 :: c177 :: c178 :: c179 :: c180 :: c181 :: c182 :: c183 :: c184 :: c185 :: c186 :: c187 :: c188 :: c189 :: c190 :: c191 :: c192 :: c193 :: c194 :: c195 :: c196 :: c197 :: c198 :: c199 :: c200 :: c201 :: c202 :: c203 :: c204 :: c205 :: c206 :: c207 :: c208 :: c209 :: c210 :: c211 :: c212 :: c213 :: c214 :: c215 :: c216 :: c217 :: c218 :: c219 :: c220 :: c221 :: c222 :: c223 :: c224 :: c225 :: c226 :: c227 :: c228 :: c229 :: c230 :: c231 :: c232 :: c233 :: c234 :: c235 :: c236 :: c237 :: c238 :: c239 :: c240 :: c241 :: c242 :: c243 :: c244 :: c245 :: c246 :: c247 :: c248 :: c249 :: c250 :: c251 :: c252 :: c253 :: c254 :: c255 :: c256 :: c257 :: c258 :: c259 :: c260 :: c261 :: c262 :: c263 :: c264 :: c265 :: c266 :: c267 :: c268 :: c269 :: c270 :: c271 :: c272 :: c273 :: c274 :: c275 :: c276 :: c277 :: c278 :: c279 :: c280 :: c281 :: c282 :: []).toArray, []⟩ W := by
  conv => arg 2; whnf
  go_upto_region 29 with fail
  have HL := Lib.hid h
  clear h
  generalize hs : W.heap.size = s at *
  obtain ⟨A, n0, zA, eA⟩ := new_world W (.cells #[.int .i64 0, .int .i64 1] 3)
  rw [← eA]
  obtain ⟨B, n1, zB, eB⟩ := new_world A (.cells #[.int .i64 0, .int .i64 0, .int .i64 1] 3)
  rw [← eB]
  obtain ⟨B2, n2, zB2, eB2⟩ := new_world B (.cells #[.int .i64 1, .int .i64 0, .int .i64 1] 3)
  rw [← eB2]
  obtain ⟨C, n3, zC, eC⟩ := new_world B2 (.cells #[.int .i64 0, .int .i64 0, .int .i64 0, .int .i64 1] 3)
  rw [← eC]
  obtain ⟨D, n4, zD, eD⟩ := new_world C (.cells #[.slice (some ⟨s, 0, none⟩) 2 2, .slice (some ⟨s + 1, 0, none⟩) 3 3, .slice (some ⟨s + 1 + 1, 0, none⟩) 3 3, .slice (some ⟨s + 1 + 1 + 1, 0, none⟩) 4 4] 31)
  rw [← eD]
  have xA : Ext W A := by rw [eA]; exact alloc_ext _ _
  have xB : Ext A B := by rw [eB]; exact alloc_ext _ _
  have xB2 : Ext B B2 := by rw [eB2]; exact alloc_ext _ _
  have xC : Ext B2 C := by rw [eC]; exact alloc_ext _ _
  have xD : Ext C D := by rw [eD]; exact alloc_ext _ _
  clear eA eB eB2 eC eD
  have k0 := heap_ext (xB.trans (xB2.trans (xC.trans xD))) n0
  have k1 := heap_ext (xB2.trans (xC.trans xD)) n1
  have k2 := heap_ext (xC.trans xD) n2
  have k3 := heap_ext xD n3
  rw [hs] at k0 zA
  rw [zA] at k1 zB
  rw [zB] at k2 zB2
  rw [zB2] at k3 zC
  rw [zC] at n4
  have hR := nth_rows k0 k1 k2 k3 n4
  have hL := HL.out.next (xA.trans (xB.trans (xB2.trans (xC.trans xD))))
  clear n0 n1 n2 n3 n4 k0 k1 k2 k3 zA zB zB2 zC zD xA xB xB2 xC xD HL hs
  generalize s + 1 + 1 + 1 + 1 = g at *
  have HL := Lib.hid hL
  clear hL
  go_wp2
  go_loopw [26] (fun iv wr => ∃ n : Nat, iv = .int .i64 n ∧ n ≤ 4 ∧ Ext D wr) (fun iv _ => 4 - (intOf iv).toNat)
  case atStart => exact ⟨0, rfl, by omega, Ext.refl _⟩
  case round =>
    obtain ⟨n, rfl, hn, hE⟩ := hrel
    obtain ⟨W4, hW4⟩ : ∃ W, W = wr := ⟨_, rfl⟩; subst hW4
    have hL4 := HL.out.next hE
    by_cases hlt : n < 4
    · obtain ⟨Ar, Aa, cr, ca, p0, p1, p2, hA⟩ := hL4.a
      have hf1 := nth_w W4 _ hA n hlt
      have hltI : (n : Int) < 4 := by omega
      clear hL4 hA
      obtain ⟨u, c', cu, hu⟩ : ∃ u c', W4.cell? ⟨g, n, none⟩ = some u ∧ IntsC W4 u nthRows[n] c' := by
        obtain ⟨bg, og, u, c', hv, _, cu, hu⟩ := (hR.ext hE).at_ (k := n) hlt
        cases hv
        exact ⟨u, c', by rw [← cu, Nat.zero_add], hu⟩
      generalize nthRows[n] = xs at *
      have cu : ∀ w', Ext W4 w' → w'.cell? ⟨g, n, none⟩ = some u := fun w' h => h.cell cu
      have hE0 := Ext.refl W4
      obtain ⟨Au, rfl, _, _, hum⟩ := id hu
      unfold lenMax at hum
      go_wp2_with (first
        | ((with_reducible refine hf1.mono ?_); rintro e w1 ⟨v1, rfl, hv1, e1⟩; clear hf1; have cu := cu w1 e1; have hi := is_same w1 _ _ _ hv1 (hu.ext e1))
        | ((with_reducible refine hi.mono ?_); rintro e w2 ⟨rfl, e2⟩; clear hi))
      go_roundw
      case rel => exact ⟨n + 1, by go_num, by omega, hE.trans (e1.trans e2)⟩
      case measure => simp [intOf]; omega
    · obtain rfl : n = 4 := by omega
      clear hlt
      go_upto_region 999 with (with_reducible refine stop_at 35 ?_)
      refine ⟨?_⟩
      exact lives_t35 w _ b1 b2 b3 b5 b7 _ _ _ _ _ _ _ _ _ _ _ _ _ _ _ _ _ _ _ _ _ _ _ _ _ _ _ _ _ _ _ _ _ _ _ _ _ _ _ _ _ _ _ _ _ _ _ _ _ _ _ _ _ _ _ _ _ _ _ _ _ _ _ _ _ _ _ _ _ _ _ _ _ _ _ _ _ _ _ _ _ _ _ _ _ _ _ _ _ _ _ _ _ _ _ _ _ _ _ _ _ _ _ _ _ _ _ _ _ _ _ _ _ _ _ _ _ _ _ _ _ _ _ _ _ _ _ _ _ _ _ _ _ _ _ _ _ _ _ _ _ _ _ _ _ _ _ _ _ _ _ _ _ _ _ _ _ _ _ _ _ _ _ _ _ _ _ _ _ _ _ _ _ _ _ _ _ _ _ _ _ _ _ _ _ _ _ _ _ _ _ _ _ _ _ _ _ _ _ _ _ _ _ _ _ _ _ _ _ _ _ _ _ _ _ _ _ _ _ _ _ _ _ _ _ _ _ _ _ _ _ _ _ _ _ _ _ _ _ _ _ _ _ _ _ _ _ _ _ _ _ _ _ _ _ _ _ _ _ _ _ _ _ _ _ _ _ _ _ _ _ _ _ _ _ _ _ _ _ _ hL4
end Go.Proofs.YthlnmcokgfpgmaaDoor

namespace Go.Proofs.YthlnmcokgfpgmaaDoor
open Go.RowKit Go.Maps
set_option linter.unusedVariables false
set_option linter.unusedSimpArgs false
attribute [local go_sem] Oper.quietV quietV Oper.gives givesV ext_refl_iff ext_alloc_iff ext_drew_iff ext_drewN_iff
def cntL : List Int := [1, 5, 3, 62, 64]
def wantL : List Int := [0, 8, 0, 4611686018427387904, 0]
theorem cnt_a (n : Nat) (h : n < cntL.length) (h' : n < wantL.length) (h1 : n ≤ 1) : countR endsD cntL[n] = (wantL[n], 0) := by
  match n, h1 with
  | 0, _ => exact count_val.1
  | 1, _ => exact count_val.2.1
theorem cnt_b (n : Nat) (h : n < cntL.length) (h' : n < wantL.length) (h1 : 1 < n) (h2 : n < 4) : countR evenD cntL[n] = (wantL[n], 0) := by
  match n, h1 with
  | 2, _ => exact count_val.2.2.1
  | 3, _ => exact count_val.2.2.2.1
theorem cnt_c (n : Nat) (h : n < cntL.length) (h' : n < wantL.length) (h1 : n = 4) : countR evenD cntL[n] = (wantL[n], 3) := by
  subst h1
  exact count_val.2.2.2.2
set_option maxRecDepth 100000 in
set_option maxHeartbeats 4000000 in
theorem lives_t17 (w W : World) (b1 b2 b3 b5 b7 : Nat) (c0 c3 c4 c5 c6 c8 c9 c10 c11 c12 c13 c14 c15 c16 c17 c18 c19 c20 c21 c22 c23 c24 c25 c26 c27 c28 c29 c30 c31 c32 c33 c34 c35 c36 c37 c38 c39 c40 c41 c42 c43 c44 c45 c46 c47 c48 c49 c50 c51 c52 c53 c54 c55 c56 c57 c58 c59 c60 c61 c62 c63 c64 c65 c66 c67 c68 c69 c70 c71 c72 c73 c74 c75 c76 c77 c78 c79 c80 c81 c82 c83 c84 c85 c86 c87 c88 c89 c90 c91 c92 c93 c94 c95 c96 c97 c98 c99 c100 c101 c102 c103 c104 c105 c106 c107 c108 c109 c110 c111 c112 c113 c114 c115 c116 c117 c118 c119 c120 c121 c122 c123 c124 c125 c126 c127 c128 c129 c130 c131 c132 c133 c134 c135 c136 c137 c138 c139 c140 c141 c142 c143 c144 c145 c146 c147 c148 c149 c150 c151 c152 c153 c154 c155 c156 c157 c158 c159 c160 c161 c162 c163 c164 c165 c166 c167 c168 c169 c170 c171 c172 c173 c174 c175 c176 c177 c178 c179 c180 c181 c182 c183 c184 c185 c186 c187 c188 c189 c190 c191 c192 c193 c194 c195 c196 c197 c198 c199 c200 c201 c202 c203 c204 c205 c206 c207 c208 c209 c210 c211 c212 c213 c214 c215 c216 c217 c218 c219 c220 c221 c222 c223 c224 c225 c226 c227 c228 c229 c230 c231 c232 c233 c234 c235 c236 c237 c238 c239 c240 c241 c242 c243 c244 c245 c246 c247 c248 c249 c250 c251 c252 c253 c254 c255 c256 c257 c258 c259 c260 c261 c262 c263 c264 c265 c266 c267 c268 c269 c270 c271 c272 c273 c274 c275 c276 c277 c278 c279 c280 c281 c282 : Value) (h : LV w W b1 b2 b3 b5 b7) :
    Code.wp Tryd.prog (T18 17) (bodyPost Tryd.prog Tryd.f18 fun e w' => e = .returned (.bool true) ∧ Ext w w') ⟨(c0 :: .pointer (some ⟨b1, 0, none⟩) :: .pointer (some ⟨b2, 0, none⟩) :: c3 :: c4 :: c5 :: c6 :: .pointer (some ⟨b7, 0, none⟩) :: c8 :: c9 :: c10 :: c11 :: c12 :: c13 :: c14 :: c15 :: c16 :: c17 :: c18 :: c19 :: c20 :: c21 :: c22 :: c23 :: c24 :: c25 :: c26 :: c27 :: c28 :: c29 :: c30 :: c31 :: c32 :: c33 :: c34 :: c35 :: c36 :: c37 :: c38 :: c39 :: c40 :: c41 :: c42 :: c43 :: c44 :: c45 :: c46 :: c47 :: c48 :: c49 :: c50 :: c51 :: c52 :: c53 :: c54 :: c55 :: c56 :: c57 :: c58 :: c59 :: c60 :: c61 :: c62 :: c63 :: c64 :: c65 :: c66 :: c67 :: c68 :: c69 :: c70 :: c71 :: c72 :: c73 :: c74 :: c75 :: c76 :: c77 :: c78 :: c79 :: c80 :: c81 :: c82 :: c83 :: c84 :: c85 :: c86 :: c87 :: c88 :: c89 :: c90 :: c91 :: c92 :: c93 :: c94 :: c95 :: c96 :: c97 :: c98 :: c99 :: c100 :: c101 :: c102 :: c103 :: c104 :: c105 :: c106 :: c107 :: c108 :: c109 :: c110 :: c111 :: c112 :: c113 :: c114 :: c115 :: c116 :: c117 :: c118 :: c119 :: c120 :: c121 :: c122 :: c123 :: c124 :: c125 :: c126 :: c127 :: c128 :: c129 :: c130 :: c131 :: c132 :: c133 :: c134 :: c135 :: c136 :: c137 :: c138 :: c139 :: c140 :: c141 :: c142 :: c143 :: c144 :: c145 :: c146 :: c147 :: c148 :: c149 :: c150 :: c151 :: c152 :: c153 :: c154 :: c155 :: c156 :: c157 :: c158 :: c159 :: c160 :: c161 :: c162 :: c163 :: c164 :: c165 :: c166 :: c167 :: c168 :: c169 :: c170 :: c171 :: c172 :: c173 :: c174 :: c175 :: c176 :: c177 :: c178 :: c179 :: c180 :: c181 :: c182 :: c183 :: c184 :: c185 :: c186 :: c187 :: c188 :: c189 :: c190 :: c191 :: c192 :: c193 :: c194 :: c195 :: c196 :: c197 :: c198 :: c199 :: c200 :: c201 :: c202 :: c203 :: c204 :: c205 :: c206 :: c207 :: c208 :: c209 :: c210 :: c211 :: c212 :: c213 :: c214 :: c215 :: c216 :: c217 :: c218 :: c219 :: c220 :: c221 :: c222 :: c223 :: c224 :: c225 :: c226 :: c227 :: c228 :: c229 :: c230 :: c231 :: c232 :: c233 :: c234 :: c235 :: c236 :: c237 :: c238 :: c239 :: c240 :: c241 :: c242 :: c243 :: c244 :: c245 :: c246 :: c247 :: c248 :: c249 :: c250 :: c251 :: c252 :: c253 :: c254 :: c255 :: c256 :: c257 :: c258 :: c259 :: c260 :: c261 :: c262 :: c263 :: c264 :: c265 :: c266 :: c267 :: c268 :: c269 :: c270 :: c271 :: c272 :: c273 :: c274 :: c275 :: c276 :: c277 :: c278 :: c279 :: c280 :: c281 :: c282 :: []).toArray, []⟩ W := by
  conv => arg 2; whnf
  go_upto_region 19 with fail
  have HL := Lib.hid h
  clear h
  generalize hs : W.heap.size = s at *
  obtain ⟨A, n0, zA, eA⟩ := new_world W (.cells #[.int .i64 1, .int .i64 5, .int .i64 3, .int .i64 62, .int .i64 64] 3)
  rw [← eA]
  obtain ⟨D, n1, zB, eB⟩ := new_world A (.cells #[.int .i64 0, .int .i64 8, .int .i64 0, .int .i64 4611686018427387904, .int .i64 0] 3)
  rw [← eB]
  have xA : Ext W A := by rw [eA]; exact alloc_ext _ _
  have xB : Ext A D := by rw [eB]; exact alloc_ext _ _
  clear eA eB
  have k0 := heap_ext xB n0
  rw [hs] at k0 zA
  rw [zA] at n1
  have hCL : FitC D (.slice (some ⟨s, 0, none⟩) 5 5) cntL := ints_blk (xs := cntL) k0 rfl rfl (by omega)
  have hCW : FitC D (.slice (some ⟨s + 1, 0, none⟩) 5 5) wantL := ints_blk (xs := wantL) n1 rfl rfl (by omega)
  have hL := HL.out.next (xA.trans xB)
  clear n0 n1 k0 zA zB xA xB HL hs
  generalize s + 1 = g2 at *
  have HL := Lib.hid hL
  clear hL
  go_wp2
  go_loopw [21] (fun iv wr => ∃ n : Nat, iv = .int .i64 n ∧ n ≤ 5 ∧ Ext D wr) (fun iv _ => 5 - (intOf iv).toNat)
  case atStart => exact ⟨0, rfl, by omega, Ext.refl _⟩
  case round =>
    obtain ⟨n, rfl, hn, hE⟩ := hrel
    obtain ⟨W4, hW4⟩ : ∃ W, W = wr := ⟨_, rfl⟩; subst hW4
    have hL4 := HL.out.next hE
    by_cases hlt : n < 5
    · obtain ⟨Ar, Aa, cr, ca, p0, p1, p2, hA⟩ := hL4.a
      obtain ⟨Ar2, Aa2, cr2, ca2, q0, q1, q2, hB⟩ := hL4.b
      have hltI : (n : Int) < 5 := by omega
      clear hL4
      have cl : ∀ w', Ext W4 w' → w'.cell? ⟨s, n, none⟩ = some (.int .i64 (cntL[n]'hlt)) := fun w' h => h.cell (by
        obtain ⟨bg, og, hv, _, cu⟩ := Cells.at_int (k := n) (xs := cntL) (by obtain ⟨A, hv, hc, _⟩ := IntsC.ext hCL hE; cases hv; exact hc) hlt
        cases hv; rw [← cu, Nat.zero_add])
      have cw : ∀ w', Ext W4 w' → w'.cell? ⟨g2, n, none⟩ = some (.int .i64 (wantL[n]'hlt)) := fun w' h => h.cell (by
        obtain ⟨bg, og, hv, _, cu⟩ := Cells.at_int (k := n) (xs := wantL) (by obtain ⟨A, hv, hc, _⟩ := IntsC.ext hCW hE; cases hv; exact hc) hlt
        cases hv; rw [← cu, Nat.zero_add])
      have p0 := fun w' (h : Ext W4 w') => h.cell p0
      have p1 := fun w' (h : Ext W4 w') => h.cell p1
      have p2 := fun w' (h : Ext W4 w') => h.cell p2
      have q0 := fun w' (h : Ext W4 w') => h.cell q0
      have q1 := fun w' (h : Ext W4 w') => h.cell q1
      have q2 := fun w' (h : Ext W4 w') => h.cell q2
      have hE0 := Ext.refl W4
      by_cases hn1 : n ≤ 1
      · have hn1I : ¬ (1 : Int) < (n : Int) := by omega
        have h4 : ((n : Int) == 4) = false := by simp; omega
        go_upto_region 23 with (with_reducible refine wpList_store_blk _ rfl 28 _ _ rfl W4.heap.size 28 _ _ rfl rfl (heap_alloc_new _ _) (by kernel_rfl) (by kernel_rfl) (by kernel_rfl) ?_; intro w1 h1 g1)
        have e1 : Ext W4 w1 := Below.grown (alloc_ext W4 _) g1 (alloc_ext W4 _).size (fun k hk => by cases hk; exact Nat.le_refl _)
        clear g1
        go_upto_region 25 with fail
        have HF := fun W9 (e : Ext w1 W9) => two_val (CountOf_any W9 _ endsD (hA.ext (e1.trans e)) cntL[n]) (cnt_a n hlt hlt hn1)
        have d0 : ∀ w', Ext w1 w' → w'.cell? ⟨W4.heap.size, 0, none⟩ = some (.int .i64 (endsD).sy) := fun w' h => h.cell (cell_of_blk h1 0 rfl)
        have d1 := fun w' (h : Ext w1 w') => h.cell (cell_of_blk h1 1 rfl)
        have d2 := fun w' (h : Ext w1 w') => h.cell (cell_of_blk h1 2 rfl)
        have cl := fun w' (h : Ext w1 w') => cl w' (e1.trans h)
        have cw := fun w' (h : Ext w1 w') => cw w' (e1.trans h)
        have hE0 := Ext.refl w1
        have HE := Lib.hid (hE.trans e1)
        clear p0 p1 p2 q0 q1 q2 hA hB h1 hE
        generalize cntL[n] = x at *
        generalize wantL[n] = y at *
        generalize W4.heap.size = b4 at *
        go_upto_region 25 with fail
        refine wp_region_ext 10 (factsOf [(5, fun v _ => v = .tuple #[.int .i64 y, .int .i64 0])]) (fun k => ([[], [], [], [1, 2], [1, 2, 3], [0, 1, 2, 3, 4], [0, 1, 2, 3, 4, 5], [0, 1, 2, 3, 4, 5, 6], [0, 1, 2, 3, 4, 5, 6], [0, 1, 2, 3, 4, 5, 6, 7], [0, 1, 2, 3, 4, 5, 6, 7, 8, 9]] : List (List Nat)).getD k []) (by kernel_rfl) (by kernel_rfl) Ext.pre (mono_cons (stays_eq _) (mono_nil)) ?_
        simp only [List.take_succ_cons, List.take_zero]
        repeat (first | (with_reducible refine lexL_quiet' (v := ?_) ?_ ?_ ?_ ?_; rotate_left; (· with_reducible rfl); (· simp [factsOf]); (· intro w1 hw1 _; go_simp; with_reducible rfl); (try simp only [Act.put, List.setIfInBounds_toArray, List.set_cons_zero, List.set_cons_succ])) | (with_reducible refine lexL_skip ?_ ?_; (· simp [Region.wanted, yielded, undef]); (try simp only [Act.put, List.setIfInBounds_toArray, List.set_cons_zero, List.set_cons_succ])) | (with_reducible refine lexL_quiet (v := ?_) ?_ ?_ ?_ ?_; rotate_left; (· simp [Region.wanted, yielded, undef]); (· simp [factsOf]); (· intro w1 hw1 _; go_simp; with_reducible rfl); (try simp only [Act.put, List.setIfInBounds_toArray, List.set_cons_zero, List.set_cons_succ])))
        with_reducible refine lexL_give' (φ := ?_) ?_ ?_ ?_ ?_; rotate_left; (· with_reducible rfl); (· simp only [factsOf, Nat.reduceAdd, ↓reduceIte, Nat.reduceEqDiff]; rfl)
        · intro w2' hw2' _
          go_simp
          refine (HF w2' hw2').mono ?_
          rintro e w3' ⟨rfl, e3⟩
          exact ⟨_, rfl, e3, rfl⟩
        rintro v8 w2' hw2' rfl hk2
        clear hk2 hw2' w2'
        (try simp only [Act.put, List.setIfInBounds_toArray, List.set_cons_zero, List.set_cons_succ])
        repeat (first | (with_reducible refine lexL_quiet' (v := ?_) ?_ ?_ ?_ ?_; rotate_left; (· with_reducible rfl); (· simp [factsOf]); (· intro w1 hw1 _; go_simp; with_reducible rfl); (try simp only [Act.put, List.setIfInBounds_toArray, List.set_cons_zero, List.set_cons_succ])) | (with_reducible refine lexL_skip ?_ ?_; (· simp [Region.wanted, yielded, undef]); (try simp only [Act.put, List.setIfInBounds_toArray, List.set_cons_zero, List.set_cons_succ])) | (with_reducible refine lexL_quiet (v := ?_) ?_ ?_ ?_ ?_; rotate_left; (· simp [Region.wanted, yielded, undef]); (· simp [factsOf]); (· intro w1 hw1 _; go_simp; with_reducible rfl); (try simp only [Act.put, List.setIfInBounds_toArray, List.set_cons_zero, List.set_cons_succ])))
        with_reducible refine lexL_nil ?_; intro w1 hw1 hk1; simp only [List.drop_succ_cons, List.drop_zero]
        clear hk1 HF d0 d1 d2 cl
        have cw := cw _ hw1
        have HE9 := Lib.hid (HE.out.trans hw1)
        clear hw1 hE0
        go_wp2
        go_roundw
        case rel => exact ⟨n + 1, by go_num, by omega, HE9.out⟩
        case measure => simp [intOf]; omega
      · have hn1I : (1 : Int) < (n : Int) := by omega
        go_upto_region 23 with (with_reducible refine wpList_store_blk _ rfl 28 _ _ rfl W4.heap.size 28 _ _ rfl rfl (heap_alloc_new _ _) (by kernel_rfl) (by kernel_rfl) (by kernel_rfl) ?_; intro w1 h1 g1)
        have e1 : Ext W4 w1 := Below.grown (alloc_ext W4 _) g1 (alloc_ext W4 _).size (fun k hk => by cases hk; exact Nat.le_refl _)
        clear g1
        go_upto_region 24 with fail
        go_upto_region 25 with (with_reducible refine wpList_store_blk _ rfl 28 _ _ rfl W4.heap.size 28 _ _ rfl rfl h1 (by kernel_rfl) (by kernel_rfl) (by kernel_rfl) ?_; intro w2 h2 g2)
        have e2 : Ext W4 w2 := Below.grown e1 g2 e1.size (fun k hk => by cases hk; exact Nat.le_refl _)
        clear g2 h1
        by_cases hn4 : n < 4
        · have h4 : ((n : Int) == 4) = false := by simp; omega
          have HF := fun W9 (e : Ext w2 W9) => two_val (CountOf_any W9 _ evenD (hB.ext (e2.trans e)) cntL[n]) (cnt_b n hlt hlt (by omega) hn4)
          have d0 : ∀ w', Ext w2 w' → w'.cell? ⟨W4.heap.size, 0, none⟩ = some (.int .i64 (evenD).sy) := fun w' h => h.cell (cell_of_blk h2 0 rfl)
          have d1 := fun w' (h : Ext w2 w') => h.cell (cell_of_blk h2 1 rfl)
          have d2 := fun w' (h : Ext w2 w') => h.cell (cell_of_blk h2 2 rfl)
          have cl := fun w' (h : Ext w2 w') => cl w' (e2.trans h)
          have cw := fun w' (h : Ext w2 w') => cw w' (e2.trans h)
          have hE0 := Ext.refl w2
          have HE := Lib.hid (hE.trans e2)
          clear p0 p1 p2 q0 q1 q2 hA hB h2 hE
          generalize cntL[n] = x at *
          generalize wantL[n] = y at *
          generalize W4.heap.size = b4 at *
          go_upto_region 25 with fail
          refine wp_region_ext 10 (factsOf [(5, fun v _ => v = .tuple #[.int .i64 y, .int .i64 0])]) (fun k => ([[], [], [], [1, 2], [1, 2, 3], [0, 1, 2, 3, 4], [0, 1, 2, 3, 4, 5], [0, 1, 2, 3, 4, 5, 6], [0, 1, 2, 3, 4, 5, 6], [0, 1, 2, 3, 4, 5, 6, 7], [0, 1, 2, 3, 4, 5, 6, 7, 8, 9]] : List (List Nat)).getD k []) (by kernel_rfl) (by kernel_rfl) Ext.pre (mono_cons (stays_eq _) (mono_nil)) ?_
          simp only [List.take_succ_cons, List.take_zero]
          repeat (first | (with_reducible refine lexL_quiet' (v := ?_) ?_ ?_ ?_ ?_; rotate_left; (· with_reducible rfl); (· simp [factsOf]); (· intro w1 hw1 _; go_simp; with_reducible rfl); (try simp only [Act.put, List.setIfInBounds_toArray, List.set_cons_zero, List.set_cons_succ])) | (with_reducible refine lexL_skip ?_ ?_; (· simp [Region.wanted, yielded, undef]); (try simp only [Act.put, List.setIfInBounds_toArray, List.set_cons_zero, List.set_cons_succ])) | (with_reducible refine lexL_quiet (v := ?_) ?_ ?_ ?_ ?_; rotate_left; (· simp [Region.wanted, yielded, undef]); (· simp [factsOf]); (· intro w1 hw1 _; go_simp; with_reducible rfl); (try simp only [Act.put, List.setIfInBounds_toArray, List.set_cons_zero, List.set_cons_succ])))
          with_reducible refine lexL_give' (φ := ?_) ?_ ?_ ?_ ?_; rotate_left; (· with_reducible rfl); (· simp only [factsOf, Nat.reduceAdd, ↓reduceIte, Nat.reduceEqDiff]; rfl)
          · intro w2' hw2' _
            go_simp
            refine (HF w2' hw2').mono ?_
            rintro e w3' ⟨rfl, e3⟩
            exact ⟨_, rfl, e3, rfl⟩
          rintro v8 w2' hw2' rfl hk2
          clear hk2 hw2' w2'
          (try simp only [Act.put, List.setIfInBounds_toArray, List.set_cons_zero, List.set_cons_succ])
          repeat (first | (with_reducible refine lexL_quiet' (v := ?_) ?_ ?_ ?_ ?_; rotate_left; (· with_reducible rfl); (· simp [factsOf]); (· intro w1 hw1 _; go_simp; with_reducible rfl); (try simp only [Act.put, List.setIfInBounds_toArray, List.set_cons_zero, List.set_cons_succ])) | (with_reducible refine lexL_skip ?_ ?_; (· simp [Region.wanted, yielded, undef]); (try simp only [Act.put, List.setIfInBounds_toArray, List.set_cons_zero, List.set_cons_succ])) | (with_reducible refine lexL_quiet (v := ?_) ?_ ?_ ?_ ?_; rotate_left; (· simp [Region.wanted, yielded, undef]); (· simp [factsOf]); (· intro w1 hw1 _; go_simp; with_reducible rfl); (try simp only [Act.put, List.setIfInBounds_toArray, List.set_cons_zero, List.set_cons_succ])))
          with_reducible refine lexL_nil ?_; intro w1 hw1 hk1; simp only [List.drop_succ_cons, List.drop_zero]
          clear hk1 HF d0 d1 d2 cl
          have cw := cw _ hw1
          have HE9 := Lib.hid (HE.out.trans hw1)
          clear hw1 hE0
          go_wp2
          go_roundw
          case rel => exact ⟨n + 1, by go_num, by omega, HE9.out⟩
          case measure => simp [intOf]; omega
        · have h4 : ((n : Int) == 4) = true := by simp; omega
          have HF := fun W9 (e : Ext w2 W9) => two_val (CountOf_any W9 _ evenD (hB.ext (e2.trans e)) cntL[n]) (cnt_c n hlt hlt (by omega))
          have d0 : ∀ w', Ext w2 w' → w'.cell? ⟨W4.heap.size, 0, none⟩ = some (.int .i64 (evenD).sy) := fun w' h => h.cell (cell_of_blk h2 0 rfl)
          have d1 := fun w' (h : Ext w2 w') => h.cell (cell_of_blk h2 1 rfl)
          have d2 := fun w' (h : Ext w2 w') => h.cell (cell_of_blk h2 2 rfl)
          have cl := fun w' (h : Ext w2 w') => cl w' (e2.trans h)
          have cw := fun w' (h : Ext w2 w') => cw w' (e2.trans h)
          have hE0 := Ext.refl w2
          have HE := Lib.hid (hE.trans e2)
          clear p0 p1 p2 q0 q1 q2 hA hB h2 hE
          generalize cntL[n] = x at *
          generalize wantL[n] = y at *
          generalize W4.heap.size = b4 at *
          go_upto_region 25 with fail
          refine wp_region_ext 10 (factsOf [(5, fun v _ => v = .tuple #[.int .i64 y, .int .i64 3])]) (fun k => ([[], [], [], [1, 2], [1, 2, 3], [0, 1, 2, 3, 4], [0, 1, 2, 3, 4, 5], [0, 1, 2, 3, 4, 5, 6], [0, 1, 2, 3, 4, 5, 6], [0, 1, 2, 3, 4, 5, 6, 7], [0, 1, 2, 3, 4, 5, 6, 7, 8, 9]] : List (List Nat)).getD k []) (by kernel_rfl) (by kernel_rfl) Ext.pre (mono_cons (stays_eq _) (mono_nil)) ?_
          simp only [List.take_succ_cons, List.take_zero]
          repeat (first | (with_reducible refine lexL_quiet' (v := ?_) ?_ ?_ ?_ ?_; rotate_left; (· with_reducible rfl); (· simp [factsOf]); (· intro w1 hw1 _; go_simp; with_reducible rfl); (try simp only [Act.put, List.setIfInBounds_toArray, List.set_cons_zero, List.set_cons_succ])) | (with_reducible refine lexL_skip ?_ ?_; (· simp [Region.wanted, yielded, undef]); (try simp only [Act.put, List.setIfInBounds_toArray, List.set_cons_zero, List.set_cons_succ])) | (with_reducible refine lexL_quiet (v := ?_) ?_ ?_ ?_ ?_; rotate_left; (· simp [Region.wanted, yielded, undef]); (· simp [factsOf]); (· intro w1 hw1 _; go_simp; with_reducible rfl); (try simp only [Act.put, List.setIfInBounds_toArray, List.set_cons_zero, List.set_cons_succ])))
          with_reducible refine lexL_give' (φ := ?_) ?_ ?_ ?_ ?_; rotate_left; (· with_reducible rfl); (· simp only [factsOf, Nat.reduceAdd, ↓reduceIte, Nat.reduceEqDiff]; rfl)
          · intro w2' hw2' _
            go_simp
            refine (HF w2' hw2').mono ?_
            rintro e w3' ⟨rfl, e3⟩
            exact ⟨_, rfl, e3, rfl⟩
          rintro v8 w2' hw2' rfl hk2
          clear hk2 hw2' w2'
          (try simp only [Act.put, List.setIfInBounds_toArray, List.set_cons_zero, List.set_cons_succ])
          repeat (first | (with_reducible refine lexL_quiet' (v := ?_) ?_ ?_ ?_ ?_; rotate_left; (· with_reducible rfl); (· simp [factsOf]); (· intro w1 hw1 _; go_simp; with_reducible rfl); (try simp only [Act.put, List.setIfInBounds_toArray, List.set_cons_zero, List.set_cons_succ])) | (with_reducible refine lexL_skip ?_ ?_; (· simp [Region.wanted, yielded, undef]); (try simp only [Act.put, List.setIfInBounds_toArray, List.set_cons_zero, List.set_cons_succ])) | (with_reducible refine lexL_quiet (v := ?_) ?_ ?_ ?_ ?_; rotate_left; (· simp [Region.wanted, yielded, undef]); (· simp [factsOf]); (· intro w1 hw1 _; go_simp; with_reducible rfl); (try simp only [Act.put, List.setIfInBounds_toArray, List.set_cons_zero, List.set_cons_succ])))
          with_reducible refine lexL_nil ?_; intro w1 hw1 hk1; simp only [List.drop_succ_cons, List.drop_zero]
          clear hk1 HF d0 d1 d2 cl
          have cw := cw _ hw1
          have HE9 := Lib.hid (HE.out.trans hw1)
          clear hw1 hE0
          go_wp2
          go_roundw
          case rel => exact ⟨n + 1, by go_num, by omega, HE9.out⟩
          case measure => simp [intOf]; omega
    · obtain rfl : n = 5 := by omega
      clear hlt
      go_upto_region 999 with (with_reducible refine stop_at 28 ?_)
      refine ⟨?_⟩
      exact lives_t28 w _ b1 b2 b3 b5 b7 _ _ _ _ _ _ _ _ _ _ _ _ _ _ _ _ _ _ _ _ _ _ _ _ _ _ _ _ _ _ _ _ _ _ _ _ _ _ _ _ _ _ _ _ _ _ _ _ _ _ _ _ _ _ _ _ _ _ _ _ _ _ _ _ _ _ _ _ _ _ _ _ _ _ _ _ _ _ _ _ _ _ _ _ _ _ _ _ _ _ _ _ _ _ _ _ _ _ _ _ _ _ _ _ _ _ _ _ _ _ _ _ _ _ _ _ _ _ _ _ _ _ _ _ _ _ _ _ _ _ _ _ _ _ _ _ _ _ _ _ _ _ _ _ _ _ _ _ _ _ _ _ _ _ _ _ _ _ _ _ _ _ _ _ _ _ _ _ _ _ _ _ _ _ _ _ _ _ _ _ _ _ _ _ _ _ _ _ _ _ _ _ _ _ _ _ _ _ _ _ _ _ _ _ _ _ _ _ _ _ _ _ _ _ _ _ _ _ _ _ _ _ _ _ _ _ _ _ _ _ _ _ _ _ _ _ _ _ _ _ _ _ _ _ _ _ _ _ _ _ _ _ _ _ _ _ _ _ _ _ _ _ _ _ _ _ _ _ _ _ _ _ _ _ _ _ _ _ _ _ hL4
end Go.Proofs.YthlnmcokgfpgmaaDoor

namespace Go.Proofs.YthlnmcokgfpgmaaDoor
open Go.RowKit Go.Maps
set_option linter.unusedVariables false
set_option linter.unusedSimpArgs false
attribute [local go_sem] Oper.quietV quietV Oper.gives givesV ext_refl_iff ext_alloc_iff ext_drew_iff ext_drewN_iff
set_option maxRecDepth 100000 in
set_option maxHeartbeats 4000000 in
theorem lives_t12 (w W : World) (b1 b2 b3 b5 b7 : Nat) (c0 c4 c5 c6 c8 c9 c10 c11 c12 c13 c14 c15 c16 c17 c18 c19 c20 c21 c22 c23 c24 c25 c26 c27 c28 c29 c30 c31 c32 c33 c34 c35 c36 c37 c38 c39 c40 c41 c42 c43 c44 c45 c46 c47 c48 c49 c50 c51 c52 c53 c54 c55 c56 c57 c58 c59 c60 c61 c62 c63 c64 c65 c66 c67 c68 c69 c70 c71 c72 c73 c74 c75 c76 c77 c78 c79 c80 c81 c82 c83 c84 c85 c86 c87 c88 c89 c90 c91 c92 c93 c94 c95 c96 c97 c98 c99 c100 c101 c102 c103 c104 c105 c106 c107 c108 c109 c110 c111 c112 c113 c114 c115 c116 c117 c118 c119 c120 c121 c122 c123 c124 c125 c126 c127 c128 c129 c130 c131 c132 c133 c134 c135 c136 c137 c138 c139 c140 c141 c142 c143 c144 c145 c146 c147 c148 c149 c150 c151 c152 c153 c154 c155 c156 c157 c158 c159 c160 c161 c162 c163 c164 c165 c166 c167 c168 c169 c170 c171 c172 c173 c174 c175 c176 c177 c178 c179 c180 c181 c182 c183 c184 c185 c186 c187 c188 c189 c190 c191 c192 c193 c194 c195 c196 c197 c198 c199 c200 c201 c202 c203 c204 c205 c206 c207 c208 c209 c210 c211 c212 c213 c214 c215 c216 c217 c218 c219 c220 c221 c222 c223 c224 c225 c226 c227 c228 c229 c230 c231 c232 c233 c234 c235 c236 c237 c238 c239 c240 c241 c242 c243 c244 c245 c246 c247 c248 c249 c250 c251 c252 c253 c254 c255 c256 c257 c258 c259 c260 c261 c262 c263 c264 c265 c266 c267 c268 c269 c270 c271 c272 c273 c274 c275 c276 c277 c278 c279 c280 c281 c282 : Value) (h : LV w W b1 b2 b3 b5 b7) :
    Code.wp Tryd.prog (T18 12) (bodyPost Tryd.prog Tryd.f18 fun e w' => e = .returned (.bool true) ∧ Ext w w') ⟨(c0 :: .pointer (some ⟨b1, 0, none⟩) :: .pointer (some ⟨b2, 0, none⟩) :: .pointer (some ⟨b3, 0, none⟩) :: c4 :: c5 :: c6 :: .pointer (some ⟨b7, 0, none⟩) :: c8 :: c9 :: c10 :: c11 :: c12 :: c13 :: c14 :: c15 :: c16 :: c17 :: c18 :: c19 :: c20 :: c21 :: c22 :: c23 :: c24 :: c25 :: c26 :: c27 :: c28 :: c29 :: c30 :: c31 :: c32 :: c33 :: c34 :: c35 :: c36 :: c37 :: c38 :: c39 :: c40 :: c41 :: c42 :: c43 :: c44 :: c45 :: c46 :: c47 :: c48 :: c49 :: c50 :: c51 :: c52 :: c53 :: c54 :: c55 :: c56 :: c57 :: c58 :: c59 :: c60 :: c61 :: c62 :: c63 :: c64 :: c65 :: c66 :: c67 :: c68 :: c69 :: c70 :: c71 :: c72 :: c73 :: c74 :: c75 :: c76 :: c77 :: c78 :: c79 :: c80 :: c81 :: c82 :: c83 :: c84 :: c85 :: c86 :: c87 :: c88 :: c89 :: c90 :: c91 :: c92 :: c93 :: c94 :: c95 :: c96 :: c97 :: c98 :: c99 :: c100 :: c101 :: c102 :: c103 :: c104 :: c105 :: c106 :: c107 :: c108 :: c109 :: c110 :: c111 :: c112 :: c113 :: c114 :: c115 :: c116 :: c117 :: c118 :: c119 :: c120 :: c121 :: c122 :: c123 :: c124 :: c125 :: c126 :: c127 :: c128 :: c129 :: c130 :: c131 :: c132 :: c133 :: c134 :: c135 :: c136 :: c137 :: c138 :: c139 :: c140 :: c141 :: c142 :: c143 :: c144 :: c145 :: c146 :: c147 :: c148 :: c149 :: c150 :: c151 :: c152 :: c153 :: c154 :: c155 :: c156 :: c157 :: c158 :: c159 :: c160 :: c161 :: c162 :: c163 :: c164 :: c165 :: c166 :: c167 :: c168 :: c169 :: c170 :: c171 :: c172 :: c173 :: c174 :: c175 :: c176 :: c177 :: c178 :: c179 :: c180 :: c181 :: c182 :: c183 :: c184 :: c185 :: c186 :: c187 :: c188 :: c189 :: c190 :: c191 :: c192 :: c193 :: c194 :: c195 :: c196 :: c197 :: c198 :: c199 :: c200 :: c201 :: c202 :: c203 :: c204 :: c205 :: c206 :: c207 :: c208 :: c209 :: c210 :: c211 :: c212 :: c213 :: c214 :: c215 :: c216 :: c217 :: c218 :: c219 :: c220 :: c221 :: c222 :: c223 :: c224 :: c225 :: c226 :: c227 :: c228 :: c229 :: c230 :: c231 :: c232 :: c233 :: c234 :: c235 :: c236 :: c237 :: c238 :: c239 :: c240 :: c241 :: c242 :: c243 :: c244 :: c245 :: c246 :: c247 :: c248 :: c249 :: c250 :: c251 :: c252 :: c253 :: c254 :: c255 :: c256 :: c257 :: c258 :: c259 :: c260 :: c261 :: c262 :: c263 :: c264 :: c265 :: c266 :: c267 :: c268 :: c269 :: c270 :: c271 :: c272 :: c273 :: c274 :: c275 :: c276 :: c277 :: c278 :: c279 :: c280 :: c281 :: c282 :: []).toArray, []⟩ W := by
  conv => arg 2; whnf
  obtain ⟨Ar, Aa, cr, ca, p0, p1, p2, hA⟩ := h.a
  obtain ⟨Ar2, Aa2, cr2, ca2, q0, q1, q2, hB⟩ := h.b
  obtain ⟨Ar3, Aa3, cr3, ca3, r0, r1, r2, hC⟩ := h.co
  have HL := Lib.hid h
  clear h
  have p0 := fun w' (h : Ext W w') => h.cell p0
  have p1 := fun w' (h : Ext W w') => h.cell p1
  have p2 := fun w' (h : Ext W w') => h.cell p2
  have q0 := fun w' (h : Ext W w') => h.cell q0
  have q1 := fun w' (h : Ext W w') => h.cell q1
  have q2 := fun w' (h : Ext W w') => h.cell q2
  have r0 := fun w' (h : Ext W w') => h.cell r0
  have r1 := fun w' (h : Ext W w') => h.cell r1
  have r2 := fun w' (h : Ext W w') => h.cell r2
  have hE0 := Ext.refl W
  have hf1 := incl_val (Inclusion_any W _ _ endsD evenD hA hB HL.out.m) incl1_val
  have hf2 := fun W1 (e : Ext W W1) => incl_val (Inclusion_any W1 _ _ evenD endsD (hB.ext e) (hA.ext e) (HL.out.m.ext e)) incl2_val
  have hf3 := fun W1 (e : Ext W W1) => incl_val (Inclusion_any W1 _ _ commD evenD (hC.ext e) (hB.ext e) (HL.out.m.ext e)) incl3_val
  clear hA hB hC
  go_upto_region 999 with (first
    | (with_reducible refine stop_at 17 ?_)
    | ((with_reducible refine hf1.mono ?_); rintro e w1 ⟨v1, rfl, hv1, e1⟩; clear hf1)
    | ((with_reducible refine (hf2 w1 e1).mono ?_); rintro e w2 ⟨v2, rfl, hv2, e2⟩; have e12 := e1.trans e2; clear hf2)
    | ((with_reducible refine (hf3 w2 e12).mono ?_); rintro e w3 ⟨v3, rfl, hv3, e3⟩; have e13 := e12.trans e3; clear hf3; obtain ⟨A3, rfl, hc3, _, hm3⟩ := id hv3; have hi := is_same (w3.alloc (.cells #[.int .i64 0, .int .i64 0, .int .i64 1] 3)) _ (.slice (some ⟨w3.heap.size, 0, none⟩) 3 3) [0, 0, 1] (hv1.ext (e2.trans (e3.trans (alloc_ext _ _)))) (ints_blk (xs := [0, 0, 1]) (n := 3) (heap_alloc_new _ _) rfl rfl (by omega)))
    | ((with_reducible refine hi.mono ?_); rintro e w4 ⟨rfl, e4⟩; have e14 := e13.trans ((alloc_ext _ _).trans e4); clear hi; have hj := is_same w4 _ _ [] (hv2.ext (e3.trans ((alloc_ext _ _).trans e4))) (fit_nil w4))
    | ((with_reducible refine hj.mono ?_); rintro e w5 ⟨rfl, e5⟩; have e15 := e14.trans e5; clear hj))
  refine ⟨?_⟩
  exact lives_t17 w _ b1 b2 b3 b5 b7 _ _ _ _ _ _ _ _ _ _ _ _ _ _ _ _ _ _ _ _ _ _ _ _ _ _ _ _ _ _ _ _ _ _ _ _ _ _ _ _ _ _ _ _ _ _ _ _ _ _ _ _ _ _ _ _ _ _ _ _ _ _ _ _ _ _ _ _ _ _ _ _ _ _ _ _ _ _ _ _ _ _ _ _ _ _ _ _ _ _ _ _ _ _ _ _ _ _ _ _ _ _ _ _ _ _ _ _ _ _ _ _ _ _ _ _ _ _ _ _ _ _ _ _ _ _ _ _ _ _ _ _ _ _ _ _ _ _ _ _ _ _ _ _ _ _ _ _ _ _ _ _ _ _ _ _ _ _ _ _ _ _ _ _ _ _ _ _ _ _ _ _ _ _ _ _ _ _ _ _ _ _ _ _ _ _ _ _ _ _ _ _ _ _ _ _ _ _ _ _ _ _ _ _ _ _ _ _ _ _ _ _ _ _ _ _ _ _ _ _ _ _ _ _ _ _ _ _ _ _ _ _ _ _ _ _ _ _ _ _ _ _ _ _ _ _ _ _ _ _ _ _ _ _ _ _ _ _ _ _ _ _ _ _ _ _ _ _ _ _ _ _ _ _ _ _ _ _ _ _ (HL.out.next e15)
set_option maxRecDepth 100000 in
set_option maxHeartbeats 4000000 in
theorem lives_t7 (w W : World) (b1 b2 b3 b5 b7 : Nat) (c0 c4 c6 c8 c9 c10 c11 c12 c13 c14 c15 c16 c17 c18 c19 c20 c21 c22 c23 c24 c25 c26 c27 c28 c29 c30 c31 c32 c33 c34 c35 c36 c37 c38 c39 c40 c41 c42 c43 c44 c45 c46 c47 c48 c49 c50 c51 c52 c53 c54 c55 c56 c57 c58 c59 c60 c61 c62 c63 c64 c65 c66 c67 c68 c69 c70 c71 c72 c73 c74 c75 c76 c77 c78 c79 c80 c81 c82 c83 c84 c85 c86 c87 c88 c89 c90 c91 c92 c93 c94 c95 c96 c97 c98 c99 c100 c101 c102 c103 c104 c105 c106 c107 c108 c109 c110 c111 c112 c113 c114 c115 c116 c117 c118 c119 c120 c121 c122 c123 c124 c125 c126 c127 c128 c129 c130 c131 c132 c133 c134 c135 c136 c137 c138 c139 c140 c141 c142 c143 c144 c145 c146 c147 c148 c149 c150 c151 c152 c153 c154 c155 c156 c157 c158 c159 c160 c161 c162 c163 c164 c165 c166 c167 c168 c169 c170 c171 c172 c173 c174 c175 c176 c177 c178 c179 c180 c181 c182 c183 c184 c185 c186 c187 c188 c189 c190 c191 c192 c193 c194 c195 c196 c197 c198 c199 c200 c201 c202 c203 c204 c205 c206 c207 c208 c209 c210 c211 c212 c213 c214 c215 c216 c217 c218 c219 c220 c221 c222 c223 c224 c225 c226 c227 c228 c229 c230 c231 c232 c233 c234 c235 c236 c237 c238 c239 c240 c241 c242 c243 c244 c245 c246 c247 c248 c249 c250 c251 c252 c253 c254 c255 c256 c257 c258 c259 c260 c261 c262 c263 c264 c265 c266 c267 c268 c269 c270 c271 c272 c273 c274 c275 c276 c277 c278 c279 c280 c281 c282 : Value) (h : LV w W b1 b2 b3 b5 b7) :
    Code.wp Tryd.prog (T18 7) (bodyPost Tryd.prog Tryd.f18 fun e w' => e = .returned (.bool true) ∧ Ext w w') ⟨(c0 :: .pointer (some ⟨b1, 0, none⟩) :: .pointer (some ⟨b2, 0, none⟩) :: .pointer (some ⟨b3, 0, none⟩) :: c4 :: .pointer (some ⟨b5, 0, none⟩) :: c6 :: .pointer (some ⟨b7, 0, none⟩) :: c8 :: c9 :: c10 :: c11 :: c12 :: c13 :: c14 :: c15 :: c16 :: c17 :: c18 :: c19 :: c20 :: c21 :: c22 :: c23 :: c24 :: c25 :: c26 :: c27 :: c28 :: c29 :: c30 :: c31 :: c32 :: c33 :: c34 :: c35 :: c36 :: c37 :: c38 :: c39 :: c40 :: c41 :: c42 :: c43 :: c44 :: c45 :: c46 :: c47 :: c48 :: c49 :: c50 :: c51 :: c52 :: c53 :: c54 :: c55 :: c56 :: c57 :: c58 :: c59 :: c60 :: c61 :: c62 :: c63 :: c64 :: c65 :: c66 :: c67 :: c68 :: c69 :: c70 :: c71 :: c72 :: c73 :: c74 :: c75 :: c76 :: c77 :: c78 :: c79 :: c80 :: c81 :: c82 :: c83 :: c84 :: c85 :: c86 :: c87 :: c88 :: c89 :: c90 :: c91 :: c92 :: c93 :: c94 :: c95 :: c96 :: c97 :: c98 :: c99 :: c100 :: c101 :: c102 :: c103 :: c104 :: c105 :: c106 :: c107 :: c108 :: c109 :: c110 :: c111 :: c112 :: c113 :: c114 :: c115 :: c116 :: c117 :: c118 :: c119 :: c120 :: c121 :: c122 :: c123 :: c124 :: c125 :: c126 :: c127 :: c128 :: c129 :: c130 :: c131 :: c132 :: c133 :: c134 :: c135 :: c136 :: c137 :: c138 :: c139 :: c140 :: c141 :: c142 :: c143 :: c144 :: c145 :: c146 :: c147 :: c148 :: c149 :: c150 :: c151 :: c152 :: c153 :: c154 :: c155 :: c156 :: c157 :: c158 :: c159 :: c160 :: c161 :: c162 :: c163 :: c164 :: c165 :: c166 :: c167 :: c168 :: c169 :: c170 :: c171 :: c172 :: c173 :: c174 :: c175 :: c176 :: c177 :: c178 :: c179 :: c180 :: c181 :: c182 :: c183 :: c184 :: c185 :: c186 :: c187 :: c188 :: c189 :: c190 :: c191 :: c192 :: c193 :: c194 :: c195 :: c196 :: c197 :: c198 :: c199 :: c200 :: c201 :: c202 :: c203 :: c204 :: c205 :: c206 :: c207 :: c208 :: c209 :: c210 :: c211 :: c212 :: c213 :: c214 :: c215 :: c216 :: c217 :: c218 :: c219 :: c220 :: c221 :: c222 :: c223 :: c224 :: c225 :: c226 :: c227 :: c228 :: c229 :: c230 :: c231 :: c232 :: c233 :: c234 :: c235 :: c236 :: c237 :: c238 :: c239 :: c240 :: c241 :: c242 :: c243 :: c244 :: c245 :: c246 :: c247 :: c248 :: c249 :: c250 :: c251 :: c252 :: c253 :: c254 :: c255 :: c256 :: c257 :: c258 :: c259 :: c260 :: c261 :: c262 :: c263 :: c264 :: c265 :: c266 :: c267 :: c268 :: c269 :: c270 :: c271 :: c272 :: c273 :: c274 :: c275 :: c276 :: c277 :: c278 :: c279 :: c280 :: c281 :: c282 :: []).toArray, []⟩ W := by
  conv => arg 2; whnf
  obtain ⟨Ar, Aa, cr, ca, p0, p1, p2, hA⟩ := h.a
  obtain ⟨Ar2, Aa2, cr2, ca2, q0, q1, q2, hB⟩ := h.co
  obtain ⟨Ar3, Aa3, cr3, ca3, r0, r1, r2, hC⟩ := h.n
  have HL := Lib.hid h
  clear h
  have p0 := fun w' (h : Ext W w') => h.cell p0
  have p1 := fun w' (h : Ext W w') => h.cell p1
  have p2 := fun w' (h : Ext W w') => h.cell p2
  have q0 := fun w' (h : Ext W w') => h.cell q0
  have q1 := fun w' (h : Ext W w') => h.cell q1
  have q2 := fun w' (h : Ext W w') => h.cell q2
  have r0 := fun w' (h : Ext W w') => h.cell r0
  have r1 := fun w' (h : Ext W w') => h.cell r1
  have r2 := fun w' (h : Ext W w') => h.cell r2
  have hE0 := Ext.refl W
  have hf1 := least_val (Least_any W _ endsD hA HL.out.m) least1_val
  have hf2 := fun W1 (e : Ext W W1) => least_val (Least_any W1 _ commD (hB.ext e) (HL.out.m.ext e)) least2_val
  have hf3 := fun W1 (e : Ext W W1) => least_val (Least_any W1 _ emptyD (hC.ext e) (HL.out.m.ext e)) least3_val
  clear hA hB hC
  go_upto_region 999 with (first
    | (with_reducible refine stop_at 12 ?_)
    | ((with_reducible refine hf1.mono ?_); rintro e w1 ⟨v1, rfl, hv1, e1⟩; clear hf1)
    | ((with_reducible refine (hf2 w1 e1).mono ?_); rintro e w2 ⟨v2, rfl, hv2, e2⟩; have e12 := e1.trans e2; clear hf2)
    | ((with_reducible refine (hf3 w2 e12).mono ?_); rintro e w3 ⟨v3, rfl, hv3, e3⟩; have e13 := e12.trans e3; clear hf3; have hi := is_same (w3.alloc (.cells #[.int .i64 0, .int .i64 1] 3)) _ (.slice (some ⟨w3.heap.size, 0, none⟩) 2 2) [0, 1] (hv1.ext (e2.trans (e3.trans (alloc_ext _ _)))) (ints_blk (xs := [0, 1]) (n := 2) (heap_alloc_new _ _) rfl rfl (by omega)))
    | ((with_reducible refine hi.mono ?_); rintro e w4 ⟨rfl, e4⟩; have e14 := e13.trans ((alloc_ext _ _).trans e4); clear hi; have hj := is_same (w4.alloc (.cells #[.int .i64 0, .int .i64 1] 3)) _ (.slice (some ⟨w4.heap.size, 0, none⟩) 2 2) [0, 1] (hv2.ext (e3.trans ((alloc_ext _ _).trans (e4.trans (alloc_ext _ _))))) (ints_blk (xs := [0, 1]) (n := 2) (heap_alloc_new _ _) rfl rfl (by omega)))
    | ((with_reducible refine hj.mono ?_); rintro e w5 ⟨rfl, e5⟩; have e15 := e14.trans ((alloc_ext _ _).trans e5); clear hj))
  refine ⟨?_⟩
  exact lives_t12 w _ b1 b2 b3 b5 b7 _ _ _ _ _ _ _ _ _ _ _ _ _ _ _ _ _ _ _ _ _ _ _ _ _ _ _ _ _ _ _ _ _ _ _ _ _ _ _ _ _ _ _ _ _ _ _ _ _ _ _ _ _ _ _ _ _ _ _ _ _ _ _ _ _ _ _ _ _ _ _ _ _ _ _ _ _ _ _ _ _ _ _ _ _ _ _ _ _ _ _ _ _ _ _ _ _ _ _ _ _ _ _ _ _ _ _ _ _ _ _ _ _ _ _ _ _ _ _ _ _ _ _ _ _ _ _ _ _ _ _ _ _ _ _ _ _ _ _ _ _ _ _ _ _ _ _ _ _ _ _ _ _ _ _ _ _ _ _ _ _ _ _ _ _ _ _ _ _ _ _ _ _ _ _ _ _ _ _ _ _ _ _ _ _ _ _ _ _ _ _ _ _ _ _ _ _ _ _ _ _ _ _ _ _ _ _ _ _ _ _ _ _ _ _ _ _ _ _ _ _ _ _ _ _ _ _ _ _ _ _ _ _ _ _ _ _ _ _ _ _ _ _ _ _ _ _ _ _ _ _ _ _ _ _ _ _ _ _ _ _ _ _ _ _ _ _ _ _ _ _ _ _ _ _ _ _ _ _ (HL.out.next e15)
end Go.Proofs.YthlnmcokgfpgmaaDoor

namespace Go.Proofs.YthlnmcokgfpgmaaDoor
open Go.RowKit Go.Maps
set_option linter.unusedVariables false
set_option linter.unusedSimpArgs false
attribute [local go_sem] Oper.quietV quietV Oper.gives givesV ext_refl_iff ext_alloc_iff ext_drew_iff ext_drewN_iff
set_option maxRecDepth 100000 in
set_option maxHeartbeats 4000000 in
theorem lives_t4 (w W : World) (b1 b2 b3 b5 : Nat) (c0 c7 c8 c9 c10 c11 c12 c13 c14 c15 c16 c17 c18 c19 c20 c21 c22 c23 c24 c25 c26 c27 c28 c29 c30 c31 c32 c33 c34 c35 c36 c37 c38 c39 c40 c41 c42 c43 c44 c45 c46 c47 c48 c49 c50 c51 c52 c53 c54 c55 c56 c57 c58 c59 c60 c61 c62 c63 c64 c65 c66 c67 c68 c69 c70 c71 c72 c73 c74 c75 c76 c77 c78 c79 c80 c81 c82 c83 c84 c85 c86 c87 c88 c89 c90 c91 c92 c93 c94 c95 c96 c97 c98 c99 c100 c101 c102 c103 c104 c105 c106 c107 c108 c109 c110 c111 c112 c113 c114 c115 c116 c117 c118 c119 c120 c121 c122 c123 c124 c125 c126 c127 c128 c129 c130 c131 c132 c133 c134 c135 c136 c137 c138 c139 c140 c141 c142 c143 c144 c145 c146 c147 c148 c149 c150 c151 c152 c153 c154 c155 c156 c157 c158 c159 c160 c161 c162 c163 c164 c165 c166 c167 c168 c169 c170 c171 c172 c173 c174 c175 c176 c177 c178 c179 c180 c181 c182 c183 c184 c185 c186 c187 c188 c189 c190 c191 c192 c193 c194 c195 c196 c197 c198 c199 c200 c201 c202 c203 c204 c205 c206 c207 c208 c209 c210 c211 c212 c213 c214 c215 c216 c217 c218 c219 c220 c221 c222 c223 c224 c225 c226 c227 c228 c229 c230 c231 c232 c233 c234 c235 c236 c237 c238 c239 c240 c241 c242 c243 c244 c245 c246 c247 c248 c249 c250 c251 c252 c253 c254 c255 c256 c257 c258 c259 c260 c261 c262 c263 c264 c265 c266 c267 c268 c269 c270 c271 c272 c273 c274 c275 c276 c277 c278 c279 c280 c281 c282 : Value) (h0 : Ext w W) (hm : GlobM W) (hc : GlobC W) (ha : BoxD W b1 endsD) (hb : BoxD W b2 evenD) (hco : BoxD W b3 commD) (hn : BoxD W b5 emptyD) :
    Code.wp Tryd.prog (T18 4) (bodyPost Tryd.prog Tryd.f18 fun e w' => e = .returned (.bool true) ∧ Ext w w') ⟨(c0 :: .pointer (some ⟨b1, 0, none⟩) :: .pointer (some ⟨b2, 0, none⟩) :: .pointer (some ⟨b3, 0, none⟩) :: .int .i64 0 :: .pointer (some ⟨b5, 0, none⟩) :: .int .i64 0 :: c7 :: c8 :: c9 :: c10 :: c11 :: c12 :: c13 :: c14 :: c15 :: c16 :: c17 :: c18 :: c19 :: c20 :: c21 :: c22 :: c23 :: c24 :: c25 :: c26 :: c27 :: c28 :: c29 :: c30 :: c31 :: c32 :: c33 :: c34 :: c35 :: c36 :: c37 :: c38 :: c39 :: c40 :: c41 :: c42 :: c43 :: c44 :: c45 :: c46 :: c47 :: c48 :: c49 :: c50 :: c51 :: c52 :: c53 :: c54 :: c55 :: c56 :: c57 :: c58 :: c59 :: c60 :: c61 :: c62 :: c63 :: c64 :: c65 :: c66 :: c67 :: c68 :: c69 :: c70 :: c71 :: c72 :: c73 :: c74 :: c75 :: c76 :: c77 :: c78 :: c79 :: c80 :: c81 :: c82 :: c83 :: c84 :: c85 :: c86 :: c87 :: c88 :: c89 :: c90 :: c91 :: c92 :: c93 :: c94 :: c95 :: c96 :: c97 :: c98 :: c99 :: c100 :: c101 :: c102 :: c103 :: c104 :: c105 :: c106 :: c107 :: c108 :: c109 :: c110 :: c111 :: c112 :: c113 :: c114 :: c115 :: c116 :: c117 :: c118 :: c119 :: c120 :: c121 :: c122 :: c123 :: c124 :: c125 :: c126 :: c127 :: c128 :: c129 :: c130 :: c131 :: c132 :: c133 :: c134 :: c135 :: c136 :: c137 :: c138 :: c139 :: c140 :: c141 :: c142 :: c143 :: c144 :: c145 :: c146 :: c147 :: c148 :: c149 :: c150 :: c151 :: c152 :: c153 :: c154 :: c155 :: c156 :: c157 :: c158 :: c159 :: c160 :: c161 :: c162 :: c163 :: c164 :: c165 :: c166 :: c167 :: c168 :: c169 :: c170 :: c171 :: c172 :: c173 :: c174 :: c175 :: c176 :: c177 :: c178 :: c179 :: c180 :: c181 :: c182 :: c183 :: c184 :: c185 :: c186 :: c187 :: c188 :: c189 :: c190 :: c191 :: c192 :: c193 :: c194 :: c195 :: c196 :: c197 :: c198 :: c199 :: c200 :: c201 :: c202 :: c203 :: c204 :: c205 :: c206 :: c207 :: c208 :: c209 :: c210 :: c211 :: c212 :: c213 :: c214 :: c215 :: c216 :: c217 :: c218 :: c219 :: c220 :: c221 :: c222 :: c223 :: c224 :: c225 :: c226 :: c227 :: c228 :: c229 :: c230 :: c231 :: c232 :: c233 :: c234 :: c235 :: c236 :: c237 :: c238 :: c239 :: c240 :: c241 :: c242 :: c243 :: c244 :: c245 :: c246 :: c247 :: c248 :: c249 :: c250 :: c251 :: c252 :: c253 :: c254 :: c255 :: c256 :: c257 :: c258 :: c259 :: c260 :: c261 :: c262 :: c263 :: c264 :: c265 :: c266 :: c267 :: c268 :: c269 :: c270 :: c271 :: c272 :: c273 :: c274 :: c275 :: c276 :: c277 :: c278 :: c279 :: c280 :: c281 :: c282 :: []).toArray, []⟩ W := by
  conv => arg 2; whnf
  have HA := Lib.hid (And.intro h0 (And.intro hm (And.intro hc (And.intro ha (And.intro hb (And.intro hco hn))))))
  obtain ⟨Arp, Aap, crp, cap, p0, p1, p2, vp⟩ := ha
  have p0 := fun w' (h : Ext W w') => h.cell p0
  have p1 := fun w' (h : Ext W w') => h.cell p1
  have p2 := fun w' (h : Ext W w') => h.cell p2
  have hE0 := Ext.refl W
  have hcm := Minus_any W _ _ endsD endsD vp vp hm
  clear h0 hm hc hb hco hn vp
  go_upto_region 999 with (first
    | (with_reducible refine stop_at 7 ?_)
    | (go_at_call 34; refine hcm.mono ?_; rintro e wC ⟨vC, rC, rfl, hop, hfC, eC⟩; obtain rfl := minus2_val hop; have hdC := hfC.dfa; obtain ⟨rvC, avC, rfl, ⟨ArC, vrC, rfl, -⟩, ⟨AaC, rfl, -⟩⟩ := id hdC)
    | (with_reducible refine wpList_store_blk _ rfl 28 _ _ rfl wC.heap.size 28 _ _ rfl rfl (heap_alloc_new _ _) (by kernel_rfl) (by kernel_rfl) (by kernel_rfl) ?_; intro w3 h3 g3))
  refine ⟨?_⟩
  have e3 : Ext wC w3 := Below.grown (alloc_ext wC _) g3 (alloc_ext wC _).size (fun k hk => by cases hk; exact Nat.le_refl _)
  have eW : Ext W w3 := eC.trans e3
  have hbx := BoxD.of h3 (hdC.ext e3).dfa
  exact lives_t7 w w3 b1 b2 b3 b5 wC.heap.size _ _ _ _ _ _ _ _ _ _ _ _ _ _ _ _ _ _ _ _ _ _ _ _ _ _ _ _ _ _ _ _ _ _ _ _ _ _ _ _ _ _ _ _ _ _ _ _ _ _ _ _ _ _ _ _ _ _ _ _ _ _ _ _ _ _ _ _ _ _ _ _ _ _ _ _ _ _ _ _ _ _ _ _ _ _ _ _ _ _ _ _ _ _ _ _ _ _ _ _ _ _ _ _ _ _ _ _ _ _ _ _ _ _ _ _ _ _ _ _ _ _ _ _ _ _ _ _ _ _ _ _ _ _ _ _ _ _ _ _ _ _ _ _ _ _ _ _ _ _ _ _ _ _ _ _ _ _ _ _ _ _ _ _ _ _ _ _ _ _ _ _ _ _ _ _ _ _ _ _ _ _ _ _ _ _ _ _ _ _ _ _ _ _ _ _ _ _ _ _ _ _ _ _ _ _ _ _ _ _ _ _ _ _ _ _ _ _ _ _ _ _ _ _ _ _ _ _ _ _ _ _ _ _ _ _ _ _ _ _ _ _ _ _ _ _ _ _ _ _ _ _ _ _ _ _ _ _ _ _ _ _ _ _ _ _ _ _ _ _ _ _ _ _ _ _ _ _ ⟨HA.out.1.trans eW, HA.out.2.1.ext eW, HA.out.2.2.1.ext eW, HA.out.2.2.2.1.ext eW, HA.out.2.2.2.2.1.ext eW, HA.out.2.2.2.2.2.1.ext eW, HA.out.2.2.2.2.2.2.ext eW, hbx⟩
set_option maxRecDepth 100000 in
set_option maxHeartbeats 4000000 in
theorem lives_t3 (w W : World) (b1 b2 b3 : Nat) (c0 c5 c6 c7 c8 c9 c10 c11 c12 c13 c14 c15 c16 c17 c18 c19 c20 c21 c22 c23 c24 c25 c26 c27 c28 c29 c30 c31 c32 c33 c34 c35 c36 c37 c38 c39 c40 c41 c42 c43 c44 c45 c46 c47 c48 c49 c50 c51 c52 c53 c54 c55 c56 c57 c58 c59 c60 c61 c62 c63 c64 c65 c66 c67 c68 c69 c70 c71 c72 c73 c74 c75 c76 c77 c78 c79 c80 c81 c82 c83 c84 c85 c86 c87 c88 c89 c90 c91 c92 c93 c94 c95 c96 c97 c98 c99 c100 c101 c102 c103 c104 c105 c106 c107 c108 c109 c110 c111 c112 c113 c114 c115 c116 c117 c118 c119 c120 c121 c122 c123 c124 c125 c126 c127 c128 c129 c130 c131 c132 c133 c134 c135 c136 c137 c138 c139 c140 c141 c142 c143 c144 c145 c146 c147 c148 c149 c150 c151 c152 c153 c154 c155 c156 c157 c158 c159 c160 c161 c162 c163 c164 c165 c166 c167 c168 c169 c170 c171 c172 c173 c174 c175 c176 c177 c178 c179 c180 c181 c182 c183 c184 c185 c186 c187 c188 c189 c190 c191 c192 c193 c194 c195 c196 c197 c198 c199 c200 c201 c202 c203 c204 c205 c206 c207 c208 c209 c210 c211 c212 c213 c214 c215 c216 c217 c218 c219 c220 c221 c222 c223 c224 c225 c226 c227 c228 c229 c230 c231 c232 c233 c234 c235 c236 c237 c238 c239 c240 c241 c242 c243 c244 c245 c246 c247 c248 c249 c250 c251 c252 c253 c254 c255 c256 c257 c258 c259 c260 c261 c262 c263 c264 c265 c266 c267 c268 c269 c270 c271 c272 c273 c274 c275 c276 c277 c278 c279 c280 c281 c282 : Value) (h0 : Ext w W) (hm : GlobM W) (hc : GlobC W) (ha : BoxD W b1 endsD) (hb : BoxD W b2 evenD) (hco : BoxD W b3 commD) :
    Code.wp Tryd.prog (T18 3) (bodyPost Tryd.prog Tryd.f18 fun e w' => e = .returned (.bool true) ∧ Ext w w') ⟨(c0 :: .pointer (some ⟨b1, 0, none⟩) :: .pointer (some ⟨b2, 0, none⟩) :: .pointer (some ⟨b3, 0, none⟩) :: .int .i64 0 :: c5 :: c6 :: c7 :: c8 :: c9 :: c10 :: c11 :: c12 :: c13 :: c14 :: c15 :: c16 :: c17 :: c18 :: c19 :: c20 :: c21 :: c22 :: c23 :: c24 :: c25 :: c26 :: c27 :: c28 :: c29 :: c30 :: c31 :: c32 :: c33 :: c34 :: c35 :: c36 :: c37 :: c38 :: c39 :: c40 :: c41 :: c42 :: c43 :: c44 :: c45 :: c46 :: c47 :: c48 :: c49 :: c50 :: c51 :: c52 :: c53 :: c54 :: c55 :: c56 :: c57 :: c58 :: c59 :: c60 :: c61 :: c62 :: c63 :: c64 :: c65 :: c66 :: c67 :: c68 :: c69 :: c70 :: c71 :: c72 :: c73 :: c74 :: c75 :: c76 :: c77 :: c78 :: c79 :: c80 :: c81 :: c82 :: c83 :: c84 :: c85 :: c86 :: c87 :: c88 :: c89 :: c90 :: c91 :: c92 :: c93 :: c94 :: c95 :: c96 :: c97 :: c98 :: c99 :: c100 :: c101 :: c102 :: c103 :: c104 :: c105 :: c106 :: c107 :: c108 :: c109 :: c110 :: c111 :: c112 :: c113 :: c114 :: c115 :: c116 :: c117 :: c118 :: c119 :: c120 :: c121 :: c122 :: c123 :: c124 :: c125 :: c126 :: c127 :: c128 :: c129 :: c130 :: c131 :: c132 :: c133 :: c134 :: c135 :: c136 :: c137 :: c138 :: c139 :: c140 :: c141 :: c142 :: c143 :: c144 :: c145 :: c146 :: c147 :: c148 :: c149 :: c150 :: c151 :: c152 :: c153 :: c154 :: c155 :: c156 :: c157 :: c158 :: c159 :: c160 :: c161 :: c162 :: c163 :: c164 :: c165 :: c166 :: c167 :: c168 :: c169 :: c170 :: c171 :: c172 :: c173 :: c174 :: c175 :: c176 :: c177 :: c178 :: c179 :: c180 :: c181 :: c182 :: c183 :: c184 :: c185 :: c186 :: c187 :: c188 :: c189 :: c190 :: c191 :: c192 :: c193 :: c194 :: c195 :: c196 :: c197 :: c198 :: c199 :: c200 :: c201 :: c202 :: c203 :: c204 :: c205 :: c206 :: c207 :: c208 :: c209 :: c210 :: c211 :: c212 :: c213 :: c214 :: c215 :: c216 :: c217 :: c218 :: c219 :: c220 :: c221 :: c222 :: c223 :: c224 :: c225 :: c226 :: c227 :: c228 :: c229 :: c230 :: c231 :: c232 :: c233 :: c234 :: c235 :: c236 :: c237 :: c238 :: c239 :: c240 :: c241 :: c242 :: c243 :: c244 :: c245 :: c246 :: c247 :: c248 :: c249 :: c250 :: c251 :: c252 :: c253 :: c254 :: c255 :: c256 :: c257 :: c258 :: c259 :: c260 :: c261 :: c262 :: c263 :: c264 :: c265 :: c266 :: c267 :: c268 :: c269 :: c270 :: c271 :: c272 :: c273 :: c274 :: c275 :: c276 :: c277 :: c278 :: c279 :: c280 :: c281 :: c282 :: []).toArray, []⟩ W := by
  conv => arg 2; whnf
  have HA := Lib.hid (And.intro h0 (And.intro hm (And.intro hc (And.intro ha (And.intro hb hco)))))
  obtain ⟨Arp, Aap, crp, cap, p0, p1, p2, vp⟩ := hb
  have p0 := fun w' (h : Ext W w') => h.cell p0
  have p1 := fun w' (h : Ext W w') => h.cell p1
  have p2 := fun w' (h : Ext W w') => h.cell p2
  have hE0 := Ext.refl W
  have hcm := Minus_any W _ _ evenD evenD vp vp hm
  clear h0 hm hc ha hco vp
  go_upto_region 999 with (first
    | (with_reducible refine stop_at 4 ?_)
    | (go_at_call 34; refine hcm.mono ?_; rintro e wC ⟨vC, rC, rfl, hop, hfC, eC⟩; obtain rfl := minus1_val hop; have hdC := hfC.dfa; obtain ⟨rvC, avC, rfl, ⟨ArC, vrC, rfl, -⟩, ⟨AaC, rfl, -⟩⟩ := id hdC)
    | (with_reducible refine wpList_store_blk _ rfl 28 _ _ rfl wC.heap.size 28 _ _ rfl rfl (heap_alloc_new _ _) (by kernel_rfl) (by kernel_rfl) (by kernel_rfl) ?_; intro w3 h3 g3))
  refine ⟨?_⟩
  have e3 : Ext wC w3 := Below.grown (alloc_ext wC _) g3 (alloc_ext wC _).size (fun k hk => by cases hk; exact Nat.le_refl _)
  have eW : Ext W w3 := eC.trans e3
  have hbx := BoxD.of h3 (hdC.ext e3).dfa
  exact lives_t4 w w3 b1 b2 b3 wC.heap.size _ _ _ _ _ _ _ _ _ _ _ _ _ _ _ _ _ _ _ _ _ _ _ _ _ _ _ _ _ _ _ _ _ _ _ _ _ _ _ _ _ _ _ _ _ _ _ _ _ _ _ _ _ _ _ _ _ _ _ _ _ _ _ _ _ _ _ _ _ _ _ _ _ _ _ _ _ _ _ _ _ _ _ _ _ _ _ _ _ _ _ _ _ _ _ _ _ _ _ _ _ _ _ _ _ _ _ _ _ _ _ _ _ _ _ _ _ _ _ _ _ _ _ _ _ _ _ _ _ _ _ _ _ _ _ _ _ _ _ _ _ _ _ _ _ _ _ _ _ _ _ _ _ _ _ _ _ _ _ _ _ _ _ _ _ _ _ _ _ _ _ _ _ _ _ _ _ _ _ _ _ _ _ _ _ _ _ _ _ _ _ _ _ _ _ _ _ _ _ _ _ _ _ _ _ _ _ _ _ _ _ _ _ _ _ _ _ _ _ _ _ _ _ _ _ _ _ _ _ _ _ _ _ _ _ _ _ _ _ _ _ _ _ _ _ _ _ _ _ _ _ _ _ _ _ _ _ _ _ _ _ _ _ _ _ _ _ _ _ _ _ _ _ _ _ _ _ (HA.out.1.trans eW) (HA.out.2.1.ext eW) (HA.out.2.2.1.ext eW) (HA.out.2.2.2.1.ext eW) (HA.out.2.2.2.2.1.ext eW) (HA.out.2.2.2.2.2.ext eW) hbx
set_option maxRecDepth 100000 in
set_option maxHeartbeats 4000000 in
theorem lives_t2 (w W : World) (b1 b2 : Nat) (c0 c3 c4 c5 c6 c7 c8 c9 c10 c11 c12 c13 c14 c15 c16 c17 c18 c19 c20 c21 c22 c23 c24 c25 c26 c27 c28 c29 c30 c31 c32 c33 c34 c35 c36 c37 c38 c39 c40 c41 c42 c43 c44 c45 c46 c47 c48 c49 c50 c51 c52 c53 c54 c55 c56 c57 c58 c59 c60 c61 c62 c63 c64 c65 c66 c67 c68 c69 c70 c71 c72 c73 c74 c75 c76 c77 c78 c79 c80 c81 c82 c83 c84 c85 c86 c87 c88 c89 c90 c91 c92 c93 c94 c95 c96 c97 c98 c99 c100 c101 c102 c103 c104 c105 c106 c107 c108 c109 c110 c111 c112 c113 c114 c115 c116 c117 c118 c119 c120 c121 c122 c123 c124 c125 c126 c127 c128 c129 c130 c131 c132 c133 c134 c135 c136 c137 c138 c139 c140 c141 c142 c143 c144 c145 c146 c147 c148 c149 c150 c151 c152 c153 c154 c155 c156 c157 c158 c159 c160 c161 c162 c163 c164 c165 c166 c167 c168 c169 c170 c171 c172 c173 c174 c175 c176 c177 c178 c179 c180 c181 c182 c183 c184 c185 c186 c187 c188 c189 c190 c191 c192 c193 c194 c195 c196 c197 c198 c199 c200 c201 c202 c203 c204 c205 c206 c207 c208 c209 c210 c211 c212 c213 c214 c215 c216 c217 c218 c219 c220 c221 c222 c223 c224 c225 c226 c227 c228 c229 c230 c231 c232 c233 c234 c235 c236 c237 c238 c239 c240 c241 c242 c243 c244 c245 c246 c247 c248 c249 c250 c251 c252 c253 c254 c255 c256 c257 c258 c259 c260 c261 c262 c263 c264 c265 c266 c267 c268 c269 c270 c271 c272 c273 c274 c275 c276 c277 c278 c279 c280 c281 c282 : Value) (h0 : Ext w W) (hm : GlobM W) (hc : GlobC W) (ha : BoxD W b1 endsD) (hb : BoxD W b2 evenD) :
    Code.wp Tryd.prog (T18 2) (bodyPost Tryd.prog Tryd.f18 fun e w' => e = .returned (.bool true) ∧ Ext w w') ⟨(c0 :: .pointer (some ⟨b1, 0, none⟩) :: .pointer (some ⟨b2, 0, none⟩) :: c3 :: c4 :: c5 :: c6 :: c7 :: c8 :: c9 :: c10 :: c11 :: c12 :: c13 :: c14 :: c15 :: c16 :: c17 :: c18 :: c19 :: c20 :: c21 :: c22 :: c23 :: c24 :: c25 :: c26 :: c27 :: c28 :: c29 :: c30 :: c31 :: c32 :: c33 :: c34 :: c35 :: c36 :: c37 :: c38 :: c39 :: c40 :: c41 :: c42 :: c43 :: c44 :: c45 :: c46 :: c47 :: c48 :: c49 :: c50 :: c51 :: c52 :: c53 :: c54 :: c55 :: c56 :: c57 :: c58 :: c59 :: c60 :: c61 :: c62 :: c63 :: c64 :: c65 :: c66 :: c67 :: c68 :: c69 :: c70 :: c71 :: c72 :: c73 :: c74 :: c75 :: c76 :: c77 :: c78 :: c79 :: c80 :: c81 :: c82 :: c83 :: c84 :: c85 :: c86 :: c87 :: c88 :: c89 :: c90 :: c91 :: c92 :: c93 :: c94 :: c95 :: c96 :: c97 :: c98 :: c99 :: c100 :: c101 :: c102 :: c103 :: c104 :: c105 :: c106 :: c107 :: c108 :: c109 :: c110 :: c111 :: c112 :: c113 :: c114 :: c115 :: c116 :: c117 :: c118 :: c119 :: c120 :: c121 :: c122 :: c123 :: c124 :: c125 :: c126 :: c127 :: c128 :: c129 :: c130 :: c131 :: c132 :: c133 :: c134 :: c135 :: c136 :: c137 :: c138 :: c139 :: c140 :: c141 :: c142 :: c143 :: c144 :: c145 :: c146 :: c147 :: c148 :: c149 :: c150 :: c151 :: c152 :: c153 :: c154 :: c155 :: c156 :: c157 :: c158 :: c159 :: c160 :: c161 :: c162 :: c163 :: c164 :: c165 :: c166 :: c167 :: c168 :: c169 :: c170 :: c171 :: c172 :: c173 :: c174 :: c175 :: c176 :: c177 :: c178 :: c179 :: c180 :: c181 :: c182 :: c183 :: c184 :: c185 :: c186 :: c187 :: c188 :: c189 :: c190 :: c191 :: c192 :: c193 :: c194 :: c195 :: c196 :: c197 :: c198 :: c199 :: c200 :: c201 :: c202 :: c203 :: c204 :: c205 :: c206 :: c207 :: c208 :: c209 :: c210 :: c211 :: c212 :: c213 :: c214 :: c215 :: c216 :: c217 :: c218 :: c219 :: c220 :: c221 :: c222 :: c223 :: c224 :: c225 :: c226 :: c227 :: c228 :: c229 :: c230 :: c231 :: c232 :: c233 :: c234 :: c235 :: c236 :: c237 :: c238 :: c239 :: c240 :: c241 :: c242 :: c243 :: c244 :: c245 :: c246 :: c247 :: c248 :: c249 :: c250 :: c251 :: c252 :: c253 :: c254 :: c255 :: c256 :: c257 :: c258 :: c259 :: c260 :: c261 :: c262 :: c263 :: c264 :: c265 :: c266 :: c267 :: c268 :: c269 :: c270 :: c271 :: c272 :: c273 :: c274 :: c275 :: c276 :: c277 :: c278 :: c279 :: c280 :: c281 :: c282 :: []).toArray, []⟩ W := by
  conv => arg 2; whnf
  have HA := Lib.hid (And.intro h0 (And.intro hm (And.intro hc (And.intro ha hb))))
  obtain ⟨Arp, Aap, crp, cap, p0, p1, p2, vp⟩ := ha
  have p0 := fun w' (h : Ext W w') => h.cell p0
  have p1 := fun w' (h : Ext W w') => h.cell p1
  have p2 := fun w' (h : Ext W w') => h.cell p2
  obtain ⟨Arq, Aaq, crq, caq, q0, q1, q2, vq⟩ := hb
  have q0 := fun w' (h : Ext W w') => h.cell q0
  have q1 := fun w' (h : Ext W w') => h.cell q1
  have q2 := fun w' (h : Ext W w') => h.cell q2
  have hE0 := Ext.refl W
  have hcm := Common_any W _ _ endsD evenD vp vq hc
  clear h0 hm hc vp vq
  go_upto_region 999 with (first
    | (with_reducible refine stop_at 3 ?_)
    | (go_at_call 33; refine hcm.mono ?_; rintro e wC ⟨vC, rC, rfl, hop, hfC, eC⟩; obtain rfl := common_val hop; have hdC := hfC.dfa; obtain ⟨rvC, avC, rfl, ⟨ArC, vrC, rfl, -⟩, ⟨AaC, rfl, -⟩⟩ := id hdC)
    | (with_reducible refine wpList_store_blk _ rfl 28 _ _ rfl wC.heap.size 28 _ _ rfl rfl (heap_alloc_new _ _) (by kernel_rfl) (by kernel_rfl) (by kernel_rfl) ?_; intro w3 h3 g3))
  refine ⟨?_⟩
  have e3 : Ext wC w3 := Below.grown (alloc_ext wC _) g3 (alloc_ext wC _).size (fun k hk => by cases hk; exact Nat.le_refl _)
  have eW : Ext W w3 := eC.trans e3
  have hbx := BoxD.of h3 (hdC.ext e3).dfa
  exact lives_t3 w w3 b1 b2 wC.heap.size _ _ _ _ _ _ _ _ _ _ _ _ _ _ _ _ _ _ _ _ _ _ _ _ _ _ _ _ _ _ _ _ _ _ _ _ _ _ _ _ _ _ _ _ _ _ _ _ _ _ _ _ _ _ _ _ _ _ _ _ _ _ _ _ _ _ _ _ _ _ _ _ _ _ _ _ _ _ _ _ _ _ _ _ _ _ _ _ _ _ _ _ _ _ _ _ _ _ _ _ _ _ _ _ _ _ _ _ _ _ _ _ _ _ _ _ _ _ _ _ _ _ _ _ _ _ _ _ _ _ _ _ _ _ _ _ _ _ _ _ _ _ _ _ _ _ _ _ _ _ _ _ _ _ _ _ _ _ _ _ _ _ _ _ _ _ _ _ _ _ _ _ _ _ _ _ _ _ _ _ _ _ _ _ _ _ _ _ _ _ _ _ _ _ _ _ _ _ _ _ _ _ _ _ _ _ _ _ _ _ _ _ _ _ _ _ _ _ _ _ _ _ _ _ _ _ _ _ _ _ _ _ _ _ _ _ _ _ _ _ _ _ _ _ _ _ _ _ _ _ _ _ _ _ _ _ _ _ _ _ _ _ _ _ _ _ _ _ _ _ _ _ _ _ _ _ _ _ _ (HA.out.1.trans eW) (HA.out.2.1.ext eW) (HA.out.2.2.1.ext eW) (HA.out.2.2.2.1.ext eW) (HA.out.2.2.2.2.ext eW) hbx
set_option maxRecDepth 100000 in
set_option maxHeartbeats 4000000 in
theorem lives_any (w : World) (hgm : GlobM w) (hgc : GlobC w) : Calls Tryd.prog 18 #[] w fun e w' => e = .returned (.bool true) ∧ Ext w w' := by
  go_enter Tryd.func18, Tryd.ntmps18
  go_upto_region 999 with (first
    | (with_reducible refine stop_at 2 ?_)
    | (go_at_call 47; refine (ends_any _).mono ?_; rintro e wA ⟨vA, rfl, hdA, eA⟩; obtain ⟨rvA, avA, rfl, ⟨ArA, vrA, rfl, -⟩, ⟨AaA, rfl, -⟩⟩ := id hdA)
    | (go_at_call 40; refine (even_any _).mono ?_; rintro e wB ⟨vB, rfl, hdB, eB⟩; obtain ⟨rvB, avB, rfl, ⟨ArB, vrB, rfl, -⟩, ⟨AaB, rfl, -⟩⟩ := id hdB)
    | (with_reducible refine wpList_store_blk _ rfl 28 _ _ rfl wB.heap.size 28 _ _ rfl rfl (heap_ext (alloc_ext _ _) (heap_alloc_new _ _)) (by kernel_rfl) (by kernel_rfl) (by kernel_rfl) ?_; intro w1 h1 g1)
    | (with_reducible refine wpList_store_blk _ rfl 28 _ _ rfl (wB.heap.size + 1) 28 _ _ rfl rfl ((g1.block _ (by simp) (by simp)).trans (by have := heap_alloc_new (wB.alloc (.cells #[.int .i64 0, .slice none 0 0, .slice none 0 0] 28)) (.cells #[.int .i64 0, .slice none 0 0, .slice none 0 0] 28); simpa using this)) (by kernel_rfl) (by kernel_rfl) (by kernel_rfl) ?_; intro w2 h2 g2))
  refine ⟨?_⟩
  have eB1 : Ext wB w1 := Below.grown ((alloc_ext wB _).trans (alloc_ext _ _)) g1 ((alloc_ext wB _).trans (alloc_ext _ _)).size (fun k hk => by cases hk; exact Nat.le_refl _)
  have e12 : Ext wB w2 := Below.grown eB1 g2 eB1.size (fun k hk => by cases hk; omega)
  have h1 := (g2.block _ (lt_of_block h1) (by simp)).trans h1
  have vA := (hdA.ext (eB.trans e12)).dfa
  have vB := (hdB.ext e12).dfa
  have hE2 : Ext w w2 := eA.trans (eB.trans e12)
  exact lives_t2 w w2 wB.heap.size (wB.heap.size + 1) _ _ _ _ _ _ _ _ _ _ _ _ _ _ _ _ _ _ _ _ _ _ _ _ _ _ _ _ _ _ _ _ _ _ _ _ _ _ _ _ _ _ _ _ _ _ _ _ _ _ _ _ _ _ _ _ _ _ _ _ _ _ _ _ _ _ _ _ _ _ _ _ _ _ _ _ _ _ _ _ _ _ _ _ _ _ _ _ _ _ _ _ _ _ _ _ _ _ _ _ _ _ _ _ _ _ _ _ _ _ _ _ _ _ _ _ _ _ _ _ _ _ _ _ _ _ _ _ _ _ _ _ _ _ _ _ _ _ _ _ _ _ _ _ _ _ _ _ _ _ _ _ _ _ _ _ _ _ _ _ _ _ _ _ _ _ _ _ _ _ _ _ _ _ _ _ _ _ _ _ _ _ _ _ _ _ _ _ _ _ _ _ _ _ _ _ _ _ _ _ _ _ _ _ _ _ _ _ _ _ _ _ _ _ _ _ _ _ _ _ _ _ _ _ _ _ _ _ _ _ _ _ _ _ _ _ _ _ _ _ _ _ _ _ _ _ _ _ _ _ _ _ _ _ _ _ _ _ _ _ _ _ _ _ _ _ _ _ _ _ _ _ _ _ _ _ _ _ _ _ _ hE2 (hgm.ext hE2) (hgc.ext hE2) (BoxD.of h1 vA) (BoxD.of h2 vB)
end Go.Proofs.YthlnmcokgfpgmaaDoor
