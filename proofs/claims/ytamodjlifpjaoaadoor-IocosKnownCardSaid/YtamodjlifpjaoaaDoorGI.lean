/- same 15, nodes 27, coin 48, k 49. coin 48, k 49. B.Of 11. -/
import Derived.Test.YtamodjlifpjaoaaDoorGG
import Derived.Test.YtamodjlifpjaoaaDoorGH
import Derived.Test.YtamodjlifpjaoaaDoorGB
import Derived.Test.YtamodjlifpjaoaaDoorGC
namespace Go.Proofs.YtamodjlifpjaoaaDoor
open Go.RowKit
set_option linter.unusedVariables false
set_option linter.unusedSimpArgs false
attribute [local go_sem] Oper.quietV quietV Oper.gives givesV ext_refl_iff ext_alloc_iff ext_drew_iff ext_drewN_iff
def sameB (xs ys : List Int) (c : Nat) (e : Int) : Bool := decide (e = 0) && (decide (c = xs.length) && xs == ys)
set_option maxRecDepth 100000 in
set_option maxHeartbeats 1000000 in
theorem sameE_any (w : World) (v u : Value) (xs ys : List Int) (c cb : Nat) (e : Int) (hv : IntsC w v xs c) (hu : IntsC w u ys cb) (hc : c ≤ 1000000) :
    Calls Tryd.prog 15 #[v, .int .i64 e, u] w fun r w' => r = .returned (.int .i64 (b01 (sameB xs ys c e))) ∧ Ext w w' := by
  have hs := same_any w v u xs ys c cb hv hu
  obtain ⟨A, rfl, _, _, hx⟩ := id hv
  obtain ⟨B, rfl, _, _, hy⟩ := id hu
  unfold lenMax at hx hy
  have HB : Hid (sameB xs ys c e = (decide (e = 0) && (decide (c = xs.length) && xs == ys))) := Lib.hid rfl
  clear hv hu
  by_cases h0 : e = 0
  · subst h0
    by_cases h1 : c = xs.length
    · have hr : Hid (sameB xs ys c 0 = (xs == ys)) := Lib.hid (by rw [HB.out, decide_eq_true h1]; simp)
      have g1 : ((c : Int) != (xs.length : Int)) = false := by simp [h1]
      have H1 := Lib.hid h1
      clear h1
      go_enter Tryd.func15, Tryd.ntmps15
      go_wp2_with ((with_reducible refine hs.mono ?_); rintro e w1 ⟨rfl, e1⟩)
      go_ret
      exact ⟨by rw [hr.out]; rfl, e1⟩
    · have hr : Hid (sameB xs ys c 0 = false) := Lib.hid (by rw [HB.out, decide_eq_false h1]; simp)
      have g1 : ((c : Int) != (xs.length : Int)) = true := by simp; omega
      clear h1
      go_enter Tryd.func15, Tryd.ntmps15
      go_wp2
      go_ret
      exact ⟨by rw [hr.out]; rfl, Ext.refl _⟩
  · have hr : Hid (sameB xs ys c e = false) := Lib.hid (by rw [HB.out, decide_eq_false h0]; simp)
    have g1 : (e != 0) = true := by simpa using h0
    clear h0
    go_enter Tryd.func15, Tryd.ntmps15
    go_wp2
    go_ret
    exact ⟨by rw [hr.out]; rfl, Ext.refl _⟩
set_option maxRecDepth 100000 in
set_option maxHeartbeats 4000000 in
theorem nodes_any (w : World) (v u : Value) (L M : List Nd) (c d : Nat) (hv : NodesC w v L c) (hu : NodesC w u M d) :
    Calls Tryd.prog 27 #[v, u] w fun r w' => r = .returned (.int .i64 (b01 (L == M))) ∧ Ext w w' := by
  obtain ⟨A, hA, hLm⟩ : ∃ A, v = .slice A L.length c ∧ L.length ≤ 9223372036854775807 := by obtain ⟨A, _, _, h, _, _, _, h2⟩ := hv; exact ⟨A, h, h2⟩
  obtain ⟨B, hB, hMm⟩ : ∃ B, u = .slice B M.length d ∧ M.length ≤ 9223372036854775807 := by obtain ⟨A, _, _, h, _, _, _, h2⟩ := hu; exact ⟨A, h, h2⟩
  subst hA hB
  have HV := Lib.hid (And.intro hv hu)
  clear hv hu
  by_cases hl : L.length = M.length
  · have hl1 : ((L.length : Int) != (M.length : Int)) = false := by simp [hl]
    have HL := Lib.hid hl
    clear hl
    go_enter Tryd.func27, Tryd.ntmps27
    go_wp2
    go_loopw [5] (fun iv wr => ∃ k : Nat, iv = .int .i64 k ∧ k ≤ L.length ∧ Hid (L.take k = M.take k) ∧ Ext w wr) (fun iv _ => L.length - (intOf iv).toNat)
    case atStart => exact ⟨0, rfl, by omega, Lib.hid rfl, Ext.refl _⟩
    case round =>
      obtain ⟨k, rfl, hk, HP, hE⟩ := hrel
      obtain ⟨W5, hW5⟩ : ∃ W, W = wr := ⟨_, rfl⟩; subst hW5
      by_cases hlt : k < L.length
      · have hk2 : k < M.length := by have := HL.out; omega
        obtain ⟨x, hx⟩ : ∃ x, L[k]? = some x := ⟨_, List.getElem?_eq_getElem hlt⟩
        obtain ⟨y, hy⟩ : ∃ y, M[k]? = some y := ⟨_, List.getElem?_eq_getElem hk2⟩
        obtain ⟨b, o, ux, cx, hA, c0, c1, hux⟩ := (HV.out.1.ext hE).at_ hx
        obtain ⟨b', o', uy, cy, hB, d0, d1, huy⟩ := (HV.out.2.ext hE).at_ hy
        injection hA with hA _ _
        injection hB with hB _ _
        subst hA hB
        have hs := fun W (e : Ext W5 W) => same_any W ux uy x.next y.next cx cy (hux.ext e) (huy.ext e)
        obtain ⟨Ax, rfl, _⟩ := id hux
        obtain ⟨Ay, rfl, _⟩ := id huy
        have HT : Hid (L.take (k + 1) = M.take (k + 1) ↔ x = y) := Lib.hid (by
          rw [take_snoc hx, take_snoc hy, HP.out]; simp)
        have HNE : Hid (x ≠ y → (L == M) = false) := Lib.hid (fun hne => by
          rw [beq_eq_false_iff_ne]; intro e; subst e; rw [hx] at hy; cases hy; exact hne rfl)
        have c0 := fun w' (h : Ext W5 w') => h.cell c0
        have c1 := fun w' (h : Ext W5 w') => h.cell c1
        have d0 := fun w' (h : Ext W5 w') => h.cell d0
        have d1 := fun w' (h : Ext W5 w') => h.cell d1
        have hR5 := Ext.refl W5
        have HE := Lib.hid hE
        clear hx hy hux huy hE
        by_cases ha : x.act = y.act
        · have g1 : (x.act != y.act) = false := by simp [ha]
          have HXY : Hid (x = y ↔ (x.next == y.next) = true) := Lib.hid (by
            rw [beq_iff_eq]
            exact ⟨fun e => by rw [e], fun e => by cases x; cases y; simp at ha e; rw [ha, e]⟩)
          clear ha
          generalize x.act = xa at *
          generalize y.act = ya at *
          go_upto_region 6 with fail
          refine wp_region_ext 22 (factsOf []) (fun k => ([[], [], [0, 1], [0, 1, 2], [0, 1, 2, 3], [], [], [5, 6], [5, 6, 7], [5, 6, 7, 8], [0, 1, 2, 3, 4, 5, 6, 7, 8, 9], [0, 1, 2, 3, 4, 5, 6, 7, 8, 9, 10], [0, 1, 2, 3, 4, 5, 6, 7, 8, 9, 10, 11], [0, 1, 2, 3, 4, 5, 6, 7, 8, 9, 10, 11], [0, 1, 2, 3, 4, 5, 6, 7, 8, 9, 10, 11, 12, 13], [0, 1, 2, 3, 4, 5, 6, 7, 8, 9, 10, 11, 12, 13, 14], [0, 1, 2, 3, 4, 5, 6, 7, 8, 9, 10, 11, 12, 13, 14, 15], [0, 1, 2, 3, 4, 5, 6, 7, 8, 9, 10, 11], [0, 1, 2, 3, 4, 5, 6, 7, 8, 9, 10, 11], [0, 1, 2, 3, 4, 5, 6, 7, 8, 9, 10, 11, 17, 18], [0, 1, 2, 3, 4, 5, 6, 7, 8, 9, 10, 11, 17, 18, 19], [0, 1, 2, 3, 4, 5, 6, 7, 8, 9, 10, 11, 17, 18, 19, 20], [0, 1, 2, 3, 4, 5, 6, 7, 8, 9, 10, 11, 12, 13, 14, 15, 16, 17, 18, 19, 20, 21], [0, 1, 2, 3, 4, 5, 6, 7, 8, 9, 10, 11, 12, 13, 14, 15, 16, 17, 18, 19, 20, 21, 22], [0, 1, 2, 3, 4, 5, 6, 7, 8, 9, 10, 11, 12, 13, 14, 15, 16, 17, 18, 19, 20, 21, 22, 23]] : List (List Nat)).getD k []) (by kernel_rfl) (by kernel_rfl) Ext.pre (mono_nil) ?_
          simp only [List.take_succ_cons, List.take_zero]
          repeat (first | (with_reducible refine lexL_quiet' (v := ?_) ?_ ?_ ?_ ?_; rotate_left; (· with_reducible rfl); (· simp [factsOf]); (· intro w1 hw1 _; go_simp; with_reducible rfl); (try simp only [Act.put, List.setIfInBounds_toArray, List.set_cons_zero, List.set_cons_succ])) | (with_reducible refine lexL_skip ?_ ?_; (· simp [Region.wanted, yielded, undef]); (try simp only [Act.put, List.setIfInBounds_toArray, List.set_cons_zero, List.set_cons_succ])) | (with_reducible refine lexL_quiet (v := ?_) ?_ ?_ ?_ ?_; rotate_left; (· simp [Region.wanted, yielded, undef]); (· simp [factsOf]); (· intro w1 hw1 _; go_simp; with_reducible rfl); (try simp only [Act.put, List.setIfInBounds_toArray, List.set_cons_zero, List.set_cons_succ])))
          with_reducible refine lexL_nil ?_; intro w1 hw1 hk1; simp only [List.drop_succ_cons, List.drop_zero]
          have hs1 := hs w1 hw1
          have HW := Lib.hid hw1
          clear hk1 hw1 hs c0 c1 d0 d1 hR5
          cases hq : (x.next == y.next) with
          | true =>
            rw [hq] at hs1
            have HTT := Lib.hid (HT.out.2 (HXY.out.2 hq))
            clear hq
            go_wp2_with ((with_reducible refine hs1.mono ?_); rintro e w7 ⟨rfl, e7⟩)
            go_roundw
            case rel => exact ⟨k + 1, by go_num, hlt, HTT, HE.out.trans (HW.out.trans e7)⟩
            case measure => simp [intOf]; omega
          | false =>
            rw [hq] at hs1
            have HR := Lib.hid (HNE.out (fun e => by have := HXY.out.1 e; rw [hq] at this; cases this))
            clear hq
            go_wp2_with ((with_reducible refine hs1.mono ?_); rintro e w7 ⟨rfl, e7⟩)
            go_ret
            exact ⟨by rw [HR.out]; rfl, HE.out.trans (HW.out.trans e7)⟩
        · have g1 : (x.act != y.act) = true := by simpa using ha
          have HR := Lib.hid (HNE.out (fun e => ha (by rw [e])))
          clear ha
          go_upto_region 6 with fail
          refine wp_region_ext 22 (factsOf []) (fun k => ([[], [], [0, 1], [0, 1, 2], [0, 1, 2, 3], [], [], [5, 6], [5, 6, 7], [5, 6, 7, 8], [0, 1, 2, 3, 4, 5, 6, 7, 8, 9], [0, 1, 2, 3, 4, 5, 6, 7, 8, 9, 10], [0, 1, 2, 3, 4, 5, 6, 7, 8, 9, 10, 11], [0, 1, 2, 3, 4, 5, 6, 7, 8, 9, 10, 11], [0, 1, 2, 3, 4, 5, 6, 7, 8, 9, 10, 11, 12, 13], [0, 1, 2, 3, 4, 5, 6, 7, 8, 9, 10, 11, 12, 13, 14], [0, 1, 2, 3, 4, 5, 6, 7, 8, 9, 10, 11, 12, 13, 14, 15], [0, 1, 2, 3, 4, 5, 6, 7, 8, 9, 10, 11], [0, 1, 2, 3, 4, 5, 6, 7, 8, 9, 10, 11], [0, 1, 2, 3, 4, 5, 6, 7, 8, 9, 10, 11, 17, 18], [0, 1, 2, 3, 4, 5, 6, 7, 8, 9, 10, 11, 17, 18, 19], [0, 1, 2, 3, 4, 5, 6, 7, 8, 9, 10, 11, 17, 18, 19, 20], [0, 1, 2, 3, 4, 5, 6, 7, 8, 9, 10, 11, 12, 13, 14, 15, 16, 17, 18, 19, 20, 21], [0, 1, 2, 3, 4, 5, 6, 7, 8, 9, 10, 11, 12, 13, 14, 15, 16, 17, 18, 19, 20, 21, 22], [0, 1, 2, 3, 4, 5, 6, 7, 8, 9, 10, 11, 12, 13, 14, 15, 16, 17, 18, 19, 20, 21, 22, 23]] : List (List Nat)).getD k []) (by kernel_rfl) (by kernel_rfl) Ext.pre (mono_nil) ?_
          simp only [List.take_succ_cons, List.take_zero]
          repeat (first | (with_reducible refine lexL_quiet' (v := ?_) ?_ ?_ ?_ ?_; rotate_left; (· with_reducible rfl); (· simp [factsOf]); (· intro w1 hw1 _; go_simp; with_reducible rfl); (try simp only [Act.put, List.setIfInBounds_toArray, List.set_cons_zero, List.set_cons_succ])) | (with_reducible refine lexL_skip ?_ ?_; (· simp [Region.wanted, yielded, undef]); (try simp only [Act.put, List.setIfInBounds_toArray, List.set_cons_zero, List.set_cons_succ])) | (with_reducible refine lexL_quiet (v := ?_) ?_ ?_ ?_ ?_; rotate_left; (· simp [Region.wanted, yielded, undef]); (· simp [factsOf]); (· intro w1 hw1 _; go_simp; with_reducible rfl); (try simp only [Act.put, List.setIfInBounds_toArray, List.set_cons_zero, List.set_cons_succ])))
          with_reducible refine lexL_nil ?_; intro w1 hw1 hk1; simp only [List.drop_succ_cons, List.drop_zero]
          have HW := Lib.hid hw1
          clear hk1 hw1 hs c0 c1 d0 d1 hR5
          go_wp2
          go_ret
          exact ⟨by rw [HR.out]; rfl, HE.out.trans HW.out⟩
      · obtain rfl : k = L.length := by omega
        have HR : Hid ((L == M) = true) := Lib.hid (by
          have := HP.out
          rw [List.take_length, HL.out, List.take_length] at this
          rw [this]; simp)
        go_wp2
        go_ret
        exact ⟨by rw [HR.out]; rfl, hE⟩
  · have hl1 : ((L.length : Int) != (M.length : Int)) = true := by simp; omega
    have HR : Hid ((L == M) = false) := Lib.hid (by rw [beq_eq_false_iff_ne]; intro e; exact hl (by rw [e]))
    clear hl
    go_enter Tryd.func27, Tryd.ntmps27
    go_wp2
    go_ret
    exact ⟨by rw [HR.out]; rfl, Ext.refl _⟩
end Go.Proofs.YtamodjlifpjaoaaDoor

namespace Go.Proofs.YtamodjlifpjaoaaDoor
open Go.RowKit
set_option linter.unusedVariables false
set_option linter.unusedSimpArgs false
attribute [local go_sem] Oper.quietV quietV Oper.gives givesV ext_refl_iff ext_alloc_iff ext_drew_iff ext_drewN_iff
theorem cell_same {w w' : World} {b o : Nat} (h : w'.heap[b]? = w.heap[b]?) : w'.cell? ⟨b, o, none⟩ = w.cell? ⟨b, o, none⟩ := by simp [World.cell?, h]
theorem Cells.far {w w' : World} {A : Option Addr} {xs : List Value} {b0 : Nat} (h : Cells w A xs) (g : w.grownBy w' (some b0)) (hne : ∀ b o, A = some ⟨b, o, none⟩ → b ≠ b0) : Cells w' A xs := fun hl => by
  obtain ⟨b, o, rfl, hb, hc⟩ := h hl
  refine ⟨b, o, rfl, Nat.lt_of_lt_of_le hb g.size, fun j u hj => ?_⟩
  rw [cell_same (g.block b hb (by simp; exact hne b o rfl))]
  exact hc j u hj
theorem arc_info : (Tryd.prog.info? 67).map (fun i => (i.zero, i.size, i.bytes)) = some (some (.agg #[.int .u8 0, .int .i64 0, .int .i64 0]), 3, 24) := by kernel_rfl
theorem arcs_info : (Tryd.prog.info? 68).map (fun i => (i.zero, i.size, i.bytes)) = some (some (.slice none 0 0), 1, 24) := by kernel_rfl
theorem new_cell3 (W : World) (x y z : Value) (t : TypeId) (n : Nat) (hn : W.heap.size = n) : ∀ (j : Nat) (u : Value), [x, y, z][j]? = some u → (W.alloc (.cells #[x, y, z] t)).cell? ((⟨n, 0, none⟩ : Addr).add j) = some u := fun j u hj => by
  subst hn
  exact cells_new W #[x, y, z] t j u hj
/-- What coin hands back. -/
def CoinP (w : World) (m : List Arc) (e : Ending) (w' : World) : Prop := ∃ g vs, e = .returned (.agg #[.int .i64 1, .int .i64 2, .slice (some ⟨g, 0, none⟩) 2 2]) ∧ Cells w' (some ⟨g, 0, none⟩) vs ∧ vs.length = 2 ∧ (∀ (i : Nat) (u : Value) (es : List Arc), vs[i]? = some u → (coinL m).rows[i]? = some es → ArcsC w' u es) ∧ Ext w w' ∧ ∀ u ∈ vs, ∃ b n c, u = .slice (some ⟨b, 0, none⟩) n c ∧ w.heap.size ≤ b
set_option maxRecDepth 100000 in
set_option maxHeartbeats 4000000 in
theorem coin_any (w : World) (A : Option Addr) (m : List Arc) (hm : m.length ≤ 100) (hc : Cells w A (m.flatMap arcCells)) (hA : A = none → m.length = 0) : Calls Tryd.prog 48 #[.slice A m.length m.length] w (CoinP w m) := by
  obtain ⟨i67, hi67, hz67, hs67, hb67⟩ := info_parts arc_info
  have HA := Lib.hid hA
  clear hA
  go_enter Tryd.func48, Tryd.ntmps48
  go_upto_region 1 with fail
  refine wp_named ?_
  intro W1 hW1
  have hE1 : Ext w W1 := by rw [hW1]; exact (Ext.refl _).alloc _
  have hb : W1.heap[w.heap.size]? = some (.cells #[.int .i64 0, .int .i64 0, .slice none 0 0] 28 (0, 0)) := by rw [hW1]; exact heap_alloc_new w _
  have hsz : W1.heap.size = w.heap.size + 1 := by rw [hW1]; simp
  clear hW1
  have HS := Lib.hid hsz
  have e2 : Ext W1 ((W1.alloc (.cells #[.int .u8 1, .int .i64 0, .int .i64 1] 67)).alloc (.cells #[.int .u8 2, .int .i64 0, .int .i64 0] 67)) := ((Ext.refl _).alloc _).alloc _
  have hc2 := (hc.ext hE1).ext e2
  clear hsz
  go_wp2_with (first
    | (at_builtin; refine wpList_append_full rfl _ _ 68 rfl 67 i67 (.agg #[.int .u8 0, .int .i64 0, .int .i64 0]) 3 24 Tryd.underlying68 hi67 hz67 hs67 hb67 (by decide) A m.length (m.flatMap arcCells) rfl (arcs_len m) hc2 HA.out ⟨W1.heap.size + 1, 0, none⟩ 1 1 [.int .u8 2, .int .i64 0, .int .i64 0] rfl rfl (new_cell3 _ _ _ _ _ _ (by simp)) (by decide) (by unfold maxLen; omega) (by omega) ?_; intro c8 w8 e8 h8 hc8)
    | (with_reducible refine wpList_store_blk _ rfl 28 _ _ rfl w.heap.size 28 _ _ rfl rfl (heap_ext ((e2.trans e8).trans (alloc_ext _ _)) hb) (by kernel_rfl) (by kernel_rfl) (by kernel_rfl) ?_; intro w9 h9 g9))
  have hsz := HS.out
  have q2 := e2.size
  have q8 := e8.size
  simp only [World.size_alloc] at q8
  refine bodyPost_ret (results_cell_row rfl _ _ w.heap.size 28 _ (0, 0) _ (by simp [Act.put]) h9 Tryd.underlying28 rfl (by kernel_rfl)) rfl ?_
  have hR := (cells_blk (heap_alloc_new w8 (.cells #[.slice (some ⟨W1.heap.size, 0, none⟩) 1 1, .slice (some ⟨W1.heap.size + 1 + 1, 0, none⟩) (m.length + 1) c8] 68))).far g9 (fun b o h => by cases h; omega)
  have e89 := alloc_ext w8 (.cells #[.slice (some ⟨W1.heap.size, 0, none⟩) 1 1, .slice (some ⟨W1.heap.size + 1 + 1, 0, none⟩) (m.length + 1) c8] 68)
  have h1 := (((cells_blk (heap_alloc_new W1 (.cells #[.int .u8 1, .int .i64 0, .int .i64 1] 67))).ext (alloc_ext _ (.cells #[.int .u8 2, .int .i64 0, .int .i64 0] 67))).ext (e8.trans e89)).far g9 (fun b o h => by cases h; omega)
  have h2 := (h8.ext e89).far g9 (fun b o h => by cases h; simp; omega)
  have eW : Ext w w9 := Below.grown (hE1.trans (e2.trans (e8.trans e89))) g9 (hE1.trans (e2.trans (e8.trans e89))).size (fun k hk => by cases hk; exact Nat.le_refl _)
  refine ⟨w8.heap.size, _, rfl, hR, rfl, fun i u es hu hes => ?_, eW, fun u hu => ?_⟩
  rotate_left
  · simp at hu
    rcases hu with rfl | rfl
    · exact ⟨_, _, _, rfl, by omega⟩
    · exact ⟨_, _, _, rfl, by omega⟩
  match i, hu, hes with
  | 0, hu, hes =>
    cases hu; cases hes
    exact ⟨_, 1, rfl, h1, Nat.le_refl _, by unfold lenMax; simp⟩
  | 1, hu, hes =>
    cases hu; cases hes
    refine ⟨some ⟨W1.heap.size + 1 + 1, 0, none⟩, c8, by simp, ?_, by simpa using hc8, by unfold lenMax; simp; omega⟩
    rw [List.flatMap_append]
    have hh : ((W1.alloc (.cells #[.int .u8 1, .int .i64 0, .int .i64 1] 67)).alloc (.cells #[.int .u8 2, .int .i64 0, .int .i64 0] 67)).heap.size = W1.heap.size + 1 + 1 := by simp
    rw [hh] at h2
    exact h2
  | i + 2, hu, hes => simp at hu
/-- A full slice of rows, and one row more. -/
theorem arows_of {w : World} {A : Option Addr} {n c : Nat} {vs : List Value} {rows : List (List Arc)} (hc : Cells w A vs) (hn : rows.length = n) (hl : vs.length = rows.length) (h : ∀ (i : Nat) (u : Value) (es : List Arc), vs[i]? = some u → rows[i]? = some es → ArcsC w u es) (h1 : n ≤ c) (h2 : n ≤ 100000) : ARowsC w (.slice A n c) rows := by
  subst hn
  exact ⟨A, c, vs, rfl, hc, hl, h, h1, by unfold lenMax; omega⟩
set_option maxRecDepth 100000 in
set_option maxHeartbeats 8000000 in
theorem k_any (w : World) : Calls Tryd.prog 49 #[] w fun e w' => ∃ A c, e = .returned (.agg #[.int .i64 1, .int .i64 2, .slice A 3 c]) ∧ LtsV w' (.agg #[.int .i64 1, .int .i64 2, .slice A 3 c]) sK ∧ Ext w w' := by
  obtain ⟨i68, hi68, hz68, hs68, hb68⟩ := info_parts arcs_info
  go_enter Tryd.func49, Tryd.ntmps49
  go_upto_region 1 with fail
  refine wp_named ?_
  intro W1 hW1
  have hE1 : Ext w W1 := by rw [hW1]; exact (Ext.refl _).alloc _
  have hb : W1.heap[w.heap.size]? = some (.cells #[.int .i64 0, .int .i64 0, .slice none 0 0] 28 (0, 0)) := by rw [hW1]; exact heap_alloc_new w _
  have hsz : W1.heap.size = w.heap.size + 1 := by rw [hW1]; simp
  clear hW1
  have HS := Lib.hid hsz
  have hco : Calls Tryd.prog 48 #[.slice (some ⟨W1.heap.size, 0, none⟩) 2 2] _ (CoinP _ _) := coin_any (W1.alloc (.cells #[.int .u8 0, .int .i64 0, .int .i64 2, .int .u8 1, .int .i64 0, .int .i64 1] 67)) (some ⟨W1.heap.size, 0, none⟩) [⟨0, 0, 2⟩, ⟨1, 0, 1⟩] (by decide) (cells_blk (heap_alloc_new W1 _)) (fun h => by cases h)
  clear hsz
  go_upto_region 2 with (first
    | ((with_reducible refine hco.mono ?_); rintro e w3 ⟨g3, vs3, rfl, hc3, hl3, hr3, e3, hfar⟩)
    | (with_reducible refine wpList_store_blk _ rfl 28 _ _ rfl w3.heap.size 28 _ _ rfl rfl (heap_alloc_new _ _) (by kernel_rfl) (by kernel_rfl) (by kernel_rfl) ?_; intro w4 h4 g4))
  have e34 : Ext w3 w4 := Below.grown (alloc_ext w3 _) g4 (alloc_ext w3 _).size (fun k hk => by cases hk; exact Nat.le_refl _)
  have e14 := (alloc_ext W1 (.cells #[.int .u8 0, .int .i64 0, .int .i64 2, .int .u8 1, .int .i64 0, .int .i64 1] 67)).trans (e3.trans e34)
  have hb4 := heap_ext e14 hb
  have q2 := cell_of_blk h4 2 (u := .slice (some ⟨g3, 0, none⟩) 2 2) rfl
  have q0 := cell_of_blk h4 0 (u := .int .i64 1) rfl
  have q1 := cell_of_blk h4 1 (u := .int .i64 2) rfl
  have f2 := free_of_blk h4 2
  have hlt3 := fun i u es hu hes => (hr3 i u es hu hes)
  have hsz := e14.size
  have h3s : W1.heap.size < w3.heap.size := by have := e3.size; simp at this; omega
  have h4s : w3.heap.size < w4.heap.size := lt_of_block h4
  have HC := Lib.hid (And.intro (hc3.ext e34) (And.intro hl3 (And.intro hr3 (And.intro e34 (And.intro e14 (And.intro hb4 hfar))))))
  clear hb4 e14 g4 hc3 hl3 hr3 hco e3 hb hlt3 hfar e34
  have hne : w.heap.size ≠ w3.heap.size := by have := HS.out; omega
  have e45 : Ext w4 ((w4.alloc (.cells #[.int .u8 1, .int .i64 0, .int .i64 2] 67)).alloc (.cells #[.slice (some ⟨w4.heap.size, 0, none⟩) 1 1] 68)) := ((Ext.refl _).alloc _).alloc _
  have hvs := (HC.out.1).ext e45
  have hvl := HC.out.2.1
  obtain ⟨b1, hb1⟩ : ∃ b, b = w3.heap.size := ⟨_, rfl⟩
  rw [← hb1] at h4 q0 q1 q2 f2 h3s h4s hne
  have HB1 := Lib.hid hb1
  simp only [← hb1]
  clear hb1
  go_upto_region 3 with (first
    | (at_builtin; refine wpList_append_full rfl _ _ 26 rfl 68 i68 (.slice none 0 0) 1 24 Tryd.underlying26 hi68 hz68 hs68 hb68 (by decide) (some ⟨g3, 0, none⟩) 2 vs3 rfl (by omega) hvs (fun h => by cases h) ⟨w4.heap.size + 1, 0, none⟩ 1 1 [.slice (some ⟨w4.heap.size, 0, none⟩) 1 1] rfl rfl (new_cell _ _ _ _ (by simp)) (by decide) (by decide) (by decide) ?_; intro c8 w8 e8 h8 hc8; have f28 := (e45.trans e8).cell q2; have z8 := free_of_blk (heap_ext (e45.trans e8) h4) 2))
  have hsz8 : ((w4.alloc (.cells #[.int .u8 1, .int .i64 0, .int .i64 2] 67)).alloc (.cells #[.slice (some ⟨w4.heap.size, 0, none⟩) 1 1] 68)).heap.size = w4.heap.size + 1 + 1 := by simp
  rw [hsz8] at h8
  have e48 := e45.trans e8
  have h48 := heap_ext e48 h4
  have hb8 := heap_ext e48 HC.out.2.2.2.2.2.1
  have q8 := e8.size
  rw [hsz8] at q8
  have hA2 := (((cells_blk (heap_alloc_new w4 (.cells #[.int .u8 1, .int .i64 0, .int .i64 2] 67))).ext (alloc_ext _ (.cells #[.slice (some ⟨w4.heap.size, 0, none⟩) 1 1] 68))).ext e8)
  have HD := Lib.hid (And.intro h8 (And.intro hA2 e48))
  clear e8 h8 hA2 e45 hvs f28 z8 h4 e48 f2 q0 q1 q2 hsz8
  obtain ⟨v9, hv9⟩ : ∃ v, v = Value.slice (some ⟨w4.heap.size + 1 + 1, 0, none⟩) 3 c8 := ⟨_, rfl⟩
  rw [← hv9]
  have gS : w8.grownBy (w8.setCell ⟨b1, 2, none⟩ v9) (some b1) := ⟨rfl, rfl, rfl, by simp, fun c _ hc => heap_setCell_other w8 ⟨b1, 2, none⟩ c _ (fun e => hc (by simp [e]))⟩
  have hbn : (w8.setCell ⟨b1, 2, none⟩ v9).heap[w.heap.size]? = some (.cells #[.int .i64 0, .int .i64 0, .slice none 0 0] 28 (0, 0)) := (heap_setCell_other w8 ⟨b1, 2, none⟩ w.heap.size _ hne).trans hb8
  have h1n : (w8.setCell ⟨b1, 2, none⟩ v9).heap[b1]? = some (.cells #[.int .i64 1, .int .i64 2, v9] 28 (0, 0)) := heap_setCell_same w8 b1 2 _ 28 _ h48
  refine wp_named ?_
  intro w9 hw9
  rw [← hw9] at gS hbn h1n
  clear hw9 hb8 h48
  have d0 := cell_of_blk h1n 0 (u := .int .i64 1) rfl
  have d1 := cell_of_blk h1n 1 (u := .int .i64 2) rfl
  have d2 := cell_of_blk h1n 2 (u := v9) rfl
  subst hv9
  go_wp2_with (with_reducible refine wpList_store_blk _ rfl 28 _ _ rfl w.heap.size 28 _ _ rfl rfl hbn (by kernel_rfl) (by kernel_rfl) (by kernel_rfl) ?_; intro w10 h10 g10)
  refine bodyPost_ret (results_cell_row rfl _ _ w.heap.size 28 _ (0, 0) _ (by simp [Act.put]) h10 Tryd.underlying28 rfl (by kernel_rfl)) rfl ?_
  have hsz := HS.out
  have eW8 : Ext w w8 := hE1.trans (HC.out.2.2.2.2.1.trans HD.out.2.2)
  have eW9 : Ext w w9 := Below.grown eW8 gS eW8.size (fun k hk => by cases hk; omega)
  have eW : Ext w w10 := Below.grown eW9 g10 eW9.size (fun k hk => by cases hk; exact Nat.le_refl _)
  have hR := (HD.out.1.far gS (fun b o h => by cases h; omega)).far g10 (fun b o h => by cases h; omega)
  have hA := (HD.out.2.1.far gS (fun b o h => by cases h; omega)).far g10 (fun b o h => by cases h; omega)
  refine ⟨some ⟨w4.heap.size + 1 + 1, 0, none⟩, c8, rfl, ⟨_, rfl, arows_of hR rfl (by rw [List.length_append, hvl]; rfl) (fun i u es hu hes => ?_) hc8 (by decide)⟩, eW⟩
  rcases Nat.lt_or_ge i vs3.length with hi | hi
  · rw [List.getElem?_append_left hi] at hu
    obtain ⟨b, n, c, rfl, hge⟩ := HC.out.2.2.2.2.2.2 u (List.mem_of_getElem? hu)
    simp only [World.size_alloc] at hge
    have hes' : (coinL [⟨0, 0, 2⟩, ⟨1, 0, 1⟩]).rows[i]? = some es := by
      have h2 : i = 0 ∨ i = 1 := by omega
      rcases h2 with rfl | rfl <;> exact hes
    obtain ⟨A, c', hv, hcc, hr⟩ := HC.out.2.2.1 i _ es hu hes'
    refine ⟨A, c', hv, ?_, hr⟩
    cases hv
    intro hl
    have hlt := hcc hl
    obtain ⟨b', o', hbb, hbl, _⟩ := id hlt
    cases hbb
    have := HB1.out
    exact (((hcc.ext (HC.out.2.2.2.1.trans HD.out.2.2)).far gS (fun b o h => by cases h; omega)).far g10 (fun b o h => by cases h; omega)) hl
  · rw [List.getElem?_append_right hi] at hu
    have hi2 : i = 2 := by have := (List.getElem?_eq_some_iff.1 hu).1; simp at this; omega
    subst hi2
    rw [hvl] at hu
    cases hu; cases hes
    exact ⟨_, 1, rfl, hA, Nat.le_refl _, by unfold lenMax; simp⟩
end Go.Proofs.YtamodjlifpjaoaaDoor

namespace Go.Proofs.YtamodjlifpjaoaaDoor
open Go.RowKit
set_option linter.unusedVariables false
set_option linter.unusedSimpArgs false
attribute [local go_sem] Oper.quietV quietV Oper.gives givesV ext_refl_iff ext_alloc_iff ext_drew_iff ext_drewN_iff
/-- What the rows show. -/
def RowsKnow (vs : List Value) (rows : List (List Arc)) (W : World) : Prop := ∀ (j : Nat) (u : Value) (r : List Arc), vs[j]? = some u → rows[j]? = some r → ArcsC W u r
def OfL (b3 b5 : Nat) (i o : Int) (rv : Value) (F : Nat → Prop) (vs : List Value) (rows : List (List Arc)) : List Asn :=
  [.blk b5 (.cells #[.int .i64 1, .int .i64 i, .int .i64 o] 69), .blk b3 (.cells #[.int .i64 i, .int .i64 o, rv] 28), .row 68 1 rv rows.length vs, .any F (RowsKnow vs rows)]
def OfSt (W0 W : World) (b3 b5 : Nat) (i o N : Int) (f : Bool) (rows : List (List Arc)) : Prop := (∀ r ∈ rows, r.length ≤ 256 ∧ RowS i o N f r 3 0 0) ∧ ∃ rv F vs, vs.length = rows.length ∧ OwnL W0 W (OfL b3 b5 i o rv F vs rows)
/-- With a row under way. -/
def OfRow (W0 W : World) (b3 b5 : Nat) (i o N : Int) (f : Bool) (rows : List (List Arc)) (v : Value) (row : List Arc) : Prop := (∀ r ∈ rows, r.length ≤ 256 ∧ RowS i o N f r 3 0 0) ∧ ∃ rv F vs, vs.length = rows.length ∧ OwnL W0 W (.row 67 3 v row.length (row.flatMap arcCells) :: OfL b3 b5 i o rv F vs rows)
theorem OfRow.trans {W0 W W' : World} {b3 b5 : Nat} {i o N : Int} {f : Bool} {rows : List (List Arc)} {v : Value} {row : List Arc} (h : OfRow W0 W b3 b5 i o N f rows v row) (e : Ext W W') : OfRow W0 W' b3 b5 i o N f rows v row := by
  obtain ⟨h1, rv, F, vs, h2, h3⟩ := h
  exact ⟨h1, rv, F, vs, h2, h3.trans e⟩
theorem OfRow.ext {W0 W : World} {b3 b5 : Nat} {i o N : Int} {f : Bool} {rows : List (List Arc)} {v : Value} {row : List Arc} (h : OfRow W0 W b3 b5 i o N f rows v row) : Ext W0 W := by
  obtain ⟨h1, rv, F, vs, h2, h3⟩ := h
  exact h3.ext
theorem OfRow.row {W0 W : World} {b3 b5 : Nat} {i o N : Int} {f : Bool} {rows : List (List Arc)} {v : Value} {row : List Arc} (h : OfRow W0 W b3 b5 i o N f rows v row) : W.ownsRow W0.heap.size 67 3 v row.length (row.flatMap arcCells) := by
  obtain ⟨h1, rv, F, vs, h2, h3⟩ := h
  exact h3.get 0 rfl
theorem OfRow.labs {W0 W : World} {b3 b5 : Nat} {i o N : Int} {f : Bool} {rows : List (List Arc)} {v : Value} {row : List Arc} (h : OfRow W0 W b3 b5 i o N f rows v row) : W.heap[b5]? = some (.cells #[.int .i64 1, .int .i64 i, .int .i64 o] 69 (0, 0)) := by
  obtain ⟨h1, rv, F, vs, h2, h3⟩ := h
  exact (h3.get 1 rfl).2
theorem OfRow.app {W0 W W' : World} {b3 b5 : Nat} {i o N : Int} {f : Bool} {rows : List (List Arc)} {v v' : Value} {row : List Arc} {a : Arc} {n' : Nat} (h : OfRow W0 W b3 b5 i o N f rows v row) (hg : W.grownBy W' v.ownBlock) (ho : W'.ownsRow W0.heap.size 67 3 v' n' (row.flatMap arcCells ++ arcCells a)) (hn : n' = row.length + 1)
    (hb : ∀ b, v'.ownBlock = some b → v.ownBlock = some b ∨ W.heap.size ≤ b) : OfRow W0 W' b3 b5 i o N f rows v' (row ++ [a]) := by
  obtain ⟨h1, rv, F, vs, h2, h3⟩ := h
  subst hn
  refine ⟨h1, rv, F, vs, h2, ?_⟩
  have := h3.app 0 rfl hg ho hb
  rw [List.flatMap_append, List.length_append]
  simpa using this
theorem OfSt.begin {W0 W : World} {b3 b5 : Nat} {i o N : Int} {f : Bool} {rows : List (List Arc)} (h : OfSt W0 W b3 b5 i o N f rows) : OfRow W0 W b3 b5 i o N f rows (.slice none 0 0) [] := by
  obtain ⟨h1, rv, F, vs, h2, h3⟩ := h
  exact ⟨h1, rv, F, vs, h2, h3.add (Ext.refl W) (A := .row 67 3 (.slice none 0 0) 0 []) (World.ownsRow_nil W _ 67 3)⟩
/-- The row is put behind the others. -/
theorem OfRow.close {W0 W W' : World} {b3 b5 : Nat} {i o N : Int} {f : Bool} {rows : List (List Arc)} {v rv rv' : Value} {row : List Arc} {F : Nat → Prop} {vs : List Value} (h1 : ∀ r ∈ rows, r.length ≤ 256 ∧ RowS i o N f r 3 0 0) (h2 : vs.length = rows.length) (h3 : OwnL W0 W (.row 67 3 v row.length (row.flatMap arcCells) :: OfL b3 b5 i o rv F vs rows))
    (hr : row.length ≤ 256 ∧ RowS i o N f row 3 0 0) {n' : Nat} (hg : W.grownBy W' rv.ownBlock) (ho : W'.ownsRow W0.heap.size 68 1 rv' n' (vs ++ [v])) (hn : n' = rows.length + 1) (hb : ∀ b, rv'.ownBlock = some b → rv.ownBlock = some b ∨ W.heap.size ≤ b) :
    OfSt W0 (W'.setCell ⟨b3, 2, none⟩ rv') b3 b5 i o N f (rows ++ [row]) := by
  subst hn
  have h4 := (h3.app 3 rfl hg ho hb).put 2 rfl 2 rv'
  have h5 : OwnL W0 (W'.setCell ⟨b3, 2, none⟩ rv') (.row 67 3 v row.length (row.flatMap arcCells) :: .blk b5 (.cells #[.int .i64 1, .int .i64 i, .int .i64 o] 69) :: .blk b3 (.cells #[.int .i64 i, .int .i64 o, rv'] 28) :: .row 68 1 rv' (rows.length + 1) (vs ++ [v]) :: .any F (RowsKnow vs rows) :: []) := h4
  have h7 : OwnL W0 (W'.setCell ⟨b3, 2, none⟩ rv') _ := ((h5.seal (Φ := fun W => ArcsC W v row) (fun W' h => by
    obtain ⟨A, c, rfl, hn, hc⟩ := cells_of_owns h
    exact ⟨A, c, rfl, hc, hn, by unfold lenMax; omega⟩)).perm (.cons _ (List.perm_middle (l₁ := [_, _, _]) (l₂ := [])))).merge
  have h8 := h7.weaken (Φ' := RowsKnow (vs ++ [v]) (rows ++ [row])) (fun W h j u r hu hr => by
    rcases Nat.lt_or_ge j vs.length with hj | hj
    · rw [List.getElem?_append_left hj] at hu
      rw [List.getElem?_append_left (by omega)] at hr
      exact h.2 j u r hu hr
    · have hj2 : j = vs.length := by have := (List.getElem?_eq_some_iff.1 hu).1; simp at this; omega
      subst hj2
      rw [List.getElem?_append_right (Nat.le_refl _), Nat.sub_self] at hu
      rw [h2, List.getElem?_append_right (Nat.le_refl _), Nat.sub_self] at hr
      cases hu; cases hr
      exact h.1)
  refine ⟨fun r hr' => ?_, rv', fun b => v.ownBlock = some b ∨ F b, vs ++ [v], by simp [h2], ?_⟩
  · rcases List.mem_append.1 hr' with h | h
    · exact h1 r h
    · rw [List.mem_singleton.1 h]; exact hr
  · have h9 := h8.perm (List.perm_append_singleton _ [_, _, _]).symm
    unfold OfL
    rw [List.length_append]
    exact h9
theorem three_cells (a b c : Int) : ∀ u ∈ [Value.int .u8 a, .int .i64 b, .int .i64 c], u.oneCell' = true := by intro u hu; simp at hu; rcases hu with rfl | rfl | rfl <;> rfl
theorem mod_i64 (a k : Nat) (hk : 0 < k) (h : a < 256) (hk2 : k < 256) : IntKind.i64.wrap ((a : Int).tmod (k : Int)) = ((a % k : Nat) : Int) := by
  have h1 : ((a : Int).tmod (k : Int)) = ((a % k : Nat) : Int) := by rw [Int.tmod_eq_emod_of_nonneg (by omega)]; push_cast; rfl
  rw [h1, IntKind.wrap_i64]
  have := Nat.mod_lt a hk
  omega
set_option maxRecDepth 100000 in
set_option maxHeartbeats 16000000 in
theorem bOf_any (w : World) (v : Value) (r : BNum) (hv : BV w v r) : Calls Tryd.prog 11 #[v] w fun e w' => ∃ x A c, e = .returned (.agg #[.int .i64 x.ins, .int .i64 x.outs, .slice A x.rows.length c]) ∧ LtsV w' (.agg #[.int .i64 x.ins, .int .i64 x.outs, .slice A x.rows.length c]) x ∧ BLike x (r.i % 3) (r.o % 3) r.f ∧ Ext w w' := by
  obtain ⟨i67, hi67, hz67, hs67, hb67⟩ := info_parts arc_info
  obtain ⟨i68, hi68, hz68, hs68, hb68⟩ := info_parts arcs_info
  obtain ⟨A, c, rfl, hA, h1, h2, h3, _, hnm⟩ := id hv
  go_enter Tryd.func11, Tryd.ntmps11
  go_upto_region 1 with fail
  refine wp_named ?_
  intro W1 hW1
  have hE1 : Ext w W1 := by rw [hW1]; exact ((Ext.refl _).alloc _).alloc _
  have k0 : ∀ w', Ext W1 w' → w'.cell? ⟨w.heap.size, 0, none⟩ = some (.int .u8 r.i) := fun w' h => h.cell (by rw [hW1]; simp [go_sem])
  have k1 : ∀ w', Ext W1 w' → w'.cell? ⟨w.heap.size, 1, none⟩ = some (.int .u8 r.o) := fun w' h => h.cell (by rw [hW1]; simp [go_sem])
  have k2 : ∀ w', Ext W1 w' → w'.cell? ⟨w.heap.size, 2, none⟩ = some (.int .u8 r.m) := fun w' h => h.cell (by rw [hW1]; simp [go_sem])
  have k3 : ∀ w', Ext W1 w' → w'.cell? ⟨w.heap.size, 3, none⟩ = some (.slice A r.n c) := fun w' h => h.cell (by rw [hW1]; simp [go_sem])
  have k4 : ∀ w', Ext W1 w' → w'.cell? ⟨w.heap.size, 4, none⟩ = some (.bool r.f) := fun w' h => h.cell (by rw [hW1]; simp [go_sem])
  have kb : ∀ w', Ext W1 w' → w'.heap[w.heap.size + 1]? = some (.cells #[.int .i64 0, .int .i64 0, .slice none 0 0] 28 (0, 0)) := fun w' h => heap_ext h (by rw [hW1]; have := heap_alloc_new (w.alloc (.cells #[.int .u8 r.i, .int .u8 r.o, .int .u8 r.m, .slice A r.n c, .bool r.f] 24)) (.cells #[.int .i64 0, .int .i64 0, .slice none 0 0] 28); simpa using this)
  clear hW1
  have HV := Lib.hid (And.intro hE1 (And.intro (hv.ext hE1) (lt_of_block (kb W1 (Ext.refl _)))))
  have hE0 := Ext.refl W1
  clear hv hA hE1
  generalize hb2 : w.heap.size + 1 = b2 at *
  generalize hb1 : w.heap.size = b1 at *
  have HB := Lib.hid (And.intro hb1 hb2)
  clear hb1 hb2
  obtain ⟨i, hi⟩ : ∃ i : Nat, i = r.i % 3 := ⟨_, rfl⟩
  obtain ⟨o, ho⟩ : ∃ o : Nat, o = r.o % 3 := ⟨_, rfl⟩
  obtain ⟨N, hN⟩ : ∃ N : Nat, N = 1 + r.m % 5 := ⟨_, rfl⟩
  have ei : (r.i : Int) % 3 = (i : Int) := by omega
  have eo : (r.o : Int) % 3 = (o : Int) := by omega
  have em : (1 : Int) + (r.m : Int) % 5 = (N : Int) := by omega
  have HN := Lib.hid (And.intro hi (And.intro ho (And.intro (show i ≤ 2 by omega) (And.intro (show o ≤ 2 by omega) (show 1 ≤ N ∧ N ≤ 5 by omega)))))
  clear hi ho hN
  go_upto_region 2 with (with_reducible refine wpList_store_blk _ rfl 28 _ _ rfl W1.heap.size 28 _ _ rfl rfl (heap_alloc_new _ _) (by kernel_rfl) (by kernel_rfl) (by kernel_rfl) ?_; intro W2 h2' g2)
  try simp only [ei, eo] at h2'
  have e2 : Ext W1 W2 := Below.grown (alloc_ext W1 _) g2 (alloc_ext W1 _).size (fun k hk => by cases hk; exact Nat.le_refl _)
  have hO2 : OwnL W1 W2 [.blk W1.heap.size (.cells #[.int .i64 (i : Int), .int .i64 (o : Int), .slice none 0 0] 28)] := ⟨e2, fun A hA => by rw [List.mem_singleton.1 hA]; exact ⟨Nat.le_refl _, h2'⟩, List.pairwise_singleton _ _⟩
  clear g2 h2'
  generalize hb3 : W1.heap.size = b3 at *
  have HB3 := Lib.hid hb3
  clear hb3
  have q0 := cell_of_blk (hO2.get 0 rfl).2 0 (u := .int .i64 (i : Int)) rfl
  have q1 := cell_of_blk (hO2.get 0 rfl).2 1 (u := .int .i64 (o : Int)) rfl
  have HO2 := Lib.hid hO2
  clear hO2
  go_upto_region 4 with (with_reducible refine wpList_store_blk _ rfl 69 _ _ rfl W2.heap.size 69 _ _ rfl rfl (heap_alloc_new _ _) (by kernel_rfl) (by kernel_rfl) (by kernel_rfl) ?_; intro W3 h3' g3)
  have e3 : Ext W2 W3 := Below.grown (alloc_ext W2 _) g3 (alloc_ext W2 _).size (fun k hk => by cases hk; exact Nat.le_refl _)
  have hO3 : OwnL W1 W3 [.blk W2.heap.size (.cells #[.int .i64 1, .int .i64 (i : Int), .int .i64 (o : Int)] 69), .blk b3 (.cells #[.int .i64 (i : Int), .int .i64 (o : Int), .slice none 0 0] 28)] := HO2.out.add e3 (A := .blk W2.heap.size (.cells #[.int .i64 1, .int .i64 (i : Int), .int .i64 (o : Int)] 69)) ⟨Nat.le_refl _, h3'⟩
  have hS3 : OfSt W1 W3 b3 W2.heap.size i o N r.f [] := ⟨fun r hr => (by cases hr), .slice none 0 0, fun _ => False, [], rfl, (((hO3.add (Ext.refl _) (A := .any (fun _ => False) (RowsKnow [] [])) ⟨fun b hb => hb.elim, fun w' _ j u r hu => by simp at hu⟩).add (Ext.refl _) (A := .row 68 1 (.slice none 0 0) 0 []) (World.ownsRow_nil W3 _ 68 1)).perm (List.perm_append_comm (l₁ := [_, _]) (l₂ := [_, _])))⟩
  have HS3 := Lib.hid hS3
  have HK := Lib.hid (And.intro k0 (And.intro k1 (And.intro k2 (And.intro k3 k4))))
  clear h3' g3 hO3 hS3 e2 e3 q0 q1 ei eo em k0 k1 k2 k3 k4 hE0
  generalize W2.heap.size = b5 at *
  go_wp2
  go_loopw [6] (fun sv wr => ∃ (s : Nat) (rows : List (List Arc)), sv = .int .i64 s ∧ s ≤ N ∧ Hid (rows.length = s ∧ OfSt W1 wr b3 b5 i o N r.f rows)) (fun sv _ => N - (intOf sv).toNat)
  case atStart => exact ⟨0, [], rfl, by omega, Lib.hid ⟨rfl, HS3.out⟩⟩
  case round =>
    clear HS3
    obtain ⟨s, rows, rfl, hs, HR⟩ := hrel
    obtain ⟨W5, hW5⟩ : ∃ W, W = wr := ⟨_, rfl⟩; subst hW5
    by_cases hsl : s < N
    · have hR0 := OfSt.begin HR.out.2
      have HR0 := Lib.hid hR0
      clear hR0
      go_wp2
      go_loopw [8, 7] (fun kv rv wr => ∃ (k : Nat) (row : List Arc), kv = .int .i64 k ∧ k ≤ 3 ∧ Hid (row.length ≤ 40 * k ∧ RowS i o N r.f row k 0 0 ∧ OfRow W1 wr b3 b5 i o N r.f rows rv row)) (fun kv _ _ => 3 - (intOf kv).toNat)
      case atStart => exact ⟨0, [], rfl, by omega, Lib.hid ⟨by simp, RowS.start _ _ _ _, HR0.out⟩⟩
      case round =>
        clear HR0
        obtain ⟨k, row, rfl, hk, HR0⟩ := hrel
        obtain ⟨W6, hW6⟩ : ∃ W, W = wr := ⟨_, rfl⟩; subst hW6
        by_cases hkl : k < 3
        · have hkI : (k : Int) < 3 := by omega
          obtain ⟨lab, hlab, hl2⟩ : ∃ lab : Nat, (lab : Int) = labN i o k ∧ lab ≤ 2 := by
            have := HN.out
            unfold labN
            split
            · exact ⟨i, rfl, by omega⟩
            · split
              · exact ⟨o, rfl, by omega⟩
              · exact ⟨1, rfl, by omega⟩
          have HL := Lib.hid hlab
          clear hlab
          go_wp2
          go_loopw [9, 7] (fun lv rv wr => ∃ (l : Nat) (row : List Arc), lv = .int .i64 l ∧ l ≤ lab ∧ Hid (row.length ≤ 40 * k + 10 * l ∧ RowS i o N r.f row k l 0 ∧ OfRow W1 wr b3 b5 i o N r.f rows rv row)) (fun lv _ _ => lab - (intOf lv).toNat)
          case atStart => exact ⟨0, row, rfl, by omega, Lib.hid ⟨by simpa using HR0.out.1, HR0.out.2.1, HR0.out.2.2⟩⟩
          case round =>
            clear HR0
            obtain ⟨l, row0, rfl, hl, HR0⟩ := hrel
            obtain ⟨W7, hW7⟩ : ∃ W, W = wr := ⟨_, rfl⟩; subst hW7
            have hcl : W7.cell? ⟨b5, k, none⟩ = some (.int .i64 (lab : Int)) := by
              have hb := HR0.out.2.2.labs
              rw [HL.out]
              have hk3 : k = 0 ∨ k = 1 ∨ k = 2 := by omega
              rcases hk3 with rfl | rfl | rfl <;> exact cell_of_blk hb _ rfl
            by_cases hll : l < lab
            · obtain ⟨A7, c7, hv7, _, _⟩ := cells_of_owns HR0.out.2.2.row
              subst hv7
              have hlen0 : row0.length ≤ 200 := by have := HR0.out.1; omega
              go_upto_region 16 with fail
              clear hcl
              go_loopw [11, 7] (fun tv rv wr => ∃ (t : Nat) (row : List Arc), tv = .int .i64 t ∧ t ≤ N ∧ Hid (row0 <+: row ∧ (∀ a ∈ row.drop row0.length, a.k = k ∧ a.l = l) ∧ row.length ≤ row0.length + t ∧ RowS i o N r.f row k l t ∧ OfRow W1 wr b3 b5 i o N r.f rows rv row)) (fun tv _ _ => N - (intOf tv).toNat)
              case atStart => exact ⟨0, row0, rfl, by omega, Lib.hid ⟨List.prefix_refl _, by simp, by omega, HR0.out.2.1, HR0.out.2.2⟩⟩
              case round =>
                obtain ⟨t, row, rfl, ht, HR⟩ := hrel
                obtain ⟨W8, hW8⟩ : ∃ W, W = wr := ⟨_, rfl⟩; subst hW8
                have hN5 := HN.out.2.2.2.2
                have hE8 := HR.out.2.2.2.2.ext
                obtain ⟨A8, c8, hv8, hc8, _⟩ := cells_of_owns HR.out.2.2.2.2.row
                subst hv8
                have hlen8 : row.length ≤ 300 := by have := HR.out.2.2.1; omega
                by_cases htl : t < N
                · have k0 := HK.out.1 W8 hE8
                  have k1 := HK.out.2.1 W8 hE8
                  have k2 := HK.out.2.2.1 W8 hE8
                  have k3 := HK.out.2.2.2.1 W8 hE8
                  have k4 := HK.out.2.2.2.2 W8 hE8
                  have hb := HR.out.2.2.2.2.labs
                  have q0 := cell_of_blk hb 0 (u := .int .i64 1) rfl
                  have q1 := cell_of_blk hb 1 (u := .int .i64 (i : Int)) rfl
                  have q2 := cell_of_blk hb 2 (u := .int .i64 (o : Int)) rfl
                  have hhas := bhas_any W8 _ r s k l t N i o (HV.out.2.1.ext hE8) (by omega) (by omega) (by have := HN.out; omega) (by have := HN.out; omega)
                  have hu8 : IntKind.u8.wrap (k : Int) = (k : Int) := by simp [IntKind.wrap, IntKind.bits, IntKind.signed]; omega
                  have hsz := hE8.size
                  clear hE8 hb hc8
                  go_upto_region 18 with fail
                  go_upto_region 19 with ((with_reducible refine hhas.mono ?_); rintro e W9 ⟨bb, rfl, e9⟩)
                  · skip
                    have hR9 := HR.out.2.2.2.2.trans e9
                    have hrow := hR9.row
                    have hsz9 : W1.heap.size ≤ W9.heap.size := Nat.le_trans hsz e9.size
                    clear k0 k1 k2 k3 k4 q0 q1 q2 hhas
                    go_wp2_with (at_builtin; refine wpList_append_own2 rfl _ _ 68 rfl W1.heap.size 67 i67 (.agg #[.int .u8 0, .int .i64 0, .int .i64 0]) 3 24 Tryd.underlying68 hi67 hz67 hs67 hb67 rfl (by decide) (.slice A8 row.length c8) row.length (row.flatMap arcCells) rfl (World.ownsRow.alloc hrow _) ⟨W9.heap.size, 0, none⟩ 1 1 [.int .u8 (k : Int), .int .i64 (l : Int), .int .i64 (t : Int)] rfl rfl (new_cell3 _ _ _ _ _ _ rfl) (three_cells _ _ _) (by unfold maxLen; omega) (by omega) (by simp; omega) ?_; intro v9 w9 hown9 hg9 hb9)
                    have hR10 := OfRow.app (a := ⟨k, l, t⟩) (hR9.trans (alloc_ext W9 (.cells #[.int .u8 (k : Int), .int .i64 (l : Int), .int .i64 (t : Int)] 67))) hg9 hown9 rfl hb9
                    go_roundw
                    case rel =>
                      refine ⟨t + 1, row ++ [⟨k, l, t⟩], by go_num, htl, Lib.hid ⟨HR.out.1.trans (List.prefix_append _ _), fun a ha => ?_, by simp; have := HR.out.2.2.1; omega, ?_, hR10⟩⟩
                      · rw [List.drop_append_of_le_length HR.out.1.length_le] at ha
                        rcases List.mem_append.1 ha with ha | ha
                        · exact HR.out.2.1 a ha
                        · rw [List.mem_singleton.1 ha]; exact ⟨rfl, rfl⟩
                      · have h := HR.out.2.2.2.1.push (by omega) ⟨by omega, by rw [← HL.out]; omega⟩ ⟨by omega, by omega⟩
                        push_cast
                        exact h
                    case measure => simp [intOf]; omega
                  · skip
                    go_roundw
                    case rel => exact ⟨t + 1, row, by go_num, htl, Lib.hid ⟨HR.out.1, HR.out.2.1, by have := HR.out.2.2.1; omega, HR.out.2.2.2.1.skip _ (by omega), HR.out.2.2.2.2.trans e9⟩⟩
                    case measure => simp [intOf]; omega
                · obtain rfl : t = N := by omega
                  have k4 := HK.out.2.2.2.2 W8 hE8
                  have hsz := hE8.size
                  have hN5' := HN.out.2.2.2.2
                  have hl30 : 40 * k + 10 * l ≤ 200 := by omega
                  clear hc8 hE8
                  by_cases hk1 : k = 1
                  · have g1 : ((k : Int) == 1) = true := by simp [hk1]
                    by_cases hlr : row.length = row0.length
                    · have g2 : ((row.length : Int) == (row0.length : Int)) = true := by simp [hlr]
                      have hrow0 : row0 = row := HR.out.1.eq_of_length hlr.symm
                      by_cases hf : r.f = true
                      rotate_left
                      · have hf' : r.f = false := by simpa using hf
                        rw [hf'] at k4
                        have HF := Lib.hid hf
                        clear hf hf'
                        have HL2 := Lib.hid (HR.out.2.2.2.1.label (fun h => absurd h HF.out))
                        clear hlr hrow0 hk1
                        go_wp2
                        go_roundw
                        case rel => exact ⟨l + 1, row, by go_num, hll, Lib.hid ⟨by have := HR.out.2.2.1; have := HR0.out.1; omega, by push_cast; exact HL2.out, HR.out.2.2.2.2⟩⟩
                        case measure => simp [intOf]; omega
                      · rw [hf] at k4
                        clear hf
                        have hR9 := HR.out.2.2.2.2
                        have hrow := hR9.row
                        have hps := (HR0.out.2.1.skip (s : Int) (by omega)).push (by omega) ⟨by omega, by rw [← HL.out]; omega⟩ ⟨by omega, by omega⟩
                        have HL2 := Lib.hid (hps.label (fun _ _ => ⟨⟨k, l, s⟩, by simp, hk1, rfl⟩))
                        rw [hrow0] at HL2
                        have HK1 := Lib.hid hk1
                        clear hps hlr hrow0 hk1
                        go_wp2_with (at_builtin; refine wpList_append_own2 rfl _ _ 68 rfl W1.heap.size 67 i67 (.agg #[.int .u8 0, .int .i64 0, .int .i64 0]) 3 24 Tryd.underlying68 hi67 hz67 hs67 hb67 rfl (by decide) (.slice A8 row.length c8) row.length (row.flatMap arcCells) rfl (World.ownsRow.alloc hrow _) ⟨W8.heap.size, 0, none⟩ 1 1 [.int .u8 1, .int .i64 (l : Int), .int .i64 (s : Int)] rfl rfl (new_cell3 _ _ _ _ _ _ rfl) (three_cells _ _ _) (by unfold maxLen; omega) (by omega) (by simp; omega) ?_; intro v9 w9 hown9 hg9 hb9)
                        have hown10 : w9.ownsRow W1.heap.size 67 3 v9 (row.length + 1) (row.flatMap arcCells ++ arcCells ⟨k, l, s⟩) := by rw [HK1.out]; exact hown9
                        have hR10 := OfRow.app (a := ⟨k, l, s⟩) (hR9.trans (alloc_ext W8 (.cells #[.int .u8 1, .int .i64 (l : Int), .int .i64 (s : Int)] 67))) hg9 hown10 rfl hb9
                        go_roundw
                        case rel => exact ⟨l + 1, row ++ [⟨k, l, s⟩], by go_num, hll, Lib.hid ⟨by simp; have := HR.out.2.2.1; have := HR0.out.1; omega, by push_cast; exact HL2.out, hR10⟩⟩
                        case measure => simp [intOf]; omega
                    · have g2 : ((row.length : Int) == (row0.length : Int)) = false := by simp; omega
                      have HL2 := Lib.hid (HR.out.2.2.2.1.label (fun _ _ => by
                        obtain ⟨a, ha, h1, h2⟩ := HR.out.2.2.2.1.has HR0.out.2.1 HR.out.1 (by have := HR.out.1.length_le; omega) HR.out.2.1
                        exact ⟨a, ha, by rw [h1, hk1], h2⟩))
                      clear hlr hk1
                      go_wp2
                      go_roundw
                      case rel => exact ⟨l + 1, row, by go_num, hll, Lib.hid ⟨by have := HR.out.2.2.1; have := HR0.out.1; omega, by push_cast; exact HL2.out, HR.out.2.2.2.2⟩⟩
                      case measure => simp [intOf]; omega
                  · have g1 : ((k : Int) == 1) = false := by simp; omega
                    have HL2 := Lib.hid (HR.out.2.2.2.1.label (fun _ h => absurd h hk1))
                    clear hk1
                    go_wp2
                    go_roundw
                    case rel => exact ⟨l + 1, row, by go_num, hll, Lib.hid ⟨by have := HR.out.2.2.1; have := HR0.out.1; omega, by push_cast; exact HL2.out, HR.out.2.2.2.2⟩⟩
                    case measure => simp [intOf]; omega
            · obtain rfl : l = lab := by omega
              have HL2 := Lib.hid (HR0.out.2.1.kind (by rw [← HL.out]; omega))
              go_wp2
              go_roundw
              case rel => exact ⟨k + 1, row0, by go_num, by omega, Lib.hid ⟨by have := HR0.out.1; omega, HL2.out, HR0.out.2.2⟩⟩
              case measure => simp [intOf]; omega
        · obtain rfl : k = 3 := by omega
          have hlr := HR0.out.1
          obtain ⟨hrows, rv, F, vs, hvl, hO⟩ := HR0.out.2.2
          have hN5' := HN.out.2.2.2.2
          have hrl : rows.length ≤ 5 := by have := HR.out.1; omega
          have hown : W6.ownsRow W1.heap.size 68 1 rv rows.length vs := hO.get 3 rfl
          obtain ⟨A6, c6, hv6, _, _⟩ := cells_of_owns (hO.get 0 rfl)
          subst hv6
          obtain ⟨Ar, cr, hvr, _, _⟩ := cells_of_owns hown
          subst hvr
          have q2 := cell_of_blk (hO.get 2 rfl).2 2 (u := .slice Ar rows.length cr) rfl
          have hsz := hO.ext.size
          have HO := Lib.hid (And.intro hrows (And.intro hvl (And.intro hO (And.intro (show row.length ≤ 256 by omega) HR0.out.2.1))))
          clear hrows hvl hO HR0 hlr
          go_wp2_with (at_builtin; refine wpList_append_own2 rfl _ _ 26 rfl W1.heap.size 68 i68 (.slice none 0 0) 1 24 Tryd.underlying26 hi68 hz68 hs68 hb68 rfl (by decide) (.slice Ar rows.length cr) rows.length vs rfl (World.ownsRow.alloc hown _) ⟨W6.heap.size, 0, none⟩ 1 1 [.slice A6 row.length c6] rfl rfl (new_cell _ _ _ _ rfl) (one_slice _ _ _) (by unfold maxLen; omega) (by omega) (by simp; omega) ?_; intro v9 w9 hown9 hg9 hb9; have hb3 := (((HO.out.2.2.1.trans (alloc_ext W6 (.cells #[.slice A6 row.length c6] 68))).app 3 rfl hg9 hown9 hb9).get 2 rfl).2; have k93 := cell_of_blk hb3 2 rfl; have f93 := free_of_blk hb3 2; have hcl := OfRow.close (f := r.f) (N := N) HO.out.1 HO.out.2.1 (HO.out.2.2.1.trans (alloc_ext W6 (.cells #[.slice A6 row.length c6] 68))) HO.out.2.2.2 hg9 hown9 rfl hb9; obtain ⟨g9, c9, rfl⟩ := ownsRow_pos hown9 (by omega); have HCL := Lib.hid hcl; clear hcl hb3 hown hown9 hg9 hb9)
          go_roundw
          case rel => exact ⟨s + 1, rows ++ [row], by go_num, hsl, Lib.hid ⟨by simp [HR.out.1], HCL.out⟩⟩
          case measure => simp [intOf]; omega
    · obtain rfl : s = N := by omega
      obtain ⟨hrows, rv, F, vs, hvl, hO⟩ := HR.out.2
      obtain ⟨Ar, cr, hvr, hcc, hcl⟩ := cells_of_owns (hO.get 2 rfl)
      subst hvr
      have hb3 := (hO.get 1 rfl).2
      have hb2 := kb W5 hO.ext
      have q0 := cell_of_blk hb3 0 (u := .int .i64 (i : Int)) rfl
      have q1 := cell_of_blk hb3 1 (u := .int .i64 (o : Int)) rfl
      have q2 := cell_of_blk hb3 2 (u := .slice Ar rows.length cr) rfl
      have HO := Lib.hid (And.intro hrows (And.intro hvl (And.intro hO (And.intro hcc hcl))))
      clear hrows hvl hO hcc hcl
      go_wp2_with (with_reducible refine wpList_store_blk _ rfl 28 _ _ rfl b2 28 _ _ rfl rfl hb2 (by kernel_rfl) (by kernel_rfl) (by kernel_rfl) ?_; intro W8 h8 g8)
      refine bodyPost_ret (results_cell_row rfl _ _ b2 28 _ (0, 0) _ (by simp [Act.put]) h8 Tryd.underlying28 rfl (by kernel_rfl)) rfl ?_
      have hE5 := HV.out.1.trans HO.out.2.2.1.ext
      have hlt := HV.out.2.2
      have hsz5 := hE5.size
      have hk : ∀ A ∈ _, Asn.ok W1.heap.size W8 A := fun A hA => Asn.of (HO.out.2.2.1.ok A hA) (fun b hb => by
        have h1 := Asn.lt (HO.out.2.2.1.ok A hA) hb
        exact g8.block b h1.2 (fun e => by injection e with e; subst e; have := HB3.out; have := h1.1; omega))
      have hrow8 : W8.ownsRow W1.heap.size 68 1 (.slice Ar rows.length cr) rows.length vs := hk _ (List.getElem_mem (l := OfL b3 b5 (i : Int) (o : Int) (.slice Ar rows.length cr) F vs rows) (n := 2) (by simp [OfL]))
      have hkn : RowsKnow vs rows W8 := (hk (.any F (RowsKnow vs rows)) (List.getElem_mem (l := OfL b3 b5 (i : Int) (o : Int) (.slice Ar rows.length cr) F vs rows) (n := 3) (by simp [OfL]))).2 W8 (fun b _ => rfl)
      obtain ⟨A9, c9, hv9, hnc9, hc9⟩ := cells_of_owns hrow8
      cases hv9
      have hn := HN.out
      refine ⟨⟨(i : Int), (o : Int), rows⟩, Ar, cr, rfl, ⟨_, rfl, arows_of hc9 rfl HO.out.2.1 hkn hnc9 (by have h := HR.out.1; show rows.length ≤ 100000; omega)⟩, ?_, Below.grown hE5 g8 hE5.size (fun k hk => by injection hk with hk; have := HB.out; omega)⟩
      rw [← hn.1, ← hn.2.1]
      exact blike_of hn.2.2.1 hn.2.2.2.1 hn.2.2.2.2 HR.out.1 HO.out.1
end Go.Proofs.YtamodjlifpjaoaaDoor
