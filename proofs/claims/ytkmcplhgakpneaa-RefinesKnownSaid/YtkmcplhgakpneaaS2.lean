/- refines.sign, walked. -/
import Derived.Test.YtkmcplhgakpneaaS1
namespace Go.Proofs.Ytkmcplhgakpneaa
open Go.RowKit Go.Maps
set_option linter.unusedVariables false
set_option linter.unusedSimpArgs false
attribute [local go_sem] Oper.quietV quietV Oper.gives givesV ext_refl_iff ext_alloc_iff ext_drew_iff ext_drewN_iff

def sigA (p : List Int) (es : List (Int × Int)) : Array Value := ((sigL p es).map (.int .i64)).toArray
theorem sigA_size (p : List Int) (es : List (Int × Int)) (h : es.length ≤ 16) : (sigA p es).size = 32 := by
  simp [sigA, sigL_length p es h]
theorem sigA_step (p : List Int) (es : List (Int × Int)) (e : Int × Int) (h : es.length < 16) (x y : Int) (hx : x = e.2) (hy : y = if e.1 = -1 then -1 else p.getD e.1.toNat 0) :
    ((sigA p es).setIfInBounds (es.length * 2) (.int .i64 x)).setIfInBounds (es.length * 2 + 1) (.int .i64 y) = sigA p (es ++ [e]) := by
  subst hx hy
  apply Array.ext'
  rw [Array.toList_setIfInBounds, Array.toList_setIfInBounds]
  simp only [sigA]
  rw [← sigL_step p es e h, List.map_set, List.map_set]
theorem sigA_one (p : List Int) (es : List (Int × Int)) : (sigA p es).all (·.oneCell') = true := all_oneCell_toArray (ints_oneCell _ _)
theorem sigA_zero (p : List Int) : sigA p [] = (List.replicate 32 (Value.int .i64 0)).toArray := by simp [sigA, sigL]

set_option maxRecDepth 100000 in
set_option maxHeartbeats 3200000 in
theorem sign_any (w : World) (mv pv : Value) (m : Mach) (hm : MachV w mv m) (hV : Valid m) (p : List Int) (cp : Nat) (hp : IntsC w pv p cp) (s : Nat) (hs : s < m.rows.length) (hpl : m.rows.length ≤ p.length) :
    Calls Try.prog 48 #[mv, pv, .int .i64 s] w fun e w' => e = .returned (.agg (sigA p m.rows[s])) ∧ Ext w w' := by
  obtain ⟨rv, c, rfl, hr⟩ := hm
  obtain ⟨Ap, rfl, hcp, _, hpm⟩ := hp
  have hr0 := hr
  obtain ⟨A, vs, rfl, _, _, _, _, hmax⟩ := hr
  obtain ⟨b, o, u, c', hA, hb, c0, hes⟩ := hr0.at_ hs
  obtain rfl : A = some ⟨b, o, none⟩ := by injection hA
  obtain ⟨A2, rfl, hc2, _, hmax2⟩ := hes
  have hlen := hV.len _ (List.getElem_mem hs)
  have hins := hV.ins
  have hrl : m.rows[s].length ≤ 16 := by omega
  have hfit := hV.fit _ (List.getElem_mem hs)
  generalize hrow : m.rows[s] = row at *
  have HF := Lib.hid hfit
  unfold lenMax at hmax hmax2 hpm
  have hne : w.heap.size ≠ b := by omega
  have hne2 : w.heap.size + 1 ≠ b := by omega
  have hne3 : w.heap.size + 1 + 1 ≠ b := by omega
  clear hlen hfit hrow hA hr0
  go_enter Try.func48, Try.ntmps48
  go_upto_region 1 with fail
  refine wp_named ?_
  intro W1 hW1
  have hE1 : Ext w W1 := by rw [hW1]; exact ((Ext.refl _).alloc _).alloc _
  have hz1 : W1.heap.size = w.heap.size + 2 := by rw [hW1]; simp
  have r1 : W1.heap[w.heap.size + 1]? = some (.cells (sigA p []) 91 (0, 0)) := by rw [hW1, sigA_zero]; exact heap_alloc2_new _ _ _
  have k0 : ∀ w', Ext W1 w' → w'.cell? ⟨w.heap.size, 2, none⟩ = some (.slice (some ⟨b, o, none⟩) m.rows.length c) := fun w' h => h.cell (by rw [hW1]; simp [go_sem])
  have k1 : ∀ w', Ext W1 w' → w'.cell? ⟨b, o + s, none⟩ = some (.slice A2 row.length c') := fun w' h => h.cell (hE1.cell c0)
  have HZ1 := Lib.hid hz1
  clear hW1 hz1 c0
  go_wp2_with (fail)
  go_loopw [16] (fun i wr => ∃ k : Nat, k ≤ row.length ∧ i = .int .i64 k ∧ Ext W1 wr ∧ wr.heap[W1.heap.size]? = some (.cells (sigA p (row.take k)) 91 (0, 0))) (fun i _ => row.length - (intOf i).toNat)
  case atStart => exact ⟨0, by omega, rfl, (Ext.refl _).alloc _, by rw [List.take_zero, sigA_zero]; exact heap_alloc_new _ _⟩
  case round =>
    obtain ⟨k, hk, rfl, hE, hblk⟩ := hrel
    by_cases hlt : k < row.length
    · obtain ⟨b2, o2, rfl, hb2, d0, d1⟩ := ((hc2.ext hE1).ext hE).at_edge hlt
      have hfk := HF.out _ (List.getElem_mem hlt)
      have hstep := fun x y => sigA_step p (row.take k) row[k] (by rw [List.length_take]; omega) x y
      rw [← List.take_succ_eq_append_getElem hlt, List.length_take, Nat.min_eq_left hk] at hstep
      have HS := Lib.hid hstep
      have hsz : (sigA p (row.take k)).size = 32 := sigA_size p _ (by rw [List.length_take]; omega)
      generalize row[k] = e at *
      have q0 : ∀ w', Ext wr w' → w'.cell? ⟨b2, o2 + k * 2, none⟩ = some (.int .i64 e.1) := fun w' h => h.cell d0
      have q1 : ∀ w', Ext wr w' → w'.cell? ⟨b2, o2 + k * 2 + 1, none⟩ = some (.int .i64 e.2) := fun w' h => h.cell d1
      clear d0 d1 hstep
      have hB : W1.heap.size < wr.heap.size := lt_of_block hblk
      obtain ⟨v0, hv0⟩ : ∃ v, (sigA p (row.take k))[k * 2]? = some v := ⟨_, Array.getElem?_eq_getElem (by omega)⟩
      obtain ⟨v1, hv1⟩ : ∃ v, (sigA p (row.take k))[k * 2 + 1]? = some v := ⟨_, Array.getElem?_eq_getElem (by omega)⟩
      have HSZ := Lib.hid hsz
      clear hsz
      go_upto_region 5 with fail
      refine wp_named ?_
      intro W2 hW2
      have x0 : W2.cell? ⟨wr.heap.size, 0, none⟩ = some (.int .i64 e.1) := by rw [hW2]; simp [go_sem]
      have x1 : W2.cell? ⟨wr.heap.size, 1, none⟩ = some (.int .i64 e.2) := by rw [hW2]; simp [go_sem]
      have hE2 : Ext wr W2 := by rw [hW2]; exact (Ext.refl _).alloc _
      have z2 := heap_ext hE2 hblk
      have z3 := cell_of_blk z2 _ hv0
      have z4 := cell_of_blk z2 _ hv1
      have z5 := free_of_blk z2 (k * 2)
      have z6 := free_of_blk z2 (k * 2 + 1)
      have Z2 := Lib.hid z2
      have hk16 : k < 16 := by omega
      have hk16' : (k : Int) < 16 := by omega
      clear hW2 hv0 hv1 z2 hblk
      go_upto_region 6 with fail
      refine wp_named ?_
      intro W3 hW3
      have hneB : wr.heap.size ≠ W1.heap.size := by omega
      have y0 : W3.cell? ⟨wr.heap.size, 0, none⟩ = some (.int .i64 e.1) := by
        rw [hW3, World.cell?_setCell_other _ _ _ _ (fun h => hneB (congrArg Addr.block h).symm), World.cell?_setCell_other _ _ _ _ (fun h => hneB (congrArg Addr.block h).symm)]; exact x0
      have z7 : W3.heap[W1.heap.size]? = some (.cells (((sigA p (row.take k)).setIfInBounds (k * 2) (.int .i64 e.2)).setIfInBounds (k * 2 + 1) (.int .i64 (-1))) 91 (0, 0)) := by
        rw [hW3]; exact heap_setCell_same _ _ _ _ _ _ (heap_setCell_same _ _ _ _ _ _ Z2.out)
      have hE3 : Ext W1 W3 := by
        rw [hW3]; exact ((hE.trans hE2).setCell (p := ⟨W1.heap.size, k * 2, none⟩) (Nat.le_refl _) _).setCell (p := ⟨W1.heap.size, k * 2 + 1, none⟩) (Nat.le_refl _) _
      clear hW3 x0 x1 z3 z4 z5 z6 Z2
      cases hneg : (e.1 != -1)
      · have hneg' : e.1 = -1 := by simpa using hneg
        have z8 := HS.out e.2 (-1) rfl (by simp [hneg'])
        rw [z8] at z7
        have Z7 := Lib.hid z7
        clear z7 z8 hneg'
        go_wp2_with (fail)
        go_roundw
        case rel => exact ⟨k + 1, by omega, by go_num, hE3, Z7.out⟩
        case measure => simp [intOf]; omega
      · have hneg' : e.1 ≠ -1 := by simpa using hneg
        have hto : 0 ≤ e.1 ∧ e.1 < m.rows.length := by
          simp only [fitsB, Bool.or_eq_true, Bool.and_eq_true, beq_iff_eq, decide_eq_true_eq] at hfk
          omega
        obtain ⟨t, ht⟩ := Int.eq_ofNat_of_zero_le hto.1
        have htp : t < p.length := by omega
        obtain ⟨bp, op, rfl, hbp, p0⟩ := (hcp.ext (hE1.trans hE3)).at_int htp
        have z8 := HS.out e.2 p[t] rfl (by rw [if_neg hneg', ht]; simp [List.getD, htp])
        have Z8 := Lib.hid z8
        rw [ht] at y0 hneg
        have g0 : ∀ w', Ext W3 w' → w'.cell? ⟨wr.heap.size, 0, none⟩ = some (.int .i64 t) := fun w' h => h.cell y0
        have g1 : ∀ w', Ext W3 w' → w'.cell? ⟨bp, op + t, none⟩ = some (.int .i64 p[t]) := fun w' h => h.cell p0
        have Z7 := Lib.hid z7
        clear z7 z8 hneg' hto ht p0 HS
        go_wp2_with (fail)
        refine wp_region_ext 7 (factsOf []) (fun k => ([[], [], [], [2], [1, 2, 3], [1, 2, 3, 4], [0], [0, 1, 2, 3, 4, 5, 6], [0, 1, 2, 3, 4, 5, 6, 7]] : List (List Nat)).getD k []) (by kernel_rfl) (by kernel_rfl) Ext.pre (mono_nil) ?_
        simp only [List.take_succ_cons, List.take_zero]
        repeat (first | (with_reducible refine lexL_quiet' (v := ?_) ?_ ?_ ?_ ?_; rotate_left; (· with_reducible rfl); (· simp [factsOf]); (· intro w1 hw1 _; go_simp; with_reducible rfl); (try simp only [Act.put, List.setIfInBounds_toArray, List.set_cons_zero, List.set_cons_succ])) | (with_reducible refine lexL_skip ?_ ?_; (· simp [Region.wanted, yielded, undef]); (try simp only [Act.put, List.setIfInBounds_toArray, List.set_cons_zero, List.set_cons_succ])) | (with_reducible refine lexL_quiet (v := ?_) ?_ ?_ ?_ ?_; rotate_left; (· simp [Region.wanted, yielded, undef]); (· simp [factsOf]); (· intro w1 hw1 _; go_simp; with_reducible rfl); (try simp only [Act.put, List.setIfInBounds_toArray, List.set_cons_zero, List.set_cons_succ])))
        with_reducible refine lexL_nil ?_; intro w1 hw1 hk1; simp only [List.drop_succ_cons, List.drop_zero]
        have z9 := heap_ext hw1 Z7.out
        have z10 := free_of_blk z9 (k * 2 + 1)
        have z11 : w1.cell? ⟨W1.heap.size, k * 2 + 1, none⟩ = some (.int .i64 (-1)) := cell_of_blk z9 _ (by
          rw [Array.getElem?_setIfInBounds_self_of_lt]
          have := HSZ.out
          simp [Array.size_setIfInBounds]; omega)
        have Z9 := Lib.hid z9
        clear z9 hk1 y0 Z7
        go_upto_region 8 with fail
        refine wp_named ?_
        intro W4 hW4
        have z12 : W4.heap[W1.heap.size]? = some (.cells (sigA p (row.take (k + 1))) 91 (0, 0)) := by
          rw [hW4, heap_setCell_same _ _ _ _ _ _ Z9.out, Array.setIfInBounds_setIfInBounds, Z8.out]
        have hE4 : Ext W1 W4 := by
          rw [hW4]; exact (hE3.trans hw1).setCell (p := ⟨W1.heap.size, k * 2 + 1, none⟩) (Nat.le_refl _) _
        have Z12 := Lib.hid z12
        clear hW4 z12 z10 z11 Z9
        go_wp2
        go_roundw
        case rel => exact ⟨k + 1, by omega, by go_num, hE4, Z12.out⟩
        case measure => simp [intOf]; omega
    · have hk' : row.take k = row := List.take_of_length_le (by omega)
      rw [hk'] at hblk
      have hsz := sigA_size p row hrl
      have r2 := heap_ext hE r1
      have hN := HZ1.out
      have hNe : w.heap.size + 1 ≠ W1.heap.size := by omega
      clear hN
      go_wp2_with (first
        | (with_reducible refine wpList_load_row rfl 91 _ rfl W1.heap.size rfl 91 _ (0, 0) _ hblk Try.underlying91 rfl (by rw [hsz]; kernel_rfl) ?_)
        | (with_reducible refine wpList_store_blk _ rfl 91 _ _ rfl (w.heap.size + 1) 91 _ _ rfl rfl r2 (by rw [hsz, sigA_size p [] (by simp)]) (by rw [hsz]; kernel_rfl) (sigA_one _ _) ?_; intro w2 h2 g2))
      refine bodyPost_ret (v := .agg (sigA p row)) (results_cell_row Try.results48 _ _ _ 91 _ (0, 0) _ (by simp [Act.put]) h2 Try.underlying91 rfl (by rw [hsz]; kernel_rfl)) rfl ⟨rfl, ?_⟩
      exact Below.grown (hE1.trans hE) g2 (hE1.trans hE).size (fun k hk => by cases hk; omega)
end Go.Proofs.Ytkmcplhgakpneaa
