/- The reference's Next and Run. -/
import Derived.Test.YtkmcplhgakpneaaB1
import Derived.Test.YtkmcplhgakpneaaC1
namespace Go.Proofs.Ytkmcplhgakpneaa
open Go.RowKit
set_option linter.unusedVariables false
set_option linter.unusedSimpArgs false
attribute [local go_sem] Oper.quietV quietV Oper.gives givesV

structure Valid (m : Mach) : Prop where
  ins : 1 ≤ m.ins ∧ m.ins ≤ 16
  outs : 1 ≤ m.outs ∧ m.outs ≤ 16
  size : 1 ≤ m.rows.length ∧ m.rows.length ≤ 64
  len : ∀ r ∈ m.rows, (r.length : Int) = m.ins
  fit : ∀ r ∈ m.rows, ∀ e ∈ r, fitsB m e = true

theorem valid_iff (m : Mach) : checkM m = 0 ↔ Valid m := by
  unfold checkM
  constructor
  · intro h
    by_cases h0 : lead m = 0
    · simp only [h0, ne_eq, not_true_eq_false, if_false] at h
      unfold lead at h0
      split at h0
      · omega
      · rename_i h1
        split at h0
        · omega
        · rename_i h2
          have h3 : m.rows.any (badRow m) = false := by
            cases hh : m.rows.any (badRow m)
            · rfl
            · rw [hh] at h; simp at h
          rw [List.any_eq_false] at h3
          refine ⟨by omega, by omega, by omega, fun r hr => ?_, fun r hr e he => ?_⟩
          · have := h3 r hr
            simp only [badRow, Bool.or_eq_true, not_or, Bool.not_eq_true] at this
            simpa using this.1
          · have := h3 r hr
            simp only [badRow, Bool.or_eq_true, not_or, Bool.not_eq_true] at this
            have := List.any_eq_false.1 this.2 e he
            simpa using this
    · simp only [ne_eq, h0, not_false_eq_true, if_true] at h
  · intro h
    have h0 : lead m = 0 := by
      have := h.ins; have := h.outs; have := h.size
      unfold lead
      rw [if_neg (by omega), if_neg (by omega)]
    simp only [h0, ne_eq, not_true_eq_false, if_false]
    have h3 : m.rows.any (badRow m) = false := by
      rw [List.any_eq_false]
      intro r hr
      simp only [badRow, Bool.or_eq_true, not_or, Bool.not_eq_true]
      refine ⟨by simpa using h.len r hr, ?_⟩
      rw [rowBad, List.any_eq_false]
      intro e he
      simp [h.fit r hr e he]
    rw [h3]; rfl

def nextE (m : Mach) (s i : Int) : Int × Int := if s < 0 then (-1, -1) else (m.rows.getD s.toNat []).getD i.toNat (-1, -1)
def runL (m : Mach) : Int → List Int → List Int
  | _, [] => []
  | s, i :: ws => (nextE m s i).2 :: runL m (nextE m s i).1 ws
def afterL (m : Mach) : Int → List Int → Int
  | s, [] => s
  | s, i :: ws => afterL m (nextE m s i).1 ws
theorem runL_snoc (m : Mach) : ∀ (ws : List Int) (s i : Int), runL m s (ws ++ [i]) = runL m s ws ++ [(nextE m (afterL m s ws) i).2] ∧ afterL m s (ws ++ [i]) = (nextE m (afterL m s ws) i).1
  | [], s, i => by simp [runL, afterL]
  | j :: ws, s, i => by
    have := runL_snoc m ws (nextE m s j).1 i
    simp only [List.cons_append, runL, afterL, this.1, this.2, and_self]
theorem runL_length (m : Mach) : ∀ (ws : List Int) (s : Int), (runL m s ws).length = ws.length
  | [], _ => rfl
  | _ :: ws, _ => by simp [runL, runL_length m ws]

/-- What a state may be; what an input may be. -/
def StateOK (m : Mach) (s : Int) : Prop := -1 ≤ s ∧ s < m.rows.length
def InOK (m : Mach) (i : Int) : Prop := 0 ≤ i ∧ i < m.ins
theorem next_ok {m : Mach} (hV : Valid m) {s i : Int} (hs : StateOK m s) (hi : InOK m i) : StateOK m (nextE m s i).1 ∧ (-1 ≤ (nextE m s i).2 ∧ (nextE m s i).2 < m.outs) := by
  obtain ⟨h1, h2⟩ := hs
  obtain ⟨h3, h4⟩ := hi
  have := hV.size; have := hV.outs
  unfold nextE
  split
  · exact ⟨⟨by simp, by simp; omega⟩, by simp, by simp; omega⟩
  · have hk : s.toNat < m.rows.length := by omega
    have hr : m.rows.getD s.toNat [] = m.rows[s.toNat] := by simp [List.getD, hk]
    have hmem := List.getElem_mem hk
    have hl := hV.len _ hmem
    have hk2 : i.toNat < m.rows[s.toNat].length := by omega
    rw [hr]
    have he : m.rows[s.toNat].getD i.toNat (-1, -1) = m.rows[s.toNat][i.toNat] := by simp [List.getD, hk2]
    rw [he]
    have hf := hV.fit _ hmem _ (List.getElem_mem hk2)
    generalize m.rows[s.toNat][i.toNat] = e at hf
    obtain ⟨x, y⟩ := e
    simp only [fitsB, Bool.or_eq_true, Bool.and_eq_true, beq_iff_eq, decide_eq_true_eq] at hf
    rcases hf with ⟨rfl, rfl⟩ | ⟨⟨⟨a, b⟩, c⟩, d⟩
    · exact ⟨⟨by simp, by simp; omega⟩, by simp, by simp; omega⟩
    · exact ⟨⟨by omega, b⟩, by omega, d⟩

set_option maxHeartbeats 800000 in
theorem next_any (w : World) (mv : Value) (m : Mach) (hm : MachV w mv m) (s i : Int) (hs : StateOK m s) (hi : 0 ≤ s → 0 ≤ i ∧ i.toNat < (m.rows.getD s.toNat []).length) :
    Calls Try.prog 33 #[mv, .int .i64 s, .int .i64 i] w fun e w' => e = .returned (.agg #[.int .i64 (nextE m s i).1, .int .i64 (nextE m s i).2]) ∧ Ext w w' := by
  obtain ⟨rv, c, rfl, hr⟩ := hm
  obtain ⟨hs1, hs2⟩ := hs
  by_cases h0 : s < 0
  · rw [show nextE m s i = (-1, -1) by simp [nextE, h0]]
    go_enter Try.func33, Try.ntmps33
    go_wp2
    refine bodyPost_ret (v := .agg #[.int .i64 (-1), .int .i64 (-1)]) (by simp [results, Try.results33, go_sem]) rfl ⟨rfl, ?_⟩
    exact ((Ext.refl _).alloc _).alloc _
  · obtain ⟨sn, rfl⟩ := Int.eq_ofNat_of_zero_le (show 0 ≤ s by omega)
    obtain ⟨hi1, hi2⟩ := hi (by omega)
    obtain ⟨j, rfl⟩ := Int.eq_ofNat_of_zero_le hi1
    rw [Int.toNat_natCast, Int.toNat_natCast] at hi2
    have hk : sn < m.rows.length := by omega
    have hrow : m.rows.getD sn [] = m.rows[sn] := by simp [List.getD, hk]
    rw [hrow] at hi2
    rw [show nextE m (sn : Int) (j : Int) = m.rows[sn][j] by unfold nextE; rw [if_neg h0, Int.toNat_natCast, Int.toNat_natCast, hrow]; simp [List.getD, hi2]]
    have hr0 := hr
    obtain ⟨A, vs, rfl, _, _, _, _, hmax⟩ := hr
    obtain ⟨b, o, u, c', hA, hb, c0, hes⟩ := hr0.at_ hk
    obtain rfl : A = some ⟨b, o, none⟩ := by injection hA
    obtain ⟨A2, rfl, hc2, _, hmax2⟩ := hes
    obtain ⟨b2, o2, rfl, hb2, d0, d1⟩ := hc2.at_edge hi2
    unfold lenMax at hmax hmax2
    have hne : w.heap.size ≠ b := by omega
    have hne2 : w.heap.size ≠ b2 := by omega
    clear hrow hA hr0 hc2 hi hs1
    go_enter Try.func33, Try.ntmps33
    go_wp2
    refine bodyPost_ret (v := .agg #[.int .i64 m.rows[sn][j].1, .int .i64 m.rows[sn][j].2]) (by simp [results, Try.results33, go_sem]) rfl ⟨rfl, ?_⟩
    exact ((Ext.refl _).alloc _).alloc _

theorem int_info : (Try.prog.info? 3).map (fun i => (i.zero, i.size, i.bytes)) = some (some (.int .i64 0), 1, 8) := by kernel_rfl

theorem stateOK_after {m : Mach} (hV : Valid m) : ∀ (ws : List Int) (s : Int), StateOK m s → (∀ i ∈ ws, InOK m i) → StateOK m (afterL m s ws)
  | [], s, hs, _ => hs
  | i :: ws, s, hs, hi => stateOK_after hV ws _ (next_ok hV hs (hi i (by simp))).1 (fun j hj => hi j (by simp [hj]))
theorem next_len {m : Mach} (hV : Valid m) {s i : Int} (hs : StateOK m s) (hi : InOK m i) : 0 ≤ s → 0 ≤ i ∧ i.toNat < (m.rows.getD s.toNat []).length := fun h0 => by
  have hk : s.toNat < m.rows.length := by have := hs.2; omega
  have hrow : m.rows.getD s.toNat [] = m.rows[s.toNat] := by simp [List.getD, hk]
  rw [hrow]
  have := hV.len _ (List.getElem_mem hk)
  exact ⟨hi.1, by have := hi.2; have := hi.1; omega⟩

set_option maxRecDepth 100000 in
set_option maxHeartbeats 1600000 in
theorem run_any (w : World) (mv v : Value) (m : Mach) (hm : MachV w mv m) (hV : Valid m) (s : Int) (ws : List Int) (cw : Nat) (hw : IntsC w v ws cw) (hs : StateOK m s) (hi : ∀ i ∈ ws, InOK m i) (hlen : ws.length ≤ 100000) :
    Calls Try.prog 14 #[mv, .int .i64 s, v] w fun e w' => (∃ u c, e = .returned u ∧ IntsC w' u (runL m s ws) c) ∧ Ext w w' := by
  obtain ⟨i0, hi0, hz0, hz1, hz2⟩ := info_parts int_info
  have hm0 := hm
  obtain ⟨rv, c, rfl, hr⟩ := hm
  obtain ⟨A, rfl, hc, _, _⟩ := hw
  have HI := Lib.hid hi; clear hi
  go_enter Try.func14, Try.ntmps14
  go_wp2_with (fail)
  refine wp_named ?_
  intro W1 hW1
  have f0 : ∀ w', Ext W1 w' → w'.cell? ⟨w.heap.size, 0, none⟩ = some (.int .i64 m.ins) := fun w' h => h.cell (by rw [hW1]; simp [go_sem])
  have f1 : ∀ w', Ext W1 w' → w'.cell? ⟨w.heap.size, 1, none⟩ = some (.int .i64 m.outs) := fun w' h => h.cell (by rw [hW1]; simp [go_sem])
  have f2 : ∀ w', Ext W1 w' → w'.cell? ⟨w.heap.size, 2, none⟩ = some rv := fun w' h => h.cell (by rw [hW1]; simp [go_sem])
  have hE1 : Ext w W1 := by rw [hW1]; exact (Ext.refl _).alloc _
  clear hW1
  go_loopw [8, 1, 7] (fun i t out wr => ∃ k : Nat, k ≤ ws.length ∧ i = .int .i64 k ∧ t = .int .i64 (afterL m s (ws.take k)) ∧ Ext W1 wr ∧ wr.ownsRow W1.heap.size 3 1 out (runL m s (ws.take k)).length ((runL m s (ws.take k)).map (.int .i64))) (fun i _ _ _ => ws.length - (intOf i).toNat)
  case atStart => exact ⟨0, by omega, rfl, rfl, Ext.refl _, World.ownsRow_nil _ _ _ _⟩
  case round =>
    obtain ⟨k, hk, rfl, rfl, hE, hown⟩ := hrel
    by_cases hlt : k < ws.length
    · obtain ⟨b, o, rfl, hb, c0⟩ := (hc.ext (hE1.trans hE)).at_int hlt
      have hwk : InOK m ws[k] := HI.out _ (List.getElem_mem hlt)
      have hst : StateOK m (afterL m s (ws.take k)) := stateOK_after hV _ _ hs (fun j hj => HI.out j (List.mem_of_mem_take hj))
      have hsn := runL_snoc m (ws.take k) s ws[k]
      rw [← List.take_succ_eq_append_getElem hlt] at hsn
      have HS := Lib.hid hsn; clear hsn
      have HLn : Hid ((runL m s (ws.take k)).length = k) := by show _ = _; rw [runL_length, List.length_take]; omega
      have hnl := next_len hV hst hwk
      have HN := Lib.hid hnl; clear hnl
      generalize hgt : afterL m s (ws.take k) = t at *
      generalize hgx : ws[k] = x at *
      clear hgt hgx
      have g0 : ∀ w', Ext wr w' → w'.cell? ⟨w.heap.size, 0, none⟩ = some (.int .i64 m.ins) := fun w' h => f0 w' (hE.trans h)
      have g1 : ∀ w', Ext wr w' → w'.cell? ⟨w.heap.size, 1, none⟩ = some (.int .i64 m.outs) := fun w' h => f1 w' (hE.trans h)
      have g2 : ∀ w', Ext wr w' → w'.cell? ⟨w.heap.size, 2, none⟩ = some rv := fun w' h => f2 w' (hE.trans h)
      have g3 : ∀ w', Ext wr w' → w'.cell? ⟨b, o + k, none⟩ = some (.int .i64 x) := fun w' h => h.cell c0
      go_wp2_with (fail)
      refine wp_region_ext 8 (factsOf [(6, fun v _ => v = .agg #[.int .i64 (nextE m t x).1, .int .i64 (nextE m t x).2]), (7, Fresh wr.heap.size #[.int .i64 0, .int .i64 0] 63)]) (fun k => ([[], [], [], [], [2, 3], [2, 3, 4], [0, 1, 2, 3, 4, 5], [], [0, 1, 2, 3, 4, 5, 6, 7]] : List (List Nat)).getD k []) (by kernel_rfl) (by kernel_rfl) Ext.pre (mono_cons (stays_eq _) (mono_cons (stays_fresh _ _ _) (mono_nil))) ?_
      simp only [List.take_succ_cons, List.take_zero]
      repeat (first | (with_reducible refine lexL_quiet' (v := ?_) ?_ ?_ ?_ ?_; rotate_left; (· with_reducible rfl); (· simp [factsOf]); (· intro w1 hw1 _; go_simp; with_reducible rfl); (try simp only [Act.put, List.setIfInBounds_toArray, List.set_cons_zero, List.set_cons_succ])) | (with_reducible refine lexL_skip ?_ ?_; (· simp [Region.wanted, yielded, undef]); (try simp only [Act.put, List.setIfInBounds_toArray, List.set_cons_zero, List.set_cons_succ])) | (with_reducible refine lexL_quiet (v := ?_) ?_ ?_ ?_ ?_; rotate_left; (· simp [Region.wanted, yielded, undef]); (· simp [factsOf]); (· intro w1 hw1 _; go_simp; with_reducible rfl); (try simp only [Act.put, List.setIfInBounds_toArray, List.set_cons_zero, List.set_cons_succ])))
      with_reducible refine lexL_give' (φ := ?_) ?_ ?_ ?_ ?_; rotate_left; (· with_reducible rfl); (· simp only [factsOf, Nat.reduceAdd, ↓reduceIte, Nat.reduceEqDiff]; rfl)
      · intro w1 hw1 _
        go_simp
        refine (next_any w1 _ m (hm0.ext ((hE1.trans hE).trans hw1)) t x hst HN.out).mono ?_
        rintro e w2 ⟨rfl, hb⟩
        exact ⟨_, rfl, hb, rfl⟩
      rintro v w1 hw1 rfl hk1
      clear hk1 hw1 w1
      (try simp only [Act.put, List.setIfInBounds_toArray, List.set_cons_zero, List.set_cons_succ])
      with_reducible refine lexL_give' (φ := ?_) ?_ ?_ ?_ ?_; rotate_left; (· with_reducible rfl); (· simp only [factsOf, Nat.reduceAdd, ↓reduceIte, Nat.reduceEqDiff]; rfl)
      · intro w1 hw1 _
        go_simp
        exact fresh_alloc _ _ _ _ hw1.size
      rintro v w1 hw1 ⟨b7, rfl, hb7, hblk⟩ hk1
      clear hk1 hw1 hblk w1
      (try simp only [Act.put, List.setIfInBounds_toArray, List.set_cons_zero, List.set_cons_succ])
      with_reducible refine lexL_nil ?_; intro w1 hw1 hk1; simp only [List.drop_succ_cons, List.drop_zero]
      obtain ⟨b8, hp, _, hblk⟩ := hk1.get 7 rfl rfl
      obtain rfl : b8 = b7 := by cases hp; rfl
      clear hk1 hp
      have z0 := cell_of_blk hblk 0 rfl
      have z1 := cell_of_blk hblk 1 rfl
      have z2 := free_of_blk hblk 0
      have z3 := free_of_blk hblk 1
      go_upto_region 6 with fail
      refine wp_named ?_
      intro W2 hW2
      have e1 : Ext wr W2 := by rw [hW2]; exact (hw1.setCell (p := ⟨b8, 0, none⟩) hb7 _).setCell (p := ⟨b8, 1, none⟩) hb7 _
      have y0 : W2.cell? ⟨b8, 0, none⟩ = some (.int .i64 (nextE m t x).1) := by rw [hW2]; simp [go_sem, z0, z1]
      have y1 : W2.cell? ⟨b8, 1, none⟩ = some (.int .i64 (nextE m t x).2) := by rw [hW2]; simp [go_sem, z0, z1]
      clear hW2 z0 z1 z2 z3 hblk
      have hown2 := ownsRow_ext hown e1
      have hlt8 := World.block_lt_of_cell? _ _ y0
      have hne8 : some b8 ≠ u7.ownBlock := fun e => by have := (hown.lt b8 e.symm).2; omega
      have hneA : W2.heap.size ≠ b8 := by simp at hlt8; omega
      have hsz1 := (hE.trans e1).size
      have hlk := HLn.out
      have hlkb : (runL m s (List.take k ws)).length ≤ 100000 := by omega
      clear hlk
      go_wp2_with (at_builtin; refine wpList_append_own _ rfl _ _ 29 rfl W1.heap.size 3 i0 (.int .i64 0) 1 8 Try.underlying29 hi0 hz0 hz1 hz2 rfl (by decide) _ _ _ rfl (hown2.alloc _) ⟨W2.heap.size, 0, none⟩ 1 1 [.int .i64 (nextE m t x).2] rfl rfl (cell_one_new _ _ _) (ints_oneCell _ [(nextE m t x).2]) (by unfold maxLen; omega) (by omega) (by simp; omega) ?_; intro v3 w3 hown3 hg3 _; have q0 := hg3.cell (((Ext.refl W2).alloc _).cell y0) hne8)
      go_roundw
      case rel =>
        refine ⟨k + 1, by omega, by go_num, by rw [HS.out.2], ext_grown ((hE.trans e1).alloc _) (hown2.alloc _) (Nat.le_refl _) hg3, ?_⟩
        rw [HS.out.1, List.length_append, List.map_append]; exact hown3
      case measure => simp [intOf]; omega
    · have : ws.take k = ws := List.take_of_length_le (by omega)
      rw [this] at hown
      have hlr := runL_length m ws s
      go_wp2
      go_ret
      obtain ⟨c, hc⟩ := ints_of_owns hown (by unfold lenMax; omega)
      exact ⟨⟨_, c, rfl, hc⟩, hE1.trans hE⟩
end Go.Proofs.Ytkmcplhgakpneaa
