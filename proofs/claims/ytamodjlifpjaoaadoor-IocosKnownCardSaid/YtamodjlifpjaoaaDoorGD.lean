/- iocos.prepare 37. compare 59 (with 67, 68, 72, 73, 66); the rows' search 65, 57, 58. iocos.Check 35 (with the rows' search 65, 57, 58). -/
import Derived.Test.YtamodjlifpjaoaaDoorGC
namespace Go.Proofs.YtamodjlifpjaoaaDoor
open Go.RowKit
set_option linter.unusedVariables false
set_option linter.unusedSimpArgs false
attribute [local go_sem] Oper.quietV quietV Oper.gives givesV ext_refl_iff ext_alloc_iff ext_drew_iff ext_drewN_iff
def FreshN (N n : Nat) (z : Value) (e : TypeId) (v : Value) (w : World) : Prop := ∃ b, v = .slice (some ⟨b, 0, none⟩) n n ∧ N ≤ b ∧ w.heap[b]? = some (.cells (Array.replicate n z) e (0, 0))
theorem stays_freshN (N n : Nat) (z : Value) (e : TypeId) : Stays Ext (FreshN N n z e) := fun v w w' hE ⟨b, hv, hb, h⟩ => ⟨b, hv, hb, heap_ext hE h⟩
theorem own_of_blk {w : World} {N b n : Nat} {z : Value} {e : TypeId} (h : w.heap[b]? = some (.cells (Array.replicate n z) e (0, 0))) (hb : N ≤ b) (hn : n ≤ 100000) : w.ownsRow N e 1 (.slice (some ⟨b, 0, none⟩) n n) n (List.replicate n z) :=
  ⟨by simp, .inr ⟨b, n, _, rfl, hb, h, Nat.le_refl _, by unfold maxLen; omega, by simp, by simp⟩⟩
theorem blk_ne {w : World} {b b' : Nat} {o o' : Obj} (h : w.heap[b]? = some o) (h' : w.heap[b']? = some o') (hne : o ≠ o') : b ≠ b' := fun e => hne (by rw [e, h'] at h; cases h; rfl)
theorem mask_info : (Tryd.prog.info? 76).map (fun i => (i.zero, i.size, i.bytes)) = some (some (.int .u64 0), 1, 8) := by kernel_rfl
theorem mk_masks (n : Nat) (hn : n ≤ 100000) (w : World) : (Instr.makeSlice 71 (.int .i64 (n : Int)) (.int .i64 (n : Int))).run Tryd.prog w = .ok (.slice (some ⟨w.heap.size, 0, none⟩) n n) (w.alloc (.cells (Array.replicate n (.int .u64 0)) 76)) := mk_slice (i := default) Tryd.underlying71 mask_info rfl (by decide) n hn w
/-- The masks, halfway: those of the first states, one under way, and zeros. -/
def mskH (x : Lts) (i : Nat) : List Nat := (List.range i).map (sil x) ++ List.replicate (x.n - i) 0
def mskM (x : Lts) (i M : Nat) : List Nat := (mskH x i).set i M
def mV (l : List Nat) : List Value := l.map (fun (m : Nat) => Value.int .u64 m)
theorem mskH_len (x : Lts) {i : Nat} (hi : i ≤ x.n) : (mskH x i).length = x.n := by unfold mskH; simp; omega
theorem mskM_len (x : Lts) {i : Nat} (M : Nat) (hi : i ≤ x.n) : (mskM x i M).length = x.n := by unfold mskM; rw [List.length_set, mskH_len x hi]
theorem mskM_at (x : Lts) {i : Nat} (M : Nat) (hi : i < x.n) : (mskM x i M)[i]? = some M := by unfold mskM; rw [List.getElem?_set_self (by rw [mskH_len x (by omega)]; exact hi)]
theorem mskM_set (x : Lts) (i M M' : Nat) : (mskM x i M).set i M' = mskM x i M' := by unfold mskM; rw [List.set_set]
theorem mskM_end (x : Lts) {i : Nat} (hi : i < x.n) : mskM x i (sil x i) = mskH x (i + 1) := by
  unfold mskM mskH
  rw [List.set_append_right _ _ (by simp)]
  simp only [List.length_map, List.length_range, Nat.sub_self]
  rw [show x.n - i = (x.n - (i + 1)) + 1 by omega, List.replicate_succ, List.set_cons_zero, List.range_succ, List.map_append, List.append_assoc]
  rfl
theorem mskH_all (x : Lts) : mskH x x.n = sils x := by unfold mskH sils; simp
theorem mskH_zero (x : Lts) : mV (mskH x 0) = List.replicate x.n (.int .u64 0) := by unfold mskH mV; simp
theorem mskH_none (x : Lts) {i : Nat} (hi : i < x.n) : (mskH x i)[i]? = some 0 := by
  unfold mskH
  rw [List.getElem?_append_right (by simp), List.getElem?_replicate, if_pos (by simp; omega)]
theorem mV_set (l : List Nat) (i M : Nat) : (mV l).set i (.int .u64 M) = mV (l.set i M) := by unfold mV; rw [List.map_set]
theorem mV_at {l : List Nat} {i M : Nat} (h : l[i]? = some M) : (mV l)[i]? = some (.int .u64 M) := by unfold mV; rw [List.getElem?_map, h]; rfl
def natOf : Option Value → Nat
  | some (.int _ k) => k.toNat
  | _ => 0
def lenV : Value → Nat
  | .slice _ n _ => n
  | _ => 0
set_option maxRecDepth 100000 in
set_option maxHeartbeats 16000000 in
theorem prepare_own (w : World) (A : Option Addr) (c : Nat) (x : Lts) (hd : LtsV w (.agg #[.int .i64 x.ins, .int .i64 x.outs, .slice A x.rows.length c]) x) (hg : Good x) : Calls Tryd.prog 37 #[.agg #[.int .i64 x.ins, .int .i64 x.outs, .slice A x.rows.length c]] w fun e w' => ∃ g, e = .returned (.agg #[.int .i64 x.ins, .int .i64 x.outs, .slice A x.rows.length c, .slice (some ⟨g, 0, none⟩) x.rows.length x.rows.length]) ∧ w'.ownsRow w.heap.size 76 1 (.slice (some ⟨g, 0, none⟩) x.rows.length x.rows.length) x.rows.length (mV (sils x)) ∧ SysV w' (.agg #[.int .i64 x.ins, .int .i64 x.outs, .slice A x.rows.length c, .slice (some ⟨g, 0, none⟩) x.rows.length x.rows.length]) x ∧ Ext w w' := by
  obtain ⟨i3, hi3, hz3, hs3, hb3⟩ := info_parts int_info
  have hform := hd.form
  have hr : ARowsC w (.slice A x.rows.length c) x.rows := by
    obtain ⟨A', c', hv, hr, _⟩ := hform
    cases hv; exact hr
  have hlen : x.rows.length ≤ 9223372036854775807 := by
    obtain ⟨A', c', hv, _, hl⟩ := hform
    exact hl
  clear hform
  have hgn := hg.nn
  unfold Lts.n at hgn
  have hmk := mk_masks x.rows.length (by omega)
  have HG := Lib.hid hg
  go_enter Tryd.func37, Tryd.ntmps37
  go_upto_region 1 with fail
  refine wp_named ?_
  intro W1 hW1
  have hE1 : Ext w W1 := by rw [hW1]; exact ((Ext.refl _).alloc _).alloc _
  have k0 : ∀ w', Ext W1 w' → w'.cell? ⟨w.heap.size, 0, none⟩ = some (.int .i64 x.ins) := fun w' h => h.cell (by rw [hW1]; simp [go_sem])
  have k1 : ∀ w', Ext W1 w' → w'.cell? ⟨w.heap.size, 1, none⟩ = some (.int .i64 x.outs) := fun w' h => h.cell (by rw [hW1]; simp [go_sem])
  have k2 : ∀ w', Ext W1 w' → w'.cell? ⟨w.heap.size, 2, none⟩ = some (.slice A x.rows.length c) := fun w' h => h.cell (by rw [hW1]; simp [go_sem])
  have kb : ∀ w', Ext W1 w' → w'.heap[w.heap.size + 1]? = some (.cells #[.int .i64 0, .int .i64 0, .slice none 0 0, .slice none 0 0] 73 (0, 0)) := fun w' h => heap_ext h (by rw [hW1]; have h9 := heap_alloc_new (w.alloc (.cells #[.int .i64 x.ins, .int .i64 x.outs, .slice A x.rows.length c] 28)) (.cells #[.int .i64 0, .int .i64 0, .slice none 0 0, .slice none 0 0] 73 (0, 0)); simpa using h9)
  have HB2 : Hid (w.heap.size ≤ w.heap.size + 1 ∧ w.heap.size + 1 < W1.heap.size) := Lib.hid ⟨by omega, by rw [hW1]; simp⟩
  clear hW1
  generalize w.heap.size + 1 = b2 at *
  generalize hb1 : w.heap.size = b1 at *
  have hE0 := Ext.refl W1
  have HR := Lib.hid (And.intro hr hE1)
  clear hd hg hr
  refine wp_region_ext 7 (factsOf [(4, FreshN W1.heap.size x.rows.length (.int .u64 0) 76), (6, Fresh W1.heap.size #[.int .i64 0, .int .i64 0, .slice none 0 0, .slice none 0 0] 73)]) (fun k => ([[], [], [1], [1, 2], [1, 2, 3], [0, 1, 2, 3, 4], [], [0, 1, 2, 3, 4, 5, 6]] : List (List Nat)).getD k []) (by kernel_rfl) (by kernel_rfl) Ext.pre (mono_cons (stays_freshN _ _ _ _) (mono_cons (stays_fresh _ _ _) (mono_nil))) ?_
  simp only [List.take_succ_cons, List.take_zero]
  repeat (first | (with_reducible refine lexL_quiet' (v := ?_) ?_ ?_ ?_ ?_; rotate_left; (· with_reducible rfl); (· simp [factsOf]); (· intro w1 hw1 _; go_simp; with_reducible rfl); (try simp only [Act.put, List.setIfInBounds_toArray, List.set_cons_zero, List.set_cons_succ])) | (with_reducible refine lexL_skip ?_ ?_; (· simp [Region.wanted, yielded, undef]); (try simp only [Act.put, List.setIfInBounds_toArray, List.set_cons_zero, List.set_cons_succ])) | (with_reducible refine lexL_quiet (v := ?_) ?_ ?_ ?_ ?_; rotate_left; (· simp [Region.wanted, yielded, undef]); (· simp [factsOf]); (· intro w1 hw1 _; go_simp; with_reducible rfl); (try simp only [Act.put, List.setIfInBounds_toArray, List.set_cons_zero, List.set_cons_succ])))
  with_reducible refine lexL_give' (φ := ?_) ?_ ?_ ?_ ?_; rotate_left; (· with_reducible rfl); (· simp only [factsOf, Nat.reduceAdd, ↓reduceIte, Nat.reduceEqDiff]; rfl)
  · intro w2' hw2' _
    go_simp
    exact ⟨_, rfl, hw2'.size, heap_alloc_new w2' _⟩
  rintro v4 w2' hw2' ⟨b4, rfl, hb4, hblk4⟩ hk2
  clear hk2 hw2' hblk4 w2'
  (try simp only [Act.put, List.setIfInBounds_toArray, List.set_cons_zero, List.set_cons_succ])
  repeat (first | (with_reducible refine lexL_quiet' (v := ?_) ?_ ?_ ?_ ?_; rotate_left; (· with_reducible rfl); (· simp [factsOf]); (· intro w1 hw1 _; go_simp; with_reducible rfl); (try simp only [Act.put, List.setIfInBounds_toArray, List.set_cons_zero, List.set_cons_succ])) | (with_reducible refine lexL_skip ?_ ?_; (· simp [Region.wanted, yielded, undef]); (try simp only [Act.put, List.setIfInBounds_toArray, List.set_cons_zero, List.set_cons_succ])) | (with_reducible refine lexL_quiet (v := ?_) ?_ ?_ ?_ ?_; rotate_left; (· simp [Region.wanted, yielded, undef]); (· simp [factsOf]); (· intro w1 hw1 _; go_simp; with_reducible rfl); (try simp only [Act.put, List.setIfInBounds_toArray, List.set_cons_zero, List.set_cons_succ])))
  with_reducible refine lexL_give' (φ := ?_) ?_ ?_ ?_ ?_; rotate_left; (· with_reducible rfl); (· simp only [factsOf, Nat.reduceAdd, ↓reduceIte, Nat.reduceEqDiff]; rfl)
  · intro w2' hw2' _
    go_simp
    exact (fresh_alloc _ _ _ _ hw2'.size).2
  rintro v8 w2' hw2' ⟨b8, rfl, hb8, hblk8⟩ hk2
  clear hk2 hw2' hblk8 w2'
  (try simp only [Act.put, List.setIfInBounds_toArray, List.set_cons_zero, List.set_cons_succ])
  with_reducible refine lexL_nil ?_; intro w1 hw1 hk1; simp only [List.drop_succ_cons, List.drop_zero]
  obtain ⟨c4, h3, g4, hB4⟩ := hk1.get 4 rfl rfl
  obtain rfl : c4 = b4 := by injection h3 with h3; injection h3 with h3; injection h3 with h3; exact h3.symm
  obtain ⟨c8, h8, g8, hB8⟩ := hk1.get 6 rfl rfl
  obtain rfl : c8 = b8 := by cases h8; rfl
  have hn48 := blk_ne hB4 hB8 (fun h => by injection h with h1 h2; cases h2)
  clear hk1 h3 h8 g4 g8
  go_upto_region 2 with (with_reducible refine wpList_store_blk _ rfl 73 _ _ rfl c8 73 _ _ rfl rfl hB8 (by kernel_rfl) (by kernel_rfl) (by kernel_rfl) ?_; intro w7 h7 g7)
  have hE7 : Ext W1 w7 := Below.grown hw1 g7 hw1.size (fun k hk => by cases hk; exact hb8)
  have hC4 := (g7.block c4 (lt_of_block hB4) (by simp; omega)).trans hB4
  have hO7 : OwnL W1 w7 [.row 76 1 (.slice (some ⟨c4, 0, none⟩) x.rows.length x.rows.length) x.rows.length (mV (mskH x 0)), .blk c8 (.cells #[.int .i64 x.ins, .int .i64 x.outs, .slice A x.rows.length c, .slice (some ⟨c4, 0, none⟩) x.rows.length x.rows.length] 73 (0, 0))] := by
    refine ⟨hE7, fun A hA => ?_, ?_⟩
    · simp at hA
      rcases hA with rfl | rfl
      · have := own_of_blk hC4 hb4 (by omega)
        rw [← show mV (mskH x 0) = List.replicate x.rows.length (.int .u64 0) from mskH_zero x] at this
        exact this
      · exact ⟨hb8, h7⟩
    · simp [Asn.foot, Value.ownBlock]
      omega
  clear hC4 hB4 hB8 h7 g7 hw1 hb4 hb8 hn48 hmk w1 hE0
  go_wp2
  clear hE7
  go_loopw [17] (fun iv wr => ∃ i : Nat, iv = .int .i64 i ∧ i ≤ x.rows.length ∧ OwnL W1 wr [.row 76 1 (.slice (some ⟨c4, 0, none⟩) x.rows.length x.rows.length) x.rows.length (mV (mskH x i)), .blk c8 (.cells #[.int .i64 x.ins, .int .i64 x.outs, .slice A x.rows.length c, .slice (some ⟨c4, 0, none⟩) x.rows.length x.rows.length] 73 (0, 0))]) (fun iv _ => x.rows.length - (intOf iv).toNat)
  case atStart => exact ⟨0, rfl, by omega, hO7⟩
  case round =>
    clear hO7
    obtain ⟨i, rfl, hi, hO⟩ := hrel
    obtain ⟨W3, hW3⟩ : ∃ W, W = wr := ⟨_, rfl⟩; subst hW3
    by_cases hlt : i < x.rows.length
    · have hlt' : i < x.n := hlt
      have c0 : W3.cell? ⟨c8, 3, none⟩ = some (.slice (some ⟨c4, 0, none⟩) x.rows.length x.rows.length) := cell_of_blk (hO.get 1 rfl).2 3 rfl
      have c0 := fun w' (h : Ext W3 w') => h.cell c0
      have k2' := fun w' (h : Ext W3 w') => k2 w' (hO.ext.trans h)
      have hE3 := Ext.refl W3
      have hil : (i : Int) < (x.rows.length : Int) := by omega
      obtain ⟨M0, hM0⟩ : ∃ M0, M0 = 2 ^ i := ⟨_, rfl⟩
      have hsh : IntKind.u64.wrap (2 ^ i) = (M0 : Int) := by rw [hM0]; exact shl_u64b (by omega)
      have HFS : Hid (Follow x isSil i M0 [i]) := Lib.hid (by rw [hM0]; exact follow_start hlt')
      clear hM0
      have HO := Lib.hid hO
      clear hO
      go_upto_region 5 with fail
      refine wp_region_ext 5 (factsOf []) (fun k => ([[], [0], [], [], [3], [0, 1, 2, 3, 4], [0, 1, 2, 3, 4, 5]] : List (List Nat)).getD k []) (by kernel_rfl) (by kernel_rfl) Ext.pre (mono_nil) ?_
      simp only [List.take_succ_cons, List.take_zero]
      repeat (first | (with_reducible refine lexL_quiet' (v := ?_) ?_ ?_ ?_ ?_; rotate_left; (· with_reducible rfl); (· simp [factsOf]); (· intro w1 hw1 _; go_simp; with_reducible rfl); (try simp only [Act.put, List.setIfInBounds_toArray, List.set_cons_zero, List.set_cons_succ])) | (with_reducible refine lexL_skip ?_ ?_; (· simp [Region.wanted, yielded, undef]); (try simp only [Act.put, List.setIfInBounds_toArray, List.set_cons_zero, List.set_cons_succ])) | (with_reducible refine lexL_quiet (v := ?_) ?_ ?_ ?_ ?_; rotate_left; (· simp [Region.wanted, yielded, undef]); (· simp [factsOf]); (· intro w1 hw1 _; go_simp; with_reducible rfl); (try simp only [Act.put, List.setIfInBounds_toArray, List.set_cons_zero, List.set_cons_succ])))
      with_reducible refine lexL_nil ?_; intro w1 hw1 hk1; simp only [List.drop_succ_cons, List.drop_zero]
      clear hk1
      have hO1 := HO.out.trans hw1
      have s1 := cell_own hO1 0 rfl (mV_at (mskH_none x hlt'))
      have s2 := free_own hO1 0 rfl i
      have hO2 := hO1.store 0 rfl i (.int .u64 M0)
      rw [mV_set] at hO2
      have hO2 : OwnL W1 (w1.setCell ⟨c4, i, none⟩ (.int .u64 M0)) [.row 76 1 (.slice (some ⟨c4, 0, none⟩) x.rows.length x.rows.length) x.rows.length (mV (mskM x i M0)), .blk c8 (.cells #[.int .i64 x.ins, .int .i64 x.outs, .slice A x.rows.length c, .slice (some ⟨c4, 0, none⟩) x.rows.length x.rows.length] 73 (0, 0))] := hO2
      have HO2 := Lib.hid hO2
      clear hO1 hO2 c0 k2'
      go_upto_region 6 with fail
      refine wp_named ?_
      intro W5 hW5
      rw [← hW5] at HO2
      have hE5 := Ext.refl W5
      clear hW5 s1 s2 hw1
      have hO3 := HO2.out.winNew 3 1 [.int .i64 (i : Int)] rfl (by decide)
      have HO3 := Lib.hid hO3
      clear hO3
      go_upto_region 7 with fail
      refine wp_named ?_
      intro W6 hW6
      rw [← hW6] at HO3
      have hE6 := Ext.refl W6
      clear hW6
      have hO0 : OwnL W1 W6 [winA W1.heap.size 3 (.slice (some ⟨W5.heap.size, 0, none⟩) 1 1) (wV [i]), .row 76 1 (.slice (some ⟨c4, 0, none⟩) x.rows.length x.rows.length) x.rows.length (mV (mskM x i M0)), .blk c8 (.cells #[.int .i64 x.ins, .int .i64 x.outs, .slice A x.rows.length c, .slice (some ⟨c4, 0, none⟩) x.rows.length x.rows.length] 73 (0, 0))] := HO3.out
      clear HO2 HO3 HO hE5 hE6 hE3 hsh
      go_wp2
      go_loopw [5] (fun qv wr => ∃ (M : Nat) (ws : List Nat), Hid (Follow x isSil i M ws) ∧ OwnL W1 wr [winA W1.heap.size 3 qv (wV ws), .row 76 1 (.slice (some ⟨c4, 0, none⟩) x.rows.length x.rows.length) x.rows.length (mV (mskM x i M)), .blk c8 (.cells #[.int .i64 x.ins, .int .i64 x.outs, .slice A x.rows.length c, .slice (some ⟨c4, 0, none⟩) x.rows.length x.rows.length] 73 (0, 0))]) (fun qv wr => 2 * (x.n - cntM x.n (natOf (wr.cell? ⟨c4, i, none⟩))) + lenV qv)
      case atStart => exact ⟨M0, [i], HFS, hO0⟩
      case round =>
        clear hO0 HFS
        obtain ⟨M, ws, HF, hO⟩ := hrel
        obtain ⟨W8, hW8⟩ : ∃ W, W = wr := ⟨_, rfl⟩; subst hW8
        obtain ⟨g, off, cap, rfl, hwc, hwm, hcq⟩ := hO.queue 0 rfl
        have hcM := cell_own hO 1 rfl (mV_at (mskM_at x M hlt'))
        have HCM := Lib.hid hcM
        cases ws with
        | nil =>
          have hs := Lib.hid (follow_sil HG.out HF.out)
          rw [hs.out, mskM_end x hlt'] at hO
          have HO := Lib.hid hO
          clear hO hcq hcM
          go_wp2
          go_roundw
          case rel => exact ⟨i + 1, by go_num, hlt, HO.out.drop⟩
          case measure => simp [intOf]; omega
        | cons s ws =>
          have hcs := hcq 0 s rfl
          have hsn : s < x.n := mask_bit HF.out.lt (HF.out.inn s (by simp))
          have hsn' : s < x.rows.length := hsn
          obtain ⟨b7, o7, u7', cc7, hA7, _, hc7, hu7⟩ := (HR.out.1.ext HR.out.2).at_ (List.getElem?_eq_getElem hsn')
          injection hA7 with hA7 _ hcc7
          subst hA7 hcc7
          rw [← arcs_eq hsn'] at hu7
          obtain ⟨A9, c9, rfl, _, _, hm9⟩ := id hu7
          unfold lenMax at hm9
          have hc7 := fun w' (h : Ext W8 w') => (hO.ext.trans h).cell hc7
          have hcs : ∀ w', Ext W8 w' → w'.cell? ⟨g, off, none⟩ = some (.int .i64 (s : Int)) := fun w' h => h.cell hcs
          have k2' := fun w' (h : Ext W8 w') => k2 w' (hO.ext.trans h)
          have hE8 := Ext.refl W8
          have HU := Lib.hid hu7
          have HO := Lib.hid hO
          have hwl : ws.length + 1 ≤ cap := hwc
          have hpos : (0 : Int) < ((ws.length + 1 : Nat) : Int) := by omega
          have HH := Lib.hid (half_start HF.out)
          clear hO hcq hcM hu7 hwc
          go_upto_region 9 with fail
          refine wp_region_ext 9 (factsOf []) (fun k => ([[], [0], [], [2], [2, 3], [0, 1, 2, 3, 4], [0, 1, 2, 3, 4, 5], [0, 1, 2, 3, 4, 5, 6], []] : List (List Nat)).getD k []) (by kernel_rfl) (by kernel_rfl) Ext.pre (mono_nil) ?_
          simp only [List.take_succ_cons, List.take_zero]
          repeat (first | (with_reducible refine lexL_quiet' (v := ?_) ?_ ?_ ?_ ?_; rotate_left; (· with_reducible rfl); (· simp [factsOf]); (· intro w1 hw1 _; go_simp; with_reducible rfl); (try simp only [Act.put, List.setIfInBounds_toArray, List.set_cons_zero, List.set_cons_succ])) | (with_reducible refine lexL_skip ?_ ?_; (· simp [Region.wanted, yielded, undef]); (try simp only [Act.put, List.setIfInBounds_toArray, List.set_cons_zero, List.set_cons_succ])) | (with_reducible refine lexL_quiet (v := ?_) ?_ ?_ ?_ ?_; rotate_left; (· simp [Region.wanted, yielded, undef]); (· simp [factsOf]); (· intro w1 hw1 _; go_simp; with_reducible rfl); (try simp only [Act.put, List.setIfInBounds_toArray, List.set_cons_zero, List.set_cons_succ])))
          with_reducible refine lexL_nil ?_; intro w1 hw1 hk1; simp only [List.drop_succ_cons, List.drop_zero]
          clear hk1 hc7 hcs k2' hE8
          have hO9 := HO.out.trans hw1
          clear hw1
          go_wp2
          go_loopw [41, 5] (fun jv qv wr => ∃ (j M' : Nat) (ws' : List Nat), jv = .int .i64 j ∧ j ≤ (x.arcs s).length ∧ Hid (Half x isSil i M' s ws' j (2 * (x.n - cntM x.n M) + (ws.length + 1))) ∧ OwnL W1 wr [winA W1.heap.size 3 qv (wV (s :: ws')), .row 76 1 (.slice (some ⟨c4, 0, none⟩) x.rows.length x.rows.length) x.rows.length (mV (mskM x i M')), .blk c8 (.cells #[.int .i64 x.ins, .int .i64 x.outs, .slice (some ⟨b7, o7, none⟩) x.rows.length c, .slice (some ⟨c4, 0, none⟩) x.rows.length x.rows.length] 73 (0, 0))]) (fun jv _ _ => (x.arcs s).length - (intOf jv).toNat)
          case atStart => exact ⟨0, M, ws, rfl, by omega, HH, hO9⟩
          case round =>
            clear hO9
            obtain ⟨j, M', ws', rfl, hj, HF', hO⟩ := hrel
            obtain ⟨W9, hW9⟩ : ∃ W, W = wr := ⟨_, rfl⟩; subst hW9
            obtain ⟨g', off', cap', rfl, hwc', hwm', hcq'⟩ := hO.queue 0 rfl
            have hcM' := cell_own hO 1 rfl (mV_at (mskM_at x M' hlt'))
            have hwc' : ws'.length + 1 ≤ cap' := hwc'
            by_cases hjl : j < (x.arcs s).length
            · obtain ⟨a, ha⟩ : ∃ a, (x.arcs s)[j]? = some a := ⟨_, List.getElem?_eq_getElem hjl⟩
              obtain ⟨b3, o3, c5, hA3, _, a0', a1, a2⟩ := (HU.out.ext hO.ext).at_ ha
              injection hA3 with hA3 _ hcc3
              subst hA3 hcc3
              have HA := Lib.hid ha
              have hto := Lib.hid (HG.out.arc_at (List.mem_of_getElem? ha))
              have hat : a.t = (a.to : Int) := hto.out.2.2.2.1.symm
              have hMl := HG.out.mask HF'.out.fol.lt
              have HK : Hid (isSil a = (a.k == 0)) := Lib.hid rfl
              have ht64 : a.to < 64 := by have := hto.out.2.2.2.2; have := HG.out.nn; omega
              rw [hat] at a2
              have HO9 := Lib.hid hO
              have c0 : W9.cell? ⟨c8, 3, none⟩ = some (.slice (some ⟨c4, 0, none⟩) x.rows.length x.rows.length) := cell_of_blk (hO.get 2 rfl).2 3 rfl
              have c0 := fun w' (h : Ext W9 w') => h.cell c0
              have hcM2 := fun w' (h : Ext W9 w') => h.cell hcM'
              clear hO hcM' hcq' ha
              go_upto_region 12 with fail
              refine wp_named ?_
              intro W10 hW10
              have e10 : Ext W9 W10 := by rw [hW10]; exact alloc_ext _ _
              have m0 : ∀ w', Ext W10 w' → w'.cell? ⟨W9.heap.size, 0, none⟩ = some (.int .u8 a.k) := fun w' h => h.cell (by rw [hW10]; simp [go_sem])
              have m2 : ∀ w', Ext W10 w' → w'.cell? ⟨W9.heap.size, 2, none⟩ = some (.int .i64 (a.to : Int)) := fun w' h => h.cell (by rw [hW10]; simp [go_sem])
              clear hW10 a0' a1 a2 hat
              have c0 := fun w' (h : Ext W10 w') => c0 w' (e10.trans h)
              have hcM2 := fun w' (h : Ext W10 w') => hcM2 w' (e10.trans h)
              have hE10 := Ext.refl W10
              have HE10 := Lib.hid e10
              clear e10
              have HB10 : Hid (c4 ≠ W9.heap.size) := Lib.hid (fun e => by
                have h1 : W9.ownsRow W1.heap.size 76 1 (.slice (some ⟨c4, 0, none⟩) x.rows.length x.rows.length) x.rows.length (mV (mskM x i M')) := HO9.out.get 1 rfl
                have := (h1.lt c4 rfl).2
                omega)
              generalize W9.heap.size = b10 at *
              generalize hT : a.to = T at *
              have HTT := Lib.hid hT
              clear hT
              by_cases hk0 : a.k = 0
              · rw [hk0] at m0
                have hk1' : isSil a = true := by rw [HK.out, hk0]; rfl
                have HK := Lib.hid hk1'
                have htest := shr_test (t := T) hMl
                clear hk0 hk1'
                cases hb : M'.testBit T with
                | true =>
                  rw [hb] at htest
                  have htest : (bits .and .u64 ((M' : Int) / 2 ^ T) 1 == 0) = false := htest
                  have HN := Lib.hid (HF'.out.skip HA.out (fun _ => by rw [HTT.out]; exact hb))
                  clear hb
                  refine wp_region_ext 11 (factsOf []) (fun k => ([[], [0], [0, 1], [0, 1, 2], [0, 1, 2, 3], [0, 1, 2, 3, 4], [0, 1, 2, 3], [0, 1, 2, 3, 4, 5, 6], [0, 1, 2, 3, 4, 5, 6, 7], [0, 1, 2, 3], [0, 1, 2, 3, 9], [0, 1, 2, 3, 4, 5, 6, 7, 8, 9, 10], [0, 1, 2, 3, 4, 5, 6, 7, 8, 9, 10, 11], [0, 1, 2, 3, 4, 5, 6, 7, 8, 9, 10, 11, 12], [0, 1, 2, 3, 4, 5, 6, 7, 8, 9, 10, 11, 12, 13]] : List (List Nat)).getD k []) (by kernel_rfl) (by kernel_rfl) Ext.pre (mono_nil) ?_
                  simp only [List.take_succ_cons, List.take_zero]
                  repeat (first | (with_reducible refine lexL_quiet' (v := ?_) ?_ ?_ ?_ ?_; rotate_left; (· with_reducible rfl); (· simp [factsOf]); (· intro w1 hw1 _; go_simp; with_reducible rfl); (try simp only [Act.put, List.setIfInBounds_toArray, List.set_cons_zero, List.set_cons_succ])) | (with_reducible refine lexL_skip ?_ ?_; (· simp [Region.wanted, yielded, undef]); (try simp only [Act.put, List.setIfInBounds_toArray, List.set_cons_zero, List.set_cons_succ])) | (with_reducible refine lexL_quiet (v := ?_) ?_ ?_ ?_ ?_; rotate_left; (· simp [Region.wanted, yielded, undef]); (· simp [factsOf]); (· intro w1 hw1 _; go_simp; with_reducible rfl); (try simp only [Act.put, List.setIfInBounds_toArray, List.set_cons_zero, List.set_cons_succ])))
                  with_reducible refine lexL_nil ?_; intro w1 hw1 hk1; simp only [List.drop_succ_cons, List.drop_zero]
                  clear hk1
                  go_wp2
                  exact ⟨⟨j + 1, M', ws', by go_num, hjl, HN, HO9.out.trans (HE10.out.trans hw1)⟩, by simp [intOf]; omega⟩
                | false =>
                  rw [hb] at htest
                  have htest : (bits .and .u64 ((M' : Int) / 2 ^ T) 1 == 0) = true := htest
                  have HN : Hid (Half x isSil i (M' ||| 2 ^ T) s (ws' ++ [T]) (j + 1) (2 * (x.n - cntM x.n M) + (ws.length + 1))) := Lib.hid (by
                    have := HF'.out.push HG.out HA.out HK.out (by rw [HTT.out]; exact hb)
                    rw [HTT.out] at this
                    exact this)
                  have hP : 2 ^ T < 18446744073709551616 := Nat.lt_of_lt_of_le (Nat.pow_lt_pow_right (by omega) ht64) (by decide)
                  have hor := or_u64 hMl hP
                  have hsh := shl_u64b ht64
                  have hfew := HF'.out.fol.bound HG.out
                  have hfew : ws'.length + 1 ≤ 129 := hfew
                  clear hb
                  obtain ⟨N, hN⟩ : ∃ N, N = M' ||| 2 ^ T := ⟨_, rfl⟩
                  obtain ⟨P, hPP⟩ : ∃ P, P = 2 ^ T := ⟨_, rfl⟩
                  rw [← hN] at hor HN
                  rw [← hPP] at hor hsh
                  clear hN hPP hP
                  refine wp_region_ext 11 (factsOf []) (fun k => ([[], [0], [0, 1], [0, 1, 2], [0, 1, 2, 3], [0, 1, 2, 3, 4], [0, 1, 2, 3], [0, 1, 2, 3, 4, 5, 6], [0, 1, 2, 3, 4, 5, 6, 7], [0, 1, 2, 3], [0, 1, 2, 3, 9], [0, 1, 2, 3, 4, 5, 6, 7, 8, 9, 10], [0, 1, 2, 3, 4, 5, 6, 7, 8, 9, 10, 11], [0, 1, 2, 3, 4, 5, 6, 7, 8, 9, 10, 11, 12], [0, 1, 2, 3, 4, 5, 6, 7, 8, 9, 10, 11, 12, 13]] : List (List Nat)).getD k []) (by kernel_rfl) (by kernel_rfl) Ext.pre (mono_nil) ?_
                  simp only [List.take_succ_cons, List.take_zero]
                  repeat (first | (with_reducible refine lexL_quiet' (v := ?_) ?_ ?_ ?_ ?_; rotate_left; (· with_reducible rfl); (· simp [factsOf]); (· intro w1 hw1 _; go_simp; with_reducible rfl); (try simp only [Act.put, List.setIfInBounds_toArray, List.set_cons_zero, List.set_cons_succ])) | (with_reducible refine lexL_skip ?_ ?_; (· simp [Region.wanted, yielded, undef]); (try simp only [Act.put, List.setIfInBounds_toArray, List.set_cons_zero, List.set_cons_succ])) | (with_reducible refine lexL_quiet (v := ?_) ?_ ?_ ?_ ?_; rotate_left; (· simp [Region.wanted, yielded, undef]); (· simp [factsOf]); (· intro w1 hw1 _; go_simp; with_reducible rfl); (try simp only [Act.put, List.setIfInBounds_toArray, List.set_cons_zero, List.set_cons_succ])))
                  with_reducible refine lexL_nil ?_; intro w1 hw1 hk1; simp only [List.drop_succ_cons, List.drop_zero]
                  clear hk1
                  have hcM3 := fun w' (h : Ext w1 w') => hcM2 w' (hw1.trans h)
                  have c03 := fun w' (h : Ext w1 w') => c0 w' (hw1.trans h)
                  have m23 := fun w' (h : Ext w1 w') => m2 w' (hw1.trans h)
                  have hE11 := Ext.refl w1
                  have HE11 := Lib.hid (HE10.out.trans hw1)
                  clear hcM2 c0 m2 m0 hw1 htest
                  obtain ⟨W11, hW11⟩ : ∃ W, W = w1 := ⟨_, rfl⟩
                  subst hW11
                  go_upto_region 13 with fail
                  refine wp_region_ext 8 (factsOf []) (fun k => ([[], [0], [], [0, 1, 2], [0, 1, 2, 3], [], [5], [5, 6], [0, 1, 2, 3, 4, 5, 6, 7], [0, 1, 2, 3, 4, 5, 6, 7, 8], [0, 1, 2, 3, 4, 5, 6, 7, 8, 9]] : List (List Nat)).getD k []) (by kernel_rfl) (by kernel_rfl) Ext.pre (mono_nil) ?_
                  simp only [List.take_succ_cons, List.take_zero]
                  repeat (first | (with_reducible refine lexL_quiet' (v := ?_) ?_ ?_ ?_ ?_; rotate_left; (· with_reducible rfl); (· simp [factsOf]); (· intro w1 hw1 _; go_simp; with_reducible rfl); (try simp only [Act.put, List.setIfInBounds_toArray, List.set_cons_zero, List.set_cons_succ])) | (with_reducible refine lexL_skip ?_ ?_; (· simp [Region.wanted, yielded, undef]); (try simp only [Act.put, List.setIfInBounds_toArray, List.set_cons_zero, List.set_cons_succ])) | (with_reducible refine lexL_quiet (v := ?_) ?_ ?_ ?_ ?_; rotate_left; (· simp [Region.wanted, yielded, undef]); (· simp [factsOf]); (· intro w1 hw1 _; go_simp; with_reducible rfl); (try simp only [Act.put, List.setIfInBounds_toArray, List.set_cons_zero, List.set_cons_succ])))
                  with_reducible refine lexL_nil ?_; intro w1 hw1 hk1; simp only [List.drop_succ_cons, List.drop_zero]
                  clear hk1
                  have hO12 := HO9.out.trans (HE11.out.trans hw1)
                  have f1 := free_own hO12 1 rfl i
                  have s1 := cell_own hO12 1 rfl (mV_at (mskM_at x M' hlt'))
                  have hst := hO12.store 1 rfl i (.int .u64 N)
                  rw [mV_set, mskM_set] at hst
                  have HST := Lib.hid hst
                  have m24 := m23 w1 hw1
                  have hne : b10 ≠ c4 := fun e => HB10.out e.symm
                  clear hst hO12 hcM3 c03
                  go_upto_region 14 with fail
                  refine wp_named ?_
                  intro W12 hW12
                  rw [← hW12] at HST
                  have m25 : W12.cell? ⟨b10, 2, none⟩ = some (.int .i64 (T : Int)) := by
                    rw [hW12]
                    exact (World.cell?_of_block (a := ⟨b10, 2, none⟩) (heap_setCell_other w1 ⟨c4, i, none⟩ b10 _ hne)).trans m24
                  clear hW12 m24 s1 f1 hw1 hor hsh
                  have hsz := HST.out.ext.size
                  have hown := (HST.out.trans (alloc_ext W12 (.cells #[.int .i64 (T : Int)] 3))).win 0 rfl
                  go_wp2_with (at_builtin; refine wpList_append_win rfl _ _ 30 rfl W1.heap.size 3 i3 (.int .i64 0) 8 Tryd.underlying30 hi3 hz3 hs3 hb3 rfl (.slice (some ⟨g', off', none⟩) (s :: ws').length cap') (wV (s :: ws')) (.int .i64 (T : Int)) rfl hown ⟨W12.heap.size, 0, none⟩ 1 rfl (cell_of_blk (heap_alloc_new W12 _) 0 rfl) rfl (by rw [wV_len]; unfold maxLen; simp only [List.length_cons]; omega) (by rw [wV_len]; simp only [List.length_cons]; omega) ?_; intro v8 w8 hown8 hg8 hb8)
                  have hO13 := (HST.out.trans (alloc_ext W12 (.cells #[.int .i64 (T : Int)] 3))).winApp 0 rfl hg8 hown8 hb8
                  rw [show wV (s :: ws') ++ [Value.int .i64 (T : Int)] = wV (s :: (ws' ++ [T])) by simp [wV]] at hO13
                  go_roundw
                  case rel => exact ⟨j + 1, N, ws' ++ [T], by go_num, hjl, HN, hO13⟩
                  case measure => simp [intOf]; omega
              · have hk0' : ((a.k : Int) == 0) = false := by simp; omega
                have hk1' : isSil a = false := by rw [HK.out]; simpa using hk0
                have HN := Lib.hid (HF'.out.skip HA.out (by rw [hk1']; intro h; cases h))
                clear hk0 hk1'
                refine wp_region_ext 11 (factsOf []) (fun k => ([[], [0], [0, 1], [0, 1, 2], [0, 1, 2, 3], [0, 1, 2, 3, 4], [0, 1, 2, 3], [0, 1, 2, 3, 4, 5, 6], [0, 1, 2, 3, 4, 5, 6, 7], [0, 1, 2, 3], [0, 1, 2, 3, 9], [0, 1, 2, 3, 4, 5, 6, 7, 8, 9, 10], [0, 1, 2, 3, 4, 5, 6, 7, 8, 9, 10, 11], [0, 1, 2, 3, 4, 5, 6, 7, 8, 9, 10, 11, 12], [0, 1, 2, 3, 4, 5, 6, 7, 8, 9, 10, 11, 12, 13]] : List (List Nat)).getD k []) (by kernel_rfl) (by kernel_rfl) Ext.pre (mono_nil) ?_
                simp only [List.take_succ_cons, List.take_zero]
                repeat (first | (with_reducible refine lexL_quiet' (v := ?_) ?_ ?_ ?_ ?_; rotate_left; (· with_reducible rfl); (· simp [factsOf]); (· intro w1 hw1 _; go_simp; with_reducible rfl); (try simp only [Act.put, List.setIfInBounds_toArray, List.set_cons_zero, List.set_cons_succ])) | (with_reducible refine lexL_skip ?_ ?_; (· simp [Region.wanted, yielded, undef]); (try simp only [Act.put, List.setIfInBounds_toArray, List.set_cons_zero, List.set_cons_succ])) | (with_reducible refine lexL_quiet (v := ?_) ?_ ?_ ?_ ?_; rotate_left; (· simp [Region.wanted, yielded, undef]); (· simp [factsOf]); (· intro w1 hw1 _; go_simp; with_reducible rfl); (try simp only [Act.put, List.setIfInBounds_toArray, List.set_cons_zero, List.set_cons_succ])))
                with_reducible refine lexL_nil ?_; intro w1 hw1 hk1; simp only [List.drop_succ_cons, List.drop_zero]
                clear hk1
                go_wp2
                exact ⟨⟨j + 1, M', ws', by go_num, hjl, HN, HO9.out.trans (HE10.out.trans hw1)⟩, by simp [intOf]; omega⟩
            · obtain rfl : j = (x.arcs s).length := by omega
              have hp := Lib.hid HF'.out.pop
              have hO2 := hO.winTail (x := .int .i64 (s : Int)) (xs := wV ws') 0 (by rw [wV_len]; rfl)
              rw [wV_len] at hO2
              have HO2 := Lib.hid hO2
              have HCM' := Lib.hid hcM'
              clear hO hO2 hcM' hcq'
              by_cases hc1 : cap' = 1
              · subst hc1
                have HO2 := Lib.hid (show OwnL W1 W9 [winA W1.heap.size 3 (.slice (some ⟨g', off', none⟩) ws'.length 0) (wV ws'), .row 76 1 (.slice (some ⟨c4, 0, none⟩) x.rows.length x.rows.length) x.rows.length (mV (mskM x i M')), .blk c8 (.cells #[.int .i64 x.ins, .int .i64 x.outs, .slice (some ⟨b7, o7, none⟩) x.rows.length c, .slice (some ⟨c4, 0, none⟩) x.rows.length x.rows.length] 73 (0, 0))] from HO2.out)
                have hws : ws' = [] := List.length_eq_zero_iff.1 (by omega)
                subst hws
                go_wp2
                go_roundw
                case rel => exact ⟨M', [], Lib.hid hp.out.1, HO2.out⟩
                case measure =>
                  have h1 := hp.out.2
                  simp only [HCM'.out, HCM.out]
                  simp [natOf, lenV]
                  omega
              · have HO2 := Lib.hid (show OwnL W1 W9 [winA W1.heap.size 3 (.slice (some ⟨g', off' + 1, none⟩) ws'.length (cap' - 1)) (wV ws'), .row 76 1 (.slice (some ⟨c4, 0, none⟩) x.rows.length x.rows.length) x.rows.length (mV (mskM x i M')), .blk c8 (.cells #[.int .i64 x.ins, .int .i64 x.outs, .slice (some ⟨b7, o7, none⟩) x.rows.length c, .slice (some ⟨c4, 0, none⟩) x.rows.length x.rows.length] 73 (0, 0))] from by have := HO2.out; rw [if_neg hc1] at this; exact this)
                go_wp2
                go_roundw
                case rel => exact ⟨M', ws', Lib.hid hp.out.1, HO2.out⟩
                case measure =>
                  have h1 := hp.out.2
                  simp only [HCM'.out, HCM.out]
                  simp [natOf, lenV]
                  omega
    · obtain rfl : i = x.rows.length := by omega
      have hb := kb W3 hO.ext
      have hE := hE1.trans hO.ext
      have d0 := cell_of_blk (hO.get 1 rfl).2 0 (u := .int .i64 x.ins) rfl
      have d1 := cell_of_blk (hO.get 1 rfl).2 1 (u := .int .i64 x.outs) rfl
      have d2 := cell_of_blk (hO.get 1 rfl).2 2 (u := .slice A x.rows.length c) rfl
      have d3 := cell_of_blk (hO.get 1 rfl).2 3 (u := .slice (some ⟨c4, 0, none⟩) x.rows.length x.rows.length) rfl
      have hrow : W3.ownsRow W1.heap.size 76 1 (.slice (some ⟨c4, 0, none⟩) x.rows.length x.rows.length) x.rows.length (mV (mskH x x.n)) := hO.get 0 rfl
      rw [mskH_all] at hrow
      have hlt2 := lt_of_block hb
      have hne : c4 ≠ b2 := fun e => by have := (hrow.lt c4 rfl).1; have := HB2.out.2; omega
      have HE := Lib.hid (And.intro hE (And.intro hlt2 (And.intro hrow (And.intro hO.ext hne))))
      clear hO hE hlt2 hrow hne
      go_wp2_with (with_reducible refine wpList_store_blk _ rfl 73 _ _ rfl b2 73 _ _ rfl rfl hb (by kernel_rfl) (by kernel_rfl) (by kernel_rfl) ?_; intro w8 h8 g8)
      refine bodyPost_ret (results_cell_row rfl _ _ b2 73 _ (0, 0) _ (by simp [Act.put]) h8 Tryd.underlying73 rfl (by kernel_rfl)) rfl ?_
      obtain ⟨hE, hlt2, hrow, hOe, hne⟩ := HE.out
      have hE8 : Ext w w8 := Below.grown hE g8 hE.size (fun k hk => by cases hk; rw [hb1]; exact HB2.out.1)
      have hrow8 := ownsRow_of hrow (w' := w8) (fun b hb => by cases hb; exact g8.block c4 (hrow.lt c4 rfl).2 (by simpa using hne))
      obtain ⟨A9, c9, hv9, hnc9, hc9⟩ := cells_of_owns hrow8
      cases hv9
      have hsl : (sils x).length = x.rows.length := by simp [sils, Lts.n]
      refine ⟨c4, rfl, own_mono hrow8 hE1.size, ⟨_, _, rfl, HR.out.1.ext hE8, ⟨_, x.rows.length, by rw [hsl], hc9, by rw [hsl]; exact Nat.le_refl _, by rw [hsl]; unfold lenMax; omega⟩⟩, hE8⟩
theorem prepare_any (w : World) (v : Value) (x : Lts) (hd : LtsV w v x) (hg : Good x) : Calls Tryd.prog 37 #[v] w fun e w' => ∃ v', e = .returned v' ∧ SysV w' v' x ∧ Ext w w' := by
  obtain ⟨A, c, rfl, hr, hlen⟩ := id hd.form
  exact (prepare_own w A c x hd hg).mono fun e w' ⟨g, he, _, hs, hE⟩ => ⟨_, he, hs, hE⟩
end Go.Proofs.YtamodjlifpjaoaaDoor

namespace Go.Proofs.YtamodjlifpjaoaaDoor
open Go.RowKit
set_option linter.unusedVariables false
set_option linter.unusedSimpArgs false
attribute [local go_sem] Oper.quietV quietV Oper.gives givesV ext_refl_iff ext_alloc_iff ext_drew_iff ext_drewN_iff
def cmpI (x y : Int) : Int := if x < y then -1 else if y < x then 1 else 0
theorem nan5 (w : World) (x : Int) : Calls Tryd.prog 72 #[.int .u8 x] w fun e w' => e = .returned (.bool false) ∧ w = w' := by
  go_enter Tryd.func72, Tryd.ntmps72
  go_wp2
  go_ret
  exact ⟨by simp, rfl⟩
theorem nan3 (w : World) (x : Int) : Calls Tryd.prog 73 #[.int .i64 x] w fun e w' => e = .returned (.bool false) ∧ w = w' := by
  go_enter Tryd.func73, Tryd.ntmps73
  go_wp2
  go_ret
  exact ⟨by simp, rfl⟩
theorem cmp5 (w : World) (x y : Int) : Calls Tryd.prog 67 #[.int .u8 x, .int .u8 y] w fun e w' => e = .returned (.int .i64 (cmpI x y)) ∧ w = w' := by
  by_cases h1 : x < y
  · rw [show cmpI x y = -1 from if_pos h1]
    go_enter Tryd.func67, Tryd.ntmps67
    go_wp2_with ((with_reducible refine (nan5 _ _).mono ?_); rintro e w1 ⟨rfl, rfl⟩)
    go_ret
    exact ⟨rfl, rfl⟩
  by_cases h2 : y < x
  · rw [show cmpI x y = 1 from by unfold cmpI; rw [if_neg h1, if_pos h2]]
    go_enter Tryd.func67, Tryd.ntmps67
    go_wp2_with ((with_reducible refine (nan5 _ _).mono ?_); rintro e w1 ⟨rfl, rfl⟩)
    go_ret
    exact ⟨rfl, rfl⟩
  rw [show cmpI x y = 0 from by unfold cmpI; rw [if_neg h1, if_neg h2]]
  go_enter Tryd.func67, Tryd.ntmps67
  go_wp2_with ((with_reducible refine (nan5 _ _).mono ?_); rintro e w1 ⟨rfl, rfl⟩)
  go_ret
  exact ⟨rfl, rfl⟩
theorem cmp3 (w : World) (x y : Int) : Calls Tryd.prog 68 #[.int .i64 x, .int .i64 y] w fun e w' => e = .returned (.int .i64 (cmpI x y)) ∧ w = w' := by
  by_cases h1 : x < y
  · rw [show cmpI x y = -1 from if_pos h1]
    go_enter Tryd.func68, Tryd.ntmps68
    go_wp2_with ((with_reducible refine (nan3 _ _).mono ?_); rintro e w1 ⟨rfl, rfl⟩)
    go_ret
    exact ⟨rfl, rfl⟩
  by_cases h2 : y < x
  · rw [show cmpI x y = 1 from by unfold cmpI; rw [if_neg h1, if_pos h2]]
    go_enter Tryd.func68, Tryd.ntmps68
    go_wp2_with ((with_reducible refine (nan3 _ _).mono ?_); rintro e w1 ⟨rfl, rfl⟩)
    go_ret
    exact ⟨rfl, rfl⟩
  rw [show cmpI x y = 0 from by unfold cmpI; rw [if_neg h1, if_neg h2]]
  go_enter Tryd.func68, Tryd.ntmps68
  go_wp2_with ((with_reducible refine (nan3 _ _).mono ?_); rintro e w1 ⟨rfl, rfl⟩)
  go_ret
  exact ⟨rfl, rfl⟩
def orI : List Int → Int
  | [] => 0
  | x :: xs => if x = 0 then orI xs else x
set_option maxHeartbeats 1000000 in
theorem or_any (w : World) (v : Value) (xs : List Int) (c : Nat) (hv : IntsC w v xs c) : Calls Tryd.prog 66 #[v] w fun e w' => e = .returned (.int .i64 (orI xs)) ∧ w = w' := by
  obtain ⟨A, rfl, ha, _, hx⟩ := hv
  unfold lenMax at hx
  go_enter Tryd.func66, Tryd.ntmps66
  go_wp2
  go_loop [8] (fun i => ∃ k : Nat, k ≤ xs.length ∧ i = .int .i64 k ∧ Hid (orI xs = orI (xs.drop k))) (fun i => xs.length - (intOf i).toNat)
  case atStart => exact ⟨0, by omega, rfl, Lib.hid rfl⟩
  case round =>
    obtain ⟨k, hk, rfl, HP⟩ := hrel
    by_cases hlt : k < xs.length
    · obtain ⟨b, o, rfl, _, c1⟩ := ha.at_int hlt
      have HT : Hid (orI xs = if xs[k] = 0 then orI (xs.drop (k + 1)) else xs[k]) := Lib.hid (by rw [HP.out, List.drop_eq_getElem_cons hlt]; rfl)
      generalize xs[k] = y at *
      by_cases hy : y = 0
      · subst hy
        have hn : Hid (orI xs = orI (xs.drop (k + 1))) := Lib.hid (by rw [HT.out, if_pos rfl])
        go_wp2
        go_round
        case rel => exact ⟨k + 1, by omega, by go_num, hn⟩
        case measure => simp [intOf]; omega
      · have hy1 : (y != 0) = true := by simpa using hy
        have hn : Hid (orI xs = y) := Lib.hid (by rw [HT.out, if_neg hy])
        clear hy
        go_wp2
        go_ret
        exact ⟨by rw [hn.out]; rfl, rfl⟩
    · have hn : Hid (orI xs = 0) := Lib.hid (by rw [HP.out, List.drop_of_length_le (by omega)]; rfl)
      go_wp2
      go_ret
      exact ⟨by rw [hn.out]; rfl, rfl⟩
def cmpA (a b : Arc) : Int := orI [cmpI a.k b.k, cmpI a.l b.l, cmpI a.t b.t]
theorem cmpI_cases (x y : Int) : (cmpI x y = -1 ∧ x < y) ∨ (cmpI x y = 0 ∧ x = y) ∨ (cmpI x y = 1 ∧ y < x) := by
  unfold cmpI
  by_cases h1 : x < y
  · rw [if_pos h1]; exact .inl ⟨rfl, h1⟩
  · rw [if_neg h1]
    by_cases h2 : y < x
    · rw [if_pos h2]; exact .inr (.inr ⟨rfl, h2⟩)
    · rw [if_neg h2]; exact .inr (.inl ⟨rfl, by omega⟩)
theorem orI3 (p q r : Int) : orI [p, q, r] = if p = 0 then if q = 0 then if r = 0 then 0 else r else q else p := rfl
theorem cmpA_iff (a b : Arc) : (decide (0 ≤ cmpA a b)) = !ltA a b := by
  unfold cmpA ltA
  rw [orI3]
  rcases cmpI_cases a.k b.k with ⟨e1, h1⟩ | ⟨e1, h1⟩ | ⟨e1, h1⟩ <;> rw [e1]
  · rw [if_neg (by omega), decide_eq_false (by omega), decide_eq_true (.inl (by omega))]; rfl
  · rw [if_pos rfl]
    rcases cmpI_cases a.l b.l with ⟨e2, h2⟩ | ⟨e2, h2⟩ | ⟨e2, h2⟩ <;> rw [e2]
    · rw [if_neg (by omega), decide_eq_false (by omega), decide_eq_true (.inr ⟨by omega, .inl h2⟩)]; rfl
    · rw [if_pos rfl]
      rcases cmpI_cases a.t b.t with ⟨e3, h3⟩ | ⟨e3, h3⟩ | ⟨e3, h3⟩ <;> rw [e3]
      · rw [if_neg (by omega), decide_eq_false (by omega), decide_eq_true (.inr ⟨by omega, .inr ⟨h2, h3⟩⟩)]; rfl
      · rw [if_pos rfl, decide_eq_true (by omega), decide_eq_false (by omega)]; rfl
      · rw [if_neg (by omega), decide_eq_true (by omega), decide_eq_false (by omega)]; rfl
    · rw [if_neg (by omega), decide_eq_true (by omega), decide_eq_false (by omega)]; rfl
  · rw [if_neg (by omega), decide_eq_true (by omega), decide_eq_false (by omega)]; rfl
def arcV (a : Arc) : Value := .agg #[.int .u8 a.k, .int .i64 a.l, .int .i64 a.t]
def FitX (xs : List Int) (v : Value) (w : World) : Prop := FitC w v xs
theorem stays_fitX (xs : List Int) : Stays Ext (FitX xs) := fun v w w' hE h => IntsC.ext h hE
theorem fit_new3 (w : World) (x y z : Int) : FitC (w.alloc (.cells #[.int .i64 x, .int .i64 y, .int .i64 z] 3)) (.slice (some ⟨w.heap.size, 0, none⟩) 3 3) [x, y, z] :=
  ints_blk (n := 3) (heap_alloc_new w _) rfl rfl (by omega)
set_option maxRecDepth 100000 in
set_option maxHeartbeats 4000000 in
theorem compare_any (w : World) (a b : Arc) : Calls Tryd.prog 59 #[arcV a, arcV b] w fun e w' => e = .returned (.int .i64 (cmpA a b)) ∧ Ext w w' := by
  unfold arcV
  go_enter Tryd.func59, Tryd.ntmps59
  go_upto_region 1 with fail
  refine wp_named ?_
  intro W1 hW1
  have hE1 : Ext w W1 := by rw [hW1]; exact ((Ext.refl _).alloc _).alloc _
  have k0 : ∀ w', Ext W1 w' → w'.cell? ⟨w.heap.size, 0, none⟩ = some (.int .u8 a.k) := fun w' h => h.cell (by rw [hW1]; simp [go_sem])
  have k1 : ∀ w', Ext W1 w' → w'.cell? ⟨w.heap.size, 1, none⟩ = some (.int .i64 a.l) := fun w' h => h.cell (by rw [hW1]; simp [go_sem])
  have k2 : ∀ w', Ext W1 w' → w'.cell? ⟨w.heap.size, 2, none⟩ = some (.int .i64 a.t) := fun w' h => h.cell (by rw [hW1]; simp [go_sem])
  have l0 : ∀ w', Ext W1 w' → w'.cell? ⟨w.heap.size + 1, 0, none⟩ = some (.int .u8 b.k) := fun w' h => h.cell (by rw [hW1]; simp [go_sem])
  have l1 : ∀ w', Ext W1 w' → w'.cell? ⟨w.heap.size + 1, 1, none⟩ = some (.int .i64 b.l) := fun w' h => h.cell (by rw [hW1]; simp [go_sem])
  have l2 : ∀ w', Ext W1 w' → w'.cell? ⟨w.heap.size + 1, 2, none⟩ = some (.int .i64 b.t) := fun w' h => h.cell (by rw [hW1]; simp [go_sem])
  clear hW1
  have hE0 := Ext.refl W1
  obtain ⟨p, hp⟩ : ∃ p, p = cmpI a.k b.k := ⟨_, rfl⟩
  obtain ⟨q, hq⟩ : ∃ q, q = cmpI a.l b.l := ⟨_, rfl⟩
  obtain ⟨r, hr⟩ : ∃ r, r = cmpI a.t b.t := ⟨_, rfl⟩
  have HR : Hid (cmpA a b = orI [p, q, r]) := Lib.hid (by rw [hp, hq, hr]; rfl)
  have c1 := fun w => cmp5 w a.k b.k
  have c2 := fun w => cmp3 w a.l b.l
  have c3 := fun w => cmp3 w a.t b.t
  rw [← hp] at c1
  rw [← hq] at c2
  rw [← hr] at c3
  clear hp hq hr
  refine wp_region_ext 14 (factsOf [(4, fun v _ => v = .int .i64 p), (9, fun v _ => v = .int .i64 q), (14, fun v _ => v = .int .i64 r)]) (fun k => ([[], [0], [], [2], [0, 1, 2, 3], [], [5], [], [7], [0, 1, 2, 3, 4, 5, 6, 7, 8], [], [10], [], [12], [0, 1, 2, 3, 4, 5, 6, 7, 8, 9, 10, 11, 12, 13], [0, 1, 2, 3, 4, 5, 6, 7, 8, 9, 10, 11, 12, 13, 14], [0, 1, 2, 3, 4, 5, 6, 7, 8, 9, 10, 11, 12, 13, 14, 15], [0, 1, 2, 3, 4, 5, 6, 7, 8, 9, 10, 11, 12, 13, 14, 15, 16]] : List (List Nat)).getD k []) (by kernel_rfl) (by kernel_rfl) Ext.pre (mono_cons (stays_eq _) (mono_cons (stays_eq _) (mono_cons (stays_eq _) (mono_nil)))) ?_
  simp only [List.take_succ_cons, List.take_zero]
  repeat (first | (with_reducible refine lexL_quiet' (v := ?_) ?_ ?_ ?_ ?_; rotate_left; (· with_reducible rfl); (· simp [factsOf]); (· intro w1 hw1 _; go_simp; with_reducible rfl); (try simp only [Act.put, List.setIfInBounds_toArray, List.set_cons_zero, List.set_cons_succ])) | (with_reducible refine lexL_skip ?_ ?_; (· simp [Region.wanted, yielded, undef]); (try simp only [Act.put, List.setIfInBounds_toArray, List.set_cons_zero, List.set_cons_succ])) | (with_reducible refine lexL_quiet (v := ?_) ?_ ?_ ?_ ?_; rotate_left; (· simp [Region.wanted, yielded, undef]); (· simp [factsOf]); (· intro w1 hw1 _; go_simp; with_reducible rfl); (try simp only [Act.put, List.setIfInBounds_toArray, List.set_cons_zero, List.set_cons_succ])))
  with_reducible refine lexL_give' (φ := ?_) ?_ ?_ ?_ ?_; rotate_left; (· with_reducible rfl); (· simp only [factsOf, Nat.reduceAdd, ↓reduceIte, Nat.reduceEqDiff]; rfl)
  · intro w5 hw5 _
    go_simp
    refine (c1 w5).mono ?_
    rintro e w6 ⟨rfl, rfl⟩
    exact ⟨_, rfl, Ext.refl _, rfl⟩
  rintro v7 w5 hw5 rfl hk2
  clear hk2 hw5 w5
  (try simp only [Act.put, List.setIfInBounds_toArray, List.set_cons_zero, List.set_cons_succ])
  repeat (first | (with_reducible refine lexL_quiet' (v := ?_) ?_ ?_ ?_ ?_; rotate_left; (· with_reducible rfl); (· simp [factsOf]); (· intro w1 hw1 _; go_simp; with_reducible rfl); (try simp only [Act.put, List.setIfInBounds_toArray, List.set_cons_zero, List.set_cons_succ])) | (with_reducible refine lexL_skip ?_ ?_; (· simp [Region.wanted, yielded, undef]); (try simp only [Act.put, List.setIfInBounds_toArray, List.set_cons_zero, List.set_cons_succ])) | (with_reducible refine lexL_quiet (v := ?_) ?_ ?_ ?_ ?_; rotate_left; (· simp [Region.wanted, yielded, undef]); (· simp [factsOf]); (· intro w1 hw1 _; go_simp; with_reducible rfl); (try simp only [Act.put, List.setIfInBounds_toArray, List.set_cons_zero, List.set_cons_succ])))
  with_reducible refine lexL_give' (φ := ?_) ?_ ?_ ?_ ?_; rotate_left; (· with_reducible rfl); (· simp only [factsOf, Nat.reduceAdd, ↓reduceIte, Nat.reduceEqDiff]; rfl)
  · intro w5 hw5 _
    go_simp
    refine (c2 w5).mono ?_
    rintro e w6 ⟨rfl, rfl⟩
    exact ⟨_, rfl, Ext.refl _, rfl⟩
  rintro v7 w5 hw5 rfl hk2
  clear hk2 hw5 w5
  (try simp only [Act.put, List.setIfInBounds_toArray, List.set_cons_zero, List.set_cons_succ])
  repeat (first | (with_reducible refine lexL_quiet' (v := ?_) ?_ ?_ ?_ ?_; rotate_left; (· with_reducible rfl); (· simp [factsOf]); (· intro w1 hw1 _; go_simp; with_reducible rfl); (try simp only [Act.put, List.setIfInBounds_toArray, List.set_cons_zero, List.set_cons_succ])) | (with_reducible refine lexL_skip ?_ ?_; (· simp [Region.wanted, yielded, undef]); (try simp only [Act.put, List.setIfInBounds_toArray, List.set_cons_zero, List.set_cons_succ])) | (with_reducible refine lexL_quiet (v := ?_) ?_ ?_ ?_ ?_; rotate_left; (· simp [Region.wanted, yielded, undef]); (· simp [factsOf]); (· intro w1 hw1 _; go_simp; with_reducible rfl); (try simp only [Act.put, List.setIfInBounds_toArray, List.set_cons_zero, List.set_cons_succ])))
  with_reducible refine lexL_nil ?_; intro w1 hw1 hk1; simp only [List.drop_succ_cons, List.drop_zero]
  clear hk1
  have hor := or_any (w1.alloc (.cells #[.int .i64 p, .int .i64 q, .int .i64 r] 3)) _ _ _ (fit_new3 w1 p q r)
  go_wp2_with (first
    | ((with_reducible refine (c3 _).mono ?_); rintro e w6 ⟨rfl, rfl⟩)
    | ((with_reducible refine hor.mono ?_); rintro e w6 ⟨rfl, rfl⟩))
  go_ret
  exact ⟨by rw [HR.out]; rfl, hE1.trans (hw1.trans (alloc_ext _ _))⟩
end Go.Proofs.YtamodjlifpjaoaaDoor

namespace Go.Proofs.YtamodjlifpjaoaaDoor
open Go.RowKit
set_option linter.unusedVariables false
set_option linter.unusedSimpArgs false
attribute [local go_sem] Oper.quietV quietV Oper.gives givesV ext_refl_iff ext_alloc_iff ext_drew_iff ext_drewN_iff
def longR (r : List Arc) : Bool := decide (256 < r.length)
theorem long_any (w : World) (v : Value) (r : List Arc) (hv : ArcsC w v r) : Calls Tryd.prog 58 #[v] w fun e w' => e = .returned (.bool (longR r)) ∧ w = w' := by
  obtain ⟨A, c, rfl, _, _, hm⟩ := id hv
  unfold lenMax at hm
  unfold longR
  by_cases h : 256 < r.length
  · rw [decide_eq_true h]
    have hI : (256 : Int) < (r.length : Int) := by omega
    go_enter Tryd.func58, Tryd.ntmps58
    go_wp2
    go_ret
    exact ⟨rfl, rfl⟩
  · rw [decide_eq_false h]
    have hI : ¬ (256 : Int) < (r.length : Int) := by omega
    go_enter Tryd.func58, Tryd.ntmps58
    go_wp2
    go_ret
    exact ⟨rfl, rfl⟩
def IdxW (w : World) (b : Bool) (e : Ending) (w' : World) : Prop := ∃ i : Int, e = .returned (.int .i64 i) ∧ decide (0 ≤ i) = b ∧ w = w'
set_option maxRecDepth 100000 in
set_option maxHeartbeats 1000000 in
theorem rindex_any (w : World) (v : Value) (l : List (List Arc)) (hv : ARowsC w v l) : Calls Tryd.prog 65 #[v, .func (.func 58) #[] #[]] w (IdxW w (l.any longR)) := by
  obtain ⟨A, c, vs, rfl, _, _, _, _, hm⟩ := id hv
  unfold lenMax at hm
  go_enter Tryd.func65, Tryd.ntmps65
  go_wp2_with (fail)
  go_loop [8] (fun i => ∃ k : Nat, k ≤ l.length ∧ i = .int .i64 k ∧ Hid ((l.take k).any longR = false)) (fun i => l.length - (intOf i).toNat)
  case atStart => exact ⟨0, by omega, rfl, Lib.hid (by simp)⟩
  case round =>
    obtain ⟨k, hk, rfl, HP⟩ := hrel
    by_cases hlt : k < l.length
    · obtain ⟨y, hy⟩ : ∃ y, l[k]? = some y := ⟨_, List.getElem?_eq_getElem hlt⟩
      obtain ⟨b, o, u, c', hvv, _, c0, hu⟩ := hv.at_ hy
      injection hvv with hvv _ hcc
      subst hvv hcc
      have HT := Lib.hid (any_take (p := longR) hy)
      have HM := Lib.hid (any_of_get (p := longR) hy)
      have hc := long_any w u y hu
      obtain ⟨A3, c3, rfl, _⟩ := id hu
      clear hy hu
      cases hq : longR y with
      | false =>
        rw [hq] at hc
        have hn : Hid ((l.take (k + 1)).any longR = false) := Lib.hid (by rw [HT.out, HP.out, hq]; rfl)
        clear hq
        go_wp2_with ((with_reducible refine hc.mono ?_); rintro e w1 ⟨rfl, rfl⟩)
        go_round
        case rel => exact ⟨k + 1, by omega, by go_num, hn⟩
        case measure => simp [intOf]; omega
      | true =>
        rw [hq] at hc
        have hn : Hid (l.any longR = true) := Lib.hid (HM.out hq)
        clear hq
        go_wp2_with ((with_reducible refine hc.mono ?_); rintro e w1 ⟨rfl, rfl⟩)
        go_ret
        exact ⟨k, rfl, by rw [hn.out]; simp, rfl⟩
    · have hn : Hid (l.any longR = false) := Lib.hid (any_full (by omega) HP.out)
      go_wp2
      go_ret
      exact ⟨-1, rfl, by rw [hn.out]; rfl, rfl⟩
theorem rcontains_any (w : World) (v : Value) (l : List (List Arc)) (hv : ARowsC w v l) : Calls Tryd.prog 57 #[v, .func (.func 58) #[] #[]] w fun e w' => e = .returned (.bool (l.any longR)) ∧ w = w' := by
  have hc := rindex_any w v l hv
  unfold IdxW at hc
  go_enter Tryd.func57, Tryd.ntmps57
  go_wp2_with ((with_reducible refine hc.mono ?_); rintro e w1 ⟨i, rfl, hi, rfl⟩; have hi := Lib.hid hi)
  go_ret
  exact ⟨by rw [← hi.out]; rfl, rfl⟩
theorem badAt_eq {i o n : Int} {r : List Arc} {j : Nat} {a : Arc} (ha : r[j]? = some a) : badAt i o n r j = (badA i o n a || (decide (0 < j) && !ltA (r.getD (j - 1) a0) a)) := by
  unfold badAt
  rw [List.getD_eq_getElem?_getD (i := j), ha]; rfl
theorem badRow_yes {i o n : Int} {r : List Arc} {j : Nat} (hj : j < r.length) (h : badAt i o n r j = true) : badRow i o n r = true := List.any_eq_true.2 ⟨j, List.mem_range.2 hj, h⟩
theorem badRow_no {i o n : Int} {r : List Arc} (h : ∀ j, j < r.length → badAt i o n r j = false) : badRow i o n r = false := by
  unfold badRow
  rw [List.any_eq_false]
  intro j hj
  rw [h j (List.mem_range.1 hj)]; simp
set_option maxRecDepth 100000 in
set_option maxHeartbeats 8000000 in
theorem check_any (w : World) (v : Value) (x : Lts) (hd : LtsV w v x) : Calls Tryd.prog 35 #[v] w fun e w' => e = .returned (.int .i64 (checkI x)) ∧ Ext w w' := by
  obtain ⟨A, c, rfl, hr, hlen⟩ := hd.form
  go_enter Tryd.func35, Tryd.ntmps35
  go_upto_region 1 with fail
  refine wp_named ?_
  intro W1 hW1
  have hE1 : Ext w W1 := by rw [hW1]; exact (Ext.refl _).alloc _
  have k0 : ∀ w', Ext W1 w' → w'.cell? ⟨w.heap.size, 0, none⟩ = some (.int .i64 x.ins) := fun w' h => h.cell (by rw [hW1]; simp [go_sem])
  have k1 : ∀ w', Ext W1 w' → w'.cell? ⟨w.heap.size, 1, none⟩ = some (.int .i64 x.outs) := fun w' h => h.cell (by rw [hW1]; simp [go_sem])
  have k2 : ∀ w', Ext W1 w' → w'.cell? ⟨w.heap.size, 2, none⟩ = some (.slice A x.rows.length c) := fun w' h => h.cell (by rw [hW1]; simp [go_sem])
  clear hW1
  have hE0 := Ext.refl W1
  have hcall := rcontains_any W1 _ x.rows (hr.ext hE1)
  have HB : Hid (bigX x = (decide (16 < x.ins ∨ 16 < x.outs ∨ 64 < x.rows.length) || x.rows.any longR)) := Lib.hid rfl
  have HC : Hid (checkI x = if bigX x then 3 else if x.ins < 0 ∨ x.outs < 0 ∨ x.rows.length < 1 then 1 else if x.rows.any (badRow x.ins x.outs x.rows.length) then 1 else 0) := Lib.hid rfl
  clear hd
  by_cases h1 : 16 < x.ins
  · have H : Hid (checkI x = 3) := Lib.hid (by rw [HC.out, HB.out, decide_eq_true (.inl h1)]; rfl)
    go_wp2
    go_ret
    exact ⟨by rw [H.out]; rfl, hE1⟩
  by_cases h2 : 16 < x.outs
  · have H : Hid (checkI x = 3) := Lib.hid (by rw [HC.out, HB.out, decide_eq_true (.inr (.inl h2))]; rfl)
    go_wp2
    go_ret
    exact ⟨by rw [H.out]; rfl, hE1⟩
  by_cases h3 : 64 < x.rows.length
  · have H : Hid (checkI x = 3) := Lib.hid (by rw [HC.out, HB.out, decide_eq_true (.inr (.inr h3))]; rfl)
    go_wp2
    go_ret
    exact ⟨by rw [H.out]; rfl, hE1⟩
  have HB : Hid (bigX x = x.rows.any longR) := Lib.hid (by rw [HB.out, decide_eq_false (by omega)]; rfl)
  cases hlr : x.rows.any longR with
  | true =>
    rw [hlr] at hcall
    have H : Hid (checkI x = 3) := Lib.hid (by rw [HC.out, HB.out, hlr]; rfl)
    clear hlr
    go_wp2_with ((with_reducible refine hcall.mono ?_); rintro e w1 ⟨rfl, rfl⟩)
    go_ret
    exact ⟨by rw [H.out]; rfl, hE1⟩
  | false =>
    rw [hlr] at hcall
    have HC : Hid (checkI x = if x.ins < 0 ∨ x.outs < 0 ∨ x.rows.length < 1 then 1 else if x.rows.any (badRow x.ins x.outs x.rows.length) then 1 else 0) := Lib.hid (by rw [HC.out, HB.out, hlr]; rfl)
    clear hlr
    by_cases h4 : x.ins < 0
    · have H : Hid (checkI x = 1) := Lib.hid (by rw [HC.out, if_pos (.inl h4)])
      go_wp2_with ((with_reducible refine hcall.mono ?_); rintro e w1 ⟨rfl, rfl⟩)
      go_ret
      exact ⟨by rw [H.out]; rfl, hE1⟩
    by_cases h5 : x.outs < 0
    · have H : Hid (checkI x = 1) := Lib.hid (by rw [HC.out, if_pos (.inr (.inl h5))])
      go_wp2_with ((with_reducible refine hcall.mono ?_); rintro e w1 ⟨rfl, rfl⟩)
      go_ret
      exact ⟨by rw [H.out]; rfl, hE1⟩
    by_cases h6 : x.rows.length < 1
    · have H : Hid (checkI x = 1) := Lib.hid (by rw [HC.out, if_pos (.inr (.inr h6))])
      go_wp2_with ((with_reducible refine hcall.mono ?_); rintro e w1 ⟨rfl, rfl⟩)
      go_ret
      exact ⟨by rw [H.out]; rfl, hE1⟩
    have HC : Hid (checkI x = if x.rows.any (badRow x.ins x.outs x.rows.length) then 1 else 0) := Lib.hid (by rw [HC.out, if_neg (by omega)])
    go_upto_region 6 with (first
      | ((with_reducible refine hcall.mono ?_); rintro e w1 ⟨rfl, rfl⟩)
      | (with_reducible refine wpList_store_blk _ rfl 69 _ _ rfl W1.heap.size 69 _ _ rfl rfl (heap_alloc_new _ _) (by kernel_rfl) (by kernel_rfl) (by kernel_rfl) ?_; intro W3 h3 g3))
    have hE3 : Ext W1 W3 := Below.grown (alloc_ext W1 _) g3 (alloc_ext W1 _).size (fun k hk => by cases hk; exact Nat.le_refl _)
    have l0 : ∀ w', Ext W3 w' → w'.cell? ⟨W1.heap.size, 0, none⟩ = some (.int .i64 1) := fun w' h => h.cell (cell_of_blk h3 0 rfl)
    have l1 : ∀ w', Ext W3 w' → w'.cell? ⟨W1.heap.size, 1, none⟩ = some (.int .i64 x.ins) := fun w' h => h.cell (cell_of_blk h3 1 rfl)
    have l2 : ∀ w', Ext W3 w' → w'.cell? ⟨W1.heap.size, 2, none⟩ = some (.int .i64 x.outs) := fun w' h => h.cell (cell_of_blk h3 2 rfl)
    have HH := Lib.hid (And.intro hr hE1)
    clear h3 g3 hcall hr
    generalize W1.heap.size = b3 at *
    go_wp2
    go_loopw [49] (fun iv wr => ∃ i : Nat, iv = .int .i64 i ∧ i ≤ x.rows.length ∧ Hid ((x.rows.take i).any (badRow x.ins x.outs x.rows.length) = false) ∧ Ext W3 wr) (fun iv _ => x.rows.length - (intOf iv).toNat)
    case atStart => exact ⟨0, rfl, by omega, Lib.hid (by simp), Ext.refl _⟩
    case round =>
      obtain ⟨i, rfl, hi, HP, hE⟩ := hrel
      obtain ⟨W4, hW4⟩ : ∃ W, W = wr := ⟨_, rfl⟩; subst hW4
      by_cases hlt : i < x.rows.length
      · obtain ⟨r, hri⟩ : ∃ r, x.rows[i]? = some r := ⟨_, List.getElem?_eq_getElem hlt⟩
        obtain ⟨b, o, u, c', hvv, _, c0, hu⟩ := (HH.out.1.ext (HH.out.2.trans (hE3.trans hE))).at_ hri
        injection hvv with hvv _ hcc
        subst hvv hcc
        obtain ⟨A5, c5, rfl, _, _, hrm⟩ := id hu
        unfold lenMax at hrm
        have HT := Lib.hid (any_take (p := badRow x.ins x.outs x.rows.length) hri)
        have HM := Lib.hid (any_of_get (p := badRow x.ins x.outs x.rows.length) hri)
        have HU := Lib.hid hu
        have HE := Lib.hid hE
        have c0 := fun w' (h : Ext W4 w') => h.cell c0
        have k0 := fun w' (h : Ext W4 w') => k0 w' (hE3.trans (hE.trans h))
        have k1 := fun w' (h : Ext W4 w') => k1 w' (hE3.trans (hE.trans h))
        have k2 := fun w' (h : Ext W4 w') => k2 w' (hE3.trans (hE.trans h))
        have l0 := fun w' (h : Ext W4 w') => l0 w' (hE.trans h)
        have l1 := fun w' (h : Ext W4 w') => l1 w' (hE.trans h)
        have l2 := fun w' (h : Ext W4 w') => l2 w' (hE.trans h)
        have hE4 := Ext.refl W4
        clear hri hu hE
        go_wp2
        go_loopw [55] (fun jv wr => ∃ j : Nat, jv = .int .i64 j ∧ j ≤ r.length ∧ Hid (∀ t, t < j → badAt x.ins x.outs x.rows.length r t = false) ∧ Ext W4 wr) (fun jv _ => r.length - (intOf jv).toNat)
        case atStart => exact ⟨0, rfl, by omega, Lib.hid (fun t ht => by omega), Ext.refl _⟩
        case round =>
          obtain ⟨j, rfl, hj, HQ, hE⟩ := hrel
          obtain ⟨W5, hW5⟩ : ∃ W, W = wr := ⟨_, rfl⟩; subst hW5
          by_cases hjl : j < r.length
          · obtain ⟨a, haj⟩ : ∃ a, r[j]? = some a := ⟨_, List.getElem?_eq_getElem hjl⟩
            obtain ⟨b5, o5, c6, hv5, _, a0', a1, a2⟩ := (HU.out.ext hE).at_ haj
            injection hv5 with hv5 _ hc6
            subst hv5 hc6
            have hbadT : Hid (badAt x.ins x.outs x.rows.length r j = (badA x.ins x.outs x.rows.length a || (decide (0 < j) && !ltA (r.getD (j - 1) a0) a))) := Lib.hid (badAt_eq haj)
            have hyes : Hid (badAt x.ins x.outs x.rows.length r j = true → checkI x = 1) := Lib.hid (fun h => by rw [HC.out, HM.out (badRow_yes hjl h)]; rfl)
            have hno : Hid (badAt x.ins x.outs x.rows.length r j = false → ∀ t, t < j + 1 → badAt x.ins x.outs x.rows.length r t = false) := Lib.hid (fun h t ht => by
              rcases Nat.lt_or_ge t j with h1 | h1
              · exact HQ.out t h1
              · obtain rfl : t = j := by omega
                exact h)
            have HA : Hid (badA x.ins x.outs x.rows.length a = decide (2 < a.k ∨ a.l < 0 ∨ labN x.ins x.outs a.k ≤ a.l ∨ a.t < 0 ∨ (x.rows.length : Int) ≤ a.t)) := Lib.hid rfl
            have HEE := Lib.hid (hE1.trans (hE3.trans (HE.out.trans hE)))
            have HE5 := Lib.hid hE
            have HAJ := Lib.hid haj
            clear haj
            go_upto_region 12 with fail
            refine wp_named ?_
            intro W6 hW6
            have e6 : Ext W5 W6 := by rw [hW6]; exact alloc_ext _ _
            have m0 : ∀ w', Ext W6 w' → w'.cell? ⟨W5.heap.size, 0, none⟩ = some (.int .u8 a.k) := fun w' h => h.cell (by rw [hW6]; simp [go_sem])
            have m1 : ∀ w', Ext W6 w' → w'.cell? ⟨W5.heap.size, 1, none⟩ = some (.int .i64 a.l) := fun w' h => h.cell (by rw [hW6]; simp [go_sem])
            have m2 : ∀ w', Ext W6 w' → w'.cell? ⟨W5.heap.size, 2, none⟩ = some (.int .i64 a.t) := fun w' h => h.cell (by rw [hW6]; simp [go_sem])
            clear hW6 a0' a1 a2
            have k2 := fun w' (h : Ext W6 w') => k2 w' (hE.trans (e6.trans h))
            have l0 := fun w' (h : Ext W6 w') => l0 w' (hE.trans (e6.trans h))
            have l1 := fun w' (h : Ext W6 w') => l1 w' (hE.trans (e6.trans h))
            have l2 := fun w' (h : Ext W6 w') => l2 w' (hE.trans (e6.trans h))
            have hE6 := Ext.refl W6
            have HE6 := Lib.hid e6
            clear k0 k1 c0 e6 hE
            generalize W5.heap.size = b6 at *
            generalize hak : a.k = ak at *
            generalize hal : a.l = al at *
            generalize hat : a.t = at' at *
            have HAV : Hid (a.k = ak ∧ a.l = al ∧ a.t = at') := Lib.hid ⟨hak, hal, hat⟩
            clear hak hal hat
            by_cases c1 : (2 : Int) < (ak : Int)
            · have H := Lib.hid (hyes.out (by rw [hbadT.out, HA.out, decide_eq_true (.inl (by omega))]; rfl))
              refine wp_region_ext 40 (factsOf []) (fun k => ([[], [0], [0, 1], [0, 1, 2], [0, 1, 2, 3], [0, 1, 2, 3, 4], [0, 1, 2, 3, 4, 5], [0, 1, 2, 3, 4, 5, 6], [0, 1, 2, 3, 4, 5, 6, 7], [0, 1, 2, 3, 4, 5, 6, 7, 8], [0, 1, 2, 3, 4, 5, 6, 7, 8, 9], [0, 1, 2, 3, 4, 5, 6, 7, 8], [0, 1, 2, 3, 4, 5, 6, 7, 8, 11], [0, 1, 2, 3, 4, 5, 6, 7, 8, 11, 12], [0, 1, 2, 3, 4, 5, 6, 7, 8, 11, 12, 13], [0, 1, 2, 3, 4, 5, 6, 7, 8, 9, 10, 11, 12, 13, 14], [0, 1, 2, 3, 4, 5, 6, 7, 8, 9, 10, 11, 12, 13, 14, 15], [0, 1, 2, 3, 4, 5, 6, 7, 8, 9, 10, 11, 12, 13, 14, 15, 16], [0, 1, 2, 3, 4, 5, 6, 7, 8, 9, 10, 11, 12, 13, 14, 15, 16, 17], [0, 1, 2, 3, 4, 5, 6, 7, 8, 9, 10, 11, 12, 13, 14, 15, 16, 17, 18], [0, 1, 2, 3, 4, 5, 6, 7, 8, 9, 10, 11, 12, 13, 14, 15, 16, 17, 18, 19], [0, 1, 2, 3, 4, 5, 6, 7, 8, 9, 10, 11, 12, 13, 14, 15, 16, 17, 18, 19, 20], [0, 1, 2, 3, 4, 5, 6, 7, 8, 9, 10, 11, 12, 13, 14, 15, 16, 17, 18, 19, 20, 21], [0, 1, 2, 3, 4, 5, 6, 7, 8, 9, 10, 11, 12, 13, 14, 15, 16, 17, 18, 19, 20, 21, 22], [0, 1, 2, 3, 4, 5, 6, 7, 8, 9, 10, 11, 12, 13, 14, 15, 16, 17, 18, 19, 20, 21, 22, 23], [0, 1, 2, 3, 4, 5, 6, 7, 8, 9, 10, 11, 12, 13, 14, 15, 16, 17, 18, 19, 20, 21, 22], [0, 1, 2, 3, 4, 5, 6, 7, 8, 9, 10, 11, 12, 13, 14, 15, 16, 17, 18, 19, 20, 21, 22, 25], [0, 1, 2, 3, 4, 5, 6, 7, 8, 9, 10, 11, 12, 13, 14, 15, 16, 17, 18, 19, 20, 21, 22, 25, 26], [0, 1, 2, 3, 4, 5, 6, 7, 8, 9, 10, 11, 12, 13, 14, 15, 16, 17, 18, 19, 20, 21, 22, 23, 24, 25, 26, 27], [0, 1, 2, 3, 4, 5, 6, 7, 8, 9, 10, 11, 12, 13, 14, 15, 16, 17, 18, 19, 20, 21, 22, 23, 24, 25, 26, 27, 28], [0, 1, 2, 3, 4, 5, 6, 7, 8, 9, 10, 11, 12, 13, 14, 15, 16, 17, 18, 19, 20, 21, 22, 23, 24, 25, 26, 27, 28, 29], [0, 1, 2, 3, 4, 5, 6, 7, 8, 9, 10, 11, 12, 13, 14, 15, 16, 17, 18, 19, 20, 21, 22, 23, 24, 25, 26, 27, 28, 29, 30], [0, 1, 2, 3, 4, 5, 6, 7, 8, 9, 10, 11, 12, 13, 14, 15, 16, 17, 18, 19, 20, 21, 22, 23, 24, 25, 26, 27, 28, 29, 30, 31], [0, 1, 2, 3, 4, 5, 6, 7, 8, 9, 10, 11, 12, 13, 14, 15, 16, 17, 18, 19, 20, 21, 22, 23, 24, 25, 26, 27, 28, 29, 30, 31, 32], [0, 1, 2, 3, 4, 5, 6, 7, 8, 9, 10, 11, 12, 13, 14, 15, 16, 17, 18, 19, 20, 21, 22, 23, 24, 25, 26, 27, 28, 29, 30, 31, 32, 33], [0, 1, 2, 3, 4, 5, 6, 7, 8, 9, 10, 11, 12, 13, 14, 15, 16, 17, 18, 19, 20, 21, 22, 23, 24, 25, 26, 27, 28, 29, 30, 31, 32, 33], [0, 1, 2, 3, 4, 5, 6, 7, 8, 9, 10, 11, 12, 13, 14, 15, 16, 17, 18, 19, 20, 21, 22, 23, 24, 25, 26, 27, 28, 29, 30, 31, 32, 33, 35], [0, 1, 2, 3, 4, 5, 6, 7, 8, 9, 10, 11, 12, 13, 14, 15, 16, 17, 18, 19, 20, 21, 22, 23, 24, 25, 26, 27, 28, 29, 30, 31, 32, 33, 34, 35, 36], [0, 1, 2, 3, 4, 5, 6, 7, 8, 9, 10, 11, 12, 13, 14, 15, 16, 17, 18, 19, 20, 21, 22, 23, 24, 25, 26, 27, 28, 29, 30, 31, 32, 33, 34, 35, 36, 37], [0, 1, 2, 3, 4, 5, 6, 7, 8, 9, 10, 11, 12, 13, 14, 15, 16, 17, 18, 19, 20, 21, 22, 23, 24, 25, 26, 27, 28, 29, 30, 31, 32, 33], [0, 1, 2, 3, 4, 5, 6, 7, 8, 9, 10, 11, 12, 13, 14, 15, 16, 17, 18, 19, 20, 21, 22, 23, 24, 25, 26, 27, 28, 29, 30, 31, 32, 33, 34, 35, 36, 37, 38, 39], [0, 1, 2, 3, 4, 5, 6, 7, 8, 9, 10, 11, 12, 13, 14, 15, 16, 17, 18, 19, 20, 21, 22, 23, 24, 25, 26, 27, 28, 29, 30, 31, 32, 33, 34, 35, 36, 37, 38, 39, 40], [0, 1, 2, 3, 4, 5, 6, 7, 8, 9, 10, 11, 12, 13, 14, 15, 16, 17, 18, 19, 20, 21, 22, 23, 24, 25, 26, 27, 28, 29, 30, 31, 32, 33, 34, 35, 36, 37, 38, 39, 40, 41], [0, 1, 2, 3, 4, 5, 6, 7, 8, 9, 10, 11, 12, 13, 14, 15, 16, 17, 18, 19, 20, 21, 22, 23, 24, 25, 26, 27, 28, 29, 30, 31, 32, 33, 34, 35, 36, 37, 38, 39, 40, 41, 42]] : List (List Nat)).getD k []) (by kernel_rfl) (by kernel_rfl) Ext.pre (mono_nil) ?_
              simp only [List.take_succ_cons, List.take_zero]
              repeat (first | (with_reducible refine lexL_quiet' (v := ?_) ?_ ?_ ?_ ?_; rotate_left; (· with_reducible rfl); (· simp [factsOf]); (· intro w1 hw1 _; go_simp; with_reducible rfl); (try simp only [Act.put, List.setIfInBounds_toArray, List.set_cons_zero, List.set_cons_succ])) | (with_reducible refine lexL_skip ?_ ?_; (· simp [Region.wanted, yielded, undef]); (try simp only [Act.put, List.setIfInBounds_toArray, List.set_cons_zero, List.set_cons_succ])) | (with_reducible refine lexL_quiet (v := ?_) ?_ ?_ ?_ ?_; rotate_left; (· simp [Region.wanted, yielded, undef]); (· simp [factsOf]); (· intro w1 hw1 _; go_simp; with_reducible rfl); (try simp only [Act.put, List.setIfInBounds_toArray, List.set_cons_zero, List.set_cons_succ])))
              with_reducible refine lexL_nil ?_; intro w1 hw1 hk1; simp only [List.drop_succ_cons, List.drop_zero]
              clear hk1
              go_wp2
              go_ret
              exact ⟨by rw [H.out]; rfl, HEE.out.trans (HE6.out.trans hw1)⟩
            have c1' : ak = 0 ∨ ak = 1 ∨ ak = 2 := by omega
            by_cases c2 : al < 0
            · have H := Lib.hid (hyes.out (by rw [hbadT.out, HA.out, decide_eq_true (.inr (.inl c2))]; rfl))
              refine wp_region_ext 40 (factsOf []) (fun k => ([[], [0], [0, 1], [0, 1, 2], [0, 1, 2, 3], [0, 1, 2, 3, 4], [0, 1, 2, 3, 4, 5], [0, 1, 2, 3, 4, 5, 6], [0, 1, 2, 3, 4, 5, 6, 7], [0, 1, 2, 3, 4, 5, 6, 7, 8], [0, 1, 2, 3, 4, 5, 6, 7, 8, 9], [0, 1, 2, 3, 4, 5, 6, 7, 8], [0, 1, 2, 3, 4, 5, 6, 7, 8, 11], [0, 1, 2, 3, 4, 5, 6, 7, 8, 11, 12], [0, 1, 2, 3, 4, 5, 6, 7, 8, 11, 12, 13], [0, 1, 2, 3, 4, 5, 6, 7, 8, 9, 10, 11, 12, 13, 14], [0, 1, 2, 3, 4, 5, 6, 7, 8, 9, 10, 11, 12, 13, 14, 15], [0, 1, 2, 3, 4, 5, 6, 7, 8, 9, 10, 11, 12, 13, 14, 15, 16], [0, 1, 2, 3, 4, 5, 6, 7, 8, 9, 10, 11, 12, 13, 14, 15, 16, 17], [0, 1, 2, 3, 4, 5, 6, 7, 8, 9, 10, 11, 12, 13, 14, 15, 16, 17, 18], [0, 1, 2, 3, 4, 5, 6, 7, 8, 9, 10, 11, 12, 13, 14, 15, 16, 17, 18, 19], [0, 1, 2, 3, 4, 5, 6, 7, 8, 9, 10, 11, 12, 13, 14, 15, 16, 17, 18, 19, 20], [0, 1, 2, 3, 4, 5, 6, 7, 8, 9, 10, 11, 12, 13, 14, 15, 16, 17, 18, 19, 20, 21], [0, 1, 2, 3, 4, 5, 6, 7, 8, 9, 10, 11, 12, 13, 14, 15, 16, 17, 18, 19, 20, 21, 22], [0, 1, 2, 3, 4, 5, 6, 7, 8, 9, 10, 11, 12, 13, 14, 15, 16, 17, 18, 19, 20, 21, 22, 23], [0, 1, 2, 3, 4, 5, 6, 7, 8, 9, 10, 11, 12, 13, 14, 15, 16, 17, 18, 19, 20, 21, 22], [0, 1, 2, 3, 4, 5, 6, 7, 8, 9, 10, 11, 12, 13, 14, 15, 16, 17, 18, 19, 20, 21, 22, 25], [0, 1, 2, 3, 4, 5, 6, 7, 8, 9, 10, 11, 12, 13, 14, 15, 16, 17, 18, 19, 20, 21, 22, 25, 26], [0, 1, 2, 3, 4, 5, 6, 7, 8, 9, 10, 11, 12, 13, 14, 15, 16, 17, 18, 19, 20, 21, 22, 23, 24, 25, 26, 27], [0, 1, 2, 3, 4, 5, 6, 7, 8, 9, 10, 11, 12, 13, 14, 15, 16, 17, 18, 19, 20, 21, 22, 23, 24, 25, 26, 27, 28], [0, 1, 2, 3, 4, 5, 6, 7, 8, 9, 10, 11, 12, 13, 14, 15, 16, 17, 18, 19, 20, 21, 22, 23, 24, 25, 26, 27, 28, 29], [0, 1, 2, 3, 4, 5, 6, 7, 8, 9, 10, 11, 12, 13, 14, 15, 16, 17, 18, 19, 20, 21, 22, 23, 24, 25, 26, 27, 28, 29, 30], [0, 1, 2, 3, 4, 5, 6, 7, 8, 9, 10, 11, 12, 13, 14, 15, 16, 17, 18, 19, 20, 21, 22, 23, 24, 25, 26, 27, 28, 29, 30, 31], [0, 1, 2, 3, 4, 5, 6, 7, 8, 9, 10, 11, 12, 13, 14, 15, 16, 17, 18, 19, 20, 21, 22, 23, 24, 25, 26, 27, 28, 29, 30, 31, 32], [0, 1, 2, 3, 4, 5, 6, 7, 8, 9, 10, 11, 12, 13, 14, 15, 16, 17, 18, 19, 20, 21, 22, 23, 24, 25, 26, 27, 28, 29, 30, 31, 32, 33], [0, 1, 2, 3, 4, 5, 6, 7, 8, 9, 10, 11, 12, 13, 14, 15, 16, 17, 18, 19, 20, 21, 22, 23, 24, 25, 26, 27, 28, 29, 30, 31, 32, 33], [0, 1, 2, 3, 4, 5, 6, 7, 8, 9, 10, 11, 12, 13, 14, 15, 16, 17, 18, 19, 20, 21, 22, 23, 24, 25, 26, 27, 28, 29, 30, 31, 32, 33, 35], [0, 1, 2, 3, 4, 5, 6, 7, 8, 9, 10, 11, 12, 13, 14, 15, 16, 17, 18, 19, 20, 21, 22, 23, 24, 25, 26, 27, 28, 29, 30, 31, 32, 33, 34, 35, 36], [0, 1, 2, 3, 4, 5, 6, 7, 8, 9, 10, 11, 12, 13, 14, 15, 16, 17, 18, 19, 20, 21, 22, 23, 24, 25, 26, 27, 28, 29, 30, 31, 32, 33, 34, 35, 36, 37], [0, 1, 2, 3, 4, 5, 6, 7, 8, 9, 10, 11, 12, 13, 14, 15, 16, 17, 18, 19, 20, 21, 22, 23, 24, 25, 26, 27, 28, 29, 30, 31, 32, 33], [0, 1, 2, 3, 4, 5, 6, 7, 8, 9, 10, 11, 12, 13, 14, 15, 16, 17, 18, 19, 20, 21, 22, 23, 24, 25, 26, 27, 28, 29, 30, 31, 32, 33, 34, 35, 36, 37, 38, 39], [0, 1, 2, 3, 4, 5, 6, 7, 8, 9, 10, 11, 12, 13, 14, 15, 16, 17, 18, 19, 20, 21, 22, 23, 24, 25, 26, 27, 28, 29, 30, 31, 32, 33, 34, 35, 36, 37, 38, 39, 40], [0, 1, 2, 3, 4, 5, 6, 7, 8, 9, 10, 11, 12, 13, 14, 15, 16, 17, 18, 19, 20, 21, 22, 23, 24, 25, 26, 27, 28, 29, 30, 31, 32, 33, 34, 35, 36, 37, 38, 39, 40, 41], [0, 1, 2, 3, 4, 5, 6, 7, 8, 9, 10, 11, 12, 13, 14, 15, 16, 17, 18, 19, 20, 21, 22, 23, 24, 25, 26, 27, 28, 29, 30, 31, 32, 33, 34, 35, 36, 37, 38, 39, 40, 41, 42]] : List (List Nat)).getD k []) (by kernel_rfl) (by kernel_rfl) Ext.pre (mono_nil) ?_
              simp only [List.take_succ_cons, List.take_zero]
              repeat (first | (with_reducible refine lexL_quiet' (v := ?_) ?_ ?_ ?_ ?_; rotate_left; (· with_reducible rfl); (· simp [factsOf]); (· intro w1 hw1 _; go_simp; with_reducible rfl); (try simp only [Act.put, List.setIfInBounds_toArray, List.set_cons_zero, List.set_cons_succ])) | (with_reducible refine lexL_skip ?_ ?_; (· simp [Region.wanted, yielded, undef]); (try simp only [Act.put, List.setIfInBounds_toArray, List.set_cons_zero, List.set_cons_succ])) | (with_reducible refine lexL_quiet (v := ?_) ?_ ?_ ?_ ?_; rotate_left; (· simp [Region.wanted, yielded, undef]); (· simp [factsOf]); (· intro w1 hw1 _; go_simp; with_reducible rfl); (try simp only [Act.put, List.setIfInBounds_toArray, List.set_cons_zero, List.set_cons_succ])))
              with_reducible refine lexL_nil ?_; intro w1 hw1 hk1; simp only [List.drop_succ_cons, List.drop_zero]
              clear hk1
              go_wp2
              go_ret
              exact ⟨by rw [H.out]; rfl, HEE.out.trans (HE6.out.trans hw1)⟩
            have hlab : ∀ w', Ext W6 w' → w'.cell? ⟨b3, ak, none⟩ = some (.int .i64 (labN x.ins x.outs ak)) := fun w' h => by
              rcases c1' with rfl | rfl | rfl
              · exact l0 w' h
              · exact l1 w' h
              · exact l2 w' h
            have hak3 : (ak : Int) < 3 := by omega
            have hak4 : ak < 3 := by omega
            clear c1' l0 l1 l2
            generalize labN x.ins x.outs ak = L at *
            by_cases c3 : L ≤ al
            · have H := Lib.hid (hyes.out (by rw [hbadT.out, HA.out, decide_eq_true (.inr (.inr (.inl c3)))]; rfl))
              refine wp_region_ext 40 (factsOf []) (fun k => ([[], [0], [0, 1], [0, 1, 2], [0, 1, 2, 3], [0, 1, 2, 3, 4], [0, 1, 2, 3, 4, 5], [0, 1, 2, 3, 4, 5, 6], [0, 1, 2, 3, 4, 5, 6, 7], [0, 1, 2, 3, 4, 5, 6, 7, 8], [0, 1, 2, 3, 4, 5, 6, 7, 8, 9], [0, 1, 2, 3, 4, 5, 6, 7, 8], [0, 1, 2, 3, 4, 5, 6, 7, 8, 11], [0, 1, 2, 3, 4, 5, 6, 7, 8, 11, 12], [0, 1, 2, 3, 4, 5, 6, 7, 8, 11, 12, 13], [0, 1, 2, 3, 4, 5, 6, 7, 8, 9, 10, 11, 12, 13, 14], [0, 1, 2, 3, 4, 5, 6, 7, 8, 9, 10, 11, 12, 13, 14, 15], [0, 1, 2, 3, 4, 5, 6, 7, 8, 9, 10, 11, 12, 13, 14, 15, 16], [0, 1, 2, 3, 4, 5, 6, 7, 8, 9, 10, 11, 12, 13, 14, 15, 16, 17], [0, 1, 2, 3, 4, 5, 6, 7, 8, 9, 10, 11, 12, 13, 14, 15, 16, 17, 18], [0, 1, 2, 3, 4, 5, 6, 7, 8, 9, 10, 11, 12, 13, 14, 15, 16, 17, 18, 19], [0, 1, 2, 3, 4, 5, 6, 7, 8, 9, 10, 11, 12, 13, 14, 15, 16, 17, 18, 19, 20], [0, 1, 2, 3, 4, 5, 6, 7, 8, 9, 10, 11, 12, 13, 14, 15, 16, 17, 18, 19, 20, 21], [0, 1, 2, 3, 4, 5, 6, 7, 8, 9, 10, 11, 12, 13, 14, 15, 16, 17, 18, 19, 20, 21, 22], [0, 1, 2, 3, 4, 5, 6, 7, 8, 9, 10, 11, 12, 13, 14, 15, 16, 17, 18, 19, 20, 21, 22, 23], [0, 1, 2, 3, 4, 5, 6, 7, 8, 9, 10, 11, 12, 13, 14, 15, 16, 17, 18, 19, 20, 21, 22], [0, 1, 2, 3, 4, 5, 6, 7, 8, 9, 10, 11, 12, 13, 14, 15, 16, 17, 18, 19, 20, 21, 22, 25], [0, 1, 2, 3, 4, 5, 6, 7, 8, 9, 10, 11, 12, 13, 14, 15, 16, 17, 18, 19, 20, 21, 22, 25, 26], [0, 1, 2, 3, 4, 5, 6, 7, 8, 9, 10, 11, 12, 13, 14, 15, 16, 17, 18, 19, 20, 21, 22, 23, 24, 25, 26, 27], [0, 1, 2, 3, 4, 5, 6, 7, 8, 9, 10, 11, 12, 13, 14, 15, 16, 17, 18, 19, 20, 21, 22, 23, 24, 25, 26, 27, 28], [0, 1, 2, 3, 4, 5, 6, 7, 8, 9, 10, 11, 12, 13, 14, 15, 16, 17, 18, 19, 20, 21, 22, 23, 24, 25, 26, 27, 28, 29], [0, 1, 2, 3, 4, 5, 6, 7, 8, 9, 10, 11, 12, 13, 14, 15, 16, 17, 18, 19, 20, 21, 22, 23, 24, 25, 26, 27, 28, 29, 30], [0, 1, 2, 3, 4, 5, 6, 7, 8, 9, 10, 11, 12, 13, 14, 15, 16, 17, 18, 19, 20, 21, 22, 23, 24, 25, 26, 27, 28, 29, 30, 31], [0, 1, 2, 3, 4, 5, 6, 7, 8, 9, 10, 11, 12, 13, 14, 15, 16, 17, 18, 19, 20, 21, 22, 23, 24, 25, 26, 27, 28, 29, 30, 31, 32], [0, 1, 2, 3, 4, 5, 6, 7, 8, 9, 10, 11, 12, 13, 14, 15, 16, 17, 18, 19, 20, 21, 22, 23, 24, 25, 26, 27, 28, 29, 30, 31, 32, 33], [0, 1, 2, 3, 4, 5, 6, 7, 8, 9, 10, 11, 12, 13, 14, 15, 16, 17, 18, 19, 20, 21, 22, 23, 24, 25, 26, 27, 28, 29, 30, 31, 32, 33], [0, 1, 2, 3, 4, 5, 6, 7, 8, 9, 10, 11, 12, 13, 14, 15, 16, 17, 18, 19, 20, 21, 22, 23, 24, 25, 26, 27, 28, 29, 30, 31, 32, 33, 35], [0, 1, 2, 3, 4, 5, 6, 7, 8, 9, 10, 11, 12, 13, 14, 15, 16, 17, 18, 19, 20, 21, 22, 23, 24, 25, 26, 27, 28, 29, 30, 31, 32, 33, 34, 35, 36], [0, 1, 2, 3, 4, 5, 6, 7, 8, 9, 10, 11, 12, 13, 14, 15, 16, 17, 18, 19, 20, 21, 22, 23, 24, 25, 26, 27, 28, 29, 30, 31, 32, 33, 34, 35, 36, 37], [0, 1, 2, 3, 4, 5, 6, 7, 8, 9, 10, 11, 12, 13, 14, 15, 16, 17, 18, 19, 20, 21, 22, 23, 24, 25, 26, 27, 28, 29, 30, 31, 32, 33], [0, 1, 2, 3, 4, 5, 6, 7, 8, 9, 10, 11, 12, 13, 14, 15, 16, 17, 18, 19, 20, 21, 22, 23, 24, 25, 26, 27, 28, 29, 30, 31, 32, 33, 34, 35, 36, 37, 38, 39], [0, 1, 2, 3, 4, 5, 6, 7, 8, 9, 10, 11, 12, 13, 14, 15, 16, 17, 18, 19, 20, 21, 22, 23, 24, 25, 26, 27, 28, 29, 30, 31, 32, 33, 34, 35, 36, 37, 38, 39, 40], [0, 1, 2, 3, 4, 5, 6, 7, 8, 9, 10, 11, 12, 13, 14, 15, 16, 17, 18, 19, 20, 21, 22, 23, 24, 25, 26, 27, 28, 29, 30, 31, 32, 33, 34, 35, 36, 37, 38, 39, 40, 41], [0, 1, 2, 3, 4, 5, 6, 7, 8, 9, 10, 11, 12, 13, 14, 15, 16, 17, 18, 19, 20, 21, 22, 23, 24, 25, 26, 27, 28, 29, 30, 31, 32, 33, 34, 35, 36, 37, 38, 39, 40, 41, 42]] : List (List Nat)).getD k []) (by kernel_rfl) (by kernel_rfl) Ext.pre (mono_nil) ?_
              simp only [List.take_succ_cons, List.take_zero]
              repeat (first | (with_reducible refine lexL_quiet' (v := ?_) ?_ ?_ ?_ ?_; rotate_left; (· with_reducible rfl); (· simp [factsOf]); (· intro w1 hw1 _; go_simp; with_reducible rfl); (try simp only [Act.put, List.setIfInBounds_toArray, List.set_cons_zero, List.set_cons_succ])) | (with_reducible refine lexL_skip ?_ ?_; (· simp [Region.wanted, yielded, undef]); (try simp only [Act.put, List.setIfInBounds_toArray, List.set_cons_zero, List.set_cons_succ])) | (with_reducible refine lexL_quiet (v := ?_) ?_ ?_ ?_ ?_; rotate_left; (· simp [Region.wanted, yielded, undef]); (· simp [factsOf]); (· intro w1 hw1 _; go_simp; with_reducible rfl); (try simp only [Act.put, List.setIfInBounds_toArray, List.set_cons_zero, List.set_cons_succ])))
              with_reducible refine lexL_nil ?_; intro w1 hw1 hk1; simp only [List.drop_succ_cons, List.drop_zero]
              clear hk1
              go_wp2
              go_ret
              exact ⟨by rw [H.out]; rfl, HEE.out.trans (HE6.out.trans hw1)⟩
            by_cases c4 : at' < 0
            · have H := Lib.hid (hyes.out (by rw [hbadT.out, HA.out, decide_eq_true (.inr (.inr (.inr (.inl c4))))]; rfl))
              refine wp_region_ext 40 (factsOf []) (fun k => ([[], [0], [0, 1], [0, 1, 2], [0, 1, 2, 3], [0, 1, 2, 3, 4], [0, 1, 2, 3, 4, 5], [0, 1, 2, 3, 4, 5, 6], [0, 1, 2, 3, 4, 5, 6, 7], [0, 1, 2, 3, 4, 5, 6, 7, 8], [0, 1, 2, 3, 4, 5, 6, 7, 8, 9], [0, 1, 2, 3, 4, 5, 6, 7, 8], [0, 1, 2, 3, 4, 5, 6, 7, 8, 11], [0, 1, 2, 3, 4, 5, 6, 7, 8, 11, 12], [0, 1, 2, 3, 4, 5, 6, 7, 8, 11, 12, 13], [0, 1, 2, 3, 4, 5, 6, 7, 8, 9, 10, 11, 12, 13, 14], [0, 1, 2, 3, 4, 5, 6, 7, 8, 9, 10, 11, 12, 13, 14, 15], [0, 1, 2, 3, 4, 5, 6, 7, 8, 9, 10, 11, 12, 13, 14, 15, 16], [0, 1, 2, 3, 4, 5, 6, 7, 8, 9, 10, 11, 12, 13, 14, 15, 16, 17], [0, 1, 2, 3, 4, 5, 6, 7, 8, 9, 10, 11, 12, 13, 14, 15, 16, 17, 18], [0, 1, 2, 3, 4, 5, 6, 7, 8, 9, 10, 11, 12, 13, 14, 15, 16, 17, 18, 19], [0, 1, 2, 3, 4, 5, 6, 7, 8, 9, 10, 11, 12, 13, 14, 15, 16, 17, 18, 19, 20], [0, 1, 2, 3, 4, 5, 6, 7, 8, 9, 10, 11, 12, 13, 14, 15, 16, 17, 18, 19, 20, 21], [0, 1, 2, 3, 4, 5, 6, 7, 8, 9, 10, 11, 12, 13, 14, 15, 16, 17, 18, 19, 20, 21, 22], [0, 1, 2, 3, 4, 5, 6, 7, 8, 9, 10, 11, 12, 13, 14, 15, 16, 17, 18, 19, 20, 21, 22, 23], [0, 1, 2, 3, 4, 5, 6, 7, 8, 9, 10, 11, 12, 13, 14, 15, 16, 17, 18, 19, 20, 21, 22], [0, 1, 2, 3, 4, 5, 6, 7, 8, 9, 10, 11, 12, 13, 14, 15, 16, 17, 18, 19, 20, 21, 22, 25], [0, 1, 2, 3, 4, 5, 6, 7, 8, 9, 10, 11, 12, 13, 14, 15, 16, 17, 18, 19, 20, 21, 22, 25, 26], [0, 1, 2, 3, 4, 5, 6, 7, 8, 9, 10, 11, 12, 13, 14, 15, 16, 17, 18, 19, 20, 21, 22, 23, 24, 25, 26, 27], [0, 1, 2, 3, 4, 5, 6, 7, 8, 9, 10, 11, 12, 13, 14, 15, 16, 17, 18, 19, 20, 21, 22, 23, 24, 25, 26, 27, 28], [0, 1, 2, 3, 4, 5, 6, 7, 8, 9, 10, 11, 12, 13, 14, 15, 16, 17, 18, 19, 20, 21, 22, 23, 24, 25, 26, 27, 28, 29], [0, 1, 2, 3, 4, 5, 6, 7, 8, 9, 10, 11, 12, 13, 14, 15, 16, 17, 18, 19, 20, 21, 22, 23, 24, 25, 26, 27, 28, 29, 30], [0, 1, 2, 3, 4, 5, 6, 7, 8, 9, 10, 11, 12, 13, 14, 15, 16, 17, 18, 19, 20, 21, 22, 23, 24, 25, 26, 27, 28, 29, 30, 31], [0, 1, 2, 3, 4, 5, 6, 7, 8, 9, 10, 11, 12, 13, 14, 15, 16, 17, 18, 19, 20, 21, 22, 23, 24, 25, 26, 27, 28, 29, 30, 31, 32], [0, 1, 2, 3, 4, 5, 6, 7, 8, 9, 10, 11, 12, 13, 14, 15, 16, 17, 18, 19, 20, 21, 22, 23, 24, 25, 26, 27, 28, 29, 30, 31, 32, 33], [0, 1, 2, 3, 4, 5, 6, 7, 8, 9, 10, 11, 12, 13, 14, 15, 16, 17, 18, 19, 20, 21, 22, 23, 24, 25, 26, 27, 28, 29, 30, 31, 32, 33], [0, 1, 2, 3, 4, 5, 6, 7, 8, 9, 10, 11, 12, 13, 14, 15, 16, 17, 18, 19, 20, 21, 22, 23, 24, 25, 26, 27, 28, 29, 30, 31, 32, 33, 35], [0, 1, 2, 3, 4, 5, 6, 7, 8, 9, 10, 11, 12, 13, 14, 15, 16, 17, 18, 19, 20, 21, 22, 23, 24, 25, 26, 27, 28, 29, 30, 31, 32, 33, 34, 35, 36], [0, 1, 2, 3, 4, 5, 6, 7, 8, 9, 10, 11, 12, 13, 14, 15, 16, 17, 18, 19, 20, 21, 22, 23, 24, 25, 26, 27, 28, 29, 30, 31, 32, 33, 34, 35, 36, 37], [0, 1, 2, 3, 4, 5, 6, 7, 8, 9, 10, 11, 12, 13, 14, 15, 16, 17, 18, 19, 20, 21, 22, 23, 24, 25, 26, 27, 28, 29, 30, 31, 32, 33], [0, 1, 2, 3, 4, 5, 6, 7, 8, 9, 10, 11, 12, 13, 14, 15, 16, 17, 18, 19, 20, 21, 22, 23, 24, 25, 26, 27, 28, 29, 30, 31, 32, 33, 34, 35, 36, 37, 38, 39], [0, 1, 2, 3, 4, 5, 6, 7, 8, 9, 10, 11, 12, 13, 14, 15, 16, 17, 18, 19, 20, 21, 22, 23, 24, 25, 26, 27, 28, 29, 30, 31, 32, 33, 34, 35, 36, 37, 38, 39, 40], [0, 1, 2, 3, 4, 5, 6, 7, 8, 9, 10, 11, 12, 13, 14, 15, 16, 17, 18, 19, 20, 21, 22, 23, 24, 25, 26, 27, 28, 29, 30, 31, 32, 33, 34, 35, 36, 37, 38, 39, 40, 41], [0, 1, 2, 3, 4, 5, 6, 7, 8, 9, 10, 11, 12, 13, 14, 15, 16, 17, 18, 19, 20, 21, 22, 23, 24, 25, 26, 27, 28, 29, 30, 31, 32, 33, 34, 35, 36, 37, 38, 39, 40, 41, 42]] : List (List Nat)).getD k []) (by kernel_rfl) (by kernel_rfl) Ext.pre (mono_nil) ?_
              simp only [List.take_succ_cons, List.take_zero]
              repeat (first | (with_reducible refine lexL_quiet' (v := ?_) ?_ ?_ ?_ ?_; rotate_left; (· with_reducible rfl); (· simp [factsOf]); (· intro w1 hw1 _; go_simp; with_reducible rfl); (try simp only [Act.put, List.setIfInBounds_toArray, List.set_cons_zero, List.set_cons_succ])) | (with_reducible refine lexL_skip ?_ ?_; (· simp [Region.wanted, yielded, undef]); (try simp only [Act.put, List.setIfInBounds_toArray, List.set_cons_zero, List.set_cons_succ])) | (with_reducible refine lexL_quiet (v := ?_) ?_ ?_ ?_ ?_; rotate_left; (· simp [Region.wanted, yielded, undef]); (· simp [factsOf]); (· intro w1 hw1 _; go_simp; with_reducible rfl); (try simp only [Act.put, List.setIfInBounds_toArray, List.set_cons_zero, List.set_cons_succ])))
              with_reducible refine lexL_nil ?_; intro w1 hw1 hk1; simp only [List.drop_succ_cons, List.drop_zero]
              clear hk1
              go_wp2
              go_ret
              exact ⟨by rw [H.out]; rfl, HEE.out.trans (HE6.out.trans hw1)⟩
            by_cases c5 : (x.rows.length : Int) ≤ at'
            · have H := Lib.hid (hyes.out (by rw [hbadT.out, HA.out, decide_eq_true (.inr (.inr (.inr (.inr c5))))]; rfl))
              refine wp_region_ext 40 (factsOf []) (fun k => ([[], [0], [0, 1], [0, 1, 2], [0, 1, 2, 3], [0, 1, 2, 3, 4], [0, 1, 2, 3, 4, 5], [0, 1, 2, 3, 4, 5, 6], [0, 1, 2, 3, 4, 5, 6, 7], [0, 1, 2, 3, 4, 5, 6, 7, 8], [0, 1, 2, 3, 4, 5, 6, 7, 8, 9], [0, 1, 2, 3, 4, 5, 6, 7, 8], [0, 1, 2, 3, 4, 5, 6, 7, 8, 11], [0, 1, 2, 3, 4, 5, 6, 7, 8, 11, 12], [0, 1, 2, 3, 4, 5, 6, 7, 8, 11, 12, 13], [0, 1, 2, 3, 4, 5, 6, 7, 8, 9, 10, 11, 12, 13, 14], [0, 1, 2, 3, 4, 5, 6, 7, 8, 9, 10, 11, 12, 13, 14, 15], [0, 1, 2, 3, 4, 5, 6, 7, 8, 9, 10, 11, 12, 13, 14, 15, 16], [0, 1, 2, 3, 4, 5, 6, 7, 8, 9, 10, 11, 12, 13, 14, 15, 16, 17], [0, 1, 2, 3, 4, 5, 6, 7, 8, 9, 10, 11, 12, 13, 14, 15, 16, 17, 18], [0, 1, 2, 3, 4, 5, 6, 7, 8, 9, 10, 11, 12, 13, 14, 15, 16, 17, 18, 19], [0, 1, 2, 3, 4, 5, 6, 7, 8, 9, 10, 11, 12, 13, 14, 15, 16, 17, 18, 19, 20], [0, 1, 2, 3, 4, 5, 6, 7, 8, 9, 10, 11, 12, 13, 14, 15, 16, 17, 18, 19, 20, 21], [0, 1, 2, 3, 4, 5, 6, 7, 8, 9, 10, 11, 12, 13, 14, 15, 16, 17, 18, 19, 20, 21, 22], [0, 1, 2, 3, 4, 5, 6, 7, 8, 9, 10, 11, 12, 13, 14, 15, 16, 17, 18, 19, 20, 21, 22, 23], [0, 1, 2, 3, 4, 5, 6, 7, 8, 9, 10, 11, 12, 13, 14, 15, 16, 17, 18, 19, 20, 21, 22], [0, 1, 2, 3, 4, 5, 6, 7, 8, 9, 10, 11, 12, 13, 14, 15, 16, 17, 18, 19, 20, 21, 22, 25], [0, 1, 2, 3, 4, 5, 6, 7, 8, 9, 10, 11, 12, 13, 14, 15, 16, 17, 18, 19, 20, 21, 22, 25, 26], [0, 1, 2, 3, 4, 5, 6, 7, 8, 9, 10, 11, 12, 13, 14, 15, 16, 17, 18, 19, 20, 21, 22, 23, 24, 25, 26, 27], [0, 1, 2, 3, 4, 5, 6, 7, 8, 9, 10, 11, 12, 13, 14, 15, 16, 17, 18, 19, 20, 21, 22, 23, 24, 25, 26, 27, 28], [0, 1, 2, 3, 4, 5, 6, 7, 8, 9, 10, 11, 12, 13, 14, 15, 16, 17, 18, 19, 20, 21, 22, 23, 24, 25, 26, 27, 28, 29], [0, 1, 2, 3, 4, 5, 6, 7, 8, 9, 10, 11, 12, 13, 14, 15, 16, 17, 18, 19, 20, 21, 22, 23, 24, 25, 26, 27, 28, 29, 30], [0, 1, 2, 3, 4, 5, 6, 7, 8, 9, 10, 11, 12, 13, 14, 15, 16, 17, 18, 19, 20, 21, 22, 23, 24, 25, 26, 27, 28, 29, 30, 31], [0, 1, 2, 3, 4, 5, 6, 7, 8, 9, 10, 11, 12, 13, 14, 15, 16, 17, 18, 19, 20, 21, 22, 23, 24, 25, 26, 27, 28, 29, 30, 31, 32], [0, 1, 2, 3, 4, 5, 6, 7, 8, 9, 10, 11, 12, 13, 14, 15, 16, 17, 18, 19, 20, 21, 22, 23, 24, 25, 26, 27, 28, 29, 30, 31, 32, 33], [0, 1, 2, 3, 4, 5, 6, 7, 8, 9, 10, 11, 12, 13, 14, 15, 16, 17, 18, 19, 20, 21, 22, 23, 24, 25, 26, 27, 28, 29, 30, 31, 32, 33], [0, 1, 2, 3, 4, 5, 6, 7, 8, 9, 10, 11, 12, 13, 14, 15, 16, 17, 18, 19, 20, 21, 22, 23, 24, 25, 26, 27, 28, 29, 30, 31, 32, 33, 35], [0, 1, 2, 3, 4, 5, 6, 7, 8, 9, 10, 11, 12, 13, 14, 15, 16, 17, 18, 19, 20, 21, 22, 23, 24, 25, 26, 27, 28, 29, 30, 31, 32, 33, 34, 35, 36], [0, 1, 2, 3, 4, 5, 6, 7, 8, 9, 10, 11, 12, 13, 14, 15, 16, 17, 18, 19, 20, 21, 22, 23, 24, 25, 26, 27, 28, 29, 30, 31, 32, 33, 34, 35, 36, 37], [0, 1, 2, 3, 4, 5, 6, 7, 8, 9, 10, 11, 12, 13, 14, 15, 16, 17, 18, 19, 20, 21, 22, 23, 24, 25, 26, 27, 28, 29, 30, 31, 32, 33], [0, 1, 2, 3, 4, 5, 6, 7, 8, 9, 10, 11, 12, 13, 14, 15, 16, 17, 18, 19, 20, 21, 22, 23, 24, 25, 26, 27, 28, 29, 30, 31, 32, 33, 34, 35, 36, 37, 38, 39], [0, 1, 2, 3, 4, 5, 6, 7, 8, 9, 10, 11, 12, 13, 14, 15, 16, 17, 18, 19, 20, 21, 22, 23, 24, 25, 26, 27, 28, 29, 30, 31, 32, 33, 34, 35, 36, 37, 38, 39, 40], [0, 1, 2, 3, 4, 5, 6, 7, 8, 9, 10, 11, 12, 13, 14, 15, 16, 17, 18, 19, 20, 21, 22, 23, 24, 25, 26, 27, 28, 29, 30, 31, 32, 33, 34, 35, 36, 37, 38, 39, 40, 41], [0, 1, 2, 3, 4, 5, 6, 7, 8, 9, 10, 11, 12, 13, 14, 15, 16, 17, 18, 19, 20, 21, 22, 23, 24, 25, 26, 27, 28, 29, 30, 31, 32, 33, 34, 35, 36, 37, 38, 39, 40, 41, 42]] : List (List Nat)).getD k []) (by kernel_rfl) (by kernel_rfl) Ext.pre (mono_nil) ?_
              simp only [List.take_succ_cons, List.take_zero]
              repeat (first | (with_reducible refine lexL_quiet' (v := ?_) ?_ ?_ ?_ ?_; rotate_left; (· with_reducible rfl); (· simp [factsOf]); (· intro w1 hw1 _; go_simp; with_reducible rfl); (try simp only [Act.put, List.setIfInBounds_toArray, List.set_cons_zero, List.set_cons_succ])) | (with_reducible refine lexL_skip ?_ ?_; (· simp [Region.wanted, yielded, undef]); (try simp only [Act.put, List.setIfInBounds_toArray, List.set_cons_zero, List.set_cons_succ])) | (with_reducible refine lexL_quiet (v := ?_) ?_ ?_ ?_ ?_; rotate_left; (· simp [Region.wanted, yielded, undef]); (· simp [factsOf]); (· intro w1 hw1 _; go_simp; with_reducible rfl); (try simp only [Act.put, List.setIfInBounds_toArray, List.set_cons_zero, List.set_cons_succ])))
              with_reducible refine lexL_nil ?_; intro w1 hw1 hk1; simp only [List.drop_succ_cons, List.drop_zero]
              clear hk1
              go_wp2
              go_ret
              exact ⟨by rw [H.out]; rfl, HEE.out.trans (HE6.out.trans hw1)⟩
            have HOK : Hid (badAt x.ins x.outs x.rows.length r j = (decide (0 < j) && !ltA (r.getD (j - 1) a0) a)) := Lib.hid (by rw [hbadT.out, HA.out, decide_eq_false (by omega)]; rfl)
            have hcw := fun W p => compare_any W p a
            unfold arcV at hcw
            rw [HAV.out.1, HAV.out.2.1, HAV.out.2.2] at hcw
            rcases Nat.eq_zero_or_pos j with hj0 | hj0
            · subst hj0
              have HN := Lib.hid (hno.out (by rw [HOK.out]; rfl))
              refine wp_region_ext 40 (factsOf []) (fun k => ([[], [0], [0, 1], [0, 1, 2], [0, 1, 2, 3], [0, 1, 2, 3, 4], [0, 1, 2, 3, 4, 5], [0, 1, 2, 3, 4, 5, 6], [0, 1, 2, 3, 4, 5, 6, 7], [0, 1, 2, 3, 4, 5, 6, 7, 8], [0, 1, 2, 3, 4, 5, 6, 7, 8, 9], [0, 1, 2, 3, 4, 5, 6, 7, 8], [0, 1, 2, 3, 4, 5, 6, 7, 8, 11], [0, 1, 2, 3, 4, 5, 6, 7, 8, 11, 12], [0, 1, 2, 3, 4, 5, 6, 7, 8, 11, 12, 13], [0, 1, 2, 3, 4, 5, 6, 7, 8, 9, 10, 11, 12, 13, 14], [0, 1, 2, 3, 4, 5, 6, 7, 8, 9, 10, 11, 12, 13, 14, 15], [0, 1, 2, 3, 4, 5, 6, 7, 8, 9, 10, 11, 12, 13, 14, 15, 16], [0, 1, 2, 3, 4, 5, 6, 7, 8, 9, 10, 11, 12, 13, 14, 15, 16, 17], [0, 1, 2, 3, 4, 5, 6, 7, 8, 9, 10, 11, 12, 13, 14, 15, 16, 17, 18], [0, 1, 2, 3, 4, 5, 6, 7, 8, 9, 10, 11, 12, 13, 14, 15, 16, 17, 18, 19], [0, 1, 2, 3, 4, 5, 6, 7, 8, 9, 10, 11, 12, 13, 14, 15, 16, 17, 18, 19, 20], [0, 1, 2, 3, 4, 5, 6, 7, 8, 9, 10, 11, 12, 13, 14, 15, 16, 17, 18, 19, 20, 21], [0, 1, 2, 3, 4, 5, 6, 7, 8, 9, 10, 11, 12, 13, 14, 15, 16, 17, 18, 19, 20, 21, 22], [0, 1, 2, 3, 4, 5, 6, 7, 8, 9, 10, 11, 12, 13, 14, 15, 16, 17, 18, 19, 20, 21, 22, 23], [0, 1, 2, 3, 4, 5, 6, 7, 8, 9, 10, 11, 12, 13, 14, 15, 16, 17, 18, 19, 20, 21, 22], [0, 1, 2, 3, 4, 5, 6, 7, 8, 9, 10, 11, 12, 13, 14, 15, 16, 17, 18, 19, 20, 21, 22, 25], [0, 1, 2, 3, 4, 5, 6, 7, 8, 9, 10, 11, 12, 13, 14, 15, 16, 17, 18, 19, 20, 21, 22, 25, 26], [0, 1, 2, 3, 4, 5, 6, 7, 8, 9, 10, 11, 12, 13, 14, 15, 16, 17, 18, 19, 20, 21, 22, 23, 24, 25, 26, 27], [0, 1, 2, 3, 4, 5, 6, 7, 8, 9, 10, 11, 12, 13, 14, 15, 16, 17, 18, 19, 20, 21, 22, 23, 24, 25, 26, 27, 28], [0, 1, 2, 3, 4, 5, 6, 7, 8, 9, 10, 11, 12, 13, 14, 15, 16, 17, 18, 19, 20, 21, 22, 23, 24, 25, 26, 27, 28, 29], [0, 1, 2, 3, 4, 5, 6, 7, 8, 9, 10, 11, 12, 13, 14, 15, 16, 17, 18, 19, 20, 21, 22, 23, 24, 25, 26, 27, 28, 29, 30], [0, 1, 2, 3, 4, 5, 6, 7, 8, 9, 10, 11, 12, 13, 14, 15, 16, 17, 18, 19, 20, 21, 22, 23, 24, 25, 26, 27, 28, 29, 30, 31], [0, 1, 2, 3, 4, 5, 6, 7, 8, 9, 10, 11, 12, 13, 14, 15, 16, 17, 18, 19, 20, 21, 22, 23, 24, 25, 26, 27, 28, 29, 30, 31, 32], [0, 1, 2, 3, 4, 5, 6, 7, 8, 9, 10, 11, 12, 13, 14, 15, 16, 17, 18, 19, 20, 21, 22, 23, 24, 25, 26, 27, 28, 29, 30, 31, 32, 33], [0, 1, 2, 3, 4, 5, 6, 7, 8, 9, 10, 11, 12, 13, 14, 15, 16, 17, 18, 19, 20, 21, 22, 23, 24, 25, 26, 27, 28, 29, 30, 31, 32, 33], [0, 1, 2, 3, 4, 5, 6, 7, 8, 9, 10, 11, 12, 13, 14, 15, 16, 17, 18, 19, 20, 21, 22, 23, 24, 25, 26, 27, 28, 29, 30, 31, 32, 33, 35], [0, 1, 2, 3, 4, 5, 6, 7, 8, 9, 10, 11, 12, 13, 14, 15, 16, 17, 18, 19, 20, 21, 22, 23, 24, 25, 26, 27, 28, 29, 30, 31, 32, 33, 34, 35, 36], [0, 1, 2, 3, 4, 5, 6, 7, 8, 9, 10, 11, 12, 13, 14, 15, 16, 17, 18, 19, 20, 21, 22, 23, 24, 25, 26, 27, 28, 29, 30, 31, 32, 33, 34, 35, 36, 37], [0, 1, 2, 3, 4, 5, 6, 7, 8, 9, 10, 11, 12, 13, 14, 15, 16, 17, 18, 19, 20, 21, 22, 23, 24, 25, 26, 27, 28, 29, 30, 31, 32, 33], [0, 1, 2, 3, 4, 5, 6, 7, 8, 9, 10, 11, 12, 13, 14, 15, 16, 17, 18, 19, 20, 21, 22, 23, 24, 25, 26, 27, 28, 29, 30, 31, 32, 33, 34, 35, 36, 37, 38, 39], [0, 1, 2, 3, 4, 5, 6, 7, 8, 9, 10, 11, 12, 13, 14, 15, 16, 17, 18, 19, 20, 21, 22, 23, 24, 25, 26, 27, 28, 29, 30, 31, 32, 33, 34, 35, 36, 37, 38, 39, 40], [0, 1, 2, 3, 4, 5, 6, 7, 8, 9, 10, 11, 12, 13, 14, 15, 16, 17, 18, 19, 20, 21, 22, 23, 24, 25, 26, 27, 28, 29, 30, 31, 32, 33, 34, 35, 36, 37, 38, 39, 40, 41], [0, 1, 2, 3, 4, 5, 6, 7, 8, 9, 10, 11, 12, 13, 14, 15, 16, 17, 18, 19, 20, 21, 22, 23, 24, 25, 26, 27, 28, 29, 30, 31, 32, 33, 34, 35, 36, 37, 38, 39, 40, 41, 42]] : List (List Nat)).getD k []) (by kernel_rfl) (by kernel_rfl) Ext.pre (mono_nil) ?_
              simp only [List.take_succ_cons, List.take_zero]
              repeat (first | (with_reducible refine lexL_quiet' (v := ?_) ?_ ?_ ?_ ?_; rotate_left; (· with_reducible rfl); (· simp [factsOf]); (· intro w1 hw1 _; go_simp; with_reducible rfl); (try simp only [Act.put, List.setIfInBounds_toArray, List.set_cons_zero, List.set_cons_succ])) | (with_reducible refine lexL_skip ?_ ?_; (· simp [Region.wanted, yielded, undef]); (try simp only [Act.put, List.setIfInBounds_toArray, List.set_cons_zero, List.set_cons_succ])) | (with_reducible refine lexL_quiet (v := ?_) ?_ ?_ ?_ ?_; rotate_left; (· simp [Region.wanted, yielded, undef]); (· simp [factsOf]); (· intro w1 hw1 _; go_simp; with_reducible rfl); (try simp only [Act.put, List.setIfInBounds_toArray, List.set_cons_zero, List.set_cons_succ])))
              with_reducible refine lexL_nil ?_; intro w1 hw1 hk1; simp only [List.drop_succ_cons, List.drop_zero]
              clear hk1
              go_wp2
              go_roundw
              case rel => exact ⟨1, by go_num, by omega, HN, HE5.out.trans (HE6.out.trans hw1)⟩
              case measure => simp [intOf]; omega
            · obtain ⟨i', rfl⟩ : ∃ i', j = i' + 1 := ⟨j - 1, by omega⟩
              obtain ⟨p, hp⟩ : ∃ p, r[i']? = some p := ⟨_, List.getElem?_eq_getElem (by omega)⟩
              obtain ⟨b7, o7, c7, hv7, _, p0, p1, p2⟩ := (HU.out.ext HE5.out).at_ hp
              injection hv7 with hv7 _ hc7
              injection hv7 with hv7
              injection hv7 with hb7 ho7
              subst hb7 ho7 hc7
              have p0 := fun w' (h : Ext W6 w') => (HE6.out.trans h).cell p0
              have p1 := fun w' (h : Ext W6 w') => (HE6.out.trans h).cell p1
              have p2 := fun w' (h : Ext W6 w') => (HE6.out.trans h).cell p2
              have HOK : Hid (badAt x.ins x.outs x.rows.length r (i' + 1) = decide (0 ≤ cmpA p a)) := Lib.hid (by
                rw [HOK.out, cmpA_iff, List.getD_eq_getElem?_getD, show i' + 1 - 1 = i' by omega, hp, decide_eq_true (by omega)]; rfl)
              have hcw := fun W => hcw W p
              have hil : (i' : Int) < (r.length : Int) := by omega
              have hil2 : i' < r.length := by omega
              have hsub : IntKind.i64.wrap (i' : Int) = (i' : Int) := by rw [IntKind.wrap_i64]; omega
              clear hp
              generalize p.k = pk at *
              generalize p.l = pl at *
              generalize p.t = pt at *
              generalize hC : cmpA p a = C at *
              clear hC
              by_cases hC0 : 0 ≤ C
              · have H := Lib.hid (hyes.out (by rw [HOK.out, decide_eq_true hC0]))
                refine wp_region_ext 40 (factsOf []) (fun k => ([[], [0], [0, 1], [0, 1, 2], [0, 1, 2, 3], [0, 1, 2, 3, 4], [0, 1, 2, 3, 4, 5], [0, 1, 2, 3, 4, 5, 6], [0, 1, 2, 3, 4, 5, 6, 7], [0, 1, 2, 3, 4, 5, 6, 7, 8], [0, 1, 2, 3, 4, 5, 6, 7, 8, 9], [0, 1, 2, 3, 4, 5, 6, 7, 8], [0, 1, 2, 3, 4, 5, 6, 7, 8, 11], [0, 1, 2, 3, 4, 5, 6, 7, 8, 11, 12], [0, 1, 2, 3, 4, 5, 6, 7, 8, 11, 12, 13], [0, 1, 2, 3, 4, 5, 6, 7, 8, 9, 10, 11, 12, 13, 14], [0, 1, 2, 3, 4, 5, 6, 7, 8, 9, 10, 11, 12, 13, 14, 15], [0, 1, 2, 3, 4, 5, 6, 7, 8, 9, 10, 11, 12, 13, 14, 15, 16], [0, 1, 2, 3, 4, 5, 6, 7, 8, 9, 10, 11, 12, 13, 14, 15, 16, 17], [0, 1, 2, 3, 4, 5, 6, 7, 8, 9, 10, 11, 12, 13, 14, 15, 16, 17, 18], [0, 1, 2, 3, 4, 5, 6, 7, 8, 9, 10, 11, 12, 13, 14, 15, 16, 17, 18, 19], [0, 1, 2, 3, 4, 5, 6, 7, 8, 9, 10, 11, 12, 13, 14, 15, 16, 17, 18, 19, 20], [0, 1, 2, 3, 4, 5, 6, 7, 8, 9, 10, 11, 12, 13, 14, 15, 16, 17, 18, 19, 20, 21], [0, 1, 2, 3, 4, 5, 6, 7, 8, 9, 10, 11, 12, 13, 14, 15, 16, 17, 18, 19, 20, 21, 22], [0, 1, 2, 3, 4, 5, 6, 7, 8, 9, 10, 11, 12, 13, 14, 15, 16, 17, 18, 19, 20, 21, 22, 23], [0, 1, 2, 3, 4, 5, 6, 7, 8, 9, 10, 11, 12, 13, 14, 15, 16, 17, 18, 19, 20, 21, 22], [0, 1, 2, 3, 4, 5, 6, 7, 8, 9, 10, 11, 12, 13, 14, 15, 16, 17, 18, 19, 20, 21, 22, 25], [0, 1, 2, 3, 4, 5, 6, 7, 8, 9, 10, 11, 12, 13, 14, 15, 16, 17, 18, 19, 20, 21, 22, 25, 26], [0, 1, 2, 3, 4, 5, 6, 7, 8, 9, 10, 11, 12, 13, 14, 15, 16, 17, 18, 19, 20, 21, 22, 23, 24, 25, 26, 27], [0, 1, 2, 3, 4, 5, 6, 7, 8, 9, 10, 11, 12, 13, 14, 15, 16, 17, 18, 19, 20, 21, 22, 23, 24, 25, 26, 27, 28], [0, 1, 2, 3, 4, 5, 6, 7, 8, 9, 10, 11, 12, 13, 14, 15, 16, 17, 18, 19, 20, 21, 22, 23, 24, 25, 26, 27, 28, 29], [0, 1, 2, 3, 4, 5, 6, 7, 8, 9, 10, 11, 12, 13, 14, 15, 16, 17, 18, 19, 20, 21, 22, 23, 24, 25, 26, 27, 28, 29, 30], [0, 1, 2, 3, 4, 5, 6, 7, 8, 9, 10, 11, 12, 13, 14, 15, 16, 17, 18, 19, 20, 21, 22, 23, 24, 25, 26, 27, 28, 29, 30, 31], [0, 1, 2, 3, 4, 5, 6, 7, 8, 9, 10, 11, 12, 13, 14, 15, 16, 17, 18, 19, 20, 21, 22, 23, 24, 25, 26, 27, 28, 29, 30, 31, 32], [0, 1, 2, 3, 4, 5, 6, 7, 8, 9, 10, 11, 12, 13, 14, 15, 16, 17, 18, 19, 20, 21, 22, 23, 24, 25, 26, 27, 28, 29, 30, 31, 32, 33], [0, 1, 2, 3, 4, 5, 6, 7, 8, 9, 10, 11, 12, 13, 14, 15, 16, 17, 18, 19, 20, 21, 22, 23, 24, 25, 26, 27, 28, 29, 30, 31, 32, 33], [0, 1, 2, 3, 4, 5, 6, 7, 8, 9, 10, 11, 12, 13, 14, 15, 16, 17, 18, 19, 20, 21, 22, 23, 24, 25, 26, 27, 28, 29, 30, 31, 32, 33, 35], [0, 1, 2, 3, 4, 5, 6, 7, 8, 9, 10, 11, 12, 13, 14, 15, 16, 17, 18, 19, 20, 21, 22, 23, 24, 25, 26, 27, 28, 29, 30, 31, 32, 33, 34, 35, 36], [0, 1, 2, 3, 4, 5, 6, 7, 8, 9, 10, 11, 12, 13, 14, 15, 16, 17, 18, 19, 20, 21, 22, 23, 24, 25, 26, 27, 28, 29, 30, 31, 32, 33, 34, 35, 36, 37], [0, 1, 2, 3, 4, 5, 6, 7, 8, 9, 10, 11, 12, 13, 14, 15, 16, 17, 18, 19, 20, 21, 22, 23, 24, 25, 26, 27, 28, 29, 30, 31, 32, 33], [0, 1, 2, 3, 4, 5, 6, 7, 8, 9, 10, 11, 12, 13, 14, 15, 16, 17, 18, 19, 20, 21, 22, 23, 24, 25, 26, 27, 28, 29, 30, 31, 32, 33, 34, 35, 36, 37, 38, 39], [0, 1, 2, 3, 4, 5, 6, 7, 8, 9, 10, 11, 12, 13, 14, 15, 16, 17, 18, 19, 20, 21, 22, 23, 24, 25, 26, 27, 28, 29, 30, 31, 32, 33, 34, 35, 36, 37, 38, 39, 40], [0, 1, 2, 3, 4, 5, 6, 7, 8, 9, 10, 11, 12, 13, 14, 15, 16, 17, 18, 19, 20, 21, 22, 23, 24, 25, 26, 27, 28, 29, 30, 31, 32, 33, 34, 35, 36, 37, 38, 39, 40, 41], [0, 1, 2, 3, 4, 5, 6, 7, 8, 9, 10, 11, 12, 13, 14, 15, 16, 17, 18, 19, 20, 21, 22, 23, 24, 25, 26, 27, 28, 29, 30, 31, 32, 33, 34, 35, 36, 37, 38, 39, 40, 41, 42]] : List (List Nat)).getD k []) (by kernel_rfl) (by kernel_rfl) Ext.pre (mono_nil) ?_
                simp only [List.take_succ_cons, List.take_zero]
                repeat (first | (with_reducible refine lexL_quiet' (v := ?_) ?_ ?_ ?_ ?_; rotate_left; (· with_reducible rfl); (· simp [factsOf]); (· intro w1 hw1 _; go_simp; with_reducible rfl); (try simp only [Act.put, List.setIfInBounds_toArray, List.set_cons_zero, List.set_cons_succ])) | (with_reducible refine lexL_skip ?_ ?_; (· simp [Region.wanted, yielded, undef]); (try simp only [Act.put, List.setIfInBounds_toArray, List.set_cons_zero, List.set_cons_succ])) | (with_reducible refine lexL_quiet (v := ?_) ?_ ?_ ?_ ?_; rotate_left; (· simp [Region.wanted, yielded, undef]); (· simp [factsOf]); (· intro w1 hw1 _; go_simp; with_reducible rfl); (try simp only [Act.put, List.setIfInBounds_toArray, List.set_cons_zero, List.set_cons_succ])))
                with_reducible refine lexL_nil ?_; intro w1 hw1 hk1; simp only [List.drop_succ_cons, List.drop_zero]
                clear hk1
                go_wp2_with ((with_reducible refine (hcw _).mono ?_); rintro e w9 ⟨rfl, e9⟩)
                go_ret
                exact ⟨by rw [H.out]; rfl, HEE.out.trans (HE6.out.trans (hw1.trans e9))⟩
              · have HN := Lib.hid (hno.out (by rw [HOK.out, decide_eq_false hC0]))
                refine wp_region_ext 40 (factsOf []) (fun k => ([[], [0], [0, 1], [0, 1, 2], [0, 1, 2, 3], [0, 1, 2, 3, 4], [0, 1, 2, 3, 4, 5], [0, 1, 2, 3, 4, 5, 6], [0, 1, 2, 3, 4, 5, 6, 7], [0, 1, 2, 3, 4, 5, 6, 7, 8], [0, 1, 2, 3, 4, 5, 6, 7, 8, 9], [0, 1, 2, 3, 4, 5, 6, 7, 8], [0, 1, 2, 3, 4, 5, 6, 7, 8, 11], [0, 1, 2, 3, 4, 5, 6, 7, 8, 11, 12], [0, 1, 2, 3, 4, 5, 6, 7, 8, 11, 12, 13], [0, 1, 2, 3, 4, 5, 6, 7, 8, 9, 10, 11, 12, 13, 14], [0, 1, 2, 3, 4, 5, 6, 7, 8, 9, 10, 11, 12, 13, 14, 15], [0, 1, 2, 3, 4, 5, 6, 7, 8, 9, 10, 11, 12, 13, 14, 15, 16], [0, 1, 2, 3, 4, 5, 6, 7, 8, 9, 10, 11, 12, 13, 14, 15, 16, 17], [0, 1, 2, 3, 4, 5, 6, 7, 8, 9, 10, 11, 12, 13, 14, 15, 16, 17, 18], [0, 1, 2, 3, 4, 5, 6, 7, 8, 9, 10, 11, 12, 13, 14, 15, 16, 17, 18, 19], [0, 1, 2, 3, 4, 5, 6, 7, 8, 9, 10, 11, 12, 13, 14, 15, 16, 17, 18, 19, 20], [0, 1, 2, 3, 4, 5, 6, 7, 8, 9, 10, 11, 12, 13, 14, 15, 16, 17, 18, 19, 20, 21], [0, 1, 2, 3, 4, 5, 6, 7, 8, 9, 10, 11, 12, 13, 14, 15, 16, 17, 18, 19, 20, 21, 22], [0, 1, 2, 3, 4, 5, 6, 7, 8, 9, 10, 11, 12, 13, 14, 15, 16, 17, 18, 19, 20, 21, 22, 23], [0, 1, 2, 3, 4, 5, 6, 7, 8, 9, 10, 11, 12, 13, 14, 15, 16, 17, 18, 19, 20, 21, 22], [0, 1, 2, 3, 4, 5, 6, 7, 8, 9, 10, 11, 12, 13, 14, 15, 16, 17, 18, 19, 20, 21, 22, 25], [0, 1, 2, 3, 4, 5, 6, 7, 8, 9, 10, 11, 12, 13, 14, 15, 16, 17, 18, 19, 20, 21, 22, 25, 26], [0, 1, 2, 3, 4, 5, 6, 7, 8, 9, 10, 11, 12, 13, 14, 15, 16, 17, 18, 19, 20, 21, 22, 23, 24, 25, 26, 27], [0, 1, 2, 3, 4, 5, 6, 7, 8, 9, 10, 11, 12, 13, 14, 15, 16, 17, 18, 19, 20, 21, 22, 23, 24, 25, 26, 27, 28], [0, 1, 2, 3, 4, 5, 6, 7, 8, 9, 10, 11, 12, 13, 14, 15, 16, 17, 18, 19, 20, 21, 22, 23, 24, 25, 26, 27, 28, 29], [0, 1, 2, 3, 4, 5, 6, 7, 8, 9, 10, 11, 12, 13, 14, 15, 16, 17, 18, 19, 20, 21, 22, 23, 24, 25, 26, 27, 28, 29, 30], [0, 1, 2, 3, 4, 5, 6, 7, 8, 9, 10, 11, 12, 13, 14, 15, 16, 17, 18, 19, 20, 21, 22, 23, 24, 25, 26, 27, 28, 29, 30, 31], [0, 1, 2, 3, 4, 5, 6, 7, 8, 9, 10, 11, 12, 13, 14, 15, 16, 17, 18, 19, 20, 21, 22, 23, 24, 25, 26, 27, 28, 29, 30, 31, 32], [0, 1, 2, 3, 4, 5, 6, 7, 8, 9, 10, 11, 12, 13, 14, 15, 16, 17, 18, 19, 20, 21, 22, 23, 24, 25, 26, 27, 28, 29, 30, 31, 32, 33], [0, 1, 2, 3, 4, 5, 6, 7, 8, 9, 10, 11, 12, 13, 14, 15, 16, 17, 18, 19, 20, 21, 22, 23, 24, 25, 26, 27, 28, 29, 30, 31, 32, 33], [0, 1, 2, 3, 4, 5, 6, 7, 8, 9, 10, 11, 12, 13, 14, 15, 16, 17, 18, 19, 20, 21, 22, 23, 24, 25, 26, 27, 28, 29, 30, 31, 32, 33, 35], [0, 1, 2, 3, 4, 5, 6, 7, 8, 9, 10, 11, 12, 13, 14, 15, 16, 17, 18, 19, 20, 21, 22, 23, 24, 25, 26, 27, 28, 29, 30, 31, 32, 33, 34, 35, 36], [0, 1, 2, 3, 4, 5, 6, 7, 8, 9, 10, 11, 12, 13, 14, 15, 16, 17, 18, 19, 20, 21, 22, 23, 24, 25, 26, 27, 28, 29, 30, 31, 32, 33, 34, 35, 36, 37], [0, 1, 2, 3, 4, 5, 6, 7, 8, 9, 10, 11, 12, 13, 14, 15, 16, 17, 18, 19, 20, 21, 22, 23, 24, 25, 26, 27, 28, 29, 30, 31, 32, 33], [0, 1, 2, 3, 4, 5, 6, 7, 8, 9, 10, 11, 12, 13, 14, 15, 16, 17, 18, 19, 20, 21, 22, 23, 24, 25, 26, 27, 28, 29, 30, 31, 32, 33, 34, 35, 36, 37, 38, 39], [0, 1, 2, 3, 4, 5, 6, 7, 8, 9, 10, 11, 12, 13, 14, 15, 16, 17, 18, 19, 20, 21, 22, 23, 24, 25, 26, 27, 28, 29, 30, 31, 32, 33, 34, 35, 36, 37, 38, 39, 40], [0, 1, 2, 3, 4, 5, 6, 7, 8, 9, 10, 11, 12, 13, 14, 15, 16, 17, 18, 19, 20, 21, 22, 23, 24, 25, 26, 27, 28, 29, 30, 31, 32, 33, 34, 35, 36, 37, 38, 39, 40, 41], [0, 1, 2, 3, 4, 5, 6, 7, 8, 9, 10, 11, 12, 13, 14, 15, 16, 17, 18, 19, 20, 21, 22, 23, 24, 25, 26, 27, 28, 29, 30, 31, 32, 33, 34, 35, 36, 37, 38, 39, 40, 41, 42]] : List (List Nat)).getD k []) (by kernel_rfl) (by kernel_rfl) Ext.pre (mono_nil) ?_
                simp only [List.take_succ_cons, List.take_zero]
                repeat (first | (with_reducible refine lexL_quiet' (v := ?_) ?_ ?_ ?_ ?_; rotate_left; (· with_reducible rfl); (· simp [factsOf]); (· intro w1 hw1 _; go_simp; with_reducible rfl); (try simp only [Act.put, List.setIfInBounds_toArray, List.set_cons_zero, List.set_cons_succ])) | (with_reducible refine lexL_skip ?_ ?_; (· simp [Region.wanted, yielded, undef]); (try simp only [Act.put, List.setIfInBounds_toArray, List.set_cons_zero, List.set_cons_succ])) | (with_reducible refine lexL_quiet (v := ?_) ?_ ?_ ?_ ?_; rotate_left; (· simp [Region.wanted, yielded, undef]); (· simp [factsOf]); (· intro w1 hw1 _; go_simp; with_reducible rfl); (try simp only [Act.put, List.setIfInBounds_toArray, List.set_cons_zero, List.set_cons_succ])))
                with_reducible refine lexL_nil ?_; intro w1 hw1 hk1; simp only [List.drop_succ_cons, List.drop_zero]
                clear hk1
                go_wp2_with ((with_reducible refine (hcw _).mono ?_); rintro e w9 ⟨rfl, e9⟩)
                go_roundw
                case rel => exact ⟨i' + 1 + 1, by go_num, by omega, HN, HE5.out.trans (HE6.out.trans (hw1.trans e9))⟩
                case measure => simp [intOf]; omega
          · have hn : Hid ((x.rows.take (i + 1)).any (badRow x.ins x.outs x.rows.length) = false) := Lib.hid (by rw [HT.out, HP.out, badRow_no (fun t ht => HQ.out t (by omega))]; rfl)
            have HE5 := Lib.hid hE
            go_wp2
            go_roundw
            case rel => exact ⟨i + 1, by go_num, hlt, hn, HE.out.trans HE5.out⟩
            case measure => simp [intOf]; omega
      · have H : Hid (checkI x = 0) := Lib.hid (by rw [HC.out, any_full (by omega) HP.out]; rfl)
        have HE := Lib.hid hE
        go_wp2
        go_ret
        exact ⟨by rw [H.out]; rfl, hE1.trans (hE3.trans HE.out)⟩
end Go.Proofs.YtamodjlifpjaoaaDoor
