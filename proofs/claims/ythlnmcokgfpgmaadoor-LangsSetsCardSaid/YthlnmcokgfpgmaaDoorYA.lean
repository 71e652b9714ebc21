/- Sets of at most 256 numbers as four words. Plain. acceptors: set.put 67, set.meets 68, of 69. acceptors: Dfa.reached 53. -/
import Derived.Test.YthlnmcokgfpgmaaDoorZH
import Derived.Test.YthlnmcokgfpgmaaDoorZP
import Derived.Test.YthlnmcokgfpgmaaDoorZC
namespace Go.Proofs.YthlnmcokgfpgmaaDoor
open Go.RowKit
set_option linter.unusedVariables false
set_option linter.unusedSimpArgs false

def bitB (n : Nat) : BitVec 64 := 1#64 <<< (n % 64)
def addW (n i : Nat) (a : BitVec 64) : BitVec 64 := if n / 64 = i then a ||| bitB n else a
def setW (l : List Nat) (i : Nat) : BitVec 64 := l.foldl (fun a n => addW n i a) 0#64
theorem setW_nil (i : Nat) : setW [] i = 0#64 := rfl
theorem setW_snoc (l : List Nat) (n i : Nat) : setW (l ++ [n]) i = addW n i (setW l i) := by unfold setW; rw [List.foldl_append]; rfl
theorem bit_get (n j : Nat) (hj : j < 64) : (bitB n).getLsbD j = decide (n % 64 = j) := by
  unfold bitB
  rw [BitVec.getLsbD_shiftLeft]
  have hm := Nat.mod_lt n (show 0 < 64 by omega)
  by_cases h1 : j < n % 64
  · simp [h1, hj]; omega
  · by_cases h2 : n % 64 = j
    · subst h2; simp [hj]
    · have : j - n % 64 ≠ 0 := by omega
      simp [h1, hj, h2, this]
theorem setW_get (l : List Nat) (i j : Nat) (hj : j < 64) : (setW l i).getLsbD j = decide (64 * i + j ∈ l) := by
  have key : ∀ (r s : List Nat), (∀ j, j < 64 → (setW r i).getLsbD j = decide (64 * i + j ∈ r)) → ∀ j, j < 64 → (setW (r ++ s) i).getLsbD j = decide (64 * i + j ∈ r ++ s) := fun r s => by
    induction s generalizing r with
    | nil => intro h; simpa using h
    | cons n s ih =>
      intro h
      have h2 := ih (r ++ [n]) (fun j hj => by
        rw [setW_snoc]
        unfold addW
        by_cases hn : n / 64 = i
        · rw [if_pos hn, BitVec.getLsbD_or, h j hj, bit_get n j hj]
          have hd := Nat.div_add_mod n 64
          rw [Bool.eq_iff_iff]
          simp only [Bool.or_eq_true, decide_eq_true_eq, List.mem_append, List.mem_singleton]
          constructor
          · rintro (h1 | h1)
            · exact .inl h1
            · exact .inr (by omega)
          · rintro (h1 | h1)
            · exact .inl h1
            · exact .inr (by omega)
        · rw [if_neg hn, h j hj, Bool.eq_iff_iff]
          simp only [decide_eq_true_eq, List.mem_append, List.mem_singleton]
          constructor
          · exact .inl
          · rintro (h1 | h1)
            · exact h1
            · exact absurd (by omega) hn)
      simpa using h2
  have := key [] l (fun j hj => by rw [setW_nil]; simp) j hj
  simpa using this
/-- Has a set a number? -/
theorem meets_iff (l : List Nat) {n : Nat} (hn : n < 256) : (∃ i, i < 4 ∧ setW l i &&& setW [n] i ≠ 0#64) ↔ n ∈ l := by
  have h1 : ∀ i, setW [n] i = addW n i 0#64 := fun i => setW_snoc [] n i
  have hd := Nat.div_add_mod n 64
  have hm := Nat.mod_lt n (show 0 < 64 by omega)
  constructor
  · rintro ⟨i, hi, hne⟩
    rw [h1] at hne
    unfold addW at hne
    by_cases hni : n / 64 = i
    · rw [if_pos hni] at hne
      rcases Decidable.em (n ∈ l) with h | h
      · exact h
      · exfalso
        refine hne (BitVec.eq_of_getLsbD_eq fun j hj => ?_)
        rw [BitVec.getLsbD_and, setW_get l i j hj, BitVec.getLsbD_or, bit_get n j hj]
        simp only [BitVec.getLsbD_zero, Bool.false_or]
        by_cases h2 : n % 64 = j
        · rw [decide_eq_false (show ¬ 64 * i + j ∈ l by rw [show 64 * i + j = n by omega]; exact h)]; rfl
        · rw [decide_eq_false h2, Bool.and_false]
    · rw [if_neg hni] at hne
      exact absurd (BitVec.and_zero) hne
  · intro h
    refine ⟨n / 64, by omega, fun he => ?_⟩
    rw [h1] at he
    unfold addW at he
    rw [if_pos rfl] at he
    have h2 := congrArg (fun x => x.getLsbD (n % 64)) he
    simp only [BitVec.getLsbD_and, setW_get l (n / 64) _ hm, BitVec.getLsbD_or, bit_get n _ hm, BitVec.getLsbD_zero, Bool.false_or, decide_true, Bool.and_true] at h2
    rw [hd] at h2
    simp [h] at h2
def wV (v : BitVec 64) : Value := .int .u64 (v.toNat : Int)
theorem wrap_bv (v : BitVec 64) : IntKind.u64.wrap (v.toNat : Int) = (v.toNat : Int) := by
  have := v.isLt
  rw [IntKind.wrap_u64]; omega
theorem ofInt_toNat (v : BitVec 64) : BitVec.ofInt 64 (v.toNat : Int) = v := by
  rw [BitVec.ofInt_natCast]; exact BitVec.ofNat_toNat _ _ |>.trans (by simp)
end Go.Proofs.YthlnmcokgfpgmaaDoor

namespace Go.Proofs.YthlnmcokgfpgmaaDoor
open Go.RowKit Go.Maps
set_option linter.unusedVariables false
set_option linter.unusedSimpArgs false
attribute [local go_sem] Oper.quietV quietV Oper.gives givesV ext_refl_iff ext_alloc_iff ext_drew_iff ext_drewN_iff
def setA (l : List Nat) : Array Value := #[wV (setW l 0), wV (setW l 1), wV (setW l 2), wV (setW l 3)]
theorem setA_at (l : List Nat) {q : Nat} (hq : q < 4) : (setA l)[q]? = some (wV (setW l q)) := by
  unfold setA
  match q, hq with
  | 0, _ => rfl
  | 1, _ => rfl
  | 2, _ => rfl
  | 3, _ => rfl
theorem setA_put (l : List Nat) {n : Nat} (hn : n < 256) : (setA l).setIfInBounds (n / 64) (wV (setW l (n / 64) ||| bitB n)) = setA (l ++ [n]) := by
  have h : ∀ i, setW (l ++ [n]) i = if n / 64 = i then setW l i ||| bitB n else setW l i := fun i => setW_snoc l n i
  have hq : n / 64 < 4 := by omega
  unfold setA
  rw [h 0, h 1, h 2, h 3]
  generalize n / 64 = q at *
  match q, hq with
  | 0, _ => simp
  | 1, _ => simp
  | 2, _ => simp
  | 3, _ => simp
theorem shl_one {m : Nat} (hm : m < 64) : ((1#64 <<< m).toNat : Int) = 2 ^ m := by
  rw [BitVec.toNat_shiftLeft]
  simp only [BitVec.toNat_ofNat]
  have h : 2 ^ m < 2 ^ 64 := Nat.pow_lt_pow_right (by omega) hm
  rw [show (1 % 2 ^ 64) <<< m = 2 ^ m by rw [Nat.shiftLeft_eq]; simp, Nat.mod_eq_of_lt h]
  push_cast; rfl
theorem ofInt_wrap {m : Nat} (hm : m < 64) : IntKind.u64.wrap (2 ^ m) = ((1#64 <<< m).toNat : Int) := by rw [← shl_one hm, wrap_bv]
theorem bits_set (x : BitVec 64) {n m : Nat} (hm : n % 64 = m) : bits .or .u64 (x.toNat : Int) (IntKind.u64.wrap (2 ^ m)) = ((x ||| bitB n).toNat : Int) := by
  have h64 : m < 64 := by omega
  rw [ofInt_wrap h64]
  unfold bits
  show IntKind.u64.wrap (((BitVec.ofInt 64 (x.toNat : Int)) ||| (BitVec.ofInt 64 ((1#64 <<< m).toNat : Int))).toNat : Int) = _
  rw [ofInt_toNat, ofInt_toNat, wrap_bv]
  unfold bitB
  rw [hm]
def PutP (w : World) (b : Nat) (l : List Nat) (e : Ending) (w' : World) : Prop := e = .returned (.tuple #[]) ∧ w'.heap[b]? = some (.cells (setA l) 117 (0, 0)) ∧ w.grownBy w' (some b)
set_option maxRecDepth 100000 in
set_option maxHeartbeats 8000000 in
theorem put_any (w : World) (b : Nat) (l : List Nat) (n : Nat) (hn : n < 256) (v : Value) (c : Nat) (hb : w.heap[b]? = some (.cells (setA l) 117 (0, 0))) (hv : IntsC w v [(n : Int)] c) : Calls Tryd.prog 67 #[.pointer (some ⟨b, 0, none⟩), v] w (PutP w b (l ++ [n])) := by
  obtain ⟨A, rfl, hc, _⟩ := hv
  obtain ⟨bl, ol, rfl, _, hcl⟩ := hc.at_int (k := 0) (by simp)
  have hbl : bl ≠ b ∨ True := .inr trivial
  go_enter Tryd.func67, Tryd.ntmps67
  go_wp2
  go_loopw [8] (fun iv wr => ∃ i : Nat, iv = .int .i64 i ∧ i ≤ 1 ∧ Hid ((i = 0 → wr = w) ∧ wr.heap[b]? = some (.cells (setA (l ++ [n].take i)) 117 (0, 0)) ∧ w.grownBy wr (some b))) (fun iv _ => 1 - (intOf iv).toNat)
  case atStart => exact ⟨0, rfl, by omega, Lib.hid ⟨fun _ => rfl, by simpa using hb, ⟨rfl, rfl, rfl, Nat.le_refl _, fun _ _ _ => rfl⟩⟩⟩
  case round =>
    obtain ⟨i, rfl, hi, HR⟩ := hrel
    by_cases hi0 : i = 0
    · subst hi0
      obtain rfl := HR.out.1 rfl
      have hcl0 : wr.cell? ⟨bl, ol, none⟩ = some (.int .i64 (n : Int)) := by simpa using hcl
      have hcl1 := fun w' (h : Ext wr w') => h.cell hcl0
      obtain ⟨q, hq⟩ : ∃ q, n / 64 = q := ⟨_, rfl⟩
      obtain ⟨m, hm⟩ : ∃ m, n % 64 = m := ⟨_, rfl⟩
      have hq4 : q < 4 := by omega
      have hm64 : m < 64 := by omega
      have hdiv : ((n : Nat) : Int).tdiv 64 = (q : Int) := by rw [Int.tdiv_eq_ediv_of_nonneg (by omega)]; omega
      have hmod : ((n : Nat) : Int).tmod 64 = (m : Int) := by rw [Int.tmod_eq_emod_of_nonneg (by omega)]; omega
      have hwq : IntKind.i64.wrap (q : Int) = (q : Int) := IntWalk.i64_in _ (by omega)
      have hwm : IntKind.i64.wrap (m : Int) = (m : Int) := IntWalk.i64_in _ (by omega)
      have hq4I : (q : Int) < 4 := by omega
      have hcq := cell_of_blk hb q (setA_at l hq4)
      unfold wV at hcq
      have hE0 := Ext.refl wr
      have hcq1 := fun w' (h : Ext wr w') => h.cell hcq
      have HQ := Lib.hid (And.intro hq hm)
      clear hq hm hcq
      go_upto_region 3 with fail
      refine wp_region_ext 11 (factsOf []) (fun k => ([[], [], [1], [0], [0, 1, 2, 3], [0, 1, 2, 3, 4], [], [6], [6, 7], [0, 1, 2, 3, 4, 5, 6, 7, 8], [0], [0, 1, 2, 3, 4, 5, 6, 7, 8, 9, 10], [0, 1, 2, 3, 4, 5, 6, 7, 8, 9, 10, 11]] : List (List Nat)).getD k []) (by kernel_rfl) (by kernel_rfl) Ext.pre (mono_nil) ?_
      simp only [List.take_succ_cons, List.take_zero]
      repeat (first | (with_reducible refine lexL_quiet' (v := ?_) ?_ ?_ ?_ ?_; rotate_left; (· with_reducible rfl); (· simp [factsOf]); (· intro w1 hw1 _; go_simp; with_reducible rfl); (try simp only [Act.put, List.setIfInBounds_toArray, List.set_cons_zero, List.set_cons_succ])) | (with_reducible refine lexL_skip ?_ ?_; (· simp [Region.wanted, yielded, undef]); (try simp only [Act.put, List.setIfInBounds_toArray, List.set_cons_zero, List.set_cons_succ])) | (with_reducible refine lexL_quiet (v := ?_) ?_ ?_ ?_ ?_; rotate_left; (· simp [Region.wanted, yielded, undef]); (· simp [factsOf]); (· intro w1 hw1 _; go_simp; with_reducible rfl); (try simp only [Act.put, List.setIfInBounds_toArray, List.set_cons_zero, List.set_cons_succ])))
      with_reducible refine lexL_nil ?_; intro w1 hw1 hk1; simp only [List.drop_succ_cons, List.drop_zero]
      have hcw := cell_of_blk (heap_ext hw1 hb) q (setA_at l hq4)
      unfold wV at hcw
      have hcf := free_of_blk (heap_ext hw1 hb) q
      clear hk1 hwq hwm hmod hdiv
      go_wp2
      refine ⟨⟨1, rfl, by omega, Lib.hid ⟨fun h => by omega, ?_, ?_⟩⟩, by simp [intOf]⟩
      · rw [bits_set _ HQ.out.2]
        have h1 := heap_setCell_same w1 b q (setA l) 117 (.int .u64 ((setW l q ||| bitB n).toNat : Int)) (heap_ext hw1 hb)
        have h2 := setA_put l hn
        rw [HQ.out.1] at h2
        unfold wV at h2
        rw [h1, h2]; rfl
      · exact ⟨hw1.os, hw1.tape, hw1.output, by simpa using hw1.size, fun k hk hne => (heap_setCell_other w1 ⟨b, q, none⟩ k _ (fun e => hne (by simp [e]))).trans (hw1.block k hk)⟩
    · obtain rfl : i = 1 := by omega
      have HF := HR.out.2
      go_wp2
      refine ⟨rfl, .tuple #[], by simp [results, Tryd.f67, go_sem], ?_⟩
      exact ⟨rfl, by simpa using HF.1, HF.2⟩
def setV (l : List Nat) : Value := .agg (setA l)
theorem bits_meet (x y : BitVec 64) : bits .and .u64 (x.toNat : Int) (y.toNat : Int) = ((x &&& y).toNat : Int) := by
  unfold bits
  show IntKind.u64.wrap (((BitVec.ofInt 64 (x.toNat : Int)) &&& (BitVec.ofInt 64 (y.toNat : Int))).toNat : Int) = _
  rw [ofInt_toNat, ofInt_toNat, wrap_bv]
set_option maxRecDepth 100000 in
set_option maxHeartbeats 8000000 in
theorem meets_any (w : World) (l : List Nat) (n : Nat) (hn : n < 256) : Calls Tryd.prog 68 #[setV l, setV [n]] w fun e w' => e = .returned (.bool (decide (n ∈ l))) ∧ Ext w w' := by
  go_enter Tryd.func68, Tryd.ntmps68
  unfold setV setA wV
  go_upto_region 1 with fail
  refine wp_named ?_
  intro W1 hW1
  have hE1 : Ext w W1 := by rw [hW1]; exact ((Ext.refl _).alloc _).alloc _
  have k0 : ∀ w', Ext W1 w' → ∀ i, i < 4 → w'.cell? ⟨w.heap.size, i, none⟩ = some (.int .u64 ((setW l i).toNat : Int)) := fun w' h i hi => h.cell (by
    rw [hW1]
    match i, hi with
    | 0, _ => simp [go_sem]
    | 1, _ => simp [go_sem]
    | 2, _ => simp [go_sem]
    | 3, _ => simp [go_sem])
  have l0 : ∀ w', Ext W1 w' → ∀ i, i < 4 → w'.cell? ⟨w.heap.size + 1, i, none⟩ = some (.int .u64 ((setW [n] i).toNat : Int)) := fun w' h i hi => h.cell (by
    rw [hW1]
    match i, hi with
    | 0, _ => simp [go_sem]
    | 1, _ => simp [go_sem]
    | 2, _ => simp [go_sem]
    | 3, _ => simp [go_sem])
  clear hW1
  go_wp2
  go_loopw [6] (fun iv wr => ∃ i : Nat, iv = .int .i64 i ∧ i ≤ 4 ∧ Hid (∀ j, j < i → setW l j &&& setW [n] j = 0#64) ∧ Ext W1 wr) (fun iv _ => 4 - (intOf iv).toNat)
  case atStart => exact ⟨0, rfl, by omega, Lib.hid (fun j hj => by omega), Ext.refl _⟩
  case round =>
    obtain ⟨i, rfl, hi, HZ, hE⟩ := hrel
    obtain ⟨W3, hW3⟩ : ∃ W, W = wr := ⟨_, rfl⟩; subst hW3
    by_cases hlt : i < 4
    · have hiI : (i : Int) < 4 := by omega
      have c1 := fun w' (h : Ext W3 w') => k0 w' (hE.trans h) i hlt
      have c2 := fun w' (h : Ext W3 w') => l0 w' (hE.trans h) i hlt
      have hE3 := Ext.refl W3
      have hbm := bits_meet (setW l i) (setW [n] i)
      generalize hx : setW l i = x at *
      generalize hy : setW [n] i = y at *
      have HXY := Lib.hid (And.intro hx hy)
      clear hx hy k0 l0
      by_cases hz : x &&& y = 0#64
      · have hb0 : (bits .and .u64 (x.toNat : Int) (y.toNat : Int) != 0) = false := by rw [hbm, hz]; rfl
        have HH := Lib.hid hz
        clear hbm hz
        go_upto_region 4 with fail
        go_quiet (fail)
        go_wp2
        go_roundw
        case rel => exact ⟨i + 1, by go_num, by omega, Lib.hid (fun j hj => by
          rcases Nat.lt_or_ge j i with h | h
          · exact HZ.out j h
          · obtain rfl : j = i := by omega
            rw [HXY.out.1, HXY.out.2]; exact HH.out), hE.drewN _⟩
        case measure => simp [intOf]; omega
      · have hb0 : (bits .and .u64 (x.toNat : Int) (y.toNat : Int) != 0) = true := by
          rw [hbm]
          simp only [bne_iff_ne, ne_eq]
          intro h
          refine hz (BitVec.eq_of_toNat_eq ?_)
          simpa using h
        have hmem : n ∈ l := (meets_iff l hn).1 ⟨i, hlt, by rw [HXY.out.1, HXY.out.2]; exact hz⟩
        have HM := Lib.hid (decide_eq_true hmem)
        clear hbm hz hmem
        go_upto_region 4 with fail
        go_quiet (fail)
        go_wp2
        go_ret
        exact ⟨by rw [HM.out]; rfl, (hE1.trans hE).drewN _⟩
    · obtain rfl : i = 4 := by omega
      have hno : ¬ n ∈ l := fun h => by
        obtain ⟨j, hj, hne⟩ := (meets_iff l hn).2 h
        exact hne (HZ.out j hj)
      have HM := Lib.hid (decide_eq_false hno)
      clear hno
      go_wp2
      go_ret
      exact ⟨by rw [HM.out]; rfl, hE1.trans hE⟩
set_option maxRecDepth 100000 in
set_option maxHeartbeats 8000000 in
theorem of_any (w : World) (n : Nat) (hn : n < 256) (v : Value) (c : Nat) (hv : IntsC w v [(n : Int)] c) : Calls Tryd.prog 69 #[v] w fun e w' => e = .returned (setV [n]) ∧ Ext w w' := by
  go_enter Tryd.func69, Tryd.ntmps69
  have h0 : (w.alloc (.cells #[.int .u64 0, .int .u64 0, .int .u64 0, .int .u64 0] 117)).heap[w.heap.size]? = some (.cells (setA []) 117 (0, 0)) := heap_alloc_new w _
  have hp := put_any (w.alloc (.cells #[.int .u64 0, .int .u64 0, .int .u64 0, .int .u64 0] 117)) w.heap.size [] n hn v c h0 (hv.ext (alloc_ext _ _))
  rw [List.nil_append] at hp
  unfold PutP at hp
  have hE0 := alloc_ext w (.cells #[.int .u64 0, .int .u64 0, .int .u64 0, .int .u64 0] 117)
  go_upto_region 2 with ((with_reducible refine hp.mono ?_); rintro e w1 ⟨rfl, h1, g1⟩)
  have hE1 : Ext w w1 := Below.grown hE0 g1 hE0.size (fun k hk => by cases hk; exact Nat.le_refl _)
  unfold setA wV at h1
  have c0 := cell_of_blk h1 0 rfl
  have c1 := cell_of_blk h1 1 rfl
  have c2 := cell_of_blk h1 2 rfl
  have c3 := cell_of_blk h1 3 rfl
  clear hp h0 g1
  go_wp2_with (with_reducible refine wpList_store_blk _ rfl 117 _ _ rfl w.heap.size 117 _ _ rfl rfl h1 (by kernel_rfl) (by kernel_rfl) (by kernel_rfl) ?_; intro w8 h8 g8)
  refine bodyPost_ret (results_cell_row rfl _ _ w.heap.size 117 _ (0, 0) _ (by simp [Act.put]) h8 Tryd.underlying117 rfl (by kernel_rfl)) rfl ?_
  exact ⟨rfl, Below.grown hE1 g8 hE1.size (fun k hk => by cases hk; exact Nat.le_refl _)⟩
end Go.Proofs.YthlnmcokgfpgmaaDoor

namespace Go.Proofs.YthlnmcokgfpgmaaDoor
open Go.RowKit Go.Maps
set_option linter.unusedVariables false
set_option linter.unusedSimpArgs false
attribute [local go_sem] Oper.quietV quietV Oper.gives givesV ext_refl_iff ext_alloc_iff ext_drew_iff ext_drewN_iff
/-- The states, as they are reached. -/
def numP (l : List Rch) : List Nat := l.map (·.p)
def numI (l : List Rch) : List Int := l.map (fun r => (r.p : Int))
theorem numI_eq (l : List Rch) : numI l = (numP l).map (fun n : Nat => (n : Int)) := by unfold numI numP; rw [List.map_map]; rfl
theorem numI_snoc (l : List Rch) (r : Rch) : numI (l ++ [r]) = numI l ++ [(r.p : Int)] := by unfold numI; simp
theorem numP_snoc (l : List Rch) (r : Rch) : numP (l ++ [r]) = numP l ++ [r.p] := by unfold numP; simp
theorem none_q {d : Dfa} {l : List Rch} (h : OkP d (noneD d) l) : ∀ r ∈ l, r.q = 0 := fun r hr => by
  have := (h.inn r hr).2
  have h1 : (noneD d).n = 1 := rfl
  omega
theorem none_to (d : Dfa) {x : Nat} (hx : x < d.k) : (noneD d).to 0 x = 0 := by
  unfold noneD Dfa.to
  simp only [List.getD_cons_zero]
  rw [List.getD_eq_getElem?_getD, List.getElem?_replicate, if_pos hx]; rfl
theorem none_in {d : Dfa} {l : List Rch} (h : OkP d (noneD d) l) {r : Rch} (hr : r ∈ l) {x : Nat} (hx : x < d.k) : inP l (stepP d (noneD d) r x) = decide (d.to r.p x ∈ numP l) := by
  rw [Bool.eq_iff_iff, inP_iff, decide_eq_true_iff]
  have hq := none_q h r hr
  have hs : stepP d (noneD d) r x = (d.to r.p x, 0) := by unfold stepP; rw [hq, none_to d hx]
  rw [hs]
  unfold numP
  constructor
  · intro h1
    obtain ⟨y, hy, he⟩ := List.mem_map.1 h1
    exact List.mem_map.2 ⟨y, hy, congrArg Prod.fst he⟩
  · intro h1
    obtain ⟨y, hy, he⟩ := List.mem_map.1 h1
    exact List.mem_map.2 ⟨y, hy, by unfold Rch.key; rw [he, none_q h y hy]⟩
def ReaP (d : Dfa) (w : World) (e : Ending) (w' : World) : Prop := ∃ v c, e = .returned v ∧ IntsC w' v (numI (pairsL d (noneD d))) c ∧ Ext w w'
def IntF (x : Int) (v : Value) (w : World) : Prop := ∃ (A : Option Addr) (c : Nat), v = .slice A 1 c ∧ IntsC w v [x] c
theorem stays_intF (x : Int) : Stays Ext (IntF x) := fun v w w' hE ⟨A, c, h1, h2⟩ => ⟨A, c, h1, h2.ext hE⟩
theorem one_ints (W : World) (x : Int) : IntsC (W.alloc (.cells #[.int .i64 x] 3)) (.slice (some ⟨W.heap.size, 0, none⟩) 1 1) [x] 1 := ints_blk (cs := #[.int .i64 x]) (heap_alloc_new W _) rfl rfl (by omega)
set_option maxRecDepth 100000 in
set_option maxHeartbeats 16000000 in
theorem reached_any (w : World) (dv : Value) (d : Dfa) (hd : DfaV w dv d) (hg : Good d) : Calls Tryd.prog 53 #[dv] w (ReaP d w) := by
  obtain ⟨rv, cr, av, ca, rfl, hr, ha⟩ := hd
  obtain ⟨Ar, vr, rfl, _, _, _, _, hrm⟩ := id hr
  obtain ⟨Aa, rfl, hac, _, ham⟩ := id ha
  unfold lenMax at hrm ham
  obtain ⟨i3, hi3, hz3, hs3, hb3⟩ := info_parts int_info
  have hkk := hg.kk
  have hgb := good_none hg
  have HK := Lib.hid (And.intro hg hgb)
  have hs1 := hg.size
  have hbd : ∀ i, (goP d (noneD d) i).length ≤ 256 := fun i => by
    have h1 := (okP_go hg hgb rfl i).bound
    have h2 : (noneD d).n = 1 := rfl
    rw [h2, Nat.mul_one] at h1
    exact Nat.le_trans h1 hs1.2
  have HBD := Lib.hid hbd
  clear hbd hgb
  go_enter Tryd.func53, Tryd.ntmps53
  go_upto_region 1 with fail
  refine wp_named ?_
  intro W1 hW1
  have hE1 : Ext w W1 := by rw [hW1]; exact (Ext.refl _).alloc _
  have k1 : ∀ w', Ext W1 w' → w'.cell? ⟨w.heap.size, 1, none⟩ = some (.slice Ar d.rows.length cr) := fun w' h => h.cell (by rw [hW1]; simp [go_sem])
  clear hW1
  generalize w.heap.size = b1 at *
  obtain ⟨oZ, hoZ⟩ : ∃ o : Obj, o = .cells #[.int .u64 0, .int .u64 0, .int .u64 0, .int .u64 0] 117 := ⟨_, rfl⟩
  obtain ⟨W2, hW2⟩ : ∃ W, W = (W1.alloc (.cells #[.int .i64 0] 3)).alloc (.cells #[.int .u64 0, .int .u64 0, .int .u64 0, .int .u64 0] 117) := ⟨_, rfl⟩
  have hO2 : OwnL W1 W2 [.blk (W1.heap.size + 1) (.cells (setA []) 117 (0, 0)), .row 3 1 (.slice (some ⟨W1.heap.size, 0, none⟩) 1 1) 1 [.int .i64 0]] := by
    rw [hW2]
    have h1 := (OwnL.nil (Ext.refl W1)).add (alloc_ext W1 (.cells #[.int .i64 0] 3)) (A := .row 3 1 (.slice (some ⟨W1.heap.size, 0, none⟩) 1 1) 1 [.int .i64 0]) (World.ownsRow_lit (base := W1.heap.size) (e := 3) (size := 1) W1 #[.int .i64 0] 1 (Nat.le_refl _) (by unfold maxLen; omega) rfl)
    exact h1.add (alloc_ext _ _) (A := .blk (W1.heap.size + 1) (.cells (setA []) 117 (0, 0))) ⟨by simp, by
      have h9 := heap_alloc_new (W1.alloc (.cells #[.int .i64 0] 3)) (.cells #[.int .u64 0, .int .u64 0, .int .u64 0, .int .u64 0] 117)
      rw [show (W1.alloc (.cells #[.int .i64 0] 3)).heap.size = W1.heap.size + 1 by simp] at h9
      exact h9⟩
  have hsz2 : W2.heap.size = W1.heap.size + 1 + 1 := by rw [hW2]; simp
  go_upto_region 3 with fail
  rw [← hW2]
  have hp := put_any (W2.alloc (.cells #[.int .i64 0] 3)) (W1.heap.size + 1) [] 0 (by omega) _ 1 (heap_ext (alloc_ext _ _) (hO2.get 0 rfl).2) (one_ints W2 0)
  rw [List.nil_append] at hp
  unfold PutP at hp
  generalize hg0 : W1.heap.size = g0 at *
  clear hW2 hoZ hsz2
  go_upto_region 4 with ((with_reducible refine hp.mono ?_); rintro e W3 ⟨rfl, h3, g3⟩)
  have hO3 : OwnL W1 W3 [.blk (g0 + 1) (.cells (setA (numP [r0])) 117 (0, 0)), .row 3 1 (.slice (some ⟨g0, 0, none⟩) 1 1) 1 ((numI [r0]).map (.int .i64))] := (hO2.trans (alloc_ext W2 (.cells #[.int .i64 0] 3))).step 0 (A' := .blk (g0 + 1) (.cells (setA [0]) 117 (0, 0))) rfl g3 (fun b hb => by cases hb; rfl) ⟨by omega, h3⟩ (fun b hb => .inl hb)
  clear hp h3 g3 hO2
  go_wp2
  go_loopw [3, 5] (fun ov iv wr => ∃ (i g c : Nat), iv = .int .i64 i ∧ Hid (i ≤ (goP d (noneD d) i).length) ∧ ov = .slice (some ⟨g, 0, none⟩) (goP d (noneD d) i).length c ∧ OwnL W1 wr [.blk (g0 + 1) (.cells (setA (numP (goP d (noneD d) i))) 117 (0, 0)), .row 3 1 ov (goP d (noneD d) i).length ((numI (goP d (noneD d) i)).map (.int .i64))]) (fun _ iv _ => 257 - (intOf iv).toNat)
  case atStart => exact ⟨0, g0, 1, rfl, Lib.hid (Nat.zero_le _), rfl, hO3⟩
  case round =>
    clear hO3
    obtain ⟨i, g, c, rfl, hi, rfl, hO⟩ := hrel
    obtain ⟨W4, hW4⟩ : ∃ W, W = wr := ⟨_, rfl⟩; subst hW4
    have hle := HBD.out i
    by_cases hil : i < (goP d (noneD d) i).length
    · have hilI : (i : Int) < ((goP d (noneD d) i).length : Int) := by omega
      have hwhole := fun x hx => rowP_whole (a := d) (b := noneD d) HK.out.1 HK.out.2 rfl (i := i) (x := x) hil hx
      have hokr := fun x hx => (okP_go (a := d) (b := noneD d) HK.out.1 HK.out.2 rfl i).row HK.out.1 HK.out.2 rfl hil x hx
      have hgs : goP d (noneD d) (i + 1) = rowP d (noneD d) (goP d (noneD d) i) i d.k := if_pos hil
      have hpre := fun x => rowP_prefix (a := d) (b := noneD d) (goP d (noneD d) i) i x
      obtain ⟨r, hr0⟩ : ∃ r, (goP d (noneD d) i)[i]? = some r := ⟨_, List.getElem?_eq_getElem hil⟩
      have hrin := (okP_go (a := d) (b := noneD d) HK.out.1 HK.out.2 rfl i).inn r (List.mem_of_getElem? hr0)
      have hrp : r.p < d.rows.length := hrin.1
      obtain ⟨bR, oR, uR, cR, hvR, _, hcR, hiR⟩ := hr.at_ hrp
      injection hvR with hvR
      subst hvR
      have hrl := HK.out.1.row hrp
      obtain ⟨AR, rfl, hiRc, _⟩ := id hiR
      have ho := cell_own hO 1 rfl (j := i) (u := .int .i64 (r.p : Int)) (by unfold numI; rw [List.getElem?_map, List.getElem?_map, hr0]; rfl)
      have kk1 := fun w' (h : Ext W4 w') => k1 w' (hO.ext.trans h)
      have hcR := fun w' (h : Ext W4 w') => h.cell ((hE1.trans hO.ext).cell hcR)
      have ho := fun w' (h : Ext W4 w') => h.cell ho
      have hE4 := Ext.refl W4
      have hrpI : (r.p : Int) < (d.rows.length : Int) := by omega
      have HWH := Lib.hid hwhole
      have HOK := Lib.hid hokr
      have HGS := Lib.hid hgs
      have HPR := Lib.hid hpre
      have HR0 := Lib.hid hr0
      have HIN := Lib.hid hrin
      have HIR := Lib.hid hiR
      have HO := Lib.hid hO
      rw [hrl] at hcR
      clear hwhole hokr hgs hpre hr0 hrin hiR hO hiRc
      go_upto_region 7 with fail
      go_quiet (fail)
      have hO5 := HO.out.trans ((Ext.refl W4).drewN nq)
      have hE45 := (Ext.refl W4).drewN nq
      generalize W4.drewN nq = W5 at *
      have hEE := hE45
      clear hE45 ho kk1 hcR hE4
      go_wp2
      go_loopw [3, 26] (fun ov xv wr => ∃ (x g c : Nat), xv = .int .i64 x ∧ x ≤ d.k ∧ ov = .slice (some ⟨g, 0, none⟩) (rowP d (noneD d) (goP d (noneD d) i) i x).length c ∧ OwnL W1 wr [.blk (g0 + 1) (.cells (setA (numP (rowP d (noneD d) (goP d (noneD d) i) i x))) 117 (0, 0)), .row 3 1 ov (rowP d (noneD d) (goP d (noneD d) i) i x).length ((numI (rowP d (noneD d) (goP d (noneD d) i) i x)).map (.int .i64))]) (fun _ xv _ => d.k - (intOf xv).toNat)
      case atStart => exact ⟨0, g, c, rfl, Nat.zero_le _, rfl, hO5⟩
      case round =>
        clear hO5 hilI hle
        obtain ⟨x, g, c, rfl, hx, rfl, hO⟩ := hrel
        obtain ⟨W6, hW6⟩ : ∃ W, W = wr := ⟨_, rfl⟩; subst hW6
        by_cases hxl : x < d.k
        · have hxI : (x : Int) < (d.k : Int) := by omega
          have hok1 := HOK.out x hx
          have hr1 : (rowP d (noneD d) (goP d (noneD d) i) i x)[i]? = some r := prefix_get? (HPR.out x) HR0.out
          have hsucc : rowP d (noneD d) (goP d (noneD d) i) i (x + 1) = addP d (noneD d) (rowP d (noneD d) (goP d (noneD d) i) i x) i x := rfl
          rw [addP_eq hr1, none_in hok1 (List.mem_of_getElem? hr1) hxl] at hsucc
          have hlen2 := hok1.bound
          have hnn : (noneD d).n = 1 := rfl
          rw [hnn, Nat.mul_one] at hlen2
          have hl256 : (rowP d (noneD d) (goP d (noneD d) i) i x).length ≤ 256 := Nat.le_trans hlen2 hs1.2
          have htt := HK.out.1.to_lt HIN.out.1 hxl
          have hT256 : d.to r.p x < 256 := Nat.lt_of_lt_of_le htt hs1.2
          have hxrow : x < d.rows[r.p].length := by rw [hrl]; exact hxl
          have hcell := (HK.out.1.cell hrp hxrow).1
          obtain ⟨AR2, hAR, hiRc2, _⟩ := HIR.out
          injection hAR with hAR
          subst hAR
          obtain ⟨bx, ox, hAx, _, cx⟩ := hiRc2.at_int hxrow
          subst hAx
          rw [hcell] at cx
          have cx := (hE1.trans hO.ext).cell cx
          have hst : stepP d (noneD d) r x = (d.to r.p x, 0) := by
            unfold stepP
            rw [none_q hok1 r (List.mem_of_getElem? hr1), none_to d hxl]
          have hnp : (newP d (noneD d) r i x).p = d.to r.p x := rfl
          have HS := Lib.hid (And.intro hsucc hnp)
          clear hsucc hcell htt hok1 hr1 hst hnp hlen2
          generalize d.to r.p x = T at *
          generalize rowP d (noneD d) (goP d (noneD d) i) i x = l at *
          have c0 := fun w' (h : Ext W6 w') => h.cell (cell_of_blk (hO.get 0 rfl).2 0 (u := .int .u64 ((setW (numP l) 0).toNat : Int)) rfl)
          have c1 := fun w' (h : Ext W6 w') => h.cell (cell_of_blk (hO.get 0 rfl).2 1 (u := .int .u64 ((setW (numP l) 1).toNat : Int)) rfl)
          have c2 := fun w' (h : Ext W6 w') => h.cell (cell_of_blk (hO.get 0 rfl).2 2 (u := .int .u64 ((setW (numP l) 2).toNat : Int)) rfl)
          have c3 := fun w' (h : Ext W6 w') => h.cell (cell_of_blk (hO.get 0 rfl).2 3 (u := .int .u64 ((setW (numP l) 3).toNat : Int)) rfl)
          have hE6 := Ext.refl W6
          have hof : ∀ W v c, IntsC W v [(T : Int)] c → Calls Tryd.prog 69 #[v] W fun e w' => e = .returned (.agg #[.int .u64 ((setW [T] 0).toNat : Int), .int .u64 ((setW [T] 1).toNat : Int), .int .u64 ((setW [T] 2).toNat : Int), .int .u64 ((setW [T] 3).toNat : Int)]) ∧ Ext W w' := fun W v c hv => of_any W T hT256 v c hv
          have hme : ∀ W, Calls Tryd.prog 68 #[.agg #[.int .u64 ((setW (numP l) 0).toNat : Int), .int .u64 ((setW (numP l) 1).toNat : Int), .int .u64 ((setW (numP l) 2).toNat : Int), .int .u64 ((setW (numP l) 3).toNat : Int)], .agg #[.int .u64 ((setW [T] 0).toNat : Int), .int .u64 ((setW [T] 1).toNat : Int), .int .u64 ((setW [T] 2).toNat : Int), .int .u64 ((setW [T] 3).toNat : Int)]] W fun e w' => e = .returned (.bool (decide (T ∈ numP l))) ∧ Ext W w' := fun W => meets_any W (numP l) T hT256
          have HO6 := Lib.hid hO
          generalize hx0 : setW (numP l) 0 = x0 at *
          generalize hx1 : setW (numP l) 1 = x1 at *
          generalize hx2 : setW (numP l) 2 = x2 at *
          generalize hx3 : setW (numP l) 3 = x3 at *
          generalize setW [T] 0 = t0 at *
          generalize setW [T] 1 = t1 at *
          generalize setW [T] 2 = t2 at *
          generalize setW [T] 3 = t3 at *
          clear hx0 hx1 hx2 hx3 hO
          have HMF := Lib.hid (And.intro hof hme)
          clear hof hme
          go_upto_region 10 with fail
          refine wp_region_ext 4 (factsOf [(2, IntF T), (3, fun v _ => v = .agg #[.int .u64 (t0.toNat : Int), .int .u64 (t1.toNat : Int), .int .u64 (t2.toNat : Int), .int .u64 (t3.toNat : Int)])]) (fun k => ([[], [], [1], [1, 2], [0, 1, 2, 3], [0, 1, 2, 3, 4]] : List (List Nat)).getD k []) (by kernel_rfl) (by kernel_rfl) Ext.pre (mono_cons (stays_intF _) (mono_cons (stays_eq _) (mono_nil))) ?_
          simp only [List.take_succ_cons, List.take_zero]
          repeat (first | (with_reducible refine lexL_quiet' (v := ?_) ?_ ?_ ?_ ?_; rotate_left; (· with_reducible rfl); (· simp [factsOf]); (· intro w1 hw1 _; go_simp; with_reducible rfl); (try simp only [Act.put, List.setIfInBounds_toArray, List.set_cons_zero, List.set_cons_succ])) | (with_reducible refine lexL_skip ?_ ?_; (· simp [Region.wanted, yielded, undef]); (try simp only [Act.put, List.setIfInBounds_toArray, List.set_cons_zero, List.set_cons_succ])) | (with_reducible refine lexL_quiet (v := ?_) ?_ ?_ ?_ ?_; rotate_left; (· simp [Region.wanted, yielded, undef]); (· simp [factsOf]); (· intro w1 hw1 _; go_simp; with_reducible rfl); (try simp only [Act.put, List.setIfInBounds_toArray, List.set_cons_zero, List.set_cons_succ])))
          with_reducible refine lexL_give' (φ := ?_) ?_ ?_ ?_ ?_; rotate_left; (· with_reducible rfl); (· simp only [factsOf, Nat.reduceAdd, ↓reduceIte, Nat.reduceEqDiff]; rfl)
          · intro w2 hw2 _
            go_simp
            exact ⟨_, 1, rfl, one_ints w2 _⟩
          rintro v2 w2 hw2 ⟨A2, cc2, rfl, h2⟩ hk2
          clear hk2 hw2 h2 w2
          (try simp only [Act.put, List.setIfInBounds_toArray, List.set_cons_zero, List.set_cons_succ])
          with_reducible refine lexL_give' (φ := ?_) ?_ ?_ ?_ ?_; rotate_left; (· with_reducible rfl); (· simp only [factsOf, Nat.reduceAdd, ↓reduceIte, Nat.reduceEqDiff]; rfl)
          · intro w2 hw2 hkn
            obtain ⟨A3, c3', h3, h4⟩ := hkn.get 2 (by decide) rfl rfl
            injection h3 with h5 _ h6
            subst h5 h6
            go_simp
            refine (HMF.out.1 w2 _ _ h4).mono ?_
            rintro e w3 ⟨rfl, e3⟩
            exact ⟨_, rfl, e3, rfl⟩
          rintro v3 w2 hw2 rfl hk2
          clear hk2 hw2 w2
          (try simp only [Act.put, List.setIfInBounds_toArray, List.set_cons_zero, List.set_cons_succ])
          repeat (first | (with_reducible refine lexL_quiet' (v := ?_) ?_ ?_ ?_ ?_; rotate_left; (· with_reducible rfl); (· simp [factsOf]); (· intro w1 hw1 _; go_simp; with_reducible rfl); (try simp only [Act.put, List.setIfInBounds_toArray, List.set_cons_zero, List.set_cons_succ])) | (with_reducible refine lexL_skip ?_ ?_; (· simp [Region.wanted, yielded, undef]); (try simp only [Act.put, List.setIfInBounds_toArray, List.set_cons_zero, List.set_cons_succ])) | (with_reducible refine lexL_quiet (v := ?_) ?_ ?_ ?_ ?_; rotate_left; (· simp [Region.wanted, yielded, undef]); (· simp [factsOf]); (· intro w1 hw1 _; go_simp; with_reducible rfl); (try simp only [Act.put, List.setIfInBounds_toArray, List.set_cons_zero, List.set_cons_succ])))
          with_reducible refine lexL_nil ?_; intro w1 hw1 hk1; simp only [List.drop_succ_cons, List.drop_zero]
          clear hk1 c0 c1 c2 c3 cx
          have hO7 := HO6.out.trans hw1
          have hme1 := HMF.out.2 w1
          cases hin : decide (T ∈ numP l) with
          | true =>
            rw [hin] at hme1
            have hsx : rowP d (noneD d) (goP d (noneD d) i) i (x + 1) = l := by rw [HS.out.1, hin]; rfl
            have HF := Lib.hid hsx
            clear hsx hin
            go_wp2_with ((with_reducible refine hme1.mono ?_); rintro e w2 ⟨rfl, e2⟩)
            have hO8 := hO7.trans e2
            go_roundw
            case rel => exact ⟨x + 1, g, c, by go_num, hxl, by rw [HF.out], by rw [HF.out]; exact hO8⟩
            case measure => simp [intOf]; omega
          | false =>
            rw [hin] at hme1
            have hsx : rowP d (noneD d) (goP d (noneD d) i) i (x + 1) = l ++ [newP d (noneD d) r i x] := by rw [HS.out.1, hin]; rfl
            have HF := Lib.hid hsx
            clear hsx hin
            go_upto_region 11 with ((with_reducible refine hme1.mono ?_); rintro e w2 ⟨rfl, e2⟩)
            have hO8 := hO7.trans e2
            have hb8 := (hO8.get 0 rfl).2
            have hp := put_any (w2.alloc (.cells #[.int .i64 (T : Int)] 3)) (g0 + 1) (numP l) T hT256 _ 1 (heap_ext (alloc_ext _ _) hb8) (one_ints w2 T)
            unfold PutP at hp
            go_upto_region 12 with ((with_reducible refine hp.mono ?_); rintro e w3 ⟨rfl, h3, g3⟩)
            have hO9 : OwnL W1 w3 [.blk (g0 + 1) (.cells (setA (numP l ++ [T])) 117 (0, 0)), .row 3 1 (.slice (some ⟨g, 0, none⟩) l.length c) l.length ((numI l).map (.int .i64))] := (hO8.trans (alloc_ext w2 (.cells #[.int .i64 (T : Int)] 3))).step 0 (A' := .blk (g0 + 1) (.cells (setA (numP l ++ [T])) 117 (0, 0))) rfl g3 (fun b hb => by cases hb; rfl) ⟨(hO8.get 0 rfl).1, h3⟩ (fun b hb => .inl hb)
            have hown : w3.ownsRow W1.heap.size 3 1 (.slice (some ⟨g, 0, none⟩) l.length c) l.length ((numI l).map (.int .i64)) := hO9.get 1 rfl
            have hsz := hO9.ext.size
            have hnn2 : numI (l ++ [newP d (noneD d) r i x]) = numI l ++ [(T : Int)] := by rw [numI_snoc, HS.out.2]
            have hnp2 : numP (l ++ [newP d (noneD d) r i x]) = numP l ++ [T] := by rw [numP_snoc, HS.out.2]
            have HN := Lib.hid (And.intro hnn2 hnp2)
            have HO9 := Lib.hid hO9
            clear hp h3 g3 hO8 hb8 hnn2 hnp2 hO9
            go_wp2_with (at_builtin; refine wpList_append_own2 rfl _ _ 31 rfl W1.heap.size 3 i3 (.int .i64 0) 1 8 Tryd.underlying31 hi3 hz3 hs3 hb3 rfl (by decide) (.slice (some ⟨g, 0, none⟩) l.length c) l.length ((numI l).map (.int .i64)) rfl (World.ownsRow.alloc hown _) ⟨w3.heap.size, 0, none⟩ 1 1 [.int .i64 T] rfl rfl (new_cell _ _ _ _ (by first | rfl | simp)) (one_int _) (by unfold maxLen; omega) (by omega) (by simp; omega) ?_; intro v6 w6 hown6 hg6 hb6)
            have hO10 := (HO9.out.trans (alloc_ext w3 (.cells #[.int .i64 T] 3))).app 1 rfl hg6 hown6 hb6
            obtain ⟨g6, c6, rfl⟩ := ownsRow_pos hown6 (by omega)
            have hln2 : (l ++ [newP d (noneD d) r i x]).length = l.length + 1 := by simp
            go_roundw
            case rel =>
              refine ⟨x + 1, g6, c6, by go_num, hxl, by rw [HF.out, hln2], ?_⟩
              rw [HF.out, hln2, HN.out.1, HN.out.2, List.map_append]
              exact hO10
            case measure => simp [intOf]; omega
        · obtain rfl : x = d.k := by omega
          have hle5 := HBD.out i
          have hi5 : i < 256 := by omega
          go_wp2
          go_roundw
          case rel =>
            refine ⟨i + 1, g, c, by go_num, ?_, ?_, ?_⟩
            · rw [HGS.out]
              refine Lib.hid ?_
              exact Nat.le_trans hil (HPR.out d.k).length_le
            · rw [HGS.out]
            · rw [HGS.out]; exact hO
          case measure => simp [intOf]; omega
    · have hie : i = (goP d (noneD d) i).length := by have := hi.out; omega
      have hgw := goP_whole (a := d) (b := noneD d) HK.out.1 HK.out.2 rfl hie
      have hown : W4.ownsRow W1.heap.size 3 1 (.slice (some ⟨g, 0, none⟩) (goP d (noneD d) i).length c) (numI (goP d (noneD d) i)).length ((numI (goP d (noneD d) i)).map (.int .i64)) := by
        rw [show (numI (goP d (noneD d) i)).length = (goP d (noneD d) i).length by unfold numI; simp]
        exact hO.get 1 rfl
      obtain ⟨c9, hint⟩ := ints_of_owns hown (by unfold numI lenMax; rw [List.length_map]; omega)
      rw [hgw] at hint
      have HF := Lib.hid (And.intro hint (hE1.trans hO.ext))
      have hnot : ¬ (i : Int) < ((goP d (noneD d) i).length : Int) := by omega
      rw [hgw] at hnot ⊢
      clear hie hgw hown hint hO
      go_wp2
      go_ret
      unfold ReaP
      exact ⟨_, c9, rfl, HF.out.1, HF.out.2⟩
end Go.Proofs.YthlnmcokgfpgmaaDoor
