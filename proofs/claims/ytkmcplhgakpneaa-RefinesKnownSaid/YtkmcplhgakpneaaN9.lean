/- (gauntletlaw02.P).Of, gauntletref02.Count. -/
import Derived.Test.YtkmcplhgakpneaaN5
namespace Go.Proofs.Ytkmcplhgakpneaa
open Go.RowKit Go.Maps
set_option linter.unusedVariables false
set_option linter.unusedSimpArgs false
attribute [local go_sem] Oper.quietV quietV Oper.gives givesV ext_refl_iff ext_alloc_iff ext_drew_iff ext_drewN_iff

/-- The list behind a partition that is given as bytes. -/
def partRaw (xs : List Nat) (n : Nat) : List Int := (List.range n).map (fun i => ((xs.getD i 0 : Nat) : Int))
theorem partRaw_length (xs : List Nat) (n : Nat) : (partRaw xs n).length = n := by simp [partRaw]
theorem partRaw_succ (xs : List Nat) (n : Nat) : partRaw xs (n + 1) = partRaw xs n ++ [((xs.getD n 0 : Nat) : Int)] := by simp [partRaw, List.range_succ]

set_option maxRecDepth 100000 in
set_option maxHeartbeats 1000000 in
theorem pOf_any (w : World) (xv : Value) (xs : List Nat) (cx : Nat) (hx : U8C w xv xs cx) (n : Nat) (hn : n ≤ 1000) :
    Calls Try.prog 25 #[.agg #[xv], .int .i64 n] w fun e w' => (∃ u c, e = .returned u ∧ IntsC w' u (namedL (partRaw xs n)) c) ∧ Ext w w' := by
  obtain ⟨i0, hi0, hz0, hz1, hz2⟩ := info_parts int_info
  obtain ⟨A, rfl, hcl, _, hm, hb⟩ := hx
  unfold maxLen at hm
  have HB := Lib.hid hb
  clear hb
  go_enter Try.func25, Try.ntmps25
  go_upto_region 1 with fail
  refine wp_named ?_
  intro W1 hW1
  have hE1 : Ext w W1 := by rw [hW1]; exact (Ext.refl _).alloc _
  have k0 : ∀ w', Ext W1 w' → w'.cell? ⟨w.heap.size, 0, none⟩ = some (.slice A xs.length cx) := fun w' h => h.cell (by rw [hW1]; simp [go_sem])
  clear hW1
  go_wp2
  go_loopw [6, 5] (fun i ov wr => ∃ k : Nat, k ≤ n ∧ i = .int .i64 k ∧ Ext W1 wr ∧ wr.ownsRow W1.heap.size 3 1 ov k ((partRaw xs k).map (.int .i64))) (fun i _ _ => n - (intOf i).toNat)
  case atStart => exact ⟨0, by omega, rfl, Ext.refl _, World.ownsRow_nil _ _ _ _⟩
  case round =>
    obtain ⟨k, hk, rfl, hE, hown⟩ := hrel
    obtain ⟨W2, hW2⟩ : ∃ W, W = wr := ⟨_, rfl⟩
    subst hW2
    have q0 := k0 _ hE
    by_cases hkn : k < n
    · have hsn := partRaw_succ xs k
      by_cases hlt : k < xs.length
      · have hltI : (k : Int) < (xs.length : Int) := by omega
        obtain ⟨b, o, rfl, hb, c0⟩ := (hcl.ext (hE1.trans hE)).at_u8 hlt
        have hx8 := HB.out _ (List.getElem_mem hlt)
        rw [show xs.getD k 0 = xs[k] by simp [List.getD, hlt]] at hsn
        generalize xs[k] = x at *
        have HS := Lib.hid hsn
        clear hsn
        go_wp2_with (at_builtin; refine wpList_append_own _ rfl _ _ 29 rfl W1.heap.size 3 i0 (.int .i64 0) 1 8 Try.underlying29 hi0 hz0 hz1 hz2 rfl (by decide) _ _ _ rfl (hown.alloc _) ⟨W2.heap.size, 0, none⟩ 1 1 [.int .i64 (x : Int)] rfl rfl (cell_one_new _ _ _) (ints_oneCell _ [(x : Int)]) (by unfold maxLen; omega) (by omega) (by have := hE.size; simp; omega) ?_; intro v3 w3 hown3 hg3 _; have hE3 := ext_grown (hE.alloc _) (hown.alloc _) (Nat.le_refl _) hg3)
        go_roundw
        case rel =>
          refine ⟨k + 1, by omega, by go_num, hE3, ?_⟩
          rw [HS.out, List.map_append]
          exact hown3
        case measure => simp [intOf]; omega
      · have hltI : ¬ (k : Int) < (xs.length : Int) := by omega
        rw [show xs.getD k 0 = 0 by simp [List.getD, List.getElem?_eq_none (show xs.length ≤ k by omega)]] at hsn
        have HS := Lib.hid hsn
        clear hsn
        go_wp2_with (at_builtin; refine wpList_append_own _ rfl _ _ 29 rfl W1.heap.size 3 i0 (.int .i64 0) 1 8 Try.underlying29 hi0 hz0 hz1 hz2 rfl (by decide) _ _ _ rfl (hown.alloc _) ⟨W2.heap.size, 0, none⟩ 1 1 [.int .i64 0] rfl rfl (cell_one_new _ _ _) (ints_oneCell _ [0]) (by unfold maxLen; omega) (by omega) (by have := hE.size; simp; omega) ?_; intro v3 w3 hown3 hg3 _; have hE3 := ext_grown (hE.alloc _) (hown.alloc _) (Nat.le_refl _) hg3)
        go_roundw
        case rel =>
          refine ⟨k + 1, by omega, by go_num, hE3, ?_⟩
          rw [HS.out, List.map_append]
          exact hown3
        case measure => simp [intOf]; omega
    · have hkn2 : n = k := by omega
      subst hkn2
      have hlen := partRaw_length xs n
      obtain ⟨cw, hwi⟩ := ints_of_owns (by rw [hlen]; exact hown) (by rw [hlen]; unfold lenMax; omega)
      have hof := of_any W2 _ (partRaw xs n) cw hwi (by omega)
      go_wp2_with (go_at_call 39; refine hof.mono ?_; rintro e W3 ⟨⟨u, c, rfl, hu⟩, hE3⟩)
      go_ret
      exact ⟨⟨_, _, rfl, hu⟩, (hE1.trans hE).trans hE3⟩

/-- The number of blocks. -/
def countL (p : List Int) : Int := p.foldl (fun n b => if n ≤ b then b + 1 else n) 0
theorem countL_snoc (p : List Int) (b : Int) : countL (p ++ [b]) = if countL p ≤ b then b + 1 else countL p := by unfold countL; rw [List.foldl_append]; rfl
set_option maxRecDepth 100000 in
set_option maxHeartbeats 1000000 in
theorem refCount_any (w : World) (pv : Value) (p : List Int) (cp : Nat) (hp : IntsC w pv p cp) (hb : ∀ x ∈ p, 0 ≤ x ∧ x ≤ 1000000) :
    Calls Try.prog 29 #[pv] w fun e w' => e = .returned (.int .i64 (countL p)) ∧ Ext w w' := by
  obtain ⟨A, rfl, hcp, _, hpm⟩ := hp
  unfold lenMax at hpm
  have HB := Lib.hid hb
  clear hb
  go_enter Try.func29, Try.ntmps29
  go_wp2
  go_loop [4, 3] (fun i n => ∃ k : Nat, k ≤ p.length ∧ i = .int .i64 k ∧ n = .int .i64 (countL (p.take k))) (fun i _ => p.length - (intOf i).toNat)
  case atStart => exact ⟨0, by omega, rfl, rfl⟩
  case round =>
    obtain ⟨k, hk, rfl, rfl⟩ := hrel
    by_cases hlt : k < p.length
    · obtain ⟨b, o, rfl, hb, c0⟩ := hcp.at_int hlt
      have hbd := HB.out _ (List.getElem_mem hlt)
      have hsn := countL_snoc (p.take k) p[k]
      rw [← List.take_succ_eq_append_getElem hlt] at hsn
      generalize countL (p.take k) = n at *
      generalize p[k] = x at *
      by_cases hnx : n ≤ x
      · rw [if_pos hnx] at hsn
        have HS := Lib.hid hsn
        clear hsn
        go_wp2
        go_round
        case rel => exact ⟨k + 1, by omega, by go_num, by rw [HS.out]⟩
        case measure => simp [intOf]; omega
      · rw [if_neg hnx] at hsn
        have HS := Lib.hid hsn
        clear hsn
        go_wp2
        go_round
        case rel => exact ⟨k + 1, by omega, by go_num, by rw [HS.out]⟩
        case measure => simp [intOf]; omega
    · have hkp : k = p.length := by omega
      rw [hkp, List.take_length]
      go_wp2
      go_ret
      exact ⟨rfl, Ext.refl _⟩
end Go.Proofs.Ytkmcplhgakpneaa
