/- classes.named over numbers. -/
import Derived.Test.YtkmcplhgakpneaaS4
import Derived.Test.YtkmcplhgakpneaaM1
import Derived.Test.YtkmcplhgakpneaaT1
namespace Go.Proofs.Ytkmcplhgakpneaa
open Go.RowKit Go.Maps
set_option linter.unusedVariables false
set_option linter.unusedSimpArgs false
attribute [local go_sem] Oper.quietV quietV Oper.gives givesV ext_refl_iff ext_alloc_iff ext_drew_iff ext_drewN_iff

theorem keyI : KeyEnc Try.prog 3 (fun x : Int => Value.int .i64 x) wfI := key_int Try.underlying3

set_option maxRecDepth 100000 in
set_option maxHeartbeats 1000000 in
theorem named_any (w : World) (lv : Value) (l : List Int) (cl : Nat) (hl : IntsC w lv l cl) (hl5 : l.length ≤ 100000) (hwf : ∀ x ∈ l, wfI x) :
    Calls Try.prog 53 #[lv] w fun e w' => (∃ u, e = .returned u ∧ FitC w' u (namedL l)) ∧ Ext w w' := by
  obtain ⟨i0, hi0, hz0, hz1, hz2⟩ := info_parts int_info
  have hmm := @run_makeMap Try.prog
  obtain ⟨Ap, rfl, hcp, _, hpm⟩ := hl
  unfold lenMax at hpm
  have HWF := Lib.hid hwf
  clear hwf
  go_enter Try.func53, Try.ntmps53
  go_wp2_with (at_make; refine wpList_make_full _ rfl _ _ 29 rfl (w.heap.size + 1) 3 i0 (.int .i64 0) 1 Try.underlying29 hi0 hz0 hz1 _ _ _ _ l.length rfl rfl rfl rfl (by rw [hz2]; omega) (by unfold maxLen; omega) (by simp) ?_; intro w1 hown1 hg1)
  rw [World.size_alloc, Nat.mul_one, show (Value.int .i64 0).cells = #[.int .i64 0] from rfl, toList_madeCells_one] at hown1
  have hM1 : MapIs w1 w.heap.size (fun x : Int => Value.int .i64 x) wfI [] := (MapIs.made w _ wfI).keep (hg1.block _ (by simp) (by simp))
  have hE2 : Ext w w1 := Below.grown ((Ext.refl w).alloc _) hg1 ((Ext.refl w).alloc _).size (by simp)
  have hrl := namedL_length l
  have HRL := Lib.hid hrl
  clear hg1 hrl
  go_loopw [15] (fun i wr => ∃ k : Nat, k ≤ l.length ∧ i = .int .i64 k ∧ Ext w wr ∧ MapIs wr w.heap.size (fun x : Int => Value.int .i64 x) wfI (namesOf (l.take k)) ∧
     wr.ownsRow (w.heap.size + 1) 3 1 (.slice (some ⟨w.heap.size + 1, 0, none⟩) l.length l.length) l.length (((namedL l).take k ++ List.replicate (l.length - k) 0).map (.int .i64))) (fun i _ => l.length - (intOf i).toNat)
  case atStart => exact ⟨0, by omega, rfl, hE2, by simpa [namesOf] using hM1, by simpa using hown1⟩
  case round =>
    clear hown1 hM1
    obtain ⟨k, hk, rfl, hE, hM, hown⟩ := hrel
    obtain ⟨W2, hW2⟩ : ∃ W, W = wr := ⟨_, rfl⟩
    subst hW2
    by_cases hlt : k < l.length
    · obtain ⟨b, o, rfl, hb, c0⟩ := (hcp.ext hE).at_int hlt
      have hokey : wfI l[k] := HWF.out _ (List.getElem_mem hlt)
      have hnt := names_take l hlt
      have hnstep : namesOf (l.take (k + 1)) = nameStep (namesOf (l.take k)) l[k] := by
        rw [List.take_succ_eq_append_getElem hlt]
        unfold namesOf
        rw [List.foldl_append]; rfl
      have HNS := Lib.hid hnstep
      have hnlen : (namesOf (l.take k)).length ≤ 100000 := by
        have := namesOf_len (l.take k) []
        rw [List.length_take] at this
        simp only [List.length_nil, Nat.zero_add] at this
        exact Nat.le_trans this (by omega)
      have hgetk : (namedL l).getD k 0 = (getM (namesOf (l.take (k + 1))) l[k]).getD 0 := by
        rw [getD_lt (by have := HRL.out; omega)]
        simp only [namedL, List.getElem_map]
        rw [hnt]
      have hset := outL_set (r := namedL l) (n := l.length) HRL.out hlt
      rw [hgetk, hnstep] at hset
      have HSET := Lib.hid hset
      have hcur : ∃ u, W2.cell? ⟨w.heap.size + 1, k, none⟩ = some u := by
        rw [hown.cellAt k (by omega)]
        exact ⟨_, List.getElem?_eq_getElem (by rw [hown.1]; omega)⟩
      obtain ⟨u0, hcur⟩ := hcur
      have hfz := hown.frozenAt k
      clear hnt hnstep hgetk hset hmm
      generalize hxx : l[k] = x at *
      have hres : ∀ w5 : World, w5.ownsRow (w.heap.size + 1) 3 1 (.slice (some ⟨w.heap.size + 1, 0, none⟩) l.length l.length) l.length ((((namedL l).take k ++ List.replicate (l.length - k) 0).map (Value.int .i64)).set k (.int .i64 ((getM (nameStep (namesOf (l.take k)) x) x).getD 0))) →
          w5.ownsRow (w.heap.size + 1) 3 1 (.slice (some ⟨w.heap.size + 1, 0, none⟩) l.length l.length) l.length (((namedL l).take (k + 1) ++ List.replicate (l.length - (k + 1)) 0).map (.int .i64)) := fun w5 h => by
        rw [← List.map_set, HSET.out] at h
        exact h
      have HRES := Lib.hid hres
      have hkI : (k : Int) < (l.length : Int) := by omega
      clear hres HSET hxx
      cases hg : getM (namesOf (l.take k)) x with
      | some nn =>
        have hns : nameStep (namesOf (l.take k)) x = namesOf (l.take k) := by unfold nameStep; rw [hg]; rfl
        rw [hns, hg] at HRES
        rw [hns] at HNS
        have HG := Lib.hid hg
        clear hns
        go_upto_region 9 with (at_lookup; refine wpList_lookup_is rfl _ _ 101 true rfl 3 keyI Try.underlying101 (Try.zeroValue3 _) rfl hM x rfl hokey ?_)
        clear hg
        go_wp2_with (at_lookup; refine wpList_lookup_is rfl _ _ 101 false rfl 3 keyI Try.underlying101 (Try.zeroValue3 _) rfl hM x rfl hokey ?_; rw [HG.out])
        refine ⟨⟨k + 1, by omega, by go_num, hE.setCell (by simp) _, by rw [HNS.out]; exact hM.setCell _ (by simp) _, HRES.out _ (hown.stored k _).1⟩, ?_⟩
        simp [intOf]; omega
      | none =>
        have hns : nameStep (namesOf (l.take k)) x = namesOf (l.take k) ++ [(x, ((namesOf (l.take k)).length : Int))] := by unfold nameStep; rw [hg]; rfl
        have hg2 : getM (namesOf (l.take k) ++ [(x, ((namesOf (l.take k)).length : Int))]) x = some ((namesOf (l.take k)).length : Int) := by
          rw [getM_append, hg]; simp
        rw [hns, hg2] at HRES
        rw [hns] at HNS
        have HG := Lib.hid hg
        have HG2 := Lib.hid hg2
        clear hns hg2
        go_upto_region 8 with (at_lookup; refine wpList_lookup_is rfl _ _ 101 true rfl 3 keyI Try.underlying101 (Try.zeroValue3 _) rfl hM x rfl hokey ?_)
        clear hg
        go_upto_region 9 with (first
          | (with_reducible refine wpList_len_is rfl _ 101 rfl Try.underlying101 rfl hM ?_)
          | (with_reducible refine wpList_update_new rfl _ _ _ 101 rfl 3 keyI Try.underlying101 rfl hM x rfl hokey HG.out _ rfl ?_; intro w4 hM5 hg4))
        have hown5 := hown.kept hg4 (.inr (by simp [Value.ownBlock]))
        have hE6 : Ext w w4 := Below.grown hE hg4 hE.size (fun k hk => by cases hk; exact Nat.le_refl _)
        have hcur : ∃ u, w4.cell? ⟨w.heap.size + 1, k, none⟩ = some u := by
          rw [hown5.cellAt k (by omega)]
          exact ⟨_, List.getElem?_eq_getElem (by rw [hown5.1]; omega)⟩
        obtain ⟨u1, hcur⟩ := hcur
        have hfz := hown5.frozenAt k
        clear hg4 hM hown hE
        go_wp2_with (at_lookup; refine wpList_lookup_is rfl _ _ 101 false rfl 3 keyI Try.underlying101 (Try.zeroValue3 _) rfl hM5 x rfl hokey ?_; rw [HG2.out])
        refine ⟨⟨k + 1, by omega, by go_num, hE6.setCell (by simp) _, by rw [HNS.out]; exact hM5.setCell _ (by simp) _, HRES.out _ (hown5.stored k _).1⟩, ?_⟩
        simp [intOf]; omega
    · have hk' : k = l.length := by omega
      subst hk'
      go_wp2
      go_ret
      rw [Nat.sub_self, List.replicate_zero, List.append_nil, List.take_of_length_le (Nat.le_of_eq HRL.out)] at hown
      obtain ⟨A, c', hA, hle, hcs⟩ := cells_of_owns hown
      cases hA
      have hn := HRL.out
      exact ⟨⟨.slice (some ⟨w.heap.size + 1, 0, none⟩) l.length l.length, rfl, ⟨_, by rw [hn], hcs, Nat.le_refl _, by unfold lenMax; omega⟩⟩, hE⟩
end Go.Proofs.Ytkmcplhgakpneaa
