/- gauntletref07.Partition. -/
import Derived.Test.YtkmcplhgakpneaaN1
import Derived.Test.YtkmcplhgakpneaaM1
namespace Go.Proofs.Ytkmcplhgakpneaa
open Go.RowKit Go.Maps
set_option linter.unusedVariables false
set_option linter.unusedSimpArgs false
attribute [local go_sem] Oper.quietV quietV Oper.gives givesV ext_refl_iff ext_alloc_iff ext_drew_iff ext_drewN_iff

set_option maxRecDepth 100000 in
set_option maxHeartbeats 1000000 in
theorem partition_any (w : World) (kv : Value) (M : List (List Bool)) (n : Nat) (hM : MatC w kv M) (hsq : Square n M) (hn : n ≤ 1000) (eqv : Nat → Nat → Bool) (heq : ∀ s t : Nat, eqv s t = !matAt M s t) :
    Calls Try.prog 34 #[kv] w fun e w' => (∃ u c, e = .returned u ∧ IntsC w' u (partG eqv n).1 c) ∧ Ext w w' := by
  obtain ⟨i0, hi0, hz0, hz1, hz2⟩ := info_parts int_info
  obtain ⟨A, c, vs, rfl, _, _, _, _⟩ := id hM
  have hMl := hsq.1
  rw [hMl] at hM ⊢
  have HSQ := Lib.hid (And.intro hsq heq)
  clear hsq heq hMl
  go_enter Try.func34, Try.ntmps34
  go_wp2
  go_loopw [5, 4, 3] (fun i nv ov wr => ∃ s : Nat, s ≤ n ∧ i = .int .i64 s ∧ nv = .int .i64 (partG eqv s).2 ∧ Ext w wr ∧ wr.ownsRow w.heap.size 3 1 ov s ((partG eqv s).1.map (.int .i64))) (fun i _ _ _ => n - (intOf i).toNat)
  case atStart => exact ⟨0, by omega, rfl, rfl, Ext.refl _, World.ownsRow_nil _ _ _ _⟩
  case round =>
    obtain ⟨s, hs, rfl, rfl, hE, hown⟩ := hrel
    obtain ⟨W2, hW2⟩ : ∃ W, W = wr := ⟨_, rfl⟩
    subst hW2
    by_cases hlt : s < n
    · have hpl := partG_length eqv s
      have hpn := partG_n eqv s
      have hsucc : partG eqv (s + 1) = if lastB eqv (partG eqv s).1 s s < 0 then ((partG eqv s).1 ++ [(partG eqv s).2], (partG eqv s).2 + 1) else ((partG eqv s).1 ++ [lastB eqv (partG eqv s).1 s s], (partG eqv s).2) := rfl
      generalize (partG eqv s).1 = out at *
      generalize (partG eqv s).2 = nn at *
      have HS := Lib.hid hsucc
      have HPL := Lib.hid hpl
      clear hsucc hpl
      go_wp2
      go_loop [7, 6] (fun tv bv => ∃ t : Nat, t ≤ s ∧ tv = .int .i64 t ∧ bv = .int .i64 (lastB eqv out s t)) (fun tv _ => s - (intOf tv).toNat)
      case atStart => exact ⟨0, by omega, rfl, rfl⟩
      case round =>
        obtain ⟨t, ht, rfl, rfl⟩ := hrel
        by_cases htl : t < s
        · obtain ⟨b, o, c, b', o', c', hv, hb, m0, hb', m1⟩ := (hM.ext hE).at_int HSQ.out.1 (x := (s : Int)) (y := (t : Int)) ⟨by omega, by omega⟩ ⟨by omega, by omega⟩
          cases hv
          rw [Int.toNat_natCast] at m0 m1
          have hq := HSQ.out.2 s t
          have hls : lastB eqv out s (t + 1) = if eqv s t then out.getD t 0 else lastB eqv out s t := rfl
          obtain ⟨g, cap, rfl⟩ := ownsRow_pos hown (by omega)
          have ho := hown.cellAt t (by omega)
          rw [List.getElem?_map, List.getElem?_eq_getElem (show t < out.length by rw [HPL.out]; exact htl), Option.map_some] at ho
          rw [getD_lt (show t < out.length by rw [HPL.out]; exact htl)] at hls
          rw [hq] at hls
          cases hmb : matAt M s t with
          | true =>
            rw [hmb] at hls m1
            have HL := Lib.hid hls
            clear hls hmb hq
            go_wp2
            go_round
            case rel => exact ⟨t + 1, by omega, by go_num, by rw [HL.out]; rfl⟩
            case measure => simp [intOf]; omega
          | false =>
            rw [hmb] at hls m1
            have HL := Lib.hid hls
            clear hls hmb hq
            go_wp2
            go_round
            case rel => exact ⟨t + 1, by omega, by go_num, by rw [HL.out]; rfl⟩
            case measure => simp [intOf]; omega
        · have hts : t = s := by omega
          subst hts
          generalize lastB eqv out t t = L at *
          by_cases hL : L < 0
          · have hs1 := HS.out
            rw [if_pos hL] at hs1
            have H1 := Lib.hid hs1
            clear hs1 HS
            go_wp2_with (at_builtin; refine wpList_append_own _ rfl _ _ 29 rfl w.heap.size 3 i0 (.int .i64 0) 1 8 Try.underlying29 hi0 hz0 hz1 hz2 rfl (by decide) _ _ _ rfl (hown.alloc _) ⟨W2.heap.size, 0, none⟩ 1 1 [.int .i64 nn] rfl rfl (cell_one_new _ _ _) (ints_oneCell _ [nn]) (by unfold maxLen; omega) (by omega) (by have := hE.size; simp; omega) ?_; intro v3 w3 hown3 hg3 _; have hE3 := ext_grown (hE.alloc _) (hown.alloc _) (Nat.le_refl _) hg3)
            go_roundw
            case rel => exact ⟨t + 1, by omega, by go_num, by rw [H1.out], hE3, by rw [H1.out]; simpa using hown3⟩
            case measure => simp [intOf]; omega
          · have hs1 := HS.out
            rw [if_neg hL] at hs1
            have H1 := Lib.hid hs1
            clear hs1 HS
            go_wp2_with (at_builtin; refine wpList_append_own _ rfl _ _ 29 rfl w.heap.size 3 i0 (.int .i64 0) 1 8 Try.underlying29 hi0 hz0 hz1 hz2 rfl (by decide) _ _ _ rfl (hown.alloc _) ⟨W2.heap.size, 0, none⟩ 1 1 [.int .i64 L] rfl rfl (cell_one_new _ _ _) (ints_oneCell _ [L]) (by unfold maxLen; omega) (by omega) (by have := hE.size; simp; omega) ?_; intro v3 w3 hown3 hg3 _; have hE3 := ext_grown (hE.alloc _) (hown.alloc _) (Nat.le_refl _) hg3)
            go_roundw
            case rel => exact ⟨t + 1, by omega, by go_num, by rw [H1.out], hE3, by rw [H1.out]; simpa using hown3⟩
            case measure => simp [intOf]; omega
    · have hsn : s = n := by omega
      subst hsn
      have hpl := partG_length eqv s
      obtain ⟨cw, hwi⟩ := ints_of_owns (by rw [hpl]; exact hown) (by rw [hpl]; unfold lenMax; omega)
      go_wp2
      go_ret
      exact ⟨⟨_, _, rfl, hwi⟩, hE⟩
end Go.Proofs.Ytkmcplhgakpneaa
