/- gauntletref02.Of, gauntletref02.Count; (gauntletlaw01.W).Of, (gauntletlaw02.P).Of. -/
import Derived.Test.YtkmcplhgakpneaaN0
import Derived.Test.YtkmcplhgakpneaaM1
namespace Go.Proofs.Ytkmcplhgakpneaa
open Go.RowKit Go.Maps
set_option linter.unusedVariables false
set_option linter.unusedSimpArgs false
attribute [local go_sem] Oper.quietV quietV Oper.gives givesV ext_refl_iff ext_alloc_iff ext_drew_iff ext_drewN_iff

def eqvL (l : List Int) (s t : Nat) : Bool := l.getD t 0 == l.getD s 0
theorem partG_eqv (l : List Int) : (partG (eqvL l) l.length).1 = namedL l := by
  have := (partG_named (eqvL l) l (fun s hs t ht => by unfold eqvL; rw [getD_lt hs, getD_lt (show t < l.length by omega)]) l.length (Nat.le_refl _)).1
  rw [this, List.take_length]

set_option maxRecDepth 100000 in
set_option maxHeartbeats 1000000 in
theorem of_any (w : World) (lv : Value) (l : List Int) (cl : Nat) (hl : IntsC w lv l cl) (hl5 : l.length ≤ 100000) :
    Calls Try.prog 39 #[lv] w fun e w' => (∃ u c, e = .returned u ∧ IntsC w' u (namedL l) c) ∧ Ext w w' := by
  obtain ⟨i0, hi0, hz0, hz1, hz2⟩ := info_parts int_info
  obtain ⟨A, rfl, hcl, _, hm⟩ := hl
  unfold lenMax at hm
  have hres := partG_eqv l
  have HRES := Lib.hid hres
  clear hres
  generalize heqv : eqvL l = eqv at *
  go_enter Try.func39, Try.ntmps39
  go_wp2
  go_loopw [5, 4, 3] (fun i nv ov wr => ∃ s : Nat, s ≤ l.length ∧ i = .int .i64 s ∧ nv = .int .i64 (partG eqv s).2 ∧ Ext w wr ∧ wr.ownsRow w.heap.size 3 1 ov s ((partG eqv s).1.map (.int .i64))) (fun i _ _ _ => l.length - (intOf i).toNat)
  case atStart => exact ⟨0, by omega, rfl, rfl, Ext.refl _, World.ownsRow_nil _ _ _ _⟩
  case round =>
    obtain ⟨s, hs, rfl, rfl, hE, hown⟩ := hrel
    obtain ⟨W2, hW2⟩ : ∃ W, W = wr := ⟨_, rfl⟩
    subst hW2
    have HEQ := Lib.hid heqv
    clear heqv
    by_cases hlt : s < l.length
    · have hpl := partG_length eqv s
      have hpn := partG_n eqv s
      have hsucc : partG eqv (s + 1) = if lastB eqv (partG eqv s).1 s s < 0 then ((partG eqv s).1 ++ [(partG eqv s).2], (partG eqv s).2 + 1) else ((partG eqv s).1 ++ [lastB eqv (partG eqv s).1 s s], (partG eqv s).2) := rfl
      generalize (partG eqv s).1 = out at *
      generalize (partG eqv s).2 = nn at *
      have HS := Lib.hid hsucc
      have HPL := Lib.hid hpl
      clear hsucc hpl
      obtain ⟨b, o, rfl, hb, c0⟩ := (hcl.ext hE).at_int hlt
      have c0 : ∀ w', Ext W2 w' → w'.cell? ⟨b, o + s, none⟩ = some (.int .i64 l[s]) := fun w' h => h.cell c0
      go_wp2
      go_loopw [7, 6] (fun tv bv w3 => ∃ t : Nat, t ≤ s ∧ tv = .int .i64 t ∧ bv = .int .i64 (lastB eqv out s t) ∧ Ext W2 w3) (fun tv _ _ => s - (intOf tv).toNat)
      case atStart => exact ⟨0, by omega, rfl, rfl, Ext.refl _⟩
      case round =>
        obtain ⟨t, ht, rfl, rfl, hE2⟩ := hrel
        obtain ⟨W3, hW3⟩ : ∃ W, W = wr := ⟨_, rfl⟩
        subst hW3
        have hown3 := ownsRow_ext hown hE2
        by_cases htl : t < s
        · obtain ⟨b', o', hA, hb', c1⟩ := (hcl.ext (hE.trans hE2)).at_int (show t < l.length by omega)
          cases hA
          have c0 := c0 _ hE2
          have hsI : (s : Int) < (l.length : Int) := by omega
          have htI : (t : Int) < (l.length : Int) := by omega
          have hq : eqv s t = (l[t] == l[s]) := by rw [← HEQ.out]; unfold eqvL; rw [getD_lt hlt, getD_lt (show t < l.length by omega)]
          have hls : lastB eqv out s (t + 1) = if eqv s t then out.getD t 0 else lastB eqv out s t := rfl
          obtain ⟨g, cap, rfl⟩ := ownsRow_pos hown3 (by omega)
          have ho := hown3.cellAt t (by omega)
          rw [List.getElem?_map, List.getElem?_eq_getElem (show t < out.length by rw [HPL.out]; exact htl), Option.map_some] at ho
          rw [getD_lt (show t < out.length by rw [HPL.out]; exact htl), hq] at hls
          generalize l[t] = x1 at *
          generalize l[s] = x2 at *
          clear hq
          cases hx : (x1 == x2) with
          | true =>
            rw [hx] at hls
            have HL := Lib.hid hls
            clear hls
            go_wp2
            go_quiet (fail)
            go_wp2
            go_roundw
            case rel => exact ⟨t + 1, by omega, by go_num, by rw [HL.out]; rfl, hE2.drewN _⟩
            case measure => simp [intOf]; omega
          | false =>
            rw [hx] at hls
            have HL := Lib.hid hls
            clear hls
            go_wp2
            go_quiet (fail)
            go_wp2
            go_roundw
            case rel => exact ⟨t + 1, by omega, by go_num, by rw [HL.out]; rfl, hE2.drewN _⟩
            case measure => simp [intOf]; omega
        · have hts : t = s := by omega
          subst hts
          have hEw := hE.trans hE2
          clear hown c0
          generalize lastB eqv out t t = L at *
          by_cases hL : L < 0
          · have hs1 := HS.out
            rw [if_pos hL] at hs1
            have H1 := Lib.hid hs1
            clear hs1 HS
            go_wp2_with (at_builtin; refine wpList_append_own _ rfl _ _ 29 rfl w.heap.size 3 i0 (.int .i64 0) 1 8 Try.underlying29 hi0 hz0 hz1 hz2 rfl (by decide) _ _ _ rfl (hown3.alloc _) ⟨W3.heap.size, 0, none⟩ 1 1 [.int .i64 nn] rfl rfl (cell_one_new _ _ _) (ints_oneCell _ [nn]) (by unfold maxLen; omega) (by omega) (by have := hEw.size; simp; omega) ?_; intro v3 w3 hown3' hg3 _; have hE3 := ext_grown (hEw.alloc _) (hown3.alloc _) (Nat.le_refl _) hg3)
            go_roundw
            case rel => exact ⟨t + 1, by omega, by go_num, by rw [H1.out], hE3, by rw [H1.out]; simpa using hown3'⟩
            case measure => simp [intOf]; omega
          · have hs1 := HS.out
            rw [if_neg hL] at hs1
            have H1 := Lib.hid hs1
            clear hs1 HS
            go_wp2_with (at_builtin; refine wpList_append_own _ rfl _ _ 29 rfl w.heap.size 3 i0 (.int .i64 0) 1 8 Try.underlying29 hi0 hz0 hz1 hz2 rfl (by decide) _ _ _ rfl (hown3.alloc _) ⟨W3.heap.size, 0, none⟩ 1 1 [.int .i64 L] rfl rfl (cell_one_new _ _ _) (ints_oneCell _ [L]) (by unfold maxLen; omega) (by omega) (by have := hEw.size; simp; omega) ?_; intro v3 w3 hown3' hg3 _; have hE3 := ext_grown (hEw.alloc _) (hown3.alloc _) (Nat.le_refl _) hg3)
            go_roundw
            case rel => exact ⟨t + 1, by omega, by go_num, by rw [H1.out], hE3, by rw [H1.out]; simpa using hown3'⟩
            case measure => simp [intOf]; omega
    · have hsn : s = l.length := by omega
      subst hsn
      have hpl := partG_length eqv l.length
      obtain ⟨cw, hwi⟩ := ints_of_owns (by rw [hpl]; exact hown) (by rw [hpl]; unfold lenMax; omega)
      have HW := Lib.hid hwi
      clear hwi hpl
      go_wp2
      go_ret
      exact ⟨⟨_, _, rfl, by rw [← HRES.out]; exact HW.out⟩, hE⟩

def U8C (w : World) (v : Value) (xs : List Nat) (c : Nat) : Prop := ∃ A, v = .slice A xs.length c ∧ Cells w A (xs.map (fun (x : Nat) => Value.int .u8 (x : Int))) ∧ xs.length ≤ c ∧ xs.length ≤ maxLen ∧ ∀ x ∈ xs, x < 256
theorem U8C.ext {w w' : World} {v : Value} {xs : List Nat} {c : Nat} (h : U8C w v xs c) (e : Ext w w') : U8C w' v xs c := by
  obtain ⟨A, hv, hc, hr⟩ := h
  exact ⟨A, hv, hc.ext e, hr⟩
theorem Cells.at_u8 {w : World} {A : Option Addr} {xs : List Nat} (h : Cells w A (xs.map (fun (x : Nat) => Value.int .u8 (x : Int)))) {k : Nat} (hk : k < xs.length) :
    ∃ b o, A = some ⟨b, o, none⟩ ∧ b < w.heap.size ∧ w.cell? ⟨b, o + k, none⟩ = some (.int .u8 (xs[k] : Nat)) := by
  obtain ⟨b, o, hA, hb, hc⟩ := h (by simp; omega)
  exact ⟨b, o, hA, hb, hc k _ (by simp [hk])⟩

/-- The word that is read from bytes. -/
def wordOf (xs : List Nat) (n : Nat) : List Int := (xs.take 12).map (fun x => ((x % n : Nat) : Int))
set_option maxRecDepth 100000 in
set_option maxHeartbeats 1000000 in
theorem wOf_any (w : World) (xv : Value) (xs : List Nat) (cx : Nat) (hx : U8C w xv xs cx) (n : Nat) (hn : 1 ≤ n ∧ n ≤ 1000) :
    Calls Try.prog 21 #[.agg #[xv], .int .i64 n] w fun e w' => (∃ u c, e = .returned u ∧ IntsC w' u (wordOf xs n) c) ∧ Ext w w' := by
  obtain ⟨i0, hi0, hz0, hz1, hz2⟩ := info_parts int_info
  obtain ⟨A, rfl, hcl, _, hm, hb⟩ := hx
  unfold maxLen at hm
  have HB := Lib.hid hb
  clear hb
  go_enter Try.func21, Try.ntmps21
  go_upto_region 1 with fail
  refine wp_named ?_
  intro W1 hW1
  have hE1 : Ext w W1 := by rw [hW1]; exact (Ext.refl _).alloc _
  have k0 : ∀ w', Ext W1 w' → w'.cell? ⟨w.heap.size, 0, none⟩ = some (.slice A xs.length cx) := fun w' h => h.cell (by rw [hW1]; simp [go_sem])
  clear hW1
  have hn0 : ¬ n = 0 := by omega
  go_wp2
  go_loopw [6, 5] (fun i ov wr => ∃ k : Nat, k ≤ xs.length ∧ k ≤ 12 ∧ i = .int .i64 k ∧ Ext W1 wr ∧ wr.ownsRow W1.heap.size 3 1 ov k (((xs.take k).map (fun x => ((x % n : Nat) : Int))).map (.int .i64))) (fun i _ _ => 12 - (intOf i).toNat)
  case atStart => exact ⟨0, by omega, by omega, rfl, Ext.refl _, World.ownsRow_nil _ _ _ _⟩
  case round =>
    obtain ⟨k, hk, hk12, rfl, hE, hown⟩ := hrel
    obtain ⟨W2, hW2⟩ : ∃ W, W = wr := ⟨_, rfl⟩
    subst hW2
    have q0 := k0 _ hE
    by_cases hlt : k < xs.length
    · have hltI : (k : Int) < (xs.length : Int) := by omega
      by_cases h12 : k < 12
      · have h12I : (k : Int) < 12 := by omega
        obtain ⟨b, o, rfl, hb, c0⟩ := (hcl.ext (hE1.trans hE)).at_u8 hlt
        have hx8 := HB.out _ (List.getElem_mem hlt)
        have hsn : (xs.take (k + 1)).map (fun x => ((x % n : Nat) : Int)) = (xs.take k).map (fun x => ((x % n : Nat) : Int)) ++ [((xs[k] % n : Nat) : Int)] := by
          rw [List.take_succ_eq_append_getElem hlt, List.map_append]; rfl
        generalize xs[k] = x at *
        have HS := Lib.hid hsn
        clear hsn
        go_wp2_with (at_builtin; refine wpList_append_own _ rfl _ _ 29 rfl W1.heap.size 3 i0 (.int .i64 0) 1 8 Try.underlying29 hi0 hz0 hz1 hz2 rfl (by decide) _ _ _ rfl (hown.alloc _) ⟨W2.heap.size, 0, none⟩ 1 1 [.int .i64 ((x : Int) % (n : Int))] rfl rfl (cell_one_new _ _ _) (ints_oneCell _ [(x : Int) % (n : Int)]) (by unfold maxLen; omega) (by omega) (by have := hE.size; simp; omega) ?_; intro v3 w3 hown3 hg3 _; have hE3 := ext_grown (hE.alloc _) (hown.alloc _) (Nat.le_refl _) hg3)
        go_roundw
        case rel =>
          refine ⟨k + 1, by omega, by omega, by go_num, hE3, ?_⟩
          rw [HS.out, List.map_append]
          have : [((x % n : Nat) : Int)].map (Value.int .i64) = [.int .i64 ((x : Int) % (n : Int))] := by simp
          rw [this]; exact hown3
        case measure => simp [intOf]; omega
      · have h12I : ¬ (k : Int) < 12 := by omega
        have hk12 : k = 12 := by omega
        subst hk12
        have hlen : ((xs.take 12).map (fun x => ((x % n : Nat) : Int))).length = 12 := by simp; omega
        obtain ⟨cw, hwi⟩ := ints_of_owns (by rw [hlen]; exact hown) (by rw [hlen]; unfold lenMax; omega)
        have HW := Lib.hid hwi
        clear hwi hlen
        go_wp2
        go_ret
        exact ⟨⟨_, rfl, _, HW.out⟩, hE1.trans hE⟩
    · have hltI : ¬ (k : Int) < (xs.length : Int) := by omega
      have hkx : k = xs.length := by omega
      have htk : wordOf xs n = (xs.take k).map (fun x => ((x % n : Nat) : Int)) := by
        unfold wordOf
        rw [List.take_of_length_le (show xs.length ≤ 12 by omega), List.take_of_length_le (show xs.length ≤ k by omega)]
      have hlen : ((xs.take k).map (fun x => ((x % n : Nat) : Int))).length = k := by simp; omega
      obtain ⟨cw, hwi⟩ := ints_of_owns (by rw [hlen]; exact hown) (by rw [hlen]; unfold lenMax; omega)
      rw [← htk] at hwi
      have HW := Lib.hid hwi
      clear hwi hlen htk hkx
      go_wp2
      go_ret
      exact ⟨⟨_, rfl, _, HW.out⟩, hE1.trans hE⟩
end Go.Proofs.Ytkmcplhgakpneaa
