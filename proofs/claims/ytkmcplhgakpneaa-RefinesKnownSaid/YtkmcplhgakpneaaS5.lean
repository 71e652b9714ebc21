/- refines.Rounds, refines.Classes. -/
import Derived.Test.YtkmcplhgakpneaaS4
import Derived.Test.YtkmcplhgakpneaaB1
namespace Go.Proofs.Ytkmcplhgakpneaa
open Go.RowKit Go.Maps Go.Shelf
set_option linter.unusedVariables false
set_option linter.unusedSimpArgs false
attribute [local go_sem] Oper.quietV quietV Oper.gives givesV ext_refl_iff ext_alloc_iff ext_drew_iff ext_drewN_iff
attribute [local go_sem] Oper.semAt_some

/-- Behind the last round nothing changes. -/
theorem iterL_stays (m : Mach) {M : Nat} (h : iterL m M = iterL m (M + 1)) : ∀ j, iterL m (M + j) = iterL m M
  | 0 => rfl
  | j + 1 => by
    rw [show M + (j + 1) = (M + j) + 1 by omega, iterL, iterL_stays m h j, ← iterL, ← h]

theorem FitC.own1 {xs : List Int} {v : Value} {W W' : World} {row : Option Nat} (h : FitC W v xs) (hg : W.grownBy W' row) (hr : ∀ r, row = some r → ∃ o : Obj, W.heap[r]? = some o ∧ o.isCells = false) : FitC W' v xs :=
  FitC.own (xs := fun _ => xs) (0, v) W W' row h hg hr

set_option maxRecDepth 100000 in
set_option maxHeartbeats 600000 in
theorem Rounds_bad (w : World) (mv : Value) (m : Mach) (hm : MachV w mv m) (k : Int) (h : checkM m ≠ 0 ∨ k < 0) :
    Calls Try.prog 10 #[mv, .int .i64 k] w fun e w' => e = .returned (.tuple #[.slice none 0 0, .int .i64 (if checkM m ≠ 0 then checkM m else 1)]) ∧ Ext w w' := by
  obtain ⟨rv, c, rfl, hr⟩ := id hm
  go_enter Try.func10, Try.ntmps10
  go_upto_region 1 with fail
  refine wp_named ?_
  intro W1 hW1
  have hE1 : Ext w W1 := by rw [hW1]; exact ((Ext.refl _).alloc _).alloc _
  have k0 : ∀ w', Ext W1 w' → w'.cell? ⟨w.heap.size, 0, none⟩ = some (.int .i64 m.ins) := fun w' h => h.cell (by rw [hW1]; simp [go_sem])
  have k1 : ∀ w', Ext W1 w' → w'.cell? ⟨w.heap.size, 1, none⟩ = some (.int .i64 m.outs) := fun w' h => h.cell (by rw [hW1]; simp [go_sem])
  have k2 : ∀ w', Ext W1 w' → w'.cell? ⟨w.heap.size, 2, none⟩ = some rv := fun w' h => h.cell (by rw [hW1]; simp [go_sem])
  have k3 : ∀ w', Ext W1 w' → w'.cell? ⟨w.heap.size + 1, 0, none⟩ = some (.int .i64 k) := fun w' h => h.cell (by rw [hW1]; simp [go_sem])
  clear hW1
  have hck := check_any W1 _ m (hm.ext hE1)
  by_cases h0 : checkM m = 0
  · have hk : k < 0 := by rcases h with h | h; exact absurd h0 h; exact h
    rw [h0] at hck
    go_wp2_with (go_at_call 30; refine hck.mono ?_; rintro e W2 ⟨rfl, hE2⟩)
    go_ret2
    exact ⟨by simp, hE1.trans hE2⟩
  · go_wp2_with (go_at_call 30; refine hck.mono ?_; rintro e W2 ⟨rfl, hE2⟩)
    go_ret2
    refine ⟨?_, hE1.trans hE2⟩
    show Ending.returned (.tuple #[.slice none 0 0, .int .i64 (checkM m)]) = _
    first | rfl | rw [if_pos h0]

set_option maxRecDepth 100000 in
set_option maxHeartbeats 1000000 in
theorem Rounds_any (w : World) (mv : Value) (m : Mach) (hm : MachV w mv m) (hV : Valid m) (K : Nat) (hK : K ≤ 1000000) (M : Nat) (hstep : ∀ k, k < M → iterL m k ≠ iterL m (k + 1)) (hM : iterL m M = iterL m (M + 1)) :
    Calls Try.prog 10 #[mv, .int .i64 K] w fun e w' => (∃ v, e = .returned (.tuple #[v, .int .i64 0]) ∧ FitC w' v (iterL m K)) ∧ Ext w w' := by
  obtain ⟨rv, c, rfl, hr⟩ := id hm
  refine (callsIn_wide (n := 0)).1 ?_
  refine callsIn_of_wp_marks Try.func10 rfl trivial ?_ rfl
  simp only [Try.ntmps10, List.size_toArray, List.length_cons, List.length_nil, Nat.reduceAdd, Nat.reduceSub, Array.replicate_succ, Array.replicate_zero, List.push_toArray, List.append_toArray, List.nil_append, List.cons_append]
  have hck := fun (W1 : World) (hE : Ext w W1) => check_any W1 _ m (hm.ext hE)
  have hrd := fun (W1 : World) (hE : Ext w W1) => rounds_any W1 m rv (hm.ext hE)
  rw [(valid_iff m).2 hV] at hck
  have b0 : ∀ (A : World), Ext ((w.alloc (.cells #[.int .i64 m.ins, .int .i64 m.outs, rv] 27)).alloc (.cells #[.int .i64 K] 3)) A → A.cell? ⟨w.heap.size, 0, none⟩ = some (.int .i64 m.ins) ∧ A.cell? ⟨w.heap.size, 1, none⟩ = some (.int .i64 m.outs) ∧ A.cell? ⟨w.heap.size, 2, none⟩ = some rv ∧ A.cell? ⟨w.heap.size + 1, 0, none⟩ = some (.int .i64 K) ∧ A.frozen? ⟨w.heap.size + 1, 0, none⟩ = false := fun A hA =>
    ⟨hA.cell (by simp [go_sem]), hA.cell (by simp [go_sem]), hA.cell (by simp [go_sem]), hA.cell (by simp [go_sem]), by
      rw [World.frozen?_of_block (hA.block (w.heap.size + 1) (by simp))]; simp [go_sem]⟩
  gi_wp2_with (first
    | (refine ⟨trivial, rfl, ?_⟩; gi_at_call 30; refine CallsIn.mono (callsIn_wide.2 (hck _ (((Ext.refl _).alloc _).alloc _))) ?_; rintro e W2 ⟨rfl, hE2⟩; obtain ⟨q0, q1, q2, q3, q4⟩ := b0 W2 hE2)
    | (refine ⟨trivial, rfl, ?_⟩; gi_at_call 31; refine CallsIn.mono (callsIn_wide.2 (hrd _ (((((Ext.refl w).alloc _).alloc _).trans hE2).alloc _))) ?_; rintro e W3 ⟨rfl, hE3, hlt3, r0, r1, r2⟩))
  have hE23 : Ext (W2.alloc (.cells #[.slice none 0 0] 29)) W3 := hE3
  have hw2 : Ext w W2 := (((Ext.refl w).alloc _).alloc _).trans hE2
  have hw3 : Ext w W3 := (hw2.alloc _).trans hE3
  have hW23 : Ext W2 W3 := ((Ext.refl W2).alloc _).trans hE3
  have hsz2 : w.heap.size + 1 < W2.heap.size := by have := hE2.size; simp at this; omega
  have o0 : W3.cell? ⟨W2.heap.size, 0, none⟩ = some (.slice none 0 0) := hE3.cell (by simp [go_sem])
  have o1 : W3.frozen? ⟨W2.heap.size, 0, none⟩ = false := by
    rw [World.frozen?_of_block (hE3.block W2.heap.size (by simp))]; simp [go_sem]
  have p0 := hW23.cell q3
  have p1 : W3.frozen? ⟨w.heap.size + 1, 0, none⟩ = false := by
    rw [World.frozen?_of_block (hW23.block (w.heap.size + 1) hsz2)]; exact q4
  rw [World.size_alloc] at r0 r1 r2
  have hs3 : W2.heap.size + 1 < W3.heap.size := by rw [World.size_alloc] at hlt3; exact hlt3
  have HM := Lib.hid hM
  clear hM hck hrd b0 hE3 hE23 q0 q1 q2 q3 q4 hlt3
  refine wpIn_rangeFunc_good (gf := 46) (lb := #[.pointer (some ⟨W2.heap.size + 1, 0, none⟩)]) rfl (enters_of Try.func46 (by kernel_rfl) rfl)
    (rounds_seq w W3 m hV rv hm (W2.heap.size + 1) (W2.heap.size + 1) (Nat.le_refl _) (by omega) hw3 r0 r1 r2 (M + 1) (fun k hk => hstep k (by omega)) ⟨M, rfl, HM.out⟩) rfl hw3
    (fun k W => k ≤ K ∧ (∃ v, W.cell? ⟨W2.heap.size, 0, none⟩ = some v ∧ (0 < k → FitC W v (iterL m (k - 1)))) ∧ W.frozen? ⟨W2.heap.size, 0, none⟩ = false ∧
      W.cell? ⟨w.heap.size + 1, 0, none⟩ = some (.int .i64 ((K - k : Nat) : Int)) ∧ W.frozen? ⟨w.heap.size + 1, 0, none⟩ = false)
    (fun id k W => id = 0 ∧ ∃ v, W.cell? ⟨W2.heap.size, 0, none⟩ = some v ∧ FitC W v (iterL m K))
    ?own ?ownx ?owng ⟨by omega, ⟨_, o0, fun h => by omega⟩, o1, p0, p1⟩
    (fun x => { tmps := #[.agg #[.int .i64 m.ins, .int .i64 m.outs, rv], .int .i64 K, .pointer (some ⟨w.heap.size, 0, none⟩), .pointer (some ⟨w.heap.size + 1, 0, none⟩), .slice none 0 0, .int .i64 0, .int .i64 0, .pointer (some ⟨W2.heap.size, 0, none⟩), x,
       .agg #[.int .i64 m.ins, .int .i64 m.outs, rv], .int .i64 0, .int .i64 0, .bool false, undef, .int .i64 K, .bool (decide ((K : Int) < 0)), .agg #[.int .i64 m.ins, .int .i64 m.outs, rv],
       .func (.func 46) #[] #[.pointer (some ⟨W2.heap.size + 1, 0, none⟩)], x, undef, undef, undef, undef, undef, undef], defers := [] }) ?assign ?body ?done ?stop
  case own =>
    rintro k A B row ⟨h1, ⟨v, h2, h3⟩, h4, h5, h6⟩ hg hr
    exact ⟨h1, ⟨v, cell_kept h2 hg hr, fun hk => FitC.own1 (h3 hk) hg hr⟩, (frozen_kept h2 hg hr).trans h4, cell_kept h5 hg hr, (frozen_kept h5 hg hr).trans h6⟩
  case ownx =>
    rintro id k A B row ⟨h1, v, h2, h3⟩ hg hr
    exact ⟨h1, v, cell_kept h2 hg hr, FitC.own1 h3 hg hr⟩
  case owng =>
    rintro ⟨k, x⟩ A B row ⟨h1, h2⟩ hg hr
    exact ⟨FitC.own1 h1 hg hr, h2⟩
  case assign =>
    intro l x W Q hQ
    gi_wp2
    exact hQ
  case body =>
    rintro l k x W ⟨h1, ⟨v, h2, h3⟩, h4, h5, h6⟩ hEW ⟨hx, hxb⟩ hkM
    have hx' := hx
    obtain ⟨Ax, rfl, -⟩ := hx'
    gi_wp2
    · rename_i hz
      have hkK : k = K := by
        have : ((K - k : Nat) : Int) = 0 := by simpa using hz
        omega
      subst hkK
      have hu : KeepUp (W2.heap.size + 1) W (W.setCell ⟨W2.heap.size, 0, none⟩ (.slice Ax (iterL m k).length (iterL m k).length)) := (KeepUp.refl _ _).setCell (p := ⟨W2.heap.size, 0, none⟩) (by simp) _
      exact ⟨KeepsOthers.setCell _ _ _, hu, hEW.setCell (p := ⟨W2.heap.size, 0, none⟩) hw2.size _, rfl, _, World.cell?_setCell_same' _ _ _ (by rw [h2]; rfl), IntsC.up hx hxb hu⟩
    · rename_i hz
      have hkK : k + 1 ≤ K := by
        have : ((K - k : Nat) : Int) ≠ 0 := by simpa using hz
        omega
      have hu : KeepUp (W2.heap.size + 1) W ((W.setCell ⟨W2.heap.size, 0, none⟩ (.slice Ax (iterL m k).length (iterL m k).length)).setCell ⟨w.heap.size + 1, 0, none⟩ (.int .i64 ((K - (k + 1) : Nat) : Int))) :=
        ((KeepUp.refl _ _).setCell (p := ⟨W2.heap.size, 0, none⟩) (by simp) _).setCell (p := ⟨w.heap.size + 1, 0, none⟩) (by simp; omega) _
      have hv : ((K - k : Nat) : Int) - 1 = ((K - (k + 1) : Nat) : Int) := by omega
      rw [hv]
      have hne : (⟨w.heap.size + 1, 0, none⟩ : Addr).block ≠ (⟨W2.heap.size, 0, none⟩ : Addr).block := by simp; omega
      refine ⟨(KeepsOthers.setCell _ _ _).trans (KeepsOthers.setCell _ _ _), hu, (hEW.setCell (p := ⟨W2.heap.size, 0, none⟩) hw2.size _).setCell (p := ⟨w.heap.size + 1, 0, none⟩) (by simp) _, hkK, ⟨_, ?_, fun _ => IntsC.up hx hxb hu⟩, ?_, ?_, ?_⟩
      · rw [World.cell?_of_block (Below.heap_setCell _ _ _ _ (Ne.symm hne))]
        exact World.cell?_setCell_same' _ _ _ (by rw [h2]; rfl)
      · rw [World.frozen?_setCell, World.frozen?_setCell]; exact h4
      · exact World.cell?_setCell_same' _ _ _ (by rw [World.cell?_of_block (Below.heap_setCell _ _ _ _ hne), h5]; rfl)
      · rw [World.frozen?_setCell, World.frozen?_setCell]; exact h6
  case done =>
    rintro D W hD ⟨h1, ⟨v, h2, h3⟩, h4, h5, h6⟩ hEW hDef
    have hx := h3 (by omega)
    have hx' := hx
    obtain ⟨Ax, rfl, -⟩ := hx'
    gi_wp2
    refine ⟨by simp, .inl ⟨_, _, rfl, run_takeDeferred hDef, ?_⟩⟩
    refine ⟨_, results_tmp2 rfl _ _ _, ⟨_, rfl, ?_⟩, ext_put hw3 hEW hD _⟩
    have hst := iterL_stays m HM.out (K - M)
    rw [show M + (K - M) = K by omega] at hst
    rw [hst]
    exact IntsC.up hx (b := 0) (fun _ _ => Nat.zero_le _) (KeepUp.putObj _ hDef rfl)
  case stop =>
    rintro D id k W hD hk ⟨rfl, v, h2, hx⟩ hEW hDef
    have hx' := hx
    obtain ⟨Ax, rfl, -⟩ := hx'
    gi_wp2
    refine ⟨by simp, .inl ⟨_, _, rfl, run_takeDeferred hDef, ?_⟩⟩
    exact ⟨_, results_tmp2 rfl _ _ _, ⟨_, rfl, IntsC.up hx (b := 0) (fun _ _ => Nat.zero_le _) (KeepUp.putObj _ hDef rfl)⟩, ext_put hw3 hEW hD _⟩
#print axioms Rounds_any
end Go.Proofs.Ytkmcplhgakpneaa
