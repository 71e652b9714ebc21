/- refines.Classes. -/
import Derived.Test.YtkmcplhgakpneaaS5
namespace Go.Proofs.Ytkmcplhgakpneaa
open Go.RowKit Go.Maps Go.Shelf
set_option linter.unusedVariables false
set_option linter.unusedSimpArgs false
attribute [local go_sem] Oper.quietV quietV Oper.gives givesV ext_refl_iff ext_alloc_iff ext_drew_iff ext_drewN_iff
attribute [local go_sem] Oper.semAt_some

set_option maxRecDepth 100000 in
set_option maxHeartbeats 600000 in
theorem Classes_bad (w : World) (mv : Value) (m : Mach) (hm : MachV w mv m) (h0 : checkM m ≠ 0) :
    Calls Try.prog 16 #[mv] w fun e w' => e = .returned (.tuple #[.slice none 0 0, .int .i64 0, .int .i64 (checkM m)]) ∧ Ext w w' := by
  obtain ⟨rv, c, rfl, hr⟩ := id hm
  go_enter Try.func16, Try.ntmps16
  go_upto_region 1 with fail
  refine wp_named ?_
  intro W1 hW1
  have hE1 : Ext w W1 := by rw [hW1]; exact (((Ext.refl _).alloc _).alloc _).alloc _
  have k0 : ∀ w', Ext W1 w' → w'.cell? ⟨w.heap.size, 0, none⟩ = some (.int .i64 m.ins) := fun w' h => h.cell (by rw [hW1]; simp [go_sem])
  have k1 : ∀ w', Ext W1 w' → w'.cell? ⟨w.heap.size, 1, none⟩ = some (.int .i64 m.outs) := fun w' h => h.cell (by rw [hW1]; simp [go_sem])
  have k2 : ∀ w', Ext W1 w' → w'.cell? ⟨w.heap.size, 2, none⟩ = some rv := fun w' h => h.cell (by rw [hW1]; simp [go_sem])
  have k3 : ∀ w', Ext W1 w' → w'.cell? ⟨w.heap.size + 1, 0, none⟩ = some (.slice none 0 0) ∧ w'.frozen? ⟨w.heap.size + 1, 0, none⟩ = false := fun w' h => by
    have hb : w.heap.size + 1 < W1.heap.size := by rw [hW1]; simp
    rw [World.cell?_of_block (h.block _ hb), World.frozen?_of_block (h.block _ hb), hW1]; simp [go_sem]
  have k4 : ∀ w', Ext W1 w' → w'.cell? ⟨w.heap.size + 2, 0, none⟩ = some (.int .i64 0) ∧ w'.frozen? ⟨w.heap.size + 2, 0, none⟩ = false := fun w' h => by
    have hb : w.heap.size + 2 < W1.heap.size := by rw [hW1]; simp
    rw [World.cell?_of_block (h.block _ hb), World.frozen?_of_block (h.block _ hb), hW1]; simp [go_sem]
  clear hW1
  have hck := check_any W1 _ m (hm.ext hE1)
  go_upto_region 3 with (go_at_call 30; refine hck.mono ?_; rintro e W2 ⟨rfl, hE2⟩)
  obtain ⟨a3, b3⟩ := k3 W2 hE2
  obtain ⟨a4, b4⟩ := k4 W2 hE2
  go_wp2
  refine bodyPost_ret (v := .tuple #[.slice none 0 0, .int .i64 0, .int .i64 (checkM m)]) ?_ rfl ⟨rfl, ((hE1.trans hE2).setCell (p := ⟨w.heap.size + 1, 0, none⟩) (by simp) _).setCell (p := ⟨w.heap.size + 1 + 1, 0, none⟩) (by simp; omega) _⟩
  have u1 : (W2.setCell ⟨w.heap.size + 1, 0, none⟩ (.slice none 0 0)).cell? ⟨w.heap.size + 1, 0, none⟩ = some (.slice none 0 0) := World.cell?_setCell_same' _ _ _ (by rw [a3]; rfl)
  have u2 : ((W2.setCell ⟨w.heap.size + 1, 0, none⟩ (.slice none 0 0)).setCell ⟨w.heap.size + 1 + 1, 0, none⟩ (.int .i64 0)).cell? ⟨w.heap.size + 1, 0, none⟩ = some (.slice none 0 0) := by
    rw [World.cell?_of_block (Below.heap_setCell _ _ _ _ (by simp))]; exact u1
  have u3 : ((W2.setCell ⟨w.heap.size + 1, 0, none⟩ (.slice none 0 0)).setCell ⟨w.heap.size + 1 + 1, 0, none⟩ (.int .i64 0)).cell? ⟨w.heap.size + 1 + 1, 0, none⟩ = some (.int .i64 0) :=
    World.cell?_setCell_same' _ _ _ (by rw [World.cell?_of_block (Below.heap_setCell _ _ _ _ (by simp)), a4]; rfl)
  simp [results, Try.f16, go_sem, u2, u3]

set_option maxRecDepth 100000 in
set_option maxHeartbeats 1000000 in
theorem Classes_any (w : World) (mv : Value) (m : Mach) (hm : MachV w mv m) (hV : Valid m) (M : Nat) (hM6 : M ≤ 1000000) (hstep : ∀ k, k < M → iterL m k ≠ iterL m (k + 1)) (hM : iterL m M = iterL m (M + 1)) :
    Calls Try.prog 16 #[mv] w fun e w' => (∃ v, e = .returned (.tuple #[v, .int .i64 M, .int .i64 0]) ∧ FitC w' v (iterL m M)) ∧ Ext w w' := by
  obtain ⟨rv, c, rfl, hr⟩ := id hm
  refine (callsIn_wide (n := 0)).1 ?_
  refine callsIn_of_wp_marks Try.func16 rfl trivial ?_ rfl
  simp only [Try.ntmps16, List.size_toArray, List.length_cons, List.length_nil, Nat.reduceAdd, Nat.reduceSub, Array.replicate_succ, Array.replicate_zero, List.push_toArray, List.append_toArray, List.nil_append, List.cons_append]
  have hck := fun (W1 : World) (hE : Ext w W1) => check_any W1 _ m (hm.ext hE)
  have hrd := fun (W1 : World) (hE : Ext w W1) => rounds_any W1 m rv (hm.ext hE)
  rw [(valid_iff m).2 hV] at hck
  have b0 : ∀ (A : World), Ext (((w.alloc (.cells #[.int .i64 m.ins, .int .i64 m.outs, rv] 27)).alloc (.cells #[.slice none 0 0] 29)).alloc (.cells #[.int .i64 0] 3)) A → A.cell? ⟨w.heap.size, 0, none⟩ = some (.int .i64 m.ins) ∧ A.cell? ⟨w.heap.size, 1, none⟩ = some (.int .i64 m.outs) ∧ A.cell? ⟨w.heap.size, 2, none⟩ = some rv ∧
     A.cell? ⟨w.heap.size + 1, 0, none⟩ = some (.slice none 0 0) ∧ A.frozen? ⟨w.heap.size + 1, 0, none⟩ = false ∧ A.cell? ⟨w.heap.size + 2, 0, none⟩ = some (.int .i64 0) ∧ A.frozen? ⟨w.heap.size + 2, 0, none⟩ = false := fun A hA => by
    have hb1 := hA.block (w.heap.size + 1) (by simp)
    have hb2 := hA.block (w.heap.size + 2) (by simp)
    refine ⟨hA.cell (by simp [go_sem]), hA.cell (by simp [go_sem]), hA.cell (by simp [go_sem]), ?_, ?_, ?_, ?_⟩
    · rw [World.cell?_of_block hb1]; simp [go_sem]
    · rw [World.frozen?_of_block hb1]; simp [go_sem]
    · rw [World.cell?_of_block hb2]; simp [go_sem]
    · rw [World.frozen?_of_block hb2]; simp [go_sem]
  gi_wp2_with (first
    | (refine ⟨trivial, rfl, ?_⟩; gi_at_call 30; refine CallsIn.mono (callsIn_wide.2 (hck _ ((((Ext.refl _).alloc _).alloc _).alloc _))) ?_; rintro e W2 ⟨rfl, hE2⟩; obtain ⟨q0, q1, q2, q3, q4, q5, q6⟩ := b0 W2 hE2)
    | (refine ⟨trivial, rfl, ?_⟩; gi_at_call 31; refine CallsIn.mono (callsIn_wide.2 (hrd _ ((((((Ext.refl w).alloc _).alloc _).alloc _).trans hE2).setCell (p := ⟨w.heap.size + 1 + 1, 0, none⟩) (by simp; omega) _))) ?_; rintro e W3 ⟨rfl, hE3, hlt3, r0, r1, r2⟩))
  have hw2 : Ext w W2 := ((((Ext.refl w).alloc _).alloc _).alloc _).trans hE2
  have hsz2 : w.heap.size + 2 < W2.heap.size := by have := hE2.size; simp at this; omega
  have hw3 : Ext w W3 := (hw2.setCell (p := ⟨w.heap.size + 1 + 1, 0, none⟩) (by simp; omega) _).trans hE3
  have hs3 : W2.heap.size < W3.heap.size := by simpa using hlt3
  have o0 : W3.cell? ⟨w.heap.size + 1, 0, none⟩ = some (.slice none 0 0) := hE3.cell (by rw [World.cell?_of_block (Below.heap_setCell _ _ _ _ (by simp))]; exact q3)
  have o1 : W3.frozen? ⟨w.heap.size + 1, 0, none⟩ = false := by
    rw [World.frozen?_of_block (hE3.block (w.heap.size + 1) (by simp; omega)), World.frozen?_setCell]; exact q4
  have p0 : W3.cell? ⟨w.heap.size + 1 + 1, 0, none⟩ = some (.int .i64 (-1)) := hE3.cell (World.cell?_setCell_same' _ _ _ (by rw [q5]; rfl))
  have p1 : W3.frozen? ⟨w.heap.size + 1 + 1, 0, none⟩ = false := by
    rw [World.frozen?_of_block (hE3.block (w.heap.size + 1 + 1) (by simp; omega)), World.frozen?_setCell]; exact q6
  have r0' : W3.cell? ⟨W2.heap.size, 0, none⟩ = some (.int .i64 m.ins) := by simpa using r0
  have r1' : W3.cell? ⟨W2.heap.size, 1, none⟩ = some (.int .i64 m.outs) := by simpa using r1
  have r2' : W3.cell? ⟨W2.heap.size, 2, none⟩ = some rv := by simpa using r2
  have HM := Lib.hid hM
  clear hM hck hrd b0 hE3 q0 q1 q2 q3 q4 q5 q6 hlt3 r0 r1 r2
  refine wpIn_rangeFunc_good (gf := 46) (lb := #[.pointer (some ⟨W2.heap.size, 0, none⟩)]) rfl (enters_of Try.func46 (by kernel_rfl) rfl)
    (rounds_seq w W3 m hV rv hm W2.heap.size W2.heap.size (Nat.le_refl _) (by omega) hw3 r0' r1' r2' (M + 1) (fun k hk => hstep k (by omega)) ⟨M, rfl, HM.out⟩) rfl hw3
    (fun k W => (∃ v, W.cell? ⟨w.heap.size + 1, 0, none⟩ = some v ∧ (0 < k → FitC W v (iterL m (k - 1)) ∧ ∀ b, v.ownBlock = some b → W2.heap.size ≤ b)) ∧ W.frozen? ⟨w.heap.size + 1, 0, none⟩ = false ∧
      W.cell? ⟨w.heap.size + 1 + 1, 0, none⟩ = some (.int .i64 ((k : Int) - 1)) ∧ W.frozen? ⟨w.heap.size + 1 + 1, 0, none⟩ = false)
    (fun id k W => False)
    ?own ?ownx ?owng ⟨⟨_, o0, fun h => by omega⟩, o1, p0, p1⟩
    (fun x => { tmps := #[.agg #[.int .i64 m.ins, .int .i64 m.outs, rv], .pointer (some ⟨w.heap.size, 0, none⟩), .pointer (some ⟨w.heap.size + 1, 0, none⟩), .pointer (some ⟨w.heap.size + 1 + 1, 0, none⟩), .int .i64 0, .int .i64 0, x,
       .agg #[.int .i64 m.ins, .int .i64 m.outs, rv], .int .i64 0, .int .i64 0, .bool false, undef, .agg #[.int .i64 m.ins, .int .i64 m.outs, rv],
       .func (.func 46) #[] #[.pointer (some ⟨W2.heap.size, 0, none⟩)], x, undef, undef, undef, undef, undef], defers := [] }) ?assign ?body ?done ?stop
  case own =>
    rintro k A B row ⟨⟨v, h2, h3⟩, h4, h5, h6⟩ hg hr
    exact ⟨⟨v, cell_kept h2 hg hr, fun hk => ⟨FitC.own1 (h3 hk).1 hg hr, (h3 hk).2⟩⟩, (frozen_kept h2 hg hr).trans h4, cell_kept h5 hg hr, (frozen_kept h5 hg hr).trans h6⟩
  case ownx =>
    rintro id k A B row h _ _
    exact h.elim
  case owng =>
    rintro ⟨k, x⟩ A B row ⟨h1, h2⟩ hg hr
    exact ⟨FitC.own1 h1 hg hr, h2⟩
  case assign =>
    intro l x W Q hQ
    gi_wp2
    exact hQ
  case body =>
    rintro l k x W ⟨⟨v, h2, h3⟩, h4, h5, h6⟩ hEW ⟨hx, hxb⟩ hkM
    have hx' := hx
    obtain ⟨Ax, rfl, -⟩ := hx'
    gi_wp2
    have hu : KeepUp W2.heap.size W ((W.setCell ⟨w.heap.size + 1, 0, none⟩ (.slice Ax (iterL m k).length (iterL m k).length)).setCell ⟨w.heap.size + 1 + 1, 0, none⟩ (.int .i64 (((k + 1 : Nat) : Int) - 1))) :=
      ((KeepUp.refl _ _).setCell (p := ⟨w.heap.size + 1, 0, none⟩) (by simp; omega) _).setCell (p := ⟨w.heap.size + 1 + 1, 0, none⟩) (by simp; omega) _
    have hv : (k : Int) = ((k + 1 : Nat) : Int) - 1 := by omega
    rw [hv]
    have hne : (⟨w.heap.size + 1, 0, none⟩ : Addr).block ≠ (⟨w.heap.size + 1 + 1, 0, none⟩ : Addr).block := by simp
    refine ⟨(KeepsOthers.setCell _ _ _).trans (KeepsOthers.setCell _ _ _), hu, (hEW.setCell (p := ⟨w.heap.size + 1, 0, none⟩) (by simp) _).setCell (p := ⟨w.heap.size + 1 + 1, 0, none⟩) (by simp; omega) _, ⟨_, ?_, fun _ => ⟨IntsC.up hx hxb hu, hxb⟩⟩, ?_, ?_, ?_⟩
    · rw [World.cell?_of_block (Below.heap_setCell _ _ _ _ hne)]
      exact World.cell?_setCell_same' _ _ _ (by rw [h2]; rfl)
    · rw [World.frozen?_setCell, World.frozen?_setCell]; exact h4
    · exact World.cell?_setCell_same' _ _ _ (by rw [World.cell?_of_block (Below.heap_setCell _ _ _ _ (Ne.symm hne)), h5]; rfl)
    · rw [World.frozen?_setCell, World.frozen?_setCell]; exact h6
  case done =>
    rintro D W hD ⟨⟨v, h2, h3⟩, h4, h5, h6⟩ hEW hDef
    obtain ⟨hx, hxb⟩ := h3 (by omega)
    have hx' := hx
    obtain ⟨Ax, rfl, -⟩ := hx'
    have h5' : W.cell? ⟨w.heap.size + 1 + 1, 0, none⟩ = some (.int .i64 M) := by rw [h5]; congr 2; omega
    clear h5
    gi_wp2
    gi_region
    all_goals gi_wp2
    have hne : (⟨w.heap.size + 1, 0, none⟩ : Addr).block ≠ (⟨w.heap.size + 1 + 1, 0, none⟩ : Addr).block := by simp
    generalize hX : ((W.setCell ⟨w.heap.size + 1, 0, none⟩ (.slice Ax (iterL m M).length (iterL m M).length)).setCell ⟨w.heap.size + 1 + 1, 0, none⟩ (.int .i64 M)).drew = X
    have hEX : Ext w X := by
      rw [← hX]
      exact ((hEW.setCell (p := ⟨w.heap.size + 1, 0, none⟩) (by simp) _).setCell (p := ⟨w.heap.size + 1 + 1, 0, none⟩) (by simp; omega) _).drew
    have hDX : X.heap[D]? = some (.deferred (some [])) := by
      rw [← hX]
      exact ((KeepsOthers.setCell W _ _).trans (KeepsOthers.setCell _ _ _)).same D _ hDef rfl
    have hu : KeepUp W2.heap.size W X := by
      rw [← hX]
      exact ((KeepUp.refl _ _).setCell (p := ⟨w.heap.size + 1, 0, none⟩) (by simp; omega) _).setCell (p := ⟨w.heap.size + 1 + 1, 0, none⟩) (by simp; omega) _
    have u2 : X.cell? ⟨w.heap.size + 1, 0, none⟩ = some (.slice Ax (iterL m M).length (iterL m M).length) := by
      rw [← hX]
      show ((W.setCell _ _).setCell _ _).cell? _ = _
      rw [World.cell?_of_block (Below.heap_setCell _ _ _ _ hne)]
      exact World.cell?_setCell_same' _ _ _ (by rw [h2]; rfl)
    have u3 : X.cell? ⟨w.heap.size + 1 + 1, 0, none⟩ = some (.int .i64 M) := by
      rw [← hX]
      show ((W.setCell _ _).setCell _ _).cell? _ = _
      exact World.cell?_setCell_same' _ _ _ (by rw [World.cell?_of_block (Below.heap_setCell _ _ _ _ (Ne.symm hne)), h5']; rfl)
    clear hX
    have hp : KeepUp 0 X (X.putObj D (.deferred none)) := KeepUp.putObj _ hDX rfl
    have u2' := hp _ _ (Nat.zero_le _) u2
    have u3' := hp _ _ (Nat.zero_le _) u3
    refine ⟨by simp, .inl ⟨_, _, rfl, run_takeDeferred hDX, ?_⟩⟩
    refine ⟨.tuple #[.slice Ax (iterL m M).length (iterL m M).length, .int .i64 M, .int .i64 0], ?_, ⟨_, rfl, IntsC.up (IntsC.up hx hxb hu) (b := 0) (fun _ _ => Nat.zero_le _) hp⟩, ext_put hw3 hEX hD _⟩
    simp [results, Try.f16, go_sem, u2', u3']
  case stop =>
    rintro D id k W hD hk h hEW hDef
    exact h.elim
#print axioms Classes_any
end Go.Proofs.Ytkmcplhgakpneaa
