/- refines.rounds and its function: the word of the iterator. -/
import Derived.Test.YtkmcplhgakpneaaS3
import Derived.Test.YtkmcplhgakpneaaRg
import Derived.Deep.LoopGhost
namespace Go.Proofs.Ytkmcplhgakpneaa
open Go.RowKit Go.Maps Go.Shelf
set_option linter.unusedVariables false
set_option linter.unusedSimpArgs false
attribute [local go_sem] Oper.quietV quietV Oper.gives givesV ext_refl_iff ext_alloc_iff ext_drew_iff ext_drewN_iff
attribute [local go_sem] Oper.semAt_some

theorem wpListIn_make_full {F : Fence} {n : Nat} {P : Program} (w : World) {ops : Array Oper} {rest : List Oper} {o : Oper} {a : Act} {Q : Exit → Act → World → Prop}
    (hg : o.guard = none) (l c : Operand) (t : TypeId) (hop : o.op = Op.makeSlice t l c)
    (base : Nat) (e : TypeId) (i : TypeInfo) (z : Value) (size : Nat) (h1 : P.underlying t = some (.slice e)) (h2 : P.info? e = some i) (h3 : i.zero = some z) (h4 : i.size = size)
    (kl kc : IntKind) (m : Nat) (hl : a.eval l = .int kl m) (hc : a.eval c = .int kc m) (b2 : i.bytes * m ≤ 281474976710656) (b3 : m ≤ maxLen) (b4 : base ≤ w.heap.size)
    (hK : ∀ w', w'.ownsRow base e size (.slice (some ⟨w.heap.size, 0, none⟩) m m) m (madeCells z.cells (m * size)).toList → w.grownBy w' none → wpListIn F n P ops Q rest (a.put o.dst (.slice (some ⟨w.heap.size, 0, none⟩) m m)) w') :
    wpListIn F n P ops Q (o :: rest) a w := by
  refine wpListIn_plain hg fun K hK' => ?_
  obtain ⟨w', hrun, r1, r2⟩ := run_make_full (P := P) w base t e i z size h1 h2 h3 h4 kl kc m b2 b3 b4
  unfold Oper.wpIn
  refine ⟨by simp [Oper.about, hop], ?_⟩
  rw [Oper.semAt_plain F _ _ (by rw [hop]; intro c hc'; cases hc')]
  simp only [execOp, hop, hl, hc, Sem.run_bind, hrun, Result.andThen_ok, Sem.run_pure]
  exact hK' _ _ (hK w' r1 r2)

def iterL (m : Mach) : Nat → List Int
  | 0 => List.replicate m.rows.length 0
  | k + 1 => refinedL m (iterL m k)
theorem iterL_length (m : Mach) : ∀ k, (iterL m k).length = m.rows.length
  | 0 => by simp [iterL]
  | k + 1 => by
    have := iterL_length m k
    rw [iterL, refinedL_length m _ this, this]

/-- What a name is: smaller than the number of the things named. -/
theorem namesOf_lt {κ : Type} [BEq κ] [LawfulBEq κ] : ∀ (l : List κ) (es : List (κ × Int)), (∀ p ∈ es, 0 ≤ p.2 ∧ p.2 < es.length) → ∀ p ∈ l.foldl nameStep es, 0 ≤ p.2 ∧ p.2 < (l.foldl nameStep es).length
  | [], _, h => h
  | x :: l, es, h => by
    refine namesOf_lt l _ ?_
    unfold nameStep
    split
    · exact h
    · intro p hp
      rcases List.mem_append.1 hp with hp | hp
      · have := h p hp
        simp only [List.length_append, List.length_cons, List.length_nil]; omega
      · simp only [List.mem_cons, List.not_mem_nil, or_false] at hp
        subst hp
        simp only [List.length_append, List.length_cons, List.length_nil]; omega
theorem getM_mem {κ : Type} [BEq κ] [LawfulBEq κ] {es : List (κ × Int)} {x : κ} {n : Int} (h : getM es x = some n) : (x, n) ∈ es := by
  unfold getM at h
  cases hf : es.find? (fun p => p.1 == x) with
  | none => simp [hf] at h
  | some p =>
    simp only [hf, Option.map_some, Option.some.injEq] at h
    have h1 := List.find?_some hf
    have h2 := List.mem_of_find?_eq_some hf
    simp only [beq_iff_eq] at h1
    rw [← h1, ← h]; exact h2
theorem namedL_bound {κ : Type} [BEq κ] [LawfulBEq κ] (l : List κ) : ∀ x ∈ namedL l, 0 ≤ x ∧ x < l.length := by
  intro x hx
  obtain ⟨y, hy, rfl⟩ := List.mem_map.1 hx
  obtain ⟨k, hk, rfl⟩ := List.mem_iff_getElem.1 hy
  have h1 := names_take l hk
  have h2 : namesOf (l.take (k + 1)) = nameStep (namesOf (l.take k)) l[k] := by
    unfold namesOf
    rw [List.take_succ_eq_append_getElem hk, List.foldl_append]; rfl
  obtain ⟨n, hn⟩ := Option.isSome_iff_exists.1 (nameStep_has (namesOf (l.take k)) l[k])
  rw [h1, h2, hn]
  rw [h2, hn] at h1
  have := namesOf_lt l [] (by simp) _ (getM_mem h1)
  have h3 := namesOf_len l []
  simp only [Option.getD_some]
  simp only [List.length_nil, Nat.zero_add] at h3
  exact ⟨this.1, by have := this.2; omega⟩
theorem iterL_wf (m : Mach) (hV : m.rows.length ≤ 64) : ∀ k, ∀ x ∈ iterL m k, wfI x
  | 0 => by
    intro x hx
    rw [iterL, List.mem_replicate] at hx
    rw [hx.2]; unfold wfI; decide
  | k + 1 => by
    intro x hx
    have := namedL_bound _ x hx
    have hl := keysL_length (iterL_length m k)
    have hl2 := iterL_length m k
    rw [hl, hl2] at this
    exact WalkArith.wf_i64 (by omega)

theorem IntsC.up {w w' : World} {b : Nat} {v : Value} {xs : List Int} {c : Nat} (h : IntsC w v xs c) (hb : ∀ k, v.ownBlock = some k → b ≤ k) (hu : KeepUp b w w') : IntsC w' v xs c := by
  obtain ⟨A, rfl, hc, hr⟩ := h
  refine ⟨A, rfl, fun hn => ?_, hr⟩
  obtain ⟨g, o, rfl, hg, hcs⟩ := hc hn
  have h0 : (xs.map (.int .i64))[0]? = some ((xs.map (Value.int .i64))[0]'hn) := List.getElem?_eq_getElem hn
  exact ⟨g, o, rfl, World.block_lt_of_cell? _ _ (hu _ _ (hb g rfl) (hcs 0 _ h0)), fun j u hj => hu _ _ (hb g rfl) (hcs j u hj)⟩
/-- The numbers xs, without spare capacity. -/
def FitC (w : World) (v : Value) (xs : List Int) : Prop := IntsC w v xs xs.length
theorem FitC.own {xs : Nat → List Int} : Own (fun (s : Nat × Value) W => FitC W s.2 (xs s.1)) := fun s W W' row ⟨A, hv, hc, hr⟩ hg hrow =>
  ⟨A, hv, fun hn => by
    obtain ⟨b, o, hA, hb, hcs⟩ := hc hn
    exact ⟨b, o, hA, Nat.lt_of_lt_of_le hb hg.size, fun j u hj => cell_kept (hcs j u hj) hg hrow⟩, hr⟩

/-- Between two rounds: p is the partition of round k. -/
def RdR (m : Mach) (w0 : World) (n2 b1 N : Nat) (rv : Value) (J : Nat → World → Prop) (k : Nat) (p : Value) (W : World) : Prop :=
  k < N ∧ J k W ∧ Ext w0 W ∧ n2 ≤ W.heap.size ∧ (W.cell? ⟨b1, 0, none⟩ = some (.int .i64 m.ins) ∧ W.cell? ⟨b1, 1, none⟩ = some (.int .i64 m.outs) ∧ W.cell? ⟨b1, 2, none⟩ = some rv) ∧
    FitC W p (iterL m k) ∧ ∀ b, p.ownBlock = some b → n2 ≤ b

def goodR (m : Mach) (n2 : Nat) (k : Nat) (x : Value) (W : World) : Prop := FitC W x (iterL m k) ∧ ∀ b, x.ownBlock = some b → n2 ≤ b

set_option maxRecDepth 100000 in
set_option maxHeartbeats 600000 in
theorem rounds_seq (w0 w : World) (m : Mach) (hV : Valid m) (rv : Value) (hm : MachV w0 (.agg #[.int .i64 m.ins, .int .i64 m.outs, rv]) m) (n2 b1 : Nat) (hb : n2 ≤ b1) (hn2 : n2 ≤ w.heap.size) (hE0 : Ext w0 w)
    (h0 : w.cell? ⟨b1, 0, none⟩ = some (.int .i64 m.ins)) (h1 : w.cell? ⟨b1, 1, none⟩ = some (.int .i64 m.outs)) (h2 : w.cell? ⟨b1, 2, none⟩ = some rv)
    (N : Nat) (hstep : ∀ k, k + 1 < N → iterL m k ≠ iterL m (k + 1)) (hN : ∃ M, N = M + 1 ∧ iterL m M = iterL m (M + 1)) :
    SeqG Try.prog 46 #[.pointer (some ⟨b1, 0, none⟩)] w0 n2 (goodR m n2) N w := by
  intro l J Jx W hW hJ hJx hY hJ0
  obtain ⟨i0, hi0, hz0, hz1, hz2⟩ := info_parts int_info
  have hV64 := hV.size
  obtain ⟨c, hr⟩ : ∃ c, RowsC w0 rv m.rows c := by obtain ⟨rv', c, e, h⟩ := hm; cases e; exact ⟨c, h⟩
  have hrw := hr.ext (hE0.trans hW)
  obtain ⟨Ar, vs, rfl, hcr, hvs, hrr, _, _⟩ := hrw
  have f0 := hW.cell h0
  have f1 := hW.cell h1
  have f2 := hW.cell h2
  refine callsIn_of_wp Try.func46 rfl trivial ?_ rfl
  simp only [Try.ntmps46, List.size_toArray, List.length_cons, List.length_nil, Nat.reduceAdd, Nat.reduceSub, Array.replicate_succ, Array.replicate_zero, List.push_toArray, List.append_toArray, List.nil_append, List.cons_append]
  gi_wp2_with (gi_at_make; refine wpListIn_make_full _ rfl _ _ 29 rfl W.heap.size 3 i0 (.int .i64 0) 1 Try.underlying29 hi0 hz0 hz1 _ _ m.rows.length rfl rfl (by rw [hz2]; omega) (by unfold maxLen; omega) (Nat.le_refl _) ?_; intro w1 hown1 hg1)
  have hE1 : Ext W w1 := Below.grown (Ext.refl W) hg1 (Nat.le_refl _) (fun k hk => by cases hk)
  have hE01 : Ext w0 w1 := (hE0.trans hW).trans hE1
  rw [Nat.mul_one, show (Value.int .i64 0).cells = #[.int .i64 0] from rfl, toList_madeCells_one] at hown1
  have hc0 : FitC w1 (.slice (some ⟨W.heap.size, 0, none⟩) m.rows.length m.rows.length) (iterL m 0) := by
    obtain ⟨A, c', hA, hle, hcs⟩ := cells_of_owns hown1
    cases hA
    exact ⟨some ⟨W.heap.size, 0, none⟩, by simp [iterL], by simpa [iterL] using hcs, by simp [iterL], by simp [iterL]; unfold lenMax; omega⟩
  have hN0 : 0 < N := by obtain ⟨M, rfl, _⟩ := hN; omega
  have hR0 : RdR m w0 n2 b1 N (.slice Ar m.rows.length c) J 0 (.slice (some ⟨W.heap.size, 0, none⟩) m.rows.length m.rows.length) w1 :=
    ⟨hN0, hJ _ _ _ hJ0 hE1, hE01, by have := hW.size; have := hE1.size; omega, ⟨hE1.cell f0, hE1.cell f1, hE1.cell f2⟩, hc0, fun b hb => by have := hW.size; cases hb; show n2 ≤ W.heap.size; omega⟩
  have HST := Lib.hid hstep
  have HNN := Lib.hid hN
  clear hown1 hg1 hc0 f0 f1 f2 hstep hN hJ0 hE01 hE1 hcr hrr hr
  gi_loopw [3] (fun p wr => ∃ k, RdR m w0 n2 b1 N (.slice Ar m.rows.length c) J k p wr) (fun p wr => leastOf (fun j => ∃ k, k + j = N ∧ RdR m w0 n2 b1 N (.slice Ar m.rows.length c) J k p wr))
  case atStart => exact ⟨0, hR0⟩
  case round =>
    clear hR0
    obtain ⟨k0, hk0⟩ := hrel
    have hlp := leastOf_spec (p := fun j => ∃ k, k + j = N ∧ RdR m w0 n2 b1 N (.slice Ar m.rows.length c) J k u3 wr) ⟨N - k0, k0, by have := hk0.1; omega, hk0⟩
    clear hk0 k0
    obtain ⟨⟨k, hkl, hR⟩, -⟩ := hlp
    have HKL := Lib.hid hkl
    clear hkl
    obtain ⟨hkN, hJk, hEr, hnr, ⟨g0, g1, g2⟩, hp, hpb⟩ := hR
    obtain ⟨fn, tmps, assign, body, hy, hRd⟩ := hY k u3 wr hJk hEr ⟨hp, hpb⟩ hkN
    gi_wp2
    refine ⟨rfl, hRd.mono ?_⟩
    rintro e W2 ⟨hE2, hku, (⟨rfl, hJ2⟩ | ⟨rfl, hJx2⟩)⟩
    · have hp2 := IntsC.up hp hpb hku
      have q0 := hku _ _ hb g0
      have q1 := hku _ _ hb g1
      have q2 := hku _ _ hb g2
      have hrf := refined_any W2 (.agg #[.int .i64 m.ins, .int .i64 m.outs, .slice Ar m.rows.length c]) u3 m (hm.ext hE2) hV (iterL m k) _ hp2 (iterL_length m k) (iterL_wf m hV64.2 k)
      clear g0 g1 g2 hp hY
      gi_wp2_with (first
        | (refine ⟨trivial, rfl, ?_⟩; gi_at_call 38; refine CallsIn.mono (callsIn_wide.2 hrf) ?_; rintro e W3 ⟨⟨u, rfl, hu, hub⟩, hE3⟩)
        | (refine ⟨trivial, rfl, ?_⟩; gi_at_call 37; refine CallsIn.mono (callsIn_wide.2 (equal_any W3 u3 u _ _ _ _ (hp2.ext hE3) hu)) ?_; rintro e W4 ⟨rfl, hE4⟩))
      · rename_i heq
        have heq : iterL m k = iterL m (k + 1) := by simpa [iterL] using heq
        have hNk : k + 1 = N := by
          by_cases h : k + 1 < N
          · exact absurd heq (HST.out k h)
          · omega
        refine bodyPost_ret (results_none rfl _ _ _) rfl ?_
        have hE24 := hE3.trans hE4
        refine ⟨⟨_, rfl⟩, ?_, .inl (by rw [← hNk]; exact hJ _ _ _ hJ2 hE24)⟩
        exact hE2.trans hE24
      · rename_i heq
        have hne : ¬ iterL m k = iterL m (k + 1) := by simpa [iterL] using heq
        have hNk : k + 1 < N := by
          obtain ⟨M, hM, hMe⟩ := HNN.out
          by_cases h : k + 1 < N
          · exact h
          · have : M = k := by omega
            subst this
            exact absurd hMe hne
        have hE24 := hE3.trans hE4
        have hb2 := World.block_lt_of_cell? _ _ q0
        simp only at hb2
        have hR : RdR m w0 n2 b1 N (.slice Ar m.rows.length c) J (k + 1) u W4 :=
          ⟨hNk, hJ _ _ _ hJ2 hE24, hE2.trans hE24, by have := hE24.size; omega, ⟨hE24.cell q0, hE24.cell q1, hE24.cell q2⟩, hu.ext hE4, fun b hb => by have := hub b hb; omega⟩
        refine ⟨⟨k + 1, hR⟩, ?_⟩
        have h1 := (leastOf_spec (p := fun j => ∃ k, k + j = N ∧ RdR m w0 n2 b1 N (.slice Ar m.rows.length c) J k u W4) ⟨N - (k + 1), k + 1, by omega, hR⟩).2 (N - (k + 1)) ⟨k + 1, by omega, hR⟩
        have h2 := HKL.out
        omega
    · gi_wp2
      go_end0
      exact ⟨⟨_, rfl⟩, hE2, .inr ⟨k, hkN, hJx2⟩⟩
#print axioms rounds_seq

set_option maxRecDepth 100000 in
theorem rounds_any (w : World) (m : Mach) (rv : Value) (hm : MachV w (.agg #[.int .i64 m.ins, .int .i64 m.outs, rv]) m) :
    Calls Try.prog 31 #[.agg #[.int .i64 m.ins, .int .i64 m.outs, rv]] w fun e w' => e = .returned (.func (.func 46) #[] #[.pointer (some ⟨w.heap.size, 0, none⟩)]) ∧ Ext w w' ∧ w.heap.size < w'.heap.size ∧
      w'.cell? ⟨w.heap.size, 0, none⟩ = some (.int .i64 m.ins) ∧ w'.cell? ⟨w.heap.size, 1, none⟩ = some (.int .i64 m.outs) ∧ w'.cell? ⟨w.heap.size, 2, none⟩ = some rv := by
  obtain ⟨rv', c, he, hr⟩ := hm
  cases he
  go_enter Try.func31, Try.ntmps31
  go_wp2
  go_ret
  refine ⟨rfl, (Ext.refl _).alloc _, by simp, ?_, ?_, ?_⟩ <;> simp [go_sem]
end Go.Proofs.Ytkmcplhgakpneaa
