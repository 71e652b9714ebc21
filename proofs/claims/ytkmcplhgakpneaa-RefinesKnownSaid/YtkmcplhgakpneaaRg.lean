/- A range over a function whose elements point into memory: the iterator tells the round what lies there ('Good'). -/
import Derived.Test.YtkmcplhgakpneaaBase
import Derived.RangeFuncNested
import Derived.RangeFuncBound
import Derived.RangeFuncCalls
import Derived.RangeFuncLeaves
import Derived.Shelf.Abstract
import Derived.Shelf.RegionOpen
import Derived.WalkKit
import Derived.OwnWalkIn
import Derived.TacticsInMore
import Derived.LoopNIn
import Derived.LoopIn
namespace Go.Proofs.Ytkmcplhgakpneaa
open Go.RowKit Go.Shelf
set_option linter.unusedVariables false
set_option linter.unusedSimpArgs false

/-- The cells from block b on stand in the later world. -/
def KeepUp (b : Nat) (w w' : World) : Prop := ∀ p v, b ≤ p.block → w.cell? p = some v → w'.cell? p = some v
theorem KeepUp.refl (b : Nat) (w : World) : KeepUp b w w := fun _ _ _ h => h
theorem KeepUp.trans {b : Nat} {w w' w'' : World} (h : KeepUp b w w') (k : KeepUp b w' w'') : KeepUp b w w'' := fun p v hp hv => k p v hp (h p v hp hv)
theorem KeepUp.setCell {b : Nat} {w w' : World} (h : KeepUp b w w') {p : Addr} (hp : p.block < b) (u : Value) : KeepUp b w (w'.setCell p u) := fun q v hq hv => by
  rw [World.cell?_of_block (Below.heap_setCell w' p u q.block (by omega))]
  exact h q v hq hv
theorem KeepUp.ext {b : Nat} {w w' : World} (h : Ext w w') : KeepUp b w w' := fun _ _ _ hv => h.cell hv
theorem KeepUp.putObj {b : Nat} {W : World} {l : Nat} {o : Obj} (o' : Obj) (hl : W.heap[l]? = some o) (ho : o.isCells = false) : KeepUp b W (W.putObj l o') := fun _ _ _ hv =>
  cell_kept hv (grownBy_putObj' W l o') (fun r e => by cases e; exact ⟨o, hl, ho⟩)

/-- The word of an iterator. Good k x W: the k-th element x stands in W as it should; N elements come, if no round says 'no more'. -/
def SeqG (P : Program) (gf : Nat) (lb : Array Value) (w0 : World) (n2 : Nat) (Good : Nat → Value → World → Prop) (N : Nat) (w : World) : Prop :=
  ∀ (l : Nat) (J Jx : Nat → World → Prop) (W : World), Ext w W → (∀ k A B, J k A → Ext A B → J k B) → (∀ k A B, Jx k A → Ext A B → Jx k B) →
    (∀ k x W1, J k W1 → Ext w0 W1 → Good k x W1 → k < N → YieldAt Fence.wide 0 P l #[x] W1 fun e W' =>
      Ext w0 W' ∧ KeepUp n2 W1 W' ∧ ((e = .returned (.bool true) ∧ J (k + 1) W') ∨ (e = .returned (.bool false) ∧ Jx (k + 1) W'))) →
    J 0 W →
    CallsIn Fence.wide 0 P gf (#[.func (.yield l) #[] #[]] ++ lb) W fun e W' => (∃ v, e = .returned v) ∧ Ext w0 W' ∧ (J N W' ∨ ∃ k, k < N ∧ Jx (k + 1) W')

/-- How the body of a round may be left. -/
def postG (w0 : World) (n2 : Nat) (I : Nat → World → Prop) (Ix : Nat → Nat → World → Prop) (k : Nat) (W : World) : Exit → Act → World → Prop
  | .normal, _, W' => KeepsOthers W W' ∧ KeepUp n2 W W' ∧ Ext w0 W' ∧ I k W'
  | .exit id, _, W' => KeepsOthers W W' ∧ KeepUp n2 W W' ∧ Ext w0 W' ∧ Ix id k W'
  | _, _, _ => False

theorem ext_put {w0 w W : World} (h : Ext w0 w) (hW : Ext w0 W) {l : Nat} (hl : w.heap.size ≤ l) (o' : Obj) : Ext w0 (W.putObj l o') :=
  ⟨hW.os, hW.tape, hW.output, by simpa using hW.size, fun k hk => by
    have := h.size
    rw [World.putObj_heap_other (by omega)]; exact hW.block k hk⟩

theorem grown_of_ext {A B : World} (h : Ext A B) : A.grownBy B none := ⟨h.os, h.tape, h.output, h.size, fun k hk _ => h.block k hk⟩

/-- 'for x := range seq { .. }', by the word of the iterator. -/
theorem wpIn_rangeFunc_good {P : Program} {g : Operand} {ps : Array Tmp} {assign body : Code} {Q : Exit → Act → World → Prop} {a : Act} {w : World}
    {gf : Nat} {lb : Array Value} (hg : a.eval g = .func (.func gf) #[] lb) (eg : ∀ args w, (callFunc gf args).run P w = .ok (.enter gf args) w)
    {w0 : World} {n2 : Nat} {Good : Nat → Value → World → Prop} {N : Nat} (hseq : SeqG P gf lb w0 n2 Good N w) (hps : ps.size = 1) (h0w : Ext w0 w)
    (I : Nat → World → Prop) (Ix : Nat → Nat → World → Prop) (hI : Own I) (hIx : ∀ id, Own (Ix id)) (hG : Own (fun s : Nat × Value => Good s.1 s.2)) (h0 : I 0 w) (a₁ : Value → Act)
    (hassign : ∀ (l : Nat) (x : Value) (W : World) (K : Act → World → Prop), K (a₁ x) W →
      assign.wpIn (Fence.wide.inRound l) 0 P (Exit.then K (fun _ _ _ => False)) { tmps := (ps.zip #[x]).foldl (fun t (p, v) => t.setIfInBounds p v) a.tmps, defers := [] } W)
    (hbody : ∀ (l k : Nat) (x : Value) (W : World), I k W → Ext w0 W → Good k x W → k < N → body.wpIn (Fence.wide.inRound l) 0 P (postG w0 n2 I Ix (k + 1) W) (a₁ x) W)
    (hdone : ∀ (D : Nat) (W : World), w.heap.size ≤ D → I N W → Ext w0 W → W.heap[D]? = some (.deferred (some [])) → Q .normal { a with defers := { target := .collected D, args := #[] } :: a.defers } W)
    (hstop : ∀ (D id k : Nat) (W : World), w.heap.size ≤ D → k < N → Ix id (k + 1) W → Ext w0 W → W.heap[D]? = some (.deferred (some [])) → (Code.exit id).wpIn Fence.wide 0 P Q { a with defers := { target := .collected D, args := #[] } :: a.defers } W) :
    (Code.rangeFunc g ps assign body).wpIn Fence.wide 0 P Q a w := by
  refine wpIn_rangeFunc fun fn hfn => ?_
  have hd : ∀ {c d : Prop}, Fence.wide.depth.isSome = true → c ∨ d → c := fun h _ => by simp [Fence.wide] at h
  have hsz : (w.alloc (.deferred (some []))).heap.size = w.heap.size + 1 := by simp
  generalize hrec : (fun (st : LoopState) (pe : Option Code) => ({ state := st, pending := pe, fn := fn, tmps := a.tmps, params := ps, assign := assign, body := body, defers := w.heap.size } : Loop)) = rec
  have hst : ∀ st pe, (rec st pe).state = st := fun st pe => by rw [← hrec]
  have hpe : ∀ st pe, (rec st pe).pending = pe := fun st pe => by rw [← hrec]
  have hup : ∀ st pe st', ({ rec st pe with state := st' } : Loop) = rec st' pe := fun st pe st' => by rw [← hrec]
  have hup2 : ∀ st pe st' pe', ({ rec st pe with state := st', pending := pe' } : Loop) = rec st' pe' := fun st pe st' pe' => by rw [← hrec]
  -- what is carried: the record in its state, and the block of the deferred calls
  let B : LoopState → Option Code → World → Prop := fun st pe W => W.heap[w.heap.size + 1]? = some (.loop (rec st pe)) ∧ W.heap[w.heap.size]? = some (.deferred (some []))
  have hBext : ∀ st pe A C, B st pe A → Ext A C → B st pe C := fun st pe A C h hE => ⟨heap_ext hE h.1, heap_ext hE h.2⟩
  have hBput : ∀ st pe st' pe' A, B st pe A → B st' pe' (A.putObj (w.heap.size + 1) (.loop (rec st' pe'))) := fun st pe st' pe' A h =>
    ⟨World.putObj_heap_same (Array.getElem?_eq_some_iff.1 h.1).1, (World.putObj_heap_other (by omega)).trans h.2⟩
  have hBk : ∀ st pe A C, B st pe A → KeepsOthers A C → B st pe C := fun st pe A C h hK => ⟨hK.same _ _ h.1 rfl, hK.same _ _ h.2 rfl⟩
  have hB0 : B .ready none ((w.alloc (.deferred (some []))).alloc (.loop (rec .ready none))) := by
    refine ⟨?_, ?_⟩
    · rw [← hsz]; exact World.alloc_heap_new _ _
    · exact (Below.heap_alloc _ _ _ (by simp)).trans (World.alloc_heap_new w _)
  have hEw : Ext w ((w.alloc (.deferred (some []))).alloc (.loop (rec .ready none))) := ((Ext.refl w).alloc _).alloc _
  refine ⟨w.heap.size + 1, [{ target := .collected w.heap.size, args := #[] }], (w.alloc (.deferred (some []))).alloc (.loop (rec .ready none)), { target := .fn (.func gf) lb, args := #[.func (.yield (w.heap.size + 1)) #[] #[]] },
    (w.alloc (.deferred (some []))).alloc (.loop (rec .ready none)), gf, #[.func (.yield (w.heap.size + 1)) #[] #[]] ++ lb, (w.alloc (.deferred (some []))).alloc (.loop (rec .ready none)), ?_, ?_, fun _ _ => trivial, ?_, fun h => by simp [Fence.wide] at h, ?_⟩
  · rw [← hrec]; exact run_enterLoop_outer _ _ _ _ _
  · simp only [resolve, hg]
    simp [go_sem]
  · simp [invoke, go_sem, eg]
  · refine (hseq (w.heap.size + 1) (fun k W => I k W ∧ B .ready none W) (fun k W => ∃ id, Ix id k W ∧ B .done (some (.exit id)) W) _ hEw
      (fun k A C h hE => ⟨hI k A C none h.1 (grown_of_ext hE) (fun r e => by cases e), hBext _ _ _ _ h.2 hE⟩)
      (fun k A C ⟨id, h, hb⟩ hE => ⟨id, hIx id k A C none h (grown_of_ext hE) (fun r e => by cases e), hBext _ _ _ _ hb hE⟩)
      ?_ ⟨hI.alloc _ (hI.alloc _ h0), hB0⟩).mono ?_
    · rintro k x W1 ⟨hi, hb⟩ hE hgd hk
      have hy := run_yield (P := P) (args := #[x]) hb.1 (by rw [← hrec]; exact hps.symm)
      have hbr := run_beginRound (P := P) hb.1 (hst _ _)
      rw [hup] at hbr
      have hb2 := hBput .ready none .busy none W1 hb
      have hi2 := hI.putObj (.loop (rec .busy none)) hi hb.1 rfl
      have hg2 : Good k x (W1.putObj (w.heap.size + 1) (.loop (rec .busy none))) := Own.putObj hG (s := (k, x)) (.loop (rec .busy none)) hgd hb.1 rfl
      have hE2 := ext_put h0w hE (Nat.le_succ _) (.loop (rec .busy none))
      have hu2 : KeepUp n2 W1 (W1.putObj (w.heap.size + 1) (.loop (rec .busy none))) := KeepUp.putObj _ hb.1 rfl
      rw [← hrec] at hy
      refine ⟨fn, _, assign, body, hy, roundIn_of_wpIn hfn (hassign _ x W1 _ ⟨_, hbr, ?_⟩)⟩
      refine wpIn_mono (hbody _ k x _ hi2 hE2 hg2 hk) ?_
      rintro e a3 W3 hp
      cases e with
      | normal =>
        obtain ⟨hko, hku, hE3, hi3⟩ := hp
        have hb3 := hBk _ _ _ _ hb2 hko
        have her := run_endRound (P := P) none hb3.1
        rw [hup2] at her
        exact ⟨_, _, her, ext_put h0w hE3 (Nat.le_succ _) _, (hu2.trans hku).trans (KeepUp.putObj _ hb3.1 rfl), .inl ⟨rfl, hI.putObj _ hi3 hb3.1 rfl, hBput _ _ _ _ _ hb3⟩⟩
      | exit id =>
        obtain ⟨hko, hku, hE3, hi3⟩ := hp
        have hb3 := hBk _ _ _ _ hb2 hko
        have her := run_endRound (P := P) (some (.exit id)) hb3.1
        rw [hup2] at her
        exact ⟨_, _, her, ext_put h0w hE3 (Nat.le_succ _) _, (hu2.trans hku).trans (KeepUp.putObj _ hb3.1 rfl), .inr ⟨rfl, id, (hIx id).putObj _ hi3 hb3.1 rfl, hBput _ _ _ _ _ hb3⟩⟩
      | ret => exact hp.elim
      | goto t => exact hp.elim
      | panic ch => exact hp.elim
      | outgrown => exact hp.elim
    · rintro e W2 ⟨⟨v, rfl⟩, hE2, h⟩
      rcases h with ⟨hi, hb⟩ | ⟨k, hk, id, hi, hb⟩
      · have hel := run_endLoop (P := P) hb.1 (by rw [hst]; simp)
        rw [hpe] at hel
        exact ⟨none, _, hel, hdone _ _ (Nat.le_refl _) (hI.putObj _ hi hb.1 rfl) (ext_put h0w hE2 (Nat.le_succ _) _) ((World.putObj_heap_other (by omega)).trans hb.2)⟩
      · have hel := run_endLoop (P := P) hb.1 (by rw [hst]; simp)
        rw [hpe] at hel
        exact ⟨some (.exit id), _, hel, hstop _ id k _ (Nat.le_refl _) hk ((hIx id).putObj _ hi hb.1 rfl) (ext_put h0w hE2 (Nat.le_succ _) _) ((World.putObj_heap_other (by omega)).trans hb.2)⟩
#print axioms wpIn_rangeFunc_good
end Go.Proofs.Ytkmcplhgakpneaa
