/- ref29.Run 18. -/
import Derived.Test.YtggffdkgfgdaoaaDoorE7
import Derived.Test.YtggffdkgfgdaoaaDoorC4
namespace Go.Proofs.YtggffdkgfgdaoaaDoor
open Go.RowKit Go.Maps
set_option linter.unusedVariables false
set_option linter.unusedSimpArgs false
attribute [local go_sem] Oper.quietV quietV Oper.gives givesV ext_refl_iff ext_alloc_iff ext_drew_iff ext_drewN_iff
attribute [local go_sem] RI.Oper.gives RI.givesV
def tp3 (o can : Int) (g : Value) : Value := .tuple #[g, .int .i64 o, .int .i64 can]
theorem tp3_inj {o can : Int} : ∀ g g', tp3 o can g = tp3 o can g' → g = g' := fun g g' h => by unfold tp3 at h; injection h with h; simpa using h
/-- A region that loads a configuration, calls for the next one and stores it there. -/
structure RnI (W : World) (d k0 k1 k2 : Nat) (c0 : Array Value) (tp : Value → Value) (t : Int) (zs : List Int) (G : Vals) (w : World) : Prop where
  g : W.grownBy w (some d)
  o0 : G k0 = none → w.heap[d]? = some (.cells c0 34 (0, 0))
  o1 : G k1 = none → w.heap[d]? = some (.cells c0 34 (0, 0))
  o2 : G k2 = none → w.heap[d]? = some (.cells c0 34 (0, 0))
  s1 : G k1 = none → G k2 = none
  a0 : ∀ v, G k0 = some v → v = .agg c0
  c : ∀ v, G k1 = some v → ∃ A c, v = tp (cfgV t A zs.length c) ∧ IntsC w (.slice A zs.length c) zs c ∧ NewA W.heap.size A zs ∧ ∀ u, G k2 = some u → w.heap[d]? = some (.cells #[.int .i64 t, .slice A zs.length c] 34 (0, 0))
section
variable {W : World} {d k0 k1 k2 : Nat} {c0 : Array Value} {tp : Value → Value} {t : Int} {zs : List Int} {G : Vals} {w w' : World}
theorem RnI.ext (h : RnI W d k0 k1 k2 c0 tp t zs G w) : W.grownBy w (some d) := h.g
theorem RnI.start (hB : W.heap[d]? = some (.cells c0 34 (0, 0))) (e : Ext W w) : RnI W d k0 k1 k2 c0 tp t zs (fun _ => none) w :=
  ⟨grown_of_ext e _, fun _ => heap_ext e hB, fun _ => heap_ext e hB, fun _ => heap_ext e hB, fun _ => rfl, fun v h => (by cases h), fun v h => (by cases h)⟩
theorem RnI.load (h : RnI W d k0 k1 k2 c0 tp t zs G w) (h01 : k0 ≠ k1) (h02 : k0 ≠ k2) (hg : G k0 = none) : RnI W d k0 k1 k2 c0 tp t zs (G.put k0 (.agg c0)) w := by
  refine ⟨h.g, fun _ => h.o0 hg, fun _ => h.o0 hg, fun _ => h.o0 hg, fun hk => (by rw [put_ne (Ne.symm h01)] at hk; rw [put_ne (Ne.symm h02)]; exact h.s1 hk), fun v hv => ?_, fun v hv => ?_⟩
  · rw [put_eq] at hv; injection hv with hv; exact hv.symm
  · rw [put_ne (Ne.symm h01)] at hv
    obtain ⟨A, c, h1, h2, h3, h4⟩ := h.c v hv
    exact ⟨A, c, h1, h2, h3, fun u hu => by rw [put_ne (Ne.symm h02)] at hu; exact h4 u hu⟩
theorem RnI.call (h : RnI W d k0 k1 k2 c0 tp t zs G w) (h01 : k0 ≠ k1) (h12 : k1 ≠ k2) (hg : G k1 = none) (e : Ext w w') {A : Option Addr} {c : Nat} (hi : IntsC w' (.slice A zs.length c) zs c) (hn : NewA w.heap.size A zs) : RnI W d k0 k1 k2 c0 tp t zs (G.put k1 (tp (cfgV t A zs.length c))) w' := by
  have hB := heap_ext e (h.o1 hg)
  have h2 := h.s1 hg
  refine ⟨grown_trans h.g (grown_of_ext e _), fun _ => hB, fun _ => hB, fun _ => hB, fun hk => (by rw [put_eq] at hk; cases hk), fun v hv => ?_, fun v hv => ?_⟩
  · rw [put_ne h01] at hv; exact h.a0 v hv
  · rw [put_eq] at hv
    injection hv with hv
    exact ⟨A, c, hv.symm, hi, fun h0 a ha => Nat.le_trans h.g.size (hn h0 a ha), fun u hu => by rw [put_ne (Ne.symm h12), h2] at hu; cases hu⟩
theorem RnI.store (h : RnI W d k0 k1 k2 c0 tp t zs G w) (h02 : k0 ≠ k2) (h12 : k1 ≠ k2) (htp : ∀ g g', tp g = tp g' → g = g') (hd : d < W.heap.size) {v0 : Value} (h0 : G k0 = some v0) {A : Option Addr} {c : Nat} (hc : G k1 = some (tp (cfgV t A zs.length c))) {u : Value} (hB : w'.heap[d]? = some (.cells #[.int .i64 t, .slice A zs.length c] 34 (0, 0))) (hgr : w.grownBy w' (some d)) : RnI W d k0 k1 k2 c0 tp t zs (G.put k2 u) w' := by
  obtain ⟨A', c', h1, h2, h3, _⟩ := h.c _ hc
  obtain ⟨hAA, hcc⟩ := cfgV_inj (htp _ _ h1)
  subst hAA hcc
  refine ⟨grown_trans h.g hgr, fun hk => ?_, fun hk => ?_, fun hk => ?_, fun hk => ?_, fun v hv => ?_, fun v hv => ?_⟩
  · rw [put_ne h02, h0] at hk; cases hk
  · rw [put_ne h12, hc] at hk; cases hk
  · rw [put_eq] at hk; cases hk
  · rw [put_ne h12, hc] at hk; cases hk
  · rw [put_ne h02] at hv; exact h.a0 v hv
  · rw [put_ne h12, hc] at hv
    injection hv with hv
    exact ⟨A, c, hv.symm, IntsC.grown h2 h3 hd hgr, h3, fun _ _ => hB⟩
theorem ext_of_grown {o : Obj} (g : W.grownBy w (some d)) (h : W.heap[d]? = some o) (h' : w.heap[d]? = some o) : Ext W w :=
  ⟨g.os, g.tape, g.output, g.size, fun b hb => by
    by_cases hbd : b = d
    · subst hbd; rw [h, h']
    · exact g.block b hb (by simpa using hbd)⟩
theorem RnI.ext1 (h : RnI W d k0 k1 k2 c0 tp t zs G w) (hB : W.heap[d]? = some (.cells c0 34 (0, 0))) (hg : G k1 = none) : Ext W w := ext_of_grown h.g hB (h.o1 hg)
end
/-- The values of a configuration, as a datum that turns no more. -/
def cfS (A : Option Addr) (n : Nat) : Nat → Prop := fun b => 0 < n ∧ ∃ a, A = some a ∧ a.block = b
def cfF (w : World) (v : Value) (ys : List Int) (c : Nat) : World → Prop := fun W => Ext w W → IntsC W v ys c
theorem cf_old {w W : World} {L : List Asn} {v : Value} {ys : List Int} {c : Nat} (h : OwnL w W L) (hi : IntsC w v ys c) : OwnL w W (.any (fun _ => False) (cfF w v ys c) :: L) := by
  refine ⟨h.ext, fun B hB => ?_, List.pairwise_cons.2 ⟨fun B _ b hb => hb.elim, h.apart⟩⟩
  rcases List.mem_cons.1 hB with rfl | hB
  · exact ⟨fun b hb => hb.elim, fun w' _ e => hi.ext e⟩
  · exact h.ok B hB
theorem OwnL.addN {w W' : World} {L : List Asn} (h : OwnL w W' L) {N : Nat} (hold : ∀ B ∈ L, ∀ b, B.foot b → b < N) (hN : w.heap.size ≤ N) {A : Asn} (hA : A.ok N W') : OwnL w W' (A :: L) := by
  refine ⟨h.ext, fun B hB => ?_, List.pairwise_cons.2 ⟨fun B hB b hb hb' => ?_, h.apart⟩⟩
  · rcases List.mem_cons.1 hB with rfl | hB
    · exact Asn.mono hA hN
    · exact h.ok B hB
  · have h1 := (Asn.lt hA hb).1
    have h2 := hold B hB b hb'
    omega
theorem cf_ok {w W : World} {N : Nat} {A : Option Addr} {ys : List Int} {c : Nat} (hi : IntsC W (.slice A ys.length c) ys c) (hn : NewA N A ys) : (Asn.any (cfS A ys.length) (cfF w (.slice A ys.length c) ys c)).ok N W := by
  obtain ⟨A', hA, hc, h1, h2⟩ := hi
  injection hA with hA _ _
  subst hA
  refine ⟨fun b hb => ?_, fun w' hw' _ => ?_⟩
  · obtain ⟨h0, a, ha, rfl⟩ := hb
    obtain ⟨b, o, hA, hlt, _⟩ := hc (by simpa using h0)
    have := hn h0 a ha
    rw [ha] at hA
    injection hA with hA
    subst hA
    exact ⟨this, hlt⟩
  · refine ⟨A, rfl, fun h0 => ?_, h1, h2⟩
    obtain ⟨b, o, hA, hlt, hcc⟩ := hc h0
    have hb := hw' b ⟨by simpa using h0, _, hA, rfl⟩
    refine ⟨b, o, hA, ?_, fun k u hu => ?_⟩
    · rw [Array.getElem?_eq_getElem hlt] at hb
      exact (Array.getElem?_eq_some_iff.1 hb).1
    · have := hcc k u hu
      unfold World.cell? at this ⊢
      rw [hb]; exact this
end Go.Proofs.YtggffdkgfgdaoaaDoor
