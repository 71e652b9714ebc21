/- A region that calls for a configuration, makes a box and stores it there. -/
import Derived.Test.YtggffdkgfgdaoaaDoorE5
import Derived.Test.YtggffdkgfgdaoaaDoorGA
namespace Go.Proofs.YtggffdkgfgdaoaaDoor
open Go.RowKit Go.Maps
set_option linter.unusedVariables false
set_option linter.unusedSimpArgs false
def ptrV (b : Nat) : Value := .pointer (some ⟨b, 0, none⟩)
theorem ptrV_inj {b b' : Nat} (h : ptrV b = ptrV b') : b = b' := by unfold ptrV at h; cases h; rfl
def cfgV (t : Int) (A : Option Addr) (n c : Nat) : Value := .agg #[.int .i64 t, .slice A n c]
theorem cfgV_inj {t : Int} {A A' : Option Addr} {n c c' : Nat} (h : cfgV t A n c = cfgV t A' n c') : A = A' ∧ c = c' := by unfold cfgV at h; cases h; exact ⟨rfl, rfl⟩
structure RsI (k1 k2 k3 : Nat) (tp : Value → Value) (t : Int) (zs : List Int) (W : World) (G : Vals) (w : World) : Prop where
  e : Ext W w
  c : ∀ v, G k1 = some v → ∃ A c, v = tp (cfgV t A zs.length c) ∧ IntsC w (.slice A zs.length c) zs c ∧ NewA W.heap.size A zs ∧ (∀ b, G k2 = some (ptrV b) → 0 < zs.length → ∀ a, A = some a → a.block ≠ b) ∧
    (∀ u b, G k3 = some u → G k2 = some (ptrV b) → w.heap[b]? = some (.cells #[.int .i64 t, .slice A zs.length c] 34 (0, 0)))
  a : ∀ p, G k2 = some p → ∃ b, p = ptrV b ∧ W.heap.size ≤ b ∧ b < w.heap.size ∧ (G k3 = none → w.heap[b]? = some (.cells #[.int .i64 0, .slice none 0 0] 34 (0, 0)))
  s1 : G k1 = none → G k3 = none
  s2 : G k2 = none → G k3 = none
section
variable {k1 k2 k3 : Nat} {tp : Value → Value} {t : Int} {zs : List Int} {W : World} {G : Vals} {w w' : World}
theorem RsI.ext (h : RsI k1 k2 k3 tp t zs W G w) : Ext W w := h.e
theorem RsI.start (e : Ext W w) : RsI k1 k2 k3 tp t zs W (fun _ => none) w := ⟨e, fun v h => (by cases h), fun v h => (by cases h), fun _ => rfl, fun _ => rfl⟩
theorem put_ne {G : Vals} {k j : Nat} (h : j ≠ k) (v : Value) : (G.put k v) j = G j := by unfold Vals.put; rw [if_neg h]
theorem put_eq (G : Vals) (k : Nat) (v : Value) : (G.put k v) k = some v := by unfold Vals.put; rw [if_pos rfl]
theorem RsI.call (h : RsI k1 k2 k3 tp t zs W G w) (h12 : k1 ≠ k2) (h13 : k1 ≠ k3) (hg : G k1 = none) (e : Ext w w') {A : Option Addr} {c : Nat} (hi : IntsC w' (.slice A zs.length c) zs c) (hn : NewA w.heap.size A zs) : RsI k1 k2 k3 tp t zs W (G.put k1 (tp (cfgV t A zs.length c))) w' := by
  have h3 := h.s1 hg
  refine ⟨h.e.trans e, fun v hv => ?_, fun p hp => ?_, fun hk => ?_, fun hk => ?_⟩
  · rw [put_eq] at hv
    injection hv with hv
    refine ⟨A, c, hv.symm, hi, fun h0 a ha => Nat.le_trans h.e.size (hn h0 a ha), fun b hb h0 a ha => ?_, fun u b hu => ?_⟩
    · rw [put_ne (Ne.symm h12)] at hb
      obtain ⟨b', hb', _, hlt, _⟩ := h.a _ hb
      have hbb := ptrV_inj hb'
      have := hn h0 a ha
      omega
    · rw [put_ne (Ne.symm h13), h3] at hu; cases hu
  · rw [put_ne (Ne.symm h12)] at hp
    obtain ⟨b, h4, h5, h6, h7⟩ := h.a p hp
    exact ⟨b, h4, h5, Nat.lt_of_lt_of_le h6 e.size, fun hk => heap_ext e (h7 (by rwa [put_ne (Ne.symm h13)] at hk))⟩
  · rw [put_eq] at hk; cases hk
  · rw [put_ne (Ne.symm h13)]; exact h3
theorem RsI.alloc (h : RsI k1 k2 k3 tp t zs W G w) (h12 : k1 ≠ k2) (h23 : k2 ≠ k3) (hg : G k2 = none) : RsI k1 k2 k3 tp t zs W (G.put k2 (ptrV w.heap.size)) (w.alloc (.cells #[.int .i64 0, .slice none 0 0] 34)) := by
  have h3 := h.s2 hg
  refine ⟨h.e.alloc _, fun v hv => ?_, fun p hp => ?_, fun hk => ?_, fun hk => ?_⟩
  · rw [put_ne h12] at hv
    obtain ⟨A, c, h4, h5, h6, h7, h8⟩ := h.c v hv
    refine ⟨A, c, h4, h5.ext (alloc_ext _ _), h6, fun b hb h0 a ha => ?_, fun u b hu => ?_⟩
    · rw [put_eq] at hb
      injection hb with hb
      have hb := ptrV_inj hb
      obtain ⟨A', hv', hc, _⟩ := h5
      injection hv' with hA _ _
      subst hA
      obtain ⟨b', o', hA', hlt, _⟩ := hc (by simpa using h0)
      rw [ha] at hA'
      injection hA' with hA'
      rw [hA']
      show b' ≠ b
      omega
    · rw [put_ne (Ne.symm h23), h3] at hu; cases hu
  · rw [put_eq] at hp
    injection hp with hp
    exact ⟨_, hp.symm, h.e.size, by simp, fun _ => heap_alloc_new _ _⟩
  · rw [put_ne (Ne.symm h23)]; exact h3
  · rw [put_eq] at hk; cases hk
theorem RsI.store (h : RsI k1 k2 k3 tp t zs W G w) (h13 : k1 ≠ k3) (h23 : k2 ≠ k3) (htp : ∀ g g', tp g = tp g' → g = g') {A : Option Addr} {c b : Nat} (hg : G k3 = none) (hc : G k1 = some (tp (cfgV t A zs.length c))) (ha : G k2 = some (ptrV b)) {u : Value} (hB : w'.heap[b]? = some (.cells #[.int .i64 t, .slice A zs.length c] 34 (0, 0))) (hgr : w.grownBy w' (some b)) : RsI k1 k2 k3 tp t zs W (G.put k3 u) w' := by
  obtain ⟨A', c', h1, h2, h3, h4, _⟩ := h.c _ hc
  obtain ⟨hAA, hcc⟩ := cfgV_inj (htp _ _ h1)
  subst hAA hcc
  obtain ⟨b', hb', h5, h6, _⟩ := h.a _ ha
  have hb' := ptrV_inj hb'
  subst hb'
  have hE : Ext W w' := Below.grown h.e hgr h.e.size (fun k hk => by cases hk; exact h5)
  refine ⟨hE, fun v hv => ?_, fun p hp => ?_, fun hk => ?_, fun hk => ?_⟩
  · rw [put_ne h13, hc] at hv
    injection hv with hv
    refine ⟨A, c, hv.symm, ?_, h3, fun b2 hb2 => ?_, fun u2 b2 _ hb2 => ?_⟩
    · obtain ⟨A2, hv2, hcl, hr⟩ := h2
      injection hv2 with hA2 _ _
      subst hA2
      refine ⟨A, rfl, fun h0 => ?_, hr⟩
      obtain ⟨b2, o2, hA2, hlt, hcc⟩ := hcl h0
      have hne := h4 b ha (by simpa using h0) _ hA2
      exact ⟨b2, o2, hA2, Nat.lt_of_lt_of_le hlt hgr.size, fun j x hj => (cell_keep (hgr.block b2 hlt (by simpa using hne)) _).trans (hcc j x hj)⟩
    · rw [put_ne h23] at hb2; exact h4 b2 hb2
    · rw [put_ne h23, ha] at hb2
      injection hb2 with hb2
      have := ptrV_inj hb2
      rw [← this]; exact hB
  · rw [put_ne h23] at hp
    obtain ⟨b2, h7, h8, h9, _⟩ := h.a p hp
    exact ⟨b2, h7, h8, Nat.lt_of_lt_of_le h9 hgr.size, fun hk => by rw [put_eq] at hk; cases hk⟩
  · rw [put_ne h13, hc] at hk; cases hk
  · rw [put_ne h23, ha] at hk; cases hk
/-- At the end. -/
theorem RsI.done (h : RsI k1 k2 k3 tp t zs W G w) (htp : ∀ g g', tp g = tp g' → g = g') {A : Option Addr} {c b : Nat} {u : Value} (hu : G k3 = some u) (hc : G k1 = some (tp (cfgV t A zs.length c))) (ha : G k2 = some (ptrV b)) :
    Ext W w ∧ w.heap[b]? = some (.cells #[.int .i64 t, .slice A zs.length c] 34 (0, 0)) ∧ IntsC w (.slice A zs.length c) zs c ∧ NewA W.heap.size A zs ∧ W.heap.size ≤ b := by
  obtain ⟨A', c', h1, h2, h3, h4, h5⟩ := h.c _ hc
  obtain ⟨hAA, hcc⟩ := cfgV_inj (htp _ _ h1)
  subst hAA hcc
  obtain ⟨b', hb', h6, _, _⟩ := h.a _ ha
  have hb' := ptrV_inj hb'
  subst hb'
  exact ⟨h.e, h5 u b hu ha, h2, h3, h6⟩
end
end Go.Proofs.YtggffdkgfgdaoaaDoor
