/- The reference's rounds: what is dropped after as many rounds as states is all that is forced. Plain lists. -/
import Derived.Test.YteadkafeabhhhaaD0
namespace Go.Proofs.Yteadkafeabhhhaa
set_option linter.unusedVariables false
set_option linter.unusedSimpArgs false

structure PassD (m : Mach) (th bad : List Bool) (r : Nat) (d0 d : List Bool) (s i : Nat) : Prop where
  snd : SoundD m th bad d
  st : ClosedD m th bad d0 ∨ r ≤ cntD d0
  pr : r + 1 ≤ cntD d ∨ (d = d0 ∧ ∀ s' i', s' < m.rows.length → i' < (m.row s').length → (s' < s ∨ s' = s ∧ i' < i) → OkAt m th d0 s' i')
theorem pass_start {m : Mach} {th bad d : List Bool} {r : Nat} (h : SoundD m th bad d) (hs : ClosedD m th bad d ∨ r ≤ cntD d) : PassD m th bad r d d 0 0 :=
  ⟨h, hs, Or.inr ⟨rfl, fun s' i' _ _ h => by omega⟩⟩
theorem pass_row {m : Mach} {th bad d0 d : List Bool} {r s : Nat} (h : PassD m th bad r d0 d s (m.row s).length) : PassD m th bad r d0 d (s + 1) 0 := by
  refine ⟨h.snd, h.st, ?_⟩
  rcases h.pr with h1 | ⟨h1, h2⟩
  · exact Or.inl h1
  · refine Or.inr ⟨h1, fun s' i' hs hi hb => ?_⟩
    by_cases e : s' = s
    · subst e; exact h2 s' i' hs hi (Or.inr ⟨rfl, hi⟩)
    · exact h2 s' i' hs hi (Or.inl (by omega))
theorem pass_end {m : Mach} {th bad d0 d : List Bool} {r : Nat} (h : PassD m th bad r d0 d m.rows.length 0) : SoundD m th bad d ∧ (ClosedD m th bad d ∨ r + 1 ≤ cntD d) := by
  refine ⟨h.snd, ?_⟩
  rcases h.pr with h1 | ⟨h1, h2⟩
  · exact Or.inr h1
  · subst h1
    exact Or.inl ⟨h.snd.len, h.snd.inc, fun s hs i hi => h2 s i hs hi (Or.inl hs)⟩
theorem pass_keep {m : Mach} {th bad d0 d : List Bool} {r s i : Nat} (h : PassD m th bad r d0 d s i)
    (hc : ¬ (th.getD i false = true ∧ ((m.row s).getD i (0, 0)).1 ≠ -1 ∧ d.getD ((m.row s).getD i (0, 0)).1.toNat false = true)) : PassD m th bad r d0 d s (i + 1) := by
  refine ⟨h.snd, h.st, ?_⟩
  rcases h.pr with h1 | ⟨h1, h2⟩
  · exact Or.inl h1
  · refine Or.inr ⟨h1, fun s' i' hs hi hb => ?_⟩
    by_cases e : s' = s ∧ i' = i
    · obtain ⟨rfl, rfl⟩ := e
      intro a1 a2 a3
      exact absurd ⟨a1, a2, h1 ▸ a3⟩ hc
    · exact h2 s' i' hs hi (by omega)
theorem pass_set {m : Mach} {th bad d0 d : List Bool} {r s i : Nat} (h : PassD m th bad r d0 d s i) (hs : s < m.rows.length) (hi : i < (m.row s).length)
    (hth : th.getD i false = true) (hne : ((m.row s).getD i (0, 0)).1 ≠ -1) (hlt : ((m.row s).getD i (0, 0)).1.toNat < m.rows.length) (hd : d.getD ((m.row s).getD i (0, 0)).1.toNat false = true) :
    PassD m th bad r d0 (d.set s true) s (i + 1) := by
  have hsl : s < d.length := by rw [h.snd.len]; exact hs
  obtain ⟨c1, c2, c3⟩ := cntD_set hsl
  refine ⟨sound_set h.snd hs hi hth hne hlt hd, h.st, ?_⟩
  rcases h.pr with h1 | ⟨h1, h2⟩
  · exact Or.inl (by omega)
  · cases hds : d.getD s false with
    | true =>
      rw [c3 hds]
      refine Or.inr ⟨h1, fun s' i' hs' hi' hb => ?_⟩
      by_cases e : s' = s ∧ i' = i
      · obtain ⟨rfl, rfl⟩ := e
        intro _ _ _
        rw [← h1]; exact hds
      · exact h2 s' i' hs' hi' (by omega)
    | false =>
      have h3 := c2 hds
      rcases h.st with h4 | h4
      · have := h4.ok s hs i hi hth hne (h1 ▸ hd)
        rw [← h1, hds] at this
        cases this
      · refine Or.inl ?_
        rw [← h1] at h4; omega
theorem pass_all {m : Mach} (hV : Valid m) {th bad d : List Bool} (hb : bad.length = m.rows.length) (h : SoundD m th bad d) (hc : ClosedD m th bad d ∨ m.rows.length ≤ cntD d) : d = dropL m th bad := by
  obtain ⟨h1, h2⟩ := drop_both (th := th) hV hb
  have hcl : ClosedD m th bad d := by
    rcases hc with hc | hc
    · exact hc
    · exact closed_all h.len (by rw [h.len]; exact hc)
  exact eq_of_both h hcl h1 h2
#print axioms pass_all
end Go.Proofs.Yteadkafeabhhhaa
