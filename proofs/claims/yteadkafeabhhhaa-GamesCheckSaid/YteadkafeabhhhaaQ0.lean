/- The strategies by definition: the least input that serves, looked for from the last one down; and the same as those of the program. Plain lists. -/
import Derived.Test.YteadkafeabhhhaaG4
namespace Go.Proofs.Yteadkafeabhhhaa
set_option linter.unusedVariables false
set_option linter.unusedSimpArgs false

def downB (p : Nat → Bool) (n : Nat) : Nat → Int
  | 0 => -1
  | t + 1 => if p (n - 1 - t) then ((n - 1 - t : Nat) : Int) else downB p n t
theorem downB_spec (p : Nat → Bool) (n : Nat) : ∀ t, t ≤ n → (downB p n t = -1 ∧ ∀ i, n - t ≤ i → i < n → p i = false) ∨ ∃ i : Nat, n - t ≤ i ∧ i < n ∧ downB p n t = i ∧ p i = true ∧ ∀ j, n - t ≤ j → j < i → p j = false
  | 0, _ => .inl ⟨rfl, fun i h1 h2 => by omega⟩
  | t + 1, ht => by
    cases hp : p (n - 1 - t) with
    | true => exact .inr ⟨n - 1 - t, by omega, by omega, by simp [downB, hp], hp, fun j h1 h2 => by omega⟩
    | false =>
      have e : downB p n (t + 1) = downB p n t := by simp [downB, hp]
      rw [e]
      have hj : ∀ j, n - (t + 1) ≤ j → ¬ n - t ≤ j → p j = false := fun j h1 h2 => by
        have : j = n - 1 - t := by omega
        rw [this]; exact hp
      rcases downB_spec p n t (by omega) with ⟨h1, h2⟩ | ⟨i, h1, h2, h3, h4, h5⟩
      · exact .inl ⟨h1, fun i hi hl => by
          by_cases hc : n - t ≤ i
          · exact h2 i hc hl
          · exact hj i hi hc⟩
      · exact .inr ⟨i, by omega, h2, h3, h4, fun j hj1 hj2 => by
          by_cases hc : n - t ≤ j
          · exact h5 j hc hj2
          · exact hj j hj1 hc⟩
def okP (V : Nat → Int) (es : List (Int × Int)) (j : Nat) : Prop := (es.getD j (0, 0)).1 ≠ -1 ∧ 0 ≤ V (es.getD j (0, 0)).1.toNat
theorem pickAt_spec (V : Nat → Int) (es : List (Int × Int)) : ∀ k, (pickAt V es k = (-1, -1) ∧ ∀ j, j < k → ¬ okP V es j) ∨
    ∃ i : Nat, i < k ∧ okP V es i ∧ pickAt V es k = (V (es.getD i (0, 0)).1.toNat, (i : Int)) ∧ (∀ j, j < k → okP V es j → V (es.getD i (0, 0)).1.toNat ≤ V (es.getD j (0, 0)).1.toNat) ∧ ∀ j, j < i → okP V es j → V (es.getD i (0, 0)).1.toNat < V (es.getD j (0, 0)).1.toNat
  | 0 => .inl ⟨rfl, fun j h => by omega⟩
  | k + 1 => by
    have e : pickAt V es (k + 1) = if (es.getD k (0, 0)).1 ≠ -1 ∧ 0 ≤ V (es.getD k (0, 0)).1.toNat ∧ ((pickAt V es k).1 < 0 ∨ V (es.getD k (0, 0)).1.toNat < (pickAt V es k).1) then (V (es.getD k (0, 0)).1.toNat, (k : Int)) else pickAt V es k := rfl
    by_cases ho : okP V es k
    · rcases pickAt_spec V es k with ⟨h1, h2⟩ | ⟨i, h1, h2, h3, h4, h5⟩
      · refine .inr ⟨k, by omega, ho, ?_, fun j hj hoj => ?_, fun j hj hoj => absurd hoj (h2 j hj)⟩
        · rw [e, if_pos ⟨ho.1, ho.2, .inl (by rw [h1]; decide)⟩]
        · by_cases hjk : j = k
          · subst hjk; omega
          · exact absurd hoj (h2 j (by omega))
      · by_cases hlt : V (es.getD k (0, 0)).1.toNat < V (es.getD i (0, 0)).1.toNat
        · refine .inr ⟨k, by omega, ho, ?_, fun j hj hoj => ?_, fun j hj hoj => ?_⟩
          · rw [e, if_pos ⟨ho.1, ho.2, .inr (by rw [h3]; exact hlt)⟩]
          · by_cases hjk : j = k
            · subst hjk; omega
            · have := h4 j (by omega) hoj; omega
          · have := h4 j hj hoj; omega
        · refine .inr ⟨i, by omega, h2, ?_, fun j hj hoj => ?_, h5⟩
          · rw [e, if_neg (fun h => ?_), h3]
            rw [h3] at h
            have h6 := h2.2
            rcases h.2.2 with h7 | h7
            · simp only at h7; omega
            · exact hlt h7
          · by_cases hjk : j = k
            · subst hjk; omega
            · exact h4 j (by omega) hoj
    · have e2 : pickAt V es (k + 1) = pickAt V es k := by rw [e, if_neg (fun h => ho ⟨h.1, h.2.1⟩)]
      rw [e2]
      rcases pickAt_spec V es k with ⟨h1, h2⟩ | ⟨i, h1, h2, h3, h4, h5⟩
      · exact .inl ⟨h1, fun j hj => by
          by_cases hjk : j = k
          · subst hjk; exact ho
          · exact h2 j (by omega)⟩
      · exact .inr ⟨i, by omega, h2, h3, fun j hj hoj => by
          by_cases hjk : j = k
          · subst hjk; exact absurd hoj ho
          · exact h4 j (by omega) hoj, h5⟩
/-- The least index that serves is the one picked, if these are the ones of the least value. -/
theorem pick_down {V : Nat → Int} {es : List (Int × Int)} {p : Nat → Bool} (h : ∀ i, i < es.length → (p i = true ↔ okP V es i ∧ ∀ j, j < es.length → okP V es j → V (es.getD i (0, 0)).1.toNat ≤ V (es.getD j (0, 0)).1.toNat)) :
    downB p es.length es.length = (pickAt V es es.length).2 := by
  rcases downB_spec p es.length es.length (Nat.le_refl _) with ⟨h1, h2⟩ | ⟨i, _, h2, h3, h4, h5⟩
  · rcases pickAt_spec V es es.length with ⟨k1, k2⟩ | ⟨j, k1, k2, k3, k4, k5⟩
    · rw [h1, k1]
    · have := h2 j (by omega) k1
      rw [(h j k1).2 ⟨k2, k4⟩] at this
      cases this
  · rcases pickAt_spec V es es.length with ⟨k1, k2⟩ | ⟨j, k1, k2, k3, k4, k5⟩
    · exact absurd ((h i h2).1 h4).1 (k2 i h2)
    · rw [h3, k3]
      have hpj : p j = true := (h j k1).2 ⟨k2, k4⟩
      have hji : ¬ j < i := fun hlt => by
        have := h5 j (by omega) hlt
        rw [hpj] at this; cases this
      have hij : ¬ i < j := fun hlt => by
        have h6 := ((h i h2).1 h4)
        have h7 := k5 i hlt h6.1
        have h8 := h6.2 j k1 k2
        omega
      have : i = j := by omega
      rw [this]

def toAt (g : Game) (s i : Nat) : Int := ((g.m.row s).getD i (0, 0)).1
def pAv (g : Game) (r : List Int) (s i : Nat) : Bool := g.ours.getD s false && decide (r.getD s 0 < 0) && decide (0 ≤ toAt g s i) && decide (r.getD (toAt g s i).toNat 0 < 0)
def pAt (g : Game) (r : List Int) (s i : Nat) : Bool := g.ours.getD s false && decide (0 < r.getD s 0) && decide (0 ≤ toAt g s i) && decide (r.getD (toAt g s i).toNat 0 = r.getD s 0 - 1)
def rAvF (g : Game) (s : Nat) : Int := downB (pAv g (rankG g.m (othersL g.ours) g.set) s) (g.m.row s).length (g.m.row s).length
def rAtF (g : Game) (s : Nat) : Int := downB (pAt g (rankG g.m g.ours g.set) s) (g.m.row s).length (g.m.row s).length
theorem downB_none {p : Nat → Bool} {n : Nat} (h : ∀ i, i < n → p i = false) : downB p n n = -1 := by
  rcases downB_spec p n n (Nat.le_refl _) with ⟨h1, _⟩ | ⟨i, _, h2, _, h4, _⟩
  · exact h1
  · rw [h i h2] at h4; cases h4
theorem row_mem {m : Mach} {s i : Nat} (hi : i < (m.row s).length) : ∃ r ∈ m.rows, (m.row s).getD i (0, 0) ∈ r ∧ s < m.rows.length := by
  by_cases hs : s < m.rows.length
  · refine ⟨m.rows[s], List.getElem_mem hs, ?_, hs⟩
    rw [row_eq hs] at hi ⊢
    rw [show (m.rows[s]).getD i (0, 0) = (m.rows[s])[i] by simp [List.getD, hi]]
    exact List.getElem_mem hi
  · exfalso
    unfold Mach.row at hi
    rw [show m.rows.getD s [] = [] by simp [List.getD, List.getElem?_eq_none (Nat.le_of_not_lt hs)]] at hi
    simp at hi
theorem toAt_range {g : Game} (hV : Valid g.m) {s i : Nat} (hi : i < (g.m.row s).length) : toAt g s i = -1 ∨ (0 ≤ toAt g s i ∧ toAt g s i < g.m.rows.length) := by
  obtain ⟨r, hr, he, _⟩ := row_mem hi
  exact fit_to (hV.fit r hr _ he)
theorem avoid_eq {g : Game} (hF : Fine g) : (List.range g.m.rows.length).map (rAvF g) = avoidL g := by
  unfold avoidL stratL
  apply List.map_congr_left
  intro s hs
  have hs := List.mem_range.1 hs
  have hT : ∀ u, avT g u = decide ((rankG g.m (othersL g.ours) g.set).getD u 0 < 0) := fun u => by
    unfold avT safeG
    by_cases hu : u < (rankG g.m (othersL g.ours) g.set).length
    · have := (rank_bd g.m hF.1 (othersL g.ours) g.set u).1
      simp [List.getD, hu] at this ⊢
      generalize (rankG g.m (othersL g.ours) g.set)[u] = x at *
      by_cases hx : x = -1
      · subst hx; rfl
      · rw [beq_eq_false_iff_ne.2 hx]; symm; rw [decide_eq_false_iff_not]; omega
    · simp [List.getD, List.getElem?_eq_none (Nat.le_of_not_lt hu)]
  unfold stratF rAvF
  cases ho : g.ours.getD s false with
  | false =>
    rw [downB_none (fun i _ => by unfold pAv; rw [ho]; rfl)]
    rfl
  | true =>
    cases ht : avT g s with
    | false =>
      rw [downB_none (fun i _ => by
        have h0 := hT s
        rw [ht] at h0
        unfold pAv; rw [← h0]; simp)]
      rfl
    | true =>
      have h0 := hT s
      rw [ht] at h0
      rw [pick_down (V := avV g) (p := pAv g (rankG g.m (othersL g.ours) g.set) s)]
      · rfl
      · intro i hi
        have hr := toAt_range (g := g) hF.1 hi
        have hv : ∀ u, (0 ≤ avV g u ↔ (rankG g.m (othersL g.ours) g.set).getD u 0 < 0) ∧ (avV g u ≤ 0) := fun u => by
          have := hT u
          unfold avV
          cases hh : avT g u with
          | true => rw [hh] at this; simp; simpa using this.symm
          | false => rw [hh] at this; simp; simpa using this.symm
        have hp : pAv g (rankG g.m (othersL g.ours) g.set) s i = true ↔ okP (avV g) (g.m.row s) i := by
          unfold pAv okP
          rw [ho, ← h0]
          show _ ↔ toAt g s i ≠ -1 ∧ 0 ≤ avV g (toAt g s i).toNat
          rw [(hv _).1]
          simp only [Bool.true_and, Bool.and_eq_true, decide_eq_true_eq]
          constructor
          · exact fun h => ⟨by omega, h.2⟩
          · exact fun h => ⟨by omega, h.2⟩
        rw [hp]
        refine ⟨fun h => ⟨h, fun j hj hoj => ?_⟩, fun h => h.1⟩
        have h1 := (hv ((g.m.row s).getD i (0, 0)).1.toNat).2
        have h2 := hoj.2
        omega
theorem attack_eq {g : Game} (hF : Fine g) : (List.range g.m.rows.length).map (rAtF g) = attackL g := by
  unfold attackL stratL
  apply List.map_congr_left
  intro s hs
  have hs := List.mem_range.1 hs
  obtain ⟨r, hR, hr⟩ := exists_rank (grOf g.m g.ours g.set) (grOf_ok hF.1 g.ours g.set)
  have hr : ∀ u, u < g.m.rows.length → r u = (rankG g.m g.ours g.set).getD u 0 := hr
  unfold stratF rAtF
  cases ho : g.ours.getD s false with
  | false =>
    rw [downB_none (fun i _ => by unfold pAt; rw [ho]; rfl)]
    rfl
  | true =>
    by_cases ht : 0 < (rankG g.m g.ours g.set).getD s 0
    · have hT : atT g s = true := decide_eq_true ht
      rw [hT]
      have hg0 : (grOf g.m g.ours g.set).goal s = false := by
        cases hh : (grOf g.m g.ours g.set).goal s with
        | false => rfl
        | true => have := hR.goal s hs hh; rw [hr s hs] at this; omega
      obtain ⟨k, hk⟩ : ∃ k : Int, (rankG g.m g.ours g.set).getD s 0 = k + 1 := ⟨(rankG g.m g.ours g.set).getD s 0 - 1, by omega⟩
      obtain ⟨⟨u0, hu0, hru0⟩, hall⟩ := hR.ours1 s hs hg0 ho k (by omega) (by rw [hr s hs]; exact hk)
      have hsc : ∀ u, u ∈ (grOf g.m g.ours g.set).sc s ↔ ∃ i, i < (g.m.row s).length ∧ toAt g s i ≠ -1 ∧ (toAt g s i).toNat = u := fun u => by
        show u ∈ sucE (g.m.row s) ↔ _
        unfold sucE
        rw [List.mem_map]
        constructor
        · rintro ⟨e, he, rfl⟩
          obtain ⟨h1, h2⟩ := List.mem_filter.1 he
          obtain ⟨i, hi, rfl⟩ := List.mem_iff_getElem.1 h1
          refine ⟨i, hi, ?_, ?_⟩ <;> unfold toAt <;> rw [show (g.m.row s).getD i (0, 0) = (g.m.row s)[i] by simp [List.getD, hi]]
          simpa using h2
        · rintro ⟨i, hi, h1, rfl⟩
          unfold toAt at h1 ⊢
          rw [show (g.m.row s).getD i (0, 0) = (g.m.row s)[i] by simp [List.getD, hi]] at h1 ⊢
          exact ⟨_, List.mem_filter.2 ⟨List.getElem_mem hi, by simpa using h1⟩, rfl⟩
      obtain ⟨i0, hi0, hne0, hto0⟩ := (hsc u0).1 hu0
      rw [pick_down (V := atV g) (p := pAt g (rankG g.m g.ours g.set) s)]
      · rfl
      · intro i hi
        have hto := toAt_range (g := g) hF.1 hi
        have hto0r := toAt_range (g := g) hF.1 hi0
        have hv0 : atV g (toAt g s i0).toNat = k := by
          show (rankG g.m g.ours g.set).getD _ 0 = k
          rw [← hr _ (by omega), hto0]; exact hru0
        have hmin : ∀ j, j < (g.m.row s).length → okP (atV g) (g.m.row s) j → k ≤ atV g (toAt g s j).toNat := fun j hj hoj => by
          have hjr := toAt_range (g := g) hF.1 hj
          have hne : toAt g s j ≠ -1 := hoj.1
          have h1 := hall _ ((hsc _).2 ⟨j, hj, hne, rfl⟩)
          rw [hr _ (by omega)] at h1
          have h2 : 0 ≤ (rankG g.m g.ours g.set).getD (toAt g s j).toNat 0 := hoj.2
          show k ≤ (rankG g.m g.ours g.set).getD _ 0
          omega
        have hok0 : okP (atV g) (g.m.row s) i0 := ⟨hne0, by
          show 0 ≤ atV g (toAt g s i0).toNat
          rw [hv0]; omega⟩
        have hp : pAt g (rankG g.m g.ours g.set) s i = true ↔ toAt g s i ≠ -1 ∧ atV g (toAt g s i).toNat = k := by
          unfold pAt
          rw [ho, decide_eq_true ht]
          simp only [Bool.true_and, Bool.and_eq_true, decide_eq_true_eq]
          show 0 ≤ toAt g s i ∧ atV g (toAt g s i).toNat = _ ↔ _
          constructor
          · exact fun h => ⟨by omega, by omega⟩
          · exact fun h => ⟨by omega, by omega⟩
        rw [hp]
        constructor
        · intro h
          refine ⟨⟨h.1, ?_⟩, fun j hj hoj => ?_⟩
          · show 0 ≤ atV g (toAt g s i).toNat
            omega
          · have := hmin j hj hoj
            show atV g (toAt g s i).toNat ≤ atV g (toAt g s j).toNat
            omega
        · intro h
          refine ⟨h.1.1, ?_⟩
          have h1 : atV g (toAt g s i).toNat ≤ atV g (toAt g s i0).toNat := h.2 i0 hi0 hok0
          have h2 := hmin i hi h.1
          omega
    · have hT : atT g s = false := decide_eq_false ht
      rw [hT, downB_none (fun i _ => by unfold pAt; rw [decide_eq_false ht]; simp)]
      rfl
end Go.Proofs.Yteadkafeabhhhaa
