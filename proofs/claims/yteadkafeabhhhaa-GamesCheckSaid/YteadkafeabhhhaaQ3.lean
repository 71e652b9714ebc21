/- What is left when a strategy is followed: a valid machine; its ranks. Plain lists. -/
import Derived.Test.YteadkafeabhhhaaQ2
import Derived.Test.YteadkafeabhhhaaF2
namespace Go.Proofs.Yteadkafeabhhhaa
set_option linter.unusedVariables false
set_option linter.unusedSimpArgs false

theorem strat_ok2 {g : Game} (hF : Fine g) {l : List Int} (hl : l.length = g.m.rows.length) (h : ∀ s, s < g.m.rows.length → l.getD s 0 = -1 ∨ ∃ i : Nat, i < (g.m.row s).length ∧ l.getD s 0 = i ∧ (g.ours.getD s false = true → 0 ≤ toAt g s i)) : stratE g l = 0 := by
  unfold stratE
  rw [if_neg (fun h => h hl)]
  refine errL_none (fun s hs => ?_)
  rw [hl] at hs
  have hr := row_len hF.1 hs
  unfold errAt
  rcases h s hs with h1 | ⟨i, h1, h2, h3⟩
  · have hi := hF.1.ins
    rw [h1, if_neg (by omega), if_neg (by omega)]
  · rw [h2, if_neg (by omega), if_neg (fun h4 => ?_)]
    have h5 := h4.2.2
    rw [Int.toNat_natCast] at h5
    have h6 := h3 h4.2.1
    unfold toAt at h6
    omega
theorem fM_valid {g : Game} (hF : Fine g) (l : List Int) : Valid (fM g l) := by
  have hl : (fM g l).rows.length = g.m.rows.length := by simp [fM]
  have hfit : ∀ e, fitsB g.m e = true → fitsB (fM g l) e = true := fun e he => by
    unfold fitsB at he ⊢
    rw [hl]
    exact he
  refine ⟨hF.1.ins, hF.1.outs, by rw [hl]; exact hF.1.size, fun r hr => ?_, fun r hr e he => ?_⟩
  · obtain ⟨s, hs, rfl⟩ := List.mem_map.1 hr
    rw [fR_len]
    exact row_len hF.1 (List.mem_range.1 hs)
  · obtain ⟨s, hs, rfl⟩ := List.mem_map.1 hr
    have hs := List.mem_range.1 hs
    unfold fR at he
    obtain ⟨i, hi, rfl⟩ := List.mem_map.1 he
    have hi := List.mem_range.1 hi
    unfold fE
    split
    · rfl
    · apply hfit
      obtain ⟨r0, hr0, h0, _⟩ := row_mem hi
      exact hF.1.fit r0 hr0 _ h0
theorem gr_fol {g : Game} (l : List Int) {n : Nat} : grOf (fM g l) (List.replicate n false) g.set = grM (folL g l) g.set := by
  unfold grOf grM
  have h1 : (fM g l).rows.length = (folL g l).length := by simp [fM, folL]
  rw [h1]
  have h2 : (fun s => sucE ((fM g l).row s)) = (fun s => sucM ((folL g l).getD s [])) := by
    funext s
    have key : ∀ r : List (Int × Int), sucE r = sucM (r.map (fun e => e.1)) := fun r => by
      unfold sucE sucM
      rw [List.filter_map, List.map_map]
      rfl
    by_cases hs : s < g.m.rows.length
    · rw [key]
      congr 1
      have e1 : (fM g l).row s = fR g l s := by unfold Mach.row fM; exact getD_map_range _ _ hs
      rw [e1, fol_get l hs]
      unfold fR folR
      rw [List.map_map]
      apply List.map_congr_left
      intro i _
      show (fE g l s i).1 = folE g l s i
      unfold fE folE
      split <;> rfl
    · have e1 : (fM g l).row s = [] := by
        unfold Mach.row fM
        simp [List.getD, List.getElem?_eq_none (show ((List.range g.m.rows.length).map (fR g l)).length ≤ s by simpa using hs)]
      rw [e1, fol_none l hs]
      rfl
  rw [h2]
  congr 1
  funext s
  by_cases hs : s < n
  · simp [List.getD, hs]
  · simp [List.getD, List.getElem?_eq_none (show (List.replicate n false).length ≤ s by simpa using hs)]
theorem wins_rank {g : Game} (hF : Fine g) (l : List Int) {n : Nat} : wins (folL g l) g.set = ((rankG (fM g l) (List.replicate n false) g.set).getD 0 0 != -1) := by
  have hb := (rank_bd (fM g l) (fM_valid hF l) (List.replicate n false) g.set 0).1
  have h1 : (fM g l).rows.length = (folL g l).length := by simp [fM, folL]
  unfold wins
  unfold rankG at hb ⊢
  rw [gr_fol, h1] at hb ⊢
  generalize (forceL (grM (folL g l) g.set) (folL g l).length).getD 0 0 = x at *
  by_cases hx : x = -1
  · subst hx; rfl
  · rw [decide_eq_true (show 0 ≤ x by omega)]
    symm; simpa using hx
end Go.Proofs.Yteadkafeabhhhaa
