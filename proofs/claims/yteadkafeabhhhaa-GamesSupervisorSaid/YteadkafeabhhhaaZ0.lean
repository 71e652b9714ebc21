/- When only their inputs are left, the state 0 that is not dropped is safe. Plain lists. -/
import Derived.Test.YteadkafeabhhhaaD0
import Derived.Test.YteadkafeabhhhaaG2
namespace Go.Proofs.Yteadkafeabhhhaa
set_option linter.unusedVariables false
set_option linter.unusedSimpArgs false

def cutE (th : List Bool) (row : List (Int × Int)) (i : Nat) : Int × Int := if th.getD i false = true then row.getD i (0, 0) else (-1, -1)
def cutR (th : List Bool) (row : List (Int × Int)) : List (Int × Int) := (List.range row.length).map (cutE th row)
def cutM (m : Mach) (th : List Bool) : Mach := ⟨m.ins, m.outs, (List.range m.rows.length).map (fun s => cutR th (m.row s))⟩
theorem cutM_len (m : Mach) (th : List Bool) : (cutM m th).rows.length = m.rows.length := by simp [cutM]
theorem cutM_row {m : Mach} {th : List Bool} {s : Nat} (hs : s < m.rows.length) : (cutM m th).row s = cutR th (m.row s) := by
  have h : s < (cutM m th).rows.length := by rw [cutM_len]; exact hs
  rw [row_eq h]
  simp [cutM]
theorem cut_valid {m : Mach} (hV : Valid m) (th : List Bool) : Valid (cutM m th) := by
  have hr : ∀ r ∈ (cutM m th).rows, ∃ s, s < m.rows.length ∧ r = cutR th (m.row s) := fun r hr => by
    obtain ⟨s, hs, rfl⟩ := List.mem_map.1 hr
    exact ⟨s, List.mem_range.1 hs, rfl⟩
  refine ⟨hV.ins, hV.outs, by rw [cutM_len]; exact hV.size, fun r h => ?_, fun r h e he => ?_⟩
  · obtain ⟨s, hs, rfl⟩ := hr r h
    unfold cutR
    rw [List.length_map, List.length_range, row_eq hs]
    exact hV.len _ (List.getElem_mem hs)
  · obtain ⟨s, hs, rfl⟩ := hr r h
    obtain ⟨i, hi, rfl⟩ := List.mem_map.1 he
    have hi := List.mem_range.1 hi
    unfold cutE
    split
    · have e : (m.row s).getD i (0, 0) = (m.row s)[i] := by simp [List.getD, hi]
      rw [e]
      have h1 : fitsB m (m.row s)[i] = true := by
        have key : ∀ e ∈ m.row s, fitsB m e = true := fun e he => hV.fit _ (List.getElem_mem hs) e (row_eq hs ▸ he)
        exact key _ (List.getElem_mem hi)
      unfold fitsB at h1 ⊢
      rw [cutM_len]
      exact h1
    · rfl
theorem filter_map_some {α β γ : Type} (f : α → β) (p : β → Bool) (g : β → γ) (q : α → Option γ) (hq : ∀ a, q a = if p (f a) = true then some (g (f a)) else none) : ∀ l : List α, ((l.map f).filter p).map g = l.filterMap q
  | [] => rfl
  | a :: l => by
    have ih := filter_map_some f p g q hq l
    rw [List.map_cons, List.filter_cons, List.filterMap_cons, hq a]
    cases h : p (f a) with
    | true => simp [ih]
    | false => simp [ih]
theorem suc_cut (th : List Bool) (row : List (Int × Int)) : sucE (cutR th row) = sucT row th := by
  unfold sucE sucT cutR
  refine filter_map_some _ _ _ _ (fun i => ?_) _
  unfold cutE
  by_cases h : th.getD i false = true
  · rw [if_pos h]
    by_cases h2 : (row.getD i (0, 0)).1 = -1
    · rw [if_neg (fun h3 => h3.2 h2), if_neg (by rw [h2]; decide)]
    · rw [if_pos ⟨h, h2⟩, if_pos (by simpa using h2)]
  · rw [if_neg h, if_neg (fun h3 => h h3.1), if_neg (by decide)]
theorem force_congr {g g' : Gr} (hn : g.n = g'.n) (h : ∀ s, s < g.n → g.sc s = g'.sc s ∧ g.turn s = g'.turn s ∧ g.goal s = g'.goal s) : ∀ k, forceL g k = forceL g' k
  | 0 => by
    unfold forceL force0
    rw [← hn]
    apply List.map_congr_left
    intro s hs
    rw [(h s (List.mem_range.1 hs)).2.2]
  | k + 1 => by
    unfold forceL
    rw [force_congr hn h k, ← hn]
    apply List.map_congr_left
    intro s hs
    have h1 := h s (List.mem_range.1 hs)
    unfold forceAt goesAt
    rw [h1.1, h1.2.1]
theorem sup_safe {m : Mach} (hV : Valid m) {th bad : List Bool} (hb : bad.length = m.rows.length) (h0 : (dropL m th bad).getD 0 false = false) :
    ∃ xs, safeG ⟨cutM m th, List.replicate m.rows.length false, bad⟩ = true :: xs := by
  have e1 : rankG (cutM m th) (othersL (List.replicate m.rows.length false)) bad = forceL (grT m th bad) m.rows.length := by
    unfold rankG
    rw [cutM_len]
    refine force_congr (by unfold grOf grT; exact cutM_len m th) (fun s hs => ?_) _
    have hs : s < m.rows.length := by have : s < (cutM m th).rows.length := hs; rwa [cutM_len] at this
    refine ⟨?_, ?_, rfl⟩
    · show sucE ((cutM m th).row s) = sucT (m.row s) th
      rw [cutM_row hs, suc_cut]
    · show (othersL (List.replicate m.rows.length false)).getD s false = true
      unfold othersL
      simp [List.getD, hs]
  have hlen : (safeG ⟨cutM m th, List.replicate m.rows.length false, bad⟩).length = m.rows.length := by rw [safeG_len]; exact cutM_len m th
  have hn := hV.size.1
  have hg := grT_ok hV th bad
  obtain ⟨r, hr, _⟩ := exists_rank (grT m th bad) hg
  have hf := force_eq hg hr m.rows.length
  have h2 : (grT m th bad).n = m.rows.length := rfl
  have hd : dropL m th bad = (List.range m.rows.length).map (fun s => decide (0 ≤ cutAt r m.rows.length s)) := by
    unfold dropL; rw [hf, h2, List.map_map]; rfl
  have hS : safeG ⟨cutM m th, List.replicate m.rows.length false, bad⟩ = (List.range m.rows.length).map (fun s => cutAt r m.rows.length s == -1) := by
    show (rankG (cutM m th) (othersL (List.replicate m.rows.length false)) bad).map (· == -1) = _
    rw [e1, hf, h2, List.map_map]; rfl
  rw [hd, getD_rangeMap _ _ (show 0 < m.rows.length by omega)] at h0
  have h3 : (cutAt r m.rows.length 0 == -1) = true := by
    have h4 : ¬ 0 ≤ cutAt r m.rows.length 0 := by simpa using h0
    unfold cutAt at h4 ⊢
    split
    · rename_i hc; rw [if_pos hc] at h4; omega
    · rfl
  rw [hS]
  obtain ⟨k, hk⟩ : ∃ k, m.rows.length = k + 1 := ⟨m.rows.length - 1, by omega⟩
  rw [hk] at h3 ⊢
  rw [List.range_succ_eq_map, List.map_cons, h3]
  exact ⟨_, rfl⟩
end Go.Proofs.Yteadkafeabhhhaa
