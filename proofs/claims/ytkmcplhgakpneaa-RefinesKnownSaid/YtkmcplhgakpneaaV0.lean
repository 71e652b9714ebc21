/- Partitions that are respected: plain laws. -/
import Derived.Test.YtkmcplhgakpneaaN10
import Derived.Test.YtkmcplhgakpneaaU6
import Derived.Test.YtkmcplhgakpneaaR4
namespace Go.Proofs.Ytkmcplhgakpneaa
set_option linter.unusedVariables false
set_option linter.unusedSimpArgs false

theorem respAt_sig {m : Mach} {p : List Int} {e f : Int × Int} (he : fitsB m e = true) (hf : fitsB m f = true) : respAt p e f = true ↔ sigC p e ≠ sigC p f := by
  rcases fit_cases he with rfl | ⟨a1, a2, a3⟩
  · rcases fit_cases hf with rfl | ⟨b1, b2, b3⟩
    · simp [respAt, sigC]
    · simp only [respAt, sigC]
      have : (-1 : Int) ≠ f.2 := by omega
      simp [this]
  · rcases fit_cases hf with rfl | ⟨b1, b2, b3⟩
    · simp only [respAt, sigC]
      have : e.2 ≠ (-1 : Int) := by omega
      simp [this]
    · simp only [respAt, sigC]
      rw [if_neg (by omega), if_neg (by omega)]
      by_cases h2 : e.2 = f.2 <;> simp [h2, a1, b1]

/-- What a pair of states shows under p. -/
theorem respBad_iff {m : Mach} (hV : Valid m) {p : List Int} (hl : p.length = m.rows.length) {s t : Nat} (hs : s < m.rows.length) (ht : t < m.rows.length) :
    respBad m p s t = true ↔ p[s]'(by omega) = p[t]'(by omega) ∧ keyL p (p[s]'(by omega)) m.rows[s] ≠ keyL p (p[t]'(by omega)) m.rows[t] := by
  have h1 := hV.len _ (List.getElem_mem hs)
  have h2 := hV.len _ (List.getElem_mem ht)
  rw [Ne, key_iff hV hl hs ht]
  unfold respBad
  rw [getD_lt (show s < p.length by omega), getD_lt (show t < p.length by omega), show m.rows.getD s [] = m.rows[s] by simp [List.getD, hs], show m.rows.getD t [] = m.rows[t] by simp [List.getD, ht], Bool.and_eq_true, beq_iff_eq, List.any_eq_true]
  refine and_congr_right fun he => ?_
  constructor
  · rintro ⟨i, hi, hr⟩ ⟨_, hall⟩
    have hi1 := List.mem_range.1 hi
    have hi2 : i < m.rows[t].length := by omega
    rw [show m.rows[s].getD i (0, 0) = m.rows[s][i] by simp [List.getD, hi1], show m.rows[t].getD i (0, 0) = m.rows[t][i] by simp [List.getD, hi2]] at hr
    exact (respAt_sig (hV.fit _ (List.getElem_mem hs) _ (List.getElem_mem hi1)) (hV.fit _ (List.getElem_mem ht) _ (List.getElem_mem hi2))).1 hr (hall i hi1 hi2)
  · intro hn
    refine Classical.byContradiction fun hc => hn ⟨he, fun i hi1 hi2 => Classical.byContradiction fun hne => hc ⟨i, List.mem_range.2 hi1, ?_⟩⟩
    rw [show m.rows[s].getD i (0, 0) = m.rows[s][i] by simp [List.getD, hi1], show m.rows[t].getD i (0, 0) = m.rows[t][i] by simp [List.getD, hi2]]
    exact (respAt_sig (hV.fit _ (List.getElem_mem hs) _ (List.getElem_mem hi1)) (hV.fit _ (List.getElem_mem ht) _ (List.getElem_mem hi2))).2 hne

/-- A partition is respected: equal numbers show equal keys. -/
def Resp (m : Mach) (p : List Int) : Prop := ∀ s t (hs : s < m.rows.length) (ht : t < m.rows.length) (hs' : s < p.length) (ht' : t < p.length), p[s] = p[t] → keyL p p[s] m.rows[s] = keyL p p[t] m.rows[t]
theorem resp_respF {m : Mach} (hV : Valid m) {p : List Int} (hl : p.length = m.rows.length) : Resp m p ↔ respF m p = true := by
  rw [respF_iff]
  constructor
  · intro h s hs t ht
    cases hb : respBad m p s t with
    | false => rfl
    | true =>
      have := (respBad_iff hV hl (show s < m.rows.length by omega) (show t < m.rows.length by omega)).1 hb
      exact absurd (h s t (by omega) (by omega) hs (by omega) this.1) this.2
  · intro h s t hs ht hs' ht' he
    rcases Nat.lt_trichotomy t s with hlt | hlt | hlt
    · refine Classical.byContradiction fun hne => ?_
      have := (respBad_iff hV hl hs ht).2 ⟨he, hne⟩
      rw [h s hs' t hlt] at this; cases this
    · subst hlt; rfl
    · refine Classical.byContradiction fun hne => ?_
      have := (respBad_iff hV hl ht hs).2 ⟨he.symm, fun e => hne e.symm⟩
      rw [h t ht' s hlt] at this; cases this
theorem resp_refined {m : Mach} {p : List Int} (hl : p.length = m.rows.length) (hc : namedL p = p) : Resp m p ↔ refinedL m p = p := by
  have hk := keysL_length hl
  have hrl := refinedL_length m p hl
  constructor
  · intro h
    have : SameK (keysL m p) p := ⟨hk, fun s t hs ht hs' ht' => by
      rw [keysL_get hl (show s < m.rows.length by omega), keysL_get hl (show t < m.rows.length by omega)]
      constructor
      · intro he
        simp only [keyL, List.cons.injEq] at he
        exact he.1
      · exact h s t (by omega) (by omega) hs' ht'⟩
    unfold refinedL
    rw [namedL_sameK this, hc]
  · intro h s t hs ht hs' ht' he
    refine (refinedL_eq hl hs ht).1 ?_
    have e1 : (refinedL m p)[s]'(by omega) = p[s] := by simp only [h]
    have e2 : (refinedL m p)[t]'(by omega) = p[t] := by simp only [h]
    rw [e1, e2]; exact he

theorem sig_of {m : Mach} {p q : List Int} (hpq : ∀ s t (hs : s < p.length) (ht : t < p.length), s < m.rows.length → t < m.rows.length → p[s] = p[t] → q.getD s 0 = q.getD t 0) (hl : p.length = m.rows.length) {e f : Int × Int} (he : fitsB m e = true) (hf : fitsB m f = true) (h : sigC p e = sigC p f) : sigC q e = sigC q f := by
  simp only [sigC, List.cons.injEq, and_true] at h ⊢
  refine ⟨h.1, ?_⟩
  rcases fit_cases he with rfl | ⟨a1, a2, a3⟩
  · rcases fit_cases hf with rfl | ⟨b1, b2, b3⟩
    · rfl
    · have := h.1; simp only at this; omega
  · rcases fit_cases hf with rfl | ⟨b1, b2, b3⟩
    · have := h.1; simp only at this; omega
    · have h2 := h.2
      rw [if_neg (by omega), if_neg (by omega)] at h2 ⊢
      rw [getD_lt (show e.1.toNat < p.length by omega), getD_lt (show f.1.toNat < p.length by omega)] at h2
      exact hpq _ _ (by omega) (by omega) (by omega) (by omega) h2

/-- What is respected is finer than all rounds. -/
theorem resp_finer {m : Mach} (hV : Valid m) {p : List Int} (hl : p.length = m.rows.length) (h : Resp m p) : ∀ k, FinerL p (iterL m k)
  | 0 => ⟨by rw [hl, iterL_length], fun s t hs ht hs' ht' _ => by simp [iterL]⟩
  | k + 1 => by
    have ih := resp_finer hV hl h k
    have hlk := iterL_length m k
    refine ⟨by rw [hl, iterL_length], fun s t hs ht hs' ht' he => ?_⟩
    refine (refinedL_eq hlk (show s < m.rows.length by omega) (show t < m.rows.length by omega)).2 ?_
    refine (key_iff hV hlk (show s < m.rows.length by omega) (show t < m.rows.length by omega)).2 ⟨ih.2 s t hs ht (by omega) (by omega) he, fun i hi hi' => ?_⟩
    have hkk := (key_iff hV hl (show s < m.rows.length by omega) (show t < m.rows.length by omega)).1 (h s t (by omega) (by omega) hs ht he)
    refine sig_of (fun a b ha hb _ _ hab => ?_) hl (hV.fit _ (List.getElem_mem (show s < m.rows.length by omega)) _ (List.getElem_mem hi)) (hV.fit _ (List.getElem_mem (show t < m.rows.length by omega)) _ (List.getElem_mem hi')) (hkk.2 i hi hi')
    rw [getD_lt (show a < (iterL m k).length by omega), getD_lt (show b < (iterL m k).length by omega)]
    exact ih.2 a b ha hb (by omega) (by omega) hab

theorem idxs_mem {p : List Int} {k : Nat} {c x : Int} : x ∈ idxs p k c ↔ ∃ i : Nat, i < k ∧ p.getD i 0 = c ∧ x = (i : Int) := by
  unfold idxs
  rw [List.mem_map]
  constructor
  · rintro ⟨i, hi, rfl⟩
    have := List.mem_filter.1 hi
    exact ⟨i, List.mem_range.1 this.1, by simpa using this.2, rfl⟩
  · rintro ⟨i, h1, h2, rfl⟩
    exact ⟨i, List.mem_filter.2 ⟨List.mem_range.2 h1, by simpa using h2⟩, rfl⟩
/-- The pairs tie what p ties. -/
theorem pairs_tie {p : List Int} {cnt : Nat} (hb : ∀ x ∈ p, 0 ≤ x ∧ x < cnt) {ps : List (Nat × Nat)} (hps : ∀ x ∈ (pairsOf (rowsAt p cnt p.length)).map natP, x ∈ ps) {a b : Nat} (ha : a < p.length) (hb' : b < p.length) (he : p[a] = p[b]) : ClosedBy ps a b := by
  have hx := hb _ (List.getElem_mem ha)
  have hrow : idxs p p.length p[a] ∈ rowsAt p cnt p.length := by
    unfold rowsAt
    refine List.mem_map.2 ⟨p[a].toNat, List.mem_range.2 (by omega), ?_⟩
    rw [Int.toNat_of_nonneg hx.1]
  have key : ∀ c (hc : c < p.length), p[c] = p[a] → ClosedBy ps ((idxs p p.length p[a]).headD 0).toNat c := fun c hc hca => by
    have hm : (c : Int) ∈ idxs p p.length p[a] := idxs_mem.2 ⟨c, hc, by rw [getD_lt hc]; exact hca, rfl⟩
    have hp : ((idxs p p.length p[a]).headD 0, (c : Int)) ∈ pairsOf (rowsAt p cnt p.length) := List.mem_flatMap.2 ⟨_, hrow, List.mem_map.2 ⟨_, hm, rfl⟩⟩
    have := ClosedBy.pair (hps _ (List.mem_map.2 ⟨_, hp, rfl⟩))
    simpa [natP] using this
  exact (key a ha rfl).symm.trans (key b hb' he.symm)
/-- Each pair lies in one block. -/
theorem pairs_block {p : List Int} {cnt : Nat} {x : Nat × Nat} (hx : x ∈ (pairsOf (rowsAt p cnt p.length)).map natP) : ∃ (h1 : x.1 < p.length) (h2 : x.2 < p.length), p[x.1] = p[x.2] := by
  obtain ⟨y, hy, rfl⟩ := List.mem_map.1 hx
  obtain ⟨r, hr, hy⟩ := List.mem_flatMap.1 hy
  obtain ⟨z, hz, rfl⟩ := List.mem_map.1 hy
  obtain ⟨c, _, rfl⟩ := List.mem_map.1 hr
  have hh : (idxs p p.length c).headD 0 ∈ idxs p p.length c := by
    cases h : idxs p p.length c with
    | nil => rw [h] at hz; simp at hz
    | cons y r => simp
  obtain ⟨i, hi, hic, hie⟩ := idxs_mem.1 hh
  obtain ⟨j, hj, hjc, rfl⟩ := idxs_mem.1 hz
  have e : natP ((idxs p p.length c).headD 0, (j : Int)) = (i, j) := by
    rw [hie]; simp [natP]
  rw [e]
  exact ⟨hi, hj, by rw [getD_lt hi] at hic; rw [getD_lt hj] at hjc; rw [hic, hjc]⟩

theorem join_core {m : Mach} (hV : Valid m) {p q : List Int} {c1 c2 : Nat} (hp : p.length = m.rows.length) (hq : q.length = m.rows.length) (rp : Resp m p) (rq : Resp m q) (hb1 : ∀ x ∈ p, 0 ≤ x ∧ x < c1) (hb2 : ∀ x ∈ q, 0 ≤ x ∧ x < c2) {ps : List (Nat × Nat)}
    (hps : (pairsOf (rowsAt p c1 p.length) ++ pairsOf (rowsAt q c2 q.length)).map natP = ps) {J : List Int} (hJl : J.length = m.rows.length) (hJ : ∀ s t (hs : s < m.rows.length) (ht : t < m.rows.length), J[s]'(by omega) = J[t]'(by omega) ↔ ClosedBy ps s t) : Resp m J := by
  have hin1 : ∀ x ∈ (pairsOf (rowsAt p c1 p.length)).map natP, x ∈ ps := fun x hx => by rw [← hps, List.map_append]; exact List.mem_append_left _ hx
  have hin2 : ∀ x ∈ (pairsOf (rowsAt q c2 q.length)).map natP, x ∈ ps := fun x hx => by rw [← hps, List.map_append]; exact List.mem_append_right _ hx
  have one : ∀ (r : List Int) (hr : r.length = m.rows.length) (rr : Resp m r) (tie : ∀ a b (ha : a < r.length) (hb : b < r.length), r[a] = r[b] → ClosedBy ps a b) (s t : Nat) (hs : s < m.rows.length) (ht : t < m.rows.length), r[s]'(by omega) = r[t]'(by omega) → keyL J (J[s]'(by omega)) m.rows[s] = keyL J (J[t]'(by omega)) m.rows[t] := fun r hr rr tie s t hs ht he => by
    refine (key_iff hV hJl hs ht).2 ⟨(hJ s t hs ht).2 (tie s t (by omega) (by omega) he), fun i hi hi' => ?_⟩
    have hkk := (key_iff hV hr hs ht).1 (rr s t hs ht (by omega) (by omega) he)
    refine sig_of (fun a b ha hb ha' hb' hab => ?_) hr (hV.fit _ (List.getElem_mem hs) _ (List.getElem_mem hi)) (hV.fit _ (List.getElem_mem ht) _ (List.getElem_mem hi')) (hkk.2 i hi hi')
    rw [getD_lt (show a < J.length by omega), getD_lt (show b < J.length by omega)]
    exact (hJ a b ha' hb').2 (tie a b ha hb hab)
  intro s t hs ht hs' ht' he
  have hcl := (hJ s t hs ht).1 he
  have := hcl (fun x y => x = y ∨ ∃ (hx : x < m.rows.length) (hy : y < m.rows.length), keyL J (J[x]'(by omega)) m.rows[x] = keyL J (J[y]'(by omega)) m.rows[y]) (fun _ => .inl rfl)
    (fun x y h => by
      rcases h with rfl | ⟨hx, hy, h⟩
      · exact .inl rfl
      · exact .inr ⟨hy, hx, h.symm⟩)
    (fun x y z h1 h2 => by
      rcases h1 with rfl | ⟨hx, hy, h1⟩
      · exact h2
      · rcases h2 with rfl | ⟨hy', hz, h2⟩
        · exact .inr ⟨hx, hy, h1⟩
        · exact .inr ⟨hx, hz, h1.trans h2⟩)
    (fun x hx => by
      rw [← hps, List.map_append] at hx
      rcases List.mem_append.1 hx with h | h
      · obtain ⟨h1, h2, h3⟩ := pairs_block h
        exact .inr ⟨by omega, by omega, one p hp rp (fun a b ha hb hab => pairs_tie hb1 hin1 ha hb hab) _ _ (by omega) (by omega) h3⟩
      · obtain ⟨h1, h2, h3⟩ := pairs_block h
        exact .inr ⟨by omega, by omega, one q hq rq (fun a b ha hb hab => pairs_tie hb2 hin2 ha hb hab) _ _ (by omega) (by omega) h3⟩)
  rcases this with rfl | ⟨_, _, h⟩
  · rfl
  · exact h
/-- The join of what is respected is respected. -/
theorem join_resp {m : Mach} (hV : Valid m) {p q : List Int} {n c1 c2 : Nat} (hn : n = m.rows.length) (hp : p.length = n) (hq : q.length = n) (rp : Resp m p) (rq : Resp m q) (hb1 : ∀ x ∈ p, 0 ≤ x ∧ x < c1) (hb2 : ∀ x ∈ q, 0 ≤ x ∧ x < c2) {up : List Nat} (hU : UpIs n ((pairsOf (rowsAt p c1 p.length) ++ pairsOf (rowsAt q c2 q.length)).map natP) up) :
    Resp m (namedL ((List.range n).map (fun i => (rootU up i : Int)))) := by
  subst hn
  have hJl : (namedL ((List.range m.rows.length).map (fun i => (rootU up i : Int)))).length = m.rows.length := by rw [namedL_length]; simp
  refine join_core hV hp hq rp rq hb1 hb2 rfl hJl fun s t hs ht => ?_
  rw [namedL_eq _ (s := s) (t := t) (by simp; exact hs) (by simp; exact ht), ← hU.2.2.1 s t hs ht]
  simp only [List.getElem_map, List.getElem_range]
  omega
end Go.Proofs.Ytkmcplhgakpneaa
