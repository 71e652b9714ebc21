/- Union by least roots: plain laws. -/
import Derived.Test.YtkmcplhgakpneaaT3
namespace Go.Proofs.Ytkmcplhgakpneaa
set_option linter.unusedVariables false
set_option linter.unusedSimpArgs false

/-- Each number points to one that is not greater. -/
def UpOK (up : List Nat) : Prop := ∀ i, i < up.length → up.getD i 0 ≤ i
/-- The root of a number. -/
def rootF (up : List Nat) : Nat → Nat → Nat
  | 0, i => i
  | f + 1, i => if up.getD i 0 = i then i else rootF up f (up.getD i 0)
def rootU (up : List Nat) (i : Nat) : Nat := rootF up i i
theorem rootF_more {up : List Nat} (h : UpOK up) : ∀ (f i : Nat), i < up.length → i ≤ f → rootF up f i = rootU up i := by
  intro f
  induction f using Nat.strongRecOn with
  | ind f ih =>
    intro i hi hif
    cases f with
    | zero =>
      have : i = 0 := by omega
      subst this; rfl
    | succ f =>
      unfold rootU
      cases i with
      | zero =>
        have := h 0 hi
        simp only [rootF]
        rw [if_pos (by omega)]
      | succ i =>
        simp only [rootF]
        by_cases he : up.getD (i + 1) 0 = i + 1
        · rw [if_pos he, if_pos he]
        · rw [if_neg he, if_neg he]
          have hle := h (i + 1) hi
          have h1 := ih f (by omega) (up.getD (i + 1) 0) (by omega) (by omega)
          have h2 := ih i (by omega) (up.getD (i + 1) 0) (by omega) (by omega)
          rw [h1, h2]
theorem rootU_step {up : List Nat} (h : UpOK up) {i : Nat} (hi : i < up.length) : rootU up i = if up.getD i 0 = i then i else rootU up (up.getD i 0) := by
  have := rootF_more h (i + 1) i hi (by omega)
  rw [← this]
  simp only [rootF]
  by_cases he : up.getD i 0 = i
  · rw [if_pos he, if_pos he]
  · have hle := h i hi
    rw [if_neg he, if_neg he, rootF_more h i _ (by omega) (by omega)]
theorem rootU_fix {up : List Nat} (h : UpOK up) {i : Nat} (hi : i < up.length) (he : up.getD i 0 = i) : rootU up i = i := by
  rw [rootU_step h hi, if_pos he]
theorem rootU_up {up : List Nat} (h : UpOK up) {i : Nat} (hi : i < up.length) : rootU up (up.getD i 0) = rootU up i := by
  by_cases he : up.getD i 0 = i
  · rw [he]
  · rw [rootU_step h hi, if_neg he]
theorem rootU_root {up : List Nat} (h : UpOK up) : ∀ i, i < up.length → rootU up i ≤ i ∧ up.getD (rootU up i) 0 = rootU up i := by
  intro i
  induction i using Nat.strongRecOn with
  | ind i ih =>
    intro hi
    rw [rootU_step h hi]
    by_cases he : up.getD i 0 = i
    · rw [if_pos he]; exact ⟨Nat.le_refl _, he⟩
    · rw [if_neg he]
      have hle := h i hi
      have := ih (up.getD i 0) (by omega) (by omega)
      exact ⟨by omega, this.2⟩
theorem getD_set {up : List Nat} {i j x : Nat} (hi : i < up.length) : (up.set i x).getD j 0 = if j = i then x else up.getD j 0 := by
  simp only [List.getD, List.getElem?_set]
  by_cases h : i = j
  · subst h; simp [hi]
  · rw [if_neg h, if_neg (fun e => h e.symm)]
/-- Halving a path keeps all roots. -/
theorem half_ok {up : List Nat} (h : UpOK up) {i : Nat} (hi : i < up.length) : UpOK (up.set i (up.getD (up.getD i 0) 0)) := by
  intro j hj
  rw [List.length_set] at hj
  rw [getD_set hi]
  have h1 := h i hi
  have h2 := h (up.getD i 0) (by omega)
  split
  · subst_vars; omega
  · exact h j hj
theorem half_root {up : List Nat} (h : UpOK up) {i : Nat} (hi : i < up.length) : ∀ j, j < up.length → rootU (up.set i (up.getD (up.getD i 0) 0)) j = rootU up j := by
  have hok := half_ok h hi
  have h1 := h i hi
  have h2 := h (up.getD i 0) (by omega)
  intro j
  induction j using Nat.strongRecOn with
  | ind j ih =>
    intro hj
    have hl : j < (up.set i (up.getD (up.getD i 0) 0)).length := by rw [List.length_set]; exact hj
    rw [rootU_step hok hl, getD_set hi]
    by_cases hji : j = i
    · subst hji
      rw [if_pos rfl]
      by_cases hg : up.getD (up.getD j 0) 0 = j
      · rw [if_pos hg]
        have : up.getD j 0 = j := by omega
        exact (rootU_fix h hj this).symm
      · rw [if_neg hg]
        rw [ih _ (by omega) (by omega), rootU_up h (show up.getD j 0 < up.length by omega), rootU_up h hj]
    · rw [if_neg hji]
      have h3 := h j hj
      by_cases he : up.getD j 0 = j
      · rw [if_pos he]; exact (rootU_fix h hj he).symm
      · rw [if_neg he, ih _ (by omega) (by omega)]
        exact rootU_up h hj
/-- Two roots are joined. -/
theorem join_ok {up : List Nat} (h : UpOK up) {a b : Nat} (ha : a < up.length) (hb : b < up.length) : UpOK (up.set (max a b) (min a b)) := by
  intro j hj
  rw [List.length_set] at hj
  rw [getD_set (by omega)]
  split
  · omega
  · exact h j hj
theorem join_root {up : List Nat} (h : UpOK up) {a b : Nat} (ha : a < up.length) (hb : b < up.length) (hra : up.getD a 0 = a) (hrb : up.getD b 0 = b) :
    ∀ j, j < up.length → rootU (up.set (max a b) (min a b)) j = if rootU up j = max a b then min a b else rootU up j := by
  have hok := join_ok h ha hb
  have hm : max a b < up.length := by omega
  have hmin : up.getD (min a b) 0 = min a b := by
    rcases Nat.le_total a b with hab | hab
    · rw [Nat.min_eq_left hab]; exact hra
    · rw [Nat.min_eq_right hab]; exact hrb
  have hmax : up.getD (max a b) 0 = max a b := by
    rcases Nat.le_total a b with hab | hab
    · rw [Nat.max_eq_right hab]; exact hrb
    · rw [Nat.max_eq_left hab]; exact hra
  intro j
  induction j using Nat.strongRecOn with
  | ind j ih =>
    intro hj
    have hl : j < (up.set (max a b) (min a b)).length := by rw [List.length_set]; exact hj
    rw [rootU_step hok hl, getD_set hm]
    by_cases hjm : j = max a b
    · rw [if_pos hjm, hjm, rootU_fix h hm hmax, if_pos rfl]
      by_cases hab : min a b = max a b
      · rw [if_pos hab, hab]
      · rw [if_neg hab, ih _ (by omega) (by omega), rootU_fix h (by omega) hmin, if_neg hab]
    · rw [if_neg hjm]
      have h3 := h j hj
      by_cases he : up.getD j 0 = j
      · rw [if_pos he, rootU_fix h hj he, if_neg hjm]
      · rw [if_neg he, ih _ (by omega) (by omega), rootU_up h hj]

/-- The least equivalence that holds the pairs. -/
def ClosedBy (ps : List (Nat × Nat)) (i j : Nat) : Prop := ∀ S : Nat → Nat → Prop, (∀ x, S x x) → (∀ x y, S x y → S y x) → (∀ x y z, S x y → S y z → S x z) → (∀ p ∈ ps, S p.1 p.2) → S i j
theorem ClosedBy.refl (ps : List (Nat × Nat)) (i : Nat) : ClosedBy ps i i := fun S hr _ _ _ => hr i
theorem ClosedBy.symm {ps : List (Nat × Nat)} {i j : Nat} (h : ClosedBy ps i j) : ClosedBy ps j i := fun S hr hs ht hp => hs _ _ (h S hr hs ht hp)
theorem ClosedBy.trans {ps : List (Nat × Nat)} {i j k : Nat} (h : ClosedBy ps i j) (h2 : ClosedBy ps j k) : ClosedBy ps i k := fun S hr hs ht hp => ht _ _ _ (h S hr hs ht hp) (h2 S hr hs ht hp)
theorem ClosedBy.mono {ps qs : List (Nat × Nat)} (h : ∀ p ∈ ps, p ∈ qs) {i j : Nat} (hc : ClosedBy ps i j) : ClosedBy qs i j := fun S hr hs ht hp => hc S hr hs ht (fun p hm => hp p (h p hm))
theorem ClosedBy.pair {ps : List (Nat × Nat)} {p : Nat × Nat} (h : p ∈ ps) : ClosedBy ps p.1 p.2 := fun S _ _ _ hp => hp p h

/-- What the parents say when the pairs ps are in. -/
def UpIs (n : Nat) (ps : List (Nat × Nat)) (up : List Nat) : Prop := up.length = n ∧ UpOK up ∧ (∀ i j, i < n → j < n → (rootU up i = rootU up j ↔ ClosedBy ps i j)) ∧ ∀ p ∈ ps, p.1 < n ∧ p.2 < n
theorem upIs_start (n : Nat) : UpIs n [] (List.range n) := by
  have hg : ∀ i, i < n → (List.range n).getD i 0 = i := fun i hi => by simp [List.getD, hi]
  have hok : UpOK (List.range n) := fun i hi => by rw [List.length_range] at hi; rw [hg i hi]; exact Nat.le_refl _
  refine ⟨by simp, hok, fun i j hi hj => ?_, by simp⟩
  rw [rootU_fix hok (by simpa using hi) (hg i hi), rootU_fix hok (by simpa using hj) (hg j hj)]
  constructor
  · rintro rfl; exact ClosedBy.refl _ _
  · intro h
    exact h (fun x y => x = y) (fun _ => rfl) (fun _ _ => Eq.symm) (fun _ _ _ => Eq.trans) (by simp)
theorem UpIs.same {n : Nat} {ps : List (Nat × Nat)} {up up' : List Nat} (h : UpIs n ps up) (hl : up'.length = n) (hok : UpOK up') (hr : ∀ j, j < n → rootU up' j = rootU up j) : UpIs n ps up' :=
  ⟨hl, hok, fun i j hi hj => by rw [hr i hi, hr j hj]; exact h.2.2.1 i j hi hj, h.2.2.2⟩
theorem UpIs.join {n : Nat} {ps : List (Nat × Nat)} {up : List Nat} (h : UpIs n ps up) {x y : Nat} (hx : x < n) (hy : y < n) : UpIs n (ps ++ [(x, y)]) (up.set (max (rootU up x) (rootU up y)) (min (rootU up x) (rootU up y))) := by
  obtain ⟨hl, hok, hc, hin⟩ := h
  have hrx := rootU_root hok x (by omega)
  have hry := rootU_root hok y (by omega)
  have hj := join_root hok (show rootU up x < up.length by omega) (show rootU up y < up.length by omega) hrx.2 hry.2
  have hmono : ∀ {i j : Nat}, ClosedBy ps i j → ClosedBy (ps ++ [(x, y)]) i j := fun hc => hc.mono (fun p hp => List.mem_append_left _ hp)
  have hxy : ClosedBy (ps ++ [(x, y)]) x y := ClosedBy.pair (p := (x, y)) (by simp)
  refine ⟨by rw [List.length_set]; exact hl, join_ok hok (by omega) (by omega), fun i j hi hj' => ?_, fun p hp => by
    rcases List.mem_append.1 hp with h | h
    · exact hin p h
    · simp at h; subst h; exact ⟨hx, hy⟩⟩
  rw [hj i (by omega), hj j (by omega)]
  have hxx := fun {i : Nat} (hi : i < n) => hc i x hi hx
  have hyy := fun {i : Nat} (hi : i < n) => hc i y hi hy
  constructor
  · intro he
    have key : ∀ {i : Nat}, i < n → ClosedBy (ps ++ [(x, y)]) i x ∨ (rootU up i ≠ rootU up x ∧ rootU up i ≠ rootU up y) := fun {i} hi => by
      by_cases h1 : rootU up i = rootU up x
      · exact .inl (hmono ((hxx hi).1 h1))
      · by_cases h2 : rootU up i = rootU up y
        · exact .inl ((hmono ((hyy hi).1 h2)).trans hxy.symm)
        · exact .inr ⟨h1, h2⟩
    rcases key hi with ki | ki <;> rcases key hj' with kj | kj
    · exact ki.trans kj.symm
    · by_cases h1 : rootU up i = max (rootU up x) (rootU up y)
      · rw [if_pos h1, if_neg (by omega)] at he; omega
      · rw [if_neg h1, if_neg (by omega)] at he
        exact hmono ((hc i j hi hj').1 he)
    · by_cases h1 : rootU up j = max (rootU up x) (rootU up y)
      · rw [if_pos h1, if_neg (by omega)] at he; omega
      · rw [if_neg h1, if_neg (by omega)] at he
        exact hmono ((hc i j hi hj').1 he)
    · rw [if_neg (by omega), if_neg (by omega)] at he
      exact hmono ((hc i j hi hj').1 he)
  · intro hcl
    have := hcl (fun i j => (if rootU up i = max (rootU up x) (rootU up y) then min (rootU up x) (rootU up y) else rootU up i) = (if rootU up j = max (rootU up x) (rootU up y) then min (rootU up x) (rootU up y) else rootU up j) ∧ (i < n ↔ j < n) ∨ i = j)
      (fun _ => .inr rfl) (fun a b h => h.imp (fun h => ⟨h.1.symm, h.2.symm⟩) Eq.symm)
      (fun a b c h1 h2 => by
        rcases h1 with h1 | rfl
        · rcases h2 with h2 | rfl
          · exact .inl ⟨h1.1.trans h2.1, h1.2.trans h2.2⟩
          · exact .inl h1
        · exact h2)
      (fun p hp => by
        rcases List.mem_append.1 hp with h | h
        · have hp2 := hin p h
          have := (hc p.1 p.2 hp2.1 hp2.2).2 (ClosedBy.pair h)
          exact .inl ⟨by rw [this], by omega⟩
        · simp at h
          subst h
          refine .inl ⟨?_, by simp only; omega⟩
          simp only
          generalize rootU up x = a
          generalize rootU up y = b
          split <;> split <;> omega)
    rcases this with h | rfl
    · exact h.1
    · rfl
end Go.Proofs.Ytkmcplhgakpneaa
