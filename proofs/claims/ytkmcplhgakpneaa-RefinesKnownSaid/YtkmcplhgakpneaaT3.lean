/- The classes by rounds are those by words. -/
import Derived.Test.YtkmcplhgakpneaaT2
namespace Go.Proofs.Ytkmcplhgakpneaa
set_option linter.unusedVariables false
set_option linter.unusedSimpArgs false

theorem replicate_canon (n : Nat) : namedL (List.replicate n (0 : Int)) = List.replicate n 0 := by
  apply List.ext_getElem
  · simp [namedL]
  · intro i h1 h2
    have hn : i < n := by simpa using h2
    have := named_first (List.replicate n (0 : Int)) (i := i) (k := 0) (by simpa using hn) (Nat.zero_le _) (by simp) ((firstG_iff (by simp; omega)).2 (fun j hj => by omega))
    rw [this]
    simp [cntG]
theorem iterL_canon (m : Mach) : ∀ k, namedL (iterL m k) = iterL m k
  | 0 => replicate_canon _
  | k + 1 => namedL_idem _
theorem refCheck_iterL (m : Mach) (h : m.rows.length ≤ 256) (k : Nat) : refCheck (iterL m k) = 0 := by
  rw [← iterL_canon m k]
  exact refCheck_named _ (by rw [iterL_length]; exact h)

theorem keysL_get {m : Mach} {p : List Int} (hl : p.length = m.rows.length) {s : Nat} (hs : s < m.rows.length) : (keysL m p)[s]'(by rw [keysL_length hl]; omega) = keyL p (p[s]'(by omega)) m.rows[s] := by
  simp [keysL]
theorem refinedL_eq {m : Mach} {p : List Int} (hl : p.length = m.rows.length) {s t : Nat} (hs : s < m.rows.length) (ht : t < m.rows.length) :
    (refinedL m p)[s]'(by rw [refinedL_length m p hl]; omega) = (refinedL m p)[t]'(by rw [refinedL_length m p hl]; omega) ↔ keyL p (p[s]'(by omega)) m.rows[s] = keyL p (p[t]'(by omega)) m.rows[t] := by
  have hk := keysL_length hl
  have := namedL_eq (keysL m p) (s := s) (t := t) (by omega) (by omega)
  rw [keysL_get hl hs, keysL_get hl ht] at this
  exact this
theorem iterL_finer (m : Mach) (k : Nat) : FinerL (iterL m (k + 1)) (iterL m k) := by
  have hl := iterL_length m k
  have hl1 := iterL_length m (k + 1)
  refine ⟨by omega, fun s t hs ht hs' ht' h => ?_⟩
  have := (refinedL_eq hl (s := s) (t := t) (by omega) (by omega)).1 h
  simp only [keyL, List.cons.injEq] at this
  exact this.1
/-- The least number of rounds. -/
theorem rounds_end {m : Mach} (hV : Valid m) : ∃ M, M < m.rows.length ∧ (∀ k, k < M → iterL m k ≠ iterL m (k + 1)) ∧ iterL m M = iterL m (M + 1) :=
  chain_ends (iterL m) m.rows.length hV.size.1 (iterL_length m) (iterL_canon m) (iterL_finer m)

theorem flatSig_eq (p : List Int) : ∀ (es es' : List (Int × Int)), es.length = es'.length → (es.flatMap (sigC p) = es'.flatMap (sigC p) ↔ ∀ i (h : i < es.length) (h' : i < es'.length), sigC p es[i] = sigC p es'[i])
  | [], [], _ => by simp
  | e :: es, e' :: es', h => by
    have hl : es.length = es'.length := by simpa using h
    have ih := flatSig_eq p es es' hl
    simp only [List.flatMap_cons]
    have hlen : (sigC p e).length = (sigC p e').length := rfl
    rw [(show sigC p e ++ es.flatMap (sigC p) = sigC p e' ++ es'.flatMap (sigC p) ↔ sigC p e = sigC p e' ∧ es.flatMap (sigC p) = es'.flatMap (sigC p) from ⟨fun h => List.append_inj h hlen, fun h => by rw [h.1, h.2]⟩), ih]
    constructor
    · rintro ⟨h1, h2⟩ i hi hi'
      cases i with
      | zero => exact h1
      | succ i => exact h2 i (by simpa using hi) (by simpa using hi')
    · intro hh
      exact ⟨hh 0 (by simp) (by simp), fun i hi hi' => hh (i + 1) (by simpa using hi) (by simpa using hi')⟩
  | [], _ :: _, h => by simp at h
  | _ :: _, [], h => by simp at h

/-- The same responses to all words of k symbols. -/
def Wequiv (m : Mach) (k : Nat) (s t : Int) : Prop := ∀ w : List Int, w.length = k → (∀ i ∈ w, InOK m i) → runL m s w = runL m t w
theorem Wequiv.refl (m : Mach) (k : Nat) (s : Int) : Wequiv m k s s := fun _ _ _ => rfl
theorem Wequiv.symm {m : Mach} {k : Nat} {s t : Int} (h : Wequiv m k s t) : Wequiv m k t s := fun w h1 h2 => (h w h1 h2).symm
theorem Wequiv.succ {m : Mach} (hV : Valid m) {k : Nat} {s t : Int} : Wequiv m (k + 1) s t ↔ ∀ i, InOK m i → (nextE m s i).2 = (nextE m t i).2 ∧ Wequiv m k (nextE m s i).1 (nextE m t i).1 := by
  constructor
  · intro h i hi
    have h1 : ∀ w : List Int, w.length = k → (∀ j ∈ w, InOK m j) → (nextE m s i).2 = (nextE m t i).2 ∧ runL m (nextE m s i).1 w = runL m (nextE m t i).1 w := fun w hw hwi => by
      have := h (i :: w) (by simp [hw]) (fun j hj => by rcases List.mem_cons.1 hj with rfl | hj; exact hi; exact hwi j hj)
      simpa [runL] using this
    have h0 : InOK m 0 := ⟨Int.le_refl _, by have := hV.ins; omega⟩
    exact ⟨(h1 (List.replicate k 0) (by simp) (fun j hj => by rw [(List.mem_replicate.1 hj).2]; exact h0)).1, fun w hw hwi => (h1 w hw hwi).2⟩
  · intro h w hw hwi
    match w, hw, hwi with
    | i :: w, hw, hwi =>
      have hi := h i (hwi i List.mem_cons_self)
      simp only [runL, List.cons.injEq]
      exact ⟨hi.1, hi.2 w (by simpa using hw) (fun j hj => hwi j (List.mem_cons_of_mem _ hj))⟩
theorem Wequiv.less {m : Mach} (hV : Valid m) : ∀ {k : Nat} {s t : Int}, Wequiv m (k + 1) s t → Wequiv m k s t
  | 0, s, t, _ => fun w hw _ => by rw [List.eq_nil_of_length_eq_zero hw]; rfl
  | k + 1, s, t, h => (Wequiv.succ hV).2 fun i hi => ⟨((Wequiv.succ hV).1 h i hi).1, Wequiv.less hV ((Wequiv.succ hV).1 h i hi).2⟩

theorem next_row {m : Mach} (hV : Valid m) {s : Nat} (hs : s < m.rows.length) {i : Nat} (hi : i < m.rows[s].length) : nextE m (s : Int) (i : Int) = m.rows[s][i] := by
  unfold nextE
  rw [if_neg (by omega)]
  simp [List.getD, hs, hi]
theorem fit_cases {m : Mach} {e : Int × Int} (h : fitsB m e = true) : e = (-1, -1) ∨ (0 ≤ e.1 ∧ e.1 < m.rows.length ∧ 0 ≤ e.2) := by
  obtain ⟨x, y⟩ := e
  simp only [fitsB, Bool.or_eq_true, Bool.and_eq_true, beq_iff_eq, decide_eq_true_eq] at h
  rcases h with ⟨rfl, rfl⟩ | ⟨⟨⟨a, b⟩, c⟩, d⟩
  · exact .inl rfl
  · exact .inr ⟨by omega, b, by omega⟩

theorem key_iff {m : Mach} (hV : Valid m) {p : List Int} (hl : p.length = m.rows.length) {s t : Nat} (hs : s < m.rows.length) (ht : t < m.rows.length) :
    keyL p (p[s]'(by omega)) m.rows[s] = keyL p (p[t]'(by omega)) m.rows[t] ↔ p[s]'(by omega) = p[t]'(by omega) ∧ ∀ i (hi : i < m.rows[s].length) (hi' : i < m.rows[t].length), sigC p m.rows[s][i] = sigC p m.rows[t][i] := by
  have h1 := hV.len _ (List.getElem_mem hs)
  have h2 := hV.len _ (List.getElem_mem ht)
  have hle : m.rows[s].length = m.rows[t].length := by omega
  rw [← flatSig_eq p _ _ hle]
  simp only [keyL, sigL, List.cons.injEq, hle, List.append_cancel_right_eq]

/-- Two states are in one class by k rounds exactly if no word of k symbols tells them apart. -/
theorem iterL_words {m : Mach} (hV : Valid m) : ∀ (k : Nat) {s t : Nat} (hs : s < m.rows.length) (ht : t < m.rows.length), (iterL m k)[s]'(by rw [iterL_length]; exact hs) = (iterL m k)[t]'(by rw [iterL_length]; exact ht) ↔ Wequiv m k s t
  | 0, s, t, hs, ht => by
    constructor
    · intro _ w hw _
      rw [List.eq_nil_of_length_eq_zero hw]; rfl
    · intro _; simp [iterL]
  | k + 1, s, t, hs, ht => by
    have hl := iterL_length m k
    have h1 := hV.len _ (List.getElem_mem hs)
    have h2 := hV.len _ (List.getElem_mem ht)
    have ih := fun {a b : Nat} (ha : a < m.rows.length) (hb : b < m.rows.length) => iterL_words hV k ha hb
    have hgd : ∀ {a : Int}, 0 ≤ a → (ha : a.toNat < m.rows.length) → (iterL m k).getD a.toNat 0 = (iterL m k)[a.toNat]'(by omega) := fun {a} _ ha => getD_lt (by omega)
    refine (refinedL_eq hl hs ht).trans ((key_iff hV hl hs ht).trans ?_)
    constructor
    · rintro ⟨_, hsig⟩
      refine (Wequiv.succ hV).2 fun i hi => ?_
      obtain ⟨j, rfl⟩ := Int.eq_ofNat_of_zero_le hi.1
      have hj := hi.2
      have hj1 : j < m.rows[s].length := by omega
      have hj2 : j < m.rows[t].length := by omega
      have hc := hsig j hj1 hj2
      have f1 := fit_cases (hV.fit _ (List.getElem_mem hs) _ (List.getElem_mem hj1))
      have f2 := fit_cases (hV.fit _ (List.getElem_mem ht) _ (List.getElem_mem hj2))
      rw [next_row hV hs hj1, next_row hV ht hj2]
      generalize m.rows[s][j] = e at *
      generalize m.rows[t][j] = e' at *
      simp only [sigC, List.cons.injEq, and_true] at hc
      refine ⟨hc.1, ?_⟩
      rcases f1 with rfl | ⟨a1, a2, a3⟩
      · rcases f2 with rfl | ⟨b1, b2, b3⟩
        · exact Wequiv.refl _ _ _
        · have := hc.1; simp only at this; omega
      · rcases f2 with rfl | ⟨b1, b2, b3⟩
        · have := hc.1; simp only at this; omega
        · have hcc := hc.2
          rw [if_neg (by omega), if_neg (by omega), hgd a1 (by omega), hgd b1 (by omega)] at hcc
          have := (ih (a := e.1.toNat) (b := e'.1.toNat) (by omega) (by omega)).1 hcc
          rwa [Int.toNat_of_nonneg a1, Int.toNat_of_nonneg b1] at this
    · intro hw
      refine ⟨(ih hs ht).2 (Wequiv.less hV hw), fun i hi hi' => ?_⟩
      have hio : InOK m (i : Int) := ⟨by omega, by omega⟩
      have hn := (Wequiv.succ hV).1 hw i hio
      rw [next_row hV hs hi, next_row hV ht hi'] at hn
      have f1 := fit_cases (hV.fit _ (List.getElem_mem hs) _ (List.getElem_mem hi))
      have f2 := fit_cases (hV.fit _ (List.getElem_mem ht) _ (List.getElem_mem hi'))
      generalize m.rows[s][i] = e at *
      generalize m.rows[t][i] = e' at *
      simp only [sigC, List.cons.injEq, and_true]
      refine ⟨hn.1, ?_⟩
      rcases f1 with rfl | ⟨a1, a2, a3⟩
      · rcases f2 with rfl | ⟨b1, b2, b3⟩
        · rfl
        · have := hn.1; simp only at this; omega
      · rcases f2 with rfl | ⟨b1, b2, b3⟩
        · have := hn.1; simp only at this; omega
        · rw [if_neg (by omega), if_neg (by omega), hgd a1 (by omega), hgd b1 (by omega)]
          refine (ih (a := e.1.toNat) (b := e'.1.toNat) (by omega) (by omega)).2 ?_
          rw [Int.toNat_of_nonneg a1, Int.toNat_of_nonneg b1]
          exact hn.2
end Go.Proofs.Ytkmcplhgakpneaa
