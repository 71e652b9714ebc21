/- Words by their numbers. Plain lists. Classes that no symbol divides, numbered by their first members: the automaton of the classes is minimal. Plain lists. The automaton of pairs: numbered as it is reached; what it accepts; an operation of two sets gives the minimal automaton. Plain lists. law25.upto 24. Words of at most five symbols; what is included. Plain lists. -/
import Derived.Test.YthlnmcokgfpgmaaDoorZN
import Derived.Test.YthlnmcokgfpgmaaDoorZP
import Derived.Test.YthlnmcokgfpgmaaDoorZC
import Derived.Test.YthlnmcokgfpgmaaDoorZJ
import Derived.Test.YthlnmcokgfpgmaaDoorZD
namespace Go.Proofs.YthlnmcokgfpgmaaDoor
open Go.RowKit
set_option linter.unusedVariables false
set_option linter.unusedSimpArgs false

theorem scan_spec {d : Dfa} (hg : Good d) : ∀ (f n left : Nat), left < topN → n ≤ (scan d f n left).1 ∧ (scan d f n left).1 ≤ n + f ∧ left + shortC d n = shortC d (scan d f n left).1 + (scan d f n left).2 ∧ ((scan d f n left).1 < n + f → (scan d f n left).2 < cntW d (scan d f n left).1 0)
  | 0, n, left, _ => ⟨Nat.le_refl _, Nat.le_refl _, by show left + shortC d n = shortC d n + left; omega, fun h => by have : n < n + 0 := h; omega⟩
  | f + 1, n, left, hl => by
    have h0 : 0 < d.n := by have := hg.size; unfold Dfa.n; omega
    have ht := tl_sat hg n 0 h0
    unfold scan
    by_cases h : tlN d n 0 ≤ left
    · rw [if_pos h]
      have hc : tlN d n 0 = cntW d n 0 := by omega
      obtain ⟨h1, h2, h3, h4⟩ := scan_spec hg f (n + 1) (left - tlN d n 0) (by omega)
      rw [shortC_succ] at h3
      exact ⟨by omega, by omega, by omega, fun h => h4 (by omega)⟩
    · rw [if_neg h]
      exact ⟨Nat.le_refl _, by show n ≤ n + (f + 1); omega, by show left + shortC d n = shortC d n + left; omega, fun _ => by show left < cntW d n 0; omega⟩
def preC (d : Dfa) (j s y : Nat) : Nat := ((List.range y).map (fun z => cntW d j (d.to s z))).sum
theorem preC_succ (d : Dfa) (j s y : Nat) : preC d j s (y + 1) = preC d j s y + cntW d j (d.to s y) := by unfold preC; rw [List.range_succ]; simp
theorem pick_spec {d : Dfa} (hg : Good d) {j s : Nat} (hs : s < d.n) : ∀ (f x left : Nat), x + f ≤ d.k → left < topN →
    match pickX d j s f x left with
    | some (y, l) => x ≤ y ∧ y < x + f ∧ left + preC d j s x = preC d j s y + l ∧ l < cntW d j (d.to s y) ∧ l ≤ left
    | none => preC d j s (x + f) ≤ left + preC d j s x
  | 0, x, left, _, _ => by show preC d j s (x + 0) ≤ _; rw [Nat.add_zero]; omega
  | f + 1, x, left, hx, hl => by
    have ht := tl_sat hg j (d.to s x) (hg.to_lt hs (show x < d.k by omega))
    unfold pickX
    by_cases h : left < tlN d j (d.to s x)
    · rw [if_pos h]
      exact ⟨Nat.le_refl _, by omega, by omega, by omega, Nat.le_refl _⟩
    · rw [if_neg h]
      have hc : tlN d j (d.to s x) = cntW d j (d.to s x) := by omega
      have ih := pick_spec hg (j := j) hs f (x + 1) (left - tlN d j (d.to s x)) (by omega) (by omega)
      revert ih
      cases pickX d j s f (x + 1) (left - tlN d j (d.to s x)) with
      | none =>
        intro ih
        have ih : preC d j s (x + 1 + f) ≤ (left - tlN d j (d.to s x)) + preC d j s (x + 1) := ih
        rw [preC_succ] at ih
        show preC d j s (x + (f + 1)) ≤ _
        rw [show x + (f + 1) = x + 1 + f by omega]; omega
      | some p =>
        obtain ⟨y, l⟩ := p
        intro ih
        have ih : x + 1 ≤ y ∧ y < x + 1 + f ∧ (left - tlN d j (d.to s x)) + preC d j s (x + 1) = preC d j s y + l ∧ l < cntW d j (d.to s y) ∧ l ≤ left - tlN d j (d.to s x) := ih
        rw [preC_succ] at ih
        show x ≤ y ∧ y < x + (f + 1) ∧ left + preC d j s x = preC d j s y + l ∧ l < cntW d j (d.to s y) ∧ l ≤ left
        omega
theorem nthW_spec {d : Dfa} (hg : Good d) : ∀ (m s left : Nat), s < d.n → left < topN → left < cntW d m s → (nthW d m s left).length = m ∧ okW d.k (nthW d m s left) ∧ d.ac (d.run s (nthW d m s left)) = true ∧ lexC d s (nthW d m s left) = left
  | 0, s, left, hs, _, hc => by
    rw [cntW_zero] at hc
    cases ha : d.ac s with
    | false => rw [ha] at hc; simp at hc
    | true =>
      rw [ha] at hc
      have : left = 0 := by simp at hc; omega
      subst this
      exact ⟨rfl, (fun x hx => by cases hx), ha, lexC_nil d s⟩
  | m + 1, s, left, hs, hl, hc => by
    rw [cntW_succ] at hc
    have hc' : left < preC d m s d.k := hc
    have hp := pick_spec hg (j := m) hs d.k 0 left (by omega) hl
    unfold nthW
    revert hp
    cases pickX d m s d.k 0 left with
    | none =>
      intro hp
      have hp : preC d m s (0 + d.k) ≤ left + preC d m s 0 := hp
      rw [Nat.zero_add] at hp
      have : preC d m s 0 = 0 := rfl
      omega
    | some p =>
      obtain ⟨y, l⟩ := p
      intro hp
      have hp : 0 ≤ y ∧ y < 0 + d.k ∧ left + preC d m s 0 = preC d m s y + l ∧ l < cntW d m (d.to s y) ∧ l ≤ left := hp
      have hz : preC d m s 0 = 0 := rfl
      obtain ⟨h1, h2, h3, h4⟩ := nthW_spec hg m (d.to s y) l (hg.to_lt hs (by omega)) (by omega) hp.2.2.2.1
      show (y :: nthW d m (d.to s y) l).length = m + 1 ∧ _
      refine ⟨by rw [List.length_cons, h1], fun z hz' => ?_, h3, ?_⟩
      · rcases List.mem_cons.1 hz' with rfl | hz'
        · omega
        · exact h2 z hz'
      · show lexC d s (y :: nthW d m (d.to s y) l) = left
        rw [lexC_cons d s y _ (by omega), h4, h1]
        show preC d m s y + l = left
        omega
/-! ### The order of words -/
theorem befG_irrefl : ∀ u : List Int, befG u u = false
  | [] => rfl
  | x :: r => by unfold befG; rw [if_pos rfl]; exact befG_irrefl r
theorem befG_asymm : ∀ u v : List Int, befG u v = true → befG v u = false
  | x :: u, y :: v, h => by
    unfold befG at h ⊢
    by_cases he : x = y
    · rw [if_pos he] at h
      rw [if_pos he.symm]; exact befG_asymm u v h
    · rw [if_neg he] at h
      rw [if_neg (fun e => he e.symm)]
      simp at h ⊢; omega
  | [], v, h => by unfold befG at h; cases h
  | _ :: _, [], h => by unfold befG at h; cases h
theorem befL_irrefl (u : List Int) : befL u u = false := by unfold befL; rw [if_pos rfl]; exact befG_irrefl u
theorem befL_asymm {u v : List Int} (h : befL u v = true) : befL v u = false := by
  unfold befL at h ⊢
  by_cases he : u.length = v.length
  · rw [if_pos he] at h
    rw [if_pos he.symm]; exact befG_asymm u v h
  · rw [if_neg he] at h
    rw [if_neg (fun e => he e.symm)]
    simp at h ⊢; omega
theorem lev_mem {k : Nat} : ∀ {u : List Nat}, okW k u → u ∈ lev k u.length
  | [], _ => List.mem_singleton.2 rfl
  | x :: r, h => by
    rw [List.length_cons, lev_front]
    exact List.mem_flatMap.2 ⟨x, List.mem_range.2 (h x (by simp)), List.mem_map.2 ⟨r, lev_mem (fun y hy => h y (by simp [hy])), rfl⟩⟩
theorem lev_sorted (k : Nat) : ∀ j, (lev k j).Pairwise (fun u v => befG (wI u) (wI v) = true)
  | 0 => List.pairwise_singleton _ _
  | j + 1 => by
    rw [lev_front, List.pairwise_flatMap]
    refine ⟨fun x _ => ?_, ?_⟩
    · rw [List.pairwise_map]
      refine (lev_sorted k j).imp fun {u v} h => ?_
      show befG ((x : Int) :: wI u) ((x : Int) :: wI v) = true
      unfold befG; rw [if_pos rfl]; exact h
    · refine (List.pairwise_lt_range (n := k)).imp fun {x y} hxy u hu v hv => ?_
      obtain ⟨u', _, rfl⟩ := List.mem_map.1 hu
      obtain ⟨v', _, rfl⟩ := List.mem_map.1 hv
      show befG ((x : Int) :: wI u') ((y : Int) :: wI v') = true
      unfold befG
      rw [if_neg (by omega)]
      simp; omega
theorem words_sorted (d : Dfa) (n : Nat) : (wordsL d n).Pairwise (fun u v => befL (wI u) (wI v) = true) := by
  unfold wordsL
  rw [List.pairwise_flatMap]
  refine ⟨fun j _ => ?_, ?_⟩
  · refine List.Pairwise.imp_of_mem (R := fun u v => befG (wI u) (wI v) = true) (fun {u v} hu hv h => ?_) ((lev_sorted d.k j).filter _)
    have h1 := (lev_ok (List.mem_filter.1 hu).1).1
    have h2 := (lev_ok (List.mem_filter.1 hv).1).1
    rw [befL_len (by omega)]; exact h
  · refine (List.pairwise_lt_range (n := n + 1)).imp fun {i j} hij u hu v hv => ?_
    have h1 := (lev_ok (List.mem_filter.1 hu).1).1
    have h2 := (lev_ok (List.mem_filter.1 hv).1).1
    exact befL_short (by omega)
theorem sorted_at {ws : List (List Nat)} (h : ws.Pairwise (fun u v => befL (wI u) (wI v) = true)) {i : Nat} {u : List Nat} (hi : ws[i]? = some u) : befN ws u = i := by
  obtain ⟨hl, he⟩ := List.getElem?_eq_some_iff.1 hi
  have hs : ws = ws.take i ++ (u :: ws.drop (i + 1)) := by
    rw [← he, List.getElem_cons_drop, List.take_append_drop]
  rw [hs] at h
  obtain ⟨h1, h2, h3⟩ := List.pairwise_append.1 h
  obtain ⟨h4, h5⟩ := List.pairwise_cons.1 h2
  conv => lhs; rw [hs]
  rw [befN_append]
  have ha : befN (ws.take i) u = i := by
    unfold befN
    rw [List.countP_eq_length.2 (fun v hv => h3 v hv u (by simp)), List.length_take]; omega
  have hb : befN (u :: ws.drop (i + 1)) u = 0 := by
    unfold befN
    rw [List.countP_eq_zero]
    intro v hv
    rcases List.mem_cons.1 hv with rfl | hv
    · rw [befL_irrefl]; simp
    · rw [befL_asymm (h4 v hv)]; simp
  omega
theorem words_mem {d : Dfa} {n : Nat} {u : List Nat} : u ∈ wordsL d n ↔ u.length ≤ n ∧ okW d.k u ∧ accW d u = true := by
  unfold wordsL
  rw [List.mem_flatMap]
  constructor
  · rintro ⟨j, hj, hu⟩
    have hj := List.mem_range.1 hj
    obtain ⟨h1, h2⟩ := List.mem_filter.1 hu
    obtain ⟨h3, h4⟩ := lev_ok h1
    exact ⟨by omega, h4, h2⟩
  · rintro ⟨h1, h2, h3⟩
    exact ⟨u.length, List.mem_range.2 (by omega), List.mem_filter.2 ⟨lev_mem h2, h3⟩⟩
theorem words_count_all (d : Dfa) : ∀ n, (wordsL d n).length = shortC d (n + 1)
  | 0 => by
    unfold wordsL shortC cntW
    simp [List.countP_eq_length_filter, accW, Function.comp_def]
    rfl
  | n + 1 => by
    have h1 : wordsL d (n + 1) = wordsL d n ++ (lev d.k (n + 1)).filter (accW d) := by
      unfold wordsL
      rw [List.range_succ, List.flatMap_append]; simp
    rw [h1, List.length_append, words_count_all d n, shortC_succ d (n + 1)]
    unfold cntW
    rw [List.countP_eq_length_filter]; rfl
/-- The numbers of words are their places. -/
theorem nth_small {d : Dfa} (hg : Good d) {n k : Nat} (hk : k < (wordsL d n).length) (hk2 : k < topN) (hn : n ≤ 256) : (scan d 257 0 k).1 ≤ n ∧ (wordsL d n)[k]? = some (nthW d (scan d 257 0 k).1 0 (scan d 257 0 k).2) ∧ (nthW d (scan d 257 0 k).1 0 (scan d 257 0 k).2).length = (scan d 257 0 k).1 := by
  have h0 : 0 < d.n := by have := hg.size; unfold Dfa.n; omega
  obtain ⟨_, h2, h3, h4⟩ := scan_spec hg 257 0 k hk2
  generalize (scan d 257 0 k).1 = m at *
  generalize (scan d 257 0 k).2 = l at *
  have hz : shortC d 0 = 0 := rfl
  rw [words_count_all] at hk
  have hm : m ≤ n := by
    rcases Nat.lt_or_ge n m with h | h
    · have := shortC_mono d (show n + 1 ≤ m by omega); omega
    · exact h
  obtain ⟨h5, h6, h7, h8⟩ := nthW_spec hg m 0 l h0 (by omega) (h4 (by omega))
  generalize nthW d m 0 l = u at *
  have hu : u ∈ wordsL d n := words_mem.2 ⟨by omega, h6, h7⟩
  obtain ⟨i, hi⟩ := List.getElem?_of_mem hu
  have h9 := sorted_at (words_sorted d n) hi
  have h10 := bef_more d u (n - u.length)
  rw [show u.length + (n - u.length) = n by omega, h9, h8, h5] at h10
  have : i = k := by omega
  subst this
  exact ⟨hm, hi, h5⟩
theorem rank_at {d : Dfa} (hg : Good d) {n k : Nat} (hn : n ≤ 256) {u : List Nat} (hu : (wordsL d n)[k]? = some u) (hk : k < 4611686018427387904) : rankR d (wI u) = ((k : Int), 0) := by
  obtain ⟨h1, h2, h3⟩ := words_mem.1 (List.mem_of_getElem? hu)
  have h9 := sorted_at (words_sorted d n) hu
  have h10 := bef_more d u (n - u.length)
  rw [show u.length + (n - u.length) = n by omega, h9] at h10
  have := rank_sum hg h2 (by omega) (by omega)
  rw [← h10] at this
  exact this
/-- The word of a number that is great. -/
theorem nth_great {d : Dfa} (hg : Good d) {n k : Nat} (hk : (wordsL d n).length ≤ k) (hk2 : k < 4611686018427387904) (hm : (scan d 257 0 k).1 ≠ 257) :
    ∃ u, u = nthW d (scan d 257 0 k).1 0 (scan d 257 0 k).2 ∧ u.length = (scan d 257 0 k).1 ∧ u.length ≤ 256 ∧ n < u.length ∧ okW d.k u ∧ accW d u = true ∧ rankR d (wI u) = ((k : Int), 0) := by
  have h0 : 0 < d.n := by have := hg.size; unfold Dfa.n; omega
  obtain ⟨_, h2, h3, h4⟩ := scan_spec hg 257 0 k (by unfold topN; omega)
  generalize (scan d 257 0 k).1 = m at *
  generalize (scan d 257 0 k).2 = l at *
  have hz : shortC d 0 = 0 := rfl
  have hc := h4 (by omega)
  obtain ⟨h5, h6, h7, h8⟩ := nthW_spec hg m 0 l h0 (by unfold topN; omega) hc
  rw [words_count_all] at hk
  have hmn : n < m := by
    rcases Nat.lt_or_ge n m with h | h
    · exact h
    · have := shortC_mono d (show m + 1 ≤ n + 1 by omega)
      rw [shortC_succ] at this
      omega
  refine ⟨_, rfl, h5, by omega, by omega, h6, h7, ?_⟩
  have := rank_sum hg h6 (by omega) (by rw [h5, h8]; omega)
  rw [this, h5, h8]
  congr 2
  omega
/-- There are no more words. -/
theorem nth_gone {d : Dfa} (hg : Good d) {k : Nat} (hk2 : k < 4611686018427387904) (hm : (scan d 257 0 k).1 = 257) : shortC d 257 ≤ k := by
  obtain ⟨_, h2, h3, h4⟩ := scan_spec hg 257 0 k (by unfold topN; omega)
  rw [hm] at h3
  have hz : shortC d 0 = 0 := rfl
  omega
theorem count_exact {d : Dfa} (hg : Good d) {n : Nat} (hn : n ≤ 256) (hc : cntW d n 0 ≤ 4611686018427387904) : countR d n = ((cntW d n 0 : Int), 0) := by
  have h0 : 0 < d.n := by have := hg.size; unfold Dfa.n; omega
  have h1 := tl_sat hg n 0 h0
  unfold countR
  rw [if_neg (fun h => h ((good_iff d).2 hg)), if_neg (by omega), if_neg (by omega), Int.toNat_natCast, h1, if_neg (by omega)]
  congr 2
  unfold topN; omega
/-- Words that are longer and longer. -/
theorem pump {d : Dfa} (hg : Good d) (h : ¬ FinD d) : ∀ m, ∃ w, okW d.k w ∧ d.ac (d.run 0 w) = true ∧ d.n ≤ w.length ∧ m ≤ w.length := by
  have h0 : 0 < d.n := by have := hg.size; unfold Dfa.n; omega
  intro m
  induction m with
  | zero =>
    rcases Classical.em (∃ w, okW d.k w ∧ d.ac (d.run 0 w) = true ∧ d.n ≤ w.length) with ⟨w, h1, h2, h3⟩ | hn
    · exact ⟨w, h1, h2, h3, by omega⟩
    · refine absurd (fun w hw ha => ?_) h
      rcases Nat.lt_or_ge w.length d.n with h1 | h1
      · exact h1
      · exact absurd ⟨w, hw, ha, h1⟩ hn
  | succ m ih =>
    obtain ⟨w, hw, ha, hl, hm⟩ := ih
    obtain ⟨i, j, hij, hj, he⟩ := pigeon (n := d.n) (fun i => d.run 0 (w.take i)) (fun i _ => run_lt hg _ 0 h0 (okW_take hw i))
    have he' : d.run 0 (w.take i) = d.run 0 (w.take j) := he
    refine ⟨w.take j ++ w.drop i, okW_append (okW_take hw j) (okW_drop hw i), ?_, ?_, ?_⟩
    · rw [run_append, ← he', ← run_append, List.take_append_drop]; exact ha
    · rw [List.length_append, List.length_take, List.length_drop]; omega
    · rw [List.length_append, List.length_take, List.length_drop]; omega
theorem fin_short {d : Dfa} (hg : Good d) {m : Nat} (h : ∀ w, okW d.k w → d.ac (d.run 0 w) = true → w.length ≤ m) : FinD d := by
  rcases Classical.em (FinD d) with h1 | h1
  · exact h1
  · obtain ⟨w, h2, h3, _, h4⟩ := pump hg h1 (m + 1)
    have := h w h2 h3
    omega
theorem cnt_none {d : Dfa} {m : Nat} (h : ∀ w, okW d.k w → d.ac (d.run 0 w) = true → w.length ≤ m) {j : Nat} (hj : m < j) : cntW d j 0 = 0 := by
  unfold cntW
  rw [List.countP_eq_zero]
  intro u hu hc
  obtain ⟨h1, h2⟩ := lev_ok hu
  have := h u h2 (by simpa using hc)
  omega
/-- No longer words: the numbers end. -/
theorem scan_short {d : Dfa} (hg : Good d) {m k : Nat} (h : ∀ w, okW d.k w → d.ac (d.run 0 w) = true → w.length ≤ m) (hk : (wordsL d m).length ≤ k) (hk2 : k < 4611686018427387904) : (scan d 257 0 k).1 = 257 := by
  rcases Decidable.em ((scan d 257 0 k).1 = 257) with h1 | h1
  · exact h1
  · obtain ⟨u, _, _, _, h5, h6, h7, _⟩ := nth_great hg hk hk2 h1
    have := h u h6 h7
    omega
end Go.Proofs.YthlnmcokgfpgmaaDoor

namespace Go.Proofs.YthlnmcokgfpgmaaDoor
open Go.RowKit
set_option linter.unusedVariables false
set_option linter.unusedSimpArgs false

/-- An automaton (of any size) whose states are numbered in the order in which they are reached. -/
structure BfsD (d : Dfa) : Prop where
  sy : 1 ≤ d.sy ∧ d.sy ≤ 16
  pos : 0 < d.n
  lt : ∀ s x, s < d.n → x < d.k → d.to s x < d.n
  ord : ∀ t, 0 < t → t < d.n → ∃ s x, s < t ∧ x < d.k ∧ d.to s x = t ∧ ∀ s' x', x' < d.k → (s' < s ∨ s' = s ∧ x' < x) → d.to s' x' < t
theorem BfsD.run_lt {d : Dfa} (h : BfsD d) : ∀ (w : List Nat) (s : Nat), s < d.n → okW d.k w → d.run s w < d.n
  | [], s, hs, _ => hs
  | x :: w, s, hs, hw => h.run_lt w _ (h.lt s x hs (hw x (by simp))) (fun y hy => hw y (by simp [hy]))
structure ClsD (d : Dfa) (cl : Nat → Nat) (many : Nat) : Prop where
  lt : ∀ i, i < d.n → cl i < many
  num : ∀ i, i < d.n → ∀ c, c < cl i → ∃ j, j < i ∧ cl j = c
  all : ∀ c, c < many → ∃ i, i < d.n ∧ cl i = c
  acc : ∀ i j, i < d.n → j < d.n → cl i = cl j → d.ac i = d.ac j
  step : ∀ i j, i < d.n → j < d.n → cl i = cl j → ∀ x, x < d.k → cl (d.to i x) = cl (d.to j x)
  like : ∀ i j, i < d.n → j < d.n → Like d i d j → cl i = cl j
theorem quo_canon {d : Dfa} (hb : BfsD d) {cl : Nat → Nat} {many : Nat} (hc : ClsD d cl many) (hm : many ≤ 256) {q : Dfa} (hsy : q.sy = d.sy) (hr : q.rows.length = many) (ha : q.acc.length = many)
    (hq : ∀ c, c < many → ∃ i, i < d.n ∧ cl i = c ∧ (∀ j, j < i → cl j ≠ c) ∧ q.rows[c]? = some ((List.range d.k).map (fun x => (cl (d.to i x) : Int))) ∧ q.acc[c]? = some (d.ac i)) : Canon q ∧ Like q 0 d 0 := by
  have hk : q.k = d.k := by unfold Dfa.k; rw [hsy]
  have hkk : (d.k : Int) = d.sy := by have := hb.sy; unfold Dfa.k; omega
  have hn : q.n = many := hr
  have hto : ∀ i x, i < d.n → x < d.k → q.to (cl i) x = cl (d.to i x) := fun i x hi hx => by
    obtain ⟨i0, h0, h1, _, h2, _⟩ := hq (cl i) (hc.lt i hi)
    unfold Dfa.to
    rw [List.getD_eq_getElem?_getD (l := q.rows), h2, Option.getD_some, List.getD_eq_getElem?_getD, List.getElem?_map, List.getElem?_range hx]
    simp only [Option.map_some, Option.getD_some, Int.toNat_natCast]
    exact hc.step i0 i h0 hi h1 x hx
  have hac : ∀ i, i < d.n → q.ac (cl i) = d.ac i := fun i hi => by
    obtain ⟨i0, h0, h1, _, _, h3⟩ := hq (cl i) (hc.lt i hi)
    have h4 : q.ac (cl i) = d.ac i0 := by
      unfold Dfa.ac
      rw [List.getD_eq_getElem?_getD, h3]; rfl
    rw [h4]
    exact hc.acc i0 i h0 hi h1
  have hrun : ∀ (w : List Nat) (i : Nat), i < d.n → okW d.k w → q.run (cl i) w = cl (d.run i w) := fun w => by
    induction w with
    | nil => intro i _ _; rfl
    | cons x w ih =>
      intro i hi hw
      have hx := hw x (by simp)
      show q.run (q.to (cl i) x) w = cl (d.run (d.to i x) w)
      rw [hto i x hi hx]
      exact ih _ (hb.lt i x hi hx) (fun y hy => hw y (by simp [hy]))
  have hlk : ∀ i, i < d.n → Like q (cl i) d i := fun i hi w hw => by
    have hw' : okW d.k w := hk ▸ hw
    rw [hrun w i hi hw', hac _ (hb.run_lt w i hi hw')]
  have h00 : cl 0 = 0 := by
    rcases Nat.eq_zero_or_pos (cl 0) with h | h
    · exact h
    · obtain ⟨j, hj, _⟩ := hc.num 0 hb.pos 0 h; omega
  have hmp : 0 < many := by have := hc.lt 0 hb.pos; omega
  refine ⟨⟨⟨by rw [hsy]; exact hb.sy, by rw [hr]; omega, by rw [ha, hr], fun r hr' => ?_, fun r hr' x hx => ?_⟩, fun s t hs ht hl => ?_, fun t h0 ht => ?_⟩, by have := hlk 0 hb.pos; rwa [h00] at this⟩
  · obtain ⟨c, hcl, he⟩ := List.mem_iff_getElem.1 hr'
    obtain ⟨i, hi, _, _, h2, _⟩ := hq c (by omega)
    rw [List.getElem?_eq_getElem hcl] at h2
    rw [← he, Option.some.inj h2, List.length_map, List.length_range, hkk, hsy]
  · obtain ⟨c, hcl, he⟩ := List.mem_iff_getElem.1 hr'
    obtain ⟨i, hi, _, _, h2, _⟩ := hq c (by omega)
    rw [List.getElem?_eq_getElem hcl] at h2
    rw [← he, Option.some.inj h2] at hx
    obtain ⟨y, hy, rfl⟩ := List.mem_map.1 hx
    have := hc.lt _ (hb.lt i y hi (List.mem_range.1 hy))
    rw [hr]; omega
  · obtain ⟨i, hi, rfl⟩ := hc.all s (by omega)
    obtain ⟨j, hj, rfl⟩ := hc.all t (by omega)
    exact hc.like i j hi hj (((hlk i hi).symm hk).trans hk.symm (hl.trans rfl (hlk j hj)))
  · have ht' : t < many := by omega
    obtain ⟨j, hj, hjt, hfirst, _⟩ := hq t ht'
    have hj0 : 0 < j := by
      rcases Nat.eq_zero_or_pos j with h | h
      · subst h; omega
      · exact h
    have hless : ∀ j2, j2 < j → cl j2 < t := fun j2 h2 => by
      rcases Nat.lt_trichotomy (cl j2) t with h | h | h
      · exact h
      · exact absurd h (hfirst j2 h2)
      · obtain ⟨j3, h3, h4⟩ := hc.num j2 (by omega) t h
        exact absurd h4 (hfirst j3 (by omega))
    obtain ⟨i, x, hij, hx, hto', hbef⟩ := hb.ord j hj0 hj
    refine ⟨cl i, x, hless i hij, by omega, by rw [hto i x (by omega) hx, hto', hjt], fun s' x' hx' hb' => ?_⟩
    have hx'' : x' < d.k := by omega
    have hfs : ∃ i', i' < d.n ∧ cl i' = s' ∧ (i' < i ∨ i' = i ∧ x' < x) := by
      rcases hb' with h | ⟨h, h'⟩
      · obtain ⟨i', h1, h2⟩ := hc.num i (by omega) s' h
        exact ⟨i', by omega, h2, .inl h1⟩
      · exact ⟨i, by omega, h.symm, .inr ⟨rfl, h'⟩⟩
    obtain ⟨i', hi', rfl, hb2⟩ := hfs
    rw [hto i' x' hi' hx'']
    exact hless _ (hbef i' x' hx'' hb2)

/-! ### Numbers of names -/
section
variable {κ : Type} [BEq κ] [LawfulBEq κ]
theorem idxN_inj {l : List κ} {k k' : κ} (h : k ∈ l) (h' : k' ∈ l) (e : idxN l k = idxN l k') : k = k' := by
  have h1 := idxN_mem h
  have h2 := idxN_mem h'
  rw [e] at h1
  exact Option.some.inj (h1.symm.trans h2)
theorem names_first {ks : List κ} {i : Nat} {k : κ} (hi : ks[i]? = some k) {c : Nat} (hc : c < idxN (namesOf ks) k) : ∃ j k', j < i ∧ ks[j]? = some k' ∧ idxN (namesOf ks) k' = c := by
  have hp := namesOf_prefix ks (i + 1)
  have hil := (List.getElem?_eq_some_iff.1 hi).1
  have hk : k ∈ namesOf (ks.take (i + 1)) := mem_namesOf.2 (List.mem_of_getElem? (i := i) (by rw [List.getElem?_take_of_lt (by omega)]; exact hi))
  have hnd := namesOf_nodup ks
  have he := idxN_prefix hnd hp hk
  have hlt := idxN_lt hk
  have hcl : c < (namesOf (ks.take (i + 1))).length := by omega
  have hm : (namesOf (ks.take (i + 1)))[c] ∈ ks.take (i + 1) := mem_namesOf.1 (List.getElem_mem hcl)
  obtain ⟨j, hj⟩ := List.getElem?_of_mem hm
  have hjl := (List.getElem?_eq_some_iff.1 hj).1
  rw [List.length_take] at hjl
  have hjl2 : j < i + 1 := by omega
  rw [List.getElem?_take_of_lt hjl2] at hj
  have hcc : idxN (namesOf ks) (namesOf (ks.take (i + 1)))[c] = c := idxN_get hnd (prefix_get? hp (List.getElem?_eq_getElem hcl))
  refine ⟨j, _, ?_, hj, hcc⟩
  rcases Nat.lt_or_ge j i with h | h
  · exact h
  · have : j = i := by omega
    subst this
    rw [hi] at hj
    cases hj
    omega
end
theorem nodup_of_full {l m : List Int} (h1 : l.Nodup) (h2 : ∀ x ∈ l, x ∈ m) (h3 : m.length ≤ l.length) : m.Nodup := by
  rw [List.Nodup, List.pairwise_iff_getElem]
  intro i j hi hj hij he
  have h4 := List.Nodup.length_le_of_subset h1 (l₂ := m.eraseIdx j) (fun x hx => by
    obtain ⟨p, hp⟩ := List.getElem?_of_mem (h2 x hx)
    rw [List.mem_eraseIdx_iff_getElem?]
    by_cases hpj : p = j
    · subst hpj
      refine ⟨i, by omega, ?_⟩
      rw [List.getElem?_eq_getElem hj] at hp
      rw [List.getElem?_eq_getElem hi, he]; exact hp
    · exact ⟨p, hpj, hp⟩)
  rw [List.length_eraseIdx_of_lt hj] at h4
  omega

/-! ### The rounds that refine -/
def clN (cl : List Int) (i : Nat) : Nat := (cl.getD i 0).toNat
structure Stage (d : Dfa) (cl : List Int) (many : Nat) : Prop where
  len : cl.length = d.n
  val : ∀ c ∈ cl, 0 ≤ c
  like : ∀ i j, i < d.n → j < d.n → Like d i d j → cl.getD i 0 = cl.getD j 0
  acc : ∀ i j, i < d.n → j < d.n → cl.getD i 0 = cl.getD j 0 → d.ac i = d.ac j
  all : ∀ v, v < many → ∃ i, i < d.n ∧ cl[i]? = some (v : Int)
structure RowsD (d : Dfa) : Prop where
  bfs : BfsD d
  len : ∀ r ∈ d.rows, r.length = d.k
  pos : ∀ r ∈ d.rows, ∀ x ∈ r, 0 ≤ x
theorem key_eq {d : Dfa} (h : RowsD d) (cl : List Int) {i j : Nat} (hi : i < d.rows.length) (hj : j < d.rows.length) : keyR cl d.rows[i] i = keyR cl d.rows[j] j ↔ cl.getD i 0 = cl.getD j 0 ∧ ∀ x, x < d.k → cl.getD (d.to i x) 0 = cl.getD (d.to j x) 0 := by
  have hl1 := h.len _ (List.getElem_mem hi)
  have hl2 := h.len _ (List.getElem_mem hj)
  have hat : ∀ (s : Nat) (hs : s < d.rows.length) (x : Nat) (hx : x < d.rows[s].length), d.rows[s][x].toNat = d.to s x := fun s hs x hx => by
    unfold Dfa.to
    rw [List.getD_eq_getElem?_getD, List.getD_eq_getElem?_getD, List.getElem?_eq_getElem hs, Option.getD_some, List.getElem?_eq_getElem hx, Option.getD_some]
  unfold keyR keyX
  rw [hl1, hl2, List.take_of_length_le (by omega), List.take_of_length_le (by omega)]
  rw [List.append_left_inj, List.cons.injEq]
  refine and_congr Iff.rfl ⟨fun e x hx => ?_, fun e => List.ext_getElem (by simp [hl1, hl2]) fun x h1 h2 => ?_⟩
  · have := congrArg (fun l => l[x]?) e
    simp only [List.getElem?_map] at this
    rw [List.getElem?_eq_getElem (show x < d.rows[i].length by omega), List.getElem?_eq_getElem (show x < d.rows[j].length by omega)] at this
    simp only [Option.map_some, Option.some.injEq] at this
    rw [hat i hi, hat j hj] at this
    exact this
  · rw [List.getElem_map, List.getElem_map, hat i hi, hat j hj]
    exact e x (by simp at h1; omega)
theorem nextR_at {d : Dfa} (cl : List Int) {i : Nat} (hi : i < d.rows.length) : (nextR d.rows cl)[i]? = some ((idxN (namesR d.rows cl) (keyR cl d.rows[i] i) : Nat) : Int) := by
  unfold nextR
  rw [List.getElem?_map, keysR_get hi]; rfl
theorem nextR_getD {d : Dfa} (cl : List Int) {i : Nat} (hi : i < d.rows.length) : (nextR d.rows cl).getD i 0 = ((idxN (namesR d.rows cl) (keyR cl d.rows[i] i) : Nat) : Int) := by
  rw [List.getD_eq_getElem?_getD, nextR_at cl hi]; rfl
theorem key_mem {d : Dfa} (cl : List Int) {i : Nat} (hi : i < d.rows.length) : keyR cl d.rows[i] i ∈ namesR d.rows cl := mem_namesOf.2 (List.mem_of_getElem? (keysR_get hi))
theorem next_eq {d : Dfa} (h : RowsD d) (cl : List Int) {i j : Nat} (hi : i < d.rows.length) (hj : j < d.rows.length) : (nextR d.rows cl).getD i 0 = (nextR d.rows cl).getD j 0 ↔ cl.getD i 0 = cl.getD j 0 ∧ ∀ x, x < d.k → cl.getD (d.to i x) 0 = cl.getD (d.to j x) 0 := by
  rw [← key_eq h cl hi hj, nextR_getD cl hi, nextR_getD cl hj]
  refine ⟨fun e => idxN_inj (key_mem cl hi) (key_mem cl hj) (by omega), fun e => by rw [e]⟩
theorem Stage.next {d : Dfa} {cl : List Int} {many : Nat} (h : RowsD d) (hs : Stage d cl many) (hn : d.n ≤ 100000) : Stage d (nextR d.rows cl) (namesR d.rows cl).length := by
  refine ⟨nextR_len _ _, fun c hc => ?_, fun i j hi hj hl => ?_, fun i j hi hj e => hs.acc i j hi hj ((next_eq h cl hi hj).1 e).1, (nextR_ok hn).all⟩
  · unfold nextR at hc
    obtain ⟨k, _, rfl⟩ := List.mem_map.1 hc
    omega
  · exact (next_eq h cl hi hj).2 ⟨hs.like i j hi hj hl, fun x hx => hs.like _ _ (h.bfs.lt i x hi hx) (h.bfs.lt j x hj hx) (hl.step hx)⟩
/-- A round that divides no class: the same classes. -/
theorem Stage.stop {d : Dfa} {cl : List Int} {many : Nat} (h : RowsD d) (hs : Stage d cl many) (hn : d.n ≤ 100000) (he : (namesR d.rows cl).length = many) : ClsD d (clN (nextR d.rows cl)) many := by
  have hheads : ((namesR d.rows cl).map (fun k => k.headD 0)).Nodup := by
    refine nodup_of_full (l := (List.range many).map (fun v : Nat => (v : Int))) (List.Pairwise.map _ (fun a b (h : a ≠ b) e => h (by omega)) List.nodup_range) (fun z hz => ?_) (by simp [he])
    obtain ⟨v, hv, rfl⟩ := List.mem_map.1 hz
    obtain ⟨i, hi, hc⟩ := hs.all v (List.mem_range.1 hv)
    refine List.mem_map.2 ⟨_, key_mem cl hi, ?_⟩
    unfold keyR keyX
    simp [List.getD, hc]
  have hsame : ∀ i j, i < d.n → j < d.n → cl.getD i 0 = cl.getD j 0 → keyR cl (d.rows.getD i []) i = keyR cl (d.rows.getD j []) j := fun i j hi hj e => by
    have hi' : i < d.rows.length := hi
    have hj' : j < d.rows.length := hj
    rw [List.getD_eq_getElem?_getD, List.getD_eq_getElem?_getD, List.getElem?_eq_getElem hi', List.getElem?_eq_getElem hj', Option.getD_some, Option.getD_some]
    obtain ⟨p, hp⟩ := List.getElem?_of_mem (key_mem cl hi')
    obtain ⟨q, hq⟩ := List.getElem?_of_mem (key_mem cl hj')
    have hpl := (List.getElem?_eq_some_iff.1 hp).1
    have hql := (List.getElem?_eq_some_iff.1 hq).1
    have h1 : ∀ (s : Nat) (hs : s < d.rows.length), (keyR cl d.rows[s] s).headD 0 = cl.getD s 0 := fun s hs => by unfold keyR keyX; simp
    have hpq : p = q := by
      have hpw := List.pairwise_iff_getElem.1 hheads
      rcases Nat.lt_trichotomy p q with hl | hl | hl
      · have := hpw p q (by simpa using hpl) (by simpa using hql) hl
        simp only [List.getElem_map] at this
        rw [(List.getElem?_eq_some_iff.1 hp).2, (List.getElem?_eq_some_iff.1 hq).2, h1 i hi', h1 j hj'] at this
        exact absurd e this
      · exact hl
      · have := hpw q p (by simpa using hql) (by simpa using hpl) hl
        simp only [List.getElem_map] at this
        rw [(List.getElem?_eq_some_iff.1 hp).2, (List.getElem?_eq_some_iff.1 hq).2, h1 i hi', h1 j hj'] at this
        exact absurd e.symm this
    rw [hpq, hq] at hp
    exact (Option.some.inj hp).symm
  have hback : ∀ i j, i < d.n → j < d.n → cl.getD i 0 = cl.getD j 0 → (nextR d.rows cl).getD i 0 = (nextR d.rows cl).getD j 0 := fun i j hi hj e => by
    have hi' : i < d.rows.length := hi
    have hj' : j < d.rows.length := hj
    have h2 := hsame i j hi hj e
    rw [List.getD_eq_getElem?_getD, List.getD_eq_getElem?_getD, List.getElem?_eq_getElem hi', List.getElem?_eq_getElem hj', Option.getD_some, Option.getD_some] at h2
    rw [nextR_getD cl hi', nextR_getD cl hj', h2]
  have hN := Stage.next h hs hn
  have hv : ∀ i, i < d.n → 0 ≤ (nextR d.rows cl).getD i 0 := fun i hi => by rw [nextR_getD cl hi]; omega
  have hcl : ∀ i j, i < d.n → j < d.n → (clN (nextR d.rows cl) i = clN (nextR d.rows cl) j ↔ (nextR d.rows cl).getD i 0 = (nextR d.rows cl).getD j 0) := fun i j hi hj => by
    have h1 := hv i hi; have h2 := hv j hj; unfold clN; omega
  have hidx : ∀ i (hi : i < d.rows.length), clN (nextR d.rows cl) i = idxN (namesR d.rows cl) (keyR cl d.rows[i] i) := fun i hi => by
    unfold clN; rw [nextR_getD cl hi, Int.toNat_natCast]
  refine ⟨fun i hi => ?_, fun i hi c hc => ?_, fun c hc => ?_, fun i j hi hj e => hN.acc i j hi hj ((hcl i j hi hj).1 e), fun i j hi hj e x hx => ?_, fun i j hi hj hl => (hcl i j hi hj).2 (hN.like i j hi hj hl)⟩
  · rw [hidx i hi, ← he]
    exact idxN_lt (key_mem cl hi)
  · rw [hidx i hi] at hc
    obtain ⟨j, k', hj, hk', hcj⟩ := names_first (keysR_get (cl := cl) hi) hc
    have hjl : j < d.rows.length := Nat.lt_trans hj hi
    rw [keysR_get hjl] at hk'
    cases hk'
    exact ⟨j, hj, by rw [hidx j hjl]; exact hcj⟩
  · rw [← he] at hc
    obtain ⟨i, hi, hcc⟩ := hN.all c hc
    exact ⟨i, hi, by unfold clN; rw [List.getD_eq_getElem?_getD, hcc]; simp⟩
  · have h1 := ((next_eq h cl hi hj).1 ((hcl i j hi hj).1 e)).2 x hx
    have h2 := h.bfs.lt i x hi hx
    have h3 := h.bfs.lt j x hj hx
    exact (hcl _ _ h2 h3).2 (hback _ _ h2 h3 h1)
theorem refR_cls {d : Dfa} (h : RowsD d) (hn : d.n ≤ 100000) {cl : List Int} {many : Nat} {r : List Int × Nat} (hr : RefR d.rows cl many r) : Stage d cl many → ClsD d (clN r.1) r.2 := by
  induction hr with
  | stop h1 => exact fun hs => hs.stop h hn h1
  | step h1 _ ih => exact fun hs => ih (hs.next h hn)
theorem stage_start {d : Dfa} {cl : List Int} (hl : cl.length = d.n) (hc : ∀ i, i < d.n → cl.getD i 0 = if d.ac i then 1 else 0) : Stage d cl 0 := by
  refine ⟨hl, fun c hc' => ?_, fun i j hi hj hk => ?_, fun i j hi hj e => ?_, fun v hv => by omega⟩
  · obtain ⟨i, hi⟩ := List.getElem?_of_mem hc'
    have hil := (List.getElem?_eq_some_iff.1 hi).1
    have := hc i (by omega)
    rw [List.getD_eq_getElem?_getD, hi, Option.getD_some] at this
    rw [this]; split <;> omega
  · have := hk [] (fun _ h => by cases h)
    have h2 : d.ac i = d.ac j := this
    rw [hc i hi, hc j hj, h2]
  · rw [hc i hi, hc j hj] at e
    cases h1 : d.ac i <;> cases h2 : d.ac j <;> simp [h1, h2] at e ⊢
end Go.Proofs.YthlnmcokgfpgmaaDoor

namespace Go.Proofs.YthlnmcokgfpgmaaDoor
open Go.RowKit
set_option linter.unusedVariables false
set_option linter.unusedSimpArgs false

def Bef (s' x' s x : Nat) : Prop := s' < s ∨ s' = s ∧ x' < x
structure BfP (a b : Dfa) (l : List Rch) (i x : Nat) : Prop where
  done : ∀ (s' x' : Nat) (r' : Rch), x' < a.k → Bef s' x' i x → l[s']? = some r' → inP l (stepP a b r' x') = true
  disc : ∀ (j : Nat) (r : Rch), l[j]? = some r → 0 < j → ∃ (i' x' : Nat) (r' : Rch), i' < j ∧ x' < a.k ∧ l[i']? = some r' ∧ stepP a b r' x' = r.key ∧
    ∀ (s' y : Nat) (r2 : Rch), y < a.k → Bef s' y i' x' → l[s']? = some r2 → ∃ (m : Nat) (z : Rch), m < j ∧ l[m]? = some z ∧ z.key = stepP a b r2 y
theorem bfP_start (a b : Dfa) : BfP a b [r0] 0 0 :=
  ⟨fun s' x' r' _ h => by unfold Bef at h; omega, fun j r hj h0 => by have := (List.getElem?_eq_some_iff.1 hj).1; simp at this; omega⟩
theorem inP_get {l : List Rch} {t : Nat × Nat} (h : inP l t = true) : ∃ (m : Nat) (z : Rch), m < l.length ∧ l[m]? = some z ∧ z.key = t := by
  obtain ⟨z, hz, he⟩ := List.mem_map.1 (inP_iff.1 h)
  obtain ⟨m, hm⟩ := List.getElem?_of_mem hz
  exact ⟨m, z, (List.getElem?_eq_some_iff.1 hm).1, hm, he⟩
theorem BfP.add {a b : Dfa} {l : List Rch} {i x : Nat} (h : BfP a b l i x) (hi : i < l.length) (hx : x < a.k) : BfP a b (addP a b l i x) i (x + 1) := by
  have hgi : l[i]? = some l[i] := List.getElem?_eq_getElem hi
  unfold addP
  rw [getD_of_get? hgi]
  split
  · rename_i hin
    refine ⟨fun s' x' r' hx' hb hr' => ?_, h.disc⟩
    by_cases he : s' = i ∧ x' = x
    · obtain ⟨rfl, rfl⟩ := he
      rw [hgi] at hr'; cases hr'; exact hin
    · exact h.done s' x' r' hx' (by unfold Bef at *; omega) hr'
  · rename_i hin
    refine ⟨fun s' x' r' hx' hb hr' => ?_, fun j r hj h0 => ?_⟩
    · have hs' : s' < l.length := by unfold Bef at hb; omega
      rw [List.getElem?_append_left hs'] at hr'
      by_cases he : s' = i ∧ x' = x
      · obtain ⟨rfl, rfl⟩ := he
        rw [hgi] at hr'; cases hr'
        rw [inP_iff]; exact List.mem_map.2 ⟨_, List.mem_append_right _ (List.mem_singleton.2 rfl), rfl⟩
      · exact inP_mono (List.prefix_append _ _) (h.done s' x' r' hx' (by unfold Bef at *; omega) hr')
    · by_cases hjl : j < l.length
      · rw [List.getElem?_append_left hjl] at hj
        obtain ⟨i', x', r', h1, h2, h3, h4, h5⟩ := h.disc j r hj h0
        refine ⟨i', x', r', h1, h2, by rw [List.getElem?_append_left (by omega)]; exact h3, h4, fun s' y r2 hy hb hr2 => ?_⟩
        have hs' : s' < l.length := by unfold Bef at hb; omega
        rw [List.getElem?_append_left hs'] at hr2
        obtain ⟨m, z, hm, hz, he⟩ := h5 s' y r2 hy hb hr2
        exact ⟨m, z, hm, by rw [List.getElem?_append_left (by omega)]; exact hz, he⟩
      · have hlt := (List.getElem?_eq_some_iff.1 hj).1
        simp at hlt
        have he : j = l.length := by omega
        subst he
        rw [List.getElem?_append_right (Nat.le_refl _), Nat.sub_self] at hj
        cases hj
        refine ⟨i, x, l[i], hi, hx, by rw [List.getElem?_append_left hi]; exact hgi, rfl, fun s' y r2 hy hb hr2 => ?_⟩
        have hs' : s' < l.length := by unfold Bef at hb; omega
        rw [List.getElem?_append_left hs'] at hr2
        obtain ⟨m, z, hm, hz, he⟩ := inP_get (h.done s' y r2 hy hb hr2)
        exact ⟨m, z, hm, by rw [List.getElem?_append_left hm]; exact hz, he⟩
theorem BfP.row {a b : Dfa} {l : List Rch} {i : Nat} (h : BfP a b l i 0) (hi : i < l.length) : ∀ x, x ≤ a.k → BfP a b (rowP a b l i x) i x
  | 0, _ => h
  | x + 1, hx => (h.row hi x (by omega)).add (Nat.lt_of_lt_of_le hi (rowP_prefix l i x).length_le) (by omega)
theorem BfP.line {a b : Dfa} {l : List Rch} {i : Nat} (h : BfP a b l i a.k) : BfP a b l (i + 1) 0 :=
  ⟨fun s' x' r' hx' hb hr' => h.done s' x' r' hx' (by unfold Bef at *; omega) hr', h.disc⟩
theorem bfP_go (a b : Dfa) : ∀ i, BfP a b (goP a b i) i 0
  | 0 => bfP_start a b
  | i + 1 => by
    show BfP a b (if _ then _ else _) (i + 1) 0
    split
    · rename_i h; exact ((bfP_go a b i).row h _ (Nat.le_refl _)).line
    · rename_i h
      refine ⟨fun s' x' r' hx' hb hr' => ?_, (bfP_go a b i).disc⟩
      have := (List.getElem?_eq_some_iff.1 hr').1
      exact (bfP_go a b i).done s' x' r' hx' (by unfold Bef at *; omega) hr'
def prodD (g : Bool → Bool → Bool) (a b : Dfa) : Dfa := ⟨a.sy, rowsP a b (pairsL a b), (pairsL a b).map (fun r => g (a.ac r.p) (b.ac r.q))⟩
theorem prod_n (g : Bool → Bool → Bool) (a b : Dfa) : (prodD g a b).n = (pairsL a b).length := by unfold prodD Dfa.n rowsP; simp
theorem prod_k (g : Bool → Bool → Bool) (a b : Dfa) : (prodD g a b).k = a.k := rfl
theorem prod_to {g : Bool → Bool → Bool} {a b : Dfa} {s x : Nat} {r : Rch} (hr : (pairsL a b)[s]? = some r) (hx : x < a.k) : (prodD g a b).to s x = idxP (pairsL a b) (stepP a b r x) := by
  unfold prodD Dfa.to rowsP
  simp only
  rw [List.getD_eq_getElem?_getD, List.getD_eq_getElem?_getD, List.getElem?_map, hr]
  simp only [Option.map_some, Option.getD_some]
  unfold numsP
  rw [List.getElem?_map, List.getElem?_range hx]
  simp
theorem prod_ac {g : Bool → Bool → Bool} {a b : Dfa} {s : Nat} {r : Rch} (hr : (pairsL a b)[s]? = some r) : (prodD g a b).ac s = g (a.ac r.p) (b.ac r.q) := by
  unfold prodD Dfa.ac
  simp only
  rw [List.getD_eq_getElem?_getD, List.getElem?_map, hr]; rfl
theorem idxP_get {a b : Dfa} (ha : Good a) (hb : Good b) (hk : a.k = b.k) {s x : Nat} {r : Rch} (hr : (pairsL a b)[s]? = some r) (hx : x < a.k) : ∃ z, (pairsL a b)[idxP (pairsL a b) (stepP a b r x)]? = some z ∧ z.key = stepP a b r x := by
  obtain ⟨m, z, hm, hz, he⟩ := inP_get (pairs_closed ha hb hk (List.mem_of_getElem? hr) hx)
  have := idxP_of (okP_all ha hb hk).nodup hz he
  exact ⟨z, by rw [this]; exact hz, he⟩
theorem prod_bfs {g : Bool → Bool → Bool} {a b : Dfa} (ha : Good a) (hb : Good b) (hk : a.k = b.k) : BfsD (prodD g a b) := by
  have hok := okP_all ha hb hk
  have hbf := bfP_go a b (a.n * b.n)
  have hlen := hok.bound
  refine ⟨ha.sy, by rw [prod_n]; exact hok.pos, fun s x hs hx => ?_, fun t h0 ht => ?_⟩
  · rw [prod_n] at hs ⊢
    have hr := List.getElem?_eq_getElem hs
    rw [prod_to hr hx]
    exact idxP_lt (pairs_closed ha hb hk (List.getElem_mem hs) hx)
  · rw [prod_n] at ht
    obtain ⟨i, x, r', h1, h2, h3, h4, h5⟩ := hbf.disc t _ (List.getElem?_eq_getElem ht) h0
    have h3' : (pairsL a b)[i]? = some r' := h3
    refine ⟨i, x, h1, h2, ?_, fun s' x' hx' hb' => ?_⟩
    · rw [prod_to h3' h2]
      exact idxP_of hok.nodup (List.getElem?_eq_getElem ht) h4.symm
    · have hs' : s' < (pairsL a b).length := by omega
      have hr2 := List.getElem?_eq_getElem hs'
      obtain ⟨m, z, hm, hz, he⟩ := h5 s' x' _ hx' hb' hr2
      rw [prod_to hr2 hx', idxP_of hok.nodup hz he]
      exact hm
theorem prod_rows {g : Bool → Bool → Bool} {a b : Dfa} (ha : Good a) (hb : Good b) (hk : a.k = b.k) : RowsD (prodD g a b) := by
  refine ⟨prod_bfs ha hb hk, fun r hr => ?_, fun r hr x hx => ?_⟩
  · obtain ⟨y, _, rfl⟩ := List.mem_map.1 hr
    simp [numsP, prod_k]
  · obtain ⟨y, _, rfl⟩ := List.mem_map.1 hr
    unfold numsP at hx
    obtain ⟨z, _, rfl⟩ := List.mem_map.1 hx
    omega
theorem prod_run {g : Bool → Bool → Bool} {a b : Dfa} (ha : Good a) (hb : Good b) (hk : a.k = b.k) : ∀ (w : List Nat) (s : Nat) (r : Rch), (pairsL a b)[s]? = some r → okW a.k w → ∃ z, (pairsL a b)[(prodD g a b).run s w]? = some z ∧ z.key = (a.run r.p w, b.run r.q w)
  | [], s, r, hr, _ => ⟨r, hr, rfl⟩
  | x :: w, s, r, hr, hw => by
    have hx := hw x (by simp)
    obtain ⟨z, hz, he⟩ := idxP_get ha hb hk hr hx
    obtain ⟨z2, h1, h2⟩ := prod_run (g := g) ha hb hk w _ z hz (fun y hy => hw y (by simp [hy]))
    refine ⟨z2, ?_, ?_⟩
    · show (pairsL a b)[(prodD g a b).run ((prodD g a b).to s x) w]? = _
      rw [prod_to hr hx]; exact h1
    · rw [h2]
      have e1 : z.p = a.to r.p x := congrArg Prod.fst he
      have e2 : z.q = b.to r.q x := congrArg Prod.snd he
      rw [e1, e2]; rfl
theorem prod_words {g : Bool → Bool → Bool} {a b : Dfa} (ha : Good a) (hb : Good b) (hk : a.k = b.k) {w : List Nat} (hw : okW a.k w) : (prodD g a b).ac ((prodD g a b).run 0 w) = g (a.ac (a.run 0 w)) (b.ac (b.run 0 w)) := by
  obtain ⟨z, hz, he⟩ := prod_run (g := g) ha hb hk w 0 r0 (okP_all ha hb hk).first hw
  rw [prod_ac hz]
  have e1 : z.p = a.run 0 w := congrArg Prod.fst he
  have e2 : z.q = b.run 0 w := congrArg Prod.snd he
  rw [e1, e2]
/-- An automaton of the words of an operation. -/
def OpW (g : Bool → Bool → Bool) (a b q : Dfa) : Prop := Canon q ∧ q.sy = a.sy ∧ ∀ w, okW a.k w → q.ac (q.run 0 w) = g (a.ac (a.run 0 w)) (b.ac (b.run 0 w))
theorem opW_one {g : Bool → Bool → Bool} {a b q q' : Dfa} (h : OpW g a b q) (h' : OpW g a b q') : q = q' := by
  have hk : q.k = a.k := by unfold Dfa.k; rw [h.2.1]
  exact canon_eq h.1 h'.1 (by unfold Dfa.k; rw [h.2.1, h'.2.1]) (fun w hw => by rw [h.2.2 w (hk ▸ hw), h'.2.2 w (hk ▸ hw)])
theorem opW_of {g : Bool → Bool → Bool} {a b q : Dfa} (ha : Good a) (hb : Good b) (hk : a.k = b.k) (hc : Canon q) (hs : q.sy = a.sy) (hl : Like q 0 (prodD g a b) 0) : OpW g a b q := by
  have hk' : q.k = a.k := by unfold Dfa.k; rw [hs]
  exact ⟨hc, hs, fun w hw => by rw [hl w (hk'.symm ▸ hw), prod_words ha hb hk hw]⟩
theorem firstQ_min {cl : List Int} {c : Nat} (h : (c : Int) ∈ cl) : cl[firstQ cl c]? = some (c : Int) ∧ ∀ j, j < firstQ cl c → cl[j]? ≠ some (c : Int) := by
  obtain ⟨i, hi⟩ := List.getElem?_of_mem h
  have hlt : cl.findIdx (fun x => x == (c : Int)) < cl.length := List.findIdx_lt_length.2 ⟨_, h, by simp⟩
  have h2 := List.findIdx_getElem (w := hlt)
  simp only [beq_iff_eq] at h2
  refine ⟨by unfold firstQ; rw [List.getElem?_eq_getElem hlt, h2], fun j hj e => ?_⟩
  have := firstQ_lt e
  omega
/-- What an operation gives, if it gives a set. -/
theorem opR_set {g : Bool → Bool → Bool} {a b : Dfa} {r : Dfa × Int} (h : OpR g a b r) (h0 : r.2 = 0) : Good a ∧ Good b ∧ a.k = b.k ∧ OpW g a b r.1 := by
  cases h with
  | bad h1 => exact absurd h0 h1
  | big _ _ => cases h0
  | many _ _ _ _ => cases h0
  | @set cl many h1 h2 h3 h4 =>
    obtain ⟨ha, hb, hk⟩ := chkL_zero h1
    refine ⟨ha, hb, hk, ?_⟩
    have hrows := prod_rows (g := g) ha hb hk
    have hn : (prodD g a b).n = (pairsL a b).length := prod_n g a b
    have hst : Stage (prodD g a b) (clsO g a b) 0 := by
      refine stage_start (by rw [hn]; unfold clsO; simp) fun i hi => ?_
      rw [hn] at hi
      unfold clsO
      rw [List.getD_eq_getElem?_getD, List.getElem?_map, List.getElem?_eq_getElem hi, prod_ac (List.getElem?_eq_getElem hi)]; rfl
    have h3' : RefR (prodD g a b).rows (clsO g a b) 0 (cl, many) := h3
    have hc := refR_cls hrows (by rw [hn]; omega) h3' hst
    have hfin := h3.final
    have hcll : cl.length = (pairsL a b).length := by have := hfin.1; simpa [rowsP] using this
    have hcN : ∀ (i c : Nat), cl[i]? = some (c : Int) → clN cl i = c := fun i c h => by unfold clN; rw [List.getD_eq_getElem?_getD, h]; simp
    have hNc : ∀ i, i < cl.length → cl[i]? = some ((clN cl i : Nat) : Int) := fun i hi => by
      have h5 : 0 ≤ cl[i] := (hfin.2 _ (List.getElem_mem hi)).1
      unfold clN
      rw [List.getD_eq_getElem?_getD, List.getElem?_eq_getElem hi, Option.getD_some]
      congr 1
      omega
    have hq := quo_canon hrows.bfs (cl := clN cl) (many := many) hc h4 (q := quoD a.sy (rowsP a b (pairsL a b)) (clsO g a b) cl many) rfl (by unfold quoD; simp) (by unfold quoD; simp) (fun c hcm => by
      obtain ⟨i, hi, hic⟩ := hc.all c hcm
      rw [hn] at hi
      have hmem : (c : Int) ∈ cl := List.mem_of_getElem? (by rw [← hic]; exact hNc i (by omega))
      obtain ⟨hf1, hf2⟩ := firstQ_min hmem
      have hfl := (List.getElem?_eq_some_iff.1 hf1).1
      have hfl2 : firstQ cl c < (pairsL a b).length := by omega
      have hr := List.getElem?_eq_getElem hfl2
      refine ⟨firstQ cl c, by rw [hn]; exact hfl2, hcN _ _ hf1, fun j hj e => hf2 j hj (by rw [← e]; exact hNc j (by omega)), ?_, ?_⟩
      · unfold quoD
        simp only
        rw [List.getElem?_map, List.getElem?_range hcm]
        simp only [Option.map_some, Option.some.injEq]
        unfold rowQ rowsP
        rw [List.getD_eq_getElem?_getD, List.getElem?_map, hr]
        simp only [Option.map_some, Option.getD_some]
        unfold numsP
        rw [List.map_map]
        refine List.map_congr_left fun x hx => ?_
        have hx := List.mem_range.1 hx
        rw [prod_to hr hx]
        simp only [Function.comp, Int.toNat_natCast]
        have hlt := idxP_lt (pairs_closed ha hb hk (List.getElem_mem hfl2) hx)
        have := hNc _ (show idxP (pairsL a b) (stepP a b (pairsL a b)[firstQ cl c] x) < cl.length by omega)
        rw [List.getD_eq_getElem?_getD, this]; rfl
      · unfold quoD
        simp only
        rw [List.getElem?_map, List.getElem?_range hcm]
        simp only [Option.map_some, Option.some.injEq]
        unfold accQ clsO
        rw [List.getD_eq_getElem?_getD, List.getElem?_map, hr, prod_ac hr]
        simp only [Option.map_some, Option.getD_some]
        cases g (a.ac (pairsL a b)[firstQ cl c].p) (b.ac (pairsL a b)[firstQ cl c].q) <;> rfl)
    exact opW_of ha hb hk hq.1 rfl hq.2
/-- Few pairs: the operation gives a set. -/
theorem refR_many {rows : List (List Int)} {cl : List Int} {many : Nat} {r : List Int × Nat} (h : RefR rows cl many r) : r.2 ≤ rows.length := by
  induction h with
  | stop h1 => simp only; rw [← h1]; exact namesR_le _ _
  | step _ _ ih => exact ih
theorem opR_ok {g : Bool → Bool → Bool} {a b : Dfa} {r : Dfa × Int} (h : OpR g a b r) (h0 : chkL a b = 0) (hn : a.n * b.n ≤ 256) : r.2 = 0 := by
  obtain ⟨ha, hb, hk⟩ := chkL_zero h0
  have hl := (okP_all ha hb hk).bound
  cases h with
  | bad h1 => exact absurd h0 h1
  | big _ h2 => omega
  | many _ _ h3 h4 =>
    have := refR_many h3
    have h5 : (rowsP a b (pairsL a b)).length = (pairsL a b).length := by unfold rowsP; simp
    simp only at this
    omega
  | set _ _ _ _ => rfl
end Go.Proofs.YthlnmcokgfpgmaaDoor

namespace Go.Proofs.YthlnmcokgfpgmaaDoor
open Go.RowKit Go.Maps
set_option linter.unusedVariables false
set_option linter.unusedSimpArgs false
attribute [local go_sem] Oper.quietV quietV Oper.gives givesV ext_refl_iff ext_alloc_iff ext_drew_iff ext_drewN_iff
def upRow (k s : Nat) : List Int := List.replicate k ((min (s + 1) 6 : Nat) : Int)
def uptoD (k : Nat) : Dfa := ⟨k, (List.range 7).map (upRow k), (List.range 7).map (fun s => decide (s ≤ 5))⟩
def Sb (b5 : Nat) (rv av : Value) (w : World) : Prop := w.cell? ⟨b5, 1, none⟩ = some rv ∧ w.cell? ⟨b5, 2, none⟩ = some av
theorem Sb.ext {b5 : Nat} {rv av : Value} {w w' : World} (h : Sb b5 rv av w) (e : Ext w w') : Sb b5 rv av w' := ⟨e.cell h.1, e.cell h.2⟩
theorem OwnL.last {w W : World} {A : Asn} {L : List Asn} (h : OwnL w W (A :: L)) : OwnL w W (L ++ [A]) := h.perm (List.perm_append_singleton _ _).symm
theorem OwnL.front {w W : World} {A : Asn} {L : List Asn} (h : OwnL w W (L ++ [A])) : OwnL w W L := (h.perm (List.perm_append_singleton _ _)).drop
theorem blk_news {w : World} {n t : Nat} {x : Value} (h : w.heap[n]? = some (.cells #[x] t (0, 0))) : ∀ (j : Nat) (u : Value), [x][j]? = some u → w.cell? ((⟨n, 0, none⟩ : Addr).add j) = some u := fun j u hj => by
  match j, hj with
  | 0, hj => cases hj; exact cell_of_blk h 0 rfl
  | j + 1, hj => simp at hj
set_option maxRecDepth 100000 in
set_option maxHeartbeats 16000000 in
theorem upto_any (w : World) (k : Nat) (hk : 1 ≤ k ∧ k ≤ 3) : Calls Tryd.prog 24 #[.int .i64 k, .int .i64 5] w fun e w' => ∃ v, e = .returned v ∧ DfaV w' v (uptoD k) ∧ Ext w w' := by
  obtain ⟨i3, hi3, hz3, hs3, hb3⟩ := info_parts int_info
  obtain ⟨i4, hi4, hz4, hs4, hb4'⟩ := info_parts bool_info
  obtain ⟨i31, hi31, hz31, hs31, hb31⟩ := info_parts ints_info
  go_enter Tryd.func24, Tryd.ntmps24
  go_upto_region 1 with fail
  refine wp_named ?_
  intro W1 hW1
  have hE1 : Ext w W1 := by rw [hW1]; exact (Ext.refl _).alloc _
  have kb : ∀ w', Ext W1 w' → w'.heap[w.heap.size]? = some (.cells #[.int .i64 0, .slice none 0 0, .slice none 0 0] 28 (0, 0)) := fun w' h => heap_ext h (by rw [hW1]; exact heap_alloc_new w _)
  clear hW1
  go_upto_region 2 with (with_reducible refine wpList_store_blk _ rfl 28 _ _ rfl W1.heap.size 28 _ _ rfl rfl (heap_alloc_new _ _) (by kernel_rfl) (by kernel_rfl) (by kernel_rfl) ?_; intro W2 h2 g2)
  have hE2 : Ext W1 W2 := Below.grown (alloc_ext W1 _) g2 (alloc_ext W1 _).size (fun k hk => by cases hk; exact Nat.le_refl _)
  have hO : OwnL W1 W2 [.rows 31 3 1 (.slice none 0 0) [] (((List.range 0).map (upRow k)).map iRow), .row 4 1 (.slice none 0 0) 0 ((List.range 0).map (fun s => Value.bool (decide (s ≤ 5)))), .blk W1.heap.size (.cells #[.int .i64 k, .slice none 0 0, .slice none 0 0] 28 (0, 0))] := by
    have h1 : OwnL W1 W2 [.blk W1.heap.size (.cells #[.int .i64 k, .slice none 0 0, .slice none 0 0] 28 (0, 0))] := ⟨hE2, fun A hA => by rw [List.mem_singleton.1 hA]; exact ⟨Nat.le_refl _, h2⟩, List.pairwise_singleton _ _⟩
    have h3 := h1.add (Ext.refl _) (A := .row 4 1 (.slice none 0 0) 0 []) (World.ownsRow_nil _ _ _ _)
    exact h3.add (Ext.refl _) (A := .rows 31 3 1 (.slice none 0 0) [] []) ⟨World.ownsRow_nil _ _ _ _, rfl, fun j u r h => by simp at h, fun i j u u' h => by simp at h, fun j u h => by simp at h⟩
  have HB : Hid (W1.heap.size = w.heap.size + 1 ∨ True) := Lib.hid (.inr trivial)
  clear g2 h2 hE2
  generalize W1.heap.size = b5 at *
  go_wp2
  go_loopw [6] (fun sv wr => ∃ (s : Nat) (rowsv accv : Value) (vsr : List Value), sv = .int .i64 s ∧ s ≤ 7 ∧ OwnL W1 wr [.rows 31 3 1 rowsv vsr (((List.range s).map (upRow k)).map iRow), .row 4 1 accv s ((List.range s).map (fun s => Value.bool (decide (s ≤ 5)))), .blk b5 (.cells #[.int .i64 k, rowsv, accv] 28 (0, 0))]) (fun sv _ => 7 - (intOf sv).toNat)
  case atStart => exact ⟨0, _, _, [], rfl, by omega, hO⟩
  case round =>
    clear hO
    obtain ⟨s, rowsv, accv, vsr, rfl, hs, hO⟩ := hrel
    obtain ⟨W3, hW3⟩ : ∃ W, W = wr := ⟨_, rfl⟩; subst hW3
    by_cases hlt : s < 7
    · have hltI : (s : Int) < 7 := by omega
      obtain ⟨M, hM⟩ : ∃ M, min (s + 1) 6 = M := ⟨_, rfl⟩
      have hmn : (if (6 : Int) < (s : Int) + 1 then (6 : Int) else (s : Int) + 1) = (M : Int) := by split <;> omega
      have hmn2 : min ((s : Int) + 1) 6 = (M : Int) := by omega
      have HM := Lib.hid hM
      clear hM
      go_wp2
      go_loopw [7, 8] (fun rv xv wr => ∃ x : Nat, xv = .int .i64 x ∧ x ≤ k ∧ OwnL W1 wr [.row 3 1 rv x ((List.replicate x (M : Int)).map (.int .i64)), .rows 31 3 1 rowsv vsr (((List.range s).map (upRow k)).map iRow), .row 4 1 accv s ((List.range s).map (fun s => Value.bool (decide (s ≤ 5)))), .blk b5 (.cells #[.int .i64 k, rowsv, accv] 28 (0, 0))]) (fun _ xv _ => k - (intOf xv).toNat)
      case atStart => exact ⟨0, rfl, by omega, hO.add (Ext.refl _) (A := .row 3 1 (.slice none 0 0) 0 []) (World.ownsRow_nil _ _ _ _)⟩
      case round =>
        clear hO
        obtain ⟨x, rfl, hx, hO⟩ := hrel
        obtain ⟨W4, hW4⟩ : ∃ W, W = wr := ⟨_, rfl⟩; subst hW4
        by_cases hxk : x < k
        · have hxI : (x : Int) < (k : Int) := by omega
          have hown : W4.ownsRow W1.heap.size 3 1 u7 x ((List.replicate x (M : Int)).map (.int .i64)) := hO.get 0 rfl
          have hsz := hO.ext.size
          have hrp : (List.replicate (x + 1) (M : Int)).map (Value.int .i64) = (List.replicate x (M : Int)).map (.int .i64) ++ [.int .i64 M] := by rw [List.replicate_succ', List.map_append]; rfl
          have HRP := Lib.hid hrp
          clear hrp
          go_wp2_with (at_builtin; refine wpList_append_own2 rfl _ _ 31 rfl W1.heap.size 3 i3 (.int .i64 0) 1 8 Tryd.underlying31 hi3 hz3 hs3 hb3 rfl (by decide) u7 x ((List.replicate x (M : Int)).map (.int .i64)) rfl (World.ownsRow.alloc hown _) ⟨W4.heap.size, 0, none⟩ 1 1 [.int .i64 M] rfl rfl (new_cell _ _ _ _ (by first | rfl | simp)) (one_int _) (by unfold maxLen; omega) (by omega) (by simp; omega) ?_; intro v6 w6 hown6 hg6 hb6)
          have hO6 := (hO.trans (alloc_ext W4 (.cells #[.int .i64 M] 3))).app 0 rfl hg6 hown6 hb6
          go_roundw
          case rel => exact ⟨x + 1, by go_num, by omega, by rw [HRP.out]; exact hO6⟩
          case measure => simp [intOf]; omega
        · obtain rfl : x = k := by omega
          obtain ⟨g7, c7, rfl⟩ := ownsRow_pos (hO.get 0 rfl) (by omega)
          have hrows : OwnRows W4 W1.heap.size 31 3 1 rowsv vsr (((List.range s).map (upRow x)).map iRow) := hO.get 1 rfl
          have hvl : vsr.length = s := by have := hrows.len; simpa using this
          have HVL := Lib.hid hvl
          obtain ⟨Arr, crr, hrf⟩ := own_form hrows.own
          rw [hvl] at hrf
          have d1 := cell_of_blk (hO.get 3 rfl).2 1 (u := rowsv) rfl
          have d2 := cell_of_blk (hO.get 3 rfl).2 2 (u := accv) rfl
          obtain ⟨B, hB⟩ : ∃ B, decide (s ≤ 5) = B := ⟨_, rfl⟩
          have hB2 : decide ((s : Int) ≤ 5) = B := by rw [← hB]; simp; omega
          have hS0 : Sb b5 rowsv accv W4.drew := ⟨(drew_ext _).cell d1, (drew_ext _).cell d2⟩
          have HB5 := Lib.hid hB
          subst hrf
          obtain ⟨Aac, cac, rfl⟩ := own_form (hO.get 2 rfl)
          have hs7 : s ≤ 6 := by omega
          clear hrows hvl d1 d2 hB
          obtain ⟨oR, hoR⟩ : ∃ o : Obj, o = .cells #[.slice (some ⟨g7, 0, none⟩) x c7] 31 := ⟨_, rfl⟩
          obtain ⟨oB, hoB⟩ : ∃ o : Obj, o = .cells #[.bool B] 4 := ⟨_, rfl⟩
          have HOR := Lib.hid hoR
          have HOB := Lib.hid hoB
          clear hoR hoB
          have hrs : ((List.range (s + 1)).map (upRow x)).map iRow = ((List.range s).map (upRow x)).map iRow ++ [(x, (List.replicate x (M : Int)).map (.int .i64))] := by
            rw [List.range_succ, List.map_append, List.map_append]
            show _ ++ [iRow (upRow x s)] = _
            unfold upRow iRow
            rw [HM.out, List.length_replicate]
          have HRS := Lib.hid hrs
          have hbs : (List.range (s + 1)).map (fun s => Value.bool (decide (s ≤ 5))) = (List.range s).map (fun s => Value.bool (decide (s ≤ 5))) ++ [.bool B] := by
            rw [List.range_succ, List.map_append, ← HB5.out]; rfl
          have HBS := Lib.hid hbs
          clear hrs hbs
          go_upto_region 10 with fail
          refine wp_region_bar 13 (Sb b5 (.slice Arr s crr) (.slice Aac s cac)) (by kernel_rfl) ?_
          refine wpAnyB_take (i := 0) (v := ?_) rfl (by kernel_rfl) (by kernel_rfl) (by kernel_rfl) (by kernel_rfl) (fun _ _ _ h => h) (Or.inl ⟨by rfl, ?_⟩) hS0 ?_
          rotate_left
          · (intro w hSw; obtain ⟨s1, s2⟩ := hSw; go_simp; first | done | with_reducible rfl)
          try simp only [Act.put, List.setIfInBounds_toArray, List.set_cons_zero, List.set_cons_succ]
          refine wpAnyB_take (i := 1) (v := ?_) rfl (by kernel_rfl) (by kernel_rfl) (by kernel_rfl) (by kernel_rfl) (fun _ _ _ h => h) (Or.inl ⟨by rfl, ?_⟩) hS0 ?_
          rotate_left
          · (intro w hSw; obtain ⟨s1, s2⟩ := hSw; go_simp; first | done | with_reducible rfl)
          try simp only [Act.put, List.setIfInBounds_toArray, List.set_cons_zero, List.set_cons_succ]
          refine wpAnyB_take (i := 2) (v := ?_) rfl (by kernel_rfl) (by kernel_rfl) (by kernel_rfl) (by kernel_rfl) (fun _ _ _ h => h) (Or.inl ⟨by rfl, ?_⟩) hS0 ?_
          rotate_left
          · (intro w hSw; obtain ⟨s1, s2⟩ := hSw; go_simp; first | done | with_reducible rfl)
          try simp only [Act.put, List.setIfInBounds_toArray, List.set_cons_zero, List.set_cons_succ]
          refine wpAnyB_take (i := 5) (v := ?_) rfl (by kernel_rfl) (by kernel_rfl) (by kernel_rfl) (by kernel_rfl) (fun _ _ _ h => h) (Or.inl ⟨by rfl, ?_⟩) hS0 ?_
          rotate_left
          · (intro w hSw; obtain ⟨s1, s2⟩ := hSw; go_simp; first | done | with_reducible rfl)
          try simp only [Act.put, List.setIfInBounds_toArray, List.set_cons_zero, List.set_cons_succ]
          refine wpAnyB_take (i := 6) (v := ?_) rfl (by kernel_rfl) (by kernel_rfl) (by kernel_rfl) (by kernel_rfl) (fun _ _ _ h => h) (Or.inl ⟨by rfl, ?_⟩) hS0 ?_
          rotate_left
          · (intro w hSw; obtain ⟨s1, s2⟩ := hSw; go_simp; first | done | with_reducible rfl)
          try simp only [Act.put, List.setIfInBounds_toArray, List.set_cons_zero, List.set_cons_succ]
          refine wpAnyB_take (i := 7) (v := ?_) rfl (by kernel_rfl) (by kernel_rfl) (by kernel_rfl) (by kernel_rfl) (fun _ _ _ h => h) (Or.inl ⟨by rfl, ?_⟩) hS0 ?_
          rotate_left
          · (intro w hSw; obtain ⟨s1, s2⟩ := hSw; go_simp; first | done | with_reducible rfl)
          try simp only [Act.put, List.setIfInBounds_toArray, List.set_cons_zero, List.set_cons_succ]
          refine wpAnyB_take (i := 8) (v := ?_) rfl (by kernel_rfl) (by kernel_rfl) (by kernel_rfl) (by kernel_rfl) (fun _ _ _ h => h) (Or.inl ⟨by rfl, ?_⟩) hS0 ?_
          rotate_left
          · (intro w hSw; obtain ⟨s1, s2⟩ := hSw; go_simp; first | done | with_reducible rfl)
          try simp only [Act.put, List.setIfInBounds_toArray, List.set_cons_zero, List.set_cons_succ]
          refine wpAnyB_take (i := 9) (v := ?_) rfl (by kernel_rfl) (by kernel_rfl) (by kernel_rfl) (by kernel_rfl) (fun _ _ _ h => h) (Or.inl ⟨by rfl, ?_⟩) hS0 ?_
          rotate_left
          · (intro w hSw; obtain ⟨s1, s2⟩ := hSw; go_simp; first | done | with_reducible rfl)
          try simp only [Act.put, List.setIfInBounds_toArray, List.set_cons_zero, List.set_cons_succ]
          refine wpAnyB_ready (rs := [3, 10]) (by kernel_rfl) (by simp) (AllB.cons rfl (fun K hK => ?_) (AllB.cons rfl (fun K hK => ?_) AllB.nil))
          · skip
            go_simp
            rw [← HOR.out]
            have hS1 := Sb.ext hS0 (alloc_ext W4.drew oR)
            refine hK.out _ _ hS1 ?_
            clear hK K
            try simp only [Act.put, List.setIfInBounds_toArray, List.set_cons_zero, List.set_cons_succ]
            have hOa : OwnL W1 (W4.drew.alloc oR) [.row 3 1 (.slice (some ⟨g7, 0, none⟩) x c7) x ((List.replicate x (M : Int)).map (.int .i64)), .rows 31 3 1 (.slice Arr s crr) vsr (((List.range s).map (upRow x)).map iRow), .row 4 1 (.slice Aac s cac) s ((List.range s).map (fun s => Value.bool (decide (s ≤ 5)))), .blk b5 (.cells #[.int .i64 x, .slice Arr s crr, .slice Aac s cac] 28 (0, 0))] := hO.trans ((drew_ext _).trans (alloc_ext _ _))
            refine wpAnyB_ready (rs := [4, 10]) (by kernel_rfl) (by simp) (AllB.cons rfl (fun K hK => ?_) (AllB.cons rfl (fun K hK => ?_) AllB.nil))
            · skip
              have hrw : OwnRows _ W1.heap.size 31 3 1 (.slice Arr s crr) vsr (((List.range s).map (upRow x)).map iRow) := (hOa).get 1 rfl
              have hrwo := hrw.own
              rw [HVL.out] at hrwo
              refine step_append_own2 rfl _ _ 25 rfl W1.heap.size 31 i31 (.slice none 0 0) 1 24 Tryd.underlying25 hi31 hz31 hs31 hb31 rfl (by decide) (.slice Arr s crr) s vsr (by rfl) hrwo ⟨_, 0, none⟩ 1 1 [.slice (some ⟨g7, 0, none⟩) x c7] (by rfl) rfl (blk_news (n := W4.drew.heap.size) (by rw [HOR.out]; exact heap_alloc_new _ _)) (one_slice _ _ _) (by unfold maxLen; omega) (by omega) (hOa).ext.size ?_
              intro v8 w8 hown8 hg8 hb8
              have hp8 : w8.ownsRow W1.heap.size 31 1 v8 (vsr.length + 1) (vsr ++ [.slice (some ⟨g7, 0, none⟩) x c7]) := by rw [HVL.out]; exact hown8
              have hO8 := (hOa).push hg8 hp8 hb8
              obtain ⟨g8, c8, rfl⟩ := ownsRow_pos hown8 (by omega)
              have hSk : Sb b5 (.slice Arr s crr) (.slice Aac s cac) w8 := ⟨cell_of_blk ((hO8).get 2 rfl).2 1 rfl, cell_of_blk ((hO8).get 2 rfl).2 2 rfl⟩
              refine hK.out _ _ hSk ?_
              clear hK K
              try simp only [Act.put, List.setIfInBounds_toArray, List.set_cons_zero, List.set_cons_succ]
              refine wpAnyB_take (i := 12) (v := ?_) rfl (by kernel_rfl) (by kernel_rfl) (by kernel_rfl) (by kernel_rfl) (fun _ _ _ h => h) (Or.inl ⟨by rfl, ?_⟩) hSk ?_
              rotate_left
              · (intro w hSw; obtain ⟨s1, s2⟩ := hSw; go_simp; first | done | with_reducible rfl)
              try simp only [Act.put, List.setIfInBounds_toArray, List.set_cons_zero, List.set_cons_succ]
              refine wpAnyB_ready (rs := [10]) (by kernel_rfl) (by simp) (AllB.cons rfl (fun K hK => ?_) AllB.nil)
              go_simp
              rw [← HOB.out]
              have hS3 := Sb.ext hSk (alloc_ext w8 oB)
              refine hK.out _ _ hS3 ?_
              clear hK K
              try simp only [Act.put, List.setIfInBounds_toArray, List.set_cons_zero, List.set_cons_succ]
              refine wpAnyB_ready (rs := [11]) (by kernel_rfl) (by simp) (AllB.cons rfl (fun K hK => ?_) AllB.nil)
              have hO8b := hO8.trans (alloc_ext w8 oB)
              refine step_append_own2 rfl _ _ 26 rfl W1.heap.size 4 i4 (.bool false) 1 1 Tryd.underlying26 hi4 hz4 hs4 hb4' rfl (by decide) (.slice Aac s cac) s ((List.range s).map (fun s => Value.bool (decide (s ≤ 5)))) (by rfl) ((hO8b).get 1 rfl) ⟨_, 0, none⟩ 1 1 [.bool B] (by rfl) rfl (blk_news (n := w8.heap.size) (by rw [HOB.out]; exact heap_alloc_new _ _)) (one_bool _) (by unfold maxLen; omega) (by omega) (hO8b).ext.size ?_
              intro v9 w9 hown9 hg9 hb9
              obtain ⟨g9, c9, rfl⟩ := ownsRow_pos hown9 (by omega)
              have hO9 := (hO8b).app 1 rfl hg9 hown9 hb9
              have hSk : Sb b5 (.slice Arr s crr) (.slice Aac s cac) w9 := ⟨cell_of_blk ((hO9).get 2 rfl).2 1 rfl, cell_of_blk ((hO9).get 2 rfl).2 2 rfl⟩
              refine hK.out _ _ hSk ?_
              clear hK K
              try simp only [Act.put, List.setIfInBounds_toArray, List.set_cons_zero, List.set_cons_succ]
              have hO9 : OwnL W1 w9 [.rows 31 3 1 (.slice (some ⟨g8, 0, none⟩) (s + 1) c8) (vsr ++ [.slice (some ⟨g7, 0, none⟩) x c7]) (((List.range (s + 1)).map (upRow x)).map iRow), .row 4 1 (.slice (some ⟨g9, 0, none⟩) (s + 1) c9) (s + 1) ((List.range (s + 1)).map (fun s => Value.bool (decide (s ≤ 5)))), .blk b5 (.cells #[.int .i64 x, .slice Arr s crr, .slice Aac s cac] 28 (0, 0))] := by
                rw [HRS.out, HBS.out]; exact hO9
              have f9 := free_of_blk (hO9.get 2 rfl).2
              have d9 := cell_of_blk (hO9.get 2 rfl).2 1 (u := .slice Arr s crr) rfl
              have d9' := cell_of_blk (hO9.get 2 rfl).2 2 (u := .slice Aac s cac) rfl
              refine wpAnyB_tail rfl rfl (by decide) (by kernel_rfl) ?_
              have hO10 := (hO9.put 2 rfl 1 (.slice (some ⟨g8, 0, none⟩) (s + 1) c8)).put 2 rfl 2 (.slice (some ⟨g9, 0, none⟩) (s + 1) c9)
              have HO10 := Lib.hid hO10
              clear hO10 hO9
              go_wp2
              exact ⟨⟨s + 1, _, _, _, by go_num, by omega, HO10.out⟩, by simp [intOf]; omega⟩
            · skip
              go_simp
              rw [← HOB.out]
              have hS2 := Sb.ext hS1 (alloc_ext (W4.drew.alloc oR) oB)
              refine hK.out _ _ hS2 ?_
              clear hK K
              try simp only [Act.put, List.setIfInBounds_toArray, List.set_cons_zero, List.set_cons_succ]
              have hOb := (hOa.add (alloc_ext _ oB) (A := .blk (W4.heap.size + 1) oB) ⟨by simp, by have := heap_alloc_new (W4.drew.alloc oR) oB; simpa using this⟩).last
              refine wpAnyB_ready (rs := [4]) (by kernel_rfl) (by simp) (AllB.cons rfl (fun K hK => ?_) AllB.nil)
              have hrw : OwnRows _ W1.heap.size 31 3 1 (.slice Arr s crr) vsr (((List.range s).map (upRow x)).map iRow) := (hOb).get 1 rfl
              have hrwo := hrw.own
              rw [HVL.out] at hrwo
              refine step_append_own2 rfl _ _ 25 rfl W1.heap.size 31 i31 (.slice none 0 0) 1 24 Tryd.underlying25 hi31 hz31 hs31 hb31 rfl (by decide) (.slice Arr s crr) s vsr (by rfl) hrwo ⟨_, 0, none⟩ 1 1 [.slice (some ⟨g7, 0, none⟩) x c7] (by rfl) rfl (blk_news (n := W4.drew.heap.size) (heap_ext (alloc_ext _ _) (by rw [HOR.out]; exact heap_alloc_new _ _))) (one_slice _ _ _) (by unfold maxLen; omega) (by omega) (hOb).ext.size ?_
              intro v8 w8 hown8 hg8 hb8
              have hp8 : w8.ownsRow W1.heap.size 31 1 v8 (vsr.length + 1) (vsr ++ [.slice (some ⟨g7, 0, none⟩) x c7]) := by rw [HVL.out]; exact hown8
              have hO8 := (hOb).push hg8 hp8 hb8
              obtain ⟨g8, c8, rfl⟩ := ownsRow_pos hown8 (by omega)
              have hSk : Sb b5 (.slice Arr s crr) (.slice Aac s cac) w8 := ⟨cell_of_blk ((hO8).get 2 rfl).2 1 rfl, cell_of_blk ((hO8).get 2 rfl).2 2 rfl⟩
              refine hK.out _ _ hSk ?_
              clear hK K
              try simp only [Act.put, List.setIfInBounds_toArray, List.set_cons_zero, List.set_cons_succ]
              refine wpAnyB_take (i := 12) (v := ?_) rfl (by kernel_rfl) (by kernel_rfl) (by kernel_rfl) (by kernel_rfl) (fun _ _ _ h => h) (Or.inl ⟨by rfl, ?_⟩) hSk ?_
              rotate_left
              · (intro w hSw; obtain ⟨s1, s2⟩ := hSw; go_simp; first | done | with_reducible rfl)
              try simp only [Act.put, List.setIfInBounds_toArray, List.set_cons_zero, List.set_cons_succ]
              refine wpAnyB_ready (rs := [11]) (by kernel_rfl) (by simp) (AllB.cons rfl (fun K hK => ?_) AllB.nil)
              have hnb := (hO8.get 3 rfl).2
              rw [HOB.out] at hnb
              refine step_append_own2 rfl _ _ 26 rfl W1.heap.size 4 i4 (.bool false) 1 1 Tryd.underlying26 hi4 hz4 hs4 hb4' rfl (by decide) (.slice Aac s cac) s ((List.range s).map (fun s => Value.bool (decide (s ≤ 5)))) (by rfl) ((hO8).get 1 rfl) ⟨_, 0, none⟩ 1 1 [.bool B] (by rfl) rfl (blk_news hnb) (one_bool _) (by unfold maxLen; omega) (by omega) (hO8).ext.size ?_
              intro v9 w9 hown9 hg9 hb9
              obtain ⟨g9, c9, rfl⟩ := ownsRow_pos hown9 (by omega)
              have hO9 := (hO8).app 1 rfl hg9 hown9 hb9
              have hSk : Sb b5 (.slice Arr s crr) (.slice Aac s cac) w9 := ⟨cell_of_blk ((hO9).get 2 rfl).2 1 rfl, cell_of_blk ((hO9).get 2 rfl).2 2 rfl⟩
              refine hK.out _ _ hSk ?_
              clear hK K
              try simp only [Act.put, List.setIfInBounds_toArray, List.set_cons_zero, List.set_cons_succ]
              have hO9 := OwnL.front (L := [_, _, _]) hO9
              have hO9 : OwnL W1 w9 [.rows 31 3 1 (.slice (some ⟨g8, 0, none⟩) (s + 1) c8) (vsr ++ [.slice (some ⟨g7, 0, none⟩) x c7]) (((List.range (s + 1)).map (upRow x)).map iRow), .row 4 1 (.slice (some ⟨g9, 0, none⟩) (s + 1) c9) (s + 1) ((List.range (s + 1)).map (fun s => Value.bool (decide (s ≤ 5)))), .blk b5 (.cells #[.int .i64 x, .slice Arr s crr, .slice Aac s cac] 28 (0, 0))] := by
                rw [HRS.out, HBS.out]; exact hO9
              have f9 := free_of_blk (hO9.get 2 rfl).2
              have d9 := cell_of_blk (hO9.get 2 rfl).2 1 (u := .slice Arr s crr) rfl
              have d9' := cell_of_blk (hO9.get 2 rfl).2 2 (u := .slice Aac s cac) rfl
              refine wpAnyB_tail rfl rfl (by decide) (by kernel_rfl) ?_
              have hO10 := (hO9.put 2 rfl 1 (.slice (some ⟨g8, 0, none⟩) (s + 1) c8)).put 2 rfl 2 (.slice (some ⟨g9, 0, none⟩) (s + 1) c9)
              have HO10 := Lib.hid hO10
              clear hO10 hO9
              go_wp2
              exact ⟨⟨s + 1, _, _, _, by go_num, by omega, HO10.out⟩, by simp [intOf]; omega⟩
          · skip
            go_simp
            rw [← HOB.out]
            have hS1 := Sb.ext hS0 (alloc_ext W4.drew oB)
            refine hK.out _ _ hS1 ?_
            clear hK K
            try simp only [Act.put, List.setIfInBounds_toArray, List.set_cons_zero, List.set_cons_succ]
            have hOc := ((hO.trans (drew_ext _)).add (alloc_ext _ oB) (A := .blk W4.drew.heap.size oB) ⟨Nat.le_refl _, heap_alloc_new _ _⟩).last
            refine wpAnyB_ready (rs := [3]) (by kernel_rfl) (by simp) (AllB.cons rfl (fun K hK => ?_) AllB.nil)
            go_simp
            rw [← HOR.out]
            have hS2 := Sb.ext hS1 (alloc_ext (W4.drew.alloc oB) oR)
            refine hK.out _ _ hS2 ?_
            clear hK K
            try simp only [Act.put, List.setIfInBounds_toArray, List.set_cons_zero, List.set_cons_succ]
            have hOd := hOc.trans (alloc_ext _ oR)
            refine wpAnyB_ready (rs := [4]) (by kernel_rfl) (by simp) (AllB.cons rfl (fun K hK => ?_) AllB.nil)
            have hnr : ((W4.drew.alloc oB).alloc oR).heap[W4.heap.size + 1]? = some oR := by have := heap_alloc_new (W4.drew.alloc oB) oR; simpa using this
            have hrw : OwnRows _ W1.heap.size 31 3 1 (.slice Arr s crr) vsr (((List.range s).map (upRow x)).map iRow) := (hOd).get 1 rfl
            have hrwo := hrw.own
            rw [HVL.out] at hrwo
            refine step_append_own2 rfl _ _ 25 rfl W1.heap.size 31 i31 (.slice none 0 0) 1 24 Tryd.underlying25 hi31 hz31 hs31 hb31 rfl (by decide) (.slice Arr s crr) s vsr (by rfl) hrwo ⟨_, 0, none⟩ 1 1 [.slice (some ⟨g7, 0, none⟩) x c7] (by rfl) rfl (blk_news (n := W4.heap.size + 1) (hnr.trans (by rw [HOR.out]))) (one_slice _ _ _) (by unfold maxLen; omega) (by omega) (hOd).ext.size ?_
            intro v8 w8 hown8 hg8 hb8
            have hp8 : w8.ownsRow W1.heap.size 31 1 v8 (vsr.length + 1) (vsr ++ [.slice (some ⟨g7, 0, none⟩) x c7]) := by rw [HVL.out]; exact hown8
            have hO8 := (hOd).push hg8 hp8 hb8
            obtain ⟨g8, c8, rfl⟩ := ownsRow_pos hown8 (by omega)
            have hSk : Sb b5 (.slice Arr s crr) (.slice Aac s cac) w8 := ⟨cell_of_blk ((hO8).get 2 rfl).2 1 rfl, cell_of_blk ((hO8).get 2 rfl).2 2 rfl⟩
            refine hK.out _ _ hSk ?_
            clear hK K
            try simp only [Act.put, List.setIfInBounds_toArray, List.set_cons_zero, List.set_cons_succ]
            refine wpAnyB_take (i := 12) (v := ?_) rfl (by kernel_rfl) (by kernel_rfl) (by kernel_rfl) (by kernel_rfl) (fun _ _ _ h => h) (Or.inl ⟨by rfl, ?_⟩) hSk ?_
            rotate_left
            · (intro w hSw; obtain ⟨s1, s2⟩ := hSw; go_simp; first | done | with_reducible rfl)
            try simp only [Act.put, List.setIfInBounds_toArray, List.set_cons_zero, List.set_cons_succ]
            refine wpAnyB_ready (rs := [11]) (by kernel_rfl) (by simp) (AllB.cons rfl (fun K hK => ?_) AllB.nil)
            have hnb := (hO8.get 3 rfl).2
            rw [HOB.out] at hnb
            refine step_append_own2 rfl _ _ 26 rfl W1.heap.size 4 i4 (.bool false) 1 1 Tryd.underlying26 hi4 hz4 hs4 hb4' rfl (by decide) (.slice Aac s cac) s ((List.range s).map (fun s => Value.bool (decide (s ≤ 5)))) (by rfl) ((hO8).get 1 rfl) ⟨_, 0, none⟩ 1 1 [.bool B] (by rfl) rfl (blk_news hnb) (one_bool _) (by unfold maxLen; omega) (by omega) (hO8).ext.size ?_
            intro v9 w9 hown9 hg9 hb9
            obtain ⟨g9, c9, rfl⟩ := ownsRow_pos hown9 (by omega)
            have hO9 := (hO8).app 1 rfl hg9 hown9 hb9
            have hSk : Sb b5 (.slice Arr s crr) (.slice Aac s cac) w9 := ⟨cell_of_blk ((hO9).get 2 rfl).2 1 rfl, cell_of_blk ((hO9).get 2 rfl).2 2 rfl⟩
            refine hK.out _ _ hSk ?_
            clear hK K
            try simp only [Act.put, List.setIfInBounds_toArray, List.set_cons_zero, List.set_cons_succ]
            have hO9 := OwnL.front (L := [_, _, _]) hO9
            have hO9 : OwnL W1 w9 [.rows 31 3 1 (.slice (some ⟨g8, 0, none⟩) (s + 1) c8) (vsr ++ [.slice (some ⟨g7, 0, none⟩) x c7]) (((List.range (s + 1)).map (upRow x)).map iRow), .row 4 1 (.slice (some ⟨g9, 0, none⟩) (s + 1) c9) (s + 1) ((List.range (s + 1)).map (fun s => Value.bool (decide (s ≤ 5)))), .blk b5 (.cells #[.int .i64 x, .slice Arr s crr, .slice Aac s cac] 28 (0, 0))] := by
              rw [HRS.out, HBS.out]; exact hO9
            have f9 := free_of_blk (hO9.get 2 rfl).2
            have d9 := cell_of_blk (hO9.get 2 rfl).2 1 (u := .slice Arr s crr) rfl
            have d9' := cell_of_blk (hO9.get 2 rfl).2 2 (u := .slice Aac s cac) rfl
            refine wpAnyB_tail rfl rfl (by decide) (by kernel_rfl) ?_
            have hO10 := (hO9.put 2 rfl 1 (.slice (some ⟨g8, 0, none⟩) (s + 1) c8)).put 2 rfl 2 (.slice (some ⟨g9, 0, none⟩) (s + 1) c9)
            have HO10 := Lib.hid hO10
            clear hO10 hO9
            go_wp2
            exact ⟨⟨s + 1, _, _, _, by go_num, by omega, HO10.out⟩, by simp [intOf]; omega⟩
    · obtain rfl : s = 7 := by omega
      have hrows : OwnRows W3 W1.heap.size 31 3 1 rowsv vsr (((List.range 7).map (upRow k)).map iRow) := hO.get 0 rfl
      have hvl : vsr.length = 7 := by have := hrows.len; simpa using this
      have hown := hrows.own
      rw [hvl] at hown
      obtain ⟨gR, cR, rfl⟩ := ownsRow_pos hown (by omega)
      have hac : W3.ownsRow W1.heap.size 4 1 accv 7 ((List.range 7).map (fun s => Value.bool (decide (s ≤ 5)))) := hO.get 1 rfl
      obtain ⟨gA, cA, rfl⟩ := ownsRow_pos hac (by omega)
      have d0 := cell_of_blk (hO.get 2 rfl).2 0 (u := .int .i64 k) rfl
      have d1 := cell_of_blk (hO.get 2 rfl).2 1 (u := .slice (some ⟨gR, 0, none⟩) 7 cR) rfl
      have d2 := cell_of_blk (hO.get 2 rfl).2 2 (u := .slice (some ⟨gA, 0, none⟩) 7 cA) rfl
      have hb := kb W3 hO.ext
      have hl := HB.out
      have HO := Lib.hid hO
      clear hO hrows hvl hown hac
      go_wp2_with (with_reducible refine wpList_store_blk _ rfl 28 _ _ rfl w.heap.size 28 _ _ rfl rfl hb (by kernel_rfl) (by kernel_rfl) (by kernel_rfl) ?_; intro w8 h8 g8)
      refine bodyPost_ret (results_cell_row rfl _ _ w.heap.size 28 _ (0, 0) _ (by simp [Act.put]) h8 Tryd.underlying28 rfl (by kernel_rfl)) rfl ?_
      have hk2 : ∀ A ∈ _, Asn.ok W1.heap.size w8 A := fun A hA => Asn.of (HO.out.ok A hA) (fun b hb => g8.block b (Asn.lt (HO.out.ok A hA) hb).2 (fun e => by cases e; have h1 := (Asn.lt (HO.out.ok A hA) hb).1; have := lt_of_block (kb W1 (Ext.refl _)); omega))
      have hr2 : OwnRows w8 W1.heap.size 31 3 1 (.slice (some ⟨gR, 0, none⟩) 7 cR) vsr (((List.range 7).map (upRow k)).map iRow) := hk2 (.rows 31 3 1 (.slice (some ⟨gR, 0, none⟩) 7 cR) vsr (((List.range 7).map (upRow k)).map iRow)) (by simp)
      have ha2 : w8.ownsRow W1.heap.size 4 1 (.slice (some ⟨gA, 0, none⟩) 7 cA) 7 ((List.range 7).map (fun s => Value.bool (decide (s ≤ 5)))) := hk2 (.row 4 1 (.slice (some ⟨gA, 0, none⟩) 7 cA) 7 ((List.range 7).map (fun s => Value.bool (decide (s ≤ 5))))) (by simp)
      have ha3 : w8.ownsRow W1.heap.size 4 1 (.slice (some ⟨gA, 0, none⟩) 7 cA) 7 (((List.range 7).map (fun s => decide (s ≤ 5))).map .bool) := by rw [List.map_map]; exact ha2
      obtain ⟨c9, hac9⟩ := bools_of_owns ha3 (by simp) (by unfold lenMax; omega)
      refine ⟨_, rfl, ⟨_, cR, _, c9, rfl, listsC_of_own (rows := (List.range 7).map (upRow k)) hr2 (by simp) (by unfold lenMax; omega) (fun r hr => ?_), hac9⟩, Below.grown (hE1.trans HO.out.ext) g8 (hE1.trans HO.out.ext).size (fun k hk => by cases hk; exact Nat.le_refl _)⟩
      obtain ⟨y, _, rfl⟩ := List.mem_map.1 hr
      unfold upRow lenMax
      rw [List.length_replicate]; omega
end Go.Proofs.YthlnmcokgfpgmaaDoor

namespace Go.Proofs.YthlnmcokgfpgmaaDoor
open Go.RowKit
set_option linter.unusedVariables false
set_option linter.unusedSimpArgs false

theorem refIncl_all {a b : Dfa} (ha : Good a) (hb : Good b) (hk : a.k = b.k) (h : (refIncl a b).1 = 1) {w : List Nat} (hw : okW a.k w) (hac : a.ac (a.run 0 w) = true) : b.ac (b.run 0 w) = true := by
  unfold refIncl at h
  cases hf : (pairsL a b).findIdx? (offP a b) with
  | some n => rw [hf] at h; cases h
  | none =>
    rw [List.findIdx?_eq_none_iff] at hf
    obtain ⟨z, hz, he⟩ := prod_run (g := fun x _ => x) ha hb hk w 0 r0 (okP_all ha hb hk).first hw
    have h1 := hf z (List.mem_of_getElem? hz)
    have e1 : z.p = a.run 0 w := congrArg Prod.fst he
    have e2 : z.q = b.run 0 w := congrArg Prod.snd he
    unfold offP at h1
    rw [e1, e2, hac] at h1
    simpa using h1
theorem upto_row {k s : Nat} (hs : s < 7) : (uptoD k).rows[s]? = some (upRow k s) := by
  unfold uptoD
  simp only
  rw [List.getElem?_map, List.getElem?_range hs]; rfl
theorem upto_k (k : Nat) : (uptoD k).k = k := by unfold uptoD Dfa.k; simp
theorem upto_n (k : Nat) : (uptoD k).n = 7 := by unfold uptoD Dfa.n; simp
theorem upto_to {k s x : Nat} (hs : s < 7) (hx : x < k) : (uptoD k).to s x = min (s + 1) 6 := by
  unfold Dfa.to
  rw [List.getD_eq_getElem?_getD (l := (uptoD k).rows), upto_row hs, Option.getD_some]
  unfold upRow
  rw [List.getD_eq_getElem?_getD, List.getElem?_replicate, if_pos hx, Option.getD_some, Int.toNat_natCast]
theorem upto_ac {k s : Nat} (hs : s < 7) : (uptoD k).ac s = decide (s ≤ 5) := by
  unfold uptoD Dfa.ac
  simp only
  rw [List.getD_eq_getElem?_getD, List.getElem?_map, List.getElem?_range hs]; rfl
theorem upto_good {k : Nat} (hk : 1 ≤ k ∧ k ≤ 3) : Good (uptoD k) := by
  refine ⟨by unfold uptoD; simp only; omega, by unfold uptoD; simp, by unfold uptoD; simp, fun r hr => ?_, fun r hr x hx => ?_⟩
  · unfold uptoD at hr
    obtain ⟨s, _, rfl⟩ := List.mem_map.1 hr
    unfold upRow uptoD
    rw [List.length_replicate]
  · unfold uptoD at hr
    obtain ⟨s, _, rfl⟩ := List.mem_map.1 hr
    unfold upRow at hx
    rw [(List.mem_replicate.1 hx).2]
    have : (uptoD k).rows.length = 7 := upto_n k
    rw [this]; omega
theorem upto_run {k : Nat} : ∀ (w : List Nat) (s : Nat), s ≤ 6 → okW k w → (uptoD k).run s w = min (s + w.length) 6
  | [], s, hs, _ => by show s = min (s + 0) 6; omega
  | x :: w, s, hs, hw => by
    show (uptoD k).run ((uptoD k).to s x) w = _
    rw [upto_to (by omega) (hw x (by simp)), upto_run w _ (by omega) (fun y hy => hw y (by simp [hy])), List.length_cons]
    omega
/-- No word is longer than five symbols. -/
theorem upto_short {a : Dfa} (ha : Good a) (hk : a.k ≤ 3) (h : (refIncl a (uptoD a.k)).1 = 1) : ∀ w, okW a.k w → a.ac (a.run 0 w) = true → w.length ≤ 5 := fun w hw hac => by
  have h1 := ha.kk
  have h2 := refIncl_all ha (upto_good ⟨h1.2.1, hk⟩) (upto_k a.k).symm h hw hac
  rw [upto_run w 0 (by omega) hw, upto_ac (by omega)] at h2
  have := of_decide_eq_true h2
  omega
theorem cnt_short (d : Dfa) {m : Nat} : ∀ {n : Nat}, m < n → cntW d m 0 ≤ shortC d n := fun {n} h => by
  have h1 := shortC_succ d m
  have h2 := shortC_mono d (show m + 1 ≤ n by omega)
  omega
end Go.Proofs.YthlnmcokgfpgmaaDoor
