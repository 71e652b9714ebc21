/- A word that is long enough can be made shorter: which lengths tell that there are finitely many words. The words of pairs, by definition; the least word that is none of another automaton. Plain lists; slices of pairs. ref25.Pairs 46. ref25.Inclusion 15. -/
import Derived.Test.YthlnmcokgfpgmaaDoorZC
import Derived.Test.YthlnmcokgfpgmaaDoorZB
import Derived.Test.YthlnmcokgfpgmaaDoorZK
import Derived.Test.YthlnmcokgfpgmaaDoorZI
namespace Go.Proofs.YthlnmcokgfpgmaaDoor
open Go.RowKit
set_option linter.unusedVariables false
set_option linter.unusedSimpArgs false

theorem pigeon {n : Nat} (f : Nat → Nat) (hf : ∀ i, i ≤ n → f i < n) : ∃ i j, i < j ∧ j ≤ n ∧ f i = f j := by
  rcases Classical.em (∃ i j, i < j ∧ j ≤ n ∧ f i = f j) with h | h
  · exact h
  · exfalso
    have hd : ((List.range (n + 1)).map f).Nodup := by
      rw [List.Nodup, List.pairwise_iff_getElem]
      intro i j hi hj hij he
      simp at hi hj he
      exact h ⟨i, j, hij, by omega, he⟩
    have := List.Nodup.length_le_of_subset hd (l₂ := List.range n) (fun x hx => by
      obtain ⟨i, hi, rfl⟩ := List.mem_map.1 hx
      have := List.mem_range.1 hi
      exact List.mem_range.2 (hf i (by omega)))
    simp at this
    omega
theorem okW_take {k : Nat} {w : List Nat} (h : okW k w) (i : Nat) : okW k (w.take i) := fun x hx => h x (List.mem_of_mem_take hx)
theorem okW_drop {k : Nat} {w : List Nat} (h : okW k w) (i : Nat) : okW k (w.drop i) := fun x hx => h x (List.mem_of_mem_drop hx)
/-- A loop cut out. -/
theorem shorten {d : Dfa} (hg : Good d) {w : List Nat} (hw : okW d.k w) (hl : d.n ≤ w.length) : ∃ u, okW d.k u ∧ d.run 0 u = d.run 0 w ∧ u.length < w.length ∧ w.length ≤ u.length + d.n := by
  have h0 : 0 < d.n := by have := hg.size; unfold Dfa.n; omega
  obtain ⟨i, j, hij, hj, he⟩ := pigeon (n := d.n) (fun i => d.run 0 (w.take i)) (fun i _ => run_lt hg _ 0 h0 (okW_take hw i))
  refine ⟨w.take i ++ w.drop j, okW_append (okW_take hw i) (okW_drop hw j), ?_, ?_, ?_⟩
  · have he' : d.run 0 (w.take i) = d.run 0 (w.take j) := he
    rw [run_append, he', ← run_append, List.take_append_drop]
  · rw [List.length_append, List.length_take, List.length_drop]; omega
  · rw [List.length_append, List.length_take, List.length_drop]; omega
/-- None of the words with at least as many symbols as there are states, and less than twice as many. -/
def FinW (d : Dfa) : Prop := ∀ w, okW d.k w → d.n ≤ w.length → w.length < 2 * d.n → d.ac (d.run 0 w) = false
theorem finW_iff {d : Dfa} (hg : Good d) : FinW d ↔ FinD d := by
  refine ⟨fun h => ?_, fun h w hw h1 h2 => ?_⟩
  · have key : ∀ (m : Nat) (w : List Nat), w.length ≤ m → okW d.k w → d.n ≤ w.length → d.ac (d.run 0 w) = false := fun m => by
      induction m with
      | zero => intro w hl hw h1; exact h w hw h1 (by have := hg.size; unfold Dfa.n; omega)
      | succ m ih =>
        intro w hl hw h1
        by_cases h2 : w.length < 2 * d.n
        · exact h w hw h1 h2
        · obtain ⟨u, hu, he, h3, h4⟩ := shorten hg hw h1
          rw [← he]
          exact ih u (by omega) hu (by omega)
    intro w hw ha
    rcases Nat.lt_or_ge w.length d.n with h1 | h1
    · exact h1
    · have := key _ w (Nat.le_refl _) hw h1
      rw [ha] at this; cases this
  · cases ha : d.ac (d.run 0 w) with
    | false => rfl
    | true => have := h w hw ha; omega
/-- The states that the words of length k lead to. -/
structure AtK (d : Dfa) (k : Nat) (l : List Int) : Prop where
  len : l.length = d.n
  val : ∀ s, s < d.n → l.getD s 0 = 0 ∨ l.getD s 0 = 1
  iff : ∀ s, s < d.n → (l.getD s 0 = 1 ↔ ∃ w, okW d.k w ∧ w.length = k ∧ d.run 0 w = s)
theorem atK_zero {d : Dfa} (hg : Good d) : AtK d 0 ((List.replicate d.n 0).set 0 1) := by
  have h0 : 0 < d.n := by have := hg.size; unfold Dfa.n; omega
  have hat : ∀ s, s < d.n → ((List.replicate d.n (0 : Int)).set 0 1).getD s 0 = if s = 0 then 1 else 0 := fun s hs => by
    rw [List.getD_eq_getElem?_getD]
    by_cases h : s = 0
    · subst h; rw [List.getElem?_set_self (by simpa using hs)]; rfl
    · rw [List.getElem?_set_ne (fun e => h e.symm), List.getElem?_replicate, if_pos hs, if_neg h]; rfl
  refine ⟨by simp, fun s hs => ?_, fun s hs => ?_⟩
  · rw [hat s hs]; split
    · exact .inr rfl
    · exact .inl rfl
  · rw [hat s hs]
    refine ⟨fun h => ?_, fun ⟨w, _, hl, hr⟩ => ?_⟩
    · by_cases h' : s = 0
      · subst h'; exact ⟨[], (fun x hx => by cases hx), rfl, rfl⟩
      · rw [if_neg h'] at h; cases h
    · obtain rfl := List.eq_nil_of_length_eq_zero hl
      have hr : 0 = s := hr
      rw [if_pos hr.symm]
/-- One symbol more, for the states before s and the symbols of s before x. -/
structure NextK (d : Dfa) (now l : List Int) (s x : Nat) : Prop where
  len : l.length = d.n
  val : ∀ t, t < d.n → l.getD t 0 = 0 ∨ l.getD t 0 = 1
  iff : ∀ t, t < d.n → (l.getD t 0 = 1 ↔ ∃ s' x', s' < d.n ∧ x' < d.k ∧ (s' < s ∨ s' = s ∧ x' < x) ∧ now.getD s' 0 = 1 ∧ d.to s' x' = t)
theorem nextK_zero (d : Dfa) (now : List Int) : NextK d now (List.replicate d.n 0) 0 0 := by
  have hat : ∀ t, t < d.n → (List.replicate d.n (0 : Int)).getD t 0 = 0 := fun t ht => by
    rw [List.getD_eq_getElem?_getD, List.getElem?_replicate, if_pos ht]; rfl
  refine ⟨by simp, fun t ht => .inl (hat t ht), fun t ht => ⟨fun h => ?_, fun ⟨s', x', _, _, h, _⟩ => by omega⟩⟩
  rw [hat t ht] at h; cases h
theorem getD_setI {l : List Int} {s t : Nat} {z : Int} (hs : s < l.length) : (l.set s z).getD t 0 = if t = s then z else l.getD t 0 := by
  rw [List.getD_eq_getElem?_getD, List.getD_eq_getElem?_getD]
  by_cases h : t = s
  · subst h; rw [List.getElem?_set_self hs, if_pos rfl]; rfl
  · rw [List.getElem?_set_ne (fun e => h e.symm), if_neg h]
theorem NextK.step {d : Dfa} {now l : List Int} {s x : Nat} (h : NextK d now l s x) {k : Nat} (hn : AtK d k now) (hg : Good d) (hs : s < d.n) (hx : x < d.k) :
    NextK d now (l.set (d.to s x) (max (l.getD (d.to s x) 0) (now.getD s 0))) s (x + 1) := by
  have ht := hg.to_lt hs hx
  have hat := fun t => getD_setI (l := l) (s := d.to s x) (t := t) (z := max (l.getD (d.to s x) 0) (now.getD s 0)) (by rw [h.len]; exact ht)
  have hv := h.val _ ht
  have hw := hn.val _ hs
  refine ⟨by rw [List.length_set]; exact h.len, fun t htl => ?_, fun t htl => ?_⟩
  · rw [hat]; split
    · omega
    · exact h.val t htl
  · rw [hat]
    split
    · rename_i he; subst he
      refine ⟨fun h1 => ?_, fun ⟨s', x', h1, h2, h3, h4, h5⟩ => ?_⟩
      · rcases hv with hv | hv
        · exact ⟨s, x, hs, hx, .inr ⟨rfl, by omega⟩, by omega, rfl⟩
        · obtain ⟨s', x', h1, h2, h3, h4, h5⟩ := (h.iff _ ht).1 hv
          exact ⟨s', x', h1, h2, by omega, h4, h5⟩
      · by_cases e : s' = s ∧ x' = x
        · obtain ⟨rfl, rfl⟩ := e; omega
        · have := (h.iff _ ht).2 ⟨s', x', h1, h2, by omega, h4, h5⟩
          omega
    · rename_i he
      rw [h.iff t htl]
      refine ⟨fun ⟨s', x', h1, h2, h3, h4, h5⟩ => ⟨s', x', h1, h2, by omega, h4, h5⟩, fun ⟨s', x', h1, h2, h3, h4, h5⟩ => ⟨s', x', h1, h2, ?_, h4, h5⟩⟩
      by_cases e : s' = s ∧ x' = x
      · obtain ⟨rfl, rfl⟩ := e; exact absurd h5.symm he
      · omega
theorem NextK.row {d : Dfa} {now l : List Int} {s x : Nat} (h : NextK d now l s x) (hx : x = d.k) : NextK d now l (s + 1) 0 :=
  ⟨h.len, h.val, fun t ht => (h.iff t ht).trans ⟨fun ⟨s', x', h1, h2, h3, h4⟩ => ⟨s', x', h1, h2, by omega, h4⟩, fun ⟨s', x', h1, h2, h3, h4⟩ => ⟨s', x', h1, h2, by omega, h4⟩⟩⟩
theorem NextK.all {d : Dfa} {now l : List Int} {s k : Nat} (hg : Good d) (h : NextK d now l s 0) (hs : s = d.n) (hn : AtK d k now) : AtK d (k + 1) l := by
  have h0 : 0 < d.n := by have := hg.size; unfold Dfa.n; omega
  refine ⟨h.len, h.val, fun t ht => (h.iff t ht).trans ⟨fun ⟨s', x', h1, h2, h3, h4, h5⟩ => ?_, fun ⟨w, hw, hl, hr⟩ => ?_⟩⟩
  · obtain ⟨w, hw, hl, hr⟩ := (hn.iff s' h1).1 h4
    exact ⟨w ++ [x'], okW_append hw (okW_one h2), by simp [hl], by rw [run_append, hr]; exact h5⟩
  · have hne : w ≠ [] := fun e => by rw [e] at hl; simp at hl
    have hs' := List.dropLast_concat_getLast hne
    have hx : w.getLast hne < d.k := hw _ (List.getLast_mem hne)
    have hw' : okW d.k w.dropLast := fun y hy => hw y (List.dropLast_subset w hy)
    have hlt := run_lt hg w.dropLast 0 h0 hw'
    refine ⟨d.run 0 w.dropLast, w.getLast hne, hlt, hx, by omega, (hn.iff _ hlt).2 ⟨_, hw', by rw [List.length_dropLast, hl]; rfl, rfl⟩, ?_⟩
    rw [← hs', run_append] at hr
    exact hr
/-- No word of at least n and less than k symbols, and those of length k that lead to states before s. -/
def NoneK (d : Dfa) (k s : Nat) : Prop := ∀ w, okW d.k w → d.n ≤ w.length → (w.length < k ∨ w.length = k ∧ d.run 0 w < s) → d.ac (d.run 0 w) = false
theorem noneK_zero {d : Dfa} (hg : Good d) : NoneK d 0 0 := fun w hw h1 h2 => by
  have := hg.size; unfold Dfa.n at h1; omega
theorem NoneK.step {d : Dfa} {k s : Nat} {now : List Int} (h : NoneK d k s) (hn : AtK d k now) (hs : s < d.n) (hb : ¬ (now.getD s 0 = 1 ∧ d.ac s = true ∧ d.n ≤ k)) : NoneK d k (s + 1) := fun w hw h1 h2 => by
  by_cases e : w.length = k ∧ d.run 0 w = s
  · obtain ⟨e1, e2⟩ := e
    have h3 := (hn.iff s hs).2 ⟨w, hw, e1, e2⟩
    cases ha : d.ac (d.run 0 w) with
    | false => rfl
    | true => rw [e2] at ha; exact absurd ⟨h3, ha, by omega⟩ hb
  · exact h w hw h1 (by omega)
theorem NoneK.all {d : Dfa} {k s : Nat} (hg : Good d) (h : NoneK d k s) (hs : s = d.n) : NoneK d (k + 1) 0 := fun w hw h1 h2 => by
  have h0 : 0 < d.n := by have := hg.size; unfold Dfa.n; omega
  have := run_lt hg w 0 h0 hw
  exact h w hw h1 (by omega)
theorem NoneK.end {d : Dfa} {k : Nat} (h : NoneK d k 0) (hk : k = 2 * d.n) : FinW d := fun w hw h1 h2 => h w hw h1 (by omega)
theorem not_noneK {d : Dfa} {k s : Nat} {now : List Int} (hn : AtK d k now) (hs : s < d.n) (hk : k < 2 * d.n) (h1 : now.getD s 0 = 1) (h2 : d.ac s = true) (h3 : d.n ≤ k) : ¬ FinW d := fun hf => by
  obtain ⟨w, hw, hl, hr⟩ := (hn.iff s hs).1 h1
  have := hf w hw (by omega) (by omega)
  rw [hr, h2] at this; cases this
end Go.Proofs.YthlnmcokgfpgmaaDoor

namespace Go.Proofs.YthlnmcokgfpgmaaDoor
open Go.RowKit
set_option linter.unusedVariables false
set_option linter.unusedSimpArgs false

def wayL (L : List Rch) (n : Nat) : List Int := wayP L (L.getD n r0).ln.toNat n
theorem wayL_len (L : List Rch) (n : Nat) : (wayL L n).length = (L.getD n r0).ln.toNat := wayP_len _ _ _
theorem wayL_first {L : List Rch} (h : L[0]? = some r0) : wayL L 0 = [] := by
  unfold wayL
  rw [getD_of_get? h]; rfl
theorem wayL_new {a b : Dfa} {L : List Rch} {i n x : Nat} {r : Rch} (hi : L[i]? = some r) (hr : 0 ≤ r.ln) (hn : L[n]? = some (newP a b r i x)) : wayL L n = wayL L i ++ [(x : Int)] := by
  unfold wayL
  rw [getD_of_get? hn, getD_of_get? hi]
  have h1 : (newP a b r i x).ln.toNat = r.ln.toNat + 1 := by show (r.ln + 1).toNat = _; omega
  rw [h1]
  show wayP L r.ln.toNat (L.getD n r0).fr.toNat ++ [(L.getD n r0).sy] = _
  rw [getD_of_get? hn]; rfl
theorem okP_ln {a b : Dfa} {l : List Rch} (h : OkP a b l) {i : Nat} {r : Rch} (hi : l[i]? = some r) : 0 ≤ r.ln ∧ r.ln ≤ i := h.ln i r hi
def prCells (r : Rch) (u : Value) : List Value := [.int .i64 r.p, .int .i64 r.q, u]
def prL (l : List Rch) (us : List Value) : List Value := (l.zip us).flatMap (fun p => prCells p.1 p.2)
theorem prL_len {l : List Rch} {us : List Value} (h : us.length = l.length) : (prL l us).length = l.length * 3 := by
  have : ∀ ps : List (Rch × Value), (ps.flatMap (fun p => prCells p.1 p.2)).length = ps.length * 3 := fun ps => by
    induction ps with
    | nil => rfl
    | cons p r ih => rw [List.flatMap_cons, List.length_append, ih]; simp [prCells]; omega
  unfold prL
  rw [this, List.length_zip, h, Nat.min_self]
theorem prL_snoc {l : List Rch} {us : List Value} (h : us.length = l.length) (r : Rch) (u : Value) : prL (l ++ [r]) (us ++ [u]) = prL l us ++ prCells r u := by
  unfold prL
  rw [List.zip_append h.symm, List.flatMap_append]; simp
theorem prL_get {l : List Rch} {us : List Value} {i : Nat} {r : Rch} {u : Value} (hr : l[i]? = some r) (hu : us[i]? = some u) : (prL l us)[i * 3]? = some (.int .i64 r.p) ∧ (prL l us)[i * 3 + 1]? = some (.int .i64 r.q) ∧ (prL l us)[i * 3 + 2]? = some u := by
  have key : ∀ (l : List Rch) (us : List Value) (i : Nat), l[i]? = some r → us[i]? = some u → (prL l us)[i * 3]? = some (.int .i64 r.p) ∧ (prL l us)[i * 3 + 1]? = some (.int .i64 r.q) ∧ (prL l us)[i * 3 + 2]? = some u := fun l => by
    induction l with
    | nil => intro us i h; simp at h
    | cons y t ih =>
      intro us i h1 h2
      cases us with
      | nil => simp at h2
      | cons v vs =>
        cases i with
        | zero => simp at h1 h2; subst h1; subst h2; simp [prL, prCells]
        | succ i =>
          have := ih vs i (by simpa using h1) (by simpa using h2)
          rw [show (i + 1) * 3 = i * 3 + 1 + 1 + 1 by omega]
          simpa [prL, prCells] using this
  exact key l us i hr hu
/-- The words of the first pairs. -/
def WQ (L : List Rch) (us : List Value) (W : World) : Prop := ∀ (n : Nat) (u : Value), us[n]? = some u → (∃ c, IntsC W u (wayL L n) c) ∧ (wayL L n = [] → u = .slice none 0 0)
theorem WQ.first {L : List Rch} (h : L[0]? = some r0) (W : World) : WQ L [.slice none 0 0] W := fun n u hu => by
  match n, hu with
  | 0, hu => cases hu; rw [wayL_first h]; exact ⟨⟨0, fit_nil W⟩, fun _ => rfl⟩
  | n + 1, hu => simp at hu
theorem WQ.snoc {L : List Rch} {us : List Value} {W : World} (h : WQ L us W) {u : Value} (hu : ∃ c, IntsC W u (wayL L us.length) c) (h0 : wayL L us.length ≠ []) : WQ L (us ++ [u]) W := fun n x hx => by
  by_cases hn : n < us.length
  · rw [List.getElem?_append_left hn] at hx; exact h n x hx
  · have hl := (List.getElem?_eq_some_iff.1 hx).1
    simp at hl
    obtain rfl : n = us.length := by omega
    rw [List.getElem?_append_right (Nat.le_refl _), Nat.sub_self] at hx
    cases hx
    exact ⟨hu, fun e => absurd e h0⟩
/-- A slice of pairs with their words. -/
def PrC (w : World) (v : Value) (L : List Rch) : Prop := ∃ A c us, v = .slice A L.length c ∧ Cells w A (prL L us) ∧ us.length = L.length ∧ WQ L us w ∧ L.length ≤ lenMax
theorem PrC.ext {w w' : World} {v : Value} {L : List Rch} (h : PrC w v L) (e : Ext w w') : PrC w' v L := by
  obtain ⟨A, c, us, hv, hc, hl, hq, hm⟩ := h
  refine ⟨A, c, us, hv, hc.ext e, hl, fun n u hu => ?_, hm⟩
  obtain ⟨⟨c', h1⟩, h2⟩ := hq n u hu
  exact ⟨⟨c', h1.ext e⟩, h2⟩
theorem PrC.at_ {w : World} {v : Value} {L : List Rch} (h : PrC w v L) {i : Nat} {r : Rch} (hi : L[i]? = some r) : ∃ b o c u, v = .slice (some ⟨b, o, none⟩) L.length c ∧ w.cell? ⟨b, o + i * 3, none⟩ = some (.int .i64 r.p) ∧ w.cell? ⟨b, o + i * 3 + 1, none⟩ = some (.int .i64 r.q) ∧ w.cell? ⟨b, o + i * 3 + 2, none⟩ = some u ∧ (∃ c, IntsC w u (wayL L i) c) ∧ (wayL L i = [] → u = .slice none 0 0) := by
  obtain ⟨A, c, us, rfl, hc, hl, hq, _⟩ := h
  have hil := (List.getElem?_eq_some_iff.1 hi).1
  obtain ⟨b, o, rfl, _, hcc⟩ := hc (by rw [prL_len hl]; omega)
  have hu : us[i]? = some us[i] := List.getElem?_eq_getElem (by omega)
  obtain ⟨h1, h2, h3⟩ := prL_get hi hu
  exact ⟨b, o, c, us[i], rfl, hcc _ _ h1, by rw [Nat.add_assoc]; exact hcc _ _ h2, by rw [Nat.add_assoc]; exact hcc _ _ h3, hq i _ hu⟩
/-- The answer of the definition. -/
def refIncl (a b : Dfa) : Int × List Int :=
  match (pairsL a b).findIdx? (offP a b) with
  | none => (1, [])
  | some n => (0, wayL (pairsL a b) n)
theorem good_none {d : Dfa} (hg : Good d) : Good (noneD d) := by
  have hk := hg.kk
  refine ⟨hg.sy, ⟨Nat.le_refl _, by show 1 ≤ 256; omega⟩, rfl, fun r hr => ?_, fun r hr x hx => ?_⟩
  · rw [List.mem_singleton.1 hr, List.length_replicate]; exact hk.1
  · rw [List.mem_singleton.1 hr] at hx
    rw [(List.mem_replicate.1 hx).2]
    exact ⟨Int.le_refl _, by show (0 : Int) < ((1 : Nat) : Int); omega⟩
theorem incl_small {a b : Dfa} (ha : Good a) (hb : Good b) (hs : a.sy = b.sy) (hn : a.n * b.n ≤ 256) : inclR a b = ((refIncl a b).1 == 1, (refIncl a b).2, 0) := by
  have hk : a.k = b.k := by unfold Dfa.k; rw [hs]
  have hok := okP_all ha hb hk
  have hlen := hok.bound
  unfold inclR
  rw [if_neg (fun h => h (chkL_good ha hb hs)), if_neg (by omega)]
  unfold inclG refIncl
  cases hf : (pairsL a b).findIdx? (offP a b) with
  | none => rfl
  | some n =>
    have hnl : n < (pairsL a b).length := (List.findIdx?_eq_some_iff_getElem.1 hf).1
    have h1 := hok.ln n _ (List.getElem?_eq_getElem hnl)
    have h2 := getD_of_get? (List.getElem?_eq_getElem hnl)
    show (if 256 < ((pairsL a b).getD n r0).ln then _ else _) = _
    rw [if_neg (by rw [h2]; omega)]; rfl
theorem least_law {d : Dfa} (hg : Good d) (hn : d.n ≤ 256) : leastR d = ((refIncl d (noneD d)).2, (refIncl d (noneD d)).1 == 0, 0) := by
  have h := incl_small hg (good_none hg) rfl (by show d.n * 1 ≤ 256; omega)
  unfold leastR
  rw [if_neg (fun h => h ((good_iff d).2 hg)), h]
  unfold refIncl
  cases (pairsL d (noneD d)).findIdx? (offP d (noneD d)) with
  | none => rfl
  | some n => rfl
end Go.Proofs.YthlnmcokgfpgmaaDoor

namespace Go.Proofs.YthlnmcokgfpgmaaDoor
open Go.RowKit Go.Maps
set_option linter.unusedVariables false
set_option linter.unusedSimpArgs false
attribute [local go_sem] Oper.quietV quietV Oper.gives givesV ext_refl_iff ext_alloc_iff ext_drew_iff ext_drewN_iff
theorem pr_info : (Tryd.prog.info? 84).map (fun i => (i.zero, i.size, i.bytes)) = some (some (.agg #[.int .i64 0, .int .i64 0, .slice none 0 0]), 3, 40) := by kernel_rfl
theorem three_cells (a b : Int) (x : Option Addr) (n c : Nat) : ∀ u ∈ [Value.int .i64 a, .int .i64 b, .slice x n c], u.oneCell' = true := by intro u hu; simp at hu; rcases hu with rfl | rfl | rfl <;> rfl
theorem way_done {W1 W : World} {v : Value} {l : List Int} {S : Nat → Prop} {Φ : World → Prop} {L : List Asn} (h : OwnL W1 W (.row 3 1 v l.length (l.map (.int .i64)) :: .any S Φ :: L)) (hl : l.length ≤ 100000) : ∃ S', OwnL W1 W (.any S' (fun W => (∃ c, IntsC W v l c) ∧ Φ W) :: L) := by
  have h1 := h.seal (Φ := fun W => ∃ c, IntsC W v l c) (fun W' hA => by
    have hA : W'.ownsRow W1.heap.size 3 1 v l.length (l.map (.int .i64)) := hA
    exact ints_of_owns hA (by unfold lenMax; omega))
  exact ⟨_, h1.merge⟩
theorem cell_row3 {w W : World} {L : List Asn} (h : OwnL w W L) (k : Nat) {g n c : Nat} {l : List Rch} {us : List Value} (hk : L[k]? = some (.row 84 3 (.slice (some ⟨g, 0, none⟩) n c) n (prL l us))) {i : Nat} {r : Rch} {u : Value} (hr : l[i]? = some r) (hu : us[i]? = some u) :
    W.cell? ⟨g, i * 3, none⟩ = some (.int .i64 r.p) ∧ W.cell? ⟨g, i * 3 + 1, none⟩ = some (.int .i64 r.q) ∧ W.cell? ⟨g, i * 3 + 2, none⟩ = some u := by
  have h1 : W.ownsRow w.heap.size 84 3 (.slice (some ⟨g, 0, none⟩) n c) n (prL l us) := h.get k hk
  obtain ⟨h2, h3, h4⟩ := prL_get hr hu
  have key : ∀ j u, (prL l us)[j]? = some u → W.cell? ⟨g, j, none⟩ = some u := fun j u hj => by
    have := h1.cells (g := g) rfl _ u hj
    rw [Addr.add_lit, Nat.zero_add] at this
    exact this
  exact ⟨key _ _ h2, key _ _ h3, key _ _ h4⟩
theorem int_src {W : World} {uv : Value} {l : List Int} {cu : Nat} (h : IntsC W uv l cu) (h0 : l ≠ []) : ∃ b o, uv = .slice (some ⟨b, o, none⟩) l.length cu ∧ ∀ W', Ext W W' → ∀ (j : Nat) (u : Value), (l.map (Value.int .i64))[j]? = some u → W'.cell? ((⟨b, o, none⟩ : Addr).add j) = some u := by
  obtain ⟨A, rfl, hc, _⟩ := h
  have hl : 0 < l.length := by
    rcases Nat.eq_zero_or_pos l.length with h1 | h1
    · exact absurd (List.eq_nil_of_length_eq_zero h1) h0
    · exact h1
  obtain ⟨b, o, rfl, _, hcc⟩ := hc (by rw [List.length_map]; exact hl)
  refine ⟨b, o, rfl, fun W' e j u hj => ?_⟩
  rw [Addr.add_lit]
  exact e.cell (hcc j u hj)
theorem inP_take (l : List Rch) (t : Nat × Nat) {k : Nat} {z : Rch} (hz : l[k]? = some z) : inP (l.take (k + 1)) t = (inP (l.take k) t || (z.key == t)) := by
  obtain ⟨hl, he⟩ := List.getElem?_eq_some_iff.1 hz
  unfold inP
  rw [List.take_succ_eq_append_getElem hl, List.any_append, he]; simp
theorem key_beq (z : Rch) (p q : Nat) : (z.key == (p, q)) = (((z.p : Int) == (p : Int)) && ((z.q : Int) == (q : Int))) := by
  unfold Rch.key
  rw [Bool.eq_iff_iff]
  simp
  omega
set_option maxRecDepth 100000 in
set_option maxHeartbeats 16000000 in
theorem refPairs_any (w : World) (dv dv' : Value) (a b : Dfa) (hd : DfaV w dv a) (hd' : DfaV w dv' b) (hga : Good a) (hgb : Good b) (hk : a.k = b.k) :
    Calls Tryd.prog 46 #[dv, dv'] w fun e w' => ∃ v, e = .returned v ∧ PrC w' v (pairsL a b) ∧ Ext w w' := by
  obtain ⟨rv, cr, av, ca, rfl, hr, ha⟩ := hd
  obtain ⟨Ar, vr, rfl, _, _, _, _, hrm⟩ := id hr
  obtain ⟨Aa, rfl, hac, _, ham⟩ := id ha
  obtain ⟨rv', cr', av', ca', rfl, hr', ha'⟩ := hd'
  obtain ⟨Ar', vr', rfl, _, _, _, _, hrm'⟩ := id hr'
  obtain ⟨Aa', rfl, hac', _, ham'⟩ := id ha'
  unfold lenMax at hrm ham hrm' ham'
  obtain ⟨i3, hi3, hz3, hs3, hb3⟩ := info_parts int_info
  obtain ⟨i84, hi84, hz84, hs84, hb84⟩ := info_parts pr_info
  have hkk := hga.kk
  have HK := Lib.hid (And.intro hk (And.intro hga hgb))
  have hsy : a.sy = (a.k : Int) := hkk.1.symm
  have hs1 := hga.size
  have hs2 := hgb.size
  have hk1 : 1 ≤ a.k := hkk.2.1
  have hk2 : a.k ≤ 16 := hkk.2.2
  have hbd : ∀ i, (goP a b i).length ≤ 65536 := fun i => by
    have h1 := (okP_go hga hgb hk i).bound
    have h2 : a.n * b.n ≤ 256 * 256 := Nat.mul_le_mul hs1.2 hs2.2
    omega
  have hbr : ∀ i x, i < (goP a b i).length → x ≤ a.k → (rowP a b (goP a b i) i x).length ≤ 65536 := fun i x hi hx => by
    have h1 := ((okP_go hga hgb hk i).row hga hgb hk hi x hx).bound
    have h2 : a.n * b.n ≤ 256 * 256 := Nat.mul_le_mul hs1.2 hs2.2
    omega
  have HBD := Lib.hid hbd
  have HBR := Lib.hid hbr
  have hf0 := (okP_all hga hgb hk).first
  clear hk hga hgb hkk hbd hbr
  rw [hsy]
  clear hsy
  generalize hPL : pairsL a b = PL at *
  have HPL := Lib.hid hPL
  have HF0 := Lib.hid hf0
  clear hPL hf0
  go_enter Tryd.func46, Tryd.ntmps46
  go_upto_region 1 with fail
  refine wp_named ?_
  intro W1 hW1
  have hE1 : Ext w W1 := by rw [hW1]; exact ((Ext.refl _).alloc _).alloc _
  have k0 : ∀ w', Ext W1 w' → w'.cell? ⟨w.heap.size, 0, none⟩ = some (.int .i64 (a.k : Int)) := fun w' h => h.cell (by rw [hW1]; simp [go_sem])
  have k1 : ∀ w', Ext W1 w' → w'.cell? ⟨w.heap.size, 1, none⟩ = some (.slice Ar a.rows.length cr) := fun w' h => h.cell (by rw [hW1]; simp [go_sem])
  have l1 : ∀ w', Ext W1 w' → w'.cell? ⟨w.heap.size + 1, 1, none⟩ = some (.slice Ar' b.rows.length cr') := fun w' h => h.cell (by rw [hW1]; simp [go_sem])
  clear hW1
  generalize w.heap.size = b1 at *
  have hO0 : OwnL W1 (W1.alloc (.cells #[.int .i64 0, .int .i64 0, .slice none 0 0] 84)) [.any (fun _ => False) (WQ PL [.slice none 0 0]), .row 84 3 (.slice (some ⟨W1.heap.size, 0, none⟩) 1 1) 1 (prL [r0] [.slice none 0 0])] := by
    have h1 : Asn.ok W1.heap.size (W1.alloc (.cells #[.int .i64 0, .int .i64 0, .slice none 0 0] 84)) (.row 84 3 (.slice (some ⟨W1.heap.size, 0, none⟩) 1 1) 1 (prL [r0] [.slice none 0 0])) :=
      World.ownsRow_lit (base := W1.heap.size) (e := 84) (size := 3) W1 #[.int .i64 0, .int .i64 0, .slice none 0 0] 1 (Nat.le_refl _) (by unfold maxLen; omega) rfl
    have h2 := (OwnL.nil (Ext.refl W1)).add (alloc_ext W1 (.cells #[.int .i64 0, .int .i64 0, .slice none 0 0] 84)) h1
    exact h2.add (Ext.refl _) (A := .any (fun _ => False) (WQ PL [.slice none 0 0])) ⟨fun b hb => hb.elim, fun w' _ => WQ.first HF0.out w'⟩
  go_upto_region 2 with fail
  generalize W1.heap.size = g0 at *
  refine wp_named ?_
  intro W2 hW2
  rw [← hW2] at hO0
  clear hW2
  go_wp2
  go_loopw [5, 6] (fun ov iv wr => ∃ (i : Nat) (S : Nat → Prop) (us : List Value) (g c : Nat), iv = .int .i64 i ∧ Hid (i ≤ (goP a b i).length) ∧ Hid (us.length = (goP a b i).length) ∧ ov = .slice (some ⟨g, 0, none⟩) (goP a b i).length c ∧ OwnL W1 wr [.any S (WQ PL us), .row 84 3 ov (goP a b i).length (prL (goP a b i) us)]) (fun _ iv _ => 65537 - (intOf iv).toNat)
  case atStart => exact ⟨0, _, _, g0, 1, rfl, Lib.hid (Nat.zero_le _), Lib.hid rfl, rfl, hO0⟩
  case round =>
    clear hO0
    obtain ⟨i, S, us, g, c, rfl, hi, hus, rfl, hO⟩ := hrel
    obtain ⟨W3, hW3⟩ : ∃ W, W = wr := ⟨_, rfl⟩; subst hW3
    have hle := HBD.out i
    by_cases hil : i < (goP a b i).length
    · have hwhole := fun x hx => rowP_whole (a := a) (b := b) HK.out.2.1 HK.out.2.2 HK.out.1 (i := i) (x := x) hil hx
      have hokr := fun x hx => (okP_go (a := a) (b := b) HK.out.2.1 HK.out.2.2 HK.out.1 i).row HK.out.2.1 HK.out.2.2 HK.out.1 hil x hx
      have hgs : goP a b (i + 1) = rowP a b (goP a b i) i a.k := if_pos hil
      have hpre := fun x => rowP_prefix (a := a) (b := b) (goP a b i) i x
      obtain ⟨r, hr0⟩ : ∃ r, (goP a b i)[i]? = some r := ⟨_, List.getElem?_eq_getElem hil⟩
      have hrin := (okP_go (a := a) (b := b) HK.out.2.1 HK.out.2.2 HK.out.1 i).inn r (List.mem_of_getElem? hr0)
      have hbr := fun x hx => HBR.out i x hil hx
      have HWH := Lib.hid hwhole
      have HOK := Lib.hid hokr
      have HGS := Lib.hid hgs
      have HPR := Lib.hid hpre
      have HR0 := Lib.hid hr0
      have HB2 := Lib.hid hbr
      have hilI : (i : Int) < ((goP a b i).length : Int) := by omega
      clear hwhole hokr hgs hpre hr0 hbr
      go_wp2
      go_loopw [5, 7] (fun ov xv wr => ∃ (x : Nat) (S : Nat → Prop) (us : List Value) (g c : Nat), xv = .int .i64 x ∧ x ≤ a.k ∧ Hid (us.length = (rowP a b (goP a b i) i x).length) ∧ ov = .slice (some ⟨g, 0, none⟩) (rowP a b (goP a b i) i x).length c ∧ OwnL W1 wr [.any S (WQ PL us), .row 84 3 ov (rowP a b (goP a b i) i x).length (prL (rowP a b (goP a b i) i x) us)]) (fun _ xv _ => a.k - (intOf xv).toNat)
      case atStart => exact ⟨0, S, us, g, c, rfl, Nat.zero_le _, hus, rfl, hO⟩
      case round =>
        clear hO hilI hle hus
        obtain ⟨x, S, us, g, c, rfl, hx, hus, rfl, hO⟩ := hrel
        obtain ⟨W4, hW4⟩ : ∃ W, W = wr := ⟨_, rfl⟩; subst hW4
        have hle3 := HB2.out x hx
        have kk0 := k0 W4 hO.ext
        by_cases hxl : x < a.k
        · have hsucc : rowP a b (goP a b i) i (x + 1) = addP a b (rowP a b (goP a b i) i x) i x := rfl
          have hr1 : (rowP a b (goP a b i) i x)[i]? = some r := prefix_get? (HPR.out x) HR0.out
          have hil2 : i < (rowP a b (goP a b i) i x).length := (List.getElem?_eq_some_iff.1 hr1).1
          rw [addP_eq hr1] at hsucc
          have hok1 := HOK.out x hx
          have hwh1 := HWH.out x hx
          have hwh2 := HWH.out (x + 1) hxl
          rw [hsucc] at hwh2
          have hst : stepP a b r x = (a.to r.p x, b.to r.q x) := rfl
          have ht1 := HK.out.2.1.to_lt (s := r.p) (x := x) hrin.1 hxl
          have ht2 := HK.out.2.2.to_lt (s := r.q) (x := x) hrin.2 (by have := HK.out.1; omega)
          have hE := hO.ext
          obtain ⟨ba, oa, ba', oa', ca1, hA1, a1, a2⟩ := HK.out.2.1.at_ (hr.ext (hE1.trans hE)) hrin.1 hxl
          obtain ⟨bb, ob, bb', ob', cb1, hA2, b1', b2⟩ := HK.out.2.2.at_ (hr'.ext (hE1.trans hE)) hrin.2 (show x < b.k by have := HK.out.1; omega)
          injection hA1 with hA1
          injection hA2 with hA2
          subst hA1 hA2
          have hul : i < us.length := by rw [hus.out]; exact hil2
          obtain ⟨ui, hui⟩ : ∃ u, us[i]? = some u := ⟨_, List.getElem?_eq_getElem hul⟩
          obtain ⟨c0, c1, c2⟩ := cell_row3 hO 1 rfl hr1 hui
          obtain ⟨⟨cu, hui2⟩, hui0⟩ := hO.know 0 rfl i ui hui
          have hway := wayL_len PL i
          have hlnb : (wayL PL i).length ≤ 65536 := by
            rw [hway]
            have h1 := hok1.ln i r hr1
            have h2 := getD_of_get? (prefix_get? hwh1 hr1)
            rw [HPL.out] at h2
            rw [h2]; omega
          have hwn : inP (rowP a b (goP a b i) i x) (stepP a b r x) = false → wayL PL (rowP a b (goP a b i) i x).length = wayL PL i ++ [(x : Int)] := fun hin => by
            rw [hin] at hwh2
            have h1 : rowP a b (goP a b i) i x ++ [newP a b r i x] <+: pairsL a b := hwh2
            rw [HPL.out] at h1 hwh1
            exact wayL_new (a := a) (b := b) (prefix_get? hwh1 hr1) (hok1.ln i r hr1).1 (prefix_get? h1 (i := (rowP a b (goP a b i) i x).length) (r := newP a b r i x) (by simp))
          have HS := Lib.hid hsucc
          have HST := Lib.hid hst
          have HR1 := Lib.hid hr1
          have HUL := hus
          have HWN := Lib.hid hwn
          have hp1 : r.p < a.rows.length := hrin.1
          have hq1 : r.q < b.rows.length := hrin.2
          have ht1' : a.to r.p x < a.rows.length := ht1
          have ht2' : b.to r.q x < b.rows.length := ht2
          have hle4 := HB2.out (x + 1) hxl
          rw [hsucc] at hle4
          have HL4 := Lib.hid hle4
          clear hwh1 hwh2 hsucc hst hr1 hok1 ht1 ht2 hus hwn hle4 hway hul
          generalize a.to r.p x = p1 at *
          generalize b.to r.q x = q1 at *
          generalize rowP a b (goP a b i) i x = l at *
          generalize hrp : r.p = rp at *
          generalize hrq : r.q = rq at *
          have HRP := Lib.hid (And.intro hrp hrq)
          clear hrp hrq
          generalize hway : wayL PL i = wy at *
          have HWY0 := Lib.hid hway
          clear hway
          have hkI : (x : Int) < (a.k : Int) := by omega
          have hiI : (i : Int) < (l.length : Int) := by omega
          have hpI : (rp : Int) < (a.rows.length : Int) := by omega
          have hqI : (rq : Int) < (b.rows.length : Int) := by omega
          have HKB := Lib.hid HK.out.1
          rw [← HK.out.1] at b1'
          have c0' : ∀ w', Ext W4 w' → w'.cell? ⟨g, i * 3, none⟩ = some (.int .i64 (rp : Int)) := fun w' h => h.cell c0
          have c1' : ∀ w', Ext W4 w' → w'.cell? ⟨g, i * 3 + 1, none⟩ = some (.int .i64 (rq : Int)) := fun w' h => h.cell c1
          have a1 : ∀ w', Ext W4 w' → w'.cell? ⟨ba, oa + rp, none⟩ = some (.slice (some ⟨ba', oa', none⟩) a.k ca1) := fun w' h => h.cell a1
          have a2 : ∀ w', Ext W4 w' → w'.cell? ⟨ba', oa' + x, none⟩ = some (.int .i64 (p1 : Int)) := fun w' h => h.cell a2
          have b1' : ∀ w', Ext W4 w' → w'.cell? ⟨bb, ob + rq, none⟩ = some (.slice (some ⟨bb', ob', none⟩) a.k cb1) := fun w' h => h.cell b1'
          have b2 : ∀ w', Ext W4 w' → w'.cell? ⟨bb', ob' + x, none⟩ = some (.int .i64 (q1 : Int)) := fun w' h => h.cell b2
          have hEE := Ext.refl W4
          have kk1 := k1 W4 hE
          have ll1 := l1 W4 hE
          have HUI := Lib.hid (And.intro hui (And.intro hui2 hui0))
          clear hui hui2 hui0 c0 c1
          go_upto_region 8 with fail
          go_quiet (fail)
          have hOd : OwnL W1 (W4.drewN nq) [.any S (WQ PL us), .row 84 3 (.slice (some ⟨g, 0, none⟩) l.length c) l.length (prL l us)] := hO.trans ((Ext.refl W4).drewN nq)
          have hE45 : Ext W4 (W4.drewN nq) := (Ext.refl W4).drewN nq
          generalize W4.drewN nq = W5 at *
          go_wp2
          go_loop [10, 11] (fun tv kv => ∃ kk : Nat, kv = .int .i64 kk ∧ kk ≤ l.length ∧ tv = .int .i64 (b01 (inP (l.take kk) (p1, q1)))) (fun _ kv => l.length - (intOf kv).toNat)
          case atStart => exact ⟨0, rfl, by omega, rfl⟩
          case round =>
            obtain ⟨kk, rfl, hkk, rfl⟩ := hrel
            by_cases hkl : kk < l.length
            · obtain ⟨z, hz⟩ : ∃ z, l[kk]? = some z := ⟨_, List.getElem?_eq_getElem hkl⟩
              obtain ⟨uk, huk⟩ : ∃ u, us[kk]? = some u := ⟨_, List.getElem?_eq_getElem (by rw [HUL.out]; exact hkl)⟩
              obtain ⟨z0, z1, _⟩ := cell_row3 hOd 1 rfl hz huk
              have ht := inP_take l (p1, q1) hz
              rw [key_beq] at ht
              have HT := Lib.hid ht
              have hkkI : (kk : Int) < (l.length : Int) := by omega
              clear ht hz huk
              generalize z.p = zp at *
              generalize z.q = zq at *
              cases h1 : ((zp : Int) == (p1 : Int)) with
              | false =>
                rw [h1] at HT
                go_wp2
                go_round
                case rel => exact ⟨kk + 1, by go_num, hkl, by rw [HT.out]; simp⟩
                case measure => simp [intOf]; omega
              | true =>
                rw [h1] at HT
                cases h2 : ((zq : Int) == (q1 : Int)) with
                | false =>
                  rw [h2] at HT
                  go_wp2
                  go_round
                  case rel => exact ⟨kk + 1, by go_num, hkl, by rw [HT.out]; simp⟩
                  case measure => simp [intOf]; omega
                | true =>
                  rw [h2] at HT
                  go_wp2
                  go_round
                  case rel => exact ⟨kk + 1, by go_num, hkl, by rw [HT.out]; simp [b01]⟩
                  case measure => simp [intOf]; omega
            · obtain rfl : kk = l.length := by omega
              rw [List.take_length]
              clear c0' c1' a1 a2 b1' b2 kk0 kk1 ll1 hkk hkl
              cases hin : inP l (p1, q1) with
              | true =>
                have hsx : rowP a b (goP a b i) i (x + 1) = l := by rw [HS.out, HST.out, hin]; rfl
                have HF := Lib.hid hsx
                clear hsx hin
                go_wp2
                go_roundw
                case rel => exact ⟨x + 1, S, us, g, c, by go_num, hxl, by rw [HF.out]; exact HUL, by rw [HF.out], by rw [HF.out]; exact hOd⟩
                case measure => simp [intOf]; omega
              | false =>
                have hsx : rowP a b (goP a b i) i (x + 1) = l ++ [newP a b r i x] := by rw [HS.out, HST.out, hin]; rfl
                have hwyx := HWN.out (by rw [HST.out]; exact hin)
                have hll := HL4.out
                rw [HST.out, hin] at hll
                have hll : (l ++ [newP a b r i x]).length ≤ 65536 := hll
                rw [List.length_append] at hll
                have hll : l.length + 1 ≤ 65536 := hll
                have HF := Lib.hid (And.intro hsx hsx)
                have HWY := Lib.hid (And.intro hwyx hlnb)
                obtain ⟨_, _, c2⟩ := cell_row3 hOd 1 rfl HR1.out HUI.out.1
                have hOd2 : OwnL W1 (W5.alloc (.cells #[] 3)) [.row 3 1 (.slice (some ⟨W5.heap.size, 0, none⟩) 0 0) 0 [], .any S (WQ PL us), .row 84 3 (.slice (some ⟨g, 0, none⟩) l.length c) l.length (prL l us)] := hOd.add (alloc_ext _ _) (A := .row 3 1 (.slice (some ⟨W5.heap.size, 0, none⟩) 0 0) 0 []) (own_empty W5 3)
                have hE5 : Ext W4 W5 := hE45
                have hw5 : IntsC W5 ui wy cu := HUI.out.2.1.ext hE5
                have hsz6 := hOd.ext.size
                have hown6 : (W5.alloc (.cells #[] 3)).ownsRow W1.heap.size 3 1 (.slice (some ⟨W5.heap.size, 0, none⟩) 0 0) 0 [] := hOd2.get 0 rfl
                have HO7 := Lib.hid hOd2
                have c2 : ∀ w', Ext W5 w' → w'.cell? ⟨g, i * 3 + 2, none⟩ = some ui := fun w' h => h.cell c2
                have hE55 := Ext.refl W5
                clear hsx hwyx hin hOd2 hOd
                by_cases hwy0 : wy = []
                · have hnv := HUI.out.2.2 hwy0
                  rw [hnv] at c2
                  have HW0 := Lib.hid hwy0
                  clear hwy0 hnv hw5
                  go_upto_region 16 with fail
                  go_wp2_with (first
                    | (at_builtin; refine wpList_append_none rfl _ _ 31 rfl W1.heap.size 3 i3 1 Tryd.underlying31 hi3 (.slice (some ⟨W5.heap.size, 0, none⟩) 0 0) 0 [] rfl hown6 rfl ?_)
                    | (at_builtin; refine wpList_append_own2 rfl _ _ 31 rfl W1.heap.size 3 i3 (.int .i64 0) 1 8 Tryd.underlying31 hi3 hz3 hs3 hb3 rfl (by decide) (.slice (some ⟨W5.heap.size, 0, none⟩) 0 0) 0 [] rfl (World.ownsRow.alloc hown6 _) ⟨_, 0, none⟩ 1 1 [.int .i64 x] rfl rfl (new_cell _ _ _ _ (by simp)) (one_int _) (by unfold maxLen; omega) (by omega) (by simp; omega) ?_; intro v8 w8 hown8 hg8 hb8; obtain ⟨g8, c8, rfl⟩ := ownsRow_pos hown8 (by omega); have hO8 := (HO7.out.trans (alloc_ext _ _)).app 0 rfl hg8 hown8 hb8; have ho9 : w8.ownsRow W1.heap.size 84 3 (.slice (some ⟨g, 0, none⟩) l.length c) l.length (prL l us) := hO8.get 2 rfl; have hs9 := hO8.ext.size; have HO8 := Lib.hid hO8; clear hO8 hb8 hg8 hown8)
                    | (at_builtin; refine wpList_append_own2 rfl _ _ 81 rfl W1.heap.size 84 i84 (.agg #[.int .i64 0, .int .i64 0, .slice none 0 0]) 3 40 Tryd.underlying81 hi84 hz84 hs84 hb84 rfl (by decide) (.slice (some ⟨g, 0, none⟩) l.length c) l.length (prL l us) rfl (World.ownsRow.alloc ho9 _) ⟨w8.heap.size, 0, none⟩ 1 1 [.int .i64 (p1 : Int), .int .i64 (q1 : Int), .slice (some ⟨g8, 0, none⟩) (0 + 1) c8] rfl rfl (cells_new w8 #[.int .i64 (p1 : Int), .int .i64 (q1 : Int), .slice (some ⟨g8, 0, none⟩) (0 + 1) c8] 84) (three_cells _ _ _ _ _) (by unfold maxLen; omega) (by omega) (by simp; omega) ?_; intro v9 w9 hown9 hg9 hb9))
                  have hO9 := (HO8.out.trans (alloc_ext w8 (.cells #[.int .i64 (p1 : Int), .int .i64 (q1 : Int), .slice (some ⟨g8, 0, none⟩) (0 + 1) c8] 84))).app 2 rfl hg9 hown9 hb9
                  have hO9 : OwnL W1 w9 [.row 3 1 (.slice (some ⟨g8, 0, none⟩) (0 + 1) c8) (wy ++ [(x : Int)]).length ((wy ++ [(x : Int)]).map (.int .i64)), .any S (WQ PL us), .row 84 3 v9 (l.length + 1) (prL l us ++ [.int .i64 (p1 : Int), .int .i64 (q1 : Int), .slice (some ⟨g8, 0, none⟩) (0 + 1) c8])] := by
                    rw [show (wy ++ [(x : Int)]).length = 0 + 1 by rw [HW0.out]; rfl, show (wy ++ [(x : Int)]).map (Value.int .i64) = [] ++ [.int .i64 (x : Int)] by rw [HW0.out]; rfl]
                    exact hO9
                  obtain ⟨S2, hO10⟩ := way_done hO9 (by have := HWY.out.2; simp; omega)
                  have hO11 := hO10.weaken (Φ' := WQ PL (us ++ [.slice (some ⟨g8, 0, none⟩) (0 + 1) c8])) (fun W h => h.2.snoc (by rw [HUL.out, HWY.out.1]; exact h.1) (by rw [HUL.out, HWY.out.1]; simp))
                  have hln2 : (l ++ [newP a b r i x]).length = l.length + 1 := by simp
                  have hfl : prL (l ++ [newP a b r i x]) (us ++ [.slice (some ⟨g8, 0, none⟩) (0 + 1) c8]) = prL l us ++ [.int .i64 (p1 : Int), .int .i64 (q1 : Int), .slice (some ⟨g8, 0, none⟩) (0 + 1) c8] := by
                    rw [prL_snoc HUL.out]
                    unfold prCells newP
                    rw [HST.out]
                  have HO11 := Lib.hid hO11
                  clear hO11 hO10 hO9
                  go_roundw
                  case rel =>
                    obtain ⟨g9, c9, hv9⟩ := ownsRow_pos hown9 (by omega)
                    refine ⟨x + 1, S2, us ++ [.slice (some ⟨g8, 0, none⟩) (0 + 1) c8], g9, c9, by go_num, hxl, ?_, ?_, ?_⟩
                    · rw [HF.out.1, hln2]; exact Lib.hid (by rw [List.length_append, HUL.out]; rfl)
                    · rw [HF.out.1, hln2]; exact hv9
                    · rw [HF.out.1, hln2, hfl]; exact HO11.out
                  case measure => simp [intOf]; omega
                · obtain ⟨bs, os, hsv, hsn⟩ := int_src hw5 hwy0
                  rw [hsv] at c2
                  have HSN := Lib.hid hsn
                  have HW0 := Lib.hid hwy0
                  have hwb := hlnb
                  clear hwy0 hsv hw5 hsn
                  go_upto_region 16 with fail
                  go_wp2_with (first
                    | (at_builtin; refine wpList_append_own2 rfl _ _ 31 rfl W1.heap.size 3 i3 (.int .i64 0) 1 8 Tryd.underlying31 hi3 hz3 hs3 hb3 rfl (by decide) (.slice (some ⟨W5.heap.size, 0, none⟩) 0 0) 0 [] rfl hown6 ⟨bs, os, none⟩ wy.length cu (wy.map (.int .i64)) rfl (by simp) (HSN.out _ (alloc_ext _ _)) (all_ints _) (by unfold maxLen; omega) (by omega) (by simp; omega) ?_; intro v7 w7 hown7' hg7 hb7; rw [Nat.zero_add, List.nil_append] at hown7'; have hO7 := HO7.out.app 0 rfl hg7 hown7' hb7; obtain ⟨g7, c7, rfl⟩ := ownsRow_pos hown7' (by cases wy with | nil => exact absurd rfl HW0.out | cons a r => simp); have hs7 := hO7.ext.size; have HO7b := Lib.hid hO7; clear hO7 hb7 hg7)
                    | (at_builtin; refine wpList_append_own2 rfl _ _ 31 rfl W1.heap.size 3 i3 (.int .i64 0) 1 8 Tryd.underlying31 hi3 hz3 hs3 hb3 rfl (by decide) (.slice (some ⟨g7, 0, none⟩) wy.length c7) wy.length (wy.map (.int .i64)) rfl (World.ownsRow.alloc hown7' _) ⟨_, 0, none⟩ 1 1 [.int .i64 x] rfl rfl (new_cell _ _ _ _ (by simp)) (one_int _) (by unfold maxLen; omega) (by omega) (by simp; omega) ?_; intro v8 w8 hown8 hg8 hb8; obtain ⟨g8, c8, rfl⟩ := ownsRow_pos hown8 (by omega); have hO8 := (HO7b.out.trans (alloc_ext _ _)).app 0 rfl hg8 hown8 hb8; have ho9 : w8.ownsRow W1.heap.size 84 3 (.slice (some ⟨g, 0, none⟩) l.length c) l.length (prL l us) := hO8.get 2 rfl; have hs9 := hO8.ext.size; have HO8 := Lib.hid hO8; clear hO8 hb8 hg8 hown8)
                    | (at_builtin; refine wpList_append_own2 rfl _ _ 81 rfl W1.heap.size 84 i84 (.agg #[.int .i64 0, .int .i64 0, .slice none 0 0]) 3 40 Tryd.underlying81 hi84 hz84 hs84 hb84 rfl (by decide) (.slice (some ⟨g, 0, none⟩) l.length c) l.length (prL l us) rfl (World.ownsRow.alloc ho9 _) ⟨w8.heap.size, 0, none⟩ 1 1 [.int .i64 (p1 : Int), .int .i64 (q1 : Int), .slice (some ⟨g8, 0, none⟩) (wy.length + 1) c8] rfl rfl (cells_new w8 #[.int .i64 (p1 : Int), .int .i64 (q1 : Int), .slice (some ⟨g8, 0, none⟩) (wy.length + 1) c8] 84) (three_cells _ _ _ _ _) (by unfold maxLen; omega) (by omega) (by simp; omega) ?_; intro v9 w9 hown9 hg9 hb9))
                  have hO9 := (HO8.out.trans (alloc_ext w8 (.cells #[.int .i64 (p1 : Int), .int .i64 (q1 : Int), .slice (some ⟨g8, 0, none⟩) (wy.length + 1) c8] 84))).app 2 rfl hg9 hown9 hb9
                  have hO9 : OwnL W1 w9 [.row 3 1 (.slice (some ⟨g8, 0, none⟩) (wy.length + 1) c8) (wy ++ [(x : Int)]).length ((wy ++ [(x : Int)]).map (.int .i64)), .any S (WQ PL us), .row 84 3 v9 (l.length + 1) (prL l us ++ [.int .i64 (p1 : Int), .int .i64 (q1 : Int), .slice (some ⟨g8, 0, none⟩) (wy.length + 1) c8])] := by
                    rw [show (wy ++ [(x : Int)]).length = wy.length + 1 by simp, show (wy ++ [(x : Int)]).map (Value.int .i64) = wy.map (.int .i64) ++ [.int .i64 (x : Int)] by simp]
                    exact hO9
                  obtain ⟨S2, hO10⟩ := way_done hO9 (by have := HWY.out.2; simp; omega)
                  have hO11 := hO10.weaken (Φ' := WQ PL (us ++ [.slice (some ⟨g8, 0, none⟩) (wy.length + 1) c8])) (fun W h => h.2.snoc (by rw [HUL.out, HWY.out.1]; exact h.1) (by rw [HUL.out, HWY.out.1]; simp))
                  have hln2 : (l ++ [newP a b r i x]).length = l.length + 1 := by simp
                  have hfl : prL (l ++ [newP a b r i x]) (us ++ [.slice (some ⟨g8, 0, none⟩) (wy.length + 1) c8]) = prL l us ++ [.int .i64 (p1 : Int), .int .i64 (q1 : Int), .slice (some ⟨g8, 0, none⟩) (wy.length + 1) c8] := by
                    rw [prL_snoc HUL.out]
                    unfold prCells newP
                    rw [HST.out]
                  have HO11 := Lib.hid hO11
                  clear hO11 hO10 hO9
                  go_roundw
                  case rel =>
                    obtain ⟨g9, c9, hv9⟩ := ownsRow_pos hown9 (by omega)
                    refine ⟨x + 1, S2, us ++ [.slice (some ⟨g8, 0, none⟩) (wy.length + 1) c8], g9, c9, by go_num, hxl, ?_, ?_, ?_⟩
                    · rw [HF.out.1, hln2]; exact Lib.hid (by rw [List.length_append, HUL.out]; rfl)
                    · rw [HF.out.1, hln2]; exact hv9
                    · rw [HF.out.1, hln2, hfl]; exact HO11.out
                  case measure => simp [intOf]; omega
        · obtain rfl : x = a.k := by omega
          have hle5 := HBD.out i
          have hi5 : i < 65536 := by omega
          go_wp2
          go_roundw
          case rel =>
            refine ⟨i + 1, S, us, g, c, by go_num, ?_, ?_, ?_, ?_⟩
            · rw [HGS.out]
              refine Lib.hid ?_
              have h1 := (HPR.out a.k).length_le
              exact Nat.le_trans hil h1
            · rw [HGS.out]; exact hus
            · rw [HGS.out]
            · rw [HGS.out]; exact hO
          case measure => have := HBD.out i; simp [intOf]; omega
    · have hie : i = (goP a b i).length := by have := hi.out; omega
      have hgw := goP_whole (a := a) (b := b) HK.out.2.1 HK.out.2.2 HK.out.1 hie
      rw [HPL.out] at hgw
      have hnot : ¬ (i : Int) < ((goP a b i).length : Int) := by omega
      have hls : W3.ownsRow W1.heap.size 84 3 (.slice (some ⟨g, 0, none⟩) (goP a b i).length c) (goP a b i).length (prL (goP a b i) us) := hO.get 1 rfl
      have hwq := hO.know 0 rfl
      have hpc : PrC W3 (.slice (some ⟨g, 0, none⟩) (goP a b i).length c) PL := by
        obtain ⟨A, c', hv, _, hc⟩ := cells_of_owns hls
        injection hv with hv1 hv2 hv3
        subst hv1 hv3
        rw [hgw] at hc hus hle ⊢
        exact ⟨_, _, us, rfl, hc, hus.out, hwq, by unfold lenMax; omega⟩
      have HF := Lib.hid (And.intro hpc (hE1.trans hO.ext))
      clear hie hls hwq hpc hO hgw
      go_wp2
      go_ret
      exact ⟨_, rfl, HF.out.1, HF.out.2⟩
end Go.Proofs.YthlnmcokgfpgmaaDoor

namespace Go.Proofs.YthlnmcokgfpgmaaDoor
open Go.RowKit Go.Maps
set_option linter.unusedVariables false
set_option linter.unusedSimpArgs false
attribute [local go_sem] Oper.quietV quietV Oper.gives givesV ext_refl_iff ext_alloc_iff ext_drew_iff ext_drewN_iff
def RInP (a b : Dfa) (w : World) (e : Ending) (w' : World) : Prop := ∃ u c, e = .returned (.tuple #[.int .i64 (refIncl a b).1, u]) ∧ IntsC w' u (refIncl a b).2 c ∧ Ext w w'
set_option maxRecDepth 100000 in
set_option maxHeartbeats 8000000 in
theorem refIncl_any (w : World) (dv dv' : Value) (a b : Dfa) (hd : DfaV w dv a) (hd' : DfaV w dv' b) (hga : Good a) (hgb : Good b) (hk : a.k = b.k) : Calls Tryd.prog 15 #[dv, dv'] w (RInP a b w) := by
  obtain ⟨rv, cr, av, ca, rfl, hr, ha⟩ := id hd
  obtain ⟨Ar, vr, rfl, _, _, _, _, hrm⟩ := id hr
  obtain ⟨Aa, rfl, hac, _, ham⟩ := id ha
  obtain ⟨rv', cr', av', ca', rfl, hr', ha'⟩ := id hd'
  obtain ⟨Ar', vr', rfl, _, _, _, _, hrm'⟩ := id hr'
  obtain ⟨Aa', rfl, hac', _, ham'⟩ := id ha'
  unfold lenMax at hrm ham hrm' ham'
  have hokL := okP_all hga hgb hk
  have HR : Hid (refIncl a b = match (pairsL a b).findIdx? (offP a b) with | none => (1, []) | some n => (0, wayL (pairsL a b) n)) := rfl
  go_enter Tryd.func15, Tryd.ntmps15
  go_upto_region 1 with fail
  refine wp_named ?_
  intro W1 hW1
  have hE1 : Ext w W1 := by rw [hW1]; exact ((Ext.refl _).alloc _).alloc _
  have k0 : ∀ w', Ext W1 w' → w'.cell? ⟨w.heap.size, 0, none⟩ = some (.int .i64 a.sy) := fun w' h => h.cell (by rw [hW1]; simp [go_sem])
  have k1 : ∀ w', Ext W1 w' → w'.cell? ⟨w.heap.size, 1, none⟩ = some (.slice Ar a.rows.length cr) := fun w' h => h.cell (by rw [hW1]; simp [go_sem])
  have k2 : ∀ w', Ext W1 w' → w'.cell? ⟨w.heap.size, 2, none⟩ = some (.slice Aa a.acc.length ca) := fun w' h => h.cell (by rw [hW1]; simp [go_sem])
  have l0 : ∀ w', Ext W1 w' → w'.cell? ⟨w.heap.size + 1, 0, none⟩ = some (.int .i64 b.sy) := fun w' h => h.cell (by rw [hW1]; simp [go_sem])
  have l1 : ∀ w', Ext W1 w' → w'.cell? ⟨w.heap.size + 1, 1, none⟩ = some (.slice Ar' b.rows.length cr') := fun w' h => h.cell (by rw [hW1]; simp [go_sem])
  have l2 : ∀ w', Ext W1 w' → w'.cell? ⟨w.heap.size + 1, 2, none⟩ = some (.slice Aa' b.acc.length ca') := fun w' h => h.cell (by rw [hW1]; simp [go_sem])
  clear hW1
  have hE0 := Ext.refl W1
  have hc1 := refPairs_any W1 _ _ a b (hd.ext hE1) (hd'.ext hE1) hga hgb hk
  have HG := Lib.hid (And.intro hga (And.intro hgb (And.intro hk hokL)))
  clear hga hgb hk hokL hd hd' hr hr' ha ha'
  generalize pairsL a b = L at *
  go_upto_region 2 with ((with_reducible refine hc1.mono ?_); rintro e w2 ⟨lv, rfl, hp, e2⟩)
  obtain ⟨AL, cL, us, rfl, _, _, _, hlm⟩ := id hp
  unfold lenMax at hlm
  have HP := Lib.hid hp
  clear hc1 hp
  go_wp2
  go_loopw [7] (fun iv wr => ∃ n : Nat, iv = .int .i64 n ∧ n ≤ L.length ∧ Hid ((L.take n).findIdx? (offP a b) = none) ∧ Ext w2 wr) (fun iv _ => L.length - (intOf iv).toNat)
  case atStart => exact ⟨0, rfl, Nat.zero_le _, Lib.hid (by simp), Ext.refl _⟩
  case round =>
    obtain ⟨n, rfl, hn, hnone, hE⟩ := hrel
    obtain ⟨W3, hW3⟩ : ∃ W, W = wr := ⟨_, rfl⟩; subst hW3
    by_cases hnl : n < L.length
    · obtain ⟨r, hr0⟩ : ∃ r, L[n]? = some r := ⟨_, List.getElem?_eq_getElem hnl⟩
      have hin := HG.out.2.2.2.inn r (List.mem_of_getElem? hr0)
      have hE3 : Ext W1 W3 := e2.trans hE
      obtain ⟨bL, oL, cL', ui, hAL, c0, c1, c2, ⟨cu, hui⟩, _⟩ := (HP.out.ext hE).at_ hr0
      injection hAL with hAL _ hCL
      subst hAL hCL
      obtain ⟨ba, oa, hAa, ca0⟩ := HG.out.1.acc_at (hac.ext (hE1.trans hE3)) hin.1
      obtain ⟨bb, ob, hAb, cb0⟩ := HG.out.2.1.acc_at (hac'.ext (hE1.trans hE3)) hin.2
      subst hAa hAb
      have hft := findIdx?_take hr0 hnone.out
      have hoff : offP a b r = (a.ac r.p && !b.ac r.q) := rfl
      have hpa : (r.p : Int) < (a.acc.length : Int) := by have := hin.1; rw [HG.out.1.acc]; unfold Dfa.n at this; omega
      have hqb : (r.q : Int) < (b.acc.length : Int) := by have := hin.2; rw [HG.out.2.1.acc]; unfold Dfa.n at this; omega
      rw [hoff] at hft
      have HFT := Lib.hid (And.intro hft (And.intro hr0 hui))
      clear hft hr0 hin hoff hui hnone
      have hnI : (n : Int) < (L.length : Int) := by omega
      have kk2 := fun w' (h : Ext W3 w') => k2 w' (hE3.trans h)
      have ll2 := fun w' (h : Ext W3 w') => l2 w' (hE3.trans h)
      have ca0 := fun w' (h : Ext W3 w') => h.cell ca0
      have cb0 := fun w' (h : Ext W3 w') => h.cell cb0
      have c0 := fun w' (h : Ext W3 w') => h.cell c0
      have c1 := fun w' (h : Ext W3 w') => h.cell c1
      have c2 := fun w' (h : Ext W3 w') => h.cell c2
      have hE30 := Ext.refl W3
      generalize r.p = rp at *
      generalize r.q = rq at *
      generalize hra : a.ac rp = xa at *
      generalize hrb : b.ac rq = xb at *
      clear hra hrb
      cases xa with
      | false =>
        go_upto_region 5 with fail
        go_quiet (fail)
        go_wp2
        go_roundw
        case rel => exact ⟨n + 1, by go_num, by omega, HFT.out.1, hE.drewN _⟩
        case measure => simp [intOf]; omega
      | true =>
        cases xb with
        | true =>
          go_upto_region 5 with fail
          go_quiet (fail)
          go_wp2
          go_roundw
          case rel => exact ⟨n + 1, by go_num, by omega, HFT.out.1, hE.drewN _⟩
          case measure => simp [intOf]; omega
        | false =>
          go_upto_region 5 with fail
          go_quiet (fail)
          have c2 := fun w' (h : Ext (W3.drewN nq) w') => c2 w' (((Ext.refl W3).drewN nq).trans h)
          have hE31 := Ext.refl (W3.drewN nq)
          go_upto_region 6 with fail
          go_quiet (fail)
          have HRR : Hid (refIncl a b = (0, wayL L n)) := by
            show _ = _
            rw [HR.out, findIdx?_found HFT.out.1]
          go_wp2
          go_ret2
          rw [RInP, HRR.out]
          refine ⟨_, cu, rfl, HFT.out.2.2.ext ?_, (hE1.trans (e2.trans hE)).trans ?_⟩ <;> first | exact (Ext.refl W3).drewN _ | exact ((Ext.refl W3).drewN _).drewN _ | exact ((Ext.refl W3).drewN _).drew
    · have HRR : Hid (refIncl a b = (1, [])) := by
        show _ = _
        have h := hnone.out
        rw [List.take_of_length_le (by omega)] at h
        rw [HR.out, h]
      go_wp2
      go_ret2
      rw [RInP, HRR.out]
      exact ⟨_, 0, rfl, fit_nil _, hE1.trans (e2.trans hE)⟩
end Go.Proofs.YthlnmcokgfpgmaaDoor
