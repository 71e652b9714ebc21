/- Automata without two alike states, numbered by their words: one for each set of words. Plain lists. Which states are told apart: the table, and its rounds. Plain lists. ref23.Apart 61. One state of each class, in the order of the least words. Plain lists. ref23.Minimal 43. ref23.Minimal 43: the whole. -/
import Derived.Test.YthlnmcokgfpgmaaDoorZC
import Derived.Test.YthlnmcokgfpgmaaDoorZB
import Derived.Test.YthlnmcokgfpgmaaDoorZI
namespace Go.Proofs.YthlnmcokgfpgmaaDoor
open Go.RowKit
set_option linter.unusedVariables false
set_option linter.unusedSimpArgs false

/-- From two states the same words are accepted. -/
def Like (a : Dfa) (s : Nat) (b : Dfa) (t : Nat) : Prop := ∀ w, okW a.k w → a.ac (a.run s w) = b.ac (b.run t w)
theorem Like.refl (a : Dfa) (s : Nat) : Like a s a s := fun _ _ => rfl
theorem Like.symm {a b : Dfa} {s t : Nat} (hk : a.k = b.k) (h : Like a s b t) : Like b t a s := fun w hw => (h w (hk ▸ hw)).symm
theorem Like.trans {a b c : Dfa} {s t u : Nat} (hk : a.k = b.k) (h : Like a s b t) (h' : Like b t c u) : Like a s c u := fun w hw => (h w hw).trans (h' w (hk ▸ hw))
theorem Like.step {a b : Dfa} {s t x : Nat} (hx : x < a.k) (h : Like a s b t) : Like a (a.to s x) b (b.to t x) := fun w hw => h (x :: w) (fun y hy => by
  rcases List.mem_cons.1 hy with rfl | hy
  · exact hx
  · exact hw y hy)
structure Canon (d : Dfa) : Prop where
  good : Good d
  one : ∀ s t, s < d.n → t < d.n → Like d s d t → s = t
  ord : ∀ t, 0 < t → t < d.n → ∃ s x, s < t ∧ x < d.k ∧ d.to s x = t ∧ ∀ s' x', x' < d.k → (s' < s ∨ s' = s ∧ x' < x) → d.to s' x' < t
theorem canon_like {a b : Dfa} (ha : Canon a) (hb : Canon b) (hk : a.k = b.k) (h0 : Like a 0 b 0) : ∀ t, t < a.n → t < b.n ∧ Like a t b t := by
  intro t
  induction t using Nat.strongRecOn with
  | _ t ih =>
    intro ht
    rcases Nat.eq_zero_or_pos t with rfl | hp
    · exact ⟨by have := hb.good.size; unfold Dfa.n; omega, h0⟩
    obtain ⟨s, x, hst, hx, hto, hlt⟩ := ha.ord t hp ht
    obtain ⟨hsb, hls⟩ := ih s hst (by omega)
    have hl1 : Like a t b (b.to s x) := by have := hls.step hx; rwa [hto] at this
    have hub : b.to s x < b.n := hb.good.to_lt hsb (by omega)
    rcases Nat.lt_trichotomy (b.to s x) t with hu | hu | hu
    · exfalso
      obtain ⟨_, h2⟩ := ih _ hu (by omega)
      have := ha.one t (b.to s x) ht (by omega) (hl1.trans hk (h2.symm hk))
      omega
    · rw [hu] at hl1 hub
      exact ⟨hub, hl1⟩
    · exfalso
      obtain ⟨s2, x2, hst2, hx2, hto2, hlt2⟩ := hb.ord t hp (by omega)
      have hbef : s2 < s ∨ s2 = s ∧ x2 < x := by
        rcases Nat.lt_trichotomy s2 s with h | h | h
        · exact .inl h
        · rcases Nat.lt_trichotomy x2 x with h' | h' | h'
          · exact .inr ⟨h, h'⟩
          · subst h h'; omega
          · have := hlt2 s x (by omega) (.inr ⟨h.symm, h'⟩); omega
        · have := hlt2 s x (by omega) (.inl h); omega
      have hv := hlt s2 x2 (by omega) hbef
      have hs2 : s2 < t := by omega
      obtain ⟨hs2b, hl2⟩ := ih s2 hs2 (by omega)
      have hl3 : Like a (a.to s2 x2) b t := by have := hl2.step (x := x2) (by omega); rwa [hto2] at this
      obtain ⟨hvb, hl4⟩ := ih _ hv (by omega)
      have := hb.one t (a.to s2 x2) (by omega) hvb ((hl3.symm hk).trans hk.symm hl4)
      omega
theorem canon_eq {a b : Dfa} (ha : Canon a) (hb : Canon b) (hk : a.k = b.k) (h0 : Like a 0 b 0) : a = b := by
  have h1 := canon_like ha hb hk h0
  have h2 := canon_like hb ha hk.symm (h0.symm hk)
  have hn : a.n = b.n := by
    rcases Nat.lt_trichotomy a.n b.n with h | h | h
    · have := (h2 a.n h).1; omega
    · exact h
    · have := (h1 b.n h).1; omega
  have hto : ∀ s x, s < a.n → x < a.k → a.to s x = b.to s x := fun s x hs hx => by
    have l1 : Like a (a.to s x) b (b.to s x) := (h1 s hs).2.step hx
    have hu : b.to s x < a.n := by rw [hn]; exact hb.good.to_lt (by omega) (by omega)
    exact ha.one _ _ (ha.good.to_lt hs hx) hu (l1.trans hk ((h1 _ hu).2.symm hk))
  have hac : ∀ s, s < a.n → a.ac s = b.ac s := fun s hs => (h1 s hs).2 [] (fun _ h => by cases h)
  have hsy : a.sy = b.sy := by have := ha.good.kk; have := hb.good.kk; omega
  have hr : a.rows = b.rows := by
    refine List.ext_getElem hn fun i hi hi' => ?_
    refine List.ext_getElem (by rw [ha.good.row hi, hb.good.row hi', hk]) fun x hx hx' => ?_
    rw [(ha.good.cell hi hx).1, (hb.good.cell hi' hx').1, hto i x hi (by rw [← ha.good.row hi]; exact hx)]
  have hc : a.acc = b.acc := by
    refine List.ext_getElem (by rw [ha.good.acc, hb.good.acc]; exact hn) fun i hi hi' => ?_
    have h3 : i < a.rows.length := by rw [← ha.good.acc]; exact hi
    rw [ha.good.ac_eq h3, hb.good.ac_eq (by rw [← hr]; exact h3)]
    exact hac i h3
  cases a; cases b
  simp only at hsy hr hc
  subst hsy hr hc
  rfl
end Go.Proofs.YthlnmcokgfpgmaaDoor

namespace Go.Proofs.YthlnmcokgfpgmaaDoor
open Go.RowKit
set_option linter.unusedVariables false
set_option linter.unusedSimpArgs false

def mAt (m : List (List Int)) (s t : Nat) : Int := (m.getD s []).getD t 0
def setM (m : List (List Int)) (s t : Nat) : List (List Int) := m.set s ((m.getD s []).set t 1)
def zR (r : List Int) : Nat := r.countP (fun x => x == 0)
def zerosM (m : List (List Int)) : Nat := (m.map zR).sum
theorem zR_set : ∀ (r : List Int) (t : Nat), r[t]? = some 0 → zR (r.set t 1) + 1 = zR r
  | [], t, h => by simp at h
  | y :: r, 0, h => by simp at h; subst h; simp [zR]
  | y :: r, t + 1, h => by
    have := zR_set r t (by simpa using h)
    unfold zR at *
    rw [List.set_cons_succ, List.countP_cons, List.countP_cons]; omega
theorem zerosM_set : ∀ (m : List (List Int)) (s : Nat) (r r' : List Int), m[s]? = some r → zR r' + 1 = zR r → zerosM (m.set s r') + 1 = zerosM m
  | [], s, r, r', h, _ => by simp at h
  | y :: m, 0, r, r', h, hz => by simp at h; subst h; simp [zerosM]; omega
  | y :: m, s + 1, r, r', h, hz => by
    have := zerosM_set m s r r' (by simpa using h) hz
    unfold zerosM at *
    rw [List.set_cons_succ]
    simp only [List.map_cons, List.sum_cons]; omega
structure SoundM (d : Dfa) (m : List (List Int)) : Prop where
  len : m.length = d.n
  row : ∀ r ∈ m, r.length = d.n
  val : ∀ s t, mAt m s t = 0 ∨ mAt m s t = 1
  acc : ∀ s t, s < d.n → t < d.n → d.ac s ≠ d.ac t → mAt m s t = 1
  dist : ∀ s t, s < d.n → t < d.n → mAt m s t = 1 → ¬ Like d s d t
/-- The table is done. -/
structure ApartOk (d : Dfa) (m : List (List Int)) : Prop where
  len : m.length = d.n
  row : ∀ r ∈ m, r.length = d.n
  val : ∀ s t, mAt m s t = 0 ∨ mAt m s t = 1
  iff : ∀ s t, s < d.n → t < d.n → (mAt m s t = 0 ↔ Like d s d t)
theorem getM_row {m : List (List Int)} {s : Nat} (h : s < m.length) : m.getD s [] = m[s] := by rw [List.getD_eq_getElem?_getD, List.getElem?_eq_getElem h]; rfl
theorem mAt_row {m : List (List Int)} {s t : Nat} {r : List Int} {z : Int} (h : m[s]? = some r) (hz : r[t]? = some z) : mAt m s t = z := by
  unfold mAt
  rw [show m.getD s [] = r by rw [List.getD_eq_getElem?_getD, h]; rfl, List.getD_eq_getElem?_getD, hz]; rfl
theorem mAt_set {m : List (List Int)} {s t : Nat} (hs : s < m.length) (ht : t < (m.getD s []).length) (s' t' : Nat) : mAt (setM m s t) s' t' = if s' = s ∧ t' = t then 1 else mAt m s' t' := by
  unfold mAt setM
  by_cases h : s' = s
  · subst h
    have h1 : (m.set s' ((m.getD s' []).set t 1)).getD s' [] = (m.getD s' []).set t 1 := by
      rw [List.getD_eq_getElem?_getD, List.getElem?_set_self hs]; rfl
    rw [h1]
    by_cases h2 : t' = t
    · subst h2
      rw [if_pos ⟨rfl, rfl⟩, List.getD_eq_getElem?_getD, List.getElem?_set_self ht]; rfl
    · rw [if_neg (fun h => h2 h.2), List.getD_eq_getElem?_getD, List.getElem?_set_ne (fun e => h2 e.symm), ← List.getD_eq_getElem?_getD]
  · rw [if_neg (fun h' => h h'.1)]
    have h1 : (m.set s ((m.getD s []).set t 1)).getD s' [] = m.getD s' [] := by
      rw [List.getD_eq_getElem?_getD, List.getElem?_set_ne (fun e => h e.symm), ← List.getD_eq_getElem?_getD]
    rw [h1]
theorem SoundM.rlen {d : Dfa} {m : List (List Int)} (h : SoundM d m) {s : Nat} (hs : s < d.n) : (m.getD s []).length = d.n := by
  have hs' : s < m.length := by rw [h.len]; exact hs
  rw [getM_row hs']; exact h.row _ (List.getElem_mem hs')
theorem SoundM.set {d : Dfa} {m : List (List Int)} (h : SoundM d m) {s t x : Nat} (hs : s < d.n) (ht : t < d.n) (hx : x < d.k) (h1 : d.to s x < d.n) (h2 : d.to t x < d.n) (hm : mAt m (d.to s x) (d.to t x) = 1) : SoundM d (setM m s t) := by
  have hsl : s < m.length := by rw [h.len]; exact hs
  have htl : t < (m.getD s []).length := by rw [h.rlen hs]; exact ht
  refine ⟨by unfold setM; rw [List.length_set]; exact h.len, fun r hr => ?_, fun s' t' => ?_, fun s' t' hs' ht' ha => ?_, fun s' t' hs' ht' h1' => ?_⟩
  · unfold setM at hr
    rcases List.mem_or_eq_of_mem_set hr with hr | rfl
    · exact h.row r hr
    · rw [List.length_set]; exact h.rlen hs
  · rw [mAt_set hsl htl]; split
    · exact .inr rfl
    · exact h.val s' t'
  · rw [mAt_set hsl htl]; split
    · rfl
    · exact h.acc s' t' hs' ht' ha
  · rw [mAt_set hsl htl] at h1'
    split at h1'
    · rename_i he
      obtain ⟨rfl, rfl⟩ := he
      exact fun hl => h.dist _ _ h1 h2 hm (hl.step hx)
    · exact h.dist s' t' hs' ht' h1'
theorem SoundM.zeros {d : Dfa} {m : List (List Int)} (h : SoundM d m) {s t : Nat} (hs : s < d.n) (ht : t < d.n) (hz : mAt m s t = 0) : zerosM (setM m s t) + 1 = zerosM m := by
  have hsl : s < m.length := by rw [h.len]; exact hs
  have htl : t < (m.getD s []).length := by rw [h.rlen hs]; exact ht
  unfold setM
  refine zerosM_set m s (m.getD s []) _ (by rw [getM_row hsl]; exact List.getElem?_eq_getElem hsl) (zR_set _ t ?_)
  unfold mAt at hz
  rw [List.getD_eq_getElem?_getD, List.getElem?_eq_getElem htl] at hz
  rw [List.getElem?_eq_getElem htl]; exact congrArg some hz
structure PassM (d : Dfa) (m0 m : List (List Int)) (b : Bool) (s t x : Nat) : Prop where
  sound : SoundM d m
  le : zerosM m ≤ zerosM m0
  lt : b = true → zerosM m < zerosM m0
  same : b = false → m = m0 ∧ ∀ s' t' x', s' < d.n → t' < d.n → x' < d.k → (s' < s ∨ s' = s ∧ (t' < t ∨ t' = t ∧ x' < x)) → mAt m0 s' t' = 0 → mAt m0 (d.to s' x') (d.to t' x') ≠ 1
theorem PassM.start {d : Dfa} {m : List (List Int)} (h : SoundM d m) : PassM d m m false 0 0 0 :=
  ⟨h, Nat.le_refl _, (fun h => by cases h), fun _ => ⟨rfl, fun s' t' x' _ _ _ h => by omega⟩⟩
theorem PassM.keep {d : Dfa} {m0 m : List (List Int)} {b : Bool} {s t x : Nat} (h : PassM d m0 m b s t x) (hn : mAt m (d.to s x) (d.to t x) ≠ 1) : PassM d m0 m b s t (x + 1) :=
  ⟨h.sound, h.le, h.lt, fun hb => by
    obtain ⟨h1, h2⟩ := h.same hb
    refine ⟨h1, fun s' t' x' hs ht hx hbef hz => ?_⟩
    by_cases e : s' = s ∧ t' = t ∧ x' = x
    · obtain ⟨rfl, rfl, rfl⟩ := e; rw [← h1]; exact hn
    · exact h2 s' t' x' hs ht hx (by omega) hz⟩
theorem PassM.turn {d : Dfa} {m0 m : List (List Int)} {b : Bool} {s t x : Nat} (h : PassM d m0 m b s t x) (hg : Good d) (hs : s < d.n) (ht : t < d.n) (hx : x < d.k) (h1 : mAt m (d.to s x) (d.to t x) = 1) (h2 : mAt m s t = 0) : PassM d m0 (setM m s t) true s t (x + 1) := by
  have hz := h.sound.zeros hs ht h2
  have hl := h.le
  exact ⟨h.sound.set hs ht hx (hg.to_lt hs hx) (hg.to_lt ht hx) h1, by omega, (fun _ => by omega), (fun h => by cases h)⟩
theorem PassM.cell {d : Dfa} {m0 m : List (List Int)} {b : Bool} {s t x : Nat} (h : PassM d m0 m b s t x) (hx : x = d.k ∨ mAt m s t = 1) : PassM d m0 m b s (t + 1) 0 :=
  ⟨h.sound, h.le, h.lt, fun hb => by
    obtain ⟨h1, h2⟩ := h.same hb
    refine ⟨h1, fun s' t' x' hs ht hx' hbef hz => ?_⟩
    by_cases e : s' = s ∧ t' = t
    · obtain ⟨rfl, rfl⟩ := e
      rcases hx with rfl | hx
      · exact h2 s' t' x' hs ht hx' (by omega) hz
      · rw [h1, hz] at hx; simp at hx
    · exact h2 s' t' x' hs ht hx' (by omega) hz⟩
theorem PassM.line {d : Dfa} {m0 m : List (List Int)} {b : Bool} {s t : Nat} (h : PassM d m0 m b s t 0) (ht : t = d.n) : PassM d m0 m b (s + 1) 0 0 :=
  ⟨h.sound, h.le, h.lt, fun hb => ⟨(h.same hb).1, fun s' t' x' hs ht' hx hbef hz => (h.same hb).2 s' t' x' hs ht' hx (by omega) hz⟩⟩
theorem closed_like {d : Dfa} (hg : Good d) {m : List (List Int)} (h : SoundM d m) (hc : ∀ s t x, s < d.n → t < d.n → x < d.k → mAt m s t = 0 → mAt m (d.to s x) (d.to t x) ≠ 1) : ∀ (w : List Nat) (s t : Nat), s < d.n → t < d.n → okW d.k w → mAt m s t = 0 → d.ac (d.run s w) = d.ac (d.run t w)
  | [], s, t, hs, ht, _, hz => by
    show d.ac s = d.ac t
    rcases Decidable.em (d.ac s = d.ac t) with h1 | h1
    · exact h1
    · have := h.acc s t hs ht h1; omega
  | x :: w, s, t, hs, ht, hw, hz => by
    have hx := hw x (by simp)
    have h1 := hc s t x hs ht hx hz
    have h2 : mAt m (d.to s x) (d.to t x) = 0 := (h.val _ _).resolve_right h1
    exact closed_like hg h hc w _ _ (hg.to_lt hs hx) (hg.to_lt ht hx) (fun y hy => hw y (by simp [hy])) h2
theorem PassM.final {d : Dfa} {m0 m : List (List Int)} {s : Nat} (hg : Good d) (h : PassM d m0 m false s 0 0) (hs : s = d.n) : ApartOk d m := by
  obtain ⟨rfl, h2⟩ := h.same rfl
  refine ⟨h.sound.len, h.sound.row, h.sound.val, fun s' t' hs' ht' => ⟨fun hz w hw => ?_, fun hl => ?_⟩⟩
  · exact closed_like hg h.sound (fun s t x hs ht hx hz => h2 s t x hs ht hx (by omega) hz) w s' t' hs' ht' hw hz
  · exact (h.sound.val s' t').resolve_right (fun h1 => h.sound.dist s' t' hs' ht' h1 hl)
/-- The table before the rounds, line by line. -/
def ini (d : Dfa) (s t : Nat) : Int := if d.ac s = d.ac t then 0 else 1
def iniR (d : Dfa) (s j : Nat) : List Int := (List.range j).map (ini d s) ++ List.replicate (d.n - j) 0
def iniM (d : Dfa) (i : Nat) : List (List Int) := (List.range i).map (fun s => iniR d s d.n)
theorem iniR_len (d : Dfa) (s : Nat) {j : Nat} (h : j ≤ d.n) : (iniR d s j).length = d.n := by unfold iniR; simp; omega
theorem iniR_zero (d : Dfa) (s : Nat) : iniR d s 0 = List.replicate d.n 0 := by unfold iniR; simp
theorem iniR_at (d : Dfa) (s : Nat) {j : Nat} (h : j < d.n) : (iniR d s j)[j]? = some 0 := by
  unfold iniR
  rw [List.getElem?_append_right (by simp), List.getElem?_replicate, if_pos (by simp; omega)]
theorem iniR_set (d : Dfa) (s : Nat) {j : Nat} (h : j < d.n) : (iniR d s j).set j (ini d s j) = iniR d s (j + 1) := by
  unfold iniR
  rw [show d.n - j = (d.n - (j + 1)) + 1 by omega, List.replicate_succ, List.set_append_right _ _ (by simp)]
  simp [List.range_succ]
theorem iniR_same (d : Dfa) (s : Nat) {j : Nat} (h : j < d.n) (he : ini d s j = 0) : iniR d s j = iniR d s (j + 1) := by
  rw [← iniR_set d s h, he]
  have h1 := iniR_at d s h
  obtain ⟨hi, h2⟩ := List.getElem?_eq_some_iff.1 h1
  exact (List.set_getElem_self (h := hi) |>.symm.trans (by rw [h2]))
theorem iniM_sound (d : Dfa) : SoundM d (iniM d d.n) := by
  have hat : ∀ s t, mAt (iniM d d.n) s t = if s < d.n ∧ t < d.n then ini d s t else 0 := fun s t => by
    unfold mAt iniM iniR
    by_cases hs : s < d.n
    · by_cases ht : t < d.n
      · simp [hs, ht, List.getD]
      · simp [hs, ht, List.getD]
    · simp [hs, List.getD]
  refine ⟨by simp [iniM], fun r hr => ?_, fun s t => ?_, fun s t hs ht ha => ?_, fun s t hs ht h1 hl => ?_⟩
  · unfold iniM at hr
    obtain ⟨s, _, rfl⟩ := List.mem_map.1 hr
    exact iniR_len d s (Nat.le_refl _)
  · rw [hat]; split
    · unfold ini; split
      · exact .inl rfl
      · exact .inr rfl
    · exact .inl rfl
  · rw [hat, if_pos ⟨hs, ht⟩]; unfold ini; rw [if_neg ha]
  · rw [hat, if_pos ⟨hs, ht⟩] at h1
    unfold ini at h1
    rw [if_pos (show d.ac s = d.ac t from hl [] (fun _ h => by cases h))] at h1
    cases h1
/-- A store into a row of a row. -/
theorem OwnL.poke {w W : World} {L : List Asn} (h : OwnL w W L) (k : Nat) {e1 e2 s2 gs n c : Nat} {v : Value} {vs : List Value} {rs : List (Nat × List Value)} {xs : List Value} {j : Nat} (hk : L[k]? = some (.rows e1 e2 s2 v vs rs)) (hj : vs[j]? = some (.slice (some ⟨gs, 0, none⟩) n c)) (hr : rs[j]? = some (n, xs)) (t : Nat) (u : Value) :
    OwnL w (W.setCell ⟨gs, t, none⟩ u) (L.set k (.rows e1 e2 s2 v vs (rs.set j (n, xs.set t u)))) := by
  have hO : OwnRows W w.heap.size e1 e2 s2 v vs rs := h.get k hk
  have hjl := (List.getElem?_eq_some_iff.1 hj).1
  have hjr := (List.getElem?_eq_some_iff.1 hr).1
  have h1 := (hO.each j _ _ hj hr).stored t u
  have hblk : ∀ b, b ≠ gs → (W.setCell ⟨gs, t, none⟩ u).heap[b]? = W.heap[b]? := fun b hne => heap_setCell_other W ⟨gs, t, none⟩ b u hne
  refine h.step k hk h1.2 (fun b hb => .inr ⟨_, List.mem_of_getElem? hj, hb⟩) (A' := .rows e1 e2 s2 v vs (rs.set j (n, xs.set t u))) ⟨?_, by simp [hO.len], fun i y r hy hr' => ?_, hO.apart, hO.away⟩ (fun b hb => .inl hb)
  · exact ownsRow_of hO.own (fun b hb => hblk b (fun e => hO.away j _ hj gs rfl (e ▸ hb)))
  · by_cases hij : i = j
    · subst hij
      rw [List.getElem?_set_self hjr] at hr'
      cases hr'
      rw [hj] at hy
      cases hy
      exact h1.1
    · rw [List.getElem?_set_ne (fun e => hij e.symm)] at hr'
      have h2 := hO.each i y r hy hr'
      exact ownsRow_of h2 (fun b hb => hblk b (fun e => hO.apart i j y _ hy hj hij b hb (by rw [e]; rfl)))
theorem map_int_at {r : List Int} {t : Nat} (h : t < r.length) : (r.map (Value.int .i64))[t]? = some (.int .i64 (r.getD t 0)) := by
  rw [List.getElem?_map, List.getElem?_eq_getElem h, List.getD_eq_getElem?_getD, List.getElem?_eq_getElem h]; rfl
theorem tab_at {d : Dfa} {w W : World} {L : List Asn} {go n c s t : Nat} {vs : List Value} {m : List (List Int)} (h : OwnL w W (.rows 31 3 1 (.slice (some ⟨go, 0, none⟩) n c) vs (m.map iRow) :: L)) (hm : SoundM d m) (hn : d.n = n) (hs : s < n) (ht : t < n) :
    ∃ gs cs, vs[s]? = some (.slice (some ⟨gs, 0, none⟩) n cs) ∧ (m.map iRow)[s]? = some (n, (m.getD s []).map (.int .i64)) ∧ W.cell? ⟨go, s, none⟩ = some (.slice (some ⟨gs, 0, none⟩) n cs) ∧ W.cell? ⟨gs, t, none⟩ = some (.int .i64 (mAt m s t)) ∧ W.frozen? ⟨gs, t, none⟩ = false := by
  have hO : OwnRows W w.heap.size 31 3 1 (.slice (some ⟨go, 0, none⟩) n c) vs (m.map iRow) := h.get 0 rfl
  have hl := hO.len
  rw [List.length_map, hm.len, hn] at hl
  have hsv : s < vs.length := by omega
  have hsm : s < m.length := by rw [hm.len, hn]; exact hs
  have hv : vs[s]? = some vs[s] := List.getElem?_eq_getElem hsv
  have hrl : (m.getD s []).length = n := by rw [hm.rlen (by omega), hn]
  have hr : (m.map iRow)[s]? = some (n, (m.getD s []).map (.int .i64)) := by
    rw [List.getElem?_map, List.getElem?_eq_getElem hsm, ← getM_row hsm]
    show some (iRow (m.getD s [])) = _
    unfold iRow; rw [hrl]
  have h1 := hO.each s _ _ hv hr
  obtain ⟨gs, cs, he⟩ := ownsRow_pos h1 (by show 0 < n; omega)
  rw [he] at hv h1
  have h2 := hO.own.cells (g := go) rfl s _ hv
  rw [Addr.add_lit, Nat.zero_add] at h2
  have ht2 : t < (m.getD s []).length := by rw [hrl]; exact ht
  have h3 := World.ownsRow.cells h1 (g := gs) rfl t (.int .i64 (mAt m s t)) (map_int_at ht2)
  rw [Addr.add_lit, Nat.zero_add] at h3
  refine ⟨gs, cs, hv, hr, h2, h3, ?_⟩
  rcases h1.2 with ⟨hb, _⟩ | ⟨g, cap, cur, hb, _, hg, _⟩
  · cases hb
  · cases hb; exact free_of_blk hg t
theorem tab_set {w W : World} {L : List Asn} {v : Value} {n gs cs s t : Nat} {vs : List Value} {m : List (List Int)} (h : OwnL w W (.rows 31 3 1 v vs (m.map iRow) :: L)) (hv : vs[s]? = some (.slice (some ⟨gs, 0, none⟩) n cs)) (hr : (m.map iRow)[s]? = some (n, (m.getD s []).map (.int .i64))) :
    OwnL w (W.setCell ⟨gs, t, none⟩ (.int .i64 1)) (.rows 31 3 1 v vs ((setM m s t).map iRow) :: L) := by
  have h1 := h.poke 0 rfl hv hr t (.int .i64 1)
  have h2 : (m.map iRow).set s (n, ((m.getD s []).map (Value.int .i64)).set t (.int .i64 1)) = (setM m s t).map iRow := by
    unfold setM
    rw [List.map_set]
    congr 1
    unfold iRow
    have hsm : s < m.length := by have := (List.getElem?_eq_some_iff.1 hr).1; simpa using this
    rw [List.getElem?_map, List.getElem?_eq_getElem hsm, ← getM_row hsm] at hr
    have hl : (m.getD s []).length = n := by
      have hr2 : iRow (m.getD s []) = (n, (m.getD s []).map (Value.int .i64)) := by injection hr
      exact congrArg Prod.fst hr2
    rw [List.length_set, hl, List.map_set]
  rw [h2] at h1
  exact h1
end Go.Proofs.YthlnmcokgfpgmaaDoor

namespace Go.Proofs.YthlnmcokgfpgmaaDoor
open Go.RowKit Go.Maps
set_option linter.unusedVariables false
set_option linter.unusedSimpArgs false
attribute [local go_sem] Oper.quietV quietV Oper.gives givesV ext_refl_iff ext_alloc_iff ext_drew_iff ext_drewN_iff
noncomputable def T61 (n : Nat) : Code := textR n Tryd.f61.body
theorem dfa_at {W : World} {Ar : Option Addr} {n cr : Nat} {d : Dfa} (hr : ListsC W (.slice Ar n cr) d.rows cr) (hg : Good d) : ∃ br or, Ar = some ⟨br, or, none⟩ ∧ ∀ s x, s < d.n → x < d.k → ∃ bx ox c', W.cell? ⟨br, or + s, none⟩ = some (.slice (some ⟨bx, ox, none⟩) d.k c') ∧ W.cell? ⟨bx, ox + x, none⟩ = some (.int .i64 (d.to s x)) := by
  have h1 := hg.size
  obtain ⟨br, or, _, _, hv, _, _, _⟩ := hr.at_ (k := 0) (by omega)
  refine ⟨br, or, by injection hv, fun s x hs hx => ?_⟩
  have hs' : s < d.rows.length := hs
  obtain ⟨br2, or2, u, c', hv2, _, e0, hu⟩ := hr.at_ hs'
  rw [hv] at hv2
  injection hv2 with hv2
  cases hv2
  have hrl := hg.row hs'
  have hx' : x < d.rows[s].length := by rw [hrl]; exact hx
  obtain ⟨A, rfl, hc, _⟩ := hu
  obtain ⟨bx, ox, rfl, _, f0⟩ := hc.at_int hx'
  rw [(hg.cell hs' hx').1] at f0
  rw [hrl] at e0
  exact ⟨bx, ox, c', e0, f0⟩
def ApP (d : Dfa) (w : World) (e : Ending) (w' : World) : Prop := ∃ v m c, e = .returned v ∧ ApartOk d m ∧ ListsC w' v m c ∧ Ext w w'
set_option maxRecDepth 100000 in
set_option maxHeartbeats 8000000 in
theorem ap_t13 (w W1 W : World) (d : Dfa) (b1 n k go c : Nat) (Ar Aa : Option Addr) (cr ca : Nat) (vs : List Value) (c0 c2 c5 c6 c7 c8 c9 c10 c11 c12 c13 c14 c15 c16 c17 c18 c19 c20 c21 c22 c23 c24 c25 c26 c27 c28 c29 c30 c31 c32 c33 c34 c35 c36 c37 c38 c39 c40 c41 c42 c43 c44 c45 c46 c47 c48 c49 c50 c51 c52 c53 c54 c55 c56 c57 c58 c59 c60 c61 c62 c63 c64 c65 c66 c67 c68 c69 c70 c71 c72 c73 c74 c75 c76 c77 c78 c79 c80 c81 c82 c83 c84 c85 c86 c87 c88 c89 c90 c91 c92 c93 c94 c95 c96 c97 c98 c99 c100 c101 : Value)
    (hr : ListsC W1 (.slice Ar d.rows.length cr) d.rows cr) (hg : Good d) (hn : d.n = n) (hk : d.k = k) (hE1 : Ext w W1)
    (k0 : ∀ w', Ext W1 w' → w'.cell? ⟨b1, 0, none⟩ = some (.int .i64 k)) (k1 : ∀ w', Ext W1 w' → w'.cell? ⟨b1, 1, none⟩ = some (.slice Ar n cr))
    (hO : OwnL W1 W [.rows 31 3 1 (.slice (some ⟨go, 0, none⟩) n c) vs ((iniM d d.n).map iRow)]) :
    Code.wp Tryd.prog (T61 13) (bodyPost Tryd.prog Tryd.f61 (ApP d w)) ⟨(c0 :: .pointer (some ⟨b1, 0, none⟩) :: c2 :: .int .i64 n :: .slice (some ⟨go, 0, none⟩) n c :: c5 :: c6 :: c7 :: c8 :: c9 :: c10 :: c11 :: c12 :: c13 :: c14 :: c15 :: c16 :: c17 :: c18 :: c19 :: c20 :: c21 :: c22 :: c23 :: c24 :: c25 :: c26 :: c27 :: c28 :: c29 :: c30 :: c31 :: c32 :: c33 :: c34 :: c35 :: c36 :: c37 :: c38 :: c39 :: c40 :: c41 :: c42 :: c43 :: c44 :: c45 :: c46 :: c47 :: c48 :: c49 :: c50 :: c51 :: c52 :: c53 :: c54 :: c55 :: c56 :: c57 :: c58 :: c59 :: c60 :: c61 :: c62 :: c63 :: c64 :: c65 :: c66 :: c67 :: c68 :: c69 :: c70 :: c71 :: c72 :: c73 :: c74 :: c75 :: c76 :: c77 :: c78 :: c79 :: c80 :: c81 :: c82 :: c83 :: c84 :: c85 :: c86 :: c87 :: c88 :: c89 :: c90 :: c91 :: c92 :: c93 :: c94 :: c95 :: c96 :: c97 :: c98 :: c99 :: c100 :: c101 :: []).toArray, []⟩ W := by
  have hs1 := hg.size
  have hn2 : d.rows.length = n := hn
  have hn3 : 1 ≤ n ∧ n ≤ 256 := by omega
  have hk16 := hg.kk.2
  rw [hk] at hk16
  rw [hn2] at hr
  have HG := Lib.hid (And.intro hg (And.intro hn (And.intro hk (And.intro hn2 hE1))))
  clear hg hn hk hn2 hs1 hE1
  conv => arg 2; whnf
  go_wp2
  go_loopg [8] (zerosM (iniM d d.n) + 1) (fun gk mv wr => ∃ (m : List (List Int)) (b : Bool), mv = .int .i64 (b01 b) ∧ Hid (gk = zerosM m + if b then 1 else 0) ∧ Hid (SoundM d m) ∧ Hid (b = false → ApartOk d m) ∧ OwnL W1 wr [.rows 31 3 1 (.slice (some ⟨go, 0, none⟩) n c) vs (m.map iRow)])
  case atStart => exact ⟨_, true, rfl, Lib.hid rfl, Lib.hid (iniM_sound d), Lib.hid (fun h => by cases h), hO⟩
  case round =>
    clear hO
    obtain ⟨m0, b0, rfl, hgk, hsd, hap, hO⟩ := hrel
    obtain ⟨W3, hW3⟩ : ∃ W, W = wr := ⟨_, rfl⟩; subst hW3
    cases b0 with
    | false =>
      have HA := Lib.hid (hap.out rfl)
      have HO := Lib.hid hO
      clear hO hap
      rw [show b01 false = 0 from rfl]
      go_wp2
      go_ret
      have hA := HA.out
      have h1 : OwnRows W3 W1.heap.size 31 3 1 (.slice (some ⟨go, 0, none⟩) n c) vs (m0.map iRow) := HO.out.get 0 rfl
      exact ⟨_, m0, c, rfl, hA, listsC_of_own h1 (by rw [hA.len, HG.out.2.1]) (by unfold lenMax; omega) (fun r hr => by rw [hA.row r hr, HG.out.2.1]; unfold lenMax; omega), HG.out.2.2.2.2.trans HO.out.ext⟩
    | true =>
      have HST := Lib.hid (PassM.start hsd.out)
      clear hap
      rw [show b01 true = 1 from rfl]
      go_wp2
      go_loopw [8, 9] (fun mv sv wr => ∃ (s : Nat) (b : Bool) (m : List (List Int)), mv = .int .i64 (b01 b) ∧ sv = .int .i64 s ∧ s ≤ n ∧ Hid (PassM d m0 m b s 0 0) ∧ OwnL W1 wr [.rows 31 3 1 (.slice (some ⟨go, 0, none⟩) n c) vs (m.map iRow)]) (fun _ sv _ => n - (intOf sv).toNat)
      case atStart => exact ⟨0, false, m0, rfl, rfl, Nat.zero_le _, HST, hO⟩
      case round =>
        clear HST hO
        obtain ⟨s, b, m, rfl, rfl, hs, hP, hO⟩ := hrel
        obtain ⟨W4, hW4⟩ : ∃ W, W = wr := ⟨_, rfl⟩; subst hW4
        by_cases hsl : s < n
        · have hslI : (s : Int) < (n : Int) := by omega
          go_wp2
          go_loopw [8, 10] (fun mv tv wr => ∃ (t : Nat) (b : Bool) (m : List (List Int)), mv = .int .i64 (b01 b) ∧ tv = .int .i64 t ∧ t ≤ n ∧ Hid (PassM d m0 m b s t 0) ∧ OwnL W1 wr [.rows 31 3 1 (.slice (some ⟨go, 0, none⟩) n c) vs (m.map iRow)]) (fun _ tv _ => n - (intOf tv).toNat)
          case atStart => exact ⟨0, b, m, rfl, rfl, Nat.zero_le _, hP, hO⟩
          case round =>
            clear hP hO
            obtain ⟨t, b, m, rfl, rfl, ht, hP, hO⟩ := hrel
            obtain ⟨W5, hW5⟩ : ∃ W, W = wr := ⟨_, rfl⟩; subst hW5
            by_cases htl : t < n
            · have htlI : (t : Int) < (n : Int) := by omega
              go_wp2
              go_loopw [8, 11] (fun mv xv wr => ∃ (x : Nat) (b : Bool) (m : List (List Int)), mv = .int .i64 (b01 b) ∧ xv = .int .i64 x ∧ x ≤ k ∧ Hid (PassM d m0 m b s t x) ∧ OwnL W1 wr [.rows 31 3 1 (.slice (some ⟨go, 0, none⟩) n c) vs (m.map iRow)]) (fun _ xv _ => k - (intOf xv).toNat)
              case atStart => exact ⟨0, b, m, rfl, rfl, Nat.zero_le _, hP, hO⟩
              case round =>
                clear hP hO
                obtain ⟨x, b, m, rfl, rfl, hx, hP, hO⟩ := hrel
                obtain ⟨W6, hW6⟩ : ∃ W, W = wr := ⟨_, rfl⟩; subst hW6
                have kk0 := k0 W6 hO.ext
                have kk1 := k1 W6 hO.ext
                by_cases hxl : x < k
                · have hxlI : (x : Int) < (k : Int) := by omega
                  obtain ⟨gs, cs, hvs, hrs, q0, q1, q2⟩ := tab_at hO hP.out.sound HG.out.2.1 hsl htl
                  have HO := Lib.hid (And.intro hO (And.intro hvs hrs))
                  clear hO hvs hrs
                  rcases hP.out.sound.val s t with hz | hz
                  · rw [hz] at q1
                    have hsd : s < d.n := by rw [HG.out.2.1]; exact hsl
                    have htd : t < d.n := by rw [HG.out.2.1]; exact htl
                    have hxd : x < d.k := by rw [HG.out.2.2.1]; exact hxl
                    have hts := HG.out.1.to_lt hsd hxd
                    have htt := HG.out.1.to_lt htd hxd
                    obtain ⟨g2, cs2, _, _, p0, p1, _⟩ := tab_at HO.out.1 hP.out.sound HG.out.2.1 (by rw [← HG.out.2.1]; exact hts) (by rw [← HG.out.2.1]; exact htt)
                    obtain ⟨br, or, hAr, hcl⟩ := dfa_at (hr.ext HO.out.1.ext) HG.out.1
                    obtain ⟨bx, ox, c2, e0, f0⟩ := hcl s x hsd hxd
                    obtain ⟨by_, oy, c3, e1, f1⟩ := hcl t x htd hxd
                    rw [HG.out.2.2.1] at e0 e1
                    rw [hAr] at kk1
                    have htsI : (d.to s x : Int) < (n : Int) := by rw [HG.out.2.1] at hts; omega
                    have httI : (d.to t x : Int) < (n : Int) := by rw [HG.out.2.1] at htt; omega
                    have HD := Lib.hid (And.intro hsd (And.intro htd (And.intro hxd hz)))
                    have hP2 := hP
                    clear hts htt hsd htd hxd hz hcl hAr hP
                    rcases hP2.out.sound.val (d.to s x) (d.to t x) with hy | hy
                    · rw [hy] at p1
                      have HK := Lib.hid (hP2.out.keep (by rw [hy]; omega))
                      clear hy
                      generalize d.to s x = s2 at *
                      generalize d.to t x = t2 at *
                      go_upto_region 25 with fail
                      go_quiet (fail)
                      go_wp2
                      go_roundw
                      case rel => exact ⟨x + 1, b, m, rfl, by go_num, by omega, HK, HO.out.1.trans ((Ext.refl _).drewN _)⟩
                      case measure => simp [intOf]; omega
                    · rw [hy] at p1
                      have HK := Lib.hid (hP2.out.turn HG.out.1 HD.out.1 HD.out.2.1 HD.out.2.2.1 hy HD.out.2.2.2)
                      clear hy
                      generalize d.to s x = s2 at *
                      generalize d.to t x = t2 at *
                      go_upto_region 25 with fail
                      go_quiet (fail)
                      go_wp2
                      have hst := tab_set (t := t) (HO.out.1.trans ((Ext.refl W6).drewN nq)) HO.out.2.1 HO.out.2.2
                      go_roundw
                      case rel => exact ⟨x + 1, true, setM m s t, rfl, by go_num, by omega, HK, hst⟩
                      case measure => simp [intOf]; omega
                  · rw [hz] at q1
                    have HK := Lib.hid (hP.out.cell (.inr hz))
                    clear hz
                    go_wp2
                    exact ⟨⟨t + 1, b, m, rfl, by go_num, by omega, HK, HO.out.1⟩, by simp [intOf]; omega⟩
                · have HK := Lib.hid (hP.out.cell (.inl (by rw [HG.out.2.2.1]; omega)))
                  go_wp2
                  exact ⟨⟨t + 1, b, m, rfl, by go_num, by omega, HK, hO⟩, by simp [intOf]; omega⟩
            · have HK := Lib.hid (hP.out.line (by rw [HG.out.2.1]; omega))
              clear hP
              go_wp2
              exact ⟨⟨s + 1, b, m, rfl, by go_num, by omega, HK, hO⟩, by simp [intOf]; omega⟩
        · have hse : s = d.n := by rw [HG.out.2.1]; omega
          have HSE := Lib.hid hse
          have HP := hP
          clear hse hP
          go_wp2
          go_roundg (zerosM m + if b then 1 else 0)
          case rel => exact ⟨m, b, rfl, Lib.hid rfl, Lib.hid HP.out.sound, Lib.hid (fun hb => by subst hb; exact HP.out.final HG.out.1 HSE.out), hO⟩
          case measure =>
            have h1 := HP.out.le
            have h2 := HP.out.lt
            rw [hgk.out]
            cases b
            · simp; omega
            · have := h2 rfl; simp; omega
set_option maxRecDepth 100000 in
set_option maxHeartbeats 8000000 in
theorem apart_any (w : World) (dv : Value) (d : Dfa) (hd : DfaV w dv d) (hg : Good d) : Calls Tryd.prog 61 #[dv] w (ApP d w) := by
  obtain ⟨rv, cr, av, ca, rfl, hr, ha⟩ := id hd
  obtain ⟨Ar, vr, rfl, _, _, _, _, hrm⟩ := id hr
  obtain ⟨Aa, rfl, hac, _, ham⟩ := id ha
  obtain ⟨i31, hi31, hz31, hs31, hb31⟩ := info_parts ints_info
  unfold lenMax at hrm ham
  obtain ⟨n, hn⟩ : ∃ n, d.n = n := ⟨_, rfl⟩
  obtain ⟨k, hk⟩ : ∃ k, d.k = k := ⟨_, rfl⟩
  have hn2 : d.rows.length = n := hn
  have hsz := hg.size
  have hn3 : 1 ≤ n ∧ n ≤ 256 := by omega
  have hsy : d.sy = (k : Int) := by rw [← hk]; exact hg.kk.1.symm
  have hac2 : d.acc.length = n := by rw [hg.acc, hn2]
  have HG := Lib.hid (And.intro hg (And.intro hn (And.intro hk (And.intro hn2 hac2))))
  rw [hsy, hn2, hac2]
  rw [hn2] at hr
  clear hg hn hk hn2 hsz hsy hac2 hd ha
  go_enter Tryd.func61, Tryd.ntmps61
  go_upto_region 1 with fail
  refine wp_named ?_
  intro W1 hW1
  have hE1 : Ext w W1 := by rw [hW1]; exact (Ext.refl _).alloc _
  have k0 : ∀ w', Ext W1 w' → w'.cell? ⟨w.heap.size, 0, none⟩ = some (.int .i64 k) := fun w' h => h.cell (by rw [hW1]; simp [go_sem])
  have k1 : ∀ w', Ext W1 w' → w'.cell? ⟨w.heap.size, 1, none⟩ = some (.slice Ar n cr) := fun w' h => h.cell (by rw [hW1]; simp [go_sem])
  have k2 : ∀ w', Ext W1 w' → w'.cell? ⟨w.heap.size, 2, none⟩ = some (.slice Aa n ca) := fun w' h => h.cell (by rw [hW1]; simp [go_sem])
  clear hW1
  generalize w.heap.size = b1 at *
  have hE0 := Ext.refl W1
  have hmk := mk_ints n (by omega)
  go_wp2
  go_loopw [4, 5] (fun v sv wr => ∃ (s : Nat) (vs : List Value), sv = .int .i64 s ∧ s ≤ n ∧ vs.length = s ∧ OwnL W1 wr [.rows 31 3 1 v vs ((iniM d s).map iRow)]) (fun _ sv _ => n - (intOf sv).toNat)
  case atStart => exact ⟨0, [], rfl, by omega, rfl, (OwnL.nil (Ext.refl W1)).add (Ext.refl W1) (A := .rows 31 3 1 (.slice none 0 0) [] []) (rows_none _ _ _ _)⟩
  case round =>
    obtain ⟨s, vs, rfl, hs, hvl, hO⟩ := hrel
    obtain ⟨W2, hW2⟩ : ∃ W, W = wr := ⟨_, rfl⟩; subst hW2
    have HVL := Lib.hid hvl
    clear hvl
    by_cases hsl : s < n
    · have hslI : (s : Int) < (n : Int) := by omega
      go_upto_region 7 with fail
      have hO3 : OwnL W1 (W2.alloc (.cells (Array.replicate n (.int .i64 0)) 3)) [.row 3 1 (.slice (some ⟨W2.heap.size, 0, none⟩) n n) n ((iniR d s 0).map (.int .i64)), .rows 31 3 1 u4 vs ((iniM d s).map iRow)] := by
        rw [iniR_zero, HG.out.2.1]
        have h1 := own_new W2 (.int .i64 0) 3 n (by omega)
        refine hO.add (alloc_ext _ _) (A := .row 3 1 (.slice (some ⟨W2.heap.size, 0, none⟩) n n) n _) ?_
        rw [List.map_replicate]; exact h1
      generalize W2.heap.size = gr at *
      clear hO
      go_wp2
      go_loopw [7] (fun tv wr => ∃ t : Nat, tv = .int .i64 t ∧ t ≤ n ∧ OwnL W1 wr [.row 3 1 (.slice (some ⟨gr, 0, none⟩) n n) n ((iniR d s t).map (.int .i64)), .rows 31 3 1 u4 vs ((iniM d s).map iRow)]) (fun tv _ => n - (intOf tv).toNat)
      case atStart => exact ⟨0, rfl, by omega, hO3⟩
      case round =>
        clear hO3
        obtain ⟨t, rfl, ht, hO⟩ := hrel
        obtain ⟨W3, hW3⟩ : ∃ W, W = wr := ⟨_, rfl⟩; subst hW3
        by_cases htl : t < n
        · have htlI : (t : Int) < (n : Int) := by omega
          have kk2 := k2 W3 hO.ext
          have hsd : s < d.n := by rw [HG.out.2.1]; exact hsl
          have htd : t < d.n := by rw [HG.out.2.1]; exact htl
          obtain ⟨ba, oa, hAa, c1⟩ := HG.out.1.acc_at (hac.ext (hE1.trans hO.ext)) hsd
          obtain ⟨ba2, oa2, hAa2, c2⟩ := HG.out.1.acc_at (hac.ext (hE1.trans hO.ext)) htd
          rw [hAa] at hAa2
          cases hAa2
          rw [hAa] at kk2
          have hset := iniR_set d s htd
          have hsame := iniR_same d s htd
          have hat := iniR_at d s htd
          have s0 := cell_own hO 0 rfl (j := t) (u := .int .i64 0) (by rw [List.getElem?_map, hat]; rfl)
          have sf := free_own (e := 3) hO 0 rfl t
          have hini : ini d s t = if d.ac s = d.ac t then 0 else 1 := rfl
          have HI := Lib.hid (And.intro hset (And.intro hsame hini))
          clear hset hsame hat hini hsd htd hAa
          generalize d.ac s = x1 at *
          generalize d.ac t = x2 at *
          have HO := Lib.hid hO
          clear hO
          go_upto_region 10 with fail
          cases x1 <;> cases x2
          · go_quiet (fail)
            have h2 := HO.out.trans ((Ext.refl W3).drewN nq)
            rw [HI.out.2.1 (by rw [HI.out.2.2]; rfl)] at h2
            have H2 := Lib.hid h2
            clear h2
            go_wp2
            go_roundw
            case rel => exact ⟨t + 1, by go_num, by omega, H2.out⟩
            case measure => simp [intOf]; omega
          · go_quiet (fail)
            have h2 := (HO.out.trans ((Ext.refl W3).drewN nq)).store 0 rfl t (.int .i64 1)
            have H2 := Lib.hid h2
            clear h2
            go_wp2
            go_roundw
            case rel => exact ⟨t + 1, by go_num, by omega, by have := H2.out; rw [← HI.out.1, HI.out.2.2, List.map_set]; exact this⟩
            case measure => simp [intOf]; omega
          · go_quiet (fail)
            have h2 := (HO.out.trans ((Ext.refl W3).drewN nq)).store 0 rfl t (.int .i64 1)
            have H2 := Lib.hid h2
            clear h2
            go_wp2
            go_roundw
            case rel => exact ⟨t + 1, by go_num, by omega, by have := H2.out; rw [← HI.out.1, HI.out.2.2, List.map_set]; exact this⟩
            case measure => simp [intOf]; omega
          · go_quiet (fail)
            have h2 := HO.out.trans ((Ext.refl W3).drewN nq)
            rw [HI.out.2.1 (by rw [HI.out.2.2]; rfl)] at h2
            have H2 := Lib.hid h2
            clear h2
            go_wp2
            go_roundw
            case rel => exact ⟨t + 1, by go_num, by omega, H2.out⟩
            case measure => simp [intOf]; omega
        · obtain rfl : t = n := by omega
          have hrows : OwnRows W3 W1.heap.size 31 3 1 u4 vs ((iniM d s).map iRow) := hO.get 1 rfl
          have hown := hrows.own
          rw [HVL.out] at hown
          have hsz := hO.ext.size
          have HO := Lib.hid hO
          clear hrows hO
          go_wp2_with (at_builtin; refine wpList_append_own2 rfl _ _ 25 rfl W1.heap.size 31 i31 (.slice none 0 0) 1 24 Tryd.underlying25 hi31 hz31 hs31 hb31 rfl (by decide) u4 s vs rfl (World.ownsRow.alloc hown _) ⟨W3.heap.size, 0, none⟩ 1 1 [.slice (some ⟨gr, 0, none⟩) t t] rfl rfl (new_cell _ _ _ _ rfl) (one_slice _ _ _) (by unfold maxLen; omega) (by omega) (by simp; omega) ?_; intro v6 w6 hown6 hg6 hb6)
          have hO7 := (HO.out.trans (alloc_ext _ _)).push hg6 (by rw [HVL.out]; exact hown6) hb6
          have hra : (iniM d s).map iRow ++ [(t, (iniR d s t).map (Value.int .i64))] = (iniM d (s + 1)).map iRow := by
            unfold iniM
            rw [List.range_succ, List.map_append, List.map_append, HG.out.2.1]
            simp only [List.map_cons, List.map_nil]
            congr 2
            unfold iRow
            rw [iniR_len d s (by rw [HG.out.2.1]; exact Nat.le_refl _), HG.out.2.1]
          rw [hra] at hO7
          exact ⟨⟨s + 1, _, by go_num, by omega, by simp [HVL.out], hO7⟩, by simp [intOf]; omega⟩
    · obtain rfl : s = n := by omega
      have hrows : OwnRows W2 W1.heap.size 31 3 1 u4 vs ((iniM d s).map iRow) := hO.get 0 rfl
      have hown := hrows.own
      rw [HVL.out] at hown
      obtain ⟨go, c, rfl⟩ := ownsRow_pos hown (by omega)
      clear hrows hown
      go_upto_region 999 with (with_reducible refine stop_at2 13 ?_)
      refine ⟨?_⟩
      have hn := HG.out.2.1
      exact ap_t13 w W1 W2 d b1 s k go c Ar Aa cr ca vs _ _ _ _ _ _ _ _ _ _ _ _ _ _ _ _ _ _ _ _ _ _ _ _ _ _ _ _ _ _ _ _ _ _ _ _ _ _ _ _ _ _ _ _ _ _ _ _ _ _ _ _ _ _ _ _ _ _ _ _ _ _ _ _ _ _ _ _ _ _ _ _ _ _ _ _ _ _ _ _ _ _ _ _ _ _ _ _ _ _ _ _ _ _ _ _ _ _ _ (by have := hr.ext hE1; rw [← HG.out.2.2.2.1] at this; exact this) HG.out.1 hn HG.out.2.2.1 hE1 k0 k1 (by rw [hn]; exact hO)
end Go.Proofs.YthlnmcokgfpgmaaDoor

namespace Go.Proofs.YthlnmcokgfpgmaaDoor
open Go.RowKit
set_option linter.unusedVariables false
set_option linter.unusedSimpArgs false

def cellQ (R : List (List Int)) (i x : Nat) : Option Int := (R.getD i [])[x]?
theorem getD_snoc (rows : List (List Int)) (r : List Int) (i : Nat) : (rows ++ [r]).getD i [] = if i = rows.length then r else rows.getD i [] := by
  rw [List.getD_eq_getElem?_getD, List.getD_eq_getElem?_getD]
  rcases Nat.lt_trichotomy i rows.length with h | h | h
  · rw [List.getElem?_append_left h, if_neg (by omega)]
  · subst h
    rw [List.getElem?_append_right (Nat.le_refl _), Nat.sub_self, if_pos rfl]; rfl
  · rw [List.getElem?_eq_none (by simp; omega), if_neg (by omega), List.getElem?_eq_none (by omega)]
theorem cellQ_snoc (rows : List (List Int)) (row : List Int) (n : Int) (i x : Nat) : cellQ (rows ++ [row ++ [n]]) i x = if i = rows.length ∧ x = row.length then some n else cellQ (rows ++ [row]) i x := by
  unfold cellQ
  rw [getD_snoc, getD_snoc]
  by_cases h : i = rows.length
  · rw [if_pos h, if_pos h]
    rcases Nat.lt_trichotomy x row.length with h2 | h2 | h2
    · rw [List.getElem?_append_left h2, if_neg (by omega)]
    · subst h2
      rw [List.getElem?_append_right (Nat.le_refl _), Nat.sub_self, if_pos ⟨h, rfl⟩]; rfl
    · rw [List.getElem?_eq_none (by simp; omega), if_neg (by omega), List.getElem?_eq_none (by omega)]
  · rw [if_neg h, if_neg h, if_neg (fun e => h e.1)]
theorem cellQ_open (rows : List (List Int)) (i x : Nat) : cellQ (rows ++ [[]]) i x = cellQ rows i x := by
  unfold cellQ
  rw [getD_snoc]
  by_cases h : i = rows.length
  · rw [if_pos h, h, List.getD_eq_getElem?_getD, List.getElem?_eq_none (Nat.le_refl _)]; rfl
  · rw [if_neg h]
theorem cellQ_of {rows : List (List Int)} {row : List Int} {i x : Nat} {z : Int} (h : cellQ (rows ++ [row]) i x = some z) : i < rows.length ∨ i = rows.length ∧ x < row.length := by
  unfold cellQ at h
  rw [getD_snoc] at h
  split at h
  · rename_i hi
    exact .inr ⟨hi, (List.getElem?_eq_some_iff.1 h).1⟩
  · rename_i hi
    rcases Nat.lt_or_ge i rows.length with hl | hl
    · exact .inl hl
    · rw [List.getD_eq_getElem?_getD, List.getElem?_eq_none hl] at h; simp at h
structure MinI (d : Dfa) (ord : List Nat) (R : List (List Int)) : Prop where
  first : ord[0]? = some 0
  lt : ∀ q ∈ ord, q < d.n
  apart : ∀ i j p q : Nat, ord[i]? = some p → ord[j]? = some q → Like d p d q → i = j
  cell : ∀ (i x : Nat) (z : Int), cellQ R i x = some z → ∃ n : Nat, z = (n : Int) ∧ n < ord.length ∧ ∀ p q : Nat, ord[i]? = some p → ord[n]? = some q → Like d (d.to p x) d q
  new : ∀ t : Nat, 0 < t → t < ord.length → ∃ i x : Nat, i < t ∧ x < d.k ∧ cellQ R i x = some (t : Int) ∧ ∀ (i' x' : Nat) (z : Int), (i' < i ∨ i' = i ∧ x' < x) → cellQ R i' x' = some z → z < (t : Int)
theorem MinI.start {d : Dfa} (h : Good d) : MinI d [0] [] := by
  have hs := h.size
  refine ⟨rfl, fun q hq => by rw [List.mem_singleton.1 hq]; unfold Dfa.n; omega, fun i j p q hi hj _ => ?_, fun i x z hz => ?_, fun t h0 h1 => by simp at h1; omega⟩
  · have := (List.getElem?_eq_some_iff.1 hi).1
    have := (List.getElem?_eq_some_iff.1 hj).1
    simp at *; omega
  · unfold cellQ at hz; simp at hz
theorem MinI.open {d : Dfa} {ord : List Nat} {rows : List (List Int)} (h : MinI d ord rows) : MinI d ord (rows ++ [[]]) :=
  ⟨h.first, h.lt, h.apart, fun i x z hz => h.cell i x z (by rw [cellQ_open] at hz; exact hz), fun t h0 h1 => by
    obtain ⟨i, x, h2, h3, h4, h5⟩ := h.new t h0 h1
    exact ⟨i, x, h2, h3, by rw [cellQ_open]; exact h4, fun i' x' z hb hz => h5 i' x' z hb (by rw [cellQ_open] at hz; exact hz)⟩⟩
theorem MinI.found {d : Dfa} {ord : List Nat} {rows : List (List Int)} {row : List Int} (h : MinI d ord (rows ++ [row])) {p q n : Nat} (hp : ord[rows.length]? = some p) (hq : ord[n]? = some q) (hl : Like d (d.to p row.length) d q) : MinI d ord (rows ++ [row ++ [(n : Int)]]) := by
  refine ⟨h.first, h.lt, h.apart, fun i x z hz => ?_, fun t h0 h1 => ?_⟩
  · rw [cellQ_snoc] at hz
    split at hz
    · rename_i he
      obtain ⟨rfl, rfl⟩ := he
      cases hz
      exact ⟨n, rfl, (List.getElem?_eq_some_iff.1 hq).1, fun p' q' hp' hq' => by
        rw [hp] at hp'; rw [hq] at hq'
        cases hp'; cases hq'; exact hl⟩
    · exact h.cell i x z hz
  · obtain ⟨i, x, h2, h3, h4, h5⟩ := h.new t h0 h1
    have hof := cellQ_of h4
    refine ⟨i, x, h2, h3, ?_, fun i' x' z hb hz => ?_⟩
    · rw [cellQ_snoc, if_neg (by omega)]; exact h4
    · rw [cellQ_snoc] at hz
      split at hz
      · omega
      · exact h5 i' x' z hb hz
theorem MinI.fresh {d : Dfa} {ord : List Nat} {rows : List (List Int)} {row : List Int} (h : MinI d ord (rows ++ [row])) (hr : rows.length < ord.length) (hk : row.length < d.k) {p : Nat} (hp : ord[rows.length]? = some p) (hlt : d.to p row.length < d.n) (hn : ∀ q ∈ ord, ¬ Like d q d (d.to p row.length)) : MinI d (ord ++ [d.to p row.length]) (rows ++ [row ++ [(ord.length : Int)]]) := by
  have hord : ∀ (j q : Nat), (ord ++ [d.to p row.length])[j]? = some q → ord[j]? = some q ∨ (j = ord.length ∧ q = d.to p row.length) := fun j q hj => by
    rcases Nat.lt_trichotomy j ord.length with hlt | he | hgt
    · rw [List.getElem?_append_left hlt] at hj; exact .inl hj
    · subst he
      rw [List.getElem?_append_right (Nat.le_refl _), Nat.sub_self] at hj
      cases hj; exact .inr ⟨rfl, rfl⟩
    · rw [List.getElem?_eq_none (by simp; omega)] at hj; cases hj
  refine ⟨?_, fun q hq => ?_, fun i j p' q' hi hj hl => ?_, fun i x z hz => ?_, fun t h0 h1 => ?_⟩
  · rw [List.getElem?_append_left (List.getElem?_eq_some_iff.1 h.first).1]; exact h.first
  · rcases List.mem_append.1 hq with hq | hq
    · exact h.lt q hq
    · rw [List.mem_singleton.1 hq]; exact hlt
  · rcases hord i p' hi with hi | ⟨rfl, rfl⟩ <;> rcases hord j q' hj with hj | ⟨rfl, rfl⟩
    · exact h.apart i j p' q' hi hj hl
    · exact absurd hl (hn p' (List.mem_of_getElem? hi))
    · exact absurd (hl.symm rfl) (hn q' (List.mem_of_getElem? hj))
    · rfl
  · rw [cellQ_snoc] at hz
    split at hz
    · rename_i he
      obtain ⟨rfl, rfl⟩ := he
      cases hz
      refine ⟨ord.length, rfl, by simp, fun p' q' hp' hq' => ?_⟩
      rw [List.getElem?_append_left hr, hp] at hp'
      cases hp'
      rcases hord _ _ hq' with hq' | ⟨_, rfl⟩
      · have := (List.getElem?_eq_some_iff.1 hq').1; omega
      · exact Like.refl _ _
    · have hof := cellQ_of hz
      obtain ⟨n, h1, h2, h3⟩ := h.cell i x z hz
      refine ⟨n, h1, by simp; omega, fun p' q' hp' hq' => ?_⟩
      rw [List.getElem?_append_left (by omega)] at hp'
      rw [List.getElem?_append_left h2] at hq'
      exact h3 p' q' hp' hq'
  · simp at h1
    rcases Nat.lt_or_ge t ord.length with h2 | h2
    · obtain ⟨i, x, h2, h3, h4, h5⟩ := h.new t h0 h2
      have hof := cellQ_of h4
      refine ⟨i, x, h2, h3, ?_, fun i' x' z hb hz => ?_⟩
      · rw [cellQ_snoc, if_neg (by omega)]; exact h4
      · rw [cellQ_snoc] at hz
        split at hz
        · omega
        · exact h5 i' x' z hb hz
    · obtain rfl : t = ord.length := by omega
      refine ⟨rows.length, row.length, hr, hk, ?_, fun i' x' z hb hz => ?_⟩
      · rw [cellQ_snoc, if_pos ⟨rfl, rfl⟩]
      · rw [cellQ_snoc, if_neg (by omega)] at hz
        obtain ⟨n, rfl, hn', _⟩ := h.cell i' x' z hz
        omega
theorem MinI.bound {d : Dfa} {ord : List Nat} {R : List (List Int)} (h : MinI d ord R) : ord.length ≤ d.n := by
  have hd : ord.Nodup := List.pairwise_iff_getElem.2 fun i j hi hj hij e => by
    have := h.apart i j _ _ (List.getElem?_eq_getElem hi) (List.getElem?_eq_getElem hj) (by rw [e]; exact Like.refl _ _)
    omega
  have := List.Nodup.length_le_of_subset hd (l₂ := List.range d.n) (fun q hq => List.mem_range.2 (h.lt q hq))
  simpa using this
/-- The set is done. -/
theorem MinI.done {d : Dfa} (hg : Good d) {ord : List Nat} {rows : List (List Int)} (h : MinI d ord rows) (hl : rows.length = ord.length) (hr : ∀ r ∈ rows, r.length = d.k) : Canon ⟨d.sy, rows, ord.map d.ac⟩ ∧ Like d 0 ⟨d.sy, rows, ord.map d.ac⟩ 0 := by
  obtain ⟨r, hrd⟩ : ∃ r : Dfa, r = ⟨d.sy, rows, ord.map d.ac⟩ := ⟨_, rfl⟩
  rw [← hrd]
  have hrn : r.n = ord.length := by rw [hrd]; exact hl
  have hrk : r.k = d.k := by rw [hrd]; rfl
  have hrr : r.rows = rows := by rw [hrd]
  have hat : ∀ i x, i < ord.length → x < d.k → cellQ rows i x = some ((rows.getD i []).getD x 0) := fun i x hi hx => by
    have hi' : i < rows.length := by omega
    unfold cellQ
    have : x < (rows.getD i []).length := by rw [getM_row hi', hr _ (List.getElem_mem hi')]; exact hx
    rw [List.getElem?_eq_getElem this, List.getD_eq_getElem?_getD (l := rows.getD i []), List.getElem?_eq_getElem this]; rfl
  have hto : ∀ i x, i < ord.length → x < d.k → cellQ rows i x = some (r.to i x : Int) ∧ r.to i x < ord.length ∧ ∀ p q : Nat, ord[i]? = some p → ord[r.to i x]? = some q → Like d (d.to p x) d q := fun i x hi hx => by
    have h1 := hat i x hi hx
    obtain ⟨n, h2, h3, h4⟩ := h.cell i x _ h1
    have h5 : r.to i x = n := by
      unfold Dfa.to
      rw [hrr, h2]; rfl
    rw [h5]
    exact ⟨by rw [h1, h2], h3, h4⟩
  have hac : ∀ (i p : Nat), ord[i]? = some p → r.ac i = d.ac p := fun i p hi => by
    rw [hrd]; unfold Dfa.ac
    rw [List.getD_eq_getElem?_getD, List.getElem?_map, hi]; rfl
  have hlike : ∀ (w : List Nat) (i p : Nat), ord[i]? = some p → okW d.k w → d.ac (d.run p w) = r.ac (r.run i w) := fun w => by
    induction w with
    | nil => intro i p hi _; exact (hac i p hi).symm
    | cons x w ih =>
      intro i p hi hw
      have hx := hw x (by simp)
      have hw' : okW d.k w := fun y hy => hw y (by simp [hy])
      have hil := (List.getElem?_eq_some_iff.1 hi).1
      obtain ⟨_, h2, h3⟩ := hto i x hil hx
      obtain ⟨q, hq⟩ : ∃ q, ord[r.to i x]? = some q := ⟨_, List.getElem?_eq_getElem h2⟩
      show d.ac (d.run (d.to p x) w) = r.ac (r.run (r.to i x) w)
      rw [← ih _ _ hq hw']
      exact h3 p q hi hq w hw'
  have hlk : ∀ (i p : Nat), ord[i]? = some p → Like d p r i := fun i p hi w hw => hlike w i p hi hw
  have h0 := (List.getElem?_eq_some_iff.1 h.first).1
  have hb := h.bound
  have hs := hg.size
  have hgood : Good r := by
    refine ⟨by rw [hrd]; exact hg.sy, by rw [hrr]; unfold Dfa.n at hb; omega, by rw [hrr, hrd]; simp [hl], fun q hq => ?_, fun q hq z hz => ?_⟩
    · rw [hrr] at hq
      have := hr q hq; have := hg.kk
      rw [hrd]; show (q.length : Int) = d.sy; omega
    · rw [hrr] at hq
      obtain ⟨i, hi⟩ := List.getElem?_of_mem hq
      obtain ⟨x, hx⟩ := List.getElem?_of_mem hz
      obtain ⟨n, h1, h2, _⟩ := h.cell i x z (by
        unfold cellQ
        rw [List.getD_eq_getElem?_getD, hi]; exact hx)
      rw [hrr]; omega
  refine ⟨⟨hgood, fun s t hs' ht' hl' => ?_, fun t h1 h2 => ?_⟩, hlk 0 0 h.first⟩
  · rw [hrn] at hs' ht'
    obtain ⟨p, hp⟩ : ∃ q, ord[s]? = some q := ⟨_, List.getElem?_eq_getElem hs'⟩
    obtain ⟨q, hq⟩ : ∃ q, ord[t]? = some q := ⟨_, List.getElem?_eq_getElem ht'⟩
    refine h.apart s t p q hp hq (fun w hw => ?_)
    rw [hlk s p hp w hw, hlk t q hq w hw]
    exact hl' w (by rw [hrk]; exact hw)
  · rw [hrn] at h2
    obtain ⟨i, x, h3, h4, h5, h6⟩ := h.new t h1 h2
    obtain ⟨h7, _⟩ := hto i x (by omega) h4
    refine ⟨i, x, h3, by rw [hrk]; exact h4, ?_, fun i' x' hx' hb' => ?_⟩
    · rw [h5] at h7; injection h7 with h7; omega
    · rw [hrk] at hx'
      obtain ⟨h8, _⟩ := hto i' x' (by omega) hx'
      have := h6 i' x' _ hb' h8
      omega
end Go.Proofs.YthlnmcokgfpgmaaDoor

namespace Go.Proofs.YthlnmcokgfpgmaaDoor
open Go.RowKit Go.Maps
set_option linter.unusedVariables false
set_option linter.unusedSimpArgs false
attribute [local go_sem] Oper.quietV quietV Oper.gives givesV ext_refl_iff ext_alloc_iff ext_drew_iff ext_drewN_iff
noncomputable def T43 (n : Nat) : Code := textR n Tryd.f43.body
def ordV (l : List Nat) : List Value := l.map (fun q : Nat => Value.int .i64 (q : Int))
theorem ordV_at {l : List Nat} {i q : Nat} (h : l[i]? = some q) : (ordV l)[i]? = some (.int .i64 (q : Int)) := by unfold ordV; rw [List.getElem?_map, h]; rfl
theorem ordV_snoc (l : List Nat) (q : Nat) : ordV l ++ [.int .i64 (q : Int)] = ordV (l ++ [q]) := by unfold ordV; rw [List.map_append]; rfl
theorem ap_at {W : World} {v : Value} {d : Dfa} {m : List (List Int)} {c n : Nat} (hl : ListsC W v m c) (ha : ApartOk d m) (hn : d.n = n) (h0 : 0 < n) : ∃ br or, v = .slice (some ⟨br, or, none⟩) n c ∧ ∀ s t, s < n → t < n → ∃ bx ox c', W.cell? ⟨br, or + s, none⟩ = some (.slice (some ⟨bx, ox, none⟩) n c') ∧ W.cell? ⟨bx, ox + t, none⟩ = some (.int .i64 (mAt m s t)) := by
  have hml := ha.len
  rw [hn] at hml
  obtain ⟨br, or, _, _, rfl, _, _, _⟩ := hl.at_ (k := 0) (by omega)
  refine ⟨br, or, by rw [hml], fun s t hs ht => ?_⟩
  have hs' : s < m.length := by omega
  obtain ⟨br2, or2, u, c', hv2, _, e0, hu⟩ := hl.at_ hs'
  cases hv2
  have hrl := ha.row _ (List.getElem_mem hs')
  rw [hn] at hrl
  have ht' : t < m[s].length := by omega
  obtain ⟨A, rfl, hc, _⟩ := hu
  obtain ⟨bx, ox, rfl, _, f0⟩ := hc.at_int ht'
  rw [hrl] at e0
  exact ⟨bx, ox, c', e0, by
    rw [f0]
    unfold mAt
    rw [getM_row hs', List.getD_eq_getElem?_getD, List.getElem?_eq_getElem ht']; rfl⟩
def MinP (d : Dfa) (w : World) (e : Ending) (w' : World) : Prop := ∃ v r, e = .returned v ∧ (∀ w2 : World, (∀ b, w.heap.size ≤ b → b < w'.heap.size → w2.heap[b]? = w'.heap[b]?) → DfaV w2 v r) ∧ Canon r ∧ Like d 0 r 0 ∧ r.sy = d.sy ∧ r.n ≤ d.n ∧ Ext w w'
def S19 (b4 b1 go i ga oa n : Nat) (accv : Value) (Aa : Option Addr) (na ca q : Nat) (g : Bool) (w : World) : Prop := w.cell? ⟨b4, 2, none⟩ = some accv ∧ w.cell? ⟨b1, 2, none⟩ = some (.slice (some ⟨ga, oa, none⟩) na ca) ∧ w.cell? ⟨go, i, none⟩ = some (.int .i64 (q : Int)) ∧ w.cell? ⟨ga, oa + q, none⟩ = some (.bool g)
theorem S19.ext {b4 b1 go i ga oa n : Nat} {accv : Value} {Aa : Option Addr} {na ca q : Nat} {g : Bool} {w w' : World} (h : S19 b4 b1 go i ga oa n accv Aa na ca q g w) (e : Ext w w') : S19 b4 b1 go i ga oa n accv Aa na ca q g w' := ⟨e.cell h.1, e.cell h.2.1, e.cell h.2.2.1, e.cell h.2.2.2⟩
set_option maxRecDepth 100000 in
set_option maxHeartbeats 16000000 in
theorem min_t4 (w W1 W : World) (d : Dfa) (b1 b2 b4 g0 n k ca cr br or ca2 : Nat) (Ar Aa : Option Addr) (mm : List (List Int)) (c0 c6 c7 c8 c9 c10 c11 c12 c13 c14 c15 c16 c17 c18 c19 c20 c21 c22 c23 c24 c25 c26 c27 c28 c29 c30 c31 c32 c33 c34 c35 c36 c37 c38 c39 c40 c41 c42 c43 c44 c45 c46 c47 c48 c49 c50 c51 c52 c53 c54 c55 c56 c57 c58 c59 c60 c61 c62 c63 c64 c65 c66 c67 c68 c69 c70 c71 c72 c73 c74 c75 c76 c77 c78 c79 c80 c81 c82 c83 c84 c85 c86 c87 c88 c89 c90 : Value)
    (hr : ListsC W1 (.slice Ar n cr) d.rows cr) (hac : Cells W1 Aa (d.acc.map .bool)) (hg : Good d) (hn : d.n = n) (hk : d.k = k) (hE1 : Ext w W1) (hap : ApartOk d mm) (hlm : ListsC W1 (.slice (some ⟨br, or, none⟩) n ca2) mm ca2)
    (hb2 : w.heap.size ≤ b2) (hz2 : W1.heap[b2]? = some (.cells #[.int .i64 0, .slice none 0 0, .slice none 0 0] 28 (0, 0)))
    (k0 : ∀ w', Ext W1 w' → w'.cell? ⟨b1, 0, none⟩ = some (.int .i64 k)) (k1 : ∀ w', Ext W1 w' → w'.cell? ⟨b1, 1, none⟩ = some (.slice Ar n cr)) (k2 : ∀ w', Ext W1 w' → w'.cell? ⟨b1, 2, none⟩ = some (.slice Aa n ca))
    (hO : OwnL W1 W [.row 3 1 (.slice (some ⟨g0, 0, none⟩) 1 1) 1 (ordV [0]), .rows 31 3 1 (.slice none 0 0) [] ([].map iRow), .row 4 1 (.slice none 0 0) 0 ([].map .bool), .blk b4 (.cells #[.int .i64 k, .slice none 0 0, .slice none 0 0] 28 (0, 0))]) :
    Code.wp Tryd.prog (T43 4) (bodyPost Tryd.prog Tryd.f43 (MinP d w)) ⟨(c0 :: .pointer (some ⟨b1, 0, none⟩) :: .pointer (some ⟨b2, 0, none⟩) :: .slice (some ⟨br, or, none⟩) n ca2 :: .pointer (some ⟨b4, 0, none⟩) :: .slice (some ⟨g0, 0, none⟩) 1 1 :: c6 :: c7 :: c8 :: c9 :: c10 :: c11 :: c12 :: c13 :: c14 :: c15 :: c16 :: c17 :: c18 :: c19 :: c20 :: c21 :: c22 :: c23 :: c24 :: c25 :: c26 :: c27 :: c28 :: c29 :: c30 :: c31 :: c32 :: c33 :: c34 :: c35 :: c36 :: c37 :: c38 :: c39 :: c40 :: c41 :: c42 :: c43 :: c44 :: c45 :: c46 :: c47 :: c48 :: c49 :: c50 :: c51 :: c52 :: c53 :: c54 :: c55 :: c56 :: c57 :: c58 :: c59 :: c60 :: c61 :: c62 :: c63 :: c64 :: c65 :: c66 :: c67 :: c68 :: c69 :: c70 :: c71 :: c72 :: c73 :: c74 :: c75 :: c76 :: c77 :: c78 :: c79 :: c80 :: c81 :: c82 :: c83 :: c84 :: c85 :: c86 :: c87 :: c88 :: c89 :: c90 :: []).toArray, []⟩ W := by
  obtain ⟨i3, hi3, hz3, hs3, hb3⟩ := info_parts int_info
  obtain ⟨i4, hi4, hz4, hs4, hb4'⟩ := info_parts bool_info
  obtain ⟨i31, hi31, hz31, hs31, hb31⟩ := info_parts ints_info
  have hs1 := hg.size
  have hn2 : d.rows.length = n := hn
  have hn3 : 1 ≤ n ∧ n ≤ 256 := by omega
  have hk16 := hg.kk.2
  rw [hk] at hk16
  have HG := Lib.hid (And.intro hg (And.intro hn (And.intro hk (And.intro hn2 (And.intro hE1 (And.intro hap (And.intro hb2 hz2)))))))
  clear hg hn hk hn2 hs1 hE1 hap hb2 hz2
  conv => arg 2; whnf
  go_wp2
  go_loopw [5, 6] (fun ov iv wr => ∃ (i m cO gO : Nat) (ord : List Nat) (rowsv accv : Value) (vsr : List Value) (rows : List (List Int)), iv = .int .i64 i ∧ ov = .slice (some ⟨gO, 0, none⟩) m cO ∧ i ≤ m ∧ 1 ≤ m ∧ m ≤ n ∧ Hid (ord.length = m ∧ rows.length = i ∧ (∀ r ∈ rows, r.length = k)) ∧ Hid (MinI d ord rows) ∧
    OwnL W1 wr [.row 3 1 (.slice (some ⟨gO, 0, none⟩) m cO) m (ordV ord), .rows 31 3 1 rowsv vsr (rows.map iRow), .row 4 1 accv i (((ord.take i).map d.ac).map .bool), .blk b4 (.cells #[.int .i64 k, rowsv, accv] 28 (0, 0))]) (fun _ iv _ => n - (intOf iv).toNat)
  case atStart => exact ⟨0, 1, 1, g0, [0], _, _, [], [], rfl, rfl, by omega, by omega, by omega, Lib.hid ⟨rfl, rfl, fun r hr => by simp at hr⟩, Lib.hid (MinI.start HG.out.1), hO⟩
  case round =>
    clear hO
    obtain ⟨i, m, cO, gO, ord, rowsv, accv, vsr, rows, rfl, rfl, him, hm1, hmn, HL, HI, hO⟩ := hrel
    obtain ⟨W2, hW2⟩ : ∃ W, W = wr := ⟨_, rfl⟩; subst hW2
    by_cases hlt : i < m
    · have hltI : (i : Int) < (m : Int) := by omega
      go_wp2
      go_loopw [5, 7, 8] (fun ov rwv iv wr => ∃ (a m cO gO : Nat) (ord : List Nat) (rw_ : List Int), iv = .int .i64 a ∧ ov = .slice (some ⟨gO, 0, none⟩) m cO ∧ i < m ∧ m ≤ n ∧ a ≤ k ∧ Hid (ord.length = m ∧ rw_.length = a) ∧ Hid (MinI d ord (rows ++ [rw_])) ∧
        OwnL W1 wr [.row 3 1 rwv a (rw_.map (.int .i64)), .row 3 1 (.slice (some ⟨gO, 0, none⟩) m cO) m (ordV ord), .rows 31 3 1 rowsv vsr (rows.map iRow), .row 4 1 accv i (((ord.take i).map d.ac).map .bool), .blk b4 (.cells #[.int .i64 k, rowsv, accv] 28 (0, 0))]) (fun _ _ iv _ => k - (intOf iv).toNat)
      case atStart => exact ⟨0, m, cO, gO, ord, [], rfl, rfl, hlt, hmn, by omega, Lib.hid ⟨HL.out.1, rfl⟩, Lib.hid HI.out.open, hO.add (Ext.refl _) (A := .row 3 1 (.slice none 0 0) 0 []) (World.ownsRow_nil _ _ _ _)⟩
      case round =>
        clear hO
        obtain ⟨a, M, cc, gg, od, rw_, rfl, rfl, hiM, hMn, hak, HM, HJ, hO⟩ := hrel
        obtain ⟨W3, hW3⟩ : ∃ W, W = wr := ⟨_, rfl⟩; subst hW3
        have kk0 := k0 W3 hO.ext
        by_cases hla : a < k
        · have hlaI : (a : Int) < (k : Int) := by omega
          have hiMI : (i : Int) < (M : Int) := by omega
          obtain ⟨p, hp⟩ : ∃ p, od[i]? = some p := ⟨_, List.getElem?_eq_getElem (by rw [HM.out.1]; exact hiM)⟩
          have hpn : p < n := by have := HJ.out.lt p (List.mem_of_getElem? hp); rw [HG.out.2.1] at this; exact this
          have hpd : p < d.n := by rw [HG.out.2.1]; exact hpn
          have had : a < d.k := by rw [HG.out.2.2.1]; exact hla
          obtain ⟨br2, or2, hAr, hcl⟩ := dfa_at (by have := hr.ext hO.ext; rw [← HG.out.2.2.2.1] at this; exact this) HG.out.1
          obtain ⟨bx, ox, c2, e0, f0⟩ := hcl p a hpd had
          rw [HG.out.2.2.1] at e0
          have hq := HG.out.1.to_lt hpd had
          have hqn : d.to p a < n := by rw [HG.out.2.1] at hq; exact hq
          have kk1 := k1 W3 hO.ext
          rw [hAr] at kk1
          have co := cell_own hO 1 rfl (ordV_at hp)
          have hpnI : (p : Int) < (n : Int) := by omega
          have hrow : rows.length = i := HL.out.2.1
          have HP := Lib.hid (And.intro hp (And.intro hq (And.intro hrow had)))
          have HO := Lib.hid hO
          clear hp hpd had hcl hq hAr hrow hO
          generalize hT : d.to p a = T at *
          have HT := Lib.hid hT
          clear hT
          go_upto_region 11 with fail
          go_quiet (fail)
          go_upto_region 12 with fail
          refine wp_named ?_
          intro W4 hW4
          have hO4 : OwnL W1 W4 [.row 3 1 u7 a (rw_.map (.int .i64)), .row 3 1 (.slice (some ⟨gg, 0, none⟩) M cc) M (ordV od), .rows 31 3 1 rowsv vsr (rows.map iRow), .row 4 1 accv i (((od.take i).map d.ac).map .bool), .blk b4 (.cells #[.int .i64 k, rowsv, accv] 28 (0, 0))] := by rw [hW4]; exact HO.out.trans ((Ext.refl _).drewN _)
          clear hW4 HO kk0 kk1 e0 f0 co
          obtain ⟨br3, or3, hv3, hac3⟩ := ap_at (hlm.ext hO4.ext) HG.out.2.2.2.2.2.1 HG.out.2.1 (by omega)
          have hv3 : br3 = br ∧ or3 = or := by injection hv3 with hv3; injection hv3 with hv3; injection hv3 with h1 h2; exact ⟨h1.symm, h2.symm⟩
          rw [hv3.1, hv3.2] at hac3
          have HO4 := Lib.hid hO4
          have HAC := Lib.hid hac3
          clear hO4 hac3 hv3
          go_wp2
          go_loop [10] (fun nv => ∃ j : Nat, nv = .int .i64 j ∧ j ≤ M ∧ Hid (∀ (j' q : Nat), j' < j → od[j']? = some q → mAt mm q T = 1)) (fun nv => M - (intOf nv).toNat)
          case atStart => exact ⟨0, rfl, by omega, Lib.hid (fun j' q h => by omega)⟩
          case round =>
            obtain ⟨j, rfl, hj, HN⟩ := hrel
            by_cases hjm : j < M
            · have hjmI : (j : Int) < (M : Int) := by omega
              obtain ⟨q, hq⟩ : ∃ q, od[j]? = some q := ⟨_, List.getElem?_eq_getElem (by rw [HM.out.1]; exact hjm)⟩
              have hqm := HJ.out.lt q (List.mem_of_getElem? hq)
              have hqn2 : q < n := by rw [HG.out.2.1] at hqm; exact hqm
              obtain ⟨bx, ox, c3, e0, f0⟩ := HAC.out q T hqn2 hqn
              have co := cell_own HO4.out 1 rfl (ordV_at hq)
              have hqI : (q : Int) < (n : Int) := by omega
              have hTI : (T : Int) < (n : Int) := by omega
              have HQ := Lib.hid hq
              clear hqm hq
              rcases HG.out.2.2.2.2.2.1.val q T with hz | hz
              · rw [hz] at f0
                have hJ2 := HJ.out.found (q := q) (n := j) (by rw [HP.out.2.2.1]; exact HP.out.1) HQ.out (by rw [HM.out.2, HT.out]; exact ((HG.out.2.2.2.2.2.1.iff q T (by rw [HG.out.2.1]; exact hqn2) (by rw [HG.out.2.1]; exact hqn)).1 hz).symm rfl)
                have HJ2 := Lib.hid hJ2
                have hownR : W4.ownsRow W1.heap.size 3 1 u7 a (rw_.map (.int .i64)) := HO4.out.get 0 rfl
                have hsz := HO4.out.ext.size
                clear hz hJ2
                go_upto_region 17 with fail
                go_wp2_with (at_builtin; refine wpList_append_own2 rfl _ _ 31 rfl W1.heap.size 3 i3 (.int .i64 0) 1 8 Tryd.underlying31 hi3 hz3 hs3 hb3 rfl (by decide) u7 a (rw_.map (.int .i64)) rfl (World.ownsRow.alloc hownR _) ⟨W4.heap.size, 0, none⟩ 1 1 [.int .i64 j] rfl rfl (new_cell _ _ _ _ rfl) (one_int _) (by unfold maxLen; omega) (by omega) (by simp; omega) ?_; intro v9 w9 hown9 hg9 hb9)
                have hO9 := (HO4.out.trans (alloc_ext W4 (.cells #[.int .i64 j] 3))).app 0 rfl hg9 hown9 hb9
                have hO9 : OwnL W1 w9 [.row 3 1 v9 (a + 1) ((rw_ ++ [(j : Int)]).map (.int .i64)), .row 3 1 (.slice (some ⟨gg, 0, none⟩) M cc) M (ordV od), .rows 31 3 1 rowsv vsr (rows.map iRow), .row 4 1 accv i (((od.take i).map d.ac).map .bool), .blk b4 (.cells #[.int .i64 k, rowsv, accv] 28 (0, 0))] := by rw [List.map_append (f := Value.int .i64)]; exact hO9
                exact ⟨⟨a + 1, M, cc, gg, od, rw_ ++ [(j : Int)], by go_num, rfl, hiM, hMn, by omega, Lib.hid ⟨HM.out.1, by simp [HM.out.2]⟩, HJ2, hO9⟩, by simp [intOf]; omega⟩
              · rw [hz] at f0
                have hnx : ∀ (j' q' : Nat), j' < j + 1 → od[j']? = some q' → mAt mm q' T = 1 := fun j' q' hlt hq' => by
                  by_cases he : j' = j
                  · rw [he, HQ.out] at hq'; cases hq'; exact hz
                  · exact HN.out j' q' (by omega) hq'
                have HNX := Lib.hid hnx
                clear hnx hz
                go_wp2
                exact ⟨⟨j + 1, by go_num, by omega, HNX⟩, by simp [intOf]; omega⟩
            · obtain rfl : j = M := by omega
              have hJ2 := HJ.out.fresh (p := p) (by rw [HP.out.2.2.1, HM.out.1]; exact hiM) (by rw [HM.out.2]; exact HP.out.2.2.2) (by rw [HP.out.2.2.1]; exact HP.out.1) (by rw [HM.out.2, HT.out, HG.out.2.1]; exact hqn) (fun q hq hl => by
                obtain ⟨j', hj'⟩ := List.getElem?_of_mem hq
                rw [HM.out.2, HT.out] at hl
                have hq2 := HJ.out.lt q hq
                have h1 := (HG.out.2.2.2.2.2.1.iff q T hq2 (by rw [HG.out.2.1]; exact hqn)).2 hl
                have h2 := HN.out j' q (by rw [← HM.out.1]; exact (List.getElem?_eq_some_iff.1 hj').1) hj'
                omega)
              rw [HM.out.2, HT.out, HM.out.1] at hJ2
              have hb2 := hJ2.bound
              rw [List.length_append, HM.out.1, HG.out.2.1] at hb2
              have hb2 : j + 1 ≤ n := hb2
              have HJ2 := Lib.hid hJ2
              have hownS : W4.ownsRow W1.heap.size 3 1 (.slice (some ⟨gg, 0, none⟩) j cc) j (ordV od) := HO4.out.get 1 rfl
              have hsz := HO4.out.ext.size
              clear hJ2
              go_upto_region 17 with (at_builtin; refine wpList_append_own2 rfl _ _ 31 rfl W1.heap.size 3 i3 (.int .i64 0) 1 8 Tryd.underlying31 hi3 hz3 hs3 hb3 rfl (by decide) (.slice (some ⟨gg, 0, none⟩) j cc) j (ordV od) rfl (World.ownsRow.alloc hownS _) ⟨W4.heap.size, 0, none⟩ 1 1 [.int .i64 T] rfl rfl (new_cell _ _ _ _ rfl) (one_int _) (by unfold maxLen; omega) (by omega) (by simp; omega) ?_; intro v8 w8 hown8 hg8 hb8)
              obtain ⟨g8, c9, rfl⟩ := ownsRow_pos hown8 (by omega)
              have hO8 := (HO4.out.trans (alloc_ext W4 (.cells #[.int .i64 T] 3))).app 1 rfl hg8 hown8 hb8
              have htk : (od ++ [T]).take i = od.take i := List.take_append_of_le_length (by rw [HM.out.1]; omega)
              have hO8 : OwnL W1 w8 [.row 3 1 u7 a (rw_.map (.int .i64)), .row 3 1 (.slice (some ⟨g8, 0, none⟩) (j + 1) c9) (j + 1) (ordV (od ++ [T])), .rows 31 3 1 rowsv vsr (rows.map iRow), .row 4 1 accv i ((((od ++ [T]).take i).map d.ac).map .bool), .blk b4 (.cells #[.int .i64 k, rowsv, accv] 28 (0, 0))] := by rw [htk, ← ordV_snoc]; exact hO8
              have hownR : w8.ownsRow W1.heap.size 3 1 u7 a (rw_.map (.int .i64)) := hO8.get 0 rfl
              have hsz := hO8.ext.size
              have HO8 := Lib.hid hO8
              clear hO8 hown8 hg8 hb8 hownS htk
              go_wp2_with (at_builtin; refine wpList_append_own2 rfl _ _ 31 rfl W1.heap.size 3 i3 (.int .i64 0) 1 8 Tryd.underlying31 hi3 hz3 hs3 hb3 rfl (by decide) u7 a (rw_.map (.int .i64)) rfl (World.ownsRow.alloc hownR _) ⟨w8.heap.size, 0, none⟩ 1 1 [.int .i64 j] rfl rfl (new_cell _ _ _ _ rfl) (one_int _) (by unfold maxLen; omega) (by omega) (by simp; omega) ?_; intro v9 w9 hown9 hg9 hb9)
              have hO9 := (HO8.out.trans (alloc_ext w8 (.cells #[.int .i64 j] 3))).app 0 rfl hg9 hown9 hb9
              have hO9 : OwnL W1 w9 [.row 3 1 v9 (a + 1) ((rw_ ++ [(j : Int)]).map (.int .i64)), .row 3 1 (.slice (some ⟨g8, 0, none⟩) (j + 1) c9) (j + 1) (ordV (od ++ [T])), .rows 31 3 1 rowsv vsr (rows.map iRow), .row 4 1 accv i ((((od ++ [T]).take i).map d.ac).map .bool), .blk b4 (.cells #[.int .i64 k, rowsv, accv] 28 (0, 0))] := by rw [List.map_append (f := Value.int .i64)]; exact hO9
              exact ⟨⟨a + 1, j + 1, c9, g8, od ++ [T], rw_ ++ [(j : Int)], by go_num, rfl, by omega, hb2, by omega, Lib.hid ⟨by simp [HM.out.1], by simp [HM.out.2]⟩, HJ2, hO9⟩, by simp [intOf]; omega⟩
        · obtain rfl : a = k := by omega
          have hiMI : (i : Int) < (M : Int) := by omega
          have hO1 := hO.perm (.cons _ (.swap _ _ _))
          have hown6 : W3.ownsRow W1.heap.size 3 1 u7 a (rw_.map (.int .i64)) := hO1.get 0 rfl
          obtain ⟨A6, c6', rfl⟩ := own_form hown6
          have hrows : OwnRows W3 W1.heap.size 31 3 1 rowsv vsr (rows.map iRow) := hO1.get 1 rfl
          have hvl : vsr.length = i := by have := hrows.len; rw [List.length_map, HL.out.2.1] at this; exact this
          have hownR := hrows.own
          obtain ⟨Arr, crr, rfl⟩ := own_form hownR
          rw [hvl] at hownR
          have d1 : ∀ w', Ext W3 w' → w'.cell? ⟨b4, 1, none⟩ = some (.slice Arr vsr.length crr) := fun w' h => h.cell (cell_of_blk (hO1.get 4 rfl).2 1 rfl)
          rw [hvl] at d1 hO1
          have hE0 := Ext.refl W3
          have hsz := hO.ext.size
          have HO := Lib.hid hO1
          have HVL := Lib.hid hvl
          clear hO hO1 hvl hrows hown6
          go_upto_region 19 with (at_builtin; refine wpList_append_own2 rfl _ _ 25 rfl W1.heap.size 31 i31 (.slice none 0 0) 1 24 Tryd.underlying25 hi31 hz31 hs31 hb31 rfl (by decide) (.slice Arr i crr) i vsr rfl (World.ownsRow.alloc hownR _) ⟨W3.heap.size, 0, none⟩ 1 1 [.slice A6 a c6'] rfl rfl (new_cell _ _ _ _ rfl) (one_slice _ _ _) (by unfold maxLen; omega) (by omega) (by simp; omega) ?_; intro v5 w5 hown5 hg5 hb5; obtain ⟨g5, c5', rfl⟩ := ownsRow_pos hown5 (by omega); have hO5 := push_at (HO.out.trans (alloc_ext W3 (.cells #[.slice A6 a c6'] 31))) HVL.out hg5 hown5 hb5; have d6 := cell_of_blk (hO5.get 3 rfl).2 1 (u := .slice Arr i crr) rfl; have f6 := free_of_blk (hO5.get 3 rfl).2 1; have HO5 := Lib.hid hO5; clear hO5 hb5)
          have hO6 := HO5.out.put 3 rfl 1 (.slice (some ⟨g5, 0, none⟩) (i + 1) c5')
          have hO6 : OwnL W1 (w5.setCell ⟨b4, 1, none⟩ (.slice (some ⟨g5, 0, none⟩) (i + 1) c5')) [.rows 31 3 1 (.slice (some ⟨g5, 0, none⟩) (i + 1) c5') (vsr ++ [.slice A6 a c6']) (rows.map iRow ++ [(a, rw_.map (.int .i64))]), .row 3 1 (.slice (some ⟨gg, 0, none⟩) M cc) M (ordV od), .row 4 1 accv i (((od.take i).map d.ac).map .bool), .blk b4 (.cells #[.int .i64 a, .slice (some ⟨g5, 0, none⟩) (i + 1) c5', accv] 28 (0, 0))] := hO6
          rw [show rows.map iRow ++ [(a, rw_.map (Value.int .i64))] = (rows ++ [rw_]).map iRow by rw [List.map_append]; show _ = _ ++ [iRow rw_]; unfold iRow; rw [HM.out.2]] at hO6
          refine wp_named ?_
          intro W6 hW6
          rw [← hW6] at hO6
          clear hW6 d1 d6 f6 HO5 HO hown5 hg5 hownR
          obtain ⟨p, hp⟩ : ∃ p, od[i]? = some p := ⟨_, List.getElem?_eq_getElem (by rw [HM.out.1]; exact hiM)⟩
          have hpd := HJ.out.lt p (List.mem_of_getElem? hp)
          have hpn : p < n := by rw [HG.out.2.1] at hpd; exact hpd
          obtain ⟨ga, oa, hAa, c1⟩ := HG.out.1.acc_at hac hpd
          have cE : ∀ w', Ext W1 w' → w'.cell? ⟨ga, oa + p, none⟩ = some (.bool (d.ac p)) := fun w' h => h.cell c1
          have kE : ∀ w', Ext W1 w' → w'.cell? ⟨b1, 2, none⟩ = some (.slice (some ⟨ga, oa, none⟩) n ca) := fun w' h => by rw [← hAa]; exact k2 w' h
          have HPP := Lib.hid hp
          have hownA : W6.ownsRow W1.heap.size 4 1 accv i (((od.take i).map d.ac).map .bool) := hO6.get 2 rfl
          obtain ⟨Aac, cac, rfl⟩ := own_form hownA
          have co := cell_own hO6 1 rfl (ordV_at hp)
          have d2 := cell_of_blk (hO6.get 3 rfl).2 2 (u := .slice Aac i cac) rfl
          have kk2 := kE W6 hO6.ext
          have c1 := cE W6 hO6.ext
          have htk : ((od.take i).map d.ac) ++ [d.ac p] = (od.take (i + 1)).map d.ac := by
            obtain ⟨hi2, he⟩ := List.getElem?_eq_some_iff.1 hp
            rw [List.take_succ_eq_append_getElem hi2, List.map_append, he]; rfl
          have HTK := Lib.hid htk
          have hpnI : (p : Int) < (n : Int) := by omega
          have hsz := hO6.ext.size
          clear htk hp hpd hAa
          generalize d.ac p = g at *
          have hS0 : S19 b4 b1 gg i ga oa n (.slice Aac i cac) Aa n ca p g W6.drew := ⟨(drew_ext _).cell d2, (drew_ext _).cell kk2, (drew_ext _).cell co, (drew_ext _).cell c1⟩
          clear d2 co c1 kk2
          refine wp_region_bar 12 (S19 b4 b1 gg i ga oa n (.slice Aac i cac) Aa n ca p g) (by kernel_rfl) ?_
          refine wpAnyB_take (i := 0) (v := ?_) rfl (by kernel_rfl) (by kernel_rfl) (by kernel_rfl) (by kernel_rfl) (fun _ _ _ h => h) (Or.inl ⟨by rfl, ?_⟩) hS0 ?_
          rotate_left
          · (intro w hSw; obtain ⟨s1, s2, s3, s4⟩ := hSw; go_simp; first | done | with_reducible rfl)
          try simp only [Act.put, List.setIfInBounds_toArray, List.set_cons_zero, List.set_cons_succ]
          refine wpAnyB_take (i := 1) (v := ?_) rfl (by kernel_rfl) (by kernel_rfl) (by kernel_rfl) (by kernel_rfl) (fun _ _ _ h => h) (Or.inl ⟨by rfl, ?_⟩) hS0 ?_
          rotate_left
          · (intro w hSw; obtain ⟨s1, s2, s3, s4⟩ := hSw; go_simp; first | done | with_reducible rfl)
          try simp only [Act.put, List.setIfInBounds_toArray, List.set_cons_zero, List.set_cons_succ]
          refine wpAnyB_take (i := 2) (v := ?_) rfl (by kernel_rfl) (by kernel_rfl) (by kernel_rfl) (by kernel_rfl) (fun _ _ _ h => h) (Or.inl ⟨by rfl, ?_⟩) hS0 ?_
          rotate_left
          · (intro w hSw; obtain ⟨s1, s2, s3, s4⟩ := hSw; go_simp; first | done | with_reducible rfl)
          try simp only [Act.put, List.setIfInBounds_toArray, List.set_cons_zero, List.set_cons_succ]
          refine wpAnyB_take (i := 3) (v := ?_) rfl (by kernel_rfl) (by kernel_rfl) (by kernel_rfl) (by kernel_rfl) (fun _ _ _ h => h) (Or.inl ⟨by rfl, ?_⟩) hS0 ?_
          rotate_left
          · (intro w hSw; obtain ⟨s1, s2, s3, s4⟩ := hSw; go_simp; first | done | with_reducible rfl)
          try simp only [Act.put, List.setIfInBounds_toArray, List.set_cons_zero, List.set_cons_succ]
          refine wpAnyB_take (i := 4) (v := ?_) rfl (by kernel_rfl) (by kernel_rfl) (by kernel_rfl) (by kernel_rfl) (fun _ _ _ h => h) (Or.inl ⟨by rfl, ?_⟩) hS0 ?_
          rotate_left
          · (intro w hSw; obtain ⟨s1, s2, s3, s4⟩ := hSw; go_simp; first | done | with_reducible rfl)
          try simp only [Act.put, List.setIfInBounds_toArray, List.set_cons_zero, List.set_cons_succ]
          refine wpAnyB_take (i := 5) (v := ?_) rfl (by kernel_rfl) (by kernel_rfl) (by kernel_rfl) (by kernel_rfl) (fun _ _ _ h => h) (Or.inl ⟨by rfl, ?_⟩) hS0 ?_
          rotate_left
          · (intro w hSw; obtain ⟨s1, s2, s3, s4⟩ := hSw; go_simp; first | done | with_reducible rfl)
          try simp only [Act.put, List.setIfInBounds_toArray, List.set_cons_zero, List.set_cons_succ]
          refine wpAnyB_take (i := 6) (v := ?_) rfl (by kernel_rfl) (by kernel_rfl) (by kernel_rfl) (by kernel_rfl) (fun _ _ _ h => h) (Or.inl ⟨by rfl, ?_⟩) hS0 ?_
          rotate_left
          · (intro w hSw; obtain ⟨s1, s2, s3, s4⟩ := hSw; go_simp; first | done | with_reducible rfl)
          try simp only [Act.put, List.setIfInBounds_toArray, List.set_cons_zero, List.set_cons_succ]
          refine wpAnyB_take (i := 7) (v := ?_) rfl (by kernel_rfl) (by kernel_rfl) (by kernel_rfl) (by kernel_rfl) (fun _ _ _ h => h) (Or.inl ⟨by rfl, ?_⟩) hS0 ?_
          rotate_left
          · (intro w hSw; obtain ⟨s1, s2, s3, s4⟩ := hSw; go_simp; first | done | with_reducible rfl)
          try simp only [Act.put, List.setIfInBounds_toArray, List.set_cons_zero, List.set_cons_succ]
          refine wpAnyB_take (i := 8) (v := ?_) rfl (by kernel_rfl) (by kernel_rfl) (by kernel_rfl) (by kernel_rfl) (fun _ _ _ h => h) (Or.inl ⟨by rfl, ?_⟩) hS0 ?_
          rotate_left
          · (intro w hSw; obtain ⟨s1, s2, s3, s4⟩ := hSw; go_simp; first | done | with_reducible rfl)
          try simp only [Act.put, List.setIfInBounds_toArray, List.set_cons_zero, List.set_cons_succ]
          refine wpAnyB_take (i := 9) (v := ?_) rfl (by kernel_rfl) (by kernel_rfl) (by kernel_rfl) (by kernel_rfl) (fun _ _ _ h => h) (Or.inl ⟨by rfl, ?_⟩) hS0 ?_
          rotate_left
          · (intro w hSw; obtain ⟨s1, s2, s3, s4⟩ := hSw; go_simp; first | done | with_reducible rfl)
          try simp only [Act.put, List.setIfInBounds_toArray, List.set_cons_zero, List.set_cons_succ]
          refine wpAnyB_ready (rs := [10]) (by kernel_rfl) (by simp) (AllB.cons rfl (fun K hK => ?_) AllB.nil)
          go_simp
          refine hK.out _ _ (S19.ext hS0 (alloc_ext _ _)) ?_
          clear hK K
          try simp only [Act.put, List.setIfInBounds_toArray, List.set_cons_zero, List.set_cons_succ]
          refine wpAnyB_ready (rs := [11]) (by kernel_rfl) (by simp) (AllB.cons rfl (fun K hK => ?_) AllB.nil)
          refine step_append_own2 rfl _ _ 26 rfl W1.heap.size 4 i4 (.bool false) 1 1 Tryd.underlying26 hi4 hz4 hs4 hb4' rfl (by decide) (.slice Aac i cac) i (((od.take i).map d.ac).map .bool) (by rfl) ((hO6.trans (by repeat (first | exact Ext.refl _ | refine Ext.drew ?_ | refine Ext.alloc ?_ _))).get 2 rfl) ⟨_, 0, none⟩ 1 1 [.bool g] (by rfl) rfl (new_cell _ _ _ _ (by simp)) (one_bool _) (by unfold maxLen; omega) (by omega) (by simp; omega) ?_
          intro v8 w8 hown8 hg8 hb8
          obtain ⟨g8, c8', rfl⟩ := ownsRow_pos hown8 (by omega)
          have hO8 := (hO6.trans (by repeat (first | exact Ext.refl _ | refine Ext.drew ?_ | refine Ext.alloc ?_ _))).app 2 rfl hg8 hown8 hb8
          have f8 := free_of_blk (hO8.get 3 rfl).2
          have d8 := cell_of_blk (hO8.get 3 rfl).2 2 (u := .slice Aac i cac) rfl
          have hS8 : S19 b4 b1 gg i ga oa n (.slice Aac i cac) Aa n ca p g w8 := ⟨d8, kE w8 hO8.ext, cell_own hO8 1 rfl (ordV_at HPP.out), cE w8 hO8.ext⟩
          refine hK.out _ _ hS8 ?_
          clear hK K hb8 hg8 hown8 hS8 hS0 hsz
          try simp only [Act.put, List.setIfInBounds_toArray, List.set_cons_zero, List.set_cons_succ]
          refine wpAnyB_tail rfl rfl (by decide) (by kernel_rfl) ?_
          have hO9 := hO8.put 3 rfl 2 (.slice (some ⟨g8, 0, none⟩) (i + 1) c8')
          have hO9 : OwnL W1 (w8.setCell ⟨b4, 2, none⟩ (.slice (some ⟨g8, 0, none⟩) (i + 1) c8')) [.rows 31 3 1 (.slice (some ⟨g5, 0, none⟩) (i + 1) c5') (vsr ++ [.slice A6 a c6']) ((rows ++ [rw_]).map iRow), .row 3 1 (.slice (some ⟨gg, 0, none⟩) M cc) M (ordV od), .row 4 1 (.slice (some ⟨g8, 0, none⟩) (i + 1) c8') (i + 1) (((od.take (i + 1)).map d.ac).map .bool), .blk b4 (.cells #[.int .i64 a, .slice (some ⟨g5, 0, none⟩) (i + 1) c5', .slice (some ⟨g8, 0, none⟩) (i + 1) c8'] 28 (0, 0))] := by rw [← HTK.out, List.map_append (f := Value.bool)]; exact hO9
          have HO9 := Lib.hid hO9.swap
          clear hO9 hO8 hO6 hownA cE kE
          go_wp2
          exact ⟨⟨i + 1, M, cc, gg, od, _, _, _, rows ++ [rw_], by go_num, rfl, by omega, by omega, hMn, Lib.hid ⟨HM.out.1, by simp [HL.out.2.1], fun r hr => by
            rcases List.mem_append.1 hr with hr | hr
            · exact HL.out.2.2 r hr
            · rw [List.mem_singleton.1 hr]; exact HM.out.2⟩, HJ, HO9.out⟩, by simp [intOf]; omega⟩
    · obtain rfl : i = m := by omega
      have hrows : OwnRows W2 W1.heap.size 31 3 1 rowsv vsr (rows.map iRow) := hO.get 1 rfl
      have hvl : vsr.length = i := by have := hrows.len; rw [List.length_map, HL.out.2.1] at this; exact this
      obtain ⟨Arr, crr, rfl⟩ := own_form hrows.own
      have hownA : W2.ownsRow W1.heap.size 4 1 accv i (((ord.take i).map d.ac).map .bool) := hO.get 2 rfl
      obtain ⟨Aac, cac, rfl⟩ := own_form hownA
      rw [hvl] at hO
      have d0 : ∀ w', Ext W2 w' → w'.cell? ⟨b4, 0, none⟩ = some (.int .i64 k) := fun w' h => h.cell (cell_of_blk (hO.get 3 rfl).2 0 rfl)
      have d1 : ∀ w', Ext W2 w' → w'.cell? ⟨b4, 1, none⟩ = some (.slice Arr i crr) := fun w' h => h.cell (cell_of_blk (hO.get 3 rfl).2 1 rfl)
      have d2 : ∀ w', Ext W2 w' → w'.cell? ⟨b4, 2, none⟩ = some (.slice Aac i cac) := fun w' h => h.cell (cell_of_blk (hO.get 3 rfl).2 2 rfl)
      have hE0 := Ext.refl W2
      have hzz := heap_ext hO.ext HG.out.2.2.2.2.2.2.2
      have hlt2 := lt_of_block HG.out.2.2.2.2.2.2.2
      have hE9 := HG.out.2.2.2.2.1.trans hO.ext
      have HO := Lib.hid hO
      clear hO hrows hownA hvl
      go_wp2_with (with_reducible refine wpList_store_blk _ rfl 28 _ _ rfl b2 28 _ _ rfl rfl hzz (by kernel_rfl) (by kernel_rfl) (by kernel_rfl) ?_; intro w8 h8 g8)
      refine bodyPost_ret (results_cell_row rfl _ _ b2 28 _ (0, 0) _ (by simp [Act.put]) h8 Tryd.underlying28 rfl (by kernel_rfl)) rfl ?_
      have hE1 := HG.out.2.2.2.2.1
      have hkd : d.sy = (k : Int) := by rw [← HG.out.2.2.1]; exact HG.out.1.kk.1.symm
      have hdone := HI.out.done HG.out.1 (by rw [HL.out.1, HL.out.2.1]) (fun r hr => by rw [HL.out.2.2 r hr, HG.out.2.2.1])
      have htk : ord.take i = ord := by rw [← HL.out.1, List.take_length]
      refine ⟨_, _, rfl, fun w2 hw2 => ?_, hdone.1, hdone.2, rfl, ?_, ?_⟩
      · have hk : ∀ A ∈ _, Asn.ok W1.heap.size w2 A := fun A hA => Asn.of (HO.out.ok A hA) (fun b hb => by
          have h1 := Asn.lt (HO.out.ok A hA) hb
          have h2 := g8.block b h1.2 (fun e => by cases e; omega)
          exact (hw2 b (Nat.le_trans hE1.size h1.1) (Nat.lt_of_lt_of_le h1.2 g8.size)).trans h2)
        have hr2 : OwnRows w2 W1.heap.size 31 3 1 (.slice Arr i crr) vsr (rows.map iRow) := hk (.rows 31 3 1 (.slice Arr i crr) vsr (rows.map iRow)) (by simp)
        have ha2 : w2.ownsRow W1.heap.size 4 1 (.slice Aac i cac) i (((ord.take i).map d.ac).map .bool) := hk (.row 4 1 (.slice Aac i cac) i (((ord.take i).map d.ac).map .bool)) (by simp)
        rw [htk] at ha2
        obtain ⟨c9, hac9⟩ := bools_of_owns ha2 (by simp [HL.out.1]) (by unfold lenMax; omega)
        refine ⟨_, crr, _, c9, ?_, listsC_of_own hr2 HL.out.2.1 (by unfold lenMax; omega) (fun r hr => by rw [HL.out.2.2 r hr]; unfold lenMax; omega), hac9⟩
        rw [hkd]
      · have := HI.out.bound
        show rows.length ≤ d.n
        rw [HL.out.2.1, HG.out.2.1]; exact hmn
      · exact Below.grown hE9 g8 hE9.size (fun k hk => by cases hk; exact HG.out.2.2.2.2.2.2.1)
end Go.Proofs.YthlnmcokgfpgmaaDoor

namespace Go.Proofs.YthlnmcokgfpgmaaDoor
open Go.RowKit Go.Maps
set_option linter.unusedVariables false
set_option linter.unusedSimpArgs false
attribute [local go_sem] Oper.quietV quietV Oper.gives givesV ext_refl_iff ext_alloc_iff ext_drew_iff ext_drewN_iff
theorem min_own {W1 w7 : World} {gs : Nat} {L0 : Asn} (hE : Ext W1 w7) (h : w7.heap[gs]? = some (.cells #[.int .i64 0] 3 (0, 0))) (h0 : L0.ok W1.heap.size w7) (hf : ∀ b, L0.foot b → b ≠ gs) (hg : W1.heap.size ≤ gs) :
    OwnL W1 w7 [.row 3 1 (.slice (some ⟨gs, 0, none⟩) 1 1) 1 (ordV [0]), .rows 31 3 1 (.slice none 0 0) [] ([].map iRow), .row 4 1 (.slice none 0 0) 0 ([].map .bool), L0] := by
  refine ⟨hE, fun A hA => ?_, ?_⟩
  · simp only [List.mem_cons, List.not_mem_nil, or_false] at hA
    rcases hA with rfl | rfl | rfl | rfl
    · exact ⟨rfl, .inr ⟨gs, 1, _, rfl, hg, h, Nat.le_refl _, by unfold maxLen; omega, by simp, by simp [ordV]⟩⟩
    · exact ⟨World.ownsRow_nil _ _ _ _, rfl, fun j u r h => by simp at h, fun i j u u' h => by simp at h, fun j u h => by simp at h⟩
    · exact World.ownsRow_nil _ _ _ _
    · exact h0
  · refine List.pairwise_cons.2 ⟨fun A hA b hb hb' => ?_, List.pairwise_cons.2 ⟨fun A hA b hb => ?_, List.pairwise_cons.2 ⟨fun A hA b hb => (by cases hb), List.pairwise_singleton _ _⟩⟩⟩
    · cases hb
      simp only [List.mem_cons, List.not_mem_nil, or_false] at hA
      rcases hA with rfl | rfl | rfl
      · rcases hb' with hb' | ⟨u, hu, _⟩
        · cases hb'
        · cases hu
      · cases hb'
      · exact hf _ hb' rfl
    · rcases hb with hb | ⟨u, hu, _⟩
      · cases hb
      · cases hu
set_option maxRecDepth 100000 in
set_option maxHeartbeats 4000000 in
theorem min_any (w : World) (dv : Value) (d : Dfa) (hd : DfaV w dv d) (hg : Good d) : Calls Tryd.prog 43 #[dv] w (MinP d w) := by
  obtain ⟨rv, cr, av, ca, rfl, hr, ha⟩ := id hd
  obtain ⟨Ar, vr, rfl, _, _, _, _, hrm⟩ := id hr
  obtain ⟨Aa, rfl, hac, _, ham⟩ := id ha
  unfold lenMax at hrm ham
  obtain ⟨n, hn⟩ : ∃ n, d.n = n := ⟨_, rfl⟩
  obtain ⟨k, hk⟩ : ∃ k, d.k = k := ⟨_, rfl⟩
  have hn2 : d.rows.length = n := hn
  have hsz := hg.size
  have hn3 : 1 ≤ n ∧ n ≤ 256 := by omega
  have hsy : d.sy = (k : Int) := by rw [← hk]; exact hg.kk.1.symm
  have hac2 : d.acc.length = n := by rw [hg.acc, hn2]
  have hap := fun W (e : Ext w W) => apart_any W _ d (hd.ext e) hg
  rw [hsy, hn2, hac2] at hap
  have HG := Lib.hid (And.intro hg (And.intro hn (And.intro hk (And.intro hn2 hac2))))
  rw [hsy, hn2, hac2]
  rw [hn2] at hr
  clear hg hn hk hn2 hsz hsy hac2 hd ha
  go_enter Tryd.func43, Tryd.ntmps43
  go_upto_region 1 with fail
  refine wp_named ?_
  intro W1 hW1
  have hE1 : Ext w W1 := by rw [hW1]; exact ((Ext.refl _).alloc _).alloc _
  have k0 : ∀ w', Ext W1 w' → w'.cell? ⟨w.heap.size, 0, none⟩ = some (.int .i64 k) := fun w' h => h.cell (by rw [hW1]; simp [go_sem])
  have k1 : ∀ w', Ext W1 w' → w'.cell? ⟨w.heap.size, 1, none⟩ = some (.slice Ar n cr) := fun w' h => h.cell (by rw [hW1]; simp [go_sem])
  have k2 : ∀ w', Ext W1 w' → w'.cell? ⟨w.heap.size, 2, none⟩ = some (.slice Aa n ca) := fun w' h => h.cell (by rw [hW1]; simp [go_sem])
  have kb : W1.heap[w.heap.size + 1]? = some (.cells #[.int .i64 0, .slice none 0 0, .slice none 0 0] 28 (0, 0)) := by
    rw [hW1]; have h9 := heap_alloc_new (w.alloc (.cells #[.int .i64 k, .slice Ar n cr, .slice Aa n ca] 28)) (.cells #[.int .i64 0, .slice none 0 0, .slice none 0 0] 28 (0, 0)); simpa using h9
  have HB := Lib.hid (show w.heap.size ≤ w.heap.size + 1 by omega)
  clear hW1
  generalize w.heap.size + 1 = b2 at *
  generalize hb1 : w.heap.size = b1 at *
  have hE0 := Ext.refl W1
  have hapW := hap W1 hE1
  clear hap
  go_upto_region 2 with ((with_reducible refine hapW.mono ?_); rintro e wB ⟨v3, mm, c3, rfl, hok, hl3, eB⟩)
  obtain ⟨br, or, rfl, _⟩ := ap_at hl3 hok HG.out.2.1 (by omega)
  have k0 := fun w' (h : Ext wB w') => k0 w' (eB.trans h)
  have k1 := fun w' (h : Ext wB w') => k1 w' (eB.trans h)
  have k2 := fun w' (h : Ext wB w') => k2 w' (eB.trans h)
  have kb := heap_ext eB kb
  have hEB := hE1.trans eB
  have hE0 := Ext.refl wB
  have HM := Lib.hid (And.intro hok (And.intro hl3 (And.intro hr hac)))
  clear hok hl3 eB hapW hr hac
  go_upto_region 999 with (first
    | (with_reducible refine stop_at2 4 ?_)
    | (with_reducible refine wpList_store_blk _ rfl 28 _ _ rfl wB.heap.size 28 _ _ rfl rfl (heap_alloc_new _ _) (by kernel_rfl) (by kernel_rfl) (by kernel_rfl) ?_; intro w7 h7 g7))
  refine ⟨?_⟩
  have e7 : Ext wB w7 := Below.grown (alloc_ext wB _) g7 (alloc_ext wB _).size (fun k hk => by cases hk; exact Nat.le_refl _)
  have hO := min_own (L0 := .blk wB.heap.size (.cells #[.int .i64 k, .slice none 0 0, .slice none 0 0] 28 (0, 0))) (e7.alloc (.cells #[.int .i64 0] 3)) (heap_alloc_new w7 _) ⟨Nat.le_refl _, heap_ext (alloc_ext _ _) h7⟩ (fun b hb => by cases hb; have := lt_of_block h7; omega) e7.size
  exact min_t4 w wB _ d b1 b2 wB.heap.size w7.heap.size n k ca cr br or c3 Ar Aa mm _ _ _ _ _ _ _ _ _ _ _ _ _ _ _ _ _ _ _ _ _ _ _ _ _ _ _ _ _ _ _ _ _ _ _ _ _ _ _ _ _ _ _ _ _ _ _ _ _ _ _ _ _ _ _ _ _ _ _ _ _ _ _ _ _ _ _ _ _ _ _ _ _ _ _ _ _ _ _ _ _ _ _ _ _ _ (by have := HM.out.2.2.1.ext hEB; rw [← HG.out.2.2.2.1] at this; rw [HG.out.2.2.2.1] at this; exact this) (HM.out.2.2.2.ext hEB) HG.out.1 HG.out.2.1 HG.out.2.2.1 hEB HM.out.1 HM.out.2.1 (hb1 ▸ HB.out) kb k0 k1 k2 hO
end Go.Proofs.YthlnmcokgfpgmaaDoor
