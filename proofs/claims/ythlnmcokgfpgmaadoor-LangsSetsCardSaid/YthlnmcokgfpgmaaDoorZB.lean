/- Automata as plain data; pairs of states in the order of their words. Plain lists. langs.pairs 52. langs.checked 51, the operations 93, 94, 95, langs.Inclusion 29, langs.Least 13. langs.Least 13. langs.sum 50. langs.tails 48. langs.CountOf 19, langs.Rank 22. -/
import Derived.Test.YthlnmcokgfpgmaaDoorZA
namespace Go.Proofs.YthlnmcokgfpgmaaDoor
open Go.RowKit
set_option linter.unusedVariables false
set_option linter.unusedSimpArgs false

def Dfa.k (d : Dfa) : Nat := d.sy.toNat
def Dfa.n (d : Dfa) : Nat := d.rows.length
def Dfa.to (d : Dfa) (s x : Nat) : Nat := ((d.rows.getD s []).getD x 0).toNat
def Dfa.ac (d : Dfa) (s : Nat) : Bool := d.acc.getD s false
structure Good (d : Dfa) : Prop where
  sy : 1 ≤ d.sy ∧ d.sy ≤ 16
  size : 1 ≤ d.rows.length ∧ d.rows.length ≤ 256
  acc : d.acc.length = d.rows.length
  len : ∀ r ∈ d.rows, (r.length : Int) = d.sy
  fit : ∀ r ∈ d.rows, ∀ x ∈ r, 0 ≤ x ∧ x < d.rows.length
theorem badW_false {n x : Int} : badW n x = false ↔ 0 ≤ x ∧ x < n := by unfold badW; simp
theorem badR_false {sy n : Int} {r : List Int} : badR sy n r = false ↔ (r.length : Int) = sy ∧ ∀ x ∈ r, 0 ≤ x ∧ x < n := by
  unfold badR
  rw [Bool.or_eq_false_iff, List.any_eq_false]
  simp only [Bool.not_eq_true, badW_false, bne_eq_false_iff_eq]
theorem sizC_eq {a b : Int} : sizC a b = 0 ↔ a ≤ 16 ∧ b ≤ 256 := ⟨sizC_zero, fun ⟨h1, h2⟩ => by unfold sizC; rw [if_neg (by omega), if_neg (by omega)]⟩
theorem good_iff (d : Dfa) : checkD d = 0 ↔ Good d := by
  unfold checkD
  constructor
  · intro h
    by_cases h0 : sizC d.sy d.rows.length = 0
    · rw [if_neg (by simpa using h0)] at h
      obtain ⟨h1, h2⟩ := sizC_eq.1 h0
      cases h3 : badA d with
      | true => rw [h3] at h; simp at h
      | false =>
        rw [h3] at h
        cases h4 : d.rows.any (badR d.sy d.rows.length) with
        | true => rw [h4] at h; simp at h
        | false =>
          unfold badA at h3
          simp only [Bool.or_eq_false_iff, decide_eq_false_iff_not, bne_eq_false_iff_eq] at h3
          have h5 := List.any_eq_false.1 h4
          simp only [Bool.not_eq_true, badR_false] at h5
          exact ⟨by omega, by omega, by omega, fun r hr => (h5 r hr).1, fun r hr => (h5 r hr).2⟩
    · rw [if_pos h0] at h; exact absurd h h0
  · intro h
    have := h.sy; have := h.size; have := h.acc
    have h0 : sizC d.sy d.rows.length = 0 := sizC_eq.2 ⟨by omega, by omega⟩
    have h3 : badA d = false := by
      unfold badA
      simp only [Bool.or_eq_false_iff, decide_eq_false_iff_not, bne_eq_false_iff_eq]
      omega
    have h4 : d.rows.any (badR d.sy d.rows.length) = false := by
      rw [List.any_eq_false]
      simp only [Bool.not_eq_true, badR_false]
      exact fun r hr => ⟨h.len r hr, h.fit r hr⟩
    rw [if_neg (by simp [h0]), h3, h4]; rfl
theorem Good.kk {d : Dfa} (h : Good d) : (d.k : Int) = d.sy ∧ 1 ≤ d.k ∧ d.k ≤ 16 := by have := h.sy; unfold Dfa.k; omega
theorem Good.row {d : Dfa} (h : Good d) {s : Nat} (hs : s < d.rows.length) : d.rows[s].length = d.k := by
  have := h.len _ (List.getElem_mem hs); have := h.kk; omega
theorem Good.cell {d : Dfa} (h : Good d) {s x : Nat} (hs : s < d.rows.length) (hx : x < d.rows[s].length) : d.rows[s][x] = (d.to s x : Int) ∧ d.to s x < d.rows.length := by
  have h1 := h.fit _ (List.getElem_mem hs) _ (List.getElem_mem hx)
  have h2 : d.to s x = (d.rows[s][x]).toNat := by
    unfold Dfa.to
    rw [List.getD_eq_getElem?_getD, List.getD_eq_getElem?_getD, List.getElem?_eq_getElem hs, Option.getD_some, List.getElem?_eq_getElem hx, Option.getD_some]
  omega
theorem Good.to_lt {d : Dfa} (h : Good d) {s x : Nat} (hs : s < d.n) (hx : x < d.k) : d.to s x < d.n := (h.cell hs (by rw [h.row hs]; exact hx)).2
theorem Good.ac_eq {d : Dfa} (h : Good d) {s : Nat} (hs : s < d.rows.length) : d.acc[s]'(by rw [h.acc]; exact hs) = d.ac s := by
  unfold Dfa.ac
  rw [List.getD_eq_getElem?_getD, List.getElem?_eq_getElem (by rw [h.acc]; exact hs)]; rfl

/-- A pair of states as it is reached first: from which number, by which symbol, the length of its word. -/
structure Rch where
  p : Nat
  q : Nat
  fr : Int
  sy : Int
  ln : Int
deriving DecidableEq
def Rch.key (r : Rch) : Nat × Nat := (r.p, r.q)
def r0 : Rch := ⟨0, 0, -1, 0, 0⟩
section
variable (a b : Dfa)
def stepP (r : Rch) (x : Nat) : Nat × Nat := (a.to r.p x, b.to r.q x)
def inP (l : List Rch) (t : Nat × Nat) : Bool := l.any (fun y => y.key == t)
def idxP (l : List Rch) (t : Nat × Nat) : Nat := l.findIdx (fun y => y.key == t)
def newP (r : Rch) (i x : Nat) : Rch := ⟨(stepP a b r x).1, (stepP a b r x).2, i, x, r.ln + 1⟩
def addP (l : List Rch) (i x : Nat) : List Rch := if inP l (stepP a b (l.getD i r0) x) then l else l ++ [newP a b (l.getD i r0) i x]
def rowP (l : List Rch) (i : Nat) : Nat → List Rch
  | 0 => l
  | x + 1 => addP a b (rowP l i x) i x
def goP : Nat → List Rch
  | 0 => [r0]
  | i + 1 => if i < (goP i).length then rowP a b (goP i) i a.k else goP i
def pairsL : List Rch := goP a b (a.n * b.n)
def numsP (L : List Rch) (r : Rch) : List Int := (List.range a.k).map (fun x => (idxP L (stepP a b r x) : Int))
def rowsP (L : List Rch) : List (List Int) := L.map (numsP a b L)
end
variable {a b : Dfa}
theorem addP_prefix (l : List Rch) (i x : Nat) : l <+: addP a b l i x := by
  unfold addP; split
  · exact List.prefix_refl _
  · exact List.prefix_append _ _
theorem rowP_prefix (l : List Rch) (i : Nat) : ∀ x, l <+: rowP a b l i x
  | 0 => List.prefix_refl _
  | x + 1 => (rowP_prefix l i x).trans (addP_prefix _ _ _)
theorem rowP_le (l : List Rch) (i : Nat) {x y : Nat} (h : x ≤ y) : rowP a b l i x <+: rowP a b l i y := by
  induction y with
  | zero => rw [Nat.le_zero.1 h]; exact List.prefix_refl _
  | succ y ih =>
    rcases Nat.lt_or_ge x (y + 1) with h1 | h1
    · exact (ih (by omega)).trans (addP_prefix _ _ _)
    · rw [Nat.le_antisymm h h1]; exact List.prefix_refl _
theorem goP_succ (i : Nat) : goP a b i <+: goP a b (i + 1) := by
  show _ <+: if _ then _ else _
  split
  · exact rowP_prefix _ _ _
  · exact List.prefix_refl _
theorem goP_le {i j : Nat} (h : i ≤ j) : goP a b i <+: goP a b j := by
  induction j with
  | zero => rw [Nat.le_zero.1 h]; exact List.prefix_refl _
  | succ j ih =>
    rcases Nat.lt_or_ge i (j + 1) with h1 | h1
    · exact (ih (by omega)).trans (goP_succ j)
    · rw [Nat.le_antisymm h h1]; exact List.prefix_refl _
theorem prefix_getD {l L : List Rch} (h : l <+: L) {i : Nat} (hi : i < l.length) : L.getD i r0 = l.getD i r0 := by
  obtain ⟨t, rfl⟩ := h
  simp only [List.getD_eq_getElem?_getD, List.getElem?_append_left hi]
theorem prefix_get? {α : Type} {l L : List α} (h : l <+: L) {i : Nat} {r : α} (hi : l[i]? = some r) : L[i]? = some r := by
  obtain ⟨t, rfl⟩ := h
  rw [List.getElem?_append_left (List.getElem?_eq_some_iff.1 hi).1]; exact hi

/-- What holds of every list on the way. -/
structure OkP (a b : Dfa) (l : List Rch) : Prop where
  pos : 0 < l.length
  first : l[0]? = some r0
  nodup : (l.map Rch.key).Nodup
  inn : ∀ r ∈ l, r.p < a.n ∧ r.q < b.n
  back : ∀ (j : Nat) (r : Rch), l[j]? = some r → 0 < j → ∃ (i x : Nat) (r' : Rch), i < j ∧ x < a.k ∧ l[i]? = some r' ∧ r = newP a b r' i x
theorem okP_start (ha : 0 < a.n) (hb : 0 < b.n) : OkP a b [r0] :=
  ⟨by simp, rfl, by simp, by simp [r0]; exact ⟨ha, hb⟩, fun j r hj h0 => by
    have := (List.getElem?_eq_some_iff.1 hj).1; simp at this; omega⟩
theorem inP_iff {l : List Rch} {t : Nat × Nat} : inP l t = true ↔ t ∈ l.map Rch.key := by
  unfold inP; rw [List.any_eq_true, List.mem_map]; simp
theorem getD_of_get? {l : List Rch} {i : Nat} {r : Rch} (h : l[i]? = some r) : l.getD i r0 = r := by rw [List.getD_eq_getElem?_getD, h]; rfl
theorem OkP.add {l : List Rch} (h : OkP a b l) (ha : Good a) (hb : Good b) (hk : a.k = b.k) {i x : Nat} (hi : i < l.length) (hx : x < a.k) : OkP a b (addP a b l i x) := by
  have hgi : l[i]? = some l[i] := List.getElem?_eq_getElem hi
  unfold addP
  rw [getD_of_get? hgi]
  split
  · exact h
  · rename_i hn
    have hr := h.inn _ (List.getElem_mem hi)
    refine ⟨by simp, ?_, ?_, ?_, ?_⟩
    · rw [List.getElem?_append_left h.pos]; exact h.first
    · rw [List.map_append, List.nodup_append]
      refine ⟨h.nodup, by simp, fun u hu v hv e => ?_⟩
      simp only [List.map_cons, List.map_nil, List.mem_singleton] at hv
      refine hn (inP_iff.2 ?_)
      rw [e, hv] at hu
      exact hu
    · intro r hr'
      rcases List.mem_append.1 hr' with h1 | h1
      · exact h.inn r h1
      · simp only [List.mem_singleton] at h1
        subst h1
        exact ⟨ha.to_lt hr.1 hx, hb.to_lt hr.2 (by omega)⟩
    · intro j r hj h0
      by_cases hjl : j < l.length
      · rw [List.getElem?_append_left hjl] at hj
        obtain ⟨i', x', r', h1, h2, h3, h4⟩ := h.back j r hj h0
        exact ⟨i', x', r', h1, h2, by rw [List.getElem?_append_left (by omega)]; exact h3, h4⟩
      · have hlt := (List.getElem?_eq_some_iff.1 hj).1
        simp at hlt
        have he : j = l.length := by omega
        subst he
        rw [List.getElem?_append_right (Nat.le_refl _), Nat.sub_self] at hj
        cases hj
        exact ⟨i, x, l[i], hi, hx, by rw [List.getElem?_append_left hi]; exact hgi, rfl⟩
theorem OkP.row {l : List Rch} (h : OkP a b l) (ha : Good a) (hb : Good b) (hk : a.k = b.k) {i : Nat} (hi : i < l.length) : ∀ x, x ≤ a.k → OkP a b (rowP a b l i x)
  | 0, _ => h
  | x + 1, hx => (h.row ha hb hk hi x (by omega)).add ha hb hk (Nat.lt_of_lt_of_le hi (rowP_prefix l i x).length_le) (by omega)
theorem okP_go (ha : Good a) (hb : Good b) (hk : a.k = b.k) : ∀ i, OkP a b (goP a b i)
  | 0 => okP_start (by have := ha.size; unfold Dfa.n; omega) (by have := hb.size; unfold Dfa.n; omega)
  | i + 1 => by
    show OkP a b (if _ then _ else _)
    split
    · rename_i h; exact (okP_go ha hb hk i).row ha hb hk h _ (Nat.le_refl _)
    · exact okP_go ha hb hk i
theorem OkP.ln {l : List Rch} (h : OkP a b l) : ∀ (j : Nat) (r : Rch), l[j]? = some r → 0 ≤ r.ln ∧ r.ln ≤ j := by
  intro j
  induction j using Nat.strongRecOn with
  | _ j ih =>
    intro r hr
    rcases Nat.eq_zero_or_pos j with h0 | h0
    · subst h0
      rw [h.first] at hr
      cases hr
      exact ⟨Int.le_refl _, Int.le_refl _⟩
    · obtain ⟨i, x, r', h1, h2, h3, rfl⟩ := h.back j r hr h0
      have := ih i h1 r' h3
      simp only [newP]
      omega
theorem nodup_bound {n m : Nat} {l : List (Nat × Nat)} (hd : l.Nodup) (hb : ∀ p ∈ l, p.1 < n ∧ p.2 < m) : l.length ≤ n * m := by
  have h1 : (l.map (fun p => p.1 * m + p.2)).Nodup := by
    refine List.Pairwise.map _ (fun p q hpq => ?_) (hd.imp_of_mem (S := fun p q => p ≠ q ∧ p.2 < m ∧ q.2 < m) (fun {p q} hp hq h => ⟨h, (hb p hp).2, (hb q hq).2⟩))
    obtain ⟨hne, h1, h2⟩ := hpq
    intro e
    have e1 : p.1 = q.1 := by
      rcases Nat.lt_trichotomy p.1 q.1 with h | h | h
      · have := Nat.mul_le_mul_right m h; rw [Nat.succ_mul] at this; omega
      · exact h
      · have := Nat.mul_le_mul_right m h; rw [Nat.succ_mul] at this; omega
    have e2 : p.2 = q.2 := by rw [e1] at e; omega
    exact hne (Prod.ext e1 e2)
  have h2 : ∀ z ∈ l.map (fun p => p.1 * m + p.2), z < n * m := by
    intro z hz
    obtain ⟨p, hp, rfl⟩ := List.mem_map.1 hz
    obtain ⟨h3, h4⟩ := hb p hp
    have := Nat.mul_le_mul_right m h3
    rw [Nat.succ_mul] at this
    omega
  have h3 := List.Nodup.length_le_of_subset h1 (l₂ := List.range (n * m)) (fun z hz => List.mem_range.2 (h2 z hz))
  simpa using h3
theorem OkP.bound {l : List Rch} (h : OkP a b l) : l.length ≤ a.n * b.n := by
  have := nodup_bound h.nodup (n := a.n) (m := b.n) (fun p hp => by
    obtain ⟨r, hr, rfl⟩ := List.mem_map.1 hp
    exact h.inn r hr)
  simpa using this
theorem goP_stop {i j : Nat} (hi : (goP a b i).length ≤ i) (h : i ≤ j) : goP a b j = goP a b i := by
  induction j with
  | zero => rw [Nat.le_zero.1 h]
  | succ j ih =>
    rcases Nat.lt_or_ge i (j + 1) with h1 | h1
    · have e := ih (by omega)
      show (if _ then _ else _) = _
      rw [e, if_neg (by omega)]
    · rw [Nat.le_antisymm h h1]
/-- All rows on the way are beginnings of the whole. -/
theorem rowP_whole (ha : Good a) (hb : Good b) (hk : a.k = b.k) {i x : Nat} (hi : i < (goP a b i).length) (hx : x ≤ a.k) : rowP a b (goP a b i) i x <+: pairsL a b := by
  have h1 : goP a b (i + 1) = rowP a b (goP a b i) i a.k := if_pos hi
  have h2 := (okP_go ha hb hk (i + 1)).bound
  have h3 : i + 1 ≤ a.n * b.n := by
    have := (okP_go ha hb hk i).bound
    omega
  refine (rowP_le _ _ hx).trans ?_
  rw [← h1]
  exact goP_le h3
theorem goP_whole (ha : Good a) (hb : Good b) (hk : a.k = b.k) {i : Nat} (hi : i = (goP a b i).length) : goP a b i = pairsL a b := by
  have h2 := (okP_go ha hb hk i).bound
  exact (goP_stop (by omega) (by omega)).symm
theorem okP_all (ha : Good a) (hb : Good b) (hk : a.k = b.k) : OkP a b (pairsL a b) := okP_go ha hb hk _
theorem idxP_of {L : List Rch} (h : (L.map Rch.key).Nodup) {n : Nat} {r : Rch} (hn : L[n]? = some r) {t : Nat × Nat} (ht : r.key = t) : idxP L t = n := by
  obtain ⟨hlt, he⟩ := List.getElem?_eq_some_iff.1 hn
  unfold idxP
  rw [List.findIdx_eq hlt]
  refine ⟨by simp [he, ht], fun j hj => ?_⟩
  have hjl : j < L.length := by omega
  have hne : (L.map Rch.key)[j]'(by simpa using hjl) ≠ (L.map Rch.key)[n]'(by simpa using hlt) := by
    have := List.pairwise_iff_getElem.1 h j n (by simpa using hjl) (by simpa using hlt) hj
    exact this
  simp only [List.getElem_map] at hne
  simp only [beq_eq_false_iff_ne, ne_eq]
  rw [he, ht] at hne
  exact hne
end Go.Proofs.YthlnmcokgfpgmaaDoor

namespace Go.Proofs.YthlnmcokgfpgmaaDoor
open Go.RowKit Go.Maps
set_option linter.unusedVariables false
set_option linter.unusedSimpArgs false
attribute [local go_sem] Oper.quietV quietV Oper.gives givesV ext_refl_iff ext_alloc_iff ext_drew_iff ext_drewN_iff
def rCells (r : Rch) : List Value := [.int .i64 r.p, .int .i64 r.q, .int .i64 r.fr, .int .i64 r.sy, .int .i64 r.ln]
theorem rch_info : (Tryd.prog.info? 97).map (fun i => (i.zero, i.size, i.bytes)) = some (some (.agg #[.int .i64 0, .int .i64 0, .int .i64 0, .int .i64 0, .int .i64 0]), 5, 40) := by kernel_rfl
theorem zero3 (w : World) : (zeroValue 3).run Tryd.prog w = .ok (.int .i64 0) w := by kernel_rfl

def mapO (k : Value) (n : Int) : Obj := .map #[{ key := k, val := .int .i64 n, born := 0 }] 1
set_option maxRecDepth 100000 in
theorem run_insert0 (W : World) (b : Nat) (hb : W.heap[b]? = some (.map #[] 0)) : (Instr.mapUpdate 114 (.map (some b)) (.agg #[.int .i64 0, .int .i64 0]) (.int .i64 0)).run Tryd.prog W = .ok () { W with heap := W.heap.setIfInBounds b (mapO (.agg #[.int .i64 0, .int .i64 0]) 0) } := by
  have hok : pairOK (0, 0) := ⟨Nat.zero_le _, Nat.zero_le _⟩
  obtain ⟨l, hl⟩ := key95.read _ hok
  have hl : keyOf Tryd.prog 95 (.agg #[.int .i64 0, .int .i64 0]) = some l := hl
  have hobj : (getObj b).run Tryd.prog W = .ok (.map #[] 0) W := by simp [getObj, Sem.run, hb]
  have hchk := key95.law.check W false hl
  have hfk : (Instr.findKey 95 (.agg #[.int .i64 0, .int .i64 0]) ([] : List MapEntry)).run Tryd.prog W = .ok none W := rfl
  have hlt := lt_of_block hb
  simp [Instr.mapUpdate, run_underlying Tryd.underlying114, hobj, hchk, hfk, setObj, Sem.run, hb, mapO]
theorem heap_push_set {A : Array Obj} (x y : Obj) : (A.push x).setIfInBounds A.size y = A.push y := by
  apply Array.ext'
  simp
theorem run_ins1 (W : World) : (Instr.mapUpdate 114 (.map (some W.heap.size)) (.agg #[.int .i64 0, .int .i64 0]) (.int .i64 0)).run Tryd.prog (W.alloc (.map #[] 0)).drew = .ok () (W.alloc (mapO (.agg #[.int .i64 0, .int .i64 0]) 0)).drew := by
  rw [run_insert0 (W.alloc (.map #[] 0)).drew W.heap.size (heap_alloc_new W _)]
  have : (W.alloc (.map #[] 0)).drew.heap.setIfInBounds W.heap.size (mapO (.agg #[.int .i64 0, .int .i64 0]) 0) = (W.alloc (mapO (.agg #[.int .i64 0, .int .i64 0]) 0)).drew.heap := heap_push_set _ _
  rw [this]; rfl
theorem run_ins2 (W : World) (o : Obj) : (Instr.mapUpdate 114 (.map (some W.heap.size)) (.agg #[.int .i64 0, .int .i64 0]) (.int .i64 0)).run Tryd.prog ((W.alloc (.map #[] 0)).alloc o).drew = .ok () ((W.alloc (mapO (.agg #[.int .i64 0, .int .i64 0]) 0)).alloc o).drew := by
  have h0 : ((W.alloc (.map #[] 0)).alloc o).drew.heap[W.heap.size]? = some (.map #[] 0) := by
    have h := heap_alloc_new W (.map #[] 0)
    exact ((alloc_ext (W.alloc (.map #[] 0)) o).block W.heap.size (lt_of_block h)).trans h
  rw [run_insert0 _ _ h0]
  have : ((W.alloc (.map #[] 0)).alloc o).drew.heap.setIfInBounds W.heap.size (mapO (.agg #[.int .i64 0, .int .i64 0]) 0) = ((W.alloc (mapO (.agg #[.int .i64 0, .int .i64 0]) 0)).alloc o).drew.heap := by
    show ((W.heap.push _).push o).setIfInBounds W.heap.size _ = ((W.heap.push _).push o)
    apply Array.ext'
    simp
  rw [this]; rfl

theorem rcells_get : ∀ {l : List Rch} {i : Nat} {r : Rch} (h : l[i]? = some r) (j : Nat) (u : Value), (rCells r)[j]? = some u → (l.flatMap rCells)[i * 5 + j]? = some u
  | [], i, r, h, _, _, _ => by simp at h
  | y :: t, 0, r, h, j, u, hj => by
    simp at h; subst h
    have := (List.getElem?_eq_some_iff.1 hj).1
    rw [List.flatMap_cons, Nat.zero_mul, Nat.zero_add, List.getElem?_append_left this]; exact hj
  | y :: t, i + 1, r, h, j, u, hj => by
    rw [List.flatMap_cons, List.getElem?_append_right (by simp [rCells]; omega)]
    have := rcells_get (l := t) (i := i) (r := r) (by simpa using h) j u hj
    rw [← this]; congr 1; simp [rCells]; omega
theorem rcells_len : ∀ l : List Rch, (l.flatMap rCells).length = l.length * 5
  | [] => rfl
  | y :: t => by rw [List.flatMap_cons, List.length_append, rcells_len t]; simp [rCells]; omega
/-- The numbers of the keys. -/
def mapP (l : List Rch) : List ((Nat × Nat) × Int) := l.zipIdx.map (fun p => (p.1.key, (p.2 : Int)))
theorem mapP_snoc (l : List Rch) (r : Rch) : mapP (l ++ [r]) = mapP l ++ [(r.key, (l.length : Int))] := by unfold mapP; rw [List.zipIdx_append]; simp
theorem mapP_none {l : List Rch} {t : Nat × Nat} (h : inP l t = false) : getM (mapP l) t = none := by
  rw [getM_none]
  intro p hp e
  unfold mapP at hp
  obtain ⟨q, hq, rfl⟩ := List.mem_map.1 hp
  have h1 : q.1 ∈ l := by
    have := List.mem_map.2 ⟨q, hq, (rfl : q.1 = q.1)⟩
    rw [show l.zipIdx.map (fun q => q.1) = l from List.zipIdx_map_fst 0 l] at this
    exact this
  have : inP l t = true := inP_iff.2 (List.mem_map.2 ⟨q.1, h1, e⟩)
  rw [h] at this; cases this
theorem mapP_nodup {l : List Rch} (h : (l.map Rch.key).Nodup) : (mapP l).Pairwise (fun p q => p.1 ≠ q.1) := by
  have h1 : ((mapP l).map (·.1)).Nodup := by
    have : (mapP l).map (·.1) = l.map Rch.key := by
      unfold mapP
      rw [List.map_map]
      have h2 := List.zipIdx_map_fst 0 l
      conv => rhs; rw [← h2, List.map_map]
      rfl
    rw [this]; exact h
  exact List.pairwise_map.1 h1
theorem mapP_some {l : List Rch} (h : (l.map Rch.key).Nodup) {n : Nat} {r : Rch} (hn : l[n]? = some r) : getM (mapP l) r.key = some (n : Int) := by
  refine getM_of_mem (mapP_nodup h) ?_
  unfold mapP
  exact List.mem_map.2 ⟨(r, n), by rw [List.mk_mem_zipIdx_iff_getElem?]; exact hn, rfl⟩
def c0 : Array Value := #[.int .i64 0, .int .i64 0, .int .i64 (-1), .int .i64 0, .int .i64 0]
theorem own_r0 (W : World) : Asn.ok W.heap.size (W.alloc (.cells c0 97)) (.row 97 5 (.slice (some ⟨W.heap.size, 0, none⟩) 1 1) 1 ([r0].flatMap rCells)) :=
  World.ownsRow_lit (base := W.heap.size) (e := 97) (size := 5) W c0 1 (Nat.le_refl _) (by unfold maxLen; omega) rfl
theorem mapO_of : MapOf pairV pairOK (mapO (.agg #[.int .i64 0, .int .i64 0]) 0) (mapP [r0]) := fun w b hb => ⟨_, _, hb, rfl, by simp [mapP, r0, Rch.key]; exact ⟨Nat.zero_le _, Nat.zero_le _⟩, by simp [mapP]⟩
def StP (W1 : World) (lv mv : Value) (wx : World) : Prop := ∃ gl gm om, lv = .slice (some ⟨gl, 0, none⟩) 1 1 ∧ mv = .map (some gm) ∧ MapOf pairV pairOK om (mapP [r0]) ∧ OwnL W1 wx [.row 97 5 (.slice (some ⟨gl, 0, none⟩) 1 1) 1 ([r0].flatMap rCells), .blk gm om]
theorem stP1 (W : World) (o1 : Obj) (h1 : o1 = .cells c0 97) (n : Nat) (hn : n = W.heap.size + 1) : StP W (.slice (some ⟨W.heap.size, 0, none⟩) 1 1) (.map (some n)) ((W.alloc o1).alloc (mapO (.agg #[.int .i64 0, .int .i64 0]) 0)).drew := by
  subst h1 hn
  refine ⟨_, _, _, rfl, rfl, mapO_of, ?_⟩
  have h := ((OwnL.nil (Ext.refl W)).add (alloc_ext W (.cells c0 97)) (own_r0 W)).add (alloc_ext _ (mapO (.agg #[.int .i64 0, .int .i64 0]) 0)) (A := .blk (W.heap.size + 1) (mapO (.agg #[.int .i64 0, .int .i64 0]) 0)) ⟨by simp, by have := heap_alloc_new (W.alloc (.cells c0 97)) (mapO (.agg #[.int .i64 0, .int .i64 0]) 0); simpa using this⟩
  exact h.swap.trans (drew_ext _)
theorem stP2 (W : World) (o1 : Obj) (h1 : o1 = .cells c0 97) (n : Nat) (hn : n = W.heap.size + 1) : StP W (.slice (some ⟨n, 0, none⟩) 1 1) (.map (some W.heap.size)) ((W.alloc (mapO (.agg #[.int .i64 0, .int .i64 0]) 0)).alloc o1).drew := by
  subst h1 hn
  refine ⟨_, _, _, rfl, rfl, mapO_of, ?_⟩
  have h := ((OwnL.nil (Ext.refl W)).add (alloc_ext W (mapO (.agg #[.int .i64 0, .int .i64 0]) 0)) (A := .blk W.heap.size (mapO (.agg #[.int .i64 0, .int .i64 0]) 0)) ⟨Nat.le_refl _, heap_alloc_new _ _⟩).add (alloc_ext _ (.cells c0 97)) (own_r0 (W.alloc (mapO (.agg #[.int .i64 0, .int .i64 0]) 0)))
  have h := h.trans (drew_ext _)
  simpa using h
def RchC (w : World) (v : Value) (L : List Rch) : Prop := ∃ A c, v = .slice A L.length c ∧ Cells w A (L.flatMap rCells) ∧ L.length ≤ lenMax
def PairsP (a b : Dfa) (w : World) (e : Ending) (w' : World) : Prop :=
  if (pairsL a b).length ≤ 4096 then ∃ lv rv c, e = .returned (.tuple #[lv, rv, .int .i64 0]) ∧ RchC w' lv (pairsL a b) ∧ ListsC w' rv (rowsP a b (pairsL a b)) c ∧ Ext w w'
  else e = .returned (.tuple #[.slice none 0 0, .slice none 0 0, .int .i64 3]) ∧ Ext w w'
theorem map_range_getD {β : Type} (f : Rch → β) (L : List Rch) : (List.range L.length).map (fun j => f (L.getD j r0)) = L.map f := by
  apply List.ext_getElem
  · simp
  · intro n h1 h2
    simp at h1
    simp [List.getD, h1]
def rowsAt (a b : Dfa) (i : Nat) : List (List Int) := (List.range i).map (fun j => numsP a b (pairsL a b) ((pairsL a b).getD j r0))

theorem nums_set (F : Nat → Int) {k x : Nat} (hx : x < k) (v : Int) (hv : F x = v) : (((List.range x).map F).map (Value.int .i64) ++ List.replicate (k - x) (Value.int .i64 0)).set x (.int .i64 v) = ((List.range (x + 1)).map F).map (Value.int .i64) ++ List.replicate (k - (x + 1)) (.int .i64 0) := by
  subst hv
  rw [show k - x = (k - (x + 1)) + 1 by omega, List.replicate_succ, List.set_append_right _ _ (by simp), List.length_map, List.length_map, List.length_range, Nat.sub_self, List.set_cons_zero, List.range_succ, List.map_append, List.map_append, List.append_assoc]
  rfl
theorem Good.at_ {w : World} {d : Dfa} (h : Good d) {v : Value} {cr : Nat} (hr : ListsC w v d.rows cr) {s x : Nat} (hs : s < d.n) (hx : x < d.k) :
    ∃ b o b' o' c', v = .slice (some ⟨b, o, none⟩) d.rows.length cr ∧ w.cell? ⟨b, o + s, none⟩ = some (.slice (some ⟨b', o', none⟩) d.k c') ∧ w.cell? ⟨b', o' + x, none⟩ = some (.int .i64 (d.to s x : Int)) := by
  have hs' : s < d.rows.length := hs
  clear hs
  obtain ⟨b, o, u, c', hv, _, hc, A, rfl, hi, _, _⟩ := hr.at_ hs'
  have hxl : x < d.rows[s].length := by rw [h.row hs']; exact hx
  obtain ⟨b', o', rfl, _, hc2⟩ := hi.at_int hxl
  rw [(h.cell hs' hxl).1] at hc2
  rw [h.row hs'] at hc
  exact ⟨b, o, b', o', c', hv, hc, hc2⟩
theorem OwnL.ne {w W : World} {L : List Asn} (h : OwnL w W L) (i j : Nat) (hij : i < j) {A B : Asn} (hi : L[i]? = some A) (hj : L[j]? = some B) : ∀ b, A.foot b → ¬ B.foot b := by
  obtain ⟨h1, h1'⟩ := List.getElem?_eq_some_iff.1 hi
  obtain ⟨h2, h2'⟩ := List.getElem?_eq_some_iff.1 hj
  have := List.pairwise_iff_getElem.1 h.apart i j h1 h2 hij
  rw [h1', h2'] at this
  exact this
theorem five_ints (a b c d e : Int) : ∀ u ∈ [Value.int .i64 a, .int .i64 b, .int .i64 c, .int .i64 d, .int .i64 e], u.oneCell' = true := by intro u hu; simp at hu; rcases hu with rfl | rfl | rfl | rfl | rfl <;> rfl
theorem cell_row5 {w W : World} {L : List Asn} (h : OwnL w W L) (k : Nat) {g n c : Nat} {l : List Rch} (hk : L[k]? = some (.row 97 5 (.slice (some ⟨g, 0, none⟩) n c) n (l.flatMap rCells))) {i : Nat} {r : Rch} (hr : l[i]? = some r) (j : Nat) {u : Value} (hj : (rCells r)[j]? = some u) : W.cell? ⟨g, i * 5 + j, none⟩ = some u := by
  have h1 : W.ownsRow w.heap.size 97 5 (.slice (some ⟨g, 0, none⟩) n c) n (l.flatMap rCells) := h.get k hk
  have := h1.cells (g := g) rfl _ u (rcells_get hr j u hj)
  rw [Addr.add_lit, Nat.zero_add] at this
  exact this
def rowC (a b : Dfa) (r : Rch) (x : Nat) : List Value := ((List.range x).map (fun x => (idxP (pairsL a b) (stepP a b r x) : Int))).map (Value.int .i64) ++ List.replicate (a.k - x) (.int .i64 0)
theorem rowC_zero (a b : Dfa) (r : Rch) : rowC a b r 0 = List.replicate a.k (.int .i64 0) := rfl
theorem rowC_set (a b : Dfa) (r : Rch) {x : Nat} (hx : x < a.k) {v : Int} (hv : (idxP (pairsL a b) (stepP a b r x) : Int) = v) : (rowC a b r x).set x (.int .i64 v) = rowC a b r (x + 1) := nums_set (fun x => (idxP (pairsL a b) (stepP a b r x) : Int)) hx v hv
theorem rowC_at (a b : Dfa) (r : Rch) {x : Nat} (hx : x < a.k) : (rowC a b r x)[x]? = some (.int .i64 0) := by
  unfold rowC
  rw [List.getElem?_append_right (by simp), List.getElem?_replicate, if_pos (by simp; omega)]
theorem rowC_end (a b : Dfa) (r : Rch) : rowC a b r a.k = (iRow (numsP a b (pairsL a b) r)).2 := by unfold rowC iRow numsP; simp
theorem addP_eq {a b : Dfa} {l : List Rch} {i : Nat} {r : Rch} (h : l[i]? = some r) (x : Nat) : addP a b l i x = if inP l (stepP a b r x) then l else l ++ [newP a b r i x] := by unfold addP; rw [getD_of_get? h]

set_option maxRecDepth 100000 in
set_option maxHeartbeats 8000000 in
theorem pairs_any (w : World) (dv dv' : Value) (a b : Dfa) (hd : DfaV w dv a) (hd' : DfaV w dv' b) (hga : Good a) (hgb : Good b) (hk : a.k = b.k) :
    Calls Tryd.prog 52 #[dv, dv'] w (PairsP a b w) := by
  obtain ⟨rv, cr, av, ca, rfl, hr, ha⟩ := hd
  obtain ⟨Ar, vr, rfl, _, _, _, _, hrm⟩ := id hr
  obtain ⟨Aa, rfl, hac, _, ham⟩ := id ha
  obtain ⟨rv', cr', av', ca', rfl, hr', ha'⟩ := hd'
  obtain ⟨Ar', vr', rfl, _, _, _, _, hrm'⟩ := id hr'
  obtain ⟨Aa', rfl, hac', _, ham'⟩ := id ha'
  unfold lenMax at hrm ham hrm' ham'
  obtain ⟨i97, hi97, hz97, hs97, hb97⟩ := info_parts rch_info
  obtain ⟨i31, hi31, hz31, hs31, hb31⟩ := info_parts ints_info
  have hmm := @run_makeMap Tryd.prog
  have hkk := hga.kk
  have HK := Lib.hid (And.intro hk (And.intro hga hgb))
  have hmk := mk_ints a.k (by omega)
  have hsy : a.sy = (a.k : Int) := hkk.1.symm
  have hs1 := hga.size
  have hs2 := hgb.size
  have hk1 : 1 ≤ a.k := hkk.2.1
  have hk2 : a.k ≤ 16 := hkk.2.2
  clear hk hga hgb hkk
  rw [hsy]
  clear hsy
  go_enter Tryd.func52, Tryd.ntmps52
  go_upto_region 1 with fail
  refine wp_named ?_
  intro W1 hW1
  have hE1 : Ext w W1 := by rw [hW1]; exact ((Ext.refl _).alloc _).alloc _
  have k0 : ∀ w', Ext W1 w' → w'.cell? ⟨w.heap.size, 0, none⟩ = some (.int .i64 (a.k : Int)) := fun w' h => h.cell (by rw [hW1]; simp [go_sem])
  have k1 : ∀ w', Ext W1 w' → w'.cell? ⟨w.heap.size, 1, none⟩ = some (.slice Ar a.rows.length cr) := fun w' h => h.cell (by rw [hW1]; simp [go_sem])
  have k2 : ∀ w', Ext W1 w' → w'.cell? ⟨w.heap.size, 2, none⟩ = some (.slice Aa a.acc.length ca) := fun w' h => h.cell (by rw [hW1]; simp [go_sem])
  have l0 : ∀ w', Ext W1 w' → w'.cell? ⟨w.heap.size + 1, 0, none⟩ = some (.int .i64 b.sy) := fun w' h => h.cell (by rw [hW1]; simp [go_sem])
  have l1 : ∀ w', Ext W1 w' → w'.cell? ⟨w.heap.size + 1, 1, none⟩ = some (.slice Ar' b.rows.length cr') := fun w' h => h.cell (by rw [hW1]; simp [go_sem])
  have l2 : ∀ w', Ext W1 w' → w'.cell? ⟨w.heap.size + 1, 2, none⟩ = some (.slice Aa' b.acc.length ca') := fun w' h => h.cell (by rw [hW1]; simp [go_sem])
  clear hW1
  have hE0 := Ext.refl W1
  have i1 := run_ins1 W1
  have i2 := run_ins2 W1 (.cells #[.int .i64 0, .int .i64 0, .int .i64 (-1), .int .i64 0, .int .i64 0] 97)
  have i3 := run_ins1 (W1.alloc (.cells #[.int .i64 0, .int .i64 0, .int .i64 (-1), .int .i64 0, .int .i64 0] 97))
  rw [show (W1.alloc (.cells #[.int .i64 0, .int .i64 0, .int .i64 (-1), .int .i64 0, .int .i64 0] 97)).heap.size = W1.heap.size + 1 by simp] at i3
  go_cut [7, 8] (StP W1)
  case first =>
    go_region
    all_goals go_wp2
    all_goals go_meet
    all_goals (first | exact stP1 _ _ rfl _ rfl | exact stP2 _ _ rfl _ rfl)
  case rest =>
    obtain ⟨gl, gm, om, rfl, rfl, hmo, hO0⟩ := hcut
    clear i1 i2 i3 hmm
    have hO : OwnL W1 wc [.rows 31 3 1 (.slice none 0 0) [] ((rowsAt a b 0).map iRow), .row 97 5 (.slice (some ⟨gl, 0, none⟩) 1 1) 1 ([r0].flatMap rCells), .blk gm om] :=
      hO0.add (Ext.refl _) (A := .rows 31 3 1 (.slice none 0 0) [] []) ⟨World.ownsRow_nil _ _ _ _, rfl, fun j u r h => by simp at h, fun i j u u' h => by simp at h, fun j u h => by simp at h⟩
    clear hO0
    go_wp2
    go_loopw [7, 9, 10] (fun lv rv iv wr => ∃ (i : Nat) (om : Obj) (gl cl : Nat) (vs : List Value), iv = .int .i64 i ∧ Hid (i ≤ (goP a b i).length) ∧ Hid ((goP a b i).length ≤ 4096) ∧ lv = .slice (some ⟨gl, 0, none⟩) (goP a b i).length cl ∧ MapOf pairV pairOK om (mapP (goP a b i)) ∧ OwnL W1 wr [.rows 31 3 1 rv vs ((rowsAt a b i).map iRow), .row 97 5 lv (goP a b i).length ((goP a b i).flatMap rCells), .blk gm om]) (fun _ _ iv _ => 4097 - (intOf iv).toNat)
    case atStart => exact ⟨0, om, gl, 1, [], rfl, Lib.hid (Nat.zero_le _), Lib.hid (by show 1 ≤ 4096; omega), rfl, hmo, hO⟩
    case round =>
      clear hO hmo
      clear om gl
      obtain ⟨i, om, gl, cl, vs, rfl, hi, hle, rfl, hmo, hO⟩ := hrel
      obtain ⟨W2, hW2⟩ : ∃ W, W = wr := ⟨_, rfl⟩; subst hW2
      by_cases hil : i < (goP a b i).length
      · have hwhole := fun x hx => rowP_whole (a := a) (b := b) HK.out.2.1 HK.out.2.2 HK.out.1 (i := i) (x := x) hil hx
        have hokr := fun x hx => (okP_go (a := a) (b := b) HK.out.2.1 HK.out.2.2 HK.out.1 i).row HK.out.2.1 HK.out.2.2 HK.out.1 hil x hx
        have hgs : goP a b (i + 1) = rowP a b (goP a b i) i a.k := if_pos hil
        have hpre := fun x => rowP_prefix (a := a) (b := b) (goP a b i) i x
        obtain ⟨r, hr0⟩ : ∃ r, (goP a b i)[i]? = some r := ⟨_, List.getElem?_eq_getElem hil⟩
        have hrin := (okP_go (a := a) (b := b) HK.out.2.1 HK.out.2.2 HK.out.1 i).inn r (List.mem_of_getElem? hr0)
        have HWH := Lib.hid hwhole
        have HOK := Lib.hid hokr
        have HGS := Lib.hid hgs
        have HPR := Lib.hid hpre
        have HR0 := Lib.hid hr0
        have hE := hO.ext
        have q0 := k0 W2 hE
        have hilI : (i : Int) < ((goP a b i).length : Int) := by omega
        have hle' := hle.out
        clear hwhole hokr hgs hpre hr0
        go_upto_region 7 with fail
        refine wp_named ?_
        intro W3 hW3
        have hO3 : OwnL W1 W3 [.row 3 1 (.slice (some ⟨W2.heap.size, 0, none⟩) a.k a.k) a.k (rowC a b r 0), .rows 31 3 1 u9 vs ((rowsAt a b i).map iRow), .row 97 5 (.slice (some ⟨gl, 0, none⟩) (goP a b i).length cl) (goP a b i).length ((goP a b i).flatMap rCells), .blk gm om] := by
          rw [hW3]
          have h1 := own_new W2 (.int .i64 0) 3 a.k (by omega)
          exact hO.add (alloc_ext _ _) (A := .row 3 1 (.slice (some ⟨W2.heap.size, 0, none⟩) a.k a.k) a.k (List.replicate a.k (.int .i64 0))) h1
        clear hW3 hO q0 hE
        generalize W2.heap.size = gr at *
        go_wp2
        go_loopw [7, 32] (fun lv xv wr => ∃ (x : Nat) (om : Obj) (gl cl : Nat), xv = .int .i64 x ∧ x ≤ a.k ∧ Hid ((rowP a b (goP a b i) i x).length ≤ 4096) ∧ lv = .slice (some ⟨gl, 0, none⟩) (rowP a b (goP a b i) i x).length cl ∧ MapOf pairV pairOK om (mapP (rowP a b (goP a b i) i x)) ∧ OwnL W1 wr [.row 3 1 (.slice (some ⟨gr, 0, none⟩) a.k a.k) a.k (rowC a b r x), .rows 31 3 1 u9 vs ((rowsAt a b i).map iRow), .row 97 5 lv (rowP a b (goP a b i) i x).length ((rowP a b (goP a b i) i x).flatMap rCells), .blk gm om]) (fun _ xv _ => a.k - (intOf xv).toNat)
        case atStart => exact ⟨0, om, gl, cl, rfl, Nat.zero_le _, hle, rfl, hmo, hO3⟩
        case round =>
          clear hO3 hmo hle' hilI
          obtain ⟨x, om2, gl2, cl2, rfl, hx, hle2, rfl, hmo, hO⟩ := hrel
          obtain ⟨W4, hW4⟩ : ∃ W, W = wr := ⟨_, rfl⟩; subst hW4
          by_cases hxl : x < a.k
          · have hsucc : rowP a b (goP a b i) i (x + 1) = addP a b (rowP a b (goP a b i) i x) i x := rfl
            have hr1 : (rowP a b (goP a b i) i x)[i]? = some r := prefix_get? (HPR.out x) HR0.out
            have hil2 : i < (rowP a b (goP a b i) i x).length := (List.getElem?_eq_some_iff.1 hr1).1
            rw [addP_eq hr1] at hsucc
            have hok1 := HOK.out x hx
            have hwh1 := HWH.out x hx
            have hwh2 := HWH.out (x + 1) hxl
            rw [hsucc] at hwh2
            have hnd := (okP_all (a := a) (b := b) HK.out.2.1 HK.out.2.2 HK.out.1).nodup
            have hst : stepP a b r x = (a.to r.p x, b.to r.q x) := rfl
            have ht1 := HK.out.2.1.to_lt (s := r.p) (x := x) hrin.1 hxl
            have ht2 := HK.out.2.2.to_lt (s := r.q) (x := x) hrin.2 (by have := HK.out.1; omega)
            have hE := hO.ext
            obtain ⟨ba, oa, ba', oa', ca1, hA1, a1, a2⟩ := HK.out.2.1.at_ (hr.ext (hE1.trans hE)) hrin.1 hxl
            obtain ⟨bb, ob, bb', ob', cb1, hA2, b1, b2⟩ := HK.out.2.2.at_ (hr'.ext (hE1.trans hE)) hrin.2 (show x < b.k by have := HK.out.1; omega)
            injection hA1 with hA1
            injection hA2 with hA2
            subst hA1 hA2
            have c0 := cell_row5 hO 2 rfl hr1 0 (u := .int .i64 r.p) rfl
            have c1 := cell_row5 hO 2 rfl hr1 1 (u := .int .i64 r.q) rfl
            have c4 := cell_row5 hO 2 rfl hr1 4 (u := .int .i64 r.ln) rfl
            have hln : W4.ownsRow w.heap.size 3 1 (.slice none 0 0) 0 [] := World.ownsRow_nil _ _ _ _
            have HW1 := Lib.hid (And.intro hwh1 (And.intro hwh2 (And.intro hnd hok1.nodup)))
            have HS := Lib.hid hsucc
            have HST := Lib.hid hst
            have HR1 := Lib.hid hr1
            have hrlb := hok1.ln i r hr1
            have hp1 : r.p < a.rows.length := hrin.1
            have hq1 : r.q < b.rows.length := hrin.2
            have ht1' : a.to r.p x < a.rows.length := ht1
            have ht2' : b.to r.q x < b.rows.length := ht2
            clear hwh1 hwh2 hnd hsucc hst hr1 hok1 hln hrin ht1 ht2
            generalize a.to r.p x = p1 at *
            generalize b.to r.q x = q1 at *
            generalize rowP a b (goP a b i) i x = l at *
            generalize hrp : r.p = rp at *
            generalize hrq : r.q = rq at *
            generalize hrl : r.ln = rl at *
            have HRP := Lib.hid (And.intro hrp (And.intro hrq hrl))
            clear hrp hrq hrl
            have hle3 := hle2.out
            have hkI : (x : Int) < (a.k : Int) := by omega
            have hiI : (i : Int) < (l.length : Int) := by omega
            have hpI : (rp : Int) < (a.rows.length : Int) := by omega
            have hqI : (rq : Int) < (b.rows.length : Int) := by omega
            have hkb : a.k = b.k := HK.out.1
            have HKB := Lib.hid hkb
            rw [← hkb] at b1
            clear hkb
            have c0 : ∀ w', Ext W4 w' → w'.cell? ⟨gl2, i * 5, none⟩ = some (.int .i64 (rp : Int)) := fun w' h => h.cell c0
            have c1 : ∀ w', Ext W4 w' → w'.cell? ⟨gl2, i * 5 + 1, none⟩ = some (.int .i64 (rq : Int)) := fun w' h => h.cell c1
            have a1 : ∀ w', Ext W4 w' → w'.cell? ⟨ba, oa + rp, none⟩ = some (.slice (some ⟨ba', oa', none⟩) a.k ca1) := fun w' h => h.cell a1
            have a2 : ∀ w', Ext W4 w' → w'.cell? ⟨ba', oa' + x, none⟩ = some (.int .i64 (p1 : Int)) := fun w' h => h.cell a2
            have b1 : ∀ w', Ext W4 w' → w'.cell? ⟨bb, ob + rq, none⟩ = some (.slice (some ⟨bb', ob', none⟩) a.k cb1) := fun w' h => h.cell b1
            have b2 : ∀ w', Ext W4 w' → w'.cell? ⟨bb', ob' + x, none⟩ = some (.int .i64 (q1 : Int)) := fun w' h => h.cell b2
            have kk1 : ∀ w', Ext W4 w' → w'.cell? ⟨w.heap.size, 1, none⟩ = some (.slice (some ⟨ba, oa, none⟩) a.rows.length cr) := fun w' h => k1 w' (hE.trans h)
            have ll1 : ∀ w', Ext W4 w' → w'.cell? ⟨w.heap.size + 1, 1, none⟩ = some (.slice (some ⟨bb, ob, none⟩) b.rows.length cr') := fun w' h => l1 w' (hE.trans h)
            have jr := Ext.refl W4
            go_upto_region 10 with fail
            go_region_held3 (fun w' => Ext W4 w') ((repeat (first | exact Ext.refl _ | assumption | refine Ext.drew ?_ | refine Ext.alloc ?_ _ | (refine Ext.setCell ?_ (by simp; done) _) | (refine Ext.setCell ?_ (by simp; omega) _)))) ((fail))
            go_upto_region 11 with fail
            refine wp_named ?_
            intro W5 hW5
            have hO5 : OwnL W1 W5 [.blk W4.heap.size (.cells #[.int .i64 (p1 : Int), .int .i64 (q1 : Int)] 95), .row 3 1 (.slice (some ⟨gr, 0, none⟩) a.k a.k) a.k (rowC a b r x), .rows 31 3 1 u9 vs ((rowsAt a b i).map iRow), .row 97 5 (.slice (some ⟨gl2, 0, none⟩) l.length cl2) l.length (l.flatMap rCells), .blk gm om2] := by
              rw [hW5]; exact (hO.add (alloc_ext _ _) (A := .blk W4.heap.size (.cells #[.int .i64 (p1 : Int), .int .i64 (q1 : Int)] 95)) ⟨Nat.le_refl _, heap_alloc_new _ _⟩).trans (drew_ext _)
            clear hW5 jr c0 c1 a1 a2 b1 b2 kk1 ll1 hO
            generalize W4.heap.size = b5 at *
            have d0 := cell_of_blk (hO5.get 0 rfl).2 0 (u := .int .i64 (p1 : Int)) rfl
            have d1 := cell_of_blk (hO5.get 0 rfl).2 1 (u := .int .i64 (q1 : Int)) rfl
            have hpk : pairOK (p1, q1) := ⟨by show p1 ≤ 100000; omega, by show q1 ≤ 100000; omega⟩
            have hlk := mapK_lookup key95 Tryd.underlying114 (zero3 W5) (hO5.get 4 rfl).2 hmo hpk true (v := .agg #[.int .i64 (p1 : Int), .int .i64 (q1 : Int)]) rfl
            have f0 := free_own (e := 3) hO5 1 rfl x
            have r0c := cell_own hO5 1 rfl (rowC_at a b r hxl)
            cases hin : inP l (stepP a b r x) with
            | true =>
              obtain ⟨y, hy, hyk⟩ := List.mem_map.1 (inP_iff.1 hin)
              obtain ⟨n, hn⟩ := List.getElem?_of_mem hy
              have hg := mapP_some HW1.out.2.2.2 hn
              rw [hyk, HST.out] at hg
              rw [hg] at hlk
              have hlk : (Instr.lookup 114 (.map (some gm)) (.agg #[.int .i64 (p1 : Int), .int .i64 (q1 : Int)]) true).run Tryd.prog W5 = .ok (.tuple #[.int .i64 (n : Int), .bool true]) W5 := hlk
              have hix := idxP_of HW1.out.2.2.1 (prefix_get? HW1.out.1 hn) hyk
              have hsx : rowP a b (goP a b i) i (x + 1) = l := by rw [HS.out, hin]; rfl
              have HF := Lib.hid (And.intro hix hsx)
              clear hg hin hy hyk hn hix hsx
              go_wp2
              have hO6 := hO5.store 1 rfl x (.int .i64 (n : Int))
              rw [rowC_set a b r hxl (by rw [HF.out.1])] at hO6
              go_roundw
              case rel => exact ⟨x + 1, om2, gl2, cl2, by go_num, hxl, by rw [HF.out.2]; exact hle2, by rw [HF.out.2], by rw [HF.out.2]; exact hmo, by rw [HF.out.2]; exact hO6.drop⟩
              case measure => simp [intOf]; omega
            | false =>
              have hg := mapP_none hin
              rw [HST.out] at hg
              rw [hg] at hlk
              have hlk : (Instr.lookup 114 (.map (some gm)) (.agg #[.int .i64 (p1 : Int), .int .i64 (q1 : Int)]) true).run Tryd.prog W5 = .ok (.tuple #[.int .i64 0, .bool false]) W5 := hlk
              have hsx : rowP a b (goP a b i) i (x + 1) = l ++ [newP a b r i x] := by rw [HS.out, hin]; rfl
              have hwn := HW1.out.2.1
              rw [hin] at hwn
              have hwn : l ++ [newP a b r i x] <+: pairsL a b := hwn
              have hkn : (newP a b r i x).key = stepP a b r x := rfl
              have hix := idxP_of HW1.out.2.2.1 (prefix_get? hwn (i := l.length) (r := newP a b r i x) (by simp)) hkn
              have hll := hwn.length_le
              rw [List.length_append] at hll
              have hnc : rCells (newP a b r i x) = [.int .i64 (p1 : Int), .int .i64 (q1 : Int), .int .i64 (i : Int), .int .i64 (x : Int), .int .i64 (IntKind.i64.wrap (rl + 1))] := by
                unfold rCells newP
                rw [HST.out, HRP.out.2.2, show IntKind.i64.wrap (rl + 1) = rl + 1 by rw [IntKind.wrap_i64]; omega]
              have HF := Lib.hid (And.intro hix (And.intro hsx (And.intro hll (And.intro hnc hg))))
              clear hg hin hsx hwn hkn hix hll hnc
              by_cases hfull : l.length = 4096
              · have hf1 : ((l.length : Int) == 4096) = true := by rw [hfull]; rfl
                have hbig : ¬ (pairsL a b).length ≤ 4096 := by have := HF.out.2.2.1; simp at this; omega
                have HB := Lib.hid hbig
                have HEE := Lib.hid (hE1.trans hO5.ext)
                clear hbig hfull
                go_wp2
                go_ret3
                unfold PairsP
                rw [if_neg HB.out]
                exact ⟨rfl, HEE.out⟩
              · have hf1 : ((l.length : Int) == 4096) = false := by simp; omega
                have hlt : l.length < 4096 := by omega
                clear hfull
                have c4 := cell_row5 hO5 3 rfl HR1.out 4 (u := .int .i64 rl) (by show some (Value.int .i64 r.ln) = _; rw [HRP.out.2.2])
                obtain ⟨hrl0, hrl1⟩ := hrlb
                have hs0 : W5.cell? ⟨b5, 0, none⟩ = some (.int .i64 (p1 : Int)) ∧ W5.cell? ⟨b5, 1, none⟩ = some (.int .i64 (q1 : Int)) ∧ W5.cell? ⟨gl2, i * 5 + 4, none⟩ = some (.int .i64 rl) := ⟨d0, d1, c4⟩
                go_upto_region 16 with fail
                have hO7 : OwnL W1 (W5.alloc (.cells #[.int .i64 (p1 : Int), .int .i64 (q1 : Int), .int .i64 (i : Int), .int .i64 (x : Int), .int .i64 (IntKind.i64.wrap (rl + 1))] 97)).drew [.blk b5 (.cells #[.int .i64 (p1 : Int), .int .i64 (q1 : Int)] 95), .row 3 1 (.slice (some ⟨gr, 0, none⟩) a.k a.k) a.k (rowC a b r x), .rows 31 3 1 u9 vs ((rowsAt a b i).map iRow), .row 97 5 (.slice (some ⟨gl2, 0, none⟩) l.length cl2) l.length (l.flatMap rCells), .blk gm om2] := hO5.trans ((alloc_ext _ _).trans (drew_ext _))
                have hnew7 : ∀ (j : Nat) (u : Value), [Value.int .i64 (p1 : Int), .int .i64 (q1 : Int), .int .i64 (i : Int), .int .i64 (x : Int), .int .i64 (IntKind.i64.wrap (rl + 1))][j]? = some u → (W5.alloc (.cells #[.int .i64 (p1 : Int), .int .i64 (q1 : Int), .int .i64 (i : Int), .int .i64 (x : Int), .int .i64 (IntKind.i64.wrap (rl + 1))] 97)).drew.cell? ((⟨W5.heap.size, 0, none⟩ : Addr).add j) = some u := cells_new W5 #[.int .i64 (p1 : Int), .int .i64 (q1 : Int), .int .i64 (i : Int), .int .i64 (x : Int), .int .i64 (IntKind.i64.wrap (rl + 1))] 97
                have hsz7 := hO7.ext.size
                have hR7 := rcells_get HR1.out 4 (.int .i64 rl) (by show some (Value.int .i64 r.ln) = _; rw [HRP.out.2.2])
                have hne7 : some gl2 ≠ some gm := fun e => by
                  injection e with e
                  exact hO7.ne 3 4 (by omega) rfl rfl gl2 rfl e
                go_region_held3 (fun w' => w'.cell? ⟨b5, 0, none⟩ = some (.int .i64 (p1 : Int)) ∧ w'.cell? ⟨b5, 1, none⟩ = some (.int .i64 (q1 : Int)) ∧ w'.cell? ⟨gl2, i * 5 + 4, none⟩ = some (.int .i64 rl)) ((first | exact hs0 | exact ⟨(alloc_ext _ _).cell hs0.1, (alloc_ext _ _).cell hs0.2.1, (alloc_ext _ _).cell hs0.2.2⟩ | exact hs8 | exact hs9)) ((refine step_append_own3 (by rfl) _ _ 91 (by rfl) W1.heap.size 97 i97 (.agg #[.int .i64 0, .int .i64 0, .int .i64 0, .int .i64 0, .int .i64 0]) 5 40 Tryd.underlying91 hi97 hz97 hs97 hb97 rfl (by decide) (.slice (some ⟨gl2, 0, none⟩) l.length cl2) l.length (l.flatMap rCells) (by rfl) (hO7.get 3 rfl) ⟨W5.heap.size, 0, none⟩ 1 1 [.int .i64 (p1 : Int), .int .i64 (q1 : Int), .int .i64 (i : Int), .int .i64 (x : Int), .int .i64 (IntKind.i64.wrap (rl + 1))] (by rfl) rfl hnew7 (five_ints _ _ _ _ _) (by unfold maxLen; omega) (by omega) hsz7 ?_; intro v6 w6 hown6 hg6 hb6 hk6; have hO8 := hO7.app 3 rfl hg6 hown6 hb6; have hs8 : w6.cell? ⟨b5, 0, none⟩ = some (.int .i64 (p1 : Int)) ∧ w6.cell? ⟨b5, 1, none⟩ = some (.int .i64 (q1 : Int)) ∧ w6.cell? ⟨gl2, i * 5 + 4, none⟩ = some (.int .i64 rl) := ⟨cell_of_blk (hO8.get 0 rfl).2 0 rfl, cell_of_blk (hO8.get 0 rfl).2 1 rfl, hk6 gl2 _ _ rfl _ _ hR7⟩; obtain ⟨W9, om3, hrun, hmo3, hO9, hg9, hb9⟩ := hO8.mapPut 4 rfl hmo key95 Tryd.underlying114 hpk HF.out.2.2.2.2 (l.length : Int) (v := .agg #[.int .i64 (p1 : Int), .int .i64 (q1 : Int)]) rfl; have hs9 : W9.cell? ⟨b5, 0, none⟩ = some (.int .i64 (p1 : Int)) ∧ W9.cell? ⟨b5, 1, none⟩ = some (.int .i64 (q1 : Int)) ∧ W9.cell? ⟨gl2, i * 5 + 4, none⟩ = some (.int .i64 rl) := ⟨cell_of_blk (hO9.get 0 rfl).2 0 rfl, cell_of_blk (hO9.get 0 rfl).2 1 rfl, hg9.cell hs8.2.2 hne7⟩; clear hk6 hb6 hg6 hg9))
                clear hs0 hs8 hs9 hR7 hnew7 hO7 d0 d1 c4 f0 r0c hlk hrun hmo
                have f0 := free_own (e := 3) hO9 1 rfl x
                have r0c := cell_own hO9 1 rfl (rowC_at a b r hxl)
                obtain ⟨g6, c6, rfl⟩ := ownsRow_pos hown6 (by omega)
                go_wp2
                have hO10 := hO9.store 1 rfl x (.int .i64 (l.length : Int))
                rw [rowC_set a b r hxl (by rw [HF.out.1])] at hO10
                have hln2 : (l ++ [newP a b r i x]).length = l.length + 1 := by simp
                have hfl : (l ++ [newP a b r i x]).flatMap rCells = l.flatMap rCells ++ [.int .i64 (p1 : Int), .int .i64 (q1 : Int), .int .i64 (i : Int), .int .i64 (x : Int), .int .i64 (IntKind.i64.wrap (rl + 1))] := by rw [List.flatMap_append, ← HF.out.2.2.2.1]; simp
                have hmp : mapP (l ++ [newP a b r i x]) = mapP l ++ [((p1, q1), (l.length : Int))] := by rw [mapP_snoc]; show _ ++ [(stepP a b r x, _)] = _; rw [HST.out]
                go_roundw
                case rel =>
                  refine ⟨x + 1, om3, g6, c6, by go_num, hxl, ?_, ?_, ?_, ?_⟩
                  · rw [HF.out.2.1]; exact Lib.hid (by rw [hln2]; omega)
                  · rw [HF.out.2.1, hln2]
                  · rw [HF.out.2.1, hmp]; exact hmo3
                  · rw [HF.out.2.1, hln2, hfl]; exact hO10.drop
                case measure => simp [intOf]; omega
          · obtain rfl : x = a.k := by omega
            have hrows : OwnRows W4 W1.heap.size 31 3 1 u9 vs ((rowsAt a b i).map iRow) := hO.get 1 rfl
            have hvl : vs.length = i := by have := hrows.len; simpa [rowsAt] using this
            have hown := hrows.own
            have hE := hO.ext
            have hszb := hE.size
            have hpl : pairsL a b = pairsL a b := rfl
            have hri : (pairsL a b).getD i r0 = r := getD_of_get? (prefix_get? (HWH.out 0 (Nat.zero_le _)) (by show (goP a b i)[i]? = some r; exact HR0.out))
            have hra : (rowsAt a b (i + 1)).map iRow = (rowsAt a b i).map iRow ++ [(a.k, rowC a b r a.k)] := by
              unfold rowsAt
              rw [List.range_succ, List.map_append, List.map_append]
              simp only [List.map_cons, List.map_nil]
              rw [hri, rowC_end]
              congr 3
              simp [iRow, numsP]
            have HRA := Lib.hid (And.intro hra hvl)
            have hil4 : i < 4096 := by have := hle.out; omega
            have hvl4 : vs.length < 4096 := by omega
            clear hrows hpl hri hra hvl
            go_wp2_with (at_builtin; refine wpList_append_own2 rfl _ _ 25 rfl W1.heap.size 31 i31 (.slice none 0 0) 1 24 Tryd.underlying25 hi31 hz31 hs31 hb31 rfl (by decide) u9 vs.length vs rfl (World.ownsRow.alloc hown _) ⟨W4.heap.size, 0, none⟩ 1 1 [.slice (some ⟨gr, 0, none⟩) a.k a.k] rfl rfl (new_cell _ _ _ _ rfl) (one_slice _ _ _) (by unfold maxLen; omega) (by omega) (by simp; omega) ?_; intro v6 w6 hown6 hg6 hb6)
            have hO7 := (hO.trans (alloc_ext _ _)).push hg6 hown6 hb6
            rw [← HRA.out.1] at hO7
            go_roundw
            case rel =>
              refine ⟨i + 1, om2, gl2, cl2, vs ++ [.slice (some ⟨gr, 0, none⟩) a.k a.k], by go_num, ?_, ?_, ?_, ?_, ?_⟩
              · rw [HGS.out]; exact Lib.hid (by have := (HPR.out a.k).length_le; omega)
              · rw [HGS.out]; exact hle2
              · rw [HGS.out]
              · rw [HGS.out]; exact hmo
              · rw [HGS.out]; exact hO7
            case measure => simp [intOf]; omega
      · have hie : i = (goP a b i).length := by have := hi.out; omega
        have hgw := goP_whole (a := a) (b := b) HK.out.2.1 HK.out.2.2 HK.out.1 hie
        have hle' := hle.out
        rw [hgw] at hmo hO hle' hie
        have hrows : OwnRows W2 W1.heap.size 31 3 1 u9 vs ((rowsAt a b i).map iRow) := hO.get 0 rfl
        have hls : W2.ownsRow W1.heap.size 97 5 (.slice (some ⟨gl, 0, none⟩) (pairsL a b).length cl) (pairsL a b).length ((pairsL a b).flatMap rCells) := hO.get 1 rfl
        have hra : rowsAt a b i = rowsP a b (pairsL a b) := by
          unfold rowsAt rowsP
          rw [hie]
          exact map_range_getD (numsP a b (pairsL a b)) (pairsL a b)
        obtain ⟨Au, cu, hvu, hncu, hcu⟩ := cells_of_owns hrows.own
        have hvl : vs.length = (rowsP a b (pairsL a b)).length := by rw [hrows.len, List.length_map, hra]
        rw [hvl] at hvu
        have hlist : ListsC W2 u9 (rowsP a b (pairsL a b)) cu := by
          rw [hra, hvu] at hrows
          rw [hvu]
          refine listsC_of_own hrows rfl (by unfold rowsP lenMax; rw [List.length_map]; omega) (fun r hr => ?_)
          unfold rowsP at hr
          obtain ⟨y, _, rfl⟩ := List.mem_map.1 hr
          unfold numsP lenMax
          rw [List.length_map, List.length_range]; omega
        have hrch : RchC W2 (.slice (some ⟨gl, 0, none⟩) (pairsL a b).length cl) (pairsL a b) := by
          obtain ⟨A, c, hv, _, hc⟩ := cells_of_owns hls
          injection hv with hv1 hv2 hv3
          subst hv1 hv3
          exact ⟨_, _, rfl, hc, by unfold lenMax; omega⟩
        have HF := Lib.hid (And.intro hrch (And.intro hlist (And.intro hle' (And.intro hgw (hE1.trans hO.ext)))))
        have hnot : ¬ (i : Int) < ((goP a b i).length : Int) := by omega
        clear hie hrows hls hra hvu hncu hcu hvl hlist hrch hle' hmo hO hgw
        go_wp2
        go_ret3
        unfold PairsP
        rw [if_pos HF.out.2.2.1]
        exact ⟨_, _, _, by rw [HF.out.2.2.2.1]; rfl, HF.out.1, HF.out.2.1, HF.out.2.2.2.2⟩
end Go.Proofs.YthlnmcokgfpgmaaDoor

namespace Go.Proofs.YthlnmcokgfpgmaaDoor
open Go.RowKit Go.Maps
set_option linter.unusedVariables false
set_option linter.unusedSimpArgs false
attribute [local go_sem] Oper.quietV quietV Oper.gives givesV ext_refl_iff ext_alloc_iff ext_drew_iff ext_drewN_iff
def chkL (a b : Dfa) : Int := if checkD a ≠ 0 then checkD a else if checkD b ≠ 0 then checkD b else if a.sy ≠ b.sy then 5 else 0
set_option maxHeartbeats 1000000 in
theorem checked_any (w : World) (dv dv' : Value) (a b : Dfa) (hd : DfaV w dv a) (hd' : DfaV w dv' b) : Calls Tryd.prog 51 #[dv, dv'] w fun e w' => e = .returned (.int .i64 (chkL a b)) ∧ Ext w w' := by
  obtain ⟨rv, cr, av, ca, rfl, hr, ha⟩ := id hd
  obtain ⟨Ar, vr, rfl, _, _, _, _, hrm⟩ := id hr
  obtain ⟨Aa, rfl, hac, _, ham⟩ := id ha
  obtain ⟨rv', cr', av', ca', rfl, hr', ha'⟩ := id hd'
  obtain ⟨Ar', vr', rfl, _, _, _, _, hrm'⟩ := id hr'
  obtain ⟨Aa', rfl, hac', _, ham'⟩ := id ha'
  unfold lenMax at hrm ham hrm' ham'
  go_enter Tryd.func51, Tryd.ntmps51
  go_upto_region 1 with fail
  refine wp_named ?_
  intro W1 hW1
  have hE1 : Ext w W1 := by rw [hW1]; exact ((Ext.refl _).alloc _).alloc _
  have k0 : ∀ w', Ext W1 w' → w'.cell? ⟨w.heap.size, 0, none⟩ = some (.int .i64 a.sy) := fun w' h => h.cell (by rw [hW1]; simp [go_sem])
  have k1 : ∀ w', Ext W1 w' → w'.cell? ⟨w.heap.size, 1, none⟩ = some (.slice Ar a.rows.length cr) := fun w' h => h.cell (by rw [hW1]; simp [go_sem])
  have k2 : ∀ w', Ext W1 w' → w'.cell? ⟨w.heap.size, 2, none⟩ = some (.slice Aa a.acc.length ca) := fun w' h => h.cell (by rw [hW1]; simp [go_sem])
  have l0 : ∀ w', Ext W1 w' → w'.cell? ⟨w.heap.size + 1, 0, none⟩ = some (.int .i64 b.sy) := fun w' h => h.cell (by rw [hW1]; simp [go_sem])
  have l1 : ∀ w', Ext W1 w' → w'.cell? ⟨w.heap.size + 1, 1, none⟩ = some (.slice Ar' b.rows.length cr') := fun w' h => h.cell (by rw [hW1]; simp [go_sem])
  have l2 : ∀ w', Ext W1 w' → w'.cell? ⟨w.heap.size + 1, 2, none⟩ = some (.slice Aa' b.acc.length ca') := fun w' h => h.cell (by rw [hW1]; simp [go_sem])
  clear hW1
  have hE0 := Ext.refl W1
  have hc1 := check_any W1 _ a (hd.ext hE1)
  have hc2 := fun w' (h : Ext W1 w') => check_any w' _ b (hd'.ext (hE1.trans h))
  by_cases h1 : checkD a = 0
  · have h1' : (checkD a != 0) = false := by simpa using h1
    by_cases h2 : checkD b = 0
    · have h2' : (checkD b != 0) = false := by simpa using h2
      by_cases h3 : a.sy = b.sy
      · have h3' : (a.sy != b.sy) = false := by simpa using h3
        have H : Hid (chkL a b = 0) := by show _ = _; unfold chkL; rw [if_neg (by simpa using h1), if_neg (by simpa using h2), if_neg (by simpa using h3)]
        clear h1 h2 h3
        go_upto_region 4 with ((with_reducible refine hc1.mono ?_); rintro e w1 ⟨rfl, e1⟩)
        have hc2 := hc2 w1 e1
        go_wp2_with ((with_reducible refine hc2.mono ?_); rintro e w2 ⟨rfl, e2⟩; have e3 := e1.trans e2)
        go_ret
        exact ⟨by rw [H.out]; rfl, hE1.trans e3⟩
      · have h3' : (a.sy != b.sy) = true := by simpa using h3
        have H : Hid (chkL a b = 5) := by show _ = _; unfold chkL; rw [if_neg (by simpa using h1), if_neg (by simpa using h2), if_pos h3]
        clear h1 h2 h3
        go_upto_region 4 with ((with_reducible refine hc1.mono ?_); rintro e w1 ⟨rfl, e1⟩)
        have hc2 := hc2 w1 e1
        go_wp2_with ((with_reducible refine hc2.mono ?_); rintro e w2 ⟨rfl, e2⟩; have e3 := e1.trans e2)
        go_ret
        exact ⟨by rw [H.out]; rfl, hE1.trans e3⟩
    · have h2' : (checkD b != 0) = true := by simpa using h2
      have H : Hid (chkL a b = checkD b) := by show _ = _; unfold chkL; rw [if_neg (by simpa using h1), if_pos h2]
      clear h1 h2
      go_upto_region 4 with ((with_reducible refine hc1.mono ?_); rintro e w1 ⟨rfl, e1⟩)
      have hc2 := hc2 w1 e1
      go_wp2_with ((with_reducible refine hc2.mono ?_); rintro e w2 ⟨rfl, e2⟩; have e3 := e1.trans e2)
      go_ret
      exact ⟨by rw [H.out]; rfl, hE1.trans e3⟩
  · have h1' : (checkD a != 0) = true := by simpa using h1
    have H : Hid (chkL a b = checkD a) := by show _ = _; unfold chkL; rw [if_pos h1]
    clear h1
    go_wp2_with ((with_reducible refine hc1.mono ?_); rintro e w1 ⟨rfl, e1⟩)
    go_ret
    exact ⟨by rw [H.out]; rfl, hE1.trans e1⟩
theorem minus1_any (w : World) (x y : Bool) : Calls Tryd.prog 93 #[.bool x, .bool y] w fun e w' => e = .returned (.bool (x && !y)) ∧ w' = w := by
  cases x <;> cases y <;>
  · go_enter Tryd.func93, Tryd.ntmps93
    go_wp2
    go_ret
    exact ⟨rfl, rfl⟩
theorem union1_any (w : World) (x y : Bool) : Calls Tryd.prog 94 #[.bool x, .bool y] w fun e w' => e = .returned (.bool (x || y)) ∧ w' = w := by
  cases x <;> cases y <;>
  · go_enter Tryd.func94, Tryd.ntmps94
    go_wp2
    go_ret
    exact ⟨rfl, rfl⟩
theorem common1_any (w : World) (x y : Bool) : Calls Tryd.prog 95 #[.bool x, .bool y] w fun e w' => e = .returned (.bool (x && y)) ∧ w' = w := by
  cases x <;> cases y <;>
  · go_enter Tryd.func95, Tryd.ntmps95
    go_wp2
    go_ret
    exact ⟨rfl, rfl⟩

/-! ### Inclusion -/
def offP (a b : Dfa) (r : Rch) : Bool := a.ac r.p && !b.ac r.q
def wayP (L : List Rch) : Nat → Nat → List Int
  | 0, _ => []
  | m + 1, n => wayP L m (L.getD n r0).fr.toNat ++ [(L.getD n r0).sy]
theorem wayP_len (L : List Rch) : ∀ m n, (wayP L m n).length = m
  | 0, _ => rfl
  | m + 1, n => by unfold wayP; rw [List.length_append, wayP_len L m]; rfl
def inclG (a b : Dfa) (L : List Rch) : Bool × List Int × Int :=
  match L.findIdx? (offP a b) with
  | none => (true, [], 0)
  | some n => if 256 < (L.getD n r0).ln then (false, [], 3) else (false, wayP L (L.getD n r0).ln.toNat n, 0)
def inclR (a b : Dfa) : Bool × List Int × Int :=
  if chkL a b ≠ 0 then (false, [], chkL a b) else if 4096 < (pairsL a b).length then (false, [], 3) else inclG a b (pairsL a b)
def InclP (r : Bool × List Int × Int) (w : World) (e : Ending) (w' : World) : Prop := ∃ v, e = .returned (.tuple #[.bool r.1, v, .int .i64 r.2.2]) ∧ FitC w' v r.2.1 ∧ Ext w w'
def GlobM (w : World) : Prop := w.cell? ⟨0, 0, none⟩ = some (.func (.func 93) #[] #[])
theorem GlobM.ext {w w' : World} (h : GlobM w) (e : Ext w w') : GlobM w' := e.cell h
theorem chkL_zero {a b : Dfa} (h : chkL a b = 0) : Good a ∧ Good b ∧ a.k = b.k := by
  unfold chkL at h
  split at h
  · rename_i h1; exact absurd h h1
  · rename_i h1
    split at h
    · rename_i h2; exact absurd h h2
    · rename_i h2
      split at h
      · cases h
      · rename_i h3
        exact ⟨(good_iff a).1 (by simpa using h1), (good_iff b).1 (by simpa using h2), by unfold Dfa.k; rw [show a.sy = b.sy by simpa using h3]⟩
theorem chkL_good {a b : Dfa} (ha : Good a) (hb : Good b) (hs : a.sy = b.sy) : chkL a b = 0 := by
  unfold chkL
  rw [if_neg (by simpa using (good_iff a).2 ha), if_neg (by simpa using (good_iff b).2 hb), if_neg (by simpa using hs)]

theorem pairs_ok (w : World) (dv dv' : Value) (a b : Dfa) (hd : DfaV w dv a) (hd' : DfaV w dv' b) (hga : Good a) (hgb : Good b) (hk : a.k = b.k) (h : (pairsL a b).length ≤ 4096) :
    Calls Tryd.prog 52 #[dv, dv'] w fun e w' => ∃ lv rv c, e = .returned (.tuple #[lv, rv, .int .i64 0]) ∧ RchC w' lv (pairsL a b) ∧ ListsC w' rv (rowsP a b (pairsL a b)) c ∧ Ext w w' :=
  (pairs_any w dv dv' a b hd hd' hga hgb hk).mono fun e w' h' => by unfold PairsP at h'; rwa [if_pos h] at h'
theorem pairs_big (w : World) (dv dv' : Value) (a b : Dfa) (hd : DfaV w dv a) (hd' : DfaV w dv' b) (hga : Good a) (hgb : Good b) (hk : a.k = b.k) (h : ¬ (pairsL a b).length ≤ 4096) :
    Calls Tryd.prog 52 #[dv, dv'] w fun e w' => e = .returned (.tuple #[.slice none 0 0, .slice none 0 0, .int .i64 3]) ∧ Ext w w' :=
  (pairs_any w dv dv' a b hd hd' hga hgb hk).mono fun e w' h' => by unfold PairsP at h'; rwa [if_neg h] at h'
theorem rch_at {w : World} {A : Option Addr} {L : List Rch} (h : Cells w A (L.flatMap rCells)) {n : Nat} {r : Rch} (hn : L[n]? = some r) : ∃ b o, A = some ⟨b, o, none⟩ ∧ w.cell? ⟨b, o + n * 5, none⟩ = some (.int .i64 r.p) ∧ w.cell? ⟨b, o + n * 5 + 1, none⟩ = some (.int .i64 r.q) ∧ w.cell? ⟨b, o + n * 5 + 2, none⟩ = some (.int .i64 r.fr) ∧ w.cell? ⟨b, o + n * 5 + 3, none⟩ = some (.int .i64 r.sy) ∧ w.cell? ⟨b, o + n * 5 + 4, none⟩ = some (.int .i64 r.ln) := by
  have hlt := (List.getElem?_eq_some_iff.1 hn).1
  obtain ⟨b, o, hA, _, hc⟩ := h (by rw [rcells_len]; omega)
  refine ⟨b, o, hA, ?_, ?_, ?_, ?_, ?_⟩
  · exact hc (n * 5) _ (rcells_get hn 0 _ rfl)
  · exact hc (n * 5 + 1) _ (rcells_get hn 1 _ rfl)
  · exact hc (n * 5 + 2) _ (rcells_get hn 2 _ rfl)
  · exact hc (n * 5 + 3) _ (rcells_get hn 3 _ rfl)
  · exact hc (n * 5 + 4) _ (rcells_get hn 4 _ rfl)
theorem Good.acc_at {w : World} {d : Dfa} (h : Good d) {A : Option Addr} (ha : Cells w A (d.acc.map .bool)) {s : Nat} (hs : s < d.n) : ∃ b o, A = some ⟨b, o, none⟩ ∧ w.cell? ⟨b, o + s, none⟩ = some (.bool (d.ac s)) := by
  have hs' : s < d.rows.length := hs
  have hsa : s < d.acc.length := by rw [h.acc]; exact hs'
  obtain ⟨b, o, hA, _, hc⟩ := ha.at_bool hsa
  rw [h.ac_eq hs'] at hc
  exact ⟨b, o, hA, hc⟩
theorem findIdx?_take {α : Type} {p : α → Bool} {L : List α} {n : Nat} {r : α} (hn : L[n]? = some r) (h : (L.take n).findIdx? p = none) : (L.take (n + 1)).findIdx? p = if p r then some n else none := by
  obtain ⟨hlt, he⟩ := List.getElem?_eq_some_iff.1 hn
  rw [List.take_succ_eq_append_getElem hlt, List.findIdx?_append, h, he]
  cases hp : p r <;> simp [List.findIdx?_cons, hp, Nat.min_eq_left (Nat.le_of_lt hlt)]
theorem findIdx?_found {α : Type} {p : α → Bool} {L : List α} {n m : Nat} (h : (L.take n).findIdx? p = some m) : L.findIdx? p = some m := by
  conv => lhs; rw [← List.take_append_drop n L]
  rw [List.findIdx?_append, h]; rfl

set_option maxRecDepth 100000 in
set_option maxHeartbeats 4000000 in
theorem Inclusion_any (w : World) (dv dv' : Value) (a b : Dfa) (hd : DfaV w dv a) (hd' : DfaV w dv' b) (hgl : GlobM w) : Calls Tryd.prog 29 #[dv, dv'] w (InclP (inclR a b) w) := by
  obtain ⟨rv, cr, av, ca, rfl, hr, ha⟩ := id hd
  obtain ⟨Ar, vr, rfl, _, _, _, _, hrm⟩ := id hr
  obtain ⟨Aa, rfl, hac, _, ham⟩ := id ha
  obtain ⟨rv', cr', av', ca', rfl, hr', ha'⟩ := id hd'
  obtain ⟨Ar', vr', rfl, _, _, _, _, hrm'⟩ := id hr'
  obtain ⟨Aa', rfl, hac', _, ham'⟩ := id ha'
  unfold lenMax at hrm ham hrm' ham'
  go_enter Tryd.func29, Tryd.ntmps29
  go_upto_region 1 with fail
  refine wp_named ?_
  intro W1 hW1
  have hE1 : Ext w W1 := by rw [hW1]; exact ((Ext.refl _).alloc _).alloc _
  have k0 : ∀ w', Ext W1 w' → w'.cell? ⟨w.heap.size, 0, none⟩ = some (.int .i64 a.sy) := fun w' h => h.cell (by rw [hW1]; simp [go_sem])
  have k1 : ∀ w', Ext W1 w' → w'.cell? ⟨w.heap.size, 1, none⟩ = some (.slice Ar a.rows.length cr) := fun w' h => h.cell (by rw [hW1]; simp [go_sem])
  have k2 : ∀ w', Ext W1 w' → w'.cell? ⟨w.heap.size, 2, none⟩ = some (.slice Aa a.acc.length ca) := fun w' h => h.cell (by rw [hW1]; simp [go_sem])
  have l0 : ∀ w', Ext W1 w' → w'.cell? ⟨w.heap.size + 1, 0, none⟩ = some (.int .i64 b.sy) := fun w' h => h.cell (by rw [hW1]; simp [go_sem])
  have l1 : ∀ w', Ext W1 w' → w'.cell? ⟨w.heap.size + 1, 1, none⟩ = some (.slice Ar' b.rows.length cr') := fun w' h => h.cell (by rw [hW1]; simp [go_sem])
  have l2 : ∀ w', Ext W1 w' → w'.cell? ⟨w.heap.size + 1, 2, none⟩ = some (.slice Aa' b.acc.length ca') := fun w' h => h.cell (by rw [hW1]; simp [go_sem])
  clear hW1
  have hE0 := Ext.refl W1
  have hc1 := checked_any W1 _ _ a b (hd.ext hE1) (hd'.ext hE1)
  by_cases hz : chkL a b = 0
  rotate_left
  · have hz' : (chkL a b != 0) = true := by simpa using hz
    have H : Hid (inclR a b = (false, [], chkL a b)) := if_pos hz
    clear hz
    go_wp2_with ((with_reducible refine hc1.mono ?_); rintro e w1 ⟨rfl, e1⟩)
    go_ret3
    rw [H.out]
    exact ⟨_, rfl, fit_nil _, hE1.trans e1⟩
  obtain ⟨hga, hgb, hkk⟩ := chkL_zero hz
  have H : Hid (inclR a b = if 4096 < (pairsL a b).length then (false, [], 3) else inclG a b (pairsL a b)) := if_neg (by simpa using hz)
  rw [hz] at hc1
  clear hz
  go_upto_region 4 with ((with_reducible refine hc1.mono ?_); rintro e w1 ⟨rfl, e1⟩)
  have hda := hd.ext (hE1.trans e1)
  have hdb := hd'.ext (hE1.trans e1)
  have hokL := okP_all hga hgb hkk
  have HG := Lib.hid (And.intro hga (And.intro hgb (And.intro hkk hokL)))
  clear hc1 hga hgb hkk hokL
  by_cases hbig : (pairsL a b).length ≤ 4096
  rotate_left
  · have H : Hid (inclR a b = (false, [], 3)) := by show _ = _; rw [H.out, if_pos (by omega)]
    have hc2 := pairs_big w1 _ _ a b hda hdb HG.out.1 HG.out.2.1 HG.out.2.2.1 hbig
    clear hbig hda hdb
    go_wp2_with ((with_reducible refine hc2.mono ?_); rintro e w2 ⟨rfl, e2⟩)
    go_ret3
    rw [H.out]
    exact ⟨_, rfl, fit_nil _, (hE1.trans e1).trans e2⟩
  have H : Hid (inclR a b = inclG a b (pairsL a b)) := by show _ = _; rw [H.out, if_neg (by omega)]
  have hc2 := pairs_ok w1 _ _ a b hda hdb HG.out.1 HG.out.2.1 HG.out.2.2.1 hbig
  clear hda hdb
  generalize pairsL a b = L at *
  generalize rowsP a b L = RP at *
  go_upto_region 7 with ((with_reducible refine hc2.mono ?_); rintro e w2 ⟨lv, rv, cL, rfl, ⟨AL, cl, rfl, hcl, hll⟩, hlr, e2⟩)
  clear hc2 hlr
  have hE2 : Ext W1 w2 := e1.trans e2
  have hO : OwnL w2 w2 [] := OwnL.nil (Ext.refl _)
  go_wp2
  go_loopw [33] (fun iv wr => ∃ n : Nat, iv = .int .i64 n ∧ n ≤ L.length ∧ Hid ((L.take n).findIdx? (offP a b) = none) ∧ Ext w2 wr) (fun iv _ => L.length - (intOf iv).toNat)
  case atStart => exact ⟨0, rfl, Nat.zero_le _, Lib.hid (by simp), Ext.refl _⟩
  case round =>
    obtain ⟨n, rfl, hn, hnone, hE⟩ := hrel
    obtain ⟨W3, hW3⟩ : ∃ W, W = wr := ⟨_, rfl⟩; subst hW3
    by_cases hnl : n < L.length
    · obtain ⟨r, hr0⟩ : ∃ r, L[n]? = some r := ⟨_, List.getElem?_eq_getElem hnl⟩
      have hin := HG.out.2.2.2.inn r (List.mem_of_getElem? hr0)
      have hE3 : Ext W1 W3 := hE2.trans hE
      obtain ⟨bL, oL, hAL, c0, c1, c2, c3, c4⟩ := rch_at (Cells.ext hcl hE) hr0
      obtain ⟨ba, oa, hAa, ca0⟩ := HG.out.1.acc_at (hac.ext (hE1.trans hE3)) hin.1
      obtain ⟨bb, ob, hAb, cb0⟩ := HG.out.2.1.acc_at (hac'.ext (hE1.trans hE3)) hin.2
      subst hAL hAa hAb
      have hft := findIdx?_take hr0 hnone.out
      have hoff : offP a b r = (a.ac r.p && !b.ac r.q) := rfl
      have hgm := hgl.ext (hE1.trans hE3)
      unfold GlobM at hgm
      have hpa : r.p < a.acc.length := by rw [HG.out.1.acc]; exact hin.1
      have hqb : r.q < b.acc.length := by rw [HG.out.2.1.acc]; exact hin.2
      have hln := HG.out.2.2.2.ln n r hr0
      rw [hoff] at hft
      have HFT := Lib.hid (And.intro hft hr0)
      clear hft hr0 hin hoff
      generalize hra : a.ac r.p = xa at *
      generalize hrb : b.ac r.q = xb at *
      clear hra hrb
      have hnI : (n : Int) < (L.length : Int) := by omega
      have kk2 := k2 W3 hE3
      have ll2 := l2 W3 hE3
      go_upto_region 10 with fail
      refine wp_named ?_
      intro W4 hW4
      have e34 : Ext W3 W4 := by rw [hW4]; exact alloc_ext _ _
      have d0 : W4.cell? ⟨W3.heap.size, 0, none⟩ = some (.int .i64 r.p) := by rw [hW4]; simp [go_sem]
      have d1 : W4.cell? ⟨W3.heap.size, 1, none⟩ = some (.int .i64 r.q) := by rw [hW4]; simp [go_sem]
      have d4 : W4.cell? ⟨W3.heap.size, 4, none⟩ = some (.int .i64 r.ln) := by rw [hW4]; simp [go_sem]
      have kk2 := e34.cell kk2
      have ll2 := e34.cell ll2
      have ca0 := e34.cell ca0
      have cb0 := e34.cell cb0
      have hgm := e34.cell hgm
      have hE := hE.trans e34
      have hpaI : (r.p : Int) < (a.acc.length : Int) := by omega
      have hqbI : (r.q : Int) < (b.acc.length : Int) := by omega
      clear hW4 c0 c1 c2 c3 c4 e34 hE3 hnone
      generalize W3.heap.size = b4 at *
      cases hx : (xa && !xb) with
      | false =>
        rw [hx] at HFT
        have hop := fun w => minus1_any w xa xb
        rw [hx] at hop
        clear hx
        go_quiet ((go_at_call 93; exact Calls.quiet_of_same (hop _)))
        go_wp2
        go_roundw
        case rel => exact ⟨n + 1, by go_num, by omega, HFT.out.1, hE.drewN _⟩
        case measure => simp [intOf]; omega
      | true =>
        rw [hx] at HFT
        have hop := fun w => minus1_any w xa xb
        rw [hx] at hop
        clear hx
        have HI : Hid (inclR a b = if 256 < r.ln then (false, [], 3) else (false, wayP L r.ln.toNat n, 0)) := by
          show _ = _
          rw [H.out]
          unfold inclG
          rw [findIdx?_found HFT.out.1]
          show (if 256 < (L.getD n r0).ln then _ else _) = _
          rw [getD_of_get? HFT.out.2]
        go_quiet ((go_at_call 93; exact Calls.quiet_of_same (hop _)))
        by_cases hlong : 256 < r.ln
        · have HI : Hid (inclR a b = (false, [], 3)) := by show _ = _; rw [HI.out, if_pos hlong]
          go_wp2
          go_ret3
          rw [HI.out]
          exact ⟨_, rfl, fit_nil _, hE1.trans (hE2.trans (hE.drewN _))⟩
        have HI : Hid (inclR a b = (false, wayP L r.ln.toNat n, 0)) := by show _ = _; rw [HI.out, if_neg hlong]
        obtain ⟨m, hm⟩ := Int.eq_ofNat_of_zero_le hln.1
        have HM := Lib.hid hm
        rw [hm] at d4 hlong
        have hlong' : ¬ 256 < m := by omega
        have hmk := mk_ints m (by omega)
        clear hm hln hop
        go_upto_region 14 with fail
        refine wp_named ?_
        intro W5 hW5
        have hO5 : OwnL w2 W5 [.row 3 1 (.slice (some ⟨W4.heap.size, 0, none⟩) m m) m (List.replicate m (.int .i64 0) ++ ([] : List Int).map (.int .i64))] := by
          rw [hW5, List.map_nil, List.append_nil]
          exact (OwnL.nil (hE.drewN _)).add (alloc_ext _ _) (A := .row 3 1 (.slice (some ⟨W4.heap.size, 0, none⟩) m m) m (List.replicate m (.int .i64 0))) (own_new _ _ 3 m (by omega))
        clear hW5 kk2 ll2 ca0 cb0 hgm d0 d1 d4 hmk hE
        generalize W4.heap.size = gw at *
        go_wp2
        go_loopw [11, 14] (fun iv kv wr => ∃ (j i : Nat) (kk : Int) (r' : Rch) (suf : List Int), iv = .int .i64 i ∧ kv = .int .i64 kk ∧ kk = (j : Int) - 1 ∧ Hid (L[i]? = some r') ∧ Hid (r'.ln = j) ∧ Hid (wayP L m n = wayP L j i ++ suf) ∧ j + suf.length = m ∧ OwnL w2 wr [.row 3 1 (.slice (some ⟨gw, 0, none⟩) m m) m (List.replicate j (.int .i64 0) ++ suf.map (.int .i64))]) (fun _ kv _ => (intOf kv + 1).toNat)
        case atStart => exact ⟨m, n, _, r, [], rfl, rfl, rfl, Lib.hid HFT.out.2, HM, Lib.hid (by simp), by simp, hO5⟩
        case round =>
          clear hO5
          obtain ⟨j, i, kk, r', suf, rfl, rfl, hkk2, hri, hrl, hway, hjs, hO⟩ := hrel
          obtain ⟨W6, hW6⟩ : ∃ W, W = wr := ⟨_, rfl⟩; subst hW6
          cases j with
          | zero =>
            obtain rfl : kk = -1 := by omega
            have hw0 : wayP L m n = suf := by rw [hway.out]; rfl
            have hfit : FitC W6 (.slice (some ⟨gw, 0, none⟩) m m) (wayP L m n) := by
              rw [hw0]
              have h1 := hO.get 0 rfl
              exact fit_of_owns (e := 3) h1 (by omega) (by unfold lenMax; omega)
            have HF := Lib.hid (And.intro hfit (hE1.trans (hE2.trans hO.ext)))
            have hmt : r.ln.toNat = m := by rw [HM.out]; rfl
            have HMT := Lib.hid hmt
            clear hw0 hfit hmt hkk2 hO hjs
            go_wp2
            go_ret3
            rw [HI.out, HMT.out]
            exact ⟨_, rfl, HF.out.1, HF.out.2⟩
          | succ j =>
            obtain rfl : kk = (j : Int) := by omega
            have hi0 : 0 < i := by
              rcases Nat.eq_zero_or_pos i with h | h
              · subst h
                have h1 := hri.out
                rw [HG.out.2.2.2.first] at h1
                cases h1
                have h2 := hrl.out
                simp [r0] at h2; omega
              · exact h
            obtain ⟨i', x, r'', hii, hx, hr2, hrn⟩ := HG.out.2.2.2.back i r' hri.out hi0
            have hfr : r'.fr = (i' : Int) := by rw [hrn]; rfl
            have hsy : r'.sy = (x : Int) := by rw [hrn]; rfl
            have hl2 : r''.ln = (j : Int) := by
              have h2 := hrl.out
              rw [hrn] at h2
              simp only [newP] at h2
              omega
            have hwy : wayP L (j + 1) i = wayP L j i' ++ [(x : Int)] := by
              show wayP L j (L.getD i r0).fr.toNat ++ [(L.getD i r0).sy] = _
              rw [getD_of_get? hri.out, hfr, hsy]; rfl
            have hil : i < L.length := (List.getElem?_eq_some_iff.1 hri.out).1
            have hi'l : i' < L.length := by omega
            obtain ⟨bL', oL', hAL', c0, c1, c2, c3, c4⟩ := rch_at hcl hri.out
            injection hAL' with hAL'
            simp only [Addr.mk.injEq] at hAL'
            obtain ⟨hb1, hb2, _⟩ := hAL'
            subst hb1 hb2
            rw [hfr] at c2
            rw [hsy] at c3
            have c2 : ∀ w', Ext w2 w' → w'.cell? ⟨bL, oL + i * 5 + 2, none⟩ = some (.int .i64 (i' : Int)) := fun w' h => h.cell c2
            have c3 : ∀ w', Ext w2 w' → w'.cell? ⟨bL, oL + i * 5 + 3, none⟩ = some (.int .i64 (x : Int)) := fun w' h => h.cell c3
            have hjm : j < m := by omega
            have hz : (List.replicate (j + 1) (Value.int .i64 0) ++ suf.map (Value.int .i64))[j]? = some (.int .i64 0) := by rw [List.getElem?_append_left (by simp), List.getElem?_replicate, if_pos (by omega)]
            have hset : (List.replicate (j + 1) (Value.int .i64 0) ++ suf.map (Value.int .i64)).set j (.int .i64 (x : Int)) = List.replicate j (Value.int .i64 0) ++ ((x : Int) :: suf).map (Value.int .i64) := by
              rw [List.replicate_succ', List.append_assoc, List.set_append_right _ _ (by simp), List.length_replicate, Nat.sub_self]; rfl
            have hw2 : wayP L m n = wayP L j i' ++ ((x : Int) :: suf) := by rw [hway.out, hwy, List.append_assoc]; rfl
            have s0 := cell_own hO 0 rfl hz
            have sf := free_own (e := 3) hO 0 rfl j
            have HF := Lib.hid (And.intro hset (And.intro hw2 (And.intro hl2 hr2)))
            have hiI : (i : Int) < (L.length : Int) := by omega
            have hjI : (j : Int) < (m : Int) := by omega
            have hst := hO.store 0 rfl j (.int .i64 (x : Int))
            have hgwb : w2.heap.size ≤ gw := (Asn.lt (hO.get 0 rfl) (b := gw) rfl).1
            clear hset hw2 hl2 hr2 hz hwy hfr hsy hrn hi0 hii hkk2 c0 c1 c4 hx
            have jr := hO.ext
            have js := hst.ext
            go_upto_region 17 with fail
            go_region_held3 (fun w' => Ext w2 w') ((first | exact jr.drew | exact js.drew | exact js)) ((fail))
            go_wp2
            go_roundw
            case rel =>
              refine ⟨j, i', _, r'', (x : Int) :: suf, rfl, by go_num, rfl, Lib.hid HF.out.2.2.2, Lib.hid HF.out.2.2.1, Lib.hid HF.out.2.1, by simp; omega, ?_⟩
              have h := hst
              simp only [List.set_cons_zero] at h
              rw [HF.out.1] at h
              exact h.trans (drew_ext _)
            case measure => simp [intOf]
    · have HI : Hid (inclR a b = (true, [], 0)) := by
        show _ = _
        have h := hnone.out
        rw [List.take_of_length_le (by omega)] at h
        rw [H.out]; unfold inclG; rw [h]
      go_wp2
      go_ret3
      rw [HI.out]
      exact ⟨_, rfl, fit_nil _, hE1.trans (hE2.trans hE)⟩
end Go.Proofs.YthlnmcokgfpgmaaDoor

namespace Go.Proofs.YthlnmcokgfpgmaaDoor
open Go.RowKit Go.Maps
set_option linter.unusedVariables false
set_option linter.unusedSimpArgs false
attribute [local go_sem] Oper.quietV quietV Oper.gives givesV ext_refl_iff ext_alloc_iff ext_drew_iff ext_drewN_iff
def noneD (a : Dfa) : Dfa := ⟨a.sy, [List.replicate a.k 0], [false]⟩
def leastR (a : Dfa) : List Int × Bool × Int :=
  if checkD a ≠ 0 then ([], false, checkD a) else ((inclR a (noneD a)).2.1, !(inclR a (noneD a)).1 && (inclR a (noneD a)).2.2 == 0, (inclR a (noneD a)).2.2)
def LeastP (r : List Int × Bool × Int) (w : World) (e : Ending) (w' : World) : Prop := ∃ v, e = .returned (.tuple #[v, .bool r.2.1, .int .i64 r.2.2]) ∧ FitC w' v r.1 ∧ Ext w w'
def FreshR (N k : Nat) (v : Value) (w : World) : Prop := ∃ b, v = .slice (some ⟨b, 0, none⟩) k k ∧ N ≤ b ∧ w.heap[b]? = some (.cells (Array.replicate k (.int .i64 0)) 3 (0, 0))
theorem stays_freshR (N k : Nat) : Stays Ext (FreshR N k) := fun v w w' hE ⟨b, hv, hb, h⟩ => ⟨b, hv, hb, heap_ext hE h⟩
def FreshRS (N k : Nat) (v : Value) (w : World) : Prop := ∃ b b', v = .slice (some ⟨b, 0, none⟩) 1 1 ∧ N ≤ b ∧ N ≤ b' ∧ w.heap[b]? = some (.cells #[.slice (some ⟨b', 0, none⟩) k k] 31 (0, 0)) ∧ w.heap[b']? = some (.cells (Array.replicate k (.int .i64 0)) 3 (0, 0))
theorem stays_freshRS (N k : Nat) : Stays Ext (FreshRS N k) := fun v w w' hE ⟨b, b', hv, hb, hb', h, h'⟩ => ⟨b, b', hv, hb, hb', heap_ext hE h, heap_ext hE h'⟩
def FreshS (N : Nat) (cs : Array Value) (t : TypeId) (v : Value) (w : World) : Prop := ∃ b, v = .slice (some ⟨b, 0, none⟩) 1 1 ∧ N ≤ b ∧ w.heap[b]? = some (.cells cs t (0, 0))
theorem stays_freshS (N : Nat) (cs : Array Value) (t : TypeId) : Stays Ext (FreshS N cs t) := fun v w w' hE ⟨b, hv, hb, h⟩ => ⟨b, hv, hb, heap_ext hE h⟩
theorem blk_ne {w : World} {b b' t t' : Nat} {cs cs' : Array Value} (h : w.heap[b]? = some (.cells cs t (0, 0))) (h' : w.heap[b']? = some (.cells cs' t' (0, 0))) (ht : t ≠ t') : b ≠ b' := fun e => by
  subst e
  rw [h] at h'
  injection h' with h'
  injection h' with _ h2
  exact ht h2

set_option maxRecDepth 100000 in
set_option maxHeartbeats 4000000 in
theorem Least_any (w : World) (dv : Value) (a : Dfa) (hd : DfaV w dv a) (hgl : GlobM w) : Calls Tryd.prog 13 #[dv] w (LeastP (leastR a) w) := by
  obtain ⟨rv, cr, av, ca, rfl, hr, ha⟩ := id hd
  obtain ⟨Ar, vr, rfl, _, _, _, _, hrm⟩ := id hr
  obtain ⟨Aa, rfl, hac, _, ham⟩ := id ha
  unfold lenMax at hrm ham
  go_enter Tryd.func13, Tryd.ntmps13
  go_upto_region 1 with fail
  refine wp_named ?_
  intro W1 hW1
  have hE1 : Ext w W1 := by rw [hW1]; exact (Ext.refl _).alloc _
  have k0 : ∀ w', Ext W1 w' → w'.cell? ⟨w.heap.size, 0, none⟩ = some (.int .i64 a.sy) := fun w' h => h.cell (by rw [hW1]; simp [go_sem])
  have k1 : ∀ w', Ext W1 w' → w'.cell? ⟨w.heap.size, 1, none⟩ = some (.slice Ar a.rows.length cr) := fun w' h => h.cell (by rw [hW1]; simp [go_sem])
  have k2 : ∀ w', Ext W1 w' → w'.cell? ⟨w.heap.size, 2, none⟩ = some (.slice Aa a.acc.length ca) := fun w' h => h.cell (by rw [hW1]; simp [go_sem])
  clear hW1
  have hE0 := Ext.refl W1
  have hck := check_any W1 _ a (hd.ext hE1)
  by_cases hz : checkD a = 0
  rotate_left
  · have hz' : (checkD a != 0) = true := by simpa using hz
    have H : Hid (leastR a = ([], false, checkD a)) := if_pos hz
    clear hz
    go_wp2_with ((with_reducible refine hck.mono ?_); rintro e w1 ⟨rfl, e1⟩)
    go_ret3
    rw [H.out]
    exact ⟨_, rfl, fit_nil _, hE1.trans e1⟩
  have hga := (good_iff a).1 hz
  have H : Hid (leastR a = ((inclR a (noneD a)).2.1, !(inclR a (noneD a)).1 && (inclR a (noneD a)).2.2 == 0, (inclR a (noneD a)).2.2)) := if_neg (by simpa using hz)
  rw [hz] at hck
  have hkk := hga.kk
  have HK := Lib.hid hkk
  have hmk := mk_ints a.k (by omega)
  clear hz hkk
  go_upto_region 4 with ((with_reducible refine hck.mono ?_); rintro e wA ⟨rfl, eA⟩)
  clear hck
  have k0 : ∀ w', Ext wA w' → w'.cell? ⟨w.heap.size, 0, none⟩ = some (.int .i64 (a.k : Int)) := fun w' h => by rw [HK.out.1]; exact k0 w' (eA.trans h)
  refine wp_region_ext 9 (factsOf [(4, FreshR wA.heap.size a.k), (5, FreshRS wA.heap.size a.k), (6, FreshS wA.heap.size #[.bool false] 4), (8, Fresh wA.heap.size #[.int .i64 0, .slice none 0 0, .slice none 0 0] 28)]) (fun k => ([[], [0], [], [2], [2, 3], [2, 3, 4], [], [0, 1, 2, 3, 4, 5, 6], [], [0, 1, 2, 3, 4, 5, 6, 7, 8]] : List (List Nat)).getD k []) (by kernel_rfl) (by kernel_rfl) Ext.pre (mono_cons (stays_freshR _ _) (mono_cons (stays_freshRS _ _) (mono_cons (stays_freshS _ _ _) (mono_cons (stays_fresh _ _ _) (mono_nil))))) ?_
  simp only [List.take_succ_cons, List.take_zero]
  repeat (first | (with_reducible refine lexL_quiet' (v := ?_) ?_ ?_ ?_ ?_; rotate_left; (· with_reducible rfl); (· simp [factsOf]); (· intro w1 hw1 _; go_simp; with_reducible rfl); (try simp only [Act.put, List.setIfInBounds_toArray, List.set_cons_zero, List.set_cons_succ])) | (with_reducible refine lexL_skip ?_ ?_; (· simp [Region.wanted, yielded, undef]); (try simp only [Act.put, List.setIfInBounds_toArray, List.set_cons_zero, List.set_cons_succ])) | (with_reducible refine lexL_quiet (v := ?_) ?_ ?_ ?_ ?_; rotate_left; (· simp [Region.wanted, yielded, undef]); (· simp [factsOf]); (· intro w1 hw1 _; go_simp; with_reducible rfl); (try simp only [Act.put, List.setIfInBounds_toArray, List.set_cons_zero, List.set_cons_succ])))
  with_reducible refine lexL_give' (φ := ?_) ?_ ?_ ?_ ?_; rotate_left; (· with_reducible rfl); (· simp only [factsOf, Nat.reduceAdd, ↓reduceIte, Nat.reduceEqDiff]; rfl)
  · intro w2 hw2 _
    go_simp
    exact ⟨_, rfl, hw2.size, heap_alloc_new w2 _⟩
  rintro v4 w2 hw2 ⟨b4, rfl, hb4, hblk4⟩ hk2
  clear hk2 hw2 hblk4 w2
  (try simp only [Act.put, List.setIfInBounds_toArray, List.set_cons_zero, List.set_cons_succ])
  with_reducible refine lexL_give' (φ := ?_) ?_ ?_ ?_ ?_; rotate_left; (· with_reducible rfl); (· simp only [factsOf, Nat.reduceAdd, ↓reduceIte, Nat.reduceEqDiff]; rfl)
  · intro w2 hw2 hkn
    obtain ⟨b', h3, h4, h5⟩ := hkn.get 4 (by decide) rfl rfl
    obtain rfl : b' = b4 := by injection h3 with h3; injection h3 with h3; injection h3 with h3; exact h3.symm
    go_simp
    exact ⟨_, _, rfl, hw2.size, h4, heap_alloc_new w2 _, heap_ext (alloc_ext _ _) h5⟩
  rintro v5 w2 hw2 ⟨b5, b5', rfl, hb5, hb5', hblk5, hblk5'⟩ hk2
  clear hk2 hw2 hblk5 hblk5' hb5' b5' w2
  (try simp only [Act.put, List.setIfInBounds_toArray, List.set_cons_zero, List.set_cons_succ])
  with_reducible refine lexL_give' (φ := ?_) ?_ ?_ ?_ ?_; rotate_left; (· with_reducible rfl); (· simp only [factsOf, Nat.reduceAdd, ↓reduceIte, Nat.reduceEqDiff]; rfl)
  · intro w2 hw2 _
    go_simp
    exact ⟨_, rfl, hw2.size, heap_alloc_new w2 _⟩
  rintro v6 w2 hw2 ⟨b6, rfl, hb6, hblk6⟩ hk2
  clear hk2 hw2 hblk6 w2
  (try simp only [Act.put, List.setIfInBounds_toArray, List.set_cons_zero, List.set_cons_succ])
  repeat (first | (with_reducible refine lexL_quiet' (v := ?_) ?_ ?_ ?_ ?_; rotate_left; (· with_reducible rfl); (· simp [factsOf]); (· intro w1 hw1 _; go_simp; with_reducible rfl); (try simp only [Act.put, List.setIfInBounds_toArray, List.set_cons_zero, List.set_cons_succ])) | (with_reducible refine lexL_skip ?_ ?_; (· simp [Region.wanted, yielded, undef]); (try simp only [Act.put, List.setIfInBounds_toArray, List.set_cons_zero, List.set_cons_succ])) | (with_reducible refine lexL_quiet (v := ?_) ?_ ?_ ?_ ?_; rotate_left; (· simp [Region.wanted, yielded, undef]); (· simp [factsOf]); (· intro w1 hw1 _; go_simp; with_reducible rfl); (try simp only [Act.put, List.setIfInBounds_toArray, List.set_cons_zero, List.set_cons_succ])))
  with_reducible refine lexL_give' (φ := ?_) ?_ ?_ ?_ ?_; rotate_left; (· with_reducible rfl); (· simp only [factsOf, Nat.reduceAdd, ↓reduceIte, Nat.reduceEqDiff]; rfl)
  · intro w2 hw2 _
    go_simp
    exact (fresh_alloc _ _ _ _ hw2.size).2
  rintro v8 w2 hw2 ⟨b8, rfl, hb8, hblk8⟩ hk2
  clear hk2 hw2 hblk8 w2
  (try simp only [Act.put, List.setIfInBounds_toArray, List.set_cons_zero, List.set_cons_succ])
  with_reducible refine lexL_nil ?_; intro w1 hw1 hk1; simp only [List.drop_succ_cons, List.drop_zero]
  obtain ⟨c5, c4, h3, g5, g4, hB5, hB4⟩ := hk1.get 5 rfl rfl
  obtain rfl : c5 = b5 := by injection h3 with h3; injection h3 with h3; injection h3 with h3; exact h3.symm
  obtain ⟨c6, h6, g6, hB6⟩ := hk1.get 6 rfl rfl
  obtain rfl : c6 = b6 := by injection h6 with h6; injection h6 with h6; injection h6 with h6; exact h6.symm
  obtain ⟨c8, h8, g8, hB8⟩ := hk1.get 8 rfl rfl
  obtain rfl : c8 = b8 := by cases h8; rfl
  clear hk1 h3 h6 h8 hb4 hb5 hb6
  have n1 := blk_ne hB5 hB8 (by decide)
  have n2 := blk_ne hB4 hB8 (by decide)
  have n3 := blk_ne hB6 hB8 (by decide)
  have z0 := cell_of_blk hB8 0 rfl
  have z1 := cell_of_blk hB8 1 rfl
  have z2 := cell_of_blk hB8 2 rfl
  have z3 := free_of_blk hB8 0
  have z4 := free_of_blk hB8 1
  have z5 := free_of_blk hB8 2
  go_upto_region 5 with fail
  refine wp_named ?_
  intro W2 hW2
  have eB : Ext wA W2 := by rw [hW2]; exact ((hw1.setCell (p := ⟨c8, 0, none⟩) hb8 _).setCell (p := ⟨c8, 1, none⟩) hb8 _).setCell (p := ⟨c8, 2, none⟩) hb8 _
  have y0 : W2.cell? ⟨c8, 0, none⟩ = some (.int .i64 (a.k : Int)) := by rw [hW2]; simp [go_sem, z0, z1, z2]
  have y1 : W2.cell? ⟨c8, 1, none⟩ = some (.slice (some ⟨c5, 0, none⟩) 1 1) := by rw [hW2]; simp [go_sem, z0, z1, z2]
  have y2 : W2.cell? ⟨c8, 2, none⟩ = some (.slice (some ⟨c6, 0, none⟩) 1 1) := by rw [hW2]; simp [go_sem, z0, z1, z2]
  have hkeep : ∀ b, b ≠ c8 → W2.heap[b]? = w1.heap[b]? := fun b hb => by
    rw [hW2]
    exact ((heap_setCell_other _ _ b _ hb).trans (heap_setCell_other _ _ b _ hb)).trans (heap_setCell_other _ _ b _ hb)
  have hB5 := (hkeep c5 n1).trans hB5
  have hB4 := (hkeep c4 n2).trans hB4
  have hB6 := (hkeep c6 n3).trans hB6
  have hz : DfaV W2 (.agg #[.int .i64 (a.k : Int), .slice (some ⟨c5, 0, none⟩) 1 1, .slice (some ⟨c6, 0, none⟩) 1 1]) (noneD a) := by
    rw [HK.out.1]
    refine ⟨_, 1, _, 1, rfl, lists_blk hB5 rfl rfl (by omega) (fun i u es hu hes => ?_), bools_blk (xs := [false]) hB6 rfl rfl (by omega)⟩
    match i, hu, hes with
    | 0, hu, hes =>
      cases hu; cases hes
      refine ⟨a.k, ?_⟩
      have h := ints_blk (xs := List.replicate a.k 0) (n := a.k) hB4 (by simp) (by simp) (by have := HK.out.2.2; omega)
      unfold FitC at h
      simpa using h
    | n + 1, hu, hes => simp at hu
  have hE2 : Ext w W2 := (hE1.trans eA).trans eB
  have k0' := k0 W2 eB
  have k1' := k1 W2 (eA.trans eB)
  have k2' := k2 W2 (eA.trans eB)
  have hin := Inclusion_any W2 _ _ a (noneD a) (hd.ext hE2) hz (hgl.ext hE2)
  rw [← HK.out.1] at hin
  clear hW2 z0 z1 z2 z3 z4 z5 hB8 hkeep k0 k1 k2 hB5 hB4 hB6 n1 n2 n3 hz eB hw1 hb8 g5 g4 g6 g8
  generalize inclR a (noneD a) = R at *
  obtain ⟨r1, r2, r3⟩ := R
  by_cases h3 : r3 = 0
  · subst h3
    cases r1 <;>
    · go_wp2_with ((with_reducible refine hin.mono ?_); rintro e w3 ⟨v3, rfl, hf3, e3⟩)
      go_ret3
      rw [H.out]
      exact ⟨_, rfl, hf3, hE2.trans e3⟩
  · have h3' : (r3 == 0) = false := by simpa using h3
    have H3 := Lib.hid h3'
    clear h3
    cases r1 <;>
    · go_wp2_with ((with_reducible refine hin.mono ?_); rintro e w3 ⟨v3, rfl, hf3, e3⟩)
      go_ret3
      rw [H.out]
      exact ⟨_, by simp [H3.out], hf3, hE2.trans e3⟩
end Go.Proofs.YthlnmcokgfpgmaaDoor

namespace Go.Proofs.YthlnmcokgfpgmaaDoor
open Go.RowKit Go.Maps
set_option linter.unusedVariables false
set_option linter.unusedSimpArgs false
attribute [local go_sem] Oper.quietV quietV Oper.gives givesV ext_refl_iff ext_alloc_iff ext_drew_iff ext_drewN_iff
def topN : Nat := 9223372036854775808
def satS (x y : Nat) : Nat := min (x + y) topN
theorem satS_le (x y : Nat) : satS x y ≤ topN := Nat.min_le_right _ _
def uV (n : Nat) : Value := .int .u64 (n : Int)
theorem wrap_u64 (x : Int) (h0 : 0 ≤ x) (h1 : x < 18446744073709551616) : IntKind.u64.wrap x = x := by simp [IntKind.wrap, IntKind.bits, IntKind.signed]; omega
theorem sum_step0 {x : Nat} (hx : x ≤ topN) : (if (9223372036854775808 : Int) < (x : Int) then 9223372036854775808 else (x : Int)) = (x : Int) := by
  unfold topN at hx; rw [if_neg (by omega)]
theorem sum_step1 {x y : Nat} (hx : x ≤ topN) (hy : y ≤ topN) : (if (9223372036854775808 : Int) < IntKind.u64.wrap ((x : Int) + if IntKind.u64.wrap (9223372036854775808 - (x : Int)) < (y : Int) then IntKind.u64.wrap (9223372036854775808 - (x : Int)) else (y : Int)) then 9223372036854775808
    else IntKind.u64.wrap ((x : Int) + if IntKind.u64.wrap (9223372036854775808 - (x : Int)) < (y : Int) then IntKind.u64.wrap (9223372036854775808 - (x : Int)) else (y : Int))) = (satS x y : Int) := by
  unfold satS topN at *
  rw [wrap_u64 (9223372036854775808 - (x : Int)) (by omega) (by omega)]
  by_cases h : 9223372036854775808 - (x : Int) < (y : Int)
  · rw [if_pos h, wrap_u64 _ (by omega) (by omega)]
    rw [if_neg (by omega)]; omega
  · rw [if_neg h, wrap_u64 _ (by omega) (by omega)]
    rw [if_neg (by omega)]; omega
set_option maxHeartbeats 1000000 in
theorem sum_any (w : World) (b : Nat) (x y : Nat) (hx : x ≤ topN) (hy : y ≤ topN) (c0 : w.cell? ⟨b, 0, none⟩ = some (uV x)) (c1 : w.cell? ⟨b, 1, none⟩ = some (uV y)) :
    Calls Tryd.prog 50 #[.slice (some ⟨b, 0, none⟩) 2 2] w fun e w' => e = .returned (uV (satS x y)) ∧ w' = w := by
  have S1 := Lib.hid (sum_step0 hx)
  have S2 := Lib.hid (sum_step1 hx hy)
  unfold uV at *
  go_enter Tryd.func50, Tryd.ntmps50
  go_wp2
  clear hx hy
  go_loop [2, 7] (fun nv iv => ∃ k : Nat, iv = .int .i64 k ∧ ((k = 0 ∧ nv = .int .u64 0) ∨ (k = 1 ∧ nv = .int .u64 (x : Int)) ∨ (k = 2 ∧ nv = .int .u64 (satS x y : Int)))) (fun _ iv => 2 - (intOf iv).toNat)
  case atStart => exact ⟨0, rfl, .inl ⟨rfl, rfl⟩⟩
  case round =>
    obtain ⟨k, rfl, ⟨rfl, rfl⟩ | ⟨rfl, rfl⟩ | ⟨rfl, rfl⟩⟩ := hrel
    · go_wp2
      go_round
      case rel => exact ⟨1, rfl, .inr (.inl ⟨rfl, by rw [S1.out]⟩)⟩
      case measure => simp [intOf]
    · go_wp2
      go_round
      case rel => exact ⟨2, rfl, .inr (.inr ⟨rfl, by rw [S2.out]⟩)⟩
      case measure => simp [intOf]
    · go_wp2
      go_ret
      exact ⟨rfl, rfl⟩
end Go.Proofs.YthlnmcokgfpgmaaDoor

namespace Go.Proofs.YthlnmcokgfpgmaaDoor
open Go.RowKit Go.Maps
set_option linter.unusedVariables false
set_option linter.unusedSimpArgs false
attribute [local go_sem] Oper.quietV quietV Oper.gives givesV ext_refl_iff ext_alloc_iff ext_drew_iff ext_drewN_iff
def tl0 (d : Dfa) : List Nat := d.acc.map (fun x => if x then 1 else 0)
def tlF (now : List Nat) (c : Nat) (x : Int) : Nat := satS c (now.getD x.toNat 0)
def tlRow (now : List Nat) (row : List Int) : Nat := row.foldl (tlF now) 0
def tailL (d : Dfa) : Nat → List Nat
  | 0 => tl0 d
  | j + 1 => d.rows.map (tlRow (tailL d j))
theorem tailL_len {d : Dfa} (h : Good d) : ∀ j, (tailL d j).length = d.rows.length
  | 0 => by unfold tailL tl0; rw [List.length_map]; exact h.acc
  | j + 1 => by unfold tailL; rw [List.length_map]
theorem foldl_le (now : List Nat) : ∀ (row : List Int) (c : Nat), c ≤ topN → row.foldl (tlF now) c ≤ topN
  | [], c, h => h
  | x :: r, c, _ => foldl_le now r _ (satS_le _ _)
theorem tailL_le (d : Dfa) : ∀ j, ∀ x ∈ tailL d j, x ≤ topN
  | 0, x, hx => by
    unfold tailL tl0 at hx
    obtain ⟨b, _, rfl⟩ := List.mem_map.1 hx
    cases b <;> decide
  | j + 1, x, hx => by
    unfold tailL at hx
    obtain ⟨r, _, rfl⟩ := List.mem_map.1 hx
    exact foldl_le _ _ _ (Nat.zero_le _)
def uRow (l : List Nat) : Nat × List Value := (l.length, l.map uV)
def tailRows (d : Dfa) (n : Nat) : List (List Nat) := (List.range n).map (tailL d)
theorem u64_info : (Tryd.prog.info? 85).map (fun i => (i.zero, i.size, i.bytes)) = some (some (.int .u64 0), 1, 8) := by kernel_rfl
theorem u64s_info : (Tryd.prog.info? 86).map (fun i => (i.zero, i.size, i.bytes)) = some (some (.slice none 0 0), 1, 24) := by kernel_rfl
theorem mk_u64s (n : Nat) (hn : n ≤ 100000) (w : World) : (Instr.makeSlice 86 (.int .i64 (n : Int)) (.int .i64 (n : Int))).run Tryd.prog w = .ok (.slice (some ⟨w.heap.size, 0, none⟩) n n) (w.alloc (.cells (Array.replicate n (.int .u64 0)) 85)) := mk_slice (i := default) Tryd.underlying86 u64_info rfl (by decide) n hn w
/-- A row that is filled from the left. -/
def fillU (n : Nat) (l : List Nat) : List Value := l.map uV ++ List.replicate (n - l.length) (uV 0)
theorem fillU_nil (n : Nat) : fillU n [] = List.replicate n (.int .u64 0) := rfl
theorem fillU_all {n : Nat} {l : List Nat} (h : l.length = n) : fillU n l = l.map uV := by unfold fillU; rw [h, Nat.sub_self]; simp
theorem fillU_at {n : Nat} {l : List Nat} (h : l.length < n) : (fillU n l)[l.length]? = some (uV 0) := by
  unfold fillU
  rw [List.getElem?_append_right (by simp), List.getElem?_replicate, if_pos (by simp; omega)]
theorem fillU_set {n : Nat} {l : List Nat} (h : l.length < n) (x : Nat) : (fillU n l).set l.length (uV x) = fillU n (l ++ [x]) := by
  unfold fillU
  rw [show n - l.length = (n - (l ++ [x]).length) + 1 by simp; omega, List.replicate_succ, List.set_append_right _ _ (by simp), List.length_map, Nat.sub_self, List.set_cons_zero, List.map_append, List.append_assoc]
  rfl
theorem fillU_last {n : Nat} {l : List Nat} {x : Nat} (h : l.length < n) : (fillU n (l ++ [x]))[l.length]? = some (uV x) := by
  unfold fillU
  rw [List.getElem?_append_left (by simp), List.getElem?_map, List.getElem?_append_right (Nat.le_refl _), Nat.sub_self]; rfl
theorem fillU_turn {n : Nat} {l : List Nat} {x : Nat} (h : l.length < n) (y : Nat) : (fillU n (l ++ [x])).set l.length (uV y) = fillU n (l ++ [y]) := by
  rw [← fillU_set h x, List.set_set, fillU_set h y]
theorem fillU_zero {n : Nat} {l : List Nat} (h : l.length < n) : fillU n l = fillU n (l ++ [0]) := by
  unfold fillU
  rw [show n - l.length = (n - (l ++ [0]).length) + 1 by simp; omega, List.replicate_succ, List.map_append, List.append_assoc]
  rfl
def FreshU (N : Nat) (x y : Nat) (v : Value) (w : World) : Prop := ∃ b, v = .slice (some ⟨b, 0, none⟩) 2 2 ∧ N ≤ b ∧ w.heap[b]? = some (.cells #[.int .u64 (x : Int), .int .u64 (y : Int)] 85 (0, 0))
theorem stays_freshU (N x y : Nat) : Stays Ext (FreshU N x y) := fun v w w' hE ⟨b, hv, hb, h⟩ => ⟨b, hv, hb, heap_ext hE h⟩

theorem rows_none (W : World) (e1 e2 s2 : Nat) : Asn.ok W.heap.size W (.rows e1 e2 s2 (.slice none 0 0) [] []) := ⟨World.ownsRow_nil _ _ _ _, rfl, fun j u r h => by simp at h, fun i j u u' h => by simp at h, fun j u h => by simp at h⟩
theorem grown_alloc (W : World) (o : Obj) : W.grownBy (W.alloc o) none := ⟨rfl, rfl, rfl, by simp, fun k hk _ => (alloc_ext W o).block k hk⟩
/-- A row becomes the only one of a new list of rows. -/
theorem OwnL.first {w W : World} {L : List Asn} {e1 e2 s2 n : Nat} {x : Value} {xs : List Value} (h : OwnL w W (.row e2 s2 x n xs :: .rows e1 e2 s2 (.slice none 0 0) [] [] :: L)) (ho : x.oneCell' = true) : OwnL w (W.alloc (.cells #[x] e1)) (.rows e1 e2 s2 (.slice (some ⟨W.heap.size, 0, none⟩) 1 1) [x] [(n, xs)] :: L) := by
  refine h.push (grown_alloc W _) ?_ (fun b hb => by cases hb; exact .inr (Nat.le_refl _))
  have h1 := World.ownsRow_lit (base := w.heap.size) (e := e1) (size := 1) W #[x] 1 h.ext.size (by unfold maxLen; omega) rfl
  simpa using h1
def ULists (w : World) (v : Value) (ls : List (List Nat)) (n : Nat) : Prop := ∃ A c vs, v = .slice A ls.length c ∧ Cells w A vs ∧ vs.length = ls.length ∧ ∀ (i : Nat) (u : Value) (l : List Nat), vs[i]? = some u → ls[i]? = some l → ∃ A' c', u = .slice A' n c' ∧ Cells w A' (l.map uV)

set_option maxRecDepth 100000 in
set_option maxHeartbeats 8000000 in
theorem tails_any (w : World) (dv : Value) (d : Dfa) (hd : DfaV w dv d) (hg : Good d) (n : Nat) (hn : n ≤ 256) :
    Calls Tryd.prog 48 #[dv, .int .i64 (n : Int)] w fun e w' => ∃ v, e = .returned v ∧ ULists w' v (tailRows d (n + 1)) d.rows.length ∧ Ext w w' := by
  obtain ⟨rv, cr, av, ca, rfl, hr, ha⟩ := id hd
  obtain ⟨Ar, vr, rfl, _, _, _, _, hrm⟩ := id hr
  obtain ⟨Aa, rfl, hac, _, ham⟩ := id ha
  unfold lenMax at hrm ham
  obtain ⟨i86, hi86, hz86, hs86, hb86⟩ := info_parts u64s_info
  have hsz := hg.size
  have HG := Lib.hid hg
  have hmk := mk_u64s d.rows.length (by omega)
  go_enter Tryd.func48, Tryd.ntmps48
  go_upto_region 1 with fail
  refine wp_named ?_
  intro W1 hW1
  have hE1 : Ext w W1 := by rw [hW1]; exact (Ext.refl _).alloc _
  have k1 : ∀ w', Ext W1 w' → w'.cell? ⟨w.heap.size, 1, none⟩ = some (.slice Ar d.rows.length cr) := fun w' h => h.cell (by rw [hW1]; simp [go_sem])
  have k2 : ∀ w', Ext W1 w' → w'.cell? ⟨w.heap.size, 2, none⟩ = some (.slice Aa d.acc.length ca) := fun w' h => h.cell (by rw [hW1]; simp [go_sem])
  clear hW1
  have hE0 := Ext.refl W1
  go_upto_region 2 with fail
  refine wp_named ?_
  intro W2 hW2
  have hO2 : OwnL W1 W2 [.row 85 1 (.slice (some ⟨W1.heap.size, 0, none⟩) d.rows.length d.rows.length) d.rows.length (fillU d.rows.length ((d.acc.take 0).map (fun x => if x then 1 else 0))), .rows 86 85 1 (.slice none 0 0) [] []] := by
    rw [hW2]
    exact ((OwnL.nil (Ext.refl W1)).add (Ext.refl W1) (A := .rows 86 85 1 (.slice none 0 0) [] []) (rows_none _ _ _ _)).add (alloc_ext _ _) (A := .row 85 1 (.slice (some ⟨W1.heap.size, 0, none⟩) d.rows.length d.rows.length) d.rows.length (List.replicate d.rows.length (.int .u64 0))) (own_new _ _ 85 _ (by omega))
  have kk2 := k2 W2 hO2.ext
  clear hW2
  generalize W1.heap.size = g0 at *
  go_wp2
  go_loopw [21] (fun iv wr => ∃ s : Nat, iv = .int .i64 s ∧ s ≤ d.acc.length ∧ OwnL W1 wr [.row 85 1 (.slice (some ⟨g0, 0, none⟩) d.rows.length d.rows.length) d.rows.length (fillU d.rows.length ((d.acc.take s).map (fun x => if x then 1 else 0))), .rows 86 85 1 (.slice none 0 0) [] []]) (fun iv _ => d.acc.length - (intOf iv).toNat)
  case atStart => exact ⟨0, rfl, Nat.zero_le _, hO2⟩
  case round =>
    clear hO2 kk2
    obtain ⟨s, rfl, hs, hO⟩ := hrel
    obtain ⟨W3, hW3⟩ : ∃ W, W = wr := ⟨_, rfl⟩; subst hW3
    by_cases hsl : s < d.acc.length
    · obtain ⟨b, o, rfl, _, c1⟩ := (hac.ext (hE1.trans hO.ext)).at_bool hsl
      have hac0 := HG.out.acc
      have htk : (d.acc.take (s + 1)).map (fun x => if x then 1 else 0) = (d.acc.take s).map (fun x => if x then 1 else 0) ++ [if d.acc[s] then 1 else 0] := by
        rw [List.take_succ_eq_append_getElem hsl, List.map_append]; rfl
      have hln : ((d.acc.take s).map (fun x => if x then 1 else 0)).length = s := by simp; omega
      generalize (d.acc.take s).map (fun x => if x then 1 else 0) = L at *
      have hlt : L.length < d.rows.length := by omega
      have hz := fillU_zero hlt
      have hset := fillU_set hlt 1
      have s0 := cell_own hO 0 rfl (fillU_at hlt)
      have sf := free_own (e := 85) hO 0 rfl s
      rw [hln] at s0 hset
      have hst := hO.store 0 rfl s (uV 1)
      have hsI : (s : Int) < (d.rows.length : Int) := by omega
      have hsI2 : (s : Int) < (d.acc.length : Int) := by omega
      have HF := Lib.hid (And.intro htk (And.intro hz hset))
      clear htk hz hset hln hac0
      unfold uV at s0
      cases hx : d.acc[s] with
      | true =>
        rw [hx] at c1 HF
        clear hx
        go_wp2
        go_roundw
        case rel =>
          refine ⟨s + 1, by go_num, hsl, ?_⟩
          rw [HF.out.1]
          have h := hst
          simp only [List.set_cons_zero] at h
          rw [HF.out.2.2] at h
          exact h
        case measure => simp [intOf]; omega
      | false =>
        rw [hx] at c1 HF
        clear hx
        go_wp2
        go_roundw
        case rel =>
          refine ⟨s + 1, by go_num, hsl, ?_⟩
          rw [HF.out.1]
          rw [HF.out.2.1] at hO
          exact hO
        case measure => simp [intOf]; omega
    · obtain rfl : s = d.acc.length := by omega
      rw [List.take_length] at hO
      have hT0 := tailL_len HG.out 0
      have hO : OwnL W1 W3 [.row 85 1 (.slice (some ⟨g0, 0, none⟩) d.rows.length d.rows.length) d.rows.length (fillU d.rows.length (tailL d 0)), .rows 86 85 1 (.slice none 0 0) [] []] := hO
      rw [fillU_all hT0] at hO
      clear hT0
      go_upto_region 9 with fail
      refine wp_named ?_
      intro W4 hW4
      have hO4 : OwnL W1 W4 [.rows 86 85 1 (.slice (some ⟨W3.heap.size, 0, none⟩) 1 1) [.slice (some ⟨g0, 0, none⟩) d.rows.length d.rows.length] ((tailRows d 1).map uRow)] := by
        rw [hW4]
        have h := hO.first (by rfl)
        unfold tailRows uRow
        have hT0 := tailL_len HG.out 0
        simp only [List.range_one, List.map_cons, List.map_nil]
        rw [hT0]
        exact h
      clear hW4 hO
      generalize W3.heap.size = g1 at *
      go_wp2
      go_loopw [8, 5, 34] (fun ov nv jv wr => ∃ (j : Nat) (vs : List Value) (gl cl : Nat), jv = .int .i64 j ∧ j ≤ n ∧ ov = .slice (some ⟨gl, 0, none⟩) (j + 1) cl ∧ Hid (vs[j]? = some nv) ∧ OwnL W1 wr [.rows 86 85 1 ov vs ((tailRows d (j + 1)).map uRow)]) (fun _ _ jv _ => n - (intOf jv).toNat)
      case atStart => exact ⟨0, _, g1, 1, rfl, Nat.zero_le _, rfl, Lib.hid rfl, hO4⟩
      case round =>
        clear hO4
        obtain ⟨j, vs, gl, cl, rfl, hj, rfl, hvj, hO⟩ := hrel
        obtain ⟨W5, hW5⟩ : ∃ W, W = wr := ⟨_, rfl⟩; subst hW5
        have hrows : OwnRows W5 W1.heap.size 86 85 1 (.slice (some ⟨gl, 0, none⟩) (j + 1) cl) vs ((tailRows d (j + 1)).map uRow) := hO.get 0 rfl
        have hvl : vs.length = j + 1 := by rw [hrows.len]; simp [tailRows]
        by_cases hjn : j < n
        · have hTj : (tailRows d (j + 1))[j]? = some (tailL d j) := by unfold tailRows; rw [List.getElem?_map, List.getElem?_range (by omega)]; rfl
          have hrow := hrows.each j u5 (uRow (tailL d j)) hvj.out (by rw [List.getElem?_map, hTj]; rfl)
          unfold uRow at hrow
          simp only at hrow
          rw [tailL_len HG.out j] at hrow
          obtain ⟨gn, cn, rfl⟩ := ownsRow_pos hrow (by omega)
          have HNW := Lib.hid hrow
          have HVL := Lib.hid (And.intro hvl hrows.own)
          have kk1 := k1 W5 hO.ext
          clear hTj hrow hvl hrows
          go_upto_region 12 with fail
          refine wp_named ?_
          intro W6 hW6
          have hO6 : OwnL W1 W6 [.row 85 1 (.slice (some ⟨W5.heap.size, 0, none⟩) d.rows.length d.rows.length) d.rows.length (fillU d.rows.length ((d.rows.take 0).map (tlRow (tailL d j)))), .rows 86 85 1 (.slice (some ⟨gl, 0, none⟩) (j + 1) cl) vs ((tailRows d (j + 1)).map uRow)] := by
            rw [hW6]
            exact hO.add (alloc_ext _ _) (A := .row 85 1 (.slice (some ⟨W5.heap.size, 0, none⟩) d.rows.length d.rows.length) d.rows.length (List.replicate d.rows.length (.int .u64 0))) (own_new _ _ 85 _ (by omega))
          have kk1 := k1 W6 hO6.ext
          have hgn : gn ≠ W5.heap.size := by have := (HNW.out.lt gn rfl).2; omega
          clear hW6 hO
          generalize W5.heap.size = gx at *
          go_wp2
          go_loopw [43] (fun sv wr => ∃ s : Nat, sv = .int .i64 s ∧ s ≤ d.rows.length ∧ OwnL W1 wr [.row 85 1 (.slice (some ⟨gx, 0, none⟩) d.rows.length d.rows.length) d.rows.length (fillU d.rows.length ((d.rows.take s).map (tlRow (tailL d j)))), .rows 86 85 1 (.slice (some ⟨gl, 0, none⟩) (j + 1) cl) vs ((tailRows d (j + 1)).map uRow)]) (fun sv _ => d.rows.length - (intOf sv).toNat)
          case atStart => exact ⟨0, rfl, Nat.zero_le _, hO6⟩
          case round =>
            clear hO6 kk1
            obtain ⟨s, rfl, hs, hO⟩ := hrel
            obtain ⟨W7, hW7⟩ : ∃ W, W = wr := ⟨_, rfl⟩; subst hW7
            by_cases hsl : s < d.rows.length
            · obtain ⟨b, o, u, c', hv, _, c1, hi⟩ := hr.at_ hsl
              injection hv with hv; subst hv
              have c1 := (hE1.trans hO.ext).cell c1
              have hrl := HG.out.row hsl
              have hfit : ∀ x (hx : x < d.rows[s].length), 0 ≤ d.rows[s][x] ∧ d.rows[s][x] < d.rows.length := fun x hx => HG.out.fit _ (List.getElem_mem hsl) _ (List.getElem_mem hx)
              have htk : (d.rows.take (s + 1)).map (tlRow (tailL d j)) = (d.rows.take s).map (tlRow (tailL d j)) ++ [tlRow (tailL d j) d.rows[s]] := by
                rw [List.take_succ_eq_append_getElem hsl, List.map_append]; rfl
              have hln : ((d.rows.take s).map (tlRow (tailL d j))).length = s := by simp; omega
              have HTK := Lib.hid (And.intro htk hfit)
              have hk16 := HG.out.kk.2.2
              clear htk hfit
              generalize d.rows[s] = row at *
              generalize (d.rows.take s).map (tlRow (tailL d j)) = Lp at *
              obtain ⟨A2, rfl, hi2, _, him⟩ := hi
              unfold lenMax at him
              rw [hrl] at him c1
              have hlt : Lp.length < d.rows.length := by omega
              have hO' := hO
              rw [fillU_zero hlt] at hO'
              have HLN := Lib.hid (And.intro hln hrl)
              have hsI : (s : Int) < (d.rows.length : Int) := by omega
              clear hln hrl hlt
              go_wp2
              go_loopw [50] (fun xv wr => ∃ x : Nat, xv = .int .i64 x ∧ x ≤ d.k ∧ OwnL W1 wr [.row 85 1 (.slice (some ⟨gx, 0, none⟩) d.rows.length d.rows.length) d.rows.length (fillU d.rows.length (Lp ++ [(row.take x).foldl (tlF (tailL d j)) 0])), .rows 86 85 1 (.slice (some ⟨gl, 0, none⟩) (j + 1) cl) vs ((tailRows d (j + 1)).map uRow)]) (fun xv _ => d.k - (intOf xv).toNat)
              case atStart => exact ⟨0, rfl, Nat.zero_le _, hO'⟩
              case round =>
                clear hO hO' c1
                obtain ⟨x, rfl, hx, hO⟩ := hrel
                obtain ⟨W8, hW8⟩ : ∃ W, W = wr := ⟨_, rfl⟩; subst hW8
                by_cases hxl : x < d.k
                · have hxr : x < row.length := by have := HLN.out.2; omega
                  obtain ⟨b2, o2, rfl, _, c2⟩ := (hi2.ext (hE1.trans hO.ext)).at_int hxr
                  have hf := HTK.out.2 x hxr
                  have hfold : (row.take (x + 1)).foldl (tlF (tailL d j)) 0 = tlF (tailL d j) ((row.take x).foldl (tlF (tailL d j)) 0) row[x] := by
                    rw [List.take_succ_eq_append_getElem hxr, List.foldl_append]; rfl
                  have hcle := foldl_le (tailL d j) (row.take x) 0 (Nat.zero_le _)
                  obtain ⟨t, ht⟩ := Int.eq_ofNat_of_zero_le hf.1
                  rw [ht] at hf c2 hfold
                  have htl : t < (tailL d j).length := by rw [tailL_len HG.out j]; omega
                  have hyle := tailL_le d j _ (List.getElem_mem htl)
                  have hfold : (row.take (x + 1)).foldl (tlF (tailL d j)) 0 = satS ((row.take x).foldl (tlF (tailL d j)) 0) ((tailL d j)[t]) := by
                    rw [hfold]; unfold tlF; simp [List.getD, htl]
                  have hty : ((tailL d j).map uV)[t]? = some (uV ((tailL d j)[t])) := by rw [List.getElem?_map, List.getElem?_eq_getElem htl]; rfl
                  have hlt : Lp.length < d.rows.length := by have := HLN.out.1; omega
                  generalize (row.take x).foldl (tlF (tailL d j)) 0 = cv at *
                  generalize (tailL d j)[t] = yv at *
                  have hrowN : OwnRows W8 W1.heap.size 86 85 1 (.slice (some ⟨gl, 0, none⟩) (j + 1) cl) vs ((tailRows d (j + 1)).map uRow) := hO.get 1 rfl
                  have hTj : (tailRows d (j + 1))[j]? = some (tailL d j) := by unfold tailRows; rw [List.getElem?_map, List.getElem?_range (by omega)]; rfl
                  have hrow := hrowN.each j _ (uRow (tailL d j)) hvj.out (by rw [List.getElem?_map, hTj]; rfl)
                  unfold uRow at hrow
                  simp only at hrow
                  rw [tailL_len HG.out j] at hrow
                  have cy := cell_at_own hrow hty
                  have cs := cell_own hO 0 rfl (fillU_last (x := cv) hlt)
                  have sf := free_own (e := 85) hO 0 rfl s
                  rw [HLN.out.1] at cs
                  have hst := hO.store 0 rfl s (uV (satS cv yv))
                  have htn := fillU_turn (x := cv) hlt (satS cv yv)
                  rw [HLN.out.1] at htn
                  have htI : (t : Int) < (d.rows.length : Int) := by omega
                  have HF := Lib.hid (And.intro hfold (And.intro htn hst))
                  have cyE : ∀ w', Ext W8 w' → w'.cell? ⟨gn, t, none⟩ = some (.int .u64 (yv : Int)) := fun w' h => h.cell cy
                  have csE : ∀ w', Ext W8 w' → w'.cell? ⟨gx, s, none⟩ = some (.int .u64 (cv : Int)) := fun w' h => h.cell cs
                  have hsum := fun w b hc0 hc1 => sum_any w b cv yv hcle hyle hc0 hc1
                  have HSM := Lib.hid hsum
                  have HOO := Lib.hid hO
                  clear hfold htn hst hty hrow hTj hrowN ht hf hcle hyle htl cy hO hsum
                  go_upto_region 18 with fail
                  refine wp_region_ext 12 (factsOf [(10, FreshU W8.heap.size cv yv), (11, fun v _ => v = .int .u64 (satS cv yv : Int))]) (fun k => ([[], [], [], [], [2, 3], [2, 3, 4], [], [], [6, 7], [6, 7, 8], [2, 3, 4, 5, 6, 7, 8, 9], [2, 3, 4, 5, 6, 7, 8, 9, 10], [0, 1, 2, 3, 4, 5, 6, 7, 8, 9, 10, 11], [0, 1, 2, 3, 4, 5, 6, 7, 8, 9, 10, 11, 12]] : List (List Nat)).getD k []) (by kernel_rfl) (by kernel_rfl) Ext.pre (mono_cons (stays_freshU _ _ _) (mono_cons (stays_eq _) (mono_nil))) ?_
                  simp only [List.take_succ_cons, List.take_zero]
                  repeat (first | (with_reducible refine lexL_quiet' (v := ?_) ?_ ?_ ?_ ?_; rotate_left; (· with_reducible rfl); (· simp [factsOf]); (· intro w1 hw1 _; go_simp; with_reducible rfl); (try simp only [Act.put, List.setIfInBounds_toArray, List.set_cons_zero, List.set_cons_succ])) | (with_reducible refine lexL_skip ?_ ?_; (· simp [Region.wanted, yielded, undef]); (try simp only [Act.put, List.setIfInBounds_toArray, List.set_cons_zero, List.set_cons_succ])) | (with_reducible refine lexL_quiet (v := ?_) ?_ ?_ ?_ ?_; rotate_left; (· simp [Region.wanted, yielded, undef]); (· simp [factsOf]); (· intro w1 hw1 _; go_simp; with_reducible rfl); (try simp only [Act.put, List.setIfInBounds_toArray, List.set_cons_zero, List.set_cons_succ])))
                  with_reducible refine lexL_give' (φ := ?_) ?_ ?_ ?_ ?_; rotate_left; (· with_reducible rfl); (· simp only [factsOf, Nat.reduceAdd, ↓reduceIte, Nat.reduceEqDiff]; rfl)
                  · intro w2 hw2 _
                    go_simp
                    exact ⟨_, rfl, hw2.size, heap_alloc_new w2 _⟩
                  rintro v10 w2 hw2 ⟨b10, rfl, hb10, hblk10⟩ hk2
                  clear hk2 hw2 hblk10 hb10 w2
                  (try simp only [Act.put, List.setIfInBounds_toArray, List.set_cons_zero, List.set_cons_succ])
                  with_reducible refine lexL_give' (φ := ?_) ?_ ?_ ?_ ?_; rotate_left; (· with_reducible rfl); (· simp only [factsOf, Nat.reduceAdd, ↓reduceIte, Nat.reduceEqDiff]; rfl)
                  · intro w2 hw2 hkn
                    obtain ⟨b', h3, h4, h5⟩ := hkn.get 10 (by decide) rfl rfl
                    obtain rfl : b' = b10 := by injection h3 with h3; injection h3 with h3; injection h3 with h3; exact h3.symm
                    go_simp
                    refine (HSM.out w2 b' (cell_of_blk h5 0 rfl) (cell_of_blk h5 1 rfl)).mono ?_
                    rintro e w3 ⟨rfl, rfl⟩
                    exact ⟨_, rfl, Ext.refl _, rfl⟩
                  rintro v11 w2 hw2 rfl hk2
                  clear hk2 hw2 w2
                  (try simp only [Act.put, List.setIfInBounds_toArray, List.set_cons_zero, List.set_cons_succ])
                  repeat (first | (with_reducible refine lexL_quiet' (v := ?_) ?_ ?_ ?_ ?_; rotate_left; (· with_reducible rfl); (· simp [factsOf]); (· intro w1 hw1 _; go_simp; with_reducible rfl); (try simp only [Act.put, List.setIfInBounds_toArray, List.set_cons_zero, List.set_cons_succ])) | (with_reducible refine lexL_skip ?_ ?_; (· simp [Region.wanted, yielded, undef]); (try simp only [Act.put, List.setIfInBounds_toArray, List.set_cons_zero, List.set_cons_succ])) | (with_reducible refine lexL_quiet (v := ?_) ?_ ?_ ?_ ?_; rotate_left; (· simp [Region.wanted, yielded, undef]); (· simp [factsOf]); (· intro w1 hw1 _; go_simp; with_reducible rfl); (try simp only [Act.put, List.setIfInBounds_toArray, List.set_cons_zero, List.set_cons_succ])))
                  with_reducible refine lexL_nil ?_; intro w1 hw1 hk1; simp only [List.drop_succ_cons, List.drop_zero]
                  clear hk1
                  have csT := csE w1 hw1
                  have sfT := free_own (e := 85) (HOO.out.trans hw1) 0 rfl s
                  have hstT := (HOO.out.trans hw1).store 0 rfl s (uV (satS cv yv))
                  have HST := Lib.hid hstT
                  clear hstT
                  go_wp2
                  go_roundw
                  case rel =>
                    refine ⟨x + 1, by go_num, hxl, ?_⟩
                    rw [HF.out.1]
                    have h := HST.out
                    simp only [List.set_cons_zero] at h
                    rw [HF.out.2.1] at h
                    exact h
                  case measure => simp [intOf]; omega
                · obtain rfl : x = d.k := by omega
                  have hfull : row.take d.k = row := List.take_of_length_le (by have := HLN.out.2; omega)
                  rw [hfull] at hO
                  have htk := HTK.out.1
                  have hO2 : OwnL W1 W8 [.row 85 1 (.slice (some ⟨gx, 0, none⟩) d.rows.length d.rows.length) d.rows.length (fillU d.rows.length ((d.rows.take (s + 1)).map (tlRow (tailL d j)))), .rows 86 85 1 (.slice (some ⟨gl, 0, none⟩) (j + 1) cl) vs ((tailRows d (j + 1)).map uRow)] := by rw [htk]; exact hO
                  clear hfull htk hO
                  go_wp2
                  go_roundw
                  case rel => exact ⟨s + 1, by go_num, hsl, hO2⟩
                  case measure => simp [intOf]; omega
            · obtain rfl : s = d.rows.length := by omega
              rw [List.take_length] at hO
              have hO : OwnL W1 W7 [.row 85 1 (.slice (some ⟨gx, 0, none⟩) d.rows.length d.rows.length) d.rows.length (fillU d.rows.length (tailL d (j + 1))), .rows 86 85 1 (.slice (some ⟨gl, 0, none⟩) (j + 1) cl) vs ((tailRows d (j + 1)).map uRow)] := hO
              have hTl := tailL_len HG.out (j + 1)
              rw [fillU_all hTl] at hO
              have hown := HVL.out.2
              have hrowN : OwnRows W7 W1.heap.size 86 85 1 (.slice (some ⟨gl, 0, none⟩) (j + 1) cl) vs ((tailRows d (j + 1)).map uRow) := hO.get 1 rfl
              have hown7 := hrowN.own
              rw [HVL.out.1] at hown7
              have hszb := hO.ext.size
              have hvl7 := hrowN.len
              have HO7 := Lib.hid (And.intro hO hTl)
              clear hown hrowN hvl7 hO hTl
              go_wp2_with (at_builtin; refine wpList_append_own2 rfl _ _ 87 rfl W1.heap.size 86 i86 (.slice none 0 0) 1 24 Tryd.underlying87 hi86 hz86 hs86 hb86 rfl (by decide) (.slice (some ⟨gl, 0, none⟩) (j + 1) cl) (j + 1) vs rfl (World.ownsRow.alloc hown7 _) ⟨W7.heap.size, 0, none⟩ 1 1 [.slice (some ⟨gx, 0, none⟩) d.rows.length d.rows.length] rfl rfl (new_cell _ _ _ _ rfl) (one_slice _ _ _) (by unfold maxLen; omega) (by omega) (by simp; omega) ?_; intro v6 w6 hown6 hg6 hb6)
              obtain ⟨g6, c6, rfl⟩ := ownsRow_pos hown6 (by omega)
              have hO8 := (HO7.out.1.trans (alloc_ext _ _)).push hg6 (by rw [HVL.out.1]; exact hown6) hb6
              have hra : (tailRows d (j + 1)).map uRow ++ [(d.rows.length, (tailL d (j + 1)).map uV)] = (tailRows d (j + 1 + 1)).map uRow := by
                unfold tailRows
                rw [List.range_succ (n := j + 1), List.map_append, List.map_append]
                simp only [List.map_cons, List.map_nil]
                congr 2
                unfold uRow
                rw [HO7.out.2]
              rw [hra] at hO8
              have HO8 := Lib.hid hO8
              clear hO8 hra
              go_roundw
              case rel =>
                refine ⟨j + 1, _, g6, c6, by go_num, hjn, rfl, Lib.hid ?_, HO8.out⟩
                rw [List.getElem?_append_right (by rw [HVL.out.1]; omega), HVL.out.1, Nat.sub_self]; rfl
              case measure => simp [intOf]; omega
        · obtain rfl : j = n := by omega
          have hres : ULists W5 (.slice (some ⟨gl, 0, none⟩) (j + 1) cl) (tailRows d (j + 1)) d.rows.length := by
            have hown := hrows.own
            rw [hvl] at hown
            obtain ⟨A, c, hv, _, hc⟩ := cells_of_owns hown
            injection hv with hv1 hv2 hv3
            subst hv1 hv3
            refine ⟨some ⟨gl, 0, none⟩, cl, vs, by simp [tailRows], hc, by rw [hvl]; simp [tailRows], fun i u l hu hl => ?_⟩
            have h1 := hrows.each i u (uRow l) hu (by rw [List.getElem?_map, hl]; rfl)
            obtain ⟨A', c', rfl, _, hc'⟩ := cells_of_owns h1
            have hlen : l.length = d.rows.length := by
              unfold tailRows at hl
              rw [List.getElem?_map] at hl
              obtain ⟨q, _, rfl⟩ := Option.map_eq_some_iff.1 hl
              exact tailL_len HG.out q
            exact ⟨A', c', by unfold uRow; rw [hlen], hc'⟩
          have HF := Lib.hid (And.intro hres (hE1.trans hO.ext))
          clear hres hrows hvl hO
          go_wp2
          go_ret
          exact ⟨_, rfl, HF.out.1, HF.out.2⟩
end Go.Proofs.YthlnmcokgfpgmaaDoor

namespace Go.Proofs.YthlnmcokgfpgmaaDoor
open Go.RowKit Go.Maps
set_option linter.unusedVariables false
set_option linter.unusedSimpArgs false
attribute [local go_sem] Oper.quietV quietV Oper.gives givesV ext_refl_iff ext_alloc_iff ext_drew_iff ext_drewN_iff
theorem ULists.at_ {w : World} {v : Value} {ls : List (List Nat)} {n : Nat} (h : ULists w v ls n) {i : Nat} {l : List Nat} (hi : ls[i]? = some l) {s x : Nat} (hs : l[s]? = some x) :
    ∃ b o b' o' c c', v = .slice (some ⟨b, o, none⟩) ls.length c ∧ w.cell? ⟨b, o + i, none⟩ = some (.slice (some ⟨b', o', none⟩) n c') ∧ w.cell? ⟨b', o' + s, none⟩ = some (.int .u64 (x : Int)) := by
  obtain ⟨A, c, vs, rfl, hc, hl, hr⟩ := h
  have hil := (List.getElem?_eq_some_iff.1 hi).1
  have hiv : i < vs.length := by omega
  obtain ⟨b, o, rfl, _, hcc⟩ := hc (by omega)
  obtain ⟨A', c', hu, hc'⟩ := hr i vs[i] l (List.getElem?_eq_getElem hiv) hi
  have hsl := (List.getElem?_eq_some_iff.1 hs).1
  obtain ⟨b', o', rfl, _, hcc'⟩ := hc' (by simp; omega)
  refine ⟨b, o, b', o', c, c', rfl, ?_, hcc' s _ (by rw [List.getElem?_map, hs]; rfl)⟩
  rw [← hu]; exact hcc i _ (List.getElem?_eq_getElem hiv)
theorem ULists.ext {w w' : World} {v : Value} {ls : List (List Nat)} {n : Nat} (h : ULists w v ls n) (e : Ext w w') : ULists w' v ls n := by
  obtain ⟨A, c, vs, hv, hc, hl, hr⟩ := h
  refine ⟨A, c, vs, hv, hc.ext e, hl, fun i u l hu hl' => ?_⟩
  obtain ⟨A', c', h1, h2⟩ := hr i u l hu hl'
  exact ⟨A', c', h1, h2.ext e⟩
def tlN (d : Dfa) (j s : Nat) : Nat := (tailL d j).getD s 0
theorem tlN_le (d : Dfa) (j s : Nat) : tlN d j s ≤ topN := by
  unfold tlN
  rw [List.getD_eq_getElem?_getD]
  cases h : (tailL d j)[s]? with
  | none => exact Nat.zero_le _
  | some x => exact tailL_le d j x (List.mem_of_getElem? h)
theorem tails_at {w : World} {d : Dfa} (hg : Good d) {v : Value} {m : Nat} (h : ULists w v (tailRows d m) d.rows.length) {j s : Nat} (hj : j < m) (hs : s < d.rows.length) :
    ∃ b o b' o' c c', v = .slice (some ⟨b, o, none⟩) m c ∧ w.cell? ⟨b, o + j, none⟩ = some (.slice (some ⟨b', o', none⟩) d.rows.length c') ∧ w.cell? ⟨b', o' + s, none⟩ = some (.int .u64 (tlN d j s : Int)) := by
  have h1 : (tailRows d m)[j]? = some (tailL d j) := by unfold tailRows; rw [List.getElem?_map, List.getElem?_range hj]; rfl
  have hsl : s < (tailL d j).length := by rw [tailL_len hg j]; exact hs
  have h2 : (tailL d j)[s]? = some (tlN d j s) := by unfold tlN; rw [List.getElem?_eq_getElem hsl]; simp [List.getD, hsl]
  have h3 := h.at_ h1 h2
  have hl : (tailRows d m).length = m := by unfold tailRows; simp
  rwa [hl] at h3
def countR (d : Dfa) (n : Int) : Int × Int :=
  if checkD d ≠ 0 then (0, checkD d) else if n < 0 then (0, 1) else if 256 < n then (0, 3) else if 4611686018427387904 < tlN d n.toNat 0 then (0, 3) else ((tlN d n.toNat 0 : Int), 0)
def TwoP (r : Int × Int) (w : World) (e : Ending) (w' : World) : Prop := e = .returned (.tuple #[.int .i64 r.1, .int .i64 r.2]) ∧ Ext w w'
theorem wrap_i64n {n : Nat} (h : n ≤ 4611686018427387904) : IntKind.i64.wrap (n : Int) = (n : Int) := by rw [IntKind.wrap_i64]; omega

set_option maxRecDepth 100000 in
set_option maxHeartbeats 4000000 in
theorem CountOf_any (w : World) (dv : Value) (d : Dfa) (hd : DfaV w dv d) (n : Int) : Calls Tryd.prog 19 #[dv, .int .i64 n] w (TwoP (countR d n) w) := by
  obtain ⟨rv, cr, av, ca, rfl, hr, ha⟩ := id hd
  obtain ⟨Ar, vr, rfl, _, _, _, _, hrm⟩ := id hr
  obtain ⟨Aa, rfl, hac, _, ham⟩ := id ha
  unfold lenMax at hrm ham
  go_enter Tryd.func19, Tryd.ntmps19
  go_upto_region 1 with fail
  refine wp_named ?_
  intro W1 hW1
  have hE1 : Ext w W1 := by rw [hW1]; exact (Ext.refl _).alloc _
  have k0 : ∀ w', Ext W1 w' → w'.cell? ⟨w.heap.size, 0, none⟩ = some (.int .i64 d.sy) := fun w' h => h.cell (by rw [hW1]; simp [go_sem])
  have k1 : ∀ w', Ext W1 w' → w'.cell? ⟨w.heap.size, 1, none⟩ = some (.slice Ar d.rows.length cr) := fun w' h => h.cell (by rw [hW1]; simp [go_sem])
  have k2 : ∀ w', Ext W1 w' → w'.cell? ⟨w.heap.size, 2, none⟩ = some (.slice Aa d.acc.length ca) := fun w' h => h.cell (by rw [hW1]; simp [go_sem])
  clear hW1
  have hE0 := Ext.refl W1
  have hck := check_any W1 _ d (hd.ext hE1)
  by_cases hz : checkD d = 0
  rotate_left
  · have hz' : (checkD d != 0) = true := by simpa using hz
    have H : Hid (countR d n = (0, checkD d)) := if_pos hz
    clear hz
    go_wp2_with ((with_reducible refine hck.mono ?_); rintro e w1 ⟨rfl, e1⟩)
    go_ret2
    unfold TwoP
    rw [H.out]
    exact ⟨rfl, hE1.trans e1⟩
  have hga := (good_iff d).1 hz
  have H : Hid (countR d n = if n < 0 then (0, 1) else if 256 < n then (0, 3) else if 4611686018427387904 < tlN d n.toNat 0 then (0, 3) else ((tlN d n.toNat 0 : Int), 0)) := if_neg (by simpa using hz)
  rw [hz] at hck
  have hsz := hga.size
  have HG := Lib.hid hga
  clear hz hga
  by_cases hn0 : n < 0
  · have H : Hid (countR d n = (0, 1)) := by show _ = _; rw [H.out, if_pos hn0]
    go_wp2_with ((with_reducible refine hck.mono ?_); rintro e w1 ⟨rfl, e1⟩)
    go_ret2
    unfold TwoP
    rw [H.out]
    exact ⟨rfl, hE1.trans e1⟩
  by_cases hn1 : 256 < n
  · have H : Hid (countR d n = (0, 3)) := by show _ = _; rw [H.out, if_neg hn0, if_pos hn1]
    go_wp2_with ((with_reducible refine hck.mono ?_); rintro e w1 ⟨rfl, e1⟩)
    go_ret2
    unfold TwoP
    rw [H.out]
    exact ⟨rfl, hE1.trans e1⟩
  have H : Hid (countR d n = if 4611686018427387904 < tlN d n.toNat 0 then (0, 3) else ((tlN d n.toNat 0 : Int), 0)) := by show _ = _; rw [H.out, if_neg hn0, if_neg hn1]
  obtain ⟨m, rfl⟩ := Int.eq_ofNat_of_zero_le (show 0 ≤ n by omega)
  have hm : m ≤ 256 := by omega
  have H : Hid (countR d m = if 4611686018427387904 < tlN d m 0 then (0, 3) else ((tlN d m 0 : Int), 0)) := H
  go_upto_region 8 with ((with_reducible refine hck.mono ?_); rintro e w1 ⟨rfl, e1⟩)
  clear hck
  have htl := tails_any w1 _ d (hd.ext (hE1.trans e1)) HG.out m hm
  have HT := Lib.hid htl
  clear htl
  go_upto_region 9 with (go_at_call 48; (with_reducible refine HT.out.mono ?_); rintro e w2 ⟨v2, rfl, hU, e2⟩; obtain ⟨b, o, b', o', c, c', rfl, c1, c2⟩ := tails_at HG.out hU (show m < m + 1 by omega) (show 0 < d.rows.length by omega); rw [Nat.add_zero] at c2; clear hU)
  have hle := tlN_le d m 0
  generalize tlN d m 0 = z at *
  by_cases hb : 4611686018427387904 < z
  · have H : Hid (countR d m = (0, 3)) := by show _ = _; rw [H.out, if_pos hb]
    have hbI : (4611686018427387904 : Int) < (z : Int) := by omega
    clear hb hle
    go_wp2
    go_ret2
    unfold TwoP
    rw [H.out]
    exact ⟨rfl, (hE1.trans e1).trans e2⟩
  · have H : Hid (countR d m = ((z : Int), 0)) := by show _ = _; rw [H.out, if_neg hb]
    have hbI : ¬ (4611686018427387904 : Int) < (z : Int) := by omega
    have HW := Lib.hid (wrap_i64n (Nat.le_of_not_lt hb))
    clear hb hle
    go_wp2
    go_ret2
    unfold TwoP
    rw [H.out]
    exact ⟨by first | rfl | (rw [HW.out]), (hE1.trans e1).trans e2⟩

/-! ### Rank -/
def rk1 (d : Dfa) (k : Nat) : Nat := (List.range k).foldl (fun c j => satS c (tlN d j 0)) 0
def rkX (d : Dfa) (j s c : Nat) (x : Nat) : Nat := (List.range x).foldl (fun c y => satS c (tlN d j (d.to s y))) c
def rk2 (d : Dfa) : List Int → Nat → Nat → Nat
  | [], _, c => c
  | x :: r, s, c => rk2 d r (d.to s x.toNat) (rkX d r.length s c x.toNat)
def rkL (d : Dfa) (w : List Int) : Nat := rk2 d w 0 (rk1 d w.length)
theorem foldS_le {α : Type} (f : α → Nat) : ∀ (l : List α) (c : Nat), c ≤ topN → l.foldl (fun c y => satS c (f y)) c ≤ topN
  | [], c, h => h
  | x :: r, c, _ => foldS_le f r _ (satS_le _ _)
theorem rk2_le (d : Dfa) : ∀ (w : List Int) (s c : Nat), c ≤ topN → rk2 d w s c ≤ topN
  | [], _, c, h => h
  | x :: r, s, c, h => rk2_le d r _ _ (foldS_le _ _ _ h)
def rankR (d : Dfa) (u : List Int) : Int × Int :=
  if checkD d ≠ 0 then (0, checkD d) else if wordC u d.sy ≠ 0 then (0, wordC u d.sy) else if 4611686018427387904 < rkL d u then (0, 3) else ((rkL d u : Int), 0)
theorem wordC_zero {u : List Int} {sy : Int} (h : wordC u sy = 0) : u.length ≤ 256 ∧ ∀ x ∈ u, 0 ≤ x ∧ x < sy := by
  unfold wordC at h
  split at h
  · cases h
  · split at h
    · cases h
    · rename_i h1 h2
      simp only [Bool.not_eq_true, List.any_eq_false] at h2
      exact ⟨by omega, fun x hx => badW_false.1 (by simpa using h2 x hx)⟩

set_option maxRecDepth 100000 in
set_option maxHeartbeats 8000000 in
theorem Rank_any (w : World) (dv : Value) (d : Dfa) (hd : DfaV w dv d) (uv : Value) (u : List Int) (cu : Nat) (hu : IntsC w uv u cu) : Calls Tryd.prog 22 #[dv, uv] w (TwoP (rankR d u) w) := by
  obtain ⟨rv, cr, av, ca, rfl, hr, ha⟩ := id hd
  obtain ⟨Ar, vr, rfl, _, _, _, _, hrm⟩ := id hr
  obtain ⟨Aa, rfl, hac, _, ham⟩ := id ha
  unfold lenMax at hrm ham
  have hu0 := hu
  obtain ⟨Au, rfl, huc, _, hum⟩ := hu
  unfold lenMax at hum
  go_enter Tryd.func22, Tryd.ntmps22
  go_upto_region 1 with fail
  refine wp_named ?_
  intro W1 hW1
  have hE1 : Ext w W1 := by rw [hW1]; exact (Ext.refl _).alloc _
  have k0 : ∀ w', Ext W1 w' → w'.cell? ⟨w.heap.size, 0, none⟩ = some (.int .i64 d.sy) := fun w' h => h.cell (by rw [hW1]; simp [go_sem])
  have k1 : ∀ w', Ext W1 w' → w'.cell? ⟨w.heap.size, 1, none⟩ = some (.slice Ar d.rows.length cr) := fun w' h => h.cell (by rw [hW1]; simp [go_sem])
  have k2 : ∀ w', Ext W1 w' → w'.cell? ⟨w.heap.size, 2, none⟩ = some (.slice Aa d.acc.length ca) := fun w' h => h.cell (by rw [hW1]; simp [go_sem])
  clear hW1
  have hE0 := Ext.refl W1
  have hck := check_any W1 _ d (hd.ext hE1)
  by_cases hz : checkD d = 0
  rotate_left
  · have hz' : (checkD d != 0) = true := by simpa using hz
    have H : Hid (rankR d u = (0, checkD d)) := if_pos hz
    clear hz
    go_wp2_with ((with_reducible refine hck.mono ?_); rintro e w1 ⟨rfl, e1⟩)
    go_ret2
    unfold TwoP
    rw [H.out]
    exact ⟨rfl, hE1.trans e1⟩
  have hga := (good_iff d).1 hz
  have H : Hid (rankR d u = if wordC u d.sy ≠ 0 then (0, wordC u d.sy) else if 4611686018427387904 < rkL d u then (0, 3) else ((rkL d u : Int), 0)) := if_neg (by simpa using hz)
  rw [hz] at hck
  have hsz := hga.size
  have hsy := hga.sy
  have HG := Lib.hid hga
  clear hz hga
  go_upto_region 4 with ((with_reducible refine hck.mono ?_); rintro e w1 ⟨rfl, e1⟩)
  clear hck
  have hwc := wordsCheck_any w1 _ u cu d.sy hsy.1 hsy.2 (hu0.ext (hE1.trans e1))
  by_cases hw : wordC u d.sy = 0
  rotate_left
  · have hw' : (wordC u d.sy != 0) = true := by simpa using hw
    have H : Hid (rankR d u = (0, wordC u d.sy)) := by show _ = _; rw [H.out, if_pos hw]
    clear hw
    have kk0 := k0 w1 e1
    go_wp2_with ((with_reducible refine hwc.mono ?_); rintro e w2 ⟨rfl, e2⟩)
    go_ret2
    unfold TwoP
    rw [H.out]
    exact ⟨rfl, (hE1.trans e1).trans e2⟩
  obtain ⟨hul, hux⟩ := wordC_zero hw
  have H : Hid (rankR d u = if 4611686018427387904 < rkL d u then (0, 3) else ((rkL d u : Int), 0)) := by show _ = _; rw [H.out, if_neg (by simpa using hw)]
  rw [hw] at hwc
  have HUX := Lib.hid hux
  clear hw hux
  go_upto_region 7 with ((with_reducible refine hwc.mono ?_); rintro e w2 ⟨rfl, e2⟩)
  clear hwc
  have hE2 : Ext W1 w2 := e1.trans e2
  have HT := Lib.hid (tails_any w2 _ d (hd.ext (hE1.trans hE2)) HG.out u.length hul)
  go_upto_region 8 with (go_at_call 48; (with_reducible refine HT.out.mono ?_); rintro e w3 ⟨v3, rfl, hU, e3⟩)
  have hE3 : Ext W1 w3 := hE2.trans e3
  have HU := Lib.hid hU
  obtain ⟨bt, ot, _, _, ct, _, rfl, _, _⟩ := tails_at HG.out hU (show 0 < u.length + 1 by omega) (show 0 < d.rows.length by omega)
  clear hU HT
  go_wp2
  go_loopw [9, 33] (fun nv kv wr => ∃ k : Nat, kv = .int .i64 k ∧ k ≤ u.length ∧ nv = .int .u64 (rk1 d k : Int) ∧ Ext w3 wr) (fun _ kv _ => u.length - (intOf kv).toNat)
  case atStart => exact ⟨0, rfl, Nat.zero_le _, rfl, Ext.refl _⟩
  case round =>
    obtain ⟨k, rfl, hk, rfl, hE⟩ := hrel
    obtain ⟨W4, hW4⟩ : ∃ W, W = wr := ⟨_, rfl⟩; subst hW4
    by_cases hkl : k < u.length
    · obtain ⟨b, o, b', o', c, c', hv, c1, c2⟩ := tails_at HG.out (HU.out.ext hE) (show k < u.length + 1 by omega) (show 0 < d.rows.length by omega)
      rw [Nat.add_zero] at c2
      injection hv with hv1 hv2 hv3
      simp only [Option.some.injEq, Addr.mk.injEq] at hv1
      obtain ⟨hb1, hb2, _⟩ := hv1
      subst hb1 hb2 hv3
      have hsu : rk1 d (k + 1) = satS (rk1 d k) (tlN d k 0) := by unfold rk1; rw [List.range_succ, List.foldl_append]; rfl
      have hle := foldS_le (fun j => tlN d j 0) (List.range k) 0 (Nat.zero_le _)
      have hle : rk1 d k ≤ topN := hle
      have hle2 := tlN_le d k 0
      have HSU := Lib.hid hsu
      clear hsu
      generalize rk1 d k = cv at *
      generalize tlN d k 0 = yv at *
      have hsum := fun w b hc0 hc1 => sum_any w b cv yv hle hle2 hc0 hc1
      unfold uV at hsum
      have HSM := Lib.hid hsum
      have hkI : (k : Int) < ((u.length + 1 : Nat) : Int) := by omega
      clear hsum hle hle2
      go_wp2_with (go_at_call 50; refine (HSM.out _ _ (by simp [go_sem]) (by simp [go_sem])).mono ?_; rintro e wS ⟨rfl, rfl⟩)
      go_roundw
      case rel => exact ⟨k + 1, by go_num, hkl, by rw [HSU.out], hE.alloc _⟩
      case measure => simp [intOf]; omega
    · obtain rfl : k = u.length := by omega
      have h0 : rkL d u = rk2 d (u.drop 0) 0 (rk1 d u.length) := rfl
      have hc0 : rk1 d u.length ≤ topN := foldS_le (fun j => tlN d j 0) (List.range u.length) 0 (Nat.zero_le _)
      have H0 := Lib.hid (And.intro h0 hc0)
      clear h0 hc0
      go_wp2
      go_loopw [9, 11, 48] (fun nv sv kv wr => ∃ (k s c : Nat), kv = .int .i64 k ∧ k ≤ u.length ∧ sv = .int .i64 s ∧ s < d.rows.length ∧ nv = .int .u64 (c : Int) ∧ Hid (rkL d u = rk2 d (u.drop k) s c ∧ c ≤ topN) ∧ Ext w3 wr) (fun _ _ kv _ => u.length - (intOf kv).toNat)
      case atStart => exact ⟨0, 0, _, rfl, Nat.zero_le _, rfl, by omega, rfl, H0, hE⟩
      case round =>
        clear H0 hE
        obtain ⟨k, s, c, rfl, hk, rfl, hs, rfl, hR, hE⟩ := hrel
        obtain ⟨W5, hW5⟩ : ∃ W, W = wr := ⟨_, rfl⟩; subst hW5
        by_cases hkl : k < u.length
        · obtain ⟨b, o, rfl, _, cx⟩ := (huc.ext (hE1.trans (hE3.trans hE))).at_int hkl
          have hxb := HUX.out _ (List.getElem_mem hkl)
          have hdr : u.drop k = u[k] :: u.drop (k + 1) := List.drop_eq_getElem_cons hkl
          obtain ⟨x, hx⟩ := Int.eq_ofNat_of_zero_le hxb.1
          rw [hx] at cx hdr
          have hxk : x < d.k := by have := HG.out.kk; omega
          obtain ⟨r, hr0⟩ : ∃ r, u.length = k + 1 + r := ⟨u.length - (k + 1), by omega⟩
          have hrl : (u.drop (k + 1)).length = r := by rw [List.length_drop]; omega
          have hst : rk2 d (u.drop k) s c = rk2 d (u.drop (k + 1)) (d.to s x) (rkX d r s c x) := by
            rw [hdr]
            show rk2 d (u.drop (k + 1)) (d.to s (x : Int).toNat) (rkX d (u.drop (k + 1)).length s c (x : Int).toNat) = _
            rw [hrl]; rfl
          have HST := Lib.hid (And.intro hst hr0)
          have hkI : (k : Int) < (u.length : Int) := by omega
          clear hxb hdr hx hrl hst hr0
          go_wp2
          go_loopw [9, 54] (fun nv yv wr => ∃ y : Nat, yv = .int .i64 y ∧ y ≤ x ∧ nv = .int .u64 (rkX d r s c y : Int) ∧ Ext w3 wr) (fun _ yv _ => x - (intOf yv).toNat)
          case atStart => exact ⟨0, rfl, Nat.zero_le _, rfl, hE⟩
          case round =>
            clear hE
            obtain ⟨y, rfl, hy, rfl, hE⟩ := hrel
            obtain ⟨W6, hW6⟩ : ∃ W, W = wr := ⟨_, rfl⟩; subst hW6
            have kk1 := k1 W6 (hE3.trans hE)
            by_cases hyl : y < x
            · obtain ⟨ba, oa, ba', oa', ca1, hA, a1, a2⟩ := HG.out.at_ (hr.ext (hE1.trans (hE3.trans hE))) (show s < d.n from hs) (show y < d.k by omega)
              injection hA with hA
              subst hA
              have htn : d.to s y < d.rows.length := HG.out.to_lt hs (show y < d.k by omega)
              obtain ⟨b9, o9, b', o', c9, c', hv, c1, c2⟩ := tails_at HG.out (HU.out.ext hE) (show r < u.length + 1 by have := HST.out.2; omega) htn
              injection hv with hv1 hv2 hv3
              simp only [Option.some.injEq, Addr.mk.injEq] at hv1
              obtain ⟨hb1, hb2, _⟩ := hv1
              subst hb1 hb2 hv3
              have hsu : rkX d r s c (y + 1) = satS (rkX d r s c y) (tlN d r (d.to s y)) := by unfold rkX; rw [List.range_succ, List.foldl_append]; rfl
              have hle := foldS_le (fun y => tlN d r (d.to s y)) (List.range y) c hR.out.2
              have hle : rkX d r s c y ≤ topN := hle
              have hle2 := tlN_le d r (d.to s y)
              have HSU := Lib.hid hsu
              have hylen : y < d.k := by omega
              have hk16 : d.k ≤ 16 := HG.out.kk.2.2
              clear hsu
              generalize rkX d r s c y = cv at *
              generalize tlN d r (d.to s y) = yv at *
              generalize d.to s y = t at *
              have hsum := fun w b hc0 hc1 => sum_any w b cv yv hle hle2 hc0 hc1
              unfold uV at hsum
              have HSM := Lib.hid hsum
              have kk1E : ∀ w', Ext W6 w' → w'.cell? ⟨w.heap.size, 1, none⟩ = some (.slice (some ⟨ba, oa, none⟩) d.rows.length cr) := fun w' h => h.cell kk1
              have a1E : ∀ w', Ext W6 w' → w'.cell? ⟨ba, oa + s, none⟩ = some (.slice (some ⟨ba', oa', none⟩) d.k ca1) := fun w' h => h.cell a1
              have a2E : ∀ w', Ext W6 w' → w'.cell? ⟨ba', oa' + y, none⟩ = some (.int .i64 (t : Int)) := fun w' h => h.cell a2
              have c1E : ∀ w', Ext W6 w' → w'.cell? ⟨bt, ot + r, none⟩ = some (.slice (some ⟨b', o', none⟩) d.rows.length c') := fun w' h => h.cell c1
              have c2E : ∀ w', Ext W6 w' → w'.cell? ⟨b', o' + t, none⟩ = some (.int .u64 (yv : Int)) := fun w' h => h.cell c2
              have hsI : (s : Int) < (d.rows.length : Int) := by omega
              have htI : (t : Int) < (d.rows.length : Int) := by omega
              have hyI : (y : Int) < (d.k : Int) := by omega
              have hrN : r < u.length + 1 := by have := HST.out.2; omega
              have hrI : (r : Int) < (u.length : Int) + 1 := by omega
              obtain ⟨q, hq⟩ : ∃ q : Int, q = (r : Int) + 1 := ⟨_, rfl⟩
              have hq1 : IntKind.i64.wrap ((u.length : Int) - (k : Int)) = q := by have := HST.out.2; rw [IntKind.wrap_i64]; omega
              have hq2 : IntKind.i64.wrap (q - 1) = (r : Int) := by have := HST.out.2; rw [IntKind.wrap_i64]; omega
              clear hq
              clear hsum hle hle2 kk1 a1 a2 c1 c2
              go_upto_region 21 with fail
              refine wp_region_ext 19 (factsOf []) (fun k => ([[], [], [], [2], [], [2, 3, 4], [2, 3, 4, 5], [1, 2, 3, 4, 5, 6], [1, 2, 3, 4, 5, 6, 7], [], [9], [], [9, 10, 11], [9, 10, 11, 12], [], [9, 10, 11, 12, 13, 14], [9, 10, 11, 12, 13, 14, 15], [1, 2, 3, 4, 5, 6, 7, 8, 9, 10, 11, 12, 13, 14, 15, 16], [1, 2, 3, 4, 5, 6, 7, 8, 9, 10, 11, 12, 13, 14, 15, 16, 17], [0, 1, 2, 3, 4, 5, 6, 7, 8, 9, 10, 11, 12, 13, 14, 15, 16, 17, 18], [0, 1, 2, 3, 4, 5, 6, 7, 8, 9, 10, 11, 12, 13, 14, 15, 16, 17, 18, 19], [0, 1, 2, 3, 4, 5, 6, 7, 8, 9, 10, 11, 12, 13, 14, 15, 16, 17, 18, 19, 20]] : List (List Nat)).getD k []) (by kernel_rfl) (by kernel_rfl) Ext.pre (mono_nil) ?_
              simp only [List.take_succ_cons, List.take_zero]
              repeat (first | (with_reducible refine lexL_quiet' (v := ?_) ?_ ?_ ?_ ?_; rotate_left; (· with_reducible rfl); (· simp [factsOf]); (· intro w1 hw1 _; go_simp; with_reducible rfl); (try simp only [Act.put, List.setIfInBounds_toArray, List.set_cons_zero, List.set_cons_succ])) | (with_reducible refine lexL_skip ?_ ?_; (· simp [Region.wanted, yielded, undef]); (try simp only [Act.put, List.setIfInBounds_toArray, List.set_cons_zero, List.set_cons_succ])) | (with_reducible refine lexL_quiet (v := ?_) ?_ ?_ ?_ ?_; rotate_left; (· simp [Region.wanted, yielded, undef]); (· simp [factsOf]); (· intro w1 hw1 _; go_simp; with_reducible rfl); (try simp only [Act.put, List.setIfInBounds_toArray, List.set_cons_zero, List.set_cons_succ])))
              with_reducible refine lexL_nil ?_; intro w1 hw1 hk1; simp only [List.drop_succ_cons, List.drop_zero]
              clear hk1 hq2 hq1
              go_wp2_with (go_at_call 50; refine (HSM.out _ _ (by simp [go_sem]) (by simp [go_sem])).mono ?_; rintro e wS ⟨rfl, rfl⟩)
              go_roundw
              case rel => exact ⟨y + 1, by go_num, hyl, by rw [HSU.out], (hE.trans hw1).alloc _⟩
              case measure => simp [intOf]; omega
            · obtain rfl : y = x := by omega
              obtain ⟨ba, oa, ba', oa', ca1, hA, a1, a2⟩ := HG.out.at_ (hr.ext (hE1.trans (hE3.trans hE))) (show s < d.n from hs) hxk
              injection hA with hA
              subst hA
              have htn : d.to s y < d.rows.length := HG.out.to_lt hs hxk
              have hcl : rkX d r s c y ≤ topN := foldS_le (fun y => tlN d r (d.to s y)) (List.range y) c hR.out.2
              have hst := HST.out.1
              have HN := Lib.hid (And.intro (hR.out.1.trans hst) hcl)
              have hsI : (s : Int) < (d.rows.length : Int) := by omega
              have hyI : (y : Int) < (d.k : Int) := by omega
              clear hst hcl
              generalize rkX d r s c y = cv at *
              generalize d.to s y = t at *
              go_wp2
              go_roundw
              case rel => exact ⟨k + 1, t, cv, by go_num, hkl, rfl, htn, rfl, HN, hE⟩
              case measure => simp [intOf]; omega
        · obtain rfl : k = u.length := by omega
          have hR0 : rkL d u = c ∧ c ≤ topN := by
            have := hR.out
            rw [List.drop_length] at this
            exact this
          have H : Hid (rankR d u = if 4611686018427387904 < c then (0, 3) else ((c : Int), 0)) := by show _ = _; rw [H.out, hR0.1]
          clear hR0 hR
          by_cases hb : 4611686018427387904 < c
          · have H : Hid (rankR d u = (0, 3)) := by show _ = _; rw [H.out, if_pos hb]
            have hbI : (4611686018427387904 : Int) < (c : Int) := by omega
            clear hb
            go_wp2
            go_ret2
            unfold TwoP
            rw [H.out]
            exact ⟨rfl, (hE1.trans hE3).trans hE⟩
          · have H : Hid (rankR d u = ((c : Int), 0)) := by show _ = _; rw [H.out, if_neg hb]
            have hbI : ¬ (4611686018427387904 : Int) < (c : Int) := by omega
            have HW := Lib.hid (wrap_i64n (Nat.le_of_not_lt hb))
            clear hb
            go_wp2
            go_ret2
            unfold TwoP
            rw [H.out]
            exact ⟨by first | rfl | (rw [HW.out]), (hE1.trans hE3).trans hE⟩
end Go.Proofs.YthlnmcokgfpgmaaDoor
