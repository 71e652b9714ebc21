/- The graph of a machine; how its edges are counted, row by row. -/
import Derived.Test.YteadkafeabhhhaaG0
import Derived.Test.YteadkafeabhhhaaB1
import Derived.Test.YteadkafeabhhhaaOwn
namespace Go.Proofs.Yteadkafeabhhhaa
open Go.RowKit
set_option linter.unusedVariables false
set_option linter.unusedSimpArgs false

def sucE (es : List (Int × Int)) : List Nat := (es.filter (fun e => e.1 != -1)).map (fun e => e.1.toNat)
def Mach.row (m : Mach) (s : Nat) : List (Int × Int) := m.rows.getD s []
def grOf (m : Mach) (ts ss : List Bool) : Gr := { n := m.rows.length, sc := fun s => sucE (m.row s), turn := fun s => ts.getD s false, goal := fun s => ss.getD s false }
theorem sucE_none {es : List (Int × Int)} {i : Nat} (hi : i < es.length) (h : es[i].1 = -1) : sucE (es.take (i + 1)) = sucE (es.take i) := by
  unfold sucE; rw [List.take_succ_eq_append_getElem hi, List.filter_append]; simp [h]
theorem sucE_some {es : List (Int × Int)} {i : Nat} (hi : i < es.length) (h : es[i].1 ≠ -1) : sucE (es.take (i + 1)) = sucE (es.take i) ++ [es[i].1.toNat] := by
  unfold sucE; rw [List.take_succ_eq_append_getElem hi, List.filter_append]; simp [h]

/-- How many edges lead on from t, when the rows below s and i edges of row s are counted. -/
def leftF (m : Mach) (s i t : Nat) : Int := if t < s then ((sucE (m.row t)).length : Int) else if t = s then ((sucE ((m.row s).take i)).length : Int) else 0
def leftAt (m : Mach) (s i : Nat) : List Value := (List.range m.rows.length).map (fun t => .int .i64 (leftF m s i t))
def backF (m : Mach) (s i u : Nat) : List Nat := ((List.range s).flatMap fun t => List.replicate ((sucE (m.row t)).count u) t) ++ List.replicate ((sucE ((m.row s).take i)).count u) s
def bkRow (l : List Nat) : Nat × List Value := (l.length, l.map (fun (t : Nat) => Value.int .i64 (t : Int)))
def backAt (m : Mach) (s i : Nat) : List (Nat × List Value) := (List.range m.rows.length).map (fun u => bkRow (backF m s i u))

theorem leftAt_none {m : Mach} {s i : Nat} (hi : i < (m.row s).length) (h : (m.row s)[i].1 = -1) : leftAt m s (i + 1) = leftAt m s i := by
  unfold leftAt leftF; rw [sucE_none hi h]
theorem backAt_none {m : Mach} {s i : Nat} (hi : i < (m.row s).length) (h : (m.row s)[i].1 = -1) : backAt m s (i + 1) = backAt m s i := by
  unfold backAt backF; rw [sucE_none hi h]
theorem leftAt_next (m : Mach) (s : Nat) : leftAt m (s + 1) 0 = leftAt m s (m.row s).length := by
  unfold leftAt
  apply List.map_congr_left
  intro t _
  unfold leftF
  by_cases h1 : t < s
  · rw [if_pos h1, if_pos (by omega)]
  · by_cases h2 : t = s
    · subst h2; rw [if_neg h1, if_pos rfl, if_pos (by omega), List.take_length]
    · rw [if_neg h1, if_neg h2, if_neg (by omega)]
      by_cases h3 : t = s + 1
      · rw [if_pos h3]; simp [sucE]
      · rw [if_neg h3]
theorem backAt_next (m : Mach) (s : Nat) : backAt m (s + 1) 0 = backAt m s (m.row s).length := by
  unfold backAt
  apply List.map_congr_left
  intro u _
  unfold backF
  rw [List.range_succ, List.flatMap_append, List.take_length]
  simp [sucE]
theorem map_set_range {α : Type} (f g : Nat → α) (n s : Nat) (h : ∀ t, t ≠ s → f t = g t) : ((List.range n).map g).set s (f s) = (List.range n).map f := by
  apply List.ext_getElem
  · simp
  · intro i h1 h2
    rw [List.getElem_set]
    by_cases hi : s = i
    · subst hi; simp
    · rw [if_neg hi]; simp; exact (h i (fun e => hi e.symm)).symm
theorem leftAt_some {m : Mach} {s i : Nat} (hi : i < (m.row s).length) (h : (m.row s)[i].1 ≠ -1) : (leftAt m s i).set s (.int .i64 (leftF m s i s + 1)) = leftAt m s (i + 1) := by
  have e : Value.int .i64 (leftF m s i s + 1) = Value.int .i64 (leftF m s (i + 1) s) := by
    unfold leftF; rw [sucE_some hi h]; simp
  rw [e]
  exact map_set_range (fun t => Value.int .i64 (leftF m s (i + 1) t)) _ _ s (fun t ht => by unfold leftF; simp [ht])
theorem backAt_some {m : Mach} {s i : Nat} (hi : i < (m.row s).length) (h : (m.row s)[i].1 ≠ -1) :
    (backAt m s i).set (m.row s)[i].1.toNat ((backF m s i (m.row s)[i].1.toNat).length + 1, (bkRow (backF m s i (m.row s)[i].1.toNat)).2 ++ [.int .i64 (s : Int)]) = backAt m s (i + 1) := by
  generalize hu : (m.row s)[i].1.toNat = u
  have e : ((backF m s i u).length + 1, (bkRow (backF m s i u)).2 ++ [Value.int .i64 (s : Int)]) = bkRow (backF m s (i + 1) u) := by
    unfold backF bkRow
    rw [sucE_some hi h, List.count_append, hu, show List.count u [u] = 1 by simp, List.replicate_succ']
    simp [← List.append_assoc]
  rw [e]
  refine map_set_range (fun t => bkRow (backF m s (i + 1) t)) _ _ u (fun t ht => ?_)
  unfold backF
  rw [sucE_some hi h, List.count_append, hu, List.count_eq_zero.2 (show t ∉ [u] by simpa using ht)]
  rfl
theorem leftAt_end (m : Mach) (ts ss : List Bool) : leftAt m m.rows.length 0 = ((bfs0 (grOf m ts ss)).left).map (.int .i64) := by
  unfold leftAt bfs0
  rw [List.map_map]
  apply List.map_congr_left
  intro t ht
  have := List.mem_range.1 ht
  unfold leftF
  rw [if_pos this]; rfl
theorem backAt_end (m : Mach) (ts ss : List Bool) : backAt m m.rows.length 0 = (List.range m.rows.length).map (fun u => bkRow (back (grOf m ts ss) u)) := by
  unfold backAt
  apply List.map_congr_left
  intro u _
  unfold backF back
  simp [sucE, grOf]
theorem backF_len (m : Mach) (hl : ∀ s, (m.row s).length ≤ 16) (u : Nat) : ∀ s i, (backF m s i u).length ≤ 16 * (s + 1) := fun s i => by
  have hc : ∀ l : List (Int × Int), l.length ≤ 16 → (sucE l).count u ≤ 16 := fun l h => Nat.le_trans List.count_le_length (by
    unfold sucE; rw [List.length_map]; exact Nat.le_trans (List.length_filter_le _ _) h)
  have h1 : ∀ s, ((List.range s).flatMap fun t => List.replicate ((sucE (m.row t)).count u) t).length ≤ 16 * s := fun s => by
    induction s with
    | zero => simp
    | succ s ih =>
      rw [List.range_succ, List.flatMap_append, List.length_append]
      have := hc (m.row s) (hl s)
      simp only [List.flatMap_cons, List.flatMap_nil, List.append_nil, List.length_replicate]
      omega
  have h2 := h1 s
  have h3 := hc ((m.row s).take i) (Nat.le_trans (List.length_take_le' _ _) (hl s))
  unfold backF
  rw [List.length_append, List.length_replicate]
  omega
end Go.Proofs.Yteadkafeabhhhaa
