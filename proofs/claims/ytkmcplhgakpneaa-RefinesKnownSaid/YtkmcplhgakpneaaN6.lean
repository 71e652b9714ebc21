/- gauntletref07.Marked; rows of slices that a call owns. -/
import Derived.Test.YtkmcplhgakpneaaN1
import Derived.Test.YtkmcplhgakpneaaM1
namespace Go.Proofs.Ytkmcplhgakpneaa
open Go.RowKit Go.Maps
set_option linter.unusedVariables false
set_option linter.unusedSimpArgs false
attribute [local go_sem] Oper.quietV quietV Oper.gives givesV ext_refl_iff ext_alloc_iff ext_drew_iff ext_drewN_iff

/-- v owns a row of slices vs; each of these owns its cells; no two of them share a block. -/
structure OwnRows (w : World) (B e1 e2 s2 : Nat) (v : Value) (vs : List Value) (rows : List (Nat × List Value)) : Prop where
  own : w.ownsRow B e1 1 v vs.length vs
  len : vs.length = rows.length
  each : ∀ (j : Nat) (u : Value) (r : Nat × List Value), vs[j]? = some u → rows[j]? = some r → w.ownsRow B e2 s2 u r.1 r.2
  apart : ∀ (i j : Nat) (u u' : Value), vs[i]? = some u → vs[j]? = some u' → i ≠ j → u.ownBlock = none ∨ u.ownBlock ≠ u'.ownBlock
theorem OwnRows.nil (w : World) (B e1 e2 s2 : Nat) : OwnRows w B e1 e2 s2 (.slice none 0 0) [] [] :=
  ⟨World.ownsRow_nil _ _ _ _, rfl, fun j u r h => by simp at h, fun i j u u' h => by simp at h⟩
theorem OwnRows.ext {w w' : World} {B e1 e2 s2 : Nat} {v : Value} {vs : List Value} {rows : List (Nat × List Value)} (h : OwnRows w B e1 e2 s2 v vs rows) (e : Ext w w') : OwnRows w' B e1 e2 s2 v vs rows :=
  ⟨ownsRow_ext h.own e, h.len, fun j u r hu hr => ownsRow_ext (h.each j u r hu hr) e, h.apart⟩
theorem OwnRows.lt {w : World} {B e1 e2 s2 : Nat} {v : Value} {vs : List Value} {rows : List (Nat × List Value)} (h : OwnRows w B e1 e2 s2 v vs rows) {j : Nat} {u : Value} (hu : vs[j]? = some u) {b : Nat} (hb : u.ownBlock = some b) : B ≤ b ∧ b < w.heap.size := by
  have hj := (List.getElem?_eq_some_iff.1 hu).1
  have hj2 : j < rows.length := by rw [← h.len]; exact hj
  exact (h.each j u rows[j] hu (List.getElem?_eq_getElem hj2)).lt b hb
theorem OwnRows.push {W W3 w4 : World} {B e1 e2 s2 : Nat} {v v4 x : Value} {vs : List Value} {rows : List (Nat × List Value)} {r : Nat × List Value} (h : OwnRows W B e1 e2 s2 v vs rows) (hne : e1 ≠ e2) (hE : Ext W W3)
    (hx : W3.ownsRow B e2 s2 x r.1 r.2) (hxb : ∀ b, x.ownBlock = some b → W.heap.size ≤ b) (hg : W3.grownBy w4 v.ownBlock) (h4 : w4.ownsRow B e1 1 v4 (vs.length + 1) (vs ++ [x])) : OwnRows w4 B e1 e2 s2 v4 (vs ++ [x]) (rows ++ [r]) := by
  have hov := ownsRow_ext h.own hE
  refine ⟨by simpa using h4, by simp [h.len], fun j u r' hu hr => ?_, fun i j u u' hu hu' hij => ?_⟩
  · by_cases hj : j < vs.length
    · rw [List.getElem?_append_left hj] at hu
      rw [List.getElem?_append_left (by rw [← h.len]; exact hj)] at hr
      have := ownsRow_ext (h.each j u r' hu hr) hE
      exact this.kept hg (own_ne this hov (Ne.symm hne))
    · have hj2 : j = vs.length := by
        have := (List.getElem?_eq_some_iff.1 hu).1
        simp at this; omega
      subst hj2
      rw [List.getElem?_append_right (Nat.le_refl _), Nat.sub_self] at hu
      rw [List.getElem?_append_right (by rw [h.len]; exact Nat.le_refl _), h.len, Nat.sub_self] at hr
      cases hu; cases hr
      exact hx.kept hg (own_ne hx hov (Ne.symm hne))
  · have key : ∀ (k : Nat) (y : Value), (vs ++ [x])[k]? = some y → (k < vs.length ∧ vs[k]? = some y) ∨ (k = vs.length ∧ y = x) := fun k y hy => by
      by_cases hk : k < vs.length
      · rw [List.getElem?_append_left hk] at hy; exact .inl ⟨hk, hy⟩
      · have hk2 : k = vs.length := by
          have := (List.getElem?_eq_some_iff.1 hy).1
          simp at this; omega
        subst hk2
        rw [List.getElem?_append_right (Nat.le_refl _), Nat.sub_self] at hy
        cases hy
        exact .inr ⟨rfl, rfl⟩
    rcases key i u hu with ⟨hi, h1⟩ | ⟨hi, rfl⟩ <;> rcases key j u' hu' with ⟨hj, h2⟩ | ⟨hj, rfl⟩
    · exact h.apart i j u u' h1 h2 hij
    · cases hb : u.ownBlock with
      | none => exact .inl rfl
      | some b =>
        refine .inr fun e => ?_
        have h3 := (h.lt h1 hb).2
        have h4 := hxb b e.symm
        omega
    · cases hb : u.ownBlock with
      | none => exact .inl rfl
      | some b =>
        refine .inr fun e => ?_
        have h3 := (h.lt h2 e.symm).2
        have h4 := hxb b hb
        omega
    · omega
theorem OwnRows.set {w : World} {B e1 e2 : Nat} {v : Value} {vs : List Value} {rows : List (Nat × List Value)} {j g n c : Nat} {xs : List Value} (h : OwnRows w B e1 e2 1 v vs rows) (hne : e1 ≠ e2)
    (hj : vs[j]? = some (.slice (some ⟨g, 0, none⟩) n c)) (hr : rows[j]? = some (n, xs)) (k : Nat) (y : Value) : OwnRows (w.setCell ⟨g, k, none⟩ y) B e1 e2 1 v vs (rows.set j (n, xs.set k y)) := by
  have hrow := h.each j _ _ hj hr
  have hst := hrow.stored k y
  refine ⟨h.own.kept hst.2 (own_ne h.own hrow hne), by simpa using h.len, fun i u r hu hr' => ?_, h.apart⟩
  by_cases hij : i = j
  · subst hij
    rw [hj] at hu
    cases hu
    rw [List.getElem?_set_self (by have := (List.getElem?_eq_some_iff.1 hr).1; exact this)] at hr'
    cases hr'
    exact hst.1
  · rw [List.getElem?_set_ne (by omega)] at hr'
    have := h.apart i j u _ hu hj hij
    exact (h.each i u r hu hr').kept hst.2 this
theorem OwnRows.grown {w : World} {B e1 e2 s2 : Nat} {v : Value} {vs : List Value} {rows : List (Nat × List Value)} (h : OwnRows w B e1 e2 s2 v vs rows) {j : Nat} {u : Value} (hu : vs[j]? = some u) {W : World} (hE : Ext W w) (hB : W.heap.size ≤ B) {w' : World} (hg : w.grownBy w' u.ownBlock) : Ext W w' :=
  Below.grown hE hg hE.size (fun b hb => Nat.le_trans hB (h.lt hu hb).1)

def bRow (r : List Bool) : Nat × List Value := (r.length, r.map .bool)
theorem mat_of_own {w : World} {B e1 e2 : Nat} {v : Value} {vs : List Value} {M : List (List Bool)} (h : OwnRows w B e1 e2 1 v vs (M.map bRow)) (hl : M.length ≤ lenMax) (hrl : ∀ r ∈ M, r.length ≤ lenMax) : MatC w v M := by
  obtain ⟨A, c, hv, _, hc⟩ := cells_of_owns h.own
  have hlen : vs.length = M.length := by rw [h.len]; simp
  refine ⟨A, c, vs, by rw [← hlen]; exact hv, hc, hlen, fun i u r hu hr => ?_, hl⟩
  have := h.each i u (bRow r) hu (by rw [List.getElem?_map, hr]; rfl)
  obtain ⟨A', c', hv', _, hc'⟩ := cells_of_owns this
  exact ⟨A', c', hv', hc', hrl r (List.mem_of_getElem? hr)⟩

theorem bool_info : (Try.prog.info? 4).map (fun i => (i.zero, i.size, i.bytes)) = some (some (.bool false), 1, 1) := by kernel_rfl
theorem brow_info : (Try.prog.info? 87).map (fun i => (i.zero, i.size, i.bytes)) = some (some (.slice none 0 0), 1, 24) := by kernel_rfl
theorem bools_one (n : Nat) : ((madeCells (Value.bool false).cells (n * 1)).toList) = (List.replicate n false).map Value.bool := by
  rw [Nat.mul_one, show (Value.bool false).cells = #[.bool false] from rfl, toList_madeCells_one]; simp
end Go.Proofs.Ytkmcplhgakpneaa
