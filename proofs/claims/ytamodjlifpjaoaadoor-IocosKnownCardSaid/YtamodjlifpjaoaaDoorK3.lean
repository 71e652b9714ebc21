/- IocosKnown 10: the long chains are made. -/
import Derived.Test.YtamodjlifpjaoaaDoorK2
import Derived.Test.YtamodjlifpjaoaaDoorF1
namespace Go.Proofs.YtamodjlifpjaoaaDoor
open Go.RowKit
set_option linter.unusedVariables false
set_option linter.unusedSimpArgs false
attribute [local go_sem] Oper.quietV quietV Oper.gives givesV ext_refl_iff ext_alloc_iff ext_drew_iff ext_drewN_iff
theorem cells_same {w w' : World} {A : Option Addr} {cs : List Value} (h : Cells w A cs) (hb : ∀ b o, A = some ⟨b, o, none⟩ → 0 < cs.length → w'.heap[b]? = w.heap[b]?) : Cells w' A cs := fun hpos => by
  obtain ⟨b, o, rfl, hlt, hcc⟩ := h hpos
  have he := hb b o rfl hpos
  refine ⟨b, o, rfl, ?_, fun j u hj => ?_⟩
  · rw [Array.getElem?_eq_getElem hlt] at he
    exact (Array.getElem?_eq_some_iff.1 he).1
  · rw [cell_same he]; exact hcc j u hj
def ArcW (u : Value) (l : List Arc) (w : World) : Prop := ArcsC w u l
theorem arc_any {N : Nat} {w : World} {u : Value} {l : List Arc} (h : ArcW u l w) (hf : FarW N u) : (Asn.any (lsF1 u) (ArcW u l)).ok N w := by
  obtain ⟨A, c, h1, hc, h2⟩ := h
  refine ⟨fun b ⟨o, n, c', hv, hn⟩ => ⟨hf b ⟨o, n, c', hv, hn⟩, ?_⟩, fun w' hb => ⟨A, c, h1, cells_same hc fun b o hA hpos => hb b ⟨o, l.length, c, by rw [h1, hA], ?_⟩, h2⟩⟩
  · rw [hv] at h1
    injection h1 with h1 h3 _
    subst h1
    obtain ⟨b', o', h4, hlt, _⟩ := hc (by rw [arcs_len]; omega)
    cases h4; exact hlt
  · rw [arcs_len] at hpos; omega
def LsArcs (vs : List Value) (rows : List (List Arc)) (w : World) : Prop := vs.length = rows.length ∧ ∀ (i : Nat) (u : Value) (r : List Arc), vs[i]? = some u → rows[i]? = some r → ArcW u r w
theorem LsArcs.snoc {vs : List Value} {rows : List (List Arc)} {w : World} {u : Value} {l : List Arc} (h : LsArcs vs rows w) (hu : ArcW u l w) : LsArcs (vs ++ [u]) (rows ++ [l]) w := by
  refine ⟨by rw [List.length_append, List.length_append, h.1]; rfl, fun i x r hx hr => ?_⟩
  by_cases hi : i < vs.length
  · rw [List.getElem?_append_left hi] at hx
    rw [List.getElem?_append_left (by rw [← h.1]; exact hi)] at hr
    exact h.2 i x r hx hr
  · rw [List.getElem?_append_right (by omega)] at hx
    rw [List.getElem?_append_right (by rw [← h.1]; omega), ← h.1] at hr
    have hi0 : i - vs.length = 0 := by
      have := (List.getElem?_eq_some_iff.1 hx).1
      simp at this; omega
    rw [hi0] at hx hr
    simp at hx hr
    subst hx hr
    exact hu
theorem LsArcs.nil (w : World) : LsArcs [] [] w := ⟨rfl, fun i u r hu => by simp at hu⟩
theorem LsArcs.rows {vs : List Value} {rows : List (List Arc)} {w : World} (h : LsArcs vs rows w) {g c N e : Nat} (ho : w.ownsRow N e 1 (.slice (some ⟨g, 0, none⟩) rows.length c) rows.length vs) (hl : rows.length ≤ 100000) : ARowsC w (.slice (some ⟨g, 0, none⟩) rows.length c) rows := by
  refine ⟨some ⟨g, 0, none⟩, c, vs, rfl, fun _ => ⟨g, 0, rfl, (ho.lt g rfl).2, fun j u hj => by rw [Nat.zero_add]; exact cell_at_own ho hj⟩, h.1, fun i u r hu hr => h.2 i u r hu hr, ?_, by unfold lenMax; omega⟩
  rcases ho.2 with ⟨h2, _⟩ | ⟨g', cap, cur, h2, _, _, hn, _⟩
  · cases h2
  · cases h2; exact hn
/-- One row more. -/
theorem chain_more {W0 W W1 w8 : World} {b : Nat} {o : Int} {v v8 u z : Value} {r : List (List Arc)} {l : List Arc} {vs : List Value} {F : Nat → Prop} {L : List Asn}
    (h : OwnL W0 W (.blk b (.cells #[.int .i64 0, .int .i64 o, z] 28) :: .row 68 1 v r.length vs :: .any F (LsArcs vs r) :: L)) (e : Ext W W1) (hu : ArcW u l W1) (hf : FarW W.heap.size u)
    (hg : W1.grownBy w8 v.ownBlock) (ho : w8.ownsRow W0.heap.size 68 1 v8 (r.length + 1) (vs ++ [u])) (hb : ∀ k, v8.ownBlock = some k → v.ownBlock = some k ∨ W1.heap.size ≤ k) :
    w8.cell? ⟨b, 2, none⟩ = some z ∧ w8.frozen? ⟨b, 2, none⟩ = false ∧ ∃ F', OwnL W0 (w8.setCell ⟨b, 2, none⟩ v8) (.blk b (.cells #[.int .i64 0, .int .i64 o, v8] 28) :: .row 68 1 v8 (r ++ [l]).length (vs ++ [u]) :: .any F' (LsArcs (vs ++ [u]) (r ++ [l])) :: L) := by
  have h1 := h.add e (arc_any hu hf)
  have h2 := h1.app 2 rfl hg ho hb
  have h3 : OwnL W0 w8 (.any (lsF1 u) (ArcW u l) :: .blk b (.cells #[.int .i64 0, .int .i64 o, z] 28) :: .row 68 1 v8 (r.length + 1) (vs ++ [u]) :: .any F (LsArcs vs r) :: L) := h2
  have hblk := (h3.get 1 rfl).2
  refine ⟨cell_of_blk hblk 2 rfl, free_of_blk hblk 2, ?_⟩
  have h4 := h3.put 1 rfl 2 v8
  have h5 : OwnL W0 (w8.setCell ⟨b, 2, none⟩ v8) (.any (lsF1 u) (ArcW u l) :: .blk b (.cells #[.int .i64 0, .int .i64 o, v8] 28) :: .row 68 1 v8 (r.length + 1) (vs ++ [u]) :: .any F (LsArcs vs r) :: L) := h4
  have p1 := h5.perm (.cons _ (List.perm_middle (l₁ := [_, _])))
  have p2 := p1.merge.weaken (Φ' := LsArcs (vs ++ [u]) (r ++ [l])) (fun W h => h.2.snoc h.1)
  have p3 := p2.perm (List.perm_middle (l₁ := [_, _])).symm
  refine ⟨fun b => lsF1 u b ∨ F b, ?_⟩
  rw [show (r ++ [l]).length = r.length + 1 by simp]
  exact p3
def TwoSt (W0 W : World) (b b' : Nat) (o o' : Int) (v v' : Value) (r r' : List (List Arc)) : Prop := ∃ (vs vs' : List Value) (F F' : Nat → Prop), OwnL W0 W [.blk b (.cells #[.int .i64 0, .int .i64 o, v] 28), .row 68 1 v r.length vs, .any F (LsArcs vs r), .blk b' (.cells #[.int .i64 0, .int .i64 o', v'] 28), .row 68 1 v' r'.length vs', .any F' (LsArcs vs' r')]
theorem TwoSt.swap {W0 W : World} {b b' : Nat} {o o' : Int} {v v' : Value} {r r' : List (List Arc)} (h : TwoSt W0 W b b' o o' v v' r r') : TwoSt W0 W b' b o' o v' v r' r := by
  obtain ⟨vs, vs', F, F', h⟩ := h
  exact ⟨vs', vs, F', F, h.perm (List.perm_append_comm (l₁ := [_, _, _]) (l₂ := [_, _, _]))⟩
theorem TwoSt.trans {W0 W W' : World} {b b' : Nat} {o o' : Int} {v v' : Value} {r r' : List (List Arc)} (h : TwoSt W0 W b b' o o' v v' r r') (e : Ext W W') : TwoSt W0 W' b b' o o' v v' r r' := by
  obtain ⟨vs, vs', F, F', h⟩ := h
  exact ⟨vs, vs', F, F', h.trans e⟩
theorem TwoSt.ext {W0 W : World} {b b' : Nat} {o o' : Int} {v v' : Value} {r r' : List (List Arc)} (h : TwoSt W0 W b b' o o' v v' r r') : Ext W0 W := by
  obtain ⟨vs, vs', F, F', h⟩ := h
  exact OwnL.ext h
theorem TwoSt.cell {W0 W : World} {b b' : Nat} {o o' : Int} {v v' : Value} {r r' : List (List Arc)} (h : TwoSt W0 W b b' o o' v v' r r') : ∀ w', Ext W w' → w'.cell? ⟨b, 2, none⟩ = some v := by
  obtain ⟨vs, vs', F, F', h⟩ := h
  exact fun w' e => e.cell (cell_of_blk (h.get 0 rfl).2 2 rfl)
theorem TwoSt.start (W : World) : TwoSt W ((W.alloc (.cells #[.int .i64 0, .int .i64 0, .slice none 0 0] 28)).alloc (.cells #[.int .i64 0, .int .i64 0, .slice none 0 0] 28)) W.heap.size (W.heap.size + 1) 0 0 (.slice none 0 0) (.slice none 0 0) [] [] := by
  have ha : ∀ N w, (Asn.any (fun _ => False) (LsArcs [] [])).ok N w := fun N w => ⟨fun b h => h.elim, fun w' _ => LsArcs.nil w'⟩
  have h1 := (OwnL.nil (Ext.refl W)).add (Ext.refl W) (ha _ _)
  have h2 := h1.add (Ext.refl W) (A := .row 68 1 (.slice none 0 0) 0 []) (World.ownsRow_nil W _ 68 1)
  have h3 := h2.add (Ext.refl W) (ha _ _)
  have h4 := h3.add (Ext.refl W) (A := .row 68 1 (.slice none 0 0) 0 []) (World.ownsRow_nil W _ 68 1)
  have h5 := h4.add (alloc_ext W (.cells #[.int .i64 0, .int .i64 0, .slice none 0 0] 28)) (A := .blk W.heap.size (.cells #[.int .i64 0, .int .i64 0, .slice none 0 0] 28)) ⟨Nat.le_refl _, heap_alloc_new W _⟩
  have h6 := h5.add (alloc_ext _ (.cells #[.int .i64 0, .int .i64 0, .slice none 0 0] 28)) (A := .blk (W.heap.size + 1) (.cells #[.int .i64 0, .int .i64 0, .slice none 0 0] 28)) ⟨by simp, by have := heap_alloc_new (W.alloc (.cells #[.int .i64 0, .int .i64 0, .slice none 0 0] 28)) (.cells #[.int .i64 0, .int .i64 0, .slice none 0 0] 28); simpa using this⟩
  refine ⟨[], [], fun _ => False, fun _ => False, h6.perm ?_⟩
  -- [blk', blk, row, any, row, any] to [blk, row, any, blk', row, any]
  exact List.perm_middle (l₁ := [_, _, _]).symm
theorem chR_succ (k s : Nat) : chR k (s + 1) = chR k s ++ [[⟨k, 0, (s : Int) + 1⟩]] := by
  unfold chR
  rw [List.range_succ, List.map_append]; rfl
theorem chR_len (k s : Nat) : (chR k s).length = s := by unfold chR; simp
end Go.Proofs.YtamodjlifpjaoaaDoor
