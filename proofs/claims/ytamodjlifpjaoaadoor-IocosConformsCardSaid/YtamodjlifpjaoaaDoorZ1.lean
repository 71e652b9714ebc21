/- Two systems with equal labels, as the laws of pairs make them. -/
import Derived.Test.YtamodjlifpjaoaaDoorGG
import Derived.Test.YtamodjlifpjaoaaDoorD4
import Derived.Test.YtamodjlifpjaoaaDoorGL
namespace Go.Proofs.YtamodjlifpjaoaaDoor
open Go.RowKit
set_option linter.unusedVariables false
set_option linter.unusedSimpArgs false
attribute [local go_sem] Oper.quietV quietV Oper.gives givesV ext_refl_iff ext_alloc_iff ext_drew_iff ext_drewN_iff
def OfV (i o : Nat) (f : Bool) (v : Value) (w : World) : Prop := ∃ (x : Lts) (A : Option Addr) (c : Nat), v = .agg #[.int .i64 x.ins, .int .i64 x.outs, .slice A x.rows.length c] ∧ LtsK w (.agg #[.int .i64 x.ins, .int .i64 x.outs, .slice A x.rows.length c]) x ∧ BLike x i o f
theorem stays_ofV (i o : Nat) (f : Bool) : Stays Ext (OfV i o f) := fun v w w' hE ⟨x, A, c, hv, h, hb⟩ => ⟨x, A, c, hv, h.ext hE, hb⟩
/-- Two systems with equal labels in their boxes. -/
structure TwoV (w W : World) (b7 b8 : Nat) (x y : Lts) (f g : Bool) : Prop where
  ext : Ext w W
  bx : BoxL W b7 x
  bz : BoxL W b8 y
  lx : ∃ i o, BLike x i o f ∧ BLike y i o g ∧ i ≤ 2 ∧ o ≤ 2
theorem TwoV.labs {w W : World} {b7 b8 : Nat} {x y : Lts} {f g : Bool} (h : TwoV w W b7 b8 x y f g) : x.ins = y.ins ∧ x.outs = y.outs ∧ x.O ≤ 2 ∧ y.O ≤ 2 := by
  obtain ⟨i, o, h1, h2, h3, h4⟩ := h.lx
  have e1 := h1.ins
  have e2 := h1.outs
  have e3 := h2.ins
  have e4 := h2.outs
  unfold Lts.O
  omega
/-- The two boxes, behind the stores. -/
theorem two_of {w w1 w2 w3 : World} {b7 b8 : Nat} {x y : Lts} {A B : Option Addr} {c d i o : Nat} {f g : Bool} (hw : Ext w w1) (hKx : LtsK w1 (.agg #[.int .i64 x.ins, .int .i64 x.outs, .slice A x.rows.length c]) x) (hKy : LtsK w1 (.agg #[.int .i64 y.ins, .int .i64 y.outs, .slice B y.rows.length d]) y)
    (hx : BLike x i o f) (hy : BLike y i o g) (hi : i ≤ 2) (ho : o ≤ 2) (hne : b7 ≠ b8) (h7 : w.heap.size ≤ b7) (h8 : w.heap.size ≤ b8) {cs7 cs8 : Array Value} (hB7 : w1.heap[b7]? = some (.cells cs7 28 (0, 0))) (hB8 : w1.heap[b8]? = some (.cells cs8 28 (0, 0)))
    (g2 : w1.grownBy w2 (some b7)) (h2 : w2.heap[b7]? = some (.cells #[.int .i64 x.ins, .int .i64 x.outs, .slice A x.rows.length c] 28 (0, 0))) (g3 : w2.grownBy w3 (some b8)) (h3 : w3.heap[b8]? = some (.cells #[.int .i64 y.ins, .int .i64 y.outs, .slice B y.rows.length d] 28 (0, 0))) : TwoV w w3 b7 b8 x y f g := by
  have hB8' : w2.heap[b8]? = some (.cells cs8 28 (0, 0)) := (g2.block b8 (lt_of_block hB8) (fun e => by injection e with e; exact hne e.symm)).trans hB8
  have h2' : w3.heap[b7]? = some (.cells #[.int .i64 x.ins, .int .i64 x.outs, .slice A x.rows.length c] 28 (0, 0)) := (g3.block b7 (lt_of_block h2) (fun e => by injection e with e; exact hne e)).trans h2
  have hE2 : Ext w w2 := Below.grown hw g2 hw.size (fun k hk => by cases hk; exact h7)
  have hE3 : Ext w w3 := Below.grown hE2 g3 hE2.size (fun k hk => by cases hk; exact h8)
  have k1 := ((hKx.grown g2 hB7 (by decide)).grown g3 hB8' (by decide)).lts
  have k2 := ((hKy.grown g2 hB7 (by decide)).grown g3 hB8' (by decide)).lts
  exact ⟨hE3, ⟨A, c, cell_of_blk h2' 0 rfl, cell_of_blk h2' 1 rfl, cell_of_blk h2' 2 rfl, k1⟩, ⟨B, d, cell_of_blk h3 0 rfl, cell_of_blk h3 1 rfl, cell_of_blk h3 2 rfl, k2⟩, i, o, hx, hy, hi, ho⟩
theorem TwoV.good {w W : World} {b7 b8 : Nat} {x y : Lts} {f g : Bool} (h : TwoV w W b7 b8 x y f g) : checkI x = 0 ∧ checkI y = 0 ∧ x.n ≤ 5 ∧ y.n ≤ 5 ∧ (f = true → accB x = true) := by
  obtain ⟨i, o, h1, h2, h3, h4⟩ := h.lx
  exact ⟨h1.good, h2.good, h1.size, h2.size, fun hf => by subst hf; exact h1.acc⟩
theorem TwoV.ex {w W W' : World} {b7 b8 : Nat} {x y : Lts} {f g : Bool} (h : TwoV w W b7 b8 x y f g) (e : Ext W W') : TwoV w W' b7 b8 x y f g := ⟨h.ext.trans e, h.bx.ext e, h.bz.ext e, h.lx⟩
end Go.Proofs.YtamodjlifpjaoaaDoor
