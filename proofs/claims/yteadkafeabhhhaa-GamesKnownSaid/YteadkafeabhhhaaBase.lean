/- Words for memory, used by all texts of this family: cells that a slice shows, a world that has only grown. -/
import Derived.Test.YteadkafeabhhhaaRows
import Derived.Test.YteadkafeabhhhaaReg
import Derived.WalkKit
import Derived.WalkSpells
import Derived.WalkLawsBesides
import Derived.BigQuiet
import Derived.Deep.QuietTactic
import Derived.Deep.RegionHeld3
import Derived.Deep.DeepCutAuto
import Derived.Lib.Hide
import Derived.Deep.LoopGhost
namespace Go.Proofs.Yteadkafeabhhhaa
open Go.RowKit
set_option linter.unusedVariables false
set_option linter.unusedSimpArgs false

theorem Ext.cell {w w' : World} (h : Ext w w') {p : Addr} {v : Value} (hp : w.cell? p = some v) : w'.cell? p = some v := cell_later h hp
theorem Ext.alloc {w w' : World} (h : Ext w w') (o : Obj) : Ext w (w'.alloc o) := Below.alloc h h.size o
theorem Ext.drew {w w' : World} (h : Ext w w') : Ext w w'.drew := Below.drew h
theorem Ext.drewN {w w' : World} (h : Ext w w') (n : Nat) : Ext w (w'.drewN n) := h.trans ⟨rfl, rfl, rfl, Nat.le_refl _, fun _ _ => rfl⟩
theorem Ext.setCell {w w' : World} (h : Ext w w') {p : Addr} (hp : w.heap.size ≤ p.block) (u : Value) : Ext w (w'.setCell p u) := Below.setCell h hp u

theorem ext_refl_iff (w : World) : Ext w w ↔ True := ⟨fun _ => trivial, fun _ => Ext.refl w⟩
theorem ext_alloc_iff {a w : World} (h : Ext a w) (o : Obj) : Ext a (w.alloc o) ↔ True := ⟨fun _ => trivial, fun _ => h.alloc o⟩
theorem ext_drew_iff {a w : World} (h : Ext a w) : Ext a w.drew ↔ True := ⟨fun _ => trivial, fun _ => h.drew⟩
theorem ext_drewN_iff {a w : World} (h : Ext a w) (n : Nat) : Ext a (w.drewN n) ↔ True := ⟨fun _ => trivial, fun _ => h.drewN n⟩

/-- The cells cs lie at the address A. -/
def Cells (w : World) (A : Option Addr) (cs : List Value) : Prop :=
  0 < cs.length → ∃ b o, A = some ⟨b, o, none⟩ ∧ b < w.heap.size ∧ ∀ j u, cs[j]? = some u → w.cell? ⟨b, o + j, none⟩ = some u
theorem Cells.ext {w w' : World} {A : Option Addr} {cs : List Value} (h : Cells w A cs) (e : Ext w w') : Cells w' A cs := fun hn => by
  obtain ⟨b, o, hA, hb, hc⟩ := h hn
  exact ⟨b, o, hA, Nat.lt_of_lt_of_le hb e.size, fun j u hu => e.cell (hc j u hu)⟩
theorem Cells.nil (w : World) (A : Option Addr) : Cells w A [] := fun h => absurd h (by simp)

def lenMax : Nat := 9223372036854775807

/-- A slice value of the numbers xs, of capacity c. -/
def IntsC (w : World) (v : Value) (xs : List Int) (c : Nat) : Prop := ∃ A, v = .slice A xs.length c ∧ Cells w A (xs.map (.int .i64)) ∧ xs.length ≤ c ∧ xs.length ≤ lenMax
def edgeCells (e : Int × Int) : List Value := [.int .i64 e.1, .int .i64 e.2]
def EdgesC (w : World) (v : Value) (es : List (Int × Int)) (c : Nat) : Prop := ∃ A, v = .slice A es.length c ∧ Cells w A (es.flatMap edgeCells) ∧ es.length ≤ c ∧ es.length ≤ lenMax
def RowsC (w : World) (v : Value) (rows : List (List (Int × Int))) (c : Nat) : Prop :=
  ∃ A vs, v = .slice A rows.length c ∧ Cells w A vs ∧ vs.length = rows.length ∧ (∀ (i : Nat) (u : Value) (es : List (Int × Int)), vs[i]? = some u → rows[i]? = some es → ∃ c', EdgesC w u es c') ∧ rows.length ≤ c ∧ rows.length ≤ lenMax
structure Mach where
  ins : Int
  outs : Int
  rows : List (List (Int × Int))
def MachV (w : World) (v : Value) (m : Mach) : Prop := ∃ rv c, v = .agg #[.int .i64 m.ins, .int .i64 m.outs, rv] ∧ RowsC w rv m.rows c

theorem IntsC.ext {w w' : World} {v : Value} {xs : List Int} {c : Nat} (h : IntsC w v xs c) (e : Ext w w') : IntsC w' v xs c := by
  obtain ⟨A, hv, hc, hr⟩ := h
  exact ⟨A, hv, hc.ext e, hr⟩
theorem EdgesC.ext {w w' : World} {v : Value} {xs : List (Int × Int)} {c : Nat} (h : EdgesC w v xs c) (e : Ext w w') : EdgesC w' v xs c := by
  obtain ⟨A, hv, hc, hr⟩ := h
  exact ⟨A, hv, hc.ext e, hr⟩
theorem RowsC.ext {w w' : World} {v : Value} {rows : List (List (Int × Int))} {c : Nat} (h : RowsC w v rows c) (e : Ext w w') : RowsC w' v rows c := by
  obtain ⟨A, vs, hv, hc, hl, hr, hb⟩ := h
  exact ⟨A, vs, hv, hc.ext e, hl, fun i u es hu hes => by
    obtain ⟨c', h'⟩ := hr i u es hu hes
    exact ⟨c', h'.ext e⟩, hb⟩
theorem MachV.ext {w w' : World} {v : Value} {m : Mach} (h : MachV w v m) (e : Ext w w') : MachV w' v m := by
  obtain ⟨rv, c, hv, hr⟩ := h
  exact ⟨rv, c, hv, hr.ext e⟩

/-- A machine in a block of its own. -/
def MBox (w : World) (b : Nat) (m : Mach) : Prop := ∃ rv c, b < w.heap.size ∧ w.cell? ⟨b, 0, none⟩ = some (.int .i64 m.ins) ∧ w.cell? ⟨b, 1, none⟩ = some (.int .i64 m.outs) ∧ w.cell? ⟨b, 2, none⟩ = some rv ∧ RowsC w rv m.rows c
theorem MBox.ext {w w' : World} {b : Nat} {m : Mach} (h : MBox w b m) (e : Ext w w') : MBox w' b m := by
  obtain ⟨rv, c, hb, h0, h1, h2, hr⟩ := h
  exact ⟨rv, c, Nat.lt_of_lt_of_le hb e.size, e.cell h0, e.cell h1, e.cell h2, hr.ext e⟩
theorem Cells.at_edge {w : World} {A : Option Addr} {xs : List (Int × Int)} (h : Cells w A (xs.flatMap edgeCells)) {k : Nat} (hk : k < xs.length) :
    ∃ b o, A = some ⟨b, o, none⟩ ∧ b < w.heap.size ∧ w.cell? ⟨b, o + k * 2, none⟩ = some (.int .i64 xs[k].1) ∧ w.cell? ⟨b, o + k * 2 + 1, none⟩ = some (.int .i64 xs[k].2) := by
  have hlen : ∀ ys : List (Int × Int), (ys.flatMap edgeCells).length = ys.length * 2 := fun ys => by
    induction ys with
    | nil => rfl
    | cons y r ih => simp [List.flatMap_cons, edgeCells, ih]; omega
  have hget : ∀ (ys : List (Int × Int)) (k : Nat) (hk : k < ys.length), (ys.flatMap edgeCells)[k * 2]? = some (.int .i64 ys[k].1) ∧ (ys.flatMap edgeCells)[k * 2 + 1]? = some (.int .i64 ys[k].2) := fun ys => by
    induction ys with
    | nil => intro k hk; simp at hk
    | cons y r ih =>
      intro k hk
      cases k with
      | zero => simp [List.flatMap_cons, edgeCells]
      | succ k =>
        have := ih k (by simpa using hk)
        rw [show (k + 1) * 2 = k * 2 + 1 + 1 by omega]
        simpa [List.flatMap_cons, edgeCells] using this
  obtain ⟨b, o, hA, hb, hc⟩ := h (by rw [hlen]; omega)
  exact ⟨b, o, hA, hb, hc _ _ (hget xs k hk).1, by rw [Nat.add_assoc]; exact hc _ _ (hget xs k hk).2⟩
theorem RowsC.at_ {w : World} {v : Value} {rows : List (List (Int × Int))} {c : Nat} (h : RowsC w v rows c) {k : Nat} (hk : k < rows.length) :
    ∃ b o u c', v = .slice (some ⟨b, o, none⟩) rows.length c ∧ b < w.heap.size ∧ w.cell? ⟨b, o + k, none⟩ = some u ∧ EdgesC w u rows[k] c' := by
  obtain ⟨A, vs, rfl, hc, hl, hr, _⟩ := h
  obtain ⟨b, o, rfl, hb, hcc⟩ := hc (by omega)
  have hk' : k < vs.length := by omega
  obtain ⟨c', he⟩ := hr k vs[k] rows[k] (List.getElem?_eq_getElem hk') (List.getElem?_eq_getElem hk)
  exact ⟨b, o, vs[k], c', rfl, hb, hcc k _ (List.getElem?_eq_getElem hk'), he⟩
theorem wp_named {P : Program} {c : Code} {Q : Exit → Act → World → Prop} {a : Act} {w : World} (h : ∀ W, W = w → c.wp P Q a W) : c.wp P Q a w := h w rfl
theorem ownsRow_ext {w w' : World} {base : Nat} {e : TypeId} {size : Nat} {v : Value} {n : Nat} {xs : List Value} (h : w.ownsRow base e size v n xs) (hE : Ext w w') : w'.ownsRow base e size v n xs := by
  refine ⟨h.1, ?_⟩
  rcases h.2 with hn | ⟨g, cap, cur, rfl, hb, hgg, rest⟩
  · exact .inl hn
  · refine .inr ⟨g, cap, cur, rfl, hb, ?_, rest⟩
    rw [hE.block g (Array.getElem?_eq_some_iff.1 hgg).1]
    exact hgg
theorem ext_grown {W1 wr w1 : World} {base : Nat} {e : TypeId} {size : Nat} {v : Value} {n : Nat} {xs : List Value} (hE : Ext W1 wr) (hown : wr.ownsRow base e size v n xs) (hb : W1.heap.size ≤ base) (hg : wr.grownBy w1 v.ownBlock) : Ext W1 w1 :=
  Below.grown hE hg hE.size (fun k hk => Nat.le_trans hb (hown.lt k hk).1)
theorem cells_of_owns {w : World} {base : Nat} {e : TypeId} {size : Nat} {v : Value} {n : Nat} {xs : List Value} (h : w.ownsRow base e size v n xs) : ∃ A c, v = .slice A n c ∧ n ≤ c ∧ Cells w A xs := by
  have h0 := h
  rcases h.2 with ⟨rfl, rfl⟩ | ⟨g, cap, cur, rfl, hb, hgg, hnc, _⟩
  · refine ⟨none, 0, rfl, Nat.le_refl _, ?_⟩
    have : xs = [] := List.eq_nil_of_length_eq_zero (by simpa using h.1)
    subst this
    exact Cells.nil _ _
  · refine ⟨_, cap, rfl, hnc, fun _ => ⟨g, 0, rfl, (Array.getElem?_eq_some_iff.1 hgg).1, fun j u hu => ?_⟩⟩
    have := h0.cells (g := g) rfl j u hu
    rw [Addr.add_lit] at this
    simpa using this
theorem ints_of_owns {w : World} {base : Nat} {e : TypeId} {v : Value} {xs : List Int} (h : w.ownsRow base e 1 v xs.length (xs.map (.int .i64))) (hl : xs.length ≤ lenMax) : ∃ c, IntsC w v xs c := by
  obtain ⟨A, c, rfl, hn, hc⟩ := cells_of_owns h
  exact ⟨c, A, rfl, hc, hn, hl⟩
/-- A pointer to a new block that holds cs. -/
def Fresh (N : Nat) (cs : Array Value) (t : TypeId) (v : Value) (w : World) : Prop := ∃ b, v = .pointer (some ⟨b, 0, none⟩) ∧ N ≤ b ∧ w.heap[b]? = some (.cells cs t (0, 0))
theorem heap_ext {w w' : World} (hE : Ext w w') {b : Nat} {o : Obj} (h : w.heap[b]? = some o) : w'.heap[b]? = some o := by
  rw [hE.block b (lt_of_block h)]; exact h
theorem stays_fresh (N : Nat) (cs : Array Value) (t : TypeId) : Stays Ext (Fresh N cs t) := fun v w w' hE ⟨b, hv, hb, h⟩ => ⟨b, hv, hb, heap_ext hE h⟩
theorem fresh_alloc (N : Nat) (cs : Array Value) (t : TypeId) (w : World) (h : N ≤ w.heap.size) : Ext w (w.alloc (.cells cs t)) ∧ Fresh N cs t (.pointer (some ⟨w.heap.size, 0, none⟩)) (w.alloc (.cells cs t)) :=
  ⟨(Ext.refl _).alloc _, w.heap.size, rfl, h, heap_alloc_new w _⟩
theorem cell_of_blk {w : World} {b : Nat} {cs : Array Value} {t : TypeId} (h : w.heap[b]? = some (.cells cs t (0, 0))) (i : Nat) {u : Value} (hu : cs[i]? = some u) : w.cell? ⟨b, i, none⟩ = some u := (cell_of_row w b i cs t (0, 0) h).trans hu
theorem free_of_blk {w : World} {b : Nat} {cs : Array Value} {t : TypeId} (h : w.heap[b]? = some (.cells cs t (0, 0))) (i : Nat) : w.frozen? ⟨b, i, none⟩ = false := by simp [World.frozen?, h]
theorem Cells.at_int {w : World} {A : Option Addr} {xs : List Int} (h : Cells w A (xs.map (.int .i64))) {k : Nat} (hk : k < xs.length) :
    ∃ b o, A = some ⟨b, o, none⟩ ∧ b < w.heap.size ∧ w.cell? ⟨b, o + k, none⟩ = some (.int .i64 xs[k]) := by
  obtain ⟨b, o, hA, hb, hc⟩ := h (by simp; omega)
  exact ⟨b, o, hA, hb, hc k _ (by simp [hk])⟩
end Go.Proofs.Yteadkafeabhhhaa
