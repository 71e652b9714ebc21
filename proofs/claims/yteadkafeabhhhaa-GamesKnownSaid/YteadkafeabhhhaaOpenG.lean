/- Values of type G, read as data. -/
import Derived.Test.YteadkafeabhhhaaH2
import Derived.ProofKit
import Derived.Carry
import Derived.OpenShut
namespace Go.Proofs.Yteadkafeabhhhaa
open Go.ChangeShapes Go.WideShapes Go.ChangeAt Go.RowKit
set_option linter.unusedVariables false
set_option linter.unusedSimpArgs false

theorem Try.own : ownKnob Try.prog.godebug = none := by kernel_rfl
theorem Try.laidOut : laidOutB Try.prog = true := by kernel_rfl

theorem array5 {α : Type} {cs : Array α} (h : cs.size = 5) : ∃ c0 c1 c2 c3 c4, cs = #[c0, c1, c2, c3, c4] := by
  obtain ⟨l⟩ := cs
  match l, h with
  | [c0, c1, c2, c3, c4], _ => exact ⟨c0, c1, c2, c3, c4, rfl⟩
theorem list5 {α : Type} {l : List α} {n : Nat} (h : l.length = n) (hn : n = 5) : ∃ c0 c1 c2 c3 c4, l = [c0, c1, c2, c3, c4] := by
  subst hn
  match l, h with
  | [c0, c1, c2, c3, c4], _ => exact ⟨c0, c1, c2, c3, c4, rfl⟩
section
variable {H : Type} {enc : TypeId × Value → H}
/-- A value of type M, read as data: a raw machine. -/
theorem open_raw0 {W : World} {c0 c1 c2 c3 c4 : Value} {d : DataW H} {p : List MemPlace} (h : DataW.Trod enc Try.prog W 0 (fun _ => true) true 24 (.agg #[c0, c1, c2, c3, c4]) d p) :
    (∃ r, RawV W (.agg #[c0, c1, c2, c3, c4]) r) ∧ ∀ x ∈ p, x.block < W.heap.size := by
  obtain ⟨fuel, hf⟩ := h
  obtain ⟨xs, n, _, hx, hlen, hxl, hfs⟩ := DataW.trod_struct Try.underlying24 hf
  obtain ⟨y0, y1, y2, y3, y4, rfl⟩ := list5 (n := 5) hxl rfl
  have k5 : Try.prog.cellsOf 5 = 1 := by kernel_rfl
  have k4 : Try.prog.cellsOf 4 = 1 := by kernel_rfl
  have k22 : Try.prog.cellsOf 22 = 1 := by kernel_rfl
  have k92 : Try.prog.cellsOf 92 = 1 := by kernel_rfl
  have h0 : DataW.trod enc Try.prog W 0 (fun _ => true) true n 5 [c0] = some y0 := by simpa [k5, Value.cells] using hfs 0 _ rfl
  have h1 : DataW.trod enc Try.prog W 0 (fun _ => true) true n 5 [c1] = some y1 := by simpa [k5, Value.cells] using hfs 1 _ rfl
  have h2 : DataW.trod enc Try.prog W 0 (fun _ => true) true n 5 [c2] = some y2 := by simpa [k5, Value.cells] using hfs 2 _ rfl
  have h3 : DataW.trod enc Try.prog W 0 (fun _ => true) true n 4 [c3] = some y3 := by simpa [k4, Value.cells] using hfs 3 _ rfl
  have h4 : DataW.trod enc Try.prog W 0 (fun _ => true) true n 22 [c4] = some y4 := by simpa [k22, Value.cells] using hfs 4 _ rfl
  obtain ⟨a0, e0, rfl, w0⟩ := DataW.trod_int Try.underlying5 h0
  obtain ⟨a1, e1, rfl, w1⟩ := DataW.trod_int Try.underlying5 h1
  obtain ⟨a2, e2, rfl, w2⟩ := DataW.trod_int Try.underlying5 h2
  obtain ⟨a3, e3, rfl⟩ := DataW.trod_bool Try.underlying4 h3
  cases e0; cases e1; cases e2; cases e3
  clear hfs hf h0 h1 h2 h3
  simp only [Prod.mk.injEq] at hx
  obtain ⟨rfl, rfl⟩ := hx
  have u8 : ∀ a : Int, (Lit.int .u8 a).wf = true → ∃ k : Nat, a = k ∧ k < 256 := fun a h => by
    have := bounds_u8 h
    exact ⟨a.toNat, by omega, by omega⟩
  obtain ⟨n0, rfl, l0⟩ := u8 a0 w0
  obtain ⟨b1, rfl, l1⟩ := u8 a1 w1
  obtain ⟨b2, rfl, l2⟩ := u8 a2 w2
  rcases open_ints Try.underlying22 Try.underlying92 k92 h4 with ⟨e4, rfl⟩ | ⟨a, len, cap, zs, e4, hb, hl, hm, hz, rfl, hcell, hwf⟩
  · cases e4
    refine ⟨⟨⟨n0, b1, b2, a3, []⟩, _, 0, rfl, ⟨none, rfl, Cells.nil _ _, Nat.le_refl _, by simp, by simp⟩, l0, l1, l2⟩, ?_⟩
    intro x hx
    simp at hx
  · cases e4
    simp only [if_true] at hz
    have hget : ∀ i, i < len → W.cell? (a.add i) = some (.int .u16 (zs.getD i 0)) := fun i hi => hcell i (by omega)
    have hbd : ∀ x ∈ zs, 0 ≤ x ∧ x ≤ 65535 := fun x hx => bounds_u16 (hwf x hx)
    refine ⟨⟨⟨n0, b1, b2, a3, (zs.take len).map Int.toNat⟩, _, cap, rfl, ⟨some a, ?_, ?_, ?_, ?_, ?_⟩, l0, l1, l2⟩, ?_⟩
    · simp; omega
    · intro hpos
      have hlen0 : 0 < len := by simp at hpos; omega
      obtain ⟨ab, ao, asp⟩ := a
      have h00 := hget 0 hlen0
      have hsp : asp = none := by
        cases asp with
        | none => rfl
        | some q =>
          simp only [Addr.add, World.cell?] at h00
          split at h00 <;> simp at h00
      subst hsp
      refine ⟨ab, ao, rfl, World.block_lt_of_cell? _ _ h00, fun j u hu => ?_⟩
      have hj : j < len := by have := (List.getElem?_eq_some_iff.1 hu).1; simp at this; omega
      have := hget j hj
      rw [Addr.add_lit] at this
      rw [this]
      have hjz : j < zs.length := by omega
      have hb := hbd _ (List.getElem_mem hjz)
      simp [List.getElem?_map, List.getElem?_take, hj, hjz, List.getElem?_eq_getElem hjz] at hu
      rw [← hu]
      simp [List.getD, hjz]
      omega
    · simp; omega
    · simp; omega
    · intro x hx
      obtain ⟨y, hy, rfl⟩ := List.mem_map.1 hx
      have := hbd y (List.mem_of_mem_take hy)
      omega
    · intro x hx
      simp only [List.flatMap_cons, List.flatMap_nil, List.nil_append, List.append_nil] at hx
      obtain ⟨i, hi, rfl⟩ := MemPlace.mem_row.1 hx
      have := World.block_lt_of_cell? _ _ (hcell i hi)
      have hab : (a.add i).block = a.block := by unfold Addr.add; split <;> rfl
      rw [hab] at this
      exact this
theorem array7 {α : Type} {cs : Array α} (h : cs.size = 7) : ∃ c0 c1 c2 c3 c4 c5 c6, cs = #[c0, c1, c2, c3, c4, c5, c6] := by
  obtain ⟨l⟩ := cs
  match l, h with
  | [c0, c1, c2, c3, c4, c5, c6], _ => exact ⟨c0, c1, c2, c3, c4, c5, c6, rfl⟩
theorem list3 {α : Type} {l : List α} {n : Nat} (h : l.length = n) (hn : n = 3) : ∃ c0 c1 c2, l = [c0, c1, c2] := by
  subst hn
  match l, h with
  | [c0, c1, c2], _ => exact ⟨c0, c1, c2, rfl⟩
/-- A value of type G, read as data. -/
theorem open_rawG {b0 : Nat} {W : World} {v : Value} {d : DataW H} {p : List MemPlace} (hv : Value.okWide Try.prog W .any b0 26 v) (h : DataW.Trod enc Try.prog W 0 (fun _ => true) true 26 v d p) :
    (∃ r, RawGV W v r) ∧ ∀ x ∈ p, x.block < W.heap.size := by
  obtain ⟨cs, rfl, hsz⟩ := okWide_struct Try.underlying26 hv
  have hc7 : Try.prog.cellsOf 26 = 7 := by kernel_rfl
  obtain ⟨fuel, hf⟩ := h
  obtain ⟨xs, n, _, hx, hlen, hxl, hfs⟩ := DataW.trod_struct Try.underlying26 hf
  have hc : cs.size = 7 := hsz.trans hc7
  obtain ⟨c0, c1, c2, c3, c4, c5, c6, rfl⟩ := array7 hc
  obtain ⟨y0, y1, y2, rfl⟩ := list3 (n := 3) hxl rfl
  have k24 : Try.prog.cellsOf 24 = 5 := by kernel_rfl
  have k5 : Try.prog.cellsOf 5 = 1 := by kernel_rfl
  have h0 : DataW.trod enc Try.prog W 0 (fun _ => true) true n 24 [c0, c1, c2, c3, c4] = some y0 := by simpa [k24, Value.cells] using hfs 0 _ rfl
  have h1 : DataW.trod enc Try.prog W 0 (fun _ => true) true n 5 [c5] = some y1 := by simpa [k5, Value.cells] using hfs 1 _ rfl
  have h2 : DataW.trod enc Try.prog W 0 (fun _ => true) true n 5 [c6] = some y2 := by simpa [k5, Value.cells] using hfs 2 _ rfl
  obtain ⟨a1, e1, rfl, w1⟩ := DataW.trod_int Try.underlying5 h1
  obtain ⟨a2, e2, rfl, w2⟩ := DataW.trod_int Try.underlying5 h2
  cases e1; cases e2
  obtain ⟨⟨r, ev, c, hev, hu, l0, l1, l2⟩, hp0⟩ := open_raw0 (enc := enc) (W := W) (c0 := c0) (c1 := c1) (c2 := c2) (c3 := c3) (c4 := c4) (d := y0.1) (p := y0.2) ⟨n, h0⟩
  have u8 : ∀ a : Int, (Lit.int .u8 a).wf = true → ∃ k : Nat, a = k ∧ k < 256 := fun a h => by
    have := bounds_u8 h
    exact ⟨a.toNat, by omega, by omega⟩
  obtain ⟨o1, rfl, l3⟩ := u8 a1 w1
  obtain ⟨o2, rfl, l4⟩ := u8 a2 w2
  cases hev
  simp only [Prod.mk.injEq] at hx
  obtain ⟨rfl, rfl⟩ := hx
  refine ⟨⟨⟨r, o1, o2⟩, _, c, rfl, hu, l0, l1, l2, l3, l4⟩, fun x hx => ?_⟩
  simp only [List.flatMap_cons, List.flatMap_nil, List.append_nil] at hx
  exact hp0 x (by simpa using hx)
end


end Go.Proofs.Yteadkafeabhhhaa
