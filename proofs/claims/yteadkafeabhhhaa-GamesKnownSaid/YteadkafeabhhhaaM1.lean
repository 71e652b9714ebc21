/- gauntletlaw04.M.Of. -/
import Derived.Test.YteadkafeabhhhaaOwn
import Derived.Maps.OwnSet
import Derived.DeepKeys4
import Derived.Deep.RegionLaw
namespace Go.Proofs.Yteadkafeabhhhaa
open Go.RowKit Go.Maps
set_option linter.unusedVariables false
set_option linter.unusedSimpArgs false
attribute [local go_sem] Oper.quietV quietV Oper.gives givesV ext_refl_iff ext_alloc_iff ext_drew_iff ext_drewN_iff

/-- A slice value of 16-bit numbers. -/
def U16sC (w : World) (v : Value) (xs : List Nat) (c : Nat) : Prop := ∃ A, v = .slice A xs.length c ∧ Cells w A (xs.map (fun (x : Nat) => Value.int .u16 (x : Int))) ∧ xs.length ≤ c ∧ xs.length ≤ maxLen ∧ ∀ x ∈ xs, x < 65536

structure Raw where
  states : Nat
  inputs : Nat
  outputs : Nat
  part : Bool
  edges : List Nat
def Raw.n (r : Raw) : Nat := 1 + r.states % 6
def Raw.ins (r : Raw) : Nat := 1 + r.inputs % 3
def Raw.outs (r : Raw) : Nat := 1 + r.outputs % 3
def Raw.edge (r : Raw) (s i : Nat) : Int × Int :=
  let v := r.edges.getD (s * r.ins + i) 0
  if r.part && v % 4 == 3 then (-1, -1) else (((v / 4 % r.n : Nat) : Int), ((v / 4 / r.n % r.outs : Nat) : Int))
def Raw.row (r : Raw) (s k : Nat) : List (Int × Int) := (List.range k).map (r.edge s)
def Raw.mach (r : Raw) : Mach := { ins := r.ins, outs := r.outs, rows := (List.range r.n).map (fun s => r.row s r.ins) }
/-- The value of a raw machine. -/
def RawV (w : World) (v : Value) (r : Raw) : Prop := ∃ ev c, v = .agg #[.int .u8 r.states, .int .u8 r.inputs, .int .u8 r.outputs, .bool r.part, ev] ∧ U16sC w ev r.edges c ∧ r.states < 256 ∧ r.inputs < 256 ∧ r.outputs < 256

theorem own_ne {w : World} {b1 b2 e1 e2 s1 s2 : Nat} {u v : Value} {n1 n2 : Nat} {xs ys : List Value} (hu : w.ownsRow b1 e1 s1 u n1 xs) (hv : w.ownsRow b2 e2 s2 v n2 ys) (h : e1 ≠ e2) : u.ownBlock = none ∨ u.ownBlock ≠ v.ownBlock := by
  rcases hu.2 with ⟨rfl, rfl⟩ | ⟨g, cap, cur, rfl, hb, hgg, _⟩
  · exact .inl rfl
  · rcases hv.2 with ⟨rfl, rfl⟩ | ⟨g', cap', cur', rfl, hb', hgg', _⟩
    · exact .inr (by simp [Value.ownBlock])
    · refine .inr (fun e => ?_)
      simp only [Value.ownBlock, Option.some.injEq] at e
      subst e
      rw [hgg] at hgg'
      cases hgg'
      exact h rfl

theorem step_append_own {P : Program} {ops : Array Oper} {o : Oper} {a : Act} {w : World} {K : Act → World → Prop} {Q : Exit → Act → World → Prop} {E : Prop}
    (hg : o.guard = none) (s x : Operand) (t : TypeId) (ho : o.op = .call { callee := .builtin .append, args := #[s, x], argTypes := #[t, t] })
    (base : Nat) (e : TypeId) (i : TypeInfo) (z : Value) (size bytes : Nat) (ht : P.underlying t = some (.slice e)) (hi : P.info? e = some i) (hz : i.zero = some z)
    (hsize : i.size = size) (hby : i.bytes = bytes) (hzs : z.cells.size = size) (hsz : 0 < size)
    (v : Value) (n : Nat) (xs : List Value) (hs : a.eval s = v) (hown : w.ownsRow base e size v n xs)
    (ad : Addr) (m c : Nat) (news : List Value) (hx : a.eval x = .slice (some ad) m c) (hl : news.length = m * size) (hnews : ∀ j u, news[j]? = some u → w.cell? (ad.add j) = some u) (h1 : ∀ u ∈ news, u.oneCell' = true)
    (h63 : n + m ≤ maxLen) (hbytes : (n + m) * bytes ≤ 140737488355328) (hbase : base ≤ w.heap.size)
    (h : ∀ v' w', w'.ownsRow base e size v' (n + m) (xs ++ news) → w.grownBy w' v.ownBlock → (v' = .slice none 0 0 ↔ v = .slice none 0 0 ∧ m = 0) → K (a.put o.dst v') w') :
    if Region.wanted o (yielded ops a.tmps) = true then Oper.wp P o a w K Q else E := by
  have hw : Region.wanted o (yielded ops a.tmps) = true := by simp [Region.wanted, hg]
  rw [if_pos hw]
  exact wp_append_own w s x t ho base e i z size bytes ht hi hz hsize hby hzs hsz v n xs hs hown ad m c news hx hl hnews h1 h63 hbytes hbase h

theorem cells_newM (W : World) (cs : Array Value) (t : TypeId) : ∀ (j : Nat) (u : Value), cs.toList[j]? = some u → (W.alloc (.cells cs t)).cell? ((⟨W.heap.size, 0, none⟩ : Addr).add j) = some u := by
  intro j u h
  rw [Addr.add_lit]
  have hb : (W.alloc (.cells cs t)).heap[W.heap.size]? = some (.cells cs t) := heap_alloc_new W _
  rw [Nat.zero_add]
  refine (cell_of_row _ _ j cs t (0, 0) hb).trans ?_
  simpa using h

theorem edges_len (es : List (Int × Int)) : (es.flatMap edgeCells).length = es.length * 2 := by
  induction es with
  | nil => rfl
  | cons y r ih => simp [List.flatMap_cons, edgeCells, ih]; omega
theorem edges_one (es : List (Int × Int)) : ∀ u ∈ es.flatMap edgeCells, u.oneCell' = true := by
  intro u hu
  obtain ⟨e, _, he⟩ := List.mem_flatMap.1 hu
  simp only [edgeCells, List.mem_cons, List.not_mem_nil, or_false] at he
  rcases he with rfl | rfl <;> rfl

theorem edge_info : (Try.prog.info? 52).map (fun i => (i.zero, i.size, i.bytes)) = some (some (.agg #[.int .i64 0, .int .i64 0]), 2, 16) := by kernel_rfl
theorem row_info : (Try.prog.info? 53).map (fun i => (i.zero, i.size, i.bytes)) = some (some (.slice none 0 0), 1, 24) := by kernel_rfl
theorem row_succ (r : Raw) (s k : Nat) : (r.row s (k + 1)).flatMap edgeCells = (r.row s k).flatMap edgeCells ++ edgeCells (r.edge s k) := by
  simp [Raw.row, List.range_succ]

theorem wrapN (y : Int) (h0 : -9223372036854775808 ≤ y) (h1 : y < 9223372036854775808) : IntKind.i64.wrap y = y := by
  rw [IntKind.wrap_i64]; omega
theorem quoN (x n : Nat) (hx : x < 65536) : (IntKind.i64.wrap ((x : Int) / 4)).tmod (n : Int) = ((x / 4 % n : Nat) : Int) := by
  rw [wrapN _ (by omega) (by omega), Int.tmod_eq_emod_of_nonneg (by omega)]
  push_cast; rfl
theorem remN (x n o : Nat) (hx : x < 65536) : (IntKind.i64.wrap ((IntKind.i64.wrap ((x : Int) / 4)).tdiv (n : Int))).tmod (o : Int) = ((x / 4 / n % o : Nat) : Int) := by
  obtain ⟨q, hq⟩ : ∃ q : Nat, q = x / 4 / n := ⟨_, rfl⟩
  have h1 : ((x : Int) / 4).tdiv (n : Int) = (q : Int) := by
    rw [Int.tdiv_eq_ediv_of_nonneg (by omega), hq]; push_cast; rfl
  have h2 : q ≤ x := hq ▸ Nat.le_trans (Nat.div_le_self _ _) (Nat.div_le_self _ _)
  rw [wrapN ((x : Int) / 4) (by omega) (by omega), h1, wrapN (q : Int) (by omega) (by omega), Int.tmod_eq_emod_of_nonneg (by omega), ← hq]
  push_cast; rfl
theorem ownsRow_posM {W : World} {base : Nat} {e : TypeId} {size : Nat} {v : Value} {k : Nat} {xs : List Value} (h : W.ownsRow base e size v k xs) (hk : 0 < k) : ∃ g cap, v = .slice (some ⟨g, 0, none⟩) k cap := by
  rcases h.2 with ⟨_, h0⟩ | ⟨g, cap, _, rfl, _⟩
  · omega
  · exact ⟨g, cap, rfl⟩

/-- A machine whose memory lies at B or beyond: it stands wherever that memory is as it was. -/
def MachN (B : Nat) (w : World) (v : Value) (m : Mach) : Prop := ∀ w' : World, (∀ b, B ≤ b → b < w.heap.size → w'.heap[b]? = w.heap[b]?) → MachV w' v m
theorem MachN.self {B : Nat} {w : World} {v : Value} {m : Mach} (h : MachN B w v m) : MachV w v m := h w (fun _ _ _ => rfl)

/-- The world of M.Of behind s rows. -/
structure OfRel (w : World) (r : Raw) (A : Option Addr) (c : Nat) (v : Value) (s : Nat) (W : World) : Prop where
  ext : Ext w W
  r0 : W.cell? ⟨w.heap.size, 0, none⟩ = some (.int .u8 r.states)
  r3 : W.cell? ⟨w.heap.size, 3, none⟩ = some (.bool r.part)
  r4 : W.cell? ⟨w.heap.size, 4, none⟩ = some (.slice A r.edges.length c)
  z0 : ∃ u, W.cell? ⟨w.heap.size + 1, 0, none⟩ = some u
  z1 : ∃ u, W.cell? ⟨w.heap.size + 1, 1, none⟩ = some u
  z2 : ∃ u, W.cell? ⟨w.heap.size + 1, 2, none⟩ = some u
  y0 : W.frozen? ⟨w.heap.size + 1, 0, none⟩ = false
  y1 : W.frozen? ⟨w.heap.size + 1, 1, none⟩ = false
  y2 : W.frozen? ⟨w.heap.size + 1, 2, none⟩ = false
  m0 : W.cell? ⟨w.heap.size + 1 + 1, 0, none⟩ = some (.int .i64 r.ins)
  m1 : W.cell? ⟨w.heap.size + 1 + 1, 1, none⟩ = some (.int .i64 r.outs)
  m2 : W.cell? ⟨w.heap.size + 1 + 1, 2, none⟩ = some v
  x2 : W.frozen? ⟨w.heap.size + 1 + 1, 2, none⟩ = false
  rows : ∃ vs : List Value, W.ownsRow (w.heap.size + 3) 53 1 v s vs ∧ vs.length = s ∧ ∀ (j : Nat) (u : Value), vs[j]? = some u → W.ownsRow (w.heap.size + 3) 52 2 u r.ins ((r.row j r.ins).flatMap edgeCells)

theorem own_base {w : World} {b1 b2 e s1 : Nat} {u : Value} {n1 : Nat} {xs : List Value} (h : w.ownsRow b1 e s1 u n1 xs) (hb : b2 ≤ b1) : w.ownsRow b2 e s1 u n1 xs := by
  refine ⟨h.1, ?_⟩
  rcases h.2 with hn | ⟨g, cap, cur, rfl, hg, rest⟩
  · exact .inl hn
  · exact .inr ⟨g, cap, cur, rfl, Nat.le_trans hb hg, rest⟩
theorem cell_setCell_off (w : World) (b i j : Nat) (v : Value) (h : i ≠ j) : (w.setCell ⟨b, j, none⟩ v).cell? ⟨b, i, none⟩ = w.cell? ⟨b, i, none⟩ := by
  simp [go_sem, h]

theorem edges_of_owns {w : World} {base e : Nat} {v : Value} {es : List (Int × Int)} {n : Nat} (h : w.ownsRow base e 2 v n (es.flatMap edgeCells)) (hn : es.length = n) (hl : n ≤ 1000) : ∃ c, EdgesC w v es c := by
  subst hn
  obtain ⟨A, c, rfl, hc, hcs⟩ := cells_of_owns h
  exact ⟨c, A, rfl, hcs, hc, by unfold lenMax; omega⟩
theorem rows_of_owns {w : World} {b1 b2 e1 e2 : Nat} {v : Value} {rows : List (List (Int × Int))} {n : Nat} {vs : List Value} (h : w.ownsRow b1 e1 1 v n vs) (hvl : vs.length = n) (hn : rows.length = n) (hl : n ≤ 1000) {m : Nat} (hm : m ≤ 1000)
    (hr : ∀ (j : Nat) (u : Value) (es : List (Int × Int)), vs[j]? = some u → rows[j]? = some es → es.length = m ∧ w.ownsRow b2 e2 2 u m (es.flatMap edgeCells)) : ∃ c, RowsC w v rows c := by
  subst hn
  obtain ⟨A, c, rfl, hc, hcs⟩ := cells_of_owns h
  exact ⟨c, A, vs, rfl, hcs, hvl, fun i u es hu he => edges_of_owns (hr i u es hu he).2 (hr i u es hu he).1 hm, hc, by unfold lenMax; omega⟩

theorem OfRel.blocks {w : World} {r : Raw} {A : Option Addr} {c : Nat} {u x : Value} {s : Nat} {W2 W3 w4 : World} {o : Obj} {vs : List Value} (hE3 : Ext W2 W3) (hvo : W2.ownsRow (w.heap.size + 3) 53 1 u s vs)
    (hb : w.heap.size + 3 ≤ W2.heap.size) (hg : (W3.alloc o).grownBy w4 u.ownBlock) : ∀ b, b < w.heap.size + 3 → w4.heap[b]? = W2.heap[b]? := by
  intro b hlt
  have h1 := hE3.size
  rw [hg.block b (by simp; omega) (fun e => by have := (hvo.lt b e.symm).1; omega), Below.heap_alloc _ _ _ (by omega)]
  exact hE3.block b (by omega)

theorem OfRel.next {w : World} {r : Raw} {A : Option Addr} {c : Nat} {u v x : Value} {s : Nat} {W2 W3 w4 : World} {o : Obj} {vs : List Value} (hR : OfRel w r A c u s W2) (hE3 : Ext W2 W3)
    (hvo : W2.ownsRow (w.heap.size + 3) 53 1 u s vs) (hvl : vs.length = s) (hvr : ∀ (j : Nat) (u : Value), vs[j]? = some u → W2.ownsRow (w.heap.size + 3) 52 2 u r.ins ((r.row j r.ins).flatMap edgeCells))
    (hx : W3.ownsRow W2.heap.size 52 2 x r.ins ((r.row s r.ins).flatMap edgeCells)) (hb : w.heap.size + 3 ≤ W2.heap.size)
    (hg : (W3.alloc o).grownBy w4 u.ownBlock) (hown4 : w4.ownsRow (w.heap.size + 3) 53 1 v (s + 1) (vs ++ [x])) : OfRel w r A c v (s + 1) (w4.setCell ⟨w.heap.size + 1 + 1, 2, none⟩ v) := by
  have hblk := OfRel.blocks (w := w) (r := r) (A := A) (c := c) (x := x) hE3 hvo hb hg
  have hc : ∀ b i, b < w.heap.size + 3 → w4.cell? ⟨b, i, none⟩ = W2.cell? ⟨b, i, none⟩ := fun b i h => World.cell?_of_block (hblk b h)
  have hf : ∀ b i, b < w.heap.size + 3 → w4.frozen? ⟨b, i, none⟩ = W2.frozen? ⟨b, i, none⟩ := fun b i h => World.frozen?_of_block (hblk b h)
  have hco : ∀ b i, b < w.heap.size + 2 → (w4.setCell ⟨w.heap.size + 1 + 1, 2, none⟩ v).cell? ⟨b, i, none⟩ = W2.cell? ⟨b, i, none⟩ := fun b i h => by
    rw [World.cell?_of_block (Below.heap_setCell _ _ _ _ (by simp; omega)), hc b i (by omega)]
  have hE4 : Ext w w4 := Below.grown ((hR.ext.trans hE3).alloc _) hg ((hR.ext.trans hE3).alloc _).size (fun k hk => by have := (hvo.lt k hk).1; omega)
  have keep : ∀ (y : Value) (ys : List Value), W3.ownsRow (w.heap.size + 3) 52 2 y r.ins ys → (w4.setCell ⟨w.heap.size + 1 + 1, 2, none⟩ v).ownsRow (w.heap.size + 3) 52 2 y r.ins ys := fun y ys h => by
    refine ownsRow_setCell_below (((h.alloc o).kept hg ?_)) (by simp) _
    exact own_ne (h.alloc o) ((ownsRow_ext hvo hE3).alloc o) (by decide)
  refine ⟨hE4.setCell (by simp; omega) _, ?_, ?_, ?_, ?_, ?_, ?_, ?_, ?_, ?_, ?_, ?_, ?_, ?_, ⟨vs ++ [x], ownsRow_setCell_below hown4 (by simp) _, by simp [hvl], ?_⟩⟩
  · rw [hco _ _ (by omega)]; exact hR.r0
  · rw [hco _ _ (by omega)]; exact hR.r3
  · rw [hco _ _ (by omega)]; exact hR.r4
  · rw [hco _ _ (by omega)]; exact hR.z0
  · rw [hco _ _ (by omega)]; exact hR.z1
  · rw [hco _ _ (by omega)]; exact hR.z2
  · rw [World.frozen?_setCell, hf _ _ (by omega)]; exact hR.y0
  · rw [World.frozen?_setCell, hf _ _ (by omega)]; exact hR.y1
  · rw [World.frozen?_setCell, hf _ _ (by omega)]; exact hR.y2
  · rw [cell_setCell_off _ _ _ _ _ (by decide), hc _ _ (by omega)]; exact hR.m0
  · rw [cell_setCell_off _ _ _ _ _ (by decide), hc _ _ (by omega)]; exact hR.m1
  · exact World.cell?_setCell_same' _ _ _ (by rw [hc _ _ (by omega), hR.m2]; rfl)
  · rw [World.frozen?_setCell, hf _ _ (by omega)]; exact hR.x2
  · intro j y hj
    by_cases hjs : j < s
    · rw [List.getElem?_append_left (by omega)] at hj
      exact keep y _ (ownsRow_ext (hvr j y hj) hE3)
    · have hj2 : j = s := by
        have := (List.getElem?_eq_some_iff.1 hj).1
        simp at this; omega
      subst hj2
      rw [List.getElem?_append_right (by omega), hvl, Nat.sub_self] at hj
      cases hj
      exact keep x _ (own_base hx hb)

set_option maxRecDepth 100000 in
set_option maxHeartbeats 800000 in
theorem OfN_any (w : World) (v : Value) (r : Raw) (hr : RawV w v r) : Calls Try.prog 32 #[v] w fun e w' => (∃ mv, e = .returned mv ∧ MachN w.heap.size w' mv r.mach) ∧ Ext w w' := by
  obtain ⟨ev, c, rfl, ⟨A, rfl, hcs, hlc, hlm, hlt⟩, h1, h2, h3⟩ := hr
  unfold maxLen at hlm
  have HLT := Lib.hid hlt
  clear hlt
  obtain ⟨i63, hi63, hz63, hs63, hb63⟩ := info_parts edge_info
  obtain ⟨i53, hi53, hz53, hs53, hb53⟩ := info_parts row_info
  go_enter Try.func32, Try.ntmps32
  go_wp2
  have e1 : (1 + (r.states : Int) % 6) = ((r.n : Nat) : Int) := by unfold Raw.n; omega
  have e2 : (1 + (r.inputs : Int) % 3) = ((r.ins : Nat) : Int) := by unfold Raw.ins; omega
  have e3 : (1 + (r.outputs : Int) % 3) = ((r.outs : Nat) : Int) := by unfold Raw.outs; omega
  have hn : 1 ≤ r.n ∧ r.n ≤ 6 := by unfold Raw.n; omega
  have hi : 1 ≤ r.ins ∧ r.ins ≤ 3 := by unfold Raw.ins; omega
  have ho : 1 ≤ r.outs ∧ r.outs ≤ 3 := by unfold Raw.outs; omega
  simp only [e1, e2, e3]
  clear e1 e2 e3
  refine wp_named ?_
  intro W1 hW1
  have hR0 : OfRel w r A c (.slice none 0 0) 0 W1 := by
    rw [hW1]
    refine ⟨(((Ext.refl _).alloc _).alloc _).alloc _, ?_, ?_, ?_, ?_, ?_, ?_, ?_, ?_, ?_, ?_, ?_, ?_, ?_, ⟨[], World.ownsRow_nil _ _ _ _, rfl, fun j u h => by simp at h⟩⟩ <;> simp [go_sem]
  clear hW1
  generalize Value.agg #[.int .u8 r.states, .int .u8 r.inputs, .int .u8 r.outputs, .bool r.part, .slice A r.edges.length c] = v0
  have hn0 : ¬ r.n = 0 := by omega
  have ho0 : ¬ r.outs = 0 := by omega
  go_loopw [5] (fun i wr => ∃ (s : Nat) (u : Value), s ≤ r.n ∧ i = .int .i64 s ∧ OfRel w r A c u s wr) (fun i _ => r.n - (intOf i).toNat)
  case atStart => exact ⟨0, _, by omega, rfl, hR0⟩
  case round =>
    clear hR0
    obtain ⟨s, u, hs, rfl, hR⟩ := hrel
    obtain ⟨W2, hW2⟩ : ∃ W, W = wr := ⟨_, rfl⟩
    subst hW2
    have hE := hR.ext
    by_cases hsn : s < r.n
    · have g0 : ∀ w', Ext W2 w' → w'.cell? ⟨w.heap.size, 0, none⟩ = some (.int .u8 r.states) := fun w' h => h.cell hR.r0
      have g3 : ∀ w', Ext W2 w' → w'.cell? ⟨w.heap.size, 3, none⟩ = some (.bool r.part) := fun w' h => h.cell hR.r3
      have g4 : ∀ w', Ext W2 w' → w'.cell? ⟨w.heap.size, 4, none⟩ = some (.slice A r.edges.length c) := fun w' h => h.cell hR.r4
      have q0 : ∀ w', Ext W2 w' → w'.cell? ⟨w.heap.size + 1 + 1, 0, none⟩ = some (.int .i64 r.ins) := fun w' h => h.cell hR.m0
      have q1 : ∀ w', Ext W2 w' → w'.cell? ⟨w.heap.size + 1 + 1, 1, none⟩ = some (.int .i64 r.outs) := fun w' h => h.cell hR.m1
      have q2 : ∀ w', Ext W2 w' → w'.cell? ⟨w.heap.size + 1 + 1, 2, none⟩ = some u := fun w' h => h.cell hR.m2
      have HR := Lib.hid hR
      clear hR
      go_wp2
      go_loopw [7, 6] (fun kv uv w3 => ∃ k : Nat, k ≤ r.ins ∧ kv = .int .i64 k ∧ Ext W2 w3 ∧ w3.ownsRow W2.heap.size 52 2 uv k ((r.row s k).flatMap edgeCells)) (fun kv _ _ => r.ins - (intOf kv).toNat)
      case atStart => exact ⟨0, by omega, rfl, Ext.refl _, World.ownsRow_nil _ _ _ _⟩
      case round =>
        obtain ⟨k, hk, rfl, hE3, hown⟩ := hrel
        obtain ⟨W3, hW3⟩ : ∃ W, W = wr := ⟨_, rfl⟩
        subst hW3
        by_cases hkn : k < r.ins
        · have hsm0 : 0 ≤ (s : Int) * (r.ins : Int) := by rw [← Int.natCast_mul]; omega
          have hsm1 : (s : Int) * (r.ins : Int) ≤ 18 := by
            have : s * r.ins ≤ 6 * 3 := Nat.mul_le_mul (by omega) hi.2
            rw [← Int.natCast_mul]; omega
          go_upto_region 12 with fail
          have hix : (s : Int) * (r.ins : Int) + (k : Int) = ((s * r.ins + k : Nat) : Int) := by push_cast; rfl
          simp only [hix]
          have hed : r.edge s k = if r.part && r.edges.getD (s * r.ins + k) 0 % 4 == 3 then (-1, -1) else (((r.edges.getD (s * r.ins + k) 0 / 4 % r.n : Nat) : Int), ((r.edges.getD (s * r.ins + k) 0 / 4 / r.n % r.outs : Nat) : Int)) := rfl
          have hrow := row_succ r s k
          generalize hEE : r.edge s k = EE at *
          have HED := Lib.hid hed
          have HROW := Lib.hid hrow
          clear hix hed hsm0 hsm1 hrow hEE
          generalize hidx : s * r.ins + k = idx at *
          clear hidx
          by_cases hxl : idx < r.edges.length
          · have hxm : idx < (r.edges.map (fun (x : Nat) => Value.int .u16 (x : Int))).length := by simpa using hxl
            obtain ⟨b, o, rfl, hb, hcc⟩ := hcs (by omega)
            have cx : ∀ w', Ext W2 w' → w'.cell? ⟨b, o + idx, none⟩ = some (.int .u16 ((r.edges[idx] : Nat) : Int)) := fun w' h => (hE.trans h).cell (hcc idx _ (by rw [List.getElem?_map, List.getElem?_eq_getElem hxl]; rfl))
            have hx16 := HLT.out _ (List.getElem_mem hxl)
            have hgd : r.edges.getD idx 0 = r.edges[idx] := by simp [List.getD, hxl]
            have hxi : (idx : Int) < (r.edges.length : Int) := by omega
            generalize r.edges[idx] = x at *
            rw [hgd] at HED
            clear hgd hcc hxm
            go_upto_region 14 with fail
            by_cases hbad : (r.part && x % 4 == 3) = true
            · have hrp : r.part = true := by simp only [Bool.and_eq_true] at hbad; exact hbad.1
              have hx4 : ((x : Int) % 4 == 3) = true := by
                simp only [Bool.and_eq_true, beq_iff_eq] at hbad
                simp only [beq_iff_eq]; omega
              have hEv := HED.out
              rw [if_pos hbad] at hEv
              have HEV := Lib.hid hEv
              clear hEv hbad HED
              go_wp2_with (at_builtin; refine wpList_append_own _ rfl _ _ 53 rfl W2.heap.size 52 i63 _ 2 16 Try.underlying53 hi63 hz63 hs63 hb63 rfl (by decide) u6 k _ rfl (hown.alloc _) ⟨W3.heap.size, 0, none⟩ 1 1 [.int .i64 (-1), .int .i64 (-1)] rfl rfl (cells_newM _ #[.int .i64 (-1), .int .i64 (-1)] _) (edges_one [(-1, -1)]) (by unfold maxLen; omega) (by omega) (by have := hE3.size; simp; omega) ?_; intro v4 w4 hown4 hg4 _)
              go_roundw
              case rel =>
                refine ⟨k + 1, by omega, by go_num, ext_grown (hE3.alloc _) (hown.alloc _) (Nat.le_refl _) hg4, ?_⟩
                rw [HROW.out, HEV.out]; exact hown4
              case measure => simp [intOf]; omega
            · have hEv := HED.out
              rw [if_neg hbad] at hEv
              have HEV := Lib.hid hEv
              have hbad2 : ¬ (r.part = true ∧ ((x : Int) % 4 == 3) = true) := by
                rintro ⟨ha, hb⟩
                simp only [beq_iff_eq] at hb
                exact hbad (by simp only [ha, Bool.true_and, beq_iff_eq]; omega)
              clear hEv hbad HED
              rcases Bool.eq_false_or_eq_true r.part with hrp | hrp
              · have hx4 : ((x : Int) % 4 == 3) = false := by
                  rcases Bool.eq_false_or_eq_true ((x : Int) % 4 == 3) with h | h
                  · exact absurd ⟨hrp, h⟩ hbad2
                  · exact h
                clear hbad2
                go_upto_region 16 with fail
                go_region_law (refine step_append_own rfl _ _ 53 rfl W2.heap.size 52 i63 _ 2 16 Try.underlying53 hi63 hz63 hs63 hb63 rfl (by decide) u6 k _ rfl (World.ownsRow.alloc hown _) ⟨W3.heap.size, 0, none⟩ 1 1 [.int .i64 ((IntKind.i64.wrap ((x : Int) / 4)).tmod (r.n : Int)), .int .i64 ((IntKind.i64.wrap ((IntKind.i64.wrap ((x : Int) / 4)).tdiv (r.n : Int))).tmod (r.outs : Int))] rfl rfl (cells_newM _ #[.int .i64 ((IntKind.i64.wrap ((x : Int) / 4)).tmod (r.n : Int)), .int .i64 ((IntKind.i64.wrap ((IntKind.i64.wrap ((x : Int) / 4)).tdiv (r.n : Int))).tmod (r.outs : Int))] _) (edges_one [((IntKind.i64.wrap ((x : Int) / 4)).tmod (r.n : Int), (IntKind.i64.wrap ((IntKind.i64.wrap ((x : Int) / 4)).tdiv (r.n : Int))).tmod (r.outs : Int))]) (by unfold maxLen; omega) (by omega) (by have := hE3.size; simp; omega) ?_; intro v4 w4 hown4 hg4 _)
                rw [← quoN x r.n hx16, ← remN x r.n r.outs hx16] at HEV
                go_wp2
                go_roundw
                case rel =>
                  refine ⟨k + 1, by omega, by go_num, ext_grown (hE3.alloc _).drew (hown.alloc _).drew (Nat.le_refl _) hg4, ?_⟩
                  rw [HROW.out, HEV.out]; exact hown4
                case measure => simp [intOf]; omega
              · clear hbad2
                go_upto_region 16 with fail
                go_region_law (refine step_append_own rfl _ _ 53 rfl W2.heap.size 52 i63 _ 2 16 Try.underlying53 hi63 hz63 hs63 hb63 rfl (by decide) u6 k _ rfl (World.ownsRow.alloc hown _) ⟨W3.heap.size, 0, none⟩ 1 1 [.int .i64 ((IntKind.i64.wrap ((x : Int) / 4)).tmod (r.n : Int)), .int .i64 ((IntKind.i64.wrap ((IntKind.i64.wrap ((x : Int) / 4)).tdiv (r.n : Int))).tmod (r.outs : Int))] rfl rfl (cells_newM _ #[.int .i64 ((IntKind.i64.wrap ((x : Int) / 4)).tmod (r.n : Int)), .int .i64 ((IntKind.i64.wrap ((IntKind.i64.wrap ((x : Int) / 4)).tdiv (r.n : Int))).tmod (r.outs : Int))] _) (edges_one [((IntKind.i64.wrap ((x : Int) / 4)).tmod (r.n : Int), (IntKind.i64.wrap ((IntKind.i64.wrap ((x : Int) / 4)).tdiv (r.n : Int))).tmod (r.outs : Int))]) (by unfold maxLen; omega) (by omega) (by have := hE3.size; simp; omega) ?_; intro v4 w4 hown4 hg4 _)
                rw [← quoN x r.n hx16, ← remN x r.n r.outs hx16] at HEV
                go_wp2
                go_roundw
                case rel =>
                  refine ⟨k + 1, by omega, by go_num, ext_grown (hE3.alloc _).drew (hown.alloc _).drew (Nat.le_refl _) hg4, ?_⟩
                  rw [HROW.out, HEV.out]; exact hown4
                case measure => simp [intOf]; omega
          · have hxi : ¬ (idx : Int) < (r.edges.length : Int) := by omega
            have hgd : r.edges.getD idx 0 = 0 := by simp [List.getD, List.getElem?_eq_none (show r.edges.length ≤ idx by omega)]
            rw [hgd] at HED
            clear hgd
            have hEv : EE = ((IntKind.i64.wrap 0).tmod (r.n : Int), (IntKind.i64.wrap ((IntKind.i64.wrap 0).tdiv (r.n : Int))).tmod (r.outs : Int)) := by
              have := HED.out
              rw [if_neg (by simp), ← quoN 0 r.n (by omega), ← remN 0 r.n r.outs (by omega)] at this
              exact this
            have HEV := Lib.hid hEv
            clear hEv HED
            rcases Bool.eq_false_or_eq_true r.part with hrp | hrp
            · go_upto_region 16 with fail
              go_region_law (refine step_append_own rfl _ _ 53 rfl W2.heap.size 52 i63 _ 2 16 Try.underlying53 hi63 hz63 hs63 hb63 rfl (by decide) u6 k _ rfl (World.ownsRow.alloc hown _) ⟨W3.heap.size, 0, none⟩ 1 1 [.int .i64 ((IntKind.i64.wrap 0).tmod (r.n : Int)), .int .i64 ((IntKind.i64.wrap ((IntKind.i64.wrap 0).tdiv (r.n : Int))).tmod (r.outs : Int))] rfl rfl (fun j u h => cells_newM W3 #[.int .i64 ((IntKind.i64.wrap 0).tmod (r.n : Int)), .int .i64 ((IntKind.i64.wrap ((IntKind.i64.wrap 0).tdiv (r.n : Int))).tmod (r.outs : Int))] 52 j u h) (edges_one [((IntKind.i64.wrap 0).tmod (r.n : Int), (IntKind.i64.wrap ((IntKind.i64.wrap 0).tdiv (r.n : Int))).tmod (r.outs : Int))]) (by unfold maxLen; omega) (by omega) (by have := hE3.size; simp; omega) ?_; intro v4 w4 hown4 hg4 _)
              go_wp2
              go_roundw
              case rel =>
                refine ⟨k + 1, by omega, by go_num, ext_grown (hE3.alloc _).drew (hown.alloc _).drew (Nat.le_refl _) hg4, ?_⟩
                rw [HROW.out, HEV.out]; exact hown4
              case measure => simp [intOf]; omega
            · go_upto_region 16 with fail
              go_region_law (refine step_append_own rfl _ _ 53 rfl W2.heap.size 52 i63 _ 2 16 Try.underlying53 hi63 hz63 hs63 hb63 rfl (by decide) u6 k _ rfl (World.ownsRow.alloc hown _) ⟨W3.heap.size, 0, none⟩ 1 1 [.int .i64 ((IntKind.i64.wrap 0).tmod (r.n : Int)), .int .i64 ((IntKind.i64.wrap ((IntKind.i64.wrap 0).tdiv (r.n : Int))).tmod (r.outs : Int))] rfl rfl (fun j u h => cells_newM W3 #[.int .i64 ((IntKind.i64.wrap 0).tmod (r.n : Int)), .int .i64 ((IntKind.i64.wrap ((IntKind.i64.wrap 0).tdiv (r.n : Int))).tmod (r.outs : Int))] 52 j u h) (edges_one [((IntKind.i64.wrap 0).tmod (r.n : Int), (IntKind.i64.wrap ((IntKind.i64.wrap 0).tdiv (r.n : Int))).tmod (r.outs : Int))]) (by unfold maxLen; omega) (by omega) (by have := hE3.size; simp; omega) ?_; intro v4 w4 hown4 hg4 _)
              go_wp2
              go_roundw
              case rel =>
                refine ⟨k + 1, by omega, by go_num, ext_grown (hE3.alloc _).drew (hown.alloc _).drew (Nat.le_refl _) hg4, ?_⟩
                rw [HROW.out, HEV.out]; exact hown4
              case measure => simp [intOf]; omega
        · have hkk : k = r.ins := by omega
          subst hkk
          obtain ⟨g6, c6, rfl⟩ := ownsRow_posM hown (by omega)
          have hR := HR.out
          obtain ⟨vs, hvo, hvl, hvr⟩ := hR.rows
          have hvo3 := ownsRow_ext hvo hE3
          have HVR := Lib.hid hvr
          have hsz := hE3.size
          have hsz2 := hE.size
          have hlt2 := World.block_lt_of_cell? _ _ hR.m2
          simp only at hlt2
          clear hvr hR
          go_wp2_with (at_builtin; refine wpList_append_own _ rfl _ _ 27 rfl (w.heap.size + 3) 53 i53 _ 1 24 Try.underlying27 hi53 hz53 hs53 hb53 rfl (by decide) u s _ rfl (hvo3.alloc _) ⟨W3.heap.size, 0, none⟩ 1 1 [.slice (some ⟨g6, 0, none⟩) r.ins c6] rfl rfl (cell_one_new _ _ _) (by simp [Value.oneCell']) (by unfold maxLen; omega) (by omega) (by simp; omega) ?_; intro v4 w4 hown4 hg4 _; obtain ⟨g4', c4', rfl⟩ := ownsRow_posM hown4 (by omega); have hblk := OfRel.blocks (w := w) (r := r) (A := A) (c := c) (x := u) hE3 hvo hlt2 hg4; have cm2 : w4.cell? ⟨w.heap.size + 1 + 1, 2, none⟩ = some u := (World.cell?_of_block (hblk _ (by simp))).trans HR.out.m2; have fm2 : w4.frozen? ⟨w.heap.size + 1 + 1, 2, none⟩ = false := (World.frozen?_of_block (hblk _ (by simp))).trans HR.out.x2; clear hblk)
          have hnext := HR.out.next hE3 hvo hvl HVR.out hown hlt2 hg4 hown4
          go_roundw
          case rel => exact ⟨s + 1, _, by omega, by go_num, hnext⟩
          case measure => simp [intOf]; omega
    · have hsn2 : s = r.n := by omega
      subst hsn2
      obtain ⟨vs, hvo, hvl, hvr⟩ := hR.rows
      obtain ⟨gu, cu, rfl⟩ := ownsRow_posM hvo (by omega)
      obtain ⟨z0, hz0⟩ := hR.z0
      obtain ⟨z1, hz1⟩ := hR.z1
      obtain ⟨z2, hz2⟩ := hR.z2
      have y0 := hR.y0
      have y1 := hR.y1
      have y2 := hR.y2
      have q0 := hR.m0
      have q1 := hR.m1
      have q2 := hR.m2
      have HVR := Lib.hid hvr
      clear hvr hR
      go_wp2
      generalize hX : (((W2.setCell ⟨w.heap.size + 1, 0, none⟩ (.int .i64 r.ins)).setCell ⟨w.heap.size + 1, 1, none⟩ (.int .i64 r.outs)).setCell ⟨w.heap.size + 1, 2, none⟩ (.slice (some ⟨gu, 0, none⟩) r.n cu)) = X
      have keep : ∀ (b e sz : Nat) (y : Value) (m : Nat) (ys : List Value), w.heap.size + 1 < b → W2.ownsRow b e sz y m ys → X.ownsRow b e sz y m ys := fun b e sz y m ys hb h => by
        rw [← hX]
        exact ownsRow_setCell_below (ownsRow_setCell_below (ownsRow_setCell_below h hb _) hb _) hb _
      have c0 : X.cell? ⟨w.heap.size + 1, 0, none⟩ = some (.int .i64 r.ins) := by
        rw [← hX, cell_setCell_off _ _ _ _ _ (by decide), cell_setCell_off _ _ _ _ _ (by decide)]
        exact World.cell?_setCell_same' _ _ _ (by rw [hz0]; rfl)
      have c1 : X.cell? ⟨w.heap.size + 1, 1, none⟩ = some (.int .i64 r.outs) := by
        rw [← hX, cell_setCell_off _ _ _ _ _ (by decide)]
        exact World.cell?_setCell_same' _ _ _ (by rw [cell_setCell_off _ _ _ _ _ (by decide), hz1]; rfl)
      have c2 : X.cell? ⟨w.heap.size + 1, 2, none⟩ = some (.slice (some ⟨gu, 0, none⟩) r.n cu) := by
        rw [← hX]
        exact World.cell?_setCell_same' _ _ _ (by rw [cell_setCell_off _ _ _ _ _ (by decide), cell_setCell_off _ _ _ _ _ (by decide), hz2]; rfl)
      have hEX : Ext w X := by
        rw [← hX]
        exact ((hE.setCell (p := ⟨w.heap.size + 1, 0, none⟩) (by simp) _).setCell (p := ⟨w.heap.size + 1, 1, none⟩) (by simp) _).setCell (p := ⟨w.heap.size + 1, 2, none⟩) (by simp) _
      refine bodyPost_ret (v := .agg #[.int .i64 r.ins, .int .i64 r.outs, .slice (some ⟨gu, 0, none⟩) r.n cu]) ?_ rfl ⟨⟨_, rfl, ?_⟩, hEX⟩
      · simp [results, Try.f32, go_sem, c0, c1, c2]
      · intro w5 hb5
        have keep2 : ∀ (b e sz : Nat) (y : Value) (m : Nat) (ys : List Value), w.heap.size + 1 < b → W2.ownsRow b e sz y m ys → w5.ownsRow b e sz y m ys := fun b e sz y m ys hb h => by
          have h5 := keep b e sz y m ys hb h
          exact ownsRow_of h5 (fun b' hb' => hb5 b' (by have := (World.ownsRow.lt h5 b' hb').1; omega) (World.ownsRow.lt h5 b' hb').2)
        obtain ⟨c', hc'⟩ := rows_of_owns (rows := r.mach.rows) (keep2 _ _ _ _ _ _ (by omega) hvo) hvl (by simp [Raw.mach]) (by omega) (m := r.ins) (by omega) (fun j y es hy hes => by
          have hjn : j < r.n := by have := (List.getElem?_eq_some_iff.1 hy).1; omega
          simp only [Raw.mach, List.getElem?_map, List.getElem?_range hjn, Option.map_some, Option.some.injEq] at hes
          subst hes
          exact ⟨by simp [Raw.row], keep2 _ _ _ _ _ _ (by omega) (HVR.out j y hy)⟩)
        exact ⟨_, c', rfl, hc'⟩
theorem Of_any (w : World) (v : Value) (r : Raw) (hr : RawV w v r) : Calls Try.prog 32 #[v] w fun e w' => (∃ mv, e = .returned mv ∧ MachV w' mv r.mach) ∧ Ext w w' :=
  (OfN_any w v r hr).mono fun _ _ ⟨⟨mv, he, hm⟩, hE⟩ => ⟨⟨mv, he, hm.self⟩, hE⟩
#print axioms Of_any
end Go.Proofs.Yteadkafeabhhhaa
