/- Rows of edges that a call owns: a row is built, and pushed; numbers of states. -/
import Derived.Test.YteadkafeabhhhaaD0
import Derived.Test.YteadkafeabhhhaaMap2
import Derived.Test.YteadkafeabhhhaaM1
namespace Go.Proofs.Yteadkafeabhhhaa
open Go.RowKit
set_option linter.unusedVariables false
set_option linter.unusedSimpArgs false

theorem OwnL.push {w W W' : World} {L : List Asn} {e1 e2 s2 n : Nat} {x v v' : Value} {xs : List Value} {vs : List Value} {rs : List (Nat × List Value)} (h : OwnL w W (.row e2 s2 x n xs :: .rows e1 e2 s2 v vs rs :: L)) (hg : W.grownBy W' v.ownBlock)
    (h4 : W'.ownsRow w.heap.size e1 1 v' (vs.length + 1) (vs ++ [x])) (hb : ∀ b, v'.ownBlock = some b → v.ownBlock = some b ∨ W.heap.size ≤ b) : OwnL w W' (.rows e1 e2 s2 v' (vs ++ [x]) (rs ++ [(n, xs)]) :: L) := by
  have hx : W.ownsRow w.heap.size e2 s2 x n xs := h.get 0 rfl
  have hO : OwnRows W w.heap.size e1 e2 s2 v vs rs := h.get 1 rfl
  obtain ⟨ha1, ha2⟩ := List.pairwise_cons.1 h.apart
  obtain ⟨ha3, ha4⟩ := List.pairwise_cons.1 ha2
  have hxr : ∀ b, x.ownBlock = some b → v.ownBlock ≠ some b ∧ ∀ u ∈ vs, u.ownBlock ≠ some b := fun b hb' => by
    have h1 := ha1 (.rows e1 e2 s2 v vs rs) (by simp) b hb'
    exact ⟨fun e => h1 (.inl e), fun u hu e => h1 (.inr ⟨u, hu, e⟩)⟩
  have hkeep : ∀ (u : Value) (k : Nat) (ys : List Value), W.ownsRow w.heap.size e2 s2 u k ys → (∀ b, u.ownBlock = some b → v.ownBlock ≠ some b) → W'.ownsRow w.heap.size e2 s2 u k ys := fun u k ys hu hne =>
    ownsRow_of hu (fun b hb' => hg.block b (hu.lt b hb').2 (fun e => hne b hb' e.symm))
  have hget : ∀ (j : Nat) (u : Value), (vs ++ [x])[j]? = some u → (j < vs.length ∧ vs[j]? = some u) ∨ (j = vs.length ∧ u = x) := fun j u hj => by
    by_cases hlt : j < vs.length
    · rw [List.getElem?_append_left hlt] at hj; exact .inl ⟨hlt, hj⟩
    · have hjl := (List.getElem?_eq_some_iff.1 hj).1
      have : j = vs.length := by simp at hjl; omega
      subst this
      rw [List.getElem?_append_right (Nat.le_refl _), Nat.sub_self] at hj
      cases hj; exact .inr ⟨rfl, rfl⟩
  have hnew : OwnRows W' w.heap.size e1 e2 s2 v' (vs ++ [x]) (rs ++ [(n, xs)]) := by
    refine ⟨by simpa using h4, by simp [hO.len], fun j u r hj hr => ?_, fun i j u u' hi hj hij b hb1 hb2 => ?_, fun j u hj b hb1 hb2 => ?_⟩
    · rcases hget j u hj with ⟨hlt, hj'⟩ | ⟨rfl, rfl⟩
      · rw [List.getElem?_append_left (by rw [← hO.len]; exact hlt)] at hr
        exact hkeep u _ _ (hO.each j u r hj' hr) (fun b hb' e => hO.away j u hj' b hb' e)
      · rw [List.getElem?_append_right (by rw [hO.len]; exact Nat.le_refl _), hO.len, Nat.sub_self] at hr
        cases hr
        exact hkeep u _ _ hx (fun b hb' => (hxr b hb').1)
    · rcases hget i u hi with ⟨h1, hi'⟩ | ⟨h1, rfl⟩ <;> rcases hget j u' hj with ⟨h2, hj'⟩ | ⟨h2, rfl⟩
      · exact hO.apart i j u u' hi' hj' hij b hb1 hb2
      · exact (hxr b hb2).2 u (List.mem_of_getElem? hi') hb1
      · exact (hxr b hb1).2 u' (List.mem_of_getElem? hj') hb2
      · omega
    · rcases hb b hb2 with h1 | h1
      · rcases hget j u hj with ⟨_, hj'⟩ | ⟨_, rfl⟩
        · exact hO.away j u hj' b hb1 h1
        · exact (hxr b hb1).1 h1
      · rcases hget j u hj with ⟨_, hj'⟩ | ⟨_, rfl⟩
        · have := (OwnRows.lt hO (List.mem_of_getElem? hj') hb1).2; omega
        · have := (hx.lt b hb1).2; omega
  have hother : ∀ B ∈ L, ∀ b, B.foot b → v.ownBlock ≠ some b := fun B hB b hb' e => ha3 B hB b (.inl e) hb'
  refine ⟨Below.grown h.ext hg h.ext.size (fun b hb' => (hO.own.lt b hb').1), fun B hB => ?_, List.pairwise_cons.2 ⟨fun B hB b hb1 hb2 => ?_, ha4⟩⟩
  · rcases List.mem_cons.1 hB with rfl | hB
    · exact hnew
    · have hB0 := h.ok B (by simp [hB])
      exact Asn.of hB0 (fun b hb' => hg.block b (Asn.lt hB0 hb').2 (fun e => hother B hB b hb' e.symm))
  · have hB0 := h.ok B (by simp [hB])
    rcases hb1 with hb1 | ⟨u, hu, hb1⟩
    · rcases hb b hb1 with h1 | h1
      · exact hother B hB b hb2 h1
      · have := (Asn.lt hB0 hb2).2; omega
    · rcases List.mem_append.1 hu with hu | hu
      · exact ha3 B hB b (.inr ⟨u, hu, hb1⟩) hb2
      · simp at hu; subst hu
        exact ha1 B (by simp [hB]) b hb1 hb2

theorem flat_set (a b : Int) : ∀ (l : List (Int × Int)) (i : Nat), i < l.length → ((l.flatMap edgeCells).set (i * 2) (.int .i64 a)).set (i * 2 + 1) (.int .i64 b) = (l.set i (a, b)).flatMap edgeCells
  | [], i, h => by simp at h
  | e :: l, 0, _ => by simp [List.flatMap_cons, edgeCells]
  | e :: l, i + 1, h => by
    have ih := flat_set a b l i (by simpa using h)
    rw [show (i + 1) * 2 = i * 2 + 1 + 1 by omega]
    simp only [List.flatMap_cons, edgeCells, List.cons_append, List.nil_append, List.set_cons_succ]
    rw [ih]
def fillE (f : Nat → Int × Int) (n k : Nat) : List (Int × Int) := (List.range n).map (fun t => if t < k then f t else (0, 0))
theorem fillE_len (f : Nat → Int × Int) (n k : Nat) : (fillE f n k).length = n := by unfold fillE; simp
theorem fillE_set (f : Nat → Int × Int) (n k : Nat) : (fillE f n k).set k (f k) = fillE f n (k + 1) := by
  unfold fillE
  have h := map_set_range (fun t => if t < k + 1 then f t else ((0 : Int), (0 : Int))) (fun t => if t < k then f t else (0, 0)) n k (fun t ht => by
    by_cases h : t < k
    · rw [if_pos h, if_pos (by omega)]
    · rw [if_neg h, if_neg (by omega)])
  rw [← h, if_pos (by omega)]
theorem fillE_end (f : Nat → Int × Int) (n : Nat) : fillE f n n = (List.range n).map f := by
  unfold fillE
  apply List.map_congr_left
  intro t ht
  rw [if_pos (List.mem_range.1 ht)]
theorem flat_zero : ∀ n : Nat, (List.replicate n ((0 : Int), (0 : Int))).flatMap edgeCells = List.replicate (n * 2) (.int .i64 0)
  | 0 => rfl
  | n + 1 => by
    rw [List.replicate_succ, List.flatMap_cons, flat_zero n, Nat.succ_mul, show n * 2 + 2 = (n * 2 + 1) + 1 by omega, List.replicate_succ, List.replicate_succ]; rfl
theorem made_two (n : Nat) : (madeCells #[Value.int .i64 0, .int .i64 0] (n * 2)).toList = ((fillE (fun _ => (0, 0)) n 0).flatMap edgeCells) := by
  have e : fillE (fun _ => (0, 0)) n 0 = List.replicate n (0, 0) := by unfold fillE; apply List.ext_getElem <;> simp
  rw [e, flat_zero]
  apply List.ext_getElem
  · simp [madeCells]
  · intro i h1 h2
    have : i % 2 = 0 ∨ i % 2 = 1 := by omega
    rcases this with h | h <;> simp [madeCells, h]
theorem fillE_zero (f g : Nat → Int × Int) (n : Nat) : fillE f n 0 = fillE g n 0 := by unfold fillE; simp
theorem edge_info2 : (Try.prog.info? 52).map (fun i => (i.zero, i.size, i.bytes)) = some (some (.agg #[.int .i64 0, .int .i64 0]), 2, 16) := by kernel_rfl
theorem mk_edges (n : Nat) (hn : n ≤ 1000) (w : World) : (Instr.makeSlice 53 (.int .i64 (n : Int)) (.int .i64 (n : Int))).run Try.prog w = .ok (.slice (some ⟨w.heap.size, 0, none⟩) n n) (w.alloc (.cells (madeCells #[.int .i64 0, .int .i64 0] (n * 2)) 52)) := by
  obtain ⟨i, hi, hz0, hs, hb0⟩ := info_parts edge_info2
  have hm : (i.bytes : Int) * (n : Int) ≤ 281474976710656 := by rw [hb0]; omega
  have hr := run_make (P := Try.prog) w 53 52 i (.agg #[.int .i64 0, .int .i64 0]) Try.underlying53 hi hz0 .i64 .i64 n n (by omega) (Int.le_refl _) hm (by omega)
  simp only [Int.toNat_natCast] at hr
  rw [hr, hs]; rfl
theorem own_edges (W : World) (n : Nat) (hn : n ≤ 1000) (f : Nat → Int × Int) : (W.alloc (.cells (madeCells #[.int .i64 0, .int .i64 0] (n * 2)) 52)).ownsRow W.heap.size 52 2 (.slice (some ⟨W.heap.size, 0, none⟩) n n) n ((fillE f n 0).flatMap edgeCells) := by
  have h := World.ownsRow_lit (base := W.heap.size) (e := 52) (size := 2) W (madeCells #[.int .i64 0, .int .i64 0] (n * 2)) n (Nat.le_refl _) (by unfold maxLen; omega) (size_madeCells _ _)
  rw [made_two] at h
  rw [fillE_zero f (fun _ => (0, 0))]; exact h
/-- Two cells of a row are stored. -/
theorem OwnL.edge {w W : World} {L : List Asn} (h : OwnL w W L) (k : Nat) {g n c : Nat} {l : List (Int × Int)} (hk : L[k]? = some (.row 52 2 (.slice (some ⟨g, 0, none⟩) n c) n (l.flatMap edgeCells))) {i : Nat} (hi : i < l.length) (a b : Int) :
    OwnL w ((W.setCell ⟨g, i * 2, none⟩ (.int .i64 a)).setCell ⟨g, i * 2 + 1, none⟩ (.int .i64 b)) (L.set k (.row 52 2 (.slice (some ⟨g, 0, none⟩) n c) n ((l.set i (a, b)).flatMap edgeCells))) := by
  have hkl := (List.getElem?_eq_some_iff.1 hk).1
  have h1 : W.ownsRow w.heap.size 52 2 (.slice (some ⟨g, 0, none⟩) n c) n (l.flatMap edgeCells) := h.get k hk
  have h2 := h1.stored (i * 2) (.int .i64 a)
  have h3 := h2.1.stored (i * 2 + 1) (.int .i64 b)
  rw [flat_set a b l i hi] at h3
  refine h.step k hk (row := some g) ⟨rfl, rfl, rfl, by simp, fun x hx hne => ?_⟩ (fun b hb => hb) h3.1 (fun b hb => .inl hb)
  rw [heap_setCell_other _ _ _ _ (fun e => hne (by simp [e])), heap_setCell_other _ _ _ _ (fun e => hne (by simp [e]))]

/-! ### Numbers of states -/
def numE (o : List Nat) : List (Int × Value) := o.zipIdx.map (fun p => ((p.1 : Int), .int .i64 (p.2 : Int)))
theorem numE_push (o : List Nat) (u : Nat) : numE (o ++ [u]) = numE o ++ [((u : Int), .int .i64 (o.length : Int))] := by
  unfold numE; rw [List.zipIdx_append, List.map_append]; simp
theorem numE_mem {o : List Nat} (h : o.Nodup) {u : Nat} (hu : u ∈ o) : getW (numE o) (u : Int) = some (.int .i64 (o.idxOf u : Int)) := by
  have hp : (numE o).Pairwise (fun p q => p.1 ≠ q.1) := by
    unfold numE
    refine List.pairwise_map.2 ?_
    have h1 : (o.zipIdx.map (·.1)).Nodup := by rw [List.zipIdx_map_fst]; exact h
    exact (List.pairwise_map.1 h1).imp (fun {a b} hab hc => hab (by have h2 : (a.1 : Int) = (b.1 : Int) := hc; omega))
  refine getW_of_mem hp ?_
  have hlt := List.idxOf_lt_length_of_mem hu
  refine List.mem_map.2 ⟨(u, o.idxOf u), ?_, rfl⟩
  rw [List.mem_zipIdx_iff_getElem?]
  rw [List.getElem?_eq_getElem hlt, List.getElem_idxOf hlt]
theorem numE_none {o : List Nat} {u : Nat} (hu : u ∉ o) : getW (numE o) (u : Int) = none := by
  refine getW_none.2 (fun p hp e => ?_)
  obtain ⟨q, hq, rfl⟩ := List.mem_map.1 hp
  have h2 : (q.1 : Int) = (u : Int) := e
  have h3 : q.1 = u := by omega
  exact hu (h3 ▸ (List.fst_mem_of_mem_zipIdx hq))
theorem zero_int (w : World) : (zeroValue 3).run Try.prog w = .ok (.int .i64 0) w := by kernel_rfl
end Go.Proofs.Yteadkafeabhhhaa
