/- classes.Join. -/
import Derived.Test.YtkmcplhgakpneaaU3
import Derived.Test.YtkmcplhgakpneaaU5
namespace Go.Proofs.Ytkmcplhgakpneaa
open Go.RowKit Go.Maps
set_option linter.unusedVariables false
set_option linter.unusedSimpArgs false
attribute [local go_sem] Oper.quietV quietV Oper.gives givesV ext_refl_iff ext_alloc_iff ext_drew_iff ext_drewN_iff

def pairsB (b : List Int) : List (Int × Int) := b.map (fun i => (b.headD 0, i))
def pairsOf (rows : List (List Int)) : List (Int × Int) := rows.flatMap pairsB
theorem pairsOf_snoc (rows : List (List Int)) (b : List Int) : pairsOf (rows ++ [b]) = pairsOf rows ++ pairsB b := by simp [pairsOf]
theorem pairsOf_len : ∀ (rows : List (List Int)), (∀ r ∈ rows, r.length ≤ 1000) → (pairsOf rows).length ≤ rows.length * 1000
  | [], _ => by simp [pairsOf]
  | r :: rows, h => by
    have ih := pairsOf_len rows (fun x hx => h x (by simp [hx]))
    have hr := h r (by simp)
    simp only [pairsOf, List.flatMap_cons, List.length_append, List.length_cons] at ih ⊢
    have : (pairsB r).length = r.length := by simp [pairsB]
    omega
theorem pair_info : (Try.prog.info? 45).map (fun i => (i.zero, i.size, i.bytes)) = some (some (.agg #[.int .i64 0, .int .i64 0]), 2, 16) := by kernel_rfl
theorem edges_of_owns2 {w : World} {base e : Nat} {v : Value} {es : List (Int × Int)} {n : Nat} (h : w.ownsRow base e 2 v n (es.flatMap edgeCells)) (hn : es.length = n) (hl : n ≤ 10000000) : ∃ c, EdgesC w v es c := by
  subst hn
  obtain ⟨A, c, rfl, hc, hcs⟩ := cells_of_owns h
  exact ⟨c, A, rfl, hcs, hc, by unfold lenMax; omega⟩
theorem mem_rowsAt {p : List Int} {cnt : Nat} {r : List Int} (hr : r ∈ rowsAt p cnt p.length) : ∀ x ∈ r, 0 ≤ x ∧ x < p.length := by
  obtain ⟨c, _, rfl⟩ := List.mem_map.1 hr
  intro x hx
  obtain ⟨i, hi, rfl⟩ := List.mem_map.1 hx
  have := List.mem_range.1 (List.mem_filter.1 hi).1
  omega
theorem pairs_in {rows : List (List Int)} {n : Nat} (h : ∀ r ∈ rows, ∀ x ∈ r, 0 ≤ x ∧ x < n) : ∀ p ∈ pairsOf rows, 0 ≤ p.1 ∧ p.1 < n ∧ 0 ≤ p.2 ∧ p.2 < n := by
  intro p hp
  obtain ⟨r, hr, hp⟩ := List.mem_flatMap.1 hp
  obtain ⟨x, hx, rfl⟩ := List.mem_map.1 hp
  have h1 := h r hr x hx
  have h2 : r.headD 0 ∈ r := by cases r with
    | nil => simp at hx
    | cons y r => simp
  have h3 := h r hr _ h2
  exact ⟨h3.1, h3.2, h1.1, h1.2⟩

theorem ListsC.at_ {w : World} {v : Value} {rows : List (List Int)} (h : ListsC w v rows) {k : Nat} (hk : k < rows.length) :
    ∃ b o u c, v = .slice (some ⟨b, o, none⟩) rows.length c ∧ b < w.heap.size ∧ w.cell? ⟨b, o + k, none⟩ = some u ∧ FitC w u rows[k] := by
  obtain ⟨A, c, vs, rfl, hc, hl, hr, _⟩ := h
  obtain ⟨b, o, rfl, hb, hcc⟩ := hc (by omega)
  have hk' : k < vs.length := by omega
  exact ⟨b, o, vs[k], c, rfl, hb, hcc k _ (List.getElem?_eq_getElem hk'), hr k vs[k] rows[k] (List.getElem?_eq_getElem hk') (List.getElem?_eq_getElem hk)⟩
theorem pairsB_take {b : List Int} {i : Nat} (hi : i < b.length) : (pairsB b).take (i + 1) = (pairsB b).take i ++ [(b[0]'(by omega), b[i])] := by
  have h : (pairsB b).length = b.length := by simp [pairsB]
  rw [List.take_succ_eq_append_getElem (show i < (pairsB b).length by omega)]
  congr 1
  simp only [pairsB, List.getElem_map]
  cases b with
  | nil => simp at hi
  | cons x r => rfl

set_option maxRecDepth 100000 in
set_option maxHeartbeats 4000000 in
theorem join_any (w : World) (pv qv : Value) (p q : List Int) (cp cq : Nat) (hp : IntsC w pv p cp) (hq : IntsC w qv q cq) (h1 : checkP p = 0) (h2 : checkP q = 0) (hl : p.length = q.length) (hb : ∀ x ∈ p, 0 ≤ x ∧ x ≤ 1000) (hbq : ∀ x ∈ q, 0 ≤ x ∧ x ≤ 1000) (hl5 : p.length ≤ 1000) :
    Calls Try.prog 27 #[pv, qv] w fun e w' => (∃ u up, e = .returned (.tuple #[u, .int .i64 0]) ∧ UpIs p.length ((pairsOf (rowsAt p (cntC p).toNat p.length) ++ pairsOf (rowsAt q (cntC q).toNat q.length)).map natP) up ∧ FitC w' u (namedL ((List.range p.length).map (fun i => (rootU up i : Int))))) ∧ Ext w w' := by
  obtain ⟨ip, hip, hzp, hsp, hbp⟩ := info_parts pair_info
  have hbo := both_ok w pv qv p q cp cq hp hq h1 h2 hl
  have hbl := fun w' (h : Ext w w') => blocks_any w' pv p cp (hp.ext h) hb hl5
  have hbm := fun w' (h : Ext w w') => blocks_any w' qv q cq (hq.ext h) hbq (by omega)
  have hLp : (∀ r ∈ rowsAt p (cntC p).toNat p.length, r.length ≤ 1000) ∧ (rowsAt p (cntC p).toNat p.length).length ≤ 1001 := by
    refine ⟨fun r hr => ?_, by have := (cntC_bound hb).2.1; simp [rowsAt]; omega⟩
    obtain ⟨c, _, rfl⟩ := List.mem_map.1 hr
    exact Nat.le_trans (idxs_length _ _ _) hl5
  have hLq : (∀ r ∈ rowsAt q (cntC q).toNat q.length, r.length ≤ 1000) ∧ (rowsAt q (cntC q).toNat q.length).length ≤ 1001 := by
    refine ⟨fun r hr => ?_, by have := (cntC_bound hbq).2.1; simp [rowsAt]; omega⟩
    obtain ⟨c, _, rfl⟩ := List.mem_map.1 hr
    exact Nat.le_trans (idxs_length _ _ _) (by omega)
  have hin : ∀ x ∈ pairsOf (rowsAt p (cntC p).toNat p.length) ++ pairsOf (rowsAt q (cntC q).toNat q.length), 0 ≤ x.1 ∧ x.1 < p.length ∧ 0 ≤ x.2 ∧ x.2 < p.length := by
    intro x hx
    rcases List.mem_append.1 hx with h | h
    · exact pairs_in (fun r hr => mem_rowsAt hr) x h
    · have := pairs_in (fun r hr => mem_rowsAt hr) x h
      rw [hl]; exact this
  obtain ⟨Ap, rfl, _, _, hpm⟩ := id hp
  obtain ⟨Aq, rfl, _, _, hqm⟩ := id hq
  unfold lenMax at hpm hqm
  generalize rowsAt p (cntC p).toNat p.length = rp at *
  generalize rowsAt q (cntC q).toNat q.length = rq at *
  have HH := Lib.hid (And.intro hLp (And.intro hLq hin))
  clear h1 h2 hl hb hbq hLp hLq hin hp hq
  go_enter Try.func27, Try.ntmps27
  go_wp2_with (first
    | (go_at_call 40; refine hbo.mono ?_; rintro e w1 ⟨rfl, e1⟩)
    | (go_at_call 41; refine (hbl _ e1).mono ?_; rintro e w2 ⟨⟨u1, rfl, f1⟩, e2⟩; clear hbl; obtain ⟨A1, k1, _, rfl, _⟩ := id f1)
    | (go_at_call 41; refine (hbm _ (e1.trans e2)).mono ?_; rintro e w3 ⟨⟨u2, rfl, f2⟩, e3⟩; obtain ⟨A2, k2, _, rfl, _⟩ := id f2))
  refine wp_named ?_
  intro W hW
  have hE : Ext w W := by rw [hW]; exact ((e1.trans e2).trans e3).alloc _
  have hE3 : Ext w3 W := by rw [hW]; exact (Ext.refl _).alloc _
  have d0 : ∀ w', Ext W w' → w'.cell? ⟨w3.heap.size, 0, none⟩ = some (.slice A1 rp.length k1) := fun w' h => h.cell (by rw [hW]; simp [go_sem])
  have d1 : ∀ w', Ext W w' → w'.cell? ⟨w3.heap.size, 1, none⟩ = some (.slice A2 rq.length k2) := fun w' h => h.cell (by rw [hW]; simp [go_sem])
  have f1 := f1.ext (e3.trans hE3)
  have f2 := f2.ext hE3
  generalize w3.heap.size = c3 at *
  have hD : Hid (∀ m, m < 2 → ∃ L u, (∀ w', Ext W w' → w'.cell? ⟨c3, m, none⟩ = some u) ∧ ListsC W u L ∧ ([rp, rq].take (m + 1)).flatMap pairsOf = ([rp, rq].take m).flatMap pairsOf ++ pairsOf L ∧ (∀ r ∈ L, r.length ≤ 1000) ∧ L.length ≤ 1001 ∧ (([rp, rq].take m).flatMap pairsOf).length ≤ 1001000) := fun m hm => by
    match m, hm with
    | 0, _ => exact ⟨rp, _, d0, f1, by simp, HH.out.1.1, HH.out.1.2, by simp⟩
    | 1, _ => exact ⟨rq, _, d1, f2, by simp, HH.out.2.1.1, HH.out.2.1.2, by
        have := pairsOf_len rp HH.out.1.1
        have := HH.out.1.2
        simp; omega⟩
  clear hW hE3 d0 d1 f1 f2 e1 e2 e3 hbo hbm
  go_loopw [26, 7] (fun i v wr => ∃ m : Nat, m ≤ 2 ∧ i = .int .i64 m ∧ Ext W wr ∧ wr.ownsRow W.heap.size 45 2 v (([rp, rq].take m).flatMap pairsOf).length ((([rp, rq].take m).flatMap pairsOf).flatMap edgeCells)) (fun i _ _ => 2 - (intOf i).toNat)
  case atStart => exact ⟨0, by omega, rfl, Ext.refl _, World.ownsRow_nil _ _ _ _⟩
  case round =>
    obtain ⟨m, hm, rfl, hE1, hown⟩ := hrel
    obtain ⟨W1, hW1⟩ : ∃ W, W = wr := ⟨_, rfl⟩
    subst hW1
    by_cases hm2 : m < 2
    · obtain ⟨L, u, hcu, hf, hnx, hL1, hL2, hP0⟩ := hD.out m hm2
      generalize ([rp, rq].take m).flatMap pairsOf = P0 at *
      have hcu := hcu W1 hE1
      have HN := Lib.hid (And.intro hnx (And.intro hL1 hP0))
      obtain ⟨Au, cu, vsu, rfl, _, _, _, _⟩ := id hf
      have hmI : (m : Int) < 2 := by omega
      clear hnx hL1 hP0
      go_wp2
      go_loopw [32, 7] (fun i v wr => ∃ j : Nat, j ≤ L.length ∧ i = .int .i64 j ∧ Ext W wr ∧ wr.ownsRow W.heap.size 45 2 v (P0 ++ pairsOf (L.take j)).length ((P0 ++ pairsOf (L.take j)).flatMap edgeCells)) (fun i _ _ => L.length - (intOf i).toNat)
      case atStart => exact ⟨0, by omega, rfl, hE1, by simpa [pairsOf] using hown⟩
      case round =>
        clear hown
        obtain ⟨j, hj, rfl, hE2, hown⟩ := hrel
        obtain ⟨W2, hW2⟩ : ∃ W, W = wr := ⟨_, rfl⟩
        subst hW2
        by_cases hjL : j < L.length
        · obtain ⟨bb, ob, ub, cb, hA, hbb, hcb, hfb⟩ := hf.at_ hjL
          have hcb := hE2.cell hcb
          obtain rfl : Au = some ⟨bb, ob, none⟩ := by injection hA
          clear hA hbb
          have hsn := pairsOf_snoc (L.take j) L[j]
          rw [← List.take_succ_eq_append_getElem hjL] at hsn
          have hbl := HN.out.2.1 _ (List.getElem_mem hjL)
          have hpl := pairsOf_len (L.take j) (fun r hr => HN.out.2.1 r (List.mem_of_mem_take hr))
          rw [List.length_take] at hpl
          generalize pairsOf (L.take j) = P2 at *
          generalize L[j] = b at *
          have HS := Lib.hid hsn
          have hP1 : (P0 ++ P2).length ≤ 2002000 := by have := HN.out.2.2; rw [List.length_append]; omega
          generalize hP : P0 ++ P2 = P1 at *
          have HP := Lib.hid hP
          obtain ⟨Ab, rfl, hcs, _, _⟩ := hfb
          have hjI : (j : Int) < (L.length : Int) := by omega
          clear hsn hpl hP
          go_wp2
          go_loopw [38, 7] (fun i v wr => ∃ x : Nat, x ≤ b.length ∧ i = .int .i64 x ∧ Ext W wr ∧ wr.ownsRow W.heap.size 45 2 v (P1 ++ (pairsB b).take x).length ((P1 ++ (pairsB b).take x).flatMap edgeCells)) (fun i _ _ => b.length - (intOf i).toNat)
          case atStart => exact ⟨0, by omega, rfl, hE2, by simpa using hown⟩
          case round =>
            clear hown
            obtain ⟨x, hx, rfl, hE3, hown⟩ := hrel
            obtain ⟨W3, hW3⟩ : ∃ W, W = wr := ⟨_, rfl⟩
            subst hW3
            by_cases hxb : x < b.length
            · obtain ⟨bq, oq, rfl, hbq, c1⟩ := (hcs.ext hE3).at_int hxb
              obtain ⟨_, _, hA, _, c0⟩ := (hcs.ext hE3).at_int (show 0 < b.length by omega)
              cases hA
              simp only [Nat.add_zero] at c0
              have hsucc : P1 ++ (pairsB b).take (x + 1) = (P1 ++ (pairsB b).take x) ++ [(b[0]'(by omega), b[x])] := by rw [pairsB_take hxb, List.append_assoc]
              have hQl : (P1 ++ (pairsB b).take x).length ≤ 2003000 := by
                rw [List.length_append, List.length_take]; omega
              generalize P1 ++ (pairsB b).take x = Q at *
              generalize b[x] = y1 at *
              generalize b[0]'(by omega) = y0 at *
              have HS2 := Lib.hid hsucc
              have hxI : (x : Int) < (b.length : Int) := by omega
              have h0I : (0 : Int) < (b.length : Int) := by omega
              have h0N : 0 < b.length := by omega
              clear hsucc hbq
              go_wp2_with (at_builtin; refine wpList_append_own _ rfl _ _ 78 rfl W.heap.size 45 ip _ 2 16 Try.underlying78 hip hzp hsp hbp rfl (by decide) _ Q.length _ rfl (hown.alloc _) ⟨W3.heap.size, 0, none⟩ 1 1 [.int .i64 y0, .int .i64 y1] rfl rfl (cells_new _ #[.int .i64 y0, .int .i64 y1] _) (edges_one [(y0, y1)]) (by unfold maxLen; omega) (by omega) (by have := hE3.size; simp; omega) ?_; intro v4 w4 hown4 hg4 _; have hE4 := ext_grown (hE3.alloc _) (hown.alloc _) (Nat.le_refl _) hg4)
              go_roundw
              case rel => exact ⟨x + 1, by omega, by go_num, hE4, by rw [HS2.out, List.length_append, List.flatMap_append]; exact hown4⟩
              case measure => simp [intOf]; omega
            · have hxI : ¬ (x : Int) < (b.length : Int) := by omega
              have hPB : (pairsB b).length = b.length := by simp [pairsB]
              have hxe : (pairsB b).take x = pairsB b := List.take_of_length_le (by omega)
              have heq : P1 ++ pairsB b = P0 ++ pairsOf (L.take (j + 1)) := by rw [HS.out, ← HP.out, List.append_assoc]
              rw [hxe, heq] at hown
              clear hPB hxe heq
              go_wp2
              go_roundw
              case rel => exact ⟨j + 1, by omega, by go_num, hE3, hown⟩
              case measure => simp [intOf]; omega
        · have hjL2 : j = L.length := by omega
          subst hjL2
          rw [List.take_length, ← HN.out.1] at hown
          have hjI : ¬ (L.length : Int) < (L.length : Int) := by omega
          go_wp2
          go_roundw
          case rel => exact ⟨m + 1, by omega, by go_num, hE2, hown⟩
          case measure => simp [intOf]; omega
    · have hm3 : m = 2 := by omega
      subst hm3
      have hps : ([rp, rq].take 2).flatMap pairsOf = pairsOf rp ++ pairsOf rq := by simp
      rw [hps] at hown
      have hlen : (pairsOf rp ++ pairsOf rq).length ≤ 2002000 := by
        have h3 := pairsOf_len rp HH.out.1.1
        have h4 := pairsOf_len rq HH.out.2.1.1
        have h5 := HH.out.1.2
        have h6 := HH.out.2.1.2
        rw [List.length_append]; omega
      obtain ⟨cw, hwe⟩ := edges_of_owns2 hown rfl (by omega)
      have hcl := closed_any W1 _ (pairsOf rp ++ pairsOf rq) cw hwe p.length hl5 HH.out.2.2
      have h2I : ¬ (2 : Int) < 2 := by omega
      clear hown hwe hps hlen
      go_wp2_with (go_at_call 42; refine hcl.mono ?_; rintro e W9 ⟨⟨v9, up9, rfl, hu9, hv9⟩, hE9⟩)
      go_ret2
      exact ⟨⟨_, up9, rfl, hu9, hv9⟩, (hE.trans hE1).trans hE9⟩
end Go.Proofs.Ytkmcplhgakpneaa
