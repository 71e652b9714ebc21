/- gauntletlaw07.RefinesKnown: the walk. -/
import Derived.Test.YtkmcplhgakpneaaK0
import Derived.Test.YtkmcplhgakpneaaR5
import Derived.Test.YtkmcplhgakpneaaR7
namespace Go.Proofs.Ytkmcplhgakpneaa
open Go.RowKit Go.Maps
set_option linter.unusedVariables false
set_option linter.unusedSimpArgs false
attribute [local go_sem] Oper.quietV quietV Oper.gives givesV ext_refl_iff ext_alloc_iff ext_drew_iff ext_drewN_iff


theorem agg2_eq {a b c d : Int} (h : a = c) (h' : b = d) : Value.agg #[.int .i64 a, .int .i64 b] = Value.agg #[.int .i64 c, .int .i64 d] := by rw [h, h']
/-- A slice of one element in a new block. -/
def FreshS (N : Nat) (cs : Array Value) (t : TypeId) (v : Value) (w : World) : Prop := ∃ b, v = .slice (some ⟨b, 0, none⟩) 1 1 ∧ N ≤ b ∧ w.heap[b]? = some (.cells cs t (0, 0))
theorem stays_freshS (N : Nat) (cs : Array Value) (t : TypeId) : Stays Ext (FreshS N cs t) := fun v w w' hE ⟨b, hv, hb, h⟩ => ⟨b, hv, hb, heap_ext hE h⟩
def FreshSS (N : Nat) (cs : Array Value) (t t' : TypeId) (v : Value) (w : World) : Prop := ∃ b b', v = .slice (some ⟨b, 0, none⟩) 1 1 ∧ N ≤ b' ∧ w.heap[b]? = some (.cells #[.slice (some ⟨b', 0, none⟩) 1 1] t' (0, 0)) ∧ w.heap[b']? = some (.cells cs t (0, 0))
theorem stays_freshSS (N : Nat) (cs : Array Value) (t t' : TypeId) : Stays Ext (FreshSS N cs t t') := fun v w w' hE ⟨b, b', hv, hb, h, h'⟩ => ⟨b, b', hv, hb, heap_ext hE h, heap_ext hE h'⟩

def eRow (e : Int × Int) : Nat × List Value := (1, edgeCells e)
/-- The machine that grows: its block, its rows. -/
structure ChSt (W0 : World) (n s : Nat) (u : Value) (vs : List Value) (W : World) : Prop where
  ext : Ext W0 W
  c0 : W.cell? ⟨W0.heap.size, 0, none⟩ = some (.int .i64 1)
  c1 : W.cell? ⟨W0.heap.size, 1, none⟩ = some (.int .i64 2)
  c2 : W.cell? ⟨W0.heap.size, 2, none⟩ = some u
  f2 : W.frozen? ⟨W0.heap.size, 2, none⟩ = false
  rows : OwnRows W (W0.heap.size + 1) 53 63 2 u vs ((List.range s).map (fun s => eRow (chE n s)))
  sl : ∃ A c, u = .slice A s c

theorem own_of_block {w : World} {B b : Nat} {cs : Array Value} {t : TypeId} {n sz : Nat} (h : w.heap[b]? = some (.cells cs t (0, 0))) (hB : B ≤ b) (hs : cs.size = n * sz) (hn : n ≤ maxLen) : w.ownsRow B t sz (.slice (some ⟨b, 0, none⟩) n n) n cs.toList :=
  ⟨by simpa using hs, .inr ⟨b, n, cs, rfl, hB, h, Nat.le_refl _, hn, hs, List.take_of_length_le (by rw [Array.length_toList, hs]; exact Nat.le_refl _)⟩⟩
theorem news_one {w : World} {b : Nat} {x : Value} {t : TypeId} (h : w.heap[b]? = some (.cells #[x] t (0, 0))) : ∀ (j : Nat) (u : Value), [x][j]? = some u → w.cell? ((⟨b, 0, none⟩ : Addr).add j) = some u := fun j u hu => by
  cases j with
  | zero => simp at hu; subst hu; exact cell_of_blk h 0 rfl
  | succ j => simp at hu
theorem ChSt.mach {W0 W : World} {n : Nat} {u : Value} {vs : List Value} (h : ChSt W0 n n u vs W) (hn : n ≤ 1000) : MachV W (.agg #[.int .i64 1, .int .i64 2, u]) (chainM n) := by
  have hl : vs.length = n := by rw [h.rows.len]; simp
  obtain ⟨A, c, hv, hc, hcs⟩ := cells_of_owns h.rows.own
  rw [hl] at hv hc
  refine ⟨u, c, rfl, A, vs, by rw [chain_rows]; exact hv, hcs, by rw [hl, chain_rows], fun i y es hy hes => ?_, by rw [chain_rows]; exact hc, by rw [chain_rows]; unfold lenMax; omega⟩
  have hi : i < n := by have := (List.getElem?_eq_some_iff.1 hy).1; omega
  have hes2 : es = [chE n i] := by
    simp only [chainM, List.getElem?_map, List.getElem?_range hi, Option.map_some] at hes
    exact (Option.some.inj hes).symm
  subst hes2
  have := h.rows.each i y (eRow (chE n i)) hy (by simp [List.getElem?_range hi])
  exact edges_of_owns (es := [chE n i]) (n := 1) (by simpa [eRow] using this) rfl (by decide)
theorem ChSt.next {W0 W W5 w6 : World} {n s : Nat} {u v6 x : Value} {vs : List Value} (h : ChSt W0 n s u vs W) (hE : Ext W W5) (hx : W5.ownsRow (W0.heap.size + 1) 63 2 x 1 (edgeCells (chE n s))) (hxb : ∀ b, x.ownBlock = some b → W.heap.size ≤ b)
    (hg : W5.grownBy w6 u.ownBlock) (h6 : w6.ownsRow (W0.heap.size + 1) 53 1 v6 (s + 1) (vs ++ [x])) : ChSt W0 n (s + 1) v6 (vs ++ [x]) (w6.setCell ⟨W0.heap.size, 2, none⟩ v6) := by
  have hl : vs.length = s := by rw [h.rows.len]; simp
  have hub : ∀ b, u.ownBlock = some b → W0.heap.size + 1 ≤ b := fun b hb => (h.rows.own.lt b hb).1
  have hlt : W0.heap.size < W.heap.size := World.block_lt_of_cell? _ _ h.c0
  have hblk : w6.heap[W0.heap.size]? = W.heap[W0.heap.size]? := by
    rw [hg.block W0.heap.size (Nat.lt_of_lt_of_le hlt hE.size) (fun e => by have := hub _ e.symm; omega)]
    exact hE.block _ hlt
  have hc : ∀ i, w6.cell? ⟨W0.heap.size, i, none⟩ = W.cell? ⟨W0.heap.size, i, none⟩ := fun i => World.cell?_of_block hblk
  have hpush := h.rows.push (by decide) hE (r := eRow (chE n s)) hx hxb hg (by rw [hl]; exact h6)
  rw [show (List.range s).map (fun s => eRow (chE n s)) ++ [eRow (chE n s)] = (List.range (s + 1)).map (fun s => eRow (chE n s)) by rw [List.range_succ, List.map_append]; rfl] at hpush
  have hkeep : ∀ (y : Value) (m e sz : Nat) (xs : List Value), w6.ownsRow (W0.heap.size + 1) e sz y m xs → (w6.setCell ⟨W0.heap.size, 2, none⟩ v6).ownsRow (W0.heap.size + 1) e sz y m xs := fun y m e sz xs hy => ownsRow_setCell_below hy (by simp) _
  refine ⟨(Below.grown (h.ext.trans hE) hg (h.ext.trans hE).size (fun b hb => by have := hub b hb; omega)).setCell (p := ⟨W0.heap.size, 2, none⟩) (Nat.le_refl _) _, ?_, ?_, ?_, ?_, ⟨hkeep _ _ _ _ _ hpush.own, hpush.len, fun j y r hy hr => hkeep _ _ _ _ _ (hpush.each j y r hy hr), hpush.apart⟩, ?_⟩
  · rw [cell_setCell_off _ _ _ _ _ (by decide), hc]; exact h.c0
  · rw [cell_setCell_off _ _ _ _ _ (by decide), hc]; exact h.c1
  · exact World.cell?_setCell_same' _ _ _ (by rw [hc, h.c2]; rfl)
  · rw [World.frozen?_setCell, World.frozen?_of_block hblk]; exact h.f2
  · obtain ⟨A, c, hv, _⟩ := cells_of_owns h6
    exact ⟨A, c, hv⟩

theorem refCount_chain (w : World) (pv : Value) (d n cp : Nat) (hd : 1 ≤ d) (hn : n ≤ 1000) (hp : IntsC w pv (chT d n) cp) : Calls Try.prog 29 #[pv] w fun e w' => e = .returned (.int .i64 (chG d n)) ∧ Ext w w' := by
  have := refCount_any w pv _ cp hp (fun x hx => by
    obtain ⟨s, hs, rfl⟩ := List.mem_map.1 hx
    have := List.mem_range.1 hs
    unfold chF; split <;> omega)
  rwa [chT_count hd] at this

theorem cells_of_blk {w : World} {b : Nat} {cs : Array Value} {t : TypeId} (h : w.heap[b]? = some (.cells cs t (0, 0))) : Cells w (some ⟨b, 0, none⟩) cs.toList := fun _ =>
  ⟨b, 0, rfl, lt_of_block h, fun j u hu => by
    have := cell_of_blk h j (u := u) (by simpa using hu)
    simpa using this⟩
theorem u8_of_blk {w : World} {b : Nat} {xs : List Nat} {t : TypeId} (h : w.heap[b]? = some (.cells (xs.map (fun (x : Nat) => Value.int .u8 (x : Int))).toArray t (0, 0))) (hx : (∀ x ∈ xs, x < 256) ) (hl : xs.length ≤ maxLen := by simp [maxLen]) : U8C w (.slice (some ⟨b, 0, none⟩) xs.length xs.length) xs xs.length :=
  ⟨_, rfl, by simpa using cells_of_blk h, Nat.le_refl _, hl, hx⟩
theorem Respects_new (W : World) (v : Value) (r : Raw) (t t' : TypeId) (hr : ∀ w', Ext W w' → RawV w' v r) (xs ys : List Nat) (hx : ∀ x ∈ xs, x < 256) (hy : ∀ x ∈ ys, x < 256) (hlx : xs.length ≤ maxLen := by simp [maxLen]) (hly : ys.length ≤ maxLen := by simp [maxLen]) :
    Calls Try.prog 7 #[v, .agg #[.slice (some ⟨W.heap.size, 0, none⟩) xs.length xs.length], .agg #[.slice (some ⟨W.heap.size + 1, 0, none⟩) ys.length ys.length]]
      ((W.alloc (.cells (xs.map (fun (x : Nat) => Value.int .u8 (x : Int))).toArray t)).alloc (.cells (ys.map (fun (x : Nat) => Value.int .u8 (x : Int))).toArray t')) fun e w' => e = .returned (.bool true) ∧ Ext W w' := by
  have hE : Ext W ((W.alloc (.cells (xs.map (fun (x : Nat) => Value.int .u8 (x : Int))).toArray t)).alloc (.cells (ys.map (fun (x : Nat) => Value.int .u8 (x : Int))).toArray t')) := ((Ext.refl _).alloc _).alloc _
  refine (RefinesRespects_any _ v r (hr _ hE) _ _ xs ys _ _ (u8_of_blk (heap_ext ((Ext.refl _).alloc _) (heap_alloc_new W _)) hx hlx) (u8_of_blk (t := t') (by
    have := heap_alloc_new (W.alloc (.cells (xs.map (fun (x : Nat) => Value.int .u8 (x : Int))).toArray t)) (.cells (ys.map (fun (x : Nat) => Value.int .u8 (x : Int))).toArray t')
    simpa using this) hy hly)).mono ?_
  rintro e w' ⟨rfl, h⟩
  exact ⟨rfl, hE.trans h⟩
theorem u16_info : (Try.prog.info? 65).map (fun i => (i.zero, i.size, i.bytes)) = some (some (.int .u16 0), 1, 2) := by kernel_rfl
set_option maxRecDepth 100000 in
set_option maxHeartbeats 8000000 in
theorem RefinesKnown_any (w : World) : Calls Try.prog 8 #[] w fun e w' => e = .returned (.bool true) ∧ Ext w w' := by
  obtain ⟨i53, hi53, hz53, hs53, hb53⟩ := info_parts row_info
  go_enter Try.func8, Try.ntmps8
  go_wp2
  go_loopw [1] (fun i wr => ∃ n : Nat, 1 ≤ n ∧ n ≤ 65 ∧ i = .int .i64 n ∧ Ext w wr) (fun i _ => 65 - (intOf i).toNat)
  case atStart => exact ⟨1, by omega, by omega, rfl, Ext.refl _⟩
  case round =>
    obtain ⟨n, hn1, hn2, rfl, hE⟩ := hrel
    obtain ⟨W2, hW2⟩ : ∃ W, W = wr := ⟨_, rfl⟩
    subst hW2
    by_cases hn : n ≤ 64
    · have hnI : (n : Int) ≤ 64 := by omega
      go_upto_region 5 with fail
      refine wp_named ?_
      intro W3 hW3
      have hC0 : ChSt W2 n 0 (.slice none 0 0) [] W3 := by
        rw [hW3]
        exact ⟨(Ext.refl _).alloc _, by simp [go_sem], by simp [go_sem], by simp [go_sem], by simp [go_sem], OwnRows.nil _ _ _ _ _, _, _, rfl⟩
      clear hW3
      go_wp2
      go_loopw [3] (fun i wr => ∃ (s : Nat) (u : Value) (vs : List Value), s ≤ n ∧ i = .int .i64 s ∧ ChSt W2 n s u vs wr) (fun i _ => n - (intOf i).toNat)
      case atStart => exact ⟨0, _, _, by omega, rfl, hC0⟩
      case round =>
        clear hC0
        obtain ⟨s, u, vs, hs, rfl, hC⟩ := hrel
        obtain ⟨W4, hW4⟩ : ∃ W, W = wr := ⟨_, rfl⟩
        subst hW4
        by_cases hsn : s < n
        · have hl : vs.length = s := by rw [hC.rows.len]; simp
          obtain ⟨Au, cu, rfl⟩ := hC.sl
          have g2 : ∀ w', Ext W4 w' → w'.cell? ⟨W2.heap.size, 2, none⟩ = some (.slice Au s cu) := fun w' h => h.cell hC.c2
          have f2 : ∀ w', Ext W4 w' → w'.frozen? ⟨W2.heap.size, 2, none⟩ = false := fun w' h => by
            rw [World.frozen?_of_block (a := ⟨W2.heap.size, 2, none⟩) (h.block W2.heap.size (World.block_lt_of_cell? _ _ hC.c0))]; exact hC.f2
          have hB1 : W2.heap.size + 1 ≤ W4.heap.size := World.block_lt_of_cell? _ _ hC.c0
          have hown : ∀ w', Ext W4 w' → w'.ownsRow (W2.heap.size + 1) 53 1 (.slice Au s cu) s vs := fun w' h => by
            have := ownsRow_ext hC.rows.own h
            rwa [hl] at this
          have hnext : ∀ (W5 w6 : World) (v6 x : Value), Ext W4 W5 → W5.ownsRow (W2.heap.size + 1) 63 2 x 1 (edgeCells (chE n s)) → (∀ b, x.ownBlock = some b → W4.heap.size ≤ b) → W5.grownBy w6 (Value.slice Au s cu).ownBlock → w6.ownsRow (W2.heap.size + 1) 53 1 v6 (s + 1) (vs ++ [x]) → ChSt W2 n (s + 1) v6 (vs ++ [x]) (w6.setCell ⟨W2.heap.size, 2, none⟩ v6) :=
            fun W5 w6 v6 x h1 h2 h3 h4 h5 => hC.next h1 h2 h3 h4 h5
          have hsE : s ≤ 64 := by omega
          have hX : Hid ((chE n s).1 = if n ≤ s + 1 then (n : Int) - 1 else (s : Int) + 1) := by
            show _ = _
            unfold chE
            simp only
            split <;> omega
          have hY : Hid ((chE n s).2 = ((s : Int) + 1).tdiv n ∧ 0 ≤ (chE n s).2 ∧ (chE n s).2 ≤ 100) := by
            constructor
            · unfold chE
              simp only
              rw [Int.tdiv_eq_ediv_of_nonneg (by omega)]
              push_cast; rfl
            · unfold chE
              simp only
              have := Nat.div_le_self (s + 1) n
              generalize (s + 1) / n = y at *
              exact ⟨by omega, by omega⟩
          have HN := Lib.hid hnext
          have HO := Lib.hid hown
          have HW := Lib.hid hC
          have hn0 : ¬ n = 0 := by omega
          clear hnext hown hC hl
          generalize hE0 : chE n s = ed at *
          clear hE0
          obtain ⟨x0, y0⟩ := ed
          simp only at hX hY
          generalize hNB : W2.heap.size = N2 at *
          go_upto_region 8 with fail
          have hw1 : IntKind.i64.wrap ((n : Int) - 1) = (n : Int) - 1 := IntWalk.i64_in _ ⟨by omega, by omega⟩
          have hw2 : IntKind.i64.wrap ((s : Int) + 1) = (s : Int) + 1 := IntWalk.i64_in _ ⟨by omega, by omega⟩
          have HX : Hid ((if IntKind.i64.wrap ((n : Int) - 1) < IntKind.i64.wrap ((s : Int) + 1) then IntKind.i64.wrap ((n : Int) - 1) else IntKind.i64.wrap ((s : Int) + 1)) = x0) := by
            show _ = _
            rw [hw1, hw2, hX.out]
            split <;> split <;> omega
          have HY : Hid ((IntKind.i64.wrap ((s : Int) + 1)).tdiv n = y0 ∧ IntKind.i64.wrap ((IntKind.i64.wrap ((s : Int) + 1)).tdiv n) = y0) := by
            show _ ∧ _
            rw [hw2, ← hY.out.1]
            exact ⟨rfl, IntWalk.i64_in _ ⟨by have := hY.out.2; omega, by have := hY.out.2; omega⟩⟩
          clear hX hY hw1 hw2
          refine wp_region_ext 14 (factsOf [(11, fun v _ => v = .agg #[.int .i64 x0, .int .i64 y0]), (12, FreshS W4.heap.size #[.int .i64 x0, .int .i64 y0] 63), (13, FreshSS W4.heap.size #[.int .i64 x0, .int .i64 y0] 63 53)]) (fun k => ([[], [0], [], [2], [], [4], [2, 3, 4, 5], [], [7], [], [7, 8, 9], [2, 3, 4, 5, 6, 7, 8, 9, 10], [2, 3, 4, 5, 6, 7, 8, 9, 10, 11], [2, 3, 4, 5, 6, 7, 8, 9, 10, 11, 12], [0, 1, 2, 3, 4, 5, 6, 7, 8, 9, 10, 11, 12, 13], [0, 1, 2, 3, 4, 5, 6, 7, 8, 9, 10, 11, 12, 13, 14], [0, 1, 2, 3, 4, 5, 6, 7, 8, 9, 10, 11, 12, 13, 14, 15]] : List (List Nat)).getD k []) (by kernel_rfl) (by kernel_rfl) Ext.pre (mono_cons (stays_eq _) (mono_cons (stays_freshS _ _ _) (mono_cons (stays_freshSS _ _ _ _) (mono_nil)))) ?_
          simp only [List.take_succ_cons, List.take_zero]
          repeat (first | (with_reducible refine lexL_quiet' (v := ?_) ?_ ?_ ?_ ?_; rotate_left; (· with_reducible rfl); (· simp [factsOf]); (· intro w1 hw1 _; go_simp; with_reducible rfl); (try simp only [Act.put, List.setIfInBounds_toArray, List.set_cons_zero, List.set_cons_succ])) | (with_reducible refine lexL_skip ?_ ?_; (· simp [Region.wanted, yielded, undef]); (try simp only [Act.put, List.setIfInBounds_toArray, List.set_cons_zero, List.set_cons_succ])) | (with_reducible refine lexL_quiet (v := ?_) ?_ ?_ ?_ ?_; rotate_left; (· simp [Region.wanted, yielded, undef]); (· simp [factsOf]); (· intro w1 hw1 _; go_simp; with_reducible rfl); (try simp only [Act.put, List.setIfInBounds_toArray, List.set_cons_zero, List.set_cons_succ])))
          with_reducible refine lexL_give' (φ := ?_) ?_ ?_ ?_ ?_; rotate_left; (· with_reducible rfl); (· simp only [factsOf, Nat.reduceAdd, ↓reduceIte, Nat.reduceEqDiff]; rfl)
          · intro w1 hw1 _
            go_simp
            refine (edge_any w1 _ _).mono ?_
            rintro e w2 ⟨rfl, hb⟩
            exact ⟨_, rfl, hb, agg2_eq HX.out (by first | exact HY.out.1 | exact HY.out.2)⟩
          rintro v3 w1 hw1 rfl hk1
          clear hk1 hw1 w1
          (try simp only [Act.put, List.setIfInBounds_toArray, List.set_cons_zero, List.set_cons_succ])
          with_reducible refine lexL_give' (φ := ?_) ?_ ?_ ?_ ?_; rotate_left; (· with_reducible rfl); (· simp only [factsOf, Nat.reduceAdd, ↓reduceIte, Nat.reduceEqDiff]; rfl)
          · intro w1 hw1 _
            go_simp
            first | exact ⟨(Ext.refl _).alloc _, _, rfl, hw1.size, heap_alloc_new w1 _⟩ | exact ⟨_, rfl, hw1.size, heap_alloc_new w1 _⟩
          rintro v3 w1 hw1 ⟨b12, rfl, hb12, hblk12⟩ hk1
          clear hk1 hw1 hblk12 w1
          (try simp only [Act.put, List.setIfInBounds_toArray, List.set_cons_zero, List.set_cons_succ])
          with_reducible refine lexL_give' (φ := ?_) ?_ ?_ ?_ ?_; rotate_left; (· with_reducible rfl); (· simp only [factsOf, Nat.reduceAdd, ↓reduceIte, Nat.reduceEqDiff]; rfl)
          · intro w1 hw1 hkk
            obtain ⟨b3, h3, h4, h5⟩ := hkk.get 12 (by decide) rfl rfl
            obtain rfl : b3 = b12 := by injection h3 with h3; injection h3 with h3; injection h3 with h3; exact h3.symm
            go_simp
            first | exact ⟨(Ext.refl _).alloc _, _, _, rfl, h4, heap_alloc_new w1 _, heap_ext ((Ext.refl _).alloc _) h5⟩ | exact ⟨_, _, rfl, h4, heap_alloc_new w1 _, heap_ext ((Ext.refl _).alloc _) h5⟩
          rintro v4 w1 hw1 ⟨b13, b14, rfl, hb14, hblk13, hblk14⟩ hk1
          clear hk1 hw1 hblk13 hblk14 w1
          (try simp only [Act.put, List.setIfInBounds_toArray, List.set_cons_zero, List.set_cons_succ])
          with_reducible refine lexL_nil ?_; intro w1 hw1 hk1; simp only [List.drop_succ_cons, List.drop_zero]
          obtain ⟨b, b', h3, hb', hblk, hblk'⟩ := hk1.get 13 rfl rfl
          obtain rfl : b = b13 := by injection h3 with h3; injection h3 with h3; injection h3 with h3; exact h3.symm
          clear hk1 h3
          have hsz1 := hw1.size
          go_upto_region 7 with (at_builtin; refine wpList_append_own _ rfl _ _ 25 rfl (N2 + 1) 53 i53 (.slice none 0 0) 1 24 Try.underlying25 hi53 hz53 hs53 hb53 rfl (by decide) (.slice Au s cu) s vs rfl (HO.out _ hw1) ⟨b, 0, none⟩ 1 1 [.slice (some ⟨b', 0, none⟩) 1 1] rfl rfl (news_one hblk) (slice_one _ _ _) (by unfold maxLen; omega) (by omega) (by omega) ?_; intro v6 w6 hown6 hg6 _; have hfin := HN.out w1 w6 v6 _ hw1 (own_of_block hblk' (by omega) rfl (by decide)) (fun b hb => by cases hb; exact hb') hg6 hown6; obtain ⟨g6, c6, rfl⟩ := ownsRow_pos hown6 (by omega); have HFIN := Lib.hid hfin; have hNlt : N2 < w1.heap.size := (by omega); have hne6 : some N2 ≠ (Value.slice Au s cu).ownBlock := (fun e => by have := ((HO.out _ hw1).lt N2 e.symm).1; omega); have hbk := hg6.block N2 hNlt hne6; have hcur6 : w6.cell? ⟨N2, 2, none⟩ = some (.slice Au s cu) := (by rw [World.cell?_of_block (a := ⟨N2, 2, none⟩) hbk]; exact g2 _ hw1); have hfz6 : w6.frozen? ⟨N2, 2, none⟩ = false := (by rw [World.frozen?_of_block (a := ⟨N2, 2, none⟩) hbk]; exact f2 _ hw1); clear hfin hg6 hown6 hbk)
          go_wp2
          go_roundw
          case rel => exact ⟨s + 1, _, _, by omega, by go_num, HFIN.out⟩
          case measure => simp [intOf]; omega
        · have hsn2 : n = s := by omega
          subst hsn2
          have hm := hC.mach (by omega)
          have hEW := hC.ext
          obtain ⟨Au, cu, rfl⟩ := hC.sl
          have g0 : ∀ w', Ext W4 w' → w'.cell? ⟨W2.heap.size, 0, none⟩ = some (.int .i64 1) := fun w' h => h.cell hC.c0
          have g1 : ∀ w', Ext W4 w' → w'.cell? ⟨W2.heap.size, 1, none⟩ = some (.int .i64 2) := fun w' h => h.cell hC.c1
          have g2 : ∀ w', Ext W4 w' → w'.cell? ⟨W2.heap.size, 2, none⟩ = some (.slice Au n cu) := fun w' h => h.cell hC.c2
          clear hC
          have hV := chain_valid hn1 hn
          obtain ⟨hst, hnd⟩ := chain_end hn1 hn
          have hcl := Classes_any W4 _ _ hm hV (n - 1) (by omega) hst hnd
          have hi1 := chain_iter hn1 hn (n - 1) (by omega)
          rw [hi1, show n - (n - 1) = 1 by omega] at hcl
          have hrd := fun (W5 : World) (h : Ext W4 W5) (x : Int) (hx : x = ((n - 2 : Nat) : Int)) => Rounds_int W5 _ _ (hm.ext h) hV x (n - 2) hx (by omega) (n - 1) hst hnd
          rw [chain_iter hn1 hn (n - 2) (by omega)] at hrd
          have hp1 : ((n - 1 : Nat) : Int) = (n : Int) - 1 := by omega
          rw [hp1] at hcl
          have hct1 := fun (w' : World) (pv : Value) (cp : Nat) (h : IntsC w' pv (chT 1 n) cp) => refCount_chain w' pv 1 n cp (by omega) (by omega) h
          have hct2 := fun (w' : World) (pv : Value) (cp : Nat) (h : IntsC w' pv (chT (n - (n - 2)) n) cp) => refCount_chain w' pv (n - (n - 2)) n cp (by omega) (by omega) h
          have hg1 : chG 1 n = (n : Int) := by unfold chG; (repeat' split) <;> omega
          have hg2 : chG (n - (n - 2)) n = if (n : Int) - 1 < 1 then 1 else (n : Int) - 1 := by unfold chG; (repeat' split) <;> omega
          rw [hg1] at hct1
          rw [hg2] at hct2
          generalize chT (n - (n - 2)) n = P2 at *
          generalize chT 1 n = P1 at *
          have HRD := Lib.hid hrd
          have HC1 := Lib.hid hct1
          have HC2 := Lib.hid hct2
          clear hrd hct1 hct2 hg1 hg2 hi1 hst hnd hV hm hp1
          have hw1 : IntKind.i64.wrap ((n : Int) - 1) = (n : Int) - 1 := IntWalk.i64_in _ ⟨by omega, by omega⟩
          have hw2 : IntKind.i64.wrap ((n : Int) - 2) = (n : Int) - 2 := IntWalk.i64_in _ ⟨by omega, by omega⟩
          generalize hNB : W2.heap.size = N2 at *
          clear hsn hn2
          by_cases hn2 : n ≤ 2
          · have hm2 : (n : Int) - 2 ≤ 0 := by omega
            have hm3 : (n : Int) - 1 ≤ 1 := by omega
            go_upto_region 10 with (go_at_call 16; refine hcl.mono ?_; rintro e W5 ⟨⟨v5, rfl, f5⟩, hE5⟩; obtain ⟨A5, rfl, f5'⟩ := id f5; clear f5')
            clear hcl
            have g0 : ∀ w', Ext W5 w' → w'.cell? ⟨N2, 0, none⟩ = some (.int .i64 1) := fun w' h => g0 _ (hE5.trans h)
            have g1 : ∀ w', Ext W5 w' → w'.cell? ⟨N2, 1, none⟩ = some (.int .i64 2) := fun w' h => g1 _ (hE5.trans h)
            have g2 : ∀ w', Ext W5 w' → w'.cell? ⟨N2, 2, none⟩ = some (.slice Au n cu) := fun w' h => g2 _ (hE5.trans h)
            go_upto_region 11 with (go_at_call 10; refine (HRD.out W5 hE5 _ (by omega)).mono ?_; rintro e W6 ⟨⟨v6, rfl, f6⟩, hE6⟩; obtain ⟨A6, rfl, f6'⟩ := id f6; clear f6')
            have h1 := HC1.out W6 _ _ (IntsC.ext f5 hE6)
            have h2 := fun w' (h : Ext W6 w') => HC2.out w' _ _ (IntsC.ext f6 h)
            clear HC1 HC2 HRD f5 f6 g0 g1 g2
            generalize P1.length = l1 at *
            generalize P2.length = l2 at *
            go_upto_region 3 with (first
              | (go_at_call 29; with_reducible refine h1.mono ?_; rintro e W7 ⟨rfl, hE7⟩)
              | (go_at_call 29; with_reducible refine (h2 _ hE7).mono ?_; rintro e W8 ⟨rfl, hE8⟩))
            go_wp2
            go_roundw
            case rel => exact ⟨n + 1, by omega, by omega, by go_num, hE.trans (hEW.trans (hE5.trans (hE6.trans (hE7.trans hE8))))⟩
            case measure => simp [intOf]; omega
          · have hm2 : 0 < (n : Int) - 2 := by omega
            have hm3 : 1 < (n : Int) - 1 := by omega
            go_upto_region 10 with (go_at_call 16; refine hcl.mono ?_; rintro e W5 ⟨⟨v5, rfl, f5⟩, hE5⟩; obtain ⟨A5, rfl, f5'⟩ := id f5; clear f5')
            clear hcl
            have g0 : ∀ w', Ext W5 w' → w'.cell? ⟨N2, 0, none⟩ = some (.int .i64 1) := fun w' h => g0 _ (hE5.trans h)
            have g1 : ∀ w', Ext W5 w' → w'.cell? ⟨N2, 1, none⟩ = some (.int .i64 2) := fun w' h => g1 _ (hE5.trans h)
            have g2 : ∀ w', Ext W5 w' → w'.cell? ⟨N2, 2, none⟩ = some (.slice Au n cu) := fun w' h => g2 _ (hE5.trans h)
            go_upto_region 11 with (go_at_call 10; refine (HRD.out W5 hE5 _ (by omega)).mono ?_; rintro e W6 ⟨⟨v6, rfl, f6⟩, hE6⟩; obtain ⟨A6, rfl, f6'⟩ := id f6; clear f6')
            have h1 := HC1.out W6 _ _ (IntsC.ext f5 hE6)
            have h2 := fun w' (h : Ext W6 w') => HC2.out w' _ _ (IntsC.ext f6 h)
            clear HC1 HC2 HRD f5 f6 g0 g1 g2
            generalize P1.length = l1 at *
            generalize P2.length = l2 at *
            go_upto_region 3 with (first
              | (go_at_call 29; with_reducible refine h1.mono ?_; rintro e W7 ⟨rfl, hE7⟩)
              | (go_at_call 29; with_reducible refine (h2 _ hE7).mono ?_; rintro e W8 ⟨rfl, hE8⟩))
            go_wp2
            go_roundw
            case rel => exact ⟨n + 1, by omega, by omega, by go_num, hE.trans (hEW.trans (hE5.trans (hE6.trans (hE7.trans hE8))))⟩
            case measure => simp [intOf]; omega
    · have hn65 : n = 65 := by omega
      have hnI : ¬ (n : Int) ≤ 64 := by omega
      clear hn65
      obtain ⟨i65, hi65, hz65, hs65, hb65⟩ := info_parts u16_info
      go_wp2
      go_loopw [9, 10] (fun k i wr => ∃ K N : Nat, N ≤ 60 ∧ K < 100003 ∧ k = .int .i64 K ∧ i = .int .i64 N ∧ Ext W2 wr) (fun _ i _ => 60 - (intOf i).toNat)
      case atStart => exact ⟨1, 0, by omega, by omega, rfl, rfl, Ext.refl _⟩
      case round =>
        obtain ⟨K, N, hN, hK, rfl, rfl, hE1⟩ := hrel
        obtain ⟨W3, hW3⟩ : ∃ W, W = wr := ⟨_, rfl⟩
        subst hW3
        by_cases hN60 : N < 60
        · have hNI : (N : Int) < 60 := by omega
          go_wp2
          go_loopw [9, 11, 12] (fun k l i wr => ∃ (K I : Nat) (xs : List Nat), I ≤ 18 ∧ K < 100003 ∧ xs.length = I ∧ (∀ x ∈ xs, x < 65536) ∧ k = .int .i64 K ∧ i = .int .i64 I ∧ Ext W3 wr ∧ wr.ownsRow W3.heap.size 65 1 l I (xs.map (fun (x : Nat) => Value.int .u16 (x : Int)))) (fun _ _ i _ => 18 - (intOf i).toNat)
          case atStart => exact ⟨K, 0, [], by omega, hK, rfl, by simp, rfl, rfl, Ext.refl _, World.ownsRow_nil _ _ _ _⟩
          case round =>
            clear hK
            obtain ⟨K, I, xs, hI, hK, hxl, hx16, rfl, rfl, hE2, hown⟩ := hrel
            obtain ⟨W4, hW4⟩ : ∃ W, W = wr := ⟨_, rfl⟩
            subst hW4
            by_cases hI18 : I < 18
            · have hII : (I : Int) < 18 := by omega
              have hw1 : IntKind.i64.wrap ((K : Int) * 31) = (K : Int) * 31 := IntWalk.i64_in _ ⟨by omega, by omega⟩
              have hw2 : IntKind.i64.wrap (7 * (I : Int)) = 7 * (I : Int) := IntWalk.i64_in _ ⟨by omega, by omega⟩
              have hw3 : IntKind.i64.wrap ((K : Int) * 31 + 7 * (I : Int)) = (K : Int) * 31 + 7 * (I : Int) := IntWalk.i64_in _ ⟨by omega, by omega⟩
              have hw4 : IntKind.i64.wrap ((K : Int) * 31 + 7 * (I : Int) + 11) = (K : Int) * 31 + 7 * (I : Int) + 11 := IntWalk.i64_in _ ⟨by omega, by omega⟩
              go_upto_region 22 with fail
              have hk0 : 0 ≤ ((K : Int) * 31 + 7 * (I : Int) + 11) % 100003 ∧ ((K : Int) * 31 + 7 * (I : Int) + 11) % 100003 < 100003 := by omega
              clear hw1 hw2 hw3 hw4
              generalize ((K : Int) * 31 + 7 * (I : Int) + 11) % 100003 = k2 at *
              obtain ⟨K2, rfl⟩ := Int.eq_ofNat_of_zero_le hk0.1
              have hK2 := hk0.2
              clear hk0
              have hx0 : ¬ 8 + (N : Int) = 0 := by omega
              have hxm : 0 ≤ (K2 : Int) % (8 + (N : Int)) ∧ (K2 : Int) % (8 + (N : Int)) < 8 + (N : Int) := ⟨Int.emod_nonneg _ hx0, Int.emod_lt_of_pos _ (by omega)⟩
              have hXe : (K2 : Int) % (8 + (N : Int)) = ((K2 % (8 + N) : Nat) : Int) := by push_cast; rfl
              have hx1 : IntKind.i64.wrap (8 + (N : Int)) = 8 + (N : Int) := IntWalk.i64_in _ ⟨by omega, by omega⟩
              have hx2 : Int.tmod (K2 : Int) (8 + (N : Int)) = (K2 : Int) % (8 + (N : Int)) := Int.tmod_eq_emod_of_nonneg (by omega)
              generalize hX : (K2 : Int) % (8 + (N : Int)) = X at *
              have hx3 : IntKind.i64.wrap X = X := IntWalk.i64_in _ ⟨by omega, by omega⟩
              have hx4 : IntKind.u16.wrap X = X := by unfold IntKind.wrap; simp [IntKind.bits, IntKind.signed]; omega
              have HX := Lib.hid (And.intro hXe hX)
              clear hXe hX
              go_upto_region 20 with (at_builtin; refine wpList_append_own _ rfl _ _ 22 rfl W3.heap.size 65 i65 (.int .u16 0) 1 2 Try.underlying22 hi65 hz65 hs65 hb65 rfl (by decide) _ _ _ rfl (hown.alloc _) ⟨W4.heap.size, 0, none⟩ 1 1 [.int .u16 X] rfl rfl (cell_one_new _ _ _) (by simp [Value.oneCell']) (by unfold maxLen; omega) (by omega) (by have := hE2.size; simp; omega) ?_; intro v3 w3 hown3 hg3 _; have hE3 := ext_grown (hE2.alloc _) (hown.alloc _) (Nat.le_refl _) hg3)
              have hx5 := HX.out.1
              clear HX hx1 hx2 hx3 hx4
              generalize K2 % (8 + N) = X2 at *
              subst hx5
              go_wp2
              go_roundw
              case rel => exact ⟨K2, I + 1, xs ++ [X2], by omega, by omega, by simp; omega, fun x hx => by
                rcases List.mem_append.1 hx with hx | hx
                · exact hx16 x hx
                · rw [List.mem_singleton.1 hx]; omega, rfl, by go_num, hE3, by rw [List.map_append]; exact hown3⟩
              case measure => simp [intOf]; omega
            · have hII : ¬ (I : Int) < 18 := by omega
              obtain ⟨Ax, cx, rfl, hcx, hcells⟩ := cells_of_owns hown
              have hKb : ∃ a : Nat, a < 256 ∧ IntKind.u8.wrap (K : Int) = (a : Int) := ⟨(IntKind.u8.wrap (K : Int)).toNat, by unfold IntKind.wrap; simp [IntKind.bits, IntKind.signed]; omega, by unfold IntKind.wrap; simp [IntKind.bits, IntKind.signed]; omega⟩
              have hKc : ∃ a : Nat, a < 256 ∧ IntKind.u8.wrap ((K : Int) / 7) = (a : Int) := ⟨(IntKind.u8.wrap ((K : Int) / 7)).toNat, by unfold IntKind.wrap; simp [IntKind.bits, IntKind.signed]; omega, by unfold IntKind.wrap; simp [IntKind.bits, IntKind.signed]; omega⟩
              obtain ⟨ka, hka, hka2⟩ := hKb
              obtain ⟨kb, hkb, hkb2⟩ := hKc
              have hNm : (N : Int) / 3 ≤ 20 ∧ 0 ≤ (N : Int) / 3 := by omega
              have hu1 : IntKind.u8.wrap (N : Int) = (N : Int) := by unfold IntKind.wrap; simp [IntKind.bits, IntKind.signed]; omega
              have hu2 : IntKind.u8.wrap ((N : Int) / 3) = (N : Int) / 3 := by unfold IntKind.wrap; simp [IntKind.bits, IntKind.signed]; omega
              go_upto_region 24 with fail
              refine wp_named ?_
              intro W5 hW5
              have q0 : ∀ w', Ext W5 w' → w'.cell? ⟨W4.heap.size, 0, none⟩ = some (.int .u8 N) := fun w' h => h.cell (by rw [hW5]; simp [go_sem])
              have q1 : ∀ w', Ext W5 w' → w'.cell? ⟨W4.heap.size, 1, none⟩ = some (.int .u8 ((N : Int) / 3)) := fun w' h => h.cell (by rw [hW5]; simp [go_sem])
              have q2 : ∀ w', Ext W5 w' → w'.cell? ⟨W4.heap.size, 2, none⟩ = some (.int .u8 1) := fun w' h => h.cell (by rw [hW5]; simp [go_sem])
              have q3 : ∀ w', Ext W5 w' → w'.cell? ⟨W4.heap.size, 3, none⟩ = some (.bool ((N : Int) % 2 == 0)) := fun w' h => h.cell (by rw [hW5]; simp [go_sem])
              have q4 : ∀ w', Ext W5 w' → w'.cell? ⟨W4.heap.size, 4, none⟩ = some (.slice Ax I cx) := fun w' h => h.cell (by rw [hW5]; simp [go_sem])
              have hE45 : Ext W4 W5 := by rw [hW5]; exact (Ext.refl _).alloc _
              have hraw : ∀ w', Ext W5 w' → RawV w' (.agg #[.int .u8 N, .int .u8 ((N : Int) / 3), .int .u8 1, .bool ((N : Int) % 2 == 0), .slice Ax I cx]) ⟨N, N / 3, 1, (N : Int) % 2 == 0, xs⟩ := fun w' h =>
                ⟨.slice Ax I cx, cx, by simp, ⟨Ax, by rw [hxl], hcells.ext (hE45.trans h), by rw [hxl]; exact hcx, by rw [hxl]; unfold maxLen; omega, hx16⟩, by show N < 256; omega, by show N / 3 < 256; omega, by show 1 < 256; omega⟩
              clear hW5 hown hcells hx16
              have HRAW := Lib.hid hraw
              clear hraw
              generalize W4.heap.size = N4 at *
              go_upto_region 25 with fail
              refine wp_named ?_
              intro W6 hW6
              have hE56 : Ext W5 W6 := by rw [hW6]; exact ((Ext.refl _).alloc _).alloc _
              have r0 : ∀ w', Ext W6 w' → w'.cell? ⟨W5.heap.size + 1, 0, none⟩ = some (.slice (some ⟨W5.heap.size, 0, none⟩) 5 5) := fun w' h => h.cell (by rw [hW6]; simp [go_sem])
              have hu8 : ∀ w', Ext W6 w' → U8C w' (.slice (some ⟨W5.heap.size, 0, none⟩) 5 5) [ka, N, 1, 2, kb] 5 := fun w' h =>
                U8C.ext (u8_of_blk (xs := [ka, N, 1, 2, kb]) (t := 5) (by rw [hW6]; exact heap_ext ((Ext.refl _).alloc _) (heap_alloc_new W5 _)) (by intro x hx; simp at hx; omega)) h
              have HU8 := Lib.hid hu8
              clear hu8 hW6 hkb2 hka2
              generalize W5.heap.size = N5 at *
              have q0 : ∀ w', Ext W6 w' → w'.cell? ⟨N4, 0, none⟩ = some (.int .u8 N) := fun w' h => q0 w' (hE56.trans h)
              have q1 : ∀ w', Ext W6 w' → w'.cell? ⟨N4, 1, none⟩ = some (.int .u8 ((N : Int) / 3)) := fun w' h => q1 w' (hE56.trans h)
              have q2 : ∀ w', Ext W6 w' → w'.cell? ⟨N4, 2, none⟩ = some (.int .u8 1) := fun w' h => q2 w' (hE56.trans h)
              have q3 : ∀ w', Ext W6 w' → w'.cell? ⟨N4, 3, none⟩ = some (.bool ((N : Int) % 2 == 0)) := fun w' h => q3 w' (hE56.trans h)
              have q4 : ∀ w', Ext W6 w' → w'.cell? ⟨N4, 4, none⟩ = some (.slice Ax I cx) := fun w' h => q4 w' (hE56.trans h)
              obtain ⟨m7, hm7, hwm7⟩ : ∃ a : Nat, a < 256 ∧ IntKind.u8.wrap ((N : Int) % 7) = (a : Int) := ⟨(IntKind.u8.wrap ((N : Int) % 7)).toNat, by unfold IntKind.wrap; simp [IntKind.bits, IntKind.signed]; omega, by unfold IntKind.wrap; simp [IntKind.bits, IntKind.signed]; omega⟩
              obtain ⟨m2, hm2, hwm2⟩ : ∃ a : Nat, a < 256 ∧ IntKind.u8.wrap ((N : Int) % 2) = (a : Int) := ⟨(IntKind.u8.wrap ((N : Int) % 2)).toNat, by unfold IntKind.wrap; simp [IntKind.bits, IntKind.signed]; omega, by unfold IntKind.wrap; simp [IntKind.bits, IntKind.signed]; omega⟩
              obtain ⟨m3, hm3, hwm3⟩ : ∃ a : Nat, a < 256 ∧ IntKind.u8.wrap ((K : Int) % 3) = (a : Int) := ⟨(IntKind.u8.wrap ((K : Int) % 3)).toNat, by unfold IntKind.wrap; simp [IntKind.bits, IntKind.signed]; omega, by unfold IntKind.wrap; simp [IntKind.bits, IntKind.signed]; omega⟩
              obtain ⟨m5, hm5, hwm5⟩ : ∃ a : Nat, a < 256 ∧ IntKind.u8.wrap ((N : Int) % 5) = (a : Int) := ⟨(IntKind.u8.wrap ((N : Int) % 5)).toNat, by unfold IntKind.wrap; simp [IntKind.bits, IntKind.signed]; omega, by unfold IntKind.wrap; simp [IntKind.bits, IntKind.signed]; omega⟩
              have hc7 : ∀ W9, Ext W6 W9 → Calls Try.prog 7 #[.agg #[.int .u8 N, .int .u8 ((N : Int) / 3), .int .u8 1, .bool ((N : Int) % 2 == 0), .slice Ax I cx], .agg #[.slice (some ⟨W9.heap.size, 0, none⟩) 6 6], .agg #[.slice (some ⟨W9.heap.size + 1, 0, none⟩) 6 6]]
                  ((W9.alloc (.cells #[.int .u8 0, .int .u8 m2, .int .u8 m3, .int .u8 1, .int .u8 0, .int .u8 2] 5)).alloc (.cells #[.int .u8 0, .int .u8 1, .int .u8 2, .int .u8 3, .int .u8 4, .int .u8 m5] 5)) fun e w' => e = .returned (.bool true) ∧ Ext W9 w' := fun W9 h => by
                have := Respects_new W9 _ _ 5 5 (fun w' h' => HRAW.out _ (hE56.trans (h.trans h'))) [0, m2, m3, 1, 0, 2] [0, 1, 2, 3, 4, m5] (by intro x hx; simp at hx; omega) (by intro x hx; simp at hx; omega)
                simpa using this
              have HC7 := Lib.hid hc7
              clear hc7
              go_upto_region 16 with (first
                | (go_at_call 3; with_reducible refine (RefinesRounds_any W6 _ _ (HRAW.out _ hE56) N (by omega)).mono ?_; rintro e W7 ⟨rfl, hE7⟩)
                | (go_at_call 4; with_reducible refine (RefinesClasses_any W7 _ _ (HRAW.out _ (hE56.trans hE7)) m7 hm7).mono ?_; rintro e W8 ⟨rfl, hE8⟩; have hE8 := hE7.trans hE8)
                | (go_at_call 5; with_reducible refine (RefinesEquivalent_any W8 _ _ (HRAW.out _ (hE56.trans hE8)) _ _ _ _ _ (HU8.out _ hE8)).mono ?_; rintro e W9 ⟨rfl, hE9⟩; have hE9 := hE8.trans hE9)
                | (go_at_call 7; with_reducible refine (HC7.out W9 hE9).mono ?_; rintro e W10 ⟨rfl, hE10⟩))
              go_wp2
              go_roundw
              case rel => exact ⟨K, N + 1, by omega, hK, rfl, by go_num, hE1.trans (hE2.trans (hE45.trans (hE56.trans (hE9.trans hE10))))⟩
              case measure => simp [intOf]; omega
        · have hN2 : N = 60 := by omega
          subst hN2
          go_wp2_with (go_at_call 15; refine (lives_any _).mono ?_; rintro e W9 ⟨rfl, hE9⟩)
          go_ret
          exact ⟨rfl, hE.trans (hE1.trans hE9)⟩
end Go.Proofs.Ytkmcplhgakpneaa
