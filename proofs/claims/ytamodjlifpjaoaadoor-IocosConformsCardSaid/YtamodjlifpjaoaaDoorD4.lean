/- B.Of 11, told with where its system lies. -/
import Derived.Test.YtamodjlifpjaoaaDoorGI
namespace Go.Proofs.YtamodjlifpjaoaaDoor
open Go.RowKit
set_option linter.unusedVariables false
set_option linter.unusedSimpArgs false
attribute [local go_sem] Oper.quietV quietV Oper.gives givesV ext_refl_iff ext_alloc_iff ext_drew_iff ext_drewN_iff
/-- What the rows show; their blocks hold arcs. -/
def RowsKT (F : Nat → Prop) (vs : List Value) (rows : List (List Arc)) (W : World) : Prop := RowsKnow vs rows W ∧ ∀ b, F b → ∃ cs, W.heap[b]? = some (.cells cs 67 (0, 0))
theorem own_type {w : World} {base : Nat} {e : TypeId} {size : Nat} {v : Value} {n : Nat} {xs : List Value} (h : w.ownsRow base e size v n xs) : ∀ b, v.ownBlock = some b → ∃ cs, w.heap[b]? = some (.cells cs e (0, 0)) := fun b hb => by
  rcases h.2 with ⟨h2, _⟩ | ⟨g, cap, cur, h2, _, hg, _⟩
  · rw [h2] at hb; cases hb
  · rw [h2] at hb
    have : g = b := by simpa [Value.ownBlock] using hb
    subst this
    exact ⟨cur, hg⟩
/-- A system in memory; where it lies. -/
def LtsK (w : World) (v : Value) (x : Lts) : Prop := ∃ S : Nat → Prop, (∀ b, S b → ∃ cs t, w.heap[b]? = some (.cells cs t (0, 0)) ∧ (t = 67 ∨ t = 68)) ∧ ∀ w' : World, (∀ b, S b → w'.heap[b]? = w.heap[b]?) → LtsV w' v x
theorem LtsK.lts {w : World} {v : Value} {x : Lts} (h : LtsK w v x) : LtsV w v x := by
  obtain ⟨S, _, h⟩ := h
  exact h w (fun b _ => rfl)
theorem LtsK.ext {w w' : World} {v : Value} {x : Lts} (h : LtsK w v x) (e : Ext w w') : LtsK w' v x := by
  obtain ⟨S, h1, h2⟩ := h
  refine ⟨S, fun b hb => ?_, fun w'' hw => h2 w'' fun b hb => ?_⟩
  · obtain ⟨cs, t, h3, h4⟩ := h1 b hb
    exact ⟨cs, t, heap_ext e h3, h4⟩
  · obtain ⟨cs, t, h3, h4⟩ := h1 b hb
    rw [hw b hb, h3, heap_ext e h3]
/-- A store to a block of another type leaves it. -/
theorem LtsK.grown {w w' : World} {v : Value} {x : Lts} {b t : Nat} {cs : Array Value} (h : LtsK w v x) (hg : w.grownBy w' (some b)) (hb : w.heap[b]? = some (.cells cs t (0, 0))) (ht : t ≠ 67 ∧ t ≠ 68) : LtsK w' v x := by
  obtain ⟨S, h1, h2⟩ := h
  have hS : ∀ c, S c → w'.heap[c]? = w.heap[c]? := fun c hc => by
    obtain ⟨cs2, t2, h3, h4⟩ := h1 c hc
    refine hg.block c (lt_of_block h3) (fun e => ?_)
    injection e with e
    subst e
    rw [hb] at h3
    injection h3 with h3
    injection h3 with _ e2 _
    rcases h4 with h4 | h4
    · exact ht.1 (e2.trans h4)
    · exact ht.2 (e2.trans h4)
  refine ⟨S, fun c hc => by rw [hS c hc]; exact h1 c hc, fun w'' hw => h2 w'' fun c hc => by rw [hw c hc, hS c hc]⟩
def OfLT (b3 b5 : Nat) (i o : Int) (rv : Value) (F : Nat → Prop) (vs : List Value) (rows : List (List Arc)) : List Asn :=
  [.blk b5 (.cells #[.int .i64 1, .int .i64 i, .int .i64 o] 69), .blk b3 (.cells #[.int .i64 i, .int .i64 o, rv] 28), .row 68 1 rv rows.length vs, .any F (RowsKT F vs rows)]
def OfStT (W0 W : World) (b3 b5 : Nat) (i o N : Int) (f : Bool) (rows : List (List Arc)) : Prop := (∀ r ∈ rows, r.length ≤ 256 ∧ RowS i o N f r 3 0 0) ∧ ∃ rv F vs, vs.length = rows.length ∧ OwnL W0 W (OfLT b3 b5 i o rv F vs rows)
/-- With a row under way. -/
def OfRowT (W0 W : World) (b3 b5 : Nat) (i o N : Int) (f : Bool) (rows : List (List Arc)) (v : Value) (row : List Arc) : Prop := (∀ r ∈ rows, r.length ≤ 256 ∧ RowS i o N f r 3 0 0) ∧ ∃ rv F vs, vs.length = rows.length ∧ OwnL W0 W (.row 67 3 v row.length (row.flatMap arcCells) :: OfLT b3 b5 i o rv F vs rows)
theorem OfRowT.trans {W0 W W' : World} {b3 b5 : Nat} {i o N : Int} {f : Bool} {rows : List (List Arc)} {v : Value} {row : List Arc} (h : OfRowT W0 W b3 b5 i o N f rows v row) (e : Ext W W') : OfRowT W0 W' b3 b5 i o N f rows v row := by
  obtain ⟨h1, rv, F, vs, h2, h3⟩ := h
  exact ⟨h1, rv, F, vs, h2, h3.trans e⟩
theorem OfRowT.ext {W0 W : World} {b3 b5 : Nat} {i o N : Int} {f : Bool} {rows : List (List Arc)} {v : Value} {row : List Arc} (h : OfRowT W0 W b3 b5 i o N f rows v row) : Ext W0 W := by
  obtain ⟨h1, rv, F, vs, h2, h3⟩ := h
  exact h3.ext
theorem OfRowT.row {W0 W : World} {b3 b5 : Nat} {i o N : Int} {f : Bool} {rows : List (List Arc)} {v : Value} {row : List Arc} (h : OfRowT W0 W b3 b5 i o N f rows v row) : W.ownsRow W0.heap.size 67 3 v row.length (row.flatMap arcCells) := by
  obtain ⟨h1, rv, F, vs, h2, h3⟩ := h
  exact h3.get 0 rfl
theorem OfRowT.labs {W0 W : World} {b3 b5 : Nat} {i o N : Int} {f : Bool} {rows : List (List Arc)} {v : Value} {row : List Arc} (h : OfRowT W0 W b3 b5 i o N f rows v row) : W.heap[b5]? = some (.cells #[.int .i64 1, .int .i64 i, .int .i64 o] 69 (0, 0)) := by
  obtain ⟨h1, rv, F, vs, h2, h3⟩ := h
  exact (h3.get 1 rfl).2
theorem OfRowT.app {W0 W W' : World} {b3 b5 : Nat} {i o N : Int} {f : Bool} {rows : List (List Arc)} {v v' : Value} {row : List Arc} {a : Arc} {n' : Nat} (h : OfRowT W0 W b3 b5 i o N f rows v row) (hg : W.grownBy W' v.ownBlock) (ho : W'.ownsRow W0.heap.size 67 3 v' n' (row.flatMap arcCells ++ arcCells a)) (hn : n' = row.length + 1)
    (hb : ∀ b, v'.ownBlock = some b → v.ownBlock = some b ∨ W.heap.size ≤ b) : OfRowT W0 W' b3 b5 i o N f rows v' (row ++ [a]) := by
  obtain ⟨h1, rv, F, vs, h2, h3⟩ := h
  subst hn
  refine ⟨h1, rv, F, vs, h2, ?_⟩
  have := h3.app 0 rfl hg ho hb
  rw [List.flatMap_append, List.length_append]
  simpa using this
theorem OfStT.begin {W0 W : World} {b3 b5 : Nat} {i o N : Int} {f : Bool} {rows : List (List Arc)} (h : OfStT W0 W b3 b5 i o N f rows) : OfRowT W0 W b3 b5 i o N f rows (.slice none 0 0) [] := by
  obtain ⟨h1, rv, F, vs, h2, h3⟩ := h
  exact ⟨h1, rv, F, vs, h2, h3.add (Ext.refl W) (A := .row 67 3 (.slice none 0 0) 0 []) (World.ownsRow_nil W _ 67 3)⟩
/-- The row is put behind the others. -/
theorem OfRowT.close {W0 W W' : World} {b3 b5 : Nat} {i o N : Int} {f : Bool} {rows : List (List Arc)} {v rv rv' : Value} {row : List Arc} {F : Nat → Prop} {vs : List Value} (h1 : ∀ r ∈ rows, r.length ≤ 256 ∧ RowS i o N f r 3 0 0) (h2 : vs.length = rows.length) (h3 : OwnL W0 W (.row 67 3 v row.length (row.flatMap arcCells) :: OfLT b3 b5 i o rv F vs rows))
    (hr : row.length ≤ 256 ∧ RowS i o N f row 3 0 0) {n' : Nat} (hg : W.grownBy W' rv.ownBlock) (ho : W'.ownsRow W0.heap.size 68 1 rv' n' (vs ++ [v])) (hn : n' = rows.length + 1) (hb : ∀ b, rv'.ownBlock = some b → rv.ownBlock = some b ∨ W.heap.size ≤ b) :
    OfStT W0 (W'.setCell ⟨b3, 2, none⟩ rv') b3 b5 i o N f (rows ++ [row]) := by
  subst hn
  have h4 := (h3.app 3 rfl hg ho hb).put 2 rfl 2 rv'
  have h5 : OwnL W0 (W'.setCell ⟨b3, 2, none⟩ rv') (.row 67 3 v row.length (row.flatMap arcCells) :: .blk b5 (.cells #[.int .i64 1, .int .i64 i, .int .i64 o] 69) :: .blk b3 (.cells #[.int .i64 i, .int .i64 o, rv'] 28) :: .row 68 1 rv' (rows.length + 1) (vs ++ [v]) :: .any F (RowsKT F vs rows) :: []) := h4
  have h7 : OwnL W0 (W'.setCell ⟨b3, 2, none⟩ rv') _ := ((h5.seal (Φ := fun W => ArcsC W v row ∧ ∀ b, v.ownBlock = some b → ∃ cs, W.heap[b]? = some (.cells cs 67 (0, 0))) (fun W' h => by
    refine ⟨?_, own_type h⟩
    obtain ⟨A, c, rfl, hn, hc⟩ := cells_of_owns h
    exact ⟨A, c, rfl, hc, hn, by unfold lenMax; omega⟩)).perm (.cons _ (List.perm_middle (l₁ := [_, _, _]) (l₂ := [])))).merge
  have h8 := h7.weaken (Φ' := RowsKT (fun b => v.ownBlock = some b ∨ F b) (vs ++ [v]) (rows ++ [row])) (fun W h => ⟨fun j u r hu hr => by
    rcases Nat.lt_or_ge j vs.length with hj | hj
    · rw [List.getElem?_append_left hj] at hu
      rw [List.getElem?_append_left (by omega)] at hr
      exact h.2.1 j u r hu hr
    · have hj2 : j = vs.length := by have := (List.getElem?_eq_some_iff.1 hu).1; simp at this; omega
      subst hj2
      rw [List.getElem?_append_right (Nat.le_refl _), Nat.sub_self] at hu
      rw [h2, List.getElem?_append_right (Nat.le_refl _), Nat.sub_self] at hr
      cases hu; cases hr
      exact h.1.1, fun b hb => hb.elim (h.1.2 b) (h.2.2 b)⟩)
  refine ⟨fun r hr' => ?_, rv', fun b => v.ownBlock = some b ∨ F b, vs ++ [v], by simp [h2], ?_⟩
  · rcases List.mem_append.1 hr' with h | h
    · exact h1 r h
    · rw [List.mem_singleton.1 h]; exact hr
  · have h9 := h8.perm (List.perm_append_singleton _ [_, _, _]).symm
    unfold OfLT
    rw [List.length_append]
    exact h9
theorem ltsK_of {N : Nat} {W : World} {i o : Int} {Ar : Option Addr} {cr : Nat} {rows : List (List Arc)} {F : Nat → Prop} {vs : List Value} (hrow : W.ownsRow N 68 1 (.slice Ar rows.length cr) rows.length vs) (hany : (Asn.any F (RowsKT F vs rows)).ok N W) (hvl : vs.length = rows.length) (hl : rows.length ≤ 1000) : LtsK W (.agg #[.int .i64 i, .int .i64 o, .slice Ar rows.length cr]) ⟨i, o, rows⟩ := by
  refine ⟨fun b => (Value.slice Ar rows.length cr).ownBlock = some b ∨ F b, fun b hb => ?_, fun w' hw => ?_⟩
  · rcases hb with hb | hb
    · obtain ⟨cs, h⟩ := own_type hrow b hb
      exact ⟨cs, 68, h, .inr rfl⟩
    · obtain ⟨cs, h⟩ := (hany.2 W (fun _ _ => rfl)).2 b hb
      exact ⟨cs, 67, h, .inl rfl⟩
  · have h1 := ownsRow_of hrow (fun b hb => hw b (.inl hb))
    have h2 := (hany.2 w' (fun b hb => hw b (.inr hb))).1
    obtain ⟨A9, c9, hv9, hnc9, hc9⟩ := cells_of_owns h1
    cases hv9
    exact ⟨_, rfl, arows_of hc9 rfl hvl h2 hnc9 (by omega)⟩
set_option maxRecDepth 100000 in
set_option maxHeartbeats 16000000 in
theorem bOfK_any (w : World) (v : Value) (r : BNum) (hv : BV w v r) : Calls Tryd.prog 11 #[v] w fun e w' => ∃ x A c, e = .returned (.agg #[.int .i64 x.ins, .int .i64 x.outs, .slice A x.rows.length c]) ∧ LtsK w' (.agg #[.int .i64 x.ins, .int .i64 x.outs, .slice A x.rows.length c]) x ∧ BLike x (r.i % 3) (r.o % 3) r.f ∧ Ext w w' := by
  obtain ⟨i67, hi67, hz67, hs67, hb67⟩ := info_parts arc_info
  obtain ⟨i68, hi68, hz68, hs68, hb68⟩ := info_parts arcs_info
  obtain ⟨A, c, rfl, hA, h1, h2, h3, _, hnm⟩ := id hv
  go_enter Tryd.func11, Tryd.ntmps11
  go_upto_region 1 with fail
  refine wp_named ?_
  intro W1 hW1
  have hE1 : Ext w W1 := by rw [hW1]; exact ((Ext.refl _).alloc _).alloc _
  have k0 : ∀ w', Ext W1 w' → w'.cell? ⟨w.heap.size, 0, none⟩ = some (.int .u8 r.i) := fun w' h => h.cell (by rw [hW1]; simp [go_sem])
  have k1 : ∀ w', Ext W1 w' → w'.cell? ⟨w.heap.size, 1, none⟩ = some (.int .u8 r.o) := fun w' h => h.cell (by rw [hW1]; simp [go_sem])
  have k2 : ∀ w', Ext W1 w' → w'.cell? ⟨w.heap.size, 2, none⟩ = some (.int .u8 r.m) := fun w' h => h.cell (by rw [hW1]; simp [go_sem])
  have k3 : ∀ w', Ext W1 w' → w'.cell? ⟨w.heap.size, 3, none⟩ = some (.slice A r.n c) := fun w' h => h.cell (by rw [hW1]; simp [go_sem])
  have k4 : ∀ w', Ext W1 w' → w'.cell? ⟨w.heap.size, 4, none⟩ = some (.bool r.f) := fun w' h => h.cell (by rw [hW1]; simp [go_sem])
  have kb : ∀ w', Ext W1 w' → w'.heap[w.heap.size + 1]? = some (.cells #[.int .i64 0, .int .i64 0, .slice none 0 0] 28 (0, 0)) := fun w' h => heap_ext h (by rw [hW1]; have := heap_alloc_new (w.alloc (.cells #[.int .u8 r.i, .int .u8 r.o, .int .u8 r.m, .slice A r.n c, .bool r.f] 24)) (.cells #[.int .i64 0, .int .i64 0, .slice none 0 0] 28); simpa using this)
  clear hW1
  have HV := Lib.hid (And.intro hE1 (And.intro (hv.ext hE1) (lt_of_block (kb W1 (Ext.refl _)))))
  have hE0 := Ext.refl W1
  clear hv hA hE1
  generalize hb2 : w.heap.size + 1 = b2 at *
  generalize hb1 : w.heap.size = b1 at *
  have HB := Lib.hid (And.intro hb1 hb2)
  clear hb1 hb2
  obtain ⟨i, hi⟩ : ∃ i : Nat, i = r.i % 3 := ⟨_, rfl⟩
  obtain ⟨o, ho⟩ : ∃ o : Nat, o = r.o % 3 := ⟨_, rfl⟩
  obtain ⟨N, hN⟩ : ∃ N : Nat, N = 1 + r.m % 5 := ⟨_, rfl⟩
  have ei : (r.i : Int) % 3 = (i : Int) := by omega
  have eo : (r.o : Int) % 3 = (o : Int) := by omega
  have em : (1 : Int) + (r.m : Int) % 5 = (N : Int) := by omega
  have HN := Lib.hid (And.intro hi (And.intro ho (And.intro (show i ≤ 2 by omega) (And.intro (show o ≤ 2 by omega) (show 1 ≤ N ∧ N ≤ 5 by omega)))))
  clear hi ho hN
  go_upto_region 2 with (with_reducible refine wpList_store_blk _ rfl 28 _ _ rfl W1.heap.size 28 _ _ rfl rfl (heap_alloc_new _ _) (by kernel_rfl) (by kernel_rfl) (by kernel_rfl) ?_; intro W2 h2' g2)
  try simp only [ei, eo] at h2'
  have e2 : Ext W1 W2 := Below.grown (alloc_ext W1 _) g2 (alloc_ext W1 _).size (fun k hk => by cases hk; exact Nat.le_refl _)
  have hO2 : OwnL W1 W2 [.blk W1.heap.size (.cells #[.int .i64 (i : Int), .int .i64 (o : Int), .slice none 0 0] 28)] := ⟨e2, fun A hA => by rw [List.mem_singleton.1 hA]; exact ⟨Nat.le_refl _, h2'⟩, List.pairwise_singleton _ _⟩
  clear g2 h2'
  generalize hb3 : W1.heap.size = b3 at *
  have HB3 := Lib.hid hb3
  clear hb3
  have q0 := cell_of_blk (hO2.get 0 rfl).2 0 (u := .int .i64 (i : Int)) rfl
  have q1 := cell_of_blk (hO2.get 0 rfl).2 1 (u := .int .i64 (o : Int)) rfl
  have HO2 := Lib.hid hO2
  clear hO2
  go_upto_region 4 with (with_reducible refine wpList_store_blk _ rfl 69 _ _ rfl W2.heap.size 69 _ _ rfl rfl (heap_alloc_new _ _) (by kernel_rfl) (by kernel_rfl) (by kernel_rfl) ?_; intro W3 h3' g3)
  have e3 : Ext W2 W3 := Below.grown (alloc_ext W2 _) g3 (alloc_ext W2 _).size (fun k hk => by cases hk; exact Nat.le_refl _)
  have hO3 : OwnL W1 W3 [.blk W2.heap.size (.cells #[.int .i64 1, .int .i64 (i : Int), .int .i64 (o : Int)] 69), .blk b3 (.cells #[.int .i64 (i : Int), .int .i64 (o : Int), .slice none 0 0] 28)] := HO2.out.add e3 (A := .blk W2.heap.size (.cells #[.int .i64 1, .int .i64 (i : Int), .int .i64 (o : Int)] 69)) ⟨Nat.le_refl _, h3'⟩
  have hS3 : OfStT W1 W3 b3 W2.heap.size i o N r.f [] := ⟨fun r hr => (by cases hr), .slice none 0 0, fun _ => False, [], rfl, (((hO3.add (Ext.refl _) (A := .any (fun _ => False) (RowsKT (fun _ => False) [] [])) ⟨fun b hb => hb.elim, fun w' _ => ⟨fun j u r hu => by simp at hu, fun b hb => hb.elim⟩⟩).add (Ext.refl _) (A := .row 68 1 (.slice none 0 0) 0 []) (World.ownsRow_nil W3 _ 68 1)).perm (List.perm_append_comm (l₁ := [_, _]) (l₂ := [_, _])))⟩
  have HS3 := Lib.hid hS3
  have HK := Lib.hid (And.intro k0 (And.intro k1 (And.intro k2 (And.intro k3 k4))))
  clear h3' g3 hO3 hS3 e2 e3 q0 q1 ei eo em k0 k1 k2 k3 k4 hE0
  generalize W2.heap.size = b5 at *
  go_wp2
  go_loopw [6] (fun sv wr => ∃ (s : Nat) (rows : List (List Arc)), sv = .int .i64 s ∧ s ≤ N ∧ Hid (rows.length = s ∧ OfStT W1 wr b3 b5 i o N r.f rows)) (fun sv _ => N - (intOf sv).toNat)
  case atStart => exact ⟨0, [], rfl, by omega, Lib.hid ⟨rfl, HS3.out⟩⟩
  case round =>
    clear HS3
    obtain ⟨s, rows, rfl, hs, HR⟩ := hrel
    obtain ⟨W5, hW5⟩ : ∃ W, W = wr := ⟨_, rfl⟩; subst hW5
    by_cases hsl : s < N
    · have hR0 := OfStT.begin HR.out.2
      have HR0 := Lib.hid hR0
      clear hR0
      go_wp2
      go_loopw [8, 7] (fun kv rv wr => ∃ (k : Nat) (row : List Arc), kv = .int .i64 k ∧ k ≤ 3 ∧ Hid (row.length ≤ 40 * k ∧ RowS i o N r.f row k 0 0 ∧ OfRowT W1 wr b3 b5 i o N r.f rows rv row)) (fun kv _ _ => 3 - (intOf kv).toNat)
      case atStart => exact ⟨0, [], rfl, by omega, Lib.hid ⟨by simp, RowS.start _ _ _ _, HR0.out⟩⟩
      case round =>
        clear HR0
        obtain ⟨k, row, rfl, hk, HR0⟩ := hrel
        obtain ⟨W6, hW6⟩ : ∃ W, W = wr := ⟨_, rfl⟩; subst hW6
        by_cases hkl : k < 3
        · have hkI : (k : Int) < 3 := by omega
          obtain ⟨lab, hlab, hl2⟩ : ∃ lab : Nat, (lab : Int) = labN i o k ∧ lab ≤ 2 := by
            have := HN.out
            unfold labN
            split
            · exact ⟨i, rfl, by omega⟩
            · split
              · exact ⟨o, rfl, by omega⟩
              · exact ⟨1, rfl, by omega⟩
          have HL := Lib.hid hlab
          clear hlab
          go_wp2
          go_loopw [9, 7] (fun lv rv wr => ∃ (l : Nat) (row : List Arc), lv = .int .i64 l ∧ l ≤ lab ∧ Hid (row.length ≤ 40 * k + 10 * l ∧ RowS i o N r.f row k l 0 ∧ OfRowT W1 wr b3 b5 i o N r.f rows rv row)) (fun lv _ _ => lab - (intOf lv).toNat)
          case atStart => exact ⟨0, row, rfl, by omega, Lib.hid ⟨by simpa using HR0.out.1, HR0.out.2.1, HR0.out.2.2⟩⟩
          case round =>
            clear HR0
            obtain ⟨l, row0, rfl, hl, HR0⟩ := hrel
            obtain ⟨W7, hW7⟩ : ∃ W, W = wr := ⟨_, rfl⟩; subst hW7
            have hcl : W7.cell? ⟨b5, k, none⟩ = some (.int .i64 (lab : Int)) := by
              have hb := HR0.out.2.2.labs
              rw [HL.out]
              have hk3 : k = 0 ∨ k = 1 ∨ k = 2 := by omega
              rcases hk3 with rfl | rfl | rfl <;> exact cell_of_blk hb _ rfl
            by_cases hll : l < lab
            · obtain ⟨A7, c7, hv7, _, _⟩ := cells_of_owns HR0.out.2.2.row
              subst hv7
              have hlen0 : row0.length ≤ 200 := by have := HR0.out.1; omega
              go_upto_region 16 with fail
              clear hcl
              go_loopw [11, 7] (fun tv rv wr => ∃ (t : Nat) (row : List Arc), tv = .int .i64 t ∧ t ≤ N ∧ Hid (row0 <+: row ∧ (∀ a ∈ row.drop row0.length, a.k = k ∧ a.l = l) ∧ row.length ≤ row0.length + t ∧ RowS i o N r.f row k l t ∧ OfRowT W1 wr b3 b5 i o N r.f rows rv row)) (fun tv _ _ => N - (intOf tv).toNat)
              case atStart => exact ⟨0, row0, rfl, by omega, Lib.hid ⟨List.prefix_refl _, by simp, by omega, HR0.out.2.1, HR0.out.2.2⟩⟩
              case round =>
                obtain ⟨t, row, rfl, ht, HR⟩ := hrel
                obtain ⟨W8, hW8⟩ : ∃ W, W = wr := ⟨_, rfl⟩; subst hW8
                have hN5 := HN.out.2.2.2.2
                have hE8 := HR.out.2.2.2.2.ext
                obtain ⟨A8, c8, hv8, hc8, _⟩ := cells_of_owns HR.out.2.2.2.2.row
                subst hv8
                have hlen8 : row.length ≤ 300 := by have := HR.out.2.2.1; omega
                by_cases htl : t < N
                · have k0 := HK.out.1 W8 hE8
                  have k1 := HK.out.2.1 W8 hE8
                  have k2 := HK.out.2.2.1 W8 hE8
                  have k3 := HK.out.2.2.2.1 W8 hE8
                  have k4 := HK.out.2.2.2.2 W8 hE8
                  have hb := HR.out.2.2.2.2.labs
                  have q0 := cell_of_blk hb 0 (u := .int .i64 1) rfl
                  have q1 := cell_of_blk hb 1 (u := .int .i64 (i : Int)) rfl
                  have q2 := cell_of_blk hb 2 (u := .int .i64 (o : Int)) rfl
                  have hhas := bhas_any W8 _ r s k l t N i o (HV.out.2.1.ext hE8) (by omega) (by omega) (by have := HN.out; omega) (by have := HN.out; omega)
                  have hu8 : IntKind.u8.wrap (k : Int) = (k : Int) := by simp [IntKind.wrap, IntKind.bits, IntKind.signed]; omega
                  have hsz := hE8.size
                  clear hE8 hb hc8
                  go_upto_region 18 with fail
                  go_upto_region 19 with ((with_reducible refine hhas.mono ?_); rintro e W9 ⟨bb, rfl, e9⟩)
                  · skip
                    have hR9 := HR.out.2.2.2.2.trans e9
                    have hrow := hR9.row
                    have hsz9 : W1.heap.size ≤ W9.heap.size := Nat.le_trans hsz e9.size
                    clear k0 k1 k2 k3 k4 q0 q1 q2 hhas
                    go_wp2_with (at_builtin; refine wpList_append_own2 rfl _ _ 68 rfl W1.heap.size 67 i67 (.agg #[.int .u8 0, .int .i64 0, .int .i64 0]) 3 24 Tryd.underlying68 hi67 hz67 hs67 hb67 rfl (by decide) (.slice A8 row.length c8) row.length (row.flatMap arcCells) rfl (World.ownsRow.alloc hrow _) ⟨W9.heap.size, 0, none⟩ 1 1 [.int .u8 (k : Int), .int .i64 (l : Int), .int .i64 (t : Int)] rfl rfl (new_cell3 _ _ _ _ _ _ rfl) (three_cells _ _ _) (by unfold maxLen; omega) (by omega) (by simp; omega) ?_; intro v9 w9 hown9 hg9 hb9)
                    have hR10 := OfRowT.app (a := ⟨k, l, t⟩) (hR9.trans (alloc_ext W9 (.cells #[.int .u8 (k : Int), .int .i64 (l : Int), .int .i64 (t : Int)] 67))) hg9 hown9 rfl hb9
                    go_roundw
                    case rel =>
                      refine ⟨t + 1, row ++ [⟨k, l, t⟩], by go_num, htl, Lib.hid ⟨HR.out.1.trans (List.prefix_append _ _), fun a ha => ?_, by simp; have := HR.out.2.2.1; omega, ?_, hR10⟩⟩
                      · rw [List.drop_append_of_le_length HR.out.1.length_le] at ha
                        rcases List.mem_append.1 ha with ha | ha
                        · exact HR.out.2.1 a ha
                        · rw [List.mem_singleton.1 ha]; exact ⟨rfl, rfl⟩
                      · have h := HR.out.2.2.2.1.push (by omega) ⟨by omega, by rw [← HL.out]; omega⟩ ⟨by omega, by omega⟩
                        push_cast
                        exact h
                    case measure => simp [intOf]; omega
                  · skip
                    go_roundw
                    case rel => exact ⟨t + 1, row, by go_num, htl, Lib.hid ⟨HR.out.1, HR.out.2.1, by have := HR.out.2.2.1; omega, HR.out.2.2.2.1.skip _ (by omega), HR.out.2.2.2.2.trans e9⟩⟩
                    case measure => simp [intOf]; omega
                · obtain rfl : t = N := by omega
                  have k4 := HK.out.2.2.2.2 W8 hE8
                  have hsz := hE8.size
                  have hN5' := HN.out.2.2.2.2
                  have hl30 : 40 * k + 10 * l ≤ 200 := by omega
                  clear hc8 hE8
                  by_cases hk1 : k = 1
                  · have g1 : ((k : Int) == 1) = true := by simp [hk1]
                    by_cases hlr : row.length = row0.length
                    · have g2 : ((row.length : Int) == (row0.length : Int)) = true := by simp [hlr]
                      have hrow0 : row0 = row := HR.out.1.eq_of_length hlr.symm
                      by_cases hf : r.f = true
                      rotate_left
                      · have hf' : r.f = false := by simpa using hf
                        rw [hf'] at k4
                        have HF := Lib.hid hf
                        clear hf hf'
                        have HL2 := Lib.hid (HR.out.2.2.2.1.label (fun h => absurd h HF.out))
                        clear hlr hrow0 hk1
                        go_wp2
                        go_roundw
                        case rel => exact ⟨l + 1, row, by go_num, hll, Lib.hid ⟨by have := HR.out.2.2.1; have := HR0.out.1; omega, by push_cast; exact HL2.out, HR.out.2.2.2.2⟩⟩
                        case measure => simp [intOf]; omega
                      · rw [hf] at k4
                        clear hf
                        have hR9 := HR.out.2.2.2.2
                        have hrow := hR9.row
                        have hps := (HR0.out.2.1.skip (s : Int) (by omega)).push (by omega) ⟨by omega, by rw [← HL.out]; omega⟩ ⟨by omega, by omega⟩
                        have HL2 := Lib.hid (hps.label (fun _ _ => ⟨⟨k, l, s⟩, by simp, hk1, rfl⟩))
                        rw [hrow0] at HL2
                        have HK1 := Lib.hid hk1
                        clear hps hlr hrow0 hk1
                        go_wp2_with (at_builtin; refine wpList_append_own2 rfl _ _ 68 rfl W1.heap.size 67 i67 (.agg #[.int .u8 0, .int .i64 0, .int .i64 0]) 3 24 Tryd.underlying68 hi67 hz67 hs67 hb67 rfl (by decide) (.slice A8 row.length c8) row.length (row.flatMap arcCells) rfl (World.ownsRow.alloc hrow _) ⟨W8.heap.size, 0, none⟩ 1 1 [.int .u8 1, .int .i64 (l : Int), .int .i64 (s : Int)] rfl rfl (new_cell3 _ _ _ _ _ _ rfl) (three_cells _ _ _) (by unfold maxLen; omega) (by omega) (by simp; omega) ?_; intro v9 w9 hown9 hg9 hb9)
                        have hown10 : w9.ownsRow W1.heap.size 67 3 v9 (row.length + 1) (row.flatMap arcCells ++ arcCells ⟨k, l, s⟩) := by rw [HK1.out]; exact hown9
                        have hR10 := OfRowT.app (a := ⟨k, l, s⟩) (hR9.trans (alloc_ext W8 (.cells #[.int .u8 1, .int .i64 (l : Int), .int .i64 (s : Int)] 67))) hg9 hown10 rfl hb9
                        go_roundw
                        case rel => exact ⟨l + 1, row ++ [⟨k, l, s⟩], by go_num, hll, Lib.hid ⟨by simp; have := HR.out.2.2.1; have := HR0.out.1; omega, by push_cast; exact HL2.out, hR10⟩⟩
                        case measure => simp [intOf]; omega
                    · have g2 : ((row.length : Int) == (row0.length : Int)) = false := by simp; omega
                      have HL2 := Lib.hid (HR.out.2.2.2.1.label (fun _ _ => by
                        obtain ⟨a, ha, h1, h2⟩ := HR.out.2.2.2.1.has HR0.out.2.1 HR.out.1 (by have := HR.out.1.length_le; omega) HR.out.2.1
                        exact ⟨a, ha, by rw [h1, hk1], h2⟩))
                      clear hlr hk1
                      go_wp2
                      go_roundw
                      case rel => exact ⟨l + 1, row, by go_num, hll, Lib.hid ⟨by have := HR.out.2.2.1; have := HR0.out.1; omega, by push_cast; exact HL2.out, HR.out.2.2.2.2⟩⟩
                      case measure => simp [intOf]; omega
                  · have g1 : ((k : Int) == 1) = false := by simp; omega
                    have HL2 := Lib.hid (HR.out.2.2.2.1.label (fun _ h => absurd h hk1))
                    clear hk1
                    go_wp2
                    go_roundw
                    case rel => exact ⟨l + 1, row, by go_num, hll, Lib.hid ⟨by have := HR.out.2.2.1; have := HR0.out.1; omega, by push_cast; exact HL2.out, HR.out.2.2.2.2⟩⟩
                    case measure => simp [intOf]; omega
            · obtain rfl : l = lab := by omega
              have HL2 := Lib.hid (HR0.out.2.1.kind (by rw [← HL.out]; omega))
              go_wp2
              go_roundw
              case rel => exact ⟨k + 1, row0, by go_num, by omega, Lib.hid ⟨by have := HR0.out.1; omega, HL2.out, HR0.out.2.2⟩⟩
              case measure => simp [intOf]; omega
        · obtain rfl : k = 3 := by omega
          have hlr := HR0.out.1
          obtain ⟨hrows, rv, F, vs, hvl, hO⟩ := HR0.out.2.2
          have hN5' := HN.out.2.2.2.2
          have hrl : rows.length ≤ 5 := by have := HR.out.1; omega
          have hown : W6.ownsRow W1.heap.size 68 1 rv rows.length vs := hO.get 3 rfl
          obtain ⟨A6, c6, hv6, _, _⟩ := cells_of_owns (hO.get 0 rfl)
          subst hv6
          obtain ⟨Ar, cr, hvr, _, _⟩ := cells_of_owns hown
          subst hvr
          have q2 := cell_of_blk (hO.get 2 rfl).2 2 (u := .slice Ar rows.length cr) rfl
          have hsz := hO.ext.size
          have HO := Lib.hid (And.intro hrows (And.intro hvl (And.intro hO (And.intro (show row.length ≤ 256 by omega) HR0.out.2.1))))
          clear hrows hvl hO HR0 hlr
          go_wp2_with (at_builtin; refine wpList_append_own2 rfl _ _ 26 rfl W1.heap.size 68 i68 (.slice none 0 0) 1 24 Tryd.underlying26 hi68 hz68 hs68 hb68 rfl (by decide) (.slice Ar rows.length cr) rows.length vs rfl (World.ownsRow.alloc hown _) ⟨W6.heap.size, 0, none⟩ 1 1 [.slice A6 row.length c6] rfl rfl (new_cell _ _ _ _ rfl) (one_slice _ _ _) (by unfold maxLen; omega) (by omega) (by simp; omega) ?_; intro v9 w9 hown9 hg9 hb9; have hb3 := (((HO.out.2.2.1.trans (alloc_ext W6 (.cells #[.slice A6 row.length c6] 68))).app 3 rfl hg9 hown9 hb9).get 2 rfl).2; have k93 := cell_of_blk hb3 2 rfl; have f93 := free_of_blk hb3 2; have hcl := OfRowT.close (f := r.f) (N := N) HO.out.1 HO.out.2.1 (HO.out.2.2.1.trans (alloc_ext W6 (.cells #[.slice A6 row.length c6] 68))) HO.out.2.2.2 hg9 hown9 rfl hb9; obtain ⟨g9, c9, rfl⟩ := ownsRow_pos hown9 (by omega); have HCL := Lib.hid hcl; clear hcl hb3 hown hown9 hg9 hb9)
          go_roundw
          case rel => exact ⟨s + 1, rows ++ [row], by go_num, hsl, Lib.hid ⟨by simp [HR.out.1], HCL.out⟩⟩
          case measure => simp [intOf]; omega
    · obtain rfl : s = N := by omega
      obtain ⟨hrows, rv, F, vs, hvl, hO⟩ := HR.out.2
      obtain ⟨Ar, cr, hvr, hcc, hcl⟩ := cells_of_owns (hO.get 2 rfl)
      subst hvr
      have hb3 := (hO.get 1 rfl).2
      have hb2 := kb W5 hO.ext
      have q0 := cell_of_blk hb3 0 (u := .int .i64 (i : Int)) rfl
      have q1 := cell_of_blk hb3 1 (u := .int .i64 (o : Int)) rfl
      have q2 := cell_of_blk hb3 2 (u := .slice Ar rows.length cr) rfl
      have HO := Lib.hid (And.intro hrows (And.intro hvl (And.intro hO (And.intro hcc hcl))))
      clear hrows hvl hO hcc hcl
      go_wp2_with (with_reducible refine wpList_store_blk _ rfl 28 _ _ rfl b2 28 _ _ rfl rfl hb2 (by kernel_rfl) (by kernel_rfl) (by kernel_rfl) ?_; intro W8 h8 g8)
      refine bodyPost_ret (results_cell_row rfl _ _ b2 28 _ (0, 0) _ (by simp [Act.put]) h8 Tryd.underlying28 rfl (by kernel_rfl)) rfl ?_
      have hE5 := HV.out.1.trans HO.out.2.2.1.ext
      have hlt := HV.out.2.2
      have hsz5 := hE5.size
      have hk : ∀ A ∈ _, Asn.ok W1.heap.size W8 A := fun A hA => Asn.of (HO.out.2.2.1.ok A hA) (fun b hb => by
        have h1 := Asn.lt (HO.out.2.2.1.ok A hA) hb
        exact g8.block b h1.2 (fun e => by injection e with e; subst e; have := HB3.out; have := h1.1; omega))
      have hrow8 : W8.ownsRow W1.heap.size 68 1 (.slice Ar rows.length cr) rows.length vs := hk _ (List.getElem_mem (l := OfLT b3 b5 (i : Int) (o : Int) (.slice Ar rows.length cr) F vs rows) (n := 2) (by simp [OfLT]))
      have hany := hk (.any F (RowsKT F vs rows)) (List.getElem_mem (l := OfLT b3 b5 (i : Int) (o : Int) (.slice Ar rows.length cr) F vs rows) (n := 3) (by simp [OfLT]))
      have hn := HN.out
      refine ⟨⟨(i : Int), (o : Int), rows⟩, Ar, cr, rfl, ltsK_of hrow8 hany HO.out.2.1 (by have h := HR.out.1; have := HN.out; show rows.length ≤ 1000; omega), ?_, Below.grown hE5 g8 hE5.size (fun k hk => by injection hk with hk; have := HB.out; omega)⟩
      rw [← hn.1, ← hn.2.1]
      exact blike_of hn.2.2.1 hn.2.2.2.1 hn.2.2.2.2 HR.out.1 HO.out.1
end Go.Proofs.YtamodjlifpjaoaaDoor
