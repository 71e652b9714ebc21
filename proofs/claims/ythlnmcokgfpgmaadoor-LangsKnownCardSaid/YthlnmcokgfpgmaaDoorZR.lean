/- THE LAW LangsLeast 3: the walk. -/
import Derived.Test.YthlnmcokgfpgmaaDoorZP
import Derived.Test.YthlnmcokgfpgmaaDoorZQ
import Derived.Test.YthlnmcokgfpgmaaDoorZL
namespace Go.Proofs.YthlnmcokgfpgmaaDoor
open Go.RowKit Go.Maps
set_option linter.unusedVariables false
set_option linter.unusedSimpArgs false
attribute [local go_sem] Oper.quietV quietV Oper.gives givesV ext_refl_iff ext_alloc_iff ext_drew_iff ext_drewN_iff
noncomputable def T3 (n : Nat) : Code := textR n Tryd.f3.body
theorem refIncl_one (a b : Dfa) : (refIncl a b).1 = 0 ∨ (refIncl a b).1 = 1 := by
  unfold refIncl
  cases (pairsL a b).findIdx? (offP a b) with
  | none => exact .inr rfl
  | some n => exact .inl rfl
theorem fin_same {b b' : Bool} {P : Prop} (h : b = true ↔ P) (h' : b' = true ↔ P) : b = b' := by
  cases b <;> cases b' <;> simp_all
set_option maxRecDepth 100000 in
set_option maxHeartbeats 8000000 in
theorem least_t2 (w W : World) (b3 : Nat) (d : Dfa) (c0 c1 c2 c4 c5 c6 c7 c8 c9 c10 c11 c12 c13 c14 c15 c16 c17 c18 c19 c20 c21 c22 c23 c24 c25 c26 c27 c28 c29 c30 c31 c32 c33 c34 c35 c36 c37 c38 c39 c40 c41 c42 c43 c44 c45 c46 c47 c48 c49 c50 c51 c52 c53 c54 c55 c56 c57 c58 c59 c60 c61 c62 c63 c64 c65 c66 c67 c68 c69 c70 c71 c72 c73 c74 c75 c76 c77 c78 : Value) (h0 : Ext w W) (hm : GlobM W) (hc : GlobC W) (hb : BoxD W b3 d) (hg : Good d) (hn : d.n ≤ 256) :
    Code.wp Tryd.prog (T3 2) (bodyPost Tryd.prog Tryd.f3 fun e w' => e = .returned (.bool true) ∧ Ext w w') ⟨(c0 :: c1 :: c2 :: .pointer (some ⟨b3, 0, none⟩) :: c4 :: c5 :: c6 :: c7 :: c8 :: c9 :: c10 :: c11 :: c12 :: c13 :: c14 :: c15 :: c16 :: c17 :: c18 :: c19 :: c20 :: c21 :: c22 :: c23 :: c24 :: c25 :: c26 :: c27 :: c28 :: c29 :: c30 :: c31 :: c32 :: c33 :: c34 :: c35 :: c36 :: c37 :: c38 :: c39 :: c40 :: c41 :: c42 :: c43 :: c44 :: c45 :: c46 :: c47 :: c48 :: c49 :: c50 :: c51 :: c52 :: c53 :: c54 :: c55 :: c56 :: c57 :: c58 :: c59 :: c60 :: c61 :: c62 :: c63 :: c64 :: c65 :: c66 :: c67 :: c68 :: c69 :: c70 :: c71 :: c72 :: c73 :: c74 :: c75 :: c76 :: c77 :: c78 :: []).toArray, []⟩ W := by
  conv => arg 2; whnf
  obtain ⟨Ar, Aa, cr, ca, p0, p1, p2, hD⟩ := hb
  have hkk := hg.kk
  have hsy : d.sy = (d.k : Int) := hkk.1.symm
  rw [hsy] at p0
  have hDk : DfaV W (.agg #[.int .i64 (d.k : Int), .slice Ar d.rows.length cr, .slice Aa d.acc.length ca]) d := by rw [← hsy]; exact hD
  have k0 := fun w' (h : Ext W w') => h.cell p0
  have k1 := fun w' (h : Ext W w') => h.cell p1
  have k2 := fun w' (h : Ext W w') => h.cell p2
  have hE0 := Ext.refl W
  have HA := Lib.hid (And.intro h0 (And.intro hm (And.intro hc (And.intro hg hsy))))
  have HK := Lib.hid hkk
  have hmk := mk_ints d.k (by omega)
  have hlv := fun W1 (e : Ext W W1) => lives_any W1 (HA.out.2.1.ext e) (HA.out.2.2.1.ext e)
  have hls := least_val (Least_any W _ d hD hm) (least_law hg hn)
  have hfi : ∀ W1, Ext W W1 → Calls Tryd.prog 14 #[.agg #[.int .i64 (d.k : Int), .slice Ar d.rows.length cr, .slice Aa d.acc.length ca]] W1 fun e w' => ∃ b, e = .returned (.tuple #[.bool b, .int .i64 0]) ∧ (b = true ↔ FinD d) ∧ Ext W1 w' := fun W1 e => (Finite_any W1 _ d (hDk.ext e)).mono fun e' w' h => by
    rcases h with ⟨h1, _⟩ | ⟨_, h2⟩
    · exact absurd ((good_iff d).2 hg) h1
    · exact h2
  rw [hsy] at hls
  have hrf : ∀ W1, Ext W W1 → Calls Tryd.prog 17 #[.agg #[.int .i64 (d.k : Int), .slice Ar d.rows.length cr, .slice Aa d.acc.length ca]] W1 fun e w' => ∃ b : Bool, e = .returned (.int .i64 (b01 b)) ∧ (b = true ↔ FinD d) ∧ Ext W1 w' := fun W1 e => refFin_any W1 _ d (hDk.ext e) hg
  clear h0 hm hc hkk p0 p1 p2
  go_upto_region 4 with (first
    | ((with_reducible refine hls.mono ?_); rintro e W2 ⟨v2, rfl, hf2, e2⟩; have hfi2 := hfi W2 e2)
    | ((with_reducible refine hfi2.mono ?_); rintro e W3 ⟨fb, rfl, hfb, e3⟩))
  have eA := e2.trans e3
  have hE3 := HA.out.1.trans eA
  have HF := Lib.hid (And.intro (hf2.ext e3) hfb)
  have k0 : ∀ w', Ext W3 w' → w'.cell? ⟨b3, 0, none⟩ = some (.int .i64 (d.k : Int)) := fun w' h => k0 w' (eA.trans h)
  have k1 : ∀ w', Ext W3 w' → w'.cell? ⟨b3, 1, none⟩ = some (.slice Ar d.rows.length cr) := fun w' h => k1 w' (eA.trans h)
  have k2 : ∀ w', Ext W3 w' → w'.cell? ⟨b3, 2, none⟩ = some (.slice Aa d.acc.length ca) := fun w' h => k2 w' (eA.trans h)
  have hEA := Ext.refl W3
  obtain ⟨A2, rfl, _⟩ := id hf2
  clear hls hfi hfi2 hf2 hfb
  refine wp_region_ext 9 (factsOf [(4, FreshR W3.heap.size d.k), (5, FreshRS W3.heap.size d.k), (6, FreshS W3.heap.size #[.bool false] 4), (8, Fresh W3.heap.size #[.int .i64 0, .slice none 0 0, .slice none 0 0] 28)]) (fun k => ([[], [0], [], [2], [2, 3], [2, 3, 4], [], [0, 1, 2, 3, 4, 5, 6], [], [0, 1, 2, 3, 4, 5, 6, 7, 8]] : List (List Nat)).getD k []) (by kernel_rfl) (by kernel_rfl) Ext.pre (mono_cons (stays_freshR _ _) (mono_cons (stays_freshRS _ _) (mono_cons (stays_freshS _ _ _) (mono_cons (stays_fresh _ _ _) (mono_nil))))) ?_
  simp only [List.take_succ_cons, List.take_zero]
  repeat (first | (with_reducible refine lexL_quiet' (v := ?_) ?_ ?_ ?_ ?_; rotate_left; (· with_reducible rfl); (· simp [factsOf]); (· intro w1 hw1 _; go_simp; with_reducible rfl); (try simp only [Act.put, List.setIfInBounds_toArray, List.set_cons_zero, List.set_cons_succ])) | (with_reducible refine lexL_skip ?_ ?_; (· simp [Region.wanted, yielded, undef]); (try simp only [Act.put, List.setIfInBounds_toArray, List.set_cons_zero, List.set_cons_succ])) | (with_reducible refine lexL_quiet (v := ?_) ?_ ?_ ?_ ?_; rotate_left; (· simp [Region.wanted, yielded, undef]); (· simp [factsOf]); (· intro w1 hw1 _; go_simp; with_reducible rfl); (try simp only [Act.put, List.setIfInBounds_toArray, List.set_cons_zero, List.set_cons_succ])))
  with_reducible refine lexL_give' (φ := ?_) ?_ ?_ ?_ ?_; rotate_left; (· with_reducible rfl); (· simp only [factsOf, Nat.reduceAdd, ↓reduceIte, Nat.reduceEqDiff]; rfl)
  · intro w2 hw2 _
    go_simp
    exact ⟨_, rfl, hw2.size, heap_alloc_new w2 _⟩
  rintro v4 w2 hw2 ⟨b4, rfl, hb4, hblk4⟩ hk2
  clear hk2 hw2 hblk4 w2
  (try simp only [Act.put, List.setIfInBounds_toArray, List.set_cons_zero, List.set_cons_succ])
  with_reducible refine lexL_give' (φ := ?_) ?_ ?_ ?_ ?_; rotate_left; (· with_reducible rfl); (· simp only [factsOf, Nat.reduceAdd, ↓reduceIte, Nat.reduceEqDiff]; rfl)
  · intro w2 hw2 hkn
    obtain ⟨b', h3, h4, h5⟩ := hkn.get 4 (by decide) rfl rfl
    obtain rfl : b' = b4 := by injection h3 with h3; injection h3 with h3; injection h3 with h3; exact h3.symm
    go_simp
    exact ⟨_, _, rfl, hw2.size, h4, heap_alloc_new w2 _, heap_ext (alloc_ext _ _) h5⟩
  rintro v5 w2 hw2 ⟨b5, b5', rfl, hb5, hb5', hblk5, hblk5'⟩ hk2
  clear hk2 hw2 hblk5 hblk5' hb5' b5' w2
  (try simp only [Act.put, List.setIfInBounds_toArray, List.set_cons_zero, List.set_cons_succ])
  with_reducible refine lexL_give' (φ := ?_) ?_ ?_ ?_ ?_; rotate_left; (· with_reducible rfl); (· simp only [factsOf, Nat.reduceAdd, ↓reduceIte, Nat.reduceEqDiff]; rfl)
  · intro w2 hw2 _
    go_simp
    exact ⟨_, rfl, hw2.size, heap_alloc_new w2 _⟩
  rintro v6 w2 hw2 ⟨b6, rfl, hb6, hblk6⟩ hk2
  clear hk2 hw2 hblk6 w2
  (try simp only [Act.put, List.setIfInBounds_toArray, List.set_cons_zero, List.set_cons_succ])
  repeat (first | (with_reducible refine lexL_quiet' (v := ?_) ?_ ?_ ?_ ?_; rotate_left; (· with_reducible rfl); (· simp [factsOf]); (· intro w1 hw1 _; go_simp; with_reducible rfl); (try simp only [Act.put, List.setIfInBounds_toArray, List.set_cons_zero, List.set_cons_succ])) | (with_reducible refine lexL_skip ?_ ?_; (· simp [Region.wanted, yielded, undef]); (try simp only [Act.put, List.setIfInBounds_toArray, List.set_cons_zero, List.set_cons_succ])) | (with_reducible refine lexL_quiet (v := ?_) ?_ ?_ ?_ ?_; rotate_left; (· simp [Region.wanted, yielded, undef]); (· simp [factsOf]); (· intro w1 hw1 _; go_simp; with_reducible rfl); (try simp only [Act.put, List.setIfInBounds_toArray, List.set_cons_zero, List.set_cons_succ])))
  with_reducible refine lexL_give' (φ := ?_) ?_ ?_ ?_ ?_; rotate_left; (· with_reducible rfl); (· simp only [factsOf, Nat.reduceAdd, ↓reduceIte, Nat.reduceEqDiff]; rfl)
  · intro w2 hw2 _
    go_simp
    exact (fresh_alloc _ _ _ _ hw2.size).2
  rintro v8 w2 hw2 ⟨b8, rfl, hb8, hblk8⟩ hk2
  clear hk2 hw2 hblk8 w2
  (try simp only [Act.put, List.setIfInBounds_toArray, List.set_cons_zero, List.set_cons_succ])
  with_reducible refine lexL_nil ?_; intro w1 hw1 hk1; simp only [List.drop_succ_cons, List.drop_zero]
  obtain ⟨c5, c4, h3, g5, g4, hB5, hB4⟩ := hk1.get 5 rfl rfl
  obtain rfl : c5 = b5 := by injection h3 with h3; injection h3 with h3; injection h3 with h3; exact h3.symm
  obtain ⟨c6, h6, g6, hB6⟩ := hk1.get 6 rfl rfl
  obtain rfl : c6 = b6 := by injection h6 with h6; injection h6 with h6; injection h6 with h6; exact h6.symm
  obtain ⟨c8, h8, g8, hB8⟩ := hk1.get 8 rfl rfl
  obtain rfl : c8 = b8 := by cases h8; rfl
  clear hk1 h3 h6 h8 hb4 hb5 hb6
  have n1 := blk_ne hB5 hB8 (by decide)
  have n2 := blk_ne hB4 hB8 (by decide)
  have n3 := blk_ne hB6 hB8 (by decide)
  have z0 := cell_of_blk hB8 0 rfl
  have z1 := cell_of_blk hB8 1 rfl
  have z2 := cell_of_blk hB8 2 rfl
  have z3 := free_of_blk hB8 0
  have z4 := free_of_blk hB8 1
  have z5 := free_of_blk hB8 2
  go_upto_region 5 with fail
  refine wp_named ?_
  intro W2 hW2
  have eB : Ext W3 W2 := by rw [hW2]; exact ((hw1.setCell (p := ⟨c8, 0, none⟩) hb8 _).setCell (p := ⟨c8, 1, none⟩) hb8 _).setCell (p := ⟨c8, 2, none⟩) hb8 _
  have y0 : W2.cell? ⟨c8, 0, none⟩ = some (.int .i64 (d.k : Int)) := by rw [hW2]; simp [go_sem, z0, z1, z2]
  have y1 : W2.cell? ⟨c8, 1, none⟩ = some (.slice (some ⟨c5, 0, none⟩) 1 1) := by rw [hW2]; simp [go_sem, z0, z1, z2]
  have y2 : W2.cell? ⟨c8, 2, none⟩ = some (.slice (some ⟨c6, 0, none⟩) 1 1) := by rw [hW2]; simp [go_sem, z0, z1, z2]
  have hkeep : ∀ b, b ≠ c8 → W2.heap[b]? = w1.heap[b]? := fun b hb => by
    rw [hW2]
    exact ((heap_setCell_other _ _ b _ hb).trans (heap_setCell_other _ _ b _ hb)).trans (heap_setCell_other _ _ b _ hb)
  have hB5 := (hkeep c5 n1).trans hB5
  have hB4 := (hkeep c4 n2).trans hB4
  have hB6 := (hkeep c6 n3).trans hB6
  have hz : DfaV W2 (.agg #[.int .i64 (d.k : Int), .slice (some ⟨c5, 0, none⟩) 1 1, .slice (some ⟨c6, 0, none⟩) 1 1]) (noneD d) := by
    rw [HK.out.1]
    refine ⟨_, 1, _, 1, rfl, lists_blk hB5 rfl rfl (by omega) (fun i u es hu hes => ?_), bools_blk (xs := [false]) hB6 rfl rfl (by omega)⟩
    match i, hu, hes with
    | 0, hu, hes =>
      cases hu; cases hes
      refine ⟨d.k, ?_⟩
      have h := ints_blk (xs := List.replicate d.k 0) (n := d.k) hB4 (by simp) (by simp) (by have := HK.out.2.2; omega)
      unfold FitC at h
      simpa using h
    | n + 1, hu, hes => simp at hu
  have hE2 : Ext W W2 := eA.trans eB
  have hrr := refIncl_any W2 _ _ d (noneD d) (hDk.ext hE2) hz HA.out.2.2.2.1 (good_none HA.out.2.2.2.1) rfl
  have kk0 := k0 W2 eB
  have kk1 := k1 W2 eB
  have kk2 := k2 W2 eB
  have h01 := refIncl_one d (noneD d)
  have HH := Lib.hid (And.intro hE2 (And.intro (HF.out.1.ext eB) HF.out.2))
  have hsm : ∀ W4 u c, Ext W2 W4 → IntsC W4 u (refIncl d (noneD d)).2 c → Calls Tryd.prog 16 #[.slice A2 (refIncl d (noneD d)).2.length (refIncl d (noneD d)).2.length, u] W4 fun e w' => e = .returned (.int .i64 1) ∧ Ext W4 w' := fun W4 u c e hu => (same_any W4 _ _ _ _ _ c (HH.out.2.1.ext e) hu).mono fun e' w' ⟨h1, h2⟩ => ⟨by rw [h1]; simp [b01], h2⟩
  clear k0 k1 k2 hE3 HF eA hD hDk hz hE2 eB e2 e3 hEA hW2 z0 z1 z2 z3 z4 z5 hB8 hkeep hB5 hB4 hB6 n1 n2 n3 hw1 hb8 g5 g4 g6 g8
  have hE20 := Ext.refl W2
  unfold RInP at hrr
  generalize refIncl d (noneD d) = R at *
  obtain ⟨R1, R2⟩ := R
  simp only at h01 hrr hsm
  have hrf2 := fun W5 (e : Ext W2 W5) => hrf W5 (HH.out.1.trans e)
  have hlv2 := fun W5 (e : Ext W2 W5) => hlv W5 (HH.out.1.trans e)
  clear hrf hlv
  go_upto_region 6 with ((with_reducible refine hrr.mono ?_); rintro e W4 ⟨u, c, rfl, hu, e4⟩)
  obtain ⟨Au, rfl, _⟩ := id hu
  have hs4 := hsm W4 _ _ e4 hu
  have kk0 := e4.cell kk0
  have kk1 := e4.cell kk1
  have kk2 := e4.cell kk2
  have q0 := fun w' (h : Ext W4 w') => h.cell kk0
  have q1 := fun w' (h : Ext W4 w') => h.cell kk1
  have q2 := fun w' (h : Ext W4 w') => h.cell kk2
  have HW := Lib.hid (HA.out.1.trans (HH.out.1.trans e4))
  have hrf4 := fun W5 (e : Ext W4 W5) => hrf2 W5 (e4.trans e)
  have hlv4 := fun W5 (e : Ext W4 W5) => hlv2 W5 (e4.trans e)
  have hE40 := Ext.refl W4
  clear hrr hsm hrf2 hlv2 hu kk0 kk1 kk2 y0 y1 y2
  rcases h01 with rfl | rfl
  all_goals
    go_wp2_with (first
      | ((with_reducible refine hs4.mono ?_); rintro e W5 ⟨rfl, e5⟩; have hrf5 := hrf4 W5 e5)
      | ((with_reducible refine hrf5.mono ?_); rintro e W6 ⟨b2, rfl, hb2, e6⟩; obtain rfl := fin_same HH.out.2.2 hb2; clear hb2; have hlv6 := hlv4 W6 (e5.trans e6); cases fb)
      | ((with_reducible refine hlv6.mono ?_); rintro e W7 ⟨rfl, e7⟩))
    all_goals
      go_ret
      exact ⟨rfl, HW.out.trans (e5.trans (e6.trans e7))⟩
set_option maxRecDepth 100000 in
set_option maxHeartbeats 4000000 in
theorem LangsLeast_any (w : World) (xv : Value) (x : RawN) (hx : RawNV w xv x) (hm : GlobM w) (hc : GlobC w) : Calls Tryd.prog 3 #[xv] w fun e w' => e = .returned (.bool true) ∧ Ext w w' := by
  obtain ⟨av, ca, rfl, ha, hxb⟩ := id hx
  obtain ⟨Aa, rfl, _⟩ := id ha
  go_enter Tryd.func3, Tryd.ntmps3
  go_upto_region 1 with fail
  refine wp_named ?_
  intro W1 hW1
  have hE1 : Ext w W1 := by rw [hW1]; exact (Ext.refl _).alloc _
  have z1 : W1.heap[w.heap.size]? = some (.cells #[.int .u8 x.sy, .int .u8 x.many, .slice Aa x.arcs.length ca, .int .u8 x.st, .int .u8 x.ac] 24 (0, 0)) := by rw [hW1]; exact heap_alloc_new w _
  clear hW1
  generalize w.heap.size = b1 at *
  have k0 := cell_of_blk z1 0 (u := .int .u8 x.sy) rfl
  have k1 := cell_of_blk z1 1 (u := .int .u8 x.many) rfl
  have k2 := cell_of_blk z1 2 (u := .slice Aa x.arcs.length ca) rfl
  have k3 := cell_of_blk z1 3 (u := .int .u8 x.st) rfl
  have k4 := cell_of_blk z1 4 (u := .int .u8 x.ac) rfl
  have hdf := dfas_any W1 _ _ x x (hx.ext hE1) (hx.ext hE1)
  have HX := Lib.hid (And.intro hm (And.intro hc hE1))
  clear hx ha hxb z1 hm hc hE1
  go_upto_region 999 with (first
    | (with_reducible refine stop_at 2 ?_)
    | (go_at_call 12; refine hdf.mono ?_; rintro e wB ⟨v1, v2, a, b, rfl, hd1, hd2, hg1, hg2, hn1, hn2, hs1, hs2, eB⟩; obtain ⟨rvA, crA, avA, caA, rfl, ⟨ArA, vrA, rfl, -⟩, ⟨AaA, rfl, -⟩⟩ := id hd1; obtain ⟨rvB, crB, avB, caB, rfl, ⟨ArB, vrB, rfl, -⟩, ⟨AaB, rfl, -⟩⟩ := id hd2; clear hdf)
    | (with_reducible refine wpList_store_blk _ rfl 28 _ _ rfl wB.heap.size 28 _ _ rfl rfl (heap_ext (alloc_ext _ _) (heap_alloc_new _ _)) (by kernel_rfl) (by kernel_rfl) (by kernel_rfl) ?_; intro w1 h1 g1)
    | (with_reducible refine wpList_store_blk _ rfl 28 _ _ rfl (wB.heap.size + 1) 28 _ _ rfl rfl ((g1.block _ (by simp) (by simp)).trans (by have := heap_alloc_new (wB.alloc (.cells #[.int .i64 0, .slice none 0 0, .slice none 0 0] 28)) (.cells #[.int .i64 0, .slice none 0 0, .slice none 0 0] 28); simpa using this)) (by kernel_rfl) (by kernel_rfl) (by kernel_rfl) ?_; intro w2 h2 g2))
  refine ⟨?_⟩
  have eB1 : Ext wB w1 := Below.grown ((alloc_ext wB _).trans (alloc_ext _ _)) g1 ((alloc_ext wB _).trans (alloc_ext _ _)).size (fun k hk => by cases hk; exact Nat.le_refl _)
  have e12 : Ext wB w2 := Below.grown eB1 g2 eB1.size (fun k hk => by cases hk; omega)
  have h1 := (g2.block _ (lt_of_block h1) (by simp)).trans h1
  rw [← hs1] at h1
  have hE2 : Ext w w2 := HX.out.2.2.trans (eB.trans e12)
  exact least_t2 w w2 wB.heap.size a _ _ _ _ _ _ _ _ _ _ _ _ _ _ _ _ _ _ _ _ _ _ _ _ _ _ _ _ _ _ _ _ _ _ _ _ _ _ _ _ _ _ _ _ _ _ _ _ _ _ _ _ _ _ _ _ _ _ _ _ _ _ _ _ _ _ _ _ _ _ _ _ _ _ _ _ _ _ hE2 (HX.out.1.ext hE2) (HX.out.2.1.ext hE2) (BoxD.of h1 (hd1.ext e12)) hg1 (by omega)
end Go.Proofs.YthlnmcokgfpgmaaDoor
