/- law25.dfas 12. ref23.Accepts 26. Words, level by level. Plain lists; slices of words. ref25.Words 20. Numbers of words: what is counted is there. Plain lists. -/
import Derived.Test.YthlnmcokgfpgmaaDoorZJ
import Derived.Test.YthlnmcokgfpgmaaDoorZI
import Derived.Test.YthlnmcokgfpgmaaDoorZB
namespace Go.Proofs.YthlnmcokgfpgmaaDoor
open Go.RowKit Go.Maps
set_option linter.unusedVariables false
set_option linter.unusedSimpArgs false
attribute [local go_sem] Oper.quietV quietV Oper.gives givesV ext_refl_iff ext_alloc_iff ext_drew_iff ext_drewN_iff
theorem results_cells2 {P : Program} {fn : Func} {p q : Tmp} {ty ty' : TypeId} (h : fn.results = #[.cell p ty, .cell q ty']) (tmps : Array Value) (w : World) (g g' : Nat) (t t' : TypeId) (cs cs' : Array Value) (fr fr' : Nat × Nat) (d d' : TypeDesc)
    (hp : tmps.getD p undef = .pointer (some ⟨g, 0, none⟩)) (hq : tmps.getD q undef = .pointer (some ⟨g', 0, none⟩)) (hg : w.heap[g]? = some (.cells cs t fr)) (hg' : w.heap[g']? = some (.cells cs' t' fr'))
    (hu : P.underlying ty = some d) (hd : (match d with | .struct _ | .array _ _ => true | _ => false) = true) (hi : (P.info? ty).map (·.size) = some cs.size)
    (hu' : P.underlying ty' = some d') (hd' : (match d' with | .struct _ | .array _ _ => true | _ => false) = true) (hi' : (P.info? ty').map (·.size) = some cs'.size) :
    (results fn tmps).run P w = .ok (.tuple #[.agg cs, .agg cs']) w := by
  have hp' : tmps[p]?.getD undef = .pointer (some ⟨g, 0, none⟩) := by simpa using hp
  have hq' : tmps[q]?.getD undef = .pointer (some ⟨g', 0, none⟩) := by simpa using hq
  simp [results, h, hp', hq', asAddr, run_loadVar_row w g t ty cs fr d hg hu hd hi, run_loadVar_row w g' t' ty' cs' fr' d' hg' hu' hd' hi']
def FarD (N : Nat) (v : Value) (d : Dfa) (w : World) : Prop := ∀ w2 : World, (∀ b, N ≤ b → b < w.heap.size → w2.heap[b]? = w.heap[b]?) → DfaV w2 v d
theorem FarD.ext {N : Nat} {v : Value} {d : Dfa} {w w' : World} (h : FarD N v d w) (e : Ext w w') : FarD N v d w' := fun w2 hw => h w2 (fun b hb hl => (hw b hb (Nat.lt_of_lt_of_le hl e.size)).trans (e.block b hl))
theorem FarD.mono {N N' : Nat} {v : Value} {d : Dfa} {w : World} (h : FarD N v d w) (hn : N' ≤ N) : FarD N' v d w := fun w2 hw => h w2 (fun b hb hl => hw b (by omega) hl)
theorem FarD.dfa {N : Nat} {v : Value} {d : Dfa} {w : World} (h : FarD N v d w) : DfaV w v d := h w (fun _ _ _ => rfl)
def NfaF (sx : Int) (v : Value) (w : World) : Prop := ∃ x, NfaV w v x ∧ GoodN x ∧ x.sy = sx
theorem stays_nfaF (sx : Int) : Stays Ext (NfaF sx) := fun v w w' hE ⟨x, h1, h2⟩ => ⟨x, h1.ext hE, h2⟩
def DetF (N : Nat) (sx : Int) (v : Value) (w : World) : Prop := ∃ d, FarD N v d w ∧ Good d ∧ d.sy = sx ∧ d.n ≤ 64
theorem stays_detF (N : Nat) (sx : Int) : Stays Ext (DetF N sx) := fun v w w' hE ⟨d, h1, h2⟩ => ⟨d, h1.ext hE, h2⟩
def DfasP (w : World) (e : Ending) (w' : World) : Prop := ∃ v1 v2 a b, e = .returned (.tuple #[v1, v2]) ∧ DfaV w' v1 a ∧ DfaV w' v2 b ∧ Good a ∧ Good b ∧ a.n ≤ 64 ∧ b.n ≤ 64 ∧ a.sy = b.sy ∧ a.sy ≤ 3 ∧ Ext w w'
set_option maxRecDepth 100000 in
set_option maxHeartbeats 8000000 in
theorem dfas_any (w : World) (xv yv : Value) (x y : RawN) (hx : RawNV w xv x) (hy : RawNV w yv y) : Calls Tryd.prog 12 #[xv, yv] w (DfasP w) := by
  obtain ⟨av, ca, rfl, ha, hxb⟩ := id hx
  obtain ⟨Aa, rfl, _⟩ := id ha
  obtain ⟨av', ca', rfl, ha', hyb⟩ := id hy
  obtain ⟨Aa', rfl, _⟩ := id ha'
  have HX := Lib.hid (And.intro hx (And.intro hxb (And.intro hyb ha')))
  clear hx hy hxb hyb ha ha'
  go_enter Tryd.func12, Tryd.ntmps12
  go_upto_region 1 with fail
  refine wp_named ?_
  intro W1 hW1
  have hE1 : Ext w W1 := by rw [hW1]; exact ((((Ext.refl _).alloc _).alloc _).alloc _).alloc _
  have z1 : W1.heap[w.heap.size]? = some (.cells #[.int .u8 x.sy, .int .u8 x.many, .slice Aa x.arcs.length ca, .int .u8 x.st, .int .u8 x.ac] 24 (0, 0)) := by
    rw [hW1]; exact heap_ext (((alloc_ext _ _).alloc _).alloc _) (heap_alloc_new w _)
  have z2 : W1.heap[w.heap.size + 1]? = some (.cells #[.int .u8 y.sy, .int .u8 y.many, .slice Aa' y.arcs.length ca', .int .u8 y.st, .int .u8 y.ac] 24 (0, 0)) := by
    rw [hW1]; refine heap_ext ((alloc_ext _ _).alloc _) ?_
    have h9 := heap_alloc_new (w.alloc (.cells #[.int .u8 x.sy, .int .u8 x.many, .slice Aa x.arcs.length ca, .int .u8 x.st, .int .u8 x.ac] 24)) (.cells #[.int .u8 y.sy, .int .u8 y.many, .slice Aa' y.arcs.length ca', .int .u8 y.st, .int .u8 y.ac] 24); simpa using h9
  have z3 : W1.heap[w.heap.size + 1 + 1]? = some (.cells #[.int .i64 0, .slice none 0 0, .slice none 0 0] 28 (0, 0)) := by
    rw [hW1]; refine heap_ext (alloc_ext _ _) ?_
    have h9 := heap_alloc_new ((w.alloc (.cells #[.int .u8 x.sy, .int .u8 x.many, .slice Aa x.arcs.length ca, .int .u8 x.st, .int .u8 x.ac] 24)).alloc (.cells #[.int .u8 y.sy, .int .u8 y.many, .slice Aa' y.arcs.length ca', .int .u8 y.st, .int .u8 y.ac] 24)) (.cells #[.int .i64 0, .slice none 0 0, .slice none 0 0] 28); simpa using h9
  have z4 : W1.heap[w.heap.size + 1 + 1 + 1]? = some (.cells #[.int .i64 0, .slice none 0 0, .slice none 0 0] 28 (0, 0)) := by
    rw [hW1]
    have h9 := heap_alloc_new (((w.alloc (.cells #[.int .u8 x.sy, .int .u8 x.many, .slice Aa x.arcs.length ca, .int .u8 x.st, .int .u8 x.ac] 24)).alloc (.cells #[.int .u8 y.sy, .int .u8 y.many, .slice Aa' y.arcs.length ca', .int .u8 y.st, .int .u8 y.ac] 24)).alloc (.cells #[.int .i64 0, .slice none 0 0, .slice none 0 0] 28)) (.cells #[.int .i64 0, .slice none 0 0, .slice none 0 0] 28); simpa using h9
  obtain ⟨b1, hb1⟩ : ∃ b, b = w.heap.size := ⟨_, rfl⟩
  have HB := Lib.hid hb1
  rw [← hb1] at z1 z2 z3 z4
  rw [← hb1]
  clear hb1 hW1
  have c1 := cell_of_blk z1 0 (u := .int .u8 x.sy) rfl
  have c2 := cell_of_blk z2 0 (u := .int .u8 y.sy) rfl
  have f2 := free_of_blk z2 0
  go_upto_region 2 with fail
  refine wp_named ?_
  intro W2 hW2
  have hbw := HB.out
  have hE2 : Ext w W2 := by rw [hW2]; exact hE1.setCell (by show w.heap.size ≤ b1 + 1; omega) _
  have y1 : W2.heap[b1]? = some (.cells #[.int .u8 x.sy, .int .u8 x.many, .slice Aa x.arcs.length ca, .int .u8 x.st, .int .u8 x.ac] 24 (0, 0)) := by
    rw [hW2, heap_setCell_other W1 ⟨b1 + 1, 0, none⟩ b1 _ (by show b1 ≠ b1 + 1; omega)]; exact z1
  have y2 : W2.heap[b1 + 1]? = some (.cells #[.int .u8 x.sy, .int .u8 y.many, .slice Aa' y.arcs.length ca', .int .u8 y.st, .int .u8 y.ac] 24 (0, 0)) := by
    rw [hW2]; exact heap_setCell_same W1 (b1 + 1) 0 _ 24 _ z2
  have y3 : W2.heap[b1 + 1 + 1]? = some (.cells #[.int .i64 0, .slice none 0 0, .slice none 0 0] 28 (0, 0)) := by
    rw [hW2, heap_setCell_other W1 ⟨b1 + 1, 0, none⟩ (b1 + 1 + 1) _ (by show b1 + 1 + 1 ≠ b1 + 1; omega)]; exact z3
  have y4 : W2.heap[b1 + 1 + 1 + 1]? = some (.cells #[.int .i64 0, .slice none 0 0, .slice none 0 0] 28 (0, 0)) := by
    rw [hW2, heap_setCell_other W1 ⟨b1 + 1, 0, none⟩ (b1 + 1 + 1 + 1) _ (by show b1 + 1 + 1 + 1 ≠ b1 + 1; omega)]; exact z4
  clear hW2 z1 z2 z3 z4 c1 c2 f2
  obtain ⟨sx, hsx⟩ : ∃ n, n = 1 + x.sy % 3 := ⟨_, rfl⟩
  have HSX := Lib.hid hsx
  clear hsx
  have hRx : ∀ W, Ext W2 W → RawNV W (.agg #[.int .u8 x.sy, .int .u8 x.many, .slice Aa x.arcs.length ca, .int .u8 x.st, .int .u8 x.ac]) x := fun W h => HX.out.1.ext (hE2.trans h)
  have hRy : ∀ W, Ext W2 W → RawNV W (.agg #[.int .u8 x.sy, .int .u8 y.many, .slice Aa' y.arcs.length ca', .int .u8 y.st, .int .u8 y.ac]) ⟨x.sy, y.many, y.arcs, y.st, y.ac⟩ := fun W h => ⟨_, ca', rfl, HX.out.2.2.2.ext (hE2.trans h), HX.out.2.1.1, HX.out.2.2.1.2⟩
  have kx0 : ∀ w', Ext W2 w' → w'.cell? ⟨b1, 0, none⟩ = some (.int .u8 x.sy) := fun w' h => h.cell (cell_of_blk y1 0 rfl)
  have kx1 : ∀ w', Ext W2 w' → w'.cell? ⟨b1, 1, none⟩ = some (.int .u8 x.many) := fun w' h => h.cell (cell_of_blk y1 1 rfl)
  have kx2 : ∀ w', Ext W2 w' → w'.cell? ⟨b1, 2, none⟩ = some (.slice Aa x.arcs.length ca) := fun w' h => h.cell (cell_of_blk y1 2 rfl)
  have kx3 : ∀ w', Ext W2 w' → w'.cell? ⟨b1, 3, none⟩ = some (.int .u8 x.st) := fun w' h => h.cell (cell_of_blk y1 3 rfl)
  have kx4 : ∀ w', Ext W2 w' → w'.cell? ⟨b1, 4, none⟩ = some (.int .u8 x.ac) := fun w' h => h.cell (cell_of_blk y1 4 rfl)
  have ky0 : ∀ w', Ext W2 w' → w'.cell? ⟨b1 + 1, 0, none⟩ = some (.int .u8 x.sy) := fun w' h => h.cell (cell_of_blk y2 0 rfl)
  have ky1 : ∀ w', Ext W2 w' → w'.cell? ⟨b1 + 1, 1, none⟩ = some (.int .u8 y.many) := fun w' h => h.cell (cell_of_blk y2 1 rfl)
  have ky2 : ∀ w', Ext W2 w' → w'.cell? ⟨b1 + 1, 2, none⟩ = some (.slice Aa' y.arcs.length ca') := fun w' h => h.cell (cell_of_blk y2 2 rfl)
  have ky3 : ∀ w', Ext W2 w' → w'.cell? ⟨b1 + 1, 3, none⟩ = some (.int .u8 y.st) := fun w' h => h.cell (cell_of_blk y2 3 rfl)
  have ky4 : ∀ w', Ext W2 w' → w'.cell? ⟨b1 + 1, 4, none⟩ = some (.int .u8 y.ac) := fun w' h => h.cell (cell_of_blk y2 4 rfl)
  have HY := Lib.hid (And.intro y3 (And.intro y4 (And.intro hE2 (And.intro hbw (And.intro hRx hRy)))))
  clear y1 y2 y3 y4 hE2 hbw hRx hRy
  have hE0 := Ext.refl W2
  refine wp_region_ext 4 (factsOf [(1, NfaF sx), (2, DetF W2.heap.size sx)]) (fun k => ([[], [0], [0, 1], [], [0, 1, 2, 3], [0, 1, 2, 3, 4], [0, 1, 2, 3, 4, 5], [0, 1, 2, 3, 4, 5, 6], [0, 1, 2, 3, 4, 5, 6, 7]] : List (List Nat)).getD k []) (by kernel_rfl) (by kernel_rfl) Ext.pre (mono_cons (stays_nfaF _) (mono_cons (stays_detF _ _) (mono_nil))) ?_
  simp only [List.take_succ_cons, List.take_zero]
  repeat (first | (with_reducible refine lexL_quiet' (v := ?_) ?_ ?_ ?_ ?_; rotate_left; (· with_reducible rfl); (· simp [factsOf]); (· intro w1 hw1 _; go_simp; with_reducible rfl); (try simp only [Act.put, List.setIfInBounds_toArray, List.set_cons_zero, List.set_cons_succ])) | (with_reducible refine lexL_skip ?_ ?_; (· simp [Region.wanted, yielded, undef]); (try simp only [Act.put, List.setIfInBounds_toArray, List.set_cons_zero, List.set_cons_succ])) | (with_reducible refine lexL_quiet (v := ?_) ?_ ?_ ?_ ?_; rotate_left; (· simp [Region.wanted, yielded, undef]); (· simp [factsOf]); (· intro w1 hw1 _; go_simp; with_reducible rfl); (try simp only [Act.put, List.setIfInBounds_toArray, List.set_cons_zero, List.set_cons_succ])))
  with_reducible refine lexL_give' (φ := ?_) ?_ ?_ ?_ ?_; rotate_left; (· with_reducible rfl); (· simp only [factsOf, Nat.reduceAdd, ↓reduceIte, Nat.reduceEqDiff]; rfl)
  · intro w2' hw2' _
    go_simp
    refine (nOf_any w2' _ x (HY.out.2.2.2.2.1 w2' hw2')).mono ?_
    rintro e w3' ⟨v, xn, rfl, h1, h2, h3, he⟩
    exact ⟨_, rfl, he, xn, h1, h2, by rw [h3, HSX.out]⟩
  rintro v1 w2' hw2' h1' hk2
  clear h1' hk2 hw2' w2'
  (try simp only [Act.put, List.setIfInBounds_toArray, List.set_cons_zero, List.set_cons_succ])
  repeat (first | (with_reducible refine lexL_quiet' (v := ?_) ?_ ?_ ?_ ?_; rotate_left; (· with_reducible rfl); (· simp [factsOf]); (· intro w1 hw1 _; go_simp; with_reducible rfl); (try simp only [Act.put, List.setIfInBounds_toArray, List.set_cons_zero, List.set_cons_succ])) | (with_reducible refine lexL_skip ?_ ?_; (· simp [Region.wanted, yielded, undef]); (try simp only [Act.put, List.setIfInBounds_toArray, List.set_cons_zero, List.set_cons_succ])) | (with_reducible refine lexL_quiet (v := ?_) ?_ ?_ ?_ ?_; rotate_left; (· simp [Region.wanted, yielded, undef]); (· simp [factsOf]); (· intro w1 hw1 _; go_simp; with_reducible rfl); (try simp only [Act.put, List.setIfInBounds_toArray, List.set_cons_zero, List.set_cons_succ])))
  with_reducible refine lexL_give' (φ := ?_) ?_ ?_ ?_ ?_; rotate_left; (· with_reducible rfl); (· simp only [factsOf, Nat.reduceAdd, ↓reduceIte, Nat.reduceEqDiff]; rfl)
  · intro w2' hw2' hk
    obtain ⟨xn, h1, h2, h3⟩ := hk.get 1 (by simp) rfl rfl
    go_simp
    refine (det_any w2' _ xn h1 h2).mono ?_
    rintro e w3' ⟨v, d, rfl, hf, hg, hs, hn, he⟩
    exact ⟨_, rfl, he, d, FarD.mono hf hw2'.size, hg, by rw [hs, h3], hn⟩
  rintro v2 w2' hw2' h2' hk2
  obtain ⟨d2, hf2, -⟩ := h2'
  obtain ⟨rv2, cr2, av2, ca2, rfl, hl2, hc2⟩ := hf2.dfa
  obtain ⟨Ar2, vr2, rfl, -⟩ := hl2
  obtain ⟨Ac2, rfl, -⟩ := hc2
  clear hk2 hw2' hf2 w2'
  (try simp only [Act.put, List.setIfInBounds_toArray, List.set_cons_zero, List.set_cons_succ])
  repeat (first | (with_reducible refine lexL_quiet' (v := ?_) ?_ ?_ ?_ ?_; rotate_left; (· with_reducible rfl); (· simp [factsOf]); (· intro w1 hw1 _; go_simp; with_reducible rfl); (try simp only [Act.put, List.setIfInBounds_toArray, List.set_cons_zero, List.set_cons_succ])) | (with_reducible refine lexL_skip ?_ ?_; (· simp [Region.wanted, yielded, undef]); (try simp only [Act.put, List.setIfInBounds_toArray, List.set_cons_zero, List.set_cons_succ])) | (with_reducible refine lexL_quiet (v := ?_) ?_ ?_ ?_ ?_; rotate_left; (· simp [Region.wanted, yielded, undef]); (· simp [factsOf]); (· intro w1 hw1 _; go_simp; with_reducible rfl); (try simp only [Act.put, List.setIfInBounds_toArray, List.set_cons_zero, List.set_cons_succ])))
  with_reducible refine lexL_nil ?_; intro w1 hw1 hk1; simp only [List.drop_succ_cons, List.drop_zero]
  obtain ⟨a, hfa, hga, hsa, hna⟩ := hk1.get 2 rfl rfl
  have HAA := Lib.hid (And.intro hfa (And.intro hga (And.intro hsa hna)))
  clear hk1 hfa hga hsa hna
  have HW1 := Lib.hid hw1
  have hny := nOf_any w1 _ _ (HY.out.2.2.2.2.2 w1 hw1)
  go_upto_region 999 with (first
    | (go_at_call 42; refine hny.mono ?_; rintro e w3 ⟨vx, xn, rfl, hx3, hg3, hs3, e3⟩; have hE3 := HW1.out.trans e3; clear hny)
    | (go_at_call 41; refine (det_any w3 vx xn hx3 hg3).mono ?_; rintro e w4 ⟨v4, d4, rfl, hf4, hg4, hs4, hn4, e4⟩; have hE4 := hE3.trans e4)
    | (go_at_call 43; refine (min_any w4 v4 d4 (hf4 w4 (fun _ _ _ => rfl)) hg4).mono ?_; rintro e w5 ⟨v5, r5, rfl, hf5, hc5, _, hs5, hn5, e5⟩; have hE5 := hE4.trans e5; have hd5 := hf5 w5 (fun _ _ _ => rfl); obtain ⟨rv5, cr5, av5, ca5, rfl, hl5, hb5⟩ := id hd5; obtain ⟨Ar5, vr5, rfl, _⟩ := id hl5; obtain ⟨Ac5, rfl, _⟩ := id hb5; clear hd5 hl5 hb5; have s3 := heap_ext hE5 HY.out.1; have s4 := heap_ext hE5 HY.out.2.1)
    | (with_reducible refine wpList_store_blk _ rfl 28 _ _ rfl (b1 + 1 + 1) 28 _ _ rfl rfl s3 (by kernel_rfl) (by kernel_rfl) (by kernel_rfl) ?_; intro w6 h6 g6; have s4' := (g6.block (b1 + 1 + 1 + 1) (lt_of_block s4) (by simp)).trans s4)
    | (with_reducible refine wpList_store_blk _ rfl 28 _ _ rfl (b1 + 1 + 1 + 1) 28 _ _ rfl rfl s4' (by kernel_rfl) (by kernel_rfl) (by kernel_rfl) ?_; intro w7 h7 g7))
  refine bodyPost_ret (results_cells2 rfl _ _ (b1 + 1 + 1) (b1 + 1 + 1 + 1) 28 28 _ _ (0, 0) (0, 0) _ _ (by simp [Act.put]) (by simp [Act.put]) ((g7.block (b1 + 1 + 1) (lt_of_block h6) (by simp)).trans h6) h7 Tryd.underlying28 rfl (by kernel_rfl) Tryd.underlying28 rfl (by kernel_rfl)) rfl ?_
  have hN : b1 + 1 + 1 < W2.heap.size ∧ b1 + 1 + 1 + 1 < W2.heap.size := ⟨lt_of_block HY.out.1, lt_of_block HY.out.2.1⟩
  have hsame : ∀ b, W2.heap.size ≤ b → b < w5.heap.size → w7.heap[b]? = w5.heap[b]? := fun b hb hl => (g7.block b (Nat.lt_of_lt_of_le hl g6.size) (by simp; omega)).trans (g6.block b hl (by simp; omega))
  have hE0w := HY.out.2.2.1
  have hbw := HY.out.2.2.2.1
  have x5 := hE0w.trans hE5
  have x6 : Ext w w6 := Below.grown x5 g6 x5.size (fun k hk => by cases hk; omega)
  have x7 : Ext w w7 := Below.grown x6 g7 x6.size (fun k hk => by cases hk; omega)
  have hrs : r5.sy = 1 + (x.sy : Int) % 3 := by rw [hs5, hs4, hs3]; push_cast; rfl
  have h7f : FarD W2.heap.size (.agg #[.int .i64 r5.sy, .slice Ar5 r5.rows.length cr5, .slice Ac5 r5.acc.length ca5]) r5 w5 := FarD.mono hf5 hE4.size
  rw [hrs] at h7f
  have e15 : Ext w1 w5 := e3.trans (e4.trans e5)
  refine ⟨_, _, a, r5, rfl, (HAA.out.1.ext e15) w7 hsame, h7f w7 hsame, HAA.out.2.1, hc5.good, HAA.out.2.2.2, Nat.le_trans hn5 hn4, ?_, ?_, x7⟩
  · rw [HAA.out.2.2.1, hrs, HSX.out]; push_cast; rfl
  · rw [HAA.out.2.2.1, HSX.out]; omega
end Go.Proofs.YthlnmcokgfpgmaaDoor

namespace Go.Proofs.YthlnmcokgfpgmaaDoor
open Go.RowKit Go.Maps
set_option linter.unusedVariables false
set_option linter.unusedSimpArgs false
attribute [local go_sem] Oper.quietV quietV Oper.gives givesV ext_refl_iff ext_alloc_iff ext_drew_iff ext_drewN_iff
/-- A word as numbers. -/
def wI (u : List Nat) : List Int := u.map (fun x : Nat => (x : Int))
theorem wI_len (u : List Nat) : (wI u).length = u.length := by simp [wI]
theorem wI_get {u : List Nat} {i : Nat} (h : i < (wI u).length) : (wI u)[i] = ((u[i]'(by rw [wI_len] at h; exact h) : Nat) : Int) := by simp [wI]
def accW (d : Dfa) (u : List Nat) : Bool := d.ac (d.run 0 u)
theorem run_take (d : Dfa) (u : List Nat) {i : Nat} (h : i < u.length) : d.run 0 (u.take (i + 1)) = d.to (d.run 0 (u.take i)) u[i] := by
  rw [List.take_succ_eq_append_getElem h, run_append]; rfl
set_option maxRecDepth 100000 in
set_option maxHeartbeats 4000000 in
theorem accepts_any (w : World) (dv uv : Value) (d : Dfa) (u : List Nat) (cu : Nat) (hd : DfaV w dv d) (hg : Good d) (hu : IntsC w uv (wI u) cu) (hok : okW d.k u) : Calls Tryd.prog 26 #[dv, uv] w fun e w' => e = .returned (.int .i64 (b01 (accW d u))) ∧ Ext w w' := by
  obtain ⟨rv, cr, av, ca, rfl, hr, ha⟩ := id hd
  obtain ⟨Ar, vr, rfl, _, _, _, _, hrm⟩ := id hr
  obtain ⟨Aa, rfl, hac, _, ham⟩ := id ha
  obtain ⟨Au, rfl, huc, _, hum⟩ := id hu
  unfold lenMax at hrm ham hum
  obtain ⟨br, or, hAr, hcl⟩ := dfa_at hr hg
  obtain ⟨k, hk⟩ : ∃ k, d.k = k := ⟨_, rfl⟩
  have hlt : ∀ i, d.run 0 (u.take i) < d.n := fun i => run_lt hg _ 0 (by have := hg.size; unfold Dfa.n; omega) (fun x hx => hok x (List.mem_of_mem_take hx))
  have hsz := hg.size
  have hk16 := hg.kk.2.2
  have HG := Lib.hid (And.intro hg (And.intro hk (And.intro hlt (And.intro hok (And.intro hcl hAr)))))
  rw [hAr]
  rw [hk] at hk16
  rw [wI_len] at hum
  rw [wI_len]
  clear hg hk hlt hok hd ha hr hu hcl hAr
  go_enter Tryd.func26, Tryd.ntmps26
  go_upto_region 1 with fail
  refine wp_named ?_
  intro W1 hW1
  have hE1 : Ext w W1 := by rw [hW1]; exact (Ext.refl _).alloc _
  have k1 : ∀ w', Ext W1 w' → w'.cell? ⟨w.heap.size, 1, none⟩ = some (.slice (some ⟨br, or, none⟩) d.rows.length cr) := fun w' h => h.cell (by rw [hW1]; simp [go_sem])
  have k2 : ∀ w', Ext W1 w' → w'.cell? ⟨w.heap.size, 2, none⟩ = some (.slice Aa d.acc.length ca) := fun w' h => h.cell (by rw [hW1]; simp [go_sem])
  clear hW1
  generalize w.heap.size = b1 at *
  go_wp2
  go_loopw [5, 6] (fun sv iv wr => ∃ i : Nat, iv = .int .i64 i ∧ i ≤ u.length ∧ sv = .int .i64 (d.run 0 (u.take i)) ∧ Ext W1 wr) (fun _ iv _ => u.length - (intOf iv).toNat)
  case atStart => exact ⟨0, rfl, by omega, rfl, Ext.refl _⟩
  case round =>
    obtain ⟨i, rfl, hi, rfl, hE⟩ := hrel
    obtain ⟨W4, hW4⟩ : ∃ W, W = wr := ⟨_, rfl⟩; subst hW4
    have hsn := HG.out.2.2.1 i
    by_cases hil : i < u.length
    · have hilI : (i : Int) < (u.length : Int) := by omega
      have hxk := HG.out.2.2.2.1 _ (List.getElem_mem hil)
      obtain ⟨bx, ox, c', e0, f0⟩ := HG.out.2.2.2.2.1 (d.run 0 (u.take i)) u[i] hsn hxk
      obtain ⟨bu, ou, hAu, _, g0⟩ := huc.at_int (k := i) (by rw [wI_len]; exact hil)
      rw [wI_get] at g0
      have e0 := (hE1.trans hE).cell e0
      have f0 := (hE1.trans hE).cell f0
      have g0 := (hE1.trans hE).cell g0
      rw [hAu]
      have kk1 := k1 W4 hE
      have hrt := run_take d u hil
      have HR := Lib.hid hrt
      have hsnI : ((d.run 0 (u.take i) : Nat) : Int) < (d.rows.length : Int) := by have : d.run 0 (u.take i) < d.rows.length := hsn; omega
      rw [HG.out.2.1] at e0 hxk
      have hxkI : ((u[i] : Nat) : Int) < (k : Int) := by omega
      clear hrt hAu huc hsn hxk
      generalize d.to (d.run 0 (u.take i)) u[i] = T at *
      generalize d.run 0 (u.take i) = S at *
      generalize u[i] = x at *
      go_upto_region 5 with fail
      go_quiet (fail)
      go_wp2
      go_roundw
      case rel => exact ⟨i + 1, by go_num, by omega, by rw [HR.out], hE.drewN _⟩
      case measure => simp [intOf]; omega
    · obtain rfl : i = u.length := by omega
      rw [List.take_length] at hsn ⊢
      obtain ⟨ba, oa, hAa, c1⟩ := HG.out.1.acc_at (hac.ext (hE1.trans hE)) hsn
      have kk2 := k2 W4 hE
      rw [hAa] at kk2
      have hsnI : ((d.run 0 u : Nat) : Int) < (d.acc.length : Int) := by have : d.run 0 u < d.rows.length := hsn; have := HG.out.1.acc; omega
      have hal := HG.out.1.acc
      have hal2 : d.acc.length ≤ 256 := by omega
      have HAC : Hid (accW d u = d.ac (d.run 0 u)) := Lib.hid rfl
      clear hAa hsn hal k2
      generalize d.ac (d.run 0 u) = g at *
      generalize d.run 0 u = S at *
      cases g
      · go_wp2
        go_ret
        exact ⟨by rw [HAC.out]; rfl, hE1.trans hE⟩
      · go_wp2
        go_ret
        exact ⟨by rw [HAC.out]; rfl, hE1.trans hE⟩
end Go.Proofs.YthlnmcokgfpgmaaDoor

namespace Go.Proofs.YthlnmcokgfpgmaaDoor
open Go.RowKit
set_option linter.unusedVariables false
set_option linter.unusedSimpArgs false

def lev (k : Nat) : Nat → List (List Nat)
  | 0 => [[]]
  | j + 1 => (lev k j).flatMap (fun u => (List.range k).map (fun x => u ++ [x]))
def nxL (k : Nat) (L : List (List Nat)) (i x : Nat) : List (List Nat) := (L.take i).flatMap (fun u => (List.range k).map (fun x => u ++ [x])) ++ (List.range x).map (fun y => L.getD i [] ++ [y])
theorem nxL_zero (k : Nat) (L : List (List Nat)) : nxL k L 0 0 = [] := rfl
theorem nxL_snoc (k : Nat) (L : List (List Nat)) (i x : Nat) {u : List Nat} (h : L[i]? = some u) : nxL k L i x ++ [u ++ [x]] = nxL k L i (x + 1) := by
  unfold nxL
  rw [List.range_succ, List.map_append, List.append_assoc]
  simp [List.getD, h]
theorem nxL_row (k : Nat) (L : List (List Nat)) (i : Nat) {u : List Nat} (h : L[i]? = some u) : nxL k L i k = nxL k L (i + 1) 0 := by
  unfold nxL
  obtain ⟨hi, he⟩ := List.getElem?_eq_some_iff.1 h
  rw [List.take_succ_eq_append_getElem hi, List.flatMap_append]
  simp [List.getD, h, he]
theorem nxL_all (k j : Nat) : nxL k (lev k j) (lev k j).length 0 = lev k (j + 1) := by
  unfold nxL
  rw [List.take_length]; simp [lev]
theorem lev_ok {k : Nat} : ∀ {j : Nat} {u : List Nat}, u ∈ lev k j → u.length = j ∧ okW k u
  | 0, u, h => by
    rw [List.mem_singleton.1 h]
    exact ⟨rfl, fun x hx => by cases hx⟩
  | j + 1, u, h => by
    unfold lev at h
    obtain ⟨v, hv, hu⟩ := List.mem_flatMap.1 h
    obtain ⟨x, hx, rfl⟩ := List.mem_map.1 hu
    obtain ⟨h1, h2⟩ := lev_ok hv
    refine ⟨by simp [h1], fun y hy => ?_⟩
    rcases List.mem_append.1 hy with hy | hy
    · exact h2 y hy
    · rw [List.mem_singleton.1 hy]; exact List.mem_range.1 hx
theorem lev_len (k : Nat) : ∀ j, (lev k j).length = k ^ j
  | 0 => rfl
  | j + 1 => by
    unfold lev
    have : ∀ l : List (List Nat), (l.flatMap (fun u => (List.range k).map (fun x => u ++ [x]))).length = l.length * k := fun l => by
      induction l with
      | nil => simp
      | cons a r ih => rw [List.flatMap_cons, List.length_append, ih]; simp; rw [Nat.add_mul]; omega
    rw [this, lev_len k j, Nat.pow_succ]
theorem nxL_len (k : Nat) (L : List (List Nat)) {i x : Nat} (hx : x ≤ k) (hi : i < L.length) : (nxL k L i x).length ≤ L.length * k := by
  unfold nxL
  have : ∀ l : List (List Nat), (l.flatMap (fun u => (List.range k).map (fun x => u ++ [x]))).length = l.length * k := fun l => by
    induction l with
    | nil => simp
    | cons a r ih => rw [List.flatMap_cons, List.length_append, ih]; simp; rw [Nat.add_mul]; omega
  rw [List.length_append, this, List.length_map, List.length_range, List.length_take, Nat.min_eq_left (by omega)]
  have h1 : (i + 1) * k ≤ L.length * k := Nat.mul_le_mul_right k (by omega)
  rw [Nat.add_mul] at h1
  omega
theorem pow_small {k j : Nat} (hk : k ≤ 3) (hj : j ≤ 7) : k ^ j ≤ 2187 :=
  Nat.le_trans (Nat.pow_le_pow_left hk j) (Nat.le_trans (Nat.pow_le_pow_right (by omega) hj) (by decide))
def outL (d : Dfa) (j i : Nat) : List (List Nat) := (List.range j).flatMap (fun j => (lev d.k j).filter (accW d)) ++ ((lev d.k j).take i).filter (accW d)
/-- The words of at most n symbols that are accepted, in order. -/
def wordsL (d : Dfa) (n : Nat) : List (List Nat) := (List.range (n + 1)).flatMap (fun j => (lev d.k j).filter (accW d))
theorem outL_zero (d : Dfa) : outL d 0 0 = [] := rfl
theorem outL_succ (d : Dfa) (j i : Nat) {u : List Nat} (h : (lev d.k j)[i]? = some u) : outL d j (i + 1) = if accW d u then outL d j i ++ [u] else outL d j i := by
  unfold outL
  obtain ⟨hi, he⟩ := List.getElem?_eq_some_iff.1 h
  rw [List.take_succ_eq_append_getElem hi, List.filter_append, he]
  cases hb : accW d u <;> simp [List.filter_cons, hb]
theorem outL_all (d : Dfa) (j : Nat) : outL d j (lev d.k j).length = outL d (j + 1) 0 := by
  unfold outL
  rw [List.take_length, List.range_succ, List.flatMap_append]
  simp
theorem outL_end (d : Dfa) (n : Nat) : outL d (n + 1) 0 = wordsL d n := by unfold outL wordsL; simp
theorem outL_len (d : Dfa) (hk : d.k ≤ 3) {j i : Nat} (hj : j ≤ 7) : (outL d j i).length ≤ (j + 1) * 2187 := by
  unfold outL
  have h1 : ∀ n, n ≤ 7 → ((List.range n).flatMap (fun j => (lev d.k j).filter (accW d))).length ≤ n * 2187 := fun n => by
    induction n with
    | zero => intro _; simp
    | succ n ih =>
      intro hn
      rw [List.range_succ, List.flatMap_append, List.length_append]
      have h2 := ih (by omega)
      have h3 : ([n].flatMap (fun j => (lev d.k j).filter (accW d))).length ≤ 2187 := by
        simp only [List.flatMap_cons, List.flatMap_nil, List.append_nil]
        exact Nat.le_trans (List.length_filter_le _ _) (by rw [lev_len]; exact pow_small hk (by omega))
      omega
  have h4 := h1 j hj
  have h5 : (((lev d.k j).take i).filter (accW d)).length ≤ 2187 := Nat.le_trans (List.length_filter_le _ _) (by rw [List.length_take]; exact Nat.le_trans (Nat.min_le_right _ _) (by rw [lev_len]; exact pow_small hk hj))
  rw [List.length_append]; omega
/-- A word as a value: the empty one, if it is nil. -/
def WordC (W : World) (u : Value) (l : List Nat) : Prop := (∃ c, IntsC W u (wI l) c) ∧ (l = [] → u = .slice none 0 0)
theorem WordC.ext {W W' : World} {u : Value} {l : List Nat} (h : WordC W u l) (e : Ext W W') : WordC W' u l := ⟨h.1.elim fun c hc => ⟨c, hc.ext e⟩, h.2⟩
def ListQ (vs : List Value) (ws : List (List Nat)) (W : World) : Prop := ∀ (j : Nat) (u : Value) (l : List Nat), vs[j]? = some u → ws[j]? = some l → WordC W u l
theorem ListQ.nil (W : World) : ListQ [] [] W := fun j u l h => by simp at h
theorem ListQ.snoc {vs : List Value} {ws : List (List Nat)} {W : World} {u : Value} {l : List Nat} (h : ListQ vs ws W) (hl : vs.length = ws.length) (hu : WordC W u l) : ListQ (vs ++ [u]) (ws ++ [l]) W := fun i x es hx hes => by
  by_cases hi : i < vs.length
  · rw [List.getElem?_append_left hi] at hx
    rw [List.getElem?_append_left (by omega)] at hes
    exact h i x es hx hes
  · have hil := (List.getElem?_eq_some_iff.1 hx).1
    simp at hil
    obtain rfl : i = vs.length := by omega
    rw [List.getElem?_append_right (Nat.le_refl _), Nat.sub_self] at hx
    rw [hl, List.getElem?_append_right (Nat.le_refl _), Nat.sub_self] at hes
    cases hx; cases hes
    exact hu
theorem wpList_append_none {P : Program} {w : World} {ops : Array Oper} {rest : List Oper} {o : Oper} {a : Act} {Q : Exit → Act → World → Prop} (hgd : o.guard = none) (s x : Operand) (t : TypeId)
    (ho : o.op = .call { callee := .builtin .append, args := #[s, x], argTypes := #[t, t] })
    (base : Nat) (e : TypeId) (i : TypeInfo) (size : Nat) (ht : P.underlying t = some (.slice e)) (hi : P.info? e = some i)
    (v : Value) (n : Nat) (xs : List Value) (hs : a.eval s = v) (hown : w.ownsRow base e size v n xs) (hx : a.eval x = .slice none 0 0)
    (h : wpList P ops Q rest (a.put o.dst v) w) : wpList P ops Q (o :: rest) a w := by
  refine wpList_plain hgd fun K hK => ?_
  have hrun := run_append_owned_none (P := P) (w := w) base t o.type e i size ht hi v n xs hown
  unfold Oper.wp
  simp [execOp, ho, resolve, invoke, builtin, hs, hx, hrun, Result.andThen]
  exact hK _ _ h
theorem all_ints (xs : List Int) : ∀ u ∈ xs.map (Value.int .i64), u.oneCell' = true := by
  intro u hu; obtain ⟨x, _, rfl⟩ := List.mem_map.1 hu; rfl
/-- A new word is done: it joins the others. -/
theorem word_done {W1 W : World} {v : Value} {l : List Nat} {S : Nat → Prop} {Φ : World → Prop} {L : List Asn} (h : OwnL W1 W (.row 3 1 v l.length ((wI l).map (.int .i64)) :: .any S Φ :: L)) (hl : l.length ≤ 1000) (h0 : l ≠ []) : ∃ S', OwnL W1 W (.any S' (fun W => WordC W v l ∧ Φ W) :: L) := by
  have h1 := h.seal (Φ := fun W => WordC W v l) (fun W' hA => by
    have hA : W'.ownsRow W1.heap.size 3 1 v l.length ((wI l).map (.int .i64)) := hA
    rw [← wI_len] at hA
    exact ⟨ints_of_owns hA (by rw [wI_len]; unfold lenMax; omega), fun he => absurd he h0⟩)
  exact ⟨_, h1.merge⟩
end Go.Proofs.YthlnmcokgfpgmaaDoor

namespace Go.Proofs.YthlnmcokgfpgmaaDoor
open Go.RowKit Go.Maps
set_option linter.unusedVariables false
set_option linter.unusedSimpArgs false
attribute [local go_sem] Oper.quietV quietV Oper.gives givesV ext_refl_iff ext_alloc_iff ext_drew_iff ext_drewN_iff
def WordsC (w : World) (v : Value) (ws : List (List Nat)) : Prop := ∃ A c vs, v = .slice A ws.length c ∧ Cells w A vs ∧ vs.length = ws.length ∧ ListQ vs ws w ∧ ws.length ≤ c ∧ ws.length ≤ lenMax
def WordsP (d : Dfa) (n : Nat) (w : World) (e : Ending) (w' : World) : Prop := ∃ v, e = .returned v ∧ WordsC w' v (wordsL d n) ∧ Ext w w'
theorem word_src {W : World} {uv : Value} {l : List Nat} {cu : Nat} (h : IntsC W uv (wI l) cu) (h0 : l ≠ []) : ∃ b o, uv = .slice (some ⟨b, o, none⟩) l.length cu ∧ ∀ W', Ext W W' → ∀ (j : Nat) (u : Value), ((wI l).map (Value.int .i64))[j]? = some u → W'.cell? ((⟨b, o, none⟩ : Addr).add j) = some u := by
  obtain ⟨A, rfl, hc, _⟩ := h
  have hl : 0 < l.length := by
    rcases Nat.eq_zero_or_pos l.length with h1 | h1
    · exact absurd (List.eq_nil_of_length_eq_zero h1) h0
    · exact h1
  obtain ⟨b, o, rfl, _, hcc⟩ := hc (by rw [List.length_map, wI_len]; exact hl)
  refine ⟨b, o, by rw [wI_len], fun W' e j u hj => ?_⟩
  rw [Addr.add_lit]
  exact e.cell (hcc j u hj)
def Q3 (vn : List Value) (wn : List (List Nat)) (vl : List Value) (wl : List (List Nat)) (vo : List Value) (wo : List (List Nat)) (W : World) : Prop := ListQ vn wn W ∧ ListQ vl wl W ∧ ListQ vo wo W
set_option maxRecDepth 100000 in
set_option maxHeartbeats 16000000 in
theorem words_any (w : World) (dv : Value) (d : Dfa) (n : Nat) (hd : DfaV w dv d) (hg : Good d) (hk3 : d.k ≤ 3) (hn : n ≤ 6) : Calls Tryd.prog 20 #[dv, .int .i64 n] w (WordsP d n w) := by
  obtain ⟨rv, cr, av, ca, rfl, hr, ha⟩ := id hd
  obtain ⟨Ar, vr, rfl, _, _, _, _, hrm⟩ := id hr
  obtain ⟨Aa, rfl, hac, _, ham⟩ := id ha
  obtain ⟨i3, hi3, hz3, hs3, hb3⟩ := info_parts int_info
  obtain ⟨i31, hi31, hz31, hs31, hb31⟩ := info_parts ints_info
  unfold lenMax at hrm ham
  obtain ⟨k, hk⟩ : ∃ k, d.k = k := ⟨_, rfl⟩
  have hsy : d.sy = (k : Int) := by rw [← hk]; exact hg.kk.1.symm
  have hk13 : 1 ≤ k ∧ k ≤ 3 := by have := hg.kk; omega
  have HG := Lib.hid (And.intro hg (And.intro hk (And.intro hk3 hd)))
  rw [hsy]
  rw [hsy] at HG
  clear hg hk hk3 hd ha hr hsy
  go_enter Tryd.func20, Tryd.ntmps20
  go_upto_region 1 with fail
  refine wp_named ?_
  intro W1 hW1
  have hE1 : Ext w W1 := by rw [hW1]; exact (Ext.refl _).alloc _
  have k0 : ∀ w', Ext W1 w' → w'.cell? ⟨w.heap.size, 0, none⟩ = some (.int .i64 k) := fun w' h => h.cell (by rw [hW1]; simp [go_sem])
  have k1 : ∀ w', Ext W1 w' → w'.cell? ⟨w.heap.size, 1, none⟩ = some (.slice Ar d.rows.length cr) := fun w' h => h.cell (by rw [hW1]; simp [go_sem])
  have k2 : ∀ w', Ext W1 w' → w'.cell? ⟨w.heap.size, 2, none⟩ = some (.slice Aa d.acc.length ca) := fun w' h => h.cell (by rw [hW1]; simp [go_sem])
  clear hW1
  generalize w.heap.size = b1 at *
  have hO0 : OwnL W1 (W1.alloc (.cells #[.slice none 0 0] 31)) [.any (fun _ => False) (fun W => ListQ [.slice none 0 0] (lev k 0) W ∧ ListQ [] (outL d 0 0) W), .row 31 1 (.slice (some ⟨W1.heap.size, 0, none⟩) 1 1) (lev k 0).length [.slice none 0 0], .row 31 1 (.slice none 0 0) (outL d 0 0).length []] := by
    refine ⟨alloc_ext _ _, fun A hA => ?_, ?_⟩
    · simp only [List.mem_cons, List.not_mem_nil, or_false] at hA
      rcases hA with rfl | rfl | rfl
      · refine ⟨fun b hb => hb.elim, fun w' _ => ⟨fun j u l hu hl => ?_, ListQ.nil _⟩⟩
        match j, hu, hl with
        | 0, hu, hl => cases hu; cases hl; exact ⟨⟨0, fit_nil w'⟩, fun _ => rfl⟩
        | j + 1, hu, hl => simp at hu
      · exact ⟨rfl, .inr ⟨_, 1, _, rfl, Nat.le_refl _, heap_alloc_new _ _, Nat.le_refl _, by unfold maxLen; omega, by simp, rfl⟩⟩
      · exact World.ownsRow_nil _ _ _ _
    · exact List.pairwise_cons.2 ⟨fun A hA b hb => hb.elim, List.pairwise_cons.2 ⟨fun A hA b hb hb' => (by rw [List.mem_singleton.1 hA] at hb'; cases hb'), List.pairwise_singleton _ _⟩⟩
  go_upto_region 3 with fail
  generalize W1.heap.size = g0 at *
  refine wp_named ?_
  intro W2 hW2
  rw [← hW2] at hO0
  clear hW2
  go_wp2
  go_loopw [5, 6, 7] (fun ov lv jv wr => ∃ (j : Nat) (S : Nat → Prop) (vl vo : List Value) (g c : Nat), jv = .int .i64 j ∧ j ≤ n + 1 ∧ Hid (vl.length = (lev k j).length ∧ vo.length = (outL d j 0).length) ∧ lv = .slice (some ⟨g, 0, none⟩) (lev k j).length c ∧ OwnL W1 wr [.any S (fun W => ListQ vl (lev k j) W ∧ ListQ vo (outL d j 0) W), .row 31 1 lv (lev k j).length vl, .row 31 1 ov (outL d j 0).length vo]) (fun _ _ jv _ => n + 1 - (intOf jv).toNat)
  case atStart => exact ⟨0, _, _, _, g0, 1, rfl, by omega, Lib.hid ⟨rfl, rfl⟩, rfl, hO0⟩
  case round =>
    clear hO0
    obtain ⟨j, S, vl, vo, gl, cl, rfl, hj, HL, rfl, hO⟩ := hrel
    obtain ⟨W3, hW3⟩ : ∃ W, W = wr := ⟨_, rfl⟩; subst hW3
    by_cases hjn : j ≤ n
    · have hjnI : (j : Int) ≤ (n : Int) := by omega
      have hll : (lev k j).length ≤ 2187 := by rw [lev_len]; exact pow_small hk13.2 (by omega)
      have hOi := (hO.add (Ext.refl _) (A := .row 31 1 (.slice none 0 0) 0 []) (World.ownsRow_nil _ _ _ _)).swap
      have hOi : OwnL W1 W3 [.any S (fun W => ListQ vl (lev k j) W ∧ ListQ vo (outL d j 0) W), .row 31 1 (.slice none 0 0) (nxL k (lev k j) 0 0).length [], .row 31 1 (.slice (some ⟨gl, 0, none⟩) (lev k j).length cl) (lev k j).length vl, .row 31 1 u5 (outL d j 0).length vo] := hOi
      have hOi := hOi.weaken (Φ' := Q3 [] (nxL k (lev k j) 0 0) vl (lev k j) vo (outL d j 0)) (fun W h => ⟨ListQ.nil W, h.1, h.2⟩)
      clear hO
      go_wp2
      go_loopw [5, 8, 9] (fun ov nv iv wr => ∃ (i : Nat) (S : Nat → Prop) (vn vo : List Value), iv = .int .i64 i ∧ i ≤ (lev k j).length ∧ Hid (vn.length = (nxL k (lev k j) i 0).length ∧ vo.length = (outL d j i).length) ∧ OwnL W1 wr [.any S (Q3 vn (nxL k (lev k j) i 0) vl (lev k j) vo (outL d j i)), .row 31 1 nv (nxL k (lev k j) i 0).length vn, .row 31 1 (.slice (some ⟨gl, 0, none⟩) (lev k j).length cl) (lev k j).length vl, .row 31 1 ov (outL d j i).length vo]) (fun _ _ iv _ => (lev k j).length - (intOf iv).toNat)
      case atStart => exact ⟨0, S, [], vo, rfl, by omega, Lib.hid ⟨rfl, HL.out.2⟩, hOi⟩
      case round =>
        clear hOi
        obtain ⟨i, S, vn, vo, rfl, hi, HN, hO⟩ := hrel
        obtain ⟨W4, hW4⟩ : ∃ W, W = wr := ⟨_, rfl⟩; subst hW4
        by_cases hil : i < (lev k j).length
        · have hilI : (i : Int) < ((lev k j).length : Int) := by omega
          obtain ⟨uv, huv⟩ : ∃ u, vl[i]? = some u := ⟨_, List.getElem?_eq_getElem (by rw [HL.out.1]; exact hil)⟩
          obtain ⟨l, hli⟩ : ∃ l, (lev k j)[i]? = some l := ⟨_, List.getElem?_eq_getElem hil⟩
          have hlok := lev_ok (List.mem_of_getElem? hli)
          obtain ⟨⟨cu, hul⟩, hnil⟩ := (hO.know 0 rfl).2.1 i uv l huv hli
          have cv := cell_own hO 2 rfl huv
          have cv : ∀ w', Ext W4 w' → w'.cell? ⟨gl, i, none⟩ = some uv := fun w' h => h.cell cv
          have hau := fun w1 (e : Ext W4 w1) => accepts_any w1 _ uv d l cu (HG.out.2.2.2.ext (hE1.trans (hO.ext.trans e))) HG.out.1 (hul.ext e) (by rw [HG.out.2.1]; exact hlok.2)
          have k0' := fun w' (h : Ext W4 w') => k0 w' (hO.ext.trans h)
          have k1' := fun w' (h : Ext W4 w') => k1 w' (hO.ext.trans h)
          have k2' := fun w' (h : Ext W4 w') => k2 w' (hO.ext.trans h)
          have hE0 := Ext.refl W4
          have hos := outL_succ d j i (by rw [HG.out.2.1]; exact hli)
          have hot := outL_len d HG.out.2.2.1 (j := j) (i := i) (by omega)
          have HU := Lib.hid (And.intro hul (And.intro hnil (And.intro hlok (And.intro huv hli))))
          have HOS := Lib.hid hos
          have HO := Lib.hid hO
          obtain ⟨Au, hAu, _⟩ := id hul
          rw [hAu] at cv hau HU
          clear hul hnil hlok huv hli hos hO
          generalize hab : accW d l = ab at *
          clear hab
          cases ab with
          | false =>
            simp only [b01, if_true, if_false, Bool.false_eq_true] at hau
            go_upto_region 10 with fail
            refine wp_region_ext 5 (factsOf []) (fun k => ([[], [], [], [1, 2], [1, 2, 3], [0, 1, 2, 3, 4], [0, 1, 2, 3, 4, 5]] : List (List Nat)).getD k []) (by kernel_rfl) (by kernel_rfl) Ext.pre (mono_nil) ?_
            simp only [List.take_succ_cons, List.take_zero]
            repeat (first | (with_reducible refine lexL_quiet' (v := ?_) ?_ ?_ ?_ ?_; rotate_left; (· with_reducible rfl); (· simp [factsOf]); (· intro w1 hw1 _; go_simp; with_reducible rfl); (try simp only [Act.put, List.setIfInBounds_toArray, List.set_cons_zero, List.set_cons_succ])) | (with_reducible refine lexL_skip ?_ ?_; (· simp [Region.wanted, yielded, undef]); (try simp only [Act.put, List.setIfInBounds_toArray, List.set_cons_zero, List.set_cons_succ])) | (with_reducible refine lexL_quiet (v := ?_) ?_ ?_ ?_ ?_; rotate_left; (· simp [Region.wanted, yielded, undef]); (· simp [factsOf]); (· intro w1 hw1 _; go_simp; with_reducible rfl); (try simp only [Act.put, List.setIfInBounds_toArray, List.set_cons_zero, List.set_cons_succ])))
            with_reducible refine lexL_nil ?_; intro w1 hw1 hk1; simp only [List.drop_succ_cons, List.drop_zero]
            go_upto_region 12 with (go_at_call 26; refine (hau w1 hw1).mono ?_; rintro e w5 ⟨rfl, e5⟩)
            have hO5 := HO.out.trans (hw1.trans e5)
            have hos := HOS.out
            rw [if_neg (by simp)] at hos
            rw [← hos] at hO5
            have HN2 := Lib.hid (And.intro HN.out.1 (show vo.length = (outL d j (i + 1)).length by rw [hos]; exact HN.out.2))
            have HO5 := Lib.hid hO5
            clear hO5 hos cv
            have hlx : l.length ≤ 6 := by have := HU.out.2.2.1.1; omega
            go_wp2
            go_loopw [8, 10] (fun nv xv wr => ∃ (x : Nat) (S : Nat → Prop) (vn : List Value), xv = .int .i64 x ∧ x ≤ k ∧ Hid (vn.length = (nxL k (lev k j) i x).length) ∧ OwnL W1 wr [.any S (Q3 vn (nxL k (lev k j) i x) vl (lev k j) vo (outL d j (i + 1))), .row 31 1 nv (nxL k (lev k j) i x).length vn, .row 31 1 (.slice (some ⟨gl, 0, none⟩) (lev k j).length cl) (lev k j).length vl, .row 31 1 u5 (outL d j (i + 1)).length vo]) (fun _ xv _ => k - (intOf xv).toNat)
            case atStart => exact ⟨0, S, vn, rfl, by omega, Lib.hid HN2.out.1, HO5.out⟩
            case round =>
              obtain ⟨x, S', vx, rfl, hx, HX, hOx⟩ := hrel
              obtain ⟨W6, hW6⟩ : ∃ W, W = wr := ⟨_, rfl⟩; subst hW6
              have kk0 := k0 W6 hOx.ext
              by_cases hxk : x < k
              · have hxkI : (x : Int) < (k : Int) := by omega
                have cv := cell_own hOx 2 rfl HU.out.2.2.2.1
                have cv : ∀ w', Ext W6 w' → w'.cell? ⟨gl, i, none⟩ = some (.slice Au (wI l).length cu) := fun w' h => h.cell cv
                have hE60 := Ext.refl W6
                obtain ⟨cu6, hul6⟩ := ((hOx.know 0 rfl).2.1 i _ l HU.out.2.2.2.1 HU.out.2.2.2.2).1
                have hnl : (nxL k (lev k j) i x).length ≤ 6561 := by have := nxL_len k (lev k j) hx hil; have h2 : (lev k j).length * k ≤ 2187 * 3 := Nat.mul_le_mul hll hk13.2; omega
                have hO7 : OwnL W1 (W6.alloc (.cells #[] 3)) [.row 3 1 (.slice (some ⟨W6.heap.size, 0, none⟩) 0 0) 0 [], .any S' (Q3 vx (nxL k (lev k j) i x) vl (lev k j) vo (outL d j (i + 1))), .row 31 1 u8 (nxL k (lev k j) i x).length vx, .row 31 1 (.slice (some ⟨gl, 0, none⟩) (lev k j).length cl) (lev k j).length vl, .row 31 1 u5 (outL d j (i + 1)).length vo] := hOx.add (alloc_ext _ _) (A := .row 3 1 (.slice (some ⟨W6.heap.size, 0, none⟩) 0 0) 0 []) (own_empty W6 3)
                have hsz6 := hOx.ext.size
                have hnx := nxL_snoc k (lev k j) i x HU.out.2.2.2.2
                have HNX := Lib.hid hnx
                have h1I : IntKind.i64.wrap ((l.length : Int)) = (l.length : Int) := IntWalk.i64_in _ (by omega)
                clear hnx h1I
                by_cases hl0 : l = []
                · clear hul6
                  have hnv := HU.out.2.1 hl0
                  have hwl : (wI l).length = 0 := by rw [hl0]; rfl
                  rw [hnv] at cv
                  have HO7 := Lib.hid hO7
                  have hown7 : (W6.alloc (.cells #[] 3)).ownsRow W1.heap.size 3 1 (.slice (some ⟨W6.heap.size, 0, none⟩) 0 0) 0 [] := hO7.get 0 rfl
                  have HL0 := Lib.hid hl0
                  clear hO7 hnv hwl hl0
                  go_wp2_with (first
                    | (at_builtin; refine wpList_append_none rfl _ _ 31 rfl W1.heap.size 3 i3 1 Tryd.underlying31 hi3 (.slice (some ⟨W6.heap.size, 0, none⟩) 0 0) 0 [] rfl hown7 rfl ?_)
                    | (at_builtin; refine wpList_append_own2 rfl _ _ 31 rfl W1.heap.size 3 i3 (.int .i64 0) 1 8 Tryd.underlying31 hi3 hz3 hs3 hb3 rfl (by decide) (.slice (some ⟨W6.heap.size, 0, none⟩) 0 0) 0 [] rfl (World.ownsRow.alloc hown7 _) ⟨_, 0, none⟩ 1 1 [.int .i64 x] rfl rfl (new_cell _ _ _ _ (by simp)) (one_int _) (by unfold maxLen; omega) (by omega) (by simp; omega) ?_; intro v8 w8 hown8 hg8 hb8; obtain ⟨g8, c8, rfl⟩ := ownsRow_pos hown8 (by omega); have hO8 := (HO7.out.trans (alloc_ext _ _)).app 0 rfl hg8 hown8 hb8; have ho9 : w8.ownsRow W1.heap.size 31 1 u8 (nxL k (lev k j) i x).length vx := hO8.get 2 rfl; have hs9 := hO8.ext.size; have HO8 := Lib.hid hO8; clear hO8 hb8 hg8 hown8)
                    | (at_builtin; refine wpList_append_own2 rfl _ _ 25 rfl W1.heap.size 31 i31 (.slice none 0 0) 1 24 Tryd.underlying25 hi31 hz31 hs31 hb31 rfl (by decide) u8 (nxL k (lev k j) i x).length vx rfl (World.ownsRow.alloc ho9 _) ⟨w8.heap.size, 0, none⟩ 1 1 [.slice (some ⟨g8, 0, none⟩) (0 + 1) c8] rfl rfl (new_cell _ _ _ _ rfl) (one_slice _ _ _) (by unfold maxLen; omega) (by omega) (by simp; omega) ?_; intro v9 w9 hown9 hg9 hb9))
                  have hO9 := (HO8.out.trans (alloc_ext w8 (.cells #[.slice (some ⟨g8, 0, none⟩) (0 + 1) c8] 31))).app 2 rfl hg9 hown9 hb9
                  have hO9 : OwnL W1 w9 [.row 3 1 (.slice (some ⟨g8, 0, none⟩) (0 + 1) c8) (l ++ [x]).length ((wI (l ++ [x])).map (.int .i64)), .any S' (Q3 vx (nxL k (lev k j) i x) vl (lev k j) vo (outL d j (i + 1))), .row 31 1 v9 ((nxL k (lev k j) i x).length + 1) (vx ++ [.slice (some ⟨g8, 0, none⟩) (0 + 1) c8]), .row 31 1 (.slice (some ⟨gl, 0, none⟩) (lev k j).length cl) (lev k j).length vl, .row 31 1 u5 (outL d j (i + 1)).length vo] := by
                    rw [show (l ++ [x]).length = 0 + 1 by rw [HL0.out]; rfl, show (wI (l ++ [x])).map (Value.int .i64) = [] ++ [.int .i64 (x : Int)] by rw [HL0.out]; rfl]
                    exact hO9
                  have hne : l ++ [x] ≠ [] := by simp
                  have hlw : (l ++ [x]).length ≤ 1000 := by simp; omega
                  obtain ⟨S2, hO10⟩ := word_done hO9 hlw hne
                  have hO11 := hO10.weaken (Φ' := Q3 (vx ++ [.slice (some ⟨g8, 0, none⟩) (0 + 1) c8]) (nxL k (lev k j) i (x + 1)) vl (lev k j) vo (outL d j (i + 1))) (fun W h => ⟨by rw [← HNX.out]; exact h.2.1.snoc HX.out h.1, h.2.2.1, h.2.2.2⟩)
                  have hnn : (nxL k (lev k j) i (x + 1)).length = (nxL k (lev k j) i x).length + 1 := by rw [← HNX.out]; simp
                  rw [← hnn] at hO11
                  have HO11 := Lib.hid hO11
                  clear hO11 hO10 hO9
                  go_roundw
                  case rel => exact ⟨x + 1, S2, vx ++ [.slice (some ⟨g8, 0, none⟩) (0 + 1) c8], by go_num, by omega, Lib.hid (by rw [hnn]; simp [HX.out]), HO11.out⟩
                  case measure => simp [intOf]; omega
                · obtain ⟨bs, os, hsv, hsn⟩ := word_src hul6 hl0
                  have hwl : (wI l).length = l.length := wI_len l
                  rw [hsv] at cv
                  have HO7 := Lib.hid hO7
                  have hown7 : (W6.alloc (.cells #[] 3)).ownsRow W1.heap.size 3 1 (.slice (some ⟨W6.heap.size, 0, none⟩) 0 0) 0 [] := hO7.get 0 rfl
                  have HSN := Lib.hid hsn
                  have HL0 := Lib.hid hl0
                  clear hO7 hwl hsn hsv hl0
                  go_wp2_with (first
                    | (at_builtin; refine wpList_append_own2 rfl _ _ 31 rfl W1.heap.size 3 i3 (.int .i64 0) 1 8 Tryd.underlying31 hi3 hz3 hs3 hb3 rfl (by decide) (.slice (some ⟨W6.heap.size, 0, none⟩) 0 0) 0 [] rfl hown7 ⟨bs, os, none⟩ l.length cu6 ((wI l).map (.int .i64)) rfl (by simp [wI_len]) (HSN.out _ (alloc_ext _ _)) (all_ints _) (by unfold maxLen; omega) (by omega) (by simp; omega) ?_; intro v7 w7 hown7' hg7 hb7; rw [Nat.zero_add, List.nil_append] at hown7'; have hO7 := HO7.out.app 0 rfl hg7 hown7' hb7; obtain ⟨g7, c7, rfl⟩ := ownsRow_pos hown7' (by cases l with | nil => exact absurd rfl HL0.out | cons a r => simp); have hs7 := hO7.ext.size; have HO7b := Lib.hid hO7; clear hO7 hb7 hg7)
                    | (at_builtin; refine wpList_append_own2 rfl _ _ 31 rfl W1.heap.size 3 i3 (.int .i64 0) 1 8 Tryd.underlying31 hi3 hz3 hs3 hb3 rfl (by decide) (.slice (some ⟨g7, 0, none⟩) l.length c7) l.length ((wI l).map (.int .i64)) rfl (World.ownsRow.alloc hown7' _) ⟨_, 0, none⟩ 1 1 [.int .i64 x] rfl rfl (new_cell _ _ _ _ (by simp)) (one_int _) (by unfold maxLen; omega) (by omega) (by simp; omega) ?_; intro v8 w8 hown8 hg8 hb8; obtain ⟨g8, c8, rfl⟩ := ownsRow_pos hown8 (by omega); have hO8 := (HO7b.out.trans (alloc_ext _ _)).app 0 rfl hg8 hown8 hb8; have ho9 : w8.ownsRow W1.heap.size 31 1 u8 (nxL k (lev k j) i x).length vx := hO8.get 2 rfl; have hs9 := hO8.ext.size; have HO8 := Lib.hid hO8; clear hO8 hb8 hg8 hown8)
                    | (at_builtin; refine wpList_append_own2 rfl _ _ 25 rfl W1.heap.size 31 i31 (.slice none 0 0) 1 24 Tryd.underlying25 hi31 hz31 hs31 hb31 rfl (by decide) u8 (nxL k (lev k j) i x).length vx rfl (World.ownsRow.alloc ho9 _) ⟨w8.heap.size, 0, none⟩ 1 1 [.slice (some ⟨g8, 0, none⟩) (l.length + 1) c8] rfl rfl (new_cell _ _ _ _ rfl) (one_slice _ _ _) (by unfold maxLen; omega) (by omega) (by simp; omega) ?_; intro v9 w9 hown9 hg9 hb9))
                  have hO9 := (HO8.out.trans (alloc_ext w8 (.cells #[.slice (some ⟨g8, 0, none⟩) (l.length + 1) c8] 31))).app 2 rfl hg9 hown9 hb9
                  have hO9 : OwnL W1 w9 [.row 3 1 (.slice (some ⟨g8, 0, none⟩) (l.length + 1) c8) (l ++ [x]).length ((wI (l ++ [x])).map (.int .i64)), .any S' (Q3 vx (nxL k (lev k j) i x) vl (lev k j) vo (outL d j (i + 1))), .row 31 1 v9 ((nxL k (lev k j) i x).length + 1) (vx ++ [.slice (some ⟨g8, 0, none⟩) (l.length + 1) c8]), .row 31 1 (.slice (some ⟨gl, 0, none⟩) (lev k j).length cl) (lev k j).length vl, .row 31 1 u5 (outL d j (i + 1)).length vo] := by
                    rw [show (l ++ [x]).length = l.length + 1 by simp, show (wI (l ++ [x])).map (Value.int .i64) = (wI l).map (.int .i64) ++ [.int .i64 (x : Int)] by simp [wI]]
                    exact hO9
                  have hne : l ++ [x] ≠ [] := by simp
                  have hlw : (l ++ [x]).length ≤ 1000 := by simp; omega
                  obtain ⟨S2, hO10⟩ := word_done hO9 hlw hne
                  have hO11 := hO10.weaken (Φ' := Q3 (vx ++ [.slice (some ⟨g8, 0, none⟩) (l.length + 1) c8]) (nxL k (lev k j) i (x + 1)) vl (lev k j) vo (outL d j (i + 1))) (fun W h => ⟨by rw [← HNX.out]; exact h.2.1.snoc HX.out h.1, h.2.2.1, h.2.2.2⟩)
                  have hnn : (nxL k (lev k j) i (x + 1)).length = (nxL k (lev k j) i x).length + 1 := by rw [← HNX.out]; simp
                  rw [← hnn] at hO11
                  have HO11 := Lib.hid hO11
                  clear hO11 hO10 hO9
                  go_roundw
                  case rel => exact ⟨x + 1, S2, vx ++ [.slice (some ⟨g8, 0, none⟩) (l.length + 1) c8], by go_num, by omega, Lib.hid (by rw [hnn]; simp [HX.out]), HO11.out⟩
                  case measure => simp [intOf]; omega
              · obtain rfl : x = k := by omega
                have hrow := nxL_row x (lev x j) i HU.out.2.2.2.2
                rw [hrow] at HX hOx
                go_wp2
                exact ⟨⟨i + 1, S', vx, vo, by go_num, by omega, Lib.hid ⟨HX.out, HN2.out.2⟩, hOx⟩, by simp [intOf]; omega⟩
          | true =>
            simp only [b01, if_true, if_false, Bool.false_eq_true] at hau
            have hown5 : ∀ w', Ext W4 w' → w'.ownsRow W1.heap.size 31 1 u5 (outL d j i).length vo := fun w' h => (HO.out.trans h).get 3 rfl
            have hsz5 : ∀ w', Ext W4 w' → W1.heap.size ≤ w'.heap.size := fun w' h => (HO.out.ext.trans h).size
            go_upto_region 10 with fail
            refine wp_region_ext 5 (factsOf []) (fun k => ([[], [], [], [1, 2], [1, 2, 3], [0, 1, 2, 3, 4], [0, 1, 2, 3, 4, 5]] : List (List Nat)).getD k []) (by kernel_rfl) (by kernel_rfl) Ext.pre (mono_nil) ?_
            simp only [List.take_succ_cons, List.take_zero]
            repeat (first | (with_reducible refine lexL_quiet' (v := ?_) ?_ ?_ ?_ ?_; rotate_left; (· with_reducible rfl); (· simp [factsOf]); (· intro w1 hw1 _; go_simp; with_reducible rfl); (try simp only [Act.put, List.setIfInBounds_toArray, List.set_cons_zero, List.set_cons_succ])) | (with_reducible refine lexL_skip ?_ ?_; (· simp [Region.wanted, yielded, undef]); (try simp only [Act.put, List.setIfInBounds_toArray, List.set_cons_zero, List.set_cons_succ])) | (with_reducible refine lexL_quiet (v := ?_) ?_ ?_ ?_ ?_; rotate_left; (· simp [Region.wanted, yielded, undef]); (· simp [factsOf]); (· intro w1 hw1 _; go_simp; with_reducible rfl); (try simp only [Act.put, List.setIfInBounds_toArray, List.set_cons_zero, List.set_cons_succ])))
            with_reducible refine lexL_nil ?_; intro w1 hw1 hk1; simp only [List.drop_succ_cons, List.drop_zero]
            go_upto_region 12 with (first
              | (go_at_call 26; refine (hau w1 hw1).mono ?_; rintro e w5 ⟨rfl, e5⟩; have e45 := hw1.trans e5; have cv5 := cv w5 e45; have ho5 := hown5 w5 e45; have hs5 := hsz5 w5 e45)
              | (at_builtin; refine wpList_append_own2 rfl _ _ 25 rfl W1.heap.size 31 i31 (.slice none 0 0) 1 24 Tryd.underlying25 hi31 hz31 hs31 hb31 rfl (by decide) u5 (outL d j i).length vo rfl (World.ownsRow.alloc ho5 _) ⟨w5.heap.size, 0, none⟩ 1 1 [.slice Au (wI l).length cu] rfl rfl (new_cell _ _ _ _ rfl) (one_slice _ _ _) (by unfold maxLen; omega) (by omega) (by simp; omega) ?_; intro v6 w6 hown6 hg6 hb6))
            have hO6 := (HO.out.trans (e45.trans (alloc_ext w5 (.cells #[.slice Au (wI l).length cu] 31)))).app 3 rfl hg6 hown6 hb6
            have hos := HOS.out
            simp only [if_true] at hos
            have hln : (outL d j (i + 1)).length = (outL d j i).length + 1 := by rw [hos]; simp
            have hw := HO.out.know 0 rfl
            have hO7 := OwnL.weaken (Φ' := Q3 vn (nxL k (lev k j) i 0) vl (lev k j) (vo ++ [.slice Au (wI l).length cu]) (outL d j (i + 1))) hO6 (fun W h => ⟨h.1, h.2.1, by rw [hos]; exact h.2.2.snoc HN.out.2 (h.2.1 i _ l HU.out.2.2.2.1 HU.out.2.2.2.2)⟩)
            have HO5 := Lib.hid (show OwnL W1 w6 [.any S (Q3 vn (nxL k (lev k j) i 0) vl (lev k j) (vo ++ [.slice Au (wI l).length cu]) (outL d j (i + 1))), .row 31 1 u8 (nxL k (lev k j) i 0).length vn, .row 31 1 (.slice (some ⟨gl, 0, none⟩) (lev k j).length cl) (lev k j).length vl, .row 31 1 v6 (outL d j (i + 1)).length (vo ++ [.slice Au (wI l).length cu])] by rw [hln]; exact hO7)
            have HN2 := Lib.hid (And.intro HN.out.1 (show (vo ++ [Value.slice Au (wI l).length cu]).length = (outL d j (i + 1)).length by rw [hln]; simp [HN.out.2]))
            clear hO6 hO7 hos hw hown6 hg6 hb6 ho5 cv5 cv hown5 hsz5 hln
            have hlx : l.length ≤ 6 := by have := HU.out.2.2.1.1; omega
            go_wp2
            go_loopw [8, 10] (fun nv xv wr => ∃ (x : Nat) (S : Nat → Prop) (vn : List Value), xv = .int .i64 x ∧ x ≤ k ∧ Hid (vn.length = (nxL k (lev k j) i x).length) ∧ OwnL W1 wr [.any S (Q3 vn (nxL k (lev k j) i x) vl (lev k j) (vo ++ [.slice Au (wI l).length cu]) (outL d j (i + 1))), .row 31 1 nv (nxL k (lev k j) i x).length vn, .row 31 1 (.slice (some ⟨gl, 0, none⟩) (lev k j).length cl) (lev k j).length vl, .row 31 1 v6 (outL d j (i + 1)).length (vo ++ [.slice Au (wI l).length cu])]) (fun _ xv _ => k - (intOf xv).toNat)
            case atStart => exact ⟨0, S, vn, rfl, by omega, Lib.hid HN2.out.1, HO5.out⟩
            case round =>
              obtain ⟨x, S', vx, rfl, hx, HX, hOx⟩ := hrel
              obtain ⟨W6, hW6⟩ : ∃ W, W = wr := ⟨_, rfl⟩; subst hW6
              have kk0 := k0 W6 hOx.ext
              by_cases hxk : x < k
              · have hxkI : (x : Int) < (k : Int) := by omega
                have cv := cell_own hOx 2 rfl HU.out.2.2.2.1
                have cv : ∀ w', Ext W6 w' → w'.cell? ⟨gl, i, none⟩ = some (.slice Au (wI l).length cu) := fun w' h => h.cell cv
                have hE60 := Ext.refl W6
                obtain ⟨cu6, hul6⟩ := ((hOx.know 0 rfl).2.1 i _ l HU.out.2.2.2.1 HU.out.2.2.2.2).1
                have hnl : (nxL k (lev k j) i x).length ≤ 6561 := by have := nxL_len k (lev k j) hx hil; have h2 : (lev k j).length * k ≤ 2187 * 3 := Nat.mul_le_mul hll hk13.2; omega
                have hO7 : OwnL W1 (W6.alloc (.cells #[] 3)) [.row 3 1 (.slice (some ⟨W6.heap.size, 0, none⟩) 0 0) 0 [], .any S' (Q3 vx (nxL k (lev k j) i x) vl (lev k j) (vo ++ [.slice Au (wI l).length cu]) (outL d j (i + 1))), .row 31 1 u8 (nxL k (lev k j) i x).length vx, .row 31 1 (.slice (some ⟨gl, 0, none⟩) (lev k j).length cl) (lev k j).length vl, .row 31 1 v6 (outL d j (i + 1)).length (vo ++ [.slice Au (wI l).length cu])] := hOx.add (alloc_ext _ _) (A := .row 3 1 (.slice (some ⟨W6.heap.size, 0, none⟩) 0 0) 0 []) (own_empty W6 3)
                have hsz6 := hOx.ext.size
                have hnx := nxL_snoc k (lev k j) i x HU.out.2.2.2.2
                have HNX := Lib.hid hnx
                have h1I : IntKind.i64.wrap ((l.length : Int)) = (l.length : Int) := IntWalk.i64_in _ (by omega)
                clear hnx h1I
                by_cases hl0 : l = []
                · clear hul6
                  have hnv := HU.out.2.1 hl0
                  have hwl : (wI l).length = 0 := by rw [hl0]; rfl
                  rw [hnv] at cv
                  have HO7 := Lib.hid hO7
                  have hown7 : (W6.alloc (.cells #[] 3)).ownsRow W1.heap.size 3 1 (.slice (some ⟨W6.heap.size, 0, none⟩) 0 0) 0 [] := hO7.get 0 rfl
                  have HL0 := Lib.hid hl0
                  clear hO7 hnv hwl hl0
                  go_wp2_with (first
                    | (at_builtin; refine wpList_append_none rfl _ _ 31 rfl W1.heap.size 3 i3 1 Tryd.underlying31 hi3 (.slice (some ⟨W6.heap.size, 0, none⟩) 0 0) 0 [] rfl hown7 rfl ?_)
                    | (at_builtin; refine wpList_append_own2 rfl _ _ 31 rfl W1.heap.size 3 i3 (.int .i64 0) 1 8 Tryd.underlying31 hi3 hz3 hs3 hb3 rfl (by decide) (.slice (some ⟨W6.heap.size, 0, none⟩) 0 0) 0 [] rfl (World.ownsRow.alloc hown7 _) ⟨_, 0, none⟩ 1 1 [.int .i64 x] rfl rfl (new_cell _ _ _ _ (by simp)) (one_int _) (by unfold maxLen; omega) (by omega) (by simp; omega) ?_; intro v8 w8 hown8 hg8 hb8; obtain ⟨g8, c8, rfl⟩ := ownsRow_pos hown8 (by omega); have hO8 := (HO7.out.trans (alloc_ext _ _)).app 0 rfl hg8 hown8 hb8; have ho9 : w8.ownsRow W1.heap.size 31 1 u8 (nxL k (lev k j) i x).length vx := hO8.get 2 rfl; have hs9 := hO8.ext.size; have HO8 := Lib.hid hO8; clear hO8 hb8 hg8 hown8)
                    | (at_builtin; refine wpList_append_own2 rfl _ _ 25 rfl W1.heap.size 31 i31 (.slice none 0 0) 1 24 Tryd.underlying25 hi31 hz31 hs31 hb31 rfl (by decide) u8 (nxL k (lev k j) i x).length vx rfl (World.ownsRow.alloc ho9 _) ⟨w8.heap.size, 0, none⟩ 1 1 [.slice (some ⟨g8, 0, none⟩) (0 + 1) c8] rfl rfl (new_cell _ _ _ _ rfl) (one_slice _ _ _) (by unfold maxLen; omega) (by omega) (by simp; omega) ?_; intro v9 w9 hown9 hg9 hb9))
                  have hO9 := (HO8.out.trans (alloc_ext w8 (.cells #[.slice (some ⟨g8, 0, none⟩) (0 + 1) c8] 31))).app 2 rfl hg9 hown9 hb9
                  have hO9 : OwnL W1 w9 [.row 3 1 (.slice (some ⟨g8, 0, none⟩) (0 + 1) c8) (l ++ [x]).length ((wI (l ++ [x])).map (.int .i64)), .any S' (Q3 vx (nxL k (lev k j) i x) vl (lev k j) (vo ++ [.slice Au (wI l).length cu]) (outL d j (i + 1))), .row 31 1 v9 ((nxL k (lev k j) i x).length + 1) (vx ++ [.slice (some ⟨g8, 0, none⟩) (0 + 1) c8]), .row 31 1 (.slice (some ⟨gl, 0, none⟩) (lev k j).length cl) (lev k j).length vl, .row 31 1 v6 (outL d j (i + 1)).length (vo ++ [.slice Au (wI l).length cu])] := by
                    rw [show (l ++ [x]).length = 0 + 1 by rw [HL0.out]; rfl, show (wI (l ++ [x])).map (Value.int .i64) = [] ++ [.int .i64 (x : Int)] by rw [HL0.out]; rfl]
                    exact hO9
                  have hne : l ++ [x] ≠ [] := by simp
                  have hlw : (l ++ [x]).length ≤ 1000 := by simp; omega
                  obtain ⟨S2, hO10⟩ := word_done hO9 hlw hne
                  have hO11 := hO10.weaken (Φ' := Q3 (vx ++ [.slice (some ⟨g8, 0, none⟩) (0 + 1) c8]) (nxL k (lev k j) i (x + 1)) vl (lev k j) (vo ++ [.slice Au (wI l).length cu]) (outL d j (i + 1))) (fun W h => ⟨by rw [← HNX.out]; exact h.2.1.snoc HX.out h.1, h.2.2.1, h.2.2.2⟩)
                  have hnn : (nxL k (lev k j) i (x + 1)).length = (nxL k (lev k j) i x).length + 1 := by rw [← HNX.out]; simp
                  rw [← hnn] at hO11
                  have HO11 := Lib.hid hO11
                  clear hO11 hO10 hO9
                  go_roundw
                  case rel => exact ⟨x + 1, S2, vx ++ [.slice (some ⟨g8, 0, none⟩) (0 + 1) c8], by go_num, by omega, Lib.hid (by rw [hnn]; simp [HX.out]), HO11.out⟩
                  case measure => simp [intOf]; omega
                · obtain ⟨bs, os, hsv, hsn⟩ := word_src hul6 hl0
                  have hwl : (wI l).length = l.length := wI_len l
                  rw [hsv] at cv
                  have HO7 := Lib.hid hO7
                  have hown7 : (W6.alloc (.cells #[] 3)).ownsRow W1.heap.size 3 1 (.slice (some ⟨W6.heap.size, 0, none⟩) 0 0) 0 [] := hO7.get 0 rfl
                  have HSN := Lib.hid hsn
                  have HL0 := Lib.hid hl0
                  clear hO7 hwl hsn hsv hl0
                  go_wp2_with (first
                    | (at_builtin; refine wpList_append_own2 rfl _ _ 31 rfl W1.heap.size 3 i3 (.int .i64 0) 1 8 Tryd.underlying31 hi3 hz3 hs3 hb3 rfl (by decide) (.slice (some ⟨W6.heap.size, 0, none⟩) 0 0) 0 [] rfl hown7 ⟨bs, os, none⟩ l.length cu6 ((wI l).map (.int .i64)) rfl (by simp [wI_len]) (HSN.out _ (alloc_ext _ _)) (all_ints _) (by unfold maxLen; omega) (by omega) (by simp; omega) ?_; intro v7 w7 hown7' hg7 hb7; rw [Nat.zero_add, List.nil_append] at hown7'; have hO7 := HO7.out.app 0 rfl hg7 hown7' hb7; obtain ⟨g7, c7, rfl⟩ := ownsRow_pos hown7' (by cases l with | nil => exact absurd rfl HL0.out | cons a r => simp); have hs7 := hO7.ext.size; have HO7b := Lib.hid hO7; clear hO7 hb7 hg7)
                    | (at_builtin; refine wpList_append_own2 rfl _ _ 31 rfl W1.heap.size 3 i3 (.int .i64 0) 1 8 Tryd.underlying31 hi3 hz3 hs3 hb3 rfl (by decide) (.slice (some ⟨g7, 0, none⟩) l.length c7) l.length ((wI l).map (.int .i64)) rfl (World.ownsRow.alloc hown7' _) ⟨_, 0, none⟩ 1 1 [.int .i64 x] rfl rfl (new_cell _ _ _ _ (by simp)) (one_int _) (by unfold maxLen; omega) (by omega) (by simp; omega) ?_; intro v8 w8 hown8 hg8 hb8; obtain ⟨g8, c8, rfl⟩ := ownsRow_pos hown8 (by omega); have hO8 := (HO7b.out.trans (alloc_ext _ _)).app 0 rfl hg8 hown8 hb8; have ho9 : w8.ownsRow W1.heap.size 31 1 u8 (nxL k (lev k j) i x).length vx := hO8.get 2 rfl; have hs9 := hO8.ext.size; have HO8 := Lib.hid hO8; clear hO8 hb8 hg8 hown8)
                    | (at_builtin; refine wpList_append_own2 rfl _ _ 25 rfl W1.heap.size 31 i31 (.slice none 0 0) 1 24 Tryd.underlying25 hi31 hz31 hs31 hb31 rfl (by decide) u8 (nxL k (lev k j) i x).length vx rfl (World.ownsRow.alloc ho9 _) ⟨w8.heap.size, 0, none⟩ 1 1 [.slice (some ⟨g8, 0, none⟩) (l.length + 1) c8] rfl rfl (new_cell _ _ _ _ rfl) (one_slice _ _ _) (by unfold maxLen; omega) (by omega) (by simp; omega) ?_; intro v9 w9 hown9 hg9 hb9))
                  have hO9 := (HO8.out.trans (alloc_ext w8 (.cells #[.slice (some ⟨g8, 0, none⟩) (l.length + 1) c8] 31))).app 2 rfl hg9 hown9 hb9
                  have hO9 : OwnL W1 w9 [.row 3 1 (.slice (some ⟨g8, 0, none⟩) (l.length + 1) c8) (l ++ [x]).length ((wI (l ++ [x])).map (.int .i64)), .any S' (Q3 vx (nxL k (lev k j) i x) vl (lev k j) (vo ++ [.slice Au (wI l).length cu]) (outL d j (i + 1))), .row 31 1 v9 ((nxL k (lev k j) i x).length + 1) (vx ++ [.slice (some ⟨g8, 0, none⟩) (l.length + 1) c8]), .row 31 1 (.slice (some ⟨gl, 0, none⟩) (lev k j).length cl) (lev k j).length vl, .row 31 1 v6 (outL d j (i + 1)).length (vo ++ [.slice Au (wI l).length cu])] := by
                    rw [show (l ++ [x]).length = l.length + 1 by simp, show (wI (l ++ [x])).map (Value.int .i64) = (wI l).map (.int .i64) ++ [.int .i64 (x : Int)] by simp [wI]]
                    exact hO9
                  have hne : l ++ [x] ≠ [] := by simp
                  have hlw : (l ++ [x]).length ≤ 1000 := by simp; omega
                  obtain ⟨S2, hO10⟩ := word_done hO9 hlw hne
                  have hO11 := hO10.weaken (Φ' := Q3 (vx ++ [.slice (some ⟨g8, 0, none⟩) (l.length + 1) c8]) (nxL k (lev k j) i (x + 1)) vl (lev k j) (vo ++ [.slice Au (wI l).length cu]) (outL d j (i + 1))) (fun W h => ⟨by rw [← HNX.out]; exact h.2.1.snoc HX.out h.1, h.2.2.1, h.2.2.2⟩)
                  have hnn : (nxL k (lev k j) i (x + 1)).length = (nxL k (lev k j) i x).length + 1 := by rw [← HNX.out]; simp
                  rw [← hnn] at hO11
                  have HO11 := Lib.hid hO11
                  clear hO11 hO10 hO9
                  go_roundw
                  case rel => exact ⟨x + 1, S2, vx ++ [.slice (some ⟨g8, 0, none⟩) (l.length + 1) c8], by go_num, by omega, Lib.hid (by rw [hnn]; simp [HX.out]), HO11.out⟩
                  case measure => simp [intOf]; omega
              · obtain rfl : x = k := by omega
                have hrow := nxL_row x (lev x j) i HU.out.2.2.2.2
                rw [hrow] at HX hOx
                go_wp2
                exact ⟨⟨i + 1, S', vx, (vo ++ [.slice Au (wI l).length cu]), by go_num, by omega, Lib.hid ⟨HX.out, HN2.out.2⟩, hOx⟩, by simp [intOf]; omega⟩
        · obtain rfl : i = (lev k j).length := by omega
          have hO2 := (hO.perm (perm3 _ _ _ _)).drop
          rw [nxL_all] at hO2
          have hoa := outL_all d j
          rw [HG.out.2.1] at hoa
          rw [hoa] at hO2
          have hN2 := HN.out
          rw [nxL_all, hoa] at hN2
          have hl1 : 1 ≤ (lev k (j + 1)).length := by rw [lev_len]; exact Nat.one_le_pow _ _ (by omega)
          have hownN : W4.ownsRow W1.heap.size 31 1 u8 (lev k (j + 1)).length vn := hO2.get 1 rfl
          obtain ⟨gN, cN, rfl⟩ := ownsRow_pos hownN hl1
          have HO2 := Lib.hid (hO2.weaken (Φ' := fun W => ListQ vn (lev k (j + 1)) W ∧ ListQ vo (outL d (j + 1) 0) W) (fun W h => ⟨h.1, h.2.2⟩))
          have HN2 := Lib.hid hN2
          clear hO hO2 hownN hN2 hoa
          go_wp2
          exact ⟨⟨j + 1, S, vn, vo, gN, cN, by go_num, by omega, HN2, rfl, HO2.out⟩, by simp [intOf]; omega⟩
    · obtain rfl : j = n + 1 := by omega
      have hown : W3.ownsRow W1.heap.size 31 1 u5 (outL d (n + 1) 0).length vo := hO.get 2 rfl
      have hq := (hO.know 0 rfl).2
      obtain ⟨A, c, rfl, hnc, hcs⟩ := cells_of_owns hown
      have hol := outL_len d HG.out.2.2.1 (j := n + 1) (i := 0) (by omega)
      have HF := Lib.hid (And.intro hq (And.intro hcs (And.intro hnc (And.intro hol hO.ext))))
      clear hO hown hq hcs hnc hol
      have hjn2 : ¬ ((n + 1 : Nat) : Int) ≤ (n : Int) := by omega
      go_wp2
      go_ret
      rw [outL_end] at HF
      have HL2 := HL.out.2
      rw [outL_end] at HL2
      exact ⟨_, rfl, ⟨A, c, vo, by rw [← outL_end]; rfl, HF.out.2.1, HL2, HF.out.1, HF.out.2.2.1, by have := HF.out.2.2.2.1; unfold lenMax; omega⟩, hE1.trans HF.out.2.2.2.2⟩
end Go.Proofs.YthlnmcokgfpgmaaDoor

namespace Go.Proofs.YthlnmcokgfpgmaaDoor
open Go.RowKit
set_option linter.unusedVariables false
set_option linter.unusedSimpArgs false

theorem lev_front (k : Nat) : ∀ j, lev k (j + 1) = (List.range k).flatMap (fun x => (lev k j).map (fun u => x :: u))
  | 0 => by
    show ([[]] : List (List Nat)).flatMap _ = _
    simp only [List.flatMap_cons, List.flatMap_nil, List.append_nil, lev, List.map_cons, List.map_nil, List.nil_append]
    induction List.range k with
    | nil => rfl
    | cons a r ih => simp only [List.map_cons, List.flatMap_cons, ih]; rfl
  | j + 1 => by
    show (lev k (j + 1)).flatMap _ = _
    conv => lhs; rw [lev_front k j]
    rw [List.flatMap_assoc]
    congr 1
    funext x
    show ((lev k j).map (fun u => x :: u)).flatMap (fun u => (List.range k).map (fun x => u ++ [x])) = ((lev k j).flatMap (fun u => (List.range k).map (fun x => u ++ [x]))).map (fun u => x :: u)
    rw [List.flatMap_map, List.map_flatMap]
    congr 1
    funext u
    rw [List.map_map]; rfl
/-- How many words of length j are accepted from s. -/
def cntW (d : Dfa) (j s : Nat) : Nat := (lev d.k j).countP (fun u => d.ac (d.run s u))
theorem cntW_zero (d : Dfa) (s : Nat) : cntW d 0 s = if d.ac s then 1 else 0 := by
  unfold cntW lev Dfa.run
  cases h : d.ac s <;> simp [h]
theorem countP_flat {α β : Type} (f : α → List β) (p : β → Bool) : ∀ l : List α, (l.flatMap f).countP p = (l.map (fun a => (f a).countP p)).sum
  | [] => rfl
  | a :: r => by rw [List.flatMap_cons, List.countP_append, countP_flat f p r]; rfl
theorem cntW_succ (d : Dfa) (j s : Nat) : cntW d (j + 1) s = ((List.range d.k).map (fun x => cntW d j (d.to s x))).sum := by
  unfold cntW
  rw [lev_front, countP_flat]
  congr 1
  refine List.map_congr_left fun x _ => ?_
  rw [List.countP_map]; rfl
theorem cntW_le (d : Dfa) (j s : Nat) : cntW d j s ≤ d.k ^ j := by
  unfold cntW
  rw [← lev_len]
  exact List.countP_le_length
theorem foldl_sum (now : List Nat) : ∀ (row : List Int) (c : Nat), c + (row.map (fun x => now.getD x.toNat 0)).sum ≤ topN → row.foldl (tlF now) c = c + (row.map (fun x => now.getD x.toNat 0)).sum
  | [], c, _ => rfl
  | x :: r, c, h => by
    simp only [List.map_cons, List.sum_cons] at h ⊢
    rw [List.foldl_cons]
    have h1 : tlF now c x = c + now.getD x.toNat 0 := by
      unfold tlF satS
      exact Nat.min_eq_left (by omega)
    rw [h1, foldl_sum now r _ (by omega)]; omega
theorem row_map {d : Dfa} (hg : Good d) {s : Nat} (hs : s < d.rows.length) (f : Nat → Nat) : (d.rows[s]).map (fun x : Int => f x.toNat) = (List.range d.k).map (fun x => f (d.to s x)) := by
  refine List.ext_getElem (by simp [hg.row hs]) fun i h1 h2 => ?_
  have hi : i < d.rows[s].length := by simpa using h1
  rw [List.getElem_map, List.getElem_map, List.getElem_range, (hg.cell hs hi).1]; rfl
theorem tl_count {d : Dfa} (hg : Good d) (hk : d.k ≤ 3) : ∀ j, j ≤ 6 → ∀ s, s < d.n → tlN d j s = cntW d j s
  | 0, _, s, hs => by
    rw [cntW_zero]
    unfold tlN tailL tl0 Dfa.ac
    have hs' : s < d.acc.length := by rw [hg.acc]; exact hs
    rw [List.getD_eq_getElem?_getD, List.getElem?_map, List.getD_eq_getElem?_getD, List.getElem?_eq_getElem hs']; rfl
  | j + 1, hj, s, hs => by
    rw [cntW_succ]
    have hs' : s < d.rows.length := hs
    unfold tlN tailL
    rw [List.getD_eq_getElem?_getD, List.getElem?_map, List.getElem?_eq_getElem hs']
    show tlRow (tailL d j) d.rows[s] = _
    have hsum : (d.rows[s].map (fun x => (tailL d j).getD x.toNat 0)) = (List.range d.k).map (fun x => cntW d j (d.to s x)) := by
      rw [row_map hg hs' (fun n => (tailL d j).getD n 0)]
      refine List.map_congr_left fun x hx => ?_
      exact tl_count hg hk j (by omega) _ (hg.to_lt hs (List.mem_range.1 hx))
    have hle : (d.rows[s].map (fun x => (tailL d j).getD x.toNat 0)).sum ≤ 2187 := by
      rw [hsum, ← cntW_succ]
      exact Nat.le_trans (cntW_le d _ s) (pow_small hk (by omega))
    unfold tlRow
    rw [foldl_sum _ _ _ (by rw [Nat.zero_add]; exact Nat.le_trans hle (by decide)), Nat.zero_add, hsum]
/-- The words of just that length. -/
theorem words_count (d : Dfa) (n : Nat) : (wordsL d n).countP (fun u => u.length == n) = cntW d n 0 := by
  unfold wordsL
  rw [List.range_succ, List.flatMap_append, List.countP_append]
  have h1 : ((List.range n).flatMap (fun j => (lev d.k j).filter (accW d))).countP (fun u => u.length == n) = 0 := by
    rw [List.countP_eq_zero]
    intro u hu
    obtain ⟨j, hj, hu⟩ := List.mem_flatMap.1 hu
    have h2 := (lev_ok (List.mem_filter.1 hu).1).1
    have h3 := List.mem_range.1 hj
    simp; omega
  have h2 : ([n].flatMap (fun j => (lev d.k j).filter (accW d))).countP (fun u => u.length == n) = cntW d n 0 := by
    simp only [List.flatMap_cons, List.flatMap_nil, List.append_nil]
    rw [List.countP_filter]
    unfold cntW
    refine List.countP_congr fun u hu => ?_
    have := (lev_ok hu).1
    simp [this, accW]
  rw [h1, h2, Nat.zero_add]
theorem count_law {d : Dfa} (hg : Good d) (hk : d.k ≤ 3) {n : Nat} (hn : n ≤ 6) : countR d n = ((((wordsL d n).countP (fun u => u.length == n) : Nat) : Int), 0) := by
  have h1 := tl_count hg hk n hn 0 (by have := hg.size; unfold Dfa.n; omega)
  have h2 := cntW_le d n 0
  have h3 := pow_small hk (show n ≤ 7 by omega)
  unfold countR
  have hc : checkD d = 0 := (good_iff d).2 hg
  rw [if_neg (fun h => h hc), if_neg (by omega), if_neg (by omega), Int.toNat_natCast, h1, if_neg (by omega), words_count]
theorem count_neg {d : Dfa} (hg : Good d) {n : Int} (hn : n < 0) : countR d n = (0, 1) := by
  unfold countR
  rw [if_neg (fun h => h ((good_iff d).2 hg)), if_pos hn]
theorem count_big {d : Dfa} (hg : Good d) {n : Int} (hn : 256 < n) : countR d n = (0, 3) := by
  unfold countR
  rw [if_neg (fun h => h ((good_iff d).2 hg)), if_neg (by omega), if_pos hn]
end Go.Proofs.YthlnmcokgfpgmaaDoor
