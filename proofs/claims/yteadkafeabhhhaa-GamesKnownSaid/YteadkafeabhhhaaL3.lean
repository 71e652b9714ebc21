/- gauntletlaw32.GamesTurns 3: the walk. -/
import Derived.Test.YteadkafeabhhhaaH4
import Derived.Test.YteadkafeabhhhaaF1
namespace Go.Proofs.Yteadkafeabhhhaa
open Go.RowKit
set_option linter.unusedVariables false
set_option linter.unusedSimpArgs false
attribute [local go_sem] Oper.quietV quietV Oper.gives givesV ext_refl_iff ext_alloc_iff ext_drew_iff ext_drewN_iff

theorem raw_valid (r : Raw) : Valid r.mach := by
  have hn : 1 ≤ r.n ∧ r.n ≤ 6 := by unfold Raw.n; omega
  have hi : 1 ≤ r.ins ∧ r.ins ≤ 3 := by unfold Raw.ins; omega
  have ho : 1 ≤ r.outs ∧ r.outs ≤ 3 := by unfold Raw.outs; omega
  refine ⟨by simp only [Raw.mach]; omega, by simp only [Raw.mach]; omega, by simp [Raw.mach]; omega, ?_, ?_⟩
  · intro x hx
    obtain ⟨s, _, rfl⟩ := List.mem_map.1 hx
    simp [Raw.row, Raw.mach]
  · intro x hx e he
    obtain ⟨s, _, rfl⟩ := List.mem_map.1 hx
    obtain ⟨i, _, rfl⟩ := List.mem_map.1 he
    unfold Raw.edge
    simp only
    split
    · simp [fitsB]
    · have h1 : r.edges.getD (s * r.ins + i) 0 / 4 % r.n < r.n := Nat.mod_lt _ (by omega)
      have h2 : r.edges.getD (s * r.ins + i) 0 / 4 / r.n % r.outs < r.outs := Nat.mod_lt _ (by omega)
      simp only [fitsB, Raw.mach, List.length_map, List.length_range, Bool.or_eq_true, Bool.and_eq_true, beq_iff_eq, decide_eq_true_eq]
      right
      generalize r.edges.getD (s * r.ins + i) 0 / 4 % r.n = a at *
      generalize r.edges.getD (s * r.ins + i) 0 / 4 / r.n % r.outs = c at *
      exact ⟨⟨⟨by omega, by omega⟩, by omega⟩, decide_eq_true (by omega)⟩
theorem RawGV.ext {w w' : World} {v : Value} {r : RawG} (h : RawGV w v r) (e : Ext w w') : RawGV w' v r := by
  obtain ⟨ev, c, hv, hu, h2⟩ := h
  exact ⟨ev, c, hv, U16sC.ext hu e, h2⟩
theorem game_fine (r : RawG) : Fine r.game := ⟨raw_valid _, by simp [RawG.game, bitsL_len, Raw.mach], by simp [RawG.game, bitsL_len, Raw.mach]⟩
theorem game_six (r : RawG) : r.game.m.rows.length ≤ 6 := by simp [RawG.game, Raw.mach, Raw.n]; omega
theorem fine_check {g : Game} (h : Fine g) : checkG g = 0 := by
  unfold checkG cnt16
  rw [(valid_iff g.m).2 h.1, if_neg (by decide), if_pos ⟨h.2.1, h.2.2⟩]
theorem wrap_one : IntKind.i64.wrap 1 = 1 := by decide
attribute [local go_sem] wrap_one
theorem stays_ints (xs : List Int) : Stays Ext (fun v w => ∃ c, IntsC w v xs c) := fun _ _ _ hE ⟨c, h⟩ => ⟨c, h.ext hE⟩
theorem stays_bools (xs : List Bool) : Stays Ext (fun v w => ∃ c, BoolsC w v xs c) := fun _ _ _ hE ⟨c, h⟩ => ⟨c, h.ext hE⟩
theorem game_outs (r : RawG) : r.game.m.rows.length = r.m.n := by simp [RawG.game, Raw.mach]

set_option maxRecDepth 100000 in
set_option maxHeartbeats 8000000 in
theorem GamesTurns_any (w : World) (v : Value) (r : RawG) (hr : RawGV w v r) : Calls Try.prog 3 #[v] w fun e w' => e = .returned (.bool true) ∧ Ext w w' := by
  obtain ⟨ev, c, rfl, hu, h1, h2, h3, h4, h5⟩ := id hr
  go_enter Try.func3, Try.ntmps3
  go_upto_region 1 with fail
  refine wp_named ?_
  intro W1 hW1
  have hE1 : Ext w W1 := by rw [hW1]; exact (Ext.refl _).alloc _
  have k0 : ∀ w', Ext W1 w' → w'.cell? ⟨w.heap.size, 0, none⟩ = some (.int .u8 r.m.states) := fun w' h => h.cell (by rw [hW1]; simp [go_sem])
  have k1 : ∀ w', Ext W1 w' → w'.cell? ⟨w.heap.size, 1, none⟩ = some (.int .u8 r.m.inputs) := fun w' h => h.cell (by rw [hW1]; simp [go_sem])
  have k2 : ∀ w', Ext W1 w' → w'.cell? ⟨w.heap.size, 2, none⟩ = some (.int .u8 r.m.outputs) := fun w' h => h.cell (by rw [hW1]; simp [go_sem])
  have k3 : ∀ w', Ext W1 w' → w'.cell? ⟨w.heap.size, 3, none⟩ = some (.bool r.m.part) := fun w' h => h.cell (by rw [hW1]; simp [go_sem])
  have k4 : ∀ w', Ext W1 w' → w'.cell? ⟨w.heap.size, 4, none⟩ = some ev := fun w' h => h.cell (by rw [hW1]; simp [go_sem])
  have k5 : ∀ w', Ext W1 w' → w'.cell? ⟨w.heap.size, 5, none⟩ = some (.int .u8 r.ours) := fun w' h => h.cell (by rw [hW1]; simp [go_sem])
  have k6 : ∀ w', Ext W1 w' → w'.cell? ⟨w.heap.size, 6, none⟩ = some (.int .u8 r.set) := fun w' h => h.cell (by rw [hW1]; simp [go_sem])
  clear hW1
  obtain ⟨Ae, rfl, hu2⟩ := hu
  clear hu2
  have hof := GOf_any W1 _ r (hr.ext hE1)
  have hF := game_fine r
  have hn6 := game_six r
  generalize r.game = g at hof hF hn6
  go_upto_region 2 with (go_at_call 9; refine hof.mono ?_; rintro e W2 ⟨⟨gv, rfl, hg⟩, hE2⟩; obtain ⟨Ar, cr, Ao, co, As, cs, rfl⟩ := hg.form)
  refine wp_named ?_
  intro W hW
  obtain ⟨n, hn⟩ : ∃ n, n = g.m.rows.length := ⟨_, rfl⟩
  have hol := hF.2.1
  have hsl := hF.2.2
  rw [← hn] at hol hsl hn6
  rw [hol, hsl, ← hn] at hW hg
  have hG : ∀ w', Ext W w' → GameV w' (.agg #[.int .i64 g.m.ins, .int .i64 g.m.outs, .slice Ar n cr, .slice Ao n co, .slice As n cs]) g := fun w' h => hg.ext (Ext.trans (by rw [hW]; exact alloc_ext _ _) h)
  have q0 : ∀ w', Ext W w' → w'.cell? ⟨W2.heap.size, 0, none⟩ = some (.int .i64 g.m.ins) := fun w' h => h.cell (by rw [hW]; simp [go_sem])
  have q1 : ∀ w', Ext W w' → w'.cell? ⟨W2.heap.size, 1, none⟩ = some (.int .i64 g.m.outs) := fun w' h => h.cell (by rw [hW]; simp [go_sem])
  have q2 : ∀ w', Ext W w' → w'.cell? ⟨W2.heap.size, 2, none⟩ = some (.slice Ar n cr) := fun w' h => h.cell (by rw [hW]; simp [go_sem])
  have q3 : ∀ w', Ext W w' → w'.cell? ⟨W2.heap.size, 3, none⟩ = some (.slice Ao n co) := fun w' h => h.cell (by rw [hW]; simp [go_sem])
  have q4 : ∀ w', Ext W w' → w'.cell? ⟨W2.heap.size, 4, none⟩ = some (.slice As n cs) := fun w' h => h.cell (by rw [hW]; simp [go_sem])
  have hEW : Ext w W := by rw [hW]; exact (hE1.trans hE2).alloc _
  generalize W2.heap.size = N at *
  have HF := Lib.hid (And.intro hF (And.intro hn (And.intro hol hsl)))
  have hn1 : 1 ≤ n := by have := hF.1.size; omega
  clear hW hg hof k0 k1 k2 k3 k4 k5 k6 hr hF hn hol hsl hE1 hE2 h1 h2 h3 h4 h5
  have hEE := Ext.refl W
  go_upto_region 3 with (go_at_call 10; refine (Safe_ok _ _ g (hG _ (Ext.refl _)) (fine_check HF.out.1) (by have := HF.out.2.1; omega) _ rfl n (by rw [safeG_len]; exact HF.out.2.1.symm)).mono ?_; rintro e Wa ⟨Sa, rfl, fa, ea⟩)
  go_upto_region 4 with (go_at_call 11; refine (Ranks_ok _ _ g (hG _ ea) (fine_check HF.out.1) (by have := HF.out.2.1; omega) _ rfl n (by rw [rankG_len]; exact HF.out.2.1.symm)).mono ?_; rintro e Wb ⟨Sb, rfl, fb, eb⟩)
  have hEb := ea.trans eb
  have fa := BoolsC.ext fa eb
  clear ea eb
  go_upto_region 5 with fail
  refine wp_named ?_
  intro Wc hWc
  obtain ⟨N8, hN8⟩ : ∃ N8, N8 = Wb.heap.size := ⟨_, rfl⟩
  have hO : OwnL Wb Wc [.blk N8 (.cells #[.int .i64 g.m.ins, .int .i64 g.m.outs, .slice Ar n cr, .slice Ao n co, .slice As n cs] 32)] := by
    rw [hWc]; exact (OwnL.nil (Ext.refl Wb)).add (alloc_ext _ _) (A := .blk N8 (.cells #[.int .i64 g.m.ins, .int .i64 g.m.outs, .slice Ar n cr, .slice Ao n co, .slice As n cs] 32)) ⟨by omega, by rw [hN8]; exact heap_alloc_new _ _⟩
  have hsc : Wc.heap.size = N8 + 1 := by rw [hWc, hN8]; simp
  rw [← hN8]
  clear hWc hN8
  have hEc := hEb.trans hO.ext
  obtain ⟨c1, hb1⟩ := (hG Wc hEc).mach.2.1
  obtain ⟨c2, hb2⟩ := (hG Wc hEc).mach.2.2
  have hgl : g.ours.length = n := HF.out.2.2.1
  have hoth := OthersN_any Wc _ g.ours c1 hb1 (by omega)
  rw [hgl] at hoth
  clear hgl
  go_upto_region 6 with (go_at_call 12; refine hoth.mono ?_; rintro e Wd ⟨⟨u, rfl, ho⟩, ed⟩; obtain ⟨gu, cu, rfl⟩ := ownsRow_pos ho (by omega); have hOd := hO.trans ed; have x3 := cell_of_blk (hOd.get 0 rfl).2 3 (u := .slice Ao n co) rfl; have xf := free_of_blk (hOd.get 0 rfl).2)
  refine wp_named ?_
  intro X hX
  have hOX := hOd.put 0 rfl 3 (.slice (some ⟨gu, 0, none⟩) n cu)
  rw [← hX] at hOX
  have hgb := (World.ownsRow.lt ho gu rfl).1
  have hoX : X.ownsRow Wc.heap.size 4 1 (.slice (some ⟨gu, 0, none⟩) n cu) n ((othersL g.ours).map .bool) := ownsRow_of ho (fun b hb => by
    have := (World.ownsRow.lt ho b hb).1
    rw [hX, heap_setCell_other _ _ _ _ (by simp; omega)])
  obtain ⟨c3, hb3⟩ := bools_of_owns hoX (by unfold othersL; rw [List.length_map]; exact HF.out.2.2.1) (by unfold lenMax; omega)
  have hEX := hEb.trans hOX.ext
  have hb3 : BoolsC X (.slice (some ⟨gu, 0, none⟩) n cu) (othersL g.ours) c3 := hb3
  obtain ⟨g', hg'⟩ : ∃ g' : Game, g' = ⟨g.m, othersL g.ours, g.set⟩ := ⟨_, rfl⟩
  have hGo : ∀ w', Ext X w' → GameV w' (.agg #[.int .i64 g.m.ins, .int .i64 g.m.outs, .slice Ar n cr, .slice (some ⟨gu, 0, none⟩) n cu, .slice As n cs]) g' := fun w' h => by
    obtain ⟨rv, cr', ov, co', sv, cs', hv, hrr, _, hss⟩ := hG w' (hEX.trans h)
    cases hv
    rw [hg']
    exact ⟨_, cr', _, c3, _, cs', rfl, hrr, hb3.ext h, hss⟩
  have hFg : Fine g' ∧ rankG g'.m g'.ours g'.set = rankG g.m (othersL g.ours) g.set ∧ n = g'.m.rows.length := by
    rw [hg']
    exact ⟨⟨HF.out.1.1, by have := HF.out.1.2.1; simpa [othersL] using this, HF.out.1.2.2⟩, rfl, HF.out.2.1⟩
  have p0 : ∀ w', Ext X w' → w'.cell? ⟨N8, 0, none⟩ = some (.int .i64 g.m.ins) := fun w' h => h.cell (cell_of_blk (hOX.get 0 rfl).2 0 rfl)
  have p1 : ∀ w', Ext X w' → w'.cell? ⟨N8, 1, none⟩ = some (.int .i64 g.m.outs) := fun w' h => h.cell (cell_of_blk (hOX.get 0 rfl).2 1 rfl)
  have p2 : ∀ w', Ext X w' → w'.cell? ⟨N8, 2, none⟩ = some (.slice Ar n cr) := fun w' h => h.cell (cell_of_blk (hOX.get 0 rfl).2 2 rfl)
  have p3 : ∀ w', Ext X w' → w'.cell? ⟨N8, 3, none⟩ = some (.slice (some ⟨gu, 0, none⟩) n cu) := fun w' h => h.cell (cell_of_blk (hOX.get 0 rfl).2 3 rfl)
  have p4 : ∀ w', Ext X w' → w'.cell? ⟨N8, 4, none⟩ = some (.slice As n cs) := fun w' h => h.cell (cell_of_blk (hOX.get 0 rfl).2 4 rfl)
  have fa := BoolsC.ext fa hOX.ext
  have fb := IntsC.ext fb hOX.ext
  have q0 := fun w' (h : Ext X w') => q0 w' (hEX.trans h)
  have q1 := fun w' (h : Ext X w') => q1 w' (hEX.trans h)
  have q2 := fun w' (h : Ext X w') => q2 w' (hEX.trans h)
  have q3 := fun w' (h : Ext X w') => q3 w' (hEX.trans h)
  have q4 := fun w' (h : Ext X w') => q4 w' (hEX.trans h)
  have hG := fun w' (h : Ext X w') => hG w' (hEX.trans h)
  have HFG := Lib.hid hFg
  have HEX := Lib.hid (hEW.trans hEX)
  clear hX hOX hoX hO hOd x3 xf ho ed hoth hb1 hb2 hFg hg' hEX hEW hEb hEc hsc hgb
  have hXX := Ext.refl X
  go_upto_region 7 with (go_at_call 11; refine (Ranks_ok _ _ g' (hGo _ (Ext.refl _)) (fine_check HFG.out.1) (by have := HFG.out.2.2; omega) _ HFG.out.2.1 n (by rw [rankG_len]; exact HF.out.2.1.symm)).mono ?_; rintro e Wt ⟨St, rfl, ft, et⟩)
  have fa := BoolsC.ext fa et
  have fb := IntsC.ext fb et
  clear hXX
  have hq : ∀ w', Ext Wt w' → Ext X w' := fun w' h => et.trans h
  have q0 := fun w' (h : Ext Wt w') => q0 w' (hq w' h)
  have q1 := fun w' (h : Ext Wt w') => q1 w' (hq w' h)
  have q2 := fun w' (h : Ext Wt w') => q2 w' (hq w' h)
  have q3 := fun w' (h : Ext Wt w') => q3 w' (hq w' h)
  have q4 := fun w' (h : Ext Wt w') => q4 w' (hq w' h)
  have p3 := fun w' (h : Ext Wt w') => p3 w' (hq w' h)
  have hne : ((n : Int) != (n : Int)) = false := by simp
  have HL : Hid (g.ours.length = g.m.rows.length ∧ (othersL g.ours).length = g.m.rows.length ∧ g.set.length = g.m.rows.length) := ⟨HF.out.1.2.1, by have := HF.out.1.2.1; simpa [othersL] using this, HF.out.1.2.2⟩
  refine wp_region_ext 38 (factsOf [(8, fun v w => ∃ c, IntsC w v (rankG g.m g.ours g.set) c), (9, fun v _ => v = .int .i64 1), (18, fun v w => ∃ c, IntsC w v (rankG g.m (othersL g.ours) g.set) c), (19, fun v _ => v = .int .i64 1)]) (fun k => ([[], [], [], [2], [], [4], [], [6], [2, 3, 4, 5, 6, 7], [0, 1, 2, 3, 4, 5, 6, 7, 8], [], [], [], [12], [], [14], [], [16], [0, 1, 2, 3, 4, 5, 6, 7, 8, 9, 12, 13, 14, 15, 16, 17], [0, 1, 2, 3, 4, 5, 6, 7, 8, 9, 10, 11, 12, 13, 14, 15, 16, 17, 18], [0, 1, 2, 3, 4, 5, 6, 7, 8, 9, 10, 11, 12, 13, 14, 15, 16, 17, 18, 19], [0, 1, 2, 3, 4, 5, 6, 7, 8, 9, 10, 11, 12, 13, 14, 15, 16, 17, 18, 19, 20], [0, 1, 2, 3, 4, 5, 6, 7, 8, 9, 10, 11, 12, 13, 14, 15, 16, 17, 18, 19, 20, 21], [0, 1, 2, 3, 4, 5, 6, 7, 8, 9, 10, 11, 12, 13, 14, 15, 16, 17, 18, 19, 20, 21, 22], [0, 1, 2, 3, 4, 5, 6, 7, 8, 9, 10, 11, 12, 13, 14, 15, 16, 17, 18, 19, 20, 21, 22, 23], [0, 1, 2, 3, 4, 5, 6, 7, 8, 9, 10, 11, 12, 13, 14, 15, 16, 17, 18, 19, 20, 21, 22, 23, 24], [0, 1, 2, 3, 4, 5, 6, 7, 8, 9, 10, 11, 12, 13, 14, 15, 16, 17, 18, 19, 20, 21, 22, 23, 24, 25], [0, 1, 2, 3, 4, 5, 6, 7, 8, 9, 10, 11, 12, 13, 14, 15, 16, 17, 18, 19, 20, 21, 22, 23, 24, 25, 26], [0, 1, 2, 3, 4, 5, 6, 7, 8, 9, 10, 11, 12, 13, 14, 15, 16, 17, 18, 19, 20, 21, 22, 23, 24, 25, 26, 27], [0, 1, 2, 3, 4, 5, 6, 7, 8, 9, 10, 11, 12, 13, 14, 15, 16, 17, 18, 19, 20, 21, 22, 23, 24, 25, 26], [0, 1, 2, 3, 4, 5, 6, 7, 8, 9, 10, 11, 12, 13, 14, 15, 16, 17, 18, 19, 20, 21, 22, 23, 24, 25, 26, 29], [0, 1, 2, 3, 4, 5, 6, 7, 8, 9, 10, 11, 12, 13, 14, 15, 16, 17, 18, 19, 20, 21, 22, 23, 24, 25, 26, 27, 28, 29, 30], [0, 1, 2, 3, 4, 5, 6, 7, 8, 9, 10, 11, 12, 13, 14, 15, 16, 17, 18, 19, 20, 21, 22, 23, 24, 25, 26, 27, 28, 29, 30, 31], [0, 1, 2, 3, 4, 5, 6, 7, 8, 9, 10, 11, 12, 13, 14, 15, 16, 17, 18, 19, 20, 21, 22, 23, 24, 25, 26, 27, 28, 29, 30, 31, 32], [0, 1, 2, 3, 4, 5, 6, 7, 8, 9, 10, 11, 12, 13, 14, 15, 16, 17, 18, 19, 20, 21, 22, 23, 24, 25, 26, 27, 28, 29, 30, 31, 32, 33], [0, 1, 2, 3, 4, 5, 6, 7, 8, 9, 10, 11, 12, 13, 14, 15, 16, 17, 18, 19, 20, 21, 22, 23, 24, 25, 26, 27, 28, 29, 30, 31, 32, 33, 34], [0, 1, 2, 3, 4, 5, 6, 7, 8, 9, 10, 11, 12, 13, 14, 15, 16, 17, 18, 19, 20, 21, 22, 23, 24, 25, 26, 27, 28, 29, 30, 31, 32, 33], [0, 1, 2, 3, 4, 5, 6, 7, 8, 9, 10, 11, 12, 13, 14, 15, 16, 17, 18, 19, 20, 21, 22, 23, 24, 25, 26, 27, 28, 29, 30, 31, 32, 33, 36], [0, 1, 2, 3, 4, 5, 6, 7, 8, 9, 10, 11, 12, 13, 14, 15, 16, 17, 18, 19, 20, 21, 22, 23, 24, 25, 26, 27, 28, 29, 30, 31, 32, 33, 34, 35, 36, 37], [0, 1, 2, 3, 4, 5, 6, 7, 8, 9, 10, 11, 12, 13, 14, 15, 16, 17, 18, 19, 20, 21, 22, 23, 24, 25, 26, 27, 28, 29, 30, 31, 32, 33, 34, 35, 36, 37, 38]] : List (List Nat)).getD k []) (by kernel_rfl) (by kernel_rfl) Ext.pre (mono_cons (stays_ints _) (mono_cons (stays_eq _) (mono_cons (stays_ints _) (mono_cons (stays_eq _) (mono_nil))))) ?_
  simp only [List.take_succ_cons, List.take_zero]
  repeat (first | (with_reducible refine lexL_quiet' (v := ?_) ?_ ?_ ?_ ?_; rotate_left; (· with_reducible rfl); (· simp [factsOf]); (· intro w1 hw1 _; go_simp; with_reducible rfl); (try simp only [Act.put, List.setIfInBounds_toArray, List.set_cons_zero, List.set_cons_succ])) | (with_reducible refine lexL_skip ?_ ?_; (· simp [Region.wanted, yielded, undef]); (try simp only [Act.put, List.setIfInBounds_toArray, List.set_cons_zero, List.set_cons_succ])) | (with_reducible refine lexL_quiet (v := ?_) ?_ ?_ ?_ ?_; rotate_left; (· simp [Region.wanted, yielded, undef]); (· simp [factsOf]); (· intro w1 hw1 _; go_simp; with_reducible rfl); (try simp only [Act.put, List.setIfInBounds_toArray, List.set_cons_zero, List.set_cons_succ])))
  with_reducible refine lexL_give' (φ := ?_) ?_ ?_ ?_ ?_; rotate_left; (· with_reducible rfl); (· simp only [factsOf, Nat.reduceAdd, ↓reduceIte, Nat.reduceEqDiff]; rfl)
  · intro w1 hw1 _
    go_simp
    have hm := (hG w1 (hq _ hw1)).mach
    obtain ⟨d1, hd1⟩ := hm.2.1
    obtain ⟨d2, hd2⟩ := hm.2.2
    refine (force_any w1 _ _ _ g.m hm.1 HF.out.1.1 g.ours g.set d1 d2 hd1 hd2 HL.out.1 HL.out.2.2).mono ?_
    rintro e w2 ⟨⟨v, cv, rfl, hi⟩, hb⟩
    exact ⟨_, rfl, hb, cv, hi⟩
  rintro v8 w8 hw8 - hk8
  clear hk8 hw8 w8
  (try simp only [Act.put, List.setIfInBounds_toArray, List.set_cons_zero, List.set_cons_succ])
  with_reducible refine lexL_give' (φ := ?_) ?_ ?_ ?_ ?_; rotate_left; (· with_reducible rfl); (· simp only [factsOf, Nat.reduceAdd, ↓reduceIte, Nat.reduceEqDiff]; rfl)
  · intro w1 hw1 hk1
    go_simp
    obtain ⟨c8, h8⟩ := hk1.get 8 (by decide) rfl rfl
    refine (list_one w1 _ v8 _ c8 (IntsC.ext fb hw1) h8).mono ?_
    rintro e w2 ⟨rfl, hb⟩
    exact ⟨_, rfl, hb, rfl⟩
  rintro v9 w9 hw9 rfl hk9
  clear hk9 hw9 w9
  (try simp only [Act.put, List.setIfInBounds_toArray, List.set_cons_zero, List.set_cons_succ])
  repeat (first | (with_reducible refine lexL_quiet' (v := ?_) ?_ ?_ ?_ ?_; rotate_left; (· with_reducible rfl); (· simp [factsOf]); (· intro w1 hw1 _; go_simp; with_reducible rfl); (try simp only [Act.put, List.setIfInBounds_toArray, List.set_cons_zero, List.set_cons_succ])) | (with_reducible refine lexL_skip ?_ ?_; (· simp [Region.wanted, yielded, undef]); (try simp only [Act.put, List.setIfInBounds_toArray, List.set_cons_zero, List.set_cons_succ])) | (with_reducible refine lexL_quiet (v := ?_) ?_ ?_ ?_ ?_; rotate_left; (· simp [Region.wanted, yielded, undef]); (· simp [factsOf]); (· intro w1 hw1 _; go_simp; with_reducible rfl); (try simp only [Act.put, List.setIfInBounds_toArray, List.set_cons_zero, List.set_cons_succ])))
  with_reducible refine lexL_give' (φ := ?_) ?_ ?_ ?_ ?_; rotate_left; (· with_reducible rfl); (· simp only [factsOf, Nat.reduceAdd, ↓reduceIte, Nat.reduceEqDiff]; rfl)
  · intro w1 hw1 _
    go_simp
    have hm := (hG w1 (hq _ hw1)).mach
    obtain ⟨d2, hd2⟩ := hm.2.2
    refine (force_any w1 _ _ _ g.m hm.1 HF.out.1.1 (othersL g.ours) g.set c3 d2 (hb3.ext (hq _ hw1)) hd2 HL.out.2.1 HL.out.2.2).mono ?_
    rintro e w2 ⟨⟨v, cv, rfl, hi⟩, hb⟩
    exact ⟨_, rfl, hb, cv, hi⟩
  rintro v18 w18 hw18 - hk18
  clear hk18 hw18 w18
  (try simp only [Act.put, List.setIfInBounds_toArray, List.set_cons_zero, List.set_cons_succ])
  with_reducible refine lexL_give' (φ := ?_) ?_ ?_ ?_ ?_; rotate_left; (· with_reducible rfl); (· simp only [factsOf, Nat.reduceAdd, ↓reduceIte, Nat.reduceEqDiff]; rfl)
  · intro w1 hw1 hk1
    go_simp
    obtain ⟨c18, h18⟩ := hk1.get 18 (by decide) rfl rfl
    refine (list_one w1 _ v18 _ c18 (IntsC.ext ft hw1) h18).mono ?_
    rintro e w2 ⟨rfl, hb⟩
    exact ⟨_, rfl, hb, rfl⟩
  rintro v19 w19 hw19 rfl hk19
  clear hk19 hw19 w19
  (try simp only [Act.put, List.setIfInBounds_toArray, List.set_cons_zero, List.set_cons_succ])
  repeat (first | (with_reducible refine lexL_quiet' (v := ?_) ?_ ?_ ?_ ?_; rotate_left; (· with_reducible rfl); (· simp [factsOf]); (· intro w1 hw1 _; go_simp; with_reducible rfl); (try simp only [Act.put, List.setIfInBounds_toArray, List.set_cons_zero, List.set_cons_succ])) | (with_reducible refine lexL_skip ?_ ?_; (· simp [Region.wanted, yielded, undef]); (try simp only [Act.put, List.setIfInBounds_toArray, List.set_cons_zero, List.set_cons_succ])) | (with_reducible refine lexL_quiet (v := ?_) ?_ ?_ ?_ ?_; rotate_left; (· simp [Region.wanted, yielded, undef]); (· simp [factsOf]); (· intro w1 hw1 _; go_simp; with_reducible rfl); (try simp only [Act.put, List.setIfInBounds_toArray, List.set_cons_zero, List.set_cons_succ])))
  with_reducible refine lexL_nil ?_; intro w1 hw1 hk1; simp only [List.drop_succ_cons, List.drop_zero]
  clear hk1
  clear p0 p1 p2 p3 p4 q0 q1 q2 q3 q4 hG hGo
  obtain ⟨Z, hZ⟩ : ∃ Z, Z = w1 := ⟨_, rfl⟩
  subst hZ
  obtain ⟨At, hAt, hct, _, _⟩ := id ft
  obtain rfl : At = St := by injection hAt with h; exact h.symm
  obtain ⟨Aa, hAa, hca, _, _⟩ := id fa
  obtain rfl : Aa = Sa := by injection hAa with h; exact h.symm
  have hst : Hid (∀ i, (hi : i < n) → ∃ (b o b' o' : Nat) (x : Int), Aa = some ⟨b, o, none⟩ ∧ At = some ⟨b', o', none⟩ ∧ (∀ w', Ext Wt w' → w'.cell? ⟨b, o + i, none⟩ = some (.bool (x == -1))) ∧ (∀ w', Ext Wt w' → w'.cell? ⟨b', o' + i, none⟩ = some (.int .i64 x))) := by
    intro i hi
    have h1 : i < (safeG g).length := by rw [safeG_len, ← HF.out.2.1]; exact hi
    have h2 : i < (rankG g.m (othersL g.ours) g.set).length := by rw [rankG_len, ← HF.out.2.1]; exact hi
    obtain ⟨b, o, e1, _, d1⟩ := hca.at_bool h1
    obtain ⟨b', o', e2, _, d2⟩ := hct.at_int h2
    refine ⟨b, o, b', o', _, e1, e2, fun w' h => ?_, fun w' h => h.cell d2⟩
    have hsx : (safeG g)[i]'h1 = ((rankG g.m (othersL g.ours) g.set)[i]'h2 == -1) := List.getElem_map (f := fun x => x == -1) (l := rankG g.m (othersL g.ours) g.set) (i := i) (h := h1)
    rw [h.cell d1, hsx]
  clear hct hca hAt hAa ft fa fb
  have hEt := Ext.refl Wt
  go_wp2
  go_loopw [11] (fun i wr => ∃ k : Nat, k ≤ n ∧ i = .int .i64 k ∧ Ext Wt wr) (fun i _ => n - (intOf i).toNat)
  case atStart => exact ⟨0, by omega, rfl, hw1⟩
  case round =>
    clear hw1
    obtain ⟨k, hk, rfl, hE⟩ := hrel
    obtain ⟨W3, hW3⟩ : ∃ W, W = wr := ⟨_, rfl⟩; subst hW3
    by_cases hlt : k < n
    · obtain ⟨b, o, b', o', x, rfl, rfl, d1, d2⟩ := hst.out k hlt
      have hltI : (k : Int) < (n : Int) := by omega
      have hbn : ((x == -1) != (x == -1)) = false := by simp
      go_upto_region 12 with fail
      go_quiet (fail)
      go_wp2
      go_roundw
      case rel => exact ⟨k + 1, by omega, by go_num, hE.drewN _⟩
      case measure => simp [intOf]; omega
    · have hnI : ¬ (k : Int) < (n : Int) := by omega
      go_wp2_with (go_at_call 15; refine (lives_any _).mono ?_; rintro e wz ⟨rfl, ez⟩)
      go_ret
      exact ⟨rfl, HEX.out.trans ((et.trans hE).trans ez)⟩
#print axioms GamesTurns_any
end Go.Proofs.Yteadkafeabhhhaa
