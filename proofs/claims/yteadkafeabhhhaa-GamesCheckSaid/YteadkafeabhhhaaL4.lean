/- gauntletlaw32.GamesStrategies 4: the walk. -/
import Derived.Test.YteadkafeabhhhaaL3
import Derived.Test.YteadkafeabhhhaaQ1
import Derived.Test.YteadkafeabhhhaaQ2
namespace Go.Proofs.Yteadkafeabhhhaa
open Go.RowKit
set_option linter.unusedVariables false
set_option linter.unusedSimpArgs false
attribute [local go_sem] Oper.quietV quietV Oper.gives givesV ext_refl_iff ext_alloc_iff ext_drew_iff ext_drewN_iff
attribute [local go_sem] wrap_one

def Head (n : Nat) (x : Int) (v : Value) (w : World) : Prop := ∃ b o c, v = .slice (some ⟨b, o, none⟩) n c ∧ w.cell? ⟨b, o, none⟩ = some (.int .i64 x)
theorem stays_head (n : Nat) (x : Int) : Stays Ext (Head n x) := fun _ _ _ hE ⟨b, o, c, hv, h⟩ => ⟨b, o, c, hv, hE.cell h⟩
theorem IntsC.head {w : World} {v : Value} {xs : List Int} {c n : Nat} (h : IntsC w v xs c) (hn : xs.length = n) (h0 : 0 < n) : Head n (xs.getD 0 0) v w := by
  obtain ⟨A, rfl, hc, _⟩ := h
  obtain ⟨b, o, rfl, _, d⟩ := hc.at_int (k := 0) (by omega)
  subst hn
  exact ⟨b, o, c, rfl, by rw [show xs.getD 0 0 = xs[0] by simp [List.getD, h0]]; exact d⟩
set_option maxRecDepth 100000 in
set_option maxHeartbeats 8000000 in
theorem GamesStrategies_any (w : World) (v : Value) (r : RawG) (hr : RawGV w v r) : Calls Try.prog 4 #[v] w fun e w' => e = .returned (.bool true) ∧ Ext w w' := by
  obtain ⟨ev, c, rfl, hu, h1, h2, h3, h4, h5⟩ := id hr
  go_enter Try.func4, Try.ntmps4
  go_upto_region 1 with fail
  refine wp_named ?_
  intro W1 hW1
  have hE1 : Ext w W1 := by rw [hW1]; exact (Ext.refl _).alloc _
  have k0 : ∀ w', Ext W1 w' → w'.cell? ⟨w.heap.size, 0, none⟩ = some (.int .u8 r.m.states) := fun w' h => h.cell (by rw [hW1]; simp [go_sem])
  have k1 : ∀ w', Ext W1 w' → w'.cell? ⟨w.heap.size, 1, none⟩ = some (.int .u8 r.m.inputs) := fun w' h => h.cell (by rw [hW1]; simp [go_sem])
  have k2 : ∀ w', Ext W1 w' → w'.cell? ⟨w.heap.size, 2, none⟩ = some (.int .u8 r.m.outputs) := fun w' h => h.cell (by rw [hW1]; simp [go_sem])
  have k3 : ∀ w', Ext W1 w' → w'.cell? ⟨w.heap.size, 3, none⟩ = some (.bool r.m.part) := fun w' h => h.cell (by rw [hW1]; simp [go_sem])
  have k4 : ∀ w', Ext W1 w' → w'.cell? ⟨w.heap.size, 4, none⟩ = some ev := fun w' h => h.cell (by rw [hW1]; simp [go_sem])
  have k5 : ∀ w', Ext W1 w' → w'.cell? ⟨w.heap.size, 5, none⟩ = some (.int .u8 r.ours) := fun w' h => h.cell (by rw [hW1]; simp [go_sem])
  have k6 : ∀ w', Ext W1 w' → w'.cell? ⟨w.heap.size, 6, none⟩ = some (.int .u8 r.set) := fun w' h => h.cell (by rw [hW1]; simp [go_sem])
  clear hW1
  obtain ⟨Ae, rfl, hu2⟩ := hu
  clear hu2
  have hof := GOf_any W1 _ r (hr.ext hE1)
  have hF := game_fine r
  have hn6 := game_six r
  generalize r.game = g at hof hF hn6
  go_upto_region 2 with (go_at_call 9; refine hof.mono ?_; rintro e W2 ⟨⟨gv, rfl, hg⟩, hE2⟩; obtain ⟨Ar, cr, Ao, co, As, cs, rfl⟩ := hg.form)
  refine wp_named ?_
  intro W hW
  obtain ⟨n, hn⟩ : ∃ n, n = g.m.rows.length := ⟨_, rfl⟩
  have hol := hF.2.1
  have hsl := hF.2.2
  rw [← hn] at hol hsl hn6
  rw [hol, hsl, ← hn] at hW hg
  have hG : ∀ w', Ext W w' → GameV w' (.agg #[.int .i64 g.m.ins, .int .i64 g.m.outs, .slice Ar n cr, .slice Ao n co, .slice As n cs]) g := fun w' h => hg.ext (Ext.trans (by rw [hW]; exact alloc_ext _ _) h)
  have q0 : ∀ w', Ext W w' → w'.cell? ⟨W2.heap.size, 0, none⟩ = some (.int .i64 g.m.ins) := fun w' h => h.cell (by rw [hW]; simp [go_sem])
  have q1 : ∀ w', Ext W w' → w'.cell? ⟨W2.heap.size, 1, none⟩ = some (.int .i64 g.m.outs) := fun w' h => h.cell (by rw [hW]; simp [go_sem])
  have q2 : ∀ w', Ext W w' → w'.cell? ⟨W2.heap.size, 2, none⟩ = some (.slice Ar n cr) := fun w' h => h.cell (by rw [hW]; simp [go_sem])
  have q3 : ∀ w', Ext W w' → w'.cell? ⟨W2.heap.size, 3, none⟩ = some (.slice Ao n co) := fun w' h => h.cell (by rw [hW]; simp [go_sem])
  have q4 : ∀ w', Ext W w' → w'.cell? ⟨W2.heap.size, 4, none⟩ = some (.slice As n cs) := fun w' h => h.cell (by rw [hW]; simp [go_sem])
  have hEW : Ext w W := by rw [hW]; exact (hE1.trans hE2).alloc _
  generalize W2.heap.size = N at *
  have HF := Lib.hid (And.intro hF (And.intro hn (And.intro hol hsl)))
  have hn1 : 1 ≤ n := by have := hF.1.size; omega
  clear hW hg hof k0 k1 k2 k3 k4 k5 k6 hr hF hn hol hsl hE1 hE2 h1 h2 h3 h4 h5
  have hEE := Ext.refl W
  go_upto_region 3 with (go_at_call 16; refine (Avoid_ok _ _ g (hG _ (Ext.refl _)) (fine_check HF.out.1) _ rfl (by rw [show (avoidL g).length = _ from stratL_len _ _ _]; have := HF.out.2.1; omega) n (by rw [show (avoidL g).length = _ from stratL_len _ _ _]; exact HF.out.2.1.symm)).mono ?_; rintro e Wa ⟨Sa, rfl, fa, ea⟩)
  go_upto_region 4 with (go_at_call 17; refine (Attack_ok _ _ g (hG _ ea) (fine_check HF.out.1) _ rfl (by rw [show (attackL g).length = _ from stratL_len _ _ _]; have := HF.out.2.1; omega) n (by rw [show (attackL g).length = _ from stratL_len _ _ _]; exact HF.out.2.1.symm)).mono ?_; rintro e Wb ⟨Sb, rfl, fb, eb⟩)
  have hEb := ea.trans eb
  have fa := IntsC.ext fa eb
  clear ea eb hEE
  have HEW := Lib.hid (hEW.trans hEb)
  have hG := fun w' (h : Ext Wb w') => hG w' (hEb.trans h)
  have q0 := fun w' (h : Ext Wb w') => q0 w' (hEb.trans h)
  have q1 := fun w' (h : Ext Wb w') => q1 w' (hEb.trans h)
  have q2 := fun w' (h : Ext Wb w') => q2 w' (hEb.trans h)
  have q3 := fun w' (h : Ext Wb w') => q3 w' (hEb.trans h)
  have q4 := fun w' (h : Ext Wb w') => q4 w' (hEb.trans h)
  clear hEb hEW
  have hBb := Ext.refl Wb
  refine wp_region_ext 9 (factsOf [(3, fun v w => ∃ c, IntsC w v (avoidL g) c), (4, fun v _ => v = .int .i64 1), (8, fun v w => ∃ c, IntsC w v (attackL g) c)]) (fun k => ([[], [], [], [2], [0, 1, 2, 3], [], [], [], [0, 1, 2, 3, 4, 7], [0, 1, 2, 3, 4, 5, 6, 7, 8], [0, 1, 2, 3, 4, 5, 6, 7, 8, 9], [0, 1, 2, 3, 4, 5, 6, 7, 8, 9, 10]] : List (List Nat)).getD k []) (by kernel_rfl) (by kernel_rfl) Ext.pre (mono_cons (stays_ints _) (mono_cons (stays_eq _) (mono_cons (stays_ints _) (mono_nil)))) ?_
  simp only [List.take_succ_cons, List.take_zero]
  repeat (first | (with_reducible refine lexL_quiet' (v := ?_) ?_ ?_ ?_ ?_; rotate_left; (· with_reducible rfl); (· simp [factsOf]); (· intro w1 hw1 _; go_simp; with_reducible rfl); (try simp only [Act.put, List.setIfInBounds_toArray, List.set_cons_zero, List.set_cons_succ])) | (with_reducible refine lexL_skip ?_ ?_; (· simp [Region.wanted, yielded, undef]); (try simp only [Act.put, List.setIfInBounds_toArray, List.set_cons_zero, List.set_cons_succ])) | (with_reducible refine lexL_quiet (v := ?_) ?_ ?_ ?_ ?_; rotate_left; (· simp [Region.wanted, yielded, undef]); (· simp [factsOf]); (· intro w1 hw1 _; go_simp; with_reducible rfl); (try simp only [Act.put, List.setIfInBounds_toArray, List.set_cons_zero, List.set_cons_succ])))
  with_reducible refine lexL_give' (φ := ?_) ?_ ?_ ?_ ?_; rotate_left; (· with_reducible rfl); (· simp only [factsOf, Nat.reduceAdd, ↓reduceIte, Nat.reduceEqDiff]; rfl)
  · intro w1 hw1 _
    go_simp
    refine (refAvoid_any w1 _ g (hG w1 hw1) HF.out.1).mono ?_
    rintro e w2 ⟨⟨v, cv, rfl, hi⟩, hb⟩
    exact ⟨_, rfl, hb, cv, hi⟩
  rintro v8 w8 hw8 - hk8
  clear hk8 hw8 w8
  (try simp only [Act.put, List.setIfInBounds_toArray, List.set_cons_zero, List.set_cons_succ])
  with_reducible refine lexL_give' (φ := ?_) ?_ ?_ ?_ ?_; rotate_left; (· with_reducible rfl); (· simp only [factsOf, Nat.reduceAdd, ↓reduceIte, Nat.reduceEqDiff]; rfl)
  · intro w1 hw1 hk1
    go_simp
    obtain ⟨c8, h8⟩ := hk1.get 3 (by decide) rfl rfl
    refine (list_one w1 _ v8 _ c8 (IntsC.ext fa hw1) h8).mono ?_
    rintro e w2 ⟨rfl, hb⟩
    exact ⟨_, rfl, hb, rfl⟩
  rintro v9 w9 hw9 rfl hk9
  clear hk9 hw9 w9
  (try simp only [Act.put, List.setIfInBounds_toArray, List.set_cons_zero, List.set_cons_succ])
  repeat (first | (with_reducible refine lexL_quiet' (v := ?_) ?_ ?_ ?_ ?_; rotate_left; (· with_reducible rfl); (· simp [factsOf]); (· intro w1 hw1 _; go_simp; with_reducible rfl); (try simp only [Act.put, List.setIfInBounds_toArray, List.set_cons_zero, List.set_cons_succ])) | (with_reducible refine lexL_skip ?_ ?_; (· simp [Region.wanted, yielded, undef]); (try simp only [Act.put, List.setIfInBounds_toArray, List.set_cons_zero, List.set_cons_succ])) | (with_reducible refine lexL_quiet (v := ?_) ?_ ?_ ?_ ?_; rotate_left; (· simp [Region.wanted, yielded, undef]); (· simp [factsOf]); (· intro w1 hw1 _; go_simp; with_reducible rfl); (try simp only [Act.put, List.setIfInBounds_toArray, List.set_cons_zero, List.set_cons_succ])))
  with_reducible refine lexL_give' (φ := ?_) ?_ ?_ ?_ ?_; rotate_left; (· with_reducible rfl); (· simp only [factsOf, Nat.reduceAdd, ↓reduceIte, Nat.reduceEqDiff]; rfl)
  · intro w1 hw1 _
    go_simp
    refine (refAttack_any w1 _ g (hG w1 hw1) HF.out.1).mono ?_
    rintro e w2 ⟨⟨v, cv, rfl, hi⟩, hb⟩
    exact ⟨_, rfl, hb, cv, hi⟩
  rintro v18 w18 hw18 - hk18
  clear hk18 hw18 w18
  (try simp only [Act.put, List.setIfInBounds_toArray, List.set_cons_zero, List.set_cons_succ])
  with_reducible refine lexL_nil ?_; intro w1 hw1 hk1; simp only [List.drop_succ_cons, List.drop_zero]
  obtain ⟨c18, h18⟩ := hk1.get 8 rfl rfl
  clear hk1
  go_upto_region 6 with (go_at_call 13; refine (list_one _ _ _ _ c18 (IntsC.ext fb hw1) h18).mono ?_; rintro e wq ⟨rfl, eq1⟩)
  have hw1 := hw1.trans eq1
  obtain ⟨w1, hww⟩ : ∃ w1, w1 = wq := ⟨_, rfl⟩
  subst hww
  clear eq1 h18
  obtain ⟨Z, hZ⟩ : ∃ Z, Z = w1 := ⟨_, rfl⟩
  subst hZ
  have hn0 : 0 < n := by omega
  obtain ⟨R0, hR0⟩ : ∃ R0, R0 = (rankG g.m (othersL g.ours) g.set).getD 0 0 := ⟨_, rfl⟩
  obtain ⟨R1, hR1⟩ : ∃ R1, R1 = (rankG g.m g.ours g.set).getD 0 0 := ⟨_, rfl⟩
  have hq : ∀ w', Ext Z w' → Ext Wb w' := fun w' h => hw1.trans h
  have hG := fun w' (h : Ext Z w') => hG w' (hq w' h)
  have q0 := fun w' (h : Ext Z w') => q0 w' (hq w' h)
  have q1 := fun w' (h : Ext Z w') => q1 w' (hq w' h)
  have q2 := fun w' (h : Ext Z w') => q2 w' (hq w' h)
  have q3 := fun w' (h : Ext Z w') => q3 w' (hq w' h)
  have q4 := fun w' (h : Ext Z w') => q4 w' (hq w' h)
  have fa := IntsC.ext fa hw1
  have fb := IntsC.ext fb hw1
  have HR := Lib.hid (And.intro hR0 hR1)
  have HL : Hid (g.ours.length = g.m.rows.length ∧ (othersL g.ours).length = g.m.rows.length ∧ g.set.length = g.m.rows.length) := ⟨HF.out.1.2.1, by have := HF.out.1.2.1; simpa [othersL] using this, HF.out.1.2.2⟩
  have HW1 := Lib.hid hw1
  clear hBb hR0 hR1 hw1 hq
  have hZZ := Ext.refl Z
  refine wp_region_ext 7 (factsOf [(4, fun v w => ∃ c, BoolsC w v (othersL g.ours) c)]) (fun k => ([[], [0], [], [2], [2, 3], [], [5], [0, 1, 2, 3, 4, 5, 6], [0, 1, 2, 3, 4, 5, 6, 7], [0, 1, 2, 3, 4, 5, 6, 7, 8], [0, 1, 2, 3, 4, 5, 6, 7, 8, 9], [0, 1, 2, 3, 4, 5, 6, 7, 8, 9, 10]] : List (List Nat)).getD k []) (by kernel_rfl) (by kernel_rfl) Ext.pre (mono_cons (stays_bools _) (mono_nil)) ?_
  simp only [List.take_succ_cons, List.take_zero]
  repeat (first | (with_reducible refine lexL_quiet' (v := ?_) ?_ ?_ ?_ ?_; rotate_left; (· with_reducible rfl); (· simp [factsOf]); (· intro w1 hw1 _; go_simp; with_reducible rfl); (try simp only [Act.put, List.setIfInBounds_toArray, List.set_cons_zero, List.set_cons_succ])) | (with_reducible refine lexL_skip ?_ ?_; (· simp [Region.wanted, yielded, undef]); (try simp only [Act.put, List.setIfInBounds_toArray, List.set_cons_zero, List.set_cons_succ])) | (with_reducible refine lexL_quiet (v := ?_) ?_ ?_ ?_ ?_; rotate_left; (· simp [Region.wanted, yielded, undef]); (· simp [factsOf]); (· intro w1 hw1 _; go_simp; with_reducible rfl); (try simp only [Act.put, List.setIfInBounds_toArray, List.set_cons_zero, List.set_cons_succ])))
  with_reducible refine lexL_give' (φ := ?_) ?_ ?_ ?_ ?_; rotate_left; (· with_reducible rfl); (· simp only [factsOf, Nat.reduceAdd, ↓reduceIte, Nat.reduceEqDiff]; rfl)
  · intro w1 hw1 _
    go_simp
    obtain ⟨d1, hd1⟩ := (hG w1 hw1).mach.2.1
    refine (Others_any w1 _ g.ours d1 hd1 (by have := HL.out.1; have := HF.out.2.1; omega)).mono ?_
    rintro e w2 ⟨⟨v, cv, rfl, hi⟩, hb⟩
    exact ⟨_, rfl, hb, cv, hi⟩
  rintro v8 w8 hw8 - hk8
  clear hk8 hw8 w8
  (try simp only [Act.put, List.setIfInBounds_toArray, List.set_cons_zero, List.set_cons_succ])
  repeat (first | (with_reducible refine lexL_quiet' (v := ?_) ?_ ?_ ?_ ?_; rotate_left; (· with_reducible rfl); (· simp [factsOf]); (· intro w1 hw1 _; go_simp; with_reducible rfl); (try simp only [Act.put, List.setIfInBounds_toArray, List.set_cons_zero, List.set_cons_succ])) | (with_reducible refine lexL_skip ?_ ?_; (· simp [Region.wanted, yielded, undef]); (try simp only [Act.put, List.setIfInBounds_toArray, List.set_cons_zero, List.set_cons_succ])) | (with_reducible refine lexL_quiet (v := ?_) ?_ ?_ ?_ ?_; rotate_left; (· simp [Region.wanted, yielded, undef]); (· simp [factsOf]); (· intro w1 hw1 _; go_simp; with_reducible rfl); (try simp only [Act.put, List.setIfInBounds_toArray, List.set_cons_zero, List.set_cons_succ])))
  with_reducible refine lexL_nil ?_; intro w1 hw1 hk1; simp only [List.drop_succ_cons, List.drop_zero]
  obtain ⟨c8, h8⟩ := hk1.get 4 rfl rfl
  clear hk1
  have hm := (hG w1 hw1).mach
  obtain ⟨d2, hd2⟩ := hm.2.2
  have hfo := force_any w1 _ _ _ g.m hm.1 HF.out.1.1 (othersL g.ours) g.set c8 d2 h8 hd2 HL.out.2.1 HL.out.2.2
  clear hm hd2 h8
  go_upto_region 7 with (go_at_call 14; refine hfo.mono ?_; rintro e w7 ⟨⟨v7, cv, rfl, hi⟩, hE7⟩; obtain ⟨b7, o7, c7, rfl, d7⟩ := IntsC.head hi (by rw [rankG_len]; exact HF.out.2.1.symm) hn0; rw [← HR.out.1] at d7)
  have hw1 := hw1.trans hE7
  obtain ⟨w1, hww⟩ : ∃ w1, w1 = w7 := ⟨_, rfl⟩
  subst hww
  clear hfo hi hE7
  obtain ⟨Y, hY⟩ : ∃ Y, Y = w1 := ⟨_, rfl⟩
  subst hY
  have hm := (hG Y hw1).mach
  obtain ⟨d1, hd1⟩ := hm.2.1
  obtain ⟨d2, hd2⟩ := hm.2.2
  have hfo := force_any Y _ _ _ g.m hm.1 HF.out.1.1 g.ours g.set d1 d2 hd1 hd2 HL.out.1 HL.out.2.2
  clear hm hd1 hd2
  go_upto_region 8 with (go_at_call 14; refine hfo.mono ?_; rintro e Wf ⟨⟨vf, cf, rfl, hi⟩, hEf⟩; obtain ⟨b8, o8, c8, rfl, d8⟩ := IntsC.head hi (by rw [rankG_len]; exact HF.out.2.1.symm) hn0; rw [← HR.out.2] at d8)
  have hwf := hw1.trans hEf
  have fa := IntsC.ext fa hwf
  have fb := IntsC.ext fb hwf
  have HZ := Lib.hid (hw1.trans hEf)
  clear hfo hi d7 d8 hw1 hEf hZZ
  obtain ⟨pb, hpb⟩ : ∃ pb, pb = (comesL (folL g (avoidL g)) g.set).1 := ⟨_, rfl⟩
  obtain ⟨pw, hpw⟩ : ∃ pw, pw = (comesL (folL g (avoidL g)) g.set).2 := ⟨_, rfl⟩
  have hav : avRes g (avoidL g) = (pb, pw, 0) := by
    unfold avRes
    rw [fine_check HF.out.1, avoid_ok HF.out.1, if_neg (by decide), if_neg (by decide), hpb, hpw]
  have hat : atRes g (attackL g) = (R1 != -1, 0) := by
    unfold atRes
    rw [fine_check HF.out.1, attack_ok HF.out.1, if_neg (by decide), if_neg (by decide), attack_serves HF.out.1, ← HR.out.2]
    by_cases h : R1 = -1 <;> simp [h]
  have HAV := Lib.hid (And.intro hpb (And.intro hav hat))
  clear hpb hpw hav hat
  have hq0 := fun w' (h : Ext Wf w') => q0 w' (HZ.out.trans h)
  have hq1 := fun w' (h : Ext Wf w') => q1 w' (HZ.out.trans h)
  have hq2 := fun w' (h : Ext Wf w') => q2 w' (HZ.out.trans h)
  have hq3 := fun w' (h : Ext Wf w') => q3 w' (HZ.out.trans h)
  have hq4 := fun w' (h : Ext Wf w') => q4 w' (HZ.out.trans h)
  have hGf := fun w' (h : Ext Wf w') => hG w' (HZ.out.trans h)
  clear q0 q1 q2 q3 q4 hG hwf
  have hff := Ext.refl Wf
  go_upto_region 9 with (go_at_call 20; refine (CheckAvoid_eq _ _ _ g (hGf _ (Ext.refl _)) _ _ fa _ _ _ HAV.out.2.1 pw.length rfl).mono ?_; rintro e wh ⟨A3, rfl, ff, eh⟩)
  go_upto_region 10 with (go_at_call 21; refine (CheckAttack_eq _ _ _ g (hGf _ eh) _ _ (IntsC.ext fb eh) _ _ HAV.out.2.2).mono ?_; rintro e wi ⟨rfl, ei⟩)
  have hfin := (HEW.out.trans (HW1.out.trans HZ.out)).trans (eh.trans ei)
  have HFIN := Lib.hid hfin
  have hqq : ((R1 != -1) == (R1 != -1)) = true := by simp
  clear hfin hff eh ei fa fb ff hGf hq0 hq1 hq2 hq3 hq4
  by_cases h0 : R0 = -1
  · have hp : pb = true := by rw [HAV.out.1]; exact avoid_serves HF.out.1 (by rw [← HR.out.1]; exact h0)
    subst hp
    have hb0 : (R0 == -1) = true := by simpa using h0
    clear h0
    go_wp2_with (go_at_call 15; refine (lives_any _).mono ?_; rintro e wz ⟨rfl, ez⟩)
    go_ret
    exact ⟨rfl, HFIN.out.trans ez⟩
  · have hb0 : (R0 == -1) = false := by simpa using h0
    clear h0
    go_wp2_with (go_at_call 15; refine (lives_any _).mono ?_; rintro e wz ⟨rfl, ez⟩)
    go_ret
    exact ⟨rfl, HFIN.out.trans ez⟩
#print axioms GamesStrategies_any
end Go.Proofs.Yteadkafeabhhhaa
