/- gauntletlaw07.RefinesRespects: the walk. -/
import Derived.Test.YtkmcplhgakpneaaV0
import Derived.Test.YtkmcplhgakpneaaN9
namespace Go.Proofs.Ytkmcplhgakpneaa
open Go.RowKit Go.Maps
set_option linter.unusedVariables false
set_option linter.unusedSimpArgs false
attribute [local go_sem] Oper.quietV quietV Oper.gives givesV ext_refl_iff ext_alloc_iff ext_drew_iff ext_drewN_iff


theorem respR_canon {m : Mach} (hV : Valid m) {p : List Int} (hl : p.length = m.rows.length) (hc : namedL p = p) : checkP p = 0 ∧ respectsR m p = (respF m p, 0) ∧ (∀ x ∈ p, 0 ≤ x ∧ x < p.length) := by
  have h64 := hV.size
  have hck : checkP p = 0 := by
    rw [← refCheck_eq, ← hc]; exact refCheck_named _ (by omega)
  refine ⟨hck, ?_, fun x hx => by rw [← hc] at hx; exact namedL_bound p x hx⟩
  unfold respectsR
  rw [if_neg (by rw [(valid_iff m).2 hV]; simp), if_neg (by rw [hck]; simp), if_neg (by omega)]
  congr 1
  rw [Bool.eq_iff_iff, beq_iff_eq, ← resp_refined hl hc, resp_respF hV hl]

set_option maxRecDepth 100000 in
set_option maxHeartbeats 8000000 in
theorem RefinesRespects_any (w : World) (v : Value) (r : Raw) (hr : RawV w v r) (yv zv : Value) (xs ys : List Nat) (cx cy : Nat) (hy : U8C w yv xs cx) (hz : U8C w zv ys cy) :
    Calls Try.prog 7 #[v, .agg #[yv], .agg #[zv]] w fun e w' => e = .returned (.bool true) ∧ Ext w w' := by
  obtain ⟨ev, c, rfl, hu, hb1, hb2, hb3⟩ := id hr
  have hV := raw_valid r
  have h6 : r.mach.rows.length ≤ 6 := by simp [Raw.mach, Raw.n]; omega
  obtain ⟨M, hM, hstep, hend⟩ := rounds_end hV
  have hsz := hV.size
  go_enter Try.func7, Try.ntmps7
  go_upto_region 1 with fail
  refine wp_named ?_
  intro W1 hW1
  have hE1 : Ext w W1 := by rw [hW1]; exact (((Ext.refl _).alloc _).alloc _).alloc _
  have k0 : ∀ w', Ext W1 w' → w'.cell? ⟨w.heap.size, 0, none⟩ = some (.int .u8 r.states) := fun w' h => h.cell (by rw [hW1]; simp [go_sem])
  have k1 : ∀ w', Ext W1 w' → w'.cell? ⟨w.heap.size, 1, none⟩ = some (.int .u8 r.inputs) := fun w' h => h.cell (by rw [hW1]; simp [go_sem])
  have k2 : ∀ w', Ext W1 w' → w'.cell? ⟨w.heap.size, 2, none⟩ = some (.int .u8 r.outputs) := fun w' h => h.cell (by rw [hW1]; simp [go_sem])
  have k3 : ∀ w', Ext W1 w' → w'.cell? ⟨w.heap.size, 3, none⟩ = some (.bool r.part) := fun w' h => h.cell (by rw [hW1]; simp [go_sem])
  have k4 : ∀ w', Ext W1 w' → w'.cell? ⟨w.heap.size, 4, none⟩ = some ev := fun w' h => h.cell (by rw [hW1]; simp [go_sem])
  have k5 : ∀ w', Ext W1 w' → w'.cell? ⟨w.heap.size + 1, 0, none⟩ = some yv := fun w' h => h.cell (by rw [hW1]; simp [go_sem])
  have k7 : ∀ w', Ext W1 w' → w'.cell? ⟨w.heap.size + 1 + 1, 0, none⟩ = some zv := fun w' h => h.cell (by rw [hW1]; simp [go_sem])
  clear hW1
  obtain ⟨Ae, rfl, hu2⟩ := hu
  clear hu2
  have hof := Of_any W1 _ r (hr.ext hE1)
  have hri : 1 ≤ r.ins ∧ r.ins ≤ 3 := by unfold Raw.ins; omega
  have hins : r.mach.ins = (r.ins : Int) := rfl
  generalize hmm : r.mach = m at *
  clear hmm
  go_upto_region 2 with (go_at_call 9; refine hof.mono ?_; rintro e W2 ⟨⟨mv, rfl, ⟨rv, cr, rfl, hrows⟩⟩, hE2⟩; obtain ⟨Ar, vs, rfl, hrr⟩ := id hrows; clear hrr)
  refine wp_named ?_
  intro W hW
  have hm : ∀ w', Ext W w' → MachV w' (.agg #[.int .i64 r.ins, .int .i64 m.outs, .slice Ar m.rows.length cr]) m := fun w' h =>
    ⟨_, cr, by rw [hins], hrows.ext (by refine Ext.trans ?_ h; rw [hW]; exact (Ext.refl _).alloc _)⟩
  have q0 : ∀ w', Ext W w' → w'.cell? ⟨W2.heap.size, 0, none⟩ = some (.int .i64 r.ins) := fun w' h => h.cell (by rw [hW]; simp [go_sem, hins])
  have q1 : ∀ w', Ext W w' → w'.cell? ⟨W2.heap.size, 1, none⟩ = some (.int .i64 m.outs) := fun w' h => h.cell (by rw [hW]; simp [go_sem])
  have q2 : ∀ w', Ext W w' → w'.cell? ⟨W2.heap.size, 2, none⟩ = some (.slice Ar m.rows.length cr) := fun w' h => h.cell (by rw [hW]; simp [go_sem])
  have hE2W : Ext W1 W := by rw [hW]; exact hE2.alloc _
  have hEW : Ext w W := hE1.trans hE2W
  have hyy : ∀ w', Ext W w' → w'.cell? ⟨w.heap.size + 1, 0, none⟩ = some yv := fun w' h => k5 _ (hE2W.trans h)
  have hzz : ∀ w', Ext W w' → w'.cell? ⟨w.heap.size + 1 + 1, 0, none⟩ = some zv := fun w' h => k7 _ (hE2W.trans h)
  generalize W2.heap.size = N at *
  have HINS := Lib.hid hins
  clear hW hrows hof k0 k1 k2 k3 k4 k5 k7 hr hE2 hE2W hins
  generalize Value.agg #[.int .u8 r.states, .int .u8 r.inputs, .int .u8 r.outputs, .bool r.part, .slice Ae r.edges.length c] = v0
  have hpo := fun w' (h : Ext W w') => pOf_any w' yv xs cx (hy.ext (hEW.trans h)) m.rows.length (by omega)
  have hqo := fun w' (h : Ext W w') => pOf_any w' zv ys cy (hz.ext (hEW.trans h)) m.rows.length (by omega)
  have hpl : (namedL (partRaw xs m.rows.length)).length = m.rows.length := by rw [namedL_length, partRaw_length]
  have hql : (namedL (partRaw ys m.rows.length)).length = m.rows.length := by rw [namedL_length, partRaw_length]
  have hpc := namedL_idem (partRaw xs m.rows.length)
  have hqc := namedL_idem (partRaw ys m.rows.length)
  generalize namedL (partRaw xs m.rows.length) = p at *
  generalize namedL (partRaw ys m.rows.length) = q at *
  obtain ⟨hpk, hpr, hpb⟩ := respR_canon hV hpl hpc
  obtain ⟨hqk, hqr, hqb⟩ := respR_canon hV hql hqc
  have hcl := iterL_length m m.rows.length
  obtain ⟨hck, hcr, hcb⟩ := respR_canon hV hcl (iterL_canon m m.rows.length)
  have hcc : respF m (iterL m m.rows.length) = true := by
    rw [← resp_respF hV hcl, resp_refined hcl (iterL_canon m m.rows.length)]
    show iterL m (m.rows.length + 1) = _
    rw [iterL_end m hend (show M ≤ m.rows.length + 1 by omega), iterL_end m hend (show M ≤ m.rows.length by omega)]
  rw [hcc] at hcr
  have hfin : respF m p = true → finerF p (iterL m m.rows.length) = true := fun h => finerF_of (resp_finer hV hpl ((resp_respF hV hpl).2 h) _)
  have hjo : respF m p = true → respF m q = true → ∀ up, UpIs p.length ((pairsOf (rowsAt p (cntC p).toNat p.length) ++ pairsOf (rowsAt q (cntC q).toNat q.length)).map natP) up →
      respectsR m (namedL ((List.range p.length).map (fun i => (rootU up i : Int)))) = (true, 0) := fun h1 h2 up hU => by
    have hb1 := cntC_bound (p := p) (fun x hx => by have := hpb x hx; omega)
    have hb2 := cntC_bound (p := q) (fun x hx => by have := hqb x hx; omega)
    have hJ := join_resp hV hpl rfl (hql.trans hpl.symm) ((resp_respF hV hpl).2 h1) ((resp_respF hV hql).2 h2) (c1 := (cntC p).toNat) (c2 := (cntC q).toNat) (fun x hx => by have := hb1.2.2 x hx; have := hpb x hx; omega) (fun x hx => by have := hb2.2.2 x hx; have := hqb x hx; omega) hU
    have hJl : (namedL ((List.range p.length).map (fun i => (rootU up i : Int)))).length = m.rows.length := by rw [namedL_length]; simp [hpl]
    rw [(respR_canon hV hJl (namedL_idem _)).2.1, (resp_respF hV hJl).1 hJ]
  have hjn := fun w' (v1 v2 : Value) (k1 k2 : Nat) (h1 : IntsC w' v1 p k1) (h2 : IntsC w' v2 q k2) => join_any w' v1 v2 p q k1 k2 h1 h2 hpk hqk (hpl.trans hql.symm) (fun x hx => by have := hpb x hx; omega) (fun x hx => by have := hqb x hx; omega) (by omega)
  have hrs := fun w' (h : Ext W w') (u : Value) (l : List Int) (k : Nat) (hl : IntsC w' u l k) => Respects_any w' _ u m (hm w' h) l k hl
  have hrr := fun w' (h : Ext W w') (u : Value) (l : List Int) (k : Nat) (hl : IntsC w' u l k) (hll : l.length = m.rows.length) => refRespects_any w' _ u m (hm w' h) hV l k hl hll
  have hcs := fun w' (h : Ext W w') => refClasses_any w' _ m (hm w' h) hV
  have hfy := fun w' (v1 v2 : Value) (k1 k2 : Nat) (h1 : IntsC w' v1 p k1) (h2 : IntsC w' v2 (iterL m m.rows.length) k2) (h : respF m p = true) => finer_yes w' v1 v2 p _ k1 k2 h1 h2 (by rw [hpl, hcl]; exact Nat.le_refl _) (hfin h)
  generalize hCC : iterL m m.rows.length = C at *
  have HH := Lib.hid (And.intro hpr (And.intro hqr (And.intro hcr (And.intro hpl (And.intro hql hjo)))))
  have HJ := Lib.hid hjn
  have HRS := Lib.hid hrs
  have HRR := Lib.hid hrr
  have HFY := Lib.hid hfy
  clear hpl hql hpc hqc hpk hpr hpb hqk hqr hqb hcl hck hcr hcb hcc hfin hjo hjn hrs hrr hfy hstep hend hCC hM
  go_upto_region 2 with fail
  refine wp_region_ext 9 (factsOf [(4, fun v w => ∃ c, IntsC w v p c)]) (fun k => ([[], [], [1], [1, 2], [0, 1, 2, 3], [], [], [6], [6, 7], [0, 1, 2, 3, 4, 5, 6, 7, 8], [0, 1, 2, 3, 4, 5, 6, 7, 8, 9], [0, 1, 2, 3, 4, 5, 6, 7, 8, 9, 10]] : List (List Nat)).getD k []) (by kernel_rfl) (by kernel_rfl) Ext.pre (mono_cons (stays_ints _) (mono_nil)) ?_
  simp only [List.take_succ_cons, List.take_zero]
  repeat (first | (with_reducible refine lexL_quiet' (v := ?_) ?_ ?_ ?_ ?_; rotate_left; (· with_reducible rfl); (· simp [factsOf]); (· intro w1 hw1 _; go_simp; with_reducible rfl); (try simp only [Act.put, List.setIfInBounds_toArray, List.set_cons_zero, List.set_cons_succ])) | (with_reducible refine lexL_skip ?_ ?_; (· simp [Region.wanted, yielded, undef]); (try simp only [Act.put, List.setIfInBounds_toArray, List.set_cons_zero, List.set_cons_succ])) | (with_reducible refine lexL_quiet (v := ?_) ?_ ?_ ?_ ?_; rotate_left; (· simp [Region.wanted, yielded, undef]); (· simp [factsOf]); (· intro w1 hw1 _; go_simp; with_reducible rfl); (try simp only [Act.put, List.setIfInBounds_toArray, List.set_cons_zero, List.set_cons_succ])))
  with_reducible refine lexL_give' (φ := ?_) ?_ ?_ ?_ ?_; rotate_left; (· with_reducible rfl); (· simp only [factsOf, Nat.reduceAdd, ↓reduceIte, Nat.reduceEqDiff]; rfl)
  · intro w1 hw1 _
    go_simp
    refine (hpo w1 hw1).mono ?_
    rintro e w2 ⟨⟨u, c, rfl, hu⟩, hb⟩
    exact ⟨_, rfl, hb, c, hu⟩
  rintro v3 w1 hw1 h3 hk1
  clear hk1 hw1 h3 w1
  (try simp only [Act.put, List.setIfInBounds_toArray, List.set_cons_zero, List.set_cons_succ])
  repeat (first | (with_reducible refine lexL_quiet' (v := ?_) ?_ ?_ ?_ ?_; rotate_left; (· with_reducible rfl); (· simp [factsOf]); (· intro w1 hw1 _; go_simp; with_reducible rfl); (try simp only [Act.put, List.setIfInBounds_toArray, List.set_cons_zero, List.set_cons_succ])) | (with_reducible refine lexL_skip ?_ ?_; (· simp [Region.wanted, yielded, undef]); (try simp only [Act.put, List.setIfInBounds_toArray, List.set_cons_zero, List.set_cons_succ])) | (with_reducible refine lexL_quiet (v := ?_) ?_ ?_ ?_ ?_; rotate_left; (· simp [Region.wanted, yielded, undef]); (· simp [factsOf]); (· intro w1 hw1 _; go_simp; with_reducible rfl); (try simp only [Act.put, List.setIfInBounds_toArray, List.set_cons_zero, List.set_cons_succ])))
  with_reducible refine lexL_nil ?_; intro w1 hw1 hk1; simp only [List.drop_succ_cons, List.drop_zero]
  obtain ⟨c3, g3⟩ := hk1.get 4 rfl rfl
  clear hk1 hyy hzz
  go_upto_region 3 with (go_at_call 25; refine (hqo w1 hw1).mono ?_; rintro e w2 ⟨⟨v4, c4, rfl, g4⟩, hE2⟩)
  have hE2 := hw1.trans hE2
  have g3 := IntsC.ext g3 ‹Ext w1 w2›
  clear hpo hqo
  have gp : ∀ w', Ext w2 w' → IntsC w' v3 p c3 := fun w' h => g3.ext h
  have gq : ∀ w', Ext w2 w' → IntsC w' v4 q c4 := fun w' h => g4.ext h
  have hE2W : ∀ w', Ext w2 w' → Ext W w' := fun w' h => hE2.trans h
  have hrp := fun w' (h : Ext w2 w') => HRS.out w' (hE2W w' h) v3 p c3 (gp w' h)
  have hrq := fun w' (h : Ext w2 w') => HRS.out w' (hE2W w' h) v4 q c4 (gq w' h)
  rw [HH.out.1] at hrp
  rw [HH.out.2.1] at hrq
  have hfp := fun w' (h : Ext w2 w') => HRR.out w' (hE2W w' h) v3 p c3 (gp w' h) HH.out.2.2.2.1
  have hfq := fun w' (h : Ext w2 w') => HRR.out w' (hE2W w' h) v4 q c4 (gq w' h) HH.out.2.2.2.2.1
  have hcs2 := fun w' (h : Ext w2 w') => hcs w' (hE2W w' h)
  have q0 : ∀ w', Ext w2 w' → w'.cell? ⟨N, 0, none⟩ = some (.int .i64 r.ins) := fun w' h => q0 w' (hE2W w' h)
  have q1 : ∀ w', Ext w2 w' → w'.cell? ⟨N, 1, none⟩ = some (.int .i64 m.outs) := fun w' h => q1 w' (hE2W w' h)
  have q2 : ∀ w', Ext w2 w' → w'.cell? ⟨N, 2, none⟩ = some (.slice Ar m.rows.length cr) := fun w' h => q2 w' (hE2W w' h)
  have hEw2 := hEW.trans hE2
  clear g3 g4 hw1 hcs hm
  have t1 : True := trivial
  have t2 : True := trivial
  have t3 : True := trivial
  cases ha : respF m p with
  | true =>
    rw [ha] at hrp hfp
    have hfp : ∀ w' (h : Ext w2 w'), Calls Try.prog 26 #[.agg #[.int .i64 r.ins, .int .i64 m.outs, .slice Ar m.rows.length cr], v3] w' fun e w'_1 => e = .returned (.int .i64 1) ∧ Ext w' w'_1 := hfp
    have HA := Lib.hid ha
    clear ha
    cases hb : respF m q with
    | true =>
      rw [hb] at hrq hfq
      have hfq : ∀ w' (h : Ext w2 w'), Calls Try.prog 26 #[.agg #[.int .i64 r.ins, .int .i64 m.outs, .slice Ar m.rows.length cr], v4] w' fun e w'_1 => e = .returned (.int .i64 1) ∧ Ext w' w'_1 := hfq
      have HB := Lib.hid hb
      clear hb
      go_upto_region 11 with (first
        | (go_at_call 24; clear t1; refine (hrp _ (Ext.refl _)).mono ?_; rintro e w3 ⟨rfl, hE3⟩)
        | (go_at_call 24; clear t2; refine (hrq _ hE3).mono ?_; rintro e w4 ⟨rfl, e4⟩; have hE4 := hE3.trans e4)
        | (go_at_call 26; clear t3; refine (hfp _ hE4).mono ?_; rintro e w5 ⟨rfl, e5⟩; have hE5 := hE4.trans e5)
        | (go_at_call 26; refine (hfq _ hE5).mono ?_; rintro e w6 ⟨rfl, e6⟩; have hE6 := hE5.trans e6)
        | (go_at_call 18; refine (hcs2 _ hE6).mono ?_; rintro e w7 ⟨⟨u7, c7, rfl, f7⟩, e7⟩; have hE7 := hE6.trans e7; have h24 := HRS.out w7 (hE2W w7 hE7) u7 C c7 f7; rw [HH.out.2.2.1] at h24)
        | (go_at_call 24; refine h24.mono ?_; rintro e w8 ⟨rfl, e8⟩; have hE8 := hE7.trans e8)| (go_at_call 20; refine (HFY.out w8 v3 u7 c3 c7 (gp _ hE8) (f7.ext e8) HA.out).mono ?_; rintro e w9 ⟨rfl, e9⟩; have hE9 := hE8.trans e9))
      clear hrp hrq hfp hfq hcs2
      go_wp2_with (first
        | (go_at_call 27; refine (HJ.out w9 v3 v4 c3 c4 (gp _ hE9) (gq _ hE9)).mono ?_; rintro e w10 ⟨⟨u10, up, rfl, hU, hf10⟩, e10⟩; have hE10 := hE9.trans e10; have h24 := HRS.out w10 (hE2W w10 hE10) u10 _ _ hf10; rw [HH.out.2.2.2.2.2 HA.out HB.out up hU] at h24)
        | (go_at_call 24; refine h24.mono ?_; rintro e w11 ⟨rfl, e11⟩; have hE11 := hE10.trans e11)
        | (go_at_call 15; refine (lives_any _).mono ?_; rintro e w12 ⟨rfl, e12⟩))
      go_ret
      exact ⟨rfl, hEw2.trans (hE11.trans e12)⟩
    | false =>
      rw [hb] at hrq hfq
      have hfq : ∀ w' (h : Ext w2 w'), Calls Try.prog 26 #[.agg #[.int .i64 r.ins, .int .i64 m.outs, .slice Ar m.rows.length cr], v4] w' fun e w'_1 => e = .returned (.int .i64 0) ∧ Ext w' w'_1 := hfq
      clear hb
      go_upto_region 11 with (first
        | (go_at_call 24; clear t1; refine (hrp _ (Ext.refl _)).mono ?_; rintro e w3 ⟨rfl, hE3⟩)
        | (go_at_call 24; clear t2; refine (hrq _ hE3).mono ?_; rintro e w4 ⟨rfl, e4⟩; have hE4 := hE3.trans e4)
        | (go_at_call 26; clear t3; refine (hfp _ hE4).mono ?_; rintro e w5 ⟨rfl, e5⟩; have hE5 := hE4.trans e5)
        | (go_at_call 26; refine (hfq _ hE5).mono ?_; rintro e w6 ⟨rfl, e6⟩; have hE6 := hE5.trans e6)
        | (go_at_call 18; refine (hcs2 _ hE6).mono ?_; rintro e w7 ⟨⟨u7, c7, rfl, f7⟩, e7⟩; have hE7 := hE6.trans e7; have h24 := HRS.out w7 (hE2W w7 hE7) u7 C c7 f7; rw [HH.out.2.2.1] at h24)
        | (go_at_call 24; refine h24.mono ?_; rintro e w8 ⟨rfl, e8⟩; have hE8 := hE7.trans e8)| (go_at_call 20; refine (HFY.out w8 v3 u7 c3 c7 (gp _ hE8) (f7.ext e8) HA.out).mono ?_; rintro e w9 ⟨rfl, e9⟩; have hE9 := hE8.trans e9))
      clear hrp hrq hfp hfq hcs2
      go_wp2_with (go_at_call 15; refine (lives_any _).mono ?_; rintro e w12 ⟨rfl, e12⟩)
      go_ret
      exact ⟨rfl, hEw2.trans (hE9.trans e12)⟩
  | false =>
    rw [ha] at hrp hfp
    have hfp : ∀ w' (h : Ext w2 w'), Calls Try.prog 26 #[.agg #[.int .i64 r.ins, .int .i64 m.outs, .slice Ar m.rows.length cr], v3] w' fun e w'_1 => e = .returned (.int .i64 0) ∧ Ext w' w'_1 := hfp
    clear ha
    cases hb : respF m q with
    | true =>
      rw [hb] at hrq hfq
      have hfq : ∀ w' (h : Ext w2 w'), Calls Try.prog 26 #[.agg #[.int .i64 r.ins, .int .i64 m.outs, .slice Ar m.rows.length cr], v4] w' fun e w'_1 => e = .returned (.int .i64 1) ∧ Ext w' w'_1 := hfq
      clear hb
      go_upto_region 11 with (first
        | (go_at_call 24; clear t1; refine (hrp _ (Ext.refl _)).mono ?_; rintro e w3 ⟨rfl, hE3⟩)
        | (go_at_call 24; clear t2; refine (hrq _ hE3).mono ?_; rintro e w4 ⟨rfl, e4⟩; have hE4 := hE3.trans e4)
        | (go_at_call 26; clear t3; refine (hfp _ hE4).mono ?_; rintro e w5 ⟨rfl, e5⟩; have hE5 := hE4.trans e5)
        | (go_at_call 26; refine (hfq _ hE5).mono ?_; rintro e w6 ⟨rfl, e6⟩; have hE6 := hE5.trans e6)
        | (go_at_call 18; refine (hcs2 _ hE6).mono ?_; rintro e w7 ⟨⟨u7, c7, rfl, f7⟩, e7⟩; have hE7 := hE6.trans e7; have h24 := HRS.out w7 (hE2W w7 hE7) u7 C c7 f7; rw [HH.out.2.2.1] at h24)
        | (go_at_call 24; refine h24.mono ?_; rintro e w8 ⟨rfl, e8⟩; have hE8 := hE7.trans e8)| fail)
      clear hrp hrq hfp hfq hcs2
      go_wp2_with (go_at_call 15; refine (lives_any _).mono ?_; rintro e w12 ⟨rfl, e12⟩)
      go_ret
      exact ⟨rfl, hEw2.trans (hE8.trans e12)⟩
    | false =>
      rw [hb] at hrq hfq
      have hfq : ∀ w' (h : Ext w2 w'), Calls Try.prog 26 #[.agg #[.int .i64 r.ins, .int .i64 m.outs, .slice Ar m.rows.length cr], v4] w' fun e w'_1 => e = .returned (.int .i64 0) ∧ Ext w' w'_1 := hfq
      clear hb
      go_upto_region 11 with (first
        | (go_at_call 24; clear t1; refine (hrp _ (Ext.refl _)).mono ?_; rintro e w3 ⟨rfl, hE3⟩)
        | (go_at_call 24; clear t2; refine (hrq _ hE3).mono ?_; rintro e w4 ⟨rfl, e4⟩; have hE4 := hE3.trans e4)
        | (go_at_call 26; clear t3; refine (hfp _ hE4).mono ?_; rintro e w5 ⟨rfl, e5⟩; have hE5 := hE4.trans e5)
        | (go_at_call 26; refine (hfq _ hE5).mono ?_; rintro e w6 ⟨rfl, e6⟩; have hE6 := hE5.trans e6)
        | (go_at_call 18; refine (hcs2 _ hE6).mono ?_; rintro e w7 ⟨⟨u7, c7, rfl, f7⟩, e7⟩; have hE7 := hE6.trans e7; have h24 := HRS.out w7 (hE2W w7 hE7) u7 C c7 f7; rw [HH.out.2.2.1] at h24)
        | (go_at_call 24; refine h24.mono ?_; rintro e w8 ⟨rfl, e8⟩; have hE8 := hE7.trans e8)| fail)
      clear hrp hrq hfp hfq hcs2
      go_wp2_with (go_at_call 15; refine (lives_any _).mono ?_; rintro e w12 ⟨rfl, e12⟩)
      go_ret
      exact ⟨rfl, hEw2.trans (hE8.trans e12)⟩
#print axioms RefinesRespects_any
end Go.Proofs.Ytkmcplhgakpneaa
