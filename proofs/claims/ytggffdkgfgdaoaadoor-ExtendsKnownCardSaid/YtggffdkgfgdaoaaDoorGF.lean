/- extends.step 38. extends.Step 11. -/
import Derived.Test.YtggffdkgfgdaoaaDoorGE
import Derived.Test.YtggffdkgfgdaoaaDoorGA
namespace Go.Proofs.YtggffdkgfgdaoaaDoor
open Go.RowKit Go.Maps
set_option linter.unusedVariables false
set_option linter.unusedSimpArgs false
attribute [local go_sem] Oper.quietV quietV Oper.gives givesV ext_refl_iff ext_alloc_iff ext_drew_iff ext_drewN_iff
attribute [local go_sem] RI.Oper.gives RI.givesV
theorem results_cell_tmp2 {P : Program} {fn : Func} {p u v : Tmp} {ty : TypeId} (h : fn.results = #[.cell p ty, .tmp u, .tmp v]) (tmps : Array Value) (w : World) (g : Nat) (t : TypeId) (cs : Array Value) (fr : Nat × Nat) (d : TypeDesc)
    (hp : tmps.getD p undef = .pointer (some ⟨g, 0, none⟩)) (hg : w.heap[g]? = some (.cells cs t fr))
    (hu : P.underlying ty = some d) (hd : (match d with | .struct _ | .array _ _ => true | _ => false) = true) (hi : (P.info? ty).map (·.size) = some cs.size) :
    (results fn tmps).run P w = .ok (.tuple #[.agg cs, tmps.getD u undef, tmps.getD v undef]) w := by
  have hp' : tmps[p]?.getD undef = .pointer (some ⟨g, 0, none⟩) := by simpa using hp
  simp [results, h, hp', asAddr, run_loadVar_row w g t ty cs fr d hg hu hd hi]
theorem run_load_spot {w : World} {b : Nat} {s : Int} {ys : List Int} (hB : SpotB w b s ys) (hl : ys.length ≤ 16) : (loadVar 93 ⟨b, 0, none⟩).run Tryd.prog w = .ok (.agg (spotL s ys).toArray) w :=
  run_loadVar_row w b 93 93 _ (0, 0) _ hB Tryd.underlying93 rfl (spot_info hl)
theorem alloc3_1 (w : World) (A B C : Obj) : (((w.alloc A).alloc B).alloc C).heap[w.heap.size + 1]? = some B := by
  have h := heap_alloc_new (w.alloc A) B
  refine heap_ext (alloc_ext _ _) ?_
  simpa using h
theorem alloc3_2 (w : World) (A B C : Obj) : (((w.alloc A).alloc B).alloc C).heap[w.heap.size + 1 + 1]? = some C := by
  have h := heap_alloc_new ((w.alloc A).alloc B) C
  simpa using h
theorem new_spot (W : World) : SpotB (W.alloc (.cells #[.int .i64 0, .int .i64 0, .int .i64 0, .int .i64 0, .int .i64 0, .int .i64 0, .int .i64 0, .int .i64 0, .int .i64 0, .int .i64 0, .int .i64 0, .int .i64 0, .int .i64 0, .int .i64 0, .int .i64 0, .int .i64 0, .int .i64 0] 93)) W.heap.size 0 [] := heap_alloc_new W _
theorem quiet_load_spot {w : World} {o : Oper} {a : Act} (x : Operand) (ho : o.op = .load 93 x) (b : Nat) (hx : a.eval x = .pointer (some ⟨b, 0, none⟩)) {s : Int} {ys : List Int} (hB : SpotB w b s ys) (hl : ys.length ≤ 16) : Oper.quietV Tryd.prog o a w (.agg (spotL s ys).toArray) := by
  unfold Oper.quietV execOp
  simp only [ho, hx, Instr.loadAt, Instr.sureAddr, Sem.run_bind, Sem.run_pure, Result.andThen_ok, run_load_spot hB hl]
  exact ⟨rfl, rfl⟩
theorem gives_store_spot {o : Oper} {a : Act} {w : World} {K : Value → World → Prop} (x y : Operand) (ho : o.op = .store 93 x y) (b : Nat) (hx : a.eval x = .pointer (some ⟨b, 0, none⟩)) {s s' : Int} {ys zs : List Int} (hy : a.eval y = .agg (spotL s' zs).toArray) (hB : SpotB w b s ys) (hl : ys.length ≤ 16) (hl' : zs.length ≤ 16)
    (h : ∀ w', SpotB w' b s' zs → w.grownBy w' (some b) → K undef w') : RI.Oper.gives Tryd.prog o a w K := by
  have hw : w.there b 0 (spotL s' zs).toArray.size := fun j hj => by
    rw [Nat.zero_add]
    refine ⟨?_, free_of_blk hB j⟩
    rw [cell_of_row w b j _ 93 (0, 0) hB]
    have h1 := spot_len (s := s) hl
    have h2 := spot_len (s := s') hl'
    have h3 : j < (spotL s ys).length := by simp at hj; omega
    simp [h3]
  unfold RI.Oper.gives execOp
  simp only [ho, hx, hy, Instr.storeAt, Instr.sureAddr, Sem.run_bind, Sem.run_pure, Result.andThen_ok, run_storeVar_mid w b 0 93 _ hw (spot_info hl') (spot_all _ _)]
  obtain ⟨h2, h3⟩ := setCells_blk b 93 (spotL s' zs).toArray.toList 0 w _ hB
  rw [setsAt_all _ _ (by have h1 := spot_len (s := s) hl; have h2 := spot_len (s := s') hl'; simp; omega)] at h2
  exact h _ (by unfold SpotB; simpa using h2) h3
/-- While a spot is stored. -/
structure SpI (W : World) (d k : Nat) (s0 s1 : Int) (ys0 ys1 : List Int) (G : Vals) (w : World) : Prop where
  g : W.grownBy w (some d)
  old : G k = none → SpotB w d s0 ys0
  new : ∀ v, G k = some v → SpotB w d s1 ys1
theorem SpI.put {W : World} {d k j : Nat} {s0 s1 : Int} {ys0 ys1 : List Int} {G : Vals} {w w' : World} (h : SpI W d k s0 s1 ys0 ys1 G w) (hj : j ≠ k) (e : Ext w w') {v : Value} : SpI W d k s0 s1 ys0 ys1 (G.put j v) w' :=
  ⟨grown_trans h.g (grown_of_ext e _), fun hg => (h.old (by simpa [Vals.put, Ne.symm hj] using hg)).ext e, fun u hu => (h.new u (by simpa [Vals.put, Ne.symm hj] using hu)).ext e⟩
def StepP (w : World) (r : Int × List Int × Int × Bool) (e : Ending) (w' : World) : Prop := e = .returned (.tuple #[.agg (spotL r.1 r.2.1).toArray, .int .i64 r.2.2.1, .bool r.2.2.2]) ∧ Ext w w'
set_option maxRecDepth 100000 in
set_option maxHeartbeats 16000000 in
theorem step_any (w : World) (xv : Value) (x : Xt) (s : Int) (ys : List Int) (inp : Int) (hx : XtV w x xv) (hT : OpsTab w) (hl : ys.length = x.vars.length) (hm : ys.length ≤ 16) (hu : ∀ a ∈ x.arcs, UpsOk x.vars.length a.ups) : Calls Tryd.prog 38 #[xv, .agg (spotL s ys).toArray, .int .i64 inp] w (StepP w (stepV x s ys inp)) := by
  obtain ⟨r, hr⟩ : ∃ r, r = stepV x s ys inp := ⟨_, rfl⟩
  rw [← hr]
  unfold stepV stepR at hr
  have htk := fun W' (e : Ext w W') a y (hA : ArcV w a y) (ha : a ∈ x.arcs) => take_any W' xv x a y s ys (hx.ext e) (hA.ext e) (hT.ext e) hl hm (hu a ha)
  obtain ⟨vv, sv, av, c1, c2, c3, rfl, hvv, hsv, hav⟩ := hx
  obtain ⟨Av0, hvv0, hvv1, hvv2, hvv3, hvv4⟩ := hvv
  obtain ⟨As, hs0, hs1, hs2, hs3⟩ := hsv
  obtain ⟨Aa, as', ha0, hal, hac, has, han, ham⟩ := hav
  subst hvv0 hs0 ha0
  unfold lenMax at hvv3 hs3 ham
  have HX := Lib.hid (And.intro hac (And.intro has hal))
  have HR0 := Lib.hid hr
  have HTK : Hid (∀ W' (e : Ext w W') a y, ArcV w a y → a ∈ x.arcs → Calls Tryd.prog 49 #[.agg #[.int .i64 x.ins, .int .i64 x.outs, .int .i64 x.states, .slice Av0 x.vars.length c1, .slice As x.start.length c2, .slice Aa x.arcs.length c3], avVal y, .agg (spotL s ys).toArray] W' (TakeP W' (takeV x a s ys))) := Lib.hid htk
  obtain ⟨F, hF⟩ : ∃ F : Ac → Int × List Int × Bool, F = fun a => takeV x a s ys := ⟨_, rfl⟩
  have HF0 : Hid (∀ a, F a = takeV x a s ys ∧ (F a).2.1.length ≤ 16) := Lib.hid (by intro a; rw [hF]; exact ⟨rfl, by show (takeV x a s ys).2.1.length ≤ 16; rw [takeV_len]; exact hm⟩)
  have HTK : Hid (∀ W' (e : Ext w W') a y, ArcV w a y → a ∈ x.arcs → Calls Tryd.prog 49 #[.agg #[.int .i64 x.ins, .int .i64 x.outs, .int .i64 x.states, .slice Av0 x.vars.length c1, .slice As x.start.length c2, .slice Aa x.arcs.length c3], avVal y, .agg (spotL s ys).toArray] W' (TakeP W' (F a))) := Lib.hid (fun W' e a y h1 h2 => by rw [hF]; exact HTK.out W' e a y h1 h2)
  obtain ⟨G, hG⟩ : ∃ G : List Ac → Option (Int × List Int × Int), G = stepL x s ys inp := ⟨_, rfl⟩
  rw [← hG] at HR0
  have HG : Hid (∀ (al : List Ac) (i : Nat) (a : Ac), al[i]? = some a → G (al.drop i) = if a.inp = inp ∧ (F a).2.2 = true then some ((F a).1, (F a).2.1, a.out) else G (al.drop (i + 1))) := Lib.hid (by
    intro al i a h
    rw [hG, stepL_drop h, (HF0.out a).1]
    by_cases h1 : a.inp = inp
    · rw [if_pos h1]
      unfold takeV
      cases takeR x a s ys with
      | none => simp
      | some r => simp [h1]
    · rw [if_neg h1, if_neg (by simp [h1])])
  have HG0 : Hid (G [] = none) := Lib.hid (by rw [hG]; rfl)
  obtain ⟨L, hL⟩ : ∃ L, L = (spotL s ys).toArray := ⟨_, rfl⟩
  have HLL := Lib.hid hL
  rw [← hL] at HTK ⊢
  clear hr hac has hal hvv1 hvv4 hs1 hT hF hG hL htk hu hl
  generalize x.vars = vars at *
  generalize x.start = start at *
  generalize x.arcs = arcs at *
  generalize x.ins = xins at *
  generalize x.outs = xouts at *
  generalize x.states = xst at *
  go_enter Tryd.func38, Tryd.ntmps38
  go_upto_region 1 with fail
  refine wp_named ?_
  intro W1 hW1
  have hE1 : Ext w W1 := by rw [hW1]; exact ((alloc_ext w _).trans (alloc_ext _ _)).trans (alloc_ext _ _)
  have hB4 : SpotB W1 (w.heap.size + 1) s ys := by unfold SpotB; rw [hW1, ← HLL.out]; exact alloc3_1 _ _ _ _
  have hB6 : SpotB W1 (w.heap.size + 1 + 1) 0 [] := by unfold SpotB; rw [hW1]; exact alloc3_2 _ _ _ _
  have e0 : ∀ w', Ext W1 w' → w'.cell? ⟨w.heap.size, 0, none⟩ = some (.int .i64 xins) := fun w' h => h.cell (by rw [hW1]; simp [go_sem])
  have e1 : ∀ w', Ext W1 w' → w'.cell? ⟨w.heap.size, 1, none⟩ = some (.int .i64 xouts) := fun w' h => h.cell (by rw [hW1]; simp [go_sem])
  have e2 : ∀ w', Ext W1 w' → w'.cell? ⟨w.heap.size, 2, none⟩ = some (.int .i64 xst) := fun w' h => h.cell (by rw [hW1]; simp [go_sem])
  have e3 : ∀ w', Ext W1 w' → w'.cell? ⟨w.heap.size, 3, none⟩ = some (.slice Av0 vars.length c1) := fun w' h => h.cell (by rw [hW1]; simp [go_sem])
  have e4 : ∀ w', Ext W1 w' → w'.cell? ⟨w.heap.size, 4, none⟩ = some (.slice As start.length c2) := fun w' h => h.cell (by rw [hW1]; simp [go_sem])
  have e5 : ∀ w', Ext W1 w' → w'.cell? ⟨w.heap.size, 5, none⟩ = some (.slice Aa arcs.length c3) := fun w' h => h.cell (by rw [hW1]; simp [go_sem])
  have hR1 := Ext.refl W1
  have HE1 := Lib.hid (And.intro hE1 (And.intro hB4 hB6))
  have HD : Hid (w.heap.size ≤ w.heap.size + 1 + 1) := Lib.hid (by omega)
  clear hW1 hE1 hB4 hB6
  generalize w.heap.size + 1 + 1 = d6 at *
  generalize w.heap.size + 1 = d4 at *
  generalize hd3 : w.heap.size = d3 at *
  have HDW := Lib.hid hd3
  clear hd3
  go_wp2
  go_loopw [16] (fun iv wr => ∃ (i : Nat), iv = .int .i64 i ∧ i ≤ arcs.length ∧ Hid (G arcs = G (arcs.drop i)) ∧ Hid (Ext W1 wr)) (fun iv _ => arcs.length - (intOf iv).toNat)
  case atStart => exact ⟨0, by first | rfl | simp, Nat.zero_le _, Lib.hid (by rw [List.drop_zero]), Lib.hid (Ext.refl _)⟩
  case round =>
    obtain ⟨i, rfl, hi, HF, HW⟩ := hrel
    obtain ⟨W5, hW5⟩ : ∃ W, W = wr := ⟨_, rfl⟩; subst hW5
    have hR5 := Ext.refl W5
    have e0 := fun w' (h : Ext W5 w') => e0 w' (HW.out.trans h)
    have e1 := fun w' (h : Ext W5 w') => e1 w' (HW.out.trans h)
    have e2 := fun w' (h : Ext W5 w') => e2 w' (HW.out.trans h)
    have e3 := fun w' (h : Ext W5 w') => e3 w' (HW.out.trans h)
    have e4 := fun w' (h : Ext W5 w') => e4 w' (HW.out.trans h)
    have e5 := fun w' (h : Ext W5 w') => e5 w' (HW.out.trans h)
    have HW5 := Lib.hid (And.intro (HE1.out.1.trans HW.out) (And.intro (HE1.out.2.1.ext HW.out) (HE1.out.2.2.ext HW.out)))
    by_cases hlt : i < arcs.length
    · have hlI : (i : Int) < (arcs.length : Int) := by omega
      obtain ⟨a, ha⟩ : ∃ a, arcs[i]? = some a := ⟨_, List.getElem?_eq_getElem hlt⟩
      obtain ⟨bs, os, y, hA, hay, d0, d1, d2', d3', d4', d5, d6', d7⟩ := arc_at HX.out.2.2 HX.out.1 HX.out.2.1 ha
      subst hA
      have HLT := Lib.hid hlt
      have HFA := Lib.hid (HG.out arcs i a ha)
      have hcl := fun W' (e : Ext W5 W') => HTK.out W' (HW5.out.1.trans e) a y hay (List.mem_of_getElem? ha)
      obtain ⟨f1, f2, hg, f4, ⟨cu, hu⟩, f6⟩ := hay
      obtain ⟨Au, us, hyu, hul, huc, hus, hun, hum⟩ := hu
      obtain ⟨y1, y2, ⟨g1, g2, g3⟩, y4, y5, y6⟩ := y
      simp only at f1 f2 f4 f6 hyu
      subst hyu f2 f4
      obtain ⟨_, A9, cs9, vs9, hq9, _⟩ := hg.form
      have hzz : g3 = .slice A9 a.guard.subs.length cs9 := by
        have h9 := congrArg (fun v => match v with | Value.agg cs => cs[2]? | _ => none) hq9
        simpa [nvVal] using h9
      subst hzz
      clear f1 f6 hg hul huc hus hun hum hq9
      unfold avVal TakeP at hcl
      dsimp only at *
      obtain ⟨nl, hnl⟩ : ∃ nl, nl = a.guard.subs.length := ⟨_, rfl⟩
      obtain ⟨nu, hnu⟩ : ∃ nu, nu = a.ups.length := ⟨_, rfl⟩
      obtain ⟨⟨q1, q2, q3⟩, hq3⟩ : ∃ q, q = F a := ⟨_, rfl⟩
      have HQL := (HF0.out a).2
      rw [← hnl] at d4' hcl
      rw [← hnu] at d6' hcl
      rw [← hq3] at hcl HFA HQL
      dsimp only at hcl HFA HQL
      obtain ⟨ai, hai⟩ : ∃ ai, ai = a.inp := ⟨_, rfl⟩
      obtain ⟨ao, hao⟩ : ∃ ao, ao = a.out := ⟨_, rfl⟩
      rw [← hai] at d1 hcl HFA
      rw [← hao] at d5 hcl HFA
      clear hnl hnu hq3 ha hai hao
      have d0 := fun w' (h : Ext W5 w') => (HW5.out.1.trans h).cell d0
      have d1 := fun w' (h : Ext W5 w') => (HW5.out.1.trans h).cell d1
      have d2' := fun w' (h : Ext W5 w') => (HW5.out.1.trans h).cell d2'
      have d3' := fun w' (h : Ext W5 w') => (HW5.out.1.trans h).cell d3'
      have d4' := fun w' (h : Ext W5 w') => (HW5.out.1.trans h).cell d4'
      have d5 := fun w' (h : Ext W5 w') => (HW5.out.1.trans h).cell d5
      have d6' := fun w' (h : Ext W5 w') => (HW5.out.1.trans h).cell d6'
      have d7 := fun w' (h : Ext W5 w') => (HW5.out.1.trans h).cell d7
      go_upto_region 4 with fail
      refine wp_named ?_
      intro W6 hW6
      have hE56 : Ext W5 W6 := by rw [hW6]; exact alloc_ext _ _
      have x0 : ∀ w', Ext W6 w' → w'.cell? ⟨W5.heap.size, 0, none⟩ = some (.int .i64 y1) := fun w' h => h.cell (by rw [hW6]; simp [go_sem])
      have x1 : ∀ w', Ext W6 w' → w'.cell? ⟨W5.heap.size, 1, none⟩ = some (.int .i64 ai) := fun w' h => h.cell (by rw [hW6]; simp [go_sem])
      have x2 : ∀ w', Ext W6 w' → w'.cell? ⟨W5.heap.size, 2, none⟩ = some (.int .u8 (g1 : Int)) := fun w' h => h.cell (by rw [hW6]; simp [go_sem])
      have x3 : ∀ w', Ext W6 w' → w'.cell? ⟨W5.heap.size, 3, none⟩ = some (.int .i64 g2) := fun w' h => h.cell (by rw [hW6]; simp [go_sem])
      have x4 : ∀ w', Ext W6 w' → w'.cell? ⟨W5.heap.size, 4, none⟩ = some (.slice A9 nl cs9) := fun w' h => h.cell (by rw [hW6]; simp [go_sem])
      have x5 : ∀ w', Ext W6 w' → w'.cell? ⟨W5.heap.size, 5, none⟩ = some (.int .i64 ao) := fun w' h => h.cell (by rw [hW6]; simp [go_sem])
      have x6 : ∀ w', Ext W6 w' → w'.cell? ⟨W5.heap.size, 6, none⟩ = some (.slice Au nu cu) := fun w' h => h.cell (by rw [hW6]; simp [go_sem])
      have x7 : ∀ w', Ext W6 w' → w'.cell? ⟨W5.heap.size, 7, none⟩ = some (.int .i64 y6) := fun w' h => h.cell (by rw [hW6]; simp [go_sem])
      have e0 := fun w' (h : Ext W6 w') => e0 w' (hE56.trans h)
      have e1 := fun w' (h : Ext W6 w') => e1 w' (hE56.trans h)
      have e2 := fun w' (h : Ext W6 w') => e2 w' (hE56.trans h)
      have e3 := fun w' (h : Ext W6 w') => e3 w' (hE56.trans h)
      have e4 := fun w' (h : Ext W6 w') => e4 w' (hE56.trans h)
      have e5 := fun w' (h : Ext W6 w') => e5 w' (hE56.trans h)
      have hR6 := Ext.refl W6
      have hcl1 := hcl W6 hE56
      have HW6 := Lib.hid (HW.out.trans hE56)
      have HE6 := Lib.hid (And.intro (HW5.out.1.trans hE56) (And.intro (HW5.out.2.1.ext hE56) (HW5.out.2.2.ext hE56)))
      clear hW6 hE56 d0 d1 d2' d3' d4' d5 d6' d7 HW hcl hR5 hR1
      have HB4 : Hid (W5.heap.size ≠ d6) := Lib.hid (by have := SpotB.lt HW5.out.2.2; omega)
      clear HW5
      generalize W5.heap.size = b4 at *
      by_cases hai : ai = inp
      rotate_left
      · have hne : (ai != inp) = true := bne_iff_ne.2 hai
        have HF2 : Hid (G arcs = G (arcs.drop (i + 1))) := Lib.hid (by rw [HF.out, HFA.out, if_neg (fun h => hai h.1)])
        clear hai
        go_wp2
        refine ⟨⟨i + 1, by go_num, hlt, HF2, HW6⟩, ?_⟩
        simp [intOf]; omega
      subst hai
      have hcl1' := hcl1
      rw [HLL.out] at hcl1'
      clear hcl1
      have hz0 := new_spot
      cases q3 with
      | false =>
        have HF2 : Hid (G arcs = G (arcs.drop (i + 1))) := Lib.hid (by rw [HF.out, HFA.out, if_neg (fun h => by cases h.2)])
        go_upto_region 6 with (first
          | (with_reducible refine wpList_load_spot rfl _ rfl d4 rfl HE6.out.2.1 hm ?_)
          | ((with_reducible refine hcl1'.mono ?_); rintro e W7 ⟨rfl, e7⟩; have hz7 := hz0 W7)
          | (with_reducible refine wpList_store_spot rfl _ _ rfl W7.heap.size rfl rfl hz7 (by simp) HQL ?_; intro w9 h9 g9))
        have hE9 := Below.grown (alloc_ext W7 _) g9 (alloc_ext W7 _).size (fun k hk => by cases hk; exact Nat.le_refl _)
        have HE9 := Lib.hid (HW6.out.trans (e7.trans hE9))
        clear hcl1' hz7 h9 g9 hE9 e7
        go_wp2
        refine ⟨⟨i + 1, by go_num, hlt, HF2, HE9⟩, ?_⟩
        simp [intOf]; omega
      | true =>
        have HR : Hid (r = (q1, q2, ao, true)) := Lib.hid (by rw [HR0.out, HF.out, HFA.out, if_pos ⟨rfl, rfl⟩])
        go_upto_region 6 with (first
          | (with_reducible refine wpList_load_spot rfl _ rfl d4 rfl HE6.out.2.1 hm ?_)
          | ((with_reducible refine hcl1'.mono ?_); rintro e W7 ⟨rfl, e7⟩; have hz7 := hz0 W7)
          | (with_reducible refine wpList_store_spot rfl _ _ rfl W7.heap.size rfl rfl hz7 (by simp) HQL ?_; intro w9 h9 g9))
        have hE9 := e7.trans (Below.grown (alloc_ext W7 _) g9 (alloc_ext W7 _).size (fun k hk => by cases hk; exact Nat.le_refl _))
        have hb7 : W7.heap.size ≠ d6 := by have := SpotB.lt (HE6.out.2.2.ext e7); omega
        have hb4 : b4 ≠ d6 := HB4.out
        have x5 := fun w' (h : w9.grownBy w' (some d6)) => h.cell (x5 w9 hE9) (by simpa using hb4)
        have hld := fun w' (h : w9.grownBy w' (some d6)) => SpotB.grown h9 h hb7
        have HE9 := Lib.hid (And.intro (HE6.out.1.trans hE9) (HE6.out.2.2.ext hE9))
        have hR9 := Ext.refl w9
        clear hcl1' hz7 h9 g9 hE9 e7
        go_upto_region 7 with fail
        refine RI.wp_region_inv 4 (SpI w9 d6 3 0 q1 [] q2) (fun k => [3].contains k) (fun k => ([[], [], [1], [0], [0, 1, 2, 3], [0, 1, 2, 3, 4]] : List (List Nat)).getD k []) (by kernel_rfl) (by kernel_rfl) ?_ ?_
        rotate_left; simp only [List.take_succ_cons, List.take_zero]; rotate_left
        · exact ⟨grown_of_ext (Ext.refl _).drew _, fun _ => HE9.out.2.ext (Ext.refl _).drew, fun v h => by cases h⟩
        with_reducible refine RI.lexL_quiet' (v := ?_) ?_ ?_ ?_ ?_; rotate_left; (· with_reducible rfl); (· decide); (· intro G w1 hI hA; (with_reducible refine quiet_load_spot (.tmp 11) ?_ _ ?_ (hld w1 hI.g) HQL) <;> (first | rfl | exact rfl | (go_simp; done) | (simp [Act.eval]; done))); (try simp only [Act.put, List.setIfInBounds_toArray, List.set_cons_zero, List.set_cons_succ])
        with_reducible refine RI.lexL_quiet' (v := ?_) ?_ ?_ ?_ ?_; rotate_left; (· with_reducible rfl); (· decide); (· intro G w1 hI hA; have hx5 := x5 w1 hI.g; go_simp; with_reducible rfl); (try simp only [Act.put, List.setIfInBounds_toArray, List.set_cons_zero, List.set_cons_succ])
        with_reducible refine RI.lexL_quiet' (v := ?_) ?_ ?_ ?_ ?_; rotate_left; (· with_reducible rfl); (· decide); (· intro G w1 hI hA; have hx5 := x5 w1 hI.g; go_simp; with_reducible rfl); (try simp only [Act.put, List.setIfInBounds_toArray, List.set_cons_zero, List.set_cons_succ])
        with_reducible refine RI.lexL_give' ?_ ?_ ?_ ?_; (· with_reducible rfl); (· decide)
        · intro G w5 hI hA hg
          refine gives_store_spot _ _ rfl d6 rfl rfl (hI.old hg) (by simp) HQL (fun w' h1 h2 => ⟨grown_trans hI.g h2, fun h => by simp [Vals.put] at h, fun v _ => h1⟩)
        intro v3 G w5 hI hs
        clear hI hs G w5
        (try simp only [Act.put, List.setIfInBounds_toArray, List.set_cons_zero, List.set_cons_succ])
        with_reducible refine RI.lexL_nil ?_; intro w1 hI1; simp only [List.drop_succ_cons, List.drop_zero]
        have H91 := Lib.hid (And.intro HE9.out.1 (And.intro hI1.g (hI1.new v3 rfl)))
        clear hI1
        go_wp2
        refine bodyPost_ret (results_cell_tmp2 rfl _ _ d6 93 _ (0, 0) _ (by simp [Act.put]) H91.out.2.2 Tryd.underlying93 rfl (spot_info HQL)) rfl ?_
        exact ⟨by rw [HR.out]; rfl, Below.grown H91.out.1 H91.out.2.1 H91.out.1.size (fun k hk => by cases hk; rw [HDW.out]; exact HD.out)⟩
    · have hie : i = arcs.length := by omega
      subst hie
      have hlt2 : ¬ (arcs.length : Int) < (arcs.length : Int) := by omega
      have HR : Hid (r = (s, ys, -1, false)) := Lib.hid (by rw [HR0.out, HF.out, List.drop_length, HG0.out])
      clear e0 e1 e2 e3 e4 e5
      go_upto_region 9 with fail
      go_wp2_with (first
        | (with_reducible refine wpList_load_spot rfl _ rfl d4 rfl HW5.out.2.1 hm ?_)
        | (with_reducible refine wpList_store_spot rfl _ _ rfl d6 rfl rfl HW5.out.2.2 (by simp) hm ?_; intro w8 h8 g8))
      refine bodyPost_ret (results_cell_tmp2 rfl _ _ d6 93 _ (0, 0) _ (by simp [Act.put]) h8 Tryd.underlying93 rfl (spot_info hm)) rfl ?_
      exact ⟨by rw [HR.out]; rfl, Below.grown HW5.out.1 g8 HW5.out.1.size (fun k hk => by cases hk; rw [HDW.out]; exact HD.out)⟩
end Go.Proofs.YtggffdkgfgdaoaaDoor

namespace Go.Proofs.YtggffdkgfgdaoaaDoor
open Go.RowKit Go.Maps
set_option linter.unusedVariables false
set_option linter.unusedSimpArgs false
attribute [local go_sem] Oper.quietV quietV Oper.gives givesV ext_refl_iff ext_alloc_iff ext_drew_iff ext_drewN_iff
attribute [local go_sem] RI.Oper.gives RI.givesV
theorem ups_ok {x : Xt} (h : xtR x = 0) : ∀ a ∈ x.arcs, UpsOk x.vars.length a.ups := fun a ha u hu => by
  obtain ⟨i, hi⟩ := List.getElem?_of_mem hu
  exact ((arcR_ok ((xtR_ok h).2.2.2.2.2.2.2.2 a ha)).2.2.2.2.2.2 i u hi).1
theorem ptr_inj {b b' : Nat} (h : Value.pointer (some ⟨b, 0, none⟩) = .pointer (some ⟨b', 0, none⟩)) : b = b' := by cases h; rfl
/-- A region that calls, and stores a spot that was called for. -/
structure SpJ (W : World) (cs : List (Nat × Value)) (ka ks : Nat) (s1 : Int) (ys1 : List Int) (G : Vals) (w : World) : Prop where
  e : Ext W w
  c : ∀ p ∈ cs, ∀ v, G p.1 = some v → v = p.2
  a : ∀ v, G ka = some v → ∃ b, v = .pointer (some ⟨b, 0, none⟩) ∧ W.heap.size ≤ b ∧ (G ks = none → SpotB w b 0 []) ∧ (∀ u, G ks = some u → SpotB w b s1 ys1)
  n : G ka = none → G ks = none
theorem SpJ.ext {W : World} {cs : List (Nat × Value)} {ka ks : Nat} {s1 : Int} {ys1 : List Int} {G : Vals} {w : World} (h : SpJ W cs ka ks s1 ys1 G w) : Ext W w := h.e
theorem SpJ.start (W : World) (cs : List (Nat × Value)) (ka ks : Nat) (s1 : Int) (ys1 : List Int) {w : World} (e : Ext W w) : SpJ W cs ka ks s1 ys1 (fun _ => none) w := ⟨e, fun _ _ _ h => (by cases h), fun _ h => (by cases h), fun _ => rfl⟩
theorem SpJ.call {W : World} {cs : List (Nat × Value)} {ka ks j : Nat} {s1 : Int} {ys1 : List Int} {G : Vals} {w w' : World} (h : SpJ W cs ka ks s1 ys1 G w) (hja : j ≠ ka) (hjs : j ≠ ks) (e : Ext w w') {v : Value} (hv : ∀ p ∈ cs, p.1 = j → v = p.2) : SpJ W cs ka ks s1 ys1 (G.put j v) w' :=
  ⟨h.e.trans e, fun p hp u hu => by
    by_cases hj : p.1 = j
    · have h1 : v = u := by simpa [Vals.put, hj] using hu
      rw [← h1]; exact hv p hp hj
    · exact h.c p hp u (by simpa [Vals.put, hj] using hu),
  fun u hu => by
    obtain ⟨b, h1, h2, h3, h4⟩ := h.a u (by simpa [Vals.put, Ne.symm hja] using hu)
    exact ⟨b, h1, h2, fun hg => (h3 (by simpa [Vals.put, Ne.symm hjs] using hg)).ext e, fun t ht => (h4 t (by simpa [Vals.put, Ne.symm hjs] using ht)).ext e⟩,
  fun hg => by simpa [Vals.put, Ne.symm hjs] using h.n (by simpa [Vals.put, Ne.symm hja] using hg)⟩
theorem SpJ.alloc {W : World} {cs : List (Nat × Value)} {ka ks : Nat} {s1 : Int} {ys1 : List Int} {G : Vals} {w : World} (h : SpJ W cs ka ks s1 ys1 G w) (hg : G ka = none) (hne : ka ≠ ks) (hcs : ∀ p ∈ cs, p.1 ≠ ka) {cells : Array Value} (hc : cells = (spotL 0 []).toArray) : SpJ W cs ka ks s1 ys1 (G.put ka (.pointer (some ⟨w.heap.size, 0, none⟩))) (w.alloc (.cells cells 93)) :=
  ⟨h.e.trans (alloc_ext _ _), fun p hp u hu => h.c p hp u (by simpa [Vals.put, hcs p hp] using hu),
  fun u hu => by
    have h1 : Value.pointer (some ⟨w.heap.size, 0, none⟩) = u := by simpa [Vals.put] using hu
    have h2 := h.n hg
    exact ⟨w.heap.size, h1.symm, h.e.size, fun _ => by unfold SpotB; rw [hc]; exact heap_alloc_new w _, fun t ht => by simp [Vals.put, Ne.symm hne, h2] at ht⟩,
  fun hg => by simp [Vals.put] at hg⟩
theorem SpJ.store {W : World} {cs : List (Nat × Value)} {ka ks b : Nat} {s1 : Int} {ys1 : List Int} {G : Vals} {w w' : World} (h : SpJ W cs ka ks s1 ys1 G w) (hne : ka ≠ ks) (hcs : ∀ p ∈ cs, p.1 ≠ ks) (ha : G ka = some (.pointer (some ⟨b, 0, none⟩))) {u : Value} (hB : SpotB w' b s1 ys1) (hg : w.grownBy w' (some b)) : SpJ W cs ka ks s1 ys1 (G.put ks u) w' := by
  obtain ⟨b', hb', hWb, _, _⟩ := h.a _ ha
  have hb' := ptr_inj hb'; subst hb'
  refine ⟨Below.grown h.e hg h.e.size (fun k hk => by cases hk; exact hWb), fun p hp v hv => h.c p hp v (by simpa [Vals.put, hcs p hp] using hv), fun v hv => ?_, fun hk => by simp [Vals.put, hne, ha] at hk⟩
  have hv2 : some (Value.pointer (some ⟨b, 0, none⟩)) = some v := by rw [← ha]; simpa [Vals.put, hne] using hv
  injection hv2 with hv2
  exact ⟨b, hv2.symm, hWb, fun hk => by simp [Vals.put] at hk, fun _ _ => hB⟩
/-- A region that calls for a configuration, and stores it in block d. -/
structure SpC (W : World) (d : Nat) (t : Int) (zs : List Int) (G : Vals) (w : World) : Prop where
  g : W.grownBy w (some d)
  n : G 2 = none → G 4 = none
  c : ∀ v, G 2 = some v → ∃ A, v = .agg #[.int .i64 t, .slice A zs.length zs.length] ∧ FitC w (.slice A zs.length zs.length) zs ∧ NewA W.heap.size A zs
  old : G 4 = none → Ext W w
  new : ∀ u v, G 4 = some u → G 2 = some v → ∃ A, v = .agg #[.int .i64 t, .slice A zs.length zs.length] ∧ w.heap[d]? = some (.cells #[.int .i64 t, .slice A zs.length zs.length] 34 (0, 0))
theorem SpC.call {W : World} {d : Nat} {t : Int} {zs : List Int} {G : Vals} {w w' : World} (h : SpC W d t zs G w) (hg : G 2 = none) (e : Ext w w') {A : Option Addr} (hf : FitC w' (.slice A zs.length zs.length) zs) (hn : NewA w.heap.size A zs) : SpC W d t zs (G.put 2 (.agg #[.int .i64 t, .slice A zs.length zs.length])) w' :=
  ⟨grown_trans h.g (grown_of_ext e _), fun h2 => by simp [Vals.put] at h2, fun v hv => by
    have h1 : Value.agg #[.int .i64 t, .slice A zs.length zs.length] = v := by simpa [Vals.put] using hv
    exact ⟨A, h1.symm, hf, fun h0 a ha => Nat.le_trans h.g.size (hn h0 a ha)⟩, fun h4 => (h.old (by simpa [Vals.put] using h4)).trans e, fun u v h4 _ => by
    have h5 : G 4 = some u := by simpa [Vals.put] using h4
    rw [h.n hg] at h5; cases h5⟩
theorem SpC.store {W : World} {d : Nat} {t : Int} {zs : List Int} {G : Vals} {w w' : World} (h : SpC W d t zs G w) (hd : d < W.heap.size) {A : Option Addr} (h2 : G 2 = some (.agg #[.int .i64 t, .slice A zs.length zs.length])) {u : Value} (hB : w'.heap[d]? = some (.cells #[.int .i64 t, .slice A zs.length zs.length] 34 (0, 0))) (hg : w.grownBy w' (some d)) : SpC W d t zs (G.put 4 u) w' := by
  refine ⟨grown_trans h.g hg, fun h3 => ?_, fun v hv => ?_, fun h4 => ?_, fun u' v _ hv => ?_⟩
  · have h5 : G 2 = none := by simpa [Vals.put] using h3
    rw [h2] at h5; cases h5
  · obtain ⟨B, h5, h6, h7⟩ := h.c v (by simpa [Vals.put] using hv)
    exact ⟨B, h5, IntsC.grown h6 h7 hd hg, h7⟩
  · simp [Vals.put] at h4
  · have h5 : G 2 = some v := by simpa [Vals.put] using hv
    rw [h2] at h5; injection h5 with h5
    exact ⟨A, h5.symm, hB⟩
theorem gives_store_blk {o : Oper} {a : Act} {w : World} {K : Value → World → Prop} (ty : TypeId) (x y : Operand) (ho : o.op = .store ty x y) (b : Nat) (hx : a.eval x = .pointer (some ⟨b, 0, none⟩)) {t : TypeId} {cells cs : Array Value} (hy : a.eval y = .agg cells) (hB : w.heap[b]? = some (.cells cs t (0, 0))) (hs : cells.size = cs.size) (hi : (Tryd.prog.info? ty).map (·.size) = some cells.size) (h1 : cells.all (·.oneCell') = true)
    (h : ∀ w', w'.heap[b]? = some (.cells cells t (0, 0)) → w.grownBy w' (some b) → K undef w') : RI.Oper.gives Tryd.prog o a w K := by
  have hw : w.there b 0 cells.size := fun j hj => by
    rw [Nat.zero_add]
    refine ⟨?_, free_of_blk hB j⟩
    rw [cell_of_row w b j cs t (0, 0) hB]
    simp [show j < cs.size by omega]
  unfold RI.Oper.gives execOp
  simp only [ho, hx, hy, Instr.storeAt, Instr.sureAddr, Sem.run_bind, Sem.run_pure, Result.andThen_ok, run_storeVar_mid w b 0 ty _ hw hi h1]
  obtain ⟨h2, h3⟩ := setCells_blk b t cells.toList 0 w _ hB
  rw [setsAt_all _ _ (by simpa using hs)] at h2
  exact h _ (by simpa using h2) h3
/-- What Step answers. -/
def StpP (w : World) (r : Option (Int × List Int × Int)) (er : Int) (e : Ending) (w' : World) : Prop :=
  (er = 0 → ∃ t zs o A, r = some (t, zs, o) ∧ e = .returned (.tuple #[.agg #[.int .i64 t, .slice A zs.length zs.length], .int .i64 o, .int .i64 0]) ∧ FitC w' (.slice A zs.length zs.length) zs ∧ Ext w w') ∧
  (er ≠ 0 → e = .returned (.tuple #[.agg #[.int .i64 0, .slice none 0 0], .int .i64 0, .int .i64 er]) ∧ Ext w w')
set_option maxRecDepth 100000 in
set_option maxHeartbeats 16000000 in
theorem extStep_any (w : World) (xv : Value) (x : Xt) (s : Int) (yv : Value) (ys : List Int) (cy : Nat) (inp : Int) (hx : XtV w x xv) (hT : OpsTab w) (hy : IntsC w yv ys cy) : Calls Tryd.prog 11 #[xv, .agg #[.int .i64 s, yv], .int .i64 inp] w (StpP w (stepR x s ys inp) (stpE x s ys inp)) := by
  obtain ⟨er, her⟩ : ∃ r, r = stpE x s ys inp := ⟨_, rfl⟩
  rw [← her]
  unfold stpE at her
  have hck := fun W' (e : Ext w W') => extCheck_any W' xv x (hx.ext e) (hT.ext e)
  have hst := fun W' (e : Ext w W') (h : xtR x = 0) (h2 : valsR x.vars ys = 0) => step_any W' xv x s ys inp (hx.ext e) (hT.ext e) (valsR_zero h2).2.1 (by rw [(valsR_zero h2).2.1]; exact varsR_le (valsR_zero h2).1) (ups_ok h)
  have hpl := fun W' (e : Ext w W') (h2 : valsR x.vars ys = 0) => place_any W' s yv ys cy (hy.ext e) (by rw [(valsR_zero h2).2.1]; exact varsR_le (valsR_zero h2).1)
  have hcf := fun W' (e : Ext w W') (h2 : valsR x.vars ys = 0) (t : Int) (zs : List Int) (h3 : zs.length = ys.length) => config_any W' xv x t zs (hx.ext e) (by rw [h3]; exact (valsR_zero h2).2.1) (by rw [h3, (valsR_zero h2).2.1]; exact varsR_le (valsR_zero h2).1)
  obtain ⟨vv, sv, av, c1, c2, c3, rfl, hvv, hsv, hav⟩ := hx
  have hvl := fun W' (e : Ext w W') => checkValues_any W' vv yv x.vars ys c1 cy (hvv.ext e) (hy.ext e)
  obtain ⟨Av0, hvv0, hvv1, hvv2, hvv3, hvv4⟩ := hvv
  obtain ⟨As, hs0, hs1, hs2, hs3⟩ := hsv
  obtain ⟨Aa, as', ha0, hal, hac, has, han, ham⟩ := hav
  obtain ⟨Ay, hy0, _, hy2, hy3⟩ := hy
  subst hvv0 hs0 ha0 hy0
  unfold lenMax at hvv3 hs3 ham hy3
  have hn1 := fun W' => numE_any W' s x.states
  have hn2 := fun W' => numE_any W' inp x.ins
  unfold SameP at hn1 hn2
  unfold ErrP at hck hvl
  unfold StepP at hst
  unfold SpotP at hpl
  obtain ⟨b1, hb1⟩ : ∃ b, b = numB s x.states := ⟨_, rfl⟩
  obtain ⟨b2, hb2⟩ : ∃ b, b = numB inp x.ins := ⟨_, rfl⟩
  obtain ⟨q, hq⟩ : ∃ q, q = xtR x := ⟨_, rfl⟩
  obtain ⟨u, hu⟩ : ∃ u, u = valsR x.vars ys := ⟨_, rfl⟩
  rw [← hb1] at hn1 her
  rw [← hb2] at hn2 her
  rw [← hq] at hck her
  rw [← hu] at hvl her
  have HST := Lib.hid hst
  have HPL := Lib.hid hpl
  have HCF := Lib.hid hcf
  have HQ := Lib.hid (And.intro hq hu)
  obtain ⟨R, hR⟩ : ∃ R, R = stepR x s ys inp := ⟨_, rfl⟩
  have HSV : Hid ((∀ r, R = some r → stepV x s ys inp = (r.1, r.2.1, r.2.2, true)) ∧ (R = none → stepV x s ys inp = (s, ys, -1, false))) := Lib.hid ⟨fun r h => (by unfold stepV; rw [← hR, h]), fun h => (by unfold stepV; rw [← hR, h])⟩
  have HSL : Hid (∀ r, R = some r → r.2.1.length = ys.length) := Lib.hid (fun r h => by rw [hR] at h; exact stepL_len h)
  rw [← hR] at her ⊢
  have HR0 := Lib.hid her
  clear her hb1 hb2 hq hu hst hpl hcf hR hT hvv1 hvv4 hs1 hal hac has
  generalize x.vars = vars at *
  generalize x.start = start at *
  generalize x.arcs = arcs at *
  generalize x.ins = xins at *
  generalize x.outs = xouts at *
  generalize x.states = xst at *
  go_enter Tryd.func11, Tryd.ntmps11
  go_upto_region 1 with fail
  refine wp_named ?_
  intro W1 hW1
  have hE1 : Ext w W1 := by rw [hW1]; exact ((alloc_ext w _).trans (alloc_ext _ _)).trans (alloc_ext _ _)
  have hB6 : W1.heap[w.heap.size + 1 + 1]? = some (.cells #[.int .i64 0, .slice none 0 0] 34 (0, 0)) := by rw [hW1]; exact alloc3_2 _ _ _ _
  have e0 : ∀ w', Ext W1 w' → w'.cell? ⟨w.heap.size, 0, none⟩ = some (.int .i64 xins) := fun w' h => h.cell (by rw [hW1]; simp [go_sem])
  have e1 : ∀ w', Ext W1 w' → w'.cell? ⟨w.heap.size, 1, none⟩ = some (.int .i64 xouts) := fun w' h => h.cell (by rw [hW1]; simp [go_sem])
  have e2 : ∀ w', Ext W1 w' → w'.cell? ⟨w.heap.size, 2, none⟩ = some (.int .i64 xst) := fun w' h => h.cell (by rw [hW1]; simp [go_sem])
  have e3 : ∀ w', Ext W1 w' → w'.cell? ⟨w.heap.size, 3, none⟩ = some (.slice Av0 vars.length c1) := fun w' h => h.cell (by rw [hW1]; simp [go_sem])
  have e4 : ∀ w', Ext W1 w' → w'.cell? ⟨w.heap.size, 4, none⟩ = some (.slice As start.length c2) := fun w' h => h.cell (by rw [hW1]; simp [go_sem])
  have e5 : ∀ w', Ext W1 w' → w'.cell? ⟨w.heap.size, 5, none⟩ = some (.slice Aa arcs.length c3) := fun w' h => h.cell (by rw [hW1]; simp [go_sem])
  have f0 : ∀ w', Ext W1 w' → w'.cell? ⟨w.heap.size + 1, 0, none⟩ = some (.int .i64 s) := fun w' h => h.cell (by rw [hW1]; simp [go_sem])
  have f1 : ∀ w', Ext W1 w' → w'.cell? ⟨w.heap.size + 1, 1, none⟩ = some (.slice Ay ys.length cy) := fun w' h => h.cell (by rw [hW1]; simp [go_sem])
  have hR1 := Ext.refl W1
  have hck1 := hck W1 hE1
  have HE1 := Lib.hid (And.intro hE1 hB6)
  have HD : Hid (w.heap.size ≤ w.heap.size + 1 + 1) := Lib.hid (by omega)
  clear hW1 hE1 hB6 hck
  generalize w.heap.size + 1 + 1 = d6 at *
  generalize w.heap.size + 1 = d4 at *
  generalize hd3 : w.heap.size = d3 at *
  have HDW := Lib.hid hd3
  clear hd3
  by_cases hq0 : q = 0
  rotate_left
  · have HR : Hid (er = q ∧ er ≠ 0) := Lib.hid (by rw [HR0.out, if_pos hq0]; exact ⟨rfl, hq0⟩)
    have hz2 : (q != 0) = true := bne_iff_ne.2 hq0
    clear hq0
    go_upto_region 3 with ((with_reducible refine hck1.mono ?_); rintro e W2 ⟨rfl, e2'⟩)
    have HE2 := Lib.hid (And.intro (HE1.out.1.trans e2') (heap_ext e2' HE1.out.2))
    clear hck1 hvl hn1 hn2 e2' e0 e1 e2 e3 e4 e5 f0 f1 hR1
    go_wp2_with (with_reducible refine wpList_store_blk _ rfl 34 _ _ rfl d6 34 _ _ rfl rfl (HE2.out).2 (by kernel_rfl) (by kernel_rfl) (by kernel_rfl) ?_; intro w8 h8 g8)
    refine bodyPost_ret (results_cell_tmp2 rfl _ _ d6 34 _ (0, 0) _ (by simp [Act.put]) h8 Tryd.underlying34 rfl (by kernel_rfl)) rfl ?_
    exact ⟨fun h => absurd h HR.out.2, fun _ => ⟨by rw [HR.out.1]; rfl, Below.grown (HE2.out).1 g8 (HE2.out).1.size (fun k hk => by cases hk; rw [HDW.out]; exact HD.out)⟩⟩
  subst hq0
  have HR0 : Hid (er = if b1 = false then 1 else if u ≠ 0 then u else if b2 = false then 1 else if R.isNone = true then 7 else 0) := Lib.hid (by rw [HR0.out, if_neg (by simp)])
  go_upto_region 4 with ((with_reducible refine hck1.mono ?_); rintro e W2 ⟨rfl, e2'⟩)
  have e0 := fun w' (h : Ext W2 w') => e0 w' ((e2').trans h)
  have e1 := fun w' (h : Ext W2 w') => e1 w' ((e2').trans h)
  have e2 := fun w' (h : Ext W2 w') => e2 w' ((e2').trans h)
  have e3 := fun w' (h : Ext W2 w') => e3 w' ((e2').trans h)
  have e4 := fun w' (h : Ext W2 w') => e4 w' ((e2').trans h)
  have e5 := fun w' (h : Ext W2 w') => e5 w' ((e2').trans h)
  have f0 := fun w' (h : Ext W2 w') => f0 w' (e2'.trans h)
  have f1 := fun w' (h : Ext W2 w') => f1 w' (e2'.trans h)
  have HE2 := Lib.hid (And.intro (HE1.out.1.trans e2') (heap_ext e2' HE1.out.2))
  have hR2 := Ext.refl W2
  have hvl2 := hvl W2 HE2.out.1
  clear hck1 e2' hR1 hvl HE1
  cases b1 with
  | false =>
    have HR : Hid (er = 1 ∧ er ≠ 0) := Lib.hid (by rw [HR0.out, if_pos rfl]; exact ⟨rfl, by decide⟩)
    go_upto_region 5 with ((with_reducible refine (hn1 _).mono ?_); rintro e W ⟨rfl, rfl⟩)
    clear hvl2 hn1 hn2 e0 e1 e2 e3 e4 e5 f0 f1 hR2
    go_wp2_with (with_reducible refine wpList_store_blk _ rfl 34 _ _ rfl d6 34 _ _ rfl rfl (HE2.out).2 (by kernel_rfl) (by kernel_rfl) (by kernel_rfl) ?_; intro w8 h8 g8)
    refine bodyPost_ret (results_cell_tmp2 rfl _ _ d6 34 _ (0, 0) _ (by simp [Act.put]) h8 Tryd.underlying34 rfl (by kernel_rfl)) rfl ?_
    exact ⟨fun h => absurd h HR.out.2, fun _ => ⟨by rw [HR.out.1]; rfl, Below.grown (HE2.out).1 g8 (HE2.out).1.size (fun k hk => by cases hk; rw [HDW.out]; exact HD.out)⟩⟩
  | true =>
  have HR0 : Hid (er = if u ≠ 0 then u else if b2 = false then 1 else if R.isNone = true then 7 else 0) := Lib.hid (by rw [HR0.out, if_neg (by simp)])
  by_cases hu0 : u = 0
  rotate_left
  · have HR : Hid (er = u ∧ er ≠ 0) := Lib.hid (by rw [HR0.out, if_pos hu0]; exact ⟨rfl, hu0⟩)
    have hz2 : (u != 0) = true := bne_iff_ne.2 hu0
    clear hu0
    go_upto_region 8 with (first | ((with_reducible refine (hn1 _).mono ?_); rintro e W ⟨rfl, rfl⟩) | ((with_reducible refine hvl2.mono ?_); rintro e W3 ⟨rfl, e3'⟩))
    have HE3 := Lib.hid (And.intro (HE2.out.1.trans e3') (heap_ext e3' HE2.out.2))
    clear hvl2 hn1 hn2 e0 e1 e2 e3 e4 e5 f0 f1 hR2
    go_wp2_with (with_reducible refine wpList_store_blk _ rfl 34 _ _ rfl d6 34 _ _ rfl rfl (HE3.out).2 (by kernel_rfl) (by kernel_rfl) (by kernel_rfl) ?_; intro w8 h8 g8)
    refine bodyPost_ret (results_cell_tmp2 rfl _ _ d6 34 _ (0, 0) _ (by simp [Act.put]) h8 Tryd.underlying34 rfl (by kernel_rfl)) rfl ?_
    exact ⟨fun h => absurd h HR.out.2, fun _ => ⟨by rw [HR.out.1]; rfl, Below.grown (HE3.out).1 g8 (HE3.out).1.size (fun k hk => by cases hk; rw [HDW.out]; exact HD.out)⟩⟩
  subst hu0
  have HR0 : Hid (er = if b2 = false then 1 else if R.isNone = true then 7 else 0) := Lib.hid (by rw [HR0.out, if_neg (by simp)])
  go_upto_region 9 with (first | ((with_reducible refine (hn1 _).mono ?_); rintro e W ⟨rfl, rfl⟩) | ((with_reducible refine hvl2.mono ?_); rintro e W3 ⟨rfl, e3'⟩))
  have e0 := fun w' (h : Ext W3 w') => e0 w' ((e3').trans h)
  have e1 := fun w' (h : Ext W3 w') => e1 w' ((e3').trans h)
  have e2 := fun w' (h : Ext W3 w') => e2 w' ((e3').trans h)
  have e3 := fun w' (h : Ext W3 w') => e3 w' ((e3').trans h)
  have e4 := fun w' (h : Ext W3 w') => e4 w' ((e3').trans h)
  have e5 := fun w' (h : Ext W3 w') => e5 w' ((e3').trans h)
  have f0 := fun w' (h : Ext W3 w') => f0 w' (e3'.trans h)
  have f1 := fun w' (h : Ext W3 w') => f1 w' (e3'.trans h)
  have HE3 := Lib.hid (And.intro (HE2.out.1.trans e3') (heap_ext e3' HE2.out.2))
  have hR3 := Ext.refl W3
  clear hvl2 e3' hR2 hn1 HE2
  cases b2 with
  | false =>
    have HR : Hid (er = 1 ∧ er ≠ 0) := Lib.hid (by rw [HR0.out, if_pos rfl]; exact ⟨rfl, by decide⟩)
    go_upto_region 10 with ((with_reducible refine (hn2 _).mono ?_); rintro e W ⟨rfl, rfl⟩)
    clear hn2 e0 e1 e2 e3 e4 e5 f0 f1 hR3
    go_wp2_with (with_reducible refine wpList_store_blk _ rfl 34 _ _ rfl d6 34 _ _ rfl rfl (HE3.out).2 (by kernel_rfl) (by kernel_rfl) (by kernel_rfl) ?_; intro w8 h8 g8)
    refine bodyPost_ret (results_cell_tmp2 rfl _ _ d6 34 _ (0, 0) _ (by simp [Act.put]) h8 Tryd.underlying34 rfl (by kernel_rfl)) rfl ?_
    exact ⟨fun h => absurd h HR.out.2, fun _ => ⟨by rw [HR.out.1]; rfl, Below.grown (HE3.out).1 g8 (HE3.out).1.size (fun k hk => by cases hk; rw [HDW.out]; exact HD.out)⟩⟩
  | true =>
  have HR0 : Hid (er = if R.isNone = true then 7 else 0) := Lib.hid (by rw [HR0.out, if_neg (by simp)])
  go_upto_region 11 with ((with_reducible refine (hn2 _).mono ?_); rintro e W ⟨rfl, rfl⟩)
  clear hn2
  have HST3 := Lib.hid (fun W' (e : Ext W3 W') => HST.out W' (HE3.out.1.trans e) HQ.out.1.symm HQ.out.2.symm)
  have HPL3 := Lib.hid (fun W' (e : Ext W3 W') => HPL.out W' (HE3.out.1.trans e) HQ.out.2.symm)
  cases R with
  | none =>
    have HR : Hid (er = 7 ∧ er ≠ 0) := Lib.hid (by rw [HR0.out]; exact ⟨rfl, by decide⟩)
    have hs := HST3.out
    rw [HSV.out.2 rfl] at hs
    dsimp only at hs
    have hp := HPL3.out
    have HZL : Hid (ys.length ≤ 16) := Lib.hid (by rw [(valsR_zero HQ.out.2.symm).2.1]; exact varsR_le (valsR_zero HQ.out.2.symm).1)
    refine RI.wp_region_inv 12 (SpJ W3 [(2, .agg (spotL s ys).toArray), (4, .tuple #[.agg (spotL s ys).toArray, .int .i64 (-1), .bool false])] 9 10 s ys) (fun k => [2, 4, 9, 10].contains k) (fun k => ([[], [], [1], [], [0, 1, 2, 3], [0, 1, 2, 3, 4], [0, 1, 2, 3, 4, 5], [0, 1, 2, 3, 4, 5], [0, 1, 2, 3, 4, 5], [], [0, 1, 2, 3, 4, 5, 6, 9], [0, 1, 2, 3, 4, 5, 6, 7, 9, 10], [0, 1, 2, 3, 4, 5, 6, 7, 8, 9, 10, 11]] : List (List Nat)).getD k []) (by kernel_rfl) (by kernel_rfl) ?_ ?_
    rotate_left; simp only [List.take_succ_cons, List.take_zero]; rotate_left
    · exact SpJ.start _ _ _ _ _ _ (Ext.refl _).drew
    repeat (first | (with_reducible refine RI.lexL_quiet' (v := ?_) ?_ ?_ ?_ ?_; rotate_left; (· with_reducible rfl); (· decide); (· intro G w1 hI1 hA1; have hw1 := hI1.ext; go_simp; with_reducible rfl); (try simp only [Act.put, List.setIfInBounds_toArray, List.set_cons_zero, List.set_cons_succ])) | (with_reducible refine RI.lexL_skip ?_ ?_; (· simp [Region.wanted, yielded, undef]); (try simp only [Act.put, List.setIfInBounds_toArray, List.set_cons_zero, List.set_cons_succ])) | (with_reducible refine RI.lexL_quiet (v := ?_) ?_ ?_ ?_ ?_; rotate_left; (· simp [Region.wanted, yielded, undef]); (· decide); (· intro G w1 hI1 hA1; have hw1 := hI1.ext; go_simp; with_reducible rfl); (try simp only [Act.put, List.setIfInBounds_toArray, List.set_cons_zero, List.set_cons_succ])))
    with_reducible refine RI.lexL_give' ?_ ?_ ?_ ?_; (· with_reducible rfl); (· decide)
    · intro G w5 hI hA hg
      have hw5 := hI.ext
      go_simp
      refine (hp w5 hw5).mono ?_
      rintro e w6 ⟨rfl, e6⟩
      exact ⟨_, rfl, hI.call (by decide) (by decide) e6 (by simp)⟩
    intro v2 G w5 hI hs2
    have hv2 := hI.c _ (List.mem_cons_self ..) v2 (hs2 2 v2 rfl)
    dsimp only at hv2
    subst hv2
    clear hI hs2 G w5
    (try simp only [Act.put, List.setIfInBounds_toArray, List.set_cons_zero, List.set_cons_succ])
    repeat (first | (with_reducible refine RI.lexL_quiet' (v := ?_) ?_ ?_ ?_ ?_; rotate_left; (· with_reducible rfl); (· decide); (· intro G w1 hI1 hA1; have hw1 := hI1.ext; go_simp; with_reducible rfl); (try simp only [Act.put, List.setIfInBounds_toArray, List.set_cons_zero, List.set_cons_succ])) | (with_reducible refine RI.lexL_skip ?_ ?_; (· simp [Region.wanted, yielded, undef]); (try simp only [Act.put, List.setIfInBounds_toArray, List.set_cons_zero, List.set_cons_succ])) | (with_reducible refine RI.lexL_quiet (v := ?_) ?_ ?_ ?_ ?_; rotate_left; (· simp [Region.wanted, yielded, undef]); (· decide); (· intro G w1 hI1 hA1; have hw1 := hI1.ext; go_simp; with_reducible rfl); (try simp only [Act.put, List.setIfInBounds_toArray, List.set_cons_zero, List.set_cons_succ])))
    with_reducible refine RI.lexL_give' ?_ ?_ ?_ ?_; (· with_reducible rfl); (· decide)
    · intro G w5 hI hA hg
      have hw5 := hI.ext
      go_simp
      refine (hs w5 hw5).mono ?_
      rintro e w6 ⟨rfl, e6⟩
      exact ⟨_, rfl, hI.call (by decide) (by decide) e6 (by simp)⟩
    intro v4 G w5 hI hs2
    have hv4 := hI.c _ (List.mem_cons_of_mem _ (List.mem_cons_self ..)) v4 (hs2 4 v4 rfl)
    dsimp only at hv4
    subst hv4
    clear hI hs2 G w5
    (try simp only [Act.put, List.setIfInBounds_toArray, List.set_cons_zero, List.set_cons_succ])
    repeat (first | (with_reducible refine RI.lexL_quiet' (v := ?_) ?_ ?_ ?_ ?_; rotate_left; (· with_reducible rfl); (· decide); (· intro G w1 hI1 hA1; have hw1 := hI1.ext; go_simp; with_reducible rfl); (try simp only [Act.put, List.setIfInBounds_toArray, List.set_cons_zero, List.set_cons_succ])) | (with_reducible refine RI.lexL_skip ?_ ?_; (· simp [Region.wanted, yielded, undef]); (try simp only [Act.put, List.setIfInBounds_toArray, List.set_cons_zero, List.set_cons_succ])) | (with_reducible refine RI.lexL_quiet (v := ?_) ?_ ?_ ?_ ?_; rotate_left; (· simp [Region.wanted, yielded, undef]); (· decide); (· intro G w1 hI1 hA1; have hw1 := hI1.ext; go_simp; with_reducible rfl); (try simp only [Act.put, List.setIfInBounds_toArray, List.set_cons_zero, List.set_cons_succ])))
    with_reducible refine RI.lexL_give' ?_ ?_ ?_ ?_; (· with_reducible rfl); (· decide)
    · intro G w5 hI hA hg
      go_simp
      exact hI.alloc hg (by decide) (by simp) rfl
    intro v9 G w5 hI hs2
    obtain ⟨b9, rfl, hb9, hr9⟩ := hI.a v9 (hs2 9 v9 rfl)
    clear hr9 hI hs2 G w5
    (try simp only [Act.put, List.setIfInBounds_toArray, List.set_cons_zero, List.set_cons_succ])
    with_reducible refine RI.lexL_give' ?_ ?_ ?_ ?_; (· with_reducible rfl); (· decide)
    · intro G w5 hI hA hg
      have h9 := hA 9 (by decide) _ rfl
      obtain ⟨b', hb', _, h3, _⟩ := hI.a _ h9
      have hb' := ptr_inj hb'; subst hb'
      refine gives_store_spot (.tmp 11) (.tmp 48) ?_ b9 ?_ ?_ (h3 hg) (by simp) HZL.out (fun w' hB hgr => hI.store (by decide) (by simp) h9 hB hgr) <;> first | rfl | exact rfl | (go_simp; done)
    intro v10 G w5 hI hs2
    clear hI hs2 G w5
    (try simp only [Act.put, List.setIfInBounds_toArray, List.set_cons_zero, List.set_cons_succ])
    repeat (first | (with_reducible refine RI.lexL_quiet' (v := ?_) ?_ ?_ ?_ ?_; rotate_left; (· with_reducible rfl); (· decide); (· intro G w1 hI1 hA1; have hw1 := hI1.ext; go_simp; with_reducible rfl); (try simp only [Act.put, List.setIfInBounds_toArray, List.set_cons_zero, List.set_cons_succ])) | (with_reducible refine RI.lexL_skip ?_ ?_; (· simp [Region.wanted, yielded, undef]); (try simp only [Act.put, List.setIfInBounds_toArray, List.set_cons_zero, List.set_cons_succ])) | (with_reducible refine RI.lexL_quiet (v := ?_) ?_ ?_ ?_ ?_; rotate_left; (· simp [Region.wanted, yielded, undef]); (· decide); (· intro G w1 hI1 hA1; have hw1 := hI1.ext; go_simp; with_reducible rfl); (try simp only [Act.put, List.setIfInBounds_toArray, List.set_cons_zero, List.set_cons_succ])))
    with_reducible refine RI.lexL_nil ?_; intro w1 hI1; simp only [List.drop_succ_cons, List.drop_zero]
    obtain ⟨b', hb', _, _, h4⟩ := hI1.a _ rfl
    have hb' := ptr_inj hb'; subst hb'
    have h4 := h4 v10 rfl
    have hE4 := hI1.e
    clear hI1
    have HE4 := Lib.hid (And.intro (HE3.out.1.trans hE4) (heap_ext hE4 HE3.out.2))
    --[a
    clear hE4 h4 hp hs e0 e1 e2 e3 e4 e5 f0 f1 hR3 hb9
    go_upto_region 13 with fail
    go_wp2_with (with_reducible refine wpList_store_blk _ rfl 34 _ _ rfl d6 34 _ _ rfl rfl (HE4.out).2 (by kernel_rfl) (by kernel_rfl) (by kernel_rfl) ?_; intro w8 h8 g8)
    refine bodyPost_ret (results_cell_tmp2 rfl _ _ d6 34 _ (0, 0) _ (by simp [Act.put]) h8 Tryd.underlying34 rfl (by kernel_rfl)) rfl ?_
    exact ⟨fun h => absurd h HR.out.2, fun _ => ⟨by rw [HR.out.1]; rfl, Below.grown (HE4.out).1 g8 (HE4.out).1.size (fun k hk => by cases hk; rw [HDW.out]; exact HD.out)⟩⟩
    --]a
  | some rr =>
    obtain ⟨t, zs, o⟩ := rr
    have hs := HST3.out
    rw [HSV.out.1 _ rfl] at hs
    dsimp only at hs
    have hp := HPL3.out
    have HZL0 : Hid (zs.length = ys.length) := Lib.hid (HSL.out _ rfl)
    have HZL : Hid (zs.length ≤ 16) := Lib.hid (by rw [HZL0.out, (valsR_zero HQ.out.2.symm).2.1]; exact varsR_le (valsR_zero HQ.out.2.symm).1)
    refine RI.wp_region_inv 12 (SpJ W3 [(2, .agg (spotL s ys).toArray), (4, .tuple #[.agg (spotL t zs).toArray, .int .i64 o, .bool true])] 9 10 t zs) (fun k => [2, 4, 9, 10].contains k) (fun k => ([[], [], [1], [], [0, 1, 2, 3], [0, 1, 2, 3, 4], [0, 1, 2, 3, 4, 5], [0, 1, 2, 3, 4, 5], [0, 1, 2, 3, 4, 5], [], [0, 1, 2, 3, 4, 5, 6, 9], [0, 1, 2, 3, 4, 5, 6, 7, 9, 10], [0, 1, 2, 3, 4, 5, 6, 7, 8, 9, 10, 11]] : List (List Nat)).getD k []) (by kernel_rfl) (by kernel_rfl) ?_ ?_
    rotate_left; simp only [List.take_succ_cons, List.take_zero]; rotate_left
    · exact SpJ.start _ _ _ _ _ _ (Ext.refl _).drew
    repeat (first | (with_reducible refine RI.lexL_quiet' (v := ?_) ?_ ?_ ?_ ?_; rotate_left; (· with_reducible rfl); (· decide); (· intro G w1 hI1 hA1; have hw1 := hI1.ext; go_simp; with_reducible rfl); (try simp only [Act.put, List.setIfInBounds_toArray, List.set_cons_zero, List.set_cons_succ])) | (with_reducible refine RI.lexL_skip ?_ ?_; (· simp [Region.wanted, yielded, undef]); (try simp only [Act.put, List.setIfInBounds_toArray, List.set_cons_zero, List.set_cons_succ])) | (with_reducible refine RI.lexL_quiet (v := ?_) ?_ ?_ ?_ ?_; rotate_left; (· simp [Region.wanted, yielded, undef]); (· decide); (· intro G w1 hI1 hA1; have hw1 := hI1.ext; go_simp; with_reducible rfl); (try simp only [Act.put, List.setIfInBounds_toArray, List.set_cons_zero, List.set_cons_succ])))
    with_reducible refine RI.lexL_give' ?_ ?_ ?_ ?_; (· with_reducible rfl); (· decide)
    · intro G w5 hI hA hg
      have hw5 := hI.ext
      go_simp
      refine (hp w5 hw5).mono ?_
      rintro e w6 ⟨rfl, e6⟩
      exact ⟨_, rfl, hI.call (by decide) (by decide) e6 (by simp)⟩
    intro v2 G w5 hI hs2
    have hv2 := hI.c _ (List.mem_cons_self ..) v2 (hs2 2 v2 rfl)
    dsimp only at hv2
    subst hv2
    clear hI hs2 G w5
    (try simp only [Act.put, List.setIfInBounds_toArray, List.set_cons_zero, List.set_cons_succ])
    repeat (first | (with_reducible refine RI.lexL_quiet' (v := ?_) ?_ ?_ ?_ ?_; rotate_left; (· with_reducible rfl); (· decide); (· intro G w1 hI1 hA1; have hw1 := hI1.ext; go_simp; with_reducible rfl); (try simp only [Act.put, List.setIfInBounds_toArray, List.set_cons_zero, List.set_cons_succ])) | (with_reducible refine RI.lexL_skip ?_ ?_; (· simp [Region.wanted, yielded, undef]); (try simp only [Act.put, List.setIfInBounds_toArray, List.set_cons_zero, List.set_cons_succ])) | (with_reducible refine RI.lexL_quiet (v := ?_) ?_ ?_ ?_ ?_; rotate_left; (· simp [Region.wanted, yielded, undef]); (· decide); (· intro G w1 hI1 hA1; have hw1 := hI1.ext; go_simp; with_reducible rfl); (try simp only [Act.put, List.setIfInBounds_toArray, List.set_cons_zero, List.set_cons_succ])))
    with_reducible refine RI.lexL_give' ?_ ?_ ?_ ?_; (· with_reducible rfl); (· decide)
    · intro G w5 hI hA hg
      have hw5 := hI.ext
      go_simp
      refine (hs w5 hw5).mono ?_
      rintro e w6 ⟨rfl, e6⟩
      exact ⟨_, rfl, hI.call (by decide) (by decide) e6 (by simp)⟩
    intro v4 G w5 hI hs2
    have hv4 := hI.c _ (List.mem_cons_of_mem _ (List.mem_cons_self ..)) v4 (hs2 4 v4 rfl)
    dsimp only at hv4
    subst hv4
    clear hI hs2 G w5
    (try simp only [Act.put, List.setIfInBounds_toArray, List.set_cons_zero, List.set_cons_succ])
    repeat (first | (with_reducible refine RI.lexL_quiet' (v := ?_) ?_ ?_ ?_ ?_; rotate_left; (· with_reducible rfl); (· decide); (· intro G w1 hI1 hA1; have hw1 := hI1.ext; go_simp; with_reducible rfl); (try simp only [Act.put, List.setIfInBounds_toArray, List.set_cons_zero, List.set_cons_succ])) | (with_reducible refine RI.lexL_skip ?_ ?_; (· simp [Region.wanted, yielded, undef]); (try simp only [Act.put, List.setIfInBounds_toArray, List.set_cons_zero, List.set_cons_succ])) | (with_reducible refine RI.lexL_quiet (v := ?_) ?_ ?_ ?_ ?_; rotate_left; (· simp [Region.wanted, yielded, undef]); (· decide); (· intro G w1 hI1 hA1; have hw1 := hI1.ext; go_simp; with_reducible rfl); (try simp only [Act.put, List.setIfInBounds_toArray, List.set_cons_zero, List.set_cons_succ])))
    with_reducible refine RI.lexL_give' ?_ ?_ ?_ ?_; (· with_reducible rfl); (· decide)
    · intro G w5 hI hA hg
      go_simp
      exact hI.alloc hg (by decide) (by simp) rfl
    intro v9 G w5 hI hs2
    obtain ⟨b9, rfl, hb9, hr9⟩ := hI.a v9 (hs2 9 v9 rfl)
    clear hr9 hI hs2 G w5
    (try simp only [Act.put, List.setIfInBounds_toArray, List.set_cons_zero, List.set_cons_succ])
    with_reducible refine RI.lexL_give' ?_ ?_ ?_ ?_; (· with_reducible rfl); (· decide)
    · intro G w5 hI hA hg
      have h9 := hA 9 (by decide) _ rfl
      obtain ⟨b', hb', _, h3, _⟩ := hI.a _ h9
      have hb' := ptr_inj hb'; subst hb'
      refine gives_store_spot (.tmp 11) (.tmp 48) ?_ b9 ?_ ?_ (h3 hg) (by simp) HZL.out (fun w' hB hgr => hI.store (by decide) (by simp) h9 hB hgr) <;> first | rfl | exact rfl | (go_simp; done)
    intro v10 G w5 hI hs2
    clear hI hs2 G w5
    (try simp only [Act.put, List.setIfInBounds_toArray, List.set_cons_zero, List.set_cons_succ])
    repeat (first | (with_reducible refine RI.lexL_quiet' (v := ?_) ?_ ?_ ?_ ?_; rotate_left; (· with_reducible rfl); (· decide); (· intro G w1 hI1 hA1; have hw1 := hI1.ext; go_simp; with_reducible rfl); (try simp only [Act.put, List.setIfInBounds_toArray, List.set_cons_zero, List.set_cons_succ])) | (with_reducible refine RI.lexL_skip ?_ ?_; (· simp [Region.wanted, yielded, undef]); (try simp only [Act.put, List.setIfInBounds_toArray, List.set_cons_zero, List.set_cons_succ])) | (with_reducible refine RI.lexL_quiet (v := ?_) ?_ ?_ ?_ ?_; rotate_left; (· simp [Region.wanted, yielded, undef]); (· decide); (· intro G w1 hI1 hA1; have hw1 := hI1.ext; go_simp; with_reducible rfl); (try simp only [Act.put, List.setIfInBounds_toArray, List.set_cons_zero, List.set_cons_succ])))
    with_reducible refine RI.lexL_nil ?_; intro w1 hI1; simp only [List.drop_succ_cons, List.drop_zero]
    obtain ⟨b', hb', _, _, h4⟩ := hI1.a _ rfl
    have hb' := ptr_inj hb'; subst hb'
    have h4 := h4 v10 rfl
    have hE4 := hI1.e
    clear hI1
    have HR : Hid (er = 0) := Lib.hid (by rw [HR0.out]; rfl)
    have hc := fun W' (e : Ext w1 W') => HCF.out W' ((HE3.out.1.trans hE4).trans e) HQ.out.2.symm t zs HZL0.out
    have HE4 := Lib.hid (And.intro (HE3.out.1.trans hE4) (heap_ext hE4 HE3.out.2))
    have e0 := fun w' (h : Ext w1 w') => e0 w' ((hE4).trans h)
    have e1 := fun w' (h : Ext w1 w') => e1 w' ((hE4).trans h)
    have e2 := fun w' (h : Ext w1 w') => e2 w' ((hE4).trans h)
    have e3 := fun w' (h : Ext w1 w') => e3 w' ((hE4).trans h)
    have e4 := fun w' (h : Ext w1 w') => e4 w' ((hE4).trans h)
    have e5 := fun w' (h : Ext w1 w') => e5 w' ((hE4).trans h)
    unfold ConfP at hc
    have hR4 := Ext.refl w1
    have hB9 := fun w' (h : Ext w1 w') => h4.ext h
    clear hE4 h4 hp hs f0 f1 hR3 hb9
    have hc1 := hc w1 (Ext.refl _)
    have hb9 := hB9 w1 (Ext.refl _)
    clear hc hB9
    have hlt6 := lt_of_block HE4.out.2
    go_wp2_with (first
      | (with_reducible refine wpList_load_spot rfl _ rfl b9 rfl hb9 HZL.out ?_)
      | ((with_reducible refine hc1.mono ?_); rintro e W7 ⟨A, rfl, hf7, hn7, e7⟩; have hB7 := heap_ext e7 HE4.out.2)
      | (with_reducible refine wpList_store_blk _ rfl 34 _ _ rfl d6 34 _ _ rfl rfl hB7 (by kernel_rfl) (by kernel_rfl) (by kernel_rfl) ?_; intro w8 h8 g8))
    refine bodyPost_ret (results_cell_tmp2 rfl _ _ d6 34 _ (0, 0) _ (by simp [Act.put]) h8 Tryd.underlying34 rfl (by kernel_rfl)) rfl ?_
    exact ⟨fun _ => ⟨t, zs, o, A, rfl, by first | rfl | (rw [HR.out]; rfl), IntsC.grown hf7 hn7 hlt6 g8, Below.grown (HE4.out.1.trans e7) g8 (HE4.out.1.trans e7).size (fun k hk => by cases hk; rw [HDW.out]; exact HD.out)⟩, fun h => absurd HR.out h⟩
end Go.Proofs.YtggffdkgfgdaoaaDoor
