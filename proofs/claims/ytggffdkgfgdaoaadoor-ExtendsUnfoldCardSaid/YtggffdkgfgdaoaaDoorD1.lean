/- Two arcs of a machine exchanged, in memory. -/
import Derived.Test.YtggffdkgfgdaoaaDoorC4
import Derived.Test.YtggffdkgfgdaoaaDoorGA
namespace Go.Proofs.YtggffdkgfgdaoaaDoor
open Go.RowKit Go.Maps
set_option linter.unusedVariables false
set_option linter.unusedSimpArgs false
attribute [local go_sem] Oper.quietV quietV Oper.gives givesV ext_refl_iff ext_alloc_iff ext_drew_iff ext_drewN_iff
theorem arc_one {N : Nat} {w : World} {a : Ac} {y : Av} (h : ArcT N w a y) : (avCells y).toArray.all (·.oneCell') = true := by
  obtain ⟨_, _, h3, _, ⟨c, A, vs, h5, _⟩, _⟩ := h
  obtain ⟨A', k, c', h6⟩ := h3.form
  have h7 : ∃ B m d, y.g.2.2 = .slice B m d := by
    have h9 := congrArg (fun v => match v with | Value.agg cs => cs[2]? | _ => none) h6
    exact ⟨A', k, c', by simpa [nvVal] using h9⟩
  obtain ⟨B, m, d, h7⟩ := h7
  refine all_oneCell_toArray (fun v hv => ?_)
  unfold avCells at hv
  rw [h7, h5] at hv
  simp at hv
  rcases hv with h | h | h | h | h | h | h | h <;> (subst h; rfl)
theorem av_rg {w : World} {base g n c : Nat} {vs : List Av} {i : Nat} {y : Av} (h : w.ownsRow base 71 8 (.slice (some ⟨g, 0, none⟩) n c) n (vs.flatMap avCells)) (hi : vs[i]? = some y) : w.rangeAt g (i * 8) (avCells y) :=
  fun j v hj => cell_at_own h (rec_get avCells 8 av_len hi j v hj)
def setsL : List Value → Nat → List Value → List Value
  | xs, _, [] => xs
  | xs, o, v :: r => setsL (xs.set o v) (o + 1) r
theorem own_sets {base g n c : Nat} : ∀ (us : List Value) (o : Nat) (w : World) (xs : List Value), w.ownsRow base 71 8 (.slice (some ⟨g, 0, none⟩) n c) n xs → (w.setCells g o us).ownsRow base 71 8 (.slice (some ⟨g, 0, none⟩) n c) n (setsL xs o us) ∧ w.grownBy (w.setCells g o us) (some g)
  | [], o, w, xs, h => ⟨h, World.grownBy.refl _ _⟩
  | v :: r, o, w, xs, h => by
    have h1 := h.stored o v
    have h2 := own_sets r (o + 1) _ _ h1.1
    exact ⟨h2.1, grown_trans h1.2 h2.2⟩
theorem setsL_len : ∀ (us : List Value) (o : Nat) (xs : List Value), (setsL xs o us).length = xs.length
  | [], _, _ => rfl
  | v :: r, o, xs => by unfold setsL; rw [setsL_len r]; simp
theorem setsL_eq (us : List Value) : ∀ (o : Nat) (xs : List Value), o + us.length ≤ xs.length → setsL xs o us = xs.take o ++ us ++ xs.drop (o + us.length) := by
  induction us with
  | nil => intro o xs _; simp [setsL]
  | cons v r ih =>
    intro o xs h
    simp only [List.length_cons] at h
    rw [setsL, ih (o + 1) _ (by simp; omega)]
    have ho : o < xs.length := by omega
    rw [List.take_set, List.take_succ_eq_append_getElem ho]
    have hl : (xs.take o).length = o := by simp; omega
    rw [List.set_append_right _ _ (by omega), hl, Nat.sub_self, List.set_cons_zero, List.drop_set_of_lt (by omega)]
    simp [List.append_assoc, Nat.add_comm, Nat.add_left_comm]
theorem av_flat_set (vs : List Av) (i : Nat) (y : Av) (hi : i < vs.length) : setsL (vs.flatMap avCells) (i * 8) (avCells y) = (vs.set i y).flatMap avCells := by
  have hl : (vs.flatMap avCells).length = vs.length * 8 := rec_len avCells 8 av_len vs
  rw [setsL_eq _ _ _ (by rw [av_len, hl]; omega), av_len, List.set_eq_take_append_cons_drop, if_pos hi, List.flatMap_append, List.flatMap_cons]
  have h1 : vs.flatMap avCells = (vs.take i).flatMap avCells ++ (avCells vs[i] ++ (vs.drop (i + 1)).flatMap avCells) := by
    conv => lhs; rw [← List.take_append_drop i vs, List.drop_eq_getElem_cons hi]
    rw [List.flatMap_append, List.flatMap_cons]
  have h2 : ((vs.take i).flatMap avCells).length = i * 8 := by rw [rec_len avCells 8 av_len, List.length_take]; congr 1; omega
  have h3 : (vs.flatMap avCells).take (i * 8) = (vs.take i).flatMap avCells := by rw [h1]; exact List.take_left' h2
  have h4 : (vs.flatMap avCells).drop (i * 8 + 8) = (vs.drop (i + 1)).flatMap avCells := by
    rw [h1, ← List.append_assoc]
    exact List.drop_left' (by rw [List.length_append, h2, av_len])
  rw [h3, h4, List.append_assoc]
theorem av_put {w : World} {base g n c : Nat} {vs : List Av} {i : Nat} (h : w.ownsRow base 71 8 (.slice (some ⟨g, 0, none⟩) n c) n (vs.flatMap avCells)) (hi : i < vs.length) (y : Av) :
    w.there g (i * 8) (avCells y).toArray.size ∧ (w.setCells g (i * 8) (avCells y)).ownsRow base 71 8 (.slice (some ⟨g, 0, none⟩) n c) n ((vs.set i y).flatMap avCells) ∧ w.grownBy (w.setCells g (i * 8) (avCells y)) (some g) := by
  obtain ⟨h1, h2⟩ := own_sets (avCells y) (i * 8) w _ h
  rw [av_flat_set vs i y hi] at h1
  refine ⟨fun j hj => ?_, h1, h2⟩
  have hj : j < 8 := by simpa [avCells] using hj
  have hr := av_rg h (List.getElem?_eq_getElem hi)
  obtain ⟨u, hu⟩ : ∃ u, (avCells vs[i])[j]? = some u := ⟨_, List.getElem?_eq_getElem (show j < (avCells vs[i]).length by rw [av_len]; exact hj)⟩
  exact ⟨by rw [hr j u hu]; rfl, h.frozenAt _⟩
theorem arc_size (y : Av) : (Tryd.prog.info? 71).map (·.size) = some (avCells y).length := by
  rw [av_len]; kernel_rfl
theorem gives_load71 {o : Oper} {a : Act} {w : World} {K : Value → World → Prop} (x : Operand) (ho : o.op = .load 71 x) (b k : Nat) (hx : a.eval x = .pointer (some ⟨b, k, none⟩)) (y : Av) (hR : w.rangeAt b k (avCells y)) (h : K (.agg (avCells y).toArray) w) : RI.Oper.gives Tryd.prog o a w K := by
  unfold RI.Oper.gives execOp
  simp only [ho, hx, Instr.loadAt, Instr.sureAddr, Sem.run_bind, Sem.run_pure, Result.andThen_ok, run_loadVar_mid w b k 71 _ _ hR Tryd.underlying71 rfl (arc_size y)]
  exact h
theorem gives_store71 {o : Oper} {a : Act} {w : World} {K : Value → World → Prop} (x z : Operand) (ho : o.op = .store 71 x z) (b k : Nat) (hx : a.eval x = .pointer (some ⟨b, k, none⟩)) (y : Av) (hz : a.eval z = .agg (avCells y).toArray) (ht : w.there b k (avCells y).toArray.size) (h1 : (avCells y).toArray.all (·.oneCell') = true)
    (h : K undef (w.setCells b k (avCells y))) : RI.Oper.gives Tryd.prog o a w K := by
  unfold RI.Oper.gives execOp
  have hi : (Tryd.prog.info? 71).map (·.size) = some (avCells y).toArray.size := by rw [arc_size y]; rfl
  simp only [ho, hx, hz, Instr.storeAt, Instr.sureAddr, Sem.run_bind, Sem.run_pure, Result.andThen_ok, run_storeVar_mid w b k 71 _ ht hi h1]
  exact h
/-- The region that exchanges two arcs. -/
structure SwI (N g d n c : Nat) (yi yk : Av) (i : Nat) (vs : List Av) (W : World) (F : Vals) (w : World) : Prop where
  five : w.cell? ⟨d, 5, none⟩ = some (.slice (some ⟨g, 0, none⟩) n c)
  pre : F 17 = none → w.ownsRow N 71 8 (.slice (some ⟨g, 0, none⟩) n c) n (vs.flatMap avCells)
  mid : ∀ v, F 17 = some v → (∃ v, F 10 = some v) ∧ (∃ v, F 15 = some v) ∧ w.ownsRow N 71 8 (.slice (some ⟨g, 0, none⟩) n c) n ((vs.set i yk).flatMap avCells)
  a10 : ∀ v, F 10 = some v → v = (Value.agg (avCells yk).toArray)
  a15 : ∀ v, F 15 = some v → v = (Value.agg (avCells yi).toArray)
  gr : W.grownBy w (some g)
theorem SwI.ext {N g d n c : Nat} {yi yk : Av} {i : Nat} {vs : List Av} {W : World} {F : Vals} {w : World} (h : SwI N g d n c yi yk i vs W F w) : w.cell? ⟨d, 5, none⟩ = some (.slice (some ⟨g, 0, none⟩) n c) := h.five
section
variable {N g d n c : Nat} {yi yk : Av} {i : Nat} {vs : List Av} {W : World} {F : Vals} {w : World}
theorem SwI.start (e : Ext W w) (h5 : W.cell? ⟨d, 5, none⟩ = some (.slice (some ⟨g, 0, none⟩) n c)) (h : W.ownsRow N 71 8 (.slice (some ⟨g, 0, none⟩) n c) n (vs.flatMap avCells)) : SwI N g d n c yi yk i vs W (fun _ => none) w :=
  ⟨e.cell h5, fun _ => ownsRow_of h (fun b hb => e.block b (h.lt b hb).2), fun v h => (by cases h), fun v h => (by cases h), fun v h => (by cases h), grown_of_ext e _⟩
theorem SwI.load10 (h : SwI N g d n c yi yk i vs W F w) (hg : F 10 = none) : SwI N g d n c yi yk i vs W (F.put 10 ((.agg (avCells yk).toArray))) w := by
  refine ⟨h.five, fun h17 => h.pre (by simpa [Vals.put] using h17), fun v h17 => ?_, fun v hv => ?_, fun v hv => h.a15 v (by simpa [Vals.put] using hv), h.gr⟩
  · obtain ⟨⟨u, hu⟩, _⟩ := h.mid v (by simpa [Vals.put] using h17)
    rw [hg] at hu; cases hu
  · have h1 : (Value.agg (avCells yk).toArray) = v := by simpa [Vals.put] using hv
    exact h1.symm
theorem SwI.load15 (h : SwI N g d n c yi yk i vs W F w) (hg : F 15 = none) : SwI N g d n c yi yk i vs W (F.put 15 ((.agg (avCells yi).toArray))) w := by
  refine ⟨h.five, fun h17 => h.pre (by simpa [Vals.put] using h17), fun v h17 => ?_, fun v hv => h.a10 v (by simpa [Vals.put] using hv), fun v hv => ?_, h.gr⟩
  · obtain ⟨_, ⟨u, hu⟩, _⟩ := h.mid v (by simpa [Vals.put] using h17)
    rw [hg] at hu; cases hu
  · have h1 : (Value.agg (avCells yi).toArray) = v := by simpa [Vals.put] using hv
    exact h1.symm
theorem SwI.row10 (h : SwI N g d n c yi yk i vs W F w) (hg : F 10 = none) : w.ownsRow N 71 8 (.slice (some ⟨g, 0, none⟩) n c) n (vs.flatMap avCells) := h.pre (by
  cases h17 : F 17 with
  | none => rfl
  | some v =>
    obtain ⟨⟨u, hu⟩, _⟩ := h.mid v h17
    rw [hg] at hu; cases hu)
theorem SwI.row15 (h : SwI N g d n c yi yk i vs W F w) (hg : F 15 = none) : w.ownsRow N 71 8 (.slice (some ⟨g, 0, none⟩) n c) n (vs.flatMap avCells) := h.pre (by
  cases h17 : F 17 with
  | none => rfl
  | some v =>
    obtain ⟨_, ⟨u, hu⟩, _⟩ := h.mid v h17
    rw [hg] at hu; cases hu)
theorem SwI.store (h : SwI N g d n c yi yk i vs W F w) (hg : F 17 = none) {v10 v15 : Value} (h10 : F 10 = some v10) (h15 : F 15 = some v15) (hd : d ≠ g) (hdl : d < W.heap.size) (hi : i < vs.length) {u : Value} : SwI N g d n c yi yk i vs W (F.put 17 u) (w.setCells g (i * 8) (avCells yk)) := by
  obtain ⟨_, h1, h2⟩ := av_put (h.pre hg) hi yk
  refine ⟨?_, fun h17 => by simp [Vals.put] at h17, fun v _ => ⟨⟨v10, by simpa [Vals.put] using h10⟩, ⟨v15, by simpa [Vals.put] using h15⟩, h1⟩, fun v hv => h.a10 v (by simpa [Vals.put] using hv), fun v hv => h.a15 v (by simpa [Vals.put] using hv), grown_trans h.gr h2⟩
  rw [cell_keep (h2.block d (Nat.lt_of_lt_of_le hdl h.gr.size) (by simpa using hd))]
  exact h.five
end
theorem slice_inj2 {A B : Option Addr} {n c c' : Nat} (h : Value.slice A n c = .slice B n c') : A = B ∧ c = c' := by cases h; exact ⟨rfl, rfl⟩
theorem all_set {α β : Type} {R : α → β → Prop} {al : List α} {vs : List β} (h : ∀ (j : Nat) (a : α) (y : β), al[j]? = some a → vs[j]? = some y → R a y) (i : Nat) {a0 : α} {y0 : β} (h0 : R a0 y0) : ∀ (j : Nat) (a : α) (y : β), (al.set i a0)[j]? = some a → (vs.set i y0)[j]? = some y → R a y := by
  intro j a y ha hy
  by_cases hj : i = j
  · subst hj
    rw [List.getElem?_set_self' ] at ha hy
    cases h1 : al[i]? with
    | none => rw [h1] at ha; cases ha
    | some a1 =>
      cases h2 : vs[i]? with
      | none => rw [h2] at hy; cases hy
      | some y1 =>
        rw [h1] at ha; rw [h2] at hy
        simp at ha hy
        subst ha hy
        exact h0
  · rw [List.getElem?_set_ne hj] at ha hy
    exact h j a y ha hy
theorem arc_size' (y : Av) : (Tryd.prog.info? 71).map (·.size) = some (avCells y).toArray.size := by rw [arc_size y]; rfl
theorem XtT.swap {N g ca c1 c2 : Nat} {W W' : World} {X : Xt} {vv sv : Value} {ys : List Av} {i k : Nat} {ai ak : Ac} {yi yk : Av} (hvv : VarsT N W vv X.vars c1) (hsv : IntsT N W sv X.start c2) (hrow : W.ownsRow N 71 8 (.slice (some ⟨g, 0, none⟩) X.arcs.length ca) X.arcs.length (ys.flatMap avCells)) (hvl : ys.length = X.arcs.length)
    (hat : ∀ (i : Nat) (a : Ac) (y : Av), X.arcs[i]? = some a → ys[i]? = some y → ArcT N W a y) (hm : X.arcs.length ≤ lenMax) (hi : ArcT N W ai yi) (hk : ArcT N W ak yk) (hg : W.grownBy W' (some g))
    (hrow' : W'.ownsRow N 71 8 (.slice (some ⟨g, 0, none⟩) X.arcs.length ca) X.arcs.length (((ys.set i yk).set k yi).flatMap avCells)) :
    XtT N W' (swapX X ((X.arcs.set i ak).set k ai)) (.agg #[.int .i64 X.ins, .int .i64 X.outs, .int .i64 X.states, vv, sv, .slice (some ⟨g, 0, none⟩) X.arcs.length ca]) := by
  have hkp : Kp N W W' := kp_own hrow hg
  have hl : ((X.arcs.set i ak).set k ai).length = X.arcs.length := by simp
  refine ⟨_, _, _, (ys.set i yk).set k yi, c1, c2, rfl, hvv.keep hkp, hsv.keep hkp, ?_, ?_, ?_, ?_⟩
  · show W'.ownsRow N 71 8 _ ((X.arcs.set i ak).set k ai).length _
    rw [hl]; exact hrow'
  · show _ = ((X.arcs.set i ak).set k ai).length
    rw [hl]; simp [hvl]
  · exact all_set (all_set (fun j a y ha hy => (hat j a y ha hy).keep hkp) i (hk.keep hkp)) k (hi.keep hkp)
  · show ((X.arcs.set i ak).set k ai).length ≤ _
    rw [hl]; exact hm
end Go.Proofs.YtggffdkgfgdaoaaDoor
