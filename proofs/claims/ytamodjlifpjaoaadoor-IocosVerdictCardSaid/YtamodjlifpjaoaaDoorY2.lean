/- ref27.runs 55. -/
import Derived.Test.YtamodjlifpjaoaaDoorY1
import Derived.Test.YtamodjlifpjaoaaDoorX2
import Derived.Test.YtamodjlifpjaoaaDoorGJ
import Derived.Test.YtamodjlifpjaoaaDoorGA
import Derived.Deep.CutRange
namespace Go.Proofs.YtamodjlifpjaoaaDoor
open Go.RowKit
set_option linter.unusedVariables false
set_option linter.unusedSimpArgs false
attribute [local go_sem] Oper.quietV quietV Oper.gives givesV ext_refl_iff ext_alloc_iff ext_drew_iff ext_drewN_iff
/-- Lists of numbers, each in memory. -/
def LstOk (vs : List Value) (R : List (List Int)) (W : World) : Prop := vs.length = R.length ∧ ∀ (i : Nat) (u : Value) (r : List Int), vs[i]? = some u → R[i]? = some r → ∃ c, IntsC W u r c
def lsF (vs : List Value) (b : Nat) : Prop := ∃ u ∈ vs, ∃ o n c, u = .slice (some ⟨b, o, none⟩) n c ∧ 0 < n
theorem LstOk.ext {vs : List Value} {R : List (List Int)} {w w' : World} (h : LstOk vs R w) (e : Ext w w') : LstOk vs R w' := ⟨h.1, fun i u r hu hr => by obtain ⟨c, h⟩ := h.2 i u r hu hr; exact ⟨c, h.ext e⟩⟩
theorem LstOk.app {vs vs' : List Value} {R R' : List (List Int)} {w : World} (h : LstOk vs R w) (h' : LstOk vs' R' w) : LstOk (vs ++ vs') (R ++ R') w := by
  refine ⟨by rw [List.length_append, List.length_append, h.1, h'.1], fun i u r hu hr => ?_⟩
  by_cases hi : i < vs.length
  · rw [List.getElem?_append_left hi] at hu
    rw [List.getElem?_append_left (by rw [← h.1]; exact hi)] at hr
    exact h.2 i u r hu hr
  · rw [List.getElem?_append_right (by omega)] at hu
    rw [List.getElem?_append_right (by rw [← h.1]; omega), ← h.1] at hr
    exact h'.2 _ u r hu hr
theorem lsAny {N : Nat} {w : World} {vs : List Value} {R : List (List Int)} (h : LstOk vs R w) (hf : ∀ u ∈ vs, FarV N u) : (Asn.any (lsF vs) (LstOk vs R)).ok N w := by
  refine ⟨fun b ⟨u, hu, o, n, c, hv, hn⟩ => ⟨hf u hu b o n c hv, ?_⟩, fun w' hb => ⟨h.1, fun i u r hu hr => ?_⟩⟩
  · obtain ⟨i, hi⟩ := List.getElem?_of_mem hu
    obtain ⟨r, hr⟩ : ∃ r, R[i]? = some r := ⟨_, List.getElem?_eq_getElem (by rw [← h.1]; exact (List.getElem?_eq_some_iff.1 hi).1)⟩
    obtain ⟨c', A, h1, hc, _, _⟩ := h.2 i u r hi hr
    rw [hv] at h1
    injection h1 with h1 h2 _
    subst h1
    obtain ⟨b', o', h3, hlt, _⟩ := hc (by simp; omega)
    cases h3; exact hlt
  · obtain ⟨c', hi⟩ := h.2 i u r hu hr
    exact ⟨c', ints_same hi fun b o n c hv hn => hb b ⟨u, List.mem_of_getElem? hu, o, n, c, hv, hn⟩⟩
/-- What gathering runs owns. -/
def RunSt (W0 W : World) (ov : Value) (vs : List Value) (R : List (List Int)) : Prop := ∃ F, OwnL W0 W [.row 30 1 ov vs.length vs, .any F (LstOk vs R)]
theorem RunSt.ext {W0 W : World} {ov : Value} {vs : List Value} {R : List (List Int)} (h : RunSt W0 W ov vs R) : Ext W0 W := by obtain ⟨F, h⟩ := h; exact OwnL.ext h
theorem RunSt.trans {W0 W W' : World} {ov : Value} {vs : List Value} {R : List (List Int)} (h : RunSt W0 W ov vs R) (e : Ext W W') : RunSt W0 W' ov vs R := by obtain ⟨F, h⟩ := h; exact ⟨F, h.trans e⟩
theorem RunSt.row {W0 W : World} {ov : Value} {vs : List Value} {R : List (List Int)} (h : RunSt W0 W ov vs R) : W.ownsRow W0.heap.size 30 1 ov vs.length vs ∧ LstOk vs R W := by obtain ⟨F, h⟩ := h; exact ⟨h.get 0 rfl, h.know 1 rfl⟩
theorem RunSt.start (W : World) : RunSt W W (.slice none 0 0) [] [] :=
  ⟨_, ((OwnL.nil (Ext.refl W)).add (Ext.refl W) (lsAny (N := W.heap.size) (vs := []) (R := []) ⟨rfl, fun i u r hu => by simp at hu⟩ (fun u hu => by cases hu))).add (Ext.refl W) (A := .row 30 1 (.slice none 0 0) 0 []) (World.ownsRow_nil W _ 30 1)⟩
theorem RunSt.more {W0 W W1 W' : World} {ov ov' : Value} {vs vs1 : List Value} {R R1 : List (List Int)} (h : RunSt W0 W ov vs R) (e : Ext W W1) (hM : LstOk vs1 R1 W1) (hf : ∀ u ∈ vs1, FarV W.heap.size u) (hg : W1.grownBy W' ov.ownBlock) (ho : W'.ownsRow W0.heap.size 30 1 ov' (vs.length + vs1.length) (vs ++ vs1)) (hb : ∀ b, ov'.ownBlock = some b → ov.ownBlock = some b ∨ W1.heap.size ≤ b) : RunSt W0 W' ov' (vs ++ vs1) (R ++ R1) := by
  obtain ⟨F, h⟩ := h
  have h1 := h.add e (lsAny hM hf)
  have h2 := h1.app 1 rfl hg ho hb
  have h3 : OwnL W0 W' (.any (lsF vs1) (LstOk vs1 R1) :: .row 30 1 ov' (vs.length + vs1.length) (vs ++ vs1) :: .any F (LstOk vs R) :: []) := h2
  have h4 := (h3.perm (.cons _ (List.Perm.swap _ _ _))).merge.weaken (Φ' := LstOk (vs ++ vs1) (R ++ R1)) (fun W h => h.2.app h.1)
  have h5 := h4.swap
  refine ⟨fun b => lsF vs1 b ∨ F b, ?_⟩
  rw [List.length_append]
  exact h5
theorem far_own {w : World} {N : Nat} {e : TypeId} {size : Nat} {v : Value} {n : Nat} {xs : List Value} (h : w.ownsRow N e size v n xs) : FarV N v := fun b o n' c e' => by
  rcases h.2 with ⟨h2, _⟩ | ⟨g, cap, cur, h2, hB, _⟩
  · rw [e'] at h2; cases h2
  · rw [e'] at h2; cases h2; exact hB
theorem run_append_nil0 {P : Program} (t ty e : TypeId) (i : TypeInfo) (ht : P.underlying t = some (.slice e)) (hi : P.info? e = some i) (w : World) :
    (Builtin.append_ #[t, t] ty #[.slice none 0 0, .slice none 0 0]).run P w = .ok (.slice none 0 0) w := by
  simp [Builtin.append_, run_underlying ht, sizeOf, typeInfo, hi, Builtin.lenOf, Builtin.firstCells, storeCells]
/-- append of nothing. -/
theorem step_append_zero {ops : Array Oper} {o : Oper} {a : Act} {w : World} {K : Act → World → Prop} {Q : Exit → Act → World → Prop} {E : Prop} (hg : o.guard = none) (s x : Operand) (t e : TypeId) (i : TypeInfo) (ht : Tryd.prog.underlying t = some (.slice e)) (hi : Tryd.prog.info? e = some i)
    (ho : o.op = .call { callee := .builtin .append, args := #[s, x], argTypes := #[t, t] }) (A : Option Addr) (n cap : Nat) (hs : a.eval s = .slice A n cap) (hx : a.eval x = .slice none 0 0) (hA : (∃ g, A = some ⟨g, 0, none⟩ ∧ n ≤ cap) ∨ (A = none ∧ n = 0 ∧ cap = 0))
    (h : K (a.put o.dst (.slice A n cap)) w) : if Region.wanted o (yielded ops a.tmps) = true then Oper.wp Tryd.prog o a w K Q else E := by
  have hw : Region.wanted o (yielded ops a.tmps) = true := by simp [Region.wanted, hg]
  rw [if_pos hw]
  have hr : (Builtin.append_ #[t, t] o.type #[.slice A n cap, .slice none 0 0]).run Tryd.prog w = .ok (.slice A n cap) w := by
    rcases hA with ⟨g, rfl, hn⟩ | ⟨rfl, rfl, rfl⟩
    · exact run_append_none t o.type e i ht hi g n cap 0 hn w
    · exact run_append_nil0 t o.type e i ht hi w
  unfold Oper.wp execOp
  simp only [ho, resolve, invoke, builtin, Sem.run_bind, Sem.run_pure, Result.andThen_ok, List.map_toArray, List.map_cons, List.map_nil, hs, hx, hr]
  exact h
theorem step_open2 {ops : Array Oper} {o : Oper} {a : Act} {w W0 : World} {K : Act → World → Prop} {Q : Exit → Act → World → Prop} {E : Prop} (ts : List Int) (c b : Nat) (v : Value)
    (hg : o.guard = none) (s x : Operand) (ho : o.op = .call { callee := .builtin .append, args := #[s, x], argTypes := #[30, 30] })
    (hs : a.eval s = .slice (some ⟨b, 0, none⟩) 0 0) (hx : a.eval x = v) (hv : IntsC W0 v ts c) (hlen : ts.length ≤ 2000) (hE : Ext W0 w) (hb : w.heap[b]? = some (.cells #[] 3 (0, 0))) (hB : W0.heap.size ≤ b)
    (h : ∀ v' w', w'.ownsRow W0.heap.size 3 1 v' ts.length (ts.map (.int .i64)) → Ext W0 w' → (∀ k o, k ≠ b → w.heap[k]? = some o → w'.heap[k]? = some o) → w.heap.size ≤ w'.heap.size →
      (∀ k, v'.ownBlock = some k → k = b ∨ w.heap.size ≤ k) → K (a.put o.dst v') w') :
    if Region.wanted o (yielded ops a.tmps) = true then Oper.wp Tryd.prog o a w K Q else E := by
  have hw : Region.wanted o (yielded ops a.tmps) = true := by simp [Region.wanted, hg]
  rw [if_pos hw]
  obtain ⟨i3, hi3, hz3, hs3, hb3⟩ := info_parts int_info
  have hown : w.ownsRow W0.heap.size 3 1 (.slice (some ⟨b, 0, none⟩) 0 0) 0 [] := ⟨rfl, .inr ⟨b, 0, #[], rfl, hB, hb, Nat.le_refl _, by unfold maxLen; omega, rfl, rfl⟩⟩
  have hv := hv.ext hE
  obtain ⟨At, rfl, htc, htn, htm⟩ := hv
  have key : ∃ v' w', (Builtin.append_ #[30, 30] o.type #[.slice (some ⟨b, 0, none⟩) 0 0, .slice At ts.length c]).run Tryd.prog w = .ok v' w' ∧ w'.ownsRow W0.heap.size 3 1 v' ts.length (ts.map (.int .i64)) ∧ w.grownBy w' (some b) ∧ (∀ k, v'.ownBlock = some k → k = b ∨ w.heap.size ≤ k) := by
    cases At with
    | none =>
      have h0 : ts = [] := by
        cases hq : ts with
        | nil => rfl
        | cons u t =>
          obtain ⟨b', o', h, _⟩ := htc (by rw [hq]; simp)
          cases h
      subst h0
      refine ⟨_, w, run_append_none (P := Tryd.prog) 30 o.type 3 i3 Tryd.underlying30 hi3 b 0 0 c (Nat.le_refl 0) w, hown, ⟨rfl, rfl, rfl, Nat.le_refl _, fun _ _ _ => rfl⟩, fun k hk => .inl ?_⟩
      simp [Value.ownBlock] at hk
      exact hk.symm
    | some ad =>
      have hnews : ∀ j u, (ts.map (Value.int .i64))[j]? = some u → w.cell? (ad.add j) = some u := fun j u hj => by
        obtain ⟨b', o', h, _, hc⟩ := htc (by have := (List.getElem?_eq_some_iff.1 hj).1; omega)
        cases h
        rw [Addr.add_lit]
        exact hc j u hj
      obtain ⟨v', w', hr, h2, h3, h4⟩ := run_append_own2 (P := Tryd.prog) (w := w) W0.heap.size 30 o.type 3 i3 (.int .i64 0) 1 8 Tryd.underlying30 hi3 hz3 hs3 hb3 rfl (by decide) (.slice (some ⟨b, 0, none⟩) 0 0) 0 [] hown ad ts.length c (ts.map (.int .i64)) (by simp) hnews
        (fun u hu => by obtain ⟨z, _, rfl⟩ := List.mem_map.1 hu; rfl) (by unfold maxLen; omega) (by omega) (Nat.le_trans hB (Nat.le_of_lt (lt_of_block hb)))
      rw [Nat.zero_add, List.nil_append] at h2
      refine ⟨v', w', hr, h2, h3, fun k hk => ?_⟩
      rcases h4 k hk with h | h
      · left; simp [Value.ownBlock] at h; exact h.symm
      · exact .inr h
  obtain ⟨v', w', hr, h2, h3, h4⟩ := key
  unfold Oper.wp execOp
  simp only [ho, resolve, invoke, builtin, Sem.run_bind, Sem.run_pure, Result.andThen_ok, List.map_toArray, List.map_cons, List.map_nil, hs, hx, hr]
  exact h v' w' h2 (Below.grown hE h3 hE.size (fun k hk => by injection hk with hk; omega)) (fun k o hk hko => mem_keep h3 (fun e => hk (by injection e)) hko) h3.size h4
/-- As step_more; where the list lies. -/
theorem step_more2 {ops : Array Oper} {o : Oper} {a : Act} {w W0 : World} {K : Act → World → Prop} {Q : Exit → Act → World → Prop} {E : Prop} (ts qs : List Int) (b : Nat) (v : Value)
    (hg : o.guard = none) (s x : Operand) (ho : o.op = .call { callee := .builtin .append, args := #[s, x], argTypes := #[30, 30] })
    (hs : a.eval s = v) (hown : w.ownsRow W0.heap.size 3 1 v ts.length (ts.map (.int .i64))) (hx : a.eval x = .slice (some ⟨b, 0, none⟩) qs.length qs.length) (hb : w.heap[b]? = some (.cells (qs.map (.int .i64)).toArray 3 (0, 0)))
    (hlen : ts.length + qs.length ≤ 3000) (hE : Ext W0 w) (h : ∀ v' w' c', IntsC w' v' (ts ++ qs) c' → FarV W0.heap.size v' → Ext W0 w' → K (a.put o.dst v') w') :
    if Region.wanted o (yielded ops a.tmps) = true then Oper.wp Tryd.prog o a w K Q else E := by
  obtain ⟨i3, hi3, hz3, hs3, hb3⟩ := info_parts int_info
  refine step_append_own2 hg s x 30 ho W0.heap.size 3 i3 (.int .i64 0) 1 8 Tryd.underlying30 hi3 hz3 hs3 hb3 rfl (by decide) v ts.length (ts.map (.int .i64)) hs hown ⟨b, 0, none⟩ qs.length qs.length (qs.map (.int .i64)) hx (by simp) (fun j u hj => ?_)
    (fun u hu => by obtain ⟨z, _, rfl⟩ := List.mem_map.1 hu; rfl) (by unfold maxLen; omega) (by omega) hE.size (fun v' w' hown' hg' hb' => ?_)
  · rw [Addr.add_lit, Nat.zero_add]
    exact cell_of_blk hb j (by simpa using hj)
  · obtain ⟨c', hi⟩ := ints_of_owns (xs := ts ++ qs) (w := w') (base := W0.heap.size) (e := 3) (v := v') (by rw [List.length_append, List.map_append]; exact hown') (by rw [List.length_append]; unfold lenMax; omega)
    refine h v' w' c' hi (far_own hown') (Below.grown hE hg' hE.size (fun k hk => ?_))
    exact (hown.lt k hk).1
def RunsP (W : World) (tv : Value) (R : List (List Int)) (e : Ending) (w' : World) : Prop := ∃ (A : Option Addr) (c : Nat) (vs : List Value), e = .returned (.slice A R.length c) ∧ Cells w' A vs ∧ LstOk vs R w' ∧ (∀ u ∈ vs, u = tv ∨ FarV W.heap.size u) ∧ R.length ≤ c ∧ (R = [] → A = none ∧ c = 0) ∧ Ext W w'
def RunsS (x : Lts) (L : List Nd) (n : Nat) : Prop := ∀ (W : World) (v nv sv tv : Value) (k S cn cs ct : Nat) (u : List Int), LtsV W v x → NodesC W nv L cn → S < 2 ^ x.n → IntsC W sv (memI S) cs → IntsC W tv u ct → k < L.length → L.length ≤ n + k → u.length + n ≤ 2000 → (runsL x L n k S u).length ≤ 1000 →
  Calls Tryd.prog 55 #[v, nv, .int .i64 (k : Int), sv, tv] W (RunsP W tv (runsL x L n k S u))
def runI (x : Lts) (L : List Nd) (n k S : Nat) (u : List Int) (i : Nat) : List (List Int) := (List.range i).flatMap (subR x L (runsL x L n) k S u)
theorem runI_step (x : Lts) (L : List Nd) (n k S : Nat) (u : List Int) (i : Nat) : runI x L n k S u (i + 1) = runI x L n k S u i ++ subR x L (runsL x L n) k S u i := by
  unfold runI
  rw [List.range_succ, List.flatMap_append]; simp
theorem runI_le (x : Lts) (L : List Nd) (n k S : Nat) (u : List Int) : ∀ (d i : Nat), (runI x L n k S u i).length ≤ (runI x L n k S u (i + d)).length
  | 0, i => Nat.le_refl _
  | d + 1, i => by
    have h := runI_le x L n k S u d i
    rw [show i + (d + 1) = (i + d) + 1 by omega, runI_step, List.length_append]
    omega
theorem one_vals {vs : List Value} {R : List (List Int)} {W : World} (h : LstOk vs R W) : ∀ u ∈ vs, u.oneCell' = true := fun u hu => by
  obtain ⟨i, hi⟩ := List.getElem?_of_mem hu
  obtain ⟨r, hr⟩ : ∃ r, R[i]? = some r := ⟨_, List.getElem?_eq_getElem (by rw [← h.1]; exact (List.getElem?_eq_some_iff.1 hi).1)⟩
  obtain ⟨c, A, hv, _⟩ := h.2 i u r hi hr
  rw [hv]; rfl
theorem lab_in {x : Lts} {L : List Nd} (hR : RightT x.ins x.outs L) (hx : Good x) {k i : Nat} {nd : Nd} (hk : L[k]? = some nd) (hi : i < nd.next.length) : 0 ≤ labV x nd i ∧ labV x nd i ≤ x.ins + x.outs := by
  have hm := hR.many k nd hk
  have h1 := hx.ins
  have h2 := hx.outs
  unfold manyOk at hm
  unfold labV
  by_cases ha : nd.act = -1
  · rw [if_pos ha] at hm ⊢
    have := of_decide_eq_true hm
    omega
  · rw [if_neg ha] at hm ⊢
    by_cases hb : 0 ≤ nd.act ∧ nd.act < x.ins
    · omega
    · rw [if_neg hb] at hm
      by_cases hc : nd.act = -2 ∨ nd.act = -3
      · rw [if_pos hc] at hm
        have := of_decide_eq_true hm
        omega
      · rw [if_neg hc] at hm; cases hm
set_option maxRecDepth 100000 in
set_option maxHeartbeats 16000000 in
theorem runs_step (x : Lts) (L : List Nd) (hg : Good x) (hR : RightT x.ins x.outs L) (hL : L.length ≤ 1024) (n : Nat) (IH : RunsS x L n) : RunsS x L (n + 1) := by
  intro W v nv sv tv k S cn cs ct u hd hN hS hsv htv hk hkn hul hlen
  obtain ⟨i30, hi30, hz30, hs30, hb30⟩ := info_parts ints_info
  obtain ⟨A, c, rfl, hr, hrl⟩ := id hd.form
  obtain ⟨As, rfl, _, _, _⟩ := id hsv
  obtain ⟨At, rfl, _, _, htm⟩ := id htv
  unfold lenMax at htm
  obtain ⟨nd, hnd⟩ : ∃ nd, L[k]? = some nd := ⟨_, List.getElem?_eq_getElem hk⟩
  obtain ⟨b, of, uv, cu, hnv, d0, d1, hu⟩ := hN.at_ hnd
  subst hnv
  obtain ⟨Au, rfl, huc, _, hum⟩ := id hu
  unfold lenMax at hum
  have hkI : (k : Int) < (L.length : Int) := by omega
  have b1' := hg.ins
  have b2' := hg.outs
  go_enter Tryd.func55, Tryd.ntmps55
  go_upto_region 1 with fail
  refine wp_named ?_
  intro W1 hW1
  obtain ⟨hE1, k0, k1, k2⟩ := lts_box (x := x) (A := A) (c := c) hW1
  clear hW1
  generalize W.heap.size = b1 at *
  have hE0 := Ext.refl W1
  have d0 := fun w' (h : Ext W1 w') => (hE1.trans h).cell d0
  have d1 := fun w' (h : Ext W1 w') => (hE1.trans h).cell d1
  have hnr := hR.many k nd hnd
  have HX := Lib.hid (And.intro hE1 (And.intro hg (And.intro (hd.ext hE1) (And.intro (hN.ext hE1) (And.intro hS (And.intro (hsv.ext hE1) (And.intro (htv.ext hE1) (And.intro IH (And.intro hnd (And.intro hR (huc.ext hE1)))))))))))
  have HH := Lib.hid (And.intro hkn (And.intro hul hlen))
  have HK := Lib.hid (And.intro k0 (And.intro k1 (And.intro k2 (And.intro d0 d1))))
  have hact : Hid (ndAt L k = nd) := Lib.hid (ndAt_get hnd)
  clear hd hN hS hsv htv hE1 hg IH hnd hR hr hrl hu huc hkn hul hlen hnr
  by_cases hf : nd.act = -3
  · have g1 : (nd.act == -3) = true := by simp [hf]
    have HF := Lib.hid (runsL_fail (x := x) (L := L) (n := n) (k := k) (S := S) (u := u) (by rw [hact.out]; exact hf))
    clear hf k0 k1 k2 d1
    go_wp2
    go_ret
    rw [HF.out]
    refine ⟨some ⟨W1.heap.size, 0, none⟩, 1, [.slice At u.length ct], rfl, cells_blk (cs := #[.slice At u.length ct]) (heap_alloc_new W1 _), ⟨rfl, fun i y r hy hr => ?_⟩, fun y hy => .inl (List.mem_singleton.1 hy), by simp, fun h => by simp at h, HX.out.1.trans (alloc_ext W1 _)⟩
    cases i with
    | zero =>
      simp at hy hr
      subst hy hr
      exact ⟨ct, HX.out.2.2.2.2.2.2.1.ext (alloc_ext W1 _)⟩
    | succ i => simp at hy
  have g1 : (nd.act == -3) = false := by simp [hf]
  have HG : Hid (runsL x L (n + 1) k S u = runI x L n k S u nd.next.length) := Lib.hid (by rw [runsL_go (by rw [hact.out]; exact hf), hact.out]; rfl)
  have hfar0 : ∀ z ∈ ([] : List Value), FarV W1.heap.size z := fun z hz => by cases hz
  clear hf
  go_wp2
  clear k0 k1 k2 d0 d1 hE0
  go_loopw [11, 12] (fun ov iv wr => ∃ (i : Nat) (vs : List Value), iv = .int .i64 i ∧ i ≤ nd.next.length ∧ Hid ((∀ z ∈ vs, FarV W1.heap.size z) ∧ (vs = [] → ov = .slice none 0 0)) ∧ Hid (RunSt W1 wr ov vs (runI x L n k S u i))) (fun _ iv _ => nd.next.length - (intOf iv).toNat)
  case atStart => exact ⟨0, [], rfl, by omega, Lib.hid ⟨hfar0, fun _ => rfl⟩, Lib.hid (by first | exact RunSt.start W1 | exact (RunSt.start W1).trans (drew_ext _))⟩
  case round =>
    clear hfar0
    obtain ⟨i, vs, rfl, hi, HV, HS⟩ := hrel
    obtain ⟨W5, hW5⟩ : ∃ W, W = wr := ⟨_, rfl⟩; subst hW5
    have hE5 := HS.out.ext
    have k0 := fun w' (h : Ext W5 w') => HK.out.1 w' (hE5.trans h)
    have k1 := fun w' (h : Ext W5 w') => HK.out.2.1 w' (hE5.trans h)
    have k2 := fun w' (h : Ext W5 w') => HK.out.2.2.1 w' (hE5.trans h)
    have d0 := fun w' (h : Ext W5 w') => HK.out.2.2.2.1 w' (hE5.trans h)
    have d1 := fun w' (h : Ext W5 w') => HK.out.2.2.2.2 w' (hE5.trans h)
    have hR5 := Ext.refl W5
    obtain ⟨hrow, hls⟩ := HS.out.row
    obtain ⟨A5, c5, rfl, hnc5, hc5⟩ := cells_of_owns hrow
    have HVL := Lib.hid hls.1
    have hsz := hE5.size
    by_cases hlt : i < nd.next.length
    · obtain ⟨l, hlab⟩ : ∃ l, l = labV x nd i := ⟨_, rfl⟩
      have hlr := lab_in HX.out.2.2.2.2.2.2.2.2.2.1 HX.out.2.1 HX.out.2.2.2.2.2.2.2.2.1 hlt
      rw [← hlab] at hlr
      have HLB := Lib.hid hlab
      obtain ⟨k', hk'⟩ : ∃ k', k' = (nd.next.getD i 0).toNat := ⟨_, rfl⟩
      have hnx := next_at HX.out.2.2.2.2.2.2.2.2.2.1 (k := k) (j := i) (by rw [hact.out]; exact hlt)
      rw [hact.out, ← hk'] at hnx
      obtain ⟨y, hy⟩ : ∃ y, nd.next[i]? = some y := ⟨_, List.getElem?_eq_getElem hlt⟩
      have hyk : y = (k' : Int) := by
        have h1 := HX.out.2.2.2.2.2.2.2.2.2.1.next k nd HX.out.2.2.2.2.2.2.2.2.1 y (List.mem_of_getElem? hy)
        rw [hk', List.getD_eq_getElem?_getD, hy]
        show y = ((y.toNat : Nat) : Int)
        omega
      subst hyk
      obtain ⟨by_, oy, hAu, c9'⟩ := int_at (HX.out.2.2.2.2.2.2.2.2.2.2.ext hE5) hy
      subst hAu
      have c9' := fun w' (h : Ext W5 w') => h.cell c9'
      have HSB : Hid (subR x L (runsL x L n) k S u i = if aftM x S l = 0 then [] else runsL x L n k' (aftM x S l) (u ++ [l])) := Lib.hid (by unfold subR; rw [hact.out, ← hlab, ← hk'])
      have HST := Lib.hid (runI_step x L n k S u i)
      have HNX := Lib.hid hnx
      have hq := runI_le x L n k S u (nd.next.length - (i + 1)) (i + 1)
      rw [show i + 1 + (nd.next.length - (i + 1)) = nd.next.length by omega, ← HG.out, HST.out, List.length_append] at hq
      have hrl := HH.out.2.2
      have HRL := Lib.hid (And.intro hq hrl)
      have hRl : (runI x L n k S u i).length ≤ 1000 := by omega
      have hnxt := fun W' (e : Ext W1 W') => refNext_any W' _ _ x S cs l (HX.out.2.2.1.ext e) HX.out.2.1 HX.out.2.2.2.2.1 (HX.out.2.2.2.2.2.1.ext e) hlr.1 hlr.2
      have hwl : IntKind.i64.wrap (x.ins + (i : Int)) = x.ins + (i : Int) ∨ nd.act ≠ -1 := by
        by_cases ha : nd.act = -1
        · left
          have : l = x.ins + (i : Int) := by rw [hlab]; unfold labV; rw [if_pos ha]
          rw [IntKind.wrap_i64]; omega
        · exact .inr ha
      have HWL := Lib.hid hwl
      clear hlab hnx hy hq hrl hwl hk' hE5 hls hc5
      go_upto_region 999 with (with_reducible refine stop_at2 8 ?_)
      refine ⟨?_⟩
      apply wp_seq_k
      intro _ _
      go_cut [13] from 38 to 43 (fun lv wx => lv = .int .i64 l ∧ Ext W5 wx)
      case first =>
        by_cases ha : nd.act = -1
        · have g2 : (nd.act == -1) = true := by simp [ha]
          have hwi := HWL.out.resolve_right (fun h => h ha)
          have HLL : Hid (x.ins + (i : Int) = l) := Lib.hid (by rw [HLB.out]; unfold labV; rw [if_pos ha])
          clear ha
          go_wp2
          go_meet
          exact ⟨congrArg (Value.int .i64) HLL.out, by first | exact Ext.refl _ | exact (Ext.refl _).drew⟩
        · have g2 : (nd.act == -1) = false := by simp [ha]
          have HLL : Hid (nd.act = l) := Lib.hid (by rw [HLB.out]; unfold labV; rw [if_neg ha])
          clear ha
          go_wp2
          go_meet
          exact ⟨congrArg (Value.int .i64) HLL.out, by first | exact Ext.refl _ | exact (Ext.refl _).drew⟩
      case rest =>
        obtain ⟨rfl, e6⟩ := hcut
        obtain ⟨W6, hW6⟩ : ∃ W, W = wc := ⟨_, rfl⟩; subst hW6
        have HE6 := Lib.hid e6
        have k0 := fun w' (h : Ext W6 w') => k0 w' (e6.trans h)
        have k1 := fun w' (h : Ext W6 w') => k1 w' (e6.trans h)
        have k2 := fun w' (h : Ext W6 w') => k2 w' (e6.trans h)
        have hR6 := Ext.refl W6
        have hnx6 := hnxt W6 (HS.out.ext.trans e6)
        obtain ⟨T, hT⟩ : ∃ T, aftM x S l = T := ⟨_, rfl⟩
        rw [hT] at hnx6
        have hTl : T < 2 ^ x.n := by rw [← hT]; exact aftM_lt HX.out.2.1 HX.out.2.2.2.2.1 _
        have hz := memI_zero T (HX.out.2.1.mask64 hTl)
        have HT := Lib.hid (And.intro hT hTl)
        clear e6 hR5 hnxt hT hTl
        by_cases h0 : T = 0
        · have g0 : (((memI T).length : Int) == 0) = true := by rw [hz, h0]; rfl
          have g3 : ¬ (0 : Int) < ((memI T).length : Int) := by have := beq_iff_eq.1 g0; omega
          have hml : (memI T).length = 0 := by have := beq_iff_eq.1 g0; omega
          have H0 : Hid (runI x L n k S u (i + 1) = runI x L n k S u i) := Lib.hid (by rw [HST.out, HSB.out, if_pos (HT.out.1.trans h0), List.append_nil])
          clear hz h0 g0
          go_wp2_with ((with_reducible refine hnx6.mono ?_); rintro e W8 ⟨rv2, c2, rfl, ⟨A2, rfl, hi2⟩, e8⟩; have H8 := Lib.hid (HE6.out.trans e8); clear hi2 e8)
          go_roundw
          case rel => exact ⟨i + 1, vs, by go_num, hlt, HV, Lib.hid (by rw [H0.out]; exact HS.out.trans (by first | exact H8.out | exact H8.out.drew))⟩
          case measure => simp [intOf]; omega
        · have g0 : (((memI T).length : Int) == 0) = false := by rw [hz]; simpa using h0
          have g3 : (0 : Int) < ((memI T).length : Int) := by have := beq_eq_false_iff_ne.1 g0; omega
          have hml : 0 < (memI T).length := by omega
          have H0 : Hid (runI x L n k S u (i + 1) = runI x L n k S u i ++ runsL x L n k' T (u ++ [l])) := Lib.hid (by rw [HST.out, HSB.out, if_neg (by rw [HT.out.1]; exact h0), HT.out.1])
          have hsl : (subR x L (runsL x L n) k S u i) = runsL x L n k' T (u ++ [l]) := by rw [HSB.out, if_neg (by rw [HT.out.1]; exact h0), HT.out.1]
          have hrn : (runsL x L n k' T (u ++ [l])).length ≤ 1000 := by have h1 := HRL.out.1; have h2 := HRL.out.2; rw [hsl] at h1; omega
          have hrn2 : (runI x L n k S u i).length + (runsL x L n k' T (u ++ [l])).length ≤ 1000 := by have h1 := HRL.out.1; have h2 := HRL.out.2; rw [hsl] at h1; omega
          clear hz h0 g0 hsl
          go_upto_region 12 with ((with_reducible refine hnx6.mono ?_); rintro e W8 ⟨rv2, c2, rfl, ⟨A2, rfl, hi2⟩, e8⟩; have hi8 : IntsC W8 (.slice A2 (memI T).length c2) (memI T) c2 := ⟨A2, rfl, hi2⟩; have H8 := Lib.hid (And.intro hi8 (HE6.out.trans e8)); have E8 := Lib.hid e8; clear hi2 e8 hi8)
          have hS8 := HS.out.trans H8.out.2
          have hE18 := hS8.ext
          have k0 := fun w' (h : Ext W8 w') => k0 w' (E8.out.trans h)
          have k1 := fun w' (h : Ext W8 w') => k1 w' (E8.out.trans h)
          have k2 := fun w' (h : Ext W8 w') => k2 w' (E8.out.trans h)
          have d1 := fun w' (h : Ext W8 w') => d1 w' (H8.out.2.trans h)
          have c9' := fun w' (h : Ext W8 w') => c9' w' (H8.out.2.trans h)
          have HTV := Lib.hid (HX.out.2.2.2.2.2.2.1.ext hE18)
          have hul := HH.out.2.1
          have hih : ∀ (W' : World) (tv' : Value) (ct' : Nat), Ext W8 W' → IntsC W' tv' (u ++ [l]) ct' → Calls Tryd.prog 55 #[.agg #[.int .i64 x.ins, .int .i64 x.outs, .slice A x.rows.length c], .slice (some ⟨b, of, none⟩) L.length cn, .int .i64 (k' : Int), .slice A2 (memI T).length c2, tv'] W' (RunsP W' tv' (runsL x L n k' T (u ++ [l]))) := fun W' tv' ct' e hi =>
            HX.out.2.2.2.2.2.2.2.1 W' _ _ _ _ k' T cn c2 ct' (u ++ [l]) (HX.out.2.2.1.ext (hE18.trans e)) (HX.out.2.2.2.1.ext (hE18.trans e)) HT.out.2 (H8.out.1.ext e) hi HNX.out.2.1 (by have := HNX.out.1; have := HH.out.1; omega) (by rw [List.length_append, List.length_singleton]; omega) hrn
          have hn1 : ((W8.drew.alloc (.cells #[] 3)).alloc (.cells #[.int .i64 l] 3)).heap[W8.heap.size + 1]? = some (.cells #[.int .i64 l] 3) := by have := heap_alloc_new (W8.drew.alloc (.cells #[] 3)) (.cells #[.int .i64 l] 3); simpa using this
          have hn2 : ((W8.drew.alloc (.cells #[.int .i64 l] 3)).alloc (.cells #[] 3)).heap[W8.heap.size]? = some (.cells #[.int .i64 l] 3) := heap_ext (alloc_ext _ _) (heap_alloc_new W8.drew _)
          have hn3 : ((W8.drew.alloc (.cells #[.int .i64 l] 3)).alloc (.cells #[] 3)).heap[W8.heap.size + 1]? = some (.cells #[] 3) := by have := heap_alloc_new (W8.drew.alloc (.cells #[.int .i64 l] 3)) (.cells #[] 3); simpa using this
          have hn4 : ((W8.drew.alloc (.cells #[] 3)).alloc (.cells #[.int .i64 l] 3)).heap[W8.heap.size]? = some (.cells #[] 3) := heap_ext (alloc_ext _ _) (heap_alloc_new W8.drew _)
          have hR8 := Ext.refl W8
          have HS8 := Lib.hid (And.intro hS8 hE18)
          clear hS8 hE18 hR6 hrow hnx6 d0
          by_cases hnil : runsL x L n k' T (u ++ [l]) = []
          · have hAA : (∃ g, A5 = some ⟨g, 0, none⟩ ∧ vs.length ≤ c5) ∨ (A5 = none ∧ vs.length = 0 ∧ c5 = 0) := by
              rcases Nat.eq_zero_or_pos vs.length with h | h
              · right
                have := HV.out.2 (List.length_eq_zero_iff.1 h)
                injection this with h1 h2 h3
                exact ⟨h1, h2, h3⟩
              · obtain ⟨g, cap, hg⟩ := ownsRow_pos HS.out.row.1 h
                injection hg with hg1 _ _
                exact .inl ⟨g, hg1, hnc5⟩
            have HNIL := Lib.hid hnil
            rw [hnil] at hih
            clear hnil
            go_region_held3 (fun w' => Ext W8 w') ((repeat (first | assumption | exact Ext.refl _ | refine Ext.drew ?_ | refine Ext.alloc ?_ _))) (first
              | (refine step_open2 (W0 := W8) u ct _ (.slice At u.length ct) rfl _ _ rfl (by rfl) (by rfl) HTV.out (by omega) (by repeat (first | assumption | exact Ext.refl _ | refine Ext.drew ?_ | refine Ext.alloc ?_ _)) (by first | exact heap_alloc_new _ _ | exact hn3 | exact hn4) (by simp) ?_; intro vA wA hrA eA hpA hsA hkA)
              | (refine step_more2 (W0 := W8) u [l] _ vA rfl _ _ rfl (by rfl) (by first | exact hrA | exact World.ownsRow.alloc hrA _) (by rfl) (by first | exact heap_alloc_new _ _ | exact hpA _ _ (by simp) hn1 | exact hpA _ _ (by simp) hn2) (by simp; omega) (by repeat (first | assumption | exact Ext.refl _ | refine Ext.drew ?_ | refine Ext.alloc ?_ _)) ?_; intro vB wB cB hiB hfB eB)
              | ((with_reducible refine (hih wB vB cB eB hiB).mono ?_); rintro e wC ⟨AC, cC, vsC, rfl, hcC, hlC, hfC, hleC, hnC, eC⟩; obtain ⟨rfl, rfl⟩ := hnC rfl; have eC' := eB.trans eC)
              | (refine step_append_zero rfl _ _ 86 30 i30 Tryd.underlying86 hi30 rfl A5 vs.length c5 (by rfl) (by rfl) hAA ?_))
            all_goals go_wp2
            all_goals go_roundw
            all_goals first
              | exact ⟨i + 1, vs, by go_num, hlt, HV, Lib.hid (by rw [H0.out, HNIL.out, List.append_nil]; exact HS8.out.1.trans (by first | exact eC' | exact eC'.drew))⟩
              | (simp [intOf]; omega)
          · have hps : 0 < (runsL x L n k' T (u ++ [l])).length := List.length_pos_iff.2 hnil
            have HPS : Hid (0 < (runsL x L n k' T (u ++ [l])).length ∧ vs.length + (runsL x L n k' T (u ++ [l])).length ≤ 1000) := Lib.hid ⟨hps, by rw [HVL.out]; exact hrn2⟩
            clear hnil hps hrn2
            have hS0 : Ext W8 W8.drew := hR8.drew
            refine wp_region_bar 19 (fun w' => Ext W8 w') (by kernel_rfl) ?_
            refine wpAnyB_take (i := 0) (v := ?_) rfl (by kernel_rfl) (by kernel_rfl) (by kernel_rfl) (by kernel_rfl) (fun _ _ _ h => h) (Or.inl ⟨by rfl, ?_⟩) hS0 ?_
            rotate_left
            · (intro w hSw; go_simp; first | done | with_reducible rfl)
            try simp only [Act.put, List.setIfInBounds_toArray, List.set_cons_zero, List.set_cons_succ]
            refine wpAnyB_take (i := 1) (v := ?_) rfl (by kernel_rfl) (by kernel_rfl) (by kernel_rfl) (by kernel_rfl) (fun _ _ _ h => h) (Or.inl ⟨by rfl, ?_⟩) hS0 ?_
            rotate_left
            · (intro w hSw; go_simp; first | done | with_reducible rfl)
            try simp only [Act.put, List.setIfInBounds_toArray, List.set_cons_zero, List.set_cons_succ]
            refine wpAnyB_take (i := 2) (v := ?_) rfl (by kernel_rfl) (by kernel_rfl) (by kernel_rfl) (by kernel_rfl) (fun _ _ _ h => h) (Or.inl ⟨by rfl, ?_⟩) hS0 ?_
            rotate_left
            · (intro w hSw; go_simp; first | done | with_reducible rfl)
            try simp only [Act.put, List.setIfInBounds_toArray, List.set_cons_zero, List.set_cons_succ]
            refine wpAnyB_take (i := 3) (v := ?_) rfl (by kernel_rfl) (by kernel_rfl) (by kernel_rfl) (by kernel_rfl) (fun _ _ _ h => h) (Or.inl ⟨by rfl, ?_⟩) hS0 ?_
            rotate_left
            · (intro w hSw; go_simp; first | done | with_reducible rfl)
            try simp only [Act.put, List.setIfInBounds_toArray, List.set_cons_zero, List.set_cons_succ]
            refine wpAnyB_take (i := 4) (v := ?_) rfl (by kernel_rfl) (by kernel_rfl) (by kernel_rfl) (by kernel_rfl) (fun _ _ _ h => h) (Or.inl ⟨by rfl, ?_⟩) hS0 ?_
            rotate_left
            · (intro w hSw; go_simp; first | done | with_reducible rfl)
            try simp only [Act.put, List.setIfInBounds_toArray, List.set_cons_zero, List.set_cons_succ]
            refine wpAnyB_take (i := 5) (v := ?_) rfl (by kernel_rfl) (by kernel_rfl) (by kernel_rfl) (by kernel_rfl) (fun _ _ _ h => h) (Or.inl ⟨by rfl, ?_⟩) hS0 ?_
            rotate_left
            · (intro w hSw; go_simp; first | done | with_reducible rfl)
            try simp only [Act.put, List.setIfInBounds_toArray, List.set_cons_zero, List.set_cons_succ]
            refine wpAnyB_take (i := 6) (v := ?_) rfl (by kernel_rfl) (by kernel_rfl) (by kernel_rfl) (by kernel_rfl) (fun _ _ _ h => h) (Or.inl ⟨by rfl, ?_⟩) hS0 ?_
            rotate_left
            · (intro w hSw; go_simp; first | done | with_reducible rfl)
            try simp only [Act.put, List.setIfInBounds_toArray, List.set_cons_zero, List.set_cons_succ]
            refine wpAnyB_take (i := 7) (v := ?_) rfl (by kernel_rfl) (by kernel_rfl) (by kernel_rfl) (by kernel_rfl) (fun _ _ _ h => h) (Or.inl ⟨by rfl, ?_⟩) hS0 ?_
            rotate_left
            · (intro w hSw; go_simp; first | done | with_reducible rfl)
            try simp only [Act.put, List.setIfInBounds_toArray, List.set_cons_zero, List.set_cons_succ]
            refine wpAnyB_take (i := 8) (v := ?_) rfl (by kernel_rfl) (by kernel_rfl) (by kernel_rfl) (by kernel_rfl) (fun _ _ _ h => h) (Or.inl ⟨by rfl, ?_⟩) hS0 ?_
            rotate_left
            · (intro w hSw; go_simp; first | done | with_reducible rfl)
            try simp only [Act.put, List.setIfInBounds_toArray, List.set_cons_zero, List.set_cons_succ]
            refine wpAnyB_take (i := 9) (v := ?_) rfl (by kernel_rfl) (by kernel_rfl) (by kernel_rfl) (by kernel_rfl) (fun _ _ _ h => h) (Or.inl ⟨by rfl, ?_⟩) hS0 ?_
            rotate_left
            · (intro w hSw; go_simp; first | done | with_reducible rfl)
            try simp only [Act.put, List.setIfInBounds_toArray, List.set_cons_zero, List.set_cons_succ]
            refine wpAnyB_take (i := 10) (v := ?_) rfl (by kernel_rfl) (by kernel_rfl) (by kernel_rfl) (by kernel_rfl) (fun _ _ _ h => h) (Or.inl ⟨by rfl, ?_⟩) hS0 ?_
            rotate_left
            · (intro w hSw; go_simp; first | done | with_reducible rfl)
            try simp only [Act.put, List.setIfInBounds_toArray, List.set_cons_zero, List.set_cons_succ]
            refine wpAnyB_take (i := 11) (v := ?_) rfl (by kernel_rfl) (by kernel_rfl) (by kernel_rfl) (by kernel_rfl) (fun _ _ _ h => h) (Or.inl ⟨by rfl, ?_⟩) hS0 ?_
            rotate_left
            · (intro w hSw; go_simp; first | done | with_reducible rfl)
            try simp only [Act.put, List.setIfInBounds_toArray, List.set_cons_zero, List.set_cons_succ]
            refine wpAnyB_take (i := 13) (v := ?_) rfl (by kernel_rfl) (by kernel_rfl) (by kernel_rfl) (by kernel_rfl) (fun _ _ _ h => h) (Or.inl ⟨by rfl, ?_⟩) hS0 ?_
            rotate_left
            · (intro w hSw; go_simp; first | done | with_reducible rfl)
            try simp only [Act.put, List.setIfInBounds_toArray, List.set_cons_zero, List.set_cons_succ]
            refine wpAnyB_take (i := 15) (v := ?_) rfl (by kernel_rfl) (by kernel_rfl) (by kernel_rfl) (by kernel_rfl) (fun _ _ _ h => h) (Or.inl ⟨by rfl, ?_⟩) hS0 ?_
            rotate_left
            · (intro w hSw; go_simp; first | done | with_reducible rfl)
            try simp only [Act.put, List.setIfInBounds_toArray, List.set_cons_zero, List.set_cons_succ]
            refine wpAnyB_ready (rs := [12, 16]) (by kernel_rfl) (by simp) (AllB.cons rfl (fun K hK => ?_) (AllB.cons rfl (fun K hK => ?_) AllB.nil))
            · skip
              go_simp
              have hS1 : Ext W8 (W8.drew.alloc (.cells #[] 3)) := hS0.alloc _
              refine hK.out _ _ hS1 ?_
              clear hK K
              try simp only [Act.put, List.setIfInBounds_toArray, List.set_cons_zero, List.set_cons_succ]
              refine wpAnyB_ready (rs := [14, 16]) (by kernel_rfl) (by simp) (AllB.cons rfl (fun K hK => ?_) (AllB.cons rfl (fun K hK => ?_) AllB.nil))
              · skip
                refine step_open2 (W0 := W8) u ct _ (.slice At u.length ct) rfl _ _ rfl (by rfl) (by rfl) HTV.out (by omega) hS1 (heap_alloc_new _ _) (by simp) ?_
                intro vA wA hrA eA hpA hsA hkA
                refine hK.out _ _ eA ?_
                clear hK K
                try simp only [Act.put, List.setIfInBounds_toArray, List.set_cons_zero, List.set_cons_succ]
                refine wpAnyB_ready (rs := [16]) (by kernel_rfl) (by simp) (AllB.cons rfl (fun K hK => ?_) AllB.nil)
                go_simp
                have hS2 : Ext W8 (wA.alloc (.cells #[.int .i64 l] 3)) := eA.alloc _
                refine hK.out _ _ hS2 ?_
                clear hK K
                try simp only [Act.put, List.setIfInBounds_toArray, List.set_cons_zero, List.set_cons_succ]
                refine wpAnyB_ready (rs := [17]) (by kernel_rfl) (by simp) (AllB.cons rfl (fun K hK => ?_) AllB.nil)
                refine step_more2 (W0 := W8) u [l] _ vA rfl _ _ rfl (by rfl) (World.ownsRow.alloc hrA _) (by rfl) (heap_alloc_new _ _) (by simp; omega) hS2 ?_
                intro vB wB cB hiB hfB eB
                refine hK.out _ _ eB ?_
                clear hK K
                try simp only [Act.put, List.setIfInBounds_toArray, List.set_cons_zero, List.set_cons_succ]
                refine wpAnyB_ready (rs := [18]) (by kernel_rfl) (by simp) (AllB.cons rfl (fun K hK => ?_) AllB.nil)
                have hcl := hih wB vB cB eB hiB
                go_simp
                refine hcl.mono ?_
                rintro e wC ⟨AC, cC, vsC, rfl, hcC, hlC, hfC, hleC, hnC, eC⟩
                have eC' := eB.trans eC
                refine hK.out _ _ eC' ?_
                clear hK K
                try simp only [Act.put, List.setIfInBounds_toArray, List.set_cons_zero, List.set_cons_succ]
                refine wpAnyB_tail rfl rfl (by decide) (by kernel_rfl) ?_
                have hrunC := HS8.out.1.trans eC'
                obtain ⟨bC, oC, hAC, hbC, hceC⟩ := hcC (by rw [hlC.1]; exact HPS.out.1)
                subst hAC
                have hlenC := hlC.1
                refine wpList_append_own2 rfl _ _ 86 rfl W1.heap.size 30 i30 (.slice none 0 0) 1 24 Tryd.underlying86 hi30 hz30 hs30 hb30 rfl (by decide) (.slice A5 vs.length c5) vs.length vs (by rfl) hrunC.row.1 ⟨bC, oC, none⟩ (runsL x L n k' T (u ++ [l])).length cC vsC (by rfl) (by omega) (fun j y hj => by rw [Addr.add_lit]; exact hceC j y hj) (one_vals hlC) (by unfold maxLen; have := HPS.out.2; omega) (by have := HPS.out.2; omega) hrunC.ext.size ?_
                intro v9 w9 hown9 hg9 hb9
                rw [← hlenC] at hown9
                have hR9 := HS8.out.1.more eC' hlC (fun y hy b o n' c' e' => by
                  rcases hfC y hy with h | h
                  · exact hfB b o n' c' (h ▸ e')
                  · exact Nat.le_trans eB.size (h b o n' c' e')) hg9 hown9 hb9
                obtain ⟨g9, c9, rfl⟩ := ownsRow_pos hown9 (by have := HPS.out.1; omega)
                have HV9 : Hid ((∀ z ∈ vs ++ vsC, FarV W1.heap.size z) ∧ (vs ++ vsC = [] → (Value.slice (some ⟨g9, 0, none⟩) (vs.length + vsC.length) c9) = .slice none 0 0)) := Lib.hid ⟨fun y hy => by
                  rcases List.mem_append.1 hy with h | h
                  · exact HV.out.1 y h
                  · intro b o n' c' e'
                    refine Nat.le_trans HS8.out.2.size ?_
                    rcases hfC y h with h | h
                    · exact hfB b o n' c' (h ▸ e')
                    · exact Nat.le_trans eB.size (h b o n' c' e'), fun h => absurd (List.append_eq_nil_iff.1 h).2 (List.length_pos_iff.1 (by rw [hlenC]; exact HPS.out.1))⟩
                have HR9 := Lib.hid hR9
                clear hR9 hb9 hg9 hown9 hceC hlC hfC hfB hlenC hcC hleC hnC
                go_wp2
                go_roundw
                case rel => exact ⟨i + 1, vs ++ vsC, by go_num, hlt, HV9, Lib.hid (by rw [H0.out]; first | exact HR9.out | exact HR9.out.trans (drew_ext _))⟩
                case measure => simp [intOf]; omega
              · skip
                go_simp
                have hS2 : Ext W8 ((W8.drew.alloc (.cells #[] 3)).alloc (.cells #[.int .i64 l] 3)) := hS1.alloc _
                refine hK.out _ _ hS2 ?_
                clear hK K
                try simp only [Act.put, List.setIfInBounds_toArray, List.set_cons_zero, List.set_cons_succ]
                refine wpAnyB_ready (rs := [14]) (by kernel_rfl) (by simp) (AllB.cons rfl (fun K hK => ?_) AllB.nil)
                refine step_open2 (W0 := W8) u ct _ (.slice At u.length ct) rfl _ _ rfl (by rfl) (by rfl) HTV.out (by omega) hS2 hn4 (by simp) ?_
                intro vA wA hrA eA hpA hsA hkA
                refine hK.out _ _ eA ?_
                clear hK K
                try simp only [Act.put, List.setIfInBounds_toArray, List.set_cons_zero, List.set_cons_succ]
                refine wpAnyB_ready (rs := [17]) (by kernel_rfl) (by simp) (AllB.cons rfl (fun K hK => ?_) AllB.nil)
                refine step_more2 (W0 := W8) u [l] _ vA rfl _ _ rfl (by rfl) hrA (by rfl) (hpA _ _ (by simp) hn1) (by simp; omega) eA ?_
                intro vB wB cB hiB hfB eB
                refine hK.out _ _ eB ?_
                clear hK K
                try simp only [Act.put, List.setIfInBounds_toArray, List.set_cons_zero, List.set_cons_succ]
                refine wpAnyB_ready (rs := [18]) (by kernel_rfl) (by simp) (AllB.cons rfl (fun K hK => ?_) AllB.nil)
                have hcl := hih wB vB cB eB hiB
                go_simp
                refine hcl.mono ?_
                rintro e wC ⟨AC, cC, vsC, rfl, hcC, hlC, hfC, hleC, hnC, eC⟩
                have eC' := eB.trans eC
                refine hK.out _ _ eC' ?_
                clear hK K
                try simp only [Act.put, List.setIfInBounds_toArray, List.set_cons_zero, List.set_cons_succ]
                refine wpAnyB_tail rfl rfl (by decide) (by kernel_rfl) ?_
                have hrunC := HS8.out.1.trans eC'
                obtain ⟨bC, oC, hAC, hbC, hceC⟩ := hcC (by rw [hlC.1]; exact HPS.out.1)
                subst hAC
                have hlenC := hlC.1
                refine wpList_append_own2 rfl _ _ 86 rfl W1.heap.size 30 i30 (.slice none 0 0) 1 24 Tryd.underlying86 hi30 hz30 hs30 hb30 rfl (by decide) (.slice A5 vs.length c5) vs.length vs (by rfl) hrunC.row.1 ⟨bC, oC, none⟩ (runsL x L n k' T (u ++ [l])).length cC vsC (by rfl) (by omega) (fun j y hj => by rw [Addr.add_lit]; exact hceC j y hj) (one_vals hlC) (by unfold maxLen; have := HPS.out.2; omega) (by have := HPS.out.2; omega) hrunC.ext.size ?_
                intro v9 w9 hown9 hg9 hb9
                rw [← hlenC] at hown9
                have hR9 := HS8.out.1.more eC' hlC (fun y hy b o n' c' e' => by
                  rcases hfC y hy with h | h
                  · exact hfB b o n' c' (h ▸ e')
                  · exact Nat.le_trans eB.size (h b o n' c' e')) hg9 hown9 hb9
                obtain ⟨g9, c9, rfl⟩ := ownsRow_pos hown9 (by have := HPS.out.1; omega)
                have HV9 : Hid ((∀ z ∈ vs ++ vsC, FarV W1.heap.size z) ∧ (vs ++ vsC = [] → (Value.slice (some ⟨g9, 0, none⟩) (vs.length + vsC.length) c9) = .slice none 0 0)) := Lib.hid ⟨fun y hy => by
                  rcases List.mem_append.1 hy with h | h
                  · exact HV.out.1 y h
                  · intro b o n' c' e'
                    refine Nat.le_trans HS8.out.2.size ?_
                    rcases hfC y h with h | h
                    · exact hfB b o n' c' (h ▸ e')
                    · exact Nat.le_trans eB.size (h b o n' c' e'), fun h => absurd (List.append_eq_nil_iff.1 h).2 (List.length_pos_iff.1 (by rw [hlenC]; exact HPS.out.1))⟩
                have HR9 := Lib.hid hR9
                clear hR9 hb9 hg9 hown9 hceC hlC hfC hfB hlenC hcC hleC hnC
                go_wp2
                go_roundw
                case rel => exact ⟨i + 1, vs ++ vsC, by go_num, hlt, HV9, Lib.hid (by rw [H0.out]; first | exact HR9.out | exact HR9.out.trans (drew_ext _))⟩
                case measure => simp [intOf]; omega
            · skip
              go_simp
              have hS1 : Ext W8 (W8.drew.alloc (.cells #[.int .i64 l] 3)) := hS0.alloc _
              refine hK.out _ _ hS1 ?_
              clear hK K
              try simp only [Act.put, List.setIfInBounds_toArray, List.set_cons_zero, List.set_cons_succ]
              refine wpAnyB_ready (rs := [12]) (by kernel_rfl) (by simp) (AllB.cons rfl (fun K hK => ?_) AllB.nil)
              go_simp
              have hS2 : Ext W8 ((W8.drew.alloc (.cells #[.int .i64 l] 3)).alloc (.cells #[] 3)) := hS1.alloc _
              refine hK.out _ _ hS2 ?_
              clear hK K
              try simp only [Act.put, List.setIfInBounds_toArray, List.set_cons_zero, List.set_cons_succ]
              refine wpAnyB_ready (rs := [14]) (by kernel_rfl) (by simp) (AllB.cons rfl (fun K hK => ?_) AllB.nil)
              refine step_open2 (W0 := W8) u ct _ (.slice At u.length ct) rfl _ _ rfl (by rfl) (by rfl) HTV.out (by omega) hS2 hn3 (by simp) ?_
              intro vA wA hrA eA hpA hsA hkA
              refine hK.out _ _ eA ?_
              clear hK K
              try simp only [Act.put, List.setIfInBounds_toArray, List.set_cons_zero, List.set_cons_succ]
              refine wpAnyB_ready (rs := [17]) (by kernel_rfl) (by simp) (AllB.cons rfl (fun K hK => ?_) AllB.nil)
              refine step_more2 (W0 := W8) u [l] _ vA rfl _ _ rfl (by rfl) hrA (by rfl) (hpA _ _ (by simp) hn2) (by simp; omega) eA ?_
              intro vB wB cB hiB hfB eB
              refine hK.out _ _ eB ?_
              clear hK K
              try simp only [Act.put, List.setIfInBounds_toArray, List.set_cons_zero, List.set_cons_succ]
              refine wpAnyB_ready (rs := [18]) (by kernel_rfl) (by simp) (AllB.cons rfl (fun K hK => ?_) AllB.nil)
              have hcl := hih wB vB cB eB hiB
              go_simp
              refine hcl.mono ?_
              rintro e wC ⟨AC, cC, vsC, rfl, hcC, hlC, hfC, hleC, hnC, eC⟩
              have eC' := eB.trans eC
              refine hK.out _ _ eC' ?_
              clear hK K
              try simp only [Act.put, List.setIfInBounds_toArray, List.set_cons_zero, List.set_cons_succ]
              refine wpAnyB_tail rfl rfl (by decide) (by kernel_rfl) ?_
              have hrunC := HS8.out.1.trans eC'
              obtain ⟨bC, oC, hAC, hbC, hceC⟩ := hcC (by rw [hlC.1]; exact HPS.out.1)
              subst hAC
              have hlenC := hlC.1
              refine wpList_append_own2 rfl _ _ 86 rfl W1.heap.size 30 i30 (.slice none 0 0) 1 24 Tryd.underlying86 hi30 hz30 hs30 hb30 rfl (by decide) (.slice A5 vs.length c5) vs.length vs (by rfl) hrunC.row.1 ⟨bC, oC, none⟩ (runsL x L n k' T (u ++ [l])).length cC vsC (by rfl) (by omega) (fun j y hj => by rw [Addr.add_lit]; exact hceC j y hj) (one_vals hlC) (by unfold maxLen; have := HPS.out.2; omega) (by have := HPS.out.2; omega) hrunC.ext.size ?_
              intro v9 w9 hown9 hg9 hb9
              rw [← hlenC] at hown9
              have hR9 := HS8.out.1.more eC' hlC (fun y hy b o n' c' e' => by
                rcases hfC y hy with h | h
                · exact hfB b o n' c' (h ▸ e')
                · exact Nat.le_trans eB.size (h b o n' c' e')) hg9 hown9 hb9
              obtain ⟨g9, c9, rfl⟩ := ownsRow_pos hown9 (by have := HPS.out.1; omega)
              have HV9 : Hid ((∀ z ∈ vs ++ vsC, FarV W1.heap.size z) ∧ (vs ++ vsC = [] → (Value.slice (some ⟨g9, 0, none⟩) (vs.length + vsC.length) c9) = .slice none 0 0)) := Lib.hid ⟨fun y hy => by
                rcases List.mem_append.1 hy with h | h
                · exact HV.out.1 y h
                · intro b o n' c' e'
                  refine Nat.le_trans HS8.out.2.size ?_
                  rcases hfC y h with h | h
                  · exact hfB b o n' c' (h ▸ e')
                  · exact Nat.le_trans eB.size (h b o n' c' e'), fun h => absurd (List.append_eq_nil_iff.1 h).2 (List.length_pos_iff.1 (by rw [hlenC]; exact HPS.out.1))⟩
              have HR9 := Lib.hid hR9
              clear hR9 hb9 hg9 hown9 hceC hlC hfC hfB hlenC hcC hleC hnC
              go_wp2
              go_roundw
              case rel => exact ⟨i + 1, vs ++ vsC, by go_num, hlt, HV9, Lib.hid (by rw [H0.out]; first | exact HR9.out | exact HR9.out.trans (drew_ext _))⟩
              case measure => simp [intOf]; omega
    · have hii : i = nd.next.length := by omega
      have HI := Lib.hid hii
      clear hii hE5 hls
      go_wp2
      go_ret
      have h1 : runsL x L (n + 1) k S u = runI x L n k S u i := by rw [HG.out, HI.out]
      rw [h1]
      refine ⟨A5, c5, vs, congrArg (fun n => Ending.returned (.slice A5 n c5)) HVL.out, ?_, HS.out.row.2, fun z hz => .inr ?_, HVL.out ▸ hnc5, fun h => ?_, ?_⟩
      · exact hc5
      · intro b o n' c' e'
        exact Nat.le_trans HX.out.1.size (HV.out.1 z hz b o n' c' e')
      · have h2 : vs = [] := List.length_eq_zero_iff.1 (HVL.out.trans (by rw [h]; rfl))
        have h3 := HV.out.2 h2
        injection h3 with h4 h5 h6
        exact ⟨h4, h6⟩
      · exact HX.out.1.trans HS.out.ext
end Go.Proofs.YtamodjlifpjaoaaDoor
