/- The spots of ref27.Conforms in memory; one spot more; what an operation of a drawn region gives. -/
import Derived.Test.YtamodjlifpjaoaaDoorF0
import Derived.Test.YtamodjlifpjaoaaDoorRegI
import Derived.Test.YtamodjlifpjaoaaDoorX0
import Derived.Test.YtamodjlifpjaoaaDoorGR
namespace Go.Proofs.YtamodjlifpjaoaaDoor
open Go.RowKit
set_option linter.unusedVariables false
set_option linter.unusedSimpArgs false
attribute [local go_sem] Oper.quietV quietV Oper.gives givesV ext_refl_iff ext_alloc_iff ext_drew_iff ext_drewN_iff
/-! ### Data that come and turn within a region -/
def noAsn : Asn := .any (fun _ => False) (fun _ => True)
theorem noAsn_ok (N : Nat) (w : World) : noAsn.ok N w := ⟨fun _ h => h.elim, fun _ _ => trivial⟩
theorem grown_none {w w' : World} (e : Ext w w') : w.grownBy w' none := ⟨e.os, e.tape, e.output, e.size, fun k hk _ => e.block k hk⟩
theorem OwnL.fill {w W W' : World} {L : List Asn} (h : OwnL w W L) (k : Nat) {A A' : Asn} (hk : L[k]? = some A) (e : Ext W W') (hA : A'.ok W.heap.size W') : OwnL w W' (L.set k A') :=
  h.step k hk (row := none) (grown_none e) (fun b hb => by cases hb) (Asn.mono hA h.ext.size) (fun b hb => .inr (Asn.lt hA hb).1)
/-- A list of numbers that lies from N on. -/
def lsF1 (v : Value) (b : Nat) : Prop := ∃ o n c, v = .slice (some ⟨b, o, none⟩) n c ∧ 0 < n
def LisW (v : Value) (xs : List Int) (w : World) : Prop := ∃ c, IntsC w v xs c
def FarW (N : Nat) (v : Value) : Prop := ∀ b, lsF1 v b → N ≤ b
theorem FarV.w {N : Nat} {v : Value} (h : FarV N v) : FarW N v := fun b ⟨o, n, c, e, _⟩ => h b o n c e
theorem FarW.mono {N N' : Nat} {v : Value} (h : FarW N v) (hN : N' ≤ N) : FarW N' v := fun b hb => Nat.le_trans hN (h b hb)
theorem lis_any {N : Nat} {w : World} {v : Value} {xs : List Int} (h : LisW v xs w) (hf : FarW N v) : (Asn.any (lsF1 v) (LisW v xs)).ok N w := by
  obtain ⟨c, h⟩ := h
  refine ⟨fun b ⟨o, n, c', hv, hn⟩ => ⟨hf b ⟨o, n, c', hv, hn⟩, ?_⟩, fun w' hb => ⟨c, ints_same h fun b o n c' hv hn => hb b ⟨o, n, c', hv, hn⟩⟩⟩
  obtain ⟨A, h1, hc, _, _⟩ := h
  rw [hv] at h1
  injection h1 with h1 h2 _
  subst h1
  obtain ⟨b', o', h3, hlt, _⟩ := hc (by simp; omega)
  cases h3; exact hlt
/-! ### Spots -/
abbrev SpM := Sp × (Value × Value × Value)
def spCells (e : SpM) : List Value := [e.2.1, e.2.2.1, e.2.2.2]
def spV (M : List SpM) : List Value := M.flatMap spCells
theorem spV_len : ∀ l : List SpM, (spV l).length = l.length * 3
  | [] => rfl
  | y :: t => by unfold spV; rw [List.flatMap_cons, List.length_append]; have := spV_len t; unfold spV at this; rw [this]; simp [spCells]; omega
theorem spV_get : ∀ {l : List SpM} {i : Nat} {r : SpM} (h : l[i]? = some r) (j : Nat) (u : Value), (spCells r)[j]? = some u → (spV l)[i * 3 + j]? = some u
  | [], i, r, h, _, _, _ => by simp at h
  | y :: t, 0, r, h, j, u, hj => by
    simp at h; subst h
    have := (List.getElem?_eq_some_iff.1 hj).1
    unfold spV
    rw [List.flatMap_cons, Nat.zero_mul, Nat.zero_add, List.getElem?_append_left this]; exact hj
  | y :: t, i + 1, r, h, j, u, hj => by
    have h2 := spV_get (l := t) (i := i) (r := r) (by simpa using h) j u hj
    unfold spV at h2 ⊢
    rw [List.flatMap_cons, List.getElem?_append_right (by simp [spCells]; omega)]
    rw [← h2]; congr 1; simp [spCells]; omega
theorem spV_app (l m : List SpM) : spV (l ++ m) = spV l ++ spV m := by unfold spV; simp
def SpIn (e : SpM) (w : World) : Prop := LisW e.2.1 (memI e.1.1.1) w ∧ LisW e.2.2.1 (memI e.1.1.2) w ∧ LisW e.2.2.2 e.1.2 w
def SpOk (M : List SpM) (w : World) : Prop := ∀ e ∈ M, SpIn e w
def spF (M : List SpM) (b : Nat) : Prop := ∃ e ∈ M, lsF1 e.2.1 b ∨ lsF1 e.2.2.1 b ∨ lsF1 e.2.2.2 b
def SpFar (N : Nat) (e : SpM) : Prop := FarW N e.2.1 ∧ FarW N e.2.2.1 ∧ FarW N e.2.2.2
theorem sp_any {N : Nat} {w : World} {M : List SpM} (h : SpOk M w) (hf : ∀ e ∈ M, SpFar N e) : (Asn.any (spF M) (SpOk M)).ok N w := by
  refine ⟨fun b ⟨e, he, hb⟩ => ?_, fun w' hb e he => ⟨?_, ?_, ?_⟩⟩
  · rcases hb with hb | hb | hb
    · exact (lis_any (h e he).1 (hf e he).1).1 b hb
    · exact (lis_any (h e he).2.1 (hf e he).2.1).1 b hb
    · exact (lis_any (h e he).2.2 (hf e he).2.2).1 b hb
  · exact (lis_any (h e he).1 (hf e he).1).2 w' fun b hb' => hb b ⟨e, he, .inl hb'⟩
  · exact (lis_any (h e he).2.1 (hf e he).2.1).2 w' fun b hb' => hb b ⟨e, he, .inr (.inl hb')⟩
  · exact (lis_any (h e he).2.2 (hf e he).2.2).2 w' fun b hb' => hb b ⟨e, he, .inr (.inr hb')⟩
theorem sp_one {M : List SpM} {w : World} (h : SpOk M w) : ∀ u ∈ spV M, u.oneCell' = true := fun u hu => by
  unfold spV at hu
  obtain ⟨e, he, hu⟩ := List.mem_flatMap.1 hu
  obtain ⟨⟨_, A, h1, _⟩, ⟨_, B, h2, _⟩, ⟨_, C, h3, _⟩⟩ := h e he
  simp only [spCells, List.mem_cons, List.not_mem_nil, or_false] at hu
  rcases hu with rfl | rfl | rfl
  · rw [h1]; rfl
  · rw [h2]; rfl
  · rw [h3]; rfl
def SpSt (W0 W : World) (v : Value) (L : List Sp) : Prop := ∃ (M : List SpM) (F : Nat → Prop), M.map Prod.fst = L ∧ OwnL W0 W [.row 96 3 v L.length (spV M), .any F (SpOk M)]
theorem SpSt.ext {W0 W : World} {v : Value} {L : List Sp} (h : SpSt W0 W v L) : Ext W0 W := by obtain ⟨M, F, _, h⟩ := h; exact OwnL.ext h
theorem SpSt.trans {W0 W W' : World} {v : Value} {L : List Sp} (h : SpSt W0 W v L) (e : Ext W W') : SpSt W0 W' v L := by obtain ⟨M, F, h1, h⟩ := h; exact ⟨M, F, h1, h.trans e⟩
/-- One spot. -/
theorem SpSt.at_ {W0 W : World} {v : Value} {L : List Sp} (h : SpSt W0 W v L) {n : Nat} {s : Sp} (hn : L[n]? = some s) : ∃ b c va vb vt, v = .slice (some ⟨b, 0, none⟩) L.length c ∧ W.cell? ⟨b, n * 3, none⟩ = some va ∧ W.cell? ⟨b, n * 3 + 1, none⟩ = some vb ∧ W.cell? ⟨b, n * 3 + 2, none⟩ = some vt ∧ LisW va (memI s.1.1) W ∧ LisW vb (memI s.1.2) W ∧ LisW vt s.2 W := by
  obtain ⟨M, F, hM, h⟩ := h
  have hrow := h.get 0 rfl
  have hok : SpOk M W := h.know 1 rfl
  have hl := (List.getElem?_eq_some_iff.1 hn).1
  obtain ⟨b, c, rfl⟩ := ownsRow_pos hrow (by omega)
  subst hM
  rw [List.getElem?_map] at hn
  cases hMn : M[n]? with
  | none => rw [hMn] at hn; cases hn
  | some e =>
    rw [hMn] at hn
    cases hn
    obtain ⟨h1, h2, h3⟩ := hok e (List.mem_of_getElem? hMn)
    exact ⟨b, c, _, _, _, rfl, cell_at_own hrow (spV_get hMn 0 _ rfl), cell_at_own hrow (spV_get hMn 1 _ rfl), cell_at_own hrow (spV_get hMn 2 _ rfl), h1, h2, h3⟩
theorem SpSt.more {W0 W W1 W' : World} {v v' : Value} {L : List Sp} {e : SpM} {M : List SpM} {F : Nat → Prop} (hML : M.map Prod.fst = L) (h : OwnL W0 W [.row 96 3 v L.length (spV M), .any F (SpOk M)]) (hE : Ext W W1) (hM : SpIn e W1) (hf : SpFar W.heap.size e) (hg : W1.grownBy W' v.ownBlock) (ho : W'.ownsRow W0.heap.size 96 3 v' (L.length + 1) (spV M ++ spCells e)) (hb : ∀ b, v'.ownBlock = some b → v.ownBlock = some b ∨ W1.heap.size ≤ b) : SpSt W0 W' v' (L ++ [e.1]) := by
  have h1 := h.add hE (sp_any (M := [e]) (fun z hz => by rw [List.mem_singleton.1 hz]; exact hM) (fun z hz => by rw [List.mem_singleton.1 hz]; exact hf))
  have h2 := h1.app 1 rfl hg ho hb
  have h3 : OwnL W0 W' (.any (spF [e]) (SpOk [e]) :: .row 96 3 v' (L.length + 1) (spV M ++ spCells e) :: .any F (SpOk M) :: []) := h2
  have h4 := (h3.perm (.cons _ (List.Perm.swap _ _ _))).merge.weaken (Φ' := SpOk (M ++ [e])) (fun W h z hz => by
    rcases List.mem_append.1 hz with hz | hz
    · exact h.2 z hz
    · exact h.1 z hz)
  have h5 := h4.swap
  refine ⟨M ++ [e], fun b => spF [e] b ∨ F b, by rw [List.map_append, hML]; rfl, ?_⟩
  rw [List.length_append, List.length_singleton, spV_app, show spV [e] = spCells e by simp [spV]]
  exact h5
/-! ### What an operation gives -/
theorem gives_run {P : Program} {o : Oper} {a : Act} {w w' : World} {v : Value} {K : Value → World → Prop} (t : TypeId) (s x : Operand) (ho : o.op = .call { callee := .builtin .append, args := #[s, x], argTypes := #[t, t] })
    (hr : (Builtin.append_ #[t, t] o.type #[a.eval s, a.eval x]).run P w = .ok v w') (h : K v w') : RI.Oper.gives P o a w K := by
  unfold RI.Oper.gives execOp
  simp only [ho, resolve, invoke, builtin, Sem.run_bind, Sem.run_pure, Result.andThen_ok, List.map_toArray, List.map_cons, List.map_nil, hr]
  exact h
/-- append to a literal without elements. -/
theorem gives_open {o : Oper} {a : Act} {w : World} {N : Nat} {K : Value → World → Prop} (ts : List Int) (c b : Nat) (vt : Value)
    (s x : Operand) (ho : o.op = .call { callee := .builtin .append, args := #[s, x], argTypes := #[30, 30] })
    (hs : a.eval s = .slice (some ⟨b, 0, none⟩) 0 0) (hx : a.eval x = vt) (hv : IntsC w vt ts c) (hlen : ts.length ≤ 2000) (hown : w.ownsRow N 3 1 (.slice (some ⟨b, 0, none⟩) 0 0) 0 []) (hN : N ≤ w.heap.size)
    (h : ∀ v' w', w'.ownsRow N 3 1 v' ts.length (ts.map (.int .i64)) → w.grownBy w' (some b) → (∀ k, v'.ownBlock = some k → some b = some k ∨ w.heap.size ≤ k) → K v' w') : RI.Oper.gives Tryd.prog o a w K := by
  obtain ⟨i3, hi3, hz3, hs3, hb3⟩ := info_parts int_info
  obtain ⟨At, rfl, htc, htn, htm⟩ := hv
  cases At with
  | none =>
    have h0 : ts = [] := by
      cases hq : ts with
      | nil => rfl
      | cons u t =>
        obtain ⟨b', o', h, _⟩ := htc (by rw [hq]; simp)
        cases h
    subst h0
    refine gives_run 30 s x ho (by rw [hs, hx]; exact run_append_none (P := Tryd.prog) 30 o.type 3 i3 Tryd.underlying30 hi3 b 0 0 c (Nat.le_refl 0) w) (h _ w hown ⟨rfl, rfl, rfl, Nat.le_refl _, fun _ _ _ => rfl⟩ fun k hk => .inl hk)
  | some ad =>
    have hnews : ∀ j u, (ts.map (Value.int .i64))[j]? = some u → w.cell? (ad.add j) = some u := fun j u hj => by
      obtain ⟨b', o', h, _, hc⟩ := htc (by have := (List.getElem?_eq_some_iff.1 hj).1; omega)
      cases h
      rw [Addr.add_lit]
      exact hc j u hj
    obtain ⟨v', w', hr, h2, h3, h4⟩ := run_append_own2 (P := Tryd.prog) (w := w) N 30 o.type 3 i3 (.int .i64 0) 1 8 Tryd.underlying30 hi3 hz3 hs3 hb3 rfl (by decide) (.slice (some ⟨b, 0, none⟩) 0 0) 0 [] hown ad ts.length c (ts.map (.int .i64)) (by simp) hnews
      (fun u hu => by obtain ⟨z, _, rfl⟩ := List.mem_map.1 hu; rfl) (by unfold maxLen; omega) (by omega) hN
    rw [Nat.zero_add, List.nil_append] at h2
    exact gives_run 30 s x ho (by rw [hs, hx]; exact hr) (h v' w' h2 h3 h4)
/-- And what is put behind it. -/
theorem gives_more {o : Oper} {a : Act} {w : World} {N : Nat} {K : Value → World → Prop} (ts qs : List Int) (b : Nat) (v : Value)
    (s x : Operand) (ho : o.op = .call { callee := .builtin .append, args := #[s, x], argTypes := #[30, 30] })
    (hs : a.eval s = v) (hown : w.ownsRow N 3 1 v ts.length (ts.map (.int .i64))) (hx : a.eval x = .slice (some ⟨b, 0, none⟩) qs.length qs.length) (hb : w.heap[b]? = some (.cells (qs.map (.int .i64)).toArray 3 (0, 0)))
    (hlen : ts.length + qs.length ≤ 3000) (hN : N ≤ w.heap.size)
    (h : ∀ v' w', w'.ownsRow N 3 1 v' (ts.length + qs.length) (ts.map (.int .i64) ++ qs.map (.int .i64)) → w.grownBy w' v.ownBlock → (∀ k, v'.ownBlock = some k → v.ownBlock = some k ∨ w.heap.size ≤ k) → K v' w') : RI.Oper.gives Tryd.prog o a w K := by
  obtain ⟨i3, hi3, hz3, hs3, hb3⟩ := info_parts int_info
  obtain ⟨v', w', hr, h2, h3, h4⟩ := run_append_own2 (P := Tryd.prog) (w := w) N 30 o.type 3 i3 (.int .i64 0) 1 8 Tryd.underlying30 hi3 hz3 hs3 hb3 rfl (by decide) v ts.length (ts.map (.int .i64)) hown ⟨b, 0, none⟩ qs.length qs.length (qs.map (.int .i64)) (by simp) (fun j u hj => by
    rw [Addr.add_lit, Nat.zero_add]
    exact cell_of_blk hb j (by simpa using hj))
    (fun u hu => by obtain ⟨z, _, rfl⟩ := List.mem_map.1 hu; rfl) (by unfold maxLen; omega) (by omega) hN
  exact gives_run 30 s x ho (by rw [hs, hx]; exact hr) (h v' w' h2 h3 h4)
end Go.Proofs.YtamodjlifpjaoaaDoor
