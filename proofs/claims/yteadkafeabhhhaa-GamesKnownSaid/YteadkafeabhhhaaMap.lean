/- A map that the call makes, told as a list of keys with numbers; a row stored whole. -/
import Derived.Test.YteadkafeabhhhaaBase
import Derived.Deep.MidRow
import Derived.Maps.OwnSet
import Derived.DeepKeys4
namespace Go.Proofs.Yteadkafeabhhhaa
open Go.RowKit Go.Maps
set_option linter.unusedVariables false
set_option linter.unusedSimpArgs false

/-! ### A row stored whole -/
def setsAt (cs : Array Value) : Nat → List Value → Array Value
  | _, [] => cs
  | o, v :: r => setsAt (cs.setIfInBounds o v) (o + 1) r
theorem setCells_blk (g : Nat) (t : TypeId) : ∀ (vs : List Value) (o : Nat) (w : World) (cs : Array Value), w.heap[g]? = some (.cells cs t (0, 0)) → (w.setCells g o vs).heap[g]? = some (.cells (setsAt cs o vs) t (0, 0)) ∧ w.grownBy (w.setCells g o vs) (some g)
  | [], _, w, cs, h => ⟨h, World.grownBy.refl _ _⟩
  | v :: r, o, w, cs, h => by
    have h1 := heap_setCell_same w g o cs t v h
    obtain ⟨h2, h3⟩ := setCells_blk g t r (o + 1) _ _ h1
    refine ⟨h2, ⟨h3.os, h3.tape, h3.output, ?_, fun k hk hne => ?_⟩⟩
    · have h4 := h3.size
      show _ ≤ ((w.setCell ⟨g, o, none⟩ v).setCells g (o + 1) r).heap.size
      simpa using h4
    · refine (h3.block k (by simpa using hk) hne).trans (heap_setCell_other w ⟨g, o, none⟩ k v (fun e => hne (by simp [e])))
theorem setsAt_toList (vs : List Value) : ∀ (o : Nat) (cs : Array Value), o + vs.length ≤ cs.size → (setsAt cs o vs).toList = cs.toList.take o ++ vs ++ cs.toList.drop (o + vs.length) := by
  induction vs with
  | nil => intro o cs _; simp [setsAt]
  | cons v r ih =>
    intro o cs h
    simp only [List.length_cons] at h
    rw [setsAt, ih (o + 1) _ (by simp; omega)]
    have ho : o < cs.toList.length := by simp; omega
    rw [Array.toList_setIfInBounds, List.take_set, List.take_succ_eq_append_getElem ho]
    have hl : (cs.toList.take o).length = o := by simp; omega
    rw [List.set_append_right _ _ (by omega), hl, Nat.sub_self, List.set_cons_zero, List.drop_set_of_lt (by omega)]
    simp [List.append_assoc, Nat.add_comm, Nat.add_left_comm]
theorem setsAt_all (vs : List Value) (cs : Array Value) (h : vs.length = cs.size) : setsAt cs 0 vs = vs.toArray := by
  apply Array.ext'
  rw [setsAt_toList vs 0 cs (by omega)]
  simp [h]

section
variable {P : Program} {ops : Array Oper} {rest : List Oper} {o : Oper} {a : Act} {Q : Exit → Act → World → Prop}
theorem wpList_store_blk (w : World) (hgd : o.guard = none) (ty : TypeId) (x y : Operand) (ho : o.op = .store ty x y) (g : Nat) (t : TypeId) (cells cs : Array Value)
    (hx : a.eval x = .pointer (some ⟨g, 0, none⟩)) (hy : a.eval y = .agg cells) (hg : w.heap[g]? = some (.cells cs t (0, 0))) (hs : cells.size = cs.size) (hi : (P.info? ty).map (·.size) = some cells.size) (h1 : cells.all (·.oneCell') = true)
    (h : ∀ w', w'.heap[g]? = some (.cells cells t (0, 0)) → w.grownBy w' (some g) → wpList P ops Q rest (a.put o.dst undef) w') : wpList P ops Q (o :: rest) a w := by
  refine wpList_store_mid hgd ty x y ho g 0 cells hx hy (fun j hj => ?_) hi h1 ?_
  · rw [Nat.zero_add]
    refine ⟨?_, free_of_blk hg j⟩
    rw [cell_of_row w g j cs t (0, 0) hg]
    simp [show j < cs.size by omega]
  · obtain ⟨h2, h3⟩ := setCells_blk g t cells.toList 0 w cs hg
    rw [setsAt_all _ _ (by simpa using hs)] at h2
    exact h _ (by simpa using h2) h3
end

/-! ### A map as a list -/
variable {κ : Type} [BEq κ] [LawfulBEq κ]

/-- How keys of type k are told. -/
structure KeyEnc (P : Program) (k : TypeId) (enc : κ → Value) (ok : κ → Prop) : Prop where
  law : Keyed P k
  read : ∀ x, ok x → ∃ l, keyOf P k (enc x) = some l
  inj : ∀ x y, enc x = enc y → x = y

def getM (es : List (κ × Int)) (x : κ) : Option Int := (es.find? (fun p => p.1 == x)).map (·.2)
def keysOf (es : List (κ × Int)) : List κ := es.map (·.1)

/-- Block b is a map of just these entries, in the order in which they came. -/
def MapIs (w : World) (b : Nat) (enc : κ → Value) (ok : κ → Prop) (es : List (κ × Int)) : Prop :=
  ∃ entries clock, w.heap[b]? = some (.map entries clock) ∧ entries.toList.map (fun e => (e.key, e.val)) = es.map (fun p => (enc p.1, .int .i64 p.2)) ∧ (∀ p ∈ es, ok p.1) ∧ es.Pairwise (fun p q => p.1 ≠ q.1)

omit [BEq κ] [LawfulBEq κ] in
theorem MapIs.made (w : World) (enc : κ → Value) (ok : κ → Prop) : MapIs (w.alloc (.map #[] 0)) w.heap.size enc ok [] :=
  ⟨#[], 0, heap_alloc_new w _, by simp, by simp, .nil⟩
omit [BEq κ] [LawfulBEq κ] in
theorem MapIs.lt {w : World} {b : Nat} {enc : κ → Value} {ok : κ → Prop} {es : List (κ × Int)} (h : MapIs w b enc ok es) : b < w.heap.size := by
  obtain ⟨_, _, hb, _⟩ := h
  exact lt_of_block hb
omit [BEq κ] [LawfulBEq κ] in
theorem MapIs.keep {w w' : World} {b : Nat} {enc : κ → Value} {ok : κ → Prop} {es : List (κ × Int)} (h : MapIs w b enc ok es) (e : w'.heap[b]? = w.heap[b]?) : MapIs w' b enc ok es := by
  obtain ⟨en, cl, hb, r⟩ := h
  exact ⟨en, cl, e.trans hb, r⟩
omit [BEq κ] [LawfulBEq κ] in
theorem MapIs.ext {w w' : World} {b : Nat} {enc : κ → Value} {ok : κ → Prop} {es : List (κ × Int)} (h : MapIs w b enc ok es) (e : Ext w w') : MapIs w' b enc ok es := h.keep (e.block b h.lt)
omit [BEq κ] [LawfulBEq κ] in
theorem MapIs.setCell {w : World} {b : Nat} {enc : κ → Value} {ok : κ → Prop} {es : List (κ × Int)} (h : MapIs w b enc ok es) (p : Addr) (hp : b ≠ p.block) (u : Value) : MapIs (w.setCell p u) b enc ok es := h.keep (heap_setCell_other w p b u hp)

theorem getM_of_mem {es : List (κ × Int)} (hp : es.Pairwise (fun p q => p.1 ≠ q.1)) {x : κ} {n : Int} (h : (x, n) ∈ es) : getM es x = some n := by
  induction es with
  | nil => cases h
  | cons p r ih =>
    obtain ⟨h1, h2⟩ := List.pairwise_cons.1 hp
    unfold getM
    rw [List.find?_cons]
    rcases List.mem_cons.1 h with rfl | h
    · simp
    · have : (p.1 == x) = false := by
        rw [beq_eq_false_iff_ne]
        exact h1 _ h
      rw [this]
      exact ih h2 h
theorem getM_none {es : List (κ × Int)} {x : κ} : getM es x = none ↔ ∀ p ∈ es, p.1 ≠ x := by
  simp [getM]

section
variable {P : Program} {k : TypeId} {enc : κ → Value} {ok : κ → Prop} {w : World} {b : Nat} {es : List (κ × Int)}

theorem find_is (K : KeyEnc P k enc ok) {entries : Array MapEntry} (he : entries.toList.map (fun e => (e.key, e.val)) = es.map (fun p => (enc p.1, .int .i64 p.2))) (hok : ∀ p ∈ es, ok p.1) (hp : es.Pairwise (fun p q => p.1 ≠ q.1)) {x : κ} (hx : ok x) :
    (getM es x = none ∧ (Instr.findKey k (enc x) entries.toList).run P w = .ok none w) ∨ ∃ n j, getM es x = some n ∧ (Instr.findKey k (enc x) entries.toList).run P w = .ok (some (j, .int .i64 n)) w := by
  obtain ⟨l, hl⟩ := K.read x hx
  have hmem : ∀ e ∈ entries.toList, ∃ p ∈ es, e.key = enc p.1 ∧ e.val = .int .i64 p.2 := fun e h => by
    have h1 : (e.key, e.val) ∈ es.map (fun p => (enc p.1, Value.int .i64 p.2)) := he ▸ List.mem_map.2 ⟨e, h, rfl⟩
    obtain ⟨p, hp, hpe⟩ := List.mem_map.1 h1
    simp only [Prod.mk.injEq] at hpe
    exact ⟨p, hp, hpe.1.symm, hpe.2.symm⟩
  rcases K.law.find w hl entries.toList (fun e h => by
    obtain ⟨p, hp, hk, _⟩ := hmem e h
    rw [hk]; exact K.read _ (hok p hp)) with ⟨h1, h2⟩ | ⟨j, e, h1, h2, h3⟩
  · refine .inl ⟨getM_none.2 (fun p hpm e => ?_), h1⟩
    have h4 : (enc p.1, Value.int .i64 p.2) ∈ entries.toList.map (fun e => (e.key, e.val)) := he ▸ List.mem_map.2 ⟨p, hpm, rfl⟩
    obtain ⟨e', he', hee⟩ := List.mem_map.1 h4
    simp only [Prod.mk.injEq] at hee
    exact h2 e' he' (by rw [hee.1, e])
  · obtain ⟨p, hpm, hk, hv⟩ := hmem e (List.mem_of_getElem? h2)
    have : p.1 = x := K.inj _ _ (hk.symm.trans h3)
    refine .inr ⟨p.2, j, getM_of_mem hp (by rw [← this]; exact hpm), by rw [← hv]; exact h1⟩

theorem run_lookup_is (K : KeyEnc P k enc ok) {t e : TypeId} (ht : P.underlying t = some (.map k e)) (hz : (zeroValue e).run P w = .ok (.int .i64 0) w) (h : MapIs w b enc ok es) {x : κ} (hx : ok x) (c : Bool) :
    (Instr.lookup t (.map (some b)) (enc x) c).run P w = .ok (if c then .tuple #[.int .i64 ((getM es x).getD 0), .bool (getM es x).isSome] else .int .i64 ((getM es x).getD 0)) w := by
  obtain ⟨en, cl, hb, he, hok, hp⟩ := h
  obtain ⟨l, hl⟩ := K.read x hx
  have hobj : (getObj b).run P w = .ok (.map en cl) w := by simp [getObj, Sem.run, hb]
  have hchk := K.law.check w en.isEmpty hl
  rcases find_is (w := w) K he hok hp hx with ⟨h1, h2⟩ | ⟨n, j, h1, h2⟩
  · cases c <;> simp [Instr.lookup, run_underlying ht, hobj, hchk, h2, h1, hz]
  · cases c <;> simp [Instr.lookup, run_underlying ht, hobj, hchk, h2, h1]

theorem run_update_new (K : KeyEnc P k enc ok) {t e : TypeId} (ht : P.underlying t = some (.map k e)) (h : MapIs w b enc ok es) {x : κ} (hx : ok x) (hn : getM es x = none) (n : Int) :
    ∃ w', (Instr.mapUpdate t (.map (some b)) (enc x) (.int .i64 n)).run P w = .ok () w' ∧ MapIs w' b enc ok (es ++ [(x, n)]) ∧ w.grownBy w' (some b) := by
  obtain ⟨en, cl, hb, he, hok, hp⟩ := h
  obtain ⟨l, hl⟩ := K.read x hx
  have hobj : (getObj b).run P w = .ok (.map en cl) w := by simp [getObj, Sem.run, hb]
  have hchk := K.law.check w false hl
  have hlt := lt_of_block hb
  rcases find_is (w := w) K he hok hp hx with ⟨h1, h2⟩ | ⟨m, j, h1, h2⟩
  · refine ⟨{ w with heap := w.heap.setIfInBounds b (.map (en.push { key := enc x, val := .int .i64 n, born := cl }) (cl + 1)) }, ?_, ?_, ?_⟩
    · simp [Instr.mapUpdate, run_underlying ht, hobj, hchk, h2, setObj, Sem.run, hb]
    · refine ⟨en.push { key := enc x, val := .int .i64 n, born := cl }, cl + 1, by simp [hlt], by simp [he], ?_, ?_⟩
      · intro p hpm
        rcases List.mem_append.1 hpm with hpm | hpm
        · exact hok p hpm
        · simp at hpm; subst hpm; exact hx
      · refine List.pairwise_append.2 ⟨hp, by simp, fun p hpm q hq => ?_⟩
        simp at hq; subst hq
        exact getM_none.1 h1 p hpm
    · exact ⟨rfl, rfl, rfl, by simp, fun i hi hne => by
        have : b ≠ i := fun e => hne (by rw [e])
        simp [Array.getElem?_setIfInBounds_ne this]⟩
  · rw [h1] at hn; cases hn

variable {ops : Array Oper} {rest : List Oper} {o : Oper} {a : Act} {Q : Exit → Act → World → Prop}
theorem wpList_lookup_is (hgd : o.guard = none) (m x : Operand) (t : TypeId) (c : Bool) (hop : o.op = Op.lookup t m x c) (e : TypeId) (K : KeyEnc P k enc ok) (ht : P.underlying t = some (.map k e)) (hz : (zeroValue e).run P w = .ok (.int .i64 0) w)
    (hm : a.eval m = .map (some b)) (h : MapIs w b enc ok es) (key : κ) (hkey : a.eval x = enc key) (hx : ok key)
    (hK : wpList P ops Q rest (a.put o.dst (if c then .tuple #[.int .i64 ((getM es key).getD 0), .bool (getM es key).isSome] else .int .i64 ((getM es key).getD 0))) w) : wpList P ops Q (o :: rest) a w := by
  refine wpList_plain hgd fun K' hK' => ?_
  have hrun := run_lookup_is K ht hz h hx c
  unfold Oper.wp
  simp only [execOp, hop, hm, hkey]
  simp [hrun, Result.andThen]
  exact hK' _ _ hK
theorem wpList_update_new (hgd : o.guard = none) (m x v : Operand) (t : TypeId) (hop : o.op = Op.mapUpdate t m x v) (e : TypeId) (K : KeyEnc P k enc ok) (ht : P.underlying t = some (.map k e))
    (hm : a.eval m = .map (some b)) (h : MapIs w b enc ok es) (key : κ) (hkey : a.eval x = enc key) (hx : ok key) (hn : getM es key = none) (n : Int) (hv : a.eval v = .int .i64 n)
    (hK : ∀ w', MapIs w' b enc ok (es ++ [(key, n)]) → w.grownBy w' (some b) → wpList P ops Q rest (a.put o.dst undef) w') : wpList P ops Q (o :: rest) a w := by
  refine wpList_plain hgd fun K' hK' => ?_
  obtain ⟨w', hrun, r1, r2⟩ := run_update_new K ht h hx hn n
  unfold Oper.wp
  simp only [execOp, hop, hm, hkey, hv]
  simp [hrun, Result.andThen]
  exact hK' _ _ (hK w' r1 r2)
omit [BEq κ] [LawfulBEq κ] in
theorem wpList_len_is (hgd : o.guard = none) (m : Operand) (t : TypeId) (hop : o.op = Op.call { callee := Callee.builtin Builtin.len, args := #[m], argTypes := #[t] }) {e : TypeId} (ht : P.underlying t = some (.map k e))
    (hm : a.eval m = .map (some b)) (h : MapIs w b enc ok es) (hK : wpList P ops Q rest (a.put o.dst (.int .i64 es.length)) w) : wpList P ops Q (o :: rest) a w := by
  refine wpList_plain hgd fun K' hK' => ?_
  obtain ⟨en, cl, hb, he, _, _⟩ := h
  have hlen : en.size = es.length := by
    have := congrArg List.length he
    simpa using this
  have hobj : (getObj b).run P w = .ok (.map en cl) w := by simp [getObj, Sem.run, hb]
  unfold Oper.wp
  simp [execOp, hop, resolve, invoke, builtin, hm, Builtin.len_, run_underlying ht, hobj, hlen, Result.andThen, goInt]
  exact hK' _ _ hK
end

/-- Numbers as keys. -/
theorem key_int {P : Program} {k : TypeId} (hk : P.underlying k = some (.int .i64)) : KeyEnc P k (fun x : Int => .int .i64 x) (fun x => (Lit.int .i64 x).wf = true) :=
  ⟨int_keyed hk, fun x hx => ⟨_, keyOf_int_mk hk hx⟩, fun x y h => by cases h; rfl⟩
end Go.Proofs.Yteadkafeabhhhaa
