/- A map that the call makes, told as a list of keys with values of any kind. -/
import Derived.Test.YteadkafeabhhhaaMap
import Derived.Test.YteadkafeabhhhaaB2
namespace Go.Proofs.Yteadkafeabhhhaa
open Go.RowKit Go.Maps
set_option linter.unusedVariables false
set_option linter.unusedSimpArgs false
variable {κ : Type} [BEq κ] [LawfulBEq κ]
def getW (es : List (κ × Value)) (x : κ) : Option Value := (es.find? (fun p => p.1 == x)).map (·.2)
def keysOfW (es : List (κ × Value)) : List κ := es.map (·.1)

/-- Block b is a map of just these entries, in the order in which they came. -/
def MapW (w : World) (b : Nat) (enc : κ → Value) (ok : κ → Prop) (es : List (κ × Value)) : Prop :=
  ∃ entries clock, w.heap[b]? = some (.map entries clock) ∧ entries.toList.map (fun e => (e.key, e.val)) = es.map (fun p => (enc p.1, p.2)) ∧ (∀ p ∈ es, ok p.1) ∧ es.Pairwise (fun p q => p.1 ≠ q.1)

omit [BEq κ] [LawfulBEq κ] in
theorem MapW.made (w : World) (enc : κ → Value) (ok : κ → Prop) : MapW (w.alloc (.map #[] 0)) w.heap.size enc ok [] :=
  ⟨#[], 0, heap_alloc_new w _, by simp, by simp, .nil⟩
omit [BEq κ] [LawfulBEq κ] in
theorem MapW.lt {w : World} {b : Nat} {enc : κ → Value} {ok : κ → Prop} {es : List (κ × Value)} (h : MapW w b enc ok es) : b < w.heap.size := by
  obtain ⟨_, _, hb, _⟩ := h
  exact lt_of_block hb
omit [BEq κ] [LawfulBEq κ] in
theorem MapW.keep {w w' : World} {b : Nat} {enc : κ → Value} {ok : κ → Prop} {es : List (κ × Value)} (h : MapW w b enc ok es) (e : w'.heap[b]? = w.heap[b]?) : MapW w' b enc ok es := by
  obtain ⟨en, cl, hb, r⟩ := h
  exact ⟨en, cl, e.trans hb, r⟩
omit [BEq κ] [LawfulBEq κ] in
theorem MapW.ext {w w' : World} {b : Nat} {enc : κ → Value} {ok : κ → Prop} {es : List (κ × Value)} (h : MapW w b enc ok es) (e : Ext w w') : MapW w' b enc ok es := h.keep (e.block b h.lt)
omit [BEq κ] [LawfulBEq κ] in
theorem MapW.setCell {w : World} {b : Nat} {enc : κ → Value} {ok : κ → Prop} {es : List (κ × Value)} (h : MapW w b enc ok es) (p : Addr) (hp : b ≠ p.block) (u : Value) : MapW (w.setCell p u) b enc ok es := h.keep (heap_setCell_other w p b u hp)

theorem getW_of_mem {es : List (κ × Value)} (hp : es.Pairwise (fun p q => p.1 ≠ q.1)) {x : κ} {n : Value} (h : (x, n) ∈ es) : getW es x = some n := by
  induction es with
  | nil => cases h
  | cons p r ih =>
    obtain ⟨h1, h2⟩ := List.pairwise_cons.1 hp
    unfold getW
    rw [List.find?_cons]
    rcases List.mem_cons.1 h with rfl | h
    · simp
    · have : (p.1 == x) = false := by
        rw [beq_eq_false_iff_ne]
        exact h1 _ h
      rw [this]
      exact ih h2 h
theorem getW_none {es : List (κ × Value)} {x : κ} : getW es x = none ↔ ∀ p ∈ es, p.1 ≠ x := by
  simp [getW]

section
variable {P : Program} {k : TypeId} {enc : κ → Value} {ok : κ → Prop} {w : World} {b : Nat} {es : List (κ × Value)}

theorem find_w (K : KeyEnc P k enc ok) {entries : Array MapEntry} (he : entries.toList.map (fun e => (e.key, e.val)) = es.map (fun p => (enc p.1, p.2))) (hok : ∀ p ∈ es, ok p.1) (hp : es.Pairwise (fun p q => p.1 ≠ q.1)) {x : κ} (hx : ok x) :
    (getW es x = none ∧ (Instr.findKey k (enc x) entries.toList).run P w = .ok none w) ∨ ∃ n j, getW es x = some n ∧ (Instr.findKey k (enc x) entries.toList).run P w = .ok (some (j, n)) w := by
  obtain ⟨l, hl⟩ := K.read x hx
  have hmem : ∀ e ∈ entries.toList, ∃ p ∈ es, e.key = enc p.1 ∧ e.val = p.2 := fun e h => by
    have h1 : (e.key, e.val) ∈ es.map (fun p => (enc p.1, p.2)) := he ▸ List.mem_map.2 ⟨e, h, rfl⟩
    obtain ⟨p, hp, hpe⟩ := List.mem_map.1 h1
    simp only [Prod.mk.injEq] at hpe
    exact ⟨p, hp, hpe.1.symm, hpe.2.symm⟩
  rcases K.law.find w hl entries.toList (fun e h => by
    obtain ⟨p, hp, hk, _⟩ := hmem e h
    rw [hk]; exact K.read _ (hok p hp)) with ⟨h1, h2⟩ | ⟨j, e, h1, h2, h3⟩
  · refine .inl ⟨getW_none.2 (fun p hpm e => ?_), h1⟩
    have h4 : (enc p.1, p.2) ∈ entries.toList.map (fun e => (e.key, e.val)) := he ▸ List.mem_map.2 ⟨p, hpm, rfl⟩
    obtain ⟨e', he', hee⟩ := List.mem_map.1 h4
    simp only [Prod.mk.injEq] at hee
    exact h2 e' he' (by rw [hee.1, e])
  · obtain ⟨p, hpm, hk, hv⟩ := hmem e (List.mem_of_getElem? h2)
    have : p.1 = x := K.inj _ _ (hk.symm.trans h3)
    refine .inr ⟨p.2, j, getW_of_mem hp (by rw [← this]; exact hpm), by rw [← hv]; exact h1⟩

theorem run_lookup_w (K : KeyEnc P k enc ok) {t e : TypeId} (ht : P.underlying t = some (.map k e)) {z : Value} (hz : (zeroValue e).run P w = .ok z w) (h : MapW w b enc ok es) {x : κ} (hx : ok x) (c : Bool) :
    (Instr.lookup t (.map (some b)) (enc x) c).run P w = .ok (if c then .tuple #[(getW es x).getD z, .bool (getW es x).isSome] else (getW es x).getD z) w := by
  obtain ⟨en, cl, hb, he, hok, hp⟩ := h
  obtain ⟨l, hl⟩ := K.read x hx
  have hobj : (getObj b).run P w = .ok (.map en cl) w := by simp [getObj, Sem.run, hb]
  have hchk := K.law.check w en.isEmpty hl
  rcases find_w (w := w) K he hok hp hx with ⟨h1, h2⟩ | ⟨n, j, h1, h2⟩
  · cases c <;> simp [Instr.lookup, run_underlying ht, hobj, hchk, h2, h1, hz]
  · cases c <;> simp [Instr.lookup, run_underlying ht, hobj, hchk, h2, h1]

theorem run_update_w (K : KeyEnc P k enc ok) {t e : TypeId} (ht : P.underlying t = some (.map k e)) (h : MapW w b enc ok es) {x : κ} (hx : ok x) (hn : getW es x = none) (n : Value) :
    ∃ w', (Instr.mapUpdate t (.map (some b)) (enc x) n).run P w = .ok () w' ∧ MapW w' b enc ok (es ++ [(x, n)]) ∧ w.grownBy w' (some b) := by
  obtain ⟨en, cl, hb, he, hok, hp⟩ := h
  obtain ⟨l, hl⟩ := K.read x hx
  have hobj : (getObj b).run P w = .ok (.map en cl) w := by simp [getObj, Sem.run, hb]
  have hchk := K.law.check w false hl
  have hlt := lt_of_block hb
  rcases find_w (w := w) K he hok hp hx with ⟨h1, h2⟩ | ⟨m, j, h1, h2⟩
  · refine ⟨{ w with heap := w.heap.setIfInBounds b (.map (en.push { key := enc x, val := n, born := cl }) (cl + 1)) }, ?_, ?_, ?_⟩
    · simp [Instr.mapUpdate, run_underlying ht, hobj, hchk, h2, setObj, Sem.run, hb]
    · refine ⟨en.push { key := enc x, val := n, born := cl }, cl + 1, by simp [hlt], by simp [he], ?_, ?_⟩
      · intro p hpm
        rcases List.mem_append.1 hpm with hpm | hpm
        · exact hok p hpm
        · simp at hpm; subst hpm; exact hx
      · refine List.pairwise_append.2 ⟨hp, by simp, fun p hpm q hq => ?_⟩
        simp at hq; subst hq
        exact getW_none.1 h1 p hpm
    · exact ⟨rfl, rfl, rfl, by simp, fun i hi hne => by
        have : b ≠ i := fun e => hne (by rw [e])
        simp [Array.getElem?_setIfInBounds_ne this]⟩
  · rw [h1] at hn; cases hn

end
theorem MapW.obj {κ : Type} {w : World} {b : Nat} {enc : κ → Value} {ok : κ → Prop} {es : List (κ × Value)} (h : MapW w b enc ok es) : ∃ o, w.heap[b]? = some o := by
  obtain ⟨en, cl, hb, _⟩ := h
  exact ⟨_, hb⟩
def wfI (x : Int) : Prop := (Lit.int .i64 x).wf = true
def encI (x : Int) : Value := .int .i64 x
theorem wfI_of {x : Int} (h : -1 ≤ x ∧ x ≤ 100000) : wfI x := by
  unfold wfI Lit.wf
  have : IntKind.i64.wrap x = x := by rw [IntKind.wrap_i64]; omega
  simp [this, IntKind.min, IntKind.bits, IntKind.signed]; omega
/-- A map of numbers, block b, as one of the data that a call owns. -/
def MapOf (o : Obj) (es : List (Int × Value)) : Prop := ∀ w : World, ∀ b, w.heap[b]? = some o → MapW w b encI wfI es
theorem mapOf_of {w : World} {b : Nat} {es : List (Int × Value)} (h : MapW w b encI wfI es) : ∃ o, w.heap[b]? = some o ∧ MapOf o es := by
  obtain ⟨en, cl, hb, r⟩ := h
  exact ⟨_, hb, fun w' b' hb' => ⟨en, cl, hb', r⟩⟩
theorem MapOf.made : MapOf (.map #[] 0) [] := fun w b hb => ⟨#[], 0, hb, by simp, by simp, .nil⟩
theorem keyI {k : TypeId} (hk : Try.prog.underlying k = some (.int .i64)) : KeyEnc Try.prog k encI wfI :=
  ⟨int_keyed hk, fun x hx => ⟨_, keyOf_int_mk hk hx⟩, fun x y h => by unfold encI at h; cases h; rfl⟩
theorem map_lookup {W : World} {b : Nat} {o : Obj} {es : List (Int × Value)} {t e k : TypeId} {z : Value} (ht : Try.prog.underlying t = some (.map k e)) (hk : Try.prog.underlying k = some (.int .i64)) (hz : (zeroValue e).run Try.prog W = .ok z W)
    (hb : W.heap[b]? = some o) (ho : MapOf o es) {x : Int} (hx : wfI x) (c : Bool) : (Instr.lookup t (.map (some b)) (.int .i64 x) c).run Try.prog W = .ok (if c then .tuple #[(getW es x).getD z, .bool (getW es x).isSome] else (getW es x).getD z) W :=
  run_lookup_w (keyI hk) ht hz (ho W b hb) hx c
/-- A new key is stored: the list has one more. -/
theorem OwnL.mapPut {w W : World} {L : List Asn} (h : OwnL w W L) (i : Nat) {b : Nat} {o : Obj} {es : List (Int × Value)} {t e k : TypeId} (hi : L[i]? = some (.blk b o)) (ho : MapOf o es) (ht : Try.prog.underlying t = some (.map k e)) (hk : Try.prog.underlying k = some (.int .i64))
    {x : Int} (hx : wfI x) (hn : getW es x = none) (v : Value) : ∃ W' o', (Instr.mapUpdate t (.map (some b)) (.int .i64 x) v).run Try.prog W = .ok () W' ∧ MapOf o' (es ++ [(x, v)]) ∧ OwnL w W' (L.set i (.blk b o')) := by
  have h1 : w.heap.size ≤ b ∧ W.heap[b]? = some o := h.get i hi
  obtain ⟨W', hr, hm, hg⟩ := run_update_w (keyI hk) ht (ho W b h1.2) hx hn v
  obtain ⟨o', hb', hm'⟩ := mapOf_of hm
  exact ⟨W', o', hr, hm', h.step (A' := .blk b o') i hi hg (fun c hc => by cases hc; rfl) ⟨h1.1, hb'⟩ (fun c hc => .inl hc)⟩
end Go.Proofs.Yteadkafeabhhhaa
