/- Lists of numbers that are gathered; a copy by append. -/
import Derived.Test.YtggffdkgfgdaoaaDoorE9
import Derived.Test.YtggffdkgfgdaoaaDoorGH
namespace Go.Proofs.YtggffdkgfgdaoaaDoor
open Go.RowKit Go.Maps
set_option linter.unusedVariables false
set_option linter.unusedSimpArgs false
def FarV (N : Nat) (u : Value) : Prop := ∀ b o n c, u = .slice (some ⟨b, o, none⟩) n c → N ≤ b
theorem ints_same {w w' : World} {v : Value} {xs : List Int} {c : Nat} (h : IntsC w v xs c) (hb : ∀ b o n c, v = .slice (some ⟨b, o, none⟩) n c → 0 < n → w'.heap[b]? = w.heap[b]?) : IntsC w' v xs c := by
  obtain ⟨A, rfl, hc, h1, h2⟩ := h
  refine ⟨A, rfl, fun hpos => ?_, h1, h2⟩
  obtain ⟨b, o, rfl, hlt, hcc⟩ := hc hpos
  have hn : 0 < xs.length := by simpa using hpos
  have he := hb b o _ _ rfl hn
  refine ⟨b, o, rfl, ?_, fun j u hj => ?_⟩
  · rw [Array.getElem?_eq_getElem hlt] at he
    exact (Array.getElem?_eq_some_iff.1 he).1
  · rw [cell_same he]; exact hcc j u hj
/-- Lists of numbers, each in memory. -/
def LstOk (vs : List Value) (R : List (List Int)) (W : World) : Prop := vs.length = R.length ∧ ∀ (i : Nat) (u : Value) (r : List Int), vs[i]? = some u → R[i]? = some r → ∃ c, IntsC W u r c
def lsF (vs : List Value) (b : Nat) : Prop := ∃ u ∈ vs, ∃ o n c, u = .slice (some ⟨b, o, none⟩) n c ∧ 0 < n
theorem LstOk.app {vs vs' : List Value} {R R' : List (List Int)} {w : World} (h : LstOk vs R w) (h' : LstOk vs' R' w) : LstOk (vs ++ vs') (R ++ R') w := by
  refine ⟨by rw [List.length_append, List.length_append, h.1, h'.1], fun i u r hu hr => ?_⟩
  by_cases hi : i < vs.length
  · rw [List.getElem?_append_left hi] at hu
    rw [List.getElem?_append_left (by rw [← h.1]; exact hi)] at hr
    exact h.2 i u r hu hr
  · rw [List.getElem?_append_right (by omega)] at hu
    rw [List.getElem?_append_right (by rw [← h.1]; omega), ← h.1] at hr
    exact h'.2 _ u r hu hr
theorem lsAny {N : Nat} {w : World} {vs : List Value} {R : List (List Int)} (h : LstOk vs R w) (hf : ∀ u ∈ vs, FarV N u) : (Asn.any (lsF vs) (LstOk vs R)).ok N w := by
  refine ⟨fun b ⟨u, hu, o, n, c, hv, hn⟩ => ⟨hf u hu b o n c hv, ?_⟩, fun w' hb => ⟨h.1, fun i u r hu hr => ?_⟩⟩
  · obtain ⟨i, hi⟩ := List.getElem?_of_mem hu
    obtain ⟨r, hr⟩ : ∃ r, R[i]? = some r := ⟨_, List.getElem?_eq_getElem (by rw [← h.1]; exact (List.getElem?_eq_some_iff.1 hi).1)⟩
    obtain ⟨c', A, h1, hc, _, _⟩ := h.2 i u r hi hr
    rw [hv] at h1
    injection h1 with h1 h2 _
    subst h1
    obtain ⟨b', o', h3, hlt, _⟩ := hc (by simp; omega)
    cases h3; exact hlt
  · obtain ⟨c', hi⟩ := h.2 i u r hu hr
    exact ⟨c', ints_same hi fun b o n c hv hn => hb b ⟨u, List.mem_of_getElem? hu, o, n, c, hv, hn⟩⟩
theorem far_own {w : World} {N : Nat} {e : TypeId} {size : Nat} {v : Value} {n : Nat} {xs : List Value} (h : w.ownsRow N e size v n xs) : FarV N v := fun b o n' c e' => by
  rcases h.2 with ⟨h2, _⟩ | ⟨g, cap, cur, h2, hB, _⟩
  · rw [e'] at h2; cases h2
  · rw [e'] at h2; cases h2; exact hB
/-- What gathering lists owns: the lists, the row of them, and what is read. -/
def gaL (F : Nat → Prop) (vs : List Value) (R : List (List Int)) (nv : Value) (S : Nat → Prop) (Φ : World → Prop) : List Asn := [.any F (LstOk vs R), .row 28 1 nv R.length vs, .any S Φ]
def GaSt (w W : World) (S : Nat → Prop) (Φ : World → Prop) (nv : Value) (vs : List Value) (R : List (List Int)) : Prop := ∃ F, OwnL w W (gaL F vs R nv S Φ)
theorem GaSt.ext {w W : World} {S : Nat → Prop} {Φ : World → Prop} {nv : Value} {vs : List Value} {R : List (List Int)} (h : GaSt w W S Φ nv vs R) : Ext w W := by obtain ⟨F, h⟩ := h; exact OwnL.ext h
theorem GaSt.row {w W : World} {S : Nat → Prop} {Φ : World → Prop} {nv : Value} {vs : List Value} {R : List (List Int)} (h : GaSt w W S Φ nv vs R) : W.ownsRow w.heap.size 28 1 nv R.length vs ∧ LstOk vs R W ∧ Φ W := by obtain ⟨F, h⟩ := h; exact ⟨h.get 1 rfl, h.know 0 rfl, h.know 2 rfl⟩
theorem GaSt.start {w W : World} {S : Nat → Prop} {Φ : World → Prop} (h : OwnL w W [.any S Φ]) : GaSt w W S Φ (.slice none 0 0) [] [] :=
  ⟨_, (h.add (Ext.refl _) (A := .row 28 1 (.slice none 0 0) 0 []) (World.ownsRow_nil _ _ _ _)).add (Ext.refl W) (lsAny (N := W.heap.size) (vs := []) (R := []) ⟨rfl, fun i u r hu => by simp at hu⟩ (fun u hu => by cases hu))⟩
theorem GaSt.more {w W W1 W' : World} {S : Nat → Prop} {Φ : World → Prop} {nv nv' u : Value} {vs : List Value} {R : List (List Int)} {r : List Int} (h : GaSt w W S Φ nv vs R) (e : Ext W W1) (hu : W1.ownsRow W.heap.size 3 1 u r.length (r.map (.int .i64))) (hl : r.length ≤ lenMax) (hg : W1.grownBy W' nv.ownBlock) (ho : W'.ownsRow w.heap.size 28 1 nv' (R.length + 1) (vs ++ [u])) (hb : ∀ b, nv'.ownBlock = some b → nv.ownBlock = some b ∨ W1.heap.size ≤ b) : GaSt w W' S Φ nv' (vs ++ [u]) (R ++ [r]) := by
  obtain ⟨F, h⟩ := h
  have h1 := h.add e (A := .any (lsF [u]) (LstOk [u] [r])) (lsAny (vs := [u]) (R := [r]) ⟨rfl, fun i v q hv hq => by
    cases i with
    | zero =>
      simp at hv hq
      subst hv hq
      exact ints_of_owns hu hl
    | succ i => simp at hv⟩ (fun v hv => by simp at hv; subst hv; exact far_own hu))
  have h2 := h1.app 2 rfl hg ho hb
  have h3 : OwnL w W' (.any (lsF [u]) (LstOk [u] [r]) :: .any F (LstOk vs R) :: .row 28 1 nv' (R.length + 1) (vs ++ [u]) :: .any S Φ :: []) := h2
  have h4 := h3.merge.weaken (Φ' := LstOk (vs ++ [u]) (R ++ [r])) (fun W h => h.2.app h.1)
  refine ⟨fun b => lsF [u] b ∨ F b, ?_⟩
  unfold gaL
  rw [List.length_append, List.length_singleton]
  exact h4
/-- All are gathered: what is read from now on. -/
theorem GaSt.done {w W : World} {S : Nat → Prop} {Φ : World → Prop} {nv : Value} {vs : List Value} {R : List (List Int)} (h : GaSt w W S Φ nv vs R) (hl : R.length ≤ lenMax) : ∃ S' A c, nv = .slice A R.length c ∧ OwnL w W [.any S' (fun W => ListsC W (.slice A R.length c) R c)] := by
  obtain ⟨F, h⟩ := h
  obtain ⟨A, c, hv, hnc, _⟩ := cells_of_owns (h.get 1 rfl : W.ownsRow w.heap.size 28 1 nv R.length vs)
  have h1 : OwnL w W (.any F (LstOk vs R) :: .row 28 1 nv R.length vs :: .any S Φ :: []) := h
  have h2 := (h1.perm (.cons _ (List.Perm.swap _ _ _))).swap.drop.swap
  have h3 := (h2.seal (Φ := fun W => Cells W A vs) (fun W' hA => by
    obtain ⟨A', c', hv', _, hc⟩ := cells_of_owns (hA : W'.ownsRow w.heap.size 28 1 nv R.length vs)
    rw [hv] at hv'
    cases hv'
    exact hc)).merge
  have h4 := h3.weaken (Φ' := fun W => ListsC W (.slice A R.length c) R c) (fun W h => ⟨A, vs, rfl, h.1, h.2.1, fun i u es hu hes => h.2.2 i u es hu hes, hnc, hl⟩)
  exact ⟨_, A, c, hv, h4⟩
/-- append of a list to an empty one. -/
theorem run_copy {w : World} {ts : List Int} {c b : Nat} {v : Value} {ty : TypeId} (hv : IntsC w v ts c) (hlen : ts.length ≤ 1000) (hb : w.heap[b]? = some (.cells #[] 3 (0, 0))) :
    ∃ v' w', (Builtin.append_ #[28, 28] ty #[.slice (some ⟨b, 0, none⟩) 0 0, v]).run Tryd.prog w = .ok v' w' ∧ w'.ownsRow b 3 1 v' ts.length (ts.map (.int .i64)) ∧ w.grownBy w' (some b) ∧ (∀ k, v'.ownBlock = some k → k = b ∨ w.heap.size ≤ k) := by
  obtain ⟨i3, hi3, hz3, hs3, hb3⟩ := info_parts int_info
  have hown : w.ownsRow b 3 1 (.slice (some ⟨b, 0, none⟩) 0 0) 0 [] := ⟨rfl, .inr ⟨b, 0, #[], rfl, Nat.le_refl _, hb, Nat.le_refl _, by unfold maxLen; omega, rfl, rfl⟩⟩
  obtain ⟨At, rfl, htc, htn, htm⟩ := hv
  cases At with
  | none =>
    have h0 : ts = [] := by
      cases hq : ts with
      | nil => rfl
      | cons u t =>
        obtain ⟨b', o', h, _⟩ := htc (by rw [hq]; simp)
        cases h
    subst h0
    refine ⟨_, w, run_append_none (P := Tryd.prog) 28 ty 3 i3 Tryd.underlying28 hi3 b 0 0 c (Nat.le_refl 0) w, hown, ⟨rfl, rfl, rfl, Nat.le_refl _, fun _ _ _ => rfl⟩, fun k hk => .inl ?_⟩
    simp [Value.ownBlock] at hk
    exact hk.symm
  | some ad =>
    have hnews : ∀ j u, (ts.map (Value.int .i64))[j]? = some u → w.cell? (ad.add j) = some u := fun j u hj => by
      obtain ⟨b', o', h, _, hc⟩ := htc (by have := (List.getElem?_eq_some_iff.1 hj).1; omega)
      cases h
      rw [Addr.add_lit]
      exact hc j u hj
    obtain ⟨v', w', hr, h2, h3, h4⟩ := run_append_own2 (P := Tryd.prog) (w := w) b 28 ty 3 i3 (.int .i64 0) 1 8 Tryd.underlying28 hi3 hz3 hs3 hb3 rfl (by decide) (.slice (some ⟨b, 0, none⟩) 0 0) 0 [] hown ad ts.length c (ts.map (.int .i64)) (by simp) hnews
      (fun u hu => by obtain ⟨z, _, rfl⟩ := List.mem_map.1 hu; rfl) (by unfold maxLen; omega) (by omega) (Nat.le_of_lt (lt_of_block hb))
    rw [Nat.zero_add, List.nil_append] at h2
    refine ⟨v', w', hr, h2, h3, fun k hk => ?_⟩
    rcases h4 k hk with h | h
    · left; simp [Value.ownBlock] at h; exact h.symm
    · exact .inr h
theorem wpList_copy {w : World} {ops : Array Oper} {rest : List Oper} {o : Oper} {a : Act} {Q : Exit → Act → World → Prop} (hgd : o.guard = none) (s x : Operand)
    (ho : o.op = .call { callee := .builtin .append, args := #[s, x], argTypes := #[28, 28] }) {ts : List Int} {c b : Nat} {v : Value} (hs : a.eval s = .slice (some ⟨b, 0, none⟩) 0 0) (hx : a.eval x = v) (hv : IntsC w v ts c) (hlen : ts.length ≤ 1000) (hb : w.heap[b]? = some (.cells #[] 3 (0, 0)))
    (h : ∀ v' w', w'.ownsRow b 3 1 v' ts.length (ts.map (.int .i64)) → w.grownBy w' (some b) → wpList Tryd.prog ops Q rest (a.put o.dst v') w') : wpList Tryd.prog ops Q (o :: rest) a w :=
  wpList_plain hgd fun K hK => by
    obtain ⟨v', w', hr, h2, h3, _⟩ := run_copy (ty := o.type) hv hlen hb
    unfold Oper.wp execOp
    simp only [ho, resolve, invoke, builtin, Sem.run_bind, Sem.run_pure, Result.andThen_ok, List.map_toArray, List.map_cons, List.map_nil, hs, hx, hr]
    exact hK _ _ (h v' w' h2 h3)
theorem dom_len : ∀ (l : List Vt), ∀ p ∈ domL l, p.length = l.length := fun l => by
  induction l using snoc_ind with
  | h0 => intro p hp; simp [domL] at hp; subst hp; rfl
  | h1 l v ih =>
    intro p hp
    rw [domL_snoc] at hp
    unfold domS at hp
    obtain ⟨q, hq, hp⟩ := List.mem_flatMap.1 hp
    obtain ⟨y, _, rfl⟩ := List.mem_map.1 hp
    rw [List.length_append, ih q hq, List.length_append]; rfl
/-- The lists that are there after k of the old ones and j values. -/
def domK (O : List (List Int)) (v : Vt) (k : Nat) : List (List Int) := (O.take k).flatMap (fun p => (spanL v).map (fun x => p ++ [x]))
def domJ (O : List (List Int)) (v : Vt) (k j : Nat) : List (List Int) := domK O v k ++ ((spanL v).take j).map (fun x => O.getD k [] ++ [x])
theorem domK_all (O : List (List Int)) (v : Vt) : domK O v O.length = domS O v := by unfold domK domS; rw [List.take_length]
theorem domK_zero (O : List (List Int)) (v : Vt) : domK O v 0 = [] := rfl
theorem domK_more {O : List (List Int)} {v : Vt} {k : Nat} (hk : k < O.length) {j : Nat} (hj : (spanL v).length ≤ j) : domJ O v k j = domK O v (k + 1) := by
  unfold domJ domK
  rw [List.take_of_length_le hj, List.take_add_one, List.flatMap_append, List.getElem?_eq_getElem hk]
  simp [List.getD_eq_getElem?_getD, List.getElem?_eq_getElem hk]
theorem domJ_zero (O : List (List Int)) (v : Vt) (k : Nat) : domJ O v k 0 = domK O v k := by unfold domJ; simp
theorem domJ_more {O : List (List Int)} {v : Vt} {k j : Nat} (hj : j < (spanL v).length) : domJ O v k (j + 1) = domJ O v k j ++ [O.getD k [] ++ [v.2.1 + (j : Int)]] := by
  unfold domJ
  have : (spanL v)[j]? = some (v.2.1 + (j : Int)) := by
    rw [span_len] at hj
    unfold spanL
    rw [List.getElem?_map, List.getElem?_range hj]; rfl
  rw [List.take_add_one, this]; simp
theorem domK_le (O : List (List Int)) (v : Vt) (k : Nat) : (domK O v k).length = (O.take k).length * (spanL v).length := by
  unfold domK
  induction (O.take k) with
  | nil => simp
  | cons a L ih => rw [List.flatMap_cons, List.length_append, ih, List.length_map, List.length_cons, Nat.succ_mul]; omega
theorem domJ_lt {O : List (List Int)} {v : Vt} {k j : Nat} (hk : k < O.length) (hj : j < (spanL v).length) : (domJ O v k j).length < (domS O v).length := by
  rw [← domK_all, domK_le, List.take_length]
  unfold domJ
  rw [List.length_append, domK_le, List.length_map, List.length_take, List.length_take]
  have h1 : (min k O.length) * (spanL v).length + (spanL v).length ≤ O.length * (spanL v).length := by
    rw [← Nat.succ_mul]
    exact Nat.mul_le_mul_right _ (by omega)
  omega
end Go.Proofs.YtggffdkgfgdaoaaDoor
