/- Valid machines; lists of truths. -/


import Derived.Test.YteadkafeabhhhaaB1
import Derived.Test.YteadkafeabhhhaaOwn
namespace Go.Proofs.Yteadkafeabhhhaa
open Go.RowKit
set_option linter.unusedVariables false
set_option linter.unusedSimpArgs false
attribute [local go_sem] Oper.quietV quietV Oper.gives givesV

structure Valid (m : Mach) : Prop where
  ins : 1 ≤ m.ins ∧ m.ins ≤ 16
  outs : 1 ≤ m.outs ∧ m.outs ≤ 16
  size : 1 ≤ m.rows.length ∧ m.rows.length ≤ 64
  len : ∀ r ∈ m.rows, (r.length : Int) = m.ins
  fit : ∀ r ∈ m.rows, ∀ e ∈ r, fitsB m e = true

theorem valid_iff (m : Mach) : checkM m = 0 ↔ Valid m := by
  unfold checkM
  constructor
  · intro h
    by_cases h0 : lead m = 0
    · simp only [h0, ne_eq, not_true_eq_false, if_false] at h
      unfold lead at h0
      split at h0
      · omega
      · rename_i h1
        split at h0
        · omega
        · rename_i h2
          have h3 : m.rows.any (badRow m) = false := by
            cases hh : m.rows.any (badRow m)
            · rfl
            · rw [hh] at h; simp at h
          rw [List.any_eq_false] at h3
          refine ⟨by omega, by omega, by omega, fun r hr => ?_, fun r hr e he => ?_⟩
          · have := h3 r hr
            simp only [badRow, Bool.or_eq_true, not_or, Bool.not_eq_true] at this
            simpa using this.1
          · have := h3 r hr
            simp only [badRow, Bool.or_eq_true, not_or, Bool.not_eq_true] at this
            have := List.any_eq_false.1 this.2 e he
            simpa using this
    · simp only [ne_eq, h0, not_false_eq_true, if_true] at h
  · intro h
    have h0 : lead m = 0 := by
      have := h.ins; have := h.outs; have := h.size
      unfold lead
      rw [if_neg (by omega), if_neg (by omega)]
    simp only [h0, ne_eq, not_true_eq_false, if_false]
    have h3 : m.rows.any (badRow m) = false := by
      rw [List.any_eq_false]
      intro r hr
      simp only [badRow, Bool.or_eq_true, not_or, Bool.not_eq_true]
      refine ⟨by simpa using h.len r hr, ?_⟩
      rw [rowBad, List.any_eq_false]
      intro e he
      simp [h.fit r hr e he]
    rw [h3]; rfl


def FitC (w : World) (v : Value) (xs : List Int) : Prop := IntsC w v xs xs.length
def BoolsC (w : World) (v : Value) (xs : List Bool) (c : Nat) : Prop := ∃ A, v = .slice A xs.length c ∧ Cells w A (xs.map .bool) ∧ xs.length ≤ c ∧ xs.length ≤ lenMax
theorem BoolsC.ext {w w' : World} {v : Value} {xs : List Bool} {c : Nat} (h : BoolsC w v xs c) (e : Ext w w') : BoolsC w' v xs c := by
  obtain ⟨A, hv, hc, hr⟩ := h
  exact ⟨A, hv, hc.ext e, hr⟩
theorem Cells.at_bool {w : World} {A : Option Addr} {xs : List Bool} (h : Cells w A (xs.map .bool)) {k : Nat} (hk : k < xs.length) :
    ∃ b o, A = some ⟨b, o, none⟩ ∧ b < w.heap.size ∧ w.cell? ⟨b, o + k, none⟩ = some (.bool xs[k]) := by
  obtain ⟨b, o, hA, hb, hc⟩ := h (by simp; omega)
  exact ⟨b, o, hA, hb, hc k _ (by simp [hk])⟩
theorem bools_of_owns {w : World} {base : Nat} {e : TypeId} {v : Value} {xs : List Bool} {n : Nat} (h : w.ownsRow base e 1 v n (xs.map .bool)) (hn : xs.length = n) (hl : n ≤ lenMax) : ∃ c, BoolsC w v xs c := by
  subst hn
  obtain ⟨A, c, rfl, hn, hc⟩ := cells_of_owns h
  exact ⟨c, A, rfl, hc, hn, hl⟩
theorem fit_of_owns {w : World} {base : Nat} {e : TypeId} {xs : List Int} {n g : Nat} (h : w.ownsRow base e 1 (.slice (some ⟨g, 0, none⟩) n n) n (xs.map (.int .i64))) (hn : xs.length = n) (hl : n ≤ lenMax) : FitC w (.slice (some ⟨g, 0, none⟩) n n) xs := by
  subst hn
  obtain ⟨A, c, hv, hn, hc⟩ := cells_of_owns h
  cases hv
  exact ⟨_, rfl, hc, Nat.le_refl _, hl⟩
theorem int_info : (Try.prog.info? 3).map (fun i => (i.zero, i.size, i.bytes)) = some (some (.int .i64 0), 1, 8) := by kernel_rfl
theorem bool_info : (Try.prog.info? 4).map (fun i => (i.zero, i.size, i.bytes)) = some (some (.bool false), 1, 1) := by kernel_rfl
theorem ints_info : (Try.prog.info? 37).map (fun i => (i.zero, i.size, i.bytes)) = some (some (.slice none 0 0), 1, 24) := by kernel_rfl
theorem ints_zero (n : Nat) : ((madeCells (Value.int .i64 0).cells (n * 1)).toList) = List.replicate n (.int .i64 0) := by
  rw [Nat.mul_one, show (Value.int .i64 0).cells = #[.int .i64 0] from rfl, toList_madeCells_one]
theorem bools_zero (n : Nat) : ((madeCells (Value.bool false).cells (n * 1)).toList) = List.replicate n (.bool false) := by
  rw [Nat.mul_one, show (Value.bool false).cells = #[.bool false] from rfl, toList_madeCells_one]
theorem slices_zero (n : Nat) : ((madeCells (Value.slice none 0 0).cells (n * 1)).toList) = List.replicate n (.slice none 0 0) := by
  rw [Nat.mul_one, show (Value.slice none 0 0).cells = #[.slice none 0 0] from rfl, toList_madeCells_one]
theorem step_append_own2 {P : Program} {ops : Array Oper} {o : Oper} {a : Act} {w : World} {K : Act → World → Prop} {Q : Exit → Act → World → Prop} {E : Prop}
    (hg : o.guard = none) (s x : Operand) (t : TypeId) (ho : o.op = .call { callee := .builtin .append, args := #[s, x], argTypes := #[t, t] })
    (base : Nat) (e : TypeId) (i : TypeInfo) (z : Value) (size bytes : Nat) (ht : P.underlying t = some (.slice e)) (hi : P.info? e = some i) (hz : i.zero = some z)
    (hsize : i.size = size) (hby : i.bytes = bytes) (hzs : z.cells.size = size) (hsz : 0 < size)
    (v : Value) (n : Nat) (xs : List Value) (hs : a.eval s = v) (hown : w.ownsRow base e size v n xs)
    (ad : Addr) (m c : Nat) (news : List Value) (hx : a.eval x = .slice (some ad) m c) (hl : news.length = m * size) (hnews : ∀ j u, news[j]? = some u → w.cell? (ad.add j) = some u) (h1 : ∀ u ∈ news, u.oneCell' = true)
    (h63 : n + m ≤ maxLen) (hbytes : (n + m) * bytes ≤ 140737488355328) (hbase : base ≤ w.heap.size)
    (h : ∀ v' w', w'.ownsRow base e size v' (n + m) (xs ++ news) → w.grownBy w' v.ownBlock → (∀ b, v'.ownBlock = some b → v.ownBlock = some b ∨ w.heap.size ≤ b) → K (a.put o.dst v') w') :
    if Region.wanted o (yielded ops a.tmps) = true then Oper.wp P o a w K Q else E := by
  have hw : Region.wanted o (yielded ops a.tmps) = true := by simp [Region.wanted, hg]
  rw [if_pos hw]
  exact wp_append_own2 s x t ho base e i z size bytes ht hi hz hsize hby hzs hsz v n xs hs hown ad m c news hx hl hnews h1 h63 hbytes hbase h
theorem wpList_append_own2 {P : Program} {w : World} {ops : Array Oper} {rest : List Oper} {o : Oper} {a : Act} {Q : Exit → Act → World → Prop} (hgd : o.guard = none) (s x : Operand) (t : TypeId)
    (ho : o.op = .call { callee := .builtin .append, args := #[s, x], argTypes := #[t, t] })
    (base : Nat) (e : TypeId) (i : TypeInfo) (z : Value) (size bytes : Nat) (ht : P.underlying t = some (.slice e)) (hi : P.info? e = some i) (hz : i.zero = some z)
    (hsize : i.size = size) (hby : i.bytes = bytes) (hzs : z.cells.size = size) (hsz : 0 < size)
    (v : Value) (n : Nat) (xs : List Value) (hs : a.eval s = v) (hown : w.ownsRow base e size v n xs)
    (ad : Addr) (m c : Nat) (news : List Value) (hx : a.eval x = .slice (some ad) m c) (hl : news.length = m * size) (hnews : ∀ j u, news[j]? = some u → w.cell? (ad.add j) = some u) (h1 : ∀ u ∈ news, u.oneCell' = true)
    (h63 : n + m ≤ maxLen) (hbytes : (n + m) * bytes ≤ 140737488355328) (hbase : base ≤ w.heap.size)
    (h : ∀ v' w', w'.ownsRow base e size v' (n + m) (xs ++ news) → w.grownBy w' v.ownBlock → (∀ b, v'.ownBlock = some b → v.ownBlock = some b ∨ w.heap.size ≤ b) → wpList P ops Q rest (a.put o.dst v') w') : wpList P ops Q (o :: rest) a w :=
  wpList_plain hgd fun _ hK => wp_append_own2 s x t ho base e i z size bytes ht hi hz hsize hby hzs hsz v n xs hs hown ad m c news hx hl hnews h1 h63 hbytes hbase fun v' w' h2 h3 h4 => hK _ _ (h v' w' h2 h3 h4)
theorem cells_new (W : World) (cs : Array Value) (t : TypeId) : ∀ (j : Nat) (u : Value), cs.toList[j]? = some u → (W.alloc (.cells cs t)).cell? ((⟨W.heap.size, 0, none⟩ : Addr).add j) = some u := by
  intro j u h
  rw [Addr.add_lit]
  have hb : (W.alloc (.cells cs t)).heap[W.heap.size]? = some (.cells cs t) := heap_alloc_new W _
  rw [Nat.zero_add]
  refine (cell_of_row _ _ j cs t (0, 0) hb).trans ?_
  simpa using h
theorem one_int (x : Int) : ∀ u ∈ [Value.int .i64 x], u.oneCell' = true := by intro u hu; simp at hu; subst hu; rfl
theorem one_bool (x : Bool) : ∀ u ∈ [Value.bool x], u.oneCell' = true := by intro u hu; simp at hu; subst hu; rfl
theorem one_slice (x : Option Addr) (n c : Nat) : ∀ u ∈ [Value.slice x n c], u.oneCell' = true := by intro u hu; simp at hu; subst hu; rfl
theorem cell_own {w W : World} {L : List Asn} (h : OwnL w W L) (k : Nat) {e g n c : Nat} {xs : List Value} (hk : L[k]? = some (.row e 1 (.slice (some ⟨g, 0, none⟩) n c) n xs)) {j : Nat} {u : Value} (hj : xs[j]? = some u) : W.cell? ⟨g, j, none⟩ = some u := by
  have h1 : W.ownsRow w.heap.size e 1 (.slice (some ⟨g, 0, none⟩) n c) n xs := h.get k hk
  have := h1.cells (g := g) rfl j u hj
  rw [Addr.add_lit, Nat.zero_add] at this
  exact this
theorem free_own {w W : World} {L : List Asn} (h : OwnL w W L) (k : Nat) {e g n c : Nat} {xs : List Value} (hk : L[k]? = some (.row e 1 (.slice (some ⟨g, 0, none⟩) n c) n xs)) (j : Nat) : W.frozen? ⟨g, j, none⟩ = false := by
  have h1 : W.ownsRow w.heap.size e 1 (.slice (some ⟨g, 0, none⟩) n c) n xs := h.get k hk
  exact h1.frozenAt j
theorem free_rows {w W : World} {L : List Asn} (h : OwnL w W L) (k : Nat) {e1 e2 s2 g c : Nat} {vs : List Value} {rs : List (Nat × List Value)} (hk : L[k]? = some (.rows e1 e2 s2 (.slice (some ⟨g, 0, none⟩) vs.length c) vs rs)) (j : Nat) : W.frozen? ⟨g, j, none⟩ = false := by
  have h1 : OwnRows W w.heap.size e1 e2 s2 (.slice (some ⟨g, 0, none⟩) vs.length c) vs rs := h.get k hk
  exact h1.own.frozenAt j
theorem cell_rows {w W : World} {L : List Asn} (h : OwnL w W L) (k : Nat) {e1 e2 s2 g c : Nat} {vs : List Value} {rs : List (Nat × List Value)} (hk : L[k]? = some (.rows e1 e2 s2 (.slice (some ⟨g, 0, none⟩) vs.length c) vs rs)) {j : Nat} {u : Value} (hj : vs[j]? = some u) : W.cell? ⟨g, j, none⟩ = some u := by
  have h1 : OwnRows W w.heap.size e1 e2 s2 (.slice (some ⟨g, 0, none⟩) vs.length c) vs rs := h.get k hk
  have := h1.own.cells (g := g) rfl j u hj
  rw [Addr.add_lit, Nat.zero_add] at this
  exact this
theorem OwnL.ints {w W : World} {L : List Asn} (h : OwnL w W L) (k : Nat) {e n g : Nat} {xs : List Int} (hk : L[k]? = some (.row e 1 (.slice (some ⟨g, 0, none⟩) n n) n (xs.map (.int .i64)))) (hn : xs.length = n) (hl : n ≤ lenMax) : FitC W (.slice (some ⟨g, 0, none⟩) n n) xs := fit_of_owns (h.get k hk) hn hl
/-- New rows, all of them nil. -/
theorem nils_own {W W' : World} {e1 e2 s2 g n : Nat} (h : W'.ownsRow W.heap.size e1 1 (.slice (some ⟨g, 0, none⟩) n n) n (List.replicate n (.slice none 0 0))) :
    Asn.ok W.heap.size W' (.rows e1 e2 s2 (.slice (some ⟨g, 0, none⟩) (List.replicate n (Value.slice none 0 0)).length n) (List.replicate n (.slice none 0 0)) (List.replicate n (0, []))) := by
  have hr : ∀ (j : Nat) (u : Value), (List.replicate n (Value.slice none 0 0))[j]? = some u → u = .slice none 0 0 := fun j u hj => by
    rw [List.getElem?_replicate] at hj; split at hj <;> simp_all
  refine ⟨by simpa using h, by simp, fun j u r hj hj' => ?_, fun i j u u' hi hj _ b hb => ?_, fun j u hj b hb => ?_⟩
  · rw [hr j u hj]
    have : r = (0, []) := by rw [List.getElem?_replicate] at hj'; split at hj' <;> simp_all
    subst this
    exact World.ownsRow_nil _ _ _ _
  · rw [hr i u hi] at hb; cases hb
  · rw [hr j u hj] at hb; cases hb
/-- v is a new list of just these numbers, without spare room. -/
def OwnI (w w' : World) (v : Value) (xs : List Int) : Prop := ∃ A, v = .slice A xs.length xs.length ∧ w'.ownsRow w.heap.size 3 1 v xs.length (xs.map (.int .i64))
def OwnB (w w' : World) (v : Value) (xs : List Bool) : Prop := ∃ A, v = .slice A xs.length xs.length ∧ w'.ownsRow w.heap.size 4 1 v xs.length (xs.map .bool)
def FitB (w : World) (v : Value) (xs : List Bool) : Prop := BoolsC w v xs xs.length
theorem OwnI.fit {w w' : World} {v : Value} {xs : List Int} (h : OwnI w w' v xs) (hl : xs.length ≤ 100000) : FitC w' v xs := by
  obtain ⟨A, rfl, h⟩ := h
  obtain ⟨A', c, hv, hn, hc⟩ := cells_of_owns h
  cases hv
  exact ⟨_, rfl, hc, Nat.le_refl _, by unfold lenMax; omega⟩
theorem OwnB.fit {w w' : World} {v : Value} {xs : List Bool} (h : OwnB w w' v xs) (hl : xs.length ≤ 100000) : FitB w' v xs := by
  obtain ⟨A, rfl, h⟩ := h
  obtain ⟨A', c, hv, hn, hc⟩ := cells_of_owns h
  cases hv
  exact ⟨_, rfl, hc, Nat.le_refl _, by unfold lenMax; omega⟩
theorem OwnI.ext {w w' w'' : World} {v : Value} {xs : List Int} (h : OwnI w w' v xs) (e : Ext w' w'') : OwnI w w'' v xs := by
  obtain ⟨A, hv, h⟩ := h
  exact ⟨A, hv, ownsRow_ext h e⟩
theorem OwnB.ext {w w' w'' : World} {v : Value} {xs : List Bool} (h : OwnB w w' v xs) (e : Ext w' w'') : OwnB w w'' v xs := by
  obtain ⟨A, hv, h⟩ := h
  exact ⟨A, hv, ownsRow_ext h e⟩
theorem OwnI.mono {w0 w w' : World} {v : Value} {xs : List Int} (h : OwnI w w' v xs) (e : Ext w0 w) : OwnI w0 w' v xs := by
  obtain ⟨A, hv, h⟩ := h
  exact ⟨A, hv, own_mono h e.size⟩
theorem OwnB.mono {w0 w w' : World} {v : Value} {xs : List Bool} (h : OwnB w w' v xs) (e : Ext w0 w) : OwnB w0 w' v xs := by
  obtain ⟨A, hv, h⟩ := h
  exact ⟨A, hv, own_mono h e.size⟩
end Go.Proofs.Yteadkafeabhhhaa
