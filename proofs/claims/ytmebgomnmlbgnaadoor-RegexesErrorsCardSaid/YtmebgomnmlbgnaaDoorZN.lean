/-       -/
import Derived.Test.YtmebgomnmlbgnaaDoorZM
import Derived.Test.YtmebgomnmlbgnaaDoorZK
import Derived.Test.YtmebgomnmlbgnaaDoorZA
import Derived.Deep.MidRow
import Derived.Great.BuildSlice
set_option linter.unnecessarySimpa false
set_option linter.unusedSectionVars false
namespace Go.Proofs.YtmebgomnmlbgnaaDoor
open Go.RowKit Go.Maps
set_option linter.unusedVariables false
set_option linter.unusedSimpArgs false
structure DN where
  rows : List (List Nat)
  acc : List Bool
deriving DecidableEq
def DN.nx (D : DN) (s a : Nat) : Nat := (D.rows.getD s []).getD a 0
def DN.ac (D : DN) (s : Nat) : Bool := D.acc.getD s false
def DN.dfa (m : Nat) (D : DN) : Dfa := ⟨m, D.rows.map (·.map Int.ofNat), D.acc⟩
structure DN.ok (m : Nat) (D : DN) : Prop where
  pos : 0 < D.rows.length
  big : D.rows.length ≤ 256
  acc : D.acc.length = D.rows.length
  row : ∀ r ∈ D.rows, r.length = m ∧ ∀ x ∈ r, x < D.rows.length
theorem DN.ok.nx {m : Nat} {D : DN} (h : D.ok m) {s a : Nat} (hs : s < D.rows.length) (ha : a < m) : D.nx s a < D.rows.length := by
  unfold DN.nx
  have h1 := h.row D.rows[s] (List.getElem_mem hs)
  have e : D.rows.getD s [] = D.rows[s] := by simp [List.getD, List.getElem?_eq_getElem hs]
  rw [e]
  have ha' : a < D.rows[s].length := by rw [h1.1]; exact ha
  have e2 : D.rows[s].getD a 0 = D.rows[s][a] := by simp [List.getD, List.getElem?_eq_getElem ha']
  rw [e2]
  exact h1.2 _ (List.getElem_mem ha')
def DBox (W : World) (b m : Nat) (D : DN) : Prop := ∃ rv av, W.heap[b]? = some (.cells #[.int .i64 (m : Int), rv, av] 28 (0, 0)) ∧ DfaV W (.agg #[.int .i64 (m : Int), rv, av]) (D.dfa m)
theorem DBox.ext {W W' : World} {b m : Nat} {D : DN} (h : DBox W b m D) (e : Ext W W') : DBox W' b m D := by
  obtain ⟨rv, av, h1, h2⟩ := h
  exact ⟨rv, av, heap_ext e h1, h2.ext e⟩
theorem DfaV.parts {W : World} {m : Nat} {D : DN} {rv av : Value} (h : DfaV W (.agg #[.int .i64 (m : Int), rv, av]) (D.dfa m)) : ∃ cr ca, ListsC W rv (D.rows.map (·.map Int.ofNat)) cr ∧ BoolsC W av D.acc ca := by
  obtain ⟨rv', cr, av', ca, he, h1, h2⟩ := h
  simp only [Value.agg.injEq, Array.mk.injEq, List.cons.injEq, and_true] at he
  obtain ⟨_, rfl, rfl⟩ := he
  exact ⟨cr, ca, h1, h2⟩
theorem lists_row {W : World} {m : Nat} {D : DN} (hD : D.ok m) {rv : Value} {cr : Nat} (h : ListsC W rv (D.rows.map (·.map Int.ofNat)) cr) {s a : Nat} (hs : s < D.rows.length) (ha : a < m) :
    ∃ g o g2 o2 c2, rv = .slice (some ⟨g, o, none⟩) D.rows.length cr ∧ W.cell? ⟨g, o + s, none⟩ = some (.slice (some ⟨g2, o2, none⟩) m c2) ∧ W.cell? ⟨g2, o2 + a, none⟩ = some (.int .i64 (D.nx s a : Int)) := by
  have hs' : s < (D.rows.map (·.map Int.ofNat)).length := by simpa using hs
  obtain ⟨g, o, u, c', hv, _, h1, A, hu, hc, _, _⟩ := h.at_ hs'
  have h2 := hD.row D.rows[s] (List.getElem_mem hs)
  have hg : (D.rows.map (·.map Int.ofNat))[s] = D.rows[s].map Int.ofNat := by simp
  rw [hg] at hu hc
  rw [List.length_map] at hv hu
  have ha' : a < (D.rows[s].map Int.ofNat).length := by rw [List.length_map, h2.1]; exact ha
  obtain ⟨g2, o2, rfl, _, h3⟩ := hc.at_int ha'
  refine ⟨g, o, g2, o2, c', hv, ?_, ?_⟩
  · rw [h1, hu, h2.1]
  · rw [h3]
    have ha2 : a < D.rows[s].length := by rw [h2.1]; exact ha
    congr 2
    rw [List.getElem_map]
    show ((D.rows[s][a] : Nat) : Int) = _
    unfold DN.nx
    simp [List.getD, List.getElem?_eq_getElem hs, List.getElem?_eq_getElem ha2]
theorem bools_row {W : World} {D : DN} {av : Value} {ca : Nat} (h : BoolsC W av D.acc ca) {s : Nat} (hs : s < D.acc.length) :
    ∃ g o, av = .slice (some ⟨g, o, none⟩) D.acc.length ca ∧ W.cell? ⟨g, o + s, none⟩ = some (.bool (D.ac s)) := by
  obtain ⟨A, hv, hc, _⟩ := h
  obtain ⟨g, o, rfl, _, h1⟩ := hc.at_bool hs
  refine ⟨g, o, hv, ?_⟩
  rw [h1]; unfold DN.ac; simp [List.getD, List.getElem?_eq_getElem hs]
theorem DBox.row {W : World} {b m : Nat} {D : DN} (h : DBox W b m D) (hD : D.ok m) {s a : Nat} (hs : s < D.rows.length) (ha : a < m) :
    ∃ g o c g2 o2 c2, W.cell? ⟨b, 1, none⟩ = some (.slice (some ⟨g, o, none⟩) D.rows.length c) ∧ W.cell? ⟨g, o + s, none⟩ = some (.slice (some ⟨g2, o2, none⟩) m c2) ∧ W.cell? ⟨g2, o2 + a, none⟩ = some (.int .i64 (D.nx s a : Int)) := by
  obtain ⟨rv, av, h1, h2⟩ := h
  obtain ⟨cr, ca, h3, _⟩ := h2.parts
  obtain ⟨g, o, g2, o2, c2, hv, h5, h6⟩ := lists_row hD h3 hs ha
  subst hv
  exact ⟨g, o, cr, g2, o2, c2, cell_of_blk h1 1 rfl, h5, h6⟩
theorem DBox.accs {W : World} {b m : Nat} {D : DN} (h : DBox W b m D) (hD : D.ok m) {s : Nat} (hs : s < D.rows.length) :
    ∃ g o c, W.cell? ⟨b, 2, none⟩ = some (.slice (some ⟨g, o, none⟩) D.rows.length c) ∧ W.cell? ⟨g, o + s, none⟩ = some (.bool (D.ac s)) := by
  obtain ⟨rv, av, h1, h2⟩ := h
  obtain ⟨cr, ca, _, h4⟩ := h2.parts
  obtain ⟨g, o, hv, h5⟩ := bools_row h4 (s := s) (by rw [hD.acc]; exact hs)
  subst hv
  refine ⟨g, o, ca, ?_, h5⟩
  rw [← hD.acc]
  exact cell_of_blk h1 2 rfl
end Go.Proofs.YtmebgomnmlbgnaaDoor

namespace Go.Proofs.YtmebgomnmlbgnaaDoor
open Go.RowKit Go.Maps
set_option linter.unusedVariables false
set_option linter.unusedSimpArgs false
attribute [local go_sem] Oper.quietV quietV Oper.gives givesV ext_refl_iff ext_alloc_iff ext_drew_iff ext_drewN_iff
section
variable {κ : Type} [BEq κ] [LawfulBEq κ]
def MapOf (enc : κ → Value) (ok : κ → Prop) (o : Obj) (es : List (κ × Int)) : Prop := ∀ (w : World) (b : Nat), w.heap[b]? = some o → MapIs w b enc ok es
omit [BEq κ] [LawfulBEq κ] in
theorem mapOf_of {w : World} {b : Nat} {enc : κ → Value} {ok : κ → Prop} {es : List (κ × Int)} (h : MapIs w b enc ok es) : ∃ o, w.heap[b]? = some o ∧ MapOf enc ok o es := by
  obtain ⟨en, cl, hb, r⟩ := h
  exact ⟨_, hb, fun w' b' hb' => ⟨en, cl, hb', r⟩⟩
omit [BEq κ] [LawfulBEq κ] in
theorem MapOf.made (enc : κ → Value) (ok : κ → Prop) : MapOf enc ok (.map #[] 0) [] := fun w b hb => ⟨#[], 0, hb, by simp, by simp, .nil⟩
theorem OwnL.mapPut {w W : World} {L : List Asn} (h : OwnL w W L) (i : Nat) {b : Nat} {o : Obj} {enc : κ → Value} {ok : κ → Prop} {es : List (κ × Int)} {t e k : TypeId} (hi : L[i]? = some (.blk b o)) (ho : MapOf enc ok o es) (K : KeyEnc Tryd.prog k enc ok) (ht : Tryd.prog.underlying t = some (.map k e))
    {x : κ} (hx : ok x) (hn : getM es x = none) (n : Int) {v : Value} (hv : v = enc x) : ∃ W' o', (Instr.mapUpdate t (.map (some b)) v (.int .i64 n)).run Tryd.prog W = .ok () W' ∧ MapOf enc ok o' (es ++ [(x, n)]) ∧ OwnL w W' (L.set i (.blk b o')) ∧ W.grownBy W' (some b) ∧ W'.heap[b]? = some o' := by
  subst hv
  have h1 : w.heap.size ≤ b ∧ W.heap[b]? = some o := h.get i hi
  obtain ⟨W', hr, hm, hg⟩ := run_update_new K ht (ho W b h1.2) hx hn n
  obtain ⟨o', hb', hm'⟩ := mapOf_of hm
  exact ⟨W', o', hr, hm', h.step (A' := .blk b o') i hi hg (fun c hc => by cases hc; rfl) ⟨h1.1, hb'⟩ (fun c hc => .inl hc), hg, hb'⟩
end
section
variable {κ : Type} [BEq κ] [LawfulBEq κ]
def mapZ (l : List κ) : List (κ × Int) := l.zipIdx.map (fun p => (p.1, (p.2 : Int)))
omit [BEq κ] [LawfulBEq κ] in
theorem mapZ_len (l : List κ) : (mapZ l).length = l.length := by simp [mapZ]
omit [BEq κ] [LawfulBEq κ] in
theorem mapZ_snoc (l : List κ) (t : κ) : mapZ (l ++ [t]) = mapZ l ++ [(t, (l.length : Int))] := by simp [mapZ, List.zipIdx_append]
omit [BEq κ] [LawfulBEq κ] in
theorem mapZ_key {l : List κ} {p : κ × Int} (h : p ∈ mapZ l) : p.1 ∈ l := by
  unfold mapZ at h
  obtain ⟨q, hq, rfl⟩ := List.mem_map.1 h
  exact List.fst_mem_of_mem_zipIdx hq
theorem mapZ_none {l : List κ} {t : κ} (h : t ∉ l) : getM (mapZ l) t = none := getM_none.2 (fun p hp e => h (e ▸ mapZ_key hp))
omit [BEq κ] [LawfulBEq κ] in
theorem mapZ_pair {l : List κ} (h : l.Nodup) : (mapZ l).Pairwise (fun p q => p.1 ≠ q.1) := by
  have h1 : ((mapZ l).map (·.1)) = l := by simp [mapZ, Function.comp_def]
  rw [← h1] at h
  exact List.pairwise_map.1 h
theorem mapZ_some {l : List κ} {t : κ} (hn : l.Nodup) (h : t ∈ l) : getM (mapZ l) t = some (l.idxOf t : Int) := by
  refine getM_of_mem (mapZ_pair hn) ?_
  unfold mapZ
  refine List.mem_map.2 ⟨(t, l.idxOf t), ?_, rfl⟩
  rw [List.mem_zipIdx_iff_getElem?]
  have := List.idxOf_lt_length_of_mem h
  rw [List.getElem?_eq_getElem this, List.getElem_idxOf]
def addF (l : List κ) (t : κ) : Option (List κ × Nat) := if l.contains t then some (l, l.idxOf t) else if l.length = 1024 then none else some (l ++ [t], l.length)
def rowF (f : Nat → κ) : Nat → List κ → Option (List κ × List Nat)
  | 0, l => some (l, [])
  | x + 1, l => (rowF f x l).bind fun p => (addF p.1 (f x)).map fun q => (q.1, p.2 ++ [q.2])
def goF (m : Nat) (step : κ → Nat → κ) (s0 : κ) : Nat → Option (List κ × List (List Nat))
  | 0 => some ([s0], [])
  | i + 1 => (goF m step s0 i).bind fun p => match p.1[i]? with
    | none => some p
    | some s => (rowF (step s) m p.1).map fun q => (q.1, p.2 ++ [q.2])
def expF (m : Nat) (step : κ → Nat → κ) (s0 : κ) : Option (List κ × List (List Nat)) := goF m step s0 1024
structure Okl (ok : κ → Prop) (l : List κ) : Prop where
  nd : l.Nodup
  le : l.length ≤ 1024
  all : ∀ s ∈ l, ok s
theorem addF_old {l : List κ} {t : κ} (h : t ∈ l) : addF l t = some (l, l.idxOf t) := by unfold addF; rw [if_pos (by simpa using h)]
theorem addF_full {l : List κ} {t : κ} (h : t ∉ l) (hl : l.length = 1024) : addF l t = none := by unfold addF; rw [if_neg (by simpa using h), if_pos hl]
theorem addF_new {l : List κ} {t : κ} (h : t ∉ l) (hl : l.length ≠ 1024) : addF l t = some (l ++ [t], l.length) := by unfold addF; rw [if_neg (by simpa using h), if_neg hl]
theorem addF_ok {ok : κ → Prop} {l l' : List κ} {t : κ} {k : Nat} (h : addF l t = some (l', k)) (hl : Okl ok l) (ht : ok t) : Okl ok l' ∧ l'[k]? = some t ∧ l <+: l' := by
  by_cases hm : t ∈ l
  · rw [addF_old hm] at h
    cases h
    have := List.idxOf_lt_length_of_mem hm
    exact ⟨hl, by rw [List.getElem?_eq_getElem this, List.getElem_idxOf], List.prefix_refl _⟩
  · by_cases hf : l.length = 1024
    · rw [addF_full hm hf] at h; cases h
    · rw [addF_new hm hf] at h
      cases h
      refine ⟨⟨?_, ?_, ?_⟩, by simp, List.prefix_append _ _⟩
      · exact List.nodup_append.2 ⟨hl.nd, by simp, fun a ha b hb e => by simp at hb; subst hb; subst e; exact hm ha⟩
      · have := hl.le; simp; omega
      · intro s hs
        rcases List.mem_append.1 hs with hs | hs
        · exact hl.all s hs
        · simp at hs; subst hs; exact ht
omit [LawfulBEq κ] in
theorem rowF_succ {f : Nat → κ} {x : Nat} {l l' : List κ} {row : List Nat} (h : rowF f x l = some (l', row)) : rowF f (x + 1) l = (addF l' (f x)).map fun q => (q.1, row ++ [q.2]) := by
  unfold rowF; rw [h]; rfl
omit [LawfulBEq κ] in
theorem rowF_none {f : Nat → κ} {l : List κ} {x y : Nat} (h : rowF f x l = none) (hy : x ≤ y) : rowF f y l = none := by
  induction y with
  | zero => rw [Nat.le_zero.1 hy] at h; exact h
  | succ y ih =>
    by_cases e : x = y + 1
    · rw [e] at h; exact h
    · unfold rowF; rw [ih (by omega)]; rfl
omit [BEq κ] [LawfulBEq κ] in
theorem prefix_at {l l' : List κ} (h : l <+: l') {i : Nat} {s : κ} (hs : l[i]? = some s) : l'[i]? = some s := by
  obtain ⟨r, rfl⟩ := h
  rw [List.getElem?_append_left (List.getElem?_eq_some_iff.1 hs).1]; exact hs
theorem rowF_ok {ok : κ → Prop} {f : Nat → κ} {l : List κ} (hl : Okl ok l) : ∀ {x : Nat} {l' : List κ} {row : List Nat}, (∀ y, y < x → ok (f y)) → rowF f x l = some (l', row) → Okl ok l' ∧ l <+: l' ∧ row.length = x ∧ ∀ y, y < x → ∃ k, row[y]? = some k ∧ l'[k]? = some (f y)
  | 0, l', row, _, h => by
    cases h; exact ⟨hl, List.prefix_refl _, rfl, fun y hy => by omega⟩
  | x + 1, l', row, hf, h => by
    unfold rowF at h
    cases h1 : rowF f x l with
    | none => rw [h1] at h; cases h
    | some p =>
      obtain ⟨l1, r1⟩ := p
      obtain ⟨a1, a2, a3, a4⟩ := rowF_ok hl (fun y hy => hf y (by omega)) h1
      rw [h1] at h
      cases h2 : addF l1 (f x) with
      | none => simp [h2] at h
      | some q =>
        obtain ⟨l2, k⟩ := q
        simp [h2] at h
        obtain ⟨rfl, rfl⟩ := h
        obtain ⟨b1, b2, b3⟩ := addF_ok h2 a1 (hf x (by omega))
        refine ⟨b1, a2.trans b3, by simp [a3], fun y hy => ?_⟩
        by_cases e : y = x
        · subst e
          exact ⟨k, by rw [List.getElem?_append_right (by omega), a3]; simp, b2⟩
        · obtain ⟨j, c1, c2⟩ := a4 y (by omega)
          exact ⟨j, by rw [List.getElem?_append_left (by omega)]; exact c1, prefix_at b3 c2⟩
variable {m : Nat} {step : κ → Nat → κ} {s0 : κ}
omit [LawfulBEq κ] in
theorem goF_succ {i : Nat} {l : List κ} {rows : List (List Nat)} {s : κ} (h : goF m step s0 i = some (l, rows)) (hs : l[i]? = some s) : goF m step s0 (i + 1) = (rowF (step s) m l).map fun q => (q.1, rows ++ [q.2]) := by
  unfold goF; rw [h]; simp [hs]
omit [LawfulBEq κ] in
theorem goF_none {i j : Nat} (h : goF m step s0 i = none) (hj : i ≤ j) : goF m step s0 j = none := by
  induction j with
  | zero => rw [Nat.le_zero.1 hj] at h; exact h
  | succ j ih =>
    by_cases e : i = j + 1
    · rw [e] at h; exact h
    · unfold goF; rw [ih (by omega)]; rfl
omit [LawfulBEq κ] in
theorem goF_stop {i j : Nat} {l : List κ} {rows : List (List Nat)} (h : goF m step s0 i = some (l, rows)) (hl : l.length ≤ i) (hj : i ≤ j) : goF m step s0 j = some (l, rows) := by
  induction j with
  | zero => rw [Nat.le_zero.1 hj] at h; exact h
  | succ j ih =>
    by_cases e : i = j + 1
    · rw [e] at h; exact h
    · unfold goF
      rw [ih (by omega)]
      simp [List.getElem?_eq_none (show l.length ≤ j by omega)]
theorem goF_ok {ok : κ → Prop} (h0 : ok s0) (hst : ∀ s a, ok s → a < m → ok (step s a)) : ∀ {i : Nat} {l : List κ} {rows : List (List Nat)}, goF m step s0 i = some (l, rows) →
    Okl ok l ∧ l[0]? = some s0 ∧ rows.length = min i l.length ∧ ∀ (j : Nat) (s : κ) (row : List Nat), l[j]? = some s → rows[j]? = some row → row.length = m ∧ ∀ a, a < m → ∃ k, row[a]? = some k ∧ l[k]? = some (step s a)
  | 0, l, rows, h => by
    cases h
    exact ⟨⟨by simp, by simp, fun s hs => by simp at hs; subst hs; exact h0⟩, rfl, by simp, fun j s row _ h => by simp at h⟩
  | i + 1, l, rows, h => by
    unfold goF at h
    cases h1 : goF m step s0 i with
    | none => rw [h1] at h; cases h
    | some p =>
      obtain ⟨l1, r1⟩ := p
      obtain ⟨a1, a2, a3, a4⟩ := goF_ok h0 hst h1
      rw [h1] at h
      simp only [Option.bind_some] at h
      cases hs : l1[i]? with
      | none =>
        rw [hs] at h
        simp at h
        obtain ⟨rfl, rfl⟩ := h
        have := List.getElem?_eq_none_iff.1 hs
        exact ⟨a1, a2, by omega, a4⟩
      | some s =>
        rw [hs] at h
        have hil := (List.getElem?_eq_some_iff.1 hs).1
        cases h2 : rowF (step s) m l1 with
        | none => simp [h2] at h
        | some q =>
          obtain ⟨l2, r2⟩ := q
          simp [h2] at h
          obtain ⟨rfl, rfl⟩ := h
          obtain ⟨b1, b2, b3, b4⟩ := rowF_ok a1 (fun y hy => hst s y (a1.all s (List.mem_of_getElem? hs)) hy) h2
          have hle := b2.length_le
          refine ⟨b1, prefix_at b2 a2, by simp [a3]; omega, fun j u row hj hr => ?_⟩
          by_cases e : j < i
          · rw [List.getElem?_append_left (by omega)] at hr
            have hj1 : l1[j]? = some u := by
              obtain ⟨r, rfl⟩ := b2
              rw [List.getElem?_append_left (by omega)] at hj; exact hj
            obtain ⟨c1, c2⟩ := a4 j u row hj1 hr
            exact ⟨c1, fun a ha => by obtain ⟨k, d1, d2⟩ := c2 a ha; exact ⟨k, d1, prefix_at b2 d2⟩⟩
          · have hje : j = i := by
              have := (List.getElem?_eq_some_iff.1 hr).1
              simp [a3] at this; omega
            subst hje
            rw [List.getElem?_append_right (by omega), a3, show j - min j l1.length = 0 by omega] at hr
            simp at hr; subst hr
            have := prefix_at b2 hs
            rw [this] at hj; cases hj
            exact ⟨b3, b4⟩
end
end Go.Proofs.YtmebgomnmlbgnaaDoor

namespace Go.Proofs.YtmebgomnmlbgnaaDoor
open Go.RowKit Go.Maps
set_option linter.unusedVariables false
set_option linter.unusedSimpArgs false
attribute [local go_sem] Oper.quietV quietV Oper.gives givesV ext_refl_iff ext_alloc_iff ext_drew_iff ext_drewN_iff
attribute [local go_sem] RI.Oper.gives RI.givesV
theorem fold_sets (o : Nat) : ∀ (l : List Value) (k : Nat) (cs : Array Value), (l.zipIdx k).foldl (fun cs p => cs.setIfInBounds (o + p.2) p.1) cs = setsAt cs (o + k) l
  | [], k, cs => rfl
  | v :: l, k, cs => by
    rw [List.zipIdx_cons, List.foldl_cons, fold_sets o l (k + 1)]
    rfl
theorem fill_one {z : Array Value} {v : Value} {n : Nat} (hz : z.size = n) (hv : v.cells.size = n) : Instr.fill (fun i => some (i * n, n)) z [(0, v)] = some v.cells := by
  have h0 : ∀ f : Nat → Option (Nat × Nat), f 0 = some (0, n) → Instr.fill f z [(0, v)] = some (v.cells.zipIdx.foldl (fun cs (c, j) => cs.setIfInBounds (0 + j) c) z) := fun f hf => by
    unfold Instr.fill
    rw [hf]
    simp only
    rw [if_neg (by rw [hv, hz]; simp)]
    rfl
  rw [h0 _ (by rw [Nat.zero_mul])]
  congr 1
  rw [← Array.foldl_toList, Array.toList_zipIdx]
  have h := fold_sets 0 v.cells.toList 0 z
  refine Eq.trans h ?_
  apply Array.ext'
  rw [setsAt_toList _ _ _ (by simp; omega)]
  simp [hz, hv]
structure KTy {κ : Type} (kt st mt sz by_ : Nat) (z : Value) (enc : κ → Value) (cells : κ → List Value) (ok : κ → Prop) : Prop where
  key : KeyEnc Tryd.prog kt enc ok
  und : Tryd.prog.underlying st = some (.slice kt)
  map : Tryd.prog.underlying mt = some (.map kt 3)
  info : (Tryd.prog.info? kt).map (fun i => (i.zero, i.size, i.bytes)) = some (some z, sz, by_)
  zc : z.cells.size = sz
  pos : 0 < sz
  big : sz ≤ 1000
  small : by_ ≤ 100000
  cel : ∀ s, (enc s).cells = (cells s).toArray
  len : ∀ s, ok s → (cells s).length = sz
  one : ∀ s, ∀ u ∈ cells s, u.oneCell' = true
section
variable {κ : Type} {kt st mt sz by_ : Nat} {z : Value} {enc : κ → Value} {cells : κ → List Value} {ok : κ → Prop}
theorem KTy.build (K : KTy kt st mt sz by_ z enc cells ok) {s : κ} (hs : ok s) (W : World) : (Instr.buildSlice st 1 #[(0, enc s)]).run Tryd.prog W = .ok (.slice (some ⟨W.heap.size, 0, none⟩) 1 1) (W.alloc (.cells (cells s).toArray kt)) := by
  obtain ⟨i3, hi3, hz3, hs3, hb3⟩ := info_parts K.info
  have h1 := K.pos
  have h2 := K.big
  refine run_buildSlice W st kt 1 _ _ i3 z K.und hi3 hz3 (by omega) (by omega) ?_
  rw [hs3]
  have h := fill_one (n := sz) (z := (Array.range (1 * sz)).map (z.cells[· % z.cells.size]!)) (v := enc s) (by simp) (by rw [K.cel]; simp [K.len s hs])
  rw [K.cel] at h
  exact h
theorem KTy.rows_get (K : KTy kt st mt sz by_ z enc cells ok) {S : List κ} (h : ∀ c ∈ S, ok c) {i : Nat} {c : κ} (hc : S[i]? = some c) (j : Nat) (u : Value) (hj : (cells c)[j]? = some u) : (S.flatMap cells)[i * sz + j]? = some u := by
  induction S generalizing i with
  | nil => simp at hc
  | cons d S ih =>
    have hd : (cells d).length = sz := K.len d (h d (by simp))
    rw [List.flatMap_cons]
    cases i with
    | zero =>
      simp at hc; subst hc
      rw [Nat.zero_mul, Nat.zero_add, List.getElem?_append_left (by have := (List.getElem?_eq_some_iff.1 hj).1; omega)]; exact hj
    | succ i =>
      have h2 := ih (fun e he => h e (by simp [he])) (i := i) (by simpa using hc)
      rw [List.getElem?_append_right (by rw [hd, Nat.succ_mul]; omega), ← h2]
      congr 1; rw [hd, Nat.succ_mul]; omega
theorem gives_run {P : Program} {o : Oper} {a : Act} {w w' : World} {v : Value} {K : Value → World → Prop} (t : TypeId) (s x : Operand) (ho : o.op = .call { callee := .builtin .append, args := #[s, x], argTypes := #[t, t] })
    (hr : (Builtin.append_ #[t, t] o.type #[a.eval s, a.eval x]).run P w = .ok v w') (h : K v w') : RI.Oper.gives P o a w K := by
  unfold RI.Oper.gives execOp
  simp only [ho, resolve, invoke, builtin, Sem.run_bind, Sem.run_pure, Result.andThen_ok, List.map_toArray, List.map_cons, List.map_nil, hr]
  exact h
theorem KTy.append (K : KTy kt st mt sz by_ z enc cells ok) {o : Oper} {a : Act} {w : World} {N : Nat} {Q : Value → World → Prop} (S : List κ) (c : κ) (b : Nat) (v : Value)
    (s x : Operand) (ho : o.op = .call { callee := .builtin .append, args := #[s, x], argTypes := #[st, st] })
    (hs : a.eval s = v) (hown : w.ownsRow N kt sz v S.length (S.flatMap cells)) (hx : a.eval x = .slice (some ⟨b, 0, none⟩) 1 1) (hb : w.heap[b]? = some (.cells (cells c).toArray kt (0, 0)))
    (hc : ok c) (hlen : S.length ≤ 5000) (hN : N ≤ w.heap.size)
    (h : ∀ v' w', w'.ownsRow N kt sz v' (S.length + 1) (S.flatMap cells ++ cells c) → w.grownBy w' v.ownBlock → (∀ k, v'.ownBlock = some k → v.ownBlock = some k ∨ w.heap.size ≤ k) → Q v' w') : RI.Oper.gives Tryd.prog o a w Q := by
  obtain ⟨i3, hi3, hz3, hs3, hb3⟩ := info_parts K.info
  have hsm : (S.length + 1) * by_ ≤ 140737488355328 := by
    have h1 : (S.length + 1) * by_ ≤ 5001 * 100000 := Nat.mul_le_mul (by omega) K.small
    omega
  obtain ⟨v', w', hr, h2, h3, h4⟩ := run_append_own2 (P := Tryd.prog) (w := w) N st o.type kt i3 z sz by_ K.und hi3 hz3 hs3 hb3 K.zc K.pos v S.length (S.flatMap cells) hown ⟨b, 0, none⟩ 1 1 (cells c) (by rw [K.len c hc]; omega) (fun j u hj => by
    rw [Addr.add_lit, Nat.zero_add]
    exact cell_of_blk hb j (by simpa using hj))
    (K.one c) (by unfold maxLen; omega) hsm hN
  exact gives_run st s x ho (by rw [hs, hx]; exact hr) (h v' w' h2 h3 h4)
theorem KTy.range (K : KTy kt st mt sz by_ z enc cells ok) {w : World} {N g n c : Nat} {S : List κ} {d : κ} {i : Nat} (h : w.ownsRow N kt sz (.slice (some ⟨g, 0, none⟩) n c) n (S.flatMap cells)) (hS : ∀ c ∈ S, ok c) (hi : S[i]? = some d) : w.rangeAt g (i * sz) (cells d) :=
  fun j v hj => cell_at_own h (K.rows_get hS hi j v hj)
theorem KTy.gives_lit (K : KTy kt st mt sz by_ z enc cells ok) {o : Oper} {a : Act} {w : World} {Q : Value → World → Prop} (x : Operand) (ho : o.op = .buildSlice st 1 #[(0, x)]) {s : κ} (hx : a.eval x = enc s) (hs : ok s)
    (h : Q (.slice (some ⟨w.heap.size, 0, none⟩) 1 1) (w.alloc (.cells (cells s).toArray kt))) : RI.Oper.gives Tryd.prog o a w Q := by
  unfold RI.Oper.gives execOp
  simp only [ho, Sem.run_bind, Sem.run_pure, List.map_toArray, List.map_cons, List.map_nil, hx, K.build hs w, Result.andThen_ok]
  exact h
theorem gives_ins {o : Oper} {a : Act} {w w' : World} {Q : Value → World → Prop} (t : TypeId) (m k x : Operand) (ho : o.op = .insert t m k x) (hr : (Instr.mapUpdate t (a.eval m) (a.eval k) (a.eval x)).run Tryd.prog w = .ok () w') (h : Q undef w') : RI.Oper.gives Tryd.prog o a w Q := by
  unfold RI.Oper.gives execOp
  simp only [ho, Sem.run_bind, Sem.run_pure, hr, Result.andThen_ok]
  exact h
end
end Go.Proofs.YtmebgomnmlbgnaaDoor

namespace Go.Proofs.YtmebgomnmlbgnaaDoor
open Go.RowKit Go.Maps
set_option linter.unusedVariables false
set_option linter.unusedSimpArgs false
attribute [local go_sem] Oper.quietV quietV Oper.gives givesV ext_refl_iff ext_alloc_iff ext_drew_iff ext_drewN_iff
def noAsn : Asn := .any (fun _ => False) (fun _ => True)
theorem noAsn_ok (N : Nat) (w : World) : noAsn.ok N w := ⟨fun _ h => h.elim, fun _ _ => trivial⟩
theorem OwnL.fill {w W W' : World} {L : List Asn} (h : OwnL w W L) (k : Nat) {A A' : Asn} (hk : L[k]? = some A) (e : Ext W W') (hA : A'.ok W.heap.size W') : OwnL w W' (L.set k A') :=
  h.step k hk (row := none) ⟨e.os, e.tape, e.output, e.size, fun k hk _ => e.block k hk⟩ (fun b hb => by cases hb) (Asn.mono hA h.ext.size) (fun b hb => .inr (Asn.lt hA hb).1)
def asMap (o : Obj) : Option Value → Asn
  | some (.map (some b)) => .blk b o
  | _ => noAsn
def asRow (kt sz n : Nat) (L : List Value) : Option Value → Asn
  | some v => .row kt sz v n L
  | none => noAsn
def asBlk (kt : Nat) (L : List Value) : Option Value → Asn
  | some (.slice (some ⟨b, _, _⟩) _ _) => .blk b (.cells L.toArray kt)
  | _ => noAsn
section
variable {κ : Type} [BEq κ] [LawfulBEq κ] {kt st mt sz by_ : Nat} {z : Value} {enc : κ → Value} {cells : κ → List Value} {ok : κ → Prop}
omit [BEq κ] [LawfulBEq κ] in
theorem KTy.own (K : KTy kt st mt sz by_ z enc cells ok) {W : World} {c : κ} (hc : ok c) : (W.alloc (.cells (cells c).toArray kt)).ownsRow W.heap.size kt sz (.slice (some ⟨W.heap.size, 0, none⟩) 1 1) 1 (cells c) := by
  have h := World.ownsRow_lit (base := W.heap.size) (e := kt) (size := sz) W (cells c).toArray 1 (Nat.le_refl _) (by unfold maxLen; omega) (by simp [K.len c hc])
  simpa using h
structure J1 (kt sz : Nat) (enc : κ → Value) (cells : κ → List Value) (ok : κ → Prop) (W : World) (c : κ) (G : Vals) (w : World) : Prop where
  own : ∃ o, OwnL W w [asRow kt sz 1 (cells c) (G 1), asMap o (G 2)] ∧ (G 4 = none → o = .map #[] 0) ∧ (∀ u, G 4 = some u → MapOf enc ok o [(c, 0)])
  p1 : ∀ v, G 1 = some v → ∃ b, v = .slice (some ⟨b, 0, none⟩) 1 1
  p2 : ∀ v, G 2 = some v → ∃ b, v = .map (some b)
  n : G 2 = none → G 4 = none
variable {W w w' : World} {c : κ} {G : Vals} {v : Value}
omit [BEq κ] [LawfulBEq κ] in
theorem J1.ext (h : J1 kt sz enc cells ok W c G w) : Ext W w := by obtain ⟨o, h1, _⟩ := h.own; exact h1.ext
omit [BEq κ] [LawfulBEq κ] in
theorem J1.start (W : World) (c : κ) {w : World} (e : Ext W w) : J1 kt sz enc cells ok W c (fun _ => none) w := by
  have n := fun (L : List Asn) (h : OwnL W w L) => h.add (Ext.refl w) (A := noAsn) (noAsn_ok _ _)
  exact ⟨⟨.map #[] 0, n _ (n _ (OwnL.nil e)), fun _ => rfl, fun u h => (by cases h)⟩, fun v h => (by cases h), fun v h => (by cases h), fun _ => rfl⟩
omit [BEq κ] [LawfulBEq κ] in
theorem J1.set1 (K : KTy kt st mt sz by_ z enc cells ok) (h : J1 kt sz enc cells ok W c G w) (hg : G 1 = none) (hc : ok c) : J1 kt sz enc cells ok W c (G.put 1 (.slice (some ⟨w.heap.size, 0, none⟩) 1 1)) (w.alloc (.cells (cells c).toArray kt)) := by
  obtain ⟨o, h1, h2, h3⟩ := h.own
  exact ⟨⟨o, h1.fill 0 (A := asRow kt sz 1 (cells c) (G 1)) (A' := asRow kt sz 1 (cells c) (some (.slice (some ⟨w.heap.size, 0, none⟩) 1 1))) rfl (alloc_ext w _) (K.own hc), h2, h3⟩, fun v hv => by have : some (Value.slice (some ⟨w.heap.size, 0, none⟩) 1 1) = some v := hv; cases this; exact ⟨_, rfl⟩, h.p2, h.n⟩
omit [BEq κ] [LawfulBEq κ] in
theorem J1.set2 (h : J1 kt sz enc cells ok W c G w) (hg : G 2 = none) : J1 kt sz enc cells ok W c (G.put 2 (.map (some w.heap.size))) (w.alloc (.map #[] 0)) := by
  obtain ⟨o, h1, h2, h3⟩ := h.own
  have h6 := h.n hg
  refine ⟨⟨.map #[] 0, h1.fill 1 (A := asMap o (G 2)) (A' := asMap (.map #[] 0) (some (.map (some w.heap.size)))) rfl (alloc_ext w _) ⟨Nat.le_refl _, heap_alloc_new _ _⟩, fun _ => rfl, fun u hu => ?_⟩, h.p1, fun v hv => by have : some (Value.map (some w.heap.size)) = some v := hv; cases this; exact ⟨_, rfl⟩, fun hh => by simp [Vals.put] at hh⟩
  have : G 4 = some u := hu
  rw [h6] at this; cases this
theorem J1.set4 (K : KTy kt st mt sz by_ z enc cells ok) (h : J1 kt sz enc cells ok W c G w) (hg : G 4 = none) {b : Nat} (h3 : G 2 = some (.map (some b))) (hr : ok c) {v : Value} (hv : v = enc c) : ∃ w', (Instr.mapUpdate mt (.map (some b)) v (.int .i64 0)).run Tryd.prog w = .ok () w' ∧ ∀ u, J1 kt sz enc cells ok W c (G.put 4 u) w' := by
  obtain ⟨o, h1, h2, _⟩ := h.own
  rw [h2 hg, h3] at h1
  obtain ⟨w', o', hrun, hm, hO, _, _⟩ := h1.mapPut 1 (b := b) (o := .map #[] 0) rfl (MapOf.made enc ok) K.key K.map (x := c) hr rfl 0 (v := v) hv
  refine ⟨w', hrun, fun u => ⟨⟨o', ?_, fun hh => by simp [Vals.put] at hh, fun _ _ => hm⟩, h.p1, h.p2, fun hh => ?_⟩⟩
  · show OwnL W w' [asRow kt sz 1 (cells c) (G 1), asMap o' (G 2)]
    rw [h3]; exact hO
  · have : G 2 = none := hh
    rw [h3] at this; cases this
def asApp (kt sz : Nat) (cells : κ → List Value) (lv : Value) (S : List κ) (c : κ) : Option Value → Asn
  | some v => .row kt sz v (S.length + 1) ((S ++ [c]).flatMap cells)
  | none => .row kt sz lv S.length (S.flatMap cells)
structure J16 (kt sz : Nat) (cells : κ → List Value) (W0 : World) (lv : Value) (S : List κ) (c : κ) (rest : List Asn) (G : Vals) (w : World) : Prop where
  own : OwnL W0 w (asBlk kt (cells c) (G 5) :: asApp kt sz cells lv S c (G 6) :: rest)
  p5 : ∀ v, G 5 = some v → ∃ b, v = .slice (some ⟨b, 0, none⟩) 1 1
  n : G 5 = none → G 6 = none
variable {W0 : World} {lv : Value} {S : List κ} {rest : List Asn}
omit [BEq κ] [LawfulBEq κ] in
theorem J16.start (h : OwnL W0 w (.row kt sz lv S.length (S.flatMap cells) :: rest)) : J16 kt sz cells W0 lv S c rest (fun _ => none) w := ⟨h.add (Ext.refl w) (A := noAsn) (noAsn_ok _ _), fun v h => (by cases h), fun _ => rfl⟩
omit [BEq κ] [LawfulBEq κ] in
theorem J16.set5 (h : J16 kt sz cells W0 lv S c rest G w) (hg : G 5 = none) : J16 kt sz cells W0 lv S c rest (G.put 5 (.slice (some ⟨w.heap.size, 0, none⟩) 1 1)) (w.alloc (.cells (cells c).toArray kt)) :=
  ⟨h.own.fill 0 (A := asBlk kt (cells c) (G 5)) (A' := asBlk kt (cells c) (some (.slice (some ⟨w.heap.size, 0, none⟩) 1 1))) rfl (alloc_ext w _) ⟨Nat.le_refl _, heap_alloc_new w _⟩, fun v hv => by have : some (Value.slice (some ⟨w.heap.size, 0, none⟩) 1 1) = some v := hv; cases this; exact ⟨_, rfl⟩, fun hh => by simp [Vals.put] at hh⟩
omit [BEq κ] [LawfulBEq κ] in
theorem J16.row (h : J16 kt sz cells W0 lv S c rest G w) (hg : G 6 = none) : w.ownsRow W0.heap.size kt sz lv S.length (S.flatMap cells) := by
  have h0 := h.own
  rw [hg] at h0
  exact h0.get 1 rfl
omit [BEq κ] [LawfulBEq κ] in
theorem J16.blk {b : Nat} (h : J16 kt sz cells W0 lv S c rest G w) (h5 : G 5 = some (.slice (some ⟨b, 0, none⟩) 1 1)) : w.heap[b]? = some (.cells (cells c).toArray kt (0, 0)) := by
  have h0 := h.own
  rw [h5] at h0
  exact (h0.get 0 rfl).2
omit [BEq κ] [LawfulBEq κ] in
theorem J16.set6 {b : Nat} (h : J16 kt sz cells W0 lv S c rest G w) (hg : G 6 = none) (h5 : G 5 = some (.slice (some ⟨b, 0, none⟩) 1 1)) (hown : w'.ownsRow W0.heap.size kt sz v (S.length + 1) (S.flatMap cells ++ cells c)) (hgr : w.grownBy w' lv.ownBlock) (hb : ∀ k, v.ownBlock = some k → lv.ownBlock = some k ∨ w.heap.size ≤ k) : J16 kt sz cells W0 lv S c rest (G.put 6 v) w' := by
  have h0 := h.own
  rw [hg] at h0
  have h1 := h0.app 1 (v := lv) rfl hgr hown hb
  refine ⟨?_, h.p5, fun hh => ?_⟩
  · show OwnL W0 w' (asBlk kt (cells c) (G 5) :: .row kt sz v (S.length + 1) ((S ++ [c]).flatMap cells) :: rest)
    rw [List.flatMap_append, show [c].flatMap cells = cells c by simp]
    exact h1
  · have : G 5 = none := hh
    rw [h5] at this; cases this
omit [BEq κ] [LawfulBEq κ] in
theorem J16.fin (h : J16 kt sz cells W0 lv S c rest G w) (h6 : G 6 = some v) : OwnL W0 w (.row kt sz v (S.length + 1) ((S ++ [c]).flatMap cells) :: rest) := by
  have h0 := h.own.drop
  rw [h6] at h0
  exact h0
end
end Go.Proofs.YtmebgomnmlbgnaaDoor

namespace Go.Proofs.YtmebgomnmlbgnaaDoor
open Go.RowKit Go.Maps
set_option linter.unusedVariables false
set_option linter.unusedSimpArgs false
attribute [local go_sem] Oper.quietV quietV Oper.gives givesV ext_refl_iff ext_alloc_iff ext_drew_iff ext_drewN_iff
def zRow (tv : Value) (m : Nat) (xs : List Value) : Option Value → Asn
  | none => .row 3 1 tv m xs
  | some _ => noAsn
def zRows (tv rv : Value) (m : Nat) (xs : List Value) (vs : List Value) (rs : List (Nat × List Value)) : Option Value → Asn
  | none => .rows 42 3 1 rv vs rs
  | some v => .rows 42 3 1 v (vs ++ [tv]) (rs ++ [(m, xs)])
def zAcc (av : Value) (acs : List Bool) (b : Bool) : Option Value → Asn
  | none => .row 4 1 av acs.length (acs.map .bool)
  | some v => .row 4 1 v (acs.length + 1) ((acs ++ [b]).map .bool)
structure J19 (W0 : World) (tv rv av : Value) (m : Nat) (xs : List Value) (vs : List Value) (rs : List (Nat × List Value)) (acs : List Bool) (b : Bool) (rest : List Asn) (G : Vals) (w : World) : Prop where
  own : OwnL W0 w (asBlk 42 [tv] (G 3) :: asBlk 4 [.bool b] (G 13) :: zRow tv m xs (G 4) :: zRows tv rv m xs vs rs (G 4) :: zAcc av acs b (G 14) :: rest)
  p3 : ∀ v, G 3 = some v → ∃ b, v = .slice (some ⟨b, 0, none⟩) 1 1
  p13 : ∀ v, G 13 = some v → ∃ b, v = .slice (some ⟨b, 0, none⟩) 1 1
  c12 : ∀ v, G 12 = some v → v = .bool b
  n3 : G 3 = none → G 4 = none
  n13 : G 13 = none → G 14 = none
section
variable {W0 w w' : World} {tv rv av v : Value} {m : Nat} {xs vs : List Value} {rs : List (Nat × List Value)} {acs : List Bool} {b : Bool} {rest : List Asn} {G : Vals}
theorem J19.start (h : OwnL W0 w (.row 3 1 tv m xs :: .rows 42 3 1 rv vs rs :: .row 4 1 av acs.length (acs.map .bool) :: rest)) : J19 W0 tv rv av m xs vs rs acs b rest (fun _ => none) w :=
  ⟨(h.add (Ext.refl w) (A := noAsn) (noAsn_ok _ _)).add (Ext.refl w) (A := noAsn) (noAsn_ok _ _), fun v h => (by cases h), fun v h => (by cases h), fun v h => (by cases h), fun _ => rfl, fun _ => rfl⟩
theorem J19.set3 (h : J19 W0 tv rv av m xs vs rs acs b rest G w) (hg : G 3 = none) : J19 W0 tv rv av m xs vs rs acs b rest (G.put 3 (.slice (some ⟨w.heap.size, 0, none⟩) 1 1)) (w.alloc (.cells #[tv] 42)) :=
  ⟨h.own.fill 0 (A := asBlk 42 [tv] (G 3)) (A' := asBlk 42 [tv] (some (.slice (some ⟨w.heap.size, 0, none⟩) 1 1))) rfl (alloc_ext w _) ⟨Nat.le_refl _, heap_alloc_new w _⟩, fun v hv => by have : some (Value.slice (some ⟨w.heap.size, 0, none⟩) 1 1) = some v := hv; cases this; exact ⟨_, rfl⟩, h.p13, h.c12, fun hh => by simp [Vals.put] at hh, h.n13⟩
theorem J19.set13 (h : J19 W0 tv rv av m xs vs rs acs b rest G w) (hg : G 13 = none) : J19 W0 tv rv av m xs vs rs acs b rest (G.put 13 (.slice (some ⟨w.heap.size, 0, none⟩) 1 1)) (w.alloc (.cells #[.bool b] 4)) :=
  ⟨h.own.fill 1 (A := asBlk 4 [.bool b] (G 13)) (A' := asBlk 4 [.bool b] (some (.slice (some ⟨w.heap.size, 0, none⟩) 1 1))) rfl (alloc_ext w _) ⟨Nat.le_refl _, heap_alloc_new w _⟩, h.p3, fun v hv => by have : some (Value.slice (some ⟨w.heap.size, 0, none⟩) 1 1) = some v := hv; cases this; exact ⟨_, rfl⟩, h.c12, h.n3, fun hh => by simp [Vals.put] at hh⟩
theorem J19.set12 (h : J19 W0 tv rv av m xs vs rs acs b rest G w) (e : Ext w w') : J19 W0 tv rv av m xs vs rs acs b rest (G.put 12 (.bool b)) w' :=
  ⟨h.own.trans e, h.p3, h.p13, fun v hv => by have : some (Value.bool b) = some v := hv; cases this; rfl, h.n3, h.n13⟩
theorem J19.blk3 {k : Nat} (h : J19 W0 tv rv av m xs vs rs acs b rest G w) (h3 : G 3 = some (.slice (some ⟨k, 0, none⟩) 1 1)) : w.heap[k]? = some (.cells #[tv] 42 (0, 0)) := by
  have h0 := h.own
  rw [h3] at h0
  exact (h0.get 0 rfl).2
theorem J19.blk13 {k : Nat} (h : J19 W0 tv rv av m xs vs rs acs b rest G w) (h3 : G 13 = some (.slice (some ⟨k, 0, none⟩) 1 1)) : w.heap[k]? = some (.cells #[.bool b] 4 (0, 0)) := by
  have h0 := h.own
  rw [h3] at h0
  exact (h0.get 1 rfl).2
theorem J19.rows (h : J19 W0 tv rv av m xs vs rs acs b rest G w) (hg : G 4 = none) : w.ownsRow W0.heap.size 42 1 rv vs.length vs := by
  have h0 := h.own
  rw [hg] at h0
  have h1 : OwnRows w W0.heap.size 42 3 1 rv vs rs := h0.get 3 rfl
  exact h1.own
theorem J19.acc (h : J19 W0 tv rv av m xs vs rs acs b rest G w) (hg : G 14 = none) : w.ownsRow W0.heap.size 4 1 av acs.length (acs.map .bool) := by
  have h0 := h.own
  rw [hg] at h0
  exact h0.get 4 rfl
theorem J19.set4 {k : Nat} (h : J19 W0 tv rv av m xs vs rs acs b rest G w) (hg : G 4 = none) (h3 : G 3 = some (.slice (some ⟨k, 0, none⟩) 1 1)) (hown : w'.ownsRow W0.heap.size 42 1 v (vs.length + 1) (vs ++ [tv])) (hgr : w.grownBy w' rv.ownBlock) (hb : ∀ k, v.ownBlock = some k → rv.ownBlock = some k ∨ w.heap.size ≤ k) : J19 W0 tv rv av m xs vs rs acs b rest (G.put 4 v) w' := by
  have h0 := h.own
  rw [hg] at h0
  have h0 : OwnL W0 w (asBlk 42 [tv] (G 3) :: asBlk 4 [.bool b] (G 13) :: .row 3 1 tv m xs :: .rows 42 3 1 rv vs rs :: zAcc av acs b (G 14) :: rest) := h0
  have h1 := h0.perm (L' := .row 3 1 tv m xs :: .rows 42 3 1 rv vs rs :: asBlk 42 [tv] (G 3) :: asBlk 4 [.bool b] (G 13) :: zAcc av acs b (G 14) :: rest)
    (by
      refine List.Perm.trans (List.perm_middle (l₁ := [_, _])) ?_
      refine List.Perm.cons _ ?_
      exact List.perm_middle (l₁ := [_, _]))
  have h2 := h1.push hgr hown hb
  have h3' := h2.add (Ext.refl _) (A := noAsn) (noAsn_ok _ _)
  refine ⟨?_, h.p3, h.p13, h.c12, fun hh => ?_, h.n13⟩
  · show OwnL W0 w' (asBlk 42 [tv] (G 3) :: asBlk 4 [.bool b] (G 13) :: noAsn :: .rows 42 3 1 v (vs ++ [tv]) (rs ++ [(m, xs)]) :: zAcc av acs b (G 14) :: rest)
    refine h3'.perm (List.Perm.symm ?_)
    refine List.Perm.trans (List.perm_middle (l₁ := [_, _])) ?_
    refine List.Perm.cons _ ?_
    exact List.perm_middle (l₁ := [_, _])
  · have : G 3 = none := hh
    rw [h3] at this; cases this
theorem J19.set14 {k : Nat} (h : J19 W0 tv rv av m xs vs rs acs b rest G w) (hg : G 14 = none) (h3 : G 13 = some (.slice (some ⟨k, 0, none⟩) 1 1)) (hown : w'.ownsRow W0.heap.size 4 1 v (acs.length + 1) (acs.map .bool ++ [.bool b])) (hgr : w.grownBy w' av.ownBlock) (hb : ∀ k, v.ownBlock = some k → av.ownBlock = some k ∨ w.heap.size ≤ k) : J19 W0 tv rv av m xs vs rs acs b rest (G.put 14 v) w' := by
  have h0 := h.own
  rw [hg] at h0
  have h1 := h0.app 4 (v := av) rfl hgr hown hb
  refine ⟨?_, h.p3, h.p13, h.c12, h.n3, fun hh => ?_⟩
  · show OwnL W0 w' (asBlk 42 [tv] (G 3) :: asBlk 4 [.bool b] (G 13) :: zRow tv m xs (G 4) :: zRows tv rv m xs vs rs (G 4) :: .row 4 1 v (acs.length + 1) ((acs ++ [b]).map .bool) :: rest)
    rw [List.map_append, show [b].map Value.bool = [.bool b] from rfl]
    exact h1
  · have : G 13 = none := hh
    rw [h3] at this; cases this
theorem J19.fin {v4 v14 : Value} (h : J19 W0 tv rv av m xs vs rs acs b rest G w) (h4 : G 4 = some v4) (h14 : G 14 = some v14) : OwnL W0 w (.rows 42 3 1 v4 (vs ++ [tv]) (rs ++ [(m, xs)]) :: .row 4 1 v14 (acs.length + 1) ((acs ++ [b]).map .bool) :: rest) := by
  have h0 := h.own.drop.drop
  rw [h4, h14] at h0
  exact h0.drop
end
def pairC (p : Nat × List Bool) : List Value := Value.int .i64 p.1 :: p.2.map .bool
def spotC (p : Bool × List Bool) : List Value := Value.bool p.1 :: p.2.map .bool
def plcC (p : Nat × Nat) : List Value := [.int .i64 p.1, .int .i64 p.2]
def falses (n : Nat) : List Value := List.replicate n (.bool false)
theorem k129 : KTy 129 158 159 2 16 (.agg #[.int .i64 0, .int .i64 0]) plcV plcC okP :=
  ⟨key129, Tryd.underlying158, Tryd.underlying159, by kernel_rfl, rfl, by decide, by decide, by decide, fun s => rfl, fun s _ => rfl, fun s u hu => by simp [plcC] at hu; rcases hu with rfl | rfl <;> rfl⟩
theorem bools_one (l : List Bool) : ∀ u ∈ l.map Value.bool, u.oneCell' = true := fun u hu => by obtain ⟨b, _, rfl⟩ := List.mem_map.1 hu; rfl
theorem k135 : KTy 135 160 161 257 264 (.agg (Value.int .i64 0 :: falses 256).toArray) pairV pairC okPr :=
  ⟨key135, Tryd.underlying160, Tryd.underlying161, by kernel_rfl, by kernel_rfl, by decide, by decide, by decide, fun s => rfl, fun s hs => by simp [pairC, hs.2], fun s u hu => by
    unfold pairC at hu
    rcases List.mem_cons.1 hu with rfl | hu
    · rfl
    · exact bools_one _ u hu⟩
theorem k143 : KTy 143 162 163 257 257 (.agg (falses 257).toArray) spotV spotC okSp :=
  ⟨key143, Tryd.underlying162, Tryd.underlying163, by kernel_rfl, by kernel_rfl, by decide, by decide, by decide, fun s => rfl, fun s hs => by have h : s.2.length = 256 := hs; simp [spotC, h], fun s u hu => by
    unfold spotC at hu
    rcases List.mem_cons.1 hu with rfl | hu
    · rfl
    · exact bools_one _ u hu⟩
def numV (n : Nat) : Value := .int .i64 (n : Int)
def okNum (n : Nat) : Prop := n ≤ 100000
theorem k3 : KTy 3 42 164 1 8 (.int .i64 0) numV (fun n : Nat => [numV n]) okNum :=
  ⟨⟨key3.law, fun x hx => key3.read x (wfI_of (by unfold okNum at hx; omega)), fun x y h => by unfold numV at h; injection h with _ h; omega⟩, Tryd.underlying42, Tryd.underlying164, by kernel_rfl, rfl, by decide, by decide, by decide, fun s => rfl, fun s _ => rfl, fun s u hu => by simp at hu; subst hu; rfl⟩
end Go.Proofs.YtmebgomnmlbgnaaDoor

namespace Go.Proofs.YtmebgomnmlbgnaaDoor
open Go.RowKit Go.Maps
set_option linter.unusedVariables false
set_option linter.unusedSimpArgs false
attribute [local go_sem] Oper.quietV quietV Oper.gives givesV ext_refl_iff ext_alloc_iff ext_drew_iff ext_drewN_iff
theorem quiet_mid {w : World} {o : Oper} {a : Act} (ty : TypeId) (x : Operand) (ho : o.op = .load ty x) (b k : Nat) (hx : a.eval x = .pointer (some ⟨b, k, none⟩)) {C : List Value} (hB : w.rangeAt b k C) (d : TypeDesc) (hu : Tryd.prog.underlying ty = some d) (hd : d.isRow = true) (hi : (Tryd.prog.info? ty).map (·.size) = some C.length) : Oper.quietV Tryd.prog o a w (.agg C.toArray) := by
  unfold Oper.quietV execOp
  simp only [ho, hx, Instr.loadAt, Instr.sureAddr, Sem.run_bind, Sem.run_pure, Result.andThen_ok, run_loadVar_mid w b k ty C d hB hu hd hi]
  exact ⟨rfl, rfl⟩
theorem quiet_row {w : World} {o : Oper} {a : Act} (ty : TypeId) (x : Operand) (ho : o.op = .load ty x) (b : Nat) (hx : a.eval x = .pointer (some ⟨b, 0, none⟩)) {C : Array Value} {t : TypeId} (hB : w.heap[b]? = some (.cells C t (0, 0))) (d : TypeDesc) (hu : Tryd.prog.underlying ty = some d) (hd : d.isRow = true) (hi : (Tryd.prog.info? ty).map (·.size) = some C.size) : Oper.quietV Tryd.prog o a w (.agg C) := by
  have h := quiet_mid (w := w) (o := o) (a := a) ty x ho b 0 hx (C := C.toList) (fun j v hj => by rw [Nat.zero_add]; exact cell_of_blk hB j (by simpa using hj)) d hu hd (by simpa using hi)
  simpa using h
theorem results_ct2 {P : Program} {fn : Func} {p u : Tmp} {ty : TypeId} (h : fn.results = #[.cell p ty, .tmp u]) (tmps : Array Value) (w : World) (g : Nat) (t : TypeId) (cs : Array Value) (fr : Nat × Nat) (d : TypeDesc)
    (hp : tmps.getD p undef = .pointer (some ⟨g, 0, none⟩)) (hg : w.heap[g]? = some (.cells cs t fr))
    (hu : P.underlying ty = some d) (hd : (match d with | .struct _ | .array _ _ => true | _ => false) = true) (hi : (P.info? ty).map (·.size) = some cs.size) :
    (results fn tmps).run P w = .ok (.tuple #[.agg cs, tmps.getD u undef]) w := by
  have hp' : tmps[p]?.getD undef = .pointer (some ⟨g, 0, none⟩) := by simpa using hp
  simp [results, h, hp', asAddr, run_loadVar_row w g t ty cs fr d hg hu hd hi]
theorem zero3 (w : World) : (zeroValue 3).run Tryd.prog w = .ok (.int .i64 0) w := by kernel_rfl
theorem KTy.sub {κ : Type} {kt st mt sz by_ : Nat} {z : Value} {enc : κ → Value} {cells : κ → List Value} {ok ok' : κ → Prop} (K : KTy kt st mt sz by_ z enc cells ok) (h : ∀ s, ok' s → ok s) : KTy kt st mt sz by_ z enc cells ok' :=
  ⟨⟨K.key.law, fun x hx => K.key.read x (h x hx), K.key.inj⟩, K.und, K.map, K.info, K.zc, K.pos, K.big, K.small, K.cel, fun s hs => K.len s (h s hs), K.one⟩
theorem KTy.isz {κ : Type} {kt st mt sz by_ : Nat} {z : Value} {enc : κ → Value} {cells : κ → List Value} {ok : κ → Prop} (K : KTy kt st mt sz by_ z enc cells ok) {s : κ} (hs : ok s) : (Tryd.prog.info? kt).map (·.size) = some (cells s).length := by
  obtain ⟨i3, hi3, hz3, hs3, hb3⟩ := info_parts K.info
  rw [hi3, K.len s hs, ← hs3]; rfl
theorem KTy.ones {κ : Type} {kt st mt sz by_ : Nat} {z : Value} {enc : κ → Value} {cells : κ → List Value} {ok : κ → Prop} (K : KTy kt st mt sz by_ z enc cells ok) (s : κ) : (cells s).toArray.all (·.oneCell') = true := by
  rw [List.all_toArray, List.all_eq_true]; exact K.one s
theorem J16.ext {κ : Type} {kt sz : Nat} {cells : κ → List Value} {W0 w : World} {lv : Value} {S : List κ} {c : κ} {rest : List Asn} {G : Vals} (h : J16 kt sz cells W0 lv S c rest G w) : Ext W0 w := h.own.ext
theorem OwnL.blkAt {w W : World} {L : List Asn} (h : OwnL w W L) (k : Nat) {b : Nat} {o : Obj} (hk : L[k]? = some (.blk b o)) : W.heap[b]? = some o := by
  have h1 : Asn.ok w.heap.size W (.blk b o) := h.get k hk
  exact h1.2
theorem J19.ext {W0 w : World} {tv rv av : Value} {m : Nat} {xs vs : List Value} {rs : List (Nat × List Value)} {acs : List Bool} {b : Bool} {rest : List Asn} {G : Vals} (h : J19 W0 tv rv av m xs vs rs acs b rest G w) : Ext W0 w := h.own.ext
theorem J19.q {W0 w : World} {tv rv av : Value} {m : Nat} {xs vs : List Value} {rs : List (Nat × List Value)} {acs : List Bool} {b : Bool} {a : Asn} {kt sz n : Nat} {v : Value} {ys : List Value} {rest : List Asn} {G : Vals} (h : J19 W0 tv rv av m xs vs rs acs b (a :: .row kt sz v n ys :: rest) G w) : w.ownsRow W0.heap.size kt sz v n ys := h.own.get 6 rfl
theorem gives_app1 {o : Oper} {a : Act} {w : World} {N : Nat} {Q : Value → World → Prop} (t e by_ : Nat) (z : Value) (hu : Tryd.prog.underlying t = some (.slice e)) (hinfo : (Tryd.prog.info? e).map (fun i => (i.zero, i.size, i.bytes)) = some (some z, 1, by_)) (hzc : z.cells.size = 1) (hby : by_ ≤ 100000) (n : Nat) (xs : List Value) (u : Value) (b : Nat) (v : Value)
    (s x : Operand) (ho : o.op = .call { callee := .builtin .append, args := #[s, x], argTypes := #[t, t] })
    (hs : a.eval s = v) (hown : w.ownsRow N e 1 v n xs) (hx : a.eval x = .slice (some ⟨b, 0, none⟩) 1 1) (hb : w.heap[b]? = some (.cells #[u] e (0, 0)))
    (h1 : u.oneCell' = true) (hlen : n ≤ 5000) (hN : N ≤ w.heap.size)
    (h : ∀ v' w', w'.ownsRow N e 1 v' (n + 1) (xs ++ [u]) → w.grownBy w' v.ownBlock → (∀ k, v'.ownBlock = some k → v.ownBlock = some k ∨ w.heap.size ≤ k) → Q v' w') : RI.Oper.gives Tryd.prog o a w Q := by
  obtain ⟨i3, hi3, hz3, hs3, hb3⟩ := info_parts hinfo
  have hsm : (n + 1) * by_ ≤ 140737488355328 := by
    have h1 : (n + 1) * by_ ≤ 5001 * 100000 := Nat.mul_le_mul (by omega) hby
    omega
  obtain ⟨v', w', hr, h2, h3, h4⟩ := run_append_own2 (P := Tryd.prog) (w := w) N t o.type e i3 z 1 by_ hu hi3 hz3 hs3 hb3 hzc (by decide) v n xs hown ⟨b, 0, none⟩ 1 1 [u] rfl (fun j y hj => by
    rw [Addr.add_lit, Nat.zero_add]
    exact cell_of_blk hb j (by simpa using hj))
    (by intro y hy; simp at hy; subst hy; exact h1) (by unfold maxLen; omega) hsm hN
  exact gives_run t s x ho (by rw [hs, hx]; exact hr) (h v' w' h2 h3 h4)
def nRow (r : List Nat) : Nat × List Value := (r.length, r.map numV)
abbrev zRaw : Obj := .cells #[.slice none 0 0, .slice none 0 0] 109
def XL {κ : Type} (kt sz : Nat) (cells : κ → List Value) (o5 : Obj) (d5 d8 d12 bm : Nat) (rv av qv : Value) (om : Obj) (l : List κ) (vs : List Value) (rows : List (List Nat)) (acs : List Bool) : List Asn :=
  [.rows 42 3 1 rv vs (rows.map nRow), .row 4 1 av acs.length (acs.map .bool), .blk d12 (.cells #[rv, av] 109), .row kt sz qv l.length (l.flatMap cells), .blk bm om, .blk d8 zRaw, .blk d5 o5]
theorem OwnRows.empty (w : World) (B e1 e2 s2 : Nat) : OwnRows w B e1 e2 s2 (.slice none 0 0) [] [] :=
  ⟨World.ownsRow_nil _ _ _ _, rfl, fun j u r h => by simp at h, fun i j u u' h => by simp at h, fun j u h => by simp at h⟩
def ExpP {κ : Type} (acc : κ → Bool) (r : Option (List κ × List (List Nat))) (w : World) (e : Ending) (w' : World) : Prop := match r with
  | none => ∃ A n c A' n' c', e = .returned (.tuple #[.agg #[.slice A n c, .slice A' n' c'], .bool false]) ∧ Ext w w'
  | some p => ∃ A c A' c', e = .returned (.tuple #[.agg #[.slice A p.2.length c, .slice A' p.1.length c'], .bool true]) ∧ Ext w w' ∧ ∀ w'' : World, (∀ b, w.heap.size ≤ b → b < w'.heap.size → w''.heap[b]? = w'.heap[b]?) → ListsC w'' (.slice A p.2.length c) (p.2.map (·.map Int.ofNat)) c ∧ BoolsC w'' (.slice A' p.1.length c') (p.1.map acc) c'
theorem nRows (rows : List (List Nat)) : rows.map nRow = (rows.map (·.map Int.ofNat)).map iRow := by
  rw [List.map_map]
  refine List.map_congr_left (fun r _ => ?_)
  simp [nRow, iRow, Function.comp_def, numV]
end Go.Proofs.YtmebgomnmlbgnaaDoor
