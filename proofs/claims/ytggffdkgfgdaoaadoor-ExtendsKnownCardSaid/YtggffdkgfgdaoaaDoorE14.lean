/- What ref29.Unfold owns. -/
import Derived.Test.YtggffdkgfgdaoaaDoorE9
import Derived.Test.YtggffdkgfgdaoaaDoorB21
namespace Go.Proofs.YtggffdkgfgdaoaaDoor
open Go.RowKit Go.Maps
set_option linter.unusedVariables false
set_option linter.unusedSimpArgs false
attribute [local go_sem] Oper.quietV quietV Oper.gives givesV ext_refl_iff ext_alloc_iff ext_drew_iff ext_drewN_iff
/-- Configurations, their values in memory. -/
def KfOk (lvs : List (Int × Value)) (S : List Sp) (W : World) : Prop := lvs.length = S.length ∧ ∀ (i : Nat) (s : Sp) (p : Int × Value), S[i]? = some s → lvs[i]? = some p → ∃ A c, p = (s.1, .slice A s.2.length c) ∧ IntsC W (.slice A s.2.length c) s.2 c
def KfW (w : World) (lvs : List (Int × Value)) (S : List Sp) (W : World) : Prop := Ext w W → KfOk lvs S W
def KfC (w : World) (v : Value) (S : List Sp) (c : Nat) : Prop := ∃ (A : Option Addr) (lvs : List (Int × Value)), v = .slice A S.length c ∧ Cells w A (lvs.flatMap cfCells) ∧ KfOk lvs S w ∧ S.length ≤ c ∧ S.length ≤ lenMax
theorem KfC.ext {w w' : World} {v : Value} {S : List Sp} {c : Nat} (h : KfC w v S c) (e : Ext w w') : KfC w' v S c := by
  obtain ⟨A, lvs, h1, h2, ⟨h3, h4⟩, h5⟩ := h
  exact ⟨A, lvs, h1, h2.ext e, ⟨h3, fun i s p hs hp => by
    obtain ⟨A, c, h6, h7⟩ := h4 i s p hs hp
    exact ⟨A, c, h6, h7.ext e⟩⟩, h5⟩
def RL (w : World) (xb : Obj) (d1 d2 d5 : Nat) (ins outs : Int) (rv : Value) (F : Nat → Prop) (lv : Value) (lvs : List (Int × Value)) (S : List Sp) (vs : List Value) (rows : List (List (Int × Int))) : List Asn :=
  [.any F (KfW w lvs S), .row 34 2 lv S.length (lvs.flatMap cfCells), .rows 84 83 2 rv vs (rows.map eRow), .blk d5 (.cells #[.int .i64 ins, .int .i64 outs, rv] 52), .blk d2 zMach, .blk d1 xb]
/-- Between the rows. -/
def RuSt (w W : World) (xb : Obj) (d1 d2 d5 : Nat) (ins outs : Int) (lv : Value) (S : List Sp) (rows : List (List (Int × Int))) : Prop :=
  ∃ rv F lvs vs, OwnL w W (RL w xb d1 d2 d5 ins outs rv F lv lvs S vs rows)
/-- With a row under way. -/
def RuRow (w W : World) (xb : Obj) (d1 d2 d5 : Nat) (ins outs : Int) (lv : Value) (S : List Sp) (rows : List (List (Int × Int))) (wv : Value) (row : List (Int × Int)) : Prop :=
  ∃ rv F lvs vs, OwnL w W (.row 83 2 wv row.length (row.flatMap edgeCells) :: RL w xb d1 d2 d5 ins outs rv F lv lvs S vs rows)
theorem lits2_own (W : World) (e : TypeId) (x y : Value) (n : Nat) (hn : W.heap.size = n) : (W.alloc (.cells #[x, y] e)).ownsRow W.heap.size e 2 (.slice (some ⟨n, 0, none⟩) 1 1) 1 [x, y] := by
  subst hn
  have h := World.ownsRow_lit (base := W.heap.size) (e := e) (size := 2) W #[x, y] 1 (Nat.le_refl _) (by unfold maxLen; omega) rfl
  simpa using h
section
variable {w W W' : World} {xb : Obj} {d1 d2 d5 : Nat} {ins outs : Int} {lv wv : Value} {S : List Sp} {rows : List (List (Int × Int))} {row : List (Int × Int)}
theorem RuSt.ext (h : RuSt w W xb d1 d2 d5 ins outs lv S rows) : Ext w W := by obtain ⟨_, _, _, _, h⟩ := h; exact OwnL.ext h
theorem RuRow.ext (h : RuRow w W xb d1 d2 d5 ins outs lv S rows wv row) : Ext w W := by obtain ⟨_, _, _, _, h⟩ := h; exact OwnL.ext h
theorem RuSt.trans (h : RuSt w W xb d1 d2 d5 ins outs lv S rows) (e : Ext W W') : RuSt w W' xb d1 d2 d5 ins outs lv S rows := by obtain ⟨a, b, c, d, h⟩ := h; exact ⟨a, b, c, d, OwnL.trans h e⟩
theorem RuRow.trans (h : RuRow w W xb d1 d2 d5 ins outs lv S rows wv row) (e : Ext W W') : RuRow w W' xb d1 d2 d5 ins outs lv S rows wv row := by obtain ⟨a, b, c, d, h⟩ := h; exact ⟨a, b, c, d, OwnL.trans h e⟩
theorem RuSt.box (h : RuSt w W xb d1 d2 d5 ins outs lv S rows) : W.heap[d1]? = some xb := by obtain ⟨_, _, _, _, h⟩ := h; exact (h.get 5 rfl).2
theorem RuRow.box (h : RuRow w W xb d1 d2 d5 ins outs lv S rows wv row) : W.heap[d1]? = some xb := by obtain ⟨_, _, _, _, h⟩ := h; exact (h.get 6 rfl).2
theorem RuSt.begin (h : RuSt w W xb d1 d2 d5 ins outs lv S rows) : RuRow w W xb d1 d2 d5 ins outs lv S rows (.slice none 0 0) [] := by
  obtain ⟨a, b, c, d, h⟩ := h
  exact ⟨a, b, c, d, OwnL.add h (Ext.refl _) (A := .row 83 2 (.slice none 0 0) 0 []) (World.ownsRow_nil _ _ _ _)⟩
theorem RuRow.edges (h : RuRow w W xb d1 d2 d5 ins outs lv S rows wv row) : W.ownsRow w.heap.size 83 2 wv row.length (row.flatMap edgeCells) := by obtain ⟨_, _, _, _, h⟩ := h; exact h.get 0 rfl
theorem RuRow.lst (h : RuRow w W xb d1 d2 d5 ins outs lv S rows wv row) : ∃ lvs, W.ownsRow w.heap.size 34 2 lv S.length (lvs.flatMap cfCells) ∧ KfOk lvs S W := by obtain ⟨_, _, lvs, _, h⟩ := h; exact ⟨lvs, h.get 2 rfl, h.know 1 rfl (OwnL.ext h)⟩
theorem RuSt.lst (h : RuSt w W xb d1 d2 d5 ins outs lv S rows) : ∃ lvs, W.ownsRow w.heap.size 34 2 lv S.length (lvs.flatMap cfCells) ∧ KfOk lvs S W := by obtain ⟨_, _, lvs, _, h⟩ := h; exact ⟨lvs, h.get 1 rfl, h.know 0 rfl (OwnL.ext h)⟩
/-- A configuration of the list. -/
theorem kf_at {w W : World} {lv : Value} {lvs : List (Int × Value)} {S : List Sp} (h : W.ownsRow w.heap.size 34 2 lv S.length (lvs.flatMap cfCells)) (hk : KfOk lvs S W) {i : Nat} {c : Sp} (hc : S[i]? = some c) :
    ∃ g cl A ca, lv = .slice (some ⟨g, 0, none⟩) S.length cl ∧ W.cell? ⟨g, i * 2, none⟩ = some (.int .i64 c.1) ∧ W.cell? ⟨g, i * 2 + 1, none⟩ = some (.slice A c.2.length ca) ∧ IntsC W (.slice A c.2.length ca) c.2 ca := by
  have hlt := (List.getElem?_eq_some_iff.1 hc).1
  obtain ⟨g, cl, hlv⟩ := ownsRow_pos h (by omega)
  obtain ⟨p, hp⟩ : ∃ p, lvs[i]? = some p := ⟨_, List.getElem?_eq_getElem (by rw [hk.1]; exact hlt)⟩
  obtain ⟨A, ca, rfl, hi⟩ := hk.2 i c p hc hp
  have hcell := h.cells (g := g) (by rw [hlv]; rfl)
  have g0 := rec_get cfCells 2 (fun _ => rfl) hp 0 _ rfl
  have g1 := rec_get cfCells 2 (fun _ => rfl) hp 1 _ rfl
  have c0 := hcell _ _ g0
  have c1 := hcell _ _ g1
  rw [Addr.add_lit, Nat.zero_add] at c0 c1
  exact ⟨g, cl, A, ca, hlv, c0, c1, hi⟩
/-- One more edge. -/
theorem RuRow.edge {W1 : World} {wv' : Value} {e : Int × Int} (h : RuRow w W xb d1 d2 d5 ins outs lv S rows wv row) (he : Ext W W1) (hg : W1.grownBy W' wv.ownBlock) (ho : W'.ownsRow w.heap.size 83 2 wv' (row.length + 1) (row.flatMap edgeCells ++ edgeCells e)) (hb : ∀ b, wv'.ownBlock = some b → wv.ownBlock = some b ∨ W1.heap.size ≤ b) : RuRow w W' xb d1 d2 d5 ins outs lv S rows wv' (row ++ [e]) := by
  obtain ⟨rv, F, lvs, vs, h⟩ := h
  refine ⟨rv, F, lvs, vs, ?_⟩
  have h2 := (OwnL.trans h he).app 0 rfl hg ho hb
  rw [List.length_append, List.length_singleton, List.flatMap_append, show [e].flatMap edgeCells = edgeCells e by simp]
  exact h2
/-- One more configuration. -/
theorem RuRow.conf (h : RuRow w W xb d1 d2 d5 ins outs lv S rows wv row) : ∃ lvs : List (Int × Value), W.ownsRow w.heap.size 34 2 lv S.length (lvs.flatMap cfCells) ∧ KfOk lvs S W ∧
    (∀ (W1 W' : World) (lv' : Value) (c : Sp) (A : Option Addr) (ca : Nat), Ext W W1 → IntsC W1 (.slice A c.2.length ca) c.2 ca → NewA W.heap.size A c.2 → W1.grownBy W' lv.ownBlock → W'.ownsRow w.heap.size 34 2 lv' (S.length + 1) (lvs.flatMap cfCells ++ [.int .i64 c.1, .slice A c.2.length ca]) → (∀ b, lv'.ownBlock = some b → lv.ownBlock = some b ∨ W1.heap.size ≤ b) → RuRow w W' xb d1 d2 d5 ins outs lv' (S ++ [c]) rows wv row) := by
  obtain ⟨rv, F, lvs, vs, h⟩ := h
  have hk : KfOk lvs S W := h.know 1 rfl (OwnL.ext h)
  refine ⟨lvs, h.get 2 rfl, hk, fun W1 W' lv' c A ca he hi hn hg ho hb => ?_⟩
  have h1 := OwnL.add h he (A := .any (cfS A c.2.length) (cfF w (.slice A c.2.length ca) c.2 ca)) (cf_ok hi hn)
  have h2 := h1.app 3 rfl hg ho hb
  have h3 : OwnL w W' (.any (cfS A c.2.length) (cfF w (.slice A c.2.length ca) c.2 ca) :: .row 83 2 wv row.length (row.flatMap edgeCells) :: .any F (KfW w lvs S) :: .row 34 2 lv' (S.length + 1) (lvs.flatMap cfCells ++ [.int .i64 c.1, .slice A c.2.length ca]) :: .rows 84 83 2 rv vs (rows.map eRow) :: .blk d5 (.cells #[.int .i64 ins, .int .i64 outs, rv] 52) :: .blk d2 zMach :: .blk d1 xb :: []) := h2
  have h4 := (h3.perm (.cons _ (List.Perm.swap _ _ _))).merge.weaken (Φ' := KfW w (lvs ++ [(c.1, .slice A c.2.length ca)]) (S ++ [c])) (fun W h e => by
    obtain ⟨k1, k2⟩ := h.2 e
    refine ⟨by simp [k1], fun i s p hs hp => ?_⟩
    by_cases hil : i < S.length
    · rw [List.getElem?_append_left hil] at hs
      rw [List.getElem?_append_left (by omega)] at hp
      exact k2 i s p hs hp
    · have hi2 : i = S.length := by have := (List.getElem?_eq_some_iff.1 hs).1; simp at this; omega
      subst hi2
      rw [List.getElem?_append_right (Nat.le_refl _), Nat.sub_self] at hs
      rw [← k1, List.getElem?_append_right (Nat.le_refl _), Nat.sub_self] at hp
      cases hs; cases hp
      exact ⟨A, ca, rfl, h.1 e⟩)
  have h5 := h4.swap
  refine ⟨rv, fun b => cfS A c.2.length b ∨ F b, lvs ++ [(c.1, .slice A c.2.length ca)], vs, ?_⟩
  unfold RL
  rw [List.length_append, List.length_singleton, List.flatMap_append, show [(c.1, Value.slice A c.2.length ca)].flatMap cfCells = [.int .i64 c.1, .slice A c.2.length ca] by simp [cfCells]]
  exact h5
/-- The rows of the machine, and the field where they stand. -/
theorem RuRow.mrows (h : RuRow w W xb d1 d2 d5 ins outs lv S rows wv row) : ∃ rv vs, W.ownsRow w.heap.size 84 1 rv vs.length vs ∧ vs.length = rows.length ∧ W.heap[d5]? = some (.cells #[.int .i64 ins, .int .i64 outs, rv] 52 (0, 0)) ∧
    (∀ W1 W' rv', Ext W W1 → W1.grownBy W' rv.ownBlock → W'.ownsRow w.heap.size 84 1 rv' (vs.length + 1) (vs ++ [wv]) → (∀ b, rv'.ownBlock = some b → rv.ownBlock = some b ∨ W1.heap.size ≤ b) → RuSt w (W'.setCell ⟨d5, 2, none⟩ rv') xb d1 d2 d5 ins outs lv S (rows ++ [row]) ∧ W'.heap[d5]? = some (.cells #[.int .i64 ins, .int .i64 outs, rv] 52 (0, 0))) := by
  obtain ⟨rv, F, lvs, vs, h⟩ := h
  have hO : OwnRows W w.heap.size 84 83 2 rv vs (rows.map eRow) := h.get 3 rfl
  have hd : w.heap.size ≤ d5 ∧ W.heap[d5]? = some (.cells #[.int .i64 ins, .int .i64 outs, rv] 52 (0, 0)) := h.get 4 rfl
  refine ⟨rv, vs, hO.own, by rw [hO.len]; simp, hd.2, fun W1 W' rv' he hg ho hb => ?_⟩
  have h0 : OwnL w W1 (.row 83 2 wv row.length (row.flatMap edgeCells) :: .rows 84 83 2 rv vs (rows.map eRow) :: [.any F (KfW w lvs S), .row 34 2 lv S.length (lvs.flatMap cfCells), .blk d5 (.cells #[.int .i64 ins, .int .i64 outs, rv] 52), .blk d2 zMach, .blk d1 xb]) :=
    (OwnL.trans h he).perm (.cons _ (List.perm_middle (l₁ := [_, _]) (l₂ := [_, _, _])))
  have h1 := h0.push hg ho hb
  have hd' : w.heap.size ≤ d5 ∧ W'.heap[d5]? = some (.cells #[.int .i64 ins, .int .i64 outs, rv] 52 (0, 0)) := h1.get 3 rfl
  have h2 := h1.put 3 rfl 2 rv'
  refine ⟨⟨rv', F, lvs, vs ++ [wv], ?_⟩, hd'.2⟩
  have h3 : OwnL w (W'.setCell ⟨d5, 2, none⟩ rv') (.rows 84 83 2 rv' (vs ++ [wv]) (rows.map eRow ++ [(row.length, row.flatMap edgeCells)]) :: [.any F (KfW w lvs S), .row 34 2 lv S.length (lvs.flatMap cfCells)] ++ [.blk d5 (.cells #[.int .i64 ins, .int .i64 outs, rv'] 52), .blk d2 zMach, .blk d1 xb]) := h2
  have h4 := h3.perm (List.perm_middle (l₁ := [_, _]) (l₂ := [_, _, _])).symm
  unfold RL
  rw [List.map_append, show [row].map eRow = [(row.length, row.flatMap edgeCells)] by simp [eRow]]
  exact h4
end
theorem RuSt.start {w W1 W2 : World} {xb : Obj} {d1 d2 : Nat} (h0 : OwnL w W1 [.blk d2 zMach, .blk d1 xb]) {xs : List Int} {As : Option Addr} {c2 : Nat} (hs : IntsC w (.slice As xs.length c2) xs c2) {ins outs : Int} (h2 : W2.heap[W1.heap.size + 1]? = some (.cells #[.int .i64 ins, .int .i64 outs, .slice none 0 0] 52 (0, 0)))
    (g2 : ((W1.alloc (.cells #[.int .i64 0, .slice As xs.length c2] 34)).alloc zMach).grownBy W2 (some (W1.heap.size + 1))) : RuSt w W2 xb d1 d2 (W1.heap.size + 1) ins outs (.slice (some ⟨W1.heap.size, 0, none⟩) 1 1) [(0, xs)] [] := by
  have h1 := h0.add (alloc_ext W1 _) (A := .row 34 2 (.slice (some ⟨W1.heap.size, 0, none⟩) 1 1) 1 [.int .i64 0, .slice As xs.length c2]) (lits2_own W1 34 _ _ _ rfl)
  have h3 := h1.add (alloc_ext _ zMach) (A := .blk (W1.heap.size + 1) zMach) ⟨by simp, by have := heap_alloc_new (W1.alloc (.cells #[.int .i64 0, .slice As xs.length c2] 34)) zMach; simpa using this⟩
  have h4 := h3.step 0 rfl g2 (fun b hb => by cases hb; rfl) (A' := .blk (W1.heap.size + 1) (.cells #[.int .i64 ins, .int .i64 outs, .slice none 0 0] 52)) ⟨Nat.le_trans h0.ext.size (Nat.le_succ _), h2⟩ (fun b hb => .inl hb)
  have h5 := (h4.add (Ext.refl _) (A := .rows 84 83 2 (.slice none 0 0) [] []) (OwnRows.none _ _ _ _ _)).perm (List.perm_middle (l₁ := [_, _]))
  have h6 := h5.add (Ext.refl _) (A := .any (fun _ => False) (KfW w [(0, .slice As xs.length c2)] [(0, xs)])) ⟨fun b hb => hb.elim, fun w' _ e => ⟨rfl, fun i s p hs' hp => by
    cases i with
    | zero => simp at hs' hp; subst hs' hp; exact ⟨As, c2, rfl, hs.ext e⟩
    | succ i => simp at hs'⟩⟩
  exact ⟨_, _, _, _, h6⟩
theorem rowsC_any {W : World} {B n c : Nat} {A : Option Addr} {vs : List Value} {rows : List (List (Int × Int))} (h : OwnRows W B 84 83 2 (.slice A n c) vs (rows.map eRow)) (hn : rows.length = n) (hl : n ≤ 1000) (hr : ∀ r ∈ rows, r.length ≤ 1000) : RowsC W (.slice A n c) rows c := by
  subst hn
  have hlen : vs.length = rows.length := by rw [h.len]; simp
  obtain ⟨A', c', hv, hnc, hc⟩ := cells_of_owns h.own
  rw [hlen] at hv hnc
  cases hv
  refine ⟨A, vs, rfl, hc, hlen, fun i u es hu hes => ?_, hnc, by unfold lenMax; omega⟩
  have h1 := h.each i u (eRow es) hu (by rw [List.getElem?_map, hes]; rfl)
  obtain ⟨A2, c2, hu2, h3, h4⟩ := cells_of_owns h1
  subst hu2
  exact ⟨c2, A2, rfl, h4, h3, by have := hr es (List.mem_of_getElem? hes); show es.length ≤ lenMax; unfold lenMax; omega⟩
theorem pad_inj {c d : Sp} (hl : c.2.length = d.2.length) (h : pad c = pad d) : c = d := by
  obtain ⟨s, xs⟩ := c
  obtain ⟨t, ys⟩ := d
  unfold pad at h
  simp only [List.cons_append, List.cons.injEq] at h
  obtain ⟨rfl, h⟩ := h
  have h2 := List.append_inj_left h hl
  rw [show xs = ys from h2]
theorem idxP_at {S : List Sp} {c : Sp} (hl : ∀ d ∈ S, d.2.length = c.2.length) : ∀ {k : Nat}, S[k]? = some c → (∀ (j : Nat), j < k → ∀ d, S[j]? = some d → d ≠ c) → idxP S c = some k := by
  intro k hk hb
  unfold idxP
  rw [List.findIdx?_eq_some_iff_getElem]
  have hlt := (List.getElem?_eq_some_iff.1 hk).1
  refine ⟨hlt, by rw [(List.getElem?_eq_some_iff.1 hk).2]; simp, fun j hj => ?_⟩
  simp only [beq_iff_eq]
  intro h
  have hjl : j < S.length := by omega
  exact hb j hj S[j] (List.getElem?_eq_getElem hjl) (pad_inj (hl _ (List.getElem_mem hjl)) h)
theorem idxP_no {S : List Sp} {c : Sp} (hl : ∀ d ∈ S, d.2.length = c.2.length) (hb : ∀ (j : Nat) (d : Sp), S[j]? = some d → d ≠ c) : idxP S c = none := by
  unfold idxP
  rw [List.findIdx?_eq_none_iff]
  intro d hd
  simp only [beq_eq_false_iff_ne]
  intro h
  obtain ⟨j, hj⟩ := List.getElem?_of_mem hd
  exact hb j d hj (pad_inj (hl d hd) h)
end Go.Proofs.YtggffdkgfgdaoaaDoor
