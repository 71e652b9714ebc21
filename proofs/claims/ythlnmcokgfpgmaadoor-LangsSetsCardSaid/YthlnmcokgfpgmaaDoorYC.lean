/- The laws of operations on sets of words. Plain lists. acceptors.Minimal, langs.Complement: plain laws. acceptors.Minimal 30 of a valid automaton. langs.Complement 35 of a valid automaton. -/
import Derived.Test.YthlnmcokgfpgmaaDoorZV
import Derived.Test.YthlnmcokgfpgmaaDoorYB
import Derived.Test.YthlnmcokgfpgmaaDoorZD
import Derived.Test.YthlnmcokgfpgmaaDoorZS
namespace Go.Proofs.YthlnmcokgfpgmaaDoor
open Go.RowKit
set_option linter.unusedVariables false
set_option linter.unusedSimpArgs false

theorem OpW.k {g : Bool → Bool → Bool} {a b q : Dfa} (h : OpW g a b q) : q.k = a.k := by unfold Dfa.k; rw [h.2.1]
/-- The words that an automaton accepts, turned round. -/
def CompW (a q : Dfa) : Prop := Canon q ∧ q.sy = a.sy ∧ ∀ w, okW a.k w → q.ac (q.run 0 w) = !(a.ac (a.run 0 w))
theorem CompW.k {a q : Dfa} (h : CompW a q) : q.k = a.k := by unfold Dfa.k; rw [h.2.1]
theorem compW_one {a q q' : Dfa} (h : CompW a q) (h' : CompW a q') : q = q' :=
  canon_eq h.1 h'.1 (by rw [h.k, h'.k]) (fun w hw => by have := h.k; rw [h.2.2 w (this ▸ hw), h'.2.2 w (this ▸ hw)])
/-- A difference is what is common with the complement. -/
theorem minus_comm {a b q m d : Dfa} (hq : CompW b q) (hm : OpW (fun x y => x && !y) a b m) (hd : OpW (fun x y => x && y) a q d) (hs : a.sy = b.sy) : m = d := by
  have hkb : a.k = b.k := by unfold Dfa.k; rw [hs]
  refine canon_eq hm.1 hd.1 (by rw [hm.k, hd.k]) (fun w hw => ?_)
  have hwa : okW a.k w := hm.k ▸ hw
  rw [hm.2.2 w hwa, hd.2.2 w hwa, hq.2.2 w (hkb ▸ hwa)]
/-- The complement of a union is common to the complements. -/
theorem comp_union {a b p q u v w : Dfa} (hp : CompW a p) (hq : CompW b q) (hu : OpW (fun x y => x || y) a b u) (hv : CompW u v) (hw : OpW (fun x y => x && y) p q w) (hs : a.sy = b.sy) : v = w := by
  have hkb : a.k = b.k := by unfold Dfa.k; rw [hs]
  refine canon_eq hv.1 hw.1 (by rw [hv.k, hw.k, hu.k, hp.k]) (fun z hz => ?_)
  have hza : okW a.k z := by rw [hv.k, hu.k] at hz; exact hz
  rw [hv.2.2 z (hu.k.symm ▸ hza), hu.2.2 z hza, hw.2.2 z (hp.k.symm ▸ hza), hp.2.2 z hza, hq.2.2 z (hkb ▸ hza), Bool.not_or]
theorem count_add {a b u c : Dfa} (hu : OpW (fun x y => x || y) a b u) (hc : OpW (fun x y => x && y) a b c) (hs : a.sy = b.sy) (n : Nat) : cntW a n 0 + cntW b n 0 = cntW u n 0 + cntW c n 0 := by
  have hkb : b.k = a.k := by unfold Dfa.k; rw [hs]
  unfold cntW
  rw [hu.k, hc.k, hkb]
  have key : ∀ l : List (List Nat), (∀ w ∈ l, okW a.k w) → l.countP (fun w => a.ac (a.run 0 w)) + l.countP (fun w => b.ac (b.run 0 w)) = l.countP (fun w => u.ac (u.run 0 w)) + l.countP (fun w => c.ac (c.run 0 w)) := fun l => by
    induction l with
    | nil => intro _; rfl
    | cons w l ih =>
      intro h
      have h1 := ih (fun z hz => h z (by simp [hz]))
      have h2 := hu.2.2 w (h w (by simp))
      have h3 := hc.2.2 w (h w (by simp))
      simp only [List.countP_cons, h2, h3]
      cases a.ac (a.run 0 w) <;> cases b.ac (b.run 0 w) <;> simp <;> omega
  exact key _ (fun w hw => (lev_ok hw).2)
theorem count_len {d : Dfa} (hg : Good d) (hk : d.k ≤ 3) {n : Nat} (hn : n ≤ 20) : countR d n = ((cntW d n 0 : Int), 0) ∧ cntW d n 0 ≤ 3486784401 := by
  have h1 := cntW_le d n 0
  have h2 : d.k ^ n ≤ 3486784401 := Nat.le_trans (Nat.pow_le_pow_left hk n) (Nat.le_trans (Nat.pow_le_pow_right (by omega) hn) (by decide))
  exact ⟨count_exact hg (by omega) (by omega), by omega⟩
end Go.Proofs.YthlnmcokgfpgmaaDoor

namespace Go.Proofs.YthlnmcokgfpgmaaDoor
open Go.RowKit Go.Maps
set_option linter.unusedVariables false
set_option linter.unusedSimpArgs false
/-- Some data, taken together as one fact. -/
theorem OwnL.cover {w W : World} {A : Asn} {L : List Asn} (h : OwnL w W (A :: L)) {Φ : World → Prop} (hΦ : ∀ W', (∀ B ∈ L, B.ok w.heap.size W') → Φ W') : OwnL w W [A, .any (fun b => ∃ B ∈ L, B.foot b) Φ] := by
  refine ⟨h.ext, fun B hB => ?_, ?_⟩
  · rcases List.mem_cons.1 hB with rfl | hB
    · exact h.ok _ (by simp)
    · rcases List.mem_cons.1 hB with rfl | hB
      · refine ⟨fun b ⟨C, hC, hb⟩ => Asn.lt (h.ok C (by simp [hC])) hb, fun W' hW' => hΦ W' fun C hC => ?_⟩
        exact Asn.of (h.ok C (by simp [hC])) (fun b hb => hW' b ⟨C, hC, hb⟩)
      · cases hB
  · have hp := List.pairwise_cons.1 h.apart
    refine List.pairwise_cons.2 ⟨fun B hB b hb hb' => ?_, by simp⟩
    simp only [List.mem_singleton] at hB
    subst hB
    obtain ⟨C, hC, hc⟩ := hb'
    exact hp.1 C hC b hb hc
/-- A set whose list of truths can be stored to. -/
def MinF (w : World) (v : Value) (q : Dfa) (w' : World) : Prop := ∃ g g' S, v = .agg #[.int .i64 q.sy, .slice (some ⟨g, 0, none⟩) q.rows.length q.rows.length, .slice (some ⟨g', 0, none⟩) q.rows.length q.rows.length] ∧
  OwnL w w' [.row 4 1 (.slice (some ⟨g', 0, none⟩) q.rows.length q.rows.length) q.rows.length (q.acc.map .bool), .any S (fun W => ListsC W (.slice (some ⟨g, 0, none⟩) q.rows.length q.rows.length) q.rows q.rows.length)]
theorem own_bools {W : World} {N g n : Nat} {acc : List Bool} (h : W.ownsRow N 4 1 (.slice (some ⟨g, 0, none⟩) n n) n (acc.map .bool)) (hl : acc.length = n) (hn : n ≤ lenMax) : BoolsC W (.slice (some ⟨g, 0, none⟩) n n) acc acc.length := by
  obtain ⟨A, c, hv, hle, hcs⟩ := cells_of_owns h
  injection hv with h1 _ h3
  subst h1 h3
  exact ⟨_, by rw [hl], hcs, by rw [hl]; exact Nat.le_refl _, by rw [hl]; exact hn⟩
theorem MinF.far {w w' : World} {v : Value} {q : Dfa} (h : MinF w v q w') (hg : Good q) : FarF w.heap.size w' v q := by
  obtain ⟨g, g', S, rfl, hO⟩ := h
  intro W hW
  have hl := hg.size
  have hok : ∀ A ∈ _, Asn.ok w.heap.size W A := fun A hA => Asn.of (hO.ok A hA) (fun b hb => hW b (Asn.lt (hO.ok A hA) hb).1 (Asn.lt (hO.ok A hA) hb).2)
  have h2 := hok _ (List.mem_cons_of_mem _ (List.mem_singleton.2 rfl))
  have h1 : W.ownsRow w.heap.size 4 1 _ _ _ := hok _ List.mem_cons_self
  exact ⟨_, _, rfl, h2.2 W (fun _ _ => rfl), own_bools h1 hg.acc (by unfold lenMax; omega)⟩
theorem MinF.ext {w w' : World} {v : Value} {q : Dfa} (h : MinF w v q w') : Ext w w' := by
  obtain ⟨g, g', S, rfl, hO⟩ := h
  exact hO.ext
/-- The automaton that accepts what d accepts, least of all. -/
def IsMin (d q : Dfa) : Prop := OpW (fun x _ => x) d (noneD d) q ∧ q.n ≤ d.n
theorem chk_none {d : Dfa} (hg : Good d) : chkL d (noneD d) = 0 := by
  unfold chkL
  rw [if_neg (by rw [(good_iff d).2 hg]; simp), if_neg (by rw [(good_iff _).2 (good_none hg)]; simp), if_neg (fun h => h rfl)]
theorem isMin_quo {d : Dfa} (hg : Good d) {cl : List Int} {many : Nat} (h : RefR (rowsM d) (clsO (fun x _ => x) d (noneD d)) 0 (cl, many)) : IsMin d (quoD d.sy (rowsM d) (clsO (fun x _ => x) d (noneD d)) cl many) := by
  have hl := lst_len hg
  have hm := refR_many h
  rw [rowsM_len] at hm
  have hb := (lst_ok hg).bound
  have h2 : (noneD d).n = 1 := rfl
  rw [h2, Nat.mul_one] at hb
  have hn : (quoD d.sy (rowsM d) (clsO (fun x _ => x) d (noneD d)) cl many).n = many := by simp [quoD, Dfa.n]
  have hmn : many ≤ d.n := Nat.le_trans hm hb
  have hm : many ≤ 256 := Nat.le_trans hm hl
  exact ⟨(opR_set (OpR.set (g := fun x _ => x) (chk_none hg) (by omega) h hm) rfl).2.2.2, by rw [hn]; exact hmn⟩
theorem IsMin.one {d q q' : Dfa} (h : IsMin d q) (h' : IsMin d q') : q = q' := opW_one h.1 h'.1
theorem row_by {d : Dfa} (hg : Good d) (cls : List Int) {i : Nat} {r : Rch} (hr : (pairsL d (noneD d))[i]? = some r) (hi : i < (rowsM d).length) (hp : r.p < d.rows.length) : (rowsM d)[i].map (fun t => (resC d cls).getD t.toNat 0) = d.rows[r.p].map (fun t => cls.getD t.toNat 0) := by
  have h := key_by hg cls hr hi hp
  have hl : (numsP d (noneD d) (pairsL d (noneD d)) r).length = d.k := by simp [numsP]
  have hrl : (rowsM d)[i].length = d.k := by rw [lst_row hr hi, hl]
  unfold keyR keyX byX at h
  rw [hrl, List.take_of_length_le (Nat.le_of_eq hrl), List.take_of_length_le (Nat.le_of_eq (hg.row hp)), List.append_left_inj, List.cons.injEq] at h
  exact h.2
theorem acc_by {d : Dfa} {cl : List Int} {i q : Nat} {r : Rch} (hr : (pairsL d (noneD d))[i]? = some r) (hq : cl[i]? = some (q : Int)) (hm : (q : Int) ∉ cl.take i) : accQ (clsO (fun x _ => x) d (noneD d)) cl q = d.ac r.p := by
  rw [accQ_at hq hm (z := if d.ac r.p then 1 else 0) (by unfold clsO; rw [List.getElem?_map, hr]; rfl)]
  cases d.ac r.p <;> rfl
/-! ### The truths turned round -/
def flipD (q : Dfa) : Dfa := ⟨q.sy, q.rows, q.acc.map (! ·)⟩
theorem flip_ac {q : Dfa} (hg : Good q) {s : Nat} (hs : s < q.n) : (flipD q).ac s = !(q.ac s) := by
  have h : s < q.acc.length := by rw [hg.acc]; exact hs
  unfold flipD Dfa.ac
  rw [List.getD_eq_getElem?_getD, List.getD_eq_getElem?_getD, List.getElem?_map, List.getElem?_eq_getElem h]; rfl
theorem flip_run (q : Dfa) : ∀ (w : List Nat) (s : Nat), (flipD q).run s w = q.run s w
  | [], _ => rfl
  | x :: w, s => flip_run q w _
theorem flip_good {q : Dfa} (hg : Good q) : Good (flipD q) := ⟨hg.sy, hg.size, by unfold flipD; rw [List.length_map]; exact hg.acc, hg.len, hg.fit⟩
theorem run_ltG {q : Dfa} (hg : Good q) : ∀ (w : List Nat) (s : Nat), s < q.n → okW q.k w → q.run s w < q.n
  | [], s, h, _ => h
  | x :: w, s, h, hw => run_ltG hg w _ (hg.to_lt h (hw x (by simp))) (fun y hy => hw y (by simp [hy]))
theorem flip_canon {q : Dfa} (h : Canon q) : Canon (flipD q) := by
  refine ⟨flip_good h.good, fun s t hs ht hl => h.one s t hs ht fun w hw => ?_, h.ord⟩
  have h1 := hl w hw
  rw [flip_run, flip_run, flip_ac h.good (run_ltG h.good w s hs hw), flip_ac h.good (run_ltG h.good w t ht hw)] at h1
  cases h2 : q.ac (q.run s w) <;> cases h3 : q.ac (q.run t w) <;> simp [h2, h3] at h1 ⊢
theorem comp_of {d q : Dfa} (h0 : IsMin d q) : CompW d (flipD q) ∧ (flipD q).n ≤ d.n := by
  obtain ⟨h, hle⟩ := h0
  have hk : q.k = d.k := h.k
  have h0 : 0 < q.n := by have := h.1.good.size; unfold Dfa.n; omega
  refine ⟨⟨flip_canon h.1, h.2.1, fun w hw => ?_⟩, hle⟩
  rw [flip_run, flip_ac h.1.good (run_ltG h.1.good w 0 h0 (hk ▸ hw)), h.2.2 w hw]
def flipI (acc : List Bool) (i : Nat) : List Bool := (acc.take i).map (! ·) ++ acc.drop i
theorem flipI_zero (acc : List Bool) : flipI acc 0 = acc := by simp [flipI]
theorem flipI_all {acc : List Bool} {n : Nat} (h : acc.length = n) : flipI acc n = acc.map (! ·) := by unfold flipI; rw [List.take_of_length_le (by omega), List.drop_of_length_le (by omega), List.append_nil]
theorem flipI_at {acc : List Bool} {i : Nat} (h : i < acc.length) : (flipI acc i)[i]? = some acc[i] := by
  unfold flipI
  have hl : ((acc.take i).map (! ·)).length = i := by simp; omega
  rw [List.getElem?_append_right (by omega), hl, Nat.sub_self, List.getElem?_drop, Nat.add_zero, List.getElem?_eq_getElem h]
theorem flipI_set {acc : List Bool} {i : Nat} (h : i < acc.length) : (flipI acc i).set i (!acc[i]) = flipI acc (i + 1) := by
  unfold flipI
  have hl : ((acc.take i).map (! ·)).length = i := by simp; omega
  rw [List.set_append_right _ _ (by omega), hl, Nat.sub_self, List.drop_eq_getElem_cons h, List.set_cons_zero, List.take_succ_eq_append_getElem h, List.map_append, List.append_assoc]; rfl
theorem flipI_len (acc : List Bool) {i : Nat} (h : i ≤ acc.length) : (flipI acc i).length = acc.length := by unfold flipI; simp; omega
/-- What acceptors.Minimal answers. -/
def AMinP (d : Dfa) (w : World) (e : Ending) (w' : World) : Prop := ∃ v q, e = .returned (.tuple #[v, .int .i64 0]) ∧ IsMin d q ∧ MinF w v q w'
theorem minF_quo {sy : Int} {k : Nat} {RP : List (List Int)} {C cl : List Int} {many : Nat} {vs : List Value} {D E : List Asn} {w W : World} (h : QInv k RP cl many vs D cl.length) (hall : ∀ c, c < many → (c : Int) ∈ cl) (hk : k ≤ 100) (hm : many ≤ 1000)
    {g g' : Nat} (hO : OwnL w W (.row 4 1 (.slice (some ⟨g', 0, none⟩) many many) many (accI C cl many cl.length) :: .row 31 1 (.slice (some ⟨g, 0, none⟩) many many) many vs :: E)) (hD : ∀ A ∈ D, A ∈ E) :
    MinF w (.agg #[.int .i64 sy, .slice (some ⟨g, 0, none⟩) many many, .slice (some ⟨g', 0, none⟩) many many]) (quoD sy RP C cl many) W := by
  have hl : (quoD sy RP C cl many).rows.length = many := by simp [quoD]
  rw [accI_all hall] at hO
  have hc := hO.cover (Φ := fun W => ListsC W (.slice (some ⟨g, 0, none⟩) many many) ((List.range many).map (rowQ RP cl)) many) (fun W' hW' => quo_rows h hall hk hm (fun A hA => hW' A hA) (fun A hA => List.mem_cons_of_mem _ (hD A hA)) List.mem_cons_self)
  exact ⟨g, g', _, by rw [hl]; rfl, by rw [hl]; exact hc⟩
end Go.Proofs.YthlnmcokgfpgmaaDoor

namespace Go.Proofs.YthlnmcokgfpgmaaDoor
open Go.RowKit Go.Maps
set_option linter.unusedVariables false
set_option linter.unusedSimpArgs false
attribute [local go_sem] Oper.quietV quietV Oper.gives givesV ext_refl_iff ext_alloc_iff ext_drew_iff ext_drewN_iff
theorem own_cells {W : World} {N g n c : Nat} {xs : List Int} (h : W.ownsRow N 3 1 (.slice (some ⟨g, 0, none⟩) n c) n (xs.map (.int .i64))) {x : Nat} {u : Int} (hx : xs[x]? = some u) : W.cell? ⟨g, x, none⟩ = some (.int .i64 u) := by
  have := h.cells (g := g) rfl x (.int .i64 u) (by rw [List.getElem?_map, hx]; rfl)
  rw [Addr.add_lit, Nat.zero_add] at this
  exact this

set_option maxRecDepth 100000 in
set_option maxHeartbeats 16000000 in
theorem minimal_any (w : World) (dv : Value) (d : Dfa) (hd : DfaV w dv d) (hg : Good d) : Calls Tryd.prog 30 #[dv] w (AMinP d w) := by
  obtain ⟨rv, cr, av, ca, rfl, hr, ha⟩ := id hd
  obtain ⟨Ar, vr, rfl, _, _, _, _, hrm⟩ := id hr
  obtain ⟨Aa, rfl, hac, _, ham⟩ := id ha
  unfold lenMax at hrm ham
  have hkk := hg.kk
  have hs1 := hg.size
  have hll := lst_len hg
  have hlp : 1 ≤ (pairsL d (noneD d)).length := (lst_ok hg).pos
  have HK := Lib.hid hg
  have HRL := Lib.hid (rowsM_len d)
  have hz := (good_iff d).2 hg
  go_enter Tryd.func30, Tryd.ntmps30
  go_upto_region 1 with fail
  refine wp_named ?_
  intro W1 hW1
  have hE1 : Ext w W1 := by rw [hW1]; exact ((Ext.refl _).alloc _).alloc _
  have k0 : ∀ w', Ext W1 w' → w'.cell? ⟨w.heap.size, 0, none⟩ = some (.int .i64 d.sy) := fun w' h => h.cell (by rw [hW1]; simp [go_sem])
  have k1 : ∀ w', Ext W1 w' → w'.cell? ⟨w.heap.size, 1, none⟩ = some (.slice Ar d.rows.length cr) := fun w' h => h.cell (by rw [hW1]; simp [go_sem])
  have k2 : ∀ w', Ext W1 w' → w'.cell? ⟨w.heap.size, 2, none⟩ = some (.slice Aa d.acc.length ca) := fun w' h => h.cell (by rw [hW1]; simp [go_sem])
  have kb : ∀ w', Ext W1 w' → w'.heap[w.heap.size + 1]? = some (.cells #[.int .i64 0, .slice none 0 0, .slice none 0 0] 28 (0, 0)) := fun w' h => heap_ext h (by rw [hW1]; have h9 := heap_alloc_new (w.alloc (.cells #[.int .i64 d.sy, .slice Ar d.rows.length cr, .slice Aa d.acc.length ca] 28)) (.cells #[.int .i64 0, .slice none 0 0, .slice none 0 0] 28 (0, 0)); simpa using h9)
  have HB6 : Hid (w.heap.size ≤ w.heap.size + 1) := Lib.hid (by omega)
  clear hW1
  generalize w.heap.size + 1 = b6 at *
  generalize hb1 : w.heap.size = b1 at *
  have HB1 := Lib.hid hb1
  clear hb1
  have hE0 := Ext.refl W1
  have hc1 := check_any W1 _ d (hd.ext hE1)
  rw [hz] at hc1
  clear hz
  go_upto_region 4 with ((with_reducible refine hc1.mono ?_); rintro e w1 ⟨rfl, e1⟩)
  have hc2 := reached_any w1 _ d (hd.ext (hE1.trans e1)) hg
  unfold ReaP at hc2
  go_upto_region 5 with ((with_reducible refine hc2.mono ?_); rintro e w2 ⟨ov, co, rfl, hord, e2⟩)
  have hE2 : Ext W1 w2 := e1.trans e2
  have hc3 := refM_any w2 _ _ d co (hd.ext (hE1.trans hE2)) hg hord
  unfold RefM at hc3
  clear hc1 hc2
  go_upto_region 6 with ((with_reducible refine hc3.mono ?_); rintro e w6 ⟨cv, cls, many, cc, rfl, hcls, hclen, hcval, href, e6⟩)
  clear hc3 hg
  have hE6 : Ext W1 w6 := hE2.trans e6
  obtain ⟨hfl, hfv⟩ := href.final
  have hfl : (resC d cls).length = (pairsL d (noneD d)).length := resC_len d cls
  have hfv : ∀ c ∈ resC d cls, 0 ≤ c ∧ c < (many : Int) := hfv
  have hmle : many ≤ 256 := by
    have := refR_many href
    rw [rowsM_len] at this
    exact Nat.le_trans this hll
  have hm1 : 1 ≤ many := by
    have h1 : 0 < (resC d cls).length := by rw [hfl]; omega
    have := hfv (resC d cls)[0] (List.getElem_mem h1)
    omega
  have hmkS := mk_slices many (by omega)
  have hmkB := mk_bools many (by omega)
  have hmin := isMin_quo HK.out href
  have hallc : ∀ c, c < many → (c : Int) ∈ resC d cls := fun c hc => by
    have hst : ∀ (rows : List (List Int)) (cl0 : List Int) (m0 : Nat) (r : List Int × Nat), rows.length ≤ 100000 → RefR rows cl0 m0 r → ∀ c, c < r.2 → (c : Int) ∈ r.1 := fun rows cl0 m0 r hn h => by
      induction h with
      | @stop cl many h1 =>
        intro c hc
        obtain ⟨j, _, he⟩ := (nextR_ok (cl := cl) hn).all c (by rw [h1]; exact hc)
        exact List.mem_of_getElem? he
      | step _ _ ih => exact ih
    exact hst _ _ _ _ (by rw [rowsM_len]; omega) href c hc
  have HF := Lib.hid (And.intro hfl (And.intro hfv (And.intro (show cls.length = d.rows.length from hclen) (And.intro hmin hallc))))
  clear hfl hfv hmin href hclen hcval hallc
  have k0 : ∀ w', Ext w6 w' → w'.cell? ⟨b1, 0, none⟩ = some (.int .i64 d.sy) := fun w' h => k0 w' (hE6.trans h)
  have k1 : ∀ w', Ext w6 w' → w'.cell? ⟨b1, 1, none⟩ = some (.slice Ar d.rows.length cr) := fun w' h => k1 w' (hE6.trans h)
  have k2 : ∀ w', Ext w6 w' → w'.cell? ⟨b1, 2, none⟩ = some (.slice Aa d.acc.length ca) := fun w' h => k2 w' (hE6.trans h)
  refine wp_region_ext 8 (factsOf [(3, FreshN w6.heap.size many (.slice none 0 0) 31), (5, FreshN w6.heap.size many (.bool false) 4), (7, Fresh w6.heap.size #[.int .i64 0, .slice none 0 0, .slice none 0 0] 28)]) (fun k => ([[], [0], [], [2], [], [4], [0, 1, 2, 3, 4, 5], [], [0, 1, 2, 3, 4, 5, 6, 7]] : List (List Nat)).getD k []) (by kernel_rfl) (by kernel_rfl) Ext.pre (mono_cons (stays_freshN _ _ _ _) (mono_cons (stays_freshN _ _ _ _) (mono_cons (stays_fresh _ _ _) (mono_nil)))) ?_
  simp only [List.take_succ_cons, List.take_zero]
  repeat (first | (with_reducible refine lexL_quiet' (v := ?_) ?_ ?_ ?_ ?_; rotate_left; (· with_reducible rfl); (· simp [factsOf]); (· intro w1 hw1 _; go_simp; with_reducible rfl); (try simp only [Act.put, List.setIfInBounds_toArray, List.set_cons_zero, List.set_cons_succ])) | (with_reducible refine lexL_skip ?_ ?_; (· simp [Region.wanted, yielded, undef]); (try simp only [Act.put, List.setIfInBounds_toArray, List.set_cons_zero, List.set_cons_succ])) | (with_reducible refine lexL_quiet (v := ?_) ?_ ?_ ?_ ?_; rotate_left; (· simp [Region.wanted, yielded, undef]); (· simp [factsOf]); (· intro w1 hw1 _; go_simp; with_reducible rfl); (try simp only [Act.put, List.setIfInBounds_toArray, List.set_cons_zero, List.set_cons_succ])))
  with_reducible refine lexL_give' (φ := ?_) ?_ ?_ ?_ ?_; rotate_left; (· with_reducible rfl); (· simp only [factsOf, Nat.reduceAdd, ↓reduceIte, Nat.reduceEqDiff]; rfl)
  · intro w2' hw2' _
    go_simp
    exact ⟨_, rfl, hw2'.size, heap_alloc_new w2' _⟩
  rintro v4 w2' hw2' ⟨b4, rfl, hb4, hblk4⟩ hk2
  clear hk2 hw2' hblk4 w2'
  (try simp only [Act.put, List.setIfInBounds_toArray, List.set_cons_zero, List.set_cons_succ])
  repeat (first | (with_reducible refine lexL_quiet' (v := ?_) ?_ ?_ ?_ ?_; rotate_left; (· with_reducible rfl); (· simp [factsOf]); (· intro w1 hw1 _; go_simp; with_reducible rfl); (try simp only [Act.put, List.setIfInBounds_toArray, List.set_cons_zero, List.set_cons_succ])) | (with_reducible refine lexL_skip ?_ ?_; (· simp [Region.wanted, yielded, undef]); (try simp only [Act.put, List.setIfInBounds_toArray, List.set_cons_zero, List.set_cons_succ])) | (with_reducible refine lexL_quiet (v := ?_) ?_ ?_ ?_ ?_; rotate_left; (· simp [Region.wanted, yielded, undef]); (· simp [factsOf]); (· intro w1 hw1 _; go_simp; with_reducible rfl); (try simp only [Act.put, List.setIfInBounds_toArray, List.set_cons_zero, List.set_cons_succ])))
  with_reducible refine lexL_give' (φ := ?_) ?_ ?_ ?_ ?_; rotate_left; (· with_reducible rfl); (· simp only [factsOf, Nat.reduceAdd, ↓reduceIte, Nat.reduceEqDiff]; rfl)
  · intro w2' hw2' _
    go_simp
    exact ⟨_, rfl, hw2'.size, heap_alloc_new w2' _⟩
  rintro v5 w2' hw2' ⟨b5, rfl, hb5, hblk5⟩ hk2
  clear hk2 hw2' hblk5 w2'
  (try simp only [Act.put, List.setIfInBounds_toArray, List.set_cons_zero, List.set_cons_succ])
  repeat (first | (with_reducible refine lexL_quiet' (v := ?_) ?_ ?_ ?_ ?_; rotate_left; (· with_reducible rfl); (· simp [factsOf]); (· intro w1 hw1 _; go_simp; with_reducible rfl); (try simp only [Act.put, List.setIfInBounds_toArray, List.set_cons_zero, List.set_cons_succ])) | (with_reducible refine lexL_skip ?_ ?_; (· simp [Region.wanted, yielded, undef]); (try simp only [Act.put, List.setIfInBounds_toArray, List.set_cons_zero, List.set_cons_succ])) | (with_reducible refine lexL_quiet (v := ?_) ?_ ?_ ?_ ?_; rotate_left; (· simp [Region.wanted, yielded, undef]); (· simp [factsOf]); (· intro w1 hw1 _; go_simp; with_reducible rfl); (try simp only [Act.put, List.setIfInBounds_toArray, List.set_cons_zero, List.set_cons_succ])))
  with_reducible refine lexL_give' (φ := ?_) ?_ ?_ ?_ ?_; rotate_left; (· with_reducible rfl); (· simp only [factsOf, Nat.reduceAdd, ↓reduceIte, Nat.reduceEqDiff]; rfl)
  · intro w2' hw2' _
    go_simp
    exact (fresh_alloc _ _ _ _ hw2'.size).2
  rintro v8 w2' hw2' ⟨b8, rfl, hb8, hblk8⟩ hk2
  clear hk2 hw2' hblk8 w2'
  (try simp only [Act.put, List.setIfInBounds_toArray, List.set_cons_zero, List.set_cons_succ])
  with_reducible refine lexL_nil ?_; intro w1 hw1 hk1; simp only [List.drop_succ_cons, List.drop_zero]
  obtain ⟨c4, h3, g4, hB4⟩ := hk1.get 3 rfl rfl
  obtain rfl : c4 = b4 := by injection h3 with h3; injection h3 with h3; injection h3 with h3; exact h3.symm
  obtain ⟨c5', h3', g5', hB5⟩ := hk1.get 5 rfl rfl
  obtain rfl : c5' = b5 := by injection h3' with h3; injection h3 with h3; injection h3 with h3; exact h3.symm
  obtain ⟨c8, h8, g8, hB8⟩ := hk1.get 7 rfl rfl
  obtain rfl : c8 = b8 := by cases h8; rfl
  have hn45 := blk_ne hB4 hB5 (by decide)
  have hn48 := blk_ne hB4 hB8 (by decide)
  have hn58 := blk_ne hB5 hB8 (by decide)
  clear hk1 h3 h3' h8 g4 g5' g8
  go_upto_region 7 with (with_reducible refine wpList_store_blk _ rfl 28 _ _ rfl c8 28 _ _ rfl rfl hB8 (by kernel_rfl) (by kernel_rfl) (by kernel_rfl) ?_; intro w7 h7 g7)
  have hE7 : Ext w6 w7 := Below.grown hw1 g7 hw1.size (fun k hk => by cases hk; exact hb8)
  have hC4 := (g7.block c4 (lt_of_block hB4) (by simp; omega)).trans hB4
  have hC5 := (g7.block c5' (lt_of_block hB5) (by simp; omega)).trans hB5
  have hO7 : OwnL w6 w7 [.row 31 1 (.slice (some ⟨c4, 0, none⟩) many many) many (List.replicate many (.slice none 0 0)), .row 4 1 (.slice (some ⟨c5', 0, none⟩) many many) many (List.replicate many (.bool false)), .blk c8 (.cells #[.int .i64 d.sy, .slice (some ⟨c4, 0, none⟩) many many, .slice (some ⟨c5', 0, none⟩) many many] 28)] := by
    refine ⟨hE7, fun A hA => ?_, ?_⟩
    · simp at hA
      rcases hA with rfl | rfl | rfl
      · exact own_of_blk hC4 hb4 (by omega)
      · exact own_of_blk hC5 hb5 (by omega)
      · exact ⟨hb8, h7⟩
    · simp [Asn.foot, Value.ownBlock]
      refine ⟨⟨?_, ?_⟩, ?_⟩ <;> omega
  clear hC4 hC5 hB4 hB5 hB8 h7 g7 hw1 hb4 hb5 hb8 hn45 hn48 hn58 hE7 hmkS hmkB w1 hE0 e1 hE2
  obtain ⟨Ac, rfl, hcc, _, hcm⟩ := id hcls
  obtain ⟨Ao, rfl, hoc, _, hom⟩ := id hord
  have hnl : (numI (pairsL d (noneD d))).length = (pairsL d (noneD d)).length := by unfold numI; simp
  have HNL := Lib.hid hnl
  rw [hnl, HF.out.2.2.1]
  clear hcm hom hnl hcls hord ha hd
  go_wp2
  go_loopw [37] (fun iv wr => ∃ (i : Nat) (vs : List Value) (D : List Asn), iv = .int .i64 i ∧ i ≤ (pairsL d (noneD d)).length ∧ Hid (QInv d.k (rowsM d) (resC d cls) many vs D i) ∧ OwnL w6 wr (.row 31 1 (.slice (some ⟨c4, 0, none⟩) many many) many vs :: .row 4 1 (.slice (some ⟨c5', 0, none⟩) many many) many (accI (clsO (fun x _ => x) d (noneD d)) (resC d cls) many i) :: .blk c8 (.cells #[.int .i64 d.sy, .slice (some ⟨c4, 0, none⟩) many many, .slice (some ⟨c5', 0, none⟩) many many] 28) :: D)) (fun iv _ => (pairsL d (noneD d)).length - (intOf iv).toNat)
  case atStart => exact ⟨0, _, [], rfl, Nat.zero_le _, Lib.hid (QInv.start _ _ _ _), by rw [accI_zero]; exact hO7⟩
  case round =>
    clear hO7
    obtain ⟨i, vs, D, rfl, hi, hQ, hO⟩ := hrel
    obtain ⟨W8, hW8⟩ : ∃ W, W = wr := ⟨_, rfl⟩; subst hW8
    by_cases hil : i < (pairsL d (noneD d)).length
    · have hic : i < (resC d cls).length := by rw [HF.out.1]; exact hil
      obtain ⟨r, hr0⟩ : ∃ r, (pairsL d (noneD d))[i]? = some r := ⟨_, List.getElem?_eq_getElem hil⟩
      have hrp := lst_p HK.out hr0
      have hiR : i < (rowsM d).length := by rw [HRL.out]; exact hil
      have hnum : (numI (pairsL d (noneD d)))[i]? = some (r.p : Int) := by unfold numI; rw [List.getElem?_map, hr0]; rfl
      have hni : i < (numI (pairsL d (noneD d))).length := by rw [HNL.out]; exact hil
      obtain ⟨bo, oo, hAo, _, c1⟩ := (hoc.ext (e6.trans hO.ext)).at_int hni
      subst hAo
      rw [show (numI (pairsL d (noneD d)))[i] = (r.p : Int) from by rw [List.getElem?_eq_getElem hni] at hnum; exact Option.some.inj hnum] at c1
      have hcp : r.p < cls.length := by rw [HF.out.2.2.1]; exact hrp
      obtain ⟨bc, oc, hAc, _, c2⟩ := (hcc.ext hO.ext).at_int hcp
      subst hAc
      obtain ⟨q, hq⟩ := Int.eq_ofNat_of_zero_le (HF.out.2.1 _ (List.getElem_mem hic)).1
      have hqm : q < many := by have := (HF.out.2.1 _ (List.getElem_mem hic)).2; omega
      have hqg : (resC d cls)[i]? = some (q : Int) := by rw [List.getElem?_eq_getElem hic, hq]
      have hcq : cls[r.p] = (q : Int) := by
        have h1 : (resC d cls)[i]? = some (cls.getD r.p 0) := by unfold resC; rw [List.getElem?_map, hr0]; rfl
        rw [hqg, List.getD_eq_getElem?_getD, List.getElem?_eq_getElem hcp] at h1
        exact (Option.some.inj h1).symm
      rw [hcq] at c2
      have hrl := HK.out.row hrp
      have hrq := fun hm => (rowQ_at (RP := rowsM d) hqg hm hiR).trans (row_by HK.out cls hr0 hiR hrp)
      have hacq := fun hm => acc_by (d := d) hr0 hqg hm
      have HQG := Lib.hid (And.intro hqg (And.intro hrl (And.intro hacq hrq)))
      have d1 := cell_of_blk (hO.get 2 rfl).2 1 (u := .slice (some ⟨c4, 0, none⟩) many many) rfl
      have hqI : (q : Int) < (many : Int) := by omega
      have hrpI : (r.p : Int) < (d.rows.length : Int) := by omega
      clear hqg hrl hrq hacq hq hic hcq hr0 hnum hni hcp
      by_cases hmem : (q : Int) ∈ (resC d cls).take i
      · obtain ⟨_, g, cs, hD, hvq, _⟩ := hQ.out.seen q hqm hmem
        have s0 := cell_own hO 0 rfl hvq
        have hneq := fun w => neq_nil w 31 3 (some ⟨g, 0, none⟩) d.k d.k Tryd.underlying31
        have HN : Hid (QInv d.k (rowsM d) (resC d cls) many vs D (i + 1)) := Lib.hid (hQ.out.old HQG.out.1 hmem)
        rw [← accI_old HQG.out.1 hmem] at hO
        have HO := Lib.hid hO
        clear hmem hvq hD hO
        go_wp2
        go_roundw
        case rel => exact ⟨i + 1, vs, D, by go_num, by omega, HN, HO.out⟩
        case measure => simp [intOf]; omega
      · have hvq := hQ.out.new q hqm hmem
        have s0 := cell_own hO 0 rfl hvq
        have hneq := fun w => neq_nil w 31 3 none 0 0 Tryd.underlying31
        obtain ⟨ba, oa, hAa, ca0⟩ := HK.out.acc_at (hac.ext (hE1.trans (hE6.trans hO.ext))) hrp
        subst hAa
        have hpa : r.p < d.acc.length := by rw [HK.out.acc]; exact hrp
        have hpaI : (r.p : Int) < (d.acc.length : Int) := by omega
        have kk0 : ∀ w', Ext W8 w' → w'.cell? ⟨b1, 0, none⟩ = some (.int .i64 d.sy) := fun w' h => k0 w' (hO.ext.trans h)
        have kk2 : ∀ w', Ext W8 w' → w'.cell? ⟨b1, 2, none⟩ = some (.slice (some ⟨ba, oa, none⟩) d.acc.length ca) := fun w' h => k2 w' (hO.ext.trans h)
        have HACQ := Lib.hid (And.intro (HQG.out.2.2.1 hmem) (And.intro hmem (And.intro hvq hO)))
        clear hmem hvq hO
        go_upto_region 12 with fail
        clear s0 c1 c2 hneq
        have d2 := cell_of_blk (HACQ.out.2.2.2.get 2 rfl).2 2 (u := .slice (some ⟨c5', 0, none⟩) many many) rfl
        have d2e : ∀ w', Ext W8 w' → w'.cell? ⟨c8, 2, none⟩ = some (.slice (some ⟨c5', 0, none⟩) many many) := fun w' h => h.cell d2
        have ca0e : ∀ w', Ext W8 w' → w'.cell? ⟨ba, oa + r.p, none⟩ = some (.bool (d.ac r.p)) := fun w' h => h.cell ca0
        clear d1 d2 ca0
        refine wp_region_ext 8 (factsOf []) (fun k => ([[], [0], [], [], [3], [], [3, 4, 5], [3, 4, 5, 6], [0, 1, 2, 3, 4, 5, 6, 7], [0, 1, 2, 3, 4, 5, 6, 7, 8]] : List (List Nat)).getD k []) (by kernel_rfl) (by kernel_rfl) Ext.pre (mono_nil) ?_
        simp only [List.take_succ_cons, List.take_zero]
        repeat (first | (with_reducible refine lexL_quiet' (v := ?_) ?_ ?_ ?_ ?_; rotate_left; (· with_reducible rfl); (· simp [factsOf]); (· intro w1 hw1 _; go_simp; with_reducible rfl); (try simp only [Act.put, List.setIfInBounds_toArray, List.set_cons_zero, List.set_cons_succ])) | (with_reducible refine lexL_skip ?_ ?_; (· simp [Region.wanted, yielded, undef]); (try simp only [Act.put, List.setIfInBounds_toArray, List.set_cons_zero, List.set_cons_succ])) | (with_reducible refine lexL_quiet (v := ?_) ?_ ?_ ?_ ?_; rotate_left; (· simp [Region.wanted, yielded, undef]); (· simp [factsOf]); (· intro w1 hw1 _; go_simp; with_reducible rfl); (try simp only [Act.put, List.setIfInBounds_toArray, List.set_cons_zero, List.set_cons_succ])))
        with_reducible refine lexL_nil ?_; intro w1 hw1 hk1; simp only [List.drop_succ_cons, List.drop_zero]
        clear hk1
        have hO9 := HACQ.out.2.2.2.trans hw1
        have s0 := cell_own hO9 1 rfl (accI_at (C := clsO (fun x _ => x) d (noneD d)) (cl := resC d cls) (i := i) hqm)
        have sf := free_own (e := 4) hO9 1 rfl q
        have hst := hO9.store 1 rfl q (.bool (accQ (clsO (fun x _ => x) d (noneD d)) (resC d cls) q))
        rw [accI_new HQG.out.1 hqm, HACQ.out.1] at hst
        have HST := Lib.hid hst
        clear hst hO9
        go_upto_region 13 with fail
        refine wp_named ?_
        intro W9 hW9
        have hO9 : OwnL w6 W9 (.row 31 1 (.slice (some ⟨c4, 0, none⟩) many many) many vs :: .row 4 1 (.slice (some ⟨c5', 0, none⟩) many many) many (accI (clsO (fun x _ => x) d (noneD d)) (resC d cls) many (i + 1)) :: .blk c8 (.cells #[.int .i64 d.sy, .slice (some ⟨c4, 0, none⟩) many many, .slice (some ⟨c5', 0, none⟩) many many] 28) :: D) := by rw [hW9]; exact HST.out
        have hrq := HQG.out.2.2.2 HACQ.out.2.1
        have hvlen : q < vs.length := by rw [hQ.out.len]; exact hqm
        have hvq := HACQ.out.2.2.1
        have HQ1 := Lib.hid (And.intro HQG.out.1 (And.intro HACQ.out.2.1 (And.intro hQ.out hqm)))
        have HRW := Lib.hid (And.intro HQG.out.2.1 hrq)
        clear hW9 s0 sf HST hw1 w1 d2e ca0e HACQ HQG hQ hrq kk0 kk2
        have kk0 : ∀ w', Ext W9 w' → w'.cell? ⟨b1, 0, none⟩ = some (.int .i64 d.sy) := fun w' h => k0 w' (hO9.ext.trans h)
        have d1 := cell_of_blk (hO9.get 2 rfl).2 1 (u := .slice (some ⟨c4, 0, none⟩) many many) rfl
        have d1e : ∀ w', Ext W9 w' → w'.cell? ⟨c8, 1, none⟩ = some (.slice (some ⟨c4, 0, none⟩) many many) := fun w' h => h.cell d1
        have hmkk := mk_ints d.k (by omega)
        rw [hkk.1] at hmkk
        have HO9 := Lib.hid hO9
        have HVQ := Lib.hid hvq
        clear hO9 hvq d1
        refine wp_region_ext 6 (factsOf [(5, FreshN W9.heap.size d.k (.int .i64 0) 3)]) (fun k => ([[], [0], [], [], [3], [3, 4], [0, 1, 2, 3, 4, 5], [0, 1, 2, 3, 4, 5, 6]] : List (List Nat)).getD k []) (by kernel_rfl) (by kernel_rfl) Ext.pre (mono_cons (stays_freshN _ _ _ _) (mono_nil)) ?_
        simp only [List.take_succ_cons, List.take_zero]
        repeat (first | (with_reducible refine lexL_quiet' (v := ?_) ?_ ?_ ?_ ?_; rotate_left; (· with_reducible rfl); (· simp [factsOf]); (· intro w1 hw1 _; go_simp; with_reducible rfl); (try simp only [Act.put, List.setIfInBounds_toArray, List.set_cons_zero, List.set_cons_succ])) | (with_reducible refine lexL_skip ?_ ?_; (· simp [Region.wanted, yielded, undef]); (try simp only [Act.put, List.setIfInBounds_toArray, List.set_cons_zero, List.set_cons_succ])) | (with_reducible refine lexL_quiet (v := ?_) ?_ ?_ ?_ ?_; rotate_left; (· simp [Region.wanted, yielded, undef]); (· simp [factsOf]); (· intro w1 hw1 _; go_simp; with_reducible rfl); (try simp only [Act.put, List.setIfInBounds_toArray, List.set_cons_zero, List.set_cons_succ])))
        with_reducible refine lexL_give' (φ := ?_) ?_ ?_ ?_ ?_; rotate_left; (· with_reducible rfl); (· simp only [factsOf, Nat.reduceAdd, ↓reduceIte, Nat.reduceEqDiff]; rfl)
        · intro w2' hw2' _
          go_simp
          exact ⟨_, rfl, hw2'.size, heap_alloc_new w2' _⟩
        rintro v5 w2' hw2' ⟨b5, rfl, hb5, hblk5⟩ hk2
        clear hk2 hw2' hblk5 w2'
        (try simp only [Act.put, List.setIfInBounds_toArray, List.set_cons_zero, List.set_cons_succ])
        repeat (first | (with_reducible refine lexL_quiet' (v := ?_) ?_ ?_ ?_ ?_; rotate_left; (· with_reducible rfl); (· simp [factsOf]); (· intro w1 hw1 _; go_simp; with_reducible rfl); (try simp only [Act.put, List.setIfInBounds_toArray, List.set_cons_zero, List.set_cons_succ])) | (with_reducible refine lexL_skip ?_ ?_; (· simp [Region.wanted, yielded, undef]); (try simp only [Act.put, List.setIfInBounds_toArray, List.set_cons_zero, List.set_cons_succ])) | (with_reducible refine lexL_quiet (v := ?_) ?_ ?_ ?_ ?_; rotate_left; (· simp [Region.wanted, yielded, undef]); (· simp [factsOf]); (· intro w1 hw1 _; go_simp; with_reducible rfl); (try simp only [Act.put, List.setIfInBounds_toArray, List.set_cons_zero, List.set_cons_succ])))
        with_reducible refine lexL_nil ?_; intro w1 hw1 hk1; simp only [List.drop_succ_cons, List.drop_zero]
        obtain ⟨gu, h3, g4, hB4⟩ := hk1.get 5 rfl rfl
        obtain rfl : gu = b5 := by injection h3 with h3; injection h3 with h3; injection h3 with h3; exact h3.symm
        clear hk1 h3 g4
        have hOA : OwnL w6 w1 (.row 3 1 (.slice (some ⟨gu, 0, none⟩) d.k d.k) d.k (nxC d.k (rowQ (rowsM d) (resC d cls) q) 0) :: .row 31 1 (.slice (some ⟨c4, 0, none⟩) many many) many vs :: .row 4 1 (.slice (some ⟨c5', 0, none⟩) many many) many (accI (clsO (fun x _ => x) d (noneD d)) (resC d cls) many (i + 1)) :: .blk c8 (.cells #[.int .i64 d.sy, .slice (some ⟨c4, 0, none⟩) many many, .slice (some ⟨c5', 0, none⟩) many many] 28) :: D) :=
          HO9.out.add hw1 (A := .row 3 1 (.slice (some ⟨gu, 0, none⟩) d.k d.k) d.k (List.replicate d.k (.int .i64 0))) (own_of_blk hB4 hb5 (by omega))
        have s0 := cell_own hOA 1 rfl HVQ.out
        have sf := free_own (e := 31) hOA 1 rfl q
        have hst := hOA.store 1 rfl q (.slice (some ⟨gu, 0, none⟩) d.k d.k)
        have HST := Lib.hid hst
        clear hst hOA hB4 hb5 HO9 d1e kk0 hmkk
        go_upto_region 14 with fail
        refine wp_named ?_
        intro WA hWA
        have hOB : OwnL w6 WA (.row 3 1 (.slice (some ⟨gu, 0, none⟩) d.k d.k) d.k (nxC d.k (rowQ (rowsM d) (resC d cls) q) 0) :: .row 31 1 (.slice (some ⟨c4, 0, none⟩) many many) many (vs.set q (.slice (some ⟨gu, 0, none⟩) d.k d.k)) :: .row 4 1 (.slice (some ⟨c5', 0, none⟩) many many) many (accI (clsO (fun x _ => x) d (noneD d)) (resC d cls) many (i + 1)) :: .blk c8 (.cells #[.int .i64 d.sy, .slice (some ⟨c4, 0, none⟩) many many, .slice (some ⟨c5', 0, none⟩) many many] 28) :: D) := by rw [hWA]; exact HST.out
        obtain ⟨bR, oR, uR, cR, hvR, _, cX, hiR2⟩ := hr.at_ hrp
        injection hvR with hvR
        subst hvR
        have cX := (hE1.trans (hE6.trans hOB.ext)).cell cX
        have kk1 := k1 WA hOB.ext
        obtain ⟨AR, rfl, hiRc, _⟩ := id hiR2
        rw [HRW.out.1] at cX
        have HIR := Lib.hid hiRc
        clear hWA HST s0 sf hw1 w1 hiRc hiR2
        go_wp2
        go_loopw [73] (fun xv wr => ∃ (x : Nat), xv = .int .i64 x ∧ x ≤ d.k ∧ OwnL w6 wr (.row 3 1 (.slice (some ⟨gu, 0, none⟩) d.k d.k) d.k (nxC d.k (rowQ (rowsM d) (resC d cls) q) x) :: .row 31 1 (.slice (some ⟨c4, 0, none⟩) many many) many (vs.set q (.slice (some ⟨gu, 0, none⟩) d.k d.k)) :: .row 4 1 (.slice (some ⟨c5', 0, none⟩) many many) many (accI (clsO (fun x _ => x) d (noneD d)) (resC d cls) many (i + 1)) :: .blk c8 (.cells #[.int .i64 d.sy, .slice (some ⟨c4, 0, none⟩) many many, .slice (some ⟨c5', 0, none⟩) many many] 28) :: D)) (fun xv _ => d.k - (intOf xv).toNat)
        case atStart => exact ⟨0, rfl, Nat.zero_le _, hOB⟩
        case round =>
          clear hOB cX kk1
          obtain ⟨x, rfl, hx, hO⟩ := hrel
          obtain ⟨Wa, hWa⟩ : ∃ W, W = wr := ⟨_, rfl⟩; subst hWa
          have hqlen : (rowQ (rowsM d) (resC d cls) q).length = d.k := by rw [HRW.out.2, List.length_map]; exact HRW.out.1
          by_cases hxl : x < d.k
          · have hxr : x < d.rows[r.p].length := by rw [HRW.out.1]; exact hxl
            have hcell := HK.out.cell hrp hxr
            obtain ⟨b2, o2, hA2, _, c3⟩ := (HIR.out.ext (hE1.trans (hE6.trans hO.ext))).at_int hxr
            subst hA2
            rw [hcell.1] at c3
            have htc : d.to r.p x < cls.length := by rw [HF.out.2.2.1]; exact hcell.2
            obtain ⟨bc', oc', hAc, _, c4'⟩ := hcc.at_int htc
            cases hAc
            have hqx : (rowQ (rowsM d) (resC d cls) q)[x]? = some cls[d.to r.p x] := by
              rw [HRW.out.2, List.getElem?_map, List.getElem?_eq_getElem hxr, hcell.1]
              simp only [Option.map_some, Int.toNat_natCast, Option.some.injEq]
              rw [List.getD_eq_getElem?_getD, List.getElem?_eq_getElem htc]; rfl
            have hset := nxC_set hqlen hxl hqx
            have d1 := cell_of_blk (hO.get 3 rfl).2 1 (u := .slice (some ⟨c4, 0, none⟩) many many) rfl
            have s1 := cell_own hO 1 rfl (j := q) (u := .slice (some ⟨gu, 0, none⟩) d.k d.k) (by rw [List.getElem?_set_self hvlen])
            have d1e : ∀ w', Ext Wa w' → w'.cell? ⟨c8, 1, none⟩ = some (.slice (some ⟨c4, 0, none⟩) many many) := fun w' h => h.cell d1
            have s1e : ∀ w', Ext Wa w' → w'.cell? ⟨c4, q, none⟩ = some (.slice (some ⟨gu, 0, none⟩) d.k d.k) := fun w' h => h.cell s1
            have hxI : (x : Int) < (d.k : Int) := by omega
            have htI : (d.to r.p x : Int) < (d.rows.length : Int) := by have := hcell.2; omega
            have cE : ∀ w', Ext Wa w' → w'.cell? ⟨bc, oc + d.to r.p x, none⟩ = some (.int .i64 cls[d.to r.p x]) := fun w' h => (hO.ext.trans h).cell c4'
            generalize cls[d.to r.p x] = vv at *
            generalize d.to r.p x = T at *
            have HO := Lib.hid hO
            have HSET := Lib.hid (And.intro hset hqlen)
            clear hcell htc c4' hqx hset d1 s1 hqlen hO
            go_upto_region 17 with fail
            clear c3
            refine wp_region_ext 10 (factsOf []) (fun k => ([[], [0], [], [0, 1, 2], [0, 1, 2, 3], [], [], [], [6, 7], [6, 7, 8], [0, 1, 2, 3, 4, 5, 6, 7, 8, 9], [0, 1, 2, 3, 4, 5, 6, 7, 8, 9, 10]] : List (List Nat)).getD k []) (by kernel_rfl) (by kernel_rfl) Ext.pre (mono_nil) ?_
            simp only [List.take_succ_cons, List.take_zero]
            repeat (first | (with_reducible refine lexL_quiet' (v := ?_) ?_ ?_ ?_ ?_; rotate_left; (· with_reducible rfl); (· simp [factsOf]); (· intro w1 hw1 _; go_simp; with_reducible rfl); (try simp only [Act.put, List.setIfInBounds_toArray, List.set_cons_zero, List.set_cons_succ])) | (with_reducible refine lexL_skip ?_ ?_; (· simp [Region.wanted, yielded, undef]); (try simp only [Act.put, List.setIfInBounds_toArray, List.set_cons_zero, List.set_cons_succ])) | (with_reducible refine lexL_quiet (v := ?_) ?_ ?_ ?_ ?_; rotate_left; (· simp [Region.wanted, yielded, undef]); (· simp [factsOf]); (· intro w1 hw1 _; go_simp; with_reducible rfl); (try simp only [Act.put, List.setIfInBounds_toArray, List.set_cons_zero, List.set_cons_succ])))
            with_reducible refine lexL_nil ?_; intro w1 hw1 hk1; simp only [List.drop_succ_cons, List.drop_zero]
            clear hk1
            have hOC := HO.out.trans hw1
            have s0 := cell_own hOC 0 rfl (nxC_at HSET.out.2 hxl)
            have sf := free_own (e := 3) hOC 0 rfl x
            have hst := hOC.store 0 rfl x (.int .i64 vv)
            rw [HSET.out.1] at hst
            have HST := Lib.hid hst
            clear hst hOC
            go_wp2
            go_roundw
            case rel => exact ⟨x + 1, by go_num, hxl, HST.out⟩
            case measure => simp [intOf]; omega
          · obtain rfl : x = d.k := by omega
            rw [nxC_all hqlen] at hO
            obtain ⟨cs, hcs, hdone⟩ := hO.done
            rw [Nat.mul_one] at hcs
            have hnew := QInv.add HQ1.out.2.2.1 HQ1.out.1 HQ1.out.2.1 HQ1.out.2.2.2 (g := gu) (cs := cs) hqlen hcs
            have HD := Lib.hid (And.intro hdone hnew)
            clear hO hdone hnew hcs hqlen
            go_wp2
            go_roundw
            case rel => exact ⟨i + 1, _, _, by go_num, by omega, Lib.hid HD.out.2, HD.out.1.perm ((List.Perm.swap _ _ _).trans ((List.Perm.swap _ _ _).cons _ |>.trans (((List.Perm.swap _ _ _).cons _).cons _)))⟩
            case measure => simp [intOf]; omega
    · obtain rfl : i = (pairsL d (noneD d)).length := by omega
      have hb6 := kb w6 hE6
      have hOB := hO.base (hE1.trans hE6) (by rw [HB1.out]; exact HB6.out) hb6
      have hbw := (hOB.get 0 rfl).2
      have hb8 := (hOB.get 3 rfl).2
      have hQ2 := hQ.out
      rw [← HF.out.1] at hQ2
      have hOB2 := hOB
      rw [← HF.out.1] at hOB2
      have HFIN : Hid (∀ w8, W8.grownBy w8 (some b6) → w8.heap[b6]? = some (.cells #[.int .i64 d.sy, .slice (some ⟨c4, 0, none⟩) many many, .slice (some ⟨c5', 0, none⟩) many many] 28 (0, 0)) → MinF w (.agg #[.int .i64 d.sy, .slice (some ⟨c4, 0, none⟩) many many, .slice (some ⟨c5', 0, none⟩) many many]) (quoD d.sy (rowsM d) (clsO (fun x _ => x) d (noneD d)) (resC d cls) many) w8) := Lib.hid (fun w8 hg hb => by
        have hO8 := hOB2.step (A' := .blk b6 (.cells #[.int .i64 d.sy, .slice (some ⟨c4, 0, none⟩) many many, .slice (some ⟨c5', 0, none⟩) many many] 28 (0, 0))) 0 rfl hg (fun c hc => by cases hc; rfl) ⟨by rw [HB1.out]; exact HB6.out, hb⟩ (fun c hc => .inl hc)
        exact minF_quo hQ2 HF.out.2.2.2.2 (by omega) (by omega) (E := .blk b6 _ :: .blk c8 _ :: D) (hO8.perm ((List.Perm.swap _ _ _).trans (((List.Perm.swap _ _ _).cons _).trans ((List.Perm.swap _ _ _))) |>.trans (((List.Perm.refl _).cons _).cons _))) (fun A hA => by simp [hA]))
      clear hO hOB hOB2 hQ2 hb6
      go_wp2_with (first
        | (with_reducible refine wpList_load_row rfl 28 _ rfl c8 rfl 28 _ (0, 0) _ hb8 Tryd.underlying28 rfl (by kernel_rfl) ?_)
        | (with_reducible refine wpList_store_blk _ rfl 28 _ _ rfl b6 28 _ _ rfl rfl hbw (by kernel_rfl) (by kernel_rfl) (by kernel_rfl) ?_; intro w8 h8 g8))
      try rw [Exit.noGoto_ret]
      try simp only [Exit.inBlock, Exit.then]
      refine bodyPost_ret (results_cell_tmp rfl _ _ b6 28 _ (0, 0) _ (by simp [Act.put]) h8 Tryd.underlying28 rfl (by kernel_rfl)) rfl ?_
      exact ⟨_, _, rfl, HF.out.2.2.2.1, HFIN.out w8 g8 h8⟩
end Go.Proofs.YthlnmcokgfpgmaaDoor

namespace Go.Proofs.YthlnmcokgfpgmaaDoor
open Go.RowKit Go.Maps
set_option linter.unusedVariables false
set_option linter.unusedSimpArgs false
attribute [local go_sem] Oper.quietV quietV Oper.gives givesV ext_refl_iff ext_alloc_iff ext_drew_iff ext_drewN_iff
/-- What langs.Complement answers. -/
def CompP (d : Dfa) (w : World) (e : Ending) (w' : World) : Prop := ∃ v q, e = .returned (.tuple #[v, .int .i64 0]) ∧ (CompW d q ∧ q.n ≤ d.n) ∧ FarF w.heap.size w' v q ∧ Ext w w'

set_option maxRecDepth 100000 in
set_option maxHeartbeats 16000000 in
theorem comp_any (w : World) (dv : Value) (d : Dfa) (hd : DfaV w dv d) (hg : Good d) : Calls Tryd.prog 35 #[dv] w (CompP d w) := by
  obtain ⟨rv, cr, av, ca, rfl, hr, ha⟩ := id hd
  obtain ⟨Ar, vr, rfl, _, _, _, _, hrm⟩ := id hr
  obtain ⟨Aa, rfl, hac, _, ham⟩ := id ha
  unfold lenMax at hrm ham
  go_enter Tryd.func35, Tryd.ntmps35
  go_upto_region 1 with fail
  refine wp_named ?_
  intro W1 hW1
  have hE1 : Ext w W1 := by rw [hW1]; exact ((Ext.refl _).alloc _).alloc _
  have k0 : ∀ w', Ext W1 w' → w'.cell? ⟨w.heap.size, 0, none⟩ = some (.int .i64 d.sy) := fun w' h => h.cell (by rw [hW1]; simp [go_sem])
  have k1 : ∀ w', Ext W1 w' → w'.cell? ⟨w.heap.size, 1, none⟩ = some (.slice Ar d.rows.length cr) := fun w' h => h.cell (by rw [hW1]; simp [go_sem])
  have k2 : ∀ w', Ext W1 w' → w'.cell? ⟨w.heap.size, 2, none⟩ = some (.slice Aa d.acc.length ca) := fun w' h => h.cell (by rw [hW1]; simp [go_sem])
  have kb : ∀ w', Ext W1 w' → w'.heap[w.heap.size + 1]? = some (.cells #[.int .i64 0, .slice none 0 0, .slice none 0 0] 28 (0, 0)) := fun w' h => heap_ext h (by rw [hW1]; have h9 := heap_alloc_new (w.alloc (.cells #[.int .i64 d.sy, .slice Ar d.rows.length cr, .slice Aa d.acc.length ca] 28)) (.cells #[.int .i64 0, .slice none 0 0, .slice none 0 0] 28 (0, 0)); simpa using h9)
  have HB6 : Hid (w.heap.size ≤ w.heap.size + 1 ∧ w.heap.size + 1 < W1.heap.size) := Lib.hid ⟨by omega, by rw [hW1]; simp⟩
  clear hW1
  generalize w.heap.size + 1 = b6 at *
  have hE0 := Ext.refl W1
  have hc1 := minimal_any W1 _ d (hd.ext hE1) hg
  unfold AMinP at hc1
  go_upto_region 2 with (first
    | ((with_reducible refine hc1.mono ?_); rintro e w1 ⟨v, q, rfl, hq, ⟨g, g', S, rfl, hO⟩⟩)
    | (with_reducible refine wpList_store_blk _ rfl 28 _ _ rfl w1.heap.size 28 _ _ rfl rfl (heap_alloc_new _ _) (by kernel_rfl) (by kernel_rfl) (by kernel_rfl) ?_; intro w2 h2 g2))
  have e2 : Ext w1 w2 := Below.grown (alloc_ext w1 _) g2 (alloc_ext w1 _).size (fun k hk => by cases hk; exact Nat.le_refl _)
  have hqs := hq.1.1.good.size
  have hqa := hq.1.1.good.acc
  have hO2 := hO.add e2 (A := .blk w1.heap.size (.cells #[.int .i64 q.sy, .slice (some ⟨g, 0, none⟩) q.rows.length q.rows.length, .slice (some ⟨g', 0, none⟩) q.rows.length q.rows.length] 28 (0, 0))) ⟨Nat.le_refl _, h2⟩
  have HQ := Lib.hid hq
  clear hc1 hO h2 g2 hq e2
  generalize w1.heap.size = b4 at *
  have hO2 : OwnL W1 w2 [.blk b4 (.cells #[.int .i64 q.sy, .slice (some ⟨g, 0, none⟩) q.rows.length q.rows.length, .slice (some ⟨g', 0, none⟩) q.rows.length q.rows.length] 28 (0, 0)), .row 4 1 (.slice (some ⟨g', 0, none⟩) q.rows.length q.rows.length) q.rows.length ((flipI q.acc 0).map .bool), .any S (fun W => ListsC W (.slice (some ⟨g, 0, none⟩) q.rows.length q.rows.length) q.rows q.rows.length)] := by rw [flipI_zero]; exact hO2
  have d2 := cell_of_blk (hO2.get 0 rfl).2 2 (u := .slice (some ⟨g', 0, none⟩) q.rows.length q.rows.length) rfl
  generalize hn : q.rows.length = n at *
  have HN := Lib.hid hn
  clear hn
  go_wp2
  go_loopw [19] (fun iv wr => ∃ i : Nat, iv = .int .i64 i ∧ i ≤ n ∧ OwnL W1 wr [.blk b4 (.cells #[.int .i64 q.sy, .slice (some ⟨g, 0, none⟩) n n, .slice (some ⟨g', 0, none⟩) n n] 28 (0, 0)), .row 4 1 (.slice (some ⟨g', 0, none⟩) n n) n ((flipI q.acc i).map .bool), .any S (fun W => ListsC W (.slice (some ⟨g, 0, none⟩) n n) q.rows n)]) (fun iv _ => n - (intOf iv).toNat)
  case atStart => exact ⟨0, rfl, Nat.zero_le _, hO2⟩
  case round =>
    clear hO2 d2
    obtain ⟨i, rfl, hi, hO⟩ := hrel
    obtain ⟨W4, hW4⟩ : ∃ W, W = wr := ⟨_, rfl⟩; subst hW4
    by_cases hil : i < n
    · have hia : i < q.acc.length := by rw [hqa]; exact hil
      have hat : ((flipI q.acc i).map Value.bool)[i]? = some (.bool q.acc[i]) := by rw [List.getElem?_map, flipI_at hia]; rfl
      have hset : ((flipI q.acc i).map Value.bool).set i (.bool (!q.acc[i])) = (flipI q.acc (i + 1)).map .bool := by rw [← flipI_set hia, List.map_set]
      have s0 := cell_own hO 1 rfl hat
      have d2 := cell_of_blk (hO.get 0 rfl).2 2 (u := .slice (some ⟨g', 0, none⟩) n n) rfl
      have s0e : ∀ w', Ext W4 w' → w'.cell? ⟨g', i, none⟩ = some (.bool q.acc[i]) := fun w' h => h.cell s0
      have d2e : ∀ w', Ext W4 w' → w'.cell? ⟨b4, 2, none⟩ = some (.slice (some ⟨g', 0, none⟩) n n) := fun w' h => h.cell d2
      have hiI : (i : Int) < (n : Int) := by omega
      generalize q.acc[i] = x at *
      have HO := Lib.hid hO
      have HSET := Lib.hid hset
      have HAT := Lib.hid hat
      clear s0 d2 hO hset hat hia
      go_upto_region 7 with fail
      refine wp_region_ext 9 (factsOf []) (fun k => ([[], [0], [], [], [3], [], [3, 4, 5], [3, 4, 5, 6], [3, 4, 5, 6, 7], [0, 1, 2, 3, 4, 5, 6, 7, 8], [0, 1, 2, 3, 4, 5, 6, 7, 8, 9]] : List (List Nat)).getD k []) (by kernel_rfl) (by kernel_rfl) Ext.pre (mono_nil) ?_
      simp only [List.take_succ_cons, List.take_zero]
      repeat (first | (with_reducible refine lexL_quiet' (v := ?_) ?_ ?_ ?_ ?_; rotate_left; (· with_reducible rfl); (· simp [factsOf]); (· intro w1 hw1 _; go_simp; with_reducible rfl); (try simp only [Act.put, List.setIfInBounds_toArray, List.set_cons_zero, List.set_cons_succ])) | (with_reducible refine lexL_skip ?_ ?_; (· simp [Region.wanted, yielded, undef]); (try simp only [Act.put, List.setIfInBounds_toArray, List.set_cons_zero, List.set_cons_succ])) | (with_reducible refine lexL_quiet (v := ?_) ?_ ?_ ?_ ?_; rotate_left; (· simp [Region.wanted, yielded, undef]); (· simp [factsOf]); (· intro w1 hw1 _; go_simp; with_reducible rfl); (try simp only [Act.put, List.setIfInBounds_toArray, List.set_cons_zero, List.set_cons_succ])))
      with_reducible refine lexL_nil ?_; intro w1 hw1 hk1; simp only [List.drop_succ_cons, List.drop_zero]
      clear hk1
      have hO9 := HO.out.trans hw1
      have s0 := cell_own hO9 1 rfl HAT.out
      have sf := free_own (e := 4) hO9 1 rfl i
      have hst := hO9.store 1 rfl i (.bool (!x))
      rw [HSET.out] at hst
      have HST := Lib.hid hst
      clear hst hO9
      go_wp2
      go_roundw
      case rel => exact ⟨i + 1, by go_num, hil, HST.out⟩
      case measure => simp [intOf]; omega
    · obtain rfl : i = n := by omega
      rw [flipI_all hqa] at hO
      have hb6 := kb W1 hE0
      have hOB := hO.base hE1 HB6.out.1 hb6
      have hbw := (hOB.get 0 rfl).2
      have hb8 := (hOB.get 1 rfl).2
      have HFIN : Hid (∀ w8, W4.grownBy w8 (some b6) → w8.heap[b6]? = some (.cells #[.int .i64 q.sy, .slice (some ⟨g, 0, none⟩) i i, .slice (some ⟨g', 0, none⟩) i i] 28 (0, 0)) → MinF w (.agg #[.int .i64 q.sy, .slice (some ⟨g, 0, none⟩) i i, .slice (some ⟨g', 0, none⟩) i i]) (flipD q) w8) := Lib.hid (fun w8 hg hb => by
        have hO8 := hOB.step (A' := .blk b6 (.cells #[.int .i64 q.sy, .slice (some ⟨g, 0, none⟩) i i, .slice (some ⟨g', 0, none⟩) i i] 28 (0, 0))) 0 rfl hg (fun c hc => by cases hc; rfl) ⟨HB6.out.1, hb⟩ (fun c hc => .inl hc)
        have h9 := hO8.drop.drop
        have hl : (flipD q).rows.length = i := HN.out
        refine ⟨g, g', S, by rw [hl]; rfl, ?_⟩
        rw [hl]
        exact h9)
      clear hO hOB hb6
      go_wp2_with (first
        | (with_reducible refine wpList_load_row rfl 28 _ rfl b4 rfl 28 _ (0, 0) _ hb8 Tryd.underlying28 rfl (by kernel_rfl) ?_)
        | (with_reducible refine wpList_store_blk _ rfl 28 _ _ rfl b6 28 _ _ rfl rfl hbw (by kernel_rfl) (by kernel_rfl) (by kernel_rfl) ?_; intro w8 h8 g8))
      try rw [Exit.noGoto_ret]
      try simp only [Exit.inBlock, Exit.then]
      refine bodyPost_ret (results_cell_tmp rfl _ _ b6 28 _ (0, 0) _ (by simp [Act.put]) h8 Tryd.underlying28 rfl (by kernel_rfl)) rfl ?_
      have hfin := HFIN.out w8 g8 h8
      have hcw := comp_of HQ.out
      exact ⟨_, _, rfl, hcw, hfin.far hcw.1.1.good, hfin.ext⟩
end Go.Proofs.YthlnmcokgfpgmaaDoor
