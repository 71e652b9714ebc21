/- classes.blocks. -/
import Derived.Test.YtkmcplhgakpneaaU4
import Derived.Test.YtkmcplhgakpneaaN7
import Derived.Maps.AppendAt
namespace Go.Proofs.Ytkmcplhgakpneaa
open Go.RowKit Go.Maps
set_option linter.unusedVariables false
set_option linter.unusedSimpArgs false
attribute [local go_sem] Oper.quietV quietV Oper.gives givesV ext_refl_iff ext_alloc_iff ext_drew_iff ext_drewN_iff

theorem OwnRows.replace {W W3 w4 : World} {B e1 e2 s2 : Nat} {vs : List Value} {rows : List (Nat × List Value)} {j go c : Nat} {u u' : Value} {r' : Nat × List Value} (h : OwnRows W B e1 e2 s2 (.slice (some ⟨go, 0, none⟩) vs.length c) vs rows) (hne : e1 ≠ e2) (hE : Ext W W3)
    (hj : vs[j]? = some u) (hg : W3.grownBy w4 u.ownBlock) (h4 : w4.ownsRow B e2 s2 u' r'.1 r'.2) (hb : u'.ownBlock = u.ownBlock ∨ ∀ b, u'.ownBlock = some b → W.heap.size ≤ b) :
    OwnRows (w4.setCell ⟨go, j, none⟩ u') B e1 e2 s2 (.slice (some ⟨go, 0, none⟩) vs.length c) (vs.set j u') (rows.set j r') := by
  have hjl := (List.getElem?_eq_some_iff.1 hj).1
  have hjr : j < rows.length := by rw [← h.len]; exact hjl
  have hu := h.each j u rows[j] hj (List.getElem?_eq_getElem hjr)
  have ho3 := ownsRow_ext h.own hE
  have hu3 := ownsRow_ext hu hE
  have ho4 := ho3.kept hg (own_ne ho3 hu3 hne)
  have hst := ho4.stored j u'
  refine ⟨by rw [List.length_set]; exact hst.1, by simpa using h.len, fun i x r hx hr => ?_, fun i k x y hx hy hik => ?_⟩
  · by_cases hij : i = j
    · subst hij
      rw [List.getElem?_set_self (by exact hjl)] at hx
      rw [List.getElem?_set_self (by exact hjr)] at hr
      cases hx; cases hr
      exact h4.kept hst.2 (own_ne h4 ho4 (Ne.symm hne))
    · rw [List.getElem?_set_ne (by omega)] at hx hr
      have h1 := ownsRow_ext (h.each i x r hx hr) hE
      have h2 := h1.kept hg (h.apart i j x u hx hj hij)
      exact h2.kept hst.2 (own_ne h2 ho4 (Ne.symm hne))
  · by_cases hij : i = j
    · subst hij
      rw [List.getElem?_set_self (by exact hjl)] at hx
      cases hx
      rw [List.getElem?_set_ne (by omega)] at hy
      rcases hb with hb | hb
      · rw [hb]; exact h.apart i k u y hj hy hik
      · cases hbb : u'.ownBlock with
        | none => exact .inl rfl
        | some b =>
          refine .inr fun e => ?_
          have h5 := (h.lt hy e.symm).2
          have h6 := hb b hbb
          omega
    · rw [List.getElem?_set_ne (by omega)] at hx
      by_cases hkj : k = j
      · subst hkj
        rw [List.getElem?_set_self (by exact hjl)] at hy
        cases hy
        rcases hb with hb | hb
        · rw [hb]; exact h.apart i k x u hx hj hik
        · cases hbb : x.ownBlock with
          | none => exact .inl rfl
          | some b =>
            refine .inr fun e => ?_
            have h5 := (h.lt hx hbb).2
            have h6 := hb b e.symm
            omega
      · rw [List.getElem?_set_ne (by omega)] at hy
        exact h.apart i k x y hx hy hik

theorem Cells.setFar {w : World} {A : Option Addr} {cs : List Value} {n c g k : Nat} {v : Value} (h : Cells w A cs) (hne : (Value.slice A n c).ownBlock ≠ some g) : Cells (w.setCell ⟨g, k, none⟩ v) A cs := fun hp => by
  obtain ⟨b, o, rfl, hb, hc⟩ := h hp
  have hbg : b ≠ g := fun e => hne (by rw [e]; rfl)
  exact ⟨b, o, rfl, by simpa using hb, fun j u hu => by rw [World.cell?_of_block (Below.heap_setCell _ _ _ _ (by simp; exact hbg))]; exact hc j u hu⟩
def iRow (r : List Int) : Nat × List Value := (r.length, r.map (.int .i64))
/-- The places before k at which c stands. -/
def idxs (p : List Int) (k : Nat) (c : Int) : List Int := ((List.range k).filter (fun (i : Nat) => p.getD i 0 == c)).map (fun (i : Nat) => (i : Int))
def rowsAt (p : List Int) (cnt k : Nat) : List (List Int) := (List.range cnt).map (fun (c : Nat) => idxs p k (c : Int))
theorem idxs_succ (p : List Int) (k : Nat) (c : Int) : idxs p (k + 1) c = if p.getD k 0 = c then idxs p k c ++ [(k : Int)] else idxs p k c := by
  unfold idxs
  rw [List.range_succ, List.filter_append, List.map_append]
  by_cases h : p.getD k 0 = c
  · rw [if_pos h]
    simp only [List.filter_cons, List.filter_nil, h, beq_self_eq_true, if_true, List.map_cons, List.map_nil]
  · rw [if_neg h]
    simp only [List.filter_cons, List.filter_nil, beq_eq_false_iff_ne.2 h, Bool.false_eq_true, if_false, List.map_nil, List.append_nil]
theorem rowsAt_succ (p : List Int) (cnt k b : Nat) (hb : b < cnt) (hk : p.getD k 0 = (b : Int)) : rowsAt p cnt (k + 1) = (rowsAt p cnt k).set b (idxs p k b ++ [(k : Int)]) := by
  refine List.ext_getElem? fun i => ?_
  by_cases hib : b = i
  · subst hib
    rw [List.getElem?_set_self (by simp [rowsAt]; exact hb)]
    simp only [rowsAt, List.getElem?_map, List.getElem?_range hb, Option.map_some]
    rw [idxs_succ, if_pos hk]
  · rw [List.getElem?_set_ne hib]
    simp only [rowsAt, List.getElem?_map]
    by_cases hi : i < cnt
    · rw [List.getElem?_range hi]
      simp only [Option.map_some]
      rw [idxs_succ, if_neg (by omega)]
    · rw [List.getElem?_eq_none (by simp; omega)]; rfl
theorem idxs_length (p : List Int) (k : Nat) (c : Int) : (idxs p k c).length ≤ k := by
  unfold idxs
  rw [List.length_map]
  exact Nat.le_trans (List.length_filter_le _ _) (by simp)
theorem rowsAt_get {p : List Int} {cnt k b : Nat} (hb : b < cnt) : (rowsAt p cnt k)[b]? = some (idxs p k b) := by
  simp [rowsAt, List.getElem?_range hb]

/-- A slice value of slices of numbers without spare capacity. -/
def ListsC (w : World) (v : Value) (rows : List (List Int)) : Prop :=
  ∃ A c vs, v = .slice A rows.length c ∧ Cells w A vs ∧ vs.length = rows.length ∧ (∀ (i : Nat) (u : Value) (r : List Int), vs[i]? = some u → rows[i]? = some r → FitC w u r) ∧ rows.length ≤ lenMax
theorem ListsC.ext {w w' : World} {v : Value} {rows : List (List Int)} (h : ListsC w v rows) (e : Ext w w') : ListsC w' v rows := by
  obtain ⟨A, c, vs, hv, hc, hl, hr, hb⟩ := h
  exact ⟨A, c, vs, hv, hc.ext e, hl, fun i u r hu hr' => IntsC.ext (hr i u r hu hr') e, hb⟩
theorem irow_info : (Try.prog.info? 29).map (fun i => (i.zero, i.size, i.bytes)) = some (some (.slice none 0 0), 1, 24) := by kernel_rfl

/-- The state of the second loop: the rows before b are clipped. -/
def Clipped (w W : World) (g0 b cnt : Nat) (rows : List (List Int)) : Prop :=
  ∃ vs, W.ownsRow w.heap.size 29 1 (.slice (some ⟨g0, 0, none⟩) cnt cnt) cnt vs ∧ ∀ (j : Nat) (u : Value) (r : List Int), vs[j]? = some u → rows[j]? = some r →
    ∃ A c, u = .slice A r.length c ∧ (j < b → c = r.length) ∧ Cells W A (r.map (.int .i64)) ∧ r.length ≤ c ∧ (A = none → r.length = 0 ∧ c = 0) ∧ u.ownBlock ≠ some g0
theorem clipped_of {w W : World} {g0 cnt : Nat} {vs : List Value} {rows : List (List Int)} (h : OwnRows W w.heap.size 29 3 1 (.slice (some ⟨g0, 0, none⟩) cnt cnt) vs (rows.map iRow)) (hc : vs.length = cnt) : Clipped w W g0 0 cnt rows := by
  subst hc
  refine ⟨vs, h.own, fun j u r hu hr => ?_⟩
  have hrow := h.each j u (iRow r) hu (by rw [List.getElem?_map, hr]; rfl)
  have hne := own_ne hrow h.own (by decide)
  obtain ⟨A, c, rfl, hnc, hcs⟩ := cells_of_owns hrow
  refine ⟨A, c, rfl, by omega, hcs, hnc, fun hA => ?_, ?_⟩
  · subst hA
    rcases hrow.2 with ⟨h1, h2⟩ | ⟨g, cap, cur, h1, _⟩
    · injection h1 with _ h3 h4
      exact ⟨h2, h4⟩
    · simp at h1
  · intro e
    rcases hne with h1 | h1
    · rw [h1] at e; cases e
    · exact h1 e

set_option maxRecDepth 100000 in
set_option maxHeartbeats 2000000 in
theorem blocks_any (w : World) (pv : Value) (p : List Int) (cp : Nat) (hp : IntsC w pv p cp) (hb : ∀ x ∈ p, 0 ≤ x ∧ x ≤ 1000) (hl5 : p.length ≤ 1000) :
    Calls Try.prog 41 #[pv] w fun e w' => (∃ u, e = .returned u ∧ ListsC w' u (rowsAt p (cntC p).toNat p.length)) ∧ Ext w w' := by
  obtain ⟨i0, hi0, hz0, hz1, hz2⟩ := info_parts int_info
  obtain ⟨i9, hi9, hz9, hs9, hb9⟩ := info_parts irow_info
  have hp0 := hp
  obtain ⟨A, rfl, hcp, _, hpm⟩ := hp
  unfold lenMax at hpm
  obtain ⟨hc0, hc1, hc2⟩ := cntC_bound hb
  have hcn := count_any w _ p cp hp0 hb
  obtain ⟨cnt, hcnt⟩ := Int.eq_ofNat_of_zero_le hc0
  rw [hcnt] at hcn hc1 hc2
  rw [hcnt, Int.toNat_natCast]
  have HB := Lib.hid (And.intro hb hc2)
  clear hb hc2 hc0 hcnt
  go_enter Try.func41, Try.ntmps41
  go_upto_region 2 with (first
    | (go_at_call 50; refine hcn.mono ?_; rintro e w0 ⟨rfl, e0⟩)
    | (at_make; refine wpList_make_full _ rfl _ _ 79 rfl w.heap.size 29 i9 (.slice none 0 0) 1 Try.underlying79 hi9 hz9 hs9 _ _ _ _ cnt rfl rfl rfl rfl (by rw [hb9]; omega) (by unfold maxLen; omega) e0.size ?_; intro w1 hown1 hg1))
  rw [Nat.mul_one, show (Value.slice none 0 0).cells = #[.slice none 0 0] from rfl, toList_madeCells_one] at hown1
  have hE1 : Ext w w1 := e0.trans (Below.grown (Ext.refl w0) hg1 (Nat.le_refl _) (by simp))
  generalize w0.heap.size = g0 at *
  have hO0 : OwnRows w1 w.heap.size 29 3 1 (.slice (some ⟨g0, 0, none⟩) cnt cnt) (List.replicate cnt (.slice none 0 0)) ((rowsAt p cnt 0).map iRow) := by
    refine ⟨by simpa using hown1, by simp [rowsAt], fun j u r hu hr => ?_, fun i j u u' hu hu' hij => ?_⟩
    · have hj : j < cnt := by have := (List.getElem?_eq_some_iff.1 hu).1; simpa using this
      rw [List.getElem?_replicate, if_pos hj] at hu
      cases hu
      rw [List.getElem?_map, rowsAt_get hj] at hr
      simp at hr
      subst hr
      exact World.ownsRow_nil _ _ _ _
    · have hj : i < cnt := by have := (List.getElem?_eq_some_iff.1 hu).1; simpa using this
      rw [List.getElem?_replicate, if_pos hj] at hu
      cases hu
      exact .inl rfl
  clear hown1 hg1 hcn e0
  go_wp2
  go_loopw [12] (fun i wr => ∃ (k : Nat) (vs : List Value), k ≤ p.length ∧ i = .int .i64 k ∧ Ext w wr ∧ vs.length = cnt ∧ OwnRows wr w.heap.size 29 3 1 (.slice (some ⟨g0, 0, none⟩) cnt cnt) vs ((rowsAt p cnt k).map iRow)) (fun i _ => p.length - (intOf i).toNat)
  case atStart => exact ⟨0, _, by omega, rfl, hE1, by simp, hO0⟩
  case round =>
    clear hO0 hE1
    obtain ⟨k, vs, hk, rfl, hE, hvl, hO⟩ := hrel
    obtain ⟨W2, hW2⟩ : ∃ W, W = wr := ⟨_, rfl⟩
    subst hW2
    by_cases hlt : k < p.length
    · obtain ⟨b, o, rfl, hbb, c0⟩ := (hcp.ext hE).at_int hlt
      have hbd := HB.out.1 _ (List.getElem_mem hlt)
      have hbc := HB.out.2 _ (List.getElem_mem hlt)
      have hgk : p.getD k 0 = p[k] := getD_lt hlt
      generalize p[k] = x at *
      obtain ⟨bn, rfl⟩ := Int.eq_ofNat_of_zero_le hbd.1
      have hbn : bn < cnt := by omega
      have hsucc := rowsAt_succ p cnt k bn hbn hgk
      have hrow := rowsAt_get (p := p) (k := k) hbn
      have hxl := idxs_length p k bn
      generalize idxs p k bn = xs at *
      have hu : vs[bn]? = some (vs[bn]'(by omega)) := List.getElem?_eq_getElem (by omega)
      generalize hug : vs[bn]'(by omega) = u at *
      have hri := hO.each bn u (iRow xs) hu (by rw [List.getElem?_map, hrow]; rfl)
      have hown := hO.own
      rw [hvl] at hown
      have hcell := hown.cellAt bn (by omega)
      rw [hu] at hcell
      have hfull : ∀ (W' w4 : World) (v4 : Value), Ext W2 W' → W'.grownBy w4 u.ownBlock → w4.ownsRow w.heap.size 3 1 v4 (xs.length + 1) (xs.map (.int .i64) ++ [.int .i64 (k : Int)]) → (v4.ownBlock = u.ownBlock ∨ v4.ownBlock = some W'.heap.size) →
          OwnRows (w4.setCell ⟨g0, bn, none⟩ v4) w.heap.size 29 3 1 (.slice (some ⟨g0, 0, none⟩) cnt cnt) (vs.set bn v4) ((rowsAt p cnt (k + 1)).map iRow) := fun W' w4 v4 hE' hg' h4 hbk => by
        have hO' := hO
        rw [← hvl] at hO'
        have := hO'.replace (j := bn) (u' := v4) (r' := iRow (xs ++ [(k : Int)])) (by decide) hE' hu hg' (by simpa [iRow] using h4) (hbk.imp id (fun e b hb => by rw [e] at hb; cases hb; exact hE'.size))
        rw [hvl] at this
        rw [hsucc, List.map_set]
        exact this
      have hkeep : ∀ (W' w4 : World), Ext W2 W' → W'.grownBy w4 u.ownBlock → w4.ownsRow w.heap.size 29 1 (.slice (some ⟨g0, 0, none⟩) cnt cnt) cnt vs := fun W' w4 hE' hg' =>
        (ownsRow_ext hown hE').kept hg' (own_ne (ownsRow_ext hown hE') (ownsRow_ext hri hE') (by decide))
      have HF := Lib.hid hfull
      have HK := Lib.hid hkeep
      have hkI : (k : Int) < (p.length : Int) := by omega
      have hbI : (bn : Int) < (cnt : Int) := by omega
      have hri2 : W2.ownsRow w.heap.size 3 1 u xs.length (xs.map (.int .i64)) := hri
      have HV := Lib.hid hvl
      clear hfull hkeep hsucc hrow hri hug hgk hO hvl
      go_upto_region 5 with fail
      go_upto_region 6 with (at_builtin; refine wpList_append_own_at _ rfl _ _ 29 rfl w.heap.size 3 i0 (.int .i64 0) 1 8 Try.underlying29 hi0 hz0 hz1 hz2 rfl (by decide) u xs.length _ rfl (hri2.alloc _) ⟨W2.heap.size, 0, none⟩ 1 1 [.int .i64 (k : Int)] rfl rfl (cell_one_new _ _ _) (ints_oneCell _ [(k : Int)]) (by unfold maxLen; omega) (by omega) (by have := hE.size; simp; omega) ?_; intro v4 w4 hown4 hg4 _ hbk; obtain ⟨g4, cap4, rfl⟩ := ownsRow_pos hown4 (by omega); have hfin := Lib.hid (HF.out _ w4 _ ((Ext.refl W2).alloc _) hg4 hown4 hbk); have hk4 := HK.out _ w4 ((Ext.refl W2).alloc _) hg4; have hcur4 := hk4.cellAt bn (by omega); rw [hu] at hcur4; have hfz4 := hk4.frozenAt bn; have hgb := (hk4.lt g0 rfl).1; have hE4 : Ext w w4 := Below.grown (hE.alloc _) hg4 (hE.alloc _).size (fun b hb => (hri2.lt b hb).1); clear hk4 hbk hown4 hg4)
      go_wp2
      go_roundw
      case rel => exact ⟨k + 1, _, by omega, by go_num, hE4.setCell (p := ⟨g0, bn, none⟩) hgb _, by rw [List.length_set]; exact HV.out, hfin.out⟩
      case measure => simp [intOf]; omega
    · have hkp : p.length = k := by omega
      have hCl := clipped_of hO hvl
      clear hO hvl
      subst hkp
      have hrl : ∀ (j : Nat) (r : List Int), (rowsAt p cnt p.length)[j]? = some r → r.length ≤ 1000 := fun j r hr => by
        simp only [rowsAt, List.getElem?_map] at hr
        cases hj : (List.range cnt)[j]? with
        | none => rw [hj] at hr; simp at hr
        | some i => rw [hj] at hr; simp at hr; subst hr; exact Nat.le_trans (idxs_length _ _ _) hl5
      have hrn : (rowsAt p cnt p.length).length = cnt := by simp [rowsAt]
      generalize hrws : rowsAt p cnt p.length = rows at *
      have HRWS := Lib.hid hrws
      clear hrws
      have HRL := Lib.hid (And.intro hrl hrn)
      clear hrl hrn
      go_wp2
      go_loopw [30] (fun i wr => ∃ b : Nat, b ≤ cnt ∧ i = .int .i64 b ∧ Ext w wr ∧ Clipped w wr g0 b cnt rows) (fun i _ => cnt - (intOf i).toNat)
      case atStart => exact ⟨0, by omega, rfl, hE, hCl⟩
      case round =>
        clear hCl hE
        obtain ⟨b, hbc, rfl, hE, vs, hown, hall⟩ := hrel
        obtain ⟨W3, hW3⟩ : ∃ W, W = wr := ⟨_, rfl⟩
        subst hW3
        have hvl : vs.length = cnt := by have := hown.1; omega
        by_cases hlt : b < cnt
        · have hu : vs[b]? = some (vs[b]'(by omega)) := List.getElem?_eq_getElem (by omega)
          have hr : rows[b]? = some (rows[b]'(by rw [HRL.out.2]; exact hlt)) := List.getElem?_eq_getElem (by rw [HRL.out.2]; exact hlt)
          have hr1000 := HRL.out.1 b _ hr
          generalize rows[b]'(by rw [HRL.out.2]; exact hlt) = r at *
          generalize vs[b]'(by omega) = u at *
          obtain ⟨A, c, rfl, _, hcs, hrc, hnil, hne⟩ := hall b u r hu hr
          have hcell := hown.cellAt b (by omega)
          rw [hu] at hcell
          have hcp := clip_any W3 A r.length c hrc hnil (by omega)
          have hfull : ∀ w5, Ext W3 w5 → Clipped w (w5.setCell ⟨g0, b, none⟩ (.slice A r.length r.length)) g0 (b + 1) cnt rows := fun w5 h5 => by
            refine ⟨vs.set b (.slice A r.length r.length), ((ownsRow_ext hown h5).stored b _).1, fun j y r' hy hr' => ?_⟩
            by_cases hjb : j = b
            · subst hjb
              rw [List.getElem?_set_self (by omega)] at hy
              cases hy
              rw [hr] at hr'
              cases hr'
              exact ⟨A, _, rfl, fun _ => rfl, (hcs.ext h5).setFar hne, Nat.le_refl _, fun hA => by have := hnil hA; omega, fun e => hne (by cases A <;> exact e)⟩
            · rw [List.getElem?_set_ne (by omega)] at hy
              obtain ⟨A', c', rfl, h1, h2, h3, h4, h6⟩ := hall j y r' hy hr'
              exact ⟨A', c', rfl, fun hj => h1 (by omega), (h2.ext h5).setFar h6, h3, h4, h6⟩
          have HF := Lib.hid hfull
          have hcu : ∀ w', Ext W3 w' → w'.cell? ⟨g0, b, none⟩ = some (.slice A r.length c) ∧ w'.frozen? ⟨g0, b, none⟩ = false := fun w' h => ⟨h.cell hcell, by rw [World.frozen?_of_block (h.block _ (hown.lt g0 rfl).2)]; exact hown.frozenAt b⟩
          have HCU := Lib.hid hcu
          have hgb := (hown.lt g0 rfl).1
          have hbI : (b : Int) < (cnt : Int) := by omega
          clear hfull hcu hall hcs hnil hne hu hr hvl
          go_upto_region 11 with (go_at_call 51; refine hcp.mono ?_; rintro e w5 ⟨rfl, e5⟩; obtain ⟨hcur5, hfz5⟩ := HCU.out w5 e5)
          go_wp2
          go_roundw
          case rel => exact ⟨b + 1, by omega, by go_num, (hE.trans e5).setCell (p := ⟨g0, b, none⟩) hgb _, HF.out _ e5⟩
          case measure => simp [intOf]; omega
        · have hbc2 : b = cnt := by omega
          subst hbc2
          have hrn := HRL.out.2
          have hfin : ListsC W3 (.slice (some ⟨g0, 0, none⟩) b b) rows := by
            obtain ⟨A, c, hA, _, hcs⟩ := cells_of_owns hown
            cases hA
            refine ⟨_, b, vs, by rw [hrn], hcs, by rw [hvl, hrn], fun i u r hu hr => ?_, by rw [hrn]; unfold lenMax; omega⟩
            obtain ⟨A', c', rfl, h1, h2, h3, _, _⟩ := hall i u r hu hr
            have hib : i < b := by have := (List.getElem?_eq_some_iff.1 hu).1; omega
            exact ⟨A', by rw [h1 hib], h2, Nat.le_refl _, by have := HRL.out.1 i r hr; unfold lenMax; omega⟩
          have HFIN := Lib.hid hfin
          clear hfin hall hown hvl hrn
          go_wp2
          go_ret
          exact ⟨⟨_, rfl, by first | exact HFIN.out | (rw [HRWS.out]; exact HFIN.out)⟩, hE⟩
end Go.Proofs.Ytkmcplhgakpneaa
