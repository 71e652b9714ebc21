/- classes.closed. -/
import Derived.Test.YtkmcplhgakpneaaU1
import Derived.Test.YtkmcplhgakpneaaU2
import Derived.Test.YtkmcplhgakpneaaN7
namespace Go.Proofs.Ytkmcplhgakpneaa
open Go.RowKit Go.Maps
set_option linter.unusedVariables false
set_option linter.unusedSimpArgs false
attribute [local go_sem] Oper.quietV quietV Oper.gives givesV ext_refl_iff ext_alloc_iff ext_drew_iff ext_drewN_iff

/-- The parents in their block, and the variable that names it. -/
structure ClSt (w : World) (bu g n : Nat) (ps : List (Nat × Nat)) (u : List Nat) (W : World) : Prop where
  ext : Ext w W
  var : W.cell? ⟨bu, 0, none⟩ = some (.slice (some ⟨g, 0, none⟩) n n)
  own : W.ownsRow w.heap.size 3 1 (.slice (some ⟨g, 0, none⟩) n n) n (u.map natV)
  up : UpIs n ps u
theorem ClSt.ext' {w : World} {bu g n : Nat} {ps : List (Nat × Nat)} {u : List Nat} {W W' : World} (h : ClSt w bu g n ps u W) (e : Ext W W') : ClSt w bu g n ps u W' :=
  ⟨h.ext.trans e, e.cell h.var, ownsRow_ext h.own e, h.up⟩
theorem ClSt.found {w : World} {bu g n : Nat} {ps : List (Nat × Nat)} {u : List Nat} {W W' : World} (h : ClSt w bu g n ps u W) (hne : bu ≠ g) (hp : FindPost W g w.heap.size n u W') : ∃ u', ClSt w bu g n ps u' W' ∧ (∀ j, j < n → rootU u' j = rootU u j) ∧ W.grownBy W' (some g) := by
  obtain ⟨u', hl, hok, hr, hown, hg⟩ := hp
  refine ⟨u', ⟨Below.grown h.ext hg h.ext.size (fun k hk => by cases hk; exact (h.own.lt g rfl).1), ?_, hown, h.up.same hl hok hr⟩, hr, hg⟩
  rw [World.cell?_of_block (hg.block bu (World.block_lt_of_cell? _ _ h.var) (by simp; exact hne))]
  exact h.var
theorem ClSt.find {w : World} {bu g n : Nat} {ps : List (Nat × Nat)} {u : List Nat} {W : World} (h : ClSt w bu g n ps u W) (hne : bu ≠ g) (hn : n ≤ 100000) (x : Nat) (hx : x < n) :
    Calls Try.prog 52 #[.int .i64 x, .pointer (some ⟨bu, 0, none⟩)] W fun e W' => e = .returned (.int .i64 (rootU u x : Nat)) ∧ ∃ u', ClSt w bu g n ps u' W' ∧ (∀ j, j < n → rootU u' j = rootU u j) ∧ W.grownBy W' (some g) :=
  (find_any W bu g w.heap.size n u h.up.2.1 h.up.1 hn h.var hne h.own x hx).mono fun e W' ⟨h1, h2⟩ => ⟨h1, h.found hne h2⟩

theorem grown_cell {w w' : World} {g c i : Nat} {v : Value} (h : w.grownBy w' (some g)) (hne : c ≠ g) (hv : w.cell? ⟨c, i, none⟩ = some v) : w'.cell? ⟨c, i, none⟩ = some v := by
  rw [World.cell?_of_block (h.block c (World.block_lt_of_cell? _ _ hv) (fun e => hne (Option.some.inj e)))]; exact hv
def natP (p : Int × Int) : Nat × Nat := (p.1.toNat, p.2.toNat)
theorem range_get {n k : Nat} (hk : k < n) : (List.range n).getD k 0 = k := by simp [List.getD, hk]

set_option maxRecDepth 100000 in
set_option maxHeartbeats 2000000 in
theorem closed_any (w : World) (pv : Value) (ps : List (Int × Int)) (cp : Nat) (hp : EdgesC w pv ps cp) (n : Nat) (hn : n ≤ 1000) (hin : ∀ p ∈ ps, 0 ≤ p.1 ∧ p.1 < n ∧ 0 ≤ p.2 ∧ p.2 < n) :
    Calls Try.prog 42 #[.int .i64 n, pv] w fun e w' => (∃ u up, e = .returned u ∧ UpIs n (ps.map natP) up ∧ FitC w' u (namedL ((List.range n).map (fun i => (rootU up i : Int))))) ∧ Ext w w' := by
  obtain ⟨i0, hi0, hz0, hz1, hz2⟩ := info_parts int_info
  obtain ⟨A, rfl, hcp, _, hpm⟩ := hp
  unfold lenMax at hpm
  have HIN := Lib.hid hin
  clear hin
  go_enter Try.func42, Try.ntmps42
  go_upto_region 2 with (at_make; refine wpList_make_full _ rfl _ _ 29 rfl w.heap.size 3 i0 (.int .i64 0) 1 Try.underlying29 hi0 hz0 hz1 _ _ _ _ n rfl rfl rfl rfl (by rw [hz2]; omega) (by unfold maxLen; omega) (Nat.le_refl _) ?_; intro w1 hown1 hg1)
  rw [Nat.mul_one, show (Value.int .i64 0).cells = #[.int .i64 0] from rfl, toList_madeCells_one] at hown1
  have hE1 : Ext w w1 := Below.grown (Ext.refl w) hg1 (Nat.le_refl _) (by simp)
  have hgb : w.heap.size < w1.heap.size := (hown1.lt _ rfl).2
  refine wp_named ?_
  intro W1 hW1
  have hE2 : Ext w1 W1 := by rw [hW1]; exact (Ext.refl _).alloc _
  have hv1 : W1.cell? ⟨w1.heap.size, 0, none⟩ = some (.slice (some ⟨w.heap.size, 0, none⟩) n n) := by rw [hW1]; simp [go_sem]
  have hown2 := ownsRow_ext hown1 hE2
  clear hW1 hg1 hown1
  have hne : w1.heap.size ≠ w.heap.size := by omega
  generalize hbu : w1.heap.size = bu at *
  clear hgb
  go_wp2
  go_loopw [18] (fun i wr => ∃ k : Nat, k ≤ n ∧ i = .int .i64 k ∧ Ext w wr ∧ wr.cell? ⟨bu, 0, none⟩ = some (.slice (some ⟨w.heap.size, 0, none⟩) n n) ∧ wr.ownsRow w.heap.size 3 1 (.slice (some ⟨w.heap.size, 0, none⟩) n n) n (((List.range n).take k ++ List.replicate (n - k) 0).map natV)) (fun i _ => n - (intOf i).toNat)
  case atStart => exact ⟨0, by omega, rfl, hE1.trans hE2, hv1, by simpa [natV] using hown2⟩
  case round =>
    clear hE1 hE2 hv1 hown2
    obtain ⟨k, hk, rfl, hE, hv, hown⟩ := hrel
    obtain ⟨W2, hW2⟩ : ∃ W, W = wr := ⟨_, rfl⟩
    subst hW2
    by_cases hkn : k < n
    · have hcur : ∃ u, W2.cell? ⟨w.heap.size, k, none⟩ = some u := by
        rw [hown.cellAt k (by omega)]
        exact ⟨_, List.getElem?_eq_getElem (by rw [hown.1]; omega)⟩
      obtain ⟨u0, hcur⟩ := hcur
      have hfz := hown.frozenAt k
      have hst := (hown.stored k (natV k)).1
      have hfs := fill_set (d := 0) (r := List.range n) (n := n) (k := k) (by simp) hkn
      rw [range_get hkn] at hfs
      rw [← List.map_set, hfs] at hst
      have hv2 : (W2.setCell ⟨w.heap.size, k, none⟩ (.int .i64 k)).cell? ⟨bu, 0, none⟩ = some (.slice (some ⟨w.heap.size, 0, none⟩) n n) := by
        rw [World.cell?_of_block (Below.heap_setCell _ _ _ _ (by simp; exact hne))]; exact hv
      have HST := Lib.hid hst
      have HV2 := Lib.hid hv2
      have hkI : (k : Int) < (n : Int) := by omega
      clear hst hfs hv2 hown
      go_wp2
      go_roundw
      case rel => exact ⟨k + 1, by omega, by go_num, hE.setCell (p := ⟨w.heap.size, k, none⟩) (Nat.le_refl _) _, HV2.out, HST.out⟩
      case measure => simp [intOf]; omega
    · have hkn2 : n = k := by omega
      subst hkn2
      have hCl : ClSt w bu w.heap.size n [] (List.range n) W2 := by
        refine ⟨hE, hv, ?_, upIs_start n⟩
        rw [List.take_of_length_le (by simp), Nat.sub_self, List.replicate_zero, List.append_nil] at hown
        exact hown
      clear hE hv hown
      generalize hgg : w.heap.size = g at *
      go_wp2
      go_loopw [29] (fun i wr => ∃ (k : Nat) (u : List Nat), k ≤ ps.length ∧ i = .int .i64 k ∧ ClSt w bu g n ((ps.take k).map natP) u wr) (fun i _ => ps.length - (intOf i).toNat)
      case atStart => exact ⟨0, _, by omega, rfl, by simpa using hCl⟩
      case round =>
        clear hCl
        obtain ⟨k, u, hk, rfl, hCl⟩ := hrel
        obtain ⟨W4, hW4⟩ : ∃ W, W = wr := ⟨_, rfl⟩
        subst hW4
        by_cases hkp : k < ps.length
        · obtain ⟨bp, op, rfl, hbp, d0, d1⟩ := (hcp.ext hCl.ext).at_edge hkp
          have hrange := HIN.out _ (List.getElem_mem hkp)
          have hnp : (ps.take (k + 1)).map natP = (ps.take k).map natP ++ [natP ps[k]] := by
            rw [List.take_succ_eq_append_getElem hkp, List.map_append]; rfl
          rcases hpk : ps[k] with ⟨x, y⟩
          rw [hpk] at hrange hnp d0 d1
          simp only at hrange d0 d1
          obtain ⟨a, rfl⟩ := Int.eq_ofNat_of_zero_le hrange.1
          obtain ⟨b, rfl⟩ := Int.eq_ofNat_of_zero_le hrange.2.2.1
          have han : a < n := by omega
          have hbn : b < n := by omega
          rw [show natP ((a : Int), (b : Int)) = (a, b) by simp [natP]] at hnp
          have HNP := Lib.hid hnp
          have hkI : (k : Int) < (ps.length : Int) := by omega
          clear hnp hpk hrange hbp
          go_upto_region 11 with fail
          refine wp_named ?_
          intro W5 hW5
          have hE5 : Ext W4 W5 := by rw [hW5]; exact (Ext.refl _).alloc _
          have z0 : W5.cell? ⟨W4.heap.size, 0, none⟩ = some (.int .i64 a) := by rw [hW5]; simp [go_sem]
          have z1 : W5.cell? ⟨W4.heap.size, 1, none⟩ = some (.int .i64 b) := by rw [hW5]; simp [go_sem]
          have hCl5 : ∀ w', Ext W5 w' → ClSt w bu g n ((ps.take k).map natP) u w' := fun w' h => hCl.ext' (hE5.trans h)
          have hcg : W4.heap.size ≠ g := by
            have := (hCl.own.lt g rfl).2
            omega
          have hc9 : W4.heap.size < W5.heap.size := World.block_lt_of_cell? _ _ z0
          generalize W4.heap.size = c9 at *
          clear hW5 hE5 d0 d1
          have t1 : True := trivial
          go_region_held3 (fun w' => w'.cell? ⟨c9, 0, none⟩ = some (.int .i64 a) ∧ w'.cell? ⟨c9, 1, none⟩ = some (.int .i64 b)) (first | go_keep | exact ⟨by assumption, by assumption⟩)
            (first
              | (go_at_call 52; clear t1; refine ((hCl5 _ (by first | exact Ext.refl _ | exact (Ext.refl _).drew)).find hne (by omega) a han).mono ?_; rintro e wA ⟨rfl, uA, hClA, hrA, hgA⟩; have zA0 := grown_cell hgA hcg z0; have zA1 := grown_cell hgA hcg z1)
              | (go_at_call 52; refine (hClA.find hne (by omega) b hbn).mono ?_; rintro e wB ⟨rfl, uB, hClB, hrB, hgB⟩; have zB0 := grown_cell hgB hcg zA0; have zB1 := grown_cell hgB hcg zA1))
          have hjoin := hClB.up.join han hbn
          rw [(hrB a han).trans (hrA a han), (hrB b hbn).trans (hrA b hbn)] at hjoin
          have hra : rootU u a < n := by have := (rootU_root hCl.up.2.1 a (by rw [hCl.up.1]; exact han)).1; omega
          have hrb : rootU u b < n := by have := (rootU_root hCl.up.2.1 b (by rw [hCl.up.1]; exact hbn)).1; omega
          have hst := (hClB.own.stored (max (rootU u a) (rootU u b)) (natV (min (rootU u a) (rootU u b)))).1
          rw [← List.map_set] at hst
          generalize rootU u a = ra at *
          generalize rootU u b = rb at *
          have hcell : ∀ j, j < n → ∃ y, wB.cell? ⟨g, j, none⟩ = some y := fun j hj => by
            rw [hClB.own.cellAt j (by omega)]
            exact ⟨_, List.getElem?_eq_getElem (by rw [hClB.own.1]; omega)⟩
          obtain ⟨ya, hya⟩ := hcell ra hra
          obtain ⟨yb, hyb⟩ := hcell rb hrb
          have hfa := hClB.own.frozenAt ra
          have hfb := hClB.own.frozenAt rb
          have hvar := hClB.var
          have hgs : w.heap.size ≤ g := by rw [hgg]; exact Nat.le_refl _
          have hEB := hClB.ext
          have hraI : (ra : Int) < (n : Int) := by omega
          have hrbI : (rb : Int) < (n : Int) := by omega
          clear hrA hrB hgA hgB hClA hClB zA0 zA1 zB0 zB1 hcell hCl hCl5
          have hfin : ∀ (x y : Nat), x = max ra rb → y = min ra rb → ClSt w bu g n ((ps.take (k + 1)).map natP) (uB.set x y) (wB.setCell ⟨g, x, none⟩ (.int .i64 (y : Int))) := fun x y hx hy => by
            subst hx hy
            refine ⟨hEB.setCell (p := ⟨g, _, none⟩) hgs _, ?_, hst, by rw [HNP.out]; exact hjoin⟩
            rw [World.cell?_of_block (Below.heap_setCell _ _ _ _ (by simp; exact hne))]; exact hvar
          have HFIN := Lib.hid hfin
          clear hfin hst hjoin
          go_upto_region 12 with fail
          by_cases hab : ra < rb
          · have habI : (ra : Int) < (rb : Int) := by omega
            have hf1 := HFIN.out rb ra (by omega) (by omega)
            have HF1 := Lib.hid hf1
            clear hf1 HFIN
            go_wp2
            all_goals
              go_roundw
              case rel => first | exact ⟨k + 1, _, by omega, by go_num, HF1.out⟩ | (have hrr : ra = rb := (by omega); subst hrr; exact ⟨k + 1, _, by omega, by go_num, HF1.out⟩)
              case measure => simp [intOf]; omega
          · have habI : ¬ (ra : Int) < (rb : Int) := by omega
            have hf1 := HFIN.out ra rb (by omega) (by omega)
            have HF1 := Lib.hid hf1
            clear hf1 HFIN
            go_wp2
            all_goals
              go_roundw
              case rel => exact ⟨k + 1, uB.set ra rb, by omega, by go_num, by rw [show (if rb < ra then (rb : Int) else (ra : Int)) = (rb : Int) by split <;> omega]; exact HF1.out⟩
              case measure => simp [intOf]; omega
        · have hkp2 : ps.length = k := by omega
          subst hkp2
          rw [List.take_length] at hCl
          go_upto_region 15 with (at_make; refine wpList_make_full _ rfl _ _ 29 rfl w.heap.size 3 i0 (.int .i64 0) 1 Try.underlying29 hi0 hz0 hz1 _ _ _ _ n rfl rfl rfl rfl (by rw [hz2]; omega) (by unfold maxLen; omega) hCl.ext.size ?_; intro w5 hown5 hg5)
          rw [Nat.mul_one, show (Value.int .i64 0).cells = #[.int .i64 0] from rfl, toList_madeCells_one] at hown5
          have hE5 : Ext W4 w5 := Below.grown (Ext.refl _) hg5 (Nat.le_refl _) (by simp)
          have hCl5 := hCl.ext' hE5
          have hog : W4.heap.size ≠ g := by have := (hCl.own.lt g rfl).2; omega
          have hob : W4.heap.size ≠ bu := by
            have h9 : bu < W4.heap.size := World.block_lt_of_cell? _ _ hCl.var
            omega
          have hos : w.heap.size ≤ W4.heap.size := hCl.ext.size
          have hroot : Hid (∀ j, j < n → rootU u j < n) := fun j hj => by have := (rootU_root hCl.up.2.1 j (by rw [hCl.up.1]; exact hj)).1; omega
          have HUP := Lib.hid hCl.up
          generalize W4.heap.size = go at *
          have HL : Hid (((List.range n).map (fun i => (rootU u i : Int))).length = n) := by show _ = _; simp
          clear hg5 hCl hE5
          go_wp2
          go_loopw [54] (fun i wr => ∃ (j : Nat) (u' : List Nat), j ≤ n ∧ i = .int .i64 j ∧ ClSt w bu g n (ps.map natP) u' wr ∧ (∀ i, i < n → rootU u' i = rootU u i) ∧ wr.ownsRow w.heap.size 3 1 (.slice (some ⟨go, 0, none⟩) n n) n ((((List.range n).map (fun i => (rootU u i : Int))).take j ++ List.replicate (n - j) 0).map (.int .i64))) (fun i _ => n - (intOf i).toNat)
          case atStart => exact ⟨0, u, by omega, rfl, hCl5, fun _ _ => rfl, by simpa using hown5⟩
          case round =>
            clear hCl5 hown5
            obtain ⟨j, u', hj, rfl, hC6, hr6, hown6⟩ := hrel
            obtain ⟨W6, hW6⟩ : ∃ W, W = wr := ⟨_, rfl⟩
            subst hW6
            by_cases hjn : j < n
            · have hf := hC6.find hne (by omega) j hjn
              rw [hr6 j hjn] at hf
              have hset := fill_set (d := (0 : Int)) (r := (List.range n).map (fun i => (rootU u i : Int))) (n := n) (k := j) HL.out hjn
              rw [show ((List.range n).map (fun i => (rootU u i : Int))).getD j 0 = (rootU u j : Int) by simp [List.getD, hjn]] at hset
              have hfull : ∀ w7 u7, ClSt w bu g n (ps.map natP) u7 w7 → (∀ i, i < n → rootU u7 i = rootU u' i) → W6.grownBy w7 (some g) →
                  (ClSt w bu g n (ps.map natP) u7 (w7.setCell ⟨go, j, none⟩ (.int .i64 (rootU u j : Nat))) ∧ (∀ i, i < n → rootU u7 i = rootU u i) ∧ (w7.setCell ⟨go, j, none⟩ (.int .i64 (rootU u j : Nat))).ownsRow w.heap.size 3 1 (.slice (some ⟨go, 0, none⟩) n n) n ((((List.range n).map (fun i => (rootU u i : Int))).take (j + 1) ++ List.replicate (n - (j + 1)) 0).map (.int .i64))) ∧
                  (∃ y, w7.cell? ⟨go, j, none⟩ = some y) ∧ w7.frozen? ⟨go, j, none⟩ = false := fun w7 u7 hC7 hr7 hg7 => by
                have ho7 := hown6.kept hg7 (.inr (by simp [Value.ownBlock]; exact hog))
                have hst := (ho7.stored j (.int .i64 (rootU u j : Nat))).1
                rw [← List.map_set, hset] at hst
                refine ⟨⟨⟨hC7.ext.setCell (p := ⟨go, j, none⟩) hos _, ?_, ?_, hC7.up⟩, fun i hi => (hr7 i hi).trans (hr6 i hi), hst⟩, ?_, ho7.frozenAt j⟩
                · rw [World.cell?_of_block (Below.heap_setCell _ _ _ _ (by simp; exact Ne.symm hob))]; exact hC7.var
                · exact hC7.own.kept (ho7.stored j _).2 (.inr (by simp [Value.ownBlock]; exact Ne.symm hog))
                · rw [ho7.cellAt j (by omega)]
                  exact ⟨_, List.getElem?_eq_getElem (by rw [ho7.1]; omega)⟩
              have HF := Lib.hid hfull
              have hjI : (j : Int) < (n : Int) := by omega
              clear hfull hset hr6 hC6 hown6
              go_upto_region 19 with (go_at_call 52; refine hf.mono ?_; rintro e w7 ⟨rfl, u7, hC7, hr7, hg7⟩; obtain ⟨hfin7, ⟨y7, hcur7⟩, hfz7⟩ := HF.out w7 u7 hC7 hr7 hg7; clear hC7 hr7 hg7; have HFIN7 := Lib.hid hfin7; clear hfin7)
              go_wp2
              go_roundw
              case rel => exact ⟨j + 1, u7, by omega, by go_num, HFIN7.out.1, HFIN7.out.2.1, HFIN7.out.2.2⟩
              case measure => simp [intOf]; omega
            · have hjn2 : n = j := by omega
              subst hjn2
              rw [List.take_of_length_le (by rw [HL.out]; exact Nat.le_refl _), Nat.sub_self, List.replicate_zero, List.append_nil] at hown6
              obtain ⟨cw, hwi⟩ := ints_of_owns (by rw [HL.out]; exact hown6) (by rw [HL.out]; unfold lenMax; omega)
              have hwf : ∀ x ∈ (List.range n).map (fun i => (rootU u i : Int)), wfI x := fun x hx => by
                obtain ⟨i, hi, rfl⟩ := List.mem_map.1 hx
                have := hroot.out i (List.mem_range.1 hi)
                exact WalkArith.wf_i64 (by omega)
              have hnm := named_any W6 _ _ cw hwi (by rw [HL.out]; omega) hwf
              have hE6 := hC6.ext
              clear hC6 hr6 hown6 hwi hwf
              go_wp2_with (go_at_call 53; refine hnm.mono ?_; rintro e W9 ⟨⟨v9, rfl, hv9⟩, hE9⟩)
              go_ret
              exact ⟨⟨_, u, rfl, HUP.out, hv9⟩, hE6.trans hE9⟩
end Go.Proofs.Ytkmcplhgakpneaa
