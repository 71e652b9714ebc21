/- THE LAW ExtendsConflict 6: the walk. -/
import Derived.Test.YtggffdkgfgdaoaaDoorE13
import Derived.Test.YtggffdkgfgdaoaaDoorC3
namespace Go.Proofs.YtggffdkgfgdaoaaDoor
open Go.RowKit Go.Maps
set_option linter.unusedVariables false
set_option linter.unusedSimpArgs false
attribute [local go_sem] Oper.quietV quietV Oper.gives givesV ext_refl_iff ext_alloc_iff ext_drew_iff ext_drewN_iff
theorem cf_uniq {x : Xt} {i k i' k' : Nat} {xs ys : List Int} (h : CfAt x i k xs) (h' : CfAt x i' k' ys) : i = i' ∧ k = k' ∧ xs = ys := by
  obtain ⟨hik, ⟨a, b, ha, hb, hp⟩, hmin⟩ := h
  obtain ⟨hik', ⟨a', b', ha', hb', hp'⟩, hmin'⟩ := h'
  have e1 : i = i' ∧ k = k' := by
    by_cases h6 : i < i' ∨ (i = i' ∧ k < k')
    · have h7 := hmin' i k hik h6 a b ha hb
      rw [h7] at hp; cases hp
    · by_cases h8 : i' < i ∨ (i' = i ∧ k' < k)
      · have h7 := hmin i' k' hik' h8 a' b' ha' hb'
        rw [h7] at hp'; cases hp'
      · omega
  obtain ⟨e1, e2⟩ := e1
  subst e1 e2
  rw [ha] at ha'
  rw [hb] at hb'
  injection ha' with ha'
  injection hb' with hb'
  subst ha' hb'
  rw [hp] at hp'
  injection hp' with hp'
  exact ⟨rfl, rfl, hp'⟩
theorem cf_not {x : Xt} {i k : Nat} {xs : List Int} (h : CfAt x i k xs) (h' : CfNo x) : False := by
  obtain ⟨hik, ⟨a, b, ha, hb, hp⟩, _⟩ := h
  rw [h' i k hik a b ha hb] at hp; cases hp
theorem cf_or (x : Xt) : CfNo x ∨ ∃ i k xs, CfAt x i k xs := by
  have hin : ∀ i, noBef x i 0 → ∀ k, noBef x i k ∨ ∃ i k xs, CfAt x i k xs := fun i h0 k => by
    induction k with
    | zero => exact .inl h0
    | succ k ih =>
      rcases ih with ih | ih
      · by_cases hn : i < k ∧ ¬ noC x i k
        · right
          refine Classical.byContradiction (fun hc => hn.2 (fun a b ha hb => ?_))
          cases hp : pairC x a b with
          | none => rfl
          | some xs => exact absurd ⟨i, k, xs, hn.1, ⟨a, b, ha, hb, hp⟩, ih⟩ hc
        · left
          intro i' k' h1 h3
          by_cases h4 : i' = i ∧ k' = k
          · obtain ⟨rfl, rfl⟩ := h4
            exact Classical.byContradiction (fun hc => hn ⟨h1, hc⟩)
          · exact ih i' k' h1 (by omega)
      · exact .inr ih
  have hout : ∀ i, noBef x i 0 ∨ ∃ i k xs, CfAt x i k xs := fun i => by
    induction i with
    | zero => exact .inl (noBef_zero x)
    | succ i ih =>
      rcases ih with ih | ih
      · rcases hin i ih x.arcs.length with h | h
        · exact .inl (noBef_next h)
        · exact .inr h
      · exact .inr ih
  exact (hout x.arcs.length).imp noBef_all id
/-- What the reference answers, where the answer is known. -/
theorem refConf_no {W : World} {xv : Value} {x : Xt} (h : Calls Tryd.prog 24 #[xv] W (CrP W x)) (h2 : CfNo x) : Calls Tryd.prog 24 #[xv] W (fun e w' => e = .returned (.tuple #[.int .i64 0, .int .i64 0, .slice none 0 0, .int .i64 0]) ∧ Ext W w') := by
  refine h.mono ?_
  rintro e w' ⟨h | h, hE⟩
  · obtain ⟨i, k, xs, A, c, hc, _⟩ := h
    exact (cf_not hc h2).elim
  · exact ⟨h.2, hE⟩
theorem refConf_yes {W : World} {xv : Value} {x : Xt} (h : Calls Tryd.prog 24 #[xv] W (CrP W x)) {i k : Nat} {xs : List Int} (h2 : CfAt x i k xs) : Calls Tryd.prog 24 #[xv] W (fun e w' => ∃ A c, e = .returned (.tuple #[.int .i64 (i : Int), .int .i64 (k : Int), .slice A xs.length c, .int .i64 1]) ∧ IntsC w' (.slice A xs.length c) xs c ∧ Ext W w') := by
  refine h.mono ?_
  rintro e w' ⟨h | h, hE⟩
  · obtain ⟨i', k', xs', A, c, hc, he, hi⟩ := h
    obtain ⟨rfl, rfl, rfl⟩ := cf_uniq h2 hc
    exact ⟨A, c, he, hi, hE⟩
  · exact (cf_not h2 h.1).elim
theorem varsV_dom : ∀ i ≤ varsV.length, (domL (varsV.take i)).length ≤ 5000 := by
  intro i hi
  have : i = 0 ∨ i = 1 ∨ i = 2 := by have : varsV.length = 2 := rfl; omega
  rcases this with rfl | rfl | rfl <;> decide
set_option maxRecDepth 100000 in
set_option maxHeartbeats 16000000 in
theorem ExtendsConflict_any (w : World) (xv : Value) (v : Vd) (hx : VdV w xv v) (hT : OpsTab w) : Calls Tryd.prog 6 #[xv] w (LivP w) := by
  have hof := fun W (e : Ext w W) => of_any W xv v (hx.ext e)
  obtain ⟨X, hX⟩ : ∃ X, X = ofX v := ⟨_, rfl⟩
  have HXE := Lib.hid hX
  obtain ⟨_, _, _, _, Ax, cx, rfl, _⟩ := id hx
  have HW := Lib.hid hT
  rw [← hX] at hof
  clear hx hT hX
  go_enter Tryd.func6, Tryd.ntmps6
  go_upto_region 1 with fail
  refine wp_named ?_
  intro W1 hW1
  have hE1 : Ext w W1 := by rw [hW1]; exact (alloc_ext _ _)
  have hB1 : W1.heap[w.heap.size]? = some (.cells #[.int .u8 (v.st : Int), .int .u8 (v.s0 : Int), .int .u8 (v.s1 : Int), .slice Ax v.arcs.length cx] 25 (0, 0)) := by rw [hW1]; exact (heap_alloc_new _ _)
  have hof := hof W1 hE1
  have HE1 := Lib.hid hE1
  clear hW1 hE1
  generalize w.heap.size = b1 at *
  go_upto_region 2 with (first
    | (with_reducible refine wpList_load_row rfl 25 _ rfl b1 rfl 25 _ (0, 0) _ hB1 Tryd.underlying25 rfl (by kernel_rfl) ?_)
    | ((with_reducible refine hof.mono ?_); rintro e W2 ⟨xv, rfl, hXT, e2⟩; obtain ⟨vv, sv, av, vs, q1, q2, rfl, ⟨Av, rfl, _⟩, ⟨As, rfl, _⟩, hrow, _, _⟩ := id hXT; obtain ⟨Aa, ca, rfl, _⟩ := cells_of_owns hrow; clear hrow)
    | (with_reducible refine wpList_store_blk _ rfl 31 _ _ rfl W2.heap.size 31 _ _ rfl rfl (heap_alloc_new _ _) (by kernel_rfl) (by kernel_rfl) (by kernel_rfl) ?_; intro W3 h3 g3))
  have hE23 : Ext W2 W3 := Below.grown (alloc_ext W2 _) g3 (alloc_ext W2 _).size (fun k hk => by cases hk; exact Nat.le_refl _)
  have HE := Lib.hid (And.intro (HE1.out.trans (e2.trans hE23)) (And.intro (hXT.v.ext hE23) h3))
  have HOK : Hid (xtR X = 0 ∧ combR X.vars ≤ 4096) := Lib.hid ⟨by rw [HXE.out]; exact ofX_ok v, by rw [HXE.out]; show combR varsV ≤ 4096; rw [varsV_comb]; decide⟩
  have hcf := conflict_any W3 _ X HE.out.2.1 (HW.out.ext HE.out.1)
  have hrf := fun W (e : Ext W3 W) => refConflict_any W _ X (HE.out.2.1.ext e) HOK.out.1 (by rw [HXE.out]; exact varsV_dom)
  have hB3 := HE.out.2.2
  have HH3 := Lib.hid h3
  clear hof hB1 e2 hE23 hXT h3 g3 HE1
  generalize W2.heap.size = d at *
  by_cases hno : CfNo X
  · have hc := conf_no W3 _ X HE.out.2.1 (HW.out.ext HE.out.1) HOK.out.1 HOK.out.2 hno
    clear hcf
    go_upto_region 3 with (first
      | (with_reducible refine wpList_load_row rfl 31 _ rfl d rfl 31 _ (0, 0) _ hB3 Tryd.underlying31 rfl (by kernel_rfl) ?_)
      | ((with_reducible refine hc.mono ?_); rintro e W4 ⟨rfl, e4⟩))
    have hr := refConf_no (hrf W4 e4) hno
    have hB3 := heap_ext e4 hB3
    have HE4 := Lib.hid (HE.out.1.trans e4)
    clear hc hrf e4 hno
    go_upto_region 4 with (first
      | (with_reducible refine wpList_load_row rfl 31 _ rfl d rfl 31 _ (0, 0) _ hB3 Tryd.underlying31 rfl (by kernel_rfl) ?_)
      | ((with_reducible refine hr.mono ?_); rintro e W5 ⟨rfl, e5⟩))
    have HE5 := Lib.hid (HE4.out.trans e5)
    have hlv := lives_any W5 (HW.out.ext HE5.out)
    clear hr hB3 e5
    go_wp2_with ((with_reducible refine hlv.mono ?_); rintro e W9 ⟨rfl, e9⟩)
    go_ret
    exact ⟨rfl, HE5.out.trans e9⟩
  · have hyes : ∃ i k xs, CfAt X i k xs := (cf_or X).resolve_left hno
    obtain ⟨i, k, xs, hcx⟩ := hyes
    have hc := conf_yes W3 _ X HE.out.2.1 (HW.out.ext HE.out.1) HOK.out.1 HOK.out.2 hcx rfl
    clear hcf hno
    go_upto_region 3 with (first
      | (with_reducible refine wpList_load_row rfl 31 _ rfl d rfl 31 _ (0, 0) _ hB3 Tryd.underlying31 rfl (by kernel_rfl) ?_)
      | ((with_reducible refine hc.mono ?_); rintro e W4 ⟨A4, rfl, hf4, e4⟩))
    have hr := refConf_yes (hrf W4 e4) hcx
    have hB3 := heap_ext e4 hB3
    have HE4 := Lib.hid (And.intro (HE.out.1.trans e4) hf4)
    clear hc hrf e4 hf4 hcx
    go_upto_region 4 with (first
      | (with_reducible refine wpList_load_row rfl 31 _ rfl d rfl 31 _ (0, 0) _ hB3 Tryd.underlying31 rfl (by kernel_rfl) ?_)
      | ((with_reducible refine hr.mono ?_); rintro e W5 ⟨A5, c5, rfl, hi5, e5⟩))
    have hwd := word_lit W5 A4 xs.length _ xs _ (HE4.out.2.ext e5) rfl hi5
    have HE5 := Lib.hid (HE4.out.1.trans e5)
    clear hr hB3 e5 hi5
    go_wp2_with (first
      | ((with_reducible refine hwd.mono ?_); rintro e W8 ⟨rfl, e8⟩; have hlv := lives_any W8 (HW.out.ext (HE5.out.trans e8)))
      | ((with_reducible refine hlv.mono ?_); rintro e W9 ⟨rfl, e9⟩))
    go_ret
    exact ⟨rfl, HE5.out.trans (e8.trans e9)⟩
end Go.Proofs.YtggffdkgfgdaoaaDoor
