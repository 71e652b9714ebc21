/- THE LAW ExtendsRun 4: the walk. -/
import Derived.Test.YtggffdkgfgdaoaaDoorD2
import Derived.Test.YtggffdkgfgdaoaaDoorE10
namespace Go.Proofs.YtggffdkgfgdaoaaDoor
open Go.RowKit Go.Maps
set_option linter.unusedVariables false
set_option linter.unusedSimpArgs false
attribute [local go_sem] Oper.quietV quietV Oper.gives givesV ext_refl_iff ext_alloc_iff ext_drew_iff ext_drewN_iff
set_option maxRecDepth 100000 in
set_option maxHeartbeats 16000000 in
theorem ExtendsRun_any (w : World) (xv : Value) (v : Vd) (wv : Value) (ws : List Nat) (c : Nat) (hx : VdV w xv v) (hw : U8sC w wv ws c) (hT : OpsTab w) : Calls Tryd.prog 4 #[xv, wv] w (LivP w) := by
  have hof := fun W (e : Ext w W) => of_any W xv v (hx.ext e)
  obtain ⟨X, hX⟩ : ∃ X, X = ofX v := ⟨_, rfl⟩
  have HXE := Lib.hid hX
  obtain ⟨_, _, _, _, Ax, cx, rfl, _⟩ := id hx
  have HW := Lib.hid (And.intro hw hT)
  obtain ⟨Aw, rfl, _⟩ := id hw
  rw [← hX] at hof
  clear hx hw hT hX
  go_enter Tryd.func4, Tryd.ntmps4
  go_upto_region 1 with fail
  refine wp_named ?_
  intro W1 hW1
  have hE1 : Ext w W1 := by rw [hW1]; exact (alloc_ext _ _)
  have hB1 : W1.heap[w.heap.size]? = some (.cells #[.int .u8 (v.st : Int), .int .u8 (v.s0 : Int), .int .u8 (v.s1 : Int), .slice Ax v.arcs.length cx] 25 (0, 0)) := by rw [hW1]; exact (heap_alloc_new _ _)
  have hof := hof W1 hE1
  have HE1 := Lib.hid hE1
  clear hW1 hE1
  generalize w.heap.size = b1 at *
  go_upto_region 2 with (first
    | (with_reducible refine wpList_load_row rfl 25 _ rfl b1 rfl 25 _ (0, 0) _ hB1 Tryd.underlying25 rfl (by kernel_rfl) ?_)
    | ((with_reducible refine hof.mono ?_); rintro e W2 ⟨xv, rfl, hXT, e2⟩; obtain ⟨vv, sv, av, vs, q1, q2, rfl, ⟨Av, rfl, _⟩, ⟨As, rfl, _⟩, hrow, _, _⟩ := id hXT; obtain ⟨Aa, ca, rfl, _⟩ := cells_of_owns hrow; clear hrow)
    | (with_reducible refine wpList_store_blk _ rfl 31 _ _ rfl W2.heap.size 31 _ _ rfl rfl (heap_alloc_new _ _) (by kernel_rfl) (by kernel_rfl) (by kernel_rfl) ?_; intro W3 h3 g3))
  have hE23 : Ext W2 W3 := Below.grown (alloc_ext W2 _) g3 (alloc_ext W2 _).size (fun k hk => by cases hk; exact Nat.le_refl _)
  have HE := Lib.hid (And.intro (HE1.out.trans (e2.trans hE23)) (And.intro (hXT.v.ext hE23) h3))
  clear hof hB1 e2 hE23 hXT h3 g3 HE1
  generalize W2.heap.size = d at *
  have hw16 := word16_any W3 _ ws c (HW.out.1.ext HE.out.1)
  go_upto_region 3 with ((with_reducible refine hw16.mono ?_); rintro e W5 ⟨Bu, cu, rfl, hu, e5, hfu⟩)
  have HE5 := Lib.hid (And.intro (HE.out.1.trans e5) (And.intro (HE.out.2.1.ext e5) (And.intro (heap_ext e5 HE.out.2.2) hu)))
  have hrn := run_of W5 X (by rw [HXE.out]; exact ofX_ok v) (by rw [HXE.out]; rfl) _ HE5.out.2.1 (HW.out.2.ext HE5.out.1) _ ws cu hu
  have hB3 := HE5.out.2.2.1
  clear hw16 e5 hu hfu
  go_upto_region 4 with (first
    | (with_reducible refine wpList_load_row rfl 31 _ rfl d rfl 31 _ (0, 0) _ hB3 Tryd.underlying31 rfl (by kernel_rfl) ?_)
    | ((with_reducible refine hrn.mono ?_); rintro e W6 ⟨Br, rfl, hr, e6, -⟩))
  have hrf := refRun_any W6 _ X _ (wordI ws) cu (HE5.out.2.1.ext e6) (HE5.out.2.2.2.ext e6) (by rw [HXE.out]; exact ofX_ok v) (by have := wordI_len ws; omega)
  have hB3 := heap_ext e6 hB3
  have HE6 := Lib.hid (And.intro (HE5.out.1.trans e6) hr)
  clear hrn e6 hr
  generalize runF X (some (0, X.start)) (wordI ws) = L at *
  generalize wordI ws = wsI at *
  go_wp2_with (first
    | (with_reducible refine wpList_load_row rfl 31 _ rfl d rfl 31 _ (0, 0) _ hB3 Tryd.underlying31 rfl (by kernel_rfl) ?_)
    | ((with_reducible refine hrf.mono ?_); rintro e W7 ⟨A7, c7, rfl, h7, e7⟩; have hwd := word_lit W7 Br L.length _ L _ (HE6.out.2.ext e7) rfl h7)
    | ((with_reducible refine hwd.mono ?_); rintro e W8 ⟨rfl, e8⟩; have hlv := lives_any W8 (HW.out.2.ext (HE6.out.1.trans (e7.trans e8))))
    | ((with_reducible refine hlv.mono ?_); rintro e W9 ⟨rfl, e9⟩))
  go_ret
  exact ⟨rfl, HE6.out.1.trans (e7.trans (e8.trans e9))⟩
end Go.Proofs.YtggffdkgfgdaoaaDoor
