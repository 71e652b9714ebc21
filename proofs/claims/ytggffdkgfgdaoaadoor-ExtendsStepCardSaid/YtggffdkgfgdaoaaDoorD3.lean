/- THE LAW ExtendsStep 3: the walk. -/
import Derived.Test.YtggffdkgfgdaoaaDoorD2
import Derived.Test.YtggffdkgfgdaoaaDoorE7
import Derived.Test.YtggffdkgfgdaoaaDoorE8
namespace Go.Proofs.YtggffdkgfgdaoaaDoor
open Go.RowKit Go.Maps
set_option linter.unusedVariables false
set_option linter.unusedSimpArgs false
attribute [local go_sem] Oper.quietV quietV Oper.gives givesV ext_refl_iff ext_alloc_iff ext_drew_iff ext_drewN_iff
def NewI (N : Nat) (x y : Int) (v : Value) (w : World) : Prop := ∃ b, v = .slice (some ⟨b, 0, none⟩) 2 2 ∧ N ≤ b ∧ w.heap[b]? = some (.cells #[.int .i64 x, .int .i64 y] 3 (0, 0))
theorem stays_newI (N : Nat) (x y : Int) : Stays Ext (NewI N x y) := fun v w w' e ⟨b, h1, h2, h3⟩ => ⟨b, h1, h2, heap_ext e h3⟩
def NewC (N : Nat) (v : Value) (w : World) : Prop := ∃ b, v = .pointer (some ⟨b, 0, none⟩) ∧ N ≤ b ∧ w.heap[b]? = some (.cells #[.int .i64 0, .slice none 0 0] 34 (0, 0))
theorem stays_newC (N : Nat) : Stays Ext (NewC N) := fun v w w' e ⟨b, h1, h2, h3⟩ => ⟨b, h1, h2, heap_ext e h3⟩
/-- A configuration of a machine of V.Of. -/
theorem ofX_cfg (v : Vd) (q r : Nat) : valsR (ofX v).vars [((q % 3 : Nat) : Int), ((r % 2 : Nat) : Int)] = 0 := by
  have : valsR varsV [((q % 3 : Nat) : Int), ((r % 2 : Nat) : Int)] = 0 := valsR_good varsV_ok rfl (fun i hi => by
    have hi : i < 2 := hi
    have h0 := Nat.mod_lt q (show 0 < 3 by decide)
    have h1 := Nat.mod_lt r (show 0 < 2 by decide)
    unfold offAt varsV
    match i, hi with
    | 0, _ => simp; omega
    | 1, _ => simp; omega)
  exact this
theorem stpE_of {x : Xt} {s : Int} {ys : List Int} {inp : Int} (h0 : xtR x = 0) (h1 : numB s x.states = true) (h2 : valsR x.vars ys = 0) (h3 : numB inp x.ins = true) : stpE x s ys inp = if (stepR x s ys inp).isNone then 7 else 0 := by
  unfold stpE
  rw [if_neg (by simpa using h0), if_neg (by simp [h1]), if_neg (by simpa using h2), if_neg (by simp [h3])]
theorem stpE_in {x : Xt} {s : Int} {ys : List Int} {inp : Int} (h0 : xtR x = 0) (h1 : numB s x.states = true) (h2 : valsR x.vars ys = 0) (h3 : numB inp x.ins = false) : stpE x s ys inp = 1 := by
  unfold stpE
  rw [if_neg (by simpa using h0), if_neg (by simp [h1]), if_neg (by simpa using h2), if_pos h3]
set_option maxRecDepth 100000 in
set_option maxHeartbeats 16000000 in
theorem ExtendsStep_any (w : World) (xv : Value) (v : Vd) (p q r : Nat) (inp : Int) (hp : p < 256) (hq : q < 256) (hr : r < 256) (hx : VdV w xv v) (hT : OpsTab w) : Calls Tryd.prog 3 #[xv, .agg #[.int .u8 (p : Int), .int .u8 (q : Int), .int .u8 (r : Int)], .int .i64 inp] w (LivP w) := by
  have hof := fun W (e : Ext w W) => of_any W xv v (hx.ext e)
  obtain ⟨X, hX⟩ : ∃ X, X = ofX v := ⟨_, rfl⟩
  have HXE := Lib.hid hX
  obtain ⟨_, _, _, _, Ax, cx, rfl, _⟩ := id hx
  have HT := Lib.hid hT
  rw [← hX] at hof
  clear hx hT hX
  go_enter Tryd.func3, Tryd.ntmps3
  go_upto_region 1 with fail
  refine wp_named ?_
  intro W1 hW1
  have hE1 : Ext w W1 := by rw [hW1]; exact (alloc_ext _ _).trans (alloc_ext _ _)
  have hB1 : W1.heap[w.heap.size]? = some (.cells #[.int .u8 (v.st : Int), .int .u8 (v.s0 : Int), .int .u8 (v.s1 : Int), .slice Ax v.arcs.length cx] 25 (0, 0)) := by rw [hW1]; exact heap_ext (alloc_ext _ _) (heap_alloc_new _ _)
  have hB2 : W1.heap[w.heap.size + 1]? = some (.cells #[.int .u8 (p : Int), .int .u8 (q : Int), .int .u8 (r : Int)] 26 (0, 0)) := by
    rw [hW1]
    have := heap_alloc_new (w.alloc (.cells #[.int .u8 (v.st : Int), .int .u8 (v.s0 : Int), .int .u8 (v.s1 : Int), .slice Ax v.arcs.length cx] 25)) (.cells #[.int .u8 (p : Int), .int .u8 (q : Int), .int .u8 (r : Int)] 26)
    simpa using this
  have hof := hof W1 hE1
  have HE1 := Lib.hid (And.intro hE1 hB2)
  clear hW1 hE1 hB2
  generalize w.heap.size = b1 at *
  go_upto_region 2 with (first
    | (with_reducible refine wpList_load_row rfl 25 _ rfl b1 rfl 25 _ (0, 0) _ hB1 Tryd.underlying25 rfl (by kernel_rfl) ?_)
    | ((with_reducible refine hof.mono ?_); rintro e W2 ⟨xv, rfl, hXT, e2⟩; obtain ⟨vv, sv, av, vs, z1, z2, rfl, ⟨Av, rfl, _⟩, ⟨As, rfl, _⟩, hrow, _, _⟩ := id hXT; obtain ⟨Aa, ca, rfl, _⟩ := cells_of_owns hrow; clear hrow)
    | (with_reducible refine wpList_store_blk _ rfl 31 _ _ rfl W2.heap.size 31 _ _ rfl rfl (heap_alloc_new _ _) (by kernel_rfl) (by kernel_rfl) (by kernel_rfl) ?_; intro W3 h3 g3))
  have hE23 : Ext W2 W3 := Below.grown (alloc_ext W2 _) g3 (alloc_ext W2 _).size (fun k hk => by cases hk; exact Nat.le_refl _)
  have HE := Lib.hid (And.intro (HE1.out.1.trans (e2.trans hE23)) (And.intro (heap_ext (e2.trans hE23) HE1.out.2) (And.intro (hXT.v.ext hE23) h3)))
  clear hof hB1 e2 hE23 hXT h3 g3 HE1
  generalize W2.heap.size = d at *
  have hS := vd_s v
  have hSX : X.states = ((v.S : Nat) : Int) := by rw [HXE.out]; rfl
  have c2 : ∀ w', Ext W3 w' → w'.cell? ⟨d, 2, none⟩ = some (.int .i64 ((v.S : Nat) : Int)) := fun w' h => h.cell (by rw [← hSX]; exact cell_of_blk HE.out.2.2.2 2 (u := .int .i64 X.states) rfl)
  have s0 : ∀ w', Ext W3 w' → w'.cell? ⟨b1 + 1, 0, none⟩ = some (.int .u8 (p : Int)) := fun w' h => h.cell (cell_of_blk HE.out.2.1 0 (u := .int .u8 (p : Int)) rfl)
  have s1 : ∀ w', Ext W3 w' → w'.cell? ⟨b1 + 1, 1, none⟩ = some (.int .u8 (q : Int)) := fun w' h => h.cell (cell_of_blk HE.out.2.1 1 (u := .int .u8 (q : Int)) rfl)
  have s2 : ∀ w', Ext W3 w' → w'.cell? ⟨b1 + 1, 2, none⟩ = some (.int .u8 (r : Int)) := fun w' h => h.cell (cell_of_blk HE.out.2.1 2 (u := .int .u8 (r : Int)) rfl)
  have hR3 := Ext.refl W3
  obtain ⟨S, hSS⟩ : ∃ S, S = v.S := ⟨_, rfl⟩
  rw [← hSS] at c2 hS hSX
  obtain ⟨m0, hm0⟩ : ∃ i, i = p % S := ⟨_, rfl⟩
  obtain ⟨m1, hm1⟩ : ∃ i, i = q % 3 := ⟨_, rfl⟩
  obtain ⟨m2, hm2⟩ : ∃ i, i = r % 2 := ⟨_, rfl⟩
  obtain ⟨t0, t0'⟩ := mods hm0 (by omega)
  obtain ⟨t1, t1'⟩ := mods hm1 (by omega)
  obtain ⟨t2, t2'⟩ := mods hm2 (by omega)
  have b0 : m0 < S := by rw [hm0]; exact Nat.mod_lt _ (by omega)
  have b1' : m1 < 3 := by omega
  have b2' : m2 < 2 := by omega
  have hwp : IntKind.i64.wrap (p : Int) = (p : Int) := wrap_nat hp
  have t1 : (q : Int) % 3 = (m1 : Int) := t1
  have t1' : Int.tmod (q : Int) 3 = (m1 : Int) := t1'
  have t2 : (r : Int) % 2 = (m2 : Int) := t2
  have t2' : Int.tmod (r : Int) 2 = (m2 : Int) := t2'
  have hw1' : IntKind.i64.wrap (m1 : Int) = (m1 : Int) := wrap_nat (by omega)
  have hw2' : IntKind.i64.wrap (m2 : Int) = (m2 : Int) := wrap_nat (by omega)
  have hnz : ¬ (S = 0) := by omega
  have HV0 : Hid (valsR X.vars [(m1 : Int), (m2 : Int)] = 0) := Lib.hid (by rw [HXE.out, hm1, hm2]; exact ofX_cfg v q r)
  have HNB : Hid (numB (m0 : Int) X.states = true) := Lib.hid (by rw [hSX]; unfold numB; exact decide_eq_true (by omega))
  have HOK : Hid (xtR X = 0 ∧ X.ins = 2) := Lib.hid ⟨by rw [HXE.out]; exact ofX_ok v, by rw [HXE.out]; rfl⟩
  have hm1' : m1 < 256 := by omega
  clear hm0 hm1 hm2 hSS hSX
  refine wp_region_ext 17 (factsOf [(14, NewI W3.heap.size (m1 : Int) (m2 : Int)), (16, NewC W3.heap.size)]) (fun k => ([[], [0], [0, 1], [], [3], [0, 1, 2, 3, 4], [], [6], [6, 7], [6, 7, 8], [], [10], [10, 11], [10, 11, 12], [6, 7, 8, 9, 10, 11, 12, 13], [0, 1, 2, 3, 4, 5, 6, 7, 8, 9, 10, 11, 12, 13, 14], [], [0, 1, 2, 3, 4, 5, 6, 7, 8, 9, 10, 11, 12, 13, 14, 15, 16]] : List (List Nat)).getD k []) (by kernel_rfl) (by kernel_rfl) Ext.pre (mono_cons (stays_newI _ _ _) (mono_cons (stays_newC _) (mono_nil))) ?_
  simp only [List.take_succ_cons, List.take_zero]
  repeat (first | (with_reducible refine lexL_quiet' (v := ?_) ?_ ?_ ?_ ?_; rotate_left; (· with_reducible rfl); (· simp [factsOf]); (· intro w1 hw1 _; go_simp; with_reducible rfl); (try simp only [Act.put, List.setIfInBounds_toArray, List.set_cons_zero, List.set_cons_succ])) | (with_reducible refine lexL_skip ?_ ?_; (· simp [Region.wanted, yielded, undef]); (try simp only [Act.put, List.setIfInBounds_toArray, List.set_cons_zero, List.set_cons_succ])) | (with_reducible refine lexL_quiet (v := ?_) ?_ ?_ ?_ ?_; rotate_left; (· simp [Region.wanted, yielded, undef]); (· simp [factsOf]); (· intro w1 hw1 _; go_simp; with_reducible rfl); (try simp only [Act.put, List.setIfInBounds_toArray, List.set_cons_zero, List.set_cons_succ])))
  with_reducible refine lexL_give' (φ := ?_) ?_ ?_ ?_ ?_; rotate_left; (· with_reducible rfl); (· simp only [factsOf, Nat.reduceAdd, ↓reduceIte, Nat.reduceEqDiff]; rfl)
  · intro w5 hw5 _
    go_simp
    exact ⟨w5.heap.size, rfl, hw5.size, heap_alloc_new _ _⟩
  rintro v14 w5 hw5 ⟨b14, rfl, -, -⟩ hk2
  clear hk2 hw5 w5
  (try simp only [Act.put, List.setIfInBounds_toArray, List.set_cons_zero, List.set_cons_succ])
  repeat (first | (with_reducible refine lexL_quiet' (v := ?_) ?_ ?_ ?_ ?_; rotate_left; (· with_reducible rfl); (· simp [factsOf]); (· intro w1 hw1 _; go_simp; with_reducible rfl); (try simp only [Act.put, List.setIfInBounds_toArray, List.set_cons_zero, List.set_cons_succ])) | (with_reducible refine lexL_skip ?_ ?_; (· simp [Region.wanted, yielded, undef]); (try simp only [Act.put, List.setIfInBounds_toArray, List.set_cons_zero, List.set_cons_succ])) | (with_reducible refine lexL_quiet (v := ?_) ?_ ?_ ?_ ?_; rotate_left; (· simp [Region.wanted, yielded, undef]); (· simp [factsOf]); (· intro w1 hw1 _; go_simp; with_reducible rfl); (try simp only [Act.put, List.setIfInBounds_toArray, List.set_cons_zero, List.set_cons_succ])))
  with_reducible refine lexL_give' (φ := ?_) ?_ ?_ ?_ ?_; rotate_left; (· with_reducible rfl); (· simp only [factsOf, Nat.reduceAdd, ↓reduceIte, Nat.reduceEqDiff]; rfl)
  · intro w5 hw5 _
    go_simp
    exact ⟨w5.heap.size, rfl, hw5.size, heap_alloc_new _ _⟩
  rintro v16 w5 hw5 ⟨b16, rfl, -, -⟩ hk2
  clear hk2 hw5 w5
  (try simp only [Act.put, List.setIfInBounds_toArray, List.set_cons_zero, List.set_cons_succ])
  with_reducible refine lexL_nil ?_; intro w1 hw1 hk1; simp only [List.drop_succ_cons, List.drop_zero]
  obtain ⟨b14', hv14, hN14, hB14⟩ := hk1.get 14 rfl rfl
  obtain ⟨b16', hv16, hN16, hB16⟩ := hk1.get 16 rfl rfl
  have hv14 := slice_inj hv14
  have hv16 := ptr_inj hv16
  subst hv14 hv16
  have hne : b14 ≠ b16 := fun e => by rw [e, hB16] at hB14; cases hB14
  have HN := Lib.hid (And.intro hN14 (And.intro hN16 (And.intro hne hw1)))
  have HB14 := Lib.hid hB14
  clear hk1 hN14 hN16 hne hw1 hB14 s0 s1 s2 c2 hR3 t0 t0' t1 t1' t2 t2' b0 b1' b2' hwp hw1' hw2' hnz hm1' hS
  go_upto_region 3 with (with_reducible refine wpList_store_blk _ rfl 34 _ _ rfl b16 34 _ _ rfl rfl hB16 (by kernel_rfl) (by kernel_rfl) (by kernel_rfl) ?_; intro W4 h4 g4)
  have hE34 : Ext W3 W4 := Below.grown HN.out.2.2.2 g4 HN.out.2.2.2.size (fun k hk => by cases hk; exact HN.out.2.1)
  have hB44 : W4.heap[b14]? = some (.cells #[.int .i64 (m1 : Int), .int .i64 (m2 : Int)] 3 (0, 0)) := (g4.block b14 (lt_of_block HB14.out) (by simpa using HN.out.2.2.1)).trans HB14.out
  have hI4 : IntsC W4 (.slice (some ⟨b14, 0, none⟩) 2 2) [(m1 : Int), (m2 : Int)] 2 := IntB.fit (L := [(m1 : Int), (m2 : Int)]) (show IntB W4 b14 [(m1 : Int), (m2 : Int)] from hB44) (by simp)
  have HE4 := Lib.hid (And.intro (HE.out.1.trans hE34) (And.intro (HE.out.2.2.1.ext hE34) (And.intro (heap_ext hE34 HE.out.2.2.2) (And.intro h4 hI4))))
  have hst := extStep_any W4 _ X (m0 : Int) _ _ _ inp HE4.out.2.1 (HT.out.ext HE4.out.1) hI4
  have hB31 := HE4.out.2.2.1
  clear hB16 g4 hE34 hB44 hI4 HN HB14 HE
  cases hin : numB inp X.ins with
  | false =>
    have her := stpE_in HOK.out.1 HNB.out HV0.out hin
    have hst := (hst.mono (fun _ _ h => h.2 (by rw [her]; decide)))
    rw [her] at hst
    have HI : Hid (inp < 0 ∨ ((1 : Int) < inp ∧ ¬ inp < 0)) := Lib.hid (by have h := of_decide_eq_false hin; rw [HOK.out.2] at h; omega)
    clear her hin
    go_upto_region 4 with (first
      | (with_reducible refine wpList_load_row rfl 31 _ rfl d rfl 31 _ (0, 0) _ hB31 Tryd.underlying31 rfl (by kernel_rfl) ?_)
      | (with_reducible refine wpList_load_row rfl 34 _ rfl b16 rfl 34 _ (0, 0) _ h4 Tryd.underlying34 rfl (by kernel_rfl) ?_)
      | ((with_reducible refine hst.mono ?_); rintro e W5 ⟨rfl, e5⟩)
      | (with_reducible refine wpList_store_blk _ rfl 34 _ _ rfl W5.heap.size 34 _ _ rfl rfl (heap_alloc_new _ _) (by kernel_rfl) (by kernel_rfl) (by kernel_rfl) ?_; intro W6 h6 g6))
    have hE56 : Ext W5 W6 := Below.grown (alloc_ext W5 _) g6 (alloc_ext W5 _).size (fun k hk => by cases hk; exact Nat.le_refl _)
    have HE46 := Lib.hid (e5.trans hE56)
    have HE6 := Lib.hid (HE4.out.1.trans HE46.out)
    have k0 := cell_of_blk h6 0 (u := .int .i64 0) rfl
    have k1 := cell_of_blk h6 1 (u := .slice none 0 0) rfl
    have hlv := lives_any W6 (HT.out.ext HE6.out)
    have hB31 := heap_ext HE46.out hB31
    have h4 := heap_ext HE46.out h4
    clear hst e5 g6 hE56 h6
    rcases HI.out with hlt | ⟨hgt, hlt⟩
    · go_wp2_with ((with_reducible refine hlv.mono ?_); rintro e W9 ⟨rfl, e9⟩)
      go_ret
      exact ⟨rfl, HE6.out.trans e9⟩
    · go_wp2_with ((with_reducible refine hlv.mono ?_); rintro e W9 ⟨rfl, e9⟩)
      go_ret
      exact ⟨rfl, HE6.out.trans e9⟩
  | true =>
    have her := stpE_of HOK.out.1 HNB.out HV0.out hin
    obtain ⟨hlt, hgt⟩ : ¬ inp < 0 ∧ ¬ (1 : Int) < inp := by have h := of_decide_eq_true hin; rw [HOK.out.2] at h; omega
    clear hin
    have hrs := fun W (e : Ext W4 W) => refStep_any W _ X (m0 : Int) _ _ _ inp (HE4.out.2.1.ext e) (HE4.out.2.2.2.2.ext e) HOK.out.1 HV0.out
    obtain ⟨q, hq⟩ : ∃ q, q = stepR X (m0 : Int) [(m1 : Int), (m2 : Int)] inp := ⟨_, rfl⟩
    rw [← hq] at hst her hrs
    clear hq
    cases q with
    | none =>
      have hst := (hst.mono (fun _ _ h => h.2 (by rw [her]; decide)))
      rw [her] at hst
      clear her
      go_upto_region 4 with (first
        | (with_reducible refine wpList_load_row rfl 31 _ rfl d rfl 31 _ (0, 0) _ hB31 Tryd.underlying31 rfl (by kernel_rfl) ?_)
        | (with_reducible refine wpList_load_row rfl 34 _ rfl b16 rfl 34 _ (0, 0) _ h4 Tryd.underlying34 rfl (by kernel_rfl) ?_)
        | ((with_reducible refine hst.mono ?_); rintro e W5 ⟨rfl, e5⟩)
        | (with_reducible refine wpList_store_blk _ rfl 34 _ _ rfl W5.heap.size 34 _ _ rfl rfl (heap_alloc_new _ _) (by kernel_rfl) (by kernel_rfl) (by kernel_rfl) ?_; intro W6 h6 g6))
      have hE56 : Ext W5 W6 := Below.grown (alloc_ext W5 _) g6 (alloc_ext W5 _).size (fun k hk => by cases hk; exact Nat.le_refl _)
      have HE46 := Lib.hid (e5.trans hE56)
      have HE6 := Lib.hid (HE4.out.1.trans HE46.out)
      have k0 := cell_of_blk h6 0 (u := .int .i64 0) rfl
      have k1 := cell_of_blk h6 1 (u := .slice none 0 0) rfl
      have hlv := lives_any W6 (HT.out.ext HE6.out)
      have hB31 := heap_ext HE46.out hB31
      have h4 := heap_ext HE46.out h4
      clear hst e5 g6 hE56 h6
      have hrs := hrs W6 HE46.out
      unfold StQ stT at hrs
      dsimp only at hrs
      go_upto_region 7 with (first
        | (with_reducible refine wpList_load_row rfl 31 _ rfl d rfl 31 _ (0, 0) _ hB31 Tryd.underlying31 rfl (by kernel_rfl) ?_)
        | (with_reducible refine wpList_load_row rfl 34 _ rfl b16 rfl 34 _ (0, 0) _ h4 Tryd.underlying34 rfl (by kernel_rfl) ?_)
        | ((with_reducible refine hrs.mono ?_); rintro e W7 ⟨A7, c7, rfl, -, -, e7⟩)
        | (with_reducible refine wpList_store_blk _ rfl 34 _ _ rfl W7.heap.size 34 _ _ rfl rfl (heap_alloc_new _ _) (by kernel_rfl) (by kernel_rfl) (by kernel_rfl) ?_; intro W8 h8 g8))
      have hE78 : Ext W7 W8 := Below.grown (alloc_ext W7 _) g8 (alloc_ext W7 _).size (fun k hk => by cases hk; exact Nat.le_refl _)
      have k0 := (e7.trans hE78).cell k0
      have k1 := (e7.trans hE78).cell k1
      have HE8 := Lib.hid (HE6.out.trans (e7.trans hE78))
      have hlv := lives_any W8 (HT.out.ext HE8.out)
      clear hB31 h4 hrs e7 hE78 h8 g8
      go_wp2_with ((with_reducible refine hlv.mono ?_); rintro e W9 ⟨rfl, e9⟩)
      go_ret
      exact ⟨rfl, HE8.out.trans e9⟩
    | some q =>
      obtain ⟨t, zs, o⟩ := q
      have hst := (hst.mono (fun _ _ h => h.1 her))
      clear her
      go_upto_region 4 with (first
        | (with_reducible refine wpList_load_row rfl 31 _ rfl d rfl 31 _ (0, 0) _ hB31 Tryd.underlying31 rfl (by kernel_rfl) ?_)
        | (with_reducible refine wpList_load_row rfl 34 _ rfl b16 rfl 34 _ (0, 0) _ h4 Tryd.underlying34 rfl (by kernel_rfl) ?_)
        | ((with_reducible refine hst.mono ?_); rintro e W5 ⟨t', zs', o', A5, hqe, rfl, hfit, e5⟩; injection hqe with hqe; injection hqe with q1 hqe; injection hqe with q2 q3; subst q1 q2 q3)
        | (with_reducible refine wpList_store_blk _ rfl 34 _ _ rfl W5.heap.size 34 _ _ rfl rfl (heap_alloc_new _ _) (by kernel_rfl) (by kernel_rfl) (by kernel_rfl) ?_; intro W6 h6 g6))
      have hE56 : Ext W5 W6 := Below.grown (alloc_ext W5 _) g6 (alloc_ext W5 _).size (fun k hk => by cases hk; exact Nat.le_refl _)
      have HE46 := Lib.hid (e5.trans hE56)
      have HE6 := Lib.hid (And.intro (HE4.out.1.trans HE46.out) (hfit.ext hE56))
      have hB31 := heap_ext HE46.out hB31
      have h4 := heap_ext HE46.out h4
      have hrs := hrs W6 HE46.out
      unfold StQ stT at hrs
      dsimp only at hrs
      have HB6 := Lib.hid h6
      clear hst e5 g6 hE56 h6 hfit
      generalize W5.heap.size = d5 at *
      go_upto_region 7 with (first
        | (with_reducible refine wpList_load_row rfl 31 _ rfl d rfl 31 _ (0, 0) _ hB31 Tryd.underlying31 rfl (by kernel_rfl) ?_)
        | (with_reducible refine wpList_load_row rfl 34 _ rfl b16 rfl 34 _ (0, 0) _ h4 Tryd.underlying34 rfl (by kernel_rfl) ?_)
        | ((with_reducible refine hrs.mono ?_); rintro e W7 ⟨A7, c7, rfl, hI7, -, e7⟩)
        | (with_reducible refine wpList_store_blk _ rfl 34 _ _ rfl W7.heap.size 34 _ _ rfl rfl (heap_alloc_new _ _) (by kernel_rfl) (by kernel_rfl) (by kernel_rfl) ?_; intro W8 h8 g8))
      have hE78 : Ext W7 W8 := Below.grown (alloc_ext W7 _) g8 (alloc_ext W7 _).size (fun k hk => by cases hk; exact Nat.le_refl _)
      have HE8 := Lib.hid (HE6.out.1.trans (e7.trans hE78))
      have h6 := heap_ext (e7.trans hE78) HB6.out
      have hF8 := HE6.out.2.ext (e7.trans hE78)
      have hI8 := hI7.ext hE78
      have hsm := refSame_any W8 t t _ _ zs zs _ _ (show IntsC W8 _ zs _ from hF8) hI8
      rw [show (t == t && zs == zs) = true by simp] at hsm
      have j0 := cell_of_blk h6 0 (u := .int .i64 t) rfl
      have l0 := cell_of_blk h8 0 (u := .int .i64 t) rfl
      have j1 := cell_of_blk h6 1 (u := .slice A5 zs.length zs.length) rfl
      have k1 := cell_of_blk h8 1 (u := .slice A7 zs.length c7) rfl
      have hwd := fun W (e : Ext W8 W) => word_lit W A5 zs.length c7 zs _ (hF8.ext e) rfl (hI8.ext e)
      clear hB31 h4 hrs e7 hE78 g8 hF8 hI8 hI7 hlt hgt
      generalize W7.heap.size = d7 at *
      go_wp2_with (first
        | (with_reducible refine wpList_load_row rfl 34 _ rfl d5 rfl 34 _ (0, 0) _ h6 Tryd.underlying34 rfl (by kernel_rfl) ?_)
        | (with_reducible refine wpList_load_row rfl 34 _ rfl d7 rfl 34 _ (0, 0) _ h8 Tryd.underlying34 rfl (by kernel_rfl) ?_)
        | ((with_reducible refine hsm.mono ?_); rintro e W9 ⟨rfl, e9⟩; replace hwd := hwd W9 e9; replace j1 := e9.cell j1; replace k1 := e9.cell k1)
        | ((with_reducible refine hwd.mono ?_); rintro e W10 ⟨rfl, e10⟩; have hlv := lives_any W10 (HT.out.ext (HE8.out.trans (e9.trans e10))))
        | ((with_reducible refine hlv.mono ?_); rintro e W12 ⟨rfl, e12⟩))
      go_ret
      exact ⟨rfl, HE8.out.trans (e9.trans (e10.trans e12))⟩
end Go.Proofs.YtggffdkgfgdaoaaDoor
