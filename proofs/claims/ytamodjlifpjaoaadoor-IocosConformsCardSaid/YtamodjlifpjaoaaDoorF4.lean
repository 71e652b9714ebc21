/- IocosConforms 4. -/
import Derived.Test.YtamodjlifpjaoaaDoorF3
import Derived.Test.YtamodjlifpjaoaaDoorCT
import Derived.Test.YtamodjlifpjaoaaDoorZ1
import Derived.Test.YtamodjlifpjaoaaDoorGG
import Derived.Test.YtamodjlifpjaoaaDoorGJ
import Derived.Test.YtamodjlifpjaoaaDoorGL
import Derived.Test.YtamodjlifpjaoaaDoorGE
namespace Go.Proofs.YtamodjlifpjaoaaDoor
open Go.RowKit
set_option linter.unusedVariables false
set_option linter.unusedSimpArgs false
attribute [local go_sem] Oper.quietV quietV Oper.gives givesV ext_refl_iff ext_alloc_iff ext_drew_iff ext_drewN_iff
def CLawP (w : World) (e : Ending) (w' : World) : Prop := e = .returned (.bool true) ∧ Ext w w'
noncomputable def T4 (n : Nat) : Code := textR n Tryd.f4.body
theorem conf_self {x : Lts} (hcx : checkI x = 0) (h5 : x.n ≤ 5) (hacc : accB x = true) : confR x x = (true, [], 0, 0) := by
  rcases conf_two hcx hcx rfl rfl h5 h5 hacc with h | ⟨t, o, _, _, _, _, _, _, h1, h2⟩
  · exact h.2.1
  · exact absurd h2 (obsM_iff.1 h1).2
set_option maxRecDepth 100000 in
set_option maxHeartbeats 16000000 in
theorem claw_t3 (w W : World) (b7 b8 : Nat) (x y : Lts) (fl gl : Bool) (c0 c1 c2 c3 c4 c7 c8 c9 c10 c11 c12 c13 c14 c15 c16 c17 c18 c19 c20 c21 c22 c23 c24 c25 c26 c27 c28 c29 c30 c31 c32 c33 c34 c35 c36 c37 c38 c39 c40 c41 c42 c43 c44 c45 c46 c47 c48 c49 c50 c51 c52 c53 c54 c55 c56 c57 c58 c59 c60 c61 c62 c63 c64 c65 c66 c67 c68 c69 c70 c71 c72 c73 c74 c75 c76 c77 c78 c79 c80 c81 c82 c83 c84 c85 c86 c87 c88 c89 c90 c91 c92 c93 c94 c95 c96 c97 : Value) (hW : TwoV w W b7 b8 x y fl gl) (hT : Tab W) :
    Code.wp Tryd.prog (T4 3) (bodyPost Tryd.prog Tryd.f4 (CLawP w)) ⟨(c0 :: c1 :: c2 :: c3 :: c4 :: .pointer (some ⟨b7, 0, none⟩) :: .pointer (some ⟨b8, 0, none⟩) :: c7 :: c8 :: c9 :: c10 :: c11 :: c12 :: c13 :: c14 :: c15 :: c16 :: c17 :: c18 :: c19 :: c20 :: c21 :: c22 :: c23 :: c24 :: c25 :: c26 :: c27 :: c28 :: c29 :: c30 :: c31 :: c32 :: c33 :: c34 :: c35 :: c36 :: c37 :: c38 :: c39 :: c40 :: c41 :: c42 :: c43 :: c44 :: c45 :: c46 :: c47 :: c48 :: c49 :: c50 :: c51 :: c52 :: c53 :: c54 :: c55 :: c56 :: c57 :: c58 :: c59 :: c60 :: c61 :: c62 :: c63 :: c64 :: c65 :: c66 :: c67 :: c68 :: c69 :: c70 :: c71 :: c72 :: c73 :: c74 :: c75 :: c76 :: c77 :: c78 :: c79 :: c80 :: c81 :: c82 :: c83 :: c84 :: c85 :: c86 :: c87 :: c88 :: c89 :: c90 :: c91 :: c92 :: c93 :: c94 :: c95 :: c96 :: c97 :: []).toArray, []⟩ W := by
  conv => arg 2; whnf
  obtain ⟨hcx, hcy, hnx, hny, _⟩ := hW.good
  obtain ⟨hin, hout, hOx, hOy⟩ := hW.labs
  have hgx := check_good hcx
  have hgy := check_good hcy
  have HX := Lib.hid hW
  obtain ⟨pA, pc, p0, p1, p2, pS⟩ := hW.bx
  have p0 := fun w' (h : Ext W w') => h.cell p0
  have p1 := fun w' (h : Ext W w') => h.cell p1
  have p2 := fun w' (h : Ext W w') => h.cell p2
  obtain ⟨qA, qc, q0, q1, q2, qS⟩ := hW.bz
  have q0 := fun w' (h : Ext W w') => h.cell q0
  have q1 := fun w' (h : Ext W w') => h.cell q1
  have q2 := fun w' (h : Ext W w') => h.cell q2
  have hE0 := Ext.refl W
  have hcf := Conforms_any W _ _ x y pS qS hT
  have hac := fun W' (e : Ext W W') => refAccepts_any W' _ x (pS.ext e) hgx
  have hrc := fun W' (e : Ext W W') => refConforms_any W' _ _ x y (pS.ext e) (qS.ext e) hgx hgy hnx hny hin hout
  have hcs := fun W' (e : Ext W W') => Conforms_any W' _ _ x x (pS.ext e) (pS.ext e) (hT.ext e)
  have hlv := fun W' (e : Ext W W') => lives_any W' (hT.ext e)
  cases hacc : accB x with
  | false =>
    have hcr : confR x y = (false, [], 0, 9) := by
      unfold confR
      rw [if_neg (by simpa using hcx), if_neg (by simpa using hcy), if_neg (by simp [hin, hout]), if_pos (by rw [hacc]; rfl)]
    rw [hcr] at hcf
    unfold ConfP at hcf
    rw [hacc, show b01 false = 0 from rfl] at hac
    clear hW hT hcx hcy hnx hny hin hout hOx hOy hgx hgy pS qS hacc hrc hcs hcr
    go_upto_region 4 with ((with_reducible refine hcf.mono ?_); rintro e W5 ⟨tv, rfl, ⟨A5, rfl, _⟩, e5⟩)
    have hac5 := hac W5 e5
    have p0 := fun w' (h : Ext W5 w') => p0 w' (e5.trans h)
    have p1 := fun w' (h : Ext W5 w') => p1 w' (e5.trans h)
    have p2 := fun w' (h : Ext W5 w') => p2 w' (e5.trans h)
    have hE5 := Ext.refl W5
    have H5 := Lib.hid e5
    clear hcf hac e5 hE0
    go_wp2_with (first
      | ((with_reducible refine hac5.mono ?_); rintro e W6 ⟨rfl, e6⟩; have hlv6 := hlv W6 (H5.out.trans e6))
      | ((with_reducible refine hlv6.mono ?_); rintro e W7 ⟨rfl, e7⟩))
    go_ret
    exact ⟨rfl, HX.out.ext.trans (H5.out.trans (e6.trans e7))⟩
  | true =>
    rw [hacc, show b01 true = 1 from rfl] at hac
    rw [conf_self hcx hnx hacc] at hcs
    have h2 : ∃ (b : Bool) (z : Int) (t : List Int) (o : Int), confR x y = (b, t, o, 0) ∧ refConf x y = (z, t, o) ∧ t.length ≤ 1024 ∧ ((b = true ∧ z = 1) ∨ (b = false ∧ z = 0)) := by
      rcases conf_two hcx hcy hin hout hnx hny hacc with ⟨_, h1, h2⟩ | ⟨t, o, h1, h2, _, h3, _⟩
      · exact ⟨true, 1, [], 0, h1, h2, by simp, .inl ⟨rfl, rfl⟩⟩
      · exact ⟨false, 0, t, o, h1, h2, h3, .inr ⟨rfl, rfl⟩⟩
    obtain ⟨b, z, t, o, h1, h2, h3, h4⟩ := h2
    rw [h1] at hcf
    rw [h2] at hrc
    unfold ConfP at hcf
    clear hW hT hcx hcy hnx hny hin hout hOx hOy hgx hgy pS qS hacc h1 h2
    go_upto_region 4 with ((with_reducible refine hcf.mono ?_); rintro e W5 ⟨tv, rfl, hf5, e5⟩)
    have hac5 := hac W5 e5
    have p0 := fun w' (h : Ext W5 w') => p0 w' (e5.trans h)
    have p1 := fun w' (h : Ext W5 w') => p1 w' (e5.trans h)
    have p2 := fun w' (h : Ext W5 w') => p2 w' (e5.trans h)
    have q0 := fun w' (h : Ext W5 w') => q0 w' (e5.trans h)
    have q1 := fun w' (h : Ext W5 w') => q1 w' (e5.trans h)
    have q2 := fun w' (h : Ext W5 w') => q2 w' (e5.trans h)
    have hE5 := Ext.refl W5
    have H5 := Lib.hid (And.intro hf5 e5)
    clear hcf hac e5 hE0 hf5
    go_upto_region 6 with ((with_reducible refine hac5.mono ?_); rintro e W6 ⟨rfl, e6⟩)
    have hrc6 := hrc W6 (H5.out.2.trans e6)
    have p0 := fun w' (h : Ext W6 w') => p0 w' (e6.trans h)
    have p1 := fun w' (h : Ext W6 w') => p1 w' (e6.trans h)
    have p2 := fun w' (h : Ext W6 w') => p2 w' (e6.trans h)
    have q0 := fun w' (h : Ext W6 w') => q0 w' (e6.trans h)
    have q1 := fun w' (h : Ext W6 w') => q1 w' (e6.trans h)
    have q2 := fun w' (h : Ext W6 w') => q2 w' (e6.trans h)
    have hE6 := Ext.refl W6
    have H6 := Lib.hid (And.intro (H5.out.1.ext e6) (H5.out.2.trans e6))
    clear hrc hac5 e6 hE5
    unfold RConfP at hrc6
    go_upto_region 7 with ((with_reducible refine hrc6.mono ?_); rintro e W7 ⟨rv7, c7, rfl, hi7, e7⟩)
    have hcs7 := hcs W7 (H6.out.2.trans e7)
    have p0 := fun w' (h : Ext W7 w') => p0 w' (e7.trans h)
    have p1 := fun w' (h : Ext W7 w') => p1 w' (e7.trans h)
    have p2 := fun w' (h : Ext W7 w') => p2 w' (e7.trans h)
    have hE7 := Ext.refl W7
    have H7 := Lib.hid (And.intro hi7 (And.intro (H6.out.1.ext e7) (H6.out.2.trans e7)))
    clear hcs hrc6 e7 hE6 q0 q1 q2 hi7
    unfold ConfP at hcs7
    go_upto_region 8 with ((with_reducible refine hcs7.mono ?_); rintro e W8 ⟨tv8, rfl, _, e8⟩)
    have H8 := Lib.hid (H7.out.2.2.trans e8)
    have hsm := sameE_any W8 tv rv7 t t _ c7 0 (H7.out.2.1.ext e8) (H7.out.1.ext e8) (by omega)
    rw [show sameB t t t.length 0 = true by simp [sameB], show b01 true = 1 from rfl] at hsm
    have hlv8 := fun W' (e : Ext W8 W') => hlv W' (H8.out.trans e)
    obtain ⟨A7, rfl, _⟩ := id H7.out.1
    obtain ⟨A5, rfl, _⟩ := id H5.out.1
    have hE8 := Ext.refl W8
    clear hcs7 p0 p1 p2 hE7 e8 hlv h3
    rcases h4 with ⟨rfl, rfl⟩ | ⟨rfl, rfl⟩
    · go_wp2_with (first
        | ((with_reducible refine hsm.mono ?_); rintro e W9 ⟨rfl, e9⟩; have hlv9 := hlv8 W9 e9)
        | ((with_reducible refine hlv9.mono ?_); rintro e W10 ⟨rfl, e10⟩))
      go_ret
      exact ⟨rfl, HX.out.ext.trans (H8.out.trans (e9.trans e10))⟩
    · go_wp2_with (first
        | ((with_reducible refine hsm.mono ?_); rintro e W9 ⟨rfl, e9⟩; have hlv9 := hlv8 W9 e9)
        | ((with_reducible refine hlv9.mono ?_); rintro e W10 ⟨rfl, e10⟩))
      go_ret
      exact ⟨rfl, HX.out.ext.trans (H8.out.trans (e9.trans e10))⟩
set_option maxRecDepth 100000 in
set_option maxHeartbeats 16000000 in
theorem iocosConforms_any (w : World) (bx by' : Value) (r s : BNum) (hb : BV w bx r) (hb2 : BV w by' s) (hT : Tab w) :
    Calls Tryd.prog 4 #[bx, by'] w fun e w' => e = .returned (.bool true) ∧ Ext w w' := by
  obtain ⟨A, c, rfl, hA, h1, h2, h3, h4, hnm⟩ := id hb
  obtain ⟨B, d, rfl, hB, j1, j2, j3, j4, jnm⟩ := id hb2
  have HX := Lib.hid (And.intro hT (And.intro hT (And.intro hA hB)))
  clear hb hb2 hT hA hB
  show Calls Tryd.prog 4 _ w (CLawP w)
  go_enter Tryd.func4, Tryd.ntmps4
  go_upto_region 1 with fail
  go_region_held3 (fun w' => w'.cell? ⟨w.heap.size, 0, none⟩ = some (.int .u8 r.i) ∧ w'.cell? ⟨w.heap.size, 1, none⟩ = some (.int .u8 r.o)) ((constructor <;> simp [go_sem])) (fail)
  go_upto_region 2 with fail
  refine wp_named ?_
  intro W1 hW1
  have hE1 : Ext w W1 := by rw [hW1]; first | exact ((Ext.refl _).alloc _).alloc _ | exact (((Ext.refl _).alloc _).alloc _).drew
  have k0 : ∀ w', Ext W1 w' → w'.cell? ⟨w.heap.size, 0, none⟩ = some (.int .u8 r.i) := fun w' h => h.cell (by rw [hW1]; simp [go_sem])
  have k1 : ∀ w', Ext W1 w' → w'.cell? ⟨w.heap.size, 1, none⟩ = some (.int .u8 r.o) := fun w' h => h.cell (by rw [hW1]; simp [go_sem])
  have k2 : ∀ w', Ext W1 w' → w'.cell? ⟨w.heap.size, 2, none⟩ = some (.int .u8 r.m) := fun w' h => h.cell (by rw [hW1]; simp [go_sem])
  have k3 : ∀ w', Ext W1 w' → w'.cell? ⟨w.heap.size, 3, none⟩ = some (.slice A r.n c) := fun w' h => h.cell (by rw [hW1]; simp [go_sem])
  have k4 : ∀ w', Ext W1 w' → w'.cell? ⟨w.heap.size, 4, none⟩ = some (.bool r.f) := fun w' h => h.cell (by rw [hW1]; simp [go_sem])
  have m0 : ∀ w', Ext W1 w' → w'.cell? ⟨w.heap.size + 1, 0, none⟩ = some (.int .u8 r.i) := fun w' h => h.cell (by rw [hW1]; simp [go_sem])
  have m1 : ∀ w', Ext W1 w' → w'.cell? ⟨w.heap.size + 1, 1, none⟩ = some (.int .u8 r.o) := fun w' h => h.cell (by rw [hW1]; simp [go_sem])
  have m2 : ∀ w', Ext W1 w' → w'.cell? ⟨w.heap.size + 1, 2, none⟩ = some (.int .u8 s.m) := fun w' h => h.cell (by rw [hW1]; simp [go_sem])
  have m3 : ∀ w', Ext W1 w' → w'.cell? ⟨w.heap.size + 1, 3, none⟩ = some (.slice B s.n d) := fun w' h => h.cell (by rw [hW1]; simp [go_sem])
  have m4 : ∀ w', Ext W1 w' → w'.cell? ⟨w.heap.size + 1, 4, none⟩ = some (.bool s.f) := fun w' h => h.cell (by rw [hW1]; simp [go_sem])
  clear hW1
  generalize w.heap.size + 1 = b4 at *
  generalize w.heap.size = b3 at *
  have hox := fun W (e : Ext W1 W) => bOfK_any W (.agg #[.int .u8 r.i, .int .u8 r.o, .int .u8 r.m, .slice A r.n c, .bool r.f]) ⟨r.i, r.o, r.m, r.n, r.f⟩ ⟨A, c, rfl, HX.out.2.2.1.ext (hE1.trans e), h1, h2, h3, h4, hnm⟩
  have hoy := fun W (e : Ext W1 W) => bOfK_any W (.agg #[.int .u8 r.i, .int .u8 r.o, .int .u8 s.m, .slice B s.n d, .bool s.f]) ⟨r.i, r.o, s.m, s.n, s.f⟩ ⟨B, d, rfl, HX.out.2.2.2.ext (hE1.trans e), h1, h2, j3, j4, jnm⟩
  have HM := Lib.hid (And.intro (show r.i % 3 ≤ 2 by omega) (show r.o % 3 ≤ 2 by omega))
  have HE1 := Lib.hid hE1
  have hE0 := Ext.refl W1
  clear hE1
  refine Dis.wp_region_apart 6 [4, 5] (factsOf [(1, OfV (r.i % 3) (r.o % 3) r.f), (3, OfV (r.i % 3) (r.o % 3) s.f), (4, Fresh W1.heap.size #[.int .i64 0, .int .i64 0, .slice none 0 0] 28), (5, Fresh W1.heap.size #[.int .i64 0, .int .i64 0, .slice none 0 0] 28)]) (fun k => ([[], [0], [], [0, 1, 2], [], [], [0, 1, 2, 3, 4, 5], [0, 1, 2, 3, 4, 5, 6]] : List (List Nat)).getD k []) (by kernel_rfl) (by kernel_rfl) Ext.pre (fun _ _ h => h.size) (mono_cons (stays_ofV _ _ _) (mono_cons (stays_ofV _ _ _) (mono_cons (stays_fresh _ _ _) (mono_cons (stays_fresh _ _ _) (mono_nil))))) ?_
  simp only [List.take_succ_cons, List.take_zero]
  repeat (first | (with_reducible refine Dis.lexL_quiet' (v := ?_) ?_ ?_ ?_ ?_; rotate_left; (· with_reducible rfl); (· simp [factsOf]); (· intro w1 hw1 _; go_simp; with_reducible rfl); (try simp only [Act.put, List.setIfInBounds_toArray, List.set_cons_zero, List.set_cons_succ])) | (with_reducible refine Dis.lexL_skip ?_ ?_; (· simp [Region.wanted, yielded, undef]); (try simp only [Act.put, List.setIfInBounds_toArray, List.set_cons_zero, List.set_cons_succ])) | (with_reducible refine Dis.lexL_quiet (v := ?_) ?_ ?_ ?_ ?_; rotate_left; (· simp [Region.wanted, yielded, undef]); (· simp [factsOf]); (· intro w1 hw1 _; go_simp; with_reducible rfl); (try simp only [Act.put, List.setIfInBounds_toArray, List.set_cons_zero, List.set_cons_succ])))
  with_reducible refine Dis.lexL_give' (φ := ?_) ?_ ?_ ?_ ?_ ?_; rotate_left; (· with_reducible rfl); (· simp only [factsOf, Nat.reduceAdd, ↓reduceIte, Nat.reduceEqDiff]; rfl); (· decide)
  · intro w5 hw5 _
    go_simp
    refine (hox w5 hw5).mono ?_
    rintro e w6 ⟨x, A1, c1, rfl, hK, hB, e6⟩
    exact ⟨_, rfl, e6, x, A1, c1, rfl, hK, hB⟩
  rintro v1 w5 hw5 ⟨x1, A1, c1, rfl, hK1, hB1⟩ hk2
  clear hk2 hw5 hK1 hB1 w5
  generalize x1.ins = xi at *
  generalize x1.outs = xo at *
  generalize x1.rows.length = xn at *
  clear x1
  (try simp only [Act.put, List.setIfInBounds_toArray, List.set_cons_zero, List.set_cons_succ])
  repeat (first | (with_reducible refine Dis.lexL_quiet' (v := ?_) ?_ ?_ ?_ ?_; rotate_left; (· with_reducible rfl); (· simp [factsOf]); (· intro w1 hw1 _; go_simp; with_reducible rfl); (try simp only [Act.put, List.setIfInBounds_toArray, List.set_cons_zero, List.set_cons_succ])) | (with_reducible refine Dis.lexL_skip ?_ ?_; (· simp [Region.wanted, yielded, undef]); (try simp only [Act.put, List.setIfInBounds_toArray, List.set_cons_zero, List.set_cons_succ])) | (with_reducible refine Dis.lexL_quiet (v := ?_) ?_ ?_ ?_ ?_; rotate_left; (· simp [Region.wanted, yielded, undef]); (· simp [factsOf]); (· intro w1 hw1 _; go_simp; with_reducible rfl); (try simp only [Act.put, List.setIfInBounds_toArray, List.set_cons_zero, List.set_cons_succ])))
  with_reducible refine Dis.lexL_give' (φ := ?_) ?_ ?_ ?_ ?_ ?_; rotate_left; (· with_reducible rfl); (· simp only [factsOf, Nat.reduceAdd, ↓reduceIte, Nat.reduceEqDiff]; rfl); (· decide)
  · intro w5 hw5 _
    go_simp
    refine (hoy w5 hw5).mono ?_
    rintro e w6 ⟨x, A1, c1, rfl, hK, hB, e6⟩
    exact ⟨_, rfl, e6, x, A1, c1, rfl, hK, hB⟩
  rintro v3 w5 hw5 ⟨y1, A3, c3, rfl, hK1, hB1⟩ hk2
  clear hk2 hw5 hK1 hB1 w5
  generalize y1.ins = yi at *
  generalize y1.outs = yo at *
  generalize y1.rows.length = yn at *
  clear y1
  (try simp only [Act.put, List.setIfInBounds_toArray, List.set_cons_zero, List.set_cons_succ])
  with_reducible refine Dis.lexL_make' (φ := ?_) ?_ ?_ ?_ ?_; rotate_left; (· with_reducible rfl); (· simp only [factsOf, Nat.reduceAdd, ↓reduceIte, Nat.reduceEqDiff]; rfl)
  · intro w2' hw2' _
    go_simp
    exact ⟨(fresh_alloc _ _ _ _ hw2'.size).2, fun _ => ⟨_, rfl, Nat.le_refl _, by simp⟩⟩
  rintro v4 w2' hw2' ⟨b7, rfl, hb7, hblk8⟩ hk2
  clear hk2 hw2' hblk8 w2'
  (try simp only [Act.put, List.setIfInBounds_toArray, List.set_cons_zero, List.set_cons_succ])
  with_reducible refine Dis.lexL_make' (φ := ?_) ?_ ?_ ?_ ?_; rotate_left; (· with_reducible rfl); (· simp only [factsOf, Nat.reduceAdd, ↓reduceIte, Nat.reduceEqDiff]; rfl)
  · intro w2' hw2' _
    go_simp
    exact ⟨(fresh_alloc _ _ _ _ hw2'.size).2, fun _ => ⟨_, rfl, Nat.le_refl _, by simp⟩⟩
  rintro v5 w2' hw2' ⟨b8, rfl, hb8, hblk8⟩ hk2
  clear hk2 hw2' hblk8 w2'
  (try simp only [Act.put, List.setIfInBounds_toArray, List.set_cons_zero, List.set_cons_succ])
  with_reducible refine Dis.lexL_nil ?_; intro w1 hw1 hk1; simp only [List.drop_succ_cons, List.drop_zero]
  have hne := hk1.apart 4 5 (by decide) (by decide) (by decide) rfl rfl
  simp only [Dis.blkP, ne_eq, Option.some.injEq] at hne
  obtain ⟨x, A1', c1', e1, hKx, hBx⟩ := hk1.get 1 rfl rfl
  obtain ⟨rfl, rfl, rfl, rfl, rfl⟩ : xi = x.ins ∧ xo = x.outs ∧ A1 = A1' ∧ xn = x.rows.length ∧ c1 = c1' := by simpa using e1
  obtain ⟨y, A3', c3', e3, hKy, hBy⟩ := hk1.get 3 rfl rfl
  obtain ⟨rfl, rfl, rfl, rfl, rfl⟩ : yi = y.ins ∧ yo = y.outs ∧ A3 = A3' ∧ yn = y.rows.length ∧ c3 = c3' := by simpa using e3
  obtain ⟨b7', e7, _, hB7⟩ := hk1.get 4 rfl rfl
  obtain rfl : b7' = b7 := by simpa using e7.symm
  obtain ⟨b8', e8, _, hB8⟩ := hk1.get 5 rfl rfl
  obtain rfl : b8' = b8 := by simpa using e8.symm
  clear e1 e3 e7 e8 hk1 hox hoy k0 k1 k2 k3 k4 m0 m1 m2 m3 m4 hE0
  go_upto_region 999 with (first
    | (with_reducible refine stop_at2 3 ?_)
    | (with_reducible refine stop_at 3 ?_)
    | (with_reducible refine wpList_store_blk _ rfl 28 _ _ rfl b7' 28 _ _ rfl rfl hB7 (by kernel_rfl) (by kernel_rfl) (by kernel_rfl) ?_; intro w2 h2' g2; have hB8' := (g2.block b8' (lt_of_block hB8) (by simp; omega)).trans hB8)
    | (with_reducible refine wpList_store_blk _ rfl 28 _ _ rfl b8' 28 _ _ rfl rfl hB8' (by kernel_rfl) (by kernel_rfl) (by kernel_rfl) ?_; intro w3 h3' g3))
  have hTW := two_of hw1 hKx hKy hBx hBy HM.out.1 HM.out.2 hne hb7 hb8 hB7 hB8 g2 h2' g3 h3'
  have HTW := Lib.hid (And.intro hTW (HE1.out.trans hTW.ext))
  clear hTW hw1 hKx hKy hBx hBy hne hb7 hb8 hB7 hB8 hB8' g2 h2' g3 h3'
  refine ⟨?_⟩
  have hW : TwoV w w3 b7' b8' x y r.f s.f := ⟨HTW.out.2, HTW.out.1.bx, HTW.out.1.bz, HTW.out.1.lx⟩
  exact claw_t3 w w3 b7' b8' x y r.f s.f _ _ _ _ _ _ _ _ _ _ _ _ _ _ _ _ _ _ _ _ _ _ _ _ _ _ _ _ _ _ _ _ _ _ _ _ _ _ _ _ _ _ _ _ _ _ _ _ _ _ _ _ _ _ _ _ _ _ _ _ _ _ _ _ _ _ _ _ _ _ _ _ _ _ _ _ _ _ _ _ _ _ _ _ _ _ _ _ _ _ _ _ _ _ _ _ hW (HX.out.2.1.ext HTW.out.2)
end Go.Proofs.YtamodjlifpjaoaaDoor
