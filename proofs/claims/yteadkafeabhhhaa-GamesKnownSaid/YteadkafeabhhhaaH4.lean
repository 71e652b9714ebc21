/- gauntletlaw32.lives 15: the examples of the chapter hold. -/
import Derived.Test.YteadkafeabhhhaaH3
import Derived.Test.YteadkafeabhhhaaH1
import Derived.Test.YteadkafeabhhhaaG4
import Derived.Test.YteadkafeabhhhaaA1
import Derived.Test.YteadkafeabhhhaaP1
import Derived.Test.YteadkafeabhhhaaS0
import Derived.Test.YteadkafeabhhhaaC2
namespace Go.Proofs.Yteadkafeabhhhaa
open Go.RowKit
set_option linter.unusedVariables false
set_option linter.unusedSimpArgs false
attribute [local go_sem] Oper.quietV quietV Oper.gives givesV ext_refl_iff ext_alloc_iff ext_drew_iff ext_drewN_iff

theorem GameV.form {w : World} {v : Value} {g : Game} (h : GameV w v g) : ∃ Ar cr Ao co As cs, v = .agg #[.int .i64 g.m.ins, .int .i64 g.m.outs, .slice Ar g.m.rows.length cr, .slice Ao g.ours.length co, .slice As g.set.length cs] := by
  obtain ⟨rv, cr, ov, co, sv, cs, rfl, hr, ho, hs⟩ := h
  obtain ⟨Ar, _, rfl, _⟩ := hr
  obtain ⟨Ao, rfl, _⟩ := ho
  obtain ⟨As, rfl, _⟩ := hs
  exact ⟨_, _, _, _, _, _, rfl⟩
theorem GameV.mach {w : World} {p q rv ov sv : Value} {g : Game} (h : GameV w (.agg #[p, q, rv, ov, sv]) g) : MachV w (.agg #[p, q, rv]) g.m ∧ (∃ co, BoolsC w ov g.ours co) ∧ (∃ cs, BoolsC w sv g.set cs) := by
  obtain ⟨rv', cr, ov', co, sv', cs, hv, hr, ho, hs⟩ := h
  cases hv
  exact ⟨⟨_, _, rfl, hr⟩, ⟨_, ho⟩, ⟨_, hs⟩⟩
theorem bools_new3 (W : World) (a b c : Bool) (t : TypeId) : BoolsC (W.alloc (.cells #[.bool a, .bool b, .bool c] t)) (.slice (some ⟨W.heap.size, 0, none⟩) 3 3) [a, b, c] 3 := bools_blk (heap_alloc_new W _) rfl rfl (by omega)
theorem bools_new2 (W : World) (a b : Bool) (t : TypeId) : BoolsC (W.alloc (.cells #[.bool a, .bool b] t)) (.slice (some ⟨W.heap.size, 0, none⟩) 2 2) [a, b] 2 := bools_blk (heap_alloc_new W _) rfl rfl (by omega)
theorem bools_cells {W : World} {b : Nat} {x y : Bool} (h0 : W.cell? ⟨b, 0, none⟩ = some (.bool x)) (h1 : W.cell? ⟨b, 1, none⟩ = some (.bool y)) : BoolsC W (.slice (some ⟨b, 0, none⟩) 2 2) [x, y] 2 :=
  ⟨_, rfl, fun _ => ⟨b, 0, rfl, World.block_lt_of_cell? _ _ h0, fun j u hu => by
    match j, hu with
    | 0, hu => cases hu; exact h0
    | 1, hu => cases hu; exact h1
    | n + 2, hu => simp at hu⟩, Nat.le_refl _, by unfold lenMax; simp⟩
theorem ints_new3 (W : World) (a b c : Int) (t : TypeId) : FitC (W.alloc (.cells #[.int .i64 a, .int .i64 b, .int .i64 c] t)) (.slice (some ⟨W.heap.size, 0, none⟩) 3 3) [a, b, c] := ints_blk (heap_alloc_new W _) rfl rfl (by omega)
theorem ints_new2 (W : World) (a b : Int) (t : TypeId) : FitC (W.alloc (.cells #[.int .i64 a, .int .i64 b] t)) (.slice (some ⟨W.heap.size, 0, none⟩) 2 2) [a, b] := ints_blk (heap_alloc_new W _) rfl rfl (by omega)

/-! What the functions answer on a valid game. -/
theorem Safe_ok (w : World) (gv : Value) (g : Game) (hg : GameV w gv g) (hc : checkG g = 0) (hl : g.m.rows.length ≤ 64) (xs : List Bool) (hx : safeG g = xs) (n : Nat) (hn : xs.length = n) : Calls Try.prog 10 #[gv] w fun e w' => ∃ A, e = .returned (.tuple #[.slice A n n, .int .i64 0]) ∧ FitB w' (.slice A n n) xs ∧ Ext w w' :=
  (Safe_any w gv g hg).mono fun e w' ⟨h, hE⟩ => by
    subst hn
    rw [if_pos hc, hx] at h
    obtain ⟨v, rfl, ho⟩ := h
    have hf := ho.fit (by rw [← hx, safeG_len]; omega)
    obtain ⟨A, rfl, _⟩ := id hf
    exact ⟨A, rfl, hf, hE⟩
theorem Ranks_ok (w : World) (gv : Value) (g : Game) (hg : GameV w gv g) (hc : checkG g = 0) (hl : g.m.rows.length ≤ 64) (xs : List Int) (hx : rankG g.m g.ours g.set = xs) (n : Nat) (hn : xs.length = n) : Calls Try.prog 11 #[gv] w fun e w' => ∃ A, e = .returned (.tuple #[.slice A n n, .int .i64 0]) ∧ FitC w' (.slice A n n) xs ∧ Ext w w' :=
  (Ranks_any w gv g hg).mono fun e w' ⟨h, hE⟩ => by
    subst hn
    rw [if_pos hc, hx] at h
    obtain ⟨v, rfl, ho⟩ := h
    have hf := ho.fit (by rw [← hx, rankG_len]; omega)
    obtain ⟨A, rfl, _⟩ := id hf
    exact ⟨A, rfl, hf, hE⟩
theorem Avoid_ok (w : World) (gv : Value) (g : Game) (hg : GameV w gv g) (hc : checkG g = 0) (xs : List Int) (hx : avoidL g = xs) (hl : xs.length ≤ 64) (n : Nat) (hn : xs.length = n) : Calls Try.prog 16 #[gv] w fun e w' => ∃ A, e = .returned (.tuple #[.slice A n n, .int .i64 0]) ∧ FitC w' (.slice A n n) xs ∧ Ext w w' :=
  (Avoid_any w gv g hg).mono fun e w' ⟨h, hE⟩ => by
    subst hn
    rw [if_pos hc, hx] at h
    obtain ⟨v, rfl, ho⟩ := h
    have hf := ho.fit (by omega)
    obtain ⟨A, rfl, _⟩ := id hf
    exact ⟨A, rfl, hf, hE⟩
theorem Attack_ok (w : World) (gv : Value) (g : Game) (hg : GameV w gv g) (hc : checkG g = 0) (xs : List Int) (hx : attackL g = xs) (hl : xs.length ≤ 64) (n : Nat) (hn : xs.length = n) : Calls Try.prog 17 #[gv] w fun e w' => ∃ A, e = .returned (.tuple #[.slice A n n, .int .i64 0]) ∧ FitC w' (.slice A n n) xs ∧ Ext w w' :=
  (Attack_any w gv g hg).mono fun e w' ⟨h, hE⟩ => by
    subst hn
    rw [if_pos hc, hx] at h
    obtain ⟨v, rfl, ho⟩ := h
    have hf := ho.fit (by omega)
    obtain ⟨A, rfl, _⟩ := id hf
    exact ⟨A, rfl, hf, hE⟩
theorem CheckAvoid_eq (w : World) (gv lv : Value) (g : Game) (hg : GameV w gv g) (l : List Int) (cl : Nat) (hl : IntsC w lv l cl) (b : Bool) (xs : List Int) (e0 : Int) (hr : avRes g l = (b, xs, e0)) (n : Nat) (hn : xs.length = n) : Calls Try.prog 20 #[gv, lv] w fun e w' => ∃ A, e = .returned (.tuple #[.bool b, .slice A n n, .int .i64 e0]) ∧ FitC w' (.slice A n n) xs ∧ Ext w w' :=
  (CheckAvoid_any w gv lv g hg l cl hl).mono fun e w' h => by
    subst hn
    rw [hr] at h
    obtain ⟨v, rfl, hf, hE⟩ := h
    obtain ⟨A, rfl, _⟩ := id hf
    exact ⟨A, rfl, hf, hE⟩
theorem CheckAttack_eq (w : World) (gv lv : Value) (g : Game) (hg : GameV w gv g) (l : List Int) (cl : Nat) (hl : IntsC w lv l cl) (b : Bool) (e0 : Int) (hr : atRes g l = (b, e0)) : Calls Try.prog 21 #[gv, lv] w fun e w' => e = .returned (.tuple #[.bool b, .int .i64 e0]) ∧ Ext w w' :=
  (CheckAttack_any w gv lv g hg l cl hl).mono fun e w' h => by rw [hr] at h; exact h
theorem Sup_eq (w : World) (mv tv bv : Value) (m : Mach) (hm : MachV w mv m) (th bad : List Bool) (ct cb : Nat) (ht : BoolsC w tv th ct) (hb : BoolsC w bv bad cb) (M : Mach) (e0 : Int) (h1 : supRes m th bad = M) (h2 : supE m th bad = e0) :
    Calls Try.prog 24 #[mv, tv, bv] w fun e w' => ∃ A, e = .returned (.tuple #[.agg #[.int .i64 M.ins, .int .i64 M.outs, .slice A M.rows.length M.rows.length], .int .i64 e0]) ∧ RowsN w.heap.size w' (.slice A M.rows.length M.rows.length) M.rows M.rows.length ∧ Ext w w' :=
  (Supervisor_any w mv tv bv m hm th bad ct cb ht hb).mono fun e w' ⟨⟨rv, he, hr⟩, hE⟩ => by
    rw [h1, h2] at he
    rw [h1] at hr
    obtain ⟨A, _, rfl, _⟩ := hr.self
    exact ⟨A, he, hr, hE⟩
theorem list_one (w : World) (v u : Value) (xs : List Int) (cb : Nat) (hv : FitC w v xs) (hu : IntsC w u xs cb) : Calls Try.prog 13 #[v, .int .i64 0, u] w fun r w' => r = .returned (.int .i64 1) ∧ Ext w w' :=
  (list_any w v u xs xs xs.length cb 0 hv hu).mono fun e w' h => ⟨by rw [h.1]; simp [b01], h.2⟩
theorem truths_one (w : World) (v u : Value) (ts : List Bool) (rs : List Int) (cr : Nat) (hv : FitB w v ts) (hu : IntsC w u rs cr) (hl : ts.length = rs.length) (h : ts = rs.map (fun r => r == 1)) : Calls Try.prog 31 #[v, .int .i64 0, u] w fun r w' => r = .returned (.int .i64 1) ∧ Ext w w' :=
  (truths_any w v u ts rs 0 ts.length cr hv hu).mono fun e w' h' => ⟨by rw [h'.1, show truthsN ts 0 ts.length rs = 1 from if_pos ⟨rfl, rfl, hl, h⟩], h'.2⟩

theorem GameV.form3 {w : World} {v : Value} {o : List Bool} (h : GameV w v (g3 o)) (hl : o.length = 3) : ∃ Ar cr Ao co As cs, v = .agg #[.int .i64 2, .int .i64 1, .slice Ar 3 cr, .slice Ao 3 co, .slice As 3 cs] := by
  obtain ⟨Ar, cr, Ao, co, As, cs, rfl⟩ := h.form
  exact ⟨Ar, cr, Ao, co, As, cs, by show Value.agg #[_, _, _, .slice Ao o.length co, _] = _; rw [hl]; rfl⟩
def o1 : List Bool := [true, true, true]
def o2 : List Bool := [false, false, false]
def o3 : List Bool := [false, true, false]
theorem g_check (o : List Bool) (h : o.length = 3) : checkG (g3 o) = 0 := by
  have h1 : checkM m3 = 0 := by decide +kernel
  have h2 : (g3 o).m = m3 := rfl
  unfold checkG cnt16
  rw [h2, h1, if_neg (by decide), if_pos ⟨h, rfl⟩]
theorem lv_s1 : safeG (g3 o1) = [true, true, false] := by decide +kernel
theorem lv_s2 : safeG (g3 o2) = [false, false, false] := by decide +kernel
theorem lv_s3 : safeG (g3 o3) = [true, true, false] := by decide +kernel
theorem lv_r1 : rankG (g3 o1).m (g3 o1).ours (g3 o1).set = [2, 1, 0] := by decide +kernel
theorem lv_r2 : rankG (g3 o2).m (g3 o2).ours (g3 o2).set = [-1, -1, 0] := by decide +kernel
theorem lv_r3 : rankG (g3 o3).m (g3 o3).ours (g3 o3).set = [-1, 1, 0] := by decide +kernel
theorem lv_a1 : avoidL (g3 o1) = [0, 1, -1] := by decide +kernel
theorem lv_a2 : attackL (g3 o1) = [0, 0, -1] := by decide +kernel
theorem lv_c1 : avRes (g3 o1) [0, 1, -1] = (true, [], 0) := by decide +kernel
theorem lv_c2 : avRes (g3 o1) [0, 0, -1] = (false, [0, 0], 0) := by decide +kernel
theorem lv_c3 : atRes (g3 o1) [0, 0, -1] = (true, 0) := by decide +kernel
theorem lv_c4 : atRes (g3 o1) [0, 1, -1] = (false, 0) := by decide +kernel
def sup3 : Mach := ⟨2, 1, [[(1, 0), (0, 0)], [(-1, -1), (0, 0)]]⟩
theorem mach_eq {a b : Mach} (h1 : a.ins = b.ins) (h2 : a.outs = b.outs) (h3 : a.rows = b.rows) : a = b := by cases a; cases b; cases h1; cases h2; cases h3; rfl
theorem lv_p1 : supRes m3 [true, false] [false, false, true] = ⟨0, 0, []⟩ := mach_eq (by decide +kernel) (by decide +kernel) (by decide +kernel)
theorem lv_p2 : supE m3 [true, false] [false, false, true] = 7 := by decide +kernel
theorem lv_p3 : supRes m3 [false, true] [false, false, true] = sup3 := mach_eq (by decide +kernel) (by decide +kernel) (by decide +kernel)
theorem lv_p4 : supE m3 [false, true] [false, false, true] = 0 := by decide +kernel

set_option maxRecDepth 100000 in
set_option maxHeartbeats 8000000 in
theorem lives_any (w : World) : Calls Try.prog 15 #[] w fun e w' => e = .returned (.bool true) ∧ Ext w w' := by
  go_enter Try.func15, Try.ntmps15
  have t1 : True := trivial
  have t2 : True := trivial
  have t3 : True := trivial
  go_upto_region 2 with (first
    | (go_at_call 36; clear t1; refine (three_any _ _ o1 3 (bools_new3 _ _ _ _ _)).mono ?_; rintro e w1 ⟨⟨g1, rfl, hg1⟩, hx1⟩; obtain ⟨Ar1, cr1, Ao1, co1, As1, cs1, rfl⟩ := hg1.form3 rfl; have hx1 := (alloc_ext _ _).trans hx1)
    | (go_at_call 36; clear t2; refine (three_any _ _ o2 3 (bools_new3 _ _ _ _ _)).mono ?_; rintro e w2 ⟨⟨g2, rfl, hg2⟩, hx2⟩; obtain ⟨Ar2, cr2, Ao2, co2, As2, cs2, rfl⟩ := hg2.form3 rfl; have hx2 := (alloc_ext _ _).trans hx2)
    | (go_at_call 36; clear t3; refine (three_any _ _ o3 3 (bools_new3 _ _ _ _ _)).mono ?_; rintro e w3 ⟨⟨g3', rfl, hg3⟩, hx3⟩; obtain ⟨Ar3, cr3, Ao3, co3, As3, cs3, rfl⟩ := hg3.form3 rfl; have hx3 := (alloc_ext _ _).trans hx3))
  refine wp_named ?_
  intro W hW
  obtain ⟨N, hN⟩ : ∃ N, N = w3.heap.size := ⟨_, rfl⟩
  have hE3 : Ext w3 W := by rw [hW]; exact alloc_ext _ _
  have k00 : ∀ w', Ext W w' → w'.cell? ⟨N, 0, none⟩ = some (.int .i64 2) := fun w' h => h.cell (by rw [hW]; simp [go_sem, hN])
  have k01 : ∀ w', Ext W w' → w'.cell? ⟨N, 1, none⟩ = some (.int .i64 1) := fun w' h => h.cell (by rw [hW]; simp [go_sem, hN])
  have k02 : ∀ w', Ext W w' → w'.cell? ⟨N, 2, none⟩ = some (.slice Ar1 3 cr1) := fun w' h => h.cell (by rw [hW]; simp [go_sem, hN])
  have k03 : ∀ w', Ext W w' → w'.cell? ⟨N, 3, none⟩ = some (.slice Ao1 3 co1) := fun w' h => h.cell (by rw [hW]; simp [go_sem, hN])
  have k04 : ∀ w', Ext W w' → w'.cell? ⟨N, 4, none⟩ = some (.slice As1 3 cs1) := fun w' h => h.cell (by rw [hW]; simp [go_sem, hN])
  have k10 : ∀ w', Ext W w' → w'.cell? ⟨N, 5, none⟩ = some (.int .i64 2) := fun w' h => h.cell (by rw [hW]; simp [go_sem, hN])
  have k11 : ∀ w', Ext W w' → w'.cell? ⟨N, 6, none⟩ = some (.int .i64 1) := fun w' h => h.cell (by rw [hW]; simp [go_sem, hN])
  have k12 : ∀ w', Ext W w' → w'.cell? ⟨N, 7, none⟩ = some (.slice Ar2 3 cr2) := fun w' h => h.cell (by rw [hW]; simp [go_sem, hN])
  have k13 : ∀ w', Ext W w' → w'.cell? ⟨N, 8, none⟩ = some (.slice Ao2 3 co2) := fun w' h => h.cell (by rw [hW]; simp [go_sem, hN])
  have k14 : ∀ w', Ext W w' → w'.cell? ⟨N, 9, none⟩ = some (.slice As2 3 cs2) := fun w' h => h.cell (by rw [hW]; simp [go_sem, hN])
  have k20 : ∀ w', Ext W w' → w'.cell? ⟨N, 10, none⟩ = some (.int .i64 2) := fun w' h => h.cell (by rw [hW]; simp [go_sem, hN])
  have k21 : ∀ w', Ext W w' → w'.cell? ⟨N, 11, none⟩ = some (.int .i64 1) := fun w' h => h.cell (by rw [hW]; simp [go_sem, hN])
  have k22 : ∀ w', Ext W w' → w'.cell? ⟨N, 12, none⟩ = some (.slice Ar3 3 cr3) := fun w' h => h.cell (by rw [hW]; simp [go_sem, hN])
  have k23 : ∀ w', Ext W w' → w'.cell? ⟨N, 13, none⟩ = some (.slice Ao3 3 co3) := fun w' h => h.cell (by rw [hW]; simp [go_sem, hN])
  have k24 : ∀ w', Ext W w' → w'.cell? ⟨N, 14, none⟩ = some (.slice As3 3 cs3) := fun w' h => h.cell (by rw [hW]; simp [go_sem, hN])
  have hE0 : Ext w W := ((hx1.trans hx2).trans hx3).trans hE3
  have hg1 : ∀ w', Ext W w' → GameV w' (.agg #[.int .i64 2, .int .i64 1, .slice Ar1 3 cr1, .slice Ao1 3 co1, .slice As1 3 cs1]) (g3 o1) := fun w' h => hg1.ext (((hx2.trans hx3).trans hE3).trans h)
  have hg2 : ∀ w', Ext W w' → GameV w' (.agg #[.int .i64 2, .int .i64 1, .slice Ar2 3 cr2, .slice Ao2 3 co2, .slice As2 3 cs2]) (g3 o2) := fun w' h => hg2.ext ((hx3.trans hE3).trans h)
  have hg3 : ∀ w', Ext W w' → GameV w' (.agg #[.int .i64 2, .int .i64 1, .slice Ar3 3 cr3, .slice Ao3 3 co3, .slice As3 3 cs3]) (g3 o3) := fun w' h => hg3.ext (hE3.trans h)
  rw [← hN]
  generalize w.heap.size = n0
  generalize w1.heap.size = n1
  generalize w2.heap.size = n2
  have hWN : N < W.heap.size := by rw [hW, hN]; simp
  clear hW hx1 hx2 hx3 hE3 hN
  go_upto_region 3 with fail
  refine wp_named ?_
  intro V hV
  have hO : OwnL W V [.blk (W.heap.size + 1 + 1 + 1 + 1 + 1 + 1 + 1) (.cells #[.slice (some ⟨W.heap.size + 1 + 1 + 1 + 1, 0, none⟩) 3 3, .slice (some ⟨W.heap.size + 1 + 1 + 1 + 1 + 1, 0, none⟩) 3 3, .slice (some ⟨W.heap.size + 1 + 1 + 1 + 1 + 1 + 1, 0, none⟩) 3 3] 37), .blk (W.heap.size + 1 + 1 + 1 + 1 + 1 + 1) (.cells #[.int .i64 (-1), .int .i64 1, .int .i64 0] 3), .blk (W.heap.size + 1 + 1 + 1 + 1 + 1) (.cells #[.int .i64 (-1), .int .i64 (-1), .int .i64 0] 3), .blk (W.heap.size + 1 + 1 + 1 + 1) (.cells #[.int .i64 2, .int .i64 1, .int .i64 0] 3), .blk (W.heap.size + 1 + 1 + 1) (.cells #[.slice (some ⟨W.heap.size, 0, none⟩) 3 3, .slice (some ⟨W.heap.size + 1, 0, none⟩) 3 3, .slice (some ⟨W.heap.size + 1 + 1, 0, none⟩) 3 3] 37), .blk (W.heap.size + 1 + 1) (.cells #[.int .i64 1, .int .i64 1, .int .i64 0] 3), .blk (W.heap.size + 1) (.cells #[.int .i64 0, .int .i64 0, .int .i64 0] 3), .blk (W.heap.size) (.cells #[.int .i64 1, .int .i64 1, .int .i64 0] 3)] := by
    have al : ∀ (W' : World) (L : List Asn) (b : Nat) (cs : Array Value) (t : TypeId), OwnL W W' L → b = W'.heap.size → OwnL W (W'.alloc (.cells cs t)) (.blk b (.cells cs t) :: L) := fun W' L b cs t h hb => h.add (alloc_ext _ _) (A := .blk b (.cells cs t)) ⟨by omega, by rw [hb]; exact heap_alloc_new _ _⟩
    rw [hV]
    exact al _ _ _ _ _ (al _ _ _ _ _ (al _ _ _ _ _ (al _ _ _ _ _ (al _ _ _ _ _ (al _ _ _ _ _ (al _ _ _ _ _ (al _ _ _ _ _ (OwnL.nil (Ext.refl W)) rfl) (by simp)) (by simp)) (by simp)) (by simp)) (by simp)) (by simp)) (by simp)
  have hEV := hO.ext
  have f0 : ∀ w', Ext V w' → FitC w' (.slice (some ⟨W.heap.size, 0, none⟩) 3 3) [1, 1, 0] := fun w' h => IntsC.ext (ints_blk (xs := [1, 1, 0]) (hO.get 7 rfl).2 rfl rfl (by omega)) h
  have f1 : ∀ w', Ext V w' → FitC w' (.slice (some ⟨W.heap.size + 1, 0, none⟩) 3 3) [0, 0, 0] := fun w' h => IntsC.ext (ints_blk (xs := [0, 0, 0]) (hO.get 6 rfl).2 rfl rfl (by omega)) h
  have f2 : ∀ w', Ext V w' → FitC w' (.slice (some ⟨W.heap.size + 1 + 1, 0, none⟩) 3 3) [1, 1, 0] := fun w' h => IntsC.ext (ints_blk (xs := [1, 1, 0]) (hO.get 5 rfl).2 rfl rfl (by omega)) h
  have c30 : ∀ w', Ext V w' → w'.cell? ⟨W.heap.size + 1 + 1 + 1, 0, none⟩ = some (.slice (some ⟨W.heap.size, 0, none⟩) 3 3) := fun w' h => h.cell (cell_of_blk (hO.get 4 rfl).2 0 (u := .slice (some ⟨W.heap.size, 0, none⟩) 3 3) rfl)
  have c31 : ∀ w', Ext V w' → w'.cell? ⟨W.heap.size + 1 + 1 + 1, 1, none⟩ = some (.slice (some ⟨W.heap.size + 1, 0, none⟩) 3 3) := fun w' h => h.cell (cell_of_blk (hO.get 4 rfl).2 1 (u := .slice (some ⟨W.heap.size + 1, 0, none⟩) 3 3) rfl)
  have c32 : ∀ w', Ext V w' → w'.cell? ⟨W.heap.size + 1 + 1 + 1, 2, none⟩ = some (.slice (some ⟨W.heap.size + 1 + 1, 0, none⟩) 3 3) := fun w' h => h.cell (cell_of_blk (hO.get 4 rfl).2 2 (u := .slice (some ⟨W.heap.size + 1 + 1, 0, none⟩) 3 3) rfl)
  have f4 : ∀ w', Ext V w' → FitC w' (.slice (some ⟨W.heap.size + 1 + 1 + 1 + 1, 0, none⟩) 3 3) [2, 1, 0] := fun w' h => IntsC.ext (ints_blk (xs := [2, 1, 0]) (hO.get 3 rfl).2 rfl rfl (by omega)) h
  have f5 : ∀ w', Ext V w' → FitC w' (.slice (some ⟨W.heap.size + 1 + 1 + 1 + 1 + 1, 0, none⟩) 3 3) [-1, -1, 0] := fun w' h => IntsC.ext (ints_blk (xs := [-1, -1, 0]) (hO.get 2 rfl).2 rfl rfl (by omega)) h
  have f6 : ∀ w', Ext V w' → FitC w' (.slice (some ⟨W.heap.size + 1 + 1 + 1 + 1 + 1 + 1, 0, none⟩) 3 3) [-1, 1, 0] := fun w' h => IntsC.ext (ints_blk (xs := [-1, 1, 0]) (hO.get 1 rfl).2 rfl rfl (by omega)) h
  have c70 : ∀ w', Ext V w' → w'.cell? ⟨W.heap.size + 1 + 1 + 1 + 1 + 1 + 1 + 1, 0, none⟩ = some (.slice (some ⟨W.heap.size + 1 + 1 + 1 + 1, 0, none⟩) 3 3) := fun w' h => h.cell (cell_of_blk (hO.get 0 rfl).2 0 (u := .slice (some ⟨W.heap.size + 1 + 1 + 1 + 1, 0, none⟩) 3 3) rfl)
  have c71 : ∀ w', Ext V w' → w'.cell? ⟨W.heap.size + 1 + 1 + 1 + 1 + 1 + 1 + 1, 1, none⟩ = some (.slice (some ⟨W.heap.size + 1 + 1 + 1 + 1 + 1, 0, none⟩) 3 3) := fun w' h => h.cell (cell_of_blk (hO.get 0 rfl).2 1 (u := .slice (some ⟨W.heap.size + 1 + 1 + 1 + 1 + 1, 0, none⟩) 3 3) rfl)
  have c72 : ∀ w', Ext V w' → w'.cell? ⟨W.heap.size + 1 + 1 + 1 + 1 + 1 + 1 + 1, 2, none⟩ = some (.slice (some ⟨W.heap.size + 1 + 1 + 1 + 1 + 1 + 1, 0, none⟩) 3 3) := fun w' h => h.cell (cell_of_blk (hO.get 0 rfl).2 2 (u := .slice (some ⟨W.heap.size + 1 + 1 + 1 + 1 + 1 + 1, 0, none⟩) 3 3) rfl)
  clear hO hV
  generalize W.heap.size + 1 + 1 + 1 + 1 + 1 + 1 + 1 = M7 at *
  generalize W.heap.size + 1 + 1 + 1 + 1 + 1 + 1 = M6 at *
  generalize W.heap.size + 1 + 1 + 1 + 1 + 1 = M5 at *
  generalize W.heap.size + 1 + 1 + 1 + 1 = M4 at *
  generalize W.heap.size + 1 + 1 + 1 = M3 at *
  generalize W.heap.size + 1 + 1 = M2 at *
  generalize W.heap.size + 1 = M1 at *
  generalize W.heap.size = M0 at *
  have k00 := fun w' (h : Ext V w') => k00 w' (hEV.trans h)
  have k01 := fun w' (h : Ext V w') => k01 w' (hEV.trans h)
  have k02 := fun w' (h : Ext V w') => k02 w' (hEV.trans h)
  have k03 := fun w' (h : Ext V w') => k03 w' (hEV.trans h)
  have k04 := fun w' (h : Ext V w') => k04 w' (hEV.trans h)
  have k10 := fun w' (h : Ext V w') => k10 w' (hEV.trans h)
  have k11 := fun w' (h : Ext V w') => k11 w' (hEV.trans h)
  have k12 := fun w' (h : Ext V w') => k12 w' (hEV.trans h)
  have k13 := fun w' (h : Ext V w') => k13 w' (hEV.trans h)
  have k14 := fun w' (h : Ext V w') => k14 w' (hEV.trans h)
  have k20 := fun w' (h : Ext V w') => k20 w' (hEV.trans h)
  have k21 := fun w' (h : Ext V w') => k21 w' (hEV.trans h)
  have k22 := fun w' (h : Ext V w') => k22 w' (hEV.trans h)
  have k23 := fun w' (h : Ext V w') => k23 w' (hEV.trans h)
  have k24 := fun w' (h : Ext V w') => k24 w' (hEV.trans h)
  have hg1 := fun w' (h : Ext V w') => hg1 w' (hEV.trans h)
  have hg2 := fun w' (h : Ext V w') => hg2 w' (hEV.trans h)
  have hg3 := fun w' (h : Ext V w') => hg3 w' (hEV.trans h)
  have hE0 := hE0.trans hEV
  have HE0 := Lib.hid hE0
  clear hEV hWN hE0
  have hEr := Ext.refl V
  go_wp2
  go_loopw [4] (fun i wr => ∃ k : Nat, k ≤ 3 ∧ i = .int .i64 k ∧ Ext V wr) (fun i _ => 3 - (intOf i).toNat)
  case atStart => exact ⟨0, by omega, rfl, hEr⟩
  case round =>
    clear hEr
    obtain ⟨k, hk, rfl, hE⟩ := hrel
    obtain ⟨W3, hW3⟩ : ∃ W, W = wr := ⟨_, rfl⟩; subst hW3
    by_cases hlt : k < 3
    · have hk3 : k = 0 ∨ k = 1 ∨ k = 2 := by omega
      --[a
      rcases hk3 with rfl | rfl | rfl
      · clear hlt hk
        go_upto_region 7 with (go_at_call 10; refine (Safe_ok _ _ (g3 o1) (hg1 _ hE) (g_check _ rfl) (by decide) _ lv_s1 3 rfl).mono ?_; rintro e wa ⟨A, rfl, fa, ea⟩)
        have hE := hE.trans ea
        go_upto_region 8 with (go_at_call 11; refine (Ranks_ok _ _ (g3 o1) (hg1 _ hE) (g_check _ rfl) (by decide) _ lv_r1 3 rfl).mono ?_; rintro e wb ⟨A', rfl, fb, eb⟩)
        have hE := hE.trans eb
        have fa : ∀ w', Ext wb w' → FitB w' _ _ := fun w' h => BoolsC.ext fa (eb.trans h)
        have fb : ∀ w', Ext wb w' → FitC w' _ _ := fun w' h => IntsC.ext fb h
        have hw : ∀ w', Ext wb w' → Ext V w' := fun w' h => hE.trans h
        go_region_held3 (fun w' => Ext V w' ∧ Ext wb w') ((first | exact ⟨hE.drew, (Ext.refl wb).drew⟩ | exact ⟨hw _ hA, hA⟩ | exact ⟨hw _ hB, hB⟩))
          ((first
            | (go_at_call 31; refine (truths_one _ _ _ _ _ 3 (fa _ (Ext.refl wb).drew) (f0 _ hE.drew) rfl rfl).mono ?_; rintro e wA ⟨rfl, hA⟩; have hA := ((Ext.refl wb).drew).trans hA)
            | (go_at_call 13; refine (list_one _ _ _ _ 3 (fb _ hA) (f4 _ (hw _ hA))).mono ?_; rintro e wB ⟨rfl, hB⟩; have hB := hA.trans hB)))
        go_wp2
        go_roundw
        case rel => exact ⟨1, by omega, rfl, hw _ hB⟩
        case measure => simp [intOf]
      · clear hlt hk
        go_upto_region 7 with (go_at_call 10; refine (Safe_ok _ _ (g3 o2) (hg2 _ hE) (g_check _ rfl) (by decide) _ lv_s2 3 rfl).mono ?_; rintro e wa ⟨A, rfl, fa, ea⟩)
        have hE := hE.trans ea
        go_upto_region 8 with (go_at_call 11; refine (Ranks_ok _ _ (g3 o2) (hg2 _ hE) (g_check _ rfl) (by decide) _ lv_r2 3 rfl).mono ?_; rintro e wb ⟨A', rfl, fb, eb⟩)
        have hE := hE.trans eb
        have fa : ∀ w', Ext wb w' → FitB w' _ _ := fun w' h => BoolsC.ext fa (eb.trans h)
        have fb : ∀ w', Ext wb w' → FitC w' _ _ := fun w' h => IntsC.ext fb h
        have hw : ∀ w', Ext wb w' → Ext V w' := fun w' h => hE.trans h
        go_region_held3 (fun w' => Ext V w' ∧ Ext wb w') ((first | exact ⟨hE.drew, (Ext.refl wb).drew⟩ | exact ⟨hw _ hA, hA⟩ | exact ⟨hw _ hB, hB⟩))
          ((first
            | (go_at_call 31; refine (truths_one _ _ _ _ _ 3 (fa _ (Ext.refl wb).drew) (f1 _ hE.drew) rfl rfl).mono ?_; rintro e wA ⟨rfl, hA⟩; have hA := ((Ext.refl wb).drew).trans hA)
            | (go_at_call 13; refine (list_one _ _ _ _ 3 (fb _ hA) (f5 _ (hw _ hA))).mono ?_; rintro e wB ⟨rfl, hB⟩; have hB := hA.trans hB)))
        go_wp2
        go_roundw
        case rel => exact ⟨2, by omega, rfl, hw _ hB⟩
        case measure => simp [intOf]
      · clear hlt hk
        go_upto_region 7 with (go_at_call 10; refine (Safe_ok _ _ (g3 o3) (hg3 _ hE) (g_check _ rfl) (by decide) _ lv_s3 3 rfl).mono ?_; rintro e wa ⟨A, rfl, fa, ea⟩)
        have hE := hE.trans ea
        go_upto_region 8 with (go_at_call 11; refine (Ranks_ok _ _ (g3 o3) (hg3 _ hE) (g_check _ rfl) (by decide) _ lv_r3 3 rfl).mono ?_; rintro e wb ⟨A', rfl, fb, eb⟩)
        have hE := hE.trans eb
        have fa : ∀ w', Ext wb w' → FitB w' _ _ := fun w' h => BoolsC.ext fa (eb.trans h)
        have fb : ∀ w', Ext wb w' → FitC w' _ _ := fun w' h => IntsC.ext fb h
        have hw : ∀ w', Ext wb w' → Ext V w' := fun w' h => hE.trans h
        go_region_held3 (fun w' => Ext V w' ∧ Ext wb w') ((first | exact ⟨hE.drew, (Ext.refl wb).drew⟩ | exact ⟨hw _ hA, hA⟩ | exact ⟨hw _ hB, hB⟩))
          ((first
            | (go_at_call 31; refine (truths_one _ _ _ _ _ 3 (fa _ (Ext.refl wb).drew) (f2 _ hE.drew) rfl rfl).mono ?_; rintro e wA ⟨rfl, hA⟩; have hA := ((Ext.refl wb).drew).trans hA)
            | (go_at_call 13; refine (list_one _ _ _ _ 3 (fb _ hA) (f6 _ (hw _ hA))).mono ?_; rintro e wB ⟨rfl, hB⟩; have hB := hA.trans hB)))
        go_wp2
        go_roundw
        case rel => exact ⟨3, by omega, rfl, hw _ hB⟩
        case measure => simp [intOf]
      --]a
    · obtain rfl : k = 3 := by omega
      clear hlt hk
      clear f0 f1 f2 f4 f5 f6 c30 c31 c32 c70 c71 c72 hg2 hg3 k10 k11 k12 k13 k14 k20 k21 k22 k23 k24
      go_upto_region 11 with (go_at_call 16; refine (Avoid_ok _ _ (g3 o1) (hg1 _ hE) (g_check _ rfl) _ lv_a1 (by decide) 3 rfl).mono ?_; rintro e wa ⟨A, rfl, fa, ea⟩)
      have hE := hE.trans ea
      go_upto_region 12 with (go_at_call 17; refine (Attack_ok _ _ (g3 o1) (hg1 _ hE) (g_check _ rfl) _ lv_a2 (by decide) 3 rfl).mono ?_; rintro e wb ⟨A', rfl, fb, eb⟩)
      have hE := hE.trans eb
      have fa := IntsC.ext fa eb
      have t1 : True := trivial
      go_upto_region 14 with (first
        | (go_at_call 13; clear t1; refine (list_one _ _ _ _ 3 (IntsC.ext fa (alloc_ext _ _)) (ints_new3 _ _ _ _ _)).mono ?_; rintro e wc ⟨rfl, ec⟩; have ec := (alloc_ext _ _).trans ec)
        | (go_at_call 13; refine (list_one _ _ _ _ 3 (IntsC.ext fb (ec.trans (alloc_ext _ _))) (ints_new3 _ _ _ _ _)).mono ?_; rintro e wd ⟨rfl, ed⟩; have ed := (alloc_ext _ _).trans ed))
      have hE := (hE.trans ec).trans ed
      clear fa fb ec ed ea eb
      go_upto_region 15 with (go_at_call 20; refine (CheckAvoid_eq _ _ _ (g3 o1) (hg1 _ (hE.trans (alloc_ext _ _))) _ 3 (ints_new3 _ _ _ _ _) _ _ _ lv_c1 0 rfl).mono ?_; rintro e we ⟨A2, rfl, fe, ee⟩; have ee := (alloc_ext _ _).trans ee)
      have hE := hE.trans ee
      go_upto_region 16 with (go_at_call 20; refine (CheckAvoid_eq _ _ _ (g3 o1) (hg1 _ (hE.trans (alloc_ext _ _))) _ 3 (ints_new3 _ _ _ _ _) _ _ _ lv_c2 2 rfl).mono ?_; rintro e wf ⟨A3, rfl, ff, ef⟩; have ef := (alloc_ext _ _).trans ef)
      have hE := hE.trans ef
      have fe := IntsC.ext fe ef
      go_upto_region 17 with (go_at_call 21; refine (CheckAttack_eq _ _ _ (g3 o1) (hg1 _ (hE.trans (alloc_ext _ _))) _ 3 (ints_new3 _ _ _ _ _) _ _ lv_c3).mono ?_; rintro e wg ⟨rfl, eg⟩; have eg := (alloc_ext _ _).trans eg)
      have hE := hE.trans eg
      have fe := IntsC.ext fe eg
      have ff := IntsC.ext ff eg
      go_upto_region 18 with (go_at_call 21; refine (CheckAttack_eq _ _ _ (g3 o1) (hg1 _ (hE.trans (alloc_ext _ _))) _ 3 (ints_new3 _ _ _ _ _) _ _ lv_c4).mono ?_; rintro e wh ⟨rfl, eh⟩; have eh := (alloc_ext _ _).trans eh)
      have hE := hE.trans eh
      have fe := IntsC.ext fe eh
      have ff := IntsC.ext ff eh
      have t1 : True := trivial
      go_upto_region 20 with (first
        | (go_at_call 13; clear t1; refine (list_one _ _ _ _ 0 fe (fit_nil _)).mono ?_; rintro e wc ⟨rfl, ec⟩)
        | (go_at_call 13; refine (list_one _ _ _ _ 2 (IntsC.ext ff (ec.trans (alloc_ext _ _))) (ints_new2 _ _ _ _)).mono ?_; rintro e wd ⟨rfl, ed⟩; have ed := (alloc_ext _ _).trans ed))
      have hE := (hE.trans ec).trans ed
      clear fe ff ec ed ee ef eg eh
      have hM : ∀ w', Ext V w' → MachV w' (.agg #[.int .i64 2, .int .i64 1, .slice Ar1 3 cr1]) m3 := fun w' h => (hg1 w' h).mach.1
      have hS : ∀ w', Ext V w' → ∃ cs, BoolsC w' (.slice As1 3 cs1) [false, false, true] cs := fun w' h => (hg1 w' h).mach.2.2
      clear hg1
      go_region_held3 (fun w' => Ext V w') ((first | exact hE.drew | exact (hE.drew).alloc _ | exact eS))
        ((go_at_call 24; refine (Sup_eq _ _ _ _ m3 (hM _ ((hE.drew).alloc _)) [true, false] _ 2 _ (bools_new2 _ _ _ _) (hS _ ((hE.drew).alloc _)).choose_spec _ _ lv_p1 lv_p2).mono ?_; rintro e wS ⟨AS, rfl, hRS, eS⟩; have eS := ((hE.drew).alloc _).trans eS))
      go_upto_region 21 with fail
      obtain ⟨wE, hwE⟩ : ∃ wE, wE = wS := ⟨_, rfl⟩
      subst hwE
      have hEE := eS
      clear hE eS hRS
      go_region_held3 (fun w' => Ext V w') ((repeat (first | exact Ext.refl _ | assumption | refine Ext.drew ?_ | refine Ext.alloc ?_ _ | (refine Ext.setCell ?_ (by have := hEE.size; simp; omega) _))))
        ((go_at_call 24; refine (Sup_eq _ _ _ _ m3 (hM _ (by repeat (first | with_reducible exact hEE | with_reducible refine Ext.drew ?_ | with_reducible refine Ext.alloc ?_ _))) [false, true] _ 2 _ (bools_cells (by simp [go_sem]) (by simp [go_sem])) (hS _ (by repeat (first | with_reducible exact hEE | with_reducible refine Ext.drew ?_ | with_reducible refine Ext.alloc ?_ _))).choose_spec _ _ lv_p3 lv_p4).mono ?_; rintro e wT ⟨AT, rfl, hRT, eT⟩; have eU : Ext V wT := Ext.trans (by repeat (first | with_reducible exact hEE | with_reducible refine Ext.drew ?_ | with_reducible refine Ext.alloc ?_ _)) eT; (first | (refine (fun (z0 : wT.cell? ⟨wE.heap.size, 0, none⟩ = some (.int .i64 0)) (z1 : wT.cell? ⟨wE.heap.size, 1, none⟩ = some (.int .i64 0)) (z2 : wT.cell? ⟨wE.heap.size, 2, none⟩ = some (.slice none 0 0)) (zf : ∀ i, wT.frozen? ⟨wE.heap.size, i, none⟩ = false) => ?_) (eT.cell ?_) (eT.cell ?_) (eT.cell ?_) (fun i => (World.frozen?_of_block (eT.block _ ?_)).trans ?_); rotate_left; (· (simp [go_sem]; done)); (· (simp [go_sem]; done)); (· (simp [go_sem]; done)); (· (first | (simp; done) | (simp; omega))); (· (simp [go_sem]; done))) | (refine (fun (z0 : wT.cell? ⟨wE.heap.size + 1, 0, none⟩ = some (.int .i64 0)) (z1 : wT.cell? ⟨wE.heap.size + 1, 1, none⟩ = some (.int .i64 0)) (z2 : wT.cell? ⟨wE.heap.size + 1, 2, none⟩ = some (.slice none 0 0)) (zf : ∀ i, wT.frozen? ⟨wE.heap.size + 1, i, none⟩ = false) => ?_) (eT.cell ?_) (eT.cell ?_) (eT.cell ?_) (fun i => (World.frozen?_of_block (eT.block _ ?_)).trans ?_); rotate_left; (· (simp [go_sem]; done)); (· (simp [go_sem]; done)); (· (simp [go_sem]; done)); (· (first | (simp; done) | (simp; omega))); (· (simp [go_sem]; done))) | skip)))
      all_goals
        go_upto_region 22 with fail
        refine wp_named ?_
        intro X hX
        first
          | (refine (fun (q0 : X.cell? ⟨wT.heap.size, 0, none⟩ = some (.int .i64 sup3.ins)) (q1 : X.cell? ⟨wT.heap.size, 1, none⟩ = some (.int .i64 sup3.outs)) (q2 : X.cell? ⟨wT.heap.size, 2, none⟩ = some (.slice AT sup3.rows.length sup3.rows.length)) => ?_) ?_ ?_ ?_; rotate_left; (· (rw [hX]; simp [go_sem]; done)); (· (rw [hX]; simp [go_sem]; done)); (· (rw [hX]; simp [go_sem]; done)))
          | (refine (fun (q0 : X.cell? ⟨wE.heap.size, 0, none⟩ = some (.int .i64 sup3.ins)) (q1 : X.cell? ⟨wE.heap.size, 1, none⟩ = some (.int .i64 sup3.outs)) (q2 : X.cell? ⟨wE.heap.size, 2, none⟩ = some (.slice AT sup3.rows.length sup3.rows.length)) => ?_) ?_ ?_ ?_; rotate_left; (· (rw [hX]; simp [go_sem, z0, z1, z2]; done)); (· (rw [hX]; simp [go_sem, z0, z1, z2]; done)); (· (rw [hX]; simp [go_sem, z0, z1, z2]; done)))
          | (refine (fun (q0 : X.cell? ⟨wE.heap.size + 1, 0, none⟩ = some (.int .i64 sup3.ins)) (q1 : X.cell? ⟨wE.heap.size + 1, 1, none⟩ = some (.int .i64 sup3.outs)) (q2 : X.cell? ⟨wE.heap.size + 1, 2, none⟩ = some (.slice AT sup3.rows.length sup3.rows.length)) => ?_) ?_ ?_ ?_; rotate_left; (· (rw [hX]; simp [go_sem, z0, z1, z2]; done)); (· (rw [hX]; simp [go_sem, z0, z1, z2]; done)); (· (rw [hX]; simp [go_sem, z0, z1, z2]; done)))
        have hEX : Ext V X := by rw [hX]; exact (by repeat (first | with_reducible exact eU | with_reducible refine Ext.alloc ?_ _ | (refine Ext.setCell ?_ (by have := hEE.size; simp; omega) _)))
        have hRX : RowsC X (.slice AT sup3.rows.length sup3.rows.length) sup3.rows sup3.rows.length := hRT X (fun b h1 h2 => by
          simp at h1
          rw [hX]
          first
            | exact (alloc_ext wT _).block b h2
            | rw [heap_setCell_other _ _ _ _ (by simp; omega), heap_setCell_other _ _ _ _ (by simp; omega), heap_setCell_other _ _ _ _ (by simp; omega)])
        have HX := Lib.hid (And.intro hEX hRX)
        clear hX hEX hRX hRT eT eU
        obtain ⟨Y, hY⟩ : ∃ Y, Y = ((((X.alloc (.cells #[.int .i64 1, .int .i64 0, .int .i64 0, .int .i64 0] 52)).alloc (.cells #[.int .i64 (-1), .int .i64 (-1), .int .i64 0, .int .i64 0] 52)).alloc (.cells #[.slice (some ⟨X.heap.size, 0, none⟩) 2 2, .slice (some ⟨X.heap.size + 1, 0, none⟩) 2 2] 53)).alloc (.cells #[.int .i64 2, .int .i64 1, .slice (some ⟨X.heap.size + 1 + 1, 0, none⟩) 2 2] 29)) := ⟨_, rfl⟩
        have hO : OwnL X Y [.blk (X.heap.size + 1 + 1 + 1) (.cells #[.int .i64 2, .int .i64 1, .slice (some ⟨X.heap.size + 1 + 1, 0, none⟩) 2 2] 29), .blk (X.heap.size + 1 + 1) (.cells #[.slice (some ⟨X.heap.size, 0, none⟩) 2 2, .slice (some ⟨X.heap.size + 1, 0, none⟩) 2 2] 53), .blk (X.heap.size + 1) (.cells #[.int .i64 (-1), .int .i64 (-1), .int .i64 0, .int .i64 0] 52), .blk (X.heap.size) (.cells #[.int .i64 1, .int .i64 0, .int .i64 0, .int .i64 0] 52)] := by
          have al : ∀ (W' : World) (L : List Asn) (b : Nat) (cs : Array Value) (t : TypeId), OwnL X W' L → b = W'.heap.size → OwnL X (W'.alloc (.cells cs t)) (.blk b (.cells cs t) :: L) := fun W' L b cs t h hb => h.add (alloc_ext _ _) (A := .blk b (.cells cs t)) ⟨by omega, by rw [hb]; exact heap_alloc_new _ _⟩
          rw [hY]
          exact al _ _ _ _ _ (al _ _ _ _ _ (al _ _ _ _ _ (al _ _ _ _ _ (OwnL.nil (Ext.refl X)) rfl) (by simp)) (by simp)) (by simp)
        have hrw : RowsC Y (.slice (some ⟨X.heap.size + 1 + 1, 0, none⟩) 2 2) sup3.rows 2 := rows_blk (hO.get 1 rfl).2 rfl rfl (by omega) (fun i u es hu hes => by
          match i, hu, hes with
          | 0, hu, hes => cases hu; cases hes; exact ⟨2, edges2_blk (hO.get 3 rfl).2⟩
          | 1, hu, hes => cases hu; cases hes; exact ⟨2, edges2_blk (hO.get 2 rfl).2⟩
          | n + 2, hu, hes => simp at hu)
        have p0 := cell_of_blk (hO.get 0 rfl).2 0 (u := .int .i64 2) rfl
        have p1 := cell_of_blk (hO.get 0 rfl).2 1 (u := .int .i64 1) rfl
        have p2 := cell_of_blk (hO.get 0 rfl).2 2 (u := .slice (some ⟨X.heap.size + 1 + 1, 0, none⟩) 2 2) rfl
        have q0 := hO.ext.cell q0
        have q1 := hO.ext.cell q1
        have q2 := hO.ext.cell q2
        have HY := Lib.hid (And.intro hY (And.intro hO.ext hrw))
        clear hY hO hrw
        go_upto_region 23 with fail
        rw [← HY.out.1]
        have hms := msame_any Y (.agg #[.int .i64 sup3.ins, .int .i64 sup3.outs, .slice AT sup3.rows.length sup3.rows.length]) (.agg #[.int .i64 2, .int .i64 1, .slice (some ⟨X.heap.size + 1 + 1, 0, none⟩) 2 2]) sup3 sup3 ⟨_, _, rfl, HX.out.2.ext HY.out.2.1⟩ ⟨_, 2, rfl, HY.out.2.2⟩
        rw [show sameM sup3 sup3 = true by decide +kernel] at hms
        go_wp2_with (go_at_call 26; refine hms.mono ?_; rintro e wz ⟨rfl, ez⟩)
        go_ret
        exact ⟨rfl, ((HE0.out.trans HX.out.1).trans HY.out.2.1).trans ez⟩
#print axioms lives_any
end Go.Proofs.Yteadkafeabhhhaa
