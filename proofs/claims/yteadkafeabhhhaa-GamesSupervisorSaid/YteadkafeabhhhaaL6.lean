/- gauntletlaw32.GamesSupervisor 6: the walk. -/
import Derived.Test.YteadkafeabhhhaaL3
import Derived.Test.YteadkafeabhhhaaS1
import Derived.Test.YteadkafeabhhhaaZ0
namespace Go.Proofs.Yteadkafeabhhhaa
open Go.RowKit
set_option linter.unusedVariables false
set_option linter.unusedSimpArgs false
attribute [local go_sem] Oper.quietV quietV Oper.gives givesV ext_refl_iff ext_alloc_iff ext_drew_iff ext_drewN_iff
attribute [local go_sem] wrap_one

theorem same_self (m : Mach) : sameM m m = true := decide_eq_true ⟨rfl, rfl, rfl⟩
theorem bits_len (o n : Nat) : (bitsL o n).length = n := bitsL_len o n
theorem bitsW_succ {o s : Nat} (ho : o < 256) : (bitsL o s).map Value.bool ++ [.bool (bits .and .u8 ((o : Int) / 2 ^ (s % 8)) 1 == 1)] = (bitsL o (s + 1)).map .bool := by
  rw [← bits_succ]
  have h4 : (o : Int) / 2 ^ (s % 8) = ((o / 2 ^ (s % 8) : Nat) : Int) := by push_cast; rfl
  rw [h4, bits_one _ (Nat.lt_of_le_of_lt (Nat.div_le_self _ _) ho)]
  rfl
theorem game_set {w : World} {p q rv ov : Value} {A : Option Addr} {n c : Nat} {g : Game} (h : GameV w (.agg #[p, q, rv, ov, .slice A n c]) g) : BoolsC w (.slice A n c) g.set c := by
  obtain ⟨_, _, cs, h1⟩ := h.mach
  obtain ⟨A', hv, h2⟩ := id h1
  injection hv with _ _ hc
  subst hc; exact h1
theorem game_rows {w : World} {p q ov sv : Value} {A : Option Addr} {n c : Nat} {g : Game} (h : GameV w (.agg #[p, q, .slice A n c, ov, sv]) g) : RowsC w (.slice A n c) g.m.rows c := by
  obtain ⟨⟨rv, c', hv, h1⟩, _, _⟩ := h.mach
  have hrv : Value.slice A n c = rv := by
    simp only [Value.agg.injEq, Array.mk.injEq, List.cons.injEq, and_true] at hv
    exact hv.2.2
  obtain ⟨A', vs, h2, h3⟩ := id h1
  rw [← hrv] at h1 h2
  injection h2 with _ _ hc
  subst hc; exact h1
theorem sup_zero6 {m : Mach} {th bad : List Bool} (h : supE m th bad ≠ 0) : supRes m th bad = ⟨0, 0, []⟩ := if_neg h
theorem fitB_first {w : World} {A : Option Addr} {n : Nat} {x : Bool} {xs : List Bool} (h : FitB w (.slice A n n) (x :: xs)) : ∃ b o, A = some ⟨b, o, none⟩ ∧ w.cell? ⟨b, o, none⟩ = some (.bool x) := by
  obtain ⟨A', hv, hc, _, _⟩ := h
  obtain ⟨b, o, hA, _, hz⟩ := hc.at_bool (k := 0) (by simp)
  injection hv with h1
  exact ⟨b, o, by rw [h1]; exact hA, hz⟩
theorem th_cells {w : World} {A : Option Addr} {n c : Nat} {th : List Bool} (h : BoolsC w (.slice A n c) th c) : Cells w A (th.map .bool) := by
  obtain ⟨A', hv, h2, _⟩ := h
  injection hv with hA
  rw [hA]; exact h2
set_option maxRecDepth 100000 in
set_option maxHeartbeats 8000000 in
theorem GamesSupervisor_any (w : World) (v : Value) (r : RawG) (hr : RawGV w v r) (inp : Nat) (hi : inp < 256) : Calls Try.prog 6 #[v, .int .u8 inp] w fun e w' => e = .returned (.bool true) ∧ Ext w w' := by
  obtain ⟨ev, c, rfl, hu, h1, h2, h3, h4, h5⟩ := id hr
  obtain ⟨i4, hi4, hz4, hs4, hb4⟩ := info_parts bool_info
  obtain ⟨i52, hi52, hz52, hs52, hb52⟩ := info_parts edge_info
  obtain ⟨i53, hi53, hz53, hs53, hb53⟩ := info_parts slices_info
  go_enter Try.func6, Try.ntmps6
  go_upto_region 1 with fail
  refine wp_named ?_
  intro W1 hW1
  have hE1 : Ext w W1 := by rw [hW1]; exact (Ext.refl _).alloc _
  have k0 : ∀ w', Ext W1 w' → w'.cell? ⟨w.heap.size, 0, none⟩ = some (.int .u8 r.m.states) := fun w' h => h.cell (by rw [hW1]; simp [go_sem])
  have k1 : ∀ w', Ext W1 w' → w'.cell? ⟨w.heap.size, 1, none⟩ = some (.int .u8 r.m.inputs) := fun w' h => h.cell (by rw [hW1]; simp [go_sem])
  have k2 : ∀ w', Ext W1 w' → w'.cell? ⟨w.heap.size, 2, none⟩ = some (.int .u8 r.m.outputs) := fun w' h => h.cell (by rw [hW1]; simp [go_sem])
  have k3 : ∀ w', Ext W1 w' → w'.cell? ⟨w.heap.size, 3, none⟩ = some (.bool r.m.part) := fun w' h => h.cell (by rw [hW1]; simp [go_sem])
  have k4 : ∀ w', Ext W1 w' → w'.cell? ⟨w.heap.size, 4, none⟩ = some ev := fun w' h => h.cell (by rw [hW1]; simp [go_sem])
  have k5 : ∀ w', Ext W1 w' → w'.cell? ⟨w.heap.size, 5, none⟩ = some (.int .u8 r.ours) := fun w' h => h.cell (by rw [hW1]; simp [go_sem])
  have k6 : ∀ w', Ext W1 w' → w'.cell? ⟨w.heap.size, 6, none⟩ = some (.int .u8 r.set) := fun w' h => h.cell (by rw [hW1]; simp [go_sem])
  clear hW1
  obtain ⟨Ae, rfl, hu2⟩ := hu
  clear hu2
  have hof := GOf_any W1 _ r (hr.ext hE1)
  have hF := game_fine r
  have hn6 := game_six r
  generalize r.game = g at hof hF hn6
  go_upto_region 2 with (go_at_call 9; refine hof.mono ?_; rintro e W2 ⟨⟨gv, rfl, hg⟩, hE2⟩; obtain ⟨Ar, cr, Ao, co, As, cs, rfl⟩ := hg.form)
  refine wp_named ?_
  intro W hW
  obtain ⟨n, hn⟩ : ∃ n, n = g.m.rows.length := ⟨_, rfl⟩
  have hol := hF.2.1
  have hsl := hF.2.2
  rw [← hn] at hol hsl hn6
  rw [hol, hsl, ← hn] at hW hg
  have hG : ∀ w', Ext W w' → GameV w' (.agg #[.int .i64 g.m.ins, .int .i64 g.m.outs, .slice Ar n cr, .slice Ao n co, .slice As n cs]) g := fun w' h => hg.ext (Ext.trans (by rw [hW]; exact alloc_ext _ _) h)
  have q0 : ∀ w', Ext W w' → w'.cell? ⟨W2.heap.size, 0, none⟩ = some (.int .i64 g.m.ins) := fun w' h => h.cell (by rw [hW]; simp [go_sem])
  have q1 : ∀ w', Ext W w' → w'.cell? ⟨W2.heap.size, 1, none⟩ = some (.int .i64 g.m.outs) := fun w' h => h.cell (by rw [hW]; simp [go_sem])
  have q2 : ∀ w', Ext W w' → w'.cell? ⟨W2.heap.size, 2, none⟩ = some (.slice Ar n cr) := fun w' h => h.cell (by rw [hW]; simp [go_sem])
  have q3 : ∀ w', Ext W w' → w'.cell? ⟨W2.heap.size, 3, none⟩ = some (.slice Ao n co) := fun w' h => h.cell (by rw [hW]; simp [go_sem])
  have q4 : ∀ w', Ext W w' → w'.cell? ⟨W2.heap.size, 4, none⟩ = some (.slice As n cs) := fun w' h => h.cell (by rw [hW]; simp [go_sem])
  have hEW : Ext w W := by rw [hW]; exact (hE1.trans hE2).alloc _
  generalize W2.heap.size = N at *
  have HF := Lib.hid (And.intro hF (And.intro hn (And.intro hol hsl)))
  have hn1 : 1 ≤ n := by have := hF.1.size; omega
  clear hW hg hof k0 k1 k2 k3 k4 k5 k6 hr hF hn hol hsl hE1 hE2 h1 h2 h3 h4 h5
  have HEW := Lib.hid hEW
  have hEE := Ext.refl W
  clear hEW
  obtain ⟨a, ha⟩ := Int.eq_ofNat_of_zero_le (show 0 ≤ g.m.ins by have := HF.out.1.1.ins; omega)
  have ha16 : 1 ≤ a ∧ a ≤ 16 := by have := HF.out.1.1.ins; omega
  have HA := Lib.hid (And.intro ha ha16)
  rw [ha] at q0
  have q0a : ∀ w', Ext W w' → w'.cell? ⟨N, 0, none⟩ = some (.int .i64 (a : Int)) := q0
  obtain ⟨ha1, ha2⟩ := ha16
  clear q0
  have hG : ∀ w', Ext W w' → GameV w' (.agg #[.int .i64 (a : Int), .int .i64 g.m.outs, .slice Ar n cr, .slice Ao n co, .slice As n cs]) g := fun w' h => by have := hG w' h; rw [ha] at this; exact this
  clear ha
  go_upto_block 0 with fail
  go_cut [6] (fun tv wx => ∃ gt ct, tv = .slice (some ⟨gt, 0, none⟩) a ct ∧ Ext W wx ∧ BoolsC wx tv (bitsL inp a) ct)
  case first =>
    go_wp2
    go_loopw [7, 6] (fun i tv wr => ∃ s : Nat, i = .int .i64 s ∧ s ≤ a ∧ Ext W wr ∧ OwnL W wr [.row 4 1 tv s ((bitsL inp s).map .bool)]) (fun i _ _ => a - (intOf i).toNat)
    case atStart => exact ⟨0, rfl, by omega, hEE, (OwnL.nil hEE).add (Ext.refl _) (A := .row 4 1 (.slice none 0 0) 0 []) (World.ownsRow_nil _ _ _ _)⟩
    case round =>
      clear hEE
      obtain ⟨s, rfl, hs, hE, hO⟩ := hrel
      obtain ⟨W3, hW3⟩ : ∃ W, W = wr := ⟨_, rfl⟩; subst hW3
      have q0w := q0a W3 hE
      by_cases hlt : s < a
      · have hltI : (s : Int) < (a : Int) := by omega
        have hown : W3.ownsRow W.heap.size 4 1 u6 s ((bitsL inp s).map .bool) := hO.get 0 rfl
        have hszx := hE.size
        have HB := Lib.hid (bitsW_succ (o := inp) (s := s) hi)
        go_wp2_with (at_builtin; refine wpList_append_own2 rfl _ _ 30 rfl W.heap.size 4 i4 (.bool false) 1 1 Try.underlying30 hi4 hz4 hs4 hb4 rfl (by decide) u6 s _ rfl (World.ownsRow.alloc hown _) ⟨W3.heap.size, 0, none⟩ 1 1 [.bool (bits .and .u8 ((inp : Int) / 2 ^ (s % 8)) 1 == 1)] rfl rfl (cells_new _ #[.bool (bits .and .u8 ((inp : Int) / 2 ^ (s % 8)) 1 == 1)] _) (one_bool _) (by unfold maxLen; omega) (by omega) (by simp; omega) ?_; intro v6 w6 hown6 hg6 hb6)
        go_roundw
        case rel =>
          rw [HB.out] at hown6
          have h1 := (hO.trans (alloc_ext _ _)).app 0 rfl hg6 hown6 hb6
          exact ⟨s + 1, by go_num, by omega, h1.ext, h1⟩
        case measure => simp [intOf]; omega
      · have hse : s = a := by omega
        subst hse
        have hnI : ¬ (s : Int) < (s : Int) := by omega
        go_wp2
        go_meet
        have ho := (hO.get 0 rfl : W3.ownsRow W.heap.size 4 1 u6 s ((bitsL inp s).map .bool))
        obtain ⟨gt, ct, rfl⟩ := ownsRow_pos ho (by omega)
        obtain ⟨c2, hb2⟩ := bools_of_owns ho (bitsL_len _ _) (by unfold lenMax; omega)
        obtain ⟨A2, hA2, hrest⟩ := id hb2
        rw [bitsL_len] at hA2
        cases hA2
        exact ⟨gt, ct, rfl, hE, hb2⟩
  case rest =>
    obtain ⟨gt, ct, rfl, hE, hbt⟩ := hcut
    obtain ⟨W4, hW4⟩ : ∃ W, W = wc := ⟨_, rfl⟩; subst hW4
    obtain ⟨th, hth⟩ : ∃ th, th = bitsL inp a := ⟨_, rfl⟩
    have htl : th.length = a := by rw [hth]; exact bitsL_len _ _
    rw [← hth] at hbt
    clear hth hEE
    have hM4 : ∀ w', Ext W4 w' → MachV w' (.agg #[.int .i64 (a : Int), .int .i64 g.m.outs, .slice Ar n cr]) g.m := fun w' h => (hG w' (hE.trans h)).mach.1
    have hT4 : ∀ w', Ext W4 w' → BoolsC w' (.slice (some ⟨gt, 0, none⟩) a ct) th ct := fun w' h => hbt.ext h
    have hS4 : ∀ w', Ext W4 w' → BoolsC w' (.slice As n cs) g.set cs := fun w' h => game_set (hG w' (hE.trans h))
    have p0 : ∀ w', Ext W4 w' → w'.cell? ⟨N, 0, none⟩ = some (.int .i64 (a : Int)) := fun w' h => q0a w' (hE.trans h)
    have p1 : ∀ w', Ext W4 w' → w'.cell? ⟨N, 1, none⟩ = some (.int .i64 g.m.outs) := fun w' h => q1 w' (hE.trans h)
    have p2 : ∀ w', Ext W4 w' → w'.cell? ⟨N, 2, none⟩ = some (.slice Ar n cr) := fun w' h => q2 w' (hE.trans h)
    have p4 : ∀ w', Ext W4 w' → w'.cell? ⟨N, 4, none⟩ = some (.slice As n cs) := fun w' h => q4 w' (hE.trans h)
    have HR4 := Lib.hid (game_rows (hG W4 hE))
    have hca : (th.length : Int) = g.m.ins := by rw [htl]; exact HA.out.1.symm
    have hcs : g.set.length = g.m.rows.length := HF.out.1.2.2
    have HTL := Lib.hid (And.intro htl hcs)
    have hs25 := fun w' (h : Ext W4 w') => refSupervisor_any w' _ _ _ g.m HF.out.1.1 (hM4 w' h) th g.set ct cs (hT4 w' h) (hS4 w' h) hca hcs
    have hsE : supE g.m th g.set = if (dropL g.m th g.set).getD 0 false then 7 else 0 := by
      unfold supE
      rw [if_neg (fun h => h ((valid_iff g.m).2 HF.out.1.1)), if_neg (fun h => by rcases h with h | h; exact h hca; exact h hcs)]
    have HEW4 := Lib.hid (HEW.out.trans hE)
    have hE0 := Ext.refl W4
    cases hd : (dropL g.m th g.set).getD 0 false with
    | true =>
      --[a1
      rw [hd] at hsE
      have hs24 : ∀ w', Ext W4 w' → Calls Try.prog 24 #[.agg #[.int .i64 (a : Int), .int .i64 g.m.outs, .slice Ar n cr], .slice (some ⟨gt, 0, none⟩) a ct, .slice As n cs] w' (fun e w'' => ∃ A, e = .returned (.tuple #[.agg #[.int .i64 0, .int .i64 0, .slice A 0 0], .int .i64 7]) ∧ Ext w' w'') := fun w' h =>
        (Sup_eq w' _ _ _ g.m (hM4 w' h) th g.set ct cs (hT4 w' h) (hS4 w' h) ⟨0, 0, []⟩ 7 (sup_zero6 (by rw [hsE]; decide)) hsE).mono fun e w'' ⟨A, he, _, hx⟩ => ⟨A, he, hx⟩
      have hs25b : ∀ w', Ext W4 w' → Calls Try.prog 25 #[.agg #[.int .i64 (a : Int), .int .i64 g.m.outs, .slice Ar n cr], .slice (some ⟨gt, 0, none⟩) a ct, .slice As n cs] w' (fun e w'' => (∃ A n c, e = .returned (.tuple #[.agg #[.int .i64 0, .int .i64 0, .slice A n c], .int .i64 0])) ∧ Ext w' w'') := fun w' h =>
        (hs25 w' h).mono fun e w'' ⟨⟨rv, c, he, hr⟩, hx⟩ => by
          obtain ⟨A, _, rfl, _⟩ := hr
          exact ⟨⟨A, _, c, by rw [he]; unfold refRes refOk; rw [hd]; rfl⟩, hx⟩
      clear hs25 hsE hd hca hcs htl hbt hG hM4 hT4 hS4 q0a q1 q2 q3 q4 hE
      go_upto_region 8 with (go_at_call 24; (with_reducible refine (hs24 _ hE0).mono ?_); rintro e W5 ⟨A24, rfl, e5⟩; have hE0 := hE0.trans e5)
      refine wp_named ?_
      intro W6 hW6
      have hE6 : Ext W4 W6 := by rw [hW6]; exact hE0.alloc _
      have c0 : ∀ w', Ext W6 w' → w'.cell? ⟨W5.heap.size, 0, none⟩ = some (.int .i64 0) := fun w' h => h.cell (by rw [hW6]; simp [go_sem])
      have c1 : ∀ w', Ext W6 w' → w'.cell? ⟨W5.heap.size, 1, none⟩ = some (.int .i64 0) := fun w' h => h.cell (by rw [hW6]; simp [go_sem])
      have c2 : ∀ w', Ext W6 w' → w'.cell? ⟨W5.heap.size, 2, none⟩ = some (.slice A24 0 0) := fun w' h => h.cell (by rw [hW6]; simp [go_sem])
      clear hW6 hE0
      have p0 : ∀ w', Ext W6 w' → w'.cell? ⟨N, 0, none⟩ = some (.int .i64 (a : Int)) := fun w' h => p0 w' (hE6.trans h)
      have p1 : ∀ w', Ext W6 w' → w'.cell? ⟨N, 1, none⟩ = some (.int .i64 g.m.outs) := fun w' h => p1 w' (hE6.trans h)
      have p2 : ∀ w', Ext W6 w' → w'.cell? ⟨N, 2, none⟩ = some (.slice Ar n cr) := fun w' h => p2 w' (hE6.trans h)
      have p4 : ∀ w', Ext W6 w' → w'.cell? ⟨N, 4, none⟩ = some (.slice As n cs) := fun w' h => p4 w' (hE6.trans h)
      have hE0 := Ext.refl W6
      generalize W5.heap.size = M1 at *
      go_wp2_with (first | (go_at_call 25; (with_reducible refine (hs25b _ hE6).mono ?_); rintro e W7 ⟨⟨A25, n25, c25, rfl⟩, e7⟩; have hE0 := hE0.trans e7) | (go_at_call 15; refine (lives_any _).mono ?_; rintro e wz ⟨rfl, ez⟩))
      go_ret
      exact ⟨rfl, (HEW4.out.trans hE6).trans ((hE0.alloc _).trans ez)⟩
      --]a1
    | false =>
      rw [hd] at hsE
      obtain ⟨M, hM⟩ : ∃ M, M = supM g.m th g.set := ⟨_, rfl⟩
      have hs24 : ∀ w', Ext W4 w' → Calls Try.prog 24 #[.agg #[.int .i64 (a : Int), .int .i64 g.m.outs, .slice Ar n cr], .slice (some ⟨gt, 0, none⟩) a ct, .slice As n cs] w' (fun e w'' => ∃ A, e = .returned (.tuple #[.agg #[.int .i64 M.ins, .int .i64 M.outs, .slice A M.rows.length M.rows.length], .int .i64 0]) ∧ RowsC w'' (.slice A M.rows.length M.rows.length) M.rows M.rows.length ∧ Ext w' w'') := fun w' h =>
        (Sup_eq w' _ _ _ g.m (hM4 w' h) th g.set ct cs (hT4 w' h) (hS4 w' h) M 0 (by unfold supRes; rw [hsE, hM]; rfl) hsE).mono fun e w'' ⟨A, he, hr, hx⟩ => ⟨A, he, hr.self, hx⟩
      have hs25b : ∀ w', Ext W4 w' → Calls Try.prog 25 #[.agg #[.int .i64 (a : Int), .int .i64 g.m.outs, .slice Ar n cr], .slice (some ⟨gt, 0, none⟩) a ct, .slice As n cs] w' (fun e w'' => (∃ rv c, e = .returned (.tuple #[.agg #[.int .i64 M.ins, .int .i64 M.outs, rv], .int .i64 1]) ∧ RowsC w'' rv M.rows c) ∧ Ext w' w'') := fun w' h =>
        (hs25 w' h).mono fun e w'' ⟨⟨rv, c, he, hr⟩, hx⟩ => by
          have h1 : refRes g.m th g.set = M := by unfold refRes; rw [hd, hM]; rfl
          have h2 : refOk g.m th g.set = 1 := by unfold refOk; rw [hd]; rfl
          rw [h1, h2] at he
          rw [h1] at hr
          exact ⟨⟨rv, c, he, hr⟩, hx⟩
      have HD := Lib.hid hd
      have hT9 := hT4
      clear hs25 hsE hM hd hca hcs htl hbt hG hM4 hT4 q0a q1 q2 q3 q4 hE
      go_upto_region 8 with (go_at_call 24; (with_reducible refine (hs24 _ hE0).mono ?_); rintro e W5 ⟨A24, rfl, hr24, e5⟩; have hE0 := hE0.trans e5)
      refine wp_named ?_
      intro W6 hW6
      have hE6 : Ext W4 W6 := by rw [hW6]; exact hE0.alloc _
      have hr24 := hr24.ext (show Ext W5 W6 by rw [hW6]; exact alloc_ext _ _)
      have c0 : ∀ w', Ext W6 w' → w'.cell? ⟨W5.heap.size, 0, none⟩ = some (.int .i64 M.ins) := fun w' h => h.cell (by rw [hW6]; simp [go_sem])
      have c1 : ∀ w', Ext W6 w' → w'.cell? ⟨W5.heap.size, 1, none⟩ = some (.int .i64 M.outs) := fun w' h => h.cell (by rw [hW6]; simp [go_sem])
      have c2 : ∀ w', Ext W6 w' → w'.cell? ⟨W5.heap.size, 2, none⟩ = some (.slice A24 M.rows.length M.rows.length) := fun w' h => h.cell (by rw [hW6]; simp [go_sem])
      clear hW6 hE0
      have p0 : ∀ w', Ext W6 w' → w'.cell? ⟨N, 0, none⟩ = some (.int .i64 (a : Int)) := fun w' h => p0 w' (hE6.trans h)
      have p1 : ∀ w', Ext W6 w' → w'.cell? ⟨N, 1, none⟩ = some (.int .i64 g.m.outs) := fun w' h => p1 w' (hE6.trans h)
      have p2 : ∀ w', Ext W6 w' → w'.cell? ⟨N, 2, none⟩ = some (.slice Ar n cr) := fun w' h => p2 w' (hE6.trans h)
      have p4 : ∀ w', Ext W6 w' → w'.cell? ⟨N, 4, none⟩ = some (.slice As n cs) := fun w' h => p4 w' (hE6.trans h)
      have hE0 := Ext.refl W6
      generalize W5.heap.size = B24 at *
      go_upto_region 9 with (go_at_call 25; (with_reducible refine (hs25b _ hE6).mono ?_); rintro e W7 ⟨⟨rv, c25, rfl, hr25⟩, e7⟩; obtain ⟨A25, _, rfl, _⟩ := id hr25; have hE0 := hE0.trans e7)
      refine wp_named ?_
      intro W8 hW8
      have hE8 : Ext W6 W8 := by rw [hW8]; exact hE0.alloc _
      have hr25 := hr25.ext (show Ext W7 W8 by rw [hW8]; exact alloc_ext _ _)
      have d0 : ∀ w', Ext W8 w' → w'.cell? ⟨W7.heap.size, 0, none⟩ = some (.int .i64 M.ins) := fun w' h => h.cell (by rw [hW8]; simp [go_sem])
      have d1 : ∀ w', Ext W8 w' → w'.cell? ⟨W7.heap.size, 1, none⟩ = some (.int .i64 M.outs) := fun w' h => h.cell (by rw [hW8]; simp [go_sem])
      have d2 : ∀ w', Ext W8 w' → w'.cell? ⟨W7.heap.size, 2, none⟩ = some (.slice A25 M.rows.length c25) := fun w' h => h.cell (by rw [hW8]; simp [go_sem])
      clear hW8 hE0
      have c0 : ∀ w', Ext W8 w' → w'.cell? ⟨B24, 0, none⟩ = some (.int .i64 M.ins) := fun w' h => c0 w' (hE8.trans h)
      have c1 : ∀ w', Ext W8 w' → w'.cell? ⟨B24, 1, none⟩ = some (.int .i64 M.outs) := fun w' h => c1 w' (hE8.trans h)
      have c2 : ∀ w', Ext W8 w' → w'.cell? ⟨B24, 2, none⟩ = some (.slice A24 M.rows.length M.rows.length) := fun w' h => c2 w' (hE8.trans h)
      have p0 : ∀ w', Ext W8 w' → w'.cell? ⟨N, 0, none⟩ = some (.int .i64 (a : Int)) := fun w' h => p0 w' (hE8.trans h)
      have p1 : ∀ w', Ext W8 w' → w'.cell? ⟨N, 1, none⟩ = some (.int .i64 g.m.outs) := fun w' h => p1 w' (hE8.trans h)
      have p2 : ∀ w', Ext W8 w' → w'.cell? ⟨N, 2, none⟩ = some (.slice Ar n cr) := fun w' h => p2 w' (hE8.trans h)
      have p4 : ∀ w', Ext W8 w' → w'.cell? ⟨N, 4, none⟩ = some (.slice As n cs) := fun w' h => p4 w' (hE8.trans h)
      have hE0 := Ext.refl W8
      generalize W7.heap.size = B25 at *
      have hms : ∀ w', Ext W8 w' → Calls Try.prog 26 #[.agg #[.int .i64 M.ins, .int .i64 M.outs, .slice A24 M.rows.length M.rows.length], .agg #[.int .i64 M.ins, .int .i64 M.outs, .slice A25 M.rows.length c25]] w' (fun e w'' => e = .returned (.bool true) ∧ Ext w' w'') := fun w' h => by
        have := msame_any w' _ _ M M ⟨_, _, rfl, hr24.ext (hE8.trans h)⟩ ⟨_, _, rfl, hr25.ext h⟩
        rw [same_self] at this
        exact this
      clear hs24 hs25b
      go_upto_region 13 with (go_at_call 26; (with_reducible refine (hms _ hE0).mono ?_); rintro e W9 ⟨rfl, e9⟩)
      have hE9 : Ext W4 W9 := (hE6.trans hE8).trans e9
      have HEW9 := Lib.hid (HEW4.out.trans hE9)
      have HS9 := Lib.hid (hS4 W9 hE9)
      have HR9 := Lib.hid (HR4.out.ext hE9)
      have HT9 : Hid (BoolsC W9 (.slice (some ⟨gt, 0, none⟩) a ct) th ct) := hT9 W9 hE9
      have p0 : ∀ w', Ext W9 w' → w'.cell? ⟨N, 0, none⟩ = some (.int .i64 (a : Int)) := fun w' h => p0 w' (e9.trans h)
      have p1 : ∀ w', Ext W9 w' → w'.cell? ⟨N, 1, none⟩ = some (.int .i64 g.m.outs) := fun w' h => p1 w' (e9.trans h)
      have p2 : ∀ w', Ext W9 w' → w'.cell? ⟨N, 2, none⟩ = some (.slice Ar n cr) := fun w' h => p2 w' (e9.trans h)
      have p4 : ∀ w', Ext W9 w' → w'.cell? ⟨N, 4, none⟩ = some (.slice As n cs) := fun w' h => p4 w' (e9.trans h)
      clear c0 c1 c2 d0 d1 d2 hr24 hr25 hms hE0 e9 hE9 hE8 hE6 hS4 HR4 hT9
      have hmb := mk_bools n (by omega)
      have jr := Ext.refl W9
      go_region_held3 (fun w' => Ext W9 w') ((repeat (first | exact Ext.refl _ | assumption | refine Ext.drew ?_ | refine Ext.alloc ?_ _ | (refine Ext.setCell ?_ (by simp; omega) _)))) ((fail))
      · go_upto_region 14 with fail
        refine wp_named ?_
        intro W10 hW10
        have hO : ∃ np gk, np = W9.heap.size + 1 ∧ gk = W9.heap.size ∧ OwnL W9 W10 [.rows 53 52 2 (.slice none 0 0) [] ((List.range 0).map (fun j => eRow (cutR th (g.m.row j)))), .blk np (.cells #[.int .i64 (a : Int), .int .i64 g.m.outs, (.slice none 0 0), .slice (some ⟨gk, 0, none⟩) n n, .slice As n cs] 32), .row 4 1 (.slice (some ⟨gk, 0, none⟩) n n) n (List.replicate n (.bool false))] := by
          refine ⟨W9.heap.size + 1, W9.heap.size, rfl, rfl, ?_⟩
          rw [hW10]
          refine ((((OwnL.nil (Ext.refl W9)).add (alloc_ext _ _) (A := .row 4 1 (.slice (some ⟨W9.heap.size, 0, none⟩) n n) n (List.replicate n (.bool false))) (own_new W9 (.bool false) 4 n (by omega))).add (alloc_ext _ _) (A := .blk (W9.heap.size + 1) (.cells #[.int .i64 (a : Int), .int .i64 g.m.outs, .slice none 0 0, .slice (some ⟨W9.heap.size, 0, none⟩) n n, .slice As n cs] 32)) ⟨by simp, ?_⟩).trans ((Ext.refl _).drew)).add (Ext.refl _) (A := .rows 53 52 2 (.slice none 0 0) [] []) ⟨World.ownsRow_nil _ _ _ _, rfl, fun j u r hj _ => by simp at hj, fun i j u u' hi _ _ => by simp at hi, fun j u hj => by simp at hj⟩
          have h := heap_alloc_new (W9.alloc (.cells (Array.replicate n (.bool false)) 4)) (.cells #[.int .i64 (a : Int), .int .i64 g.m.outs, .slice none 0 0, .slice (some ⟨W9.heap.size, 0, none⟩) n n, .slice As n cs] 32)
          rw [show (W9.alloc (.cells (Array.replicate n (.bool false)) 4)).heap.size = W9.heap.size + 1 by simp] at h
          exact h
        obtain ⟨np, gk, hnp, hgk, hO⟩ := hO
        clear hW10
        rw [← hnp, ← hgk]
        clear hnp hgk
        have hE10 := hO.ext
        clear hmb jr
        go_wp2
        go_loopw [13] (fun i wr => ∃ (s : Nat) (rv : Value) (vs : List Value), i = .int .i64 s ∧ s ≤ n ∧ Ext W9 wr ∧ OwnL W9 wr [.rows 53 52 2 rv vs ((List.range s).map (fun j => eRow (cutR th (g.m.row j)))), .blk np (.cells #[.int .i64 (a : Int), .int .i64 g.m.outs, rv, .slice (some ⟨gk, 0, none⟩) n n, .slice As n cs] 32), .row 4 1 (.slice (some ⟨gk, 0, none⟩) n n) n (List.replicate n (.bool false))]) (fun i _ => n - (intOf i).toNat)
        case atStart => exact ⟨0, _, _, rfl, by omega, hE10, hO⟩
        case round =>
          clear hO hE10
          obtain ⟨s, rv, vs, rfl, hsn, hE, hO⟩ := hrel
          obtain ⟨W3, hW3⟩ : ∃ W, W = wr := ⟨_, rfl⟩; subst hW3
          have p4w := p4 W3 hE
          by_cases hlt : s < n
          · have hltI : (s : Int) < (n : Int) := by omega
            have hsm : s < g.m.rows.length := by rw [← HF.out.2.1]; exact hlt
            obtain ⟨b, o, us, cu, hv, hbb, c0, hes⟩ := HR9.out.at_ hsm
            obtain rfl : Ar = some ⟨b, o, none⟩ := by injection hv
            have hre := row_eq hsm
            obtain ⟨Aw, rfl, hce, _, hme⟩ := hes
            unfold lenMax at hme
            rw [← hre] at hce hme c0
            have hlen : (g.m.row s).length = a := by
              have h1 : ((g.m.row s).length : Int) = g.m.ins := by rw [hre]; exact HF.out.1.1.len _ (List.getElem_mem hsm)
              rw [HA.out.1] at h1
              omega
            rw [hlen] at c0 hme
            have HEL := Lib.hid hlen
            have g0 : ∀ w', Ext W9 w' → w'.cell? ⟨b, o + s, none⟩ = some (.slice Aw a cu) := fun w' h => h.cell c0
            have hvl : vs.length = s := by have := (hO.get 0 rfl : OwnRows W3 W9.heap.size 53 52 2 rv vs ((List.range s).map (fun j => eRow (cutR th (g.m.row j))))).len; simpa using this
            have HVL := Lib.hid hvl
            clear hre hlen hbb hv hvl c0 p4w
            have hO0 : OwnL W9 W3 [.row 52 2 (.slice none 0 0) 0 (((List.range 0).map (cutE th (g.m.row s))).flatMap edgeCells), .rows 53 52 2 rv vs ((List.range s).map (fun j => eRow (cutR th (g.m.row j)))), .blk np (.cells #[.int .i64 (a : Int), .int .i64 g.m.outs, rv, .slice (some ⟨gk, 0, none⟩) n n, .slice As n cs] 32), .row 4 1 (.slice (some ⟨gk, 0, none⟩) n n) n (List.replicate n (.bool false))] := hO.add (Ext.refl _) (A := .row 52 2 (.slice none 0 0) 0 (((List.range 0).map (cutE th (g.m.row s))).flatMap edgeCells)) (World.ownsRow_nil _ _ _ _)
            clear hO
            go_wp2
            go_loopw [15, 14] (fun i x wr => ∃ k : Nat, k ≤ a ∧ i = .int .i64 k ∧ Ext W9 wr ∧ OwnL W9 wr [.row 52 2 x k (((List.range k).map (cutE th (g.m.row s))).flatMap edgeCells), .rows 53 52 2 rv vs ((List.range s).map (fun j => eRow (cutR th (g.m.row j)))), .blk np (.cells #[.int .i64 (a : Int), .int .i64 g.m.outs, rv, .slice (some ⟨gk, 0, none⟩) n n, .slice As n cs] 32), .row 4 1 (.slice (some ⟨gk, 0, none⟩) n n) n (List.replicate n (.bool false))]) (fun i _ _ => a - (intOf i).toNat)
            case atStart => exact ⟨0, by omega, rfl, hE, hO0⟩
            case round =>
              clear hO0 hE
              obtain ⟨k, hk, rfl, hE, hO⟩ := hrel
              obtain ⟨W5, hW5⟩ : ∃ W, W = wr := ⟨_, rfl⟩; subst hW5
              have p0w := p0 W5 hE
              by_cases hkl : k < a
              · have hkI : (k : Int) < (a : Int) := by omega
                have hir : k < (g.m.row s).length := by rw [HEL.out]; exact hkl
                obtain ⟨be, oe, hAe, _, d0, d1⟩ := hce.at_edge hir
                obtain rfl : Aw = some ⟨be, oe, none⟩ := hAe
                have d0 := hE.cell d0
                have d1 := hE.cell d1
                have hge : (g.m.row s).getD k (0, 0) = (g.m.row s)[k] := by simp [List.getD, hir]
                have hth : k < th.length := by rw [HTL.out.1]; exact hkl
                have htc := th_cells HT9.out
                obtain ⟨bt, ot, hAt, _, tc⟩ := htc.at_bool hth
                obtain ⟨rfl, rfl⟩ : gt = bt ∧ 0 = ot := by
                  injection hAt with hAt
                  injection hAt with h1 h2
                  exact ⟨h1, h2⟩
                rw [Nat.zero_add] at tc
                have tc : ∀ w', Ext W9 w' → w'.cell? ⟨gt, k, none⟩ = some (.bool th[k]) := fun w' h => h.cell tc
                have htg : th.getD k false = th[k] := by simp [List.getD, hth]
                have HGE := Lib.hid (And.intro hge htg)
                generalize (g.m.row s)[k] = xy at *
                obtain ⟨x, y⟩ := xy
                have hown : W5.ownsRow W9.heap.size 52 2 u14 k (((List.range k).map (cutE th (g.m.row s))).flatMap edgeCells) := hO.get 0 rfl
                have hszb := hE.size
                have gs := g0 W5 hE
                have k2s := p2 W5 hE
                clear hge htg hir htc hAt
                cases htk : th[k] with
                | false =>
                  rw [htk] at tc
                  have hfe : cutE th (g.m.row s) k = (-1, -1) := by unfold cutE; rw [HGE.out.2, htk]; rfl
                  have HFE := Lib.hid hfe
                  clear hfe htk
                  go_wp2_with (at_builtin; refine wpList_append_own2 rfl _ _ 53 rfl W9.heap.size 52 i52 (.agg #[.int .i64 0, .int .i64 0]) 2 16 Try.underlying53 hi52 hz52 hs52 hb52 rfl (by decide) u14 k _ rfl (World.ownsRow.alloc (World.ownsRow.alloc hown _) _) ⟨W5.heap.size + 1, 0, none⟩ 1 1 [.int .i64 (-1), .int .i64 (-1)] rfl rfl (new_cell2 _ _ _ _ _ (by simp)) (two_ints _ _) (by unfold maxLen; omega) (by omega) (by simp; omega) ?_; intro v6 w6 hown6 hg6 hb6)
                  go_roundw
                  case rel =>
                    have h1 := (hO.trans ((alloc_ext W5 _).trans (alloc_ext _ _))).app 0 rfl hg6 hown6 hb6
                    have h2 := edges_snoc (cutE th (g.m.row s)) k
                    rw [HFE.out] at h2
                    rw [h2] at h1
                    exact ⟨k + 1, by omega, by go_num, h1.ext, h1⟩
                  case measure => simp [intOf]; omega
                | true =>
                  rw [htk] at tc
                  have hfe : cutE th (g.m.row s) k = (x, y) := by unfold cutE; rw [HGE.out.2, htk, if_pos rfl]; exact HGE.out.1
                  have HFE := Lib.hid hfe
                  clear hfe htk
                  go_wp2_with (at_builtin; refine wpList_append_own2 rfl _ _ 53 rfl W9.heap.size 52 i52 (.agg #[.int .i64 0, .int .i64 0]) 2 16 Try.underlying53 hi52 hz52 hs52 hb52 rfl (by decide) u14 k _ rfl (World.ownsRow.alloc (World.ownsRow.alloc hown _) _) ⟨W5.heap.size + 1, 0, none⟩ 1 1 [.int .i64 x, .int .i64 y] rfl rfl (new_cell2 _ _ _ _ _ (by simp)) (two_ints _ _) (by unfold maxLen; omega) (by omega) (by simp; omega) ?_; intro v6 w6 hown6 hg6 hb6)
                  go_roundw
                  case rel =>
                    have h1 := (hO.trans ((alloc_ext W5 _).trans (alloc_ext _ _))).app 0 rfl hg6 hown6 hb6
                    have h2 := edges_snoc (cutE th (g.m.row s)) k
                    rw [HFE.out] at h2
                    rw [h2] at h1
                    exact ⟨k + 1, by omega, by go_num, h1.ext, h1⟩
                  case measure => simp [intOf]; omega
              · have hke : k = a := by omega
                have hkI : ¬ (k : Int) < (a : Int) := by omega
                have hO : OwnL W9 W5 [.row 52 2 u14 a (((List.range a).map (cutE th (g.m.row s))).flatMap edgeCells), .rows 53 52 2 rv vs ((List.range s).map (fun j => eRow (cutR th (g.m.row j)))), .blk np (.cells #[.int .i64 (a : Int), .int .i64 g.m.outs, rv, .slice (some ⟨gk, 0, none⟩) n n, .slice As n cs] 32), .row 4 1 (.slice (some ⟨gk, 0, none⟩) n n) n (List.replicate n (.bool false))] := by have := hO; rw [hke] at this; exact this
                obtain ⟨gr, cx, hgr⟩ := ownsRow_pos (hO.get 0 rfl : W5.ownsRow W9.heap.size 52 2 u14 a (((List.range a).map (cutE th (g.m.row s))).flatMap edgeCells)) ha1
                subst hgr
                have hOR : OwnRows W5 W9.heap.size 53 52 2 rv vs ((List.range s).map (fun j => eRow (cutR th (g.m.row j)))) := hO.get 1 rfl
                have hown := hOR.own
                rw [HVL.out] at hown
                have b2 := cell_of_blk (hO.get 2 rfl).2 2 (u := rv) rfl
                have hszb := hE.size
                obtain ⟨Arv, crv, rfl, _, _⟩ := cells_of_owns hown
                clear hOR hke
                go_wp2_with (at_builtin; refine wpList_append_own2 rfl _ _ 27 rfl W9.heap.size 53 i53 (.slice none 0 0) 1 24 Try.underlying27 hi53 hz53 hs53 hb53 rfl (by decide) (.slice Arv s crv) s vs rfl (World.ownsRow.alloc hown _) ⟨W5.heap.size, 0, none⟩ 1 1 [.slice (some ⟨gr, 0, none⟩) a cx] rfl rfl (cells_new _ #[.slice (some ⟨gr, 0, none⟩) a cx] _) (one_slice _ _ _) (by unfold maxLen; omega) (by omega) (by simp; omega) ?_; intro v6 w6 hown6 hg6 hb6; obtain ⟨g6, c6, rfl⟩ := ownsRow_pos hown6 (by omega); have hp := (hO.trans (alloc_ext W5 _)).push hg6 (by rw [HVL.out]; exact hown6) hb6; have p2' := cell_of_blk (hp.get 1 rfl).2 2 (u := .slice Arv s crv) rfl; have pf := free_of_blk (hp.get 1 rfl).2 2)
                go_roundw
                case rel =>
                  have h5 := hp.put 1 rfl 2 (.slice (some ⟨g6, 0, none⟩) (s + 1) c6)
                  have h6 : ((List.range s).map (fun j => eRow (cutR th (g.m.row j)))) ++ [(a, ((List.range a).map (cutE th (g.m.row s))).flatMap edgeCells)] = (List.range (s + 1)).map (fun j => eRow (cutR th (g.m.row j))) := by
                    rw [List.range_succ, List.map_append]
                    show _ = _ ++ [eRow (cutR th (g.m.row s))]
                    unfold eRow cutR
                    rw [List.length_map, List.length_range, HEL.out]
                  rw [h6] at h5
                  exact ⟨s + 1, _, _, by go_num, by omega, h5.ext, h5⟩
                case measure => simp [intOf]; omega
          · have hse : s = n := by omega
            have hnI : ¬ (s : Int) < (n : Int) := by omega
            have hO : OwnL W9 W3 [.rows 53 52 2 rv vs ((List.range n).map (fun j => eRow (cutR th (g.m.row j)))), .blk np (.cells #[.int .i64 (a : Int), .int .i64 g.m.outs, rv, .slice (some ⟨gk, 0, none⟩) n n, .slice As n cs] 32), .row 4 1 (.slice (some ⟨gk, 0, none⟩) n n) n (List.replicate n (.bool false))] := by have := hO; rw [hse] at this; exact this
            clear hse
            have hOR : OwnRows W3 W9.heap.size 53 52 2 rv vs ((List.range n).map (fun j => eRow (cutR th (g.m.row j)))) := hO.get 0 rfl
            obtain ⟨gv, cv, rfl⟩ := ownsRow_pos hOR.own (by have := hOR.len; simp at this; omega)
            have hvl : vs.length = n := by have := hOR.len; simpa using this
            rw [hvl] at hO hOR
            have y0 := cell_of_blk (hO.get 1 rfl).2 0 (u := .int .i64 (a : Int)) rfl
            have y1 := cell_of_blk (hO.get 1 rfl).2 1 (u := .int .i64 g.m.outs) rfl
            have y2 := cell_of_blk (hO.get 1 rfl).2 2 (u := .slice (some ⟨gv, 0, none⟩) n cv) rfl
            have y3 := cell_of_blk (hO.get 1 rfl).2 3 (u := .slice (some ⟨gk, 0, none⟩) n n) rfl
            have y4 := cell_of_blk (hO.get 1 rfl).2 4 (u := .slice As n cs) rfl
            obtain ⟨g2, hg2⟩ : ∃ g2 : Game, g2 = ⟨cutM g.m th, List.replicate g.m.rows.length false, g.set⟩ := ⟨_, rfl⟩
            have hgv : GameV W3 (.agg #[.int .i64 (a : Int), .int .i64 g.m.outs, .slice (some ⟨gv, 0, none⟩) n cv, .slice (some ⟨gk, 0, none⟩) n n, .slice As n cs]) g2 := by
              rw [hg2]
              have ho : W3.ownsRow W9.heap.size 4 1 (.slice (some ⟨gk, 0, none⟩) n n) n ((List.replicate n false).map .bool) := by rw [List.map_replicate]; exact hO.get 2 rfl
              obtain ⟨c2, hb2⟩ := bools_of_owns ho (by simp) (by unfold lenMax; omega)
              refine ⟨.slice (some ⟨gv, 0, none⟩) n cv, cv, _, c2, _, cs, by rw [show (⟨cutM g.m th, List.replicate g.m.rows.length false, g.set⟩ : Game).m.ins = (a : Int) from HA.out.1]; rfl, rowsC_of_own (B := W9.heap.size) (vs := vs) (rows := (cutM g.m th).rows) ?_ (by rw [cutM_len]; exact HF.out.2.1.symm) (by omega) (fun r hr => ?_), by rw [show (⟨cutM g.m th, List.replicate g.m.rows.length false, g.set⟩ : Game).ours = List.replicate n false by rw [HF.out.2.1]]; exact hb2, HS9.out.ext hE⟩
              · have e : (cutM g.m th).rows.map eRow = ((List.range n).map (fun j => eRow (cutR th (g.m.row j)))) := by
                  unfold cutM; simp only; rw [List.map_map, ← HF.out.2.1]; rfl
                rw [e]; exact hOR
              · unfold cutM at hr
                obtain ⟨j, _, rfl⟩ := List.mem_map.1 hr
                unfold cutR
                rw [List.length_map, List.length_range]
                have := row_le HF.out.1.1 j
                omega
            have hc2 : checkG g2 = 0 := by
              rw [hg2]
              exact (fine_iff _).2 ⟨cut_valid HF.out.1.1 th, by show (List.replicate _ _).length = _; rw [List.length_replicate]; exact (cutM_len _ _).symm, by show g.set.length = _; rw [HTL.out.2]; exact (cutM_len _ _).symm⟩
            obtain ⟨xs, hxs⟩ := sup_safe HF.out.1.1 HTL.out.2 HD.out
            rw [← hg2] at hxs
            have hl2 : g2.m.rows.length ≤ 64 := by rw [hg2]; show (cutM g.m th).rows.length ≤ 64; rw [cutM_len, ← HF.out.2.1]; omega
            obtain ⟨nx, hnx⟩ : ∃ nx, nx = (true :: xs).length := ⟨_, rfl⟩
            have hsf := Safe_ok W3 _ g2 hgv hc2 hl2 (true :: xs) hxs nx hnx.symm
            have hlp : (0 : Int) < (nx : Int) := by rw [hnx, List.length_cons]; omega
            have hn64 : nx ≤ 64 := by rw [hnx, ← hxs, safeG_len]; exact hl2
            clear hgv hc2 hxs hl2 hg2 hOR hvl p4w hnx
            go_upto_region 27 with (go_at_call 10; (with_reducible refine hsf.mono ?_); rintro e W11 ⟨A11, rfl, f11, e11⟩; have F11 := Lib.hid f11; clear f11)
            obtain ⟨b11, o11, rfl, z11⟩ := fitB_first F11.out
            clear F11
            have hlpN : 0 < nx := by omega
            go_wp2_with (go_at_call 15; refine (lives_any _).mono ?_; rintro e wz ⟨rfl, ez⟩)
            go_ret
            exact ⟨rfl, ((HEW9.out.trans hE).trans e11).trans ez⟩
      · go_upto_region 14 with fail
        refine wp_named ?_
        intro W10 hW10
        have hO : ∃ np gk, np = W9.heap.size ∧ gk = W9.heap.size + 1 ∧ OwnL W9 W10 [.rows 53 52 2 (.slice none 0 0) [] ((List.range 0).map (fun j => eRow (cutR th (g.m.row j)))), .blk np (.cells #[.int .i64 (a : Int), .int .i64 g.m.outs, (.slice none 0 0), .slice (some ⟨gk, 0, none⟩) n n, .slice As n cs] 32), .row 4 1 (.slice (some ⟨gk, 0, none⟩) n n) n (List.replicate n (.bool false))] := by
          refine ⟨W9.heap.size, W9.heap.size + 1, rfl, rfl, ?_⟩
          rw [hW10]
          have h1 := own_new (W9.alloc (.cells #[.int .i64 (a : Int), .int .i64 g.m.outs, .slice none 0 0, .slice (some ⟨W9.heap.size + 1, 0, none⟩) n n, .slice As n cs] 32)) (.bool false) 4 n (by omega)
          have h2 : OwnL W9 _ [_, _] := ((OwnL.nil (Ext.refl W9)).add (alloc_ext _ _) (A := .blk W9.heap.size (.cells #[.int .i64 (a : Int), .int .i64 g.m.outs, .slice none 0 0, .slice (some ⟨W9.heap.size + 1, 0, none⟩) n n, .slice As n cs] 32)) ⟨Nat.le_refl _, heap_alloc_new _ _⟩).add (alloc_ext _ _) (A := .row 4 1 _ n (List.replicate n (.bool false))) h1
          rw [show (W9.alloc (.cells #[.int .i64 (a : Int), .int .i64 g.m.outs, .slice none 0 0, .slice (some ⟨W9.heap.size + 1, 0, none⟩) n n, .slice As n cs] 32)).heap.size = W9.heap.size + 1 by simp] at h2
          have h3 := (h2.swap.trans ((Ext.refl _).drew)).add (Ext.refl _) (A := .rows 53 52 2 (.slice none 0 0) [] []) ⟨World.ownsRow_nil _ _ _ _, rfl, fun j u r hj _ => by simp at hj, fun i j u u' hi _ _ => by simp at hi, fun j u hj => by simp at hj⟩
          exact h3
        obtain ⟨np, gk, hnp, hgk, hO⟩ := hO
        clear hW10
        rw [← hgk, ← hnp]
        clear hnp hgk
        have hE10 := hO.ext
        clear hmb jr
        go_wp2
        go_loopw [13] (fun i wr => ∃ (s : Nat) (rv : Value) (vs : List Value), i = .int .i64 s ∧ s ≤ n ∧ Ext W9 wr ∧ OwnL W9 wr [.rows 53 52 2 rv vs ((List.range s).map (fun j => eRow (cutR th (g.m.row j)))), .blk np (.cells #[.int .i64 (a : Int), .int .i64 g.m.outs, rv, .slice (some ⟨gk, 0, none⟩) n n, .slice As n cs] 32), .row 4 1 (.slice (some ⟨gk, 0, none⟩) n n) n (List.replicate n (.bool false))]) (fun i _ => n - (intOf i).toNat)
        case atStart => exact ⟨0, _, _, rfl, by omega, hE10, hO⟩
        case round =>
          clear hO hE10
          obtain ⟨s, rv, vs, rfl, hsn, hE, hO⟩ := hrel
          obtain ⟨W3, hW3⟩ : ∃ W, W = wr := ⟨_, rfl⟩; subst hW3
          have p4w := p4 W3 hE
          by_cases hlt : s < n
          · have hltI : (s : Int) < (n : Int) := by omega
            have hsm : s < g.m.rows.length := by rw [← HF.out.2.1]; exact hlt
            obtain ⟨b, o, us, cu, hv, hbb, c0, hes⟩ := HR9.out.at_ hsm
            obtain rfl : Ar = some ⟨b, o, none⟩ := by injection hv
            have hre := row_eq hsm
            obtain ⟨Aw, rfl, hce, _, hme⟩ := hes
            unfold lenMax at hme
            rw [← hre] at hce hme c0
            have hlen : (g.m.row s).length = a := by
              have h1 : ((g.m.row s).length : Int) = g.m.ins := by rw [hre]; exact HF.out.1.1.len _ (List.getElem_mem hsm)
              rw [HA.out.1] at h1
              omega
            rw [hlen] at c0 hme
            have HEL := Lib.hid hlen
            have g0 : ∀ w', Ext W9 w' → w'.cell? ⟨b, o + s, none⟩ = some (.slice Aw a cu) := fun w' h => h.cell c0
            have hvl : vs.length = s := by have := (hO.get 0 rfl : OwnRows W3 W9.heap.size 53 52 2 rv vs ((List.range s).map (fun j => eRow (cutR th (g.m.row j))))).len; simpa using this
            have HVL := Lib.hid hvl
            clear hre hlen hbb hv hvl c0 p4w
            have hO0 : OwnL W9 W3 [.row 52 2 (.slice none 0 0) 0 (((List.range 0).map (cutE th (g.m.row s))).flatMap edgeCells), .rows 53 52 2 rv vs ((List.range s).map (fun j => eRow (cutR th (g.m.row j)))), .blk np (.cells #[.int .i64 (a : Int), .int .i64 g.m.outs, rv, .slice (some ⟨gk, 0, none⟩) n n, .slice As n cs] 32), .row 4 1 (.slice (some ⟨gk, 0, none⟩) n n) n (List.replicate n (.bool false))] := hO.add (Ext.refl _) (A := .row 52 2 (.slice none 0 0) 0 (((List.range 0).map (cutE th (g.m.row s))).flatMap edgeCells)) (World.ownsRow_nil _ _ _ _)
            clear hO
            go_wp2
            go_loopw [15, 14] (fun i x wr => ∃ k : Nat, k ≤ a ∧ i = .int .i64 k ∧ Ext W9 wr ∧ OwnL W9 wr [.row 52 2 x k (((List.range k).map (cutE th (g.m.row s))).flatMap edgeCells), .rows 53 52 2 rv vs ((List.range s).map (fun j => eRow (cutR th (g.m.row j)))), .blk np (.cells #[.int .i64 (a : Int), .int .i64 g.m.outs, rv, .slice (some ⟨gk, 0, none⟩) n n, .slice As n cs] 32), .row 4 1 (.slice (some ⟨gk, 0, none⟩) n n) n (List.replicate n (.bool false))]) (fun i _ _ => a - (intOf i).toNat)
            case atStart => exact ⟨0, by omega, rfl, hE, hO0⟩
            case round =>
              clear hO0 hE
              obtain ⟨k, hk, rfl, hE, hO⟩ := hrel
              obtain ⟨W5, hW5⟩ : ∃ W, W = wr := ⟨_, rfl⟩; subst hW5
              have p0w := p0 W5 hE
              by_cases hkl : k < a
              · have hkI : (k : Int) < (a : Int) := by omega
                have hir : k < (g.m.row s).length := by rw [HEL.out]; exact hkl
                obtain ⟨be, oe, hAe, _, d0, d1⟩ := hce.at_edge hir
                obtain rfl : Aw = some ⟨be, oe, none⟩ := hAe
                have d0 := hE.cell d0
                have d1 := hE.cell d1
                have hge : (g.m.row s).getD k (0, 0) = (g.m.row s)[k] := by simp [List.getD, hir]
                have hth : k < th.length := by rw [HTL.out.1]; exact hkl
                have htc := th_cells HT9.out
                obtain ⟨bt, ot, hAt, _, tc⟩ := htc.at_bool hth
                obtain ⟨rfl, rfl⟩ : gt = bt ∧ 0 = ot := by
                  injection hAt with hAt
                  injection hAt with h1 h2
                  exact ⟨h1, h2⟩
                rw [Nat.zero_add] at tc
                have tc : ∀ w', Ext W9 w' → w'.cell? ⟨gt, k, none⟩ = some (.bool th[k]) := fun w' h => h.cell tc
                have htg : th.getD k false = th[k] := by simp [List.getD, hth]
                have HGE := Lib.hid (And.intro hge htg)
                generalize (g.m.row s)[k] = xy at *
                obtain ⟨x, y⟩ := xy
                have hown : W5.ownsRow W9.heap.size 52 2 u14 k (((List.range k).map (cutE th (g.m.row s))).flatMap edgeCells) := hO.get 0 rfl
                have hszb := hE.size
                have gs := g0 W5 hE
                have k2s := p2 W5 hE
                clear hge htg hir htc hAt
                cases htk : th[k] with
                | false =>
                  rw [htk] at tc
                  have hfe : cutE th (g.m.row s) k = (-1, -1) := by unfold cutE; rw [HGE.out.2, htk]; rfl
                  have HFE := Lib.hid hfe
                  clear hfe htk
                  go_wp2_with (at_builtin; refine wpList_append_own2 rfl _ _ 53 rfl W9.heap.size 52 i52 (.agg #[.int .i64 0, .int .i64 0]) 2 16 Try.underlying53 hi52 hz52 hs52 hb52 rfl (by decide) u14 k _ rfl (World.ownsRow.alloc (World.ownsRow.alloc hown _) _) ⟨W5.heap.size + 1, 0, none⟩ 1 1 [.int .i64 (-1), .int .i64 (-1)] rfl rfl (new_cell2 _ _ _ _ _ (by simp)) (two_ints _ _) (by unfold maxLen; omega) (by omega) (by simp; omega) ?_; intro v6 w6 hown6 hg6 hb6)
                  go_roundw
                  case rel =>
                    have h1 := (hO.trans ((alloc_ext W5 _).trans (alloc_ext _ _))).app 0 rfl hg6 hown6 hb6
                    have h2 := edges_snoc (cutE th (g.m.row s)) k
                    rw [HFE.out] at h2
                    rw [h2] at h1
                    exact ⟨k + 1, by omega, by go_num, h1.ext, h1⟩
                  case measure => simp [intOf]; omega
                | true =>
                  rw [htk] at tc
                  have hfe : cutE th (g.m.row s) k = (x, y) := by unfold cutE; rw [HGE.out.2, htk, if_pos rfl]; exact HGE.out.1
                  have HFE := Lib.hid hfe
                  clear hfe htk
                  go_wp2_with (at_builtin; refine wpList_append_own2 rfl _ _ 53 rfl W9.heap.size 52 i52 (.agg #[.int .i64 0, .int .i64 0]) 2 16 Try.underlying53 hi52 hz52 hs52 hb52 rfl (by decide) u14 k _ rfl (World.ownsRow.alloc (World.ownsRow.alloc hown _) _) ⟨W5.heap.size + 1, 0, none⟩ 1 1 [.int .i64 x, .int .i64 y] rfl rfl (new_cell2 _ _ _ _ _ (by simp)) (two_ints _ _) (by unfold maxLen; omega) (by omega) (by simp; omega) ?_; intro v6 w6 hown6 hg6 hb6)
                  go_roundw
                  case rel =>
                    have h1 := (hO.trans ((alloc_ext W5 _).trans (alloc_ext _ _))).app 0 rfl hg6 hown6 hb6
                    have h2 := edges_snoc (cutE th (g.m.row s)) k
                    rw [HFE.out] at h2
                    rw [h2] at h1
                    exact ⟨k + 1, by omega, by go_num, h1.ext, h1⟩
                  case measure => simp [intOf]; omega
              · have hke : k = a := by omega
                have hkI : ¬ (k : Int) < (a : Int) := by omega
                have hO : OwnL W9 W5 [.row 52 2 u14 a (((List.range a).map (cutE th (g.m.row s))).flatMap edgeCells), .rows 53 52 2 rv vs ((List.range s).map (fun j => eRow (cutR th (g.m.row j)))), .blk np (.cells #[.int .i64 (a : Int), .int .i64 g.m.outs, rv, .slice (some ⟨gk, 0, none⟩) n n, .slice As n cs] 32), .row 4 1 (.slice (some ⟨gk, 0, none⟩) n n) n (List.replicate n (.bool false))] := by have := hO; rw [hke] at this; exact this
                obtain ⟨gr, cx, hgr⟩ := ownsRow_pos (hO.get 0 rfl : W5.ownsRow W9.heap.size 52 2 u14 a (((List.range a).map (cutE th (g.m.row s))).flatMap edgeCells)) ha1
                subst hgr
                have hOR : OwnRows W5 W9.heap.size 53 52 2 rv vs ((List.range s).map (fun j => eRow (cutR th (g.m.row j)))) := hO.get 1 rfl
                have hown := hOR.own
                rw [HVL.out] at hown
                have b2 := cell_of_blk (hO.get 2 rfl).2 2 (u := rv) rfl
                have hszb := hE.size
                obtain ⟨Arv, crv, rfl, _, _⟩ := cells_of_owns hown
                clear hOR hke
                go_wp2_with (at_builtin; refine wpList_append_own2 rfl _ _ 27 rfl W9.heap.size 53 i53 (.slice none 0 0) 1 24 Try.underlying27 hi53 hz53 hs53 hb53 rfl (by decide) (.slice Arv s crv) s vs rfl (World.ownsRow.alloc hown _) ⟨W5.heap.size, 0, none⟩ 1 1 [.slice (some ⟨gr, 0, none⟩) a cx] rfl rfl (cells_new _ #[.slice (some ⟨gr, 0, none⟩) a cx] _) (one_slice _ _ _) (by unfold maxLen; omega) (by omega) (by simp; omega) ?_; intro v6 w6 hown6 hg6 hb6; obtain ⟨g6, c6, rfl⟩ := ownsRow_pos hown6 (by omega); have hp := (hO.trans (alloc_ext W5 _)).push hg6 (by rw [HVL.out]; exact hown6) hb6; have p2' := cell_of_blk (hp.get 1 rfl).2 2 (u := .slice Arv s crv) rfl; have pf := free_of_blk (hp.get 1 rfl).2 2)
                go_roundw
                case rel =>
                  have h5 := hp.put 1 rfl 2 (.slice (some ⟨g6, 0, none⟩) (s + 1) c6)
                  have h6 : ((List.range s).map (fun j => eRow (cutR th (g.m.row j)))) ++ [(a, ((List.range a).map (cutE th (g.m.row s))).flatMap edgeCells)] = (List.range (s + 1)).map (fun j => eRow (cutR th (g.m.row j))) := by
                    rw [List.range_succ, List.map_append]
                    show _ = _ ++ [eRow (cutR th (g.m.row s))]
                    unfold eRow cutR
                    rw [List.length_map, List.length_range, HEL.out]
                  rw [h6] at h5
                  exact ⟨s + 1, _, _, by go_num, by omega, h5.ext, h5⟩
                case measure => simp [intOf]; omega
          · have hse : s = n := by omega
            have hnI : ¬ (s : Int) < (n : Int) := by omega
            have hO : OwnL W9 W3 [.rows 53 52 2 rv vs ((List.range n).map (fun j => eRow (cutR th (g.m.row j)))), .blk np (.cells #[.int .i64 (a : Int), .int .i64 g.m.outs, rv, .slice (some ⟨gk, 0, none⟩) n n, .slice As n cs] 32), .row 4 1 (.slice (some ⟨gk, 0, none⟩) n n) n (List.replicate n (.bool false))] := by have := hO; rw [hse] at this; exact this
            clear hse
            have hOR : OwnRows W3 W9.heap.size 53 52 2 rv vs ((List.range n).map (fun j => eRow (cutR th (g.m.row j)))) := hO.get 0 rfl
            obtain ⟨gv, cv, rfl⟩ := ownsRow_pos hOR.own (by have := hOR.len; simp at this; omega)
            have hvl : vs.length = n := by have := hOR.len; simpa using this
            rw [hvl] at hO hOR
            have y0 := cell_of_blk (hO.get 1 rfl).2 0 (u := .int .i64 (a : Int)) rfl
            have y1 := cell_of_blk (hO.get 1 rfl).2 1 (u := .int .i64 g.m.outs) rfl
            have y2 := cell_of_blk (hO.get 1 rfl).2 2 (u := .slice (some ⟨gv, 0, none⟩) n cv) rfl
            have y3 := cell_of_blk (hO.get 1 rfl).2 3 (u := .slice (some ⟨gk, 0, none⟩) n n) rfl
            have y4 := cell_of_blk (hO.get 1 rfl).2 4 (u := .slice As n cs) rfl
            obtain ⟨g2, hg2⟩ : ∃ g2 : Game, g2 = ⟨cutM g.m th, List.replicate g.m.rows.length false, g.set⟩ := ⟨_, rfl⟩
            have hgv : GameV W3 (.agg #[.int .i64 (a : Int), .int .i64 g.m.outs, .slice (some ⟨gv, 0, none⟩) n cv, .slice (some ⟨gk, 0, none⟩) n n, .slice As n cs]) g2 := by
              rw [hg2]
              have ho : W3.ownsRow W9.heap.size 4 1 (.slice (some ⟨gk, 0, none⟩) n n) n ((List.replicate n false).map .bool) := by rw [List.map_replicate]; exact hO.get 2 rfl
              obtain ⟨c2, hb2⟩ := bools_of_owns ho (by simp) (by unfold lenMax; omega)
              refine ⟨.slice (some ⟨gv, 0, none⟩) n cv, cv, _, c2, _, cs, by rw [show (⟨cutM g.m th, List.replicate g.m.rows.length false, g.set⟩ : Game).m.ins = (a : Int) from HA.out.1]; rfl, rowsC_of_own (B := W9.heap.size) (vs := vs) (rows := (cutM g.m th).rows) ?_ (by rw [cutM_len]; exact HF.out.2.1.symm) (by omega) (fun r hr => ?_), by rw [show (⟨cutM g.m th, List.replicate g.m.rows.length false, g.set⟩ : Game).ours = List.replicate n false by rw [HF.out.2.1]]; exact hb2, HS9.out.ext hE⟩
              · have e : (cutM g.m th).rows.map eRow = ((List.range n).map (fun j => eRow (cutR th (g.m.row j)))) := by
                  unfold cutM; simp only; rw [List.map_map, ← HF.out.2.1]; rfl
                rw [e]; exact hOR
              · unfold cutM at hr
                obtain ⟨j, _, rfl⟩ := List.mem_map.1 hr
                unfold cutR
                rw [List.length_map, List.length_range]
                have := row_le HF.out.1.1 j
                omega
            have hc2 : checkG g2 = 0 := by
              rw [hg2]
              exact (fine_iff _).2 ⟨cut_valid HF.out.1.1 th, by show (List.replicate _ _).length = _; rw [List.length_replicate]; exact (cutM_len _ _).symm, by show g.set.length = _; rw [HTL.out.2]; exact (cutM_len _ _).symm⟩
            obtain ⟨xs, hxs⟩ := sup_safe HF.out.1.1 HTL.out.2 HD.out
            rw [← hg2] at hxs
            have hl2 : g2.m.rows.length ≤ 64 := by rw [hg2]; show (cutM g.m th).rows.length ≤ 64; rw [cutM_len, ← HF.out.2.1]; omega
            obtain ⟨nx, hnx⟩ : ∃ nx, nx = (true :: xs).length := ⟨_, rfl⟩
            have hsf := Safe_ok W3 _ g2 hgv hc2 hl2 (true :: xs) hxs nx hnx.symm
            have hlp : (0 : Int) < (nx : Int) := by rw [hnx, List.length_cons]; omega
            have hn64 : nx ≤ 64 := by rw [hnx, ← hxs, safeG_len]; exact hl2
            clear hgv hc2 hxs hl2 hg2 hOR hvl p4w hnx
            go_upto_region 27 with (go_at_call 10; (with_reducible refine hsf.mono ?_); rintro e W11 ⟨A11, rfl, f11, e11⟩; have F11 := Lib.hid f11; clear f11)
            obtain ⟨b11, o11, rfl, z11⟩ := fitB_first F11.out
            clear F11
            have hlpN : 0 < nx := by omega
            go_wp2_with (go_at_call 15; refine (lives_any _).mono ?_; rintro e wz ⟨rfl, ez⟩)
            go_ret
            exact ⟨rfl, ((HEW9.out.trans hE).trans e11).trans ez⟩
#print axioms GamesSupervisor_any
end Go.Proofs.Yteadkafeabhhhaa
