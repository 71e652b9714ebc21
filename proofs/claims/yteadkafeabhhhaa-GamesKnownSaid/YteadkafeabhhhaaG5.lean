/- Strategies checked: games.valid, gauntletref32.Strategy. -/
import Derived.Test.YteadkafeabhhhaaG2
namespace Go.Proofs.Yteadkafeabhhhaa
open Go.RowKit
set_option linter.unusedVariables false
set_option linter.unusedSimpArgs false
attribute [local go_sem] Oper.quietV quietV Oper.gives givesV ext_refl_iff ext_alloc_iff ext_drew_iff ext_drewN_iff

def errAt (g : Game) (l : List Int) (s : Nat) : Int :=
  if l.getD s 0 < -1 ∨ g.m.ins ≤ l.getD s 0 then 1 else if 0 ≤ l.getD s 0 ∧ g.ours.getD s false = true ∧ ((g.m.row s).getD (l.getD s 0).toNat (0, 0)).1 < 0 then 9 else 0
def errL (g : Game) (l : List Int) : Int := (((List.range l.length).map (errAt g l)).find? (· ≠ 0)).getD 0
def stratE (g : Game) (l : List Int) : Int := if l.length ≠ g.m.rows.length then 16 else errL g l
theorem errL_none {g : Game} {l : List Int} (h : ∀ s, s < l.length → errAt g l s = 0) : errL g l = 0 := by
  unfold errL
  rw [List.find?_eq_none.2]; · rfl
  intro x hx
  obtain ⟨s, hs, rfl⟩ := List.mem_map.1 hx
  simp [h s (List.mem_range.1 hs)]
theorem errL_first {g : Game} {l : List Int} {k : Nat} (hk : k < l.length) (h : ∀ s, s < k → errAt g l s = 0) (hne : errAt g l k ≠ 0) : errL g l = errAt g l k := by
  unfold errL
  have h1 : ((List.range l.length).map (errAt g l)).find? (· ≠ 0) = some (errAt g l k) := by
    rw [List.find?_eq_some_iff_getElem]
    refine ⟨by simpa using hne, k, by simpa using hk, by simp, fun j hj => ?_⟩
    simp [h j hj]
  rw [h1]; rfl
theorem errL_zero {g : Game} {l : List Int} (h : errL g l = 0) {s : Nat} (hs : s < l.length) : errAt g l s = 0 := by
  have key : ∀ k, k ≤ l.length → (∀ s, s < k → errAt g l s = 0) := fun k => by
    induction k with
    | zero => intro _ s hs; omega
    | succ k ih =>
      intro hk s hs
      by_cases hsk : s < k
      · exact ih (by omega) s hsk
      · have : s = k := by omega
        subst this
        apply Classical.byContradiction
        intro hne
        have := errL_first (g := g) (l := l) (by omega) (ih (by omega)) hne
        rw [h] at this
        exact hne this.symm
  exact key l.length (Nat.le_refl _) s hs


set_option maxRecDepth 100000 in
set_option maxHeartbeats 4000000 in
theorem valid_any (w : World) (gv lv : Value) (g : Game) (hg : GameV w gv g) (hF : Fine g) (l : List Int) (cl : Nat) (hl : IntsC w lv l cl) :
    Calls Try.prog 42 #[gv, lv] w fun e w' => e = .returned (.int .i64 (stratE g l)) ∧ Ext w w' := by
  obtain ⟨rv, cr, ov, co, sv, cs, rfl, hr, ho, hs⟩ := hg
  obtain ⟨Ar, vr, rfl, _, _, _, _, hrm⟩ := id hr
  obtain ⟨Ao, rfl, hoc, _, hom⟩ := id ho
  obtain ⟨As, rfl, hsc, _, hsm⟩ := id hs
  unfold lenMax at hrm hom hsm
  obtain ⟨hV, hol, hsl⟩ := hF
  have hsz := hV.size
  obtain ⟨n, hn⟩ : ∃ n, n = g.m.rows.length := ⟨_, rfl⟩
  rw [← hn] at hol hsl hsz hrm hr ⊢
  rw [hol] at hom ho ⊢
  rw [hsl] at hsm hs ⊢
  have HN := Lib.hid hn
  have HOL := Lib.hid hol
  have HSL := Lib.hid hsl
  have HV := Lib.hid hV
  clear hV hol hsl hn
  have hn64 : n ≤ 64 := hsz.2
  have hn1 : 1 ≤ n := hsz.1
  obtain ⟨Al, rfl, hlc, _, hlm⟩ := id hl
  unfold lenMax at hlm
  have hbo : ∀ j, (hj : j < n) → ∃ b o, Ao = some ⟨b, o, none⟩ ∧ ∀ w', Ext w w' → w'.cell? ⟨b, o + j, none⟩ = some (.bool (g.ours.getD j false)) := fun j hj => by
    have hjo : j < g.ours.length := by rw [HOL.out]; exact hj
    obtain ⟨b, o, rfl, _, h⟩ := hoc.at_bool hjo
    exact ⟨b, o, rfl, fun w' hw => by rw [hw.cell h]; simp [List.getD, hjo]⟩
  have HBO := Lib.hid hbo
  clear hbo
  by_cases hll : l.length = n
  rotate_left
  · have hx : Hid (stratE g l = 16) := if_pos (by rw [← HN.out]; exact hll)
    have hx1 : ((l.length : Int) != (n : Int)) = true := by rw [bne_iff_ne]; omega
    clear hll
    go_enter Try.func42, Try.ntmps42
    go_upto_region 1 with fail
    refine wp_named ?_
    intro W1 hW1
    have hE1 : Ext w W1 := by rw [hW1]; exact (Ext.refl _).alloc _
    have k0 : ∀ w', Ext W1 w' → w'.cell? ⟨w.heap.size, 0, none⟩ = some (.int .i64 g.m.ins) := fun w' h => h.cell (by rw [hW1]; simp [go_sem])
    have k1 : ∀ w', Ext W1 w' → w'.cell? ⟨w.heap.size, 1, none⟩ = some (.int .i64 g.m.outs) := fun w' h => h.cell (by rw [hW1]; simp [go_sem])
    have k2 : ∀ w', Ext W1 w' → w'.cell? ⟨w.heap.size, 2, none⟩ = some (.slice Ar n cr) := fun w' h => h.cell (by rw [hW1]; simp [go_sem])
    have k3 : ∀ w', Ext W1 w' → w'.cell? ⟨w.heap.size, 3, none⟩ = some (.slice Ao n co) := fun w' h => h.cell (by rw [hW1]; simp [go_sem])
    have k4 : ∀ w', Ext W1 w' → w'.cell? ⟨w.heap.size, 4, none⟩ = some (.slice As n cs) := fun w' h => h.cell (by rw [hW1]; simp [go_sem])
    clear hW1
    have hE0 := Ext.refl W1
    go_wp2
    go_ret
    exact ⟨by rw [hx.out]; rfl, hE1⟩
  have hse : Hid (stratE g l = errL g l) := if_neg (fun h => h (by rw [← HN.out]; exact hll))
  have HLL := Lib.hid hll
  rw [hll]
  have hx1 : ((n : Int) != (n : Int)) = false := by simp
  clear hll
  go_enter Try.func42, Try.ntmps42
  go_upto_region 1 with fail
  refine wp_named ?_
  intro W1 hW1
  have hE1 : Ext w W1 := by rw [hW1]; exact (Ext.refl _).alloc _
  have k0 : ∀ w', Ext W1 w' → w'.cell? ⟨w.heap.size, 0, none⟩ = some (.int .i64 g.m.ins) := fun w' h => h.cell (by rw [hW1]; simp [go_sem])
  have k1 : ∀ w', Ext W1 w' → w'.cell? ⟨w.heap.size, 1, none⟩ = some (.int .i64 g.m.outs) := fun w' h => h.cell (by rw [hW1]; simp [go_sem])
  have k2 : ∀ w', Ext W1 w' → w'.cell? ⟨w.heap.size, 2, none⟩ = some (.slice Ar n cr) := fun w' h => h.cell (by rw [hW1]; simp [go_sem])
  have k3 : ∀ w', Ext W1 w' → w'.cell? ⟨w.heap.size, 3, none⟩ = some (.slice Ao n co) := fun w' h => h.cell (by rw [hW1]; simp [go_sem])
  have k4 : ∀ w', Ext W1 w' → w'.cell? ⟨w.heap.size, 4, none⟩ = some (.slice As n cs) := fun w' h => h.cell (by rw [hW1]; simp [go_sem])
  clear hW1
  have hE0 := Ext.refl W1
  go_wp2
  go_loopw [16] (fun i wr => ∃ s : Nat, s ≤ n ∧ i = .int .i64 s ∧ Hid (∀ j, j < s → errAt g l j = 0) ∧ Ext W1 wr) (fun i _ => n - (intOf i).toNat)
  case atStart => exact ⟨0, by omega, rfl, (fun j hj => by omega), hE0⟩
  case round =>
    obtain ⟨s, hs', rfl, hok, hE⟩ := hrel
    obtain ⟨W3, hW3⟩ : ∃ W, W = wr := ⟨_, rfl⟩; subst hW3
    by_cases hsn : s < n
    · skip
      have hsm : s < g.m.rows.length := by rw [← HN.out]; exact hsn
      have hsl' : s < l.length := by rw [HLL.out]; exact hsn
      obtain ⟨b, o, us, cu, hv, hb, c0, hes⟩ := (hr.ext hE1).at_ hsm
      obtain rfl : Ar = some ⟨b, o, none⟩ := by injection hv
      clear hv
      have hre := row_eq hsm
      obtain ⟨Ae, rfl, hce, _, hme⟩ := hes
      unfold lenMax at hme
      rw [← hre] at hce hme c0
      have hfit : ∀ e ∈ g.m.row s, fitsB g.m e = true := fun e he => HV.out.fit _ (List.getElem_mem hsm) e (hre ▸ he)
      have hlen : ((g.m.row s).length : Int) = g.m.ins := by rw [hre]; exact HV.out.len _ (List.getElem_mem hsm)
      have HF := Lib.hid hfit
      have g0 : ∀ w', Ext W1 w' → w'.cell? ⟨b, o + s, none⟩ = some (.slice Ae (g.m.row s).length cu) := fun w' h => h.cell c0
      obtain ⟨el, hel⟩ : ∃ el, el = (g.m.row s).length := ⟨_, rfl⟩
      rw [← hel] at g0 hme hlen
      have k0' : ∀ w', Ext W1 w' → w'.cell? ⟨w.heap.size, 0, none⟩ = some (.int .i64 (el : Int)) := fun w' h => by rw [hlen]; exact k0 w' h
      have HEL := Lib.hid (And.intro hel hlen)
      clear c0 hre hfit hel hlen k0
      have k0 := k0'
      clear k0'
      obtain ⟨bo, oo, rfl, cbo⟩ := HBO.out s hsn
      obtain ⟨bl, ol, rfl, _, cl⟩ := hlc.at_int hsl'
      have cl : ∀ w', Ext W1 w' → w'.cell? ⟨bl, ol + s, none⟩ = some (.int .i64 l[s]) := fun w' h => (hE1.trans h).cell cl
      have hea : errAt g l s = if l[s] < -1 ∨ (el : Int) ≤ l[s] then 1 else if 0 ≤ l[s] ∧ g.ours.getD s false = true ∧ ((g.m.row s).getD l[s].toNat (0, 0)).1 < 0 then 9 else 0 := by
        unfold errAt
        rw [show l.getD s 0 = l[s] by simp [List.getD, hsl'], HEL.out.2]
      have cbo : ∀ w', Ext W1 w' → w'.cell? ⟨bo, oo + s, none⟩ = some (.bool (g.ours.getD s false)) := fun w' h => cbo w' (hE1.trans h)
      generalize l[s] = x at *
      generalize g.ours.getD s false = us at *
      have HEA := Lib.hid hea
      clear hea
      have hsI : (s : Int) < (n : Int) := by omega
      have hnx : Hid (errAt g l s = 0 → ∀ j, j < s + 1 → errAt g l j = 0) := fun h j hj => by
        by_cases hjs : j = s
        · rw [hjs]; exact h
        · exact hok.out j (by omega)
      have hbd : Hid (errAt g l s ≠ 0 → stratE g l = errAt g l s) := fun h => by rw [hse.out]; exact errL_first hsl' hok.out h
      by_cases hx : x = -1
      · have hx' : (x == -1) = true := by simp [hx]
        have h0 : Hid (errAt g l s = 0) := by
          show _ = _
          rw [HEA.out, if_neg (by omega), if_neg (by omega)]
        clear hx
        go_wp2
        go_roundw
        case rel => exact ⟨s + 1, by omega, by go_num, hnx.out h0.out, hE⟩
        case measure => simp [intOf]; omega
      have hx' : (x == -1) = false := by simpa using hx
      by_cases hx0 : x < 0
      · have h1 : Hid (errAt g l s = 1) := by show _ = _; rw [HEA.out, if_pos (by omega)]
        clear hx
        go_wp2
        go_ret
        exact ⟨by rw [hbd.out (by rw [h1.out]; decide), h1.out]; rfl, hE1.trans hE⟩
      by_cases hxl : (el : Int) ≤ x
      · have h1 : Hid (errAt g l s = 1) := by show _ = _; rw [HEA.out, if_pos (.inr hxl)]
        clear hx
        go_wp2
        go_ret
        exact ⟨by rw [hbd.out (by rw [h1.out]; decide), h1.out]; rfl, hE1.trans hE⟩
      obtain ⟨u, rfl⟩ := Int.eq_ofNat_of_zero_le (show 0 ≤ x by omega)
      have hue : u < el := by omega
      have huI : (u : Int) < (el : Int) := by omega
      have hur : u < (g.m.row s).length := by rw [← HEL.out.1]; exact hue
      obtain ⟨be, oe, rfl, _, d0, _⟩ := hce.at_edge hur
      have d0 : ∀ w', Ext W1 w' → w'.cell? ⟨be, oe + u * 2, none⟩ = some (.int .i64 (g.m.row s)[u].1) := fun w' h => h.cell d0
      have hfx := fit_to (HF.out _ (List.getElem_mem hur))
      have he2 : errAt g l s = if us = true ∧ (g.m.row s)[u].1 < 0 then 9 else 0 := by
        rw [HEA.out, if_neg (by omega)]
        have : (g.m.row s).getD (u : Int).toNat (0, 0) = (g.m.row s)[u] := by simp [List.getD, hur]
        rw [this]
        by_cases h : us = true ∧ (g.m.row s)[u].1 < 0
        · rw [if_pos h, if_pos ⟨by omega, h⟩]
        · rw [if_neg h, if_neg (fun h' => h h'.2)]
      generalize (g.m.row s)[u].1 = y at *
      have HE2 := Lib.hid he2
      clear he2 hx HEA
      cases us with
      | false =>
        have h0 : Hid (errAt g l s = 0) := by show _ = _; rw [HE2.out, if_neg (by simp)]
        go_wp2
        go_roundw
        case rel => exact ⟨s + 1, by omega, by go_num, hnx.out h0.out, hE⟩
        case measure => simp [intOf]; omega
      | true =>
        by_cases hy : y = -1
        · have hy' : (y == -1) = true := by simp [hy]
          have h1 : Hid (errAt g l s = 9) := by show _ = _; rw [HE2.out, if_pos ⟨rfl, by omega⟩]
          clear hy
          go_wp2
          go_ret
          exact ⟨by rw [hbd.out (by rw [h1.out]; decide), h1.out]; rfl, hE1.trans hE⟩
        · have hy' : (y == -1) = false := by simpa using hy
          have h0 : Hid (errAt g l s = 0) := by show _ = _; rw [HE2.out, if_neg (by rintro ⟨_, h⟩; omega)]
          clear hy
          go_wp2
          go_roundw
          case rel => exact ⟨s + 1, by omega, by go_num, hnx.out h0.out, hE⟩
          case measure => simp [intOf]; omega
    · have hse2 : s = n := by omega
      subst hse2
      have h0 : Hid (stratE g l = 0) := by show _ = _; rw [hse.out]; exact errL_none (fun j hj => hok.out j (by rw [HLL.out] at hj; exact hj))
      go_wp2
      go_ret
      exact ⟨by rw [h0.out]; rfl, hE1.trans hE⟩
set_option maxRecDepth 100000 in
set_option maxHeartbeats 4000000 in
theorem refStrategy_any (w : World) (gv lv : Value) (g : Game) (hg : GameV w gv g) (hF : Fine g) (l : List Int) (cl : Nat) (hl : IntsC w lv l cl) :
    Calls Try.prog 30 #[gv, lv] w fun e w' => e = .returned (.int .i64 (stratE g l)) ∧ Ext w w' := by
  obtain ⟨rv, cr, ov, co, sv, cs, rfl, hr, ho, hs⟩ := hg
  obtain ⟨Ar, vr, rfl, _, _, _, _, hrm⟩ := id hr
  obtain ⟨Ao, rfl, hoc, _, hom⟩ := id ho
  obtain ⟨As, rfl, hsc, _, hsm⟩ := id hs
  unfold lenMax at hrm hom hsm
  obtain ⟨hV, hol, hsl⟩ := hF
  have hsz := hV.size
  obtain ⟨n, hn⟩ : ∃ n, n = g.m.rows.length := ⟨_, rfl⟩
  rw [← hn] at hol hsl hsz hrm hr ⊢
  rw [hol] at hom ho ⊢
  rw [hsl] at hsm hs ⊢
  have HN := Lib.hid hn
  have HOL := Lib.hid hol
  have HSL := Lib.hid hsl
  have HV := Lib.hid hV
  clear hV hol hsl hn
  have hn64 : n ≤ 64 := hsz.2
  have hn1 : 1 ≤ n := hsz.1
  obtain ⟨Al, rfl, hlc, _, hlm⟩ := id hl
  unfold lenMax at hlm
  have hbo : ∀ j, (hj : j < n) → ∃ b o, Ao = some ⟨b, o, none⟩ ∧ ∀ w', Ext w w' → w'.cell? ⟨b, o + j, none⟩ = some (.bool (g.ours.getD j false)) := fun j hj => by
    have hjo : j < g.ours.length := by rw [HOL.out]; exact hj
    obtain ⟨b, o, rfl, _, h⟩ := hoc.at_bool hjo
    exact ⟨b, o, rfl, fun w' hw => by rw [hw.cell h]; simp [List.getD, hjo]⟩
  have HBO := Lib.hid hbo
  clear hbo
  by_cases hll : l.length = n
  rotate_left
  · have hx : Hid (stratE g l = 16) := if_pos (by rw [← HN.out]; exact hll)
    have hx1 : ((l.length : Int) != (n : Int)) = true := by rw [bne_iff_ne]; omega
    clear hll
    go_enter Try.func30, Try.ntmps30
    go_upto_region 1 with fail
    refine wp_named ?_
    intro W1 hW1
    have hE1 : Ext w W1 := by rw [hW1]; exact (Ext.refl _).alloc _
    have k0 : ∀ w', Ext W1 w' → w'.cell? ⟨w.heap.size, 0, none⟩ = some (.int .i64 g.m.ins) := fun w' h => h.cell (by rw [hW1]; simp [go_sem])
    have k1 : ∀ w', Ext W1 w' → w'.cell? ⟨w.heap.size, 1, none⟩ = some (.int .i64 g.m.outs) := fun w' h => h.cell (by rw [hW1]; simp [go_sem])
    have k2 : ∀ w', Ext W1 w' → w'.cell? ⟨w.heap.size, 2, none⟩ = some (.slice Ar n cr) := fun w' h => h.cell (by rw [hW1]; simp [go_sem])
    have k3 : ∀ w', Ext W1 w' → w'.cell? ⟨w.heap.size, 3, none⟩ = some (.slice Ao n co) := fun w' h => h.cell (by rw [hW1]; simp [go_sem])
    have k4 : ∀ w', Ext W1 w' → w'.cell? ⟨w.heap.size, 4, none⟩ = some (.slice As n cs) := fun w' h => h.cell (by rw [hW1]; simp [go_sem])
    clear hW1
    have hE0 := Ext.refl W1
    go_wp2
    go_ret
    exact ⟨by rw [hx.out]; rfl, hE1⟩
  have hse : Hid (stratE g l = errL g l) := if_neg (fun h => h (by rw [← HN.out]; exact hll))
  have HLL := Lib.hid hll
  rw [hll]
  have hx1 : ((n : Int) != (n : Int)) = false := by simp
  clear hll
  go_enter Try.func30, Try.ntmps30
  go_upto_region 1 with fail
  refine wp_named ?_
  intro W1 hW1
  have hE1 : Ext w W1 := by rw [hW1]; exact (Ext.refl _).alloc _
  have k0 : ∀ w', Ext W1 w' → w'.cell? ⟨w.heap.size, 0, none⟩ = some (.int .i64 g.m.ins) := fun w' h => h.cell (by rw [hW1]; simp [go_sem])
  have k1 : ∀ w', Ext W1 w' → w'.cell? ⟨w.heap.size, 1, none⟩ = some (.int .i64 g.m.outs) := fun w' h => h.cell (by rw [hW1]; simp [go_sem])
  have k2 : ∀ w', Ext W1 w' → w'.cell? ⟨w.heap.size, 2, none⟩ = some (.slice Ar n cr) := fun w' h => h.cell (by rw [hW1]; simp [go_sem])
  have k3 : ∀ w', Ext W1 w' → w'.cell? ⟨w.heap.size, 3, none⟩ = some (.slice Ao n co) := fun w' h => h.cell (by rw [hW1]; simp [go_sem])
  have k4 : ∀ w', Ext W1 w' → w'.cell? ⟨w.heap.size, 4, none⟩ = some (.slice As n cs) := fun w' h => h.cell (by rw [hW1]; simp [go_sem])
  clear hW1
  have hE0 := Ext.refl W1
  go_wp2
  go_loopw [5] (fun i wr => ∃ s : Nat, s ≤ n ∧ i = .int .i64 s ∧ Hid (∀ j, j < s → errAt g l j = 0) ∧ Ext W1 wr) (fun i _ => n - (intOf i).toNat)
  case atStart => exact ⟨0, by omega, rfl, (fun j hj => by omega), hE0⟩
  case round =>
    obtain ⟨s, hs', rfl, hok, hE⟩ := hrel
    obtain ⟨W3, hW3⟩ : ∃ W, W = wr := ⟨_, rfl⟩; subst hW3
    by_cases hsn : s < n
    · skip
      have hsm : s < g.m.rows.length := by rw [← HN.out]; exact hsn
      have hsl' : s < l.length := by rw [HLL.out]; exact hsn
      obtain ⟨b, o, us, cu, hv, hb, c0, hes⟩ := (hr.ext hE1).at_ hsm
      obtain rfl : Ar = some ⟨b, o, none⟩ := by injection hv
      clear hv
      have hre := row_eq hsm
      obtain ⟨Ae, rfl, hce, _, hme⟩ := hes
      unfold lenMax at hme
      rw [← hre] at hce hme c0
      have hfit : ∀ e ∈ g.m.row s, fitsB g.m e = true := fun e he => HV.out.fit _ (List.getElem_mem hsm) e (hre ▸ he)
      have hlen : ((g.m.row s).length : Int) = g.m.ins := by rw [hre]; exact HV.out.len _ (List.getElem_mem hsm)
      have HF := Lib.hid hfit
      have g0 : ∀ w', Ext W1 w' → w'.cell? ⟨b, o + s, none⟩ = some (.slice Ae (g.m.row s).length cu) := fun w' h => h.cell c0
      obtain ⟨el, hel⟩ : ∃ el, el = (g.m.row s).length := ⟨_, rfl⟩
      rw [← hel] at g0 hme hlen
      have k0' : ∀ w', Ext W1 w' → w'.cell? ⟨w.heap.size, 0, none⟩ = some (.int .i64 (el : Int)) := fun w' h => by rw [hlen]; exact k0 w' h
      have HEL := Lib.hid (And.intro hel hlen)
      clear c0 hre hfit hel hlen k0
      have k0 := k0'
      clear k0'
      obtain ⟨bo, oo, rfl, cbo⟩ := HBO.out s hsn
      obtain ⟨bl, ol, rfl, _, cl⟩ := hlc.at_int hsl'
      have cl : ∀ w', Ext W1 w' → w'.cell? ⟨bl, ol + s, none⟩ = some (.int .i64 l[s]) := fun w' h => (hE1.trans h).cell cl
      have hea : errAt g l s = if l[s] < -1 ∨ (el : Int) ≤ l[s] then 1 else if 0 ≤ l[s] ∧ g.ours.getD s false = true ∧ ((g.m.row s).getD l[s].toNat (0, 0)).1 < 0 then 9 else 0 := by
        unfold errAt
        rw [show l.getD s 0 = l[s] by simp [List.getD, hsl'], HEL.out.2]
      have cbo : ∀ w', Ext W1 w' → w'.cell? ⟨bo, oo + s, none⟩ = some (.bool (g.ours.getD s false)) := fun w' h => cbo w' (hE1.trans h)
      generalize l[s] = x at *
      generalize g.ours.getD s false = us at *
      have HEA := Lib.hid hea
      clear hea
      have hsI : (s : Int) < (n : Int) := by omega
      have hnx : Hid (errAt g l s = 0 → ∀ j, j < s + 1 → errAt g l j = 0) := fun h j hj => by
        by_cases hjs : j = s
        · rw [hjs]; exact h
        · exact hok.out j (by omega)
      have hbd : Hid (errAt g l s ≠ 0 → stratE g l = errAt g l s) := fun h => by rw [hse.out]; exact errL_first hsl' hok.out h
      have cl0 := cl W3 hE
      have k00 := k0 W3 hE
      have k20 := k2 W3 hE
      have k30 := k3 W3 hE
      have g00 := g0 W3 hE
      have cb0 := cbo W3 hE
      by_cases hx0 : x < -1
      · have h1 : Hid (errAt g l s = 1) := by show _ = _; rw [HEA.out, if_pos (by omega)]
        go_wp2
        go_quiet (fail)
        go_wp2
        go_ret
        exact ⟨by rw [hbd.out (by rw [h1.out]; decide), h1.out]; rfl, (hE1.trans hE).drewN _⟩
      by_cases hxl : (el : Int) ≤ x
      · have h1 : Hid (errAt g l s = 1) := by show _ = _; rw [HEA.out, if_pos (.inr hxl)]
        have hd1 : decide (x < -1) = false := by simpa using hx0
        go_wp2
        go_quiet (fail)
        go_wp2
        go_ret
        exact ⟨by rw [hbd.out (by rw [h1.out]; decide), h1.out]; rfl, (hE1.trans hE).drewN _⟩
      have hd1 : decide (x < -1) = false := by simpa using hx0
      have hd2 : decide ((el : Int) ≤ x) = false := by simpa using hxl
      by_cases hx : x < 0
      · have h0 : Hid (errAt g l s = 0) := by show _ = _; rw [HEA.out, if_neg (by omega), if_neg (by omega)]
        have hd3 : decide (0 ≤ x) = false := by simp; omega
        go_wp2
        go_quiet (fail)
        go_wp2
        go_quiet (fail)
        go_wp2
        go_roundw
        case rel => exact ⟨s + 1, by omega, by go_num, hnx.out h0.out, (by repeat (first | exact hE | refine Ext.drewN ?_ _ | refine Ext.drew ?_))⟩
        case measure => simp [intOf]; omega
      obtain ⟨u, rfl⟩ := Int.eq_ofNat_of_zero_le (show 0 ≤ x by omega)
      have hue : u < el := by omega
      have huI : (u : Int) < (el : Int) := by omega
      have hur : u < (g.m.row s).length := by rw [← HEL.out.1]; exact hue
      obtain ⟨be, oe, rfl, _, d0, _⟩ := hce.at_edge hur
      have d00 := hE.cell d0
      have he2 : errAt g l s = if us = true ∧ (g.m.row s)[u].1 < 0 then 9 else 0 := by
        rw [HEA.out, if_neg (by omega)]
        have : (g.m.row s).getD (u : Int).toNat (0, 0) = (g.m.row s)[u] := by simp [List.getD, hur]
        rw [this]
        by_cases h : us = true ∧ (g.m.row s)[u].1 < 0
        · rw [if_pos h, if_pos ⟨by omega, h⟩]
        · rw [if_neg h, if_neg (fun h' => h h'.2)]
      generalize (g.m.row s)[u].1 = y at *
      have HE2 := Lib.hid he2
      clear he2 hx HEA d0
      have hd3 : decide (0 ≤ (u : Int)) = true := by simp
      cases us with
      | false =>
        have h0 : Hid (errAt g l s = 0) := by show _ = _; rw [HE2.out, if_neg (by simp)]
        go_wp2
        go_quiet (fail)
        go_wp2
        go_quiet (fail)
        go_wp2
        go_roundw
        case rel => exact ⟨s + 1, by omega, by go_num, hnx.out h0.out, (by repeat (first | exact hE | refine Ext.drewN ?_ _ | refine Ext.drew ?_))⟩
        case measure => simp [intOf]; omega
      | true =>
        by_cases hy : y < 0
        · have h1 : Hid (errAt g l s = 9) := by show _ = _; rw [HE2.out, if_pos ⟨rfl, by omega⟩]
          have hd4 : decide (y < 0) = true := by simpa using hy
          go_wp2
          go_quiet (fail)
          go_wp2
          go_quiet (fail)
          go_wp2
          go_ret
          exact ⟨by rw [hbd.out (by rw [h1.out]; decide), h1.out]; rfl, ((hE1.trans hE).drewN _).drewN _⟩
        · have h0 : Hid (errAt g l s = 0) := by show _ = _; rw [HE2.out, if_neg (by rintro ⟨_, h⟩; omega)]
          have hd4 : decide (y < 0) = false := by simpa using hy
          go_wp2
          go_quiet (fail)
          go_wp2
          go_quiet (fail)
          go_wp2
          go_roundw
          case rel => exact ⟨s + 1, by omega, by go_num, hnx.out h0.out, (by repeat (first | exact hE | refine Ext.drewN ?_ _ | refine Ext.drew ?_))⟩
          case measure => simp [intOf]; omega
    · have hse2 : s = n := by omega
      subst hse2
      have h0 : Hid (stratE g l = 0) := by show _ = _; rw [hse.out]; exact errL_none (fun j hj => hok.out j (by rw [HLL.out] at hj; exact hj))
      go_wp2
      go_ret
      exact ⟨by rw [h0.out]; rfl, hE1.trans hE⟩
#print axioms refStrategy_any
end Go.Proofs.Yteadkafeabhhhaa
