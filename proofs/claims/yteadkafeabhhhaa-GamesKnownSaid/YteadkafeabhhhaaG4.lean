/- games.Avoid, games.Attack. -/
import Derived.Test.YteadkafeabhhhaaG3
namespace Go.Proofs.Yteadkafeabhhhaa
open Go.RowKit
set_option linter.unusedVariables false
set_option linter.unusedSimpArgs false
attribute [local go_sem] Oper.quietV quietV Oper.gives givesV ext_refl_iff ext_alloc_iff ext_drew_iff ext_drewN_iff

theorem force_bd (g : Gr) : ∀ k t, -1 ≤ (forceL g k).getD t 0 ∧ (forceL g k).getD t 0 ≤ k
  | 0, t => by
    by_cases h : t < g.n
    · have : (forceL g 0).getD t 0 = if g.goal t then 0 else -1 := getD_rangeMap _ _ h
      rw [this]; split <;> omega
    · unfold forceL force0; simp [List.getD, List.getElem?_eq_none (show (List.range g.n).length ≤ t by simpa using h)]
  | k + 1, t => by
    have ih := force_bd g k t
    by_cases h : t < g.n
    · have : (forceL g (k + 1)).getD t 0 = forceAt g k (forceL g k) t := getD_rangeMap _ _ h
      rw [this]; unfold forceAt; split <;> omega
    · unfold forceL; simp [List.getD, List.getElem?_eq_none (show (List.range g.n).length ≤ t by simpa using h)]; omega
theorem rank_bd (m : Mach) (hV : Valid m) (ts ss : List Bool) (t : Nat) : -1 ≤ (rankG m ts ss).getD t 0 ∧ (rankG m ts ss).getD t 0 ≤ 100 := by
  have h1 := force_bd (grOf m ts ss) m.rows.length t
  have h2 := hV.size
  unfold rankG
  omega
def avT (g : Game) (s : Nat) : Bool := (safeG g).getD s false
def avV (g : Game) (s : Nat) : Int := if avT g s then 0 else -1
def atV (g : Game) (s : Nat) : Int := (rankG g.m g.ours g.set).getD s 0
def atT (g : Game) (s : Nat) : Bool := decide (0 < atV g s)
def avoidL (g : Game) : List Int := stratL g (avT g) (avV g)
def attackL (g : Game) : List Int := stratL g (atT g) (atV g)

theorem av1_any (w : World) (b : Nat) (v : Value) (g : Game) (hv : FitB w v (safeG g)) (hb : w.cell? ⟨b, 0, none⟩ = some v) (s : Nat) (hs : s < (safeG g).length) :
    Calls Try.prog 38 #[.int .i64 s, .pointer (some ⟨b, 0, none⟩)] w fun e w' => e = .returned (.bool (avT g s)) ∧ Ext w w' := by
  obtain ⟨A, rfl, hc, _, hm⟩ := hv
  unfold lenMax at hm
  obtain ⟨b', o', rfl, _, c0⟩ := hc.at_bool hs
  have e : avT g s = (safeG g)[s] := by unfold avT; simp [List.getD, hs]
  rw [e]
  have hsI : (s : Int) < ((safeG g).length : Int) := by omega
  go_enter Try.func38, Try.ntmps38
  go_wp2
  go_ret
  exact ⟨rfl, Ext.refl _⟩
theorem av2_any (w : World) (b : Nat) (v : Value) (g : Game) (hv : FitB w v (safeG g)) (hb : w.cell? ⟨b, 0, none⟩ = some v) (s : Nat) (hs : s < (safeG g).length) :
    Calls Try.prog 39 #[.int .i64 s, .pointer (some ⟨b, 0, none⟩)] w fun e w' => e = .returned (.int .i64 (avV g s)) ∧ Ext w w' := by
  obtain ⟨A, rfl, hc, _, hm⟩ := hv
  unfold lenMax at hm
  obtain ⟨b', o', rfl, _, c0⟩ := hc.at_bool hs
  have e : avV g s = if (safeG g)[s] then 0 else -1 := by unfold avV avT; simp [List.getD, hs]
  rw [e]
  have hsI : (s : Int) < ((safeG g).length : Int) := by omega
  generalize (safeG g)[s] = x at *
  clear e
  cases x <;>
  · go_enter Try.func39, Try.ntmps39
    go_wp2
    go_ret
    exact ⟨rfl, Ext.refl _⟩
theorem at1_any (w : World) (b : Nat) (v : Value) (g : Game) (hv : FitC w v (rankG g.m g.ours g.set)) (hb : w.cell? ⟨b, 0, none⟩ = some v) (s : Nat) (hs : s < (rankG g.m g.ours g.set).length) :
    Calls Try.prog 40 #[.int .i64 s, .pointer (some ⟨b, 0, none⟩)] w fun e w' => e = .returned (.bool (atT g s)) ∧ Ext w w' := by
  obtain ⟨A, rfl, hc, _, hm⟩ := hv
  unfold lenMax at hm
  obtain ⟨b', o', rfl, _, c0⟩ := hc.at_int hs
  have e : atT g s = decide (0 < (rankG g.m g.ours g.set)[s]) := by unfold atT atV; simp [List.getD, hs]
  rw [e]
  have hsI : (s : Int) < ((rankG g.m g.ours g.set).length : Int) := by omega
  generalize (rankG g.m g.ours g.set)[s] = x at *
  clear e
  go_enter Try.func40, Try.ntmps40
  go_wp2
  go_ret
  exact ⟨rfl, Ext.refl _⟩
theorem at2_any (w : World) (b : Nat) (v : Value) (g : Game) (hv : FitC w v (rankG g.m g.ours g.set)) (hb : w.cell? ⟨b, 0, none⟩ = some v) (s : Nat) (hs : s < (rankG g.m g.ours g.set).length) :
    Calls Try.prog 41 #[.int .i64 s, .pointer (some ⟨b, 0, none⟩)] w fun e w' => e = .returned (.int .i64 (atV g s)) ∧ Ext w w' := by
  obtain ⟨A, rfl, hc, _, hm⟩ := hv
  unfold lenMax at hm
  obtain ⟨b', o', rfl, _, c0⟩ := hc.at_int hs
  have e : atV g s = (rankG g.m g.ours g.set)[s] := by unfold atV; simp [List.getD, hs]
  rw [e]
  have hsI : (s : Int) < ((rankG g.m g.ours g.set).length : Int) := by omega
  generalize (rankG g.m g.ours g.set)[s] = x at *
  clear e
  go_enter Try.func41, Try.ntmps41
  go_wp2
  go_ret
  exact ⟨rfl, Ext.refl _⟩

def AvoidP (g : Game) (w : World) (e : Ending) (w' : World) : Prop :=
  (if checkG g = 0 then ∃ v, e = .returned (.tuple #[v, .int .i64 0]) ∧ OwnI w w' v (avoidL g) else e = .returned (.tuple #[.slice none 0 0, .int .i64 (checkG g)])) ∧ Ext w w'
def AttackP (g : Game) (w : World) (e : Ending) (w' : World) : Prop :=
  (if checkG g = 0 then ∃ v, e = .returned (.tuple #[v, .int .i64 0]) ∧ OwnI w w' v (attackL g) else e = .returned (.tuple #[.slice none 0 0, .int .i64 (checkG g)])) ∧ Ext w w'

set_option maxHeartbeats 2000000 in
theorem Avoid_any (w : World) (gv : Value) (g : Game) (hg : GameV w gv g) : Calls Try.prog 16 #[gv] w (AvoidP g w) := by
  have hg0 := hg
  obtain ⟨rv, cr, ov, co, sv, cs, rfl, hr, ho, hs⟩ := hg
  obtain ⟨Ar, vr, rfl, _, _, _, _, hrm⟩ := id hr
  obtain ⟨Ao, rfl, hoc, _, hom⟩ := id ho
  obtain ⟨As, rfl, hsc, _, hsm⟩ := id hs
  unfold lenMax at hrm hom hsm
  go_enter Try.func16, Try.ntmps16
  go_upto_region 1 with fail
  refine wp_named ?_
  intro W1 hW1
  have hE1 : Ext w W1 := by rw [hW1]; exact (Ext.refl _).alloc _
  have k0 : ∀ w', Ext W1 w' → w'.cell? ⟨w.heap.size, 0, none⟩ = some (.int .i64 g.m.ins) := fun w' h => h.cell (by rw [hW1]; simp [go_sem])
  have k1 : ∀ w', Ext W1 w' → w'.cell? ⟨w.heap.size, 1, none⟩ = some (.int .i64 g.m.outs) := fun w' h => h.cell (by rw [hW1]; simp [go_sem])
  have k2 : ∀ w', Ext W1 w' → w'.cell? ⟨w.heap.size, 2, none⟩ = some (.slice Ar g.m.rows.length cr) := fun w' h => h.cell (by rw [hW1]; simp [go_sem])
  have k3 : ∀ w', Ext W1 w' → w'.cell? ⟨w.heap.size, 3, none⟩ = some (.slice Ao g.ours.length co) := fun w' h => h.cell (by rw [hW1]; simp [go_sem])
  have k4 : ∀ w', Ext W1 w' → w'.cell? ⟨w.heap.size, 4, none⟩ = some (.slice As g.set.length cs) := fun w' h => h.cell (by rw [hW1]; simp [go_sem])
  clear hW1
  have hE0 := Ext.refl W1
  have hck := Safe_any W1 _ g (hg0.ext hE1)
  by_cases hz : checkG g = 0
  · have hF := (fine_iff g).1 hz
    have hck2 : Calls Try.prog 10 #[.agg #[.int .i64 g.m.ins, .int .i64 g.m.outs, .slice Ar g.m.rows.length cr, .slice Ao g.ours.length co, .slice As g.set.length cs]] W1 fun e w' => (∃ v A n, v = .slice A n n ∧ e = .returned (.tuple #[v, .int .i64 0]) ∧ OwnB W1 w' v (safeG g)) ∧ Ext W1 w' := hck.mono (fun e w' h => by
      obtain ⟨h1, h2⟩ := h
      rw [if_pos hz] at h1
      obtain ⟨v, h3, A, h4, h5⟩ := h1
      exact ⟨⟨v, A, _, h4, h3, A, h4, h5⟩, h2⟩)
    have HZ := Lib.hid hz
    have HF := Lib.hid hF
    clear hz hck hF
    go_upto_region 2 with ((with_reducible refine hck2.mono ?_); rintro e w2 ⟨⟨v, A2, n2, rfl, rfl, hO2⟩, hE2⟩)
    have hL : (safeG g).length = g.m.rows.length := by first | exact safeG_len g | exact rankG_len _ _ _
    have hn64 := HF.out.1.size
    have hft := hO2.fit (by rw [hL]; omega)
    refine wp_named ?_
    intro W3 hW3
    have hE3 : Ext w2 W3 := by rw [hW3]; exact alloc_ext _ _
    have hcell : W3.cell? ⟨w2.heap.size, 0, none⟩ = some (.slice A2 n2 n2) := by rw [hW3]; exact cell_of_blk (heap_alloc_new w2 _) 0 rfl
    clear hW3
    generalize w2.heap.size = b at *
    have hE4 := hE1.trans (hE2.trans hE3)
    have hEW := hE2.trans hE3
    have hst := strategy_any W3 _ g (hg0.ext hE4) HF.out 38 39 enters38 enters39 (.pointer (some ⟨b, 0, none⟩)) (.pointer (some ⟨b, 0, none⟩)) (avT g) (avV g)
      (fun W' h s hs => av1_any W' b _ g (hft.ext (hE3.trans h)) (h.cell hcell) s (by rw [hL]; exact hs)) (fun W' h s hs => av2_any W' b _ g (hft.ext (hE3.trans h)) (h.cell hcell) s (by rw [hL]; exact hs)) (fun u => by unfold avV; split <;> omega)
    clear hck2 hL hft hg0
    go_wp2_with ((with_reducible refine hst.mono ?_); rintro e w5 ⟨⟨v5, rfl, hO5⟩, hE5⟩)
    go_ret2
    refine ⟨?_, hE4.trans hE5⟩
    rw [if_pos HZ.out]
    exact ⟨_, rfl, hO5.mono hE4⟩
  · have hz' : (checkG g != 0) = true := by simpa using hz
    have hck2 : Calls Try.prog 10 #[.agg #[.int .i64 g.m.ins, .int .i64 g.m.outs, .slice Ar g.m.rows.length cr, .slice Ao g.ours.length co, .slice As g.set.length cs]] W1 fun e w' => e = .returned (.tuple #[.slice none 0 0, .int .i64 (checkG g)]) ∧ Ext W1 w' := hck.mono (fun e w' h => by
      obtain ⟨h1, h2⟩ := h
      rw [if_neg hz] at h1
      exact ⟨h1, h2⟩)
    have HZ := Lib.hid hz
    clear hz hck
    go_wp2_with ((with_reducible refine hck2.mono ?_); rintro e w2 ⟨rfl, hE2⟩)
    go_ret2
    refine ⟨?_, (hE1.trans hE2).alloc _⟩
    rw [if_neg HZ.out]; rfl
set_option maxHeartbeats 2000000 in
theorem Attack_any (w : World) (gv : Value) (g : Game) (hg : GameV w gv g) : Calls Try.prog 17 #[gv] w (AttackP g w) := by
  have hg0 := hg
  obtain ⟨rv, cr, ov, co, sv, cs, rfl, hr, ho, hs⟩ := hg
  obtain ⟨Ar, vr, rfl, _, _, _, _, hrm⟩ := id hr
  obtain ⟨Ao, rfl, hoc, _, hom⟩ := id ho
  obtain ⟨As, rfl, hsc, _, hsm⟩ := id hs
  unfold lenMax at hrm hom hsm
  go_enter Try.func17, Try.ntmps17
  go_upto_region 1 with fail
  refine wp_named ?_
  intro W1 hW1
  have hE1 : Ext w W1 := by rw [hW1]; exact (Ext.refl _).alloc _
  have k0 : ∀ w', Ext W1 w' → w'.cell? ⟨w.heap.size, 0, none⟩ = some (.int .i64 g.m.ins) := fun w' h => h.cell (by rw [hW1]; simp [go_sem])
  have k1 : ∀ w', Ext W1 w' → w'.cell? ⟨w.heap.size, 1, none⟩ = some (.int .i64 g.m.outs) := fun w' h => h.cell (by rw [hW1]; simp [go_sem])
  have k2 : ∀ w', Ext W1 w' → w'.cell? ⟨w.heap.size, 2, none⟩ = some (.slice Ar g.m.rows.length cr) := fun w' h => h.cell (by rw [hW1]; simp [go_sem])
  have k3 : ∀ w', Ext W1 w' → w'.cell? ⟨w.heap.size, 3, none⟩ = some (.slice Ao g.ours.length co) := fun w' h => h.cell (by rw [hW1]; simp [go_sem])
  have k4 : ∀ w', Ext W1 w' → w'.cell? ⟨w.heap.size, 4, none⟩ = some (.slice As g.set.length cs) := fun w' h => h.cell (by rw [hW1]; simp [go_sem])
  clear hW1
  have hE0 := Ext.refl W1
  have hck := Ranks_any W1 _ g (hg0.ext hE1)
  by_cases hz : checkG g = 0
  · have hF := (fine_iff g).1 hz
    have hck2 : Calls Try.prog 11 #[.agg #[.int .i64 g.m.ins, .int .i64 g.m.outs, .slice Ar g.m.rows.length cr, .slice Ao g.ours.length co, .slice As g.set.length cs]] W1 fun e w' => (∃ v A n, v = .slice A n n ∧ e = .returned (.tuple #[v, .int .i64 0]) ∧ OwnI W1 w' v (rankG g.m g.ours g.set)) ∧ Ext W1 w' := hck.mono (fun e w' h => by
      obtain ⟨h1, h2⟩ := h
      rw [if_pos hz] at h1
      obtain ⟨v, h3, A, h4, h5⟩ := h1
      exact ⟨⟨v, A, _, h4, h3, A, h4, h5⟩, h2⟩)
    have HZ := Lib.hid hz
    have HF := Lib.hid hF
    clear hz hck hF
    go_upto_region 2 with ((with_reducible refine hck2.mono ?_); rintro e w2 ⟨⟨v, A2, n2, rfl, rfl, hO2⟩, hE2⟩)
    have hL : (rankG g.m g.ours g.set).length = g.m.rows.length := by first | exact safeG_len g | exact rankG_len _ _ _
    have hn64 := HF.out.1.size
    have hft := hO2.fit (by rw [hL]; omega)
    refine wp_named ?_
    intro W3 hW3
    have hE3 : Ext w2 W3 := by rw [hW3]; exact alloc_ext _ _
    have hcell : W3.cell? ⟨w2.heap.size, 0, none⟩ = some (.slice A2 n2 n2) := by rw [hW3]; exact cell_of_blk (heap_alloc_new w2 _) 0 rfl
    clear hW3
    generalize w2.heap.size = b at *
    have hE4 := hE1.trans (hE2.trans hE3)
    have hEW := hE2.trans hE3
    have hst := strategy_any W3 _ g (hg0.ext hE4) HF.out 40 41 enters40 enters41 (.pointer (some ⟨b, 0, none⟩)) (.pointer (some ⟨b, 0, none⟩)) (atT g) (atV g)
      (fun W' h s hs => at1_any W' b _ g (hft.ext (hE3.trans h)) (h.cell hcell) s (by rw [hL]; exact hs)) (fun W' h s hs => at2_any W' b _ g (hft.ext (hE3.trans h)) (h.cell hcell) s (by rw [hL]; exact hs)) (fun u => rank_bd g.m HF.out.1 g.ours g.set u)
    clear hck2 hL hft hg0
    go_wp2_with ((with_reducible refine hst.mono ?_); rintro e w5 ⟨⟨v5, rfl, hO5⟩, hE5⟩)
    go_ret2
    refine ⟨?_, hE4.trans hE5⟩
    rw [if_pos HZ.out]
    exact ⟨_, rfl, hO5.mono hE4⟩
  · have hz' : (checkG g != 0) = true := by simpa using hz
    have hck2 : Calls Try.prog 11 #[.agg #[.int .i64 g.m.ins, .int .i64 g.m.outs, .slice Ar g.m.rows.length cr, .slice Ao g.ours.length co, .slice As g.set.length cs]] W1 fun e w' => e = .returned (.tuple #[.slice none 0 0, .int .i64 (checkG g)]) ∧ Ext W1 w' := hck.mono (fun e w' h => by
      obtain ⟨h1, h2⟩ := h
      rw [if_neg hz] at h1
      exact ⟨h1, h2⟩)
    have HZ := Lib.hid hz
    clear hz hck
    go_wp2_with ((with_reducible refine hck2.mono ?_); rintro e w2 ⟨rfl, hE2⟩)
    go_ret2
    refine ⟨?_, (hE1.trans hE2).alloc _⟩
    rw [if_neg HZ.out]; rfl
#print axioms Attack_any
end Go.Proofs.Yteadkafeabhhhaa
