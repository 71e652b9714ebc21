/- The chain of 64 states: ranks and strategies out of a rank that is checked state by state. Plain lists. -/
import Derived.Test.YteadkafeabhhhaaA1
import Derived.Test.YteadkafeabhhhaaE1
import Derived.Test.YteadkafeabhhhaaG4
namespace Go.Proofs.Yteadkafeabhhhaa
open Go.RowKit
set_option linter.unusedVariables false
set_option linter.unusedSimpArgs false

def rankOk (g : Gr) (r : Nat → Int) (s : Nat) : Bool :=
  if g.goal s then decide (r s = 0) else
  decide (r s = -1 ∨ 1 ≤ r s) &&
  if g.turn s then (if r s = -1 then (g.sc s).all (fun u => decide (r u = -1)) else (g.sc s).any (fun u => decide (r u = r s - 1)) && (g.sc s).all (fun u => decide (r u = -1 ∨ r s - 1 ≤ r u)))
  else (if r s = -1 then (g.sc s).isEmpty || (g.sc s).any (fun u => decide (r u = -1)) else (g.sc s).any (fun u => decide (r u = r s - 1)) && (g.sc s).all (fun u => decide (0 ≤ r u ∧ r u ≤ r s - 1)))
theorem rankOk_is {g : Gr} {r : Nat → Int} (h : (List.range g.n).all (rankOk g r) = true) : IsRank g r := by
  have h0 : ∀ s, s < g.n → rankOk g r s = true := fun s hs => List.all_eq_true.1 h s (List.mem_range.2 hs)
  refine ⟨fun s hs hg => ?_, fun s hs hg => ?_, fun s hs hg ht hr => ?_, fun s hs hg ht k hk hr => ?_, fun s hs hg ht hr => ?_, fun s hs hg ht k hk hr => ?_⟩
  all_goals have h1 := h0 s hs; unfold rankOk at h1; rw [hg] at h1
  · simpa using h1
  · simp only [Bool.false_eq_true, if_false, Bool.and_eq_true] at h1
    simpa using h1.1
  · simp only [Bool.false_eq_true, if_false, Bool.and_eq_true, ht, if_true, if_pos hr] at h1
    intro u hu; simpa using List.all_eq_true.1 h1.2 u hu
  · have hne : ¬ r s = -1 := by omega
    simp only [Bool.false_eq_true, if_false, Bool.and_eq_true, ht, if_true, if_neg hne] at h1
    obtain ⟨_, h2, h3⟩ := h1
    obtain ⟨u, hu, he⟩ := List.any_eq_true.1 h2
    refine ⟨⟨u, hu, by have := of_decide_eq_true he; omega⟩, fun u hu => ?_⟩
    have := of_decide_eq_true (List.all_eq_true.1 h3 u hu)
    omega
  · simp only [Bool.false_eq_true, if_false, Bool.and_eq_true, ht, if_pos hr, Bool.or_eq_true] at h1
    rcases h1.2 with h2 | h2
    · exact .inl (by simpa using h2)
    · obtain ⟨u, hu, he⟩ := List.any_eq_true.1 h2
      exact .inr ⟨u, hu, of_decide_eq_true he⟩
  · have hne : ¬ r s = -1 := by omega
    simp only [Bool.false_eq_true, if_false, Bool.and_eq_true, ht, if_neg hne] at h1
    obtain ⟨_, h2, h3⟩ := h1
    obtain ⟨u, hu, he⟩ := List.any_eq_true.1 h2
    refine ⟨⟨u, hu, by have := of_decide_eq_true he; omega⟩, fun u hu => ?_⟩
    have := of_decide_eq_true (List.all_eq_true.1 h3 u hu)
    omega

def chR (s : Nat) : List (Int × Int) := [(0, 0), (((min (s + 1) 63 : Nat) : Int), 0)]
def chM : Mach := ⟨2, 1, (List.range 64).map chR⟩
def chS : List Bool := (List.range 64).map (fun s => s == 63)
def chO : List Bool := (List.range 64).map (fun _ => true)
def chG : Game := ⟨chM, chO, chS⟩
def chO2 : List Bool := chO.set 40 false
def rk1 (s : Nat) : Int := 63 - (s : Int)
def rk2 (s : Nat) : Int := if s = 63 then 0 else -1
def rk3 (s : Nat) : Int := if s ≤ 40 then -1 else 63 - (s : Int)
theorem ch_ok (ts : List Bool) : (grOf chM ts chS).Ok := fun s hs u hu => by
  have hs : s < 64 := hs
  have hu : u ∈ sucE (chM.row s) := hu
  have hr : chM.row s = chR s := by unfold Mach.row chM; exact getD_rangeMap _ _ hs
  rw [hr] at hu
  show u < 64
  unfold chR sucE at hu
  simp only [List.mem_map, List.mem_filter] at hu
  obtain ⟨e, ⟨he, _⟩, rfl⟩ := hu
  simp at he
  rcases he with rfl | rfl
  · simp
  · simp; omega
theorem rank1 : rankG chM chO chS = (List.range 64).map (cutAt rk1 64) := force_eq (ch_ok _) (rankOk_is (by decide +kernel)) 64
theorem rank2 : rankG chM (othersL chO) chS = (List.range 64).map (cutAt rk2 64) := force_eq (ch_ok _) (rankOk_is (by decide +kernel)) 64
theorem rank3 : rankG chM chO2 chS = (List.range 64).map (cutAt rk3 64) := force_eq (ch_ok _) (rankOk_is (by decide +kernel)) 64
theorem ch_valid : checkM chM = 0 := by decide +kernel
theorem ch_check : checkG chG = 0 := by decide +kernel
theorem ch_check2 : checkG ⟨chM, chO2, chS⟩ = 0 := by decide +kernel
def vv (r : List Int) (s : Nat) : Int := r.getD s 0
def chA : List Int := (List.range 64).map (fun s => if s = 63 then -1 else 1)
def chB : List Int := (List.range 64).map (fun s => if s = 63 then -1 else 0)
theorem ch_attack : attackL chG = chA := by
  have h : atV chG = fun s => ((List.range 64).map (cutAt rk1 64)).getD s 0 := by
    funext s; unfold atV; rw [show rankG chG.m chG.ours chG.set = _ from rank1]
  have h2 : atT chG = fun s => decide (0 < ((List.range 64).map (cutAt rk1 64)).getD s 0) := by
    funext s; unfold atT; rw [h]
  unfold attackL
  rw [h, h2]
  decide +kernel
theorem ch_avoid : avoidL chG = chB := by
  have h : avT chG = fun s => (((List.range 64).map (cutAt rk2 64)).map (· == -1)).getD s false := by
    funext s; unfold avT safeG; rw [show rankG chG.m (othersL chG.ours) chG.set = _ from rank2]
  have h2 : avV chG = fun s => if (((List.range 64).map (cutAt rk2 64)).map (· == -1)).getD s false then 0 else -1 := by
    funext s; unfold avV; rw [h]
  unfold avoidL
  rw [h, h2]
  decide +kernel
theorem ch_strat : stratE chG chA = 0 := by decide +kernel
theorem ch_comes : (comesL (folL chG chA) chS).1 = false ∧ (comesL (folL chG chA) chS).2.length = 63 := by decide +kernel
theorem ch_wins : wins (folL chG chA) chS = true := by
  have h : forceL (grM (folL chG chA) chS) 64 = (List.range 64).map (cutAt rk1 64) := by
    refine force_eq (g := grM (folL chG chA) chS) (r := rk1) (fun s hs u hu => ?_) (rankOk_is (by decide +kernel)) 64
    have h1 : (List.range 64).all (fun s => (sucM ((folL chG chA).getD s [])).all (fun u => decide (u < 64))) = true := by decide +kernel
    have h2 := List.all_eq_true.1 h1 s (List.mem_range.2 hs)
    exact of_decide_eq_true (List.all_eq_true.1 h2 u hu)
  unfold wins
  rw [show (folL chG chA).length = 64 from by decide +kernel, h]
  decide +kernel
end Go.Proofs.Yteadkafeabhhhaa
