/- classes.count, slices.Clip, cmp.Or, classes.both. -/
import Derived.Test.YtkmcplhgakpneaaE3
import Derived.Test.YtkmcplhgakpneaaL1
namespace Go.Proofs.Ytkmcplhgakpneaa
open Go.RowKit Go.Maps
set_option linter.unusedVariables false
set_option linter.unusedSimpArgs false
attribute [local go_sem] Oper.quietV quietV Oper.gives givesV ext_refl_iff ext_alloc_iff ext_drew_iff ext_drewN_iff

/-- The number of blocks, by the greatest number. -/
def cntC (p : List Int) : Int := p.foldl (fun n b => max n (b + 1)) 0
theorem cntC_snoc (p : List Int) (b : Int) : cntC (p ++ [b]) = max (cntC p) (b + 1) := by unfold cntC; rw [List.foldl_append]; rfl
theorem foldl_max_le : ∀ (p : List Int) (m B : Int), m ≤ B → (∀ x ∈ p, x + 1 ≤ B) → p.foldl (fun n b => max n (b + 1)) m ≤ B
  | [], m, B, hm, _ => hm
  | x :: p, m, B, hm, h => foldl_max_le p _ B (show max m (x + 1) ≤ B by have := h x (by simp); omega) (fun y hy => h y (by simp [hy]))
theorem foldl_max_ge : ∀ (p : List Int) (m : Int), m ≤ p.foldl (fun n b => max n (b + 1)) m ∧ ∀ x ∈ p, x + 1 ≤ p.foldl (fun n b => max n (b + 1)) m
  | [], m => by simp
  | x :: p, m => by
    have ih := foldl_max_ge p (max m (x + 1))
    simp only [List.foldl_cons]
    exact ⟨by omega, fun y hy => by
      rcases List.mem_cons.1 hy with rfl | hy
      · omega
      · exact ih.2 y hy⟩
theorem cntC_bound {p : List Int} (h : ∀ x ∈ p, 0 ≤ x ∧ x ≤ 1000) : 0 ≤ cntC p ∧ cntC p ≤ 1001 ∧ ∀ x ∈ p, x < cntC p := by
  have h1 := foldl_max_le p 0 1001 (by omega) (fun x hx => by have := h x hx; omega)
  have h2 := foldl_max_ge p 0
  exact ⟨h2.1, h1, fun x hx => by have := h2.2 x hx; unfold cntC; omega⟩

set_option maxRecDepth 100000 in
set_option maxHeartbeats 1000000 in
theorem count_any (w : World) (pv : Value) (p : List Int) (cp : Nat) (hp : IntsC w pv p cp) (hb : ∀ x ∈ p, 0 ≤ x ∧ x ≤ 1000) :
    Calls Try.prog 50 #[pv] w fun e w' => e = .returned (.int .i64 (cntC p)) ∧ Ext w w' := by
  obtain ⟨A, rfl, hcp, _, hpm⟩ := hp
  unfold lenMax at hpm
  have HB := Lib.hid hb
  clear hb
  go_enter Try.func50, Try.ntmps50
  go_wp2
  go_loop [8, 3] (fun i n => ∃ k : Nat, k ≤ p.length ∧ i = .int .i64 k ∧ n = .int .i64 (cntC (p.take k))) (fun i _ => p.length - (intOf i).toNat)
  case atStart => exact ⟨0, by omega, rfl, rfl⟩
  case round =>
    obtain ⟨k, hk, rfl, rfl⟩ := hrel
    by_cases hlt : k < p.length
    · obtain ⟨b, o, rfl, hb, c0⟩ := hcp.at_int hlt
      have hbd := HB.out _ (List.getElem_mem hlt)
      have hsn := cntC_snoc (p.take k) p[k]
      rw [← List.take_succ_eq_append_getElem hlt] at hsn
      have hkI : (k : Int) < (p.length : Int) := by omega
      generalize cntC (p.take k) = n at *
      generalize p[k] = x at *
      have HS := Lib.hid hsn
      clear hsn
      go_wp2
      all_goals
        go_round
        case rel => exact ⟨k + 1, by omega, by go_num, by rw [HS.out]; congr 1; omega⟩
        case measure => simp [intOf]; omega
    · have hkp : k = p.length := by omega
      have hkI : ¬ (k : Int) < (p.length : Int) := by omega
      rw [hkp, List.take_length]
      go_wp2
      go_ret
      exact ⟨rfl, Ext.refl _⟩

set_option maxRecDepth 100000 in
theorem clip_any (w : World) (A : Option Addr) (n c : Nat) (hc : n ≤ c) (hA : A = none → n = 0 ∧ c = 0) (hn : n ≤ 1000000) : Calls Try.prog 51 #[.slice A n c] w fun e w' => e = .returned (.slice A n n) ∧ Ext w w' := by
  cases A with
  | none =>
    obtain ⟨rfl, rfl⟩ := hA rfl
    go_enter Try.func51, Try.ntmps51
    go_wp2
    go_ret
    exact ⟨rfl, Ext.refl _⟩
  | some a =>
    have hcI : (n : Int) ≤ (c : Int) := by omega
    go_enter Try.func51, Try.ntmps51
    go_wp2
    go_ret
    exact ⟨rfl, Ext.refl _⟩

def orL (x y : Int) : Int := if x ≠ 0 then x else y
set_option maxRecDepth 100000 in
set_option maxHeartbeats 1000000 in
theorem or_any (w : World) (v : Value) (x y : Int) (c : Nat) (hv : IntsC w v [x, y] c) : Calls Try.prog 49 #[v] w fun e w' => e = .returned (.int .i64 (orL x y)) ∧ Ext w w' := by
  obtain ⟨A, rfl, hcp, _, _⟩ := hv
  have c0 := hcp.at_int (k := 0) (by simp)
  have c1 := hcp.at_int (k := 1) (by simp)
  obtain ⟨b, o, rfl, hb, c0⟩ := c0
  obtain ⟨b', o', hA, _, c1⟩ := c1
  cases hA
  simp only [List.getElem_cons_zero, List.getElem_cons_succ, Nat.add_zero] at c0 c1
  generalize hR : orL x y = R
  unfold orL at hR
  by_cases hx : x = 0
  · subst hx
    rw [if_neg (by simp)] at hR
    by_cases hy : y = 0
    · subst hy
      subst hR
      go_enter Try.func49, Try.ntmps49
      go_wp2
      go_loop [8] (fun i => i = .int .i64 0 ∨ i = .int .i64 1 ∨ i = .int .i64 2) (fun i => 2 - (intOf i).toNat)
      case atStart => exact .inl rfl
      case round =>
        rcases hrel with rfl | rfl | rfl
        · go_wp2
          go_round
          case rel => exact .inr (.inl rfl)
          case measure => simp [intOf]
        · go_wp2
          go_round
          case rel => exact .inr (.inr rfl)
          case measure => simp [intOf]
        · go_wp2
          go_ret
          exact ⟨rfl, Ext.refl _⟩
    · have hyb : (y != 0) = true := by simpa using hy
      subst hR
      go_enter Try.func49, Try.ntmps49
      go_wp2
      go_loop [8] (fun i => i = .int .i64 0 ∨ i = .int .i64 1) (fun i => 2 - (intOf i).toNat)
      case atStart => exact .inl rfl
      case round =>
        rcases hrel with rfl | rfl
        · go_wp2
          go_round
          case rel => exact .inr rfl
          case measure => simp [intOf]
        · go_wp2
          go_ret
          exact ⟨rfl, Ext.refl _⟩
  · rw [if_pos hx] at hR
    have hxb : (x != 0) = true := by simpa using hx
    subst hR
    go_enter Try.func49, Try.ntmps49
    go_wp2
    go_loop [8] (fun i => i = .int .i64 0) (fun i => 2 - (intOf i).toNat)
    case atStart => rfl
    case round =>
      subst hrel
      go_wp2
      go_ret
      exact ⟨rfl, Ext.refl _⟩

set_option maxRecDepth 100000 in
set_option maxHeartbeats 1000000 in
theorem both_ok (w : World) (pv qv : Value) (p q : List Int) (cp cq : Nat) (hp : IntsC w pv p cp) (hq : IntsC w qv q cq) (h1 : checkP p = 0) (h2 : checkP q = 0) (hl : p.length = q.length) :
    Calls Try.prog 40 #[pv, qv] w fun e w' => e = .returned (.int .i64 0) ∧ Ext w w' := by
  have hp0 := hp
  have hq0 := hq
  obtain ⟨A, rfl, _, _, hpm⟩ := hp
  obtain ⟨B, rfl, _, _, hqm⟩ := hq
  unfold lenMax at hpm hqm
  have ha := classesCheck_any w _ p cp hp0
  rw [h1] at ha
  have hb := fun w' (h : Ext w w') => classesCheck_any w' _ q cq (hq0.ext h)
  simp only [h2] at hb
  have hlb : ((p.length : Int) != (q.length : Int)) = false := by rw [hl]; simp
  clear h1 h2 hl
  go_enter Try.func40, Try.ntmps40
  go_wp2_with (first
    | (go_at_call 36; refine ha.mono ?_; rintro e w1 ⟨rfl, e1⟩; clear ha)
    | (go_at_call 36; refine (hb _ e1).mono ?_; rintro e w2 ⟨rfl, e2⟩)
    | (go_at_call 49; refine (or_any _ _ 0 0 2 ⟨some ⟨w2.heap.size, 0, none⟩, rfl, cellsAt_new w2 #[.int .i64 0, .int .i64 0] 30, by simp, by unfold lenMax; simp⟩).mono ?_; rintro e w3 ⟨rfl, e3⟩))
  go_ret
  exact ⟨rfl, ((e1.trans e2).alloc _).trans e3⟩
end Go.Proofs.Ytkmcplhgakpneaa
