/- Lean: the list of ref27.Conforms beside the search of P2. -/
import Derived.Test.YtamodjlifpjaoaaDoorGC
import Derived.Test.YtamodjlifpjaoaaDoorGB
namespace Go.Proofs.YtamodjlifpjaoaaDoor
open Go.RowKit
set_option linter.unusedVariables false
set_option linter.unusedSimpArgs false
abbrev Sp := (Nat × Nat) × List Int
def keyC (x y : Lts) (L : List (Fd (Nat × Nat))) (n : Nat) : Nat × Nat := (L.getD n (rt (rootC x y))).key
def spL (x y : Lts) (L : List (Fd (Nat × Nat))) : List Sp := (List.range L.length).map (fun n => (keyC x y L n, wayC x y n))
theorem spL_len (x y : Lts) (L : List (Fd (Nat × Nat))) : (spL x y L).length = L.length := by unfold spL; rw [List.length_map, List.length_range]
theorem spL_get {x y : Lts} {L : List (Fd (Nat × Nat))} {n : Nat} (h : n < L.length) : (spL x y L)[n]? = some (keyC x y L n, wayC x y n) := by
  unfold spL
  rw [List.getElem?_map, List.getElem?_range h]; rfl
theorem spL_snoc (x y : Lts) (L : List (Fd (Nat × Nat))) (r : Fd (Nat × Nat)) : spL x y (L ++ [r]) = spL x y L ++ [(r.key, wayC x y L.length)] := by
  unfold spL
  rw [List.length_append, List.length_singleton, List.range_succ, List.map_append]
  congr 1
  · refine List.map_congr_left fun n hn => ?_
    have := List.mem_range.1 hn
    unfold keyC
    rw [List.getD_eq_getElem?_getD, List.getElem?_append_left this, ← List.getD_eq_getElem?_getD]
  · unfold keyC
    simp
/-- Within a round. -/
def midC (x y : Lts) (n j : Nat) : List (Fd (Nat × Nat)) := rowB (rootC x y) okC (goC x y n) n ((candC x y (keyC x y (goC x y n) n)).take j)
def nxtC (x y : Lts) (n j : Nat) : Nat × Nat := (aftM x (keyC x y (goC x y n) n).1 (j : Int), aftM y (keyC x y (goC x y n) n).2 (j : Int))
theorem midC_zero (x y : Lts) (n : Nat) : midC x y n 0 = goC x y n := rfl
theorem candC_len (x y : Lts) (t : Nat × Nat) : (candC x y t).length = x.I + x.O + 1 := by unfold candC labs; simp
theorem midC_full {x y : Lts} {n : Nat} (h : n < (goC x y n).length) : midC x y n (x.I + x.O + 1) = goC x y (n + 1) := by
  unfold midC
  rw [← candC_len x y (keyC x y (goC x y n) n), List.take_length]
  have h1 := goB_step (cand := candC x y) (List.getElem?_eq_getElem h)
  show _ = goB (rootC x y) (candC x y) okC (n + 1)
  rw [h1]
  unfold keyC
  rw [fd_get (List.getElem?_eq_getElem h)]
  rfl
theorem midC_pre {x y : Lts} {n : Nat} (h : n < (goC x y n).length) (j : Nat) : midC x y n j <+: goC x y (n + 1) := by
  rw [← midC_full h]
  unfold midC
  rw [← candC_len x y (keyC x y (goC x y n) n), List.take_length]
  exact rowB_take_pre _ _ _ _
theorem goC_pre {x y : Lts} {n : Nat} (h : n ≤ 4096) : goC x y n <+: fndL x y := goB_le (by rw [capC_eq]; exact h)
theorem midC_step {x y : Lts} {n j : Nat} (hj : j < x.I + x.O + 1) : midC x y n (j + 1) = addB (rootC x y) okC (midC x y n j) n ((j : Int), nxtC x y n j) := by
  unfold midC
  refine rowB_snoc _ _ ?_
  unfold candC labs nxtC
  rw [List.getElem?_map, List.getElem?_map, List.getElem?_range hj]; rfl
theorem midC_get {x y : Lts} {n j : Nat} (h : n < (goC x y n).length) : (midC x y n j)[n]? = some ((goC x y n)[n]'h) := by
  have h1 : goC x y n <+: midC x y n j := by unfold midC; exact rowB_pre _ _ _
  exact pre_get h1 (List.getElem?_eq_getElem h)
/-- What is not there yet comes to the end. -/
theorem midC_new {x y : Lts} {n j : Nat} (h : n < (goC x y n).length) (hn : n < 4096) (hj : j < x.I + x.O + 1) (ho : okC (nxtC x y n j) = true) (hi : inB (midC x y n j) (nxtC x y n j) = false) : spL x y (midC x y n (j + 1)) = spL x y (midC x y n j) ++ [(nxtC x y n j, wayC x y n ++ [(j : Int)])] := by
  have h1 := midC_step (x := x) (y := y) (n := n) hj
  unfold addB at h1
  rw [ho, hi, fd_get (midC_get h)] at h1
  simp only [Bool.not_true, Bool.or_false, Bool.false_eq_true, ↓reduceIte] at h1
  rw [h1, spL_snoc]
  congr 3
  have hp : midC x y n (j + 1) <+: fndL x y := (midC_pre h (j + 1)).trans (goC_pre (by omega))
  have hp2 : goC x y n <+: fndL x y := goC_pre (by omega)
  have e1 := pre_get hp2 (List.getElem?_eq_getElem h)
  have e2 : (fndL x y)[(midC x y n j).length]? = some (newB ((goC x y n)[n]'h) n ((j : Int), nxtC x y n j)) := pre_get hp (by rw [h1]; simp)
  have hl := ((goC_ok x y n).ln n _ (List.getElem?_eq_getElem h)).1
  exact wayB_new e1 hl e2
theorem midC_old {x y : Lts} {n j : Nat} (hj : j < x.I + x.O + 1) (h : okC (nxtC x y n j) = false ∨ inB (midC x y n j) (nxtC x y n j) = true) : midC x y n (j + 1) = midC x y n j := by
  have h1 := midC_step (x := x) (y := y) (n := n) hj
  unfold addB at h1
  rw [h1, if_pos]
  rcases h with h | h
  · simp [h]
  · rw [h]; simp
theorem goC_stop {x y : Lts} {n : Nat} (h : (goC x y n).length ≤ n) (hn : n ≤ 4096) : fndL x y = goC x y n := goB_stop h (by rw [capC_eq]; exact hn)
theorem midC_len {x y : Lts} (hx : Good x) (hy : Good y) (h5 : x.n ≤ 5) (h5' : y.n ≤ 5) {n : Nat} (h : n < (goC x y n).length) (j : Nat) : (midC x y n j).length ≤ 1024 := Nat.le_trans (midC_pre h j).length_le (goC_small hx hy h5 h5' _)
theorem midC_key {x y : Lts} (hx : Good x) (hy : Good y) {n j k : Nat} (h : n < (goC x y n).length) (hk : k < (midC x y n j).length) : (keyC x y (midC x y n j) k).1 < 2 ^ x.n ∧ (keyC x y (midC x y n j) k).2 < 2 ^ y.n := by
  have h1 := List.getElem?_eq_getElem hk
  have h2 := goC_key hx hy (n + 1) (List.mem_of_getElem? (pre_get (midC_pre h j) h1))
  unfold keyC
  rw [fd_get h1]
  exact ⟨h2.1, h2.2.1⟩
theorem goC_key' {x y : Lts} (hx : Good x) (hy : Good y) {n : Nat} (h : n < (goC x y n).length) : (keyC x y (goC x y n) n).1 < 2 ^ x.n ∧ (keyC x y (goC x y n) n).2 < 2 ^ y.n := midC_key (j := 0) hx hy h h
/-! ### What must not be observed -/
theorem find_at {α : Type} {p : α → Bool} {l : List α} {i : Nat} {a : α} (hi : l[i]? = some a) (hp : p a = true) (h : ∀ (j : Nat) (b : α), j < i → l[j]? = some b → p b = false) : l.find? p = some a := by
  induction l generalizing i with
  | nil => simp at hi
  | cons b l ih =>
    cases i with
    | zero => simp at hi; subst hi; simp [hp]
    | succ i =>
      rw [List.find?_cons_of_neg (by rw [h 0 b (by omega) rfl]; simp)]
      exact ih (by simpa using hi) (fun j c hj hc => h (j + 1) c (by omega) (by simpa using hc))
theorem find_no {α : Type} {p : α → Bool} {l : List α} (h : ∀ (j : Nat) (b : α), l[j]? = some b → p b = false) : l.find? p = none := by
  rw [List.find?_eq_none]
  intro b hb
  obtain ⟨j, hj⟩ := List.getElem?_of_mem hb
  rw [h j b hj]; simp
theorem has_obs {x y : Lts} (hi : x.ins = y.ins) (ho : x.outs = y.outs) {S T : Nat} {l : Int} (hl : l ∈ obsM x S) : hasL (obsM y T) l = !(aftM y T l == 0) := by
  have hO : x.O = y.O := by unfold Lts.O; rw [ho]
  obtain ⟨h1, _⟩ := obsM_iff.1 hl
  rw [hO, hi] at h1
  cases hz : aftM y T l == 0 with
  | true =>
    have hz := beq_iff_eq.1 hz
    cases hh : hasL (obsM y T) l with
    | false => rfl
    | true =>
      have := (obsM_iff.1 ((hasL_iff _ _).1 hh)).2
      exact absurd hz this
  | false =>
    have hz : aftM y T l ≠ 0 := fun e => by rw [e] at hz; simp at hz
    exact (hasL_iff _ _).2 (obsM_iff.2 ⟨h1, hz⟩)
theorem refConf_none {x y : Lts} (h : ∀ (m : Nat) (r : Fd (Nat × Nat)), (fndL x y)[m]? = some r → offC x y r = false) : refConf x y = (1, [], 0) := by
  unfold refConf
  have : (fndL x y).findIdx? (offC x y) = none := by
    rw [List.findIdx?_eq_none_iff]
    intro z hz
    obtain ⟨m, hm⟩ := List.getElem?_of_mem hz
    exact h m z hm
  rw [this]
theorem refConf_some {x y : Lts} {n : Nat} {r : Fd (Nat × Nat)} {l : Int} (hn : (fndL x y)[n]? = some r) (hb : badC x y r.key = some l) (h : ∀ (m : Nat) (z : Fd (Nat × Nat)), m < n → (fndL x y)[m]? = some z → offC x y z = false) : refConf x y = (0, wayC x y n, l) := by
  unfold refConf
  have : (fndL x y).findIdx? (offC x y) = some n := by
    rw [List.findIdx?_eq_some_iff_getElem]
    obtain ⟨h1, h2⟩ := List.getElem?_eq_some_iff.1 hn
    refine ⟨h1, by rw [h2]; unfold offC; rw [hb]; rfl, fun j hj => ?_⟩
    rw [h j _ hj (List.getElem?_eq_getElem (by omega))]; simp
  rw [this]
  simp only [fd_get hn, hb, Option.getD_some]
theorem mem_inj {S T : Nat} (hS : S < 2 ^ 64) (hT : T < 2 ^ 64) (h : mem S = mem T) : S = T := by
  refine Nat.eq_of_testBit_eq fun i => ?_
  have h1 := mem_iff (s := i) hS
  have h2 := mem_iff (s := i) hT
  rw [h] at h1
  cases hs : S.testBit i <;> cases ht : T.testBit i <;> simp_all
theorem memI_inj {S T : Nat} (hS : S < 2 ^ 64) (hT : T < 2 ^ 64) (h : memI S = memI T) : S = T := by
  refine mem_inj hS hT ?_
  unfold memI at h
  refine List.map_inj_right (f := fun (s : Nat) => (s : Int)) (fun a b h => ?_) |>.1 h
  have : (a : Int) = (b : Int) := h
  omega
theorem memI_beq {S T : Nat} (hS : S < 2 ^ 64) (hT : T < 2 ^ 64) : (memI S == memI T) = (S == T) := by
  by_cases h : S = T
  · subst h; simp
  · have h1 : (S == T) = false := by simpa using h
    rw [h1, beq_eq_false_iff_ne]
    exact fun e => h (memI_inj hS hT e)
theorem inB_step {x y : Lts} {L : List (Fd (Nat × Nat))} {k : Nat} (hk : k < L.length) (t : Nat × Nat) : (L.take (k + 1)).any (fun r => decide (r.key = t)) = ((L.take k).any (fun r => decide (r.key = t)) || decide (keyC x y L k = t)) := by
  have h1 := List.getElem?_eq_getElem hk
  rw [List.take_add_one, h1, List.any_append]
  unfold keyC
  rw [fd_get h1]
  simp
theorem way_last {x y : Lts} (hx : Good x) {n : Nat} {r : Fd (Nat × Nat)} (h : (fndL x y)[n]? = some r) : ((wayC x y n).length : Int) = r.ln := wayC_ln h
end Go.Proofs.YtamodjlifpjaoaaDoor
