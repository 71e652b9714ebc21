/- IocosErrors 8: the list, taken for a trace, for states, and for a plan. -/
import Derived.Test.YtamodjlifpjaoaaDoorU1
import Derived.Test.YtamodjlifpjaoaaDoorGJ
namespace Go.Proofs.YtamodjlifpjaoaaDoor
open Go.RowKit
set_option linter.unusedVariables false
set_option linter.unusedSimpArgs false
attribute [local go_sem] Oper.quietV quietV Oper.gives givesV ext_refl_iff ext_alloc_iff ext_drew_iff ext_drewN_iff
/-- The error of a list of numbers with a limit. -/
def fK (n : Nat) (b : Bool) : Int := if 256 < n then 3 else if b then 1 else 0
theorem fK_step (n : Nat) (b c : Bool) : fK n (b || c) = if fK n b = 0 ∧ c = true then 1 else fK n b := by
  unfold fK
  by_cases h : 256 < n
  · simp [h]
  · cases b <;> cases c <;> simp [h]
theorem fK_start (n : Nat) : fK n false = if 256 < n then 3 else 0 := rfl
theorem after_err {x : Lts} (h : checkI x = 0) (ls : List Int) : (afterR x ls).2 = fK ls.length (ls.any (badT x)) := by
  unfold afterR fK
  rw [if_neg (by simpa using h)]
  by_cases h1 : 256 < ls.length
  · rw [if_pos h1, if_pos h1]
  · rw [if_neg h1, if_neg h1]
    cases ls.any (badT x) <;> rfl
theorem after_none {x : Lts} {ls : List Int} (h : (afterR x ls).2 ≠ 0) : (afterR x ls).1 = [] := by
  unfold afterR at h ⊢
  split
  · rfl
  · rename_i h1
    rw [if_neg h1] at h
    split
    · rfl
    · rename_i h2
      rw [if_neg h2] at h
      split
      · rfl
      · rename_i h3
        rw [if_neg h3] at h
        exact absurd rfl h
theorem observe_err {x : Lts} (h : checkI x = 0) (ls : List Int) : (observeR x ls).2 = b01 (badSt x ls) := by
  unfold observeR
  rw [if_neg (by simpa using h)]
  cases badSt x ls <;> rfl
theorem observe_none {x : Lts} {ls : List Int} (h : (observeR x ls).2 ≠ 0) : (observeR x ls).1 = [] := by
  unfold observeR at h ⊢
  split
  · rfl
  · rename_i h1
    rw [if_neg h1] at h
    split
    · rfl
    · rename_i h2
      rw [if_neg h2] at h
      exact absurd rfl h
theorem make_none {x : Lts} {ls : List Int} (h : (makeR x ls).2 ≠ 0) : (makeR x ls).1 = [] := by
  unfold makeR at h ⊢
  split
  · rfl
  · rename_i h1
    rw [if_neg h1] at h
    split
    · rfl
    · rename_i h2
      rw [if_neg h2] at h
      split
      · rfl
      · rename_i h3
        rw [if_neg h3] at h
        split
        · rfl
        · rename_i h4
          rw [if_neg h4] at h
          exact absurd rfl h
theorem make_err {x : Lts} (h : checkI x = 0) (ls : List Int) : (makeR x ls).2 = fK ls.length (ls.any (badP x)) ∨ (makeR x ls).2 = 3 ∧ fK ls.length (ls.any (badP x)) = 0 := by
  unfold makeR fK
  rw [if_neg (by simpa using h)]
  by_cases h1 : 256 < ls.length
  · rw [if_pos h1, if_pos h1]; exact .inl rfl
  · rw [if_neg h1, if_neg h1]
    cases hq : ls.any (badP x) with
    | true => exact .inl rfl
    | false =>
      rw [if_neg (by simp)]
      by_cases h4 : 1024 < (mkT x ls (begM x) 0).length
      · rw [if_pos h4]; exact .inr ⟨rfl, rfl⟩
      · rw [if_neg h4]; exact .inl rfl
theorem badSt_step (x : Lts) (ls : List Int) (i : Nat) : (List.range (i + 1)).any (badS x ls) = ((List.range i).any (badS x ls) || badS x ls i) := by
  rw [List.range_succ, List.any_append]; simp
end Go.Proofs.YtamodjlifpjaoaaDoor
