/- The unfolded machine: how many rows, what they say, no more than eighteen configurations; al plain data. -/
import Derived.Test.YtggffdkgfgdaoaaDoorGG
import Derived.Test.YtggffdkgfgdaoaaDoorD0
namespace Go.Proofs.YtggffdkgfgdaoaaDoor
set_option linter.unusedVariables false
set_option linter.unusedSimpArgs false
theorem uAll_rows {x : Xt} (hx : xtR x = 0) : ∀ {i : Nat} {r : List Sp × List (List (Int × Int))}, uAll x i = some r → r.2.length ≤ i ∧ r.2.length ≤ r.1.length ∧ (r.2.length = i ∨ r.2.length = r.1.length)
  | 0, r, h => by unfold uAll at h; injection h with h; subst h; exact ⟨Nat.le_refl _, by simp, .inl rfl⟩
  | i + 1, r, h => by
    unfold uAll at h
    split at h
    · cases h
    · rename_i r1 h1
      obtain ⟨a1, a2, a3⟩ := uAll_rows hx h1
      have hok := uAll_ok hx h1
      split at h
      · rename_i hn
        injection h with h; subst h
        have := List.getElem?_eq_none_iff.1 hn
        exact ⟨by omega, a2, by omega⟩
      · rename_i c hc
        have hlt := (List.getElem?_eq_some_iff.1 hc).1
        split at h
        · cases h
        · rename_i q hq
          injection h with h; subst h
          have hp := (uRow_ok hx (hok.1.2 c (List.mem_of_getElem? hc)) hok.1 hq).2.1.length_le
          refine ⟨by simp; omega, by simp; omega, ?_⟩
          simp
          rcases a3 with a3 | a3
          · left; omega
          · omega
end Go.Proofs.YtggffdkgfgdaoaaDoor
