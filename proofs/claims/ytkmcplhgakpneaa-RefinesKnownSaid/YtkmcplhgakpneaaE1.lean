/- classes.Check. -/
import Derived.Test.YtkmcplhgakpneaaS6
namespace Go.Proofs.Ytkmcplhgakpneaa
open Go.RowKit Go.Maps
set_option linter.unusedVariables false
set_option linter.unusedSimpArgs false
attribute [local go_sem] Oper.quietV quietV Oper.gives givesV ext_refl_iff ext_alloc_iff ext_drew_iff ext_drewN_iff

def canonFrom : Int → List Int → Bool
  | _, [] => true
  | n, b :: r => decide (0 ≤ b) && decide (b ≤ n) && canonFrom (if b = n then n + 1 else n) r
def checkP (p : List Int) : Int := if 256 < p.length then 3 else if canonFrom 0 p then 0 else 1

set_option maxRecDepth 100000 in
theorem classesCheck_any (w : World) (v : Value) (p : List Int) (c : Nat) (hp : IntsC w v p c) :
    Calls Try.prog 36 #[v] w fun e w' => e = .returned (.int .i64 (checkP p)) ∧ Ext w w' := by
  obtain ⟨A, rfl, hc, _, hpm⟩ := hp
  unfold lenMax at hpm
  by_cases h256 : 256 < p.length
  · have hck : checkP p = 3 := if_pos h256
    have h1 : (256 : Int) < (p.length : Int) := by omega
    rw [hck]
    clear hck
    go_enter Try.func36, Try.ntmps36
    go_wp2
    go_ret
    exact ⟨rfl, Ext.refl _⟩
  · have hck : checkP p = if canonFrom 0 p then 0 else 1 := if_neg h256
    have h1 : ¬ (256 : Int) < (p.length : Int) := by omega
    generalize checkP p = R at hck ⊢
    have HR := Lib.hid hck
    clear hck
    go_enter Try.func36, Try.ntmps36
    go_wp2
    go_loopw [11, 3] (fun i nx wr => ∃ (k : Nat) (n : Int), k ≤ p.length ∧ i = .int .i64 k ∧ nx = .int .i64 n ∧ 0 ≤ n ∧ n ≤ k ∧ canonFrom n (p.drop k) = canonFrom 0 p ∧ Ext w wr) (fun i _ _ => p.length - (intOf i).toNat)
    case atStart => exact ⟨0, 0, by omega, rfl, rfl, by omega, by omega, rfl, Ext.refl _⟩
    case round =>
      obtain ⟨k, n, hk, rfl, rfl, hn0, hnk, hcan, hE⟩ := hrel
      by_cases hlt : k < p.length
      · obtain ⟨b, o, rfl, hb, c0⟩ := (hc.ext hE).at_int hlt
        rw [List.drop_eq_getElem_cons hlt] at hcan
        simp only [canonFrom] at hcan
        have HC := Lib.hid hcan
        clear hcan
        by_cases ha : p[k] < 0
        · go_wp2
          go_ret
          have hRc := HR.out
          rw [← HC.out, if_neg (by simp; omega)] at hRc
          rw [hRc]
          exact ⟨rfl, hE⟩
        · by_cases hb : n < p[k]
          · go_wp2
            go_ret
            have hRc := HR.out
            rw [← HC.out, if_neg (by simp; omega)] at hRc
            rw [hRc]
            exact ⟨rfl, hE⟩
          · have hc := HC.out
            rw [decide_eq_true (show 0 ≤ p[k] by omega), decide_eq_true (show p[k] ≤ n by omega), Bool.true_and, Bool.true_and] at hc
            have HC2 := Lib.hid hc
            clear hc HC
            by_cases he : p[k] = n
            · have he' : (p[k] == n) = true := by simp [he]
              have HE := Lib.hid he
              clear he
              go_wp2
              have hc := HC2.out
              rw [if_pos HE.out] at hc
              refine ⟨⟨k + 1, n + 1, by omega, by go_num, rfl, by omega, by omega, hc, hE⟩, ?_⟩
              simp [intOf]; omega
            · have he' : (p[k] == n) = false := by simp [he]
              have HE := Lib.hid he
              clear he
              go_wp2
              have hc := HC2.out
              rw [if_neg HE.out] at hc
              refine ⟨⟨k + 1, n, by omega, by go_num, rfl, by omega, by omega, hc, hE⟩, ?_⟩
              simp [intOf]; omega
      · have hdr : p.drop k = [] := List.drop_eq_nil_of_le (by omega)
        rw [hdr] at hcan
        go_wp2
        go_ret
        exact ⟨by rw [HR.out, ← hcan]; rfl, hE⟩
end Go.Proofs.Ytkmcplhgakpneaa
