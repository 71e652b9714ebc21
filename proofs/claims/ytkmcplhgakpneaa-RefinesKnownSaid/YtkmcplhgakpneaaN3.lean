/- gauntletref02.Finer, gauntletref02.Count. -/
import Derived.Test.YtkmcplhgakpneaaE4
namespace Go.Proofs.Ytkmcplhgakpneaa
open Go.RowKit Go.Maps
set_option linter.unusedVariables false
set_option linter.unusedSimpArgs false
attribute [local go_sem] Oper.quietV quietV Oper.gives givesV ext_refl_iff ext_alloc_iff ext_drew_iff ext_drewN_iff

def finerAt (p q : List Int) (i k : Nat) : Bool := p.getD i 0 == p.getD k 0 && q.getD i 0 != q.getD k 0
def finerF (p q : List Int) : Bool := !(List.range p.length).any (fun i => (List.range i).any (fun k => finerAt p q i k))
theorem finerF_true {p q : List Int} (h : ∀ i, i < p.length → ∀ k, k < i → finerAt p q i k = false) : finerF p q = true := by
  unfold finerF
  rw [Bool.not_eq_true', List.any_eq_false]
  intro i hi
  rw [Bool.not_eq_true, List.any_eq_false]
  intro k hk
  rw [h i (List.mem_range.1 hi) k (List.mem_range.1 hk)]
  simp
theorem finerF_false {p q : List Int} {i k : Nat} (hi : i < p.length) (hk : k < i) (h : finerAt p q i k = true) : finerF p q = false := by
  unfold finerF
  rw [Bool.not_eq_false']
  exact List.any_eq_true.2 ⟨i, List.mem_range.2 hi, List.any_eq_true.2 ⟨k, List.mem_range.2 hk, h⟩⟩

set_option maxRecDepth 100000 in
set_option maxHeartbeats 1000000 in
theorem finer_any (w : World) (v u : Value) (p q : List Int) (cp cq : Nat) (hp : IntsC w v p cp) (hq : IntsC w u q cq) (hl : p.length ≤ q.length) :
    Calls Try.prog 20 #[v, u] w fun e w' => e = .returned (.int .i64 (if finerF p q then 1 else 0)) ∧ Ext w w' := by
  obtain ⟨A, rfl, hcp, _, hpm⟩ := hp
  obtain ⟨B, rfl, hcq, _, hqm⟩ := hq
  unfold lenMax at hpm hqm
  generalize hR : (if finerF p q then (1 : Int) else 0) = R
  have HR := Lib.hid hR
  clear hR
  go_enter Try.func20, Try.ntmps20
  go_wp2
  go_loopw [5] (fun i wr => ∃ k : Nat, k ≤ p.length ∧ i = .int .i64 k ∧ (∀ i, i < k → ∀ j, j < i → finerAt p q i j = false) ∧ Ext w wr) (fun i _ => p.length - (intOf i).toNat)
  case atStart => exact ⟨0, by omega, rfl, by omega, Ext.refl _⟩
  case round =>
    obtain ⟨i, hi, rfl, hok, hE⟩ := hrel
    obtain ⟨W1, hW1⟩ : ∃ W, W = wr := ⟨_, rfl⟩; subst hW1
    have HOK := Lib.hid hok
    clear hok
    by_cases hlt : i < p.length
    · obtain ⟨b, o, rfl, hb, c0⟩ := (hcp.ext hE).at_int hlt
      obtain ⟨b2, o2, rfl, hb2, c1⟩ := (hcq.ext hE).at_int (show i < q.length by omega)
      have c0 : ∀ w', Ext W1 w' → w'.cell? ⟨b, o + i, none⟩ = some (.int .i64 p[i]) := fun w' h => h.cell c0
      have c1 : ∀ w', Ext W1 w' → w'.cell? ⟨b2, o2 + i, none⟩ = some (.int .i64 q[i]) := fun w' h => h.cell c1
      go_wp2
      go_loopw [6] (fun kv w2 => ∃ k : Nat, k ≤ i ∧ kv = .int .i64 k ∧ (∀ j, j < k → finerAt p q i j = false) ∧ Ext W1 w2) (fun kv _ => i - (intOf kv).toNat)
      case atStart => exact ⟨0, by omega, rfl, by omega, Ext.refl _⟩
      case round =>
        obtain ⟨k, hk, rfl, hok2, hE2⟩ := hrel
        obtain ⟨W2, hW2⟩ : ∃ W, W = wr := ⟨_, rfl⟩; subst hW2
        have HOK2 := Lib.hid hok2
        clear hok2
        by_cases hkl : k < i
        · obtain ⟨b', o', hA, hb', d0⟩ := (hcp.ext (hE.trans hE2)).at_int (show k < p.length by omega)
          cases hA
          obtain ⟨b', o', hA, hb', d1⟩ := (hcq.ext (hE.trans hE2)).at_int (show k < q.length by omega)
          cases hA
          have c0 := c0 _ hE2
          have c1 := c1 _ hE2
          have hil : (i : Int) < (p.length : Int) := by omega
          have hkl' : (k : Int) < (p.length : Int) := by omega
          have hil2 : (i : Int) < (q.length : Int) := by omega
          have hkl2 : (k : Int) < (q.length : Int) := by omega
          have hf : finerAt p q i k = (p[i] == p[k] && q[i] != q[k]) := by
            unfold finerAt
            rw [getD_lt hlt, getD_lt (show k < p.length by omega), getD_lt (show i < q.length by omega), getD_lt (show k < q.length by omega)]
          generalize p[i] = x1 at *
          generalize p[k] = x2 at *
          generalize q[i] = y1 at *
          generalize q[k] = y2 at *
          have HF := Lib.hid hf
          clear hf hb hb2 hb'
          cases hx : (x1 == x2) with
          | false =>
            go_wp2
            go_quiet (fail)
            go_wp2
            go_roundw
            case rel => exact ⟨k + 1, by omega, by go_num, fun j hj => by
              by_cases hjk : j = k
              · subst hjk; rw [HF.out, hx]; rfl
              · exact HOK2.out j (by omega), hE2.drewN _⟩
            case measure => simp [intOf]; omega
          | true =>
            cases hy : (y1 != y2) with
            | false =>
              go_wp2
              go_quiet (fail)
              go_wp2
              go_roundw
              case rel => exact ⟨k + 1, by omega, by go_num, fun j hj => by
                by_cases hjk : j = k
                · subst hjk; rw [HF.out, hx, hy]; rfl
                · exact HOK2.out j (by omega), hE2.drewN _⟩
              case measure => simp [intOf]; omega
            | true =>
              have hres := finerF_false hlt hkl (by rw [HF.out, hx, hy]; rfl)
              have HRES := Lib.hid hres
              clear hres
              go_wp2
              go_quiet (fail)
              go_wp2
              go_ret
              exact ⟨by rw [← HR.out, HRES.out]; rfl, (hE.trans hE2).drewN _⟩
        · go_wp2
          go_roundw
          case rel => exact ⟨i + 1, by omega, by go_num, fun j hj k' hk' => by
            by_cases hji : j = i
            · subst hji; exact HOK2.out k' (by omega)
            · exact HOK.out j (by omega) k' hk', hE.trans hE2⟩
          case measure => simp [intOf]; omega
    · have hres : finerF p q = true := finerF_true (fun i' hi' => HOK.out i' (by omega))
      go_wp2
      go_ret
      exact ⟨by rw [← HR.out, hres]; rfl, hE⟩
end Go.Proofs.Ytkmcplhgakpneaa
