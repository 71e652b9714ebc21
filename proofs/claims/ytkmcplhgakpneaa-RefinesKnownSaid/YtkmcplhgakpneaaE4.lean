/- gauntletref02.Check. -/
import Derived.Test.YtkmcplhgakpneaaE1
namespace Go.Proofs.Ytkmcplhgakpneaa
open Go.RowKit Go.Maps
set_option linter.unusedVariables false
set_option linter.unusedSimpArgs false
attribute [local go_sem] Oper.quietV quietV Oper.gives givesV ext_refl_iff ext_alloc_iff ext_drew_iff ext_drewN_iff

def firstB (p : List Int) (k : Nat) : Bool := !((p.take k).contains (p.getD k 0))
def cntB (p : List Int) (n : Nat) : Nat := (List.range n).countP (firstB p)
def leastI (p : List Int) (i : Nat) : Nat := p.idxOf (p.getD i 0)
def okAt (p : List Int) (i : Nat) : Prop := p.getD i 0 = (cntB p (leastI p i) : Int)
instance (p : List Int) (i : Nat) : Decidable (okAt p i) := inferInstanceAs (Decidable (_ = _))

theorem cntB_succ (p : List Int) (n : Nat) : cntB p (n + 1) = cntB p n + (if firstB p n then 1 else 0) := by
  unfold cntB
  rw [List.range_succ, List.countP_append, List.countP_cons, List.countP_nil]
  simp
theorem cntB_le (p : List Int) : ∀ n, cntB p n ≤ n
  | 0 => by simp [cntB]
  | n + 1 => by rw [cntB_succ]; have := cntB_le p n; split <;> omega
theorem getD_lt {p : List Int} {i : Nat} (hi : i < p.length) : p.getD i 0 = p[i] := by simp [List.getD, hi]

theorem leastI_eq {p : List Int} {i j : Nat} (hi : i < p.length) (hj : j ≤ i) (he : p[j] = p[i]) (hn : ∀ k, (hk : k < j) → p[k] ≠ p[i]) : leastI p i = j := by
  unfold leastI
  rw [getD_lt hi]
  refine (List.findIdx_eq (by omega)).2 ⟨by simp [he], fun k hk => by simpa using hn k hk⟩
/-- leastI is the first place of the element. -/
theorem leastI_spec {p : List Int} {i : Nat} (hi : i < p.length) : ∃ hj : leastI p i ≤ i, p[leastI p i] = p[i] ∧ ∀ k, (hk : k < leastI p i) → p[k] ≠ p[i] := by
  have hlt : leastI p i < p.length := by
    unfold leastI; rw [getD_lt hi]; exact List.idxOf_lt_length_of_mem (List.getElem_mem hi)
  have h := (List.findIdx_eq hlt (p := fun a => a == p.getD i 0)).1 rfl
  rw [getD_lt hi] at h
  have hle : leastI p i ≤ i := by
    apply Nat.le_of_not_lt
    intro hc
    have := h.2 i hc
    simp at this
  exact ⟨hle, by simpa using h.1, fun k hk => by simpa using h.2 k hk⟩
theorem leastI_least {p : List Int} {i : Nat} (hi : i < p.length) : leastI p (leastI p i) = leastI p i := by
  obtain ⟨h1, h2, h3⟩ := leastI_spec hi
  exact leastI_eq (by omega) (Nat.le_refl _) rfl (fun k hk => by rw [h2]; exact h3 k hk)

/-- The canonical partitions, by either word. -/
theorem canon_iff (p : List Int) : ∀ (d k : Nat) (n : Int), k + d = p.length → n = cntB p k → (∀ v, v ∈ p.take k ↔ 0 ≤ v ∧ v < n) → (∀ i, i < k → okAt p i) →
    (canonFrom n (p.drop k) = true ↔ ∀ i, k ≤ i → i < p.length → okAt p i)
  | 0, k, n, hd, _, _, _ => by
    rw [List.drop_eq_nil_of_le (by omega)]
    simp only [canonFrom, true_iff]
    intro i h1 h2; omega
  | d + 1, k, n, hd, hn, hm, hok => by
    have hk : k < p.length := by omega
    rw [List.drop_eq_getElem_cons hk]
    simp only [canonFrom, Bool.and_eq_true, decide_eq_true_eq]
    have hfb : firstB p k = true ↔ p[k] ∉ p.take k := by
      unfold firstB; rw [getD_lt hk]; simp
    have hmem : ∀ v, v ∈ p.take (k + 1) ↔ v ∈ p.take k ∨ v = p[k] := fun v => by
      rw [List.take_succ_eq_append_getElem hk, List.mem_append, List.mem_singleton]
    have hnew : p[k] ∉ p.take k → leastI p k = k := fun h => leastI_eq hk (Nat.le_refl _) rfl (fun j hj he => h (by
      rw [← he]; exact List.mem_iff_getElem.2 ⟨j, by rw [List.length_take]; omega, by simp⟩))
    by_cases hin : p[k] ∈ p.take k
    · have hr := (hm _).1 hin
      obtain ⟨j, hj, hje⟩ := List.mem_iff_getElem.1 hin
      rw [List.length_take] at hj
      have hjk : j < k := by omega
      simp only [List.getElem_take] at hje
      have hkok : okAt p k := by
        have hl : leastI p k = leastI p j := by
          unfold leastI; rw [getD_lt hk, getD_lt (show j < p.length by omega), hje]
        have h2 := hok j hjk
        unfold okAt at h2 ⊢
        rw [hl, ← h2, getD_lt hk, getD_lt (show j < p.length by omega), hje]
      have hne : ¬ p[k] = n := by omega
      rw [if_neg hne]
      have hfb' : firstB p k = false := by
        cases h : firstB p k
        · rfl
        · exact absurd hin (hfb.1 h)
      have ih := canon_iff p d (k + 1) n (by omega) (by rw [cntB_succ, hfb', hn]; simp) (fun v => by
        rw [hmem]
        constructor
        · rintro (h | rfl)
          · exact (hm v).1 h
          · exact hr
        · exact fun h => .inl ((hm v).2 h)) (fun i hi => by
          rcases Nat.lt_or_ge i k with h | h
          · exact hok i h
          · have : i = k := by omega
            subst this; exact hkok)
      rw [ih]
      constructor
      · rintro ⟨_, h⟩ i h1 h2
        rcases Nat.lt_or_ge k i with h3 | h3
        · exact h i (by omega) h2
        · have : i = k := by omega
          subst this; exact hkok
      · intro h
        exact ⟨⟨hr.1, by omega⟩, fun i h1 h2 => h i (by omega) h2⟩
    · have hl := hnew hin
      have hokk : okAt p k ↔ p[k] = n := by
        unfold okAt
        rw [hl, getD_lt hk, hn]
      by_cases hpn : p[k] = n
      · rw [if_pos hpn]
        have hfb' : firstB p k = true := hfb.2 hin
        have hn0 : 0 ≤ n := by rw [hn]; omega
        have ih := canon_iff p d (k + 1) (n + 1) (by omega) (by rw [cntB_succ, hfb', hn]; simp) (fun v => by
          rw [hmem]
          constructor
          · rintro (h | rfl)
            · have := (hm v).1 h; omega
            · omega
          · intro h
            by_cases hv : v < n
            · exact .inl ((hm v).2 ⟨h.1, hv⟩)
            · exact .inr (by omega)) (fun i hi => by
            rcases Nat.lt_or_ge i k with h | h
            · exact hok i h
            · have : i = k := by omega
              subst this; exact hokk.2 hpn)
        rw [ih]
        constructor
        · rintro ⟨_, h⟩ i h1 h2
          rcases Nat.lt_or_ge k i with h3 | h3
          · exact h i (by omega) h2
          · have : i = k := by omega
            subst this; exact hokk.2 hpn
        · intro h
          exact ⟨⟨by omega, by omega⟩, fun i h1 h2 => h i (by omega) h2⟩
      · constructor
        · rintro ⟨⟨h1, h2⟩, _⟩
          exact absurd ((hm p[k]).2 ⟨h1, by omega⟩) hin
        · intro h
          exact absurd (hokk.1 (h k (Nat.le_refl _) hk)) hpn

def refCheck (p : List Int) : Int := if 256 < p.length then 3 else if ∀ i, i < p.length → okAt p i then 0 else 1
theorem refCheck_eq (p : List Int) : refCheck p = checkP p := by
  unfold refCheck checkP
  have := canon_iff p p.length 0 0 (by omega) (by simp [cntB]) (by simp) (by omega)
  simp only [List.drop_zero] at this
  split
  · rfl
  · simp only [this, Nat.zero_le, true_implies]

theorem contains_take (p : List Int) {k m : Nat} (hm : m < p.length) : (p.take (m + 1)).contains (p.getD k 0) = ((p.take m).contains (p.getD k 0) || p[m] == p.getD k 0) := by
  apply Bool.eq_iff_iff.2
  rw [List.take_succ_eq_append_getElem hm]
  simp only [List.contains_iff_mem, List.mem_append, List.mem_singleton, Bool.or_eq_true, beq_iff_eq]
  exact or_congr Iff.rfl ⟨Eq.symm, Eq.symm⟩

def fstN (p : List Int) (k m : Nat) : Int := if (p.take m).contains (p.getD k 0) then 0 else 1
theorem fstN_hit {p : List Int} {k m : Nat} (hm : m < p.length) (hk : k < p.length) (h : p[m] = p[k]) : fstN p k (m + 1) = 0 := by
  unfold fstN; rw [contains_take p hm, getD_lt hk, h]; simp
theorem fstN_miss {p : List Int} {k m : Nat} (hm : m < p.length) (hk : k < p.length) (h : ¬ p[m] = p[k]) : fstN p k (m + 1) = fstN p k m := by
  unfold fstN; rw [contains_take p hm, getD_lt hk, show (p[m] == p[k]) = false by simpa using h, Bool.or_false]
theorem fstN_cnt (p : List Int) (k : Nat) : (cntB p k : Int) + fstN p k k = (cntB p (k + 1) : Nat) := by
  rw [cntB_succ]
  unfold fstN firstB
  cases (p.take k).contains (p.getD k 0) <;> simp
theorem fstN_01 (p : List Int) (k m : Nat) : 0 ≤ fstN p k m ∧ fstN p k m ≤ 1 := by unfold fstN; split <;> omega

set_option maxRecDepth 100000 in
set_option maxHeartbeats 800000 in
theorem refCheck_any (w : World) (v : Value) (p : List Int) (c : Nat) (hp : IntsC w v p c) :
    Calls Try.prog 11 #[v] w fun e w' => e = .returned (.int .i64 (refCheck p)) ∧ Ext w w' := by
  obtain ⟨A, rfl, hc, _, hpm⟩ := hp
  unfold lenMax at hpm
  generalize hR : refCheck p = R
  by_cases h256 : 256 < p.length
  · unfold refCheck at hR
    rw [if_pos h256] at hR
    subst hR
    have h1 : (256 : Int) < (p.length : Int) := by omega
    go_enter Try.func11, Try.ntmps11
    go_wp2
    go_ret
    exact ⟨rfl, Ext.refl _⟩
  · unfold refCheck at hR
    rw [if_neg h256] at hR
    have h1 : ¬ (256 : Int) < (p.length : Int) := by omega
    have HR := Lib.hid hR
    clear hR
    go_enter Try.func11, Try.ntmps11
    go_wp2
    go_loopw [3] (fun i wr => ∃ k : Nat, k ≤ p.length ∧ i = .int .i64 k ∧ (∀ j, j < k → okAt p j) ∧ Ext w wr) (fun i _ => p.length - (intOf i).toNat)
    case atStart => exact ⟨0, by omega, rfl, by omega, Ext.refl _⟩
    case round =>
      obtain ⟨i, hi, rfl, hok, hE⟩ := hrel
      obtain ⟨W1, hW1⟩ : ∃ W, W = wr := ⟨_, rfl⟩; subst hW1
      have HOK := Lib.hid hok
      clear hok
      by_cases hlt : i < p.length
      · obtain ⟨b, o, rfl, hb, c0⟩ := (hc.ext hE).at_int hlt
        have hcr : ∀ j (hj : j < p.length) w', Ext W1 w' → w'.cell? ⟨b, o + j, none⟩ = some (.int .i64 p[j]) := fun j hj w' hw => by
          obtain ⟨b', o', hA, _, h⟩ := (hc.ext hE).at_int hj
          cases hA; exact hw.cell h
        have HCR := Lib.hid hcr
        have ci := hcr i hlt
        clear hcr c0
        go_wp2
        go_loopw [5, 4] (fun kv lv w2 => ∃ (k : Int) (l : Nat), kv = .int .i64 k ∧ lv = .int .i64 l ∧ -1 ≤ k ∧ k < l ∧ (∃ hl : l ≤ i, p[l] = p[i] ∧ ∀ j, (hj : j < l) → k < j → p[j] ≠ p[i]) ∧ Ext W1 w2) (fun kv _ _ => (intOf kv + 1).toNat)
        case atStart => exact ⟨(i : Int) - 1, i, rfl, rfl, by omega, by omega, ⟨Nat.le_refl _, rfl, fun j hj h => by omega⟩, Ext.refl _⟩
        case round =>
          obtain ⟨k, l, rfl, rfl, hk1, hkl, ⟨hl, hle, hln⟩, hE2⟩ := hrel
          have HLN := Lib.hid (And.intro hle hln)
          clear hle hln
          by_cases hk0 : 0 ≤ k
          · obtain ⟨k, rfl⟩ := Int.eq_ofNat_of_zero_le hk0
            have hkn : k < p.length := by omega
            have ck := HCR.out k hkn
            by_cases heq : p[k] = p[i]
            · have heq' : (p[k] == p[i]) = true := by simp [heq]
              have HE := Lib.hid heq
              clear heq
              go_wp2
              go_quiet (fail)
              go_wp2
              refine ⟨⟨(k : Int) - 1, k, rfl, rfl, by omega, by omega, ⟨by omega, HE.out, fun j hj h => by omega⟩, hE2.drewN _⟩, ?_⟩
              simp [intOf]
            · have heq' : (p[k] == p[i]) = false := by simp [heq]
              have HE := Lib.hid heq
              clear heq
              go_wp2
              go_quiet (fail)
              go_wp2
              refine ⟨⟨(k : Int) - 1, l, rfl, rfl, by omega, by omega, ⟨hl, HLN.out.1, fun j hj h => by
                by_cases hjk : j = k
                · subst hjk; exact HE.out
                · exact HLN.out.2 j hj (by omega)⟩, hE2.drewN _⟩, ?_⟩
              simp [intOf]
          · have hleast : leastI p i = l := leastI_eq hlt hl HLN.out.1 (fun j hj => HLN.out.2 j hj (by omega))
            have HL := Lib.hid hleast
            clear hleast HLN
            obtain ⟨W2, hW2⟩ : ∃ W, W = wr := ⟨_, rfl⟩; subst hW2
            go_wp2
            go_loopw [7, 6] (fun kv nv w3 => ∃ k : Nat, k ≤ l ∧ kv = .int .i64 k ∧ nv = .int .i64 (cntB p k) ∧ Ext W1 w3) (fun kv _ _ => l - (intOf kv).toNat)
            case atStart => exact ⟨0, by omega, rfl, rfl, hE2⟩
            case round =>
              obtain ⟨k', hkl', rfl, rfl, hE3⟩ := hrel
              obtain ⟨W3, hW3⟩ : ∃ W, W = wr := ⟨_, rfl⟩; subst hW3
              by_cases hkl2 : k' < l
              · have hkn : k' < p.length := by omega
                have ck := HCR.out k' hkn
                go_wp2
                go_loopw [9, 8] (fun mv fv w4 => ∃ m : Nat, m ≤ k' ∧ mv = .int .i64 m ∧ fv = .int .i64 (fstN p k' m) ∧ Ext W1 w4) (fun mv _ _ => k' - (intOf mv).toNat)
                case atStart => exact ⟨0, by omega, rfl, rfl, hE3⟩
                case round =>
                  obtain ⟨m, hmk, rfl, rfl, hE4⟩ := hrel
                  obtain ⟨W4, hW4⟩ : ∃ W, W = wr := ⟨_, rfl⟩; subst hW4
                  by_cases hmk2 : m < k'
                  · have hmn : m < p.length := by omega
                    have cm := HCR.out m hmn
                    by_cases heq : p[m] = p[k']
                    · have heq' : (p[m] == p[k']) = true := by simp [heq]
                      have HF := Lib.hid (fstN_hit hmn hkn heq)
                      clear heq
                      go_wp2
                      go_quiet (fail)
                      go_wp2
                      refine ⟨⟨m + 1, by omega, by go_num, by rw [HF.out], hE4.drewN _⟩, ?_⟩
                      simp [intOf]; omega
                    · have heq' : (p[m] == p[k']) = false := by simp [heq]
                      have HF := Lib.hid (fstN_miss hmn hkn heq)
                      clear heq
                      go_wp2
                      go_quiet (fail)
                      go_wp2
                      refine ⟨⟨m + 1, by omega, by go_num, by rw [HF.out], hE4.drewN _⟩, ?_⟩
                      simp [intOf]; omega
                  · have hmk3 : m = k' := by omega
                    subst hmk3
                    have HF := Lib.hid (fstN_cnt p m)
                    have hcl := cntB_le p m
                    have hf01 := fstN_01 p m m
                    go_wp2
                    refine ⟨⟨m + 1, by omega, by go_num, by rw [← HF.out], hE4⟩, ?_⟩
                    simp [intOf]; omega
              · have hkl3 : k' = l := by omega
                subst hkl3
                by_cases hpi : p[i] = (cntB p k' : Int)
                · have hpi' : (p[i] != (cntB p k' : Int)) = false := by simp [hpi]
                  have HP := Lib.hid hpi
                  clear hpi
                  go_wp2
                  refine ⟨⟨i + 1, by omega, by go_num, fun j hj => ?_, hE.trans hE3⟩, ?_⟩
                  · by_cases hji : j = i
                    · subst hji
                      unfold okAt
                      rw [HL.out, getD_lt hlt]; exact HP.out
                    · exact HOK.out j (by omega)
                  · simp [intOf]; omega
                · have hpi' : (p[i] != (cntB p k' : Int)) = true := by simp [hpi]
                  have HP := Lib.hid hpi
                  clear hpi
                  go_wp2
                  go_ret
                  have hRv := HR.out
                  rw [if_neg (fun h => HP.out (by have := h i hlt; unfold okAt at this; rw [HL.out, getD_lt hlt] at this; exact this))] at hRv
                  rw [← hRv]
                  exact ⟨rfl, hE.trans hE3⟩
      · go_wp2
        go_ret
        have hRv := HR.out
        rw [if_pos (fun j hj => HOK.out j (by omega))] at hRv
        rw [← hRv]
        exact ⟨rfl, hE⟩
end Go.Proofs.Ytkmcplhgakpneaa
