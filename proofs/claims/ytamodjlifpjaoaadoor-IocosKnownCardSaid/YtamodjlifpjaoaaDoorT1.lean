/- ref27.Test 28. -/
import Derived.Test.YtamodjlifpjaoaaDoorGH
namespace Go.Proofs.YtamodjlifpjaoaaDoor
open Go.RowKit
set_option linter.unusedVariables false
set_option linter.unusedSimpArgs false
attribute [local go_sem] Oper.quietV quietV Oper.gives givesV ext_refl_iff ext_alloc_iff ext_drew_iff ext_drewN_iff
/-- The error of a test. -/
def testR (i o : Int) (L : List Nd) : Int := if 1024 < L.length then 3 else if rightB i o L then 0 else 1
theorem testR_no {i o : Int} {L : List Nd} (hl : ¬ 1024 < L.length) (h : rightB i o L = false) : testR i o L = 1 := by
  unfold testR; rw [if_neg hl, h]; rfl
theorem testR_yes {i o : Int} {L : List Nd} (hl : ¬ 1024 < L.length) (h : rightB i o L = true) : testR i o L = 0 := by
  unfold testR; rw [if_neg hl, h]; rfl
def nextsOk (N k : Nat) (l : List Int) (j : Nat) : Prop := ∀ t, t < j → ∀ y, l[t]? = some y → offN N k y = false
theorem nextsOk_all {N k : Nat} {l : List Int} (h : nextsOk N k l l.length) : l.any (offN N k) = false := by
  rw [List.any_eq_false]
  intro y hy
  obtain ⟨t, ht⟩ := List.getElem?_of_mem hy
  rw [h t (List.getElem?_eq_some_iff.1 ht).1 y ht]; simp
theorem nextsOk_step {N k : Nat} {l : List Int} {j : Nat} {y : Int} (h : nextsOk N k l j) (hy : l[j]? = some y) (ho : offN N k y = false) : nextsOk N k l (j + 1) := fun t ht z hz => by
  rcases Nat.lt_or_ge t j with h1 | h1
  · exact h t h1 z hz
  · obtain rfl : t = j := by omega
    rw [hy] at hz; cases hz; exact ho
theorem next_bad {i o : Int} {L : List Nd} {k j : Nat} {nd : Nd} {y : Int} (hl : ¬ 1024 < L.length) (hk : L[k]? = some nd) (hy : nd.next[j]? = some y) (ho : offN L.length k y = true) : testR i o L = 1 := by
  refine testR_no hl (right_no hk ?_)
  unfold okNd
  rw [List.any_eq_true.2 ⟨y, List.mem_of_getElem? hy, ho⟩]; simp
set_option maxRecDepth 100000 in
set_option maxHeartbeats 16000000 in
theorem refTest_any (w : World) (v : Value) (L : List Nd) (c : Nat) (i o : Int) (hv : NodesC w v L c) (ho : 0 ≤ o ∧ o ≤ 16) (hL : L.length ≤ 100000) : Calls Tryd.prog 28 #[v, .int .i64 i, .int .i64 o] w fun e w' => e = .returned (.int .i64 (testR i o L)) ∧ Ext w w' := by
  obtain ⟨A, M, _, rfl, _⟩ := id hv
  have ho1 : IntKind.i64.wrap (o + 1) = o + 1 := by rw [IntKind.wrap_i64]; omega
  have HV := Lib.hid hv
  clear hv
  go_enter Tryd.func28, Tryd.ntmps28
  by_cases hl : 1024 < L.length
  · have hr : Hid (testR i o L = 3) := Lib.hid (if_pos hl)
    have hI : (1024 : Int) < (L.length : Int) := by omega
    go_wp2
    go_ret
    exact ⟨by rw [hr.out]; rfl, Ext.refl _⟩
  have hI : ¬ (1024 : Int) < (L.length : Int) := by omega
  have HL := Lib.hid hl
  clear hl
  go_wp2
  clear hI
  go_loopw [7] (fun iv wr => ∃ k : Nat, iv = .int .i64 k ∧ k ≤ L.length ∧ Hid (okTo i o L k) ∧ Ext w wr) (fun iv _ => L.length - (intOf iv).toNat)
  case atStart => exact ⟨0, rfl, by omega, Lib.hid (fun t ht => by omega), Ext.refl _⟩
  case round =>
    obtain ⟨k, rfl, hk, HP, hE⟩ := hrel
    obtain ⟨W5, hW5⟩ : ∃ W, W = wr := ⟨_, rfl⟩; subst hW5
    by_cases hlt : k < L.length
    · obtain ⟨nd, hnd⟩ : ∃ nd, L[k]? = some nd := ⟨_, List.getElem?_eq_getElem hlt⟩
      obtain ⟨b, of, u, cu, hA, d0, d1, hu⟩ := (HV.out.ext hE).at_ hnd
      injection hA with hA _ _
      subst hA
      obtain ⟨Au, rfl, hu, _, hum⟩ := id hu
      unfold lenMax at hum
      have HU := Lib.hid hu
      have HND := Lib.hid hnd
      have HE5 := Lib.hid hE
      clear hnd hE hu
      by_cases h1 : nd.act = -2 ∨ nd.act = -3
      · have HMN : Hid (manyOk i o nd = decide ((nd.next.length : Int) = 0)) := Lib.hid (by unfold manyOk; rw [if_neg (by omega), if_neg (by omega), if_pos h1])
        have g3 : (nd.act == -1) = false := by simp; omega
        have g4 : ¬ 0 ≤ nd.act := by omega
        rcases h1 with h1 | h1
        · have g1 : (nd.act == -2) = true := by simp [h1]
          clear h1
          cases hq : ((nd.next.length : Int) != (0 : Int)) with
          | true =>
            have hr : Hid (testR i o L = 1) := Lib.hid (testR_no HL.out (right_no HND.out (by unfold okNd; rw [HMN.out, decide_eq_false (by simpa using hq)]; rfl)))
            clear HU HMN
            go_wp2
            go_ret
            exact ⟨by rw [hr.out]; rfl, HE5.out⟩
          | false =>
            have hnl : (nd.next.length : Int) = (0 : Int) := by simpa using hq
            have HM1 : Hid (manyOk i o nd = true) := Lib.hid (by rw [HMN.out, decide_eq_true hnl])
            have HNL := Lib.hid hnl
            have HQ := Lib.hid hq
            have HD := Lib.hid (And.intro d0 d1)
            clear hnl HMN
            go_wp2
            clear hq d1 d0
            go_loopw [9] (fun jv wr => ∃ j : Nat, jv = .int .i64 j ∧ j ≤ nd.next.length ∧ Hid (nextsOk L.length k nd.next j) ∧ Ext W5 wr) (fun jv _ => nd.next.length - (intOf jv).toNat)
            case atStart => exact ⟨0, rfl, by omega, Lib.hid (fun t ht => by omega), by first | exact Ext.refl _ | exact (Ext.refl _).drew | exact (Ext.refl _).drewN _⟩
            case round =>
              obtain ⟨j, rfl, hj, HJ, hE⟩ := hrel
              obtain ⟨W6, hW6⟩ : ∃ W, W = wr := ⟨_, rfl⟩; subst hW6
              have HE6 := Lib.hid hE
              by_cases hjl : j < nd.next.length
              ·
                exfalso
                have := HNL.out
                omega
              · obtain rfl : j = nd.next.length := by omega
                have hI : ¬ ((nd.next.length : Nat) : Int) < 0 := by have := HNL.out; omega
                have hr := Lib.hid (okTo_step HP.out HND.out (by unfold okNd; rw [nextsOk_all HJ.out, HM1.out]; rfl))
                clear hE
                go_wp2
                go_roundw
                case rel => exact ⟨k + 1, by go_num, by omega, hr, by first | exact HE5.out.trans HE6.out | exact (HE5.out.trans HE6.out).drew | exact (HE5.out.trans HE6.out).drewN _⟩
                case measure => simp [intOf]; omega
        · have g1 : (nd.act == -2) = false := by simp [h1]
          have g2 : (nd.act == -3) = true := by simp [h1]
          clear h1
          cases hq : ((nd.next.length : Int) != (0 : Int)) with
          | true =>
            have hr : Hid (testR i o L = 1) := Lib.hid (testR_no HL.out (right_no HND.out (by unfold okNd; rw [HMN.out, decide_eq_false (by simpa using hq)]; rfl)))
            clear HU HMN
            go_wp2
            go_ret
            exact ⟨by rw [hr.out]; rfl, HE5.out⟩
          | false =>
            have hnl : (nd.next.length : Int) = (0 : Int) := by simpa using hq
            have HM1 : Hid (manyOk i o nd = true) := Lib.hid (by rw [HMN.out, decide_eq_true hnl])
            have HNL := Lib.hid hnl
            have HQ := Lib.hid hq
            have HD := Lib.hid (And.intro d0 d1)
            clear hnl HMN
            go_wp2
            clear hq d1 d0
            go_loopw [9] (fun jv wr => ∃ j : Nat, jv = .int .i64 j ∧ j ≤ nd.next.length ∧ Hid (nextsOk L.length k nd.next j) ∧ Ext W5 wr) (fun jv _ => nd.next.length - (intOf jv).toNat)
            case atStart => exact ⟨0, rfl, by omega, Lib.hid (fun t ht => by omega), by first | exact Ext.refl _ | exact (Ext.refl _).drew | exact (Ext.refl _).drewN _⟩
            case round =>
              obtain ⟨j, rfl, hj, HJ, hE⟩ := hrel
              obtain ⟨W6, hW6⟩ : ∃ W, W = wr := ⟨_, rfl⟩; subst hW6
              have HE6 := Lib.hid hE
              by_cases hjl : j < nd.next.length
              ·
                exfalso
                have := HNL.out
                omega
              · obtain rfl : j = nd.next.length := by omega
                have hI : ¬ ((nd.next.length : Nat) : Int) < 0 := by have := HNL.out; omega
                have hr := Lib.hid (okTo_step HP.out HND.out (by unfold okNd; rw [nextsOk_all HJ.out, HM1.out]; rfl))
                clear hE
                go_wp2
                go_roundw
                case rel => exact ⟨k + 1, by go_num, by omega, hr, by first | exact HE5.out.trans HE6.out | exact (HE5.out.trans HE6.out).drew | exact (HE5.out.trans HE6.out).drewN _⟩
                case measure => simp [intOf]; omega
      have g1 : (nd.act == -2) = false := by simp; omega
      have g2 : (nd.act == -3) = false := by simp; omega
      by_cases h2 : nd.act = -1
      · have HMN : Hid (manyOk i o nd = decide ((nd.next.length : Int) = o + 1)) := Lib.hid (by unfold manyOk; rw [if_pos h2])
        have g3 : (nd.act == -1) = true := by simp [h2]
        have g4 : ¬ 0 ≤ nd.act := by omega
        clear h1 h2
        cases hq : ((nd.next.length : Int) != (o + 1 : Int)) with
        | true =>
          have hr : Hid (testR i o L = 1) := Lib.hid (testR_no HL.out (right_no HND.out (by unfold okNd; rw [HMN.out, decide_eq_false (by simpa using hq)]; rfl)))
          clear HU HMN
          go_wp2
          go_ret
          exact ⟨by rw [hr.out]; rfl, HE5.out⟩
        | false =>
          have hnl : (nd.next.length : Int) = (o + 1 : Int) := by simpa using hq
          have HM1 : Hid (manyOk i o nd = true) := Lib.hid (by rw [HMN.out, decide_eq_true hnl])
          have HNL := Lib.hid hnl
          have HQ := Lib.hid hq
          have HD := Lib.hid (And.intro d0 d1)
          clear hnl HMN
          go_wp2
          clear hq d1 d0
          go_loopw [9] (fun jv wr => ∃ j : Nat, jv = .int .i64 j ∧ j ≤ nd.next.length ∧ Hid (nextsOk L.length k nd.next j) ∧ Ext W5 wr) (fun jv _ => nd.next.length - (intOf jv).toNat)
          case atStart => exact ⟨0, rfl, by omega, Lib.hid (fun t ht => by omega), by first | exact Ext.refl _ | exact (Ext.refl _).drew | exact (Ext.refl _).drewN _⟩
          case round =>
            obtain ⟨j, rfl, hj, HJ, hE⟩ := hrel
            obtain ⟨W6, hW6⟩ : ∃ W, W = wr := ⟨_, rfl⟩; subst hW6
            have HE6 := Lib.hid hE
            by_cases hjl : j < nd.next.length
            ·
              obtain ⟨y, hy⟩ : ∃ y, nd.next[j]? = some y := ⟨_, List.getElem?_eq_getElem hjl⟩
              obtain ⟨b9, o9, rfl, c9⟩ := int_at (HU.out.ext hE) hy
              have d1 := hE.cell HD.out.2
              have d0 := hE.cell HD.out.1
              have HY := Lib.hid hy
              have hI : (j : Int) < o + 1 := by have := HNL.out; omega
              have hlen : L.length ≤ 1024 := by have := HL.out; omega
              have HOF : Hid (offN L.length k y = (decide (y ≤ (k : Int)) || decide ((L.length : Int) ≤ y))) := Lib.hid rfl
              clear hE hy
              by_cases h1 : y ≤ (k : Int)
              · have hr : Hid (testR i o L = 1) := Lib.hid (next_bad HL.out HND.out HY.out (by rw [HOF.out, decide_eq_true h1]; rfl))
                go_wp2
                go_ret
                exact ⟨by rw [hr.out]; rfl, HE5.out.trans HE6.out⟩
              · by_cases h2 : (L.length : Int) ≤ y
                · have hr : Hid (testR i o L = 1) := Lib.hid (next_bad HL.out HND.out HY.out (by rw [HOF.out, decide_eq_true h2]; simp))
                  go_wp2
                  go_ret
                  exact ⟨by rw [hr.out]; rfl, HE5.out.trans HE6.out⟩
                · have hr := Lib.hid (nextsOk_step HJ.out HY.out (by rw [HOF.out, decide_eq_false h1, decide_eq_false h2]; rfl))
                  go_wp2
                  go_roundw
                  case rel => exact ⟨j + 1, by go_num, by omega, hr, by first | exact HE6.out | exact HE6.out.drew | exact HE6.out.drewN _⟩
                  case measure => simp [intOf]; omega
            · obtain rfl : j = nd.next.length := by omega
              have hI : ¬ ((nd.next.length : Nat) : Int) < o + 1 := by have := HNL.out; omega
              have hr := Lib.hid (okTo_step HP.out HND.out (by unfold okNd; rw [nextsOk_all HJ.out, HM1.out]; rfl))
              clear hE
              go_wp2
              go_roundw
              case rel => exact ⟨k + 1, by go_num, by omega, hr, by first | exact HE5.out.trans HE6.out | exact (HE5.out.trans HE6.out).drew | exact (HE5.out.trans HE6.out).drewN _⟩
              case measure => simp [intOf]; omega
      have g3 : (nd.act == -1) = false := by simp; omega
      by_cases h3 : 0 ≤ nd.act
      · by_cases h4 : nd.act < i
        · have HMN : Hid (manyOk i o nd = decide ((nd.next.length : Int) = 1)) := Lib.hid (by unfold manyOk; rw [if_neg h2, if_pos ⟨h3, h4⟩])
          clear h1 h2
          cases hq : ((nd.next.length : Int) != (1 : Int)) with
          | true =>
            have hr : Hid (testR i o L = 1) := Lib.hid (testR_no HL.out (right_no HND.out (by unfold okNd; rw [HMN.out, decide_eq_false (by simpa using hq)]; rfl)))
            clear HU HMN
            go_wp2
            go_ret
            exact ⟨by rw [hr.out]; rfl, HE5.out⟩
          | false =>
            have hnl : (nd.next.length : Int) = (1 : Int) := by simpa using hq
            have HM1 : Hid (manyOk i o nd = true) := Lib.hid (by rw [HMN.out, decide_eq_true hnl])
            have HNL := Lib.hid hnl
            have HQ := Lib.hid hq
            have HD := Lib.hid (And.intro d0 d1)
            clear hnl HMN
            go_wp2
            clear hq d1 d0
            go_loopw [9] (fun jv wr => ∃ j : Nat, jv = .int .i64 j ∧ j ≤ nd.next.length ∧ Hid (nextsOk L.length k nd.next j) ∧ Ext W5 wr) (fun jv _ => nd.next.length - (intOf jv).toNat)
            case atStart => exact ⟨0, rfl, by omega, Lib.hid (fun t ht => by omega), by first | exact Ext.refl _ | exact (Ext.refl _).drew | exact (Ext.refl _).drewN _⟩
            case round =>
              obtain ⟨j, rfl, hj, HJ, hE⟩ := hrel
              obtain ⟨W6, hW6⟩ : ∃ W, W = wr := ⟨_, rfl⟩; subst hW6
              have HE6 := Lib.hid hE
              by_cases hjl : j < nd.next.length
              ·
                obtain ⟨y, hy⟩ : ∃ y, nd.next[j]? = some y := ⟨_, List.getElem?_eq_getElem hjl⟩
                obtain ⟨b9, o9, rfl, c9⟩ := int_at (HU.out.ext hE) hy
                have d1 := hE.cell HD.out.2
                have d0 := hE.cell HD.out.1
                have HY := Lib.hid hy
                have hI : (j : Int) < 1 := by have := HNL.out; omega
                have hlen : L.length ≤ 1024 := by have := HL.out; omega
                have HOF : Hid (offN L.length k y = (decide (y ≤ (k : Int)) || decide ((L.length : Int) ≤ y))) := Lib.hid rfl
                clear hE hy
                by_cases h1 : y ≤ (k : Int)
                · have hr : Hid (testR i o L = 1) := Lib.hid (next_bad HL.out HND.out HY.out (by rw [HOF.out, decide_eq_true h1]; rfl))
                  go_wp2
                  go_ret
                  exact ⟨by rw [hr.out]; rfl, HE5.out.trans HE6.out⟩
                · by_cases h2 : (L.length : Int) ≤ y
                  · have hr : Hid (testR i o L = 1) := Lib.hid (next_bad HL.out HND.out HY.out (by rw [HOF.out, decide_eq_true h2]; simp))
                    go_wp2
                    go_ret
                    exact ⟨by rw [hr.out]; rfl, HE5.out.trans HE6.out⟩
                  · have hr := Lib.hid (nextsOk_step HJ.out HY.out (by rw [HOF.out, decide_eq_false h1, decide_eq_false h2]; rfl))
                    go_wp2
                    go_roundw
                    case rel => exact ⟨j + 1, by go_num, by omega, hr, by first | exact HE6.out | exact HE6.out.drew | exact HE6.out.drewN _⟩
                    case measure => simp [intOf]; omega
              · obtain rfl : j = nd.next.length := by omega
                have hI : ¬ ((nd.next.length : Nat) : Int) < 1 := by have := HNL.out; omega
                have hr := Lib.hid (okTo_step HP.out HND.out (by unfold okNd; rw [nextsOk_all HJ.out, HM1.out]; rfl))
                clear hE
                go_wp2
                go_roundw
                case rel => exact ⟨k + 1, by go_num, by omega, hr, by first | exact HE5.out.trans HE6.out | exact (HE5.out.trans HE6.out).drew | exact (HE5.out.trans HE6.out).drewN _⟩
                case measure => simp [intOf]; omega
        · have hr : Hid (testR i o L = 1) := Lib.hid (testR_no HL.out (right_no HND.out (by unfold okNd manyOk; rw [if_neg h2, if_neg (fun h => h4 h.2), if_neg h1]; rfl)))
          have g5 : ((nd.next.length : Int) != -1) = true := bne_iff_ne.2 (by omega)
          clear h1 h2 HU
          go_wp2
          go_ret
          exact ⟨by rw [hr.out]; rfl, HE5.out⟩
      · have hr : Hid (testR i o L = 1) := Lib.hid (testR_no HL.out (right_no HND.out (by unfold okNd manyOk; rw [if_neg h2, if_neg (fun h => h3 h.1), if_neg h1]; rfl)))
        have g5 : ((nd.next.length : Int) != -1) = true := bne_iff_ne.2 (by omega)
        clear h1 h2 HU
        go_wp2
        go_ret
        exact ⟨by rw [hr.out]; rfl, HE5.out⟩
    · obtain rfl : k = L.length := by omega
      have HE := Lib.hid hE
      clear hE
      by_cases h0 : L.length = 0
      · have hr : Hid (testR i o L = 1) := Lib.hid (testR_no HL.out (by rw [okTo_all HP.out, h0]; rfl))
        have g0 : ((L.length : Int) == 0) = true := by simp [h0]
        clear h0
        go_wp2
        go_ret
        exact ⟨by rw [hr.out]; rfl, HE.out⟩
      · have hr : Hid (testR i o L = 0) := Lib.hid (testR_yes HL.out (by rw [okTo_all HP.out]; simp; omega))
        have g0 : ((L.length : Int) == 0) = false := beq_eq_false_iff_ne.2 (by omega)
        clear h0
        go_wp2
        go_ret
        exact ⟨by rw [hr.out]; rfl, HE.out⟩
end Go.Proofs.YtamodjlifpjaoaaDoor
