/- ref28.CheckVars 55. -/
import Derived.Test.YtggffdkgfgdaoaaDoorF1
import Derived.Test.YtggffdkgfgdaoaaDoorGD
namespace Go.Proofs.YtggffdkgfgdaoaaDoor
open Go.RowKit
set_option linter.unusedVariables false
set_option linter.unusedSimpArgs false
attribute [local go_sem] Oper.quietV quietV Oper.gives givesV ext_refl_iff ext_alloc_iff ext_drew_iff ext_drewN_iff
theorem mem_names {l : List Vt} {i : Nat} {s : ByteArray} : s ∈ (l.take i).map (·.1) ↔ ∃ k, k < i ∧ ∃ u, l[k]? = some u ∧ u.1 = s := by
  constructor
  · intro h
    obtain ⟨u, hu, rfl⟩ := List.mem_map.1 h
    obtain ⟨k, hk⟩ := List.getElem?_of_mem hu
    rw [List.getElem?_take] at hk
    split at hk
    · rename_i h2; exact ⟨k, h2, u, hk, rfl⟩
    · cases hk
  · rintro ⟨k, hk, u, hu, rfl⟩
    refine List.mem_map.2 ⟨u, ?_, rfl⟩
    refine List.mem_of_getElem? (i := k) ?_
    rw [List.getElem?_take, if_pos hk]; exact hu
set_option maxRecDepth 100000 in
set_option maxHeartbeats 16000000 in
theorem refCheckVars_any (w : World) (v : Value) (l : List Vt) (c : Nat) (hv : VarsC w v l c) : Calls Tryd.prog 55 #[v] w (ErrP w (varsR l)) := by
  obtain ⟨r, hr⟩ : ∃ r : Int, r = varsR l := ⟨_, rfl⟩
  rw [← hr]
  obtain ⟨A, rfl, hcs, hlc, hlm, hsz⟩ := hv
  unfold lenMax at hlm
  have HX := Lib.hid (And.intro hcs hsz)
  by_cases hbig : (16 : Int) < l.length
  · have HR : Hid (r = 3) := Lib.hid (by rw [hr]; exact varsR_many (by omega))
    clear hr hcs hsz
    go_enter Tryd.func55, Tryd.ntmps55
    go_wp2
    go_ret
    exact ⟨by rw [HR.out]; rfl, Ext.refl _⟩
  have HR0 := Lib.hid hr
  have HLN : Hid (l.length ≤ 16) := Lib.hid (by omega)
  clear hr hcs hsz
  go_enter Tryd.func55, Tryd.ntmps55
  go_upto_region 3 with fail
  go_wp2
  go_loopw [3] (fun iv wr => ∃ i : Nat, iv = .int .i64 i ∧ i ≤ l.length ∧ Hid (∀ k < i, badAt l k = false) ∧ Hid (Ext w wr)) (fun iv _ => l.length - (intOf iv).toNat)
  case atStart => exact ⟨0, by first | rfl | simp, Nat.zero_le _, Lib.hid (by intro k h; omega), Lib.hid (Ext.refl _)⟩
  case round =>
    obtain ⟨i, rfl, hi, HF, HW⟩ := hrel
    obtain ⟨W5, hW5⟩ : ∃ W, W = wr := ⟨_, rfl⟩; subst hW5
    have hR5 := Ext.refl W5
    by_cases hlt : i < l.length
    rotate_left
    · have hie : i = l.length := by omega
      subst hie
      have hlt2 : ¬ (l.length : Int) < (l.length : Int) := by omega
      have HR : Hid (r = 0) := Lib.hid (by rw [HR0.out]; exact varsR_good (by have := HLN.out; omega) HF.out)
      go_wp2
      go_ret
      exact ⟨by rw [HR.out]; rfl, HW.out⟩
    · have hlI : (i : Int) < (l.length : Int) := by omega
      obtain ⟨u, hu⟩ : ∃ u, l[i]? = some u := ⟨_, List.getElem?_eq_getElem hlt⟩
      obtain ⟨bs, os, hA, d0, d1, d2⟩ := var_at HX.out.1 hu
      subst hA
      have hus := HX.out.2 u (List.mem_of_getElem? hu)
      have HUS := Lib.hid hus
      have HBA : Hid (badAt l i = varBad ((l.take i).map (·.1)) u) := Lib.hid (by unfold badAt; rw [hu])
      have HLT := Lib.hid hlt
      obtain ⟨s, lo, hh⟩ := u
      have d0 := fun w' (h : Ext W5 w') => (HW.out.trans h).cell d0
      have d1 := fun w' (h : Ext W5 w') => (HW.out.trans h).cell d1
      have d2 := fun w' (h : Ext W5 w') => (HW.out.trans h).cell d2
      have hnm := fun w' => refNamed_any w' s hus
      unfold IntP at hnm
      obtain ⟨a, ha⟩ : ∃ a, a = namedB s := ⟨_, rfl⟩
      rw [← ha] at hnm
      have HA := Lib.hid ha
      clear hu ha hus
      cases a with
      | false =>
        have hnm : ∀ w', Calls Tryd.prog 67 #[.string s] w' (fun e W => e = .returned (.int .i64 0) ∧ w' = W) := hnm
        have hz : (decide ((0 : Int) = 0)) = true := rfl
        have HR : Hid (r = 1) := Lib.hid (by rw [HR0.out]; refine varsR_bad (by have := HLN.out; omega) HLT.out (i := i) ?_; rw [HBA.out]; unfold varBad; rw [← HA.out]; rfl)
        go_upto_region 6 with fail
        go_quiet (exact quietS (hnm _))
        go_wp2
        go_ret
        exact ⟨by rw [HR.out]; rfl, HW.out.trans ((Ext.refl _).drewN _)⟩
      | true =>
        have hnm : ∀ w', Calls Tryd.prog 67 #[.string s] w' (fun e W => e = .returned (.int .i64 1) ∧ w' = W) := hnm
        by_cases h1 : lo < -2147483648
        · skip
          have HR : Hid (r = 1) := Lib.hid (by rw [HR0.out]; refine varsR_bad (by have := HLN.out; omega) HLT.out (i := i) ?_; rw [HBA.out]; unfold varBad; rw [decide_eq_true h1]; simp)
          go_upto_region 6 with fail
          go_quiet (exact quietS (hnm _))
          go_wp2
          go_ret
          exact ⟨by rw [HR.out]; rfl, HW.out.trans ((Ext.refl _).drewN _)⟩
        · by_cases h3 : 2147483648 < hh
          · skip
            have HR : Hid (r = 1) := Lib.hid (by rw [HR0.out]; refine varsR_bad (by have := HLN.out; omega) HLT.out (i := i) ?_; rw [HBA.out]; unfold varBad; rw [decide_eq_true h3]; simp)
            go_upto_region 6 with fail
            go_quiet (exact quietS (hnm _))
            go_wp2
            go_ret
            exact ⟨by rw [HR.out]; rfl, HW.out.trans ((Ext.refl _).drewN _)⟩
          · by_cases h2 : hh < lo
            · skip
              have HR : Hid (r = 1) := Lib.hid (by rw [HR0.out]; refine varsR_bad (by have := HLN.out; omega) HLT.out (i := i) ?_; rw [HBA.out]; unfold varBad; rw [decide_eq_true h2]; simp)
              go_upto_region 6 with fail
              go_quiet (exact quietS (hnm _))
              go_wp2
              go_ret
              exact ⟨by rw [HR.out]; rfl, HW.out.trans ((Ext.refl _).drewN _)⟩
            · have HV : Hid (varBad ((l.take i).map (·.1)) (s, lo, hh) = decide (s ∈ (l.take i).map (·.1))) := Lib.hid (by unfold varBad; rw [← HA.out, decide_eq_false h1, decide_eq_false h2, decide_eq_false h3]; simp)
              go_upto_region 6 with fail
              go_quiet (exact quietS (hnm _))
              go_upto_region 8 with fail
              refine wp_named ?_
              intro W6 hW6
              have hE6 : Ext W5 W6 := by rw [hW6]; exact (Ext.refl _).drewN _
              have HE6 := Lib.hid (HW.out.trans hE6)
              have d0 := fun w' (h : Ext W6 w') => d0 w' (hE6.trans h)
              clear hW6 hE6 d1 d2 hnm HW hR5
              go_wp2
              go_loopw [4] (fun kv wr => ∃ k : Nat, kv = .int .i64 k ∧ k ≤ i ∧ Hid (∀ k', k' < k → ∀ u, l[k']? = some u → u.1 ≠ s) ∧ Hid (Ext W6 wr)) (fun kv _ => i - (intOf kv).toNat)
              case atStart => exact ⟨0, by first | rfl | simp, Nat.zero_le _, Lib.hid (fun k h => by omega), Lib.hid (Ext.refl _)⟩
              case round =>
                obtain ⟨k, rfl, hk, HK, HWk⟩ := hrel
                obtain ⟨W7, hW7⟩ : ∃ W, W = wr := ⟨_, rfl⟩; subst hW7
                by_cases hki : k < i
                rotate_left
                · have hke : k = i := by omega
                  subst hke
                  have hkI : ¬ (k : Int) < (k : Int) := by omega
                  have HG : Hid (badAt l k = false) := Lib.hid (by
                    rw [HBA.out, HV.out]
                    refine decide_eq_false (fun h => ?_)
                    obtain ⟨k', hk', u, hu, hus⟩ := mem_names.1 h
                    exact HK.out k' hk' u hu hus)
                  have HF2 : Hid (∀ k' < k + 1, badAt l k' = false) := Lib.hid (fun j hj => by
                    by_cases hjk : j = k
                    · subst hjk; exact HG.out
                    · exact HF.out j (by omega))
                  have HW2 := Lib.hid (HE6.out.trans HWk.out)
                  clear d0
                  go_wp2
                  refine ⟨⟨k + 1, by go_num, hlt, HF2, HW2⟩, ?_⟩
                  simp [intOf]; omega
                · have hkI : (k : Int) < (i : Int) := by omega
                  have hkl : (k : Int) < (l.length : Int) := by omega
                  obtain ⟨u, hu⟩ : ∃ u, l[k]? = some u := ⟨_, List.getElem?_eq_getElem (by omega)⟩
                  obtain ⟨bs', os', hA, x0, -, -⟩ := var_at HX.out.1 hu
                  cases hA
                  have HU := Lib.hid hu
                  have x0 := (HE6.out.trans HWk.out).cell x0
                  have d0' := d0 W7 HWk.out
                  obtain ⟨s', lo', hh'⟩ := u
                  dsimp only at x0
                  clear hu
                  by_cases hss : s' = s
                  · subst hss
                    have HR : Hid (r = 1) := Lib.hid (by
                      rw [HR0.out]
                      refine varsR_bad (by have := HLN.out; omega) HLT.out (i := i) ?_
                      rw [HBA.out, HV.out]
                      exact decide_eq_true (mem_names.2 ⟨k, hki, _, HU.out, rfl⟩))
                    go_upto_region 11 with fail
                    go_quiet (fail)
                    go_wp2
                    go_ret
                    exact ⟨by rw [HR.out]; rfl, (HE6.out.trans HWk.out).trans ((Ext.refl _).drewN _)⟩
                  · have hll : (s'.toList == s.toList) = false := beq_eq_false_iff_ne.2 (fun h => hss (by
                      rw [ByteArray.toList_eq, ByteArray.toList_eq] at h
                      cases s'; cases s
                      simp only [Array.toList_inj] at h
                      rw [h]))
                    have HK2 : Hid (∀ k', k' < k + 1 → ∀ u, l[k']? = some u → u.1 ≠ s) := Lib.hid (fun k' hk' u hu => by
                      by_cases hkk : k' = k
                      · subst hkk
                        rw [HU.out] at hu
                        injection hu with hu
                        subst hu
                        exact hss
                      · exact HK.out k' (by omega) u hu)
                    clear hss
                    go_upto_region 11 with fail
                    go_quiet (fail)
                    go_wp2
                    refine ⟨⟨k + 1, by go_num, hki, HK2, Lib.hid (HWk.out.drewN _)⟩, ?_⟩
                    simp [intOf]; omega
end Go.Proofs.YtggffdkgfgdaoaaDoor
