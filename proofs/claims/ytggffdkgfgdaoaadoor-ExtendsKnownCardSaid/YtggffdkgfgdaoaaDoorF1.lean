/- ref28.Named 67. -/
import Derived.Test.YtggffdkgfgdaoaaDoorGC
namespace Go.Proofs.YtggffdkgfgdaoaaDoor
open Go.RowKit
set_option linter.unusedVariables false
set_option linter.unusedSimpArgs false
attribute [local go_sem] Oper.quietV quietV Oper.gives givesV ext_refl_iff ext_alloc_iff ext_drew_iff ext_drewN_iff
def IntP (w : World) (r : Int) (e : Ending) (w' : World) : Prop := e = .returned (.int .i64 r) ∧ w = w'
theorem named_no {s : ByteArray} (h : s.size = 0 ∨ 16 < s.size ∨ reservedB s = true) : namedB s = false := by
  unfold namedB
  rcases h with h | h | h
  · rw [h]; rfl
  · rw [decide_eq_false (by omega)]; rfl
  · rw [h]; simp
theorem named_yes {s : ByteArray} (h0 : s.size ≠ 0) (h1 : s.size ≤ 16) (h2 : reservedB s = false) (h3 : letterB ((sN s).getD 0 0) = true) (h4 : (sN s).all partB = true) : namedB s = true := by
  unfold namedB
  rw [decide_eq_true ⟨h0, h1⟩, h2, h3, h4]; rfl
theorem named_bad {s : ByteArray} (h : letterB ((sN s).getD 0 0) = false ∨ ∃ c ∈ sN s, partB c = false) : namedB s = false := by
  unfold namedB
  rcases h with h | ⟨c, hc, hb⟩
  · rw [h]; simp
  · have : (sN s).all partB = false := by
      cases hall : (sN s).all partB with
      | false => rfl
      | true => exact absurd ((List.all_eq_true.1 hall c hc).symm.trans hb) (by decide)
    rw [this]; simp
set_option maxRecDepth 100000 in
set_option maxHeartbeats 16000000 in
theorem refNamed_any (w : World) (s : ByteArray) (hs : s.size ≤ 9223372036854775807) : Calls Tryd.prog 67 #[.string s] w (IntP w (b01 (namedB s))) := by
  obtain ⟨r, hr⟩ : ∃ r : Int, r = b01 (namedB s) := ⟨_, rfl⟩
  rw [← hr]
  have HR0 := Lib.hid hr
  clear hr
  by_cases hz : s.size = 0
  · have h0 := sN_nil s hz
    have hzi : (s.size : Int) < 1 := by omega
    have HR : Hid (r = 0) := Lib.hid (by rw [HR0.out, named_no (.inl hz)]; rfl)
    clear HR0
    go_enter Tryd.func67, Tryd.ntmps67
    go_wp2
    go_ret
    exact ⟨by rw [HR.out]; rfl, rfl⟩
  have hp : 0 < s.size := by omega
  have hp1 : ¬ (s.size : Int) < 1 := by omega
  by_cases hb : (16 : Int) < s.size
  · skip
    have HR : Hid (r = 0) := Lib.hid (by rw [HR0.out, named_no (.inr (.inl (by omega)))]; rfl)
    clear HR0
    go_enter Tryd.func67, Tryd.ntmps67
    go_wp2
    go_ret
    exact ⟨by rw [HR.out]; rfl, rfl⟩
  have HB : Hid (s.size ≤ 16) := Lib.hid (by omega)
  by_cases h1 : s.toList = [97, 110, 100]
  · skip
    have HR : Hid (r = 0) := Lib.hid (by rw [HR0.out, named_no (.inr (.inr (by unfold reservedB; rw [h1]; rfl)))]; rfl)
    clear HR0
    go_enter Tryd.func67, Tryd.ntmps67
    go_wp2
    go_ret
    exact ⟨by rw [HR.out]; rfl, rfl⟩
  by_cases h2 : s.toList = [111, 114]
  · skip
    have HR : Hid (r = 0) := Lib.hid (by rw [HR0.out, named_no (.inr (.inr (by unfold reservedB; rw [h2]; rfl)))]; rfl)
    clear HR0
    go_enter Tryd.func67, Tryd.ntmps67
    go_wp2
    go_ret
    exact ⟨by rw [HR.out]; rfl, rfl⟩
  by_cases h3 : s.toList = [110, 111, 116]
  · skip
    have HR : Hid (r = 0) := Lib.hid (by rw [HR0.out, named_no (.inr (.inr (by unfold reservedB; rw [h3]; rfl)))]; rfl)
    clear HR0
    go_enter Tryd.func67, Tryd.ntmps67
    go_wp2
    go_ret
    exact ⟨by rw [HR.out]; rfl, rfl⟩
  have HRS : Hid (reservedB s = false) := Lib.hid (by unfold reservedB; rw [beq_eq_false_iff_ne.2 h1, beq_eq_false_iff_ne.2 h2, beq_eq_false_iff_ne.2 h3]; rfl)
  have HZ := Lib.hid hz
  have g1 := beq_eq_false_iff_ne.2 h1
  have g2 := beq_eq_false_iff_ne.2 h2
  have g3 := beq_eq_false_iff_ne.2 h3
  clear hz h1 h2 h3
  go_enter Tryd.func67, Tryd.ntmps67
  go_upto_region 3 with fail
  go_wp2
  go_loopw [3] (fun iv wr => ∃ i : Nat, iv = .int .i64 i ∧ i ≤ s.size ∧ Hid (((sN s).take i).all partB = true) ∧ Hid (letterB ((sN s).getD 0 0) = true ∨ 0 = i) ∧ w = wr) (fun iv _ => s.size - (intOf iv).toNat)
  case atStart => exact ⟨0, by first | rfl | simp, Nat.zero_le _, Lib.hid (by simp), Lib.hid (.inr rfl), rfl⟩
  case round =>
    obtain ⟨i, rfl, hi, HF, H0, rfl⟩ := hrel
    by_cases hlt : i < s.size
    · have hlI : (i : Int) < (s.size : Int) := by omega
      have HG := Lib.hid (sN_get s hlt)
      have hc256 := UInt8.toNat_lt (s[i]'hlt)
      obtain ⟨c, hc⟩ : ∃ c, (s[i]'hlt).toNat = c := ⟨_, rfl⟩
      rw [hc] at HG hc256
      have hpt : partB c = (letterB c || (digitB c || c == 95)) := rfl
      have HPT := Lib.hid hpt
      clear hpt
      by_cases a1 : (97 : Int) ≤ c
      · have a3 : (65 : Int) ≤ c := by omega
        have a5 : (48 : Int) ≤ c := by omega
        have a6 : ¬ (c : Int) ≤ 57 := by omega
        have a7 : ((c : Int) == 95) = false := beq_eq_false_iff_ne.2 (by omega)
        by_cases a2 : (c : Int) ≤ 122
        · skip
          have HL : Hid (letterB c = true) := Lib.hid (by unfold letterB; exact decide_eq_true (by omega))
          have HP : Hid (partB c = true) := Lib.hid (by rw [HPT.out, HL.out]; rfl)
          have HN : Hid (letterB ((sN s).getD 0 0) = true) := Lib.hid (by
            rcases H0.out with h | h
            · exact h
            · subst h
              rw [List.getD_eq_getElem?_getD, HG.out]
              exact HL.out)
          go_wp2
          refine ⟨⟨i + 1, by go_num, hlt, Lib.hid (by rw [List.take_add_one, List.all_append, HF.out, HG.out]; simp [HP.out]), Lib.hid (.inl HN.out), by first | trivial | rfl⟩, ?_⟩
          simp [intOf]; omega
        · have a4 : ¬ (c : Int) ≤ 90 := by omega
          have HNL : Hid (letterB c = false) := Lib.hid (by unfold letterB; exact decide_eq_false (by omega))
          by_cases hi0 : i = 0
          · subst hi0
            have HR : Hid (r = 0) := Lib.hid (by
              rw [HR0.out, named_bad (.inl (by rw [List.getD_eq_getElem?_getD, HG.out]; exact HNL.out))]; rfl)
            go_wp2
            go_ret
            exact ⟨by rw [HR.out]; rfl, rfl⟩
          have hi00 : ((i : Int) == 0) = false := beq_eq_false_iff_ne.2 (by omega)
          have hi01 : (i == 0) = false := beq_eq_false_iff_ne.2 hi0
          have HR : Hid (r = 0) := Lib.hid (by
            rw [HR0.out, named_bad (.inr ⟨c, List.mem_of_getElem? HG.out, by
              rw [HPT.out, HNL.out, show digitB c = false by unfold digitB; exact decide_eq_false (by omega), show (c == 95) = false from beq_eq_false_iff_ne.2 (by omega)]; rfl⟩)]; rfl)
          clear hi0
          go_wp2
          go_ret
          exact ⟨by rw [HR.out]; rfl, rfl⟩
      · by_cases a3 : (65 : Int) ≤ c
        · have a5 : (48 : Int) ≤ c := by omega
          have a6 : ¬ (c : Int) ≤ 57 := by omega
          by_cases a4 : (c : Int) ≤ 90
          · by_cases a8 : c = 95
            · omega
            have a7 : ((c : Int) == 95) = false := beq_eq_false_iff_ne.2 (by omega)
            have HL : Hid (letterB c = true) := Lib.hid (by unfold letterB; exact decide_eq_true (by omega))
            have HP : Hid (partB c = true) := Lib.hid (by rw [HPT.out, HL.out]; rfl)
            have HN : Hid (letterB ((sN s).getD 0 0) = true) := Lib.hid (by
              rcases H0.out with h | h
              · exact h
              · subst h
                rw [List.getD_eq_getElem?_getD, HG.out]
                exact HL.out)
            go_wp2
            refine ⟨⟨i + 1, by go_num, hlt, Lib.hid (by rw [List.take_add_one, List.all_append, HF.out, HG.out]; simp [HP.out]), Lib.hid (.inl HN.out), by first | trivial | rfl⟩, ?_⟩
            simp [intOf]; omega
          · skip
            have HNL : Hid (letterB c = false) := Lib.hid (by unfold letterB; exact decide_eq_false (by omega))
            by_cases hi0 : i = 0
            · subst hi0
              have HR : Hid (r = 0) := Lib.hid (by
                rw [HR0.out, named_bad (.inl (by rw [List.getD_eq_getElem?_getD, HG.out]; exact HNL.out))]; rfl)
              go_wp2
              go_ret
              exact ⟨by rw [HR.out]; rfl, rfl⟩
            have hi00 : ((i : Int) == 0) = false := beq_eq_false_iff_ne.2 (by omega)
            have hi01 : (i == 0) = false := beq_eq_false_iff_ne.2 hi0
            by_cases a8 : c = 95
            · have a7 : ((c : Int) == 95) = true := beq_iff_eq.2 (by omega)
              have HP : Hid (partB c = true) := Lib.hid (by rw [HPT.out, a8]; rfl)
              have HN : Hid (letterB ((sN s).getD 0 0) = true) := Lib.hid (H0.out.resolve_right (fun h => hi0 h.symm))
              clear hi0
              go_wp2
              refine ⟨⟨i + 1, by go_num, hlt, Lib.hid (by rw [List.take_add_one, List.all_append, HF.out, HG.out]; simp [HP.out]), Lib.hid (.inl HN.out), by first | trivial | rfl⟩, ?_⟩
              simp [intOf]; omega
            · have a7 : ((c : Int) == 95) = false := beq_eq_false_iff_ne.2 (by omega)
              have HR : Hid (r = 0) := Lib.hid (by
                rw [HR0.out, named_bad (.inr ⟨c, List.mem_of_getElem? HG.out, by
                  rw [HPT.out, HNL.out, show digitB c = false by unfold digitB; exact decide_eq_false (by omega), show (c == 95) = false from beq_eq_false_iff_ne.2 (by omega)]; rfl⟩)]; rfl)
              clear hi0
              go_wp2
              go_ret
              exact ⟨by rw [HR.out]; rfl, rfl⟩
        · have a7 : ((c : Int) == 95) = false := beq_eq_false_iff_ne.2 (by omega)
          by_cases a5 : (48 : Int) ≤ c
          · by_cases a6 : (c : Int) ≤ 57
            · skip
              have HNL : Hid (letterB c = false) := Lib.hid (by unfold letterB; exact decide_eq_false (by omega))
              by_cases hi0 : i = 0
              · subst hi0
                have HR : Hid (r = 0) := Lib.hid (by
                  rw [HR0.out, named_bad (.inl (by rw [List.getD_eq_getElem?_getD, HG.out]; exact HNL.out))]; rfl)
                go_wp2
                go_ret
                exact ⟨by rw [HR.out]; rfl, rfl⟩
              have hi00 : ((i : Int) == 0) = false := beq_eq_false_iff_ne.2 (by omega)
              have hi01 : (i == 0) = false := beq_eq_false_iff_ne.2 hi0
              have HP : Hid (partB c = true) := Lib.hid (by rw [HPT.out, show digitB c = true from decide_eq_true (by omega)]; simp)
              have HN : Hid (letterB ((sN s).getD 0 0) = true) := Lib.hid (H0.out.resolve_right (fun h => hi0 h.symm))
              clear hi0
              go_wp2
              refine ⟨⟨i + 1, by go_num, hlt, Lib.hid (by rw [List.take_add_one, List.all_append, HF.out, HG.out]; simp [HP.out]), Lib.hid (.inl HN.out), by first | trivial | rfl⟩, ?_⟩
              simp [intOf]; omega
            · skip
              have HNL : Hid (letterB c = false) := Lib.hid (by unfold letterB; exact decide_eq_false (by omega))
              by_cases hi0 : i = 0
              · subst hi0
                have HR : Hid (r = 0) := Lib.hid (by
                  rw [HR0.out, named_bad (.inl (by rw [List.getD_eq_getElem?_getD, HG.out]; exact HNL.out))]; rfl)
                go_wp2
                go_ret
                exact ⟨by rw [HR.out]; rfl, rfl⟩
              have hi00 : ((i : Int) == 0) = false := beq_eq_false_iff_ne.2 (by omega)
              have hi01 : (i == 0) = false := beq_eq_false_iff_ne.2 hi0
              have HR : Hid (r = 0) := Lib.hid (by
                rw [HR0.out, named_bad (.inr ⟨c, List.mem_of_getElem? HG.out, by
                  rw [HPT.out, HNL.out, show digitB c = false by unfold digitB; exact decide_eq_false (by omega), show (c == 95) = false from beq_eq_false_iff_ne.2 (by omega)]; rfl⟩)]; rfl)
              clear hi0
              go_wp2
              go_ret
              exact ⟨by rw [HR.out]; rfl, rfl⟩
          · skip
            have HNL : Hid (letterB c = false) := Lib.hid (by unfold letterB; exact decide_eq_false (by omega))
            by_cases hi0 : i = 0
            · subst hi0
              have HR : Hid (r = 0) := Lib.hid (by
                rw [HR0.out, named_bad (.inl (by rw [List.getD_eq_getElem?_getD, HG.out]; exact HNL.out))]; rfl)
              go_wp2
              go_ret
              exact ⟨by rw [HR.out]; rfl, rfl⟩
            have hi00 : ((i : Int) == 0) = false := beq_eq_false_iff_ne.2 (by omega)
            have hi01 : (i == 0) = false := beq_eq_false_iff_ne.2 hi0
            have HR : Hid (r = 0) := Lib.hid (by
              rw [HR0.out, named_bad (.inr ⟨c, List.mem_of_getElem? HG.out, by
                rw [HPT.out, HNL.out, show digitB c = false by unfold digitB; exact decide_eq_false (by omega), show (c == 95) = false from beq_eq_false_iff_ne.2 (by omega)]; rfl⟩)]; rfl)
            clear hi0
            go_wp2
            go_ret
            exact ⟨by rw [HR.out]; rfl, rfl⟩
    · have hie : i = s.size := by omega
      subst hie
      have hlt2 : ¬ (s.size : Int) < (s.size : Int) := by omega
      have HR : Hid (r = 1) := Lib.hid (by
        have h := HF.out
        rw [← sN_len, List.take_length] at h
        rw [HR0.out, named_yes HZ.out HB.out HRS.out (H0.out.resolve_right (by omega)) h]; rfl)
      go_wp2
      go_ret
      exact ⟨by rw [HR.out]; rfl, rfl⟩
end Go.Proofs.YtggffdkgfgdaoaaDoor
