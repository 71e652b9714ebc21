/- gauntletref04.Check: the same as machines.Check. -/
import Derived.Test.YtkmcplhgakpneaaE4
namespace Go.Proofs.Ytkmcplhgakpneaa
open Go.RowKit Go.Maps
set_option linter.unusedVariables false
set_option linter.unusedSimpArgs false
attribute [local go_sem] Oper.quietV quietV Oper.gives givesV ext_refl_iff ext_alloc_iff ext_drew_iff ext_drewN_iff


theorem bad_row {m : Mach} {es : List (Int × Int)} (hl : (es.length : Int) = m.ins) (h : ∀ j, j < es.length → fitsB m (es.getD j (0, 0)) = true) : badRow m es = false := by
  unfold badRow rowBad
  rw [Bool.or_eq_false_iff]
  refine ⟨by simp [hl], ?_⟩
  rw [List.any_eq_false]
  intro x hx
  obtain ⟨j, hj, rfl⟩ := List.mem_iff_getElem.1 hx
  have := h j hj
  rw [show es.getD j (0, 0) = es[j] by simp [List.getD, hj]] at this
  rw [this]; simp
theorem bad_edge {m : Mach} {es : List (Int × Int)} {j : Nat} (hj : j < es.length) (h : fitsB m es[j] = false) : badRow m es = true := by
  unfold badRow rowBad
  rw [Bool.or_eq_true]
  right
  exact List.any_eq_true.2 ⟨es[j], List.getElem_mem hj, by rw [h]; rfl⟩

set_option maxRecDepth 100000 in
set_option maxHeartbeats 2000000 in
theorem refCheck04_any (w : World) (mv : Value) (m : Mach) (hm : MachV w mv m) :
   Calls Try.prog 23 #[mv] w fun e w' => e = .returned (.int .i64 (checkM m)) ∧ Ext w w' := by
  obtain ⟨rv, c, rfl, hr⟩ := hm
  have hr0 := hr
  obtain ⟨A, vs, rfl, hc, hl, hrr, hb1, hb2⟩ := hr
  unfold lenMax at hb2
  by_cases h1 : 16 < m.ins
  ·
    have hch : checkM m = 3 := by simp [checkM, lead, h1]
    rw [hch]; clear hch
    go_enter Try.func23, Try.ntmps23
    go_wp2
    go_ret
    exact ⟨rfl, (Ext.refl _).alloc _⟩
  by_cases h2 : 16 < m.outs
  ·
    have hch : checkM m = 3 := by simp [checkM, lead, h2]
    rw [hch]; clear hch
    go_enter Try.func23, Try.ntmps23
    go_wp2
    go_ret
    exact ⟨rfl, (Ext.refl _).alloc _⟩
  by_cases h3 : (64 : Int) < m.rows.length
  · have h3' : 64 < m.rows.length := by omega
    have hch : checkM m = 3 := by simp [checkM, lead, h3']
    rw [hch]; clear hch
    go_enter Try.func23, Try.ntmps23
    go_wp2
    go_ret
    exact ⟨rfl, (Ext.refl _).alloc _⟩
  have h3' : ¬ 64 < m.rows.length := by omega
  by_cases h4 : m.ins < 1
  ·
    have hch : checkM m = 1 := by simp [checkM, lead, h1, h2, h3', h4]
    rw [hch]; clear hch
    go_enter Try.func23, Try.ntmps23
    go_wp2
    go_ret
    exact ⟨rfl, (Ext.refl _).alloc _⟩
  by_cases h5 : m.outs < 1
  ·
    have hch : checkM m = 1 := by simp [checkM, lead, h1, h2, h3', h4, h5]
    rw [hch]; clear hch
    go_enter Try.func23, Try.ntmps23
    go_wp2
    go_ret
    exact ⟨rfl, (Ext.refl _).alloc _⟩
  by_cases h6 : ((m.rows.length : Int) == 0) = true
  · have h6' : m.rows = [] := List.eq_nil_of_length_eq_zero (by simpa using h6)
    have hch : checkM m = 1 := by simp [checkM, lead, h1, h2, h6']
    rw [hch]; clear hch
    go_enter Try.func23, Try.ntmps23
    go_wp2
    go_ret
    exact ⟨rfl, (Ext.refl _).alloc _⟩
  have h6 : ((m.rows.length : Int) == 0) = false := by simpa using h6
  have hlead : lead m = 0 := by simp [lead, h1, h2, h3', h4, h5]; intro hh; simp [hh] at h6
  have hchk : checkM m = if m.rows.any (badRow m) then 1 else 0 := by simp [checkM, hlead]
  have HC := Lib.hid hchk
  clear hchk hlead h3' hc hrr
  have hib : -1 ≤ m.ins ∧ m.ins ≤ 16 := by omega
  have hob : -1 ≤ m.outs ∧ m.outs ≤ 16 := by omega
  go_enter Try.func23, Try.ntmps23
  go_upto_region 5 with fail
  refine wp_named ?_
  intro W0 hW0
  have hE0 : Ext w W0 := by rw [hW0]; exact (Ext.refl _).alloc _
  have k0 : ∀ w', Ext W0 w' → w'.cell? ⟨w.heap.size, 0, none⟩ = some (.int .i64 m.ins) := fun w' h => h.cell (by rw [hW0]; simp [go_sem])
  have k1 : ∀ w', Ext W0 w' → w'.cell? ⟨w.heap.size, 1, none⟩ = some (.int .i64 m.outs) := fun w' h => h.cell (by rw [hW0]; simp [go_sem])
  have k2 : ∀ w', Ext W0 w' → w'.cell? ⟨w.heap.size, 2, none⟩ = some (.slice A m.rows.length c) := fun w' h => h.cell (by rw [hW0]; simp [go_sem])
  clear hW0
  go_wp2
  go_loopw [3] (fun i wr => ∃ k : Nat, k ≤ m.rows.length ∧ i = .int .i64 k ∧ (m.rows.take k).any (badRow m) = false ∧ Ext W0 wr) (fun i _ => m.rows.length - (intOf i).toNat)
  case atStart => exact ⟨0, by omega, rfl, by simp, Ext.refl _⟩
  case round =>
    obtain ⟨k, hk, rfl, hpre, hE⟩ := hrel
    obtain ⟨W1, hW1⟩ : ∃ W, W = wr := ⟨_, rfl⟩; subst hW1
    have q0 : ∀ w', Ext W1 w' → w'.cell? ⟨w.heap.size, 0, none⟩ = some (.int .i64 m.ins) := fun w' h => k0 _ (hE.trans h)
    have q1 : ∀ w', Ext W1 w' → w'.cell? ⟨w.heap.size, 1, none⟩ = some (.int .i64 m.outs) := fun w' h => k1 _ (hE.trans h)
    have q2 : ∀ w', Ext W1 w' → w'.cell? ⟨w.heap.size, 2, none⟩ = some (.slice A m.rows.length c) := fun w' h => k2 _ (hE.trans h)
    have r0 := q0 W1 (Ext.refl _)
    have r2 := q2 W1 (Ext.refl _)
    by_cases hlt : k < m.rows.length
    · obtain ⟨b', o', u, c', hA, hb', c0, hes⟩ := (hr0.ext (hE0.trans hE)).at_ hlt
      obtain rfl : A = some ⟨b', o', none⟩ := by injection hA
      clear hA
      obtain ⟨A2, rfl, hce, _, hmax2⟩ := hes
      unfold lenMax at hmax2
      have hnext : Hid ((m.rows.take (k + 1)).any (badRow m) = badRow m m.rows[k]) := by
        show _ = _
        rw [List.take_succ_eq_append_getElem hlt, List.any_append, hpre]; simp
      have hany : Hid (badRow m m.rows[k] = true → m.rows.any (badRow m) = true) := fun h => List.any_eq_true.2 ⟨m.rows[k], List.getElem_mem hlt, h⟩
      clear hpre
      have hki : (k : Int) < (m.rows.length : Int) := by omega
      generalize m.rows[k] = es at *
      have c0 : ∀ w', Ext W1 w' → w'.cell? ⟨b', o' + k, none⟩ = some (.slice A2 es.length c') := fun w' h => h.cell c0
      have c00 := c0 W1 (Ext.refl _)
      cases hlen : ((es.length : Int) != m.ins) with
      | false =>
        have hle : (es.length : Int) = m.ins := by simpa using hlen
        have HLE := Lib.hid hle
        clear hle
        go_wp2
        go_quiet (fail)
        have hED := (Ext.refl W1).drewN 1
        go_wp2
        go_loopw [4] (fun jv w3 => ∃ j : Nat, j ≤ es.length ∧ jv = .int .i64 j ∧ (∀ j', j' < j → fitsB m (es.getD j' (0, 0)) = true) ∧ Ext W1 w3) (fun jv _ => es.length - (intOf jv).toNat)
        case atStart => exact ⟨0, by omega, rfl, by omega, by first | exact (Ext.refl W1).drewN _ | exact hED⟩
        case round =>
          obtain ⟨j, hj, rfl, hok, hE2⟩ := hrel
          obtain ⟨W2, hW2⟩ : ∃ W, W = wr := ⟨_, rfl⟩; subst hW2
          have HOK := Lib.hid hok
          clear hok hED
          have hjm : ((j : Int) < m.ins) = (j < es.length) := by rw [← HLE.out]; simp
          by_cases hjl : j < es.length
          · have hji : (j : Int) < m.ins := by rw [hjm]; exact hjl
            have hjI : (j : Int) < (es.length : Int) := by omega
            clear hjm
            obtain ⟨b2, o2, rfl, hb2, e0, e1⟩ := (hce.ext hE2).at_edge hjl
            have q0 := q0 W2 hE2
            have q1 := q1 W2 hE2
            have q2 := q2 W2 hE2
            have c0 := c0 W2 hE2
            have hxe : es.getD j (0, 0) = es[j] := by simp [List.getD, hjl]
            have HBAD : Hid (fitsB m es[j] = false → m.rows.any (badRow m) = true) := fun h => hany.out (bad_edge hjl h)
            have hEW := (hE0.trans hE).trans hE2
            rcases hej : es[j] with ⟨x, y⟩
            rw [hej] at hxe HBAD e0 e1
            have HX := Lib.hid hxe
            clear hxe hej
            simp only at e0 e1
            have hb1 : W2.heap.size ≠ w.heap.size := by have := (hE.trans hE2).size; have h2 : w.heap.size < W0.heap.size := World.block_lt_of_cell? _ _ (k0 _ (Ext.refl _)); omega
            go_upto_region 14 with fail
            refine wp_named ?_
            intro W3 hW3
            have hE3 : Ext W2 W3 := by rw [hW3]; exact (Ext.refl _).alloc _
            have z0 : W3.cell? ⟨W2.heap.size, 0, none⟩ = some (.int .i64 x) := by rw [hW3]; simp [go_sem]
            have z1 : W3.cell? ⟨W2.heap.size, 1, none⟩ = some (.int .i64 y) := by rw [hW3]; simp [go_sem]
            have q0 := hE3.cell q0
            have q1 := hE3.cell q1
            have q2 := hE3.cell q2
            generalize W2.heap.size = B2 at *
            clear hW3 e0 e1
            cases hx1 : (x == -1) with
            | true =>
              cases hy1 : (y == -1) with
              | true =>
                have hfit := (by simp [fitsB, hx1, hy1] : fitsB m (x, y) = true)
                have HFIT := Lib.hid hfit
                clear hfit HBAD
                go_wp2
                go_roundw
                case rel => exact ⟨j + 1, by omega, by go_num, fun j' hj' => by
                  by_cases hjj : j' = j
                  · subst hjj; rw [HX.out]; exact HFIT.out
                  · exact HOK.out j' (by omega), hE2.trans hE3⟩
                case measure => simp [intOf]; omega
              | false =>
                have hx0 : x < 0 := by simp at hx1; omega
                have hbd := HBAD.out ((by simp [fitsB, hx1, hy1]; intro h; omega : fitsB m (x, y) = false))
                have HBD := Lib.hid hbd
                clear hbd HBAD
                go_wp2
                go_ret
                exact ⟨by rw [HC.out, HBD.out]; rfl, hEW.trans hE3⟩
            | false =>
              by_cases hx0 : x < 0
              ·
                have hbd := HBAD.out ((by simp [fitsB, hx1]; intro h; omega : fitsB m (x, y) = false))
                have HBD := Lib.hid hbd
                clear hbd HBAD
                go_wp2
                go_ret
                exact ⟨by rw [HC.out, HBD.out]; rfl, hEW.trans hE3⟩
              · by_cases hxr : (m.rows.length : Int) ≤ x
                ·
                  have hbd := HBAD.out ((by simp [fitsB, hx1]; intro h h2; omega : fitsB m (x, y) = false))
                  have HBD := Lib.hid hbd
                  clear hbd HBAD
                  go_wp2
                  go_ret
                  exact ⟨by rw [HC.out, HBD.out]; rfl, hEW.trans hE3⟩
                · by_cases hy0 : y < 0
                  ·
                    have hbd := HBAD.out ((by simp [fitsB, hx1]; intro h h2 h3; omega : fitsB m (x, y) = false))
                    have HBD := Lib.hid hbd
                    clear hbd HBAD
                    go_wp2
                    go_ret
                    exact ⟨by rw [HC.out, HBD.out]; rfl, hEW.trans hE3⟩
                  · by_cases hyo : m.outs ≤ y
                    ·
                      have hbd := HBAD.out ((by simp [fitsB, hx1]; intro h h2 h3; omega : fitsB m (x, y) = false))
                      have HBD := Lib.hid hbd
                      clear hbd HBAD
                      go_wp2
                      go_ret
                      exact ⟨by rw [HC.out, HBD.out]; rfl, hEW.trans hE3⟩
                    ·
                      have hfit := (by simp [fitsB, hx1]; omega : fitsB m (x, y) = true)
                      have HFIT := Lib.hid hfit
                      clear hfit HBAD
                      go_wp2
                      go_roundw
                      case rel => exact ⟨j + 1, by omega, by go_num, fun j' hj' => by
                        by_cases hjj : j' = j
                        · subst hjj; rw [HX.out]; exact HFIT.out
                        · exact HOK.out j' (by omega), hE2.trans hE3⟩
                      case measure => simp [intOf]; omega
          · have hjI : ¬ (j : Int) < m.ins := by rw [hjm]; exact hjl
            clear hjm
            have q0 := q0 W2 hE2
            have hbr := bad_row HLE.out (fun j' hj' => HOK.out j' (by omega))
            have HBR := Lib.hid hbr
            clear hbr
            go_wp2
            go_roundw
            case rel => exact ⟨k + 1, by omega, by go_num, by rw [hnext.out, HBR.out], hE.trans hE2⟩
            case measure => simp [intOf]; omega
      | true =>
        have hbd : badRow m es = true := by unfold badRow; rw [hlen]; rfl
        have HBD := Lib.hid hbd
        clear hbd
        go_wp2
        go_quiet (fail)
        go_wp2
        go_ret
        rw [HC.out, hany.out HBD.out]
        exact ⟨rfl, (hE0.trans hE).drewN _⟩
    · have hkl : k = m.rows.length := by omega
      subst hkl
      rw [List.take_length] at hpre
      go_wp2
      go_ret
      rw [HC.out, hpre]
      exact ⟨rfl, hE0.trans hE⟩
end Go.Proofs.Ytkmcplhgakpneaa
