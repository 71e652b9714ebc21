/- great 25: it answers 0 or 1. -/
import Derived.Test.YtggffdkgfgdaoaaDoorF9
namespace Go.Proofs.YtggffdkgfgdaoaaDoor
open Go.RowKit
set_option linter.unusedVariables false
set_option linter.unusedSimpArgs false
attribute [local go_sem] Oper.quietV quietV Oper.gives givesV ext_refl_iff ext_alloc_iff ext_drew_iff ext_drewN_iff
def GreatP (w : World) (e : Ending) (w' : World) : Prop := (e = .returned (.int .i64 0) ∨ e = .returned (.int .i64 1)) ∧ Ext w w'
set_option maxRecDepth 100000 in
set_option maxHeartbeats 16000000 in
theorem great_any (w : World) (xv : Value) (x : Xt) (hx : XtV w x xv) : Calls Tryd.prog 25 #[xv] w (GreatP w) := by
  obtain ⟨vv, sv, av, c1, c2, c3, rfl, hvv, hsv, hav⟩ := hx
  obtain ⟨Av0, rfl, hvv1, hvv2, hvv3, hvv4⟩ := hvv
  obtain ⟨As, rfl, _, _, hs3⟩ := hsv
  obtain ⟨Aa, as', rfl, hal, hac, has, han, ham⟩ := hav
  have HX := Lib.hid (And.intro hal (And.intro hac has))
  have HV := Lib.hid (And.intro hvv1 hvv4)
  unfold lenMax at hvv3 hs3 ham
  clear hal hac has hvv1 hvv4
  go_enter Tryd.func25, Tryd.ntmps25
  go_upto_region 1 with fail
  refine wp_named ?_
  intro W1 hW1
  have hE1 : Ext w W1 := by rw [hW1]; exact alloc_ext w _
  have e3 : ∀ w', Ext W1 w' → w'.cell? ⟨w.heap.size, 3, none⟩ = some (.slice Av0 x.vars.length c1) := fun w' h => h.cell (by rw [hW1]; simp [go_sem])
  have e4 : W1.cell? ⟨w.heap.size, 4, none⟩ = some (.slice As x.start.length c2) := by rw [hW1]; simp [go_sem]
  have e5 : ∀ w', Ext W1 w' → w'.cell? ⟨w.heap.size, 5, none⟩ = some (.slice Aa x.arcs.length c3) := fun w' h => h.cell (by rw [hW1]; simp [go_sem])
  have hR1 := Ext.refl W1
  have HE1 := Lib.hid hE1
  clear hW1 hE1
  generalize w.heap.size = d1 at *
  by_cases g1 : (260 : Int) < x.arcs.length
  · skip
    go_wp2
    go_ret
    exact ⟨.inr rfl, HE1.out⟩
  by_cases g2 : (20 : Int) < x.vars.length
  · skip
    go_wp2
    go_ret
    exact ⟨.inr rfl, HE1.out⟩
  by_cases g3 : (20 : Int) < x.start.length
  · skip
    go_wp2
    go_ret
    exact ⟨.inr rfl, HE1.out⟩
  go_upto_region 3 with fail
  clear e4
  go_wp2
  go_loopw [3] (fun iv wr => ∃ (i : Nat), iv = .int .i64 i ∧ i ≤ x.vars.length ∧ W1 = wr) (fun iv _ => x.vars.length - (intOf iv).toNat)
  case atStart => exact ⟨0, by first | rfl | simp, Nat.zero_le _, rfl⟩
  case round =>
    obtain ⟨i, rfl, hi, rfl⟩ := hrel
    by_cases hlt : i < x.vars.length
    · have hlI : (i : Int) < (x.vars.length : Int) := by omega
      obtain ⟨u, hu⟩ : ∃ u, x.vars[i]? = some u := ⟨_, List.getElem?_eq_getElem hlt⟩
      obtain ⟨bs, os, hA, d0, -, -⟩ := var_at HV.out.1 hu
      subst hA
      have hus := HV.out.2 u (List.mem_of_getElem? hu)
      unfold maxLen at hus
      have d0 := HE1.out.cell d0
      clear hu
      by_cases h30 : (30 : Int) < u.1.size
      · skip
        go_wp2
        go_ret
        exact ⟨.inr rfl, HE1.out⟩
      · go_wp2
        refine ⟨⟨i + 1, by go_num, hlt, by first | rfl | trivial⟩, ?_⟩
        simp [intOf]; omega
    · have hie : i = x.vars.length := by omega
      subst hie
      have hlt2 : ¬ (x.vars.length : Int) < (x.vars.length : Int) := by omega
      go_wp2
      go_loopw [4, 5, 6] (fun nv uv iv wr => ∃ (n u : Int) (i : Nat), nv = .int .i64 n ∧ uv = .int .i64 u ∧ iv = .int .i64 i ∧ i ≤ x.arcs.length ∧ Hid (Ext W1 wr)) (fun _ _ iv _ => x.arcs.length - (intOf iv).toNat)
      case atStart => exact ⟨0, 0, 0, by first | rfl | simp, by first | rfl | simp, by first | rfl | simp, Nat.zero_le _, Lib.hid (Ext.refl _)⟩
      case round =>
        obtain ⟨n, u, i, rfl, rfl, rfl, hi, HW⟩ := hrel
        obtain ⟨W5, hW5⟩ : ∃ W, W = wr := ⟨_, rfl⟩; subst hW5
        have hE5 := HE1.out.trans HW.out
        have e5' := e5 W5 HW.out
        by_cases hgo : i < x.arcs.length ∧ n ≤ 600 ∧ u ≤ 40
        · obtain ⟨hlt, hn, hu⟩ := hgo
          have hlI : (i : Int) < (x.arcs.length : Int) := by omega
          obtain ⟨a, ha⟩ : ∃ a, x.arcs[i]? = some a := ⟨_, List.getElem?_eq_getElem hlt⟩
          obtain ⟨ba, oa, g1', g2', A9, n9, c9, Au, nu, cu, hA, hAV, -, -, k2, k3, k4, -, k6, -⟩ := arc_lit HX.out.1 HX.out.2.1 HX.out.2.2 ha
          subst hA
          have hct := refCount_any (w := W5) (m := 70) (hAV.2.2.1.ext hE5) (by decide) (by decide)
          unfold ErrP nvVal at hct
          dsimp only at hct
          obtain ⟨ct, hct0⟩ : ∃ c, c = min (cntT a.guard : Int) (70 + 1) := ⟨_, rfl⟩
          rw [← hct0] at hct
          obtain ⟨_, _, _, _, ⟨cu', Au', us, hyu, hul, huc, hus, hun, hum⟩, _⟩ := hAV
          have hyu' : nu = a.ups.length ∧ Au = Au' := by
            simp only at hyu
            injection hyu with h1 h2 h3
            exact ⟨h2, h1⟩
          obtain ⟨rfl, rfl⟩ := hyu'
          unfold lenMax at hum
          have HU := Lib.hid (And.intro hul (And.intro huc hus))
          have k2 := hE5.cell k2
          have k3 := hE5.cell k3
          have k4 := hE5.cell k4
          have k6 : ∀ w', Ext W5 w' → w'.cell? ⟨ba, oa + i * 8 + 6, none⟩ = some (.slice Au a.ups.length cu) := fun w' h => (hE5.trans h).cell k6
          clear hct0 ha hul huc hus hyu
          go_upto_region 13 with ((with_reducible refine hct.mono ?_); rintro e W6 ⟨rfl, e6⟩)
          have HW6 := Lib.hid (HW.out.trans e6)
          have HE6 := Lib.hid (hE5.trans e6)
          have k6 := fun w' (h : Ext W6 w') => k6 w' (e6.trans h)
          clear hct k2 k3 k4 e5' e6 hE5 HW
          go_wp2
          go_loopw [4, 5, 7] (fun nv uv kv wr => ∃ (n u : Int) (k : Nat), nv = .int .i64 n ∧ uv = .int .i64 u ∧ kv = .int .i64 k ∧ k ≤ a.ups.length ∧ Hid (Ext W6 wr)) (fun _ _ kv _ => a.ups.length - (intOf kv).toNat)
          case atStart => exact ⟨_, u, 0, rfl, rfl, by first | rfl | simp, Nat.zero_le _, Lib.hid (Ext.refl _)⟩
          case round =>
            obtain ⟨n2, u2, k, rfl, rfl, rfl, hk, HW7⟩ := hrel
            obtain ⟨W7, hW7⟩ : ∃ W, W = wr := ⟨_, rfl⟩; subst hW7
            have e5' := e5 W7 (HW6.out.trans HW7.out)
            have k6' := k6 W7 HW7.out
            have hE7 := HE6.out.trans HW7.out
            by_cases hgo : k < a.ups.length ∧ n2 ≤ 600 ∧ u2 ≤ 40
            · obtain ⟨hkt, hn2, hu2⟩ := hgo
              have hkI : (k : Int) < (a.ups.length : Int) := by omega
              obtain ⟨up, hup⟩ : ∃ u, a.ups[k]? = some u := ⟨_, List.getElem?_eq_getElem hkt⟩
              obtain ⟨bs, os, p, m, z, hA, d0, d1, d2', d3', hns⟩ := up_at HU.out.1 HU.out.2.1 HU.out.2.2 hup
              subst hA
              obtain ⟨_, B9, cs9, vs9, hq9, _⟩ := hns.form
              have hzz : z = .slice B9 up.ex.subs.length cs9 := by
                have h9 := congrArg (fun v => match v with | Value.agg cs => cs[2]? | _ => none) hq9
                simpa using h9
              subst hzz
              clear hq9
              have hct := refCount_any (w := W7) (m := 70) (hns.ext hE7) (by decide) (by decide)
              unfold ErrP at hct
              obtain ⟨ct, hct0⟩ : ∃ c, c = min (cntT up.ex : Int) (70 + 1) := ⟨_, rfl⟩
              rw [← hct0] at hct
              have d1 := hE7.cell d1
              have d2' := hE7.cell d2'
              have d3' := hE7.cell d3'
              clear hct0 hup hns d0
              go_wp2_with ((with_reducible refine hct.mono ?_); rintro e W8 ⟨rfl, e8⟩)
              refine ⟨⟨_, _, k + 1, rfl, rfl, by go_num, hkt, Lib.hid (HW7.out.trans e8)⟩, ?_⟩
              simp [intOf]; omega
            · have HW8 := Lib.hid (HW6.out.trans HW7.out)
              by_cases h1 : k < a.ups.length
              · have h1I : (k : Int) < (a.ups.length : Int) := by omega
                by_cases h2 : n2 ≤ 600
                · have h3 : ¬ u2 ≤ 40 := fun h => hgo ⟨h1, h2, h⟩
                  clear hgo
                  go_wp2
                  refine ⟨⟨n2, u2, i + 1, rfl, rfl, by go_num, hlt, HW8⟩, ?_⟩
                  simp [intOf]; omega
                · clear hgo
                  go_wp2
                  refine ⟨⟨n2, u2, i + 1, rfl, rfl, by go_num, hlt, HW8⟩, ?_⟩
                  simp [intOf]; omega
              · have hke : k = a.ups.length := by omega
                subst hke
                have h1I : ¬ (a.ups.length : Int) < (a.ups.length : Int) := by omega
                clear hgo h1 hk
                go_wp2
                refine ⟨⟨n2, u2, i + 1, rfl, rfl, by go_num, hlt, HW8⟩, ?_⟩
                simp [intOf]; omega
        · by_cases h1 : i < x.arcs.length
          · have h1I : (i : Int) < (x.arcs.length : Int) := by omega
            by_cases h2 : n ≤ 600
            · have h3 : ¬ u ≤ 40 := fun h => hgo ⟨h1, h2, h⟩
              have h4 : (40 : Int) < u := by omega
              have h5 : ¬ (600 : Int) < n := by omega
              clear hgo
              go_wp2
              go_ret
              exact ⟨.inr rfl, hE5⟩
            · have h5 : (600 : Int) < n := by omega
              clear hgo
              go_wp2
              go_ret
              exact ⟨.inr rfl, hE5⟩
          · have hie : i = x.arcs.length := by omega
            subst hie
            have h1I : ¬ (x.arcs.length : Int) < (x.arcs.length : Int) := by omega
            clear hgo h1 hi
            by_cases h5 : (600 : Int) < n
            · skip
              go_wp2
              go_ret
              exact ⟨.inr rfl, hE5⟩
            · by_cases h4 : (40 : Int) < u
              · skip
                go_wp2
                go_ret
                exact ⟨.inr rfl, hE5⟩
              · skip
                go_wp2
                go_ret
                exact ⟨.inl rfl, hE5⟩
end Go.Proofs.YtggffdkgfgdaoaaDoor
