/- gauntletref07.Respects. -/
import Derived.Test.YtkmcplhgakpneaaN1
import Derived.Test.YtkmcplhgakpneaaE3
namespace Go.Proofs.Ytkmcplhgakpneaa
open Go.RowKit Go.Maps
set_option linter.unusedVariables false
set_option linter.unusedSimpArgs false
attribute [local go_sem] Oper.quietV quietV Oper.gives givesV ext_refl_iff ext_alloc_iff ext_drew_iff ext_drewN_iff

def respAt (p : List Int) (e f : Int × Int) : Bool := (e.2 != f.2) || (decide (0 ≤ e.1) && decide (0 ≤ f.1) && (p.getD e.1.toNat 0 != p.getD f.1.toNat 0))
/-- The pair s, t is one that is not respected. -/
def respBad (m : Mach) (p : List Int) (s t : Nat) : Bool := (p.getD s 0 == p.getD t 0) && (List.range (m.rows.getD s []).length).any (fun i => respAt p ((m.rows.getD s []).getD i (0, 0)) ((m.rows.getD t []).getD i (0, 0)))
def respF (m : Mach) (p : List Int) : Bool := !(List.range p.length).any (fun s => (List.range s).any (fun t => respBad m p s t))
theorem respF_true {m : Mach} {p : List Int} (h : ∀ s, s < p.length → ∀ t, t < s → respBad m p s t = false) : respF m p = true := by
  unfold respF
  rw [Bool.not_eq_true', List.any_eq_false]
  intro i hi
  rw [Bool.not_eq_true, List.any_eq_false]
  intro k hk
  rw [h i (List.mem_range.1 hi) k (List.mem_range.1 hk)]
  simp
theorem respF_false {m : Mach} {p : List Int} {s t : Nat} (hs : s < p.length) (ht : t < s) (h : respBad m p s t = true) : respF m p = false := by
  unfold respF
  rw [Bool.not_eq_false']
  exact List.any_eq_true.2 ⟨s, List.mem_range.2 hs, List.any_eq_true.2 ⟨t, List.mem_range.2 ht, h⟩⟩
theorem respF_iff {m : Mach} {p : List Int} : respF m p = true ↔ ∀ s, s < p.length → ∀ t, t < s → respBad m p s t = false := by
  refine ⟨fun h s hs t ht => ?_, respF_true⟩
  cases hb : respBad m p s t with
  | false => rfl
  | true => rw [respF_false hs ht hb] at h; cases h


set_option maxRecDepth 100000 in
set_option maxHeartbeats 4000000 in
theorem refRespects_any (w : World) (mv pv : Value) (m : Mach) (hm : MachV w mv m) (hV : Valid m) (p : List Int) (cp : Nat) (hp : IntsC w pv p cp) (hpl : p.length = m.rows.length) :
    Calls Try.prog 26 #[mv, pv] w fun e w' => e = .returned (.int .i64 (if respF m p then 1 else 0)) ∧ Ext w w' := by
  obtain ⟨rv, c, rfl, hr⟩ := hm
  obtain ⟨A0, vs0, rfl, _, _, _, _, hrm⟩ := id hr
  obtain ⟨Ap, rfl, hcp, _, hpm⟩ := hp
  unfold lenMax at hpm hrm
  have hsz := hV.size
  generalize hR : (if respF m p then (1 : Int) else 0) = R
  have HR := Lib.hid hR
  have HV := Lib.hid hV
  have HPL := Lib.hid hpl
  have hp64 : p.length ≤ 64 := by omega
  have hi16 := hV.ins
  clear hR hV hpl
  go_enter Try.func26, Try.ntmps26
  go_upto_region 1 with fail
  refine wp_named ?_
  intro W1 hW1
  have hE1 : Ext w W1 := by rw [hW1]; exact (Ext.refl _).alloc _
  have k0 : ∀ w', Ext W1 w' → w'.cell? ⟨w.heap.size, 0, none⟩ = some (.int .i64 m.ins) := fun w' h => h.cell (by rw [hW1]; simp [go_sem])
  have k2 : ∀ w', Ext W1 w' → w'.cell? ⟨w.heap.size, 2, none⟩ = some (.slice A0 m.rows.length c) := fun w' h => h.cell (by rw [hW1]; simp [go_sem])
  clear hW1
  go_wp2
  go_loopw [5] (fun i wr => ∃ s : Nat, s ≤ p.length ∧ i = .int .i64 s ∧ (∀ s', s' < s → ∀ t, t < s' → respBad m p s' t = false) ∧ Ext W1 wr) (fun i _ => p.length - (intOf i).toNat)
  case atStart => exact ⟨0, by omega, rfl, by omega, Ext.refl _⟩
  case round =>
    obtain ⟨s, hs, rfl, hok, hE⟩ := hrel
    obtain ⟨W2, hW2⟩ : ∃ W, W = wr := ⟨_, rfl⟩; subst hW2
    have HOK := Lib.hid hok
    clear hok
    by_cases hsl : s < p.length
    · go_wp2
      go_loopw [6] (fun i wr => ∃ t : Nat, t ≤ s ∧ i = .int .i64 t ∧ (∀ t', t' < t → respBad m p s t' = false) ∧ Ext W2 wr) (fun i _ => s - (intOf i).toNat)
      case atStart => exact ⟨0, by omega, rfl, by omega, Ext.refl _⟩
      case round =>
        obtain ⟨t, ht, rfl, hok2, hE4⟩ := hrel
        obtain ⟨W4, hW4⟩ : ∃ W, W = wr := ⟨_, rfl⟩; subst hW4
        have HOK2 := Lib.hid hok2
        clear hok2
        by_cases htl : t < s
        · have hsm : s < m.rows.length := by have := HPL.out; omega
          have htm : t < m.rows.length := by omega
          have hlens := HV.out.len _ (List.getElem_mem hsm)
          have hlent := HV.out.len _ (List.getElem_mem htm)
          have hfs := HV.out.fit _ (List.getElem_mem hsm)
          have hft := HV.out.fit _ (List.getElem_mem htm)
          obtain ⟨b, o, us, cs, hv, hb, c0, hes⟩ := (hr.ext (hE1.trans (hE.trans hE4))).at_ hsm
          obtain ⟨b', o', ut, ct, hv', hb', c1, het⟩ := (hr.ext (hE1.trans (hE.trans hE4))).at_ htm
          obtain rfl : A0 = some ⟨b, o, none⟩ := by injection hv
          cases hv'
          clear hv
          obtain ⟨As, rfl, hcs, _, hms⟩ := hes
          obtain ⟨At, rfl, hct, _, hmt⟩ := het
          unfold lenMax at hms hmt
          obtain ⟨bp, op, rfl, hbp, ps⟩ := (hcp.ext (hE1.trans (hE.trans hE4))).at_int hsl
          obtain ⟨bp', op', hA, _, pt⟩ := (hcp.ext (hE1.trans (hE.trans hE4))).at_int (show t < p.length by omega)
          cases hA
          have hbd : Hid (respBad m p s t = ((p[s] == p[t]) && (List.range m.rows[s].length).any (fun i => respAt p (m.rows[s].getD i (0, 0)) (m.rows[t].getD i (0, 0))))) := by
            show _ = _
            unfold respBad
            rw [getD_lt hsl, getD_lt (show t < p.length by omega), show m.rows.getD s [] = m.rows[s] by simp [List.getD, hsm], show m.rows.getD t [] = m.rows[t] by simp [List.getD, htm]]
          generalize hgs : m.rows[s] = es at *
          generalize hgt : m.rows[t] = fs at *
          generalize hxs : p[s] = xs at *
          generalize hxt : p[t] = xt at *
          clear hgs hgt hxs hxt
          have hins : m.ins = (es.length : Int) := hlens.symm
          have hll : fs.length = es.length := by omega
          rw [hll] at c1
          rw [hins] at k0
          have HIN := Lib.hid (And.intro hins hll)
          have HF := Lib.hid (And.intro hfs hft)
          have hes16 : es.length ≤ 16 := by omega
          have hsI : (s : Int) < (m.rows.length : Int) := by omega
          have htI : (t : Int) < (m.rows.length : Int) := by omega
          have hsP : (s : Int) < (p.length : Int) := by omega
          have htP : (t : Int) < (p.length : Int) := by omega
          have hE24 := hE.trans hE4
          have k0 : ∀ w', Ext W4 w' → w'.cell? ⟨w.heap.size, 0, none⟩ = some (.int .i64 es.length) := fun w' h => k0 w' (hE24.trans h)
          have k2 : ∀ w', Ext W4 w' → w'.cell? ⟨w.heap.size, 2, none⟩ = some (.slice (some ⟨b, o, none⟩) m.rows.length c) := fun w' h => k2 w' (hE24.trans h)
          have g0 : ∀ w', Ext W4 w' → w'.cell? ⟨b, o + s, none⟩ = some (.slice As es.length cs) := fun w' h => h.cell c0
          have g1 : ∀ w', Ext W4 w' → w'.cell? ⟨b, o + t, none⟩ = some (.slice At es.length ct) := fun w' h => h.cell c1
          have ps : ∀ w', Ext W4 w' → w'.cell? ⟨bp, op + s, none⟩ = some (.int .i64 xs) := fun w' h => h.cell ps
          have pt : ∀ w', Ext W4 w' → w'.cell? ⟨bp, op + t, none⟩ = some (.int .i64 xt) := fun w' h => h.cell pt
          clear c0 c1 hb hfs hft hins hll hlens hlent
          go_wp2
          go_loopw [7] (fun i wr => ∃ k : Nat, k ≤ es.length ∧ i = .int .i64 k ∧ (∀ j, j < k → respAt p (es.getD j (0, 0)) (fs.getD j (0, 0)) = false) ∧ Ext W4 wr) (fun i _ => es.length - (intOf i).toNat)
          case atStart => exact ⟨0, by omega, rfl, by omega, Ext.refl _⟩
          case round =>
            obtain ⟨k, hk, rfl, hno, hE8⟩ := hrel
            obtain ⟨W8, hW8⟩ : ∃ W, W = wr := ⟨_, rfl⟩; subst hW8
            have HNO := Lib.hid hno
            clear hno
            have k0 : ∀ w', Ext W8 w' → w'.cell? ⟨w.heap.size, 0, none⟩ = some (.int .i64 es.length) := fun w' h => k0 w' (hE8.trans h)
            have k2 : ∀ w', Ext W8 w' → w'.cell? ⟨w.heap.size, 2, none⟩ = some (.slice (some ⟨b, o, none⟩) m.rows.length c) := fun w' h => k2 w' (hE8.trans h)
            have g0 : ∀ w', Ext W8 w' → w'.cell? ⟨b, o + s, none⟩ = some (.slice As es.length cs) := fun w' h => g0 w' (hE8.trans h)
            have g1 : ∀ w', Ext W8 w' → w'.cell? ⟨b, o + t, none⟩ = some (.slice At es.length ct) := fun w' h => g1 w' (hE8.trans h)
            have ps : ∀ w', Ext W8 w' → w'.cell? ⟨bp, op + s, none⟩ = some (.int .i64 xs) := fun w' h => ps w' (hE8.trans h)
            have pt : ∀ w', Ext W8 w' → w'.cell? ⟨bp, op + t, none⟩ = some (.int .i64 xt) := fun w' h => pt w' (hE8.trans h)
            have k00 := k0 W8 (Ext.refl _)
            have ps0 := ps W8 (Ext.refl _)
            have pt0 := pt W8 (Ext.refl _)
            by_cases hlt : k < es.length
            · have hkI : (k : Int) < (es.length : Int) := by omega
              cases hx : (xs == xt) with
              | false =>
                have hres : respBad m p s t = false := by rw [hbd.out, hx]; rfl
                have HRES := Lib.hid hres
                clear hres k2 g0 g1
                go_wp2
                go_quiet (fail)
                go_wp2
                go_roundw
                case rel => exact ⟨t + 1, by omega, by go_num, fun t' ht' => by
                  by_cases htt : t' = t
                  · subst htt; exact HRES.out
                  · exact HOK2.out t' (by omega), (hE4.trans hE8).drewN _⟩
                case measure => simp [intOf]; omega
              | true =>
                have HBAD : Hid (respAt p (es.getD k (0, 0)) (fs.getD k (0, 0)) = true → respBad m p s t = true) := fun h => by
                  rw [hbd.out, hx, Bool.true_and]
                  exact List.any_eq_true.2 ⟨k, List.mem_range.2 hlt, h⟩
                go_wp2
                go_quiet (fail)
                go_upto_region 10 with fail
                refine wp_named ?_
                intro W9 hW9
                have hE9 : Ext W8 W9 := by rw [hW9]; exact (Ext.refl _).drewN _
                clear hW9 hbd k00 ps0 pt0 ps pt k0
                have hE09 := hE1.trans (hE24.trans (hE8.trans hE9))
                have hlt2 : k < fs.length := by have := HIN.out.2; omega
                obtain ⟨bs, os, rfl, hbs, d0, d1⟩ := (hcs.ext (hE8.trans hE9)).at_edge hlt
                obtain ⟨bt, ot, rfl, hbt, e0, e1⟩ := (hct.ext (hE8.trans hE9)).at_edge hlt2
                have hfx := HF.out.1 _ (List.getElem_mem hlt)
                have hfy := HF.out.2 _ (List.getElem_mem hlt2)
                have hgx : es.getD k (0, 0) = es[k] := by simp [List.getD, hlt]
                have hgy : fs.getD k (0, 0) = fs[k] := by simp [List.getD, hlt2]
                rcases hxx : es[k] with ⟨x1, x2⟩
                rcases hyy : fs[k] with ⟨y1, y2⟩
                rw [hxx] at hfx hgx d0 d1
                rw [hyy] at hfy hgy e0 e1
                simp only at d0 d1 e0 e1
                have k2 : ∀ w', Ext W9 w' → w'.cell? ⟨w.heap.size, 2, none⟩ = some (.slice (some ⟨b, o, none⟩) m.rows.length c) := fun w' h => k2 w' (hE9.trans h)
                have g0 : ∀ w', Ext W9 w' → w'.cell? ⟨b, o + s, none⟩ = some (.slice (some ⟨bs, os, none⟩) es.length cs) := fun w' h => g0 w' (hE9.trans h)
                have g1 : ∀ w', Ext W9 w' → w'.cell? ⟨b, o + t, none⟩ = some (.slice (some ⟨bt, ot, none⟩) es.length ct) := fun w' h => g1 w' (hE9.trans h)
                have d0 : ∀ w', Ext W9 w' → w'.cell? ⟨bs, os + k * 2, none⟩ = some (.int .i64 x1) := fun w' h => h.cell d0
                have d1 : ∀ w', Ext W9 w' → w'.cell? ⟨bs, os + k * 2 + 1, none⟩ = some (.int .i64 x2) := fun w' h => h.cell d1
                have e0 : ∀ w', Ext W9 w' → w'.cell? ⟨bt, ot + k * 2, none⟩ = some (.int .i64 y1) := fun w' h => h.cell e0
                have e1 : ∀ w', Ext W9 w' → w'.cell? ⟨bt, ot + k * 2 + 1, none⟩ = some (.int .i64 y2) := fun w' h => h.cell e1
                have HG := Lib.hid (And.intro hgx hgy)
                have HFX := Lib.hid (And.intro hfx hfy)
                clear hgx hgy hfx hfy hxx hyy hbs hbt
                go_region_held3 (fun w' => Ext W9 w') ((repeat (first | exact Ext.refl _ | assumption | refine Ext.drew ?_ | refine Ext.alloc ?_ _ | (refine Ext.setCell ?_ (by simp; done) _) | (refine Ext.setCell ?_ (by simp; omega) _)))) (fail)
                all_goals
                  go_upto_region 11 with fail
                  refine wp_named ?_
                  intro W3 hW3
                  have hE93 : Ext W9 W3 := by rw [hW3]; exact (((Ext.refl _).alloc _).alloc _).drew
                  first
                    | (have hz : (W3.cell? ⟨W9.heap.size, 0, none⟩ = some (.int .i64 x1) ∧ W3.cell? ⟨W9.heap.size, 1, none⟩ = some (.int .i64 x2)) ∧ W3.cell? ⟨W9.heap.size + 1, 0, none⟩ = some (.int .i64 y1) ∧ W3.cell? ⟨W9.heap.size + 1, 1, none⟩ = some (.int .i64 y2) := by rw [hW3]; simp [go_sem])
                    | (have hz : (W3.cell? ⟨W9.heap.size + 1, 0, none⟩ = some (.int .i64 x1) ∧ W3.cell? ⟨W9.heap.size + 1, 1, none⟩ = some (.int .i64 x2)) ∧ W3.cell? ⟨W9.heap.size, 0, none⟩ = some (.int .i64 y1) ∧ W3.cell? ⟨W9.heap.size, 1, none⟩ = some (.int .i64 y2) := by rw [hW3]; simp [go_sem])
                  obtain ⟨⟨z0, z1⟩, z2, z3⟩ := hz
                  clear hW3
                  generalize W9.heap.size = B2 at *
                  have hE3 := hE9.trans hE93
                  have hEw := hE1.trans (hE24.trans (hE8.trans hE3))
                  have hap : Hid (respAt p (es.getD k (0, 0)) (fs.getD k (0, 0)) = ((x2 != y2) || (decide (0 ≤ x1) && decide (0 ≤ y1) && (p.getD x1.toNat 0 != p.getD y1.toNat 0)))) := by
                    show _ = _
                    rw [HG.out.1, HG.out.2]; rfl
                  clear k2 g0 g1 d0 d1 e0 e1 HG
                  cases hne : (x2 != y2) with
                  | true =>
                    have hres : respF m p = false := respF_false hsl htl (HBAD.out (by rw [hap.out]; simp [hne]))
                    have HRES := Lib.hid hres
                    clear hres hap
                    go_wp2
                    go_quiet (fail)
                    go_wp2
                    go_ret
                    exact ⟨by rw [← HR.out, HRES.out]; rfl, hEw.drewN _⟩
                  | false =>
                    by_cases hx2 : 0 ≤ x1
                    · have hdx : decide (0 ≤ x1) = true := by simpa using hx2
                      by_cases hy : 0 ≤ y1
                      · have hdy : decide (0 ≤ y1) = true := by simpa using hy
                        have f1 : x1 < m.rows.length := by rcases fit_cases HFX.out.1 with h | h <;> simp at h <;> omega
                        have f2 : y1 < m.rows.length := by rcases fit_cases HFX.out.2 with h | h <;> simp at h <;> omega
                        obtain ⟨n1, rfl⟩ := Int.eq_ofNat_of_zero_le hx2
                        obtain ⟨n2, rfl⟩ := Int.eq_ofNat_of_zero_le hy
                        have hn1 : n1 < p.length := by have := HPL.out; omega
                        have hn2 : n2 < p.length := by have := HPL.out; omega
                        have hnI1 : (n1 : Int) < (p.length : Int) := by omega
                        have hnI2 : (n2 : Int) < (p.length : Int) := by omega
                        obtain ⟨bq, oq, hA1, _, m0⟩ := (hcp.ext hEw).at_int hn1
                        cases hA1
                        obtain ⟨bq, oq, hA1, _, m1⟩ := (hcp.ext hEw).at_int hn2
                        cases hA1
                        have hap2 := hap.out
                        rw [Int.toNat_natCast, Int.toNat_natCast, getD_lt hn1, getD_lt hn2] at hap2
                        replace hap := Lib.hid hap2
                        clear hap2
                        cases hmt : (p[n1] != p[n2]) with
                        | true =>
                          have hres : respF m p = false := respF_false hsl htl (HBAD.out (by rw [hap.out]; simp [hne, hmt]))
                          have HRES := Lib.hid hres
                          clear hres hap
                          go_wp2
                          go_quiet (fail)
                          go_wp2
                          go_ret
                          exact ⟨by rw [← HR.out, HRES.out]; rfl, hEw.drewN _⟩
                        | false =>
                          have hres : respAt p (es.getD k (0, 0)) (fs.getD k (0, 0)) = false := by rw [hap.out]; simp [hne, hmt]
                          have HRES := Lib.hid hres
                          clear hres hap
                          go_wp2
                          go_quiet (fail)
                          go_wp2
                          go_roundw
                          case rel => exact ⟨k + 1, by omega, by go_num, fun j hj => by
                            by_cases hjk : j = k
                            · subst hjk; exact HRES.out
                            · exact HNO.out j (by omega), (hE8.trans hE3).drewN _⟩
                          case measure => simp [intOf]; omega
                      · have hdy : decide (0 ≤ y1) = false := by simpa using hy
                        have hres : respAt p (es.getD k (0, 0)) (fs.getD k (0, 0)) = false := by rw [hap.out]; simp [hne, hdy]
                        have HRES := Lib.hid hres
                        clear hres hap
                        go_wp2
                        go_quiet (fail)
                        go_wp2
                        go_roundw
                        case rel => exact ⟨k + 1, by omega, by go_num, fun j hj => by
                          by_cases hjk : j = k
                          · subst hjk; exact HRES.out
                          · exact HNO.out j (by omega), (hE8.trans hE3).drewN _⟩
                        case measure => simp [intOf]; omega
                    · have hdx : decide (0 ≤ x1) = false := by simpa using hx2
                      have hres : respAt p (es.getD k (0, 0)) (fs.getD k (0, 0)) = false := by rw [hap.out]; simp [hne, hdx]
                      have HRES := Lib.hid hres
                      clear hres hap
                      go_wp2
                      go_quiet (fail)
                      go_wp2
                      go_roundw
                      case rel => exact ⟨k + 1, by omega, by go_num, fun j hj => by
                        by_cases hjk : j = k
                        · subst hjk; exact HRES.out
                        · exact HNO.out j (by omega), (hE8.trans hE3).drewN _⟩
                      case measure => simp [intOf]; omega
            · have hkl : k = es.length := by omega
              have hres : respBad m p s t = false := by
                rw [hbd.out]
                have : (List.range es.length).any (fun i => respAt p (es.getD i (0, 0)) (fs.getD i (0, 0))) = false := by
                  rw [List.any_eq_false]
                  intro i hi
                  rw [HNO.out i (by have := List.mem_range.1 hi; omega)]
                  simp
                rw [this, Bool.and_false]
              have HRES := Lib.hid hres
              have hkI : ¬ (k : Int) < (es.length : Int) := by omega
              clear hres k2 g0 g1 hkl
              go_wp2
              go_quiet (fail)
              go_wp2
              go_roundw
              case rel => exact ⟨t + 1, by omega, by go_num, fun t' ht' => by
                by_cases htt : t' = t
                · subst htt; exact HRES.out
                · exact HOK2.out t' (by omega), (hE4.trans hE8).drewN _⟩
              case measure => simp [intOf]; omega
        · go_wp2
          go_roundw
          case rel => exact ⟨s + 1, by omega, by go_num, fun s' hs' t' ht' => by
            by_cases hss : s' = s
            · subst hss; exact HOK2.out t' (by omega)
            · exact HOK.out s' (by omega) t' ht', hE.trans hE4⟩
          case measure => simp [intOf]; omega
    · have hres : respF m p = true := respF_true (fun s' hs' => HOK.out s' (by omega))
      go_wp2
      go_ret
      exact ⟨by rw [← HR.out, hres]; rfl, hE1.trans hE⟩
end Go.Proofs.Ytkmcplhgakpneaa
