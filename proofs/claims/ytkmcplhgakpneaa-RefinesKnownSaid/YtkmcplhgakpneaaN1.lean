/- gauntletref07.apart, over a matrix of bools. -/
import Derived.Test.YtkmcplhgakpneaaN0
namespace Go.Proofs.Ytkmcplhgakpneaa
open Go.RowKit Go.Maps
set_option linter.unusedVariables false
set_option linter.unusedSimpArgs false
attribute [local go_sem] Oper.quietV quietV Oper.gives givesV ext_refl_iff ext_alloc_iff ext_drew_iff ext_drewN_iff


/-- A slice value of bools. -/
def BoolsC (w : World) (v : Value) (bs : List Bool) : Prop := ∃ A c, v = .slice A bs.length c ∧ Cells w A (bs.map .bool) ∧ bs.length ≤ lenMax
/-- A slice value of slices of bools. -/
def MatC (w : World) (v : Value) (M : List (List Bool)) : Prop :=
  ∃ A c vs, v = .slice A M.length c ∧ Cells w A vs ∧ vs.length = M.length ∧ (∀ (i : Nat) (u : Value) (r : List Bool), vs[i]? = some u → M[i]? = some r → BoolsC w u r) ∧ M.length ≤ lenMax
theorem BoolsC.ext {w w' : World} {v : Value} {bs : List Bool} (h : BoolsC w v bs) (e : Ext w w') : BoolsC w' v bs := by
  obtain ⟨A, c, hv, hc, hr⟩ := h
  exact ⟨A, c, hv, hc.ext e, hr⟩
theorem MatC.ext {w w' : World} {v : Value} {M : List (List Bool)} (h : MatC w v M) (e : Ext w w') : MatC w' v M := by
  obtain ⟨A, c, vs, hv, hc, hl, hr, hb⟩ := h
  exact ⟨A, c, vs, hv, hc.ext e, hl, fun i u r hu hr' => (hr i u r hu hr').ext e, hb⟩
theorem Cells.at_bool {w : World} {A : Option Addr} {xs : List Bool} (h : Cells w A (xs.map .bool)) {k : Nat} (hk : k < xs.length) :
    ∃ b o, A = some ⟨b, o, none⟩ ∧ b < w.heap.size ∧ w.cell? ⟨b, o + k, none⟩ = some (.bool xs[k]) := by
  obtain ⟨b, o, hA, hb, hc⟩ := h (by simp; omega)
  exact ⟨b, o, hA, hb, hc k _ (by simp [hk])⟩
theorem MatC.at_ {w : World} {v : Value} {M : List (List Bool)} (h : MatC w v M) {i j : Nat} (hi : i < M.length) (hj : j < (M.getD i []).length) :
    ∃ b o c b' o' c', v = .slice (some ⟨b, o, none⟩) M.length c ∧ b < w.heap.size ∧ w.cell? ⟨b, o + i, none⟩ = some (.slice (some ⟨b', o', none⟩) (M.getD i []).length c') ∧ b' < w.heap.size ∧ w.cell? ⟨b', o' + j, none⟩ = some (.bool ((M.getD i []).getD j false)) := by
  obtain ⟨A, c, vs, rfl, hc, hl, hr, _⟩ := h
  obtain ⟨b, o, rfl, hb, hcc⟩ := hc (by omega)
  have hk' : i < vs.length := by omega
  have hrow : M.getD i [] = M[i] := by simp [List.getD, hi]
  obtain ⟨A', c', hv, hcs, _⟩ := hr i vs[i] M[i] (List.getElem?_eq_getElem hk') (List.getElem?_eq_getElem hi)
  rw [hrow] at hj ⊢
  obtain ⟨b', o', rfl, hb', h1⟩ := hcs.at_bool hj
  refine ⟨b, o, c, b', o', c', rfl, hb, ?_, hb', ?_⟩
  · rw [← hv]; exact hcc i _ (List.getElem?_eq_getElem hk')
  · rw [h1]; simp [List.getD, hj]

theorem MatC.at_int {w : World} {v : Value} {M : List (List Bool)} {n : Nat} (h : MatC w v M) (hsq : Square n M) {x y : Int} (hx : 0 ≤ x ∧ x < n) (hy : 0 ≤ y ∧ y < n) :
    ∃ b o c b' o' c', v = .slice (some ⟨b, o, none⟩) n c ∧ b < w.heap.size ∧ w.cell? ⟨b, o + x.toNat, none⟩ = some (.slice (some ⟨b', o', none⟩) n c') ∧ b' < w.heap.size ∧ w.cell? ⟨b', o' + y.toNat, none⟩ = some (.bool (matAt M x y)) := by
  obtain ⟨h1, h2⟩ := hsq
  have hl := h2 x.toNat (by omega)
  have := h.at_ (i := x.toNat) (j := y.toNat) (by omega) (by omega)
  rw [h1, hl] at this
  exact this

theorem apart_step {M : List (List Bool)} {es fs : List (Int × Int)} : apartB M es fs = false ↔ ∀ j, j < es.length → apartAt M (es.getD j (0, 0)) (fs.getD j (0, 0)) = false := by
  unfold apartB
  rw [List.any_eq_false]
  simp

set_option maxRecDepth 100000 in
set_option maxHeartbeats 2000000 in
theorem apart_any (w : World) (mv kv : Value) (m : Mach) (hm : MachV w mv m) (hV : Valid m) (M : List (List Bool)) (hM : MatC w kv M) (hsq : Square m.rows.length M) (s t : Nat) (hs : s < m.rows.length) (ht : t < m.rows.length) :
    Calls Try.prog 47 #[mv, kv, .int .i64 s, .int .i64 t] w fun e w' => e = .returned (.int .i64 (if apartB M m.rows[s] m.rows[t] then 1 else 0)) ∧ Ext w w' := by
  obtain ⟨rv, c, rfl, hr⟩ := hm
  have hsz := hV.size
  have hlens := hV.len _ (List.getElem_mem hs)
  have hlent := hV.len _ (List.getElem_mem ht)
  have hi16 := hV.ins
  have hfs := hV.fit _ (List.getElem_mem hs)
  have hft := hV.fit _ (List.getElem_mem ht)
  obtain ⟨b, o, us, cs, hv, hb, c0, hes⟩ := hr.at_ hs
  obtain ⟨b', o', ut, ct, hv', hb', c1, het⟩ := hr.at_ ht
  subst hv
  cases hv'
  obtain ⟨As, rfl, hcs, _, hms⟩ := hes
  obtain ⟨At, rfl, hct, _, hmt⟩ := het
  unfold lenMax at hms hmt
  generalize hR : (if apartB M m.rows[s] m.rows[t] then (1 : Int) else 0) = R
  generalize hes : m.rows[s] = es at *
  generalize het : m.rows[t] = fs at *
  clear hes het hr hb'
  have HR := Lib.hid hR
  have HF := Lib.hid (And.intro hfs hft)
  have HSQ := Lib.hid hsq
  have hins : m.ins = (es.length : Int) := hlens.symm
  have hll : fs.length = es.length := by omega
  rw [hll] at c1
  rw [hins]
  have HIN := Lib.hid (And.intro hins hll)
  have hes16 : es.length ≤ 16 := by omega
  clear hR hfs hft hsq hins hll hlens hlent hi16
  go_enter Try.func47, Try.ntmps47
  go_upto_region 1 with fail
  refine wp_named ?_
  intro W1 hW1
  have hE1 : Ext w W1 := by rw [hW1]; exact (Ext.refl _).alloc _
  have k0 : ∀ w', Ext W1 w' → w'.cell? ⟨w.heap.size, 0, none⟩ = some (.int .i64 es.length) := fun w' h => h.cell (by rw [hW1]; simp [go_sem])
  have k2 : ∀ w', Ext W1 w' → w'.cell? ⟨w.heap.size, 2, none⟩ = some (.slice (some ⟨b, o, none⟩) m.rows.length c) := fun w' h => h.cell (by rw [hW1]; simp [go_sem])
  clear hW1
  have g0 : ∀ w', Ext W1 w' → w'.cell? ⟨b, o + s, none⟩ = some (.slice As es.length cs) := fun w' h => (hE1.trans h).cell c0
  have g1 : ∀ w', Ext W1 w' → w'.cell? ⟨b, o + t, none⟩ = some (.slice At es.length ct) := fun w' h => (hE1.trans h).cell c1
  have hsI : (s : Int) < (m.rows.length : Int) := by omega
  have htI : (t : Int) < (m.rows.length : Int) := by omega
  clear c0 c1 hs ht hb
  go_wp2
  go_loopw [9] (fun i wr => ∃ k : Nat, k ≤ es.length ∧ i = .int .i64 k ∧ (∀ j, j < k → apartAt M (es.getD j (0, 0)) (fs.getD j (0, 0)) = false) ∧ Ext W1 wr) (fun i _ => es.length - (intOf i).toNat)
  case atStart => exact ⟨0, by omega, rfl, by omega, Ext.refl _⟩
  case round =>
    obtain ⟨k, hk, rfl, hno, hE⟩ := hrel
    obtain ⟨W2, hW2⟩ : ∃ W, W = wr := ⟨_, rfl⟩
    subst hW2
    have HNO := Lib.hid hno
    clear hno
    have k0 : ∀ w', Ext W2 w' → w'.cell? ⟨w.heap.size, 0, none⟩ = some (.int .i64 es.length) := fun w' h => k0 w' (hE.trans h)
    have k2 : ∀ w', Ext W2 w' → w'.cell? ⟨w.heap.size, 2, none⟩ = some (.slice (some ⟨b, o, none⟩) m.rows.length c) := fun w' h => k2 w' (hE.trans h)
    have g0 : ∀ w', Ext W2 w' → w'.cell? ⟨b, o + s, none⟩ = some (.slice As es.length cs) := fun w' h => g0 w' (hE.trans h)
    have g1 : ∀ w', Ext W2 w' → w'.cell? ⟨b, o + t, none⟩ = some (.slice At es.length ct) := fun w' h => g1 w' (hE.trans h)
    have k00 := k0 W2 (Ext.refl _)
    by_cases hlt : k < es.length
    · have hkI : (k : Int) < (es.length : Int) := by omega
      have hlt2 : k < fs.length := by have := HIN.out.2; omega
      obtain ⟨bs, os, rfl, hbs, d0, d1⟩ := (hcs.ext (hE1.trans hE)).at_edge hlt
      obtain ⟨bt, ot, rfl, hbt, e0, e1⟩ := (hct.ext (hE1.trans hE)).at_edge hlt2
      have hfx := HF.out.1 _ (List.getElem_mem hlt)
      have hfy := HF.out.2 _ (List.getElem_mem hlt2)
      have hgx : es.getD k (0, 0) = es[k] := by simp [List.getD, hlt]
      have hgy : fs.getD k (0, 0) = fs[k] := by simp [List.getD, hlt2]
      rcases hxx : es[k] with ⟨x1, x2⟩
      rcases hyy : fs[k] with ⟨y1, y2⟩
      rw [hxx] at hfx hgx d0 d1
      rw [hyy] at hfy hgy e0 e1
      simp only at d0 d1 e0 e1
      have d0 : ∀ w', Ext W2 w' → w'.cell? ⟨bs, os + k * 2, none⟩ = some (.int .i64 x1) := fun w' h => h.cell d0
      have d1 : ∀ w', Ext W2 w' → w'.cell? ⟨bs, os + k * 2 + 1, none⟩ = some (.int .i64 x2) := fun w' h => h.cell d1
      have e0 : ∀ w', Ext W2 w' → w'.cell? ⟨bt, ot + k * 2, none⟩ = some (.int .i64 y1) := fun w' h => h.cell e0
      have e1 : ∀ w', Ext W2 w' → w'.cell? ⟨bt, ot + k * 2 + 1, none⟩ = some (.int .i64 y2) := fun w' h => h.cell e1
      have HG := Lib.hid (And.intro hgx hgy)
      have HFX := Lib.hid (And.intro hfx hfy)
      clear hgx hgy hfx hfy hxx hyy hbs hbt
      go_upto_region 4 with fail
      go_region_held3 (fun w' => Ext W2 w') ((repeat (first | exact Ext.refl _ | assumption | refine Ext.drew ?_ | refine Ext.alloc ?_ _ | (refine Ext.setCell ?_ (by simp; done) _) | (refine Ext.setCell ?_ (by simp; omega) _)))) (fail)
      all_goals
        go_upto_region 5 with fail
        refine wp_named ?_
        intro W3 hW3
        have hE3 : Ext W2 W3 := by rw [hW3]; exact (((Ext.refl _).alloc _).alloc _).drew
        first
          | (have hz : (W3.cell? ⟨W2.heap.size, 0, none⟩ = some (.int .i64 x1) ∧ W3.cell? ⟨W2.heap.size, 1, none⟩ = some (.int .i64 x2)) ∧ W3.cell? ⟨W2.heap.size + 1, 0, none⟩ = some (.int .i64 y1) ∧ W3.cell? ⟨W2.heap.size + 1, 1, none⟩ = some (.int .i64 y2) := by rw [hW3]; simp [go_sem])
          | (have hz : (W3.cell? ⟨W2.heap.size + 1, 0, none⟩ = some (.int .i64 x1) ∧ W3.cell? ⟨W2.heap.size + 1, 1, none⟩ = some (.int .i64 x2)) ∧ W3.cell? ⟨W2.heap.size, 0, none⟩ = some (.int .i64 y1) ∧ W3.cell? ⟨W2.heap.size, 1, none⟩ = some (.int .i64 y2) := by rw [hW3]; simp [go_sem])
        obtain ⟨⟨z0, z1⟩, z2, z3⟩ := hz
        clear hW3
        generalize W2.heap.size = B2 at *
        have hEw := hE1.trans (hE.trans hE3)
        have hap : Hid (apartAt M (es.getD k (0, 0)) (fs.getD k (0, 0)) = ((x2 != y2) || (decide (0 ≤ x1) && decide (0 ≤ y1) && matAt M x1 y1))) := by
          show _ = _
          rw [HG.out.1, HG.out.2]; rfl
        clear k0 k2 g0 g1 d0 d1 e0 e1 HG
        cases hne : (x2 != y2) with
        | true =>
          have hres : apartB M es fs = true := by
            cases h : apartB M es fs with
            | true => rfl
            | false => have h2 := apart_step.1 h k hlt; rw [hap.out] at h2; simp [hne] at h2
          have HRES := Lib.hid hres
          clear hres hap
          go_wp2
          go_quiet (fail)
          go_wp2
          go_ret
          exact ⟨by rw [← HR.out, HRES.out]; rfl, hEw.drewN _⟩
        | false =>
          by_cases hx : 0 ≤ x1
          · have hdx : decide (0 ≤ x1) = true := by simpa using hx
            by_cases hy : 0 ≤ y1
            · have hdy : decide (0 ≤ y1) = true := by simpa using hy
              have f1 : x1 < m.rows.length := by rcases fit_cases HFX.out.1 with h | h <;> simp at h <;> omega
              have f2 : y1 < m.rows.length := by rcases fit_cases HFX.out.2 with h | h <;> simp at h <;> omega
              obtain ⟨n1, rfl⟩ := Int.eq_ofNat_of_zero_le hx
              obtain ⟨n2, rfl⟩ := Int.eq_ofNat_of_zero_le hy
              obtain ⟨mb, mo, mc, mb', mo', mc', hkv, hmb, m0, hmb', m1⟩ := (hM.ext hEw).at_int HSQ.out (x := (n1 : Int)) (y := (n2 : Int)) ⟨hx, f1⟩ ⟨hy, f2⟩
              subst hkv
              rw [Int.toNat_natCast] at m0 m1
              cases hmt : matAt M n1 n2 with
              | true =>
                rw [hmt] at m1
                have HMT := Lib.hid hmt
                clear hmt
                have hres : apartB M es fs = true := by
                  cases h : apartB M es fs with
                  | true => rfl
                  | false => have h2 := apart_step.1 h k hlt; rw [hap.out] at h2; simp [hne, HMT.out] at h2
                have HRES := Lib.hid hres
                clear hres hap
                go_wp2
                go_quiet (fail)
                go_wp2
                go_ret
                exact ⟨by rw [← HR.out, HRES.out]; rfl, hEw.drewN _⟩
              | false =>
                rw [hmt] at m1
                have HMT := Lib.hid hmt
                clear hmt
                have hres : apartAt M (es.getD k (0, 0)) (fs.getD k (0, 0)) = false := by rw [hap.out]; simp [hne, HMT.out]
                have HRES := Lib.hid hres
                clear hres hap
                go_wp2
                go_quiet (fail)
                go_wp2
                go_roundw
                case rel => exact ⟨k + 1, by omega, by go_num, fun j hj => by
                  by_cases hjk : j = k
                  · subst hjk; exact HRES.out
                  · exact HNO.out j (by omega), (hE.trans hE3).drewN _⟩
                case measure => simp [intOf]; omega
            · have hdy : decide (0 ≤ y1) = false := by simpa using hy
              have hres : apartAt M (es.getD k (0, 0)) (fs.getD k (0, 0)) = false := by rw [hap.out]; simp [hne, hdy]
              have HRES := Lib.hid hres
              clear hres hap
              go_wp2
              go_quiet (fail)
              go_wp2
              go_roundw
              case rel => exact ⟨k + 1, by omega, by go_num, fun j hj => by
                by_cases hjk : j = k
                · subst hjk; exact HRES.out
                · exact HNO.out j (by omega), (hE.trans hE3).drewN _⟩
              case measure => simp [intOf]; omega
          · have hdx : decide (0 ≤ x1) = false := by simpa using hx
            have hres : apartAt M (es.getD k (0, 0)) (fs.getD k (0, 0)) = false := by rw [hap.out]; simp [hne, hdx]
            have HRES := Lib.hid hres
            clear hres hap
            go_wp2
            go_quiet (fail)
            go_wp2
            go_roundw
            case rel => exact ⟨k + 1, by omega, by go_num, fun j hj => by
              by_cases hjk : j = k
              · subst hjk; exact HRES.out
              · exact HNO.out j (by omega), (hE.trans hE3).drewN _⟩
            case measure => simp [intOf]; omega
    · have hkl : k = es.length := by omega
      subst hkl
      have hap : apartB M es fs = false := apart_step.2 HNO.out
      go_wp2
      go_ret
      exact ⟨by rw [← HR.out, hap]; rfl, hE1.trans hE⟩
end Go.Proofs.Ytkmcplhgakpneaa
