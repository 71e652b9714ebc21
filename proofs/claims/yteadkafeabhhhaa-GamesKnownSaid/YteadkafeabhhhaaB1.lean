/- The check of a machine: slices.IndexFunc, slices.ContainsFunc, machines.Check. -/
import Derived.Test.YteadkafeabhhhaaA2
namespace Go.Proofs.Yteadkafeabhhhaa
open Go.RowKit
set_option linter.unusedVariables false
set_option linter.unusedSimpArgs false
attribute [local go_sem] Oper.quietV quietV Oper.gives givesV

set_option maxHeartbeats 400000 in
theorem check1_any (w : World) (b : Nat) (m : Mach) (hm : MBox w b m) (x y : Int) :
   Calls Try.prog 49 #[.agg #[.int .i64 x, .int .i64 y], .pointer (some ⟨b, 0, none⟩)] w fun e w' => e = .returned (.bool (!fitsB m (x, y))) ∧ Ext w w' := by
  obtain ⟨rv, c, hb, h0, h1, h2, hr⟩ := hm
  have hne : b ≠ w.heap.size := by omega
  go_enter Try.func49, Try.ntmps49
  go_wp2_with (fail)
  refine (fits_any _ _ m ⟨rv, c, rfl, hr.ext ((Ext.refl _).alloc _)⟩ x y).mono ?_
  rintro e w1 ⟨rfl, hb⟩
  go_wp2
  go_ret
  exact ⟨rfl, ((Ext.refl _).alloc _).trans hb⟩

set_option maxHeartbeats 400000 in
theorem index_any (w : World) (b : Nat) (m : Mach) (hm : MBox w b m) (v : Value) (es : List (Int × Int)) (c : Nat) (hv : EdgesC w v es c) :
   Calls Try.prog 52 #[v, .func (.func 49) #[] #[.pointer (some ⟨b, 0, none⟩)]] w fun e w' => (∃ i : Int, e = .returned (.int .i64 i) ∧ decide (0 ≤ i) = es.any (fun x => !fitsB m x)) ∧ Ext w w' := by
  obtain ⟨A, rfl, hc, _, hmax⟩ := hv
  unfold lenMax at hmax
  go_enter Try.func52, Try.ntmps52
  go_wp2_with (fail)
  go_loopw [8, 5] (fun i _ wr => ∃ k : Nat, k ≤ es.length ∧ i = .int .i64 k ∧ (es.take k).any (fun x => !fitsB m x) = false ∧ Ext w wr) (fun i _ _ => es.length - (intOf i).toNat)
  case atStart => exact ⟨0, by omega, rfl, by simp, Ext.refl _⟩
  case round =>
    obtain ⟨k, hk, rfl, hpre, hE⟩ := hrel
    by_cases hlt : k < es.length
    · obtain ⟨b', o', rfl, hb', c0, c1⟩ := (hc.ext hE).at_edge hlt
      have hnot : Hid ((es.take (k + 1)).any (fun x => !fitsB m x) = !fitsB m es[k]) := by
        show _ = _
        rw [List.take_succ_eq_append_getElem hlt, List.any_append, hpre]; simp
      go_wp2_with (fail)
      refine (check1_any wr b m (hm.ext hE) es[k].1 es[k].2).mono ?_
      rintro e w1 ⟨rfl, hb1⟩
      cases hf : fitsB m es[k]
      · go_wp2
        go_ret
        refine ⟨⟨k, rfl, ?_⟩, hE.trans hb1⟩
        have h1 : es.any (fun x => !fitsB m x) = true := List.any_eq_true.2 ⟨es[k], List.getElem_mem hlt, by simp [hf]⟩
        rw [h1]; simp
      · go_wp2
        go_roundw
        case rel => exact ⟨k + 1, by omega, by go_num, by rw [hnot.out, hf]; rfl, hE.trans hb1⟩
        case measure => simp [intOf]; omega
    · go_wp2
      go_ret
      have : k = es.length := by omega
      subst this
      rw [List.take_length] at hpre
      exact ⟨⟨-1, rfl, by rw [hpre]; rfl⟩, hE⟩

def rowBad (m : Mach) (es : List (Int × Int)) : Bool := es.any (fun x => !fitsB m x)
theorem contains_any (w : World) (b : Nat) (m : Mach) (hm : MBox w b m) (v : Value) (es : List (Int × Int)) (c : Nat) (hv : EdgesC w v es c) :
   Calls Try.prog 48 #[v, .func (.func 49) #[] #[.pointer (some ⟨b, 0, none⟩)]] w fun e w' => e = .returned (.bool (rowBad m es)) ∧ Ext w w' := by
  go_enter Try.func48, Try.ntmps48
  go_wp2_with (fail)
  refine (index_any w b m hm v es c hv).mono ?_
  rintro e w1 ⟨⟨i, rfl, hi⟩, hb⟩
  have Hi := Lib.hid hi; clear hi
  go_wp2
  go_ret
  rw [rowBad, ← Hi.out]
  exact ⟨rfl, hb⟩

def lead (m : Mach) : Int :=
  if 16 < m.ins ∨ 16 < m.outs ∨ 64 < m.rows.length then 3 else if m.ins < 1 ∨ m.outs < 1 ∨ m.rows.length < 1 then 1 else 0
def badRow (m : Mach) (es : List (Int × Int)) : Bool := ((es.length : Int) != m.ins) || rowBad m es
def checkM (m : Mach) : Int := if lead m ≠ 0 then lead m else if m.rows.any (badRow m) then 1 else 0

set_option maxHeartbeats 1000000 in
theorem check_any (w : World) (mv : Value) (m : Mach) (hm : MachV w mv m) :
   Calls Try.prog 27 #[mv] w fun e w' => e = .returned (.int .i64 (checkM m)) ∧ Ext w w' := by
  obtain ⟨rv, c, rfl, hr⟩ := hm
  have hr0 := hr
  obtain ⟨A, vs, rfl, hc, hl, hrr, hb1, hb2⟩ := hr
  unfold lenMax at hb2
  by_cases h1 : 16 < m.ins
  ·
    have hch : checkM m = 3 := by simp [checkM, lead, h1]
    rw [hch]; clear hch
    go_enter Try.func27, Try.ntmps27
    go_wp2
    go_ret
    exact ⟨rfl, (Ext.refl _).alloc _⟩
  by_cases h2 : 16 < m.outs
  ·
    have hch : checkM m = 3 := by simp [checkM, lead, h2]
    rw [hch]; clear hch
    go_enter Try.func27, Try.ntmps27
    go_wp2
    go_ret
    exact ⟨rfl, (Ext.refl _).alloc _⟩
  by_cases h3 : (64 : Int) < m.rows.length
  · have h3' : 64 < m.rows.length := by omega
    have hch : checkM m = 3 := by simp [checkM, lead, h3']
    rw [hch]; clear hch
    go_enter Try.func27, Try.ntmps27
    go_wp2
    go_ret
    exact ⟨rfl, (Ext.refl _).alloc _⟩
  have h3' : ¬ 64 < m.rows.length := by omega
  by_cases h4 : m.ins < 1
  ·
    have hch : checkM m = 1 := by simp [checkM, lead, h1, h2, h3', h4]
    rw [hch]; clear hch
    go_enter Try.func27, Try.ntmps27
    go_wp2
    go_ret
    exact ⟨rfl, (Ext.refl _).alloc _⟩
  by_cases h5 : m.outs < 1
  ·
    have hch : checkM m = 1 := by simp [checkM, lead, h1, h2, h3', h4, h5]
    rw [hch]; clear hch
    go_enter Try.func27, Try.ntmps27
    go_wp2
    go_ret
    exact ⟨rfl, (Ext.refl _).alloc _⟩
  by_cases h6 : (m.rows.length : Int) < 1
  · have h6' : m.rows = [] := List.eq_nil_of_length_eq_zero (by omega)
    have hch : checkM m = 1 := by simp [checkM, lead, h1, h2, h6']
    rw [hch]; clear hch
    go_enter Try.func27, Try.ntmps27
    go_wp2
    go_ret
    exact ⟨rfl, (Ext.refl _).alloc _⟩
  have hlead : lead m = 0 := by simp [lead, h1, h2, h3', h4, h5]; intro hh; simp [hh] at h6
  have hchk : checkM m = if m.rows.any (badRow m) then 1 else 0 := by simp [checkM, hlead]
  have HC := Lib.hid hchk
  clear hchk hlead h3'
  go_enter Try.func27, Try.ntmps27
  go_wp2_with (fail)
  go_loopw [36] (fun i wr => ∃ k : Nat, k ≤ m.rows.length ∧ i = .int .i64 k ∧ (m.rows.take k).any (badRow m) = false ∧ Ext w wr ∧ MBox wr w.heap.size m) (fun i _ => m.rows.length - (intOf i).toNat)
  case atStart =>
    refine ⟨0, by omega, rfl, by simp, (Ext.refl _).alloc _, .slice A m.rows.length c, c, by simp, ?_, ?_, ?_, hr0.ext ((Ext.refl _).alloc _)⟩ <;> simp [go_sem]
  case round =>
    obtain ⟨k, hk, rfl, hpre, hE, hbox⟩ := hrel
    by_cases hlt : k < m.rows.length
    · obtain ⟨b', o', u, c', hA, hb', c0, hes⟩ := (hr0.ext hE).at_ hlt
      obtain rfl : A = some ⟨b', o', none⟩ := by injection hA
      have hes0 := hes
      obtain ⟨A2, rfl, _, _, hmax2⟩ := hes
      unfold lenMax at hmax2
      have hnext : Hid ((m.rows.take (k + 1)).any (badRow m) = badRow m m.rows[k]) := by
        show _ = _
        rw [List.take_succ_eq_append_getElem hlt, List.any_append, hpre]; simp
      have hbad : Hid (badRow m m.rows[k] = (((m.rows[k].length : Int) != m.ins) || rowBad m m.rows[k])) := rfl
      have hany : Hid (badRow m m.rows[k] = true → m.rows.any (badRow m) = true) := fun h => List.any_eq_true.2 ⟨m.rows[k], List.getElem_mem hlt, h⟩
      have hbox0 := hbox
      obtain ⟨rv', c2, hbb, g0, g1, g2, _⟩ := hbox
      cases hlen : ((m.rows[k].length : Int) != m.ins)
      · go_wp2_with (fail)
        refine (contains_any wr _ m hbox0 _ _ c' hes0).mono ?_
        rintro e w1 ⟨rfl, hb1⟩
        cases hrb : rowBad m m.rows[k]
        · go_wp2
          go_roundw
          case rel => exact ⟨k + 1, by omega, by go_num, by rw [hnext.out, hbad.out, hlen, hrb]; rfl, hE.trans hb1, hbox0.ext hb1⟩
          case measure => simp [intOf]; omega
        · go_wp2
          go_ret
          rw [HC.out, hany.out (by rw [hbad.out, hlen, hrb]; rfl)]
          exact ⟨rfl, hE.trans hb1⟩
      · go_wp2_with (fail)
        go_ret
        rw [HC.out, hany.out (by rw [hbad.out, hlen]; rfl)]
        exact ⟨rfl, hE⟩
    · go_wp2
      go_ret
      have : k = m.rows.length := by omega
      subst this
      rw [List.take_length] at hpre
      rw [HC.out, hpre]
      exact ⟨rfl, hE⟩
end Go.Proofs.Yteadkafeabhhhaa
