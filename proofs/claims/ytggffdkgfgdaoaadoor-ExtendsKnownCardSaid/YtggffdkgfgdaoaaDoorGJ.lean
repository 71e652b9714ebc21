/- ref25.Before 60, ref25.Same 42; the law's word 15. ref04.Same 21: two machines held against one another. -/
import Derived.Test.YtggffdkgfgdaoaaDoorGI
namespace Go.Proofs.YtggffdkgfgdaoaaDoor
open Go.RowKit Go.Maps
set_option linter.unusedVariables false
set_option linter.unusedSimpArgs false
attribute [local go_sem] Oper.quietV quietV Oper.gives givesV ext_refl_iff ext_alloc_iff ext_drew_iff ext_drewN_iff
def befG : List Int → List Int → Bool
  | x :: xs, y :: ys => if x = y then befG xs ys else decide (x < y)
  | _, _ => false
def befL (xs ys : List Int) : Bool := if xs.length = ys.length then befG xs ys else decide (xs.length < ys.length)
theorem befG_same : ∀ xs ys : List Int, xs.length = ys.length → (befG xs ys = false ∧ befG ys xs = false ↔ xs = ys)
  | [], [], _ => by simp [befG]
  | x :: xs, y :: ys, h => by
    have ih := befG_same xs ys (by simpa using h)
    unfold befG
    by_cases hxy : x = y
    · subst hxy; simp [ih]
    · rw [if_neg hxy, if_neg (fun e => hxy e.symm)]
      simp [hxy]; omega
theorem befL_same (xs ys : List Int) (h : xs.length = ys.length) : (befL xs ys = false ∧ befL ys xs = false) ↔ xs = ys := by
  unfold befL; rw [if_pos h, if_pos h.symm]; exact befG_same xs ys h
set_option maxHeartbeats 800000 in
theorem before_any (w : World) (v u : Value) (xs ys : List Int) (ca cb : Nat) (hv : IntsC w v xs ca) (hu : IntsC w u ys cb) :
    Calls Tryd.prog 60 #[v, u] w fun e w' => e = .returned (.int .i64 (b01 (befL xs ys))) ∧ Ext w w' := by
  obtain ⟨A, rfl, ha, _, hx⟩ := hv
  obtain ⟨B, rfl, hb, _, hy⟩ := hu
  unfold lenMax at hx hy
  by_cases hl : xs.length = ys.length
  · have hl1 : ((xs.length : Int) != (ys.length : Int)) = false := by simp [hl]
    have HB : Hid (befL xs ys = befG xs ys) := if_pos hl
    have HL := Lib.hid hl; clear hl
    go_enter Tryd.func60, Tryd.ntmps60
    go_wp2
    go_loopw [5] (fun i wr => ∃ k : Nat, k ≤ xs.length ∧ i = .int .i64 k ∧ Hid (befL xs ys = befG (xs.drop k) (ys.drop k)) ∧ Ext w wr) (fun i _ => xs.length - (intOf i).toNat)
    case atStart => exact ⟨0, by omega, rfl, HB, Ext.refl _⟩
    case round =>
      obtain ⟨k, hk, rfl, hpre, hE⟩ := hrel
      by_cases hlt : k < xs.length
      · have hk2 : k < ys.length := by have := HL.out; omega
        obtain ⟨b, o, rfl, _, c1⟩ := (ha.ext hE).at_int hlt
        obtain ⟨b', o', rfl, _, c2⟩ := (hb.ext hE).at_int hk2
        have hstep : Hid (befL xs ys = if xs[k] = ys[k] then befG (xs.drop (k + 1)) (ys.drop (k + 1)) else decide (xs[k] < ys[k])) := by
          show _ = _
          rw [hpre.out, List.drop_eq_getElem_cons hlt, List.drop_eq_getElem_cons hk2, befG]
        generalize xs[k] = x at *
        generalize ys[k] = y at *
        go_wp2_with fail
        go_quiet (fail)
        cases hc : (x != y)
        · have hxy : x = y := by simpa using hc
          have hres : Hid (befL xs ys = befG (xs.drop (k + 1)) (ys.drop (k + 1))) := by show _ = _; rw [hstep.out, if_pos hxy]
          clear hxy
          go_wp2
          go_roundw
          case rel => exact ⟨k + 1, by omega, by go_num, hres, hE.drewN _⟩
          case measure => simp [intOf]; omega
        · by_cases l1 : x < y
          ·
            have hres : Hid (befL xs ys = true) := by show _ = _; rw [hstep.out, if_neg (by simpa using hc)]; simp; omega
            go_wp2
            go_quiet (fail)
            go_wp2
            go_ret
            exact ⟨by rw [hres.out]; rfl, (hE.drewN _).drewN _⟩
          ·
            have hres : Hid (befL xs ys = false) := by show _ = _; rw [hstep.out, if_neg (by simpa using hc)]; simp; omega
            go_wp2
            go_quiet (fail)
            go_wp2
            go_ret
            exact ⟨by rw [hres.out]; rfl, (hE.drewN _).drewN _⟩
      · have hke : k = xs.length := by omega
        go_wp2
        go_ret
        exact ⟨by rw [hpre.out, hke, List.drop_length]; rfl, hE⟩
  · have hl1 : ((xs.length : Int) != (ys.length : Int)) = true := by simp; omega
    have HB : Hid (befL xs ys = decide (xs.length < ys.length)) := if_neg hl
    clear hl
    by_cases h2 : xs.length < ys.length
    · go_enter Tryd.func60, Tryd.ntmps60
      go_wp2
      go_ret
      exact ⟨by rw [HB.out, decide_eq_true h2]; rfl, Ext.refl _⟩
    · go_enter Tryd.func60, Tryd.ntmps60
      go_wp2
      go_ret
      exact ⟨by rw [HB.out, decide_eq_false h2]; rfl, Ext.refl _⟩

set_option maxHeartbeats 800000 in
theorem same_any (w : World) (v u : Value) (xs ys : List Int) (ca cb : Nat) (hv : IntsC w v xs ca) (hu : IntsC w u ys cb) :
    Calls Tryd.prog 42 #[v, u] w fun e w' => e = .returned (.int .i64 (b01 (xs == ys))) ∧ Ext w w' := by
  obtain ⟨A, rfl, ha, hca, hx⟩ := id hv
  obtain ⟨B, rfl, hb, hcb, hy⟩ := id hu
  unfold lenMax at hx hy
  by_cases hl : xs.length = ys.length
  · have hl1 : ((xs.length : Int) != (ys.length : Int)) = false := by simp [hl]
    have HS := Lib.hid (befL_same xs ys hl)
    have h1 := before_any w _ _ xs ys ca cb hv hu
    have h2 := fun w1 (hE : Ext w w1) => before_any w1 _ _ ys xs cb ca (hu.ext hE) (hv.ext hE)
    clear hl
    generalize hb1 : befL xs ys = b1 at *
    generalize hb2 : befL ys xs = b2 at *
    clear hb1 hb2
    go_enter Tryd.func42, Tryd.ntmps42
    cases b1 with
    | true =>
      have hs : Hid ((xs == ys) = false) := by
        show _ = _
        rw [beq_eq_false_iff_ne]; intro e; have := HS.out.2 e; simp at this
      go_wp2_with ((with_reducible refine h1.mono ?_); rintro e w1 ⟨rfl, hE1⟩)
      go_wp2
      go_ret
      exact ⟨by rw [hs.out]; rfl, hE1⟩
    | false =>
      cases b2 with
      | true =>
        have hs : Hid ((xs == ys) = false) := by
          show _ = _
          rw [beq_eq_false_iff_ne]; intro e; have := HS.out.2 e; simp at this
        go_wp2_with (first | ((with_reducible refine h1.mono ?_); rintro e w1 ⟨rfl, hE1⟩) | ((with_reducible refine (h2 _ hE1).mono ?_); rintro e w2 ⟨rfl, hE2⟩))
        go_wp2
        go_ret
        exact ⟨by rw [hs.out]; rfl, hE1.trans hE2⟩
      | false =>
        have hs : Hid ((xs == ys) = true) := by
          show _ = _
          rw [beq_iff_eq]; exact HS.out.1 ⟨rfl, rfl⟩
        go_wp2_with (first | ((with_reducible refine h1.mono ?_); rintro e w1 ⟨rfl, hE1⟩) | ((with_reducible refine (h2 _ hE1).mono ?_); rintro e w2 ⟨rfl, hE2⟩))
        go_wp2
        go_ret
        exact ⟨by rw [hs.out]; rfl, hE1.trans hE2⟩
  · have hl1 : ((xs.length : Int) != (ys.length : Int)) = true := by simp; omega
    have hs : Hid ((xs == ys) = false) := by
      show _ = _
      rw [beq_eq_false_iff_ne]; intro e; exact hl (by rw [e])
    clear hl
    go_enter Tryd.func42, Tryd.ntmps42
    go_wp2
    go_ret
    exact ⟨by rw [hs.out]; rfl, Ext.refl _⟩
def wordB (xs : List Int) (c : Nat) (er : Int) (ys : List Int) : Bool := er == 0 && (c == xs.length && xs == ys)
set_option maxHeartbeats 800000 in
theorem word_any (w : World) (v u : Value) (xs ys : List Int) (c cu : Nat) (er : Int) (hv : IntsC w v xs c) (hu : IntsC w u ys cu) :
    Calls Tryd.prog 15 #[v, .int .i64 er, u] w fun e w' => e = .returned (.int .i64 (b01 (wordB xs c er ys))) ∧ Ext w w' := by
  obtain ⟨r, hr⟩ : ∃ r, r = wordB xs c er ys := ⟨_, rfl⟩
  rw [← hr]
  unfold wordB at hr
  have h1 := same_any w v u xs ys c cu hv hu
  obtain ⟨sb, hsb⟩ : ∃ sb, sb = (xs == ys) := ⟨_, rfl⟩
  rw [← hsb] at h1 hr
  obtain ⟨A, rfl, ha, hca, hx⟩ := hv
  obtain ⟨B, rfl, hb, hcb, hy⟩ := hu
  unfold lenMax at hx hy
  have HR := Lib.hid hr
  clear hr hsb ha hb
  by_cases he : er = 0
  · subst he
    by_cases hc : c = xs.length
    · have HR : Hid (r = sb) := Lib.hid (by rw [HR.out, hc]; simp)
      have hc2 : ((c : Int) != (xs.length : Int)) = false := by simp [hc]
      clear hc
      go_enter Tryd.func15, Tryd.ntmps15
      go_wp2_with ((with_reducible refine h1.mono ?_); rintro e w1 ⟨rfl, hE1⟩)
      go_ret
      exact ⟨by rw [HR.out]; rfl, hE1⟩
    · have HR : Hid (r = false) := Lib.hid (by rw [HR.out, beq_eq_false_iff_ne.2 hc]; rfl)
      have hc2 : ((c : Int) != (xs.length : Int)) = true := by simp; omega
      clear hc h1
      go_enter Tryd.func15, Tryd.ntmps15
      go_wp2
      go_ret
      exact ⟨by rw [HR.out]; rfl, Ext.refl _⟩
  · have HR : Hid (r = false) := Lib.hid (by rw [HR.out, beq_eq_false_iff_ne.2 he]; rfl)
    have he2 : (er != 0) = true := bne_iff_ne.2 he
    clear he h1
    go_enter Tryd.func15, Tryd.ntmps15
    go_wp2
    go_ret
    exact ⟨by rw [HR.out]; rfl, Ext.refl _⟩
end Go.Proofs.YtggffdkgfgdaoaaDoor

namespace Go.Proofs.YtggffdkgfgdaoaaDoor
open Go.RowKit Go.Maps
set_option linter.unusedVariables false
set_option linter.unusedSimpArgs false
attribute [local go_sem] Oper.quietV quietV Oper.gives givesV ext_refl_iff ext_alloc_iff ext_drew_iff ext_drewN_iff
abbrev Rws := List (List (Int × Int))
theorem rows_eq_of {r1 r2 : Rws} (hl : r1.length = r2.length) (h : ∀ i, i < r1.length → r1[i]? = r2[i]?) : r1 = r2 := by
  apply List.ext_getElem? 
  intro i
  by_cases hi : i < r1.length
  · exact h i hi
  · rw [List.getElem?_eq_none (by omega), List.getElem?_eq_none (by omega)]
theorem slice_adr {A B : Option Addr} {n c : Nat} (h : Value.slice A n c = .slice B n c) : A = B := by cases h; rfl
def msB (i1 i2 o1 o2 : Int) (r1 r2 : Rws) : Bool := decide (i1 = i2 ∧ o1 = o2 ∧ r1 = r2)
set_option maxRecDepth 100000 in
set_option maxHeartbeats 8000000 in
theorem machSame_any (w : World) (i1 i2 o1 o2 : Int) (v1 v2 : Value) (r1 r2 : Rws) (c1 c2 : Nat) (h1 : RowsC w v1 r1 c1) (h2 : RowsC w v2 r2 c2) :
    Calls Tryd.prog 21 #[.agg #[.int .i64 i1, .int .i64 o1, v1], .agg #[.int .i64 i2, .int .i64 o2, v2]] w fun e w' => e = .returned (.bool (msB i1 i2 o1 o2 r1 r2)) ∧ Ext w w' := by
  obtain ⟨rb, hrb⟩ : ∃ r, r = msB i1 i2 o1 o2 r1 r2 := ⟨_, rfl⟩
  rw [← hrb]
  unfold msB at hrb
  have HRB := Lib.hid hrb
  have HX := Lib.hid (And.intro h1 h2)
  obtain ⟨A1, u1, rfl, _, hu1, _, hn1, hm1⟩ := h1
  obtain ⟨A2, u2, rfl, _, hu2, _, hn2, hm2⟩ := h2
  unfold lenMax at hm1 hm2
  clear hrb hu1 hu2
  go_enter Tryd.func21, Tryd.ntmps21
  go_upto_region 1 with fail
  refine wp_named ?_
  intro W1 hW1
  have hE1 : Ext w W1 := by rw [hW1]; exact (alloc_ext w _).trans (alloc_ext _ _)
  have a0 : ∀ w', Ext W1 w' → w'.cell? ⟨w.heap.size, 0, none⟩ = some (.int .i64 i1) := fun w' h => h.cell (by rw [hW1]; simp [go_sem])
  have a1 : ∀ w', Ext W1 w' → w'.cell? ⟨w.heap.size, 1, none⟩ = some (.int .i64 o1) := fun w' h => h.cell (by rw [hW1]; simp [go_sem])
  have a2 : ∀ w', Ext W1 w' → w'.cell? ⟨w.heap.size, 2, none⟩ = some (.slice A1 r1.length c1) := fun w' h => h.cell (by rw [hW1]; simp [go_sem])
  have b0 : ∀ w', Ext W1 w' → w'.cell? ⟨w.heap.size + 1, 0, none⟩ = some (.int .i64 i2) := fun w' h => h.cell (by rw [hW1]; simp [go_sem])
  have b1 : ∀ w', Ext W1 w' → w'.cell? ⟨w.heap.size + 1, 1, none⟩ = some (.int .i64 o2) := fun w' h => h.cell (by rw [hW1]; simp [go_sem])
  have b2 : ∀ w', Ext W1 w' → w'.cell? ⟨w.heap.size + 1, 2, none⟩ = some (.slice A2 r2.length c2) := fun w' h => h.cell (by rw [hW1]; simp [go_sem])
  have HE1 := Lib.hid hE1
  have hR1 := Ext.refl W1
  clear hW1 hE1
  generalize w.heap.size + 1 = d2 at *
  generalize w.heap.size = d1 at *
  by_cases gi : i1 = i2
  rotate_left
  · have gi2 : (i1 != i2) = true := bne_iff_ne.2 gi
    have GI := Lib.hid gi
    clear gi
    have HR : Hid (rb = false) := Lib.hid (by rw [HRB.out]; exact decide_eq_false (by rintro ⟨e1, e2, e3⟩; exact GI.out e1))
    go_wp2
    go_ret
    exact ⟨by rw [HR.out]; rfl, HE1.out⟩
  have gi2 : (i1 != i2) = false := bne_eq_false_iff_eq.2 gi
  have GI := Lib.hid gi
  clear gi
  by_cases go : o1 = o2
  rotate_left
  · have go2 : (o1 != o2) = true := bne_iff_ne.2 go
    have GO := Lib.hid go
    clear go
    have HR : Hid (rb = false) := Lib.hid (by rw [HRB.out]; exact decide_eq_false (by rintro ⟨e1, e2, e3⟩; exact GO.out e2))
    go_wp2
    go_ret
    exact ⟨by rw [HR.out]; rfl, HE1.out⟩
  have go2 : (o1 != o2) = false := bne_eq_false_iff_eq.2 go
  have GO := Lib.hid go
  clear go
  by_cases gl : r1.length = r2.length
  rotate_left
  · have gl2 : ((r1.length : Int) != (r2.length : Int)) = true := by simp; omega
    have GL := Lib.hid gl
    clear gl
    have HR : Hid (rb = false) := Lib.hid (by rw [HRB.out]; exact decide_eq_false (by rintro ⟨e1, e2, e3⟩; exact GL.out (by rw [e3])))
    go_wp2
    go_ret
    exact ⟨by rw [HR.out]; rfl, HE1.out⟩
  have gl2 : ((r1.length : Int) != (r2.length : Int)) = false := by simp; omega
  have GL := Lib.hid gl
  clear gl
  go_wp2
  go_loopw [5] (fun iv wr => ∃ (i : Nat), iv = .int .i64 i ∧ i ≤ r1.length ∧ Hid (∀ j, j < i → r1[j]? = r2[j]?) ∧ Hid (Ext W1 wr)) (fun iv _ => r1.length - (intOf iv).toNat)
  case atStart => exact ⟨0, by first | rfl | simp, Nat.zero_le _, Lib.hid (fun j h => by omega), Lib.hid (Ext.refl _)⟩
  case round =>
    obtain ⟨i, rfl, hi, HP, HW⟩ := hrel
    obtain ⟨W5, hW5⟩ : ∃ W, W = wr := ⟨_, rfl⟩; subst hW5
    have hR5 := Ext.refl W5
    have a2 := fun w' (h : Ext W5 w') => a2 w' (HW.out.trans h)
    have b2 := fun w' (h : Ext W5 w') => b2 w' (HW.out.trans h)
    have HE5 := Lib.hid (HE1.out.trans HW.out)
    by_cases hlt : i < r1.length
    · have hlI : (i : Int) < (r1.length : Int) := by omega
      have hlt2 : i < r2.length := by have := GL.out; omega
      obtain ⟨g1, p1, x1, k1, hv1, _, hc1, he1⟩ := (HX.out.1.ext HE5.out).at_ hlt
      obtain ⟨g2, p2, x2, k2, hv2, _, hc2, he2⟩ := (HX.out.2.ext HE5.out).at_ hlt2
      obtain ⟨B1, hx1, hb1, hn1', hm1'⟩ := he1
      obtain ⟨B2, hx2, hb2, hn2', hm2'⟩ := he2
      have hA1 := slice_adr hv1
      have hA2 := slice_adr hv2
      subst hA1 hA2 hx1 hx2
      unfold lenMax at hm1' hm2'
      have HI := Lib.hid (And.intro (List.getElem?_eq_getElem hlt) (List.getElem?_eq_getElem hlt2))
      generalize r1[i] = es at *
      generalize r2[i] = fs at *
      have HB := Lib.hid (And.intro hb1 hb2)
      have hc1 := fun w' (h : Ext W5 w') => h.cell hc1
      have hc2 := fun w' (h : Ext W5 w') => h.cell hc2
      clear hv1 hv2 hb1 hb2
      by_cases gl : es.length = fs.length
      rotate_left
      · have gl2 : ((es.length : Int) != (fs.length : Int)) = true := by simp; omega
        have HR : Hid (rb = false) := Lib.hid (by rw [HRB.out]; exact decide_eq_false (by
          rintro ⟨e1, e2, e3⟩
          have h := HI.out.1
          rw [e3, HI.out.2] at h
          injection h with h
          exact gl (by rw [h])))
        clear gl
        go_upto_region 6 with fail
        go_quiet (fail)
        have hE6 : Ext W5 (W5.drewN nq) := (Ext.refl _).drewN _
        go_wp2
        go_ret
        exact ⟨by rw [HR.out]; rfl, HE5.out.trans hE6⟩
      have gl2 : ((es.length : Int) != (fs.length : Int)) = false := by simp; omega
      have GE := Lib.hid gl
      clear gl
      go_upto_region 6 with fail
      go_quiet (fail)
      obtain ⟨W6, hW6⟩ : ∃ W, W = W5.drewN nq := ⟨_, rfl⟩
      have hE6 : Ext W5 W6 := by rw [hW6]; exact (Ext.refl _).drewN _
      rw [← hW6]
      have a2 := fun w' (h : Ext W6 w') => a2 w' (hE6.trans h)
      have b2 := fun w' (h : Ext W6 w') => b2 w' (hE6.trans h)
      have hc1 := fun w' (h : Ext W6 w') => hc1 w' (hE6.trans h)
      have hc2 := fun w' (h : Ext W6 w') => hc2 w' (hE6.trans h)
      have HE6 := Lib.hid (And.intro hE6 (HE5.out.trans hE6))
      have hR6 := Ext.refl W6
      clear hW6 hE6 hR5
      go_wp2
      go_loopw [6] (fun kv wr => ∃ (k : Nat), kv = .int .i64 k ∧ k ≤ es.length ∧ Hid (∀ j, j < k → es[j]? = fs[j]?) ∧ Hid (Ext W6 wr)) (fun kv _ => es.length - (intOf kv).toNat)
      case atStart => exact ⟨0, by first | rfl | simp, Nat.zero_le _, Lib.hid (fun j h => by omega), Lib.hid (Ext.refl _)⟩
      case round =>
        obtain ⟨k, rfl, hk, HP2, HW2⟩ := hrel
        obtain ⟨W7, hW7⟩ : ∃ W, W = wr := ⟨_, rfl⟩; subst hW7
        have hR7 := Ext.refl W7
        have a2 := fun w' (h : Ext W7 w') => a2 w' (HW2.out.trans h)
        have b2 := fun w' (h : Ext W7 w') => b2 w' (HW2.out.trans h)
        have hc1 := fun w' (h : Ext W7 w') => hc1 w' (HW2.out.trans h)
        have hc2 := fun w' (h : Ext W7 w') => hc2 w' (HW2.out.trans h)
        have HE7 := Lib.hid (HE6.out.2.trans HW2.out)
        by_cases hkn : k < es.length
        · have hkI : (k : Int) < (es.length : Int) := by omega
          have hkn2 : k < fs.length := by have := GE.out; omega
          obtain ⟨y1, z1, hB1, _, m1, m1'⟩ := (HB.out.1.ext (HE6.out.1.trans HW2.out)).at_edge hkn
          obtain ⟨y2, z2, hB2, _, m2, m2'⟩ := (HB.out.2.ext (HE6.out.1.trans HW2.out)).at_edge hkn2
          subst hB1 hB2
          have HK := Lib.hid (And.intro (List.getElem?_eq_getElem hkn) (List.getElem?_eq_getElem hkn2))
          generalize es[k] = ek at *
          generalize fs[k] = fk at *
          obtain ⟨p, q⟩ := ek
          obtain ⟨r, s⟩ := fk
          dsimp only at m1 m1' m2 m2'
          have m1 := fun w' (h : Ext W7 w') => h.cell m1
          have m1' := fun w' (h : Ext W7 w') => h.cell m1'
          have m2 := fun w' (h : Ext W7 w') => h.cell m2
          have m2' := fun w' (h : Ext W7 w') => h.cell m2'
          by_cases gp : p = r
          · subst gp
            by_cases gq : q = s
            · subst gq
              have HP3 : Hid (∀ j, j < k + 1 → es[j]? = fs[j]?) := Lib.hid (fun j hj => by
                by_cases hjk : j = k
                · subst hjk; rw [HK.out.1, HK.out.2]
                · exact HP2.out j (by omega))
              go_upto_region 11 with fail
              go_quiet (fail)
              have HE8 := Lib.hid (HW2.out.trans ((Ext.refl _).drewN nq))
              go_wp2
              refine ⟨⟨k + 1, by go_num, hkn, HP3, HE8⟩, ?_⟩
              simp [intOf]; omega
            · have gq1 : (q == s) = false := beq_eq_false_iff_ne.2 gq
              have gq2 : (q != s) = true := bne_iff_ne.2 gq
              have HR : Hid (rb = false) := Lib.hid (by rw [HRB.out]; exact decide_eq_false (by
                rintro ⟨_, _, e3⟩
                have h := HI.out.1
                rw [e3, HI.out.2] at h
                injection h with h
                have h2 := HK.out.1
                rw [← h, HK.out.2] at h2
                injection h2 with h2
                injection h2 with _ h2
                exact gq h2.symm))
              clear gq
              go_upto_region 11 with fail
              go_quiet (fail)
              have HE8 := Lib.hid (HE7.out.trans ((Ext.refl _).drewN nq))
              go_wp2
              go_ret
              exact ⟨by rw [HR.out]; rfl, HE8.out⟩
          · have gp1 : (p == r) = false := beq_eq_false_iff_ne.2 gp
            have gp2 : (p != r) = true := bne_iff_ne.2 gp
            have HR : Hid (rb = false) := Lib.hid (by rw [HRB.out]; exact decide_eq_false (by
              rintro ⟨_, _, e3⟩
              have h := HI.out.1
              rw [e3, HI.out.2] at h
              injection h with h
              have h2 := HK.out.1
              rw [← h, HK.out.2] at h2
              injection h2 with h2
              injection h2 with h2 _
              exact gp h2.symm))
            clear gp
            go_upto_region 11 with fail
            go_quiet (fail)
            have HE8 := Lib.hid (HE7.out.trans ((Ext.refl _).drewN nq))
            go_wp2
            go_ret
            exact ⟨by rw [HR.out]; rfl, HE8.out⟩
        · have hke : k = es.length := by omega
          subst hke
          have hlt3 : ¬ (es.length : Int) < (es.length : Int) := by omega
          have HP4 : Hid (∀ j, j < i + 1 → r1[j]? = r2[j]?) := Lib.hid (fun j hj => by
            by_cases hji : j = i
            · subst hji
              rw [HI.out.1, HI.out.2]
              congr 1
              apply List.ext_getElem?
              intro k
              by_cases hk : k < es.length
              · exact HP2.out k hk
              · rw [List.getElem?_eq_none (by omega), List.getElem?_eq_none (by have := GE.out; omega)]
            · exact HP.out j (by omega))
          have HE8 := Lib.hid (HW.out.trans (HE6.out.1.trans HW2.out))
          go_wp2
          refine ⟨⟨i + 1, by go_num, hlt, HP4, HE8⟩, ?_⟩
          simp [intOf]; omega
    · have hie : i = r1.length := by omega
      subst hie
      have hlt2 : ¬ (r1.length : Int) < (r1.length : Int) := by omega
      have HR : Hid (rb = true) := Lib.hid (by rw [HRB.out]; exact decide_eq_true ⟨GI.out, GO.out, rows_eq_of GL.out HP.out⟩)
      go_wp2
      go_ret
      exact ⟨by rw [HR.out]; rfl, HE5.out⟩
end Go.Proofs.YtggffdkgfgdaoaaDoor
