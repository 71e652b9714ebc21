/- gauntletref04.Same 26: two machines have equal numbers and equal edges. -/
import Derived.Test.YteadkafeabhhhaaA2
namespace Go.Proofs.Yteadkafeabhhhaa
open Go.RowKit
set_option linter.unusedVariables false
set_option linter.unusedSimpArgs false
attribute [local go_sem] Oper.quietV quietV Oper.gives givesV ext_refl_iff ext_alloc_iff ext_drew_iff ext_drewN_iff

def sameM (a b : Mach) : Bool := decide (a.ins = b.ins ∧ a.outs = b.outs ∧ a.rows = b.rows)
theorem neq_edge (w : World) (x y x' y' : Int) : (binOp .neq 52 (.agg #[.int .i64 x, .int .i64 y]) (.agg #[.int .i64 x', .int .i64 y'])).run Try.prog w = .ok (.bool !(x == x' && y == y')) w := by
  rw [run_neq_struct, run_equalIn_struct w 9999 52 _ _ (by simp [Program.fieldsOf, Try.underlying52]) stood52]
  simp [Program.fieldsOf, Try.underlying52, Op.eqFields, go_sem]
  by_cases hx : x = x' <;> by_cases hy : y = y' <;> simp [hx, hy]
theorem rows_all {a b : List (List (Int × Int))} {s : Nat} (h0 : a.length = b.length) (hs : a.length ≤ s) (h : ∀ j, j < s → a[j]? = b[j]?) : a = b := by
  apply List.ext_getElem?
  intro j
  by_cases hj : j < s
  · exact h j hj
  · rw [List.getElem?_eq_none (by omega), List.getElem?_eq_none (by omega)]
theorem edges_all {a b : List (Int × Int)} {s : Nat} (h0 : a.length = b.length) (hs : a.length ≤ s) (h : ∀ j, j < s → a[j]? = b[j]?) : a = b := by
  apply List.ext_getElem?
  intro j
  by_cases hj : j < s
  · exact h j hj
  · rw [List.getElem?_eq_none (by omega), List.getElem?_eq_none (by omega)]

set_option maxRecDepth 100000 in
set_option maxHeartbeats 4000000 in
theorem msame_any (w : World) (av bv : Value) (a b : Mach) (ha : MachV w av a) (hb : MachV w bv b) : Calls Try.prog 26 #[av, bv] w fun e w' => e = .returned (.bool (sameM a b)) ∧ Ext w w' := by
  obtain ⟨rv, c, rfl, hr⟩ := ha
  obtain ⟨rv', c', rfl, hr'⟩ := hb
  obtain ⟨A, vs, rfl, _, _, _, _, hx⟩ := id hr
  obtain ⟨B, us, rfl, _, _, _, _, hy⟩ := id hr'
  unfold lenMax at hx hy
  by_cases hi : a.ins = b.ins
  · by_cases ho : a.outs = b.outs
    · by_cases hl : a.rows.length = b.rows.length
      · have HT : Hid (a.rows = b.rows → sameM a b = true) := by show _ → _; intro h; exact decide_eq_true ⟨hi, ho, h⟩
        have HF : Hid (a.rows ≠ b.rows → sameM a b = false) := by show _ → _; intro h; exact decide_eq_false (fun h2 => h h2.2.2)
        generalize sameM a b = tv at *
        rw [← hi, ← ho]
        obtain ⟨n, hn⟩ : ∃ n, n = a.rows.length := ⟨_, rfl⟩
        have HN := Lib.hid (And.intro hn hl)
        rw [← hl, ← hn]
        rw [← hl, ← hn] at hr'
        rw [← hn] at hx hr
        clear hi ho hl hn hy
        go_enter Try.func26, Try.ntmps26
        go_upto_region 1 with fail
        refine wp_named ?_
        intro W1 hW1
        have hE1 : Ext w W1 := by rw [hW1]; exact ((Ext.refl _).alloc _).alloc _
        have k0 : ∀ w', Ext W1 w' → w'.cell? ⟨w.heap.size, 0, none⟩ = some (.int .i64 a.ins) := fun w' h => h.cell (by rw [hW1]; simp [go_sem])
        have k1 : ∀ w', Ext W1 w' → w'.cell? ⟨w.heap.size, 1, none⟩ = some (.int .i64 a.outs) := fun w' h => h.cell (by rw [hW1]; simp [go_sem])
        have k2 : ∀ w', Ext W1 w' → w'.cell? ⟨w.heap.size, 2, none⟩ = some (.slice A n c) := fun w' h => h.cell (by rw [hW1]; simp [go_sem])
        have q0 : ∀ w', Ext W1 w' → w'.cell? ⟨w.heap.size + 1, 0, none⟩ = some (.int .i64 a.ins) := fun w' h => h.cell (by rw [hW1]; simp [go_sem])
        have q1 : ∀ w', Ext W1 w' → w'.cell? ⟨w.heap.size + 1, 1, none⟩ = some (.int .i64 a.outs) := fun w' h => h.cell (by rw [hW1]; simp [go_sem])
        have q2 : ∀ w', Ext W1 w' → w'.cell? ⟨w.heap.size + 1, 2, none⟩ = some (.slice B n c') := fun w' h => h.cell (by rw [hW1]; simp [go_sem])
        clear hW1
        have HR := Lib.hid (hr.ext hE1)
        have HR' := Lib.hid (hr'.ext hE1)
        clear hr hr'
        have hE0 := Ext.refl W1
        have hn1 : ((n : Int) != (n : Int)) = false := by simp
        have hi1 : (a.ins != a.ins) = false := by simp
        have ho1 : (a.outs != a.outs) = false := by simp
        go_wp2
        go_loopw [5] (fun i wr => ∃ s : Nat, s ≤ n ∧ i = .int .i64 s ∧ Ext W1 wr ∧ Hid (∀ j, j < s → a.rows[j]? = b.rows[j]?)) (fun i _ => n - (intOf i).toNat)
        case atStart => exact ⟨0, by omega, rfl, Ext.refl _, fun j hj => by omega⟩
        case round =>
          clear hE0
          obtain ⟨s, hs, rfl, hE, hI⟩ := hrel
          obtain ⟨W3, hW3⟩ : ∃ W, W = wr := ⟨_, rfl⟩; subst hW3
          by_cases hlt : s < n
          · have hsa : s < a.rows.length := by rw [← HN.out.1]; exact hlt
            have hsb : s < b.rows.length := by rw [← HN.out.2]; exact hsa
            have h1 := HR.out.at_ (k := s) hsa
            obtain ⟨b1, o1, u1, c1, hA, _, cu1, he1⟩ := h1
            obtain rfl : A = some ⟨b1, o1, none⟩ := by injection hA
            have h2 := HR'.out.at_ (k := s) hsb
            obtain ⟨b2, o2, u2, c2, hB, _, cu2, he2⟩ := h2
            obtain rfl : B = some ⟨b2, o2, none⟩ := by injection hB
            have hg1 : Hid (a.rows[s]? = some a.rows[s]) := List.getElem?_eq_getElem hsa
            have hg2 : Hid (b.rows[s]? = some b.rows[s]) := List.getElem?_eq_getElem hsb
            generalize a.rows[s] = xs at *
            generalize b.rows[s] = ys at *
            obtain ⟨A1, rfl, hc1, _, hm1⟩ := he1
            obtain ⟨B1, rfl, hc2, _, hm2⟩ := he2
            unfold lenMax at hm1 hm2
            have g1 : ∀ w', Ext W1 w' → w'.cell? ⟨b1, o1 + s, none⟩ = some (.slice A1 xs.length c1) := fun w' h => h.cell cu1
            have g2 : ∀ w', Ext W1 w' → w'.cell? ⟨b2, o2 + s, none⟩ = some (.slice B1 ys.length c2) := fun w' h => h.cell cu2
            have hsI : (s : Int) < (n : Int) := by omega
            clear cu1 cu2 hA hB hsa hsb
            by_cases hl2 : xs.length = ys.length
            · obtain ⟨k, hk⟩ : ∃ k, k = xs.length := ⟨_, rfl⟩
              have HK := Lib.hid (And.intro hk hl2)
              rw [← hl2, ← hk] at g2
              rw [← hk] at g1 hm1
              have hk1 : ((k : Int) != (k : Int)) = false := by simp
              clear hk hl2 hm2
              go_upto_region 6 with fail
              go_quiet (fail)
              go_upto_region 8 with fail
              go_wp2
              go_loopw [6] (fun i wr => ∃ t : Nat, t ≤ k ∧ i = .int .i64 t ∧ Ext W1 wr ∧ Hid (∀ j, j < t → xs[j]? = ys[j]?)) (fun i _ => k - (intOf i).toNat)
              case atStart => exact ⟨0, by omega, rfl, by simp only [ext_drewN_iff hE], fun j hj => by omega⟩
              case round =>
                clear hE
                obtain ⟨t, ht, rfl, hE, hJ⟩ := hrel
                obtain ⟨W4, hW4⟩ : ∃ W, W = wr := ⟨_, rfl⟩; subst hW4
                by_cases hlt2 : t < k
                · have hta : t < xs.length := by rw [← HK.out.1]; exact hlt2
                  have htb : t < ys.length := by rw [← HK.out.2]; exact hta
                  obtain ⟨b3, o3, rfl, _, d0, d1⟩ := hc1.at_edge hta
                  obtain ⟨b4, o4, rfl, _, d2, d3⟩ := hc2.at_edge htb
                  have d0 := hE.cell d0
                  have d1 := hE.cell d1
                  have d2 := hE.cell d2
                  have d3 := hE.cell d3
                  have e1 : Hid (xs[t]? = some xs[t]) := List.getElem?_eq_getElem hta
                  have e2 : Hid (ys[t]? = some ys[t]) := List.getElem?_eq_getElem htb
                  generalize xs[t] = x at *
                  generalize ys[t] = y at *
                  clear hta htb
                  obtain ⟨x0, x1⟩ := x
                  obtain ⟨y0, y1⟩ := y
                  have htI : (t : Int) < (k : Int) := by omega
                  have heq := fun w => neq_edge w x0 x1 y0 y1
                  by_cases hee : (x0 == y0 && x1 == y1) = true
                  · simp only [hee, Bool.not_true] at heq
                    have H : Hid (xs[t]? = ys[t]?) := by
                      show _ = _; rw [e1.out, e2.out]
                      simp only [Bool.and_eq_true, beq_iff_eq] at hee
                      rw [hee.1, hee.2]
                    clear hee
                    go_upto_region 11 with fail
                    go_quiet (fail)
                    go_wp2
                    go_roundw
                    case rel => exact ⟨t + 1, by omega, by go_num, hE.drewN _, fun j hj => by
                      by_cases hjs : j = t
                      · subst hjs; exact H.out
                      · exact hJ.out j (by omega)⟩
                    case measure => simp [intOf]; omega
                  · have hee : (x0 == y0 && x1 == y1) = false := by simpa using hee
                    simp only [hee, Bool.not_false] at heq
                    have H : Hid (a.rows ≠ b.rows) := by
                      show _ ≠ _; intro h
                      have h3 := hg1.out
                      rw [h, hg2.out] at h3
                      have h4 := e1.out
                      rw [← Option.some.inj h3, e2.out] at h4
                      cases h4
                      simp at hee
                    clear hee
                    go_upto_region 11 with fail
                    go_quiet (fail)
                    go_wp2
                    go_ret
                    exact ⟨by rw [HF.out H.out]; rfl, hE1.trans (hE.drewN _)⟩
                · have htk : t = k := by omega
                  have htI : ¬ (t : Int) < (k : Int) := by omega
                  have H : Hid (a.rows[s]? = b.rows[s]?) := by
                    show _ = _; rw [hg1.out, hg2.out, edges_all HK.out.2 (by rw [← HK.out.1]; omega) hJ.out]
                  go_wp2
                  go_roundw
                  case rel => exact ⟨s + 1, by omega, by go_num, hE, fun j hj => by
                    by_cases hjs : j = s
                    · subst hjs; exact H.out
                    · exact hI.out j (by omega)⟩
                  case measure => simp [intOf]; omega
            · have hk1 : ((xs.length : Int) != (ys.length : Int)) = true := by simp; omega
              have H : Hid (a.rows ≠ b.rows) := by
                show _ ≠ _; intro h
                have h3 := hg1.out
                rw [h, hg2.out] at h3
                exact hl2 (by rw [Option.some.inj h3])
              clear hl2
              go_upto_region 6 with fail
              go_quiet (fail)
              go_wp2
              go_ret
              exact ⟨by rw [HF.out H.out]; rfl, hE1.trans (hE.drewN _)⟩
          · have hnI : ¬ (s : Int) < (n : Int) := by omega
            have hT := HT.out (rows_all HN.out.2 (by rw [← HN.out.1]; omega) hI.out)
            have HT2 := Lib.hid hT
            clear hT
            go_wp2
            go_ret
            exact ⟨by rw [HT2.out]; rfl, hE1.trans hE⟩
      · have hl1 : ((a.rows.length : Int) != (b.rows.length : Int)) = true := by simp; omega
        have hi1 : (b.ins != b.ins) = false := by simp
        have ho1 : (b.outs != b.outs) = false := by simp
        rw [show sameM a b = false from decide_eq_false (fun h => hl (by rw [h.2.2]))]
        rw [hi, ho]
        clear hr hr'
        go_enter Try.func26, Try.ntmps26
        go_wp2
        go_ret
        exact ⟨rfl, ((Ext.refl _).alloc _).alloc _⟩
    · have hi1 : (b.ins != b.ins) = false := by simp
      have ho1 : (a.outs != b.outs) = true := by simpa using ho
      rw [show sameM a b = false from decide_eq_false (fun h => ho h.2.1)]
      rw [hi]
      clear hr hr'
      go_enter Try.func26, Try.ntmps26
      go_wp2
      go_ret
      exact ⟨rfl, ((Ext.refl _).alloc _).alloc _⟩
  · have hi1 : (a.ins != b.ins) = true := by simpa using hi
    rw [show sameM a b = false from decide_eq_false (fun h => hi h.1)]
    clear hr hr'
    go_enter Try.func26, Try.ntmps26
    go_wp2
    go_ret
    exact ⟨rfl, ((Ext.refl _).alloc _).alloc _⟩
#print axioms msame_any
end Go.Proofs.Yteadkafeabhhhaa
