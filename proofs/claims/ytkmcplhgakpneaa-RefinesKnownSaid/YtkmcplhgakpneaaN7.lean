/- gauntletref07.Marked. -/
import Derived.Test.YtkmcplhgakpneaaN6
namespace Go.Proofs.Ytkmcplhgakpneaa
open Go.RowKit Go.Maps
set_option linter.unusedVariables false
set_option linter.unusedSimpArgs false
attribute [local go_sem] Oper.quietV quietV Oper.gives givesV ext_refl_iff ext_alloc_iff ext_drew_iff ext_drewN_iff

theorem fill_set {α : Type} (d : α) {r : List α} {n k : Nat} (hr : r.length = n) (hk : k < n) : (r.take k ++ List.replicate (n - k) d).set k (r.getD k d) = r.take (k + 1) ++ List.replicate (n - (k + 1)) d := by
  have h1 : (r.take k).length = k := by rw [List.length_take]; omega
  rw [List.set_append_right _ _ (by omega), h1, Nat.sub_self]
  obtain ⟨j, hj⟩ : ∃ j, n - k = j + 1 := ⟨n - k - 1, by omega⟩
  rw [hj, List.replicate_succ, List.set_cons_zero, List.take_succ_eq_append_getElem (show k < r.length by omega), show n - (k + 1) = j by omega]
  simp only [List.getD, List.getElem?_eq_getElem (show k < r.length by omega), Option.getD_some, List.append_assoc, List.cons_append, List.nil_append]
theorem set_last {α : Type} (l : List α) (x y : α) {n : Nat} (hn : n = l.length) : (l ++ [x]).set n y = l ++ [y] := by
  subst hn; simp
theorem slice_one (x : Option Addr) (n c : Nat) : ∀ u ∈ [Value.slice x n c], u.oneCell' = true := by intro u hu; simp at hu; subst hu; rfl

set_option maxRecDepth 100000 in
set_option maxHeartbeats 2000000 in
theorem marked_any (w : World) (mv : Value) (m : Mach) (hm : MachV w mv m) (hV : Valid m) (k : Nat) (hk : k ≤ 100000) :
    Calls Try.prog 35 #[mv, .int .i64 k] w fun e w' => (∃ u, e = .returned u ∧ MatC w' u (markM m k)) ∧ Ext w w' := by
  obtain ⟨i4, hi4, hz4, hs4, hb4⟩ := info_parts bool_info
  obtain ⟨i87, hi87, hz87, hs87, hb87⟩ := info_parts brow_info
  have hm0 := hm
  obtain ⟨rv, c, rfl, hr⟩ := hm
  obtain ⟨A, vs0, rfl, _, _, _, _, _⟩ := id hr
  have hsz := hV.size
  have hV0 := hV
  generalize hnn : m.rows.length = n at *
  have HN := Lib.hid hnn
  clear hr hV
  go_enter Try.func35, Try.ntmps35
  go_upto_region 2 with fail
  refine wp_named ?_
  intro W1 hW1
  have hE1 : Ext w W1 := by rw [hW1]; exact (Ext.refl _).alloc _
  have k0 : ∀ w', Ext W1 w' → w'.cell? ⟨w.heap.size, 0, none⟩ = some (.int .i64 m.ins) := fun w' h => h.cell (by rw [hW1]; simp [go_sem])
  have k1 : ∀ w', Ext W1 w' → w'.cell? ⟨w.heap.size, 1, none⟩ = some (.int .i64 m.outs) := fun w' h => h.cell (by rw [hW1]; simp [go_sem])
  have k2 : ∀ w', Ext W1 w' → w'.cell? ⟨w.heap.size, 2, none⟩ = some (.slice A n c) := fun w' h => h.cell (by rw [hW1]; simp [go_sem])
  clear hW1
  have hmv : ∀ w', Ext W1 w' → MachV w' (.agg #[.int .i64 m.ins, .int .i64 m.outs, .slice A n c]) m := fun w' h => hm0.ext (hE1.trans h)
  clear hm0
  have HSZ := Lib.hid hV0
  clear hV0
  go_wp2
  go_loopw [7, 6] (fun i v wr => ∃ (s : Nat) (vs : List Value), s ≤ n ∧ i = .int .i64 s ∧ Ext W1 wr ∧ OwnRows wr W1.heap.size 87 4 1 v vs (List.replicate s (bRow (List.replicate n false)))) (fun i _ _ => n - (intOf i).toNat)
  case atStart => exact ⟨0, [], by omega, rfl, Ext.refl _, OwnRows.nil _ _ _ _ _⟩
  case round =>
    obtain ⟨s, vs, hs, rfl, hE, hO⟩ := hrel
    obtain ⟨W2, hW2⟩ : ∃ W, W = wr := ⟨_, rfl⟩
    subst hW2
    have hvl : vs.length = s := by rw [hO.len]; simp
    by_cases hlt : s < n
    · have HVL := Lib.hid hvl
      have hvs : vs.length ≤ 64 := by omega
      clear hvl
      go_wp2_with (first
        | (at_make; refine wpList_make_full _ rfl _ _ 87 rfl W2.heap.size 4 i4 (.bool false) 1 Try.underlying87 hi4 hz4 hs4 _ _ _ _ n rfl rfl rfl rfl (by rw [hb4]; omega) (by unfold maxLen; omega) (Nat.le_refl _) ?_; intro w3 hx3 hg3; have hE3 : Ext W2 w3 := Below.grown (Ext.refl _) hg3 (Nat.le_refl _) (by simp); have hO3 := ownsRow_ext hO.own hE3)
        | (at_builtin; refine wpList_append_own _ rfl _ _ 72 rfl W1.heap.size 87 i87 (.slice none 0 0) 1 24 Try.underlying72 hi87 hz87 hs87 hb87 rfl (by decide) _ _ _ rfl (hO3.alloc _) ⟨w3.heap.size, 0, none⟩ 1 1 [.slice (some ⟨W2.heap.size, 0, none⟩) n n] rfl rfl (cell_one_new _ _ _) (slice_one _ _ _) (by unfold maxLen; omega) (by omega) (by have := hE.size; have := hE3.size; simp; omega) ?_; intro v4 w4 hown4 hg4 _))
      rw [bools_one] at hx3
      have hO4 := hO.push (r := bRow (List.replicate n false)) (by decide) (hE3.alloc _) (by simpa [bRow] using own_base (hx3.alloc _) hE.size) (fun b hb => by cases hb; exact Nat.le_refl _) hg4 hown4
      have hE4 : Ext W1 w4 := ext_grown ((hE.trans hE3).alloc _) (hO3.alloc _) (Nat.le_refl _) hg4
      go_roundw
      case rel => exact ⟨s + 1, _, by omega, by go_num, hE4, by rw [List.replicate_succ']; exact hO4⟩
      case measure => simp [intOf]; omega
    · have hsn : n = s := by omega
      subst hsn
      have hM0 : MatC W2 u6 (markM m 0) := by
        refine mat_of_own (B := W1.heap.size) (e1 := 87) (e2 := 4) (vs := vs) ?_ ?_ ?_
        · rw [show (markM m 0).map bRow = List.replicate n (bRow (List.replicate n false)) by simp [markM, HN.out]]
          exact hO
        · simp [markM, HN.out, lenMax]; omega
        · intro r hr
          simp [markM, HN.out] at hr
          obtain ⟨_, rfl⟩ := hr
          simp [lenMax]; omega
      clear hO hvl hlt
      go_wp2
      go_loopw [8, 6] (fun i v wr => ∃ r : Nat, r ≤ k ∧ i = .int .i64 r ∧ Ext W1 wr ∧ MatC wr v (markM m r)) (fun i _ _ => k - (intOf i).toNat)
      case atStart => exact ⟨0, by omega, rfl, hE, hM0⟩
      case round =>
        clear hM0 hE
        obtain ⟨r, hr, rfl, hE, hM⟩ := hrel
        obtain ⟨W3, hW3⟩ : ∃ W, W = wr := ⟨_, rfl⟩
        subst hW3
        by_cases hrk : r < k
        · have hsq := markM_square m r
          have hsq1 := markM_square m (r + 1)
          rw [HN.out] at hsq hsq1
          have hst : ∀ (s t : Nat) (hs : s < m.rows.length) (ht : t < m.rows.length), matAt (markM m (r + 1)) s t = (matAt (markM m r) s t || apartB (markM m r) m.rows[s] m.rows[t]) := fun s t => matAt_succ m r s t
          generalize hXX : markM m (r + 1) = X at *
          generalize markM m r = M at *
          have HX := Lib.hid hXX
          have HSQ := Lib.hid (And.intro hsq (And.intro hsq1 hst))
          clear hXX hsq hsq1 hst
          have hXl : X.length = n := HSQ.out.2.1.1
          have HXL := Lib.hid hXl
          clear hXl
          go_wp2
          go_loopw [10, 9] (fun i v wr => ∃ (s : Nat) (vs : List Value), s ≤ n ∧ i = .int .i64 s ∧ Ext W3 wr ∧ OwnRows wr W3.heap.size 87 4 1 v vs ((X.take s).map bRow)) (fun i _ _ => n - (intOf i).toNat)
          case atStart => exact ⟨0, [], by omega, rfl, Ext.refl _, by simpa using OwnRows.nil _ _ _ _ _⟩
          case round =>
            obtain ⟨s, vs, hs, rfl, hE4, hO⟩ := hrel
            obtain ⟨W4, hW4⟩ : ∃ W, W = wr := ⟨_, rfl⟩
            subst hW4
            have hvl : vs.length = s := by rw [hO.len, List.length_map, List.length_take, HXL.out]; omega
            by_cases hsn : s < n
            · have hvs : vs.length ≤ 64 := by omega
              have HVL := Lib.hid hvl
              clear hvl
              go_upto_region 15 with (first
                | (at_make; refine wpList_make_full _ rfl _ _ 87 rfl W4.heap.size 4 i4 (.bool false) 1 Try.underlying87 hi4 hz4 hs4 _ _ _ _ n rfl rfl rfl rfl (by rw [hb4]; omega) (by unfold maxLen; omega) (Nat.le_refl _) ?_; intro w5 hx5 hg5; have hE5 : Ext W4 w5 := Below.grown (Ext.refl _) hg5 (Nat.le_refl _) (by simp); have hO5 := ownsRow_ext hO.own hE5)
                | (at_builtin; refine wpList_append_own _ rfl _ _ 72 rfl W3.heap.size 87 i87 (.slice none 0 0) 1 24 Try.underlying72 hi87 hz87 hs87 hb87 rfl (by decide) _ _ _ rfl (hO5.alloc _) ⟨w5.heap.size, 0, none⟩ 1 1 [.slice (some ⟨W4.heap.size, 0, none⟩) n n] rfl rfl (cell_one_new _ _ _) (slice_one _ _ _) (by unfold maxLen; omega) (by omega) (by have := hE4.size; have := hE5.size; simp; omega) ?_; intro v6 w6 hown6 hg6 _))
              rw [bools_one] at hx5
              have hO6 := hO.push (r := bRow (List.replicate n false)) (by decide) (hE5.alloc _) (by simpa [bRow] using own_base (hx5.alloc _) hE4.size) (fun b hb => by cases hb; exact Nat.le_refl _) hg6 hown6
              have hE6 : Ext W3 w6 := ext_grown ((hE4.trans hE5).alloc _) (hO5.alloc _) (Nat.le_refl _) hg6
              have hlast : (vs ++ [Value.slice (some ⟨W4.heap.size, 0, none⟩) n n])[s]? = some (.slice (some ⟨W4.heap.size, 0, none⟩) n n) := by
                rw [List.getElem?_append_right (by rw [HVL.out]; exact Nat.le_refl _), HVL.out, Nat.sub_self]; rfl
              have hvl2 : (vs ++ [Value.slice (some ⟨W4.heap.size, 0, none⟩) n n]).length = s + 1 := by rw [List.length_append, HVL.out]; rfl
              generalize vs ++ [Value.slice (some ⟨W4.heap.size, 0, none⟩) n n] = vs2 at *
              have hown7 := hO6.own
              rw [hvl2] at hown7
              obtain ⟨go, co, rfl⟩ := ownsRow_pos hown7 (by omega)
              have hrow : Hid (X.getD s [] = X[s]'(by rw [HXL.out]; exact hsn) ∧ (X.getD s []).length = n) := ⟨by simp [List.getD, show s < X.length by rw [HXL.out]; exact hsn], HSQ.out.2.1.2 s hsn⟩
              have hown6' : OwnRows w6 W3.heap.size 87 4 1 (.slice (some ⟨go, 0, none⟩) (s + 1) co) vs2 ((X.take s).map bRow ++ [bRow ((X.getD s []).take 0 ++ List.replicate (n - 0) false)]) := by
                simpa using hO6
              have HV2 := Lib.hid hvl2
              clear hO hO5 hO6 hown6 hown7 hg6 hx5 hg5 hvl2 HVL
              generalize W4.heap.size = g at *
              go_wp2
              go_loopw [11] (fun i wt => ∃ t : Nat, t ≤ n ∧ i = .int .i64 t ∧ Ext W3 wt ∧ OwnRows wt W3.heap.size 87 4 1 (.slice (some ⟨go, 0, none⟩) (s + 1) co) vs2 ((X.take s).map bRow ++ [bRow ((X.getD s []).take t ++ List.replicate (n - t) false)])) (fun i _ => n - (intOf i).toNat)
              case atStart => exact ⟨0, by omega, rfl, hE6, hown6'⟩
              case round =>
                clear hown6'
                obtain ⟨t, ht, rfl, hE7, hO7⟩ := hrel
                obtain ⟨W7, hW7⟩ : ∃ W, W = wr := ⟨_, rfl⟩
                subst hW7
                by_cases htn : t < n
                · have hcs := hO7.own
                  rw [HV2.out] at hcs
                  have hcell := hcs.cellAt s (by omega)
                  rw [hlast] at hcell
                  have hrl : ((X.take s).map bRow ++ [bRow ((X.getD s []).take t ++ List.replicate (n - t) false)])[s]? = some (bRow ((X.getD s []).take t ++ List.replicate (n - t) false)) := by
                    rw [List.getElem?_append_right (by simp; exact Nat.min_le_left _ _), List.length_map, List.length_take, HXL.out, show s - min s n = 0 by omega]; rfl
                  have hbl : (bRow ((X.getD s []).take t ++ List.replicate (n - t) false)) = (n, ((X.getD s []).take t ++ List.replicate (n - t) false).map Value.bool) := by
                    have : ((X.getD s []).take t ++ List.replicate (n - t) false).length = n := by
                      rw [List.length_append, List.length_take, hrow.out.2, List.length_replicate]; omega
                    unfold bRow; rw [this]
                  have hro := hO7.each s _ _ hlast hrl
                  rw [hbl] at hro
                  have hfull : ∀ w', OwnRows w' W3.heap.size 87 4 1 (.slice (some ⟨go, 0, none⟩) (s + 1) co) vs2 (((X.take s).map bRow ++ [bRow ((X.getD s []).take t ++ List.replicate (n - t) false)]).set s (n, (((X.getD s []).take t ++ List.replicate (n - t) false).map Value.bool).set t (.bool (matAt X s t)))) →
                      OwnRows w' W3.heap.size 87 4 1 (.slice (some ⟨go, 0, none⟩) (s + 1) co) vs2 ((X.take s).map bRow ++ [bRow ((X.getD s []).take (t + 1) ++ List.replicate (n - (t + 1)) false)]) := fun w' h => by
                    rw [set_last _ _ _ (by rw [List.length_map, List.length_take, HXL.out]; omega)] at h
                    have h1 : matAt X s t = (X.getD s []).getD t false := by unfold matAt; rw [Int.toNat_natCast, Int.toNat_natCast]
                    have h2 : (n, (((X.getD s []).take t ++ List.replicate (n - t) false).map Value.bool).set t (.bool (matAt X s t))) = bRow ((X.getD s []).take (t + 1) ++ List.replicate (n - (t + 1)) false) := by
                      rw [h1, ← List.map_set, fill_set false hrow.out.2 htn]
                      have : ((X.getD s []).take (t + 1) ++ List.replicate (n - (t + 1)) false).length = n := by
                        rw [List.length_append, List.length_take, hrow.out.2, List.length_replicate]; omega
                      unfold bRow; rw [this]
                    rw [h2] at h; exact h
                  have HFULL := Lib.hid hfull
                  have hE8 := hE7
                  have c1 : ∀ w', Ext W7 w' → w'.cell? ⟨go, s, none⟩ = some (.slice (some ⟨g, 0, none⟩) n n) := fun w' h => h.cell hcell
                  obtain ⟨mb, mo, mc, mb', mo', mc', hkv, hmb, m0, hmb', m1⟩ := (hM.ext hE7).at_int HSQ.out.1 (x := (s : Int)) (y := (t : Int)) ⟨by omega, by omega⟩ ⟨by omega, by omega⟩
                  subst hkv
                  rw [Int.toNat_natCast] at m0 m1
                  have hsn64 : (s : Int) < (n : Int) := by omega
                  have htn64 : (t : Int) < (n : Int) := by omega
                  have hss1 : (s : Int) < (s : Int) + 1 := by omega
                  have hss2 : ¬ (s : Int) + 1 ≤ (s : Int) := by omega
                  have m0 : ∀ w', Ext W7 w' → w'.cell? ⟨mb, mo + s, none⟩ = some (.slice (some ⟨mb', mo', none⟩) n mc') := fun w' h => h.cell m0
                  have hap := fun w' (h : Ext W7 w') => apart_any w' (.agg #[.int .i64 m.ins, .int .i64 m.outs, .slice A n c]) (.slice (some ⟨mb, mo, none⟩) n mc) m (hmv _ (hE.trans (hE7.trans h))) HSZ.out M (hM.ext (hE7.trans h)) (by rw [HN.out]; exact HSQ.out.1) s t (by rw [HN.out]; exact hsn) (by rw [HN.out]; exact htn)
                  have hval := HSQ.out.2.2 s t (by rw [HN.out]; exact hsn) (by rw [HN.out]; exact htn)
                  have q0 : ∀ w', Ext W7 w' → w'.cell? ⟨w.heap.size, 0, none⟩ = some (.int .i64 m.ins) := fun w' h => k0 w' (hE.trans (hE7.trans h))
                  have q1 : ∀ w', Ext W7 w' → w'.cell? ⟨w.heap.size, 1, none⟩ = some (.int .i64 m.outs) := fun w' h => k1 w' (hE.trans (hE7.trans h))
                  have q2 : ∀ w', Ext W7 w' → w'.cell? ⟨w.heap.size, 2, none⟩ = some (.slice A n c) := fun w' h => k2 w' (hE.trans (hE7.trans h))
                  have hcur : ∃ u, W7.cell? ⟨g, t, none⟩ = some u := by
                    rw [hro.cellAt t (by omega)]
                    exact ⟨_, List.getElem?_eq_getElem (by rw [hro.1]; omega)⟩
                  obtain ⟨u0, hcur⟩ := hcur
                  have hfz := hro.frozenAt t
                  have hcur : ∀ w', Ext W7 w' → w'.cell? ⟨g, t, none⟩ = some u0 := fun w' h => h.cell hcur
                  have hfz : ∀ w', Ext W7 w' → w'.frozen? ⟨g, t, none⟩ = false := fun w' h => by
                    rw [World.frozen?_of_block (h.block _ (hro.lt g rfl).2)]; exact hfz
                  have HSET : Hid (∀ w' b, Ext W7 w' → OwnRows (w'.setCell ⟨g, t, none⟩ b) W3.heap.size 87 4 1 (.slice (some ⟨go, 0, none⟩) (s + 1) co) vs2 (((X.take s).map bRow ++ [bRow ((X.getD s []).take t ++ List.replicate (n - t) false)]).set s (n, (((X.getD s []).take t ++ List.replicate (n - t) false).map Value.bool).set t b))) := fun w' b h =>
                    (hO7.ext h).set (by decide) hlast (hrl.trans (congrArg some hbl)) t b
                  have hg3 : W3.heap.size ≤ g := (hro.lt g rfl).1
                  have HG := Lib.hid hlast
                  clear hlast hro hrl hbl hcs hcell hfull hO7 hmb hmb'
                  cases hmt : matAt M s t with
                  | true =>
                    rw [hmt] at m1 hval
                    have m1 : ∀ w', Ext W7 w' → w'.cell? ⟨mb', mo' + t, none⟩ = some (.bool true) := fun w' h => h.cell m1
                    have HVAL := Lib.hid hval
                    clear hval hap hmt
                    go_upto_region 18 with fail
                    refine wp_region_ext 20 (factsOf [(17, fun v _ => v = .int .i64 (if apartB M m.rows[s] m.rows[t] then 1 else 0))]) (fun k => ([[], [], [0, 1], [0, 1, 2], [], [], [], [5, 6], [5, 6, 7], [], [5, 6, 7, 8, 9], [5, 6, 7, 8, 9, 10], [5, 6, 7, 8, 9, 10, 11], [5, 6, 7, 8, 9, 10, 11, 12], [5, 6, 7, 8, 9, 10, 11, 12], [5, 6, 7, 8, 9, 10, 11, 12], [5, 6, 7, 8, 9, 10, 11, 12], [5, 6, 7, 8, 9, 10, 11, 12, 13, 14, 15, 16], [5, 6, 7, 8, 9, 10, 11, 12, 13, 14, 15, 16, 17], [5, 6, 7, 8, 9, 10, 11, 12, 13, 14, 15, 16, 17, 18], [0, 1, 2, 3, 4, 5, 6, 7, 8, 9, 10, 11, 12, 13, 14, 15, 16, 17, 18, 19], [0, 1, 2, 3, 4, 5, 6, 7, 8, 9, 10, 11, 12, 13, 14, 15, 16, 17, 18, 19, 20]] : List (List Nat)).getD k []) (by kernel_rfl) (by kernel_rfl) Ext.pre (mono_cons (stays_eq _) (mono_nil)) ?_
                    simp only [List.take_succ_cons, List.take_zero]
                    repeat (first | (with_reducible refine lexL_quiet' (v := ?_) ?_ ?_ ?_ ?_; rotate_left; (· with_reducible rfl); (· simp [factsOf]); (· intro w1 hw1 _; go_simp; with_reducible rfl); (try simp only [Act.put, List.setIfInBounds_toArray, List.set_cons_zero, List.set_cons_succ])) | (with_reducible refine lexL_skip ?_ ?_; (· simp [Region.wanted, yielded, undef]); (try simp only [Act.put, List.setIfInBounds_toArray, List.set_cons_zero, List.set_cons_succ])) | (with_reducible refine lexL_quiet (v := ?_) ?_ ?_ ?_ ?_; rotate_left; (· simp [Region.wanted, yielded, undef]); (· simp [factsOf]); (· intro w1 hw1 _; go_simp; with_reducible rfl); (try simp only [Act.put, List.setIfInBounds_toArray, List.set_cons_zero, List.set_cons_succ])))
                    with_reducible refine lexL_nil ?_; intro w1 hw1 hk1; simp only [List.drop_succ_cons, List.drop_zero]
                    have hcur := hcur _ hw1
                    have hfz := hfz _ hw1
                    have hE9 := (hE7.trans hw1).setCell (p := ⟨g, t, none⟩) hg3 (.bool true)
                    have hfin := HSET.out _ (.bool true) hw1
                    have HFIN := Lib.hid hfin
                    clear hfin hk1
                    go_wp2
                    go_roundw
                    case rel => exact ⟨t + 1, by omega, by go_num, hE9, HFULL.out _ (by rw [HVAL.out]; exact HFIN.out)⟩
                    case measure => simp [intOf]; omega
                  | false =>
                    rw [hmt] at m1 hval
                    have m1 : ∀ w', Ext W7 w' → w'.cell? ⟨mb', mo' + t, none⟩ = some (.bool false) := fun w' h => h.cell m1
                    have HVAL := Lib.hid hval
                    rw [Bool.false_or] at hval
                    clear hmt
                    have hbb : ((if apartB M (m.rows[s]'(by rw [HN.out]; exact hsn)) (m.rows[t]'(by rw [HN.out]; exact htn)) then (1 : Int) else 0) == 1) = matAt X s t := by
                      rw [hval]; cases apartB M (m.rows[s]'(by rw [HN.out]; exact hsn)) (m.rows[t]'(by rw [HN.out]; exact htn)) <;> rfl
                    generalize (if apartB M (m.rows[s]'(by rw [HN.out]; exact hsn)) (m.rows[t]'(by rw [HN.out]; exact htn)) then (1 : Int) else 0) = z at *
                    generalize matAt X s t = bb at *
                    clear hval
                    go_upto_region 18 with fail
                    refine wp_region_ext 20 (factsOf [(17, fun v _ => v = .int .i64 z)]) (fun k => ([[], [], [0, 1], [0, 1, 2], [], [], [], [5, 6], [5, 6, 7], [], [5, 6, 7, 8, 9], [5, 6, 7, 8, 9, 10], [5, 6, 7, 8, 9, 10, 11], [5, 6, 7, 8, 9, 10, 11, 12], [5, 6, 7, 8, 9, 10, 11, 12], [5, 6, 7, 8, 9, 10, 11, 12], [5, 6, 7, 8, 9, 10, 11, 12], [5, 6, 7, 8, 9, 10, 11, 12, 13, 14, 15, 16], [5, 6, 7, 8, 9, 10, 11, 12, 13, 14, 15, 16, 17], [5, 6, 7, 8, 9, 10, 11, 12, 13, 14, 15, 16, 17, 18], [0, 1, 2, 3, 4, 5, 6, 7, 8, 9, 10, 11, 12, 13, 14, 15, 16, 17, 18, 19], [0, 1, 2, 3, 4, 5, 6, 7, 8, 9, 10, 11, 12, 13, 14, 15, 16, 17, 18, 19, 20]] : List (List Nat)).getD k []) (by kernel_rfl) (by kernel_rfl) Ext.pre (mono_cons (stays_eq _) (mono_nil)) ?_
                    simp only [List.take_succ_cons, List.take_zero]
                    repeat (first | (with_reducible refine lexL_quiet' (v := ?_) ?_ ?_ ?_ ?_; rotate_left; (· with_reducible rfl); (· simp [factsOf]); (· intro w1 hw1 _; go_simp; with_reducible rfl); (try simp only [Act.put, List.setIfInBounds_toArray, List.set_cons_zero, List.set_cons_succ])) | (with_reducible refine lexL_skip ?_ ?_; (· simp [Region.wanted, yielded, undef]); (try simp only [Act.put, List.setIfInBounds_toArray, List.set_cons_zero, List.set_cons_succ])) | (with_reducible refine lexL_quiet (v := ?_) ?_ ?_ ?_ ?_; rotate_left; (· simp [Region.wanted, yielded, undef]); (· simp [factsOf]); (· intro w1 hw1 _; go_simp; with_reducible rfl); (try simp only [Act.put, List.setIfInBounds_toArray, List.set_cons_zero, List.set_cons_succ])))
                    with_reducible refine lexL_give (φ := ?_) ?_ ?_ ?_ ?_; rotate_left; (· simp [Region.wanted, yielded, undef]); (· simp only [factsOf, Nat.reduceAdd, ↓reduceIte, Nat.reduceEqDiff]; rfl)
                    · intro w1 hw1 _
                      go_simp
                      refine (hap w1 hw1).mono ?_
                      rintro e w2 ⟨rfl, hb⟩
                      exact ⟨_, rfl, hb, rfl⟩
                    rintro v3 w1 hw1 rfl hk1
                    clear hk1 hw1 w1
                    (try simp only [Act.put, List.setIfInBounds_toArray, List.set_cons_zero, List.set_cons_succ])
                    repeat (first | (with_reducible refine lexL_quiet' (v := ?_) ?_ ?_ ?_ ?_; rotate_left; (· with_reducible rfl); (· simp [factsOf]); (· intro w1 hw1 _; go_simp; with_reducible rfl); (try simp only [Act.put, List.setIfInBounds_toArray, List.set_cons_zero, List.set_cons_succ])) | (with_reducible refine lexL_skip ?_ ?_; (· simp [Region.wanted, yielded, undef]); (try simp only [Act.put, List.setIfInBounds_toArray, List.set_cons_zero, List.set_cons_succ])) | (with_reducible refine lexL_quiet (v := ?_) ?_ ?_ ?_ ?_; rotate_left; (· simp [Region.wanted, yielded, undef]); (· simp [factsOf]); (· intro w1 hw1 _; go_simp; with_reducible rfl); (try simp only [Act.put, List.setIfInBounds_toArray, List.set_cons_zero, List.set_cons_succ])))
                    with_reducible refine lexL_nil ?_; intro w1 hw1 hk1; simp only [List.drop_succ_cons, List.drop_zero]
                    have hcur := hcur _ hw1
                    have hfz := hfz _ hw1
                    have hE9 := (hE7.trans hw1).setCell (p := ⟨g, t, none⟩) hg3 (.bool bb)
                    have hfin := HSET.out _ (.bool bb) hw1
                    have HFIN := Lib.hid hfin
                    clear hfin hk1 hap
                    go_wp2
                    go_roundw
                    case rel => exact ⟨t + 1, by omega, by go_num, hE9, HFULL.out _ HFIN.out⟩
                    case measure => simp [intOf]; omega
                · have htn2 : n = t := by omega
                  subst htn2
                  have hO8 : OwnRows W7 W3.heap.size 87 4 1 (.slice (some ⟨go, 0, none⟩) (s + 1) co) vs2 ((X.take (s + 1)).map bRow) := by
                    rw [List.take_succ_eq_append_getElem (show s < X.length by rw [HXL.out]; exact hsn), List.map_append, ← hrow.out.1]
                    have h9 : (X.getD s []).take n = X.getD s [] := List.take_of_length_le (by rw [hrow.out.2]; exact Nat.le_refl _)
                    rw [Nat.sub_self, h9, List.replicate_zero, List.append_nil] at hO7
                    exact hO7
                  clear hO7
                  go_wp2
                  go_roundw
                  case rel => exact ⟨s + 1, _, by omega, by go_num, hE7, hO8⟩
                  case measure => simp [intOf]; omega
            · have hsn2 : n = s := by omega
              subst hsn2
              have hM1 : MatC W4 u9 X := by
                refine mat_of_own (B := W3.heap.size) (e1 := 87) (e2 := 4) (vs := vs) ?_ ?_ ?_
                · rw [List.take_of_length_le (by rw [HXL.out]; exact Nat.le_refl _)] at hO
                  exact hO
                · rw [HXL.out]; unfold lenMax; omega
                · intro r hr
                  obtain ⟨j, hj, rfl⟩ := List.mem_iff_getElem.1 hr
                  have := HSQ.out.2.1.2 j (by rw [← HXL.out]; exact hj)
                  rw [show X.getD j [] = X[j] by simp [List.getD, hj]] at this
                  rw [this]; unfold lenMax; omega
              clear hO hvl
              go_wp2
              go_roundw
              case rel => exact ⟨r + 1, by omega, by go_num, hE.trans hE4, by rw [HX.out]; exact hM1⟩
              case measure => simp [intOf]; omega
        · have hrk2 : r = k := by omega
          subst hrk2
          go_wp2
          go_ret
          exact ⟨⟨_, rfl, hM⟩, hE1.trans hE⟩
end Go.Proofs.Ytkmcplhgakpneaa
