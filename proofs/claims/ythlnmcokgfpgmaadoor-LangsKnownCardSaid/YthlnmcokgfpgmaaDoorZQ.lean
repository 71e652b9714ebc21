/- ref25.Finite 17. -/
import Derived.Test.YthlnmcokgfpgmaaDoorZP
import Derived.Test.YthlnmcokgfpgmaaDoorZJ
namespace Go.Proofs.YthlnmcokgfpgmaaDoor
open Go.RowKit Go.Maps
set_option linter.unusedVariables false
set_option linter.unusedSimpArgs false
attribute [local go_sem] Oper.quietV quietV Oper.gives givesV ext_refl_iff ext_alloc_iff ext_drew_iff ext_drewN_iff
def RFinP (d : Dfa) (w : World) (e : Ending) (w' : World) : Prop := ∃ b : Bool, e = .returned (.int .i64 (b01 b)) ∧ (b = true ↔ FinD d) ∧ Ext w w'
theorem col_at {l : List Int} {n s : Nat} (hl : l.length = n) (hs : s < n) : (l.map (Value.int .i64))[s]? = some (.int .i64 (l.getD s 0)) := map_int_at (by omega)
set_option maxRecDepth 100000 in
set_option maxHeartbeats 16000000 in
theorem refFin_any (w : World) (dv : Value) (d : Dfa) (hd : DfaV w dv d) (hg : Good d) : Calls Tryd.prog 17 #[dv] w (RFinP d w) := by
  obtain ⟨rv, cr, av, ca, rfl, hr, ha⟩ := id hd
  obtain ⟨Ar, vr, rfl, _, _, _, _, hrm⟩ := id hr
  obtain ⟨Aa, rfl, hac, _, ham⟩ := id ha
  unfold lenMax at hrm ham
  obtain ⟨n, hn⟩ : ∃ n, d.n = n := ⟨_, rfl⟩
  obtain ⟨k, hk⟩ : ∃ k, d.k = k := ⟨_, rfl⟩
  have hn2 : d.rows.length = n := hn
  have hsz := hg.size
  have hn3 : 1 ≤ n ∧ n ≤ 256 := by omega
  have hsy : d.sy = (k : Int) := by rw [← hk]; exact hg.kk.1.symm
  have hac2 : d.acc.length = n := by rw [hg.acc, hn2]
  have hk16 := hg.kk.2
  rw [hk] at hk16
  have HG := Lib.hid (And.intro hg (And.intro hn (And.intro hk (And.intro hn2 hac2))))
  rw [hsy, hn2, hac2]
  rw [hn2] at hr
  obtain ⟨br, or, hAr, hcl⟩ := dfa_at hr hg
  rw [hAr]
  have HCL := Lib.hid hcl
  clear hg hn hk hn2 hsz hsy hac2 hd ha hcl hAr hr
  go_enter Tryd.func17, Tryd.ntmps17
  go_upto_region 1 with fail
  refine wp_named ?_
  intro W1 hW1
  have hE1 : Ext w W1 := by rw [hW1]; exact (Ext.refl _).alloc _
  have k0 : ∀ w', Ext W1 w' → w'.cell? ⟨w.heap.size, 0, none⟩ = some (.int .i64 k) := fun w' h => h.cell (by rw [hW1]; simp [go_sem])
  have k1 : ∀ w', Ext W1 w' → w'.cell? ⟨w.heap.size, 1, none⟩ = some (.slice (some ⟨br, or, none⟩) n cr) := fun w' h => h.cell (by rw [hW1]; simp [go_sem])
  have kA : ∀ w', Ext W1 w' → w'.cell? ⟨w.heap.size, 2, none⟩ = some (.slice Aa n ca) := fun w' h => h.cell (by rw [hW1]; simp [go_sem])
  clear hW1
  generalize w.heap.size = b1 at *
  have hE0 := Ext.refl W1
  have hmk := mk_ints n (by omega)
  have hO0 : OwnL W1 (W1.alloc (.cells (Array.replicate n (.int .i64 0)) 3)) [.row 3 1 (.slice (some ⟨W1.heap.size, 0, none⟩) n n) n ((List.replicate n (0 : Int)).map (.int .i64))] := by
    have h := (OwnL.nil (Ext.refl W1)).add (alloc_ext _ _) (A := .row 3 1 (.slice (some ⟨W1.heap.size, 0, none⟩) n n) n (List.replicate n (.int .i64 0))) (own_new W1 (.int .i64 0) 3 n (by omega))
    rw [List.map_replicate]; exact h
  go_upto_region 3 with fail
  refine wp_named ?_
  intro W2 hW2
  rw [← hW2] at hO0
  clear hW2
  generalize W1.heap.size = g0 at *
  have f0 := free_own (e := 3) hO0 0 rfl 0
  have c0 := cell_own hO0 0 rfl (col_at (s := 0) (l := List.replicate n (0 : Int)) (n := n) (by simp) (by omega))
  have kk1 := k1 W2 hO0.ext
  have hE2 := hO0.ext
  go_upto_region 4 with fail
  have hO1 := hO0.store 0 rfl 0 (.int .i64 1)
  have hat := atK_zero HG.out.1
  rw [HG.out.2.1] at hat
  simp only [List.set_cons_zero] at hO1
  rw [← List.map_set] at hO1
  refine wp_named ?_
  intro W3 hW3
  rw [← hW3] at hO1
  have HAT := Lib.hid hat
  clear hW3 hat f0 c0 kk1 hE2 hO0
  generalize (List.replicate n (0 : Int)).set 0 1 = now0 at *
  have hz0 := noneK_zero HG.out.1
  have HZ0 := Lib.hid hz0
  clear hz0
  go_wp2
  go_loopw [4, 5] (fun nv kv wr => ∃ (k2 : Nat) (now : List Int) (g : Nat), kv = .int .i64 k2 ∧ k2 ≤ 2 * n ∧ nv = .slice (some ⟨g, 0, none⟩) n n ∧ Hid (AtK d k2 now) ∧ Hid (NoneK d k2 0) ∧ OwnL W1 wr [.row 3 1 nv n (now.map (.int .i64))]) (fun _ kv _ => 2 * n - (intOf kv).toNat)
  case atStart => exact ⟨0, now0, g0, rfl, by omega, rfl, HAT, HZ0, hO1⟩
  case round =>
    clear hO1
    obtain ⟨k2, now, g, rfl, hk2, rfl, HA, HN, hO⟩ := hrel
    obtain ⟨W4, hW4⟩ : ∃ W, W = wr := ⟨_, rfl⟩; subst hW4
    have hnl : now.length = n := by rw [← HG.out.2.1]; exact HA.out.len
    by_cases hkn : k2 < 2 * n
    · have hknI : (k2 : Int) < 2 * (n : Int) := by omega
      have hO5 : OwnL W1 (W4.alloc (.cells (Array.replicate n (.int .i64 0)) 3)) [.row 3 1 (.slice (some ⟨W4.heap.size, 0, none⟩) n n) n ((List.replicate n (0 : Int)).map (.int .i64)), .row 3 1 (.slice (some ⟨g, 0, none⟩) n n) n (now.map (.int .i64))] := by
        have h := hO.add (alloc_ext _ _) (A := .row 3 1 (.slice (some ⟨W4.heap.size, 0, none⟩) n n) n (List.replicate n (.int .i64 0))) (own_new W4 (.int .i64 0) 3 n (by omega))
        rw [List.map_replicate]; exact h
      have hnx0 := nextK_zero d now
      rw [HG.out.2.1] at hnx0
      have HNX0 := Lib.hid hnx0
      clear hnx0 hO
      go_upto_region 8 with fail
      refine wp_named ?_
      intro W5 hW5
      rw [← hW5] at hO5
      clear hW5
      generalize W4.heap.size = gn at *
      generalize List.replicate n (0 : Int) = nx0 at *
      go_wp2
      go_loopw [7] (fun sv wr => ∃ (s : Nat) (nx : List Int), sv = .int .i64 s ∧ s ≤ n ∧ Hid (NextK d now nx s 0) ∧ Hid (NoneK d k2 s) ∧ OwnL W1 wr [.row 3 1 (.slice (some ⟨gn, 0, none⟩) n n) n (nx.map (.int .i64)), .row 3 1 (.slice (some ⟨g, 0, none⟩) n n) n (now.map (.int .i64))]) (fun sv _ => n - (intOf sv).toNat)
      case atStart => exact ⟨0, nx0, rfl, by omega, HNX0, HN, hO5⟩
      case round =>
        clear hO5
        obtain ⟨s, nx, rfl, hs, HNX, HNO, hO⟩ := hrel
        obtain ⟨W6, hW6⟩ : ∃ W, W = wr := ⟨_, rfl⟩; subst hW6
        by_cases hsn : s < n
        · have hsI : (s : Int) < (n : Int) := by omega
          have hsd : s < d.n := by rw [HG.out.2.1]; exact hsn
          have cn := cell_own hO 1 rfl (col_at hnl hsn)
          have hv := HA.out.val s hsd
          have kk2 := kA W6 hO.ext
          have kk0 := k0 W6 hO.ext
          obtain ⟨bA, oA, hAA, ca0⟩ := HG.out.1.acc_at (hac.ext (hE1.trans hO.ext)) hsd
          subst hAA
          by_cases hb : now.getD s 0 = 1 ∧ d.ac s = true ∧ n ≤ k2
          · obtain ⟨hb1, hb2, hb3⟩ := hb
            have hnf : ¬ FinD d := fun h => not_noneK HA.out hsd (by rw [HG.out.2.1]; exact hkn) hb1 hb2 (by rw [HG.out.2.1]; exact hb3) ((finW_iff HG.out.1).2 h)
            rw [hb1] at cn
            rw [hb2] at ca0
            have hge : (n : Int) ≤ (k2 : Int) := by omega
            have HF := Lib.hid (And.intro hnf (hE1.trans hO.ext))
            clear hnf hb1 hb2 hb3 hv
            go_wp2
            go_ret
            unfold RFinP
            exact ⟨false, rfl, ⟨(fun h => by cases h), fun h => absurd h HF.out.1⟩, HF.out.2⟩
          have hns := HNO.out.step HA.out hsd (by rw [HG.out.2.1]; exact hb)
          have HNS := Lib.hid hns
          clear hns
          generalize hz : now.getD s 0 = z at *
          generalize hy : d.ac s = y at *
          have h3 : z = 0 ∨ (z = 1 ∧ y = false) ∨ (z = 1 ∧ y = true ∧ k2 < n) := by
            rcases hv with h | h
            · exact .inl h
            · cases y with
              | false => exact .inr (.inl ⟨h, rfl⟩)
              | true => exact .inr (.inr ⟨h, rfl, Nat.lt_of_not_le (fun h2 => hb ⟨h, rfl, h2⟩)⟩)
          have HZ := Lib.hid hz
          clear hb hv hz hy
          rcases h3 with rfl | ⟨rfl, rfl⟩ | ⟨rfl, rfl, hlt⟩
          · skip
            go_wp2
            go_loopw [8] (fun xv wr => ∃ (x : Nat) (nx : List Int), xv = .int .i64 x ∧ x ≤ k ∧ Hid (NextK d now nx s x) ∧ OwnL W1 wr [.row 3 1 (.slice (some ⟨gn, 0, none⟩) n n) n (nx.map (.int .i64)), .row 3 1 (.slice (some ⟨g, 0, none⟩) n n) n (now.map (.int .i64))]) (fun xv _ => k - (intOf xv).toNat)
            case atStart => exact ⟨0, nx, rfl, by omega, HNX, hO⟩
            case round =>
              clear hO
              obtain ⟨x, nx2, rfl, hx, HX, hO⟩ := hrel
              obtain ⟨W8, hW8⟩ : ∃ W, W = wr := ⟨_, rfl⟩; subst hW8
              have kk0 := k0 W8 hO.ext
              by_cases hxk : x < k
              · have hxI : (x : Int) < (k : Int) := by omega
                have hxd : x < d.k := by rw [HG.out.2.2.1]; exact hxk
                obtain ⟨bx, ox, cx, c1, c2⟩ := HCL.out s x hsd hxd
                have htn := HG.out.1.to_lt hsd hxd
                have hvx := HX.out.val _ htn
                have hst := HX.out.step HA.out HG.out.1 hsd hxd
                have hxl : nx2.length = n := by rw [← HG.out.2.1]; exact HX.out.len
                rw [HG.out.2.1] at htn
                rw [HG.out.2.2.1] at c1
                rw [HZ.out] at hst
                have HST := Lib.hid hst
                have e8 := hE1.trans hO.ext
                have c1 := e8.cell c1
                have c2 := e8.cell c2
                generalize d.to s x = t at *
                have htI : (t : Int) < (n : Int) := by omega
                have c3 := cell_own hO 0 rfl (col_at hxl htn)
                have c4 := cell_own hO 1 rfl (col_at hnl hsn)
                rw [HZ.out] at c4
                have c1 := fun w' (h : Ext W8 w') => h.cell c1
                have c2 := fun w' (h : Ext W8 w') => h.cell c2
                have c3 := fun w' (h : Ext W8 w') => h.cell c3
                have c4 := fun w' (h : Ext W8 w') => h.cell c4
                have k1' := fun w' (h : Ext W8 w') => k1 w' (hO.ext.trans h)
                have hE8 := Ext.refl W8
                generalize hq : nx2.getD t 0 = q at *
                have HQ := Lib.hid hq
                have hset : ∀ v : Int, (nx2.map (Value.int .i64)).set t (.int .i64 v) = (nx2.set t v).map (.int .i64) := fun v => by rw [List.map_set]
                clear hst hq e8 cn ca0
                rcases hvx with rfl | rfl
                · go_upto_region 16 with fail
                  refine wp_region_ext 25 (factsOf []) (fun k => ([[], [], [1], [], [1, 2, 3], [1, 2, 3, 4], [], [1, 2, 3, 4, 5, 6], [1, 2, 3, 4, 5, 6, 7], [], [], [10], [], [10, 11, 12], [10, 11, 12, 13], [], [10, 11, 12, 13, 14, 15], [10, 11, 12, 13, 14, 15, 16], [9, 10, 11, 12, 13, 14, 15, 16, 17], [9, 10, 11, 12, 13, 14, 15, 16, 17, 18], [], [], [20, 21], [20, 21, 22], [9, 10, 11, 12, 13, 14, 15, 16, 17, 18, 19, 20, 21, 22, 23], [0, 1, 2, 3, 4, 5, 6, 7, 8, 9, 10, 11, 12, 13, 14, 15, 16, 17, 18, 19, 20, 21, 22, 23, 24], [0, 1, 2, 3, 4, 5, 6, 7, 8, 9, 10, 11, 12, 13, 14, 15, 16, 17, 18, 19, 20, 21, 22, 23, 24, 25]] : List (List Nat)).getD k []) (by kernel_rfl) (by kernel_rfl) Ext.pre (mono_nil) ?_
                  simp only [List.take_succ_cons, List.take_zero]
                  repeat (first | (with_reducible refine lexL_quiet' (v := ?_) ?_ ?_ ?_ ?_; rotate_left; (· with_reducible rfl); (· simp [factsOf]); (· intro w1 hw1 _; go_simp; with_reducible rfl); (try simp only [Act.put, List.setIfInBounds_toArray, List.set_cons_zero, List.set_cons_succ])) | (with_reducible refine lexL_skip ?_ ?_; (· simp [Region.wanted, yielded, undef]); (try simp only [Act.put, List.setIfInBounds_toArray, List.set_cons_zero, List.set_cons_succ])) | (with_reducible refine lexL_quiet (v := ?_) ?_ ?_ ?_ ?_; rotate_left; (· simp [Region.wanted, yielded, undef]); (· simp [factsOf]); (· intro w1 hw1 _; go_simp; with_reducible rfl); (try simp only [Act.put, List.setIfInBounds_toArray, List.set_cons_zero, List.set_cons_succ])))
                  with_reducible refine lexL_nil ?_; intro w1 hw1 hk1; simp only [List.drop_succ_cons, List.drop_zero]
                  have hO1 := hO.trans hw1
                  have z0 := cell_own hO1 0 rfl (col_at hxl htn)
                  have zf := free_own (e := 3) hO1 0 rfl t
                  clear hk1
                  go_wp2
                  have hO2 := hO1.store 0 rfl t (.int .i64 0)
                  rw [hset] at hO2
                  go_roundw
                  case rel => exact ⟨x + 1, nx2.set t 0, by go_num, hxk, HST, hO2⟩
                  case measure => simp [intOf]; omega
                · go_upto_region 16 with fail
                  refine wp_region_ext 25 (factsOf []) (fun k => ([[], [], [1], [], [1, 2, 3], [1, 2, 3, 4], [], [1, 2, 3, 4, 5, 6], [1, 2, 3, 4, 5, 6, 7], [], [], [10], [], [10, 11, 12], [10, 11, 12, 13], [], [10, 11, 12, 13, 14, 15], [10, 11, 12, 13, 14, 15, 16], [9, 10, 11, 12, 13, 14, 15, 16, 17], [9, 10, 11, 12, 13, 14, 15, 16, 17, 18], [], [], [20, 21], [20, 21, 22], [9, 10, 11, 12, 13, 14, 15, 16, 17, 18, 19, 20, 21, 22, 23], [0, 1, 2, 3, 4, 5, 6, 7, 8, 9, 10, 11, 12, 13, 14, 15, 16, 17, 18, 19, 20, 21, 22, 23, 24], [0, 1, 2, 3, 4, 5, 6, 7, 8, 9, 10, 11, 12, 13, 14, 15, 16, 17, 18, 19, 20, 21, 22, 23, 24, 25]] : List (List Nat)).getD k []) (by kernel_rfl) (by kernel_rfl) Ext.pre (mono_nil) ?_
                  simp only [List.take_succ_cons, List.take_zero]
                  repeat (first | (with_reducible refine lexL_quiet' (v := ?_) ?_ ?_ ?_ ?_; rotate_left; (· with_reducible rfl); (· simp [factsOf]); (· intro w1 hw1 _; go_simp; with_reducible rfl); (try simp only [Act.put, List.setIfInBounds_toArray, List.set_cons_zero, List.set_cons_succ])) | (with_reducible refine lexL_skip ?_ ?_; (· simp [Region.wanted, yielded, undef]); (try simp only [Act.put, List.setIfInBounds_toArray, List.set_cons_zero, List.set_cons_succ])) | (with_reducible refine lexL_quiet (v := ?_) ?_ ?_ ?_ ?_; rotate_left; (· simp [Region.wanted, yielded, undef]); (· simp [factsOf]); (· intro w1 hw1 _; go_simp; with_reducible rfl); (try simp only [Act.put, List.setIfInBounds_toArray, List.set_cons_zero, List.set_cons_succ])))
                  with_reducible refine lexL_nil ?_; intro w1 hw1 hk1; simp only [List.drop_succ_cons, List.drop_zero]
                  have hO1 := hO.trans hw1
                  have z0 := cell_own hO1 0 rfl (col_at hxl htn)
                  have zf := free_own (e := 3) hO1 0 rfl t
                  clear hk1
                  go_wp2
                  have hO2 := hO1.store 0 rfl t (.int .i64 1)
                  rw [hset] at hO2
                  go_roundw
                  case rel => exact ⟨x + 1, nx2.set t 1, by go_num, hxk, HST, hO2⟩
                  case measure => simp [intOf]; omega
              · obtain rfl : x = k := by omega
                have hrow := HX.out.row HG.out.2.2.1.symm
                have HROW := Lib.hid hrow
                clear hrow
                go_wp2
                go_roundw
                case rel => exact ⟨s + 1, nx2, by go_num, hsn, HROW, HNS, hO⟩
                case measure => simp [intOf]; omega
          · skip
            go_wp2
            go_loopw [8] (fun xv wr => ∃ (x : Nat) (nx : List Int), xv = .int .i64 x ∧ x ≤ k ∧ Hid (NextK d now nx s x) ∧ OwnL W1 wr [.row 3 1 (.slice (some ⟨gn, 0, none⟩) n n) n (nx.map (.int .i64)), .row 3 1 (.slice (some ⟨g, 0, none⟩) n n) n (now.map (.int .i64))]) (fun xv _ => k - (intOf xv).toNat)
            case atStart => exact ⟨0, nx, rfl, by omega, HNX, hO⟩
            case round =>
              clear hO
              obtain ⟨x, nx2, rfl, hx, HX, hO⟩ := hrel
              obtain ⟨W8, hW8⟩ : ∃ W, W = wr := ⟨_, rfl⟩; subst hW8
              have kk0 := k0 W8 hO.ext
              by_cases hxk : x < k
              · have hxI : (x : Int) < (k : Int) := by omega
                have hxd : x < d.k := by rw [HG.out.2.2.1]; exact hxk
                obtain ⟨bx, ox, cx, c1, c2⟩ := HCL.out s x hsd hxd
                have htn := HG.out.1.to_lt hsd hxd
                have hvx := HX.out.val _ htn
                have hst := HX.out.step HA.out HG.out.1 hsd hxd
                have hxl : nx2.length = n := by rw [← HG.out.2.1]; exact HX.out.len
                rw [HG.out.2.1] at htn
                rw [HG.out.2.2.1] at c1
                rw [HZ.out] at hst
                have HST := Lib.hid hst
                have e8 := hE1.trans hO.ext
                have c1 := e8.cell c1
                have c2 := e8.cell c2
                generalize d.to s x = t at *
                have htI : (t : Int) < (n : Int) := by omega
                have c3 := cell_own hO 0 rfl (col_at hxl htn)
                have c4 := cell_own hO 1 rfl (col_at hnl hsn)
                rw [HZ.out] at c4
                have c1 := fun w' (h : Ext W8 w') => h.cell c1
                have c2 := fun w' (h : Ext W8 w') => h.cell c2
                have c3 := fun w' (h : Ext W8 w') => h.cell c3
                have c4 := fun w' (h : Ext W8 w') => h.cell c4
                have k1' := fun w' (h : Ext W8 w') => k1 w' (hO.ext.trans h)
                have hE8 := Ext.refl W8
                generalize hq : nx2.getD t 0 = q at *
                have HQ := Lib.hid hq
                have hset : ∀ v : Int, (nx2.map (Value.int .i64)).set t (.int .i64 v) = (nx2.set t v).map (.int .i64) := fun v => by rw [List.map_set]
                clear hst hq e8 cn ca0
                rcases hvx with rfl | rfl
                · go_upto_region 16 with fail
                  refine wp_region_ext 25 (factsOf []) (fun k => ([[], [], [1], [], [1, 2, 3], [1, 2, 3, 4], [], [1, 2, 3, 4, 5, 6], [1, 2, 3, 4, 5, 6, 7], [], [], [10], [], [10, 11, 12], [10, 11, 12, 13], [], [10, 11, 12, 13, 14, 15], [10, 11, 12, 13, 14, 15, 16], [9, 10, 11, 12, 13, 14, 15, 16, 17], [9, 10, 11, 12, 13, 14, 15, 16, 17, 18], [], [], [20, 21], [20, 21, 22], [9, 10, 11, 12, 13, 14, 15, 16, 17, 18, 19, 20, 21, 22, 23], [0, 1, 2, 3, 4, 5, 6, 7, 8, 9, 10, 11, 12, 13, 14, 15, 16, 17, 18, 19, 20, 21, 22, 23, 24], [0, 1, 2, 3, 4, 5, 6, 7, 8, 9, 10, 11, 12, 13, 14, 15, 16, 17, 18, 19, 20, 21, 22, 23, 24, 25]] : List (List Nat)).getD k []) (by kernel_rfl) (by kernel_rfl) Ext.pre (mono_nil) ?_
                  simp only [List.take_succ_cons, List.take_zero]
                  repeat (first | (with_reducible refine lexL_quiet' (v := ?_) ?_ ?_ ?_ ?_; rotate_left; (· with_reducible rfl); (· simp [factsOf]); (· intro w1 hw1 _; go_simp; with_reducible rfl); (try simp only [Act.put, List.setIfInBounds_toArray, List.set_cons_zero, List.set_cons_succ])) | (with_reducible refine lexL_skip ?_ ?_; (· simp [Region.wanted, yielded, undef]); (try simp only [Act.put, List.setIfInBounds_toArray, List.set_cons_zero, List.set_cons_succ])) | (with_reducible refine lexL_quiet (v := ?_) ?_ ?_ ?_ ?_; rotate_left; (· simp [Region.wanted, yielded, undef]); (· simp [factsOf]); (· intro w1 hw1 _; go_simp; with_reducible rfl); (try simp only [Act.put, List.setIfInBounds_toArray, List.set_cons_zero, List.set_cons_succ])))
                  with_reducible refine lexL_nil ?_; intro w1 hw1 hk1; simp only [List.drop_succ_cons, List.drop_zero]
                  have hO1 := hO.trans hw1
                  have z0 := cell_own hO1 0 rfl (col_at hxl htn)
                  have zf := free_own (e := 3) hO1 0 rfl t
                  clear hk1
                  go_wp2
                  have hO2 := hO1.store 0 rfl t (.int .i64 1)
                  rw [hset] at hO2
                  go_roundw
                  case rel => exact ⟨x + 1, nx2.set t 1, by go_num, hxk, HST, hO2⟩
                  case measure => simp [intOf]; omega
                · go_upto_region 16 with fail
                  refine wp_region_ext 25 (factsOf []) (fun k => ([[], [], [1], [], [1, 2, 3], [1, 2, 3, 4], [], [1, 2, 3, 4, 5, 6], [1, 2, 3, 4, 5, 6, 7], [], [], [10], [], [10, 11, 12], [10, 11, 12, 13], [], [10, 11, 12, 13, 14, 15], [10, 11, 12, 13, 14, 15, 16], [9, 10, 11, 12, 13, 14, 15, 16, 17], [9, 10, 11, 12, 13, 14, 15, 16, 17, 18], [], [], [20, 21], [20, 21, 22], [9, 10, 11, 12, 13, 14, 15, 16, 17, 18, 19, 20, 21, 22, 23], [0, 1, 2, 3, 4, 5, 6, 7, 8, 9, 10, 11, 12, 13, 14, 15, 16, 17, 18, 19, 20, 21, 22, 23, 24], [0, 1, 2, 3, 4, 5, 6, 7, 8, 9, 10, 11, 12, 13, 14, 15, 16, 17, 18, 19, 20, 21, 22, 23, 24, 25]] : List (List Nat)).getD k []) (by kernel_rfl) (by kernel_rfl) Ext.pre (mono_nil) ?_
                  simp only [List.take_succ_cons, List.take_zero]
                  repeat (first | (with_reducible refine lexL_quiet' (v := ?_) ?_ ?_ ?_ ?_; rotate_left; (· with_reducible rfl); (· simp [factsOf]); (· intro w1 hw1 _; go_simp; with_reducible rfl); (try simp only [Act.put, List.setIfInBounds_toArray, List.set_cons_zero, List.set_cons_succ])) | (with_reducible refine lexL_skip ?_ ?_; (· simp [Region.wanted, yielded, undef]); (try simp only [Act.put, List.setIfInBounds_toArray, List.set_cons_zero, List.set_cons_succ])) | (with_reducible refine lexL_quiet (v := ?_) ?_ ?_ ?_ ?_; rotate_left; (· simp [Region.wanted, yielded, undef]); (· simp [factsOf]); (· intro w1 hw1 _; go_simp; with_reducible rfl); (try simp only [Act.put, List.setIfInBounds_toArray, List.set_cons_zero, List.set_cons_succ])))
                  with_reducible refine lexL_nil ?_; intro w1 hw1 hk1; simp only [List.drop_succ_cons, List.drop_zero]
                  have hO1 := hO.trans hw1
                  have z0 := cell_own hO1 0 rfl (col_at hxl htn)
                  have zf := free_own (e := 3) hO1 0 rfl t
                  clear hk1
                  go_wp2
                  have hO2 := hO1.store 0 rfl t (.int .i64 1)
                  rw [hset] at hO2
                  go_roundw
                  case rel => exact ⟨x + 1, nx2.set t 1, by go_num, hxk, HST, hO2⟩
                  case measure => simp [intOf]; omega
              · obtain rfl : x = k := by omega
                have hrow := HX.out.row HG.out.2.2.1.symm
                have HROW := Lib.hid hrow
                clear hrow
                go_wp2
                go_roundw
                case rel => exact ⟨s + 1, nx2, by go_num, hsn, HROW, HNS, hO⟩
                case measure => simp [intOf]; omega
          · have hltI : ¬ (n : Int) ≤ (k2 : Int) := by omega
            go_wp2
            go_loopw [8] (fun xv wr => ∃ (x : Nat) (nx : List Int), xv = .int .i64 x ∧ x ≤ k ∧ Hid (NextK d now nx s x) ∧ OwnL W1 wr [.row 3 1 (.slice (some ⟨gn, 0, none⟩) n n) n (nx.map (.int .i64)), .row 3 1 (.slice (some ⟨g, 0, none⟩) n n) n (now.map (.int .i64))]) (fun xv _ => k - (intOf xv).toNat)
            case atStart => exact ⟨0, nx, rfl, by omega, HNX, hO⟩
            case round =>
              clear hO
              obtain ⟨x, nx2, rfl, hx, HX, hO⟩ := hrel
              obtain ⟨W8, hW8⟩ : ∃ W, W = wr := ⟨_, rfl⟩; subst hW8
              have kk0 := k0 W8 hO.ext
              by_cases hxk : x < k
              · have hxI : (x : Int) < (k : Int) := by omega
                have hxd : x < d.k := by rw [HG.out.2.2.1]; exact hxk
                obtain ⟨bx, ox, cx, c1, c2⟩ := HCL.out s x hsd hxd
                have htn := HG.out.1.to_lt hsd hxd
                have hvx := HX.out.val _ htn
                have hst := HX.out.step HA.out HG.out.1 hsd hxd
                have hxl : nx2.length = n := by rw [← HG.out.2.1]; exact HX.out.len
                rw [HG.out.2.1] at htn
                rw [HG.out.2.2.1] at c1
                rw [HZ.out] at hst
                have HST := Lib.hid hst
                have e8 := hE1.trans hO.ext
                have c1 := e8.cell c1
                have c2 := e8.cell c2
                generalize d.to s x = t at *
                have htI : (t : Int) < (n : Int) := by omega
                have c3 := cell_own hO 0 rfl (col_at hxl htn)
                have c4 := cell_own hO 1 rfl (col_at hnl hsn)
                rw [HZ.out] at c4
                have c1 := fun w' (h : Ext W8 w') => h.cell c1
                have c2 := fun w' (h : Ext W8 w') => h.cell c2
                have c3 := fun w' (h : Ext W8 w') => h.cell c3
                have c4 := fun w' (h : Ext W8 w') => h.cell c4
                have k1' := fun w' (h : Ext W8 w') => k1 w' (hO.ext.trans h)
                have hE8 := Ext.refl W8
                generalize hq : nx2.getD t 0 = q at *
                have HQ := Lib.hid hq
                have hset : ∀ v : Int, (nx2.map (Value.int .i64)).set t (.int .i64 v) = (nx2.set t v).map (.int .i64) := fun v => by rw [List.map_set]
                clear hst hq e8 cn ca0
                rcases hvx with rfl | rfl
                · go_upto_region 16 with fail
                  refine wp_region_ext 25 (factsOf []) (fun k => ([[], [], [1], [], [1, 2, 3], [1, 2, 3, 4], [], [1, 2, 3, 4, 5, 6], [1, 2, 3, 4, 5, 6, 7], [], [], [10], [], [10, 11, 12], [10, 11, 12, 13], [], [10, 11, 12, 13, 14, 15], [10, 11, 12, 13, 14, 15, 16], [9, 10, 11, 12, 13, 14, 15, 16, 17], [9, 10, 11, 12, 13, 14, 15, 16, 17, 18], [], [], [20, 21], [20, 21, 22], [9, 10, 11, 12, 13, 14, 15, 16, 17, 18, 19, 20, 21, 22, 23], [0, 1, 2, 3, 4, 5, 6, 7, 8, 9, 10, 11, 12, 13, 14, 15, 16, 17, 18, 19, 20, 21, 22, 23, 24], [0, 1, 2, 3, 4, 5, 6, 7, 8, 9, 10, 11, 12, 13, 14, 15, 16, 17, 18, 19, 20, 21, 22, 23, 24, 25]] : List (List Nat)).getD k []) (by kernel_rfl) (by kernel_rfl) Ext.pre (mono_nil) ?_
                  simp only [List.take_succ_cons, List.take_zero]
                  repeat (first | (with_reducible refine lexL_quiet' (v := ?_) ?_ ?_ ?_ ?_; rotate_left; (· with_reducible rfl); (· simp [factsOf]); (· intro w1 hw1 _; go_simp; with_reducible rfl); (try simp only [Act.put, List.setIfInBounds_toArray, List.set_cons_zero, List.set_cons_succ])) | (with_reducible refine lexL_skip ?_ ?_; (· simp [Region.wanted, yielded, undef]); (try simp only [Act.put, List.setIfInBounds_toArray, List.set_cons_zero, List.set_cons_succ])) | (with_reducible refine lexL_quiet (v := ?_) ?_ ?_ ?_ ?_; rotate_left; (· simp [Region.wanted, yielded, undef]); (· simp [factsOf]); (· intro w1 hw1 _; go_simp; with_reducible rfl); (try simp only [Act.put, List.setIfInBounds_toArray, List.set_cons_zero, List.set_cons_succ])))
                  with_reducible refine lexL_nil ?_; intro w1 hw1 hk1; simp only [List.drop_succ_cons, List.drop_zero]
                  have hO1 := hO.trans hw1
                  have z0 := cell_own hO1 0 rfl (col_at hxl htn)
                  have zf := free_own (e := 3) hO1 0 rfl t
                  clear hk1
                  go_wp2
                  have hO2 := hO1.store 0 rfl t (.int .i64 1)
                  rw [hset] at hO2
                  go_roundw
                  case rel => exact ⟨x + 1, nx2.set t 1, by go_num, hxk, HST, hO2⟩
                  case measure => simp [intOf]; omega
                · go_upto_region 16 with fail
                  refine wp_region_ext 25 (factsOf []) (fun k => ([[], [], [1], [], [1, 2, 3], [1, 2, 3, 4], [], [1, 2, 3, 4, 5, 6], [1, 2, 3, 4, 5, 6, 7], [], [], [10], [], [10, 11, 12], [10, 11, 12, 13], [], [10, 11, 12, 13, 14, 15], [10, 11, 12, 13, 14, 15, 16], [9, 10, 11, 12, 13, 14, 15, 16, 17], [9, 10, 11, 12, 13, 14, 15, 16, 17, 18], [], [], [20, 21], [20, 21, 22], [9, 10, 11, 12, 13, 14, 15, 16, 17, 18, 19, 20, 21, 22, 23], [0, 1, 2, 3, 4, 5, 6, 7, 8, 9, 10, 11, 12, 13, 14, 15, 16, 17, 18, 19, 20, 21, 22, 23, 24], [0, 1, 2, 3, 4, 5, 6, 7, 8, 9, 10, 11, 12, 13, 14, 15, 16, 17, 18, 19, 20, 21, 22, 23, 24, 25]] : List (List Nat)).getD k []) (by kernel_rfl) (by kernel_rfl) Ext.pre (mono_nil) ?_
                  simp only [List.take_succ_cons, List.take_zero]
                  repeat (first | (with_reducible refine lexL_quiet' (v := ?_) ?_ ?_ ?_ ?_; rotate_left; (· with_reducible rfl); (· simp [factsOf]); (· intro w1 hw1 _; go_simp; with_reducible rfl); (try simp only [Act.put, List.setIfInBounds_toArray, List.set_cons_zero, List.set_cons_succ])) | (with_reducible refine lexL_skip ?_ ?_; (· simp [Region.wanted, yielded, undef]); (try simp only [Act.put, List.setIfInBounds_toArray, List.set_cons_zero, List.set_cons_succ])) | (with_reducible refine lexL_quiet (v := ?_) ?_ ?_ ?_ ?_; rotate_left; (· simp [Region.wanted, yielded, undef]); (· simp [factsOf]); (· intro w1 hw1 _; go_simp; with_reducible rfl); (try simp only [Act.put, List.setIfInBounds_toArray, List.set_cons_zero, List.set_cons_succ])))
                  with_reducible refine lexL_nil ?_; intro w1 hw1 hk1; simp only [List.drop_succ_cons, List.drop_zero]
                  have hO1 := hO.trans hw1
                  have z0 := cell_own hO1 0 rfl (col_at hxl htn)
                  have zf := free_own (e := 3) hO1 0 rfl t
                  clear hk1
                  go_wp2
                  have hO2 := hO1.store 0 rfl t (.int .i64 1)
                  rw [hset] at hO2
                  go_roundw
                  case rel => exact ⟨x + 1, nx2.set t 1, by go_num, hxk, HST, hO2⟩
                  case measure => simp [intOf]; omega
              · obtain rfl : x = k := by omega
                have hrow := HX.out.row HG.out.2.2.1.symm
                have HROW := Lib.hid hrow
                clear hrow
                go_wp2
                go_roundw
                case rel => exact ⟨s + 1, nx2, by go_num, hsn, HROW, HNS, hO⟩
                case measure => simp [intOf]; omega
        · obtain rfl : s = n := by omega
          have hat := HNX.out.all HG.out.1 (by rw [HG.out.2.1]) HA.out
          have hno := HNO.out.all HG.out.1 (by rw [HG.out.2.1])
          have HT := Lib.hid (And.intro hat hno)
          clear hat hno
          go_wp2
          go_roundw
          case rel => exact ⟨k2 + 1, nx, gn, by go_num, by omega, rfl, Lib.hid HT.out.1, Lib.hid HT.out.2, hO.swap.drop⟩
          case measure => simp [intOf]; omega
    · have hk2n : k2 = 2 * n := by omega
      have hfin : FinD d := (finW_iff HG.out.1).1 (HN.out.end (by rw [HG.out.2.1]; exact hk2n))
      have hknI : ¬ (k2 : Int) < 2 * (n : Int) := by omega
      have HF := Lib.hid (And.intro hfin (hE1.trans hO.ext))
      clear hfin hk2n
      go_wp2
      go_ret
      unfold RFinP
      exact ⟨true, rfl, ⟨fun _ => HF.out.1, fun _ => rfl⟩, HF.out.2⟩
end Go.Proofs.YthlnmcokgfpgmaaDoor
