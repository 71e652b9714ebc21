/-   -/
import Derived.Test.YtmebgomnmlbgnaaDoorZN
set_option linter.unnecessarySimpa false
set_option linter.unusedSectionVars false
namespace Go.Proofs.YtmebgomnmlbgnaaDoor
open Go.RowKit Go.Maps
set_option linter.unusedVariables false
set_option linter.unusedSimpArgs false
attribute [local go_sem] Oper.quietV quietV Oper.gives givesV ext_refl_iff ext_alloc_iff ext_drew_iff ext_drewN_iff
def stU (D : DN) (s : List Bool) (a : Nat) : Nat → List Bool × Bool
  | 0 => (List.replicate 256 false, false)
  | n + 1 => if s.getD n false then ((stU D s a n).1.set (D.nx n a) true, (stU D s a n).2 || D.ac (D.nx n a)) else stU D s a n
def stF (D : DN) (s : List Bool) (a : Nat) : List Bool × Bool := stU D s a D.rows.length
theorem stU_len (D : DN) (s : List Bool) (a : Nat) : ∀ n, (stU D s a n).1.length = 256
  | 0 => List.length_replicate
  | n + 1 => by unfold stU; split <;> simp [stU_len D s a n]
theorem zc133 : Tryd.zeroCells133 = ((List.replicate 256 false).map Value.bool).toArray := by kernel_rfl
theorem bools_set (l : List Bool) (x : Nat) (b : Bool) : ((l.map Value.bool).toArray.setIfInBounds x (.bool b)) = ((l.set x b).map Value.bool).toArray := by
  apply Array.ext'
  simp [List.map_set]
theorem getD_of {l : List Bool} {n : Nat} (h : n < l.length) : l[n]? = some (l.getD n false) := by
  rw [List.getElem?_eq_getElem h]; simp [List.getD, List.getElem?_eq_getElem h]
theorem bools_at (l : List Bool) (n : Nat) (h : n < l.length) : (l.map Value.bool).toArray[n]? = some (.bool (l.getD n false)) := by
  rw [List.getElem?_toArray, List.getElem?_map, getD_of h]; rfl
def abX (l : List Bool) : Obj := .cells (l.map Value.bool).toArray 133
set_option maxHeartbeats 4000000 in
theorem step_any {W : World} {m : Nat} {D : DN} {dv : Value} {a : Nat} {s : List Bool} (hD : D.ok m) (hd : DfaV W dv (D.dfa m)) (hs : s.length = 256) (ha : a < m) :
    Calls Tryd.prog 99 #[dv, .agg (s.map .bool).toArray, .int .i64 (a : Int)] W fun e w' => e = .returned (.tuple #[.agg ((stF D s a).1.map .bool).toArray, .bool (stF D s a).2]) ∧ Ext W w' := by
  obtain ⟨rv, cr, av, ca, rfl, h1, h2⟩ := hd
  have HD := Lib.hid hD
  have HL := Lib.hid h1
  have HB := Lib.hid h2
  obtain ⟨g, o, _, _, _, hv, _, _⟩ := lists_row hD h1 hD.pos ha
  obtain ⟨ga, oa, hva, _⟩ := bools_row h2 (s := 0) (by rw [hD.acc]; exact hD.pos)
  subst hv hva
  obtain ⟨X, hX⟩ : ∃ X, X = (s.map Value.bool).toArray := ⟨_, rfl⟩
  rw [← hX]
  have HX := Lib.hid hX
  have hXI : (Tryd.prog.info? 133).map (·.size) = some X.size := by rw [hX]; simp only [List.size_toArray, List.length_map, hs]; kernel_rfl
  clear hX h1 h2 hD
  go_enter Tryd.func99, Tryd.ntmps99
  go_upto_region 1 with fail
  refine wp_named ?_
  intro W1 hW1
  have hO : OwnL W W1 [.blk (W.heap.size + 1 + 1) (abX (stU D s a 0).1), .blk (W.heap.size + 1) (.cells X 133), .blk W.heap.size (.cells #[.int .i64 (m : Int), .slice (some ⟨g, o, none⟩) D.rows.length cr, .slice (some ⟨ga, oa, none⟩) D.acc.length ca] 28)] := by
    rw [hW1]
    have h1 := (OwnL.nil (Ext.refl W)).add (alloc_ext W (.cells #[.int .i64 (m : Int), .slice (some ⟨g, o, none⟩) D.rows.length cr, .slice (some ⟨ga, oa, none⟩) D.acc.length ca] 28)) (A := .blk W.heap.size _) ⟨Nat.le_refl _, heap_alloc_new W _⟩
    have h2 := h1.add (alloc_ext _ (.cells X 133)) (A := .blk (W.heap.size + 1) (.cells X 133)) ⟨by simp, by have := heap_alloc_new (W.alloc (.cells #[.int .i64 (m : Int), .slice (some ⟨g, o, none⟩) D.rows.length cr, .slice (some ⟨ga, oa, none⟩) D.acc.length ca] 28)) (.cells X 133); simpa using this⟩
    exact h2.add (alloc_ext _ (.cells Tryd.zeroCells133 133)) (A := .blk (W.heap.size + 1 + 1) (abX (stU D s a 0).1)) ⟨by simp, by
      have := heap_alloc_new ((W.alloc (.cells #[.int .i64 (m : Int), .slice (some ⟨g, o, none⟩) D.rows.length cr, .slice (some ⟨ga, oa, none⟩) D.acc.length ca] 28)).alloc (.cells X 133)) (.cells Tryd.zeroCells133 133)
      have e2 : ((W.alloc (.cells #[.int .i64 (m : Int), .slice (some ⟨g, o, none⟩) D.rows.length cr, .slice (some ⟨ga, oa, none⟩) D.acc.length ca] 28)).alloc (.cells X 133)).heap.size = W.heap.size + 1 + 1 := by simp
      rw [e2] at this
      rw [this, zc133]; rfl⟩
  clear hW1
  obtain ⟨bT, hbT⟩ : ∃ b, b = W.heap.size + 1 + 1 := ⟨_, rfl⟩
  rw [← hbT] at hO ⊢
  obtain ⟨b4, hb4⟩ : ∃ b, b = W.heap.size + 1 := ⟨_, rfl⟩
  rw [← hb4] at hO ⊢
  obtain ⟨b3, hb3⟩ : ∃ b, b = W.heap.size := ⟨_, rfl⟩
  rw [← hb3] at hO ⊢
  have HBB := Lib.hid (And.intro hbT (And.intro hb4 hb3))
  have HO := Lib.hid hO
  have k1 : W1.cell? ⟨b3, 1, none⟩ = some (.slice (some ⟨g, o, none⟩) D.rows.length cr) := cell_of_blk (hO.blkAt 2 rfl) 1 rfl
  clear hO hbT hb4 hb3
  go_wp2
  clear k1
  go_loopw [7, 13] (fun tv iv wr => ∃ n : Nat, iv = .int .i64 n ∧ n ≤ D.rows.length ∧ tv = .bool (stU D s a n).2 ∧ Hid (OwnL W wr [.blk bT (abX (stU D s a n).1), .blk b4 (.cells X 133), .blk b3 (.cells #[.int .i64 (m : Int), .slice (some ⟨g, o, none⟩) D.rows.length cr, .slice (some ⟨ga, oa, none⟩) D.acc.length ca] 28)])) (fun _ iv _ => D.rows.length - (intOf iv).toNat)
  case atStart => exact ⟨0, rfl, by omega, rfl, HO⟩
  case round =>
    clear HO
    obtain ⟨n, rfl, hn, rfl, HO⟩ := hrel
    obtain ⟨W6, hW6⟩ : ∃ W, W = wr := ⟨_, rfl⟩; subst hW6
    by_cases hlt : n < D.rows.length
    · have hltI : (n : Int) < (D.rows.length : Int) := by omega
      have hbig := HD.out.big
      have hn256 : (n : Int) < 256 := by omega
      obtain ⟨g', o', g2, o2, c2, hv, q1, q2⟩ := lists_row HD.out HL.out hlt ha
      cases hv
      have HQ2 := Lib.hid q2
      have q1 := HO.out.ext.cell q1
      have q2 := HO.out.ext.cell q2
      have k4 : W6.cell? ⟨b4, n, none⟩ = some (.bool (s.getD n false)) := cell_of_blk (HO.out.blkAt 1 rfl) n (by rw [HX.out]; exact bools_at s n (by omega))
      have hxlt := HD.out.nx hlt ha
      have HNS : Hid (stU D s a (n + 1) = if s.getD n false then ((stU D s a n).1.set (D.nx n a) true, (stU D s a n).2 || D.ac (D.nx n a)) else stU D s a n) := Lib.hid rfl
      cases hb : s.getD n false with
      | false =>
        rw [hb] at k4
        have HNS : Hid (stU D s a (n + 1) = stU D s a n) := Lib.hid (by rw [HNS.out, hb]; rfl)
        clear hb
        go_wp2
        go_roundw
        case rel => exact ⟨n + 1, by go_num, by omega, by rw [HNS.out], by rw [HNS.out]; exact HO⟩
        case measure => simp [intOf]; omega
      | true =>
        rw [hb] at k4
        have HNS : Hid (stU D s a (n + 1) = ((stU D s a n).1.set (D.nx n a) true, (stU D s a n).2 || D.ac (D.nx n a))) := Lib.hid (by rw [HNS.out, hb]; rfl)
        clear hb
        obtain ⟨x, hx⟩ : ∃ x, x = D.nx n a := ⟨_, rfl⟩
        rw [← hx] at q2 HNS hxlt HQ2
        clear hx
        have hx256 : (x : Int) < 256 := by omega
        have hxI : (x : Int) < (D.rows.length : Int) := by omega
        have hxA : (x : Int) < (D.acc.length : Int) := by have := HD.out.acc; omega
        have hxA2 : x < D.acc.length := by omega
        obtain ⟨ga', oa', hva, q3⟩ := bools_row HB.out hxA2
        cases hva
        have HQ3 := Lib.hid q3
        clear q3
        have hTl := stU_len D s a n
        have c0 : W6.cell? ⟨bT, x, none⟩ = some (.bool ((stU D s a n).1.getD x false)) := cell_of_blk (HO.out.blkAt 0 rfl) x (bools_at _ x (by omega))
        have f0 := free_of_blk (HO.out.blkAt 0 rfl) x
        clear hTl
        go_upto_region 6 with fail
        refine wp_named ?_
        intro W8 hW8
        have hO8 : OwnL W W8 [.blk bT (abX ((stU D s a n).1.set x true)), .blk b4 (.cells X 133), .blk b3 (.cells #[.int .i64 (m : Int), .slice (some ⟨g, o, none⟩) D.rows.length cr, .slice (some ⟨ga, oa, none⟩) D.acc.length ca] 28)] := by
          rw [hW8]
          have h := HO.out.put 0 rfl x (.bool true)
          rw [bools_set] at h
          exact h
        have HO8 := Lib.hid hO8
        have k2 := fun w' (e : Ext W8 w') => e.cell (cell_of_blk (hO8.blkAt 2 rfl) 2 (u := .slice (some ⟨ga, oa, none⟩) D.acc.length ca) rfl)
        have hE8 := hO8.ext
        have q3 := fun w' (e : Ext W8 w') => (hE8.trans e).cell HQ3.out
        have hq2 : W8.cell? ⟨g2, o2 + a, none⟩ = some (.int .i64 (x : Int)) := by
          exact hE8.cell HQ2.out
        have q2 := fun w' (e : Ext W8 w') => e.cell hq2
        clear hO8 hW8 hE8 hq2 k4 q1 c0 f0 HO HQ3
        cases hp : (stU D s a n).2 with
        | true =>
          rw [hp] at HNS
          refine wp_region_ext 8 (factsOf []) (fun k => ([[], [0], [0, 1], [0, 1, 2], [0, 1], [0, 1], [0, 1, 4, 5], [0, 1, 4, 5, 6], [0, 1, 2, 3, 4, 5, 6, 7], [0, 1, 2, 3, 4, 5, 6, 7, 8], [0, 1, 2, 3, 4, 5, 6, 7, 8, 9], [0, 1, 2, 3, 4, 5, 6, 7, 8, 9, 10]] : List (List Nat)).getD k []) (by kernel_rfl) (by kernel_rfl) Ext.pre (mono_nil) ?_
          simp only [List.take_succ_cons, List.take_zero]
          repeat (first | (with_reducible refine lexL_quiet' (v := ?_) ?_ ?_ ?_ ?_; rotate_left; (· with_reducible rfl); (· simp [factsOf]); (· intro w1 hw1 _; go_simp; with_reducible rfl); (try simp only [Act.put, List.setIfInBounds_toArray, List.set_cons_zero, List.set_cons_succ])) | (with_reducible refine lexL_skip ?_ ?_; (· simp [Region.wanted, yielded, undef]); (try simp only [Act.put, List.setIfInBounds_toArray, List.set_cons_zero, List.set_cons_succ])) | (with_reducible refine lexL_quiet (v := ?_) ?_ ?_ ?_ ?_; rotate_left; (· simp [Region.wanted, yielded, undef]); (· simp [factsOf]); (· intro w1 hw1 _; go_simp; with_reducible rfl); (try simp only [Act.put, List.setIfInBounds_toArray, List.set_cons_zero, List.set_cons_succ])))
          with_reducible refine lexL_nil ?_; intro w1 hw1 hk1; simp only [List.drop_succ_cons, List.drop_zero]
          go_wp2
          go_roundw
          case rel => exact ⟨n + 1, by go_num, by omega, by rw [HNS.out]; rfl, by rw [HNS.out]; exact Lib.hid (HO8.out.trans hw1)⟩
          case measure => simp [intOf]; omega
        | false =>
          rw [hp] at HNS
          refine wp_region_ext 8 (factsOf []) (fun k => ([[], [0], [0, 1], [0, 1, 2], [0, 1], [0, 1], [0, 1, 4, 5], [0, 1, 4, 5, 6], [0, 1, 2, 3, 4, 5, 6, 7], [0, 1, 2, 3, 4, 5, 6, 7, 8], [0, 1, 2, 3, 4, 5, 6, 7, 8, 9], [0, 1, 2, 3, 4, 5, 6, 7, 8, 9, 10]] : List (List Nat)).getD k []) (by kernel_rfl) (by kernel_rfl) Ext.pre (mono_nil) ?_
          simp only [List.take_succ_cons, List.take_zero]
          repeat (first | (with_reducible refine lexL_quiet' (v := ?_) ?_ ?_ ?_ ?_; rotate_left; (· with_reducible rfl); (· simp [factsOf]); (· intro w1 hw1 _; go_simp; with_reducible rfl); (try simp only [Act.put, List.setIfInBounds_toArray, List.set_cons_zero, List.set_cons_succ])) | (with_reducible refine lexL_skip ?_ ?_; (· simp [Region.wanted, yielded, undef]); (try simp only [Act.put, List.setIfInBounds_toArray, List.set_cons_zero, List.set_cons_succ])) | (with_reducible refine lexL_quiet (v := ?_) ?_ ?_ ?_ ?_; rotate_left; (· simp [Region.wanted, yielded, undef]); (· simp [factsOf]); (· intro w1 hw1 _; go_simp; with_reducible rfl); (try simp only [Act.put, List.setIfInBounds_toArray, List.set_cons_zero, List.set_cons_succ])))
          with_reducible refine lexL_nil ?_; intro w1 hw1 hk1; simp only [List.drop_succ_cons, List.drop_zero]
          go_wp2
          go_roundw
          case rel => exact ⟨n + 1, by go_num, by omega, by rw [HNS.out]; rfl, by rw [HNS.out]; exact Lib.hid (HO8.out.trans hw1)⟩
          case measure => simp [intOf]; omega
    · have hne : n = D.rows.length := by omega
      subst hne
      have hltI : ¬ (D.rows.length : Int) < (D.rows.length : Int) := by omega
      have hT := HO.out.blkAt 0 rfl
      have hsz : (Tryd.prog.info? 133).map (·.size) = some ((stU D s a D.rows.length).1.map Value.bool).toArray.size := by
        simp only [List.size_toArray, List.length_map, stU_len]; kernel_rfl
      have hT : W6.heap[bT]? = some (.cells ((stU D s a D.rows.length).1.map Value.bool).toArray 133 (0, 0)) := hT
      obtain ⟨Y, hY⟩ : ∃ Y, Y = ((stU D s a D.rows.length).1.map Value.bool).toArray := ⟨_, rfl⟩
      have hone : Y.all (·.oneCell') = true := by rw [hY, List.all_toArray, List.all_eq_true]; exact bools_one _
      rw [← hY] at hT hsz
      have HY := Lib.hid hY
      clear hY
      go_wp2_with (first
        | (with_reducible refine wpList_load_row rfl 133 _ rfl bT rfl 133 _ (0, 0) _ hT Tryd.underlying133 rfl hsz ?_)
        | (with_reducible refine wpList_store_blk _ rfl 133 _ _ rfl bT 133 _ _ rfl rfl hT rfl hsz hone ?_; intro w10 h10 g10))
      refine bodyPost_ret (results_ct2 rfl _ _ bT 133 _ (0, 0) _ (by simp [Act.put]) h10 Tryd.underlying133 rfl hsz) rfl ?_
      refine ⟨?_, Below.grown HO.out.ext g10 HO.out.ext.size (fun k hk => by cases hk; have := HBB.out.1; omega)⟩
      rw [HY.out]
      simp [Act.put, stF]
end Go.Proofs.YtmebgomnmlbgnaaDoor

namespace Go.Proofs.YtmebgomnmlbgnaaDoor
open Go.RowKit Go.Maps
set_option linter.unusedVariables false
set_option linter.unusedSimpArgs false
attribute [local go_sem] Oper.quietV quietV Oper.gives givesV ext_refl_iff ext_alloc_iff ext_drew_iff ext_drewN_iff
def smU (D : DN) (s : List Bool) : Nat → Bool
  | 0 => false
  | n + 1 => smU D s n || (D.ac n && s.getD n false)
def smF (D : DN) (s : List Bool) : Bool := smU D s D.rows.length
theorem heap_new2 (W : World) (o o' : Obj) : ((W.alloc o).alloc o').heap[W.heap.size + 1]? = some o' := by have := heap_alloc_new (W.alloc o) o'; simpa using this
theorem heap_new3 (W : World) (o o' o'' : Obj) : (((W.alloc o).alloc o').alloc o'').heap[W.heap.size + 1 + 1]? = some o'' := by have := heap_alloc_new ((W.alloc o).alloc o') o''; simpa using this
theorem smU_mono {D : DN} {s : List Bool} {n : Nat} (h : smU D s n = true) : ∀ k, smU D s (n + k) = true
  | 0 => h
  | k + 1 => by show (smU D s (n + k) || _) = true; rw [smU_mono h k]; rfl
theorem some_any {W : World} {m : Nat} {D : DN} {dv : Value} {s : List Bool} (hD : D.ok m) (hd : DfaV W dv (D.dfa m)) (hs : s.length = 256) :
    Calls Tryd.prog 101 #[dv, .agg (s.map .bool).toArray] W fun e w' => e = .returned (.bool (smF D s)) ∧ Ext W w' := by
  obtain ⟨rv, cr, av, ca, rfl, h1, h2⟩ := hd
  have HD := Lib.hid hD
  have HB := Lib.hid h2
  obtain ⟨ga, oa, hva, _⟩ := bools_row h2 (s := 0) (by rw [hD.acc]; exact hD.pos)
  subst hva
  obtain ⟨X, hX⟩ : ∃ X, X = (s.map Value.bool).toArray := ⟨_, rfl⟩
  rw [← hX]
  have HX := Lib.hid hX
  have hXI : (Tryd.prog.info? 133).map (·.size) = some X.size := by rw [hX]; simp only [List.size_toArray, List.length_map, hs]; kernel_rfl
  clear hX h1 h2 hD
  obtain ⟨R, hR⟩ : ∃ R, R = smF D s := ⟨_, rfl⟩
  rw [← hR]
  have HR := Lib.hid hR
  clear hR
  go_enter Tryd.func101, Tryd.ntmps101
  go_upto_region 1 with fail
  refine wp_named ?_
  intro W1 hW1
  have hE1 : Ext W W1 := by rw [hW1]; exact (alloc_ext _ _).trans (alloc_ext _ _)
  have hB3 : W1.heap[W.heap.size]? = some (.cells #[.int .i64 (m : Int), rv, .slice (some ⟨ga, oa, none⟩) D.acc.length ca] 28) := by rw [hW1]; exact heap_ext (alloc_ext _ _) (heap_alloc_new _ _)
  have hB4 : W1.heap[W.heap.size + 1]? = some (.cells X 133) := by rw [hW1]; exact heap_new2 _ _ _
  have k2 := cell_of_blk hB3 2 (u := .slice (some ⟨ga, oa, none⟩) D.acc.length ca) rfl
  have HB4 := Lib.hid hB4
  have HE1 := Lib.hid hE1
  clear hW1 hB3 hB4 hE1
  go_wp2
  go_loop [10] (fun iv => ∃ n : Nat, iv = .int .i64 n ∧ n ≤ D.acc.length ∧ Hid (smU D s n = false)) (fun iv => D.acc.length - (intOf iv).toNat)
  case atStart => exact ⟨0, rfl, by omega, Lib.hid rfl⟩
  case round =>
    obtain ⟨n, rfl, hn, HF⟩ := hrel
    by_cases hlt : n < D.acc.length
    · have hltI : (n : Int) < (D.acc.length : Int) := by omega
      have hbig := HD.out.big
      have hacc := HD.out.acc
      have hn256 : (n : Int) < 256 := by omega
      have hns : n < s.length := by omega
      clear hbig hacc
      obtain ⟨ga', oa', hva, q3⟩ := bools_row HB.out hlt
      cases hva
      have q3 := HE1.out.cell q3
      have k4 : W1.cell? ⟨W.heap.size + 1, n, none⟩ = some (.bool (s.getD n false)) := cell_of_blk HB4.out n (by rw [HX.out]; exact bools_at s n hns)
      have HNS : Hid (smU D s (n + 1) = (D.ac n && s.getD n false)) := Lib.hid (by show (smU D s n || _) = _; rw [HF.out]; rfl)
      clear hns
      cases hb : s.getD n false <;> cases hp : D.ac n <;> rw [hb] at k4 <;> rw [hp] at q3 <;> rw [hb, hp] at HNS <;> clear hb hp
      · go_wp2
        go_roundw
        case rel => exact ⟨n + 1, by go_num, by omega, HNS⟩
        case measure => simp [intOf]; omega
      · go_wp2
        go_roundw
        case rel => exact ⟨n + 1, by go_num, by omega, HNS⟩
        case measure => simp [intOf]; omega
      · go_wp2
        go_roundw
        case rel => exact ⟨n + 1, by go_num, by omega, HNS⟩
        case measure => simp [intOf]; omega
      · have HR2 : Hid (R = true) := Lib.hid (by
          rw [HR.out]
          have h := smU_mono HNS.out (D.rows.length - (n + 1))
          rw [Nat.add_sub_cancel' (by have := HD.out.acc; omega)] at h
          exact h)
        go_wp2
        go_ret
        exact ⟨by rw [HR2.out]; rfl, HE1.out⟩
    · have hne : n = D.acc.length := by omega
      subst hne
      have hltI : ¬ (D.acc.length : Int) < (D.acc.length : Int) := by omega
      have HR2 : Hid (R = false) := Lib.hid (by rw [HR.out]; unfold smF; rw [← HD.out.acc]; exact HF.out)
      go_wp2
      go_ret
      exact ⟨by rw [HR2.out]; rfl, HE1.out⟩
end Go.Proofs.YtmebgomnmlbgnaaDoor
