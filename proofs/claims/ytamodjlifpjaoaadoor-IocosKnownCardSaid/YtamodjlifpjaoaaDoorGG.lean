/- iocos.Conforms 21: the search over pairs of sets. Regions of any order in which several blocks are made: the law of Reg, with the blocks told apart. iocos.Conforms 21: the first pair, and the map of pairs. iocos.Conforms 21: the beginning, and the whole. Lean: the examples of the chapter, and what the functions answer of them. -/
import Derived.Test.YtamodjlifpjaoaaDoorGE
import Derived.Test.YtamodjlifpjaoaaDoorGA
import Derived.Test.YtamodjlifpjaoaaDoorGC
import Derived.Test.YtamodjlifpjaoaaDoorGF
namespace Go.Proofs.YtamodjlifpjaoaaDoor
open Go.RowKit
set_option linter.unusedVariables false
set_option linter.unusedSimpArgs false
attribute [local go_sem] Oper.quietV quietV Oper.gives givesV ext_refl_iff ext_alloc_iff ext_drew_iff ext_drewN_iff
/-- A row, halfway. -/
def rowN (x y : Lts) (n j : Nat) (k : Nat × Nat) : List Fp := rowB (rootC x y) okC (goC x y n) n ((candC x y k).take j)
theorem rowN_zero (x y : Lts) (n : Nat) (k : Nat × Nat) : rowN x y n 0 k = goC x y n := rfl
theorem cand_len (x y : Lts) (k : Nat × Nat) : (candC x y k).length = x.I + x.O + 1 := by simp [candC, labs]
theorem cand_at {x y : Lts} {k : Nat × Nat} {j : Nat} (hj : j < x.I + x.O + 1) : (candC x y k)[j]? = some ((j : Int), (aftM x k.1 (j : Int), aftM y k.2 (j : Int))) := by
  unfold candC labs
  rw [List.getElem?_map, List.getElem?_map, List.getElem?_range hj]; rfl
theorem rowN_succ {x y : Lts} {n j : Nat} {k : Nat × Nat} (hj : j < x.I + x.O + 1) : rowN x y n (j + 1) k = addB (rootC x y) okC (rowN x y n j k) n ((j : Int), (aftM x k.1 (j : Int), aftM y k.2 (j : Int))) := rowB_snoc _ _ (cand_at hj)
theorem rowN_all {x y : Lts} {n : Nat} {r : Fp} (h : (goC x y n)[n]? = some r) : rowN x y n (x.I + x.O + 1) r.key = goC x y (n + 1) := by
  unfold rowN
  rw [List.take_of_length_le (by rw [cand_len]; exact Nat.le_refl _)]
  exact (goB_step h).symm
theorem rowN_pre {x y : Lts} {n : Nat} {r : Fp} (h : (goC x y n)[n]? = some r) (j : Nat) : goC x y n <+: rowN x y n j r.key ∧ rowN x y n j r.key <+: goC x y (n + 1) := by
  refine ⟨rowB_pre _ _ _, ?_⟩
  have h1 := rowB_take_pre (root := rootC x y) (ok := okC) (goC x y n) n (candC x y r.key) j
  have h2 : goC x y (n + 1) = rowB (rootC x y) okC (goC x y n) n (candC x y r.key) := goB_step h
  rw [h2]
  exact h1
theorem rowN_ok {x y : Lts} {n : Nat} {r : Fp} (h : (goC x y n)[n]? = some r) (j : Nat) : OkB (rootC x y) (candC x y) okC (rowN x y n j r.key) := by
  obtain ⟨h1, h2⟩ := go_ok (root := rootC x y) (cand := candC x y) (ok := okC) (candC_rise x y) n
  exact (row_ok ((candC x y r.key).take j) h1 h (fun e he => List.mem_of_mem_take he) (List.Pairwise.sublist (List.take_sublist _ _) (candC_rise x y r.key)) (fun e _ => h2 e.1)).1
theorem rowN_full {x y : Lts} {n j : Nat} {r : Fp} (h : (goC x y n)[n]? = some r) (hn : n < 4096) (hl : 4096 < (rowN x y n j r.key).length) : 4096 < (fndL x y).length := by
  have h1 := (rowN_pre h j).2.length_le
  have h2 := (goB_le (root := rootC x y) (cand := candC x y) (ok := okC) (show n + 1 ≤ capC x by rw [capC_eq]; omega)).length_le
  show 4096 < (goB (rootC x y) (candC x y) okC (capC x)).length
  have h3 : (goC x y (n + 1)).length ≤ (goB (rootC x y) (candC x y) okC (capC x)).length := h2
  omega
theorem goC_end {x y : Lts} {n : Nat} (hn : n = (goC x y n).length) (hl : (goC x y n).length ≤ 4096) : fndL x y = goC x y n := goB_stop (by show (goC x y n).length ≤ n; omega) (by rw [capC_eq]; omega)
/-- A new slice of one thing. -/
def FreshS (N : Nat) (cs : Array Value) (t : TypeId) (v : Value) (w : World) : Prop := ∃ b, v = .slice (some ⟨b, 0, none⟩) 1 1 ∧ N ≤ b ∧ w.heap[b]? = some (.cells cs t (0, 0))
theorem stays_freshS (N : Nat) (cs : Array Value) (t : TypeId) : Stays Ext (FreshS N cs t) := fun v w w' hE ⟨b, hv, hb, h⟩ => ⟨b, hv, hb, heap_ext hE h⟩
theorem found_info : (Tryd.prog.info? 91).map (fun i => (i.zero, i.size, i.bytes)) = some (some (.agg #[.int .u64 0, .int .u64 0, .int .i64 0, .int .i64 0, .int .i64 0]), 5, 40) := by kernel_rfl
theorem five_cells (a b : Nat) (c d e : Int) : ∀ u ∈ [Value.int .u64 a, .int .u64 b, .int .i64 c, .int .i64 d, .int .i64 e], u.oneCell' = true := by intro u hu; simp at hu; rcases hu with rfl | rfl | rfl | rfl | rfl <;> rfl
theorem blk5 {w : World} {b t : Nat} {c0 c1 c2 c3 c4 : Value} (h : w.heap[b]? = some (.cells #[c0, c1, c2, c3, c4] t (0, 0))) : ∀ (j : Nat) (u : Value), [c0, c1, c2, c3, c4][j]? = some u → w.cell? ((⟨b, 0, none⟩ : Addr).add j) = some u := fun j u hj => by
  rw [Addr.add_lit, Nat.zero_add]; exact cell_of_blk h j (by simpa using hj)
/-- What Conforms answers behind its checks. -/
def confT (x y : Lts) : Bool × List Int × Int × Int := if 4096 < (fndL x y).length then (false, [], 0, 3) else confG x y
theorem fds_own {W : World} {B : Nat} {A : Option Addr} {c n : Nat} {l : List Fp} (h : W.ownsRow B 91 5 (.slice A n c) n (l.flatMap fdCells)) : FdsC W A l := by
  obtain ⟨A', c', hv, _, hc⟩ := cells_of_owns h
  cases hv
  exact hc
set_option maxRecDepth 100000 in
set_option maxHeartbeats 16000000 in
theorem conf_t15 (w W0 W : World) (b11 b12 gl gm : Nat) (om : Obj) (x y : Lts) (c0 c1 c2 c3 c4 c5 c6 c7 c8 c9 c10 c13 c16 c17 c18 c19 c20 c21 c22 c23 c24 c25 c26 c27 c28 c29 c30 c31 c32 c33 c34 c35 c36 c37 c38 c39 c40 c41 c42 c43 c44 c45 c46 c47 c48 c49 c50 c51 c52 c53 c54 c55 c56 c57 c58 c59 c60 c61 c62 c63 c64 c65 c66 c67 c68 c69 c70 c71 c72 c73 c74 c75 c76 c77 c78 c79 c80 c81 c82 c83 c84 c85 c86 c87 c88 c89 c90 c91 c92 c93 c94 c95 c96 c97 c98 c99 c100 c101 c102 c103 c104 c105 c106 c107 c108 c109 c110 c111 c112 c113 c114 c115 c116 c117 c118 c119 c120 c121 c122 c123 c124 c125 c126 c127 c128 c129 c130 c131 c132 c133 c134 c135 c136 c137 c138 c139 c140 c141 c142 c143 c144 c145 c146 c147 c148 c149 c150 c151 c152 c153 c154 c155 c156 c157 c158 c159 c160 c161 : Value) (h0 : Ext w W0) (hT : Tab W0) (hx : Good x) (hy : Good y) (hbx : BoxS W0 b11 x) (hby : BoxS W0 b12 y)
    (hO : OwnL W0 W [.row 91 5 (.slice (some ⟨gl, 0, none⟩) 1 1) 1 ([rt (rootC x y)].flatMap fdCells), .blk gm om]) (hm : SetOf pairV pairOK om [rootC x y]) :
    Code.wp Tryd.prog (T21 15) (bodyPost Tryd.prog Tryd.f21 (ConfP w (confT x y))) ⟨(c0 :: c1 :: c2 :: c3 :: c4 :: c5 :: c6 :: c7 :: c8 :: c9 :: c10 :: .pointer (some ⟨b11, 0, none⟩) :: .pointer (some ⟨b12, 0, none⟩) :: c13 :: .slice (some ⟨gl, 0, none⟩) 1 1 :: .map (some gm) :: c16 :: c17 :: c18 :: c19 :: c20 :: c21 :: c22 :: c23 :: c24 :: c25 :: c26 :: c27 :: c28 :: c29 :: c30 :: c31 :: c32 :: c33 :: c34 :: c35 :: c36 :: c37 :: c38 :: c39 :: c40 :: c41 :: c42 :: c43 :: c44 :: c45 :: c46 :: c47 :: c48 :: c49 :: c50 :: c51 :: c52 :: c53 :: c54 :: c55 :: c56 :: c57 :: c58 :: c59 :: c60 :: c61 :: c62 :: c63 :: c64 :: c65 :: c66 :: c67 :: c68 :: c69 :: c70 :: c71 :: c72 :: c73 :: c74 :: c75 :: c76 :: c77 :: c78 :: c79 :: c80 :: c81 :: c82 :: c83 :: c84 :: c85 :: c86 :: c87 :: c88 :: c89 :: c90 :: c91 :: c92 :: c93 :: c94 :: c95 :: c96 :: c97 :: c98 :: c99 :: c100 :: c101 :: c102 :: c103 :: c104 :: c105 :: c106 :: c107 :: c108 :: c109 :: c110 :: c111 :: c112 :: c113 :: c114 :: c115 :: c116 :: c117 :: c118 :: c119 :: c120 :: c121 :: c122 :: c123 :: c124 :: c125 :: c126 :: c127 :: c128 :: c129 :: c130 :: c131 :: c132 :: c133 :: c134 :: c135 :: c136 :: c137 :: c138 :: c139 :: c140 :: c141 :: c142 :: c143 :: c144 :: c145 :: c146 :: c147 :: c148 :: c149 :: c150 :: c151 :: c152 :: c153 :: c154 :: c155 :: c156 :: c157 :: c158 :: c159 :: c160 :: c161 :: []).toArray, []⟩ W := by
  conv => arg 2; whnf
  obtain ⟨i91, hi91, hz91, hs91, hb91⟩ := info_parts found_info
  have HX0 := Lib.hid h0
  have HBX := Lib.hid (And.intro hbx hby)
  have HX := Lib.hid (And.intro hT (And.intro hx hy))
  have HII := Lib.hid (And.intro hx.II hx.OO)
  have HIO := Lib.hid (And.intro hx.ins hx.outs)
  obtain ⟨pA, pc, pB, pd, p0, p1, p2, p3, pS⟩ := hbx
  have p0 := fun w' (h : Ext W0 w') => h.cell p0
  have p1 := fun w' (h : Ext W0 w') => h.cell p1
  have p2 := fun w' (h : Ext W0 w') => h.cell p2
  have p3 := fun w' (h : Ext W0 w') => h.cell p3
  obtain ⟨qA, qc, qB, qd, q0, q1, q2, q3, qS⟩ := hby
  have q0 := fun w' (h : Ext W0 w') => h.cell q0
  have q1 := fun w' (h : Ext W0 w') => h.cell q1
  have q2 := fun w' (h : Ext W0 w') => h.cell q2
  have q3 := fun w' (h : Ext W0 w') => h.cell q3
  have HS := Lib.hid (And.intro pS qS)
  clear h0 hT hx hy pS qS
  have hO0 : OwnL W0 W [.row 91 5 (.slice (some ⟨gl, 0, none⟩) (goC x y 0).length 1) (goC x y 0).length ((goC x y 0).flatMap fdCells), .blk gm om] := hO
  have hm0 : SetOf pairV pairOK om ((goC x y 0).map Fd.key) := hm
  clear hO hm
  go_wp2
  go_loopw [16, 14] (fun nv lv wr => ∃ (n : Nat) (om : Obj) (gl cl : Nat), nv = .int .i64 n ∧ Hid (n ≤ (goC x y n).length ∧ (goC x y n).length ≤ 4096) ∧ lv = .slice (some ⟨gl, 0, none⟩) (goC x y n).length cl ∧ SetOf pairV pairOK om ((goC x y n).map Fd.key) ∧ OwnL W0 wr [.row 91 5 lv (goC x y n).length ((goC x y n).flatMap fdCells), .blk gm om]) (fun nv _ _ => 4097 - (intOf nv).toNat)
  case atStart => exact ⟨0, om, gl, 1, rfl, Lib.hid ⟨Nat.zero_le _, by show 1 ≤ 4096; omega⟩, rfl, hm0, hO0⟩
  case round =>
    clear hO0 hm0
    clear om gl
    obtain ⟨n, om, gl, cl, rfl, hle, rfl, hm, hO⟩ := hrel
    have hE := hO.ext
    obtain ⟨W2, hW2⟩ : ∃ W, W = wr := ⟨_, rfl⟩; subst hW2
    by_cases hlt2 : n < (goC x y n).length
    · obtain ⟨r, hr⟩ : ∃ r, (goC x y n)[n]? = some r := ⟨_, List.getElem?_eq_getElem hlt2⟩
      have hnI : (n : Int) < ((goC x y n).length : Int) := by omega
      have HR := Lib.hid hr
      have hn96 : n < 4096 := by have := hle.out.2; omega
      have hlab := labels_any W2 _ x (HS.out.1.ext hE) HX.out.2.1
      have u0 := fun w' (h : Ext W2 w') => p0 w' ((hE).trans h)
      have u1 := fun w' (h : Ext W2 w') => p1 w' ((hE).trans h)
      have u2 := fun w' (h : Ext W2 w') => p2 w' ((hE).trans h)
      have u3 := fun w' (h : Ext W2 w') => p3 w' ((hE).trans h)
      have hE2 := Ext.refl W2
      have HE2 := Lib.hid hE
      have HLE := Lib.hid hle.out
      clear hr hE hle
      go_upto_region 19 with ((with_reducible refine hlab.mono ?_); rintro e W3 ⟨rfl, e3⟩)
      have hO3 : OwnL W0 W3 [.row 91 5 (.slice (some ⟨gl, 0, none⟩) (rowN x y n 0 r.key).length cl) (rowN x y n 0 r.key).length ((rowN x y n 0 r.key).flatMap fdCells), .blk gm om] := hO.trans e3
      have hm3 : SetOf pairV pairOK om ((rowN x y n 0 r.key).map Fd.key) := hm
      have HLE3 : Hid ((rowN x y n 0 r.key).length ≤ 4096) := Lib.hid HLE.out.2
      clear hlab hO hm u0 u1 u2 u3 hE2
      go_loopw [75, 14] (fun jv lv wr => ∃ (j : Nat) (om : Obj) (gl cl : Nat), jv = .int .i64 j ∧ j ≤ x.I + x.O + 1 ∧ Hid ((rowN x y n j r.key).length ≤ 4096) ∧ lv = .slice (some ⟨gl, 0, none⟩) (rowN x y n j r.key).length cl ∧ SetOf pairV pairOK om ((rowN x y n j r.key).map Fd.key) ∧ OwnL W0 wr [.row 91 5 lv (rowN x y n j r.key).length ((rowN x y n j r.key).flatMap fdCells), .blk gm om]) (fun jv _ _ => x.I + x.O + 1 - (intOf jv).toNat)
      case atStart => exact ⟨0, om, gl, cl, rfl, by omega, HLE3, rfl, hm3, hO3⟩
      case round =>
        clear hO3 hm3 HLE3
        obtain ⟨j, om2, gl2, cl2, rfl, hj, hle, rfl, hm, hO⟩ := hrel
        have hE := hO.ext
        obtain ⟨W4, hW4⟩ : ∃ W, W = wr := ⟨_, rfl⟩; subst hW4
        by_cases hjl : j < x.I + x.O + 1
        · have hltI : (j : Int) < x.ins + x.outs + 1 := by have := HII.out; omega
          have hj33 : j ≤ 33 := by have := HII.out; omega
          have hsucc := rowN_succ (x := x) (y := y) (n := n) (k := r.key) hjl
          have hr1 : (rowN x y n j r.key)[n]? = some r := pre_get (rowN_pre HR.out j).1 HR.out
          have hok1 := rowN_ok HR.out j
          have hkey := goC_key HX.out.2.1 HX.out.2.2 (n + 1) (r := r) (List.mem_of_getElem? (pre_get (rowN_pre HR.out j).2 hr1))
          have hnl2 : n < (rowN x y n j r.key).length := (List.getElem?_eq_some_iff.1 hr1).1
          have hln := hok1.ln n r hr1
          obtain ⟨bq, oq, hAq, f0, f1, _, _, f4⟩ := (fds_own (hO.get 0 rfl)).at_ hr1
          injection hAq with hAq
          injection hAq with hbq hoq
          subst hbq hoq
          rw [Nat.zero_add] at f0 f1 f4
          have hfull := fun h => rowN_full (j := j + 1) HR.out hn96 h
          have afx := fun W (e : Ext W4 W) => after_any W _ x r.key.1 (j : Int) (HS.out.1.ext (hE.trans e)) HX.out.2.1 hkey.1 (HX.out.1.ext (hE.trans e))
          have afy := fun W (e : Ext W4 W) => after_any W _ y r.key.2 (j : Int) (HS.out.2.ext (hE.trans e)) HX.out.2.2 hkey.2.1 (HX.out.1.ext (hE.trans e))
          have hP' := HX.out.2.1.mask (aftM_lt HX.out.2.1 hkey.1 (j : Int))
          have hQ' := HX.out.2.2.mask (aftM_lt HX.out.2.2 hkey.2.1 (j : Int))
          have HQ := Lib.hid (And.intro hsucc (And.intro hr1 (And.intro hok1 (And.intro hkey (And.intro hfull (And.intro hO (And.intro hE (And.intro hle.out hln))))))))
          have f0 := fun w' (h : Ext W4 w') => h.cell f0
          have f1 := fun w' (h : Ext W4 w') => h.cell f1
          have f4 := fun w' (h : Ext W4 w') => h.cell f4
          have p0 := fun w' (h : Ext W4 w') => p0 w' ((hE).trans h)
          have p1 := fun w' (h : Ext W4 w') => p1 w' ((hE).trans h)
          have p2 := fun w' (h : Ext W4 w') => p2 w' ((hE).trans h)
          have p3 := fun w' (h : Ext W4 w') => p3 w' ((hE).trans h)
          have q0 := fun w' (h : Ext W4 w') => q0 w' ((hE).trans h)
          have q1 := fun w' (h : Ext W4 w') => q1 w' ((hE).trans h)
          have q2 := fun w' (h : Ext W4 w') => q2 w' ((hE).trans h)
          have q3 := fun w' (h : Ext W4 w') => q3 w' ((hE).trans h)
          have hE4 := Ext.refl W4
          have hle4 := hle.out
          have hnI4 : (n : Int) < ((rowN x y n j r.key).length : Int) := by omega
          clear hsucc hr1 hok1 hkey hfull hO hE hle hln
          generalize hP : aftM x r.key.1 (j : Int) = P at *
          generalize hQQ : aftM y r.key.2 (j : Int) = Q at *
          have HPQ := Lib.hid (And.intro hP hQQ)
          clear hP hQQ
          generalize r.key.1 = kp at *
          generalize r.key.2 = kq at *
          go_upto_region 21 with fail
          refine wp_region_ext 20 (factsOf [(8, fun v _ => v = .int .u64 P), (17, fun v _ => v = .int .u64 Q), (19, Fresh W4.heap.size #[.int .u64 0, .int .u64 0] 89)]) (fun k => ([[], [], [], [1, 2], [1, 2, 3], [1, 2, 3, 4], [1, 2, 3, 4, 5], [], [0, 1, 2, 3, 4, 5, 6, 7], [], [], [], [10, 11], [10, 11, 12], [10, 11, 12, 13], [10, 11, 12, 13, 14], [], [0, 1, 2, 3, 4, 5, 6, 7, 8, 9, 10, 11, 12, 13, 14, 15, 16], [0, 1, 2, 3, 4, 5, 6, 7, 8, 9, 10, 11, 12, 13, 14, 15, 16, 17], [], [0, 1, 2, 3, 4, 5, 6, 7, 8, 9, 10, 11, 12, 13, 14, 15, 16, 17, 18, 19]] : List (List Nat)).getD k []) (by kernel_rfl) (by kernel_rfl) Ext.pre (mono_cons (stays_eq _) (mono_cons (stays_eq _) (mono_cons (stays_fresh _ _ _) (mono_nil)))) ?_
          simp only [List.take_succ_cons, List.take_zero]
          repeat (first | (with_reducible refine lexL_quiet' (v := ?_) ?_ ?_ ?_ ?_; rotate_left; (· with_reducible rfl); (· simp [factsOf]); (· intro w1 hw1 _; go_simp; with_reducible rfl); (try simp only [Act.put, List.setIfInBounds_toArray, List.set_cons_zero, List.set_cons_succ])) | (with_reducible refine lexL_skip ?_ ?_; (· simp [Region.wanted, yielded, undef]); (try simp only [Act.put, List.setIfInBounds_toArray, List.set_cons_zero, List.set_cons_succ])) | (with_reducible refine lexL_quiet (v := ?_) ?_ ?_ ?_ ?_; rotate_left; (· simp [Region.wanted, yielded, undef]); (· simp [factsOf]); (· intro w1 hw1 _; go_simp; with_reducible rfl); (try simp only [Act.put, List.setIfInBounds_toArray, List.set_cons_zero, List.set_cons_succ])))
          with_reducible refine lexL_give' (φ := ?_) ?_ ?_ ?_ ?_; rotate_left; (· with_reducible rfl); (· simp only [factsOf, Nat.reduceAdd, ↓reduceIte, Nat.reduceEqDiff]; rfl)
          · intro w5 hw5 _
            go_simp
            refine (afx w5 hw5).mono ?_
            rintro e w6 ⟨rfl, e6⟩
            exact ⟨_, rfl, e6, rfl⟩
          rintro v7 w5 hw5 rfl hk2
          clear hk2 hw5 w5
          (try simp only [Act.put, List.setIfInBounds_toArray, List.set_cons_zero, List.set_cons_succ])
          repeat (first | (with_reducible refine lexL_quiet' (v := ?_) ?_ ?_ ?_ ?_; rotate_left; (· with_reducible rfl); (· simp [factsOf]); (· intro w1 hw1 _; go_simp; with_reducible rfl); (try simp only [Act.put, List.setIfInBounds_toArray, List.set_cons_zero, List.set_cons_succ])) | (with_reducible refine lexL_skip ?_ ?_; (· simp [Region.wanted, yielded, undef]); (try simp only [Act.put, List.setIfInBounds_toArray, List.set_cons_zero, List.set_cons_succ])) | (with_reducible refine lexL_quiet (v := ?_) ?_ ?_ ?_ ?_; rotate_left; (· simp [Region.wanted, yielded, undef]); (· simp [factsOf]); (· intro w1 hw1 _; go_simp; with_reducible rfl); (try simp only [Act.put, List.setIfInBounds_toArray, List.set_cons_zero, List.set_cons_succ])))
          with_reducible refine lexL_give' (φ := ?_) ?_ ?_ ?_ ?_; rotate_left; (· with_reducible rfl); (· simp only [factsOf, Nat.reduceAdd, ↓reduceIte, Nat.reduceEqDiff]; rfl)
          · intro w5 hw5 _
            go_simp
            refine (afy w5 hw5).mono ?_
            rintro e w6 ⟨rfl, e6⟩
            exact ⟨_, rfl, e6, rfl⟩
          rintro v7 w5 hw5 rfl hk2
          clear hk2 hw5 w5
          (try simp only [Act.put, List.setIfInBounds_toArray, List.set_cons_zero, List.set_cons_succ])
          repeat (first | (with_reducible refine lexL_quiet' (v := ?_) ?_ ?_ ?_ ?_; rotate_left; (· with_reducible rfl); (· simp [factsOf]); (· intro w1 hw1 _; go_simp; with_reducible rfl); (try simp only [Act.put, List.setIfInBounds_toArray, List.set_cons_zero, List.set_cons_succ])) | (with_reducible refine lexL_skip ?_ ?_; (· simp [Region.wanted, yielded, undef]); (try simp only [Act.put, List.setIfInBounds_toArray, List.set_cons_zero, List.set_cons_succ])) | (with_reducible refine lexL_quiet (v := ?_) ?_ ?_ ?_ ?_; rotate_left; (· simp [Region.wanted, yielded, undef]); (· simp [factsOf]); (· intro w1 hw1 _; go_simp; with_reducible rfl); (try simp only [Act.put, List.setIfInBounds_toArray, List.set_cons_zero, List.set_cons_succ])))
          with_reducible refine lexL_give' (φ := ?_) ?_ ?_ ?_ ?_; rotate_left; (· with_reducible rfl); (· simp only [factsOf, Nat.reduceAdd, ↓reduceIte, Nat.reduceEqDiff]; rfl)
          · intro w2' hw2' _
            go_simp
            exact (fresh_alloc _ _ _ _ hw2'.size).2
          rintro v8 w2' hw2' ⟨b18, rfl, hb18, hblk8⟩ hk2
          clear hk2 hw2' hblk8 w2'
          (try simp only [Act.put, List.setIfInBounds_toArray, List.set_cons_zero, List.set_cons_succ])
          with_reducible refine lexL_nil ?_; intro w1 hw1 hk1; simp only [List.drop_succ_cons, List.drop_zero]
          obtain ⟨c8, h8, g8, hB8⟩ := hk1.get 19 rfl rfl
          obtain rfl : c8 = b18 := by cases h8; rfl
          clear hk1 h8 g8 afx afy
          go_upto_region 22 with (with_reducible refine wpList_store_blk _ rfl 89 _ _ rfl c8 89 _ _ rfl rfl hB8 (by kernel_rfl) (by kernel_rfl) (by kernel_rfl) ?_; intro W5 h5 g5)
          have e5 : Ext W4 W5 := Below.grown hw1 g5 hw1.size (fun k hk => by cases hk; exact hb18)
          have hO5 : OwnL W0 W5 [.blk c8 (.cells #[.int .u64 P, .int .u64 Q] 89), .row 91 5 (.slice (some ⟨gl2, 0, none⟩) (rowN x y n j r.key).length cl2) (rowN x y n j r.key).length ((rowN x y n j r.key).flatMap fdCells), .blk gm om2] := HQ.out.2.2.2.2.2.1.add e5 (A := .blk c8 (.cells #[.int .u64 P, .int .u64 Q] 89)) ⟨hb18, h5⟩
          have d0 := cell_of_blk (hO5.get 0 rfl).2 0 (u := .int .u64 P) rfl
          have d1 := cell_of_blk (hO5.get 0 rfl).2 1 (u := .int .u64 Q) rfl
          have hpk : pairOK (P, Q) := ⟨hP', hQ'⟩
          have hlk := set_lookup key89 Tryd.underlying93 (zero4 W5) (hO5.get 2 rfl).2 hm hpk (v := .agg #[.int .u64 P, .int .u64 Q]) rfl
          have HE5 := Lib.hid hO5
          have hADD : Hid (rowN x y n (j + 1) r.key = addB (rootC x y) okC (rowN x y n j r.key) n ((j : Int), (P, Q))) := Lib.hid (by first | exact HQ.out.1 | rw [HQ.out.1, HPQ.out.1, HPQ.out.2])
          have hSK : Hid ((!okC (P, Q) || inB (rowN x y n j r.key) (P, Q)) = true → rowN x y n (j + 1) r.key = rowN x y n j r.key) := Lib.hid (fun h => by rw [hADD.out]; unfold addB; rw [if_pos h])
          clear hO5 h5 g5 hB8 hw1 w1 e5 hE4 hb18
          by_cases hP0 : P = 0
          · have HS2 := Lib.hid (hSK.out (by unfold okC; simp [hP0]))
            subst hP0
            go_wp2
            go_roundw
            case rel => exact ⟨j + 1, om2, gl2, cl2, by go_num, hjl, Lib.hid (by rw [HS2.out]; exact HQ.out.2.2.2.2.2.2.2.1), by rw [HS2.out], by rw [HS2.out]; exact hm, by rw [HS2.out]; exact HE5.out.drop⟩
            case measure => simp [intOf]; omega
          have hPz : ((P : Int) == 0) = false := by simp; omega
          by_cases hQ0 : Q = 0
          · have HS2 := Lib.hid (hSK.out (by unfold okC; simp [hQ0]))
            subst hQ0
            go_wp2
            go_roundw
            case rel => exact ⟨j + 1, om2, gl2, cl2, by go_num, hjl, Lib.hid (by rw [HS2.out]; exact HQ.out.2.2.2.2.2.2.2.1), by rw [HS2.out], by rw [HS2.out]; exact hm, by rw [HS2.out]; exact HE5.out.drop⟩
            case measure => simp [intOf]; omega
          have hQz : ((Q : Int) == 0) = false := by simp; omega
          have hokc : okC (P, Q) = true := by unfold okC; simp [hP0, hQ0]
          cases hin : inB (rowN x y n j r.key) (P, Q) with
          | true =>
            have HS2 := Lib.hid (hSK.out (by rw [hin]; simp))
            have hmem := inB_iff.1 hin
            simp only [hmem, decide_true] at hlk
            clear hmem
            clear hin hP0 hQ0 hokc
            go_wp2
            go_roundw
            case rel => exact ⟨j + 1, om2, gl2, cl2, by go_num, hjl, Lib.hid (by rw [HS2.out]; exact HQ.out.2.2.2.2.2.2.2.1), by rw [HS2.out], by rw [HS2.out]; exact hm, by rw [HS2.out]; exact HE5.out.drop⟩
            case measure => simp [intOf]; omega
          | false =>
            have hnin : (P, Q) ∉ (rowN x y n j r.key).map Fd.key := fun h => by rw [inB_iff.2 h] at hin; cases hin
            simp only [hnin, decide_false] at hlk
            have hNEW : Hid (rowN x y n (j + 1) r.key = rowN x y n j r.key ++ [newB r n ((j : Int), (P, Q))]) := Lib.hid (by
              rw [hADD.out]; unfold addB; rw [if_neg (by rw [hokc, hin]; simp), fd_get HQ.out.2.1])
            have HNI := Lib.hid hnin
            clear hin hP0 hQ0 hokc hnin
            by_cases hbig : (rowN x y n j r.key).length = 4096
            · have hf1 : (((rowN x y n j r.key).length : Int) == 4096) = true := by rw [hbig]; rfl
              have HT3 : Hid (confT x y = (false, [], 0, 3)) := Lib.hid (by
                unfold confT
                rw [if_pos (HQ.out.2.2.2.2.1 (by rw [hNEW.out, List.length_append, hbig]; simp))])
              clear hbig
              go_wp2
              refine bodyPost_ret (results_tmp4 rfl _ _ _) rfl ?_
              unfold ConfP
              rw [HT3.out]
              exact ⟨_, rfl, fit_nil _, HX0.out.trans HE5.out.ext⟩
            · have hf1 : (((rowN x y n j r.key).length : Int) == 4096) = false := by simp; omega
              have hle5 : (rowN x y n j r.key).length ≤ 4095 := by omega
              obtain ⟨W6, om3, hrun, hm6, hO6, hg6⟩ := HE5.out.setPut 2 rfl hm key89 Tryd.underlying93 hpk HNI.out (v := .agg #[.int .u64 P, .int .u64 Q]) rfl
              have hO6 : OwnL W0 W6 [.blk c8 (.cells #[.int .u64 P, .int .u64 Q] 89), .row 91 5 (.slice (some ⟨gl2, 0, none⟩) (rowN x y n j r.key).length cl2) (rowN x y n j r.key).length ((rowN x y n j r.key).flatMap fdCells), .blk gm om3] := hO6
              clear hbig
              go_upto_region 26 with fail
              clear hrun hlk d0 d1
              have d0 := cell_of_blk (hO6.get 0 rfl).2 0 (u := .int .u64 P) rfl
              have d1 := cell_of_blk (hO6.get 0 rfl).2 1 (u := .int .u64 Q) rfl
              have d0 := fun w' (h : Ext W6 w') => h.cell d0
              have d1 := fun w' (h : Ext W6 w') => h.cell d1
              have f4 : W6.cell? ⟨gl2, n * 5 + 4, none⟩ = some (.int .i64 r.ln) := by
                obtain ⟨bq, oq, hAq, _, _, _, _, f4⟩ := (fds_own (hO6.get 1 rfl)).at_ HQ.out.2.1
                injection hAq with hAq
                injection hAq with hbq hoq
                subst hbq hoq
                rw [Nat.zero_add] at f4
                exact f4
              have f4 := fun w' (h : Ext W6 w') => h.cell f4
              have hln := HQ.out.2.2.2.2.2.2.2.2
              obtain ⟨hln0, hln1, _, _⟩ := hln
              have hwl : IntKind.i64.wrap (r.ln + 1) = r.ln + 1 := by rw [IntKind.wrap_i64]; omega
              have hE6 := Ext.refl W6
              have hsz6 := hO6.ext.size
              have HO6 := Lib.hid hO6
              clear hO6 hm
              refine wp_region_ext 12 (factsOf [(11, FreshS W6.heap.size #[.int .u64 P, .int .u64 Q, .int .i64 (n : Int), .int .i64 (j : Int), .int .i64 (r.ln + 1)] 91)]) (fun k => ([[], [], [], [], [], [], [4, 5], [4, 5, 6], [4, 5, 6, 7], [4, 5, 6, 7, 8], [1, 2, 3, 4, 5, 6, 7, 8, 9], [1, 2, 3, 4, 5, 6, 7, 8, 9, 10], [0, 1, 2, 3, 4, 5, 6, 7, 8, 9, 10, 11], [0, 1, 2, 3, 4, 5, 6, 7, 8, 9, 10, 11, 12]] : List (List Nat)).getD k []) (by kernel_rfl) (by kernel_rfl) Ext.pre (mono_cons (stays_freshS _ _ _) (mono_nil)) ?_
              simp only [List.take_succ_cons, List.take_zero]
              repeat (first | (with_reducible refine lexL_quiet' (v := ?_) ?_ ?_ ?_ ?_; rotate_left; (· with_reducible rfl); (· simp [factsOf]); (· intro w1 hw1 _; go_simp; with_reducible rfl); (try simp only [Act.put, List.setIfInBounds_toArray, List.set_cons_zero, List.set_cons_succ])) | (with_reducible refine lexL_skip ?_ ?_; (· simp [Region.wanted, yielded, undef]); (try simp only [Act.put, List.setIfInBounds_toArray, List.set_cons_zero, List.set_cons_succ])) | (with_reducible refine lexL_quiet (v := ?_) ?_ ?_ ?_ ?_; rotate_left; (· simp [Region.wanted, yielded, undef]); (· simp [factsOf]); (· intro w1 hw1 _; go_simp; with_reducible rfl); (try simp only [Act.put, List.setIfInBounds_toArray, List.set_cons_zero, List.set_cons_succ])))
              with_reducible refine lexL_give' (φ := ?_) ?_ ?_ ?_ ?_; rotate_left; (· with_reducible rfl); (· simp only [factsOf, Nat.reduceAdd, ↓reduceIte, Nat.reduceEqDiff]; rfl)
              · intro w2' hw2' _
                go_simp
                exact ⟨_, rfl, hw2'.size, heap_alloc_new w2' _⟩
              rintro v4 w2' hw2' ⟨b4, rfl, hb4, hblk4⟩ hk2
              clear hk2 hw2' hblk4 w2'
              (try simp only [Act.put, List.setIfInBounds_toArray, List.set_cons_zero, List.set_cons_succ])
              with_reducible refine lexL_nil ?_; intro w1 hw1 hk1; simp only [List.drop_succ_cons, List.drop_zero]
              obtain ⟨c4, h3, g4, hB4⟩ := hk1.get 11 rfl rfl
              obtain rfl : c4 = b4 := by injection h3 with h3; injection h3 with h3; injection h3 with h3; exact h3.symm
              clear hk1 h3 g4 hwl f4 d0 d1 hE6
              have hO7 := HO6.out.trans hw1
              have hown := hO7.get 1 rfl
              have hsz7 := hO7.ext.size
              have HO7 := Lib.hid hO7
              have hnews := blk5 hB4
              clear hO7 hw1
              go_wp2_with (at_builtin; refine wpList_append_own2 rfl _ _ 92 rfl W0.heap.size 91 i91 (.agg #[.int .u64 0, .int .u64 0, .int .i64 0, .int .i64 0, .int .i64 0]) 5 40 Tryd.underlying92 hi91 hz91 hs91 hb91 rfl (by decide) (.slice (some ⟨gl2, 0, none⟩) (rowN x y n j r.key).length cl2) (rowN x y n j r.key).length ((rowN x y n j r.key).flatMap fdCells) rfl hown ⟨c4, 0, none⟩ 1 1 [.int .u64 P, .int .u64 Q, .int .i64 (n : Int), .int .i64 (j : Int), .int .i64 (r.ln + 1)] rfl rfl hnews (five_cells _ _ _ _ _) (by unfold maxLen; omega) (by omega) hsz7 ?_; intro v6 w6 hown6 hg6 hb6)
              have hO8 := HO7.out.app 1 rfl hg6 hown6 hb6
              obtain ⟨g6, c6, rfl⟩ := ownsRow_pos hown6 (by omega)
              have hfl : (rowN x y n (j + 1) r.key).flatMap fdCells = (rowN x y n j r.key).flatMap fdCells ++ [.int .u64 P, .int .u64 Q, .int .i64 (n : Int), .int .i64 (j : Int), .int .i64 (r.ln + 1)] := by rw [hNEW.out, List.flatMap_append]; rfl
              have hll : (rowN x y n (j + 1) r.key).length = (rowN x y n j r.key).length + 1 := by rw [hNEW.out, List.length_append]; rfl
              have HF := Lib.hid (And.intro hfl hll)
              have hO8 : OwnL W0 w6 [.row 91 5 (.slice (some ⟨g6, 0, none⟩) (rowN x y n (j + 1) r.key).length c6) (rowN x y n (j + 1) r.key).length ((rowN x y n (j + 1) r.key).flatMap fdCells), .blk gm om3] := by
                rw [hfl, hll]
                exact OwnL.drop hO8
              have hm7 : SetOf pairV pairOK om3 ((rowN x y n (j + 1) r.key).map Fd.key) := by rw [hNEW.out, List.map_append]; exact hm6
              have HO8 := Lib.hid (And.intro hO8 hm7)
              clear hfl hll hO8 hm7 hm6
              go_roundw
              case rel => exact ⟨j + 1, om3, g6, c6, by go_num, hjl, Lib.hid (by rw [HF.out.2]; omega), by rw [HF.out.2], HO8.out.2, by rw [← HF.out.2]; exact HO8.out.1⟩
              case measure => simp [intOf]; omega
        · obtain rfl : j = x.I + x.O + 1 := by omega
          have hltI : ¬ ((x.I + x.O + 1 : Nat) : Int) < x.ins + x.outs + 1 := by have := HII.out; omega
          have hall := rowN_all HR.out
          have hpr := (rowN_pre HR.out 0).2.length_le
          rw [hall] at hm hle
          have hO : OwnL W0 W4 [.row 91 5 (.slice (some ⟨gl2, 0, none⟩) (goC x y (n + 1)).length cl2) (goC x y (n + 1)).length ((goC x y (n + 1)).flatMap fdCells), .blk gm om2] := by rw [← hall]; exact hO
          have HALL := Lib.hid hall
          have HF := Lib.hid (And.intro hle.out (And.intro hm hO))
          have HNL : Hid (n + 1 ≤ (goC x y (n + 1)).length) := Lib.hid (by have h2 : (goC x y n).length ≤ (goC x y (n + 1)).length := hpr; omega)
          clear hall hm hO hE hle hpr
          go_wp2
          go_roundw
          case rel => exact ⟨n + 1, om2, gl2, cl2, by go_num, Lib.hid ⟨HNL.out, HF.out.1⟩, by rw [HALL.out], HF.out.2.1, by rw [HALL.out]; exact HF.out.2.2⟩
          case measure => simp [intOf]; omega
    · have hnn : n = (goC x y n).length := by have := hle.out; omega
      have hend := goC_end hnn hle.out.2
      have hnI : ¬ (n : Int) < ((goC x y n).length : Int) := by omega
      have hT2 : Hid (confT x y = confG x y) := Lib.hid (by unfold confT; rw [if_neg (by rw [hend]; have := hle.out.2; omega)])
      have hF := fds_own (hO.get 0 rfl)
      obtain ⟨_, c14', hv14, hnc, _⟩ := cells_of_owns (hO.get 0 rfl)
      cases hv14
      have HF := Lib.hid (And.intro hF (And.intro hle.out (And.intro hend hO.ext)))
      have HNC := Lib.hid hnc
      clear hnn hend hle hm hO hE hF hnc
      go_upto_region 999 with (with_reducible refine stop_at2 28 ?_)
      refine ⟨?_⟩
      obtain ⟨hF, hle, hend, hE⟩ := HF.out
      have hnc := HNC.out
      rw [hT2.out]
      rw [← hend] at hF hle hnc ⊢
      exact conf_t28 w W2 b11 b12 x y _ _ _ _ _ _ _ _ _ _ _ _ _ _ _ _ _ _ _ _ _ _ _ _ _ _ _ _ _ _ _ _ _ _ _ _ _ _ _ _ _ _ _ _ _ _ _ _ _ _ _ _ _ _ _ _ _ _ _ _ _ _ _ _ _ _ _ _ _ _ _ _ _ _ _ _ _ _ _ _ _ _ _ _ _ _ _ _ _ _ _ _ _ _ _ _ _ _ _ _ _ _ _ _ _ _ _ _ _ _ _ _ _ _ _ _ _ _ _ _ _ _ _ _ _ _ _ _ _ _ _ _ _ _ _ _ _ _ _ _ _ _ _ _ _ _ _ _ _ _ _ _ _ _ _ _ _ _ _ _ _ (HX0.out.trans hE) (HX.out.1.ext hE) HX.out.2.1 HX.out.2.2 (HBX.out.1.ext hE) (HBX.out.2.ext hE) hF hle.2 hnc
end Go.Proofs.YtamodjlifpjaoaaDoor

namespace Go.Proofs.YtamodjlifpjaoaaDoor.Dis
open Go.RowKit
set_option linter.unusedVariables false
set_option linter.unusedSimpArgs false
/-- The block that a value points to. -/
def blkP : Value → Option Nat
  | .pointer (some ⟨b, _, _⟩) => some b
  | .slice (some ⟨b, _, _⟩) _ _ => some b
  | .map (some b) => some b
  | _ => none
section
variable {P : Program} {ops : Array Oper} {md : Region.Mode} {W0 : World} {Φ : Facts} {A : Nat → List Nat} {R : World → World → Prop} {D : List Nat}
def Grows (R : World → World → Prop) : Prop := ∀ w w', R w w' → w.heap.size ≤ w'.heap.size
/-- Number k makes a block. -/
def Nw (D : List Nat) (k : Nat) (w : World) (v : Value) (w' : World) : Prop := k ∈ D → ∃ b, blkP v = some b ∧ w.heap.size ≤ b ∧ b < w'.heap.size
/-- The blocks that the operations D have made lie, and are apart. -/
def Jn (D : List Nat) (F : Vals) (w : World) : Prop := (∀ i ∈ D, ∀ v, F i = some v → ∃ b, blkP v = some b ∧ b < w.heap.size) ∧ ∀ i ∈ D, ∀ j ∈ D, i ≠ j → ∀ u v, F i = some u → F j = some v → blkP u ≠ blkP v
def KnowsD (D : List Nat) (Φ : Facts) (F : Vals) (w : World) : Prop := KnowsAll Φ F w ∧ Jn D F w
def MetD (D : List Nat) (R : World → World → Prop) (W0 : World) (Φ : Facts) (F : Vals) : Prop := ∃ w, R W0 w ∧ KnowsD D Φ F w
theorem KnowsD.knows {F : Vals} {w : World} (h : KnowsD D Φ F w) (L : List Nat) : Knows Φ F L w := h.1.knows L
theorem KnowsD.get {F : Vals} {w : World} (h : KnowsD D Φ F w) (i : Nat) {φ : Value → World → Prop} {v : Value} (hΦ : Φ i = some φ) (hF : F i = some v) : φ v w := h.1 i φ v hΦ hF
theorem KnowsD.apart {F : Vals} {w : World} (h : KnowsD D Φ F w) (i j : Nat) (hi : i ∈ D) (hj : j ∈ D) (hij : i ≠ j) {u v : Value} (hu : F i = some u) (hv : F j = some v) : blkP u ≠ blkP v := h.2.2 i hi j hj hij u v hu hv
theorem KnowsD.back {F : Vals} {w : World} {i : Nat} {v : Value} (h : KnowsD D Φ (F.put i v) w) (hF : F i = none) : KnowsD D Φ F w := by
  have e : ∀ j u, F j = some u → (F.put i v) j = some u := fun j u hu => by
    unfold Vals.put
    split
    · rename_i e; subst e; rw [hF] at hu; cases hu
    · exact hu
  exact ⟨h.1.back hF, fun j hj u hu => h.2.1 j hj u (e j u hu), fun j hj k hk hne u u' hu hu' => h.2.2 j hj k hk hne u u' (e j u hu) (e k u' hu')⟩
theorem KnowsD.step (hM : Mono R Φ) (hS : Grows R) {F : Vals} {w w' : World} (h : KnowsD D Φ F w) (e : R w w') {i : Nat} {v : Value} (hv : ∀ φ, Φ i = some φ → φ v w') (hn : Nw D i w v w') : KnowsD D Φ (F.put i v) w' := by
  have hs := hS w w' e
  refine ⟨(h.1.ext hM e).put hv, fun j hj u hu => ?_, fun j hj k hk hne u u' hu hu' => ?_⟩
  · unfold Vals.put at hu
    split at hu
    · rename_i e1; subst e1; cases hu
      obtain ⟨b, h1, _, h2⟩ := hn hj
      exact ⟨b, h1, h2⟩
    · obtain ⟨b, h1, h2⟩ := h.2.1 j hj u hu
      exact ⟨b, h1, by omega⟩
  · unfold Vals.put at hu hu'
    split at hu <;> split at hu'
    · rename_i e1 e2; exact absurd (e1.trans e2.symm) hne
    · rename_i e1 e2; subst e1; cases hu
      obtain ⟨b, h1, h2, _⟩ := hn hj
      obtain ⟨b', h3, h4⟩ := h.2.1 k hk u' hu'
      intro he
      rw [h1, h3] at he
      cases he; omega
    · rename_i e1 e2; subst e2; cases hu'
      obtain ⟨b, h1, h2, _⟩ := hn hk
      obtain ⟨b', h3, h4⟩ := h.2.1 j hj u hu
      intro he
      rw [h1, h3] at he
      cases he; omega
    · exact h.2.2 j hj k hk hne u u' hu hu'

/-- One operation, in the class of worlds. -/
def opL (D : List Nat) (R : World → World → Prop) (P : Program) (ops : Array Oper) (W0 : World) (Φ : Facts) (A : Nat → List Nat) (i : Nat) (K : Vals → Act → Prop) (F : Vals) (a : Act) : Prop :=
  match ops[i]? with
  | none => K F a
  | some o =>
    if Region.wanted o (yielded ops a.tmps) then
      match Φ i with
      | none => ∃ v, (∀ w, R W0 w → Knows Φ F (A i) w → Oper.quietV P o a w v) ∧ K F (a.put o.dst v)
      | some φ => (∀ w, R W0 w → Knows Φ F (A i) w → Oper.gives R P o a w (fun v w' => φ v w' ∧ Nw D i w v w')) ∧ ∀ v, MetD D R W0 Φ (F.put i v) → K (F.put i v) (a.put o.dst v)
    else K F (a.put o.dst undef)

theorem opL_mono {i : Nat} {K K' : Vals → Act → Prop} {F : Vals} {a : Act} (hm : MetD D R W0 Φ F) (h : ∀ F' a', MetD D R W0 Φ F' → (∀ k, k ≠ i → F' k = F k) → K F' a' → K' F' a') (hh : opL D R P ops W0 Φ A i K F a) : opL D R P ops W0 Φ A i K' F a := by
  unfold opL at *
  split
  · rename_i ho; simp only [ho] at hh; exact h _ _ hm (fun _ _ => rfl) hh
  · rename_i o ho
    simp only [ho] at hh
    split
    · rename_i hw
      simp only [hw, if_true] at hh
      split
      · rename_i hp
        simp only [hp] at hh
        obtain ⟨v, h1, h2⟩ := hh
        exact ⟨v, h1, h _ _ hm (fun _ _ => rfl) h2⟩
      · rename_i φ hp
        simp only [hp] at hh
        exact ⟨hh.1, fun v hv => h _ _ hv (fun k hk => by unfold Vals.put; rw [if_neg hk]) (hh.2 v hv)⟩
    · rename_i hw
      simp only [hw, if_false, Bool.false_eq_true] at hh
      exact h _ _ hm (fun _ _ => rfl) hh

/-- Whatever order is picked, up to the tail that begins at n. -/
def anyL (D : List Nat) (R : World → World → Prop) (P : Program) (md : Region.Mode) (ops : Array Oper) (W0 : World) (Φ : Facts) (A : Nat → List Nat) (n g : Nat) (Q : Vals → Act → Prop) : Nat → Array Bool → Vals → Act → Prop
  | 0, listed, F, a => Region.seqB md ops g n listed = true ∧ Q F a
  | fuel + 1, listed, F, a => Region.ready md ops listed ≠ [] ∧ ∀ i ∈ Region.ready md ops listed, opL D R P ops W0 Φ A i (anyL D R P md ops W0 Φ A n g Q fuel (listed.setIfInBounds i true)) F a

/-- It is a wpAny, from every world of the class. -/
theorem wpAny_of_anyL {n g : Nat} {Q : Vals → Act → Prop} {Q' : Exit → Act → World → Prop} (hT : Pre R) (hS : Grows R) (hM : Mono R Φ) (hQ : ∀ listed F a w, R W0 w → KnowsD D Φ F w → Region.seqB md ops g n listed = true → Q F a → wpAny P md ops Q' g listed a w) :
    ∀ (fuel : Nat) (listed : Array Bool) (F : Vals) (a : Act) (w : World), R W0 w → KnowsD D Φ F w → anyL D R P md ops W0 Φ A n g Q fuel listed F a → wpAny P md ops Q' (fuel + g) listed a w
  | 0, listed, F, a, w, hw, hk, h => by rw [Nat.zero_add]; exact hQ listed F a w hw hk h.1 h.2
  | fuel + 1, listed, F, a, w, hw, hk, h => by
    rw [Nat.add_right_comm]
    refine ⟨fun h0 => absurd h0 h.1, fun i hi => ?_⟩
    have h1 := h.2 i hi
    unfold opL at h1
    unfold wpOp
    split
    · rename_i ho; simp only [ho] at h1; exact wpAny_of_anyL hT hS hM hQ fuel _ _ _ _ hw hk h1
    · rename_i o ho
      simp only [ho] at h1
      split
      · rename_i hwd
        simp only [hwd, if_true] at h1
        left
        split at h1
        · obtain ⟨v, h2, h3⟩ := h1
          exact wp_of_quietV (h2 w hw (hk.knows _)) (wpAny_of_anyL hT hS hM hQ fuel _ _ _ _ hw hk h3)
        · rename_i φ hp
          refine wp_of_gives (h1.1 w hw (hk.knows _)) fun v w' he hφ => ?_
          have hw' := hT.trans hw he
          have hk' := hk.step hM hS he (i := i) (v := v) (fun φ' h' => by rw [hp] at h'; cases h'; exact hφ.1) hφ.2
          exact wpAny_of_anyL hT hS hM hQ fuel _ _ _ _ hw' hk' (h1.2 v ⟨w', hw', hk'⟩)
      · rename_i hwd
        simp only [hwd, if_false, Bool.false_eq_true] at h1
        exact wpAny_of_anyL hT hS hM hQ fuel _ _ _ _ hw hk h1

/-- **An operation that may come up now may be taken first.** -/
theorem anyL_first {n g i : Nat} {oi : Oper} {Q : Vals → Act → Prop} (hT : Pre R) (hS : Grows R) (hM : Mono R Φ) (hi : ops[i]? = some oi) (hsel : ∀ (j : Nat) (o : Oper) cs b, ops[j]? = some o → o.op ≠ .select cs b) (hA : ancB md ops A n = true) (hin : i < n) :
    ∀ (fuel : Nat) (listed : Array Bool) (F : Vals) (a : Act), MetD D R W0 Φ F → (∀ k, listed.getD k true = false → F k = none) → Closed md ops A n listed →
      (∀ j oj, ops[j]? = some oj → j ≠ i → listed.getD j true = false → (∀ e ∈ oj.after, Region.binds md e = true → e.on ≠ i) → oi.apart ops oj = true) →
      i ∈ Region.ready md ops listed → opL D R P ops W0 Φ A i (anyL D R P md ops W0 Φ A n g Q fuel (listed.setIfInBounds i true)) F a →
      anyL D R P md ops W0 Φ A n g Q (fuel + 1) listed F a := by
  intro fuel
  induction fuel with
  | zero =>
    intro listed F a hm hN hc hfree hr H
    refine ⟨fun h => (by rw [h] at hr; cases hr), fun j hj => ?_⟩
    by_cases hji : j = i
    · subst hji; exact H
    · exfalso
      have hj' := ready_mono hj hji
      -- after i, the tail begins: so j is no less than n
      have hs : Region.seqB md ops g n (listed.setIfInBounds i true) = true := by
        unfold opL at H
        simp only [hi] at H
        split at H
        · split at H
          · obtain ⟨_, _, h⟩ := H; exact h.1
          · rename_i φ hp
            obtain ⟨w, hw, hk⟩ := hm
            obtain ⟨v, w', he, hφ⟩ := gives_some (H.1 w hw (hk.knows _))
            exact (H.2 v ⟨w', hT.trans hw he, hk.step hM hS he (fun φ' h' => by rw [hp] at h'; cases h'; exact hφ.1) hφ.2⟩).1
        · exact H.1
      have hnj := seqB_ready hs j hj'
      have h1 := ancB_tail hA hc hj hnj hin
      have h0 := (mem_ready.1 hr).1
      rw [getD_both h0] at h1
      cases h1
  | succ fuel ih =>
    intro listed F a hm hN hc hfree hr H
    refine ⟨fun h => (by rw [h] at hr; cases hr), fun j hj => ?_⟩
    by_cases hji : j = i
    · subst hji; exact H
    · obtain ⟨hjun, oj, hoj, hall⟩ := mem_ready.1 hj
      have hiun := (mem_ready.1 hr).1
      have hnot : ∀ e ∈ oj.after, Region.binds md e = true → e.on ≠ i := fun e he hb heq => by
        have h1 := hall e he hb
        rw [heq, getD_both hiun] at h1
        cases h1
      have hap := hfree j oj hoj hji hjun hnot
      have hij : i ∉ A j := not_mem_of_ready hA hc hr hj
      have hjiA : j ∉ A i := not_mem_of_ready hA hc hj hr
      have hsi := fun cs b => hsel i oi cs b hi
      have hsj := fun cs b => hsel j oj cs b hoj
      have hr' := ready_mono hr (Ne.symm hji)
      have hj' := ready_mono hj hji
      have hc' := Closed.set hA hc hj
      have hfree' : ∀ k ok, ops[k]? = some ok → k ≠ i → (listed.setIfInBounds j true).getD k true = false →
          (∀ e ∈ ok.after, Region.binds md e = true → e.on ≠ i) → oi.apart ops ok = true := fun k ok hk hki hun hno => by
        refine hfree k ok hk hki ?_ hno
        by_cases hjk : j = k
        · subst hjk; exact hjun
        · rw [getD_set_ne true hjk] at hun; exact hun
      have hN' : ∀ F' : Vals, (∀ k, k ≠ j → F' k = F k) → ∀ k, (listed.setIfInBounds j true).getD k true = false → F' k = none := fun F' hF k hk => by
        by_cases hjk : j = k
        · subst hjk
          have hlt : j < listed.size := by
            rcases Nat.lt_or_ge j listed.size with h' | h'
            · exact h'
            · simp [Array.getElem?_eq_none h'] at hjun
          simp [hlt] at hk
        · rw [getD_set_ne true hjk] at hk
          rw [hF k (Ne.symm hjk)]; exact hN k hk
      -- what is to be shown of j, with 'i next' behind it
      suffices hh : opL D R P ops W0 Φ A j (fun F' a' => opL D R P ops W0 Φ A i (anyL D R P md ops W0 Φ A n g Q fuel ((listed.setIfInBounds j true).setIfInBounds i true)) F' a') F a by
        exact opL_mono hm (fun F' a' hm' hF hK => ih _ F' a' hm' (hN' F' hF) hc' hfree' hr' hK) hh
      have hcomm : (listed.setIfInBounds j true).setIfInBounds i true = (listed.setIfInBounds i true).setIfInBounds j true := Array.setIfInBounds_comm _ _ hji
      rw [hcomm]
      generalize hX : anyL D R P md ops W0 Φ A n g Q fuel ((listed.setIfInBounds i true).setIfInBounds j true) = X
      have HX : opL D R P ops W0 Φ A i (fun F' a' => opL D R P ops W0 Φ A j X F' a') F a := by
        refine opL_mono hm (fun F' a' _ _ h => ?_) H
        have h1 := h.2 j hj'
        rw [hX] at h1
        exact h1
      clear H hX ih
      -- the two orders
      have e0 := fun v => opL_put (ops := ops) (v := v) hap hsj a
      unfold opL at HX
      simp only [hi] at HX
      by_cases hwi : Region.wanted oi (yielded ops a.tmps) = true
      · simp only [hwi, if_true] at HX
        cases hpi : Φ i with
        | none =>
          simp only [hpi] at HX
          obtain ⟨v, hq, HX⟩ := HX
          have hq' : ∀ u F', (∀ k, k ≠ j → F' k = F k) → ∀ w, R W0 w → Knows Φ F' (A i) w → Oper.quietV P oi (a.put oj.dst u) w v := fun u F' hF w hw hk => by
            have := hq w hw (fun k hk' φ z h1 h2 => hk k hk' φ z h1 ((hF k (fun e => hjiA (e ▸ hk'))).trans h2))
            unfold Oper.quietV at this ⊢
            rw [((e0 v).2.2.2 u hsi).1]; exact this
          have fin : ∀ u F', (∀ k, k ≠ j → F' k = F k) → X F' ((a.put oj.dst u).put oi.dst v) → opL D R P ops W0 Φ A i X F' (a.put oj.dst u) := fun u F' hF h => by
            unfold opL
            simp only [hi, ((e0 v).2.2.2 u hsi).2, hwi, if_true, hpi]
            exact ⟨v, hq' u F' hF, h⟩
          unfold opL
          simp only [hoj] at HX ⊢
          rw [(e0 v).2.1] at HX
          split at HX
          · rename_i hwj
            rw [if_pos hwj]
            cases hpj : Φ j with
            | none =>
              simp only [hpj] at HX ⊢
              obtain ⟨u, h1, h2⟩ := HX
              refine ⟨u, fun w hw hk => ?_, ?_⟩
              · have := h1 w hw hk
                unfold Oper.quietV at this ⊢
                rwa [(e0 v).1] at this
              · rw [(e0 v).2.2.1] at h2
                have := fin u F (fun _ _ => rfl) h2
                unfold opL at this; exact this
            | some φ =>
              simp only [hpj] at HX ⊢
              refine ⟨fun w hw hk => ?_, fun u hu => ?_⟩
              · have := HX.1 w hw hk
                unfold Oper.gives at this ⊢
                rwa [(e0 v).1] at this
              · have h2 := HX.2 u hu
                rw [(e0 v).2.2.1] at h2
                have := fin u (F.put j u) (fun k hk => by unfold Vals.put; rw [if_neg hk]) h2
                unfold opL at this; exact this
          · rename_i hwj
            rw [if_neg hwj]
            rw [(e0 v).2.2.1] at HX
            have := fin undef F (fun _ _ => rfl) HX
            unfold opL at this; exact this
        | some φi =>
          simp only [hpi] at HX
          obtain ⟨hq, HX⟩ := HX
          obtain ⟨w0, hw0, hk0⟩ := hm
          obtain ⟨vs, ws, hes, hφs⟩ := gives_some (hq w0 hw0 (hk0.knows _))
          have hms : MetD D R W0 Φ (F.put i vs) := ⟨ws, hT.trans hw0 hes, hk0.step hM hS hes (fun φ' h' => by rw [hpi] at h'; cases h'; exact hφs.1) hφs.2⟩
          have hq' : ∀ u F', (∀ k, k ≠ j → F' k = F k) → ∀ w, R W0 w → Knows Φ F' (A i) w → Oper.gives R P oi (a.put oj.dst u) w (fun v w' => φi v w' ∧ Nw D i w v w') := fun u F' hF w hw hk => by
            have := hq w hw (fun k hk' φ z h1 h2 => hk k hk' φ z h1 ((hF k (fun e => hjiA (e ▸ hk'))).trans h2))
            unfold Oper.gives at this ⊢
            rw [((e0 vs).2.2.2 u hsi).1]; exact this
          have fin : ∀ u F', (∀ k, k ≠ j → F' k = F k) → (∀ v, MetD D R W0 Φ (F'.put i v) → X (F'.put i v) ((a.put oj.dst u).put oi.dst v)) → opL D R P ops W0 Φ A i X F' (a.put oj.dst u) := fun u F' hF h => by
            unfold opL
            simp only [hi, ((e0 vs).2.2.2 u hsi).2, hwi, if_true, hpi]
            exact ⟨hq' u F' hF, h⟩
          have Hs := HX vs hms
          unfold opL at Hs ⊢
          simp only [hoj] at Hs ⊢
          rw [(e0 vs).2.1] at Hs
          by_cases hwj : Region.wanted oj (yielded ops a.tmps) = true
          · rw [if_pos hwj] at Hs ⊢
            cases hpj : Φ j with
            | none =>
              simp only [hpj] at Hs ⊢
              obtain ⟨u, h1, _⟩ := Hs
              have hu : ∀ w, R W0 w → Knows Φ F (A j) w → Oper.quietV P oj a w u := fun w hw hk => by
                have := h1 w hw ((knows_put hij w).2 hk)
                unfold Oper.quietV at this ⊢
                rwa [(e0 vs).1] at this
              refine ⟨u, hu, ?_⟩
              have := fin u F (fun _ _ => rfl) (fun v hv => by
                have h2 := HX v hv
                unfold opL at h2
                simp only [hoj, (e0 v).2.1, hwj, if_true, hpj] at h2
                obtain ⟨u', h3, h4⟩ := h2
                have h5 : Oper.quietV P oj a w0 u' := by
                  have := h3 w0 hw0 ((knows_put hij w0).2 (hk0.knows _))
                  unfold Oper.quietV at this ⊢
                  rwa [(e0 v).1] at this
                have e1 : u' = u := Oper.quietV_one h5 (hu w0 hw0 (hk0.knows _))
                subst e1
                rw [(e0 v).2.2.1] at h4
                exact h4)
              unfold opL at this; exact this
            | some φ =>
              simp only [hpj] at Hs ⊢
              refine ⟨fun w hw hk => ?_, fun u hu => ?_⟩
              · have := Hs.1 w hw ((knows_put hij w).2 hk)
                unfold Oper.gives at this ⊢
                rwa [(e0 vs).1] at this
              · have hFj : ∀ k, k ≠ j → (F.put j u) k = F k := fun k hk => by unfold Vals.put; rw [if_neg hk]
                have := fin u (F.put j u) hFj (fun v hv => by
                  rw [Vals.put_comm F hji u v] at hv ⊢
                  have hv' : MetD D R W0 Φ (F.put i v) := by
                    obtain ⟨w1, hw1, hk1⟩ := hv
                    refine ⟨w1, hw1, hk1.back ?_⟩
                    unfold Vals.put
                    rw [if_neg hji]
                    exact hN j hjun
                  have h2 := HX v hv'
                  unfold opL at h2
                  simp only [hoj, (e0 v).2.1, hwj, if_true, hpj] at h2
                  have h4 := h2.2 u hv
                  rw [(e0 v).2.2.1] at h4
                  exact h4)
                unfold opL at this; exact this
          · rw [if_neg hwj] at Hs ⊢
            have := fin undef F (fun _ _ => rfl) (fun v hv => by
              have h2 := HX v hv
              unfold opL at h2
              simp only [hoj, (e0 v).2.1, hwj, if_false, Bool.false_eq_true] at h2
              rw [(e0 v).2.2.1] at h2
              exact h2)
            unfold opL at this; exact this
      · simp only [hwi, if_false, Bool.false_eq_true] at HX
        have fin : ∀ u F', X F' ((a.put oj.dst u).put oi.dst undef) → opL D R P ops W0 Φ A i X F' (a.put oj.dst u) := fun u F' h => by
          unfold opL
          simp only [hi, ((e0 undef).2.2.2 u hsi).2, hwi, if_false, Bool.false_eq_true]
          exact h
        unfold opL
        simp only [hoj] at HX ⊢
        rw [(e0 undef).2.1] at HX
        split at HX
        · rename_i hwj
          rw [if_pos hwj]
          cases hpj : Φ j with
          | none =>
            simp only [hpj] at HX ⊢
            obtain ⟨u, h1, h2⟩ := HX
            refine ⟨u, fun w hw hk => ?_, ?_⟩
            · have := h1 w hw hk
              unfold Oper.quietV at this ⊢
              rwa [(e0 undef).1] at this
            · rw [(e0 undef).2.2.1] at h2
              have := fin u F h2
              unfold opL at this; exact this
          | some φ =>
            simp only [hpj] at HX ⊢
            refine ⟨fun w hw hk => ?_, fun u hu => ?_⟩
            · have := HX.1 w hw hk
              unfold Oper.gives at this ⊢
              rwa [(e0 undef).1] at this
            · have h2 := HX.2 u hu
              rw [(e0 undef).2.2.1] at h2
              have := fin u (F.put j u) h2
              unfold opL at this; exact this
        · rename_i hwj
          rw [if_neg hwj]
          rw [(e0 undef).2.2.1] at HX
          have := fin undef F HX
          unfold opL at this; exact this

/-- The walk in the order of the text. -/
def lexL (D : List Nat) (R : World → World → Prop) (P : Program) (ops : Array Oper) (W0 : World) (Φ : Facts) (A : Nat → List Nat) (Q : Vals → Act → Prop) : List Oper → Nat → Vals → Act → Prop
  | [], _, F, a => Q F a
  | o :: rest, k, F, a =>
    if Region.wanted o (yielded ops a.tmps) then
      match Φ k with
      | none => ∃ v, (∀ w, R W0 w → Knows Φ F (A k) w → Oper.quietV P o a w v) ∧ lexL D R P ops W0 Φ A Q rest (k + 1) F (a.put o.dst v)
      | some φ => (∀ w, R W0 w → Knows Φ F (A k) w → Oper.gives R P o a w (fun v w' => φ v w' ∧ Nw D k w v w')) ∧ ∀ v, MetD D R W0 Φ (F.put k v) → lexL D R P ops W0 Φ A Q rest (k + 1) (F.put k v) (a.put o.dst v)
    else lexL D R P ops W0 Φ A Q rest (k + 1) F (a.put o.dst undef)

theorem anyL_lex {n g : Nat} {Q : Vals → Act → Prop} (hT : Pre R) (hS : Grows R) (hM : Mono R Φ) (hsel : Region.noSelect ops = true) (hA : ancB md ops A n = true) :
    ∀ (l : List Oper) (k : Nat) (listed : Array Bool) (F : Vals) (a : Act), (∀ j, j < l.length → l[j]? = ops[k + j]?) → k + l.length = n → MetD D R W0 Φ F → (∀ k, listed.getD k true = false → F k = none) → Closed md ops A n listed →
    Region.lexHead md ops g l.length k listed = true → lexL D R P ops W0 Φ A Q l k F a → anyL D R P md ops W0 Φ A n g Q l.length listed F a
  | [], k, listed, F, a, _, hk, _, _, _, hB, h => by
    have : k = n := by simpa using hk
    subst this
    exact ⟨by simpa [Region.lexHead] using hB, h⟩
  | o :: l, k, listed, F, a, hl, hk, hm, hN, hc, hB, h => by
    have h0 : ops[k]? = some o := by simpa using (hl 0 (by simp)).symm
    simp only [List.length_cons, Region.lexHead, Bool.and_eq_true] at hB
    obtain ⟨⟨hr, hf⟩, hB'⟩ := hB
    have hkn : k < n := by simp only [List.length_cons] at hk; omega
    have hr' : k ∈ Region.ready md ops listed := by simpa using hr
    have hst : opL D R P ops W0 Φ A k (lexL D R P ops W0 Φ A Q l (k + 1)) F a := by unfold opL; simp only [h0]; exact h
    refine anyL_first hT hS hM h0 (Region.noSelect_spec hsel) hA hkn l.length listed F a hm hN hc (Region.free_spec h0 hf) hr' (opL_mono hm (fun F' a' hm' hF hK => ?_) hst)
    refine anyL_lex hT hS hM hsel hA l (k + 1) _ F' a' (fun j hj => by have := hl (j + 1) (by simp; omega); simpa [Nat.add_assoc, Nat.add_comm 1 j] using this) (by simp only [List.length_cons] at hk; omega) hm' (fun i hi => ?_) (Closed.set hA hc hr') hB' hK
    by_cases hki : k = i
    · subst hki
      have hun := (mem_ready.1 hr').1
      have hlt : k < listed.size := by
        rcases Nat.lt_or_ge k listed.size with h' | h'
        · exact h'
        · simp [Array.getElem?_eq_none h'] at hun
      simp [hlt] at hi
    · rw [getD_set_ne true hki] at hi
      rw [hF i (Ne.symm hki)]; exact hN i hi

theorem wp_region_apart {id : Nat} {Q : Exit → Act → World → Prop} {a : Act} {w : World} {l : List Oper} (n : Nat) (D : List Nat) (Φ : Facts) (A : Nat → List Nat) (hm : P.follows .mixedOrders = true) (hB : regB .any l.toArray A n = true) (hT : Pre R) (hS : Grows R) (hM : Mono R Φ)
    (h : lexL D R P l.toArray w Φ A (fun F a' => ∀ w', R w w' → KnowsD D Φ F w' → wpList P l.toArray Q (l.drop n) a' w') (l.take n) 0 (fun _ => none) a) : (Code.region id l.toArray true).wp P Q a w := by
  simp only [regB, Bool.and_eq_true, decide_eq_true_eq] at hB
  obtain ⟨⟨⟨hsel, hA⟩, hlex⟩, hn⟩ := hB
  have hn' : n ≤ l.length := by simpa using hn
  have htl : (l.take n).length = n := by simp; omega
  have hdl : (l.drop n).length = l.toArray.size - n := by simp
  have hd : R w { w with drawn := w.drawn + 1 } := hT.drew w
  have hk0 : ∀ w', KnowsD D Φ (fun _ => none) w' := fun w' => ⟨fun i φ v _ hv => absurd hv (by simp), ⟨fun i _ v hv => absurd hv (by simp), fun i _ j _ _ u v hu => absurd hu (by simp)⟩⟩
  have H := anyL_lex (P := P) (md := .any) (W0 := w) (D := D) (g := l.toArray.size - n) hT hS hM hsel hA (l.take n) 0 (Array.replicate l.toArray.size false) (fun _ => none) a (fun j hj => by
    have hj' : j < n := by rw [htl] at hj; exact hj
    simp [hj']) (by simpa using htl) ⟨w, hT.refl w, hk0 w⟩ (fun _ _ => rfl) ⟨by simp, fun j hj => by rw [getD_replicate_false] at hj; cases hj⟩ (by rw [htl]; exact hlex) h
  refine wp_region_any hm ?_
  have := wpAny_of_anyL (Q' := Q) (D := D) (g := l.toArray.size - n) hT hS hM (fun listed F a' w' hw hk hs hQ => by
    have := wpAny_of_seq (md := .any) (Q' := Q) (l.drop n) n listed a' w' (fun j => by simp [List.getElem?_drop]) (by rw [hdl]; exact hs) (hQ w' hw hk)
    rwa [hdl] at this) _ _ _ _ _ hd (hk0 _) H
  rw [htl, show n + (l.toArray.size - n) = l.toArray.size by omega] at this
  exact this

/-! One operation of the walk. -/
section
variable {Q : Vals → Act → Prop} {o : Oper} {rest : List Oper} {k : Nat} {F : Vals} {a : Act}
theorem lexL_nil (h : Q F a) : lexL D R P ops W0 Φ A Q [] k F a := h
theorem lexL_skip (hw : Region.wanted o (yielded ops a.tmps) = false) (h : lexL D R P ops W0 Φ A Q rest (k + 1) F (a.put o.dst undef)) : lexL D R P ops W0 Φ A Q (o :: rest) k F a := by
  unfold lexL
  rw [if_neg (by simp [hw])]
  exact h
theorem lexL_quiet {v : Value} (hw : Region.wanted o (yielded ops a.tmps) = true) (hΦ : Φ k = none) (h : ∀ w, R W0 w → Knows Φ F (A k) w → Oper.quietV P o a w v) (h' : lexL D R P ops W0 Φ A Q rest (k + 1) F (a.put o.dst v)) :
    lexL D R P ops W0 Φ A Q (o :: rest) k F a := by
  unfold lexL
  rw [if_pos hw, hΦ]
  exact ⟨v, h, h'⟩
theorem lexL_quiet' {v : Value} (hg : o.guard = none) (hΦ : Φ k = none) (h : ∀ w, R W0 w → Knows Φ F (A k) w → Oper.quietV P o a w v) (h' : lexL D R P ops W0 Φ A Q rest (k + 1) F (a.put o.dst v)) :
    lexL D R P ops W0 Φ A Q (o :: rest) k F a := lexL_quiet (by simp [Region.wanted, hg]) hΦ h h'
/-- The operation makes a block that is told apart. -/
theorem lexL_make' {φ : Value → World → Prop} (hg : o.guard = none) (hΦ : Φ k = some φ) (h : ∀ w, R W0 w → Knows Φ F (A k) w → Oper.gives R P o a w (fun v w' => φ v w' ∧ Nw D k w v w')) (h' : ∀ v w, R W0 w → φ v w → KnowsD D Φ (F.put k v) w → lexL D R P ops W0 Φ A Q rest (k + 1) (F.put k v) (a.put o.dst v)) :
    lexL D R P ops W0 Φ A Q (o :: rest) k F a := by
  unfold lexL
  rw [if_pos (by simp [Region.wanted, hg]), hΦ]
  exact ⟨h, fun v ⟨w, hw, hk⟩ => h' v w hw (hk.get k hΦ (by simp [Vals.put])) hk⟩
theorem gives_mono {o : Oper} {a : Act} {w : World} {φ ψ : Value → World → Prop} (h : Oper.gives R P o a w φ) (hm : ∀ v w', φ v w' → ψ v w') : Oper.gives R P o a w ψ := by
  unfold Oper.gives at *
  generalize (execOp a.eval o).run P w = r at *
  cases r with
  | halt x w' => exact h
  | ok n w' =>
    cases n <;> simp only [givesV] at h ⊢
    case enter f args => exact h.mono fun e w1 ⟨v, he, h1, h2⟩ => ⟨v, he, h1, hm _ _ h2⟩
    all_goals first | exact ⟨h.1, hm _ _ h.2⟩ | exact h
/-- Any other operation. -/
theorem lexL_give' {φ : Value → World → Prop} (hg : o.guard = none) (hΦ : Φ k = some φ) (hD : k ∉ D) (h : ∀ w, R W0 w → Knows Φ F (A k) w → Oper.gives R P o a w φ) (h' : ∀ v w, R W0 w → φ v w → KnowsD D Φ (F.put k v) w → lexL D R P ops W0 Φ A Q rest (k + 1) (F.put k v) (a.put o.dst v)) :
    lexL D R P ops W0 Φ A Q (o :: rest) k F a := lexL_make' hg hΦ (fun w hw hk => gives_mono (h w hw hk) fun v w' hφ => ⟨hφ, fun hk => absurd hk hD⟩) h'
end
end
end Go.Proofs.YtamodjlifpjaoaaDoor.Dis

namespace Go.Proofs.YtamodjlifpjaoaaDoor
open Go.RowKit Go.Maps
set_option linter.unusedVariables false
set_option linter.unusedSimpArgs false
attribute [local go_sem] Oper.quietV quietV Oper.gives givesV ext_refl_iff ext_alloc_iff ext_drew_iff ext_drewN_iff
def mapO (k : Value) : Obj := .map #[{ key := k, val := .bool true, born := 0 }] 1
set_option maxRecDepth 100000 in
theorem run_insert0 {P Q : Nat} (hok : pairOK (P, Q)) (W : World) (b : Nat) (hb : W.heap[b]? = some (.map #[] 0)) : (Instr.mapUpdate 93 (.map (some b)) (.agg #[.int .u64 P, .int .u64 Q]) (.bool true)).run Tryd.prog W = .ok () { W with heap := W.heap.setIfInBounds b (mapO (.agg #[.int .u64 P, .int .u64 Q])) } := by
  obtain ⟨l, hl⟩ := key89.read _ hok
  have hl : keyOf Tryd.prog 89 (.agg #[.int .u64 P, .int .u64 Q]) = some l := hl
  have hobj : (getObj b).run Tryd.prog W = .ok (.map #[] 0) W := by simp [getObj, Sem.run, hb]
  have hchk := key89.law.check W false hl
  have hfk : (Instr.findKey 89 (.agg #[.int .u64 P, .int .u64 Q]) ([] : List MapEntry)).run Tryd.prog W = .ok none W := rfl
  have hlt := lt_of_block hb
  simp [Instr.mapUpdate, run_underlying Tryd.underlying93, hobj, hchk, hfk, setObj, Sem.run, hb, mapO]
theorem heap_push_set {A : Array Obj} (x y : Obj) : (A.push x).setIfInBounds A.size y = A.push y := by
  apply Array.ext'
  simp
theorem run_ins1 {P Q : Nat} (hok : pairOK (P, Q)) (W : World) : (Instr.mapUpdate 93 (.map (some W.heap.size)) (.agg #[.int .u64 P, .int .u64 Q]) (.bool true)).run Tryd.prog (W.alloc (.map #[] 0)).drew = .ok () (W.alloc (mapO (.agg #[.int .u64 P, .int .u64 Q]))).drew := by
  rw [run_insert0 hok (W.alloc (.map #[] 0)).drew W.heap.size (heap_alloc_new W _)]
  have : (W.alloc (.map #[] 0)).drew.heap.setIfInBounds W.heap.size (mapO (.agg #[.int .u64 P, .int .u64 Q])) = (W.alloc (mapO (.agg #[.int .u64 P, .int .u64 Q]))).drew.heap := heap_push_set _ _
  rw [this]; rfl
theorem run_ins2 {P Q : Nat} (hok : pairOK (P, Q)) (W : World) (o : Obj) : (Instr.mapUpdate 93 (.map (some W.heap.size)) (.agg #[.int .u64 P, .int .u64 Q]) (.bool true)).run Tryd.prog ((W.alloc (.map #[] 0)).alloc o).drew = .ok () ((W.alloc (mapO (.agg #[.int .u64 P, .int .u64 Q]))).alloc o).drew := by
  have h0 : ((W.alloc (.map #[] 0)).alloc o).drew.heap[W.heap.size]? = some (.map #[] 0) := by
    have h := heap_alloc_new W (.map #[] 0)
    exact ((alloc_ext (W.alloc (.map #[] 0)) o).block W.heap.size (lt_of_block h)).trans h
  rw [run_insert0 hok _ _ h0]
  have : ((W.alloc (.map #[] 0)).alloc o).drew.heap.setIfInBounds W.heap.size (mapO (.agg #[.int .u64 P, .int .u64 Q])) = ((W.alloc (mapO (.agg #[.int .u64 P, .int .u64 Q]))).alloc o).drew.heap := by
    show ((W.heap.push _).push o).setIfInBounds W.heap.size _ = ((W.heap.push _).push o)
    apply Array.ext'
    simp
  rw [this]; rfl
theorem mapO_of {P Q : Nat} (hok : pairOK (P, Q)) : SetOf pairV pairOK (mapO (.agg #[.int .u64 P, .int .u64 Q])) [(P, Q)] := fun w b hb => ⟨_, _, hb, rfl, by simp; exact hok⟩
def c0 (P Q : Nat) : Array Value := #[.int .u64 P, .int .u64 Q, .int .i64 0, .int .i64 0, .int .i64 0]
theorem own_r0 (x y : Lts) (W : World) : Asn.ok W.heap.size (W.alloc (.cells (c0 (begM x) (begM y)) 91)) (.row 91 5 (.slice (some ⟨W.heap.size, 0, none⟩) 1 1) 1 ([rt (rootC x y)].flatMap fdCells)) :=
  World.ownsRow_lit (base := W.heap.size) (e := 91) (size := 5) W (c0 (begM x) (begM y)) 1 (Nat.le_refl _) (by unfold maxLen; omega) rfl
def StC (x y : Lts) (W1 : World) (lv mv : Value) (wx : World) : Prop := ∃ gl gm om, lv = .slice (some ⟨gl, 0, none⟩) 1 1 ∧ mv = .map (some gm) ∧ SetOf pairV pairOK om [rootC x y] ∧ OwnL W1 wx [.row 91 5 (.slice (some ⟨gl, 0, none⟩) 1 1) 1 ([rt (rootC x y)].flatMap fdCells), .blk gm om]
theorem stC1 {x y : Lts} (hok : pairOK (rootC x y)) (W : World) (o1 : Obj) (h1 : o1 = .cells (c0 (begM x) (begM y)) 91) (n : Nat) (hn : n = W.heap.size + 1) (o2 : Obj) (h2 : o2 = mapO (.agg #[.int .u64 (begM x), .int .u64 (begM y)])) : StC x y W (.slice (some ⟨W.heap.size, 0, none⟩) 1 1) (.map (some n)) ((W.alloc o1).alloc o2).drew := by
  subst h1 hn h2
  refine ⟨_, _, _, rfl, rfl, mapO_of hok, ?_⟩
  have h := ((OwnL.nil (Ext.refl W)).add (alloc_ext W (.cells (c0 (begM x) (begM y)) 91)) (own_r0 x y W)).add (alloc_ext _ (mapO (.agg #[.int .u64 (begM x), .int .u64 (begM y)]))) (A := .blk (W.heap.size + 1) (mapO (.agg #[.int .u64 (begM x), .int .u64 (begM y)]))) ⟨by simp, by have := heap_alloc_new (W.alloc (.cells (c0 (begM x) (begM y)) 91)) (mapO (.agg #[.int .u64 (begM x), .int .u64 (begM y)])); simpa using this⟩
  exact h.swap.trans (drew_ext _)
theorem stC2 {x y : Lts} (hok : pairOK (rootC x y)) (W : World) (o1 : Obj) (h1 : o1 = .cells (c0 (begM x) (begM y)) 91) (n : Nat) (hn : n = W.heap.size + 1) (o2 : Obj) (h2 : o2 = mapO (.agg #[.int .u64 (begM x), .int .u64 (begM y)])) : StC x y W (.slice (some ⟨n, 0, none⟩) 1 1) (.map (some W.heap.size)) ((W.alloc o2).alloc o1).drew := by
  subst h1 hn h2
  refine ⟨_, _, _, rfl, rfl, mapO_of hok, ?_⟩
  have h := ((OwnL.nil (Ext.refl W)).add (alloc_ext W (mapO (.agg #[.int .u64 (begM x), .int .u64 (begM y)]))) (A := .blk W.heap.size (mapO (.agg #[.int .u64 (begM x), .int .u64 (begM y)]))) ⟨Nat.le_refl _, heap_alloc_new _ _⟩).add (alloc_ext _ (.cells (c0 (begM x) (begM y)) 91)) (own_r0 x y (W.alloc (mapO (.agg #[.int .u64 (begM x), .int .u64 (begM y)]))))
  have h := h.trans (drew_ext _)
  simpa using h
set_option maxRecDepth 100000 in
set_option maxHeartbeats 16000000 in
theorem conf_t14 (w W : World) (b11 b12 b13 : Nat) (x y : Lts) (c0 c1 c2 c3 c4 c5 c6 c7 c8 c9 c10 c14 c15 c16 c17 c18 c19 c20 c21 c22 c23 c24 c25 c26 c27 c28 c29 c30 c31 c32 c33 c34 c35 c36 c37 c38 c39 c40 c41 c42 c43 c44 c45 c46 c47 c48 c49 c50 c51 c52 c53 c54 c55 c56 c57 c58 c59 c60 c61 c62 c63 c64 c65 c66 c67 c68 c69 c70 c71 c72 c73 c74 c75 c76 c77 c78 c79 c80 c81 c82 c83 c84 c85 c86 c87 c88 c89 c90 c91 c92 c93 c94 c95 c96 c97 c98 c99 c100 c101 c102 c103 c104 c105 c106 c107 c108 c109 c110 c111 c112 c113 c114 c115 c116 c117 c118 c119 c120 c121 c122 c123 c124 c125 c126 c127 c128 c129 c130 c131 c132 c133 c134 c135 c136 c137 c138 c139 c140 c141 c142 c143 c144 c145 c146 c147 c148 c149 c150 c151 c152 c153 c154 c155 c156 c157 c158 c159 c160 c161 : Value) (h0 : Ext w W) (hT : Tab W) (hx : Good x) (hy : Good y) (hbx : BoxS W b11 x) (hby : BoxS W b12 y) (h13 : W.heap[b13]? = some (.cells #[.int .u64 (begM x), .int .u64 (begM y)] 89 (0, 0))) :
    Code.wp Tryd.prog (T21 14) (bodyPost Tryd.prog Tryd.f21 (ConfP w (confT x y))) ⟨(c0 :: c1 :: c2 :: c3 :: c4 :: c5 :: c6 :: c7 :: c8 :: c9 :: c10 :: .pointer (some ⟨b11, 0, none⟩) :: .pointer (some ⟨b12, 0, none⟩) :: .pointer (some ⟨b13, 0, none⟩) :: c14 :: c15 :: c16 :: c17 :: c18 :: c19 :: c20 :: c21 :: c22 :: c23 :: c24 :: c25 :: c26 :: c27 :: c28 :: c29 :: c30 :: c31 :: c32 :: c33 :: c34 :: c35 :: c36 :: c37 :: c38 :: c39 :: c40 :: c41 :: c42 :: c43 :: c44 :: c45 :: c46 :: c47 :: c48 :: c49 :: c50 :: c51 :: c52 :: c53 :: c54 :: c55 :: c56 :: c57 :: c58 :: c59 :: c60 :: c61 :: c62 :: c63 :: c64 :: c65 :: c66 :: c67 :: c68 :: c69 :: c70 :: c71 :: c72 :: c73 :: c74 :: c75 :: c76 :: c77 :: c78 :: c79 :: c80 :: c81 :: c82 :: c83 :: c84 :: c85 :: c86 :: c87 :: c88 :: c89 :: c90 :: c91 :: c92 :: c93 :: c94 :: c95 :: c96 :: c97 :: c98 :: c99 :: c100 :: c101 :: c102 :: c103 :: c104 :: c105 :: c106 :: c107 :: c108 :: c109 :: c110 :: c111 :: c112 :: c113 :: c114 :: c115 :: c116 :: c117 :: c118 :: c119 :: c120 :: c121 :: c122 :: c123 :: c124 :: c125 :: c126 :: c127 :: c128 :: c129 :: c130 :: c131 :: c132 :: c133 :: c134 :: c135 :: c136 :: c137 :: c138 :: c139 :: c140 :: c141 :: c142 :: c143 :: c144 :: c145 :: c146 :: c147 :: c148 :: c149 :: c150 :: c151 :: c152 :: c153 :: c154 :: c155 :: c156 :: c157 :: c158 :: c159 :: c160 :: c161 :: []).toArray, []⟩ W := by
  conv => arg 2; whnf
  have hok : pairOK (rootC x y) := ⟨hx.mask (begM_lt hx), hy.mask (begM_lt hy)⟩
  have HX := Lib.hid (And.intro h0 (And.intro hT (And.intro hx (And.intro hy (And.intro hbx (And.intro hby hok))))))
  clear h0 hT hx hy hbx hby
  have d0 := fun w' (h : Ext W w') => h.cell (cell_of_blk h13 0 (u := .int .u64 (begM x)) rfl)
  have d1 := fun w' (h : Ext W w') => h.cell (cell_of_blk h13 1 (u := .int .u64 (begM y)) rfl)
  have i1 := run_ins1 hok W
  have i2 := run_ins2 hok W (.cells #[.int .u64 (begM x), .int .u64 (begM y), .int .i64 0, .int .i64 0, .int .i64 0] 91)
  have i3 := run_ins1 hok (W.alloc (.cells #[.int .u64 (begM x), .int .u64 (begM y), .int .i64 0, .int .i64 0, .int .i64 0] 91))
  rw [show (W.alloc (.cells #[.int .u64 (begM x), .int .u64 (begM y), .int .i64 0, .int .i64 0, .int .i64 0] 91)).heap.size = W.heap.size + 1 by simp] at i3
  have hmm := @run_makeMap Tryd.prog
  have hE0 := Ext.refl W
  clear h13 hok
  go_upto_region 14 with fail
  go_cut [14, 15] (StC x y W)
  case first =>
    go_region_held3 (fun w' => w'.cell? ⟨b13, 0, none⟩ = some (.int .u64 (begM x)) ∧ w'.cell? ⟨b13, 1, none⟩ = some (.int .u64 (begM y))) ((first | exact ⟨d0 _ (by repeat (first | exact Ext.refl _ | refine Ext.drew ?_ | refine Ext.alloc ?_ _)), d1 _ (by repeat (first | exact Ext.refl _ | refine Ext.drew ?_ | refine Ext.alloc ?_ _))⟩)) ((fail))
    all_goals go_wp2
    all_goals go_meet
    all_goals (first | exact stC1 HX.out.2.2.2.2.2.2 _ _ rfl _ rfl _ rfl | exact stC2 HX.out.2.2.2.2.2.2 _ _ rfl _ rfl _ rfl)
  case rest =>
    obtain ⟨gl, gm, om, rfl, rfl, hm, hO⟩ := hcut
    have HM := Lib.hid (And.intro hm hO)
    clear i1 i2 i3 hmm hm hO d0 d1 hE0
    go_upto_region 999 with (with_reducible refine stop_at2 15 ?_)
    refine ⟨?_⟩
    exact conf_t15 w W wc b11 b12 gl gm om x y _ _ _ _ _ _ _ _ _ _ _ _ _ _ _ _ _ _ _ _ _ _ _ _ _ _ _ _ _ _ _ _ _ _ _ _ _ _ _ _ _ _ _ _ _ _ _ _ _ _ _ _ _ _ _ _ _ _ _ _ _ _ _ _ _ _ _ _ _ _ _ _ _ _ _ _ _ _ _ _ _ _ _ _ _ _ _ _ _ _ _ _ _ _ _ _ _ _ _ _ _ _ _ _ _ _ _ _ _ _ _ _ _ _ _ _ _ _ _ _ _ _ _ _ _ _ _ _ _ _ _ _ _ _ _ _ _ _ _ _ _ _ _ _ _ _ _ _ _ _ _ _ _ _ _ _ _ _ HX.out.1 HX.out.2.1 HX.out.2.2.1 HX.out.2.2.2.1 HX.out.2.2.2.2.1 HX.out.2.2.2.2.2.1 HM.out.2 HM.out.1
/-- A prepared system as it comes: its masks lie in a block of its own. -/
def PrepF (N : Nat) (A : Option Addr) (c : Nat) (x : Lts) (v : Value) (w : World) : Prop := ∃ g, v = .agg #[.int .i64 x.ins, .int .i64 x.outs, .slice A x.rows.length c, .slice (some ⟨g, 0, none⟩) x.rows.length x.rows.length] ∧ w.ownsRow N 76 1 (.slice (some ⟨g, 0, none⟩) x.rows.length x.rows.length) x.rows.length (mV (sils x))
theorem stays_prepF (N : Nat) (A : Option Addr) (c : Nat) (x : Lts) : Stays Ext (PrepF N A c x) := fun v w w' hE ⟨g, hv, h⟩ => ⟨g, hv, ownsRow_ext h hE⟩
theorem row_ne {w : World} {N g n b : Nat} {xs : List Value} {cs : Array Value} (h : w.ownsRow N 76 1 (.slice (some ⟨g, 0, none⟩) n n) n xs) (hn : 0 < n) (hb : w.heap[b]? = some (.cells cs 73 (0, 0))) : g ≠ b := by
  rcases h.2 with h0 | ⟨g', cap, cur, hv, hB, hg, rest⟩
  · exfalso
    simp at h0
    try omega
  · cases hv
    exact blk_ne hg hb (fun h => by injection h with h1 h2; cases h2)
theorem sys_of {W w : World} {N : Nat} {A : Option Addr} {c g : Nat} {x : Lts} (hE : Ext W w) (hd : LtsV W (.agg #[.int .i64 x.ins, .int .i64 x.outs, .slice A x.rows.length c]) x) (hg : Good x) (hr : w.ownsRow N 76 1 (.slice (some ⟨g, 0, none⟩) x.rows.length x.rows.length) x.rows.length (mV (sils x))) :
    SysV w (.agg #[.int .i64 x.ins, .int .i64 x.outs, .slice A x.rows.length c, .slice (some ⟨g, 0, none⟩) x.rows.length x.rows.length]) x := by
  obtain ⟨A', c', hv, hrw, hl⟩ := hd.form
  cases hv
  have hgn := hg.nn
  unfold Lts.n at hgn
  obtain ⟨A9, c9, hv9, hnc9, hc9⟩ := cells_of_owns hr
  cases hv9
  have hsl : (sils x).length = x.rows.length := by simp [sils, Lts.n]
  exact ⟨_, _, rfl, hrw.ext hE, ⟨_, x.rows.length, by rw [hsl], hc9, by rw [hsl]; exact Nat.le_refl _, by rw [hsl]; unfold lenMax; omega⟩⟩
/-- A system in a block. -/
def BoxL (W : World) (b : Nat) (x : Lts) : Prop := ∃ A c, W.cell? ⟨b, 0, none⟩ = some (.int .i64 x.ins) ∧ W.cell? ⟨b, 1, none⟩ = some (.int .i64 x.outs) ∧ W.cell? ⟨b, 2, none⟩ = some (.slice A x.rows.length c) ∧ LtsV W (.agg #[.int .i64 x.ins, .int .i64 x.outs, .slice A x.rows.length c]) x
theorem BoxL.ext {W W' : World} {b : Nat} {x : Lts} (h : BoxL W b x) (e : Ext W W') : BoxL W' b x := by
  obtain ⟨A, c, h0, h1, h2, h4⟩ := h
  exact ⟨A, c, e.cell h0, e.cell h1, e.cell h2, h4.ext e⟩
/-- What Conforms answers of valid systems with equal labels. -/
def confS (x y : Lts) : Bool × List Int × Int × Int := if !accB x then (false, [], 0, 9) else confT x y
set_option maxRecDepth 100000 in
set_option maxHeartbeats 16000000 in
theorem conf_t11 (w W : World) (b11 b12 : Nat) (x y : Lts) (c0 c1 c2 c3 c4 c5 c6 c7 c8 c9 c10 c13 c14 c15 c16 c17 c18 c19 c20 c21 c22 c23 c24 c25 c26 c27 c28 c29 c30 c31 c32 c33 c34 c35 c36 c37 c38 c39 c40 c41 c42 c43 c44 c45 c46 c47 c48 c49 c50 c51 c52 c53 c54 c55 c56 c57 c58 c59 c60 c61 c62 c63 c64 c65 c66 c67 c68 c69 c70 c71 c72 c73 c74 c75 c76 c77 c78 c79 c80 c81 c82 c83 c84 c85 c86 c87 c88 c89 c90 c91 c92 c93 c94 c95 c96 c97 c98 c99 c100 c101 c102 c103 c104 c105 c106 c107 c108 c109 c110 c111 c112 c113 c114 c115 c116 c117 c118 c119 c120 c121 c122 c123 c124 c125 c126 c127 c128 c129 c130 c131 c132 c133 c134 c135 c136 c137 c138 c139 c140 c141 c142 c143 c144 c145 c146 c147 c148 c149 c150 c151 c152 c153 c154 c155 c156 c157 c158 c159 c160 c161 : Value) (h0 : Ext w W) (hT : Tab W) (hx : Good x) (hy : Good y) (hbx : BoxS W b11 x) (hby : BoxS W b12 y) :
    Code.wp Tryd.prog (T21 11) (bodyPost Tryd.prog Tryd.f21 (ConfP w (confS x y))) ⟨(c0 :: c1 :: c2 :: c3 :: c4 :: c5 :: c6 :: c7 :: c8 :: c9 :: c10 :: .pointer (some ⟨b11, 0, none⟩) :: .pointer (some ⟨b12, 0, none⟩) :: c13 :: c14 :: c15 :: c16 :: c17 :: c18 :: c19 :: c20 :: c21 :: c22 :: c23 :: c24 :: c25 :: c26 :: c27 :: c28 :: c29 :: c30 :: c31 :: c32 :: c33 :: c34 :: c35 :: c36 :: c37 :: c38 :: c39 :: c40 :: c41 :: c42 :: c43 :: c44 :: c45 :: c46 :: c47 :: c48 :: c49 :: c50 :: c51 :: c52 :: c53 :: c54 :: c55 :: c56 :: c57 :: c58 :: c59 :: c60 :: c61 :: c62 :: c63 :: c64 :: c65 :: c66 :: c67 :: c68 :: c69 :: c70 :: c71 :: c72 :: c73 :: c74 :: c75 :: c76 :: c77 :: c78 :: c79 :: c80 :: c81 :: c82 :: c83 :: c84 :: c85 :: c86 :: c87 :: c88 :: c89 :: c90 :: c91 :: c92 :: c93 :: c94 :: c95 :: c96 :: c97 :: c98 :: c99 :: c100 :: c101 :: c102 :: c103 :: c104 :: c105 :: c106 :: c107 :: c108 :: c109 :: c110 :: c111 :: c112 :: c113 :: c114 :: c115 :: c116 :: c117 :: c118 :: c119 :: c120 :: c121 :: c122 :: c123 :: c124 :: c125 :: c126 :: c127 :: c128 :: c129 :: c130 :: c131 :: c132 :: c133 :: c134 :: c135 :: c136 :: c137 :: c138 :: c139 :: c140 :: c141 :: c142 :: c143 :: c144 :: c145 :: c146 :: c147 :: c148 :: c149 :: c150 :: c151 :: c152 :: c153 :: c154 :: c155 :: c156 :: c157 :: c158 :: c159 :: c160 :: c161 :: []).toArray, []⟩ W := by
  conv => arg 2; whnf
  have HX := Lib.hid (And.intro h0 (And.intro hT (And.intro hx (And.intro hy (And.intro hbx hby)))))
  have hE0 := Ext.refl W
  obtain ⟨pA, pc, pB, pd, p0, p1, p2, p3, pS⟩ := hbx
  have p0 := fun w' (h : Ext W w') => h.cell p0
  have p1 := fun w' (h : Ext W w') => h.cell p1
  have p2 := fun w' (h : Ext W w') => h.cell p2
  have p3 := fun w' (h : Ext W w') => h.cell p3
  have hac := accepts_any W _ x pS hx hT
  clear h0 hT hx hy hby pS
  cases hA : accB x with
  | false =>
    have H : Hid (confS x y = (false, [], 0, 9)) := Lib.hid (by unfold confS; rw [hA]; rfl)
    rw [hA] at hac
    clear hA
    go_wp2_with ((with_reducible refine hac.mono ?_); rintro e w1 ⟨rfl, e1⟩)
    refine bodyPost_ret (results_tmp4 rfl _ _ _) rfl ?_
    exact ⟨_, by rw [H.out]; rfl, by rw [H.out]; exact fit_nil _, HX.out.1.trans e1⟩
  | true =>
    have H : Hid (confS x y = confT x y) := Lib.hid (by unfold confS; rw [hA]; rfl)
    rw [hA] at hac
    clear hA
    rw [H.out]
    clear H
    go_upto_region 13 with ((with_reducible refine hac.mono ?_); rintro e wa ⟨rfl, e1⟩)
    have hbx := HX.out.2.2.2.2.1.ext e1
    have hby := HX.out.2.2.2.2.2.ext e1
    have HX := Lib.hid (And.intro (HX.out.1.trans e1) (And.intro (HX.out.2.1.ext e1) (And.intro HX.out.2.2.1 (And.intro HX.out.2.2.2.1 (And.intro hbx hby)))))
    clear p0 p1 p2 p3 hE0 hac e1
    obtain ⟨pA, pc, pB, pd, p0, p1, p2, p3, pS⟩ := hbx
    have p0 := fun w' (h : Ext wa w') => h.cell p0
    have p1 := fun w' (h : Ext wa w') => h.cell p1
    have p2 := fun w' (h : Ext wa w') => h.cell p2
    have p3 := fun w' (h : Ext wa w') => h.cell p3
    obtain ⟨qA, qc, qB, qd, q0, q1, q2, q3, qS⟩ := hby
    have q0 := fun w' (h : Ext wa w') => h.cell q0
    have q1 := fun w' (h : Ext wa w') => h.cell q1
    have q2 := fun w' (h : Ext wa w') => h.cell q2
    have q3 := fun w' (h : Ext wa w') => h.cell q3
    have hpx := fun W1 (e : Ext wa W1) => begin_any W1 _ x (pS.ext e) HX.out.2.2.1
    have hpy := fun W1 (e : Ext wa W1) => begin_any W1 _ y (qS.ext e) HX.out.2.2.2.1
    clear pS qS
    have hE0 := Ext.refl wa
    refine wp_region_ext 6 (factsOf [(1, fun v _ => v = .int .u64 (begM x)), (3, fun v _ => v = .int .u64 (begM y)), (5, Fresh wa.heap.size #[.int .u64 0, .int .u64 0] 89)]) (fun k => ([[], [0], [], [0, 1, 2], [0, 1, 2, 3], [], [0, 1, 2, 3, 4, 5]] : List (List Nat)).getD k []) (by kernel_rfl) (by kernel_rfl) Ext.pre (mono_cons (stays_eq _) (mono_cons (stays_eq _) (mono_cons (stays_fresh _ _ _) (mono_nil)))) ?_
    simp only [List.take_succ_cons, List.take_zero]
    repeat (first | (with_reducible refine lexL_quiet' (v := ?_) ?_ ?_ ?_ ?_; rotate_left; (· with_reducible rfl); (· simp [factsOf]); (· intro w1 hw1 _; go_simp; with_reducible rfl); (try simp only [Act.put, List.setIfInBounds_toArray, List.set_cons_zero, List.set_cons_succ])) | (with_reducible refine lexL_skip ?_ ?_; (· simp [Region.wanted, yielded, undef]); (try simp only [Act.put, List.setIfInBounds_toArray, List.set_cons_zero, List.set_cons_succ])) | (with_reducible refine lexL_quiet (v := ?_) ?_ ?_ ?_ ?_; rotate_left; (· simp [Region.wanted, yielded, undef]); (· simp [factsOf]); (· intro w1 hw1 _; go_simp; with_reducible rfl); (try simp only [Act.put, List.setIfInBounds_toArray, List.set_cons_zero, List.set_cons_succ])))
    with_reducible refine lexL_give' (φ := ?_) ?_ ?_ ?_ ?_; rotate_left; (· with_reducible rfl); (· simp only [factsOf, Nat.reduceAdd, ↓reduceIte, Nat.reduceEqDiff]; rfl)
    · intro w5 hw5 _
      go_simp
      refine (hpx w5 hw5).mono ?_
      rintro e w6 ⟨rfl, e6⟩
      exact ⟨_, rfl, e6, rfl⟩
    rintro v1 w5 hw5 rfl hk2
    clear hk2 hw5 w5
    (try simp only [Act.put, List.setIfInBounds_toArray, List.set_cons_zero, List.set_cons_succ])
    repeat (first | (with_reducible refine lexL_quiet' (v := ?_) ?_ ?_ ?_ ?_; rotate_left; (· with_reducible rfl); (· simp [factsOf]); (· intro w1 hw1 _; go_simp; with_reducible rfl); (try simp only [Act.put, List.setIfInBounds_toArray, List.set_cons_zero, List.set_cons_succ])) | (with_reducible refine lexL_skip ?_ ?_; (· simp [Region.wanted, yielded, undef]); (try simp only [Act.put, List.setIfInBounds_toArray, List.set_cons_zero, List.set_cons_succ])) | (with_reducible refine lexL_quiet (v := ?_) ?_ ?_ ?_ ?_; rotate_left; (· simp [Region.wanted, yielded, undef]); (· simp [factsOf]); (· intro w1 hw1 _; go_simp; with_reducible rfl); (try simp only [Act.put, List.setIfInBounds_toArray, List.set_cons_zero, List.set_cons_succ])))
    with_reducible refine lexL_give' (φ := ?_) ?_ ?_ ?_ ?_; rotate_left; (· with_reducible rfl); (· simp only [factsOf, Nat.reduceAdd, ↓reduceIte, Nat.reduceEqDiff]; rfl)
    · intro w5 hw5 _
      go_simp
      refine (hpy w5 hw5).mono ?_
      rintro e w6 ⟨rfl, e6⟩
      exact ⟨_, rfl, e6, rfl⟩
    rintro v3 w5 hw5 rfl hk2
    clear hk2 hw5 w5
    (try simp only [Act.put, List.setIfInBounds_toArray, List.set_cons_zero, List.set_cons_succ])
    repeat (first | (with_reducible refine lexL_quiet' (v := ?_) ?_ ?_ ?_ ?_; rotate_left; (· with_reducible rfl); (· simp [factsOf]); (· intro w1 hw1 _; go_simp; with_reducible rfl); (try simp only [Act.put, List.setIfInBounds_toArray, List.set_cons_zero, List.set_cons_succ])) | (with_reducible refine lexL_skip ?_ ?_; (· simp [Region.wanted, yielded, undef]); (try simp only [Act.put, List.setIfInBounds_toArray, List.set_cons_zero, List.set_cons_succ])) | (with_reducible refine lexL_quiet (v := ?_) ?_ ?_ ?_ ?_; rotate_left; (· simp [Region.wanted, yielded, undef]); (· simp [factsOf]); (· intro w1 hw1 _; go_simp; with_reducible rfl); (try simp only [Act.put, List.setIfInBounds_toArray, List.set_cons_zero, List.set_cons_succ])))
    with_reducible refine lexL_give' (φ := ?_) ?_ ?_ ?_ ?_; rotate_left; (· with_reducible rfl); (· simp only [factsOf, Nat.reduceAdd, ↓reduceIte, Nat.reduceEqDiff]; rfl)
    · intro w2' hw2' _
      go_simp
      exact (fresh_alloc _ _ _ _ hw2'.size).2
    rintro v5 w2' hw2' ⟨b13, rfl, hb13, hblk8⟩ hk2
    clear hk2 hw2' hblk8 w2'
    (try simp only [Act.put, List.setIfInBounds_toArray, List.set_cons_zero, List.set_cons_succ])
    with_reducible refine lexL_nil ?_; intro w1 hw1 hk1; simp only [List.drop_succ_cons, List.drop_zero]
    obtain ⟨b13', e13, _, hB13⟩ := hk1.get 5 rfl rfl
    obtain rfl : b13' = b13 := by simpa using e13.symm
    clear e13 hk1 hpx hpy p0 p1 p2 p3 q0 q1 q2 q3 hE0
    go_upto_region 999 with (first | (with_reducible refine wpList_store_blk _ rfl 89 _ _ rfl b13' 89 _ _ rfl rfl hB13 (by kernel_rfl) (by kernel_rfl) (by kernel_rfl) ?_; intro w5 h5 g5) | (with_reducible refine stop_at 14 ?_) | (with_reducible refine stop_at2 14 ?_))
    have hE5 : Ext wa w5 := Below.grown hw1 g5 hw1.size (fun k hk => by cases hk; exact hb13)
    refine ⟨?_⟩
    exact conf_t14 w w5 b11 b12 b13' x y _ _ _ _ _ _ _ _ _ _ _ _ _ _ _ _ _ _ _ _ _ _ _ _ _ _ _ _ _ _ _ _ _ _ _ _ _ _ _ _ _ _ _ _ _ _ _ _ _ _ _ _ _ _ _ _ _ _ _ _ _ _ _ _ _ _ _ _ _ _ _ _ _ _ _ _ _ _ _ _ _ _ _ _ _ _ _ _ _ _ _ _ _ _ _ _ _ _ _ _ _ _ _ _ _ _ _ _ _ _ _ _ _ _ _ _ _ _ _ _ _ _ _ _ _ _ _ _ _ _ _ _ _ _ _ _ _ _ _ _ _ _ _ _ _ _ _ _ _ _ _ _ _ _ _ _ _ _ _ (HX.out.1.trans hE5) (HX.out.2.1.ext hE5) HX.out.2.2.1 HX.out.2.2.2.1 (HX.out.2.2.2.2.1.ext hE5) (HX.out.2.2.2.2.2.ext hE5) h5
set_option maxRecDepth 100000 in
set_option maxHeartbeats 16000000 in
theorem conf_t10 (w W : World) (b2 b3 : Nat) (x y : Lts) (c0 c1 c4 c5 c6 c7 c8 c9 c10 c11 c12 c13 c14 c15 c16 c17 c18 c19 c20 c21 c22 c23 c24 c25 c26 c27 c28 c29 c30 c31 c32 c33 c34 c35 c36 c37 c38 c39 c40 c41 c42 c43 c44 c45 c46 c47 c48 c49 c50 c51 c52 c53 c54 c55 c56 c57 c58 c59 c60 c61 c62 c63 c64 c65 c66 c67 c68 c69 c70 c71 c72 c73 c74 c75 c76 c77 c78 c79 c80 c81 c82 c83 c84 c85 c86 c87 c88 c89 c90 c91 c92 c93 c94 c95 c96 c97 c98 c99 c100 c101 c102 c103 c104 c105 c106 c107 c108 c109 c110 c111 c112 c113 c114 c115 c116 c117 c118 c119 c120 c121 c122 c123 c124 c125 c126 c127 c128 c129 c130 c131 c132 c133 c134 c135 c136 c137 c138 c139 c140 c141 c142 c143 c144 c145 c146 c147 c148 c149 c150 c151 c152 c153 c154 c155 c156 c157 c158 c159 c160 c161 : Value) (h0 : Ext w W) (hT : Tab W) (hx : Good x) (hy : Good y) (hbx : BoxL W b2 x) (hby : BoxL W b3 y) :
    Code.wp Tryd.prog (T21 10) (bodyPost Tryd.prog Tryd.f21 (ConfP w (confS x y))) ⟨(c0 :: c1 :: .pointer (some ⟨b2, 0, none⟩) :: .pointer (some ⟨b3, 0, none⟩) :: c4 :: c5 :: c6 :: c7 :: c8 :: c9 :: c10 :: c11 :: c12 :: c13 :: c14 :: c15 :: c16 :: c17 :: c18 :: c19 :: c20 :: c21 :: c22 :: c23 :: c24 :: c25 :: c26 :: c27 :: c28 :: c29 :: c30 :: c31 :: c32 :: c33 :: c34 :: c35 :: c36 :: c37 :: c38 :: c39 :: c40 :: c41 :: c42 :: c43 :: c44 :: c45 :: c46 :: c47 :: c48 :: c49 :: c50 :: c51 :: c52 :: c53 :: c54 :: c55 :: c56 :: c57 :: c58 :: c59 :: c60 :: c61 :: c62 :: c63 :: c64 :: c65 :: c66 :: c67 :: c68 :: c69 :: c70 :: c71 :: c72 :: c73 :: c74 :: c75 :: c76 :: c77 :: c78 :: c79 :: c80 :: c81 :: c82 :: c83 :: c84 :: c85 :: c86 :: c87 :: c88 :: c89 :: c90 :: c91 :: c92 :: c93 :: c94 :: c95 :: c96 :: c97 :: c98 :: c99 :: c100 :: c101 :: c102 :: c103 :: c104 :: c105 :: c106 :: c107 :: c108 :: c109 :: c110 :: c111 :: c112 :: c113 :: c114 :: c115 :: c116 :: c117 :: c118 :: c119 :: c120 :: c121 :: c122 :: c123 :: c124 :: c125 :: c126 :: c127 :: c128 :: c129 :: c130 :: c131 :: c132 :: c133 :: c134 :: c135 :: c136 :: c137 :: c138 :: c139 :: c140 :: c141 :: c142 :: c143 :: c144 :: c145 :: c146 :: c147 :: c148 :: c149 :: c150 :: c151 :: c152 :: c153 :: c154 :: c155 :: c156 :: c157 :: c158 :: c159 :: c160 :: c161 :: []).toArray, []⟩ W := by
  conv => arg 2; whnf
  obtain ⟨pA, pc, p0, p1, p2, pS⟩ := hbx
  have p0 := fun w' (h : Ext W w') => h.cell p0
  have p1 := fun w' (h : Ext W w') => h.cell p1
  have p2 := fun w' (h : Ext W w') => h.cell p2
  obtain ⟨qA, qc, q0, q1, q2, qS⟩ := hby
  have q0 := fun w' (h : Ext W w') => h.cell q0
  have q1 := fun w' (h : Ext W w') => h.cell q1
  have q2 := fun w' (h : Ext W w') => h.cell q2
  have hpx := fun W1 (e : Ext W W1) => prepare_own W1 pA pc x (pS.ext e) hx
  have hpy := fun W1 (e : Ext W W1) => prepare_own W1 qA qc y (qS.ext e) hy
  have HX := Lib.hid (And.intro h0 (And.intro hT (And.intro hx (And.intro hy (And.intro pS qS)))))
  clear h0 hT hx hy pS qS
  have hE0 := Ext.refl W
  go_upto_region 10 with fail
  refine Dis.wp_region_apart 6 [4, 5] (factsOf [(1, PrepF W.heap.size pA pc x), (3, PrepF W.heap.size qA qc y), (4, Fresh W.heap.size #[.int .i64 0, .int .i64 0, .slice none 0 0, .slice none 0 0] 73), (5, Fresh W.heap.size #[.int .i64 0, .int .i64 0, .slice none 0 0, .slice none 0 0] 73)]) (fun k => ([[], [0], [], [0, 1, 2], [], [], [0, 1, 2, 3, 4, 5], [0, 1, 2, 3, 4, 5, 6]] : List (List Nat)).getD k []) (by kernel_rfl) (by kernel_rfl) Ext.pre (fun _ _ h => h.size) (mono_cons (stays_prepF _ _ _ _) (mono_cons (stays_prepF _ _ _ _) (mono_cons (stays_fresh _ _ _) (mono_cons (stays_fresh _ _ _) (mono_nil))))) ?_
  simp only [List.take_succ_cons, List.take_zero]
  repeat (first | (with_reducible refine Dis.lexL_quiet' (v := ?_) ?_ ?_ ?_ ?_; rotate_left; (· with_reducible rfl); (· simp [factsOf]); (· intro w1 hw1 _; go_simp; with_reducible rfl); (try simp only [Act.put, List.setIfInBounds_toArray, List.set_cons_zero, List.set_cons_succ])) | (with_reducible refine Dis.lexL_skip ?_ ?_; (· simp [Region.wanted, yielded, undef]); (try simp only [Act.put, List.setIfInBounds_toArray, List.set_cons_zero, List.set_cons_succ])) | (with_reducible refine Dis.lexL_quiet (v := ?_) ?_ ?_ ?_ ?_; rotate_left; (· simp [Region.wanted, yielded, undef]); (· simp [factsOf]); (· intro w1 hw1 _; go_simp; with_reducible rfl); (try simp only [Act.put, List.setIfInBounds_toArray, List.set_cons_zero, List.set_cons_succ])))
  with_reducible refine Dis.lexL_give' (φ := ?_) ?_ ?_ ?_ ?_ ?_; rotate_left; (· with_reducible rfl); (· simp only [factsOf, Nat.reduceAdd, ↓reduceIte, Nat.reduceEqDiff]; rfl); (· decide)
  · intro w5 hw5 _
    go_simp
    refine (hpx w5 hw5).mono ?_
    rintro e w6 ⟨g, rfl, ho, hs, e6⟩
    exact ⟨_, rfl, e6, g, rfl, own_mono ho hw5.size⟩
  rintro v1 w5 hw5 ⟨g1, rfl, ho1⟩ hk2
  clear hk2 hw5 ho1 w5
  (try simp only [Act.put, List.setIfInBounds_toArray, List.set_cons_zero, List.set_cons_succ])
  repeat (first | (with_reducible refine Dis.lexL_quiet' (v := ?_) ?_ ?_ ?_ ?_; rotate_left; (· with_reducible rfl); (· simp [factsOf]); (· intro w1 hw1 _; go_simp; with_reducible rfl); (try simp only [Act.put, List.setIfInBounds_toArray, List.set_cons_zero, List.set_cons_succ])) | (with_reducible refine Dis.lexL_skip ?_ ?_; (· simp [Region.wanted, yielded, undef]); (try simp only [Act.put, List.setIfInBounds_toArray, List.set_cons_zero, List.set_cons_succ])) | (with_reducible refine Dis.lexL_quiet (v := ?_) ?_ ?_ ?_ ?_; rotate_left; (· simp [Region.wanted, yielded, undef]); (· simp [factsOf]); (· intro w1 hw1 _; go_simp; with_reducible rfl); (try simp only [Act.put, List.setIfInBounds_toArray, List.set_cons_zero, List.set_cons_succ])))
  with_reducible refine Dis.lexL_give' (φ := ?_) ?_ ?_ ?_ ?_ ?_; rotate_left; (· with_reducible rfl); (· simp only [factsOf, Nat.reduceAdd, ↓reduceIte, Nat.reduceEqDiff]; rfl); (· decide)
  · intro w5 hw5 _
    go_simp
    refine (hpy w5 hw5).mono ?_
    rintro e w6 ⟨g, rfl, ho, hs, e6⟩
    exact ⟨_, rfl, e6, g, rfl, own_mono ho hw5.size⟩
  rintro v3 w5 hw5 ⟨g3, rfl, ho3⟩ hk2
  clear hk2 hw5 ho3 w5
  (try simp only [Act.put, List.setIfInBounds_toArray, List.set_cons_zero, List.set_cons_succ])
  with_reducible refine Dis.lexL_make' (φ := ?_) ?_ ?_ ?_ ?_; rotate_left; (· with_reducible rfl); (· simp only [factsOf, Nat.reduceAdd, ↓reduceIte, Nat.reduceEqDiff]; rfl)
  · intro w2' hw2' _
    go_simp
    exact ⟨(fresh_alloc _ _ _ _ hw2'.size).2, fun _ => ⟨_, rfl, Nat.le_refl _, by simp⟩⟩
  rintro v4 w2' hw2' ⟨b11, rfl, hb11, hblk8⟩ hk2
  clear hk2 hw2' hblk8 w2'
  (try simp only [Act.put, List.setIfInBounds_toArray, List.set_cons_zero, List.set_cons_succ])
  with_reducible refine Dis.lexL_make' (φ := ?_) ?_ ?_ ?_ ?_; rotate_left; (· with_reducible rfl); (· simp only [factsOf, Nat.reduceAdd, ↓reduceIte, Nat.reduceEqDiff]; rfl)
  · intro w2' hw2' _
    go_simp
    exact ⟨(fresh_alloc _ _ _ _ hw2'.size).2, fun _ => ⟨_, rfl, Nat.le_refl _, by simp⟩⟩
  rintro v5 w2' hw2' ⟨b12, rfl, hb12, hblk8⟩ hk2
  clear hk2 hw2' hblk8 w2'
  (try simp only [Act.put, List.setIfInBounds_toArray, List.set_cons_zero, List.set_cons_succ])
  with_reducible refine Dis.lexL_nil ?_; intro w1 hw1 hk1; simp only [List.drop_succ_cons, List.drop_zero]
  have hne := hk1.apart 4 5 (by decide) (by decide) (by decide) rfl rfl
  simp only [Dis.blkP, ne_eq, Option.some.injEq] at hne
  obtain ⟨g1', e1, ho1⟩ := hk1.get 1 rfl rfl
  obtain rfl : g1' = g1 := by simpa using e1.symm
  obtain ⟨g3', e3, ho3⟩ := hk1.get 3 rfl rfl
  obtain rfl : g3' = g3 := by simpa using e3.symm
  obtain ⟨b11', e11, _, hB11⟩ := hk1.get 4 rfl rfl
  obtain rfl : b11' = b11 := by simpa using e11.symm
  obtain ⟨b12', e12, _, hB12⟩ := hk1.get 5 rfl rfl
  obtain rfl : b12' = b12 := by simpa using e12.symm
  clear e1 e3 e11 e12 hk1
  have hnx := HX.out.2.2.1.nn
  have hny := HX.out.2.2.2.1.nn
  unfold Lts.n at hnx hny
  have n1 := row_ne ho1 (by omega) hB11
  have n2 := row_ne ho1 (by omega) hB12
  have n3 := row_ne ho3 (by omega) hB11
  have n4 := row_ne ho3 (by omega) hB12
  clear hpx hpy p0 p1 p2 q0 q1 q2 hE0 hnx hny
  go_upto_region 999 with (first
    | (with_reducible refine stop_at2 11 ?_)
    | (with_reducible refine stop_at 11 ?_)
    | (with_reducible refine wpList_store_blk _ rfl 73 _ _ rfl b11' 73 _ _ rfl rfl hB11 (by kernel_rfl) (by kernel_rfl) (by kernel_rfl) ?_; intro w2 h2 g2; have hB12' := (g2.block b12' (lt_of_block hB12) (by simp; omega)).trans hB12)
    | (with_reducible refine wpList_store_blk _ rfl 73 _ _ rfl b12' 73 _ _ rfl rfl hB12' (by kernel_rfl) (by kernel_rfl) (by kernel_rfl) ?_; intro w3 h3 g3))
  have hE2 : Ext W w2 := Below.grown hw1 g2 hw1.size (fun k hk => by cases hk; exact hb11)
  have hE3 : Ext W w3 := Below.grown hE2 g3 hE2.size (fun k hk => by cases hk; exact hb12)
  have h2' := (g3.block b11' (lt_of_block h2) (by simp; omega)).trans h2
  have r1 := ownsRow_of ho1 (w' := w3) (fun b hb => by cases hb; exact (g3.block g1' (Nat.lt_of_lt_of_le (ho1.lt g1' rfl).2 g2.size) (by simp; omega)).trans (g2.block g1' (ho1.lt g1' rfl).2 (by simp; omega)))
  have r3 := ownsRow_of ho3 (w' := w3) (fun b hb => by cases hb; exact (g3.block g3' (Nat.lt_of_lt_of_le (ho3.lt g3' rfl).2 g2.size) (by simp; omega)).trans (g2.block g3' (ho3.lt g3' rfl).2 (by simp; omega)))
  have hbx : BoxS w3 b11' x := BoxS.of h2' (sys_of hE3 HX.out.2.2.2.2.1 HX.out.2.2.1 r1)
  have hby : BoxS w3 b12' y := BoxS.of h3 (sys_of hE3 HX.out.2.2.2.2.2 HX.out.2.2.2.1 r3)
  have HX := Lib.hid (And.intro (HX.out.1.trans hE3) (And.intro (HX.out.2.1.ext hE3) (And.intro HX.out.2.2.1 HX.out.2.2.2.1)))
  clear h2 h2' h3 g2 g3 hE2 hE3 r1 r3 ho1 ho3 hB11 hB12 hB12' n1 n2 n3 n4 hw1 w1 w2 hb11 hb12 hne
  refine ⟨?_⟩
  exact conf_t11 w w3 b11' b12' x y _ _ _ _ _ _ _ _ _ _ _ _ _ _ _ _ _ _ _ _ _ _ _ _ _ _ _ _ _ _ _ _ _ _ _ _ _ _ _ _ _ _ _ _ _ _ _ _ _ _ _ _ _ _ _ _ _ _ _ _ _ _ _ _ _ _ _ _ _ _ _ _ _ _ _ _ _ _ _ _ _ _ _ _ _ _ _ _ _ _ _ _ _ _ _ _ _ _ _ _ _ _ _ _ _ _ _ _ _ _ _ _ _ _ _ _ _ _ _ _ _ _ _ _ _ _ _ _ _ _ _ _ _ _ _ _ _ _ _ _ _ _ _ _ _ _ _ _ _ _ _ _ _ _ _ _ _ _ _ _ HX.out.1 HX.out.2.1 HX.out.2.2.1 HX.out.2.2.2 hbx hby
end Go.Proofs.YtamodjlifpjaoaaDoor

namespace Go.Proofs.YtamodjlifpjaoaaDoor
open Go.RowKit Go.Maps
set_option linter.unusedVariables false
set_option linter.unusedSimpArgs false
attribute [local go_sem] Oper.quietV quietV Oper.gives givesV ext_refl_iff ext_alloc_iff ext_drew_iff ext_drewN_iff
/-- What Conforms answers of valid systems. -/
def confL (x y : Lts) : Bool × List Int × Int × Int := if x.ins ≠ y.ins ∨ x.outs ≠ y.outs then (false, [], 0, 5) else confS x y
theorem confR_eq (x y : Lts) : confR x y = if checkI x ≠ 0 then (false, [], 0, checkI x) else if checkI y ≠ 0 then (false, [], 0, checkI y) else confL x y := rfl
set_option maxRecDepth 100000 in
set_option maxHeartbeats 16000000 in
theorem conf_t8 (w W : World) (b2 b3 : Nat) (x y : Lts) (c0 c1 c4 c5 c6 c7 c8 c9 c10 c11 c12 c13 c14 c15 c16 c17 c18 c19 c20 c21 c22 c23 c24 c25 c26 c27 c28 c29 c30 c31 c32 c33 c34 c35 c36 c37 c38 c39 c40 c41 c42 c43 c44 c45 c46 c47 c48 c49 c50 c51 c52 c53 c54 c55 c56 c57 c58 c59 c60 c61 c62 c63 c64 c65 c66 c67 c68 c69 c70 c71 c72 c73 c74 c75 c76 c77 c78 c79 c80 c81 c82 c83 c84 c85 c86 c87 c88 c89 c90 c91 c92 c93 c94 c95 c96 c97 c98 c99 c100 c101 c102 c103 c104 c105 c106 c107 c108 c109 c110 c111 c112 c113 c114 c115 c116 c117 c118 c119 c120 c121 c122 c123 c124 c125 c126 c127 c128 c129 c130 c131 c132 c133 c134 c135 c136 c137 c138 c139 c140 c141 c142 c143 c144 c145 c146 c147 c148 c149 c150 c151 c152 c153 c154 c155 c156 c157 c158 c159 c160 c161 : Value) (h0 : Ext w W) (hT : Tab W) (hx : Good x) (hy : Good y) (hbx : BoxL W b2 x) (hby : BoxL W b3 y) (r : Bool × List Int × Int × Int) (hR : r = confL x y) :
    Code.wp Tryd.prog (T21 8) (bodyPost Tryd.prog Tryd.f21 (ConfP w r)) ⟨(c0 :: c1 :: .pointer (some ⟨b2, 0, none⟩) :: .pointer (some ⟨b3, 0, none⟩) :: c4 :: c5 :: c6 :: c7 :: c8 :: c9 :: c10 :: c11 :: c12 :: c13 :: c14 :: c15 :: c16 :: c17 :: c18 :: c19 :: c20 :: c21 :: c22 :: c23 :: c24 :: c25 :: c26 :: c27 :: c28 :: c29 :: c30 :: c31 :: c32 :: c33 :: c34 :: c35 :: c36 :: c37 :: c38 :: c39 :: c40 :: c41 :: c42 :: c43 :: c44 :: c45 :: c46 :: c47 :: c48 :: c49 :: c50 :: c51 :: c52 :: c53 :: c54 :: c55 :: c56 :: c57 :: c58 :: c59 :: c60 :: c61 :: c62 :: c63 :: c64 :: c65 :: c66 :: c67 :: c68 :: c69 :: c70 :: c71 :: c72 :: c73 :: c74 :: c75 :: c76 :: c77 :: c78 :: c79 :: c80 :: c81 :: c82 :: c83 :: c84 :: c85 :: c86 :: c87 :: c88 :: c89 :: c90 :: c91 :: c92 :: c93 :: c94 :: c95 :: c96 :: c97 :: c98 :: c99 :: c100 :: c101 :: c102 :: c103 :: c104 :: c105 :: c106 :: c107 :: c108 :: c109 :: c110 :: c111 :: c112 :: c113 :: c114 :: c115 :: c116 :: c117 :: c118 :: c119 :: c120 :: c121 :: c122 :: c123 :: c124 :: c125 :: c126 :: c127 :: c128 :: c129 :: c130 :: c131 :: c132 :: c133 :: c134 :: c135 :: c136 :: c137 :: c138 :: c139 :: c140 :: c141 :: c142 :: c143 :: c144 :: c145 :: c146 :: c147 :: c148 :: c149 :: c150 :: c151 :: c152 :: c153 :: c154 :: c155 :: c156 :: c157 :: c158 :: c159 :: c160 :: c161 :: []).toArray, []⟩ W := by
  subst hR
  conv => arg 2; whnf
  have HX := Lib.hid (And.intro h0 (And.intro hT (And.intro hx (And.intro hy (And.intro hbx hby)))))
  have hE0 := Ext.refl W
  obtain ⟨pA, pc, p0, p1, p2, pS⟩ := hbx
  have p0 := fun w' (h : Ext W w') => h.cell p0
  have p1 := fun w' (h : Ext W w') => h.cell p1
  have p2 := fun w' (h : Ext W w') => h.cell p2
  obtain ⟨qA, qc, q0, q1, q2, qS⟩ := hby
  have q0 := fun w' (h : Ext W w') => h.cell q0
  have q1 := fun w' (h : Ext W w') => h.cell q1
  have q2 := fun w' (h : Ext W w') => h.cell q2
  clear h0 hT hx hy pS qS p2 q2
  by_cases h1 : x.ins = y.ins
  · have k1 : (x.ins != y.ins) = false := by simp [h1]
    by_cases h2 : x.outs = y.outs
    · have k2 : (x.outs != y.outs) = false := by simp [h2]
      have H : confL x y = confS x y := if_neg (by simp [h1, h2])
      rw [H]
      clear H
      generalize x.ins = xi at *
      generalize x.outs = xo at *
      subst h1 h2
      clear k1 k2
      go_upto_region 999 with (first | (with_reducible refine stop_at 10 ?_) | (with_reducible refine stop_at2 10 ?_))
      refine ⟨?_⟩
      exact conf_t10 w W b2 b3 x y _ _ _ _ _ _ _ _ _ _ _ _ _ _ _ _ _ _ _ _ _ _ _ _ _ _ _ _ _ _ _ _ _ _ _ _ _ _ _ _ _ _ _ _ _ _ _ _ _ _ _ _ _ _ _ _ _ _ _ _ _ _ _ _ _ _ _ _ _ _ _ _ _ _ _ _ _ _ _ _ _ _ _ _ _ _ _ _ _ _ _ _ _ _ _ _ _ _ _ _ _ _ _ _ _ _ _ _ _ _ _ _ _ _ _ _ _ _ _ _ _ _ _ _ _ _ _ _ _ _ _ _ _ _ _ _ _ _ _ _ _ _ _ _ _ _ _ _ _ _ _ _ _ _ _ _ _ _ _ _ HX.out.1 HX.out.2.1 HX.out.2.2.1 HX.out.2.2.2.1 HX.out.2.2.2.2.1 HX.out.2.2.2.2.2
    · have H : Hid (confL x y = (false, [], 0, 5)) := Lib.hid (if_pos (Or.inr h2))
      have k2 : (x.outs != y.outs) = true := by simp [h2]
      generalize x.ins = xi at *
      generalize x.outs = xo at *
      subst h1
      clear k1 h2
      go_wp2
      refine bodyPost_ret (results_tmp4 rfl _ _ _) rfl ?_
      exact ⟨_, by rw [H.out]; rfl, by rw [H.out]; exact fit_nil _, HX.out.1⟩
  · have H : Hid (confL x y = (false, [], 0, 5)) := Lib.hid (if_pos (Or.inl h1))
    have k1 : (x.ins != y.ins) = true := by simp [h1]
    clear h1
    go_wp2
    refine bodyPost_ret (results_tmp4 rfl _ _ _) rfl ?_
    exact ⟨_, by rw [H.out]; rfl, by rw [H.out]; exact fit_nil _, HX.out.1⟩
set_option maxRecDepth 100000 in
set_option maxHeartbeats 16000000 in
theorem Conforms_any (w : World) (v1 v2 : Value) (x y : Lts) (hd1 : LtsV w v1 x) (hd2 : LtsV w v2 y) (hT : Tab w) : Calls Tryd.prog 21 #[v1, v2] w (ConfP w (confR x y)) := by
  obtain ⟨A, c, rfl, hr, hlen⟩ := id hd1.form
  obtain ⟨B, d, rfl, hr', hlen'⟩ := id hd2.form
  clear hr hr' hlen hlen'
  go_enter Tryd.func21, Tryd.ntmps21
  go_upto_region 1 with fail
  refine wp_named ?_
  intro W1 hW1
  have hE1 : Ext w W1 := by rw [hW1]; exact ((Ext.refl _).alloc _).alloc _
  have p0 : W1.cell? ⟨w.heap.size, 0, none⟩ = some (.int .i64 x.ins) := by rw [hW1]; simp [go_sem]
  have p1 : W1.cell? ⟨w.heap.size, 1, none⟩ = some (.int .i64 x.outs) := by rw [hW1]; simp [go_sem]
  have p2 : W1.cell? ⟨w.heap.size, 2, none⟩ = some (.slice A x.rows.length c) := by rw [hW1]; simp [go_sem]
  have q0 : W1.cell? ⟨w.heap.size + 1, 0, none⟩ = some (.int .i64 y.ins) := by rw [hW1]; simp [go_sem]
  have q1 : W1.cell? ⟨w.heap.size + 1, 1, none⟩ = some (.int .i64 y.outs) := by rw [hW1]; simp [go_sem]
  have q2 : W1.cell? ⟨w.heap.size + 1, 2, none⟩ = some (.slice B y.rows.length d) := by rw [hW1]; simp [go_sem]
  have HX := Lib.hid (And.intro hE1 (And.intro (hT.ext hE1) (And.intro (hd1.ext hE1) (And.intro (hd2.ext hE1) (And.intro (show BoxL W1 w.heap.size x from ⟨A, c, p0, p1, p2, hd1.ext hE1⟩) (show BoxL W1 (w.heap.size + 1) y from ⟨B, d, q0, q1, q2, hd2.ext hE1⟩))))))
  clear hW1 hE1 hd1 hd2 hT
  generalize w.heap.size = b2 at *
  generalize b2 + 1 = b3 at *
  have p0 := fun w' (h : Ext W1 w') => h.cell p0
  have p1 := fun w' (h : Ext W1 w') => h.cell p1
  have p2 := fun w' (h : Ext W1 w') => h.cell p2
  have q0 := fun w' (h : Ext W1 w') => h.cell q0
  have q1 := fun w' (h : Ext W1 w') => h.cell q1
  have q2 := fun w' (h : Ext W1 w') => h.cell q2
  have hE0 := Ext.refl W1
  go_wp2
  go_loopw [27] (fun iv wr => ∃ i : Nat, iv = .int .i64 i ∧ i ≤ 2 ∧ Hid ((0 < i → checkI x = 0) ∧ (1 < i → checkI y = 0)) ∧ wr.heap[W1.heap.size]? = some (.cells #[.int .i64 x.ins, .int .i64 x.outs, .slice A x.rows.length c, .int .i64 y.ins, .int .i64 y.outs, .slice B y.rows.length d] 28 (0, 0)) ∧ Ext W1 wr) (fun iv _ => 2 - (intOf iv).toNat)
  case atStart => exact ⟨0, rfl, by omega, Lib.hid ⟨fun h => absurd h (by omega), fun h => absurd h (by omega)⟩, heap_alloc_new _ _, hE0.alloc _⟩
  case round =>
    obtain ⟨i, rfl, hi, HC, hb, hE⟩ := hrel
    clear p0 p1 p2 q0 q1 q2 hE0
    obtain rfl | rfl | rfl : i = 0 ∨ i = 1 ∨ i = 2 := by omega
    · -- x
      have d0 := fun w' (h : Ext wr w') => h.cell (cell_of_blk hb 0 (u := .int .i64 x.ins) rfl)
      have d1 := fun w' (h : Ext wr w') => h.cell (cell_of_blk hb 1 (u := .int .i64 x.outs) rfl)
      have d2 := fun w' (h : Ext wr w') => h.cell (cell_of_blk hb 2 (u := .slice A x.rows.length c) rfl)
      have hch := fun W (e : Ext wr W) => check_any W _ x (HX.out.2.2.1.ext (hE.trans e))
      have HE := Lib.hid (And.intro hE hb)
      have hE9 := Ext.refl wr
      clear hE hb
      by_cases hz : checkI x = 0
      · rw [hz] at hch
        go_upto_region 4 with fail
        refine wp_named ?_
        intro W2 hW2
        have e2 : Ext wr W2 := by rw [hW2]; first | exact (Ext.refl _).alloc _ | exact ((Ext.refl _).alloc _).drew
        have f0 : W2.cell? ⟨wr.heap.size, 0, none⟩ = some (.int .i64 x.ins) := by rw [hW2]; simp [go_sem]
        have f1 : W2.cell? ⟨wr.heap.size, 1, none⟩ = some (.int .i64 x.outs) := by rw [hW2]; simp [go_sem]
        have f2 : W2.cell? ⟨wr.heap.size, 2, none⟩ = some (.slice A x.rows.length c) := by rw [hW2]; simp [go_sem]
        have hch2 := hch W2 e2
        clear hW2
        go_wp2_with ((with_reducible refine hch2.mono ?_); rintro e w6 ⟨rfl, e6⟩)
        go_roundw
        case rel => exact ⟨1, rfl, by omega, Lib.hid ⟨fun _ => hz, fun h => absurd h (by omega)⟩, heap_ext (e2.trans e6) HE.out.2, HE.out.1.trans (e2.trans e6)⟩
        case measure => simp [intOf]
      · have H : Hid (confR x y = (false, [], 0, checkI x)) := Lib.hid (by rw [confR_eq]; rw [if_pos hz])
        have h1 : (checkI x != 0) = true := by simpa using hz
        generalize checkI x = cz at *
        clear hz
        go_upto_region 4 with fail
        refine wp_named ?_
        intro W2 hW2
        have e2 : Ext wr W2 := by rw [hW2]; first | exact (Ext.refl _).alloc _ | exact ((Ext.refl _).alloc _).drew
        have f0 : W2.cell? ⟨wr.heap.size, 0, none⟩ = some (.int .i64 x.ins) := by rw [hW2]; simp [go_sem]
        have f1 : W2.cell? ⟨wr.heap.size, 1, none⟩ = some (.int .i64 x.outs) := by rw [hW2]; simp [go_sem]
        have f2 : W2.cell? ⟨wr.heap.size, 2, none⟩ = some (.slice A x.rows.length c) := by rw [hW2]; simp [go_sem]
        have hch2 := hch W2 e2
        clear hW2
        go_wp2_with ((with_reducible refine hch2.mono ?_); rintro e w6 ⟨rfl, e6⟩)
        refine bodyPost_ret (results_tmp4 rfl _ _ _) rfl ?_
        unfold ConfP
        rw [H.out]
        exact ⟨_, rfl, fit_nil _, HX.out.1.trans (HE.out.1.trans (e2.trans e6))⟩
    · -- y
      have d0 := fun w' (h : Ext wr w') => h.cell (cell_of_blk hb 3 (u := .int .i64 y.ins) rfl)
      have d1 := fun w' (h : Ext wr w') => h.cell (cell_of_blk hb 4 (u := .int .i64 y.outs) rfl)
      have d2 := fun w' (h : Ext wr w') => h.cell (cell_of_blk hb 5 (u := .slice B y.rows.length d) rfl)
      have hch := fun W (e : Ext wr W) => check_any W _ y (HX.out.2.2.2.1.ext (hE.trans e))
      have HE := Lib.hid (And.intro hE hb)
      have hE9 := Ext.refl wr
      clear hE hb
      by_cases hz : checkI y = 0
      · rw [hz] at hch
        go_upto_region 4 with fail
        refine wp_named ?_
        intro W2 hW2
        have e2 : Ext wr W2 := by rw [hW2]; first | exact (Ext.refl _).alloc _ | exact ((Ext.refl _).alloc _).drew
        have f0 : W2.cell? ⟨wr.heap.size, 0, none⟩ = some (.int .i64 y.ins) := by rw [hW2]; simp [go_sem]
        have f1 : W2.cell? ⟨wr.heap.size, 1, none⟩ = some (.int .i64 y.outs) := by rw [hW2]; simp [go_sem]
        have f2 : W2.cell? ⟨wr.heap.size, 2, none⟩ = some (.slice B y.rows.length d) := by rw [hW2]; simp [go_sem]
        have hch2 := hch W2 e2
        clear hW2
        go_wp2_with ((with_reducible refine hch2.mono ?_); rintro e w6 ⟨rfl, e6⟩)
        go_roundw
        case rel => exact ⟨2, rfl, by omega, Lib.hid ⟨fun _ => HC.out.1 (by omega), fun _ => hz⟩, heap_ext (e2.trans e6) HE.out.2, HE.out.1.trans (e2.trans e6)⟩
        case measure => simp [intOf]
      · have H : Hid (confR x y = (false, [], 0, checkI y)) := Lib.hid (by rw [confR_eq]; rw [if_neg (by simpa using HC.out.1 (by omega)), if_pos hz])
        have h1 : (checkI y != 0) = true := by simpa using hz
        generalize checkI y = cz at *
        clear hz
        go_upto_region 4 with fail
        refine wp_named ?_
        intro W2 hW2
        have e2 : Ext wr W2 := by rw [hW2]; first | exact (Ext.refl _).alloc _ | exact ((Ext.refl _).alloc _).drew
        have f0 : W2.cell? ⟨wr.heap.size, 0, none⟩ = some (.int .i64 y.ins) := by rw [hW2]; simp [go_sem]
        have f1 : W2.cell? ⟨wr.heap.size, 1, none⟩ = some (.int .i64 y.outs) := by rw [hW2]; simp [go_sem]
        have f2 : W2.cell? ⟨wr.heap.size, 2, none⟩ = some (.slice B y.rows.length d) := by rw [hW2]; simp [go_sem]
        have hch2 := hch W2 e2
        clear hW2
        go_wp2_with ((with_reducible refine hch2.mono ?_); rintro e w6 ⟨rfl, e6⟩)
        refine bodyPost_ret (results_tmp4 rfl _ _ _) rfl ?_
        unfold ConfP
        rw [H.out]
        exact ⟨_, rfl, fit_nil _, HX.out.1.trans (HE.out.1.trans (e2.trans e6))⟩
    · have hx0 := HC.out.1 (by omega)
      have hy0 := HC.out.2 (by omega)
      have hR : confR x y = confL x y := by rw [confR_eq, if_neg (by simpa using hx0), if_neg (by simpa using hy0)]
      have HG := Lib.hid (And.intro hE (And.intro (check_good hx0) (And.intro (check_good hy0) hR)))
      clear hx0 hy0 hR hE hb
      go_upto_region 999 with (first | (with_reducible refine stop_at 8 ?_) | (with_reducible refine stop_at2 8 ?_))
      refine ⟨?_⟩
      exact conf_t8 w wr b2 b3 x y _ _ _ _ _ _ _ _ _ _ _ _ _ _ _ _ _ _ _ _ _ _ _ _ _ _ _ _ _ _ _ _ _ _ _ _ _ _ _ _ _ _ _ _ _ _ _ _ _ _ _ _ _ _ _ _ _ _ _ _ _ _ _ _ _ _ _ _ _ _ _ _ _ _ _ _ _ _ _ _ _ _ _ _ _ _ _ _ _ _ _ _ _ _ _ _ _ _ _ _ _ _ _ _ _ _ _ _ _ _ _ _ _ _ _ _ _ _ _ _ _ _ _ _ _ _ _ _ _ _ _ _ _ _ _ _ _ _ _ _ _ _ _ _ _ _ _ _ _ _ _ _ _ _ _ _ _ _ _ _ (HX.out.1.trans HG.out.1) (HX.out.2.1.ext HG.out.1) HG.out.2.1 HG.out.2.2.1 (HX.out.2.2.2.2.1.ext HG.out.1) (HX.out.2.2.2.2.2.ext HG.out.1) _ HG.out.2.2.2
end Go.Proofs.YtamodjlifpjaoaaDoor

namespace Go.Proofs.YtamodjlifpjaoaaDoor
open Go.RowKit
set_option linter.unusedVariables false
set_option linter.unusedSimpArgs false
set_option maxRecDepth 100000
def coinL (m : List Arc) : Lts := ⟨1, 2, [[⟨1, 0, 1⟩], m ++ [⟨2, 0, 0⟩]]⟩
def sS : Lts := coinL []
def sI : Lts := coinL [⟨1, 0, 1⟩]
def sJ : Lts := ⟨1, 2, [[⟨1, 0, 1⟩], [⟨1, 0, 1⟩, ⟨2, 0, 0⟩, ⟨2, 1, 0⟩]]⟩
def sK : Lts := ⟨1, 2, [[⟨1, 0, 1⟩], [⟨0, 0, 2⟩, ⟨1, 0, 1⟩, ⟨2, 0, 0⟩], [⟨1, 0, 2⟩]]⟩
def sTest : List Nd := [⟨0, [1]⟩, ⟨-1, [2, 3, 4]⟩, ⟨-2, []⟩, ⟨-3, []⟩, ⟨-3, []⟩]
theorem after1_val : afterR sS [0] = ([1], 0) := by kernel_rfl
theorem after2_val : afterR sS [0, 1] = ([0], 0) := by kernel_rfl
theorem after3_val : afterR sS [3, 3] = ([0], 0) := by kernel_rfl
theorem after4_val : afterR sS [1] = ([], 0) := by kernel_rfl
theorem after5_val : afterR sK [0] = ([1, 2], 0) := by kernel_rfl
theorem obs1_val : observeR sS [0] = ([3], 0) := by kernel_rfl
theorem obs2_val : observeR sS [1] = ([1], 0) := by kernel_rfl
theorem obs3_val : observeR sK [1, 2] = ([1, 3], 0) := by kernel_rfl
theorem acc1_val : acceptsR sS = (false, 0) := by kernel_rfl
theorem acc2_val : acceptsR sI = (true, 0) := by kernel_rfl
theorem make_val : makeR sS [0, -1] = (sTest, 0) := by kernel_rfl
theorem good_S : Good sS := check_good (by kernel_rfl)
theorem good_I : Good sI := check_good (by kernel_rfl)
theorem good_J : Good sJ := check_good (by kernel_rfl)
theorem good_K : Good sK := check_good (by kernel_rfl)
theorem fndL_at {x y : Lts} (k : Nat) (h : (goC x y k).length ≤ k) (hk : k ≤ 4096) : fndL x y = goC x y k := goB_stop h (by rw [capC_eq]; exact hk)
def confGof (x y : Lts) (l : List (Fd (Nat × Nat))) : Bool × List Int × Int × Int :=
  match l.findIdx? (offC x y) with
  | none => (true, [], 0, 0)
  | some n => if 256 < (l.getD n (rt (rootC x y))).ln then (false, [], 0, 3) else (false, wayB (rootC x y) l n, (badC x y (l.getD n (rt (rootC x y))).key).getD 0, 0)
def confRof (x y : Lts) (l : List (Fd (Nat × Nat))) : Bool × List Int × Int × Int :=
  if checkI x ≠ 0 then (false, [], 0, checkI x) else if checkI y ≠ 0 then (false, [], 0, checkI y) else if x.ins ≠ y.ins ∨ x.outs ≠ y.outs then (false, [], 0, 5)
  else if !accB x then (false, [], 0, 9) else if 4096 < l.length then (false, [], 0, 3) else confGof x y l
theorem confR_of {x y : Lts} {l : List (Fd (Nat × Nat))} (h : fndL x y = l) : confR x y = confRof x y l := by subst h; rfl
def verdGof (x : Lts) (L : List Nd) (l : List (Fd (Nat × Nat))) : Bool × List Int × Int := match l.findIdx? (failB L) with | none => (true, [], 0) | some n => (false, wayB (rootV x) l n, 0)
def verdRof (x : Lts) (L : List Nd) (l : List (Fd (Nat × Nat))) : Bool × List Int × Int :=
  if checkI x ≠ 0 then (false, [], checkI x) else if 1024 < L.length then (false, [], 3) else if !rightB x.ins x.outs L then (false, [], 1) else if !accB x then (false, [], 9) else verdGof x L l
theorem verdR_of {x : Lts} {L : List Nd} {l : List (Fd (Nat × Nat))} (h : fndV x L = l) : verdR x L = verdRof x L l := by
  subst h
  unfold verdR verdRof verdT verdG verdGof
  cases (fndV x L).findIdx? (failB L) <;> rfl
theorem conf1_val : confR sI sS = (true, [], 0, 0) := by
  have h := fndL_at (x := sI) (y := sS) 10 (by decide) (by decide)
  rw [confR_of h]
  show _ = _
  kernel_rfl
theorem conf2_val : confR sJ sS = (false, [0], 2, 0) := by
  have h := fndL_at (x := sJ) (y := sS) 10 (by decide) (by decide)
  rw [confR_of h]
  show _ = _
  kernel_rfl
theorem conf3_val : confR sK sS = (false, [0], 3, 0) := by
  have h := fndL_at (x := sK) (y := sS) 10 (by decide) (by decide)
  rw [confR_of h]
  show _ = _
  kernel_rfl
theorem conf4_val : confR sS sS = (false, [], 0, 9) := by kernel_rfl
theorem right_T : rightB 1 2 sTest = true := by kernel_rfl
theorem fndV_at {x : Lts} {L : List Nd} (k : Nat) (h : (goV x L k).length ≤ k) (hk : k ≤ 32768) : fndV x L = goV x L k := goB_stop h (by rw [capV_eq]; exact hk)
theorem verd1_val : verdR sI sTest = (true, [], 0) := by
  have h := fndV_at (x := sI) (L := sTest) 10 (by decide) (by decide)
  rw [verdR_of h]
  show _ = _
  kernel_rfl
theorem verd2_val : verdR sJ sTest = (false, [0, 2], 0) := by
  have h := fndV_at (x := sJ) (L := sTest) 10 (by decide) (by decide)
  rw [verdR_of h]
  show _ = _
  kernel_rfl
theorem verd3_val : verdR sK sTest = (false, [0, 3], 0) := by
  have h := fndV_at (x := sK) (L := sTest) 10 (by decide) (by decide)
  rw [verdR_of h]
  show _ = _
  kernel_rfl
end Go.Proofs.YtamodjlifpjaoaaDoor
