/-   -/
import Derived.Test.YtmebgomnmlbgnaaDoorZG2
set_option linter.unnecessarySimpa false
set_option linter.unusedSectionVars false
namespace Go.Proofs.YtmebgomnmlbgnaaDoor
open Go.RowKit Go.Maps
set_option linter.unusedVariables false
set_option linter.unusedSimpArgs false
attribute [local go_sem] Oper.quietV quietV Oper.gives givesV ext_refl_iff ext_alloc_iff ext_drew_iff ext_drewN_iff
def StR (Wb : World) (n : Nat) (mv nv : Value) (wx : World) : Prop := ∃ gm gn, mv = .map (some gm) ∧ nv = .slice (some ⟨gn, 0, none⟩) n n ∧ OwnL Wb wx [.row 3 1 (.slice (some ⟨gn, 0, none⟩) n n) n (List.replicate n (.int .i64 0)), .blk gm (.map #[] 0)]
theorem stR1 (W : World) (n k : Nat) (hn : n ≤ 100000) (hk : k = W.heap.size + 1) : StR W n (.map (some W.heap.size)) (.slice (some ⟨k, 0, none⟩) n n) ((W.alloc (.map #[] 0)).alloc (.cells (Array.replicate n (.int .i64 0)) 3)).drew := by
  subst hk
  refine ⟨_, _, rfl, rfl, ?_⟩
  have h := ((OwnL.nil (Ext.refl W)).add (alloc_ext W (.map #[] 0)) (A := .blk W.heap.size (.map #[] 0)) ⟨Nat.le_refl _, heap_alloc_new _ _⟩).add (alloc_ext _ (.cells (Array.replicate n (.int .i64 0)) 3)) (A := .row 3 1 (.slice (some ⟨(W.alloc (.map #[] 0)).heap.size, 0, none⟩) n n) n (List.replicate n (.int .i64 0))) (own_new _ _ 3 n hn)
  have h := h.trans (drew_ext _)
  simpa using h
theorem stR2 (W : World) (n k : Nat) (hn : n ≤ 100000) (hk : k = W.heap.size + 1) : StR W n (.map (some k)) (.slice (some ⟨W.heap.size, 0, none⟩) n n) ((W.alloc (.cells (Array.replicate n (.int .i64 0)) 3)).alloc (.map #[] 0)).drew := by
  subst hk
  refine ⟨_, _, rfl, rfl, ?_⟩
  have h := ((OwnL.nil (Ext.refl W)).add (alloc_ext W (.cells (Array.replicate n (.int .i64 0)) 3)) (A := .row 3 1 (.slice (some ⟨W.heap.size, 0, none⟩) n n) n (List.replicate n (.int .i64 0))) (own_new _ _ 3 n hn)).add (alloc_ext _ (.map #[] 0)) (A := .blk (W.heap.size + 1) (.map #[] 0)) ⟨by simp, by have := heap_alloc_new (W.alloc (.cells (Array.replicate n (.int .i64 0)) 3)) (.map #[] 0); simpa using this⟩
  exact h.swap.trans (drew_ext _)
theorem wpList_build1 {P : Program} {ops : Array Oper} {rest : List Oper} {o : Oper} {a : Act} {w : World} {Q : Exit → Act → World → Prop} (hg : o.guard = none) (t : TypeId) (i : Nat) (x : Operand) (ho : o.op = .build t #[(i, x)]) (vx v : Value) (hx : a.eval x = vx)
    (hrun : (Instr.build t #[(i, vx)]).run P w = .ok v w) (h : wpList P ops Q rest (a.put o.dst v) w) : wpList P ops Q (o :: rest) a w := by
  refine wpList_plain hg fun K hK => ?_
  unfold Oper.wp
  simp only [execOp, ho, List.map_toArray, List.map_cons, List.map_nil, hx]
  simp only [Sem.run_bind, hrun, Result.andThen_ok, Sem.run_pure]
  exact hK _ _ h
theorem names_pos {rows : List (List Int)} {cl : List Int} (h : 1 ≤ rows.length) : 0 < (namesR rows cl).length := by
  have hm : keyR cl rows[0] 0 ∈ namesR rows cl := mem_namesOf.2 (List.mem_of_getElem? (keysR_get (by omega)))
  exact List.length_pos_of_mem hm
structure RowsOk (rows : List (List Int)) : Prop where
  pos : 1 ≤ rows.length
  le : rows.length ≤ 4096
  fit : ∀ r ∈ rows, r.length ≤ 16 ∧ ∀ t ∈ r, 0 ≤ t ∧ t < rows.length
theorem rowsOk_of {m : Nat} (hm : m ≤ 16) {D : DN} (h : RawOk m D) : RowsOk (intR D.rows) := by
  have hl : (intR D.rows).length = D.rows.length := by simp [intR]
  refine ⟨by rw [hl]; exact h.pos, by rw [hl]; have := h.le; omega, fun r hr => ?_⟩
  obtain ⟨r0, h0, rfl⟩ := List.mem_map.1 hr
  have h1 := h.row r0 h0
  refine ⟨by rw [List.length_map, h1.1]; exact hm, fun t ht => ?_⟩
  obtain ⟨t0, ht0, rfl⟩ := List.mem_map.1 ht
  have := h1.2 t0 ht0
  rw [hl]
  exact ⟨Int.natCast_nonneg _, by show (t0 : Int) < _; omega⟩
theorem cls0_ok {D : DN} {m : Nat} (h : RawOk m D) : ClsOk (intR D.rows).length (cls0 D.acc) 0 := by
  refine ⟨by simp [cls0, intR, h.acc], fun c hc => ?_, fun v hv => by omega⟩
  unfold cls0 at hc
  obtain ⟨b, _, rfl⟩ := List.mem_map.1 hc
  split <;> omega
set_option maxRecDepth 100000 in
set_option maxHeartbeats 16000000 in
theorem min_t8 (w0 w : World) (m : Nat) (D : DN) (b2 b4 cr ca cc : Nat) (rv av cv : Value) (c0 c3 c5 c7 c8 c9 c10 c11 c12 c13 c14 c15 c16 c17 c18 c19 c20 c21 c22 c23 c24 c25 c26 c27 c28 c29 c30 c31 c32 c33 c34 c35 c36 c37 c38 c39 c40 c41 c42 c43 c44 c45 c46 c47 c48 c49 c50 c51 c52 c53 c54 c55 c56 c57 c58 c59 c60 c61 c62 c63 c64 c65 c66 c67 c68 c69 c70 c71 c72 c73 c74 c75 c76 c77 c78 c79 c80 c81 c82 c83 c84 c85 c86 c87 c88 c89 c90 c91 c92 c93 c94 c95 c96 c97 c98 c99 c100 c101 c102 c103 c104 c105 c106 c107 c108 c109 c110 c111 c112 c113 c114 c115 c116 c117 c118 c119 c120 c121 c122 c123 c124 c125 c126 c127 c128 c129 c130 c131 c132 c133 c134 c135 c136 c137 c138 c139 c140 c141 c142 c143 c144 c145 c146 c147 c148 c149 c150 c151 c152 c153 c154 c155 c156 c157 c158 c159 c160 c161 c162 c163 c164 c165 : Value)
    (hE : Ext w0 w) (hm : m ≤ 16) (hB2 : w.heap[b2]? = some (.cells #[rv, av] 109 (0, 0))) (hB4 : w0.heap.size ≤ b4 ∧ w.heap[b4]? = some (.cells #[.int .i64 0, .slice none 0 0, .slice none 0 0] 28 (0, 0)))
    (hR : ListsC w rv (intR D.rows) cr) (hA : BoolsC w av D.acc ca) (hc : IntsC w cv (cls0 D.acc) cc) (hD : RawOk m D) :
    Code.wp Tryd.prog (T78 8) (bodyPost Tryd.prog Tryd.f78 (MinP m (minD D) w0)) ⟨(c0 :: .int .i64 (m : Int) :: .pointer (some ⟨b2, 0, none⟩) :: c3 :: .pointer (some ⟨b4, 0, none⟩) :: c5 :: cv :: c7 :: c8 :: c9 :: c10 :: c11 :: c12 :: c13 :: c14 :: c15 :: c16 :: c17 :: c18 :: c19 :: c20 :: c21 :: c22 :: c23 :: c24 :: c25 :: c26 :: c27 :: c28 :: c29 :: c30 :: c31 :: c32 :: c33 :: c34 :: c35 :: c36 :: c37 :: c38 :: c39 :: c40 :: c41 :: c42 :: c43 :: c44 :: c45 :: c46 :: c47 :: c48 :: c49 :: c50 :: c51 :: c52 :: c53 :: c54 :: c55 :: c56 :: c57 :: c58 :: c59 :: c60 :: c61 :: c62 :: c63 :: c64 :: c65 :: c66 :: c67 :: c68 :: c69 :: c70 :: c71 :: c72 :: c73 :: c74 :: c75 :: c76 :: c77 :: c78 :: c79 :: c80 :: c81 :: c82 :: c83 :: c84 :: c85 :: c86 :: c87 :: c88 :: c89 :: c90 :: c91 :: c92 :: c93 :: c94 :: c95 :: c96 :: c97 :: c98 :: c99 :: c100 :: c101 :: c102 :: c103 :: c104 :: c105 :: c106 :: c107 :: c108 :: c109 :: c110 :: c111 :: c112 :: c113 :: c114 :: c115 :: c116 :: c117 :: c118 :: c119 :: c120 :: c121 :: c122 :: c123 :: c124 :: c125 :: c126 :: c127 :: c128 :: c129 :: c130 :: c131 :: c132 :: c133 :: c134 :: c135 :: c136 :: c137 :: c138 :: c139 :: c140 :: c141 :: c142 :: c143 :: c144 :: c145 :: c146 :: c147 :: c148 :: c149 :: c150 :: c151 :: c152 :: c153 :: c154 :: c155 :: c156 :: c157 :: c158 :: c159 :: c160 :: c161 :: c162 :: c163 :: c164 :: c165 :: []).toArray, []⟩ w := by
  conv => arg 2; whnf
  have hok := rowsOk_of hm hD
  have hcl := cls0_ok hD
  have HX := Lib.hid (And.intro hE (And.intro hB2 (And.intro hB4 (And.intro hR (And.intro hA hD)))))
  have hlr : (intR D.rows).length = D.rows.length := by simp [intR]
  clear hE hB4 hA hD
  obtain ⟨rows, hrows⟩ : ∃ r, r = intR D.rows := ⟨_, rfl⟩
  rw [← hrows] at hR hok hcl HX hlr
  have HRW := Lib.hid hrows
  have HRL := Lib.hid hlr
  have hr := hR
  clear hrows hlr hR
  obtain ⟨Ar, vr, rfl, -, -, -, -, hrm⟩ := id hr
  unfold lenMax at hrm
  have K2 := Lib.hid (fun w' (e : Ext w w') => e.cell (cell_of_blk hB2 0 (u := .slice Ar rows.length cr) rfl))
  obtain ⟨cl0, hcl0⟩ : ∃ c, c = cls0 D.acc := ⟨_, rfl⟩
  have HCL0 := Lib.hid hcl0
  have hn1 := hok.pos
  have hn2 := hok.le
  have hmk := mk_ints rows.length (by omega)
  have hmm := @run_makeMap Tryd.prog
  have HOK := Lib.hid hok
  have HC0 := Lib.hid hcl
  rw [← hcl0] at HC0 hc
  clear hok hcl hB2 hcl0
  go_wp2
  go_loopg [6, 9] (rows.length + 1) (fun gk cv mv wr => ∃ (cl : List Int) (many c : Nat), mv = .int .i64 (many : Int) ∧ gk + many = rows.length + 1 ∧ Hid (ClsOk rows.length cl many) ∧ IntsC wr cv cl c ∧ Hid (∀ r, RefR rows cl many r → RefR rows cl0 0 r) ∧ Ext w wr)
  case atStart => exact ⟨cl0, 0, cc, rfl, rfl, HC0, hc, Lib.hid (fun r h => h), Ext.refl _⟩
  case round =>
    obtain ⟨cl, many, c, rfl, hgk, hcls, hc, hpend, hE⟩ := hrel
    have HC1 := hcls
    obtain ⟨W2, hW2⟩ : ∃ W, W = wr := ⟨_, rfl⟩; subst hW2
    obtain ⟨Ac, rfl, hcc, _, hcm⟩ := id hc
    unfold lenMax at hcm
    rw [hcls.out.len]
    have hclen : cl.length = rows.length := hcls.out.len
    have HCL := Lib.hid hclen
    clear hclen hcm
    go_upto_region 9 with fail
    go_cut [10, 11] (StR W2 rows.length)
    case first =>
      go_region
      all_goals go_wp2
      all_goals go_meet
      all_goals (first | exact stR1 _ _ _ (by omega) rfl | exact stR2 _ _ _ (by omega) rfl)
    case rest =>
      obtain ⟨gm, gn, rfl, rfl, hO⟩ := hcut
      obtain ⟨W3, hW3⟩ : ∃ W, W = wc := ⟨_, rfl⟩; subst hW3
      have hO : OwnL W2 W3 [.row 3 1 (.slice (some ⟨gn, 0, none⟩) rows.length rows.length) rows.length (nxC rows.length (nextR rows cl) 0), .blk gm (.map #[] 0)] := hO
      have hm0 : MapOf rowV rowOK (.map #[] 0) (mapZ (namesOf ((keysR rows cl).take 0))) := MapOf.made _ _
      clear hmm
      have k2 := K2.out W3 (hE.trans hO.ext)
      go_wp2
      clear k2
      go_loopw [49] (fun iv wr => ∃ (i : Nat) (om : Obj), iv = .int .i64 i ∧ i ≤ rows.length ∧ MapOf rowV rowOK om (mapZ (namesOf ((keysR rows cl).take i))) ∧ OwnL W2 wr [.row 3 1 (.slice (some ⟨gn, 0, none⟩) rows.length rows.length) rows.length (nxC rows.length (nextR rows cl) i), .blk gm om]) (fun iv _ => rows.length - (intOf iv).toNat)
      case atStart => exact ⟨0, _, rfl, Nat.zero_le _, hm0, hO⟩
      case round =>
        clear hm0 hO
        obtain ⟨i, om, rfl, hi, hmo, hO⟩ := hrel
        obtain ⟨W4, hW4⟩ : ∃ W, W = wr := ⟨_, rfl⟩; subst hW4
        by_cases hil : i < rows.length
        · obtain ⟨b, o, u, c', hv, _, c1, hi1⟩ := hr.at_ hil
          injection hv with hv; subst hv
          have c1 := (hE.trans hO.ext).cell c1
          have hfit := HOK.out.fit _ (List.getElem_mem hil)
          have hkg := keysR_get (cl := cl) hil
          have hicl : i < cl.length := by rw [HCL.out]; exact hil
          obtain ⟨bc, oc, hAc, _, c2⟩ := (hcc.ext hO.ext).at_int hicl
          subst hAc
          have hcg : cl[i] = cl.getD i 0 := by simp [List.getD, hicl]
          rw [hcg] at c2
          have HFT := Lib.hid (And.intro hfit hkg)
          have HIL := Lib.hid (And.intro hil hicl)
          clear hfit hkg hcg hicl
          generalize rows[i] = row at *
          obtain ⟨A2, rfl, hi2, _, him⟩ := hi1
          unfold lenMax at him
          have hr16 : row.length ≤ 16 := HFT.out.1.1
          have hks : (kA (keyX cl row i 0)).size = 17 := by rw [kA_size, keyX_len (by omega) (by omega)]
          have hbld := fun w => build_key w (cl.getD i 0)
          generalize hci : cl.getD i 0 = ci at *
          have HCI := Lib.hid hci
          clear hci
          go_upto_region 14 with (first
            | (with_reducible refine wpList_build1 rfl 151 0 _ rfl (.int .i64 ci) _ rfl (hbld _) ?_)
            | (with_reducible refine wpList_store_blk _ rfl 151 _ _ rfl W4.heap.size 151 (kA (ci :: List.replicate 16 0)) _ rfl rfl (heap_alloc_new _ _) (by kernel_rfl) (by kernel_rfl) (kA_one _) ?_; intro w5 h5 g5))
          have hE5 : Ext W4 w5 := Below.grown ((Ext.refl W4).alloc _) g5 ((Ext.refl W4).alloc _).size (fun k hk => by cases hk; exact Nat.le_refl _)
          have hO5 := hO.add hE5 (A := .blk W4.heap.size (.cells (kA (ci :: List.replicate 16 0)) 151)) ⟨Nat.le_refl _, h5⟩
          rw [← HCI.out, ← keyX_zero cl row i] at hO5
          generalize hb11 : W4.heap.size = b11 at *
          clear g5 h5 hE5 c1 c2 hO hbld HCI hb11 hks
          go_wp2
          go_loopw [61] (fun iv wr => ∃ x : Nat, iv = .int .i64 x ∧ x ≤ row.length ∧ OwnL W2 wr [.blk b11 (.cells (kA (keyX cl row i x)) 151), .row 3 1 (.slice (some ⟨gn, 0, none⟩) rows.length rows.length) rows.length (nxC rows.length (nextR rows cl) i), .blk gm om]) (fun iv _ => row.length - (intOf iv).toNat)
          case atStart => exact ⟨0, rfl, Nat.zero_le _, hO5⟩
          case round =>
            clear hO5
            obtain ⟨x, rfl, hx, hO⟩ := hrel
            obtain ⟨W5, hW5⟩ : ∃ W, W = wr := ⟨_, rfl⟩; subst hW5
            by_cases hxl : x < row.length
            · obtain ⟨q, hq⟩ : ∃ q : Nat, row[x] = (q : Int) := ⟨row[x].toNat, by have := (HFT.out.1.2 row[x] (List.getElem_mem hxl)).1; omega⟩
              have hqn : q < rows.length := by have := (HFT.out.1.2 row[x] (List.getElem_mem hxl)).2; omega
              have hqc : q < cl.length := by rw [HCL.out]; exact hqn
              obtain ⟨br, or, hAr, _, c3⟩ := (hi2.ext (hE.trans hO.ext)).at_int hxl
              subst hAr
              obtain ⟨bc', oc', hAc, _, c4⟩ := (hcc.ext hO.ext).at_int hqc
              cases hAc
              rw [hq] at c3
              have hst : ∃ u, W5.cell? ⟨b11, 1 + x, none⟩ = some u := by
                obtain ⟨u, hu⟩ := kA_get (keyX cl row i x) (i := x + 1) (by rw [keyX_len (by omega) (by omega)]; omega)
                exact ⟨u, by rw [cell_of_row W5 b11 (1 + x) _ 151 (0, 0) (hO.get 0 rfl).2, Nat.add_comm]; exact hu⟩
              obtain ⟨u0, hst⟩ := hst
              have hfz := free_of_blk (hO.get 0 rfl).2 (1 + x)
              have hO6 := hO.put 0 (b := b11) rfl (1 + x) (.int .i64 cl[q])
              rw [kA_set, show (keyX cl row i x).set (1 + x) cl[q] = (keyX cl row i x).set (x + 1) cl[q] by rw [Nat.add_comm]] at hO6
              have hkx := keyX_set (cl := cl) (i := i) (by omega : x < 16) hxl
              rw [hq, show cl.getD (q : Int).toNat 0 = cl[q] by simp [List.getD, hqc]] at hkx
              rw [hkx] at hO6
              have HO := Lib.hid hO6
              have HQ := Lib.hid hq
              clear hO hkx hO6 hq
              go_wp2
              refine ⟨⟨x + 1, by go_num, by omega, HO.out⟩, ?_⟩
              simp [intOf]; omega
            · have hxe : x = row.length := by omega
              subst hxe
              have hks : (kA (keyX cl row i row.length)).size = 17 := by rw [kA_size, keyX_len (by omega) (by omega)]
              have hkeq : keyX cl row i row.length = keyR cl row i := rfl
              have hkok : rowOK (keyR cl row i) := keyR_ok hcls.out.val hr16
              rw [hkeq] at hO hks
              have hblk := (hO.get 0 rfl).2
              have hmW := hmo W5 gm (hO.get 2 rfl).2
              have hil := HIL.out.1
              have hcur : ∃ u, W5.cell? ⟨gn, i, none⟩ = some u := by
                have h1 : W5.ownsRow W2.heap.size 3 1 _ _ _ := hO.get 1 rfl
                rw [h1.cellAt i (by omega)]
                exact ⟨_, List.getElem?_eq_getElem (by rw [h1.1]; omega)⟩
              obtain ⟨u0, hcur⟩ := hcur
              have hfz := World.ownsRow.frozenAt (show W5.ownsRow W2.heap.size 3 1 _ _ _ from hO.get 1 rfl) i
              have hiI : (i : Int) < (rows.length : Int) := by omega
              have HO := Lib.hid hO
              clear hO hkeq hil
              generalize hkk : keyR cl row i = key at *
              by_cases hmem : key ∈ namesOf ((keysR rows cl).take i)
              · have hg : getM (mapZ (namesOf ((keysR rows cl).take i))) key = some (idxN (namesOf ((keysR rows cl).take i)) key : Int) := mapZ_some (namesOf_nodup _) hmem
                have hns : namesOf ((keysR rows cl).take (i + 1)) = namesOf ((keysR rows cl).take i) := by rw [names_step HFT.out.2]; exact addN_mem hmem
                have hnx := next_at HFT.out.2
                rw [hns] at hnx
                have hset := nxC_set (nextR_len rows cl) HIL.out.1 hnx
                have hO6 := HO.out.store 1 rfl i (.int .i64 (idxN (namesOf ((keysR rows cl).take i)) key : Int))
                rw [hset] at hO6
                have HO6 := Lib.hid hO6
                have HNS := Lib.hid hns
                have HG := Lib.hid hg
                clear hg hns hnx hset hO6 HO hmem
                go_upto_region 20 with (first
                  | (with_reducible refine wpList_load_row rfl 151 _ rfl b11 rfl 151 _ (0, 0) _ hblk Tryd.underlying151 rfl (by rw [hks]; kernel_rfl) ?_)
                  | (at_lookup; refine wpList_lookup_is rfl _ _ 148 true rfl 3 key151 Tryd.underlying148 (zero3 _) rfl hmW key rfl hkok ?_; rw [HG.out]))
                go_wp2_with (first
                  | (with_reducible refine wpList_load_row rfl 151 _ rfl b11 rfl 151 _ (0, 0) _ hblk Tryd.underlying151 rfl (by rw [hks]; kernel_rfl) ?_)
                  | (at_lookup; refine wpList_lookup_is rfl _ _ 148 false rfl 3 key151 Tryd.underlying148 (zero3 _) rfl hmW key rfl hkok ?_; rw [HG.out]))
                refine ⟨⟨i + 1, om, by go_num, by omega, by rw [HNS.out]; exact hmo, HO6.out.drop⟩, ?_⟩
                simp [intOf]; omega
              · have hg : getM (mapZ (namesOf ((keysR rows cl).take i))) key = none := mapZ_none hmem
                have hns : namesOf ((keysR rows cl).take (i + 1)) = namesOf ((keysR rows cl).take i) ++ [key] := by rw [names_step HFT.out.2]; exact addN_new hmem
                have hnx := next_at HFT.out.2
                have hset := nxC_set (nextR_len rows cl) HIL.out.1 hnx
                have hg2 : getM (mapZ (namesOf ((keysR rows cl).take i)) ++ [(key, (((mapZ (namesOf ((keysR rows cl).take i))).length : Nat) : Int))]) key = some (idxN (namesOf ((keysR rows cl).take (i + 1))) key : Int) := by
                  rw [mapZ_len, ← mapZ_snoc, ← hns]
                  exact mapZ_some (namesOf_nodup _) (by rw [hns]; simp)
                have hmz : mapZ (namesOf ((keysR rows cl).take (i + 1))) = mapZ (namesOf ((keysR rows cl).take i)) ++ [(key, (((mapZ (namesOf ((keysR rows cl).take i))).length : Nat) : Int))] := by
                  rw [mapZ_len, ← mapZ_snoc, ← hns]
                have HG := Lib.hid hg
                have HG2 := Lib.hid hg2
                have HMZ := Lib.hid hmz
                have HSET := Lib.hid hset
                clear hg hg2 hmz hns hnx hset hmem
                go_upto_region 21 with (first
                  | (with_reducible refine wpList_load_row rfl 151 _ rfl b11 rfl 151 _ (0, 0) _ hblk Tryd.underlying151 rfl (by rw [hks]; kernel_rfl) ?_)
                  | (at_lookup; refine wpList_lookup_is rfl _ _ 148 true rfl 3 key151 Tryd.underlying148 (zero3 _) rfl hmW key rfl hkok ?_; rw [HG.out]))
                clear hcur hfz u0
                go_upto_region 22 with (first
                  | (with_reducible refine wpList_load_row rfl 151 _ rfl b11 rfl 151 _ (0, 0) _ hblk Tryd.underlying151 rfl (by rw [hks]; kernel_rfl) ?_)
                  | (with_reducible refine wpList_len_is rfl _ 148 rfl Tryd.underlying148 rfl hmW ?_)
                  | (with_reducible refine wpList_update_new rfl _ _ _ 148 rfl 3 key151 Tryd.underlying148 rfl hmW key rfl hkok HG.out _ rfl ?_; intro w6 hm6 hg6))
                obtain ⟨om2, hb2, hmo2⟩ := mapOf_of hm6
                have hO6 := HO.out.step (A' := .blk gm om2) 2 rfl hg6 (fun c hc => by cases hc; rfl) ⟨(HO.out.get 2 rfl).1, hb2⟩ (fun c hc => .inl hc)
                have hO6 : OwnL W2 w6 [.blk b11 (.cells (kA key) 151), .row 3 1 (.slice (some ⟨gn, 0, none⟩) rows.length rows.length) rows.length (nxC rows.length (nextR rows cl) i), .blk gm om2] := hO6
                have hblk := (hO6.get 0 rfl).2
                have hcur : ∃ u, w6.cell? ⟨gn, i, none⟩ = some u := by
                  have h1 : w6.ownsRow W2.heap.size 3 1 _ _ _ := hO6.get 1 rfl
                  rw [h1.cellAt i (by have := HIL.out.1; omega)]
                  exact ⟨_, List.getElem?_eq_getElem (by rw [h1.1]; have := HIL.out.1; omega)⟩
                obtain ⟨u0, hcur⟩ := hcur
                have hfz := World.ownsRow.frozenAt (show w6.ownsRow W2.heap.size 3 1 _ _ _ from hO6.get 1 rfl) i
                have hO7 := hO6.store 1 rfl i (.int .i64 (idxN (namesOf ((keysR rows cl).take (i + 1))) key : Int))
                rw [HSET.out] at hO7
                have HO7 := Lib.hid hO7
                clear hO6 hO7 HSET HO HG hmW hb2 hg6
                go_wp2_with (first
                  | (with_reducible refine wpList_load_row rfl 151 _ rfl b11 rfl 151 _ (0, 0) _ hblk Tryd.underlying151 rfl (by rw [hks]; kernel_rfl) ?_)
                  | (at_lookup; refine wpList_lookup_is rfl _ _ 148 false rfl 3 key151 Tryd.underlying148 (zero3 _) rfl hm6 key rfl hkok ?_; rw [HG2.out]))
                refine ⟨⟨i + 1, om2, by go_num, by omega, by rw [HMZ.out]; exact hmo2, HO7.out.drop⟩, ?_⟩
                simp [intOf]; omega
        · have hie : i = rows.length := by omega
          subst hie
          have hall : (keysR rows cl).take rows.length = keysR rows cl := List.take_of_length_le (by rw [keysR_len]; exact Nat.le_refl _)
          rw [hall] at hmo
          rw [nxC_all (nextR_len rows cl)] at hO
          have hmW := hmo W4 gm (hO.get 1 rfl).2
          have hml : (mapZ (namesOf (keysR rows cl))).length = (namesR rows cl).length := mapZ_len _
          have hfit := hO.ints 0 rfl (nextR_len rows cl) (by unfold lenMax; omega)
          obtain ⟨c2, hic2, -⟩ : ∃ c2, IntsC W4 (.slice (some ⟨gn, 0, none⟩) rows.length rows.length) (nextR rows cl) c2 ∧ True := by
            obtain ⟨c2, h2⟩ := ints_of_owns (e := 3) (base := W2.heap.size) (xs := nextR rows cl) (by rw [nextR_len]; exact hO.get 0 rfl) (by rw [nextR_len]; unfold lenMax; omega)
            exact ⟨c2, h2, trivial⟩
          have hnok := nextR_ok (cl := cl) (rows := rows) (by omega)
          have hle := many_le HC1.out
          have hMn := namesR_le rows cl
          have hrefS := @RefR.stop rows cl many
          have hrefN := @RefR.step rows cl many
          have hM0 : 0 < (namesR rows cl).length := names_pos hn1
          generalize hMM : (namesR rows cl).length = M at *
          have HML := Lib.hid hml
          have hE9 := hE.trans hO.ext
          by_cases hst : M = many
          · subst hst
            have HI2 := Lib.hid hic2
            have HM0 := Lib.hid (And.intro hMM hM0)
            have HP := Lib.hid (hpend.out _ (hrefS rfl))
            have HK := Lib.hid hnok
            have hE9 := Lib.hid hE9
            clear hfit hic2 hnok hle hMn hrefS hrefN hMM hml hpend hM0
            go_upto_region 999 with (first
              | (with_reducible refine stop_at 27 ?_)
              | (refine wpList_len_is rfl _ 148 rfl Tryd.underlying148 rfl hmW ?_; rw [HML.out]))
            refine ⟨?_⟩
            have hcc := HI2.out
            exact min_t27 w0 W4 m D (nextR rows cl) b2 b4 cr ca _ _ av _ _ _ _ _ _ _ _ _ _ _ _ _ _ _ _ _ _ _ _ _ _ _ _ _ _ _ _ _ _ _ _ _ _ _ _ _ _ _ _ _ _ _ _ _ _ _ _ _ _ _ _ _ _ _ _ _ _ _ _ _ _ _ _ _ _ _ _ _ _ _ _ _ _ _ _ _ _ _ _ _ _ _ _ _ _ _ _ _ _ _ _ _ _ _ _ _ _ _ _ _ _ _ _ _ _ _ _ _ _ _ _ _ _ _ _ _ _ _ _ _ _ _ _ _ _ _ _ _ _ _ _ _ _ _ _ _ _ _ _ _ _ _ _ _ _ _ _ _ _ _ _ _ _ _ _ _ _ _ _ _ _ _ _ (HX.out.1.trans hE9.out) hm (heap_ext hE9.out HX.out.2.1) ⟨HX.out.2.2.1.1, heap_ext hE9.out HX.out.2.2.1.2⟩ (by rw [← HRW.out]; exact HX.out.2.2.2.1.ext hE9.out) (HX.out.2.2.2.2.1.ext hE9.out) hcc HX.out.2.2.2.2.2 ⟨HK.out.len.trans HRL.out, HK.out.val⟩ (by
              have h1 := pick_len (rows := rows) (cl := cl) (Nat.le_refl _)
              rw [← HRL.out, h1, List.take_of_length_le (by rw [keysR_len]; exact Nat.le_refl _)]
              have h2 := HM0.out.1
              have h3 := HM0.out.2
              unfold namesR at h2
              omega) (by
              have h1 := refG_of (by omega) HP.out HC0.out
              unfold minD
              rw [← HRW.out, ← HRL.out]
              have h2 : refG rows (rows.length + 1) (cls0 D.acc) 0 = some (nextR rows cl, M) := by rw [← HCL0.out]; exact h1
              rw [h2]; rfl)
          · have hne : ((M : Int) == (many : Int)) = false := by simp; omega
            have HP : Hid (∀ r, RefR rows (nextR rows cl) M r → RefR rows cl0 0 r) := Lib.hid (fun r h => hpend.out _ (hrefN hst h))
            have HK := Lib.hid hnok
            have HL := Lib.hid (And.intro hle hMn)
            have HI := Lib.hid hic2
            have HS := Lib.hid hst
            have hE9 := Lib.hid hE9
            clear hfit hic2 hnok hle hMn hrefS hrefN hMM hml hpend hst
            go_wp2_with (refine wpList_len_is rfl _ 148 rfl Tryd.underlying148 rfl hmW ?_; rw [HML.out])
            go_roundg (rows.length + 1 - M)
            case rel => exact ⟨nextR rows cl, M, _, rfl, by have := HL.out; omega, HK, HI.out, HP, hE9.out⟩
            case measure => have := HL.out; have := HS.out; omega
end Go.Proofs.YtmebgomnmlbgnaaDoor

namespace Go.Proofs.YtmebgomnmlbgnaaDoor
open Go.RowKit Go.Maps
set_option linter.unusedVariables false
set_option linter.unusedSimpArgs false
attribute [local go_sem] Oper.quietV quietV Oper.gives givesV ext_refl_iff ext_alloc_iff ext_drew_iff ext_drewN_iff
set_option maxRecDepth 100000 in
set_option maxHeartbeats 16000000 in
theorem minimal_any {w : World} {m : Nat} {D : DN} {rv av : Value} {cr ca : Nat} (hm : m ≤ 16) (hD : RawOk m D) (hR : ListsC w rv (intR D.rows) cr) (hA : BoolsC w av D.acc ca) :
    Calls Tryd.prog 78 #[.agg #[rv, av], .int .i64 (m : Int)] w (MinP m (minD D) w) := by
  have hlr : (intR D.rows).length = D.rows.length := by simp [intR]
  obtain ⟨Ar, vr, rfl, -⟩ := id hR
  rw [hlr] at hR ⊢
  obtain ⟨ga, oa, rfl, -⟩ := bools_row hA (s := 0) (by rw [hD.acc]; exact hD.pos)
  have hmk := mk_ints D.rows.length (by have := hD.le; omega)
  have HD := Lib.hid hD
  have HR := Lib.hid (And.intro hR hA)
  have hn := hD.le
  have hacc := Lib.hid hD.acc
  clear hD hR hA hlr
  go_enter Tryd.func78, Tryd.ntmps78
  go_upto_region 1 with fail
  refine wp_named ?_
  intro W1 hW1
  have hE1 : Ext w W1 := by rw [hW1]; exact (alloc_ext _ _).trans (alloc_ext _ _)
  have hB2 : W1.heap[w.heap.size]? = some (.cells #[.slice Ar D.rows.length cr, .slice (some ⟨ga, oa, none⟩) D.acc.length ca] 109) := by rw [hW1]; exact heap_ext (alloc_ext _ _) (heap_alloc_new _ _)
  have hB4 : W1.heap[w.heap.size + 1]? = some zDfa := by rw [hW1]; exact heap_new2 _ _ _
  have k0 := cell_of_blk hB2 0 (u := .slice Ar D.rows.length cr) rfl
  have k1 := fun w' (e : Ext W1 w') => e.cell (cell_of_blk hB2 1 (u := .slice (some ⟨ga, oa, none⟩) D.acc.length ca) rfl)
  have HB := Lib.hid (And.intro hB2 (And.intro hB4 hE1))
  clear hW1 hB2 hB4 hE1
  go_upto_region 2 with fail
  refine wp_named ?_
  intro W2 hW2
  have hO2 : OwnL W1 W2 [.row 3 1 (.slice (some ⟨W1.heap.size, 0, none⟩) D.rows.length D.rows.length) D.rows.length (nxC D.rows.length (cls0 D.acc) 0)] := by
    rw [hW2]
    exact (OwnL.nil (Ext.refl W1)).add (alloc_ext _ _) (A := .row 3 1 (.slice (some ⟨W1.heap.size, 0, none⟩) D.rows.length D.rows.length) D.rows.length (List.replicate D.rows.length (.int .i64 0))) (own_new _ _ 3 _ (by omega))
  have HO2 := Lib.hid hO2
  have k1 := k1 W2 hO2.ext
  obtain ⟨gc, hgc⟩ : ∃ g, g = W1.heap.size := ⟨_, rfl⟩
  rw [← hgc] at HO2 ⊢
  clear hW2 hO2 hmk k0 hgc
  go_wp2
  clear k1
  go_loopw [32] (fun iv wr => ∃ i : Nat, iv = .int .i64 i ∧ i ≤ D.rows.length ∧ Hid (OwnL W1 wr [.row 3 1 (.slice (some ⟨gc, 0, none⟩) D.rows.length D.rows.length) D.rows.length (nxC D.rows.length (cls0 D.acc) i)])) (fun iv _ => D.rows.length - (intOf iv).toNat)
  case atStart => exact ⟨0, rfl, Nat.zero_le _, HO2⟩
  case round =>
    clear HO2
    obtain ⟨i, rfl, hi, HO⟩ := hrel
    obtain ⟨W3, hW3⟩ : ∃ W, W = wr := ⟨_, rfl⟩; subst hW3
    have hcl : (cls0 D.acc).length = D.rows.length := by rw [← hacc.out]; simp [cls0]
    by_cases hlt : i < D.rows.length
    · have hiA : i < D.acc.length := by rw [hacc.out]; exact hlt
      have hltI : (i : Int) < (D.rows.length : Int) := by omega
      have hiI : (i : Int) < (D.acc.length : Int) := by omega
      obtain ⟨ga', oa', hva, q3⟩ := bools_row HR.out.2 hiA
      cases hva
      have q3 := HB.out.2.2.cell q3
      have q3 := HO.out.ext.cell q3
      have hci : (cls0 D.acc)[i]? = some (if D.ac i then 1 else 0) := by unfold cls0; rw [List.getElem?_map, getD_of hiA]; rfl
      cases hb : D.ac i with
      | false =>
        rw [hb] at q3
        have hci : (cls0 D.acc)[i]? = some 0 := by rw [hci, hb]; rfl
        have hst := nxC_same (n := D.rows.length) hcl hlt hci
        have HO := HO.out
        rw [hst] at HO
        have HO := Lib.hid HO
        clear hst hci hcl hb
        go_wp2
        go_roundw
        case rel => exact ⟨i + 1, by go_num, by omega, HO⟩
        case measure => simp [intOf]; omega
      | true =>
        rw [hb] at q3
        have hci : (cls0 D.acc)[i]? = some 1 := by rw [hci, hb]; rfl
        have s0 := cell_own HO.out 0 rfl (nxC_at hcl hlt)
        have sf := free_own (e := 3) HO.out 0 rfl i
        have hst := HO.out.store 0 rfl i (.int .i64 1)
        rw [nxC_set (n := D.rows.length) hcl hlt hci] at hst
        have HST := Lib.hid hst
        clear hst hci hcl hb HO
        go_wp2
        go_roundw
        case rel => exact ⟨i + 1, by go_num, by omega, HST⟩
        case measure => simp [intOf]; omega
    · have hie : i = D.rows.length := by omega
      subst hie
      have hltI : ¬ (D.acc.length : Int) < (D.acc.length : Int) := by omega
      have hltI2 : ¬ (D.rows.length : Int) < (D.acc.length : Int) := by rw [hacc.out]; omega
      have hO := HO.out
      rw [nxC_all hcl] at hO
      have hit : IntsC W3 (.slice (some ⟨gc, 0, none⟩) D.rows.length D.rows.length) (cls0 D.acc) (cls0 D.acc).length := hO.ints 0 rfl hcl (by unfold lenMax; omega)
      have HI := Lib.hid (And.intro hit hO.ext)
      clear hit hO hcl HO
      go_upto_region 999 with (with_reducible refine stop_at2 8 ?_)
      refine ⟨?_⟩
      exact min_t8 w W3 m D w.heap.size (w.heap.size + 1) cr ca _ _ _ _ _ _ _ _ _ _ _ _ _ _ _ _ _ _ _ _ _ _ _ _ _ _ _ _ _ _ _ _ _ _ _ _ _ _ _ _ _ _ _ _ _ _ _ _ _ _ _ _ _ _ _ _ _ _ _ _ _ _ _ _ _ _ _ _ _ _ _ _ _ _ _ _ _ _ _ _ _ _ _ _ _ _ _ _ _ _ _ _ _ _ _ _ _ _ _ _ _ _ _ _ _ _ _ _ _ _ _ _ _ _ _ _ _ _ _ _ _ _ _ _ _ _ _ _ _ _ _ _ _ _ _ _ _ _ _ _ _ _ _ _ _ _ _ _ _ _ _ _ _ _ _ _ _ _ _ _ _ _ _ _ _ _ (HB.out.2.2.trans HI.out.2) hm (heap_ext HI.out.2 HB.out.1) ⟨Nat.le_succ _, heap_ext HI.out.2 HB.out.2.1⟩ (HR.out.1.ext (HB.out.2.2.trans HI.out.2)) (HR.out.2.ext (HB.out.2.2.trans HI.out.2)) HI.out.1 HD.out
end Go.Proofs.YtmebgomnmlbgnaaDoor
