/- ExtendsKnown 9, backwards: regions 5 to 9. -/
import Derived.Test.YtggffdkgfgdaoaaDoorGT
import Derived.Test.YtggffdkgfgdaoaaDoorE16
namespace Go.Proofs.YtggffdkgfgdaoaaDoor
open Go.RowKit Go.Maps
set_option linter.unusedVariables false
set_option linter.unusedSimpArgs false
attribute [local go_sem] Oper.quietV quietV Oper.gives givesV ext_refl_iff ext_alloc_iff ext_drew_iff ext_drewN_iff
theorem kx_parts {o : Option (List Sp × Rws)} (h : o.map (fun r => (r.1.length, r.2.length, r.2[63]?)) = some (64, 64, some [(-1, -1), (-1, -1)])) : ∃ S rows, o = some (S, rows) ∧ S.length = 64 ∧ rows.length = 64 ∧ rows[63]? = some [(-1, -1), (-1, -1)] := by
  cases o with
  | none => cases h
  | some r => obtain ⟨S, rows⟩ := r; simp at h; exact ⟨S, rows, rfl, h.1, h.2.1, h.2.2⟩
theorem unf_lim (W : World) (xv : Value) (x : Xt) (hx : XtV W x xv) (hT : OpsTab W) (h0 : xtR x = 0) (h1 : unfR x = none) :
    Calls Tryd.prog 19 #[xv] W (fun e w' => e = .returned (.tuple #[.agg #[.int .i64 0, .int .i64 0, .slice none 0 0], .slice none 0 0, .int .i64 3]) ∧ Ext W w') := by
  refine (unfold_any W xv x hx hT).mono ?_
  rintro e w' ⟨_, h, _⟩
  exact h h0 h1
set_option maxRecDepth 100000 in
set_option maxHeartbeats 16000000 in
theorem known_t5 (w W : World) (d m1 m2 m3 : Nat) (A1 A2 A3 : Option Addr) (c0 c2 c3 c4 c5 c6 c7 c8 c9 c10 c11 c12 c13 c14 c15 c16 c17 c18 c19 c20 c21 c22 c23 c24 c25 c26 c27 c28 c29 c30 c31 c32 c33 c34 c35 c36 c37 c38 c39 c40 c41 c42 c43 c44 c45 c46 c47 c48 c49 c50 c51 c52 c53 c54 c55 c56 c57 c58 c59 c60 c61 c62 c63 c64 c65 c66 c67 c68 c69 c70 c71 c72 c73 c74 c75 c76 c77 c78 c79 c80 c81 c82 c83 c84 c85 c86 c87 c88 c89 c90 c91 c92 c93 c94 c95 c96 c97 c98 c99 c100 c101 c102 c103 c104 c105 c106 c107 c108 c109 c110 c111 c112 c113 c114 c115 c116 c117 c118 c119 c120 c121 c122 c123 c124 c125 c126 c127 c128 c129 c130 c131 c132 c133 c134 c135 c136 c137 c138 c139 c140 c141 c142 c143 c144 c145 c146 c147 c148 c149 c150 c151 c152 c153 c154 c155 c156 c157 c158 c159 c160 c161 c162 c163 c164 c165 c166 c167 c168 c169 c170 c171 c172 c173 c174 c175 c176 c177 c178 c179 c180 c181 c182 c183 c184 c185 c186 c187 c188 c189 c190 c191 c192 c193 c194 c195 c196 c197 c198 c199 c200 c201 c202 c203 c204 c205 c206 c207 c208 c209 c210 c211 c212 c213 : Value) (h0 : Ext w W) (hT : OpsTab w)
    (hB : W.heap[d]? = some (.cells #[.int .i64 2, .int .i64 2, .int .i64 1, .slice A1 1 m1, .slice A2 1 m2, .slice A3 1 m3] 31 (0, 0))) (hX : XtV W kX (.agg #[.int .i64 2, .int .i64 2, .int .i64 1, .slice A1 1 m1, .slice A2 1 m2, .slice A3 1 m3])) :
    Code.wp Tryd.prog (T9 5) (bodyPost Tryd.prog Tryd.f9 (LivP w)) ⟨(c0 :: .pointer (some ⟨d, 0, none⟩) :: c2 :: c3 :: c4 :: c5 :: c6 :: c7 :: c8 :: c9 :: c10 :: c11 :: c12 :: c13 :: c14 :: c15 :: c16 :: c17 :: c18 :: c19 :: c20 :: c21 :: c22 :: c23 :: c24 :: c25 :: c26 :: c27 :: c28 :: c29 :: c30 :: c31 :: c32 :: c33 :: c34 :: c35 :: c36 :: c37 :: c38 :: c39 :: c40 :: c41 :: c42 :: c43 :: c44 :: c45 :: c46 :: c47 :: c48 :: c49 :: c50 :: c51 :: c52 :: c53 :: c54 :: c55 :: c56 :: c57 :: c58 :: c59 :: c60 :: c61 :: c62 :: c63 :: c64 :: c65 :: c66 :: c67 :: c68 :: c69 :: c70 :: c71 :: c72 :: c73 :: c74 :: c75 :: c76 :: c77 :: c78 :: c79 :: c80 :: c81 :: c82 :: c83 :: c84 :: c85 :: c86 :: c87 :: c88 :: c89 :: c90 :: c91 :: c92 :: c93 :: c94 :: c95 :: c96 :: c97 :: c98 :: c99 :: c100 :: c101 :: c102 :: c103 :: c104 :: c105 :: c106 :: c107 :: c108 :: c109 :: c110 :: c111 :: c112 :: c113 :: c114 :: c115 :: c116 :: c117 :: c118 :: c119 :: c120 :: c121 :: c122 :: c123 :: c124 :: c125 :: c126 :: c127 :: c128 :: c129 :: c130 :: c131 :: c132 :: c133 :: c134 :: c135 :: c136 :: c137 :: c138 :: c139 :: c140 :: c141 :: c142 :: c143 :: c144 :: c145 :: c146 :: c147 :: c148 :: c149 :: c150 :: c151 :: c152 :: c153 :: c154 :: c155 :: c156 :: c157 :: c158 :: c159 :: c160 :: c161 :: c162 :: c163 :: c164 :: c165 :: c166 :: c167 :: c168 :: c169 :: c170 :: c171 :: c172 :: c173 :: c174 :: c175 :: c176 :: c177 :: c178 :: c179 :: c180 :: c181 :: c182 :: c183 :: c184 :: c185 :: c186 :: c187 :: c188 :: c189 :: c190 :: c191 :: c192 :: c193 :: c194 :: c195 :: c196 :: c197 :: c198 :: c199 :: c200 :: c201 :: c202 :: c203 :: c204 :: c205 :: c206 :: c207 :: c208 :: c209 :: c210 :: c211 :: c212 :: c213 :: []).toArray, []⟩ W := by
  conv => arg 2; whnf
  obtain ⟨S, rows, hkx, hSl, hrl, hr63⟩ := kx_parts kX_u
  have hun := unf_lit W _ kX hX (hT.ext h0) S rows 64 64 kX_ok hkx hSl hrl
  have HW := Lib.hid (And.intro h0 (And.intro hT (And.intro hX (And.intro hr63 hrl))))
  clear h0 hT hX hkx hSl hr63 hrl
  go_upto_region 6 with (first
    | (with_reducible refine wpList_load_row rfl 31 _ rfl d rfl 31 _ (0, 0) _ hB Tryd.underlying31 rfl (by kernel_rfl) ?_)
    | ((with_reducible refine hun.mono ?_); rintro e W6 ⟨Am, Bm, rfl, hrw, hcf, e6⟩))
  refine wp_named ?_
  intro W7 hW7
  have e7 : Ext W6 W7 := by rw [hW7]; exact alloc_ext _ _
  have hM : W7.heap[W6.heap.size]? = some (.cells #[.int .i64 2, .int .i64 2, .slice Am 64 64] 52 (0, 0)) := by rw [hW7]; exact heap_alloc_new _ _
  obtain ⟨bA, oA, b2, o2, cr, hAm, y1, y2, _⟩ := rows_at (hrw.ext e7) HW.out.2.2.2.1 (i := 0) (e := (-1, -1)) rfl
  rw [HW.out.2.2.2.2] at hAm
  cases hAm
  have hB7 := heap_ext (e6.trans e7) hB
  have HM := Lib.hid (And.intro (e6.trans e7) (And.intro hM (And.intro y1 y2)))
  clear hW7 hM y1 y2 hun hrw hcf hB e6 e7
  generalize W6.heap.size = bm at *
  go_upto_region 7 with (with_reducible refine wpList_load_row rfl 31 _ rfl d rfl 31 _ (0, 0) _ hB7 Tryd.underlying31 rfl (by kernel_rfl) ?_)
  refine wp_named ?_
  intro W8 hW8
  have e8 : Ext W7 W8 := by rw [hW8]; exact alloc_ext _ _
  have hD : W8.heap[W7.heap.size]? = some (.cells #[.int .i64 2, .int .i64 2, .int .i64 1, .slice A1 1 m1, .slice A2 1 m2, .slice A3 1 m3] 31 (0, 0)) := by rw [hW8]; exact heap_alloc_new _ _
  obtain ⟨W9, hW9⟩ : ∃ W9, W9 = (W8.alloc (.cells #[.string { data := #[110] }, .int .i64 0, .int .i64 64] 79)).setCell ⟨W7.heap.size, 3, none⟩ (.slice (some ⟨W8.heap.size, 0, none⟩) 1 1) := ⟨_, rfl⟩
  have ea : Ext W8 (W8.alloc (.cells #[.string { data := #[110] }, .int .i64 0, .int .i64 64] 79)) := alloc_ext _ _
  have hDa := heap_ext ea hD
  have p3 := cell_of_blk hDa 3 (u := .slice A1 1 m1) rfl
  have f3 := free_of_blk hDa 3
  have hg9 : (W8.alloc (.cells #[.string { data := #[110] }, .int .i64 0, .int .i64 64] 79)).grownBy W9 (some W7.heap.size) := by rw [hW9]; exact grown_setK _ _ 3 _
  have hD9 : W9.heap[W7.heap.size]? = some (.cells #[.int .i64 2, .int .i64 2, .int .i64 1, .slice (some ⟨W8.heap.size, 0, none⟩) 1 1, .slice A2 1 m2, .slice A3 1 m3] 31 (0, 0)) := by rw [hW9]; exact heap_setCell_same _ _ 3 _ 31 _ hDa
  have hE79 : Ext W7 W9 := Below.grown (e8.trans ea) hg9 (e8.trans ea).size (fun k hk => by cases hk; exact Nat.le_refl _)
  have hE9 : Ext W W9 := HM.out.1.trans hE79
  have hva : (W8.alloc (.cells #[.string { data := #[110] }, .int .i64 0, .int .i64 64] 79)).heap[W8.heap.size]? = some (.cells #[.string { data := #[110] }, .int .i64 0, .int .i64 64] 79 (0, 0)) := heap_alloc_new _ _
  have hv9 := (hg9.block _ (lt_of_block hva) (fun e => by have h := lt_of_block hD; injection e with e; omega)).trans hva
  obtain ⟨vv, sv, av, q1, q2, q3, hv, _, hst, hac⟩ := HW.out.2.2.1
  cases hv
  have hVC : VarsC W9 (.slice (some ⟨W8.heap.size, 0, none⟩) 1 1) kY.vars 1 := (show VarsT 0 W9 _ kY.vars 1 from ⟨_, rfl, CellsT.blk (Nat.zero_le _) hv9, Nat.le_refl _, by simp [kY, lenMax], fun u hu => by simp [kY] at hu; subst hu; decide⟩).v
  have hX9 : XtV W9 kY (.agg #[.int .i64 2, .int .i64 2, .int .i64 1, .slice (some ⟨W8.heap.size, 0, none⟩) 1 1, .slice A2 1 m2, .slice A3 1 m3]) := ⟨_, _, _, _, _, _, rfl, hVC, hst.ext hE9, hac.ext hE9⟩
  have hun := unf_lim W9 _ kY hX9 (HW.out.2.1.ext (HW.out.1.trans hE9)) kY_ok kY_u
  have HN := Lib.hid hW9
  have H9 := Lib.hid (And.intro (HW.out.1.trans hE9) (And.intro HW.out.2.1 (And.intro (heap_ext hE79 HM.out.2.1) (And.intro (hE79.cell HM.out.2.2.1) (hE79.cell HM.out.2.2.2)))))
  clear hW8 hB7 e8 HM hD hW9 ea hDa hg9 hE79 hE9 hva hv9 hst hac hVC hX9 HW
  go_upto_region 8 with fail
  rw [← HN.out]
  clear p3 f3 HN
  go_upto_region 9 with (first
    | (with_reducible refine wpList_load_row rfl 31 _ rfl W7.heap.size rfl 31 _ (0, 0) _ hD9 Tryd.underlying31 rfl (by kernel_rfl) ?_)
    | ((with_reducible refine hun.mono ?_); rintro e V ⟨rfl, eV⟩))
  refine wp_named ?_
  intro U hU
  have eU : Ext V U := by rw [hU]; exact alloc_ext _ _
  have hC : U.heap[V.heap.size]? = some (.cells #[.int .i64 0, .int .i64 0, .slice none 0 0] 52 (0, 0)) := by rw [hU]; exact heap_alloc_new _ _
  have z1 := cell_of_blk (heap_ext (eV.trans eU) H9.out.2.2.1) 2 (u := .slice (some ⟨bA, oA, none⟩) 64 64) rfl
  have z2 := (eV.trans eU).cell H9.out.2.2.2.1
  have z3 := (eV.trans eU).cell H9.out.2.2.2.2
  have z4 := cell_of_blk hC 2 (u := .slice none 0 0) rfl
  have HE := Lib.hid (H9.out.1.trans (eV.trans eU))
  have HT := Lib.hid H9.out.2.1
  simp only [Nat.zero_mul, Nat.add_zero] at z3
  clear hU hC eU eV hD9 hun H9
  go_upto_region 999 with (first
    | (with_reducible refine stop_at 11 ?_)
    | (with_reducible refine stop_at2 11 ?_))
  refine ⟨?_⟩
  exact known_t11 w U _ _ _ _ _ _ _ _ _ _ _ _ _ _ _ _ _ _ _ _ _ _ _ _ _ _ _ _ _ _ _ _ _ _ _ _ _ _ _ _ _ _ _ _ _ _ _ _ _ _ _ _ _ _ _ _ _ _ _ _ _ _ _ _ _ _ _ _ _ _ _ _ _ _ _ _ _ _ _ _ _ _ _ _ _ _ _ _ _ _ _ _ _ _ _ _ _ _ _ _ _ _ _ _ _ _ _ _ _ _ _ _ _ _ _ _ _ _ _ _ _ _ _ _ _ _ _ _ _ _ _ _ _ _ _ _ _ _ _ _ _ _ _ _ _ _ _ _ _ _ _ _ _ _ _ _ _ _ _ _ _ _ _ _ _ _ _ _ _ _ _ _ _ _ _ _ _ _ _ _ _ _ _ _ _ _ _ _ _ _ _ _ _ _ _ _ _ _ _ _ _ _ _ _ _ _ _ _ _ _ _ _ _ _ HE.out HT.out
end Go.Proofs.YtggffdkgfgdaoaaDoor
