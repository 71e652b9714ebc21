/- IocosKnown 10, backwards: the calls of the other laws. -/
import Derived.Test.YtamodjlifpjaoaaDoorK0
import Derived.Test.YtamodjlifpjaoaaDoorT3
import Derived.Test.YtamodjlifpjaoaaDoorU5
import Derived.Test.YtamodjlifpjaoaaDoorGG
import Derived.Test.YtamodjlifpjaoaaDoorGE
namespace Go.Proofs.YtamodjlifpjaoaaDoor
open Go.RowKit
set_option linter.unusedVariables false
set_option linter.unusedSimpArgs false
attribute [local go_sem] Oper.quietV quietV Oper.gives givesV ext_refl_iff ext_alloc_iff ext_drew_iff ext_drewN_iff
noncomputable def T10 (n : Nat) : Code := textR n Tryd.f10.body
def KnownP (w : World) (e : Ending) (w' : World) : Prop := e = .returned (.bool true) ∧ Ext w w'
def KEqP (u : Value) (v : Value) (w : World) : Prop := v = u
theorem stays_keqP (u : Value) : Stays Ext (KEqP u) := fun v w w' _ h => h
def KNodP (L : List Nd) (v : Value) (w : World) : Prop := ∃ A, v = .slice A L.length L.length ∧ NodesC w (.slice A L.length L.length) L L.length
theorem stays_knodP (L : List Nd) : Stays Ext (KNodP L) := fun v w w' hE ⟨A, hv, h⟩ => ⟨A, hv, h.ext hE⟩
def KRowP (L : List (List Arc)) (v : Value) (w : World) : Prop := ∃ A, v = .slice A L.length L.length ∧ ARowsC w (.slice A L.length L.length) L
theorem stays_krowP (L : List (List Arc)) : Stays Ext (KRowP L) := fun v w w' hE ⟨A, hv, h⟩ => ⟨A, hv, h.ext hE⟩
def KNumP (L : List Int) (v : Value) (w : World) : Prop := ∃ A, v = .slice A L.length L.length ∧ IntsC w (.slice A L.length L.length) L L.length
theorem stays_knumP (L : List Int) : Stays Ext (KNumP L) := fun v w w' hE ⟨A, hv, h⟩ => ⟨A, hv, h.ext hE⟩
theorem mk_arows (n : Nat) (hn : n ≤ 100000) (w : World) : (Instr.makeSlice 26 (.int .i64 (n : Int)) (.int .i64 (n : Int))).run Tryd.prog w = .ok (.slice (some ⟨w.heap.size, 0, none⟩) n n) (w.alloc (.cells (Array.replicate n (.slice none 0 0)) 68)) := mk_slice (i := default) Tryd.underlying26 arcs_info rfl (by decide) n hn w
theorem mk_nodes (n : Nat) (hn : n ≤ 100000) (w : World) : (Instr.makeSlice 48 (.int .i64 (n : Int)) (.int .i64 (n : Int))).run Tryd.prog w = .ok (.slice (some ⟨w.heap.size, 0, none⟩) n n) (w.alloc (.cells (madeCells #[.int .i64 0, .slice none 0 0] (n * 2)) 56)) := by
  obtain ⟨i56, hi56, hz56, hs56, hb56⟩ := info_parts node_info
  have hr := run_make (P := Tryd.prog) w 48 56 i56 (.agg #[.int .i64 0, .slice none 0 0]) Tryd.underlying48 hi56 hz56 .i64 .i64 n n (by omega) (Int.le_refl _) (by rw [hb56]; omega) (by omega)
  simp only [Int.toNat_natCast] at hr
  rw [hr, hs56]; rfl
theorem nodes_made (w : World) (n : Nat) (hn : n ≤ 100000) : KNodP (List.replicate n ⟨0, []⟩) (.slice (some ⟨w.heap.size, 0, none⟩) n n) (w.alloc (.cells (madeCells #[.int .i64 0, .slice none 0 0] (n * 2)) 56)) := by
  have hl : (List.replicate n (⟨0, []⟩ : Nd)).length = n := List.length_replicate
  refine ⟨some ⟨w.heap.size, 0, none⟩, by rw [hl], ?_⟩
  refine ⟨some ⟨w.heap.size, 0, none⟩, List.replicate n ((⟨0, []⟩ : Nd), Value.slice none 0 0), by simp, rfl, fun hpos => ⟨w.heap.size, 0, rfl, by simp, fun j u hj => ?_⟩, fun e he => ?_, Nat.le_refl _, by rw [hl]; unfold lenMax; omega⟩
  · rw [Nat.zero_add]
    refine cell_of_blk (heap_alloc_new w _) j ?_
    have hjl := (List.getElem?_eq_some_iff.1 hj).1
    rw [nds_len, List.length_replicate] at hjl
    have hM : (List.replicate n ((⟨0, []⟩ : Nd), Value.slice none 0 0))[j / 2]? = some (⟨0, []⟩, .slice none 0 0) := by
      rw [List.getElem?_replicate, if_pos (by omega)]
    unfold madeCells
    rw [Array.getElem?_map, Array.getElem?_range, if_pos hjl]
    rcases (by omega : j % 2 = 0 ∨ j % 2 = 1) with h | h
    · have h2 := nds_get hM 0 _ rfl
      rw [show j / 2 * 2 + 0 = j by omega, hj] at h2
      cases h2
      simp [h]
    · have h2 := nds_get hM 1 _ rfl
      rw [show j / 2 * 2 + 1 = j by omega, hj] at h2
      cases h2
      simp [h]
  · rw [List.eq_of_mem_replicate he]
    exact ⟨0, none, rfl, fun h => by simp at h, Nat.le_refl _, by simp [lenMax]⟩
theorem rows_made (w : World) (n : Nat) (hn : n ≤ 100000) : KRowP (List.replicate n []) (.slice (some ⟨w.heap.size, 0, none⟩) n n) (w.alloc (.cells (Array.replicate n (.slice none 0 0)) 68)) := by
  have hl : (List.replicate n ([] : List Arc)).length = n := List.length_replicate
  refine ⟨some ⟨w.heap.size, 0, none⟩, by rw [hl], ?_⟩
  refine ⟨some ⟨w.heap.size, 0, none⟩, _, List.replicate n (.slice none 0 0), rfl, ?_, by simp, fun i u es hu hes => ?_, Nat.le_refl _, by rw [hl]; unfold lenMax; omega⟩
  · have := cells_blk (heap_alloc_new w (.cells (Array.replicate n (.slice none 0 0)) 68))
    simpa using this
  · rw [List.getElem?_replicate] at hu hes
    split at hu
    · cases hu
      rw [if_pos (by assumption)] at hes
      cases hes
      exact ⟨none, 0, rfl, fun h => by simp at h, Nat.le_refl _, by simp [lenMax]⟩
    · cases hu
theorem ints_made (w : World) (n : Nat) (hn : n ≤ 100000) : KNumP (List.replicate n 0) (.slice (some ⟨w.heap.size, 0, none⟩) n n) (w.alloc (.cells (Array.replicate n (.int .i64 0)) 3)) := by
  have hl : (List.replicate n (0 : Int)).length = n := List.length_replicate
  refine ⟨some ⟨w.heap.size, 0, none⟩, by rw [hl], some ⟨w.heap.size, 0, none⟩, rfl, ?_, Nat.le_refl _, by rw [hl]; unfold lenMax; omega⟩
  have := cells_blk (heap_alloc_new w (.cells (Array.replicate n (.int .i64 0)) 3))
  simpa using this
theorem knil_ints (w : World) : IntsC w (.slice none 0 0) [] 0 := ⟨none, rfl, fun h => by simp at h, Nat.le_refl _, by simp [lenMax]⟩
theorem knil_lts (w : World) (i o : Int) : LtsV w (.agg #[.int .i64 i, .int .i64 o, .slice none 0 0]) ⟨i, o, []⟩ := ⟨_, rfl, none, 0, [], rfl, fun h => by simp at h, rfl, fun i u es hu => by simp at hu, Nat.le_refl _, by simp [lenMax]⟩
def kNodes : List Nd := List.replicate 1025 ⟨0, []⟩
def kRows : List (List Arc) := List.replicate 65 []
def kInts : List Int := List.replicate 257 0
theorem kNodes_len : kNodes.length = 1025 := List.length_replicate
theorem kRows_len : kRows.length = 65 := List.length_replicate
theorem kInts_len : kInts.length = 257 := List.length_replicate
set_option maxRecDepth 100000 in
set_option maxHeartbeats 16000000 in
theorem known_t30 (w W : World) (b1 : Nat) (c0 c2 c3 c4 c5 c6 c7 c8 c9 c10 c11 c12 c13 c14 c15 c16 c17 c18 c19 c20 c21 c22 c23 c24 c25 c26 c27 c28 c29 c30 c31 c32 c33 c34 c35 c36 c37 c38 c39 c40 c41 c42 c43 c44 c45 c46 c47 c48 c49 c50 c51 c52 c53 c54 c55 c56 c57 c58 c59 c60 c61 c62 c63 c64 c65 c66 c67 c68 c69 c70 c71 c72 c73 c74 c75 c76 c77 c78 c79 c80 c81 c82 c83 c84 c85 c86 c87 c88 c89 c90 c91 c92 c93 c94 c95 c96 c97 c98 c99 c100 c101 c102 c103 c104 c105 c106 c107 c108 c109 c110 c111 c112 c113 c114 c115 c116 c117 c118 c119 c120 c121 c122 c123 c124 c125 c126 c127 c128 c129 c130 c131 c132 c133 c134 c135 c136 c137 c138 c139 c140 c141 c142 c143 c144 c145 c146 c147 c148 c149 c150 c151 c152 c153 c154 c155 c156 c157 c158 c159 c160 c161 c162 c163 c164 c165 c166 c167 c168 c169 c170 c171 c172 c173 c174 c175 c176 c177 c178 c179 c180 c181 c182 c183 c184 c185 c186 c187 c188 c189 c190 c191 c192 c193 c194 c195 c196 c197 c198 c199 c200 c201 c202 c203 c204 c205 c206 c207 c208 c209 c210 c211 c212 c213 c214 c215 c216 c217 c218 c219 c220 c221 c222 c223 c224 c225 c226 c227 c228 c229 c230 : Value) (h0 : Ext w W) (hT : Tab W) (hb : BoxL W b1 loopX) :
    Code.wp Tryd.prog (T10 30) (bodyPost Tryd.prog Tryd.f10 (KnownP w)) ⟨(c0 :: .pointer (some ⟨b1, 0, none⟩) :: c2 :: c3 :: c4 :: c5 :: c6 :: c7 :: c8 :: c9 :: c10 :: c11 :: c12 :: c13 :: c14 :: c15 :: c16 :: c17 :: c18 :: c19 :: c20 :: c21 :: c22 :: c23 :: c24 :: c25 :: c26 :: c27 :: c28 :: c29 :: c30 :: c31 :: c32 :: c33 :: c34 :: c35 :: c36 :: c37 :: c38 :: c39 :: c40 :: c41 :: c42 :: c43 :: c44 :: c45 :: c46 :: c47 :: c48 :: c49 :: c50 :: c51 :: c52 :: c53 :: c54 :: c55 :: c56 :: c57 :: c58 :: c59 :: c60 :: c61 :: c62 :: c63 :: c64 :: c65 :: c66 :: c67 :: c68 :: c69 :: c70 :: c71 :: c72 :: c73 :: c74 :: c75 :: c76 :: c77 :: c78 :: c79 :: c80 :: c81 :: c82 :: c83 :: c84 :: c85 :: c86 :: c87 :: c88 :: c89 :: c90 :: c91 :: c92 :: c93 :: c94 :: c95 :: c96 :: c97 :: c98 :: c99 :: c100 :: c101 :: c102 :: c103 :: c104 :: c105 :: c106 :: c107 :: c108 :: c109 :: c110 :: c111 :: c112 :: c113 :: c114 :: c115 :: c116 :: c117 :: c118 :: c119 :: c120 :: c121 :: c122 :: c123 :: c124 :: c125 :: c126 :: c127 :: c128 :: c129 :: c130 :: c131 :: c132 :: c133 :: c134 :: c135 :: c136 :: c137 :: c138 :: c139 :: c140 :: c141 :: c142 :: c143 :: c144 :: c145 :: c146 :: c147 :: c148 :: c149 :: c150 :: c151 :: c152 :: c153 :: c154 :: c155 :: c156 :: c157 :: c158 :: c159 :: c160 :: c161 :: c162 :: c163 :: c164 :: c165 :: c166 :: c167 :: c168 :: c169 :: c170 :: c171 :: c172 :: c173 :: c174 :: c175 :: c176 :: c177 :: c178 :: c179 :: c180 :: c181 :: c182 :: c183 :: c184 :: c185 :: c186 :: c187 :: c188 :: c189 :: c190 :: c191 :: c192 :: c193 :: c194 :: c195 :: c196 :: c197 :: c198 :: c199 :: c200 :: c201 :: c202 :: c203 :: c204 :: c205 :: c206 :: c207 :: c208 :: c209 :: c210 :: c211 :: c212 :: c213 :: c214 :: c215 :: c216 :: c217 :: c218 :: c219 :: c220 :: c221 :: c222 :: c223 :: c224 :: c225 :: c226 :: c227 :: c228 :: c229 :: c230 :: []).toArray, []⟩ W := by
  conv => arg 2; whnf
  obtain ⟨A, c, k0, k1, k2, hl⟩ := hb
  have k0 := fun w' (h : Ext W w') => h.cell k0
  have k1 := fun w' (h : Ext W w') => h.cell k1
  have k2 := fun w' (h : Ext W w') => h.cell k2
  have hE0 := Ext.refl W
  have hz : ∀ W', BV W' (.agg #[.int .u8 0, .int .u8 0, .int .u8 0, .slice none 0 0, .bool false]) ⟨0, 0, 0, 0, false⟩ := fun W' => ⟨none, 0, rfl, fun h => by simp at h, by decide, by decide, by decide, Nat.le_refl _, by simp [lenMax]⟩
  have h9 := fun W' (v : Value) L c (e : Ext W W') hN => iocosTest_any W' _ v _ L c (hz W') hN (hT.ext e)
  have h9n := fun W' (e : Ext W W') => h9 W' (.slice none 0 0) [] 0 e ⟨none, [], rfl, rfl, fun h => by simp [ndsV] at h, fun e he => by simp at he, Nat.le_refl _, by simp [lenMax]⟩
  have h8a := fun W' (e : Ext W W') => iocosErrors_any W' _ _ _ _ _ [] 0 (knil_lts W' 17 0) (hl.ext e) (knil_ints W') (hT.ext e)
  have h8b := fun W' v2 tv (y : Lts) ls c (e : Ext W W') h1 h2 => iocosErrors_any W' _ v2 tv loopX y ls c (hl.ext e) h1 h2 (hT.ext e)
  have hlv := fun W' (e : Ext W W') => lives_any W' (hT.ext e)
  have mn : ∀ w, (Instr.makeSlice 48 (.int .i64 1025) (.int .i64 1025)).run Tryd.prog w = .ok (.slice (some ⟨w.heap.size, 0, none⟩) 1025 1025) (w.alloc (.cells (madeCells #[.int .i64 0, .slice none 0 0] (1025 * 2)) 56)) := fun w => mk_nodes 1025 (by omega) w
  have mr : ∀ w, (Instr.makeSlice 26 (.int .i64 65) (.int .i64 65)).run Tryd.prog w = .ok (.slice (some ⟨w.heap.size, 0, none⟩) 65 65) (w.alloc (.cells (Array.replicate 65 (.slice none 0 0)) 68)) := fun w => mk_arows 65 (by omega) w
  have mi : ∀ w, (Instr.makeSlice 30 (.int .i64 257) (.int .i64 257)).run Tryd.prog w = .ok (.slice (some ⟨w.heap.size, 0, none⟩) 257 257) (w.alloc (.cells (Array.replicate 257 (.int .i64 0)) 3)) := fun w => mk_ints 257 (by omega) w
  have HW := Lib.hid h0
  clear h0 hT hl hz
  go_upto_region 30 with fail
  refine wp_region_ext 17 (factsOf [(1, KNodP kNodes), (2, KEqP (.bool true)), (5, KEqP (.bool true)), (10, KEqP (.bool true)), (14, KRowP kRows), (16, KNumP kInts)]) (fun k => ([[], [], [0, 1], [0, 1, 2], [0, 1, 2, 3], [0, 1, 2, 3, 4], [0, 1, 2, 3, 4, 5], [0, 1, 2, 3, 4, 5, 6], [0, 1, 2, 3, 4, 5, 6, 7], [0, 1, 2, 3, 4, 5, 6, 7], [0, 1, 2, 3, 4, 5, 6, 7, 8, 9], [0, 1, 2, 3, 4, 5, 6, 7, 8, 9, 10], [0, 1, 2, 3, 4, 5, 6, 7, 8, 9, 10, 11], [0, 1, 2, 3, 4, 5, 6, 7, 8, 9, 10, 11, 12], [0, 1, 2, 3, 4, 5, 6, 7, 8, 9, 10, 11, 12], [0, 1, 2, 3, 4, 5, 6, 7, 8, 9, 10, 11, 12, 14], [0, 1, 2, 3, 4, 5, 6, 7, 8, 9, 10, 11, 12], [0, 1, 2, 3, 4, 5, 6, 7, 8, 9, 10, 11, 12, 13, 14, 15, 16], [0, 1, 2, 3, 4, 5, 6, 7, 8, 9, 10, 11, 12, 13, 14, 15, 16, 17], [0, 1, 2, 3, 4, 5, 6, 7, 8, 9, 10, 11, 12, 13, 14, 15, 16, 17, 18], [0, 1, 2, 3, 4, 5, 6, 7, 8, 9, 10, 11, 12, 13, 14, 15, 16, 17, 18, 19], [0, 1, 2, 3, 4, 5, 6, 7, 8, 9, 10, 11, 12, 13, 14, 15, 16, 17, 18, 19, 20], [0, 1, 2, 3, 4, 5, 6, 7, 8, 9, 10, 11, 12, 13, 14, 15, 16, 17, 18, 19, 20, 21]] : List (List Nat)).getD k []) (by kernel_rfl) (by kernel_rfl) Ext.pre (mono_cons (stays_knodP _) (mono_cons (stays_keqP _) (mono_cons (stays_keqP _) (mono_cons (stays_keqP _) (mono_cons (stays_krowP _) (mono_cons (stays_knumP _) (mono_nil))))))) ?_
  simp only [List.take_succ_cons, List.take_zero]
  repeat (first | (with_reducible refine lexL_quiet' (v := ?_) ?_ ?_ ?_ ?_; rotate_left; (· with_reducible rfl); (· simp [factsOf]); (· intro w1 hw1 _; go_simp; with_reducible rfl); (try simp only [Act.put, List.setIfInBounds_toArray, List.set_cons_zero, List.set_cons_succ])) | (with_reducible refine lexL_skip ?_ ?_; (· simp [Region.wanted, yielded, undef]); (try simp only [Act.put, List.setIfInBounds_toArray, List.set_cons_zero, List.set_cons_succ])) | (with_reducible refine lexL_quiet (v := ?_) ?_ ?_ ?_ ?_; rotate_left; (· simp [Region.wanted, yielded, undef]); (· simp [factsOf]); (· intro w1 hw1 _; go_simp; with_reducible rfl); (try simp only [Act.put, List.setIfInBounds_toArray, List.set_cons_zero, List.set_cons_succ])))
  with_reducible refine lexL_give' (φ := ?_) ?_ ?_ ?_ ?_; rotate_left; (· with_reducible rfl); (· simp only [factsOf, Nat.reduceAdd, ↓reduceIte, Nat.reduceEqDiff]; rfl)
  · intro w5 hw5 _
    go_simp
    exact nodes_made w5 1025 (by omega)
  rintro v9 w5 hw5 ⟨A1, hv1, hq⟩ hk2
  rw [kNodes_len] at hv1
  subst hv1
  clear hq hk2 hw5 w5
  (try simp only [Act.put, List.setIfInBounds_toArray, List.set_cons_zero, List.set_cons_succ])
  repeat (first | (with_reducible refine lexL_quiet' (v := ?_) ?_ ?_ ?_ ?_; rotate_left; (· with_reducible rfl); (· simp [factsOf]); (· intro w1 hw1 _; go_simp; with_reducible rfl); (try simp only [Act.put, List.setIfInBounds_toArray, List.set_cons_zero, List.set_cons_succ])) | (with_reducible refine lexL_skip ?_ ?_; (· simp [Region.wanted, yielded, undef]); (try simp only [Act.put, List.setIfInBounds_toArray, List.set_cons_zero, List.set_cons_succ])) | (with_reducible refine lexL_quiet (v := ?_) ?_ ?_ ?_ ?_; rotate_left; (· simp [Region.wanted, yielded, undef]); (· simp [factsOf]); (· intro w1 hw1 _; go_simp; with_reducible rfl); (try simp only [Act.put, List.setIfInBounds_toArray, List.set_cons_zero, List.set_cons_succ])))
  with_reducible refine lexL_give' (φ := ?_) ?_ ?_ ?_ ?_; rotate_left; (· with_reducible rfl); (· simp only [factsOf, Nat.reduceAdd, ↓reduceIte, Nat.reduceEqDiff]; rfl)
  · intro w5 hw5 hk5
    obtain ⟨A1', hv1, hN1⟩ := hk5.get 1 (by decide) rfl rfl
    rw [kNodes_len] at hv1 hN1
    cases hv1
    go_simp
    refine (h9 w5 _ _ _ hw5 hN1).mono ?_
    rintro e w6 ⟨rfl, e6⟩
    exact ⟨_, rfl, e6, rfl⟩
  rintro v9 w5 hw5 hv9 hk2
  unfold KEqP at hv9
  subst hv9
  clear hk2 hw5 w5
  (try simp only [Act.put, List.setIfInBounds_toArray, List.set_cons_zero, List.set_cons_succ])
  repeat (first | (with_reducible refine lexL_quiet' (v := ?_) ?_ ?_ ?_ ?_; rotate_left; (· with_reducible rfl); (· simp [factsOf]); (· intro w1 hw1 _; go_simp; with_reducible rfl); (try simp only [Act.put, List.setIfInBounds_toArray, List.set_cons_zero, List.set_cons_succ])) | (with_reducible refine lexL_skip ?_ ?_; (· simp [Region.wanted, yielded, undef]); (try simp only [Act.put, List.setIfInBounds_toArray, List.set_cons_zero, List.set_cons_succ])) | (with_reducible refine lexL_quiet (v := ?_) ?_ ?_ ?_ ?_; rotate_left; (· simp [Region.wanted, yielded, undef]); (· simp [factsOf]); (· intro w1 hw1 _; go_simp; with_reducible rfl); (try simp only [Act.put, List.setIfInBounds_toArray, List.set_cons_zero, List.set_cons_succ])))
  with_reducible refine lexL_give (φ := ?_) ?_ ?_ ?_ ?_; rotate_left; (· simp [Region.wanted, yielded, undef]); (· simp only [factsOf, Nat.reduceAdd, ↓reduceIte, Nat.reduceEqDiff]; rfl)
  · intro w5 hw5 hk5
    go_simp
    refine (h9n w5 hw5).mono ?_
    rintro e w6 ⟨rfl, e6⟩
    exact ⟨_, rfl, e6, rfl⟩
  rintro v9 w5 hw5 hv9 hk2
  unfold KEqP at hv9
  subst hv9
  clear hk2 hw5 w5
  (try simp only [Act.put, List.setIfInBounds_toArray, List.set_cons_zero, List.set_cons_succ])
  repeat (first | (with_reducible refine lexL_quiet' (v := ?_) ?_ ?_ ?_ ?_; rotate_left; (· with_reducible rfl); (· simp [factsOf]); (· intro w1 hw1 _; go_simp; with_reducible rfl); (try simp only [Act.put, List.setIfInBounds_toArray, List.set_cons_zero, List.set_cons_succ])) | (with_reducible refine lexL_skip ?_ ?_; (· simp [Region.wanted, yielded, undef]); (try simp only [Act.put, List.setIfInBounds_toArray, List.set_cons_zero, List.set_cons_succ])) | (with_reducible refine lexL_quiet (v := ?_) ?_ ?_ ?_ ?_; rotate_left; (· simp [Region.wanted, yielded, undef]); (· simp [factsOf]); (· intro w1 hw1 _; go_simp; with_reducible rfl); (try simp only [Act.put, List.setIfInBounds_toArray, List.set_cons_zero, List.set_cons_succ])))
  with_reducible refine lexL_give (φ := ?_) ?_ ?_ ?_ ?_; rotate_left; (· simp [Region.wanted, yielded, undef]); (· simp only [factsOf, Nat.reduceAdd, ↓reduceIte, Nat.reduceEqDiff]; rfl)
  · intro w5 hw5 hk5
    go_simp
    refine (h8a w5 hw5).mono ?_
    rintro e w6 ⟨rfl, e6⟩
    exact ⟨_, rfl, e6, rfl⟩
  rintro v9 w5 hw5 hv9 hk2
  unfold KEqP at hv9
  subst hv9
  clear hk2 hw5 w5
  (try simp only [Act.put, List.setIfInBounds_toArray, List.set_cons_zero, List.set_cons_succ])
  repeat (first | (with_reducible refine lexL_quiet' (v := ?_) ?_ ?_ ?_ ?_; rotate_left; (· with_reducible rfl); (· simp [factsOf]); (· intro w1 hw1 _; go_simp; with_reducible rfl); (try simp only [Act.put, List.setIfInBounds_toArray, List.set_cons_zero, List.set_cons_succ])) | (with_reducible refine lexL_skip ?_ ?_; (· simp [Region.wanted, yielded, undef]); (try simp only [Act.put, List.setIfInBounds_toArray, List.set_cons_zero, List.set_cons_succ])) | (with_reducible refine lexL_quiet (v := ?_) ?_ ?_ ?_ ?_; rotate_left; (· simp [Region.wanted, yielded, undef]); (· simp [factsOf]); (· intro w1 hw1 _; go_simp; with_reducible rfl); (try simp only [Act.put, List.setIfInBounds_toArray, List.set_cons_zero, List.set_cons_succ])))
  with_reducible refine lexL_give (φ := ?_) ?_ ?_ ?_ ?_; rotate_left; (· simp [Region.wanted, yielded, undef]); (· simp only [factsOf, Nat.reduceAdd, ↓reduceIte, Nat.reduceEqDiff]; rfl)
  · intro w5 hw5 _
    go_simp
    exact rows_made w5 65 (by omega)
  rintro v9 w5 hw5 ⟨A14, hv1, hq⟩ hk2
  rw [kRows_len] at hv1
  subst hv1
  clear hq hk2 hw5 w5
  (try simp only [Act.put, List.setIfInBounds_toArray, List.set_cons_zero, List.set_cons_succ])
  repeat (first | (with_reducible refine lexL_quiet' (v := ?_) ?_ ?_ ?_ ?_; rotate_left; (· with_reducible rfl); (· simp [factsOf]); (· intro w1 hw1 _; go_simp; with_reducible rfl); (try simp only [Act.put, List.setIfInBounds_toArray, List.set_cons_zero, List.set_cons_succ])) | (with_reducible refine lexL_skip ?_ ?_; (· simp [Region.wanted, yielded, undef]); (try simp only [Act.put, List.setIfInBounds_toArray, List.set_cons_zero, List.set_cons_succ])) | (with_reducible refine lexL_quiet (v := ?_) ?_ ?_ ?_ ?_; rotate_left; (· simp [Region.wanted, yielded, undef]); (· simp [factsOf]); (· intro w1 hw1 _; go_simp; with_reducible rfl); (try simp only [Act.put, List.setIfInBounds_toArray, List.set_cons_zero, List.set_cons_succ])))
  with_reducible refine lexL_give (φ := ?_) ?_ ?_ ?_ ?_; rotate_left; (· simp [Region.wanted, yielded, undef]); (· simp only [factsOf, Nat.reduceAdd, ↓reduceIte, Nat.reduceEqDiff]; rfl)
  · intro w5 hw5 _
    go_simp
    exact ints_made w5 257 (by omega)
  rintro v9 w5 hw5 ⟨A16, hv1, hq⟩ hk2
  rw [kInts_len] at hv1
  subst hv1
  clear hq hk2 hw5 w5
  (try simp only [Act.put, List.setIfInBounds_toArray, List.set_cons_zero, List.set_cons_succ])
  repeat (first | (with_reducible refine lexL_quiet' (v := ?_) ?_ ?_ ?_ ?_; rotate_left; (· with_reducible rfl); (· simp [factsOf]); (· intro w1 hw1 _; go_simp; with_reducible rfl); (try simp only [Act.put, List.setIfInBounds_toArray, List.set_cons_zero, List.set_cons_succ])) | (with_reducible refine lexL_skip ?_ ?_; (· simp [Region.wanted, yielded, undef]); (try simp only [Act.put, List.setIfInBounds_toArray, List.set_cons_zero, List.set_cons_succ])) | (with_reducible refine lexL_quiet (v := ?_) ?_ ?_ ?_ ?_; rotate_left; (· simp [Region.wanted, yielded, undef]); (· simp [factsOf]); (· intro w1 hw1 _; go_simp; with_reducible rfl); (try simp only [Act.put, List.setIfInBounds_toArray, List.set_cons_zero, List.set_cons_succ])))
  with_reducible refine lexL_nil ?_; intro w1 hw1 hk1; simp only [List.drop_succ_cons, List.drop_zero]
  obtain ⟨A14', hv1, hR14⟩ := hk1.get 14 rfl rfl
  rw [kRows_len] at hv1 hR14
  cases hv1
  obtain ⟨A16', hv1, hR16⟩ := hk1.get 16 rfl rfl
  rw [kInts_len] at hv1 hR16
  cases hv1
  have h8 := h8b w1 (.agg #[.int .i64 0, .int .i64 0, .slice A14 65 65]) _ ⟨0, 0, kRows⟩ _ _ hw1 ⟨_, rfl, hR14⟩ hR16
  have H1 := Lib.hid (HW.out.trans hw1)
  have hlv1 := fun W' (e : Ext w1 W') => hlv W' (hw1.trans e)
  clear hk1 hR14 hR16 h8a h8b h9 h9n mn mr mi hw1 hlv
  go_wp2_with (first
    | ((with_reducible refine h8.mono ?_); rintro e W8 ⟨rfl, e8⟩; have hlv8 := hlv1 W8 e8)
    | ((with_reducible refine hlv8.mono ?_); rintro e W9 ⟨rfl, e9⟩))
  go_ret
  exact ⟨rfl, H1.out.trans (e8.trans e9)⟩
end Go.Proofs.YtamodjlifpjaoaaDoor
