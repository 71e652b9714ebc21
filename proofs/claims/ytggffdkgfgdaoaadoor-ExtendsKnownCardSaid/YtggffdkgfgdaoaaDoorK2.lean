/- ExtendsKnown 9, backwards: regions 25, 26. (written by gen_k2.py) -/
import Derived.Test.YtggffdkgfgdaoaaDoorK1
namespace Go.Proofs.YtggffdkgfgdaoaaDoor
open Go.RowKit Go.Maps
set_option linter.unusedVariables false
set_option linter.unusedSimpArgs false
attribute [local go_sem] Oper.quietV quietV Oper.gives givesV ext_refl_iff ext_alloc_iff ext_drew_iff ext_drewN_iff
theorem ups_nil0 (N : Nat) (w : World) : UpsT N w (.slice none 0 0) [] 0 := ⟨none, [], rfl, rfl, fun h => by simp at h, fun i u x h => by simp at h, Nat.le_refl _, by simp [lenMax]⟩
def bigV (i j k : Nat) : Value := .agg #[.int .i64 1, .int .i64 2, .int .i64 1, .slice (some ⟨i, 0, none⟩) 1 1, .slice (some ⟨j, 0, none⟩) 1 1, .slice (some ⟨k, 0, none⟩) 2 2]
theorem big_made {W Wn W5 : World} {A2 A3 A4 : Option Addr} {l2 c2 l3 c3 l4 c4 i j : Nat} (hE : Ext W Wn) (q1 : Wn.heap[i]? = some (.cells #[.string nmN, .int .i64 (-2147483648), .int .i64 2147483648] 79 (0, 0))) (q2 : Wn.heap[j]? = some (.cells #[.int .i64 46341] 3 (0, 0)))
    (h2 : NodeT 0 Wn gBig (.agg #[.int .u8 8, .int .i64 0, .slice A2 l2 c2])) (h3 : NodeT 0 Wn gC (.agg #[.int .u8 6, .int .i64 0, .slice A3 l3 c3])) (h4 : NodeT 0 Wn uC.ex (.agg #[.int .u8 4, .int .i64 0, .slice A4 l4 c4]))
    (h5 : W5 = ((Wn.alloc (.cells #[.int .i64 0, .int .u8 4, .int .i64 0, .slice A4 l4 c4] 86)).alloc (.cells #[.int .i64 0, .int .i64 0, .int .u8 8, .int .i64 0, .slice A2 l2 c2, .int .i64 0, .slice none 0 0, .int .i64 0, .int .i64 0, .int .i64 0, .int .u8 6, .int .i64 0, .slice A3 l3 c3, .int .i64 1, .slice (some ⟨Wn.heap.size, 0, none⟩) 1 1, .int .i64 0] 71)).alloc
      (.cells #[.int .i64 1, .int .i64 2, .int .i64 1, .slice (some ⟨i, 0, none⟩) 1 1, .slice (some ⟨j, 0, none⟩) 1 1, .slice (some ⟨Wn.heap.size + 1, 0, none⟩) 2 2] 31)) :
    Ext W W5 ∧ XtV W5 kBig (bigV i j (Wn.heap.size + 1)) ∧ W5.heap[Wn.heap.size + 1 + 1]? = some (.cells #[.int .i64 1, .int .i64 2, .int .i64 1, .slice (some ⟨i, 0, none⟩) 1 1, .slice (some ⟨j, 0, none⟩) 1 1, .slice (some ⟨Wn.heap.size + 1, 0, none⟩) 2 2] 31 (0, 0)) := by
  generalize ho1 : Obj.cells #[.int .i64 0, .int .u8 4, .int .i64 0, .slice A4 l4 c4] 86 = o1 at h5
  generalize ho2 : Obj.cells #[.int .i64 0, .int .i64 0, .int .u8 8, .int .i64 0, .slice A2 l2 c2, .int .i64 0, .slice none 0 0, .int .i64 0, .int .i64 0, .int .i64 0, .int .u8 6, .int .i64 0, .slice A3 l3 c3, .int .i64 1, .slice (some ⟨Wn.heap.size, 0, none⟩) 1 1, .int .i64 0] 71 = o2 at h5
  generalize ho3 : Obj.cells #[.int .i64 1, .int .i64 2, .int .i64 1, .slice (some ⟨i, 0, none⟩) 1 1, .slice (some ⟨j, 0, none⟩) 1 1, .slice (some ⟨Wn.heap.size + 1, 0, none⟩) 2 2] 31 = o3 at h5
  have e5 : Ext Wn W5 := by rw [h5]; exact (alloc_ext _ _).trans ((alloc_ext _ _).trans (alloc_ext _ _))
  have r1 : W5.heap[Wn.heap.size]? = some o1 := by rw [h5]; exact heap_ext ((alloc_ext _ _).trans (alloc_ext _ _)) (heap_alloc_new Wn o1)
  have r2 : W5.heap[Wn.heap.size + 1]? = some o2 := by rw [h5]; have h := heap_alloc_new (Wn.alloc o1) o2; exact heap_ext (alloc_ext _ _) (by simpa using h)
  have r3 : W5.heap[Wn.heap.size + 1 + 1]? = some o3 := by rw [h5]; have h := heap_alloc_new ((Wn.alloc o1).alloc o2) o3; simpa using h
  clear h5
  subst ho1 ho2 ho3
  have q1 := heap_ext e5 q1
  have q2 := heap_ext e5 q2
  have h2 := h2.ext e5
  have h3 := h3.ext e5
  have h4 := h4.ext e5
  refine ⟨hE.trans e5, ⟨_, _, _, 1, 1, 2, rfl, (show VarsT 0 W5 _ kBig.vars 1 from ⟨_, rfl, CellsT.blk (Nat.zero_le _) q1, Nat.le_refl _, by simp [kBig, lenMax], fun u hu => ?_⟩).v, (show IntsT 0 W5 _ kBig.start 1 from ⟨_, rfl, CellsT.blk (Nat.zero_le _) q2, Nat.le_refl _, by simp [kBig, lenMax]⟩).v,
    _, [⟨0, 0, (8, 0, .slice A2 l2 c2), 0, .slice none 0 0, 0⟩, ⟨0, 0, (6, 0, .slice A3 l3 c3), 1, .slice (some ⟨Wn.heap.size, 0, none⟩) 1 1, 0⟩], rfl, rfl, cells_blk r2, fun k a y ha hy => ?_, Nat.le_refl _, by simp [kBig, lenMax]⟩, r3⟩
  · simp [kBig] at hu; subst hu; decide
  · match k, ha, hy with
    | 0, ha, hy => simp [kBig] at ha hy; subst ha hy; exact ArcT.v (N := 0) ⟨rfl, rfl, h2, rfl, ⟨0, ups_nil0 _ _⟩, rfl⟩
    | 1, ha, hy => simp [kBig] at ha hy; subst ha hy; exact ArcT.v (N := 0) ⟨rfl, rfl, h3, rfl, ⟨1, ups_one (Nat.zero_le _) r1 h4⟩, rfl⟩
set_option maxRecDepth 100000 in
set_option maxHeartbeats 16000000 in
theorem known_t25 (w W : World) (c0 c1 c2 c3 c4 c5 c6 c7 c8 c9 c10 c11 c12 c13 c14 c15 c16 c17 c18 c19 c20 c21 c22 c23 c24 c25 c26 c27 c28 c29 c30 c31 c32 c33 c34 c35 c36 c37 c38 c39 c40 c41 c42 c43 c44 c45 c46 c47 c48 c49 c50 c51 c52 c53 c54 c55 c56 c57 c58 c59 c60 c61 c62 c63 c64 c65 c66 c67 c68 c69 c70 c71 c72 c73 c74 c75 c76 c77 c78 c79 c80 c81 c82 c83 c84 c85 c86 c87 c88 c89 c90 c91 c92 c93 c94 c95 c96 c97 c98 c99 c100 c101 c102 c103 c104 c105 c106 c107 c108 c109 c110 c111 c112 c113 c114 c115 c116 c117 c118 c119 c120 c121 c122 c123 c124 c125 c126 c127 c128 c129 c130 c131 c132 c133 c134 c135 c136 c137 c138 c139 c140 c141 c142 c143 c144 c145 c146 c147 c148 c149 c150 c151 c152 c153 c154 c155 c156 c157 c158 c159 c160 c161 c162 c163 c164 c165 c166 c167 c168 c169 c170 c171 c172 c173 c174 c175 c176 c177 c178 c179 c180 c181 c182 c183 c184 c185 c186 c187 c188 c189 c190 c191 c192 c193 c194 c195 c196 c197 c198 c199 c200 c201 c202 c203 c204 c205 c206 c207 c208 c209 c210 c211 c212 c213 : Value) (h0 : Ext w W) (hT : OpsTab W) :
    Code.wp Tryd.prog (T9 25) (bodyPost Tryd.prog Tryd.f9 (LivP w)) ⟨(c0 :: c1 :: c2 :: c3 :: c4 :: c5 :: c6 :: c7 :: c8 :: c9 :: c10 :: c11 :: c12 :: c13 :: c14 :: c15 :: c16 :: c17 :: c18 :: c19 :: c20 :: c21 :: c22 :: c23 :: c24 :: c25 :: c26 :: c27 :: c28 :: c29 :: c30 :: c31 :: c32 :: c33 :: c34 :: c35 :: c36 :: c37 :: c38 :: c39 :: c40 :: c41 :: c42 :: c43 :: c44 :: c45 :: c46 :: c47 :: c48 :: c49 :: c50 :: c51 :: c52 :: c53 :: c54 :: c55 :: c56 :: c57 :: c58 :: c59 :: c60 :: c61 :: c62 :: c63 :: c64 :: c65 :: c66 :: c67 :: c68 :: c69 :: c70 :: c71 :: c72 :: c73 :: c74 :: c75 :: c76 :: c77 :: c78 :: c79 :: c80 :: c81 :: c82 :: c83 :: c84 :: c85 :: c86 :: c87 :: c88 :: c89 :: c90 :: c91 :: c92 :: c93 :: c94 :: c95 :: c96 :: c97 :: c98 :: c99 :: c100 :: c101 :: c102 :: c103 :: c104 :: c105 :: c106 :: c107 :: c108 :: c109 :: c110 :: c111 :: c112 :: c113 :: c114 :: c115 :: c116 :: c117 :: c118 :: c119 :: c120 :: c121 :: c122 :: c123 :: c124 :: c125 :: c126 :: c127 :: c128 :: c129 :: c130 :: c131 :: c132 :: c133 :: c134 :: c135 :: c136 :: c137 :: c138 :: c139 :: c140 :: c141 :: c142 :: c143 :: c144 :: c145 :: c146 :: c147 :: c148 :: c149 :: c150 :: c151 :: c152 :: c153 :: c154 :: c155 :: c156 :: c157 :: c158 :: c159 :: c160 :: c161 :: c162 :: c163 :: c164 :: c165 :: c166 :: c167 :: c168 :: c169 :: c170 :: c171 :: c172 :: c173 :: c174 :: c175 :: c176 :: c177 :: c178 :: c179 :: c180 :: c181 :: c182 :: c183 :: c184 :: c185 :: c186 :: c187 :: c188 :: c189 :: c190 :: c191 :: c192 :: c193 :: c194 :: c195 :: c196 :: c197 :: c198 :: c199 :: c200 :: c201 :: c202 :: c203 :: c204 :: c205 :: c206 :: c207 :: c208 :: c209 :: c210 :: c211 :: c212 :: c213 :: []).toArray, []⟩ W := by
  conv => arg 2; whnf
  have HW := Lib.hid (And.intro h0 hT)
  clear h0 hT
  go_upto_region 26 with (first
    | ((with_reducible refine (two_lit _ 0 5 _ (by decide) (Nat.zero_le _) (by decide) (.mk 1 0 []) (.mk 1 0 []) _ _ (name_leaf 0 _ 0) (name_leaf 0 _ 0)).mono ?_); rintro e Wn ⟨A1, l1, c1, rfl, h1, en⟩; (first | (replace q1 := heap_ext en q1; replace q2 := heap_ext en q2; replace hE := Ext.trans hE en) | (have q1 := heap_ext (Ext.trans (alloc_ext _ _) en) (heap_alloc_new _ _); have q2 := heap_ext en (heap_alloc_new _ _); have hE := Ext.trans (Ext.trans (alloc_ext W _) (alloc_ext _ _)) en)); (try replace h1 := NodeT.ext h1 en); (try replace h2 := NodeT.ext h2 en); (try replace h3 := NodeT.ext h3 en); (try replace h4 := NodeT.ext h4 en))
    | ((with_reducible refine (two_lit _ 0 8 _ (by decide) (Nat.zero_le _) (by decide) (.mk 0 0 []) (.mk 5 0 [.mk 1 0 [], .mk 1 0 []]) _ _ (num_leaf 0 _ 0) h1).mono ?_); rintro e Wn ⟨A2, l2, c2, rfl, h2, en⟩; (first | (replace q1 := heap_ext en q1; replace q2 := heap_ext en q2; replace hE := Ext.trans hE en) | (have q1 := heap_ext (Ext.trans (alloc_ext _ _) en) (heap_alloc_new _ _); have q2 := heap_ext en (heap_alloc_new _ _); have hE := Ext.trans (Ext.trans (alloc_ext W _) (alloc_ext _ _)) en)); (try replace h1 := NodeT.ext h1 en); (try replace h2 := NodeT.ext h2 en); (try replace h3 := NodeT.ext h3 en); (try replace h4 := NodeT.ext h4 en))
    | ((with_reducible refine (two_lit _ 0 6 _ (by decide) (Nat.zero_le _) (by decide) (.mk 0 0 []) (.mk 0 0 []) _ _ (num_leaf 0 _ 0) (num_leaf 0 _ 0)).mono ?_); rintro e Wn ⟨A3, l3, c3, rfl, h3, en⟩; (first | (replace q1 := heap_ext en q1; replace q2 := heap_ext en q2; replace hE := Ext.trans hE en) | (have q1 := heap_ext (Ext.trans (alloc_ext _ _) en) (heap_alloc_new _ _); have q2 := heap_ext en (heap_alloc_new _ _); have hE := Ext.trans (Ext.trans (alloc_ext W _) (alloc_ext _ _)) en)); (try replace h1 := NodeT.ext h1 en); (try replace h2 := NodeT.ext h2 en); (try replace h3 := NodeT.ext h3 en); (try replace h4 := NodeT.ext h4 en))
    | ((with_reducible refine (two_lit _ 0 4 _ (by decide) (Nat.zero_le _) (by decide) (.mk 1 0 []) (.mk 0 1 []) _ _ (name_leaf 0 _ 0) (num_leaf 0 _ 1)).mono ?_); rintro e Wn ⟨A4, l4, c4, rfl, h4, en⟩; (first | (replace q1 := heap_ext en q1; replace q2 := heap_ext en q2; replace hE := Ext.trans hE en) | (have q1 := heap_ext (Ext.trans (alloc_ext _ _) en) (heap_alloc_new _ _); have q2 := heap_ext en (heap_alloc_new _ _); have hE := Ext.trans (Ext.trans (alloc_ext W _) (alloc_ext _ _)) en)); (try replace h1 := NodeT.ext h1 en); (try replace h2 := NodeT.ext h2 en); (try replace h3 := NodeT.ext h3 en); (try replace h4 := NodeT.ext h4 en))
    | ((with_reducible first | refine (num_lit _ _).mono ?_ | refine (name_lit _ _).mono ?_); rintro e Wn ⟨rfl, en⟩; (first | (replace q1 := heap_ext en q1; replace q2 := heap_ext en q2; replace hE := Ext.trans hE en) | (have q1 := heap_ext (Ext.trans (alloc_ext _ _) en) (heap_alloc_new _ _); have q2 := heap_ext en (heap_alloc_new _ _); have hE := Ext.trans (Ext.trans (alloc_ext W _) (alloc_ext _ _)) en)); (try replace h1 := NodeT.ext h1 en); (try replace h2 := NodeT.ext h2 en); (try replace h3 := NodeT.ext h3 en); (try replace h4 := NodeT.ext h4 en)))
  refine wp_named ?_
  intro W5 hW5
  have q2 : Wn.heap[W.heap.size + 1]? = some (.cells #[.int .i64 46341] 3 (0, 0)) := by simpa using q2
  obtain ⟨hE5, hX, hB⟩ := big_made hE q1 q2 h2 h3 h4 hW5
  have hT5 := HW.out.2.ext hE5
  have H5 := Lib.hid (HW.out.1.trans hE5)
  have e0 : Ext W5 (W5.alloc (.cells #[.int .i64 0, .int .i64 0, .int .i64 0] 3)) := alloc_ext _ _
  have hrun := run_lit (W5.alloc (.cells #[.int .i64 0, .int .i64 0, .int .i64 0] 3)) _ kBig (hX.ext e0) (hT5.ext e0) (.slice (some ⟨W5.heap.size, 0, none⟩) 3 3) [0, 0, 0] [1, 0, 0] 3 3 (ints_lit W5 [0, 0, 0] 3 rfl (by decide)) kBig_ok (by decide) kBig_r rfl
  clear hW5 hX HW hE5 q1 q2 h1 h2 h3 h4 hE en
  generalize Wn.heap.size + 1 + 1 = d5 at *
  generalize Wn.heap.size + 1 = b71 at *
  generalize W.heap.size + 1 = b28 at *
  generalize W.heap.size = b27 at *
  unfold bigV at hrun
  go_upto_region 999 with (first
    | (with_reducible refine stop_at 27 ?_)
    | (with_reducible refine stop_at2 27 ?_)
    | (with_reducible refine wpList_load_row rfl 31 _ rfl d5 rfl 31 _ (0, 0) _ hB Tryd.underlying31 rfl (by kernel_rfl) ?_)
    | ((with_reducible refine hrun.mono ?_); rintro e W6 ⟨A6, rfl, h6, e6⟩))
  have hT6 := hT5.ext (e0.trans e6)
  have hE6 := H5.out.trans (e0.trans e6)
  refine ⟨?_⟩
  exact known_t27 w W6 A6 _ _ _ _ _ _ _ _ _ _ _ _ _ _ _ _ _ _ _ _ _ _ _ _ _ _ _ _ _ _ _ _ _ _ _ _ _ _ _ _ _ _ _ _ _ _ _ _ _ _ _ _ _ _ _ _ _ _ _ _ _ _ _ _ _ _ _ _ _ _ _ _ _ _ _ _ _ _ _ _ _ _ _ _ _ _ _ _ _ _ _ _ _ _ _ _ _ _ _ _ _ _ _ _ _ _ _ _ _ _ _ _ _ _ _ _ _ _ _ _ _ _ _ _ _ _ _ _ _ _ _ _ _ _ _ _ _ _ _ _ _ _ _ _ _ _ _ _ _ _ _ _ _ _ _ _ _ _ _ _ _ _ _ _ _ _ _ _ _ _ _ _ _ _ _ _ _ _ _ _ _ _ _ _ _ _ _ _ _ _ _ _ _ _ _ _ _ _ _ _ _ _ _ _ _ _ _ _ _ _ _ _ hE6 hT6 h6
end Go.Proofs.YtggffdkgfgdaoaaDoor
