/- ExtendsKnown 9, backwards: regions 20, 21; rows of variables that turn. ExtendsKnown 9, backwards: regions 18, 19. ExtendsKnown 9, backwards: regions 16, 17. (written by gen_k6.py) ExtendsKnown 9, backwards: regions 10 to 15. -/
import Derived.Test.YtggffdkgfgdaoaaDoorK3
namespace Go.Proofs.YtggffdkgfgdaoaaDoor
open Go.RowKit Go.Maps
set_option linter.unusedVariables false
set_option linter.unusedSimpArgs false
attribute [local go_sem] Oper.quietV quietV Oper.gives givesV ext_refl_iff ext_alloc_iff ext_drew_iff ext_drewN_iff
/-- A row of variables in a block of its own. -/
def VRow (W : World) (g c : Nat) (l : List Vt) : Prop := ∃ cur, W.heap[g]? = some (.cells cur 79 (0, 0)) ∧ cur.toList.take (l.length * 3) = l.flatMap vtCells ∧ l.length ≤ c
theorem VRow.cell {W : World} {g c : Nat} {l : List Vt} (h : VRow W g c l) {j : Nat} {u : Value} (hj : (l.flatMap vtCells)[j]? = some u) : W.cell? ⟨g, j, none⟩ = some u := by
  obtain ⟨cur, h1, h2, _⟩ := h
  have hlt := (List.getElem?_eq_some_iff.1 hj).1
  rw [vts_len] at hlt
  rw [← h2, List.getElem?_take_of_lt hlt] at hj
  exact cell_of_blk h1 j (by simpa using hj)
theorem VRow.free {W : World} {g c : Nat} {l : List Vt} (h : VRow W g c l) (j : Nat) : W.frozen? ⟨g, j, none⟩ = false := by
  obtain ⟨cur, h1, _⟩ := h
  exact free_of_blk h1 j
theorem VRow.vars {W : World} {g c : Nat} {l : List Vt} (h : VRow W g c l) (hl : l.length ≤ 1000) (hs : ∀ u ∈ l, u.1.size ≤ maxLen) : VarsC W (.slice (some ⟨g, 0, none⟩) l.length c) l c := by
  obtain ⟨cur, h1, _, h3⟩ := id h
  exact ⟨_, rfl, fun h0 => ⟨g, 0, rfl, lt_of_block h1, fun j u hj => by rw [Nat.zero_add]; exact h.cell hj⟩, h3, by unfold lenMax; omega, hs⟩
theorem VRow.keep {W W' : World} {g c : Nat} {l : List Vt} (h : VRow W g c l) (e : W'.heap[g]? = W.heap[g]?) : VRow W' g c l := by
  obtain ⟨cur, h1, h2, h3⟩ := h
  exact ⟨cur, e.trans h1, h2, h3⟩
theorem VRow.ext {W W' : World} {g c : Nat} {l : List Vt} (h : VRow W g c l) (e : Ext W W') : VRow W' g c l := by
  obtain ⟨cur, h1, h2, h3⟩ := h
  exact ⟨cur, heap_ext e h1, h2, h3⟩
theorem VRow.of_owns {W : World} {base n g c : Nat} {xs : List Value} {l : List Vt} (h : W.ownsRow base 79 3 (.slice (some ⟨g, 0, none⟩) n c) n xs) (hl : l.length = n) (hx : xs = l.flatMap vtCells) : VRow W g c l ∧ base ≤ g := by
  subst hl hx
  rcases h.2 with ⟨h1, _⟩ | ⟨g', cap, cur, h1, h2, h3, h4, _, _, h5⟩
  · cases h1
  · cases h1; exact ⟨⟨cur, h3, h5, h4⟩, h2⟩
set_option maxRecDepth 100000 in
theorem VRow.last {W : World} {g c : Nat} (h : VRow W g c kZ2.vars) : VRow (((W.setCell ⟨g, 36, none⟩ (.string ⟨#[97, 108, 108]⟩)).setCell ⟨g, 37, none⟩ (.int .i64 (-2147483648))).setCell ⟨g, 38, none⟩ (.int .i64 2147483648)) g c kZ3.vars := by
  obtain ⟨cur, h1, h2, h3⟩ := h
  refine ⟨_, heap_setCell_same _ g 38 _ 79 _ (heap_setCell_same _ g 37 _ 79 _ (heap_setCell_same _ g 36 _ 79 _ h1)), ?_, h3⟩
  have e2 : kZ2.vars.length = 13 := rfl
  have e3 : kZ3.vars.length = 13 := rfl
  rw [e2] at h2
  rw [e3, Array.toList_setIfInBounds, Array.toList_setIfInBounds, Array.toList_setIfInBounds, List.take_set, List.take_set, List.take_set, h2]
  rfl
theorem z_small : ∀ l : Xt, (l = kZ ∨ l = kZ2 ∨ l = kZ3) → ∀ u ∈ l.vars, u.1.size ≤ maxLen := by
  rintro l (rfl | rfl | rfl) <;> decide
theorem LitA.keep {N b n d : Nat} {al : List Ac} {W W' : World} {cs : Array Value} {f : Nat × Nat} (h : LitA N al (.slice (some ⟨b, 0, none⟩) n n) W) (hB : W.heap[d]? = some (.cells cs 31 f)) (g : W.grownBy W' (some d)) : LitA N al (.slice (some ⟨b, 0, none⟩) n n) W' := by
  obtain ⟨b', n', vs, h1, h2, h3, h4, h5, h6⟩ := h
  cases h1
  refine ⟨_, _, vs, rfl, h2, h3, h4, (g.block _ (lt_of_block h5) (fun e => ?_)).trans h5, fun i a y ha hy => (h6 i a y ha hy).keep (Kp.grown hB (.inr rfl) g)⟩
  cases e
  rw [hB] at h5; injection h5 with h5; injection h5 with _ h5 _; cases h5
theorem LitA.acs {N b n : Nat} {al : List Ac} {W : World} (h : LitA N al (.slice (some ⟨b, 0, none⟩) n n) W) (hn : n ≤ 1000) : AcsC W (.slice (some ⟨b, 0, none⟩) n n) al n := by
  obtain ⟨b', n', vs, h1, h2, h3, h4, h5, h6⟩ := h
  cases h1
  subst h2
  exact ⟨_, vs, rfl, h4, cells_blk h5, fun i a y ha hy => (h6 i a y ha hy).v, Nat.le_refl _, by unfold lenMax; omega⟩
theorem hit_keep {W W' : World} {A : Option Addr} {d : Nat} {cs : Array Value} {τ : TypeId} {f : Nat × Nat} (h : FitC W (.slice A 12 12) kHit) (hB : W.heap[d]? = some (.cells cs τ f)) (hc : cs.size ≤ 6) (g : W.grownBy W' (some d)) : FitC W' (.slice A 12 12) kHit := by
  obtain ⟨A', hv, h1, h2, h3⟩ := h
  cases hv
  refine ⟨_, rfl, fun h0 => ?_, h2, h3⟩
  obtain ⟨b, o, rfl, hlt, hcell⟩ := h1 h0
  have hne : b ≠ d := fun e => by
    subst e
    have h11 := hcell 11 (.int .i64 1) rfl
    simp [World.cell?, hB] at h11
    rw [Array.getElem?_eq_none (by omega)] at h11
    cases h11
  have he := g.block b hlt (fun e => hne (by injection e))
  exact ⟨b, o, rfl, Nat.lt_of_lt_of_le hlt g.size, fun j u hj => (cell_keep he _).trans (hcell j u hj)⟩
set_option maxRecDepth 100000 in
set_option maxHeartbeats 16000000 in
theorem known_t20 (w W0 W : World) (d g c s b : Nat) (A : Option Addr) (cs0 : Array Value) (c0 c1 c2 c3 c5 c6 c7 c8 c9 c10 c15 c16 c17 c18 c19 c20 c21 c22 c23 c24 c25 c26 c27 c28 c29 c30 c31 c32 c33 c34 c35 c36 c37 c38 c39 c40 c41 c42 c43 c44 c45 c46 c47 c48 c49 c50 c51 c52 c53 c54 c55 c56 c57 c58 c59 c60 c61 c62 c63 c64 c65 c66 c67 c68 c69 c70 c71 c72 c73 c74 c75 c76 c77 c78 c79 c80 c81 c82 c83 c84 c85 c86 c87 c88 c89 c90 c91 c92 c93 c94 c95 c96 c97 c98 c99 c100 c101 c102 c103 c104 c105 c106 c107 c108 c109 c110 c111 c112 c113 c114 c115 c116 c117 c118 c119 c120 c121 c122 c123 c124 c125 c126 c127 c128 c129 c130 c131 c132 c133 c134 c135 c136 c137 c138 c139 c140 c141 c142 c143 c144 c145 c146 c147 c148 c149 c150 c151 c152 c153 c154 c155 c156 c157 c158 c159 c160 c161 c162 c163 c164 c165 c166 c167 c168 c169 c170 c171 c172 c173 c174 c175 c176 c177 c178 c179 c180 c181 c182 c183 c184 c185 c186 c187 c188 c189 c190 c191 c192 c193 c194 c195 c196 c197 c198 c199 c200 c201 c202 c203 c204 c205 c206 c207 c208 c209 c210 c211 c212 c213 : Value) (h0 : Ext w W0) (hT : OpsTab w) (hd : w.heap.size ≤ d) (hB0 : W0.heap[d]? = some (.cells cs0 31 (0, 0))) (hc0 : cs0.size ≤ 6) (hg : W0.grownBy W (some d)) (hgg : W0.heap.size ≤ g) (hsg : W0.heap.size ≤ s)
    (hA : LitA 0 [zA, zB] (.slice (some ⟨b, 0, none⟩) 2 2) W0) (hh : FitC W0 (.slice A 12 12) kHit) (hV : VRow W g c kZ2.vars) (hS : W.heap[s]? = some (.cells (Array.replicate 13 (.int .i64 0)) 3 (0, 0)))
    (hB : W.heap[d]? = some (.cells #[.int .i64 1, .int .i64 1, .int .i64 1, .slice (some ⟨g, 0, none⟩) 13 c, .slice (some ⟨s, 0, none⟩) 13 13, .slice (some ⟨b, 0, none⟩) 2 2] 31 (0, 0))) :
    Code.wp Tryd.prog (T9 20) (bodyPost Tryd.prog Tryd.f9 (LivP w)) ⟨(c0 :: c1 :: c2 :: c3 :: .int .i64 0 :: c5 :: c6 :: c7 :: c8 :: c9 :: c10 :: .pointer (some ⟨d, 0, none⟩) :: .int .i64 0 :: .int .i64 1 :: .slice A 12 12 :: c15 :: c16 :: c17 :: c18 :: c19 :: c20 :: c21 :: c22 :: c23 :: c24 :: c25 :: c26 :: c27 :: c28 :: c29 :: c30 :: c31 :: c32 :: c33 :: c34 :: c35 :: c36 :: c37 :: c38 :: c39 :: c40 :: c41 :: c42 :: c43 :: c44 :: c45 :: c46 :: c47 :: c48 :: c49 :: c50 :: c51 :: c52 :: c53 :: c54 :: c55 :: c56 :: c57 :: c58 :: c59 :: c60 :: c61 :: c62 :: c63 :: c64 :: c65 :: c66 :: c67 :: c68 :: c69 :: c70 :: c71 :: c72 :: c73 :: c74 :: c75 :: c76 :: c77 :: c78 :: c79 :: c80 :: c81 :: c82 :: c83 :: c84 :: c85 :: c86 :: c87 :: c88 :: c89 :: c90 :: c91 :: c92 :: c93 :: c94 :: c95 :: c96 :: c97 :: c98 :: c99 :: c100 :: c101 :: c102 :: c103 :: c104 :: c105 :: c106 :: c107 :: c108 :: c109 :: c110 :: c111 :: c112 :: c113 :: c114 :: c115 :: c116 :: c117 :: c118 :: c119 :: c120 :: c121 :: c122 :: c123 :: c124 :: c125 :: c126 :: c127 :: c128 :: c129 :: c130 :: c131 :: c132 :: c133 :: c134 :: c135 :: c136 :: c137 :: c138 :: c139 :: c140 :: c141 :: c142 :: c143 :: c144 :: c145 :: c146 :: c147 :: c148 :: c149 :: c150 :: c151 :: c152 :: c153 :: c154 :: c155 :: c156 :: c157 :: c158 :: c159 :: c160 :: c161 :: c162 :: c163 :: c164 :: c165 :: c166 :: c167 :: c168 :: c169 :: c170 :: c171 :: c172 :: c173 :: c174 :: c175 :: c176 :: c177 :: c178 :: c179 :: c180 :: c181 :: c182 :: c183 :: c184 :: c185 :: c186 :: c187 :: c188 :: c189 :: c190 :: c191 :: c192 :: c193 :: c194 :: c195 :: c196 :: c197 :: c198 :: c199 :: c200 :: c201 :: c202 :: c203 :: c204 :: c205 :: c206 :: c207 :: c208 :: c209 :: c210 :: c211 :: c212 :: c213 :: []).toArray, []⟩ W := by
  conv => arg 2; whnf
  have hEW : ∀ W', W0.grownBy W' (some d) → Ext w W' := fun W' hg' => Below.grown h0 hg' h0.size (fun k hk => by cases hk; exact hd)
  have hmk : ∀ W' (l : List Vt) (st : List Int), W0.grownBy W' (some d) → VRow W' g c l → l.length = 13 → st = List.replicate 13 0 → (∀ u ∈ l, u.1.size ≤ maxLen) → W'.heap[s]? = some (.cells (Array.replicate 13 (.int .i64 0)) 3 (0, 0)) → XtV W' ⟨1, 1, 1, l, st, [zA, zB]⟩ (.agg #[.int .i64 1, .int .i64 1, .int .i64 1, .slice (some ⟨g, 0, none⟩) 13 c, .slice (some ⟨s, 0, none⟩) 13 13, .slice (some ⟨b, 0, none⟩) 2 2]) := fun W' l st hg' hV' hl hst hsm hS' => by
    have hv := hV'.vars (by omega) hsm
    rw [hl] at hv
    refine ⟨_, _, _, c, 13, 2, rfl, hv, ?_, (hA.keep hB0 hg').acs (by omega)⟩
    subst hst
    exact ⟨_, rfl, cells_blk hS', by simp, by simp [lenMax]⟩
  have hcf := conf_lim W _ kZ2 (hmk W kZ2.vars kZ2.start hg hV rfl rfl (z_small _ (.inr (.inl rfl))) hS) (hT.ext (hEW W hg)) kZ2_ok (by rw [kZ2_c]; decide)
  have HW := Lib.hid (And.intro hEW (And.intro hT (And.intro hB0 (And.intro hc0 (And.intro hg (And.intro hgg (And.intro hsg (And.intro hh hmk))))))))
  have H1 := Lib.hid (And.intro hV (And.intro hS hB))
  clear h0 hT hd hB0 hc0 hg hgg hsg hA hh hV hS hEW hmk
  go_upto_region 21 with (first
    | (with_reducible refine wpList_load_row rfl 31 _ rfl d rfl 31 _ (0, 0) _ hB Tryd.underlying31 rfl (by kernel_rfl) ?_)
    | ((with_reducible refine hcf.mono ?_); rintro e W6 ⟨rfl, e6⟩))
  have hB6 := heap_ext e6 H1.out.2.2
  have q3 := cell_of_blk hB6 3 (u := .slice (some ⟨g, 0, none⟩) 13 c) rfl
  have hV6 := H1.out.1.ext e6
  have k0 := hV6.cell (j := 36) (u := .string ⟨#[109, 111, 114, 101]⟩) rfl
  have k1 := hV6.cell (j := 37) (u := .int .i64 0) rfl
  have k2 := hV6.cell (j := 38) (u := .int .i64 1) rfl
  have f0 := hV6.free 36
  have f1 := hV6.free 37
  have f2 := hV6.free 38
  have hne : g ≠ d := fun e => by
    obtain ⟨cur, h1, _⟩ := hV6
    rw [e, hB6] at h1; injection h1 with h1; injection h1 with _ h1 _; cases h1
  have hsne : s ≠ g := fun e => by
    obtain ⟨cur, h1, _⟩ := hV6
    rw [← e, heap_ext e6 H1.out.2.1] at h1; injection h1 with h1; injection h1 with _ h1 _; cases h1
  obtain ⟨W9, hW9⟩ : ∃ W9, W9 = ((W6.setCell ⟨g, 36, none⟩ (.string ⟨#[97, 108, 108]⟩)).setCell ⟨g, 37, none⟩ (.int .i64 (-2147483648))).setCell ⟨g, 38, none⟩ (.int .i64 2147483648) := ⟨_, rfl⟩
  have hV9 : VRow W9 g c kZ3.vars := by rw [hW9]; exact hV6.last
  have hg9 : W6.grownBy W9 (some g) := by rw [hW9]; exact grown_trans (grown_trans (grown_setK _ g 36 _) (grown_setK _ g 37 _)) (grown_setK _ g 38 _)
  have hB9 := (hg9.block d (lt_of_block hB6) (fun e => hne (by injection e with e; exact e.symm))).trans hB6
  have hS9 := (hg9.block s (lt_of_block (heap_ext e6 H1.out.2.1)) (fun e => hsne (by injection e))).trans (heap_ext e6 H1.out.2.1)
  have h06 : W0.grownBy W6 (some d) := grown_trans HW.out.2.2.2.2.1 (grown_of_ext e6 _)
  have h09 : W0.grownBy W9 (some d) := ⟨hg9.os.trans h06.os, hg9.tape.trans h06.tape, hg9.output.trans h06.output, Nat.le_trans h06.size hg9.size, fun k hk hr => (hg9.block k (Nat.lt_of_lt_of_le hk h06.size) (fun e => by have h := HW.out.2.2.2.2.2.1; injection e with e; omega)).trans (h06.block k hk hr)⟩
  have hX9 := HW.out.2.2.2.2.2.2.2.2 W9 kZ3.vars kZ3.start h09 hV9 rfl rfl (z_small _ (.inr (.inr rfl))) hS9
  have hh9 := hit_keep HW.out.2.2.2.2.2.2.2.1 HW.out.2.2.1 HW.out.2.2.2.1 h09
  have hE9 := HW.out.1 W9 h09
  have H9 := Lib.hid (And.intro hE9 (And.intro (HW.out.2.1.ext hE9) (And.intro hB9 (And.intro hX9 hh9))))
  have HN9 := Lib.hid hW9
  clear hB hcf hB6 hV6 hW9 hV9 hg9 hB9 hS9 h06 h09 hX9 hh9 hE9 hne hsne H1 HW
  go_upto_region 999 with (first
    | (with_reducible refine stop_at 22 ?_)
    | (with_reducible refine stop_at2 22 ?_))
  refine ⟨?_⟩
  rw [← HN9.out]
  exact known_t22 w W9 d A _ _ _ _ _ _ _ _ _ _ _ _ _ _ _ _ _ _ _ _ _ _ _ _ _ _ _ _ _ _ _ _ _ _ _ _ _ _ _ _ _ _ _ _ _ _ _ _ _ _ _ _ _ _ _ _ _ _ _ _ _ _ _ _ _ _ _ _ _ _ _ _ _ _ _ _ _ _ _ _ _ _ _ _ _ _ _ _ _ _ _ _ _ _ _ _ _ _ _ _ _ _ _ _ _ _ _ _ _ _ _ _ _ _ _ _ _ _ _ _ _ _ _ _ _ _ _ _ _ _ _ _ _ _ _ _ _ _ _ _ _ _ _ _ _ _ _ _ _ _ _ _ _ _ _ _ _ _ _ _ _ _ _ _ _ _ _ _ _ _ _ _ _ _ _ _ _ _ _ _ _ _ _ _ _ _ _ _ _ _ _ _ _ _ _ _ _ _ _ _ _ _ _ _ _ _ _ _ _ _ _ H9.out.1 H9.out.2.1 H9.out.2.2.1 H9.out.2.2.2.1 H9.out.2.2.2.2
end Go.Proofs.YtggffdkgfgdaoaaDoor

namespace Go.Proofs.YtggffdkgfgdaoaaDoor
open Go.RowKit Go.Maps
set_option linter.unusedVariables false
set_option linter.unusedSimpArgs false
attribute [local go_sem] Oper.quietV quietV Oper.gives givesV ext_refl_iff ext_alloc_iff ext_drew_iff ext_drewN_iff
theorem var_info : (Tryd.prog.info? 79).map (fun i => (i.zero, i.size, i.bytes)) = some (some (.agg #[.string ⟨#[]⟩, .int .i64 0, .int .i64 0]), 3, 32) := by kernel_rfl
theorem own_empty3 (W : World) (e : TypeId) : (W.alloc (.cells #[] e)).ownsRow W.heap.size e 3 (.slice (some ⟨W.heap.size, 0, none⟩) 0 0) 0 [] := by
  have h := World.ownsRow_lit (base := W.heap.size) (e := e) (size := 3) W #[] 0 (Nat.le_refl _) (by unfold maxLen; omega) rfl
  simpa using h
theorem vt_one {l : List Vt} : ∀ u ∈ l.flatMap vtCells, u.oneCell' = true := fun u hu => by
  obtain ⟨v, _, hv⟩ := List.mem_flatMap.1 hu
  simp [vtCells] at hv
  rcases hv with rfl | rfl | rfl <;> rfl
theorem grown_of_own {W w6 w7 : World} {e : TypeId} {size n : Nat} {xs : List Value} {v : Value} {base : Nat} (hb : W.heap.size ≤ base) (hE : Ext W w6) (h : w6.ownsRow base e size v n xs) (hg : w6.grownBy w7 v.ownBlock) : Ext W w7 := Below.grown hE hg hE.size (fun k hk => Nat.le_trans hb (h.lt k hk).1)
set_option maxRecDepth 100000 in
set_option maxHeartbeats 16000000 in
theorem known_t18 (w W : World) (d b c9 : Nat) (A A9 : Option Addr) (sv : Value) (c0 c1 c2 c3 c5 c6 c7 c8 c10 c15 c16 c17 c18 c19 c20 c21 c22 c23 c24 c25 c26 c27 c28 c29 c30 c31 c32 c33 c34 c35 c36 c37 c38 c39 c40 c41 c42 c43 c44 c45 c46 c47 c48 c49 c50 c51 c52 c53 c54 c55 c56 c57 c58 c59 c60 c61 c62 c63 c64 c65 c66 c67 c68 c69 c70 c71 c72 c73 c74 c75 c76 c77 c78 c79 c80 c81 c82 c83 c84 c85 c86 c87 c88 c89 c90 c91 c92 c93 c94 c95 c96 c97 c98 c99 c100 c101 c102 c103 c104 c105 c106 c107 c108 c109 c110 c111 c112 c113 c114 c115 c116 c117 c118 c119 c120 c121 c122 c123 c124 c125 c126 c127 c128 c129 c130 c131 c132 c133 c134 c135 c136 c137 c138 c139 c140 c141 c142 c143 c144 c145 c146 c147 c148 c149 c150 c151 c152 c153 c154 c155 c156 c157 c158 c159 c160 c161 c162 c163 c164 c165 c166 c167 c168 c169 c170 c171 c172 c173 c174 c175 c176 c177 c178 c179 c180 c181 c182 c183 c184 c185 c186 c187 c188 c189 c190 c191 c192 c193 c194 c195 c196 c197 c198 c199 c200 c201 c202 c203 c204 c205 c206 c207 c208 c209 c210 c211 c212 c213 : Value) (h0 : Ext w W) (hT : OpsTab w) (hd : w.heap.size ≤ d) (hA : LitA 0 [zA, zB] (.slice (some ⟨b, 0, none⟩) 2 2) W) (hh : FitC W (.slice A 12 12) kHit) (hV : VarsC W (.slice A9 12 c9) (kVars 12) c9) (As : Option Addr) (ns cs : Nat) (hsv : sv = .slice As ns cs)
    (hB : W.heap[d]? = some (.cells #[.int .i64 1, .int .i64 1, .int .i64 1, .slice A9 12 c9, sv, .slice (some ⟨b, 0, none⟩) 2 2] 31 (0, 0))) :
    Code.wp Tryd.prog (T9 18) (bodyPost Tryd.prog Tryd.f9 (LivP w)) ⟨(c0 :: c1 :: c2 :: c3 :: .int .i64 0 :: c5 :: c6 :: c7 :: c8 :: .slice A9 12 c9 :: c10 :: .pointer (some ⟨d, 0, none⟩) :: .int .i64 0 :: .int .i64 1 :: .slice A 12 12 :: c15 :: c16 :: c17 :: c18 :: c19 :: c20 :: c21 :: c22 :: c23 :: c24 :: c25 :: c26 :: c27 :: c28 :: c29 :: c30 :: c31 :: c32 :: c33 :: c34 :: c35 :: c36 :: c37 :: c38 :: c39 :: c40 :: c41 :: c42 :: c43 :: c44 :: c45 :: c46 :: c47 :: c48 :: c49 :: c50 :: c51 :: c52 :: c53 :: c54 :: c55 :: c56 :: c57 :: c58 :: c59 :: c60 :: c61 :: c62 :: c63 :: c64 :: c65 :: c66 :: c67 :: c68 :: c69 :: c70 :: c71 :: c72 :: c73 :: c74 :: c75 :: c76 :: c77 :: c78 :: c79 :: c80 :: c81 :: c82 :: c83 :: c84 :: c85 :: c86 :: c87 :: c88 :: c89 :: c90 :: c91 :: c92 :: c93 :: c94 :: c95 :: c96 :: c97 :: c98 :: c99 :: c100 :: c101 :: c102 :: c103 :: c104 :: c105 :: c106 :: c107 :: c108 :: c109 :: c110 :: c111 :: c112 :: c113 :: c114 :: c115 :: c116 :: c117 :: c118 :: c119 :: c120 :: c121 :: c122 :: c123 :: c124 :: c125 :: c126 :: c127 :: c128 :: c129 :: c130 :: c131 :: c132 :: c133 :: c134 :: c135 :: c136 :: c137 :: c138 :: c139 :: c140 :: c141 :: c142 :: c143 :: c144 :: c145 :: c146 :: c147 :: c148 :: c149 :: c150 :: c151 :: c152 :: c153 :: c154 :: c155 :: c156 :: c157 :: c158 :: c159 :: c160 :: c161 :: c162 :: c163 :: c164 :: c165 :: c166 :: c167 :: c168 :: c169 :: c170 :: c171 :: c172 :: c173 :: c174 :: c175 :: c176 :: c177 :: c178 :: c179 :: c180 :: c181 :: c182 :: c183 :: c184 :: c185 :: c186 :: c187 :: c188 :: c189 :: c190 :: c191 :: c192 :: c193 :: c194 :: c195 :: c196 :: c197 :: c198 :: c199 :: c200 :: c201 :: c202 :: c203 :: c204 :: c205 :: c206 :: c207 :: c208 :: c209 :: c210 :: c211 :: c212 :: c213 :: []).toArray, []⟩ W := by
  conv => arg 2; whnf
  subst hsv
  obtain ⟨i79, hi79, hz79, hs79, hb79⟩ := info_parts var_info
  obtain ⟨A9', hv9, hc9, h12, _, _⟩ := hV
  cases hv9
  obtain ⟨b9, o9, rfl, hlt9, hcell9⟩ := hc9 (by decide)
  have hE0 : Ext W (W.alloc (.cells #[] 79)) := alloc_ext _ _
  have hown0 := own_empty3 W 79
  have hsrc : ∀ (j : Nat) (u : Value), ((kVars 12).flatMap vtCells)[j]? = some u → (W.alloc (.cells #[] 79)).cell? ((⟨b9, o9, none⟩ : Addr).add j) = some u := fun j u hj => by rw [Addr.add_lit]; exact hE0.cell (hcell9 j u hj)
  have hln : ((kVars 12).flatMap vtCells).length = 12 * 3 := rfl
  have hone : ∀ u ∈ (kVars 12).flatMap vtCells, u.oneCell' = true := vt_one
  have hone2 : ∀ u ∈ [Value.string ⟨#[109, 111, 114, 101]⟩, .int .i64 0, .int .i64 1], u.oneCell' = true := by intro u hu; simp at hu; rcases hu with rfl | rfl | rfl <;> rfl
  have hbase0 : W.heap.size ≤ (W.alloc (.cells #[] 79)).heap.size := hE0.size
  have HW := Lib.hid (And.intro h0 (And.intro hT (And.intro hd (And.intro hA (And.intro hh (And.intro hB (And.intro hE0 hown0)))))))
  clear h0 hT hd hA hh hB hE0 hcell9 hc9 hlt9
  go_upto_region 19 with (first
    | (at_builtin; refine wpList_append_own2 rfl _ _ 27 rfl W.heap.size 79 i79 (.agg #[.string ⟨#[]⟩, .int .i64 0, .int .i64 0]) 3 32 Tryd.underlying27 hi79 hz79 hs79 hb79 rfl (by decide) (.slice (some ⟨W.heap.size, 0, none⟩) 0 0) 0 [] rfl hown0 ⟨b9, o9, none⟩ 12 c9 ((kVars 12).flatMap vtCells) rfl hln hsrc hone (by unfold maxLen; omega) (by omega) hbase0 ?_; intro v6 w6 hown6 hg6 hb6; obtain ⟨g6, cp6, rfl⟩ := ownsRow_pos hown6 (by omega); have hE6 := grown_of_own (Nat.le_refl _) HW.out.2.2.2.2.2.2.1 HW.out.2.2.2.2.2.2.2 hg6; have hbase6 := (hE6.trans (alloc_ext w6 (.cells #[.string ⟨#[109, 111, 114, 101]⟩, .int .i64 0, .int .i64 1] 79))).size; have hown7 := World.ownsRow.alloc hown6 (.cells #[.string ⟨#[109, 111, 114, 101]⟩, .int .i64 0, .int .i64 1] 79); have hnew := cells_new w6 #[.string ⟨#[109, 111, 114, 101]⟩, .int .i64 0, .int .i64 1] 79; clear hown0 hsrc hone hbase0)
    | (at_builtin; refine wpList_append_own2 rfl _ _ 27 rfl W.heap.size 79 i79 (.agg #[.string ⟨#[]⟩, .int .i64 0, .int .i64 0]) 3 32 Tryd.underlying27 hi79 hz79 hs79 hb79 rfl (by decide) (.slice (some ⟨g6, 0, none⟩) (0 + 12) cp6) (0 + 12) ([] ++ (kVars 12).flatMap vtCells) rfl hown7 ⟨w6.heap.size, 0, none⟩ 1 1 [.string ⟨#[109, 111, 114, 101]⟩, .int .i64 0, .int .i64 1] rfl rfl hnew hone2 (by unfold maxLen; omega) (by omega) hbase6 ?_; intro v8 w8 hown8 hg8 hb8; obtain ⟨g8, cp8, rfl⟩ := ownsRow_pos hown8 (by omega); have hE8 := grown_of_own (Nat.le_refl _) (hE6.trans (alloc_ext w6 _)) hown7 hg8; have hB8 := heap_ext hE8 HW.out.2.2.2.2.2.1; have p3 := cell_of_blk hB8 3 (u := .slice (some ⟨b9, o9, none⟩) 12 c9) rfl; have f3 := free_of_blk hB8 3))
  refine wp_named ?_
  intro W9 hW9
  have hB9 : W9.heap[d]? = some (.cells #[.int .i64 1, .int .i64 1, .int .i64 1, .slice (some ⟨g8, 0, none⟩) 13 cp8, .slice As ns cs, .slice (some ⟨b, 0, none⟩) 2 2] 31 (0, 0)) := by rw [hW9]; exact heap_setCell_same w8 d 3 _ 31 _ hB8
  have hg9 : w8.grownBy W9 (some d) := by rw [hW9]; exact grown_setK w8 d 3 _
  obtain ⟨hV8, hgs8⟩ := VRow.of_owns (l := kZ2.vars) hown8 rfl rfl
  have hne : g8 ≠ d := fun e => by
    obtain ⟨cur, h1, _⟩ := hV8
    rw [e, hB8] at h1; injection h1 with h1; injection h1 with _ h1 _; cases h1
  have hV9 : VRow W9 g8 cp8 kZ2.vars := hV8.keep (hg9.block g8 (by obtain ⟨cur, h1, _⟩ := hV8; exact lt_of_block h1) (fun e => hne (by injection e)))
  have hG9 : W.grownBy W9 (some d) := grown_trans (grown_of_ext hE8 _) hg9
  have e10 : Ext W9 (W9.alloc (.cells (Array.replicate 13 (.int .i64 0)) 3)) := alloc_ext _ _
  have q4 := cell_of_blk (heap_ext e10 hB9) 4 (u := .slice As ns cs) rfl
  have f4 := free_of_blk (heap_ext e10 hB9) 4
  have mi : ∀ w, (Instr.makeSlice 28 (.int .i64 13) (.int .i64 13)).run Tryd.prog w = .ok (.slice (some ⟨w.heap.size, 0, none⟩) 13 13) (w.alloc (.cells (Array.replicate 13 (.int .i64 0)) 3)) := fun w => mk_ints 13 (by omega) w
  obtain ⟨W11, hW11⟩ : ∃ W11, W11 = (W9.alloc (.cells (Array.replicate 13 (.int .i64 0)) 3)).setCell ⟨d, 4, none⟩ (.slice (some ⟨W9.heap.size, 0, none⟩) 13 13) := ⟨_, rfl⟩
  have hg11 : (W9.alloc (.cells (Array.replicate 13 (.int .i64 0)) 3)).grownBy W11 (some d) := by rw [hW11]; exact grown_setK _ d 4 _
  have hB11 : W11.heap[d]? = some (.cells #[.int .i64 1, .int .i64 1, .int .i64 1, .slice (some ⟨g8, 0, none⟩) 13 cp8, .slice (some ⟨W9.heap.size, 0, none⟩) 13 13, .slice (some ⟨b, 0, none⟩) 2 2] 31 (0, 0)) := by rw [hW11]; exact heap_setCell_same _ d 4 _ 31 _ (heap_ext e10 hB9)
  have hV10 := hV9.ext e10
  have hV11 : VRow W11 g8 cp8 kZ2.vars := hV10.keep (hg11.block g8 (by obtain ⟨cur, h1, _⟩ := hV10; exact lt_of_block h1) (fun e => hne (by injection e)))
  have hS10 : (W9.alloc (.cells (Array.replicate 13 (.int .i64 0)) 3)).heap[W9.heap.size]? = some (.cells (Array.replicate 13 (.int .i64 0)) 3 (0, 0)) := heap_alloc_new _ _
  have hS11 := (hg11.block _ (lt_of_block hS10) (fun e => by have := lt_of_block hB9; injection e with e; omega)).trans hS10
  have hG11 : W.grownBy W11 (some d) := grown_trans (grown_trans hG9 (grown_of_ext e10 _)) hg11
  have hss : W.heap.size ≤ W9.heap.size := hG9.size
  have H9 := Lib.hid (And.intro hG11 (And.intro hgs8 (And.intro hss (And.intro hV11 (And.intro hS11 hB11)))))
  have HN := Lib.hid hW11
  clear hW9 hB9 hg9 hV8 hgs8 hne hV9 hG9 e10 hW11 hg11 hB11 hV10 hV11 hS10 hS11 hG11 hss hB8 p3 f3 hE8 hown8 hg8 hb8 hown7 hnew hbase6 hE6 hown6 hg6 hb6 hone2 hln
  go_upto_region 999 with (first
    | (with_reducible refine stop_at 20 ?_)
    | (with_reducible refine stop_at2 20 ?_))
  refine ⟨?_⟩
  rw [← HN.out]
  exact known_t20 w W W11 d g8 cp8 W9.heap.size b A _ _ _ _ _ _ _ _ _ _ _ _ _ _ _ _ _ _ _ _ _ _ _ _ _ _ _ _ _ _ _ _ _ _ _ _ _ _ _ _ _ _ _ _ _ _ _ _ _ _ _ _ _ _ _ _ _ _ _ _ _ _ _ _ _ _ _ _ _ _ _ _ _ _ _ _ _ _ _ _ _ _ _ _ _ _ _ _ _ _ _ _ _ _ _ _ _ _ _ _ _ _ _ _ _ _ _ _ _ _ _ _ _ _ _ _ _ _ _ _ _ _ _ _ _ _ _ _ _ _ _ _ _ _ _ _ _ _ _ _ _ _ _ _ _ _ _ _ _ _ _ _ _ _ _ _ _ _ _ _ _ _ _ _ _ _ _ _ _ _ _ _ _ _ _ _ _ _ _ _ _ _ _ _ _ _ _ _ _ _ _ _ _ _ _ _ _ _ _ _ _ _ _ _ _ _ _ _ _ _ HW.out.1 HW.out.2.1 HW.out.2.2.1 HW.out.2.2.2.2.2.1 (Nat.le_refl _) H9.out.1 H9.out.2.1 H9.out.2.2.1 HW.out.2.2.2.1 HW.out.2.2.2.2.1 H9.out.2.2.2.1 H9.out.2.2.2.2.1 H9.out.2.2.2.2.2
end Go.Proofs.YtggffdkgfgdaoaaDoor

namespace Go.Proofs.YtggffdkgfgdaoaaDoor
open Go.RowKit Go.Maps
set_option linter.unusedVariables false
set_option linter.unusedSimpArgs false
attribute [local go_sem] Oper.quietV quietV Oper.gives givesV ext_refl_iff ext_alloc_iff ext_drew_iff ext_drewN_iff
def NewXt (N : Nat) (v : Value) (w : World) : Prop := ∃ b, v = .pointer (some ⟨b, 0, none⟩) ∧ N ≤ b ∧ w.heap[b]? = some (.cells #[.int .i64 0, .int .i64 0, .int .i64 0, .slice none 0 0, .slice none 0 0, .slice none 0 0] 31 (0, 0))
theorem stays_newXt (N : Nat) : Stays Ext (NewXt N) := fun v w w' e ⟨b, h1, h2, h3⟩ => ⟨b, h1, h2, heap_ext e h3⟩
def Zer12 (v : Value) (w : World) : Prop := ∃ b, v = .slice (some ⟨b, 0, none⟩) 12 12 ∧ w.heap[b]? = some (.cells (Array.replicate 12 (.int .i64 0)) 3 (0, 0))
theorem stays_zer12 : Stays Ext Zer12 := fun v w w' e ⟨b, h1, h2⟩ => ⟨b, h1, heap_ext e h2⟩
theorem ptr_inj0 {b b' : Nat} (h : Value.pointer (some ⟨b, 0, none⟩) = .pointer (some ⟨b', 0, none⟩)) : b = b' := by cases h; rfl
theorem conf_z (W : World) (xv : Value) (hx : XtV W kZ xv) (hT : OpsTab W) :
    Calls Tryd.prog 23 #[xv] W (fun e w' => ∃ A, e = .returned (.tuple #[.int .i64 0, .int .i64 1, .slice A 12 12, .int .i64 0]) ∧ FitC w' (.slice A 12 12) kHit ∧ Ext W w') :=
  conf_yes W xv kZ hx hT kZ_ok (by rw [kZ_c]; decide) kZ_at rfl
set_option maxRecDepth 100000 in
set_option maxHeartbeats 16000000 in
theorem known_t16 (w W : World) (c9 : Nat) (A9 : Option Addr) (c0 c1 c2 c3 c4 c5 c6 c7 c8 c10 c11 c12 c13 c14 c15 c16 c17 c18 c19 c20 c21 c22 c23 c24 c25 c26 c27 c28 c29 c30 c31 c32 c33 c34 c35 c36 c37 c38 c39 c40 c41 c42 c43 c44 c45 c46 c47 c48 c49 c50 c51 c52 c53 c54 c55 c56 c57 c58 c59 c60 c61 c62 c63 c64 c65 c66 c67 c68 c69 c70 c71 c72 c73 c74 c75 c76 c77 c78 c79 c80 c81 c82 c83 c84 c85 c86 c87 c88 c89 c90 c91 c92 c93 c94 c95 c96 c97 c98 c99 c100 c101 c102 c103 c104 c105 c106 c107 c108 c109 c110 c111 c112 c113 c114 c115 c116 c117 c118 c119 c120 c121 c122 c123 c124 c125 c126 c127 c128 c129 c130 c131 c132 c133 c134 c135 c136 c137 c138 c139 c140 c141 c142 c143 c144 c145 c146 c147 c148 c149 c150 c151 c152 c153 c154 c155 c156 c157 c158 c159 c160 c161 c162 c163 c164 c165 c166 c167 c168 c169 c170 c171 c172 c173 c174 c175 c176 c177 c178 c179 c180 c181 c182 c183 c184 c185 c186 c187 c188 c189 c190 c191 c192 c193 c194 c195 c196 c197 c198 c199 c200 c201 c202 c203 c204 c205 c206 c207 c208 c209 c210 c211 c212 c213 : Value) (h0 : Ext w W) (hT : OpsTab w) (hV : VarsC W (.slice A9 12 c9) (kVars 12) c9) :
    Code.wp Tryd.prog (T9 16) (bodyPost Tryd.prog Tryd.f9 (LivP w)) ⟨(c0 :: c1 :: c2 :: c3 :: c4 :: c5 :: c6 :: c7 :: c8 :: .slice A9 12 c9 :: c10 :: c11 :: c12 :: c13 :: c14 :: c15 :: c16 :: c17 :: c18 :: c19 :: c20 :: c21 :: c22 :: c23 :: c24 :: c25 :: c26 :: c27 :: c28 :: c29 :: c30 :: c31 :: c32 :: c33 :: c34 :: c35 :: c36 :: c37 :: c38 :: c39 :: c40 :: c41 :: c42 :: c43 :: c44 :: c45 :: c46 :: c47 :: c48 :: c49 :: c50 :: c51 :: c52 :: c53 :: c54 :: c55 :: c56 :: c57 :: c58 :: c59 :: c60 :: c61 :: c62 :: c63 :: c64 :: c65 :: c66 :: c67 :: c68 :: c69 :: c70 :: c71 :: c72 :: c73 :: c74 :: c75 :: c76 :: c77 :: c78 :: c79 :: c80 :: c81 :: c82 :: c83 :: c84 :: c85 :: c86 :: c87 :: c88 :: c89 :: c90 :: c91 :: c92 :: c93 :: c94 :: c95 :: c96 :: c97 :: c98 :: c99 :: c100 :: c101 :: c102 :: c103 :: c104 :: c105 :: c106 :: c107 :: c108 :: c109 :: c110 :: c111 :: c112 :: c113 :: c114 :: c115 :: c116 :: c117 :: c118 :: c119 :: c120 :: c121 :: c122 :: c123 :: c124 :: c125 :: c126 :: c127 :: c128 :: c129 :: c130 :: c131 :: c132 :: c133 :: c134 :: c135 :: c136 :: c137 :: c138 :: c139 :: c140 :: c141 :: c142 :: c143 :: c144 :: c145 :: c146 :: c147 :: c148 :: c149 :: c150 :: c151 :: c152 :: c153 :: c154 :: c155 :: c156 :: c157 :: c158 :: c159 :: c160 :: c161 :: c162 :: c163 :: c164 :: c165 :: c166 :: c167 :: c168 :: c169 :: c170 :: c171 :: c172 :: c173 :: c174 :: c175 :: c176 :: c177 :: c178 :: c179 :: c180 :: c181 :: c182 :: c183 :: c184 :: c185 :: c186 :: c187 :: c188 :: c189 :: c190 :: c191 :: c192 :: c193 :: c194 :: c195 :: c196 :: c197 :: c198 :: c199 :: c200 :: c201 :: c202 :: c203 :: c204 :: c205 :: c206 :: c207 :: c208 :: c209 :: c210 :: c211 :: c212 :: c213 :: []).toArray, []⟩ W := by
  conv => arg 2; whnf
  have hR := Ext.refl W
  have HW := Lib.hid (And.intro h0 (And.intro hT hV))
  have mi : ∀ w, (Instr.makeSlice 28 (.int .i64 12) (.int .i64 12)).run Tryd.prog w = .ok (.slice (some ⟨w.heap.size, 0, none⟩) 12 12) (w.alloc (.cells (Array.replicate 12 (.int .i64 0)) 3)) := fun w => mk_ints 12 (by omega) w
  clear h0 hT hV
  go_upto_region 16 with fail
  refine wp_region_ext 13 (factsOf [(1, Zer12), (2, EqP (.agg #[.int .u8 1, .int .i64 0, .slice none 0 0])), (3, EqP (.agg #[.int .u8 0, .int .i64 1, .slice none 0 0])), (4, TwoF 0 6 zA.guard), (6, EqP (.agg #[.int .u8 1, .int .i64 11, .slice none 0 0])), (7, EqP (.agg #[.int .u8 0, .int .i64 1, .slice none 0 0])), (8, TwoF 0 6 zB.guard), (10, LitA 0 [zA, zB]), (12, NewXt W.heap.size)]) (fun k => ([[], [], [], [2], [2, 3], [2, 3, 4], [2, 3, 4], [2, 3, 4, 6], [2, 3, 4, 6, 7], [2, 3, 4, 6, 7, 8], [2, 3, 4, 5, 6, 7, 8, 9], [0, 1, 2, 3, 4, 5, 6, 7, 8, 9, 10], [], [0, 1, 2, 3, 4, 5, 6, 7, 8, 9, 10, 11, 12]] : List (List Nat)).getD k []) (by kernel_rfl) (by kernel_rfl) Ext.pre (mono_cons (stays_zer12) (mono_cons (stays_eqP _) (mono_cons (stays_eqP _) (mono_cons (stays_twoF _ _ _) (mono_cons (stays_eqP _) (mono_cons (stays_eqP _) (mono_cons (stays_twoF _ _ _) (mono_cons (stays_litA _ _) (mono_cons (stays_newXt _) (mono_nil)))))))))) ?_
  simp only [List.take_succ_cons, List.take_zero]
  repeat (first | (with_reducible refine lexL_quiet' (v := ?_) ?_ ?_ ?_ ?_; rotate_left; (· with_reducible rfl); (· simp [factsOf]); (· intro w1 hw1 _; go_simp; with_reducible rfl); (try simp only [Act.put, List.setIfInBounds_toArray, List.set_cons_zero, List.set_cons_succ])) | (with_reducible refine lexL_skip ?_ ?_; (· simp [Region.wanted, yielded, undef]); (try simp only [Act.put, List.setIfInBounds_toArray, List.set_cons_zero, List.set_cons_succ])) | (with_reducible refine lexL_quiet (v := ?_) ?_ ?_ ?_ ?_; rotate_left; (· simp [Region.wanted, yielded, undef]); (· simp [factsOf]); (· intro w1 hw1 _; go_simp; with_reducible rfl); (try simp only [Act.put, List.setIfInBounds_toArray, List.set_cons_zero, List.set_cons_succ])))
  with_reducible refine lexL_give' (φ := ?_) ?_ ?_ ?_ ?_; rotate_left; (· with_reducible rfl); (· simp only [factsOf, Nat.reduceAdd, ↓reduceIte, Nat.reduceEqDiff]; rfl)
  · intro w5 hw5 _
    go_simp
    exact ⟨w5.heap.size, rfl, heap_alloc_new _ _⟩
  rintro v1 w5 hw5 ⟨b1, rfl, -⟩ hk2
  clear hk2 hw5 w5
  (try simp only [Act.put, List.setIfInBounds_toArray, List.set_cons_zero, List.set_cons_succ])
  repeat (first | (with_reducible refine lexL_quiet' (v := ?_) ?_ ?_ ?_ ?_; rotate_left; (· with_reducible rfl); (· simp [factsOf]); (· intro w1 hw1 _; go_simp; with_reducible rfl); (try simp only [Act.put, List.setIfInBounds_toArray, List.set_cons_zero, List.set_cons_succ])) | (with_reducible refine lexL_skip ?_ ?_; (· simp [Region.wanted, yielded, undef]); (try simp only [Act.put, List.setIfInBounds_toArray, List.set_cons_zero, List.set_cons_succ])) | (with_reducible refine lexL_quiet (v := ?_) ?_ ?_ ?_ ?_; rotate_left; (· simp [Region.wanted, yielded, undef]); (· simp [factsOf]); (· intro w1 hw1 _; go_simp; with_reducible rfl); (try simp only [Act.put, List.setIfInBounds_toArray, List.set_cons_zero, List.set_cons_succ])))
  with_reducible refine lexL_give' (φ := ?_) ?_ ?_ ?_ ?_; rotate_left; (· with_reducible rfl); (· simp only [factsOf, Nat.reduceAdd, ↓reduceIte, Nat.reduceEqDiff]; rfl)
  · intro w5 hw5 _
    go_simp
    refine (name_lit w5 0).mono ?_
    rintro e w6 ⟨rfl, e6⟩
    exact ⟨_, rfl, e6, rfl⟩
  rintro v2 w5 hw5 hv2 hk2
  unfold EqP at hv2
  subst hv2
  clear hk2 hw5 w5
  (try simp only [Act.put, List.setIfInBounds_toArray, List.set_cons_zero, List.set_cons_succ])
  repeat (first | (with_reducible refine lexL_quiet' (v := ?_) ?_ ?_ ?_ ?_; rotate_left; (· with_reducible rfl); (· simp [factsOf]); (· intro w1 hw1 _; go_simp; with_reducible rfl); (try simp only [Act.put, List.setIfInBounds_toArray, List.set_cons_zero, List.set_cons_succ])) | (with_reducible refine lexL_skip ?_ ?_; (· simp [Region.wanted, yielded, undef]); (try simp only [Act.put, List.setIfInBounds_toArray, List.set_cons_zero, List.set_cons_succ])) | (with_reducible refine lexL_quiet (v := ?_) ?_ ?_ ?_ ?_; rotate_left; (· simp [Region.wanted, yielded, undef]); (· simp [factsOf]); (· intro w1 hw1 _; go_simp; with_reducible rfl); (try simp only [Act.put, List.setIfInBounds_toArray, List.set_cons_zero, List.set_cons_succ])))
  with_reducible refine lexL_give' (φ := ?_) ?_ ?_ ?_ ?_; rotate_left; (· with_reducible rfl); (· simp only [factsOf, Nat.reduceAdd, ↓reduceIte, Nat.reduceEqDiff]; rfl)
  · intro w5 hw5 _
    go_simp
    refine (num_lit w5 1).mono ?_
    rintro e w6 ⟨rfl, e6⟩
    exact ⟨_, rfl, e6, rfl⟩
  rintro v3 w5 hw5 hv3 hk2
  unfold EqP at hv3
  subst hv3
  clear hk2 hw5 w5
  (try simp only [Act.put, List.setIfInBounds_toArray, List.set_cons_zero, List.set_cons_succ])
  repeat (first | (with_reducible refine lexL_quiet' (v := ?_) ?_ ?_ ?_ ?_; rotate_left; (· with_reducible rfl); (· simp [factsOf]); (· intro w1 hw1 _; go_simp; with_reducible rfl); (try simp only [Act.put, List.setIfInBounds_toArray, List.set_cons_zero, List.set_cons_succ])) | (with_reducible refine lexL_skip ?_ ?_; (· simp [Region.wanted, yielded, undef]); (try simp only [Act.put, List.setIfInBounds_toArray, List.set_cons_zero, List.set_cons_succ])) | (with_reducible refine lexL_quiet (v := ?_) ?_ ?_ ?_ ?_; rotate_left; (· simp [Region.wanted, yielded, undef]); (· simp [factsOf]); (· intro w1 hw1 _; go_simp; with_reducible rfl); (try simp only [Act.put, List.setIfInBounds_toArray, List.set_cons_zero, List.set_cons_succ])))
  with_reducible refine lexL_give' (φ := ?_) ?_ ?_ ?_ ?_; rotate_left; (· with_reducible rfl); (· simp only [factsOf, Nat.reduceAdd, ↓reduceIte, Nat.reduceEqDiff]; rfl)
  · intro w5 hw5 hk5
    go_simp
    refine (two_lit w5 0 6 6 (by decide) (Nat.zero_le _) (by decide) (.mk 1 0 []) (.mk 0 1 []) _ _ (name_leaf 0 _ 0) (num_leaf 0 _ 1)).mono ?_
    rintro e w6 ⟨A, l, c, rfl, h1, e6⟩
    exact ⟨_, rfl, e6, A, l, c, rfl, h1⟩
  rintro v4 w5 hw5 ⟨A4, l4, c4, rfl, h4⟩ hk2
  clear hk2 hw5 h4 w5
  (try simp only [Act.put, List.setIfInBounds_toArray, List.set_cons_zero, List.set_cons_succ])
  repeat (first | (with_reducible refine lexL_quiet' (v := ?_) ?_ ?_ ?_ ?_; rotate_left; (· with_reducible rfl); (· simp [factsOf]); (· intro w1 hw1 _; go_simp; with_reducible rfl); (try simp only [Act.put, List.setIfInBounds_toArray, List.set_cons_zero, List.set_cons_succ])) | (with_reducible refine lexL_skip ?_ ?_; (· simp [Region.wanted, yielded, undef]); (try simp only [Act.put, List.setIfInBounds_toArray, List.set_cons_zero, List.set_cons_succ])) | (with_reducible refine lexL_quiet (v := ?_) ?_ ?_ ?_ ?_; rotate_left; (· simp [Region.wanted, yielded, undef]); (· simp [factsOf]); (· intro w1 hw1 _; go_simp; with_reducible rfl); (try simp only [Act.put, List.setIfInBounds_toArray, List.set_cons_zero, List.set_cons_succ])))
  with_reducible refine lexL_give' (φ := ?_) ?_ ?_ ?_ ?_; rotate_left; (· with_reducible rfl); (· simp only [factsOf, Nat.reduceAdd, ↓reduceIte, Nat.reduceEqDiff]; rfl)
  · intro w5 hw5 _
    go_simp
    refine (name_lit w5 11).mono ?_
    rintro e w6 ⟨rfl, e6⟩
    exact ⟨_, rfl, e6, rfl⟩
  rintro v6 w5 hw5 hv6 hk2
  unfold EqP at hv6
  subst hv6
  clear hk2 hw5 w5
  (try simp only [Act.put, List.setIfInBounds_toArray, List.set_cons_zero, List.set_cons_succ])
  repeat (first | (with_reducible refine lexL_quiet' (v := ?_) ?_ ?_ ?_ ?_; rotate_left; (· with_reducible rfl); (· simp [factsOf]); (· intro w1 hw1 _; go_simp; with_reducible rfl); (try simp only [Act.put, List.setIfInBounds_toArray, List.set_cons_zero, List.set_cons_succ])) | (with_reducible refine lexL_skip ?_ ?_; (· simp [Region.wanted, yielded, undef]); (try simp only [Act.put, List.setIfInBounds_toArray, List.set_cons_zero, List.set_cons_succ])) | (with_reducible refine lexL_quiet (v := ?_) ?_ ?_ ?_ ?_; rotate_left; (· simp [Region.wanted, yielded, undef]); (· simp [factsOf]); (· intro w1 hw1 _; go_simp; with_reducible rfl); (try simp only [Act.put, List.setIfInBounds_toArray, List.set_cons_zero, List.set_cons_succ])))
  with_reducible refine lexL_give' (φ := ?_) ?_ ?_ ?_ ?_; rotate_left; (· with_reducible rfl); (· simp only [factsOf, Nat.reduceAdd, ↓reduceIte, Nat.reduceEqDiff]; rfl)
  · intro w5 hw5 _
    go_simp
    refine (num_lit w5 1).mono ?_
    rintro e w6 ⟨rfl, e6⟩
    exact ⟨_, rfl, e6, rfl⟩
  rintro v7 w5 hw5 hv7 hk2
  unfold EqP at hv7
  subst hv7
  clear hk2 hw5 w5
  (try simp only [Act.put, List.setIfInBounds_toArray, List.set_cons_zero, List.set_cons_succ])
  repeat (first | (with_reducible refine lexL_quiet' (v := ?_) ?_ ?_ ?_ ?_; rotate_left; (· with_reducible rfl); (· simp [factsOf]); (· intro w1 hw1 _; go_simp; with_reducible rfl); (try simp only [Act.put, List.setIfInBounds_toArray, List.set_cons_zero, List.set_cons_succ])) | (with_reducible refine lexL_skip ?_ ?_; (· simp [Region.wanted, yielded, undef]); (try simp only [Act.put, List.setIfInBounds_toArray, List.set_cons_zero, List.set_cons_succ])) | (with_reducible refine lexL_quiet (v := ?_) ?_ ?_ ?_ ?_; rotate_left; (· simp [Region.wanted, yielded, undef]); (· simp [factsOf]); (· intro w1 hw1 _; go_simp; with_reducible rfl); (try simp only [Act.put, List.setIfInBounds_toArray, List.set_cons_zero, List.set_cons_succ])))
  with_reducible refine lexL_give' (φ := ?_) ?_ ?_ ?_ ?_; rotate_left; (· with_reducible rfl); (· simp only [factsOf, Nat.reduceAdd, ↓reduceIte, Nat.reduceEqDiff]; rfl)
  · intro w5 hw5 hk5
    go_simp
    refine (two_lit w5 0 6 6 (by decide) (Nat.zero_le _) (by decide) (.mk 1 11 []) (.mk 0 1 []) _ _ (name_leaf 0 _ 11) (num_leaf 0 _ 1)).mono ?_
    rintro e w6 ⟨A, l, c, rfl, h1, e6⟩
    exact ⟨_, rfl, e6, A, l, c, rfl, h1⟩
  rintro v8 w5 hw5 ⟨A8, l8, c8, rfl, h8⟩ hk2
  clear hk2 hw5 h8 w5
  (try simp only [Act.put, List.setIfInBounds_toArray, List.set_cons_zero, List.set_cons_succ])
  repeat (first | (with_reducible refine lexL_quiet' (v := ?_) ?_ ?_ ?_ ?_; rotate_left; (· with_reducible rfl); (· simp [factsOf]); (· intro w1 hw1 _; go_simp; with_reducible rfl); (try simp only [Act.put, List.setIfInBounds_toArray, List.set_cons_zero, List.set_cons_succ])) | (with_reducible refine lexL_skip ?_ ?_; (· simp [Region.wanted, yielded, undef]); (try simp only [Act.put, List.setIfInBounds_toArray, List.set_cons_zero, List.set_cons_succ])) | (with_reducible refine lexL_quiet (v := ?_) ?_ ?_ ?_ ?_; rotate_left; (· simp [Region.wanted, yielded, undef]); (· simp [factsOf]); (· intro w1 hw1 _; go_simp; with_reducible rfl); (try simp only [Act.put, List.setIfInBounds_toArray, List.set_cons_zero, List.set_cons_succ])))
  with_reducible refine lexL_give' (φ := ?_) ?_ ?_ ?_ ?_; rotate_left; (· with_reducible rfl); (· simp only [factsOf, Nat.reduceAdd, ↓reduceIte, Nat.reduceEqDiff]; rfl)
  · intro w5 hw5 hk5
    go_simp
    have g1 := twoF_t (hk5.get 4 (by decide) rfl rfl)
    have g2 := twoF_t (hk5.get 8 (by decide) rfl rfl)
    refine ⟨w5.heap.size, 2, [⟨0, 0, (6, 0, .slice A4 l4 c4), 0, .slice none 0 0, 0⟩, ⟨0, 0, (6, 0, .slice A8 l8 c8), 0, .slice none 0 0, 0⟩], rfl, rfl, Nat.zero_le _, rfl, heap_alloc_new _ _, fun i a y ha hy => ?_⟩
    match i, ha, hy with
    | 0, ha, hy => simp at ha hy; subst ha hy; exact ⟨rfl, rfl, g1.ext (alloc_ext _ _), rfl, ⟨0, ups_nil0 _ _⟩, rfl⟩
    | 1, ha, hy => simp at ha hy; subst ha hy; exact ⟨rfl, rfl, g2.ext (alloc_ext _ _), rfl, ⟨0, ups_nil0 _ _⟩, rfl⟩
  rintro v10 w5 hw5 ⟨b10, n10, vs10, rfl, h10⟩ hk2
  have hn10 : n10 = 2 := h10.1.symm
  subst hn10
  clear hk2 hw5 h10 w5
  (try simp only [Act.put, List.setIfInBounds_toArray, List.set_cons_zero, List.set_cons_succ])
  repeat (first | (with_reducible refine lexL_quiet' (v := ?_) ?_ ?_ ?_ ?_; rotate_left; (· with_reducible rfl); (· simp [factsOf]); (· intro w1 hw1 _; go_simp; with_reducible rfl); (try simp only [Act.put, List.setIfInBounds_toArray, List.set_cons_zero, List.set_cons_succ])) | (with_reducible refine lexL_skip ?_ ?_; (· simp [Region.wanted, yielded, undef]); (try simp only [Act.put, List.setIfInBounds_toArray, List.set_cons_zero, List.set_cons_succ])) | (with_reducible refine lexL_quiet (v := ?_) ?_ ?_ ?_ ?_; rotate_left; (· simp [Region.wanted, yielded, undef]); (· simp [factsOf]); (· intro w1 hw1 _; go_simp; with_reducible rfl); (try simp only [Act.put, List.setIfInBounds_toArray, List.set_cons_zero, List.set_cons_succ])))
  with_reducible refine lexL_give' (φ := ?_) ?_ ?_ ?_ ?_; rotate_left; (· with_reducible rfl); (· simp only [factsOf, Nat.reduceAdd, ↓reduceIte, Nat.reduceEqDiff]; rfl)
  · intro w5 hw5 _
    go_simp
    exact ⟨w5.heap.size, rfl, hw5.size, heap_alloc_new _ _⟩
  rintro v12 w5 hw5 ⟨b12, rfl, -, -⟩ hk2
  clear hk2 hw5 w5
  (try simp only [Act.put, List.setIfInBounds_toArray, List.set_cons_zero, List.set_cons_succ])
  with_reducible refine lexL_nil ?_; intro w1 hw1 hk1; simp only [List.drop_succ_cons, List.drop_zero]
  obtain ⟨b1', hb1', hZ⟩ := hk1.get 1 rfl rfl
  have hb1' := slice_inj hb1'
  subst hb1'
  have hA := hk1.get 10 rfl rfl
  obtain ⟨b12', hb12', hN12, hB0⟩ := hk1.get 12 rfl rfl
  have hb12' := ptr_inj0 hb12'
  subst hb12'
  have H1 := Lib.hid (And.intro hw1 (And.intro hZ (And.intro hA (And.intro hN12 hB0))))
  clear hk1 hw1 hZ hA hN12
  go_upto_region 17 with (with_reducible refine wpList_store_blk _ rfl 31 _ _ rfl b12 31 _ _ rfl rfl hB0 (by kernel_rfl) (by kernel_rfl) (by kernel_rfl) ?_; intro w8 h8 g8)
  have hE8 : Ext W w8 := Below.grown H1.out.1 g8 H1.out.1.size (fun k hk => by cases hk; exact H1.out.2.2.2.1)
  have hV8 := HW.out.2.2.ext hE8
  have hA8 := H1.out.2.2.1.keep hB0 g8
  have hZ8 := (g8.block b1 (lt_of_block H1.out.2.1) (fun e => by
    have h := H1.out.2.1
    injection e with e
    rw [e, hB0] at h; injection h with h; injection h with _ h _; cases h)).trans H1.out.2.1
  have hI8 : IntsC w8 (.slice (some ⟨b1, 0, none⟩) 12 12) kZ.start 12 := ⟨_, rfl, cells_blk hZ8, by decide, by decide⟩
  have hX8 : XtV w8 kZ (.agg #[.int .i64 1, .int .i64 1, .int .i64 1, .slice A9 12 c9, .slice (some ⟨b1, 0, none⟩) 12 12, .slice (some ⟨b10, 0, none⟩) 2 2]) := ⟨_, _, _, c9, 12, 2, rfl, hV8, hI8, hA8.acs (by omega)⟩
  have hcf := conf_z w8 _ hX8 (HW.out.2.1.ext (HW.out.1.trans hE8))
  have hB8 : w8.heap[b12]? = some (.cells #[.int .i64 1, .int .i64 1, .int .i64 1, .slice A9 12 c9, .slice (some ⟨b1, 0, none⟩) 12 12, .slice (some ⟨b10, 0, none⟩) 2 2] 31 (0, 0)) := h8
  have H8 := Lib.hid (And.intro (HW.out.1.trans hE8) (And.intro hV8 (And.intro hA8 hB8)))
  have HD := Lib.hid (And.intro HW.out.2.1 (Nat.le_trans HW.out.1.size H1.out.2.2.2.1))
  clear hE8 hV8 hA8 hZ8 hI8 hX8 g8 hB0 H1 HW h8
  (try simp only [Act.put, List.setIfInBounds_toArray, List.set_cons_zero, List.set_cons_succ])
  go_upto_region 999 with (first
    | (with_reducible refine stop_at 18 ?_)
    | (with_reducible refine stop_at2 18 ?_)
    | (with_reducible refine wpList_load_row rfl 31 _ rfl b12 rfl 31 _ (0, 0) _ hB8 Tryd.underlying31 rfl (by kernel_rfl) ?_)
    | ((with_reducible refine hcf.mono ?_); rintro e W9 ⟨A, rfl, h9, e9⟩))
  refine ⟨?_⟩
  exact known_t18 w W9 b12 b10 c9 A A9 _ _ _ _ _ _ _ _ _ _ _ _ _ _ _ _ _ _ _ _ _ _ _ _ _ _ _ _ _ _ _ _ _ _ _ _ _ _ _ _ _ _ _ _ _ _ _ _ _ _ _ _ _ _ _ _ _ _ _ _ _ _ _ _ _ _ _ _ _ _ _ _ _ _ _ _ _ _ _ _ _ _ _ _ _ _ _ _ _ _ _ _ _ _ _ _ _ _ _ _ _ _ _ _ _ _ _ _ _ _ _ _ _ _ _ _ _ _ _ _ _ _ _ _ _ _ _ _ _ _ _ _ _ _ _ _ _ _ _ _ _ _ _ _ _ _ _ _ _ _ _ _ _ _ _ _ _ _ _ _ _ _ _ _ _ _ _ _ _ _ _ _ _ _ _ _ _ _ _ _ _ _ _ _ _ _ _ _ _ _ _ _ _ _ _ _ _ _ _ _ _ _ _ _ _ _ _ _ _ (H8.out.1.trans e9) HD.out.1 HD.out.2 (stays_litA _ _ _ _ _ e9 H8.out.2.2.1) h9 (H8.out.2.1.ext e9) _ _ _ rfl (heap_ext e9 H8.out.2.2.2)
end Go.Proofs.YtggffdkgfgdaoaaDoor

namespace Go.Proofs.YtggffdkgfgdaoaaDoor
open Go.RowKit Go.Maps
set_option linter.unusedVariables false
set_option linter.unusedSimpArgs false
attribute [local go_sem] Oper.quietV quietV Oper.gives givesV ext_refl_iff ext_alloc_iff ext_drew_iff ext_drewN_iff
theorem kname_eq {s : Nat} (h : s < 12) : ({ data := #[118] } : ByteArray) ++ ({ data := #[97, 98, 99, 100, 101, 102, 103, 104, 105, 106, 107, 108] } : ByteArray).extract s (s + 1) = kName s := by
  match s, h with
  | 0, _ => rfl
  | 1, _ => rfl
  | 2, _ => rfl
  | 3, _ => rfl
  | 4, _ => rfl
  | 5, _ => rfl
  | 6, _ => rfl
  | 7, _ => rfl
  | 8, _ => rfl
  | 9, _ => rfl
  | 10, _ => rfl
  | 11, _ => rfl
theorem kVars_succ (s : Nat) : (kVars (s + 1)).flatMap vtCells = (kVars s).flatMap vtCells ++ [.string (kName s), .int .i64 0, .int .i64 1] := by
  unfold kVars
  rw [List.range_succ, List.map_append, List.flatMap_append]
  rfl
def VecSt (W0 W : World) (v : Value) (i : Nat) : Prop := Ext W0 W ∧ W.ownsRow W0.heap.size 79 3 v i ((kVars i).flatMap vtCells)
set_option maxRecDepth 100000 in
set_option maxHeartbeats 16000000 in
theorem known_t11 (w W : World) (c0 c1 c2 c3 c4 c5 c6 c7 c8 c9 c10 c11 c12 c13 c14 c15 c16 c17 c18 c19 c20 c21 c22 c23 c24 c25 c26 c27 c28 c29 c30 c31 c32 c33 c34 c35 c36 c37 c38 c39 c40 c41 c42 c43 c44 c45 c46 c47 c48 c49 c50 c51 c52 c53 c54 c55 c56 c57 c58 c59 c60 c61 c62 c63 c64 c65 c66 c67 c68 c69 c70 c71 c72 c73 c74 c75 c76 c77 c78 c79 c80 c81 c82 c83 c84 c85 c86 c87 c88 c89 c90 c91 c92 c93 c94 c95 c96 c97 c98 c99 c100 c101 c102 c103 c104 c105 c106 c107 c108 c109 c110 c111 c112 c113 c114 c115 c116 c117 c118 c119 c120 c121 c122 c123 c124 c125 c126 c127 c128 c129 c130 c131 c132 c133 c134 c135 c136 c137 c138 c139 c140 c141 c142 c143 c144 c145 c146 c147 c148 c149 c150 c151 c152 c153 c154 c155 c156 c157 c158 c159 c160 c161 c162 c163 c164 c165 c166 c167 c168 c169 c170 c171 c172 c173 c174 c175 c176 c177 c178 c179 c180 c181 c182 c183 c184 c185 c186 c187 c188 c189 c190 c191 c192 c193 c194 c195 c196 c197 c198 c199 c200 c201 c202 c203 c204 c205 c206 c207 c208 c209 c210 c211 c212 c213 : Value) (h0 : Ext w W) (hT : OpsTab w) :
    Code.wp Tryd.prog (T9 11) (bodyPost Tryd.prog Tryd.f9 (LivP w)) ⟨(c0 :: c1 :: c2 :: c3 :: c4 :: c5 :: c6 :: c7 :: c8 :: c9 :: c10 :: c11 :: c12 :: c13 :: c14 :: c15 :: c16 :: c17 :: c18 :: c19 :: c20 :: c21 :: c22 :: c23 :: c24 :: c25 :: c26 :: c27 :: c28 :: c29 :: c30 :: c31 :: c32 :: c33 :: c34 :: c35 :: c36 :: c37 :: c38 :: c39 :: c40 :: c41 :: c42 :: c43 :: c44 :: c45 :: c46 :: c47 :: c48 :: c49 :: c50 :: c51 :: c52 :: c53 :: c54 :: c55 :: c56 :: c57 :: c58 :: c59 :: c60 :: c61 :: c62 :: c63 :: c64 :: c65 :: c66 :: c67 :: c68 :: c69 :: c70 :: c71 :: c72 :: c73 :: c74 :: c75 :: c76 :: c77 :: c78 :: c79 :: c80 :: c81 :: c82 :: c83 :: c84 :: c85 :: c86 :: c87 :: c88 :: c89 :: c90 :: c91 :: c92 :: c93 :: c94 :: c95 :: c96 :: c97 :: c98 :: c99 :: c100 :: c101 :: c102 :: c103 :: c104 :: c105 :: c106 :: c107 :: c108 :: c109 :: c110 :: c111 :: c112 :: c113 :: c114 :: c115 :: c116 :: c117 :: c118 :: c119 :: c120 :: c121 :: c122 :: c123 :: c124 :: c125 :: c126 :: c127 :: c128 :: c129 :: c130 :: c131 :: c132 :: c133 :: c134 :: c135 :: c136 :: c137 :: c138 :: c139 :: c140 :: c141 :: c142 :: c143 :: c144 :: c145 :: c146 :: c147 :: c148 :: c149 :: c150 :: c151 :: c152 :: c153 :: c154 :: c155 :: c156 :: c157 :: c158 :: c159 :: c160 :: c161 :: c162 :: c163 :: c164 :: c165 :: c166 :: c167 :: c168 :: c169 :: c170 :: c171 :: c172 :: c173 :: c174 :: c175 :: c176 :: c177 :: c178 :: c179 :: c180 :: c181 :: c182 :: c183 :: c184 :: c185 :: c186 :: c187 :: c188 :: c189 :: c190 :: c191 :: c192 :: c193 :: c194 :: c195 :: c196 :: c197 :: c198 :: c199 :: c200 :: c201 :: c202 :: c203 :: c204 :: c205 :: c206 :: c207 :: c208 :: c209 :: c210 :: c211 :: c212 :: c213 :: []).toArray, []⟩ W := by
  conv => arg 2; whnf
  have HW := Lib.hid (And.intro h0 hT)
  clear h0 hT
  go_upto_region 12 with fail
  go_upto_region 13 with fail
  obtain ⟨i79, hi79, hz79, hs79, hb79⟩ := info_parts var_info
  go_loopw [9, 10] (fun v sv wr => ∃ (s : Nat), sv = .int .i64 s ∧ s ≤ 12 ∧ Hid (VecSt W wr v s)) (fun _ sv _ => 12 - (intOf sv).toNat)
  case atStart => exact ⟨0, by first | rfl | simp, by omega, Lib.hid ⟨Ext.refl W, World.ownsRow_nil _ _ _ _⟩⟩
  case round =>
    obtain ⟨s, rfl, hs12, HS⟩ := hrel
    by_cases hlt : s < 12
    · have hltI : (s : Int) < 12 := by omega
      go_upto_region 15 with fail
      have hE0 : Ext W wr := HS.out.1
      have hbase : W.heap.size ≤ (wr.alloc (.cells #[.string (({ data := #[118] } : ByteArray) ++ ({ data := #[97, 98, 99, 100, 101, 102, 103, 104, 105, 106, 107, 108] } : ByteArray).extract s (s + 1)), .int .i64 0, .int .i64 1] 79)).heap.size := (hE0.trans (alloc_ext _ _)).size
      go_wp2_with (at_builtin; refine wpList_append_own2 rfl _ _ 27 rfl W.heap.size 79 i79 (.agg #[.string ⟨#[]⟩, .int .i64 0, .int .i64 0]) 3 32 Tryd.underlying27 hi79 hz79 hs79 hb79 rfl (by decide) u9 s ((kVars s).flatMap vtCells) rfl (World.ownsRow.alloc HS.out.2 _) ⟨wr.heap.size, 0, none⟩ 1 1 [.string (({ data := #[118] } : ByteArray) ++ ({ data := #[97, 98, 99, 100, 101, 102, 103, 104, 105, 106, 107, 108] } : ByteArray).extract s (s + 1)), .int .i64 0, .int .i64 1] rfl rfl (cells_new _ _ _) (by intro u hu; simp at hu; rcases hu with rfl | rfl | rfl <;> rfl) (by unfold maxLen; omega) (by omega) hbase ?_; intro v8 w8 hown8 hg8 hb8)
      go_roundw
      case rel =>
        rw [kname_eq hlt, ← kVars_succ] at hown8
        have hE8 := grown_of_own (Nat.le_refl _) (hE0.trans (alloc_ext wr _)) (World.ownsRow.alloc HS.out.2 _) hg8
        exact ⟨s + 1, by go_num, by omega, Lib.hid (by first | exact ⟨hE8, hown8⟩ | exact ⟨hE8.trans (drew_ext _), ownsRow_ext hown8 (drew_ext _)⟩)⟩
      case measure => simp [intOf]; omega
    · have hse : s = 12 := by omega
      subst hse
      obtain ⟨g, c, rfl⟩ := ownsRow_pos HS.out.2 (by omega)
      have hv : VarsC wr (.slice (some ⟨g, 0, none⟩) 12 c) (kVars 12) c := (VRow.of_owns (l := kVars 12) HS.out.2 rfl rfl).1.vars (by decide) (z_small kZ (.inl rfl))
      have HV := Lib.hid (And.intro (HW.out.1.trans HS.out.1) (And.intro HW.out.2 hv))
      clear hv
      go_upto_region 999 with (first | (with_reducible refine stop_at 16 ?_) | (with_reducible refine stop_at2 16 ?_))
      refine ⟨?_⟩
      exact known_t16 w wr c (some ⟨g, 0, none⟩) _ _ _ _ _ _ _ _ _ _ _ _ _ _ _ _ _ _ _ _ _ _ _ _ _ _ _ _ _ _ _ _ _ _ _ _ _ _ _ _ _ _ _ _ _ _ _ _ _ _ _ _ _ _ _ _ _ _ _ _ _ _ _ _ _ _ _ _ _ _ _ _ _ _ _ _ _ _ _ _ _ _ _ _ _ _ _ _ _ _ _ _ _ _ _ _ _ _ _ _ _ _ _ _ _ _ _ _ _ _ _ _ _ _ _ _ _ _ _ _ _ _ _ _ _ _ _ _ _ _ _ _ _ _ _ _ _ _ _ _ _ _ _ _ _ _ _ _ _ _ _ _ _ _ _ _ _ _ _ _ _ _ _ _ _ _ _ _ _ _ _ _ _ _ _ _ _ _ _ _ _ _ _ _ _ _ _ _ _ _ _ _ _ _ _ _ _ _ _ _ _ _ _ _ _ _ _ _ _ _ _ _ _ HV.out.1 HV.out.2.1 HV.out.2.2
end Go.Proofs.YtggffdkgfgdaoaaDoor
