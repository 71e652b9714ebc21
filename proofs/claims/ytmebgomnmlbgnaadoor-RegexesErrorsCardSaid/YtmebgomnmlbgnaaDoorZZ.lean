/-   -/
import Derived.Test.YtmebgomnmlbgnaaDoorZY
import Derived.Test.YtmebgomnmlbgnaaDoorZA
import Derived.Test.YtmebgomnmlbgnaaDoorZU
set_option linter.unnecessarySimpa false
set_option linter.unusedSectionVars false
namespace Go.Proofs.YtmebgomnmlbgnaaDoor
open Go.RowKit Go.Maps
set_option linter.unusedVariables false
set_option linter.unusedSimpArgs false
attribute [local go_sem] Oper.quietV quietV Oper.gives givesV ext_refl_iff ext_alloc_iff ext_drew_iff ext_drewN_iff
attribute [local go_sem] RI.Oper.gives RI.givesV
def zNd : Obj := .cells #[.int .u8 0, .int .i64 0, .slice none 0 0] 35
def ndO' (t : Tr) (A : Option Addr) (c : Nat) : Obj := .cells #[.int .u8 (t.op : Int), .int .i64 t.n, .slice A t.subs.length c] 35
structure JD (W : World) (r d : Tr) (G : Vals) (w : World) : Prop where
  ext : Ext W w
  f4 : ∀ v, G 4 = some v → ∃ A c, v = nd3 r A c
  a4 : G 9 = none → ∀ v, G 4 = some v → NodeV w r v
  f9 : ∀ v, G 9 = some v → ∃ A c, v = .tuple #[nd3 d A c, .int .i64 0]
  a9 : ∀ A c, G 9 = some (.tuple #[nd3 d A c, .int .i64 0]) → NodeB (fun b => G 13 ≠ some (.pointer (some ⟨b, 0, none⟩))) false w d (nd3 d A c)
  p13 : ∀ v, G 13 = some v → ∃ b, v = .pointer (some ⟨b, 0, none⟩) ∧ W.heap.size ≤ b ∧ b < w.heap.size
  raw : G 14 = none → ∀ b, G 13 = some (.pointer (some ⟨b, 0, none⟩)) → w.heap[b]? = some zNd
  st : ∀ u b A c, G 14 = some u → G 13 = some (.pointer (some ⟨b, 0, none⟩)) → G 9 = some (.tuple #[nd3 d A c, .int .i64 0]) → w.heap[b]? = some (ndO' d A c)
  n13 : G 13 = none → G 14 = none
  n4 : G 4 = none → G 9 = none
  n9 : G 9 = none → G 14 = none
section
variable {W w w' : World} {r d : Tr} {G : Vals}
theorem JD.start (e : Ext W w) : JD W r d (fun _ => none) w := ⟨e, fun v h => (by cases h), fun _ v h => (by cases h), fun v h => (by cases h), fun A c h => (by cases h), fun v h => (by cases h), fun _ b h => (by cases h), fun u b A c h => (by cases h), fun _ => rfl, fun _ => rfl, fun _ => rfl⟩
theorem JD.set4 {A : Option Addr} {c : Nat} (h : JD W r d G w) (h4 : G 4 = none) (e : Ext w w') (hN : NodeV w' r (nd3 r A c)) : JD W r d (G.put 4 (nd3 r A c)) w' := by
  have h9 := h.n4 h4
  have h14 := h.n9 h9
  refine ⟨h.ext.trans e, fun v hv => ?_, fun _ v hv => ?_, h.f9, fun A c h1 => (h.a9 A c h1).ext e, fun v hv => ?_, fun h1 b hb => heap_ext e (h.raw h1 b hb), fun u b A c hu => ?_, h.n13, fun hh => (by simp [Vals.put] at hh), h.n9⟩
  · have : some (nd3 r A c) = some v := hv
    cases this; exact ⟨_, _, rfl⟩
  · have : some (nd3 r A c) = some v := hv
    cases this; exact hN
  · obtain ⟨b, h1, h2, h3⟩ := h.p13 v hv
    exact ⟨b, h1, h2, Nat.lt_of_lt_of_le h3 e.size⟩
  · have hu : G 14 = some u := hu
    rw [h14] at hu; cases hu
theorem JD.set9 {A : Option Addr} {c : Nat} {v4 : Value} (h : JD W r d G w) (h4 : G 4 = some v4) (h9 : G 9 = none) (e : Ext w w') (hN : NodeB (fun b => G 13 ≠ some (.pointer (some ⟨b, 0, none⟩))) false w' d (nd3 d A c)) : JD W r d (G.put 9 (.tuple #[nd3 d A c, .int .i64 0])) w' := by
  have h14 := h.n9 h9
  refine ⟨h.ext.trans e, h.f4, fun hh => (by simp [Vals.put] at hh), fun v hv => ?_, fun A' c' h1 => ?_, fun v hv => ?_, fun h1 b hb => heap_ext e (h.raw h1 b hb), fun u b A c hu => ?_, h.n13, fun hh => (by have hh : G 4 = none := hh; rw [h4] at hh; cases hh), fun hh => (by simp [Vals.put] at hh)⟩
  · have : some (Value.tuple #[nd3 d A c, .int .i64 0]) = some v := hv
    cases this; exact ⟨_, _, rfl⟩
  · have : some (Value.tuple #[nd3 d A c, .int .i64 0]) = some (Value.tuple #[nd3 d A' c', .int .i64 0]) := h1
    have h2 : nd3 d A c = nd3 d A' c' := by simpa using this
    rw [← h2]; exact hN
  · obtain ⟨b, h1, h2, h3⟩ := h.p13 v hv
    exact ⟨b, h1, h2, Nat.lt_of_lt_of_le h3 e.size⟩
  · have hu : G 14 = some u := hu
    rw [h14] at hu; cases hu
theorem JD.set13 (h : JD W r d G w) (hg : G 13 = none) : JD W r d (G.put 13 (.pointer (some ⟨w.heap.size, 0, none⟩))) (w.alloc zNd) := by
  have h14 := h.n13 hg
  have e : Ext w (w.alloc zNd) := alloc_ext _ _
  refine ⟨h.ext.trans e, h.f4, fun h9 v hv => (h.a4 h9 v hv).ext e, h.f9, fun A c h1 => ?_, fun v hv => ?_, fun h1 b hb => ?_, fun u b A c hu => ?_, fun hh => (by simp [Vals.put] at hh), h.n4, h.n9⟩
  · refine ((h.a9 A c h1).mono (fun b _ hl => ?_)).ext e
    show (G.put 13 (.pointer (some ⟨w.heap.size, 0, none⟩))) 13 ≠ _
    intro hh
    have : some (Value.pointer (some ⟨w.heap.size, 0, none⟩)) = some (Value.pointer (some ⟨b, 0, none⟩)) := hh
    have h2 : w.heap.size = b := by simpa using this
    omega
  · have : some (Value.pointer (some ⟨w.heap.size, 0, none⟩)) = some v := hv
    cases this; exact ⟨_, rfl, h.ext.size, by simp⟩
  · have : some (Value.pointer (some ⟨w.heap.size, 0, none⟩)) = some (Value.pointer (some ⟨b, 0, none⟩)) := hb
    have h2 : w.heap.size = b := by simpa using this
    subst h2
    exact heap_alloc_new w _
  · have hu : G 14 = some u := hu
    rw [h14] at hu; cases hu
theorem JD.set14 {b : Nat} {A : Option Addr} {c : Nat} (h : JD W r d G w) (h13 : G 13 = some (.pointer (some ⟨b, 0, none⟩))) (h9 : G 9 = some (.tuple #[nd3 d A c, .int .i64 0])) (hw : w'.heap[b]? = some (ndO' d A c)) (hg : w.grownBy w' (some b)) : JD W r d (G.put 14 undef) w' := by
  obtain ⟨b', hb', hb1, hb2⟩ := h.p13 _ h13
  have hbb : b = b' := by simpa using hb'
  subst hbb
  refine ⟨Below.grown h.ext hg h.ext.size (fun k hk => by cases hk; exact hb1), h.f4, fun hh => ?_, h.f9, fun A' c' h1 => ?_, fun v hv => ?_, fun hh => (by simp [Vals.put] at hh), fun u b' A' c' _ hb' h1 => ?_, fun hh => ?_, h.n4, fun hh => ?_⟩
  · have hh : G 9 = none := hh
    rw [h9] at hh; cases hh
  · exact (h.a9 A' c' h1).keep hg.size (fun k hk hl => hg.block k hl (fun e => by
      have e2 : k = b := by simpa using e
      subst e2
      exact hk h13))
  · obtain ⟨b3, h1, h2, h3⟩ := h.p13 v hv
    exact ⟨b3, h1, h2, Nat.lt_of_lt_of_le h3 hg.size⟩
  · have hb' : G 13 = some (.pointer (some ⟨b', 0, none⟩)) := hb'
    have h1 : G 9 = some (.tuple #[nd3 d A' c', .int .i64 0]) := h1
    rw [h13] at hb'
    rw [h9] at h1
    have e1 : b = b' := by simpa using hb'
    subst e1
    rw [hw]
    simp only [Option.some.injEq, Value.tuple.injEq, Array.mk.injEq, List.cons.injEq, nd3, Value.agg.injEq, Value.slice.injEq, and_true, true_and] at h1
    obtain ⟨rfl, rfl⟩ := h1
    rfl
  · have hh : G 13 = none := hh
    rw [h13] at hh; cases hh
  · have hh : G 9 = none := hh
    rw [h9] at hh; cases hh
end
def DerC (s : ByteArray) (a : Nat) (t : ByteArray) (r : Rx) : Prop := parA s 2 = .tree r ∧ s.size ≤ 1000 ∧ r.okS 2 = true ∧ r.cnt ≤ 64 ∧ a < 2 ∧ (derR a r).cnt ≤ 64 ∧ (derR a r).okS 2 = true ∧ wrB (derR a r) 0 = t
theorem derC_at (i : Nat) (hi : i < 4) : ∃ s a t r, DerC s a t r ∧
    (#[Value.string ⟨#[40, 97, 124, 98, 41, 42, 97, 98]⟩, .string ⟨#[126, 40, 97, 98, 41]⟩, .string ⟨#[97, 38, 98]⟩, .string ⟨#[97, 97]⟩] : Array Value)[i]? = some (.string s) ∧
    (#[Value.int .i64 0, .int .i64 0, .int .i64 0, .int .i64 1] : Array Value)[i]? = some (.int .i64 (a : Int)) ∧
    (#[Value.string ⟨#[40, 40, 97, 124, 98, 41, 42, 97, 124, 49, 41, 98]⟩, .string ⟨#[126, 98]⟩, .string ⟨#[48]⟩, .string ⟨#[48]⟩] : Array Value)[i]? = some (.string t) := by
  match i with
  | 0 => exact ⟨_, 0, _, x2, ⟨pa_x2, by decide, by decide, by decide, by decide, of_decide_eq_true cd_x2, od_x2, wd_x2⟩, rfl, rfl, rfl⟩
  | 1 => exact ⟨_, 0, _, y2, ⟨pa_y2, by decide, by decide, by decide, by decide, of_decide_eq_true cd_y2, od_y2, wd_y2⟩, rfl, rfl, rfl⟩
  | 2 => exact ⟨_, 0, _, y3, ⟨pa_y3, by decide, by decide, by decide, by decide, of_decide_eq_true cd_y3, od_y3, wd_y3⟩, rfl, rfl, rfl⟩
  | 3 => exact ⟨_, 1, _, y4, ⟨pa_y4, by decide, by decide, by decide, by decide, of_decide_eq_true cd_y4, od_y4, wd_y4⟩, rfl, rfl, rfl⟩
  | n + 4 => omega
theorem derive_lit {S : Nat → Prop} {a : Nat} {r : Rx} {w : World} {v : Value} (hS : New S w) (hN : NodeV w r.tr v) (hT : Tabs w) (ho : r.okS 2 = true) (hcn : r.cnt ≤ 64) (ha : a < 2) (hc : (derR a r).cnt ≤ 64) : Calls Tryd.prog 18 #[v, .int .i64 2, .int .i64 (a : Int)] w (fun e w' => ∃ A c, e = .returned (.tuple #[nd3 (derR a r).tr A c, .int .i64 0]) ∧ NodeB S false w' (derR a r).tr (nd3 (derR a r).tr A c) ∧ Ext w w') := by
  refine (derive_ok (sy := 2) hS hN hT (by omega) (by omega) ho hcn (by omega) (by omega) hc).mono ?_
  rintro e w' ⟨A, c, he, hB, hE⟩
  exact ⟨A, c, he, hB.loose, hE⟩
theorem text_lit {r : Rx} {w : World} {v : Value} {t : ByteArray} (hN : NodeV w r.tr v) (hT : Tabs w) (ho : r.okS 2 = true) (hcn : r.cnt ≤ 64) (ht : wrB r 0 = t) : Calls Tryd.prog 27 #[v, .int .i64 2] w (fun e w' => e = .returned (.tuple #[.string t, .int .i64 0]) ∧ Ext w w') := by
  have h := text_ok (sy := 2) hN hT (by omega) (by omega) ho hcn
  rw [ht] at h
  exact h
theorem three_new (W : World) (o1 o2 o3 : Obj) : (((W.alloc o1).alloc o2).alloc o3).heap[W.heap.size]? = some o1 ∧ (((W.alloc o1).alloc o2).alloc o3).heap[W.heap.size + 1]? = some o2 ∧ (((W.alloc o1).alloc o2).alloc o3).heap[W.heap.size + 1 + 1]? = some o3 :=
  ⟨heap_ext ((alloc_ext _ _).trans (alloc_ext _ _)) (heap_alloc_new _ _), heap_ext (alloc_ext _ _) (heap_new2 _ _ _), heap_new3 _ _ _ _⟩
set_option maxRecDepth 100000 in
set_option maxHeartbeats 16000000 in
theorem live_t16 (w W : World) (c0 c1 c2 c3 c4 c5 c6 c7 c8 c9 c10 c11 c12 c13 c14 c15 c16 c17 c18 c19 c20 c21 c22 c23 c24 c25 c26 c27 c28 c29 c30 c31 c32 c33 c34 c35 c36 c37 c38 c39 c40 c41 c42 c43 c44 c45 c46 c47 c48 c49 c50 c51 c52 c53 c54 c55 c56 c57 c58 c59 c60 c61 c62 c63 c64 c65 c66 c67 c68 c69 c70 c71 c72 c73 c74 c75 c76 c77 c78 c79 c80 c81 c82 c83 c84 c85 c86 c87 c88 c89 c90 c91 c92 c93 c94 c95 c96 c97 c98 c99 c100 c101 c102 c103 c104 c105 c106 c107 c108 c109 c110 c111 c112 c113 c114 c115 c116 c117 c118 c119 c120 c121 c122 c123 c124 c125 c126 c127 c128 c129 c130 c131 c132 c133 c134 c135 c136 c137 c138 c139 c140 c141 c142 c143 c144 c145 c146 c147 c148 c149 c150 c151 c152 c153 c154 c155 c156 c157 c158 c159 c160 c161 c162 c163 c164 c165 c166 c167 c168 c169 c170 c171 c172 c173 c174 c175 c176 c177 c178 c179 c180 c181 c182 c183 c184 c185 c186 c187 c188 c189 c190 c191 c192 c193 c194 c195 c196 c197 c198 c199 c200 c201 c202 c203 c204 c205 c206 c207 c208 c209 c210 c211 c212 c213 c214 c215 c216 c217 c218 c219 c220 c221 c222 c223 : Value) (hE : Ext w W) (hT : Tabs W) :
    Code.wp Tryd.prog (T16 16) (bodyPost Tryd.prog Tryd.f16 (LivP w)) ⟨(c0 :: c1 :: c2 :: c3 :: c4 :: c5 :: c6 :: c7 :: c8 :: c9 :: c10 :: c11 :: c12 :: c13 :: c14 :: c15 :: c16 :: c17 :: c18 :: c19 :: c20 :: c21 :: c22 :: c23 :: c24 :: c25 :: c26 :: c27 :: c28 :: c29 :: c30 :: c31 :: c32 :: c33 :: c34 :: c35 :: c36 :: c37 :: c38 :: c39 :: c40 :: c41 :: c42 :: c43 :: c44 :: c45 :: c46 :: c47 :: c48 :: c49 :: c50 :: c51 :: c52 :: c53 :: c54 :: c55 :: c56 :: c57 :: c58 :: c59 :: c60 :: c61 :: c62 :: c63 :: c64 :: c65 :: c66 :: c67 :: c68 :: c69 :: c70 :: c71 :: c72 :: c73 :: c74 :: c75 :: c76 :: c77 :: c78 :: c79 :: c80 :: c81 :: c82 :: c83 :: c84 :: c85 :: c86 :: c87 :: c88 :: c89 :: c90 :: c91 :: c92 :: c93 :: c94 :: c95 :: c96 :: c97 :: c98 :: c99 :: c100 :: c101 :: c102 :: c103 :: c104 :: c105 :: c106 :: c107 :: c108 :: c109 :: c110 :: c111 :: c112 :: c113 :: c114 :: c115 :: c116 :: c117 :: c118 :: c119 :: c120 :: c121 :: c122 :: c123 :: c124 :: c125 :: c126 :: c127 :: c128 :: c129 :: c130 :: c131 :: c132 :: c133 :: c134 :: c135 :: c136 :: c137 :: c138 :: c139 :: c140 :: c141 :: c142 :: c143 :: c144 :: c145 :: c146 :: c147 :: c148 :: c149 :: c150 :: c151 :: c152 :: c153 :: c154 :: c155 :: c156 :: c157 :: c158 :: c159 :: c160 :: c161 :: c162 :: c163 :: c164 :: c165 :: c166 :: c167 :: c168 :: c169 :: c170 :: c171 :: c172 :: c173 :: c174 :: c175 :: c176 :: c177 :: c178 :: c179 :: c180 :: c181 :: c182 :: c183 :: c184 :: c185 :: c186 :: c187 :: c188 :: c189 :: c190 :: c191 :: c192 :: c193 :: c194 :: c195 :: c196 :: c197 :: c198 :: c199 :: c200 :: c201 :: c202 :: c203 :: c204 :: c205 :: c206 :: c207 :: c208 :: c209 :: c210 :: c211 :: c212 :: c213 :: c214 :: c215 :: c216 :: c217 :: c218 :: c219 :: c220 :: c221 :: c222 :: c223 :: []).toArray, []⟩ W := by
  conv => arg 2; whnf
  have HT := Lib.hid (And.intro hE hT)
  clear hE hT
  go_upto_region 17 with fail
  refine wp_named ?_
  intro W1 hW1
  have h3 := three_new W (.cells #[Value.string ⟨#[40, 97, 124, 98, 41, 42, 97, 98]⟩, .string ⟨#[126, 40, 97, 98, 41]⟩, .string ⟨#[97, 38, 98]⟩, .string ⟨#[97, 97]⟩] 9) (.cells #[Value.int .i64 0, .int .i64 0, .int .i64 0, .int .i64 1] 3) (.cells #[Value.string ⟨#[40, 40, 97, 124, 98, 41, 42, 97, 124, 49, 41, 98]⟩, .string ⟨#[126, 98]⟩, .string ⟨#[48]⟩, .string ⟨#[48]⟩] 9)
  have e1 : Ext W W1 := by rw [hW1]; exact ((alloc_ext _ _).trans (alloc_ext _ _)).trans (alloc_ext _ _)
  rw [← hW1] at h3
  have H3 := Lib.hid (And.intro e1 h3)
  clear hW1 h3 e1
  generalize W.heap.size + 1 + 1 = b14 at *
  generalize W.heap.size + 1 = b13 at *
  generalize W.heap.size = b12 at *
  go_wp2
  go_loopw [15] (fun iv wr => ∃ i : Nat, iv = .int .i64 i ∧ i ≤ 4 ∧ Ext W1 wr) (fun iv _ => 4 - (intOf iv).toNat)
  case atStart => exact ⟨0, rfl, by omega, Ext.refl _⟩
  case round =>
    obtain ⟨i, rfl, hi, hE⟩ := hrel
    obtain ⟨W2, hW2⟩ : ∃ W, W = wr := ⟨_, rfl⟩; subst hW2
    by_cases hlt : i < 4
    · have hiI : (i : Int) < 4 := by omega
      obtain ⟨s, a, t, r, hd, g1, g2, g3⟩ := derC_at i hlt
      have q1 := hE.cell (cell_of_blk H3.out.2.1 i g1)
      have q2 := hE.cell (cell_of_blk H3.out.2.2.1 i g2)
      have q3 := hE.cell (cell_of_blk H3.out.2.2.2 i g3)
      have HD := Lib.hid (And.intro hd (And.intro q1 (And.intro q2 q3)))
      have HE := Lib.hid hE
      have HTW := Lib.hid (HT.out.2.ext (H3.out.1.trans hE))
      clear hd g1 g2 g3 q1 q2 q3 hE
      go_upto_region 20 with fail
      refine RI.wp_region_inv 15 (JD W2 r.tr (derR a r).tr) (fun k => [4, 9, 13, 14].contains k) (fun k => ([[], [], [0, 1], [0, 1, 2], [0, 1, 2, 3], [], [], [5, 6], [5, 6, 7], [0, 1, 2, 3, 4, 5, 6, 7, 8], [0, 1, 2, 3, 4, 5, 6, 7, 8, 9], [0, 1, 2, 3, 4, 5, 6, 7, 8, 9, 10], [0, 1, 2, 3, 4, 5, 6, 7, 8, 9, 10], [], [0, 1, 2, 3, 4, 5, 6, 7, 8, 9, 10, 11, 13], [0, 1, 2, 3, 4, 5, 6, 7, 8, 9, 10, 11, 12, 13, 14]] : List (List Nat)).getD k []) (by kernel_rfl) (by kernel_rfl) ?_ ?_
      rotate_left; simp only [List.take_succ_cons, List.take_zero]; rotate_left
      · exact JD.start (Ext.refl _).drew
      with_reducible refine RI.lexL_quiet' (v := ?_) ?_ ?_ ?_ ?_; rotate_left; (· with_reducible rfl); (· decide); (· intro G w1 hI1 hA1; have hw1 := hI1.ext; go_simp; with_reducible rfl); (try simp only [Act.put, List.setIfInBounds_toArray, List.set_cons_zero, List.set_cons_succ])
      with_reducible refine RI.lexL_quiet' (v := ?_) ?_ ?_ ?_ ?_; rotate_left; (· with_reducible rfl); (· decide); (· intro G w1 hI1 hA1; have hw1 := hI1.ext; go_simp; with_reducible rfl); (try simp only [Act.put, List.setIfInBounds_toArray, List.set_cons_zero, List.set_cons_succ])
      with_reducible refine RI.lexL_quiet' (v := ?_) ?_ ?_ ?_ ?_; rotate_left; (· with_reducible rfl); (· decide); (· intro G w1 hI1 hA1; have hw1 := hI1.ext; go_simp; with_reducible rfl); (try simp only [Act.put, List.setIfInBounds_toArray, List.set_cons_zero, List.set_cons_succ])
      with_reducible refine RI.lexL_quiet' (v := ?_) ?_ ?_ ?_ ?_; rotate_left; (· with_reducible rfl); (· decide); (· intro G w1 hI1 hA1; have q0 := hI1.ext.cell HD.out.2.1; go_simp; with_reducible rfl)
      (try simp only [Act.put, List.setIfInBounds_toArray, List.set_cons_zero, List.set_cons_succ])
      with_reducible refine RI.lexL_give' ?_ ?_ ?_ ?_; (· with_reducible rfl); (· decide)
      · intro G w5 hI hA hg
        go_simp
        refine (read_ok s r HD.out.1.1 HD.out.1.2.1 w5).mono ?_
        rintro e w6 ⟨A, c, rfl, hN, e6⟩
        exact ⟨_, rfl, hI.set4 hg e6 hN⟩
      intro v4 G w5 hI hs2
      obtain ⟨A4, c4, rfl⟩ := hI.f4 v4 (hs2 4 v4 rfl)
      clear hI hs2 G w5
      (try simp only [Act.put, List.setIfInBounds_toArray, List.set_cons_zero, List.set_cons_succ])
      with_reducible refine RI.lexL_quiet' (v := ?_) ?_ ?_ ?_ ?_; rotate_left; (· with_reducible rfl); (· decide); (· intro G w1 hI1 hA1; have hw1 := hI1.ext; go_simp; with_reducible rfl); (try simp only [Act.put, List.setIfInBounds_toArray, List.set_cons_zero, List.set_cons_succ])
      with_reducible refine RI.lexL_quiet' (v := ?_) ?_ ?_ ?_ ?_; rotate_left; (· with_reducible rfl); (· decide); (· intro G w1 hI1 hA1; have hw1 := hI1.ext; go_simp; with_reducible rfl); (try simp only [Act.put, List.setIfInBounds_toArray, List.set_cons_zero, List.set_cons_succ])
      with_reducible refine RI.lexL_quiet' (v := ?_) ?_ ?_ ?_ ?_; rotate_left; (· with_reducible rfl); (· decide); (· intro G w1 hI1 hA1; have hw1 := hI1.ext; go_simp; with_reducible rfl); (try simp only [Act.put, List.setIfInBounds_toArray, List.set_cons_zero, List.set_cons_succ])
      with_reducible refine RI.lexL_quiet' (v := ?_) ?_ ?_ ?_ ?_; rotate_left; (· with_reducible rfl); (· decide); (· intro G w1 hI1 hA1; have q0 := hI1.ext.cell HD.out.2.2.1; go_simp; with_reducible rfl)
      (try simp only [Act.put, List.setIfInBounds_toArray, List.set_cons_zero, List.set_cons_succ])
      with_reducible refine RI.lexL_give' ?_ ?_ ?_ ?_; (· with_reducible rfl); (· decide)
      · intro G w5 hI hA hg
        have h4 := hA 4 (by decide) _ rfl
        go_simp
        refine (derive_lit (S := fun b => G 13 ≠ some (.pointer (some ⟨b, 0, none⟩))) (fun b hb hh => ?_) (hI.a4 hg _ h4) (HTW.out.ext hI.ext) HD.out.1.2.2.1 HD.out.1.2.2.2.1 HD.out.1.2.2.2.2.1 HD.out.1.2.2.2.2.2.1).mono ?_
        · obtain ⟨b', hb', _, hb2⟩ := hI.p13 _ hh
          have : b = b' := by simpa using hb'
          omega
        · rintro e w6 ⟨A, c, rfl, hN, e6⟩
          exact ⟨_, rfl, hI.set9 h4 hg e6 hN⟩
      intro v9 G w5 hI hs2
      obtain ⟨A9, c9, rfl⟩ := hI.f9 v9 (hs2 9 v9 rfl)
      clear hI hs2 G w5
      (try simp only [Act.put, List.setIfInBounds_toArray, List.set_cons_zero, List.set_cons_succ])
      with_reducible refine RI.lexL_quiet' (v := ?_) ?_ ?_ ?_ ?_; rotate_left; (· with_reducible rfl); (· decide); (· intro G w1 hI1 hA1; have hw1 := hI1.ext; go_simp; with_reducible rfl); (try simp only [Act.put, List.setIfInBounds_toArray, List.set_cons_zero, List.set_cons_succ])
      with_reducible refine RI.lexL_quiet' (v := ?_) ?_ ?_ ?_ ?_; rotate_left; (· with_reducible rfl); (· decide); (· intro G w1 hI1 hA1; have hw1 := hI1.ext; go_simp; with_reducible rfl); (try simp only [Act.put, List.setIfInBounds_toArray, List.set_cons_zero, List.set_cons_succ])
      with_reducible refine RI.lexL_quiet' (v := ?_) ?_ ?_ ?_ ?_; rotate_left; (· with_reducible rfl); (· decide); (· intro G w1 hI1 hA1; have hw1 := hI1.ext; go_simp; with_reducible rfl); (try simp only [Act.put, List.setIfInBounds_toArray, List.set_cons_zero, List.set_cons_succ])
      with_reducible refine RI.lexL_give' ?_ ?_ ?_ ?_; (· with_reducible rfl); (· decide)
      · intro G w5 hI hA hg
        go_simp
        exact hI.set13 hg
      intro v13 G w5 hI hs2
      obtain ⟨b16, rfl, -, -⟩ := hI.p13 v13 (hs2 13 v13 rfl)
      clear hI hs2 G w5
      (try simp only [Act.put, List.setIfInBounds_toArray, List.set_cons_zero, List.set_cons_succ])
      with_reducible refine RI.lexL_give' ?_ ?_ ?_ ?_; (· with_reducible rfl); (· decide)
      · intro G w5 hI hA hg
        have h9 := hA 9 (by decide) _ rfl
        have h13 := hA 13 (by decide) _ rfl
        refine gives_store_blk 35 (.tmp 16) (.tmp 106) ?_ b16 ?_ (t := 35) (cells := #[.int .u8 ((derR a r).tr.op : Int), .int .i64 (derR a r).tr.n, .slice A9 (derR a r).tr.subs.length c9]) ?_ (hI.raw hg b16 h13) (by kernel_rfl) (by kernel_rfl) (by kernel_rfl) (fun w' h1 h2 => hI.set14 h13 h9 h1 h2) <;> first | rfl | exact rfl | (go_simp; done)
      intro v14 G w5 hI hs2
      clear hI hs2 G w5
      (try simp only [Act.put, List.setIfInBounds_toArray, List.set_cons_zero, List.set_cons_succ])
      with_reducible refine RI.lexL_nil ?_; intro w1 hI1; simp only [List.drop_succ_cons, List.drop_zero]
      have h16 : w1.heap[b16]? = some (.cells #[.int .u8 ((derR a r).tr.op : Int), .int .i64 (derR a r).tr.n, .slice A9 (derR a r).tr.subs.length c9] 35) := hI1.st _ b16 A9 c9 rfl rfl rfl
      have hnd := (hI1.a9 A9 c9 rfl).node
      have htx := text_lit hnd (HTW.out.ext hI1.ext) HD.out.1.2.2.2.2.2.2.1 HD.out.1.2.2.2.2.2.1 HD.out.1.2.2.2.2.2.2.2
      have HX := Lib.hid hI1.ext
      have q3 := fun w' (e : Ext w1 w') => (hI1.ext.trans e).cell HD.out.2.2.2
      have hse : (t.toList == t.toList) = true := by simp
      clear hI1 hnd
      go_wp2_with (first
        | (with_reducible refine wpList_load_row rfl 35 _ rfl b16 rfl 35 _ (0, 0) _ h16 Tryd.underlying35 rfl (by kernel_rfl) ?_)
        | ((with_reducible refine htx.mono ?_); rintro e W5 ⟨rfl, e5⟩; have q3 := q3 W5 e5))
      go_roundw
      case rel => exact ⟨i + 1, by go_num, by omega, HE.out.trans (HX.out.trans e5)⟩
      case measure => simp [intOf]; omega
    · have hie : i = 4 := by omega
      subst hie
      have HE := Lib.hid hE
      clear hE
      go_upto_region 999 with (with_reducible refine stop_at 24 ?_)
      refine ⟨?_⟩
      exact live_t24 w W2 _ _ _ _ _ _ _ _ _ _ _ _ _ _ _ _ _ _ _ _ _ _ _ _ _ _ _ _ _ _ _ _ _ _ _ _ _ _ _ _ _ _ _ _ _ _ _ _ _ _ _ _ _ _ _ _ _ _ _ _ _ _ _ _ _ _ _ _ _ _ _ _ _ _ _ _ _ _ _ _ _ _ _ _ _ _ _ _ _ _ _ _ _ _ _ _ _ _ _ _ _ _ _ _ _ _ _ _ _ _ _ _ _ _ _ _ _ _ _ _ _ _ _ _ _ _ _ _ _ _ _ _ _ _ _ _ _ _ _ _ _ _ _ _ _ _ _ _ _ _ _ _ _ _ _ _ _ _ _ _ _ _ _ _ _ _ _ _ _ _ _ _ _ _ _ _ _ _ _ _ _ _ _ _ _ _ _ _ _ _ _ _ _ _ _ _ _ _ _ _ _ _ _ _ _ _ _ _ _ _ _ _ _ _ _ _ _ _ _ _ _ _ _ _ (HT.out.1.trans (H3.out.1.trans HE.out)) (HT.out.2.ext (H3.out.1.trans HE.out))
end Go.Proofs.YtmebgomnmlbgnaaDoor

namespace Go.Proofs.YtmebgomnmlbgnaaDoor
open Go.RowKit Go.Maps
set_option linter.unusedVariables false
set_option linter.unusedSimpArgs false
attribute [local go_sem] Oper.quietV quietV Oper.gives givesV ext_refl_iff ext_alloc_iff ext_drew_iff ext_drewN_iff
theorem bad_at (i : Nat) (hi : i < 6) : ∃ s j, parA s 2 = .err 4 j ∧ s.size ≤ 1000 ∧
    (#[Value.string ⟨#[]⟩, .string ⟨#[97, 124]⟩, .string ⟨#[99]⟩, .string ⟨#[97, 32, 98]⟩, .string ⟨#[42]⟩, .string ⟨#[40, 97]⟩] : Array Value)[i]? = some (.string s) ∧
    (#[Value.int .i64 0, .int .i64 2, .int .i64 0, .int .i64 1, .int .i64 0, .int .i64 2] : Array Value)[i]? = some (.int .i64 ((j : Nat) : Int)) := by
  match i with
  | 0 => exact ⟨_, 0, pb_0, by decide, rfl, rfl⟩
  | 1 => exact ⟨_, 2, pb_1, by decide, rfl, rfl⟩
  | 2 => exact ⟨_, 0, pb_2, by decide, rfl, rfl⟩
  | 3 => exact ⟨_, 1, pb_3, by decide, rfl, rfl⟩
  | 4 => exact ⟨_, 0, pb_4, by decide, rfl, rfl⟩
  | 5 => exact ⟨_, 2, pb_5, by decide, rfl, rfl⟩
  | n + 6 => omega
theorem two_new (W : World) (o1 o2 : Obj) : ((W.alloc o1).alloc o2).heap[W.heap.size]? = some o1 ∧ ((W.alloc o1).alloc o2).heap[W.heap.size + 1]? = some o2 := ⟨heap_ext (alloc_ext _ _) (heap_alloc_new _ _), heap_new2 _ _ _⟩
theorem parse_lit {s : ByteArray} {j : Nat} (hp : parA s 2 = .err 4 j) (hs : s.size ≤ 1000) (w : World) : Calls Tryd.prog 28 #[.string s, .int .i64 2] w (fun e w' => e = .returned (.tuple #[.agg #[.int .u8 0, .int .i64 0, .slice none 0 0], .int .i64 (j : Int), .int .i64 4]) ∧ Ext w w') := by
  have h := parse_any (S := fun _ => True) (w := w) (s := s) (sy := 2) (fun _ _ => trivial) (by omega)
  rw [hp] at h
  exact h
set_option maxRecDepth 100000 in
set_option maxHeartbeats 16000000 in
theorem live_t9 (w W : World) (c0 c1 c2 c3 c4 c5 c6 c7 c8 c9 c10 c11 c12 c13 c14 c15 c16 c17 c18 c19 c20 c21 c22 c23 c24 c25 c26 c27 c28 c29 c30 c31 c32 c33 c34 c35 c36 c37 c38 c39 c40 c41 c42 c43 c44 c45 c46 c47 c48 c49 c50 c51 c52 c53 c54 c55 c56 c57 c58 c59 c60 c61 c62 c63 c64 c65 c66 c67 c68 c69 c70 c71 c72 c73 c74 c75 c76 c77 c78 c79 c80 c81 c82 c83 c84 c85 c86 c87 c88 c89 c90 c91 c92 c93 c94 c95 c96 c97 c98 c99 c100 c101 c102 c103 c104 c105 c106 c107 c108 c109 c110 c111 c112 c113 c114 c115 c116 c117 c118 c119 c120 c121 c122 c123 c124 c125 c126 c127 c128 c129 c130 c131 c132 c133 c134 c135 c136 c137 c138 c139 c140 c141 c142 c143 c144 c145 c146 c147 c148 c149 c150 c151 c152 c153 c154 c155 c156 c157 c158 c159 c160 c161 c162 c163 c164 c165 c166 c167 c168 c169 c170 c171 c172 c173 c174 c175 c176 c177 c178 c179 c180 c181 c182 c183 c184 c185 c186 c187 c188 c189 c190 c191 c192 c193 c194 c195 c196 c197 c198 c199 c200 c201 c202 c203 c204 c205 c206 c207 c208 c209 c210 c211 c212 c213 c214 c215 c216 c217 c218 c219 c220 c221 c222 c223 : Value) (hE : Ext w W) (hT : Tabs W) :
    Code.wp Tryd.prog (T16 9) (bodyPost Tryd.prog Tryd.f16 (LivP w)) ⟨(c0 :: c1 :: c2 :: c3 :: c4 :: c5 :: c6 :: c7 :: c8 :: c9 :: c10 :: c11 :: c12 :: c13 :: c14 :: c15 :: c16 :: c17 :: c18 :: c19 :: c20 :: c21 :: c22 :: c23 :: c24 :: c25 :: c26 :: c27 :: c28 :: c29 :: c30 :: c31 :: c32 :: c33 :: c34 :: c35 :: c36 :: c37 :: c38 :: c39 :: c40 :: c41 :: c42 :: c43 :: c44 :: c45 :: c46 :: c47 :: c48 :: c49 :: c50 :: c51 :: c52 :: c53 :: c54 :: c55 :: c56 :: c57 :: c58 :: c59 :: c60 :: c61 :: c62 :: c63 :: c64 :: c65 :: c66 :: c67 :: c68 :: c69 :: c70 :: c71 :: c72 :: c73 :: c74 :: c75 :: c76 :: c77 :: c78 :: c79 :: c80 :: c81 :: c82 :: c83 :: c84 :: c85 :: c86 :: c87 :: c88 :: c89 :: c90 :: c91 :: c92 :: c93 :: c94 :: c95 :: c96 :: c97 :: c98 :: c99 :: c100 :: c101 :: c102 :: c103 :: c104 :: c105 :: c106 :: c107 :: c108 :: c109 :: c110 :: c111 :: c112 :: c113 :: c114 :: c115 :: c116 :: c117 :: c118 :: c119 :: c120 :: c121 :: c122 :: c123 :: c124 :: c125 :: c126 :: c127 :: c128 :: c129 :: c130 :: c131 :: c132 :: c133 :: c134 :: c135 :: c136 :: c137 :: c138 :: c139 :: c140 :: c141 :: c142 :: c143 :: c144 :: c145 :: c146 :: c147 :: c148 :: c149 :: c150 :: c151 :: c152 :: c153 :: c154 :: c155 :: c156 :: c157 :: c158 :: c159 :: c160 :: c161 :: c162 :: c163 :: c164 :: c165 :: c166 :: c167 :: c168 :: c169 :: c170 :: c171 :: c172 :: c173 :: c174 :: c175 :: c176 :: c177 :: c178 :: c179 :: c180 :: c181 :: c182 :: c183 :: c184 :: c185 :: c186 :: c187 :: c188 :: c189 :: c190 :: c191 :: c192 :: c193 :: c194 :: c195 :: c196 :: c197 :: c198 :: c199 :: c200 :: c201 :: c202 :: c203 :: c204 :: c205 :: c206 :: c207 :: c208 :: c209 :: c210 :: c211 :: c212 :: c213 :: c214 :: c215 :: c216 :: c217 :: c218 :: c219 :: c220 :: c221 :: c222 :: c223 :: []).toArray, []⟩ W := by
  conv => arg 2; whnf
  have HT := Lib.hid (And.intro hE hT)
  clear hE hT
  go_upto_region 10 with fail
  refine wp_named ?_
  intro W1 hW1
  have h3 := two_new W (.cells #[Value.string ⟨#[]⟩, .string ⟨#[97, 124]⟩, .string ⟨#[99]⟩, .string ⟨#[97, 32, 98]⟩, .string ⟨#[42]⟩, .string ⟨#[40, 97]⟩] 9) (.cells #[Value.int .i64 0, .int .i64 2, .int .i64 0, .int .i64 1, .int .i64 0, .int .i64 2] 3)
  have e1 : Ext W W1 := by rw [hW1]; exact (alloc_ext _ _).trans (alloc_ext _ _)
  rw [← hW1] at h3
  have H3 := Lib.hid (And.intro e1 h3)
  clear hW1 h3 e1
  generalize W.heap.size + 1 = b7 at *
  generalize W.heap.size = b6 at *
  go_wp2
  go_loopw [8] (fun iv wr => ∃ i : Nat, iv = .int .i64 i ∧ i ≤ 6 ∧ Ext W1 wr) (fun iv _ => 6 - (intOf iv).toNat)
  case atStart => exact ⟨0, rfl, by omega, Ext.refl _⟩
  case round =>
    obtain ⟨i, rfl, hi, hE⟩ := hrel
    obtain ⟨W2, hW2⟩ : ∃ W, W = wr := ⟨_, rfl⟩; subst hW2
    by_cases hlt : i < 6
    · have hiI : (i : Int) < 6 := by omega
      obtain ⟨s, j, hp, hs, g1, g2⟩ := bad_at i hlt
      have q1 := hE.cell (cell_of_blk H3.out.2.1 i g1)
      have q2 := fun w' (e : Ext W2 w') => (hE.trans e).cell (cell_of_blk H3.out.2.2 i g2)
      have hst := parse_lit hp hs W2
      have HE := Lib.hid hE
      have hjj : ((j : Int) != (j : Int)) = false := by simp
      clear hp hs g1 g2 hE
      go_upto_region 14 with ((with_reducible refine hst.mono ?_); rintro e W5 ⟨rfl, e5⟩)
      refine wp_named ?_
      intro W6 hW6
      have e6 : Ext W2 W6 := by rw [hW6]; exact e5.trans (alloc_ext _ _)
      have q2 := q2 W6 e6
      have HE6 := Lib.hid (HE.out.trans e6)
      clear hW6 e6 e5 hst q1
      go_wp2
      go_roundw
      case rel => exact ⟨i + 1, by go_num, by omega, HE6.out⟩
      case measure => simp [intOf]; omega
    · have hie : i = 6 := by omega
      subst hie
      have HE := Lib.hid hE
      clear hE
      go_upto_region 999 with (first | (with_reducible refine stop_at 16 ?_) | (with_reducible refine stop_at2 16 ?_))
      refine ⟨?_⟩
      exact live_t16 w W2 _ _ _ _ _ _ _ _ _ _ _ _ _ _ _ _ _ _ _ _ _ _ _ _ _ _ _ _ _ _ _ _ _ _ _ _ _ _ _ _ _ _ _ _ _ _ _ _ _ _ _ _ _ _ _ _ _ _ _ _ _ _ _ _ _ _ _ _ _ _ _ _ _ _ _ _ _ _ _ _ _ _ _ _ _ _ _ _ _ _ _ _ _ _ _ _ _ _ _ _ _ _ _ _ _ _ _ _ _ _ _ _ _ _ _ _ _ _ _ _ _ _ _ _ _ _ _ _ _ _ _ _ _ _ _ _ _ _ _ _ _ _ _ _ _ _ _ _ _ _ _ _ _ _ _ _ _ _ _ _ _ _ _ _ _ _ _ _ _ _ _ _ _ _ _ _ _ _ _ _ _ _ _ _ _ _ _ _ _ _ _ _ _ _ _ _ _ _ _ _ _ _ _ _ _ _ _ _ _ _ _ _ _ _ _ _ _ _ _ _ _ _ _ _ (HT.out.1.trans (H3.out.1.trans HE.out)) (HT.out.2.ext (H3.out.1.trans HE.out))
theorem txt_at (i : Nat) (hi : i < 5) : ∃ s t r, parA s 2 = .tree r ∧ s.size ≤ 1000 ∧ r.okS 2 = true ∧ r.cnt ≤ 64 ∧ wrB r 0 = t ∧
    (#[Value.string ⟨#[97, 124, 98, 38, 97, 98, 42]⟩, .string ⟨#[40, 97, 124, 98, 41, 42, 97, 98]⟩, .string ⟨#[97]⟩, .string ⟨#[126, 97, 42]⟩, .string ⟨#[40, 126, 97, 41, 42]⟩] : Array Value)[i]? = some (.string t) ∧
    (#[Value.string ⟨#[97, 124, 98, 38, 97, 98, 42]⟩, .string ⟨#[40, 97, 124, 98, 41, 42, 97, 98]⟩, .string ⟨#[40, 40, 97, 41, 41]⟩, .string ⟨#[126, 97, 42]⟩, .string ⟨#[40, 126, 97, 41, 42]⟩] : Array Value)[i]? = some (.string s) := by
  match i with
  | 0 => exact ⟨_, _, x1, pa_x1, by decide, by decide, by decide, wr_x1, rfl, rfl⟩
  | 1 => exact ⟨_, _, x2, pa_x2, by decide, by decide, by decide, wr_x2, rfl, rfl⟩
  | 2 => exact ⟨_, _, xA, pa_xA, by decide, by decide, by decide, wr_xA, rfl, rfl⟩
  | 3 => exact ⟨_, _, x4, pa_x4, by decide, by decide, by decide, wr_x4, rfl, rfl⟩
  | 4 => exact ⟨_, _, x5, pa_x5, by decide, by decide, by decide, wr_x5, rfl, rfl⟩
  | n + 5 => omega
set_option maxRecDepth 100000 in
set_option maxHeartbeats 16000000 in
theorem lives_any (w : World) (hT : Tabs w) : Calls Tryd.prog 16 #[] w (LivP w) := by
  have HT := Lib.hid hT
  clear hT
  go_enter Tryd.func16, Tryd.ntmps16
  go_upto_region 3 with fail
  refine wp_named ?_
  intro W1 hW1
  have h3 := two_new w (.cells #[Value.string ⟨#[97, 124, 98, 38, 97, 98, 42]⟩, .string ⟨#[40, 97, 124, 98, 41, 42, 97, 98]⟩, .string ⟨#[97]⟩, .string ⟨#[126, 97, 42]⟩, .string ⟨#[40, 126, 97, 41, 42]⟩] 9) (.cells #[Value.string ⟨#[97, 124, 98, 38, 97, 98, 42]⟩, .string ⟨#[40, 97, 124, 98, 41, 42, 97, 98]⟩, .string ⟨#[40, 40, 97, 41, 41]⟩, .string ⟨#[126, 97, 42]⟩, .string ⟨#[40, 126, 97, 41, 42]⟩] 9)
  have e1 : Ext w W1 := by rw [hW1]; exact (alloc_ext _ _).trans (alloc_ext _ _)
  rw [← hW1] at h3
  have H3 := Lib.hid (And.intro e1 h3)
  clear hW1 h3 e1
  generalize w.heap.size + 1 = b2 at *
  generalize w.heap.size = b1 at *
  go_wp2
  go_loopw [3] (fun iv wr => ∃ i : Nat, iv = .int .i64 i ∧ i ≤ 5 ∧ Ext W1 wr) (fun iv _ => 5 - (intOf iv).toNat)
  case atStart => exact ⟨0, rfl, by omega, Ext.refl _⟩
  case round =>
    obtain ⟨i, rfl, hi, hE⟩ := hrel
    obtain ⟨W2, hW2⟩ : ∃ W, W = wr := ⟨_, rfl⟩; subst hW2
    by_cases hlt : i < 5
    · have hiI : (i : Int) < 5 := by omega
      obtain ⟨s, t, r, hp, hs, ho, hc, ht, g1, g2⟩ := txt_at i hlt
      have q1 := hE.cell (cell_of_blk H3.out.2.2 i g2)
      have q2 := fun w' (e : Ext W2 w') => (hE.trans e).cell (cell_of_blk H3.out.2.1 i g1)
      have hst := read_ok s r hp hs W2
      have HE := Lib.hid hE
      have HR := Lib.hid (And.intro ho (And.intro hc ht))
      have hse : (t.toList == t.toList) = true := by simp
      clear hp hs g1 g2 hE ho hc ht
      go_wp2_with (first
        | ((with_reducible refine hst.mono ?_); rintro e W5 ⟨A5, c5, rfl, hN, e5⟩; have htx := text_lit hN (HT.out.ext (H3.out.1.trans (HE.out.trans e5))) HR.out.1 HR.out.2.1 HR.out.2.2)
        | ((with_reducible refine htx.mono ?_); rintro e W6 ⟨rfl, e6⟩; have q2 := q2 W6 (e5.trans e6)))
      go_roundw
      case rel => exact ⟨i + 1, by go_num, by omega, HE.out.trans (e5.trans e6)⟩
      case measure => simp [intOf]; omega
    · have hie : i = 5 := by omega
      subst hie
      have HE := Lib.hid hE
      clear hE
      go_upto_region 999 with (first | (with_reducible refine stop_at 9 ?_) | (with_reducible refine stop_at2 9 ?_))
      refine ⟨?_⟩
      exact live_t9 w W2 _ _ _ _ _ _ _ _ _ _ _ _ _ _ _ _ _ _ _ _ _ _ _ _ _ _ _ _ _ _ _ _ _ _ _ _ _ _ _ _ _ _ _ _ _ _ _ _ _ _ _ _ _ _ _ _ _ _ _ _ _ _ _ _ _ _ _ _ _ _ _ _ _ _ _ _ _ _ _ _ _ _ _ _ _ _ _ _ _ _ _ _ _ _ _ _ _ _ _ _ _ _ _ _ _ _ _ _ _ _ _ _ _ _ _ _ _ _ _ _ _ _ _ _ _ _ _ _ _ _ _ _ _ _ _ _ _ _ _ _ _ _ _ _ _ _ _ _ _ _ _ _ _ _ _ _ _ _ _ _ _ _ _ _ _ _ _ _ _ _ _ _ _ _ _ _ _ _ _ _ _ _ _ _ _ _ _ _ _ _ _ _ _ _ _ _ _ _ _ _ _ _ _ _ _ _ _ _ _ _ _ _ _ _ _ _ _ _ _ _ _ _ _ _ (H3.out.1.trans HE.out) (HT.out.ext (H3.out.1.trans HE.out))
end Go.Proofs.YtmebgomnmlbgnaaDoor
