/- Words for automata that are not deterministic, and for their data. law23.some 60. law23.N.Of 42. law23.N.Of 42: the whole. ref23.Step 58. ref23.Determinize 41: the loop. ref23.Determinize 41: the whole. -/
import Derived.Test.YthlnmcokgfpgmaaDoorZC
import Derived.Test.YthlnmcokgfpgmaaDoorZB
import Derived.Test.YthlnmcokgfpgmaaDoorZE
import Derived.Test.YthlnmcokgfpgmaaDoorZH
namespace Go.Proofs.YthlnmcokgfpgmaaDoor
open Go.RowKit
set_option linter.unusedVariables false
set_option linter.unusedSimpArgs false

/-- Some of the numbers below n, ascending. -/
def subL (n : Nat) (p : Nat → Bool) : List Int := ((List.range n).filter p).map (fun x : Nat => (x : Int))
def SubOf (n : Nat) (l : List Int) : Prop := ∃ p, l = subL n p
theorem subL_zero (p : Nat → Bool) : subL 0 p = [] := rfl
theorem subL_succ (n : Nat) (p : Nat → Bool) : subL (n + 1) p = if p n then subL n p ++ [(n : Int)] else subL n p := by
  unfold subL
  rw [List.range_succ, List.filter_append, List.map_append]
  cases h : p n <;> simp [List.filter_cons, h]
theorem subL_in {n : Nat} {p : Nat → Bool} {x : Int} (h : x ∈ subL n p) : 0 ≤ x ∧ x < n := by
  unfold subL at h
  obtain ⟨y, hy, rfl⟩ := List.mem_map.1 h
  have := List.mem_range.1 (List.mem_filter.1 hy).1
  omega
theorem subL_len (n : Nat) (p : Nat → Bool) : (subL n p).length ≤ n := by
  unfold subL
  rw [List.length_map]
  have := List.length_filter_le p (List.range n)
  simpa using this
theorem SubOf.zero : SubOf 0 [] := ⟨fun _ => false, rfl⟩
theorem subL_congr {n : Nat} {p q : Nat → Bool} (h : ∀ x, x < n → p x = q x) : subL n p = subL n q := by
  unfold subL
  rw [List.filter_congr (fun x hx => h x (List.mem_range.1 hx))]
theorem SubOf.skip {n : Nat} {l : List Int} (h : SubOf n l) : SubOf (n + 1) l := by
  obtain ⟨p, rfl⟩ := h
  refine ⟨fun x => if x < n then p x else false, ?_⟩
  rw [subL_succ, if_neg (by simp)]
  exact subL_congr fun x hx => by simp [hx]
theorem SubOf.take {n : Nat} {l : List Int} (h : SubOf n l) : SubOf (n + 1) (l ++ [(n : Int)]) := by
  obtain ⟨p, rfl⟩ := h
  refine ⟨fun x => if x < n then p x else true, ?_⟩
  rw [subL_succ, if_pos (by simp)]
  congr 1
  exact subL_congr fun x hx => by simp [hx]
theorem SubOf.inn {n : Nat} {l : List Int} (h : SubOf n l) {x : Int} (hx : x ∈ l) : 0 ≤ x ∧ x < n := by
  obtain ⟨p, rfl⟩ := h; exact subL_in hx
theorem SubOf.len {n : Nat} {l : List Int} (h : SubOf n l) : l.length ≤ n := by
  obtain ⟨p, rfl⟩ := h; exact subL_len n p
/-- All of them. -/
def allSub : Nat → List (List Int)
  | 0 => [[]]
  | n + 1 => allSub n ++ (allSub n).map (fun l => l ++ [(n : Int)])
theorem allSub_len : ∀ n, (allSub n).length = 2 ^ n
  | 0 => rfl
  | n + 1 => by
    unfold allSub
    rw [List.length_append, List.length_map, allSub_len n, Nat.pow_succ]; omega
theorem SubOf.all : ∀ {n : Nat} {l : List Int}, SubOf n l → l ∈ allSub n
  | 0, l, h => by obtain ⟨p, rfl⟩ := h; exact List.mem_singleton.2 rfl
  | n + 1, l, h => by
    obtain ⟨p, rfl⟩ := h
    unfold allSub
    rw [subL_succ, List.mem_append]
    split
    · exact .inr (List.mem_map.2 ⟨_, SubOf.all ⟨p, rfl⟩, rfl⟩)
    · exact .inl (SubOf.all ⟨p, rfl⟩)
theorem subs_bound {n : Nat} {L : List (List Int)} (hd : L.Nodup) (h : ∀ l ∈ L, SubOf n l) : L.length ≤ 2 ^ n := by
  rw [← allSub_len n]
  exact List.Nodup.length_le_of_subset hd (fun l hl => (h l hl).all)

structure Nfa where
  sy : Int
  rows : List (List (List Int))
  st : List Int
  ac : List Int
/-- Slices of slices of slices of numbers. -/
def DeepC (w : World) (v : Value) (rows : List (List (List Int))) (c : Nat) : Prop :=
  ∃ A vs, v = .slice A rows.length c ∧ Cells w A vs ∧ vs.length = rows.length ∧ (∀ (i : Nat) (u : Value) (es : List (List Int)), vs[i]? = some u → rows[i]? = some es → ∃ c', ListsC w u es c') ∧ rows.length ≤ c ∧ rows.length ≤ lenMax
theorem DeepC.ext {w w' : World} {v : Value} {rows : List (List (List Int))} {c : Nat} (h : DeepC w v rows c) (e : Ext w w') : DeepC w' v rows c := by
  obtain ⟨A, vs, hv, hc, hl, hr, hb⟩ := h
  exact ⟨A, vs, hv, hc.ext e, hl, fun i u es hu hes => by
    obtain ⟨c', h'⟩ := hr i u es hu hes
    exact ⟨c', h'.ext e⟩, hb⟩
theorem DeepC.at_ {w : World} {v : Value} {rows : List (List (List Int))} {c : Nat} (h : DeepC w v rows c) {k : Nat} (hk : k < rows.length) :
    ∃ b o u c', v = .slice (some ⟨b, o, none⟩) rows.length c ∧ b < w.heap.size ∧ w.cell? ⟨b, o + k, none⟩ = some u ∧ ListsC w u rows[k] c' := by
  obtain ⟨A, vs, rfl, hc, hl, hr, _⟩ := h
  obtain ⟨b, o, rfl, hb, hcc⟩ := hc (by omega)
  have hk' : k < vs.length := by omega
  obtain ⟨c', he⟩ := hr k vs[k] rows[k] (List.getElem?_eq_getElem hk') (List.getElem?_eq_getElem hk)
  exact ⟨b, o, vs[k], c', rfl, hb, hcc k _ (List.getElem?_eq_getElem hk'), he⟩
def NfaV (w : World) (v : Value) (x : Nfa) : Prop := ∃ rv cr sv cs av ca, v = .agg #[.int .i64 x.sy, rv, sv, av] ∧ DeepC w rv x.rows cr ∧ IntsC w sv x.st cs ∧ IntsC w av x.ac ca
theorem NfaV.ext {w w' : World} {v : Value} {x : Nfa} (h : NfaV w v x) (e : Ext w w') : NfaV w' v x := by
  obtain ⟨rv, cr, sv, cs, av, ca, hv, h1, h2, h3⟩ := h
  exact ⟨rv, cr, sv, cs, av, ca, hv, h1.ext e, h2.ext e, h3.ext e⟩
/-- A valid one, of at most six states and three symbols. -/
structure GoodN (x : Nfa) : Prop where
  sy : 1 ≤ x.sy ∧ x.sy ≤ 3
  size : x.rows.length ≤ 6
  len : ∀ r ∈ x.rows, (r.length : Int) = x.sy
  sub : ∀ r ∈ x.rows, ∀ l ∈ r, SubOf x.rows.length l
  st : SubOf x.rows.length x.st
  ac : SubOf x.rows.length x.ac
/-- Plain data of an automaton: three small numbers beside a list of triples of them. -/
structure RawN where
  sy : Nat
  many : Nat
  arcs : List (Nat × Nat × Nat)
  st : Nat
  ac : Nat
def triCells (t : Nat × Nat × Nat) : List Value := [.int .u8 t.1, .int .u8 t.2.1, .int .u8 t.2.2]
def TriC (w : World) (v : Value) (ts : List (Nat × Nat × Nat)) (c : Nat) : Prop := ∃ A, v = .slice A ts.length c ∧ Cells w A (ts.flatMap triCells) ∧ ts.length ≤ c ∧ ts.length ≤ lenMax ∧ ∀ t ∈ ts, t.1 < 256 ∧ t.2.1 < 256 ∧ t.2.2 < 256
theorem TriC.ext {w w' : World} {v : Value} {ts : List (Nat × Nat × Nat)} {c : Nat} (h : TriC w v ts c) (e : Ext w w') : TriC w' v ts c := by
  obtain ⟨A, hv, hc, hr⟩ := h
  exact ⟨A, hv, hc.ext e, hr⟩
def RawNV (w : World) (v : Value) (r : RawN) : Prop := ∃ av c, v = .agg #[.int .u8 r.sy, .int .u8 r.many, av, .int .u8 r.st, .int .u8 r.ac] ∧ TriC w av r.arcs c ∧ r.sy < 256 ∧ r.many < 256 ∧ r.st < 256 ∧ r.ac < 256
theorem RawNV.ext {w w' : World} {v : Value} {r : RawN} (h : RawNV w v r) (e : Ext w w') : RawNV w' v r := by
  obtain ⟨av, c, hv, h1, h2⟩ := h
  exact ⟨av, c, hv, h1.ext e, h2⟩
theorem tri_len : ∀ ys : List (Nat × Nat × Nat), (ys.flatMap triCells).length = ys.length * 3 := fun ys => by
  induction ys with
  | nil => rfl
  | cons y r ih => simp [List.flatMap_cons, triCells, ih]; omega
theorem Cells.at_tri {w : World} {A : Option Addr} {xs : List (Nat × Nat × Nat)} (h : Cells w A (xs.flatMap triCells)) {k : Nat} (hk : k < xs.length) :
    ∃ b o, A = some ⟨b, o, none⟩ ∧ b < w.heap.size ∧ w.cell? ⟨b, o + k * 3, none⟩ = some (.int .u8 xs[k].1) ∧ w.cell? ⟨b, o + k * 3 + 1, none⟩ = some (.int .u8 xs[k].2.1) ∧ w.cell? ⟨b, o + k * 3 + 2, none⟩ = some (.int .u8 xs[k].2.2) := by
  have hget : ∀ (ys : List (Nat × Nat × Nat)) (k : Nat) (hk : k < ys.length), (ys.flatMap triCells)[k * 3]? = some (.int .u8 ys[k].1) ∧ (ys.flatMap triCells)[k * 3 + 1]? = some (.int .u8 ys[k].2.1) ∧ (ys.flatMap triCells)[k * 3 + 2]? = some (.int .u8 ys[k].2.2) := fun ys => by
    induction ys with
    | nil => intro k hk; simp at hk
    | cons y r ih =>
      intro k hk
      cases k with
      | zero => simp [List.flatMap_cons, triCells]
      | succ k =>
        have := ih k (by simpa using hk)
        rw [show (k + 1) * 3 = k * 3 + 1 + 1 + 1 by omega]
        simpa [List.flatMap_cons, triCells] using this
  obtain ⟨b, o, hA, hb, hc⟩ := h (by rw [tri_len]; omega)
  exact ⟨b, o, hA, hb, hc _ _ (hget xs k hk).1, by rw [Nat.add_assoc]; exact hc _ _ (hget xs k hk).2.1, by rw [Nat.add_assoc]; exact hc _ _ (hget xs k hk).2.2⟩
end Go.Proofs.YthlnmcokgfpgmaaDoor

namespace Go.Proofs.YthlnmcokgfpgmaaDoor
open Go.RowKit Go.Maps
set_option linter.unusedVariables false
set_option linter.unusedSimpArgs false
attribute [local go_sem] Oper.quietV quietV Oper.gives givesV ext_refl_iff ext_alloc_iff ext_drew_iff ext_drewN_iff
theorem ints_snoc {w W : World} {v : Value} {xs : List Int} {x : Int} {L : List Asn} (h : OwnL w W (.row 3 1 v (xs.length + 1) (xs.map (.int .i64) ++ [.int .i64 x]) :: L)) : OwnL w W (.row 3 1 v (xs ++ [x]).length ((xs ++ [x]).map (.int .i64)) :: L) := by
  rw [List.length_append, List.map_append]; exact h
def SomeP (n : Nat) (w : World) (e : Ending) (w' : World) : Prop := ∃ v xs, e = .returned v ∧ SubOf n xs ∧ w'.ownsRow w.heap.size 3 1 v xs.length (xs.map (.int .i64)) ∧ Ext w w'
set_option maxRecDepth 100000 in
set_option maxHeartbeats 4000000 in
theorem some_any (w : World) (o n : Nat) (ho : o < 256) (hn : n ≤ 8) : Calls Tryd.prog 60 #[.int .u8 o, .int .i64 n] w (SomeP n w) := by
  obtain ⟨i3, hi3, hz3, hs3, hb3⟩ := info_parts int_info
  go_enter Tryd.func60, Tryd.ntmps60
  go_wp2
  go_loopw [5, 6] (fun v iv wr => ∃ (s : Nat) (xs : List Int), iv = .int .i64 s ∧ s ≤ n ∧ Hid (SubOf s xs) ∧ OwnL w wr [.row 3 1 v xs.length (xs.map (.int .i64))]) (fun _ iv _ => n - (intOf iv).toNat)
  case atStart => exact ⟨0, [], rfl, by omega, Lib.hid SubOf.zero, (OwnL.nil (Ext.refl w)).add (Ext.refl w) (A := .row 3 1 (.slice none 0 0) 0 []) (World.ownsRow_nil _ _ _ _)⟩
  case round =>
    obtain ⟨s, xs, rfl, hs, hsub, hO⟩ := hrel
    obtain ⟨W4, hW4⟩ : ∃ W, W = wr := ⟨_, rfl⟩; subst hW4
    by_cases hlt : s < n
    · have hsI : (s : Int) < (n : Int) := by omega
      have hxl := hsub.out.len
      have hown := hO.get 0 rfl
      have hown : W4.ownsRow w.heap.size 3 1 u5 xs.length (xs.map (.int .i64)) := hown
      have hsz := hO.ext.size
      go_wp2_with (at_builtin; refine wpList_append_own2 rfl _ _ 31 rfl w.heap.size 3 i3 (.int .i64 0) 1 8 Tryd.underlying31 hi3 hz3 hs3 hb3 rfl (by decide) u5 xs.length (xs.map (.int .i64)) rfl (World.ownsRow.alloc hown _) ⟨W4.heap.size, 0, none⟩ 1 1 [.int .i64 s] rfl rfl (new_cell _ _ _ _ rfl) (one_int _) (by unfold maxLen; omega) (by omega) (by simp; omega) ?_; intro v6 w6 hown6 hg6 hb6)
      · have hO6 := (hO.trans (alloc_ext W4 (.cells #[.int .i64 s] 3))).app 0 rfl hg6 hown6 hb6
        exact ⟨⟨s + 1, xs ++ [(s : Int)], by go_num, by omega, Lib.hid hsub.out.take, ints_snoc hO6⟩, by simp [intOf]; omega⟩
      · exact ⟨⟨s + 1, xs, by go_num, by omega, Lib.hid hsub.out.skip, hO⟩, by simp [intOf]; omega⟩
    · obtain rfl : s = n := by omega
      go_wp2
      go_ret
      exact ⟨u5, xs, rfl, hsub.out, hO.get 0 rfl, hO.ext⟩
end Go.Proofs.YthlnmcokgfpgmaaDoor

namespace Go.Proofs.YthlnmcokgfpgmaaDoor
open Go.RowKit Go.Maps
set_option linter.unusedVariables false
set_option linter.unusedSimpArgs false
attribute [local go_sem] Oper.quietV quietV Oper.gives givesV ext_refl_iff ext_alloc_iff ext_drew_iff ext_drewN_iff
noncomputable def T42 (n : Nat) : Code := textR n Tryd.f42.body
theorem own_form {W : World} {B e s n : Nat} {v : Value} {xs : List Value} (h : W.ownsRow B e s v n xs) : ∃ A c, v = .slice A n c := by
  obtain ⟨A, c, hv, _⟩ := cells_of_owns h
  exact ⟨A, c, hv⟩
theorem lists_info : (Tryd.prog.info? 25).map (fun i => (i.zero, i.size, i.bytes)) = some (some (.slice none 0 0), 1, 24) := by kernel_rfl
/-- The rows that are done, and the two lists. -/
def DeepQ (vs : List Value) (rows : List (List (List Int))) (W : World) : Prop := ∀ (i : Nat) (u : Value) (es : List (List Int)), vs[i]? = some u → rows[i]? = some es → ∃ c', ListsC W u es c'
def TwoQ (sv : Value) (st : List Int) (av : Value) (ac : List Int) (W : World) : Prop := (∃ c, IntsC W sv st c) ∧ ∃ c, IntsC W av ac c
def okR (sy many : Nat) (r : List (List Int)) : Prop := r.length = sy ∧ ∀ l ∈ r, SubOf many l
def OfP (r : RawN) (w : World) (e : Ending) (w' : World) : Prop := ∃ v x, e = .returned v ∧ NfaV w' v x ∧ GoodN x ∧ x.sy = ((1 + r.sy % 3 : Nat) : Int) ∧ Ext w w'
theorem DeepQ.snoc {vs : List Value} {rows : List (List (List Int))} {W : World} {u : Value} {row : List (List Int)} (h : DeepQ vs rows W) (hl : vs.length = rows.length) (hu : ∃ c', ListsC W u row c') : DeepQ (vs ++ [u]) (rows ++ [row]) W := fun i x es hx hes => by
  by_cases hi : i < vs.length
  · rw [List.getElem?_append_left hi] at hx
    rw [List.getElem?_append_left (by omega)] at hes
    exact h i x es hx hes
  · have hil := (List.getElem?_eq_some_iff.1 hx).1
    simp at hil
    obtain rfl : i = vs.length := by omega
    rw [List.getElem?_append_right (Nat.le_refl _), Nat.sub_self] at hx
    rw [hl, List.getElem?_append_right (Nat.le_refl _), Nat.sub_self] at hes
    cases hx; cases hes
    exact hu
/-- A row of lists is done: it joins those that are. -/
theorem deep_done {W1 W : World} {A : Option Addr} {n c s : Nat} {vs2 vs : List Value} {row : List (List Int)} {rows : List (List (List Int))} {v : Value} {S : Nat → Prop} {Φ : World → Prop} {B : Asn}
    (h : OwnL W1 W [.rows 31 3 1 (.slice A n c) vs2 (row.map iRow), .row 25 1 v (s + 1) (vs ++ [.slice A n c]), .any S (fun W => DeepQ vs rows W ∧ Φ W), B]) (hn : row.length = n) (hn3 : n ≤ 100) (hr : ∀ l ∈ row, l.length ≤ 1000) (hl : vs.length = rows.length) :
    ∃ S', OwnL W1 W [.row 25 1 v (s + 1) (vs ++ [.slice A n c]), .any S' (fun W => DeepQ (vs ++ [.slice A n c]) (rows ++ [row]) W ∧ Φ W), B] := by
  have h1 := h.seal (Φ := fun W => ∃ c', ListsC W (.slice A n c) row c') (fun W' hA => ⟨c, listsC_of_own hA hn (by unfold lenMax; omega) (fun l hl => by have := hr l hl; unfold lenMax; omega)⟩)
  have h2 := (h1.perm (.cons _ (.swap _ _ _))).merge
  have h3 := h2.weaken (Φ' := fun W => DeepQ (vs ++ [.slice A n c]) (rows ++ [row]) W ∧ Φ W) (fun W hW => ⟨hW.2.1.snoc hl hW.1, hW.2.2⟩)
  exact ⟨_, h3.swap⟩
set_option maxRecDepth 100000 in
set_option maxHeartbeats 8000000 in
theorem nOf_t3 (w W1 W : World) (r : RawN) (b1 b2 b5 sy many : Nat) (Aa : Option Addr) (ca : Nat) (sv av : Value) (st ac : List Int) (S : Nat → Prop) (c0 c6 c7 c8 c9 c10 c11 c12 c13 c14 c15 c16 c17 c18 c19 c20 c21 c22 c23 c24 c25 c26 c27 c28 c29 c30 c31 c32 c33 c34 c35 c36 c37 c38 c39 c40 c41 c42 c43 c44 c45 c46 c47 c48 c49 c50 c51 c52 c53 c54 c55 c56 c57 c58 c59 c60 c61 c62 c63 c64 c65 c66 c67 c68 c69 c70 c71 c72 c73 c74 c75 c76 c77 c78 c79 c80 c81 c82 c83 c84 c85 c86 c87 c88 c89 c90 c91 c92 c93 c94 c95 c96 c97 c98 c99 c100 c101 c102 c103 c104 c105 c106 c107 c108 c109 c110 c111 : Value)
    (hsy : sy = 1 + r.sy % 3) (hm : many ≤ 6) (hE1 : Ext w W1) (hb2 : w.heap.size ≤ b2) (hz2 : W1.heap[b2]? = some (.cells #[.int .i64 0, .slice none 0 0, .slice none 0 0, .slice none 0 0] 78 (0, 0)))
    (k2 : ∀ w', Ext W1 w' → w'.cell? ⟨b1, 2, none⟩ = some (.slice Aa r.arcs.length ca)) (ha : TriC W1 (.slice Aa r.arcs.length ca) r.arcs ca)
    (hst : SubOf many st) (hac : SubOf many ac)
    (hO : OwnL W1 W [.row 25 1 (.slice none 0 0) 0 [], .any S (fun W => DeepQ [] [] W ∧ TwoQ sv st av ac W), .blk b5 (.cells #[.int .i64 sy, .slice none 0 0, sv, av] 78)]) :
    Code.wp Tryd.prog (T42 3) (bodyPost Tryd.prog Tryd.f42 (OfP r w)) ⟨(c0 :: .pointer (some ⟨b1, 0, none⟩) :: .pointer (some ⟨b2, 0, none⟩) :: .int .i64 sy :: .int .i64 many :: .pointer (some ⟨b5, 0, none⟩) :: c6 :: c7 :: c8 :: c9 :: c10 :: c11 :: c12 :: c13 :: c14 :: c15 :: c16 :: c17 :: c18 :: c19 :: c20 :: c21 :: c22 :: c23 :: c24 :: c25 :: c26 :: c27 :: c28 :: c29 :: c30 :: c31 :: c32 :: c33 :: c34 :: c35 :: c36 :: c37 :: c38 :: c39 :: c40 :: c41 :: c42 :: c43 :: c44 :: c45 :: c46 :: c47 :: c48 :: c49 :: c50 :: c51 :: c52 :: c53 :: c54 :: c55 :: c56 :: c57 :: c58 :: c59 :: c60 :: c61 :: c62 :: c63 :: c64 :: c65 :: c66 :: c67 :: c68 :: c69 :: c70 :: c71 :: c72 :: c73 :: c74 :: c75 :: c76 :: c77 :: c78 :: c79 :: c80 :: c81 :: c82 :: c83 :: c84 :: c85 :: c86 :: c87 :: c88 :: c89 :: c90 :: c91 :: c92 :: c93 :: c94 :: c95 :: c96 :: c97 :: c98 :: c99 :: c100 :: c101 :: c102 :: c103 :: c104 :: c105 :: c106 :: c107 :: c108 :: c109 :: c110 :: c111 :: []).toArray, []⟩ W := by
  obtain ⟨i3, hi3, hz3, hs3, hb3⟩ := info_parts int_info
  obtain ⟨i31, hi31, hz31, hs31, hb31⟩ := info_parts ints_info
  obtain ⟨i25, hi25, hz25, hs25, hb25⟩ := info_parts lists_info
  have HA := Lib.hid (And.intro hsy (And.intro hE1 (And.intro hb2 (And.intro hz2 (And.intro hst hac)))))
  have hsy3 : sy ≤ 3 ∧ 1 ≤ sy := by omega
  obtain ⟨Aa', hv, hcel, _, hlen, hby⟩ := ha
  cases hv
  unfold lenMax at hlen
  clear hsy hE1 hb2 hz2 hst hac
  conv => arg 2; whnf
  go_wp2
  go_loopw [6] (fun iv wr => ∃ (s : Nat) (rv : Value) (vs : List Value) (rows : List (List (List Int))) (S : Nat → Prop), iv = .int .i64 s ∧ s ≤ many ∧ Hid ((∀ r ∈ rows, okR sy many r) ∧ rows.length = s ∧ vs.length = s) ∧ OwnL W1 wr [.row 25 1 rv s vs, .any S (fun W => DeepQ vs rows W ∧ TwoQ sv st av ac W), .blk b5 (.cells #[.int .i64 sy, rv, sv, av] 78)]) (fun iv _ => many - (intOf iv).toNat)
  case atStart => exact ⟨0, _, [], [], S, rfl, by omega, Lib.hid ⟨fun r h => by simp at h, rfl, rfl⟩, hO⟩
  case round =>
    clear hO S
    obtain ⟨s, rv, vs, rows, S, rfl, hs, HR, hO⟩ := hrel
    obtain ⟨W2, hW2⟩ : ∃ W, W = wr := ⟨_, rfl⟩; subst hW2
    by_cases hlt : s < many
    · have hltI : (s : Int) < (many : Int) := by omega
      go_wp2
      go_loopw [7, 8] (fun v7 iv wr => ∃ (a : Nat) (vs2 : List Value) (row : List (List Int)), iv = .int .i64 a ∧ a ≤ sy ∧ Hid (row.length = a ∧ ∀ l ∈ row, SubOf many l) ∧ OwnL W1 wr [.rows 31 3 1 v7 vs2 (row.map iRow), .row 25 1 rv s vs, .any S (fun W => DeepQ vs rows W ∧ TwoQ sv st av ac W), .blk b5 (.cells #[.int .i64 sy, rv, sv, av] 78)]) (fun _ iv _ => sy - (intOf iv).toNat)
      case atStart => exact ⟨0, [], [], rfl, by omega, Lib.hid ⟨rfl, fun l h => by simp at h⟩, hO.add (Ext.refl _) (A := .rows 31 3 1 (.slice none 0 0) [] []) (rows_none _ _ _ _)⟩
      case round =>
        clear hO
        obtain ⟨a, vs2, row, rfl, ha, HW, hO⟩ := hrel
        obtain ⟨W3, hW3⟩ : ∃ W, W = wr := ⟨_, rfl⟩; subst hW3
        by_cases hla : a < sy
        · have hlaI : (a : Int) < (sy : Int) := by omega
          go_wp2
          go_loopw [9, 10] (fun v9 iv wr => ∃ (t : Nat) (xs : List Int), iv = .int .i64 t ∧ t ≤ many ∧ Hid (SubOf t xs) ∧ OwnL W1 wr [.row 3 1 v9 xs.length (xs.map (.int .i64)), .rows 31 3 1 u7 vs2 (row.map iRow), .row 25 1 rv s vs, .any S (fun W => DeepQ vs rows W ∧ TwoQ sv st av ac W), .blk b5 (.cells #[.int .i64 sy, rv, sv, av] 78)]) (fun _ iv _ => many - (intOf iv).toNat)
          case atStart => exact ⟨0, [], rfl, by omega, Lib.hid SubOf.zero, hO.add (Ext.refl _) (A := .row 3 1 (.slice none 0 0) 0 []) (World.ownsRow_nil _ _ _ _)⟩
          case round =>
            clear hO
            obtain ⟨t, xs, rfl, ht, HX, hO⟩ := hrel
            obtain ⟨W4, hW4⟩ : ∃ W, W = wr := ⟨_, rfl⟩; subst hW4
            by_cases hlo : t < many
            · have hloI : (t : Int) < (many : Int) := by omega
              have kk := k2 W4 hO.ext
              have hcel4 := Cells.ext hcel hO.ext
              go_wp2
              go_loop [11, 12] (fun tv iv => ∃ k : Nat, iv = .int .i64 k ∧ k ≤ r.arcs.length ∧ (tv = .int .i64 0 ∨ tv = .int .i64 1)) (fun _ iv => r.arcs.length - (intOf iv).toNat)
              case atStart => exact ⟨0, rfl, by omega, .inl rfl⟩
              case round =>
                obtain ⟨k, rfl, hk, htv⟩ := hrel
                by_cases hlk : k < r.arcs.length
                · obtain ⟨b, o, hAa, _, c0, c1, c2⟩ := hcel4.at_tri hlk
                  rw [hAa] at kk
                  have hbk := hby _ (List.getElem_mem hlk)
                  generalize r.arcs[k] = tr at *
                  obtain ⟨x0, x1, x2⟩ := tr
                  have hx0 : (x0 : Int) < 256 := by have := hbk.1; simp at this; omega
                  have hx1 : (x1 : Int) < 256 := by have := hbk.2.1; simp at this; omega
                  have hx2 : (x2 : Int) < 256 := by have := hbk.2.2; simp at this; omega
                  have hlkI : (k : Int) < (r.arcs.length : Int) := by omega
                  have hm0 : (0 : Int) < (many : Int) := by omega
                  have hs0 : (0 : Int) < (sy : Int) := by omega
                  clear hbk hAa
                  by_cases h60 : k < 60
                  · have h60I : (k : Int) < 60 := by omega
                    go_wp2
                    all_goals first
                      | exact ⟨⟨k + 1, by go_num, by omega, .inr rfl⟩, by simp [intOf]; omega⟩
                      | exact ⟨⟨k + 1, by go_num, by omega, htv⟩, by simp [intOf]; omega⟩
                  · have h60I : ¬ (k : Int) < 60 := by omega
                    rcases htv with rfl | rfl
                    · go_wp2
                      exact ⟨⟨t + 1, xs, by go_num, by omega, Lib.hid HX.out.skip, hO⟩, by simp [intOf]; omega⟩
                    · have hxl := HX.out.len
                      have hown : W4.ownsRow W1.heap.size 3 1 u9 xs.length (xs.map (.int .i64)) := hO.get 0 rfl
                      have hsz := hO.ext.size
                      have HO := Lib.hid hO
                      clear hO
                      go_wp2_with (at_builtin; refine wpList_append_own2 rfl _ _ 31 rfl W1.heap.size 3 i3 (.int .i64 0) 1 8 Tryd.underlying31 hi3 hz3 hs3 hb3 rfl (by decide) u9 xs.length (xs.map (.int .i64)) rfl (World.ownsRow.alloc hown _) ⟨W4.heap.size, 0, none⟩ 1 1 [.int .i64 t] rfl rfl (new_cell _ _ _ _ rfl) (one_int _) (by unfold maxLen; omega) (by omega) (by simp; omega) ?_; intro v6 w6 hown6 hg6 hb6)
                      have hO6 := ints_snoc ((HO.out.trans (alloc_ext W4 (.cells #[.int .i64 t] 3))).app 0 rfl hg6 hown6 hb6)
                      exact ⟨⟨t + 1, xs ++ [(t : Int)], by go_num, by omega, Lib.hid HX.out.take, hO6⟩, by simp [intOf]; omega⟩
                · have hlkI : ¬ (k : Int) < (r.arcs.length : Int) := by omega
                  rcases htv with rfl | rfl
                  · go_wp2
                    exact ⟨⟨t + 1, xs, by go_num, by omega, Lib.hid HX.out.skip, hO⟩, by simp [intOf]; omega⟩
                  · have hxl := HX.out.len
                    have hown : W4.ownsRow W1.heap.size 3 1 u9 xs.length (xs.map (.int .i64)) := hO.get 0 rfl
                    have hsz := hO.ext.size
                    have HO := Lib.hid hO
                    clear hO
                    go_wp2_with (at_builtin; refine wpList_append_own2 rfl _ _ 31 rfl W1.heap.size 3 i3 (.int .i64 0) 1 8 Tryd.underlying31 hi3 hz3 hs3 hb3 rfl (by decide) u9 xs.length (xs.map (.int .i64)) rfl (World.ownsRow.alloc hown _) ⟨W4.heap.size, 0, none⟩ 1 1 [.int .i64 t] rfl rfl (new_cell _ _ _ _ rfl) (one_int _) (by unfold maxLen; omega) (by omega) (by simp; omega) ?_; intro v6 w6 hown6 hg6 hb6)
                    have hO6 := ints_snoc ((HO.out.trans (alloc_ext W4 (.cells #[.int .i64 t] 3))).app 0 rfl hg6 hown6 hb6)
                    exact ⟨⟨t + 1, xs ++ [(t : Int)], by go_num, by omega, Lib.hid HX.out.take, hO6⟩, by simp [intOf]; omega⟩
            · obtain rfl : t = many := by omega
              have hown9 : W4.ownsRow W1.heap.size 3 1 u9 xs.length (xs.map (.int .i64)) := hO.get 0 rfl
              obtain ⟨A9, c9, rfl⟩ := own_form hown9
              have hown : OwnRows W4 W1.heap.size 31 3 1 u7 vs2 (row.map iRow) := hO.get 1 rfl
              have hvl : vs2.length = a := by have := hown.len; rw [List.length_map, HW.out.1] at this; exact this
              have hown := hown.own
              have hsz := hO.ext.size
              have HO := Lib.hid hO
              have HVL := Lib.hid hvl
              have hv3 : vs2.length ≤ 3 := by omega
              clear hO hvl hown9
              go_wp2_with (at_builtin; refine wpList_append_own2 rfl _ _ 25 rfl W1.heap.size 31 i31 (.slice none 0 0) 1 24 Tryd.underlying25 hi31 hz31 hs31 hb31 rfl (by decide) u7 vs2.length vs2 rfl (World.ownsRow.alloc hown _) ⟨W4.heap.size, 0, none⟩ 1 1 [.slice A9 xs.length c9] rfl rfl (new_cell _ _ _ _ rfl) (one_slice _ _ _) (by unfold maxLen; omega) (by omega) (by simp; omega) ?_; intro v6 w6 hown6 hg6 hb6)
              have hO7 := (HO.out.trans (alloc_ext _ _)).push hg6 hown6 hb6
              have hO7 : OwnL W1 w6 [.rows 31 3 1 v6 (vs2 ++ [.slice A9 xs.length c9]) ((row ++ [xs]).map iRow), .row 25 1 rv s vs, .any S (fun W => DeepQ vs rows W ∧ TwoQ sv st av ac W), .blk b5 (.cells #[.int .i64 sy, rv, sv, av] 78)] := by rw [List.map_append]; exact hO7
              exact ⟨⟨a + 1, _, row ++ [xs], by go_num, by omega, Lib.hid ⟨by simp [HW.out.1], fun l hl => by
                rcases List.mem_append.1 hl with hl | hl
                · exact HW.out.2 l hl
                · rw [List.mem_singleton.1 hl]; exact HX.out⟩, hO7⟩, by simp [intOf]; omega⟩
        · obtain rfl : a = sy := by omega
          have hown : OwnRows W3 W1.heap.size 31 3 1 u7 vs2 (row.map iRow) := hO.get 0 rfl
          have hvl : vs2.length = a := by have := hown.len; rw [List.length_map, HW.out.1] at this; exact this
          obtain ⟨A7, c7, rfl⟩ := own_form hown.own
          rw [hvl] at hO
          have hrv : W3.ownsRow W1.heap.size 25 1 rv s vs := hO.get 1 rfl
          obtain ⟨Ar, cr, rfl⟩ := own_form hrv
          have d1 := cell_of_blk (hO.get 3 rfl).2 1 (u := .slice Ar s cr) rfl
          have d1 : ∀ w', Ext W3 w' → w'.cell? ⟨b5, 1, none⟩ = some (.slice Ar s cr) := fun w' h => h.cell d1
          have hE0 := Ext.refl W3
          have hsz := hO.ext.size
          have HO := Lib.hid hO
          have HVL := Lib.hid hvl
          rw [hvl]
          clear hO hvl hown
          go_wp2_with (at_builtin; refine wpList_append_own2 rfl _ _ 76 rfl W1.heap.size 25 i25 (.slice none 0 0) 1 24 Tryd.underlying76 hi25 hz25 hs25 hb25 rfl (by decide) (.slice Ar s cr) s vs rfl (World.ownsRow.alloc hrv _) ⟨W3.heap.size, 0, none⟩ 1 1 [.slice A7 a c7] rfl rfl (new_cell _ _ _ _ rfl) (one_slice _ _ _) (by unfold maxLen; omega) (by omega) (by simp; omega) ?_; intro v6 w6 hown6 hg6 hb6; obtain ⟨g6, c6, rfl⟩ := ownsRow_pos hown6 (by omega); have hO6 := (HO.out.trans (alloc_ext _ _)).app 1 rfl hg6 hown6 hb6; have d6 := cell_of_blk (hO6.get 3 rfl).2 1 (u := .slice Ar s cr) rfl; have f6 := free_of_blk (hO6.get 3 rfl).2 1; have HO6 := Lib.hid hO6; clear hO6 hb6)
          have hO7 := HO6.out.put 3 rfl 1 (.slice (some ⟨g6, 0, none⟩) (s + 1) c6)
          have hO7 : OwnL W1 (w6.setCell ⟨b5, 1, none⟩ (.slice (some ⟨g6, 0, none⟩) (s + 1) c6)) [.rows 31 3 1 (.slice A7 a c7) vs2 (row.map iRow), .row 25 1 (.slice (some ⟨g6, 0, none⟩) (s + 1) c6) (s + 1) (vs ++ [.slice A7 a c7]), .any S (fun W => DeepQ vs rows W ∧ TwoQ sv st av ac W), .blk b5 (.cells #[.int .i64 a, .slice (some ⟨g6, 0, none⟩) (s + 1) c6, sv, av] 78)] := hO7
          obtain ⟨S', hO8⟩ := deep_done hO7 (by rw [HW.out.1]) (by omega) (fun l hl => by have := (HW.out.2 l hl).len; omega) (by rw [HR.out.2.2, HR.out.2.1])
          exact ⟨⟨s + 1, _, _, rows ++ [row], S', by go_num, by omega, Lib.hid ⟨fun q hq => by
            rcases List.mem_append.1 hq with hq | hq
            · exact HR.out.1 q hq
            · rw [List.mem_singleton.1 hq]; exact HW.out, by simp [HR.out.2.1], by simp [HR.out.2.2]⟩, hO8⟩, by simp [intOf]; omega⟩
    · obtain rfl : s = many := by omega
      have hrv : W2.ownsRow W1.heap.size 25 1 rv s vs := hO.get 0 rfl
      obtain ⟨Ar, cr, rfl⟩ := own_form hrv
      have hQ := hO.know 1 rfl
      obtain ⟨⟨cs, Asv, rfl, -⟩, ⟨ca', Aav, rfl, -⟩⟩ := id hQ.2
      have d0 : ∀ w', Ext W2 w' → w'.cell? ⟨b5, 0, none⟩ = some (.int .i64 sy) := fun w' h => h.cell (cell_of_blk (hO.get 2 rfl).2 0 rfl)
      have d1 : ∀ w', Ext W2 w' → w'.cell? ⟨b5, 1, none⟩ = some (.slice Ar s cr) := fun w' h => h.cell (cell_of_blk (hO.get 2 rfl).2 1 rfl)
      have d2 : ∀ w', Ext W2 w' → w'.cell? ⟨b5, 2, none⟩ = some (.slice Asv st.length cs) := fun w' h => h.cell (cell_of_blk (hO.get 2 rfl).2 2 rfl)
      have d3 : ∀ w', Ext W2 w' → w'.cell? ⟨b5, 3, none⟩ = some (.slice Aav ac.length ca') := fun w' h => h.cell (cell_of_blk (hO.get 2 rfl).2 3 rfl)
      have hE0 := Ext.refl W2
      have hzz := heap_ext hO.ext HA.out.2.2.2.1
      have hlt2 := lt_of_block HA.out.2.2.2.1
      have HO := Lib.hid hO
      clear hO hrv hQ
      go_wp2_with (with_reducible refine wpList_store_blk _ rfl 78 _ _ rfl b2 78 _ _ rfl rfl hzz (by kernel_rfl) (by kernel_rfl) (by kernel_rfl) ?_; intro w8 h8 g8)
      refine bodyPost_ret (results_cell_row rfl _ _ b2 78 _ (0, 0) _ (by simp [Act.put]) h8 Tryd.underlying78 rfl (by kernel_rfl)) rfl ?_
      have hk : ∀ A ∈ _, Asn.ok W1.heap.size w8 A := fun A hA => Asn.of (HO.out.ok A hA) (fun b hb => g8.block b (Asn.lt (HO.out.ok A hA) hb).2 (fun e => by have := (Asn.lt (HO.out.ok A hA) hb).1; cases e; omega))
      have hrow : w8.ownsRow W1.heap.size 25 1 (.slice Ar s cr) s vs := hk _ (List.mem_cons_self ..)
      have hany := (hk (.any S (fun W => DeepQ vs rows W ∧ TwoQ (.slice Asv st.length cs) st (.slice Aav ac.length ca') ac W)) (by simp)).2 w8 (fun _ _ => rfl)
      obtain ⟨hq1, ⟨cs9, hq2⟩, ⟨ca9, hq3⟩⟩ := hany
      obtain ⟨A, c, hv, hle, hcs⟩ := cells_of_owns hrow
      cases hv
      have hl1 := HR.out.2.1
      have hl2 := HR.out.2.2
      refine ⟨_, ⟨sy, rows, st, ac⟩, rfl, ⟨_, cr, _, _, _, _, rfl, ?_, hq2, hq3⟩, ⟨by show 1 ≤ (sy : Int) ∧ (sy : Int) ≤ 3; omega, by show rows.length ≤ 6; omega, fun r hr => ?_, fun r hr l hl => ?_, ?_, ?_⟩, ?_, ?_⟩
      · exact ⟨Ar, vs, by rw [hl1], hcs, by rw [hl1, hl2], hq1, by rw [hl1]; exact hle, by rw [hl1]; unfold lenMax; omega⟩
      · have := (HR.out.1 r hr).1; show (r.length : Int) = (sy : Int); omega
      · show SubOf rows.length l; rw [hl1]; exact (HR.out.1 r hr).2 l hl
      · show SubOf rows.length st; rw [hl1]; exact HA.out.2.2.2.2.1
      · show SubOf rows.length ac; rw [hl1]; exact HA.out.2.2.2.2.2
      · show (sy : Int) = _; rw [HA.out.1]
      · exact Below.grown (HA.out.2.1.trans HO.out.ext) g8 (HA.out.2.1.trans HO.out.ext).size (fun k hk => by cases hk; exact HA.out.2.2.1)
end Go.Proofs.YthlnmcokgfpgmaaDoor

namespace Go.Proofs.YthlnmcokgfpgmaaDoor
open Go.RowKit Go.Maps
set_option linter.unusedVariables false
set_option linter.unusedSimpArgs false
attribute [local go_sem] Oper.quietV quietV Oper.gives givesV ext_refl_iff ext_alloc_iff ext_drew_iff ext_drewN_iff
def SomeF (N n : Nat) (v : Value) (w : World) : Prop := ∃ xs, SubOf n xs ∧ w.ownsRow N 3 1 v xs.length (xs.map (.int .i64))
theorem stays_someF (N n : Nat) : Stays Ext (SomeF N n) := fun v w w' hE ⟨xs, h1, h2⟩ => ⟨xs, h1, ownsRow_ext h2 hE⟩
theorem own_ne {w : World} {B e s n b t : Nat} {v : Value} {xs : List Value} {cs : Array Value} (h : w.ownsRow B e s v n xs) (hb : w.heap[b]? = some (.cells cs t (0, 0))) (ht : e ≠ t) : v.ownBlock ≠ some b := fun hv => by
  rcases h.2 with ⟨rfl, _⟩ | ⟨g, cap, cur, rfl, _, hg, _⟩
  · cases hv
  · cases hv
    rw [hb] at hg
    injection hg with hg
    injection hg with _ h2 _
    exact ht h2.symm
theorem two_any {W1 w : World} {sv av : Value} {st ac : List Int} (h1 : w.ownsRow W1.heap.size 3 1 sv st.length (st.map (.int .i64))) (h2 : w.ownsRow W1.heap.size 3 1 av ac.length (ac.map (.int .i64))) (l1 : st.length ≤ 100) (l2 : ac.length ≤ 100) :
    Asn.ok W1.heap.size w (.any (fun b => sv.ownBlock = some b ∨ av.ownBlock = some b) (fun W => DeepQ [] [] W ∧ TwoQ sv st av ac W)) := by
  refine ⟨fun b hb => hb.elim (h1.lt b) (h2.lt b), fun w' hw' => ⟨fun i u es h => by simp at h, ?_, ?_⟩⟩
  · exact ints_of_owns (ownsRow_of h1 (fun b hb => hw' b (.inl hb))) (by unfold lenMax; omega)
  · exact ints_of_owns (ownsRow_of h2 (fun b hb => hw' b (.inr hb))) (by unfold lenMax; omega)
theorem nOf_own {W2 w7 : World} {sv av : Value} {st ac : List Int} {b5 : Nat} {cs : Array Value} (hE : Ext W2 w7) (h1 : w7.ownsRow W2.heap.size 3 1 sv st.length (st.map (.int .i64))) (h2 : w7.ownsRow W2.heap.size 3 1 av ac.length (ac.map (.int .i64))) (l1 : st.length ≤ 100) (l2 : ac.length ≤ 100) (hb : W2.heap.size ≤ b5) (h7 : w7.heap[b5]? = some (.cells cs 78 (0, 0))) :
    OwnL W2 w7 [.row 25 1 (.slice none 0 0) 0 [], .any (fun b => sv.ownBlock = some b ∨ av.ownBlock = some b) (fun W => DeepQ [] [] W ∧ TwoQ sv st av ac W), .blk b5 (.cells cs 78 (0, 0))] := by
  refine ⟨hE, fun A hA => ?_, ?_⟩
  · simp only [List.mem_cons, List.not_mem_nil, or_false] at hA
    rcases hA with rfl | rfl | rfl
    · exact World.ownsRow_nil _ _ _ _
    · exact two_any h1 h2 l1 l2
    · exact ⟨hb, h7⟩
  · refine List.pairwise_cons.2 ⟨fun A hA b hb => (by cases hb), ?_⟩
    refine List.pairwise_cons.2 ⟨fun A hA b hb hb' => ?_, List.pairwise_singleton _ _⟩
    simp only [List.mem_cons, List.not_mem_nil, or_false] at hA
    subst hA
    cases hb'
    rcases hb with hb | hb
    · exact own_ne h1 h7 (by decide) hb
    · exact own_ne h2 h7 (by decide) hb
set_option maxRecDepth 100000 in
set_option maxHeartbeats 8000000 in
theorem nOf_any (w : World) (xv : Value) (r : RawN) (hx : RawNV w xv r) : Calls Tryd.prog 42 #[xv] w (OfP r w) := by
  obtain ⟨av, ca, rfl, ha, h0, h1, h3, h4⟩ := hx
  obtain ⟨Aa, rfl, hcel, hlc, hlen, hby⟩ := id ha
  unfold lenMax at hlen
  go_enter Tryd.func42, Tryd.ntmps42
  go_upto_region 1 with fail
  refine wp_named ?_
  intro W1 hW1
  have hE1 : Ext w W1 := by rw [hW1]; exact ((Ext.refl _).alloc _).alloc _
  have k0 : ∀ w', Ext W1 w' → w'.cell? ⟨w.heap.size, 0, none⟩ = some (.int .u8 r.sy) := fun w' h => h.cell (by rw [hW1]; simp [go_sem])
  have k1 : ∀ w', Ext W1 w' → w'.cell? ⟨w.heap.size, 1, none⟩ = some (.int .u8 r.many) := fun w' h => h.cell (by rw [hW1]; simp [go_sem])
  have k2 : ∀ w', Ext W1 w' → w'.cell? ⟨w.heap.size, 2, none⟩ = some (.slice Aa r.arcs.length ca) := fun w' h => h.cell (by rw [hW1]; simp [go_sem])
  have k3 : ∀ w', Ext W1 w' → w'.cell? ⟨w.heap.size, 3, none⟩ = some (.int .u8 r.st) := fun w' h => h.cell (by rw [hW1]; simp [go_sem])
  have k4 : ∀ w', Ext W1 w' → w'.cell? ⟨w.heap.size, 4, none⟩ = some (.int .u8 r.ac) := fun w' h => h.cell (by rw [hW1]; simp [go_sem])
  have kb : W1.heap[w.heap.size + 1]? = some (.cells #[.int .i64 0, .slice none 0 0, .slice none 0 0, .slice none 0 0] 78 (0, 0)) := by
    rw [hW1]; have h9 := heap_alloc_new (w.alloc (.cells #[.int .u8 r.sy, .int .u8 r.many, .slice Aa r.arcs.length ca, .int .u8 r.st, .int .u8 r.ac] 24)) (.cells #[.int .i64 0, .slice none 0 0, .slice none 0 0, .slice none 0 0] 78 (0, 0)); simpa using h9
  have HB := Lib.hid (show w.heap.size ≤ w.heap.size + 1 by omega)
  clear hW1
  generalize w.heap.size + 1 = b2 at *
  generalize hb1 : w.heap.size = b1 at *
  have hE0 := Ext.refl W1
  have h0I : (r.sy : Int) < 256 := by omega
  have h1I : (r.many : Int) < 256 := by omega
  go_quiet (fail)
  go_upto_region 2 with fail
  have e1 : (1 + (r.sy : Int) % 3) = ((1 + r.sy % 3 : Nat) : Int) := by omega
  have e2 : ((r.many : Int) % 7) = ((r.many % 7 : Nat) : Int) := by omega
  rw [e1, e2]
  obtain ⟨sy, hsy⟩ : ∃ n, n = 1 + r.sy % 3 := ⟨_, rfl⟩
  obtain ⟨many, hm⟩ : ∃ n, n = r.many % 7 := ⟨_, rfl⟩
  rw [← hsy, ← hm]
  have hm6 : many ≤ 6 := by omega
  have HS := Lib.hid hsy
  clear e1 e2 hsy hm h0I h1I hE0
  refine wp_named ?_
  intro W2 hW2
  have hE2 : Ext W1 W2 := by rw [hW2]; exact (Ext.refl _).drewN _
  clear hW2
  have k0 := fun w' (h : Ext W2 w') => k0 w' (hE2.trans h)
  have k1 := fun w' (h : Ext W2 w') => k1 w' (hE2.trans h)
  have k2 := fun w' (h : Ext W2 w') => k2 w' (hE2.trans h)
  have k3 := fun w' (h : Ext W2 w') => k3 w' (hE2.trans h)
  have k4 := fun w' (h : Ext W2 w') => k4 w' (hE2.trans h)
  have kb := heap_ext hE2 kb
  have hE0 := Ext.refl W2
  refine wp_region_ext 11 (factsOf [(4, SomeF W2.heap.size many), (8, SomeF W2.heap.size many), (10, Fresh W2.heap.size #[.int .i64 0, .slice none 0 0, .slice none 0 0, .slice none 0 0] 78)]) (fun k => ([[], [], [1], [], [1, 2, 3], [], [5], [], [1, 2, 3, 4, 5, 6, 7], [0, 1, 2, 3, 4, 5, 6, 7, 8], [], [0, 1, 2, 3, 4, 5, 6, 7, 8, 9, 10]] : List (List Nat)).getD k []) (by kernel_rfl) (by kernel_rfl) Ext.pre (mono_cons (stays_someF _ _) (mono_cons (stays_someF _ _) (mono_cons (stays_fresh _ _ _) (mono_nil)))) ?_
  simp only [List.take_succ_cons, List.take_zero]
  repeat (first | (with_reducible refine lexL_quiet' (v := ?_) ?_ ?_ ?_ ?_; rotate_left; (· with_reducible rfl); (· simp [factsOf]); (· intro w1 hw1 _; go_simp; with_reducible rfl); (try simp only [Act.put, List.setIfInBounds_toArray, List.set_cons_zero, List.set_cons_succ])) | (with_reducible refine lexL_skip ?_ ?_; (· simp [Region.wanted, yielded, undef]); (try simp only [Act.put, List.setIfInBounds_toArray, List.set_cons_zero, List.set_cons_succ])) | (with_reducible refine lexL_quiet (v := ?_) ?_ ?_ ?_ ?_; rotate_left; (· simp [Region.wanted, yielded, undef]); (· simp [factsOf]); (· intro w1 hw1 _; go_simp; with_reducible rfl); (try simp only [Act.put, List.setIfInBounds_toArray, List.set_cons_zero, List.set_cons_succ])))
  with_reducible refine lexL_give' (φ := ?_) ?_ ?_ ?_ ?_; rotate_left; (· with_reducible rfl); (· simp only [factsOf, Nat.reduceAdd, ↓reduceIte, Nat.reduceEqDiff]; rfl)
  · intro w2' hw2' _
    go_simp
    refine (some_any w2' r.st many h3 (by omega)).mono ?_
    rintro e w3' ⟨v, xs, rfl, hs, ho, he⟩
    exact ⟨_, rfl, he, xs, hs, own_mono ho hw2'.size⟩
  rintro v4 w2' hw2' h4' hk2
  obtain ⟨xs4, _, ho4⟩ := h4'
  obtain ⟨A4, c4, rfl⟩ := own_form ho4
  clear hk2 hw2' ho4 w2'
  (try simp only [Act.put, List.setIfInBounds_toArray, List.set_cons_zero, List.set_cons_succ])
  repeat (first | (with_reducible refine lexL_quiet' (v := ?_) ?_ ?_ ?_ ?_; rotate_left; (· with_reducible rfl); (· simp [factsOf]); (· intro w1 hw1 _; go_simp; with_reducible rfl); (try simp only [Act.put, List.setIfInBounds_toArray, List.set_cons_zero, List.set_cons_succ])) | (with_reducible refine lexL_skip ?_ ?_; (· simp [Region.wanted, yielded, undef]); (try simp only [Act.put, List.setIfInBounds_toArray, List.set_cons_zero, List.set_cons_succ])) | (with_reducible refine lexL_quiet (v := ?_) ?_ ?_ ?_ ?_; rotate_left; (· simp [Region.wanted, yielded, undef]); (· simp [factsOf]); (· intro w1 hw1 _; go_simp; with_reducible rfl); (try simp only [Act.put, List.setIfInBounds_toArray, List.set_cons_zero, List.set_cons_succ])))
  with_reducible refine lexL_give' (φ := ?_) ?_ ?_ ?_ ?_; rotate_left; (· with_reducible rfl); (· simp only [factsOf, Nat.reduceAdd, ↓reduceIte, Nat.reduceEqDiff]; rfl)
  · intro w2' hw2' _
    go_simp
    refine (some_any w2' r.ac many h4 (by omega)).mono ?_
    rintro e w3' ⟨v, xs, rfl, hs, ho, he⟩
    exact ⟨_, rfl, he, xs, hs, own_mono ho hw2'.size⟩
  rintro v8 w2' hw2' h8' hk2
  obtain ⟨xs8, _, ho8⟩ := h8'
  obtain ⟨A8, c8, rfl⟩ := own_form ho8
  clear hk2 hw2' ho8 w2'
  (try simp only [Act.put, List.setIfInBounds_toArray, List.set_cons_zero, List.set_cons_succ])
  repeat (first | (with_reducible refine lexL_quiet' (v := ?_) ?_ ?_ ?_ ?_; rotate_left; (· with_reducible rfl); (· simp [factsOf]); (· intro w1 hw1 _; go_simp; with_reducible rfl); (try simp only [Act.put, List.setIfInBounds_toArray, List.set_cons_zero, List.set_cons_succ])) | (with_reducible refine lexL_skip ?_ ?_; (· simp [Region.wanted, yielded, undef]); (try simp only [Act.put, List.setIfInBounds_toArray, List.set_cons_zero, List.set_cons_succ])) | (with_reducible refine lexL_quiet (v := ?_) ?_ ?_ ?_ ?_; rotate_left; (· simp [Region.wanted, yielded, undef]); (· simp [factsOf]); (· intro w1 hw1 _; go_simp; with_reducible rfl); (try simp only [Act.put, List.setIfInBounds_toArray, List.set_cons_zero, List.set_cons_succ])))
  with_reducible refine lexL_give' (φ := ?_) ?_ ?_ ?_ ?_; rotate_left; (· with_reducible rfl); (· simp only [factsOf, Nat.reduceAdd, ↓reduceIte, Nat.reduceEqDiff]; rfl)
  · intro w2' hw2' _
    go_simp
    exact (fresh_alloc _ _ _ _ hw2'.size).2
  rintro v9 w2' hw2' ⟨b5, rfl, hb5, hblk5⟩ hk2
  clear hk2 hw2' hblk5 w2'
  (try simp only [Act.put, List.setIfInBounds_toArray, List.set_cons_zero, List.set_cons_succ])
  with_reducible refine lexL_nil ?_; intro w1 hw1 hk1; simp only [List.drop_succ_cons, List.drop_zero]
  obtain ⟨st, hst, hos⟩ := hk1.get 4 rfl rfl
  obtain ⟨ac, hac, hoa⟩ := hk1.get 8 rfl rfl
  obtain ⟨c5, h5, g5, hB5⟩ := hk1.get 10 rfl rfl
  obtain rfl : c5 = b5 := by cases h5; rfl
  clear hk1 h5
  go_upto_region 999 with (first
    | (with_reducible refine stop_at2 3 ?_)
    | (with_reducible refine wpList_store_blk _ rfl 78 _ _ rfl c5 78 _ _ rfl rfl hB5 (by kernel_rfl) (by kernel_rfl) (by kernel_rfl) ?_; intro w7 h7 g7))
  refine ⟨?_⟩
  have hkeep : ∀ (v : Value) (n : Nat) (xs : List Value), w1.ownsRow W2.heap.size 3 1 v n xs → w7.ownsRow W2.heap.size 3 1 v n xs := fun v n xs h => ownsRow_of h (fun b hb => g7.block b (h.lt b hb).2 (fun e => own_ne h hB5 (by decide) (hb.trans e)))
  have hE7 : Ext W2 w7 := Below.grown hw1 g7 hw1.size (fun k hk => by cases hk; exact hb5)
  have hO := nOf_own hE7 (hkeep _ _ _ hos) (hkeep _ _ _ hoa) (by have := hst.len; omega) (by have := hac.len; omega) hb5 h7
  exact nOf_t3 w W2 w7 r b1 b2 c5 sy many Aa ca _ _ st ac _ _ _ _ _ _ _ _ _ _ _ _ _ _ _ _ _ _ _ _ _ _ _ _ _ _ _ _ _ _ _ _ _ _ _ _ _ _ _ _ _ _ _ _ _ _ _ _ _ _ _ _ _ _ _ _ _ _ _ _ _ _ _ _ _ _ _ _ _ _ _ _ _ _ _ _ _ _ _ _ _ _ _ _ _ _ _ _ _ _ _ _ _ _ _ _ _ _ _ _ _ _ _ _ _ _ _ _ HS.out hm6 (hE1.trans hE2) (hb1 ▸ HB.out) kb k2 (ha.ext (hE1.trans hE2)) hst hac hO
end Go.Proofs.YthlnmcokgfpgmaaDoor

namespace Go.Proofs.YthlnmcokgfpgmaaDoor
open Go.RowKit Go.Maps
set_option linter.unusedVariables false
set_option linter.unusedSimpArgs false
attribute [local go_sem] Oper.quietV quietV Oper.gives givesV ext_refl_iff ext_alloc_iff ext_drew_iff ext_drewN_iff
set_option maxRecDepth 100000 in
set_option maxHeartbeats 8000000 in
theorem step_any (w : World) (xv fv : Value) (x : Nfa) (fr : List Int) (cf a : Nat) (hx : NfaV w xv x) (hg : GoodN x) (hf : IntsC w fv fr cf) (hfr : ∀ y ∈ fr, 0 ≤ y ∧ y < x.rows.length) (ha : (a : Int) < x.sy) :
    Calls Tryd.prog 58 #[xv, fv, .int .i64 a] w (SomeP x.rows.length w) := by
  obtain ⟨i3, hi3, hz3, hs3, hb3⟩ := info_parts int_info
  obtain ⟨rv, cr, sv, cs, av, ca, rfl, hr, h1, h2⟩ := hx
  obtain ⟨Ar, vr, rfl, _, _, _, _, hrm⟩ := id hr
  obtain ⟨As, rfl, _⟩ := id h1
  obtain ⟨Aa, rfl, _⟩ := id h2
  obtain ⟨Af, rfl, hfc, _, hfm⟩ := id hf
  unfold lenMax at hrm hfm
  have hs6 := hg.size
  have HG := Lib.hid (And.intro hg.sy (And.intro hg.len (And.intro hg.sub (And.intro hfr ha))))
  clear hg h1 h2 hfr
  go_enter Tryd.func58, Tryd.ntmps58
  go_upto_region 1 with fail
  refine wp_named ?_
  intro W1 hW1
  have hE1 : Ext w W1 := by rw [hW1]; exact (Ext.refl _).alloc _
  have k1 : ∀ w', Ext W1 w' → w'.cell? ⟨w.heap.size, 1, none⟩ = some (.slice Ar x.rows.length cr) := fun w' h => h.cell (by rw [hW1]; simp [go_sem])
  clear hW1
  generalize hb1 : w.heap.size = b1 at *
  go_wp2
  go_loopw [7, 8] (fun v iv wr => ∃ (s : Nat) (xs : List Int), iv = .int .i64 s ∧ s ≤ x.rows.length ∧ Hid (SubOf s xs) ∧ OwnL W1 wr [.row 3 1 v xs.length (xs.map (.int .i64))]) (fun _ iv _ => x.rows.length - (intOf iv).toNat)
  case atStart => exact ⟨0, [], rfl, by omega, Lib.hid SubOf.zero, (OwnL.nil (Ext.refl W1)).add (Ext.refl W1) (A := .row 3 1 (.slice none 0 0) 0 []) (World.ownsRow_nil _ _ _ _)⟩
  case round =>
    obtain ⟨s, xs, rfl, hs, HX, hO⟩ := hrel
    obtain ⟨W4, hW4⟩ : ∃ W, W = wr := ⟨_, rfl⟩; subst hW4
    have kk := k1 W4 hO.ext
    by_cases hlt : s < x.rows.length
    · have hsI : (s : Int) < (x.rows.length : Int) := by omega
      go_wp2
      go_loopw [9, 10] (fun tv iv wr => ∃ k : Nat, iv = .int .i64 k ∧ k ≤ fr.length ∧ (tv = .int .i64 0 ∨ tv = .int .i64 1) ∧ Ext W4 wr) (fun _ iv _ => fr.length - (intOf iv).toNat)
      case atStart => exact ⟨0, rfl, by omega, .inl rfl, Ext.refl _⟩
      case round =>
        obtain ⟨k, rfl, hk, htv, hE⟩ := hrel
        obtain ⟨W5, hW5⟩ : ∃ W, W = wr := ⟨_, rfl⟩; subst hW5
        have hE5 : Ext W1 W5 := hO.ext.trans hE
        have hE5w := hE1.trans hE5
        by_cases hlk : k < fr.length
        · have hlkI : (k : Int) < (fr.length : Int) := by omega
          obtain ⟨bf, of, hAf, _, cf0⟩ := (hfc.ext hE5w).at_int hlk
          obtain ⟨y, hy⟩ : ∃ y : Nat, fr[k] = (y : Int) ∧ y < x.rows.length := by
            have := HG.out.2.2.2.1 _ (List.getElem_mem hlk)
            exact ⟨fr[k].toNat, by omega, by omega⟩
          obtain ⟨br, or, ur, c', hv, _, cr0, hur⟩ := (hr.ext hE5w).at_ hy.2
          have hrl := HG.out.2.1 _ (List.getElem_mem hy.2)
          have hal : a < x.rows[y].length := by have := HG.out.2.2.2.2; omega
          obtain ⟨bl, ol, ul, c2, hv2, _, cl0, hul⟩ := hur.at_ hal
          subst hv2
          rw [hy.1] at cf0
          injection hv with hv
          have kk := k1 W5 hE5
          rw [hv] at kk
          rw [hAf]
          have hyI : (y : Int) < (x.rows.length : Int) := by omega
          have halI : (a : Int) < (x.rows[y].length : Int) := by omega
          have hlm : x.rows[y].length ≤ 3 := by have := HG.out.1; omega
          have hHas : ∀ n, Calls Tryd.prog 59 #[ul, .int .i64 s] (W5.drewN n) fun e w' => e = .returned (.int .i64 (b01 (hasL x.rows[y][a] s))) ∧ w' = W5.drewN n := fun n => (has_any (W5.drewN n) ul _ c2 s (hul.ext ((Ext.refl _).drewN n))).mono fun e w' h => ⟨h.1, h.2.symm⟩
          obtain ⟨Aul, rfl, _⟩ := id hul
          generalize x.rows[y][a] = lst at *
          generalize x.rows[y].length = n2 at *
          clear hfc hul hur hrl hy hAf
          generalize hb : hasL lst ↑s = hb at *
          clear hb
          rcases htv with rfl | rfl <;> cases hb <;> simp only [b01, if_true, if_false, Bool.false_eq_true] at hHas
          all_goals
            go_upto_region 9 with fail
            go_quiet ((go_at_call 59; exact Calls.quiet_of_same (hHas _)))
            go_wp2
            go_roundw
            case rel => exact ⟨k + 1, by go_num, by omega, by first | exact .inl rfl | exact .inr rfl, hE.drewN _⟩
            case measure => simp [intOf]; omega
        · have hlkI : ¬ (k : Int) < (fr.length : Int) := by omega
          have hO := hO.trans hE
          rcases htv with rfl | rfl
          · go_wp2
            exact ⟨⟨s + 1, xs, by go_num, by omega, Lib.hid HX.out.skip, hO⟩, by simp [intOf]; omega⟩
          · have hxl := HX.out.len
            have hown : W5.ownsRow W1.heap.size 3 1 u7 xs.length (xs.map (.int .i64)) := hO.get 0 rfl
            have hsz := hO.ext.size
            have HO := Lib.hid hO
            clear hO
            go_wp2_with (at_builtin; refine wpList_append_own2 rfl _ _ 31 rfl W1.heap.size 3 i3 (.int .i64 0) 1 8 Tryd.underlying31 hi3 hz3 hs3 hb3 rfl (by decide) u7 xs.length (xs.map (.int .i64)) rfl (World.ownsRow.alloc hown _) ⟨W5.heap.size, 0, none⟩ 1 1 [.int .i64 s] rfl rfl (new_cell _ _ _ _ rfl) (one_int _) (by unfold maxLen; omega) (by omega) (by simp; omega) ?_; intro v6 w6 hown6 hg6 hb6)
            have hO6 := ints_snoc ((HO.out.trans (alloc_ext W5 (.cells #[.int .i64 s] 3))).app 0 rfl hg6 hown6 hb6)
            exact ⟨⟨s + 1, xs ++ [(s : Int)], by go_num, by omega, Lib.hid HX.out.take, hO6⟩, by simp [intOf]; omega⟩
    · obtain rfl : s = x.rows.length := by omega
      go_wp2
      go_ret
      have hown : W4.ownsRow W1.heap.size 3 1 u7 xs.length (xs.map (.int .i64)) := hO.get 0 rfl
      exact ⟨u7, xs, rfl, HX.out, own_mono hown hE1.size, hE1.trans hO.ext⟩
end Go.Proofs.YthlnmcokgfpgmaaDoor

namespace Go.Proofs.YthlnmcokgfpgmaaDoor
open Go.RowKit Go.Maps
set_option linter.unusedVariables false
set_option linter.unusedSimpArgs false
attribute [local go_sem] Oper.quietV quietV Oper.gives givesV ext_refl_iff ext_alloc_iff ext_drew_iff ext_drewN_iff
noncomputable def T41 (n : Nat) : Code := textR n Tryd.f41.body
def SetsQ (W1 : World) (vs : List Value) (sets : List (List Int)) (W : World) : Prop := Ext W1 W → ∀ (j : Nat) (u : Value) (l : List Int), vs[j]? = some u → sets[j]? = some l → ∃ c, IntsC W u l c
theorem SetsQ.snoc {W1 W : World} {vs : List Value} {sets : List (List Int)} {u : Value} {l : List Int} (h : SetsQ W1 vs sets W) (hl : vs.length = sets.length) (hu : ∃ c, IntsC W u l c) : SetsQ W1 (vs ++ [u]) (sets ++ [l]) W := fun hE i x es hx hes => by
  by_cases hi : i < vs.length
  · rw [List.getElem?_append_left hi] at hx
    rw [List.getElem?_append_left (by omega)] at hes
    exact h hE i x es hx hes
  · have hil := (List.getElem?_eq_some_iff.1 hx).1
    simp at hil
    obtain rfl : i = vs.length := by omega
    rw [List.getElem?_append_right (Nat.le_refl _), Nat.sub_self] at hx
    rw [hl, List.getElem?_append_right (Nat.le_refl _), Nat.sub_self] at hes
    cases hx; cases hes
    exact hu
structure DetI (n sy : Nat) (sets : List (List Int)) (vs : List Value) (rows : List (List Int)) (acc : List Bool) (i : Nat) : Prop where
  nodup : sets.Nodup
  sub : ∀ l ∈ sets, SubOf n l
  vl : vs.length = sets.length
  rl : rows.length = i
  al : acc.length = i
  row : ∀ r ∈ rows, r.length = sy ∧ ∀ y ∈ r, 0 ≤ y ∧ y < (sets.length : Int)
theorem DetI.bound {n sy : Nat} {sets : List (List Int)} {vs : List Value} {rows : List (List Int)} {acc : List Bool} {i : Nat} (h : DetI n sy sets vs rows acc i) (hn : n ≤ 6) : sets.length ≤ 64 := by
  have h1 := subs_bound h.nodup h.sub
  have h2 : 2 ^ n ≤ 2 ^ 6 := Nat.pow_le_pow_right (by omega) hn
  omega
theorem DetI.add {n sy : Nat} {sets : List (List Int)} {vs : List Value} {rows : List (List Int)} {acc : List Bool} {i : Nat} (h : DetI n sy sets vs rows acc i) {tl : List Int} (hn : tl ∉ sets) (hs : SubOf n tl) (v : Value) : DetI n sy (sets ++ [tl]) (vs ++ [v]) rows acc i :=
  ⟨by
    rw [List.nodup_append]
    refine ⟨h.nodup, by simp, fun a ha b hb e => ?_⟩
    rw [List.mem_singleton.1 hb] at e
    exact hn (e ▸ ha), fun l hl => by
    rcases List.mem_append.1 hl with hl | hl
    · exact h.sub l hl
    · rw [List.mem_singleton.1 hl]; exact hs, by simp [h.vl], h.rl, h.al, fun r hr => ⟨(h.row r hr).1, fun y hy => by
    have := (h.row r hr).2 y hy
    simp; omega⟩⟩
theorem DetI.next {n sy : Nat} {sets : List (List Int)} {vs : List Value} {rows : List (List Int)} {acc : List Bool} {i : Nat} (h : DetI n sy sets vs rows acc i) {r : List Int} (hr : r.length = sy) (hy : ∀ y ∈ r, 0 ≤ y ∧ y < (sets.length : Int)) (g : Bool) : DetI n sy sets vs (rows ++ [r]) (acc ++ [g]) (i + 1) :=
  ⟨h.nodup, h.sub, h.vl, by simp [h.rl], by simp [h.al], fun q hq => by
    rcases List.mem_append.1 hq with hq | hq
    · exact h.row q hq
    · rw [List.mem_singleton.1 hq]; exact ⟨hr, hy⟩⟩
theorem perm3 {α : Type} (a b c : α) (l : List α) : (a :: b :: c :: l).Perm (c :: a :: b :: l) := (List.Perm.cons a (List.Perm.swap c b l)).trans (List.Perm.swap c a (b :: l))
theorem set_done {W1 W : World} {A : Option Addr} {c a m : Nat} {tl : List Int} {rv sv : Value} {rs : List Value} {vs : List Value} {sets : List (List Int)} {S : Nat → Prop} {L : List Asn}
    (h : OwnL W1 W (.row 3 1 (.slice A tl.length c) tl.length (tl.map (.int .i64)) :: .row 3 1 rv a rs :: .row 31 1 sv m (vs ++ [.slice A tl.length c]) :: .any S (SetsQ W1 vs sets) :: L)) (hl : vs.length = sets.length) (hn : tl.length ≤ 100) :
    ∃ S', OwnL W1 W (.row 3 1 rv a rs :: .row 31 1 sv m (vs ++ [.slice A tl.length c]) :: .any S' (SetsQ W1 (vs ++ [.slice A tl.length c]) (sets ++ [tl])) :: L) := by
  have h1 := h.seal (Φ := fun W => ∃ c', IntsC W (.slice A tl.length c) tl c') (fun W' hA => ints_of_owns hA (by unfold lenMax; omega))
  have h2 := (h1.perm (.cons _ (perm3 _ _ _ _))).merge
  have h3 := h2.weaken (Φ' := SetsQ W1 (vs ++ [.slice A tl.length c]) (sets ++ [tl])) (fun W hW => hW.2.snoc hl hW.1)
  exact ⟨_, h3.perm (perm3 _ _ _ _).symm⟩
theorem push_at {w W W' : World} {L : List Asn} {e1 e2 s2 n m : Nat} {x v v' : Value} {xs : List Value} {vs : List Value} {rs : List (Nat × List Value)} (h : OwnL w W (.row e2 s2 x n xs :: .rows e1 e2 s2 v vs rs :: L)) (hm : vs.length = m) (hg : W.grownBy W' v.ownBlock)
    (h4 : W'.ownsRow w.heap.size e1 1 v' (m + 1) (vs ++ [x])) (hb : ∀ b, v'.ownBlock = some b → v.ownBlock = some b ∨ W.heap.size ≤ b) : OwnL w W' (.rows e1 e2 s2 v' (vs ++ [x]) (rs ++ [(n, xs)]) :: L) := by
  subst hm
  exact h.push hg h4 hb
def DetP (x : Nfa) (w : World) (e : Ending) (w' : World) : Prop := ∃ v d, e = .returned v ∧ (∀ w2 : World, (∀ b, w.heap.size ≤ b → b < w'.heap.size → w2.heap[b]? = w'.heap[b]?) → DfaV w2 v d) ∧ Good d ∧ d.sy = x.sy ∧ d.n ≤ 64 ∧ Ext w w'
set_option maxRecDepth 100000 in
set_option maxHeartbeats 16000000 in
theorem det_t3 (w W1 W : World) (x : Nfa) (b1 b2 b4 g0 sy : Nat) (Ar As Aa : Option Addr) (cr cs ca : Nat) (c0 c5 c6 c7 c8 c9 c10 c11 c12 c13 c14 c15 c16 c17 c18 c19 c20 c21 c22 c23 c24 c25 c26 c27 c28 c29 c30 c31 c32 c33 c34 c35 c36 c37 c38 c39 c40 c41 c42 c43 c44 c45 c46 c47 c48 c49 c50 c51 c52 c53 c54 c55 c56 c57 c58 c59 c60 c61 c62 c63 c64 c65 c66 c67 c68 c69 c70 c71 c72 c73 c74 c75 c76 c77 c78 c79 c80 c81 c82 c83 c84 c85 c86 c87 c88 c89 c90 c91 c92 c93 c94 c95 c96 c97 c98 c99 : Value)
    (hx : NfaV W1 (.agg #[.int .i64 sy, .slice Ar x.rows.length cr, .slice As x.st.length cs, .slice Aa x.ac.length ca]) x) (hIv : IntsC W1 (.slice Aa x.ac.length ca) x.ac ca) (hsy : Hid (x.sy = (sy : Int))) (hg : GoodN x) (hE1 : Ext w W1) (hb2 : w.heap.size ≤ b2) (hz2 : W1.heap[b2]? = some (.cells #[.int .i64 0, .slice none 0 0, .slice none 0 0] 28 (0, 0)))
    (k0 : ∀ w', Ext W1 w' → w'.cell? ⟨b1, 0, none⟩ = some (.int .i64 sy)) (k1 : ∀ w', Ext W1 w' → w'.cell? ⟨b1, 1, none⟩ = some (.slice Ar x.rows.length cr)) (k2 : ∀ w', Ext W1 w' → w'.cell? ⟨b1, 2, none⟩ = some (.slice As x.st.length cs)) (k3 : ∀ w', Ext W1 w' → w'.cell? ⟨b1, 3, none⟩ = some (.slice Aa x.ac.length ca))
    (hO : OwnL W1 W [.row 31 1 (.slice (some ⟨g0, 0, none⟩) 1 1) 1 [.slice As x.st.length cs], .any (fun _ => False) (SetsQ W1 [.slice As x.st.length cs] [x.st]), .rows 31 3 1 (.slice none 0 0) [] ([].map iRow), .row 4 1 (.slice none 0 0) 0 ([].map .bool), .blk b4 (.cells #[.int .i64 sy, .slice none 0 0, .slice none 0 0] 28 (0, 0))]) :
    Code.wp Tryd.prog (T41 3) (bodyPost Tryd.prog Tryd.f41 (DetP x w)) ⟨(c0 :: .pointer (some ⟨b1, 0, none⟩) :: .pointer (some ⟨b2, 0, none⟩) :: .slice (some ⟨g0, 0, none⟩) 1 1 :: .pointer (some ⟨b4, 0, none⟩) :: c5 :: c6 :: c7 :: c8 :: c9 :: c10 :: c11 :: c12 :: c13 :: c14 :: c15 :: c16 :: c17 :: c18 :: c19 :: c20 :: c21 :: c22 :: c23 :: c24 :: c25 :: c26 :: c27 :: c28 :: c29 :: c30 :: c31 :: c32 :: c33 :: c34 :: c35 :: c36 :: c37 :: c38 :: c39 :: c40 :: c41 :: c42 :: c43 :: c44 :: c45 :: c46 :: c47 :: c48 :: c49 :: c50 :: c51 :: c52 :: c53 :: c54 :: c55 :: c56 :: c57 :: c58 :: c59 :: c60 :: c61 :: c62 :: c63 :: c64 :: c65 :: c66 :: c67 :: c68 :: c69 :: c70 :: c71 :: c72 :: c73 :: c74 :: c75 :: c76 :: c77 :: c78 :: c79 :: c80 :: c81 :: c82 :: c83 :: c84 :: c85 :: c86 :: c87 :: c88 :: c89 :: c90 :: c91 :: c92 :: c93 :: c94 :: c95 :: c96 :: c97 :: c98 :: c99 :: []).toArray, []⟩ W := by
  obtain ⟨i3, hi3, hz3, hs3, hb3⟩ := info_parts int_info
  obtain ⟨i4, hi4, hz4, hs4, hb4'⟩ := info_parts bool_info
  obtain ⟨i31, hi31, hz31, hs31, hb31⟩ := info_parts ints_info
  have hs6 := hg.size
  have hsy3 : 1 ≤ sy ∧ sy ≤ 3 := by have h1 := hg.sy; have h2 := hsy.out; omega
  have HA := Lib.hid (And.intro hE1 (And.intro hb2 (And.intro hz2 (And.intro hg hx))))
  clear hE1 hb2 hz2
  conv => arg 2; whnf
  go_wp2
  go_loopw [3, 5] (fun sv iv wr => ∃ (i m : Nat) (cS gs : Nat) (vs : List Value) (sets : List (List Int)) (S : Nat → Prop) (rowsv accv : Value) (vsr : List Value) (rows : List (List Int)) (acc : List Bool), iv = .int .i64 i ∧ sv = .slice (some ⟨gs, 0, none⟩) m cS ∧ i ≤ m ∧ 1 ≤ m ∧ m ≤ 64 ∧ Hid (sets.length = m) ∧ Hid (DetI x.rows.length sy sets vs rows acc i) ∧
    OwnL W1 wr [.row 31 1 (.slice (some ⟨gs, 0, none⟩) m cS) m vs, .any S (SetsQ W1 vs sets), .rows 31 3 1 rowsv vsr (rows.map iRow), .row 4 1 accv i (acc.map .bool), .blk b4 (.cells #[.int .i64 sy, rowsv, accv] 28 (0, 0))]) (fun _ iv _ => 64 - (intOf iv).toNat)
  case atStart => exact ⟨0, 1, 1, g0, [.slice As x.st.length cs], [x.st], _, _, _, [], [], [], rfl, rfl, by omega, by omega, by omega, Lib.hid rfl, Lib.hid ⟨by simp, fun l hl => by rw [List.mem_singleton.1 hl]; exact hg.st, rfl, rfl, rfl, fun r hr => by simp at hr⟩, hO⟩
  case round =>
    clear hO
    obtain ⟨i, m, cS, gs, vs, sets, S, rowsv, accv, vsr, rows, acc, rfl, rfl, him, hm1, hm64, HM, HI, hO⟩ := hrel
    obtain ⟨W2, hW2⟩ : ∃ W, W = wr := ⟨_, rfl⟩; subst hW2
    by_cases hlt : i < m
    · have hltI : (i : Int) < (m : Int) := by omega
      go_wp2
      go_loopw [3, 6, 7] (fun sv rwv iv wr => ∃ (a m : Nat) (cS gs : Nat) (vs : List Value) (sets : List (List Int)) (S : Nat → Prop) (rw_ : List Int), iv = .int .i64 a ∧ sv = .slice (some ⟨gs, 0, none⟩) m cS ∧ i < m ∧ m ≤ 64 ∧ a ≤ sy ∧ Hid (sets.length = m) ∧ Hid (DetI x.rows.length sy sets vs rows acc i ∧ rw_.length = a ∧ ∀ y ∈ rw_, 0 ≤ y ∧ y < (m : Int)) ∧
        OwnL W1 wr [.row 3 1 rwv a (rw_.map (.int .i64)), .row 31 1 (.slice (some ⟨gs, 0, none⟩) m cS) m vs, .any S (SetsQ W1 vs sets), .rows 31 3 1 rowsv vsr (rows.map iRow), .row 4 1 accv i (acc.map .bool), .blk b4 (.cells #[.int .i64 sy, rowsv, accv] 28 (0, 0))]) (fun _ _ iv _ => sy - (intOf iv).toNat)
      case atStart => exact ⟨0, m, cS, gs, vs, sets, S, [], rfl, rfl, hlt, hm64, by omega, HM, Lib.hid ⟨HI.out, rfl, fun y hy => by simp at hy⟩, hO.add (Ext.refl _) (A := .row 3 1 (.slice none 0 0) 0 []) (World.ownsRow_nil _ _ _ _)⟩
      case round =>
        clear hO HI HM
        obtain ⟨a, mm, cc, gg, vv, ss, SS, rw_, rfl, rfl, him, hm64, has, HM, HI, hO⟩ := hrel
        obtain ⟨W3, hW3⟩ : ∃ W, W = wr := ⟨_, rfl⟩; subst hW3
        by_cases hla : a < sy
        · have hlaI : (a : Int) < (sy : Int) := by omega
          have himI : (i : Int) < (mm : Int) := by omega
          have hE3 := hO.ext
          have k0 := fun w' (h : Ext W3 w') => k0 w' (hE3.trans h)
          have k1 := fun w' (h : Ext W3 w') => k1 w' (hE3.trans h)
          have k2 := fun w' (h : Ext W3 w') => k2 w' (hE3.trans h)
          have k3 := fun w' (h : Ext W3 w') => k3 w' (hE3.trans h)
          have hE0 := Ext.refl W3
          obtain ⟨u, hui⟩ : ∃ u, vv[i]? = some u := ⟨_, List.getElem?_eq_getElem (by rw [HI.out.1.vl, HM.out]; exact him)⟩
          obtain ⟨l, hli⟩ : ∃ l, ss[i]? = some l := ⟨_, List.getElem?_eq_getElem (by rw [HM.out]; exact him)⟩
          obtain ⟨cf, hul⟩ := (hO.know 2 rfl) hE3 i u l hui hli
          have hls := HI.out.1.sub l (List.mem_of_getElem? hli)
          obtain ⟨Af, rfl, _⟩ := id hul
          have cu := cell_own hO 1 rfl hui
          have cu := fun w' (h : Ext W3 w') => h.cell cu
          have hll : l.length ≤ 6 := by have := hls.len; omega
          have hst := fun w1 (e : Ext W3 w1) => step_any w1 _ _ x l cf a (hx.ext (hE3.trans e)) hg (hul.ext e) (fun y hy => hls.inn hy) (by rw [hsy.out]; omega)
          have HO := Lib.hid (And.intro hO (And.intro hui (And.intro hli hls)))
          clear hO hui hli hls hul hx
          go_upto_region 10 with fail
          refine wp_region_ext 6 (factsOf []) (fun k => ([[], [], [], [1, 2], [1, 2, 3], [], [0, 1, 2, 3, 4, 5], [0, 1, 2, 3, 4, 5, 6]] : List (List Nat)).getD k []) (by kernel_rfl) (by kernel_rfl) Ext.pre (mono_nil) ?_
          simp only [List.take_succ_cons, List.take_zero]
          repeat (first | (with_reducible refine lexL_quiet' (v := ?_) ?_ ?_ ?_ ?_; rotate_left; (· with_reducible rfl); (· simp [factsOf]); (· intro w1 hw1 _; go_simp; with_reducible rfl); (try simp only [Act.put, List.setIfInBounds_toArray, List.set_cons_zero, List.set_cons_succ])) | (with_reducible refine lexL_skip ?_ ?_; (· simp [Region.wanted, yielded, undef]); (try simp only [Act.put, List.setIfInBounds_toArray, List.set_cons_zero, List.set_cons_succ])) | (with_reducible refine lexL_quiet (v := ?_) ?_ ?_ ?_ ?_; rotate_left; (· simp [Region.wanted, yielded, undef]); (· simp [factsOf]); (· intro w1 hw1 _; go_simp; with_reducible rfl); (try simp only [Act.put, List.setIfInBounds_toArray, List.set_cons_zero, List.set_cons_succ])))
          with_reducible refine lexL_nil ?_; intro w1 hw1 hk1; simp only [List.drop_succ_cons, List.drop_zero]
          go_upto_region 11 with (go_at_call 58; refine (hst w1 hw1).mono ?_; rintro e w5 ⟨v8, tl, rfl, hts, ho8, e5⟩)
          obtain ⟨A8, c8, rfl⟩ := own_form ho8
          have hI8 : IntsC w5 (.slice A8 tl.length c8) tl c8 := by
            obtain ⟨c9, h9⟩ := ints_of_owns ho8 (by have := hts.len; unfold lenMax; omega)
            obtain ⟨A9, hv9, hr9⟩ := id h9
            cases hv9
            exact h9
          have hO5 : OwnL W1 w5 [.row 3 1 (.slice A8 tl.length c8) tl.length (tl.map (.int .i64)), .row 3 1 u6 a (rw_.map (.int .i64)), .row 31 1 (.slice (some ⟨gg, 0, none⟩) mm cc) mm vv, .any SS (SetsQ W1 vv ss), .rows 31 3 1 rowsv vsr (rows.map iRow), .row 4 1 accv i (acc.map .bool), .blk b4 (.cells #[.int .i64 sy, rowsv, accv] 28 (0, 0))] := HO.out.1.add (hw1.trans e5) (own_mono ho8 hw1.size)
          have HO5 := Lib.hid hO5
          have htl : tl.length ≤ 6 := by have := hts.len; omega
          have HT := Lib.hid hts
          clear hO5 ho8 hts hst hw1 e5 hk1 HO
          go_wp2
          go_loopw [9] (fun nv wr => ∃ n : Nat, nv = .int .i64 n ∧ n ≤ mm ∧ Hid (∀ j, j < n → ss[j]? ≠ some tl) ∧ Ext w5 wr) (fun nv _ => mm - (intOf nv).toNat)
          case atStart => exact ⟨0, rfl, by omega, Lib.hid (fun j h => by omega), Ext.refl _⟩
          case round =>
            obtain ⟨n, rfl, hn, HN, hE⟩ := hrel
            obtain ⟨W7, hW7⟩ : ∃ W, W = wr := ⟨_, rfl⟩; subst hW7
            have HO7 := Lib.hid (HO5.out.trans hE)
            by_cases hlm : n < mm
            · have hlmI : (n : Int) < (mm : Int) := by omega
              obtain ⟨u', hui⟩ : ∃ u, vv[n]? = some u := ⟨_, List.getElem?_eq_getElem (by rw [HI.out.1.vl, HM.out]; exact hlm)⟩
              obtain ⟨l', hli⟩ : ∃ l, ss[n]? = some l := ⟨_, List.getElem?_eq_getElem (by rw [HM.out]; exact hlm)⟩
              obtain ⟨cf', hul'⟩ := (HO7.out.know 3 rfl) HO7.out.ext n u' l' hui hli
              have cu' := cell_own HO7.out 2 rfl hui
              have hsm := sameL_any W7 u' _ l' tl cf' c8 hul' (hI8.ext hE)
              obtain ⟨Af', rfl, _⟩ := id hul'
              have HLI := Lib.hid hli
              clear hui hli hul'
              cases hb : (l' == tl) with
              | false =>
                rw [hb] at hsm
                have HB := Lib.hid hb
                clear hb
                go_wp2_with ((with_reducible refine hsm.mono ?_); rintro e w8 ⟨rfl, e8⟩)
                have hnx : ∀ j, j < n + 1 → ss[j]? ≠ some tl := fun j hj => by
                  by_cases hjn : j = n
                  · rw [hjn, HLI.out]; intro e; injection e with e; have := HB.out; rw [e] at this; simp at this
                  · exact HN.out j (by omega)
                exact ⟨⟨n + 1, by go_num, by omega, Lib.hid hnx, hE.trans e8⟩, by simp [intOf]; omega⟩
              | true =>
                rw [hb] at hsm
                have HB := Lib.hid hb
                clear hb
                go_upto_region 16 with ((with_reducible refine hsm.mono ?_); rintro e w8 ⟨rfl, e8⟩)
                have hO8 := (HO7.out.trans e8).drop
                have hownR : w8.ownsRow W1.heap.size 3 1 u6 a (rw_.map (.int .i64)) := hO8.get 0 rfl
                have hsz := hO8.ext.size
                have HO8 := Lib.hid hO8
                clear hO8 hsm
                go_wp2_with (at_builtin; refine wpList_append_own2 rfl _ _ 31 rfl W1.heap.size 3 i3 (.int .i64 0) 1 8 Tryd.underlying31 hi3 hz3 hs3 hb3 rfl (by decide) u6 a (rw_.map (.int .i64)) rfl (World.ownsRow.alloc hownR _) ⟨w8.heap.size, 0, none⟩ 1 1 [.int .i64 n] rfl rfl (new_cell _ _ _ _ rfl) (one_int _) (by unfold maxLen; omega) (by omega) (by simp; omega) ?_; intro v9 w9 hown9 hg9 hb9)
                have hO9 := (HO8.out.trans (alloc_ext w8 (.cells #[.int .i64 n] 3))).app 0 rfl hg9 hown9 hb9
                have hO9 : OwnL W1 w9 [.row 3 1 v9 (a + 1) ((rw_ ++ [(n : Int)]).map (.int .i64)), .row 31 1 (.slice (some ⟨gg, 0, none⟩) mm cc) mm vv, .any SS (SetsQ W1 vv ss), .rows 31 3 1 rowsv vsr (rows.map iRow), .row 4 1 accv i (acc.map .bool), .blk b4 (.cells #[.int .i64 sy, rowsv, accv] 28 (0, 0))] := by rw [List.map_append]; exact hO9
                exact ⟨⟨a + 1, mm, cc, gg, vv, ss, SS, rw_ ++ [(n : Int)], by go_num, rfl, him, hm64, by omega, HM, Lib.hid ⟨HI.out.1, by simp [HI.out.2.1], fun y hy => by
                  rcases List.mem_append.1 hy with hy | hy
                  · exact HI.out.2.2 y hy
                  · rw [List.mem_singleton.1 hy]; omega⟩, hO9⟩, by simp [intOf]; omega⟩
            · obtain rfl : n = mm := by omega
              have hnm : tl ∉ ss := fun hm => by
                obtain ⟨j, hj⟩ := List.getElem?_of_mem hm
                exact HN.out j (by rw [← HM.out]; exact (List.getElem?_eq_some_iff.1 hj).1) hj
              have hI2 := HI.out.1.add hnm HT.out (.slice A8 tl.length c8)
              have hb64 := hI2.bound hs6
              rw [List.length_append, HM.out] at hb64
              have hb64 : n + 1 ≤ 64 := hb64
              have HI2 := Lib.hid hI2
              have hownS : W7.ownsRow W1.heap.size 31 1 (.slice (some ⟨gg, 0, none⟩) n cc) n vv := HO7.out.get 2 rfl
              have hsz := HO7.out.ext.size
              clear hnm hI2
              go_upto_region 16 with (at_builtin; refine wpList_append_own2 rfl _ _ 25 rfl W1.heap.size 31 i31 (.slice none 0 0) 1 24 Tryd.underlying25 hi31 hz31 hs31 hb31 rfl (by decide) (.slice (some ⟨gg, 0, none⟩) n cc) n vv rfl (World.ownsRow.alloc hownS _) ⟨W7.heap.size, 0, none⟩ 1 1 [.slice A8 tl.length c8] rfl rfl (new_cell _ _ _ _ rfl) (one_slice _ _ _) (by unfold maxLen; omega) (by omega) (by simp; omega) ?_; intro v8 w8 hown8 hg8 hb8)
              obtain ⟨g8, c9, rfl⟩ := ownsRow_pos hown8 (by omega)
              obtain ⟨S', hO8⟩ := set_done ((HO7.out.trans (alloc_ext _ _)).app 2 rfl hg8 hown8 hb8) (by rw [HI.out.1.vl]) (by omega)
              have hownR : w8.ownsRow W1.heap.size 3 1 u6 a (rw_.map (.int .i64)) := hO8.get 0 rfl
              have hsz := hO8.ext.size
              have HO8 := Lib.hid hO8
              clear hO8 hown8 hg8 hb8 hownS
              go_wp2_with (at_builtin; refine wpList_append_own2 rfl _ _ 31 rfl W1.heap.size 3 i3 (.int .i64 0) 1 8 Tryd.underlying31 hi3 hz3 hs3 hb3 rfl (by decide) u6 a (rw_.map (.int .i64)) rfl (World.ownsRow.alloc hownR _) ⟨w8.heap.size, 0, none⟩ 1 1 [.int .i64 n] rfl rfl (new_cell _ _ _ _ rfl) (one_int _) (by unfold maxLen; omega) (by omega) (by simp; omega) ?_; intro v9 w9 hown9 hg9 hb9)
              have hO9 := (HO8.out.trans (alloc_ext w8 (.cells #[.int .i64 n] 3))).app 0 rfl hg9 hown9 hb9
              have hO9 : OwnL W1 w9 [.row 3 1 v9 (a + 1) ((rw_ ++ [(n : Int)]).map (.int .i64)), .row 31 1 (.slice (some ⟨g8, 0, none⟩) (n + 1) c9) (n + 1) (vv ++ [.slice A8 tl.length c8]), .any S' (SetsQ W1 (vv ++ [.slice A8 tl.length c8]) (ss ++ [tl])), .rows 31 3 1 rowsv vsr (rows.map iRow), .row 4 1 accv i (acc.map .bool), .blk b4 (.cells #[.int .i64 sy, rowsv, accv] 28 (0, 0))] := by rw [List.map_append]; exact hO9
              exact ⟨⟨a + 1, n + 1, c9, g8, _, _, S', rw_ ++ [(n : Int)], by go_num, rfl, by omega, hb64, by omega, Lib.hid (by simp [HM.out]), Lib.hid ⟨HI2.out, by simp [HI.out.2.1], fun y hy => by
                rcases List.mem_append.1 hy with hy | hy
                · have := HI.out.2.2 y hy; omega
                · rw [List.mem_singleton.1 hy]; omega⟩, hO9⟩, by simp [intOf]; omega⟩
        · obtain rfl : a = sy := by omega
          have himI : (i : Int) < (mm : Int) := by omega
          have kk0 := k0 W3 hO.ext
          have hO1 := hO.perm (.cons _ (perm3 _ _ _ _))
          have hown6 : W3.ownsRow W1.heap.size 3 1 u6 a (rw_.map (.int .i64)) := hO1.get 0 rfl
          obtain ⟨A6, c6', rfl⟩ := own_form hown6
          have hrows : OwnRows W3 W1.heap.size 31 3 1 rowsv vsr (rows.map iRow) := hO1.get 1 rfl
          have hvl : vsr.length = i := by have := hrows.len; rw [List.length_map, HI.out.1.rl] at this; exact this
          have hownR := hrows.own
          obtain ⟨Arr, crr, rfl⟩ := own_form hownR
          rw [hvl] at hownR
          have d1 : ∀ w', Ext W3 w' → w'.cell? ⟨b4, 1, none⟩ = some (.slice Arr vsr.length crr) := fun w' h => h.cell (cell_of_blk (hO1.get 5 rfl).2 1 rfl)
          rw [hvl] at d1 hO1
          have hE0 := Ext.refl W3
          have hsz := hO.ext.size
          have HO := Lib.hid hO1
          have HVL := Lib.hid hvl
          clear hO hO1 hvl hrows hown6
          go_upto_region 18 with (at_builtin; refine wpList_append_own2 rfl _ _ 25 rfl W1.heap.size 31 i31 (.slice none 0 0) 1 24 Tryd.underlying25 hi31 hz31 hs31 hb31 rfl (by decide) (.slice Arr i crr) i vsr rfl (World.ownsRow.alloc hownR _) ⟨W3.heap.size, 0, none⟩ 1 1 [.slice A6 a c6'] rfl rfl (new_cell _ _ _ _ rfl) (one_slice _ _ _) (by unfold maxLen; omega) (by omega) (by simp; omega) ?_; intro v5 w5 hown5 hg5 hb5; obtain ⟨g5, c5', rfl⟩ := ownsRow_pos hown5 (by omega); have hO5 := push_at (HO.out.trans (alloc_ext W3 (.cells #[.slice A6 a c6'] 31))) HVL.out hg5 hown5 hb5; have d6 := cell_of_blk (hO5.get 4 rfl).2 1 (u := .slice Arr i crr) rfl; have f6 := free_of_blk (hO5.get 4 rfl).2 1; have HO5 := Lib.hid hO5; clear hO5 hb5)
          have hO6 := HO5.out.put 4 rfl 1 (.slice (some ⟨g5, 0, none⟩) (i + 1) c5')
          have hO6 : OwnL W1 (w5.setCell ⟨b4, 1, none⟩ (.slice (some ⟨g5, 0, none⟩) (i + 1) c5')) [.rows 31 3 1 (.slice (some ⟨g5, 0, none⟩) (i + 1) c5') (vsr ++ [.slice A6 a c6']) (rows.map iRow ++ [(a, rw_.map (.int .i64))]), .row 31 1 (.slice (some ⟨gg, 0, none⟩) mm cc) mm vv, .any SS (SetsQ W1 vv ss), .row 4 1 accv i (acc.map .bool), .blk b4 (.cells #[.int .i64 a, .slice (some ⟨g5, 0, none⟩) (i + 1) c5', accv] 28 (0, 0))] := hO6
          rw [show rows.map iRow ++ [(a, rw_.map (Value.int .i64))] = (rows ++ [rw_]).map iRow by rw [List.map_append]; show _ = _ ++ [iRow rw_]; unfold iRow; rw [HI.out.2.1]] at hO6
          have HI2 := Lib.hid (fun g => HI.out.1.next HI.out.2.1 (by rw [HM.out]; exact HI.out.2.2) g)
          refine wp_named ?_
          intro W6 hW6
          rw [← hW6] at hO6
          clear hW6 d1 d6 f6 HO5 HO hown5 hg5 hownR
          obtain ⟨u, hui⟩ : ∃ u, vv[i]? = some u := ⟨_, List.getElem?_eq_getElem (by rw [HI.out.1.vl, HM.out]; exact him)⟩
          obtain ⟨l, hli⟩ : ∃ l, ss[i]? = some l := ⟨_, List.getElem?_eq_getElem (by rw [HM.out]; exact him)⟩
          obtain ⟨cf, hul⟩ := (hO6.know 2 rfl) hO6.ext i u l hui hli
          obtain ⟨Af, rfl, hlc, _, hlm⟩ := id hul
          unfold lenMax at hlm
          have cu := cell_own hO6 1 rfl hui
          have cu := fun w' (h : Ext W6 w') => h.cell cu
          have HO6 := Lib.hid hO6
          have k3 := fun w' (h : Ext W6 w') => k3 w' (HO6.out.ext.trans h)
          clear hO6 hui hli hul kk0
          go_wp2
          go_loopw [10, 11] (fun gv kv wr => ∃ (g : Bool) (k : Nat), gv = .bool g ∧ kv = .int .i64 k ∧ k ≤ l.length ∧ Ext W6 wr) (fun _ kv _ => l.length - (intOf kv).toNat)
          case atStart => exact ⟨false, 0, rfl, rfl, by omega, Ext.refl _⟩
          case round =>
            obtain ⟨g, k, rfl, rfl, hk, hE⟩ := hrel
            obtain ⟨W7, hW7⟩ : ∃ W, W = wr := ⟨_, rfl⟩; subst hW7
            have cu7 := cu W7 hE
            by_cases hlk : k < l.length
            · have hlkI : (k : Int) < (l.length : Int) := by omega
              obtain ⟨bf, of, hAf, _, cf0⟩ := (hlc.ext hE).at_int hlk
              subst hAf
              have k37 := k3 W7 hE
              have hHas : ∀ n, Calls Tryd.prog 59 #[.slice Aa x.ac.length ca, .int .i64 l[k]] (W7.drewN n) fun e w' => e = .returned (.int .i64 (b01 (hasL x.ac l[k]))) ∧ w' = W7.drewN n := fun n => (has_any (W7.drewN n) _ _ ca l[k] (hIv.ext (HO6.out.ext.trans (hE.drewN n)))).mono fun e w' h => ⟨h.1, h.2.symm⟩
              generalize hasL x.ac l[k] = hb at *
              generalize l[k] = y at *
              cases g <;> cases hb <;> simp only [b01, if_true, if_false, Bool.false_eq_true] at hHas
              all_goals
                go_upto_region 22 with fail
                go_quiet ((go_at_call 59; exact Calls.quiet_of_same (hHas _)))
                go_wp2
                go_roundw
                case rel => exact ⟨_, k + 1, rfl, by go_num, by omega, hE.drewN _⟩
                case measure => simp [intOf]; omega
            · have hO7 := HO6.out.trans hE
              have hownA : W7.ownsRow W1.heap.size 4 1 accv i (acc.map .bool) := hO7.get 3 rfl
              obtain ⟨Aac, cac, rfl⟩ := own_form hownA
              have d2 : ∀ w', Ext W7 w' → w'.cell? ⟨b4, 2, none⟩ = some (.slice Aac i cac) := fun w' h => h.cell (cell_of_blk (hO7.get 4 rfl).2 2 rfl)
              have hE0 := Ext.refl W7
              have hsz := hO7.ext.size
              have HO7 := Lib.hid hO7
              clear hO7
              go_wp2_with (at_builtin; refine wpList_append_own2 rfl _ _ 26 rfl W1.heap.size 4 i4 (.bool false) 1 1 Tryd.underlying26 hi4 hz4 hs4 hb4' rfl (by decide) (.slice Aac i cac) i (acc.map .bool) rfl (World.ownsRow.alloc hownA _) ⟨W7.heap.size, 0, none⟩ 1 1 [.bool g] rfl rfl (new_cell _ _ _ _ rfl) (one_bool _) (by unfold maxLen; omega) (by omega) (by simp; omega) ?_; intro v8 w8 hown8 hg8 hb8; obtain ⟨g8, c8', rfl⟩ := ownsRow_pos hown8 (by omega); have hO8 := (HO7.out.trans (alloc_ext W7 (.cells #[.bool g] 4))).app 3 rfl hg8 hown8 hb8; have d8 := cell_of_blk (hO8.get 4 rfl).2 2 (u := .slice Aac i cac) rfl; have f8 := free_of_blk (hO8.get 4 rfl).2 2; have HO8 := Lib.hid hO8; clear hO8 hb8)
              have hO9 := HO8.out.put 4 rfl 2 (.slice (some ⟨g8, 0, none⟩) (i + 1) c8')
              have hO9 : OwnL W1 (w8.setCell ⟨b4, 2, none⟩ (.slice (some ⟨g8, 0, none⟩) (i + 1) c8')) [.rows 31 3 1 (.slice (some ⟨g5, 0, none⟩) (i + 1) c5') (vsr ++ [.slice A6 a c6']) ((rows ++ [rw_]).map iRow), .row 31 1 (.slice (some ⟨gg, 0, none⟩) mm cc) mm vv, .any SS (SetsQ W1 vv ss), .row 4 1 (.slice (some ⟨g8, 0, none⟩) (i + 1) c8') (i + 1) ((acc ++ [g]).map .bool), .blk b4 (.cells #[.int .i64 a, .slice (some ⟨g5, 0, none⟩) (i + 1) c5', .slice (some ⟨g8, 0, none⟩) (i + 1) c8'] 28 (0, 0))] := by rw [List.map_append (f := Value.bool)]; exact hO9
              have hO10 := hO9.perm (perm3 _ _ _ _).symm
              exact ⟨⟨i + 1, mm, cc, gg, vv, ss, SS, _, _, _, rows ++ [rw_], acc ++ [g], by go_num, rfl, by omega, by omega, hm64, HM, Lib.hid (HI2.out g), hO10⟩, by simp [intOf]; omega⟩
    · obtain rfl : i = m := by omega
      have hrows : OwnRows W2 W1.heap.size 31 3 1 rowsv vsr (rows.map iRow) := hO.get 2 rfl
      have hvl : vsr.length = i := by have := hrows.len; rw [List.length_map, HI.out.rl] at this; exact this
      obtain ⟨Arr, crr, rfl⟩ := own_form hrows.own
      have hownA : W2.ownsRow W1.heap.size 4 1 accv i (acc.map .bool) := hO.get 3 rfl
      obtain ⟨Aac, cac, rfl⟩ := own_form hownA
      rw [hvl] at hO
      have d0 : ∀ w', Ext W2 w' → w'.cell? ⟨b4, 0, none⟩ = some (.int .i64 sy) := fun w' h => h.cell (cell_of_blk (hO.get 4 rfl).2 0 rfl)
      have d1 : ∀ w', Ext W2 w' → w'.cell? ⟨b4, 1, none⟩ = some (.slice Arr i crr) := fun w' h => h.cell (cell_of_blk (hO.get 4 rfl).2 1 rfl)
      have d2 : ∀ w', Ext W2 w' → w'.cell? ⟨b4, 2, none⟩ = some (.slice Aac i cac) := fun w' h => h.cell (cell_of_blk (hO.get 4 rfl).2 2 rfl)
      have hE0 := Ext.refl W2
      have hzz := heap_ext hO.ext HA.out.2.2.1
      have hlt2 := lt_of_block HA.out.2.2.1
      have hE9 := HA.out.1.trans hO.ext
      have HO := Lib.hid hO
      clear hO hrows hownA hvl
      go_wp2_with (with_reducible refine wpList_store_blk _ rfl 28 _ _ rfl b2 28 _ _ rfl rfl hzz (by kernel_rfl) (by kernel_rfl) (by kernel_rfl) ?_; intro w8 h8 g8)
      refine bodyPost_ret (results_cell_row rfl _ _ b2 28 _ (0, 0) _ (by simp [Act.put]) h8 Tryd.underlying28 rfl (by kernel_rfl)) rfl ?_
      have hI := HI.out
      have hm := HM.out
      have hsyx := hsy.out
      refine ⟨_, ⟨x.sy, rows, acc⟩, rfl, fun w2 hw2 => ?_, ⟨?_, ?_, ?_, ?_, ?_⟩, rfl, ?_, ?_⟩
      · have hk : ∀ A ∈ _, Asn.ok W1.heap.size w2 A := fun A hA => Asn.of (HO.out.ok A hA) (fun b hb => by
          have h1 := Asn.lt (HO.out.ok A hA) hb
          have h2 := g8.block b h1.2 (fun e => by cases e; omega)
          exact (hw2 b (Nat.le_trans HA.out.1.size h1.1) (Nat.lt_of_lt_of_le h1.2 g8.size)).trans h2)
        have hr2 : OwnRows w2 W1.heap.size 31 3 1 (.slice Arr i crr) vsr (rows.map iRow) := hk (.rows 31 3 1 (.slice Arr i crr) vsr (rows.map iRow)) (by simp)
        have ha2 : w2.ownsRow W1.heap.size 4 1 (.slice Aac i cac) i (acc.map .bool) := hk (.row 4 1 (.slice Aac i cac) i (acc.map .bool)) (by simp)
        obtain ⟨c9, hac9⟩ := bools_of_owns ha2 hI.al (by unfold lenMax; omega)
        obtain ⟨A9, hv9, hr9⟩ := id hac9
        have hl9 := hI.al
        refine ⟨_, crr, _, c9, ?_, listsC_of_own hr2 hI.rl (by unfold lenMax; omega) (fun r hr => by have := (hI.row r hr).1; unfold lenMax; omega), hac9⟩
        rw [hsyx]
      · show 1 ≤ x.sy ∧ x.sy ≤ 16; omega
      · show 1 ≤ rows.length ∧ rows.length ≤ 256
        have := hI.rl
        omega
      · show acc.length = rows.length; rw [hI.al, hI.rl]
      · intro r hr; have := (hI.row r hr).1; show (r.length : Int) = x.sy; omega
      · intro r hr y hy
        have := (hI.row r hr).2 y hy
        show 0 ≤ y ∧ y < (rows.length : Int)
        rw [hI.rl]; omega
      · show rows.length ≤ 64; rw [hI.rl]; exact hm64
      · exact Below.grown hE9 g8 hE9.size (fun k hk => by cases hk; exact HA.out.2.1)
end Go.Proofs.YthlnmcokgfpgmaaDoor

namespace Go.Proofs.YthlnmcokgfpgmaaDoor
open Go.RowKit Go.Maps
set_option linter.unusedVariables false
set_option linter.unusedSimpArgs false
attribute [local go_sem] Oper.quietV quietV Oper.gives givesV ext_refl_iff ext_alloc_iff ext_drew_iff ext_drewN_iff
theorem det_own {w W1 w7 : World} {sv : Value} {st : List Int} {c gs : Nat} {L0 : Asn} (hE : Ext W1 w7) (h : w7.heap[gs]? = some (.cells #[sv] 31 (0, 0))) (h0 : L0.ok W1.heap.size w7) (hf : ∀ b, L0.foot b → b ≠ gs) (hs : IntsC W1 sv st c) (hg : W1.heap.size ≤ gs := by omega) :
    OwnL W1 w7 [.row 31 1 (.slice (some ⟨gs, 0, none⟩) 1 1) 1 [sv], .any (fun _ => False) (SetsQ W1 [sv] [st]), .rows 31 3 1 (.slice none 0 0) [] ([].map iRow), .row 4 1 (.slice none 0 0) 0 ([].map .bool), L0] := by
  refine ⟨hE, fun A hA => ?_, ?_⟩
  · simp only [List.mem_cons, List.not_mem_nil, or_false] at hA
    rcases hA with rfl | rfl | rfl | rfl | rfl
    · exact ⟨rfl, .inr ⟨gs, 1, _, rfl, hg, h, Nat.le_refl _, by unfold maxLen; omega, by simp, by simp⟩⟩
    · refine ⟨fun b hb => hb.elim, fun w' _ hE' j u l hu hl => ?_⟩
      match j, hu, hl with
      | 0, hu, hl => cases hu; cases hl; exact ⟨c, hs.ext hE'⟩
      | j + 1, hu, hl => simp at hu
    · exact ⟨World.ownsRow_nil _ _ _ _, rfl, fun j u r h => by simp at h, fun i j u u' h => by simp at h, fun j u h => by simp at h⟩
    · exact World.ownsRow_nil _ _ _ _
    · exact h0
  · refine List.pairwise_cons.2 ⟨fun A hA b hb hb' => ?_, List.pairwise_cons.2 ⟨fun A hA b hb => hb.elim, List.pairwise_cons.2 ⟨fun A hA b hb => ?_, List.pairwise_cons.2 ⟨fun A hA b hb => (by cases hb), List.pairwise_singleton _ _⟩⟩⟩⟩
    · cases hb
      simp only [List.mem_cons, List.not_mem_nil, or_false] at hA
      rcases hA with rfl | rfl | rfl | rfl
      · exact hb'
      · rcases hb' with hb' | ⟨u, hu, _⟩
        · cases hb'
        · cases hu
      · cases hb'
      · exact hf _ hb' rfl
    · rcases hb with hb | ⟨u, hu, _⟩
      · cases hb
      · cases hu
set_option maxRecDepth 100000 in
set_option maxHeartbeats 4000000 in
theorem det_any (w : World) (xv : Value) (x : Nfa) (hx : NfaV w xv x) (hg : GoodN x) : Calls Tryd.prog 41 #[xv] w (DetP x w) := by
  obtain ⟨rv, cr, sv, cs, av, ca, rfl, hr, h1, h2⟩ := id hx
  obtain ⟨Ar, vr, rfl, _, _, _, _, hrm⟩ := id hr
  obtain ⟨As, rfl, _⟩ := id h1
  obtain ⟨Aa, rfl, _⟩ := id h2
  obtain ⟨sy, hsy⟩ : ∃ n : Nat, x.sy = (n : Int) := ⟨x.sy.toNat, by have := hg.sy; omega⟩
  have HS := Lib.hid hsy
  rw [hsy] at hx
  rw [hsy]
  clear hsy
  go_enter Tryd.func41, Tryd.ntmps41
  go_upto_region 1 with fail
  refine wp_named ?_
  intro W1 hW1
  have hE1 : Ext w W1 := by rw [hW1]; exact ((Ext.refl _).alloc _).alloc _
  have k0 : ∀ w', Ext W1 w' → w'.cell? ⟨w.heap.size, 0, none⟩ = some (.int .i64 sy) := fun w' h => h.cell (by rw [hW1]; simp [go_sem])
  have k1 : ∀ w', Ext W1 w' → w'.cell? ⟨w.heap.size, 1, none⟩ = some (.slice Ar x.rows.length cr) := fun w' h => h.cell (by rw [hW1]; simp [go_sem])
  have k2 : ∀ w', Ext W1 w' → w'.cell? ⟨w.heap.size, 2, none⟩ = some (.slice As x.st.length cs) := fun w' h => h.cell (by rw [hW1]; simp [go_sem])
  have k3 : ∀ w', Ext W1 w' → w'.cell? ⟨w.heap.size, 3, none⟩ = some (.slice Aa x.ac.length ca) := fun w' h => h.cell (by rw [hW1]; simp [go_sem])
  have kb : W1.heap[w.heap.size + 1]? = some (.cells #[.int .i64 0, .slice none 0 0, .slice none 0 0] 28 (0, 0)) := by
    rw [hW1]; have h9 := heap_alloc_new (w.alloc (.cells #[.int .i64 sy, .slice Ar x.rows.length cr, .slice As x.st.length cs, .slice Aa x.ac.length ca] 78)) (.cells #[.int .i64 0, .slice none 0 0, .slice none 0 0] 28 (0, 0)); simpa using h9
  have HB := Lib.hid (show w.heap.size ≤ w.heap.size + 1 by omega)
  clear hW1
  generalize w.heap.size + 1 = b2 at *
  generalize hb1 : w.heap.size = b1 at *
  have hE0 := Ext.refl W1
  have HX := Lib.hid (And.intro hx (And.intro h1 h2))
  clear hx h1 h2 hr
  go_upto_region 999 with (first
    | (with_reducible refine stop_at2 3 ?_)
    | (with_reducible refine wpList_store_blk _ rfl 28 _ _ rfl (W1.heap.size + 1) 28 _ _ rfl rfl (by have := heap_alloc_new (W1.alloc (.cells #[.slice As x.st.length cs] 31)) (.cells #[.int .i64 0, .slice none 0 0, .slice none 0 0] 28); simpa using this) (by kernel_rfl) (by kernel_rfl) (by kernel_rfl) ?_; intro w7 h7 g7))
  refine ⟨?_⟩
  have eA : Ext W1 (W1.alloc (.cells #[.slice As x.st.length cs] 31)) := alloc_ext _ _
  have eB := eA.alloc (.cells #[.int .i64 0, .slice none 0 0, .slice none 0 0] 28)
  have hE7 : Ext W1 w7 := Below.grown eB g7 eB.size (fun k hk => by cases hk; omega)
  have hgs : w7.heap[W1.heap.size]? = some (.cells #[.slice As x.st.length cs] 31 (0, 0)) := (g7.block _ (by simp; omega) (by simp)).trans (heap_ext (alloc_ext _ _) (heap_alloc_new W1 _))
  have hO := det_own (w := w) (L0 := .blk (W1.heap.size + 1) (.cells #[.int .i64 sy, .slice none 0 0, .slice none 0 0] 28 (0, 0))) hE7 hgs ⟨by omega, h7⟩ (fun b hb => by cases hb; omega) (HX.out.2.1.ext hE1)
  exact det_t3 w W1 w7 x b1 b2 (W1.heap.size + 1) W1.heap.size sy Ar As Aa cr cs ca _ _ _ _ _ _ _ _ _ _ _ _ _ _ _ _ _ _ _ _ _ _ _ _ _ _ _ _ _ _ _ _ _ _ _ _ _ _ _ _ _ _ _ _ _ _ _ _ _ _ _ _ _ _ _ _ _ _ _ _ _ _ _ _ _ _ _ _ _ _ _ _ _ _ _ _ _ _ _ _ _ _ _ _ _ _ _ _ _ _ _ _ _ _ _ _ (HX.out.1.ext hE1) (HX.out.2.2.ext hE1) HS hg hE1 (hb1 ▸ HB.out) kb k0 k1 k2 k3 hO
end Go.Proofs.YthlnmcokgfpgmaaDoor
