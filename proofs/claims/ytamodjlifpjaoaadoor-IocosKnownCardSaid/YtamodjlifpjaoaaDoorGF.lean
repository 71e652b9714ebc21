/- Nodes in memory; iocos.Make$1 51: one node more. iocos.Make$2 52: its last piece (from region 15 on). iocos.Make$2 52: labels (from region 8), nodes (from region 3), the whole. slices.Clip[Node] 53; iocos.Make 24. -/
import Derived.Test.YtamodjlifpjaoaaDoorGC
import Derived.Test.YtamodjlifpjaoaaDoorGE
import Derived.Laws.EntriesVeiled
namespace Go.Proofs.YtamodjlifpjaoaaDoor
open Go.RowKit
set_option linter.unusedVariables false
set_option linter.unusedSimpArgs false
attribute [local go_sem] Oper.quietV quietV Oper.gives givesV ext_refl_iff ext_alloc_iff ext_drew_iff ext_drewN_iff
theorem node_info : (Tryd.prog.info? 56).map (fun i => (i.zero, i.size, i.bytes)) = some (some (.agg #[.int .i64 0, .slice none 0 0]), 2, 32) := by kernel_rfl
def ndCells (e : Nd × Value) : List Value := [.int .i64 e.1.act, e.2]
def ndsV (L : List (Nd × Value)) : List Value := L.flatMap ndCells
theorem nds_len : ∀ l : List (Nd × Value), (ndsV l).length = l.length * 2
  | [] => rfl
  | y :: t => by unfold ndsV; rw [List.flatMap_cons, List.length_append]; have := nds_len t; unfold ndsV at this; rw [this]; simp [ndCells]; omega
theorem nds_get : ∀ {l : List (Nd × Value)} {i : Nat} {r : Nd × Value} (h : l[i]? = some r) (j : Nat) (u : Value), (ndCells r)[j]? = some u → (ndsV l)[i * 2 + j]? = some u
  | [], i, r, h, _, _, _ => by simp at h
  | y :: t, 0, r, h, j, u, hj => by
    simp at h; subst h
    have := (List.getElem?_eq_some_iff.1 hj).1
    unfold ndsV
    rw [List.flatMap_cons, Nat.zero_mul, Nat.zero_add, List.getElem?_append_left this]; exact hj
  | y :: t, i + 1, r, h, j, u, hj => by
    have h2 := nds_get (l := t) (i := i) (r := r) (by simpa using h) j u hj
    unfold ndsV at h2 ⊢
    rw [List.flatMap_cons, List.getElem?_append_right (by simp [ndCells]; omega)]
    rw [← h2]; congr 1; simp [ndCells]; omega
theorem nds_app (l m : List (Nd × Value)) : ndsV (l ++ m) = ndsV l ++ ndsV m := by unfold ndsV; simp
theorem nds_set (l m : List (Nd × Value)) (e : Nd × Value) (u : Value) (y : List Int) : (ndsV (l ++ e :: m)).set (l.length * 2 + 1) u = ndsV (l ++ (⟨e.1.act, y⟩, u) :: m) := by
  have h : ∀ e : Nd × Value, ndsV (l ++ e :: m) = ndsV l ++ (ndCells e ++ ndsV m) := fun e => by rw [nds_app]; rfl
  rw [h, h, List.set_append_right _ _ (by rw [nds_len]; omega), nds_len]
  congr 1
  rw [show l.length * 2 + 1 - l.length * 2 = 1 by omega]
  rfl
/-- What follows each node lies in memory. -/
def NdOk (L : List (Nd × Value)) (W : World) : Prop := ∀ e ∈ L, ∃ c, IntsC W e.2 e.1.next c
/-- A test that grows: its variable, its row, and what follows its nodes. -/
def testA (b : Nat) (v : Value) (F : Nat → Prop) (L : List (Nd × Value)) (rest : List Asn) : List Asn :=
  .blk b (.cells #[v] 48) :: .row 56 2 v L.length (ndsV L) :: .any F (NdOk L) :: rest
def TestSt (W0 W : World) (b : Nat) (L : List (Nd × Value)) (rest : List Asn) : Prop := ∃ v F, OwnL W0 W (testA b v F L rest)
theorem TestSt.ext {W0 W : World} {b : Nat} {L : List (Nd × Value)} {rest : List Asn} (h : TestSt W0 W b L rest) : Ext W0 W := by obtain ⟨v, F, h⟩ := h; exact OwnL.ext h
theorem TestSt.trans {W0 W W' : World} {b : Nat} {L : List (Nd × Value)} {rest : List Asn} (h : TestSt W0 W b L rest) (e : Ext W W') : TestSt W0 W' b L rest := by obtain ⟨v, F, h⟩ := h; exact ⟨v, F, OwnL.trans h e⟩
theorem TestSt.perm {W0 W : World} {b : Nat} {L : List (Nd × Value)} {rest rest' : List Asn} (h : TestSt W0 W b L rest) (hp : rest.Perm rest') : TestSt W0 W b L rest' := by
  obtain ⟨v, F, h⟩ := h
  exact ⟨v, F, h.perm (.cons _ (.cons _ (.cons _ hp)))⟩
theorem nil_ok (W : World) (a : Int) : ∃ c, IntsC W (.slice none 0 0) (Nd.mk a []).next c := ⟨0, fit_nil W⟩
theorem ndOk_snoc {L : List (Nd × Value)} {W : World} (h : NdOk L W) (a : Int) : NdOk (L ++ [(⟨a, []⟩, .slice none 0 0)]) W := fun e he => by
  rcases List.mem_append.1 he with he | he
  · exact h e he
  · rw [List.mem_singleton.1 he]; exact nil_ok W a
theorem OwnL.weaken2 {w W : World} {A B : Asn} {S : Nat → Prop} {Φ Φ' : World → Prop} {L : List Asn} (h : OwnL w W (A :: B :: .any S Φ :: L)) (hΦ : ∀ W, Φ W → Φ' W) : OwnL w W (A :: B :: .any S Φ' :: L) :=
  ((h.perm (List.perm_middle (l₁ := [A, B]))).weaken hΦ).perm (List.perm_middle (l₁ := [A, B])).symm
theorem two_cells (a : Int) : ∀ u ∈ [Value.int .i64 a, .slice none 0 0], u.oneCell' = true := by intro u hu; simp at hu; rcases hu with rfl | rfl <;> rfl
/-- The number of a node, and whether it is not too many. -/
def fitsB (n : Nat) : Bool := decide ((n : Int) ≤ 1024)
set_option maxRecDepth 100000 in
set_option maxHeartbeats 4000000 in
theorem node_any (W0 W : World) (b : Nat) (L : List (Nd × Value)) (rest : List Asn) (a : Int) (h : TestSt W0 W b L rest) (hL : L.length ≤ 1024) :
    Calls Tryd.prog 51 #[.int .i64 a, .pointer (some ⟨b, 0, none⟩)] W fun e W' => e = .returned (.tuple #[.int .i64 L.length, .bool (fitsB (L.length + 1))]) ∧ TestSt W0 W' b (L ++ [(⟨a, []⟩, .slice none 0 0)]) rest := by
  obtain ⟨i56, hi56, hz56, hs56, hb56⟩ := info_parts node_info
  obtain ⟨v, F, hO⟩ := h
  have hcell : W.cell? ⟨b, 0, none⟩ = some v := cell_of_blk (hO.get 0 rfl).2 0 rfl
  have hrow : W.ownsRow W0.heap.size 56 2 v L.length (ndsV L) := hO.get 1 rfl
  have hsz := hO.ext.size
  have HO := Lib.hid hO
  have hnl := Lib.hid (nds_len L)
  clear hO
  go_enter Tryd.func51, Tryd.ntmps51
  go_wp2_with (at_builtin; refine wpList_append_own2 rfl _ _ 48 rfl W0.heap.size 56 i56 (.agg #[.int .i64 0, .slice none 0 0]) 2 32 Tryd.underlying48 hi56 hz56 hs56 hb56 rfl (by decide) v L.length (ndsV L) rfl (World.ownsRow.alloc hrow _) ⟨W.heap.size, 0, none⟩ 1 1 [.int .i64 a, .slice none 0 0] rfl rfl (new_cell2 _ _ _ _ _ rfl) (two_cells a) (by unfold maxLen; omega) (by omega) (by simp; omega) ?_; intro v8 w8 hown8 hg8 hb8; obtain ⟨g8, cap8, rfl⟩ := ownsRow_pos hown8 (by omega); have hO8 := (HO.out.trans (alloc_ext W (.cells #[.int .i64 a, .slice none 0 0] 56))).app 1 rfl hg8 hown8 hb8; have c8 := cell_of_blk (hO8.get 0 rfl).2 0 (u := v) rfl; have f8 := free_of_blk (hO8.get 0 rfl).2 0; have HO8 := Lib.hid hO8; clear hO8 hown8 hg8 hb8)
  refine wp_named ?_
  intro W9 hW9
  have hO9 := HO8.out.put 0 rfl 0 (.slice (some ⟨g8, 0, none⟩) (L.length + 1) cap8)
  rw [← hW9] at hO9
  have c9 := cell_of_blk (hO9.get 0 rfl).2 0 (u := .slice (some ⟨g8, 0, none⟩) (L.length + 1) cap8) rfl
  have c9 := fun w' (h : Ext W9 w') => h.cell c9
  have hE9 := Ext.refl W9
  have HO9 := Lib.hid hO9
  clear hO9 hW9 c8 f8 HO8 HO hcell hrow
  refine wp_region_ext 7 (factsOf []) (fun k => ([[], [0], [0, 1], [], [3], [3, 4], [0, 1, 2], [0, 1, 2, 3, 4, 5, 6]] : List (List Nat)).getD k []) (by kernel_rfl) (by kernel_rfl) Ext.pre (mono_nil) ?_
  simp only [List.take_succ_cons, List.take_zero]
  repeat (first | (with_reducible refine lexL_quiet' (v := ?_) ?_ ?_ ?_ ?_; rotate_left; (· with_reducible rfl); (· simp [factsOf]); (· intro w1 hw1 _; go_simp; with_reducible rfl); (try simp only [Act.put, List.setIfInBounds_toArray, List.set_cons_zero, List.set_cons_succ])) | (with_reducible refine lexL_skip ?_ ?_; (· simp [Region.wanted, yielded, undef]); (try simp only [Act.put, List.setIfInBounds_toArray, List.set_cons_zero, List.set_cons_succ])) | (with_reducible refine lexL_quiet (v := ?_) ?_ ?_ ?_ ?_; rotate_left; (· simp [Region.wanted, yielded, undef]); (· simp [factsOf]); (· intro w1 hw1 _; go_simp; with_reducible rfl); (try simp only [Act.put, List.setIfInBounds_toArray, List.set_cons_zero, List.set_cons_succ])))
  with_reducible refine lexL_nil ?_; intro w1 hw1 hk1; simp only [List.drop_succ_cons, List.drop_zero]
  clear hk1
  have HW := Lib.hid hw1
  clear hw1 c9 hE9
  go_wp2
  have hE2 : IntKind.i64.wrap (L.length : Int) = (L.length : Int) := by rw [IntKind.wrap_i64]; omega
  go_ret2
  refine ⟨?_, .slice (some ⟨g8, 0, none⟩) (L.length + 1) cap8, F, ?_⟩
  · show Ending.returned (.tuple #[.int .i64 (IntKind.i64.wrap (L.length : Int)), .bool (decide ((L.length : Int) + 1 ≤ 1024))]) = _
    rw [hE2]; rfl
  have h2 := OwnL.weaken2 (HO9.out.trans HW.out) (Φ' := NdOk (L ++ [(⟨a, []⟩, .slice none 0 0)])) (fun W h => ndOk_snoc h a)
  unfold testA
  rw [nds_app, List.length_append]
  exact h2
end Go.Proofs.YtamodjlifpjaoaaDoor

namespace Go.Proofs.YtamodjlifpjaoaaDoor
open Go.RowKit
set_option linter.unusedVariables false
set_option linter.unusedSimpArgs false
attribute [local go_sem] Oper.quietV quietV Oper.gives givesV ext_refl_iff ext_alloc_iff ext_drew_iff ext_drewN_iff
noncomputable def T52 (n : Nat) : Code := textR n Tryd.f52.body
def fNode (b10 : Nat) : Value := .func (.func 51) #[] #[.pointer (some ⟨b10, 0, none⟩)]
def fAdd (b9 b10 b11 b12 : Nat) : Value := .func (.func 52) #[] #[.pointer (some ⟨b9, 0, none⟩), .pointer (some ⟨b12, 0, none⟩), .pointer (some ⟨b11, 0, none⟩), .pointer (some ⟨b10, 0, none⟩)]
def restA (b9 b10 b11 b12 : Nat) (rest : List Asn) : List Asn := .blk b12 (.cells #[fNode b10] 99) :: .blk b11 (.cells #[fAdd b9 b10 b11 b12] 98) :: rest
/-- What adding a test answers. -/
def AddP (x : Lts) (W0 : World) (b9 b10 b11 b12 : Nat) (p : List Int) (S : Nat) (L : List (Nd × Value)) (rest : List Asn) (e : Ending) (W' : World) : Prop :=
  ∃ (z : Int) (fit : Bool) (L' : List (Nd × Value)), e = .returned (.tuple #[.int .i64 z, .bool fit]) ∧ TestSt W0 W' b10 L' (restA b9 b10 b11 b12 rest) ∧
    ((fit = true ∧ z = L.length ∧ L.length + (mkT x p S L.length).length ≤ 1024 ∧ ∃ M : List (Nd × Value), M.map Prod.fst = mkT x p S L.length ∧ L' = L ++ M) ∨ (fit = false ∧ 1024 < L.length + (mkT x p S L.length).length))
def AddS (x : Lts) (W0 : World) (b9 b10 b11 b12 : Nat) (p : List Int) : Prop :=
  ∀ (rest : List Asn) (W : World) (S c : Nat) (L : List (Nd × Value)) (pv : Value), S < 2 ^ x.n → L.length ≤ 1024 → IntsC W0 pv p c → TestSt W0 W b10 L (restA b9 b10 b11 b12 rest) →
    Calls Tryd.prog 52 #[.int .u64 S, pv, .pointer (some ⟨b9, 0, none⟩), .pointer (some ⟨b12, 0, none⟩), .pointer (some ⟨b11, 0, none⟩), .pointer (some ⟨b10, 0, none⟩)] W (AddP x W0 b9 b10 b11 b12 p S L rest)
/-- Labels that turn no more. -/
def labA (F : Nat → Prop) (lv : Value) (ls : List Int) : Asn := .any F (fun W => ∃ c, IntsC W lv ls c)
def zerosI (k : Nat) : List Int := List.replicate k 0
theorem TestSt.alloc3 {W0 W : World} {b : Nat} {L : List (Nd × Value)} {A B : Asn} {rest : List Asn} (h : TestSt W0 W b L (A :: B :: rest)) {W' : World} (e : Ext W W') {C : Asn} (hC : C.ok W.heap.size W') : TestSt W0 W' b L (A :: B :: C :: rest) := by
  obtain ⟨v, F, h⟩ := h
  exact ⟨v, F, (OwnL.add h e hC).perm (List.perm_middle (l₁ := [_, _, _, A, B])).symm⟩
theorem cut_tail (b o n c : Nat) (h : n + 1 ≤ c) (W : World) : (Instr.sliceAt 30 (.slice (some ⟨b, o, none⟩) (n + 1) c) (some (.int .i64 1)) none none).run Tryd.prog W = .ok (.slice (if c = 1 then some ⟨b, o, none⟩ else some ⟨b, o + 1, none⟩) n (c - 1)) W := by
  have h1 : (1 : Int) ≤ ((n + 1 : Nat) : Int) := by omega
  have h2 : ((n + 1 : Nat) : Int) ≤ (c : Int) := by omega
  by_cases hc : c = 1
  · subst hc
    have : n = 0 := by omega
    subst this
    simp [go_sem]
  · simp [go_sem, *]
    intro h3; omega
theorem TestSt.drop3 {W0 W : World} {b : Nat} {L : List (Nd × Value)} {A B C : Asn} {rest : List Asn} (h : TestSt W0 W b L (A :: B :: C :: rest)) : TestSt W0 W b L (A :: B :: rest) := by
  obtain ⟨v, F, h⟩ := h
  exact ⟨v, F, (h.perm (List.perm_middle (l₁ := [_, _, _, A, B]))).drop⟩
/-- The row of what follows a node, among what is owned. -/
theorem TestSt.nextRow {W0 W : World} {b g n c : Nat} {xs : List Value} {L : List (Nd × Value)} {A B : Asn} {rest : List Asn} (h : TestSt W0 W b L (A :: B :: .row 3 1 (.slice (some ⟨g, 0, none⟩) n c) n xs :: rest)) (i : Nat) (u : Value) :
    (∀ v, xs[i]? = some v → W.cell? ⟨g, i, none⟩ = some v) ∧ W.frozen? ⟨g, i, none⟩ = false ∧ TestSt W0 (W.setCell ⟨g, i, none⟩ u) b L (A :: B :: .row 3 1 (.slice (some ⟨g, 0, none⟩) n c) n (xs.set i u) :: rest) := by
  obtain ⟨v, F, h⟩ := h
  exact ⟨fun v hv => cell_own h 5 rfl hv, free_own h 5 rfl i, v, F, h.store 5 rfl i u⟩
theorem TestSt.addC {W0 W : World} {b b9 b10 b11 b12 : Nat} {L : List (Nd × Value)} {rest : List Asn} (h : TestSt W0 W b L (restA b9 b10 b11 b12 rest)) : W.cell? ⟨b11, 0, none⟩ = some (fAdd b9 b10 b11 b12) ∧ W.cell? ⟨b12, 0, none⟩ = some (fNode b10) := by
  obtain ⟨v, F, h⟩ := h
  exact ⟨cell_of_blk (h.get 4 rfl).2 0 rfl, cell_of_blk (h.get 3 rfl).2 0 rfl⟩
theorem test_close {W0 W : World} {b g n cap : Nat} {F : Nat → Prop} {L K : List (Nd × Value)} {a : Int} {B C : Asn} {R : List Asn} {nv : Value} {ys : List Int}
    (h : OwnL W0 W (testA b (.slice (some ⟨g, 0, none⟩) n cap) F (L ++ (⟨a, []⟩, .slice none 0 0) :: K) (B :: C :: .row 3 1 nv ys.length (ys.map (.int .i64)) :: R)))
    (hn : n = (L ++ ((⟨a, []⟩, .slice none 0 0) : Nd × Value) :: K).length) (hy : ys.length ≤ lenMax) :
    TestSt W0 (W.setCell ⟨g, L.length * 2 + 1, none⟩ nv) b (L ++ (⟨a, ys⟩, nv) :: K) (B :: C :: R) := by
  subst hn
  have h1 := h.store 1 rfl (L.length * 2 + 1) nv
  rw [nds_set L K (⟨a, []⟩, .slice none 0 0) nv ys] at h1
  have hl : (L ++ ((⟨a, []⟩, .slice none 0 0) : Nd × Value) :: K).length = (L ++ ((⟨a, ys⟩, nv) : Nd × Value) :: K).length := by simp
  have h2 : OwnL W0 (W.setCell ⟨g, L.length * 2 + 1, none⟩ nv) (.blk b (.cells #[.slice (some ⟨g, 0, none⟩) (L ++ ((⟨a, []⟩, .slice none 0 0) : Nd × Value) :: K).length cap] 48) :: .row 56 2 (.slice (some ⟨g, 0, none⟩) (L ++ ((⟨a, []⟩, .slice none 0 0) : Nd × Value) :: K).length cap) (L ++ ((⟨a, []⟩, .slice none 0 0) : Nd × Value) :: K).length (ndsV (L ++ ((⟨a, ys⟩, nv) : Nd × Value) :: K)) :: .any F (NdOk (L ++ (⟨a, []⟩, .slice none 0 0) :: K)) :: B :: C :: .row 3 1 nv ys.length (ys.map (.int .i64)) :: R) := h1
  have h3 := (((h2.perm (List.perm_middle (l₁ := [_, _, _, B, C]))).seal (Φ := fun W => ∃ c, IntsC W nv ys c) (fun W' h => ints_of_owns h hy)).perm (List.perm_middle (l₁ := [_, _, _])).symm).perm (List.perm_middle (l₁ := [_, _]))
  have h4 := (h3.perm (.cons _ (List.perm_middle (l₁ := [_, _])))).merge
  have h5 := h4.weaken (Φ' := NdOk (L ++ (⟨a, ys⟩, nv) :: K)) (fun W h e he => by
    rcases List.mem_append.1 he with he | he
    · exact h.1 e (List.mem_append_left _ he)
    · rcases List.mem_cons.1 he with he | he
      · rw [he]; exact h.2
      · exact h.1 e (List.mem_append_right _ (by simp [he])))
  have h6 := h5.perm (List.perm_middle (l₁ := [_, _])).symm
  rw [hl] at h6
  exact ⟨_, _, h6⟩
def InvK (W0 : World) (x : Lts) (b9 b10 b11 b12 S : Nat) (a : Int) (p ls : List Int) (g : Nat) (Q : Asn) (L : List (Nd × Value)) (rest : List Asn) (i : Nat) (wr : World) : Prop :=
  ∃ K : List (Nd × Value), K.map Prod.fst = (kidsT x (mkT x p) S L.length (ls.take i)).2 ∧ L.length + 1 + K.length ≤ 1024 ∧
    TestSt W0 wr b10 (L ++ (⟨a, []⟩, .slice none 0 0) :: K) (.blk b12 (.cells #[fNode b10] 99) :: .blk b11 (.cells #[fAdd b9 b10 b11 b12] 98) :: .row 3 1 (.slice (some ⟨g, 0, none⟩) ls.length ls.length) ls.length (((kidsT x (mkT x p) S L.length (ls.take i)).1 ++ zerosI (ls.length - i)).map (.int .i64)) :: Q :: rest)
theorem kids_set (k : List Int) (n i : Nat) (y : Int) (hk : k.length = i) (hi : i < n) : (((k ++ zerosI (n - i)).map (Value.int .i64)).set i (.int .i64 y)) = ((k ++ [y]) ++ zerosI (n - (i + 1))).map (.int .i64) := by
  subst hk
  unfold zerosI
  rw [iV_set, show n - k.length = (n - (k.length + 1)) + 1 by omega, List.replicate_succ, List.set_append_right _ _ (Nat.le_refl _), Nat.sub_self]
  simp
theorem kids_at (k : List Int) (n i : Nat) (hk : k.length = i) (hi : i < n) : ((k ++ zerosI (n - i)).map (Value.int .i64))[i]? = some (.int .i64 0) := by
  subst hk
  unfold zerosI
  rw [List.getElem?_map, List.getElem?_append_right (Nat.le_refl _), Nat.sub_self, List.getElem?_replicate, if_pos (by omega)]; rfl
theorem ints_tail {w : World} {b o n c : Nat} {a : Int} {p : List Int} (h : IntsC w (.slice (some ⟨b, o, none⟩) n c) (a :: p) c) : IntsC w (.slice (if c = 1 then some ⟨b, o, none⟩ else some ⟨b, o + 1, none⟩) p.length (c - 1)) p (c - 1) := by
  obtain ⟨A, hv, hc, hn, hm⟩ := h
  injection hv with hA _ _
  subst hA
  simp only [List.length_cons] at hn hm
  refine ⟨_, rfl, fun hl => ?_, by omega, by omega⟩
  obtain ⟨b', o', he, hb, hcc⟩ := hc (by simp)
  cases he
  have h1 : c ≠ 1 := by simp at hl; omega
  rw [if_neg h1]
  refine ⟨b, o + 1, rfl, hb, fun j u hj => ?_⟩
  have := hcc (j + 1) u (by simpa using hj)
  rw [show o + 1 + j = o + (j + 1) by omega]; exact this
theorem inv_step {W0 W : World} {x : Lts} {b9 b10 b11 b12 S g i : Nat} {a l : Int} {p ls : List Int} {Q : Asn} {L K M : List (Nd × Value)} {rest : List Asn}
    (hK : K.map Prod.fst = (kidsT x (mkT x p) S L.length (ls.take i)).2) (hst : kidsT x (mkT x p) S L.length (ls.take (i + 1)) = kidB x (mkT x p) S L.length (kidsT x (mkT x p) S L.length (ls.take i)) l)
    (hkl : (kidsT x (mkT x p) S L.length (ls.take i)).1.length = i) (hi : i < ls.length) (hM : M.map Prod.fst = subT x (mkT x p) S (L.length + 1 + K.length) l) (hlen : L.length + 1 + K.length + M.length ≤ 1024)
    (hO : TestSt W0 W b10 ((L ++ (⟨a, []⟩, .slice none 0 0) :: K) ++ M) (.blk b12 (.cells #[fNode b10] 99) :: .blk b11 (.cells #[fAdd b9 b10 b11 b12] 98) :: .row 3 1 (.slice (some ⟨g, 0, none⟩) ls.length ls.length) ls.length ((((kidsT x (mkT x p) S L.length (ls.take i)).1 ++ zerosI (ls.length - i)).map (.int .i64)).set i (.int .i64 ((L.length : Int) + 1 + (K.length : Int)))) :: Q :: rest)) :
    InvK W0 x b9 b10 b11 b12 S a p ls g Q L rest (i + 1) W := by
  have hKn : K.length = (kidsT x (mkT x p) S L.length (ls.take i)).2.length := by rw [← hK, List.length_map]
  rw [show (L.length : Int) + 1 + (K.length : Int) = ((L.length + 1 + K.length : Nat) : Int) by omega, kids_set _ _ _ _ hkl hi, List.append_assoc, List.cons_append] at hO
  refine ⟨K ++ M, ?_, by rw [List.length_append]; omega, ?_⟩
  · rw [hst, List.map_append, hK, hM, hKn]; rfl
  · rw [hst]
    unfold kidB
    rw [← hKn]
    exact hO
theorem inv_over {x : Lts} {S n i : Nat} {a l : Int} {p ls : List Int} {K : List (Nd × Value)} (hK : K.map Prod.fst = (kidsT x (mkT x p) S n (ls.take i)).2)
    (hst : kidsT x (mkT x p) S n (ls.take (i + 1)) = kidB x (mkT x p) S n (kidsT x (mkT x p) S n (ls.take i)) l) (hbig : 1 + (kidsT x (mkT x p) S n (ls.take (i + 1))).2.length ≤ (mkT x (a :: p) S n).length)
    (ho : 1024 < n + 1 + K.length + (subT x (mkT x p) S (n + 1 + K.length) l).length) : 1024 < n + (mkT x (a :: p) S n).length := by
  have hKn : K.length = (kidsT x (mkT x p) S n (ls.take i)).2.length := by rw [← hK, List.length_map]
  rw [hst] at hbig
  unfold kidB at hbig
  rw [List.length_append, ← hKn] at hbig
  omega
theorem TestSt.row {W0 W : World} {b n : Nat} {L : List (Nd × Value)} {rest : List Asn} (h : TestSt W0 W b L rest) (hn : n = L.length) (hpos : 0 < n) : ∃ g cap F, W.cell? ⟨b, 0, none⟩ = some (.slice (some ⟨g, 0, none⟩) n cap) ∧ (∀ (j : Nat) (u : Value), (ndsV L)[j]? = some u → W.cell? ⟨g, j, none⟩ = some u) ∧ (∀ j, W.frozen? ⟨g, j, none⟩ = false) ∧ OwnL W0 W (testA b (.slice (some ⟨g, 0, none⟩) n cap) F L rest) := by
  subst hn
  obtain ⟨v, F, h⟩ := h
  have h1 : W.ownsRow W0.heap.size 56 2 v L.length (ndsV L) := h.get 1 rfl
  obtain ⟨g, cap, rfl⟩ := ownsRow_pos h1 hpos
  refine ⟨g, cap, F, cell_of_blk (h.get 0 rfl).2 0 rfl, fun j u hj => cell_at_own h1 hj, fun j => ?_, h⟩
  rcases h1.2 with ⟨h2, _⟩ | ⟨g', cap', cur, h2, _, hg, _⟩
  · cases h2
  · cases h2; exact free_of_blk hg j
set_option maxRecDepth 100000 in
set_option maxHeartbeats 16000000 in
theorem add_t15 (W0 W : World) (x : Lts) (b9 b10 b11 b12 S cp : Nat) (a : Int) (p : List Int) (Ap : Option Addr) (lv : Value) (F : Nat → Prop) (L : List (Nd × Value)) (rest : List Asn) (c6 c7 c8 c9 c11 c13 c14 c15 c16 c17 c18 c19 c20 c21 c22 c23 c24 c25 c26 c27 c28 c29 c30 c31 c32 c33 c34 c35 c36 c37 c38 c39 c40 c41 c42 c43 c44 c45 c46 c47 c48 c49 c50 c51 c52 c53 c54 c55 c56 c57 c58 c59 c60 c61 c62 c63 c64 c65 c66 c67 c68 c69 c70 c71 c72 c73 c74 c75 c76 c77 c78 c79 c80 c81 c82 c83 c84 c85 c86 c87 c88 c89 c90 c91 c92 c93 c94 c95 c96 c97 c98 c99 c100 c101 c102 c103 c104 c105 c106 c107 c108 c109 c110 c111 c112 c113 c114 c115 c116 c117 c118 c119 c120 c121 : Value)
    (hT : Tab W0) (hx : Good x) (hb9 : BoxS W0 b9 x) (hS : S < 2 ^ x.n) (hp : IntsC W0 (.slice Ap (p.length + 1) cp) (a :: p) cp) (ha : a = -1 ∨ 0 ≤ a ∧ a < x.ins) (hnz : a = -1 ∨ aftM x S a ≠ 0)
    (hL : L.length + 1 ≤ 1024) (IH : AddS x W0 b9 b10 b11 b12 p)
    (hO : TestSt W0 W b10 (L ++ [(⟨a, []⟩, .slice none 0 0)]) (restA b9 b10 b11 b12 (labA F lv (labsOf x a) :: rest))) :
    Code.wp Tryd.prog (T52 15) (bodyPost Tryd.prog Tryd.f52 (AddP x W0 b9 b10 b11 b12 (a :: p) S L rest)) ⟨(.int .u64 S :: .slice Ap (p.length + 1) cp :: .pointer (some ⟨b9, 0, none⟩) :: .pointer (some ⟨b12, 0, none⟩) :: .pointer (some ⟨b11, 0, none⟩) :: .pointer (some ⟨b10, 0, none⟩) :: c6 :: c7 :: c8 :: c9 :: .int .i64 L.length :: c11 :: lv :: c13 :: c14 :: c15 :: c16 :: c17 :: c18 :: c19 :: c20 :: c21 :: c22 :: c23 :: c24 :: c25 :: c26 :: c27 :: c28 :: c29 :: c30 :: c31 :: c32 :: c33 :: c34 :: c35 :: c36 :: c37 :: c38 :: c39 :: c40 :: c41 :: c42 :: c43 :: c44 :: c45 :: c46 :: c47 :: c48 :: c49 :: c50 :: c51 :: c52 :: c53 :: c54 :: c55 :: c56 :: c57 :: c58 :: c59 :: c60 :: c61 :: c62 :: c63 :: c64 :: c65 :: c66 :: c67 :: c68 :: c69 :: c70 :: c71 :: c72 :: c73 :: c74 :: c75 :: c76 :: c77 :: c78 :: c79 :: c80 :: c81 :: c82 :: c83 :: c84 :: c85 :: c86 :: c87 :: c88 :: c89 :: c90 :: c91 :: c92 :: c93 :: c94 :: c95 :: c96 :: c97 :: c98 :: c99 :: c100 :: c101 :: c102 :: c103 :: c104 :: c105 :: c106 :: c107 :: c108 :: c109 :: c110 :: c111 :: c112 :: c113 :: c114 :: c115 :: c116 :: c117 :: c118 :: c119 :: c120 :: c121 :: []).toArray, []⟩ W := by
  conv => arg 2; whnf
  obtain ⟨pA, pc, pB, pd, p0, p1, p2, p3, pS⟩ := hb9
  have p0 := fun w' (h : Ext W0 w') => h.cell p0
  have p1 := fun w' (h : Ext W0 w') => h.cell p1
  have p2 := fun w' (h : Ext W0 w') => h.cell p2
  have p3 := fun w' (h : Ext W0 w') => h.cell p3
  have hll := labsOf_len hx a
  have hlin := labsOf_in hx ha
  have HX := Lib.hid (And.intro hT (And.intro hx (And.intro hS (And.intro hp (And.intro hnz (And.intro hlin pS))))))
  have HIH := Lib.hid IH
  obtain ⟨cl, hlv⟩ : ∃ c, IntsC W lv (labsOf x a) c := by
    obtain ⟨v, F2, h⟩ := hO
    exact OwnL.know h 5 rfl
  obtain ⟨Al, rfl, hlc, hln, hlm⟩ := id hlv
  have hmk := mk_ints (labsOf x a).length (by omega)
  have HO := Lib.hid hO
  generalize hls : labsOf x a = ls at *
  have HLS := Lib.hid hls
  clear hT hx hS hp ha hnz IH hO hlin hls hlv hlc pS
  go_upto_region 16 with fail
  have hO1 := HO.out.alloc3 (alloc_ext W (.cells (Array.replicate ls.length (.int .i64 0)) 3)) (C := .row 3 1 (.slice (some ⟨W.heap.size, 0, none⟩) ls.length ls.length) ls.length (List.replicate ls.length (.int .i64 0))) (own_new W _ 3 ls.length (by omega))
  have hI0 : InvK W0 x b9 b10 b11 b12 S a p ls W.heap.size (labA F (.slice Al ls.length cl) ls) L rest 0 (W.alloc (.cells (Array.replicate ls.length (.int .i64 0)) 3)) := ⟨[], rfl, by simpa using hL, by
    have h : (((kidsT x (mkT x p) S L.length (ls.take 0)).1 ++ zerosI (ls.length - 0)).map (Value.int .i64)) = List.replicate ls.length (.int .i64 0) := by
      show (([] ++ zerosI (ls.length - 0)).map (Value.int .i64)) = _
      unfold zerosI; simp
    rw [h]; exact hO1⟩
  have HI0 := Lib.hid hI0
  clear hI0 hO1 HO hmk
  generalize W.heap.size = g at *
  unfold lenMax at hlm
  refine wp_named ?_
  intro W1 hW1
  rw [← hW1] at HI0
  clear hW1
  go_wp2
  go_loopw [82] (fun iv wr => ∃ i : Nat, iv = .int .i64 i ∧ i ≤ ls.length ∧ InvK W0 x b9 b10 b11 b12 S a p ls g (labA F (.slice Al ls.length cl) ls) L rest i wr) (fun iv _ => ls.length - (intOf iv).toNat)
  case atStart => exact ⟨0, rfl, by omega, HI0.out⟩
  case round =>
    clear HI0
    obtain ⟨i, rfl, hi, HI⟩ := hrel
    obtain ⟨W5, hW5⟩ : ∃ W, W = wr := ⟨_, rfl⟩; subst hW5
    by_cases hlt : i < ls.length
    · obtain ⟨K, hK, hKl, hOK⟩ := HI
      obtain ⟨l, hl⟩ : ∃ l, ls[i]? = some l := ⟨_, List.getElem?_eq_getElem hlt⟩
      have hE5 := hOK.ext
      obtain ⟨bl, ol, rfl, hcl⟩ : ∃ b o, Al = some ⟨b, o, none⟩ ∧ W5.cell? ⟨b, o + i, none⟩ = some (.int .i64 l) := by
        obtain ⟨v, F2, h⟩ := hOK
        obtain ⟨c, A, hv, hc, _⟩ := OwnL.know h 6 rfl
        injection hv with hA _ _
        subst hA
        exact int_at hc hl
      have haf := after_any W5 _ x S l (HX.out.2.2.2.2.2.2.ext hE5) HX.out.2.1 HX.out.2.2.1 (HX.out.1.ext hE5)
      have hTl := aftM_lt HX.out.2.1 HX.out.2.2.1 l
      have hst := kidsT_take x (mkT x p) S L.length hl
      have hkl := kidsT_len x (mkT x p) S L.length (ls.take i)
      rw [List.length_take, Nat.min_eq_left hi] at hkl
      have hbig := mkT_len (x := x) (a := a) (p := p) (S := S) (f := L.length) HX.out.2.2.2.2.1 (i + 1)
      rw [HLS.out] at hbig
      have hKn : K.length = (kidsT x (mkT x p) S L.length (ls.take i)).2.length := by rw [← hK, List.length_map]
      have u0 := fun w' (h : Ext W5 w') => p0 w' ((hE5).trans h)
      have u1 := fun w' (h : Ext W5 w') => p1 w' ((hE5).trans h)
      have u2 := fun w' (h : Ext W5 w') => p2 w' ((hE5).trans h)
      have u3 := fun w' (h : Ext W5 w') => p3 w' ((hE5).trans h)
      clear p0 p1 p2 p3
      have HK := Lib.hid (And.intro hK (And.intro hOK (And.intro hst (And.intro hkl (And.intro hbig hKn)))))
      have HE5 := Lib.hid hE5
      have hR5 := Ext.refl W5
      clear hK hOK hst hkl hbig hl hE5 hKn
      generalize hTd : aftM x S l = T at *
      have HT := Lib.hid hTd
      clear hTd
      by_cases hz : T = 0
      · have hz1 : ((T : Int) != 0) = false := by simp; omega
        subst hz
        have hLn : (L ++ (((⟨a, []⟩, .slice none 0 0) : Nd × Value) :: K)).length ≤ 1024 := by simp; omega
        have hLe : (L ++ (((⟨a, []⟩, .slice none 0 0) : Nd × Value) :: K)).length = L.length + 1 + K.length := by simp; omega
        have hxi := Lib.hid (kids_at (kidsT x (mkT x p) S L.length (ls.take i)).1 ls.length i HK.out.2.2.2.1 hlt)
        go_upto_region 22 with ((with_reducible refine haf.mono ?_); rintro e w6 ⟨rfl, e6⟩)
        have hO6 := HK.out.2.1.trans e6
        have c12 := (TestSt.addC hO6).2
        unfold fNode at c12
        have hnode := node_any W0 w6 b10 _ _ (-3) hO6 hLn
        rw [hLe] at hnode
        obtain ⟨fit, hfit⟩ : ∃ fit, fit = fitsB (L.length + 1 + K.length + 1) := ⟨_, rfl⟩
        rw [← hfit] at hnode
        have HF := Lib.hid hfit
        have hsub : Hid (subT x (mkT x p) S (L.length + 1 + K.length) l = [⟨-3, []⟩]) := Lib.hid (by unfold subT; rw [HT.out]; rfl)
        clear hfit hO6 haf u0 u1 u2 u3 hcl
        cases fit with
        | true =>
          go_wp2_with (first | ((with_reducible refine hnode.mono ?_); rintro e w7 ⟨rfl, hO7⟩; have s7 := (TestSt.nextRow hO7 i (.int .i64 0)).1 _ hxi.out; have g7 := (TestSt.nextRow hO7 i (.int .i64 0)).2.1; have HO8 := Lib.hid (TestSt.nextRow hO7 i (.int .i64 ((L.length : Int) + 1 + (K.length : Int)))).2.2; clear hO7))
          have hle : L.length + 1 + K.length + 1 ≤ 1024 := by have h := HF.out.symm; unfold fitsB at h; have := of_decide_eq_true h; omega
          have HI' := Lib.hid (inv_step (M := [(⟨-3, []⟩, .slice none 0 0)]) HK.out.1 HK.out.2.2.1 HK.out.2.2.2.1 hlt (by rw [hsub.out]; rfl) (by simp; omega) HO8.out)
          exact ⟨⟨i + 1, by go_num, hlt, HI'.out⟩, by simp [intOf]; omega⟩
        | false =>
          go_wp2_with (first | ((with_reducible refine hnode.mono ?_); rintro e w7 ⟨rfl, hO7⟩; have s7 := (TestSt.nextRow hO7 i (.int .i64 0)).1 _ hxi.out; have g7 := (TestSt.nextRow hO7 i (.int .i64 0)).2.1; have HO8 := Lib.hid (TestSt.nextRow hO7 i (.int .i64 ((L.length : Int) + 1 + (K.length : Int)))).2.2; clear hO7))
          have hgt : 1024 < L.length + 1 + K.length + 1 := by have h := HF.out.symm; unfold fitsB at h; have := of_decide_eq_false h; omega
          have HOV : Hid (1024 < L.length + (mkT x (a :: p) S L.length).length) := Lib.hid (inv_over HK.out.1 HK.out.2.2.1 HK.out.2.2.2.2.1 (by rw [hsub.out]; exact hgt))
          go_ret2
          exact ⟨L.length, false, _, rfl, HO8.out.drop3.drop3, .inr ⟨rfl, HOV.out⟩⟩
      · have hz1 : ((T : Int) != 0) = true := by simp; omega
        have HZ := Lib.hid hz
        clear hz
        obtain ⟨bp, op, hAp⟩ : ∃ b o, Ap = some ⟨b, o, none⟩ := by
          obtain ⟨A, hv, hc, _⟩ := HX.out.2.2.2.1
          injection hv with hA _ _
          subst hA
          obtain ⟨b, o, h, _⟩ := hc (by simp)
          exact ⟨b, o, h⟩
        subst hAp
        have hpt := ints_tail HX.out.2.2.2.1
        have hcp : p.length + 1 ≤ cp ∧ p.length + 1 ≤ 9223372036854775807 := by
          obtain ⟨A, hv, hc, h1, h2⟩ := HX.out.2.2.2.1
          unfold lenMax at h2
          exact ⟨by simpa using h1, by simpa using h2⟩
        have hLn : (L ++ (((⟨a, []⟩, .slice none 0 0) : Nd × Value) :: K)).length ≤ 1024 := by simp; omega
        have hLe : (L ++ (((⟨a, []⟩, .slice none 0 0) : Nd × Value) :: K)).length = L.length + 1 + K.length := by simp; omega
        go_upto_region 21 with ((with_reducible refine haf.mono ?_); rintro e w6 ⟨rfl, e6⟩)
        have hO6 := HK.out.2.1.trans e6
        have c11 := (TestSt.addC hO6).1
        unfold fAdd at c11
        have hb1 := cut_tail bp op p.length cp hcp.1
        obtain ⟨A', hA'⟩ : ∃ A' : Option Addr, A' = if cp = 1 then some ⟨bp, op, none⟩ else some ⟨bp, op + 1, none⟩ := ⟨_, rfl⟩
        rw [← hA'] at hpt
        simp only [← hA'] at hb1
        clear hA'
        have hcall := fun W (e : Ext w6 W) => HIH.out _ W T (cp - 1) _ _ hTl hLn hpt (hO6.trans e)
        have hb2 : ((p.length + 1 : Nat) : Int) ≤ (cp : Int) := by omega
        clear hpt u0 u1 u2 u3 hcl haf
        have HO6 := Lib.hid hO6
        have hxi := Lib.hid (kids_at (kidsT x (mkT x p) S L.length (ls.take i)).1 ls.length i HK.out.2.2.2.1 hlt)
        clear hO6
        · go_region_held3 (fun w' => w'.cell? ⟨b11, 0, none⟩ = some (.func (.func 52) #[] #[.pointer (some ⟨b9, 0, none⟩), .pointer (some ⟨b12, 0, none⟩), .pointer (some ⟨b11, 0, none⟩), .pointer (some ⟨b10, 0, none⟩)])) (first | assumption | exact s8 _) (first | ((with_reducible refine (hcall _ (by first | exact (Ext.refl _).drew | exact Ext.refl _)).mono ?_); rintro e w7 ⟨z, fit, L', rfl, hO7, hres⟩; have c11 := (TestSt.addC hO7).1; unfold fAdd at c11; have s7 := (TestSt.nextRow hO7 i (.int .i64 0)).1 _ hxi.out; have g7 := (TestSt.nextRow hO7 i (.int .i64 0)).2.1; have s8 := fun u => (TestSt.addC (TestSt.nextRow hO7 i u).2.2).1; unfold fAdd at s8; have HR7 := Lib.hid (And.intro hO7 hres); clear hO7 hres))
          clear c11 s7 g7 s8 hcall hxi HO6 hb1 hb2
          have hO8 := (TestSt.nextRow HR7.out.1 i (.int .i64 z)).2.2
          have hsub : Hid (subT x (mkT x p) S (L.length + 1 + K.length) l = mkT x p T (L.length + 1 + K.length)) := Lib.hid (by unfold subT; rw [HT.out, if_neg HZ.out])
          rcases HR7.out.2 with ⟨hf, hzz, hle, M, hM, hL'⟩ | ⟨hf, hgt⟩
          · subst hf hzz hL'
            rw [hLe] at hO8 hle hM
            have HI' : Hid (InvK W0 x b9 b10 b11 b12 S a p ls g (labA F (.slice (some ⟨bl, ol, none⟩) ls.length cl) ls) L rest (i + 1) _) := Lib.hid (inv_step HK.out.1 HK.out.2.2.1 HK.out.2.2.2.1 hlt (by rw [hM, hsub.out]) (by rw [← hM, List.length_map] at hle; exact hle) hO8)
            clear hO8 hle hM HR7 HK
            go_wp2
            go_roundw
            case rel => exact ⟨i + 1, by go_num, hlt, HI'.out⟩
            case measure => simp [intOf]; omega
          · subst hf
            rw [hLe] at hgt
            have HOV : Hid (1024 < L.length + (mkT x (a :: p) S L.length).length) := Lib.hid (inv_over HK.out.1 HK.out.2.2.1 HK.out.2.2.2.2.1 (by rw [hsub.out]; exact hgt))
            have HO8 := Lib.hid hO8.drop3.drop3
            clear hO8 hgt HR7 HK
            go_wp2
            go_ret2
            exact ⟨L.length, false, L', rfl, HO8.out, .inr ⟨rfl, HOV.out⟩⟩
    · obtain rfl : i = ls.length := by omega
      obtain ⟨K, hK, hKl, hOK⟩ := HI
      have hLe : (L ++ (((⟨a, []⟩, .slice none 0 0) : Nd × Value) :: K)).length = L.length + 1 + K.length := by simp; omega
      have hkn := kidsT_len x (mkT x p) S L.length ls
      rw [Nat.sub_self, List.take_length, show zerosI 0 = [] from rfl, List.append_nil] at hOK
      rw [List.take_length] at hK
      obtain ⟨g5, cap5, F5, c5, d5, f5, hOW⟩ := hOK.row hLe.symm (by omega)
      have d5 := d5 (L.length * 2 + 1) (.slice none 0 0) (nds_get (i := L.length) (r := (⟨a, []⟩, .slice none 0 0)) (by rw [List.getElem?_append_right (Nat.le_refl _), Nat.sub_self]; rfl) 1 _ rfl)
      have f5 := f5 (L.length * 2 + 1)
      have hmk := mkT_node (x := x) (a := a) (p := p) (S := S) (f := L.length) HX.out.2.2.2.2.1
      rw [HLS.out] at hmk
      have hI1 : (L.length : Int) < ((L.length + 1 + K.length : Nat) : Int) := by omega
      have hcl : TestSt W0 (W5.setCell ⟨g5, L.length * 2 + 1, none⟩ (.slice (some ⟨g, 0, none⟩) ls.length ls.length)) b10 (L ++ (⟨a, (kidsT x (mkT x p) S L.length ls).1⟩, .slice (some ⟨g, 0, none⟩) ls.length ls.length) :: K) (.blk b12 (.cells #[fNode b10] 99) :: .blk b11 (.cells #[fAdd b9 b10 b11 b12] 98) :: labA F (.slice Al ls.length cl) ls :: rest) := by
        refine test_close (n := L.length + 1 + K.length) (cap := cap5) (F := F5) ?_ hLe.symm (by rw [hkn]; unfold lenMax; omega)
        rw [hkn]
        exact hOW
      have HC := Lib.hid hcl.drop3
      have HM := Lib.hid (And.intro hmk hK)
      clear hcl hmk hK hOK hOW hkn hLe p0 p1 p2 p3
      go_wp2
      go_ret2
      have hKn : K.length = (kidsT x (mkT x p) S L.length ls).2.length := by rw [← HM.out.2, List.length_map]
      refine ⟨L.length, true, _, rfl, HC.out, .inl ⟨rfl, rfl, ?_, _, ?_, rfl⟩⟩
      · rw [HM.out.1, List.length_cons, ← hKn]; omega
      · rw [HM.out.1, List.map_cons, HM.out.2]
end Go.Proofs.YtamodjlifpjaoaaDoor

namespace Go.Proofs.YtamodjlifpjaoaaDoor
open Go.RowKit
set_option linter.unusedVariables false
set_option linter.unusedSimpArgs false
attribute [local go_sem] Oper.quietV quietV Oper.gives givesV ext_refl_iff ext_alloc_iff ext_drew_iff ext_drewN_iff
theorem TestSt.seal3 {W0 W : World} {b : Nat} {L : List (Nd × Value)} {A B : Asn} {v : Value} {ls : List Int} {n : Nat} {rest : List Asn} (h : TestSt W0 W b L (A :: B :: .row 3 1 v n (ls.map (.int .i64)) :: rest)) (hn : ls.length = n) (hl : n ≤ lenMax) : ∃ F, TestSt W0 W b L (A :: B :: labA F v ls :: rest) := by
  subst hn
  obtain ⟨u, F, h⟩ := h
  have h3 := ((h.perm (List.perm_middle (l₁ := [_, _, _, A, B]))).seal (Φ := fun W => ∃ c, IntsC W v ls c) (fun W' h => ints_of_owns h hl)).perm (List.perm_middle (l₁ := [_, _, _, A, B])).symm
  exact ⟨_, u, F, h3⟩
theorem TestSt.app3 {W0 W W' : World} {b : Nat} {L : List (Nd × Value)} {A B : Asn} {v v' : Value} {xs xs' : List Value} {n n' : Nat} {rest : List Asn} (h : TestSt W0 W b L (A :: B :: .row 3 1 v n xs :: rest)) (hg : W.grownBy W' v.ownBlock) (ho : W'.ownsRow W0.heap.size 3 1 v' n' xs')
    (hb : ∀ b, v'.ownBlock = some b → v.ownBlock = some b ∨ W.heap.size ≤ b) : TestSt W0 W' b L (A :: B :: .row 3 1 v' n' xs' :: rest) := by
  obtain ⟨u, F, h⟩ := h
  exact ⟨u, F, h.app 5 rfl hg ho hb⟩
theorem TestSt.row3 {W0 W : World} {b : Nat} {L : List (Nd × Value)} {A B : Asn} {v : Value} {xs : List Value} {n : Nat} {rest : List Asn} (h : TestSt W0 W b L (A :: B :: .row 3 1 v n xs :: rest)) : W.ownsRow W0.heap.size 3 1 v n xs := by
  obtain ⟨u, F, h⟩ := h
  exact h.get 5 rfl
theorem obs_take {x : Lts} {j : Nat} (hj : j < x.O + 1) : (obsLabs x).take (j + 1) = (obsLabs x).take j ++ [x.ins + (j : Int)] := by
  have h : (obsLabs x)[j]? = some (x.ins + (j : Int)) := by unfold obsLabs; rw [List.getElem?_map, List.getElem?_range hj]; rfl
  rw [List.take_add_one, h]; rfl
theorem obs_len (x : Lts) : (obsLabs x).length = x.O + 1 := by unfold obsLabs; simp
set_option maxRecDepth 100000 in
set_option maxHeartbeats 16000000 in
theorem add_t8 (W0 W : World) (x : Lts) (b9 b10 b11 b12 S cp : Nat) (a : Int) (p : List Int) (Ap : Option Addr) (L : List (Nd × Value)) (rest : List Asn) (c6 c7 c8 c9 c11 c12 c13 c14 c15 c16 c17 c18 c19 c20 c21 c22 c23 c24 c25 c26 c27 c28 c29 c30 c31 c32 c33 c34 c35 c36 c37 c38 c39 c40 c41 c42 c43 c44 c45 c46 c47 c48 c49 c50 c51 c52 c53 c54 c55 c56 c57 c58 c59 c60 c61 c62 c63 c64 c65 c66 c67 c68 c69 c70 c71 c72 c73 c74 c75 c76 c77 c78 c79 c80 c81 c82 c83 c84 c85 c86 c87 c88 c89 c90 c91 c92 c93 c94 c95 c96 c97 c98 c99 c100 c101 c102 c103 c104 c105 c106 c107 c108 c109 c110 c111 c112 c113 c114 c115 c116 c117 c118 c119 c120 c121 : Value)
    (hT : Tab W0) (hx : Good x) (hb9 : BoxS W0 b9 x) (hS : S < 2 ^ x.n) (hp : IntsC W0 (.slice Ap (p.length + 1) cp) (a :: p) cp) (ha : a = -1 ∨ 0 ≤ a ∧ a < x.ins) (hnz : a = -1 ∨ aftM x S a ≠ 0)
    (hL : L.length + 1 ≤ 1024) (IH : AddS x W0 b9 b10 b11 b12 p)
    (hO : TestSt W0 W b10 (L ++ [(⟨a, []⟩, .slice none 0 0)]) (restA b9 b10 b11 b12 rest)) :
    Code.wp Tryd.prog (T52 8) (bodyPost Tryd.prog Tryd.f52 (AddP x W0 b9 b10 b11 b12 (a :: p) S L rest)) ⟨(.int .u64 S :: .slice Ap (p.length + 1) cp :: .pointer (some ⟨b9, 0, none⟩) :: .pointer (some ⟨b12, 0, none⟩) :: .pointer (some ⟨b11, 0, none⟩) :: .pointer (some ⟨b10, 0, none⟩) :: c6 :: c7 :: c8 :: c9 :: .int .i64 L.length :: c11 :: c12 :: c13 :: c14 :: c15 :: c16 :: c17 :: c18 :: c19 :: c20 :: c21 :: c22 :: c23 :: c24 :: c25 :: c26 :: c27 :: c28 :: c29 :: c30 :: c31 :: c32 :: c33 :: c34 :: c35 :: c36 :: c37 :: c38 :: c39 :: c40 :: c41 :: c42 :: c43 :: c44 :: c45 :: c46 :: c47 :: c48 :: c49 :: c50 :: c51 :: c52 :: c53 :: c54 :: c55 :: c56 :: c57 :: c58 :: c59 :: c60 :: c61 :: c62 :: c63 :: c64 :: c65 :: c66 :: c67 :: c68 :: c69 :: c70 :: c71 :: c72 :: c73 :: c74 :: c75 :: c76 :: c77 :: c78 :: c79 :: c80 :: c81 :: c82 :: c83 :: c84 :: c85 :: c86 :: c87 :: c88 :: c89 :: c90 :: c91 :: c92 :: c93 :: c94 :: c95 :: c96 :: c97 :: c98 :: c99 :: c100 :: c101 :: c102 :: c103 :: c104 :: c105 :: c106 :: c107 :: c108 :: c109 :: c110 :: c111 :: c112 :: c113 :: c114 :: c115 :: c116 :: c117 :: c118 :: c119 :: c120 :: c121 :: []).toArray, []⟩ W := by
  conv => arg 2; whnf
  obtain ⟨i3, hi3, hz3, hs3, hb3⟩ := info_parts int_info
  have HB9 := Lib.hid hb9
  have HX := Lib.hid (And.intro hT (And.intro hx (And.intro hS (And.intro hp (And.intro ha hnz)))))
  have HIH := Lib.hid IH
  obtain ⟨bp, op, hAp, hcp, hp0⟩ : ∃ b o, Ap = some ⟨b, o, none⟩ ∧ p.length + 1 ≤ 9223372036854775807 ∧ W.cell? ⟨b, o, none⟩ = some (.int .i64 a) := by
    obtain ⟨A, hv, hc, h1, h2⟩ := hp
    injection hv with hA _ _
    subst hA
    obtain ⟨b, o, h, hcc⟩ := int_at hc (k := 0) (y := a) rfl
    exact ⟨b, o, h, by unfold lenMax at h2; simpa using h2, hO.ext.cell hcc⟩
  subst hAp
  have hpI : (0 : Int) < ((p.length + 1 : Nat) : Int) := by omega
  have HO := Lib.hid hO
  clear hT hx hb9 hS hp ha hnz IH hO
  go_upto_region 9 with fail
  have hO1 := HO.out.alloc3 (alloc_ext W (.cells #[.int .i64 a] 3)) (C := .row 3 1 (.slice (some ⟨W.heap.size, 0, none⟩) 1 1) 1 (([a]).map (.int .i64))) (World.ownsRow_lit (base := W.heap.size) (e := 3) (size := 1) W #[.int .i64 a] 1 (Nat.le_refl _) (by unfold maxLen; omega) rfl)
  have hp1 := (alloc_ext W (.cells #[.int .i64 a] 3)).cell hp0
  have HO1 := Lib.hid hO1
  clear hO1 hp0 HO
  generalize W.heap.size = g at *
  refine wp_named ?_
  intro W1 hW1
  rw [← hW1] at HO1 hp1
  clear hW1
  by_cases hw : a = -1
  · subst hw
    obtain ⟨pA, pc, pB, pd, p0, p1, p2, p3, pS⟩ := HB9.out
    have p0 := fun w' (h : Ext W0 w') => h.cell p0
    have p1 := fun w' (h : Ext W0 w') => h.cell p1
    have p2 := fun w' (h : Ext W0 w') => h.cell p2
    have p3 := fun w' (h : Ext W0 w') => h.cell p3
    have hE1 := HO1.out.ext
    have q0 := p0 W1 hE1
    have HPB := Lib.hid (And.intro p0 (And.intro p1 (And.intro p2 p3)))
    have HP := Lib.hid pS
    have hII := Lib.hid (And.intro HX.out.2.1.II HX.out.2.1.OO)
    have hIO := Lib.hid (And.intro HX.out.2.1.ins HX.out.2.1.outs)
    have HN : Hid (TestSt W0 W1 b10 (L ++ [(⟨-1, []⟩, .slice none 0 0)]) (.blk b12 (.cells #[fNode b10] 99) :: .blk b11 (.cells #[fAdd b9 b10 b11 b12] 98) :: .row 3 1 (.slice none 0 0) ((obsLabs x).take 0).length (((obsLabs x).take 0).map (.int .i64)) :: rest)) := Lib.hid (HO1.out.drop3.alloc3 (Ext.refl W1) (World.ownsRow_nil W1 _ 3 1))
    clear HO1 p0 p1 p2 p3 pS hE1
    go_upto_region 12 with fail
    clear q0
    go_loopw [12, 13] (fun lv iv wr => ∃ j : Nat, iv = .int .i64 (x.ins + (j : Int)) ∧ j ≤ x.O + 1 ∧ TestSt W0 wr b10 (L ++ [(⟨-1, []⟩, .slice none 0 0)]) (.blk b12 (.cells #[fNode b10] 99) :: .blk b11 (.cells #[fAdd b9 b10 b11 b12] 98) :: .row 3 1 lv ((obsLabs x).take j).length (((obsLabs x).take j).map (.int .i64)) :: rest)) (fun _ iv _ => (x.ins + (x.O : Int) + 1 - intOf iv).toNat)
    case atStart => exact ⟨0, by simp, by omega, HN.out⟩
    case round =>
      clear HN
      obtain ⟨j, rfl, hj, hO⟩ := hrel
      obtain ⟨W5, hW5⟩ : ∃ W, W = wr := ⟨_, rfl⟩; subst hW5
      have hE5 := hO.ext
      have hlab := labels_any W5 _ x (HP.out.ext hE5) HX.out.2.1
      have k0 := fun w' (h : Ext W5 w') => HPB.out.1 w' (hE5.trans h)
      have k1 := fun w' (h : Ext W5 w') => HPB.out.2.1 w' (hE5.trans h)
      have k2 := fun w' (h : Ext W5 w') => HPB.out.2.2.1 w' (hE5.trans h)
      have k3 := fun w' (h : Ext W5 w') => HPB.out.2.2.2 w' (hE5.trans h)
      have hR5 := Ext.refl W5
      have HO := Lib.hid hO
      have hII1 := hII.out.2.1
      have hII2 := hII.out.2.2
      clear hO hE5
      by_cases hlt : j < x.O + 1
      · have hltI : x.ins + (j : Int) < x.ins + x.outs + 1 := by omega
        have HT := Lib.hid (obs_take hlt)
        have hjl : ((obsLabs x).take j).length = j := by rw [List.length_take, obs_len]; omega
        have hlen : ((obsLabs x).take (j + 1)).length = j + 1 := by rw [List.length_take, obs_len]; omega
        have HJ := Lib.hid (And.intro hjl hlen)
        have h63 : IntKind.i64.wrap (x.ins + (j : Int) + 1) = x.ins + (j : Int) + 1 := by have := hIO.out; rw [IntKind.wrap_i64]; omega
        have hrow := TestSt.row3 HO.out
        rw [hjl] at hrow
        have hsz := HO.out.ext.size
        clear hjl hlen
        go_upto_region 14 with ((with_reducible refine hlab.mono ?_); rintro e W6 ⟨rfl, e6⟩)
        have hrow6 := ownsRow_ext hrow e6
        have hsz6 : W0.heap.size ≤ W6.heap.size := Nat.le_trans hsz e6.size
        have HO6 := Lib.hid (HO.out.trans e6)
        clear hrow k0 k1 k2 k3 hlab
        go_wp2_with (at_builtin; refine wpList_append_own2 rfl _ _ 30 rfl W0.heap.size 3 i3 (.int .i64 0) 1 8 Tryd.underlying30 hi3 hz3 hs3 hb3 rfl (by decide) u12 j (((obsLabs x).take j).map (.int .i64)) rfl (World.ownsRow.alloc hrow6 _) ⟨W6.heap.size, 0, none⟩ 1 1 [.int .i64 (x.ins + (j : Int))] rfl rfl (new_cell _ _ _ _ rfl) (one_int _) (by unfold maxLen; omega) (by omega) (by simp; omega) ?_; intro v8 w8 hown8 hg8 hb8; have HO8 := Lib.hid (TestSt.app3 (HO6.out.trans (alloc_ext W6 (.cells #[.int .i64 (x.ins + (j : Int))] 3))) hg8 hown8 hb8); clear hown8 hg8 hb8)
        go_roundw
        case rel => exact ⟨j + 1, by go_num, by omega, by rw [HJ.out.2, HT.out, List.map_append]; exact HO8.out⟩
        case measure => simp [intOf]; omega
      · obtain rfl : j = x.O + 1 := by omega
        have hltI : ¬ (x.ins + ((x.O + 1 : Nat) : Int) < x.ins + x.outs + 1) := by omega
        have hall : (obsLabs x).take (x.O + 1) = labsOf x (-1) := by rw [← obs_len, List.take_length]; rfl
        rw [hall] at HO
        have hll := labsOf_len HX.out.2.1 (-1)
        obtain ⟨F, hF⟩ := HO.out.seal3 rfl (by unfold lenMax; omega)
        have HF := Lib.hid hF
        clear hall hF hll
        go_upto_region 999 with (first | ((with_reducible refine hlab.mono ?_); rintro e W6 ⟨rfl, e6⟩) | (with_reducible refine stop_at 15 ?_) | (with_reducible refine stop_at2 15 ?_))
        refine ⟨?_⟩
        exact add_t15 W0 W6 x b9 b10 b11 b12 S cp (-1) p _ _ F L rest _ _ _ _ _ _ _ _ _ _ _ _ _ _ _ _ _ _ _ _ _ _ _ _ _ _ _ _ _ _ _ _ _ _ _ _ _ _ _ _ _ _ _ _ _ _ _ _ _ _ _ _ _ _ _ _ _ _ _ _ _ _ _ _ _ _ _ _ _ _ _ _ _ _ _ _ _ _ _ _ _ _ _ _ _ _ _ _ _ _ _ _ _ _ _ _ _ _ _ _ _ _ _ _ _ _ _ _ _ _ _ _ _ _ HX.out.1 HX.out.2.1 HB9.out HX.out.2.2.1 HX.out.2.2.2.1 (.inl rfl) (.inl rfl) hL HIH.out (HF.out.trans e6)
  · have hw1 : (a == -1) = false := by simpa using hw
    have hls : labsOf x a = [a] := if_neg hw
    obtain ⟨F, hF⟩ := HO1.out.seal3 rfl (by unfold lenMax; omega)
    rw [← hls] at hF
    have HF := Lib.hid hF
    clear hw hls hF
    go_upto_region 999 with (first | (with_reducible refine stop_at 15 ?_) | (with_reducible refine stop_at2 15 ?_))
    refine ⟨?_⟩
    exact add_t15 W0 W1 x b9 b10 b11 b12 S cp a p _ _ F L rest _ _ _ _ _ _ _ _ _ _ _ _ _ _ _ _ _ _ _ _ _ _ _ _ _ _ _ _ _ _ _ _ _ _ _ _ _ _ _ _ _ _ _ _ _ _ _ _ _ _ _ _ _ _ _ _ _ _ _ _ _ _ _ _ _ _ _ _ _ _ _ _ _ _ _ _ _ _ _ _ _ _ _ _ _ _ _ _ _ _ _ _ _ _ _ _ _ _ _ _ _ _ _ _ _ _ _ _ _ _ _ _ _ _ HX.out.1 HX.out.2.1 HB9.out HX.out.2.2.1 HX.out.2.2.2.1 HX.out.2.2.2.2.1 HX.out.2.2.2.2.2 hL HIH.out HF.out
set_option maxRecDepth 100000 in
set_option maxHeartbeats 16000000 in
theorem add_t3 (W0 W : World) (x : Lts) (b9 b10 b11 b12 S c : Nat) (p : List Int) (pv : Value) (L : List (Nd × Value)) (rest : List Asn) (c6 c7 c8 c9 c10 c11 c12 c13 c14 c15 c16 c17 c18 c19 c20 c21 c22 c23 c24 c25 c26 c27 c28 c29 c30 c31 c32 c33 c34 c35 c36 c37 c38 c39 c40 c41 c42 c43 c44 c45 c46 c47 c48 c49 c50 c51 c52 c53 c54 c55 c56 c57 c58 c59 c60 c61 c62 c63 c64 c65 c66 c67 c68 c69 c70 c71 c72 c73 c74 c75 c76 c77 c78 c79 c80 c81 c82 c83 c84 c85 c86 c87 c88 c89 c90 c91 c92 c93 c94 c95 c96 c97 c98 c99 c100 c101 c102 c103 c104 c105 c106 c107 c108 c109 c110 c111 c112 c113 c114 c115 c116 c117 c118 c119 c120 c121 : Value)
    (hT : Tab W0) (hx : Good x) (hb9 : BoxS W0 b9 x) (hS : S < 2 ^ x.n) (hp : IntsC W0 pv p c) (ha : okPlan x p) (hnz : ∀ a q, p = a :: q → a = -1 ∨ aftM x S a ≠ 0)
    (hL : L.length ≤ 1024) (IH : ∀ a q, p = a :: q → AddS x W0 b9 b10 b11 b12 q)
    (hO : TestSt W0 W b10 L (restA b9 b10 b11 b12 rest)) :
    Code.wp Tryd.prog (T52 3) (bodyPost Tryd.prog Tryd.f52 (AddP x W0 b9 b10 b11 b12 p S L rest)) ⟨(.int .u64 S :: pv :: .pointer (some ⟨b9, 0, none⟩) :: .pointer (some ⟨b12, 0, none⟩) :: .pointer (some ⟨b11, 0, none⟩) :: .pointer (some ⟨b10, 0, none⟩) :: c6 :: c7 :: c8 :: c9 :: c10 :: c11 :: c12 :: c13 :: c14 :: c15 :: c16 :: c17 :: c18 :: c19 :: c20 :: c21 :: c22 :: c23 :: c24 :: c25 :: c26 :: c27 :: c28 :: c29 :: c30 :: c31 :: c32 :: c33 :: c34 :: c35 :: c36 :: c37 :: c38 :: c39 :: c40 :: c41 :: c42 :: c43 :: c44 :: c45 :: c46 :: c47 :: c48 :: c49 :: c50 :: c51 :: c52 :: c53 :: c54 :: c55 :: c56 :: c57 :: c58 :: c59 :: c60 :: c61 :: c62 :: c63 :: c64 :: c65 :: c66 :: c67 :: c68 :: c69 :: c70 :: c71 :: c72 :: c73 :: c74 :: c75 :: c76 :: c77 :: c78 :: c79 :: c80 :: c81 :: c82 :: c83 :: c84 :: c85 :: c86 :: c87 :: c88 :: c89 :: c90 :: c91 :: c92 :: c93 :: c94 :: c95 :: c96 :: c97 :: c98 :: c99 :: c100 :: c101 :: c102 :: c103 :: c104 :: c105 :: c106 :: c107 :: c108 :: c109 :: c110 :: c111 :: c112 :: c113 :: c114 :: c115 :: c116 :: c117 :: c118 :: c119 :: c120 :: c121 :: []).toArray, []⟩ W := by
  conv => arg 2; whnf
  have c12 := (TestSt.addC hO).2
  unfold fNode at c12
  have hn := fun a W' (e : Ext W W') => node_any W0 W' b10 L _ a (hO.trans e) hL
  obtain ⟨fit, hfit⟩ : ∃ fit, fit = fitsB (L.length + 1) := ⟨_, rfl⟩
  rw [← hfit] at hn
  have HF := Lib.hid hfit
  have HB9 := Lib.hid hb9
  have HX := Lib.hid (And.intro hT (And.intro hx (And.intro hS hp)))
  have HIH := Lib.hid (And.intro IH (And.intro ha hnz))
  have hE := hO.ext
  clear hfit hT hx hS hb9 IH ha hnz hO
  cases p with
  | nil =>
    obtain ⟨A, rfl, _, _, _⟩ := hp
    have hn := hn (-2) W (Ext.refl W)
    have HM : Hid (mkT x [] S L.length = [⟨-2, []⟩]) := Lib.hid rfl
    go_wp2_with (first | ((with_reducible refine hn.mono ?_); rintro e w7 ⟨rfl, hO7⟩; have HO7 := Lib.hid hO7; clear hO7))
    go_ret2
    cases fit with
    | true =>
      have hle : L.length + 1 ≤ 1024 := by have h := HF.out.symm; unfold fitsB at h; have := of_decide_eq_true h; omega
      exact ⟨L.length, true, _, rfl, HO7.out, .inl ⟨rfl, rfl, by rw [HM.out]; exact hle, [(⟨-2, []⟩, .slice none 0 0)], by rw [HM.out]; rfl, rfl⟩⟩
    | false =>
      have hgt : 1024 < L.length + 1 := by have h := HF.out.symm; unfold fitsB at h; have := of_decide_eq_false h; omega
      exact ⟨L.length, false, _, rfl, HO7.out, .inr ⟨rfl, by rw [HM.out]; exact hgt⟩⟩
  | cons a q =>
    have hn := hn a
    obtain ⟨bp, op, hpv, hcp, hp0⟩ : ∃ b o, pv = .slice (some ⟨b, o, none⟩) (q.length + 1) c ∧ q.length + 1 ≤ 9223372036854775807 ∧ W0.cell? ⟨b, o, none⟩ = some (.int .i64 a) := by
      obtain ⟨A, hv, hc, h1, h2⟩ := hp
      obtain ⟨b, o, h, hcc⟩ := int_at hc (k := 0) (y := a) rfl
      subst h
      exact ⟨b, o, by rw [hv]; simp, by unfold lenMax at h2; simpa using h2, hcc⟩
    have HC0 := Lib.hid hp0
    have hp0 := hE.cell hp0
    subst hpv
    have hpI : (0 : Int) < ((q.length + 1 : Nat) : Int) := by omega
    have hnz := HIH.out.2.2 a q rfl
    have HNZ := Lib.hid hnz
    have HML := Lib.hid (mkT_node (p := q) (f := L.length) hnz)
    clear hnz hE hp
    go_upto_region 5 with fail
    go_region_held3 (fun w' => w'.cell? ⟨b12, 0, none⟩ = some (.func (.func 51) #[] #[.pointer (some ⟨b10, 0, none⟩)]) ∧ w'.cell? ⟨bp, op, none⟩ = some (.int .i64 a)) (first | (refine ⟨?_, ?_⟩ <;> assumption)) (first | ((with_reducible refine (hn _ (by first | exact (Ext.refl _).drew | exact Ext.refl _)).mono ?_); rintro e w7 ⟨rfl, hO7⟩; have d12 := (TestSt.addC hO7).2; unfold fNode at d12; have dp := hO7.ext.cell HC0.out; have HO7 := Lib.hid hO7; clear hO7))
    clear hn c12 hp0 d12 dp
    cases fit with
    | true =>
      have hle : L.length + 1 ≤ 1024 := by have h := HF.out.symm; unfold fitsB at h; have := of_decide_eq_true h; omega
      go_upto_region 999 with (first | (with_reducible refine stop_at 8 ?_) | (with_reducible refine stop_at2 8 ?_))
      refine ⟨?_⟩
      exact add_t8 W0 w7 x b9 b10 b11 b12 S c a q _ L rest _ _ _ _ _ _ _ _ _ _ _ _ _ _ _ _ _ _ _ _ _ _ _ _ _ _ _ _ _ _ _ _ _ _ _ _ _ _ _ _ _ _ _ _ _ _ _ _ _ _ _ _ _ _ _ _ _ _ _ _ _ _ _ _ _ _ _ _ _ _ _ _ _ _ _ _ _ _ _ _ _ _ _ _ _ _ _ _ _ _ _ _ _ _ _ _ _ _ _ _ _ _ _ _ _ _ _ _ _ _ _ _ _ _ _ HX.out.1 HX.out.2.1 HB9.out HX.out.2.2.1 (by simpa using HX.out.2.2.2) (HIH.out.2.1 a (by simp)) HNZ.out hle (HIH.out.1 a q rfl) HO7.out
    | false =>
      have hgt : 1024 < L.length + (mkT x (a :: q) S L.length).length := by
        have h := HF.out.symm
        unfold fitsB at h
        have h1 := of_decide_eq_false h
        have h2 := mkT_pos x (a :: q) S L.length
        omega
      have HG := Lib.hid hgt
      clear hgt
      go_wp2
      go_ret2
      exact ⟨L.length, false, _, rfl, HO7.out, .inr ⟨rfl, HG.out⟩⟩
theorem AddP_eq {x : Lts} {W0 : World} {b9 b10 b11 b12 S : Nat} {p q : List Int} {L : List (Nd × Value)} {rest : List Asn} (h : mkT x q S L.length = mkT x p S L.length) : AddP x W0 b9 b10 b11 b12 q S L rest = AddP x W0 b9 b10 b11 b12 p S L rest := by
  unfold AddP; rw [h]
set_option maxRecDepth 100000 in
set_option maxHeartbeats 16000000 in
theorem add_step (W0 : World) (x : Lts) (b9 b10 b11 b12 : Nat) (p : List Int) (hT : Tab W0) (hx : Good x) (hb9 : BoxS W0 b9 x) (hok : okPlan x p) (IH : ∀ q, q.length < p.length → okPlan x q → AddS x W0 b9 b10 b11 b12 q) : AddS x W0 b9 b10 b11 b12 p := by
  intro rest W S c L pv hS hL hp hO
  obtain ⟨A, rfl, _, _, hpm⟩ := id hp
  unfold lenMax at hpm
  have HX := Lib.hid (And.intro hT (And.intro hx (And.intro hb9 hS)))
  have HO := Lib.hid hO
  have HP := Lib.hid (And.intro hp hok)
  have HIH := Lib.hid IH
  obtain ⟨pA, pc, pB, pd, p0, p1, p2, p3, pS⟩ := hb9
  have p0 := fun w' (h : Ext W0 w') => h.cell p0
  have p1 := fun w' (h : Ext W0 w') => h.cell p1
  have p2 := fun w' (h : Ext W0 w') => h.cell p2
  have p3 := fun w' (h : Ext W0 w') => h.cell p3
  have HPB := Lib.hid (And.intro p0 (And.intro p1 (And.intro p2 (And.intro p3 pS))))
  clear hT hx hS hp hok hO IH p0 p1 p2 p3 pS
  go_enter Tryd.func52, Tryd.ntmps52
  go_wp2
  go_loopw [1] (fun pv wr => ∃ (q : List Int) (A : Option Addr) (c : Nat), pv = .slice A q.length c ∧ Hid (IntsC W0 pv q c ∧ q.length ≤ p.length ∧ okPlan x q ∧ mkT x q S L.length = mkT x p S L.length) ∧ TestSt W0 wr b10 L (restA b9 b10 b11 b12 rest)) (fun pv _ => lenV pv)
  case atStart => exact ⟨p, A, c, rfl, Lib.hid ⟨HP.out.1, Nat.le_refl _, HP.out.2, rfl⟩, HO.out⟩
  case round =>
    clear HO hpm
    obtain ⟨q, A, c, rfl, HQ, hO⟩ := hrel
    obtain ⟨W5, hW5⟩ : ∃ W, W = wr := ⟨_, rfl⟩; subst hW5
    have hE5 := hO.ext
    have k0 := fun w' (h : Ext W5 w') => HPB.out.1 w' (hE5.trans h)
    have k1 := fun w' (h : Ext W5 w') => HPB.out.2.1 w' (hE5.trans h)
    have k2 := fun w' (h : Ext W5 w') => HPB.out.2.2.1 w' (hE5.trans h)
    have k3 := fun w' (h : Ext W5 w') => HPB.out.2.2.2.1 w' (hE5.trans h)
    have hR5 := Ext.refl W5
    have HO := Lib.hid hO
    clear hO
    cases q with
    | nil =>
      clear k0 k1 k2 k3
      go_upto_region 1 with fail
      refine wp_region_ext 15 (factsOf []) (fun k => ([[], [0], [0, 1], [0, 1, 2], [0, 1, 2, 3], [0, 1, 2, 3, 4], [0, 1, 2, 3, 4, 5], [0, 1, 2, 3, 4, 5, 6], [0, 1, 2, 3, 4, 5, 6, 7], [0, 1, 2, 3, 4, 5, 6, 7, 8], [0, 1, 2, 3, 4, 5, 6, 7, 8, 9], [0, 1, 2, 3, 4, 5, 6, 7, 8, 9], [0, 1, 2, 3, 4, 5, 6, 7, 8, 9], [0, 1, 2, 3, 4, 5, 6, 7, 8, 9, 12], [0, 1, 2, 3, 4, 5, 6, 7, 8, 9, 12, 13], [0, 1, 2, 3, 4, 5, 6, 7, 8, 9, 10, 11, 12, 13, 14], [0, 1, 2, 3, 4, 5, 6, 7, 8, 9, 10, 11, 12, 13, 14, 15], [0, 1, 2, 3, 4, 5, 6, 7, 8, 9, 10, 11, 12, 13, 14, 15, 16]] : List (List Nat)).getD k []) (by kernel_rfl) (by kernel_rfl) Ext.pre (mono_nil) ?_
      simp only [List.take_succ_cons, List.take_zero]
      repeat (first | (with_reducible refine lexL_quiet' (v := ?_) ?_ ?_ ?_ ?_; rotate_left; (· with_reducible rfl); (· simp [factsOf]); (· intro w1 hw1 _; go_simp; with_reducible rfl); (try simp only [Act.put, List.setIfInBounds_toArray, List.set_cons_zero, List.set_cons_succ])) | (with_reducible refine lexL_skip ?_ ?_; (· simp [Region.wanted, yielded, undef]); (try simp only [Act.put, List.setIfInBounds_toArray, List.set_cons_zero, List.set_cons_succ])) | (with_reducible refine lexL_quiet (v := ?_) ?_ ?_ ?_ ?_; rotate_left; (· simp [Region.wanted, yielded, undef]); (· simp [factsOf]); (· intro w1 hw1 _; go_simp; with_reducible rfl); (try simp only [Act.put, List.setIfInBounds_toArray, List.set_cons_zero, List.set_cons_succ])))
      with_reducible refine lexL_nil ?_; intro w1 hw1 hk1; simp only [List.drop_succ_cons, List.drop_zero]
      clear hk1 hR5
      have HW := Lib.hid hw1
      clear hw1
      go_upto_region 999 with (first | (with_reducible refine stop_at 3 ?_) | (with_reducible refine stop_at2 3 ?_))
      refine ⟨?_⟩
      rw [← AddP_eq HQ.out.2.2.2]
      exact add_t3 W0 _ x b9 b10 b11 b12 S c [] _ L rest _ _ _ _ _ _ _ _ _ _ _ _ _ _ _ _ _ _ _ _ _ _ _ _ _ _ _ _ _ _ _ _ _ _ _ _ _ _ _ _ _ _ _ _ _ _ _ _ _ _ _ _ _ _ _ _ _ _ _ _ _ _ _ _ _ _ _ _ _ _ _ _ _ _ _ _ _ _ _ _ _ _ _ _ _ _ _ _ _ _ _ _ _ _ _ _ _ _ _ _ _ _ _ _ _ _ _ _ _ _ _ _ _ _ _ _ HX.out.1 HX.out.2.1 HX.out.2.2.1 HX.out.2.2.2 HQ.out.1 HQ.out.2.2.1 (fun a q h => by cases h) hL (fun a q h => by cases h) (HO.out.trans HW.out)
    | cons a q =>
      obtain ⟨bp, op, hpv, hcp, hp0⟩ : ∃ b o, A = some ⟨b, o, none⟩ ∧ q.length + 1 ≤ c ∧ W5.cell? ⟨b, o, none⟩ = some (.int .i64 a) := by
        obtain ⟨A1, hv, hc, h1, h2⟩ := HQ.out.1
        injection hv with hA _ _
        subst hA
        obtain ⟨b, o, h, hcc⟩ := int_at hc (k := 0) (y := a) rfl
        exact ⟨b, o, h, by simpa using h1, hE5.cell hcc⟩
      subst hpv
      have hlq : q.length + 1 ≤ 9223372036854775807 := by
        obtain ⟨A1, hv, hc, h1, h2⟩ := HQ.out.1
        unfold lenMax at h2
        simpa using h2
      have hpI : (0 : Int) < ((q.length + 1 : Nat) : Int) := by omega
      have hp0 := fun w' (h : Ext W5 w') => h.cell hp0
      have haf := fun W (e : Ext W5 W) => after_any W _ x S a (HPB.out.2.2.2.2.ext (hE5.trans e)) HX.out.2.1 HX.out.2.2.2 (HX.out.1.ext (hE5.trans e))
      have hok := HQ.out.2.2.1 a (by simp)
      have HOK := Lib.hid hok
      have HE5 := Lib.hid hE5
      clear hE5
      by_cases hw : a = -1
      · have g1 : (a != -1) = false := by simp [hw]
        go_upto_region 1 with fail
        refine wp_region_ext 15 (factsOf []) (fun k => ([[], [0], [0, 1], [0, 1, 2], [0, 1, 2, 3], [0, 1, 2, 3, 4], [0, 1, 2, 3, 4, 5], [0, 1, 2, 3, 4, 5, 6], [0, 1, 2, 3, 4, 5, 6, 7], [0, 1, 2, 3, 4, 5, 6, 7, 8], [0, 1, 2, 3, 4, 5, 6, 7, 8, 9], [0, 1, 2, 3, 4, 5, 6, 7, 8, 9], [0, 1, 2, 3, 4, 5, 6, 7, 8, 9], [0, 1, 2, 3, 4, 5, 6, 7, 8, 9, 12], [0, 1, 2, 3, 4, 5, 6, 7, 8, 9, 12, 13], [0, 1, 2, 3, 4, 5, 6, 7, 8, 9, 10, 11, 12, 13, 14], [0, 1, 2, 3, 4, 5, 6, 7, 8, 9, 10, 11, 12, 13, 14, 15], [0, 1, 2, 3, 4, 5, 6, 7, 8, 9, 10, 11, 12, 13, 14, 15, 16]] : List (List Nat)).getD k []) (by kernel_rfl) (by kernel_rfl) Ext.pre (mono_nil) ?_
        simp only [List.take_succ_cons, List.take_zero]
        repeat (first | (with_reducible refine lexL_quiet' (v := ?_) ?_ ?_ ?_ ?_; rotate_left; (· with_reducible rfl); (· simp [factsOf]); (· intro w1 hw1 _; go_simp; with_reducible rfl); (try simp only [Act.put, List.setIfInBounds_toArray, List.set_cons_zero, List.set_cons_succ])) | (with_reducible refine lexL_skip ?_ ?_; (· simp [Region.wanted, yielded, undef]); (try simp only [Act.put, List.setIfInBounds_toArray, List.set_cons_zero, List.set_cons_succ])) | (with_reducible refine lexL_quiet (v := ?_) ?_ ?_ ?_ ?_; rotate_left; (· simp [Region.wanted, yielded, undef]); (· simp [factsOf]); (· intro w1 hw1 _; go_simp; with_reducible rfl); (try simp only [Act.put, List.setIfInBounds_toArray, List.set_cons_zero, List.set_cons_succ])))
        with_reducible refine lexL_nil ?_; intro w1 hw1 hk1; simp only [List.drop_succ_cons, List.drop_zero]
        clear hk1 k0 k1 k2 k3 hR5 haf hp0
        have HW := Lib.hid hw1
        clear hw1
        go_upto_region 999 with (first | (with_reducible refine stop_at 3 ?_) | (with_reducible refine stop_at2 3 ?_))
        refine ⟨?_⟩
        rw [← AddP_eq HQ.out.2.2.2]
        exact add_t3 W0 _ x b9 b10 b11 b12 S c (a :: q) _ L rest _ _ _ _ _ _ _ _ _ _ _ _ _ _ _ _ _ _ _ _ _ _ _ _ _ _ _ _ _ _ _ _ _ _ _ _ _ _ _ _ _ _ _ _ _ _ _ _ _ _ _ _ _ _ _ _ _ _ _ _ _ _ _ _ _ _ _ _ _ _ _ _ _ _ _ _ _ _ _ _ _ _ _ _ _ _ _ _ _ _ _ _ _ _ _ _ _ _ _ _ _ _ _ _ _ _ _ _ _ _ _ _ _ _ _ _ HX.out.1 HX.out.2.1 HX.out.2.2.1 HX.out.2.2.2 HQ.out.1 HQ.out.2.2.1 (fun a' q' h => by cases h; exact .inl hw) hL (fun a' q' h => by cases h; exact HIH.out _ (by have := HQ.out.2.1; simp at this; omega) (fun z hz => HQ.out.2.2.1 z (by simp [hz]))) (HO.out.trans HW.out)
      · have g1 : (a != -1) = true := by simp [hw]
        go_upto_region 1 with fail
        refine wp_region_ext 15 (factsOf []) (fun k => ([[], [0], [0, 1], [0, 1, 2], [0, 1, 2, 3], [0, 1, 2, 3, 4], [0, 1, 2, 3, 4, 5], [0, 1, 2, 3, 4, 5, 6], [0, 1, 2, 3, 4, 5, 6, 7], [0, 1, 2, 3, 4, 5, 6, 7, 8], [0, 1, 2, 3, 4, 5, 6, 7, 8, 9], [0, 1, 2, 3, 4, 5, 6, 7, 8, 9], [0, 1, 2, 3, 4, 5, 6, 7, 8, 9], [0, 1, 2, 3, 4, 5, 6, 7, 8, 9, 12], [0, 1, 2, 3, 4, 5, 6, 7, 8, 9, 12, 13], [0, 1, 2, 3, 4, 5, 6, 7, 8, 9, 10, 11, 12, 13, 14], [0, 1, 2, 3, 4, 5, 6, 7, 8, 9, 10, 11, 12, 13, 14, 15], [0, 1, 2, 3, 4, 5, 6, 7, 8, 9, 10, 11, 12, 13, 14, 15, 16]] : List (List Nat)).getD k []) (by kernel_rfl) (by kernel_rfl) Ext.pre (mono_nil) ?_
        simp only [List.take_succ_cons, List.take_zero]
        repeat (first | (with_reducible refine lexL_quiet' (v := ?_) ?_ ?_ ?_ ?_; rotate_left; (· with_reducible rfl); (· simp [factsOf]); (· intro w1 hw1 _; go_simp; with_reducible rfl); (try simp only [Act.put, List.setIfInBounds_toArray, List.set_cons_zero, List.set_cons_succ])) | (with_reducible refine lexL_skip ?_ ?_; (· simp [Region.wanted, yielded, undef]); (try simp only [Act.put, List.setIfInBounds_toArray, List.set_cons_zero, List.set_cons_succ])) | (with_reducible refine lexL_quiet (v := ?_) ?_ ?_ ?_ ?_; rotate_left; (· simp [Region.wanted, yielded, undef]); (· simp [factsOf]); (· intro w1 hw1 _; go_simp; with_reducible rfl); (try simp only [Act.put, List.setIfInBounds_toArray, List.set_cons_zero, List.set_cons_succ])))
        with_reducible refine lexL_nil ?_; intro w1 hw1 hk1; simp only [List.drop_succ_cons, List.drop_zero]
        have haf1 := haf w1 hw1
        have HW := Lib.hid hw1
        clear hk1 k0 k1 k2 k3 hR5 haf hp0 hw1
        have hpt := ints_tail HQ.out.1
        have hb1 := cut_tail bp op q.length c hcp
        obtain ⟨A', hA'⟩ : ∃ A' : Option Addr, A' = if c = 1 then some ⟨bp, op, none⟩ else some ⟨bp, op + 1, none⟩ := ⟨_, rfl⟩
        rw [← hA'] at hpt
        simp only [← hA'] at hb1
        clear hA'
        have HPT := Lib.hid hpt
        clear hpt
        cases h0 : ((aftM x S a : Nat) : Int) == 0 with
        | true =>
          have h00 : aftM x S a = 0 := by simpa using h0
          have HM := Lib.hid (mkT_skip (p := q) (f := L.length) hw h00)
          clear h00
          go_upto_region 2 with ((with_reducible refine haf1.mono ?_); rintro e W6 ⟨rfl, e6⟩)
          go_wp2
          go_roundw
          case rel => exact ⟨q, A', c - 1, rfl, Lib.hid ⟨HPT.out, by have := HQ.out.2.1; simp at this; omega, fun z hz => HQ.out.2.2.1 z (by simp [hz]), by rw [← HM.out]; exact HQ.out.2.2.2⟩, HO.out.trans (HW.out.trans e6)⟩
          case measure => simp [lenV]
        | false =>
          have h00 : Hid (aftM x S a ≠ 0) := Lib.hid (by simpa using h0)
          clear hb1
          go_upto_region 999 with (first | ((with_reducible refine haf1.mono ?_); rintro e W6 ⟨rfl, e6⟩) | (with_reducible refine stop_at 3 ?_) | (with_reducible refine stop_at2 3 ?_))
          refine ⟨?_⟩
          rw [← AddP_eq HQ.out.2.2.2]
          exact add_t3 W0 _ x b9 b10 b11 b12 S c (a :: q) _ L rest _ _ _ _ _ _ _ _ _ _ _ _ _ _ _ _ _ _ _ _ _ _ _ _ _ _ _ _ _ _ _ _ _ _ _ _ _ _ _ _ _ _ _ _ _ _ _ _ _ _ _ _ _ _ _ _ _ _ _ _ _ _ _ _ _ _ _ _ _ _ _ _ _ _ _ _ _ _ _ _ _ _ _ _ _ _ _ _ _ _ _ _ _ _ _ _ _ _ _ _ _ _ _ _ _ _ _ _ _ _ _ _ _ _ _ _ HX.out.1 HX.out.2.1 HX.out.2.2.1 HX.out.2.2.2 HQ.out.1 HQ.out.2.2.1 (fun a' q' h => by cases h; exact .inr h00.out) hL (fun a' q' h => by cases h; exact HIH.out _ (by have := HQ.out.2.1; simp at this; omega) (fun z hz => HQ.out.2.2.1 z (by simp [hz]))) (HO.out.trans (HW.out.trans e6))
theorem add_any (W0 : World) (x : Lts) (b9 b10 b11 b12 : Nat) (hT : Tab W0) (hx : Good x) (hb9 : BoxS W0 b9 x) : ∀ (n : Nat) (p : List Int), p.length ≤ n → okPlan x p → AddS x W0 b9 b10 b11 b12 p
  | 0, p, h, hok => add_step W0 x b9 b10 b11 b12 p hT hx hb9 hok (fun q hq => absurd hq (by omega))
  | n + 1, p, h, hok => add_step W0 x b9 b10 b11 b12 p hT hx hb9 hok (fun q hq hq2 => add_any W0 x b9 b10 b11 b12 hT hx hb9 n q (by omega) hq2)
end Go.Proofs.YtamodjlifpjaoaaDoor

namespace Go.Proofs.YtamodjlifpjaoaaDoor
open Go.RowKit
set_option linter.unusedVariables false
set_option linter.unusedSimpArgs false
attribute [local go_sem] Oper.quietV quietV Oper.gives givesV ext_refl_iff ext_alloc_iff ext_drew_iff ext_drewN_iff
/-- A slice of nodes. -/
def NodesC (w : World) (v : Value) (L : List Nd) (c : Nat) : Prop := ∃ (A : Option Addr) (M : List (Nd × Value)), M.map Prod.fst = L ∧ v = .slice A L.length c ∧ Cells w A (ndsV M) ∧ NdOk M w ∧ L.length ≤ c ∧ L.length ≤ lenMax
theorem NodesC.ext {w w' : World} {v : Value} {L : List Nd} {c : Nat} (h : NodesC w v L c) (e : Ext w w') : NodesC w' v L c := by
  obtain ⟨A, M, h1, h2, h3, h4, h5⟩ := h
  exact ⟨A, M, h1, h2, h3.ext e, fun z hz => by obtain ⟨c, h⟩ := h4 z hz; exact ⟨c, h.ext e⟩, h5⟩
theorem nodes_nil (W : World) : NodesC W (.slice none 0 0) [] 0 := ⟨none, [], rfl, rfl, Cells.nil _ _, (fun e he => by cases he), Nat.le_refl _, Nat.zero_le _⟩
/-- A node: what it does, and what follows it. -/
theorem NodesC.at_ {w : World} {v : Value} {L : List Nd} {c : Nat} (h : NodesC w v L c) {k : Nat} {nd : Nd} (hk : L[k]? = some nd) :
    ∃ b o u c', v = .slice (some ⟨b, o, none⟩) L.length c ∧ w.cell? ⟨b, o + k * 2, none⟩ = some (.int .i64 nd.act) ∧ w.cell? ⟨b, o + k * 2 + 1, none⟩ = some u ∧ IntsC w u nd.next c' := by
  obtain ⟨A, M, rfl, rfl, hc, hok, _⟩ := h
  rw [List.getElem?_map] at hk
  cases hM : M[k]? with
  | none => rw [hM] at hk; cases hk
  | some e =>
    rw [hM] at hk
    cases hk
    have hkl := (List.getElem?_eq_some_iff.1 hM).1
    obtain ⟨b, o, rfl, _, hcc⟩ := hc (by rw [nds_len]; omega)
    obtain ⟨c', hi⟩ := hok e (List.mem_of_getElem? hM)
    exact ⟨b, o, e.2, c', rfl, hcc _ _ (nds_get hM 0 _ rfl), by rw [Nat.add_assoc]; exact hcc _ _ (nds_get hM 1 _ rfl), hi⟩
theorem clipN_any (w : World) (A : Option Addr) (n c : Nat) (hn : n ≤ c) (hn' : n ≤ 100000) : Calls Tryd.prog 53 #[.slice A n c] w fun e w' => e = .returned (.slice A n n) ∧ w = w' := by
  have hz1 : (n : Int) ≤ (c : Int) := by omega
  go_enter Tryd.func53, Tryd.ntmps53
  go_wp2
  go_ret
  exact ⟨rfl, rfl⟩
def badP (x : Lts) (a : Int) : Bool := decide (a ≠ -1) && (decide (a < 0) || decide (x.ins ≤ a))
def makeR (x : Lts) (p : List Int) : List Nd × Int :=
  if checkI x ≠ 0 then ([], checkI x) else if 256 < p.length then ([], 3) else if p.any (badP x) then ([], 1) else if 1024 < (mkT x p (begM x) 0).length then ([], 3) else (mkT x p (begM x) 0, 0)
def MakeP (w : World) (r : List Nd × Int) (e : Ending) (w' : World) : Prop := ∃ rv, e = .returned (.tuple #[rv, .int .i64 r.2]) ∧ NodesC w' rv r.1 r.1.length ∧ Ext w w'
noncomputable def T24 (n : Nat) : Code := textR n Tryd.f24.body
theorem okPlan_of {x : Lts} {p : List Int} (h : p.any (badP x) = false) : okPlan x p := fun a ha => by
  have := List.any_eq_false.1 h a ha
  unfold badP at this
  simp only [Bool.and_eq_true, Bool.or_eq_true, decide_eq_true_eq, not_and, not_or] at this
  by_cases h1 : a = -1
  · exact .inl h1
  · have := this h1; exact .inr (by omega)
def makeS (x : Lts) (p : List Int) : List Nd × Int := if 1024 < (mkT x p (begM x) 0).length then ([], 3) else (mkT x p (begM x) 0, 0)
set_option maxRecDepth 100000 in
set_option maxHeartbeats 16000000 in
theorem make_t13 (w W : World) (x : Lts) (b9 c : Nat) (p : List Int) (pv : Value) (c0 c2 c3 c4 c5 c6 c7 c8 c10 c11 c12 c13 c14 c15 c16 c17 c18 c19 c20 c21 c22 c23 c24 c25 c26 c27 c28 c29 c30 c31 c32 c33 c34 c35 c36 c37 c38 c39 c40 c41 c42 c43 c44 c45 c46 c47 c48 c49 c50 c51 c52 c53 c54 c55 c56 c57 : Value) (h0 : Ext w W) (hT : Tab W) (hx : Good x) (hb9 : BoxS W b9 x) (hp : IntsC W pv p c) (hok : okPlan x p) :
    Code.wp Tryd.prog (T24 13) (bodyPost Tryd.prog Tryd.f24 (MakeP w (makeS x p))) ⟨(c0 :: pv :: c2 :: c3 :: c4 :: c5 :: c6 :: c7 :: c8 :: .pointer (some ⟨b9, 0, none⟩) :: c10 :: c11 :: c12 :: c13 :: c14 :: c15 :: c16 :: c17 :: c18 :: c19 :: c20 :: c21 :: c22 :: c23 :: c24 :: c25 :: c26 :: c27 :: c28 :: c29 :: c30 :: c31 :: c32 :: c33 :: c34 :: c35 :: c36 :: c37 :: c38 :: c39 :: c40 :: c41 :: c42 :: c43 :: c44 :: c45 :: c46 :: c47 :: c48 :: c49 :: c50 :: c51 :: c52 :: c53 :: c54 :: c55 :: c56 :: c57 :: []).toArray, []⟩ W := by
  conv => arg 2; whnf
  have HX := Lib.hid (And.intro h0 (And.intro hT (And.intro hx (And.intro hb9 (And.intro hp hok)))))
  clear h0 hT hx hb9 hp hok
  go_upto_region 14 with fail
  refine wp_named ?_
  intro Wa hWa
  have hOa : OwnL W Wa [.blk W.heap.size (.cells #[.slice none 0 0] 48)] := by
    rw [hWa]; exact (OwnL.nil (Ext.refl W)).add (alloc_ext W _) (A := .blk W.heap.size (.cells #[.slice none 0 0] 48)) ⟨Nat.le_refl _, heap_alloc_new W _⟩
  clear hWa
  generalize W.heap.size = b10 at *
  go_upto_region 15 with fail
  refine wp_named ?_
  intro Wb hWb
  have hOb : OwnL W Wb [.blk Wa.heap.size (.cells #[.nilFunc] 98), .blk b10 (.cells #[.slice none 0 0] 48)] := by
    rw [hWb]; exact hOa.add (alloc_ext Wa _) (A := .blk Wa.heap.size (.cells #[.nilFunc] 98)) ⟨Nat.le_refl _, heap_alloc_new Wa _⟩
  clear hWb hOa
  generalize Wa.heap.size = b11 at *
  go_upto_region 16 with fail
  refine wp_named ?_
  intro Wc hWc
  have hOc : OwnL W Wc [.blk Wb.heap.size (.cells #[fNode b10] 99), .blk b11 (.cells #[.nilFunc] 98), .blk b10 (.cells #[.slice none 0 0] 48)] := by
    rw [hWc]; exact hOb.add (alloc_ext Wb _) (A := .blk Wb.heap.size (.cells #[fNode b10] 99)) ⟨Nat.le_refl _, heap_alloc_new Wb _⟩
  clear hWc hOb
  generalize Wb.heap.size = b12 at *
  have c11 := cell_of_blk (hOc.get 1 rfl).2 0 (u := .nilFunc) rfl
  have f11 := free_of_blk (hOc.get 1 rfl).2 0
  have hOd : OwnL W _ [.blk b12 (.cells #[fNode b10] 99), .blk b11 (.cells #[fAdd b9 b10 b11 b12] 98), .blk b10 (.cells #[.slice none 0 0] 48)] := hOc.put 1 rfl 0 (fAdd b9 b10 b11 b12)
  have hOd := (hOd.perm (List.perm_middle (l₁ := [_, _]))).add (Ext.refl _) (A := .any (fun _ => False) (NdOk [])) ⟨fun b hb => hb.elim, fun w' _ e he => by cases he⟩
  have hOd := hOd.add (Ext.refl _) (A := .row 56 2 (.slice none 0 0) 0 (ndsV [])) (World.ownsRow_nil _ _ 56 2)
  have hT0 : TestSt W _ b10 [] (restA b9 b10 b11 b12 []) := ⟨.slice none 0 0, fun _ => False, hOd.perm (List.perm_middle (l₁ := [_, _]))⟩
  have HT := Lib.hid hT0
  clear hOc hOd hT0
  clear hOd
  go_upto_region 17 with fail
  unfold fAdd at HT
  refine wp_named ?_
  intro Wd hWd
  rw [← hWd] at HT
  clear hWd c11 f11
  have hE := HT.out.ext
  have d11 := (TestSt.addC HT.out).1
  unfold fAdd at d11
  obtain ⟨pA, pc, pB, pd, p0, p1, p2, p3, pS⟩ := HX.out.2.2.2.1
  have HB := Lib.hid (And.intro p0 (And.intro p1 (And.intro p2 (And.intro p3 pS))))
  have p0 := hE.cell p0
  have p1 := hE.cell p1
  have p2 := hE.cell p2
  have p3 := hE.cell p3
  have hbg := fun W' (e : Ext Wd W') => begin_any W' _ x (pS.ext (hE.trans e)) HX.out.2.2.1
  have hadd := fun W' (e : Ext Wd W') => add_any W x b9 b10 b11 b12 HX.out.2.1 HX.out.2.2.1 HX.out.2.2.2.1 p.length p (Nat.le_refl _) HX.out.2.2.2.2.2 [] W' (begM x) c [] pv (begM_lt HX.out.2.2.1) (by simp) HX.out.2.2.2.2.1 (HT.out.trans e)
  have hpv : ∃ A, pv = .slice A p.length c := by
    obtain ⟨A, h, _⟩ := HX.out.2.2.2.2.1
    exact ⟨A, h⟩
  obtain ⟨Ap, rfl⟩ := hpv
  have HE := Lib.hid hE
  clear hE pS
  go_region_held3 (fun w' => w'.cell? ⟨b11, 0, none⟩ = some (.func (.func 52) #[] #[.pointer (some ⟨b9, 0, none⟩), .pointer (some ⟨b12, 0, none⟩), .pointer (some ⟨b11, 0, none⟩), .pointer (some ⟨b10, 0, none⟩)]) ∧ w'.cell? ⟨b9, 0, none⟩ = some (.int .i64 x.ins) ∧ w'.cell? ⟨b9, 1, none⟩ = some (.int .i64 x.outs) ∧ w'.cell? ⟨b9, 2, none⟩ = some (.slice pA x.rows.length pc) ∧ w'.cell? ⟨b9, 3, none⟩ = some (.slice pB x.rows.length pd)) (first | (refine ⟨?_, ?_, ?_, ?_, ?_⟩ <;> assumption)) (first | ((with_reducible refine (hbg _ (by first | exact (Ext.refl _).drew | exact Ext.refl _)).mono ?_); rintro e w7 ⟨rfl, e7⟩; have d11 := e7.cell d11; have p0 := e7.cell p0; have p1 := e7.cell p1; have p2 := e7.cell p2; have p3 := e7.cell p3; have E7 := (drew_ext Wd).trans e7; have hadd7 := hadd w7 E7) | ((with_reducible refine hadd7.mono ?_); rintro e w8 ⟨z, fit, L', rfl, hO8, hres⟩; have d11 := (TestSt.addC hO8).1; unfold fAdd at d11; have p0 := hO8.ext.cell HB.out.1; have p1 := hO8.ext.cell HB.out.2.1; have p2 := hO8.ext.cell HB.out.2.2.1; have p3 := hO8.ext.cell HB.out.2.2.2.1; have HR := Lib.hid (And.intro hO8 hres); clear hO8 hres))
  clear d11 p0 p1 p2 p3 hadd7 hbg hadd
  rcases HR.out.2 with ⟨hf, _, hle, M, hM, hL'⟩ | ⟨hf, hgt⟩
  · subst hf
    rw [List.nil_append] at hL'
    subst hL'
    rw [List.length_nil, Nat.zero_add] at hle
    rw [List.length_nil] at hM
    have hMl : L'.length = (mkT x p (begM x) 0).length := by rw [← hM, List.length_map]
    have hpos := mkT_pos x p (begM x) 0
    obtain ⟨g, cap, F, c10, _, _, hOW⟩ := HR.out.1.row rfl (by omega)
    have hrow : w8.ownsRow W.heap.size 56 2 (.slice (some ⟨g, 0, none⟩) L'.length cap) L'.length (ndsV L') := hOW.get 1 rfl
    obtain ⟨A9, c9, hv9, hn9, hc9⟩ := cells_of_owns hrow
    injection hv9 with h1 _ h2
    subst h1 h2
    have hclip := clipN_any w8 (some ⟨g, 0, none⟩) L'.length cap hn9 (by omega)
    have hN : NodesC w8 (.slice (some ⟨g, 0, none⟩) L'.length L'.length) (mkT x p (begM x) 0) (mkT x p (begM x) 0).length := ⟨_, L', hM, by rw [hMl], hc9, hOW.know 2 rfl, Nat.le_refl _, by unfold lenMax; omega⟩
    have HN := Lib.hid hN
    have HS : Hid (makeS x p = (mkT x p (begM x) 0, 0)) := Lib.hid (if_neg (by omega))
    clear hN hM hle hc9 hrow hOW hMl hpos
    go_wp2_with ((with_reducible refine hclip.mono ?_); rintro e w9 ⟨rfl, rfl⟩)
    go_ret2
    exact ⟨_, by rw [HS.out]; rfl, by rw [HS.out]; exact HN.out, HX.out.1.trans HR.out.1.ext⟩
  · subst hf
    rw [List.length_nil, Nat.zero_add] at hgt
    have HS : Hid (makeS x p = ([], 3)) := Lib.hid (if_pos hgt)
    go_wp2
    go_ret2
    exact ⟨_, by rw [HS.out]; rfl, by rw [HS.out]; exact nodes_nil _, HX.out.1.trans HR.out.1.ext⟩
set_option maxRecDepth 100000 in
set_option maxHeartbeats 16000000 in
theorem Make_any (w : World) (v : Value) (x : Lts) (pv : Value) (p : List Int) (cp : Nat) (hd : LtsV w v x) (hp : IntsC w pv p cp) (hT : Tab w) : Calls Tryd.prog 24 #[v, pv] w (MakeP w (makeR x p)) := by
  obtain ⟨A, c, rfl, hr, hlen⟩ := hd.form
  obtain ⟨Ap, rfl, hpc, _, hpm⟩ := id hp
  unfold lenMax at hpm
  go_enter Tryd.func24, Tryd.ntmps24
  go_upto_region 1 with fail
  refine wp_named ?_
  intro W1 hW1
  have hE1 : Ext w W1 := by rw [hW1]; exact (Ext.refl _).alloc _
  have k0 : ∀ w', Ext W1 w' → w'.cell? ⟨w.heap.size, 0, none⟩ = some (.int .i64 x.ins) := fun w' h => h.cell (by rw [hW1]; simp [go_sem])
  have k1 : ∀ w', Ext W1 w' → w'.cell? ⟨w.heap.size, 1, none⟩ = some (.int .i64 x.outs) := fun w' h => h.cell (by rw [hW1]; simp [go_sem])
  have k2 : ∀ w', Ext W1 w' → w'.cell? ⟨w.heap.size, 2, none⟩ = some (.slice A x.rows.length c) := fun w' h => h.cell (by rw [hW1]; simp [go_sem])
  clear hW1
  have hE0 := Ext.refl W1
  have hch := check_any W1 _ x (hd.ext hE1)
  by_cases h0 : checkI x = 0
  · have hg := check_good h0
    have H : Hid (makeR x p = if 256 < p.length then ([], 3) else if p.any (badP x) then ([], 1) else makeS x p) := Lib.hid (if_neg (by simpa using h0))
    rw [h0] at hch
    clear h0
    by_cases hl : 256 < p.length
    · have hI : (256 : Int) < (p.length : Int) := by omega
      have H := Lib.hid (H.out.trans (if_pos hl))
      clear hd hr hT hg hp
      go_wp2_with ((with_reducible refine hch.mono ?_); rintro e w1 ⟨rfl, e1⟩)
      go_ret2
      exact ⟨_, by rw [H.out]; rfl, by rw [H.out]; exact nodes_nil _, hE1.trans e1⟩
    have hI : ¬ (256 : Int) < (p.length : Int) := by omega
    have H := Lib.hid (H.out.trans (if_neg hl))
    have hpr := fun W (e : Ext W1 W) => prepare_form W _ x (hd.ext (hE1.trans e)) hg
    have HT := Lib.hid (And.intro hT (And.intro hg (And.intro hpc (And.intro hE1 hp))))
    have HK := Lib.hid (And.intro k0 hpr)
    clear hd hr hT hp hpr hpc
    go_upto_region 7 with ((with_reducible refine hch.mono ?_); rintro e w1 ⟨rfl, e1⟩)
    clear hch
    go_loopw [25] (fun iv wr => ∃ i : Nat, iv = .int .i64 i ∧ i ≤ p.length ∧ Hid ((p.take i).any (badP x) = false) ∧ Ext W1 wr) (fun iv _ => p.length - (intOf iv).toNat)
    case atStart => exact ⟨0, rfl, by omega, Lib.hid (by simp), e1⟩
    case round =>
      obtain ⟨i, rfl, hi, HP, hE⟩ := hrel
      obtain ⟨W5, hW5⟩ : ∃ W, W = wr := ⟨_, rfl⟩; subst hW5
      by_cases hlt : i < p.length
      · obtain ⟨l, hl2⟩ : ∃ l, p[i]? = some l := ⟨_, List.getElem?_eq_getElem hlt⟩
        obtain ⟨bt, ot, rfl, hcl⟩ := int_at (HT.out.2.2.1.ext (hE1.trans hE)) hl2
        have HT1 := Lib.hid (any_take (p := badP x) hl2)
        have HM := Lib.hid (any_of_get (p := badP x) hl2)
        have HB : Hid (badP x l = (decide (l ≠ -1) && (decide (l < 0) || decide (x.ins ≤ l)))) := Lib.hid rfl
        have k0 := k0 W5 hE
        have HE := Lib.hid hE
        clear hl2 hE k1 k2
        by_cases h1 : l = -1
        · have g1 : (l != -1) = false := by simp [h1]
          have HN : Hid ((p.take (i + 1)).any (badP x) = false) := Lib.hid (by rw [HT1.out, HP.out, HB.out, decide_eq_false (by simpa using h1)]; rfl)
          clear h1
          go_wp2
          go_roundw
          case rel => exact ⟨i + 1, by go_num, hlt, HN, HE.out⟩
          case measure => simp [intOf]; omega
        have g1 : (l != -1) = true := by simp [h1]
        by_cases h2 : l < 0
        · have H := Lib.hid (H.out.trans (if_pos (HM.out (by rw [HB.out, decide_eq_true h1, decide_eq_true h2]; rfl))))
          clear h1
          go_wp2
          go_ret2
          exact ⟨_, by rw [H.out]; rfl, by rw [H.out]; exact nodes_nil _, hE1.trans HE.out⟩
        by_cases h3 : x.ins ≤ l
        · have H := Lib.hid (H.out.trans (if_pos (HM.out (by rw [HB.out, decide_eq_true h1, decide_eq_true h3]; simp))))
          clear h1
          go_wp2
          go_ret2
          exact ⟨_, by rw [H.out]; rfl, by rw [H.out]; exact nodes_nil _, hE1.trans HE.out⟩
        have HN : Hid ((p.take (i + 1)).any (badP x) = false) := Lib.hid (by rw [HT1.out, HP.out, HB.out, decide_eq_false h2, decide_eq_false h3]; simp)
        clear h1
        go_wp2
        go_roundw
        case rel => exact ⟨i + 1, by go_num, hlt, HN, HE.out⟩
        case measure => simp [intOf]; omega
      · obtain rfl : i = p.length := by omega
        rw [List.take_length] at HP
        have H := Lib.hid (H.out.trans (if_neg (by rw [HP.out]; simp)))
        have hpr5 := HK.out.2 W5 hE
        have k0 := fun w' (h : Ext W5 w') => k0 w' (hE.trans h)
        have k1 := fun w' (h : Ext W5 w') => k1 w' (hE.trans h)
        have k2 := fun w' (h : Ext W5 w') => k2 w' (hE.trans h)
        have hE5 := Ext.refl W5
        have HE := Lib.hid hE
        clear hE
        go_upto_region 999 with (first
          | ((with_reducible refine hpr5.mono ?_); rintro e w2 ⟨A2, c2, B2, d2, rfl, hs2, e2⟩)
          | (with_reducible refine wpList_store_blk _ rfl 73 _ _ rfl w2.heap.size 73 _ _ rfl rfl (heap_alloc_new _ _) (by kernel_rfl) (by kernel_rfl) (by kernel_rfl) ?_; intro w3 h3 g3)
          | (with_reducible refine stop_at 13 ?_) | (with_reducible refine stop_at2 13 ?_))
        refine ⟨?_⟩
        have e23 : Ext w2 w3 := Below.grown (alloc_ext w2 _) g3 (alloc_ext w2 _).size (fun k hk => by cases hk; exact Nat.le_refl _)
        have eW := hE1.trans (HE.out.trans (e2.trans e23))
        rw [show makeR x p = makeS x p from H.out]
        exact make_t13 w w3 x w2.heap.size cp p (.slice Ap p.length cp) _ _ _ _ _ _ _ _ _ _ _ _ _ _ _ _ _ _ _ _ _ _ _ _ _ _ _ _ _ _ _ _ _ _ _ _ _ _ _ _ _ _ _ _ _ _ _ _ _ _ _ _ _ _ _ _ eW (HT.out.1.ext eW) HT.out.2.1 (BoxS.of h3 (hs2.ext e23)) (HT.out.2.2.2.2.ext eW) (okPlan_of HP.out)
  · have H : Hid (makeR x p = ([], checkI x)) := Lib.hid (if_pos h0)
    have h1 : (checkI x != 0) = true := by simpa using h0
    generalize checkI x = z at *
    clear h0 hd hr
    go_wp2_with ((with_reducible refine hch.mono ?_); rintro e w1 ⟨rfl, e1⟩)
    go_ret2
    exact ⟨_, by rw [H.out]; rfl, by rw [H.out]; exact nodes_nil _, hE1.trans e1⟩
end Go.Proofs.YtamodjlifpjaoaaDoor
