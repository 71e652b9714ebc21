/-     -/
import Derived.Test.YtmebgomnmlbgnaaDoorZQ
import Derived.Test.YtmebgomnmlbgnaaDoorZR
import Derived.Test.YtmebgomnmlbgnaaDoorZN
import Derived.Test.YtmebgomnmlbgnaaDoorZA
set_option linter.unnecessarySimpa false
set_option linter.unusedSectionVars false
namespace Go.Proofs.YtmebgomnmlbgnaaDoor
open Go.RowKit Go.Maps
set_option linter.unusedVariables false
set_option linter.unusedSimpArgs false
attribute [local go_sem] Oper.quietV quietV Oper.gives givesV ext_refl_iff ext_alloc_iff ext_drew_iff ext_drewN_iff
section
variable {κ : Type} [BEq κ] [LawfulBEq κ]
theorem nodup_sub : ∀ (l S : List κ), l.Nodup → (∀ x ∈ l, x ∈ S) → l.length ≤ S.length
  | [], S, _, _ => Nat.zero_le _
  | a :: l, S, hn, hs => by
    have h1 := List.nodup_cons.1 hn
    have ha := hs a (by simp)
    have h2 := nodup_sub l (S.erase a) h1.2 (fun x hx => (List.mem_erase_of_ne (a := x) (b := a) (fun e => h1.1 (by rw [← e]; exact hx))).2 (hs x (by simp [hx])))
    rw [List.length_erase_of_mem ha] at h2
    have := List.length_pos_of_mem ha
    simp; omega
theorem rowF_some {S : List κ} (hS : S.length ≤ 1024) {f : Nat → κ} {l : List κ} (hl : Okl (· ∈ S) l) : ∀ {x : Nat}, (∀ y, y < x → f y ∈ S) → ∃ p, rowF f x l = some p
  | 0, _ => ⟨_, rfl⟩
  | x + 1, hf => by
    obtain ⟨⟨l1, r1⟩, h1⟩ := rowF_some hS hl (x := x) (fun y hy => hf y (by omega))
    obtain ⟨a1, _⟩ := rowF_ok hl (fun y hy => hf y (by omega)) h1
    rw [rowF_succ h1]
    by_cases hm : f x ∈ l1
    · exact ⟨_, by rw [addF_old hm]; rfl⟩
    · have hne : l1.length ≠ 1024 := fun e => by
        have := nodup_sub (f x :: l1) S (List.nodup_cons.2 ⟨hm, a1.nd⟩) (fun y hy => by
          rcases List.mem_cons.1 hy with rfl | hy
          · exact hf x (by omega)
          · exact a1.all y hy)
        simp at this; omega
      exact ⟨_, by rw [addF_new hm hne]; rfl⟩
theorem goF_some {S : List κ} (hS : S.length ≤ 1024) {m : Nat} {step : κ → Nat → κ} {s0 : κ} (h0 : s0 ∈ S) (hst : ∀ s a, s ∈ S → a < m → step s a ∈ S) : ∀ i, ∃ p, goF m step s0 i = some p
  | 0 => ⟨_, rfl⟩
  | i + 1 => by
    obtain ⟨⟨l, rows⟩, h⟩ := goF_some hS h0 hst i
    obtain ⟨a1, _⟩ := goF_ok (ok := (· ∈ S)) h0 hst h
    cases hs : l[i]? with
    | none => exact ⟨_, goF_stop h (List.getElem?_eq_none_iff.1 hs) (by omega)⟩
    | some s =>
      obtain ⟨p, hp⟩ := rowF_some hS a1 (f := step s) (x := m) (fun y hy => hst s y (a1.all s (List.mem_of_getElem? hs)) hy)
      exact ⟨_, by rw [goF_succ h hs, hp]; rfl⟩
theorem expF_some {S : List κ} (hS : S.length ≤ 1024) {m : Nat} {step : κ → Nat → κ} {s0 : κ} (h0 : s0 ∈ S) (hst : ∀ s a, s ∈ S → a < m → step s a ∈ S) : ∃ p, expF m step s0 = some p := goF_some hS h0 hst 1024
end
def leafD (o sy m : Nat) : Option DN := expD (leafA o) (expF m (leafS o sy) 0)
theorem leafS_le (o sy s a : Nat) : leafS o sy s a ≤ 2 := by unfold leafS; split <;> omega
theorem leafD_some (o sy m : Nat) : ∃ D, leafD o sy m = some D := by
  obtain ⟨p, hp⟩ := expF_some (S := [0, 1, 2]) (by decide) (m := m) (step := leafS o sy) (s0 := 0) (by decide) (fun s a _ _ => by unfold leafS; split <;> decide)
  exact ⟨_, by unfold leafD; rw [hp]; rfl⟩
def LeafP (D : DN) (w : World) (e : Ending) (w' : World) : Prop := ∃ A c A' c', e = .returned (.agg #[.slice A D.rows.length c, .slice A' D.acc.length c']) ∧ Ext w w' ∧ ∀ w'' : World, (∀ b, w.heap.size ≤ b → b < w'.heap.size → w''.heap[b]? = w'.heap[b]?) → ListsC w'' (.slice A D.rows.length c) (D.rows.map (·.map Int.ofNat)) c ∧ BoolsC w'' (.slice A' D.acc.length c') D.acc c'
set_option maxRecDepth 20000 in
set_option maxHeartbeats 4000000 in
theorem leaf_any {W : World} {o sy m : Nat} {sv : Value} {D : DN} (hm : m ≤ 16) (hD : leafD o sy m = some D) :
    Calls Tryd.prog 77 #[.agg #[.int .u8 (o : Int), .int .i64 (sy : Int), sv], .int .i64 (m : Int)] W (LeafP D W) := by
  have HR := Lib.hid hD
  clear hD
  go_enter Tryd.func77, Tryd.ntmps77
  go_upto_region 1 with fail
  refine wp_named ?_
  intro W1 hW1
  have hE1 : Ext W W1 := by rw [hW1]; exact (alloc_ext _ _).trans (alloc_ext _ _)
  have hB4 : W1.heap[W.heap.size]? = some (.cells #[.int .u8 (o : Int), .int .i64 (sy : Int), sv] 35) := by rw [hW1]; exact heap_ext (alloc_ext _ _) (heap_alloc_new _ _)
  have hZ : W1.heap[W.heap.size + 1]? = some zRaw := by rw [hW1]; exact heap_new2 _ _ _
  have hsz : W.heap.size + 1 < W1.heap.size := (Array.getElem?_eq_some_iff.1 hZ).1
  have k0 : W1.cell? ⟨W.heap.size, 0, none⟩ = some (.int .u8 (o : Int)) := cell_of_blk hB4 0 rfl
  have k1 : W1.cell? ⟨W.heap.size, 1, none⟩ = some (.int .i64 (sy : Int)) := cell_of_blk hB4 1 rfl
  have hst : Calls Tryd.prog 105 #[.int .i64 (m : Int), .int .i64 0, .func (.func 106) #[] #[.pointer (some ⟨W.heap.size, 0, none⟩)], .func (.func 107) #[] #[.pointer (some ⟨W.heap.size, 0, none⟩)]] W1 (RawP (some D) W1) := by
    rw [← HR.out]
    unfold leafD
    refine (explore105_any (w := W1) (s0 := 0) (step := leafS o sy) (acc := leafA o) (fun s => s ≤ 2) (fun s hs => by unfold okNum; omega) hm
      (fun w' s a e hs ha => leaf1_any s a (e.cell k0) (e.cell k1))
      (fun w' s e hs => leaf2_any s (e.cell k0))
      (by omega) (fun s a hs ha => leafS_le _ _ _ _)).mono ?_
    intro e w' h
    exact raw_of h
  have HE1 := Lib.hid (And.intro hE1 (And.intro (show W.heap.size ≤ W.heap.size + 1 by omega) hsz))
  clear hW1 hB4 k0 k1 hE1 hsz
  go_upto_region 2 with (first
    | ((with_reducible refine hst.mono ?_); rintro e W8 ⟨A, c, A', c', rfl, e8, hL⟩)
    | (with_reducible refine wpList_store_blk _ rfl 109 _ _ rfl W8.heap.size 109 _ _ rfl rfl (heap_alloc_new _ _) (by kernel_rfl) (by kernel_rfl) (by kernel_rfl) ?_; intro w9 h9 g9))
  obtain ⟨b5, hb5⟩ : ∃ b, b = W8.heap.size := ⟨_, rfl⟩
  have hE9 : Ext W8 w9 := Below.grown (alloc_ext _ _) g9 (alloc_ext W8 _).size (fun k hk => by cases hk; exact Nat.le_refl _)
  rw [← hb5] at h9 ⊢
  have HL := Lib.hid hL
  clear hb5 g9 hL
  go_wp2_with (first
    | (with_reducible refine wpList_load_row rfl 109 _ rfl b5 rfl 109 _ (0, 0) _ h9 Tryd.underlying109 rfl (by kernel_rfl) ?_)
    | (with_reducible refine wpList_store_blk _ rfl 109 _ _ rfl (W.heap.size + 1) 109 _ _ rfl rfl (heap_ext (e8.trans hE9) hZ) (by kernel_rfl) (by kernel_rfl) (by kernel_rfl) ?_; intro w10 h10 g10))
  have hE8 := HE1.out.1.trans (e8.trans hE9)
  refine bodyPost_ret (results_cell_row rfl _ _ (W.heap.size + 1) 109 _ (0, 0) _ (by simp [Act.put]) h10 Tryd.underlying109 rfl (by kernel_rfl)) rfl ?_
  refine ⟨A, c, A', c', by simp [Act.put], Below.grown hE8 g10 hE8.size (fun k hk => by cases hk; exact HE1.out.2.1), ?_⟩
  have h1 := raw_keep (e8.trans hE9) g10 HE1.out.1 HE1.out.2.2 (Φ := fun w'' => ListsC w'' (.slice A D.rows.length c) (D.rows.map (·.map Int.ofNat)) c ∧ BoolsC w'' (.slice A' D.acc.length c') D.acc c') (fun w'' h => HL.out w'' (fun b hb hb2 => by
    rw [h b hb (Nat.lt_of_lt_of_le hb2 hE9.size)]
    exact hE9.block b hb2))
  exact h1
end Go.Proofs.YtmebgomnmlbgnaaDoor

namespace Go.Proofs.YtmebgomnmlbgnaaDoor
open Go.RowKit Go.Maps
set_option linter.unusedVariables false
set_option linter.unusedSimpArgs false
section
variable {κ : Type} [BEq κ] [LawfulBEq κ]
def addN (l : List κ) (k : κ) : List κ := if l.contains k then l else l ++ [k]
def namesOf (ks : List κ) : List κ := ks.foldl addN []
omit [LawfulBEq κ] in
theorem namesOf_snoc (ks : List κ) (k : κ) : namesOf (ks ++ [k]) = addN (namesOf ks) k := by unfold namesOf; rw [List.foldl_append]; rfl
omit [LawfulBEq κ] in
theorem addN_prefix (l : List κ) (k : κ) : l <+: addN l k := by
  unfold addN; split
  · exact List.prefix_refl _
  · exact List.prefix_append _ _
omit [LawfulBEq κ] in
theorem foldN_prefix : ∀ (ks l : List κ), l <+: ks.foldl addN l
  | [], l => List.prefix_refl _
  | k :: r, l => (addN_prefix l k).trans (foldN_prefix r (addN l k))
omit [LawfulBEq κ] in
theorem namesOf_prefix (ks : List κ) (i : Nat) : namesOf (ks.take i) <+: namesOf ks := by
  conv => rhs; rw [← List.take_append_drop i ks]
  unfold namesOf
  rw [List.foldl_append]
  exact foldN_prefix _ _
theorem addN_nodup {l : List κ} (h : l.Nodup) (k : κ) : (addN l k).Nodup := by
  unfold addN; split
  · exact h
  · rename_i hc
    rw [List.nodup_append]
    refine ⟨h, by simp, fun a ha b hb e => ?_⟩
    simp at hb; subst hb; subst e
    exact hc (by simpa using ha)
theorem foldN_nodup : ∀ (ks l : List κ), l.Nodup → (ks.foldl addN l).Nodup
  | [], l, h => h
  | k :: r, l, h => foldN_nodup r _ (addN_nodup h k)
theorem namesOf_nodup (ks : List κ) : (namesOf ks).Nodup := foldN_nodup ks [] (by simp)
theorem mem_addN {l : List κ} {k x : κ} : x ∈ addN l k ↔ x ∈ l ∨ x = k := by
  unfold addN; split
  · rename_i hc
    have : k ∈ l := by simpa using hc
    constructor
    · exact .inl
    · rintro (h | rfl)
      · exact h
      · exact this
  · simp
theorem mem_namesOf {ks : List κ} {x : κ} : x ∈ namesOf ks ↔ x ∈ ks := by
  have : ∀ (ks l : List κ), x ∈ ks.foldl addN l ↔ x ∈ l ∨ x ∈ ks := fun ks => by
    induction ks with
    | nil => intro l; simp
    | cons k r ih =>
      intro l
      rw [List.foldl_cons, ih, mem_addN, List.mem_cons]
      exact or_assoc
  unfold namesOf
  rw [this]; simp
def idxN (l : List κ) (k : κ) : Nat := l.idxOf k
theorem idxN_get {l : List κ} (h : l.Nodup) {n : Nat} {k : κ} (hn : l[n]? = some k) : idxN l k = n := by
  obtain ⟨hlt, he⟩ := List.getElem?_eq_some_iff.1 hn
  have hm : k ∈ l := List.mem_of_getElem? hn
  have h1 := List.idxOf_lt_length_of_mem hm
  have h2 : l[l.idxOf k] = k := List.getElem_idxOf h1
  have hp := List.pairwise_iff_getElem.1 h
  show l.idxOf k = n
  rcases Nat.lt_trichotomy (l.idxOf k) n with hlt' | heq | hgt
  · exact absurd (h2.trans he.symm) (hp _ _ h1 hlt hlt')
  · exact heq
  · exact absurd (he.trans h2.symm) (hp _ _ hlt h1 hgt)
theorem idxN_mem {l : List κ} {k : κ} (h : k ∈ l) : l[idxN l k]? = some k := by
  have h1 := List.idxOf_lt_length_of_mem h
  unfold idxN
  rw [List.getElem?_eq_getElem h1, List.getElem_idxOf]
theorem idxN_lt {l : List κ} {k : κ} (h : k ∈ l) : idxN l k < l.length := List.idxOf_lt_length_of_mem h
theorem idxN_prefix {l L : List κ} (hL : L.Nodup) (h : l <+: L) {k : κ} (hk : k ∈ l) : idxN L k = idxN l k := idxN_get hL (prefix_at h (idxN_mem hk))
end
def keyX (cl row : List Int) (i x : Nat) : List Int := (cl.getD i 0 :: (row.take x).map (fun t => cl.getD t.toNat 0)) ++ List.replicate (16 - x) 0
def keyR (cl row : List Int) (i : Nat) : List Int := keyX cl row i row.length
def keysR (rows : List (List Int)) (cl : List Int) : List (List Int) := rows.zipIdx.map (fun p => keyR cl p.1 p.2)
def namesR (rows : List (List Int)) (cl : List Int) : List (List Int) := namesOf (keysR rows cl)
def nextR (rows : List (List Int)) (cl : List Int) : List Int := (keysR rows cl).map (fun k => (idxN (namesR rows cl) k : Int))
inductive RefR (rows : List (List Int)) : List Int → Nat → List Int × Nat → Prop where
  | stop {cl : List Int} {many : Nat} : (namesR rows cl).length = many → RefR rows cl many (nextR rows cl, many)
  | step {cl : List Int} {many : Nat} {r : List Int × Nat} : (namesR rows cl).length ≠ many → RefR rows (nextR rows cl) (namesR rows cl).length r → RefR rows cl many r
theorem RefR.one {rows : List (List Int)} {cl : List Int} {many : Nat} {r r' : List Int × Nat} (h : RefR rows cl many r) (h' : RefR rows cl many r') : r = r' := by
  induction h with
  | stop h1 =>
    cases h' with
    | stop _ => rfl
    | step h2 _ => exact absurd h1 h2
  | step h1 h2 ih =>
    cases h' with
    | stop h3 => exact absurd h3 h1
    | step _ h3 => exact ih h3
def refG (rows : List (List Int)) : Nat → List Int → Nat → Option (List Int × Nat)
  | 0, _, _ => none
  | f + 1, cl, many => if (namesR rows cl).length = many then some (nextR rows cl, many) else refG rows f (nextR rows cl) (namesR rows cl).length
theorem keyX_len {cl row : List Int} {i x : Nat} (hx : x ≤ 16) (hr : x ≤ row.length) : (keyX cl row i x).length = 17 := by
  unfold keyX
  rw [List.length_append, List.length_cons, List.length_map, List.length_take, List.length_replicate]
  omega
theorem keyX_zero (cl row : List Int) (i : Nat) : keyX cl row i 0 = cl.getD i 0 :: List.replicate 16 0 := rfl
theorem keyX_set {cl row : List Int} {i x : Nat} (hx : x < 16) (hr : x < row.length) : (keyX cl row i x).set (x + 1) (cl.getD row[x].toNat 0) = keyX cl row i (x + 1) := by
  unfold keyX
  rw [show 16 - x = (16 - (x + 1)) + 1 by omega, List.replicate_succ, List.set_append_right _ _ (by simp; omega)]
  have hl : ((cl.getD i 0) :: (row.take x).map (fun t => cl.getD t.toNat 0)).length = x + 1 := by simp; omega
  rw [hl, Nat.sub_self, List.set_cons_zero, List.take_succ_eq_append_getElem hr, List.map_append]
  simp
theorem keysR_len (rows : List (List Int)) (cl : List Int) : (keysR rows cl).length = rows.length := by unfold keysR; simp
theorem keysR_get {rows : List (List Int)} {cl : List Int} {i : Nat} (hi : i < rows.length) : (keysR rows cl)[i]? = some (keyR cl rows[i] i) := by
  unfold keysR
  rw [List.getElem?_map, List.getElem?_zipIdx, List.getElem?_eq_getElem hi]; simp
theorem nextR_len (rows : List (List Int)) (cl : List Int) : (nextR rows cl).length = rows.length := by unfold nextR; rw [List.length_map, keysR_len]
theorem namesR_le (rows : List (List Int)) (cl : List Int) : (namesR rows cl).length ≤ rows.length := by
  have : ∀ (ks : List (List Int)) (l : List (List Int)), (ks.foldl addN l).length ≤ l.length + ks.length := fun ks => by
    induction ks with
    | nil => intro l; simp
    | cons k r ih =>
      intro l
      rw [List.foldl_cons]
      have h1 := ih (addN l k)
      have h2 : (addN l k).length ≤ l.length + 1 := by unfold addN; split <;> simp
      rw [List.length_cons]; omega
  have := this (keysR rows cl) []
  rw [keysR_len] at this
  simpa [namesR, namesOf] using this
structure ClsOk (n : Nat) (cl : List Int) (many : Nat) : Prop where
  len : cl.length = n
  val : ∀ c ∈ cl, 0 ≤ c ∧ c ≤ 100000
  all : ∀ v, v < many → ∃ i, i < n ∧ cl[i]? = some (v : Int)
theorem nextR_ok {rows : List (List Int)} {cl : List Int} (hn : rows.length ≤ 100000) : ClsOk rows.length (nextR rows cl) (namesR rows cl).length := by
  refine ⟨nextR_len _ _, fun c hc => ?_, fun v hv => ?_⟩
  · unfold nextR at hc
    obtain ⟨k, hk, rfl⟩ := List.mem_map.1 hc
    have := idxN_lt (mem_namesOf.2 hk)
    have h2 := namesR_le rows cl
    unfold namesR at h2 ⊢
    omega
  · have h1 : (namesR rows cl)[v] ∈ namesR rows cl := List.getElem_mem hv
    have h2 : (namesR rows cl)[v] ∈ keysR rows cl := mem_namesOf.1 h1
    obtain ⟨i, hi⟩ := List.getElem?_of_mem h2
    have hil := (List.getElem?_eq_some_iff.1 hi).1
    rw [keysR_len] at hil
    refine ⟨i, hil, ?_⟩
    unfold nextR
    rw [List.getElem?_map, hi]
    have := idxN_get (namesOf_nodup (keysR rows cl)) (show (namesOf (keysR rows cl))[v]? = some _ from List.getElem?_eq_getElem hv)
    simp only [Option.map_some]
    unfold namesR at this ⊢
    rw [this]
theorem many_le {rows : List (List Int)} {cl : List Int} {many : Nat} (h : ClsOk rows.length cl many) : many ≤ (namesR rows cl).length := by
  have h1 : ((List.range many).map (fun v : Nat => (v : Int))).Nodup := List.Pairwise.map _ (fun a b (h : a ≠ b) e => h (by omega)) List.nodup_range
  have h2 := List.Nodup.length_le_of_subset h1 (l₂ := (namesR rows cl).map (fun k => k.headD 0)) (fun z hz => by
    obtain ⟨v, hv, rfl⟩ := List.mem_map.1 hz
    obtain ⟨i, hi, hc⟩ := h.all v (List.mem_range.1 hv)
    have hk : keyR cl rows[i] i ∈ namesR rows cl := mem_namesOf.2 (List.mem_of_getElem? (keysR_get hi))
    refine List.mem_map.2 ⟨_, hk, ?_⟩
    unfold keyR keyX
    simp [List.getD, hc])
  simpa using h2
theorem names_step {rows : List (List Int)} {cl key : List Int} {i : Nat} (hk : (keysR rows cl)[i]? = some key) : namesOf ((keysR rows cl).take (i + 1)) = addN (namesOf ((keysR rows cl).take i)) key := by
  obtain ⟨hi, rfl⟩ := List.getElem?_eq_some_iff.1 hk
  rw [List.take_succ_eq_append_getElem hi, namesOf_snoc]
theorem next_at {rows : List (List Int)} {cl key : List Int} {i : Nat} (hk : (keysR rows cl)[i]? = some key) : (nextR rows cl)[i]? = some (idxN (namesOf ((keysR rows cl).take (i + 1))) key : Int) := by
  unfold nextR namesR
  rw [List.getElem?_map, hk]
  have hi := (List.getElem?_eq_some_iff.1 hk).1
  have hm : key ∈ namesOf ((keysR rows cl).take (i + 1)) := mem_namesOf.2 (List.mem_of_getElem? (i := i) (by rw [List.getElem?_take_of_lt (by omega)]; exact hk))
  rw [← idxN_prefix (namesOf_nodup _) (namesOf_prefix (keysR rows cl) (i + 1)) hm]; rfl
theorem addN_mem {l : List (List Int)} {k : List Int} (h : k ∈ l) : addN l k = l := by unfold addN; rw [if_pos (by simpa using h)]
theorem addN_new {l : List (List Int)} {k : List Int} (h : k ∉ l) : addN l k = l ++ [k] := by unfold addN; rw [if_neg (by simpa using h)]
theorem refG_more {rows : List (List Int)} : ∀ {f f' : Nat} {cl : List Int} {many : Nat} {r : List Int × Nat}, refG rows f cl many = some r → f ≤ f' → refG rows f' cl many = some r
  | 0, f', cl, many, r, h, _ => by cases h
  | f + 1, 0, cl, many, r, h, hl => by omega
  | f + 1, f' + 1, cl, many, r, h, hl => by
    unfold refG at h ⊢
    split
    · rename_i h1; rw [if_pos h1] at h; exact h
    · rename_i h1; rw [if_neg h1] at h; exact refG_more h (by omega)
theorem refG_of {rows : List (List Int)} (hn : rows.length ≤ 100000) {cl : List Int} {many : Nat} {r : List Int × Nat} (h : RefR rows cl many r) (hc : ClsOk rows.length cl many) : refG rows (rows.length + 1 - many) cl many = some r := by
  induction h with
  | @stop cl many h1 =>
    have h2 := namesR_le rows cl
    rw [show rows.length + 1 - many = (rows.length - many) + 1 by omega]
    unfold refG
    rw [if_pos h1]
  | @step cl many r h1 h2 ih =>
    have h3 := namesR_le rows cl
    have h4 := many_le hc
    rw [show rows.length + 1 - many = (rows.length - many) + 1 by omega]
    unfold refG
    rw [if_neg h1]
    exact refG_more (ih (nextR_ok hn)) (by omega)
def pickF (cl : List Int) : Nat → List Nat
  | 0 => []
  | i + 1 => if cl.getD i 0 = ((pickF cl i).length : Int) then pickF cl i ++ [i] else pickF cl i
def intR (rows : List (List Nat)) : List (List Int) := rows.map (·.map Int.ofNat)
def cls0 (acc : List Bool) : List Int := acc.map (fun b => if b then 1 else 0)
def quoN (D : DN) (cl : List Int) (P : List Nat) : DN := ⟨P.map (fun s => (D.rows.getD s []).map (fun t => (cl.getD t 0).toNat)), P.map (fun s => D.ac s)⟩
def minD (D : DN) : Option DN := (refG (intR D.rows) (D.rows.length + 1) (cls0 D.acc) 0).bind fun p => if (pickF p.1 D.rows.length).length ≤ 256 then some (quoN D p.1 (pickF p.1 D.rows.length)) else none
theorem pick_len {rows : List (List Int)} {cl : List Int} : ∀ {i : Nat}, i ≤ rows.length → (pickF (nextR rows cl) i).length = (namesOf ((keysR rows cl).take i)).length
  | 0, _ => rfl
  | i + 1, hi => by
    have ih := pick_len (rows := rows) (cl := cl) (i := i) (by omega)
    have hk := keysR_get (cl := cl) (show i < rows.length by omega)
    have hnx := next_at hk
    have hg : (nextR rows cl).getD i 0 = (idxN (namesOf ((keysR rows cl).take (i + 1))) (keyR cl rows[i] i) : Int) := by simp [List.getD, hnx]
    unfold pickF
    rw [hg, names_step hk, ih]
    by_cases hm : keyR cl rows[i] i ∈ namesOf ((keysR rows cl).take i)
    · rw [addN_mem hm]
      have := idxN_lt hm
      rw [if_neg (by omega), ih]
    · rw [addN_new hm]
      have : idxN (namesOf ((keysR rows cl).take i) ++ [keyR cl rows[i] i]) (keyR cl rows[i] i) = (namesOf ((keysR rows cl).take i)).length := by
        refine idxN_get ?_ (by simp)
        have h0 := namesOf_nodup ((keysR rows cl).take i)
        have h1 := addN_nodup h0 (keyR cl rows[i] i)
        rw [addN_new hm] at h1
        exact h1
      rw [this, if_pos rfl]
      simp [ih]
end Go.Proofs.YtmebgomnmlbgnaaDoor

namespace Go.Proofs.YtmebgomnmlbgnaaDoor
open Go.RowKit Go.Maps
set_option linter.unusedVariables false
set_option linter.unusedSimpArgs false
attribute [local go_sem] Oper.quietV quietV Oper.gives givesV ext_refl_iff ext_alloc_iff ext_drew_iff ext_drewN_iff
abbrev rowV := nameV
abbrev rowOK := okN
def kA (l : List Int) : Array Value := (l.map (Value.int .i64)).toArray
theorem kA_size (l : List Int) : (kA l).size = l.length := by simp [kA]
theorem kA_one (l : List Int) : (kA l).all (·.oneCell') = true := all_oneCell_toArray (ints_oneCell _ _)
theorem kA_set (l : List Int) (i : Nat) (x : Int) : (kA l).setIfInBounds i (.int .i64 x) = kA (l.set i x) := by
  apply Array.ext'
  simp [kA, List.map_set]
theorem kA_get (l : List Int) {i : Nat} (h : i < l.length) : ∃ u, (kA l)[i]? = some u := ⟨_, Array.getElem?_eq_getElem (by simpa [kA] using h)⟩
theorem build_key (w : World) (c : Int) : (Instr.build 151 #[(0, .int .i64 c)]).run Tryd.prog w = .ok (.agg (kA (c :: List.replicate 16 0))) w := by kernel_rfl
def nxC (n : Nat) (l : List Int) (i : Nat) : List Value := (l.take i).map (Value.int .i64) ++ List.replicate (n - i) (.int .i64 0)
theorem nxC_at {n : Nat} {l : List Int} {i : Nat} (hl : l.length = n) (h : i < n) : (nxC n l i)[i]? = some (.int .i64 0) := by
  unfold nxC
  have : ((l.take i).map (Value.int .i64)).length = i := by simp; omega
  rw [List.getElem?_append_right (by omega), this, Nat.sub_self, List.getElem?_replicate, if_pos (by omega)]
theorem nxC_set {n : Nat} {l : List Int} {i : Nat} (hl : l.length = n) (h : i < n) {x : Int} (hx : l[i]? = some x) : (nxC n l i).set i (.int .i64 x) = nxC n l (i + 1) := by
  unfold nxC
  have h1 : ((l.take i).map (Value.int .i64)).length = i := by simp; omega
  have h2 : i < l.length := by omega
  rw [show n - i = (n - (i + 1)) + 1 by omega, List.replicate_succ, List.set_append_right _ _ (by omega), h1, Nat.sub_self, List.set_cons_zero, List.take_succ_eq_append_getElem h2, List.map_append, List.append_assoc]
  rw [List.getElem?_eq_getElem h2] at hx
  cases hx; rfl
theorem nxC_all {n : Nat} {l : List Int} (hl : l.length = n) : nxC n l n = l.map (.int .i64) := by unfold nxC; rw [Nat.sub_self, List.take_of_length_le (by omega)]; simp
theorem keyR_ok {cl row : List Int} {i : Nat} (h : ∀ c ∈ cl, 0 ≤ c ∧ c ≤ 100000) (hr : row.length ≤ 16) : rowOK (keyR cl row i) := by
  refine ⟨keyX_len hr (Nat.le_refl _), fun x hx => ?_⟩
  have hg : ∀ k, wfI (cl.getD k 0) := fun k => by
    refine wfI_of ?_
    by_cases hk : k < cl.length
    · have := h cl[k] (List.getElem_mem hk)
      simp [List.getD, hk]; omega
    · simp [List.getD, hk]
  unfold keyR keyX at hx
  rcases List.mem_append.1 hx with hx | hx
  · rcases List.mem_cons.1 hx with rfl | hx
    · exact hg _
    · obtain ⟨t, _, rfl⟩ := List.mem_map.1 hx
      exact hg _
  · rw [(List.mem_replicate.1 hx).2]
    exact wfI_of (by omega)
theorem list_set_self {α : Type} {l : List α} {i : Nat} {x : α} (h : l[i]? = some x) : l.set i x = l := by
  obtain ⟨hi, rfl⟩ := List.getElem?_eq_some_iff.1 h
  simp
theorem nxC_same {n : Nat} {l : List Int} {i : Nat} (hl : l.length = n) (h : i < n) (hx : l[i]? = some 0) : nxC n l i = nxC n l (i + 1) := by
  rw [← nxC_set hl h hx]
  have h2 := nxC_at hl h
  exact (list_set_self h2).symm
structure J38 (W0 : World) (tv rv av : Value) (m : Nat) (xs : List Value) (vs : List Value) (rs : List (Nat × List Value)) (acs : List Bool) (b : Bool) (rest : List Asn) (G : Vals) (w : World) : Prop where
  own : OwnL W0 w (asBlk 42 [tv] (G 3) :: asBlk 4 [.bool b] (G 12) :: zRow tv m xs (G 4) :: zRows tv rv m xs vs rs (G 4) :: zAcc av acs b (G 13) :: rest)
  p3 : ∀ v, G 3 = some v → ∃ b, v = .slice (some ⟨b, 0, none⟩) 1 1
  p13 : ∀ v, G 12 = some v → ∃ b, v = .slice (some ⟨b, 0, none⟩) 1 1
  n3 : G 3 = none → G 4 = none
  n13 : G 12 = none → G 13 = none
section
variable {W0 w w' : World} {tv rv av v : Value} {m : Nat} {xs vs : List Value} {rs : List (Nat × List Value)} {acs : List Bool} {b : Bool} {rest : List Asn} {G : Vals}
theorem J38.start (h : OwnL W0 w (.row 3 1 tv m xs :: .rows 42 3 1 rv vs rs :: .row 4 1 av acs.length (acs.map .bool) :: rest)) : J38 W0 tv rv av m xs vs rs acs b rest (fun _ => none) w :=
  ⟨(h.add (Ext.refl w) (A := noAsn) (noAsn_ok _ _)).add (Ext.refl w) (A := noAsn) (noAsn_ok _ _), fun v h => (by cases h), fun v h => (by cases h), fun _ => rfl, fun _ => rfl⟩
theorem J38.set3 (h : J38 W0 tv rv av m xs vs rs acs b rest G w) (hg : G 3 = none) : J38 W0 tv rv av m xs vs rs acs b rest (G.put 3 (.slice (some ⟨w.heap.size, 0, none⟩) 1 1)) (w.alloc (.cells #[tv] 42)) :=
  ⟨h.own.fill 0 (A := asBlk 42 [tv] (G 3)) (A' := asBlk 42 [tv] (some (.slice (some ⟨w.heap.size, 0, none⟩) 1 1))) rfl (alloc_ext w _) ⟨Nat.le_refl _, heap_alloc_new w _⟩, fun v hv => by have : some (Value.slice (some ⟨w.heap.size, 0, none⟩) 1 1) = some v := hv; cases this; exact ⟨_, rfl⟩, h.p13, fun hh => by simp [Vals.put] at hh, h.n13⟩
theorem J38.set13 (h : J38 W0 tv rv av m xs vs rs acs b rest G w) (hg : G 12 = none) : J38 W0 tv rv av m xs vs rs acs b rest (G.put 12 (.slice (some ⟨w.heap.size, 0, none⟩) 1 1)) (w.alloc (.cells #[.bool b] 4)) :=
  ⟨h.own.fill 1 (A := asBlk 4 [.bool b] (G 12)) (A' := asBlk 4 [.bool b] (some (.slice (some ⟨w.heap.size, 0, none⟩) 1 1))) rfl (alloc_ext w _) ⟨Nat.le_refl _, heap_alloc_new w _⟩, h.p3, fun v hv => by have : some (Value.slice (some ⟨w.heap.size, 0, none⟩) 1 1) = some v := hv; cases this; exact ⟨_, rfl⟩, h.n3, fun hh => by simp [Vals.put] at hh⟩
theorem J38.blk3 {k : Nat} (h : J38 W0 tv rv av m xs vs rs acs b rest G w) (h3 : G 3 = some (.slice (some ⟨k, 0, none⟩) 1 1)) : w.heap[k]? = some (.cells #[tv] 42 (0, 0)) := by
  have h0 := h.own
  rw [h3] at h0
  exact (h0.get 0 rfl).2
theorem J38.blk13 {k : Nat} (h : J38 W0 tv rv av m xs vs rs acs b rest G w) (h3 : G 12 = some (.slice (some ⟨k, 0, none⟩) 1 1)) : w.heap[k]? = some (.cells #[.bool b] 4 (0, 0)) := by
  have h0 := h.own
  rw [h3] at h0
  exact (h0.get 1 rfl).2
theorem J38.rows (h : J38 W0 tv rv av m xs vs rs acs b rest G w) (hg : G 4 = none) : w.ownsRow W0.heap.size 42 1 rv vs.length vs := by
  have h0 := h.own
  rw [hg] at h0
  have h1 : OwnRows w W0.heap.size 42 3 1 rv vs rs := h0.get 3 rfl
  exact h1.own
theorem J38.acc (h : J38 W0 tv rv av m xs vs rs acs b rest G w) (hg : G 13 = none) : w.ownsRow W0.heap.size 4 1 av acs.length (acs.map .bool) := by
  have h0 := h.own
  rw [hg] at h0
  exact h0.get 4 rfl
theorem J38.set4 {k : Nat} (h : J38 W0 tv rv av m xs vs rs acs b rest G w) (hg : G 4 = none) (h3 : G 3 = some (.slice (some ⟨k, 0, none⟩) 1 1)) (hown : w'.ownsRow W0.heap.size 42 1 v (vs.length + 1) (vs ++ [tv])) (hgr : w.grownBy w' rv.ownBlock) (hb : ∀ k, v.ownBlock = some k → rv.ownBlock = some k ∨ w.heap.size ≤ k) : J38 W0 tv rv av m xs vs rs acs b rest (G.put 4 v) w' := by
  have h0 := h.own
  rw [hg] at h0
  have h0 : OwnL W0 w (asBlk 42 [tv] (G 3) :: asBlk 4 [.bool b] (G 12) :: .row 3 1 tv m xs :: .rows 42 3 1 rv vs rs :: zAcc av acs b (G 13) :: rest) := h0
  have h1 := h0.perm (L' := .row 3 1 tv m xs :: .rows 42 3 1 rv vs rs :: asBlk 42 [tv] (G 3) :: asBlk 4 [.bool b] (G 12) :: zAcc av acs b (G 13) :: rest)
    (by
      refine List.Perm.trans (List.perm_middle (l₁ := [_, _])) ?_
      refine List.Perm.cons _ ?_
      exact List.perm_middle (l₁ := [_, _]))
  have h2 := h1.push hgr hown hb
  have h3' := h2.add (Ext.refl _) (A := noAsn) (noAsn_ok _ _)
  refine ⟨?_, h.p3, h.p13, fun hh => ?_, h.n13⟩
  · show OwnL W0 w' (asBlk 42 [tv] (G 3) :: asBlk 4 [.bool b] (G 12) :: noAsn :: .rows 42 3 1 v (vs ++ [tv]) (rs ++ [(m, xs)]) :: zAcc av acs b (G 13) :: rest)
    refine h3'.perm (List.Perm.symm ?_)
    refine List.Perm.trans (List.perm_middle (l₁ := [_, _])) ?_
    refine List.Perm.cons _ ?_
    exact List.perm_middle (l₁ := [_, _])
  · have : G 3 = none := hh
    rw [h3] at this; cases this
theorem J38.set14 {k : Nat} (h : J38 W0 tv rv av m xs vs rs acs b rest G w) (hg : G 13 = none) (h3 : G 12 = some (.slice (some ⟨k, 0, none⟩) 1 1)) (hown : w'.ownsRow W0.heap.size 4 1 v (acs.length + 1) (acs.map .bool ++ [.bool b])) (hgr : w.grownBy w' av.ownBlock) (hb : ∀ k, v.ownBlock = some k → av.ownBlock = some k ∨ w.heap.size ≤ k) : J38 W0 tv rv av m xs vs rs acs b rest (G.put 13 v) w' := by
  have h0 := h.own
  rw [hg] at h0
  have h1 := h0.app 4 (v := av) rfl hgr hown hb
  refine ⟨?_, h.p3, h.p13, h.n3, fun hh => ?_⟩
  · show OwnL W0 w' (asBlk 42 [tv] (G 3) :: asBlk 4 [.bool b] (G 12) :: zRow tv m xs (G 4) :: zRows tv rv m xs vs rs (G 4) :: .row 4 1 v (acs.length + 1) ((acs ++ [b]).map .bool) :: rest)
    rw [List.map_append, show [b].map Value.bool = [.bool b] from rfl]
    exact h1
  · have : G 12 = none := hh
    rw [h3] at this; cases this
theorem J38.fin {v4 v14 : Value} (h : J38 W0 tv rv av m xs vs rs acs b rest G w) (h4 : G 4 = some v4) (h14 : G 13 = some v14) : OwnL W0 w (.rows 42 3 1 v4 (vs ++ [tv]) (rs ++ [(m, xs)]) :: .row 4 1 v14 (acs.length + 1) ((acs ++ [b]).map .bool) :: rest) := by
  have h0 := h.own.drop.drop
  rw [h4, h14] at h0
  exact h0.drop
end
theorem J38.ext {W0 w : World} {tv rv av : Value} {m : Nat} {xs vs : List Value} {rs : List (Nat × List Value)} {acs : List Bool} {b : Bool} {rest : List Asn} {G : Vals} (h : J38 W0 tv rv av m xs vs rs acs b rest G w) : Ext W0 w := h.own.ext
def MinP (m : Nat) (r : Option DN) (w : World) (e : Ending) (w' : World) : Prop := match r with
  | none => e = .returned (.tuple #[.agg #[.int .i64 0, .slice none 0 0, .slice none 0 0], .int .i64 3]) ∧ Ext w w'
  | some D => ∃ rv g cs S, e = .returned (.tuple #[.agg #[.int .i64 (m : Int), rv, .slice (some ⟨g, 0, none⟩) D.acc.length D.acc.length], .int .i64 0]) ∧ cs.toList.take D.acc.length = D.acc.map .bool ∧ OwnL w w' [.any S (fun W => ListsC W rv (intR D.rows) D.rows.length), .blk g (.cells cs 4)]
end Go.Proofs.YtmebgomnmlbgnaaDoor

namespace Go.Proofs.YtmebgomnmlbgnaaDoor
open Go.RowKit
def headR : Code → Option Nat
  | .region k _ _ => some k
  | .seq a _ => headR a
  | .block _ c => headR c
  | .loop c => headR c
  | _ => none
def tailR (n : Nat) : Code → Option Code
  | .seq a b => if headR a = some n then some (.seq a b) else tailR n b
  | _ => none
def textR (n : Nat) (o : Option Code) : Code := match o with
  | some c => (tailR n c).getD .skip
  | none => .skip
structure Stop (p : Prop) : Prop where
  out : p
theorem stop_at (n : Nat) {P : Program} {ops : Array Oper} {d : Bool} {rest : Code} {Q : Exit → Act → World → Prop} {a : Act} {w : World} (h : Stop (Code.wp P (.seq (.region n ops d) rest) Q a w)) : Code.wp P (.seq (.region n ops d) rest) Q a w := h.out
theorem stop_at2 (n : Nat) {P : Program} {ops : Array Oper} {d : Bool} {c rest : Code} {Q : Exit → Act → World → Prop} {a : Act} {w : World} (h : Stop (Code.wp P (.seq (.seq (.region n ops d) c) rest) Q a w)) : Code.wp P (.seq (.seq (.region n ops d) c) rest) Q a w := h.out
end Go.Proofs.YtmebgomnmlbgnaaDoor
