/- Classes that are refined: the plain function. langs.refine 71. What an operation of two sets gives: the plain function. The set that an operation builds, class by class. -/
import Derived.Test.YthlnmcokgfpgmaaDoorZB
import Derived.Test.YthlnmcokgfpgmaaDoorZA
namespace Go.Proofs.YthlnmcokgfpgmaaDoor
open Go.RowKit Go.Maps
set_option linter.unusedVariables false
set_option linter.unusedSimpArgs false

section
variable {κ : Type} [BEq κ] [LawfulBEq κ]
def addN (l : List κ) (k : κ) : List κ := if l.contains k then l else l ++ [k]
def namesOf (ks : List κ) : List κ := ks.foldl addN []
omit [LawfulBEq κ] in
theorem namesOf_snoc (ks : List κ) (k : κ) : namesOf (ks ++ [k]) = addN (namesOf ks) k := by unfold namesOf; rw [List.foldl_append]; rfl
omit [LawfulBEq κ] in
theorem addN_prefix (l : List κ) (k : κ) : l <+: addN l k := by
  unfold addN; split
  · exact List.prefix_refl _
  · exact List.prefix_append _ _
omit [LawfulBEq κ] in
theorem foldN_prefix : ∀ (ks l : List κ), l <+: ks.foldl addN l
  | [], l => List.prefix_refl _
  | k :: r, l => (addN_prefix l k).trans (foldN_prefix r (addN l k))
omit [LawfulBEq κ] in
theorem namesOf_prefix (ks : List κ) (i : Nat) : namesOf (ks.take i) <+: namesOf ks := by
  conv => rhs; rw [← List.take_append_drop i ks]
  unfold namesOf
  rw [List.foldl_append]
  exact foldN_prefix _ _
theorem addN_nodup {l : List κ} (h : l.Nodup) (k : κ) : (addN l k).Nodup := by
  unfold addN; split
  · exact h
  · rename_i hc
    rw [List.nodup_append]
    refine ⟨h, by simp, fun a ha b hb e => ?_⟩
    simp at hb; subst hb; subst e
    exact hc (by simpa using ha)
theorem foldN_nodup : ∀ (ks l : List κ), l.Nodup → (ks.foldl addN l).Nodup
  | [], l, h => h
  | k :: r, l, h => foldN_nodup r _ (addN_nodup h k)
theorem namesOf_nodup (ks : List κ) : (namesOf ks).Nodup := foldN_nodup ks [] (by simp)
theorem mem_addN {l : List κ} {k x : κ} : x ∈ addN l k ↔ x ∈ l ∨ x = k := by
  unfold addN; split
  · rename_i hc
    have : k ∈ l := by simpa using hc
    constructor
    · exact .inl
    · rintro (h | rfl)
      · exact h
      · exact this
  · simp
theorem mem_namesOf {ks : List κ} {x : κ} : x ∈ namesOf ks ↔ x ∈ ks := by
  have : ∀ (ks l : List κ), x ∈ ks.foldl addN l ↔ x ∈ l ∨ x ∈ ks := fun ks => by
    induction ks with
    | nil => intro l; simp
    | cons k r ih =>
      intro l
      rw [List.foldl_cons, ih, mem_addN, List.mem_cons]
      exact or_assoc
  unfold namesOf
  rw [this]; simp
def idxN (l : List κ) (k : κ) : Nat := l.findIdx (fun y => y == k)
theorem idxN_get {l : List κ} (h : l.Nodup) {n : Nat} {k : κ} (hn : l[n]? = some k) : idxN l k = n := by
  obtain ⟨hlt, he⟩ := List.getElem?_eq_some_iff.1 hn
  unfold idxN
  rw [List.findIdx_eq hlt]
  refine ⟨by simp [he], fun j hj => ?_⟩
  have := List.pairwise_iff_getElem.1 h j n (by omega) hlt hj
  rw [he] at this
  simpa using this
theorem idxN_mem {l : List κ} {k : κ} (h : k ∈ l) : l[idxN l k]? = some k := by
  have hlt : l.findIdx (fun y => y == k) < l.length := List.findIdx_lt_length.2 ⟨k, h, by simp⟩
  have h2 := List.findIdx_getElem (w := hlt)
  unfold idxN
  rw [List.getElem?_eq_getElem hlt]
  simp only [beq_iff_eq] at h2
  rw [h2]
theorem idxN_lt {l : List κ} {k : κ} (h : k ∈ l) : idxN l k < l.length := (List.getElem?_eq_some_iff.1 (idxN_mem h)).1
theorem idxN_prefix {l L : List κ} (hL : L.Nodup) (h : l <+: L) {k : κ} (hk : k ∈ l) : idxN L k = idxN l k := idxN_get hL (prefix_get? h (idxN_mem hk))
def mapZ (l : List κ) : List (κ × Int) := l.zipIdx.map (fun p => (p.1, (p.2 : Int)))
omit [BEq κ] [LawfulBEq κ] in
theorem mapZ_snoc (l : List κ) (k : κ) : mapZ (l ++ [k]) = mapZ l ++ [(k, (l.length : Int))] := by unfold mapZ; rw [List.zipIdx_append]; simp
omit [BEq κ] [LawfulBEq κ] in
theorem mapZ_len (l : List κ) : (mapZ l).length = l.length := by unfold mapZ; simp
omit [BEq κ] [LawfulBEq κ] in
theorem mapZ_keys (l : List κ) : (mapZ l).map (·.1) = l := by
  unfold mapZ
  rw [List.map_map]
  exact List.zipIdx_map_fst 0 l
theorem mapZ_none {l : List κ} {k : κ} (h : k ∉ l) : getM (mapZ l) k = none := by
  rw [getM_none]
  intro p hp e
  have : p.1 ∈ (mapZ l).map (·.1) := List.mem_map.2 ⟨p, hp, rfl⟩
  rw [mapZ_keys] at this
  exact h (e ▸ this)
theorem mapZ_some {l : List κ} (h : l.Nodup) {k : κ} (hk : k ∈ l) : getM (mapZ l) k = some (idxN l k : Int) := by
  refine getM_of_mem (List.pairwise_map.1 (by rw [mapZ_keys]; exact h)) ?_
  unfold mapZ
  exact List.mem_map.2 ⟨(k, idxN l k), by rw [List.mk_mem_zipIdx_iff_getElem?]; exact idxN_mem hk, rfl⟩
end

/-- The name of a row: its class, the classes of its successors, zeros. -/
def keyX (cl row : List Int) (i x : Nat) : List Int := (cl.getD i 0 :: (row.take x).map (fun t => cl.getD t.toNat 0)) ++ List.replicate (16 - x) 0
def keyR (cl row : List Int) (i : Nat) : List Int := keyX cl row i row.length
def keysR (rows : List (List Int)) (cl : List Int) : List (List Int) := rows.zipIdx.map (fun p => keyR cl p.1 p.2)
def namesR (rows : List (List Int)) (cl : List Int) : List (List Int) := namesOf (keysR rows cl)
def nextR (rows : List (List Int)) (cl : List Int) : List Int := (keysR rows cl).map (fun k => (idxN (namesR rows cl) k : Int))
inductive RefR (rows : List (List Int)) : List Int → Nat → List Int × Nat → Prop where
  | stop {cl : List Int} {many : Nat} : (namesR rows cl).length = many → RefR rows cl many (nextR rows cl, many)
  | step {cl : List Int} {many : Nat} {r : List Int × Nat} : (namesR rows cl).length ≠ many → RefR rows (nextR rows cl) (namesR rows cl).length r → RefR rows cl many r
theorem RefR.one {rows : List (List Int)} {cl : List Int} {many : Nat} {r r' : List Int × Nat} (h : RefR rows cl many r) (h' : RefR rows cl many r') : r = r' := by
  induction h with
  | stop h1 =>
    cases h' with
    | stop _ => rfl
    | step h2 _ => exact absurd h1 h2
  | step h1 h2 ih =>
    cases h' with
    | stop h3 => exact absurd h3 h1
    | step _ h3 => exact ih h3
/-- The same, to be reckoned. -/
def refG (rows : List (List Int)) : Nat → List Int → Nat → Option (List Int × Nat)
  | 0, _, _ => none
  | f + 1, cl, many => if (namesR rows cl).length = many then some (nextR rows cl, many) else refG rows f (nextR rows cl) (namesR rows cl).length
theorem refG_is {rows : List (List Int)} : ∀ (f : Nat) {cl : List Int} {many : Nat} {r : List Int × Nat}, refG rows f cl many = some r → RefR rows cl many r
  | 0, cl, many, r, h => by cases h
  | f + 1, cl, many, r, h => by
    unfold refG at h
    split at h
    · rename_i h1
      cases h
      exact .stop h1
    · rename_i h1
      exact .step h1 (refG_is f h)
theorem keyX_len {cl row : List Int} {i x : Nat} (hx : x ≤ 16) (hr : x ≤ row.length) : (keyX cl row i x).length = 17 := by
  unfold keyX
  rw [List.length_append, List.length_cons, List.length_map, List.length_take, List.length_replicate]
  omega
theorem keyX_zero (cl row : List Int) (i : Nat) : keyX cl row i 0 = cl.getD i 0 :: List.replicate 16 0 := rfl
theorem keyX_set {cl row : List Int} {i x : Nat} (hx : x < 16) (hr : x < row.length) : (keyX cl row i x).set (x + 1) (cl.getD row[x].toNat 0) = keyX cl row i (x + 1) := by
  unfold keyX
  rw [show 16 - x = (16 - (x + 1)) + 1 by omega, List.replicate_succ, List.set_append_right _ _ (by simp; omega)]
  have hl : ((cl.getD i 0) :: (row.take x).map (fun t => cl.getD t.toNat 0)).length = x + 1 := by simp; omega
  rw [hl, Nat.sub_self, List.set_cons_zero, List.take_succ_eq_append_getElem hr, List.map_append]
  simp
theorem keysR_len (rows : List (List Int)) (cl : List Int) : (keysR rows cl).length = rows.length := by unfold keysR; simp
theorem keysR_get {rows : List (List Int)} {cl : List Int} {i : Nat} (hi : i < rows.length) : (keysR rows cl)[i]? = some (keyR cl rows[i] i) := by
  unfold keysR
  rw [List.getElem?_map, List.getElem?_zipIdx, List.getElem?_eq_getElem hi]; simp
theorem nextR_len (rows : List (List Int)) (cl : List Int) : (nextR rows cl).length = rows.length := by unfold nextR; rw [List.length_map, keysR_len]
theorem namesR_le (rows : List (List Int)) (cl : List Int) : (namesR rows cl).length ≤ rows.length := by
  have : ∀ (ks : List (List Int)) (l : List (List Int)), (ks.foldl addN l).length ≤ l.length + ks.length := fun ks => by
    induction ks with
    | nil => intro l; simp
    | cons k r ih =>
      intro l
      rw [List.foldl_cons]
      have h1 := ih (addN l k)
      have h2 : (addN l k).length ≤ l.length + 1 := by unfold addN; split <;> simp
      rw [List.length_cons]; omega
  have := this (keysR rows cl) []
  rw [keysR_len] at this
  simpa [namesR, namesOf] using this
/-- Classes that are numbered without gaps. -/
structure ClsOk (n : Nat) (cl : List Int) (many : Nat) : Prop where
  len : cl.length = n
  val : ∀ c ∈ cl, 0 ≤ c ∧ c ≤ 100000
  all : ∀ v, v < many → ∃ i, i < n ∧ cl[i]? = some (v : Int)
theorem nextR_ok {rows : List (List Int)} {cl : List Int} (hn : rows.length ≤ 100000) : ClsOk rows.length (nextR rows cl) (namesR rows cl).length := by
  refine ⟨nextR_len _ _, fun c hc => ?_, fun v hv => ?_⟩
  · unfold nextR at hc
    obtain ⟨k, hk, rfl⟩ := List.mem_map.1 hc
    have := idxN_lt (mem_namesOf.2 hk)
    have h2 := namesR_le rows cl
    unfold namesR at h2 ⊢
    omega
  · have h1 : (namesR rows cl)[v] ∈ namesR rows cl := List.getElem_mem hv
    have h2 : (namesR rows cl)[v] ∈ keysR rows cl := mem_namesOf.1 h1
    obtain ⟨i, hi⟩ := List.getElem?_of_mem h2
    have hil := (List.getElem?_eq_some_iff.1 hi).1
    rw [keysR_len] at hil
    refine ⟨i, hil, ?_⟩
    unfold nextR
    rw [List.getElem?_map, hi]
    have := idxN_get (namesOf_nodup (keysR rows cl)) (show (namesOf (keysR rows cl))[v]? = some _ from List.getElem?_eq_getElem hv)
    simp only [Option.map_some]
    unfold namesR at this ⊢
    rw [this]
theorem many_le {rows : List (List Int)} {cl : List Int} {many : Nat} (h : ClsOk rows.length cl many) : many ≤ (namesR rows cl).length := by
  -- the heads of the names are all of these classes
  have h1 : ((List.range many).map (fun v : Nat => (v : Int))).Nodup := List.Pairwise.map _ (fun a b (h : a ≠ b) e => h (by omega)) List.nodup_range
  have h2 := List.Nodup.length_le_of_subset h1 (l₂ := (namesR rows cl).map (fun k => k.headD 0)) (fun z hz => by
    obtain ⟨v, hv, rfl⟩ := List.mem_map.1 hz
    obtain ⟨i, hi, hc⟩ := h.all v (List.mem_range.1 hv)
    have hk : keyR cl rows[i] i ∈ namesR rows cl := mem_namesOf.2 (List.mem_of_getElem? (keysR_get hi))
    refine List.mem_map.2 ⟨_, hk, ?_⟩
    unfold keyR keyX
    simp [List.getD, hc])
  simpa using h2
end Go.Proofs.YthlnmcokgfpgmaaDoor

namespace Go.Proofs.YthlnmcokgfpgmaaDoor
open Go.RowKit Go.Maps
set_option linter.unusedVariables false
set_option linter.unusedSimpArgs false
attribute [local go_sem] Oper.quietV quietV Oper.gives givesV ext_refl_iff ext_alloc_iff ext_drew_iff ext_drewN_iff
theorem wpList_build1 {P : Program} {ops : Array Oper} {rest : List Oper} {o : Oper} {a : Act} {w : World} {Q : Exit → Act → World → Prop} (hg : o.guard = none) (t : TypeId) (i : Nat) (x : Operand) (ho : o.op = .build t #[(i, x)]) (vx v : Value) (hx : a.eval x = vx)
    (hrun : (Instr.build t #[(i, vx)]).run P w = .ok v w) (h : wpList P ops Q rest (a.put o.dst v) w) : wpList P ops Q (o :: rest) a w := by
  refine wpList_plain hg fun K hK => ?_
  unfold Oper.wp
  simp only [execOp, ho, List.map_toArray, List.map_cons, List.map_nil, hx]
  simp only [Sem.run_bind, hrun, Result.andThen_ok, Sem.run_pure]
  exact hK _ _ h
def kA (l : List Int) : Array Value := (l.map (Value.int .i64)).toArray
theorem kA_size (l : List Int) : (kA l).size = l.length := by simp [kA]
theorem kA_one (l : List Int) : (kA l).all (·.oneCell') = true := all_oneCell_toArray (ints_oneCell _ _)
theorem kA_set (l : List Int) (i : Nat) (x : Int) : (kA l).setIfInBounds i (.int .i64 x) = kA (l.set i x) := by
  apply Array.ext'
  simp [kA, List.map_set]
theorem kA_get (l : List Int) {i : Nat} (h : i < l.length) : ∃ u, (kA l)[i]? = some u := ⟨_, Array.getElem?_eq_getElem (by simpa [kA] using h)⟩
theorem build_key (w : World) (c : Int) : (Instr.build 130 #[(0, .int .i64 c)]).run Tryd.prog w = .ok (.agg (kA (c :: List.replicate 16 0))) w := by kernel_rfl
theorem zero_key (w : World) : (zeroValue 130).run Tryd.prog w = .ok (.agg (kA (List.replicate 17 0))) w := by kernel_rfl
def StR (Wb : World) (n : Nat) (mv nv : Value) (wx : World) : Prop := ∃ gm gn, mv = .map (some gm) ∧ nv = .slice (some ⟨gn, 0, none⟩) n n ∧ OwnL Wb wx [.row 3 1 (.slice (some ⟨gn, 0, none⟩) n n) n (List.replicate n (.int .i64 0)), .blk gm (.map #[] 0)]
theorem stR1 (W : World) (n k : Nat) (hn : n ≤ 100000) (hk : k = W.heap.size + 1) : StR W n (.map (some W.heap.size)) (.slice (some ⟨k, 0, none⟩) n n) ((W.alloc (.map #[] 0)).alloc (.cells (Array.replicate n (.int .i64 0)) 3)).drew := by
  subst hk
  refine ⟨_, _, rfl, rfl, ?_⟩
  have h := ((OwnL.nil (Ext.refl W)).add (alloc_ext W (.map #[] 0)) (A := .blk W.heap.size (.map #[] 0)) ⟨Nat.le_refl _, heap_alloc_new _ _⟩).add (alloc_ext _ (.cells (Array.replicate n (.int .i64 0)) 3)) (A := .row 3 1 (.slice (some ⟨(W.alloc (.map #[] 0)).heap.size, 0, none⟩) n n) n (List.replicate n (.int .i64 0))) (own_new _ _ 3 n hn)
  have h := h.trans (drew_ext _)
  simpa using h
theorem stR2 (W : World) (n k : Nat) (hn : n ≤ 100000) (hk : k = W.heap.size + 1) : StR W n (.map (some k)) (.slice (some ⟨W.heap.size, 0, none⟩) n n) ((W.alloc (.cells (Array.replicate n (.int .i64 0)) 3)).alloc (.map #[] 0)).drew := by
  subst hk
  refine ⟨_, _, rfl, rfl, ?_⟩
  have h := ((OwnL.nil (Ext.refl W)).add (alloc_ext W (.cells (Array.replicate n (.int .i64 0)) 3)) (A := .row 3 1 (.slice (some ⟨W.heap.size, 0, none⟩) n n) n (List.replicate n (.int .i64 0))) (own_new _ _ 3 n hn)).add (alloc_ext _ (.map #[] 0)) (A := .blk (W.heap.size + 1) (.map #[] 0)) ⟨by simp, by have := heap_alloc_new (W.alloc (.cells (Array.replicate n (.int .i64 0)) 3)) (.map #[] 0); simpa using this⟩
  exact h.swap.trans (drew_ext _)
/-- The row of the next classes, i of them known. -/
def nxC (n : Nat) (l : List Int) (i : Nat) : List Value := (l.take i).map (Value.int .i64) ++ List.replicate (n - i) (.int .i64 0)
theorem nxC_at {n : Nat} {l : List Int} {i : Nat} (hl : l.length = n) (h : i < n) : (nxC n l i)[i]? = some (.int .i64 0) := by
  unfold nxC
  have : ((l.take i).map (Value.int .i64)).length = i := by simp; omega
  rw [List.getElem?_append_right (by omega), this, Nat.sub_self, List.getElem?_replicate, if_pos (by omega)]
theorem nxC_set {n : Nat} {l : List Int} {i : Nat} (hl : l.length = n) (h : i < n) {x : Int} (hx : l[i]? = some x) : (nxC n l i).set i (.int .i64 x) = nxC n l (i + 1) := by
  unfold nxC
  have h1 : ((l.take i).map (Value.int .i64)).length = i := by simp; omega
  have h2 : i < l.length := by omega
  rw [show n - i = (n - (i + 1)) + 1 by omega, List.replicate_succ, List.set_append_right _ _ (by omega), h1, Nat.sub_self, List.set_cons_zero, List.take_succ_eq_append_getElem h2, List.map_append, List.append_assoc]
  rw [List.getElem?_eq_getElem h2] at hx
  cases hx; rfl
theorem nxC_all {n : Nat} {l : List Int} (hl : l.length = n) : nxC n l n = l.map (.int .i64) := by unfold nxC; rw [Nat.sub_self, List.take_of_length_le (by omega)]; simp
theorem keyR_ok {cl row : List Int} {i : Nat} (h : ∀ c ∈ cl, 0 ≤ c ∧ c ≤ 100000) (hr : row.length ≤ 16) : rowOK (keyR cl row i) := by
  refine ⟨keyX_len hr (Nat.le_refl _), fun x hx => ?_⟩
  have hg : ∀ k, wfI (cl.getD k 0) := fun k => by
    refine wfI_of ?_
    by_cases hk : k < cl.length
    · have := h cl[k] (List.getElem_mem hk)
      simp [List.getD, hk]; omega
    · simp [List.getD, hk]
  unfold keyR keyX at hx
  rcases List.mem_append.1 hx with hx | hx
  · rcases List.mem_cons.1 hx with rfl | hx
    · exact hg _
    · obtain ⟨t, _, rfl⟩ := List.mem_map.1 hx
      exact hg _
  · rw [(List.mem_replicate.1 hx).2]
    exact wfI_of (by omega)
theorem names_step {rows : List (List Int)} {cl key : List Int} {i : Nat} (hk : (keysR rows cl)[i]? = some key) : namesOf ((keysR rows cl).take (i + 1)) = addN (namesOf ((keysR rows cl).take i)) key := by
  obtain ⟨hi, rfl⟩ := List.getElem?_eq_some_iff.1 hk
  rw [List.take_succ_eq_append_getElem hi, namesOf_snoc]
theorem next_at {rows : List (List Int)} {cl key : List Int} {i : Nat} (hk : (keysR rows cl)[i]? = some key) : (nextR rows cl)[i]? = some (idxN (namesOf ((keysR rows cl).take (i + 1))) key : Int) := by
  unfold nextR namesR
  rw [List.getElem?_map, hk]
  have hi := (List.getElem?_eq_some_iff.1 hk).1
  have hm : key ∈ namesOf ((keysR rows cl).take (i + 1)) := mem_namesOf.2 (List.mem_of_getElem? (i := i) (by rw [List.getElem?_take_of_lt (by omega)]; exact hk))
  rw [← idxN_prefix (namesOf_nodup _) (namesOf_prefix (keysR rows cl) (i + 1)) hm]; rfl
theorem addN_mem {l : List (List Int)} {k : List Int} (h : k ∈ l) : addN l k = l := by unfold addN; rw [if_pos (by simpa using h)]
theorem addN_new {l : List (List Int)} {k : List Int} (h : k ∉ l) : addN l k = l ++ [k] := by unfold addN; rw [if_neg (by simpa using h)]
structure RowsOk (rows : List (List Int)) : Prop where
  pos : 1 ≤ rows.length
  le : rows.length ≤ 4096
  fit : ∀ r ∈ rows, r.length ≤ 16 ∧ ∀ t ∈ r, 0 ≤ t ∧ t < rows.length
def RefP (rows : List (List Int)) (cl : List Int) (w : World) (e : Ending) (w' : World) : Prop := ∃ v cl' many, e = .returned (.tuple #[v, .int .i64 (many : Nat)]) ∧ FitC w' v cl' ∧ RefR rows cl 0 (cl', many) ∧ ClsOk rows.length cl' many ∧ Ext w w'

set_option maxRecDepth 100000 in
set_option maxHeartbeats 16000000 in
theorem refine_any (w : World) (cv rv : Value) (cl0 : List Int) (cc : Nat) (hc : IntsC w cv cl0 cc) (rows : List (List Int)) (cr : Nat) (hr : ListsC w rv rows cr) (hok : RowsOk rows) (hcl : ClsOk rows.length cl0 0) :
    Calls Tryd.prog 71 #[cv, rv] w (RefP rows cl0 w) := by
  obtain ⟨Ar, vr, rfl, _, _, _, _, hrm⟩ := id hr
  unfold lenMax at hrm
  have hn1 := hok.pos
  have hn2 := hok.le
  have hmk := mk_ints rows.length (by omega)
  have hmm := @run_makeMap Tryd.prog
  have HOK := Lib.hid hok
  have HC0 := Lib.hid hcl
  clear hok hcl
  go_enter Tryd.func71, Tryd.ntmps71
  go_wp2
  go_loopg [0, 6] (rows.length + 1) (fun gk cv mv wr => ∃ (cl : List Int) (many c : Nat), mv = .int .i64 (many : Int) ∧ gk + many = rows.length + 1 ∧ Hid (ClsOk rows.length cl many) ∧ IntsC wr cv cl c ∧ Hid (∀ r, RefR rows cl many r → RefR rows cl0 0 r) ∧ Ext w wr)
  case atStart => exact ⟨cl0, 0, cc, rfl, rfl, HC0, hc, Lib.hid (fun r h => h), Ext.refl _⟩
  case round =>
    obtain ⟨cl, many, c, rfl, hgk, hcls, hc, hpend, hE⟩ := hrel
    have HC1 := hcls
    obtain ⟨W2, hW2⟩ : ∃ W, W = wr := ⟨_, rfl⟩; subst hW2
    obtain ⟨Ac, rfl, hcc, _, hcm⟩ := id hc
    unfold lenMax at hcm
    rw [hcls.out.len]
    have hclen : cl.length = rows.length := hcls.out.len
    have HCL := Lib.hid hclen
    clear hclen hcm
    go_upto_region 2 with fail
    go_cut [7, 8] (StR W2 rows.length)
    case first =>
      go_region
      all_goals go_wp2
      all_goals go_meet
      all_goals (first | exact stR1 _ _ _ (by omega) rfl | exact stR2 _ _ _ (by omega) rfl)
    case rest =>
      obtain ⟨gm, gn, rfl, rfl, hO⟩ := hcut
      obtain ⟨W3, hW3⟩ : ∃ W, W = wc := ⟨_, rfl⟩; subst hW3
      have hO : OwnL W2 W3 [.row 3 1 (.slice (some ⟨gn, 0, none⟩) rows.length rows.length) rows.length (nxC rows.length (nextR rows cl) 0), .blk gm (.map #[] 0)] := hO
      have hm0 : MapOf rowV rowOK (.map #[] 0) (mapZ (namesOf ((keysR rows cl).take 0))) := MapOf.made _ _
      clear hmm
      go_wp2
      go_loopw [22] (fun iv wr => ∃ (i : Nat) (om : Obj), iv = .int .i64 i ∧ i ≤ rows.length ∧ MapOf rowV rowOK om (mapZ (namesOf ((keysR rows cl).take i))) ∧ OwnL W2 wr [.row 3 1 (.slice (some ⟨gn, 0, none⟩) rows.length rows.length) rows.length (nxC rows.length (nextR rows cl) i), .blk gm om]) (fun iv _ => rows.length - (intOf iv).toNat)
      case atStart => exact ⟨0, _, rfl, Nat.zero_le _, hm0, hO⟩
      case round =>
        clear hm0 hO
        obtain ⟨i, om, rfl, hi, hmo, hO⟩ := hrel
        obtain ⟨W4, hW4⟩ : ∃ W, W = wr := ⟨_, rfl⟩; subst hW4
        by_cases hil : i < rows.length
        · obtain ⟨b, o, u, c', hv, _, c1, hi1⟩ := hr.at_ hil
          injection hv with hv; subst hv
          have c1 := (hE.trans hO.ext).cell c1
          have hfit := HOK.out.fit _ (List.getElem_mem hil)
          have hkg := keysR_get (cl := cl) hil
          have hicl : i < cl.length := by rw [HCL.out]; exact hil
          obtain ⟨bc, oc, hAc, _, c2⟩ := (hcc.ext hO.ext).at_int hicl
          subst hAc
          have hcg : cl[i] = cl.getD i 0 := by simp [List.getD, hicl]
          rw [hcg] at c2
          have HFT := Lib.hid (And.intro hfit hkg)
          have HIL := Lib.hid (And.intro hil hicl)
          clear hfit hkg hcg hicl
          generalize rows[i] = row at *
          obtain ⟨A2, rfl, hi2, _, him⟩ := hi1
          unfold lenMax at him
          have hr16 : row.length ≤ 16 := HFT.out.1.1
          have hks : (kA (keyX cl row i 0)).size = 17 := by rw [kA_size, keyX_len (by omega) (by omega)]
          have hbld := fun w => build_key w (cl.getD i 0)
          generalize hci : cl.getD i 0 = ci at *
          have HCI := Lib.hid hci
          clear hci
          go_upto_region 7 with (first
            | (with_reducible refine wpList_build1 rfl 130 0 _ rfl (.int .i64 ci) _ rfl (hbld _) ?_)
            | (with_reducible refine wpList_store_blk _ rfl 130 _ _ rfl W4.heap.size 130 (kA (ci :: List.replicate 16 0)) _ rfl rfl (heap_alloc_new _ _) (by kernel_rfl) (by kernel_rfl) (kA_one _) ?_; intro w5 h5 g5))
          have hE5 : Ext W4 w5 := Below.grown ((Ext.refl W4).alloc _) g5 ((Ext.refl W4).alloc _).size (fun k hk => by cases hk; exact Nat.le_refl _)
          have hO5 := hO.add hE5 (A := .blk W4.heap.size (.cells (kA (ci :: List.replicate 16 0)) 130)) ⟨Nat.le_refl _, h5⟩
          rw [← HCI.out, ← keyX_zero cl row i] at hO5
          generalize hb11 : W4.heap.size = b11 at *
          clear g5 h5 hE5 c1 c2 hO hbld HCI hb11 hks
          go_wp2
          go_loopw [34] (fun iv wr => ∃ x : Nat, iv = .int .i64 x ∧ x ≤ row.length ∧ OwnL W2 wr [.blk b11 (.cells (kA (keyX cl row i x)) 130), .row 3 1 (.slice (some ⟨gn, 0, none⟩) rows.length rows.length) rows.length (nxC rows.length (nextR rows cl) i), .blk gm om]) (fun iv _ => row.length - (intOf iv).toNat)
          case atStart => exact ⟨0, rfl, Nat.zero_le _, hO5⟩
          case round =>
            clear hO5
            obtain ⟨x, rfl, hx, hO⟩ := hrel
            obtain ⟨W5, hW5⟩ : ∃ W, W = wr := ⟨_, rfl⟩; subst hW5
            by_cases hxl : x < row.length
            · obtain ⟨q, hq⟩ : ∃ q : Nat, row[x] = (q : Int) := ⟨row[x].toNat, by have := (HFT.out.1.2 row[x] (List.getElem_mem hxl)).1; omega⟩
              have hqn : q < rows.length := by have := (HFT.out.1.2 row[x] (List.getElem_mem hxl)).2; omega
              have hqc : q < cl.length := by rw [HCL.out]; exact hqn
              obtain ⟨br, or, hAr, _, c3⟩ := (hi2.ext (hE.trans hO.ext)).at_int hxl
              subst hAr
              obtain ⟨bc', oc', hAc, _, c4⟩ := (hcc.ext hO.ext).at_int hqc
              cases hAc
              rw [hq] at c3
              have hst : ∃ u, W5.cell? ⟨b11, x + 1, none⟩ = some u := by
                obtain ⟨u, hu⟩ := kA_get (keyX cl row i x) (i := x + 1) (by rw [keyX_len (by omega) (by omega)]; omega)
                exact ⟨u, by rw [cell_of_row W5 b11 (x + 1) _ 130 (0, 0) (hO.get 0 rfl).2]; exact hu⟩
              obtain ⟨u0, hst⟩ := hst
              have hfz := free_of_blk (hO.get 0 rfl).2 (x + 1)
              have hO6 := hO.put 0 (b := b11) rfl (x + 1) (.int .i64 cl[q])
              rw [kA_set] at hO6
              have hkx := keyX_set (cl := cl) (i := i) (by omega : x < 16) hxl
              rw [hq, show cl.getD (q : Int).toNat 0 = cl[q] by simp [List.getD, hqc]] at hkx
              rw [hkx] at hO6
              have HO := Lib.hid hO6
              have HQ := Lib.hid hq
              clear hO hkx hO6 hq
              go_wp2
              refine ⟨⟨x + 1, by go_num, by omega, HO.out⟩, ?_⟩
              simp [intOf]; omega
            · have hxe : x = row.length := by omega
              subst hxe
              have hks : (kA (keyX cl row i row.length)).size = 17 := by rw [kA_size, keyX_len (by omega) (by omega)]
              have hkeq : keyX cl row i row.length = keyR cl row i := rfl
              have hkok : rowOK (keyR cl row i) := keyR_ok hcls.out.val hr16
              rw [hkeq] at hO hks
              have hblk := (hO.get 0 rfl).2
              have hmW := hmo W5 gm (hO.get 2 rfl).2
              have hil := HIL.out.1
              have hcur : ∃ u, W5.cell? ⟨gn, i, none⟩ = some u := by
                have h1 : W5.ownsRow W2.heap.size 3 1 _ _ _ := hO.get 1 rfl
                rw [h1.cellAt i (by omega)]
                exact ⟨_, List.getElem?_eq_getElem (by rw [h1.1]; omega)⟩
              obtain ⟨u0, hcur⟩ := hcur
              have hfz := World.ownsRow.frozenAt (show W5.ownsRow W2.heap.size 3 1 _ _ _ from hO.get 1 rfl) i
              have hiI : (i : Int) < (rows.length : Int) := by omega
              have HO := Lib.hid hO
              clear hO hkeq hil
              generalize hkk : keyR cl row i = key at *
              by_cases hmem : key ∈ namesOf ((keysR rows cl).take i)
              · have hg : getM (mapZ (namesOf ((keysR rows cl).take i))) key = some (idxN (namesOf ((keysR rows cl).take i)) key : Int) := mapZ_some (namesOf_nodup _) hmem
                have hns : namesOf ((keysR rows cl).take (i + 1)) = namesOf ((keysR rows cl).take i) := by rw [names_step HFT.out.2]; exact addN_mem hmem
                have hnx := next_at HFT.out.2
                rw [hns] at hnx
                have hset := nxC_set (nextR_len rows cl) HIL.out.1 hnx
                have hO6 := HO.out.store 1 rfl i (.int .i64 (idxN (namesOf ((keysR rows cl).take i)) key : Int))
                rw [hset] at hO6
                have HO6 := Lib.hid hO6
                have HNS := Lib.hid hns
                have HG := Lib.hid hg
                clear hg hns hnx hset hO6 HO hmem
                go_upto_region 13 with (first
                  | (with_reducible refine wpList_load_row rfl 130 _ rfl b11 rfl 130 _ (0, 0) _ hblk Tryd.underlying130 rfl (by rw [hks]; kernel_rfl) ?_)
                  | (at_lookup; refine wpList_lookup_is rfl _ _ 128 true rfl 3 key130 Tryd.underlying128 (zero3 _) rfl hmW key rfl hkok ?_; rw [HG.out]))
                go_wp2_with (first
                  | (with_reducible refine wpList_load_row rfl 130 _ rfl b11 rfl 130 _ (0, 0) _ hblk Tryd.underlying130 rfl (by rw [hks]; kernel_rfl) ?_)
                  | (at_lookup; refine wpList_lookup_is rfl _ _ 128 false rfl 3 key130 Tryd.underlying128 (zero3 _) rfl hmW key rfl hkok ?_; rw [HG.out]))
                refine ⟨⟨i + 1, om, by go_num, by omega, by rw [HNS.out]; exact hmo, HO6.out.drop⟩, ?_⟩
                simp [intOf]; omega
              · have hg : getM (mapZ (namesOf ((keysR rows cl).take i))) key = none := mapZ_none hmem
                have hns : namesOf ((keysR rows cl).take (i + 1)) = namesOf ((keysR rows cl).take i) ++ [key] := by rw [names_step HFT.out.2]; exact addN_new hmem
                have hnx := next_at HFT.out.2
                have hset := nxC_set (nextR_len rows cl) HIL.out.1 hnx
                have hg2 : getM (mapZ (namesOf ((keysR rows cl).take i)) ++ [(key, (((mapZ (namesOf ((keysR rows cl).take i))).length : Nat) : Int))]) key = some (idxN (namesOf ((keysR rows cl).take (i + 1))) key : Int) := by
                  rw [mapZ_len, ← mapZ_snoc, ← hns]
                  exact mapZ_some (namesOf_nodup _) (by rw [hns]; simp)
                have hmz : mapZ (namesOf ((keysR rows cl).take (i + 1))) = mapZ (namesOf ((keysR rows cl).take i)) ++ [(key, (((mapZ (namesOf ((keysR rows cl).take i))).length : Nat) : Int))] := by
                  rw [mapZ_len, ← mapZ_snoc, ← hns]
                have HG := Lib.hid hg
                have HG2 := Lib.hid hg2
                have HMZ := Lib.hid hmz
                have HSET := Lib.hid hset
                clear hg hg2 hmz hns hnx hset hmem
                go_upto_region 14 with (first
                  | (with_reducible refine wpList_load_row rfl 130 _ rfl b11 rfl 130 _ (0, 0) _ hblk Tryd.underlying130 rfl (by rw [hks]; kernel_rfl) ?_)
                  | (at_lookup; refine wpList_lookup_is rfl _ _ 128 true rfl 3 key130 Tryd.underlying128 (zero3 _) rfl hmW key rfl hkok ?_; rw [HG.out]))
                clear hcur hfz u0
                go_upto_region 15 with (first
                  | (with_reducible refine wpList_load_row rfl 130 _ rfl b11 rfl 130 _ (0, 0) _ hblk Tryd.underlying130 rfl (by rw [hks]; kernel_rfl) ?_)
                  | (with_reducible refine wpList_len_is rfl _ 128 rfl Tryd.underlying128 rfl hmW ?_)
                  | (with_reducible refine wpList_update_new rfl _ _ _ 128 rfl 3 key130 Tryd.underlying128 rfl hmW key rfl hkok HG.out _ rfl ?_; intro w6 hm6 hg6))
                obtain ⟨om2, hb2, hmo2⟩ := mapOf_of hm6
                have hO6 := HO.out.step (A' := .blk gm om2) 2 rfl hg6 (fun c hc => by cases hc; rfl) ⟨(HO.out.get 2 rfl).1, hb2⟩ (fun c hc => .inl hc)
                have hO6 : OwnL W2 w6 [.blk b11 (.cells (kA key) 130), .row 3 1 (.slice (some ⟨gn, 0, none⟩) rows.length rows.length) rows.length (nxC rows.length (nextR rows cl) i), .blk gm om2] := hO6
                have hblk := (hO6.get 0 rfl).2
                have hcur : ∃ u, w6.cell? ⟨gn, i, none⟩ = some u := by
                  have h1 : w6.ownsRow W2.heap.size 3 1 _ _ _ := hO6.get 1 rfl
                  rw [h1.cellAt i (by have := HIL.out.1; omega)]
                  exact ⟨_, List.getElem?_eq_getElem (by rw [h1.1]; have := HIL.out.1; omega)⟩
                obtain ⟨u0, hcur⟩ := hcur
                have hfz := World.ownsRow.frozenAt (show w6.ownsRow W2.heap.size 3 1 _ _ _ from hO6.get 1 rfl) i
                have hO7 := hO6.store 1 rfl i (.int .i64 (idxN (namesOf ((keysR rows cl).take (i + 1))) key : Int))
                rw [HSET.out] at hO7
                have HO7 := Lib.hid hO7
                clear hO6 hO7 HSET HO HG hmW hb2 hg6
                go_wp2_with (first
                  | (with_reducible refine wpList_load_row rfl 130 _ rfl b11 rfl 130 _ (0, 0) _ hblk Tryd.underlying130 rfl (by rw [hks]; kernel_rfl) ?_)
                  | (at_lookup; refine wpList_lookup_is rfl _ _ 128 false rfl 3 key130 Tryd.underlying128 (zero3 _) rfl hm6 key rfl hkok ?_; rw [HG2.out]))
                refine ⟨⟨i + 1, om2, by go_num, by omega, by rw [HMZ.out]; exact hmo2, HO7.out.drop⟩, ?_⟩
                simp [intOf]; omega
        · have hie : i = rows.length := by omega
          subst hie
          have hall : (keysR rows cl).take rows.length = keysR rows cl := List.take_of_length_le (by rw [keysR_len]; exact Nat.le_refl _)
          rw [hall] at hmo
          rw [nxC_all (nextR_len rows cl)] at hO
          have hmW := hmo W4 gm (hO.get 1 rfl).2
          have hml : (mapZ (namesOf (keysR rows cl))).length = (namesR rows cl).length := mapZ_len _
          have hfit := hO.ints 0 rfl (nextR_len rows cl) (by unfold lenMax; omega)
          obtain ⟨c2, hic2, -⟩ : ∃ c2, IntsC W4 (.slice (some ⟨gn, 0, none⟩) rows.length rows.length) (nextR rows cl) c2 ∧ True := by
            obtain ⟨c2, h2⟩ := ints_of_owns (e := 3) (base := W2.heap.size) (xs := nextR rows cl) (by rw [nextR_len]; exact hO.get 0 rfl) (by rw [nextR_len]; unfold lenMax; omega)
            exact ⟨c2, h2, trivial⟩
          have hnok := nextR_ok (cl := cl) (rows := rows) (by omega)
          have hle := many_le HC1.out
          have hMn := namesR_le rows cl
          have hrefS := @RefR.stop rows cl many
          have hrefN := @RefR.step rows cl many
          generalize hMM : (namesR rows cl).length = M at *
          have HML := Lib.hid hml
          have hE9 := hE.trans hO.ext
          by_cases hst : M = many
          · subst hst
            have HF := Lib.hid hfit
            have HP := Lib.hid (hpend.out _ (hrefS rfl))
            have HK := Lib.hid hnok
            have hE9 := Lib.hid hE9
            clear hfit hic2 hnok hle hMn hrefS hrefN hMM hml hpend
            go_wp2_with (refine wpList_len_is rfl _ 128 rfl Tryd.underlying128 rfl hmW ?_; rw [HML.out])
            try rw [Exit.noGoto_ret]
            go_ret2
            exact ⟨_, _, _, rfl, HF.out, HP.out, HK.out, hE9.out⟩
          · have hne : ((M : Int) == (many : Int)) = false := by simp; omega
            have HP : Hid (∀ r, RefR rows (nextR rows cl) M r → RefR rows cl0 0 r) := Lib.hid (fun r h => hpend.out _ (hrefN hst h))
            have HK := Lib.hid hnok
            have HL := Lib.hid (And.intro hle hMn)
            have HI := Lib.hid hic2
            have HS := Lib.hid hst
            have hE9 := Lib.hid hE9
            clear hfit hic2 hnok hle hMn hrefS hrefN hMM hml hpend hst
            go_wp2_with (refine wpList_len_is rfl _ 128 rfl Tryd.underlying128 rfl hmW ?_; rw [HML.out])
            go_roundg (rows.length + 1 - M)
            case rel => exact ⟨nextR rows cl, M, _, rfl, by have := HL.out; omega, HK, HI.out, HP, hE9.out⟩
            case measure => have := HL.out; have := HS.out; omega
end Go.Proofs.YthlnmcokgfpgmaaDoor

namespace Go.Proofs.YthlnmcokgfpgmaaDoor
open Go.RowKit Go.Maps
set_option linter.unusedVariables false
set_option linter.unusedSimpArgs false

/-- The classes before any is refined: what the operation says of each pair. -/
def clsO (g : Bool → Bool → Bool) (a b : Dfa) : List Int := (pairsL a b).map (fun r => if g (a.ac r.p) (b.ac r.q) then 1 else 0)
/-- The first row of a class. -/
def firstQ (cl : List Int) (c : Nat) : Nat := cl.findIdx (fun x => x == (c : Int))
def rowQ (rows : List (List Int)) (cl : List Int) (c : Nat) : List Int := (rows.getD (firstQ cl c) []).map (fun t => cl.getD t.toNat 0)
def accQ (acc cl : List Int) (c : Nat) : Bool := acc.getD (firstQ cl c) 0 == 1
def quoD (sy : Int) (rows : List (List Int)) (acc cl : List Int) (many : Nat) : Dfa := ⟨sy, (List.range many).map (rowQ rows cl), (List.range many).map (accQ acc cl)⟩
def zeroD : Dfa := ⟨0, [], []⟩
/-- What an operation answers. -/
inductive OpR (g : Bool → Bool → Bool) (a b : Dfa) : Dfa × Int → Prop where
  | bad : chkL a b ≠ 0 → OpR g a b (zeroD, chkL a b)
  | big : chkL a b = 0 → 4096 < (pairsL a b).length → OpR g a b (zeroD, 3)
  | many {cl : List Int} {many : Nat} : chkL a b = 0 → (pairsL a b).length ≤ 4096 → RefR (rowsP a b (pairsL a b)) (clsO g a b) 0 (cl, many) → 256 < many → OpR g a b (zeroD, 3)
  | set {cl : List Int} {many : Nat} : chkL a b = 0 → (pairsL a b).length ≤ 4096 → RefR (rowsP a b (pairsL a b)) (clsO g a b) 0 (cl, many) → many ≤ 256 → OpR g a b (quoD a.sy (rowsP a b (pairsL a b)) (clsO g a b) cl many, 0)
theorem OpR.one {g : Bool → Bool → Bool} {a b : Dfa} {r r' : Dfa × Int} (h : OpR g a b r) (h' : OpR g a b r') : r = r' := by
  cases h with
  | bad h0 =>
    cases h' with
    | bad _ => rfl
    | big h1 _ => exact absurd h1 h0
    | many h1 _ _ _ => exact absurd h1 h0
    | set h1 _ _ _ => exact absurd h1 h0
  | big h0 h1 =>
    cases h' with
    | bad h2 => exact absurd h0 h2
    | big _ _ => rfl
    | many _ h2 _ _ => omega
    | set _ h2 _ _ => omega
  | many h0 h1 h2 h3 =>
    cases h' with
    | bad h4 => exact absurd h0 h4
    | big _ h4 => omega
    | many _ _ _ _ => rfl
    | set _ _ h4 h5 =>
      have := h2.one h4
      cases this; omega
  | set h0 h1 h2 h3 =>
    cases h' with
    | bad h4 => exact absurd h0 h4
    | big _ h4 => omega
    | many _ _ h4 h5 =>
      have := h2.one h4
      cases this; omega
    | set _ _ h4 h5 =>
      have := h2.one h4
      cases this; rfl
theorem RefR.final {rows : List (List Int)} {cl : List Int} {many : Nat} {r : List Int × Nat} (h : RefR rows cl many r) : r.1.length = rows.length ∧ (∀ c ∈ r.1, 0 ≤ c ∧ c < r.2) := by
  induction h with
  | @stop cl many h1 =>
    refine ⟨nextR_len _ _, fun c hc => ?_⟩
    unfold nextR at hc
    obtain ⟨k, hk, rfl⟩ := List.mem_map.1 hc
    have := idxN_lt (mem_namesOf.2 hk)
    unfold namesR at h1 ⊢
    show 0 ≤ _ ∧ _ < (many : Int)
    omega
  | step _ _ ih => exact ih
theorem firstQ_lt {cl : List Int} {c i : Nat} (h : cl[i]? = some (c : Int)) : firstQ cl c ≤ i := by
  unfold firstQ
  obtain ⟨hi, he⟩ := List.getElem?_eq_some_iff.1 h
  rcases Nat.lt_or_ge i (cl.findIdx (fun x => x == (c : Int))) with hlt | hge
  · have := List.not_of_lt_findIdx hlt
    simp [he] at this
  · exact hge
/-- At a class seen for the first time. -/
theorem firstQ_at {cl : List Int} {c i : Nat} (h : cl[i]? = some (c : Int)) (hn : (c : Int) ∉ cl.take i) : firstQ cl c = i := by
  have h1 := firstQ_lt h
  rcases Nat.lt_or_ge (firstQ cl c) i with hlt | hge
  · exfalso
    have hi := (List.getElem?_eq_some_iff.1 h).1
    have hlt' : cl.findIdx (fun x => x == (c : Int)) < cl.length := Nat.lt_trans hlt hi
    have h2 := List.findIdx_getElem (w := hlt')
    simp only [beq_iff_eq] at h2
    refine hn ?_
    rw [← h2]
    have : (cl.take i)[firstQ cl c]? = some (cl[cl.findIdx (fun x => x == (c : Int))]) := by rw [List.getElem?_take_of_lt hlt]; exact List.getElem?_eq_getElem hlt'
    exact List.mem_of_getElem? this
  · omega
theorem inP_mono {l L : List Rch} (h : l <+: L) {t : Nat × Nat} (hi : inP l t = true) : inP L t = true := by
  rw [inP_iff] at hi ⊢
  obtain ⟨y, hy, he⟩ := List.mem_map.1 hi
  exact List.mem_map.2 ⟨y, h.subset hy, he⟩
/-- Each step of a pair that is listed leads to one that is listed. -/
theorem pairs_closed {a b : Dfa} (ha : Good a) (hb : Good b) (hk : a.k = b.k) {r : Rch} (hr : r ∈ pairsL a b) {x : Nat} (hx : x < a.k) : inP (pairsL a b) (stepP a b r x) = true := by
  obtain ⟨i, hi⟩ := List.getElem?_of_mem hr
  have hlt := (List.getElem?_eq_some_iff.1 hi).1
  have hbd := (okP_all ha hb hk).bound
  have hgi : i < (goP a b i).length := by
    rcases Nat.lt_or_ge i (goP a b i).length with h | h
    · exact h
    · have := goP_stop h (j := a.n * b.n) (by omega)
      have h2 : pairsL a b = goP a b i := this
      rw [h2] at hlt; omega
  have hw := rowP_whole ha hb hk hgi (show x + 1 ≤ a.k by omega)
  have hp := rowP_prefix (a := a) (b := b) (goP a b i) i x
  have hri : (rowP a b (goP a b i) i x).getD i r0 = r := by
    have h1 := prefix_getD (hp.trans (rowP_whole ha hb hk hgi (show x ≤ a.k by omega))) hgi
    have h2 := prefix_getD hp hgi
    rw [h2, ← h1]
    exact getD_of_get? hi
  refine inP_mono hw ?_
  show inP (addP a b (rowP a b (goP a b i) i x) i x) _ = true
  unfold addP
  rw [hri]
  split
  · rename_i h; exact h
  · rw [inP_iff]; exact List.mem_map.2 ⟨newP a b r i x, by simp, rfl⟩
theorem idxP_lt {L : List Rch} {t : Nat × Nat} (h : inP L t = true) : idxP L t < L.length := by
  unfold inP at h
  unfold idxP
  obtain ⟨y, hy, he⟩ := List.any_eq_true.1 h
  exact List.findIdx_lt_length.2 ⟨y, hy, he⟩
theorem rowsOk_pairs {a b : Dfa} (ha : Good a) (hb : Good b) (hk : a.k = b.k) (h : (pairsL a b).length ≤ 4096) : RowsOk (rowsP a b (pairsL a b)) := by
  have hok := okP_all ha hb hk
  have hl : (rowsP a b (pairsL a b)).length = (pairsL a b).length := by unfold rowsP; simp
  refine ⟨?_, by rw [hl]; exact h, fun r hr => ?_⟩
  · rw [hl]
    have := hok.first
    exact (List.getElem?_eq_some_iff.1 this).1
  · unfold rowsP at hr
    obtain ⟨x, hx, rfl⟩ := List.mem_map.1 hr
    refine ⟨by have := ha.kk; simp [numsP]; omega, fun t ht => ?_⟩
    unfold numsP at ht
    obtain ⟨y, hy, rfl⟩ := List.mem_map.1 ht
    rw [hl]
    have := idxP_lt (pairs_closed ha hb hk hx (List.mem_range.1 hy))
    omega
theorem clsO_ok (g : Bool → Bool → Bool) (a b : Dfa) : ClsOk (rowsP a b (pairsL a b)).length (clsO g a b) 0 := by
  refine ⟨by unfold clsO rowsP; simp, fun c hc => ?_, fun v hv => by omega⟩
  unfold clsO at hc
  obtain ⟨r, _, rfl⟩ := List.mem_map.1 hc
  split <;> omega
end Go.Proofs.YthlnmcokgfpgmaaDoor

namespace Go.Proofs.YthlnmcokgfpgmaaDoor
open Go.RowKit Go.Maps
set_option linter.unusedVariables false
set_option linter.unusedSimpArgs false
theorem mem_take_succ {cl : List Int} {i q : Nat} (hq : cl[i]? = some (q : Int)) (c : Int) : c ∈ cl.take (i + 1) ↔ c ∈ cl.take i ∨ c = q := by
  obtain ⟨hi, he⟩ := List.getElem?_eq_some_iff.1 hq
  rw [List.take_succ_eq_append_getElem hi, List.mem_append, he]; simp
structure QInv (k : Nat) (RP : List (List Int)) (cl : List Int) (many : Nat) (vs : List Value) (D : List Asn) (i : Nat) : Prop where
  len : vs.length = many
  seen : ∀ c, c < many → (c : Int) ∈ cl.take i → (rowQ RP cl c).length = k ∧ ∃ g cs, Asn.blk g (.cells cs 3 (0, 0)) ∈ D ∧ vs[c]? = some (.slice (some ⟨g, 0, none⟩) k k) ∧ cs.toList.take k = (rowQ RP cl c).map (.int .i64)
  new : ∀ c, c < many → (c : Int) ∉ cl.take i → vs[c]? = some (.slice none 0 0)
theorem QInv.start (k : Nat) (RP : List (List Int)) (cl : List Int) (many : Nat) : QInv k RP cl many (List.replicate many (.slice none 0 0)) [] 0 :=
  ⟨by simp, fun c hc h => by simp at h, fun c hc h => by rw [List.getElem?_replicate, if_pos hc]⟩
theorem QInv.old {k : Nat} {RP : List (List Int)} {cl : List Int} {many i q : Nat} {vs : List Value} {D : List Asn} (h : QInv k RP cl many vs D i) (hq : cl[i]? = some (q : Int)) (hm : (q : Int) ∈ cl.take i) : QInv k RP cl many vs D (i + 1) := by
  have hmem : ∀ c : Int, c ∈ cl.take (i + 1) ↔ c ∈ cl.take i := fun c => by
    rw [mem_take_succ hq]
    constructor
    · rintro (h | rfl)
      · exact h
      · exact hm
    · exact .inl
  exact ⟨h.len, fun c hc hs => h.seen c hc ((hmem _).1 hs), fun c hc hs => h.new c hc (fun h' => hs ((hmem _).2 h'))⟩
theorem QInv.add {k : Nat} {RP : List (List Int)} {cl : List Int} {many i q : Nat} {vs : List Value} {D : List Asn} (h : QInv k RP cl many vs D i) (hq : cl[i]? = some (q : Int)) (hm : (q : Int) ∉ cl.take i) (hqm : q < many)
    {g : Nat} {cs : Array Value} (hl : (rowQ RP cl q).length = k) (hc : cs.toList.take k = (rowQ RP cl q).map (.int .i64)) : QInv k RP cl many (vs.set q (.slice (some ⟨g, 0, none⟩) k k)) (.blk g (.cells cs 3 (0, 0)) :: D) (i + 1) := by
  refine ⟨by simp [h.len], fun c hcm hs => ?_, fun c hcm hs => ?_⟩
  · rw [mem_take_succ hq] at hs
    by_cases hcq : c = q
    · subst hcq
      exact ⟨hl, g, cs, by simp, by rw [List.getElem?_set_self (by rw [h.len]; exact hcm)], hc⟩
    · rcases hs with hs | hs
      · obtain ⟨h1, g', cs', h2, h3, h4⟩ := h.seen c hcm hs
        exact ⟨h1, g', cs', by simp [h2], by rw [List.getElem?_set_ne (fun e => hcq e.symm)]; exact h3, h4⟩
      · exact absurd (Int.ofNat.inj hs) hcq
  · rw [mem_take_succ hq] at hs
    have hcq : q ≠ c := fun e => hs (.inr (by rw [e]))
    rw [List.getElem?_set_ne hcq]
    exact h.new c hcm (fun h' => hs (.inl h'))
def accI (C cl : List Int) (many i : Nat) : List Value := (List.range many).map (fun c : Nat => Value.bool (decide ((c : Int) ∈ cl.take i) && accQ C cl c))
theorem accI_zero (C cl : List Int) (many : Nat) : accI C cl many 0 = List.replicate many (.bool false) := by
  unfold accI
  rw [List.eq_replicate_iff]
  refine ⟨by simp, fun b hb => ?_⟩
  obtain ⟨c, _, rfl⟩ := List.mem_map.1 hb
  simp
theorem accI_at {C cl : List Int} {many i q : Nat} (hq : q < many) : (accI C cl many i)[q]? = some (.bool (decide ((q : Int) ∈ cl.take i) && accQ C cl q)) := by
  unfold accI
  rw [List.getElem?_map, List.getElem?_range hq]; rfl
theorem accI_old {C cl : List Int} {many i q : Nat} (hq : cl[i]? = some (q : Int)) (hm : (q : Int) ∈ cl.take i) : accI C cl many (i + 1) = accI C cl many i := by
  unfold accI
  refine List.map_congr_left fun c _ => ?_
  have : ((c : Int) ∈ cl.take (i + 1)) ↔ (c : Int) ∈ cl.take i := by
    rw [mem_take_succ hq]
    constructor
    · rintro (h | h)
      · exact h
      · rw [h]; exact hm
    · exact .inl
  simp only [this]
theorem accI_new {C cl : List Int} {many i q : Nat} (hq : cl[i]? = some (q : Int)) (hqm : q < many) : (accI C cl many i).set q (.bool (accQ C cl q)) = accI C cl many (i + 1) := by
  apply List.ext_getElem?
  intro c
  by_cases hcm : c < many
  · rw [accI_at hcm]
    by_cases hcq : c = q
    · subst hcq
      rw [List.getElem?_set_self (by simp [accI]; exact hcm)]
      have : (c : Int) ∈ cl.take (i + 1) := (mem_take_succ hq _).2 (.inr rfl)
      simp [this]
    · rw [List.getElem?_set_ne (fun e => hcq e.symm), accI_at hcm]
      have : ((c : Int) ∈ cl.take (i + 1)) ↔ (c : Int) ∈ cl.take i := by
        rw [mem_take_succ hq]
        constructor
        · rintro (h | h)
          · exact h
          · exact absurd (Int.ofNat.inj h) hcq
        · exact .inl
      simp only [this]
  · rw [List.getElem?_eq_none (by simp [accI]; omega), List.getElem?_eq_none (by simp [accI]; omega)]
theorem accI_all {C cl : List Int} {many : Nat} (h : ∀ c, c < many → (c : Int) ∈ cl) : accI C cl many cl.length = ((List.range many).map (accQ C cl)).map .bool := by
  unfold accI
  rw [List.map_map, List.take_length]
  refine List.map_congr_left fun c hc => ?_
  have := h c (List.mem_range.1 hc)
  simp [this]
theorem accQ_at {C cl : List Int} {i q : Nat} {z : Int} (hq : cl[i]? = some (q : Int)) (hm : (q : Int) ∉ cl.take i) (hz : C[i]? = some z) : accQ C cl q = (z == 1) := by
  unfold accQ
  rw [firstQ_at hq hm]
  simp [List.getD, hz]
theorem rowQ_at {RP : List (List Int)} {cl : List Int} {i q : Nat} (hq : cl[i]? = some (q : Int)) (hm : (q : Int) ∉ cl.take i) (hi : i < RP.length) : rowQ RP cl q = RP[i].map (fun t => cl.getD t.toNat 0) := by
  unfold rowQ
  rw [firstQ_at hq hm]
  simp [List.getD, hi]
/-- A row that is done: its block stays. -/
theorem OwnL.done {w W : World} {L : List Asn} {e s g n c : Nat} {xs : List Value} (h : OwnL w W (.row e s (.slice (some ⟨g, 0, none⟩) n c) n xs :: L)) : ∃ cs, cs.toList.take (n * s) = xs ∧ OwnL w W (.blk g (.cells cs e (0, 0)) :: L) := by
  have h1 : W.ownsRow w.heap.size e s (.slice (some ⟨g, 0, none⟩) n c) n xs := h.get 0 rfl
  rcases h1.2 with ⟨hv, _⟩ | ⟨g', cap, cur, hv, hb, hg, h2, h3, h4, h5⟩
  · cases hv
  · cases hv
    refine ⟨cur, h5, h.ext, fun A hA => ?_, ?_⟩
    · rcases List.mem_cons.1 hA with rfl | hA
      · exact ⟨hb, hg⟩
      · exact h.ok A (by simp [hA])
    · have hp := List.pairwise_cons.1 h.apart
      exact List.pairwise_cons.2 ⟨fun B hB b hb' => by cases hb'; exact hp.1 B hB g rfl, hp.2⟩
theorem cells_take {W : World} {g t k : Nat} {cs : Array Value} {xs : List Value} (h : W.heap[g]? = some (.cells cs t (0, 0))) (hx : cs.toList.take k = xs) : Cells W (some ⟨g, 0, none⟩) xs := fun hn => by
  obtain ⟨b, o, hA, hlt, hc⟩ := cells_blk h (by rw [← hx] at hn; simp at hn ⊢; omega)
  refine ⟨b, o, hA, hlt, fun j u hj => hc j u ?_⟩
  rw [← hx] at hj
  rw [List.getElem?_take] at hj
  split at hj
  · exact hj
  · cases hj
theorem quo_rows {k : Nat} {RP : List (List Int)} {cl : List Int} {many : Nat} {vs : List Value} {D : List Asn} {N : Nat} {W : World} {L : List Asn} (h : QInv k RP cl many vs D cl.length) (hall : ∀ c, c < many → (c : Int) ∈ cl) (hk : k ≤ 100) (hm : many ≤ 1000)
    {g : Nat} (hO : ∀ A ∈ L, A.ok N W) (hD : ∀ A ∈ D, A ∈ L) (hr : Asn.row 31 1 (.slice (some ⟨g, 0, none⟩) many many) many vs ∈ L) : ListsC W (.slice (some ⟨g, 0, none⟩) many many) ((List.range many).map (rowQ RP cl)) many := by
  have h1 : W.ownsRow N 31 1 (.slice (some ⟨g, 0, none⟩) many many) many vs := hO _ hr
  obtain ⟨A, c, hv, hle, hcs⟩ := cells_of_owns h1
  cases hv
  refine ⟨_, vs, by simp, hcs, by simp [h.len], fun i u es hu hes => ?_, by simp, by simp; unfold lenMax; omega⟩
  have hil : i < many := by rw [← h.len]; exact (List.getElem?_eq_some_iff.1 hu).1
  rw [List.getElem?_map, List.getElem?_range hil] at hes
  cases hes
  obtain ⟨hlen, g', cs, hD', hv', hcs'⟩ := h.seen i hil (by rw [List.take_length]; exact hall i hil)
  rw [hu] at hv'
  cases hv'
  have hb := (hO _ (hD _ hD')).2
  exact ⟨k, _, by rw [hlen], cells_take hb hcs', by omega, by unfold lenMax; omega⟩
theorem OwnL.base {w w6 W : World} {L : List Asn} {b : Nat} {o : Obj} (h : OwnL w6 W L) (e : Ext w w6) (hb : w.heap.size ≤ b) (ho : w6.heap[b]? = some o) : OwnL w W (.blk b o :: L) :=
  ⟨e.trans h.ext, fun A hA => by
    rcases List.mem_cons.1 hA with rfl | hA
    · exact ⟨hb, heap_ext h.ext ho⟩
    · exact Asn.mono (h.ok A hA) e.size, List.pairwise_cons.2 ⟨fun B hB c hc hc' => by
    cases hc
    have := (Asn.lt (h.ok B hB) hc').1
    have := lt_of_block ho
    omega, h.apart⟩⟩
theorem own_cap {W : World} {B e s n c g : Nat} {xs : List Value} (h : W.ownsRow B e s (.slice (some ⟨g, 0, none⟩) n c) n xs) : n ≤ c ∧ c ≤ maxLen := by
  rcases h.2 with ⟨hv, _⟩ | ⟨g', cap, cur, hv, hb, hg, h2, h3, h4, h5⟩
  · cases hv
  · cases hv; exact ⟨h2, h3⟩
theorem quo_dfa {sy : Int} {k : Nat} {RP : List (List Int)} {C cl : List Int} {many : Nat} {vs : List Value} {D : List Asn} {N : Nat} {W : World} {L : List Asn} (h : QInv k RP cl many vs D cl.length) (hall : ∀ c, c < many → (c : Int) ∈ cl) (hk : k ≤ 100) (hm : many ≤ 1000)
    {g g' : Nat} (hO : ∀ A ∈ L, A.ok N W) (hD : ∀ A ∈ D, A ∈ L) (hr : Asn.row 31 1 (.slice (some ⟨g, 0, none⟩) many many) many vs ∈ L) (ha : Asn.row 4 1 (.slice (some ⟨g', 0, none⟩) many many) many (accI C cl many cl.length) ∈ L) :
    DfaF W (.agg #[.int .i64 sy, .slice (some ⟨g, 0, none⟩) many many, .slice (some ⟨g', 0, none⟩) many many]) (quoD sy RP C cl many) := by
  refine ⟨_, _, rfl, ?_, ?_⟩
  · have := quo_rows h hall hk hm hO hD hr
    have hl : (quoD sy RP C cl many).rows.length = many := by simp [quoD]
    rw [hl]; exact this
  · have h1 : W.ownsRow N 4 1 (.slice (some ⟨g', 0, none⟩) many many) many (accI C cl many cl.length) := hO _ ha
    rw [accI_all hall] at h1
    obtain ⟨A, c, hv, hle, hcs⟩ := cells_of_owns h1
    cases hv
    have hl : (quoD sy RP C cl many).acc.length = many := by simp [quoD]
    rw [hl]
    exact ⟨_, by rw [hl], hcs, by rw [hl]; exact Nat.le_refl _, by rw [hl]; unfold lenMax; omega⟩
/-- A set that lies in blocks from N on. -/
def FarF (N : Nat) (w : World) (v : Value) (d : Dfa) : Prop := ∀ w', (∀ b, N ≤ b → b < w.heap.size → w'.heap[b]? = w.heap[b]?) → DfaF w' v d
theorem FarF.dfa {N : Nat} {w : World} {v : Value} {d : Dfa} (h : FarF N w v d) : DfaF w v d := h w (fun _ _ _ => rfl)
theorem FarF.mono {N N' : Nat} {w : World} {v : Value} {d : Dfa} (h : FarF N w v d) (hn : N' ≤ N) : FarF N' w v d := fun w' hw => h w' (fun b hb hl => hw b (by omega) hl)
theorem FarF.of {N : Nat} {w w1 : World} {v : Value} {d : Dfa} (h : FarF N w v d) (hw : ∀ b, N ≤ b → b < w.heap.size → w1.heap[b]? = w.heap[b]?) : FarF N w1 v d := fun w' hw' => h w' (fun b hb hl => by
  have h1 := hw b hb hl
  have h2 : b < w1.heap.size := by
    rw [Array.getElem?_eq_getElem hl] at h1
    exact (Array.getElem?_eq_some_iff.1 h1).1
  exact (hw' b hb h2).trans h1)
theorem quo_far {sy : Int} {k : Nat} {RP : List (List Int)} {C cl : List Int} {many : Nat} {vs : List Value} {D : List Asn} {w W : World} {L : List Asn} (h : QInv k RP cl many vs D cl.length) (hall : ∀ c, c < many → (c : Int) ∈ cl) (hk : k ≤ 100) (hm : many ≤ 1000)
    {g g' : Nat} (hO : OwnL w W L) (hD : ∀ A ∈ D, A ∈ L) (hr : Asn.row 31 1 (.slice (some ⟨g, 0, none⟩) many many) many vs ∈ L) (ha : Asn.row 4 1 (.slice (some ⟨g', 0, none⟩) many many) many (accI C cl many cl.length) ∈ L) :
    FarF w.heap.size W (.agg #[.int .i64 sy, .slice (some ⟨g, 0, none⟩) many many, .slice (some ⟨g', 0, none⟩) many many]) (quoD sy RP C cl many) := fun w' hw =>
  quo_dfa (N := w.heap.size) h hall hk hm (fun A hA => Asn.of (hO.ok A hA) (fun b hb => hw b (Asn.lt (hO.ok A hA) hb).1 (Asn.lt (hO.ok A hA) hb).2)) hD hr ha
end Go.Proofs.YthlnmcokgfpgmaaDoor
