/- extends.place 39. (under way) What an arc does, what a step does. What a checked machine keeps to; Step. slices.Clone 58 and Clip 57 at []int; extends.config 40. extends.take 49. -/
import Derived.Test.YtggffdkgfgdaoaaDoorGD
import Derived.Laws.CopyOwn
import Derived.Test.YtggffdkgfgdaoaaDoorGA
import Derived.Test.YtggffdkgfgdaoaaDoorGC
namespace Go.Proofs.YtggffdkgfgdaoaaDoor
open Go.RowKit
set_option linter.unusedVariables false
set_option linter.unusedSimpArgs false
attribute [local go_sem] Oper.quietV quietV Oper.gives givesV ext_refl_iff ext_alloc_iff ext_drew_iff ext_drewN_iff
theorem setCell_id {w : World} {b i : Nat} {cs : Array Value} {t : TypeId} {fr : Nat × Nat} {v : Value} (h : w.heap[b]? = some (.cells cs t fr)) (hv : cs[i]? = some v) : w.setCell ⟨b, i, none⟩ v = w := by
  have h2 : cs.setIfInBounds i v = cs := by
    apply Array.ext_getElem?
    intro k
    rw [Array.getElem?_setIfInBounds]
    split
    · rename_i h0; subst h0
      split
      · exact hv.symm
      · rename_i h1; rw [Array.getElem?_eq_none (by omega)]
    · rfl
  have h3 : w.heap.modify b (fun | .cells c e f => .cells (if (none : Option Addr).isSome then c else c.setIfInBounds i v) e f | o => o) = w.heap := by
    apply Array.ext_getElem?
    intro k
    rw [Array.getElem?_modify]
    split
    · rename_i h0; subst h0; rw [h]; simp [h2]
    · rfl
  show { w with heap := _ } = w
  cases w
  simp only [World.mk.injEq, and_true, true_and]
  exact h3
/-- A spot: a state, and sixteen values. -/
def spotL (s : Int) (xs : List Int) : List Value := .int .i64 s :: ((xs ++ List.replicate (16 - xs.length) 0).map (.int .i64))
theorem spot_len {s : Int} {xs : List Int} (h : xs.length ≤ 16) : (spotL s xs).length = 17 := by simp [spotL]; omega
theorem spot_row {s : Int} {xs : List Int} (h : xs.length ≤ 16) : (spotL s []).take 1 ++ xs.map (.int .i64) ++ (spotL s []).drop (1 + (xs.map (Value.int .i64)).length) = spotL s xs := by
  have h2 : (spotL s []).drop (1 + (xs.map (Value.int .i64)).length) = List.replicate (16 - xs.length) (.int .i64 0) := by
    unfold spotL
    rw [Nat.add_comm, List.drop_succ_cons, List.nil_append, List.map_replicate, List.drop_replicate, List.length_map]
    rfl
  rw [h2]
  unfold spotL
  rw [List.take_succ_cons, List.take_zero, List.map_append, List.map_replicate]
  simp
def SpotP (w : World) (s : Int) (xs : List Int) (e : Ending) (w' : World) : Prop := e = .returned (.agg (spotL s xs).toArray) ∧ Ext w w'
set_option maxRecDepth 100000 in
set_option maxHeartbeats 16000000 in
theorem place_any (w : World) (s : Int) (sv : Value) (xs : List Int) (c : Nat) (hx : IntsC w sv xs c) (hl : xs.length ≤ 16) : Calls Tryd.prog 39 #[.agg #[.int .i64 s, sv]] w (SpotP w s xs) := by
  obtain ⟨Ax, rfl, hxc, hxl, hxm⟩ := hx
  unfold lenMax at hxm
  have HX := Lib.hid hxc
  clear hxc
  go_enter Tryd.func39, Tryd.ntmps39
  go_upto_region 2 with fail
  refine wp_named ?_
  intro W2 hW2
  have hB2 : W2.heap[w.heap.size + 1]? = some (.cells (spotL s []).toArray 93 (0, 0)) := by
    rw [hW2]; have := heap_alloc_new (w.alloc (.cells #[.int .i64 s, .slice Ax xs.length c] 34)) (.cells (spotL s []).toArray 93); simpa [spotL] using this
  have hE2 : Ext w W2 := by rw [hW2]; exact (alloc_ext w _).trans (alloc_ext _ _)
  have k1 : ∀ w', Ext W2 w' → w'.cell? ⟨w.heap.size, 1, none⟩ = some (.slice Ax xs.length c) := fun w' h => h.cell (by rw [hW2]; simp [go_sem])
  have hR2 := Ext.refl W2
  have HB2 := Lib.hid (And.intro hB2 (And.intro hE2 (Nat.le_succ w.heap.size)))
  have HBP : Hid (∀ w', w'.heap[w.heap.size + 1]? = some (.cells (spotL s xs).toArray 93 (0, 0)) → Below (w.heap.size + 1) W2 w' → Ext w w') := Lib.hid (fun w' _ hb => ⟨hb.os.trans hE2.os, hb.tape.trans hE2.tape, hb.output.trans hE2.output, Nat.le_trans hE2.size hb.size, fun k hk => (hb.block k (by omega)).trans (hE2.block k hk)⟩)
  clear hW2 hB2 hE2
  generalize w.heap.size + 1 = d2 at *
  generalize w.heap.size = d1 at *
  refine wp_region_ext 4 (factsOf []) (fun k => ([[], [0], [], [2], [0, 1, 2, 3]] : List (List Nat)).getD k []) (by kernel_rfl) (by kernel_rfl) Ext.pre (mono_nil) ?_
  simp only [List.take_succ_cons, List.take_zero]
  repeat (first | (with_reducible refine lexL_quiet' (v := ?_) ?_ ?_ ?_ ?_; rotate_left; (· with_reducible rfl); (· simp [factsOf]); (· intro w1 hw1 _; go_simp; with_reducible rfl); (try simp only [Act.put, List.setIfInBounds_toArray, List.set_cons_zero, List.set_cons_succ])) | (with_reducible refine lexL_skip ?_ ?_; (· simp [Region.wanted, yielded, undef]); (try simp only [Act.put, List.setIfInBounds_toArray, List.set_cons_zero, List.set_cons_succ])) | (with_reducible refine lexL_quiet (v := ?_) ?_ ?_ ?_ ?_; rotate_left; (· simp [Region.wanted, yielded, undef]); (· simp [factsOf]); (· intro w1 hw1 _; go_simp; with_reducible rfl); (try simp only [Act.put, List.setIfInBounds_toArray, List.set_cons_zero, List.set_cons_succ])))
  with_reducible refine lexL_nil ?_; intro w1 hw1 hk1; simp only [List.drop_succ_cons, List.drop_zero]
  have hlt := lt_of_block HB2.out.1
  have hb1 : Below d2 W2 w1 := ⟨hw1.os, hw1.tape, hw1.output, hw1.size, fun k hk => hw1.block k (by omega)⟩
  refine wpList_copy_splice rfl (.tmp 7) (.tmp 9) 28 28 rfl 3 Tryd.underlying28 (by kernel_rfl) (some ⟨d2, 1, none⟩) Ax 16 16 xs.length c rfl rfl d2 1 (spotL s []) 93 (heap_ext hw1 HB2.out.1) (xs.map (.int .i64)) (by rw [List.length_map]; exact (Nat.min_eq_left hl).symm) ?_ (by rw [spot_len (by simp), List.length_map]; omega) (by intro v hv; obtain ⟨z, _, rfl⟩ := List.mem_map.1 hv; rfl) d2 W2 hb1 (Nat.le_refl _) ?_
  · intro hp
    obtain ⟨bx, ox, rfl, _, hcc⟩ := (HX.out.ext (HB2.out.2.1.trans hw1)) (by simpa using hp)
    exact ⟨rfl, ⟨bx, ox, none⟩, rfl, fun j v hj => by
      have := hcc j v hj
      unfold Addr.add
      split
      · rename_i h0; subst h0; simpa using this
      · exact this⟩
  · intro w3 h3 hb3
    have h4 : w3.heap[d2]? = some (.cells (spotL s xs).toArray 93 (0, 0)) := by
      have := h3.out
      unfold splice at this
      rwa [← List.append_assoc, spot_row hl] at this
    have HE3 := Lib.hid (HBP.out w3 h4 hb3)
    have H4 := Lib.hid h4
    clear h3 h4 hb3 hb1 hk1 hw1 k1 hR2 HBP HB2
    obtain ⟨L, hL⟩ : ∃ L, L = spotL s xs := ⟨_, rfl⟩
    have hLl : L.length = 17 := by rw [hL]; exact spot_len hl
    rw [← hL] at H4
    have HL := Lib.hid hL
    clear hL
    match L, hLl with
    | [v0, v1, v2, v3, v4, v5, v6, v7, v8, v9, v10, v11, v12, v13, v14, v15, v16], _ =>
      have h4 := H4.out
      have h5 : ∀ k, k < 17 → ∃ z, [v0, v1, v2, v3, v4, v5, v6, v7, v8, v9, v10, v11, v12, v13, v14, v15, v16][k]? = some (Value.int .i64 z) := by
        intro k hk
        rw [HL.out]
        have h6 : k < (spotL s xs).length := by rw [spot_len hl]; exact hk
        obtain ⟨v, hv⟩ : ∃ v, (spotL s xs)[k]? = some v := ⟨_, List.getElem?_eq_getElem h6⟩
        have hm := List.mem_of_getElem? hv
        rw [hv]
        unfold spotL at hm
        rcases List.mem_cons.1 hm with h7 | h7
        · exact ⟨_, by rw [h7]⟩
        · obtain ⟨z, _, rfl⟩ := List.mem_map.1 h7; exact ⟨z, rfl⟩
      obtain ⟨z0, hz0⟩ := h5 0 (by decide)
      simp only [List.getElem?_cons_succ, List.getElem?_cons_zero, Option.some.injEq] at hz0
      subst hz0
      obtain ⟨z1, hz1⟩ := h5 1 (by decide)
      simp only [List.getElem?_cons_succ, List.getElem?_cons_zero, Option.some.injEq] at hz1
      subst hz1
      obtain ⟨z2, hz2⟩ := h5 2 (by decide)
      simp only [List.getElem?_cons_succ, List.getElem?_cons_zero, Option.some.injEq] at hz2
      subst hz2
      obtain ⟨z3, hz3⟩ := h5 3 (by decide)
      simp only [List.getElem?_cons_succ, List.getElem?_cons_zero, Option.some.injEq] at hz3
      subst hz3
      obtain ⟨z4, hz4⟩ := h5 4 (by decide)
      simp only [List.getElem?_cons_succ, List.getElem?_cons_zero, Option.some.injEq] at hz4
      subst hz4
      obtain ⟨z5, hz5⟩ := h5 5 (by decide)
      simp only [List.getElem?_cons_succ, List.getElem?_cons_zero, Option.some.injEq] at hz5
      subst hz5
      obtain ⟨z6, hz6⟩ := h5 6 (by decide)
      simp only [List.getElem?_cons_succ, List.getElem?_cons_zero, Option.some.injEq] at hz6
      subst hz6
      obtain ⟨z7, hz7⟩ := h5 7 (by decide)
      simp only [List.getElem?_cons_succ, List.getElem?_cons_zero, Option.some.injEq] at hz7
      subst hz7
      obtain ⟨z8, hz8⟩ := h5 8 (by decide)
      simp only [List.getElem?_cons_succ, List.getElem?_cons_zero, Option.some.injEq] at hz8
      subst hz8
      obtain ⟨z9, hz9⟩ := h5 9 (by decide)
      simp only [List.getElem?_cons_succ, List.getElem?_cons_zero, Option.some.injEq] at hz9
      subst hz9
      obtain ⟨z10, hz10⟩ := h5 10 (by decide)
      simp only [List.getElem?_cons_succ, List.getElem?_cons_zero, Option.some.injEq] at hz10
      subst hz10
      obtain ⟨z11, hz11⟩ := h5 11 (by decide)
      simp only [List.getElem?_cons_succ, List.getElem?_cons_zero, Option.some.injEq] at hz11
      subst hz11
      obtain ⟨z12, hz12⟩ := h5 12 (by decide)
      simp only [List.getElem?_cons_succ, List.getElem?_cons_zero, Option.some.injEq] at hz12
      subst hz12
      obtain ⟨z13, hz13⟩ := h5 13 (by decide)
      simp only [List.getElem?_cons_succ, List.getElem?_cons_zero, Option.some.injEq] at hz13
      subst hz13
      obtain ⟨z14, hz14⟩ := h5 14 (by decide)
      simp only [List.getElem?_cons_succ, List.getElem?_cons_zero, Option.some.injEq] at hz14
      subst hz14
      obtain ⟨z15, hz15⟩ := h5 15 (by decide)
      simp only [List.getElem?_cons_succ, List.getElem?_cons_zero, Option.some.injEq] at hz15
      subst hz15
      obtain ⟨z16, hz16⟩ := h5 16 (by decide)
      simp only [List.getElem?_cons_succ, List.getElem?_cons_zero, Option.some.injEq] at hz16
      subst hz16
      clear h5
      have c0 := cell_of_blk h4 0 (u := .int .i64 z0) rfl
      have c1 := cell_of_blk h4 1 (u := .int .i64 z1) rfl
      have c2 := cell_of_blk h4 2 (u := .int .i64 z2) rfl
      have c3 := cell_of_blk h4 3 (u := .int .i64 z3) rfl
      have c4 := cell_of_blk h4 4 (u := .int .i64 z4) rfl
      have c5 := cell_of_blk h4 5 (u := .int .i64 z5) rfl
      have c6 := cell_of_blk h4 6 (u := .int .i64 z6) rfl
      have c7 := cell_of_blk h4 7 (u := .int .i64 z7) rfl
      have c8 := cell_of_blk h4 8 (u := .int .i64 z8) rfl
      have c9 := cell_of_blk h4 9 (u := .int .i64 z9) rfl
      have c10 := cell_of_blk h4 10 (u := .int .i64 z10) rfl
      have c11 := cell_of_blk h4 11 (u := .int .i64 z11) rfl
      have c12 := cell_of_blk h4 12 (u := .int .i64 z12) rfl
      have c13 := cell_of_blk h4 13 (u := .int .i64 z13) rfl
      have c14 := cell_of_blk h4 14 (u := .int .i64 z14) rfl
      have c15 := cell_of_blk h4 15 (u := .int .i64 z15) rfl
      have c16 := cell_of_blk h4 16 (u := .int .i64 z16) rfl
      have f0 := free_of_blk h4 0
      have f1 := free_of_blk h4 1
      have f2 := free_of_blk h4 2
      have f3 := free_of_blk h4 3
      have f4 := free_of_blk h4 4
      have f5 := free_of_blk h4 5
      have f6 := free_of_blk h4 6
      have f7 := free_of_blk h4 7
      have f8 := free_of_blk h4 8
      have f9 := free_of_blk h4 9
      have f10 := free_of_blk h4 10
      have f11 := free_of_blk h4 11
      have f12 := free_of_blk h4 12
      have f13 := free_of_blk h4 13
      have f14 := free_of_blk h4 14
      have f15 := free_of_blk h4 15
      have f16 := free_of_blk h4 16
      go_wp2
      rw [setCell_id h4 (i := 0) (v := .int .i64 z0) rfl, setCell_id h4 (i := 1) (v := .int .i64 z1) rfl, setCell_id h4 (i := 2) (v := .int .i64 z2) rfl, setCell_id h4 (i := 3) (v := .int .i64 z3) rfl, setCell_id h4 (i := 4) (v := .int .i64 z4) rfl, setCell_id h4 (i := 5) (v := .int .i64 z5) rfl, setCell_id h4 (i := 6) (v := .int .i64 z6) rfl, setCell_id h4 (i := 7) (v := .int .i64 z7) rfl, setCell_id h4 (i := 8) (v := .int .i64 z8) rfl, setCell_id h4 (i := 9) (v := .int .i64 z9) rfl, setCell_id h4 (i := 10) (v := .int .i64 z10) rfl, setCell_id h4 (i := 11) (v := .int .i64 z11) rfl, setCell_id h4 (i := 12) (v := .int .i64 z12) rfl, setCell_id h4 (i := 13) (v := .int .i64 z13) rfl, setCell_id h4 (i := 14) (v := .int .i64 z14) rfl, setCell_id h4 (i := 15) (v := .int .i64 z15) rfl, setCell_id h4 (i := 16) (v := .int .i64 z16) rfl]
      refine bodyPost_ret (results_cell_row rfl _ _ d2 93 _ (0, 0) _ (by simp [Act.put]) h4 Tryd.underlying93 rfl (by kernel_rfl)) rfl ?_
      exact ⟨by rw [← HL.out], HE3.out⟩
end Go.Proofs.YtggffdkgfgdaoaaDoor

namespace Go.Proofs.YtggffdkgfgdaoaaDoor
set_option linter.unusedVariables false
set_option linter.unusedSimpArgs false
/-- One new value; none where it is undefined or does not fit. -/
def putU (l : List Vt) (old : List Int) (u : Up) (cur : List Int) : Option (List Int) := match l[u.var.toNat]? with
  | none => none
  | some v => if (fullR l u.ex old).2.1 = false ∨ (fullR l u.ex old).1 < v.2.1 ∨ v.2.2 < (fullR l u.ex old).1 then none else some (cur.set u.var.toNat (fullR l u.ex old).1)
def putsU (l : List Vt) (old : List Int) : List Up → List Int → Option (List Int)
  | [], cur => some cur
  | u :: us, cur => match putU l old u cur with
    | none => none
    | some c => putsU l old us c
/-- Where an arc leads. -/
def takeR (x : Xt) (a : Ac) (s : Int) (ys : List Int) : Option (Int × List Int) :=
  if a.frm ≠ s ∨ (fullR x.vars a.guard ys).2.1 = false ∨ (fullR x.vars a.guard ys).1 ≠ 1 then none
  else match putsU x.vars ys a.ups ys with
    | none => none
    | some c => some (a.dst, c)
def takeV (x : Xt) (a : Ac) (s : Int) (ys : List Int) : Int × List Int × Bool := match takeR x a s ys with
  | some r => (r.1, r.2, true)
  | none => (s, ys, false)
theorem putsU_drop {l : List Vt} {old : List Int} {us : List Up} {i : Nat} {u : Up} (h : us[i]? = some u) (cur : List Int) : putsU l old (us.drop i) cur = match putU l old u cur with | none => none | some c => putsU l old (us.drop (i + 1)) c := by
  have hlt := (List.getElem?_eq_some_iff.1 h).1
  rw [List.drop_eq_getElem_cons hlt]
  have : us[i] = u := by have := List.getElem?_eq_getElem hlt; rw [h] at this; injection this with this; exact this.symm
  rw [this]; rfl
theorem putU_len {l : List Vt} {old : List Int} {u : Up} {cur c : List Int} (h : putU l old u cur = some c) : c.length = cur.length := by
  unfold putU at h
  split at h
  · cases h
  · split at h
    · cases h
    · injection h with h; subst h; simp
theorem putsU_len {l : List Vt} {old : List Int} : ∀ {us : List Up} {cur c : List Int}, putsU l old us cur = some c → c.length = cur.length
  | [], cur, c, h => by injection h with h; subst h; rfl
  | u :: us, cur, c, h => by
    unfold putsU at h
    split at h
    · cases h
    · rename_i c1 h1
      rw [putsU_len h, putU_len h1]
theorem takeR_len {x : Xt} {a : Ac} {s : Int} {ys : List Int} {r : Int × List Int} (h : takeR x a s ys = some r) : r.2.length = ys.length := by
  unfold takeR at h
  split at h
  · cases h
  · split at h
    · cases h
    · rename_i c hc
      injection h with h; subst h
      exact putsU_len hc
theorem takeV_len (x : Xt) (a : Ac) (s : Int) (ys : List Int) : (takeV x a s ys).2.1.length = ys.length := by
  unfold takeV
  split
  · rename_i r h; exact takeR_len h
  · rfl
/-- The first arc of a list that can be taken. -/
def stepL (x : Xt) (s : Int) (ys : List Int) (inp : Int) : List Ac → Option (Int × List Int × Int)
  | [] => none
  | a :: l => if a.inp = inp then (match takeR x a s ys with | some r => some (r.1, r.2, a.out) | none => stepL x s ys inp l) else stepL x s ys inp l
def stepR (x : Xt) (s : Int) (ys : List Int) (inp : Int) : Option (Int × List Int × Int) := stepL x s ys inp x.arcs
def stepV (x : Xt) (s : Int) (ys : List Int) (inp : Int) : Int × List Int × Int × Bool := match stepR x s ys inp with
  | some r => (r.1, r.2.1, r.2.2, true)
  | none => (s, ys, -1, false)
theorem stepL_drop {x : Xt} {s : Int} {ys : List Int} {inp : Int} {al : List Ac} {i : Nat} {a : Ac} (h : al[i]? = some a) : stepL x s ys inp (al.drop i) = if a.inp = inp then (match takeR x a s ys with | some r => some (r.1, r.2, a.out) | none => stepL x s ys inp (al.drop (i + 1))) else stepL x s ys inp (al.drop (i + 1)) := by
  have hlt := (List.getElem?_eq_some_iff.1 h).1
  rw [List.drop_eq_getElem_cons hlt]
  have : al[i] = a := by have := List.getElem?_eq_getElem hlt; rw [h] at this; injection this with this; exact this.symm
  rw [this]; rfl
theorem stepL_len {x : Xt} {s : Int} {ys : List Int} {inp : Int} : ∀ {al : List Ac} {r : Int × List Int × Int}, stepL x s ys inp al = some r → r.2.1.length = ys.length
  | [], r, h => by cases h
  | a :: l, r, h => by
    unfold stepL at h
    split at h
    · split at h
      · rename_i q hq
        injection h with h; subst h
        exact takeR_len (r := q) hq
      · exact stepL_len h
    · exact stepL_len h
theorem stepV_len (x : Xt) (s : Int) (ys : List Int) (inp : Int) : (stepV x s ys inp).2.1.length = ys.length := by
  unfold stepV
  split
  · rename_i r h; exact stepL_len (r := r) h
  · rfl
end Go.Proofs.YtggffdkgfgdaoaaDoor

namespace Go.Proofs.YtggffdkgfgdaoaaDoor
set_option linter.unusedVariables false
set_option linter.unusedSimpArgs false
theorem firstE_nil {f : Nat → Int} : ∀ {n : Nat}, firstE f n = 0 → ∀ k < n, f k = 0
  | 0, _, k, hk => by omega
  | n + 1, h, k, hk => by
    unfold firstE at h
    by_cases h1 : firstE f n = 0
    · rw [if_neg (by simpa using h1)] at h
      by_cases h2 : k = n
      · subst h2; exact h
      · exact firstE_nil h1 k (by omega)
    · rw [if_pos h1] at h; exact absurd h h1
theorem numB_of {n m : Int} (h : numB n m = true) : 0 ≤ n ∧ n < m := by unfold numB at h; exact of_decide_eq_true h
theorem arcR_ok {x : Xt} {a : Ac} (h : arcR x a = 0) : (0 ≤ a.frm ∧ a.frm < x.states) ∧ (0 ≤ a.inp ∧ a.inp < x.ins) ∧ (0 ≤ a.out ∧ a.out < x.outs) ∧ (0 ≤ a.dst ∧ a.dst < x.states) ∧ kindR x.vars a.guard true = 0 ∧ a.ups.length ≤ 16 ∧
    ∀ (i : Nat) (u : Up), a.ups[i]? = some u → (0 ≤ u.var ∧ u.var < x.vars.length) ∧ (∀ p : Up, 0 < i → a.ups[i - 1]? = some p → p.var < u.var) ∧ kindR x.vars u.ex false = 0 := by
  unfold arcR at h
  split at h
  · cases h
  · rename_i h1
    split at h
    · rename_i h2; exact absurd h h2
    · rename_i h2
      split at h
      · cases h
      · rename_i h3
        simp only [Bool.not_eq_false, Bool.and_eq_true] at h1
        refine ⟨numB_of h1.1, numB_of h1.2.1, numB_of h1.2.2.1, numB_of h1.2.2.2, Decidable.not_not.1 h2, by omega, fun i u hi => ?_⟩
        have h4 := firstE_nil h i (List.getElem?_eq_some_iff.1 hi).1
        unfold upErr at h4
        rw [hi] at h4
        dsimp only at h4
        split at h4
        · cases h4
        · rename_i h5
          refine ⟨numB_of (by cases hq : numB u.var x.vars.length with | true => rfl | false => exact absurd (.inl hq) h5), fun p h0 hp => ?_, h4⟩
          by_cases h6 : p.var < u.var
          · exact h6
          · exact absurd (.inr ⟨h0, p, hp, by omega⟩) h5
theorem xtR_ok {x : Xt} (h : xtR x = 0) : x.ins ≤ 16 ∧ x.outs ≤ 16 ∧ x.states ≤ 64 ∧ x.arcs.length ≤ 256 ∧ valsR x.vars x.start = 0 ∧ 1 ≤ x.ins ∧ 1 ≤ x.outs ∧ 1 ≤ x.states ∧ ∀ a ∈ x.arcs, arcR x a = 0 := by
  unfold xtR at h
  split at h
  · cases h
  · rename_i h1
    split at h
    · rename_i h2; exact absurd h h2
    · rename_i h2
      split at h
      · cases h
      · rename_i h3
        refine ⟨by omega, by omega, by omega, by omega, Decidable.not_not.1 h2, by omega, by omega, by omega, fun a ha => ?_⟩
        obtain ⟨i, hi⟩ := List.getElem?_of_mem ha
        have := firstE_nil h i (List.getElem?_eq_some_iff.1 hi).1
        simpa [hi] using this
/-- The error of Step. -/
def stpE (x : Xt) (s : Int) (ys : List Int) (inp : Int) : Int :=
  if xtR x ≠ 0 then xtR x else if numB s x.states = false then 1 else if valsR x.vars ys ≠ 0 then valsR x.vars ys else if numB inp x.ins = false then 1 else if (stepR x s ys inp).isNone then 7 else 0
/-- The outputs of a word; none stands for a run that stopped. -/
def runF (x : Xt) : Option (Int × List Int) → List Int → List Int
  | _, [] => []
  | none, _ :: w => -1 :: runF x none w
  | some c, i :: w => match stepR x c.1 c.2 i with
    | some r => r.2.2 :: runF x (some (r.1, r.2.1)) w
    | none => -1 :: runF x none w
theorem runF_len (x : Xt) : ∀ (c : Option (Int × List Int)) (w : List Int), (runF x c w).length = w.length
  | none, [] => rfl
  | some _, [] => rfl
  | none, _ :: w => by simp [runF, runF_len x none w]
  | some c, i :: w => by
    unfold runF
    cases stepR x c.1 c.2 i with
    | none => simp [runF_len x none w]
    | some r => simp [runF_len x _ w]
theorem runF_none {x : Xt} {w : List Int} {i : Nat} {a : Int} (h : w[i]? = some a) : runF x none (w.drop i) = -1 :: runF x none (w.drop (i + 1)) := by
  have hlt := (List.getElem?_eq_some_iff.1 h).1
  rw [List.drop_eq_getElem_cons hlt]; rfl
theorem runF_step {x : Xt} {w : List Int} {i : Nat} {a : Int} (h : w[i]? = some a) (c : Int × List Int) : runF x (some c) (w.drop i) = match stepR x c.1 c.2 a with | some r => r.2.2 :: runF x (some (r.1, r.2.1)) (w.drop (i + 1)) | none => -1 :: runF x none (w.drop (i + 1)) := by
  have hlt := (List.getElem?_eq_some_iff.1 h).1
  rw [List.drop_eq_getElem_cons hlt]
  have : w[i] = a := by have := List.getElem?_eq_getElem hlt; rw [h] at this; injection this with this; exact this.symm
  rw [this]; rfl
end Go.Proofs.YtggffdkgfgdaoaaDoor

namespace Go.Proofs.YtggffdkgfgdaoaaDoor
open Go.RowKit Go.Maps
set_option linter.unusedVariables false
set_option linter.unusedSimpArgs false
attribute [local go_sem] Oper.quietV quietV Oper.gives givesV ext_refl_iff ext_alloc_iff ext_drew_iff ext_drewN_iff
theorem own_empty (W : World) (e : TypeId) : (W.alloc (.cells #[] e)).ownsRow W.heap.size e 1 (.slice (some ⟨W.heap.size, 0, none⟩) 0 0) 0 [] := by
  have h := World.ownsRow_lit (base := W.heap.size) (e := e) (size := 1) W #[] 0 (Nat.le_refl _) (by unfold maxLen; omega) rfl
  simpa using h
theorem src_cells {w : World} {b o : Nat} {cs : List Value} (h : ∀ j u, cs[j]? = some u → w.cell? ⟨b, o + j, none⟩ = some u) {W : World} (e : Ext w W) : ∀ (j : Nat) (u : Value), cs[j]? = some u → W.cell? ((⟨b, o, none⟩ : Addr).add j) = some u := fun j u hj => by
  rw [Addr.add_lit]; exact e.cell (h j u hj)
theorem ints_one (xs : List Int) : ∀ u ∈ xs.map (Value.int .i64), u.oneCell' = true := fun u hu => by
  obtain ⟨x, _, rfl⟩ := List.mem_map.1 hu; rfl
theorem eq_nil (w : World) (t e : TypeId) (a : Option Addr) (n c : Nat) (h : Tryd.prog.underlying t = some (.slice e)) : (binOp .eql t (.slice a n c) (.slice none 0 0)).run Tryd.prog w = .ok (.bool a.isNone) w := by
  simp only [binOp]
  simp [Op.equal, Op.maxDepth, Lib.run_equalIn_slice_nil w 9999 t e a n c 0 0 h]
theorem run_append_zero {P : Program} (t ty e : TypeId) (i : TypeInfo) (ht : P.underlying t = some (.slice e)) (hi : P.info? e = some i) (g n cap c : Nat) (A : Option Addr) (hnc : n ≤ cap) (w : World) :
    (Builtin.append_ #[t, t] ty #[.slice (some ⟨g, 0, none⟩) n cap, .slice A 0 c]).run P w = .ok (.slice (some ⟨g, 0, none⟩) n cap) w := by
  cases A <;> simp [Builtin.append_, run_underlying ht, sizeOf, typeInfo, hi, Builtin.lenOf, hnc, Builtin.firstCells, storeCells, loadCells, loadCellsFrom]
/-- What lies behind A lies from N on. -/
def NewA (N : Nat) (A : Option Addr) (xs : List Int) : Prop := 0 < xs.length → ∀ a, A = some a → N ≤ a.block
theorem IntsC.grown {w w' : World} {A : Option Addr} {n g N : Nat} {xs : List Int} {c : Nat} (h : IntsC w (.slice A n c) xs c) (hn : NewA N A xs) (hg : g < N) (e : w.grownBy w' (some g)) : IntsC w' (.slice A n c) xs c := by
  obtain ⟨A', hv, hc, hr⟩ := h
  injection hv with hA hn2 _
  subst hA
  refine ⟨A, by rw [hn2], fun h0 => ?_, hr⟩
  obtain ⟨b, o, hA, hb, hcc⟩ := hc h0
  have h1 := hn (by simpa using h0) _ hA
  exact ⟨b, o, hA, Nat.lt_of_lt_of_le hb e.size, fun j u hj => e.cell (hcc j u hj) (by simp; simp at h1; omega)⟩
def CloneP (w : World) (xs : List Int) (e : Ending) (w' : World) : Prop := ∃ A c, e = .returned (.slice A xs.length c) ∧ IntsC w' (.slice A xs.length c) xs c ∧ NewA w.heap.size A xs ∧ Ext w w'
set_option maxRecDepth 100000 in
set_option maxHeartbeats 1000000 in
theorem clone_any (w : World) (v : Value) (xs : List Int) (c : Nat) (hv : IntsC w v xs c) (hl : xs.length ≤ 100000) : Calls Tryd.prog 58 #[v] w (CloneP w xs) := by
  by_cases h0 : 0 < xs.length
  · obtain ⟨A, rfl, hc, _, _⟩ := hv
    obtain ⟨b, o, rfl, _, hcc⟩ := hc (by simpa using h0)
    obtain ⟨i3, hi3, hz3, hs3, hb3⟩ := info_parts int_info
    have hsrc := src_cells hcc (alloc_ext w (.cells #[] 3))
    have hone := ints_one xs
    have hln : (xs.map (Value.int .i64)).length = xs.length * 1 := by simp
    have HN := Lib.hid (And.intro hsrc (And.intro hone hln))
    have heq := fun w => eq_nil w 28 3 (some ⟨b, o, none⟩) xs.length c Tryd.underlying28
    clear hsrc hone hln hcc
    go_enter Tryd.func58, Tryd.ntmps58
    go_wp2_with (at_builtin; refine wpList_append_own2 rfl _ _ 28 rfl w.heap.size 3 i3 (.int .i64 0) 1 8 Tryd.underlying28 hi3 hz3 hs3 hb3 rfl (by decide) (.slice (some ⟨w.heap.size, 0, none⟩) 0 0) 0 [] rfl (own_empty w 3) ⟨b, o, none⟩ xs.length c (xs.map (.int .i64)) rfl HN.out.2.2 HN.out.1 HN.out.2.1 (by unfold maxLen; omega) (by omega) (by simp) ?_; intro v6 w6 hown6 hg6 hb6)
    have h6 : w6.ownsRow w.heap.size 3 1 v6 xs.length (xs.map (.int .i64)) := by simpa using hown6
    obtain ⟨A', c', rfl, hnc, hcc⟩ := cells_of_owns h6
    go_ret
    exact ⟨A', c', rfl, ⟨_, rfl, hcc, hnc, by unfold lenMax; omega⟩, fun _ a ha => (h6.lt a.block (by rw [ha]; rfl)).1, ext_grown (alloc_ext _ _) (own_empty w 3) (Nat.le_refl _) hg6⟩
  · obtain rfl : xs = [] := List.length_eq_zero_iff.1 (by omega)
    obtain ⟨A, rfl, hc, _, _⟩ := hv
    have heq := fun w => eq_nil w 28 3 A 0 c Tryd.underlying28
    obtain ⟨i3, hi3, hz3, hs3, hb3⟩ := info_parts int_info
    have hap := fun g (W : World) => run_append_zero 28 28 3 i3 Tryd.underlying28 hi3 g 0 0 c A (Nat.le_refl 0) W
    have hnil : ∀ (W : World) B cc, Ext w W → ∃ A c, Ending.returned (Value.slice B 0 cc) = .returned (.slice A ([] : List Int).length c) ∧ IntsC W (.slice A ([] : List Int).length c) [] c ∧ NewA w.heap.size A [] ∧ Ext w W := fun W B cc e => ⟨B, cc, rfl, ⟨B, rfl, fun h => absurd h (by simp), Nat.zero_le _, Nat.zero_le _⟩, fun h => absurd h (by simp), e⟩
    cases A with
    | none =>
      simp only [Option.isNone_none] at heq
      go_enter Tryd.func58, Tryd.ntmps58
      go_wp2
      go_ret
      exact hnil _ _ _ (Ext.refl _)
    | some a =>
      simp only [Option.isNone_some] at heq
      go_enter Tryd.func58, Tryd.ntmps58
      go_wp2
      go_ret
      exact hnil _ _ _ (alloc_ext _ _)
theorem clip_any (w : World) (A : Option Addr) (n c : Nat) (hn : n ≤ c) (hn' : n ≤ 100000) : Calls Tryd.prog 57 #[.slice A n c] w fun e w' => e = .returned (.slice A n n) ∧ w = w' := by
  go_enter Tryd.func57, Tryd.ntmps57
  go_wp2
  go_ret
  exact ⟨rfl, rfl⟩
theorem slice_spot {n : Nat} (hn : n ≤ 16) (b : Nat) (W : World) : (Instr.sliceAt 91 (.pointer (some ⟨b, 1, none⟩)) none (some (.int .i64 (n : Int))) none).run Tryd.prog W = .ok (.slice (some ⟨b, 1, none⟩) n 16) W := by
  have h16 : Tryd.prog.arrayLen 91 = 16 := by kernel_rfl
  have h := run_sliceAt_array_h (P := Tryd.prog) (w := W) (t := 91) (a := ⟨b, 1, none⟩) (by kernel_rfl) .i64 n (by omega) (by rw [h16]; exact_mod_cast hn)
  have he : Tryd.prog.elem 91 = 3 := by kernel_rfl
  obtain ⟨i3, hi3, hz3, hs3, hb3⟩ := info_parts int_info
  rw [h16, he] at h
  rw [h]
  have hz : (sizeOf 3).run Tryd.prog W = .ok 1 W := by simp [sizeOf, typeInfo, hi3, hs3]
  rw [hz]
  simp [slicedAt, Addr.add]
def CloneV (N : Nat) (xs : List Int) (v : Value) (w : World) : Prop := ∃ A c, v = .slice A xs.length c ∧ IntsC w v xs c ∧ NewA N A xs
theorem stays_cloneV (N : Nat) (xs : List Int) : Stays Ext (CloneV N xs) := fun v w w' e ⟨A, c, h1, h2, h3⟩ => ⟨A, c, h1, h2.ext e, h3⟩
def FitV (N : Nat) (xs : List Int) (v : Value) (w : World) : Prop := ∃ A, v = .slice A xs.length xs.length ∧ FitC w v xs ∧ NewA N A xs
theorem stays_fitV (N : Nat) (xs : List Int) : Stays Ext (FitV N xs) := fun v w w' e ⟨A, h1, h2, h3⟩ => ⟨A, h1, IntsC.ext h2 e, h3⟩
def ConfP (w : World) (s : Int) (ys : List Int) (e : Ending) (w' : World) : Prop := ∃ A, e = .returned (.agg #[.int .i64 s, .slice A ys.length ys.length]) ∧ FitC w' (.slice A ys.length ys.length) ys ∧ NewA w.heap.size A ys ∧ Ext w w'
theorem spot_cells {w : World} {b t : Nat} {s : Int} {ys : List Int} (h : w.heap[b]? = some (.cells (spotL s ys).toArray t (0, 0))) : w.cell? ⟨b, 0, none⟩ = some (.int .i64 s) ∧ ∀ n (hn : n ≤ ys.length) c, n ≤ c → n ≤ lenMax → IntsC w (.slice (some ⟨b, 1, none⟩) n c) (ys.take n) c := by
  refine ⟨by have := cell_of_blk h 0 (u := .int .i64 s) (by simp [spotL]); exact this, fun n hn c hc hm => ⟨some ⟨b, 1, none⟩, by rw [List.length_take, Nat.min_eq_left hn], fun _ => ⟨b, 1, rfl, lt_of_block h, fun j u hj => ?_⟩, by rw [List.length_take, Nat.min_eq_left hn]; exact hc, by rw [List.length_take, Nat.min_eq_left hn]; exact hm⟩⟩
  refine cell_of_blk h (1 + j) (u := u) ?_
  rw [Nat.add_comm, List.getElem?_toArray]
  unfold spotL
  rw [List.getElem?_cons_succ, List.map_append]
  rw [List.getElem?_map] at hj
  have hj2 : j < (ys.take n).length := by
    by_cases h9 : j < (ys.take n).length
    · exact h9
    · rw [List.getElem?_eq_none (by omega)] at hj; simp at hj
  rw [List.length_take] at hj2
  rw [List.getElem?_append_left (by rw [List.length_map]; omega), List.getElem?_map, ← hj, List.getElem?_take_of_lt (by omega)]
set_option maxRecDepth 100000 in
set_option maxHeartbeats 16000000 in
theorem config_any (w : World) (xv : Value) (x : Xt) (s : Int) (ys : List Int) (hx : XtV w x xv) (hl : ys.length = x.vars.length) (hm : ys.length ≤ 16) : Calls Tryd.prog 40 #[xv, .agg (spotL s ys).toArray] w (ConfP w s ys) := by
  obtain ⟨vv, sv, av, c1, c2, c3, rfl, hvv, hsv, hav⟩ := hx
  obtain ⟨Av0, hvv0, _, _, hvv3, _⟩ := hvv
  obtain ⟨As, hs0, _, _, hs3⟩ := hsv
  obtain ⟨Aa, as', ha0, _, _, _, _, ham⟩ := hav
  subst hvv0 hs0 ha0
  unfold lenMax at hvv3 hs3 ham
  rw [← hl]
  obtain ⟨L, hL⟩ : ∃ L, L = (spotL s ys).toArray := ⟨_, rfl⟩
  rw [← hL]
  have HL := Lib.hid hL
  clear hL hvv3 hl
  generalize x.start = start at *
  generalize x.arcs = arcs at *
  generalize x.ins = xins at *
  generalize x.outs = xouts at *
  generalize x.states = xst at *
  go_enter Tryd.func40, Tryd.ntmps40
  go_upto_region 1 with fail
  refine wp_named ?_
  intro W1 hW1
  have hE1 : Ext w W1 := by rw [hW1]; exact ((alloc_ext w _).trans (alloc_ext _ _)).trans (alloc_ext _ _)
  have hB2 : W1.heap[w.heap.size + 1]? = some (.cells (spotL s ys).toArray 93 (0, 0)) := by
    rw [hW1, ← HL.out]
    have h1 := heap_alloc_new (w.alloc (.cells #[.int .i64 xins, .int .i64 xouts, .int .i64 xst, .slice Av0 ys.length c1, .slice As start.length c2, .slice Aa arcs.length c3] 31)) (.cells L 93)
    refine heap_ext (alloc_ext _ _) ?_
    simpa using h1
  have q3 : ∀ w', Ext W1 w' → w'.cell? ⟨w.heap.size, 3, none⟩ = some (.slice Av0 ys.length c1) := fun w' h => h.cell (by rw [hW1]; simp [go_sem])
  obtain ⟨k0, ky⟩ := spot_cells hB2
  have hsl := ky ys.length (Nat.le_refl _) 16 hm (by unfold lenMax; omega)
  rw [List.take_length] at hsl
  have k0 := fun w' (h : Ext W1 w') => h.cell k0
  have hcl := fun W' (e : Ext W1 W') => clone_any W' _ ys 16 (hsl.ext e) (by omega)
  unfold CloneP at hcl
  have hd : W1.heap[w.heap.size + 1 + 1]? = some (.cells #[.int .i64 0, .slice none 0 0] 34 (0, 0)) := by
    rw [hW1]
    have h1 := heap_alloc_new ((w.alloc (.cells #[.int .i64 xins, .int .i64 xouts, .int .i64 xst, .slice Av0 ys.length c1, .slice As start.length c2, .slice Aa arcs.length c3] 31)).alloc (.cells L 93)) (.cells #[.int .i64 0, .slice none 0 0] 34)
    simpa using h1
  have hsa := slice_spot hm (w.heap.size + 1)
  have HD := Lib.hid (And.intro hd hE1)
  have HN : Hid (w.heap.size ≤ w.heap.size + 1 + 1 ∧ w.heap.size + 1 + 1 < W1.heap.size) := Lib.hid ⟨by omega, lt_of_block hd⟩
  have hR1 := Ext.refl W1
  clear hW1 hB2 hsl ky hE1 hd HL
  generalize w.heap.size + 1 + 1 = d3 at *
  generalize w.heap.size + 1 = d2 at *
  generalize hd1 : w.heap.size = d1 at *
  have HWS := Lib.hid hd1
  clear hd1
  refine wp_region_ext 9 (factsOf [(7, CloneV W1.heap.size ys), (8, FitV W1.heap.size ys)]) (fun k => ([[], [0], [], [], [3], [3, 4], [2, 3, 4, 5], [2, 3, 4, 5, 6], [2, 3, 4, 5, 6, 7], [0, 1, 2, 3, 4, 5, 6, 7, 8], [0, 1, 2, 3, 4, 5, 6, 7, 8, 9]] : List (List Nat)).getD k []) (by kernel_rfl) (by kernel_rfl) Ext.pre (mono_cons (stays_cloneV _ _) (mono_cons (stays_fitV _ _) (mono_nil))) ?_
  simp only [List.take_succ_cons, List.take_zero]
  repeat (first | (with_reducible refine lexL_quiet' (v := ?_) ?_ ?_ ?_ ?_; rotate_left; (· with_reducible rfl); (· simp [factsOf]); (· intro w1 hw1 _; go_simp; with_reducible rfl); (try simp only [Act.put, List.setIfInBounds_toArray, List.set_cons_zero, List.set_cons_succ])) | (with_reducible refine lexL_skip ?_ ?_; (· simp [Region.wanted, yielded, undef]); (try simp only [Act.put, List.setIfInBounds_toArray, List.set_cons_zero, List.set_cons_succ])) | (with_reducible refine lexL_quiet (v := ?_) ?_ ?_ ?_ ?_; rotate_left; (· simp [Region.wanted, yielded, undef]); (· simp [factsOf]); (· intro w1 hw1 _; go_simp; with_reducible rfl); (try simp only [Act.put, List.setIfInBounds_toArray, List.set_cons_zero, List.set_cons_succ])))
  with_reducible refine lexL_give' (φ := ?_) ?_ ?_ ?_ ?_; rotate_left; (· with_reducible rfl); (· simp only [factsOf, Nat.reduceAdd, ↓reduceIte, Nat.reduceEqDiff]; rfl)
  · intro w5 hw5 hk5
    go_simp
    refine (hcl w5 hw5).mono ?_
    rintro e w6 ⟨A, c, rfl, h6, h7, e6⟩
    exact ⟨_, rfl, e6, A, c, rfl, h6, fun h a ha => Nat.le_trans hw5.size (h7 h a ha)⟩
  rintro v9 w5 hw5 ⟨A9, c9, rfl, h9, h9n⟩ hk2
  clear hk2 hw5
  have hnc9 : ys.length ≤ c9 := by obtain ⟨_, _, _, h, _⟩ := id h9; exact h
  clear h9
  (try simp only [Act.put, List.setIfInBounds_toArray, List.set_cons_zero, List.set_cons_succ])
  with_reducible refine lexL_give' (φ := ?_) ?_ ?_ ?_ ?_; rotate_left; (· with_reducible rfl); (· simp only [factsOf, Nat.reduceAdd, ↓reduceIte, Nat.reduceEqDiff]; rfl)
  · intro w7 hw7 hk7
    go_simp
    refine (clip_any w7 A9 ys.length c9 hnc9 (by omega)).mono ?_
    rintro e w6 ⟨rfl, rfl⟩
    obtain ⟨A7, c7, hv7, h7, h7n⟩ := hk7.get 7 (by decide) rfl rfl
    injection hv7 with hA7 _ hc7
    subst hA7 hc7
    obtain ⟨A8, hv8, h8, _, h8m⟩ := h7
    injection hv8 with hA8 _ _
    subst hA8
    exact ⟨_, rfl, Ext.refl _, A9, rfl, ⟨A9, rfl, h8, Nat.le_refl _, h8m⟩, h7n⟩
  rintro v8 w7 hw7 ⟨A8, rfl, h8, h8n⟩ hk2
  clear hk2 h8 hw7 w7 h9n w5
  (try simp only [Act.put, List.setIfInBounds_toArray, List.set_cons_zero, List.set_cons_succ])
  repeat (first | (with_reducible refine lexL_quiet' (v := ?_) ?_ ?_ ?_ ?_; rotate_left; (· with_reducible rfl); (· simp [factsOf]); (· intro w1 hw1 _; go_simp; with_reducible rfl); (try simp only [Act.put, List.setIfInBounds_toArray, List.set_cons_zero, List.set_cons_succ])) | (with_reducible refine lexL_skip ?_ ?_; (· simp [Region.wanted, yielded, undef]); (try simp only [Act.put, List.setIfInBounds_toArray, List.set_cons_zero, List.set_cons_succ])) | (with_reducible refine lexL_quiet (v := ?_) ?_ ?_ ?_ ?_; rotate_left; (· simp [Region.wanted, yielded, undef]); (· simp [factsOf]); (· intro w1 hw1 _; go_simp; with_reducible rfl); (try simp only [Act.put, List.setIfInBounds_toArray, List.set_cons_zero, List.set_cons_succ])))
  with_reducible refine lexL_nil ?_; intro w1 hw1 hk1; simp only [List.drop_succ_cons, List.drop_zero]
  obtain ⟨A8', hv8, h8, _⟩ := hk1.get 8 rfl rfl
  have HF := Lib.hid (And.intro h8 (And.intro h8n (And.intro (HD.out.2.trans hw1) (heap_ext hw1 HD.out.1))))
  clear hk1 hw1 h8 h8n hv8 hcl k0 q3 hR1 hsa
  go_wp2_with (with_reducible refine wpList_store_blk _ rfl 34 _ _ rfl d3 34 _ _ rfl rfl HF.out.2.2.2 (by kernel_rfl) (by kernel_rfl) (by kernel_rfl) ?_; intro w8 h8 g8)
  refine bodyPost_ret (results_cell_row rfl _ _ d3 34 _ (0, 0) _ (by simp [Act.put]) h8 Tryd.underlying34 rfl (by kernel_rfl)) rfl ?_
  exact ⟨A8, rfl, IntsC.grown HF.out.1 HF.out.2.1 HN.out.2 g8, fun h a ha => by have h1 := HF.out.2.1 h a ha; have h2 := HN.out.2; have h3 := HN.out.1; rw [HWS.out]; omega, Below.grown HF.out.2.2.1 g8 HF.out.2.2.1.size (fun k hk => by cases hk; rw [HWS.out]; exact HN.out.1)⟩
end Go.Proofs.YtggffdkgfgdaoaaDoor

namespace Go.Proofs.YtggffdkgfgdaoaaDoor
open Go.RowKit Go.Maps
set_option linter.unusedVariables false
set_option linter.unusedSimpArgs false
attribute [local go_sem] Oper.quietV quietV Oper.gives givesV ext_refl_iff ext_alloc_iff ext_drew_iff ext_drewN_iff
theorem results_cell_tmp {P : Program} {fn : Func} {p u : Tmp} {ty : TypeId} (h : fn.results = #[.cell p ty, .tmp u]) (tmps : Array Value) (w : World) (g : Nat) (t : TypeId) (cs : Array Value) (fr : Nat × Nat) (d : TypeDesc)
    (hp : tmps.getD p undef = .pointer (some ⟨g, 0, none⟩)) (hg : w.heap[g]? = some (.cells cs t fr))
    (hu : P.underlying ty = some d) (hd : (match d with | .struct _ | .array _ _ => true | _ => false) = true) (hi : (P.info? ty).map (·.size) = some cs.size) :
    (results fn tmps).run P w = .ok (.tuple #[.agg cs, tmps.getD u undef]) w := by
  have hp' : tmps[p]?.getD undef = .pointer (some ⟨g, 0, none⟩) := by simpa using hp
  simp [results, h, hp', asAddr, run_loadVar_row w g t ty cs fr d hg hu hd hi]
theorem spot_info {s : Int} {ys : List Int} (h : ys.length ≤ 16) : (Tryd.prog.info? 93).map (·.size) = some (spotL s ys).toArray.size := by
  have h1 : (Tryd.prog.info? 93).map (·.size) = some 17 := by kernel_rfl
  rw [h1, List.size_toArray, spot_len h]
theorem spot_all (s : Int) (ys : List Int) : (spotL s ys).toArray.all (·.oneCell') = true := by
  rw [List.all_toArray, List.all_eq_true]
  intro v hv
  unfold spotL at hv
  rcases List.mem_cons.1 hv with rfl | hv
  · rfl
  · obtain ⟨z, _, rfl⟩ := List.mem_map.1 hv; rfl
def SpotB (w : World) (b : Nat) (s : Int) (ys : List Int) : Prop := w.heap[b]? = some (.cells (spotL s ys).toArray 93 (0, 0))
theorem SpotB.lt {w : World} {b : Nat} {s : Int} {ys : List Int} (h : SpotB w b s ys) : b < w.heap.size := lt_of_block h
theorem SpotB.ext {w w' : World} {b : Nat} {s : Int} {ys : List Int} (h : SpotB w b s ys) (e : Ext w w') : SpotB w' b s ys := heap_ext e h
theorem SpotB.grown {w w' : World} {b g : Nat} {s : Int} {ys : List Int} (h : SpotB w b s ys) (e : w.grownBy w' (some g)) (hne : b ≠ g) : SpotB w' b s ys := (e.block b h.lt (by simpa using hne)).trans h
section
variable {P : Program} {ops : Array Oper} {rest : List Oper} {o : Oper} {a : Act} {Q : Exit → Act → World → Prop} {w : World}
theorem wpList_load_spot (hgd : o.guard = none) (x : Operand) (ho : o.op = .load 93 x) (b : Nat) (hx : a.eval x = .pointer (some ⟨b, 0, none⟩)) {s : Int} {ys : List Int} (hB : SpotB w b s ys) (hl : ys.length ≤ 16)
    (h : wpList Tryd.prog ops Q rest (a.put o.dst (.agg (spotL s ys).toArray)) w) : wpList Tryd.prog ops Q (o :: rest) a w :=
  wpList_load_row hgd 93 x ho b hx 93 _ (0, 0) _ hB Tryd.underlying93 rfl (spot_info hl) h
theorem wpList_store_spot (hgd : o.guard = none) (x y : Operand) (ho : o.op = .store 93 x y) (b : Nat) (hx : a.eval x = .pointer (some ⟨b, 0, none⟩)) {s s' : Int} {ys zs : List Int} (hy : a.eval y = .agg (spotL s' zs).toArray) (hB : SpotB w b s ys) (hl : ys.length ≤ 16) (hl' : zs.length ≤ 16)
    (h : ∀ w', SpotB w' b s' zs → w.grownBy w' (some b) → wpList Tryd.prog ops Q rest (a.put o.dst undef) w') : wpList Tryd.prog ops Q (o :: rest) a w :=
  wpList_store_blk w hgd 93 x y ho b 93 _ _ hx hy hB (by simp [spot_len hl, spot_len hl']) (spot_info hl') (spot_all _ _) h
end
theorem spot_set {s : Int} {ys : List Int} {k : Nat} (hk : k < ys.length) (n : Int) : (spotL s ys).toArray.setIfInBounds (1 + k) (.int .i64 n) = (spotL s (ys.set k n)).toArray := by
  rw [List.setIfInBounds_toArray]
  unfold spotL
  rw [Nat.add_comm, List.set_cons_succ, List.map_append, List.set_append_left _ _ (by rw [List.length_map]; exact hk), List.length_set, List.map_append, List.map_set]
theorem spot_set0 {s : Int} {ys : List Int} (n : Int) : (spotL s ys).toArray.setIfInBounds 0 (.int .i64 n) = (spotL n ys).toArray := by
  rw [List.setIfInBounds_toArray]; rfl
theorem SpotB.set {w : World} {b : Nat} {s : Int} {ys : List Int} (h : SpotB w b s ys) {k : Nat} (hk : k < ys.length) (n : Int) : SpotB (w.setCell ⟨b, 1 + k, none⟩ (.int .i64 n)) b s (ys.set k n) := by
  have := heap_setCell_same w b (1 + k) _ 93 (.int .i64 n) h
  rwa [spot_set hk] at this
theorem SpotB.set0 {w : World} {b : Nat} {s : Int} {ys : List Int} (h : SpotB w b s ys) (n : Int) : SpotB (w.setCell ⟨b, 0, none⟩ (.int .i64 n)) b n ys := by
  have := heap_setCell_same w b 0 _ 93 (.int .i64 n) h
  rwa [spot_set0] at this
theorem grown_setK (w : World) (b k : Nat) (v : Value) : w.grownBy (w.setCell ⟨b, k, none⟩ v) (some b) := ⟨rfl, rfl, rfl, by simp [World.setCell], fun j hk hr => heap_setCell_other w ⟨b, k, none⟩ j v (fun e => hr (by rw [e]))⟩
theorem SpotB.old {w : World} {b : Nat} {s : Int} {ys : List Int} (h : SpotB w b s ys) (hl : ys.length ≤ 16) : IntsC w (.slice (some ⟨b, 1, none⟩) ys.length 16) ys 16 := by
  have := (spot_cells h).2 ys.length (Nat.le_refl _) 16 hl (by unfold lenMax; omega)
  rwa [List.take_length] at this
theorem alloc4_2 (w : World) (A B C D : Obj) : ((((w.alloc A).alloc B).alloc C).alloc D).heap[w.heap.size + 1 + 1]? = some C := by
  have h := heap_alloc_new ((w.alloc A).alloc B) C
  refine heap_ext (alloc_ext _ _) ?_
  simpa using h
theorem alloc4_3 (w : World) (A B C D : Obj) : ((((w.alloc A).alloc B).alloc C).alloc D).heap[w.heap.size + 1 + 1 + 1]? = some D := by
  have h := heap_alloc_new (((w.alloc A).alloc B).alloc C) D
  simpa using h
def TakeP (w : World) (r : Int × List Int × Bool) (e : Ending) (w' : World) : Prop := e = .returned (.tuple #[.agg (spotL r.1 r.2.1).toArray, .bool r.2.2]) ∧ Ext w w'
def UpsOk (n : Nat) (us : List Up) : Prop := ∀ u ∈ us, 0 ≤ u.var ∧ u.var < n
theorem zeroSpot : (spotL 0 []) = List.replicate 17 (.int .i64 0) := rfl
set_option maxRecDepth 100000 in
set_option maxHeartbeats 16000000 in
theorem take_any (w : World) (xv : Value) (x : Xt) (a : Ac) (y : Av) (s : Int) (ys : List Int) (hx : XtV w x xv) (ha : ArcV w a y) (hT : OpsTab w) (hl : ys.length = x.vars.length) (hm : ys.length ≤ 16) (hu : UpsOk x.vars.length a.ups) : Calls Tryd.prog 49 #[xv, avVal y, .agg (spotL s ys).toArray] w (TakeP w (takeV x a s ys)) := by
  obtain ⟨r, hr⟩ : ∃ r, r = takeV x a s ys := ⟨_, rfl⟩
  rw [← hr]
  unfold takeV takeR at hr
  obtain ⟨vv, sv, av, c1, c2, c3, rfl, hvv, hsv, hav⟩ := hx
  have hev := fun W' (e : Ext w W') b (hB : SpotB W' b s ys) (t : Tr) (z : Nv) (hN : NodeV W' t (nvVal z)) => Eval_any W' vv (nvVal z) _ x.vars t ys c1 16 (hvv.ext e) hN (hB.old hm) (hT.ext e)
  obtain ⟨f1, f2, hg, f4, ⟨cu, hus⟩, f6⟩ := ha
  obtain ⟨Av0, hvv0, hvv1, hvv2, hvv3, hvv4⟩ := hvv
  obtain ⟨As, hs0, _, _, hs3⟩ := hsv
  obtain ⟨Aa, as', ha0, _, _, _, _, ham⟩ := hav
  obtain ⟨Au, us, hyu, hul, huc, hus, hun, hum⟩ := hus
  obtain ⟨y1, y2, ⟨g1, g2, g3⟩, y4, y5, y6⟩ := y
  simp only at f1 f2 f4 f6 hyu
  subst hvv0 hs0 ha0 f1 f2 f4 f6 hyu
  unfold lenMax at hvv3 hs3 ham hum
  unfold avVal
  have hevg := fun W' (e : Ext w W') b (hB : SpotB W' b s ys) => hev W' e b hB a.guard (g1, g2, g3) (hg.ext e)
  unfold nvVal EvalR at hevg
  obtain ⟨_, A9, cs9, vs9, hq9, _⟩ := hg.form
  have hzz : g3 = .slice A9 a.guard.subs.length cs9 := by
    have h9 := congrArg (fun v => match v with | Value.agg cs => cs[2]? | _ => none) hq9
    simpa [nvVal] using h9
  subst hzz
  obtain ⟨⟨rn, ris, re⟩, hrg⟩ : ∃ r, r = fullR x.vars a.guard ys := ⟨_, rfl⟩
  rw [← hrg] at hr hevg
  dsimp only at hr hevg ⊢
  have HX := Lib.hid (And.intro huc (And.intro hus (And.intro hul (And.intro hvv1 (And.intro hev hu)))))
  have HR0 := Lib.hid hr
  clear hr hrg hg hT huc hus hul hvv1 hvv4 hev hu hq9
  obtain ⟨nl, hnl⟩ : ∃ nl, nl = a.guard.subs.length := ⟨_, rfl⟩
  rw [← hnl] at hevg ⊢
  clear hnl
  rw [← hl] at hevg ⊢ hvv3
  have HL := Lib.hid hl
  clear hl
  obtain ⟨L, hL⟩ : ∃ L, L = (spotL s ys).toArray := ⟨_, rfl⟩
  rw [← hL]
  have HLL := Lib.hid hL
  clear hL
  generalize a.frm = afrm at *
  generalize a.inp = ainp at *
  generalize a.out = aout at *
  generalize a.dst = adst at *
  generalize a.ups = ups at *
  generalize x.start = start at *
  generalize x.arcs = arcs at *
  generalize x.vars = vars at *
  generalize x.ins = xins at *
  generalize x.outs = xouts at *
  generalize x.states = xst at *
  go_enter Tryd.func49, Tryd.ntmps49
  go_upto_region 1 with fail
  refine wp_named ?_
  intro W1 hW1
  have hE1 : Ext w W1 := by rw [hW1]; exact (((alloc_ext w _).trans (alloc_ext _ _)).trans (alloc_ext _ _)).trans (alloc_ext _ _)
  have hB5 : SpotB W1 (w.heap.size + 1 + 1) s ys := by unfold SpotB; rw [hW1, ← HLL.out]; exact alloc4_2 _ _ _ _ _
  have hB6 : SpotB W1 (w.heap.size + 1 + 1 + 1) 0 [] := by unfold SpotB; rw [hW1]; exact alloc4_3 _ _ _ _ _
  have q3 : ∀ w', Ext W1 w' → w'.cell? ⟨w.heap.size, 3, none⟩ = some (.slice Av0 ys.length c1) := fun w' h => h.cell (by rw [hW1]; simp [go_sem])
  have a0 : ∀ w', Ext W1 w' → w'.cell? ⟨w.heap.size + 1, 0, none⟩ = some (.int .i64 afrm) := fun w' h => h.cell (by rw [hW1]; simp [go_sem])
  have a2 : ∀ w', Ext W1 w' → w'.cell? ⟨w.heap.size + 1, 2, none⟩ = some (.int .u8 (g1 : Int)) := fun w' h => h.cell (by rw [hW1]; simp [go_sem])
  have a3 : ∀ w', Ext W1 w' → w'.cell? ⟨w.heap.size + 1, 3, none⟩ = some (.int .i64 g2) := fun w' h => h.cell (by rw [hW1]; simp [go_sem])
  have a4 : ∀ w', Ext W1 w' → w'.cell? ⟨w.heap.size + 1, 4, none⟩ = some (.slice A9 nl cs9) := fun w' h => h.cell (by rw [hW1]; simp [go_sem])
  have a6 : ∀ w', Ext W1 w' → w'.cell? ⟨w.heap.size + 1, 6, none⟩ = some (.slice Au ups.length cu) := fun w' h => h.cell (by rw [hW1]; simp [go_sem])
  have a7 : ∀ w', Ext W1 w' → w'.cell? ⟨w.heap.size + 1, 7, none⟩ = some (.int .i64 adst) := fun w' h => h.cell (by rw [hW1]; simp [go_sem])
  have s0 := fun w' (h : Ext W1 w') => h.cell (spot_cells hB5).1
  have hsa := slice_spot hm (w.heap.size + 1 + 1)
  have hev1 := hevg W1 hE1 _ hB5
  have HD : Hid (w.heap.size ≤ w.heap.size + 1 + 1 + 1 ∧ w.heap.size + 1 + 1 ≠ w.heap.size + 1 + 1 + 1 ∧ w.heap.size + 1 ≠ w.heap.size + 1 + 1 + 1 ∧ w.heap.size ≠ w.heap.size + 1 + 1 + 1) := Lib.hid ⟨by omega, by omega, by omega, by omega⟩
  have hR1 := Ext.refl W1
  have HE1 := Lib.hid (And.intro hE1 (And.intro hB5 hB6))
  clear hW1 hE1 hB5 hB6 hevg
  generalize w.heap.size + 1 + 1 + 1 = d6 at *
  generalize w.heap.size + 1 + 1 = d5 at *
  generalize w.heap.size + 1 = d4 at *
  generalize hd3 : w.heap.size = d3 at *
  have HDW := Lib.hid hd3
  clear hd3
  by_cases gf : afrm = s
  rotate_left
  · have HR : Hid (r = (s, ys, false)) := Lib.hid (by rw [HR0.out, if_pos (.inl gf)])
    go_upto_region 4 with ((with_reducible refine hev1.mono ?_); rintro e W2 ⟨rfl, e2⟩)
    have HE2 := Lib.hid (And.intro (HE1.out.1.trans e2) (And.intro (HE1.out.2.1.ext e2) (HE1.out.2.2.ext e2)))
    clear hev1 e2 q3 a0 a2 a3 a4 a6 a7 s0 hsa hR1
    go_wp2_with (first
      | (with_reducible refine wpList_load_spot rfl _ rfl d5 rfl HE2.out.2.1 hm ?_)
      | (with_reducible refine wpList_store_spot rfl _ _ rfl d6 rfl rfl HE2.out.2.2 (by simp) hm ?_; intro w8 h8 g8))
    refine bodyPost_ret (results_cell_tmp rfl _ _ d6 93 _ (0, 0) _ (by simp [Act.put]) h8 Tryd.underlying93 rfl (spot_info hm)) rfl ?_
    exact ⟨by rw [HR.out]; rfl, Below.grown HE2.out.1 g8 (HE2.out.1).size (fun k hk => by cases hk; rw [HDW.out]; exact HD.out.1)⟩
  subst gf
  cases ris with
  | false =>
    have HR : Hid (r = (afrm, ys, false)) := Lib.hid (by rw [HR0.out, if_pos (.inr (.inl rfl))])
    go_upto_region 4 with ((with_reducible refine hev1.mono ?_); rintro e W2 ⟨rfl, e2⟩)
    have HE2 := Lib.hid (And.intro (HE1.out.1.trans e2) (And.intro (HE1.out.2.1.ext e2) (HE1.out.2.2.ext e2)))
    clear hev1 e2 q3 a0 a2 a3 a4 a6 a7 s0 hsa hR1
    go_wp2_with (first
      | (with_reducible refine wpList_load_spot rfl _ rfl d5 rfl HE2.out.2.1 hm ?_)
      | (with_reducible refine wpList_store_spot rfl _ _ rfl d6 rfl rfl HE2.out.2.2 (by simp) hm ?_; intro w8 h8 g8))
    refine bodyPost_ret (results_cell_tmp rfl _ _ d6 93 _ (0, 0) _ (by simp [Act.put]) h8 Tryd.underlying93 rfl (spot_info hm)) rfl ?_
    exact ⟨by rw [HR.out]; rfl, Below.grown HE2.out.1 g8 (HE2.out.1).size (fun k hk => by cases hk; rw [HDW.out]; exact HD.out.1)⟩
  | true =>
  by_cases gn : rn = 1
  rotate_left
  · have HR : Hid (r = (afrm, ys, false)) := Lib.hid (by rw [HR0.out, if_pos (.inr (.inr gn))])
    have gn2 : (rn != 1) = true := bne_iff_ne.2 gn
    clear gn
    go_upto_region 4 with ((with_reducible refine hev1.mono ?_); rintro e W2 ⟨rfl, e2⟩)
    have HE2 := Lib.hid (And.intro (HE1.out.1.trans e2) (And.intro (HE1.out.2.1.ext e2) (HE1.out.2.2.ext e2)))
    clear hev1 e2 q3 a0 a2 a3 a4 a6 a7 s0 hsa hR1
    go_wp2_with (first
      | (with_reducible refine wpList_load_spot rfl _ rfl d5 rfl HE2.out.2.1 hm ?_)
      | (with_reducible refine wpList_store_spot rfl _ _ rfl d6 rfl rfl HE2.out.2.2 (by simp) hm ?_; intro w8 h8 g8))
    refine bodyPost_ret (results_cell_tmp rfl _ _ d6 93 _ (0, 0) _ (by simp [Act.put]) h8 Tryd.underlying93 rfl (spot_info hm)) rfl ?_
    exact ⟨by rw [HR.out]; rfl, Below.grown HE2.out.1 g8 (HE2.out.1).size (fun k hk => by cases hk; rw [HDW.out]; exact HD.out.1)⟩
  subst gn
  have HR0 : Hid (r = match (match putsU vars ys ups ys with | none => none | some c => some (adst, c)) with | some r => (r.1, r.2, true) | none => (afrm, ys, false)) := Lib.hid (by rw [HR0.out, if_neg (by simp)] <;> rfl)
  go_upto_region 5 with ((with_reducible refine hev1.mono ?_); rintro e W2 ⟨rfl, e2⟩)
  have HE2 := Lib.hid (And.intro (HE1.out.1.trans e2) (And.intro (HE1.out.2.1.ext e2) (HE1.out.2.2.ext e2)))
  have q3 := q3 W2 e2
  have a6 := a6 W2 e2
  have a7 := a7 W2 e2
  clear hev1 e2 a0 a2 a3 a4 s0 hR1 HE1
  go_upto_region 6 with (first
    | (with_reducible refine wpList_load_spot rfl _ rfl d5 rfl HE2.out.2.1 hm ?_)
    | (with_reducible refine wpList_store_spot rfl _ _ rfl d6 rfl rfl HE2.out.2.2 (by simp) hm ?_; intro w8 h8 g8))
  have q3 := g8.cell q3 (by simpa using HD.out.2.2.2)
  have a6 := g8.cell a6 (by simpa using HD.out.2.2.1)
  have a7 := g8.cell a7 (by simpa using HD.out.2.2.1)
  have h5 := SpotB.grown HE2.out.2.1 g8 HD.out.2.1
  have hE8 := Below.grown HE2.out.1 g8 HE2.out.1.size (fun k hk => by cases hk; rw [HDW.out]; exact HD.out.1)
  have s6 := cell_of_blk h8 0 (u := .int .i64 afrm) rfl
  have t6 := free_of_blk h8 0
  have HE8 := Lib.hid (And.intro hE8 (And.intro h5 h8))
  have hne2 : d3 ≠ d6 := HD.out.2.2.2
  have hne3 : d4 ≠ d6 := HD.out.2.2.1
  clear HE2 h5 hE8 g8 h8
  go_upto_region 7 with fail
  refine wp_named ?_
  intro W3 hW3
  have g3 : w8.grownBy W3 (some d6) := by rw [hW3]; exact grown_setK w8 d6 0 _
  have h36 : SpotB W3 d6 adst ys := by rw [hW3]; exact HE8.out.2.2.set0 adst
  have h35 := SpotB.grown HE8.out.2.1 g3 HD.out.2.1
  have hE3 := Below.grown HE8.out.1 g3 HE8.out.1.size (fun k hk => by cases hk; rw [HDW.out]; exact HD.out.1)
  have q3 := g3.cell q3 (by simpa using hne2)
  have a6 := g3.cell a6 (by simpa using hne3)
  have HE3 := Lib.hid (And.intro hE3 (And.intro h35 h36))
  have HQ3 := Lib.hid q3
  clear hW3 g3 h36 h35 hE3 HE8 a7 s6 t6 q3
  go_wp2
  clear a6
  go_loopw [54] (fun iv wr => ∃ (i : Nat) (cur : List Int), iv = .int .i64 i ∧ i ≤ ups.length ∧ cur.length = ys.length ∧ Hid (putsU vars ys ups ys = putsU vars ys (ups.drop i) cur) ∧ Hid (Ext w wr ∧ W3.grownBy wr (some d6) ∧ SpotB wr d5 afrm ys ∧ SpotB wr d6 adst cur)) (fun iv _ => ups.length - (intOf iv).toNat)
  case atStart => exact ⟨0, ys, by first | rfl | simp, Nat.zero_le _, rfl, Lib.hid (by rw [List.drop_zero]), Lib.hid ⟨HE3.out.1, grown_of_ext (Ext.refl _) _, HE3.out.2⟩⟩
  case round =>
    obtain ⟨i, cur, rfl, hi, hcl, HP, HW⟩ := hrel
    obtain ⟨W5, hW5⟩ : ∃ W, W = wr := ⟨_, rfl⟩; subst hW5
    have hR5 := Ext.refl W5
    by_cases hlt : i < ups.length
    · have hlI : (i : Int) < (ups.length : Int) := by omega
      obtain ⟨u, hu⟩ : ∃ u, ups[i]? = some u := ⟨_, List.getElem?_eq_getElem hlt⟩
      obtain ⟨bs, os, p, m, z, hA, d0, d1, d2, d3', hns⟩ := up_at HX.out.2.2.1 HX.out.1 HX.out.2.1 hu
      subst hA
      obtain ⟨hu0, hu1⟩ := HX.out.2.2.2.2.2 u (List.mem_of_getElem? hu)
      obtain ⟨vn, hvn⟩ : ∃ vn : Nat, u.var = (vn : Int) := ⟨u.var.toNat, by omega⟩
      have hvl : vn < vars.length := by omega
      have hvy : vn < cur.length := by rw [hcl, HL.out]; exact hvl
      obtain ⟨⟨nm, lo, hi2⟩, hvt⟩ : ∃ v, vars[vn]? = some v := ⟨_, List.getElem?_eq_getElem hvl⟩
      obtain ⟨bv, ov, hAv, v0, v1, v2⟩ := var_at HX.out.2.2.2.1 hvt
      subst hAv
      obtain ⟨_, A8, cs8, vs8, hq8, _⟩ := hns.form
      have hzz : z = .slice A8 u.ex.subs.length cs8 := by
        have h9 := congrArg (fun v => match v with | Value.agg cs => cs[2]? | _ => none) hq8
        simpa using h9
      subst hzz
      have HEV : Hid (∀ W' (e : Ext W5 W'), SpotB W' d5 afrm ys → Calls Tryd.prog 63 #[_, _, _] W' (EvalR W' (fullR vars u.ex ys))) := Lib.hid (fun W' e hB => HX.out.2.2.2.2.1 W' (HW.out.1.trans e) d5 hB u.ex (p, m, _) (hns.ext (HW.out.1.trans e)))
      obtain ⟨⟨n2, is2, e2⟩, hr2⟩ : ∃ r, r = fullR vars u.ex ys := ⟨_, rfl⟩
      have HPU : Hid (putU vars ys u cur = if is2 = false ∨ n2 < lo ∨ hi2 < n2 then none else some (cur.set vn n2)) := Lib.hid (by unfold putU; rw [hvn, Int.toNat_natCast, hvt, ← hr2])
      have HPS := Lib.hid (putsU_drop (l := vars) (old := ys) hu cur)
      rw [← hr2, ← HL.out] at HEV
      rw [hvn] at d0
      obtain ⟨nl2, hnl2⟩ : ∃ nl2, nl2 = u.ex.subs.length := ⟨_, rfl⟩
      have HNS := Lib.hid hns
      rw [← hnl2] at d3' HEV
      have d0 := fun w' (h : Ext W5 w') => (HW.out.1.trans h).cell d0
      have d1 := fun w' (h : Ext W5 w') => (HW.out.1.trans h).cell d1
      have d2 := fun w' (h : Ext W5 w') => (HW.out.1.trans h).cell d2
      have d3' := fun w' (h : Ext W5 w') => (HW.out.1.trans h).cell d3'
      have v0 := fun w' (h : Ext W5 w') => (HW.out.1.trans h).cell v0
      have v1 := fun w' (h : Ext W5 w') => (HW.out.1.trans h).cell v1
      have v2 := fun w' (h : Ext W5 w') => (HW.out.1.trans h).cell v2
      have q3 := fun w' (h : Ext W5 w') => h.cell (HW.out.2.1.cell HQ3.out (by simpa using hne2))
      clear hq8 hr2 hu0 hu1 hvt hu hns hnl2
      go_upto_region 10 with fail
      refine wp_named ?_
      intro W6 hW6
      have hE56 : Ext W5 W6 := by rw [hW6]; exact alloc_ext _ _
      have x0 : ∀ w', Ext W6 w' → w'.cell? ⟨W5.heap.size, 0, none⟩ = some (.int .i64 (vn : Int)) := fun w' h => h.cell (by rw [hW6]; simp [go_sem])
      have x1 : ∀ w', Ext W6 w' → w'.cell? ⟨W5.heap.size, 1, none⟩ = some (.int .u8 (p : Int)) := fun w' h => h.cell (by rw [hW6]; simp [go_sem])
      have x2 : ∀ w', Ext W6 w' → w'.cell? ⟨W5.heap.size, 2, none⟩ = some (.int .i64 m) := fun w' h => h.cell (by rw [hW6]; simp [go_sem])
      have x3 : ∀ w', Ext W6 w' → w'.cell? ⟨W5.heap.size, 3, none⟩ = some (.slice A8 nl2 cs8) := fun w' h => h.cell (by rw [hW6]; simp [go_sem])
      have q3 := fun w' (h : Ext W6 w') => q3 w' (hE56.trans h)
      have v0 := fun w' (h : Ext W6 w') => v0 w' (hE56.trans h)
      have v1 := fun w' (h : Ext W6 w') => v1 w' (hE56.trans h)
      have v2 := fun w' (h : Ext W6 w') => v2 w' (hE56.trans h)
      have hev2 := HEV.out W6 hE56 (HW.out.2.2.1.ext hE56)
      unfold nvVal EvalR at hev2
      dsimp only at hev2
      have HE6 := Lib.hid hE56
      have hR6 := Ext.refl W6
      clear hW6 hE56 d0 d1 d2 d3' hR5 HEV
      obtain ⟨bu, hbu⟩ : ∃ b, b = W5.heap.size := ⟨_, rfl⟩
      rw [← hbu] at x0 x1 x2 x3 ⊢
      clear hbu
      go_upto_region 11 with ((with_reducible refine hev2.mono ?_); rintro e W7 ⟨rfl, e7⟩)
      have x0 := fun w' (h : Ext W7 w') => x0 w' (e7.trans h)
      have q3 := fun w' (h : Ext W7 w') => q3 w' (e7.trans h)
      have v0 := fun w' (h : Ext W7 w') => v0 w' (e7.trans h)
      have v1 := fun w' (h : Ext W7 w') => v1 w' (e7.trans h)
      have v2 := fun w' (h : Ext W7 w') => v2 w' (e7.trans h)
      have HE7 := Lib.hid (HE6.out.trans e7)
      have hR7 := Ext.refl W7
      clear hev2 e7 x1 x2 x3 hR6
      go_upto_region 12 with fail
      refine wp_named ?_
      intro W8 hW8
      have hE78 : Ext W7 W8 := by rw [hW8]; exact alloc_ext _ _
      have z1 : ∀ w', Ext W8 w' → w'.cell? ⟨W7.heap.size, 1, none⟩ = some (.int .i64 lo) := fun w' h => h.cell (by rw [hW8]; simp [go_sem])
      have z2 : ∀ w', Ext W8 w' → w'.cell? ⟨W7.heap.size, 2, none⟩ = some (.int .i64 hi2) := fun w' h => h.cell (by rw [hW8]; simp [go_sem])
      have x0 := fun w' (h : Ext W8 w') => x0 w' (hE78.trans h)
      have hE58 := HE7.out.trans hE78
      have h85 := HW.out.2.2.1.ext hE58
      have h86 := HW.out.2.2.2.ext hE58
      have HE8 := Lib.hid (And.intro (HW.out.1.trans hE58) (And.intro (grown_trans HW.out.2.1 (grown_of_ext hE58 _)) (And.intro h85 h86)))
      have hR8 := Ext.refl W8
      clear hW8 hE78 hE58 h85 h86 q3 v0 v1 v2 hR7
      obtain ⟨bw, hbw⟩ : ∃ b, b = W7.heap.size := ⟨_, rfl⟩
      rw [← hbw] at z1 z2 ⊢
      clear hbw
      cases is2 with
      | false =>
        have HR : Hid (r = (afrm, ys, false)) := Lib.hid (by rw [HR0.out, HP.out, HPS.out, HPU.out]; simp)
        clear x0
        go_upto_region 13 with fail
        clear z1 z2
        go_wp2_with (first
          | (with_reducible refine wpList_load_spot rfl _ rfl d5 rfl HE8.out.2.2.1 hm ?_)
          | (with_reducible refine wpList_store_spot rfl _ _ rfl d6 rfl rfl HE8.out.2.2.2 (by omega) hm ?_; intro w8 h8 g8))
        refine bodyPost_ret (results_cell_tmp rfl _ _ d6 93 _ (0, 0) _ (by simp [Act.put]) h8 Tryd.underlying93 rfl (spot_info hm)) rfl ?_
        exact ⟨by rw [HR.out]; rfl, Below.grown HE8.out.1 g8 (HE8.out.1).size (fun k hk => by cases hk; rw [HDW.out]; exact HD.out.1)⟩
      | true =>
      by_cases glo : n2 < lo
      · have HR : Hid (r = (afrm, ys, false)) := Lib.hid (by rw [HR0.out, HP.out, HPS.out, HPU.out, if_pos (.inr (.inl glo))])
        clear x0
        go_upto_region 13 with fail
        clear z1 z2
        go_wp2_with (first
          | (with_reducible refine wpList_load_spot rfl _ rfl d5 rfl HE8.out.2.2.1 hm ?_)
          | (with_reducible refine wpList_store_spot rfl _ _ rfl d6 rfl rfl HE8.out.2.2.2 (by omega) hm ?_; intro w8 h8 g8))
        refine bodyPost_ret (results_cell_tmp rfl _ _ d6 93 _ (0, 0) _ (by simp [Act.put]) h8 Tryd.underlying93 rfl (spot_info hm)) rfl ?_
        exact ⟨by rw [HR.out]; rfl, Below.grown HE8.out.1 g8 (HE8.out.1).size (fun k hk => by cases hk; rw [HDW.out]; exact HD.out.1)⟩
      by_cases ghi : hi2 < n2
      · have HR : Hid (r = (afrm, ys, false)) := Lib.hid (by rw [HR0.out, HP.out, HPS.out, HPU.out, if_pos (.inr (.inr ghi))])
        clear x0
        go_upto_region 13 with fail
        clear z1 z2
        go_wp2_with (first
          | (with_reducible refine wpList_load_spot rfl _ rfl d5 rfl HE8.out.2.2.1 hm ?_)
          | (with_reducible refine wpList_store_spot rfl _ _ rfl d6 rfl rfl HE8.out.2.2.2 (by omega) hm ?_; intro w8 h8 g8))
        refine bodyPost_ret (results_cell_tmp rfl _ _ d6 93 _ (0, 0) _ (by simp [Act.put]) h8 Tryd.underlying93 rfl (spot_info hm)) rfl ?_
        exact ⟨by rw [HR.out]; rfl, Below.grown HE8.out.1 g8 (HE8.out.1).size (fun k hk => by cases hk; rw [HDW.out]; exact HD.out.1)⟩
      have HP2 : Hid (putsU vars ys ups ys = putsU vars ys (ups.drop (i + 1)) (cur.set vn n2)) := Lib.hid (by rw [HP.out, HPS.out, HPU.out, if_neg (by simp; omega)])
      go_upto_region 14 with fail
      have hv16 : (vn : Int) < 16 := by omega
      have s6 := cell_of_blk HE8.out.2.2.2 (1 + vn) (u := .int .i64 (cur[vn])) (by rw [Nat.add_comm, List.getElem?_toArray]; unfold spotL; rw [List.getElem?_cons_succ, List.map_append, List.getElem?_append_left (by rw [List.length_map]; exact hvy)]; simp [hvy])
      have t6 := free_of_blk HE8.out.2.2.2 (1 + vn)
      clear z1 z2
      go_wp2
      have hg9 := grown_setK W8 d6 (1 + vn) (.int .i64 n2)
      refine ⟨⟨i + 1, cur.set vn n2, by go_num, hlt, by rw [List.length_set]; exact hcl, HP2, Lib.hid ⟨Below.grown HE8.out.1 hg9 HE8.out.1.size (fun k hk => by cases hk; rw [HDW.out]; exact HD.out.1), grown_trans HE8.out.2.1 hg9, SpotB.grown HE8.out.2.2.1 hg9 HD.out.2.1, HE8.out.2.2.2.set hvy n2⟩⟩, ?_⟩
      simp [intOf]; omega
    · have hie : i = ups.length := by omega
      subst hie
      have hlt2 : ¬ (ups.length : Int) < (ups.length : Int) := by omega
      have HR : Hid (r = (adst, cur, true)) := Lib.hid (by rw [HR0.out, HP.out, List.drop_length]; rfl)
      go_upto_region 16 with fail
      have hcm : cur.length ≤ 16 := by omega
      go_wp2_with (first
        | (with_reducible refine wpList_load_spot rfl _ rfl d6 rfl HW.out.2.2.2 hcm ?_)
        | (with_reducible refine wpList_store_spot rfl _ _ rfl d6 rfl rfl HW.out.2.2.2 hcm hcm ?_; intro w9 h9 g9))
      refine bodyPost_ret (results_cell_tmp rfl _ _ d6 93 _ (0, 0) _ (by simp [Act.put]) h9 Tryd.underlying93 rfl (spot_info hcm)) rfl ?_
      exact ⟨by rw [HR.out]; rfl, Below.grown HW.out.1 g9 HW.out.1.size (fun k hk => by cases hk; rw [HDW.out]; exact HD.out.1)⟩
end Go.Proofs.YtggffdkgfgdaoaaDoor
