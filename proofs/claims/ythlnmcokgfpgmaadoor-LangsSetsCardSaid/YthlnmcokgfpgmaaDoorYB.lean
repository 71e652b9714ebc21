/- acceptors: classes of states whose names are strings of bytes: plain laws. acceptors: Dfa.refine 54. -/
import Derived.Test.YthlnmcokgfpgmaaDoorYA
import Derived.Test.YthlnmcokgfpgmaaDoorZV
import Derived.Test.YthlnmcokgfpgmaaDoorZD
import Derived.Test.YthlnmcokgfpgmaaDoorZE
import Derived.Laws.BytesArg
import Derived.StringKeys
import Derived.Deep.CutBlock
namespace Go.Proofs.YthlnmcokgfpgmaaDoor
open Go.RowKit Go.Maps
set_option linter.unusedVariables false
set_option linter.unusedSimpArgs false

/-! ### Keys that are strings of bytes -/
def strOK (k : Nat) (x : List Int) : Prop := x.length = 17 ∧ (∀ z ∈ x, 0 ≤ z ∧ z < 256) ∧ x.drop (k + 1) = List.replicate (16 - k) 0
open Classical in
noncomputable def strV (k : Nat) (x : List Int) : Value := if strOK k x then .string (strOfNums (x.take (k + 1))) else rowV x
theorem strV_ok {k : Nat} {x : List Int} (h : strOK k x) : strV k x = .string (strOfNums (x.take (k + 1))) := by unfold strV; rw [if_pos h]
theorem u8_inj {a b : Int} (ha : 0 ≤ a ∧ a < 256) (hb : 0 ≤ b ∧ b < 256) (h : UInt8.ofNat a.toNat = UInt8.ofNat b.toNat) : a = b := by
  have h1 := congrArg UInt8.toNat h
  simp only [UInt8.toNat_ofNat'] at h1
  have e1 : a.toNat % 2 ^ 8 = a.toNat := Nat.mod_eq_of_lt (by omega)
  have e2 : b.toNat % 2 ^ 8 = b.toNat := Nat.mod_eq_of_lt (by omega)
  rw [e1, e2] at h1
  omega
theorem strOf_inj : ∀ {xs ys : List Int}, (∀ z ∈ xs, 0 ≤ z ∧ z < 256) → (∀ z ∈ ys, 0 ≤ z ∧ z < 256) → xs.map (fun n : Int => UInt8.ofNat n.toNat) = ys.map (fun n : Int => UInt8.ofNat n.toNat) → xs = ys
  | [], [], _, _, _ => rfl
  | [], y :: ys, _, _, h => by simp at h
  | x :: xs, [], _, _, h => by simp at h
  | x :: xs, y :: ys, h1, h2, h => by
    simp only [List.map_cons, List.cons.injEq] at h
    rw [u8_inj (h1 x (by simp)) (h2 y (by simp)) h.1, strOf_inj (fun z hz => h1 z (by simp [hz])) (fun z hz => h2 z (by simp [hz])) h.2]
theorem strNums_inj {xs ys : List Int} (h1 : ∀ z ∈ xs, 0 ≤ z ∧ z < 256) (h2 : ∀ z ∈ ys, 0 ≤ z ∧ z < 256) (h : strOfNums xs = strOfNums ys) : xs = ys := by
  refine strOf_inj h1 h2 ?_
  rw [← strOfNums_data, ← strOfNums_data, h]
theorem key9 (k : Nat) : KeyEnc Tryd.prog 9 (strV k) (strOK k) where
  law := string_keyed Tryd.underlying9
  read x hx := by
    rw [strV_ok hx]
    refine ⟨_, WideMaps.keyOf_string_mk Tryd.underlying9 ?_⟩
    rw [strOfNums_size]
    have := hx.1
    have h2 : (x.take (k + 1)).length ≤ x.length := by rw [List.length_take]; omega
    unfold maxLen; omega
  inj x y h := by
    by_cases hx : strOK k x
    · by_cases hy : strOK k y
      · rw [strV_ok hx, strV_ok hy] at h
        injection h with h
        have h1 := strNums_inj (fun z hz => hx.2.1 z (List.mem_of_mem_take hz)) (fun z hz => hy.2.1 z (List.mem_of_mem_take hz)) h
        rw [← List.take_append_drop (k + 1) x, ← List.take_append_drop (k + 1) y, h1, hx.2.2, hy.2.2]
      · rw [strV_ok hx] at h
        unfold strV at h
        rw [if_neg hy] at h
        unfold rowV at h
        cases h
    · by_cases hy : strOK k y
      · rw [strV_ok hy] at h
        unfold strV at h
        rw [if_neg hx] at h
        unfold rowV at h
        cases h
      · unfold strV at h
        rw [if_neg hx, if_neg hy] at h
        exact key130.inj x y h

/-! ### Classes of the states that are reached -/
def rowsM (d : Dfa) : List (List Int) := rowsP d (noneD d) (pairsL d (noneD d))
def resC (d : Dfa) (cls : List Int) : List Int := (pairsL d (noneD d)).map (fun r => cls.getD r.p 0)
def byX (cls row : List Int) (s x : Nat) : List Int := cls.getD s 0 :: (row.take x).map (fun t => cls.getD t.toNat 0)
def clsA (d : Dfa) : List Int := (List.range d.n).map (fun s => if d.ac s then 1 else 0)
theorem clsA_len (d : Dfa) : (clsA d).length = d.n := by unfold clsA; simp
theorem clsA_at {d : Dfa} {s : Nat} (h : s < d.n) : (clsA d)[s]? = some (if d.ac s then 1 else 0) := by unfold clsA; rw [List.getElem?_map, List.getElem?_range h]; rfl
theorem clsA_val (d : Dfa) : ∀ z ∈ clsA d, 0 ≤ z ∧ z < 256 := fun z hz => by
  unfold clsA at hz
  obtain ⟨s, _, rfl⟩ := List.mem_map.1 hz
  split <;> omega
theorem rowsM_len (d : Dfa) : (rowsM d).length = (pairsL d (noneD d)).length := by unfold rowsM rowsP; simp
theorem resC_len (d : Dfa) (cls : List Int) : (resC d cls).length = (pairsL d (noneD d)).length := by unfold resC; simp
theorem byX_zero (cls row : List Int) (s : Nat) : byX cls row s 0 = [cls.getD s 0] := rfl
theorem byX_succ {cls row : List Int} {s x : Nat} (h : x < row.length) : byX cls row s (x + 1) = byX cls row s x ++ [cls.getD row[x].toNat 0] := by
  unfold byX
  rw [List.take_succ_eq_append_getElem h, List.map_append]; rfl
theorem byX_len {cls row : List Int} {s x : Nat} (h : x ≤ row.length) : (byX cls row s x).length = x + 1 := by unfold byX; simp; omega
theorem cls_getD {cls : List Int} (h : ∀ z ∈ cls, 0 ≤ z ∧ z < 256) (s : Nat) : 0 ≤ cls.getD s 0 ∧ cls.getD s 0 < 256 := by
  rw [List.getD_eq_getElem?_getD]
  cases hc : cls[s]? with
  | none => simp
  | some z => exact h z (List.mem_of_getElem? hc)
theorem byX_val {cls row : List Int} {s x : Nat} (h : ∀ z ∈ cls, 0 ≤ z ∧ z < 256) : ∀ z ∈ byX cls row s x, 0 ≤ z ∧ z < 256 := fun z hz => by
  unfold byX at hz
  rcases List.mem_cons.1 hz with rfl | hz
  · exact cls_getD h _
  · obtain ⟨t, _, rfl⟩ := List.mem_map.1 hz
    exact cls_getD h _
section
variable {d : Dfa} (hg : Good d)
include hg
theorem lst_ok : OkP d (noneD d) (pairsL d (noneD d)) := okP_all hg (good_none hg) rfl
theorem lst_len : (pairsL d (noneD d)).length ≤ 256 := by
  have h1 := (lst_ok hg).bound
  have h2 : (noneD d).n = 1 := rfl
  rw [h2, Nat.mul_one] at h1
  exact Nat.le_trans h1 hg.size.2
omit hg in
theorem lst_row {i : Nat} {r : Rch} (hr : (pairsL d (noneD d))[i]? = some r) (hi : i < (rowsM d).length) : (rowsM d)[i] = numsP d (noneD d) (pairsL d (noneD d)) r := by
  have h1 : (rowsM d)[i]? = some (numsP d (noneD d) (pairsL d (noneD d)) r) := by unfold rowsM rowsP; rw [List.getElem?_map, hr]; rfl
  rw [List.getElem?_eq_getElem hi] at h1
  exact Option.some.inj h1
theorem lst_q {i : Nat} {r : Rch} (hr : (pairsL d (noneD d))[i]? = some r) : r.q = 0 := none_q (lst_ok hg) r (List.mem_of_getElem? hr)
theorem lst_p {i : Nat} {r : Rch} (hr : (pairsL d (noneD d))[i]? = some r) : r.p < d.rows.length := ((lst_ok hg).inn r (List.mem_of_getElem? hr)).1
theorem lst_inj {i j : Nat} {r r' : Rch} (hr : (pairsL d (noneD d))[i]? = some r) (hr' : (pairsL d (noneD d))[j]? = some r') (h : r.p = r'.p) : i = j := by
  have hn := (lst_ok hg).nodup
  have h1 : ((pairsL d (noneD d)).map Rch.key)[i]? = some r.key := by rw [List.getElem?_map, hr]; rfl
  have h2 : ((pairsL d (noneD d)).map Rch.key)[j]? = some r.key := by
    rw [List.getElem?_map, hr']
    simp only [Option.map_some, Option.some.injEq]
    unfold Rch.key
    rw [h, lst_q hg hr, lst_q hg hr']
  have hi := (List.getElem?_eq_some_iff.1 h1).1
  exact (List.getElem?_inj hi hn).1 (h1.trans h2.symm)
theorem lst_to {i x : Nat} {r : Rch} (hr : (pairsL d (noneD d))[i]? = some r) (hx : x < d.k) : ∃ z, (pairsL d (noneD d))[idxP (pairsL d (noneD d)) (stepP d (noneD d) r x)]? = some z ∧ z.p = d.to r.p x := by
  obtain ⟨z, h1, h2⟩ := idxP_get hg (good_none hg) rfl hr hx
  exact ⟨z, h1, congrArg Prod.fst h2⟩
theorem key_by (cls : List Int) {i : Nat} {r : Rch} (hr : (pairsL d (noneD d))[i]? = some r) (hi : i < (rowsM d).length) (hp : r.p < d.rows.length) : keyR (resC d cls) (rowsM d)[i] i = byX cls d.rows[r.p] r.p d.k ++ List.replicate (16 - d.k) 0 := by
  rw [lst_row hr hi]
  have hl : (numsP d (noneD d) (pairsL d (noneD d)) r).length = d.k := by simp [numsP]
  unfold keyR keyX byX
  rw [hl, List.take_of_length_le (Nat.le_of_eq hl), List.take_of_length_le (Nat.le_of_eq (hg.row hp))]
  congr 1
  congr 1
  · unfold resC
    rw [List.getD_eq_getElem?_getD, List.getElem?_map, hr]; rfl
  · refine List.ext_getElem (by rw [List.length_map, List.length_map, hl, hg.row hp]) fun x h1 h2 => ?_
    rw [List.getElem_map, List.getElem_map]
    rw [List.length_map, hg.row hp] at h2
    have hx : x < d.rows[r.p].length := by rw [hg.row hp]; exact h2
    rw [(hg.cell hp hx).1]
    obtain ⟨z, hz, hzp⟩ := lst_to hg hr h2
    have hnum : (numsP d (noneD d) (pairsL d (noneD d)) r)[x]'(by rw [hl]; exact h2) = (idxP (pairsL d (noneD d)) (stepP d (noneD d) r x) : Int) := by unfold numsP; rw [List.getElem_map, List.getElem_range]
    rw [hnum, Int.toNat_natCast, Int.toNat_natCast]
    unfold resC
    rw [List.getD_eq_getElem?_getD, List.getElem?_map, hz, ← hzp]; rfl
theorem key_ok (cls : List Int) (hc : ∀ z ∈ cls, 0 ≤ z ∧ z < 256) {i : Nat} {r : Rch} (hr : (pairsL d (noneD d))[i]? = some r) (hi : i < (rowsM d).length) (hp : r.p < d.rows.length) : strOK d.k (keyR (resC d cls) (rowsM d)[i] i) ∧ strV d.k (keyR (resC d cls) (rowsM d)[i] i) = .string (strOfNums (byX cls d.rows[r.p] r.p d.k)) := by
  rw [key_by hg cls hr hi hp]
  have hl : (byX cls d.rows[r.p] r.p d.k).length = d.k + 1 := byX_len (Nat.le_of_eq (hg.row hp).symm)
  have hk := hg.kk
  have hok : strOK d.k (byX cls d.rows[r.p] r.p d.k ++ List.replicate (16 - d.k) 0) := by
    refine ⟨by rw [List.length_append, hl, List.length_replicate]; omega, fun z hz => ?_, by rw [List.drop_append_of_le_length (Nat.le_of_eq hl.symm), List.drop_of_length_le (Nat.le_of_eq hl)]; rfl⟩
    rcases List.mem_append.1 hz with hz | hz
    · exact byX_val hc z hz
    · rw [(List.mem_replicate.1 hz).2]; omega
  refine ⟨hok, ?_⟩
  rw [strV_ok hok, List.take_append_of_le_length (Nat.le_of_eq hl.symm), List.take_of_length_le (Nat.le_of_eq hl)]
end
/-- The next classes: those of the first i states of the order are laid. -/
def nxF (d : Dfa) (l : List Int) : Nat → List Int
  | 0 => List.replicate d.n 0
  | i + 1 => match (pairsL d (noneD d))[i]? with
    | some r => (nxF d l i).set r.p (l.getD i 0)
    | none => nxF d l i
theorem nxF_len (d : Dfa) (l : List Int) : ∀ i, (nxF d l i).length = d.n
  | 0 => by simp [nxF]
  | i + 1 => by
    unfold nxF
    split
    · rw [List.length_set, nxF_len d l i]
    · exact nxF_len d l i
theorem nxF_val {d : Dfa} {l : List Int} (h : ∀ z ∈ l, 0 ≤ z ∧ z < 256) : ∀ i, ∀ z ∈ nxF d l i, 0 ≤ z ∧ z < 256
  | 0, z, hz => by
    unfold nxF at hz
    rw [(List.mem_replicate.1 hz).2]; omega
  | i + 1, z, hz => by
    unfold nxF at hz
    split at hz
    · rcases List.mem_or_eq_of_mem_set hz with hz | rfl
      · exact nxF_val h i z hz
      · exact cls_getD h _
    · exact nxF_val h i z hz
theorem nxF_set {d : Dfa} {l : List Int} {i : Nat} {r : Rch} (hr : (pairsL d (noneD d))[i]? = some r) {x : Int} (hx : l[i]? = some x) : (nxF d l i).set r.p x = nxF d l (i + 1) := by
  have h : nxF d l (i + 1) = (nxF d l i).set r.p (l.getD i 0) := by
    conv => lhs; unfold nxF
    rw [hr]
  rw [h, List.getD_eq_getElem?_getD, hx]; rfl
theorem nxF_get {d : Dfa} (hg : Good d) (l : List Int) : ∀ (i j : Nat) (r : Rch), i ≤ (pairsL d (noneD d)).length → j < i → (pairsL d (noneD d))[j]? = some r → (nxF d l i).getD r.p 0 = l.getD j 0
  | 0, j, r, _, h, _ => by omega
  | i + 1, j, r, hi, hj, hr => by
    have hri : (pairsL d (noneD d))[i]? = some (pairsL d (noneD d))[i] := List.getElem?_eq_getElem (by omega)
    have hu : nxF d l (i + 1) = (nxF d l i).set (pairsL d (noneD d))[i].p (l.getD i 0) := by
      conv => lhs; unfold nxF
      rw [hri]
    rw [hu]
    by_cases hji : j = i
    · subst hji
      have e : (pairsL d (noneD d))[j] = r := by rw [hri] at hr; exact Option.some.inj hr
      rw [e, List.getD_eq_getElem?_getD, List.getElem?_set_self (by rw [nxF_len]; exact lst_p hg hr)]; rfl
    · have hne : (pairsL d (noneD d))[i].p ≠ r.p := fun e => hji (lst_inj hg hr hri e.symm)
      rw [List.getD_eq_getElem?_getD, List.getElem?_set_ne hne, ← List.getD_eq_getElem?_getD]
      exact nxF_get hg l i j r (by omega) (by omega) hr
theorem nxF_res {d : Dfa} (hg : Good d) {l : List Int} (hl : l.length = (pairsL d (noneD d)).length) : resC d (nxF d l (pairsL d (noneD d)).length) = l := by
  refine List.ext_getElem (by rw [resC_len, hl]) fun j h1 h2 => ?_
  have hj : j < (pairsL d (noneD d)).length := by omega
  have e : (resC d (nxF d l (pairsL d (noneD d)).length))[j]? = some ((nxF d l (pairsL d (noneD d)).length).getD (pairsL d (noneD d))[j].p 0) := by
    unfold resC
    rw [List.getElem?_map, List.getElem?_eq_getElem hj]; rfl
  rw [nxF_get hg l _ j _ (Nat.le_refl _) hj (List.getElem?_eq_getElem hj), List.getD_eq_getElem?_getD, List.getElem?_eq_getElem h2, List.getElem?_eq_getElem h1] at e
  exact Option.some.inj e
theorem nxF_map_set {d : Dfa} {l : List Int} {i : Nat} {r : Rch} (hr : (pairsL d (noneD d))[i]? = some r) {x : Int} (hx : l[i]? = some x) : ((nxF d l i).map (Value.int .i64)).set r.p (.int .i64 x) = (nxF d l (i + 1)).map (.int .i64) := by
  rw [← nxF_set hr hx, List.map_set]
theorem resC_start {d : Dfa} (hg : Good d) : resC d (clsA d) = clsO (fun x _ => x) d (noneD d) := by
  unfold resC clsO
  refine List.map_congr_left fun r hr => ?_
  obtain ⟨i, hi⟩ := List.getElem?_of_mem hr
  rw [List.getD_eq_getElem?_getD, clsA_at (show r.p < d.n from lst_p hg hi)]; rfl
theorem rowsM_ok {d : Dfa} (hg : Good d) : RowsOk (rowsM d) := rowsOk_pairs hg (good_none hg) rfl (by have := lst_len hg; omega)
theorem resC_ok {d : Dfa} (hg : Good d) : ClsOk (rowsM d).length (resC d (clsA d)) 0 := by rw [resC_start hg]; exact clsO_ok _ _ _
theorem next_val {rows : List (List Int)} {cl : List Int} (h : rows.length ≤ 256) : ∀ z ∈ nextR rows cl, 0 ≤ z ∧ z < 256 := fun z hz => by
  unfold nextR at hz
  obtain ⟨k, hk, rfl⟩ := List.mem_map.1 hz
  have := idxN_lt (mem_namesOf.2 hk)
  have h2 := namesR_le rows cl
  unfold namesR at h2 ⊢
  omega
theorem u8_wrap {z : Int} (h : 0 ≤ z ∧ z < 256) : IntKind.u8.wrap z = z := by
  unfold IntKind.wrap
  simp [IntKind.bits, IntKind.signed]
  omega
/-- What refine answers. -/
def RefM (d : Dfa) (w : World) (e : Ending) (w' : World) : Prop := ∃ v cls many c, e = .returned (.tuple #[v, .int .i64 (many : Nat)]) ∧ IntsC w' v cls c ∧ cls.length = d.n ∧ (∀ z ∈ cls, 0 ≤ z ∧ z < 256) ∧ RefR (rowsM d) (clsO (fun x _ => x) d (noneD d)) 0 (resC d cls, many) ∧ Ext w w'
theorem wpList_conv {P : Program} {ops : Array Oper} {rest : List Oper} {o : Oper} {a : Act} {w : World} {Q : Exit → Act → World → Prop} (hg : o.guard = none) (s t : TypeId) (x : Operand) (ho : o.op = .convert s t x) (vx v : Value) (hx : a.eval x = vx)
    (hrun : (convert s t vx).run P w = .ok v w) (h : wpList P ops Q rest (a.put o.dst v) w) : wpList P ops Q (o :: rest) a w := by
  refine wpList_plain hg fun K hK => ?_
  unfold Oper.wp
  simp only [execOp, ho, hx]
  simp only [Sem.run_bind, hrun, Result.andThen_ok, Sem.run_pure]
  exact hK _ _ h
theorem conv_bytes {W : World} {base g n c : Nat} {xs : List Int} (h : W.ownsRow base 5 1 (.slice (some ⟨g, 0, none⟩) n c) n (xs.map (.int .u8))) (hn : xs.length = n) : (convert 56 9 (.slice (some ⟨g, 0, none⟩) n c)).run Tryd.prog W = .ok (.string (strOfNums xs)) W := by
  refine run_convert_bytes_arg W 56 5 Tryd.underlying56 Tryd.underlying5 g 0 n c xs hn (fun i hi => ?_) 9 Tryd.underlying9
  have := h.cells (g := g) rfl i (.int .u8 (xs.getD i 0)) (by
    rw [List.getElem?_map, List.getD_eq_getElem?_getD, List.getElem?_eq_getElem (by omega)]; rfl)
  rw [Addr.add_lit] at this
  exact this
theorem u8_info : (Tryd.prog.info? 5).map (fun i => (i.zero, i.size, i.bytes)) = some (some (.int .u8 0), 1, 1) := by kernel_rfl
theorem one_u8 (x : Int) : ∀ u ∈ [Value.int .u8 x], u.oneCell' = true := by intro u hu; simp at hu; subst hu; rfl
end Go.Proofs.YthlnmcokgfpgmaaDoor

namespace Go.Proofs.YthlnmcokgfpgmaaDoor
open Go.RowKit Go.Maps
set_option linter.unusedVariables false
set_option linter.unusedSimpArgs false
attribute [local go_sem] Oper.quietV quietV Oper.gives givesV ext_refl_iff ext_alloc_iff ext_drew_iff ext_drewN_iff
theorem names_ok {d : Dfa} (hg : Good d) (cls : List Int) (hc : ∀ z ∈ cls, 0 ≤ z ∧ z < 256) {i : Nat} {r : Rch} (hr : (pairsL d (noneD d))[i]? = some r) :
    ∃ key, (keysR (rowsM d) (resC d cls))[i]? = some key ∧ strOK d.k key ∧ ∀ (hp : r.p < d.rows.length), strV d.k key = .string (strOfNums (byX cls d.rows[r.p] r.p d.k)) := by
  have hi : i < (rowsM d).length := by rw [rowsM_len]; exact (List.getElem?_eq_some_iff.1 hr).1
  have h := key_ok hg cls hc hr hi (lst_p hg hr)
  exact ⟨_, keysR_get hi, h.1, fun _ => h.2⟩
theorem int_wrap_i64 {x : Int} (h : 0 ≤ x ∧ x ≤ 100000) : IntKind.i64.wrap x = x := by rw [IntKind.wrap_i64]; omega

set_option maxRecDepth 100000 in
set_option maxHeartbeats 16000000 in
theorem refM_any (w : World) (dv ov : Value) (d : Dfa) (co : Nat) (hd : DfaV w dv d) (hg : Good d) (ho : IntsC w ov (numI (pairsL d (noneD d))) co) : Calls Tryd.prog 54 #[dv, ov] w (RefM d w) := by
  obtain ⟨rv, cr, av, ca, rfl, hr, ha⟩ := hd
  obtain ⟨Ar, vr, rfl, _, _, _, _, hrm⟩ := id hr
  obtain ⟨Aa, rfl, hac, _, ham⟩ := id ha
  obtain ⟨Ao, rfl, hoc, _, hom⟩ := id ho
  unfold lenMax at hrm ham hom
  obtain ⟨i5, hi5, hz5, hs5, hb5⟩ := info_parts u8_info
  have hkk := hg.kk
  have hs1 := hg.size
  have hnl : (numI (pairsL d (noneD d))).length = (pairsL d (noneD d)).length := by unfold numI; simp
  have hll := lst_len hg
  have hlp : 1 ≤ (pairsL d (noneD d)).length := (lst_ok hg).pos
  rw [hnl]
  clear hom
  have HK := Lib.hid hg
  have HRO := Lib.hid (rowsM_ok hg)
  have HRL := Lib.hid (rowsM_len d)
  have HCO := Lib.hid (resC_ok hg)
  have HRS := Lib.hid (resC_start hg)
  have hmk := mk_ints d.rows.length (by omega)
  have hmm := @run_makeMap Tryd.prog
  have HNL := Lib.hid hnl
  clear hnl
  go_enter Tryd.func54, Tryd.ntmps54
  go_upto_region 1 with fail
  refine wp_named ?_
  intro W1 hW1
  have hE1 : Ext w W1 := by rw [hW1]; exact (Ext.refl _).alloc _
  have k1 : ∀ w', Ext W1 w' → w'.cell? ⟨w.heap.size, 1, none⟩ = some (.slice Ar d.rows.length cr) := fun w' h => h.cell (by rw [hW1]; simp [go_sem])
  have k2 : ∀ w', Ext W1 w' → w'.cell? ⟨w.heap.size, 2, none⟩ = some (.slice Aa d.acc.length ca) := fun w' h => h.cell (by rw [hW1]; simp [go_sem])
  clear hW1
  generalize w.heap.size = b1 at *
  have hEr := Ext.refl W1
  go_upto_region 2 with fail
  refine wp_named ?_
  intro W2 hW2
  have hO2 : OwnL W1 W2 [.row 3 1 (.slice (some ⟨W1.heap.size, 0, none⟩) d.rows.length d.rows.length) d.rows.length (nxC d.rows.length (clsA d) 0)] := by
    rw [hW2]
    exact (OwnL.nil (Ext.refl W1)).add (alloc_ext _ _) (A := .row 3 1 (.slice (some ⟨W1.heap.size, 0, none⟩) d.rows.length d.rows.length) d.rows.length (List.replicate d.rows.length (.int .i64 0))) (own_new _ _ 3 _ (by omega))
  clear hW2 hEr
  generalize W1.heap.size = gc at *
  go_upto_block 0 with fail
  go_cut [4] (fun cv wx => IntsC wx cv (clsA d) d.rows.length ∧ Ext W1 wx)
  case first =>
    go_wp2
    go_loopw [22] (fun iv wr => ∃ n : Nat, iv = .int .i64 n ∧ n ≤ d.rows.length ∧ OwnL W1 wr [.row 3 1 (.slice (some ⟨gc, 0, none⟩) d.rows.length d.rows.length) d.rows.length (nxC d.rows.length (clsA d) n)]) (fun iv _ => d.rows.length - (intOf iv).toNat)
    case atStart => exact ⟨0, rfl, Nat.zero_le _, hO2⟩
    case round =>
      clear hO2
      obtain ⟨n, rfl, hn, hO⟩ := hrel
      obtain ⟨W4, hW4⟩ : ∃ W, W = wr := ⟨_, rfl⟩; subst hW4
      by_cases hnl : n < d.rows.length
      · obtain ⟨ba, oa, hAa, ca0⟩ := HK.out.acc_at (hac.ext (hE1.trans hO.ext)) hnl
        subst hAa
        have hpa : n < d.acc.length := by rw [HK.out.acc]; exact hnl
        have hpaI : (n : Int) < (d.acc.length : Int) := by omega
        have hnI : (n : Int) < (d.rows.length : Int) := by omega
        have hat := clsA_at (d := d) (s := n) hnl
        have hlen : (clsA d).length = d.rows.length := clsA_len d
        have kk2 := k2 W4 hO.ext
        cases hx : d.ac n with
        | false =>
          rw [hx] at hat ca0
          have hst := nxC_same (n := d.rows.length) hlen hnl hat
          rw [hst] at hO
          have HOH := Lib.hid hO
          clear hx hat hst hO hlen
          go_wp2
          go_roundw
          case rel => exact ⟨n + 1, by go_num, by omega, HOH.out⟩
          case measure => simp [intOf]; omega
        | true =>
          rw [hx] at hat ca0
          have hst := nxC_set (n := d.rows.length) hlen hnl hat
          have s0 := cell_own hO 0 rfl (nxC_at hlen hnl)
          have sf := free_own (e := 3) hO 0 rfl n
          have hst2 := hO.store 0 rfl n (.int .i64 1)
          rw [if_pos rfl] at hst
          rw [hst] at hst2
          have HST := Lib.hid hst2
          clear hst2 hst hat hO hx hlen
          go_wp2
          go_roundw
          case rel => exact ⟨n + 1, by go_num, by omega, HST.out⟩
          case measure => simp [intOf]; omega
      · have hne : n = d.rows.length := by omega
        subst hne
        rw [nxC_all (show (clsA d).length = d.rows.length from clsA_len d)] at hO
        have hnn : (clsA d).length = d.rows.length := clsA_len d
        have hown : W4.ownsRow W1.heap.size 3 1 (.slice (some ⟨gc, 0, none⟩) d.rows.length d.rows.length) (clsA d).length ((clsA d).map (.int .i64)) := by rw [hnn]; exact hO.get 0 rfl
        have hint : IntsC W4 (.slice (some ⟨gc, 0, none⟩) d.rows.length d.rows.length) (clsA d) d.rows.length := by
          obtain ⟨c, A, hv, h1, h2, h3⟩ := ints_of_owns hown (by rw [hnn]; unfold lenMax; omega)
          injection hv with e1 _ e3
          subst e1 e3
          exact ⟨_, by rw [hnn], h1, by rw [hnn]; exact Nat.le_refl _, h3⟩
        have HF := Lib.hid (And.intro hint hO.ext)
        clear hO hown hint hnn
        go_wp2
        go_meet
        exact HF.out
  case rest =>
    obtain ⟨hc0, hE2⟩ := hcut
    obtain ⟨W3, hW3⟩ : ∃ W, W = wc := ⟨_, rfl⟩; subst hW3
    clear hO2
    go_wp2
    go_loopg [4, 5] ((pairsL d (noneD d)).length + 1) (fun gk cv mv wr => ∃ (cls : List Int) (many c : Nat), mv = .int .i64 (many : Int) ∧ gk + many = (pairsL d (noneD d)).length + 1 ∧ Hid (ClsOk (rowsM d).length (resC d cls) many) ∧ Hid (cls.length = d.rows.length ∧ ∀ z ∈ cls, 0 ≤ z ∧ z < 256) ∧ IntsC wr cv cls c ∧ Hid (∀ r, RefR (rowsM d) (resC d cls) many r → RefR (rowsM d) (resC d (clsA d)) 0 r) ∧ Ext W1 wr)
    case atStart => exact ⟨clsA d, 0, _, rfl, rfl, HCO, Lib.hid ⟨clsA_len d, clsA_val d⟩, hc0, Lib.hid (fun r h => h), hE2⟩
    case round =>
      clear hc0 hE2
      obtain ⟨cls, many, c, rfl, hgk, HC1, HCV, hc, hpend, hE⟩ := hrel
      obtain ⟨W2, hW2⟩ : ∃ W, W = wr := ⟨_, rfl⟩; subst hW2
      obtain ⟨Ac, rfl, hcc, _, hcm⟩ := id hc
      unfold lenMax at hcm
      rw [HCV.out.1]
      clear hcm
      go_upto_region 10 with fail
      refine wp_named ?_
      intro W3 hW3
      have hO3 : OwnL W2 W3 [.row 3 1 (.slice (some ⟨W2.heap.size + 1, 0, none⟩) d.rows.length d.rows.length) d.rows.length ((nxF d (nextR (rowsM d) (resC d cls)) 0).map (.int .i64)), .blk W2.heap.size (.map #[] 0)] := by
        rw [hW3]
        have h := ((OwnL.nil (Ext.refl W2)).add (alloc_ext W2 (.map #[] 0)) (A := .blk W2.heap.size (.map #[] 0)) ⟨Nat.le_refl _, heap_alloc_new _ _⟩).add (alloc_ext _ (.cells (Array.replicate d.rows.length (.int .i64 0)) 3)) (A := .row 3 1 (.slice (some ⟨(W2.alloc (.map #[] 0)).heap.size, 0, none⟩) d.rows.length d.rows.length) d.rows.length (List.replicate d.rows.length (.int .i64 0))) (own_new _ _ 3 _ (by omega))
        have e1 : (nxF d (nextR (rowsM d) (resC d cls)) 0).map (Value.int .i64) = List.replicate d.rows.length (.int .i64 0) := by unfold nxF; rw [List.map_replicate]; rfl
        rw [e1]
        simpa using h
      clear hW3
      generalize W2.heap.size + 1 = gn at *
      generalize W2.heap.size = gm at *
      have hm0 : MapOf (strV d.k) (strOK d.k) (.map #[] 0) (mapZ (namesOf ((keysR (rowsM d) (resC d cls)).take 0))) := MapOf.made _ _
      go_wp2
      go_loopw [40] (fun iv wr => ∃ (i : Nat) (om : Obj), iv = .int .i64 i ∧ i ≤ (pairsL d (noneD d)).length ∧ MapOf (strV d.k) (strOK d.k) om (mapZ (namesOf ((keysR (rowsM d) (resC d cls)).take i))) ∧ OwnL W2 wr [.row 3 1 (.slice (some ⟨gn, 0, none⟩) d.rows.length d.rows.length) d.rows.length ((nxF d (nextR (rowsM d) (resC d cls)) i).map (.int .i64)), .blk gm om]) (fun iv _ => (pairsL d (noneD d)).length - (intOf iv).toNat)
      case atStart => exact ⟨0, _, rfl, Nat.zero_le _, hm0, hO3⟩
      case round =>
        clear hm0 hO3
        obtain ⟨i, om, rfl, hi, hmo, hO⟩ := hrel
        obtain ⟨W4, hW4⟩ : ∃ W, W = wr := ⟨_, rfl⟩; subst hW4
        by_cases hil : i < (pairsL d (noneD d)).length
        · obtain ⟨r, hr0⟩ : ∃ r, (pairsL d (noneD d))[i]? = some r := ⟨_, List.getElem?_eq_getElem hil⟩
          have hrp := lst_p HK.out hr0
          obtain ⟨key, hkey, hkok, hkstr⟩ := names_ok HK.out cls HCV.out.2 hr0
          have hkstr := hkstr hrp
          have hnx : (nextR (rowsM d) (resC d cls))[i]? = some (idxN (namesOf ((keysR (rowsM d) (resC d cls)).take (i + 1))) key : Int) := next_at hkey
          have hset := nxF_map_set hr0 hnx
          have hnum : (numI (pairsL d (noneD d)))[i]? = some (r.p : Int) := by unfold numI; rw [List.getElem?_map, hr0]; rfl
          have hni : i < (numI (pairsL d (noneD d))).length := by rw [HNL.out]; exact hil
          obtain ⟨bo, oo, hAo, _, c1⟩ := (hoc.ext (hE1.trans (hE.trans hO.ext))).at_int hni
          subst hAo
          rw [show (numI (pairsL d (noneD d)))[i] = (r.p : Int) from by rw [List.getElem?_eq_getElem hni] at hnum; exact Option.some.inj hnum] at c1
          obtain ⟨bR, oR, uR, cR, hvR, _, c2, hiR⟩ := hr.at_ hrp
          injection hvR with hvR
          subst hvR
          have c2 := (hE1.trans (hE.trans hO.ext)).cell c2
          have hrl := HK.out.row hrp
          obtain ⟨AR, rfl, hiRc, _⟩ := id hiR
          rw [hrl] at c2
          have hcp : r.p < cls.length := by rw [HCV.out.1]; exact hrp
          obtain ⟨bc, oc, hAc, _, c3⟩ := (hcc.ext hO.ext).at_int hcp
          subst hAc
          have hcg : cls[r.p] = cls.getD r.p 0 := by simp [List.getD, hcp]
          have hcv := cls_getD HCV.out.2 r.p
          have hwr := u8_wrap hcv
          rw [hcg] at c3
          have hnf : r.p < (nxF d (nextR (rowsM d) (resC d cls)) i).length := by rw [nxF_len]; exact hrp
          have kk1 := k1 W4 (hE.trans hO.ext)
          have hrpI : (r.p : Int) < (d.rows.length : Int) := by omega
          have HB0 := Lib.hid (byX_zero cls d.rows[r.p] r.p)
          have HKEY := Lib.hid (And.intro hkey (And.intro hkok (And.intro hkstr (And.intro hset (And.intro hnf hr0)))))
          have HIR := Lib.hid hiR
          have HRW := Lib.hid hrl
          have HO := Lib.hid hO
          have HMO := Lib.hid hmo
          clear hkey hkok hkstr hset hnf hr0 hcp hni hcg hnum hnx hiR hiRc hrl hO hmo hcv
          generalize hcc0 : cls.getD r.p 0 = cc0 at *
          have HC0 := Lib.hid hcc0
          clear hcc0
          go_upto_region 14 with fail
          refine wp_named ?_
          intro W5 hW5
          have hO5 : OwnL W2 W5 [.row 5 1 (.slice (some ⟨W4.heap.size, 0, none⟩) 1 1) (0 + 1) ((byX cls d.rows[r.p] r.p 0).map (.int .u8)), .row 3 1 (.slice (some ⟨gn, 0, none⟩) d.rows.length d.rows.length) d.rows.length ((nxF d (nextR (rowsM d) (resC d cls)) i).map (.int .i64)), .blk gm om] := by
            rw [HB0.out, hW5]
            exact HO.out.add (alloc_ext W4 (.cells #[.int .u8 cc0] 5)) (A := .row 5 1 (.slice (some ⟨W4.heap.size, 0, none⟩) 1 1) 1 [.int .u8 cc0]) (World.ownsRow_lit (base := W4.heap.size) (e := 5) (size := 1) W4 #[.int .u8 cc0] 1 (Nat.le_refl _) (by unfold maxLen; omega) rfl)
          have e45 : Ext W4 W5 := by rw [hW5]; exact alloc_ext _ _
          have kk1 := e45.cell kk1
          have c2 := e45.cell c2
          clear hW5 c1 c3 hwr HC0 HB0 HO
          generalize W4.heap.size = g0 at *
          go_wp2
          go_loopw [11, 56] (fun nv xv wr => ∃ (x g c : Nat), xv = .int .i64 x ∧ x ≤ d.k ∧ nv = .slice (some ⟨g, 0, none⟩) (x + 1) c ∧ OwnL W2 wr [.row 5 1 nv (x + 1) ((byX cls d.rows[r.p] r.p x).map (.int .u8)), .row 3 1 (.slice (some ⟨gn, 0, none⟩) d.rows.length d.rows.length) d.rows.length ((nxF d (nextR (rowsM d) (resC d cls)) i).map (.int .i64)), .blk gm om]) (fun _ xv _ => d.k - (intOf xv).toNat)
          case atStart => exact ⟨0, g0, 1, rfl, Nat.zero_le _, rfl, hO5⟩
          case round =>
            clear hO5 kk1 c2 e45
            obtain ⟨x, g, c5, rfl, hx, rfl, hO⟩ := hrel
            obtain ⟨W6, hW6⟩ : ∃ W, W = wr := ⟨_, rfl⟩; subst hW6
            by_cases hxl : x < d.k
            · have hxI : (x : Int) < (d.k : Int) := by omega
              have hxr : x < d.rows[r.p].length := by rw [HRW.out]; exact hxl
              have hcell := HK.out.cell hrp hxr
              have hsucc := byX_succ (cls := cls) (s := r.p) hxr
              obtain ⟨AR2, hAR, hiRc2, _⟩ := HIR.out
              injection hAR with hAR
              subst hAR
              obtain ⟨bx, ox, hAx, _, cx⟩ := hiRc2.at_int hxr
              subst hAx
              rw [hcell.1] at cx hsucc
              have cx := (hE1.trans (hE.trans hO.ext)).cell cx
              have htp : d.to r.p x < cls.length := by rw [HCV.out.1]; exact hcell.2
              obtain ⟨bc', oc', hAc, _, c4⟩ := (hcc.ext hO.ext).at_int htp
              cases hAc
              have hcg : cls[d.to r.p x] = cls.getD (d.to r.p x) 0 := by simp [List.getD, htp]
              have hcv := cls_getD HCV.out.2 (d.to r.p x)
              have hwr := u8_wrap hcv
              rw [hcg] at c4
              rw [Int.toNat_natCast] at hsucc
              have hTI : (d.to r.p x : Int) < (d.rows.length : Int) := by have := hcell.2; omega
              generalize cls.getD (d.to r.p x) 0 = cc1 at *
              generalize d.to r.p x = T at *
              have HS := Lib.hid hsucc
              have hown : W6.ownsRow W2.heap.size 5 1 (.slice (some ⟨g, 0, none⟩) (x + 1) c5) (x + 1) ((byX cls d.rows[r.p] r.p x).map (.int .u8)) := hO.get 0 rfl
              have hsz := hO.ext.size
              have HO := Lib.hid hO
              clear hsucc hcell htp hcg hcv hiRc2 hO
              go_wp2_with (at_builtin; refine wpList_append_own2 rfl _ _ 56 rfl W2.heap.size 5 i5 (.int .u8 0) 1 1 Tryd.underlying56 hi5 hz5 hs5 hb5 rfl (by decide) (.slice (some ⟨g, 0, none⟩) (x + 1) c5) (x + 1) ((byX cls d.rows[r.p] r.p x).map (.int .u8)) rfl (World.ownsRow.alloc hown _) ⟨W6.heap.size, 0, none⟩ 1 1 [.int .u8 cc1] rfl rfl (new_cell _ _ _ _ (by first | rfl | simp)) (one_u8 _) (by unfold maxLen; omega) (by omega) (by simp; omega) ?_; intro v6 w6 hown6 hg6 hb6)
              have hO7 := (HO.out.trans (alloc_ext W6 (.cells #[.int .u8 cc1] 5))).app 0 rfl hg6 hown6 hb6
              obtain ⟨g6, c6, rfl⟩ := ownsRow_pos hown6 (by omega)
              go_roundw
              case rel =>
                refine ⟨x + 1, g6, c6, by go_num, hxl, rfl, ?_⟩
                rw [HS.out, List.map_append]
                exact hO7
              case measure => simp [intOf]; omega
            · obtain rfl : x = d.k := by omega
              have hbl : (byX cls d.rows[r.p] r.p d.k).length = d.k + 1 := byX_len (Nat.le_of_eq HRW.out.symm)
              have hown : W6.ownsRow W2.heap.size 5 1 (.slice (some ⟨g, 0, none⟩) (d.k + 1) c5) (d.k + 1) ((byX cls d.rows[r.p] r.p d.k).map (.int .u8)) := hO.get 0 rfl
              have hcv := conv_bytes hown hbl
              have hmW := HMO.out W6 gm (hO.get 2 rfl).2
              have hkok := HKEY.out.2.1
              have hiI : (i : Int) < ((pairsL d (noneD d)).length : Int) := by omega
              obtain ⟨u0, hu0⟩ : ∃ u, ((nxF d (nextR (rowsM d) (resC d cls)) i).map (Value.int .i64))[r.p]? = some u := ⟨_, List.getElem?_eq_getElem (by rw [List.length_map]; exact HKEY.out.2.2.2.2.1)⟩
              have s0 := cell_own hO 1 rfl hu0
              have sf := free_own (e := 3) hO 1 rfl r.p
              have HU := Lib.hid hu0
              have HO := Lib.hid hO
              clear hbl hown hu0 hO
              by_cases hmem : key ∈ namesOf ((keysR (rowsM d) (resC d cls)).take i)
              · have hg : getM (mapZ (namesOf ((keysR (rowsM d) (resC d cls)).take i))) key = some (idxN (namesOf ((keysR (rowsM d) (resC d cls)).take i)) key : Int) := mapZ_some (namesOf_nodup _) hmem
                have hns : namesOf ((keysR (rowsM d) (resC d cls)).take (i + 1)) = namesOf ((keysR (rowsM d) (resC d cls)).take i) := by rw [names_step HKEY.out.1]; exact addN_mem hmem
                have hset := HKEY.out.2.2.2.1
                rw [hns] at hset
                have hO6 := HO.out.store 1 rfl r.p (.int .i64 (idxN (namesOf ((keysR (rowsM d) (resC d cls)).take i)) key : Int))
                rw [hset] at hO6
                have HO6 := Lib.hid hO6
                have HNS := Lib.hid hns
                have HG := Lib.hid hg
                clear hg hns hset hO6 HO hmem
                go_wp2_with (first
                  | (with_reducible refine wpList_conv rfl 56 9 _ rfl _ _ rfl hcv ?_)
                  | (at_lookup; refine wpList_lookup_is rfl _ _ 121 true rfl 3 (key9 d.k) Tryd.underlying121 (zero3 _) rfl hmW key HKEY.out.2.2.1.symm hkok ?_; rw [HG.out]))
                refine ⟨⟨i + 1, om, by go_num, by omega, by rw [HNS.out]; exact HMO.out, HO6.out.drop⟩, ?_⟩
                simp [intOf]; omega
              · have hg : getM (mapZ (namesOf ((keysR (rowsM d) (resC d cls)).take i))) key = none := mapZ_none hmem
                have hns : namesOf ((keysR (rowsM d) (resC d cls)).take (i + 1)) = namesOf ((keysR (rowsM d) (resC d cls)).take i) ++ [key] := by rw [names_step HKEY.out.1]; exact addN_new hmem
                have hix : idxN (namesOf ((keysR (rowsM d) (resC d cls)).take (i + 1))) key = (mapZ (namesOf ((keysR (rowsM d) (resC d cls)).take i))).length := by
                  rw [mapZ_len]
                  refine idxN_get (namesOf_nodup _) ?_
                  rw [hns, List.getElem?_append_right (Nat.le_refl _), Nat.sub_self]; rfl
                have hmz : mapZ (namesOf ((keysR (rowsM d) (resC d cls)).take (i + 1))) = mapZ (namesOf ((keysR (rowsM d) (resC d cls)).take i)) ++ [(key, (((mapZ (namesOf ((keysR (rowsM d) (resC d cls)).take i))).length : Nat) : Int))] := by
                  rw [mapZ_len, ← mapZ_snoc, ← hns]
                have hset := HKEY.out.2.2.2.1
                rw [hix] at hset
                have HG := Lib.hid hg
                have HMZ := Lib.hid hmz
                have HSET := Lib.hid hset
                clear hg hmz hns hix hset hmem s0 sf
                go_upto_region 23 with (first
                  | (with_reducible refine wpList_conv rfl 56 9 _ rfl _ _ rfl hcv ?_)
                  | (at_lookup; refine wpList_lookup_is rfl _ _ 121 true rfl 3 (key9 d.k) Tryd.underlying121 (zero3 _) rfl hmW key HKEY.out.2.2.1.symm hkok ?_; rw [HG.out])
                  | (with_reducible refine wpList_len_is rfl _ 121 rfl Tryd.underlying121 rfl hmW ?_)
                  | (at_mapUpdate; refine wpList_update_new rfl _ _ _ 121 rfl 3 (key9 d.k) Tryd.underlying121 rfl hmW key HKEY.out.2.2.1.symm hkok HG.out _ rfl ?_; intro w6 hm6 hg6))
                obtain ⟨om2, hb2, hmo2⟩ := mapOf_of hm6
                have hO6 := HO.out.step (A' := .blk gm om2) 2 rfl hg6 (fun c hc => by cases hc; rfl) ⟨(HO.out.get 2 rfl).1, hb2⟩ (fun c hc => .inl hc)
                have hO6 : OwnL W2 w6 [.row 5 1 (.slice (some ⟨g, 0, none⟩) (d.k + 1) c5) (d.k + 1) ((byX cls d.rows[r.p] r.p d.k).map (.int .u8)), .row 3 1 (.slice (some ⟨gn, 0, none⟩) d.rows.length d.rows.length) d.rows.length ((nxF d (nextR (rowsM d) (resC d cls)) i).map (.int .i64)), .blk gm om2] := hO6
                have s0 := cell_own hO6 1 rfl HU.out
                have sf := free_own (e := 3) hO6 1 rfl r.p
                have hO7 := hO6.store 1 rfl r.p (.int .i64 (((mapZ (namesOf ((keysR (rowsM d) (resC d cls)).take i))).length : Nat) : Int))
                rw [HSET.out] at hO7
                have HO7 := Lib.hid hO7
                have HM2 := Lib.hid hmo2
                clear hO6 hO7 HSET HO HG hmW hb2 hg6 hm6 hmo2 hcv
                go_wp2
                refine ⟨⟨i + 1, om2, by go_num, by omega, by rw [HMZ.out]; exact HM2.out, HO7.out.drop⟩, ?_⟩
                simp [intOf]; omega
        · have hie : i = (pairsL d (noneD d)).length := by omega
          subst hie
          have hall : (keysR (rowsM d) (resC d cls)).take (pairsL d (noneD d)).length = keysR (rowsM d) (resC d cls) := List.take_of_length_le (by rw [keysR_len, HRL.out]; exact Nat.le_refl _)
          rw [hall] at hmo
          have hmW := hmo W4 gm (hO.get 1 rfl).2
          have hml : (mapZ (namesOf (keysR (rowsM d) (resC d cls)))).length = (namesR (rowsM d) (resC d cls)).length := mapZ_len _
          have hnxl : (nextR (rowsM d) (resC d cls)).length = (pairsL d (noneD d)).length := by rw [nextR_len, HRL.out]
          have hres := nxF_res HK.out hnxl
          have hflen := nxF_len d (nextR (rowsM d) (resC d cls)) (pairsL d (noneD d)).length
          have hfval := nxF_val (d := d) (next_val (rows := rowsM d) (cl := resC d cls) (by rw [HRL.out]; exact hll)) (pairsL d (noneD d)).length
          have hown : W4.ownsRow W2.heap.size 3 1 (.slice (some ⟨gn, 0, none⟩) d.rows.length d.rows.length) (nxF d (nextR (rowsM d) (resC d cls)) (pairsL d (noneD d)).length).length ((nxF d (nextR (rowsM d) (resC d cls)) (pairsL d (noneD d)).length).map (.int .i64)) := by rw [hflen]; exact hO.get 0 rfl
          obtain ⟨c9, hint⟩ := ints_of_owns hown (by rw [hflen]; unfold lenMax Dfa.n; omega)
          have hnok := nextR_ok (cl := resC d cls) (rows := rowsM d) (by rw [HRL.out]; omega)
          have hle := many_le HC1.out
          have hMn := namesR_le (rowsM d) (resC d cls)
          rw [HRL.out] at hMn
          have hrefS := @RefR.stop (rowsM d) (resC d cls) many
          have hrefN := @RefR.step (rowsM d) (resC d cls) many
          have hE9 := hE.trans hO.ext
          rw [← hres] at hrefS hrefN hnok
          generalize hFF : nxF d (nextR (rowsM d) (resC d cls)) (pairsL d (noneD d)).length = FF at *
          generalize hMM : (namesR (rowsM d) (resC d cls)).length = M at *
          have HML := Lib.hid hml
          clear hnxl hres hown hO hall hmo hFF
          have HFV := Lib.hid (And.intro hflen hfval)
          have HI := Lib.hid hint
          clear hflen hfval hint
          by_cases hst : M = many
          · subst hst
            have HP := Lib.hid (hpend.out _ (hrefS rfl))
            have hE9 := Lib.hid (hE1.trans hE9)
            clear hnok hle hMn hrefS hrefN hMM hml hpend
            go_wp2_with (refine wpList_len_is rfl _ 121 rfl Tryd.underlying121 rfl hmW ?_; rw [HML.out])
            try rw [Exit.noGoto_ret]
            go_ret2
            exact ⟨_, FF, _, c9, rfl, HI.out, HFV.out.1, HFV.out.2, by rw [← HRS.out]; exact HP.out, hE9.out⟩
          · have HP : Hid (∀ r, RefR (rowsM d) (resC d FF) M r → RefR (rowsM d) (resC d (clsA d)) 0 r) := Lib.hid (fun r h => hpend.out _ (hrefN hst h))
            have HKK := Lib.hid hnok
            have HL := Lib.hid (And.intro hle hMn)
            have HS := Lib.hid hst
            have hne : ((M : Int) == (many : Int)) = false := by simp; omega
            have hE9 := Lib.hid hE9
            clear hnok hle hMn hrefS hrefN hMM hml hpend hst
            go_wp2_with (refine wpList_len_is rfl _ 121 rfl Tryd.underlying121 rfl hmW ?_; rw [HML.out])
            go_roundg ((pairsL d (noneD d)).length + 1 - M)
            case rel => exact ⟨FF, M, c9, rfl, by have := HL.out; omega, HKK, HFV, HI.out, HP, hE9.out⟩
            case measure => have := HL.out; have := HS.out; omega
end Go.Proofs.YthlnmcokgfpgmaaDoor
