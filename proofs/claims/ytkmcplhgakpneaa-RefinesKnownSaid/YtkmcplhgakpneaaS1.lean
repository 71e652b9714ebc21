/- refines.sign; the keys of refined. -/
import Derived.Test.YtkmcplhgakpneaaD2
import Derived.Test.YtkmcplhgakpneaaMap
namespace Go.Proofs.Ytkmcplhgakpneaa
open Go.RowKit Go.Maps
set_option linter.unusedVariables false
set_option linter.unusedSimpArgs false
attribute [local go_sem] Oper.quietV quietV Oper.gives givesV

/-! ### The key's law -/
theorem laidOut : laidOutB Try.prog = true := by kernel_rfl
theorem row94 : 94 < Try.prog.types.size := of_decide_eq_true (by kernel_rfl)
theorem deep94 : Try.prog.keyTypeAt 5 94 = true := by kernel_rfl
theorem deep94' : Try.prog.keyType 94 = true := by kernel_rfl
theorem wide94 : (match Try.prog.underlying 94 with | some (.array _ _) | some (.struct _) => true | _ => false) = true := by kernel_rfl
theorem law94 : Keyed Try.prog 94 := Keyed.of_law (deep_law_laid laidOut (m := 5) (by omega) row94 deep94 wide94)
theorem cells94 : Try.prog.cellsOf 94 = 33 := by kernel_rfl
theorem cells91 : Try.prog.cellsOf 91 = 32 := by kernel_rfl
theorem cells45 : Try.prog.cellsOf 45 = 2 := by kernel_rfl
theorem cells3 : Try.prog.cellsOf 3 = 1 := by kernel_rfl
theorem typesN : ∃ d, Try.prog.types.size + 1 = d + 5 := by
  have := row94
  exact ⟨Try.prog.types.size - 4, by omega⟩

def wfI (x : Int) : Prop := (Lit.int .i64 x).wf = true
theorem lits3 (d : Nat) {x : Int} (hx : wfI x) : ∃ l, Try.prog.keyLits (d + 1) 3 [.int .i64 x] = some l := by
  unfold wfI at hx
  exact ⟨[.int .i64 x], by simp [Program.keyLits, Try.underlying3, hx]⟩
theorem lits_array {d n : Nat} {t e : TypeId} {cs : List Value} (hu : Try.prog.underlying t = some (.array n e)) (hl : cs.length = Try.prog.cellsOf t)
    (h : ∀ i, i < n → ∃ l, Try.prog.keyLits d e ((cs.drop (i * Try.prog.cellsOf e)).take (Try.prog.cellsOf e)) = some l) : ∃ l, Try.prog.keyLits (d + 1) t cs = some l := by
  have hm := ChangeMaps.mapM_total (f := fun i => Try.prog.keyLits d e ((cs.drop (i * Try.prog.cellsOf e)).take (Try.prog.cellsOf e))) [] (l := List.range n) (fun i hi => h i (List.mem_range.1 hi))
  unfold Program.keyLits
  rw [hu]
  simp only [hl, if_true]
  rw [hm]
  exact ⟨_, rfl⟩
theorem lits45 (d : Nat) {l : List Int} (hl : l.length = 2) (hw : ∀ x ∈ l, wfI x) : ∃ r, Try.prog.keyLits (d + 2) 45 (l.map (.int .i64)) = some r := by
  refine lits_array Try.underlying45 (by simp [hl, cells45]) fun i hi => ?_
  rw [cells3, Nat.mul_one]
  have h1 : i < l.length := by omega
  have h2 : ((l.map (Value.int .i64)).drop i).take 1 = [.int .i64 l[i]] := by
    rw [List.drop_eq_getElem_cons (by simpa using h1)]; simp
  rw [h2]
  exact lits3 d (hw _ (List.getElem_mem h1))
theorem lits91 (d : Nat) {l : List Int} (hl : l.length = 32) (hw : ∀ x ∈ l, wfI x) : ∃ r, Try.prog.keyLits (d + 3) 91 (l.map (.int .i64)) = some r := by
  refine lits_array Try.underlying91 (by simp [hl, cells91]) fun i hi => ?_
  rw [cells45, ← List.map_drop, ← List.map_take]
  exact lits45 d (by rw [List.length_take, List.length_drop]; omega) (fun x hx => hw x (List.mem_of_mem_drop (List.mem_of_mem_take hx)))
theorem lits94 (d : Nat) {l : List Int} (hl : l.length = 33) (hw : ∀ x ∈ l, wfI x) : ∃ r, Try.prog.keyLits (d + 4) 94 (l.map (.int .i64)) = some r := by
  obtain ⟨x, r, rfl⟩ : ∃ x r, l = x :: r := by cases l with | nil => simp at hl | cons x r => exact ⟨x, r, rfl⟩
  obtain ⟨a, ha⟩ := lits3 (d + 2) (hw x (by simp))
  obtain ⟨b, hb⟩ := lits91 d (l := r) (by simpa using hl) (fun y hy => hw y (by simp [hy]))
  unfold Program.keyLits
  rw [Try.underlying94]
  have hlr : r.length = 32 := by simpa using hl
  simp [cells94, cells3, cells91, hlr, ha]
  rw [List.take_of_length_le (by simp [hlr]), hb]
  exact ⟨_, rfl⟩

def keyV (l : List Int) : Value := .agg (l.map (.int .i64)).toArray
def keyOK (l : List Int) : Prop := l.length = 33 ∧ ∀ x ∈ l, wfI x
theorem key94 : KeyEnc Try.prog 94 keyV keyOK where
  law := law94
  read := fun l ⟨hl, hw⟩ => by
    obtain ⟨d, hd⟩ := typesN
    obtain ⟨r, hr⟩ := lits94 (d + 1) hl hw
    have hf : (keyV l).formed Try.prog 94 = true := by simp [keyV, Value.formed, Try.underlying94, cells94, hl]
    refine ⟨.string (keyBytes r), ?_⟩
    unfold keyOf
    rw [Try.underlying94]
    simp only [deep94', hf, Bool.and_self, if_true, hd]
    rw [show (keyV l).cells.toList = l.map (.int .i64) by simp [keyV, Value.cells], hr]
    rfl
  inj := fun x y h => by
    unfold keyV at h
    injection h with h
    have h1 := congrArg Array.toList h
    simp only at h1
    have hinj : ∀ a b : Int, Value.int .i64 a = Value.int .i64 b → a = b := fun a b h => by cases h; rfl
    exact List.map_inj_right hinj |>.1 h1

/-! ### A signature -/
def sigC (p : List Int) (e : Int × Int) : List Int := [e.2, if e.1 = -1 then -1 else p.getD e.1.toNat 0]
def sigL (p : List Int) (es : List (Int × Int)) : List Int := es.flatMap (sigC p) ++ List.replicate (32 - es.length * 2) 0
theorem sigF_length (p : List Int) : ∀ es : List (Int × Int), (es.flatMap (sigC p)).length = es.length * 2
  | [] => rfl
  | e :: es => by rw [List.flatMap_cons, List.length_append, sigF_length p es]; simp [sigC]; omega
theorem sigL_length (p : List Int) (es : List (Int × Int)) (h : es.length ≤ 16) : (sigL p es).length = 32 := by
  rw [sigL, List.length_append, sigF_length, List.length_replicate]; omega
theorem sigL_step (p : List Int) (es : List (Int × Int)) (e : Int × Int) (h : es.length < 16) : ((sigL p es).set (es.length * 2) e.2).set (es.length * 2 + 1) (if e.1 = -1 then -1 else p.getD e.1.toNat 0) = sigL p (es ++ [e]) := by
  unfold sigL
  rw [List.flatMap_append, List.length_append, show 32 - es.length * 2 = (32 - (es.length + [e].length) * 2) + 1 + 1 by simp; omega, List.replicate_succ, List.replicate_succ]
  have hl := sigF_length p es
  rw [List.set_append_right _ _ (by omega), hl, Nat.sub_self, List.set_cons_zero, List.set_append_right _ _ (by omega), hl, show es.length * 2 + 1 - es.length * 2 = 1 by omega]
  simp [sigC]
end Go.Proofs.Ytkmcplhgakpneaa
