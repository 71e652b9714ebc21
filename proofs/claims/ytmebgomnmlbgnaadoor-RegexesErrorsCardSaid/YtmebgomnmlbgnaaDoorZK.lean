/-      -/
import Derived.Test.YtmebgomnmlbgnaaDoorZA
import Derived.Test.YtmebgomnmlbgnaaDoorZC
import Derived.Test.YtmebgomnmlbgnaaDoorZJ
set_option linter.unnecessarySimpa false
set_option linter.unusedSectionVars false
namespace Go.Proofs.YtmebgomnmlbgnaaDoor
open Go.RowKit
set_option linter.unusedVariables false
set_option linter.unusedSimpArgs false
attribute [local go_sem] Oper.quietV quietV Oper.gives givesV ext_refl_iff ext_alloc_iff ext_drew_iff ext_drewN_iff
def b01 (b : Bool) : Int := if b then 1 else 0
set_option maxHeartbeats 800000 in
theorem sameL_any (w : World) (v u : Value) (xs ys : List Int) (ca cb : Nat) (hv : IntsC w v xs ca) (hu : IntsC w u ys cb) :
    Calls Tryd.prog 42 #[v, u] w fun e w' => e = .returned (.int .i64 (b01 (xs == ys))) ∧ Ext w w' := by
  obtain ⟨A, rfl, ha, _, hx⟩ := hv
  obtain ⟨B, rfl, hb, _, hy⟩ := hu
  unfold lenMax at hx hy
  by_cases hl : xs.length = ys.length
  · have hl1 : ((xs.length : Int) != (ys.length : Int)) = false := by simp [hl]
    have HL := Lib.hid hl; clear hl
    go_enter Tryd.func42, Tryd.ntmps42
    go_wp2
    go_loopw [5] (fun i wr => ∃ k : Nat, k ≤ xs.length ∧ i = .int .i64 k ∧ Hid ((xs == ys) = (xs.drop k == ys.drop k)) ∧ Ext w wr) (fun i _ => xs.length - (intOf i).toNat)
    case atStart => exact ⟨0, by omega, rfl, Lib.hid rfl, Ext.refl _⟩
    case round =>
      obtain ⟨k, hk, rfl, hpre, hE⟩ := hrel
      by_cases hlt : k < xs.length
      · have hk2 : k < ys.length := by have := HL.out; omega
        obtain ⟨b, o, rfl, _, c1⟩ := (ha.ext hE).at_int hlt
        obtain ⟨b', o', rfl, _, c2⟩ := (hb.ext hE).at_int hk2
        have hstep : Hid ((xs == ys) = (xs[k] == ys[k] && (xs.drop (k + 1) == ys.drop (k + 1)))) := by
          show _ = _
          rw [hpre.out, List.drop_eq_getElem_cons hlt, List.drop_eq_getElem_cons hk2]; rfl
        generalize xs[k] = x at *
        generalize ys[k] = y at *
        go_wp2_with fail
        go_quiet (fail)
        cases hc : (x != y)
        · have hxy : x = y := by simpa using hc
          have hres : Hid ((xs == ys) = (xs.drop (k + 1) == ys.drop (k + 1))) := by show _ = _; rw [hstep.out, hxy]; simp
          clear hxy
          go_wp2
          go_roundw
          case rel => exact ⟨k + 1, by omega, by go_num, hres, hE.drewN _⟩
          case measure => simp [intOf]; omega
        · have hres : Hid ((xs == ys) = false) := by show _ = _; rw [hstep.out, show (x == y) = false by simpa using hc]; rfl
          go_wp2
          go_ret
          exact ⟨by rw [hres.out]; rfl, hE.drewN _⟩
      · have hke : k = xs.length := by omega
        go_wp2
        go_ret
        exact ⟨by rw [hpre.out, hke, List.drop_length, HL.out, List.drop_length]; rfl, hE⟩
  · have hl1 : ((xs.length : Int) != (ys.length : Int)) = true := by simp; omega
    have hs : Hid ((xs == ys) = false) := by
      show _ = _
      rw [beq_eq_false_iff_ne]; intro e; exact hl (by rw [e])
    clear hl
    go_enter Tryd.func42, Tryd.ntmps42
    go_wp2
    go_ret
    exact ⟨by rw [hs.out]; rfl, Ext.refl _⟩
end Go.Proofs.YtmebgomnmlbgnaaDoor

namespace Go.Proofs.YtmebgomnmlbgnaaDoor
open Go.RowKit Go.Maps
set_option linter.unusedVariables false
set_option linter.unusedSimpArgs false
attribute [local go_sem] Oper.quietV quietV Oper.gives givesV ext_refl_iff ext_alloc_iff ext_drew_iff ext_drewN_iff
theorem laidOut : laidOutB Tryd.prog = true := by kernel_rfl
theorem typesN : ∃ d, Tryd.prog.types.size + 1 = d + 5 := ⟨Tryd.prog.types.size - 4, by
  have : 151 < Tryd.prog.types.size := of_decide_eq_true (by kernel_rfl)
  omega⟩
def wfI (x : Int) : Prop := (Lit.int .i64 x).wf = true
theorem lits3 (d : Nat) {x : Int} (hx : wfI x) : ∃ l, Tryd.prog.keyLits (d + 1) 3 [.int .i64 x] = some l := by
  unfold wfI at hx
  exact ⟨[.int .i64 x], by simp [Program.keyLits, Tryd.underlying3, hx]⟩
theorem lits4 (d : Nat) (b : Bool) : ∃ l, Tryd.prog.keyLits (d + 1) 4 [.bool b] = some l := ⟨[.bool b], by simp [Program.keyLits, Tryd.underlying4]⟩
theorem lits_array {d n : Nat} {t e : TypeId} {cs : List Value} (hu : Tryd.prog.underlying t = some (.array n e)) (hl : cs.length = Tryd.prog.cellsOf t)
    (h : ∀ i, i < n → ∃ l, Tryd.prog.keyLits d e ((cs.drop (i * Tryd.prog.cellsOf e)).take (Tryd.prog.cellsOf e)) = some l) : ∃ l, Tryd.prog.keyLits (d + 1) t cs = some l := by
  have hm := ChangeMaps.mapM_total (f := fun i => Tryd.prog.keyLits d e ((cs.drop (i * Tryd.prog.cellsOf e)).take (Tryd.prog.cellsOf e))) [] (l := List.range n) (fun i hi => h i (List.mem_range.1 hi))
  unfold Program.keyLits
  rw [hu]
  simp only [hl, if_true]
  rw [hm]
  exact ⟨_, rfl⟩
theorem lits_struct {d : Nat} {t : TypeId} {fs : Array Field} {cs : List Value} (hu : Tryd.prog.underlying t = some (.struct fs)) (hl : cs.length = Tryd.prog.cellsOf t) (hn : fs.all (·.name != "_") = true)
    (h : ∀ f ∈ fs.toList, ∃ l, Tryd.prog.keyLits d f.type ((cs.drop f.offset).take (Tryd.prog.cellsOf f.type)) = some l) : ∃ l, Tryd.prog.keyLits (d + 1) t cs = some l := by
  have hm := ChangeMaps.mapM_total (f := fun f : Field => Tryd.prog.keyLits d f.type ((cs.drop f.offset).take (Tryd.prog.cellsOf f.type))) [] (l := fs.toList) h
  unfold Program.keyLits
  rw [hu]
  simp only [hl, hn, and_self, if_true]
  rw [hm]
  exact ⟨_, rfl⟩
theorem wfI_of {x : Int} (h : -1 ≤ x ∧ x ≤ 100000) : wfI x := by
  unfold wfI Lit.wf
  have : IntKind.i64.wrap x = x := by rw [IntKind.wrap_i64]; omega
  simp [this, IntKind.min, IntKind.bits, IntKind.signed]; omega
set_option maxRecDepth 100000 in
theorem key_of {k : TypeId} {κ : Type} {enc : κ → Value} {ok : κ → Prop} (hk : k < Tryd.prog.types.size) (h5 : Tryd.prog.keyTypeAt 5 k = true) (hkt : Tryd.prog.keyType k = true) (hw : (match Tryd.prog.underlying k with | some (.array _ _) | some (.struct _) => true | _ => false) = true)
    (hf : ∀ x, ok x → (enc x).formed Tryd.prog k = true) (hl : ∀ x, ok x → ∀ d, ∃ r, Tryd.prog.keyLits (d + 3) k (enc x).cells.toList = some r) (hi : ∀ x y, enc x = enc y → x = y) : KeyEnc Tryd.prog k enc ok where
  law := Keyed.of_law (deep_law_laid laidOut (m := 5) (by omega) hk h5 hw)
  read := fun x hx => by
    obtain ⟨d, hd⟩ := typesN
    obtain ⟨r, hr⟩ := hl x hx (d + 2)
    refine ⟨.string (keyBytes r), ?_⟩
    unfold keyOf
    split
    · simp only [hkt, hf x hx, Bool.and_self, if_true, hd]
      rw [hr]; rfl
    · simp only [hkt, hf x hx, Bool.and_self, if_true, hd]
      rw [hr]; rfl
    · rename_i h1 h2
      exfalso
      split at hw
      · rename_i a b e; exact h1 a b e
      · rename_i a e; exact h2 a e
      · cases hw
  inj := hi
theorem cells3 : Tryd.prog.cellsOf 3 = 1 := by kernel_rfl
theorem cells4 : Tryd.prog.cellsOf 4 = 1 := by kernel_rfl
theorem cells88 : Tryd.prog.cellsOf 88 = 2 := by kernel_rfl
theorem cells129 : Tryd.prog.cellsOf 129 = 2 := by kernel_rfl
theorem cells133 : Tryd.prog.cellsOf 133 = 256 := by kernel_rfl
theorem cells135 : Tryd.prog.cellsOf 135 = 257 := by kernel_rfl
theorem cells143 : Tryd.prog.cellsOf 143 = 257 := by kernel_rfl
theorem cells149 : Tryd.prog.cellsOf 149 = 16 := by kernel_rfl
theorem cells151 : Tryd.prog.cellsOf 151 = 17 := by kernel_rfl
theorem litsInts (d : Nat) {t n : Nat} (hu : Tryd.prog.underlying t = some (.array n 3)) (hc : Tryd.prog.cellsOf t = n) {l : List Int} (hl : l.length = n) (hw : ∀ x ∈ l, wfI x) : ∃ r, Tryd.prog.keyLits (d + 2) t (l.map (.int .i64)) = some r := by
  refine lits_array hu (by simp [hl, hc]) fun i hi => ?_
  rw [cells3, Nat.mul_one]
  have h1 : i < l.length := by omega
  have h2 : ((l.map (Value.int .i64)).drop i).take 1 = [.int .i64 l[i]] := by
    rw [List.drop_eq_getElem_cons (by simpa using h1)]; simp
  rw [h2]
  exact lits3 d (hw _ (List.getElem_mem h1))
theorem litsBools (d : Nat) {l : List Bool} (hl : l.length = 256) : ∃ r, Tryd.prog.keyLits (d + 2) 133 (l.map .bool) = some r := by
  refine lits_array Tryd.underlying133 (by simp [hl, cells133]) fun i hi => ?_
  rw [cells4, Nat.mul_one]
  have h1 : i < l.length := by omega
  have h2 : ((l.map Value.bool).drop i).take 1 = [.bool l[i]] := by
    rw [List.drop_eq_getElem_cons (by simpa using h1)]; simp
  rw [h2]
  exact lits4 d _
def okP (p : Nat × Nat) : Prop := p.1 ≤ 100000 ∧ p.2 ≤ 100000
def plcV (p : Nat × Nat) : Value := .agg #[.int .i64 p.1, .int .i64 p.2]
theorem plc_inj (x y : Nat × Nat) (h : plcV x = plcV y) : x = y := by
  unfold plcV at h
  simp only [Value.agg.injEq, Array.mk.injEq, List.cons.injEq, Value.int.injEq, true_and, and_true] at h
  obtain ⟨x1, x2⟩ := x
  obtain ⟨y1, y2⟩ := y
  simp only [Prod.mk.injEq] at h ⊢
  omega
set_option maxRecDepth 100000 in
theorem key88 : KeyEnc Tryd.prog 88 plcV okP := key_of (of_decide_eq_true (by kernel_rfl)) (by kernel_rfl) (by kernel_rfl) (by kernel_rfl)
  (fun x _ => by simp [plcV, Value.formed, Tryd.underlying88, cells88])
  (fun x hx d => by
    have e : (plcV x).cells.toList = [.int .i64 x.1, .int .i64 x.2] := by simp [plcV, Value.cells]
    rw [e]
    refine lits_struct (d := d + 2) Tryd.underlying88 (by simp [cells88]) (by kernel_rfl) (fun f hf => ?_)
    simp at hf
    rcases hf with rfl | rfl
    · simp only [cells3]; exact lits3 _ (wfI_of (by have := hx.1; omega))
    · simp only [cells3]; exact lits3 _ (wfI_of (by have := hx.2; omega)))
  plc_inj
set_option maxRecDepth 100000 in
theorem key129 : KeyEnc Tryd.prog 129 plcV okP := key_of (of_decide_eq_true (by kernel_rfl)) (by kernel_rfl) (by kernel_rfl) (by kernel_rfl)
  (fun x _ => by simp [plcV, Value.formed, Tryd.underlying129, cells129])
  (fun x hx d => by
    have e : (plcV x).cells.toList = [(x.1 : Int), (x.2 : Int)].map (.int .i64) := by simp [plcV, Value.cells]
    rw [e]
    exact litsInts (d + 1) Tryd.underlying129 cells129 rfl (by intro y hy; simp at hy; rcases hy with rfl | rfl <;> first | exact wfI_of (by have := hx.1; omega) | exact wfI_of (by have := hx.2; omega)))
  plc_inj
def pairV (p : Nat × List Bool) : Value := .agg (Value.int .i64 p.1 :: p.2.map .bool).toArray
def okPr (p : Nat × List Bool) : Prop := p.1 ≤ 100000 ∧ p.2.length = 256
theorem bools_inj {l l' : List Bool} (h : l.map Value.bool = l'.map Value.bool) : l = l' := (List.map_inj_right (fun a b h => by cases h; rfl)).1 h
set_option maxRecDepth 100000 in
theorem key135 : KeyEnc Tryd.prog 135 pairV okPr := key_of (of_decide_eq_true (by kernel_rfl)) (by kernel_rfl) (by kernel_rfl) (by kernel_rfl)
  (fun x hx => by simp [pairV, Value.formed, Tryd.underlying135, cells135, hx.2])
  (fun x hx d => by
    have e : (pairV x).cells.toList = Value.int .i64 x.1 :: x.2.map .bool := by simp [pairV, Value.cells]
    rw [e]
    refine lits_struct (d := d + 2) Tryd.underlying135 (by simp [cells135, hx.2]) (by kernel_rfl) (fun f hf => ?_)
    simp at hf
    rcases hf with rfl | rfl
    · simp only [cells3]; exact lits3 _ (wfI_of (by have := hx.1; omega))
    · simp only [cells133]
      have : ((Value.int .i64 x.1 :: x.2.map Value.bool).drop 1).take 256 = x.2.map .bool := by
        rw [List.drop_succ_cons, List.drop_zero, List.take_of_length_le (by simp [hx.2])]
      rw [this]
      exact litsBools _ hx.2)
  (fun x y h => by
    unfold pairV at h
    injection h with h
    have h1 := congrArg Array.toList h
    simp only [List.cons.injEq, Value.int.injEq, true_and] at h1
    obtain ⟨x1, x2⟩ := x
    obtain ⟨y1, y2⟩ := y
    simp only [Prod.mk.injEq]
    exact ⟨by have := h1.1; simp at this; omega, bools_inj h1.2⟩)
def spotV (p : Bool × List Bool) : Value := .agg (Value.bool p.1 :: p.2.map .bool).toArray
def okSp (p : Bool × List Bool) : Prop := p.2.length = 256
set_option maxRecDepth 100000 in
theorem key143 : KeyEnc Tryd.prog 143 spotV okSp := key_of (of_decide_eq_true (by kernel_rfl)) (by kernel_rfl) (by kernel_rfl) (by kernel_rfl)
  (fun x hx => by simp [spotV, Value.formed, Tryd.underlying143, cells143, show x.2.length = 256 from hx])
  (fun x hx d => by
    have e : (spotV x).cells.toList = Value.bool x.1 :: x.2.map .bool := by simp [spotV, Value.cells]
    rw [e]
    have hx2 : x.2.length = 256 := hx
    refine lits_struct (d := d + 2) Tryd.underlying143 (by simp [cells143, hx2]) (by kernel_rfl) (fun f hf => ?_)
    simp at hf
    rcases hf with rfl | rfl
    · simp only [cells4]; exact lits4 _ _
    · simp only [cells133]
      have : ((Value.bool x.1 :: x.2.map Value.bool).drop 1).take 256 = x.2.map .bool := by
        rw [List.drop_succ_cons, List.drop_zero, List.take_of_length_le (by simp [hx2])]
      rw [this]
      exact litsBools _ hx2)
  (fun x y h => by
    unfold spotV at h
    injection h with h
    have h1 := congrArg Array.toList h
    simp only [List.cons.injEq, Value.bool.injEq] at h1
    obtain ⟨x1, x2⟩ := x
    obtain ⟨y1, y2⟩ := y
    simp only [Prod.mk.injEq]
    exact ⟨h1.1, bools_inj h1.2⟩)
def nameV (l : List Int) : Value := .agg (l.map (.int .i64)).toArray
def okN (l : List Int) : Prop := l.length = 17 ∧ ∀ x ∈ l, wfI x
set_option maxRecDepth 100000 in
theorem key151 : KeyEnc Tryd.prog 151 nameV okN := key_of (of_decide_eq_true (by kernel_rfl)) (by kernel_rfl) (by kernel_rfl) (by kernel_rfl)
  (fun x hx => by simp [nameV, Value.formed, Tryd.underlying151, cells151, hx.1])
  (fun x hx d => by
    have e : (nameV x).cells.toList = x.map (.int .i64) := by simp [nameV, Value.cells]
    rw [e]
    obtain ⟨h, r, rfl⟩ : ∃ h r, x = h :: r := by
      cases x with
      | nil => simp [okN] at hx
      | cons h r => exact ⟨h, r, rfl⟩
    have hr : r.length = 16 := by have := hx.1; simpa using this
    refine lits_struct (d := d + 2) Tryd.underlying151 (by simp [cells151, hr]) (by kernel_rfl) (fun f hf => ?_)
    simp at hf
    rcases hf with rfl | rfl
    · simp only [cells3]; exact lits3 _ (hx.2 h (by simp))
    · simp only [cells149]
      have : (((h :: r).map (Value.int .i64)).drop 1).take 16 = r.map (.int .i64) := by
        rw [List.map_cons, List.drop_succ_cons, List.drop_zero, List.take_of_length_le (by simp [hr])]
      rw [this]
      exact litsInts _ Tryd.underlying149 cells149 hr (fun y hy => hx.2 y (by simp [hy])))
  (fun x y h => by
    unfold nameV at h
    injection h with h
    have h1 := congrArg Array.toList h
    simp only at h1
    exact (List.map_inj_right (fun a b h => by cases h; rfl)).1 h1)
theorem key3 : KeyEnc Tryd.prog 3 (fun x : Int => .int .i64 x) wfI := ⟨int_keyed Tryd.underlying3, fun x hx => ⟨_, keyOf_int_mk Tryd.underlying3 hx⟩, fun x y h => by cases h; rfl⟩
end Go.Proofs.YtmebgomnmlbgnaaDoor

namespace Go.Proofs.YtmebgomnmlbgnaaDoor
open Go.RowKit Go.Maps
set_option linter.unusedVariables false
set_option linter.unusedSimpArgs false
def zeroL (n : Nat) : List Bool := List.replicate (n + 1) false
def oneL (n k : Nat) : List Bool := (zeroL n).set k true
def orL (a b : List Bool) : List Bool := List.zipWith (· || ·) a b
def andL (a b : List Bool) : List Bool := List.zipWith (· && ·) a b
def notL (f : Nat) (a : List Bool) : List Bool := (List.range a.length).map (fun i => decide (f ≤ i) && !(a.getD i false))
def joinF (sub : Nat → List Bool) (test : List Bool → Nat → Bool) (out : List Bool) (i : Nat) : List Bool := if test out i = true then orL out (sub i) else out
def endsF (w : List Int) : Rx → Nat → List Bool
  | .none, _ => zeroL w.length
  | .empty, f => oneL w.length f
  | .sym a, f => if w[f]? = some (a : Int) then oneL w.length (f + 1) else zeroL w.length
  | .or x y, f => orL (endsF w x f) (endsF w y f)
  | .and x y, f => andL (endsF w x f) (endsF w y f)
  | .not x, f => notL f (endsF w x f)
  | .seq x y, f => (List.range (w.length + 1)).foldl (joinF (endsF w y) (fun _ i => (endsF w x f).getD i false)) (zeroL w.length)
  | .star x, f => (List.range' f (w.length + 1 - f)).foldl (joinF (endsF w x) (fun out i => out.getD i false)) (oneL w.length f)
theorem zeroL_len (n : Nat) : (zeroL n).length = n + 1 := by simp [zeroL]
theorem oneL_len (n k : Nat) : (oneL n k).length = n + 1 := by simp [oneL, zeroL]
theorem joinF_len {sub : Nat → List Bool} {test : List Bool → Nat → Bool} {n : Nat} (hs : ∀ i, (sub i).length = n) {out : List Bool} (ho : out.length = n) (i : Nat) : (joinF sub test out i).length = n := by
  unfold joinF
  split
  · simp [orL, ho, hs i]
  · exact ho
theorem foldJ_len {sub : Nat → List Bool} {test : List Bool → Nat → Bool} {n : Nat} (hs : ∀ i, (sub i).length = n) : ∀ (l : List Nat) (out : List Bool), out.length = n → (l.foldl (joinF sub test) out).length = n
  | [], out, h => h
  | i :: l, out, h => foldJ_len hs l _ (joinF_len hs h i)
theorem endsF_len (w : List Int) : ∀ (r : Rx) (f : Nat), (endsF w r f).length = w.length + 1
  | .none, f => zeroL_len _
  | .empty, f => oneL_len _ _
  | .sym a, f => by unfold endsF; split; exact oneL_len _ _; exact zeroL_len _
  | .or x y, f => by simp [endsF, orL, endsF_len w x, endsF_len w y]
  | .and x y, f => by simp [endsF, andL, endsF_len w x, endsF_len w y]
  | .not x, f => by simp [endsF, notL, endsF_len w x]
  | .seq x y, f => by unfold endsF; exact foldJ_len (fun i => endsF_len w y i) _ _ (zeroL_len _)
  | .star x, f => by unfold endsF; exact foldJ_len (fun i => endsF_len w x i) _ _ (oneL_len _ _)
def nodeAt : Rx → Nat → Option Rx
  | r, 0 => some r
  | .or x y, k + 1 => if k < x.cnt then nodeAt x k else nodeAt y (k - x.cnt)
  | .seq x y, k + 1 => if k < x.cnt then nodeAt x k else nodeAt y (k - x.cnt)
  | .and x y, k + 1 => if k < x.cnt then nodeAt x k else nodeAt y (k - x.cnt)
  | .star x, k + 1 => nodeAt x k
  | .not x, k + 1 => nodeAt x k
  | _, _ + 1 => none
theorem nodeAt_zero (r : Rx) : nodeAt r 0 = some r := by cases r <;> rfl
theorem nodeAt_lt : ∀ {r : Rx} {k : Nat} {s : Rx}, nodeAt r k = some s → k + s.cnt ≤ r.cnt
  | r, 0, s, h => by rw [nodeAt_zero] at h; cases h; omega
  | .none, k + 1, s, h => by cases h
  | .empty, k + 1, s, h => by cases h
  | .sym _, k + 1, s, h => by cases h
  | .or x y, k + 1, s, h => by
    simp only [nodeAt] at h
    simp only [Rx.cnt]
    split at h
    · have := nodeAt_lt h; omega
    · have := nodeAt_lt h; omega
  | .seq x y, k + 1, s, h => by
    simp only [nodeAt] at h
    simp only [Rx.cnt]
    split at h
    · have := nodeAt_lt h; omega
    · have := nodeAt_lt h; omega
  | .and x y, k + 1, s, h => by
    simp only [nodeAt] at h
    simp only [Rx.cnt]
    split at h
    · have := nodeAt_lt h; omega
    · have := nodeAt_lt h; omega
  | .star x, k + 1, s, h => by simp only [nodeAt] at h; simp only [Rx.cnt]; have := nodeAt_lt h; omega
  | .not x, k + 1, s, h => by simp only [nodeAt] at h; simp only [Rx.cnt]; have := nodeAt_lt h; omega
def subOf : Rx → Nat → Option Rx
  | .or x _, 0 => some x | .or _ y, 1 => some y
  | .seq x _, 0 => some x | .seq _ y, 1 => some y
  | .and x _, 0 => some x | .and _ y, 1 => some y
  | .star x, 0 => some x | .not x, 0 => some x
  | _, _ => none
def offOf : Rx → Nat → Nat
  | .or x _, 1 => x.cnt + 1 | .seq x _, 1 => x.cnt + 1 | .and x _, 1 => x.cnt + 1
  | _, _ => 1
theorem nodeAt_sub : ∀ {r : Rx} {k : Nat} {s t : Rx} {i : Nat}, nodeAt r k = some s → subOf s i = some t → nodeAt r (k + offOf s i) = some t := by
  have base : ∀ {s t : Rx} {i : Nat}, subOf s i = some t → nodeAt s (offOf s i) = some t := by
    intro s t i h
    cases s with
    | none => cases h
    | empty => cases h
    | sym a => cases h
    | or x y => match i, h with
      | 0, h => cases h; show nodeAt (.or t y) (0 + 1) = some t; simp only [nodeAt, nodeAt_zero]; exact if_pos (cnt_pos t)
      | 1, h => cases h; show nodeAt (.or x t) (x.cnt + 1) = some t; simp only [nodeAt]; rw [if_neg (by omega), Nat.sub_self]; exact nodeAt_zero _
    | seq x y => match i, h with
      | 0, h => cases h; show nodeAt (.seq t y) (0 + 1) = some t; simp only [nodeAt, nodeAt_zero]; exact if_pos (cnt_pos t)
      | 1, h => cases h; show nodeAt (.seq x t) (x.cnt + 1) = some t; simp only [nodeAt]; rw [if_neg (by omega), Nat.sub_self]; exact nodeAt_zero _
    | and x y => match i, h with
      | 0, h => cases h; show nodeAt (.and t y) (0 + 1) = some t; simp only [nodeAt, nodeAt_zero]; exact if_pos (cnt_pos t)
      | 1, h => cases h; show nodeAt (.and x t) (x.cnt + 1) = some t; simp only [nodeAt]; rw [if_neg (by omega), Nat.sub_self]; exact nodeAt_zero _
    | star x => match i, h with
      | 0, h => cases h; show nodeAt (.star t) (0 + 1) = some t; simp only [nodeAt]
    | not x => match i, h with
      | 0, h => cases h; show nodeAt (.not t) (0 + 1) = some t; simp only [nodeAt]
  intro r
  induction r with
  | none => intro k s t i h hs; cases k with | zero => rw [nodeAt_zero] at h; cases h; rw [Nat.zero_add]; exact base hs | succ k => cases h
  | empty => intro k s t i h hs; cases k with | zero => rw [nodeAt_zero] at h; cases h; rw [Nat.zero_add]; exact base hs | succ k => cases h
  | sym a => intro k s t i h hs; cases k with | zero => rw [nodeAt_zero] at h; cases h; rw [Nat.zero_add]; exact base hs | succ k => cases h
  | or x y ihx ihy =>
    intro k s t i h hs
    cases k with
    | zero => rw [nodeAt_zero] at h; cases h; rw [Nat.zero_add]; exact base hs
    | succ k =>
      rw [Nat.add_right_comm]
      simp only [nodeAt] at h ⊢
      split at h
      · have h1 := ihx h hs
        have h2 := nodeAt_lt h1
        rw [if_pos (by have := cnt_pos t; omega)]; exact h1
      · have h1 := ihy h hs
        rw [if_neg (by omega), show k + offOf s i - x.cnt = k - x.cnt + offOf s i by omega]; exact h1
  | seq x y ihx ihy =>
    intro k s t i h hs
    cases k with
    | zero => rw [nodeAt_zero] at h; cases h; rw [Nat.zero_add]; exact base hs
    | succ k =>
      rw [Nat.add_right_comm]
      simp only [nodeAt] at h ⊢
      split at h
      · have h1 := ihx h hs
        have h2 := nodeAt_lt h1
        rw [if_pos (by have := cnt_pos t; omega)]; exact h1
      · have h1 := ihy h hs
        rw [if_neg (by omega), show k + offOf s i - x.cnt = k - x.cnt + offOf s i by omega]; exact h1
  | and x y ihx ihy =>
    intro k s t i h hs
    cases k with
    | zero => rw [nodeAt_zero] at h; cases h; rw [Nat.zero_add]; exact base hs
    | succ k =>
      rw [Nat.add_right_comm]
      simp only [nodeAt] at h ⊢
      split at h
      · have h1 := ihx h hs
        have h2 := nodeAt_lt h1
        rw [if_pos (by have := cnt_pos t; omega)]; exact h1
      · have h1 := ihy h hs
        rw [if_neg (by omega), show k + offOf s i - x.cnt = k - x.cnt + offOf s i by omega]; exact h1
  | star x ihx =>
    intro k s t i h hs
    cases k with
    | zero => rw [nodeAt_zero] at h; cases h; rw [Nat.zero_add]; exact base hs
    | succ k => rw [Nat.add_right_comm]; simp only [nodeAt] at h ⊢; exact ihx h hs
  | not x ihx =>
    intro k s t i h hs
    cases k with
    | zero => rw [nodeAt_zero] at h; cases h; rw [Nat.zero_add]; exact base hs
    | succ k => rw [Nat.add_right_comm]; simp only [nodeAt] at h ⊢; exact ihx h hs
theorem sub_cnt {s t : Rx} {i : Nat} (h : subOf s i = some t) : offOf s i + t.cnt ≤ s.cnt := by
  cases s with
  | none => cases h
  | empty => cases h
  | sym a => cases h
  | or x y => match i, h with
    | 0, h => cases h; show 1 + t.cnt ≤ t.cnt + y.cnt + 1; omega
    | 1, h => cases h; show x.cnt + 1 + t.cnt ≤ x.cnt + t.cnt + 1; omega
  | seq x y => match i, h with
    | 0, h => cases h; show 1 + t.cnt ≤ t.cnt + y.cnt + 1; omega
    | 1, h => cases h; show x.cnt + 1 + t.cnt ≤ x.cnt + t.cnt + 1; omega
  | and x y => match i, h with
    | 0, h => cases h; show 1 + t.cnt ≤ t.cnt + y.cnt + 1; omega
    | 1, h => cases h; show x.cnt + 1 + t.cnt ≤ x.cnt + t.cnt + 1; omega
  | star x => match i, h with
    | 0, h => cases h; show 1 + t.cnt ≤ t.cnt + 1; omega
  | not x => match i, h with
    | 0, h => cases h; show 1 + t.cnt ≤ t.cnt + 1; omega
def BoolsB (w : World) (b : Nat) (xs : List Bool) : Prop := w.heap[b]? = some (.cells (xs.map Value.bool).toArray 4 (0, 0))
theorem BoolsB.cell {w : World} {b : Nat} {xs : List Bool} (h : BoolsB w b xs) {k : Nat} (hk : k < xs.length) : w.cell? ⟨b, k, none⟩ = some (.bool (xs.getD k false)) := cell_of_blk h k (by simp [hk, List.getD_eq_getElem?_getD])
theorem BoolsB.put {w : World} {b : Nat} {xs : List Bool} (h : BoolsB w b xs) (k : Nat) (v : Bool) : BoolsB (w.setCell ⟨b, k, none⟩ (.bool v)) b (xs.set k v) := by
  have h1 := heap_setCell_same w b k _ 4 (.bool v) h
  unfold BoolsB
  rw [h1]
  congr 2
  apply Array.ext'
  simp [List.map_set]
def Mem (root : Rx) (ws : List Int) (m : Nat) (K : Nat × Nat → Prop) (S : Nat → Prop) (w : World) : Prop :=
  ∃ es, MapG w m plcV okP es ∧ ∀ p v, (p, v) ∈ es → K p ∧ ∃ r b, nodeAt root p.1 = some r ∧ S b ∧ v = .slice (some ⟨b, 0, none⟩) (ws.length + 1) (ws.length + 1) ∧ BoolsB w b (endsF ws r p.2)
theorem BoolsB.lt {w : World} {b : Nat} {xs : List Bool} (h : BoolsB w b xs) : b < w.heap.size := lt_of_block h
theorem BoolsB.ext {w w' : World} {b : Nat} {xs : List Bool} (h : BoolsB w b xs) (e : Ext w w') : BoolsB w' b xs := heap_ext e h
theorem BoolsB.grown {w w' : World} {b m : Nat} {xs : List Bool} (h : BoolsB w b xs) (g : w.grownBy w' (some m)) (hb : b ≠ m) : BoolsB w' b xs := blk_keep h g hb
theorem MapG.ne {κ : Type} [DecidableEq κ] {enc : κ → Value} {ok : κ → Prop} {es : List (κ × Value)} {w : World} {m b : Nat} {cs : Array Value} {t : TypeId} (h : MapG w m enc ok es) (hb : w.heap[b]? = some (.cells cs t (0, 0))) : b ≠ m := by
  rintro rfl
  obtain ⟨a, b, c, _⟩ := h
  rw [hb] at c
  cases c
theorem Mem.mono {root : Rx} {ws : List Int} {m : Nat} {K K' : Nat × Nat → Prop} {S S' : Nat → Prop} {w : World} (h : Mem root ws m K S w) (hk : ∀ p, K p → K' p) (hs : ∀ b, S b → b < w.heap.size → S' b) : Mem root ws m K' S' w := by
  obtain ⟨es, h1, h2⟩ := h
  refine ⟨es, h1, fun p v hp => ⟨hk p (h2 p v hp).1, ?_⟩⟩
  obtain ⟨r, b, a1, a2, a3, a4⟩ := (h2 p v hp).2
  exact ⟨r, b, a1, hs b a2 a4.lt, a3, a4⟩
theorem Mem.lt {root : Rx} {ws : List Int} {m : Nat} {K : Nat × Nat → Prop} {S : Nat → Prop} {w : World} (h : Mem root ws m K S w) : m < w.heap.size := by
  obtain ⟨es, h1, h2⟩ := h; exact h1.lt
theorem Mem.ne {root : Rx} {ws : List Int} {m b : Nat} {K : Nat × Nat → Prop} {S : Nat → Prop} {w : World} {cs : Array Value} {t : TypeId} (h : Mem root ws m K S w) (hb : w.heap[b]? = some (.cells cs t (0, 0))) : b ≠ m := by
  obtain ⟨es, h1, h2⟩ := h; exact h1.ne hb
theorem Mem.ext {root : Rx} {ws : List Int} {m : Nat} {K : Nat × Nat → Prop} {S : Nat → Prop} {w w' : World} (h : Mem root ws m K S w) (e : Ext w w') : Mem root ws m K S w' := by
  obtain ⟨es, h1, h2⟩ := h
  exact ⟨es, h1.ext e, fun p v hp => ⟨(h2 p v hp).1, by obtain ⟨r, b, a1, a2, a3, a4⟩ := (h2 p v hp).2; exact ⟨r, b, a1, a2, a3, a4.ext e⟩⟩⟩
theorem Mem.past {root : Rx} {ws : List Int} {m : Nat} {K : Nat × Nat → Prop} {S : Nat → Prop} {w w' : World} {b : Nat} {xs : List Bool} (h : Mem root ws m K S w) (hb : BoolsB w b xs) (g : w.grownBy w' (some b)) (hS : ¬ S b) : Mem root ws m K S w' := by
  have hne := h.ne hb
  obtain ⟨es, h1, h2⟩ := h
  refine ⟨es, h1.grown g (fun e => hne (by injection e)), fun p v hp => ⟨(h2 p v hp).1, ?_⟩⟩
  obtain ⟨r, c, a1, a2, a3, a4⟩ := (h2 p v hp).2
  exact ⟨r, c, a1, a2, a3, a4.grown g (fun e => hS (e ▸ a2))⟩
theorem Mem.add {root : Rx} {ws : List Int} {m : Nat} {K : Nat × Nat → Prop} {S : Nat → Prop} {w w' : World} {es : List ((Nat × Nat) × Value)} {k : Nat × Nat} {v : Value} {r : Rx} {b : Nat} (h1 : MapG w m plcV okP es) (h2 : ∀ p v, (p, v) ∈ es → K p ∧ ∃ r b, nodeAt root p.1 = some r ∧ S b ∧ v = .slice (some ⟨b, 0, none⟩) (ws.length + 1) (ws.length + 1) ∧ BoolsB w b (endsF ws r p.2))
    (h3 : MapG w' m plcV okP (es ++ [(k, v)])) (g : w.grownBy w' (some m)) (hk : K k) (hr : nodeAt root k.1 = some r) (hS : S b) (hv : v = .slice (some ⟨b, 0, none⟩) (ws.length + 1) (ws.length + 1)) (hB : BoolsB w b (endsF ws r k.2)) : Mem root ws m K S w' := by
  refine ⟨_, h3, fun p u hp => ?_⟩
  rcases List.mem_append.1 hp with hp | hp
  · refine ⟨(h2 p u hp).1, ?_⟩
    obtain ⟨r, c, a1, a2, a3, a4⟩ := (h2 p u hp).2
    exact ⟨r, c, a1, a2, a3, a4.grown g (h1.ne a4)⟩
  · simp at hp
    obtain ⟨rfl, rfl⟩ := hp
    exact ⟨hk, r, b, hr, hS, hv, hB.grown g (h1.ne hB)⟩
end Go.Proofs.YtmebgomnmlbgnaaDoor

namespace Go.Proofs.YtmebgomnmlbgnaaDoor
open Go.RowKit Go.Maps
set_option linter.unusedVariables false
set_option linter.unusedSimpArgs false
attribute [local go_sem] Oper.quietV quietV Oper.gives givesV ext_refl_iff ext_alloc_iff ext_drew_iff ext_drewN_iff
structure EnvM (w0 : World) (vw : Value) (bk bw bf m : Nat) (W : World) : Prop where
  ext : Ext w0 W
  k : W.heap[bk]? = some (.cells #[.map (some m)] 85 (0, 0))
  w : W.heap[bw]? = some (.cells #[vw] 42 (0, 0))
  f : W.heap[bf]? = some (.cells #[.func (.func 56) #[] #[.pointer (some ⟨bk, 0, none⟩), .pointer (some ⟨bw, 0, none⟩), .pointer (some ⟨bf, 0, none⟩)]] 86 (0, 0))
  hm : w0.heap.size ≤ m
theorem ext_grow {w w' w'' : World} {r : Option Nat} (e : Ext w w') (g : w'.grownBy w'' r) : w.grownBy w'' r := World.grownBy.trans ⟨e.os, e.tape, e.output, e.size, fun i hi _ => e.block i hi⟩ g
theorem EnvM.next {w0 : World} {vw : Value} {bk bw bf m : Nat} {W W' : World} (h : EnvM w0 vw bk bw bf m W) (e : Ext W W') : EnvM w0 vw bk bw bf m W' := ⟨h.ext.trans e, heap_ext e h.k, heap_ext e h.w, heap_ext e h.f, h.hm⟩
theorem EnvM.grown {w0 : World} {vw : Value} {bk bw bf m : Nat} {W W' : World} (h : EnvM w0 vw bk bw bf m W) (g : W.grownBy W' (some m)) (hk : bk ≠ m) (hw : bw ≠ m) (hf : bf ≠ m) : EnvM w0 vw bk bw bf m W' :=
  ⟨Below.grown h.ext g h.ext.size (fun k hk => by cases hk; exact h.hm), blk_keep h.k g hk, blk_keep h.w g hw, blk_keep h.f g hf, h.hm⟩
theorem EnvM.mem {w0 : World} {vw : Value} {bk bw bf m : Nat} {W W' : World} {root : Rx} {ws : List Int} {K : Nat × Nat → Prop} {S : Nat → Prop} (h : EnvM w0 vw bk bw bf m W) (g : W.grownBy W' (some m)) (hM : Mem root ws m K S W) : EnvM w0 vw bk bw bf m W' := h.grown g (hM.ne h.k) (hM.ne h.w) (hM.ne h.f)
theorem EnvM.past {w0 : World} {vw : Value} {bk bw bf m : Nat} {W W' : World} {b : Nat} (h : EnvM w0 vw bk bw bf m W) (g : W.grownBy W' (some b)) (hb : w0.heap.size ≤ b) (hk : bk ≠ b) (hw : bw ≠ b) (hf : bf ≠ b) : EnvM w0 vw bk bw bf m W' :=
  ⟨Below.grown h.ext g h.ext.size (fun k hk => by cases hk; exact hb), blk_keep h.k g hk, blk_keep h.w g hw, blk_keep h.f g hf, h.hm⟩
def keysB (K : Nat × Nat → Prop) (num c : Nat) : Nat × Nat → Prop := fun p => K p ∨ (num ≤ p.1 ∧ p.1 < num + c)
def EndQ (root : Rx) (ws : List Int) (m : Nat) (S : Nat → Prop) (K : Nat × Nat → Prop) (num frm : Nat) (r : Rx) (w : World) (e : Ending) (w' : World) : Prop :=
  ∃ b, e = .returned (.slice (some ⟨b, 0, none⟩) (ws.length + 1) (ws.length + 1)) ∧ S b ∧ BoolsB w' b (endsF ws r frm) ∧ w.grownBy w' (some m) ∧ Mem root ws m (keysB K num r.cnt) S w'
def EndT (w0 : World) (vw : Value) (bk bw bf m : Nat) (root : Rx) (ws : List Int) (r : Rx) : Prop :=
  ∀ (S : Nat → Prop) (K : Nat × Nat → Prop) (w : World) (v : Value) (num frm : Nat), New S w → nodeAt root num = some r → frm ≤ ws.length → EnvM w0 vw bk bw bf m w → NodeV w0 r.tr v → Mem root ws m K S w →
    Calls Tryd.prog 56 #[v, .int .i64 (num : Int), .int .i64 (frm : Int), .pointer (some ⟨bk, 0, none⟩), .pointer (some ⟨bw, 0, none⟩), .pointer (some ⟨bf, 0, none⟩)] w (EndQ root ws m S K num frm r w)
theorem sub_tr {s t : Rx} {i : Nat} (h : subOf s i = some t) : s.tr.subs[i]? = some t.tr := by
  cases s with
  | none => cases h
  | empty => cases h
  | sym a => cases h
  | or x y => match i, h with
    | 0, h => cases h; rfl
    | 1, h => cases h; rfl
  | seq x y => match i, h with
    | 0, h => cases h; rfl
    | 1, h => cases h; rfl
  | and x y => match i, h with
    | 0, h => cases h; rfl
    | 1, h => cases h; rfl
  | star x => match i, h with
    | 0, h => cases h; rfl
  | not x => match i, h with
    | 0, h => cases h; rfl
theorem sub_one {s t : Rx} (h : subOf s 1 = some t) : ∃ x, subOf s 0 = some x ∧ offOf s 1 = x.cnt + 1 := by
  cases s with
  | or x y => exact ⟨x, rfl, rfl⟩
  | seq x y => exact ⟨x, rfl, rfl⟩
  | and x y => exact ⟨x, rfl, rfl⟩
  | _ => cases h
theorem off_zero (s : Rx) : offOf s 0 = 1 := by cases s <;> rfl
theorem siz_cnt {r : Rx} (h : r.cnt ≤ 64) : sizT r.tr = r.cnt := by
  have h1 := siz_le r.tr
  rw [cnt_tr] at h1
  exact h1.2 (by omega)
set_option maxRecDepth 100000 in
set_option maxHeartbeats 4000000 in
theorem sub0_any {w0 W : World} {vw : Value} {bk bw bf m nb xb num frm c : Nat} {A : Option Addr} {root s t : Rx} {ws : List Int} {S : Nat → Prop} {K : Nat × Nat → Prop} : subOf s 0 = some t → EndT w0 vw bk bw bf m root ws t → EnvM w0 vw bk bw bf m W → W.cell? ⟨nb, 0, none⟩ = some (.int .i64 (num : Int)) → W.cell? ⟨xb, 2, none⟩ = some (.slice A s.tr.subs.length c) → NodesV w0 A s.tr.subs → nodeAt root num = some s → frm ≤ ws.length → New S W → Mem root ws m K S W → root.cnt ≤ 64 →
    Calls Tryd.prog 57 #[.int .i64 0, .int .i64 (frm : Int), .pointer (some ⟨nb, 0, none⟩), .pointer (some ⟨xb, 0, none⟩), .pointer (some ⟨bf, 0, none⟩)] W (EndQ root ws m S K (num + 1) frm t W) := by
  intro hs IH hE hn hx hA hnum hf hS hM hr
  obtain ⟨b, o, A1, c1, rfl, d0, d1, d2, hv⟩ := hA.at_ (sub_tr hs)
  have hcnt := nodeAt_lt hnum
  have hsc := sub_cnt hs
  have hnt := nodeAt_sub hnum hs
  have hL := List.getElem?_eq_some_iff.1 (sub_tr hs)
  have hlen : (0 : Int) < (s.tr.subs.length : Int) := by have : 0 < s.tr.subs.length := hL.1; omega
  have hlenN : 0 < s.tr.subs.length := hL.1
  have hW0 := hE.ext
  simp only [Nat.zero_mul, Nat.one_mul, Nat.add_zero] at d0 d1 d2
  have kf : ∀ w', Ext W w' → w'.cell? ⟨bf, 0, none⟩ = some (.func (.func 56) #[] #[.pointer (some ⟨bk, 0, none⟩), .pointer (some ⟨bw, 0, none⟩), .pointer (some ⟨bf, 0, none⟩)]) := fun w' (e : Ext W w') => e.cell (cell_of_blk hE.f 0 rfl)
  have d0 := fun w' (e : Ext W w') => (hW0.trans e).cell d0
  have d1 := fun w' (e : Ext W w') => (hW0.trans e).cell d1
  have d2 := fun w' (e : Ext W w') => (hW0.trans e).cell d2
  have hn := fun w' (e : Ext W w') => e.cell hn
  have hx := fun w' (e : Ext W w') => e.cell hx
  have hc := fun w1 (e : Ext W w1) => IH S K w1 _ (num + 1) frm (hS.ext e) (by rw [← off_zero s]; exact hnt) hf (hE.next e) hv (hM.ext e)
  unfold EndQ at *
  rw [show ((num + 1 : Nat) : Int) = (num : Int) + 1 by omega] at hc
  have HR := Ext.refl W
  have HCC := Lib.hid hc
  clear IH hE hA hnum hf hS hM hnt hsc hL hW0 hv hs hc
  generalize s.tr.subs.length = ls at *
  generalize t.tr.op = ot at *
  generalize t.tr.n = nt at *
  generalize t.tr.subs.length = lt at *
  have hcnt : num ≤ 64 := by omega
  go_enter Tryd.func57, Tryd.ntmps57
  go_upto_region 4 with fail
  refine wp_named ?_
  intro W1 hW1
  have hWE : Ext W W1 := by rw [hW1]; exact Ext.refl _
  clear hW1
  have hx := fun w' (e : Ext W1 w') => hx w' (hWE.trans e)
  have kf := fun w' (e : Ext W1 w') => kf w' (hWE.trans e)
  have d0 := fun w' (e : Ext W1 w') => d0 w' (hWE.trans e)
  have d1 := fun w' (e : Ext W1 w') => d1 w' (hWE.trans e)
  have d2 := fun w' (e : Ext W1 w') => d2 w' (hWE.trans e)
  refine wp_region_ext 8 (factsOf []) (fun k => ([[], [], [1], [], [1, 2, 3], [1, 2, 3, 4], [], [], [0, 1, 2, 3, 4, 5, 6, 7], [0, 1, 2, 3, 4, 5, 6, 7, 8]] : List (List Nat)).getD k []) (by kernel_rfl) (by kernel_rfl) Ext.pre (mono_nil) ?_
  simp only [List.take_succ_cons, List.take_zero]
  repeat (first | (with_reducible refine lexL_quiet' (v := ?_) ?_ ?_ ?_ ?_; rotate_left; (· with_reducible rfl); (· simp [factsOf]); (· intro w1 hw1 _; go_simp; with_reducible rfl); (try simp only [Act.put, List.setIfInBounds_toArray, List.set_cons_zero, List.set_cons_succ])) | (with_reducible refine lexL_skip ?_ ?_; (· simp [Region.wanted, yielded, undef]); (try simp only [Act.put, List.setIfInBounds_toArray, List.set_cons_zero, List.set_cons_succ])) | (with_reducible refine lexL_quiet (v := ?_) ?_ ?_ ?_ ?_; rotate_left; (· simp [Region.wanted, yielded, undef]); (· simp [factsOf]); (· intro w1 hw1 _; go_simp; with_reducible rfl); (try simp only [Act.put, List.setIfInBounds_toArray, List.set_cons_zero, List.set_cons_succ])))
  with_reducible refine lexL_nil ?_; intro w1 hw1 hk1; simp only [List.drop_succ_cons, List.drop_zero]
  have hw1 := hWE.trans hw1
  clear hx kf d0 d1 d2
  go_wp2_with ((with_reducible refine (HCC.out _ hw1).mono ?_); rintro e w6 ⟨b5, rfl, h5, h6, h7, h8⟩)
  go_ret
  exact ⟨b5, rfl, h5, h6, ext_grow hw1 h7, h8⟩
set_option maxRecDepth 100000 in
set_option maxHeartbeats 4000000 in
theorem sub1_any {w0 W : World} {vw : Value} {bk bw bf m nb xb num frm c : Nat} {A : Option Addr} {root s t : Rx} {ws : List Int} {S : Nat → Prop} {K : Nat × Nat → Prop} : subOf s 1 = some t → EndT w0 vw bk bw bf m root ws t → EnvM w0 vw bk bw bf m W → W.cell? ⟨nb, 0, none⟩ = some (.int .i64 (num : Int)) → W.cell? ⟨xb, 2, none⟩ = some (.slice A s.tr.subs.length c) → NodesV w0 A s.tr.subs → nodeAt root num = some s → frm ≤ ws.length → New S W → Mem root ws m K S W → root.cnt ≤ 64 →
    Calls Tryd.prog 57 #[.int .i64 1, .int .i64 (frm : Int), .pointer (some ⟨nb, 0, none⟩), .pointer (some ⟨xb, 0, none⟩), .pointer (some ⟨bf, 0, none⟩)] W (EndQ root ws m S K (num + offOf s 1) frm t W) := by
  intro hs IH hE hn hx hA hnum hf hS hM hr
  obtain ⟨b, o, A1, c1, rfl, d0, d1, d2, hv⟩ := hA.at_ (sub_tr hs)
  have hcnt := nodeAt_lt hnum
  have hsc := sub_cnt hs
  have hnt := nodeAt_sub hnum hs
  have hL := List.getElem?_eq_some_iff.1 (sub_tr hs)
  have hlen : (1 : Int) < (s.tr.subs.length : Int) := by have : 1 < s.tr.subs.length := hL.1; omega
  have hlenN : 1 < s.tr.subs.length := hL.1
  have hW0 := hE.ext
  simp only [Nat.zero_mul, Nat.one_mul, Nat.add_zero] at d0 d1 d2
  have kf : ∀ w', Ext W w' → w'.cell? ⟨bf, 0, none⟩ = some (.func (.func 56) #[] #[.pointer (some ⟨bk, 0, none⟩), .pointer (some ⟨bw, 0, none⟩), .pointer (some ⟨bf, 0, none⟩)]) := fun w' (e : Ext W w') => e.cell (cell_of_blk hE.f 0 rfl)
  have d0 := fun w' (e : Ext W w') => (hW0.trans e).cell d0
  have d1 := fun w' (e : Ext W w') => (hW0.trans e).cell d1
  have d2 := fun w' (e : Ext W w') => (hW0.trans e).cell d2
  have hn := fun w' (e : Ext W w') => e.cell hn
  have hx := fun w' (e : Ext W w') => e.cell hx
  obtain ⟨x, hx0, ho⟩ := sub_one hs
  obtain ⟨b', o', A0, c0, hA0, e0, e1, e2, hv0⟩ := hA.at_ (sub_tr hx0)
  cases hA0
  have e0 := fun w' (e : Ext W w') => (hW0.trans e).cell e0
  have e1 := fun w' (e : Ext W w') => (hW0.trans e).cell e1
  have e2 := fun w' (e : Ext W w') => (hW0.trans e).cell e2
  simp only [Nat.zero_mul, Nat.add_zero] at e0 e1 e2
  rw [ho] at hnt hsc ⊢
  have hcx : x.cnt ≤ 64 := by omega
  have hz := fun w' (e : Ext W w') => size_any (by rw [cnt_tr]; omega) (hv0.ext (hW0.trans e))
  unfold ErrP at hz
  rw [siz_cnt hcx] at hz
  have hc := fun w1 (e : Ext W w1) => IH S K w1 _ (num + (x.cnt + 1)) frm (hS.ext e) hnt hf (hE.next e) hv (hM.ext e)
  rw [show ((num + (x.cnt + 1) : Nat) : Int) = (num : Int) + 1 + (x.cnt : Int) by omega] at hc
  unfold EndQ at *
  have HR := Ext.refl W
  have HCC := Lib.hid hc
  clear IH hE hA hnum hf hS hM hnt hL hW0 hv hs hv0 hx0 ho hc
  generalize s.tr.subs.length = ls at *
  generalize t.tr.op = ot at *
  generalize t.tr.n = nt at *
  generalize t.tr.subs.length = lt at *
  generalize x.tr.op = ox at *
  generalize x.tr.n = nx at *
  generalize x.tr.subs.length = lx at *
  generalize x.cnt = cx at *
  have hcnt : num ≤ 64 := by omega
  go_enter Tryd.func57, Tryd.ntmps57
  go_upto_region 4 with ((with_reducible refine (hz _ HR).mono ?_); rintro e W4 ⟨rfl, e4⟩)
  clear e0 e1 e2 hz
  refine wp_named ?_
  intro W1 hW1
  have hWE : Ext W W1 := by rw [hW1]; exact e4
  clear hW1
  have hx := fun w' (e : Ext W1 w') => hx w' (hWE.trans e)
  have kf := fun w' (e : Ext W1 w') => kf w' (hWE.trans e)
  have d0 := fun w' (e : Ext W1 w') => d0 w' (hWE.trans e)
  have d1 := fun w' (e : Ext W1 w') => d1 w' (hWE.trans e)
  have d2 := fun w' (e : Ext W1 w') => d2 w' (hWE.trans e)
  refine wp_region_ext 8 (factsOf []) (fun k => ([[], [], [1], [], [1, 2, 3], [1, 2, 3, 4], [], [], [0, 1, 2, 3, 4, 5, 6, 7], [0, 1, 2, 3, 4, 5, 6, 7, 8]] : List (List Nat)).getD k []) (by kernel_rfl) (by kernel_rfl) Ext.pre (mono_nil) ?_
  simp only [List.take_succ_cons, List.take_zero]
  repeat (first | (with_reducible refine lexL_quiet' (v := ?_) ?_ ?_ ?_ ?_; rotate_left; (· with_reducible rfl); (· simp [factsOf]); (· intro w1 hw1 _; go_simp; with_reducible rfl); (try simp only [Act.put, List.setIfInBounds_toArray, List.set_cons_zero, List.set_cons_succ])) | (with_reducible refine lexL_skip ?_ ?_; (· simp [Region.wanted, yielded, undef]); (try simp only [Act.put, List.setIfInBounds_toArray, List.set_cons_zero, List.set_cons_succ])) | (with_reducible refine lexL_quiet (v := ?_) ?_ ?_ ?_ ?_; rotate_left; (· simp [Region.wanted, yielded, undef]); (· simp [factsOf]); (· intro w1 hw1 _; go_simp; with_reducible rfl); (try simp only [Act.put, List.setIfInBounds_toArray, List.set_cons_zero, List.set_cons_succ])))
  with_reducible refine lexL_nil ?_; intro w1 hw1 hk1; simp only [List.drop_succ_cons, List.drop_zero]
  have hw1 := hWE.trans hw1
  clear hx kf d0 d1 d2
  go_wp2_with ((with_reducible refine (HCC.out _ hw1).mono ?_); rintro e w6 ⟨b5, rfl, h5, h6, h7, h8⟩)
  go_ret
  exact ⟨b5, rfl, h5, h6, ext_grow hw1 h7, h8⟩
end Go.Proofs.YtmebgomnmlbgnaaDoor

namespace Go.Proofs.YtmebgomnmlbgnaaDoor
open Go.RowKit Go.Maps
set_option linter.unusedVariables false
set_option linter.unusedSimpArgs false
def partL (f g : Nat → Bool) (n j : Nat) : List Bool := (List.range n).map (fun k => if k < j then f k else g k)
theorem partL_len (f g : Nat → Bool) (n j : Nat) : (partL f g n j).length = n := by simp [partL]
theorem partL_step (f g : Nat → Bool) {n j : Nat} (hj : j < n) : (partL f g n j).set j (f j) = partL f g n (j + 1) := by
  apply List.ext_getElem
  · simp [partL]
  · intro k h1 h2
    simp only [partL, List.getElem_set, List.getElem_map, List.getElem_range]
    by_cases e : j = k
    · subst e; simp
    · rw [if_neg e]
      by_cases h : k < j
      · rw [if_pos h, if_pos (by omega)]
      · rw [if_neg h, if_neg (by omega)]
theorem partL_zero (f g : Nat → Bool) (n : Nat) : partL f g n 0 = (List.range n).map g := by simp [partL]
theorem partL_full (f g : Nat → Bool) (n : Nat) : partL f g n n = (List.range n).map f := by
  apply List.ext_getElem
  · simp [partL]
  · intro k h1 h2
    simp only [partL, List.getElem_map, List.getElem_range]
    rw [if_pos (by simpa [partL] using h1)]
theorem partL_at (f g : Nat → Bool) {n j : Nat} (hj : j < n) : (partL f g n j).getD j false = g j := by
  rw [List.getD_eq_getElem?_getD, List.getElem?_eq_getElem (by simpa [partL] using hj)]
  simp [partL]
theorem range_getD {l : List Bool} {n : Nat} (h : l.length = n) : (List.range n).map (fun k => l.getD k false) = l := by
  apply List.ext_getElem
  · simp [h]
  · intro k h1 h2
    simp only [List.getElem_map, List.getElem_range, List.getD_eq_getElem?_getD, List.getElem?_eq_getElem h2, Option.getD_some]
theorem zeroL_map (n : Nat) : (List.range (n + 1)).map (fun _ => false) = zeroL n := by
  apply List.ext_getElem
  · simp [zeroL]
  · intro k h1 h2; simp [zeroL]
theorem orL_map {a b : List Bool} {n : Nat} (ha : a.length = n) (hb : b.length = n) : (List.range n).map (fun k => a.getD k false || b.getD k false) = orL a b := by
  apply List.ext_getElem
  · simp [orL, ha, hb]
  · intro k h1 h2
    have hk : k < n := by simpa using h1
    simp only [orL, List.getElem_map, List.getElem_range, List.getElem_zipWith, List.getD_eq_getElem?_getD, List.getElem?_eq_getElem (show k < a.length by omega), List.getElem?_eq_getElem (show k < b.length by omega), Option.getD_some]
theorem andL_map {a b : List Bool} {n : Nat} (ha : a.length = n) (hb : b.length = n) : (List.range n).map (fun k => a.getD k false && b.getD k false) = andL a b := by
  apply List.ext_getElem
  · simp [andL, ha, hb]
  · intro k h1 h2
    have hk : k < n := by simpa using h1
    simp only [andL, List.getElem_map, List.getElem_range, List.getElem_zipWith, List.getD_eq_getElem?_getD, List.getElem?_eq_getElem (show k < a.length by omega), List.getElem?_eq_getElem (show k < b.length by omega), Option.getD_some]
def KM (K : Nat × Nat → Prop) (num frm c : Nat) : Nat × Nat → Prop := fun p => (K p ∧ p ≠ (num, frm)) ∨ (num < p.1 ∧ p.1 < num + c)
def SM (S : Nat → Prop) (w : World) : Nat → Prop := fun b => S b ∧ ¬ (w.heap.size ≤ b ∧ b < w.heap.size + 4)
structure MidM (w0 : World) (vw : Value) (bk bw bf m : Nat) (root : Rx) (ws : List Int) (S : Nat → Prop) (K : Nat × Nat → Prop) (num frm cn : Nat) (nv : Array Value) (w : World) (out : List Bool) (W : World) : Prop where
  lt : bk < w.heap.size ∧ bw < w.heap.size ∧ bf < w.heap.size ∧ m < w.heap.size ∧ w0.heap.size ≤ w.heap.size
  g : w.grownBy W (some m)
  env : EnvM w0 vw bk bw bf m W
  nd : W.heap[w.heap.size]? = some (.cells nv 35 (0, 0))
  nb : W.heap[w.heap.size + 1]? = some (.cells #[.int .i64 (num : Int)] 3 (0, 0))
  pl : W.heap[w.heap.size + 2]? = some (.cells #[.int .i64 (num : Int), .int .i64 (frm : Int)] 88 (0, 0))
  out : BoolsB W (w.heap.size + 3) out
  mem : Mem root ws m (KM K num frm cn) (SM S w) W
section
variable {w0 w W W' : World} {vw : Value} {bk bw bf m : Nat} {root : Rx} {ws : List Int} {S : Nat → Prop} {K : Nat × Nat → Prop} {num frm cn : Nat} {nv : Array Value} {out : List Bool}
theorem MidM.new (h : MidM w0 vw bk bw bf m root ws S K num frm cn nv w out W) (hS : New S w) : New (SM S w) W := fun b hb => ⟨hS b (Nat.le_trans h.g.size hb), fun e => by have := h.out.lt; omega⟩
theorem MidM.next (h : MidM w0 vw bk bw bf m root ws S K num frm cn nv w out W) (e : Ext W W') : MidM w0 vw bk bw bf m root ws S K num frm cn nv w out W' :=
  ⟨h.lt, h.g.trans (grown_of_ext e _), h.env.next e, heap_ext e h.nd, heap_ext e h.nb, heap_ext e h.pl, h.out.ext e, h.mem.ext e⟩
theorem MidM.sub {n' : Nat} {t : Rx} (h : MidM w0 vw bk bw bf m root ws S K num frm cn nv w out W) (hn : num < n') (hc : n' + t.cnt ≤ num + cn) (g : W.grownBy W' (some m)) (hM : Mem root ws m (keysB (KM K num frm cn) n' t.cnt) (SM S w) W') :
    MidM w0 vw bk bw bf m root ws S K num frm cn nv w out W' :=
  ⟨h.lt, h.g.trans g, h.env.mem g h.mem, blk_keep h.nd g (h.mem.ne h.nd), blk_keep h.nb g (h.mem.ne h.nb), blk_keep h.pl g (h.mem.ne h.pl), h.out.grown g (h.mem.ne h.out), hM.mono (fun p hp => by
    rcases hp with hp | hp
    · exact hp
    · exact .inr ⟨by omega, by omega⟩) (fun b hb _ => hb)⟩
theorem MidM.other {b : Nat} {xs : List Bool} (h : MidM w0 vw bk bw bf m root ws S K num frm cn nv w out W) (hB : BoolsB W b xs) (g : W.grownBy W' (some m)) : BoolsB W' b xs := hB.grown g (h.mem.ne hB)
theorem MidM.put (h : MidM w0 vw bk bw bf m root ws S K num frm cn nv w out W) (k : Nat) (v : Bool) : MidM w0 vw bk bw bf m root ws S K num frm cn nv w (out.set k v) (W.setCell ⟨w.heap.size + 3, k, none⟩ (.bool v)) := by
  have g := grown_setK W (w.heap.size + 3) k (.bool v)
  have hl := h.lt
  exact ⟨h.lt, grown_past h.g (by omega) g, h.env.past g (by omega) (by omega) (by omega) (by omega), blk_keep h.nd g (by omega), blk_keep h.nb g (by omega), blk_keep h.pl g (by omega), h.out.put k v, h.mem.past h.out g (fun hs => hs.2 ⟨by omega, by omega⟩)⟩
theorem SM.ne {b : Nat} (h : SM S w b) : b ≠ w.heap.size + 3 := fun e => h.2 ⟨by omega, by omega⟩
theorem SM.put {b k : Nat} {v : Bool} {xs : List Bool} (h : SM S w b) (hB : BoolsB W b xs) : BoolsB (W.setCell ⟨w.heap.size + 3, k, none⟩ (.bool v)) b xs := hB.grown (grown_setK W (w.heap.size + 3) k (.bool v)) h.ne
theorem miss_mem {es : List ((Nat × Nat) × Value)} (h1 : MapG w m plcV okP es) (h2 : ∀ p v, (p, v) ∈ es → K p ∧ ∃ r b, nodeAt root p.1 = some r ∧ S b ∧ v = .slice (some ⟨b, 0, none⟩) (ws.length + 1) (ws.length + 1) ∧ BoolsB w b (endsF ws r p.2)) (hg : getG es (num, frm) = none) :
    Mem root ws m (KM K num frm cn) (SM S w) w := by
  refine ⟨es, h1, fun p v hp => ⟨.inl ⟨(h2 p v hp).1, fun e => getG_none.1 hg _ hp (by simpa using e)⟩, ?_⟩⟩
  obtain ⟨r, b, a1, a2, a3, a4⟩ := (h2 p v hp).2
  exact ⟨r, b, a1, ⟨a2, fun e => by have := a4.lt; omega⟩, a3, a4⟩
theorem getG_mem {κ : Type} [DecidableEq κ] {es : List (κ × Value)} {x : κ} {v : Value} (h : getG es x = some v) : (x, v) ∈ es := by
  unfold getG at h
  cases hf : es.find? (fun p => p.1 == x) with
  | none => rw [hf] at h; cases h
  | some p =>
    rw [hf] at h
    have h1 := List.mem_of_find?_eq_some hf
    have h2 := List.find?_some hf
    simp at h h2
    obtain ⟨a, b⟩ := p
    simp only at h h2
    subst h h2
    exact h1
theorem miss_get {es : List ((Nat × Nat) × Value)} (h1 : MapG W m plcV okP es) (h2 : ∀ p v, (p, v) ∈ es → KM K num frm cn p ∧ ∃ r b, nodeAt root p.1 = some r ∧ SM S w b ∧ v = .slice (some ⟨b, 0, none⟩) (ws.length + 1) (ws.length + 1) ∧ BoolsB W b (endsF ws r p.2)) : getG es (num, frm) = none := by
  rw [getG_none]
  intro p hp e
  obtain ⟨q, v⟩ := p
  simp only at e
  rcases (h2 q v hp).1 with ⟨_, h⟩ | ⟨h, _⟩
  · exact h e
  · rw [e] at h; exact Nat.lt_irrefl _ h
theorem MidM.done {W : World} {r : Rx} {b : Nat} {w9 : World} {es : List ((Nat × Nat) × Value)} (h : MidM w0 vw bk bw bf m root ws S K num frm r.cnt nv w (endsF ws r frm) W) (hS : New S w) (hr : nodeAt root num = some r) (h2 : ∀ p v, (p, v) ∈ es → KM K num frm r.cnt p ∧ ∃ r b, nodeAt root p.1 = some r ∧ SM S w b ∧ v = .slice (some ⟨b, 0, none⟩) (ws.length + 1) (ws.length + 1) ∧ BoolsB W b (endsF ws r p.2)) (h1 : MapG W m plcV okP es)
    (hb : b = w.heap.size + 3) (h9 : MapG w9 m plcV okP (es ++ [((num, frm), .slice (some ⟨b, 0, none⟩) (ws.length + 1) (ws.length + 1))])) (g : W.grownBy w9 (some m)) : EndQ root ws m S K num frm r w (.returned (.slice (some ⟨b, 0, none⟩) (ws.length + 1) (ws.length + 1))) w9 := by
  subst hb
  have hc := cnt_pos r
  have hSb : S (w.heap.size + 3) := hS _ (by omega)
  refine ⟨_, rfl, hSb, h.other h.out g, h.g.trans g, Mem.add (K := keysB K num r.cnt) (S := S) h1 (fun p v hp => ⟨?_, ?_⟩) h9 g (.inr ⟨Nat.le_refl _, by simp only; omega⟩) hr hSb rfl h.out⟩
  · rcases (h2 p v hp).1 with h | h
    · exact .inl h.1
    · exact .inr ⟨by omega, by omega⟩
  · obtain ⟨r, b, a1, a2, a3, a4⟩ := (h2 p v hp).2
    exact ⟨r, b, a1, a2.1, a3, a4⟩
theorem hit_done {W : World} {r : Rx} {es : List ((Nat × Nat) × Value)} {v : Value} (hM : Mem root ws m K S w) (h1 : MapG w m plcV okP es) (h2 : ∀ p v, (p, v) ∈ es → K p ∧ ∃ r b, nodeAt root p.1 = some r ∧ S b ∧ v = .slice (some ⟨b, 0, none⟩) (ws.length + 1) (ws.length + 1) ∧ BoolsB w b (endsF ws r p.2)) (hg : getG es (num, frm) = some v) (hr : nodeAt root num = some r) (e : Ext w W) :
    EndQ root ws m S K num frm r w (.returned v) W := by
  obtain ⟨-, s, b, a1, a2, a3, a4⟩ := h2 _ _ (getG_mem hg)
  simp only at a1 a4
  rw [hr] at a1
  cases a1
  exact ⟨b, by rw [a3], a2, a4.ext e, grown_of_ext e _, (hM.ext e).mono (fun p hp => .inl hp) (fun b hb _ => hb)⟩
end
end Go.Proofs.YtmebgomnmlbgnaaDoor
