/-    -/
import Derived.Test.YtmebgomnmlbgnaaDoorZB
import Derived.Test.YtmebgomnmlbgnaaDoorZA
set_option linter.unnecessarySimpa false
set_option linter.unusedSectionVars false
namespace Go.Proofs.YtmebgomnmlbgnaaDoor
open Go.RowKit
set_option linter.unusedVariables false
set_option linter.unusedSimpArgs false
attribute [local go_sem] Oper.quietV quietV Oper.gives givesV ext_refl_iff ext_alloc_iff ext_drew_iff ext_drewN_iff
def nulR : Rx → Bool
  | .none => false | .empty => true | .sym _ => false
  | .or x y => nulR x || nulR y | .seq x y => nulR x && nulR y | .and x y => nulR x && nulR y
  | .star _ => true | .not x => !nulR x
def NulS (r : Rx) : Prop := ∀ (w : World) (v : Value), NodeV w r.tr v → Calls Tryd.prog 72 #[v] w (BoolP w (nulR r))
set_option maxRecDepth 100000 in
set_option maxHeartbeats 4000000 in
theorem nul_none : NulS .none := by
  intro w v hN
  obtain ⟨A, c, rfl⟩ := leaf_form hN
  clear hN
  go_enter Tryd.func72, Tryd.ntmps72
  go_upto_region 1 with fail
  refine wp_named ?_
  intro W1 hW1
  have hE1 : Ext w W1 := by rw [hW1]; first | exact alloc_ext _ _ | exact (Ext.refl _).alloc _ | exact ((Ext.refl _).alloc _).drew
  have k0 : ∀ w', Ext W1 w' → w'.cell? ⟨w.heap.size, 0, none⟩ = some (.int .u8 0) := fun w' h => h.cell (by rw [hW1]; simp [go_sem])
  clear hW1
  generalize w.heap.size = b2 at *
  have hR1 := Ext.refl W1
  have HE1 := Lib.hid hE1
  go_wp2
  go_ret
  exact ⟨rfl, HE1.out⟩
set_option maxRecDepth 100000 in
set_option maxHeartbeats 4000000 in
theorem nul_empty : NulS .empty := by
  intro w v hN
  obtain ⟨A, c, rfl⟩ := leaf_form hN
  clear hN
  go_enter Tryd.func72, Tryd.ntmps72
  go_upto_region 1 with fail
  refine wp_named ?_
  intro W1 hW1
  have hE1 : Ext w W1 := by rw [hW1]; first | exact alloc_ext _ _ | exact (Ext.refl _).alloc _ | exact ((Ext.refl _).alloc _).drew
  have k0 : ∀ w', Ext W1 w' → w'.cell? ⟨w.heap.size, 0, none⟩ = some (.int .u8 1) := fun w' h => h.cell (by rw [hW1]; simp [go_sem])
  clear hW1
  generalize w.heap.size = b2 at *
  have hR1 := Ext.refl W1
  have HE1 := Lib.hid hE1
  go_wp2
  go_ret
  exact ⟨rfl, HE1.out⟩
set_option maxRecDepth 100000 in
set_option maxHeartbeats 4000000 in
theorem nul_sym (a : Nat) : NulS (.sym a) := by
  intro w v hN
  obtain ⟨A, c, rfl⟩ := leaf_form hN
  clear hN
  go_enter Tryd.func72, Tryd.ntmps72
  go_upto_region 1 with fail
  refine wp_named ?_
  intro W1 hW1
  have hE1 : Ext w W1 := by rw [hW1]; first | exact alloc_ext _ _ | exact (Ext.refl _).alloc _ | exact ((Ext.refl _).alloc _).drew
  have k0 : ∀ w', Ext W1 w' → w'.cell? ⟨w.heap.size, 0, none⟩ = some (.int .u8 2) := fun w' h => h.cell (by rw [hW1]; simp [go_sem])
  clear hW1
  generalize w.heap.size = b2 at *
  have hR1 := Ext.refl W1
  have HE1 := Lib.hid hE1
  go_wp2
  go_ret
  exact ⟨rfl, HE1.out⟩
set_option maxRecDepth 100000 in
set_option maxHeartbeats 4000000 in
theorem nul_or (x y : Rx) (hx : NulS x) (hy : NulS y) : NulS (.or x y) := by
  have HR : Hid (nulR (.or x y) = (nulR x || nulR y)) := Lib.hid rfl
  intro w v hN
  obtain ⟨b, o, c, A1, c1, A2, c2, rfl, d0, d1, d2, hn1, d3, d4, d5, hn2, hc⟩ := two_form hN
  clear hN
  have h1 := fun w1 (hE : Ext w w1) => hx w1 _ (hn1.ext hE)
  have h2 := fun w1 (hE : Ext w w1) => hy w1 _ (hn2.ext hE)
  generalize nulR (.or x y) = r at *
  generalize nulR x = rx at *
  generalize nulR y = ry at *
  generalize x.tr.op = ox at *
  generalize y.tr.op = oy at *
  generalize x.tr.n = nx at *
  generalize y.tr.n = ny at *
  generalize x.tr.subs.length = lx at *
  generalize y.tr.subs.length = ly at *
  clear hn1 hn2 hx hy
  go_enter Tryd.func72, Tryd.ntmps72
  go_upto_region 1 with fail
  refine wp_named ?_
  intro W1 hW1
  have hE1 : Ext w W1 := by rw [hW1]; first | exact alloc_ext _ _ | exact (Ext.refl _).alloc _ | exact ((Ext.refl _).alloc _).drew
  have k0 : ∀ w', Ext W1 w' → w'.cell? ⟨w.heap.size, 0, none⟩ = some (.int .u8 3) := fun w' h => h.cell (by rw [hW1]; simp [go_sem])
  have k2 : ∀ w', Ext W1 w' → w'.cell? ⟨w.heap.size, 2, none⟩ = some (.slice (some ⟨b, o, none⟩) 2 c) := fun w' h => h.cell (by rw [hW1]; simp [go_sem])
  clear hW1
  have d0 := fun w1 (h : Ext W1 w1) => (hE1.trans h).cell d0
  have d1 := fun w1 (h : Ext W1 w1) => (hE1.trans h).cell d1
  have d2 := fun w1 (h : Ext W1 w1) => (hE1.trans h).cell d2
  have d3 := fun w1 (h : Ext W1 w1) => (hE1.trans h).cell d3
  have d4 := fun w1 (h : Ext W1 w1) => (hE1.trans h).cell d4
  have d5 := fun w1 (h : Ext W1 w1) => (hE1.trans h).cell d5
  generalize w.heap.size = b2 at *
  have hR1 := Ext.refl W1
  have HE1 := Lib.hid hE1
  unfold BoolP at h1 h2
  cases rx with
  | true =>
    have HR : Hid (r = true) := Lib.hid (by rw [HR.out]; rfl)
    go_wp2_with ((with_reducible refine (h1 _ HE1.out).mono ?_); rintro e W5 ⟨rfl, e5⟩)
    go_ret
    exact ⟨by rw [HR.out]; rfl, HE1.out.trans e5⟩
  | false =>
    have HR : Hid (r = ry) := Lib.hid (by rw [HR.out]; first | rfl | simp)
    go_wp2_with (first | ((with_reducible refine (h1 _ HE1.out).mono ?_); rintro e W5 ⟨rfl, e5⟩) | ((with_reducible refine (h2 _ (HE1.out.trans e5)).mono ?_); rintro e W6 ⟨rfl, e6⟩))
    go_ret
    exact ⟨by rw [HR.out]; rfl, (HE1.out.trans e5).trans e6⟩
set_option maxRecDepth 100000 in
set_option maxHeartbeats 4000000 in
theorem nul_seq (x y : Rx) (hx : NulS x) (hy : NulS y) : NulS (.seq x y) := by
  have HR : Hid (nulR (.seq x y) = (nulR x && nulR y)) := Lib.hid rfl
  intro w v hN
  obtain ⟨b, o, c, A1, c1, A2, c2, rfl, d0, d1, d2, hn1, d3, d4, d5, hn2, hc⟩ := two_form hN
  clear hN
  have h1 := fun w1 (hE : Ext w w1) => hx w1 _ (hn1.ext hE)
  have h2 := fun w1 (hE : Ext w w1) => hy w1 _ (hn2.ext hE)
  generalize nulR (.seq x y) = r at *
  generalize nulR x = rx at *
  generalize nulR y = ry at *
  generalize x.tr.op = ox at *
  generalize y.tr.op = oy at *
  generalize x.tr.n = nx at *
  generalize y.tr.n = ny at *
  generalize x.tr.subs.length = lx at *
  generalize y.tr.subs.length = ly at *
  clear hn1 hn2 hx hy
  go_enter Tryd.func72, Tryd.ntmps72
  go_upto_region 1 with fail
  refine wp_named ?_
  intro W1 hW1
  have hE1 : Ext w W1 := by rw [hW1]; first | exact alloc_ext _ _ | exact (Ext.refl _).alloc _ | exact ((Ext.refl _).alloc _).drew
  have k0 : ∀ w', Ext W1 w' → w'.cell? ⟨w.heap.size, 0, none⟩ = some (.int .u8 4) := fun w' h => h.cell (by rw [hW1]; simp [go_sem])
  have k2 : ∀ w', Ext W1 w' → w'.cell? ⟨w.heap.size, 2, none⟩ = some (.slice (some ⟨b, o, none⟩) 2 c) := fun w' h => h.cell (by rw [hW1]; simp [go_sem])
  clear hW1
  have d0 := fun w1 (h : Ext W1 w1) => (hE1.trans h).cell d0
  have d1 := fun w1 (h : Ext W1 w1) => (hE1.trans h).cell d1
  have d2 := fun w1 (h : Ext W1 w1) => (hE1.trans h).cell d2
  have d3 := fun w1 (h : Ext W1 w1) => (hE1.trans h).cell d3
  have d4 := fun w1 (h : Ext W1 w1) => (hE1.trans h).cell d4
  have d5 := fun w1 (h : Ext W1 w1) => (hE1.trans h).cell d5
  generalize w.heap.size = b2 at *
  have hR1 := Ext.refl W1
  have HE1 := Lib.hid hE1
  unfold BoolP at h1 h2
  cases rx with
  | false =>
    have HR : Hid (r = false) := Lib.hid (by rw [HR.out]; rfl)
    go_wp2_with ((with_reducible refine (h1 _ HE1.out).mono ?_); rintro e W5 ⟨rfl, e5⟩)
    go_ret
    exact ⟨by rw [HR.out]; rfl, HE1.out.trans e5⟩
  | true =>
    have HR : Hid (r = ry) := Lib.hid (by rw [HR.out]; first | rfl | simp)
    go_wp2_with (first | ((with_reducible refine (h1 _ HE1.out).mono ?_); rintro e W5 ⟨rfl, e5⟩) | ((with_reducible refine (h2 _ (HE1.out.trans e5)).mono ?_); rintro e W6 ⟨rfl, e6⟩))
    go_ret
    exact ⟨by rw [HR.out]; rfl, (HE1.out.trans e5).trans e6⟩
set_option maxRecDepth 100000 in
set_option maxHeartbeats 4000000 in
theorem nul_and (x y : Rx) (hx : NulS x) (hy : NulS y) : NulS (.and x y) := by
  have HR : Hid (nulR (.and x y) = (nulR x && nulR y)) := Lib.hid rfl
  intro w v hN
  obtain ⟨b, o, c, A1, c1, A2, c2, rfl, d0, d1, d2, hn1, d3, d4, d5, hn2, hc⟩ := two_form hN
  clear hN
  have h1 := fun w1 (hE : Ext w w1) => hx w1 _ (hn1.ext hE)
  have h2 := fun w1 (hE : Ext w w1) => hy w1 _ (hn2.ext hE)
  generalize nulR (.and x y) = r at *
  generalize nulR x = rx at *
  generalize nulR y = ry at *
  generalize x.tr.op = ox at *
  generalize y.tr.op = oy at *
  generalize x.tr.n = nx at *
  generalize y.tr.n = ny at *
  generalize x.tr.subs.length = lx at *
  generalize y.tr.subs.length = ly at *
  clear hn1 hn2 hx hy
  go_enter Tryd.func72, Tryd.ntmps72
  go_upto_region 1 with fail
  refine wp_named ?_
  intro W1 hW1
  have hE1 : Ext w W1 := by rw [hW1]; first | exact alloc_ext _ _ | exact (Ext.refl _).alloc _ | exact ((Ext.refl _).alloc _).drew
  have k0 : ∀ w', Ext W1 w' → w'.cell? ⟨w.heap.size, 0, none⟩ = some (.int .u8 5) := fun w' h => h.cell (by rw [hW1]; simp [go_sem])
  have k2 : ∀ w', Ext W1 w' → w'.cell? ⟨w.heap.size, 2, none⟩ = some (.slice (some ⟨b, o, none⟩) 2 c) := fun w' h => h.cell (by rw [hW1]; simp [go_sem])
  clear hW1
  have d0 := fun w1 (h : Ext W1 w1) => (hE1.trans h).cell d0
  have d1 := fun w1 (h : Ext W1 w1) => (hE1.trans h).cell d1
  have d2 := fun w1 (h : Ext W1 w1) => (hE1.trans h).cell d2
  have d3 := fun w1 (h : Ext W1 w1) => (hE1.trans h).cell d3
  have d4 := fun w1 (h : Ext W1 w1) => (hE1.trans h).cell d4
  have d5 := fun w1 (h : Ext W1 w1) => (hE1.trans h).cell d5
  generalize w.heap.size = b2 at *
  have hR1 := Ext.refl W1
  have HE1 := Lib.hid hE1
  unfold BoolP at h1 h2
  cases rx with
  | false =>
    have HR : Hid (r = false) := Lib.hid (by rw [HR.out]; rfl)
    go_wp2_with ((with_reducible refine (h1 _ HE1.out).mono ?_); rintro e W5 ⟨rfl, e5⟩)
    go_ret
    exact ⟨by rw [HR.out]; rfl, HE1.out.trans e5⟩
  | true =>
    have HR : Hid (r = ry) := Lib.hid (by rw [HR.out]; first | rfl | simp)
    go_wp2_with (first | ((with_reducible refine (h1 _ HE1.out).mono ?_); rintro e W5 ⟨rfl, e5⟩) | ((with_reducible refine (h2 _ (HE1.out.trans e5)).mono ?_); rintro e W6 ⟨rfl, e6⟩))
    go_ret
    exact ⟨by rw [HR.out]; rfl, (HE1.out.trans e5).trans e6⟩
set_option maxRecDepth 100000 in
set_option maxHeartbeats 4000000 in
theorem nul_star (x : Rx) : NulS (.star x) := by
  intro w v hN
  obtain ⟨b, o, c, A1, c1, rfl, d0, d1, d2, hn1, hc⟩ := one_form hN
  clear hN hn1 d0 d1 d2
  go_enter Tryd.func72, Tryd.ntmps72
  go_upto_region 1 with fail
  refine wp_named ?_
  intro W1 hW1
  have hE1 : Ext w W1 := by rw [hW1]; first | exact alloc_ext _ _ | exact (Ext.refl _).alloc _ | exact ((Ext.refl _).alloc _).drew
  have k0 : ∀ w', Ext W1 w' → w'.cell? ⟨w.heap.size, 0, none⟩ = some (.int .u8 6) := fun w' h => h.cell (by rw [hW1]; simp [go_sem])
  clear hW1
  generalize w.heap.size = b2 at *
  have hR1 := Ext.refl W1
  have HE1 := Lib.hid hE1
  go_wp2
  go_ret
  exact ⟨rfl, HE1.out⟩
set_option maxRecDepth 100000 in
set_option maxHeartbeats 4000000 in
theorem nul_not (x : Rx) (hx : NulS x) : NulS (.not x) := by
  have HR : Hid (nulR (.not x) = !nulR x) := Lib.hid rfl
  intro w v hN
  obtain ⟨b, o, c, A1, c1, rfl, d0, d1, d2, hn1, hc⟩ := one_form hN
  clear hN
  have h1 := fun w1 (hE : Ext w w1) => hx w1 _ (hn1.ext hE)
  generalize nulR (.not x) = r at *
  generalize nulR x = rx at *
  generalize x.tr.op = ox at *
  generalize x.tr.n = nx at *
  generalize x.tr.subs.length = lx at *
  clear hn1 hx
  go_enter Tryd.func72, Tryd.ntmps72
  go_upto_region 1 with fail
  refine wp_named ?_
  intro W1 hW1
  have hE1 : Ext w W1 := by rw [hW1]; first | exact alloc_ext _ _ | exact (Ext.refl _).alloc _ | exact ((Ext.refl _).alloc _).drew
  have k0 : ∀ w', Ext W1 w' → w'.cell? ⟨w.heap.size, 0, none⟩ = some (.int .u8 7) := fun w' h => h.cell (by rw [hW1]; simp [go_sem])
  have k2 : ∀ w', Ext W1 w' → w'.cell? ⟨w.heap.size, 2, none⟩ = some (.slice (some ⟨b, o, none⟩) 1 c) := fun w' h => h.cell (by rw [hW1]; simp [go_sem])
  clear hW1
  have d0 := fun w1 (h : Ext W1 w1) => (hE1.trans h).cell d0
  have d1 := fun w1 (h : Ext W1 w1) => (hE1.trans h).cell d1
  have d2 := fun w1 (h : Ext W1 w1) => (hE1.trans h).cell d2
  generalize w.heap.size = b2 at *
  have hR1 := Ext.refl W1
  have HE1 := Lib.hid hE1
  unfold BoolP at h1
  cases rx with
  | true =>
    have HR : Hid (r = false) := Lib.hid (by rw [HR.out]; rfl)
    go_wp2_with ((with_reducible refine (h1 _ HE1.out).mono ?_); rintro e W5 ⟨rfl, e5⟩)
    go_ret
    exact ⟨by rw [HR.out]; rfl, HE1.out.trans e5⟩
  | false =>
    have HR : Hid (r = true) := Lib.hid (by rw [HR.out]; rfl)
    go_wp2_with ((with_reducible refine (h1 _ HE1.out).mono ?_); rintro e W5 ⟨rfl, e5⟩)
    go_ret
    exact ⟨by rw [HR.out]; rfl, HE1.out.trans e5⟩
theorem nul_any : ∀ r : Rx, NulS r
  | .none => nul_none | .empty => nul_empty | .sym a => nul_sym a
  | .or x y => nul_or x y (nul_any x) (nul_any y) | .seq x y => nul_seq x y (nul_any x) (nul_any y) | .and x y => nul_and x y (nul_any x) (nul_any y)
  | .star x => nul_star x | .not x => nul_not x (nul_any x)
theorem nullable_any {r : Rx} {w : World} {v : Value} (h : NodeV w r.tr v) : Calls Tryd.prog 72 #[v] w (BoolP w (nulR r)) := nul_any r w v h
end Go.Proofs.YtmebgomnmlbgnaaDoor

namespace Go.Proofs.YtmebgomnmlbgnaaDoor
open Go.RowKit Go.Maps
set_option linter.unusedVariables false
set_option linter.unusedSimpArgs false
section
variable {κ : Type} [DecidableEq κ]
def getG (es : List (κ × Value)) (x : κ) : Option Value := (es.find? (fun p => p.1 == x)).map (·.2)
def MapG (w : World) (b : Nat) (enc : κ → Value) (ok : κ → Prop) (es : List (κ × Value)) : Prop :=
  ∃ entries clock, w.heap[b]? = some (.map entries clock) ∧ entries.toList.map (fun e => (e.key, e.val)) = es.map (fun p => (enc p.1, p.2)) ∧ (∀ p ∈ es, ok p.1) ∧ es.Pairwise (fun p q => p.1 ≠ q.1)
omit [DecidableEq κ] in
theorem MapG.made (w : World) (enc : κ → Value) (ok : κ → Prop) : MapG (w.alloc (.map #[] 0)) w.heap.size enc ok [] :=
  ⟨#[], 0, heap_alloc_new w _, by simp, by simp, .nil⟩
omit [DecidableEq κ] in
theorem MapG.lt {w : World} {b : Nat} {enc : κ → Value} {ok : κ → Prop} {es : List (κ × Value)} (h : MapG w b enc ok es) : b < w.heap.size := by
  obtain ⟨_, _, hb, _⟩ := h
  exact lt_of_block hb
omit [DecidableEq κ] in
theorem MapG.keep {w w' : World} {b : Nat} {enc : κ → Value} {ok : κ → Prop} {es : List (κ × Value)} (h : MapG w b enc ok es) (e : w'.heap[b]? = w.heap[b]?) : MapG w' b enc ok es := by
  obtain ⟨en, cl, hb, r⟩ := h
  exact ⟨en, cl, e.trans hb, r⟩
omit [DecidableEq κ] in
theorem MapG.ext {w w' : World} {b : Nat} {enc : κ → Value} {ok : κ → Prop} {es : List (κ × Value)} (h : MapG w b enc ok es) (e : Ext w w') : MapG w' b enc ok es := h.keep (e.block b h.lt)
omit [DecidableEq κ] in
theorem MapG.grown {w w' : World} {b : Nat} {enc : κ → Value} {ok : κ → Prop} {es : List (κ × Value)} (h : MapG w b enc ok es) {r : Option Nat} (e : w.grownBy w' r) (hr : r ≠ some b) : MapG w' b enc ok es := h.keep (e.block b h.lt (fun h2 => hr h2.symm))
theorem getG_of_mem {es : List (κ × Value)} (hp : es.Pairwise (fun p q => p.1 ≠ q.1)) {x : κ} {n : Value} (h : (x, n) ∈ es) : getG es x = some n := by
  induction es with
  | nil => cases h
  | cons p r ih =>
    obtain ⟨h1, h2⟩ := List.pairwise_cons.1 hp
    unfold getG
    rw [List.find?_cons]
    rcases List.mem_cons.1 h with rfl | h
    · simp
    · have : (p.1 == x) = false := by
        rw [beq_eq_false_iff_ne]
        exact h1 _ h
      rw [this]
      exact ih h2 h
theorem getG_none {es : List (κ × Value)} {x : κ} : getG es x = none ↔ ∀ p ∈ es, p.1 ≠ x := by
  simp [getG]
theorem getG_snoc (es : List (κ × Value)) (y : κ) (v : Value) (x : κ) : getG (es ++ [(y, v)]) x = match getG es x with | some u => some u | none => if y = x then some v else none := by
  unfold getG
  rw [List.find?_append]
  cases h : es.find? (fun p => p.1 == x) with
  | some p => simp
  | none =>
    by_cases hy : y = x
    · subst hy; simp
    · have : (y == x) = false := beq_eq_false_iff_ne.2 hy
      simp [List.find?_cons, this, hy]
variable {P : Program} {k : TypeId} {enc : κ → Value} {ok : κ → Prop} {w : World} {b : Nat} {es : List (κ × Value)}
theorem find_g (K : KeyEnc P k enc ok) {entries : Array MapEntry} (he : entries.toList.map (fun e => (e.key, e.val)) = es.map (fun p => (enc p.1, p.2))) (hok : ∀ p ∈ es, ok p.1) (hp : es.Pairwise (fun p q => p.1 ≠ q.1)) {x : κ} (hx : ok x) :
    (getG es x = none ∧ (Instr.findKey k (enc x) entries.toList).run P w = .ok none w) ∨ ∃ n j, getG es x = some n ∧ (Instr.findKey k (enc x) entries.toList).run P w = .ok (some (j, n)) w := by
  obtain ⟨l, hl⟩ := K.read x hx
  have hmem : ∀ e ∈ entries.toList, ∃ p ∈ es, e.key = enc p.1 ∧ e.val = p.2 := fun e h => by
    have h1 : (e.key, e.val) ∈ es.map (fun p => (enc p.1, p.2)) := he ▸ List.mem_map.2 ⟨e, h, rfl⟩
    obtain ⟨p, hp, hpe⟩ := List.mem_map.1 h1
    simp only [Prod.mk.injEq] at hpe
    exact ⟨p, hp, hpe.1.symm, hpe.2.symm⟩
  rcases K.law.find w hl entries.toList (fun e h => by
    obtain ⟨p, hp, hk, _⟩ := hmem e h
    rw [hk]; exact K.read _ (hok p hp)) with ⟨h1, h2⟩ | ⟨j, e, h1, h2, h3⟩
  · refine .inl ⟨getG_none.2 (fun p hpm e => ?_), h1⟩
    have h4 : (enc p.1, p.2) ∈ entries.toList.map (fun e => (e.key, e.val)) := he ▸ List.mem_map.2 ⟨p, hpm, rfl⟩
    obtain ⟨e', he', hee⟩ := List.mem_map.1 h4
    simp only [Prod.mk.injEq] at hee
    exact h2 e' he' (by rw [hee.1, e])
  · obtain ⟨p, hpm, hk, hv⟩ := hmem e (List.mem_of_getElem? h2)
    have : p.1 = x := K.inj _ _ (hk.symm.trans h3)
    exact .inr ⟨p.2, j, getG_of_mem hp (by rw [← this]; exact hpm), by rw [← hv]; exact h1⟩
theorem run_lookup_g (K : KeyEnc P k enc ok) {t e : TypeId} {z : Value} (ht : P.underlying t = some (.map k e)) (hz : (zeroValue e).run P w = .ok z w) (h : MapG w b enc ok es) {x : κ} (hx : ok x) (c : Bool) {v : Value} (hv : v = enc x) :
    (Instr.lookup t (.map (some b)) v c).run P w = .ok (if c then .tuple #[(getG es x).getD z, .bool (getG es x).isSome] else (getG es x).getD z) w := by
  subst hv
  obtain ⟨en, cl, hb, he, hok, hp⟩ := h
  obtain ⟨l, hl⟩ := K.read x hx
  have hobj : (getObj b).run P w = .ok (.map en cl) w := by simp [getObj, Sem.run, hb]
  have hchk := K.law.check w en.isEmpty hl
  rcases find_g (w := w) K he hok hp hx with ⟨h1, h2⟩ | ⟨n, j, h1, h2⟩
  · cases c <;> simp [Instr.lookup, run_underlying ht, hobj, hchk, h2, h1, hz]
  · cases c <;> simp [Instr.lookup, run_underlying ht, hobj, hchk, h2, h1]
theorem run_update_g (K : KeyEnc P k enc ok) {t e : TypeId} (ht : P.underlying t = some (.map k e)) (h : MapG w b enc ok es) {x : κ} (hx : ok x) (hn : getG es x = none) (n : Value) {v : Value} (hv : v = enc x) :
    ∃ w', (Instr.mapUpdate t (.map (some b)) v n).run P w = .ok () w' ∧ MapG w' b enc ok (es ++ [(x, n)]) ∧ w.grownBy w' (some b) := by
  subst hv
  obtain ⟨en, cl, hb, he, hok, hp⟩ := h
  obtain ⟨l, hl⟩ := K.read x hx
  have hobj : (getObj b).run P w = .ok (.map en cl) w := by simp [getObj, Sem.run, hb]
  have hchk := K.law.check w false hl
  have hlt := lt_of_block hb
  rcases find_g (w := w) K he hok hp hx with ⟨h1, h2⟩ | ⟨m, j, h1, h2⟩
  · refine ⟨{ w with heap := w.heap.setIfInBounds b (.map (en.push { key := enc x, val := n, born := cl }) (cl + 1)) }, ?_, ?_, ?_⟩
    · simp [Instr.mapUpdate, run_underlying ht, hobj, hchk, h2, setObj, Sem.run, hb]
    · refine ⟨en.push { key := enc x, val := n, born := cl }, cl + 1, by simp [hlt], by simp [he], ?_, ?_⟩
      · intro p hpm
        rcases List.mem_append.1 hpm with hpm | hpm
        · exact hok p hpm
        · simp at hpm; subst hpm; exact hx
      · refine List.pairwise_append.2 ⟨hp, by simp, fun p hpm q hq => ?_⟩
        simp at hq; subst hq
        exact getG_none.1 h1 p hpm
    · exact ⟨rfl, rfl, rfl, by simp, fun i hi hne => by
        have : b ≠ i := fun e => hne (by rw [e])
        simp [Array.getElem?_setIfInBounds_ne this]⟩
  · rw [h1] at hn; cases hn
variable {ops : Array Oper} {rest : List Oper} {o : Oper} {a : Act} {Q : Exit → Act → World → Prop}
theorem wpList_lookup_g (hgd : o.guard = none) (m x : Operand) (t : TypeId) (c : Bool) (hop : o.op = Op.lookup t m x c) (e : TypeId) {z : Value} (K : KeyEnc P k enc ok) (ht : P.underlying t = some (.map k e)) (hz : (zeroValue e).run P w = .ok z w)
    (hm : a.eval m = .map (some b)) (h : MapG w b enc ok es) (key : κ) (hkey : a.eval x = enc key) (hx : ok key)
    (hK : wpList P ops Q rest (a.put o.dst (if c then .tuple #[(getG es key).getD z, .bool (getG es key).isSome] else (getG es key).getD z)) w) : wpList P ops Q (o :: rest) a w := by
  refine wpList_plain hgd fun K' hK' => ?_
  have hrun := run_lookup_g K ht hz h hx c rfl
  unfold Oper.wp
  simp only [execOp, hop, hm, hkey]
  simp [hrun, Result.andThen]
  exact hK' _ _ hK
theorem wpList_update_g (hgd : o.guard = none) (m x v : Operand) (t : TypeId) (hop : o.op = Op.mapUpdate t m x v) (e : TypeId) (K : KeyEnc P k enc ok) (ht : P.underlying t = some (.map k e))
    (hm : a.eval m = .map (some b)) (h : MapG w b enc ok es) (key : κ) (hkey : a.eval x = enc key) (hx : ok key) (hn : getG es key = none) (n : Value) (hv : a.eval v = n)
    (hK : ∀ w', MapG w' b enc ok (es ++ [(key, n)]) → w.grownBy w' (some b) → wpList P ops Q rest (a.put o.dst undef) w') : wpList P ops Q (o :: rest) a w := by
  refine wpList_plain hgd fun K' hK' => ?_
  obtain ⟨w', hrun, r1, r2⟩ := run_update_g K ht h hx hn n rfl
  unfold Oper.wp
  simp only [execOp, hop, hm, hkey, hv]
  simp [hrun, Result.andThen]
  exact hK' _ _ (hK w' r1 r2)
end
end Go.Proofs.YtmebgomnmlbgnaaDoor

namespace Go.Proofs.YtmebgomnmlbgnaaDoor
open Go.RowKit Go.Maps
set_option linter.unusedVariables false
set_option linter.unusedSimpArgs false
section
variable {κ : Type} [DecidableEq κ] {P : Program} {k : TypeId} {enc : κ → Value} {ok : κ → Prop} {w : World} {b : Nat} {es : List (κ × Value)} {o : Oper} {a : Act}
theorem gives_insert {K' : Value → World → Prop} (m x v : Operand) (t : TypeId) (hop : o.op = .insert t m x v) (e : TypeId) (K : KeyEnc P k enc ok) (ht : P.underlying t = some (.map k e))
    (hm : a.eval m = .map (some b)) (h : MapG w b enc ok es) (key : κ) (hkey : a.eval x = enc key) (hx : ok key) (hn : getG es key = none) (n : Value) (hv : a.eval v = n)
    (hK : ∀ w', MapG w' b enc ok (es ++ [(key, n)]) → w.grownBy w' (some b) → K' undef w') : RI.Oper.gives P o a w K' := by
  obtain ⟨w', hrun, r1, r2⟩ := run_update_g K ht h hx hn n rfl
  unfold RI.Oper.gives
  simp only [execOp, hop, hm, hkey, hv]
  simp [hrun, Result.andThen]
  exact hK w' r1 r2
theorem quiet_lookup (m x : Operand) (t : TypeId) (c : Bool) (hop : o.op = .lookup t m x c) (e : TypeId) {z : Value} (K : KeyEnc P k enc ok) (ht : P.underlying t = some (.map k e)) (hz : (zeroValue e).run P w = .ok z w)
    (hm : a.eval m = .map (some b)) (h : MapG w b enc ok es) (key : κ) (hkey : a.eval x = enc key) (hx : ok key) (u : Value) (hu : u = (if c then .tuple #[(getG es key).getD z, .bool (getG es key).isSome] else (getG es key).getD z)) : Oper.quietV P o a w u := by
  have hrun := run_lookup_g K ht hz h hx c rfl
  subst hu
  unfold Oper.quietV
  simp only [execOp, hop, hm, hkey]
  simp [hrun, Result.andThen, quietV]
end
theorem key_u8 {P : Program} {k : TypeId} (hk : P.underlying k = some (.int .u8)) : KeyEnc P k (fun x : Nat => .int .u8 (x : Int)) (fun x => x < 256) :=
  ⟨int_keyed hk, fun x hx => ⟨_, keyOf_int_mk hk (by simp only [Lit.wf, IntKind.min, IntKind.max, IntKind.signed, IntKind.bits, Bool.and_eq_true, decide_eq_true_eq, if_true, Bool.false_eq_true, if_false]; omega)⟩, fun x y h => by injection h with _ h; omega⟩
end Go.Proofs.YtmebgomnmlbgnaaDoor
