/- extends.combinations 48. All combinations of values, in order; the next one. extends.next 50. Conflicts, al plain data. Data whose blocks are of known types: a store into the arcs leaves them. The law's builders: number 32, name 33, two 31. guard 34: conditions by a number. (written by gen_b26.py) updates 35: new values by a number. (written by gen_b27.py) -/
import Derived.Test.YtggffdkgfgdaoaaDoorGG
namespace Go.Proofs.YtggffdkgfgdaoaaDoor
open Go.RowKit Go.Maps
set_option linter.unusedVariables false
set_option linter.unusedSimpArgs false
attribute [local go_sem] Oper.quietV quietV Oper.gives givesV ext_refl_iff ext_alloc_iff ext_drew_iff ext_drewN_iff
def combF : Int → List Vt → Int
  | n, [] => n
  | n, v :: l => combF (min 4097 (n * min 4097 (v.2.2 - v.2.1 + 1))) l
def combR (l : List Vt) : Int := combF 1 l
theorem combF_drop {l : List Vt} {i : Nat} {v : Vt} (h : l[i]? = some v) (n : Int) : combF n (l.drop i) = combF (min 4097 (n * min 4097 (v.2.2 - v.2.1 + 1))) (l.drop (i + 1)) := by
  have hlt := (List.getElem?_eq_some_iff.1 h).1
  rw [List.drop_eq_getElem_cons hlt]
  have : l[i] = v := by have := List.getElem?_eq_getElem hlt; rw [h] at this; injection this with this; exact this.symm
  rw [this]; rfl
def SpanOk (l : List Vt) : Prop := ∀ v ∈ l, -2147483648 ≤ v.2.1 ∧ v.2.2 ≤ 2147483648 ∧ v.2.1 ≤ v.2.2
theorem span_ok {l : List Vt} (h : varsR l = 0) : SpanOk l := fun v hv => by
  obtain ⟨i, hi⟩ := List.getElem?_of_mem hv
  have h5 := varsR_zero h i (List.getElem?_eq_some_iff.1 hi).1
  unfold badAt varBad at h5
  rw [hi] at h5
  simp only [Bool.or_eq_false_iff, decide_eq_false_iff_not] at h5
  omega
set_option maxRecDepth 100000 in
set_option maxHeartbeats 4000000 in
theorem comb_any (w : World) (v : Value) (l : List Vt) (c : Nat) (hv : VarsC w v l c) (hs : SpanOk l) : Calls Tryd.prog 48 #[v] w (ErrP w (combR l)) := by
  obtain ⟨r, hr⟩ : ∃ r, r = combR l := ⟨_, rfl⟩
  rw [← hr]
  unfold combR at hr
  have HR := Lib.hid hr
  obtain ⟨A, rfl, hc, hlc, hlm, hsz⟩ := hv
  unfold lenMax at hlm
  have HC := Lib.hid hc
  have HS := Lib.hid hs
  clear hr hs hc hsz
  go_enter Tryd.func48, Tryd.ntmps48
  go_wp2
  go_loopw [3, 8] (fun nv iv wr => ∃ (i : Nat) (n : Int), nv = .int .i64 n ∧ iv = .int .i64 i ∧ i ≤ l.length ∧ 0 ≤ n ∧ n ≤ 4097 ∧ Hid (r = combF n (l.drop i)) ∧ Hid (Ext w wr)) (fun _ iv _ => l.length - (intOf iv).toNat)
  case atStart => exact ⟨0, 1, rfl, by first | rfl | simp, Nat.zero_le _, by omega, by omega, Lib.hid (by rw [List.drop_zero]; exact HR.out), Lib.hid (Ext.refl _)⟩
  case round =>
    obtain ⟨i, n, rfl, rfl, hi, hn0, hn1, HN, HW⟩ := hrel
    obtain ⟨W5, hW5⟩ : ∃ W, W = wr := ⟨_, rfl⟩; subst hW5
    by_cases hlt : i < l.length
    · have hlI : (i : Int) < (l.length : Int) := by omega
      obtain ⟨⟨nm, lo, hi2⟩, hu⟩ : ∃ u, l[i]? = some u := ⟨_, List.getElem?_eq_getElem hlt⟩
      obtain ⟨b, o, hA, d0, d1, d2⟩ := var_at HC.out hu
      subst hA
      have hsp := HS.out _ (List.mem_of_getElem? hu)
      obtain ⟨s1, s2, s3⟩ := hsp
      dsimp only at s1 s2 s3 d0 d1 d2
      have d0 := HW.out.cell d0
      have d1 := HW.out.cell d1
      have d2 := HW.out.cell d2
      have HCF := Lib.hid (combF_drop hu n)
      clear hu
      obtain ⟨m, hm⟩ : ∃ m, m = min 4097 (hi2 - lo + 1) := ⟨_, rfl⟩
      have hm0 : 0 ≤ m := by omega
      have hm1 : m ≤ 4097 := by omega
      have hp0 : 0 ≤ n * m := Int.mul_nonneg hn0 hm0
      have hp1 : n * m ≤ 4097 * 4097 := Int.mul_le_mul hn1 hm1 hm0 (by omega)
      have HM := Lib.hid hm
      go_upto_region 5 with fail
      refine wp_named ?_
      intro W6 hW6
      have hE6 : Ext W5 W6 := by rw [hW6]; exact alloc_ext _ _
      have x1 : W6.cell? ⟨W5.heap.size, 1, none⟩ = some (.int .i64 lo) := by rw [hW6]; simp [go_sem]
      have x2 : W6.cell? ⟨W5.heap.size, 2, none⟩ = some (.int .i64 hi2) := by rw [hW6]; simp [go_sem]
      clear d0 d1 d2 hW6
      generalize W5.heap.size = b6 at *
      go_wp2
      have hmm : (if hi2 - lo + 1 < 4097 then hi2 - lo + 1 else 4097) = m := by rw [hm]; split <;> omega
      have hw : wrap64 (n * m) = n * m := by
        generalize n * m = p at *
        unfold wrap64; omega
      refine ⟨⟨i + 1, min 4097 (n * m), ?_, by go_num, hlt, by omega, by omega, Lib.hid ?_, Lib.hid (HW.out.trans hE6)⟩, ?_⟩
      · rw [hmm, hw]; congr 1; split <;> omega
      · rw [HN.out, HCF.out, HM.out]
      · simp [intOf]; omega
    · have hie : i = l.length := by omega
      subst hie
      have hlt2 : ¬ (l.length : Int) < (l.length : Int) := by omega
      have HRR : Hid (r = n) := Lib.hid (by rw [HN.out, List.drop_length]; rfl)
      go_wp2
      go_ret
      exact ⟨by rw [HRR.out]; rfl, HW.out⟩
end Go.Proofs.YtggffdkgfgdaoaaDoor

namespace Go.Proofs.YtggffdkgfgdaoaaDoor
set_option linter.unusedVariables false
set_option linter.unusedSimpArgs false
def spanL (v : Vt) : List Int := (List.range (v.2.2 - v.2.1 + 1).toNat).map (fun k : Nat => v.2.1 + (k : Int))
def domS (out : List (List Int)) (v : Vt) : List (List Int) := out.flatMap (fun p => (spanL v).map (fun x => p ++ [x]))
def domL (l : List Vt) : List (List Int) := l.foldl domS [[]]
theorem domL_snoc (l : List Vt) (v : Vt) : domL (l ++ [v]) = domS (domL l) v := by unfold domL; rw [List.foldl_append]; rfl
def nextI (l : List Vt) (xs : List Int) : Nat → List Int × Bool
  | 0 => (xs, false)
  | i + 1 => match l[i]?, xs[i]? with
    | some v, some x => if x < v.2.2 then (xs.set i (x + 1), true) else nextI l (xs.set i v.2.1) i
    | _, _ => (xs, false)
def nextV (l : List Vt) (xs : List Int) : List Int × Bool := nextI l xs l.length
theorem flat_get {α β : Type} (f : α → List β) (n : Nat) (hf : ∀ a, (f a).length = n) : ∀ (L : List α) (q r : Nat), r < n → (L.flatMap f)[q * n + r]? = (L[q]?).bind (fun a => (f a)[r]?)
  | [], q, r, h => by simp
  | a :: L, 0, r, h => by
    rw [List.flatMap_cons, Nat.zero_mul, Nat.zero_add, List.getElem?_append_left (by rw [hf]; exact h)]; simp
  | a :: L, q + 1, r, h => by
    rw [List.flatMap_cons, List.getElem?_append_right (by rw [hf, Nat.succ_mul]; omega)]
    rw [show (q + 1) * n + r - (f a).length = q * n + r by rw [hf, Nat.succ_mul]; omega, flat_get f n hf L q r h]; simp
theorem span_len (v : Vt) : (spanL v).length = (v.2.2 - v.2.1 + 1).toNat := by unfold spanL; simp
theorem dom_get (out : List (List Int)) (v : Vt) (q r : Nat) (hr : r < (v.2.2 - v.2.1 + 1).toNat) : (domS out v)[q * (v.2.2 - v.2.1 + 1).toNat + r]? = (out[q]?).map (fun p => p ++ [v.2.1 + (r : Int)]) := by
  unfold domS
  rw [flat_get _ (v.2.2 - v.2.1 + 1).toNat (fun p => by rw [List.length_map, span_len]) out q r hr]
  cases out[q]? with
  | none => rfl
  | some p =>
    show ((spanL v).map _)[r]? = _
    unfold spanL
    rw [List.getElem?_map, List.getElem?_map, List.getElem?_range hr]; rfl
theorem nextI_snoc (l : List Vt) (v : Vt) (y : Int) : ∀ (k : Nat) (p : List Int), p.length = l.length → k ≤ l.length → nextI (l ++ [v]) (p ++ [y]) k = ((nextI l p k).1 ++ [y], (nextI l p k).2)
  | 0, p, _, _ => rfl
  | k + 1, p, hp, hk => by
    unfold nextI
    rw [List.getElem?_append_left (by omega), List.getElem?_append_left (by omega)]
    obtain ⟨u, hu⟩ : ∃ u, l[k]? = some u := ⟨_, List.getElem?_eq_getElem (by omega)⟩
    obtain ⟨x, hx⟩ : ∃ x, p[k]? = some x := ⟨_, List.getElem?_eq_getElem (by omega)⟩
    rw [hu, hx]
    dsimp only
    by_cases h : x < u.2.2
    · rw [if_pos h, if_pos h, List.set_append_left _ _ (by omega)]
    · rw [if_neg h, if_neg h, List.set_append_left _ _ (by omega), nextI_snoc l v y k _ (by simp [hp]) (by omega)]
theorem snoc_ind {α : Type} {P : List α → Prop} (h0 : P []) (h1 : ∀ l a, P l → P (l ++ [a])) (l : List α) : P l := by
  have : ∀ l : List α, P l.reverse := fun l => by
    induction l with
    | nil => exact h0
    | cons a l ih => rw [List.reverse_cons]; exact h1 _ _ ih
  have h := this l.reverse
  rwa [List.reverse_reverse] at h
theorem dom_next (l : List Vt) : SpanOk l → ∀ (j : Nat) (xs : List Int), (domL l)[j]? = some xs → xs.length = l.length ∧ (∀ ys, (domL l)[j + 1]? = some ys → nextV l xs = (ys, true)) ∧ ((domL l)[j + 1]? = none → (nextV l xs).2 = false) := by
  induction l using snoc_ind with
  | h0 =>
    intro _ j xs h
    cases j with
    | zero => simp [domL] at h; subst h; exact ⟨rfl, fun ys h => by simp [domL] at h, fun _ => rfl⟩
    | succ j => simp [domL] at h
  | h1 l v ih =>
    intro hs j xs h
    have hsv := hs v (by simp)
    have ih := ih (fun u hu => hs u (by simp [hu]))
    obtain ⟨n, hn⟩ : ∃ n, n = (v.2.2 - v.2.1 + 1).toNat := ⟨_, rfl⟩
    have hn1 : 1 ≤ n := by omega
    have hq := Nat.div_add_mod j n
    have hr := Nat.mod_lt j (show 0 < n by omega)
    generalize j / n = q at *
    generalize j % n = r at *
    have hj : j = q * n + r := by rw [← hq, Nat.mul_comm]
    rw [domL_snoc] at h ⊢
    rw [hj, hn, dom_get _ _ _ _ (by omega)] at h
    obtain ⟨p, hp, hx⟩ := Option.map_eq_some_iff.1 h
    subst hx
    obtain ⟨a1, a2, a3⟩ := ih q p hp
    have hget : (p ++ [v.2.1 + (r : Int)])[l.length]? = some (v.2.1 + (r : Int)) := by rw [List.getElem?_append_right (by omega), a1, Nat.sub_self]; rfl
    have hgetv : (l ++ [v])[l.length]? = some v := by rw [List.getElem?_append_right (Nat.le_refl _), Nat.sub_self]; rfl
    have hset : ∀ y, (p ++ [v.2.1 + (r : Int)]).set l.length y = p ++ [y] := fun y => by rw [← a1, List.set_append_right _ _ (Nat.le_refl _), Nat.sub_self]; rfl
    have hnx : nextV (l ++ [v]) (p ++ [v.2.1 + (r : Int)]) = if v.2.1 + (r : Int) < v.2.2 then (p ++ [v.2.1 + (r : Int) + 1], true) else ((nextV l p).1 ++ [v.2.1], (nextV l p).2) := by
      unfold nextV
      rw [List.length_append, List.length_singleton]
      conv => lhs; unfold nextI
      rw [hgetv, hget]
      dsimp only
      rw [hset, hset, nextI_snoc l v v.2.1 l.length p a1 (Nat.le_refl _)]
    refine ⟨by simp [a1], ?_⟩
    by_cases hrn : r + 1 < n
    · rw [show j + 1 = q * (v.2.2 - v.2.1 + 1).toNat + (r + 1) by rw [← hn]; omega, dom_get _ _ _ _ (by omega), hp]
      rw [hnx, if_pos (by omega)]
      refine ⟨fun ys h => ?_, fun h => by simp at h⟩
      simp at h
      rw [← h]
      congr 3
      omega
    · rw [show j + 1 = (q + 1) * (v.2.2 - v.2.1 + 1).toNat + 0 by rw [← hn, Nat.succ_mul]; omega, dom_get _ _ _ _ (by omega)]
      rw [hnx, if_neg (by omega)]
      refine ⟨fun ys h => ?_, fun h => ?_⟩
      · obtain ⟨p', hp', hy⟩ := Option.map_eq_some_iff.1 h
        rw [a2 p' hp', ← hy]; simp
      · rw [Option.map_eq_none_iff] at h
        exact a3 h
theorem dom_first (l : List Vt) : SpanOk l → (domL l)[0]? = some (l.map (·.2.1)) := by
  induction l using snoc_ind with
  | h0 => intro _; rfl
  | h1 l v ih =>
    intro hs
    have hsv := hs v (by simp)
    rw [domL_snoc, show (0 : Nat) = 0 * (v.2.2 - v.2.1 + 1).toNat + 0 by omega, dom_get _ _ _ _ (by omega), ih (fun u hu => hs u (by simp [hu]))]
    simp
theorem find_at {α : Type} {P : α → Bool} : ∀ {L : List α} {j : Nat} {x : α}, (∀ (i : Nat), i < j → ∀ y, L[i]? = some y → P y = false) → L[j]? = some x → P x = true → L.find? P = some x
  | [], j, x, _, h, _ => by simp at h
  | a :: L, 0, x, _, h, hp => by simp at h; subst h; simp [hp]
  | a :: L, j + 1, x, h0, h, hp => by
    have ha := h0 0 (by omega) a rfl
    rw [List.find?_cons, ha]
    exact find_at (j := j) (fun i hi y hy => h0 (i + 1) (by omega) y (by simpa using hy)) (by simpa using h) hp
theorem find_no {α : Type} {P : α → Bool} {L : List α} (h : ∀ (i : Nat) (y : α), L[i]? = some y → P y = false) : L.find? P = none := by
  rw [List.find?_eq_none]
  intro x hx
  obtain ⟨i, hi⟩ := List.getElem?_of_mem hx
  rw [h i x hi]; simp
end Go.Proofs.YtggffdkgfgdaoaaDoor

namespace Go.Proofs.YtggffdkgfgdaoaaDoor
open Go.RowKit Go.Maps
set_option linter.unusedVariables false
set_option linter.unusedSimpArgs false
attribute [local go_sem] Oper.quietV quietV Oper.gives givesV ext_refl_iff ext_alloc_iff ext_drew_iff ext_drewN_iff
def NextP (w : World) (g : Nat) (r : List Int × Bool) (e : Ending) (w' : World) : Prop := e = .returned (.bool r.2) ∧ IntB w' g r.1 ∧ w.grownBy w' (some g)
set_option maxRecDepth 100000 in
set_option maxHeartbeats 4000000 in
theorem next_any (W0 w : World) (v : Value) (l : List Vt) (c g : Nat) (xs : List Int) (hv : VarsC W0 v l c) (hs : SpanOk l) (hE : Ext W0 w) (hg : W0.heap.size ≤ g) (hB : IntB w g xs) (hl : xs.length = l.length) (hbd : ∀ x ∈ xs, Small x) : Calls Tryd.prog 50 #[v, .slice (some ⟨g, 0, none⟩) xs.length xs.length] w (NextP w g (nextV l xs)) := by
  obtain ⟨r, hr⟩ : ∃ r, r = nextV l xs := ⟨_, rfl⟩
  rw [← hr]
  unfold nextV at hr
  have HR := Lib.hid hr
  obtain ⟨A, rfl, hc, hlc, hlm, hsz⟩ := hv
  unfold lenMax at hlm
  have HC := Lib.hid hc
  have HS := Lib.hid (And.intro hs hbd)
  have HE := Lib.hid hE
  have HB := Lib.hid hB
  have HG := Lib.hid hg
  clear hr hs hc hsz hE hB hg hbd
  rw [hl]
  go_enter Tryd.func50, Tryd.ntmps50
  go_wp2
  go_loopw [5] (fun iv wr => ∃ (k : Nat) (ys : List Int), iv = .int .i64 ((k : Int) - 1) ∧ k ≤ l.length ∧ ys.length = l.length ∧ Hid (∀ y ∈ ys, Small y) ∧ Hid (r = nextI l ys k) ∧ Hid (IntB wr g ys ∧ w.grownBy wr (some g))) (fun iv _ => (intOf iv + 1).toNat)
  case atStart => exact ⟨l.length, xs, by first | rfl | simp, Nat.le_refl _, hl, Lib.hid HS.out.2, HR, Lib.hid ⟨HB.out, grown_of_ext (Ext.refl _) _⟩⟩
  case round =>
    obtain ⟨k, ys, rfl, hk, hyl, HY, HN, HW⟩ := hrel
    obtain ⟨W5, hW5⟩ : ∃ W, W = wr := ⟨_, rfl⟩; subst hW5
    cases k with
    | zero =>
      have HRR : Hid (r = (ys, false)) := Lib.hid HN.out
      go_wp2
      go_ret
      rw [HRR.out]
      exact ⟨rfl, HW.out.1, HW.out.2⟩
    | succ i =>
      have hlt : i < l.length := by omega
      have hpos : (0 : Int) ≤ ((i + 1 : Nat) : Int) - 1 := by omega
      have hcast : ((i + 1 : Nat) : Int) - 1 = (i : Int) := by omega
      obtain ⟨⟨nm, lo, hi2⟩, hu⟩ : ∃ u, l[i]? = some u := ⟨_, List.getElem?_eq_getElem hlt⟩
      obtain ⟨x, hx⟩ : ∃ x, ys[i]? = some x := ⟨_, List.getElem?_eq_getElem (by omega)⟩
      obtain ⟨b, o, hA, d0, d1, d2⟩ := var_at HC.out hu
      subst hA
      obtain ⟨s1, s2, s3⟩ := HS.out.1 _ (List.mem_of_getElem? hu)
      have hxs := HY.out x (List.mem_of_getElem? hx)
      unfold Small at hxs
      dsimp only at s1 s2 s3 d1 d2
      have hE5 : Ext _ W5 := Below.grown HE.out HW.out.2 HE.out.size (fun k hk => by cases hk; exact HG.out)
      have d1 := fun w' (h : Ext W5 w') => (hE5.trans h).cell d1
      have d2 := fun w' (h : Ext W5 w') => (hE5.trans h).cell d2
      have hxe : ys[i]'(by omega) = x := by have h := List.getElem?_eq_getElem (l := ys) (i := i) (by omega); rw [hx] at h; injection h with h; exact h.symm
      have c0 := HW.out.1.cell (i := i) (by omega)
      rw [hxe] at c0
      have c0 := fun w' (h : Ext W5 w') => h.cell c0
      have t0 := free_of_blk HW.out.1 i
      have hR5 := Ext.refl W5
      have HNX : Hid (r = if x < hi2 then (ys.set i (x + 1), true) else nextI l (ys.set i lo) i) := Lib.hid (by
        rw [HN.out]; conv => lhs; unfold nextI
        rw [hu, hx])
      have HB5 := Lib.hid HW.out
      clear hu hx d0 hE5 hxe HN HW
      simp only [hcast] at *
      go_upto_region 4 with fail
      go_quiet (fail)
      have hE6 : Ext W5 (W5.drewN nq) := (Ext.refl _).drewN _
      have d1 := fun w' (h : Ext (W5.drewN nq) w') => d1 w' (hE6.trans h)
      have d2 := fun w' (h : Ext (W5.drewN nq) w') => d2 w' (hE6.trans h)
      have c0 := fun w' (h : Ext (W5.drewN nq) w') => c0 w' (hE6.trans h)
      have hB6 := IntB.ext HB5.out.1 hE6
      have t0 := free_of_blk hB6 i
      have hR6 := Ext.refl (W5.drewN nq)
      have HB6 := Lib.hid (And.intro hB6 (grown_trans HB5.out.2 (grown_of_ext hE6 _)))
      clear hE6 hB6 hR5 HB5
      generalize W5.drewN nq = W6 at *
      by_cases hx : x < hi2
      · have HRR : Hid (r = (ys.set i (x + 1), true)) := Lib.hid (by rw [HNX.out, if_pos hx])
        go_wp2
        go_ret
        rw [HRR.out]
        exact ⟨rfl, HB6.out.1.set i (x + 1), grown_trans HB6.out.2 (grown_setK W6 g i _)⟩
      · have HRR : Hid (r = nextI l (ys.set i lo) i) := Lib.hid (by rw [HNX.out, if_neg hx])
        go_wp2
        refine ⟨⟨i, ys.set i lo, by go_num, by omega, by rw [List.length_set]; exact hyl, Lib.hid (fun y hy => ?_), HRR, Lib.hid ⟨HB6.out.1.set i lo, grown_trans HB6.out.2 (grown_setK W6 g i _)⟩⟩, ?_⟩
        · rcases List.mem_or_eq_of_mem_set hy with hy | rfl
          · exact HY.out y hy
          · exact ⟨by omega, by omega⟩
        · simp [intOf]
end Go.Proofs.YtggffdkgfgdaoaaDoor

namespace Go.Proofs.YtggffdkgfgdaoaaDoor
set_option linter.unusedVariables false
set_option linter.unusedSimpArgs false
theorem dom_small (l : List Vt) : SpanOk l → ∀ xs ∈ domL l, ∀ x ∈ xs, Small x := by
  induction l using snoc_ind with
  | h0 => intro _ xs h x hx; simp [domL] at h; subst h; cases hx
  | h1 l v ih =>
    intro hs xs h x hx
    have hsv := hs v (by simp)
    rw [domL_snoc] at h
    unfold domS at h
    obtain ⟨p, hp, h⟩ := List.mem_flatMap.1 h
    obtain ⟨y, hy, rfl⟩ := List.mem_map.1 h
    rcases List.mem_append.1 hx with hx | hx
    · exact ih (fun u hu => hs u (by simp [hu])) p hp x hx
    · simp at hx; subst hx
      unfold spanL at hy
      obtain ⟨k, hk, rfl⟩ := List.mem_map.1 hy
      have := List.mem_range.1 hk
      unfold Small; omega
/-- May both be taken? -/
def bothT (x : Xt) (a b : Ac) (xs : List Int) : Bool := (takeV x a a.frm xs).2.2 && (takeV x b a.frm xs).2.2
def pairC (x : Xt) (a b : Ac) : Option (List Int) := if b.frm = a.frm ∧ b.inp = a.inp then (domL x.vars).find? (bothT x a b) else none
def noC (x : Xt) (i k : Nat) : Prop := ∀ a b, x.arcs[i]? = some a → x.arcs[k]? = some b → pairC x a b = none
def CfAt (x : Xt) (i k : Nat) (xs : List Int) : Prop := i < k ∧ (∃ a b, x.arcs[i]? = some a ∧ x.arcs[k]? = some b ∧ pairC x a b = some xs) ∧ ∀ i' k' : Nat, i' < k' → (i' < i ∨ (i' = i ∧ k' < k)) → noC x i' k'
def CfNo (x : Xt) : Prop := ∀ i k : Nat, i < k → noC x i k
theorem noC_far {x : Xt} {i k : Nat} (h : x.arcs.length ≤ k) : noC x i k := fun a b _ hb => by rw [List.getElem?_eq_none h] at hb; cases hb
end Go.Proofs.YtggffdkgfgdaoaaDoor

namespace Go.Proofs.YtggffdkgfgdaoaaDoor
open Go.RowKit
set_option linter.unusedVariables false
set_option linter.unusedSimpArgs false
/-- From N on, all but the blocks of arcs and of machines stays. -/
structure Kp (N : Nat) (w w' : World) : Prop where
  size : w.heap.size ≤ w'.heap.size
  block : ∀ b, N ≤ b → b < w.heap.size → (∀ cs τ f, τ = 71 ∨ τ = 31 → w.heap[b]? ≠ some (.cells cs τ f)) → w'.heap[b]? = w.heap[b]?
theorem Kp.of {N : Nat} {w w' : World} (e : Ext w w') : Kp N w w' := ⟨e.size, fun b _ hb _ => e.block b hb⟩
theorem Kp.trans {N : Nat} {a b c : World} (h : Kp N a b) (k : Kp N b c) : Kp N a c := ⟨Nat.le_trans h.size k.size, fun i hN hi hn => by
  have h1 := h.block i hN hi hn
  rw [← h1]
  exact k.block i hN (Nat.lt_of_lt_of_le hi h.size) (fun cs τ f hτ => by rw [h1]; exact hn cs τ f hτ)⟩
theorem Kp.grown {N : Nat} {w w' : World} {g : Nat} {cs : Array Value} {τ : TypeId} {f : Nat × Nat} (hg : w.heap[g]? = some (.cells cs τ f)) (hτ : τ = 71 ∨ τ = 31) (h : w.grownBy w' (some g)) : Kp N w w' := ⟨h.size, fun b _ hb hn => h.block b hb (fun e => by
  injection e with e
  subst e
  exact hn cs τ f hτ hg)⟩
theorem Kp.none {N : Nat} {w w' : World} (h : w.grownBy w' none) : Kp N w w' := ⟨h.size, fun b _ hb hn => h.block b hb (by simp)⟩
theorem Kp.below {N : Nat} {w w' : World} {g : Nat} (hg : g < N) (h : w.grownBy w' (some g)) : Kp N w w' := ⟨h.size, fun b hN hb hn => h.block b hb (by simp; omega)⟩
theorem cell_keep {w w' : World} {b : Nat} (h : w'.heap[b]? = w.heap[b]?) (k : Nat) : w'.cell? ⟨b, k, none⟩ = w.cell? ⟨b, k, none⟩ := by simp [World.cell?, h]
/-- Cells in a block of type τ. -/
def CellsT (N : Nat) (τ : TypeId) (w : World) (A : Option Addr) (cs : List Value) : Prop := 0 < cs.length → ∃ b o, A = some ⟨b, o, none⟩ ∧ N ≤ b ∧ b < w.heap.size ∧ (∃ c0 f, w.heap[b]? = some (.cells c0 τ f)) ∧ ∀ j u, cs[j]? = some u → w.cell? ⟨b, o + j, none⟩ = some u
theorem CellsT.c {N : Nat} {τ : TypeId} {w : World} {A : Option Addr} {cs : List Value} (h : CellsT N τ w A cs) : Cells w A cs := fun h0 => by
  obtain ⟨b, o, h1, _, h2, _, h3⟩ := h h0
  exact ⟨b, o, h1, h2, h3⟩
theorem CellsT.keep {N : Nat} {τ : TypeId} {w w' : World} {A : Option Addr} {cs : List Value} (h : CellsT N τ w A cs) (hτ : ¬ (τ = 71 ∨ τ = 31)) (e : Kp N w w') : CellsT N τ w' A cs := fun h0 => by
  obtain ⟨b, o, h1, hN, h2, ⟨c0, f, h4⟩, h3⟩ := h h0
  have h5 := e.block b hN h2 (fun cs τ' f' hτ' h => by rw [h4] at h; injection h with h; injection h with _ h _; exact hτ (h ▸ hτ'))
  exact ⟨b, o, h1, hN, Nat.lt_of_lt_of_le h2 e.size, ⟨c0, f, h5.trans h4⟩, fun j u hj => (cell_keep h5 _).trans (h3 j u hj)⟩
theorem CellsT.mono {N M : Nat} {τ : TypeId} {w : World} {A : Option Addr} {cs : List Value} (h : CellsT N τ w A cs) (hM : M ≤ N) : CellsT M τ w A cs := fun h0 => by
  obtain ⟨b, o, h1, hN, h2⟩ := h h0
  exact ⟨b, o, h1, Nat.le_trans hM hN, h2⟩
theorem CellsT.nil (N : Nat) (τ : TypeId) (w : World) (A : Option Addr) : CellsT N τ w A [] := fun h => absurd h (by simp)
theorem CellsT.blk {N : Nat} {τ : TypeId} {w : World} {b : Nat} {cs : Array Value} (hN : N ≤ b) (h : w.heap[b]? = some (.cells cs τ (0, 0))) : CellsT N τ w (some ⟨b, 0, none⟩) cs.toList := fun _ => ⟨b, 0, rfl, hN, lt_of_block h, ⟨cs, _, h⟩, fun j u hj => by rw [Nat.zero_add]; exact cell_of_blk h j (by simpa using hj)⟩
inductive NodeT (N : Nat) (w : World) : Tr → Value → Prop
  | mk {op : Nat} {n : Int} {ts : List Tr} {A : Option Addr} {c : Nat} {vs : List Nv} : op < 256 → vs.length = ts.length → CellsT N 68 w A (vs.flatMap nvCells) → (∀ (i : Nat) (t : Tr) (u : Nv), ts[i]? = some t → vs[i]? = some u → NodeT N w t (nvVal u)) →
      ts.length ≤ c → ts.length ≤ lenMax → NodeT N w (.mk op n ts) (.agg #[.int .u8 (op : Int), .int .i64 n, .slice A ts.length c])
theorem NodeT.v {N : Nat} {w : World} {t : Tr} {v : Value} (h : NodeT N w t v) : NodeV w t v := by
  induction h with
  | mk h0 h1 h2 _ h4 h5 ih => exact .mk h0 h1 h2.c ih h4 h5
theorem NodeT.keep {N : Nat} {w w' : World} {t : Tr} {v : Value} (h : NodeT N w t v) (e : Kp N w w') : NodeT N w' t v := by
  induction h with
  | mk h0 h1 h2 _ h4 h5 ih => exact .mk h0 h1 (h2.keep (by decide) e) ih h4 h5
theorem NodeT.ext {N : Nat} {w w' : World} {t : Tr} {v : Value} (h : NodeT N w t v) (e : Ext w w') : NodeT N w' t v := h.keep (.of e)
theorem NodeT.mono {N M : Nat} {w : World} {t : Tr} {v : Value} (h : NodeT N w t v) (hM : M ≤ N) : NodeT M w t v := by
  induction h with
  | mk h0 h1 h2 _ h4 h5 ih => exact .mk h0 h1 (h2.mono hM) ih h4 h5
theorem NodeT.leaf (N : Nat) (w : World) {op : Nat} (h : op < 256) (n : Int) : NodeT N w (.mk op n []) (.agg #[.int .u8 (op : Int), .int .i64 n, .slice none 0 0]) :=
  .mk (vs := []) h rfl (CellsT.nil _ _ _ _) (fun i t u h => by simp at h) (Nat.le_refl _) (by simp)
/-- The form of a node. -/
theorem NodeT.form {N : Nat} {w : World} {t : Tr} {v : Value} (h : NodeT N w t v) : ∃ (A : Option Addr) (k c : Nat), v = .agg #[.int .u8 (t.op : Int), .int .i64 t.n, .slice A k c] := by
  cases h with
  | mk h0 h1 h2 h3 h4 h5 => exact ⟨_, _, _, rfl⟩
theorem NodeT.two {N : Nat} {w : World} {a b : Tr} {oa ob : Nat} {na nb : Int} {sa sb : Value} {g : Nat} {op : Nat} (ho : op < 256) (hN : N ≤ g) (ha : NodeT N w a (.agg #[.int .u8 (oa : Int), .int .i64 na, sa])) (hb : NodeT N w b (.agg #[.int .u8 (ob : Int), .int .i64 nb, sb]))
    (hB : w.heap[g]? = some (.cells #[.int .u8 (oa : Int), .int .i64 na, sa, .int .u8 (ob : Int), .int .i64 nb, sb] 68 (0, 0)))   : NodeT N w (.mk op 0 [a, b]) (.agg #[.int .u8 (op : Int), .int .i64 0, .slice (some ⟨g, 0, none⟩) 2 2]) := by
  refine .mk (vs := [(oa, na, sa), (ob, nb, sb)]) ho rfl (CellsT.blk hN hB) (fun i t u ht hu => ?_) (Nat.le_refl _) (by simp [lenMax])
  match i, ht, hu with
  | 0, ht, hu => simp at ht hu; subst ht hu; exact ha
  | 1, ht, hu => simp at ht hu; subst ht hu; exact hb
theorem NodeT.one {N : Nat} {w : World} {a : Tr} {oa : Nat} {na : Int} {sa : Value} {g : Nat} {op : Nat} (ho : op < 256) (hN : N ≤ g) (ha : NodeT N w a (.agg #[.int .u8 (oa : Int), .int .i64 na, sa]))
    (hB : w.heap[g]? = some (.cells #[.int .u8 (oa : Int), .int .i64 na, sa] 68 (0, 0)))   : NodeT N w (.mk op 0 [a]) (.agg #[.int .u8 (op : Int), .int .i64 0, .slice (some ⟨g, 0, none⟩) 1 1]) := by
  refine .mk (vs := [(oa, na, sa)]) ho rfl (CellsT.blk hN hB) (fun i t u ht hu => ?_) (Nat.le_refl _) (by simp [lenMax])
  match i, ht, hu with
  | 0, ht, hu => simp at ht hu; subst ht hu; exact ha
def UpsT (N : Nat) (w : World) (v : Value) (us : List Up) (c : Nat) : Prop := ∃ (A : Option Addr) (vs : List Uv), v = .slice A us.length c ∧ vs.length = us.length ∧ CellsT N 86 w A (vs.flatMap uvCells) ∧
  (∀ (i : Nat) (u : Up) (x : Uv), us[i]? = some u → vs[i]? = some x → x.1 = u.var ∧ NodeT N w u.ex (nvVal x.2)) ∧ us.length ≤ c ∧ us.length ≤ lenMax
theorem UpsT.v {N : Nat} {w : World} {v : Value} {us : List Up} {c : Nat} (h : UpsT N w v us c) : UpsC w v us c := by
  obtain ⟨A, vs, h1, h2, h3, h4, h5⟩ := h
  exact ⟨A, vs, h1, h2, h3.c, fun i u x hu hx => ⟨(h4 i u x hu hx).1, (h4 i u x hu hx).2.v⟩, h5⟩
theorem UpsT.keep {N : Nat} {w w' : World} {v : Value} {us : List Up} {c : Nat} (h : UpsT N w v us c) (e : Kp N w w') : UpsT N w' v us c := by
  obtain ⟨A, vs, h1, h2, h3, h4, h5⟩ := h
  exact ⟨A, vs, h1, h2, h3.keep (by decide) e, fun i u x hu hx => ⟨(h4 i u x hu hx).1, (h4 i u x hu hx).2.keep e⟩, h5⟩
def ArcT (N : Nat) (w : World) (a : Ac) (x : Av) : Prop := x.frm = a.frm ∧ x.inp = a.inp ∧ NodeT N w a.guard (nvVal x.g) ∧ x.out = a.out ∧ (∃ c, UpsT N w x.ups a.ups c) ∧ x.dst = a.dst
theorem ArcT.v {N : Nat} {w : World} {a : Ac} {x : Av} (h : ArcT N w a x) : ArcV w a x := by
  obtain ⟨h1, h2, h3, h4, ⟨c, h5⟩, h6⟩ := h
  exact ⟨h1, h2, h3.v, h4, ⟨c, h5.v⟩, h6⟩
theorem ArcT.keep {N : Nat} {w w' : World} {a : Ac} {x : Av} (h : ArcT N w a x) (e : Kp N w w') : ArcT N w' a x := by
  obtain ⟨h1, h2, h3, h4, ⟨c, h5⟩, h6⟩ := h
  exact ⟨h1, h2, h3.keep e, h4, ⟨c, h5.keep e⟩, h6⟩
def VarsT (N : Nat) (w : World) (v : Value) (l : List Vt) (c : Nat) : Prop := ∃ A, v = .slice A l.length c ∧ CellsT N 79 w A (l.flatMap vtCells) ∧ l.length ≤ c ∧ l.length ≤ lenMax ∧ ∀ u ∈ l, u.1.size ≤ maxLen
theorem VarsT.v {N : Nat} {w : World} {v : Value} {l : List Vt} {c : Nat} (h : VarsT N w v l c) : VarsC w v l c := by
  obtain ⟨A, h1, h2, h3⟩ := h
  exact ⟨A, h1, h2.c, h3⟩
theorem VarsT.keep {N : Nat} {w w' : World} {v : Value} {l : List Vt} {c : Nat} (h : VarsT N w v l c) (e : Kp N w w') : VarsT N w' v l c := by
  obtain ⟨A, h1, h2, h3⟩ := h
  exact ⟨A, h1, h2.keep (by decide) e, h3⟩
def IntsT (N : Nat) (w : World) (v : Value) (xs : List Int) (c : Nat) : Prop := ∃ A, v = .slice A xs.length c ∧ CellsT N 3 w A (xs.map (.int .i64)) ∧ xs.length ≤ c ∧ xs.length ≤ lenMax
theorem IntsT.v {N : Nat} {w : World} {v : Value} {xs : List Int} {c : Nat} (h : IntsT N w v xs c) : IntsC w v xs c := by
  obtain ⟨A, h1, h2, h3⟩ := h
  exact ⟨A, h1, h2.c, h3⟩
theorem IntsT.keep {N : Nat} {w w' : World} {v : Value} {xs : List Int} {c : Nat} (h : IntsT N w v xs c) (e : Kp N w w') : IntsT N w' v xs c := by
  obtain ⟨A, h1, h2, h3⟩ := h
  exact ⟨A, h1, h2.keep (by decide) e, h3⟩
/-- A machine whose arcs are a call's own. -/
def XtT (N : Nat) (w : World) (x : Xt) (v : Value) : Prop := ∃ (vv sv av : Value) (vs : List Av) (c1 c2 : Nat), v = .agg #[.int .i64 x.ins, .int .i64 x.outs, .int .i64 x.states, vv, sv, av] ∧ VarsT N w vv x.vars c1 ∧ IntsT N w sv x.start c2 ∧
  w.ownsRow N 71 8 av x.arcs.length (vs.flatMap avCells) ∧ vs.length = x.arcs.length ∧ (∀ (i : Nat) (a : Ac) (y : Av), x.arcs[i]? = some a → vs[i]? = some y → ArcT N w a y) ∧ x.arcs.length ≤ lenMax
theorem XtT.v {N : Nat} {w : World} {x : Xt} {v : Value} (h : XtT N w x v) : XtV w x v := by
  obtain ⟨vv, sv, av, vs, c1, c2, h1, h2, h3, h4, h5, h6, h7⟩ := h
  obtain ⟨A, c, h8, h9, h10⟩ := cells_of_owns h4
  exact ⟨vv, sv, av, c1, c2, c, h1, h2.v, h3.v, A, vs, h8, h5, h10, fun i a y ha hy => (h6 i a y ha hy).v, h9, h7⟩
theorem XtT.ext {N : Nat} {w w' : World} {x : Xt} {v : Value} (h : XtT N w x v) (e : Ext w w') : XtT N w' x v := by
  obtain ⟨vv, sv, av, vs, c1, c2, h1, h2, h3, h4, h5, h6, h7⟩ := h
  exact ⟨vv, sv, av, vs, c1, c2, h1, h2.keep (.of e), h3.keep (.of e), ownsRow_of h4 (fun b hb => e.block b (h4.lt b hb).2), h5, fun i a y ha hy => (h6 i a y ha hy).keep (.of e), h7⟩
end Go.Proofs.YtggffdkgfgdaoaaDoor

namespace Go.Proofs.YtggffdkgfgdaoaaDoor
open Go.RowKit Go.Maps
set_option linter.unusedVariables false
set_option linter.unusedSimpArgs false
attribute [local go_sem] Oper.quietV quietV Oper.gives givesV ext_refl_iff ext_alloc_iff ext_drew_iff ext_drewN_iff
def NodeR (N : Nat) (w : World) (t : Tr) (e : Ending) (w' : World) : Prop := ∃ (A : Option Addr) (k c : Nat), e = .returned (.agg #[.int .u8 (t.op : Int), .int .i64 t.n, .slice A k c]) ∧ NodeT N w' t (.agg #[.int .u8 (t.op : Int), .int .i64 t.n, .slice A k c]) ∧ Ext w w'
def LeafR (w : World) (op : Nat) (n : Int) (e : Ending) (w' : World) : Prop := e = .returned (.agg #[.int .u8 (op : Int), .int .i64 n, .slice none 0 0]) ∧ Ext w w'
set_option maxRecDepth 100000 in
set_option maxHeartbeats 4000000 in
theorem number32_any (w : World) (n : Int) : Calls Tryd.prog 32 #[.int .i64 n] w (LeafR w 0 n) := by
  go_enter Tryd.func32, Tryd.ntmps32
  go_upto_region 1 with fail
  refine wp_named ?_
  intro W1 hW1
  have hE1 : Ext w W1 := by rw [hW1]; exact alloc_ext w _
  have hB : W1.heap[w.heap.size]? = some (.cells #[.int .u8 0, .int .i64 0, .slice none 0 0] 68 (0, 0)) := by rw [hW1]; exact heap_alloc_new _ _
  clear hW1
  generalize hd : w.heap.size = d at *
  go_wp2_with (with_reducible refine wpList_store_blk _ rfl 68 _ _ rfl d 68 _ _ rfl rfl hB (by kernel_rfl) (by kernel_rfl) (by kernel_rfl) ?_; intro w8 h8 g8)
  refine bodyPost_ret (results_cell_row rfl _ _ d 68 _ (0, 0) _ (by simp [Act.put]) h8 Tryd.underlying68 rfl (by kernel_rfl)) rfl ?_
  exact ⟨rfl, Below.grown hE1 g8 hE1.size (fun k hk => by cases hk; omega)⟩
set_option maxRecDepth 100000 in
set_option maxHeartbeats 4000000 in
theorem name33_any (w : World) (n : Int) : Calls Tryd.prog 33 #[.int .i64 n] w (LeafR w 1 n) := by
  go_enter Tryd.func33, Tryd.ntmps33
  go_upto_region 1 with fail
  refine wp_named ?_
  intro W1 hW1
  have hE1 : Ext w W1 := by rw [hW1]; exact alloc_ext w _
  have hB : W1.heap[w.heap.size]? = some (.cells #[.int .u8 0, .int .i64 0, .slice none 0 0] 68 (0, 0)) := by rw [hW1]; exact heap_alloc_new _ _
  clear hW1
  generalize hd : w.heap.size = d at *
  go_wp2_with (with_reducible refine wpList_store_blk _ rfl 68 _ _ rfl d 68 _ _ rfl rfl hB (by kernel_rfl) (by kernel_rfl) (by kernel_rfl) ?_; intro w8 h8 g8)
  refine bodyPost_ret (results_cell_row rfl _ _ d 68 _ (0, 0) _ (by simp [Act.put]) h8 Tryd.underlying68 rfl (by kernel_rfl)) rfl ?_
  exact ⟨rfl, Below.grown hE1 g8 hE1.size (fun k hk => by cases hk; omega)⟩
set_option maxRecDepth 100000 in
set_option maxHeartbeats 4000000 in
theorem two_any (w : World) (N op : Nat) (hN : N ≤ w.heap.size) (ho : op < 256) (a b : Tr) (va vb : Value) (ha : NodeT N w a va) (hb : NodeT N w b vb) : Calls Tryd.prog 31 #[.int .u8 (op : Int), va, vb] w (NodeR N w (.mk op 0 [a, b])) := by
  obtain ⟨A1, k1, c1, rfl⟩ := ha.form
  obtain ⟨A2, k2, c2, rfl⟩ := hb.form
  have HN := Lib.hid hN
  have HX := Lib.hid (And.intro ha hb)
  clear ha hb hN
  generalize a.op = ao at *
  generalize a.n = an at *
  generalize b.op = bo at *
  generalize b.n = bn at *
  go_enter Tryd.func31, Tryd.ntmps31
  go_upto_region 1 with fail
  refine wp_named ?_
  intro W1 hW1
  have hE1 : Ext w W1 := by rw [hW1]; exact ((alloc_ext w _).trans (alloc_ext _ _)).trans (alloc_ext _ _)
  have hB : W1.heap[w.heap.size + 1 + 1]? = some (.cells #[.int .u8 0, .int .i64 0, .slice none 0 0] 68 (0, 0)) := by rw [hW1]; exact alloc3_2 _ _ _ _
  have a0 : W1.cell? ⟨w.heap.size, 0, none⟩ = some (.int .u8 (ao : Int)) := by rw [hW1]; simp [go_sem]
  have a1 : W1.cell? ⟨w.heap.size, 1, none⟩ = some (.int .i64 an) := by rw [hW1]; simp [go_sem]
  have a2 : W1.cell? ⟨w.heap.size, 2, none⟩ = some (.slice A1 k1 c1) := by rw [hW1]; simp [go_sem]
  have b0 : W1.cell? ⟨w.heap.size + 1, 0, none⟩ = some (.int .u8 (bo : Int)) := by rw [hW1]; simp [go_sem]
  have b1 : W1.cell? ⟨w.heap.size + 1, 1, none⟩ = some (.int .i64 bn) := by rw [hW1]; simp [go_sem]
  have b2 : W1.cell? ⟨w.heap.size + 1, 2, none⟩ = some (.slice A2 k2 c2) := by rw [hW1]; simp [go_sem]
  have HE := Lib.hid (And.intro hE1 hB)
  have HD : Hid (w.heap.size ≤ w.heap.size + 1 + 1) := Lib.hid (by omega)
  clear hW1 hE1 hB
  generalize w.heap.size + 1 + 1 = d6 at *
  generalize w.heap.size + 1 = d5 at *
  generalize hd : w.heap.size = d4 at *
  have HDW := Lib.hid hd
  clear hd
  have hlt := lt_of_block HE.out.2
  have hb9 := fun (o : Obj) => heap_ext (alloc_ext W1 o) HE.out.2
  go_wp2_with (with_reducible refine wpList_store_blk _ rfl 68 _ _ rfl d6 68 _ _ rfl rfl (hb9 _) (by kernel_rfl) (by kernel_rfl) (by kernel_rfl) ?_; intro w8 h8 g8)
  refine bodyPost_ret (results_cell_row rfl _ _ d6 68 _ (0, 0) _ (by simp [Act.put]) h8 Tryd.underlying68 rfl (by kernel_rfl)) rfl ?_
  have hE2 := HE.out.1.trans (alloc_ext W1 (.cells #[.int .u8 (ao : Int), .int .i64 an, .slice A1 k1 c1, .int .u8 (bo : Int), .int .i64 bn, .slice A2 k2 c2] 68))
  have hE8 : Ext w w8 := Below.grown hE2 g8 hE2.size (fun k hk => by cases hk; rw [HDW.out]; exact HD.out)
  refine ⟨_, _, _, rfl, NodeT.two ho (by have h1 := HN.out; have h2 := HE.out.1.size; rw [← HDW.out] at h1; omega) (HX.out.1.ext hE8) (HX.out.2.ext hE8) ?_, hE8⟩
  refine (g8.block _ (by simp) (by simp; omega)).trans (heap_alloc_new _ _)
end Go.Proofs.YtggffdkgfgdaoaaDoor

namespace Go.Proofs.YtggffdkgfgdaoaaDoor
open Go.RowKit Go.Maps
set_option linter.unusedVariables false
set_option linter.unusedSimpArgs false
attribute [local go_sem] Oper.quietV quietV Oper.gives givesV ext_refl_iff ext_alloc_iff ext_drew_iff ext_drewN_iff
theorem num_leaf (N : Nat) (w : World) (n : Int) : NodeT N w (.mk 0 n []) (.agg #[.int .u8 0, .int .i64 n, .slice none 0 0]) := NodeT.leaf N w (by decide) n
theorem name_leaf (N : Nat) (w : World) (n : Int) : NodeT N w (.mk 1 n []) (.agg #[.int .u8 1, .int .i64 n, .slice none 0 0]) := NodeT.leaf N w (by decide) n
theorem num_lit (w : World) (n : Int) : Calls Tryd.prog 32 #[.int .i64 n] w (fun e w' => e = .returned (.agg #[.int .u8 0, .int .i64 n, .slice none 0 0]) ∧ Ext w w') := number32_any w n
theorem name_lit (w : World) (n : Int) : Calls Tryd.prog 33 #[.int .i64 n] w (fun e w' => e = .returned (.agg #[.int .u8 1, .int .i64 n, .slice none 0 0]) ∧ Ext w w') := name33_any w n
def TwoR (N : Nat) (k : Int) (t : Tr) (w : World) (e : Ending) (w' : World) : Prop := ∃ (A : Option Addr) (l c : Nat), e = .returned (.agg #[.int .u8 k, .int .i64 0, .slice A l c]) ∧ NodeT N w' t (.agg #[.int .u8 k, .int .i64 0, .slice A l c]) ∧ Ext w w'
theorem two_lit (w : World) (N op : Nat) (k : Int) (hk : k = (op : Int)) (hN : N ≤ w.heap.size) (ho : op < 256) (a b : Tr) (va vb : Value) (ha : NodeT N w a va) (hb : NodeT N w b vb) : Calls Tryd.prog 31 #[.int .u8 k, va, vb] w (TwoR N k (.mk op 0 [a, b]) w) := by
  subst hk
  exact two_any w N op hN ho a b va vb ha hb
def guardR (r : Nat) : Tr := match r with
  | 0 => .mk 6 0 [.mk 0 0 [], .mk 0 0 []]
  | 1 => .mk 7 0 [.mk 1 0 [], .mk 0 2 []]
  | 2 => .mk 6 0 [.mk 1 0 [], .mk 0 2 []]
  | 3 => .mk 9 0 [.mk 6 0 [.mk 1 1 [], .mk 0 1 []]]
  | 4 => .mk 6 0 [.mk 1 0 [], .mk 1 1 []]
  | 5 => .mk 10 0 [.mk 8 0 [.mk 0 1 [], .mk 1 0 []], .mk 6 0 [.mk 1 1 [], .mk 0 1 []]]
  | 6 => .mk 11 0 [.mk 6 0 [.mk 1 1 [], .mk 0 0 []], .mk 6 0 [.mk 1 0 [], .mk 0 0 []]]
  | _ => .mk 7 0 [.mk 5 0 [.mk 0 2147483648 [], .mk 1 0 []], .mk 0 1 []]
def guardT (n : Nat) : Tr := guardR (n % 8)
/-- A node that a call made. -/
def NodeP (N : Nat) (w : World) (t : Tr) (e : Ending) (w' : World) : Prop := ∃ (k n : Int) (A : Option Addr) (l c : Nat), e = .returned (.agg #[.int .u8 k, .int .i64 n, .slice A l c]) ∧ NodeT N w' t (.agg #[.int .u8 k, .int .i64 n, .slice A l c]) ∧ Ext w w'
theorem Ext.sz {w w' : World} (e : Ext w w') : w.heap.size ≤ w'.heap.size := e.size
set_option maxRecDepth 100000 in
set_option maxHeartbeats 16000000 in
theorem guard_any (w : World) (n : Nat) : Calls Tryd.prog 34 #[.int .u8 (n : Int)] w (NodeP w.heap.size w (guardT n)) := by
  have hlt := Nat.mod_lt n (show 0 < 8 by omega)
  obtain ⟨r, hr⟩ : ∃ r, r = n % 8 := ⟨_, rfl⟩
  have HG : Hid (guardT n = guardR r) := Lib.hid (by rw [hr]; rfl)
  obtain ⟨gt, hgt⟩ : ∃ t, t = guardT n := ⟨_, rfl⟩
  rw [← hgt] at HG ⊢
  have hm : (n : Int) % 8 = (r : Int) := by omega
  have hm2 : Int.tmod (n : Int) 8 = (r : Int) := by rw [Int.tmod_eq_emod_of_nonneg (by omega)]; exact hm
  have hr8 : r < 8 := by omega
  clear hr hgt hlt
  generalize (n : Int) = z at *
  go_enter Tryd.func34, Tryd.ntmps34
  go_upto_region 1 with fail
  refine wp_named ?_
  intro W1 hW1
  have hE : Ext w W1 := by rw [hW1]; exact alloc_ext w _
  have hB : W1.heap[w.heap.size]? = some (.cells #[.int .u8 0, .int .i64 0, .slice none 0 0] 68 (0, 0)) := by rw [hW1]; exact heap_alloc_new _ _
  clear hW1
  generalize hd : w.heap.size = d at *
  have HDW := Lib.hid hd
  clear hd
  have hdl := lt_of_block hB
  obtain ⟨N, hNN⟩ : ∃ N, N = W1.heap.size := ⟨_, rfl⟩
  have hN : N ≤ W1.heap.size := by omega
  have HDN : Hid (d < N) := Lib.hid (by omega)
  clear hNN hdl
  match r, hr8 with
  | 0, _ =>
    go_wp2_with (first
      | ((with_reducible refine (two_lit _ N 6 _ (by decide) hN (by decide) (.mk 0 0 []) (.mk 0 0 []) _ _ (num_leaf N _ 0) (num_leaf N _ 0)).mono ?_); rintro e Wn ⟨_, _, _, rfl, h1, en⟩; (try clear huh1); have hE := hE.trans en; have hB := heap_ext en hB; have hN := Nat.le_trans hN (Ext.sz en); (try have h1 := NodeT.ext h1 en); (try have h2 := NodeT.ext h2 en); (try have h3 := NodeT.ext h3 en))
      | ((with_reducible first | refine (num_lit _ _).mono ?_ | refine (name_lit _ _).mono ?_); rintro e Wn ⟨rfl, en⟩; have hE := hE.trans en; have hB := heap_ext en hB; have hN := Nat.le_trans hN (Ext.sz en); (try have h1 := NodeT.ext h1 en); (try have h2 := NodeT.ext h2 en); (try have h3 := NodeT.ext h3 en))
      | (with_reducible refine wpList_store_blk _ rfl 68 _ _ rfl d 68 _ _ rfl rfl hB (by kernel_rfl) (by kernel_rfl) (by kernel_rfl) ?_; intro w8 h8 g8))
    try rw [Exit.noGoto_ret]
    try simp only [Exit.inBlock, Exit.then]
    refine bodyPost_ret (results_cell_row rfl _ _ d 68 _ (0, 0) _ (by simp [Act.put]) h8 Tryd.underlying68 rfl (by kernel_rfl)) rfl ?_
    have h9 := (NodeT.keep h1 (Kp.below HDN.out g8)).mono (Nat.le_of_lt HDN.out)
    rw [HG.out]
    exact ⟨_, _, _, _, _, rfl, h9, Below.grown hE g8 hE.size (fun k hk => by cases hk; rw [HDW.out]; exact Nat.le_refl _)⟩
  | 1, _ =>
    go_wp2_with (first
      | ((with_reducible refine (two_lit _ N 7 _ (by decide) hN (by decide) (.mk 1 0 []) (.mk 0 2 []) _ _ (name_leaf N _ 0) (num_leaf N _ 2)).mono ?_); rintro e Wn ⟨_, _, _, rfl, h1, en⟩; (try clear huh1); have hE := hE.trans en; have hB := heap_ext en hB; have hN := Nat.le_trans hN (Ext.sz en); (try have h1 := NodeT.ext h1 en); (try have h2 := NodeT.ext h2 en); (try have h3 := NodeT.ext h3 en))
      | ((with_reducible first | refine (num_lit _ _).mono ?_ | refine (name_lit _ _).mono ?_); rintro e Wn ⟨rfl, en⟩; have hE := hE.trans en; have hB := heap_ext en hB; have hN := Nat.le_trans hN (Ext.sz en); (try have h1 := NodeT.ext h1 en); (try have h2 := NodeT.ext h2 en); (try have h3 := NodeT.ext h3 en))
      | (with_reducible refine wpList_store_blk _ rfl 68 _ _ rfl d 68 _ _ rfl rfl hB (by kernel_rfl) (by kernel_rfl) (by kernel_rfl) ?_; intro w8 h8 g8))
    try rw [Exit.noGoto_ret]
    try simp only [Exit.inBlock, Exit.then]
    refine bodyPost_ret (results_cell_row rfl _ _ d 68 _ (0, 0) _ (by simp [Act.put]) h8 Tryd.underlying68 rfl (by kernel_rfl)) rfl ?_
    have h9 := (NodeT.keep h1 (Kp.below HDN.out g8)).mono (Nat.le_of_lt HDN.out)
    rw [HG.out]
    exact ⟨_, _, _, _, _, rfl, h9, Below.grown hE g8 hE.size (fun k hk => by cases hk; rw [HDW.out]; exact Nat.le_refl _)⟩
  | 2, _ =>
    go_wp2_with (first
      | ((with_reducible refine (two_lit _ N 6 _ (by decide) hN (by decide) (.mk 1 0 []) (.mk 0 2 []) _ _ (name_leaf N _ 0) (num_leaf N _ 2)).mono ?_); rintro e Wn ⟨_, _, _, rfl, h1, en⟩; (try clear huh1); have hE := hE.trans en; have hB := heap_ext en hB; have hN := Nat.le_trans hN (Ext.sz en); (try have h1 := NodeT.ext h1 en); (try have h2 := NodeT.ext h2 en); (try have h3 := NodeT.ext h3 en))
      | ((with_reducible first | refine (num_lit _ _).mono ?_ | refine (name_lit _ _).mono ?_); rintro e Wn ⟨rfl, en⟩; have hE := hE.trans en; have hB := heap_ext en hB; have hN := Nat.le_trans hN (Ext.sz en); (try have h1 := NodeT.ext h1 en); (try have h2 := NodeT.ext h2 en); (try have h3 := NodeT.ext h3 en))
      | (with_reducible refine wpList_store_blk _ rfl 68 _ _ rfl d 68 _ _ rfl rfl hB (by kernel_rfl) (by kernel_rfl) (by kernel_rfl) ?_; intro w8 h8 g8))
    try rw [Exit.noGoto_ret]
    try simp only [Exit.inBlock, Exit.then]
    refine bodyPost_ret (results_cell_row rfl _ _ d 68 _ (0, 0) _ (by simp [Act.put]) h8 Tryd.underlying68 rfl (by kernel_rfl)) rfl ?_
    have h9 := (NodeT.keep h1 (Kp.below HDN.out g8)).mono (Nat.le_of_lt HDN.out)
    rw [HG.out]
    exact ⟨_, _, _, _, _, rfl, h9, Below.grown hE g8 hE.size (fun k hk => by cases hk; rw [HDW.out]; exact Nat.le_refl _)⟩
  | 3, _ =>
    go_wp2_with (first
      | ((with_reducible refine (two_lit _ N 6 _ (by decide) hN (by decide) (.mk 1 1 []) (.mk 0 1 []) _ _ (name_leaf N _ 1) (num_leaf N _ 1)).mono ?_); rintro e Wn ⟨_, _, _, rfl, h1, en⟩; (try clear huh1); have hE := hE.trans en; have hB := heap_ext en hB; have hN := Nat.le_trans hN (Ext.sz en); (try have h1 := NodeT.ext h1 en); (try have h2 := NodeT.ext h2 en); (try have h3 := NodeT.ext h3 en))
      | ((with_reducible first | refine (num_lit _ _).mono ?_ | refine (name_lit _ _).mono ?_); rintro e Wn ⟨rfl, en⟩; have hE := hE.trans en; have hB := heap_ext en hB; have hN := Nat.le_trans hN (Ext.sz en); (try have h1 := NodeT.ext h1 en); (try have h2 := NodeT.ext h2 en); (try have h3 := NodeT.ext h3 en))
      | (with_reducible refine wpList_store_blk _ rfl 68 _ _ rfl d 68 _ _ rfl rfl (heap_ext (alloc_ext _ _) hB) (by kernel_rfl) (by kernel_rfl) (by kernel_rfl) ?_; intro w8 h8 g8))
    try rw [Exit.noGoto_ret]
    try simp only [Exit.inBlock, Exit.then]
    refine bodyPost_ret (results_cell_row rfl _ _ d 68 _ (0, 0) _ (by simp [Act.put]) h8 Tryd.underlying68 rfl (by kernel_rfl)) rfl ?_
    have hd9 := HDN.out
    have hblk := (g8.block Wn.heap.size (by simp) (by simp; omega)).trans (heap_alloc_new Wn _)
    have h1' := NodeT.keep (NodeT.ext h1 (alloc_ext Wn _)) (Kp.below HDN.out g8)
    have h9 := (NodeT.one (op := 9) (by decide) hN h1' hblk).mono (Nat.le_of_lt HDN.out)
    have hE' : Ext w w8 := by
      refine Below.grown (hE.trans (alloc_ext Wn _)) g8 (Nat.le_trans hE.size (by simp)) (fun k hk => by cases hk; rw [HDW.out]; exact Nat.le_refl _)
    rw [HG.out]
    exact ⟨_, _, _, _, _, rfl, h9, hE'⟩
  | 4, _ =>
    go_wp2_with (first
      | ((with_reducible refine (two_lit _ N 6 _ (by decide) hN (by decide) (.mk 1 0 []) (.mk 1 1 []) _ _ (name_leaf N _ 0) (name_leaf N _ 1)).mono ?_); rintro e Wn ⟨_, _, _, rfl, h1, en⟩; (try clear huh1); have hE := hE.trans en; have hB := heap_ext en hB; have hN := Nat.le_trans hN (Ext.sz en); (try have h1 := NodeT.ext h1 en); (try have h2 := NodeT.ext h2 en); (try have h3 := NodeT.ext h3 en))
      | ((with_reducible first | refine (num_lit _ _).mono ?_ | refine (name_lit _ _).mono ?_); rintro e Wn ⟨rfl, en⟩; have hE := hE.trans en; have hB := heap_ext en hB; have hN := Nat.le_trans hN (Ext.sz en); (try have h1 := NodeT.ext h1 en); (try have h2 := NodeT.ext h2 en); (try have h3 := NodeT.ext h3 en))
      | (with_reducible refine wpList_store_blk _ rfl 68 _ _ rfl d 68 _ _ rfl rfl hB (by kernel_rfl) (by kernel_rfl) (by kernel_rfl) ?_; intro w8 h8 g8))
    try rw [Exit.noGoto_ret]
    try simp only [Exit.inBlock, Exit.then]
    refine bodyPost_ret (results_cell_row rfl _ _ d 68 _ (0, 0) _ (by simp [Act.put]) h8 Tryd.underlying68 rfl (by kernel_rfl)) rfl ?_
    have h9 := (NodeT.keep h1 (Kp.below HDN.out g8)).mono (Nat.le_of_lt HDN.out)
    rw [HG.out]
    exact ⟨_, _, _, _, _, rfl, h9, Below.grown hE g8 hE.size (fun k hk => by cases hk; rw [HDW.out]; exact Nat.le_refl _)⟩
  | 5, _ =>
    go_wp2_with (first
      | ((with_reducible refine (two_lit _ N 10 _ (by decide) hN (by decide) _ _ _ _ h1 h2).mono ?_); rintro e Wn ⟨_, _, _, rfl, h3, en⟩; (try clear huh3); have hE := hE.trans en; have hB := heap_ext en hB; have hN := Nat.le_trans hN (Ext.sz en); (try have h1 := NodeT.ext h1 en); (try have h2 := NodeT.ext h2 en); (try have h3 := NodeT.ext h3 en))
      | ((with_reducible refine (two_lit _ N 6 _ (by decide) hN (by decide) (.mk 1 1 []) (.mk 0 1 []) _ _ (name_leaf N _ 1) (num_leaf N _ 1)).mono ?_); rintro e Wn ⟨_, _, _, rfl, h2, en⟩; (try clear huh2); have hE := hE.trans en; have hB := heap_ext en hB; have hN := Nat.le_trans hN (Ext.sz en); (try have h1 := NodeT.ext h1 en); (try have h2 := NodeT.ext h2 en); (try have h3 := NodeT.ext h3 en))
      | ((with_reducible refine (two_lit _ N 8 _ (by decide) hN (by decide) (.mk 0 1 []) (.mk 1 0 []) _ _ (num_leaf N _ 1) (name_leaf N _ 0)).mono ?_); rintro e Wn ⟨_, _, _, rfl, h1, en⟩; (try clear huh1); have hE := hE.trans en; have hB := heap_ext en hB; have hN := Nat.le_trans hN (Ext.sz en); (try have h1 := NodeT.ext h1 en); (try have h2 := NodeT.ext h2 en); (try have h3 := NodeT.ext h3 en))
      | ((with_reducible first | refine (num_lit _ _).mono ?_ | refine (name_lit _ _).mono ?_); rintro e Wn ⟨rfl, en⟩; have hE := hE.trans en; have hB := heap_ext en hB; have hN := Nat.le_trans hN (Ext.sz en); (try have h1 := NodeT.ext h1 en); (try have h2 := NodeT.ext h2 en); (try have h3 := NodeT.ext h3 en))
      | (with_reducible refine wpList_store_blk _ rfl 68 _ _ rfl d 68 _ _ rfl rfl hB (by kernel_rfl) (by kernel_rfl) (by kernel_rfl) ?_; intro w8 h8 g8))
    try rw [Exit.noGoto_ret]
    try simp only [Exit.inBlock, Exit.then]
    refine bodyPost_ret (results_cell_row rfl _ _ d 68 _ (0, 0) _ (by simp [Act.put]) h8 Tryd.underlying68 rfl (by kernel_rfl)) rfl ?_
    have h9 := (NodeT.keep h3 (Kp.below HDN.out g8)).mono (Nat.le_of_lt HDN.out)
    rw [HG.out]
    exact ⟨_, _, _, _, _, rfl, h9, Below.grown hE g8 hE.size (fun k hk => by cases hk; rw [HDW.out]; exact Nat.le_refl _)⟩
  | 6, _ =>
    go_wp2_with (first
      | ((with_reducible refine (two_lit _ N 11 _ (by decide) hN (by decide) _ _ _ _ h1 h2).mono ?_); rintro e Wn ⟨_, _, _, rfl, h3, en⟩; (try clear huh3); have hE := hE.trans en; have hB := heap_ext en hB; have hN := Nat.le_trans hN (Ext.sz en); (try have h1 := NodeT.ext h1 en); (try have h2 := NodeT.ext h2 en); (try have h3 := NodeT.ext h3 en))
      | ((with_reducible refine (two_lit _ N 6 _ (by decide) hN (by decide) (.mk 1 0 []) (.mk 0 0 []) _ _ (name_leaf N _ 0) (num_leaf N _ 0)).mono ?_); rintro e Wn ⟨_, _, _, rfl, h2, en⟩; (try clear huh2); have hE := hE.trans en; have hB := heap_ext en hB; have hN := Nat.le_trans hN (Ext.sz en); (try have h1 := NodeT.ext h1 en); (try have h2 := NodeT.ext h2 en); (try have h3 := NodeT.ext h3 en))
      | ((with_reducible refine (two_lit _ N 6 _ (by decide) hN (by decide) (.mk 1 1 []) (.mk 0 0 []) _ _ (name_leaf N _ 1) (num_leaf N _ 0)).mono ?_); rintro e Wn ⟨_, _, _, rfl, h1, en⟩; (try clear huh1); have hE := hE.trans en; have hB := heap_ext en hB; have hN := Nat.le_trans hN (Ext.sz en); (try have h1 := NodeT.ext h1 en); (try have h2 := NodeT.ext h2 en); (try have h3 := NodeT.ext h3 en))
      | ((with_reducible first | refine (num_lit _ _).mono ?_ | refine (name_lit _ _).mono ?_); rintro e Wn ⟨rfl, en⟩; have hE := hE.trans en; have hB := heap_ext en hB; have hN := Nat.le_trans hN (Ext.sz en); (try have h1 := NodeT.ext h1 en); (try have h2 := NodeT.ext h2 en); (try have h3 := NodeT.ext h3 en))
      | (with_reducible refine wpList_store_blk _ rfl 68 _ _ rfl d 68 _ _ rfl rfl hB (by kernel_rfl) (by kernel_rfl) (by kernel_rfl) ?_; intro w8 h8 g8))
    try rw [Exit.noGoto_ret]
    try simp only [Exit.inBlock, Exit.then]
    refine bodyPost_ret (results_cell_row rfl _ _ d 68 _ (0, 0) _ (by simp [Act.put]) h8 Tryd.underlying68 rfl (by kernel_rfl)) rfl ?_
    have h9 := (NodeT.keep h3 (Kp.below HDN.out g8)).mono (Nat.le_of_lt HDN.out)
    rw [HG.out]
    exact ⟨_, _, _, _, _, rfl, h9, Below.grown hE g8 hE.size (fun k hk => by cases hk; rw [HDW.out]; exact Nat.le_refl _)⟩
  | 7, _ =>
    go_wp2_with (first
      | ((with_reducible refine (two_lit _ N 7 _ (by decide) hN (by decide) _ (.mk 0 1 []) _ _ h1 (num_leaf N _ 1)).mono ?_); rintro e Wn ⟨_, _, _, rfl, h2, en⟩; (try clear huh2); have hE := hE.trans en; have hB := heap_ext en hB; have hN := Nat.le_trans hN (Ext.sz en); (try have h1 := NodeT.ext h1 en); (try have h2 := NodeT.ext h2 en); (try have h3 := NodeT.ext h3 en))
      | ((with_reducible refine (two_lit _ N 5 _ (by decide) hN (by decide) (.mk 0 2147483648 []) (.mk 1 0 []) _ _ (num_leaf N _ 2147483648) (name_leaf N _ 0)).mono ?_); rintro e Wn ⟨_, _, _, rfl, h1, en⟩; (try clear huh1); have hE := hE.trans en; have hB := heap_ext en hB; have hN := Nat.le_trans hN (Ext.sz en); (try have h1 := NodeT.ext h1 en); (try have h2 := NodeT.ext h2 en); (try have h3 := NodeT.ext h3 en))
      | ((with_reducible first | refine (num_lit _ _).mono ?_ | refine (name_lit _ _).mono ?_); rintro e Wn ⟨rfl, en⟩; have hE := hE.trans en; have hB := heap_ext en hB; have hN := Nat.le_trans hN (Ext.sz en); (try have h1 := NodeT.ext h1 en); (try have h2 := NodeT.ext h2 en); (try have h3 := NodeT.ext h3 en))
      | (with_reducible refine wpList_store_blk _ rfl 68 _ _ rfl d 68 _ _ rfl rfl hB (by kernel_rfl) (by kernel_rfl) (by kernel_rfl) ?_; intro w8 h8 g8))
    try rw [Exit.noGoto_ret]
    try simp only [Exit.inBlock, Exit.then]
    refine bodyPost_ret (results_cell_row rfl _ _ d 68 _ (0, 0) _ (by simp [Act.put]) h8 Tryd.underlying68 rfl (by kernel_rfl)) rfl ?_
    have h9 := (NodeT.keep h2 (Kp.below HDN.out g8)).mono (Nat.le_of_lt HDN.out)
    rw [HG.out]
    exact ⟨_, _, _, _, _, rfl, h9, Below.grown hE g8 hE.size (fun k hk => by cases hk; rw [HDW.out]; exact Nat.le_refl _)⟩
end Go.Proofs.YtggffdkgfgdaoaaDoor

namespace Go.Proofs.YtggffdkgfgdaoaaDoor
open Go.RowKit Go.Maps
set_option linter.unusedVariables false
set_option linter.unusedSimpArgs false
attribute [local go_sem] Oper.quietV quietV Oper.gives givesV ext_refl_iff ext_alloc_iff ext_drew_iff ext_drewN_iff
def moreT : Up := ⟨0, .mk 3 0 [.mk 1 0 [], .mk 0 1 []]⟩
def lessT : Up := ⟨0, .mk 4 0 [.mk 1 0 [], .mk 0 1 []]⟩
def turnT : Up := ⟨1, .mk 4 0 [.mk 0 1 [], .mk 1 1 []]⟩
def updR (r : Nat) : List Up := match r with
  | 0 => []
  | 1 => [moreT]
  | 2 => [lessT]
  | 3 => [⟨0, .mk 0 0 []⟩]
  | 4 => [turnT]
  | 5 => [⟨0, .mk 1 1 []⟩, ⟨1, .mk 1 0 []⟩]
  | _ => [moreT, turnT]
def updT (n : Nat) : List Up := updR (n % 7)
def UpsR (N : Nat) (w : World) (us : List Up) (e : Ending) (w' : World) : Prop := ∃ (A : Option Addr) (c : Nat), e = .returned (.slice A us.length c) ∧ UpsT N w' (.slice A us.length c) us c ∧ Ext w w'
theorem ups_nil (N : Nat) (w : World) : UpsT N w (.slice none 0 0) [] 0 := ⟨none, [], rfl, rfl, CellsT.nil _ _ _ _, fun i u x h => by simp at h, Nat.le_refl _, by simp⟩
theorem ups_one {N : Nat} {w : World} {g : Nat} {v n : Int} {o : Nat} {s : Value} {t : Tr} (hN : N ≤ g) (hB : w.heap[g]? = some (.cells #[.int .i64 v, .int .u8 (o : Int), .int .i64 n, s] 86 (0, 0))) (ht : NodeT N w t (.agg #[.int .u8 (o : Int), .int .i64 n, s])) : UpsT N w (.slice (some ⟨g, 0, none⟩) 1 1) [⟨v, t⟩] 1 := by
  refine ⟨_, [(v, o, n, s)], rfl, rfl, CellsT.blk hN hB, fun i u x hu hx => ?_, Nat.le_refl _, by simp [lenMax]⟩
  match i, hu, hx with
  | 0, hu, hx => simp at hu hx; subst hu hx; exact ⟨rfl, ht⟩
theorem ups_two {N : Nat} {w : World} {g : Nat} {v n v' n' : Int} {o o' : Nat} {s s' : Value} {t t' : Tr} (hN : N ≤ g) (hB : w.heap[g]? = some (.cells #[.int .i64 v, .int .u8 (o : Int), .int .i64 n, s, .int .i64 v', .int .u8 (o' : Int), .int .i64 n', s'] 86 (0, 0))) (ht : NodeT N w t (.agg #[.int .u8 (o : Int), .int .i64 n, s])) (ht' : NodeT N w t' (.agg #[.int .u8 (o' : Int), .int .i64 n', s'])) : UpsT N w (.slice (some ⟨g, 0, none⟩) 2 2) [⟨v, t⟩, ⟨v', t'⟩] 2 := by
  refine ⟨_, [(v, o, n, s), (v', o', n', s')], rfl, rfl, CellsT.blk hN hB, fun i u x hu hx => ?_, Nat.le_refl _, by simp [lenMax]⟩
  match i, hu, hx with
  | 0, hu, hx => simp at hu hx; subst hu hx; exact ⟨rfl, ht⟩
  | 1, hu, hx => simp at hu hx; subst hu hx; exact ⟨rfl, ht'⟩
set_option maxRecDepth 100000 in
set_option maxHeartbeats 16000000 in
theorem updates_any (w : World) (n : Nat) : Calls Tryd.prog 35 #[.int .u8 (n : Int)] w (UpsR w.heap.size w (updT n)) := by
  have hlt := Nat.mod_lt n (show 0 < 7 by omega)
  obtain ⟨r, hr⟩ : ∃ r, r = n % 7 := ⟨_, rfl⟩
  have HG : Hid (updT n = updR r) := Lib.hid (by rw [hr]; rfl)
  obtain ⟨gt, hgt⟩ : ∃ t, t = updT n := ⟨_, rfl⟩
  rw [← hgt] at HG ⊢
  have hm : (n : Int) % 7 = (r : Int) := by omega
  have hm2 : Int.tmod (n : Int) 7 = (r : Int) := by rw [Int.tmod_eq_emod_of_nonneg (by omega)]; exact hm
  have hr7 : r < 7 := by omega
  clear hr hgt hlt
  generalize (n : Int) = z at *
  have hE := Ext.refl w
  obtain ⟨N, hNN⟩ : ∃ N, N = w.heap.size := ⟨_, rfl⟩
  have hN : N ≤ w.heap.size := by omega
  rw [← hNN]
  clear hNN
  go_enter Tryd.func35, Tryd.ntmps35
  go_upto_region 2 with (first
    | ((with_reducible refine (two_lit _ N 3 _ (by decide) hN (by decide) (.mk 1 0 []) (.mk 0 1 []) _ _ (name_leaf N _ 0) (num_leaf N _ 1)).mono ?_); rintro e Wn ⟨A1, l1, c1, rfl, h1, en⟩; replace hE := hE.trans en; replace hN := Nat.le_trans hN (Ext.sz en); (try replace h1 := NodeT.ext h1 en); (try replace h2 := NodeT.ext h2 en); (try replace h3 := NodeT.ext h3 en); (try replace p3 := fun j u h => en.cell (p3 j u h)); (try replace p4 := fun j u h => en.cell (p4 j u h)); (try replace p5 := fun j u h => en.cell (p5 j u h)))
    | ((with_reducible first | refine (num_lit _ _).mono ?_ | refine (name_lit _ _).mono ?_); rintro e Wn ⟨rfl, en⟩; replace hE := hE.trans en; replace hN := Nat.le_trans hN (Ext.sz en); (try replace h1 := NodeT.ext h1 en); (try replace h2 := NodeT.ext h2 en); (try replace h3 := NodeT.ext h3 en); (try replace p3 := fun j u h => en.cell (p3 j u h)); (try replace p4 := fun j u h => en.cell (p4 j u h)); (try replace p5 := fun j u h => en.cell (p5 j u h))))
  refine wp_named ?_
  intro V3 hV3
  have en : Ext Wn V3 := by rw [hV3]; exact alloc_ext _ _
  replace hE := hE.trans en; replace hN := Nat.le_trans hN (Ext.sz en); (try replace h1 := NodeT.ext h1 en); (try replace h2 := NodeT.ext h2 en); (try replace h3 := NodeT.ext h3 en); (try replace p3 := fun j u h => en.cell (p3 j u h)); (try replace p4 := fun j u h => en.cell (p4 j u h)); (try replace p5 := fun j u h => en.cell (p5 j u h))
  have p3 : ∀ (j : Nat) (u : Value), [Value.int .i64 0, .int .u8 3, .int .i64 0, .slice A1 l1 c1][j]? = some u → V3.cell? ⟨Wn.heap.size, j, none⟩ = some u := fun j u h => by
    rw [hV3]; exact cell_of_blk (heap_alloc_new Wn (.cells #[.int .i64 0, .int .u8 3, .int .i64 0, .slice A1 l1 c1] 86)) j (by simpa using h)
  clear hV3
  generalize Wn.heap.size = b3 at *
  go_upto_region 3 with (first
    | ((with_reducible refine (two_lit _ N 4 _ (by decide) hN (by decide) (.mk 1 0 []) (.mk 0 1 []) _ _ (name_leaf N _ 0) (num_leaf N _ 1)).mono ?_); rintro e Wn ⟨A2, l2, c2, rfl, h2, en⟩; replace hE := hE.trans en; replace hN := Nat.le_trans hN (Ext.sz en); (try replace h1 := NodeT.ext h1 en); (try replace h2 := NodeT.ext h2 en); (try replace h3 := NodeT.ext h3 en); (try replace p3 := fun j u h => en.cell (p3 j u h)); (try replace p4 := fun j u h => en.cell (p4 j u h)); (try replace p5 := fun j u h => en.cell (p5 j u h)))
    | ((with_reducible first | refine (num_lit _ _).mono ?_ | refine (name_lit _ _).mono ?_); rintro e Wn ⟨rfl, en⟩; replace hE := hE.trans en; replace hN := Nat.le_trans hN (Ext.sz en); (try replace h1 := NodeT.ext h1 en); (try replace h2 := NodeT.ext h2 en); (try replace h3 := NodeT.ext h3 en); (try replace p3 := fun j u h => en.cell (p3 j u h)); (try replace p4 := fun j u h => en.cell (p4 j u h)); (try replace p5 := fun j u h => en.cell (p5 j u h))))
  refine wp_named ?_
  intro V4 hV4
  have en : Ext Wn V4 := by rw [hV4]; exact alloc_ext _ _
  replace hE := hE.trans en; replace hN := Nat.le_trans hN (Ext.sz en); (try replace h1 := NodeT.ext h1 en); (try replace h2 := NodeT.ext h2 en); (try replace h3 := NodeT.ext h3 en); (try replace p3 := fun j u h => en.cell (p3 j u h)); (try replace p4 := fun j u h => en.cell (p4 j u h)); (try replace p5 := fun j u h => en.cell (p5 j u h))
  have p4 : ∀ (j : Nat) (u : Value), [Value.int .i64 0, .int .u8 4, .int .i64 0, .slice A2 l2 c2][j]? = some u → V4.cell? ⟨Wn.heap.size, j, none⟩ = some u := fun j u h => by
    rw [hV4]; exact cell_of_blk (heap_alloc_new Wn (.cells #[.int .i64 0, .int .u8 4, .int .i64 0, .slice A2 l2 c2] 86)) j (by simpa using h)
  clear hV4
  generalize Wn.heap.size = b4 at *
  go_upto_region 4 with (first
    | ((with_reducible refine (two_lit _ N 4 _ (by decide) hN (by decide) (.mk 0 1 []) (.mk 1 1 []) _ _ (num_leaf N _ 1) (name_leaf N _ 1)).mono ?_); rintro e Wn ⟨A3, l3, c3, rfl, h3, en⟩; replace hE := hE.trans en; replace hN := Nat.le_trans hN (Ext.sz en); (try replace h1 := NodeT.ext h1 en); (try replace h2 := NodeT.ext h2 en); (try replace h3 := NodeT.ext h3 en); (try replace p3 := fun j u h => en.cell (p3 j u h)); (try replace p4 := fun j u h => en.cell (p4 j u h)); (try replace p5 := fun j u h => en.cell (p5 j u h)))
    | ((with_reducible first | refine (num_lit _ _).mono ?_ | refine (name_lit _ _).mono ?_); rintro e Wn ⟨rfl, en⟩; replace hE := hE.trans en; replace hN := Nat.le_trans hN (Ext.sz en); (try replace h1 := NodeT.ext h1 en); (try replace h2 := NodeT.ext h2 en); (try replace h3 := NodeT.ext h3 en); (try replace p3 := fun j u h => en.cell (p3 j u h)); (try replace p4 := fun j u h => en.cell (p4 j u h)); (try replace p5 := fun j u h => en.cell (p5 j u h))))
  refine wp_named ?_
  intro V5 hV5
  have en : Ext Wn V5 := by rw [hV5]; exact alloc_ext _ _
  replace hE := hE.trans en; replace hN := Nat.le_trans hN (Ext.sz en); (try replace h1 := NodeT.ext h1 en); (try replace h2 := NodeT.ext h2 en); (try replace h3 := NodeT.ext h3 en); (try replace p3 := fun j u h => en.cell (p3 j u h)); (try replace p4 := fun j u h => en.cell (p4 j u h)); (try replace p5 := fun j u h => en.cell (p5 j u h))
  have p5 : ∀ (j : Nat) (u : Value), [Value.int .i64 1, .int .u8 4, .int .i64 0, .slice A3 l3 c3][j]? = some u → V5.cell? ⟨Wn.heap.size, j, none⟩ = some u := fun j u h => by
    rw [hV5]; exact cell_of_blk (heap_alloc_new Wn (.cells #[.int .i64 1, .int .u8 4, .int .i64 0, .slice A3 l3 c3] 86)) j (by simpa using h)
  clear hV5
  generalize Wn.heap.size = b5 at *
  have q30 := p3 0 (.int .i64 0) rfl
  have q31 := p3 1 (.int .u8 3) rfl
  have q32 := p3 2 (.int .i64 0) rfl
  have q33 := p3 3 (.slice A1 l1 c1) rfl
  have q40 := p4 0 (.int .i64 0) rfl
  have q41 := p4 1 (.int .u8 4) rfl
  have q42 := p4 2 (.int .i64 0) rfl
  have q43 := p4 3 (.slice A2 l2 c2) rfl
  have q50 := p5 0 (.int .i64 1) rfl
  have q51 := p5 1 (.int .u8 4) rfl
  have q52 := p5 2 (.int .i64 0) rfl
  have q53 := p5 3 (.slice A3 l3 c3) rfl
  have HP := Lib.hid (And.intro hE hN)
  have H1 := Lib.hid h1
  have H2 := Lib.hid h2
  have H3 := Lib.hid h3
  clear p3 p4 p5
  match r, hr7 with
  | 0, _ =>
    go_wp2
    go_ret
    rw [HG.out]
    exact ⟨none, 0, rfl, ups_nil _ _, HP.out.1⟩
  | 1, _ =>
    go_wp2
    go_ret
    rw [HG.out]
    exact ⟨_, _, rfl, ups_one (by omega) (heap_alloc_new _ _) (NodeT.ext H1.out (alloc_ext _ _)), HP.out.1.trans (alloc_ext _ _)⟩
  | 2, _ =>
    go_wp2
    go_ret
    rw [HG.out]
    exact ⟨_, _, rfl, ups_one (by omega) (heap_alloc_new _ _) (NodeT.ext H2.out (alloc_ext _ _)), HP.out.1.trans (alloc_ext _ _)⟩
  | 3, _ =>
    go_wp2_with (((with_reducible first | refine (num_lit _ _).mono ?_ | refine (name_lit _ _).mono ?_); rintro e Wn ⟨rfl, en⟩; replace hE := hE.trans en; replace hN := Nat.le_trans hN (Ext.sz en); (try replace h1 := NodeT.ext h1 en); (try replace h2 := NodeT.ext h2 en); (try replace h3 := NodeT.ext h3 en); (try replace p3 := fun j u h => en.cell (p3 j u h)); (try replace p4 := fun j u h => en.cell (p4 j u h)); (try replace p5 := fun j u h => en.cell (p5 j u h))))
    go_ret
    rw [HG.out]
    exact ⟨_, _, rfl, ups_one (by omega) (heap_alloc_new _ _) (num_leaf _ _ _), hE.trans (alloc_ext _ _)⟩
  | 4, _ =>
    go_wp2
    go_ret
    rw [HG.out]
    exact ⟨_, _, rfl, ups_one (by omega) (heap_alloc_new _ _) (NodeT.ext H3.out (alloc_ext _ _)), HP.out.1.trans (alloc_ext _ _)⟩
  | 5, _ =>
    go_wp2_with (((with_reducible first | refine (num_lit _ _).mono ?_ | refine (name_lit _ _).mono ?_); rintro e Wn ⟨rfl, en⟩; replace hE := hE.trans en; replace hN := Nat.le_trans hN (Ext.sz en); (try replace h1 := NodeT.ext h1 en); (try replace h2 := NodeT.ext h2 en); (try replace h3 := NodeT.ext h3 en); (try replace p3 := fun j u h => en.cell (p3 j u h)); (try replace p4 := fun j u h => en.cell (p4 j u h)); (try replace p5 := fun j u h => en.cell (p5 j u h))))
    go_ret
    rw [HG.out]
    exact ⟨_, _, rfl, ups_two (by omega) (heap_alloc_new _ _) (name_leaf _ _ _) (name_leaf _ _ _), hE.trans (alloc_ext _ _)⟩
  | 6, _ =>
    go_wp2
    go_ret
    rw [HG.out]
    exact ⟨_, _, rfl, ups_two (by omega) (heap_alloc_new _ _) (NodeT.ext H1.out (alloc_ext _ _)) (NodeT.ext H3.out (alloc_ext _ _)), HP.out.1.trans (alloc_ext _ _)⟩
end Go.Proofs.YtggffdkgfgdaoaaDoor
