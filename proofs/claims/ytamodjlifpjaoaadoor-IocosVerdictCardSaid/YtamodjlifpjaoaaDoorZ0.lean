/- What the test of a plan finds: no run of what conforms leads to Fail; the trace of what does not conform leads there. Plain. -/
import Derived.Test.YtamodjlifpjaoaaDoorX3
import Derived.Test.YtamodjlifpjaoaaDoorGC
namespace Go.Proofs.YtamodjlifpjaoaaDoor
open Go.RowKit
set_option linter.unusedVariables false
set_option linter.unusedSimpArgs false
/-! ### Tests within a test -/
theorem fold_pre {x : Lts} {rec : Nat → Nat → List Nd} {S f : Nat} : ∀ (ls : List Int) (k : List Int × List Nd), k.1 <+: (ls.foldl (kidB x rec S f) k).1 ∧ k.2 <+: (ls.foldl (kidB x rec S f) k).2
  | [], k => ⟨List.prefix_refl _, List.prefix_refl _⟩
  | l :: ls, k => by
    obtain ⟨h1, h2⟩ := fold_pre (x := x) (rec := rec) (S := S) (f := f) ls (kidB x rec S f k l)
    exact ⟨(List.prefix_append _ _).trans h1, (List.prefix_append _ _).trans h2⟩
theorem kids_pre {x : Lts} {rec : Nat → Nat → List Nd} {S f : Nat} (ls : List Int) (i : Nat) : (kidsT x rec S f (ls.take i)).1 <+: (kidsT x rec S f ls).1 ∧ (kidsT x rec S f (ls.take i)).2 <+: (kidsT x rec S f ls).2 := by
  have h := fold_pre (x := x) (rec := rec) (S := S) (f := f) (ls.drop i) (kidsT x rec S f (ls.take i))
  have e : (ls.drop i).foldl (kidB x rec S f) (kidsT x rec S f (ls.take i)) = kidsT x rec S f ls := by
    show (ls.drop i).foldl (kidB x rec S f) ((ls.take i).foldl (kidB x rec S f) ([], [])) = ls.foldl (kidB x rec S f) ([], [])
    rw [← List.foldl_append, List.take_append_drop]
  rw [e] at h
  exact h
/-- A list stands in a test from a number on. -/
def At (L : List Nd) (f : Nat) (B : List Nd) : Prop := ∀ (k : Nat) (nd : Nd), B[k]? = some nd → L[f + k]? = some nd
theorem At.pre {L : List Nd} {f : Nat} {B C : List Nd} (h : At L f C) (hp : B <+: C) : At L f B := fun k nd hk => h k nd (pre_get hp hk)
theorem At.snd {L : List Nd} {f : Nat} {B C : List Nd} (h : At L f (B ++ C)) : At L (f + B.length) C := fun k nd hk => by
  rw [Nat.add_assoc]
  refine h _ nd ?_
  rw [List.getElem?_append_right (by omega), show B.length + k - B.length = k by omega]; exact hk
theorem At.tail {L : List Nd} {f : Nat} {nd : Nd} {C : List Nd} (h : At L f (nd :: C)) : L[f]? = some nd ∧ At L (f + 1) C := ⟨h 0 nd rfl, fun k z hk => by rw [show f + 1 + k = f + (k + 1) by omega]; exact h (k + 1) z (by simpa using hk)⟩
theorem At.all (L : List Nd) : At L 0 L := fun k nd hk => by rw [Nat.zero_add]; exact hk
/-- What stands behind a node, by a label. -/
theorem at_kid {y : Lts} {a : Int} {q : List Int} {T f i : Nat} {l : Int} {L : List Nd} (h : At L f (mkT y (a :: q) T f)) (hn : a = -1 ∨ aftM y T a ≠ 0) (hi : (labsOf y a)[i]? = some l) :
    ∃ (ks : List Int) (k : Nat), L[f]? = some ⟨a, ks⟩ ∧ ks.length = (labsOf y a).length ∧ ks[i]? = some (k : Int) ∧ At L k (subT y (mkT y q) T k l) := by
  rw [mkT_node hn] at h
  obtain ⟨h1, h2⟩ := h.tail
  obtain ⟨p1, p2⟩ := kids_pre (x := y) (rec := mkT y q) (S := T) (f := f) (labsOf y a) (i + 1)
  have hlen := kidsT_len y (mkT y q) T f ((labsOf y a).take i)
  have hil : i < (labsOf y a).length := (List.getElem?_eq_some_iff.1 hi).1
  rw [List.length_take, Nat.min_eq_left (by omega)] at hlen
  rw [kidsT_take y (mkT y q) T f hi] at p1 p2
  unfold kidB at p1 p2
  simp only at p1 p2
  generalize hk : kidsT y (mkT y q) T f ((labsOf y a).take i) = kk at p1 p2 hlen
  refine ⟨_, f + 1 + kk.2.length, h1, kidsT_len y (mkT y q) T f _, ?_, ?_⟩
  · refine pre_get p1 ?_
    rw [List.getElem?_append_right (by omega), hlen, Nat.sub_self]; rfl
  · exact (h2.pre p2).snd
/-- A place of the test after a trace. -/
inductive Plc (y : Lts) (L : List Nd) (u : List Int) (k : Nat) : Prop
  | sub (p : List Int) : At L k (mkT y p (tr y (begM y) u) k) → okPlan y p → tr y (begM y) u ≠ 0 → Plc y L u k
  | fail (v : List Int) (l : Int) (j : Nat) : u = v ++ [l] → l = y.ins + (j : Int) → j ≤ y.O → aftM y (tr y (begM y) v) l = 0 → tr y (begM y) v ≠ 0 → L[k]? = some ⟨-3, []⟩ → Plc y L u k
/-- A plan without what cannot be given at its head. -/
theorem plan_head {y : Lts} (T k : Nat) : ∀ (p : List Int), okPlan y p → ∃ p', okPlan y p' ∧ mkT y p' T k = mkT y p T k ∧ (p' = [] ∨ ∃ a q, p' = a :: q ∧ (a = -1 ∨ aftM y T a ≠ 0))
  | [], h => ⟨[], h, rfl, .inl rfl⟩
  | a :: q, h => by
    by_cases hs : a ≠ -1 ∧ aftM y T a = 0
    · obtain ⟨p', h1, h2, h3⟩ := plan_head T k q (fun z hz => h z (by simp [hz]))
      exact ⟨p', h1, by rw [mkT_skip hs.1 hs.2]; exact h2, h3⟩
    · exact ⟨a :: q, h, rfl, .inr ⟨a, q, rfl, by rcases Classical.em (a = -1) with h1 | h1; exact .inl h1; exact .inr fun e => hs ⟨h1, e⟩⟩⟩
theorem labs_mem {y : Lts} (hy : Good y) {a : Int} {i : Nat} {l : Int} (ha : a = -1 ∨ 0 ≤ a ∧ a < y.ins) (hi : (labsOf y a)[i]? = some l) : l = (if a = -1 then y.ins + (i : Int) else a) ∧ 0 ≤ l ∧ l ≤ y.ins + y.outs ∧ (a = -1 → i ≤ y.O) := by
  have hII := hy.II.1
  have hOO := hy.OO.1
  unfold labsOf at hi
  by_cases h : a = -1
  · rw [if_pos h] at hi ⊢
    have hil := (List.getElem?_eq_some_iff.1 hi).1
    rw [obs_len] at hil
    unfold obsLabs at hi
    rw [List.getElem?_map, List.getElem?_range hil] at hi
    simp at hi
    omega
  · rw [if_neg h] at hi ⊢
    have hab := ha.resolve_left h
    cases i with
    | zero => simp at hi; omega
    | succ i => simp at hi
theorem labs_in {x : Lts} (hx : Good x) {l : Int} (h0 : 0 ≤ l) (h1 : l ≤ x.ins + x.outs) : l ∈ labs x := by
  have hII := hx.II.1
  have hOO := hx.OO.1
  unfold labs
  exact List.mem_map.2 ⟨l.toNat, List.mem_range.2 (by omega), by omega⟩
/-- **Each place that a run comes to is one of the plan's.** -/
theorem way_plc {x y : Lts} (hx : Good x) (hy : Good y) (hi : x.ins = y.ins) {P : List Int} (hP : okPlan y P) {L : List Nd} (hL : L = mkT y P (begM y) 0) {u : List Int} {t : Nat × Nat} (h : Way (rootV x) (candV x L) okV u t) :
    Plc y L u t.1 ∧ t.2 = tr x (begM x) u ∧ (∀ l ∈ u, 0 ≤ l ∧ l ≤ y.ins + y.outs) ∧ t.2 ≠ 0 := by
  induction h with
  | nil => exact ⟨.sub P (by subst hL; exact At.all _) hP (sil_ne hy 0), rfl, fun l hl => absurd hl (by simp), sil_ne hx 0⟩
  | @snoc u t e hw he ho ih =>
    obtain ⟨hp, ht, hl, hne⟩ := ih
    obtain ⟨i, hil, rfl⟩ := candV_mem.1 he
    have hok : aftM x t.2 (labV x (ndAt L t.1) i) ≠ 0 := by simpa [okV, candAt] using ho
    cases hp with
    | fail v l j h1 h2 h3 h4 h5 h6 =>
      rw [ndAt_get h6] at hil
      simp at hil
    | sub p hat hokp hnz =>
      obtain ⟨p', hokp', hm, hcase⟩ := plan_head (tr y (begM y) u) t.1 p hokp
      rw [← hm] at hat
      rcases hcase with rfl | ⟨a, q, rfl, hnode⟩
      · have h0 : L[t.1]? = some ⟨-2, []⟩ := by simpa using hat 0 _ rfl
        rw [ndAt_get h0] at hil
        simp at hil
      · have ha := hokp' a (by simp)
        have hnd : ∃ ks, L[t.1]? = some ⟨a, ks⟩ ∧ ks.length = (labsOf y a).length := by
          rw [mkT_node hnode] at hat
          exact ⟨_, hat.tail.1, kidsT_len y (mkT y q) _ _ _⟩
        obtain ⟨ks0, hk0, hkl⟩ := hnd
        rw [ndAt_get hk0] at hil hok ⊢
        have hil : i < ks0.length := hil
        obtain ⟨l, hli⟩ : ∃ l, (labsOf y a)[i]? = some l := ⟨_, List.getElem?_eq_getElem (by omega)⟩
        obtain ⟨ks, k, g1, g2, g3, g4⟩ := at_kid hat hnode hli
        rw [hk0] at g1
        obtain rfl : ks0 = ks := by injection g1 with g1; injection g1
        obtain ⟨m1, m2, m3, m4⟩ := labs_mem hy ha hli
        have hlab : labV x (⟨a, ks0⟩ : Nd) i = l := by
          unfold labV
          rw [m1, hi]
        have hnx : ((⟨a, ks0⟩ : Nd).next.getD i 0).toNat = k := by
          show (ks0.getD i 0).toNat = k
          rw [List.getD_eq_getElem?_getD, g3]; simp
        simp only [candAt, hlab, hnx] at hok ⊢
        refine ⟨?_, by rw [tr_snoc, ht], fun z hz => ?_, hok⟩
        · unfold subT at g4
          by_cases hz : aftM y (tr y (begM y) u) l = 0
          · rw [if_pos hz] at g4
            have ham : a = -1 := by
              rcases hnode with h | h
              · exact h
              · refine Classical.byContradiction fun hna => h ?_
                rw [if_neg hna] at m1
                rw [← m1]; exact hz
            exact .fail u l i rfl (by rw [m1, if_pos ham]) (m4 ham) hz hnz (by simpa using g4 0 _ rfl)
          · rw [if_neg hz] at g4
            exact .sub q (by rw [tr_snoc]; exact g4) (fun z hz => hokp' z (by simp [hz])) (by rw [tr_snoc]; exact hz)
        · rcases List.mem_append.1 hz with hz | hz
          · exact hl z hz
          · rw [List.mem_singleton.1 hz]; exact ⟨m2, m3⟩
theorem tr_pre {x : Lts} {S : Nat} {v : List Int} {l : Int} (h : tr x S (v ++ [l]) ≠ 0) : tr x S v ≠ 0 := fun e => h (by rw [tr_snoc, e, aftM_zero])
/-- **A run to Fail shows what must not be observed.** -/
theorem fail_bad {x y : Lts} (hx : Good x) (hy : Good y) (hi : x.ins = y.ins) (ho : x.outs = y.outs) {P : List Int} (hP : okPlan y P) {L : List Nd} (hL : L = mkT y P (begM y) 0) {u : List Int} {t : Nat × Nat} (h : Way (rootV x) (candV x L) okV u t) (hf : (ndAt L t.1).act = -3) :
    ∃ v : List Int, (∀ l ∈ v, l ∈ labs x) ∧ tr x (begM x) v ≠ 0 ∧ tr y (begM y) v ≠ 0 ∧ BadP x y (tr x (begM x) v) (tr y (begM y) v) := by
  obtain ⟨hp, ht, hl, hne⟩ := way_plc hx hy hi hP hL h
  cases hp with
  | sub p hat hokp hnz =>
    exfalso
    obtain ⟨p', hokp', hm, hcase⟩ := plan_head (tr y (begM y) u) t.1 p hokp
    rw [← hm] at hat
    rcases hcase with rfl | ⟨a, q, rfl, hnode⟩
    · have h0 : L[t.1]? = some ⟨-2, []⟩ := by simpa using hat 0 _ rfl
      rw [ndAt_get h0] at hf
      simp at hf
    · rw [mkT_node hnode] at hat
      rw [ndAt_get hat.tail.1] at hf
      rcases hokp' a (by simp) with h1 | h1 <;> simp at hf <;> omega
  | fail v l j h1 h2 h3 h4 h5 h6 =>
    subst h1
    rw [ht] at hne
    refine ⟨v, fun z hz => ?_, tr_pre hne, h5, l, obsM_iff.2 ⟨⟨j, ?_, by rw [hi]; exact h2⟩, by rw [← tr_snoc]; exact hne⟩, h4⟩
    · have := hl z (by simp [hz])
      exact labs_in hx this.1 (by rw [hi, ho]; exact this.2)
    · have e1 := hx.OO.1
      have e2 := hy.OO.1
      omega
/-! ### The plan of a trace -/
def actOf (I : Int) (l : Int) : Int := if l < I then l else -1
def planT (I : Int) (t : List Int) : List Int := t.map (actOf I) ++ [-1]
theorem planT_ok {y : Lts} {t : List Int} (h : ∀ l ∈ t, 0 ≤ l ∧ l ≤ y.ins + y.outs) : okPlan y (planT y.ins t) := fun a ha => by
  rcases List.mem_append.1 ha with ha | ha
  · obtain ⟨l, hl, rfl⟩ := List.mem_map.1 ha
    have := h l hl
    unfold actOf
    split
    · exact .inr ⟨by omega, by assumption⟩
    · exact .inl rfl
  · rw [List.mem_singleton.1 ha]; exact .inl rfl
theorem act_at {y : Lts} (hy : Good y) {l : Int} (h0 : 0 ≤ l) (h1 : l ≤ y.ins + y.outs) : ∃ i, (labsOf y (actOf y.ins l))[i]? = some l ∧ (∀ x : Lts, x.ins = y.ins → ∀ ks, labV x ⟨actOf y.ins l, ks⟩ i = l) := by
  have hII := hy.II.1
  have hOO := hy.OO.1
  by_cases h : l < y.ins
  · rw [show actOf y.ins l = l from if_pos h]
    unfold labsOf
    rw [if_neg (by omega)]
    exact ⟨0, rfl, fun x _ ks => if_neg (show ¬ l = -1 by omega)⟩
  · rw [show actOf y.ins l = -1 from if_neg h]
    unfold labsOf
    rw [if_pos rfl]
    refine ⟨(l - y.ins).toNat, ?_, fun x hx ks => ?_⟩
    · unfold obsLabs
      rw [List.getElem?_map, List.getElem?_range (by omega)]
      simp; omega
    · show (if (-1 : Int) = -1 then x.ins + (((l - y.ins).toNat : Nat) : Int) else -1) = l
      rw [if_pos rfl, hx]; omega
/-- One label further. -/
theorem way_step {x y : Lts} (hy : Good y) (hi : x.ins = y.ins) {L : List Nd} {u : List Int} {k S T : Nat} {l : Int} {q : List Int} (hw : Way (rootV x) (candV x L) okV u (k, S)) (h0 : 0 ≤ l) (h1 : l ≤ y.ins + y.outs) (hat : At L k (mkT y (actOf y.ins l :: q) T k)) (hn : actOf y.ins l = -1 ∨ aftM y T (actOf y.ins l) ≠ 0) (hx : aftM x S l ≠ 0) :
    ∃ k', Way (rootV x) (candV x L) okV (u ++ [l]) (k', aftM x S l) ∧ At L k' (subT y (mkT y q) T k' l) := by
  obtain ⟨i, hli, hlab⟩ := act_at hy h0 h1
  obtain ⟨ks, k', g1, g2, g3, g4⟩ := at_kid hat hn hli
  refine ⟨k', ?_, g4⟩
  have hil : i < ks.length := by rw [g2]; exact (List.getElem?_eq_some_iff.1 hli).1
  have he : candAt x (ndAt L k) S i = (l, (k', aftM x S l)) := by
    rw [ndAt_get g1]
    unfold candAt
    rw [hlab x hi ks]
    show (l, ((ks.getD i 0).toNat, aftM x S l)) = _
    rw [List.getD_eq_getElem?_getD, g3]; simp
  have hm : (l, (k', aftM x S l)) ∈ candV x L (k, S) := candV_mem.2 ⟨i, by rw [ndAt_get g1]; exact hil, he.symm⟩
  exact Way.snoc (e := (l, (k', aftM x S l))) hw hm (by simp [okV, hx])
theorem way_along {x y : Lts} (hx : Good x) (hy : Good y) (hi : x.ins = y.ins) {L : List Nd} : ∀ (s u : List Int) (k : Nat), Way (rootV x) (candV x L) okV u (k, tr x (begM x) u) → At L k (mkT y (planT y.ins s) (tr y (begM y) u) k) → (∀ l ∈ s, 0 ≤ l ∧ l ≤ y.ins + y.outs) → tr x (begM x) (u ++ s) ≠ 0 → tr y (begM y) (u ++ s) ≠ 0 →
    ∃ k', Way (rootV x) (candV x L) okV (u ++ s) (k', tr x (begM x) (u ++ s)) ∧ At L k' (mkT y [-1] (tr y (begM y) (u ++ s)) k')
  | [], u, k, hw, hat, _, _, _ => by
    rw [List.append_nil]
    exact ⟨k, hw, hat⟩
  | l :: s, u, k, hw, hat, hl, hx1, hy1 => by
    have e : u ++ l :: s = (u ++ [l]) ++ s := by simp
    rw [e] at hx1 hy1 ⊢
    have hx2 : tr x (begM x) (u ++ [l]) ≠ 0 := fun h => hx1 (by rw [tr_app, h, tr_zero])
    have hy2 : tr y (begM y) (u ++ [l]) ≠ 0 := fun h => hy1 (by rw [tr_app, h, tr_zero])
    rw [tr_snoc] at hx2 hy2
    obtain ⟨h0, h1⟩ := hl l (by simp)
    have hn : actOf y.ins l = -1 ∨ aftM y (tr y (begM y) u) (actOf y.ins l) ≠ 0 := by
      unfold actOf
      split
      · exact .inr hy2
      · exact .inl rfl
    obtain ⟨k', w1, a1⟩ := way_step hy hi hw h0 h1 hat hn hx2
    unfold subT at a1
    rw [if_neg hy2, ← tr_snoc] at a1
    rw [← tr_snoc] at w1
    exact way_along hx hy hi s (u ++ [l]) k' w1 a1 (fun z hz => hl z (by simp [hz])) hx1 hy1
/-- **The trace of what does not conform leads to Fail.** -/
theorem bad_fail {x y : Lts} (hx : Good x) (hy : Good y) (hi : x.ins = y.ins) (ho : x.outs = y.outs) {t : List Int} {o : Int} (ht : ∀ l ∈ t, 0 ≤ l ∧ l ≤ y.ins + y.outs) (h1 : tr x (begM x) t ≠ 0) (h2 : tr y (begM y) t ≠ 0) (hob : o ∈ obsM x (tr x (begM x) t)) (hno : aftM y (tr y (begM y) t) o = 0)
    {L : List Nd} (hL : L = mkT y (planT y.ins t) (begM y) 0) : ∃ k, Way (rootV x) (candV x L) okV (t ++ [o]) (k, aftM x (tr x (begM x) t) o) ∧ (ndAt L k).act = -3 := by
  obtain ⟨k, w1, a1⟩ := way_along hx hy hi (L := L) t [] 0 .nil (by subst hL; exact At.all _) ht (by simpa using h1) (by simpa using h2)
  rw [List.nil_append] at w1 a1
  obtain ⟨⟨j, hj, hjo⟩, hne⟩ := obsM_iff.1 hob
  have hII := hx.II.1
  have hOO := hx.OO.1
  have e1 : actOf y.ins o = -1 := by unfold actOf; rw [if_neg (by omega)]
  obtain ⟨k', w2, a2⟩ := way_step hy hi w1 (l := o) (q := []) (by omega) (by omega) (by rw [e1]; exact a1) (.inl e1) hne
  unfold subT at a2
  rw [if_pos hno] at a2
  have h0 : L[k']? = some ⟨-3, []⟩ := by simpa using a2 0 _ rfl
  exact ⟨k', w2, by rw [ndAt_get h0]⟩
/-! ### What Verdict answers -/
theorem fndV_all {x : Lts} {L : List Nd} (hR : RightT x.ins x.outs L) (hN : (fndV x L).length ≤ 32768) {u : List Int} {t : Nat × Nat} (h : Way (rootV x) (candV x L) okV u t) : ∃ (n : Nat) (r : Fd (Nat × Nat)), (fndV x L)[n]? = some r ∧ r.key = t ∧ nle (wayV x L n) u :=
  go_all (candV_rise hR) (capV x) (Nat.le_trans hN (Nat.le_of_eq (capV_eq x).symm)) h
theorem failB_iff {L : List Nd} {r : Fd (Nat × Nat)} : failB L r = true ↔ (ndAt L r.key.1).act = -3 := by unfold failB; simp
/-- **What conforms passes the test of every plan.** -/
theorem verd_conf {x y : Lts} (hx : Good x) (hy : Good y) (hi : x.ins = y.ins) (ho : x.outs = y.outs) {P : List Int} (hP : okPlan y P) {L : List Nd} (hL : L = mkT y P (begM y) 0) (hR : RightT x.ins x.outs L) (hNC : (fndL x y).length ≤ 4096) (hc : (fndL x y).findIdx? (offC x y) = none) : verdG x L = (true, []) := by
  refine verdG_none fun m z hz => ?_
  rw [← Bool.not_eq_true, failB_iff]
  intro hf
  have hw := (goV_ok hR (capV x)).way m z hz
  obtain ⟨v, h1, h2, h3, h4⟩ := fail_bad hx hy hi ho hP hL hw hf
  obtain ⟨n, r, hn, hk, _⟩ := fndL_all hNC (tr_way v h1 h2 h3)
  have := find_none hc n r hn
  have h5 : offC x y r = true := badC_iff.2 (by rw [hk]; exact h4)
  rw [this] at h5
  cases h5
/-- **What does not conform fails, at the trace that Conforms returns or earlier.** -/
theorem verd_off {x y : Lts} (hx : Good x) (hy : Good y) (hi : x.ins = y.ins) (ho : x.outs = y.outs) {t : List Int} {o : Int} (ht : ∀ l ∈ t, 0 ≤ l ∧ l ≤ y.ins + y.outs) (h1 : tr x (begM x) t ≠ 0) (h2 : tr y (begM y) t ≠ 0) (hob : o ∈ obsM x (tr x (begM x) t)) (hno : aftM y (tr y (begM y) t) o = 0)
    {L : List Nd} (hL : L = mkT y (planT y.ins t) (begM y) 0) (hR : RightT x.ins x.outs L) (hN : (fndV x L).length ≤ 32768) : ∃ w, verdG x L = (false, w) ∧ nle w (t ++ [o]) := by
  obtain ⟨k, hw, hf⟩ := bad_fail hx hy hi ho ht h1 h2 hob hno hL
  obtain ⟨n, r, hn, hk, hle⟩ := fndV_all hR hN hw
  have hfb : failB L r = true := failB_iff.2 (by rw [hk]; exact hf)
  cases hfi : (fndV x L).findIdx? (failB L) with
  | none => rw [find_none hfi n r hn] at hfb; cases hfb
  | some m =>
    obtain ⟨r2, hm, hm2, hfirst⟩ := find_first hfi
    refine ⟨wayV x L m, by unfold verdG; rw [hfi], ?_⟩
    have hmn : m ≤ n := Nat.le_of_not_lt fun hlt => by rw [hfirst n r hlt hn] at hfb; cases hfb
    rcases Nat.lt_or_ge m n with h | h
    · exact nle_trans (.inr ((goV_ok hR (capV x)).rise n m h (List.getElem?_eq_some_iff.1 hn).1)) hle
    · obtain rfl : m = n := by omega
      exact hle
end Go.Proofs.YtamodjlifpjaoaaDoor
