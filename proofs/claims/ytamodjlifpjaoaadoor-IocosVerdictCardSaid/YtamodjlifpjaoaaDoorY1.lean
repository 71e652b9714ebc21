/- The runs of a test that lead to Fail; the least of them is what Verdict returns. Plain. -/
import Derived.Test.YtamodjlifpjaoaaDoorZ0
import Derived.Test.YtamodjlifpjaoaaDoorGB
namespace Go.Proofs.YtamodjlifpjaoaaDoor
open Go.RowKit
set_option linter.unusedVariables false
set_option linter.unusedSimpArgs false
def subR (x : Lts) (L : List Nd) (rec : Nat → Nat → List Int → List (List Int)) (k S : Nat) (u : List Int) (i : Nat) : List (List Int) :=
  if aftM x S (labV x (ndAt L k) i) = 0 then [] else rec ((ndAt L k).next.getD i 0).toNat (aftM x S (labV x (ndAt L k) i)) (u ++ [labV x (ndAt L k) i])
def runsL (x : Lts) (L : List Nd) : Nat → Nat → Nat → List Int → List (List Int)
  | 0, _, _, _ => []
  | n + 1, k, S, u => if (ndAt L k).act = -3 then [u] else (List.range (ndAt L k).next.length).flatMap (subR x L (runsL x L n) k S u)
theorem runsL_fail {x : Lts} {L : List Nd} {n k S : Nat} {u : List Int} (h : (ndAt L k).act = -3) : runsL x L (n + 1) k S u = [u] := by unfold runsL; rw [if_pos h]
theorem runsL_go {x : Lts} {L : List Nd} {n k S : Nat} {u : List Int} (h : (ndAt L k).act ≠ -3) : runsL x L (n + 1) k S u = (List.range (ndAt L k).next.length).flatMap (subR x L (runsL x L n) k S u) := if_neg h
theorem next_at {i o : Int} {L : List Nd} (h : RightT i o L) {k j : Nat} (hj : j < (ndAt L k).next.length) : k < ((ndAt L k).next.getD j 0).toNat ∧ ((ndAt L k).next.getD j 0).toNat < L.length ∧ k < L.length := by
  have hk : k < L.length := by
    refine Nat.lt_of_not_le fun hge => ?_
    rw [ndAt_none hge] at hj
    simp [nd0] at hj
  obtain ⟨nd, hnd⟩ : ∃ nd, L[k]? = some nd := ⟨_, List.getElem?_eq_getElem hk⟩
  rw [ndAt_get hnd] at hj ⊢
  have hm : nd.next.getD j 0 ∈ nd.next := by
    rw [List.getD_eq_getElem?_getD, List.getElem?_eq_getElem hj]
    exact List.getElem_mem hj
  have := h.next k nd hnd _ hm
  omega
/-- More fuel makes no difference. -/
theorem runsL_fuel {x : Lts} {L : List Nd} (h : RightT x.ins x.outs L) : ∀ (n m k S : Nat) (u : List Int), L.length ≤ n + k → L.length ≤ m + k → runsL x L n k S u = runsL x L m k S u := by
  intro n
  induction n with
  | zero =>
    intro m k S u hn hm
    cases m with
    | zero => rfl
    | succ m =>
      have h0 : ndAt L k = nd0 := ndAt_none (by omega)
      rw [runsL_go (by rw [h0]; simp [nd0]), h0]
      simp [runsL, nd0]
  | succ n ih =>
    intro m k S u hn hm
    cases m with
    | zero =>
      have h0 : ndAt L k = nd0 := ndAt_none (by omega)
      rw [runsL_go (by rw [h0]; simp [nd0]), h0]
      simp [runsL, nd0]
    | succ m =>
      by_cases hf : (ndAt L k).act = -3
      · rw [runsL_fail hf, runsL_fail hf]
      · rw [runsL_go hf, runsL_go hf, List.flatMap_def, List.flatMap_def]
        congr 1
        refine List.map_congr_left fun i hi => ?_
        have := next_at h (List.mem_range.1 hi)
        unfold subR
        split
        · rfl
        · exact ih m _ _ _ (by omega) (by omega)
theorem candV_in {x : Lts} {L : List Nd} {k S i : Nat} (hi : i < (ndAt L k).next.length) : candAt x (ndAt L k) S i ∈ candV x L (k, S) := candV_mem.2 ⟨i, hi, rfl⟩
/-- Each run comes to Fail. -/
theorem runs_way {x : Lts} {L : List Nd} : ∀ (n k S : Nat) (u w : List Int), Way (rootV x) (candV x L) okV u (k, S) → w ∈ runsL x L n k S u → ∃ t, Way (rootV x) (candV x L) okV w t ∧ (ndAt L t.1).act = -3
  | 0, k, S, u, w, _, hw => by simp [runsL] at hw
  | n + 1, k, S, u, w, h, hw => by
    by_cases hf : (ndAt L k).act = -3
    · rw [runsL_fail hf] at hw
      rw [List.mem_singleton.1 hw]
      exact ⟨(k, S), h, hf⟩
    · rw [runsL_go hf] at hw
      obtain ⟨i, hi, hw⟩ := List.mem_flatMap.1 hw
      unfold subR at hw
      split at hw
      · simp at hw
      · rename_i hnz
        have hs := Way.snoc (e := candAt x (ndAt L k) S i) h (candV_in (List.mem_range.1 hi)) (by simp [okV, candAt, hnz])
        exact runs_way n _ _ _ w hs hw
/-- The runs from a place are among all runs. -/
theorem runs_sub {x : Lts} {L : List Nd} (hR : RightT x.ins x.outs L) {u : List Int} {t : Nat × Nat} (h : Way (rootV x) (candV x L) okV u t) : ∀ w ∈ runsL x L L.length t.1 t.2 u, w ∈ runsL x L L.length 0 (begM x) [] := by
  induction h with
  | nil => exact fun w hw => hw
  | @snoc u t e hw he ho ih =>
    intro w hmem
    refine ih w ?_
    obtain ⟨i, hi, rfl⟩ := candV_mem.1 he
    have hn := next_at hR hi
    obtain ⟨N, hN⟩ : ∃ N, L.length = N + 1 := ⟨L.length - 1, by have := hR.pos; omega⟩
    have hnf : (ndAt L t.1).act ≠ -3 := fun hf => by
      obtain ⟨nd, hnd⟩ : ∃ nd, L[t.1]? = some nd := ⟨_, List.getElem?_eq_getElem hn.2.2⟩
      have hm := hR.many _ nd hnd
      rw [ndAt_get hnd] at hf hi
      unfold manyOk at hm
      rw [hf, if_neg (by omega), if_neg (by omega), if_pos (.inr rfl)] at hm
      have := of_decide_eq_true hm
      omega
    have hok : aftM x t.2 (labV x (ndAt L t.1) i) ≠ 0 := by simpa [okV, candAt] using ho
    have hl : L.length = N + 1 := hN
    rw [show runsL x L L.length t.1 t.2 u = runsL x L (N + 1) t.1 t.2 u by rw [hl], runsL_go hnf]
    refine List.mem_flatMap.2 ⟨i, List.mem_range.2 hi, ?_⟩
    unfold subR
    rw [if_neg hok]
    rw [runsL_fuel hR N L.length _ _ _ (by omega) (by omega)]
    exact hmem
theorem runs_iff {x : Lts} {L : List Nd} (hR : RightT x.ins x.outs L) (w : List Int) : w ∈ runsL x L L.length 0 (begM x) [] ↔ ∃ t, Way (rootV x) (candV x L) okV w t ∧ (ndAt L t.1).act = -3 := by
  constructor
  · exact runs_way L.length 0 (begM x) [] w .nil
  · rintro ⟨t, hw, hf⟩
    refine runs_sub hR hw w ?_
    obtain ⟨N, hN⟩ : ∃ N, L.length = N + 1 := ⟨L.length - 1, by have := hR.pos; omega⟩
    rw [hN, runsL_fail hf]; simp
/-! ### The least run -/
theorem slt_eq : ∀ a b : List Int, a.length = b.length → slt a b = befG a b
  | [], [], _ => by simp [slt, befG]
  | [], _ :: _, h => by simp at h
  | _ :: _, [], h => by simp at h
  | x :: a, y :: b, h => by
    unfold slt befG
    rw [slt_eq a b (by simpa using h)]
    by_cases h1 : x = y
    · subst h1; simp
    · rw [if_neg h1]; simp [h1]
theorem bef_eq (a b : List Int) : bef a b = befL a b := by
  unfold bef befL
  by_cases h : a.length = b.length
  · rw [if_pos h, slt_eq a b h]; simp [h]
  · rw [if_neg h]; simp [h]
def stepB (b u : List Int) : List Int := if befL u b then u else b
def bestL (l : List (List Int)) : List Int := l.foldl stepB (l.getD 0 [])
theorem best_fold : ∀ (l : List (List Int)) (b : List Int), (l.foldl stepB b = b ∨ l.foldl stepB b ∈ l) ∧ nle (l.foldl stepB b) b ∧ ∀ u ∈ l, nle (l.foldl stepB b) u
  | [], b => ⟨.inl rfl, .inl rfl, fun u hu => by cases hu⟩
  | v :: l, b => by
    obtain ⟨h1, h2, h3⟩ := best_fold l (stepB b v)
    rw [List.foldl_cons]
    have hs : nle (stepB b v) b ∧ nle (stepB b v) v := by
      unfold stepB
      rw [← bef_eq]
      cases hb : bef v b with
      | true => exact ⟨.inr hb, .inl rfl⟩
      | false =>
        refine ⟨.inl rfl, ?_⟩
        rcases bef_tri v b with h | h | h
        · rw [hb] at h; cases h
        · exact .inl h.symm
        · exact .inr h
    refine ⟨?_, nle_trans h2 hs.1, fun u hu => ?_⟩
    · rcases h1 with h1 | h1
      · rw [h1]
        unfold stepB
        split
        · exact .inr (by simp)
        · exact .inl rfl
      · exact .inr (List.mem_cons_of_mem _ h1)
    · rcases List.mem_cons.1 hu with rfl | hu
      · exact nle_trans h2 hs.2
      · exact h3 u hu
theorem nle_anti {a b : List Int} (h : nle a b) (k : nle b a) : a = b := by
  rcases h with h | h
  · exact h
  · rcases k with k | k
    · exact k.symm
    · have := bef_trans h k
      rw [bef_irr] at this; cases this
theorem best_of {l : List (List Int)} {w : List Int} (hw : w ∈ l) (hmin : ∀ u ∈ l, nle w u) : bestL l = w := by
  obtain ⟨h1, h2, h3⟩ := best_fold l (l.getD 0 [])
  have hmem : bestL l ∈ l := by
    rcases h1 with h1 | h1
    · show l.foldl stepB (l.getD 0 []) ∈ l
      rw [h1]
      cases l with
      | nil => cases hw
      | cons a l => simp
    · exact h1
  exact nle_anti (h3 w hw) (hmin _ hmem)
def refVerd (x : Lts) (L : List Nd) : Int × List Int := if (runsL x L L.length 0 (begM x) []).length = 0 then (1, []) else (0, bestL (runsL x L L.length 0 (begM x) []))
/-- **Verdict gives the document's answer.** -/
theorem verd_ref {x : Lts} {L : List Nd} (hR : RightT x.ins x.outs L) (hN : (fndV x L).length ≤ 32768) : verdG x L = ((refVerd x L).1 == 1, (refVerd x L).2) := by
  unfold refVerd
  cases hfi : (fndV x L).findIdx? (failB L) with
  | none =>
    have h0 : (runsL x L L.length 0 (begM x) []).length = 0 := by
      rw [List.length_eq_zero_iff, List.eq_nil_iff_forall_not_mem]
      intro w hw
      obtain ⟨t, h1, h2⟩ := (runs_iff hR w).1 hw
      obtain ⟨n, r, hn, hk, _⟩ := fndV_all hR hN h1
      have h3 := find_none hfi n r hn
      have h4 : failB L r = true := failB_iff.2 (by rw [hk]; exact h2)
      rw [h3] at h4; cases h4
    rw [if_pos h0]
    unfold verdG
    rw [hfi]; rfl
  | some m =>
    obtain ⟨r, hm, hf, hfirst⟩ := find_first hfi
    have hok := goV_ok hR (capV x)
    have hmem : wayV x L m ∈ runsL x L L.length 0 (begM x) [] := (runs_iff hR _).2 ⟨r.key, hok.way m r hm, failB_iff.1 hf⟩
    have hmin : ∀ u ∈ runsL x L L.length 0 (begM x) [], nle (wayV x L m) u := fun u hu => by
      obtain ⟨t, h1, h2⟩ := (runs_iff hR u).1 hu
      obtain ⟨n, r2, hn, hk, hle⟩ := fndV_all hR hN h1
      have h4 : failB L r2 = true := failB_iff.2 (by rw [hk]; exact h2)
      have hmn : m ≤ n := Nat.le_of_not_lt fun hlt => by rw [hfirst n r2 hlt hn] at h4; cases h4
      rcases Nat.lt_or_ge m n with h | h
      · exact nle_trans (.inr (hok.rise n m h (List.getElem?_eq_some_iff.1 hn).1)) hle
      · obtain rfl : m = n := by omega
        exact hle
    rw [if_neg (fun h => by rw [List.length_eq_zero_iff.1 h] at hmem; cases hmem), best_of hmem hmin]
    unfold verdG
    rw [hfi]; rfl
/-! ### How many runs there are -/
/-- A test out of Make's in which one Pass became a Fail, or none. -/
def AlmostT (L L' : List Nd) : Prop := L'.length = L.length ∧ ∀ k, ndAt L' k = ndAt L k ∨ ((ndAt L k).act = -2 ∧ ndAt L' k = ⟨-3, (ndAt L k).next⟩)
theorem flat_most {α β : Type} {f : α → List β} {m : Nat} : ∀ (l : List α), (∀ a ∈ l, (f a).length ≤ m) → (l.flatMap f).length ≤ l.length * m
  | [], _ => by simp
  | a :: l, h => by
    rw [List.flatMap_cons, List.length_append, List.length_cons, Nat.succ_mul]
    have h1 := h a (by simp)
    have h2 := flat_most l (fun b hb => h b (by simp [hb]))
    omega
theorem runs_few {x y : Lts} (hy : Good y) (hO : y.O ≤ 2) {L L' : List Nd} (hA : AlmostT L L') : ∀ (p : List Int) (n k S T : Nat) (u : List Int), okPlan y p → At L k (mkT y p T k) → (runsL x L' n k S u).length ≤ 3 ^ p.length
  | [], n, k, S, T, u, _, hat => by
    have h0 : L[k]? = some ⟨-2, []⟩ := by simpa using hat 0 _ rfl
    cases n with
    | zero => simp [runsL]
    | succ n =>
      rcases hA.2 k with h | ⟨h, h2⟩
      · rw [ndAt_get h0] at h
        rw [runsL_go (by rw [h]; decide), h]; simp
      · rw [runsL_fail (by rw [h2])]; simp
  | a :: q, n, k, S, T, u, hp, hat => by
    have ih := runs_few (x := x) hy hO hA q
    have hq : okPlan y q := fun z hz => hp z (by simp [hz])
    have h3 : 1 ≤ 3 ^ q.length := Nat.one_le_pow _ _ (by omega)
    by_cases hs : a ≠ -1 ∧ aftM y T a = 0
    · rw [mkT_skip hs.1 hs.2] at hat
      have := ih n k S T u hq hat
      rw [List.length_cons, Nat.pow_succ]; omega
    · have hnode : a = -1 ∨ aftM y T a ≠ 0 := by rcases Classical.em (a = -1) with h1 | h1; exact .inl h1; exact .inr fun e => hs ⟨h1, e⟩
      have ha := hp a (by simp)
      cases n with
      | zero => simp [runsL]
      | succ n =>
        have hk0 : ∃ ks, L[k]? = some ⟨a, ks⟩ ∧ ks.length = (labsOf y a).length := by
          rw [mkT_node hnode] at hat
          exact ⟨_, hat.tail.1, kidsT_len y (mkT y q) _ _ _⟩
        obtain ⟨ks, hk0, hkl⟩ := hk0
        have hnd : ndAt L' k = ⟨a, ks⟩ := by
          rcases hA.2 k with h | ⟨h, _⟩
          · rw [h, ndAt_get hk0]
          · rw [ndAt_get hk0] at h
            rcases ha with h1 | h1 <;> simp at h <;> omega
        rw [runsL_go (by rw [hnd]; rcases ha with h1 | h1 <;> simp <;> omega), hnd]
        have hll : (labsOf y a).length ≤ 3 := by
          unfold labsOf
          split
          · rw [obs_len]; omega
          · simp
        have hlen : (List.range ks.length).length ≤ 3 := by rw [List.length_range, hkl]; exact hll
        have hfl := flat_most (f := subR x L' (runsL x L' n) k S u) (m := 3 ^ q.length) (List.range ks.length) (fun i hi => by
          have hi := List.mem_range.1 hi
          unfold subR
          split
          · simp
          · obtain ⟨l, hli⟩ : ∃ l, (labsOf y a)[i]? = some l := ⟨_, List.getElem?_eq_getElem (by omega)⟩
            obtain ⟨ks', k', g1, g2, g3, g4⟩ := at_kid hat hnode hli
            rw [hk0] at g1
            obtain rfl : ks = ks' := by injection g1 with g1; injection g1
            have hnx : ((ndAt L' k).next.getD i 0).toNat = k' := by rw [hnd]; show (ks.getD i 0).toNat = k'; rw [List.getD_eq_getElem?_getD, g3]; simp
            rw [hnx]
            unfold subT at g4
            split at g4
            · have h5 : L[k']? = some ⟨-3, []⟩ := by simpa using g4 0 _ rfl
              have h6 : (ndAt L' k').act = -3 := by
                rcases hA.2 k' with h | ⟨h, _⟩
                · rw [h, ndAt_get h5]
                · rw [ndAt_get h5] at h; simp at h
              cases n with
              | zero => simp [runsL]
              | succ n => rw [runsL_fail h6]; simpa using h3
            · exact ih n k' _ _ _ hq g4)
        have h4 : (List.range ks.length).length * 3 ^ q.length ≤ 3 * 3 ^ q.length := Nat.mul_le_mul_right _ hlen
        show ((List.range ks.length).flatMap (subR x L' (runsL x L' n) k S u)).length ≤ _
        rw [List.length_cons, Nat.pow_succ]
        omega
end Go.Proofs.YtamodjlifpjaoaaDoor
