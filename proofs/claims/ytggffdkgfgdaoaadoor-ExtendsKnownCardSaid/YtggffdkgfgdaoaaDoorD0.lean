/- The plain law: without a conflict the order of the arcs makes no difference. -/
import Derived.Test.YtggffdkgfgdaoaaDoorC3
namespace Go.Proofs.YtggffdkgfgdaoaaDoor
set_option linter.unusedVariables false
set_option linter.unusedSimpArgs false
def varsV : List Vt := [(nmN, 0, 2), (nmB, 0, 1)]
set_option maxRecDepth 100000 in
theorem varsV_ok : varsR varsV = 0 := by kernel_rfl
set_option maxRecDepth 100000 in
theorem varsV_comb : combR varsV = 6 := by kernel_rfl
set_option maxRecDepth 100000 in
theorem gk0 : kindR varsV (guardR 0) true = 0 := by kernel_rfl
set_option maxRecDepth 100000 in
theorem gk1 : kindR varsV (guardR 1) true = 0 := by kernel_rfl
set_option maxRecDepth 100000 in
theorem gk2 : kindR varsV (guardR 2) true = 0 := by kernel_rfl
set_option maxRecDepth 100000 in
theorem gk3 : kindR varsV (guardR 3) true = 0 := by kernel_rfl
set_option maxRecDepth 100000 in
theorem gk4 : kindR varsV (guardR 4) true = 0 := by kernel_rfl
set_option maxRecDepth 100000 in
theorem gk5 : kindR varsV (guardR 5) true = 0 := by kernel_rfl
set_option maxRecDepth 100000 in
theorem gk6 : kindR varsV (guardR 6) true = 0 := by kernel_rfl
set_option maxRecDepth 100000 in
theorem gk7 : kindR varsV (guardR 7) true = 0 := by kernel_rfl
set_option maxRecDepth 100000 in
theorem guard_kind (n : Nat) : kindR varsV (guardT n) true = 0 := by
  have h : n % 8 < 8 := Nat.mod_lt _ (by decide)
  unfold guardT
  generalize n % 8 = k at *
  match k, h with
  | 0, _ => exact gk0
  | 1, _ => exact gk1
  | 2, _ => exact gk2
  | 3, _ => exact gk3
  | 4, _ => exact gk4
  | 5, _ => exact gk5
  | 6, _ => exact gk6
  | 7, _ => exact gk7
set_option maxRecDepth 100000 in
theorem upd_kind (n : Nat) : (updT n).length ≤ 16 ∧ firstE (upErr varsV (updT n)) (updT n).length = 0 := by
  have h : n % 7 < 7 := Nat.mod_lt _ (by decide)
  unfold updT
  generalize n % 7 = k at *
  match k, h with
  | 0, _ => exact ⟨by decide, by kernel_rfl⟩
  | 1, _ => exact ⟨by decide, by kernel_rfl⟩
  | 2, _ => exact ⟨by decide, by kernel_rfl⟩
  | 3, _ => exact ⟨by decide, by kernel_rfl⟩
  | 4, _ => exact ⟨by decide, by kernel_rfl⟩
  | 5, _ => exact ⟨by decide, by kernel_rfl⟩
  | 6, _ => exact ⟨by decide, by kernel_rfl⟩
theorem numB_nat {a m : Nat} (h : 0 < m) : numB ((a % m : Nat) : Int) (m : Int) = true := by
  have := Nat.mod_lt a h
  unfold numB; exact decide_eq_true (by omega)
theorem vd_s (v : Vd) : 1 ≤ v.S ∧ v.S ≤ 3 := by unfold Vd.S; omega
theorem ofA_ok (v : Vd) (a : A6) : arcR (ofX v) (ofA v.S a) = 0 := by
  have hs := vd_s v
  have h1 : numB ((a.1 % v.S : Nat) : Int) (v.S : Int) = true := numB_nat (by omega)
  have h2 : numB ((a.2.1 % 2 : Nat) : Int) 2 = true := numB_nat (m := 2) (by omega)
  have h3 : numB ((a.2.2.2.1 % 3 : Nat) : Int) 3 = true := numB_nat (m := 3) (by omega)
  have h4 : numB ((a.2.2.2.2.2 % v.S : Nat) : Int) (v.S : Int) = true := numB_nat (by omega)
  have h5 := guard_kind a.2.2.1
  have h6 := upd_kind a.2.2.2.2.1
  unfold arcR ofA ofX
  dsimp only
  show (if (numB ((a.1 % v.S : Nat) : Int) (v.S : Int) && (numB ((a.2.1 % 2 : Nat) : Int) 2 && (numB ((a.2.2.2.1 % 3 : Nat) : Int) 3 && numB ((a.2.2.2.2.2 % v.S : Nat) : Int) (v.S : Int)))) = false then _ else _) = _
  rw [h1, h2, h3, h4]
  rw [if_neg (by decide)]
  have h5' : kindR [(nmN, 0, 2), (nmB, 0, 1)] (guardT a.2.2.1) true = 0 := h5
  rw [h5', if_neg (by decide), if_neg (by have := h6.1; omega)]
  exact h6.2
theorem xtR_zero {x : Xt} (h1 : ¬ (16 < x.ins ∨ 16 < x.outs ∨ 64 < x.states ∨ 256 < x.arcs.length)) (h2 : valsR x.vars x.start = 0) (h3 : ¬ (x.ins < 1 ∨ x.outs < 1 ∨ x.states < 1)) (h4 : ∀ a ∈ x.arcs, arcR x a = 0) : xtR x = 0 := by
  unfold xtR
  rw [if_neg h1, if_neg (by rw [h2]; decide), if_neg h3]
  refine firstE_zero (fun k hk => ?_)
  split
  · rename_i a h; exact h4 a (List.mem_of_getElem? h)
  · rfl
theorem ofX_ok (v : Vd) : xtR (ofX v) = 0 := by
  have hs := vd_s v
  have hl : (ofX v).arcs.length ≤ 10 := by show ((v.arcs.take 10).map (ofA v.S)).length ≤ 10; rw [List.length_map, List.length_take]; omega
  have hst : valsR varsV [((v.s0 % 3 : Nat) : Int), ((v.s1 % 2 : Nat) : Int)] = 0 := valsR_good varsV_ok rfl (fun i hi => by
    have hi : i < 2 := hi
    have h0 := Nat.mod_lt v.s0 (show 0 < 3 by decide)
    have h1 := Nat.mod_lt v.s1 (show 0 < 2 by decide)
    unfold offAt varsV
    match i, hi with
    | 0, _ => simp; omega
    | 1, _ => simp; omega)
  have e1 : (ofX v).ins = 2 := rfl
  have e2 : (ofX v).outs = 3 := rfl
  have e3 : (ofX v).states = (v.S : Int) := rfl
  refine xtR_zero (by rw [e1, e2, e3]; omega) hst (by rw [e1, e2, e3]; omega) (fun a hm => ?_)
  have hm : a ∈ (v.arcs.take 10).map (ofA v.S) := hm
  obtain ⟨b, _, rfl⟩ := List.mem_map.1 hm
  exact ofA_ok v b
/-! ### Where values lie among all -/
theorem mem_dom (l : List Vt) : ∀ ys : List Int, ys.length = l.length → (∀ i < l.length, offAt l ys i = false) → ys ∈ domL l := by
  induction l using snoc_ind with
  | h0 => intro ys h _; have : ys = [] := List.length_eq_zero_iff.1 h
          subst this; simp [domL]
  | h1 l v ih =>
    intro ys h hb
    have hne : ys ≠ [] := fun e => by subst e; simp at h
    obtain ⟨p, y, rfl⟩ : ∃ p y, ys = p ++ [y] := ⟨ys.dropLast, ys.getLast hne, (List.dropLast_concat_getLast hne).symm⟩
    have hp : p.length = l.length := by simpa using h
    rw [domL_snoc]
    unfold domS
    refine List.mem_flatMap.2 ⟨p, ih p hp (fun i hi => ?_), List.mem_map.2 ⟨y, ?_, rfl⟩⟩
    · have h1 := hb i (by simp; omega)
      unfold offAt at h1 ⊢
      rw [List.getElem?_append_left hi, List.getElem?_append_left (by omega)] at h1
      exact h1
    · have h1 := hb l.length (by simp)
      unfold offAt at h1
      rw [List.getElem?_append_right (Nat.le_refl _), Nat.sub_self, List.getElem?_append_right (by omega), hp, Nat.sub_self] at h1
      simp at h1
      unfold spanL
      refine List.mem_map.2 ⟨(y - v.2.1).toNat, List.mem_range.2 (by omega), by omega⟩
theorem vals_dom {l : List Vt} {ys : List Int} (h : valsR l ys = 0) : ys ∈ domL l := mem_dom l ys (valsR_zero h).2.1 (valsR_zero h).2.2
/-! ### Order -/
def fireF (x : Xt) (s : Int) (ys : List Int) (inp : Int) (a : Ac) : Option (Int × List Int × Int) := if a.inp = inp then (takeR x a s ys).map (fun r => (r.1, r.2, a.out)) else none
theorem stepL_find (x : Xt) (s : Int) (ys : List Int) (inp : Int) : ∀ al : List Ac, stepL x s ys inp al = al.findSome? (fireF x s ys inp)
  | [] => rfl
  | a :: l => by
    unfold stepL
    rw [List.findSome?_cons, stepL_find x s ys inp l]
    unfold fireF
    by_cases h : a.inp = inp
    · rw [if_pos h, if_pos h]
      cases takeR x a s ys <;> rfl
    · rw [if_neg h, if_neg h]
theorem find_perm {α β : Type} {f : α → Option β} {l l' : List α} (hp : List.Perm l l') : List.Pairwise (fun a b => f a = none ∨ f b = none) l → l.findSome? f = l'.findSome? f := by
  induction hp with
  | nil => intro _; rfl
  | cons a hp ih =>
    intro h
    rw [List.findSome?_cons, List.findSome?_cons, ih (List.pairwise_cons.1 h).2]
  | swap a b l =>
    intro h
    have h1 := (List.pairwise_cons.1 h).1 a (by simp)
    rw [List.findSome?_cons, List.findSome?_cons, List.findSome?_cons, List.findSome?_cons]
    rcases h1 with h1 | h1
    · rw [h1]
    · rw [h1]
  | trans h1 h2 ih1 ih2 =>
    intro h
    rw [ih1 h]
    exact ih2 ((h1.pairwise_iff (fun h => h.symm)).1 h)
theorem fire_frm {x : Xt} {s : Int} {ys : List Int} {inp : Int} {a : Ac} (h : fireF x s ys inp a ≠ none) : a.inp = inp ∧ a.frm = s ∧ (takeV x a a.frm ys).2.2 = true := by
  unfold fireF at h
  split at h
  · rename_i h1
    cases ht : takeR x a s ys with
    | none => rw [ht] at h; exact absurd rfl h
    | some r =>
      have hs : a.frm = s := by
        unfold takeR at ht
        split at ht
        · cases ht
        · rename_i hn; exact Decidable.not_not.1 (fun e => hn (.inl e))
      refine ⟨h1, hs, ?_⟩
      subst hs
      unfold takeV; rw [ht]
  · exact absurd rfl h
theorem fire_one {x : Xt} (hc : CfNo x) {s : Int} {ys : List Int} {inp : Int} (hy : valsR x.vars ys = 0) : List.Pairwise (fun a b => fireF x s ys inp a = none ∨ fireF x s ys inp b = none) x.arcs := by
  rw [List.pairwise_iff_getElem]
  intro i k hi hk hik
  by_cases h1 : fireF x s ys inp x.arcs[i] = none
  · exact .inl h1
  · refine .inr (Classical.byContradiction fun h2 => ?_)
    obtain ⟨a1, a2, a3⟩ := fire_frm h1
    obtain ⟨b1, b2, b3⟩ := fire_frm h2
    have h3 := hc i k hik _ _ (List.getElem?_eq_getElem hi) (List.getElem?_eq_getElem hk)
    unfold pairC at h3
    rw [if_pos ⟨b2.trans a2.symm, b1.trans a1.symm⟩, List.find?_eq_none] at h3
    refine h3 ys (vals_dom hy) ?_
    unfold bothT
    rw [a3, a2, ← b2, b3]; rfl
theorem take_vars {x x' : Xt} (h : x'.vars = x.vars) (a : Ac) (s : Int) (ys : List Int) : takeR x' a s ys = takeR x a s ys := by unfold takeR; rw [h]
theorem step_swap {x x' : Xt} (hv : x'.vars = x.vars) (hp : List.Perm x.arcs x'.arcs) (hc : CfNo x) (s : Int) (ys : List Int) (inp : Int) (hy : valsR x.vars ys = 0) : stepR x' s ys inp = stepR x s ys inp := by
  unfold stepR
  rw [stepL_find, stepL_find]
  have hf : fireF x' s ys inp = fireF x s ys inp := by funext a; unfold fireF; rw [take_vars hv]
  rw [hf]
  exact (find_perm hp (fire_one hc hy)).symm
theorem run_swap {x x' : Xt} (hx : xtR x = 0) (hv : x'.vars = x.vars) (hp : List.Perm x.arcs x'.arcs) (hc : CfNo x) : ∀ (c : Option (Int × List Int)) (w : List Int), (∀ d, c = some d → okSp x d) → runF x' c w = runF x c w
  | none, [], _ => rfl
  | some c, [], _ => rfl
  | none, i :: w, h => by unfold runF; rw [run_swap hx hv hp hc none w (fun d h => by cases h)]
  | some c, i :: w, h => by
    have hc1 := h c rfl
    unfold runF
    rw [step_swap hv hp hc c.1 c.2 i hc1.2]
    cases hs : stepR x c.1 c.2 i with
    | none => dsimp only; rw [run_swap hx hv hp hc none w (fun d h => by cases h)]
    | some r => dsimp only; rw [run_swap hx hv hp hc (some (r.1, r.2.1)) w (fun d h => by injection h with h; subst h; exact stepR_ok hx hc1.2 hs)]
def swapX (x : Xt) (al : List Ac) : Xt := ⟨x.ins, x.outs, x.states, x.vars, x.start, al⟩
theorem arcR_swap (x : Xt) (al : List Ac) (a : Ac) : arcR (swapX x al) a = arcR x a := rfl
theorem swap_ok {x : Xt} {al : List Ac} (hx : xtR x = 0) (hp : List.Perm x.arcs al) : xtR (swapX x al) = 0 := by
  have hl := hp.length_eq
  obtain ⟨h1, h2, h3, h4, h5, h6, h7, h8, hall⟩ := xtR_ok hx
  exact xtR_zero (by simp only [swapX]; omega) h5 (by simp only [swapX]; omega) (fun a hm => hall a (hp.mem_iff.2 hm))
theorem order_law {x : Xt} {al : List Ac} (hx : xtR x = 0) (hp : List.Perm x.arcs al) (hc : CfNo x) (w : List Int) : runF (swapX x al) (some (0, x.start)) w = runF x (some (0, x.start)) w :=
  run_swap (x := x) (x' := swapX x al) hx rfl hp hc _ w (fun d h => by injection h with h; subst h; exact okSp_start hx)
theorem swap_perm {α : Type} {l : List α} {i k : Nat} {a b : α} (hi : l[i]? = some a) (hk : l[k]? = some b) : List.Perm l ((l.set i b).set k a) := by
  obtain ⟨h1, e1⟩ := List.getElem?_eq_some_iff.1 hi
  obtain ⟨h2, e2⟩ := List.getElem?_eq_some_iff.1 hk
  subst e1 e2
  exact (List.set_set_perm h1 h2).symm
end Go.Proofs.YtggffdkgfgdaoaaDoor
