/- What ref29.Take computes, al plain data. -/
import Derived.Test.YtggffdkgfgdaoaaDoorE3
import Derived.Test.YtggffdkgfgdaoaaDoorD0
namespace Go.Proofs.YtggffdkgfgdaoaaDoor
set_option linter.unusedVariables false
set_option linter.unusedSimpArgs false
/-- The new value of one variable. -/
def upV (l : List Vt) (old : List Int) (v : Nat) : List Up → Int → Option Int
  | [], k => some k
  | u :: us, k => if u.var = (v : Int) then (match l[v]? with
    | none => none
    | some q => if (evR old u.ex).2 = false ∨ (evR old u.ex).1 < q.2.1 ∨ q.2.2 < (evR old u.ex).1 then none else upV l old v us (evR old u.ex).1) else upV l old v us k
def tkV (l : List Vt) (old : List Int) (us : List Up) : Nat → Option (List Int)
  | 0 => some []
  | v + 1 => match tkV l old us v with
    | none => none
    | some L => match upV l old v us (old.getD v 0) with
      | none => none
      | some k => some (L ++ [k])
theorem upV_drop {l : List Vt} {old : List Int} {v : Nat} {us : List Up} {i : Nat} {u : Up} (h : us[i]? = some u) (k : Int) : upV l old v (us.drop i) k = if u.var = (v : Int) then (match l[v]? with
    | none => none
    | some q => if (evR old u.ex).2 = false ∨ (evR old u.ex).1 < q.2.1 ∨ q.2.2 < (evR old u.ex).1 then none else upV l old v (us.drop (i + 1)) (evR old u.ex).1) else upV l old v (us.drop (i + 1)) k := by
  have hlt := (List.getElem?_eq_some_iff.1 h).1
  rw [List.drop_eq_getElem_cons hlt]
  have : us[i] = u := by have := List.getElem?_eq_getElem hlt; rw [h] at this; injection this with this; exact this.symm
  rw [this]; rfl
theorem tkV_none {l : List Vt} {old : List Int} {us : List Up} {v n : Nat} (h : tkV l old us v = none) (hn : v ≤ n) : tkV l old us n = none := by
  induction n with
  | zero => obtain rfl : v = 0 := by omega
            exact h
  | succ n ih =>
    by_cases hk : v = n + 1
    · subst hk; exact h
    · unfold tkV; rw [ih (by omega)]
theorem full_of {l : List Vt} {t : Tr} {xs : List Int} (h1 : checkR l t = 0) (h2 : valsR l xs = 0) : fullR l t xs = ((evR xs t).1, (evR xs t).2, 0) := by
  unfold fullR
  rw [if_neg (by simpa using h1), if_neg (by simpa using h2)]
theorem puts_up {l : List Vt} {old : List Int} (hold : valsR l old = 0) : ∀ (us : List Up) (cur : List Int), (∀ u ∈ us, 0 ≤ u.var ∧ u.var < l.length ∧ checkR l u.ex = 0) → cur.length = l.length →
    (∀ c, putsU l old us cur = some c → ∀ v < l.length, upV l old v us (cur.getD v 0) = some (c.getD v 0)) ∧ (putsU l old us cur = none → ∃ v, v < l.length ∧ upV l old v us (cur.getD v 0) = none)
  | [], cur, _, _ => ⟨fun c h v _ => by injection h with h; subst h; rfl, fun h => by cases h⟩
  | u :: us, cur, hu, hl => by
    obtain ⟨u1, u2, u3⟩ := hu u (by simp)
    obtain ⟨m, hm⟩ : ∃ m : Nat, u.var = m := ⟨u.var.toNat, by omega⟩
    have hml : m < l.length := by omega
    obtain ⟨q, hq⟩ : ∃ q, l[m]? = some q := ⟨_, List.getElem?_eq_getElem hml⟩
    have hp : putU l old u cur = if (evR old u.ex).2 = false ∨ (evR old u.ex).1 < q.2.1 ∨ q.2.2 < (evR old u.ex).1 then none else some (cur.set m (evR old u.ex).1) := by
      unfold putU
      rw [hm, Int.toNat_natCast, hq]
      dsimp only
      rw [full_of u3 hold]
    have hup : ∀ k, upV l old m (u :: us) k = if (evR old u.ex).2 = false ∨ (evR old u.ex).1 < q.2.1 ∨ q.2.2 < (evR old u.ex).1 then none else upV l old m us (evR old u.ex).1 := fun k => by
      conv => lhs; unfold upV
      rw [if_pos hm, hq]
    have huo : ∀ v k, v ≠ m → upV l old v (u :: us) k = upV l old v us k := fun v k h => by
      conv => lhs; unfold upV
      rw [if_neg (by rw [hm]; omega)]
    by_cases hb : (evR old u.ex).2 = false ∨ (evR old u.ex).1 < q.2.1 ∨ q.2.2 < (evR old u.ex).1
    · rw [if_pos hb] at hp
      refine ⟨fun c h => ?_, fun _ => ⟨m, hml, by rw [hup, if_pos hb]⟩⟩
      unfold putsU at h
      rw [hp] at h; cases h
    · rw [if_neg hb] at hp
      have hps : putsU l old (u :: us) cur = putsU l old us (cur.set m (evR old u.ex).1) := by
        conv => lhs; unfold putsU
        rw [hp]
      obtain ⟨i1, i2⟩ := puts_up hold us (cur.set m (evR old u.ex).1) (fun w hw => hu w (by simp [hw])) (by simp [hl])
      have hs : ∀ v, v < l.length → upV l old v (u :: us) (cur.getD v 0) = upV l old v us ((cur.set m (evR old u.ex).1).getD v 0) := fun v hv => by
        by_cases hvm : v = m
        · subst hvm
          rw [hup, if_neg hb, List.getD_eq_getElem?_getD, List.getElem?_set_self (by omega)]; rfl
        · rw [huo v _ hvm, List.getD_eq_getElem?_getD, List.getD_eq_getElem?_getD, List.getElem?_set_ne (by omega)]
      refine ⟨fun c h v hv => ?_, fun h => ?_⟩
      · rw [hps] at h
        rw [hs v hv]; exact i1 c h v hv
      · rw [hps] at h
        obtain ⟨v, hv, h2⟩ := i2 h
        exact ⟨v, hv, by rw [hs v hv]; exact h2⟩
theorem tkV_some {l : List Vt} {old : List Int} {us : List Up} {c : List Int} : ∀ n, n ≤ c.length → (∀ v < n, upV l old v us (old.getD v 0) = some (c.getD v 0)) → tkV l old us n = some (c.take n)
  | 0, _, _ => rfl
  | n + 1, hn, h => by
    unfold tkV
    rw [tkV_some n (by omega) (fun v hv => h v (by omega))]
    dsimp only
    rw [h n (by omega)]
    dsimp only
    rw [List.take_succ_eq_append_getElem (by omega), List.getD_eq_getElem?_getD, List.getElem?_eq_getElem (by omega)]; rfl
theorem tkV_bad {l : List Vt} {old : List Int} {us : List Up} {v n : Nat} (hv : v < n) (h : upV l old v us (old.getD v 0) = none) : tkV l old us n = none := by
  refine tkV_none (v := v + 1) ?_ hv
  unfold tkV
  cases tkV l old us v with
  | none => rfl
  | some L => dsimp only; rw [h]
theorem arcR_ups {x : Xt} {a : Ac} (ha : arcR x a = 0) : ∀ u ∈ a.ups, 0 ≤ u.var ∧ u.var < x.vars.length ∧ checkR x.vars u.ex = 0 := fun u hu => by
  obtain ⟨i, hi⟩ := List.getElem?_of_mem hu
  obtain ⟨h1, _, h3⟩ := (arcR_ok ha).2.2.2.2.2.2 i u hi
  refine ⟨h1.1, h1.2, ?_⟩
  unfold kindR at h3
  by_cases h : checkR x.vars u.ex = 0
  · exact h
  · rw [if_neg h] at h3; exact h3
theorem arcR_guard {x : Xt} {a : Ac} (ha : arcR x a = 0) : checkR x.vars a.guard = 0 ∧ condT a.guard = true := by
  have h3 := (arcR_ok ha).2.2.2.2.1
  unfold kindR at h3
  by_cases h : checkR x.vars a.guard = 0
  · rw [if_pos h] at h3
    refine ⟨h, ?_⟩
    by_cases h2 : condT a.guard = true
    · exact h2
    · rw [if_neg h2] at h3; cases h3
  · rw [if_neg h] at h3; exact absurd h3 h
/-- What Take answers of a valid machine. -/
def tkR (x : Xt) (a : Ac) (s : Int) (ys : List Int) : Option (Int × List Int) := if a.frm = s ∧ (evR ys a.guard).2 = true ∧ (evR ys a.guard).1 = 1 then (tkV x.vars ys a.ups ys.length).map (fun c => (a.dst, c)) else none
theorem takeR_valid {x : Xt} {a : Ac} {s : Int} {ys : List Int} (ha : arcR x a = 0) (hy : valsR x.vars ys = 0) : takeR x a s ys = tkR x a s ys := by
  have hl := (valsR_zero hy).2.1
  unfold takeR tkR
  rw [full_of (arcR_guard ha).1 hy]
  dsimp only
  by_cases h1 : a.frm = s ∧ (evR ys a.guard).2 = true ∧ (evR ys a.guard).1 = 1
  · rw [if_pos h1, if_neg (by simp [h1])]
    obtain ⟨p1, p2⟩ := puts_up hy a.ups ys (arcR_ups ha) hl
    cases hc : putsU x.vars ys a.ups ys with
    | none =>
      obtain ⟨v, hv, h2⟩ := p2 hc
      rw [tkV_bad (by omega) h2]; rfl
    | some c =>
      have hcl : c.length = ys.length := putsU_len hc
      rw [tkV_some (c := c) ys.length (by omega) (fun v hv => p1 c hc v (by omega)), ← hcl, List.take_length]; rfl
  · rw [if_neg h1, if_pos]
    by_cases h2 : a.frm = s
    · by_cases h3 : (evR ys a.guard).2 = true
      · exact .inr (.inr (fun h => h1 ⟨h2, h3, h⟩))
      · exact .inr (.inl (by simpa using h3))
    · exact .inl h2
end Go.Proofs.YtggffdkgfgdaoaaDoor
