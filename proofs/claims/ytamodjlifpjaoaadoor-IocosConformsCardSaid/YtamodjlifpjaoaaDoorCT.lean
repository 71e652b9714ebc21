/- What Conforms answers of two small systems with equal labels. Plain. -/
import Derived.Test.YtamodjlifpjaoaaDoorGC
namespace Go.Proofs.YtamodjlifpjaoaaDoor
open Go.RowKit
set_option linter.unusedVariables false
set_option linter.unusedSimpArgs false
theorem labs_of {x : Lts} (hx : Good x) {l : Int} (h : l ∈ labs x) : 0 ≤ l ∧ l ≤ x.ins + x.outs := by
  unfold labs at h
  obtain ⟨j, hj, rfl⟩ := List.mem_map.1 h
  have := List.mem_range.1 hj
  have h1 := hx.II.1
  have h2 := hx.OO.1
  omega
/-- What Conforms answers of two small systems with equal labels. -/
theorem conf_two {x y : Lts} (hcx : checkI x = 0) (hcy : checkI y = 0) (hi : x.ins = y.ins) (ho : x.outs = y.outs) (hx5 : x.n ≤ 5) (hy5 : y.n ≤ 5) (hacc : accB x = true) :
    ((fndL x y).findIdx? (offC x y) = none ∧ confR x y = (true, [], 0, 0) ∧ refConf x y = (1, [], 0)) ∨
    ∃ (t : List Int) (o : Int), confR x y = (false, t, o, 0) ∧ refConf x y = (0, t, o) ∧ (∀ l ∈ t, 0 ≤ l ∧ l ≤ y.ins + y.outs) ∧ t.length ≤ 1024 ∧ tr x (begM x) t ≠ 0 ∧ tr y (begM y) t ≠ 0 ∧ o ∈ obsM x (tr x (begM x) t) ∧ aftM y (tr y (begM y) t) o = 0 := by
  have hgx := check_good hcx
  have hgy := check_good hcy
  have hN := goC_small hgx hgy hx5 hy5 (capC x)
  have hcr : confR x y = confG x y := by
    unfold confR
    rw [if_neg (by simpa using hcx), if_neg (by simpa using hcy), if_neg (by simp [hi, ho]), if_neg (by rw [hacc]; simp), if_neg (by show ¬ 4096 < (goC x y (capC x)).length; omega)]
  rw [hcr, conf_small hgx hgy hx5 hy5]
  cases hf : (fndL x y).findIdx? (offC x y) with
  | none =>
    have hr : refConf x y = (1, [], 0) := by unfold refConf; rw [hf]
    exact .inl ⟨rfl, by rw [hr]; rfl, hr⟩
  | some n =>
    obtain ⟨r, hn, hbad, _⟩ := find_first hf
    have hr : refConf x y = (0, wayC x y n, (badC x y ((fndL x y).getD n (rt (rootC x y))).key).getD 0) := by unfold refConf; rw [hf]
    have hw := (goC_ok x y (capC x)).way n r hn
    obtain ⟨e, hl⟩ := wayC_tr hw
    have hk := goC_key hgx hgy (capC x) (List.mem_of_getElem? hn)
    rw [fd_get hn] at hr
    have hb : (badC x y r.key).isSome = true := hbad
    obtain ⟨l, hbl⟩ := Option.isSome_iff_exists.1 hb
    obtain ⟨v1, v2⟩ := badC_val hbl
    rw [hbl] at hr
    rw [e] at hk v1 v2
    have hsh := conf_short hgx hgy (by show (goC x y (capC x)).length ≤ 4096; omega) hf
    have h3 : x.n * 2 ^ y.n ≤ 5 * 32 := Nat.mul_le_mul hx5 (Nat.le_trans (Nat.pow_le_pow_right (by omega) hy5) (by decide))
    refine .inr ⟨wayC x y n, l, by rw [hr]; rfl, hr, fun z hz => ?_, by omega, hk.2.2.1, hk.2.2.2, v1, v2⟩
    have := labs_of hgx (hl z hz)
    rw [hi, ho] at this
    exact this
end Go.Proofs.YtamodjlifpjaoaaDoor
