/- Expressions as trees, and in memory; what guards says of them. guards: truth 106, the functions of the table 101-105, 107-111, condition 83, number 36. guards.eval 72. guards.small 79. -/
import Derived.Test.YtggffdkgfgdaoaaDoorGA
namespace Go.Proofs.YtggffdkgfgdaoaaDoor
open Go.RowKit
set_option linter.unusedVariables false
set_option linter.unusedSimpArgs false
inductive Tr where
  | mk (op : Nat) (n : Int) (subs : List Tr)
def Tr.op : Tr → Nat | .mk o _ _ => o
def Tr.n : Tr → Int | .mk _ n _ => n
def Tr.subs : Tr → List Tr | .mk _ _ s => s
theorem Tr.eta (t : Tr) : t = .mk t.op t.n t.subs := by cases t; rfl
theorem Tr.sub_lt {t s : Tr} (h : s ∈ t.subs) : SizeOf.sizeOf s < SizeOf.sizeOf t := by
  cases t with
  | mk o n l =>
    have := List.sizeOf_lt_of_mem h
    simp only [Tr.subs] at this
    simp only [Tr.mk.sizeOf_spec]
    omega
/-- A node that lies among others: its operation, its number, its subs as a slice. -/
abbrev Nv := Nat × Int × Value
def nvCells (u : Nv) : List Value := [.int .u8 u.1, .int .i64 u.2.1, u.2.2]
def nvVal (u : Nv) : Value := .agg #[.int .u8 u.1, .int .i64 u.2.1, u.2.2]
theorem nvs_len : ∀ l : List Nv, (l.flatMap nvCells).length = l.length * 3
  | [] => rfl
  | y :: t => by rw [List.flatMap_cons, List.length_append, nvs_len t]; simp [nvCells]; omega
theorem nvs_get : ∀ {l : List Nv} {i : Nat} {r : Nv} (h : l[i]? = some r) (j : Nat) (u : Value), (nvCells r)[j]? = some u → (l.flatMap nvCells)[i * 3 + j]? = some u
  | [], i, r, h, _, _, _ => by simp at h
  | y :: t, 0, r, h, j, u, hj => by
    simp at h; subst h
    have := (List.getElem?_eq_some_iff.1 hj).1
    rw [List.flatMap_cons, Nat.zero_mul, Nat.zero_add, List.getElem?_append_left this]; exact hj
  | y :: t, i + 1, r, h, j, u, hj => by
    have h2 := nvs_get (l := t) (i := i) (r := r) (by simpa using h) j u hj
    rw [List.flatMap_cons, List.getElem?_append_right (by simp [nvCells]; omega)]
    rw [← h2]; congr 1; simp [nvCells]; omega
inductive NodeV (w : World) : Tr → Value → Prop
  | mk {op : Nat} {n : Int} {ts : List Tr} {A : Option Addr} {c : Nat} {vs : List Nv} : op < 256 → vs.length = ts.length → Cells w A (vs.flatMap nvCells) → (∀ (i : Nat) (t : Tr) (u : Nv), ts[i]? = some t → vs[i]? = some u → NodeV w t (nvVal u)) →
      ts.length ≤ c → ts.length ≤ lenMax → NodeV w (.mk op n ts) (.agg #[.int .u8 (op : Int), .int .i64 n, .slice A ts.length c])
theorem NodeV.ext {w w' : World} {t : Tr} {v : Value} (h : NodeV w t v) (e : Ext w w') : NodeV w' t v := by
  induction h with
  | mk h0 h1 h2 _ h4 h5 ih => exact .mk h0 h1 (h2.ext e) ih h4 h5
/-- A node that is known, with its subs at hand. -/
theorem NodeV.form {w : World} {t : Tr} {v : Value} (h : NodeV w t v) : t.op < 256 ∧ ∃ (A : Option Addr) (c : Nat) (vs : List Nv), v = .agg #[.int .u8 (t.op : Int), .int .i64 t.n, .slice A t.subs.length c] ∧ vs.length = t.subs.length ∧ Cells w A (vs.flatMap nvCells) ∧
    (∀ (i : Nat) (s : Tr) (u : Nv), t.subs[i]? = some s → vs[i]? = some u → NodeV w s (nvVal u)) ∧ t.subs.length ≤ c ∧ t.subs.length ≤ lenMax := by
  cases h with
  | mk h0 h1 h2 h3 h4 h5 => exact ⟨h0, _, _, _, rfl, h1, h2, h3, h4, h5⟩
/-- One of the subs. -/
theorem sub_at {w : World} {A : Option Addr} {vs : List Nv} {ts : List Tr} (hl : vs.length = ts.length) (hc : Cells w A (vs.flatMap nvCells)) (hs : ∀ (i : Nat) (s : Tr) (u : Nv), ts[i]? = some s → vs[i]? = some u → NodeV w s (nvVal u)) {i : Nat} {s : Tr} (hi : ts[i]? = some s) :
    ∃ b o p m q, A = some ⟨b, o, none⟩ ∧ w.cell? ⟨b, o + i * 3, none⟩ = some (.int .u8 (p : Nat)) ∧ w.cell? ⟨b, o + i * 3 + 1, none⟩ = some (.int .i64 m) ∧ w.cell? ⟨b, o + i * 3 + 2, none⟩ = some q ∧ NodeV w s (.agg #[.int .u8 (p : Int), .int .i64 m, q]) := by
  have hlt := (List.getElem?_eq_some_iff.1 hi).1
  obtain ⟨u, hu⟩ : ∃ u, vs[i]? = some u := ⟨_, List.getElem?_eq_getElem (by omega)⟩
  obtain ⟨b, o, rfl, _, hcc⟩ := hc (by rw [nvs_len]; omega)
  exact ⟨b, o, u.1, u.2.1, u.2.2, rfl, hcc _ _ (nvs_get hu 0 _ rfl), by rw [Nat.add_assoc]; exact hcc _ _ (nvs_get hu 1 _ rfl), by rw [Nat.add_assoc]; exact hcc _ _ (nvs_get hu 2 _ rfl), hs i s u hi hu⟩
/-! ### What the functions say -/
-- How many nodes.
mutual
def cntT : Tr → Nat
  | .mk _ _ ts => cntTs ts + 1
def cntTs : List Tr → Nat
  | [] => 0
  | t :: l => cntT t + cntTs l
end
def subsN (op : Nat) : Int := if op = 0 ∨ op = 1 then 0 else if op = 2 ∨ op = 9 then 1 else 2
def mostN (op vars : Nat) : Int := if op = 0 then 2147483648 else if op = 1 then (vars : Int) - 1 else 0
def ownOk (vars : Nat) (op : Nat) (n : Int) (k : Nat) : Bool := decide (op < 12) && (decide ((k : Int) = subsN op) && (decide (0 ≤ n) && decide (n ≤ mostN op vars)))
mutual
def shapT (vars : Nat) : Tr → Bool
  | .mk op n ts => ownOk vars op n ts.length && shapTs vars ts
def shapTs (vars : Nat) : List Tr → Bool
  | [] => true
  | t :: l => shapT vars t && shapTs vars l
end
def condT (t : Tr) : Bool := decide (6 ≤ t.op)
def numsO (op : Nat) : Bool := decide (2 ≤ op ∧ op ≤ 8)
mutual
def typT : Tr → Bool
  | .mk op n ts => typTs (numsO op) ts
def typTs (nums : Bool) : List Tr → Bool
  | [] => true
  | t :: l => (condT t != nums) && typT t && typTs nums l
end
theorem cntT_eq (t : Tr) : cntT t = cntTs t.subs + 1 := by cases t; simp [cntT, Tr.subs]
theorem shapT_eq (vars : Nat) (t : Tr) : shapT vars t = (ownOk vars t.op t.n t.subs.length && shapTs vars t.subs) := by cases t; simp [shapT, Tr.subs, Tr.op, Tr.n]
theorem typT_eq (t : Tr) : typT t = typTs (numsO t.op) t.subs := by cases t; simp [typT, Tr.subs, Tr.op]
/-- What an operation does. -/
def doO (op : Nat) (a b : Int) : Int :=
  if op = 2 then -a else if op = 3 then a + b else if op = 4 then a - b else if op = 5 then a * b else if op = 6 then (if a = b then 1 else 0) else if op = 7 then (if a < b then 1 else 0) else if op = 8 then (if a ≤ b then 1 else 0) else if op = 9 then 1 - a else if op = 10 then a * b else if a < b then b else a
def fitsV (n : Int) : Bool := decide (-2147483648 ≤ n ∧ n ≤ 2147483648)
-- The value of an expression; none where it is undefined.
mutual
def evT (vals : List Int) : Tr → Option Int
  | .mk op n ts => if op = 0 then some n else if op = 1 then some (vals.getD n.toNat 0) else
    match evTs vals ts with
    | some l => let r := doO op (l.getD 0 0) (l.getD 1 0); if fitsV r then some r else none
    | none => none
def evTs (vals : List Int) : List Tr → Option (List Int)
  | [] => some []
  | t :: l => match evT vals t with
    | some a => (match evTs vals l with | some r => some (a :: r) | none => none)
    | none => none
end
end Go.Proofs.YtggffdkgfgdaoaaDoor

namespace Go.Proofs.YtggffdkgfgdaoaaDoor
open Go.RowKit
set_option linter.unusedVariables false
set_option linter.unusedSimpArgs false
attribute [local go_sem] Oper.quietV quietV Oper.gives givesV ext_refl_iff ext_alloc_iff ext_drew_iff ext_drewN_iff
def b01 (b : Bool) : Int := if b then 1 else 0
theorem truth_any (w : World) (b : Bool) : Calls Tryd.prog 106 #[.bool b] w fun e w' => e = .returned (.int .i64 (b01 b)) ∧ w = w' := by
  cases b with
  | true =>
    go_enter Tryd.func106, Tryd.ntmps106
    go_wp2
    go_ret
    exact ⟨rfl, rfl⟩
  | false =>
    go_enter Tryd.func106, Tryd.ntmps106
    go_wp2
    go_ret
    exact ⟨rfl, rfl⟩
theorem cond_any (w : World) (k : Nat) (hk : k < 256) : Calls Tryd.prog 83 #[.int .u8 (k : Int)] w fun e w' => e = .returned (.bool (decide (6 ≤ k))) ∧ w = w' := by
  obtain ⟨r, hr⟩ : ∃ r : Bool, r = decide (6 ≤ k) := ⟨_, rfl⟩
  rw [← hr]
  by_cases h : 6 ≤ k
  · have h1 : (6 : Int) ≤ (k : Int) := by omega
    have HD : Hid (r = true) := Lib.hid (by rw [hr]; exact decide_eq_true h)
    clear hr
    go_enter Tryd.func83, Tryd.ntmps83
    go_wp2
    go_ret
    exact ⟨by rw [HD.out]; rfl, rfl⟩
  · have h1 : ¬ (6 : Int) ≤ (k : Int) := by omega
    have HD : Hid (r = false) := Lib.hid (by rw [hr]; exact decide_eq_false h)
    clear hr
    go_enter Tryd.func83, Tryd.ntmps83
    go_wp2
    go_ret
    exact ⟨by rw [HD.out]; rfl, rfl⟩
theorem number_any (w : World) (n m : Int) : Calls Tryd.prog 36 #[.int .i64 n, .int .i64 m] w fun e w' => e = .returned (.bool (decide (0 ≤ n ∧ n < m))) ∧ w = w' := by
  obtain ⟨r, hr⟩ : ∃ r : Bool, r = decide (0 ≤ n ∧ n < m) := ⟨_, rfl⟩
  rw [← hr]
  by_cases h : 0 ≤ n
  · by_cases h2 : n < m
    · have HD : Hid (r = true) := Lib.hid (by rw [hr]; exact decide_eq_true ⟨h, h2⟩)
      clear hr
      go_enter Tryd.func36, Tryd.ntmps36
      go_wp2
      go_ret
      exact ⟨by rw [HD.out]; rfl, rfl⟩
    · have HD : Hid (r = false) := Lib.hid (by rw [hr]; exact decide_eq_false (fun h => h2 h.2))
      clear hr
      go_enter Tryd.func36, Tryd.ntmps36
      go_wp2
      go_ret
      exact ⟨by rw [HD.out]; rfl, rfl⟩
  · have HD : Hid (r = false) := Lib.hid (by rw [hr]; exact decide_eq_false (fun h2 => h h2.1))
    clear hr
    go_enter Tryd.func36, Tryd.ntmps36
    go_wp2
    go_ret
    exact ⟨by rw [HD.out]; rfl, rfl⟩
def fnO (op : Nat) : FuncId := if op = 2 then 101 else if op = 3 then 102 else if op = 4 then 103 else if op = 5 then 104 else if op = 6 then 105 else if op = 7 then 107 else if op = 8 then 108 else if op = 9 then 109 else if op = 10 then 110 else 111
theorem mul_fits {a b : Int} (ha : -2147483648 ≤ a ∧ a ≤ 2147483648) (hb : -2147483648 ≤ b ∧ b ≤ 2147483648) : -4611686018427387904 ≤ a * b ∧ a * b ≤ 4611686018427387904 := by
  have h1 : a.natAbs ≤ 2147483648 := by omega
  have h2 : b.natAbs ≤ 2147483648 := by omega
  have h3 := Nat.mul_le_mul h1 h2
  rw [← Int.natAbs_mul] at h3
  omega
theorem do_any (w : World) (op : Nat) (h2 : 2 ≤ op) (h11 : op ≤ 11) (a b : Int) (ha : -2147483648 ≤ a ∧ a ≤ 2147483648) (hb : -2147483648 ≤ b ∧ b ≤ 2147483648) :
    Calls Tryd.prog (fnO op) #[.int .i64 a, .int .i64 b] w fun e w' => e = .returned (.int .i64 (doO op a b)) ∧ w = w' := by
  have hm := mul_fits ha hb
  rcases (by omega : op = 2 ∨ op = 3 ∨ op = 4 ∨ op = 5 ∨ op = 6 ∨ op = 7 ∨ op = 8 ∨ op = 9 ∨ op = 10 ∨ op = 11) with rfl | rfl | rfl | rfl | rfl | rfl | rfl | rfl | rfl | rfl
  · have HD : Hid (doO 2 a b = -a) := Lib.hid rfl
    show Calls Tryd.prog 101 _ _ _
    go_enter Tryd.func101, Tryd.ntmps101
    go_wp2
    go_ret
    exact ⟨by rw [HD.out]; first | rfl | (congr 2; first | rfl | omega), rfl⟩
  · have HD : Hid (doO 3 a b = a + b) := Lib.hid rfl
    show Calls Tryd.prog 102 _ _ _
    go_enter Tryd.func102, Tryd.ntmps102
    go_wp2
    go_ret
    exact ⟨by rw [HD.out]; first | rfl | (congr 2; first | rfl | omega), rfl⟩
  · have HD : Hid (doO 4 a b = a - b) := Lib.hid rfl
    show Calls Tryd.prog 103 _ _ _
    go_enter Tryd.func103, Tryd.ntmps103
    go_wp2
    go_ret
    exact ⟨by rw [HD.out]; first | rfl | (congr 2; first | rfl | omega), rfl⟩
  · have HD : Hid (doO 5 a b = a * b) := Lib.hid rfl
    have hw : IntKind.i64.wrap (a * b) = a * b := by rw [IntKind.wrap_i64]; omega
    show Calls Tryd.prog 104 _ _ _
    go_enter Tryd.func104, Tryd.ntmps104
    go_wp2
    go_ret
    exact ⟨by rw [HD.out]; first | rfl | (congr 2; first | rfl | omega), rfl⟩
  · by_cases hq : a = b
    · have HD : Hid (doO 6 a b = 1) := Lib.hid (by show (if a = b then (1 : Int) else 0) = 1; rw [if_pos hq])
      have g : (a == b) = true := by simp [hq]
      clear hq
      show Calls Tryd.prog 105 _ _ _
      have ht := truth_any w true
      go_enter Tryd.func105, Tryd.ntmps105
      go_wp2_with ((with_reducible refine ht.mono ?_); rintro e w2 ⟨rfl, rfl⟩)
      go_ret
      exact ⟨by rw [HD.out]; rfl, rfl⟩
    · have HD : Hid (doO 6 a b = 0) := Lib.hid (by show (if a = b then (1 : Int) else 0) = 0; rw [if_neg hq])
      have g : (a == b) = false := by simp [hq]
      clear hq
      show Calls Tryd.prog 105 _ _ _
      have ht := truth_any w false
      go_enter Tryd.func105, Tryd.ntmps105
      go_wp2_with ((with_reducible refine ht.mono ?_); rintro e w2 ⟨rfl, rfl⟩)
      go_ret
      exact ⟨by rw [HD.out]; rfl, rfl⟩
  · by_cases hq : a < b
    · have HD : Hid (doO 7 a b = 1) := Lib.hid (by show (if a < b then (1 : Int) else 0) = 1; rw [if_pos hq])
      show Calls Tryd.prog 107 _ _ _
      have ht := truth_any w true
      go_enter Tryd.func107, Tryd.ntmps107
      go_wp2_with ((with_reducible refine ht.mono ?_); rintro e w2 ⟨rfl, rfl⟩)
      go_ret
      exact ⟨by rw [HD.out]; rfl, rfl⟩
    · have HD : Hid (doO 7 a b = 0) := Lib.hid (by show (if a < b then (1 : Int) else 0) = 0; rw [if_neg hq])
      show Calls Tryd.prog 107 _ _ _
      have ht := truth_any w false
      go_enter Tryd.func107, Tryd.ntmps107
      go_wp2_with ((with_reducible refine ht.mono ?_); rintro e w2 ⟨rfl, rfl⟩)
      go_ret
      exact ⟨by rw [HD.out]; rfl, rfl⟩
  · by_cases hq : a ≤ b
    · have HD : Hid (doO 8 a b = 1) := Lib.hid (by show (if a ≤ b then (1 : Int) else 0) = 1; rw [if_pos hq])
      show Calls Tryd.prog 108 _ _ _
      have ht := truth_any w true
      go_enter Tryd.func108, Tryd.ntmps108
      go_wp2_with ((with_reducible refine ht.mono ?_); rintro e w2 ⟨rfl, rfl⟩)
      go_ret
      exact ⟨by rw [HD.out]; rfl, rfl⟩
    · have HD : Hid (doO 8 a b = 0) := Lib.hid (by show (if a ≤ b then (1 : Int) else 0) = 0; rw [if_neg hq])
      show Calls Tryd.prog 108 _ _ _
      have ht := truth_any w false
      go_enter Tryd.func108, Tryd.ntmps108
      go_wp2_with ((with_reducible refine ht.mono ?_); rintro e w2 ⟨rfl, rfl⟩)
      go_ret
      exact ⟨by rw [HD.out]; rfl, rfl⟩
  · have HD : Hid (doO 9 a b = 1 - a) := Lib.hid rfl
    show Calls Tryd.prog 109 _ _ _
    go_enter Tryd.func109, Tryd.ntmps109
    go_wp2
    go_ret
    exact ⟨by rw [HD.out]; first | rfl | (congr 2; first | rfl | omega), rfl⟩
  · have HD : Hid (doO 10 a b = a * b) := Lib.hid rfl
    have hw : IntKind.i64.wrap (a * b) = a * b := by rw [IntKind.wrap_i64]; omega
    show Calls Tryd.prog 110 _ _ _
    go_enter Tryd.func110, Tryd.ntmps110
    go_wp2
    go_ret
    exact ⟨by rw [HD.out]; first | rfl | (congr 2; first | rfl | omega), rfl⟩
  · show Calls Tryd.prog 111 _ _ _
    by_cases hq : a < b
    · have HD : Hid (doO 11 a b = b) := Lib.hid (by show (if a < b then b else a) = b; rw [if_pos hq])
      go_enter Tryd.func111, Tryd.ntmps111
      go_wp2
      go_ret
      exact ⟨by rw [HD.out]; first | rfl | (congr 2; first | rfl | omega), rfl⟩
    · have HD : Hid (doO 11 a b = a) := Lib.hid (by show (if a < b then b else a) = a; rw [if_neg hq])
      go_enter Tryd.func111, Tryd.ntmps111
      go_wp2
      go_ret
      exact ⟨by rw [HD.out]; first | rfl | (congr 2; first | rfl | omega), rfl⟩
end Go.Proofs.YtggffdkgfgdaoaaDoor

namespace Go.Proofs.YtggffdkgfgdaoaaDoor
open Go.RowKit
set_option linter.unusedVariables false
set_option linter.unusedSimpArgs false
attribute [local go_sem] Oper.quietV quietV Oper.gives givesV ext_refl_iff ext_alloc_iff ext_drew_iff ext_drewN_iff
/-- The table of operations. -/
def OpsTab (w : World) : Prop := ∀ k, k < 12 → w.cell? ⟨0, k * 7 + 1, none⟩ = some (.int .i64 (subsN k)) ∧ w.cell? ⟨0, k * 7 + 5, none⟩ = some (.bool (numsO k)) ∧ (2 ≤ k → w.cell? ⟨0, k * 7 + 6, none⟩ = some (.func (.func (fnO k)) #[] #[]))
theorem OpsTab.ext {w w' : World} (h : OpsTab w) (e : Ext w w') : OpsTab w' := fun k hk => ⟨e.cell (h k hk).1, e.cell (h k hk).2.1, fun h2 => e.cell ((h k hk).2.2 h2)⟩
def evR (vals : List Int) (t : Tr) : Int × Bool := match evT vals t with | some r => (r, true) | none => (0, false)
def Small (n : Int) : Prop := -2147483648 ≤ n ∧ n ≤ 2147483648
theorem evR_small {vals : List Int} (hv : ∀ x ∈ vals, Small x) {t : Tr} (hs : shapT vals.length t = true) : Small (evR vals t).1 := by
  cases t with
  | mk op n ts =>
    have ho : ownOk vals.length op n ts.length = true := by
      unfold shapT at hs
      rw [Bool.and_eq_true] at hs; exact hs.1
    unfold ownOk at ho
    simp only [Bool.and_eq_true, decide_eq_true_eq] at ho
    obtain ⟨_, _, h0, hm⟩ := ho
    unfold evR evT
    by_cases h1 : op = 0
    · subst h1
      simp only [↓reduceIte]
      unfold mostN at hm
      simp at hm
      exact ⟨by omega, hm⟩
    · rw [if_neg h1]
      by_cases h2 : op = 1
      · subst h2
        simp only [↓reduceIte]
        unfold mostN at hm
        simp at hm
        have hl : n.toNat < vals.length := by omega
        rw [List.getD_eq_getElem?_getD, List.getElem?_eq_getElem hl]
        exact hv _ (List.getElem_mem hl)
      · rw [if_neg h2]
        cases evTs vals ts with
        | none =>
          show Small 0
          exact ⟨by decide, by decide⟩
        | some l =>
          show Small (match (if fitsV (doO op (l.getD 0 0) (l.getD 1 0)) = true then some (doO op (l.getD 0 0) (l.getD 1 0)) else none) with | some r => (r, true) | none => ((0 : Int), false)).1
          by_cases hf : fitsV (doO op (l.getD 0 0) (l.getD 1 0)) = true
          · rw [if_pos hf]
            show Small (doO op (l.getD 0 0) (l.getD 1 0))
            unfold fitsV at hf
            have h9 := of_decide_eq_true hf
            exact h9
          · rw [if_neg hf]
            show Small 0
            exact ⟨by decide, by decide⟩
def valT (vals : List Int) (ts : List Tr) (j i : Nat) : Int := if j < i then (evR vals (ts.getD j (.mk 0 0 []))).1 else 0
def fineT (vals : List Int) (ts : List Tr) (i : Nat) : Bool := (ts.take i).all (fun t => (evR vals t).2)
theorem fineT_step {vals : List Int} {ts : List Tr} {i : Nat} {s : Tr} (h : ts[i]? = some s) : fineT vals ts (i + 1) = (fineT vals ts i && (evR vals s).2) := by
  unfold fineT
  rw [List.take_add_one, h, List.all_append]; simp
theorem evR_some {vals : List Int} {t : Tr} {r : Int} (h : evT vals t = some r) : evR vals t = (r, true) := by unfold evR; rw [h]
theorem evR_none {vals : List Int} {t : Tr} (h : evT vals t = none) : evR vals t = (0, false) := by unfold evR; rw [h]
theorem evTs_fine (vals : List Int) : ∀ ts : List Tr, evTs vals ts = if ts.all (fun t => (evR vals t).2) then some (ts.map (fun t => (evR vals t).1)) else none
  | [] => by simp [evTs]
  | t :: l => by
    rw [evTs, evTs_fine vals l]
    cases h : evT vals t with
    | none => simp only [List.all_cons, evR_none h, Bool.false_and]; rfl
    | some a =>
      simp only [List.all_cons, List.map_cons, evR_some h, Bool.true_and]
      cases l.all (fun t => (evR vals t).2) <;> rfl
theorem evR_op {vals : List Int} {op : Nat} {n : Int} {ts : List Tr} (h2 : 2 ≤ op) (hl : ts.length ≤ 2) : evR vals (.mk op n ts) = if fineT vals ts ts.length && fitsV (doO op (valT vals ts 0 ts.length) (valT vals ts 1 ts.length)) then (doO op (valT vals ts 0 ts.length) (valT vals ts 1 ts.length), true) else (0, false) := by
  have hv : ∀ j, (ts.map (fun t => (evR vals t).1)).getD j 0 = valT vals ts j ts.length := fun j => by
    unfold valT
    by_cases hj : j < ts.length
    · rw [if_pos hj, List.getD_eq_getElem?_getD, List.getElem?_map, List.getElem?_eq_getElem hj, List.getD_eq_getElem?_getD, List.getElem?_eq_getElem hj]; rfl
    · rw [if_neg hj, List.getD_eq_getElem?_getD, List.getElem?_map, List.getElem?_eq_none (by omega)]; rfl
  have hf : fineT vals ts ts.length = ts.all (fun t => (evR vals t).2) := by unfold fineT; rw [List.take_length]
  conv => lhs; unfold evR evT
  rw [if_neg (by omega), if_neg (by omega), evTs_fine, ← hf]
  cases fineT vals ts ts.length with
  | false => rfl
  | true =>
    simp only [↓reduceIte, Bool.true_and, hv]
    by_cases hq : fitsV (doO op (valT vals ts 0 ts.length) (valT vals ts 1 ts.length)) = true
    · rw [if_pos hq, if_pos hq]
    · rw [if_neg hq, if_neg hq]
theorem shap_sub {vars : Nat} : ∀ {ts : List Tr} {i : Nat} {s : Tr}, shapTs vars ts = true → ts[i]? = some s → shapT vars s = true
  | [], i, s, _, h => by simp at h
  | t :: l, 0, s, h, hi => by
    simp at hi; subst hi
    unfold shapTs at h
    rw [Bool.and_eq_true] at h; exact h.1
  | t :: l, i + 1, s, h, hi => by
    unfold shapTs at h
    rw [Bool.and_eq_true] at h
    exact shap_sub h.2 (by simpa using hi)
theorem own_of {vars : Nat} {t : Tr} (h : shapT vars t = true) : t.op < 12 ∧ (t.subs.length : Int) = subsN t.op ∧ 0 ≤ t.n ∧ t.n ≤ mostN t.op vars ∧ shapTs vars t.subs = true := by
  rw [shapT_eq, Bool.and_eq_true] at h
  obtain ⟨h1, h2⟩ := h
  unfold ownOk at h1
  simp only [Bool.and_eq_true, decide_eq_true_eq] at h1
  exact ⟨h1.1, h1.2.1, h1.2.2.1, h1.2.2.2, h2⟩
def EvalP (w : World) (r : Int × Bool) (e : Ending) (w' : World) : Prop := e = .returned (.tuple #[.int .i64 r.1, .bool r.2]) ∧ Ext w w'
def EvalS (vals : List Int) (k : Nat) : Prop := ∀ (t : Tr) (w : World) (v vv : Value) (c : Nat), SizeOf.sizeOf t ≤ k → NodeV w t v → IntsC w vv vals c → OpsTab w → shapT vals.length t = true → Calls Tryd.prog 72 #[v, vv] w (EvalP w (evR vals t))
theorem valT_step {vals : List Int} {ts : List Tr} {i : Nat} {s : Tr} (h : ts[i]? = some s) (j : Nat) : valT vals ts j (i + 1) = if j = i then (evR vals s).1 else valT vals ts j i := by
  unfold valT
  by_cases hj : j = i
  · subst hj
    rw [if_pos (by omega), if_pos rfl, List.getD_eq_getElem?_getD, h]; rfl
  · rw [if_neg hj]
    by_cases hlt : j < i
    · rw [if_pos hlt, if_pos (by omega)]
    · rw [if_neg hlt, if_neg (by omega)]
theorem valT_small {vals : List Int} (hv : ∀ x ∈ vals, Small x) {ts : List Tr} (hs : shapTs vals.length ts = true) (j i : Nat) (hi : i ≤ ts.length) : Small (valT vals ts j i) := by
  unfold valT
  by_cases hj : j < i
  · rw [if_pos hj, List.getD_eq_getElem?_getD, List.getElem?_eq_getElem (by omega)]
    exact evR_small hv (shap_sub hs (List.getElem?_eq_getElem (by omega)))
  · rw [if_neg hj]
    exact ⟨by decide, by decide⟩
theorem call_fn (w : World) (op : Nat) (h2 : 2 ≤ op) (h11 : op ≤ 11) (args : Array Value) : (callFunc (fnO op) args).run Tryd.prog w = .ok (.enter (fnO op) args) w := by
  rcases (by omega : op = 2 ∨ op = 3 ∨ op = 4 ∨ op = 5 ∨ op = 6 ∨ op = 7 ∨ op = 8 ∨ op = 9 ∨ op = 10 ∨ op = 11) with rfl | rfl | rfl | rfl | rfl | rfl | rfl | rfl | rfl | rfl
  all_goals rfl
set_option maxRecDepth 100000 in
set_option maxHeartbeats 16000000 in
theorem eval_step (vals : List Int) (hv : ∀ x ∈ vals, Small x) (k : Nat) (IH : EvalS vals k) : EvalS vals (k + 1) := by
  intro t w v vv c hk hN hvv hT hs
  obtain ⟨hop, A, cs, vs, rfl, hvl, hcs, hsub, hnc, hnm⟩ := hN.form
  obtain ⟨Av, rfl, hvc, hvn, hvm⟩ := id hvv
  obtain ⟨o1, o2, o3, o4, o5⟩ := own_of hs
  unfold lenMax at hnm hvm
  have HX := Lib.hid (And.intro hsub (And.intro hvv (And.intro hT (And.intro hcs (And.intro o5 (And.intro hvc (And.intro hvl IH)))))))
  have hsz : ∀ s ∈ t.subs, SizeOf.sizeOf s ≤ k := fun s h => by have := Tr.sub_lt h; omega
  have HSZ := Lib.hid hsz
  have ht := Tr.eta t
  obtain ⟨r, hr⟩ : ∃ r, r = evR vals t := ⟨_, rfl⟩
  rw [← hr]
  have HR := Lib.hid hr
  have HTE := Lib.hid ht
  generalize t.op = op at *
  generalize t.n = n at *
  generalize t.subs = ts at *
  clear hk hN hvv hT hs hsub hcs o5 hvc hvl IH hsz ht hr
  go_enter Tryd.func72, Tryd.ntmps72
  go_upto_region 1 with fail
  refine wp_named ?_
  intro W1 hW1
  have hE1 : Ext w W1 := by rw [hW1]; first | exact (Ext.refl _).alloc _ | exact ((Ext.refl _).alloc _).drew
  have k0 : ∀ w', Ext W1 w' → w'.cell? ⟨w.heap.size, 0, none⟩ = some (.int .u8 (op : Int)) := fun w' h => h.cell (by rw [hW1]; simp [go_sem])
  have k1 : ∀ w', Ext W1 w' → w'.cell? ⟨w.heap.size, 1, none⟩ = some (.int .i64 n) := fun w' h => h.cell (by rw [hW1]; simp [go_sem])
  have k2 : ∀ w', Ext W1 w' → w'.cell? ⟨w.heap.size, 2, none⟩ = some (.slice A ts.length cs) := fun w' h => h.cell (by rw [hW1]; simp [go_sem])
  clear hW1
  generalize w.heap.size = b2 at *
  have hE0 := Ext.refl W1
  have HE1 := Lib.hid hE1
  by_cases hz : op = 0
  · have HV : Hid (r = (n, true)) := Lib.hid (by rw [HR.out, HTE.out, hz]; rfl)
    have g0 : ((op : Int) == 0) = true := by rw [hz]; rfl
    clear hz hop o1 o2 o4 hE1
    go_wp2
    refine bodyPost_ret (results_tmp2 rfl _ _ _) rfl ?_
    rw [HV.out]
    exact ⟨rfl, by first | exact HE1.out | exact HE1.out.drew⟩
  have g0 : ((op : Int) == 0) = false := beq_eq_false_iff_ne.2 (by omega)
  by_cases hy : op = 1
  · have hn1 : n ≤ (vals.length : Int) - 1 := by have := o4; rw [hy] at this; unfold mostN at this; simpa using this
    have hlt : n.toNat < vals.length := by omega
    obtain ⟨z, hzz⟩ : ∃ z, vals[n.toNat]? = some z := ⟨_, List.getElem?_eq_getElem hlt⟩
    have HV : Hid (r = (z, true)) := Lib.hid (by rw [HR.out, HTE.out, hy]; show ((vals.getD n.toNat 0), true) = _; rw [List.getD_eq_getElem?_getD, hzz]; rfl)
    obtain ⟨m, rfl⟩ : ∃ m : Nat, n = (m : Int) := ⟨n.toNat, by omega⟩
    rw [Int.toNat_natCast] at hzz hlt
    obtain ⟨bv, ov, hA, _, hcv⟩ := (HX.out.2.2.2.2.2.1.ext hE1).at_int hlt
    have hmI : (m : Int) < (vals.length : Int) := by omega
    subst hA
    have hzv : vals[m] = z := by have := List.getElem?_eq_getElem hlt; rw [this] at hzz; exact Option.some.inj hzz
    rw [hzv] at hcv
    have hcw := fun w' (h : Ext W1 w') => h.cell hcv
    clear hcv
    have g1 : ((op : Int) == 1) = true := by rw [hy]; rfl
    clear hz hy hop o1 o2 o3 o4 hE1 hzz hzv hn1
    go_wp2
    refine bodyPost_ret (results_tmp2 rfl _ _ _) rfl ?_
    rw [HV.out]
    exact ⟨rfl, by first | exact HE1.out | exact HE1.out.drew⟩
  have g1 : ((op : Int) == 1) = false := beq_eq_false_iff_ne.2 (by omega)
  have h2 : 2 ≤ op := by omega
  have hl2 : ts.length = 1 ∨ ts.length = 2 := by
    have := o2
    unfold subsN at this
    rw [if_neg (by omega)] at this
    split at this <;> omega
  have HV := Lib.hid (evR_op (vals := vals) (op := op) (n := n) (ts := ts) h2 (by omega))
  have HO := Lib.hid (And.intro h2 (And.intro o1 hl2))
  clear hz hy hop o2 o3 o4 hE1
  go_upto_region 8 with fail
  have hO := (OwnL.nil (Ext.refl W1)).add (alloc_ext W1 (.cells #[.int .i64 0, .int .i64 0] 141)) (A := .blk W1.heap.size (.cells #[.int .i64 0, .int .i64 0] 141)) ⟨Nat.le_refl _, heap_alloc_new W1 _⟩
  have HOO := Lib.hid hO
  have HK := Lib.hid (And.intro k0 k2)
  have HXW := Lib.hid (HX.out.2.2.1.ext HE1.out)
  generalize W1.heap.size = b6 at *
  clear hO k0 k1
  go_wp2
  go_loopw [29, 7] (fun iv fv wr => ∃ i : Nat, iv = .int .i64 i ∧ i ≤ ts.length ∧ Hid (fv = .bool (fineT vals ts i)) ∧ Hid (OwnL W1 wr [.blk b6 (.cells #[.int .i64 (valT vals ts 0 i), .int .i64 (valT vals ts 1 i)] 141)])) (fun iv _ _ => ts.length - (intOf iv).toNat)
  case atStart => exact ⟨0, by first | rfl | simp, Nat.zero_le _, Lib.hid (by first | rfl | simp [fineT]), Lib.hid (by first | exact HOO.out | exact HOO.out.trans (drew_ext _))⟩
  case round =>
    clear k2 HOO
    obtain ⟨i, rfl, hi, HF, HW⟩ := hrel
    obtain ⟨W5, hW5⟩ : ∃ W, W = wr := ⟨_, rfl⟩; subst hW5
    have hwE := HE1.out.trans HW.out.ext
    have k0 := fun w' (h : Ext W5 w') => HK.out.1 w' (HW.out.ext.trans h)
    have hE5 := Ext.refl W5
    by_cases hlt : i < ts.length
    · have hlI : (i : Int) < (ts.length : Int) := by omega
      have hl2 := HO.out.2.2
      have hi2 : i = 0 ∨ i = 1 := by omega
      have HI2 := Lib.hid hi2
      have hi2I : (i : Int) < 2 := by omega
      obtain ⟨s, hsi⟩ : ∃ s, ts[i]? = some s := ⟨_, List.getElem?_eq_getElem hlt⟩
      obtain ⟨bs, os, p, m, q, hA, d0, d1, d2, hns⟩ := sub_at HX.out.2.2.2.2.2.2.1 HX.out.2.2.2.1 HX.out.1 hsi
      subst hA
      have d0 := fun w' (h : Ext W5 w') => (hwE.trans h).cell d0
      have d1 := fun w' (h : Ext W5 w') => (hwE.trans h).cell d1
      have d2 := fun w' (h : Ext W5 w') => (hwE.trans h).cell d2
      obtain ⟨_, A9, cs9, vs9, hq9, _⟩ := hns.form
      have hq : q = .slice A9 s.subs.length cs9 := by
        have h9 := congrArg (fun v => match v with | Value.agg cs => cs[2]? | _ => none) hq9
        simpa using h9
      have hcl := fun W' (e : Ext W5 W') => HX.out.2.2.2.2.2.2.2 s W' _ (.slice Av vals.length c) c (HSZ.out s (List.mem_of_getElem? hsi)) (hns.ext (hwE.trans e)) (HX.out.2.1.ext (hwE.trans e)) (HX.out.2.2.1.ext (hwE.trans e)) (shap_sub HX.out.2.2.2.2.1 hsi)
      subst hq
      have HST := Lib.hid (And.intro (fineT_step (vals := vals) hsi) (And.intro (valT_step (vals := vals) hsi 0) (valT_step (vals := vals) hsi 1)))
      clear hsi hns hq9
      obtain ⟨sr, hsr⟩ : ∃ sr, sr = evR vals s := ⟨_, rfl⟩
      rw [← hsr] at hcl HST
      obtain ⟨sn, sb⟩ := sr
      unfold EvalP at hcl
      clear hsr
      clear hwE hi2 hl2
      have hcl5 := hcl (W5.alloc (.cells #[.int .u8 (p : Int), .int .i64 m, .slice A9 s.subs.length cs9] 68)) (hE5.alloc _)
      cases hfi : fineT vals ts i with
      | true =>
        rw [hfi] at HF HST
        have hu7 := HF.out
        clear HF hfi
        subst hu7
        go_upto_region 12 with ((with_reducible refine hcl5.mono ?_); rintro e W8 ⟨rfl, e8⟩)
        have hO8 := HW.out.trans ((alloc_ext W5 _).trans e8)
        have hblk := (hO8.get 0 rfl).2
        have hc6 : W8.cell? ⟨b6, i, none⟩ = some (.int .i64 (if i = 0 then valT vals ts 0 i else valT vals ts 1 i)) := by
          rcases HI2.out with h | h
          · subst h; exact cell_of_blk hblk 0 rfl
          · subst h; exact cell_of_blk hblk 1 rfl
        have hf6 := free_of_blk hblk i
        have hO9 := hO8.put 0 rfl i (.int .i64 sn)
        have hO10 : OwnL W1 (W8.setCell ⟨b6, i, none⟩ (.int .i64 sn)) [.blk b6 (.cells #[.int .i64 (valT vals ts 0 (i + 1)), .int .i64 (valT vals ts 1 (i + 1))] 141)] := by
          rw [HST.out.2.1, HST.out.2.2]
          rcases HI2.out with h | h
          · subst h; exact hO9
          · subst h; exact hO9
        have HO10 := Lib.hid hO10
        clear hO10 hO9 hblk hO8 e8
        go_wp2
        go_roundw
        case rel => exact ⟨i + 1, by go_num, hlt, Lib.hid (by rw [HST.out.1]; rfl), HO10⟩
        case measure => simp [intOf]; omega
      | false =>
        rw [hfi] at HF HST
        have hu7 := HF.out
        clear HF hfi
        subst hu7
        go_upto_region 12 with ((with_reducible refine hcl5.mono ?_); rintro e W8 ⟨rfl, e8⟩)
        have hO8 := HW.out.trans ((alloc_ext W5 _).trans e8)
        have hblk := (hO8.get 0 rfl).2
        have hc6 : W8.cell? ⟨b6, i, none⟩ = some (.int .i64 (if i = 0 then valT vals ts 0 i else valT vals ts 1 i)) := by
          rcases HI2.out with h | h
          · subst h; exact cell_of_blk hblk 0 rfl
          · subst h; exact cell_of_blk hblk 1 rfl
        have hf6 := free_of_blk hblk i
        have hO9 := hO8.put 0 rfl i (.int .i64 sn)
        have hO10 : OwnL W1 (W8.setCell ⟨b6, i, none⟩ (.int .i64 sn)) [.blk b6 (.cells #[.int .i64 (valT vals ts 0 (i + 1)), .int .i64 (valT vals ts 1 (i + 1))] 141)] := by
          rw [HST.out.2.1, HST.out.2.2]
          rcases HI2.out with h | h
          · subst h; exact hO9
          · subst h; exact hO9
        have HO10 := Lib.hid hO10
        clear hO10 hO9 hblk hO8 e8
        go_wp2
        go_roundw
        case rel => exact ⟨i + 1, by go_num, hlt, Lib.hid (by rw [HST.out.1]; rfl), HO10⟩
        case measure => simp [intOf]; omega
    · have hie : i = ts.length := by omega
      subst hie
      have hsA := valT_small hv HX.out.2.2.2.2.1 0 ts.length (Nat.le_refl _)
      have hsB := valT_small hv HX.out.2.2.2.2.1 1 ts.length (Nat.le_refl _)
      have HV2 : Hid (r = if fineT vals ts ts.length && fitsV (doO op (valT vals ts 0 ts.length) (valT vals ts 1 ts.length)) then (doO op (valT vals ts 0 ts.length) (valT vals ts 1 ts.length), true) else (0, false)) := Lib.hid (by rw [HR.out, HTE.out]; exact HV.out)
      have hblk := (HW.out.get 0 rfl).2
      have hwE1 := HW.out.ext
      clear HW HV
      generalize valT vals ts 0 ts.length = a at *
      generalize valT vals ts 1 ts.length = b at *
      have c0 := fun w' (h : Ext W5 w') => h.cell (cell_of_blk hblk 0 (u := .int .i64 a) rfl)
      have c1 := fun w' (h : Ext W5 w') => h.cell (cell_of_blk hblk 1 (u := .int .i64 b) rfl)
      have c6 := fun w' (h : Ext W5 w') => (hwE1.trans h).cell ((HXW.out op HO.out.2.1).2.2 HO.out.1)
      have hdo := fun W' (e : Ext W5 W') => do_any W' op HO.out.1 (by have := HO.out.2.1; omega) a b hsA hsB
      have o1I : (op : Int) < 12 := by have := HO.out.2.1; omega
      have HWE := Lib.hid hwE
      have hlt2 : ¬ (ts.length : Int) < (ts.length : Int) := by omega
      clear hblk hsA hsB hwE1 hwE
      go_upto_region 14 with fail
      refine wp_region_ext 9 (factsOf []) (fun k => ([[], [0], [0, 1], [0, 1, 2], [0, 1, 2, 3], [], [5], [], [7], [0, 1, 2, 3, 4, 5, 6, 7, 8], [0, 1, 2, 3, 4, 5, 6, 7, 8, 9]] : List (List Nat)).getD k []) (by kernel_rfl) (by kernel_rfl) Ext.pre (mono_nil) ?_
      simp only [List.take_succ_cons, List.take_zero]
      repeat (first | (with_reducible refine lexL_quiet' (v := ?_) ?_ ?_ ?_ ?_; rotate_left; (· with_reducible rfl); (· simp [factsOf]); (· intro w1 hw1 _; go_simp; with_reducible rfl); (try simp only [Act.put, List.setIfInBounds_toArray, List.set_cons_zero, List.set_cons_succ])) | (with_reducible refine lexL_skip ?_ ?_; (· simp [Region.wanted, yielded, undef]); (try simp only [Act.put, List.setIfInBounds_toArray, List.set_cons_zero, List.set_cons_succ])) | (with_reducible refine lexL_quiet (v := ?_) ?_ ?_ ?_ ?_; rotate_left; (· simp [Region.wanted, yielded, undef]); (· simp [factsOf]); (· intro w1 hw1 _; go_simp; with_reducible rfl); (try simp only [Act.put, List.setIfInBounds_toArray, List.set_cons_zero, List.set_cons_succ])))
      with_reducible refine lexL_nil ?_; intro w1 hw1 hk1; simp only [List.drop_succ_cons, List.drop_zero]
      have hdo1 := hdo w1 hw1
      have hcf := call_fn w1 op HO.out.1 (by have := HO.out.2.1; omega) #[.int .i64 a, .int .i64 b]
      have H1 := Lib.hid (HWE.out.trans hw1)
      obtain ⟨z, hz⟩ : ∃ z, z = doO op a b := ⟨_, rfl⟩
      rw [← hz] at hdo1 HV2
      obtain ⟨fz, hfz⟩ : ∃ fz, fz = fineT vals ts ts.length := ⟨_, rfl⟩
      rw [← hfz] at HF HV2
      have hu7 := HF.out
      clear HF hk1 hw1 hdo HWE hz hfz c0 c1 c6 hE5
      subst hu7
      go_upto_region 15 with ((with_reducible refine hdo1.mono ?_); rintro e W8 ⟨rfl, rfl⟩)
      clear hcf
      cases fz with
      | false =>
        have HV3 : Hid (r = (0, false)) := Lib.hid (by rw [HV2.out]; rfl)
        clear HV2
        go_wp2
        refine bodyPost_ret (results_tmp2 rfl _ _ _) rfl ?_
        rw [HV3.out]
        exact ⟨rfl, H1.out⟩
      | true =>
        by_cases hz1 : z < -2147483648
        · have HV3 : Hid (r = (0, false)) := Lib.hid (by rw [HV2.out, show fitsV z = false from decide_eq_false (by omega)]; rfl)
          clear HV2
          go_wp2
          refine bodyPost_ret (results_tmp2 rfl _ _ _) rfl ?_
          rw [HV3.out]
          exact ⟨rfl, H1.out⟩
        · by_cases hz2 : 2147483648 < z
          · have HV3 : Hid (r = (0, false)) := Lib.hid (by rw [HV2.out, show fitsV z = false from decide_eq_false (by omega)]; rfl)
            clear HV2
            go_wp2
            refine bodyPost_ret (results_tmp2 rfl _ _ _) rfl ?_
            rw [HV3.out]
            exact ⟨rfl, H1.out⟩
          · have HV3 : Hid (r = (z, true)) := Lib.hid (by rw [HV2.out, show fitsV z = true from decide_eq_true (by omega)]; rfl)
            clear HV2
            go_wp2
            refine bodyPost_ret (results_tmp2 rfl _ _ _) rfl ?_
            rw [HV3.out]
            exact ⟨rfl, H1.out⟩
/-- **eval gives the value.** -/
theorem eval_any (vals : List Int) (hv : ∀ x ∈ vals, Small x) : ∀ k, EvalS vals k
  | 0 => fun t w v vv c hk => by cases t; simp at hk
  | k + 1 => eval_step vals hv k (eval_any vals hv k)
theorem eval_of {vals : List Int} (hv : ∀ x ∈ vals, Small x) {t : Tr} {w : World} {v vv : Value} {c : Nat} (hN : NodeV w t v) (hi : IntsC w vv vals c) (hT : OpsTab w) (hs : shapT vals.length t = true) : Calls Tryd.prog 72 #[v, vv] w (EvalP w (evR vals t)) :=
  eval_any vals hv _ t w v vv c (Nat.le_refl _) hN hi hT hs
end Go.Proofs.YtggffdkgfgdaoaaDoor

namespace Go.Proofs.YtggffdkgfgdaoaaDoor
open Go.RowKit
set_option linter.unusedVariables false
set_option linter.unusedSimpArgs false
attribute [local go_sem] Oper.quietV quietV Oper.gives givesV ext_refl_iff ext_alloc_iff ext_drew_iff ext_drewN_iff
theorem cntT_pos (t : Tr) : 1 ≤ cntT t := by rw [cntT_eq]; omega
theorem cnt_take : ∀ (ts : List Tr) (i : Nat) (s : Tr), ts[i]? = some s → cntTs (ts.take (i + 1)) = cntTs (ts.take i) + cntT s
  | [], i, s, h => by simp at h
  | t :: l, 0, s, h => by simp at h; subst h; simp [cntTs]
  | t :: l, i + 1, s, h => by
    have := cnt_take l i s (by simpa using h)
    simp only [List.take_succ_cons, cntTs, this]; omega
theorem cnt_le : ∀ (ts : List Tr) (i : Nat), cntTs (ts.take i) ≤ cntTs ts
  | [], i => by simp
  | t :: l, 0 => by simp [cntTs]
  | t :: l, i + 1 => by
    have := cnt_le l i
    simp only [List.take_succ_cons, cntTs]; omega
def SmallQ (w : World) (b : Nat) (L : Int) (n : Nat) (r : Bool) (e : Ending) (w' : World) : Prop := ∃ L' : Int, e = .returned (.bool r) ∧ w'.heap[b]? = some (.cells #[.int .i64 L'] 3 (0, 0)) ∧ w.grownBy w' (some b) ∧ ((n : Int) ≤ L → L' = L - n) ∧ (L < (n : Int) → L' < 0) ∧ -1 ≤ L' ∧ L' ≤ L
def SmallP (w : World) (b : Nat) (L : Int) (n : Nat) : Ending → World → Prop := SmallQ w b L n (decide ((n : Int) ≤ L))
def SmallS (k : Nat) : Prop := ∀ (t : Tr) (W0 w : World) (v : Value) (b : Nat) (L : Int), SizeOf.sizeOf t ≤ k → NodeV W0 t v → Ext W0 w → W0.heap.size ≤ b → w.heap[b]? = some (.cells #[.int .i64 L] 3 (0, 0)) → 0 ≤ L → L ≤ 1000 → Calls Tryd.prog 79 #[v, .pointer (some ⟨b, 0, none⟩)] w (SmallP w b L (cntT t))
theorem grown_trans {a b c : World} {r : Option Nat} (h : a.grownBy b r) (k : b.grownBy c r) : a.grownBy c r := ⟨k.os.trans h.os, k.tape.trans h.tape, k.output.trans h.output, Nat.le_trans h.size k.size, fun i hi hr => (k.block i (Nat.lt_of_lt_of_le hi h.size) hr).trans (h.block i hi hr)⟩
theorem grown_of_ext {a b : World} (e : Ext a b) (r : Option Nat) : a.grownBy b r := ⟨e.os, e.tape, e.output, e.size, fun k hk _ => e.block k hk⟩
theorem grown_set (w : World) (b : Nat) (v : Value) : w.grownBy (w.setCell ⟨b, 0, none⟩ v) (some b) := ⟨rfl, rfl, rfl, by simp [World.setCell], fun k hk hr => heap_setCell_other w ⟨b, 0, none⟩ k v (fun e => hr (by rw [e]))⟩
set_option maxRecDepth 100000 in
set_option maxHeartbeats 16000000 in
theorem small_step (k : Nat) (IH : SmallS k) : SmallS (k + 1) := by
  intro t W0 w v b L hk hN hE hb hc hL0 hL1
  obtain ⟨hop, A, cs, vs, rfl, hvl, hcs, hsub, hnc, hnm⟩ := hN.form
  unfold lenMax at hnm
  have hsz : ∀ s ∈ t.subs, SizeOf.sizeOf s ≤ k := fun s h => by have := Tr.sub_lt h; omega
  have HX := Lib.hid (And.intro hsub (And.intro hcs (And.intro hvl (And.intro IH (And.intro hsz (And.intro hE hb))))))
  have HC : Hid (cntT t = cntTs t.subs + 1) := Lib.hid (cntT_eq t)
  obtain ⟨n, hn⟩ : ∃ n, n = cntT t := ⟨_, rfl⟩
  rw [← hn] at HC ⊢
  obtain ⟨rb, hrb⟩ : ∃ rb : Bool, rb = decide ((n : Int) ≤ L) := ⟨_, rfl⟩
  have HRB : Hid (rb = decide ((n : Int) ≤ L)) := Lib.hid hrb
  unfold SmallP
  rw [← hrb]
  clear hrb
  generalize t.op = op at *
  generalize t.n = tn at *
  generalize t.subs = ts at *
  clear hk hN hE hb hsub hcs hvl IH hsz hn
  have hlt := lt_of_block hc
  have hca : ∀ o, (w.alloc o).cell? ⟨b, 0, none⟩ = some (.int .i64 L) := fun o => (alloc_ext w o).cell (cell_of_blk hc 0 rfl)
  have hfa : ∀ o, (w.alloc o).frozen? ⟨b, 0, none⟩ = false := fun o => free_of_blk (heap_ext (alloc_ext w o) hc) 0
  have hba : ∀ o, (w.alloc o).heap[b]? = some (.cells #[.int .i64 L] 3 (0, 0)) := fun o => heap_ext (alloc_ext w o) hc
  go_enter Tryd.func79, Tryd.ntmps79
  go_upto_region 2 with fail
  refine wp_named ?_
  intro W3 hW3
  have hG3 : w.grownBy W3 (some b) := by rw [hW3]; exact grown_trans (grown_set w b _) (grown_of_ext (alloc_ext _ _) (some b))
  have hB3 : W3.heap[b]? = some (.cells #[.int .i64 (L - 1)] 3 (0, 0)) := by rw [hW3]; exact heap_ext (alloc_ext _ _) (heap_setCell_same w b 0 _ 3 _ hc)
  have hX3 : W3.heap[w.heap.size]? = some (.cells #[.int .u8 (op : Int), .int .i64 tn, .slice A ts.length cs] 68 (0, 0)) := by rw [hW3]; have := heap_alloc_new (w.setCell ⟨b, 0, none⟩ (.int .i64 (L - 1))) (.cells #[.int .u8 (op : Int), .int .i64 tn, .slice A ts.length cs] 68); simpa [World.setCell] using this
  have k2 := cell_of_blk hX3 2 (u := .slice A ts.length cs) rfl
  have HG := Lib.hid (And.intro hG3 hB3)
  clear hW3 hG3 hB3 hX3 hba hfa hca hlt hc
  generalize w.heap.size = b2 at *
  go_wp2
  clear k2
  go_loopw [15] (fun iv wr => ∃ (i : Nat) (M : Int), iv = .int .i64 i ∧ i ≤ ts.length ∧ Hid (M = L - 1 - (cntTs (ts.take i) : Int)) ∧ -1 ≤ M ∧ M ≤ 1000 ∧ Hid (w.grownBy wr (some b) ∧ wr.heap[b]? = some (.cells #[.int .i64 M] 3 (0, 0)))) (fun iv _ => ts.length - (intOf iv).toNat)
  case atStart => exact ⟨0, L - 1, by first | rfl | simp, Nat.zero_le _, Lib.hid (by simp [cntTs]), by omega, by omega, HG⟩
  case round =>
    clear HG
    obtain ⟨i, M, rfl, hi, HM, hM1, hM2, HB⟩ := hrel
    obtain ⟨W5, hW5⟩ : ∃ W, W = wr := ⟨_, rfl⟩; subst hW5
    have hE5 : Ext _ W5 := Below.grown HX.out.2.2.2.2.2.1 HB.out.1 HX.out.2.2.2.2.2.1.size (fun k hk => by cases hk; exact HX.out.2.2.2.2.2.2)
    have hR5 := Ext.refl W5
    by_cases hlt : i < ts.length
    · have hlI : (i : Int) < (ts.length : Int) := by omega
      obtain ⟨s, hsi⟩ : ∃ s, ts[i]? = some s := ⟨_, List.getElem?_eq_getElem hlt⟩
      obtain ⟨bs, os, p, m, q, hA, d0, d1, d2, hns⟩ := sub_at HX.out.2.2.1 HX.out.2.1 HX.out.1 hsi
      subst hA
      have d0 := fun w' (h : Ext W5 w') => (hE5.trans h).cell d0
      have d1 := fun w' (h : Ext W5 w') => (hE5.trans h).cell d1
      have d2 := fun w' (h : Ext W5 w') => (hE5.trans h).cell d2
      obtain ⟨_, A9, cs9, vs9, hq9, _⟩ := hns.form
      have hq : q = .slice A9 s.subs.length cs9 := by
        have h9 := congrArg (fun v => match v with | Value.agg cs => cs[2]? | _ => none) hq9
        simpa using h9
      subst hq
      have HCT := Lib.hid (And.intro (cnt_take ts i s hsi) (And.intro (cnt_le ts (i + 1)) (cntT_pos s)))
      have cM := fun w' (h : Ext W5 w') => h.cell (cell_of_blk HB.out.2 0 (u := .int .i64 M) rfl)
      by_cases hneg : M < 0
      · have HRF : Hid (rb = false ∧ L < (n : Int)) := Lib.hid (by
          have h1 := HM.out; have h2 := HC.out; have h3 := HCT.out.1; have h4 := HCT.out.2.1; have h5 := HCT.out.2.2
          have : L < (n : Int) := by omega
          exact ⟨by rw [HRB.out]; exact decide_eq_false (by omega), this⟩)
        have hge := HB.out.1
        clear hsi hns hq9 hE5
        go_wp2
        go_ret
        refine ⟨M, by rw [HRF.out.1]; rfl, ?_, ?_, fun h => absurd h (by have := HRF.out.2; omega), fun _ => hneg, hM1, by omega⟩
        · exact heap_ext (alloc_ext _ _) HB.out.2
        · exact grown_trans HB.out.1 (grown_of_ext (alloc_ext _ _) _)
      · have hpos : 0 ≤ M := by omega
        have hcl := HX.out.2.2.2.1 s W0 (W5.alloc (.cells #[.int .u8 (p : Int), .int .i64 m, .slice A9 s.subs.length cs9] 68)) _ b M (HX.out.2.2.2.2.1 s (List.mem_of_getElem? hsi)) hns (hE5.trans (alloc_ext W5 _)) HX.out.2.2.2.2.2.2 (heap_ext (alloc_ext W5 _) HB.out.2) hpos hM2
        unfold SmallP at hcl
        obtain ⟨r2, hr2⟩ : ∃ r : Bool, r = decide ((cntT s : Int) ≤ M) := ⟨_, rfl⟩
        have HR2 := Lib.hid hr2
        rw [← hr2] at hcl
        have HG5 := Lib.hid (And.intro HB.out.1 (alloc_ext W5 (.cells #[.int .u8 (p : Int), .int .i64 m, .slice A9 s.subs.length cs9] 68)))
        obtain ⟨ns, hns2⟩ : ∃ ns, ns = cntT s := ⟨_, rfl⟩
        have HNS := Lib.hid hns2
        rw [← hns2] at hcl
        clear hsi hns hq9 hr2 hns2 HB
        have HPB : Hid (w.heap.size ≤ w.heap.size) := Lib.hid (Nat.le_refl _)
        cases r2 with
        | false =>
          have HRF : Hid (rb = false ∧ L < (n : Int)) := Lib.hid (by
            have h1 := HM.out; have h2 := HC.out; have h3 := HCT.out.1; have h4 := HCT.out.2.1; have h5 := HNS.out
            have h6 := of_decide_eq_false HR2.out.symm
            have : L < (n : Int) := by omega
            exact ⟨by rw [HRB.out]; exact decide_eq_false (by omega), this⟩)
          go_upto_region 8 with ((with_reducible refine hcl.mono ?_); rintro e W8 ⟨L8, rfl, hb8, hg8, hl8, hl9, hl1, hl2⟩)
          have HR8 := Lib.hid (And.intro hb8 (And.intro (grown_trans (grown_trans HG5.out.1 (grown_of_ext HG5.out.2 _)) hg8) (And.intro (hl9 (by have h6 := of_decide_eq_false HR2.out.symm; have h5 := HNS.out; omega)) (And.intro hl1 hl2))))
          clear hl8 hl9 hg8 hb8 hl1
          go_wp2
          go_ret
          exact ⟨L8, by rw [HRF.out.1]; rfl, HR8.out.1, HR8.out.2.1, fun h => absurd h (by have := HRF.out.2; omega), fun _ => HR8.out.2.2.1, HR8.out.2.2.2.1, by have := HR8.out.2.2.2.2; have := HM.out; omega⟩
        | true =>
          go_upto_region 8 with ((with_reducible refine hcl.mono ?_); rintro e W8 ⟨L8, rfl, hb8, hg8, hl8, hl9, hl1, hl2⟩)
          have h6 := of_decide_eq_true HR2.out.symm
          have h1 := HM.out; have h3 := HCT.out.1; have h5 := HNS.out; have h9 := HCT.out.2.2
          refine ⟨⟨i + 1, L8, by go_num, hlt, Lib.hid (by have := hl8 (by omega); omega), hl1, by omega, Lib.hid ⟨grown_trans (grown_trans HG5.out.1 (grown_of_ext HG5.out.2 _)) hg8, hb8⟩⟩, ?_⟩
          simp [intOf]; omega
    · have hie : i = ts.length := by omega
      subst hie
      have hlt2 : ¬ (ts.length : Int) < (ts.length : Int) := by omega
      have HB2 := Lib.hid HB.out.1
      have cM := fun w' (h : Ext W5 w') => h.cell (cell_of_blk HB.out.2 0 (u := .int .i64 M) rfl)
      by_cases hneg : M < 0
      · have HRF : Hid (rb = false ∧ L < (n : Int)) := Lib.hid (by
          have h1 := HM.out; have h2 := HC.out
          rw [List.take_length] at h1
          have : L < (n : Int) := by omega
          exact ⟨by rw [HRB.out]; exact decide_eq_false (by omega), this⟩)
        go_wp2
        go_ret
        exact ⟨M, by rw [HRF.out.1]; exact congrArg (fun b => Ending.returned (.bool b)) (decide_eq_false (by omega)), HB.out.2, HB.out.1, fun h => absurd h (by have := HRF.out.2; omega), fun _ => hneg, hM1, by have := HM.out; omega⟩
      · have HRF : Hid (rb = true ∧ (n : Int) ≤ L ∧ M = L - n) := Lib.hid (by
          have h1 := HM.out; have h2 := HC.out
          rw [List.take_length] at h1
          have : (n : Int) ≤ L := by omega
          exact ⟨by rw [HRB.out]; exact decide_eq_true this, this, by omega⟩)
        go_wp2
        go_ret
        exact ⟨M, by rw [HRF.out.1]; first | rfl | exact congrArg (fun b => Ending.returned (.bool b)) (decide_eq_true (by omega)), HB.out.2, HB.out.1, fun _ => HRF.out.2.2, fun h => absurd HRF.out.2.1 (by omega), hM1, by have := HM.out; omega⟩
theorem small_any : ∀ k, SmallS k
  | 0 => fun t _ _ _ _ _ h => by cases t; simp at h
  | k + 1 => small_step k (small_any k)
theorem small_of {t : Tr} {W0 w : World} {v : Value} {b : Nat} {L : Int} (hN : NodeV W0 t v) (hE : Ext W0 w) (hb : W0.heap.size ≤ b) (hc : w.heap[b]? = some (.cells #[.int .i64 L] 3 (0, 0))) (h0 : 0 ≤ L) (h1 : L ≤ 1000) : Calls Tryd.prog 79 #[v, .pointer (some ⟨b, 0, none⟩)] w (SmallP w b L (cntT t)) := small_any _ t W0 w v b L (Nat.le_refl _) hN hE hb hc h0 h1
end Go.Proofs.YtggffdkgfgdaoaaDoor
