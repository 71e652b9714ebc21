/-         -/
import Derived.StillTail
import Derived.Deep.Quiet
import Derived.Below
import Derived.Test.YtmebgomnmlbgnaaDoorRows
import Derived.WalkKit
import Derived.WalkSpells
import Derived.WalkLawsBesides
import Derived.BigQuiet
import Derived.Deep.QuietTactic
import Derived.Deep.RegionHeld3
import Derived.Deep.DeepCutAuto
import Derived.Lib.Hide
import Derived.Deep.LoopGhost
import Derived.Maps.OwnSet
import Derived.Deep.MidRow
import Derived.DeepKeys4
set_option linter.unnecessarySimpa false
set_option linter.unusedSectionVars false
namespace Go.Proofs.YtmebgomnmlbgnaaDoor
open Go.RowKit
set_option linter.unusedVariables false
set_option linter.unusedSimpArgs false
def Ext (w w' : World) : Prop := Below w.heap.size w w'
theorem Ext.refl (w : World) : Ext w w := Below.refl _ _
theorem Ext.trans {a b c : World} (h : Ext a b) (k : Ext b c) : Ext a c := Below.trans h (Below.mono k h.size)
structure Pre (R : World → World → Prop) : Prop where
  refl : ∀ w, R w w
  trans : ∀ {a b c}, R a b → R b c → R a c
  drew : ∀ w, R w { w with drawn := w.drawn + 1 }
theorem Ext.pre : Pre Ext := ⟨Ext.refl, Ext.trans, fun _ => ⟨rfl, rfl, rfl, Nat.le_refl _, fun _ _ => rfl⟩⟩
abbrev Facts := Nat → Option (Value → World → Prop)
abbrev Vals := Nat → Option Value
def Vals.put (F : Vals) (i : Nat) (v : Value) : Vals := fun j => if j = i then some v else F j
section
variable {P : Program} {ops : Array Oper} {md : Region.Mode} {W0 : World} {Φ : Facts} {A : Nat → List Nat} {R : World → World → Prop}
def Knows (Φ : Facts) (F : Vals) (L : List Nat) (w : World) : Prop := ∀ i ∈ L, ∀ φ v, Φ i = some φ → F i = some v → φ v w
def KnowsAll (Φ : Facts) (F : Vals) (w : World) : Prop := ∀ i φ v, Φ i = some φ → F i = some v → φ v w
def Met (R : World → World → Prop) (W0 : World) (Φ : Facts) (F : Vals) : Prop := ∃ w, R W0 w ∧ KnowsAll Φ F w
def Mono (R : World → World → Prop) (Φ : Facts) : Prop := ∀ i φ, Φ i = some φ → ∀ v w w', R w w' → φ v w → φ v w'
theorem KnowsAll.ext (hM : Mono R Φ) {F : Vals} {w w' : World} (h : KnowsAll Φ F w) (e : R w w') : KnowsAll Φ F w' :=
  fun i φ v hi hv => hM i φ hi v w w' e (h i φ v hi hv)
theorem KnowsAll.knows {F : Vals} {w : World} (h : KnowsAll Φ F w) (L : List Nat) : Knows Φ F L w := fun i _ φ v hi hv => h i φ v hi hv
theorem KnowsAll.put {F : Vals} {w : World} (h : KnowsAll Φ F w) {i : Nat} {v : Value} (hv : ∀ φ, Φ i = some φ → φ v w) : KnowsAll Φ (F.put i v) w := by
  intro j φ u hj hu
  unfold Vals.put at hu
  split at hu
  · rename_i e; subst e; cases hu; exact hv φ hj
  · exact h j φ u hj hu
theorem KnowsAll.back {F : Vals} {w : World} {i : Nat} {v : Value} (h : KnowsAll Φ (F.put i v) w) (hF : F i = none) : KnowsAll Φ F w := by
  intro j φ u hj hu
  refine h j φ u hj ?_
  unfold Vals.put
  split
  · rename_i e; subst e; rw [hF] at hu; cases hu
  · exact hu
theorem Vals.put_comm (F : Vals) {i j : Nat} (h : i ≠ j) (u v : Value) : (F.put i u).put j v = (F.put j v).put i u := by
  funext k
  unfold Vals.put
  by_cases hi : k = i <;> by_cases hj : k = j <;> simp [hi, hj] <;> omega
theorem knows_put {F : Vals} {i : Nat} {v : Value} {L : List Nat} (hi : i ∉ L) (w : World) : Knows Φ (F.put i v) L w ↔ Knows Φ F L w := by
  have e : ∀ j ∈ L, (F.put i v) j = F j := fun j hj => by
    have hne : j ≠ i := fun e => by subst e; exact hi hj
    simp [Vals.put, hne]
  constructor
  · intro h j hj φ u hφ hu
    exact h j hj φ u hφ ((e j hj).trans hu)
  · intro h j hj φ u hφ hu
    exact h j hj φ u hφ ((e j hj).symm.trans hu)
def quietV (w : World) (v : Value) : Result Next → Prop
  | .ok (.value u) w' => w' = w ∧ u = v
  | .ok .skip w' => w' = w ∧ undef = v
  | _ => False
def Oper.quietV (P : Program) (o : Oper) (a : Act) (w : World) (v : Value) : Prop := YtmebgomnmlbgnaaDoor.quietV w v ((execOp a.eval o).run P w)
theorem Oper.quietV_one {o : Oper} {a : Act} {w : World} {u v : Value} (h : Oper.quietV P o a w u) (k : Oper.quietV P o a w v) : u = v := by
  unfold Oper.quietV at h k
  generalize (execOp a.eval o).run P w = r at h k
  cases r with
  | halt x w' => exact h.elim
  | ok n w' => cases n <;> simp only [YtmebgomnmlbgnaaDoor.quietV] at h k <;> first | exact h.2.symm.trans k.2 | exact h.elim
def Gave (R : World → World → Prop) (w : World) (φ : Value → World → Prop) (e : Ending) (w'' : World) : Prop := ∃ v, e = .returned v ∧ R w w'' ∧ φ v w''
def givesV (R : World → World → Prop) (P : Program) (w : World) (φ : Value → World → Prop) : Result Next → Prop
  | .ok (.value v) w' => R w w' ∧ φ v w'
  | .ok .skip w' => R w w' ∧ φ undef w'
  | .ok (.enter f args) w' => Calls P f args w' (Gave R w φ)
  | _ => False
def Oper.gives (R : World → World → Prop) (P : Program) (o : Oper) (a : Act) (w : World) (φ : Value → World → Prop) : Prop := givesV R P w φ ((execOp a.eval o).run P w)
theorem gives_some {o : Oper} {a : Act} {w : World} {φ : Value → World → Prop} (h : Oper.gives R P o a w φ) : ∃ v w', R w w' ∧ φ v w' := by
  unfold Oper.gives at h
  generalize (execOp a.eval o).run P w = r at h
  cases r with
  | halt x w' => exact h.elim
  | ok n w' =>
    cases n <;> simp only [givesV] at h
    case enter f args =>
      obtain ⟨e, w1, fr, ⟨v, _, h1, h2⟩, _⟩ := h []
      exact ⟨v, w1, h1, h2⟩
    all_goals first | exact ⟨_, _, h⟩ | exact h.elim
def opL (R : World → World → Prop) (P : Program) (ops : Array Oper) (W0 : World) (Φ : Facts) (A : Nat → List Nat) (i : Nat) (K : Vals → Act → Prop) (F : Vals) (a : Act) : Prop :=
  match ops[i]? with
  | none => K F a
  | some o =>
    if Region.wanted o (yielded ops a.tmps) then
      match Φ i with
      | none => ∃ v, (∀ w, R W0 w → Knows Φ F (A i) w → Oper.quietV P o a w v) ∧ K F (a.put o.dst v)
      | some φ => (∀ w, R W0 w → Knows Φ F (A i) w → Oper.gives R P o a w φ) ∧ ∀ v, Met R W0 Φ (F.put i v) → K (F.put i v) (a.put o.dst v)
    else K F (a.put o.dst undef)
theorem opL_mono {i : Nat} {K K' : Vals → Act → Prop} {F : Vals} {a : Act} (hm : Met R W0 Φ F) (h : ∀ F' a', Met R W0 Φ F' → (∀ k, k ≠ i → F' k = F k) → K F' a' → K' F' a') (hh : opL R P ops W0 Φ A i K F a) : opL R P ops W0 Φ A i K' F a := by
  unfold opL at *
  split
  · rename_i ho; simp only [ho] at hh; exact h _ _ hm (fun _ _ => rfl) hh
  · rename_i o ho
    simp only [ho] at hh
    split
    · rename_i hw
      simp only [hw, if_true] at hh
      split
      · rename_i hp
        simp only [hp] at hh
        obtain ⟨v, h1, h2⟩ := hh
        exact ⟨v, h1, h _ _ hm (fun _ _ => rfl) h2⟩
      · rename_i φ hp
        simp only [hp] at hh
        exact ⟨hh.1, fun v hv => h _ _ hv (fun k hk => by unfold Vals.put; rw [if_neg hk]) (hh.2 v hv)⟩
    · rename_i hw
      simp only [hw, if_false, Bool.false_eq_true] at hh
      exact h _ _ hm (fun _ _ => rfl) hh
def anyL (R : World → World → Prop) (P : Program) (md : Region.Mode) (ops : Array Oper) (W0 : World) (Φ : Facts) (A : Nat → List Nat) (n g : Nat) (Q : Vals → Act → Prop) : Nat → Array Bool → Vals → Act → Prop
  | 0, listed, F, a => Region.seqB md ops g n listed = true ∧ Q F a
  | fuel + 1, listed, F, a => Region.ready md ops listed ≠ [] ∧ ∀ i ∈ Region.ready md ops listed, opL R P ops W0 Φ A i (anyL R P md ops W0 Φ A n g Q fuel (listed.setIfInBounds i true)) F a
theorem wp_of_gives {o : Oper} {a : Act} {w : World} {φ : Value → World → Prop} {K : Act → World → Prop} {Q : Exit → Act → World → Prop} (h : Oper.gives R P o a w φ) (hK : ∀ v w', R w w' → φ v w' → K (a.put o.dst v) w') : o.wp P a w K Q := by
  unfold Oper.gives at h
  unfold Oper.wp
  generalize (execOp a.eval o).run P w = r at h
  cases r with
  | halt x w' => exact h.elim
  | ok n w' =>
    cases n <;> simp only [givesV] at h <;> simp only [Oper.upon]
    case enter f args =>
      refine h.mono fun e w1 hR => ?_
      obtain ⟨u, rfl, h1, h2⟩ := hR
      exact hK u w1 h1 h2
    all_goals first | exact h.elim | exact hK _ _ h.1 h.2
theorem wp_of_quietV {o : Oper} {a : Act} {w : World} {v : Value} {K : Act → World → Prop} {Q : Exit → Act → World → Prop} (h : Oper.quietV P o a w v) (hK : K (a.put o.dst v) w) : o.wp P a w K Q := by
  unfold Oper.quietV at h
  unfold Oper.wp
  generalize (execOp a.eval o).run P w = r at h
  cases r with
  | halt x w' => exact h.elim
  | ok n w' =>
    cases n <;> simp only [YtmebgomnmlbgnaaDoor.quietV] at h <;> simp only [Oper.upon]
    all_goals first | exact h.elim | (obtain ⟨rfl, rfl⟩ := h; exact hK)
theorem wpAny_of_anyL {n g : Nat} {Q : Vals → Act → Prop} {Q' : Exit → Act → World → Prop} (hT : Pre R) (hM : Mono R Φ) (hQ : ∀ listed F a w, R W0 w → KnowsAll Φ F w → Region.seqB md ops g n listed = true → Q F a → wpAny P md ops Q' g listed a w) :
    ∀ (fuel : Nat) (listed : Array Bool) (F : Vals) (a : Act) (w : World), R W0 w → KnowsAll Φ F w → anyL R P md ops W0 Φ A n g Q fuel listed F a → wpAny P md ops Q' (fuel + g) listed a w
  | 0, listed, F, a, w, hw, hk, h => by rw [Nat.zero_add]; exact hQ listed F a w hw hk h.1 h.2
  | fuel + 1, listed, F, a, w, hw, hk, h => by
    rw [Nat.add_right_comm]
    refine ⟨fun h0 => absurd h0 h.1, fun i hi => ?_⟩
    have h1 := h.2 i hi
    unfold opL at h1
    unfold wpOp
    split
    · rename_i ho; simp only [ho] at h1; exact wpAny_of_anyL hT hM hQ fuel _ _ _ _ hw hk h1
    · rename_i o ho
      simp only [ho] at h1
      split
      · rename_i hwd
        simp only [hwd, if_true] at h1
        left
        split at h1
        · obtain ⟨v, h2, h3⟩ := h1
          exact wp_of_quietV (h2 w hw (hk.knows _)) (wpAny_of_anyL hT hM hQ fuel _ _ _ _ hw hk h3)
        · rename_i φ hp
          refine wp_of_gives (h1.1 w hw (hk.knows _)) fun v w' he hφ => ?_
          have hw' := hT.trans hw he
          have hk' := (hk.ext hM he).put (i := i) (v := v) (fun φ' h' => by rw [hp] at h'; cases h'; exact hφ)
          exact wpAny_of_anyL hT hM hQ fuel _ _ _ _ hw' hk' (h1.2 v ⟨w', hw', hk'⟩)
      · rename_i hwd
        simp only [hwd, if_false, Bool.false_eq_true] at h1
        exact wpAny_of_anyL hT hM hQ fuel _ _ _ _ hw hk h1
structure Closed (md : Region.Mode) (ops : Array Oper) (A : Nat → List Nat) (n : Nat) (listed : Array Bool) : Prop where
  size : listed.size = ops.size
  anc : ∀ j, listed.getD j false = true → ∀ i ∈ A j, listed.getD i false = true
def ancB (md : Region.Mode) (ops : Array Oper) (A : Nat → List Nat) (n : Nat) : Bool :=
  (List.range ops.size).all fun j => match ops[j]? with
    | some oj => (A j).all (fun i => oj.after.any fun e => Region.binds md e && (e.on == i || (A e.on).contains i)) && (decide (j < n) || (List.range n).all fun i => (A j).contains i)
    | none => true
theorem ancB_ready {n : Nat} (hA : ancB md ops A n = true) {listed : Array Bool} (hc : Closed md ops A n listed) {j : Nat} (hj : j ∈ Region.ready md ops listed) : ∀ i ∈ A j, listed.getD i false = true := by
  obtain ⟨_, oj, hoj, hall⟩ := mem_ready.1 hj
  intro i hi
  have h1 := List.all_eq_true.1 hA j (List.mem_range.2 (Array.getElem?_eq_some_iff.1 hoj).1)
  simp only [hoj, Bool.and_eq_true, List.all_eq_true] at h1
  obtain ⟨e, he, hb⟩ := Array.any_eq_true'.1 (h1.1 i hi)
  simp only [Bool.and_eq_true, Bool.or_eq_true, beq_iff_eq, List.contains_iff_mem] at hb
  have h2 := hall e he hb.1
  rcases hb.2 with h3 | h3
  · rw [← h3]; exact h2
  · exact hc.anc _ h2 i h3
theorem ancB_tail {n : Nat} (hA : ancB md ops A n = true) {listed : Array Bool} (hc : Closed md ops A n listed) {j i : Nat} (hj : j ∈ Region.ready md ops listed) (hn : n ≤ j) (hi : i < n) : listed.getD i false = true := by
  obtain ⟨_, oj, hoj, _⟩ := mem_ready.1 hj
  refine ancB_ready hA hc hj i ?_
  have h1 := List.all_eq_true.1 hA j (List.mem_range.2 (Array.getElem?_eq_some_iff.1 hoj).1)
  simp only [hoj, Bool.and_eq_true, Bool.or_eq_true, decide_eq_true_eq, List.all_eq_true, List.mem_range, List.contains_iff_mem] at h1
  rcases h1.2 with h2 | h2
  · omega
  · exact h2 i hi
theorem Closed.set {n : Nat} (hA : ancB md ops A n = true) {listed : Array Bool} (hc : Closed md ops A n listed) {j : Nat} (hj : j ∈ Region.ready md ops listed) : Closed md ops A n (listed.setIfInBounds j true) := by
  refine ⟨by simp [hc.size], fun k hk i hi => ?_⟩
  by_cases hjk : j = k
  · subst hjk; exact getD_set_true (ancB_ready hA hc hj i hi)
  · rw [getD_set_ne false hjk] at hk
    exact getD_set_true (hc.anc k hk i hi)
theorem not_mem_of_ready {n : Nat} (hA : ancB md ops A n = true) {listed : Array Bool} (hc : Closed md ops A n listed) {i j : Nat} (hi : i ∈ Region.ready md ops listed) (hj : j ∈ Region.ready md ops listed) : i ∉ A j := by
  intro h
  have h1 := ancB_ready hA hc hj i h
  have h0 := (mem_ready.1 hi).1
  rw [getD_both h0] at h1
  cases h1
theorem opL_put {oi oj : Oper} {v : Value} (hap : oi.apart ops oj = true) (hsj : ∀ cs b, oj.op ≠ .select cs b) (a : Act) :
    execOp (a.put oi.dst v).eval oj = execOp a.eval oj ∧ Region.wanted oj (yielded ops (a.put oi.dst v).tmps) = Region.wanted oj (yielded ops a.tmps) ∧ (∀ u, (a.put oi.dst v).put oj.dst u = (a.put oj.dst u).put oi.dst v) ∧
    (∀ u, (∀ cs b, oi.op ≠ .select cs b) → execOp (a.put oj.dst u).eval oi = execOp a.eval oi ∧ Region.wanted oi (yielded ops (a.put oj.dst u).tmps) = Region.wanted oi (yielded ops a.tmps)) := by
  obtain ⟨h1, h2, h3⟩ := Oper.apart_spec hap
  exact ⟨execOp_put oj hsj a oi.dst v h1, wanted_put oj a oi.dst v h1, fun u => Act.put_comm a v u h2, fun u hsi => ⟨execOp_put oi hsi a oj.dst u h3, wanted_put oi a oj.dst u h3⟩⟩
theorem anyL_first {n g i : Nat} {oi : Oper} {Q : Vals → Act → Prop} (hT : Pre R) (hM : Mono R Φ) (hi : ops[i]? = some oi) (hsel : ∀ (j : Nat) (o : Oper) cs b, ops[j]? = some o → o.op ≠ .select cs b) (hA : ancB md ops A n = true) (hin : i < n) :
    ∀ (fuel : Nat) (listed : Array Bool) (F : Vals) (a : Act), Met R W0 Φ F → (∀ k, listed.getD k true = false → F k = none) → Closed md ops A n listed →
      (∀ j oj, ops[j]? = some oj → j ≠ i → listed.getD j true = false → (∀ e ∈ oj.after, Region.binds md e = true → e.on ≠ i) → oi.apart ops oj = true) →
      i ∈ Region.ready md ops listed → opL R P ops W0 Φ A i (anyL R P md ops W0 Φ A n g Q fuel (listed.setIfInBounds i true)) F a →
      anyL R P md ops W0 Φ A n g Q (fuel + 1) listed F a := by
  intro fuel
  induction fuel with
  | zero =>
    intro listed F a hm hN hc hfree hr H
    refine ⟨fun h => (by rw [h] at hr; cases hr), fun j hj => ?_⟩
    by_cases hji : j = i
    · subst hji; exact H
    · exfalso
      have hj' := ready_mono hj hji
      have hs : Region.seqB md ops g n (listed.setIfInBounds i true) = true := by
        unfold opL at H
        simp only [hi] at H
        split at H
        · split at H
          · obtain ⟨_, _, h⟩ := H; exact h.1
          · rename_i φ hp
            obtain ⟨w, hw, hk⟩ := hm
            obtain ⟨v, w', he, hφ⟩ := gives_some (H.1 w hw (hk.knows _))
            exact (H.2 v ⟨w', hT.trans hw he, (hk.ext hM he).put (fun φ' h' => by rw [hp] at h'; cases h'; exact hφ)⟩).1
        · exact H.1
      have hnj := seqB_ready hs j hj'
      have h1 := ancB_tail hA hc hj hnj hin
      have h0 := (mem_ready.1 hr).1
      rw [getD_both h0] at h1
      cases h1
  | succ fuel ih =>
    intro listed F a hm hN hc hfree hr H
    refine ⟨fun h => (by rw [h] at hr; cases hr), fun j hj => ?_⟩
    by_cases hji : j = i
    · subst hji; exact H
    · obtain ⟨hjun, oj, hoj, hall⟩ := mem_ready.1 hj
      have hiun := (mem_ready.1 hr).1
      have hnot : ∀ e ∈ oj.after, Region.binds md e = true → e.on ≠ i := fun e he hb heq => by
        have h1 := hall e he hb
        rw [heq, getD_both hiun] at h1
        cases h1
      have hap := hfree j oj hoj hji hjun hnot
      have hij : i ∉ A j := not_mem_of_ready hA hc hr hj
      have hjiA : j ∉ A i := not_mem_of_ready hA hc hj hr
      have hsi := fun cs b => hsel i oi cs b hi
      have hsj := fun cs b => hsel j oj cs b hoj
      have hr' := ready_mono hr (Ne.symm hji)
      have hj' := ready_mono hj hji
      have hc' := Closed.set hA hc hj
      have hfree' : ∀ k ok, ops[k]? = some ok → k ≠ i → (listed.setIfInBounds j true).getD k true = false →
          (∀ e ∈ ok.after, Region.binds md e = true → e.on ≠ i) → oi.apart ops ok = true := fun k ok hk hki hun hno => by
        refine hfree k ok hk hki ?_ hno
        by_cases hjk : j = k
        · subst hjk; exact hjun
        · rw [getD_set_ne true hjk] at hun; exact hun
      have hN' : ∀ F' : Vals, (∀ k, k ≠ j → F' k = F k) → ∀ k, (listed.setIfInBounds j true).getD k true = false → F' k = none := fun F' hF k hk => by
        by_cases hjk : j = k
        · subst hjk
          have hlt : j < listed.size := by
            rcases Nat.lt_or_ge j listed.size with h' | h'
            · exact h'
            · simp [Array.getElem?_eq_none h'] at hjun
          simp [hlt] at hk
        · rw [getD_set_ne true hjk] at hk
          rw [hF k (Ne.symm hjk)]; exact hN k hk
      suffices hh : opL R P ops W0 Φ A j (fun F' a' => opL R P ops W0 Φ A i (anyL R P md ops W0 Φ A n g Q fuel ((listed.setIfInBounds j true).setIfInBounds i true)) F' a') F a by
        exact opL_mono hm (fun F' a' hm' hF hK => ih _ F' a' hm' (hN' F' hF) hc' hfree' hr' hK) hh
      have hcomm : (listed.setIfInBounds j true).setIfInBounds i true = (listed.setIfInBounds i true).setIfInBounds j true := Array.setIfInBounds_comm _ _ hji
      rw [hcomm]
      generalize hX : anyL R P md ops W0 Φ A n g Q fuel ((listed.setIfInBounds i true).setIfInBounds j true) = X
      have HX : opL R P ops W0 Φ A i (fun F' a' => opL R P ops W0 Φ A j X F' a') F a := by
        refine opL_mono hm (fun F' a' _ _ h => ?_) H
        have h1 := h.2 j hj'
        rw [hX] at h1
        exact h1
      clear H hX ih
      have e0 := fun v => opL_put (ops := ops) (v := v) hap hsj a
      unfold opL at HX
      simp only [hi] at HX
      by_cases hwi : Region.wanted oi (yielded ops a.tmps) = true
      · simp only [hwi, if_true] at HX
        cases hpi : Φ i with
        | none =>
          simp only [hpi] at HX
          obtain ⟨v, hq, HX⟩ := HX
          have hq' : ∀ u F', (∀ k, k ≠ j → F' k = F k) → ∀ w, R W0 w → Knows Φ F' (A i) w → Oper.quietV P oi (a.put oj.dst u) w v := fun u F' hF w hw hk => by
            have := hq w hw (fun k hk' φ z h1 h2 => hk k hk' φ z h1 ((hF k (fun e => hjiA (e ▸ hk'))).trans h2))
            unfold Oper.quietV at this ⊢
            rw [((e0 v).2.2.2 u hsi).1]; exact this
          have fin : ∀ u F', (∀ k, k ≠ j → F' k = F k) → X F' ((a.put oj.dst u).put oi.dst v) → opL R P ops W0 Φ A i X F' (a.put oj.dst u) := fun u F' hF h => by
            unfold opL
            simp only [hi, ((e0 v).2.2.2 u hsi).2, hwi, if_true, hpi]
            exact ⟨v, hq' u F' hF, h⟩
          unfold opL
          simp only [hoj] at HX ⊢
          rw [(e0 v).2.1] at HX
          split at HX
          · rename_i hwj
            rw [if_pos hwj]
            cases hpj : Φ j with
            | none =>
              simp only [hpj] at HX ⊢
              obtain ⟨u, h1, h2⟩ := HX
              refine ⟨u, fun w hw hk => ?_, ?_⟩
              · have := h1 w hw hk
                unfold Oper.quietV at this ⊢
                rwa [(e0 v).1] at this
              · rw [(e0 v).2.2.1] at h2
                have := fin u F (fun _ _ => rfl) h2
                unfold opL at this; exact this
            | some φ =>
              simp only [hpj] at HX ⊢
              refine ⟨fun w hw hk => ?_, fun u hu => ?_⟩
              · have := HX.1 w hw hk
                unfold Oper.gives at this ⊢
                rwa [(e0 v).1] at this
              · have h2 := HX.2 u hu
                rw [(e0 v).2.2.1] at h2
                have := fin u (F.put j u) (fun k hk => by unfold Vals.put; rw [if_neg hk]) h2
                unfold opL at this; exact this
          · rename_i hwj
            rw [if_neg hwj]
            rw [(e0 v).2.2.1] at HX
            have := fin undef F (fun _ _ => rfl) HX
            unfold opL at this; exact this
        | some φi =>
          simp only [hpi] at HX
          obtain ⟨hq, HX⟩ := HX
          obtain ⟨w0, hw0, hk0⟩ := hm
          obtain ⟨vs, ws, hes, hφs⟩ := gives_some (hq w0 hw0 (hk0.knows _))
          have hms : Met R W0 Φ (F.put i vs) := ⟨ws, hT.trans hw0 hes, (hk0.ext hM hes).put (fun φ' h' => by rw [hpi] at h'; cases h'; exact hφs)⟩
          have hq' : ∀ u F', (∀ k, k ≠ j → F' k = F k) → ∀ w, R W0 w → Knows Φ F' (A i) w → Oper.gives R P oi (a.put oj.dst u) w φi := fun u F' hF w hw hk => by
            have := hq w hw (fun k hk' φ z h1 h2 => hk k hk' φ z h1 ((hF k (fun e => hjiA (e ▸ hk'))).trans h2))
            unfold Oper.gives at this ⊢
            rw [((e0 vs).2.2.2 u hsi).1]; exact this
          have fin : ∀ u F', (∀ k, k ≠ j → F' k = F k) → (∀ v, Met R W0 Φ (F'.put i v) → X (F'.put i v) ((a.put oj.dst u).put oi.dst v)) → opL R P ops W0 Φ A i X F' (a.put oj.dst u) := fun u F' hF h => by
            unfold opL
            simp only [hi, ((e0 vs).2.2.2 u hsi).2, hwi, if_true, hpi]
            exact ⟨hq' u F' hF, h⟩
          have Hs := HX vs hms
          unfold opL at Hs ⊢
          simp only [hoj] at Hs ⊢
          rw [(e0 vs).2.1] at Hs
          by_cases hwj : Region.wanted oj (yielded ops a.tmps) = true
          · rw [if_pos hwj] at Hs ⊢
            cases hpj : Φ j with
            | none =>
              simp only [hpj] at Hs ⊢
              obtain ⟨u, h1, _⟩ := Hs
              have hu : ∀ w, R W0 w → Knows Φ F (A j) w → Oper.quietV P oj a w u := fun w hw hk => by
                have := h1 w hw ((knows_put hij w).2 hk)
                unfold Oper.quietV at this ⊢
                rwa [(e0 vs).1] at this
              refine ⟨u, hu, ?_⟩
              have := fin u F (fun _ _ => rfl) (fun v hv => by
                have h2 := HX v hv
                unfold opL at h2
                simp only [hoj, (e0 v).2.1, hwj, if_true, hpj] at h2
                obtain ⟨u', h3, h4⟩ := h2
                have h5 : Oper.quietV P oj a w0 u' := by
                  have := h3 w0 hw0 ((knows_put hij w0).2 (hk0.knows _))
                  unfold Oper.quietV at this ⊢
                  rwa [(e0 v).1] at this
                have e1 : u' = u := Oper.quietV_one h5 (hu w0 hw0 (hk0.knows _))
                subst e1
                rw [(e0 v).2.2.1] at h4
                exact h4)
              unfold opL at this; exact this
            | some φ =>
              simp only [hpj] at Hs ⊢
              refine ⟨fun w hw hk => ?_, fun u hu => ?_⟩
              · have := Hs.1 w hw ((knows_put hij w).2 hk)
                unfold Oper.gives at this ⊢
                rwa [(e0 vs).1] at this
              · have hFj : ∀ k, k ≠ j → (F.put j u) k = F k := fun k hk => by unfold Vals.put; rw [if_neg hk]
                have := fin u (F.put j u) hFj (fun v hv => by
                  rw [Vals.put_comm F hji u v] at hv ⊢
                  have hv' : Met R W0 Φ (F.put i v) := by
                    obtain ⟨w1, hw1, hk1⟩ := hv
                    refine ⟨w1, hw1, hk1.back ?_⟩
                    unfold Vals.put
                    rw [if_neg hji]
                    exact hN j hjun
                  have h2 := HX v hv'
                  unfold opL at h2
                  simp only [hoj, (e0 v).2.1, hwj, if_true, hpj] at h2
                  have h4 := h2.2 u hv
                  rw [(e0 v).2.2.1] at h4
                  exact h4)
                unfold opL at this; exact this
          · rw [if_neg hwj] at Hs ⊢
            have := fin undef F (fun _ _ => rfl) (fun v hv => by
              have h2 := HX v hv
              unfold opL at h2
              simp only [hoj, (e0 v).2.1, hwj, if_false, Bool.false_eq_true] at h2
              rw [(e0 v).2.2.1] at h2
              exact h2)
            unfold opL at this; exact this
      · simp only [hwi, if_false, Bool.false_eq_true] at HX
        have fin : ∀ u F', X F' ((a.put oj.dst u).put oi.dst undef) → opL R P ops W0 Φ A i X F' (a.put oj.dst u) := fun u F' h => by
          unfold opL
          simp only [hi, ((e0 undef).2.2.2 u hsi).2, hwi, if_false, Bool.false_eq_true]
          exact h
        unfold opL
        simp only [hoj] at HX ⊢
        rw [(e0 undef).2.1] at HX
        split at HX
        · rename_i hwj
          rw [if_pos hwj]
          cases hpj : Φ j with
          | none =>
            simp only [hpj] at HX ⊢
            obtain ⟨u, h1, h2⟩ := HX
            refine ⟨u, fun w hw hk => ?_, ?_⟩
            · have := h1 w hw hk
              unfold Oper.quietV at this ⊢
              rwa [(e0 undef).1] at this
            · rw [(e0 undef).2.2.1] at h2
              have := fin u F h2
              unfold opL at this; exact this
          | some φ =>
            simp only [hpj] at HX ⊢
            refine ⟨fun w hw hk => ?_, fun u hu => ?_⟩
            · have := HX.1 w hw hk
              unfold Oper.gives at this ⊢
              rwa [(e0 undef).1] at this
            · have h2 := HX.2 u hu
              rw [(e0 undef).2.2.1] at h2
              have := fin u (F.put j u) h2
              unfold opL at this; exact this
        · rename_i hwj
          rw [if_neg hwj]
          rw [(e0 undef).2.2.1] at HX
          have := fin undef F HX
          unfold opL at this; exact this
def lexL (R : World → World → Prop) (P : Program) (ops : Array Oper) (W0 : World) (Φ : Facts) (A : Nat → List Nat) (Q : Vals → Act → Prop) : List Oper → Nat → Vals → Act → Prop
  | [], _, F, a => Q F a
  | o :: rest, k, F, a =>
    if Region.wanted o (yielded ops a.tmps) then
      match Φ k with
      | none => ∃ v, (∀ w, R W0 w → Knows Φ F (A k) w → Oper.quietV P o a w v) ∧ lexL R P ops W0 Φ A Q rest (k + 1) F (a.put o.dst v)
      | some φ => (∀ w, R W0 w → Knows Φ F (A k) w → Oper.gives R P o a w φ) ∧ ∀ v, Met R W0 Φ (F.put k v) → lexL R P ops W0 Φ A Q rest (k + 1) (F.put k v) (a.put o.dst v)
    else lexL R P ops W0 Φ A Q rest (k + 1) F (a.put o.dst undef)
theorem anyL_lex {n g : Nat} {Q : Vals → Act → Prop} (hT : Pre R) (hM : Mono R Φ) (hsel : Region.noSelect ops = true) (hA : ancB md ops A n = true) :
    ∀ (l : List Oper) (k : Nat) (listed : Array Bool) (F : Vals) (a : Act), (∀ j, j < l.length → l[j]? = ops[k + j]?) → k + l.length = n → Met R W0 Φ F → (∀ k, listed.getD k true = false → F k = none) → Closed md ops A n listed →
    Region.lexHead md ops g l.length k listed = true → lexL R P ops W0 Φ A Q l k F a → anyL R P md ops W0 Φ A n g Q l.length listed F a
  | [], k, listed, F, a, _, hk, _, _, _, hB, h => by
    have : k = n := by simpa using hk
    subst this
    exact ⟨by simpa [Region.lexHead] using hB, h⟩
  | o :: l, k, listed, F, a, hl, hk, hm, hN, hc, hB, h => by
    have h0 : ops[k]? = some o := by simpa using (hl 0 (by simp)).symm
    simp only [List.length_cons, Region.lexHead, Bool.and_eq_true] at hB
    obtain ⟨⟨hr, hf⟩, hB'⟩ := hB
    have hkn : k < n := by simp only [List.length_cons] at hk; omega
    have hr' : k ∈ Region.ready md ops listed := by simpa using hr
    have hst : opL R P ops W0 Φ A k (lexL R P ops W0 Φ A Q l (k + 1)) F a := by unfold opL; simp only [h0]; exact h
    refine anyL_first hT hM h0 (Region.noSelect_spec hsel) hA hkn l.length listed F a hm hN hc (Region.free_spec h0 hf) hr' (opL_mono hm (fun F' a' hm' hF hK => ?_) hst)
    refine anyL_lex hT hM hsel hA l (k + 1) _ F' a' (fun j hj => by have := hl (j + 1) (by simp; omega); simpa [Nat.add_assoc, Nat.add_comm 1 j] using this) (by simp only [List.length_cons] at hk; omega) hm' (fun i hi => ?_) (Closed.set hA hc hr') hB' hK
    by_cases hki : k = i
    · subst hki
      have hun := (mem_ready.1 hr').1
      have hlt : k < listed.size := by
        rcases Nat.lt_or_ge k listed.size with h' | h'
        · exact h'
        · simp [Array.getElem?_eq_none h'] at hun
      simp [hlt] at hi
    · rw [getD_set_ne true hki] at hi
      rw [hF i (Ne.symm hki)]; exact hN i hi
def regB (md : Region.Mode) (ops : Array Oper) (A : Nat → List Nat) (n : Nat) : Bool :=
  Region.noSelect ops && ancB md ops A n && Region.lexHead md ops (ops.size - n) n 0 (Array.replicate ops.size false) && decide (n ≤ ops.size)
theorem wp_region_ext {id : Nat} {Q : Exit → Act → World → Prop} {a : Act} {w : World} {l : List Oper} (n : Nat) (Φ : Facts) (A : Nat → List Nat) (hm : P.follows .mixedOrders = true) (hB : regB .any l.toArray A n = true) (hT : Pre R) (hM : Mono R Φ)
    (h : lexL R P l.toArray w Φ A (fun F a' => ∀ w', R w w' → KnowsAll Φ F w' → wpList P l.toArray Q (l.drop n) a' w') (l.take n) 0 (fun _ => none) a) : (Code.region id l.toArray true).wp P Q a w := by
  simp only [regB, Bool.and_eq_true, decide_eq_true_eq] at hB
  obtain ⟨⟨⟨hsel, hA⟩, hlex⟩, hn⟩ := hB
  have hn' : n ≤ l.length := by simpa using hn
  have htl : (l.take n).length = n := by simp; omega
  have hdl : (l.drop n).length = l.toArray.size - n := by simp
  have hd : R w { w with drawn := w.drawn + 1 } := hT.drew w
  have hk0 : ∀ w', KnowsAll Φ (fun _ => none) w' := fun w' i φ v _ hv => by cases hv
  have H := anyL_lex (P := P) (md := .any) (W0 := w) (g := l.toArray.size - n) hT hM hsel hA (l.take n) 0 (Array.replicate l.toArray.size false) (fun _ => none) a (fun j hj => by
    have hj' : j < n := by rw [htl] at hj; exact hj
    simp [hj']) (by simpa using htl) ⟨w, hT.refl w, hk0 w⟩ (fun _ _ => rfl) ⟨by simp, fun j hj => by rw [getD_replicate_false] at hj; cases hj⟩ (by rw [htl]; exact hlex) h
  refine wp_region_any hm ?_
  have := wpAny_of_anyL (Q' := Q) (g := l.toArray.size - n) hT hM (fun listed F a' w' hw hk hs hQ => by
    have := wpAny_of_seq (md := .any) (Q' := Q) (l.drop n) n listed a' w' (fun j => by simp [List.getElem?_drop]) (by rw [hdl]; exact hs) (hQ w' hw hk)
    rwa [hdl] at this) _ _ _ _ _ hd (hk0 _) H
  rw [htl, show n + (l.toArray.size - n) = l.toArray.size by omega] at this
  exact this
def factsOf : List (Nat × (Value → World → Prop)) → Facts
  | [], _ => none
  | (i, φ) :: r, k => if k = i then some φ else factsOf r k
def Stays (R : World → World → Prop) (φ : Value → World → Prop) : Prop := ∀ v w w', R w w' → φ v w → φ v w'
theorem mono_nil : Mono R (factsOf []) := fun _ _ h => by cases h
theorem mono_cons {i : Nat} {φ : Value → World → Prop} {r : List (Nat × (Value → World → Prop))} (h : Stays R φ) (hr : Mono R (factsOf r)) : Mono R (factsOf ((i, φ) :: r)) := fun j ψ hj => by
  unfold factsOf at hj
  split at hj
  · cases hj; exact h
  · exact hr j ψ hj
theorem stays_eq (c : Value) : Stays R (fun v _ => v = c) := fun _ _ _ _ h => h
section
variable {Q : Vals → Act → Prop} {o : Oper} {rest : List Oper} {k : Nat} {F : Vals} {a : Act}
theorem lexL_nil (h : Q F a) : lexL R P ops W0 Φ A Q [] k F a := h
theorem lexL_skip (hw : Region.wanted o (yielded ops a.tmps) = false) (h : lexL R P ops W0 Φ A Q rest (k + 1) F (a.put o.dst undef)) : lexL R P ops W0 Φ A Q (o :: rest) k F a := by
  unfold lexL
  rw [if_neg (by simp [hw])]
  exact h
theorem lexL_quiet {v : Value} (hw : Region.wanted o (yielded ops a.tmps) = true) (hΦ : Φ k = none) (h : ∀ w, R W0 w → Knows Φ F (A k) w → Oper.quietV P o a w v) (h' : lexL R P ops W0 Φ A Q rest (k + 1) F (a.put o.dst v)) :
    lexL R P ops W0 Φ A Q (o :: rest) k F a := by
  unfold lexL
  rw [if_pos hw, hΦ]
  exact ⟨v, h, h'⟩
theorem lexL_quiet' {v : Value} (hg : o.guard = none) (hΦ : Φ k = none) (h : ∀ w, R W0 w → Knows Φ F (A k) w → Oper.quietV P o a w v) (h' : lexL R P ops W0 Φ A Q rest (k + 1) F (a.put o.dst v)) :
    lexL R P ops W0 Φ A Q (o :: rest) k F a := lexL_quiet (by simp [Region.wanted, hg]) hΦ h h'
theorem lexL_give {φ : Value → World → Prop} (hw : Region.wanted o (yielded ops a.tmps) = true) (hΦ : Φ k = some φ) (h : ∀ w, R W0 w → Knows Φ F (A k) w → Oper.gives R P o a w φ) (h' : ∀ v w, R W0 w → φ v w → KnowsAll Φ (F.put k v) w → lexL R P ops W0 Φ A Q rest (k + 1) (F.put k v) (a.put o.dst v)) :
    lexL R P ops W0 Φ A Q (o :: rest) k F a := by
  unfold lexL
  rw [if_pos hw, hΦ]
  exact ⟨h, fun v ⟨w, hw, hk⟩ => h' v w hw (hk k φ v hΦ (by simp [Vals.put])) hk⟩
theorem lexL_give' {φ : Value → World → Prop} (hg : o.guard = none) (hΦ : Φ k = some φ) (h : ∀ w, R W0 w → Knows Φ F (A k) w → Oper.gives R P o a w φ) (h' : ∀ v w, R W0 w → φ v w → KnowsAll Φ (F.put k v) w → lexL R P ops W0 Φ A Q rest (k + 1) (F.put k v) (a.put o.dst v)) :
    lexL R P ops W0 Φ A Q (o :: rest) k F a := lexL_give (by simp [Region.wanted, hg]) hΦ h h'
theorem KnowsAll.get {F : Vals} {w : World} (h : KnowsAll Φ F w) (i : Nat) {φ : Value → World → Prop} {v : Value} (hΦ : Φ i = some φ) (hF : F i = some v) : φ v w := h i φ v hΦ hF
theorem Knows.get {F : Vals} {L : List Nat} {w : World} (h : Knows Φ F L w) (i : Nat) (hi : i ∈ L) {φ : Value → World → Prop} {v : Value} (hΦ : Φ i = some φ) (hF : F i = some v) : φ v w := h i hi φ v hΦ hF
end
end
end Go.Proofs.YtmebgomnmlbgnaaDoor

namespace Go.Proofs.YtmebgomnmlbgnaaDoor
open Go.RowKit
set_option linter.unusedVariables false
set_option linter.unusedSimpArgs false
theorem Ext.cell {w w' : World} (h : Ext w w') {p : Addr} {v : Value} (hp : w.cell? p = some v) : w'.cell? p = some v := cell_later h hp
theorem Ext.alloc {w w' : World} (h : Ext w w') (o : Obj) : Ext w (w'.alloc o) := Below.alloc h h.size o
theorem Ext.drew {w w' : World} (h : Ext w w') : Ext w w'.drew := Below.drew h
theorem Ext.drewN {w w' : World} (h : Ext w w') (n : Nat) : Ext w (w'.drewN n) := h.trans ⟨rfl, rfl, rfl, Nat.le_refl _, fun _ _ => rfl⟩
theorem Ext.setCell {w w' : World} (h : Ext w w') {p : Addr} (hp : w.heap.size ≤ p.block) (u : Value) : Ext w (w'.setCell p u) := Below.setCell h hp u
theorem ext_refl_iff (w : World) : Ext w w ↔ True := ⟨fun _ => trivial, fun _ => Ext.refl w⟩
theorem ext_alloc_iff {a w : World} (h : Ext a w) (o : Obj) : Ext a (w.alloc o) ↔ True := ⟨fun _ => trivial, fun _ => h.alloc o⟩
theorem ext_drew_iff {a w : World} (h : Ext a w) : Ext a w.drew ↔ True := ⟨fun _ => trivial, fun _ => h.drew⟩
theorem ext_drewN_iff {a w : World} (h : Ext a w) (n : Nat) : Ext a (w.drewN n) ↔ True := ⟨fun _ => trivial, fun _ => h.drewN n⟩
def Cells (w : World) (A : Option Addr) (cs : List Value) : Prop :=
  0 < cs.length → ∃ b o, A = some ⟨b, o, none⟩ ∧ b < w.heap.size ∧ ∀ j u, cs[j]? = some u → w.cell? ⟨b, o + j, none⟩ = some u
theorem Cells.ext {w w' : World} {A : Option Addr} {cs : List Value} (h : Cells w A cs) (e : Ext w w') : Cells w' A cs := fun hn => by
  obtain ⟨b, o, hA, hb, hc⟩ := h hn
  exact ⟨b, o, hA, Nat.lt_of_lt_of_le hb e.size, fun j u hu => e.cell (hc j u hu)⟩
theorem Cells.nil (w : World) (A : Option Addr) : Cells w A [] := fun h => absurd h (by simp)
def lenMax : Nat := 9223372036854775807
def IntsC (w : World) (v : Value) (xs : List Int) (c : Nat) : Prop := ∃ A, v = .slice A xs.length c ∧ Cells w A (xs.map (.int .i64)) ∧ xs.length ≤ c ∧ xs.length ≤ lenMax
def edgeCells (e : Int × Int) : List Value := [.int .i64 e.1, .int .i64 e.2]
def EdgesC (w : World) (v : Value) (es : List (Int × Int)) (c : Nat) : Prop := ∃ A, v = .slice A es.length c ∧ Cells w A (es.flatMap edgeCells) ∧ es.length ≤ c ∧ es.length ≤ lenMax
def RowsC (w : World) (v : Value) (rows : List (List (Int × Int))) (c : Nat) : Prop :=
  ∃ A vs, v = .slice A rows.length c ∧ Cells w A vs ∧ vs.length = rows.length ∧ (∀ (i : Nat) (u : Value) (es : List (Int × Int)), vs[i]? = some u → rows[i]? = some es → ∃ c', EdgesC w u es c') ∧ rows.length ≤ c ∧ rows.length ≤ lenMax
structure Mach where
  ins : Int
  outs : Int
  rows : List (List (Int × Int))
def MachV (w : World) (v : Value) (m : Mach) : Prop := ∃ rv c, v = .agg #[.int .i64 m.ins, .int .i64 m.outs, rv] ∧ RowsC w rv m.rows c
theorem IntsC.ext {w w' : World} {v : Value} {xs : List Int} {c : Nat} (h : IntsC w v xs c) (e : Ext w w') : IntsC w' v xs c := by
  obtain ⟨A, hv, hc, hr⟩ := h
  exact ⟨A, hv, hc.ext e, hr⟩
theorem EdgesC.ext {w w' : World} {v : Value} {xs : List (Int × Int)} {c : Nat} (h : EdgesC w v xs c) (e : Ext w w') : EdgesC w' v xs c := by
  obtain ⟨A, hv, hc, hr⟩ := h
  exact ⟨A, hv, hc.ext e, hr⟩
theorem RowsC.ext {w w' : World} {v : Value} {rows : List (List (Int × Int))} {c : Nat} (h : RowsC w v rows c) (e : Ext w w') : RowsC w' v rows c := by
  obtain ⟨A, vs, hv, hc, hl, hr, hb⟩ := h
  exact ⟨A, vs, hv, hc.ext e, hl, fun i u es hu hes => by
    obtain ⟨c', h'⟩ := hr i u es hu hes
    exact ⟨c', h'.ext e⟩, hb⟩
theorem MachV.ext {w w' : World} {v : Value} {m : Mach} (h : MachV w v m) (e : Ext w w') : MachV w' v m := by
  obtain ⟨rv, c, hv, hr⟩ := h
  exact ⟨rv, c, hv, hr.ext e⟩
def MBox (w : World) (b : Nat) (m : Mach) : Prop := ∃ rv c, b < w.heap.size ∧ w.cell? ⟨b, 0, none⟩ = some (.int .i64 m.ins) ∧ w.cell? ⟨b, 1, none⟩ = some (.int .i64 m.outs) ∧ w.cell? ⟨b, 2, none⟩ = some rv ∧ RowsC w rv m.rows c
theorem MBox.ext {w w' : World} {b : Nat} {m : Mach} (h : MBox w b m) (e : Ext w w') : MBox w' b m := by
  obtain ⟨rv, c, hb, h0, h1, h2, hr⟩ := h
  exact ⟨rv, c, Nat.lt_of_lt_of_le hb e.size, e.cell h0, e.cell h1, e.cell h2, hr.ext e⟩
theorem RowsC.at_ {w : World} {v : Value} {rows : List (List (Int × Int))} {c : Nat} (h : RowsC w v rows c) {k : Nat} (hk : k < rows.length) :
    ∃ b o u c', v = .slice (some ⟨b, o, none⟩) rows.length c ∧ b < w.heap.size ∧ w.cell? ⟨b, o + k, none⟩ = some u ∧ EdgesC w u rows[k] c' := by
  obtain ⟨A, vs, rfl, hc, hl, hr, _⟩ := h
  obtain ⟨b, o, rfl, hb, hcc⟩ := hc (by omega)
  have hk' : k < vs.length := by omega
  obtain ⟨c', he⟩ := hr k vs[k] rows[k] (List.getElem?_eq_getElem hk') (List.getElem?_eq_getElem hk)
  exact ⟨b, o, vs[k], c', rfl, hb, hcc k _ (List.getElem?_eq_getElem hk'), he⟩
theorem wp_named {P : Program} {c : Code} {Q : Exit → Act → World → Prop} {a : Act} {w : World} (h : ∀ W, W = w → c.wp P Q a W) : c.wp P Q a w := h w rfl
theorem ownsRow_ext {w w' : World} {base : Nat} {e : TypeId} {size : Nat} {v : Value} {n : Nat} {xs : List Value} (h : w.ownsRow base e size v n xs) (hE : Ext w w') : w'.ownsRow base e size v n xs := by
  refine ⟨h.1, ?_⟩
  rcases h.2 with hn | ⟨g, cap, cur, rfl, hb, hgg, rest⟩
  · exact .inl hn
  · refine .inr ⟨g, cap, cur, rfl, hb, ?_, rest⟩
    rw [hE.block g (Array.getElem?_eq_some_iff.1 hgg).1]
    exact hgg
theorem cells_of_owns {w : World} {base : Nat} {e : TypeId} {size : Nat} {v : Value} {n : Nat} {xs : List Value} (h : w.ownsRow base e size v n xs) : ∃ A c, v = .slice A n c ∧ n ≤ c ∧ Cells w A xs := by
  have h0 := h
  rcases h.2 with ⟨rfl, rfl⟩ | ⟨g, cap, cur, rfl, hb, hgg, hnc, _⟩
  · refine ⟨none, 0, rfl, Nat.le_refl _, ?_⟩
    have : xs = [] := List.eq_nil_of_length_eq_zero (by simpa using h.1)
    subst this
    exact Cells.nil _ _
  · refine ⟨_, cap, rfl, hnc, fun _ => ⟨g, 0, rfl, (Array.getElem?_eq_some_iff.1 hgg).1, fun j u hu => ?_⟩⟩
    have := h0.cells (g := g) rfl j u hu
    rw [Addr.add_lit] at this
    simpa using this
theorem ints_of_owns {w : World} {base : Nat} {e : TypeId} {v : Value} {xs : List Int} (h : w.ownsRow base e 1 v xs.length (xs.map (.int .i64))) (hl : xs.length ≤ lenMax) : ∃ c, IntsC w v xs c := by
  obtain ⟨A, c, rfl, hn, hc⟩ := cells_of_owns h
  exact ⟨c, A, rfl, hc, hn, hl⟩
theorem heap_ext {w w' : World} (hE : Ext w w') {b : Nat} {o : Obj} (h : w.heap[b]? = some o) : w'.heap[b]? = some o := by
  rw [hE.block b (lt_of_block h)]; exact h
theorem cell_of_blk {w : World} {b : Nat} {cs : Array Value} {t : TypeId} (h : w.heap[b]? = some (.cells cs t (0, 0))) (i : Nat) {u : Value} (hu : cs[i]? = some u) : w.cell? ⟨b, i, none⟩ = some u := (cell_of_row w b i cs t (0, 0) h).trans hu
theorem free_of_blk {w : World} {b : Nat} {cs : Array Value} {t : TypeId} (h : w.heap[b]? = some (.cells cs t (0, 0))) (i : Nat) : w.frozen? ⟨b, i, none⟩ = false := by simp [World.frozen?, h]
theorem Cells.at_int {w : World} {A : Option Addr} {xs : List Int} (h : Cells w A (xs.map (.int .i64))) {k : Nat} (hk : k < xs.length) :
    ∃ b o, A = some ⟨b, o, none⟩ ∧ b < w.heap.size ∧ w.cell? ⟨b, o + k, none⟩ = some (.int .i64 xs[k]) := by
  obtain ⟨b, o, hA, hb, hc⟩ := h (by simp; omega)
  exact ⟨b, o, hA, hb, hc k _ (by simp [hk])⟩
end Go.Proofs.YtmebgomnmlbgnaaDoor

namespace Go.Proofs.YtmebgomnmlbgnaaDoor
open Go.RowKit
set_option linter.unusedVariables false
set_option linter.unusedSimpArgs false
section
variable {P : Program} {w : World}
theorem run_append_own2 (base : Nat) (t ty e : TypeId) (i : TypeInfo) (z : Value) (size bytes : Nat) (ht : P.underlying t = some (.slice e)) (hi : P.info? e = some i) (hz : i.zero = some z)
    (hsize : i.size = size) (hby : i.bytes = bytes) (hzs : z.cells.size = size) (hsz : 0 < size)
    (v : Value) (n : Nat) (xs : List Value) (hown : w.ownsRow base e size v n xs)
    (a : Addr) (m c : Nat) (news : List Value) (hl : news.length = m * size) (hnews : ∀ j u, news[j]? = some u → w.cell? (a.add j) = some u) (h1 : ∀ u ∈ news, u.oneCell' = true)
    (h63 : n + m ≤ maxLen) (hbytes : (n + m) * bytes ≤ 140737488355328) (hbase : base ≤ w.heap.size) :
    ∃ v' w', (Builtin.append_ #[t, t] ty #[v, .slice (some a) m c]).run P w = .ok v' w' ∧ w'.ownsRow base e size v' (n + m) (xs ++ news) ∧ w.grownBy w' v.ownBlock ∧
      (∀ b, v'.ownBlock = some b → v.ownBlock = some b ∨ w.heap.size ≤ b) := by
  obtain ⟨v', w', hr, h2, h3, h4⟩ := run_append_own (P := P) w base t ty e i z size bytes ht hi hz hsize hby hzs hsz v n xs hown a m c news hl hnews h1 h63 hbytes hbase
  refine ⟨v', w', hr, h2, h3, ?_⟩
  subst hsize
  subst hby
  have hsmall : n + m ≤ 9223372036854775807 := by simp only [maxLen] at h63; omega
  rcases hown.2 with ⟨rfl, rfl⟩ | ⟨g, cap, cur, rfl, hbg, hg, hnc, hcm, hcs, htake⟩
  · by_cases hm : m = 0
    · rw [h4.2 ⟨rfl, hm⟩]; intro b hb; cases hb
    · have hr2 := run_append_nil (P := P) w t ty e i z ht hi hz a m c news hl hnews (by omega) (by omega) (by have hb := hbytes; simp only [Nat.zero_add] at hb; omega)
      rw [hr] at hr2
      cases hr2
      intro b hb; cases hb; exact .inr (Nat.le_refl _)
  · by_cases hroom : n + m ≤ cap
    · have hfit : n * i.size + news.length ≤ cur.size := by rw [hl, hcs, ← Nat.add_mul]; exact Nat.mul_le_mul_right _ hroom
      have hr2 := run_append_room (P := P) w t ty e i ht hi g n cap cur hg a m c news hl hnews h1 hroom hfit
      rw [hr] at hr2
      cases hr2
      exact fun b hb => .inl hb
    · have holds : ∀ j u, xs[j]? = some u → w.cell? ((⟨g, 0, none⟩ : Addr).add j) = some u := hown.cells (g := g) rfl
      have hr2 := run_append_grow (P := P) w t ty e i z ht hi hz ⟨g, 0, none⟩ n cap xs hown.1 holds a m c news hl hnews (by omega) (by omega) (growslice_fits (by omega) hbytes)
      rw [hr] at hr2
      cases hr2
      intro b hb; cases hb; exact .inr (Nat.le_refl _)
theorem wp_append_own2 {o : Oper} {a : Act} {K : Act → World → Prop} {Q : Exit → Act → World → Prop} (s x : Operand) (t : TypeId)
    (ho : o.op = .call { callee := .builtin .append, args := #[s, x], argTypes := #[t, t] })
    (base : Nat) (e : TypeId) (i : TypeInfo) (z : Value) (size bytes : Nat) (ht : P.underlying t = some (.slice e)) (hi : P.info? e = some i) (hz : i.zero = some z)
    (hsize : i.size = size) (hby : i.bytes = bytes) (hzs : z.cells.size = size) (hsz : 0 < size)
    (v : Value) (n : Nat) (xs : List Value) (hs : a.eval s = v) (hown : w.ownsRow base e size v n xs)
    (ad : Addr) (m c : Nat) (news : List Value) (hx : a.eval x = .slice (some ad) m c) (hl : news.length = m * size) (hnews : ∀ j u, news[j]? = some u → w.cell? (ad.add j) = some u) (h1 : ∀ u ∈ news, u.oneCell' = true)
    (h63 : n + m ≤ maxLen) (hbytes : (n + m) * bytes ≤ 140737488355328) (hbase : base ≤ w.heap.size)
    (h : ∀ v' w', w'.ownsRow base e size v' (n + m) (xs ++ news) → w.grownBy w' v.ownBlock → (∀ b, v'.ownBlock = some b → v.ownBlock = some b ∨ w.heap.size ≤ b) → K (a.put o.dst v') w') : o.wp P a w K Q := by
  obtain ⟨v', w', hr, h2, h3, h4⟩ := run_append_own2 (P := P) (w := w) base t o.type e i z size bytes ht hi hz hsize hby hzs hsz v n xs hown ad m c news hl hnews h1 h63 hbytes hbase
  unfold Oper.wp execOp
  simp only [ho, resolve, invoke, builtin, Sem.run_bind, Sem.run_pure, Result.andThen_ok, List.map_toArray, List.map_cons, List.map_nil, hs, hx, hr]
  exact h v' w' h2 h3 h4
end
structure OwnRows (w : World) (B e1 e2 s2 : Nat) (v : Value) (vs : List Value) (rs : List (Nat × List Value)) : Prop where
  own : w.ownsRow B e1 1 v vs.length vs
  len : vs.length = rs.length
  each : ∀ (j : Nat) (u : Value) (r : Nat × List Value), vs[j]? = some u → rs[j]? = some r → w.ownsRow B e2 s2 u r.1 r.2
  apart : ∀ (i j : Nat) (u u' : Value), vs[i]? = some u → vs[j]? = some u' → i ≠ j → ∀ b, u.ownBlock = some b → u'.ownBlock ≠ some b
  away : ∀ (j : Nat) (u : Value), vs[j]? = some u → ∀ b, u.ownBlock = some b → v.ownBlock ≠ some b
inductive Asn where
  | row (e size : Nat) (v : Value) (n : Nat) (xs : List Value)
  | rows (e1 e2 s2 : Nat) (v : Value) (vs : List Value) (rs : List (Nat × List Value))
  | blk (b : Nat) (o : Obj)
  | any (S : Nat → Prop) (Φ : World → Prop)
def Asn.ok (B : Nat) (w : World) : Asn → Prop
  | .row e s v n xs => w.ownsRow B e s v n xs
  | .rows e1 e2 s2 v vs rs => OwnRows w B e1 e2 s2 v vs rs
  | .blk b o => B ≤ b ∧ w.heap[b]? = some o
  | .any S Φ => (∀ b, S b → B ≤ b ∧ b < w.heap.size) ∧ ∀ w' : World, (∀ b, S b → w'.heap[b]? = w.heap[b]?) → Φ w'
def Asn.foot : Asn → Nat → Prop
  | .row _ _ v _ _ => fun b => v.ownBlock = some b
  | .rows _ _ _ v vs _ => fun b => v.ownBlock = some b ∨ ∃ u ∈ vs, u.ownBlock = some b
  | .blk b _ => fun c => c = b
  | .any S _ => S
theorem ownsRow_of {w w' : World} {B e s : Nat} {v : Value} {n : Nat} {xs : List Value} (h : w.ownsRow B e s v n xs) (hb : ∀ b, v.ownBlock = some b → w'.heap[b]? = w.heap[b]?) : w'.ownsRow B e s v n xs := by
  refine ⟨h.1, ?_⟩
  rcases h.2 with hn | ⟨g, cap, cur, rfl, hB, hg, rest⟩
  · exact .inl hn
  · exact .inr ⟨g, cap, cur, rfl, hB, (hb g rfl).trans hg, rest⟩
theorem OwnRows.of {w w' : World} {B e1 e2 s2 : Nat} {v : Value} {vs : List Value} {rs : List (Nat × List Value)} (h : OwnRows w B e1 e2 s2 v vs rs) (hv : ∀ b, v.ownBlock = some b → w'.heap[b]? = w.heap[b]?)
    (hu : ∀ u ∈ vs, ∀ b, u.ownBlock = some b → w'.heap[b]? = w.heap[b]?) : OwnRows w' B e1 e2 s2 v vs rs :=
  ⟨ownsRow_of h.own hv, h.len, fun j u r hj hr => ownsRow_of (h.each j u r hj hr) (hu u (List.mem_of_getElem? hj)), h.apart, h.away⟩
theorem OwnRows.lt {w : World} {B e1 e2 s2 : Nat} {v : Value} {vs : List Value} {rs : List (Nat × List Value)} (h : OwnRows w B e1 e2 s2 v vs rs) {u : Value} (hu : u ∈ vs) {b : Nat} (hb : u.ownBlock = some b) : B ≤ b ∧ b < w.heap.size := by
  obtain ⟨j, hj, rfl⟩ := List.mem_iff_getElem.1 hu
  have hj2 : j < rs.length := by rw [← h.len]; exact hj
  exact (h.each j vs[j] rs[j] (List.getElem?_eq_getElem hj) (List.getElem?_eq_getElem hj2)).lt b hb
theorem Asn.lt {B : Nat} {w : World} {A : Asn} (h : A.ok B w) {b : Nat} (hb : A.foot b) : B ≤ b ∧ b < w.heap.size := by
  cases A with
  | row e s v n xs => exact World.ownsRow.lt h b hb
  | rows e1 e2 s2 v vs rs =>
    rcases hb with hb | ⟨u, hu, hb⟩
    · exact h.own.lt b hb
    · exact OwnRows.lt h hu hb
  | blk c o => cases hb; exact ⟨h.1, lt_of_block h.2⟩
  | any S Φ => exact h.1 b hb
theorem Asn.of {B : Nat} {w w' : World} {A : Asn} (h : A.ok B w) (hb : ∀ b, A.foot b → w'.heap[b]? = w.heap[b]?) : A.ok B w' := by
  cases A with
  | row e s v n xs => exact ownsRow_of h hb
  | rows e1 e2 s2 v vs rs => exact OwnRows.of h (fun b hv => hb b (.inl hv)) (fun u hu b h' => hb b (.inr ⟨u, hu, h'⟩))
  | blk c o => exact ⟨h.1, (hb c rfl).trans h.2⟩
  | any S Φ =>
    refine ⟨fun b hS => ⟨(h.1 b hS).1, ?_⟩, fun w2 h2 => h.2 w2 fun b hS => (h2 b hS).trans (hb b hS)⟩
    have h3 := hb b hS
    rw [Array.getElem?_eq_getElem (h.1 b hS).2] at h3
    exact (Array.getElem?_eq_some_iff.1 h3).1
theorem own_mono {w : World} {b1 b2 e s1 : Nat} {u : Value} {n1 : Nat} {xs : List Value} (h : w.ownsRow b1 e s1 u n1 xs) (hb : b2 ≤ b1) : w.ownsRow b2 e s1 u n1 xs := by
  refine ⟨h.1, ?_⟩
  rcases h.2 with hn | ⟨g, cap, cur, rfl, hg, rest⟩
  · exact .inl hn
  · exact .inr ⟨g, cap, cur, rfl, Nat.le_trans hb hg, rest⟩
theorem Asn.mono {b1 b2 : Nat} {w : World} {A : Asn} (h : A.ok b1 w) (hb : b2 ≤ b1) : A.ok b2 w := by
  cases A with
  | row e s v n xs => exact own_mono h hb
  | rows e1 e2 s2 v vs rs => exact ⟨own_mono h.own hb, h.len, fun j u r hj hr => own_mono (h.each j u r hj hr) hb, h.apart, h.away⟩
  | blk c o => exact ⟨Nat.le_trans hb h.1, h.2⟩
  | any S Φ => exact ⟨fun b hS => ⟨Nat.le_trans hb (h.1 b hS).1, (h.1 b hS).2⟩, h.2⟩
structure OwnL (w W : World) (L : List Asn) : Prop where
  ext : Ext w W
  ok : ∀ A ∈ L, A.ok w.heap.size W
  apart : L.Pairwise (fun A A' => ∀ b, A.foot b → ¬ A'.foot b)
theorem OwnL.nil {w W : World} (h : Ext w W) : OwnL w W [] := ⟨h, (fun A hA => by cases hA), .nil⟩
theorem OwnL.get {w W : World} {L : List Asn} (h : OwnL w W L) (k : Nat) {A : Asn} (hk : L[k]? = some A) : A.ok w.heap.size W := h.ok A (List.mem_of_getElem? hk)
theorem OwnL.trans {w W W' : World} {L : List Asn} (h : OwnL w W L) (e : Ext W W') : OwnL w W' L :=
  ⟨h.ext.trans e, fun A hA => Asn.of (h.ok A hA) (fun b hb => e.block b (Asn.lt (h.ok A hA) hb).2), h.apart⟩
theorem OwnL.drop {w W : World} {A : Asn} {L : List Asn} (h : OwnL w W (A :: L)) : OwnL w W L := ⟨h.ext, fun B hB => h.ok B (by simp [hB]), (List.pairwise_cons.1 h.apart).2⟩
theorem OwnL.add {w W W' : World} {L : List Asn} (h : OwnL w W L) (e : Ext W W') {A : Asn} (hA : A.ok W.heap.size W') : OwnL w W' (A :: L) := by
  have h' := h.trans e
  refine ⟨h'.ext, fun B hB => ?_, List.pairwise_cons.2 ⟨fun B hB b hb hb' => ?_, h.apart⟩⟩
  · rcases List.mem_cons.1 hB with rfl | hB
    · exact Asn.mono hA h.ext.size
    · exact h'.ok B hB
  · have h1 := (Asn.lt hA hb).1
    have h2 := (Asn.lt (h.ok B hB) hb').2
    omega
theorem OwnL.seal {w W : World} {A : Asn} {L : List Asn} (h : OwnL w W (A :: L)) {Φ : World → Prop} (hΦ : ∀ W', A.ok w.heap.size W' → Φ W') : OwnL w W (.any A.foot Φ :: L) := by
  have hA := h.ok A (by simp)
  refine ⟨h.ext, fun B hB => ?_, List.pairwise_cons.2 ⟨(List.pairwise_cons.1 h.apart).1, (List.pairwise_cons.1 h.apart).2⟩⟩
  rcases List.mem_cons.1 hB with rfl | hB
  · exact ⟨fun b hb => Asn.lt hA hb, fun w' hw' => hΦ w' (Asn.of hA hw')⟩
  · exact h.ok B (by simp [hB])
theorem OwnL.know {w W : World} {S : Nat → Prop} {Φ : World → Prop} {L : List Asn} (h : OwnL w W L) (k : Nat) (hk : L[k]? = some (.any S Φ)) : Φ W := (h.get k hk).2 W (fun _ _ => rfl)
theorem OwnL.step {w W W' : World} {L : List Asn} (h : OwnL w W L) (k : Nat) {A A' : Asn} (hk : L[k]? = some A) {row : Option Nat} (hg : W.grownBy W' row) (hrow : ∀ b, row = some b → A.foot b) (hA : A'.ok w.heap.size W')
    (hf : ∀ b, A'.foot b → A.foot b ∨ W.heap.size ≤ b) : OwnL w W' (L.set k A') := by
  have hkl := (List.getElem?_eq_some_iff.1 hk).1
  have hAm := h.get k hk
  have hex : Ext w W' := Below.grown h.ext hg h.ext.size (fun b hb => (Asn.lt hAm (hrow b hb)).1)
  have hother : ∀ (j : Nat) (B : Asn), j ≠ k → L[j]? = some B → ∀ b, B.foot b → ¬ A.foot b := fun j B hj hB b hb hb' => by
    have hjl := (List.getElem?_eq_some_iff.1 hB).1
    have hp := List.pairwise_iff_getElem.1 h.apart
    rcases Nat.lt_or_gt_of_ne hj with hlt | hlt
    · have := hp j k hjl hkl hlt b (by rw [(List.getElem?_eq_some_iff.1 hB).2]; exact hb)
      rw [(List.getElem?_eq_some_iff.1 hk).2] at this
      exact this hb'
    · have := hp k j hkl hjl hlt b (by rw [(List.getElem?_eq_some_iff.1 hk).2]; exact hb')
      rw [(List.getElem?_eq_some_iff.1 hB).2] at this
      exact this hb
  have hset : ∀ (j : Nat) (B : Asn), (L.set k A')[j]? = some B → (j = k ∧ B = A') ∨ (j ≠ k ∧ L[j]? = some B) := fun j B hB => by
    by_cases hj : j = k
    · subst hj
      rw [List.getElem?_set_self hkl] at hB
      cases hB; exact .inl ⟨rfl, rfl⟩
    · rw [List.getElem?_set_ne (fun e => hj e.symm)] at hB
      exact .inr ⟨hj, hB⟩
  have hokB : ∀ (j : Nat) (B : Asn), j ≠ k → L[j]? = some B → B.ok w.heap.size W' := fun j B hj hB => by
    have hB0 := h.get j hB
    exact Asn.of hB0 (fun b hb => hg.block b (Asn.lt hB0 hb).2 (fun e => hother j B hj hB b hb (hrow b e.symm)))
  refine ⟨hex, fun B hB => ?_, List.pairwise_iff_getElem.2 fun i j hi hj hij b hb hb' => ?_⟩
  · obtain ⟨j, hj⟩ := List.getElem?_of_mem hB
    rcases hset j B hj with ⟨_, rfl⟩ | ⟨hne, hj⟩
    · exact hA
    · exact hokB j B hne hj
  · rcases hset i _ (List.getElem?_eq_getElem hi) with ⟨hi1, hi2⟩ | ⟨hi1, hi2⟩ <;> rcases hset j _ (List.getElem?_eq_getElem hj) with ⟨hj1, hj2⟩ | ⟨hj1, hj2⟩
    · omega
    · rw [hi2] at hb
      rcases hf b hb with h1 | h1
      · exact hother j _ hj1 hj2 b hb' h1
      · have := (Asn.lt (h.get j hj2) hb').2; omega
    · rw [hj2] at hb'
      rcases hf b hb' with h1 | h1
      · exact hother i _ hi1 hi2 b hb h1
      · have := (Asn.lt (h.get i hi2) hb).2; omega
    · have hi0 : i < L.length := by simpa using hi
      have hj0 : j < L.length := by simpa using hj
      have hp := List.pairwise_iff_getElem.1 h.apart i j hi0 hj0 hij b
      rw [(List.getElem?_eq_some_iff.1 hi2).2, (List.getElem?_eq_some_iff.1 hj2).2] at hp
      exact hp hb hb'
theorem OwnL.store {w W : World} {L : List Asn} (h : OwnL w W L) (k : Nat) {e s g n c : Nat} {xs : List Value} (hk : L[k]? = some (.row e s (.slice (some ⟨g, 0, none⟩) n c) n xs)) (j : Nat) (u : Value) :
    OwnL w (W.setCell ⟨g, j, none⟩ u) (L.set k (.row e s (.slice (some ⟨g, 0, none⟩) n c) n (xs.set j u))) := by
  have h1 : W.ownsRow w.heap.size e s (.slice (some ⟨g, 0, none⟩) n c) n xs := h.get k hk
  have h2 := h1.stored j u
  exact h.step k hk h2.2 (fun b hb => hb) h2.1 (fun b hb => .inl hb)
theorem OwnL.put {w W : World} {L : List Asn} (h : OwnL w W L) (k : Nat) {b t : Nat} {cs : Array Value} (hk : L[k]? = some (.blk b (.cells cs t (0, 0)))) (j : Nat) (u : Value) :
    OwnL w (W.setCell ⟨b, j, none⟩ u) (L.set k (.blk b (.cells (cs.setIfInBounds j u) t (0, 0)))) := by
  have h1 : w.heap.size ≤ b ∧ W.heap[b]? = some (.cells cs t (0, 0)) := h.get k hk
  have h2 := heap_setCell_same W b j cs t u h1.2
  refine h.step (A' := .blk b (.cells (cs.setIfInBounds j u) t (0, 0))) k hk (row := some b) ⟨rfl, rfl, rfl, by simp, fun c _ hc => heap_setCell_other W ⟨b, j, none⟩ c u (fun e => hc (by simp [e]))⟩ (fun c hc => by cases hc; rfl) ⟨h1.1, h2⟩ (fun c hc => .inl hc)
theorem OwnL.app {w W W' : World} {L : List Asn} (h : OwnL w W L) (k : Nat) {e s n n' : Nat} {v v' : Value} {xs xs' : List Value} (hk : L[k]? = some (.row e s v n xs)) (hg : W.grownBy W' v.ownBlock) (ho : W'.ownsRow w.heap.size e s v' n' xs')
    (hb : ∀ b, v'.ownBlock = some b → v.ownBlock = some b ∨ W.heap.size ≤ b) : OwnL w W' (L.set k (.row e s v' n' xs')) :=
  h.step k hk hg (fun b hb => hb) ho hb
end Go.Proofs.YtmebgomnmlbgnaaDoor

namespace Go.Proofs.YtmebgomnmlbgnaaDoor
open Go.RowKit Go.Maps
set_option linter.unusedVariables false
set_option linter.unusedSimpArgs false
def setsAt (cs : Array Value) : Nat → List Value → Array Value
  | _, [] => cs
  | o, v :: r => setsAt (cs.setIfInBounds o v) (o + 1) r
theorem setCells_blk (g : Nat) (t : TypeId) : ∀ (vs : List Value) (o : Nat) (w : World) (cs : Array Value), w.heap[g]? = some (.cells cs t (0, 0)) → (w.setCells g o vs).heap[g]? = some (.cells (setsAt cs o vs) t (0, 0)) ∧ w.grownBy (w.setCells g o vs) (some g)
  | [], _, w, cs, h => ⟨h, World.grownBy.refl _ _⟩
  | v :: r, o, w, cs, h => by
    have h1 := heap_setCell_same w g o cs t v h
    obtain ⟨h2, h3⟩ := setCells_blk g t r (o + 1) _ _ h1
    refine ⟨h2, ⟨h3.os, h3.tape, h3.output, ?_, fun k hk hne => ?_⟩⟩
    · have h4 := h3.size
      show _ ≤ ((w.setCell ⟨g, o, none⟩ v).setCells g (o + 1) r).heap.size
      simpa using h4
    · refine (h3.block k (by simpa using hk) hne).trans (heap_setCell_other w ⟨g, o, none⟩ k v (fun e => hne (by simp [e])))
theorem setsAt_toList (vs : List Value) : ∀ (o : Nat) (cs : Array Value), o + vs.length ≤ cs.size → (setsAt cs o vs).toList = cs.toList.take o ++ vs ++ cs.toList.drop (o + vs.length) := by
  induction vs with
  | nil => intro o cs _; simp [setsAt]
  | cons v r ih =>
    intro o cs h
    simp only [List.length_cons] at h
    rw [setsAt, ih (o + 1) _ (by simp; omega)]
    have ho : o < cs.toList.length := by simp; omega
    rw [Array.toList_setIfInBounds, List.take_set, List.take_succ_eq_append_getElem ho]
    have hl : (cs.toList.take o).length = o := by simp; omega
    rw [List.set_append_right _ _ (by omega), hl, Nat.sub_self, List.set_cons_zero, List.drop_set_of_lt (by omega)]
    simp [List.append_assoc, Nat.add_comm, Nat.add_left_comm]
theorem setsAt_all (vs : List Value) (cs : Array Value) (h : vs.length = cs.size) : setsAt cs 0 vs = vs.toArray := by
  apply Array.ext'
  rw [setsAt_toList vs 0 cs (by omega)]
  simp [h]
section
variable {P : Program} {ops : Array Oper} {rest : List Oper} {o : Oper} {a : Act} {Q : Exit → Act → World → Prop}
theorem wpList_store_blk (w : World) (hgd : o.guard = none) (ty : TypeId) (x y : Operand) (ho : o.op = .store ty x y) (g : Nat) (t : TypeId) (cells cs : Array Value)
    (hx : a.eval x = .pointer (some ⟨g, 0, none⟩)) (hy : a.eval y = .agg cells) (hg : w.heap[g]? = some (.cells cs t (0, 0))) (hs : cells.size = cs.size) (hi : (P.info? ty).map (·.size) = some cells.size) (h1 : cells.all (·.oneCell') = true)
    (h : ∀ w', w'.heap[g]? = some (.cells cells t (0, 0)) → w.grownBy w' (some g) → wpList P ops Q rest (a.put o.dst undef) w') : wpList P ops Q (o :: rest) a w := by
  refine wpList_store_mid hgd ty x y ho g 0 cells hx hy (fun j hj => ?_) hi h1 ?_
  · rw [Nat.zero_add]
    refine ⟨?_, free_of_blk hg j⟩
    rw [cell_of_row w g j cs t (0, 0) hg]
    simp [show j < cs.size by omega]
  · obtain ⟨h2, h3⟩ := setCells_blk g t cells.toList 0 w cs hg
    rw [setsAt_all _ _ (by simpa using hs)] at h2
    exact h _ (by simpa using h2) h3
end
variable {κ : Type} [BEq κ] [LawfulBEq κ]
structure KeyEnc (P : Program) (k : TypeId) (enc : κ → Value) (ok : κ → Prop) : Prop where
  law : Keyed P k
  read : ∀ x, ok x → ∃ l, keyOf P k (enc x) = some l
  inj : ∀ x y, enc x = enc y → x = y
def getM (es : List (κ × Int)) (x : κ) : Option Int := (es.find? (fun p => p.1 == x)).map (·.2)
def MapIs (w : World) (b : Nat) (enc : κ → Value) (ok : κ → Prop) (es : List (κ × Int)) : Prop :=
  ∃ entries clock, w.heap[b]? = some (.map entries clock) ∧ entries.toList.map (fun e => (e.key, e.val)) = es.map (fun p => (enc p.1, .int .i64 p.2)) ∧ (∀ p ∈ es, ok p.1) ∧ es.Pairwise (fun p q => p.1 ≠ q.1)
omit [BEq κ] [LawfulBEq κ] in
theorem MapIs.made (w : World) (enc : κ → Value) (ok : κ → Prop) : MapIs (w.alloc (.map #[] 0)) w.heap.size enc ok [] :=
  ⟨#[], 0, heap_alloc_new w _, by simp, by simp, .nil⟩
omit [BEq κ] [LawfulBEq κ] in
theorem MapIs.lt {w : World} {b : Nat} {enc : κ → Value} {ok : κ → Prop} {es : List (κ × Int)} (h : MapIs w b enc ok es) : b < w.heap.size := by
  obtain ⟨_, _, hb, _⟩ := h
  exact lt_of_block hb
omit [BEq κ] [LawfulBEq κ] in
theorem MapIs.keep {w w' : World} {b : Nat} {enc : κ → Value} {ok : κ → Prop} {es : List (κ × Int)} (h : MapIs w b enc ok es) (e : w'.heap[b]? = w.heap[b]?) : MapIs w' b enc ok es := by
  obtain ⟨en, cl, hb, r⟩ := h
  exact ⟨en, cl, e.trans hb, r⟩
omit [BEq κ] [LawfulBEq κ] in
theorem MapIs.ext {w w' : World} {b : Nat} {enc : κ → Value} {ok : κ → Prop} {es : List (κ × Int)} (h : MapIs w b enc ok es) (e : Ext w w') : MapIs w' b enc ok es := h.keep (e.block b h.lt)
omit [BEq κ] [LawfulBEq κ] in
theorem MapIs.setCell {w : World} {b : Nat} {enc : κ → Value} {ok : κ → Prop} {es : List (κ × Int)} (h : MapIs w b enc ok es) (p : Addr) (hp : b ≠ p.block) (u : Value) : MapIs (w.setCell p u) b enc ok es := h.keep (heap_setCell_other w p b u hp)
theorem getM_of_mem {es : List (κ × Int)} (hp : es.Pairwise (fun p q => p.1 ≠ q.1)) {x : κ} {n : Int} (h : (x, n) ∈ es) : getM es x = some n := by
  induction es with
  | nil => cases h
  | cons p r ih =>
    obtain ⟨h1, h2⟩ := List.pairwise_cons.1 hp
    unfold getM
    rw [List.find?_cons]
    rcases List.mem_cons.1 h with rfl | h
    · simp
    · have : (p.1 == x) = false := by
        rw [beq_eq_false_iff_ne]
        exact h1 _ h
      rw [this]
      exact ih h2 h
theorem getM_none {es : List (κ × Int)} {x : κ} : getM es x = none ↔ ∀ p ∈ es, p.1 ≠ x := by
  simp [getM]
section
variable {P : Program} {k : TypeId} {enc : κ → Value} {ok : κ → Prop} {w : World} {b : Nat} {es : List (κ × Int)}
theorem find_is (K : KeyEnc P k enc ok) {entries : Array MapEntry} (he : entries.toList.map (fun e => (e.key, e.val)) = es.map (fun p => (enc p.1, .int .i64 p.2))) (hok : ∀ p ∈ es, ok p.1) (hp : es.Pairwise (fun p q => p.1 ≠ q.1)) {x : κ} (hx : ok x) :
    (getM es x = none ∧ (Instr.findKey k (enc x) entries.toList).run P w = .ok none w) ∨ ∃ n j, getM es x = some n ∧ (Instr.findKey k (enc x) entries.toList).run P w = .ok (some (j, .int .i64 n)) w := by
  obtain ⟨l, hl⟩ := K.read x hx
  have hmem : ∀ e ∈ entries.toList, ∃ p ∈ es, e.key = enc p.1 ∧ e.val = .int .i64 p.2 := fun e h => by
    have h1 : (e.key, e.val) ∈ es.map (fun p => (enc p.1, Value.int .i64 p.2)) := he ▸ List.mem_map.2 ⟨e, h, rfl⟩
    obtain ⟨p, hp, hpe⟩ := List.mem_map.1 h1
    simp only [Prod.mk.injEq] at hpe
    exact ⟨p, hp, hpe.1.symm, hpe.2.symm⟩
  rcases K.law.find w hl entries.toList (fun e h => by
    obtain ⟨p, hp, hk, _⟩ := hmem e h
    rw [hk]; exact K.read _ (hok p hp)) with ⟨h1, h2⟩ | ⟨j, e, h1, h2, h3⟩
  · refine .inl ⟨getM_none.2 (fun p hpm e => ?_), h1⟩
    have h4 : (enc p.1, Value.int .i64 p.2) ∈ entries.toList.map (fun e => (e.key, e.val)) := he ▸ List.mem_map.2 ⟨p, hpm, rfl⟩
    obtain ⟨e', he', hee⟩ := List.mem_map.1 h4
    simp only [Prod.mk.injEq] at hee
    exact h2 e' he' (by rw [hee.1, e])
  · obtain ⟨p, hpm, hk, hv⟩ := hmem e (List.mem_of_getElem? h2)
    have : p.1 = x := K.inj _ _ (hk.symm.trans h3)
    refine .inr ⟨p.2, j, getM_of_mem hp (by rw [← this]; exact hpm), by rw [← hv]; exact h1⟩
theorem run_lookup_is (K : KeyEnc P k enc ok) {t e : TypeId} (ht : P.underlying t = some (.map k e)) (hz : (zeroValue e).run P w = .ok (.int .i64 0) w) (h : MapIs w b enc ok es) {x : κ} (hx : ok x) (c : Bool) :
    (Instr.lookup t (.map (some b)) (enc x) c).run P w = .ok (if c then .tuple #[.int .i64 ((getM es x).getD 0), .bool (getM es x).isSome] else .int .i64 ((getM es x).getD 0)) w := by
  obtain ⟨en, cl, hb, he, hok, hp⟩ := h
  obtain ⟨l, hl⟩ := K.read x hx
  have hobj : (getObj b).run P w = .ok (.map en cl) w := by simp [getObj, Sem.run, hb]
  have hchk := K.law.check w en.isEmpty hl
  rcases find_is (w := w) K he hok hp hx with ⟨h1, h2⟩ | ⟨n, j, h1, h2⟩
  · cases c <;> simp [Instr.lookup, run_underlying ht, hobj, hchk, h2, h1, hz]
  · cases c <;> simp [Instr.lookup, run_underlying ht, hobj, hchk, h2, h1]
theorem run_update_new (K : KeyEnc P k enc ok) {t e : TypeId} (ht : P.underlying t = some (.map k e)) (h : MapIs w b enc ok es) {x : κ} (hx : ok x) (hn : getM es x = none) (n : Int) :
    ∃ w', (Instr.mapUpdate t (.map (some b)) (enc x) (.int .i64 n)).run P w = .ok () w' ∧ MapIs w' b enc ok (es ++ [(x, n)]) ∧ w.grownBy w' (some b) := by
  obtain ⟨en, cl, hb, he, hok, hp⟩ := h
  obtain ⟨l, hl⟩ := K.read x hx
  have hobj : (getObj b).run P w = .ok (.map en cl) w := by simp [getObj, Sem.run, hb]
  have hchk := K.law.check w false hl
  have hlt := lt_of_block hb
  rcases find_is (w := w) K he hok hp hx with ⟨h1, h2⟩ | ⟨m, j, h1, h2⟩
  · refine ⟨{ w with heap := w.heap.setIfInBounds b (.map (en.push { key := enc x, val := .int .i64 n, born := cl }) (cl + 1)) }, ?_, ?_, ?_⟩
    · simp [Instr.mapUpdate, run_underlying ht, hobj, hchk, h2, setObj, Sem.run, hb]
    · refine ⟨en.push { key := enc x, val := .int .i64 n, born := cl }, cl + 1, by simp [hlt], by simp [he], ?_, ?_⟩
      · intro p hpm
        rcases List.mem_append.1 hpm with hpm | hpm
        · exact hok p hpm
        · simp at hpm; subst hpm; exact hx
      · refine List.pairwise_append.2 ⟨hp, by simp, fun p hpm q hq => ?_⟩
        simp at hq; subst hq
        exact getM_none.1 h1 p hpm
    · exact ⟨rfl, rfl, rfl, by simp, fun i hi hne => by
        have : b ≠ i := fun e => hne (by rw [e])
        simp [Array.getElem?_setIfInBounds_ne this]⟩
  · rw [h1] at hn; cases hn
variable {ops : Array Oper} {rest : List Oper} {o : Oper} {a : Act} {Q : Exit → Act → World → Prop}
theorem wpList_lookup_is (hgd : o.guard = none) (m x : Operand) (t : TypeId) (c : Bool) (hop : o.op = Op.lookup t m x c) (e : TypeId) (K : KeyEnc P k enc ok) (ht : P.underlying t = some (.map k e)) (hz : (zeroValue e).run P w = .ok (.int .i64 0) w)
    (hm : a.eval m = .map (some b)) (h : MapIs w b enc ok es) (key : κ) (hkey : a.eval x = enc key) (hx : ok key)
    (hK : wpList P ops Q rest (a.put o.dst (if c then .tuple #[.int .i64 ((getM es key).getD 0), .bool (getM es key).isSome] else .int .i64 ((getM es key).getD 0))) w) : wpList P ops Q (o :: rest) a w := by
  refine wpList_plain hgd fun K' hK' => ?_
  have hrun := run_lookup_is K ht hz h hx c
  unfold Oper.wp
  simp only [execOp, hop, hm, hkey]
  simp [hrun, Result.andThen]
  exact hK' _ _ hK
theorem wpList_update_new (hgd : o.guard = none) (m x v : Operand) (t : TypeId) (hop : o.op = Op.mapUpdate t m x v) (e : TypeId) (K : KeyEnc P k enc ok) (ht : P.underlying t = some (.map k e))
    (hm : a.eval m = .map (some b)) (h : MapIs w b enc ok es) (key : κ) (hkey : a.eval x = enc key) (hx : ok key) (hn : getM es key = none) (n : Int) (hv : a.eval v = .int .i64 n)
    (hK : ∀ w', MapIs w' b enc ok (es ++ [(key, n)]) → w.grownBy w' (some b) → wpList P ops Q rest (a.put o.dst undef) w') : wpList P ops Q (o :: rest) a w := by
  refine wpList_plain hgd fun K' hK' => ?_
  obtain ⟨w', hrun, r1, r2⟩ := run_update_new K ht h hx hn n
  unfold Oper.wp
  simp only [execOp, hop, hm, hkey, hv]
  simp [hrun, Result.andThen]
  exact hK' _ _ (hK w' r1 r2)
omit [BEq κ] [LawfulBEq κ] in
theorem wpList_len_is (hgd : o.guard = none) (m : Operand) (t : TypeId) (hop : o.op = Op.call { callee := Callee.builtin Builtin.len, args := #[m], argTypes := #[t] }) {e : TypeId} (ht : P.underlying t = some (.map k e))
    (hm : a.eval m = .map (some b)) (h : MapIs w b enc ok es) (hK : wpList P ops Q rest (a.put o.dst (.int .i64 es.length)) w) : wpList P ops Q (o :: rest) a w := by
  refine wpList_plain hgd fun K' hK' => ?_
  obtain ⟨en, cl, hb, he, _, _⟩ := h
  have hlen : en.size = es.length := by
    have := congrArg List.length he
    simpa using this
  have hobj : (getObj b).run P w = .ok (.map en cl) w := by simp [getObj, Sem.run, hb]
  unfold Oper.wp
  simp [execOp, hop, resolve, invoke, builtin, hm, Builtin.len_, run_underlying ht, hobj, hlen, Result.andThen, goInt]
  exact hK' _ _ hK
end
end Go.Proofs.YtmebgomnmlbgnaaDoor

namespace Go.Proofs.YtmebgomnmlbgnaaDoor
set_option linter.unusedVariables false
set_option linter.unusedSimpArgs false
section
variable {P : Program} {ops : Array Oper} {Q : Exit → Act → World → Prop} {md : Region.Mode} {S : World → Prop} {B : Nat}
def wpAnyB (P : Program) (md : Region.Mode) (ops : Array Oper) (Q : Exit → Act → World → Prop) (S : World → Prop) (B : Nat) : Nat → Array Bool → Act → World → Prop
  | 0, listed, a, w => Region.ready md ops listed = [] ∧ Q .normal a w
  | fuel + 1, listed, a, w =>
    (Region.ready md ops listed = [] → Q .normal a w) ∧
    ∀ i ∈ Region.ready md ops listed, wpOp P ops Q i (fun a' w' => ((listed.setIfInBounds i true).getD B false = false → S w') ∧ wpAnyB P md ops Q S B fuel (listed.setIfInBounds i true) a' w') a w
theorem wpAny_of_B : ∀ (fuel : Nat) (listed : Array Bool) (a : Act) (w : World), wpAnyB P md ops Q S B fuel listed a w → wpAny P md ops Q fuel listed a w
  | 0, _, _, _, h => h
  | fuel + 1, _, _, _, h => ⟨h.1, fun i hi => wpOp_mono (fun a' w' h' => wpAny_of_B fuel _ a' w' h'.2) (h.2 i hi)⟩
def Waits (md : Region.Mode) (ops : Array Oper) (i : Nat) (D : List Nat) : Prop := ∀ j ∈ D, ∃ o, ops[j]? = some o ∧ ∃ e ∈ o.after, Region.binds md e = true ∧ (e.on = i ∨ e.on ∈ D)
theorem not_on {listed : Array Bool} {k : Nat} (h : listed.getD k false = true) (h' : listed.getD k true = false) : False := by
  rcases Nat.lt_or_ge k listed.size with hk | hk
  · simp [hk] at h h'; rw [h'] at h; cases h
  · simp [Array.getElem?_eq_none hk] at h
theorem ready_waits {listed : Array Bool} {i : Nat} {D : List Nat} (hD : Waits md ops i D) (hi : listed.getD i true = false) (hl : ∀ j ∈ D, listed.getD j false = false) {j : Nat} (hj : j ∈ D) : j ∉ Region.ready md ops listed := fun h => by
  obtain ⟨_, o', ho', hall⟩ := mem_ready.1 h
  obtain ⟨o, ho, e, he, hb, hon⟩ := hD j hj
  rw [ho] at ho'
  cases ho'
  have h1 := hall e he hb
  rcases hon with hon | hon
  · rw [hon] at h1; exact not_on h1 hi
  · rw [hl _ hon] at h1; cases h1
theorem wpAnyB_first {i : Nat} {oi : Oper} {v : Value} (hi : ops[i]? = some oi) (hsel : ∀ (j : Nat) (o : Oper) cs b, ops[j]? = some o → o.op ≠ .select cs b)
    (hQ : ∀ c a w, Q (.panic c) (a.put oi.dst v) w → Q (.panic c) a w) {D : List Nat} (hD : Waits md ops i D) (hBD : B ∈ D) (hiB : i ≠ B) :
    ∀ (fuel : Nat) (listed : Array Bool) (a : Act) (w : World),
      (∀ j oj, ops[j]? = some oj → j ≠ i → listed.getD j true = false → (∀ e ∈ oj.after, Region.binds md e = true → e.on ≠ i) → oi.apart ops oj = true) →
      i ∈ Region.ready md ops listed → (∀ j ∈ D, listed.getD j false = false) → YieldsIf P ops S oi v a → S w →
      wpAnyB P md ops Q S B fuel (listed.setIfInBounds i true) (a.put oi.dst v) w → wpAnyB P md ops Q S B (fuel + 1) listed a w := by
  intro fuel
  induction fuel with
  | zero =>
    intro listed a w _ hr hB hy hS H
    refine ⟨fun h => (by rw [h] at hr; cases hr), fun j hj => ?_⟩
    by_cases hji : j = i
    · subst hji; exact hy.wpOp hi hS ⟨fun _ => hS, H⟩
    · have := ready_mono hj hji
      rw [H.1] at this
      cases this
  | succ fuel ih =>
    intro listed a w hfree hr hB hy hS H
    refine ⟨fun h => (by rw [h] at hr; cases hr), fun j hj => ?_⟩
    by_cases hji : j = i
    · subst hji; exact hy.wpOp hi hS ⟨fun _ => hS, H⟩
    · have h1 := H.2 j (ready_mono hj hji)
      obtain ⟨hjun, oj, hoj, hall⟩ := mem_ready.1 hj
      have hjD : j ∉ D := fun e => ready_waits hD (mem_ready.1 hr).1 hB e hj
      have hjB : j ≠ B := fun e => hjD (e ▸ hBD)
      have hnot : ∀ e ∈ oj.after, Region.binds md e = true → e.on ≠ i := fun e he hb heq => by
        have h1 := hall e he hb
        have h0 := (mem_ready.1 hr).1
        rw [heq] at h1
        rcases Nat.lt_or_ge i listed.size with h' | h'
        · simp [h'] at h0 h1; rw [h0] at h1; cases h1
        · simp [Array.getElem?_eq_none h'] at h1
      have h2 := wpOp_putIf hoj (hfree j oj hoj hji hjun hnot) (fun cs b => hsel i oi cs b hi) (fun cs b => hsel j oj cs b hoj) hQ hy h1
      have hfree' : ∀ k ok, ops[k]? = some ok → k ≠ i → (listed.setIfInBounds j true).getD k true = false →
          (∀ e ∈ ok.after, Region.binds md e = true → e.on ≠ i) → oi.apart ops ok = true := fun k ok hk hki hun hno => by
        refine hfree k ok hk hki ?_ hno
        by_cases hjk : j = k
        · subst hjk; exact hjun
        · rw [getD_set_ne true hjk] at hun; exact hun
      have hB' : ∀ k ∈ D, (listed.setIfInBounds j true).getD k false = false := fun k hk => by rw [getD_set_ne false (fun e => hjD (by rw [e]; exact hk))]; exact hB k hk
      have hB2 : ((listed.setIfInBounds i true).setIfInBounds j true).getD B false = false := by rw [getD_set_ne false hjB, getD_set_ne false hiB]; exact hB B hBD
      refine wpOp_mono (fun a' w' h3 => ⟨fun _ => h3.2.1 hB2, ih (listed.setIfInBounds j true) a' w' hfree' (ready_mono hr (Ne.symm hji)) hB' h3.1 (h3.2.1 hB2) ?_⟩) h2
      rw [Array.setIfInBounds_comm _ _ hji]
      exact h3.2.2
theorem wpAnyB_of_any : ∀ (fuel : Nat) (listed : Array Bool) (a : Act) (w : World), listed.getD B false = true → wpAny P md ops Q fuel listed a w → wpAnyB P md ops Q S B fuel listed a w
  | 0, _, _, _, _, h => h
  | fuel + 1, listed, a, w, hB, h => ⟨h.1, fun i hi => wpOp_mono (fun a' w' h' => by
      have hb : (listed.setIfInBounds i true).getD B false = true := by
        by_cases hiB : i = B
        · subst hiB
          rcases Nat.lt_or_ge i listed.size with h' | h'
          · simp [h']
          · simp [Array.getElem?_eq_none h'] at hB
        · rw [getD_set_ne false hiB]; exact hB
      exact ⟨fun hf => (by rw [hb] at hf; cases hf), wpAnyB_of_any fuel _ a' w' hb h'⟩) (h.2 i hi)⟩
end
section
variable {P : Program} {l : List Oper} {Q : Exit → Act → World → Prop} {S : World → Prop} {B : Nat}
def depsOf (l : List Oper) (i : Nat) : List Nat := (List.range l.length).foldl (fun D j => match l[j]? with | some o => if o.after.any (fun e => Region.binds .any e && (decide (e.on = i) || D.contains e.on)) then j :: D else D | none => D) []
def barB (l : List Oper) (listed : Array Bool) (B i : Nat) : Bool :=
  let D := depsOf l i
  D.contains B && decide (i ≠ B) && D.all (fun j => (match l[j]? with | some o => o.after.any (fun e => Region.binds .any e && (decide (e.on = i) || D.contains e.on)) | none => false) && !(listed.getD j false))
theorem wpAnyB_take {i : Nat} {oi : Oper} {rest : List Oper} {v : Value} {fuel : Nat} {listed : Array Bool} {a : Act} {w : World} (hi : l.drop i = oi :: rest)
    (hs : Region.noSelect l.toArray = true) (hf : Region.free .any l.toArray listed i = true) (hr : (Region.ready .any l.toArray listed).contains i = true) (hb : barB l listed B i = true)
    (hQ : ∀ c a w, Q (.panic c) (a.put oi.dst v) w → Q (.panic c) a w) (hy : YieldsIf P l.toArray S oi v a) (hS : S w)
    (h : wpAnyB P .any l.toArray Q S B fuel (listed.setIfInBounds i true) (a.put oi.dst v) w) : wpAnyB P .any l.toArray Q S B (fuel + 1) listed a w := by
  have hi' : l.toArray[i]? = some oi := by
    have := congrArg (fun x => x[0]?) hi
    simpa using this
  unfold barB at hb
  simp only [Bool.and_eq_true, decide_eq_true_eq] at hb
  obtain ⟨⟨h1, h2⟩, h3⟩ := hb
  rw [List.all_eq_true] at h3
  have hD : Waits .any l.toArray i (depsOf l i) := fun j hj => by
    have := h3 j hj
    rw [Bool.and_eq_true] at this
    cases hoj : l[j]? with
    | none => rw [hoj] at this; simp at this
    | some o =>
      rw [hoj] at this
      obtain ⟨k, hk, hk2⟩ := Array.any_eq_true.1 this.1
      simp only [Bool.and_eq_true, Bool.or_eq_true, decide_eq_true_eq] at hk2
      exact ⟨o, by simpa using hoj, _, Array.getElem_mem hk, hk2.1, hk2.2.imp id (fun h => by simpa using h)⟩
  exact wpAnyB_first hi' (Region.noSelect_spec hs) hQ hD (by simpa using h1) h2 fuel listed a w (Region.free_spec hi' hf) (by simpa using hr) (fun j hj => by
    have := h3 j hj
    rw [Bool.and_eq_true] at this
    simpa using this.2) hy hS h
def AllB (P : Program) (l : List Oper) (Q : Exit → Act → World → Prop) (S : World → Prop) (B fuel : Nat) (listed : Array Bool) (a : Act) (w : World) (rs : List Nat) : Prop :=
  ∀ i ∈ rs, wpOp P l.toArray Q i (fun a' w' => ((listed.setIfInBounds i true).getD B false = false → S w') ∧ wpAnyB P .any l.toArray Q S B fuel (listed.setIfInBounds i true) a' w') a w
theorem AllB.nil {fuel : Nat} {listed : Array Bool} {a : Act} {w : World} : AllB P l Q S B fuel listed a w [] := fun _ h => by cases h
theorem AllB.cons {fuel : Nat} {listed : Array Bool} {a : Act} {w : World} {i : Nat} {o : Oper} {rs : List Nat} {rest : List Oper} (ho : l.drop i = o :: rest)
    (h : ∀ K' : Act → World → Prop, Shut (∀ a w, S w → wpAnyB P .any l.toArray Q S B fuel (listed.setIfInBounds i true) a w → K' a w) → if Region.wanted o (yielded l.toArray a.tmps) = true then Oper.wp P o a w K' Q else K' (a.put o.dst undef) w)
    (hs : AllB P l Q S B fuel listed a w rs) : AllB P l Q S B fuel listed a w (i :: rs) := fun j hj => by
  have ho' : l.toArray[i]? = some o := by
    have := congrArg (fun x => x[0]?) ho
    simpa using this
  rcases List.mem_cons.1 hj with rfl | hj
  · exact wpOp_step ho' (fun K' hK => h K' (fun a w hS hW => hK a w ⟨fun _ => hS, hW⟩))
  · exact hs j hj
theorem wpAnyB_ready {rs : List Nat} {fuel : Nat} {listed : Array Bool} {a : Act} {w : World} (hr : Region.ready .any l.toArray listed = rs) (hne : rs ≠ [])
    (h : AllB P l Q S B fuel listed a w rs) : wpAnyB P .any l.toArray Q S B (fuel + 1) listed a w := ⟨fun h0 => absurd (hr ▸ h0) hne, hr ▸ h⟩
theorem wpAnyB_tail {o : Oper} {rest : List Oper} {fuel : Nat} {listed : Array Bool} {a : Act} {w : World} (hl : l.drop B = o :: rest) (hf : (o :: rest).length = fuel) (hlt : B < listed.size)
    (hB : Region.seqB .any l.toArray fuel B listed = true) (h : wpList P l.toArray Q (o :: rest) a w) : wpAnyB P .any l.toArray Q S B fuel listed a w := by
  subst hf
  have hlj : ∀ j, (o :: rest)[j]? = l.toArray[B + j]? := fun j => by rw [← hl]; simp [List.getElem?_drop]
  have h0 : l.toArray[B]? = some o := by simpa using (hlj 0).symm
  simp only [List.length_cons, Region.seqB, Bool.and_eq_true, decide_eq_true_eq] at hB
  refine ⟨fun h1 => (by rw [hB.1] at h1; cases h1), fun i hi => ?_⟩
  rw [hB.1] at hi
  have hik : i = B := by simpa using hi
  subst hik
  have hw : wpOp P l.toArray Q i (wpList P l.toArray Q rest) a w := by unfold wpOp; simp only [h0]; exact h
  have hb : (listed.setIfInBounds i true).getD i false = true := by simp [hlt]
  exact wpOp_mono (fun a' w' h' => ⟨fun hf => (by rw [hb] at hf; cases hf), wpAnyB_of_any _ _ _ _ hb (wpAny_of_seq rest (i + 1) _ a' w' (fun j => by have := hlj (j + 1); simpa [Nat.add_assoc, Nat.add_comm 1 j] using this) hB.2 h')⟩) hw
theorem wp_region_bar {id : Nat} {a : Act} {w : World} (B : Nat) (S : World → Prop) (hm : P.follows .mixedOrders = true)
    (h : wpAnyB P .any l.toArray Q S B l.toArray.size (Array.replicate l.toArray.size false) a w.drew) : (Code.region id l.toArray true).wp P Q a w := wp_region_any hm (wpAny_of_B _ _ _ _ h)
end
end Go.Proofs.YtmebgomnmlbgnaaDoor

namespace Go.Proofs.YtmebgomnmlbgnaaDoor
open Go.RowKit
set_option linter.unusedVariables false
set_option linter.unusedSimpArgs false
namespace RI
section
variable {P : Program} {ops : Array Oper} {md : Region.Mode} {Φ : Nat → Bool} {A : Nat → List Nat} {I : Vals → World → Prop}
def Sub (F G : Vals) : Prop := ∀ k v, F k = some v → G k = some v
def Agree (F G : Vals) (L : List Nat) : Prop := ∀ k ∈ L, ∀ v, F k = some v → G k = some v
def Met (I : Vals → World → Prop) (F : Vals) : Prop := ∃ G w, I G w ∧ Sub F G
theorem Sub.agree {F G : Vals} (h : Sub F G) (L : List Nat) : Agree F G L := fun k _ v hv => h k v hv
theorem Sub.put {F G : Vals} (h : Sub F G) (i : Nat) (v : Value) : Sub (F.put i v) (G.put i v) := fun k u hk => by
  unfold Vals.put at hk ⊢
  split
  · rename_i e; rw [if_pos e] at hk; exact hk
  · rename_i e; rw [if_neg e] at hk; exact h k u hk
theorem Sub.put_of {F G : Vals} (h : Sub F G) {i : Nat} {v : Value} (hi : G i = some v) : Sub (F.put i v) G := fun k u hk => by
  unfold Vals.put at hk
  split at hk
  · rename_i e; subst e; cases hk; exact hi
  · exact h k u hk
theorem sub_refl (F : Vals) : Sub F F := fun _ _ h => h
theorem Met.back {F : Vals} {i : Nat} {v : Value} (h : Met I (F.put i v)) (hF : F i = none) : Met I F := by
  obtain ⟨G, w, hI, hs⟩ := h
  refine ⟨G, w, hI, fun k u hk => hs k u ?_⟩
  unfold Vals.put
  split
  · rename_i e; subst e; rw [hF] at hk; cases hk
  · exact hk
theorem agree_put {F G : Vals} {i : Nat} {v : Value} {L : List Nat} (hi : i ∉ L) : Agree (F.put i v) G L ↔ Agree F G L := by
  have e : ∀ j ∈ L, (F.put i v) j = F j := fun j hj => by
    have hne : j ≠ i := fun e => by subst e; exact hi hj
    simp [Vals.put, hne]
  constructor
  · intro h j hj u hu; exact h j hj u ((e j hj).trans hu)
  · intro h j hj u hu; exact h j hj u ((e j hj).symm.trans hu)
def Gave (K : Value → World → Prop) (e : Ending) (w'' : World) : Prop := ∃ v, e = .returned v ∧ K v w''
def givesV (P : Program) (K : Value → World → Prop) : Result Next → Prop
  | .ok (.value v) w' => K v w'
  | .ok .skip w' => K undef w'
  | .ok (.enter f args) w' => Calls P f args w' (Gave K)
  | _ => False
def Oper.gives (P : Program) (o : Oper) (a : Act) (w : World) (K : Value → World → Prop) : Prop := givesV P K ((execOp a.eval o).run P w)
theorem gives_some {o : Oper} {a : Act} {w : World} {K : Value → World → Prop} (h : Oper.gives P o a w K) : ∃ v w', K v w' := by
  unfold Oper.gives at h
  generalize (execOp a.eval o).run P w = r at h
  cases r with
  | halt x w' => exact h.elim
  | ok n w' =>
    cases n <;> simp only [givesV] at h
    case enter f args =>
      obtain ⟨e, w1, fr, ⟨v, _, h1⟩, _⟩ := h []
      exact ⟨v, w1, h1⟩
    all_goals first | exact ⟨_, _, h⟩ | exact h.elim
theorem wp_of_gives {o : Oper} {a : Act} {w : World} {K0 : Value → World → Prop} {K : Act → World → Prop} {Q : Exit → Act → World → Prop} (h : Oper.gives P o a w K0) (hK : ∀ v w', K0 v w' → K (a.put o.dst v) w') : o.wp P a w K Q := by
  unfold Oper.gives at h
  unfold Oper.wp
  generalize (execOp a.eval o).run P w = r at h
  cases r with
  | halt x w' => exact h.elim
  | ok n w' =>
    cases n <;> simp only [givesV] at h <;> simp only [Oper.upon]
    case enter f args =>
      refine h.mono fun e w1 hR => ?_
      obtain ⟨u, rfl, h1⟩ := hR
      exact hK u w1 h1
    all_goals first | exact h.elim | exact hK _ _ h
def opL (I : Vals → World → Prop) (P : Program) (ops : Array Oper) (Φ : Nat → Bool) (A : Nat → List Nat) (i : Nat) (K : Vals → Act → Prop) (F : Vals) (a : Act) : Prop :=
  match ops[i]? with
  | none => K F a
  | some o =>
    if Region.wanted o (yielded ops a.tmps) then
      match Φ i with
      | false => ∃ v, (∀ G w, I G w → Agree F G (A i) → Oper.quietV P o a w v) ∧ K F (a.put o.dst v)
      | true => (∀ G w, I G w → Agree F G (A i) → G i = none → Oper.gives P o a w (fun v w' => I (G.put i v) w')) ∧ ∀ v, Met I (F.put i v) → K (F.put i v) (a.put o.dst v)
    else K F (a.put o.dst undef)
theorem opL_mono {i : Nat} {K K' : Vals → Act → Prop} {F : Vals} {a : Act} (hm : Met I F) (h : ∀ F' a', Met I F' → (∀ k, k ≠ i → F' k = F k) → K F' a' → K' F' a') (hh : opL I P ops Φ A i K F a) : opL I P ops Φ A i K' F a := by
  unfold opL at *
  split
  · rename_i ho; simp only [ho] at hh; exact h _ _ hm (fun _ _ => rfl) hh
  · rename_i o ho
    simp only [ho] at hh
    split
    · rename_i hw
      simp only [hw, if_true] at hh
      split
      · rename_i hp
        simp only [hp] at hh
        obtain ⟨v, h1, h2⟩ := hh
        exact ⟨v, h1, h _ _ hm (fun _ _ => rfl) h2⟩
      · rename_i hp
        simp only [hp] at hh
        exact ⟨hh.1, fun v hv => h _ _ hv (fun k hk => by unfold Vals.put; rw [if_neg hk]) (hh.2 v hv)⟩
    · rename_i hw
      simp only [hw, if_false, Bool.false_eq_true] at hh
      exact h _ _ hm (fun _ _ => rfl) hh
def anyL (I : Vals → World → Prop) (P : Program) (md : Region.Mode) (ops : Array Oper) (Φ : Nat → Bool) (A : Nat → List Nat) (n g : Nat) (Q : Vals → Act → Prop) : Nat → Array Bool → Vals → Act → Prop
  | 0, listed, F, a => Region.seqB md ops g n listed = true ∧ Q F a
  | fuel + 1, listed, F, a => Region.ready md ops listed ≠ [] ∧ ∀ i ∈ Region.ready md ops listed, opL I P ops Φ A i (anyL I P md ops Φ A n g Q fuel (listed.setIfInBounds i true)) F a
theorem none_set {listed : Array Bool} {F F' : Vals} {j : Nat} (hjun : listed.getD j true = false) (hN : ∀ k, listed.getD k true = false → F k = none) (hF : ∀ k, k ≠ j → F' k = F k) : ∀ k, (listed.setIfInBounds j true).getD k true = false → F' k = none := fun k hk => by
  by_cases hjk : j = k
  · subst hjk
    have hlt : j < listed.size := by
      rcases Nat.lt_or_ge j listed.size with h' | h'
      · exact h'
      · simp [Array.getElem?_eq_none h'] at hjun
    simp [hlt] at hk
  · rw [getD_set_ne true hjk] at hk
    rw [hF k (Ne.symm hjk)]; exact hN k hk
theorem wpAny_of_anyL {n g : Nat} {Q : Vals → Act → Prop} {Q' : Exit → Act → World → Prop} (hQ : ∀ listed F a w, I F w → Region.seqB md ops g n listed = true → Q F a → wpAny P md ops Q' g listed a w) :
    ∀ (fuel : Nat) (listed : Array Bool) (F : Vals) (a : Act) (w : World), I F w → (∀ k, listed.getD k true = false → F k = none) → anyL I P md ops Φ A n g Q fuel listed F a → wpAny P md ops Q' (fuel + g) listed a w
  | 0, listed, F, a, w, hw, hN, h => by rw [Nat.zero_add]; exact hQ listed F a w hw h.1 h.2
  | fuel + 1, listed, F, a, w, hw, hN, h => by
    rw [Nat.add_right_comm]
    refine ⟨fun h0 => absurd h0 h.1, fun i hi => ?_⟩
    have h1 := h.2 i hi
    have hun := (mem_ready.1 hi).1
    have hN1 := none_set hun hN (F' := F) (fun _ _ => rfl)
    unfold opL at h1
    unfold wpOp
    split
    · rename_i ho; simp only [ho] at h1; exact wpAny_of_anyL hQ fuel _ _ _ _ hw hN1 h1
    · rename_i o ho
      simp only [ho] at h1
      split
      · rename_i hwd
        simp only [hwd, if_true] at h1
        left
        split at h1
        · obtain ⟨v, h2, h3⟩ := h1
          exact wp_of_quietV (h2 F w hw ((sub_refl F).agree _)) (wpAny_of_anyL hQ fuel _ _ _ _ hw hN1 h3)
        · refine wp_of_gives (h1.1 F w hw ((sub_refl F).agree _) (hN i hun)) fun v w' he => ?_
          exact wpAny_of_anyL hQ fuel _ _ _ _ he (none_set hun hN (fun k hk => by unfold Vals.put; rw [if_neg hk])) (h1.2 v ⟨_, w', he, sub_refl _⟩)
      · rename_i hwd
        simp only [hwd, if_false, Bool.false_eq_true] at h1
        exact wpAny_of_anyL hQ fuel _ _ _ _ hw hN1 h1
theorem opL_some {i : Nat} {K : Vals → Act → Prop} {F : Vals} {a : Act} {o : Oper} (hm : Met I F) (hp : ∀ G w, I G w → Agree F G (A i) → G i = none → Oper.gives P o a w (fun v w' => I (G.put i v) w')) : ∃ v, Met I (F.put i v) := by
  obtain ⟨G, w, hI, hs⟩ := hm
  cases hg : G i with
  | some v => exact ⟨v, G, w, hI, hs.put_of hg⟩
  | none =>
    obtain ⟨v, w', h⟩ := gives_some (hp G w hI (hs.agree _) hg)
    exact ⟨v, _, w', h, hs.put i v⟩
theorem anyL_first {n g i : Nat} {oi : Oper} {Q : Vals → Act → Prop} (hi : ops[i]? = some oi) (hsel : ∀ (j : Nat) (o : Oper) cs b, ops[j]? = some o → o.op ≠ .select cs b) (hA : ancB md ops A n = true) (hin : i < n) :
    ∀ (fuel : Nat) (listed : Array Bool) (F : Vals) (a : Act), Met I F → (∀ k, listed.getD k true = false → F k = none) → Closed md ops A n listed →
      (∀ j oj, ops[j]? = some oj → j ≠ i → listed.getD j true = false → (∀ e ∈ oj.after, Region.binds md e = true → e.on ≠ i) → oi.apart ops oj = true) →
      i ∈ Region.ready md ops listed → opL I P ops Φ A i (anyL I P md ops Φ A n g Q fuel (listed.setIfInBounds i true)) F a →
      anyL I P md ops Φ A n g Q (fuel + 1) listed F a := by
  intro fuel
  induction fuel with
  | zero =>
    intro listed F a hm hN hc hfree hr H
    refine ⟨fun h => (by rw [h] at hr; cases hr), fun j hj => ?_⟩
    by_cases hji : j = i
    · subst hji; exact H
    · exfalso
      have hj' := ready_mono hj hji
      have hs : Region.seqB md ops g n (listed.setIfInBounds i true) = true := by
        unfold opL at H
        simp only [hi] at H
        split at H
        · split at H
          · obtain ⟨_, _, h⟩ := H; exact h.1
          · obtain ⟨v, hv⟩ := opL_some (K := fun _ _ => True) hm H.1
            exact (H.2 v hv).1
        · exact H.1
      have hnj := seqB_ready hs j hj'
      have h1 := ancB_tail hA hc hj hnj hin
      have h0 := (mem_ready.1 hr).1
      rw [getD_both h0] at h1
      cases h1
  | succ fuel ih =>
    intro listed F a hm hN hc hfree hr H
    refine ⟨fun h => (by rw [h] at hr; cases hr), fun j hj => ?_⟩
    by_cases hji : j = i
    · subst hji; exact H
    · obtain ⟨hjun, oj, hoj, hall⟩ := mem_ready.1 hj
      have hiun := (mem_ready.1 hr).1
      have hnot : ∀ e ∈ oj.after, Region.binds md e = true → e.on ≠ i := fun e he hb heq => by
        have h1 := hall e he hb
        rw [heq, getD_both hiun] at h1
        cases h1
      have hap := hfree j oj hoj hji hjun hnot
      have hij : i ∉ A j := not_mem_of_ready hA hc hr hj
      have hjiA : j ∉ A i := not_mem_of_ready hA hc hj hr
      have hsi := fun cs b => hsel i oi cs b hi
      have hsj := fun cs b => hsel j oj cs b hoj
      have hr' := ready_mono hr (Ne.symm hji)
      have hj' := ready_mono hj hji
      have hc' := Closed.set hA hc hj
      have hfree' : ∀ k ok, ops[k]? = some ok → k ≠ i → (listed.setIfInBounds j true).getD k true = false →
          (∀ e ∈ ok.after, Region.binds md e = true → e.on ≠ i) → oi.apart ops ok = true := fun k ok hk hki hun hno => by
        refine hfree k ok hk hki ?_ hno
        by_cases hjk : j = k
        · subst hjk; exact hjun
        · rw [getD_set_ne true hjk] at hun; exact hun
      have hN' : ∀ F' : Vals, (∀ k, k ≠ j → F' k = F k) → ∀ k, (listed.setIfInBounds j true).getD k true = false → F' k = none := fun F' hF => none_set hjun hN hF
      suffices hh : opL I P ops Φ A j (fun F' a' => opL I P ops Φ A i (anyL I P md ops Φ A n g Q fuel ((listed.setIfInBounds j true).setIfInBounds i true)) F' a') F a by
        exact opL_mono hm (fun F' a' hm' hF hK => ih _ F' a' hm' (hN' F' hF) hc' hfree' hr' hK) hh
      have hcomm : (listed.setIfInBounds j true).setIfInBounds i true = (listed.setIfInBounds i true).setIfInBounds j true := Array.setIfInBounds_comm _ _ hji
      rw [hcomm]
      generalize hX : anyL I P md ops Φ A n g Q fuel ((listed.setIfInBounds i true).setIfInBounds j true) = X
      have HX : opL I P ops Φ A i (fun F' a' => opL I P ops Φ A j X F' a') F a := by
        refine opL_mono hm (fun F' a' _ _ h => ?_) H
        have h1 := h.2 j hj'
        rw [hX] at h1
        exact h1
      clear H hX ih
      have e0 := fun v => opL_put (ops := ops) (v := v) hap hsj a
      unfold opL at HX
      simp only [hi] at HX
      by_cases hwi : Region.wanted oi (yielded ops a.tmps) = true
      · simp only [hwi, if_true] at HX
        cases hpi : Φ i with
        | false =>
          simp only [hpi] at HX
          obtain ⟨v, hq, HX⟩ := HX
          have hq' : ∀ u F', (∀ k, k ≠ j → F' k = F k) → ∀ G w, I G w → Agree F' G (A i) → Oper.quietV P oi (a.put oj.dst u) w v := fun u F' hF G w hw hk => by
            have := hq G w hw (fun k hk' z h2 => hk k hk' z ((hF k (fun e => hjiA (e ▸ hk'))).trans h2))
            unfold Oper.quietV at this ⊢
            rw [((e0 v).2.2.2 u hsi).1]; exact this
          have fin : ∀ u F', (∀ k, k ≠ j → F' k = F k) → X F' ((a.put oj.dst u).put oi.dst v) → opL I P ops Φ A i X F' (a.put oj.dst u) := fun u F' hF h => by
            unfold opL
            simp only [hi, ((e0 v).2.2.2 u hsi).2, hwi, if_true, hpi]
            exact ⟨v, hq' u F' hF, h⟩
          unfold opL
          simp only [hoj] at HX ⊢
          rw [(e0 v).2.1] at HX
          split at HX
          · rename_i hwj
            rw [if_pos hwj]
            cases hpj : Φ j with
            | false =>
              simp only [hpj] at HX ⊢
              obtain ⟨u, h1, h2⟩ := HX
              refine ⟨u, fun G w hw hk => ?_, ?_⟩
              · have := h1 G w hw hk
                unfold Oper.quietV at this ⊢
                rwa [(e0 v).1] at this
              · rw [(e0 v).2.2.1] at h2
                have := fin u F (fun _ _ => rfl) h2
                unfold opL at this; exact this
            | true =>
              simp only [hpj] at HX ⊢
              refine ⟨fun G w hw hk hg => ?_, fun u hu => ?_⟩
              · have := HX.1 G w hw hk hg
                unfold Oper.gives at this ⊢
                rwa [(e0 v).1] at this
              · have h2 := HX.2 u hu
                rw [(e0 v).2.2.1] at h2
                have := fin u (F.put j u) (fun k hk => by unfold Vals.put; rw [if_neg hk]) h2
                unfold opL at this; exact this
          · rename_i hwj
            rw [if_neg hwj]
            rw [(e0 v).2.2.1] at HX
            have := fin undef F (fun _ _ => rfl) HX
            unfold opL at this; exact this
        | true =>
          simp only [hpi] at HX
          obtain ⟨hq, HX⟩ := HX
          obtain ⟨vs, hms⟩ := opL_some (K := fun _ _ => True) hm hq
          obtain ⟨G0, w0, hI0, hs0⟩ := hm
          have hq' : ∀ u F', (∀ k, k ≠ j → F' k = F k) → ∀ G w, I G w → Agree F' G (A i) → G i = none → Oper.gives P oi (a.put oj.dst u) w (fun v w' => I (G.put i v) w') := fun u F' hF G w hw hk hg => by
            have := hq G w hw (fun k hk' z h2 => hk k hk' z ((hF k (fun e => hjiA (e ▸ hk'))).trans h2)) hg
            unfold Oper.gives at this ⊢
            rw [((e0 vs).2.2.2 u hsi).1]; exact this
          have fin : ∀ u F', (∀ k, k ≠ j → F' k = F k) → (∀ v, Met I (F'.put i v) → X (F'.put i v) ((a.put oj.dst u).put oi.dst v)) → opL I P ops Φ A i X F' (a.put oj.dst u) := fun u F' hF h => by
            unfold opL
            simp only [hi, ((e0 vs).2.2.2 u hsi).2, hwi, if_true, hpi]
            exact ⟨hq' u F' hF, h⟩
          have Hs := HX vs hms
          unfold opL at Hs ⊢
          simp only [hoj] at Hs ⊢
          rw [(e0 vs).2.1] at Hs
          by_cases hwj : Region.wanted oj (yielded ops a.tmps) = true
          · rw [if_pos hwj] at Hs ⊢
            cases hpj : Φ j with
            | false =>
              simp only [hpj] at Hs ⊢
              obtain ⟨u, h1, _⟩ := Hs
              have hu : ∀ G w, I G w → Agree F G (A j) → Oper.quietV P oj a w u := fun G w hw hk => by
                have := h1 G w hw ((agree_put hij).2 hk)
                unfold Oper.quietV at this ⊢
                rwa [(e0 vs).1] at this
              refine ⟨u, hu, ?_⟩
              have := fin u F (fun _ _ => rfl) (fun v hv => by
                have h2 := HX v hv
                unfold opL at h2
                simp only [hoj, (e0 v).2.1, hwj, if_true, hpj] at h2
                obtain ⟨u', h3, h4⟩ := h2
                have h5 : Oper.quietV P oj a w0 u' := by
                  have := h3 G0 w0 hI0 ((agree_put hij).2 (hs0.agree _))
                  unfold Oper.quietV at this ⊢
                  rwa [(e0 v).1] at this
                have e1 : u' = u := Oper.quietV_one h5 (hu G0 w0 hI0 (hs0.agree _))
                subst e1
                rw [(e0 v).2.2.1] at h4
                exact h4)
              unfold opL at this; exact this
            | true =>
              simp only [hpj] at Hs ⊢
              refine ⟨fun G w hw hk hg => ?_, fun u hu => ?_⟩
              · have := Hs.1 G w hw ((agree_put hij).2 hk) hg
                unfold Oper.gives at this ⊢
                rwa [(e0 vs).1] at this
              · have hFj : ∀ k, k ≠ j → (F.put j u) k = F k := fun k hk => by unfold Vals.put; rw [if_neg hk]
                have := fin u (F.put j u) hFj (fun v hv => by
                  rw [Vals.put_comm F hji u v] at hv ⊢
                  have hv' : Met I (F.put i v) := by
                    refine hv.back ?_
                    unfold Vals.put
                    rw [if_neg hji]
                    exact hN j hjun
                  have h2 := HX v hv'
                  unfold opL at h2
                  simp only [hoj, (e0 v).2.1, hwj, if_true, hpj] at h2
                  have h4 := h2.2 u hv
                  rw [(e0 v).2.2.1] at h4
                  exact h4)
                unfold opL at this; exact this
          · rw [if_neg hwj] at Hs ⊢
            have := fin undef F (fun _ _ => rfl) (fun v hv => by
              have h2 := HX v hv
              unfold opL at h2
              simp only [hoj, (e0 v).2.1, hwj, if_false, Bool.false_eq_true] at h2
              rw [(e0 v).2.2.1] at h2
              exact h2)
            unfold opL at this; exact this
      · simp only [hwi, if_false, Bool.false_eq_true] at HX
        have fin : ∀ u F', X F' ((a.put oj.dst u).put oi.dst undef) → opL I P ops Φ A i X F' (a.put oj.dst u) := fun u F' h => by
          unfold opL
          simp only [hi, ((e0 undef).2.2.2 u hsi).2, hwi, if_false, Bool.false_eq_true]
          exact h
        unfold opL
        simp only [hoj] at HX ⊢
        rw [(e0 undef).2.1] at HX
        split at HX
        · rename_i hwj
          rw [if_pos hwj]
          cases hpj : Φ j with
          | false =>
            simp only [hpj] at HX ⊢
            obtain ⟨u, h1, h2⟩ := HX
            refine ⟨u, fun G w hw hk => ?_, ?_⟩
            · have := h1 G w hw hk
              unfold Oper.quietV at this ⊢
              rwa [(e0 undef).1] at this
            · rw [(e0 undef).2.2.1] at h2
              have := fin u F h2
              unfold opL at this; exact this
          | true =>
            simp only [hpj] at HX ⊢
            refine ⟨fun G w hw hk hg => ?_, fun u hu => ?_⟩
            · have := HX.1 G w hw hk hg
              unfold Oper.gives at this ⊢
              rwa [(e0 undef).1] at this
            · have h2 := HX.2 u hu
              rw [(e0 undef).2.2.1] at h2
              have := fin u (F.put j u) h2
              unfold opL at this; exact this
        · rename_i hwj
          rw [if_neg hwj]
          rw [(e0 undef).2.2.1] at HX
          have := fin undef F HX
          unfold opL at this; exact this
def lexL (I : Vals → World → Prop) (P : Program) (ops : Array Oper) (Φ : Nat → Bool) (A : Nat → List Nat) (Q : Vals → Act → Prop) : List Oper → Nat → Vals → Act → Prop
  | [], _, F, a => Q F a
  | o :: rest, k, F, a =>
    if Region.wanted o (yielded ops a.tmps) then
      match Φ k with
      | false => ∃ v, (∀ G w, I G w → Agree F G (A k) → Oper.quietV P o a w v) ∧ lexL I P ops Φ A Q rest (k + 1) F (a.put o.dst v)
      | true => (∀ G w, I G w → Agree F G (A k) → G k = none → Oper.gives P o a w (fun v w' => I (G.put k v) w')) ∧ ∀ v, Met I (F.put k v) → lexL I P ops Φ A Q rest (k + 1) (F.put k v) (a.put o.dst v)
    else lexL I P ops Φ A Q rest (k + 1) F (a.put o.dst undef)
theorem anyL_lex {n g : Nat} {Q : Vals → Act → Prop} (hsel : Region.noSelect ops = true) (hA : ancB md ops A n = true) :
    ∀ (l : List Oper) (k : Nat) (listed : Array Bool) (F : Vals) (a : Act), (∀ j, j < l.length → l[j]? = ops[k + j]?) → k + l.length = n → Met I F → (∀ k, listed.getD k true = false → F k = none) → Closed md ops A n listed →
    Region.lexHead md ops g l.length k listed = true → lexL I P ops Φ A Q l k F a → anyL I P md ops Φ A n g Q l.length listed F a
  | [], k, listed, F, a, _, hk, _, _, _, hB, h => by
    have : k = n := by simpa using hk
    subst this
    exact ⟨by simpa [Region.lexHead] using hB, h⟩
  | o :: l, k, listed, F, a, hl, hk, hm, hN, hc, hB, h => by
    have h0 : ops[k]? = some o := by simpa using (hl 0 (by simp)).symm
    simp only [List.length_cons, Region.lexHead, Bool.and_eq_true] at hB
    obtain ⟨⟨hr, hf⟩, hB'⟩ := hB
    have hkn : k < n := by simp only [List.length_cons] at hk; omega
    have hr' : k ∈ Region.ready md ops listed := by simpa using hr
    have hst : opL I P ops Φ A k (lexL I P ops Φ A Q l (k + 1)) F a := by unfold opL; simp only [h0]; exact h
    refine anyL_first h0 (Region.noSelect_spec hsel) hA hkn l.length listed F a hm hN hc (Region.free_spec h0 hf) hr' (opL_mono hm (fun F' a' hm' hF hK => ?_) hst)
    refine anyL_lex hsel hA l (k + 1) _ F' a' (fun j hj => by have := hl (j + 1) (by simp; omega); simpa [Nat.add_assoc, Nat.add_comm 1 j] using this) (by simp only [List.length_cons] at hk; omega) hm' (none_set (mem_ready.1 hr').1 hN hF) (Closed.set hA hc hr') hB' hK
theorem wp_region_inv {id : Nat} {Q : Exit → Act → World → Prop} {a : Act} {w : World} {l : List Oper} (n : Nat) (I : Vals → World → Prop) (Φ : Nat → Bool) (A : Nat → List Nat) (hm : P.follows .mixedOrders = true) (hB : regB .any l.toArray A n = true) (h0 : I (fun _ => none) w.drew)
    (h : lexL I P l.toArray Φ A (fun F a' => ∀ w', I F w' → wpList P l.toArray Q (l.drop n) a' w') (l.take n) 0 (fun _ => none) a) : (Code.region id l.toArray true).wp P Q a w := by
  simp only [regB, Bool.and_eq_true, decide_eq_true_eq] at hB
  obtain ⟨⟨⟨hsel, hA⟩, hlex⟩, hn⟩ := hB
  have hn' : n ≤ l.length := by simpa using hn
  have htl : (l.take n).length = n := by simp; omega
  have hdl : (l.drop n).length = l.toArray.size - n := by simp
  have H := anyL_lex (I := I) (Φ := Φ) (P := P) (md := .any) (g := l.toArray.size - n) hsel hA (l.take n) 0 (Array.replicate l.toArray.size false) (fun _ => none) a (fun j hj => by
    have hj' : j < n := by rw [htl] at hj; exact hj
    simp [hj']) (by simpa using htl) ⟨_, _, h0, sub_refl _⟩ (fun _ _ => rfl) ⟨by simp, fun j hj => by rw [getD_replicate_false] at hj; cases hj⟩ (by rw [htl]; exact hlex) h
  refine wp_region_any hm ?_
  have := wpAny_of_anyL (Q' := Q) (g := l.toArray.size - n) (fun listed F a' w' hw hs hQ => by
    have := wpAny_of_seq (md := .any) (Q' := Q) (l.drop n) n listed a' w' (fun j => by simp [List.getElem?_drop]) (by rw [hdl]; exact hs) (hQ w' hw)
    rwa [hdl] at this) _ _ _ _ _ h0 (fun _ _ => rfl) H
  rw [htl, show n + (l.toArray.size - n) = l.toArray.size by omega] at this
  exact this
variable {Q : Vals → Act → Prop} {o : Oper} {rest : List Oper} {k : Nat} {F : Vals} {a : Act}
theorem lexL_nil (h : Q F a) : lexL I P ops Φ A Q [] k F a := h
theorem lexL_skip (hw : Region.wanted o (yielded ops a.tmps) = false) (h : lexL I P ops Φ A Q rest (k + 1) F (a.put o.dst undef)) : lexL I P ops Φ A Q (o :: rest) k F a := by
  unfold lexL
  rw [if_neg (by simp [hw])]
  exact h
theorem lexL_quiet {v : Value} (hw : Region.wanted o (yielded ops a.tmps) = true) (hΦ : Φ k = false) (h : ∀ G w, I G w → Agree F G (A k) → Oper.quietV P o a w v) (h' : lexL I P ops Φ A Q rest (k + 1) F (a.put o.dst v)) :
    lexL I P ops Φ A Q (o :: rest) k F a := by
  unfold lexL
  rw [if_pos hw, hΦ]
  exact ⟨v, h, h'⟩
theorem lexL_quiet' {v : Value} (hg : o.guard = none) (hΦ : Φ k = false) (h : ∀ G w, I G w → Agree F G (A k) → Oper.quietV P o a w v) (h' : lexL I P ops Φ A Q rest (k + 1) F (a.put o.dst v)) :
    lexL I P ops Φ A Q (o :: rest) k F a := lexL_quiet (by simp [Region.wanted, hg]) hΦ h h'
theorem lexL_give (hw : Region.wanted o (yielded ops a.tmps) = true) (hΦ : Φ k = true) (h : ∀ G w, I G w → Agree F G (A k) → G k = none → Oper.gives P o a w (fun v w' => I (G.put k v) w'))
    (h' : ∀ v G w, I G w → Sub (F.put k v) G → lexL I P ops Φ A Q rest (k + 1) (F.put k v) (a.put o.dst v)) : lexL I P ops Φ A Q (o :: rest) k F a := by
  unfold lexL
  rw [if_pos hw, hΦ]
  exact ⟨h, fun v ⟨G, w, hI, hs⟩ => h' v G w hI hs⟩
theorem lexL_give' (hg : o.guard = none) (hΦ : Φ k = true) (h : ∀ G w, I G w → Agree F G (A k) → G k = none → Oper.gives P o a w (fun v w' => I (G.put k v) w'))
    (h' : ∀ v G w, I G w → Sub (F.put k v) G → lexL I P ops Φ A Q rest (k + 1) (F.put k v) (a.put o.dst v)) : lexL I P ops Φ A Q (o :: rest) k F a := lexL_give (by simp [Region.wanted, hg]) hΦ h h'
end
end RI
end Go.Proofs.YtmebgomnmlbgnaaDoor

namespace Go.Proofs.YtmebgomnmlbgnaaDoor
open Go.RowKit
set_option linter.unusedVariables false
set_option linter.unusedSimpArgs false
attribute [local go_sem] Oper.quietV quietV Oper.gives givesV ext_refl_iff ext_alloc_iff ext_drew_iff ext_drewN_iff
def FitC (w : World) (v : Value) (xs : List Int) : Prop := IntsC w v xs xs.length
def BoolsC (w : World) (v : Value) (xs : List Bool) (c : Nat) : Prop := ∃ A, v = .slice A xs.length c ∧ Cells w A (xs.map .bool) ∧ xs.length ≤ c ∧ xs.length ≤ lenMax
theorem BoolsC.ext {w w' : World} {v : Value} {xs : List Bool} {c : Nat} (h : BoolsC w v xs c) (e : Ext w w') : BoolsC w' v xs c := by
  obtain ⟨A, hv, hc, hr⟩ := h
  exact ⟨A, hv, hc.ext e, hr⟩
theorem Cells.at_bool {w : World} {A : Option Addr} {xs : List Bool} (h : Cells w A (xs.map .bool)) {k : Nat} (hk : k < xs.length) :
    ∃ b o, A = some ⟨b, o, none⟩ ∧ b < w.heap.size ∧ w.cell? ⟨b, o + k, none⟩ = some (.bool xs[k]) := by
  obtain ⟨b, o, hA, hb, hc⟩ := h (by simp; omega)
  exact ⟨b, o, hA, hb, hc k _ (by simp [hk])⟩
theorem bools_of_owns {w : World} {base : Nat} {e : TypeId} {v : Value} {xs : List Bool} {n : Nat} (h : w.ownsRow base e 1 v n (xs.map .bool)) (hn : xs.length = n) (hl : n ≤ lenMax) : ∃ c, BoolsC w v xs c := by
  subst hn
  obtain ⟨A, c, rfl, hn, hc⟩ := cells_of_owns h
  exact ⟨c, A, rfl, hc, hn, hl⟩
theorem fit_of_owns {w : World} {base : Nat} {e : TypeId} {xs : List Int} {n g : Nat} (h : w.ownsRow base e 1 (.slice (some ⟨g, 0, none⟩) n n) n (xs.map (.int .i64))) (hn : xs.length = n) (hl : n ≤ lenMax) : FitC w (.slice (some ⟨g, 0, none⟩) n n) xs := by
  subst hn
  obtain ⟨A, c, hv, hn, hc⟩ := cells_of_owns h
  cases hv
  exact ⟨_, rfl, hc, Nat.le_refl _, hl⟩
theorem int_info : (Tryd.prog.info? 3).map (fun i => (i.zero, i.size, i.bytes)) = some (some (.int .i64 0), 1, 8) := by kernel_rfl
theorem bool_info : (Tryd.prog.info? 4).map (fun i => (i.zero, i.size, i.bytes)) = some (some (.bool false), 1, 1) := by kernel_rfl
theorem ints_info : (Tryd.prog.info? 42).map (fun i => (i.zero, i.size, i.bytes)) = some (some (.slice none 0 0), 1, 24) := by kernel_rfl
theorem wpList_append_own2 {P : Program} {w : World} {ops : Array Oper} {rest : List Oper} {o : Oper} {a : Act} {Q : Exit → Act → World → Prop} (hgd : o.guard = none) (s x : Operand) (t : TypeId)
    (ho : o.op = .call { callee := .builtin .append, args := #[s, x], argTypes := #[t, t] })
    (base : Nat) (e : TypeId) (i : TypeInfo) (z : Value) (size bytes : Nat) (ht : P.underlying t = some (.slice e)) (hi : P.info? e = some i) (hz : i.zero = some z)
    (hsize : i.size = size) (hby : i.bytes = bytes) (hzs : z.cells.size = size) (hsz : 0 < size)
    (v : Value) (n : Nat) (xs : List Value) (hs : a.eval s = v) (hown : w.ownsRow base e size v n xs)
    (ad : Addr) (m c : Nat) (news : List Value) (hx : a.eval x = .slice (some ad) m c) (hl : news.length = m * size) (hnews : ∀ j u, news[j]? = some u → w.cell? (ad.add j) = some u) (h1 : ∀ u ∈ news, u.oneCell' = true)
    (h63 : n + m ≤ maxLen) (hbytes : (n + m) * bytes ≤ 140737488355328) (hbase : base ≤ w.heap.size)
    (h : ∀ v' w', w'.ownsRow base e size v' (n + m) (xs ++ news) → w.grownBy w' v.ownBlock → (∀ b, v'.ownBlock = some b → v.ownBlock = some b ∨ w.heap.size ≤ b) → wpList P ops Q rest (a.put o.dst v') w') : wpList P ops Q (o :: rest) a w :=
  wpList_plain hgd fun _ hK => wp_append_own2 s x t ho base e i z size bytes ht hi hz hsize hby hzs hsz v n xs hs hown ad m c news hx hl hnews h1 h63 hbytes hbase fun v' w' h2 h3 h4 => hK _ _ (h v' w' h2 h3 h4)
theorem cells_new (W : World) (cs : Array Value) (t : TypeId) : ∀ (j : Nat) (u : Value), cs.toList[j]? = some u → (W.alloc (.cells cs t)).cell? ((⟨W.heap.size, 0, none⟩ : Addr).add j) = some u := by
  intro j u h
  rw [Addr.add_lit]
  have hb : (W.alloc (.cells cs t)).heap[W.heap.size]? = some (.cells cs t) := heap_alloc_new W _
  rw [Nat.zero_add]
  refine (cell_of_row _ _ j cs t (0, 0) hb).trans ?_
  simpa using h
theorem cell_own {w W : World} {L : List Asn} (h : OwnL w W L) (k : Nat) {e g n c : Nat} {xs : List Value} (hk : L[k]? = some (.row e 1 (.slice (some ⟨g, 0, none⟩) n c) n xs)) {j : Nat} {u : Value} (hj : xs[j]? = some u) : W.cell? ⟨g, j, none⟩ = some u := by
  have h1 : W.ownsRow w.heap.size e 1 (.slice (some ⟨g, 0, none⟩) n c) n xs := h.get k hk
  have := h1.cells (g := g) rfl j u hj
  rw [Addr.add_lit, Nat.zero_add] at this
  exact this
theorem free_own {w W : World} {L : List Asn} (h : OwnL w W L) (k : Nat) {e g n c : Nat} {xs : List Value} (hk : L[k]? = some (.row e 1 (.slice (some ⟨g, 0, none⟩) n c) n xs)) (j : Nat) : W.frozen? ⟨g, j, none⟩ = false := by
  have h1 : W.ownsRow w.heap.size e 1 (.slice (some ⟨g, 0, none⟩) n c) n xs := h.get k hk
  exact h1.frozenAt j
theorem OwnL.ints {w W : World} {L : List Asn} (h : OwnL w W L) (k : Nat) {e n g : Nat} {xs : List Int} (hk : L[k]? = some (.row e 1 (.slice (some ⟨g, 0, none⟩) n n) n (xs.map (.int .i64)))) (hn : xs.length = n) (hl : n ≤ lenMax) : FitC W (.slice (some ⟨g, 0, none⟩) n n) xs := fit_of_owns (h.get k hk) hn hl
def OwnI (w w' : World) (v : Value) (xs : List Int) : Prop := ∃ A, v = .slice A xs.length xs.length ∧ w'.ownsRow w.heap.size 3 1 v xs.length (xs.map (.int .i64))
def OwnB (w w' : World) (v : Value) (xs : List Bool) : Prop := ∃ A, v = .slice A xs.length xs.length ∧ w'.ownsRow w.heap.size 4 1 v xs.length (xs.map .bool)
def FitB (w : World) (v : Value) (xs : List Bool) : Prop := BoolsC w v xs xs.length
theorem OwnI.fit {w w' : World} {v : Value} {xs : List Int} (h : OwnI w w' v xs) (hl : xs.length ≤ 100000) : FitC w' v xs := by
  obtain ⟨A, rfl, h⟩ := h
  obtain ⟨A', c, hv, hn, hc⟩ := cells_of_owns h
  cases hv
  exact ⟨_, rfl, hc, Nat.le_refl _, by unfold lenMax; omega⟩
theorem OwnB.fit {w w' : World} {v : Value} {xs : List Bool} (h : OwnB w w' v xs) (hl : xs.length ≤ 100000) : FitB w' v xs := by
  obtain ⟨A, rfl, h⟩ := h
  obtain ⟨A', c, hv, hn, hc⟩ := cells_of_owns h
  cases hv
  exact ⟨_, rfl, hc, Nat.le_refl _, by unfold lenMax; omega⟩
theorem OwnI.ext {w w' w'' : World} {v : Value} {xs : List Int} (h : OwnI w w' v xs) (e : Ext w' w'') : OwnI w w'' v xs := by
  obtain ⟨A, hv, h⟩ := h
  exact ⟨A, hv, ownsRow_ext h e⟩
theorem OwnB.ext {w w' w'' : World} {v : Value} {xs : List Bool} (h : OwnB w w' v xs) (e : Ext w' w'') : OwnB w w'' v xs := by
  obtain ⟨A, hv, h⟩ := h
  exact ⟨A, hv, ownsRow_ext h e⟩
theorem OwnI.mono {w0 w w' : World} {v : Value} {xs : List Int} (h : OwnI w w' v xs) (e : Ext w0 w) : OwnI w0 w' v xs := by
  obtain ⟨A, hv, h⟩ := h
  exact ⟨A, hv, own_mono h e.size⟩
theorem OwnB.mono {w0 w w' : World} {v : Value} {xs : List Bool} (h : OwnB w w' v xs) (e : Ext w0 w) : OwnB w0 w' v xs := by
  obtain ⟨A, hv, h⟩ := h
  exact ⟨A, hv, own_mono h e.size⟩
theorem OwnL.perm {w W : World} {L L' : List Asn} (h : OwnL w W L) (hp : L.Perm L') : OwnL w W L' :=
  ⟨h.ext, fun A hA => h.ok A (hp.mem_iff.2 hA), hp.pairwise h.apart (fun {A B} hab b hb hb' => hab b hb' hb)⟩
theorem OwnL.swap {w W : World} {A B : Asn} {L : List Asn} (h : OwnL w W (A :: B :: L)) : OwnL w W (B :: A :: L) := h.perm (.swap _ _ _)
set_option maxRecDepth 100000 in
theorem mk_slice {t e : TypeId} {i : TypeInfo} {z : Value} {bytes : Nat} (ht : Tryd.prog.underlying t = some (.slice e)) (hi : (Tryd.prog.info? e).map (fun i => (i.zero, i.size, i.bytes)) = some (some z, 1, bytes)) (hz : z.cells = #[z]) (hb : bytes ≤ 100) (n : Nat) (hn : n ≤ 100000) (w : World) :
    (Instr.makeSlice t (.int .i64 (n : Int)) (.int .i64 (n : Int))).run Tryd.prog w = .ok (.slice (some ⟨w.heap.size, 0, none⟩) n n) (w.alloc (.cells (Array.replicate n z) e)) := by
  obtain ⟨i, hi, hz0, hs, hb0⟩ := info_parts hi
  have hm : (i.bytes : Int) * (n : Int) ≤ 281474976710656 := by
    have h1 : i.bytes * n ≤ 100 * 100000 := Nat.mul_le_mul (by omega) hn
    have h2 : ((i.bytes * n : Nat) : Int) ≤ 281474976710656 := by omega
    rwa [Int.natCast_mul] at h2
  have hr := run_make (P := Tryd.prog) w t e i z ht hi hz0 .i64 .i64 n n (by omega) (Int.le_refl _) hm (by omega)
  simp only [Int.toNat_natCast] at hr
  rw [hr, hs, Nat.mul_one, hz]
  congr 3
  exact Array.ext' (by rw [toList_madeCells_one]; simp)
theorem mk_ints (n : Nat) (hn : n ≤ 100000) (w : World) : (Instr.makeSlice 42 (.int .i64 (n : Int)) (.int .i64 (n : Int))).run Tryd.prog w = .ok (.slice (some ⟨w.heap.size, 0, none⟩) n n) (w.alloc (.cells (Array.replicate n (.int .i64 0)) 3)) := mk_slice (i := default) Tryd.underlying42 int_info rfl (by decide) n hn w
theorem mk_bools (n : Nat) (hn : n ≤ 100000) (w : World) : (Instr.makeSlice 26 (.int .i64 (n : Int)) (.int .i64 (n : Int))).run Tryd.prog w = .ok (.slice (some ⟨w.heap.size, 0, none⟩) n n) (w.alloc (.cells (Array.replicate n (.bool false)) 4)) := mk_slice (i := default) Tryd.underlying26 bool_info rfl (by decide) n hn w
set_option maxRecDepth 100000 in
theorem own_new (W : World) (z : Value) (e : TypeId) (n : Nat) (hn : n ≤ 100000) : (W.alloc (.cells (Array.replicate n z) e)).ownsRow W.heap.size e 1 (.slice (some ⟨W.heap.size, 0, none⟩) n n) n (List.replicate n z) := by
  have h := World.ownsRow_lit (base := W.heap.size) (e := e) (size := 1) W (Array.replicate n z) n (Nat.le_refl _) (by unfold maxLen; omega) (by simp)
  simpa using h
theorem alloc_ext (W : World) (o : Obj) : Ext W (W.alloc o) := (Ext.refl W).alloc o
theorem drew_ext (W : World) : Ext W W.drew := (Ext.refl W).drew
theorem ownsRow_pos {W : World} {base : Nat} {e : TypeId} {size : Nat} {v : Value} {k : Nat} {xs : List Value} (h : W.ownsRow base e size v k xs) (hk : 0 < k) : ∃ g cap, v = .slice (some ⟨g, 0, none⟩) k cap := by
  rcases h.2 with ⟨_, h0⟩ | ⟨g, cap, _, rfl, _⟩
  · omega
  · exact ⟨g, cap, rfl⟩
theorem OwnL.push {w W W' : World} {L : List Asn} {e1 e2 s2 n : Nat} {x v v' : Value} {xs : List Value} {vs : List Value} {rs : List (Nat × List Value)} (h : OwnL w W (.row e2 s2 x n xs :: .rows e1 e2 s2 v vs rs :: L)) (hg : W.grownBy W' v.ownBlock)
    (h4 : W'.ownsRow w.heap.size e1 1 v' (vs.length + 1) (vs ++ [x])) (hb : ∀ b, v'.ownBlock = some b → v.ownBlock = some b ∨ W.heap.size ≤ b) : OwnL w W' (.rows e1 e2 s2 v' (vs ++ [x]) (rs ++ [(n, xs)]) :: L) := by
  have hx : W.ownsRow w.heap.size e2 s2 x n xs := h.get 0 rfl
  have hO : OwnRows W w.heap.size e1 e2 s2 v vs rs := h.get 1 rfl
  obtain ⟨ha1, ha2⟩ := List.pairwise_cons.1 h.apart
  obtain ⟨ha3, ha4⟩ := List.pairwise_cons.1 ha2
  have hxr : ∀ b, x.ownBlock = some b → v.ownBlock ≠ some b ∧ ∀ u ∈ vs, u.ownBlock ≠ some b := fun b hb' => by
    have h1 := ha1 (.rows e1 e2 s2 v vs rs) (by simp) b hb'
    exact ⟨fun e => h1 (.inl e), fun u hu e => h1 (.inr ⟨u, hu, e⟩)⟩
  have hkeep : ∀ (u : Value) (k : Nat) (ys : List Value), W.ownsRow w.heap.size e2 s2 u k ys → (∀ b, u.ownBlock = some b → v.ownBlock ≠ some b) → W'.ownsRow w.heap.size e2 s2 u k ys := fun u k ys hu hne =>
    ownsRow_of hu (fun b hb' => hg.block b (hu.lt b hb').2 (fun e => hne b hb' e.symm))
  have hget : ∀ (j : Nat) (u : Value), (vs ++ [x])[j]? = some u → (j < vs.length ∧ vs[j]? = some u) ∨ (j = vs.length ∧ u = x) := fun j u hj => by
    by_cases hlt : j < vs.length
    · rw [List.getElem?_append_left hlt] at hj; exact .inl ⟨hlt, hj⟩
    · have hjl := (List.getElem?_eq_some_iff.1 hj).1
      have : j = vs.length := by simp at hjl; omega
      subst this
      rw [List.getElem?_append_right (Nat.le_refl _), Nat.sub_self] at hj
      cases hj; exact .inr ⟨rfl, rfl⟩
  have hnew : OwnRows W' w.heap.size e1 e2 s2 v' (vs ++ [x]) (rs ++ [(n, xs)]) := by
    refine ⟨by simpa using h4, by simp [hO.len], fun j u r hj hr => ?_, fun i j u u' hi hj hij b hb1 hb2 => ?_, fun j u hj b hb1 hb2 => ?_⟩
    · rcases hget j u hj with ⟨hlt, hj'⟩ | ⟨rfl, rfl⟩
      · rw [List.getElem?_append_left (by rw [← hO.len]; exact hlt)] at hr
        exact hkeep u _ _ (hO.each j u r hj' hr) (fun b hb' e => hO.away j u hj' b hb' e)
      · rw [List.getElem?_append_right (by rw [hO.len]; exact Nat.le_refl _), hO.len, Nat.sub_self] at hr
        cases hr
        exact hkeep u _ _ hx (fun b hb' => (hxr b hb').1)
    · rcases hget i u hi with ⟨h1, hi'⟩ | ⟨h1, rfl⟩ <;> rcases hget j u' hj with ⟨h2, hj'⟩ | ⟨h2, rfl⟩
      · exact hO.apart i j u u' hi' hj' hij b hb1 hb2
      · exact (hxr b hb2).2 u (List.mem_of_getElem? hi') hb1
      · exact (hxr b hb1).2 u' (List.mem_of_getElem? hj') hb2
      · omega
    · rcases hb b hb2 with h1 | h1
      · rcases hget j u hj with ⟨_, hj'⟩ | ⟨_, rfl⟩
        · exact hO.away j u hj' b hb1 h1
        · exact (hxr b hb1).1 h1
      · rcases hget j u hj with ⟨_, hj'⟩ | ⟨_, rfl⟩
        · have := (OwnRows.lt hO (List.mem_of_getElem? hj') hb1).2; omega
        · have := (hx.lt b hb1).2; omega
  have hother : ∀ B ∈ L, ∀ b, B.foot b → v.ownBlock ≠ some b := fun B hB b hb' e => ha3 B hB b (.inl e) hb'
  refine ⟨Below.grown h.ext hg h.ext.size (fun b hb' => (hO.own.lt b hb').1), fun B hB => ?_, List.pairwise_cons.2 ⟨fun B hB b hb1 hb2 => ?_, ha4⟩⟩
  · rcases List.mem_cons.1 hB with rfl | hB
    · exact hnew
    · have hB0 := h.ok B (by simp [hB])
      exact Asn.of hB0 (fun b hb' => hg.block b (Asn.lt hB0 hb').2 (fun e => hother B hB b hb' e.symm))
  · have hB0 := h.ok B (by simp [hB])
    rcases hb1 with hb1 | ⟨u, hu, hb1⟩
    · rcases hb b hb1 with h1 | h1
      · exact hother B hB b hb2 h1
      · have := (Asn.lt hB0 hb2).2; omega
    · rcases List.mem_append.1 hu with hu | hu
      · exact ha3 B hB b (.inr ⟨u, hu, hb1⟩) hb2
      · simp at hu; subst hu
        exact ha1 B (by simp [hB]) b hb1 hb2
theorem cells_blk {W : World} {b : Nat} {cs : Array Value} {t : TypeId} (h : W.heap[b]? = some (.cells cs t (0, 0))) : Cells W (some ⟨b, 0, none⟩) cs.toList := fun _ =>
  ⟨b, 0, rfl, lt_of_block h, fun j u hu => by rw [Nat.zero_add]; exact cell_of_blk h j (by simpa using hu)⟩
def ListsC (w : World) (v : Value) (rows : List (List Int)) (c : Nat) : Prop :=
  ∃ A vs, v = .slice A rows.length c ∧ Cells w A vs ∧ vs.length = rows.length ∧ (∀ (i : Nat) (u : Value) (es : List Int), vs[i]? = some u → rows[i]? = some es → ∃ c', IntsC w u es c') ∧ rows.length ≤ c ∧ rows.length ≤ lenMax
theorem ListsC.ext {w w' : World} {v : Value} {rows : List (List Int)} {c : Nat} (h : ListsC w v rows c) (e : Ext w w') : ListsC w' v rows c := by
  obtain ⟨A, vs, hv, hc, hl, hr, hb⟩ := h
  exact ⟨A, vs, hv, hc.ext e, hl, fun i u es hu hes => by
    obtain ⟨c', h'⟩ := hr i u es hu hes
    exact ⟨c', h'.ext e⟩, hb⟩
theorem ListsC.at_ {w : World} {v : Value} {rows : List (List Int)} {c : Nat} (h : ListsC w v rows c) {k : Nat} (hk : k < rows.length) :
    ∃ b o u c', v = .slice (some ⟨b, o, none⟩) rows.length c ∧ b < w.heap.size ∧ w.cell? ⟨b, o + k, none⟩ = some u ∧ IntsC w u rows[k] c' := by
  obtain ⟨A, vs, rfl, hc, hl, hr, _⟩ := h
  obtain ⟨b, o, rfl, hb, hcc⟩ := hc (by omega)
  have hk' : k < vs.length := by omega
  obtain ⟨c', he⟩ := hr k vs[k] rows[k] (List.getElem?_eq_getElem hk') (List.getElem?_eq_getElem hk)
  exact ⟨b, o, vs[k], c', rfl, hb, hcc k _ (List.getElem?_eq_getElem hk'), he⟩
theorem lists_blk {W : World} {b t n : Nat} {cs : Array Value} {rows : List (List Int)} (h : W.heap[b]? = some (.cells cs t (0, 0))) (hc : cs.size = n) (hn : rows.length = n) (hl : n ≤ 1000)
    (hr : ∀ (i : Nat) (u : Value) (es : List Int), cs[i]? = some u → rows[i]? = some es → ∃ c', IntsC W u es c') : ListsC W (.slice (some ⟨b, 0, none⟩) n n) rows n := by
  subst hn
  exact ⟨_, cs.toList, rfl, cells_blk h, by simpa using hc, fun i u es hu hes => hr i u es (by simpa using hu) hes, Nat.le_refl _, by unfold lenMax; omega⟩
def iRow (r : List Int) : Nat × List Value := (r.length, r.map (.int .i64))
theorem listsC_of_own {W : World} {B : Nat} {A : Option Addr} {c n : Nat} {vs : List Value} {rows : List (List Int)} (h : OwnRows W B 42 3 1 (.slice A n c) vs (rows.map iRow)) (hn : rows.length = n) (hl : n ≤ lenMax) (hr : ∀ r ∈ rows, r.length ≤ lenMax) : ListsC W (.slice A n c) rows c := by
  subst hn
  have hlen : vs.length = rows.length := by rw [h.len]; simp
  obtain ⟨A', c', hv, hnc, hc⟩ := cells_of_owns h.own
  rw [hlen] at hv hnc
  cases hv
  refine ⟨A, vs, rfl, hc, hlen, fun i u es hu hes => ?_, hnc, hl⟩
  have h1 := h.each i u (iRow es) hu (by rw [List.getElem?_map, hes]; rfl)
  obtain ⟨A2, c2, rfl, h3, h4⟩ := cells_of_owns h1
  exact ⟨c2, A2, rfl, h4, h3, hr es (List.mem_of_getElem? hes)⟩
structure Dfa where
  sy : Int
  rows : List (List Int)
  acc : List Bool
deriving DecidableEq
def DfaV (w : World) (v : Value) (d : Dfa) : Prop := ∃ rv cr av ca, v = .agg #[.int .i64 d.sy, rv, av] ∧ ListsC w rv d.rows cr ∧ BoolsC w av d.acc ca
theorem DfaV.ext {w w' : World} {v : Value} {d : Dfa} (h : DfaV w v d) (e : Ext w w') : DfaV w' v d := by
  obtain ⟨rv, cr, av, ca, hv, h1, h2⟩ := h
  exact ⟨rv, cr, av, ca, hv, h1.ext e, h2.ext e⟩
def DfaF (w : World) (v : Value) (d : Dfa) : Prop := ∃ rv av, v = .agg #[.int .i64 d.sy, rv, av] ∧ ListsC w rv d.rows d.rows.length ∧ BoolsC w av d.acc d.acc.length
theorem DfaF.ext {w w' : World} {v : Value} {d : Dfa} (h : DfaF w v d) (e : Ext w w') : DfaF w' v d := by
  obtain ⟨rv, av, hv, h1, h2⟩ := h
  exact ⟨rv, av, hv, h1.ext e, h2.ext e⟩
theorem DfaF.dfa {w : World} {v : Value} {d : Dfa} (h : DfaF w v d) : DfaV w v d := by
  obtain ⟨rv, av, hv, h1, h2⟩ := h
  exact ⟨rv, _, av, _, hv, h1, h2⟩
end Go.Proofs.YtmebgomnmlbgnaaDoor

namespace Go.Proofs.YtmebgomnmlbgnaaDoor
open Go.RowKit
set_option linter.unusedVariables false
set_option linter.unusedSimpArgs false
section
variable {P : Program} {w : World}
theorem cell_at_own {w : World} {base : Nat} {e : TypeId} {size g n c : Nat} {xs : List Value} (h : w.ownsRow base e size (.slice (some ⟨g, 0, none⟩) n c) n xs) {j : Nat} {u : Value} (hj : xs[j]? = some u) : w.cell? ⟨g, j, none⟩ = some u := by
  have := h.cells (g := g) rfl j u hj
  rw [Addr.add_lit, Nat.zero_add] at this
  exact this
end
end Go.Proofs.YtmebgomnmlbgnaaDoor
