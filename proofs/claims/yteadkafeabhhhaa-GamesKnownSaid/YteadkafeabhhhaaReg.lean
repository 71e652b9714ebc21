/- A region whose order is open, where loads and other quiet operations stand beside calls that make memory: one walk in the order of the text serves every order, if nothing that lay there before turns. -/
import Derived.StillTail
import Derived.Deep.Quiet
import Derived.Below
namespace Go.Proofs.Yteadkafeabhhhaa
open Go.RowKit
set_option linter.unusedVariables false
set_option linter.unusedSimpArgs false

/-- Nothing that lay in w has turned. -/
def Ext (w w' : World) : Prop := Below w.heap.size w w'
theorem Ext.refl (w : World) : Ext w w := Below.refl _ _
theorem Ext.trans {a b c : World} (h : Ext a b) (k : Ext b c) : Ext a c := Below.trans h (Below.mono k h.size)

/-- How a world may have turned: a thing that stays, steps, and lets draws by. -/
structure Pre (R : World → World → Prop) : Prop where
  refl : ∀ w, R w w
  trans : ∀ {a b c}, R a b → R b c → R a c
  drew : ∀ w, R w { w with drawn := w.drawn + 1 }
theorem Ext.pre : Pre Ext := ⟨Ext.refl, Ext.trans, fun _ => ⟨rfl, rfl, rfl, Nat.le_refl _, fun _ _ => rfl⟩⟩

abbrev Facts := Nat → Option (Value → World → Prop)
abbrev Vals := Nat → Option Value
def Vals.put (F : Vals) (i : Nat) (v : Value) : Vals := fun j => if j = i then some v else F j

section
variable {P : Program} {ops : Array Oper} {md : Region.Mode} {W0 : World} {Φ : Facts} {A : Nat → List Nat} {R : World → World → Prop}

/-- What is known in w of the values of the operations listed in L. -/
def Knows (Φ : Facts) (F : Vals) (L : List Nat) (w : World) : Prop := ∀ i ∈ L, ∀ φ v, Φ i = some φ → F i = some v → φ v w
def KnowsAll (Φ : Facts) (F : Vals) (w : World) : Prop := ∀ i φ v, Φ i = some φ → F i = some v → φ v w
/-- There is such a world. -/
def Met (R : World → World → Prop) (W0 : World) (Φ : Facts) (F : Vals) : Prop := ∃ w, R W0 w ∧ KnowsAll Φ F w
def Mono (R : World → World → Prop) (Φ : Facts) : Prop := ∀ i φ, Φ i = some φ → ∀ v w w', R w w' → φ v w → φ v w'

theorem KnowsAll.ext (hM : Mono R Φ) {F : Vals} {w w' : World} (h : KnowsAll Φ F w) (e : R w w') : KnowsAll Φ F w' :=
  fun i φ v hi hv => hM i φ hi v w w' e (h i φ v hi hv)
theorem KnowsAll.knows {F : Vals} {w : World} (h : KnowsAll Φ F w) (L : List Nat) : Knows Φ F L w := fun i _ φ v hi hv => h i φ v hi hv
theorem KnowsAll.put {F : Vals} {w : World} (h : KnowsAll Φ F w) {i : Nat} {v : Value} (hv : ∀ φ, Φ i = some φ → φ v w) : KnowsAll Φ (F.put i v) w := by
  intro j φ u hj hu
  unfold Vals.put at hu
  split at hu
  · rename_i e; subst e; cases hu; exact hv φ hj
  · exact h j φ u hj hu
theorem KnowsAll.back {F : Vals} {w : World} {i : Nat} {v : Value} (h : KnowsAll Φ (F.put i v) w) (hF : F i = none) : KnowsAll Φ F w := by
  intro j φ u hj hu
  refine h j φ u hj ?_
  unfold Vals.put
  split
  · rename_i e; subst e; rw [hF] at hu; cases hu
  · exact hu
theorem Vals.put_comm (F : Vals) {i j : Nat} (h : i ≠ j) (u v : Value) : (F.put i u).put j v = (F.put j v).put i u := by
  funext k
  unfold Vals.put
  by_cases hi : k = i <;> by_cases hj : k = j <;> simp [hi, hj] <;> omega
theorem knows_put {F : Vals} {i : Nat} {v : Value} {L : List Nat} (hi : i ∉ L) (w : World) : Knows Φ (F.put i v) L w ↔ Knows Φ F L w := by
  have e : ∀ j ∈ L, (F.put i v) j = F j := fun j hj => by
    have hne : j ≠ i := fun e => by subst e; exact hi hj
    simp [Vals.put, hne]
  constructor
  · intro h j hj φ u hφ hu
    exact h j hj φ u hφ ((e j hj).trans hu)
  · intro h j hj φ u hφ hu
    exact h j hj φ u hφ ((e j hj).symm.trans hu)

/-- An operation that hands back v and leaves the world as it is. -/
def quietV (w : World) (v : Value) : Result Next → Prop
  | .ok (.value u) w' => w' = w ∧ u = v
  | .ok .skip w' => w' = w ∧ undef = v
  | _ => False
def Oper.quietV (P : Program) (o : Oper) (a : Act) (w : World) (v : Value) : Prop := Yteadkafeabhhhaa.quietV w v ((execOp a.eval o).run P w)
theorem Oper.quietV_one {o : Oper} {a : Act} {w : World} {u v : Value} (h : Oper.quietV P o a w u) (k : Oper.quietV P o a w v) : u = v := by
  unfold Oper.quietV at h k
  generalize (execOp a.eval o).run P w = r at h k
  cases r with
  | halt x w' => exact h.elim
  | ok n w' => cases n <;> simp only [Yteadkafeabhhhaa.quietV] at h k <;> first | exact h.2.symm.trans k.2 | exact h.elim

/-- An operation that hands back some v of which φ holds, and leaves a world that has grown. -/
def Gave (R : World → World → Prop) (w : World) (φ : Value → World → Prop) (e : Ending) (w'' : World) : Prop := ∃ v, e = .returned v ∧ R w w'' ∧ φ v w''
def givesV (R : World → World → Prop) (P : Program) (w : World) (φ : Value → World → Prop) : Result Next → Prop
  | .ok (.value v) w' => R w w' ∧ φ v w'
  | .ok .skip w' => R w w' ∧ φ undef w'
  | .ok (.enter f args) w' => Calls P f args w' (Gave R w φ)
  | _ => False
def Oper.gives (R : World → World → Prop) (P : Program) (o : Oper) (a : Act) (w : World) (φ : Value → World → Prop) : Prop := givesV R P w φ ((execOp a.eval o).run P w)

theorem gives_some {o : Oper} {a : Act} {w : World} {φ : Value → World → Prop} (h : Oper.gives R P o a w φ) : ∃ v w', R w w' ∧ φ v w' := by
  unfold Oper.gives at h
  generalize (execOp a.eval o).run P w = r at h
  cases r with
  | halt x w' => exact h.elim
  | ok n w' =>
    cases n <;> simp only [givesV] at h
    case enter f args =>
      obtain ⟨e, w1, fr, ⟨v, _, h1, h2⟩, _⟩ := h []
      exact ⟨v, w1, h1, h2⟩
    all_goals first | exact ⟨_, _, h⟩ | exact h.elim

/-- One operation, in the class of worlds. -/
def opL (R : World → World → Prop) (P : Program) (ops : Array Oper) (W0 : World) (Φ : Facts) (A : Nat → List Nat) (i : Nat) (K : Vals → Act → Prop) (F : Vals) (a : Act) : Prop :=
  match ops[i]? with
  | none => K F a
  | some o =>
    if Region.wanted o (yielded ops a.tmps) then
      match Φ i with
      | none => ∃ v, (∀ w, R W0 w → Knows Φ F (A i) w → Oper.quietV P o a w v) ∧ K F (a.put o.dst v)
      | some φ => (∀ w, R W0 w → Knows Φ F (A i) w → Oper.gives R P o a w φ) ∧ ∀ v, Met R W0 Φ (F.put i v) → K (F.put i v) (a.put o.dst v)
    else K F (a.put o.dst undef)

theorem opL_mono {i : Nat} {K K' : Vals → Act → Prop} {F : Vals} {a : Act} (hm : Met R W0 Φ F) (h : ∀ F' a', Met R W0 Φ F' → (∀ k, k ≠ i → F' k = F k) → K F' a' → K' F' a') (hh : opL R P ops W0 Φ A i K F a) : opL R P ops W0 Φ A i K' F a := by
  unfold opL at *
  split
  · rename_i ho; simp only [ho] at hh; exact h _ _ hm (fun _ _ => rfl) hh
  · rename_i o ho
    simp only [ho] at hh
    split
    · rename_i hw
      simp only [hw, if_true] at hh
      split
      · rename_i hp
        simp only [hp] at hh
        obtain ⟨v, h1, h2⟩ := hh
        exact ⟨v, h1, h _ _ hm (fun _ _ => rfl) h2⟩
      · rename_i φ hp
        simp only [hp] at hh
        exact ⟨hh.1, fun v hv => h _ _ hv (fun k hk => by unfold Vals.put; rw [if_neg hk]) (hh.2 v hv)⟩
    · rename_i hw
      simp only [hw, if_false, Bool.false_eq_true] at hh
      exact h _ _ hm (fun _ _ => rfl) hh

/-- Whatever order is picked, up to the tail that begins at n. -/
def anyL (R : World → World → Prop) (P : Program) (md : Region.Mode) (ops : Array Oper) (W0 : World) (Φ : Facts) (A : Nat → List Nat) (n g : Nat) (Q : Vals → Act → Prop) : Nat → Array Bool → Vals → Act → Prop
  | 0, listed, F, a => Region.seqB md ops g n listed = true ∧ Q F a
  | fuel + 1, listed, F, a => Region.ready md ops listed ≠ [] ∧ ∀ i ∈ Region.ready md ops listed, opL R P ops W0 Φ A i (anyL R P md ops W0 Φ A n g Q fuel (listed.setIfInBounds i true)) F a

theorem wp_of_gives {o : Oper} {a : Act} {w : World} {φ : Value → World → Prop} {K : Act → World → Prop} {Q : Exit → Act → World → Prop} (h : Oper.gives R P o a w φ) (hK : ∀ v w', R w w' → φ v w' → K (a.put o.dst v) w') : o.wp P a w K Q := by
  unfold Oper.gives at h
  unfold Oper.wp
  generalize (execOp a.eval o).run P w = r at h
  cases r with
  | halt x w' => exact h.elim
  | ok n w' =>
    cases n <;> simp only [givesV] at h <;> simp only [Oper.upon]
    case enter f args =>
      refine h.mono fun e w1 hR => ?_
      obtain ⟨u, rfl, h1, h2⟩ := hR
      exact hK u w1 h1 h2
    all_goals first | exact h.elim | exact hK _ _ h.1 h.2

theorem wp_of_quietV {o : Oper} {a : Act} {w : World} {v : Value} {K : Act → World → Prop} {Q : Exit → Act → World → Prop} (h : Oper.quietV P o a w v) (hK : K (a.put o.dst v) w) : o.wp P a w K Q := by
  unfold Oper.quietV at h
  unfold Oper.wp
  generalize (execOp a.eval o).run P w = r at h
  cases r with
  | halt x w' => exact h.elim
  | ok n w' =>
    cases n <;> simp only [Yteadkafeabhhhaa.quietV] at h <;> simp only [Oper.upon]
    all_goals first | exact h.elim | (obtain ⟨rfl, rfl⟩ := h; exact hK)

/-- It is a wpAny, from every world of the class. -/
theorem wpAny_of_anyL {n g : Nat} {Q : Vals → Act → Prop} {Q' : Exit → Act → World → Prop} (hT : Pre R) (hM : Mono R Φ) (hQ : ∀ listed F a w, R W0 w → KnowsAll Φ F w → Region.seqB md ops g n listed = true → Q F a → wpAny P md ops Q' g listed a w) :
    ∀ (fuel : Nat) (listed : Array Bool) (F : Vals) (a : Act) (w : World), R W0 w → KnowsAll Φ F w → anyL R P md ops W0 Φ A n g Q fuel listed F a → wpAny P md ops Q' (fuel + g) listed a w
  | 0, listed, F, a, w, hw, hk, h => by rw [Nat.zero_add]; exact hQ listed F a w hw hk h.1 h.2
  | fuel + 1, listed, F, a, w, hw, hk, h => by
    rw [Nat.add_right_comm]
    refine ⟨fun h0 => absurd h0 h.1, fun i hi => ?_⟩
    have h1 := h.2 i hi
    unfold opL at h1
    unfold wpOp
    split
    · rename_i ho; simp only [ho] at h1; exact wpAny_of_anyL hT hM hQ fuel _ _ _ _ hw hk h1
    · rename_i o ho
      simp only [ho] at h1
      split
      · rename_i hwd
        simp only [hwd, if_true] at h1
        left
        split at h1
        · obtain ⟨v, h2, h3⟩ := h1
          exact wp_of_quietV (h2 w hw (hk.knows _)) (wpAny_of_anyL hT hM hQ fuel _ _ _ _ hw hk h3)
        · rename_i φ hp
          refine wp_of_gives (h1.1 w hw (hk.knows _)) fun v w' he hφ => ?_
          have hw' := hT.trans hw he
          have hk' := (hk.ext hM he).put (i := i) (v := v) (fun φ' h' => by rw [hp] at h'; cases h'; exact hφ)
          exact wpAny_of_anyL hT hM hQ fuel _ _ _ _ hw' hk' (h1.2 v ⟨w', hw', hk'⟩)
      · rename_i hwd
        simp only [hwd, if_false, Bool.false_eq_true] at h1
        exact wpAny_of_anyL hT hM hQ fuel _ _ _ _ hw hk h1

/-- Of each operation that has come up, all that stands before it has come up. -/
structure Closed (md : Region.Mode) (ops : Array Oper) (A : Nat → List Nat) (n : Nat) (listed : Array Bool) : Prop where
  size : listed.size = ops.size
  anc : ∀ j, listed.getD j false = true → ∀ i ∈ A j, listed.getD i false = true

/-- The lists A are closed: what stands before j is what j waits for, and what stands before that. -/
def ancB (md : Region.Mode) (ops : Array Oper) (A : Nat → List Nat) (n : Nat) : Bool :=
  (List.range ops.size).all fun j => match ops[j]? with
    | some oj => (A j).all (fun i => oj.after.any fun e => Region.binds md e && (e.on == i || (A e.on).contains i)) && (decide (j < n) || (List.range n).all fun i => (A j).contains i)
    | none => true

theorem ancB_ready {n : Nat} (hA : ancB md ops A n = true) {listed : Array Bool} (hc : Closed md ops A n listed) {j : Nat} (hj : j ∈ Region.ready md ops listed) : ∀ i ∈ A j, listed.getD i false = true := by
  obtain ⟨_, oj, hoj, hall⟩ := mem_ready.1 hj
  intro i hi
  have h1 := List.all_eq_true.1 hA j (List.mem_range.2 (Array.getElem?_eq_some_iff.1 hoj).1)
  simp only [hoj, Bool.and_eq_true, List.all_eq_true] at h1
  obtain ⟨e, he, hb⟩ := Array.any_eq_true'.1 (h1.1 i hi)
  simp only [Bool.and_eq_true, Bool.or_eq_true, beq_iff_eq, List.contains_iff_mem] at hb
  have h2 := hall e he hb.1
  rcases hb.2 with h3 | h3
  · rw [← h3]; exact h2
  · exact hc.anc _ h2 i h3

theorem ancB_tail {n : Nat} (hA : ancB md ops A n = true) {listed : Array Bool} (hc : Closed md ops A n listed) {j i : Nat} (hj : j ∈ Region.ready md ops listed) (hn : n ≤ j) (hi : i < n) : listed.getD i false = true := by
  obtain ⟨_, oj, hoj, _⟩ := mem_ready.1 hj
  refine ancB_ready hA hc hj i ?_
  have h1 := List.all_eq_true.1 hA j (List.mem_range.2 (Array.getElem?_eq_some_iff.1 hoj).1)
  simp only [hoj, Bool.and_eq_true, Bool.or_eq_true, decide_eq_true_eq, List.all_eq_true, List.mem_range, List.contains_iff_mem] at h1
  rcases h1.2 with h2 | h2
  · omega
  · exact h2 i hi

theorem Closed.set {n : Nat} (hA : ancB md ops A n = true) {listed : Array Bool} (hc : Closed md ops A n listed) {j : Nat} (hj : j ∈ Region.ready md ops listed) : Closed md ops A n (listed.setIfInBounds j true) := by
  refine ⟨by simp [hc.size], fun k hk i hi => ?_⟩
  by_cases hjk : j = k
  · subst hjk; exact getD_set_true (ancB_ready hA hc hj i hi)
  · rw [getD_set_ne false hjk] at hk
    exact getD_set_true (hc.anc k hk i hi)

theorem not_mem_of_ready {n : Nat} (hA : ancB md ops A n = true) {listed : Array Bool} (hc : Closed md ops A n listed) {i j : Nat} (hi : i ∈ Region.ready md ops listed) (hj : j ∈ Region.ready md ops listed) : i ∉ A j := by
  intro h
  have h1 := ancB_ready hA hc hj i h
  have h0 := (mem_ready.1 hi).1
  rw [getD_both h0] at h1
  cases h1

theorem opL_put {oi oj : Oper} {v : Value} (hap : oi.apart ops oj = true) (hsj : ∀ cs b, oj.op ≠ .select cs b) (a : Act) :
    execOp (a.put oi.dst v).eval oj = execOp a.eval oj ∧ Region.wanted oj (yielded ops (a.put oi.dst v).tmps) = Region.wanted oj (yielded ops a.tmps) ∧ (∀ u, (a.put oi.dst v).put oj.dst u = (a.put oj.dst u).put oi.dst v) ∧
    (∀ u, (∀ cs b, oi.op ≠ .select cs b) → execOp (a.put oj.dst u).eval oi = execOp a.eval oi ∧ Region.wanted oi (yielded ops (a.put oj.dst u).tmps) = Region.wanted oi (yielded ops a.tmps)) := by
  obtain ⟨h1, h2, h3⟩ := Oper.apart_spec hap
  exact ⟨execOp_put oj hsj a oi.dst v h1, wanted_put oj a oi.dst v h1, fun u => Act.put_comm a v u h2, fun u hsi => ⟨execOp_put oi hsi a oj.dst u h3, wanted_put oi a oj.dst u h3⟩⟩

/-- **An operation that may come up now may be taken first.** -/
theorem anyL_first {n g i : Nat} {oi : Oper} {Q : Vals → Act → Prop} (hT : Pre R) (hM : Mono R Φ) (hi : ops[i]? = some oi) (hsel : ∀ (j : Nat) (o : Oper) cs b, ops[j]? = some o → o.op ≠ .select cs b) (hA : ancB md ops A n = true) (hin : i < n) :
    ∀ (fuel : Nat) (listed : Array Bool) (F : Vals) (a : Act), Met R W0 Φ F → (∀ k, listed.getD k true = false → F k = none) → Closed md ops A n listed →
      (∀ j oj, ops[j]? = some oj → j ≠ i → listed.getD j true = false → (∀ e ∈ oj.after, Region.binds md e = true → e.on ≠ i) → oi.apart ops oj = true) →
      i ∈ Region.ready md ops listed → opL R P ops W0 Φ A i (anyL R P md ops W0 Φ A n g Q fuel (listed.setIfInBounds i true)) F a →
      anyL R P md ops W0 Φ A n g Q (fuel + 1) listed F a := by
  intro fuel
  induction fuel with
  | zero =>
    intro listed F a hm hN hc hfree hr H
    refine ⟨fun h => (by rw [h] at hr; cases hr), fun j hj => ?_⟩
    by_cases hji : j = i
    · subst hji; exact H
    · exfalso
      have hj' := ready_mono hj hji
      -- after i, the tail begins: so j is no less than n
      have hs : Region.seqB md ops g n (listed.setIfInBounds i true) = true := by
        unfold opL at H
        simp only [hi] at H
        split at H
        · split at H
          · obtain ⟨_, _, h⟩ := H; exact h.1
          · rename_i φ hp
            obtain ⟨w, hw, hk⟩ := hm
            obtain ⟨v, w', he, hφ⟩ := gives_some (H.1 w hw (hk.knows _))
            exact (H.2 v ⟨w', hT.trans hw he, (hk.ext hM he).put (fun φ' h' => by rw [hp] at h'; cases h'; exact hφ)⟩).1
        · exact H.1
      have hnj := seqB_ready hs j hj'
      have h1 := ancB_tail hA hc hj hnj hin
      have h0 := (mem_ready.1 hr).1
      rw [getD_both h0] at h1
      cases h1
  | succ fuel ih =>
    intro listed F a hm hN hc hfree hr H
    refine ⟨fun h => (by rw [h] at hr; cases hr), fun j hj => ?_⟩
    by_cases hji : j = i
    · subst hji; exact H
    · obtain ⟨hjun, oj, hoj, hall⟩ := mem_ready.1 hj
      have hiun := (mem_ready.1 hr).1
      have hnot : ∀ e ∈ oj.after, Region.binds md e = true → e.on ≠ i := fun e he hb heq => by
        have h1 := hall e he hb
        rw [heq, getD_both hiun] at h1
        cases h1
      have hap := hfree j oj hoj hji hjun hnot
      have hij : i ∉ A j := not_mem_of_ready hA hc hr hj
      have hjiA : j ∉ A i := not_mem_of_ready hA hc hj hr
      have hsi := fun cs b => hsel i oi cs b hi
      have hsj := fun cs b => hsel j oj cs b hoj
      have hr' := ready_mono hr (Ne.symm hji)
      have hj' := ready_mono hj hji
      have hc' := Closed.set hA hc hj
      have hfree' : ∀ k ok, ops[k]? = some ok → k ≠ i → (listed.setIfInBounds j true).getD k true = false →
          (∀ e ∈ ok.after, Region.binds md e = true → e.on ≠ i) → oi.apart ops ok = true := fun k ok hk hki hun hno => by
        refine hfree k ok hk hki ?_ hno
        by_cases hjk : j = k
        · subst hjk; exact hjun
        · rw [getD_set_ne true hjk] at hun; exact hun
      have hN' : ∀ F' : Vals, (∀ k, k ≠ j → F' k = F k) → ∀ k, (listed.setIfInBounds j true).getD k true = false → F' k = none := fun F' hF k hk => by
        by_cases hjk : j = k
        · subst hjk
          have hlt : j < listed.size := by
            rcases Nat.lt_or_ge j listed.size with h' | h'
            · exact h'
            · simp [Array.getElem?_eq_none h'] at hjun
          simp [hlt] at hk
        · rw [getD_set_ne true hjk] at hk
          rw [hF k (Ne.symm hjk)]; exact hN k hk
      -- what is to be shown of j, with 'i next' behind it
      suffices hh : opL R P ops W0 Φ A j (fun F' a' => opL R P ops W0 Φ A i (anyL R P md ops W0 Φ A n g Q fuel ((listed.setIfInBounds j true).setIfInBounds i true)) F' a') F a by
        exact opL_mono hm (fun F' a' hm' hF hK => ih _ F' a' hm' (hN' F' hF) hc' hfree' hr' hK) hh
      have hcomm : (listed.setIfInBounds j true).setIfInBounds i true = (listed.setIfInBounds i true).setIfInBounds j true := Array.setIfInBounds_comm _ _ hji
      rw [hcomm]
      generalize hX : anyL R P md ops W0 Φ A n g Q fuel ((listed.setIfInBounds i true).setIfInBounds j true) = X
      have HX : opL R P ops W0 Φ A i (fun F' a' => opL R P ops W0 Φ A j X F' a') F a := by
        refine opL_mono hm (fun F' a' _ _ h => ?_) H
        have h1 := h.2 j hj'
        rw [hX] at h1
        exact h1
      clear H hX ih
      -- the two orders
      have e0 := fun v => opL_put (ops := ops) (v := v) hap hsj a
      unfold opL at HX
      simp only [hi] at HX
      by_cases hwi : Region.wanted oi (yielded ops a.tmps) = true
      · simp only [hwi, if_true] at HX
        cases hpi : Φ i with
        | none =>
          simp only [hpi] at HX
          obtain ⟨v, hq, HX⟩ := HX
          have hq' : ∀ u F', (∀ k, k ≠ j → F' k = F k) → ∀ w, R W0 w → Knows Φ F' (A i) w → Oper.quietV P oi (a.put oj.dst u) w v := fun u F' hF w hw hk => by
            have := hq w hw (fun k hk' φ z h1 h2 => hk k hk' φ z h1 ((hF k (fun e => hjiA (e ▸ hk'))).trans h2))
            unfold Oper.quietV at this ⊢
            rw [((e0 v).2.2.2 u hsi).1]; exact this
          have fin : ∀ u F', (∀ k, k ≠ j → F' k = F k) → X F' ((a.put oj.dst u).put oi.dst v) → opL R P ops W0 Φ A i X F' (a.put oj.dst u) := fun u F' hF h => by
            unfold opL
            simp only [hi, ((e0 v).2.2.2 u hsi).2, hwi, if_true, hpi]
            exact ⟨v, hq' u F' hF, h⟩
          unfold opL
          simp only [hoj] at HX ⊢
          rw [(e0 v).2.1] at HX
          split at HX
          · rename_i hwj
            rw [if_pos hwj]
            cases hpj : Φ j with
            | none =>
              simp only [hpj] at HX ⊢
              obtain ⟨u, h1, h2⟩ := HX
              refine ⟨u, fun w hw hk => ?_, ?_⟩
              · have := h1 w hw hk
                unfold Oper.quietV at this ⊢
                rwa [(e0 v).1] at this
              · rw [(e0 v).2.2.1] at h2
                have := fin u F (fun _ _ => rfl) h2
                unfold opL at this; exact this
            | some φ =>
              simp only [hpj] at HX ⊢
              refine ⟨fun w hw hk => ?_, fun u hu => ?_⟩
              · have := HX.1 w hw hk
                unfold Oper.gives at this ⊢
                rwa [(e0 v).1] at this
              · have h2 := HX.2 u hu
                rw [(e0 v).2.2.1] at h2
                have := fin u (F.put j u) (fun k hk => by unfold Vals.put; rw [if_neg hk]) h2
                unfold opL at this; exact this
          · rename_i hwj
            rw [if_neg hwj]
            rw [(e0 v).2.2.1] at HX
            have := fin undef F (fun _ _ => rfl) HX
            unfold opL at this; exact this
        | some φi =>
          simp only [hpi] at HX
          obtain ⟨hq, HX⟩ := HX
          obtain ⟨w0, hw0, hk0⟩ := hm
          obtain ⟨vs, ws, hes, hφs⟩ := gives_some (hq w0 hw0 (hk0.knows _))
          have hms : Met R W0 Φ (F.put i vs) := ⟨ws, hT.trans hw0 hes, (hk0.ext hM hes).put (fun φ' h' => by rw [hpi] at h'; cases h'; exact hφs)⟩
          have hq' : ∀ u F', (∀ k, k ≠ j → F' k = F k) → ∀ w, R W0 w → Knows Φ F' (A i) w → Oper.gives R P oi (a.put oj.dst u) w φi := fun u F' hF w hw hk => by
            have := hq w hw (fun k hk' φ z h1 h2 => hk k hk' φ z h1 ((hF k (fun e => hjiA (e ▸ hk'))).trans h2))
            unfold Oper.gives at this ⊢
            rw [((e0 vs).2.2.2 u hsi).1]; exact this
          have fin : ∀ u F', (∀ k, k ≠ j → F' k = F k) → (∀ v, Met R W0 Φ (F'.put i v) → X (F'.put i v) ((a.put oj.dst u).put oi.dst v)) → opL R P ops W0 Φ A i X F' (a.put oj.dst u) := fun u F' hF h => by
            unfold opL
            simp only [hi, ((e0 vs).2.2.2 u hsi).2, hwi, if_true, hpi]
            exact ⟨hq' u F' hF, h⟩
          have Hs := HX vs hms
          unfold opL at Hs ⊢
          simp only [hoj] at Hs ⊢
          rw [(e0 vs).2.1] at Hs
          by_cases hwj : Region.wanted oj (yielded ops a.tmps) = true
          · rw [if_pos hwj] at Hs ⊢
            cases hpj : Φ j with
            | none =>
              simp only [hpj] at Hs ⊢
              obtain ⟨u, h1, _⟩ := Hs
              have hu : ∀ w, R W0 w → Knows Φ F (A j) w → Oper.quietV P oj a w u := fun w hw hk => by
                have := h1 w hw ((knows_put hij w).2 hk)
                unfold Oper.quietV at this ⊢
                rwa [(e0 vs).1] at this
              refine ⟨u, hu, ?_⟩
              have := fin u F (fun _ _ => rfl) (fun v hv => by
                have h2 := HX v hv
                unfold opL at h2
                simp only [hoj, (e0 v).2.1, hwj, if_true, hpj] at h2
                obtain ⟨u', h3, h4⟩ := h2
                have h5 : Oper.quietV P oj a w0 u' := by
                  have := h3 w0 hw0 ((knows_put hij w0).2 (hk0.knows _))
                  unfold Oper.quietV at this ⊢
                  rwa [(e0 v).1] at this
                have e1 : u' = u := Oper.quietV_one h5 (hu w0 hw0 (hk0.knows _))
                subst e1
                rw [(e0 v).2.2.1] at h4
                exact h4)
              unfold opL at this; exact this
            | some φ =>
              simp only [hpj] at Hs ⊢
              refine ⟨fun w hw hk => ?_, fun u hu => ?_⟩
              · have := Hs.1 w hw ((knows_put hij w).2 hk)
                unfold Oper.gives at this ⊢
                rwa [(e0 vs).1] at this
              · have hFj : ∀ k, k ≠ j → (F.put j u) k = F k := fun k hk => by unfold Vals.put; rw [if_neg hk]
                have := fin u (F.put j u) hFj (fun v hv => by
                  rw [Vals.put_comm F hji u v] at hv ⊢
                  have hv' : Met R W0 Φ (F.put i v) := by
                    obtain ⟨w1, hw1, hk1⟩ := hv
                    refine ⟨w1, hw1, hk1.back ?_⟩
                    unfold Vals.put
                    rw [if_neg hji]
                    exact hN j hjun
                  have h2 := HX v hv'
                  unfold opL at h2
                  simp only [hoj, (e0 v).2.1, hwj, if_true, hpj] at h2
                  have h4 := h2.2 u hv
                  rw [(e0 v).2.2.1] at h4
                  exact h4)
                unfold opL at this; exact this
          · rw [if_neg hwj] at Hs ⊢
            have := fin undef F (fun _ _ => rfl) (fun v hv => by
              have h2 := HX v hv
              unfold opL at h2
              simp only [hoj, (e0 v).2.1, hwj, if_false, Bool.false_eq_true] at h2
              rw [(e0 v).2.2.1] at h2
              exact h2)
            unfold opL at this; exact this
      · simp only [hwi, if_false, Bool.false_eq_true] at HX
        have fin : ∀ u F', X F' ((a.put oj.dst u).put oi.dst undef) → opL R P ops W0 Φ A i X F' (a.put oj.dst u) := fun u F' h => by
          unfold opL
          simp only [hi, ((e0 undef).2.2.2 u hsi).2, hwi, if_false, Bool.false_eq_true]
          exact h
        unfold opL
        simp only [hoj] at HX ⊢
        rw [(e0 undef).2.1] at HX
        split at HX
        · rename_i hwj
          rw [if_pos hwj]
          cases hpj : Φ j with
          | none =>
            simp only [hpj] at HX ⊢
            obtain ⟨u, h1, h2⟩ := HX
            refine ⟨u, fun w hw hk => ?_, ?_⟩
            · have := h1 w hw hk
              unfold Oper.quietV at this ⊢
              rwa [(e0 undef).1] at this
            · rw [(e0 undef).2.2.1] at h2
              have := fin u F h2
              unfold opL at this; exact this
          | some φ =>
            simp only [hpj] at HX ⊢
            refine ⟨fun w hw hk => ?_, fun u hu => ?_⟩
            · have := HX.1 w hw hk
              unfold Oper.gives at this ⊢
              rwa [(e0 undef).1] at this
            · have h2 := HX.2 u hu
              rw [(e0 undef).2.2.1] at h2
              have := fin u (F.put j u) h2
              unfold opL at this; exact this
        · rename_i hwj
          rw [if_neg hwj]
          rw [(e0 undef).2.2.1] at HX
          have := fin undef F HX
          unfold opL at this; exact this

/-- The walk in the order of the text. -/
def lexL (R : World → World → Prop) (P : Program) (ops : Array Oper) (W0 : World) (Φ : Facts) (A : Nat → List Nat) (Q : Vals → Act → Prop) : List Oper → Nat → Vals → Act → Prop
  | [], _, F, a => Q F a
  | o :: rest, k, F, a =>
    if Region.wanted o (yielded ops a.tmps) then
      match Φ k with
      | none => ∃ v, (∀ w, R W0 w → Knows Φ F (A k) w → Oper.quietV P o a w v) ∧ lexL R P ops W0 Φ A Q rest (k + 1) F (a.put o.dst v)
      | some φ => (∀ w, R W0 w → Knows Φ F (A k) w → Oper.gives R P o a w φ) ∧ ∀ v, Met R W0 Φ (F.put k v) → lexL R P ops W0 Φ A Q rest (k + 1) (F.put k v) (a.put o.dst v)
    else lexL R P ops W0 Φ A Q rest (k + 1) F (a.put o.dst undef)

theorem anyL_lex {n g : Nat} {Q : Vals → Act → Prop} (hT : Pre R) (hM : Mono R Φ) (hsel : Region.noSelect ops = true) (hA : ancB md ops A n = true) :
    ∀ (l : List Oper) (k : Nat) (listed : Array Bool) (F : Vals) (a : Act), (∀ j, j < l.length → l[j]? = ops[k + j]?) → k + l.length = n → Met R W0 Φ F → (∀ k, listed.getD k true = false → F k = none) → Closed md ops A n listed →
    Region.lexHead md ops g l.length k listed = true → lexL R P ops W0 Φ A Q l k F a → anyL R P md ops W0 Φ A n g Q l.length listed F a
  | [], k, listed, F, a, _, hk, _, _, _, hB, h => by
    have : k = n := by simpa using hk
    subst this
    exact ⟨by simpa [Region.lexHead] using hB, h⟩
  | o :: l, k, listed, F, a, hl, hk, hm, hN, hc, hB, h => by
    have h0 : ops[k]? = some o := by simpa using (hl 0 (by simp)).symm
    simp only [List.length_cons, Region.lexHead, Bool.and_eq_true] at hB
    obtain ⟨⟨hr, hf⟩, hB'⟩ := hB
    have hkn : k < n := by simp only [List.length_cons] at hk; omega
    have hr' : k ∈ Region.ready md ops listed := by simpa using hr
    have hst : opL R P ops W0 Φ A k (lexL R P ops W0 Φ A Q l (k + 1)) F a := by unfold opL; simp only [h0]; exact h
    refine anyL_first hT hM h0 (Region.noSelect_spec hsel) hA hkn l.length listed F a hm hN hc (Region.free_spec h0 hf) hr' (opL_mono hm (fun F' a' hm' hF hK => ?_) hst)
    refine anyL_lex hT hM hsel hA l (k + 1) _ F' a' (fun j hj => by have := hl (j + 1) (by simp; omega); simpa [Nat.add_assoc, Nat.add_comm 1 j] using this) (by simp only [List.length_cons] at hk; omega) hm' (fun i hi => ?_) (Closed.set hA hc hr') hB' hK
    by_cases hki : k = i
    · subst hki
      have hun := (mem_ready.1 hr').1
      have hlt : k < listed.size := by
        rcases Nat.lt_or_ge k listed.size with h' | h'
        · exact h'
        · simp [Array.getElem?_eq_none h'] at hun
      simp [hlt] at hi
    · rw [getD_set_ne true hki] at hi
      rw [hF i (Ne.symm hki)]; exact hN i hi

/-- All that is asked of the region by looking. -/
def regB (md : Region.Mode) (ops : Array Oper) (A : Nat → List Nat) (n : Nat) : Bool :=
  Region.noSelect ops && ancB md ops A n && Region.lexHead md ops (ops.size - n) n 0 (Array.replicate ops.size false) && decide (n ≤ ops.size)

theorem wp_region_ext {id : Nat} {Q : Exit → Act → World → Prop} {a : Act} {w : World} {l : List Oper} (n : Nat) (Φ : Facts) (A : Nat → List Nat) (hm : P.follows .mixedOrders = true) (hB : regB .any l.toArray A n = true) (hT : Pre R) (hM : Mono R Φ)
    (h : lexL R P l.toArray w Φ A (fun F a' => ∀ w', R w w' → KnowsAll Φ F w' → wpList P l.toArray Q (l.drop n) a' w') (l.take n) 0 (fun _ => none) a) : (Code.region id l.toArray true).wp P Q a w := by
  simp only [regB, Bool.and_eq_true, decide_eq_true_eq] at hB
  obtain ⟨⟨⟨hsel, hA⟩, hlex⟩, hn⟩ := hB
  have hn' : n ≤ l.length := by simpa using hn
  have htl : (l.take n).length = n := by simp; omega
  have hdl : (l.drop n).length = l.toArray.size - n := by simp
  have hd : R w { w with drawn := w.drawn + 1 } := hT.drew w
  have hk0 : ∀ w', KnowsAll Φ (fun _ => none) w' := fun w' i φ v _ hv => by cases hv
  have H := anyL_lex (P := P) (md := .any) (W0 := w) (g := l.toArray.size - n) hT hM hsel hA (l.take n) 0 (Array.replicate l.toArray.size false) (fun _ => none) a (fun j hj => by
    have hj' : j < n := by rw [htl] at hj; exact hj
    simp [hj']) (by simpa using htl) ⟨w, hT.refl w, hk0 w⟩ (fun _ _ => rfl) ⟨by simp, fun j hj => by rw [getD_replicate_false] at hj; cases hj⟩ (by rw [htl]; exact hlex) h
  refine wp_region_any hm ?_
  have := wpAny_of_anyL (Q' := Q) (g := l.toArray.size - n) hT hM (fun listed F a' w' hw hk hs hQ => by
    have := wpAny_of_seq (md := .any) (Q' := Q) (l.drop n) n listed a' w' (fun j => by simp [List.getElem?_drop]) (by rw [hdl]; exact hs) (hQ w' hw hk)
    rwa [hdl] at this) _ _ _ _ _ hd (hk0 _) H
  rw [htl, show n + (l.toArray.size - n) = l.toArray.size by omega] at this
  exact this

/-- Facts by a list. -/
def factsOf : List (Nat × (Value → World → Prop)) → Facts
  | [], _ => none
  | (i, φ) :: r, k => if k = i then some φ else factsOf r k
def Stays (R : World → World → Prop) (φ : Value → World → Prop) : Prop := ∀ v w w', R w w' → φ v w → φ v w'
theorem mono_nil : Mono R (factsOf []) := fun _ _ h => by cases h
theorem mono_cons {i : Nat} {φ : Value → World → Prop} {r : List (Nat × (Value → World → Prop))} (h : Stays R φ) (hr : Mono R (factsOf r)) : Mono R (factsOf ((i, φ) :: r)) := fun j ψ hj => by
  unfold factsOf at hj
  split at hj
  · cases hj; exact h
  · exact hr j ψ hj
theorem stays_eq (c : Value) : Stays R (fun v _ => v = c) := fun _ _ _ _ h => h

/-! One operation of the walk. -/
section
variable {Q : Vals → Act → Prop} {o : Oper} {rest : List Oper} {k : Nat} {F : Vals} {a : Act}
theorem lexL_nil (h : Q F a) : lexL R P ops W0 Φ A Q [] k F a := h
theorem lexL_skip (hw : Region.wanted o (yielded ops a.tmps) = false) (h : lexL R P ops W0 Φ A Q rest (k + 1) F (a.put o.dst undef)) : lexL R P ops W0 Φ A Q (o :: rest) k F a := by
  unfold lexL
  rw [if_neg (by simp [hw])]
  exact h
theorem lexL_quiet {v : Value} (hw : Region.wanted o (yielded ops a.tmps) = true) (hΦ : Φ k = none) (h : ∀ w, R W0 w → Knows Φ F (A k) w → Oper.quietV P o a w v) (h' : lexL R P ops W0 Φ A Q rest (k + 1) F (a.put o.dst v)) :
    lexL R P ops W0 Φ A Q (o :: rest) k F a := by
  unfold lexL
  rw [if_pos hw, hΦ]
  exact ⟨v, h, h'⟩
theorem lexL_quiet' {v : Value} (hg : o.guard = none) (hΦ : Φ k = none) (h : ∀ w, R W0 w → Knows Φ F (A k) w → Oper.quietV P o a w v) (h' : lexL R P ops W0 Φ A Q rest (k + 1) F (a.put o.dst v)) :
    lexL R P ops W0 Φ A Q (o :: rest) k F a := lexL_quiet (by simp [Region.wanted, hg]) hΦ h h'
theorem lexL_give {φ : Value → World → Prop} (hw : Region.wanted o (yielded ops a.tmps) = true) (hΦ : Φ k = some φ) (h : ∀ w, R W0 w → Knows Φ F (A k) w → Oper.gives R P o a w φ) (h' : ∀ v w, R W0 w → φ v w → KnowsAll Φ (F.put k v) w → lexL R P ops W0 Φ A Q rest (k + 1) (F.put k v) (a.put o.dst v)) :
    lexL R P ops W0 Φ A Q (o :: rest) k F a := by
  unfold lexL
  rw [if_pos hw, hΦ]
  exact ⟨h, fun v ⟨w, hw, hk⟩ => h' v w hw (hk k φ v hΦ (by simp [Vals.put])) hk⟩
theorem lexL_give' {φ : Value → World → Prop} (hg : o.guard = none) (hΦ : Φ k = some φ) (h : ∀ w, R W0 w → Knows Φ F (A k) w → Oper.gives R P o a w φ) (h' : ∀ v w, R W0 w → φ v w → KnowsAll Φ (F.put k v) w → lexL R P ops W0 Φ A Q rest (k + 1) (F.put k v) (a.put o.dst v)) :
    lexL R P ops W0 Φ A Q (o :: rest) k F a := lexL_give (by simp [Region.wanted, hg]) hΦ h h'
theorem KnowsAll.get {F : Vals} {w : World} (h : KnowsAll Φ F w) (i : Nat) {φ : Value → World → Prop} {v : Value} (hΦ : Φ i = some φ) (hF : F i = some v) : φ v w := h i φ v hΦ hF
theorem Knows.get {F : Vals} {L : List Nat} {w : World} (h : Knows Φ F L w) (i : Nat) (hi : i ∈ L) {φ : Value → World → Prop} {v : Value} (hΦ : Φ i = some φ) (hF : F i = some v) : φ v w := h i hi φ v hΦ hF
theorem region_named {id : Nat} {l : Array Oper} {d : Bool} {Q : Exit → Act → World → Prop} {a : Act} {w : World} (h : ∀ W, W = w → (Code.region id l d).wp P Q a W) : (Code.region id l d).wp P Q a w := h w rfl
end
end
end Go.Proofs.Yteadkafeabhhhaa
