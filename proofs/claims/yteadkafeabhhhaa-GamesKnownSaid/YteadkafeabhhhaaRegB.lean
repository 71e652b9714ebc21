/- A region whose order is open, in which loads stand beside calls, and whose last operations (a chain) write what was loaded: the loads may be taken first, as long as the chain has not begun. -/
import Derived.StillTail
import Derived.Deep.RegionHeld3
namespace Go.Proofs.Yteadkafeabhhhaa
set_option linter.unusedVariables false
set_option linter.unusedSimpArgs false
section
variable {P : Program} {ops : Array Oper} {Q : Exit → Act → World → Prop} {md : Region.Mode} {S : World → Prop} {B : Nat}

/-- Whatever order is picked, and S holds as long as number B has not come up. -/
def wpAnyB (P : Program) (md : Region.Mode) (ops : Array Oper) (Q : Exit → Act → World → Prop) (S : World → Prop) (B : Nat) : Nat → Array Bool → Act → World → Prop
  | 0, listed, a, w => Region.ready md ops listed = [] ∧ Q .normal a w
  | fuel + 1, listed, a, w =>
    (Region.ready md ops listed = [] → Q .normal a w) ∧
    ∀ i ∈ Region.ready md ops listed, wpOp P ops Q i (fun a' w' => ((listed.setIfInBounds i true).getD B false = false → S w') ∧ wpAnyB P md ops Q S B fuel (listed.setIfInBounds i true) a' w') a w

theorem wpAny_of_B : ∀ (fuel : Nat) (listed : Array Bool) (a : Act) (w : World), wpAnyB P md ops Q S B fuel listed a w → wpAny P md ops Q fuel listed a w
  | 0, _, _, _, h => h
  | fuel + 1, _, _, _, h => ⟨h.1, fun i hi => wpOp_mono (fun a' w' h' => wpAny_of_B fuel _ a' w' h'.2) (h.2 i hi)⟩

theorem getD_set_false {l : Array Bool} {i k : Nat} (h : i ≠ k) (d : Bool) : (l.setIfInBounds i true).getD k d = l.getD k d := getD_set_ne d h
/-- Each of D waits for i or for one of D. -/
def Waits (md : Region.Mode) (ops : Array Oper) (i : Nat) (D : List Nat) : Prop := ∀ j ∈ D, ∃ o, ops[j]? = some o ∧ ∃ e ∈ o.after, Region.binds md e = true ∧ (e.on = i ∨ e.on ∈ D)
theorem not_on {listed : Array Bool} {k : Nat} (h : listed.getD k false = true) (h' : listed.getD k true = false) : False := by
  rcases Nat.lt_or_ge k listed.size with hk | hk
  · simp [hk] at h h'; rw [h'] at h; cases h
  · simp [Array.getElem?_eq_none hk] at h
theorem ready_waits {listed : Array Bool} {i : Nat} {D : List Nat} (hD : Waits md ops i D) (hi : listed.getD i true = false) (hl : ∀ j ∈ D, listed.getD j false = false) {j : Nat} (hj : j ∈ D) : j ∉ Region.ready md ops listed := fun h => by
  obtain ⟨_, o', ho', hall⟩ := mem_ready.1 h
  obtain ⟨o, ho, e, he, hb, hon⟩ := hD j hj
  rw [ho] at ho'
  cases ho'
  have h1 := hall e he hb
  rcases hon with hon | hon
  · rw [hon] at h1; exact not_on h1 hi
  · rw [hl _ hon] at h1; cases h1

theorem wpAnyB_first {i : Nat} {oi : Oper} {v : Value} (hi : ops[i]? = some oi) (hsel : ∀ (j : Nat) (o : Oper) cs b, ops[j]? = some o → o.op ≠ .select cs b)
    (hQ : ∀ c a w, Q (.panic c) (a.put oi.dst v) w → Q (.panic c) a w) {D : List Nat} (hD : Waits md ops i D) (hBD : B ∈ D) (hiB : i ≠ B) :
    ∀ (fuel : Nat) (listed : Array Bool) (a : Act) (w : World),
      (∀ j oj, ops[j]? = some oj → j ≠ i → listed.getD j true = false → (∀ e ∈ oj.after, Region.binds md e = true → e.on ≠ i) → oi.apart ops oj = true) →
      i ∈ Region.ready md ops listed → (∀ j ∈ D, listed.getD j false = false) → YieldsIf P ops S oi v a → S w →
      wpAnyB P md ops Q S B fuel (listed.setIfInBounds i true) (a.put oi.dst v) w → wpAnyB P md ops Q S B (fuel + 1) listed a w := by
  intro fuel
  induction fuel with
  | zero =>
    intro listed a w _ hr hB hy hS H
    refine ⟨fun h => (by rw [h] at hr; cases hr), fun j hj => ?_⟩
    by_cases hji : j = i
    · subst hji; exact hy.wpOp hi hS ⟨fun _ => hS, H⟩
    · have := ready_mono hj hji
      rw [H.1] at this
      cases this
  | succ fuel ih =>
    intro listed a w hfree hr hB hy hS H
    refine ⟨fun h => (by rw [h] at hr; cases hr), fun j hj => ?_⟩
    by_cases hji : j = i
    · subst hji; exact hy.wpOp hi hS ⟨fun _ => hS, H⟩
    · have h1 := H.2 j (ready_mono hj hji)
      obtain ⟨hjun, oj, hoj, hall⟩ := mem_ready.1 hj
      have hjD : j ∉ D := fun e => ready_waits hD (mem_ready.1 hr).1 hB e hj
      have hjB : j ≠ B := fun e => hjD (e ▸ hBD)
      have hnot : ∀ e ∈ oj.after, Region.binds md e = true → e.on ≠ i := fun e he hb heq => by
        have h1 := hall e he hb
        have h0 := (mem_ready.1 hr).1
        rw [heq] at h1
        rcases Nat.lt_or_ge i listed.size with h' | h'
        · simp [h'] at h0 h1; rw [h0] at h1; cases h1
        · simp [Array.getElem?_eq_none h'] at h1
      have h2 := wpOp_putIf hoj (hfree j oj hoj hji hjun hnot) (fun cs b => hsel i oi cs b hi) (fun cs b => hsel j oj cs b hoj) hQ hy h1
      have hfree' : ∀ k ok, ops[k]? = some ok → k ≠ i → (listed.setIfInBounds j true).getD k true = false →
          (∀ e ∈ ok.after, Region.binds md e = true → e.on ≠ i) → oi.apart ops ok = true := fun k ok hk hki hun hno => by
        refine hfree k ok hk hki ?_ hno
        by_cases hjk : j = k
        · subst hjk; exact hjun
        · rw [getD_set_ne true hjk] at hun; exact hun
      have hB' : ∀ k ∈ D, (listed.setIfInBounds j true).getD k false = false := fun k hk => by rw [getD_set_ne false (fun e => hjD (by rw [e]; exact hk))]; exact hB k hk
      have hB2 : ((listed.setIfInBounds i true).setIfInBounds j true).getD B false = false := by rw [getD_set_ne false hjB, getD_set_ne false hiB]; exact hB B hBD
      refine wpOp_mono (fun a' w' h3 => ⟨fun _ => h3.2.1 hB2, ih (listed.setIfInBounds j true) a' w' hfree' (ready_mono hr (Ne.symm hji)) hB' h3.1 (h3.2.1 hB2) ?_⟩) h2
      rw [Array.setIfInBounds_comm _ _ hji]
      exact h3.2.2

/-- Once number B has come up nothing more is asked. -/
theorem wpAnyB_of_any : ∀ (fuel : Nat) (listed : Array Bool) (a : Act) (w : World), listed.getD B false = true → wpAny P md ops Q fuel listed a w → wpAnyB P md ops Q S B fuel listed a w
  | 0, _, _, _, _, h => h
  | fuel + 1, listed, a, w, hB, h => ⟨h.1, fun i hi => wpOp_mono (fun a' w' h' => by
      have hb : (listed.setIfInBounds i true).getD B false = true := by
        by_cases hiB : i = B
        · subst hiB
          rcases Nat.lt_or_ge i listed.size with h' | h'
          · simp [h']
          · simp [Array.getElem?_eq_none h'] at hB
        · rw [getD_set_ne false hiB]; exact hB
      exact ⟨fun hf => (by rw [hb] at hf; cases hf), wpAnyB_of_any fuel _ a' w' hb h'⟩) (h.2 i hi)⟩
end

section
variable {P : Program} {l : List Oper} {Q : Exit → Act → World → Prop} {S : World → Prop} {B : Nat}
/-- Those that wait for number i. -/
def depsOf (l : List Oper) (i : Nat) : List Nat := (List.range l.length).foldl (fun D j => match l[j]? with | some o => if o.after.any (fun e => Region.binds .any e && (decide (e.on = i) || D.contains e.on)) then j :: D else D | none => D) []
/-- What is asked of the region by looking. -/
def barB (l : List Oper) (listed : Array Bool) (B i : Nat) : Bool :=
  let D := depsOf l i
  D.contains B && decide (i ≠ B) && D.all (fun j => (match l[j]? with | some o => o.after.any (fun e => Region.binds .any e && (decide (e.on = i) || D.contains e.on)) | none => false) && !(listed.getD j false))
theorem wpAnyB_take {i : Nat} {oi : Oper} {rest : List Oper} {v : Value} {fuel : Nat} {listed : Array Bool} {a : Act} {w : World} (hi : l.drop i = oi :: rest)
    (hs : Region.noSelect l.toArray = true) (hf : Region.free .any l.toArray listed i = true) (hr : (Region.ready .any l.toArray listed).contains i = true) (hb : barB l listed B i = true)
    (hQ : ∀ c a w, Q (.panic c) (a.put oi.dst v) w → Q (.panic c) a w) (hy : YieldsIf P l.toArray S oi v a) (hS : S w)
    (h : wpAnyB P .any l.toArray Q S B fuel (listed.setIfInBounds i true) (a.put oi.dst v) w) : wpAnyB P .any l.toArray Q S B (fuel + 1) listed a w := by
  have hi' : l.toArray[i]? = some oi := by
    have := congrArg (fun x => x[0]?) hi
    simpa using this
  unfold barB at hb
  simp only [Bool.and_eq_true, decide_eq_true_eq] at hb
  obtain ⟨⟨h1, h2⟩, h3⟩ := hb
  rw [List.all_eq_true] at h3
  have hD : Waits .any l.toArray i (depsOf l i) := fun j hj => by
    have := h3 j hj
    rw [Bool.and_eq_true] at this
    cases hoj : l[j]? with
    | none => rw [hoj] at this; simp at this
    | some o =>
      rw [hoj] at this
      obtain ⟨k, hk, hk2⟩ := Array.any_eq_true.1 this.1
      simp only [Bool.and_eq_true, Bool.or_eq_true, decide_eq_true_eq] at hk2
      exact ⟨o, by simpa using hoj, _, Array.getElem_mem hk, hk2.1, hk2.2.imp id (fun h => by simpa using h)⟩
  exact wpAnyB_first hi' (Region.noSelect_spec hs) hQ hD (by simpa using h1) h2 fuel listed a w (Region.free_spec hi' hf) (by simpa using hr) (fun j hj => by
    have := h3 j hj
    rw [Bool.and_eq_true] at this
    simpa using this.2) hy hS h
/-- Those that may come up, one by one. -/
def AllB (P : Program) (l : List Oper) (Q : Exit → Act → World → Prop) (S : World → Prop) (B fuel : Nat) (listed : Array Bool) (a : Act) (w : World) (rs : List Nat) : Prop :=
  ∀ i ∈ rs, wpOp P l.toArray Q i (fun a' w' => ((listed.setIfInBounds i true).getD B false = false → S w') ∧ wpAnyB P .any l.toArray Q S B fuel (listed.setIfInBounds i true) a' w') a w
theorem AllB.nil {fuel : Nat} {listed : Array Bool} {a : Act} {w : World} : AllB P l Q S B fuel listed a w [] := fun _ h => by cases h
theorem AllB.cons {fuel : Nat} {listed : Array Bool} {a : Act} {w : World} {i : Nat} {o : Oper} {rs : List Nat} {rest : List Oper} (ho : l.drop i = o :: rest)
    (h : ∀ K' : Act → World → Prop, Shut (∀ a w, S w → wpAnyB P .any l.toArray Q S B fuel (listed.setIfInBounds i true) a w → K' a w) → if Region.wanted o (yielded l.toArray a.tmps) = true then Oper.wp P o a w K' Q else K' (a.put o.dst undef) w)
    (hs : AllB P l Q S B fuel listed a w rs) : AllB P l Q S B fuel listed a w (i :: rs) := fun j hj => by
  have ho' : l.toArray[i]? = some o := by
    have := congrArg (fun x => x[0]?) ho
    simpa using this
  rcases List.mem_cons.1 hj with rfl | hj
  · exact wpOp_step ho' (fun K' hK => h K' (fun a w hS hW => hK a w ⟨fun _ => hS, hW⟩))
  · exact hs j hj
theorem wpAnyB_ready {rs : List Nat} {fuel : Nat} {listed : Array Bool} {a : Act} {w : World} (hr : Region.ready .any l.toArray listed = rs) (hne : rs ≠ [])
    (h : AllB P l Q S B fuel listed a w rs) : wpAnyB P .any l.toArray Q S B (fuel + 1) listed a w := ⟨fun h0 => absurd (hr ▸ h0) hne, hr ▸ h⟩
/-- The chain at the end. -/
theorem wpAnyB_tail {o : Oper} {rest : List Oper} {fuel : Nat} {listed : Array Bool} {a : Act} {w : World} (hl : l.drop B = o :: rest) (hf : (o :: rest).length = fuel) (hlt : B < listed.size)
    (hB : Region.seqB .any l.toArray fuel B listed = true) (h : wpList P l.toArray Q (o :: rest) a w) : wpAnyB P .any l.toArray Q S B fuel listed a w := by
  subst hf
  have hlj : ∀ j, (o :: rest)[j]? = l.toArray[B + j]? := fun j => by rw [← hl]; simp [List.getElem?_drop]
  have h0 : l.toArray[B]? = some o := by simpa using (hlj 0).symm
  simp only [List.length_cons, Region.seqB, Bool.and_eq_true, decide_eq_true_eq] at hB
  refine ⟨fun h1 => (by rw [hB.1] at h1; cases h1), fun i hi => ?_⟩
  rw [hB.1] at hi
  have hik : i = B := by simpa using hi
  subst hik
  have hw : wpOp P l.toArray Q i (wpList P l.toArray Q rest) a w := by unfold wpOp; simp only [h0]; exact h
  have hb : (listed.setIfInBounds i true).getD i false = true := by simp [hlt]
  exact wpOp_mono (fun a' w' h' => ⟨fun hf => (by rw [hb] at hf; cases hf), wpAnyB_of_any _ _ _ _ hb (wpAny_of_seq rest (i + 1) _ a' w' (fun j => by have := hlj (j + 1); simpa [Nat.add_assoc, Nat.add_comm 1 j] using this) hB.2 h')⟩) hw
theorem wp_region_bar {id : Nat} {a : Act} {w : World} (B : Nat) (S : World → Prop) (hm : P.follows .mixedOrders = true)
    (h : wpAnyB P .any l.toArray Q S B l.toArray.size (Array.replicate l.toArray.size false) a w.drew) : (Code.region id l.toArray true).wp P Q a w := wp_region_any hm (wpAny_of_B _ _ _ _ h)
end
end Go.Proofs.Yteadkafeabhhhaa
