/- A region whose order is open, walked once in the order of the text, whatever its operations make and write: what is known is told by an invariant over the values that the operations have given so far and the memory. -/
import Derived.Test.YtamodjlifpjaoaaDoorGA
namespace Go.Proofs.YtamodjlifpjaoaaDoor
open Go.RowKit
set_option linter.unusedVariables false
set_option linter.unusedSimpArgs false
namespace RI
section
variable {P : Program} {ops : Array Oper} {md : Region.Mode} {Φ : Nat → Bool} {A : Nat → List Nat} {I : Vals → World → Prop}

def Sub (F G : Vals) : Prop := ∀ k v, F k = some v → G k = some v
/-- G has what F has of the operations listed. -/
def Agree (F G : Vals) (L : List Nat) : Prop := ∀ k ∈ L, ∀ v, F k = some v → G k = some v
def Met (I : Vals → World → Prop) (F : Vals) : Prop := ∃ G w, I G w ∧ Sub F G
theorem Sub.agree {F G : Vals} (h : Sub F G) (L : List Nat) : Agree F G L := fun k _ v hv => h k v hv
theorem Sub.put {F G : Vals} (h : Sub F G) (i : Nat) (v : Value) : Sub (F.put i v) (G.put i v) := fun k u hk => by
  unfold Vals.put at hk ⊢
  split
  · rename_i e; rw [if_pos e] at hk; exact hk
  · rename_i e; rw [if_neg e] at hk; exact h k u hk
theorem Sub.put_of {F G : Vals} (h : Sub F G) {i : Nat} {v : Value} (hi : G i = some v) : Sub (F.put i v) G := fun k u hk => by
  unfold Vals.put at hk
  split at hk
  · rename_i e; subst e; cases hk; exact hi
  · exact h k u hk
theorem sub_refl (F : Vals) : Sub F F := fun _ _ h => h
theorem Met.back {F : Vals} {i : Nat} {v : Value} (h : Met I (F.put i v)) (hF : F i = none) : Met I F := by
  obtain ⟨G, w, hI, hs⟩ := h
  refine ⟨G, w, hI, fun k u hk => hs k u ?_⟩
  unfold Vals.put
  split
  · rename_i e; subst e; rw [hF] at hk; cases hk
  · exact hk
theorem agree_put {F G : Vals} {i : Nat} {v : Value} {L : List Nat} (hi : i ∉ L) : Agree (F.put i v) G L ↔ Agree F G L := by
  have e : ∀ j ∈ L, (F.put i v) j = F j := fun j hj => by
    have hne : j ≠ i := fun e => by subst e; exact hi hj
    simp [Vals.put, hne]
  constructor
  · intro h j hj u hu; exact h j hj u ((e j hj).trans hu)
  · intro h j hj u hu; exact h j hj u ((e j hj).symm.trans hu)

/-- An operation that hands back some v, of which and of the world that it leaves K holds. -/
def Gave (K : Value → World → Prop) (e : Ending) (w'' : World) : Prop := ∃ v, e = .returned v ∧ K v w''
def givesV (P : Program) (K : Value → World → Prop) : Result Next → Prop
  | .ok (.value v) w' => K v w'
  | .ok .skip w' => K undef w'
  | .ok (.enter f args) w' => Calls P f args w' (Gave K)
  | _ => False
def Oper.gives (P : Program) (o : Oper) (a : Act) (w : World) (K : Value → World → Prop) : Prop := givesV P K ((execOp a.eval o).run P w)
theorem gives_some {o : Oper} {a : Act} {w : World} {K : Value → World → Prop} (h : Oper.gives P o a w K) : ∃ v w', K v w' := by
  unfold Oper.gives at h
  generalize (execOp a.eval o).run P w = r at h
  cases r with
  | halt x w' => exact h.elim
  | ok n w' =>
    cases n <;> simp only [givesV] at h
    case enter f args =>
      obtain ⟨e, w1, fr, ⟨v, _, h1⟩, _⟩ := h []
      exact ⟨v, w1, h1⟩
    all_goals first | exact ⟨_, _, h⟩ | exact h.elim
theorem wp_of_gives {o : Oper} {a : Act} {w : World} {K0 : Value → World → Prop} {K : Act → World → Prop} {Q : Exit → Act → World → Prop} (h : Oper.gives P o a w K0) (hK : ∀ v w', K0 v w' → K (a.put o.dst v) w') : o.wp P a w K Q := by
  unfold Oper.gives at h
  unfold Oper.wp
  generalize (execOp a.eval o).run P w = r at h
  cases r with
  | halt x w' => exact h.elim
  | ok n w' =>
    cases n <;> simp only [givesV] at h <;> simp only [Oper.upon]
    case enter f args =>
      refine h.mono fun e w1 hR => ?_
      obtain ⟨u, rfl, h1⟩ := hR
      exact hK u w1 h1
    all_goals first | exact h.elim | exact hK _ _ h

/-- One operation. -/
def opL (I : Vals → World → Prop) (P : Program) (ops : Array Oper) (Φ : Nat → Bool) (A : Nat → List Nat) (i : Nat) (K : Vals → Act → Prop) (F : Vals) (a : Act) : Prop :=
  match ops[i]? with
  | none => K F a
  | some o =>
    if Region.wanted o (yielded ops a.tmps) then
      match Φ i with
      | false => ∃ v, (∀ G w, I G w → Agree F G (A i) → Oper.quietV P o a w v) ∧ K F (a.put o.dst v)
      | true => (∀ G w, I G w → Agree F G (A i) → G i = none → Oper.gives P o a w (fun v w' => I (G.put i v) w')) ∧ ∀ v, Met I (F.put i v) → K (F.put i v) (a.put o.dst v)
    else K F (a.put o.dst undef)

theorem opL_mono {i : Nat} {K K' : Vals → Act → Prop} {F : Vals} {a : Act} (hm : Met I F) (h : ∀ F' a', Met I F' → (∀ k, k ≠ i → F' k = F k) → K F' a' → K' F' a') (hh : opL I P ops Φ A i K F a) : opL I P ops Φ A i K' F a := by
  unfold opL at *
  split
  · rename_i ho; simp only [ho] at hh; exact h _ _ hm (fun _ _ => rfl) hh
  · rename_i o ho
    simp only [ho] at hh
    split
    · rename_i hw
      simp only [hw, if_true] at hh
      split
      · rename_i hp
        simp only [hp] at hh
        obtain ⟨v, h1, h2⟩ := hh
        exact ⟨v, h1, h _ _ hm (fun _ _ => rfl) h2⟩
      · rename_i hp
        simp only [hp] at hh
        exact ⟨hh.1, fun v hv => h _ _ hv (fun k hk => by unfold Vals.put; rw [if_neg hk]) (hh.2 v hv)⟩
    · rename_i hw
      simp only [hw, if_false, Bool.false_eq_true] at hh
      exact h _ _ hm (fun _ _ => rfl) hh

/-- Whatever order is picked, up to the tail that begins at n. -/
def anyL (I : Vals → World → Prop) (P : Program) (md : Region.Mode) (ops : Array Oper) (Φ : Nat → Bool) (A : Nat → List Nat) (n g : Nat) (Q : Vals → Act → Prop) : Nat → Array Bool → Vals → Act → Prop
  | 0, listed, F, a => Region.seqB md ops g n listed = true ∧ Q F a
  | fuel + 1, listed, F, a => Region.ready md ops listed ≠ [] ∧ ∀ i ∈ Region.ready md ops listed, opL I P ops Φ A i (anyL I P md ops Φ A n g Q fuel (listed.setIfInBounds i true)) F a

theorem none_set {listed : Array Bool} {F F' : Vals} {j : Nat} (hjun : listed.getD j true = false) (hN : ∀ k, listed.getD k true = false → F k = none) (hF : ∀ k, k ≠ j → F' k = F k) : ∀ k, (listed.setIfInBounds j true).getD k true = false → F' k = none := fun k hk => by
  by_cases hjk : j = k
  · subst hjk
    have hlt : j < listed.size := by
      rcases Nat.lt_or_ge j listed.size with h' | h'
      · exact h'
      · simp [Array.getElem?_eq_none h'] at hjun
    simp [hlt] at hk
  · rw [getD_set_ne true hjk] at hk
    rw [hF k (Ne.symm hjk)]; exact hN k hk

theorem wpAny_of_anyL {n g : Nat} {Q : Vals → Act → Prop} {Q' : Exit → Act → World → Prop} (hQ : ∀ listed F a w, I F w → Region.seqB md ops g n listed = true → Q F a → wpAny P md ops Q' g listed a w) :
    ∀ (fuel : Nat) (listed : Array Bool) (F : Vals) (a : Act) (w : World), I F w → (∀ k, listed.getD k true = false → F k = none) → anyL I P md ops Φ A n g Q fuel listed F a → wpAny P md ops Q' (fuel + g) listed a w
  | 0, listed, F, a, w, hw, hN, h => by rw [Nat.zero_add]; exact hQ listed F a w hw h.1 h.2
  | fuel + 1, listed, F, a, w, hw, hN, h => by
    rw [Nat.add_right_comm]
    refine ⟨fun h0 => absurd h0 h.1, fun i hi => ?_⟩
    have h1 := h.2 i hi
    have hun := (mem_ready.1 hi).1
    have hN1 := none_set hun hN (F' := F) (fun _ _ => rfl)
    unfold opL at h1
    unfold wpOp
    split
    · rename_i ho; simp only [ho] at h1; exact wpAny_of_anyL hQ fuel _ _ _ _ hw hN1 h1
    · rename_i o ho
      simp only [ho] at h1
      split
      · rename_i hwd
        simp only [hwd, if_true] at h1
        left
        split at h1
        · obtain ⟨v, h2, h3⟩ := h1
          exact wp_of_quietV (h2 F w hw ((sub_refl F).agree _)) (wpAny_of_anyL hQ fuel _ _ _ _ hw hN1 h3)
        · refine wp_of_gives (h1.1 F w hw ((sub_refl F).agree _) (hN i hun)) fun v w' he => ?_
          exact wpAny_of_anyL hQ fuel _ _ _ _ he (none_set hun hN (fun k hk => by unfold Vals.put; rw [if_neg hk])) (h1.2 v ⟨_, w', he, sub_refl _⟩)
      · rename_i hwd
        simp only [hwd, if_false, Bool.false_eq_true] at h1
        exact wpAny_of_anyL hQ fuel _ _ _ _ hw hN1 h1

/-- There is a value that the operation may give. -/
theorem opL_some {i : Nat} {K : Vals → Act → Prop} {F : Vals} {a : Act} {o : Oper} (hm : Met I F) (hp : ∀ G w, I G w → Agree F G (A i) → G i = none → Oper.gives P o a w (fun v w' => I (G.put i v) w')) : ∃ v, Met I (F.put i v) := by
  obtain ⟨G, w, hI, hs⟩ := hm
  cases hg : G i with
  | some v => exact ⟨v, G, w, hI, hs.put_of hg⟩
  | none =>
    obtain ⟨v, w', h⟩ := gives_some (hp G w hI (hs.agree _) hg)
    exact ⟨v, _, w', h, hs.put i v⟩

/-- **An operation that may come up now may be taken first.** -/
theorem anyL_first {n g i : Nat} {oi : Oper} {Q : Vals → Act → Prop} (hi : ops[i]? = some oi) (hsel : ∀ (j : Nat) (o : Oper) cs b, ops[j]? = some o → o.op ≠ .select cs b) (hA : ancB md ops A n = true) (hin : i < n) :
    ∀ (fuel : Nat) (listed : Array Bool) (F : Vals) (a : Act), Met I F → (∀ k, listed.getD k true = false → F k = none) → Closed md ops A n listed →
      (∀ j oj, ops[j]? = some oj → j ≠ i → listed.getD j true = false → (∀ e ∈ oj.after, Region.binds md e = true → e.on ≠ i) → oi.apart ops oj = true) →
      i ∈ Region.ready md ops listed → opL I P ops Φ A i (anyL I P md ops Φ A n g Q fuel (listed.setIfInBounds i true)) F a →
      anyL I P md ops Φ A n g Q (fuel + 1) listed F a := by
  intro fuel
  induction fuel with
  | zero =>
    intro listed F a hm hN hc hfree hr H
    refine ⟨fun h => (by rw [h] at hr; cases hr), fun j hj => ?_⟩
    by_cases hji : j = i
    · subst hji; exact H
    · exfalso
      have hj' := ready_mono hj hji
      have hs : Region.seqB md ops g n (listed.setIfInBounds i true) = true := by
        unfold opL at H
        simp only [hi] at H
        split at H
        · split at H
          · obtain ⟨_, _, h⟩ := H; exact h.1
          · obtain ⟨v, hv⟩ := opL_some (K := fun _ _ => True) hm H.1
            exact (H.2 v hv).1
        · exact H.1
      have hnj := seqB_ready hs j hj'
      have h1 := ancB_tail hA hc hj hnj hin
      have h0 := (mem_ready.1 hr).1
      rw [getD_both h0] at h1
      cases h1
  | succ fuel ih =>
    intro listed F a hm hN hc hfree hr H
    refine ⟨fun h => (by rw [h] at hr; cases hr), fun j hj => ?_⟩
    by_cases hji : j = i
    · subst hji; exact H
    · obtain ⟨hjun, oj, hoj, hall⟩ := mem_ready.1 hj
      have hiun := (mem_ready.1 hr).1
      have hnot : ∀ e ∈ oj.after, Region.binds md e = true → e.on ≠ i := fun e he hb heq => by
        have h1 := hall e he hb
        rw [heq, getD_both hiun] at h1
        cases h1
      have hap := hfree j oj hoj hji hjun hnot
      have hij : i ∉ A j := not_mem_of_ready hA hc hr hj
      have hjiA : j ∉ A i := not_mem_of_ready hA hc hj hr
      have hsi := fun cs b => hsel i oi cs b hi
      have hsj := fun cs b => hsel j oj cs b hoj
      have hr' := ready_mono hr (Ne.symm hji)
      have hj' := ready_mono hj hji
      have hc' := Closed.set hA hc hj
      have hfree' : ∀ k ok, ops[k]? = some ok → k ≠ i → (listed.setIfInBounds j true).getD k true = false →
          (∀ e ∈ ok.after, Region.binds md e = true → e.on ≠ i) → oi.apart ops ok = true := fun k ok hk hki hun hno => by
        refine hfree k ok hk hki ?_ hno
        by_cases hjk : j = k
        · subst hjk; exact hjun
        · rw [getD_set_ne true hjk] at hun; exact hun
      have hN' : ∀ F' : Vals, (∀ k, k ≠ j → F' k = F k) → ∀ k, (listed.setIfInBounds j true).getD k true = false → F' k = none := fun F' hF => none_set hjun hN hF
      suffices hh : opL I P ops Φ A j (fun F' a' => opL I P ops Φ A i (anyL I P md ops Φ A n g Q fuel ((listed.setIfInBounds j true).setIfInBounds i true)) F' a') F a by
        exact opL_mono hm (fun F' a' hm' hF hK => ih _ F' a' hm' (hN' F' hF) hc' hfree' hr' hK) hh
      have hcomm : (listed.setIfInBounds j true).setIfInBounds i true = (listed.setIfInBounds i true).setIfInBounds j true := Array.setIfInBounds_comm _ _ hji
      rw [hcomm]
      generalize hX : anyL I P md ops Φ A n g Q fuel ((listed.setIfInBounds i true).setIfInBounds j true) = X
      have HX : opL I P ops Φ A i (fun F' a' => opL I P ops Φ A j X F' a') F a := by
        refine opL_mono hm (fun F' a' _ _ h => ?_) H
        have h1 := h.2 j hj'
        rw [hX] at h1
        exact h1
      clear H hX ih
      have e0 := fun v => opL_put (ops := ops) (v := v) hap hsj a
      unfold opL at HX
      simp only [hi] at HX
      by_cases hwi : Region.wanted oi (yielded ops a.tmps) = true
      · simp only [hwi, if_true] at HX
        cases hpi : Φ i with
        | false =>
          simp only [hpi] at HX
          obtain ⟨v, hq, HX⟩ := HX
          have hq' : ∀ u F', (∀ k, k ≠ j → F' k = F k) → ∀ G w, I G w → Agree F' G (A i) → Oper.quietV P oi (a.put oj.dst u) w v := fun u F' hF G w hw hk => by
            have := hq G w hw (fun k hk' z h2 => hk k hk' z ((hF k (fun e => hjiA (e ▸ hk'))).trans h2))
            unfold Oper.quietV at this ⊢
            rw [((e0 v).2.2.2 u hsi).1]; exact this
          have fin : ∀ u F', (∀ k, k ≠ j → F' k = F k) → X F' ((a.put oj.dst u).put oi.dst v) → opL I P ops Φ A i X F' (a.put oj.dst u) := fun u F' hF h => by
            unfold opL
            simp only [hi, ((e0 v).2.2.2 u hsi).2, hwi, if_true, hpi]
            exact ⟨v, hq' u F' hF, h⟩
          unfold opL
          simp only [hoj] at HX ⊢
          rw [(e0 v).2.1] at HX
          split at HX
          · rename_i hwj
            rw [if_pos hwj]
            cases hpj : Φ j with
            | false =>
              simp only [hpj] at HX ⊢
              obtain ⟨u, h1, h2⟩ := HX
              refine ⟨u, fun G w hw hk => ?_, ?_⟩
              · have := h1 G w hw hk
                unfold Oper.quietV at this ⊢
                rwa [(e0 v).1] at this
              · rw [(e0 v).2.2.1] at h2
                have := fin u F (fun _ _ => rfl) h2
                unfold opL at this; exact this
            | true =>
              simp only [hpj] at HX ⊢
              refine ⟨fun G w hw hk hg => ?_, fun u hu => ?_⟩
              · have := HX.1 G w hw hk hg
                unfold Oper.gives at this ⊢
                rwa [(e0 v).1] at this
              · have h2 := HX.2 u hu
                rw [(e0 v).2.2.1] at h2
                have := fin u (F.put j u) (fun k hk => by unfold Vals.put; rw [if_neg hk]) h2
                unfold opL at this; exact this
          · rename_i hwj
            rw [if_neg hwj]
            rw [(e0 v).2.2.1] at HX
            have := fin undef F (fun _ _ => rfl) HX
            unfold opL at this; exact this
        | true =>
          simp only [hpi] at HX
          obtain ⟨hq, HX⟩ := HX
          obtain ⟨vs, hms⟩ := opL_some (K := fun _ _ => True) hm hq
          obtain ⟨G0, w0, hI0, hs0⟩ := hm
          have hq' : ∀ u F', (∀ k, k ≠ j → F' k = F k) → ∀ G w, I G w → Agree F' G (A i) → G i = none → Oper.gives P oi (a.put oj.dst u) w (fun v w' => I (G.put i v) w') := fun u F' hF G w hw hk hg => by
            have := hq G w hw (fun k hk' z h2 => hk k hk' z ((hF k (fun e => hjiA (e ▸ hk'))).trans h2)) hg
            unfold Oper.gives at this ⊢
            rw [((e0 vs).2.2.2 u hsi).1]; exact this
          have fin : ∀ u F', (∀ k, k ≠ j → F' k = F k) → (∀ v, Met I (F'.put i v) → X (F'.put i v) ((a.put oj.dst u).put oi.dst v)) → opL I P ops Φ A i X F' (a.put oj.dst u) := fun u F' hF h => by
            unfold opL
            simp only [hi, ((e0 vs).2.2.2 u hsi).2, hwi, if_true, hpi]
            exact ⟨hq' u F' hF, h⟩
          have Hs := HX vs hms
          unfold opL at Hs ⊢
          simp only [hoj] at Hs ⊢
          rw [(e0 vs).2.1] at Hs
          by_cases hwj : Region.wanted oj (yielded ops a.tmps) = true
          · rw [if_pos hwj] at Hs ⊢
            cases hpj : Φ j with
            | false =>
              simp only [hpj] at Hs ⊢
              obtain ⟨u, h1, _⟩ := Hs
              have hu : ∀ G w, I G w → Agree F G (A j) → Oper.quietV P oj a w u := fun G w hw hk => by
                have := h1 G w hw ((agree_put hij).2 hk)
                unfold Oper.quietV at this ⊢
                rwa [(e0 vs).1] at this
              refine ⟨u, hu, ?_⟩
              have := fin u F (fun _ _ => rfl) (fun v hv => by
                have h2 := HX v hv
                unfold opL at h2
                simp only [hoj, (e0 v).2.1, hwj, if_true, hpj] at h2
                obtain ⟨u', h3, h4⟩ := h2
                have h5 : Oper.quietV P oj a w0 u' := by
                  have := h3 G0 w0 hI0 ((agree_put hij).2 (hs0.agree _))
                  unfold Oper.quietV at this ⊢
                  rwa [(e0 v).1] at this
                have e1 : u' = u := Oper.quietV_one h5 (hu G0 w0 hI0 (hs0.agree _))
                subst e1
                rw [(e0 v).2.2.1] at h4
                exact h4)
              unfold opL at this; exact this
            | true =>
              simp only [hpj] at Hs ⊢
              refine ⟨fun G w hw hk hg => ?_, fun u hu => ?_⟩
              · have := Hs.1 G w hw ((agree_put hij).2 hk) hg
                unfold Oper.gives at this ⊢
                rwa [(e0 vs).1] at this
              · have hFj : ∀ k, k ≠ j → (F.put j u) k = F k := fun k hk => by unfold Vals.put; rw [if_neg hk]
                have := fin u (F.put j u) hFj (fun v hv => by
                  rw [Vals.put_comm F hji u v] at hv ⊢
                  have hv' : Met I (F.put i v) := by
                    refine hv.back ?_
                    unfold Vals.put
                    rw [if_neg hji]
                    exact hN j hjun
                  have h2 := HX v hv'
                  unfold opL at h2
                  simp only [hoj, (e0 v).2.1, hwj, if_true, hpj] at h2
                  have h4 := h2.2 u hv
                  rw [(e0 v).2.2.1] at h4
                  exact h4)
                unfold opL at this; exact this
          · rw [if_neg hwj] at Hs ⊢
            have := fin undef F (fun _ _ => rfl) (fun v hv => by
              have h2 := HX v hv
              unfold opL at h2
              simp only [hoj, (e0 v).2.1, hwj, if_false, Bool.false_eq_true] at h2
              rw [(e0 v).2.2.1] at h2
              exact h2)
            unfold opL at this; exact this
      · simp only [hwi, if_false, Bool.false_eq_true] at HX
        have fin : ∀ u F', X F' ((a.put oj.dst u).put oi.dst undef) → opL I P ops Φ A i X F' (a.put oj.dst u) := fun u F' h => by
          unfold opL
          simp only [hi, ((e0 undef).2.2.2 u hsi).2, hwi, if_false, Bool.false_eq_true]
          exact h
        unfold opL
        simp only [hoj] at HX ⊢
        rw [(e0 undef).2.1] at HX
        split at HX
        · rename_i hwj
          rw [if_pos hwj]
          cases hpj : Φ j with
          | false =>
            simp only [hpj] at HX ⊢
            obtain ⟨u, h1, h2⟩ := HX
            refine ⟨u, fun G w hw hk => ?_, ?_⟩
            · have := h1 G w hw hk
              unfold Oper.quietV at this ⊢
              rwa [(e0 undef).1] at this
            · rw [(e0 undef).2.2.1] at h2
              have := fin u F h2
              unfold opL at this; exact this
          | true =>
            simp only [hpj] at HX ⊢
            refine ⟨fun G w hw hk hg => ?_, fun u hu => ?_⟩
            · have := HX.1 G w hw hk hg
              unfold Oper.gives at this ⊢
              rwa [(e0 undef).1] at this
            · have h2 := HX.2 u hu
              rw [(e0 undef).2.2.1] at h2
              have := fin u (F.put j u) h2
              unfold opL at this; exact this
        · rename_i hwj
          rw [if_neg hwj]
          rw [(e0 undef).2.2.1] at HX
          have := fin undef F HX
          unfold opL at this; exact this

/-- The walk in the order of the text. -/
def lexL (I : Vals → World → Prop) (P : Program) (ops : Array Oper) (Φ : Nat → Bool) (A : Nat → List Nat) (Q : Vals → Act → Prop) : List Oper → Nat → Vals → Act → Prop
  | [], _, F, a => Q F a
  | o :: rest, k, F, a =>
    if Region.wanted o (yielded ops a.tmps) then
      match Φ k with
      | false => ∃ v, (∀ G w, I G w → Agree F G (A k) → Oper.quietV P o a w v) ∧ lexL I P ops Φ A Q rest (k + 1) F (a.put o.dst v)
      | true => (∀ G w, I G w → Agree F G (A k) → G k = none → Oper.gives P o a w (fun v w' => I (G.put k v) w')) ∧ ∀ v, Met I (F.put k v) → lexL I P ops Φ A Q rest (k + 1) (F.put k v) (a.put o.dst v)
    else lexL I P ops Φ A Q rest (k + 1) F (a.put o.dst undef)

theorem anyL_lex {n g : Nat} {Q : Vals → Act → Prop} (hsel : Region.noSelect ops = true) (hA : ancB md ops A n = true) :
    ∀ (l : List Oper) (k : Nat) (listed : Array Bool) (F : Vals) (a : Act), (∀ j, j < l.length → l[j]? = ops[k + j]?) → k + l.length = n → Met I F → (∀ k, listed.getD k true = false → F k = none) → Closed md ops A n listed →
    Region.lexHead md ops g l.length k listed = true → lexL I P ops Φ A Q l k F a → anyL I P md ops Φ A n g Q l.length listed F a
  | [], k, listed, F, a, _, hk, _, _, _, hB, h => by
    have : k = n := by simpa using hk
    subst this
    exact ⟨by simpa [Region.lexHead] using hB, h⟩
  | o :: l, k, listed, F, a, hl, hk, hm, hN, hc, hB, h => by
    have h0 : ops[k]? = some o := by simpa using (hl 0 (by simp)).symm
    simp only [List.length_cons, Region.lexHead, Bool.and_eq_true] at hB
    obtain ⟨⟨hr, hf⟩, hB'⟩ := hB
    have hkn : k < n := by simp only [List.length_cons] at hk; omega
    have hr' : k ∈ Region.ready md ops listed := by simpa using hr
    have hst : opL I P ops Φ A k (lexL I P ops Φ A Q l (k + 1)) F a := by unfold opL; simp only [h0]; exact h
    refine anyL_first h0 (Region.noSelect_spec hsel) hA hkn l.length listed F a hm hN hc (Region.free_spec h0 hf) hr' (opL_mono hm (fun F' a' hm' hF hK => ?_) hst)
    refine anyL_lex hsel hA l (k + 1) _ F' a' (fun j hj => by have := hl (j + 1) (by simp; omega); simpa [Nat.add_assoc, Nat.add_comm 1 j] using this) (by simp only [List.length_cons] at hk; omega) hm' (none_set (mem_ready.1 hr').1 hN hF) (Closed.set hA hc hr') hB' hK

theorem wp_region_inv {id : Nat} {Q : Exit → Act → World → Prop} {a : Act} {w : World} {l : List Oper} (n : Nat) (I : Vals → World → Prop) (Φ : Nat → Bool) (A : Nat → List Nat) (hm : P.follows .mixedOrders = true) (hB : regB .any l.toArray A n = true) (h0 : I (fun _ => none) w.drew)
    (h : lexL I P l.toArray Φ A (fun F a' => ∀ w', I F w' → wpList P l.toArray Q (l.drop n) a' w') (l.take n) 0 (fun _ => none) a) : (Code.region id l.toArray true).wp P Q a w := by
  simp only [regB, Bool.and_eq_true, decide_eq_true_eq] at hB
  obtain ⟨⟨⟨hsel, hA⟩, hlex⟩, hn⟩ := hB
  have hn' : n ≤ l.length := by simpa using hn
  have htl : (l.take n).length = n := by simp; omega
  have hdl : (l.drop n).length = l.toArray.size - n := by simp
  have H := anyL_lex (I := I) (Φ := Φ) (P := P) (md := .any) (g := l.toArray.size - n) hsel hA (l.take n) 0 (Array.replicate l.toArray.size false) (fun _ => none) a (fun j hj => by
    have hj' : j < n := by rw [htl] at hj; exact hj
    simp [hj']) (by simpa using htl) ⟨_, _, h0, sub_refl _⟩ (fun _ _ => rfl) ⟨by simp, fun j hj => by rw [getD_replicate_false] at hj; cases hj⟩ (by rw [htl]; exact hlex) h
  refine wp_region_any hm ?_
  have := wpAny_of_anyL (Q' := Q) (g := l.toArray.size - n) (fun listed F a' w' hw hs hQ => by
    have := wpAny_of_seq (md := .any) (Q' := Q) (l.drop n) n listed a' w' (fun j => by simp [List.getElem?_drop]) (by rw [hdl]; exact hs) (hQ w' hw)
    rwa [hdl] at this) _ _ _ _ _ h0 (fun _ _ => rfl) H
  rw [htl, show n + (l.toArray.size - n) = l.toArray.size by omega] at this
  exact this

/-! One operation of the walk. -/
variable {Q : Vals → Act → Prop} {o : Oper} {rest : List Oper} {k : Nat} {F : Vals} {a : Act}
theorem lexL_nil (h : Q F a) : lexL I P ops Φ A Q [] k F a := h
theorem lexL_skip (hw : Region.wanted o (yielded ops a.tmps) = false) (h : lexL I P ops Φ A Q rest (k + 1) F (a.put o.dst undef)) : lexL I P ops Φ A Q (o :: rest) k F a := by
  unfold lexL
  rw [if_neg (by simp [hw])]
  exact h
theorem lexL_quiet {v : Value} (hw : Region.wanted o (yielded ops a.tmps) = true) (hΦ : Φ k = false) (h : ∀ G w, I G w → Agree F G (A k) → Oper.quietV P o a w v) (h' : lexL I P ops Φ A Q rest (k + 1) F (a.put o.dst v)) :
    lexL I P ops Φ A Q (o :: rest) k F a := by
  unfold lexL
  rw [if_pos hw, hΦ]
  exact ⟨v, h, h'⟩
theorem lexL_quiet' {v : Value} (hg : o.guard = none) (hΦ : Φ k = false) (h : ∀ G w, I G w → Agree F G (A k) → Oper.quietV P o a w v) (h' : lexL I P ops Φ A Q rest (k + 1) F (a.put o.dst v)) :
    lexL I P ops Φ A Q (o :: rest) k F a := lexL_quiet (by simp [Region.wanted, hg]) hΦ h h'
theorem lexL_give (hw : Region.wanted o (yielded ops a.tmps) = true) (hΦ : Φ k = true) (h : ∀ G w, I G w → Agree F G (A k) → G k = none → Oper.gives P o a w (fun v w' => I (G.put k v) w'))
    (h' : ∀ v G w, I G w → Sub (F.put k v) G → lexL I P ops Φ A Q rest (k + 1) (F.put k v) (a.put o.dst v)) : lexL I P ops Φ A Q (o :: rest) k F a := by
  unfold lexL
  rw [if_pos hw, hΦ]
  exact ⟨h, fun v ⟨G, w, hI, hs⟩ => h' v G w hI hs⟩
theorem lexL_give' (hg : o.guard = none) (hΦ : Φ k = true) (h : ∀ G w, I G w → Agree F G (A k) → G k = none → Oper.gives P o a w (fun v w' => I (G.put k v) w'))
    (h' : ∀ v G w, I G w → Sub (F.put k v) G → lexL I P ops Φ A Q rest (k + 1) (F.put k v) (a.put o.dst v)) : lexL I P ops Φ A Q (o :: rest) k F a := lexL_give (by simp [Region.wanted, hg]) hΦ h h'
theorem gives_call {w : World} {f : FuncId} {args : Array Value} {K : Value → World → Prop} {K' : Ending → World → Prop} (h : Calls P f args w K') (hK : ∀ e w', K' e w' → ∃ v, e = .returned v ∧ K v w') : Calls P f args w (Gave K) := h.mono hK
end
end RI
end Go.Proofs.YtamodjlifpjaoaaDoor
