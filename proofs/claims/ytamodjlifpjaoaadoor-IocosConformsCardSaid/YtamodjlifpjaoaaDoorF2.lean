/- Region 14 of ref27.Conforms: what it owns while its operations come up. -/
import Derived.Test.YtamodjlifpjaoaaDoorF1
namespace Go.Proofs.YtamodjlifpjaoaaDoor
open Go.RowKit
set_option linter.unusedVariables false
set_option linter.unusedSimpArgs false
attribute [local go_sem] Oper.quietV quietV Oper.gives givesV ext_refl_iff ext_alloc_iff ext_drew_iff ext_drewN_iff
attribute [local go_sem] RI.Oper.gives RI.givesV
def it0 (S : Nat) : Option Value → Asn
  | some v => .any (lsF1 v) (LisW v (memI S))
  | none => noAsn
def it2 (ts : List Int) (l : Int) (a b c : Option Value) : Asn :=
  match b with
  | none => (match a with | none => noAsn | some v => .row 3 1 v 0 [])
  | some v => (match c with | none => .row 3 1 v ts.length (ts.map (.int .i64)) | some u => .row 3 1 u (ts.length + 1) (ts.map (.int .i64) ++ [.int .i64 l]))
def it3 (l : Int) : Option Value → Asn
  | some (.slice (some ⟨b, _, _⟩) _ _) => .blk b (.cells #[.int .i64 l] 3)
  | _ => noAsn
def it4 : Option Value → Asn
  | some (.pointer (some ⟨b, _, _⟩)) => .blk b (.cells #[.slice none 0 0, .slice none 0 0, .slice none 0 0] 96)
  | _ => noAsn
structure I14 (W0 : World) (S T : Nat) (ts : List Int) (l : Int) (G : Vals) (w : World) : Prop where
  own : OwnL W0 w [it0 S (G 7), it0 T (G 15), it2 ts l (G 16) (G 22) (G 25), it3 l (G 24), it4 (G 27)]
  c22 : G 16 = none → G 22 = none
  c25 : G 22 = none → G 25 = none
  p16 : ∀ v, G 16 = some v → ∃ b, v = .slice (some ⟨b, 0, none⟩) 0 0
  p24 : ∀ v, G 24 = some v → ∃ b, v = .slice (some ⟨b, 0, none⟩) 1 1
  p27 : ∀ v, G 27 = some v → ∃ b, v = .pointer (some ⟨b, 0, none⟩)
section
variable {W0 w w' : World} {S T : Nat} {ts : List Int} {l : Int} {G : Vals} {v : Value}
theorem I14.ext (h : I14 W0 S T ts l G w) : Ext W0 w := h.own.ext
theorem I14.start (W0 : World) (S T : Nat) (ts : List Int) (l : Int) {w : World} (e : Ext W0 w) : I14 W0 S T ts l (fun _ => none) w := by
  have n := fun (L : List Asn) (h : OwnL W0 w L) => h.add (Ext.refl w) (A := noAsn) (noAsn_ok _ _)
  exact ⟨n _ (n _ (n _ (n _ (n _ (OwnL.nil e))))), fun _ => rfl, fun _ => rfl, fun v h => (by cases h), fun v h => (by cases h), fun v h => (by cases h)⟩
theorem I14.set7 (h : I14 W0 S T ts l G w) (hg : G 7 = none) (e : Ext w w') (hL : LisW v (memI S) w') (hf : FarV w.heap.size v) : I14 W0 S T ts l (G.put 7 v) w' :=
  ⟨h.own.fill 0 (A := it0 S (G 7)) rfl e (lis_any hL hf.w), h.c22, h.c25, h.p16, h.p24, h.p27⟩
theorem I14.set15 (h : I14 W0 S T ts l G w) (hg : G 15 = none) (e : Ext w w') (hL : LisW v (memI T) w') (hf : FarV w.heap.size v) : I14 W0 S T ts l (G.put 15 v) w' :=
  ⟨h.own.fill 1 (A := it0 T (G 15)) rfl e (lis_any hL hf.w), h.c22, h.c25, h.p16, h.p24, h.p27⟩
theorem I14.set16 (h : I14 W0 S T ts l G w) (hg : G 16 = none) : I14 W0 S T ts l (G.put 16 (.slice (some ⟨w.heap.size, 0, none⟩) 0 0)) (w.alloc (.cells #[] 3)) := by
  have h22 := h.c22 hg
  have h1 := h.own.fill 2 (A := it2 ts l (G 16) (G 22) (G 25)) (A' := .row 3 1 (.slice (some ⟨w.heap.size, 0, none⟩) 0 0) 0 []) rfl (alloc_ext w (.cells #[] 3)) ⟨rfl, .inr ⟨w.heap.size, 0, #[], rfl, Nat.le_refl _, heap_alloc_new w _, Nat.le_refl _, by unfold maxLen; omega, rfl, rfl⟩⟩
  have hp : ∀ k, k ≠ 16 → (G.put 16 (.slice (some ⟨w.heap.size, 0, none⟩) 0 0)) k = G k := fun k hk => by unfold Vals.put; rw [if_neg hk]
  refine ⟨?_, fun hh => by simp [Vals.put] at hh, h.c25, fun v hv => ?_, h.p24, h.p27⟩
  · have : it2 ts l (some (.slice (some ⟨w.heap.size, 0, none⟩) 0 0)) (G 22) (G 25) = .row 3 1 (.slice (some ⟨w.heap.size, 0, none⟩) 0 0) 0 [] := by rw [h22]; rfl
    show OwnL W0 _ [it0 S (G 7), it0 T (G 15), it2 ts l (some (.slice (some ⟨w.heap.size, 0, none⟩) 0 0)) (G 22) (G 25), it3 l (G 24), it4 (G 27)]
    rw [this]
    exact h1
  · have : some (Value.slice (some ⟨w.heap.size, 0, none⟩) 0 0) = some v := hv
    cases this
    exact ⟨_, rfl⟩
theorem I14.set22 {b : Nat} (h : I14 W0 S T ts l G w) (hg : G 22 = none) (h16 : G 16 = some (.slice (some ⟨b, 0, none⟩) 0 0)) (hown : w'.ownsRow W0.heap.size 3 1 v ts.length (ts.map (.int .i64))) (hgr : w.grownBy w' (some b)) (hb : ∀ k, v.ownBlock = some k → some b = some k ∨ w.heap.size ≤ k) : I14 W0 S T ts l (G.put 22 v) w' := by
  have h25 := h.c25 hg
  have h0 := h.own
  rw [hg, h16] at h0
  have h1 := h0.app 2 (v := .slice (some ⟨b, 0, none⟩) 0 0) rfl hgr hown hb
  refine ⟨?_, fun hh => ?_, fun hh => by simp [Vals.put] at hh, h.p16, h.p24, h.p27⟩
  · show OwnL W0 _ [it0 S (G 7), it0 T (G 15), it2 ts l (G 16) (some v) (G 25), it3 l (G 24), it4 (G 27)]
    rw [h16, h25]
    exact h1
  · have : G 16 = none := hh
    rw [h16] at this; cases this
theorem I14.set24 (h : I14 W0 S T ts l G w) (hg : G 24 = none) : I14 W0 S T ts l (G.put 24 (.slice (some ⟨w.heap.size, 0, none⟩) 1 1)) (w.alloc (.cells #[.int .i64 l] 3)) :=
  ⟨h.own.fill 3 (A := it3 l (G 24)) rfl (alloc_ext w _) ⟨Nat.le_refl _, heap_alloc_new w _⟩, h.c22, h.c25, h.p16, fun v hv => by
    have : some (Value.slice (some ⟨w.heap.size, 0, none⟩) 1 1) = some v := hv
    cases this
    exact ⟨_, rfl⟩, h.p27⟩
theorem I14.set25 {u : Value} (h : I14 W0 S T ts l G w) (hg : G 25 = none) (h22 : G 22 = some u) (hown : w'.ownsRow W0.heap.size 3 1 v (ts.length + 1) (ts.map (.int .i64) ++ [.int .i64 l])) (hgr : w.grownBy w' u.ownBlock) (hb : ∀ k, v.ownBlock = some k → u.ownBlock = some k ∨ w.heap.size ≤ k) : I14 W0 S T ts l (G.put 25 v) w' := by
  have h0 := h.own
  rw [hg, h22] at h0
  have h1 := h0.app 2 (v := u) rfl hgr hown hb
  refine ⟨?_, h.c22, fun hh => ?_, h.p16, h.p24, h.p27⟩
  · show OwnL W0 _ [it0 S (G 7), it0 T (G 15), it2 ts l (G 16) (G 22) (some v), it3 l (G 24), it4 (G 27)]
    rw [h22]
    exact h1
  · have : G 22 = none := hh
    rw [h22] at this; cases this
theorem I14.set27 (h : I14 W0 S T ts l G w) (hg : G 27 = none) : I14 W0 S T ts l (G.put 27 (.pointer (some ⟨w.heap.size, 0, none⟩))) (w.alloc (.cells #[.slice none 0 0, .slice none 0 0, .slice none 0 0] 96)) :=
  ⟨h.own.fill 4 (A := it4 (G 27)) rfl (alloc_ext w _) ⟨Nat.le_refl _, heap_alloc_new w _⟩, h.c22, h.c25, h.p16, h.p24, fun v hv => by
    have : some (Value.pointer (some ⟨w.heap.size, 0, none⟩)) = some v := hv
    cases this
    exact ⟨_, rfl⟩⟩
theorem I14.row16 {b : Nat} (h : I14 W0 S T ts l G w) (hg : G 22 = none) (h16 : G 16 = some (.slice (some ⟨b, 0, none⟩) 0 0)) : w.ownsRow W0.heap.size 3 1 (.slice (some ⟨b, 0, none⟩) 0 0) 0 [] := by
  have h0 := h.own
  rw [hg, h16] at h0
  exact h0.get 2 rfl
theorem I14.row22 {u : Value} (h : I14 W0 S T ts l G w) (hg : G 25 = none) (h22 : G 22 = some u) : w.ownsRow W0.heap.size 3 1 u ts.length (ts.map (.int .i64)) := by
  have h0 := h.own
  rw [hg, h22] at h0
  exact h0.get 2 rfl
theorem I14.blk24 {b : Nat} (h : I14 W0 S T ts l G w) (h24 : G 24 = some (.slice (some ⟨b, 0, none⟩) 1 1)) : w.heap[b]? = some (.cells #[.int .i64 l] 3) := by
  have h0 := h.own
  rw [h24] at h0
  exact (h0.get 3 rfl).2
theorem I14.lis7 (h : I14 W0 S T ts l G w) (h7 : G 7 = some v) : LisW v (memI S) w := by
  have h0 := h.own
  rw [h7] at h0
  exact h0.know 0 rfl
theorem I14.lis15 (h : I14 W0 S T ts l G w) (h15 : G 15 = some v) : LisW v (memI T) w := by
  have h0 := h.own
  rw [h15] at h0
  exact h0.know 1 rfl
theorem I14.row25 {u : Value} (h : I14 W0 S T ts l G w) (h22 : G 22 = some u) (h25 : G 25 = some v) : w.ownsRow W0.heap.size 3 1 v (ts.length + 1) (ts.map (.int .i64) ++ [.int .i64 l]) := by
  have h0 := h.own
  rw [h22, h25] at h0
  exact h0.get 2 rfl
/-- At the end, behind the store. -/
theorem I14.fin {u v7 v15 : Value} {b : Nat} (h : I14 W0 S T ts l G w) (h7 : G 7 = some v7) (h15 : G 15 = some v15) (h22 : G 22 = some u) (h25 : G 25 = some v) (h27 : G 27 = some (.pointer (some ⟨b, 0, none⟩))) (hts : ts.length ≤ 2000)
    (hg : w.grownBy w' (some b)) (hb : w'.heap[b]? = some (.cells #[v7, v15, v] 96)) : Ext W0 w' ∧ LisW v7 (memI S) w' ∧ LisW v15 (memI T) w' ∧ LisW v (ts ++ [l]) w' ∧ FarW W0.heap.size v7 ∧ FarW W0.heap.size v15 ∧ FarW W0.heap.size v := by
  have h0 := h.own
  rw [h7, h15, h22, h25, h27] at h0
  have h1 : OwnL W0 w [.any (lsF1 v7) (LisW v7 (memI S)), .any (lsF1 v15) (LisW v15 (memI T)), .row 3 1 v (ts.length + 1) (ts.map (.int .i64) ++ [.int .i64 l]), it3 l (G 24), .blk b (.cells #[.slice none 0 0, .slice none 0 0, .slice none 0 0] 96)] := h0
  have h2 := h1.step 4 (A' := .blk b (.cells #[v7, v15, v] 96)) rfl hg (fun k hk => by cases hk; exact rfl) ⟨(h1.get 4 rfl).1, hb⟩ (fun k hk => .inl hk)
  have hrow := h2.get 2 rfl
  obtain ⟨c, hi⟩ := ints_of_owns (xs := ts ++ [l]) (w := w') (base := W0.heap.size) (e := 3) (v := v) (by rw [List.length_append, List.map_append]; exact hrow) (by rw [List.length_append]; simp [lenMax]; omega)
  exact ⟨h2.ext, h2.know 0 rfl, h2.know 1 rfl, ⟨c, hi⟩, fun k hk => ((h2.get 0 rfl).1 k hk).1, fun k hk => ((h2.get 1 rfl).1 k hk).1, FarV.w (far_row hrow)⟩
end
end Go.Proofs.YtamodjlifpjaoaaDoor
