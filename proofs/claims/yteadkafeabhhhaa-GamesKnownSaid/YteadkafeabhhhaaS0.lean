/- ref.Others 12: theirs are those that are not ours. truths 31: the list of truths against a list of ranks. -/
import Derived.Test.YteadkafeabhhhaaG2
namespace Go.Proofs.Yteadkafeabhhhaa
open Go.RowKit
set_option linter.unusedVariables false
set_option linter.unusedSimpArgs false

theorem oth_succ (xs : List Bool) (i : Nat) (h : i < xs.length) : (((othersL xs).take i).map Value.bool) ++ [.bool (!xs[i])] = ((othersL xs).take (i + 1)).map .bool := by
  unfold othersL
  rw [List.take_succ_eq_append_getElem (by simpa using h), List.map_append]
  simp
set_option maxHeartbeats 2000000 in
/-- f12: a new list. -/
theorem OthersN_any (w : World) (v : Value) (xs : List Bool) (c : Nat) (hv : BoolsC w v xs c) (hl : xs.length ≤ 64) :
    Calls Try.prog 12 #[v] w fun e w' => (∃ u, e = .returned u ∧ w'.ownsRow w.heap.size 4 1 u xs.length ((othersL xs).map .bool)) ∧ Ext w w' := by
  obtain ⟨A, rfl, hc, hca, hx⟩ := id hv
  obtain ⟨i4, hi4, hz4, hs4, hb4⟩ := info_parts bool_info
  obtain ⟨n, hn⟩ : ∃ n, n = xs.length := ⟨_, rfl⟩
  have HN := Lib.hid hn
  rw [← hn] at hl hca hx ⊢
  clear hn hv
  go_enter Try.func12, Try.ntmps12
  go_wp2
  go_loopw [4, 3] (fun i v wr => ∃ s : Nat, s ≤ n ∧ i = .int .i64 s ∧ Ext w wr ∧ OwnL w wr [.row 4 1 v s (((othersL xs).take s).map .bool)]) (fun i _ _ => n - (intOf i).toNat)
  case atStart => exact ⟨0, by omega, rfl, Ext.refl _, Ext.refl _, (fun B hB => by simp at hB; subst hB; exact World.ownsRow_nil _ _ _ _), List.pairwise_singleton _ _⟩
  case round =>
    obtain ⟨s, hs, rfl, hE, hO⟩ := hrel
    obtain ⟨W3, hW3⟩ : ∃ W, W = wr := ⟨_, rfl⟩; subst hW3
    by_cases hlt : s < n
    · have hlx : s < xs.length := by rw [← HN.out]; exact hlt
      obtain ⟨b, o, rfl, hbs, cb⟩ := hc.at_bool hlx
      have cb := hE.cell cb
      have hown : W3.ownsRow w.heap.size 4 1 u3 s (((othersL xs).take s).map .bool) := hO.get 0 rfl
      have hsz3 := hE.size
      have HOS := Lib.hid (oth_succ xs s hlx)
      generalize xs[s] = gx at *
      clear hlx
      have hltI : (s : Int) < (n : Int) := by omega
      go_wp2_with (at_builtin; refine wpList_append_own2 rfl _ _ 30 rfl w.heap.size 4 i4 (.bool false) 1 1 Try.underlying30 hi4 hz4 hs4 hb4 rfl (by decide) u3 s _ rfl (World.ownsRow.alloc hown _) ⟨W3.heap.size, 0, none⟩ 1 1 [.bool (!gx)] rfl rfl (cells_new _ #[.bool (!gx)] _) (one_bool _) (by unfold maxLen; omega) (by omega) (by simp; omega) ?_; intro v6 w6 hown6 hg6 hb6)
      go_roundw
      case rel =>
        rw [HOS.out] at hown6
        have h1 := (hO.trans (alloc_ext _ _)).app 0 rfl hg6 hown6 hb6
        exact ⟨s + 1, by omega, by go_num, h1.ext, h1⟩
      case measure => simp [intOf]; omega
    · have hse : s = n := by omega
      have hnI : ¬ (s : Int) < (n : Int) := by omega
      have hrow : W3.ownsRow w.heap.size 4 1 u3 s (((othersL xs).take s).map .bool) := hO.get 0 rfl
      have HR := Lib.hid hrow
      clear hrow hO
      go_wp2
      go_ret
      have hol : (othersL xs).length = s := by unfold othersL; rw [List.length_map, hse, HN.out]
      have h1 := HR.out
      rw [List.take_of_length_le (by omega), hse] at h1
      exact ⟨⟨_, rfl, h1⟩, hE⟩
/-- f12. -/
theorem Others_any (w : World) (v : Value) (xs : List Bool) (c : Nat) (hv : BoolsC w v xs c) (hl : xs.length ≤ 64) :
    Calls Try.prog 12 #[v] w fun e w' => (∃ u cu, e = .returned u ∧ BoolsC w' u (othersL xs) cu) ∧ Ext w w' :=
  (OthersN_any w v xs c hv hl).mono fun e w' ⟨⟨u, he, ho⟩, hE⟩ => by
    obtain ⟨cu, hb⟩ := bools_of_owns ho (by unfold othersL; simp) (by unfold lenMax; omega)
    exact ⟨⟨u, cu, he, hb⟩, hE⟩
#print axioms Others_any

def truthsN (ts : List Bool) (e : Int) (ct : Nat) (rs : List Int) : Int := if e = 0 ∧ ct = ts.length ∧ ts.length = rs.length ∧ ts = rs.map (fun r => r == 1) then 1 else 0
theorem truths_end {ts : List Bool} {rs : List Int} {s : Nat} (h0 : ts.length = rs.length) (hs : ts.length ≤ s) (h : ∀ j, j < s → ts[j]? = (rs.map (fun r => r == 1))[j]?) : ts = rs.map (fun r => r == 1) := by
  apply List.ext_getElem?
  intro j
  by_cases hj : j < s
  · exact h j hj
  · rw [List.getElem?_eq_none (by omega), List.getElem?_eq_none (by simp; omega)]
set_option maxHeartbeats 2000000 in
/-- f31: 1 where the truths are as the ranks tell. -/
theorem truths_any (w : World) (v u : Value) (ts : List Bool) (rs : List Int) (e : Int) (ct cr : Nat) (hv : BoolsC w v ts ct) (hu : IntsC w u rs cr) :
    Calls Try.prog 31 #[v, .int .i64 e, u] w fun r w' => r = .returned (.int .i64 (truthsN ts e ct rs)) ∧ Ext w w' := by
  obtain ⟨A, rfl, ha, hca, hx⟩ := id hv
  obtain ⟨B, rfl, hb, hcb, hy⟩ := id hu
  unfold lenMax at hx hy
  by_cases he : e = 0
  · by_cases hc : ct = ts.length
    · by_cases hl : ts.length = rs.length
      · have HT : Hid (ts = rs.map (fun r => r == 1) → truthsN ts e ct rs = 1) := by
          show _ → _; intro h; exact if_pos ⟨he, hc, hl, h⟩
        have HF : Hid (ts ≠ rs.map (fun r => r == 1) → truthsN ts e ct rs = 0) := by
          show _ → _; intro h; exact if_neg (fun h2 => h h2.2.2.2)
        generalize truthsN ts e ct rs = tv at *
        subst he; subst hc
        obtain ⟨n, hn⟩ : ∃ n, n = ts.length := ⟨_, rfl⟩
        have HN := Lib.hid (And.intro hn hl)
        rw [← hl, ← hn]
        rw [← hl] at hcb hy
        rw [← hn] at hx hcb hy
        clear hn hl hv hu hca
        have hc1 : ((n : Int) != (n : Int)) = false := by simp
        go_enter Try.func31, Try.ntmps31
        go_wp2
        go_loopw [7] (fun i wr => ∃ s : Nat, s ≤ n ∧ i = .int .i64 s ∧ Ext w wr ∧ Hid (∀ j, j < s → ts[j]? = (rs.map (fun r => r == 1))[j]?)) (fun i _ => n - (intOf i).toNat)
        case atStart => exact ⟨0, by omega, rfl, Ext.refl _, fun j hj => by omega⟩
        case round =>
          obtain ⟨s, hs, rfl, hE, hI⟩ := hrel
          obtain ⟨W3, hW3⟩ : ∃ W, W = wr := ⟨_, rfl⟩; subst hW3
          by_cases hlt : s < n
          · have hlx : s < ts.length := by rw [← HN.out.1]; exact hlt
            have hly : s < rs.length := by rw [← HN.out.2]; exact hlx
            obtain ⟨b, o, rfl, _, cb⟩ := ha.at_bool hlx
            obtain ⟨b', o', rfl, _, cb'⟩ := hb.at_int hly
            have cb := hE.cell cb
            have cb' := hE.cell cb'
            have h1 : Hid (ts[s]? = some ts[s]) := List.getElem?_eq_getElem hlx
            have h2 : Hid ((rs.map (fun r => r == 1))[s]? = some (rs[s] == 1)) := by show _ = _; rw [List.getElem?_map, List.getElem?_eq_getElem hly]; rfl
            generalize ts[s] = x at *
            generalize rs[s] = y at *
            clear hlx hly
            have hltI : (s : Int) < (n : Int) := by omega
            go_upto_region 6 with fail
            go_quiet (fail)
            cases hy1 : (y == 1) <;> cases x
            · have H : Hid (ts[s]? = (rs.map (fun r => r == 1))[s]?) := by show _ = _; rw [h1.out, h2.out, hy1]
              go_wp2
              go_roundw
              case rel => exact ⟨s + 1, by omega, by go_num, hE.drewN _, fun j hj => by
                by_cases hjs : j = s
                · subst hjs; exact H.out
                · exact hI.out j (by omega)⟩
              case measure => simp [intOf]; omega
            · have H : Hid (ts ≠ rs.map (fun r => r == 1)) := by
                show _ ≠ _; intro h
                have h3 := h2.out
                rw [← h, h1.out, hy1] at h3
                cases h3
              go_wp2
              go_ret
              exact ⟨by rw [HF.out H.out]; rfl, hE.drewN _⟩
            · have H : Hid (ts ≠ rs.map (fun r => r == 1)) := by
                show _ ≠ _; intro h
                have h3 := h2.out
                rw [← h, h1.out, hy1] at h3
                cases h3
              go_wp2
              go_ret
              exact ⟨by rw [HF.out H.out]; rfl, hE.drewN _⟩
            · have H : Hid (ts[s]? = (rs.map (fun r => r == 1))[s]?) := by show _ = _; rw [h1.out, h2.out, hy1]
              go_wp2
              go_roundw
              case rel => exact ⟨s + 1, by omega, by go_num, hE.drewN _, fun j hj => by
                by_cases hjs : j = s
                · subst hjs; exact H.out
                · exact hI.out j (by omega)⟩
              case measure => simp [intOf]; omega
          · have hnI : ¬ (s : Int) < (n : Int) := by omega
            have H : Hid (ts = rs.map (fun r => r == 1)) := truths_end HN.out.2 (by rw [← HN.out.1]; omega) hI.out
            go_wp2
            go_ret
            exact ⟨by rw [HT.out H.out]; rfl, hE⟩
      · have HV : Hid (truthsN ts e ct rs = 0) := if_neg (fun h => hl h.2.2.1)
        generalize truthsN ts e ct rs = tv at *
        subst he; subst hc
        have hc1 : ((ts.length : Int) != (ts.length : Int)) = false := by simp
        have hc2 : ((ts.length : Int) != (rs.length : Int)) = true := by simp; omega
        clear hl
        go_enter Try.func31, Try.ntmps31
        go_wp2
        go_ret
        exact ⟨by rw [HV.out]; rfl, Ext.refl _⟩
    · have HV : Hid (truthsN ts e ct rs = 0) := if_neg (fun h => hc h.2.1)
      generalize truthsN ts e ct rs = tv at *
      subst he
      have hc1 : ((ct : Int) != (ts.length : Int)) = true := by simp; omega
      clear hc
      go_enter Try.func31, Try.ntmps31
      go_wp2
      go_ret
      exact ⟨by rw [HV.out]; rfl, Ext.refl _⟩
  · have HV : Hid (truthsN ts e ct rs = 0) := if_neg (fun h => he h.1)
    generalize truthsN ts e ct rs = tv at *
    have he1 : (e != 0) = true := by simpa using he
    clear he
    go_enter Try.func31, Try.ntmps31
    go_wp2
    go_ret
    exact ⟨by rw [HV.out]; rfl, Ext.refl _⟩
#print axioms truths_any
end Go.Proofs.Yteadkafeabhhhaa
