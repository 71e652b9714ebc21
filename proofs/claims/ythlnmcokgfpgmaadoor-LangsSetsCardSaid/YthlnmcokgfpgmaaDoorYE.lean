/- gauntletref25.Set, Complement: plain laws. gauntletref25.Set 36 (printed by gen_v9.py). -/
import Derived.Test.YthlnmcokgfpgmaaDoorYC
import Derived.Test.YthlnmcokgfpgmaaDoorZJ
import Derived.Test.YthlnmcokgfpgmaaDoorZP
import Derived.Test.YthlnmcokgfpgmaaDoorZV
namespace Go.Proofs.YthlnmcokgfpgmaaDoor
open Go.RowKit Go.Maps
set_option linter.unusedVariables false
set_option linter.unusedSimpArgs false
/-- The operations, by their numbers. -/
def gK (n : Nat) (x y : Bool) : Bool := if n = 2 then x && !y else if n = 1 then x && y else x || y
def accP (g : Bool → Bool → Bool) (a b : Dfa) : List Bool := (pairsL a b).map (fun r => g (a.ac r.p) (b.ac r.q))
theorem prod_good {g : Bool → Bool → Bool} {a b : Dfa} (ha : Good a) (hb : Good b) (hk : a.k = b.k) (hn : a.n * b.n ≤ 256) : Good (prodD g a b) := by
  have hok := okP_all ha hb hk
  have hl : (pairsL a b).length ≤ 256 := Nat.le_trans hok.bound hn
  have hrl : (rowsP a b (pairsL a b)).length = (pairsL a b).length := by unfold rowsP; simp
  have hR := rowsOk_pairs ha hb hk (by omega)
  refine ⟨ha.sy, ?_, ?_, fun r hr => ?_, fun r hr x hx => ?_⟩
  · show 1 ≤ (rowsP a b (pairsL a b)).length ∧ (rowsP a b (pairsL a b)).length ≤ 256
    have := hok.pos
    omega
  · show ((pairsL a b).map _).length = (rowsP a b (pairsL a b)).length
    rw [List.length_map, hrl]
  · have hr : r ∈ rowsP a b (pairsL a b) := hr
    unfold rowsP at hr
    obtain ⟨z, _, rfl⟩ := List.mem_map.1 hr
    show ((numsP a b (pairsL a b) z).length : Int) = a.sy
    have := ha.kk.1
    simp [numsP]
    exact this
  · exact (hR.fit r hr).2 x hx
theorem set_of {g : Bool → Bool → Bool} {a b q : Dfa} (ha : Good a) (hb : Good b) (hk : a.k = b.k) (hc : Canon q) (hl : Like (prodD g a b) 0 q 0) (hs : q.sy = a.sy) : OpW g a b q :=
  opW_of ha hb hk hc hs (hl.symm (by unfold Dfa.k; rw [hs]; rfl))
theorem nums_at {a b : Dfa} {L : List Rch} {r : Rch} {x : Nat} (hx : x < a.k) : (numsP a b L r)[x]? = some (idxP L (stepP a b r x) : Int) := by
  unfold numsP
  rw [List.getElem?_map, List.getElem?_range hx]; rfl
theorem nums_len (a b : Dfa) (L : List Rch) (r : Rch) : (numsP a b L r).length = a.k := by simp [numsP]
theorem take_more {α : Type} {l : List α} {i : Nat} {x : α} (h : l[i]? = some x) : l.take (i + 1) = l.take i ++ [x] := by
  obtain ⟨hi, rfl⟩ := List.getElem?_eq_some_iff.1 h
  exact List.take_succ_eq_append_getElem hi
/-- Just one pair of the list is this one. -/
theorem key_idx {L : List Rch} (hd : (L.map Rch.key).Nodup) {kk : Nat} {z : Rch} (hz : L[kk]? = some z) {t : Nat × Nat} (ht : inP L t = true) : (z.key == t) = decide (kk = idxP L t) := by
  obtain ⟨m, y, hm, hy, hk⟩ := inP_get ht
  have hi := idxP_of hd hy hk
  rw [hi, Bool.eq_iff_iff, beq_iff_eq, decide_eq_true_iff]
  constructor
  · intro h
    have h1 : (L.map Rch.key)[kk]? = some t := by rw [List.getElem?_map, hz]; exact congrArg some h
    have h2 : (L.map Rch.key)[m]? = some t := by rw [List.getElem?_map, hy]; exact congrArg some hk
    exact (List.getElem?_inj (List.getElem?_eq_some_iff.1 h1).1 hd).1 (h1.trans h2.symm)
  · rintro rfl
    rw [hz] at hy
    cases hy
    exact hk
/-- The found number, if its place is passed. -/
def hitL (I kk : Nat) : List Int := if I < kk then [(I : Int)] else []
theorem hitL_len (I kk : Nat) : (hitL I kk).length = if I < kk then 1 else 0 := by unfold hitL; split <;> rfl
theorem hitL_zero (I : Nat) : hitL I 0 = [] := if_neg (by omega)
theorem hitL_no {I kk : Nat} (h : kk ≠ I) : hitL I (kk + 1) = hitL I kk := by
  unfold hitL
  by_cases h1 : I < kk
  · rw [if_pos h1, if_pos (by omega)]
  · rw [if_neg h1, if_neg (by omega)]
theorem hitL_yes (I : Nat) : hitL I (I + 1) = [(I : Int)] := if_pos (by omega)
theorem hitL_at (I : Nat) : hitL I I = [] := if_neg (by omega)
theorem hitL_all {I n : Nat} (h : I < n) : hitL I n = [(I : Int)] := if_pos h
/-! ### Complement -/
theorem comp_like {d q : Dfa} (hg : Good d) (hc : Canon q) (hl : Like (flipD d) 0 q 0) (hs : q.sy = d.sy) : CompW d q := by
  have hk : q.k = d.k := by unfold Dfa.k; rw [hs]
  have h0 : 0 < d.n := by have := hg.size; unfold Dfa.n; omega
  refine ⟨hc, hs, fun w hw => ?_⟩
  have h1 := hl w hw
  rw [flip_run, flip_ac hg (run_ltG hg w 0 h0 hw)] at h1
  exact h1.symm
end Go.Proofs.YthlnmcokgfpgmaaDoor

namespace Go.Proofs.YthlnmcokgfpgmaaDoor
open Go.RowKit Go.Maps
set_option linter.unusedVariables false
set_option linter.unusedSimpArgs false
attribute [local go_sem] Oper.quietV quietV Oper.gives givesV ext_refl_iff ext_alloc_iff ext_drew_iff ext_drewN_iff
set_option maxRecDepth 100000 in
set_option maxHeartbeats 16000000 in
theorem refSet_any (w : World) (n : Nat) (hn : n = 0 ∨ n = 1 ∨ n = 2) (dv dv' : Value) (a b : Dfa) (hd : DfaV w dv a) (hd' : DfaV w dv' b) (hga : Good a) (hgb : Good b) (hk : a.k = b.k) (hsz : a.n * b.n ≤ 256) :
    Calls Tryd.prog 36 #[.int .i64 n, dv, dv'] w fun e w' => ∃ v q, e = .returned v ∧ DfaV w' v q ∧ OpW (gK n) a b q ∧ Ext w w' := by
  obtain ⟨rv, cr, av, ca, rfl, hr, ha⟩ := id hd
  obtain ⟨Ar, vr, rfl, _, _, _, _, hrm⟩ := id hr
  obtain ⟨Aa, rfl, hac, _, ham⟩ := id ha
  obtain ⟨rv', cr', av', ca', rfl, hr', ha'⟩ := id hd'
  obtain ⟨Ar', vr', rfl, _, _, _, _, hrm'⟩ := id hr'
  obtain ⟨Aa', rfl, hac', _, ham'⟩ := id ha'
  unfold lenMax at hrm ham hrm' ham'
  obtain ⟨i3, hi3, hz3, hs3, hb3⟩ := info_parts int_info
  obtain ⟨i4, hi4, hz4, hs4, hb4'⟩ := info_parts bool_info
  obtain ⟨i31, hi31, hz31, hs31, hb31⟩ := info_parts ints_info
  have hkk := hga.kk
  have hokL := okP_all hga hgb hk
  have hLn : (pairsL a b).length ≤ 256 := Nat.le_trans hokL.bound hsz
  have hL1 : 1 ≤ (pairsL a b).length := hokL.pos
  have HPG := Lib.hid (prod_good (g := gK n) hga hgb hk hsz)
  have HFI := Lib.hid (fun q => set_of (g := gK n) (q := q) hga hgb hk)
  have HPC : Hid (∀ r ∈ pairsL a b, ∀ x, x < a.k → inP (pairsL a b) (stepP a b r x) = true) := Lib.hid (fun r hr x hx => pairs_closed hga hgb hk hr hx)
  have hsy : a.sy = (a.k : Int) := hkk.1.symm
  have hk1 : 1 ≤ a.k := hkk.2.1
  have hk2 : a.k ≤ 16 := hkk.2.2
  have HRP : Hid ((rowsP a b (pairsL a b)).length = (pairsL a b).length ∧ ∀ (i : Nat) (r : Rch), (pairsL a b)[i]? = some r → (rowsP a b (pairsL a b))[i]? = some (numsP a b (pairsL a b) r)) := Lib.hid ⟨by unfold rowsP; simp, fun i r h => by unfold rowsP; rw [List.getElem?_map, h]; rfl⟩
  have HAC : Hid ((accP (gK n) a b).length = (pairsL a b).length ∧ ∀ (i : Nat) (r : Rch), (pairsL a b)[i]? = some r → (accP (gK n) a b)[i]? = some (gK n (a.ac r.p) (b.ac r.q))) := Lib.hid ⟨by unfold accP; simp, fun i r h => by unfold accP; rw [List.getElem?_map, h]; rfl⟩
  have HPR : Hid (prodD (gK n) a b = ⟨a.k, rowsP a b (pairsL a b), accP (gK n) a b⟩) := Lib.hid (by rw [← hsy]; rfl)
  have HG := Lib.hid (And.intro hga (And.intro hgb (And.intro hk hokL)))
  rw [hsy]
  clear hsy hk hokL hkk
  go_enter Tryd.func36, Tryd.ntmps36
  go_upto_region 1 with fail
  refine wp_named ?_
  intro W1 hW1
  have hE1 : Ext w W1 := by rw [hW1]; exact (((Ext.refl _).alloc _).alloc _).alloc _
  have k0 : ∀ w', Ext W1 w' → w'.cell? ⟨w.heap.size, 0, none⟩ = some (.int .i64 (a.k : Int)) := fun w' h => h.cell (by rw [hW1]; simp [go_sem])
  have k1 : ∀ w', Ext W1 w' → w'.cell? ⟨w.heap.size, 1, none⟩ = some (.slice Ar a.rows.length cr) := fun w' h => h.cell (by rw [hW1]; simp [go_sem])
  have k2 : ∀ w', Ext W1 w' → w'.cell? ⟨w.heap.size, 2, none⟩ = some (.slice Aa a.acc.length ca) := fun w' h => h.cell (by rw [hW1]; simp [go_sem])
  have l0 : ∀ w', Ext W1 w' → w'.cell? ⟨w.heap.size + 1, 0, none⟩ = some (.int .i64 b.sy) := fun w' h => h.cell (by rw [hW1]; simp [go_sem])
  have l1 : ∀ w', Ext W1 w' → w'.cell? ⟨w.heap.size + 1, 1, none⟩ = some (.slice Ar' b.rows.length cr') := fun w' h => h.cell (by rw [hW1]; simp [go_sem])
  have l2 : ∀ w', Ext W1 w' → w'.cell? ⟨w.heap.size + 1, 2, none⟩ = some (.slice Aa' b.acc.length ca') := fun w' h => h.cell (by rw [hW1]; simp [go_sem])
  have kb : ∀ w', Ext W1 w' → w'.heap[w.heap.size + 1 + 1]? = some (.cells #[.int .i64 0, .slice none 0 0, .slice none 0 0] 28 (0, 0)) := fun w' h => heap_ext h (by rw [hW1]; have h9 := heap_alloc_new ((w.alloc (.cells #[.int .i64 (a.k : Int), .slice Ar a.rows.length cr, .slice Aa a.acc.length ca] 28)).alloc (.cells #[.int .i64 b.sy, .slice Ar' b.rows.length cr', .slice Aa' b.acc.length ca'] 28)) (.cells #[.int .i64 0, .slice none 0 0, .slice none 0 0] 28 (0, 0)); simpa using h9)
  have HB6 : Hid (w.heap.size ≤ w.heap.size + 1 + 1 ∧ w.heap.size + 1 + 1 < W1.heap.size) := Lib.hid ⟨by omega, by rw [hW1]; simp⟩
  clear hW1
  generalize w.heap.size + 1 + 1 = b6 at *
  have hE0 := Ext.refl W1
  have hsy2 : a.sy = (a.k : Int) := HG.out.1.kk.1.symm
  have hd1 : DfaV W1 (.agg #[.int .i64 (a.k : Int), .slice Ar a.rows.length cr, .slice Aa a.acc.length ca]) a := by rw [← hsy2]; exact hd.ext hE1
  have hc1 := refPairs_any W1 _ _ a b hd1 (hd'.ext hE1) hga hgb HG.out.2.2.1
  clear hga hgb hd hd' ha ha' hd1 hsy2 hsz
  generalize pairsL a b = L at *
  generalize rowsP a b L = RP at *
  generalize accP (gK n) a b = AC at *
  go_upto_region 2 with ((with_reducible refine hc1.mono ?_); rintro e W2 ⟨lv, rfl, hp, e2⟩)
  obtain ⟨AL, cL, us, rfl, _, _, _, hlm⟩ := id hp
  unfold lenMax at hlm
  have HP := Lib.hid hp
  clear hc1 hp
  go_upto_region 3 with (with_reducible refine wpList_store_blk _ rfl 28 _ _ rfl W2.heap.size 28 _ _ rfl rfl (heap_alloc_new _ _) (by kernel_rfl) (by kernel_rfl) (by kernel_rfl) ?_; intro W3 h3 g3)
  have hE3 : Ext W2 W3 := Below.grown (alloc_ext W2 _) g3 (alloc_ext W2 _).size (fun k hk => by cases hk; exact Nat.le_refl _)
  have hO : OwnL W2 W3 [.rows 31 3 1 (.slice none 0 0) [] ((RP.take 0).map iRow), .row 4 1 (.slice none 0 0) 0 ((AC.take 0).map Value.bool), .blk W2.heap.size (.cells #[.int .i64 (a.k : Int), .slice none 0 0, .slice none 0 0] 28 (0, 0))] := by
    have h1 : OwnL W2 W3 [.blk W2.heap.size (.cells #[.int .i64 (a.k : Int), .slice none 0 0, .slice none 0 0] 28 (0, 0))] := ⟨hE3, fun A hA => by rw [List.mem_singleton.1 hA]; exact ⟨Nat.le_refl _, h3⟩, List.pairwise_singleton _ _⟩
    have h3 := h1.add (Ext.refl _) (A := .row 4 1 (.slice none 0 0) 0 []) (World.ownsRow_nil _ _ _ _)
    exact h3.add (Ext.refl _) (A := .rows 31 3 1 (.slice none 0 0) [] []) ⟨World.ownsRow_nil _ _ _ _, rfl, fun j u r h => by simp at h, fun i j u u' h => by simp at h, fun j u h => by simp at h⟩
  clear g3 h3 hE3 hE0
  generalize W2.heap.size = b5 at *
  go_wp2
  go_loopw [9] (fun sv wr => ∃ (s : Nat) (rowsv accv : Value) (vsr : List Value), sv = .int .i64 s ∧ s ≤ L.length ∧ OwnL W2 wr [.rows 31 3 1 rowsv vsr ((RP.take s).map iRow), .row 4 1 accv s ((AC.take s).map Value.bool), .blk b5 (.cells #[.int .i64 (a.k : Int), rowsv, accv] 28 (0, 0))]) (fun sv _ => L.length - (intOf sv).toNat)
  case atStart => exact ⟨0, _, _, [], rfl, by omega, hO⟩
  case round =>
    clear hO
    obtain ⟨s, rowsv, accv, vsr, rfl, hs, hO⟩ := hrel
    obtain ⟨W4, hW4⟩ : ∃ W, W = wr := ⟨_, rfl⟩; subst hW4
    by_cases hlt : s < L.length
    · have hltI : (s : Int) < (L.length : Int) := by omega
      obtain ⟨r, hr0⟩ : ∃ r, L[s]? = some r := ⟨_, List.getElem?_eq_getElem hlt⟩
      have hin := HG.out.2.2.2.inn r (List.mem_of_getElem? hr0)
      have hrpA : r.p < a.rows.length := hin.1
      have hrqB : r.q < b.rows.length := hin.2
      have hrpI : (r.p : Int) < (a.rows.length : Int) := by omega
      have hrqI : (r.q : Int) < (b.rows.length : Int) := by omega
      obtain ⟨bL, oL, cL', ui, hAL, c0, c1, _, _⟩ := HP.out.at_ hr0
      injection hAL with hAL _ hCL
      subst hAL hCL
      have hNl := nums_len a b L r
      have hNx := fun x hx => nums_at (a := a) (b := b) (L := L) (r := r) (x := x) hx
      have hCl := HPC.out r (List.mem_of_getElem? hr0)
      have HRS : Hid ((RP.take (s + 1)).map iRow = (RP.take s).map iRow ++ [(a.k, (numsP a b L r).map (.int .i64))]) := Lib.hid (by rw [take_more (HRP.out.2 s r hr0), List.map_append]; show _ ++ [iRow _] = _; unfold iRow; rw [hNl])
      have HRR := Lib.hid hr0
      have HNR := Lib.hid (And.intro hNl (And.intro hNx hCl))
      clear hNl hNx hCl hin
      generalize hNR : numsP a b L r = NR at *
      clear hNR
      go_wp2
      go_loopw [10, 11] (fun rv xv wr => ∃ x : Nat, xv = .int .i64 x ∧ x ≤ a.k ∧ OwnL W2 wr [.row 3 1 rv x ((NR.take x).map (.int .i64)), .rows 31 3 1 rowsv vsr ((RP.take s).map iRow), .row 4 1 accv s ((AC.take s).map Value.bool), .blk b5 (.cells #[.int .i64 (a.k : Int), rowsv, accv] 28 (0, 0))]) (fun _ xv _ => a.k - (intOf xv).toNat)
      case atStart => exact ⟨0, rfl, by omega, hO.add (Ext.refl _) (A := .row 3 1 (.slice none 0 0) 0 []) (World.ownsRow_nil _ _ _ _)⟩
      case round =>
        clear hO
        obtain ⟨x, rfl, hx, hO⟩ := hrel
        obtain ⟨W5, hW5⟩ : ∃ W, W = wr := ⟨_, rfl⟩; subst hW5
        have kk0 := k0 W5 (e2.trans hO.ext)
        by_cases hxk : x < a.k
        · have hxI : (x : Int) < (a.k : Int) := by omega
          have hxB : x < b.k := by have := HG.out.2.2.1; omega
          obtain ⟨ba, oa, ba', oa', ca1, hA1, a1, a2⟩ := HG.out.1.at_ (hr.ext (hE1.trans e2)) hrpA hxk
          obtain ⟨bb, ob, bb', ob', cb1, hA2, b1', b2⟩ := HG.out.2.1.at_ (hr'.ext (hE1.trans e2)) hrqB hxB
          injection hA1 with hA1
          injection hA2 with hA2
          subst hA1 hA2
          rw [← HG.out.2.2.1] at b1'
          have hidx := HNR.out.2.1 x hxk
          have hclo := HNR.out.2.2 x hxk
          have hst : stepP a b r x = (a.to r.p x, b.to r.q x) := rfl
          rw [hst] at hidx hclo
          have hIlt := idxP_lt hclo
          have HKI : Hid (∀ (kk : Nat) (z : Rch), L[kk]? = some z → (z.key == (a.to r.p x, b.to r.q x)) = decide (kk = idxP L (a.to r.p x, b.to r.q x))) := Lib.hid (fun kk z hz => key_idx HG.out.2.2.2.nodup hz hclo)
          generalize a.to r.p x = p1 at *
          generalize b.to r.q x = q1 at *
          generalize idxP L (p1, q1) = I at *
          have HT : Hid (NR.take (x + 1) = NR.take x ++ [(I : Int)] ∧ I < L.length) := Lib.hid ⟨take_more hidx, hIlt⟩
          clear hidx hclo hst hIlt
          have hO5 : OwnL W2 W5 [.row 3 1 u10 (x + (hitL I 0).length) ((NR.take x ++ hitL I 0).map (.int .i64)), .rows 31 3 1 rowsv vsr ((RP.take s).map iRow), .row 4 1 accv s ((AC.take s).map Value.bool), .blk b5 (.cells #[.int .i64 (a.k : Int), rowsv, accv] 28 (0, 0))] := by rw [hitL_zero, List.append_nil]; exact hO
          have c0 : ∀ w', Ext W2 w' → w'.cell? ⟨bL, oL + s * 3, none⟩ = some (.int .i64 (r.p : Int)) := fun w' h => h.cell c0
          have c1 : ∀ w', Ext W2 w' → w'.cell? ⟨bL, oL + s * 3 + 1, none⟩ = some (.int .i64 (r.q : Int)) := fun w' h => h.cell c1
          have a1 : ∀ w', Ext W2 w' → w'.cell? ⟨ba, oa + r.p, none⟩ = some (.slice (some ⟨ba', oa', none⟩) a.k ca1) := fun w' h => h.cell a1
          have a2 : ∀ w', Ext W2 w' → w'.cell? ⟨ba', oa' + x, none⟩ = some (.int .i64 (p1 : Int)) := fun w' h => h.cell a2
          have b1' : ∀ w', Ext W2 w' → w'.cell? ⟨bb, ob + r.q, none⟩ = some (.slice (some ⟨bb', ob', none⟩) a.k cb1) := fun w' h => h.cell b1'
          have b2 : ∀ w', Ext W2 w' → w'.cell? ⟨bb', ob' + x, none⟩ = some (.int .i64 (q1 : Int)) := fun w' h => h.cell b2
          have m1 : ∀ w', Ext W2 w' → w'.cell? ⟨w.heap.size, 1, none⟩ = some (.slice (some ⟨ba, oa, none⟩) a.rows.length cr) := fun w' h => k1 w' (e2.trans h)
          have m2 : ∀ w', Ext W2 w' → w'.cell? ⟨w.heap.size + 1, 1, none⟩ = some (.slice (some ⟨bb, ob, none⟩) b.rows.length cr') := fun w' h => l1 w' (e2.trans h)
          generalize hrp : r.p = rp at *
          generalize hrq : r.q = rq at *
          have HRPQ := Lib.hid (And.intro hrp hrq)
          clear hrp hrq
          clear hO
          go_wp2
          go_loopw [10, 12] (fun rv kv wr => ∃ kk : Nat, kv = .int .i64 kk ∧ kk ≤ L.length ∧ OwnL W2 wr [.row 3 1 rv (x + (hitL I kk).length) ((NR.take x ++ hitL I kk).map (.int .i64)), .rows 31 3 1 rowsv vsr ((RP.take s).map iRow), .row 4 1 accv s ((AC.take s).map Value.bool), .blk b5 (.cells #[.int .i64 (a.k : Int), rowsv, accv] 28 (0, 0))]) (fun _ kv _ => L.length - (intOf kv).toNat)
          case atStart => exact ⟨0, rfl, by omega, hO5⟩
          case round =>
            clear hO5
            obtain ⟨kk, rfl, hkk, hO⟩ := hrel
            obtain ⟨W6, hW6⟩ : ∃ W, W = wr := ⟨_, rfl⟩; subst hW6
            by_cases hkl : kk < L.length
            · obtain ⟨z, hz⟩ : ∃ z, L[kk]? = some z := ⟨_, List.getElem?_eq_getElem hkl⟩
              obtain ⟨bL', oL', cL', uk, hAL, z0, z1, _, _⟩ := HP.out.at_ hz
              injection hAL with hAL _ hCL
              injection hAL with hAL
              injection hAL with hB hO'
              subst hB hO'
              have hki := HKI.out kk z hz
              rw [key_beq] at hki
              have hkkI : (kk : Int) < (L.length : Int) := by omega
              have z0 : ∀ w', Ext W6 w' → w'.cell? ⟨bL, oL + kk * 3, none⟩ = some (.int .i64 (z.p : Int)) := fun w' h => (hO.ext.trans h).cell z0
              have z1 : ∀ w', Ext W6 w' → w'.cell? ⟨bL, oL + kk * 3 + 1, none⟩ = some (.int .i64 (z.q : Int)) := fun w' h => (hO.ext.trans h).cell z1
              have c0 : ∀ w', Ext W6 w' → w'.cell? ⟨bL, oL + s * 3, none⟩ = some (.int .i64 (rp : Int)) := fun w' h => c0 w' (hO.ext.trans h)
              have c1 : ∀ w', Ext W6 w' → w'.cell? ⟨bL, oL + s * 3 + 1, none⟩ = some (.int .i64 (rq : Int)) := fun w' h => c1 w' (hO.ext.trans h)
              have a1 : ∀ w', Ext W6 w' → w'.cell? ⟨ba, oa + rp, none⟩ = some (.slice (some ⟨ba', oa', none⟩) a.k ca1) := fun w' h => a1 w' (hO.ext.trans h)
              have a2 : ∀ w', Ext W6 w' → w'.cell? ⟨ba', oa' + x, none⟩ = some (.int .i64 (p1 : Int)) := fun w' h => a2 w' (hO.ext.trans h)
              have b1' : ∀ w', Ext W6 w' → w'.cell? ⟨bb, ob + rq, none⟩ = some (.slice (some ⟨bb', ob', none⟩) a.k cb1) := fun w' h => b1' w' (hO.ext.trans h)
              have b2 : ∀ w', Ext W6 w' → w'.cell? ⟨bb', ob' + x, none⟩ = some (.int .i64 (q1 : Int)) := fun w' h => b2 w' (hO.ext.trans h)
              have m1 : ∀ w', Ext W6 w' → w'.cell? ⟨w.heap.size, 1, none⟩ = some (.slice (some ⟨ba, oa, none⟩) a.rows.length cr) := fun w' h => m1 w' (hO.ext.trans h)
              have m2 : ∀ w', Ext W6 w' → w'.cell? ⟨w.heap.size + 1, 1, none⟩ = some (.slice (some ⟨bb, ob, none⟩) b.rows.length cr') := fun w' h => m2 w' (hO.ext.trans h)
              have hE6 := Ext.refl W6
              have HO := Lib.hid hO
              have HKK := Lib.hid hki
              clear hz hki hO
              generalize z.p = zp at *
              generalize z.q = zq at *
              cases h1 : ((zp : Int) == (p1 : Int)) with
              | false =>
                rw [h1] at HKK
                have hne : kk ≠ I := of_decide_eq_false HKK.out.symm
                go_upto_region 13 with fail
                go_quiet (fail)
                go_wp2
                go_roundw
                case rel => exact ⟨kk + 1, by go_num, hkl, by rw [hitL_no hne]; exact HO.out.trans ((Ext.refl _).drewN _)⟩
                case measure => simp [intOf]; omega
              | true =>
                rw [h1] at HKK
                cases h2 : ((zq : Int) == (q1 : Int)) with
                | false =>
                  rw [h2] at HKK
                  have hne : kk ≠ I := of_decide_eq_false HKK.out.symm
                  go_upto_region 13 with fail
                  go_quiet (fail)
                  go_wp2
                  go_roundw
                  case rel => exact ⟨kk + 1, by go_num, hkl, by rw [hitL_no hne]; exact HO.out.trans ((Ext.refl _).drewN _)⟩
                  case measure => simp [intOf]; omega
                | true =>
                  rw [h2] at HKK
                  have he : kk = I := of_decide_eq_true HKK.out.symm
                  subst he
                  go_upto_region 13 with fail
                  go_quiet (fail)
                  have hO7 := HO.out.trans ((Ext.refl W6).drewN nq)
                  rw [hitL_at, List.append_nil] at hO7
                  generalize W6.drewN nq = W7 at *
                  have hown : W7.ownsRow W2.heap.size 3 1 u10 x ((NR.take x).map (.int .i64)) := hO7.get 0 rfl
                  have hsz7 := hO7.ext.size
                  have HO7 := Lib.hid hO7
                  clear HO hO7 z0 z1 c0 c1 a1 a2 b1' b2 m1 m2
                  go_wp2_with (at_builtin; refine wpList_append_own2 rfl _ _ 31 rfl W2.heap.size 3 i3 (.int .i64 0) 1 8 Tryd.underlying31 hi3 hz3 hs3 hb3 rfl (by decide) u10 x ((NR.take x).map (.int .i64)) rfl (World.ownsRow.alloc hown _) ⟨W7.heap.size, 0, none⟩ 1 1 [.int .i64 kk] rfl rfl (new_cell _ _ _ _ (by first | rfl | simp)) (one_int _) (by unfold maxLen; omega) (by omega) (by simp; omega) ?_; intro v8 w8 hown8 hg8 hb8)
                  have hO8 := (HO7.out.trans (alloc_ext W7 (.cells #[.int .i64 kk] 3))).app 0 rfl hg8 hown8 hb8
                  go_roundw
                  case rel => exact ⟨kk + 1, by go_num, hkl, by rw [hitL_yes]; simpa using hO8⟩
                  case measure => simp [intOf]; omega
            · have hke : kk = L.length := by omega
              subst hke
              rw [hitL_all HT.out.2, ← HT.out.1] at hO
              have HO := Lib.hid hO
              clear hO c0 c1 a1 a2 b1' b2 m1 m2
              go_wp2
              go_roundw
              case rel => exact ⟨x + 1, by go_num, hxk, HO.out⟩
              case measure => simp [intOf]; omega
        · have hxe : x = a.k := by omega
          subst hxe
          rw [List.take_of_length_le (Nat.le_of_eq HNR.out.1)] at hO
          obtain ⟨g7, c7, rfl⟩ := ownsRow_pos (hO.get 0 rfl) (by omega)
          have hrows : OwnRows W5 W2.heap.size 31 3 1 rowsv vsr ((RP.take s).map iRow) := hO.get 1 rfl
          have hvl : vsr.length = s := by have := hrows.len; rw [List.length_map, List.length_take, HRP.out.1] at this; omega
          have HVL := Lib.hid hvl
          obtain ⟨Arr, crr, hrf⟩ := own_form hrows.own
          rw [hvl] at hrf
          have d1 := cell_of_blk (hO.get 3 rfl).2 1 (u := rowsv) rfl
          have d2 := cell_of_blk (hO.get 3 rfl).2 2 (u := accv) rfl
          obtain ⟨ba, oa, hAa, ca0⟩ := HG.out.1.acc_at (hac.ext (hE1.trans (e2.trans hO.ext))) hrpA
          obtain ⟨bb, ob, hAb, cb0⟩ := HG.out.2.1.acc_at (hac'.ext (hE1.trans (e2.trans hO.ext))) hrqB
          subst hAa hAb
          have hpa : (r.p : Int) < (a.acc.length : Int) := by rw [HG.out.1.acc]; omega
          have hqb : (r.q : Int) < (b.acc.length : Int) := by rw [HG.out.2.1.acc]; omega
          have HHAC := Lib.hid (HAC.out.2 s r HRR.out)
          have c0 : ∀ w', Ext W5 w' → w'.cell? ⟨bL, oL + s * 3, none⟩ = some (.int .i64 (r.p : Int)) := fun w' h => (hO.ext.trans h).cell c0
          have c1 : ∀ w', Ext W5 w' → w'.cell? ⟨bL, oL + s * 3 + 1, none⟩ = some (.int .i64 (r.q : Int)) := fun w' h => (hO.ext.trans h).cell c1
          have m1 : ∀ w', Ext W5 w' → w'.cell? ⟨w.heap.size, 2, none⟩ = some (.slice (some ⟨ba, oa, none⟩) a.acc.length ca) := fun w' h => k2 w' (e2.trans (hO.ext.trans h))
          have m2 : ∀ w', Ext W5 w' → w'.cell? ⟨w.heap.size + 1, 2, none⟩ = some (.slice (some ⟨bb, ob, none⟩) b.acc.length ca') := fun w' h => l2 w' (e2.trans (hO.ext.trans h))
          have ca0 : ∀ w', Ext W5 w' → w'.cell? ⟨ba, oa + r.p, none⟩ = some (.bool (a.ac r.p)) := fun w' h => h.cell ca0
          have cb0 : ∀ w', Ext W5 w' → w'.cell? ⟨bb, ob + r.q, none⟩ = some (.bool (b.ac r.q)) := fun w' h => h.cell cb0
          have hE5 := Ext.refl W5
          subst hrf
          obtain ⟨Aac, cac, rfl⟩ := own_form (hO.get 2 rfl)
          have HO := Lib.hid hO
          have HD := Lib.hid (And.intro d1 d2)
          clear hrows hvl d1 d2 hO
          generalize a.ac r.p = xa at *
          generalize b.ac r.q = xb at *
          go_upto_region 15 with fail
          go_quiet (fail)
          have hO7 := HO.out.trans ((Ext.refl W5).drewN nq)
          have hD7 : Sb b5 (.slice Arr s crr) (.slice Aac s cac) (W5.drewN nq) := ⟨((Ext.refl W5).drewN nq).cell HD.out.1, ((Ext.refl W5).drewN nq).cell HD.out.2⟩
          generalize W5.drewN nq = W7 at *
          have HO7 := Lib.hid hO7
          have HD7 := Lib.hid hD7
          clear c0 c1 m1 m2 ca0 cb0 hE5 HO HD hO7 hD7 hpa hqb
          obtain ⟨B, hB⟩ : ∃ B, gK n xa xb = B := ⟨_, rfl⟩
          rw [hB] at HHAC
          have HBS : Hid ((AC.take (s + 1)).map Value.bool = (AC.take s).map Value.bool ++ [.bool B]) := Lib.hid (by rw [take_more HHAC.out, List.map_append]; rfl)
          have HGB := Lib.hid hB
          obtain ⟨B1, hB1⟩ : ∃ B1, (if n = 1 then xa && xb else xa || xb) = B1 := ⟨_, rfl⟩
          have HB1 := Lib.hid hB1
          clear hB1
          clear hB HHAC
          have hs7 : s ≤ 255 := by omega
          have hS0 : Sb b5 (.slice Arr s crr) (.slice Aac s cac) W7.drew := HD7.out.ext (drew_ext _)
          obtain ⟨oR, hoR⟩ : ∃ o : Obj, o = .cells #[.slice (some ⟨g7, 0, none⟩) a.k c7] 31 := ⟨_, rfl⟩
          obtain ⟨oB, hoB⟩ : ∃ o : Obj, o = .cells #[.bool B] 4 := ⟨_, rfl⟩
          have HOR := Lib.hid hoR
          have HOB := Lib.hid hoB
          clear hoR hoB
          go_upto_region 16 with fail
          go_cut [15] (fun v wx => v = .bool (xa || xb) ∧ W7 = wx)
          case first => cases xa <;> cases xb <;> (go_wp2; go_meet; exact ⟨rfl, rfl⟩)
          case rest =>
            obtain ⟨rfl, rfl⟩ := hcut
            go_upto_region 999 with (with_reducible refine stop_at2 17 ?_)
            refine ⟨?_⟩
            refine wp_seq_k ?_
            intro K17 hK17
            go_cut [15] (fun v wx => v = .bool B1 ∧ W7 = wx)
            case first => rcases hn with rfl | rfl | rfl <;> cases xa <;> cases xb <;> (go_wp2; go_meet; exact ⟨by rw [← HB1.out]; rfl, rfl⟩)
            case rest =>
              obtain ⟨rfl, rfl⟩ := hcut
              go_upto_region 999 with (with_reducible refine stop_at2 19 ?_)
              refine ⟨?_⟩
              refine wp_seq_k ?_
              intro K19 hK19
              go_cut [15] (fun v wx => v = .bool B ∧ W7 = wx)
              case first => rcases hn with rfl | rfl | rfl <;> cases xa <;> cases xb <;> (go_wp2; go_meet; exact ⟨by first | (rw [← HGB.out]; rfl) | (rw [← HGB.out, ← HB1.out]; rfl), rfl⟩)
              case rest =>
                obtain ⟨rfl, rfl⟩ := hcut
                go_upto_region 21 with fail
                refine wp_region_bar 11 (Sb b5 (.slice Arr s crr) (.slice Aac s cac)) (by kernel_rfl) ?_
                refine wpAnyB_take (i := 0) (v := ?_) rfl (by kernel_rfl) (by kernel_rfl) (by kernel_rfl) (by kernel_rfl) (fun _ _ _ h => h) (Or.inl ⟨by rfl, ?_⟩) hS0 ?_
                rotate_left
                · (intro w hSw; obtain ⟨s1, s2⟩ := hSw; go_simp; first | done | with_reducible rfl)
                try simp only [Act.put, List.setIfInBounds_toArray, List.set_cons_zero, List.set_cons_succ]
                refine wpAnyB_take (i := 1) (v := ?_) rfl (by kernel_rfl) (by kernel_rfl) (by kernel_rfl) (by kernel_rfl) (fun _ _ _ h => h) (Or.inl ⟨by rfl, ?_⟩) hS0 ?_
                rotate_left
                · (intro w hSw; obtain ⟨s1, s2⟩ := hSw; go_simp; first | done | with_reducible rfl)
                try simp only [Act.put, List.setIfInBounds_toArray, List.set_cons_zero, List.set_cons_succ]
                refine wpAnyB_take (i := 2) (v := ?_) rfl (by kernel_rfl) (by kernel_rfl) (by kernel_rfl) (by kernel_rfl) (fun _ _ _ h => h) (Or.inl ⟨by rfl, ?_⟩) hS0 ?_
                rotate_left
                · (intro w hSw; obtain ⟨s1, s2⟩ := hSw; go_simp; first | done | with_reducible rfl)
                try simp only [Act.put, List.setIfInBounds_toArray, List.set_cons_zero, List.set_cons_succ]
                refine wpAnyB_take (i := 5) (v := ?_) rfl (by kernel_rfl) (by kernel_rfl) (by kernel_rfl) (by kernel_rfl) (fun _ _ _ h => h) (Or.inl ⟨by rfl, ?_⟩) hS0 ?_
                rotate_left
                · (intro w hSw; obtain ⟨s1, s2⟩ := hSw; go_simp; first | done | with_reducible rfl)
                try simp only [Act.put, List.setIfInBounds_toArray, List.set_cons_zero, List.set_cons_succ]
                refine wpAnyB_take (i := 6) (v := ?_) rfl (by kernel_rfl) (by kernel_rfl) (by kernel_rfl) (by kernel_rfl) (fun _ _ _ h => h) (Or.inl ⟨by rfl, ?_⟩) hS0 ?_
                rotate_left
                · (intro w hSw; obtain ⟨s1, s2⟩ := hSw; go_simp; first | done | with_reducible rfl)
                try simp only [Act.put, List.setIfInBounds_toArray, List.set_cons_zero, List.set_cons_succ]
                refine wpAnyB_take (i := 7) (v := ?_) rfl (by kernel_rfl) (by kernel_rfl) (by kernel_rfl) (by kernel_rfl) (fun _ _ _ h => h) (Or.inl ⟨by rfl, ?_⟩) hS0 ?_
                rotate_left
                · (intro w hSw; obtain ⟨s1, s2⟩ := hSw; go_simp; first | done | with_reducible rfl)
                try simp only [Act.put, List.setIfInBounds_toArray, List.set_cons_zero, List.set_cons_succ]
                refine wpAnyB_ready (rs := [3, 8]) (by kernel_rfl) (by simp) (AllB.cons rfl (fun K hK => ?_) (AllB.cons rfl (fun K hK => ?_) AllB.nil))
                · skip
                  go_simp
                  rw [← HOR.out]
                  have hS1 := Sb.ext hS0 (alloc_ext W7.drew oR)
                  refine hK.out _ _ hS1 ?_
                  clear hK K
                  try simp only [Act.put, List.setIfInBounds_toArray, List.set_cons_zero, List.set_cons_succ]
                  have hOa : OwnL W2 (W7.drew.alloc oR) [.row 3 1 (.slice (some ⟨g7, 0, none⟩) a.k c7) a.k (NR.map (.int .i64)), .rows 31 3 1 (.slice Arr s crr) vsr ((RP.take s).map iRow), .row 4 1 (.slice Aac s cac) s ((AC.take s).map Value.bool), .blk b5 (.cells #[.int .i64 (a.k : Int), .slice Arr s crr, .slice Aac s cac] 28 (0, 0))] := HO7.out.trans ((drew_ext _).trans (alloc_ext _ _))
                  refine wpAnyB_ready (rs := [4, 8]) (by kernel_rfl) (by simp) (AllB.cons rfl (fun K hK => ?_) (AllB.cons rfl (fun K hK => ?_) AllB.nil))
                  · skip
                    have hrw : OwnRows _ W2.heap.size 31 3 1 (.slice Arr s crr) vsr ((RP.take s).map iRow) := (hOa).get 1 rfl
                    have hrwo := hrw.own
                    rw [HVL.out] at hrwo
                    refine step_append_own2 rfl _ _ 25 rfl W2.heap.size 31 i31 (.slice none 0 0) 1 24 Tryd.underlying25 hi31 hz31 hs31 hb31 rfl (by decide) (.slice Arr s crr) s vsr (by rfl) hrwo ⟨_, 0, none⟩ 1 1 [.slice (some ⟨g7, 0, none⟩) a.k c7] (by rfl) rfl (blk_news (n := W7.drew.heap.size) (by rw [HOR.out]; exact heap_alloc_new _ _)) (one_slice _ _ _) (by unfold maxLen; omega) (by omega) (hOa).ext.size ?_
                    intro v8 w8 hown8 hg8 hb8
                    have hp8 : w8.ownsRow W2.heap.size 31 1 v8 (vsr.length + 1) (vsr ++ [.slice (some ⟨g7, 0, none⟩) a.k c7]) := by rw [HVL.out]; exact hown8
                    have hO8 := (hOa).push hg8 hp8 hb8
                    obtain ⟨g8, c8, rfl⟩ := ownsRow_pos hown8 (by omega)
                    have hSk : Sb b5 (.slice Arr s crr) (.slice Aac s cac) w8 := ⟨cell_of_blk ((hO8).get 2 rfl).2 1 rfl, cell_of_blk ((hO8).get 2 rfl).2 2 rfl⟩
                    refine hK.out _ _ hSk ?_
                    clear hK K
                    try simp only [Act.put, List.setIfInBounds_toArray, List.set_cons_zero, List.set_cons_succ]
                    refine wpAnyB_take (i := 10) (v := ?_) rfl (by kernel_rfl) (by kernel_rfl) (by kernel_rfl) (by kernel_rfl) (fun _ _ _ h => h) (Or.inl ⟨by rfl, ?_⟩) hSk ?_
                    rotate_left
                    · (intro w hSw; obtain ⟨s1, s2⟩ := hSw; go_simp; first | done | with_reducible rfl)
                    try simp only [Act.put, List.setIfInBounds_toArray, List.set_cons_zero, List.set_cons_succ]
                    refine wpAnyB_ready (rs := [8]) (by kernel_rfl) (by simp) (AllB.cons rfl (fun K hK => ?_) AllB.nil)
                    go_simp
                    rw [← HOB.out]
                    have hS3 := Sb.ext hSk (alloc_ext w8 oB)
                    refine hK.out _ _ hS3 ?_
                    clear hK K
                    try simp only [Act.put, List.setIfInBounds_toArray, List.set_cons_zero, List.set_cons_succ]
                    refine wpAnyB_ready (rs := [9]) (by kernel_rfl) (by simp) (AllB.cons rfl (fun K hK => ?_) AllB.nil)
                    have hO8b := hO8.trans (alloc_ext w8 oB)
                    refine step_append_own2 rfl _ _ 26 rfl W2.heap.size 4 i4 (.bool false) 1 1 Tryd.underlying26 hi4 hz4 hs4 hb4' rfl (by decide) (.slice Aac s cac) s ((AC.take s).map Value.bool) (by rfl) ((hO8b).get 1 rfl) ⟨_, 0, none⟩ 1 1 [.bool B] (by rfl) rfl (blk_news (n := w8.heap.size) (by rw [HOB.out]; exact heap_alloc_new _ _)) (one_bool _) (by unfold maxLen; omega) (by omega) (hO8b).ext.size ?_
                    intro v9 w9 hown9 hg9 hb9
                    obtain ⟨g9, c9, rfl⟩ := ownsRow_pos hown9 (by omega)
                    have hO9 := (hO8b).app 1 rfl hg9 hown9 hb9
                    have hSk : Sb b5 (.slice Arr s crr) (.slice Aac s cac) w9 := ⟨cell_of_blk ((hO9).get 2 rfl).2 1 rfl, cell_of_blk ((hO9).get 2 rfl).2 2 rfl⟩
                    refine hK.out _ _ hSk ?_
                    clear hK K
                    try simp only [Act.put, List.setIfInBounds_toArray, List.set_cons_zero, List.set_cons_succ]
                    have hO9 : OwnL W2 w9 [.rows 31 3 1 (.slice (some ⟨g8, 0, none⟩) (s + 1) c8) (vsr ++ [.slice (some ⟨g7, 0, none⟩) a.k c7]) ((RP.take (s + 1)).map iRow), .row 4 1 (.slice (some ⟨g9, 0, none⟩) (s + 1) c9) (s + 1) ((AC.take (s + 1)).map Value.bool), .blk b5 (.cells #[.int .i64 (a.k : Int), .slice Arr s crr, .slice Aac s cac] 28 (0, 0))] := by
                      rw [HRS.out, HBS.out]; exact hO9
                    have f9 := free_of_blk (hO9.get 2 rfl).2
                    have d9 := cell_of_blk (hO9.get 2 rfl).2 1 (u := .slice Arr s crr) rfl
                    have d9' := cell_of_blk (hO9.get 2 rfl).2 2 (u := .slice Aac s cac) rfl
                    refine wpAnyB_tail rfl rfl (by decide) (by kernel_rfl) ?_
                    have hO10 := (hO9.put 2 rfl 1 (.slice (some ⟨g8, 0, none⟩) (s + 1) c8)).put 2 rfl 2 (.slice (some ⟨g9, 0, none⟩) (s + 1) c9)
                    have HO10 := Lib.hid hO10
                    clear hO10 hO9
                    go_wp2
                    exact ⟨⟨s + 1, _, _, _, by go_num, by omega, HO10.out⟩, by simp [intOf]; omega⟩
                  · skip
                    go_simp
                    rw [← HOB.out]
                    have hS2 := Sb.ext hS1 (alloc_ext (W7.drew.alloc oR) oB)
                    refine hK.out _ _ hS2 ?_
                    clear hK K
                    try simp only [Act.put, List.setIfInBounds_toArray, List.set_cons_zero, List.set_cons_succ]
                    have hOb := (hOa.add (alloc_ext _ oB) (A := .blk (W7.heap.size + 1) oB) ⟨by simp, by have := heap_alloc_new (W7.drew.alloc oR) oB; simpa using this⟩).last
                    refine wpAnyB_ready (rs := [4]) (by kernel_rfl) (by simp) (AllB.cons rfl (fun K hK => ?_) AllB.nil)
                    have hrw : OwnRows _ W2.heap.size 31 3 1 (.slice Arr s crr) vsr ((RP.take s).map iRow) := (hOb).get 1 rfl
                    have hrwo := hrw.own
                    rw [HVL.out] at hrwo
                    refine step_append_own2 rfl _ _ 25 rfl W2.heap.size 31 i31 (.slice none 0 0) 1 24 Tryd.underlying25 hi31 hz31 hs31 hb31 rfl (by decide) (.slice Arr s crr) s vsr (by rfl) hrwo ⟨_, 0, none⟩ 1 1 [.slice (some ⟨g7, 0, none⟩) a.k c7] (by rfl) rfl (blk_news (n := W7.drew.heap.size) (heap_ext (alloc_ext _ _) (by rw [HOR.out]; exact heap_alloc_new _ _))) (one_slice _ _ _) (by unfold maxLen; omega) (by omega) (hOb).ext.size ?_
                    intro v8 w8 hown8 hg8 hb8
                    have hp8 : w8.ownsRow W2.heap.size 31 1 v8 (vsr.length + 1) (vsr ++ [.slice (some ⟨g7, 0, none⟩) a.k c7]) := by rw [HVL.out]; exact hown8
                    have hO8 := (hOb).push hg8 hp8 hb8
                    obtain ⟨g8, c8, rfl⟩ := ownsRow_pos hown8 (by omega)
                    have hSk : Sb b5 (.slice Arr s crr) (.slice Aac s cac) w8 := ⟨cell_of_blk ((hO8).get 2 rfl).2 1 rfl, cell_of_blk ((hO8).get 2 rfl).2 2 rfl⟩
                    refine hK.out _ _ hSk ?_
                    clear hK K
                    try simp only [Act.put, List.setIfInBounds_toArray, List.set_cons_zero, List.set_cons_succ]
                    refine wpAnyB_take (i := 10) (v := ?_) rfl (by kernel_rfl) (by kernel_rfl) (by kernel_rfl) (by kernel_rfl) (fun _ _ _ h => h) (Or.inl ⟨by rfl, ?_⟩) hSk ?_
                    rotate_left
                    · (intro w hSw; obtain ⟨s1, s2⟩ := hSw; go_simp; first | done | with_reducible rfl)
                    try simp only [Act.put, List.setIfInBounds_toArray, List.set_cons_zero, List.set_cons_succ]
                    refine wpAnyB_ready (rs := [9]) (by kernel_rfl) (by simp) (AllB.cons rfl (fun K hK => ?_) AllB.nil)
                    have hnb := (hO8.get 3 rfl).2
                    rw [HOB.out] at hnb
                    refine step_append_own2 rfl _ _ 26 rfl W2.heap.size 4 i4 (.bool false) 1 1 Tryd.underlying26 hi4 hz4 hs4 hb4' rfl (by decide) (.slice Aac s cac) s ((AC.take s).map Value.bool) (by rfl) ((hO8).get 1 rfl) ⟨_, 0, none⟩ 1 1 [.bool B] (by rfl) rfl (blk_news hnb) (one_bool _) (by unfold maxLen; omega) (by omega) (hO8).ext.size ?_
                    intro v9 w9 hown9 hg9 hb9
                    obtain ⟨g9, c9, rfl⟩ := ownsRow_pos hown9 (by omega)
                    have hO9 := (hO8).app 1 rfl hg9 hown9 hb9
                    have hSk : Sb b5 (.slice Arr s crr) (.slice Aac s cac) w9 := ⟨cell_of_blk ((hO9).get 2 rfl).2 1 rfl, cell_of_blk ((hO9).get 2 rfl).2 2 rfl⟩
                    refine hK.out _ _ hSk ?_
                    clear hK K
                    try simp only [Act.put, List.setIfInBounds_toArray, List.set_cons_zero, List.set_cons_succ]
                    have hO9 := OwnL.front (L := [_, _, _]) hO9
                    have hO9 : OwnL W2 w9 [.rows 31 3 1 (.slice (some ⟨g8, 0, none⟩) (s + 1) c8) (vsr ++ [.slice (some ⟨g7, 0, none⟩) a.k c7]) ((RP.take (s + 1)).map iRow), .row 4 1 (.slice (some ⟨g9, 0, none⟩) (s + 1) c9) (s + 1) ((AC.take (s + 1)).map Value.bool), .blk b5 (.cells #[.int .i64 (a.k : Int), .slice Arr s crr, .slice Aac s cac] 28 (0, 0))] := by
                      rw [HRS.out, HBS.out]; exact hO9
                    have f9 := free_of_blk (hO9.get 2 rfl).2
                    have d9 := cell_of_blk (hO9.get 2 rfl).2 1 (u := .slice Arr s crr) rfl
                    have d9' := cell_of_blk (hO9.get 2 rfl).2 2 (u := .slice Aac s cac) rfl
                    refine wpAnyB_tail rfl rfl (by decide) (by kernel_rfl) ?_
                    have hO10 := (hO9.put 2 rfl 1 (.slice (some ⟨g8, 0, none⟩) (s + 1) c8)).put 2 rfl 2 (.slice (some ⟨g9, 0, none⟩) (s + 1) c9)
                    have HO10 := Lib.hid hO10
                    clear hO10 hO9
                    go_wp2
                    exact ⟨⟨s + 1, _, _, _, by go_num, by omega, HO10.out⟩, by simp [intOf]; omega⟩
                · skip
                  go_simp
                  rw [← HOB.out]
                  have hS1 := Sb.ext hS0 (alloc_ext W7.drew oB)
                  refine hK.out _ _ hS1 ?_
                  clear hK K
                  try simp only [Act.put, List.setIfInBounds_toArray, List.set_cons_zero, List.set_cons_succ]
                  have hOc := ((HO7.out.trans (drew_ext _)).add (alloc_ext _ oB) (A := .blk W7.drew.heap.size oB) ⟨Nat.le_refl _, heap_alloc_new _ _⟩).last
                  refine wpAnyB_ready (rs := [3]) (by kernel_rfl) (by simp) (AllB.cons rfl (fun K hK => ?_) AllB.nil)
                  go_simp
                  rw [← HOR.out]
                  have hS2 := Sb.ext hS1 (alloc_ext (W7.drew.alloc oB) oR)
                  refine hK.out _ _ hS2 ?_
                  clear hK K
                  try simp only [Act.put, List.setIfInBounds_toArray, List.set_cons_zero, List.set_cons_succ]
                  have hOd := hOc.trans (alloc_ext _ oR)
                  refine wpAnyB_ready (rs := [4]) (by kernel_rfl) (by simp) (AllB.cons rfl (fun K hK => ?_) AllB.nil)
                  have hnr : ((W7.drew.alloc oB).alloc oR).heap[W7.heap.size + 1]? = some oR := by have := heap_alloc_new (W7.drew.alloc oB) oR; simpa using this
                  have hrw : OwnRows _ W2.heap.size 31 3 1 (.slice Arr s crr) vsr ((RP.take s).map iRow) := (hOd).get 1 rfl
                  have hrwo := hrw.own
                  rw [HVL.out] at hrwo
                  refine step_append_own2 rfl _ _ 25 rfl W2.heap.size 31 i31 (.slice none 0 0) 1 24 Tryd.underlying25 hi31 hz31 hs31 hb31 rfl (by decide) (.slice Arr s crr) s vsr (by rfl) hrwo ⟨_, 0, none⟩ 1 1 [.slice (some ⟨g7, 0, none⟩) a.k c7] (by rfl) rfl (blk_news (n := W7.heap.size + 1) (hnr.trans (by rw [HOR.out]))) (one_slice _ _ _) (by unfold maxLen; omega) (by omega) (hOd).ext.size ?_
                  intro v8 w8 hown8 hg8 hb8
                  have hp8 : w8.ownsRow W2.heap.size 31 1 v8 (vsr.length + 1) (vsr ++ [.slice (some ⟨g7, 0, none⟩) a.k c7]) := by rw [HVL.out]; exact hown8
                  have hO8 := (hOd).push hg8 hp8 hb8
                  obtain ⟨g8, c8, rfl⟩ := ownsRow_pos hown8 (by omega)
                  have hSk : Sb b5 (.slice Arr s crr) (.slice Aac s cac) w8 := ⟨cell_of_blk ((hO8).get 2 rfl).2 1 rfl, cell_of_blk ((hO8).get 2 rfl).2 2 rfl⟩
                  refine hK.out _ _ hSk ?_
                  clear hK K
                  try simp only [Act.put, List.setIfInBounds_toArray, List.set_cons_zero, List.set_cons_succ]
                  refine wpAnyB_take (i := 10) (v := ?_) rfl (by kernel_rfl) (by kernel_rfl) (by kernel_rfl) (by kernel_rfl) (fun _ _ _ h => h) (Or.inl ⟨by rfl, ?_⟩) hSk ?_
                  rotate_left
                  · (intro w hSw; obtain ⟨s1, s2⟩ := hSw; go_simp; first | done | with_reducible rfl)
                  try simp only [Act.put, List.setIfInBounds_toArray, List.set_cons_zero, List.set_cons_succ]
                  refine wpAnyB_ready (rs := [9]) (by kernel_rfl) (by simp) (AllB.cons rfl (fun K hK => ?_) AllB.nil)
                  have hnb := (hO8.get 3 rfl).2
                  rw [HOB.out] at hnb
                  refine step_append_own2 rfl _ _ 26 rfl W2.heap.size 4 i4 (.bool false) 1 1 Tryd.underlying26 hi4 hz4 hs4 hb4' rfl (by decide) (.slice Aac s cac) s ((AC.take s).map Value.bool) (by rfl) ((hO8).get 1 rfl) ⟨_, 0, none⟩ 1 1 [.bool B] (by rfl) rfl (blk_news hnb) (one_bool _) (by unfold maxLen; omega) (by omega) (hO8).ext.size ?_
                  intro v9 w9 hown9 hg9 hb9
                  obtain ⟨g9, c9, rfl⟩ := ownsRow_pos hown9 (by omega)
                  have hO9 := (hO8).app 1 rfl hg9 hown9 hb9
                  have hSk : Sb b5 (.slice Arr s crr) (.slice Aac s cac) w9 := ⟨cell_of_blk ((hO9).get 2 rfl).2 1 rfl, cell_of_blk ((hO9).get 2 rfl).2 2 rfl⟩
                  refine hK.out _ _ hSk ?_
                  clear hK K
                  try simp only [Act.put, List.setIfInBounds_toArray, List.set_cons_zero, List.set_cons_succ]
                  have hO9 := OwnL.front (L := [_, _, _]) hO9
                  have hO9 : OwnL W2 w9 [.rows 31 3 1 (.slice (some ⟨g8, 0, none⟩) (s + 1) c8) (vsr ++ [.slice (some ⟨g7, 0, none⟩) a.k c7]) ((RP.take (s + 1)).map iRow), .row 4 1 (.slice (some ⟨g9, 0, none⟩) (s + 1) c9) (s + 1) ((AC.take (s + 1)).map Value.bool), .blk b5 (.cells #[.int .i64 (a.k : Int), .slice Arr s crr, .slice Aac s cac] 28 (0, 0))] := by
                    rw [HRS.out, HBS.out]; exact hO9
                  have f9 := free_of_blk (hO9.get 2 rfl).2
                  have d9 := cell_of_blk (hO9.get 2 rfl).2 1 (u := .slice Arr s crr) rfl
                  have d9' := cell_of_blk (hO9.get 2 rfl).2 2 (u := .slice Aac s cac) rfl
                  refine wpAnyB_tail rfl rfl (by decide) (by kernel_rfl) ?_
                  have hO10 := (hO9.put 2 rfl 1 (.slice (some ⟨g8, 0, none⟩) (s + 1) c8)).put 2 rfl 2 (.slice (some ⟨g9, 0, none⟩) (s + 1) c9)
                  have HO10 := Lib.hid hO10
                  clear hO10 hO9
                  go_wp2
                  exact ⟨⟨s + 1, _, _, _, by go_num, by omega, HO10.out⟩, by simp [intOf]; omega⟩
    · have hse : s = L.length := by omega
      subst hse
      have hrows : OwnRows W4 W2.heap.size 31 3 1 rowsv vsr ((RP.take L.length).map iRow) := hO.get 0 rfl
      have hvl : vsr.length = L.length := by have := hrows.len; rw [List.length_map, List.length_take, HRP.out.1] at this; omega
      have hown := hrows.own
      rw [hvl] at hown
      obtain ⟨gR, cR, rfl⟩ := ownsRow_pos hown (by omega)
      have hac2 : W4.ownsRow W2.heap.size 4 1 accv L.length ((AC.take L.length).map Value.bool) := hO.get 1 rfl
      obtain ⟨gA, cA, rfl⟩ := ownsRow_pos hac2 (by omega)
      rw [List.take_of_length_le (Nat.le_of_eq HRP.out.1)] at hrows
      rw [List.take_of_length_le (Nat.le_of_eq HAC.out.1)] at hac2
      have hgood := HPG.out
      rw [HPR.out] at hgood
      obtain ⟨c9, hbo⟩ := bools_of_owns hac2 HAC.out.1 (by unfold lenMax; omega)
      have hD : DfaV W4 (.agg #[.int .i64 (a.k : Int), .slice (some ⟨gR, 0, none⟩) L.length cR, .slice (some ⟨gA, 0, none⟩) L.length cA]) ⟨a.k, RP, AC⟩ := ⟨_, cR, _, c9, rfl, listsC_of_own hrows HRP.out.1 (by unfold lenMax; omega) (fun r hr => by
        have h1 := hgood.len r hr
        have h1 : (r.length : Int) = (a.k : Int) := h1
        unfold lenMax; omega), hbo⟩
      have d0 := cell_of_blk (hO.get 2 rfl).2 0 (u := .int .i64 (a.k : Int)) rfl
      have d1 := cell_of_blk (hO.get 2 rfl).2 1 (u := .slice (some ⟨gR, 0, none⟩) L.length cR) rfl
      have d2 := cell_of_blk (hO.get 2 rfl).2 2 (u := .slice (some ⟨gA, 0, none⟩) L.length cA) rfl
      have hmn := min_any W4 _ _ hD hgood
      unfold MinP at hmn
      have hE4 := hE1.trans (e2.trans hO.ext)
      have hb := kb W4 (e2.trans hO.ext)
      have hlt6 := lt_of_block hb
      have HE := Lib.hid (And.intro hE4 hlt6)
      have hb' := fun w' (h : Ext W4 w') => heap_ext h hb
      clear hO hrows hvl hown hac2 hD hbo hE4 hgood hb hlt6 k0 k1 k2 l0 l1 l2 kb
      go_wp2_with (first
        | ((with_reducible refine hmn.mono ?_); rintro e w5 ⟨v, q, rfl, hfar, hcan, hlike, hsy, hqn, e5⟩; obtain ⟨rvq, crq, avq, caq, rfl, ⟨Arq, vrq, rfl, -⟩, ⟨Aaq, rfl, -⟩⟩ := id (hfar w5 (fun _ _ _ => rfl)); have hb5 := hb' w5 e5)
        | (with_reducible refine wpList_store_blk _ rfl 28 _ _ rfl b6 28 _ _ rfl rfl hb5 (by kernel_rfl) (by kernel_rfl) (by kernel_rfl) ?_; intro w8 h8 g8))
      refine bodyPost_ret (results_cell_row rfl _ _ b6 28 _ (0, 0) _ (by simp [Act.put]) h8 Tryd.underlying28 rfl (by kernel_rfl)) rfl ?_
      have hlk : Like (prodD (gK n) a b) 0 q 0 := by rw [HPR.out]; exact hlike
      have hsq : q.sy = a.sy := by rw [hsy]; exact HG.out.1.kk.1
      have hfw := hfar w8 (fun bk h1 h2 => g8.block bk h2 (fun e => by cases e; have := HE.out.2; omega))
      rw [hsy] at hfw
      refine ⟨_, q, rfl, hfw, HFI.out q hcan hlk hsq, Below.grown (HE.out.1.trans e5) g8 (HE.out.1.trans e5).size (fun k hk => by cases hk; exact HB6.out.1)⟩
end Go.Proofs.YthlnmcokgfpgmaaDoor
