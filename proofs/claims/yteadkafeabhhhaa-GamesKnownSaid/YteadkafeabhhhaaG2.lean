/- games.safe, Safe, Ranks; the other player's turns. -/
import Derived.Test.YteadkafeabhhhaaRk1
import Derived.Test.YteadkafeabhhhaaG1
namespace Go.Proofs.Yteadkafeabhhhaa
open Go.RowKit
set_option linter.unusedVariables false
set_option linter.unusedSimpArgs false
attribute [local go_sem] Oper.quietV quietV Oper.gives givesV ext_refl_iff ext_alloc_iff ext_drew_iff ext_drewN_iff

def rankG (m : Mach) (ts ss : List Bool) : List Int := forceL (grOf m ts ss) m.rows.length
def othersL (ts : List Bool) : List Bool := ts.map (!·)
def safeG (g : Game) : List Bool := (rankG g.m (othersL g.ours) g.set).map (· == -1)
theorem rankG_len (m : Mach) (ts ss : List Bool) : (rankG m ts ss).length = m.rows.length := by
  unfold rankG
  have : ∀ k, (forceL (grOf m ts ss) k).length = m.rows.length := fun k => by cases k <;> simp [forceL, force0, grOf]
  exact this _
theorem safeG_len (g : Game) : (safeG g).length = g.m.rows.length := by unfold safeG; rw [List.length_map, rankG_len]
theorem fitB_of_owns {w : World} {base : Nat} {e : TypeId} {xs : List Bool} {n g : Nat} (h : w.ownsRow base e 1 (.slice (some ⟨g, 0, none⟩) n n) n (xs.map .bool)) (hn : xs.length = n) (hl : n ≤ lenMax) : FitB w (.slice (some ⟨g, 0, none⟩) n n) xs := by
  subst hn
  obtain ⟨A, c, hv, hn, hc⟩ := cells_of_owns h
  cases hv
  exact ⟨_, rfl, hc, Nat.le_refl _, hl⟩
def Fine (g : Game) : Prop := Valid g.m ∧ g.ours.length = g.m.rows.length ∧ g.set.length = g.m.rows.length
theorem fine_iff (g : Game) : checkG g = 0 ↔ Fine g := by
  unfold checkG Fine cnt16
  rw [← valid_iff]
  by_cases h : checkM g.m = 0
  · simp [h]
  · simp [h]
/-- A list of truths that is filled from its head. -/
def fillB (f : Nat → Bool) (n k : Nat) : List Value := (List.range n).map (fun i => .bool (if i < k then f i else false))
theorem fillB_zero (f : Nat → Bool) (n : Nat) : List.replicate n (Value.bool false) = fillB f n 0 := by
  unfold fillB; apply List.ext_getElem <;> simp
theorem fillB_set (f : Nat → Bool) (n k : Nat) : (fillB f n k).set k (.bool (f k)) = fillB f n (k + 1) := by
  have e : Value.bool (f k) = .bool (if k < k + 1 then f k else false) := by rw [if_pos (by omega)]
  rw [e]
  refine map_set_range (fun i => Value.bool (if i < k + 1 then f i else false)) _ n k (fun t ht => ?_)
  by_cases h : t < k
  · rw [if_pos h, if_pos (by omega)]
  · rw [if_neg h, if_neg (by omega)]
theorem fillB_get (f : Nat → Bool) {n k i : Nat} (h : i < n) : (fillB f n k)[i]? = some (.bool (if i < k then f i else false)) := by unfold fillB; simp [h]
theorem fillB_end {xs : List Bool} {n : Nat} (h : xs.length = n) (f : Nat → Bool) (hf : ∀ i, i < n → xs.getD i false = f i) : fillB f n n = xs.map .bool := by
  unfold fillB
  apply List.ext_getElem
  · simp [h]
  · intro i h1 h2
    have hi : i < n := by simpa using h1
    have := hf i hi
    simp only [List.getElem_map, List.getElem_range, if_pos hi]
    rw [← this]; simp [List.getD, h, hi]


set_option maxRecDepth 100000 in
set_option maxHeartbeats 2000000 in
theorem safe_any (w : World) (gv : Value) (g : Game) (hg : GameV w gv g) (hF : Fine g) : Calls Try.prog 33 #[gv] w fun e w' => (∃ v, e = .returned v ∧ OwnB w w' v (safeG g)) ∧ Ext w w' := by
  obtain ⟨rv, cr, ov, co, sv, cs, rfl, hr, ho, hs⟩ := hg
  obtain ⟨Ar, vr, rfl, _, _, _, _, hrm⟩ := id hr
  obtain ⟨Ao, rfl, hoc, _, hom⟩ := id ho
  obtain ⟨As, rfl, hsc, _, hsm⟩ := id hs
  unfold lenMax at hrm hom hsm
  obtain ⟨hV, hol, hsl⟩ := hF
  have hsz := hV.size
  obtain ⟨n, hn⟩ : ∃ n, n = g.m.rows.length := ⟨_, rfl⟩
  rw [← hn] at hol hsl hsz hrm hr ⊢
  rw [hol] at hom ho ⊢
  rw [hsl] at hsm hs ⊢
  have HN := Lib.hid hn
  have HOL := Lib.hid hol
  have HSL := Lib.hid hsl
  have HV := Lib.hid hV
  clear hV hol hsl hn
  have hn64 : n ≤ 64 := hsz.2
  have hn1 : 1 ≤ n := hsz.1
  have hbo : ∀ j, (hj : j < n) → ∃ b o, Ao = some ⟨b, o, none⟩ ∧ ∀ w', Ext w w' → w'.cell? ⟨b, o + j, none⟩ = some (.bool (g.ours.getD j false)) := fun j hj => by
    have hjo : j < g.ours.length := by rw [HOL.out]; exact hj
    obtain ⟨b, o, rfl, _, h⟩ := hoc.at_bool hjo
    exact ⟨b, o, rfl, fun w' hw => by rw [hw.cell h]; simp [List.getD, hjo]⟩
  have HBO := Lib.hid hbo
  clear hbo
  have hmb := mk_bools n (by omega)
  go_enter Try.func33, Try.ntmps33
  go_upto_region 1 with fail
  refine wp_named ?_
  intro W1 hW1
  have hE1 : Ext w W1 := by rw [hW1]; exact (Ext.refl _).alloc _
  have k0 : ∀ w', Ext W1 w' → w'.cell? ⟨w.heap.size, 0, none⟩ = some (.int .i64 g.m.ins) := fun w' h => h.cell (by rw [hW1]; simp [go_sem])
  have k1 : ∀ w', Ext W1 w' → w'.cell? ⟨w.heap.size, 1, none⟩ = some (.int .i64 g.m.outs) := fun w' h => h.cell (by rw [hW1]; simp [go_sem])
  have k2 : ∀ w', Ext W1 w' → w'.cell? ⟨w.heap.size, 2, none⟩ = some (.slice Ar n cr) := fun w' h => h.cell (by rw [hW1]; simp [go_sem])
  have k3 : ∀ w', Ext W1 w' → w'.cell? ⟨w.heap.size, 3, none⟩ = some (.slice Ao n co) := fun w' h => h.cell (by rw [hW1]; simp [go_sem])
  have k4 : ∀ w', Ext W1 w' → w'.cell? ⟨w.heap.size, 4, none⟩ = some (.slice As n cs) := fun w' h => h.cell (by rw [hW1]; simp [go_sem])
  clear hW1
  have hE0 := Ext.refl W1
  go_upto_region 2 with fail
  refine wp_named ?_
  intro W2 hW2
  have hO2 : OwnL W1 W2 [.row 4 1 (.slice (some ⟨W1.heap.size, 0, none⟩) n n) n (fillB (fun i => !(g.ours.getD i false)) n 0)] := by
    rw [hW2, ← fillB_zero]
    exact (OwnL.nil (Ext.refl W1)).add (alloc_ext _ _) (A := .row 4 1 _ n _) (own_new W1 (.bool false) 4 n (by omega))
  clear hW2
  generalize W1.heap.size = g3 at *
  have hE2 := hO2.ext
  go_upto_block 0 with fail
  go_cut [] (fun wx => OwnL W1 wx [.row 4 1 (.slice (some ⟨g3, 0, none⟩) n n) n (fillB (fun i => !(g.ours.getD i false)) n n)])
  case first =>
    --[s1
    go_wp2
    go_loopw [16] (fun i wr => ∃ k : Nat, k ≤ n ∧ i = .int .i64 k ∧ Ext W1 wr ∧ OwnL W1 wr [.row 4 1 (.slice (some ⟨g3, 0, none⟩) n n) n (fillB (fun i => !(g.ours.getD i false)) n k)]) (fun i _ => n - (intOf i).toNat)
    case atStart => exact ⟨0, by omega, rfl, hE2, hO2⟩
    case round =>
      clear hO2 hE2
      obtain ⟨k, hk, rfl, hE, hO⟩ := hrel
      obtain ⟨W3, hW3⟩ : ∃ W, W = wr := ⟨_, rfl⟩; subst hW3
      by_cases hlt : k < n
      · obtain ⟨b, o, rfl, c0⟩ := HBO.out k hlt
        have c1 := c0 W3 (hE1.trans hE)
        clear c0
        have c2 := cell_own hO 0 rfl (fillB_get _ hlt)
        have c3 := free_own (e := 4) hO 0 rfl k
        have hst := hO.store 0 rfl k (.bool (!(g.ours.getD k false)))
        have hOn : OwnL W1 (W3.setCell ⟨g3, k, none⟩ (.bool (!(g.ours.getD k false)))) [.row 4 1 (.slice (some ⟨g3, 0, none⟩) n n) n (fillB (fun i => !(g.ours.getD i false)) n (k + 1))] := by
          rw [← fillB_set]; exact hst
        have HON := Lib.hid hOn
        clear hst hOn
        generalize g.ours.getD k false = x at *
        go_wp2
        go_roundw
        case rel => exact ⟨k + 1, by omega, by go_num, HON.out.ext, HON.out⟩
        case measure => simp [intOf]; omega
      · have hke : k = n := by omega
        subst hke
        go_wp2
        go_meet
        exact hO
    --]s1
  case rest =>
    clear hO2 hE2
    rw [fillB_end (xs := othersL g.ours) (by unfold othersL; rw [List.length_map, HOL.out]) (fun i => !(g.ours.getD i false)) (fun i hi => by unfold othersL; simp [List.getD, show i < g.ours.length by rw [HOL.out]; exact hi])] at hcut
    have hO := hcut
    clear hcut
    have hE := hO.ext
    go_upto_region 8 with fail
    refine wp_named ?_
    intro W2 hW2
    have hO2 : OwnL W1 W2 [.row 4 1 (.slice (some ⟨wc.heap.size, 0, none⟩) n n) n (fillB (fun i => (safeG g).getD i false) n 0), .row 4 1 (.slice (some ⟨g3, 0, none⟩) n n) n ((othersL g.ours).map .bool)] := by
      rw [hW2, ← fillB_zero]
      exact hO.add (alloc_ext _ _) (A := .row 4 1 _ n _) (own_new wc (.bool false) 4 n (by omega))
    clear hW2 hO hE
    generalize wc.heap.size = g6 at *
    have hE2 := hO2.ext
    have hrk := ranks_any W2 (.agg #[.int .i64 g.m.ins, .int .i64 g.m.outs, .slice Ar n cr]) (.slice (some ⟨g3, 0, none⟩) n n) (.slice As n cs) g.m ⟨_, cr, rfl, hr.ext (hE1.trans hE2)⟩ HV.out (othersL g.ours) g.set n cs
      (by
        have := fitB_of_owns (xs := othersL g.ours) (n := n) (hO2.get 1 rfl) (by unfold othersL; rw [List.length_map, HOL.out]) (by unfold lenMax; omega)
        have h1 : (othersL g.ours).length = n := by unfold othersL; rw [List.length_map, HOL.out]
        unfold FitB at this
        rw [h1] at this; exact this) (hs.ext (hE1.trans hE2)) (by unfold othersL; rw [List.length_map, HOL.out]; exact HN.out) (by rw [HSL.out]; exact HN.out)
    have RL : Hid ((forceL (grOf g.m (othersL g.ours) g.set) g.m.rows.length).length = n) := by show _ = _; rw [HN.out]; exact rankG_len _ _ _
    go_upto_block 2 with (go_at_call 34; refine hrk.mono ?_; rintro e W4 ⟨⟨rv4, rfl, A4, hv4, hf4⟩, hE4⟩; rw [RL.out] at hv4; subst hv4)
    have hO4 : OwnL W1 W4 [.row 3 1 (.slice A4 n n) n ((rankG g.m (othersL g.ours) g.set).map (.int .i64)), .row 4 1 (.slice (some ⟨g6, 0, none⟩) n n) n (fillB (fun i => (safeG g).getD i false) n 0), .row 4 1 (.slice (some ⟨g3, 0, none⟩) n n) n ((othersL g.ours).map .bool)] := by
      have h1 := hO2.add hE4 (A := .row 3 1 (.slice A4 n n) n ((rankG g.m (othersL g.ours) g.set).map (.int .i64))) (by rw [RL.out] at hf4; exact hf4)
      exact h1
    clear hO2 hE2 hf4 hE4 hrk
    have hE4 := hO4.ext
    have hsg : ∀ i, i < n → (safeG g).getD i false = ((rankG g.m (othersL g.ours) g.set).getD i 0 == -1) := fun i hi => by
      have hj2 : i < (rankG g.m (othersL g.ours) g.set).length := by rw [rankG_len, ← HN.out]; exact hi
      unfold safeG; simp [List.getD, hj2]
    have HSG := Lib.hid hsg
    have hgetR : ∀ i, i < n → ((rankG g.m (othersL g.ours) g.set).map (Value.int .i64))[i]? = some (.int .i64 ((rankG g.m (othersL g.ours) g.set).getD i 0)) := fun i hi => by
      have hj2 : i < (rankG g.m (othersL g.ours) g.set).length := by rw [rankG_len, ← HN.out]; exact hi
      simp [List.getD, hj2]
    have HGR := Lib.hid hgetR
    clear hsg hgetR
    obtain ⟨g4, rfl⟩ : ∃ g4, A4 = some ⟨g4, 0, none⟩ := by
      obtain ⟨g4, c4, h⟩ := ownsRow_pos (W := W4) (hO4.get 0 rfl) (by omega)
      exact ⟨g4, by injection h⟩
    go_wp2
    go_loopw [37] (fun i wr => ∃ k : Nat, k ≤ n ∧ i = .int .i64 k ∧ Ext W1 wr ∧ OwnL W1 wr [.row 3 1 (.slice (some ⟨g4, 0, none⟩) n n) n ((rankG g.m (othersL g.ours) g.set).map (.int .i64)), .row 4 1 (.slice (some ⟨g6, 0, none⟩) n n) n (fillB (fun i => (safeG g).getD i false) n k), .row 4 1 (.slice (some ⟨g3, 0, none⟩) n n) n ((othersL g.ours).map .bool)]) (fun i _ => n - (intOf i).toNat)
    case atStart => exact ⟨0, by omega, rfl, hE4, hO4⟩
    case round =>
      clear hO4 hE4
      obtain ⟨k, hk, rfl, hE, hO⟩ := hrel
      obtain ⟨W3, hW3⟩ : ∃ W, W = wr := ⟨_, rfl⟩; subst hW3
      by_cases hlt : k < n
      · have c1 := cell_own hO 0 rfl (HGR.out k hlt)
        have c2 := cell_own hO 1 rfl (fillB_get _ hlt)
        have c3 := free_own (e := 4) hO 1 rfl k
        have hst := hO.store 1 rfl k (.bool ((safeG g).getD k false))
        have hOn : OwnL W1 (W3.setCell ⟨g6, k, none⟩ (.bool ((safeG g).getD k false))) [.row 3 1 (.slice (some ⟨g4, 0, none⟩) n n) n ((rankG g.m (othersL g.ours) g.set).map (.int .i64)), .row 4 1 (.slice (some ⟨g6, 0, none⟩) n n) n (fillB (fun i => (safeG g).getD i false) n (k + 1)), .row 4 1 (.slice (some ⟨g3, 0, none⟩) n n) n ((othersL g.ours).map .bool)] := by
          rw [← fillB_set]; exact hst
        rw [HSG.out k hlt] at hOn
        have HON := Lib.hid hOn
        clear hst hOn
        generalize (rankG g.m (othersL g.ours) g.set).getD k 0 = x at *
        go_wp2
        go_roundw
        case rel => exact ⟨k + 1, by omega, by go_num, HON.out.ext, HON.out⟩
        case measure => simp [intOf]; omega
      · have hke : k = n := by omega
        subst hke
        have hL : (safeG g).length = k := by rw [safeG_len, ← HN.out]
        have hfe := fillB_end hL (fun i => (safeG g).getD i false) (fun i _ => rfl)
        rw [hfe] at hO
        have HL := Lib.hid hL
        clear hL hfe
        go_wp2
        go_ret
        refine ⟨⟨.slice (some ⟨g6, 0, none⟩) k k, rfl, some ⟨g6, 0, none⟩, by rw [HL.out], ?_⟩, hE1.trans hE⟩
        rw [HL.out]
        exact own_mono (hO.get 1 rfl) hE1.size
def SafeP (g : Game) (w : World) (e : Ending) (w' : World) : Prop :=
  (if checkG g = 0 then ∃ v, e = .returned (.tuple #[v, .int .i64 0]) ∧ OwnB w w' v (safeG g) else e = .returned (.tuple #[.slice none 0 0, .int .i64 (checkG g)])) ∧ Ext w w'
def RanksP (g : Game) (w : World) (e : Ending) (w' : World) : Prop :=
  (if checkG g = 0 then ∃ v, e = .returned (.tuple #[v, .int .i64 0]) ∧ OwnI w w' v (rankG g.m g.ours g.set) else e = .returned (.tuple #[.slice none 0 0, .int .i64 (checkG g)])) ∧ Ext w w'

set_option maxHeartbeats 2000000 in
theorem Safe_any (w : World) (gv : Value) (g : Game) (hg : GameV w gv g) : Calls Try.prog 10 #[gv] w (SafeP g w) := by
  have hg0 := hg
  obtain ⟨rv, cr, ov, co, sv, cs, rfl, hr, ho, hs⟩ := hg
  obtain ⟨Ar, vr, rfl, _, _, _, _, hrm⟩ := id hr
  obtain ⟨Ao, rfl, hoc, _, hom⟩ := id ho
  obtain ⟨As, rfl, hsc, _, hsm⟩ := id hs
  unfold lenMax at hrm hom hsm
  go_enter Try.func10, Try.ntmps10
  go_upto_region 1 with fail
  refine wp_named ?_
  intro W1 hW1
  have hE1 : Ext w W1 := by rw [hW1]; exact (Ext.refl _).alloc _
  have k0 : ∀ w', Ext W1 w' → w'.cell? ⟨w.heap.size, 0, none⟩ = some (.int .i64 g.m.ins) := fun w' h => h.cell (by rw [hW1]; simp [go_sem])
  have k1 : ∀ w', Ext W1 w' → w'.cell? ⟨w.heap.size, 1, none⟩ = some (.int .i64 g.m.outs) := fun w' h => h.cell (by rw [hW1]; simp [go_sem])
  have k2 : ∀ w', Ext W1 w' → w'.cell? ⟨w.heap.size, 2, none⟩ = some (.slice Ar g.m.rows.length cr) := fun w' h => h.cell (by rw [hW1]; simp [go_sem])
  have k3 : ∀ w', Ext W1 w' → w'.cell? ⟨w.heap.size, 3, none⟩ = some (.slice Ao g.ours.length co) := fun w' h => h.cell (by rw [hW1]; simp [go_sem])
  have k4 : ∀ w', Ext W1 w' → w'.cell? ⟨w.heap.size, 4, none⟩ = some (.slice As g.set.length cs) := fun w' h => h.cell (by rw [hW1]; simp [go_sem])
  clear hW1
  have hE0 := Ext.refl W1
  have hck := fun w' (h : Ext W1 w') => gcheck_any w' _ g (hg0.ext (hE1.trans h))
  have hsf := fun w' (h : Ext W1 w') (hF : Fine g) => safe_any w' _ g (hg0.ext (hE1.trans h)) hF
  clear hg0
  by_cases hz : checkG g = 0
  · have hF := (fine_iff g).1 hz
    have HZ := Lib.hid hz
    have hck0 := hck W1 hE0
    rw [hz] at hck0
    clear hz hck
    go_wp2_with (first | ((with_reducible refine hck0.mono ?_); rintro e w2 ⟨rfl, hE2⟩) | ((with_reducible refine (hsf _ hE2 hF).mono ?_); rintro e w3 ⟨⟨v, rfl, hO3⟩, hE3⟩))
    go_ret2
    refine ⟨?_, (hE1.trans hE2).trans hE3⟩
    rw [if_pos HZ.out]
    exact ⟨_, rfl, hO3.mono (hE1.trans hE2)⟩
  · have hz' : (checkG g != 0) = true := by simpa using hz
    have HZ := Lib.hid hz
    have hck0 := hck W1 hE0
    clear hz hck
    go_wp2_with ((with_reducible refine hck0.mono ?_); rintro e w2 ⟨rfl, hE2⟩)
    go_ret2
    refine ⟨?_, hE1.trans hE2⟩
    rw [if_neg HZ.out]; rfl

set_option maxHeartbeats 2000000 in
theorem Ranks_any (w : World) (gv : Value) (g : Game) (hg : GameV w gv g) : Calls Try.prog 11 #[gv] w (RanksP g w) := by
  have hg0 := hg
  obtain ⟨rv, cr, ov, co, sv, cs, rfl, hr, ho, hs⟩ := hg
  obtain ⟨Ar, vr, rfl, _, _, _, _, hrm⟩ := id hr
  obtain ⟨Ao, rfl, hoc, _, hom⟩ := id ho
  obtain ⟨As, rfl, hsc, _, hsm⟩ := id hs
  unfold lenMax at hrm hom hsm
  go_enter Try.func11, Try.ntmps11
  go_upto_region 1 with fail
  refine wp_named ?_
  intro W1 hW1
  have hE1 : Ext w W1 := by rw [hW1]; exact (Ext.refl _).alloc _
  have k0 : ∀ w', Ext W1 w' → w'.cell? ⟨w.heap.size, 0, none⟩ = some (.int .i64 g.m.ins) := fun w' h => h.cell (by rw [hW1]; simp [go_sem])
  have k1 : ∀ w', Ext W1 w' → w'.cell? ⟨w.heap.size, 1, none⟩ = some (.int .i64 g.m.outs) := fun w' h => h.cell (by rw [hW1]; simp [go_sem])
  have k2 : ∀ w', Ext W1 w' → w'.cell? ⟨w.heap.size, 2, none⟩ = some (.slice Ar g.m.rows.length cr) := fun w' h => h.cell (by rw [hW1]; simp [go_sem])
  have k3 : ∀ w', Ext W1 w' → w'.cell? ⟨w.heap.size, 3, none⟩ = some (.slice Ao g.ours.length co) := fun w' h => h.cell (by rw [hW1]; simp [go_sem])
  have k4 : ∀ w', Ext W1 w' → w'.cell? ⟨w.heap.size, 4, none⟩ = some (.slice As g.set.length cs) := fun w' h => h.cell (by rw [hW1]; simp [go_sem])
  clear hW1
  have hE0 := Ext.refl W1
  have hck := fun w' (h : Ext W1 w') => gcheck_any w' _ g (hg0.ext (hE1.trans h))
  have hsf := fun w' (h : Ext W1 w') (hF : Fine g) => ranks_any w' (.agg #[.int .i64 g.m.ins, .int .i64 g.m.outs, .slice Ar g.m.rows.length cr]) _ _ g.m ⟨_, cr, rfl, hr.ext (hE1.trans h)⟩ hF.1 g.ours g.set co cs (ho.ext (hE1.trans h)) (hs.ext (hE1.trans h)) hF.2.1 hF.2.2
  clear hg0
  by_cases hz : checkG g = 0
  · have hF := (fine_iff g).1 hz
    have HZ := Lib.hid hz
    have hck0 := hck W1 hE0
    rw [hz] at hck0
    have HF := Lib.hid hF
    clear hz hck hF
    go_wp2_with (first | ((with_reducible refine hck0.mono ?_); rintro e w2 ⟨rfl, hE2⟩) | ((with_reducible refine (hsf _ hE2 HF.out).mono ?_); rintro e w3 ⟨⟨v, rfl, hO3⟩, hE3⟩))
    go_ret2
    refine ⟨?_, (hE1.trans hE2).trans hE3⟩
    rw [if_pos HZ.out]
    exact ⟨_, rfl, hO3.mono (hE1.trans hE2)⟩
  · have hz' : (checkG g != 0) = true := by simpa using hz
    have HZ := Lib.hid hz
    have hck0 := hck W1 hE0
    clear hz hck
    go_wp2_with ((with_reducible refine hck0.mono ?_); rintro e w2 ⟨rfl, hE2⟩)
    go_ret2
    refine ⟨?_, hE1.trans hE2⟩
    rw [if_neg HZ.out]; rfl
#print axioms Ranks_any
end Go.Proofs.Yteadkafeabhhhaa
