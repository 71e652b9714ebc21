/- words.Check 43, gauntletref23.Word 28. extends.Run 17. Maps from spots to numbers. What a step keeps to; what Unfold makes. Rows of edges that a call owns. extends.Unfold: what its regions 4 and 21 own while their operations come up. extends.Unfold: region 21; loads out of a row of spots. A literal of one spot. extends.Unfold: the configurations that it answers. -/
import Derived.Test.YtggffdkgfgdaoaaDoorGF
import Derived.Test.YtggffdkgfgdaoaaDoorGA
import Derived.Test.YtggffdkgfgdaoaaDoorGC
namespace Go.Proofs.YtggffdkgfgdaoaaDoor
open Go.RowKit Go.Maps
set_option linter.unusedVariables false
set_option linter.unusedSimpArgs false
attribute [local go_sem] Oper.quietV quietV Oper.gives givesV ext_refl_iff ext_alloc_iff ext_drew_iff ext_drewN_iff
def badW (sy x : Int) : Bool := decide (x < 0) || decide (sy ≤ x)
def wordC (xs : List Int) (sy : Int) : Int := if 256 < xs.length then 3 else if xs.any (badW sy) then 1 else 0
theorem any_take {α : Type} {p : α → Bool} {xs : List α} {k : Nat} (hk : k < xs.length) : (xs.take (k + 1)).any p = ((xs.take k).any p || p xs[k]) := by
  rw [List.take_succ_eq_append_getElem hk, List.any_append]; simp
theorem any_of_get {α : Type} {p : α → Bool} {xs : List α} {k : Nat} (hk : k < xs.length) (h : p xs[k] = true) : xs.any p = true := List.any_eq_true.2 ⟨_, List.getElem_mem hk, h⟩
theorem any_full {α : Type} {p : α → Bool} {xs : List α} {k : Nat} (hk : xs.length ≤ k) (h : (xs.take k).any p = false) : xs.any p = false := by rwa [List.take_of_length_le hk] at h

set_option maxHeartbeats 800000 in
theorem refWord_any (w : World) (v : Value) (xs : List Int) (c : Nat) (sy : Int) (hv : IntsC w v xs c) : Calls Tryd.prog 28 #[v, .int .i64 sy] w fun e w' => e = .returned (.int .i64 (wordC xs sy)) ∧ w = w' := by
  obtain ⟨A, rfl, ha, _, hx⟩ := hv
  unfold lenMax at hx
  by_cases hl : 256 < xs.length
  · rw [show wordC xs sy = 3 from if_pos hl]
    go_enter Tryd.func28, Tryd.ntmps28
    go_wp2
    go_ret
    exact ⟨rfl, rfl⟩
  · have HW : Hid (wordC xs sy = if xs.any (badW sy) then 1 else 0) := if_neg hl
    go_enter Tryd.func28, Tryd.ntmps28
    go_wp2
    go_loop [5] (fun i => ∃ k : Nat, k ≤ xs.length ∧ i = .int .i64 k ∧ Hid ((xs.take k).any (badW sy) = false)) (fun i => xs.length - (intOf i).toNat)
    case atStart => exact ⟨0, by omega, rfl, Lib.hid (by simp)⟩
    case round =>
      obtain ⟨k, hk, rfl, HP⟩ := hrel
      by_cases hlt : k < xs.length
      · obtain ⟨b, o, rfl, _, c1⟩ := ha.at_int hlt
        have HT := Lib.hid (any_take (p := badW sy) hlt)
        have HM := Lib.hid (any_of_get (p := badW sy) hlt)
        generalize xs[k] = y at *
        have hB : Hid (badW sy y = (decide (y < 0) || decide (sy ≤ y))) := rfl
        by_cases hy : y < 0
        · have hr : Hid (wordC xs sy = 1) := by show _ = _; rw [HW.out, HM.out (by rw [hB.out, decide_eq_true hy]; rfl)]; rfl
          go_wp2
          go_ret
          exact ⟨by rw [hr.out]; rfl, rfl⟩
        · by_cases hy2 : sy ≤ y
          · have hr : Hid (wordC xs sy = 1) := by show _ = _; rw [HW.out, HM.out (by rw [hB.out, decide_eq_true hy2]; simp)]; rfl
            go_wp2
            go_ret
            exact ⟨by rw [hr.out]; rfl, rfl⟩
          · have hn : Hid ((xs.take (k + 1)).any (badW sy) = false) := by show _ = _; rw [HT.out, HP.out, hB.out, decide_eq_false hy, decide_eq_false hy2]; rfl
            go_wp2
            go_round
            case rel => exact ⟨k + 1, by omega, by go_num, hn⟩
            case measure => simp [intOf]; omega
      · have hr : Hid (wordC xs sy = 0) := by show _ = _; rw [HW.out, any_full (by omega) HP.out]; rfl
        go_wp2
        go_ret
        exact ⟨by rw [hr.out]; rfl, rfl⟩

set_option maxHeartbeats 400000 in
theorem wcheck1_any (w : World) (b : Nat) (sy x : Int) (hb : w.cell? ⟨b, 0, none⟩ = some (.int .i64 sy)) :
   Calls Tryd.prog 62 #[.int .i64 x, .pointer (some ⟨b, 0, none⟩)] w fun e w' => e = .returned (.bool (badW sy x)) ∧ w = w' := by
  by_cases h1 : x < 0
  · have h : Hid (badW sy x = true) := by show _ = _; unfold badW; rw [decide_eq_true h1]; rfl
    go_enter Tryd.func62, Tryd.ntmps62
    go_wp2
    go_ret
    exact ⟨by rw [h.out]; rfl, rfl⟩
  · by_cases h2 : sy ≤ x
    · have h : Hid (badW sy x = true) := by show _ = _; unfold badW; rw [decide_eq_true h2]; simp
      go_enter Tryd.func62, Tryd.ntmps62
      go_wp2
      go_ret
      exact ⟨by rw [h.out]; rfl, rfl⟩
    · have h : Hid (badW sy x = false) := by show _ = _; unfold badW; rw [decide_eq_false h1, decide_eq_false h2]; rfl
      go_enter Tryd.func62, Tryd.ntmps62
      go_wp2
      go_ret
      exact ⟨by rw [h.out]; rfl, rfl⟩

set_option maxHeartbeats 400000 in
theorem windex_any (w : World) (b : Nat) (sy : Int) (hb : w.cell? ⟨b, 0, none⟩ = some (.int .i64 sy)) (v : Value) (xs : List Int) (c : Nat) (hv : IntsC w v xs c) :
   Calls Tryd.prog 70 #[v, .func (.func 62) #[] #[.pointer (some ⟨b, 0, none⟩)]] w fun e w' => (∃ i : Int, e = .returned (.int .i64 i) ∧ Hid (decide (0 ≤ i) = xs.any (badW sy))) ∧ w = w' := by
  obtain ⟨A, rfl, ha, _, hx⟩ := hv
  unfold lenMax at hx
  have hf := wcheck1_any w b sy
  go_enter Tryd.func70, Tryd.ntmps70
  go_wp2_with (fail)
  go_loop [8, 5] (fun i _ => ∃ k : Nat, k ≤ xs.length ∧ i = .int .i64 k ∧ Hid ((xs.take k).any (badW sy) = false)) (fun i _ => xs.length - (intOf i).toNat)
  case atStart => exact ⟨0, by omega, rfl, Lib.hid (by simp)⟩
  case round =>
    obtain ⟨k, hk, rfl, HP⟩ := hrel
    by_cases hlt : k < xs.length
    · obtain ⟨b', o', rfl, _, c1⟩ := ha.at_int hlt
      have HT := Lib.hid (any_take (p := badW sy) hlt)
      have HM := Lib.hid (any_of_get (p := badW sy) hlt)
      generalize xs[k] = y at *
      have hc := hf y hb
      clear hf
      cases hB : badW sy y
      · rw [hB] at hc
        have hn : Hid ((xs.take (k + 1)).any (badW sy) = false) := by show _ = _; rw [HT.out, HP.out, hB]; rfl
        clear hB
        go_wp2_with ((with_reducible refine hc.mono ?_); rintro e w1 ⟨rfl, rfl⟩)
        go_round
        case rel => exact ⟨k + 1, by omega, by go_num, hn⟩
        case measure => simp [intOf]; omega
      · rw [hB] at hc
        have hn : Hid (xs.any (badW sy) = true) := HM.out hB
        clear hB
        go_wp2_with ((with_reducible refine hc.mono ?_); rintro e w1 ⟨rfl, rfl⟩)
        go_ret
        exact ⟨⟨k, rfl, by show _ = _; rw [hn.out]; simp⟩, rfl⟩
    · have hn : Hid (xs.any (badW sy) = false) := any_full (by omega) HP.out
      clear hf
      go_wp2
      go_ret
      exact ⟨⟨-1, rfl, by show _ = _; rw [hn.out]; rfl⟩, rfl⟩
theorem wcontains_any (w : World) (b : Nat) (sy : Int) (hb : w.cell? ⟨b, 0, none⟩ = some (.int .i64 sy)) (v : Value) (xs : List Int) (c : Nat) (hv : IntsC w v xs c) :
   Calls Tryd.prog 61 #[v, .func (.func 62) #[] #[.pointer (some ⟨b, 0, none⟩)]] w fun e w' => e = .returned (.bool (xs.any (badW sy))) ∧ w = w' := by
  go_enter Tryd.func61, Tryd.ntmps61
  go_wp2_with (fail)
  refine (windex_any w b sy hb v xs c hv).mono ?_
  rintro e w1 ⟨⟨i, rfl, hi⟩, rfl⟩
  go_wp2
  go_ret
  rw [← hi.out]
  exact ⟨rfl, rfl⟩

set_option maxHeartbeats 800000 in
theorem wordsCheck_any (w : World) (v : Value) (xs : List Int) (c : Nat) (sy : Int) (h1 : 1 ≤ sy) (h2 : sy ≤ 16) (hv : IntsC w v xs c) : Calls Tryd.prog 43 #[v, .int .i64 sy] w fun e w' => e = .returned (.int .i64 (wordC xs sy)) ∧ Ext w w' := by
  have hv0 := hv
  obtain ⟨A, rfl, ha, _, hx⟩ := hv
  unfold lenMax at hx
  have n1 : ¬ 16 < sy := by omega
  have n2 : ¬ sy < 1 := by omega
  by_cases hl : 256 < xs.length
  · rw [show wordC xs sy = 3 from if_pos hl]
    go_enter Tryd.func43, Tryd.ntmps43
    go_wp2
    go_ret
    exact ⟨rfl, alloc_ext _ _⟩
  · have HW : Hid (wordC xs sy = if xs.any (badW sy) then 1 else 0) := if_neg hl
    have hc := wcontains_any (w.alloc (.cells #[.int .i64 sy] 3)) w.heap.size sy (by simp [go_sem]) _ xs c (hv0.ext (alloc_ext _ _))
    cases hB : xs.any (badW sy)
    · rw [hB] at HW hc
      clear hB
      go_enter Tryd.func43, Tryd.ntmps43
      go_wp2_with ((with_reducible refine hc.mono ?_); rintro e w1 ⟨rfl, rfl⟩)
      go_ret
      exact ⟨by rw [HW.out]; rfl, alloc_ext _ _⟩
    · rw [hB] at HW hc
      clear hB
      go_enter Tryd.func43, Tryd.ntmps43
      go_wp2_with ((with_reducible refine hc.mono ?_); rintro e w1 ⟨rfl, rfl⟩)
      go_ret
      exact ⟨by rw [HW.out]; rfl, alloc_ext _ _⟩
set_option maxRecDepth 100000 in
set_option maxHeartbeats 1000000 in
theorem begin_any (w : World) (xv : Value) (x : Xt) (hx : XtV w x xv) (hl : x.start.length ≤ 16) : Calls Tryd.prog 44 #[xv] w (SpotP w 0 x.start) := by
  obtain ⟨vv, sv, av, c1, c2, c3, rfl, hvv, hsv, hav⟩ := hx
  have hpl := fun W' (e : Ext w W') => place_any W' 0 sv x.start c2 (hsv.ext e) hl
  unfold SpotP at hpl
  obtain ⟨Av0, hvv0, hvv1, hvv2, hvv3, hvv4⟩ := hvv
  obtain ⟨As, hs0, hs1, hs2, hs3⟩ := hsv
  obtain ⟨Aa, as', ha0, hal, hac, has, han, ham⟩ := hav
  subst hvv0 hs0 ha0
  unfold lenMax at hvv3 hs3 ham
  clear hs1 hvv1 hac has hal
  go_enter Tryd.func44, Tryd.ntmps44
  go_upto_region 1 with fail
  refine wp_named ?_
  intro W1 hW1
  have hE1 : Ext w W1 := by rw [hW1]; exact (alloc_ext w _).trans (alloc_ext _ _)
  have hB6 : SpotB W1 (w.heap.size + 1) 0 [] := by
    rw [hW1]
    have h := new_spot (w.alloc (.cells #[.int .i64 x.ins, .int .i64 x.outs, .int .i64 x.states, .slice Av0 x.vars.length c1, .slice As x.start.length c2, .slice Aa x.arcs.length c3] 31))
    simpa using h
  have e4 : W1.cell? ⟨w.heap.size, 4, none⟩ = some (.slice As x.start.length c2) := by rw [hW1]; simp [go_sem]
  have hpl1 := hpl W1 hE1
  have HE1 := Lib.hid (And.intro hE1 hB6)
  have HD : Hid (w.heap.size ≤ w.heap.size + 1) := Lib.hid (by omega)
  clear hW1 hE1 hB6 hpl
  generalize w.heap.size + 1 = d6 at *
  generalize hd3 : w.heap.size = d3 at *
  have HDW := Lib.hid hd3
  clear hd3
  go_wp2_with (first
    | ((with_reducible refine hpl1.mono ?_); rintro e W7 ⟨rfl, e7⟩; have hB7 := SpotB.ext HE1.out.2 e7)
    | (with_reducible refine wpList_store_spot rfl _ _ rfl d6 rfl rfl hB7 (by simp) hl ?_; intro w8 h8 g8))
  refine bodyPost_ret (results_cell_row rfl _ _ d6 93 _ (0, 0) _ (by simp [Act.put]) h8 Tryd.underlying93 rfl (spot_info hl)) rfl ?_
  exact ⟨rfl, Below.grown (HE1.out.1.trans e7) g8 (HE1.out.1.trans e7).size (fun k hk => by cases hk; rw [HDW.out]; exact HD.out)⟩

end Go.Proofs.YtggffdkgfgdaoaaDoor

namespace Go.Proofs.YtggffdkgfgdaoaaDoor
open Go.RowKit Go.Maps
set_option linter.unusedVariables false
set_option linter.unusedSimpArgs false
attribute [local go_sem] Oper.quietV quietV Oper.gives givesV ext_refl_iff ext_alloc_iff ext_drew_iff ext_drewN_iff
def runE (x : Xt) (xs : List Int) : Int := if xtR x ≠ 0 then xtR x else wordC xs x.ins
def IntB (w : World) (g : Nat) (L : List Int) : Prop := w.heap[g]? = some (.cells (L.map (.int .i64)).toArray 3 (0, 0))
theorem IntB.ext {w w' : World} {g : Nat} {L : List Int} (h : IntB w g L) (e : Ext w w') : IntB w' g L := heap_ext e h
theorem IntB.grown {w w' : World} {b g : Nat} {L : List Int} (h : IntB w b L) (e : w.grownBy w' (some g)) (hne : b ≠ g) : IntB w' b L := (e.block b (lt_of_block h) (by simpa using hne)).trans h
theorem IntB.set {w : World} {g : Nat} {L : List Int} (h : IntB w g L) (i : Nat) (n : Int) : IntB (w.setCell ⟨g, i, none⟩ (.int .i64 n)) g (L.set i n) := by
  have := heap_setCell_same w g i _ 3 (.int .i64 n) h
  rwa [List.setIfInBounds_toArray, ← List.map_set] at this
theorem IntB.cell {w : World} {g : Nat} {L : List Int} (h : IntB w g L) {i : Nat} (hi : i < L.length) : w.cell? ⟨g, i, none⟩ = some (.int .i64 L[i]) := cell_of_blk h i (by simp [hi])
theorem IntB.fit {w : World} {g : Nat} {L : List Int} (h : IntB w g L) (hl : L.length ≤ 100000) : FitC w (.slice (some ⟨g, 0, none⟩) L.length L.length) L :=
  ⟨_, rfl, fun _ => ⟨g, 0, rfl, lt_of_block h, fun j u hj => by rw [Nat.zero_add]; exact cell_of_blk h j (by simpa using hj)⟩, Nat.le_refl _, by unfold lenMax; omega⟩
theorem take_set_next (L : List Int) (i : Nat) (n : Int) (hi : i < L.length) : (L.set i n).take (i + 1) = L.take i ++ [n] := by
  rw [List.take_succ_eq_append_getElem (by simpa using hi), List.take_set_of_le (Nat.le_refl _)]; simp
/-- What Run answers. -/
def RunP (w : World) (L : List Int) (er : Int) (e : Ending) (w' : World) : Prop :=
  (er = 0 → ∃ A, e = .returned (.tuple #[.slice A L.length L.length, .int .i64 0]) ∧ FitC w' (.slice A L.length L.length) L ∧ Ext w w' ∧ ∀ a, A = some a → w.heap.size ≤ a.block) ∧
  (er ≠ 0 → e = .returned (.tuple #[.slice none 0 0, .int .i64 er]) ∧ Ext w w')
set_option maxRecDepth 100000 in
set_option maxHeartbeats 16000000 in
theorem extRun_any (w : World) (xv : Value) (x : Xt) (yv : Value) (xs : List Int) (cy : Nat) (hx : XtV w x xv) (hT : OpsTab w) (hy : IntsC w yv xs cy) : Calls Tryd.prog 17 #[xv, yv] w (RunP w (runF x (some (0, x.start)) xs) (runE x xs)) := by
  obtain ⟨er, her⟩ : ∃ r, r = runE x xs := ⟨_, rfl⟩
  obtain ⟨F, hF⟩ : ∃ F, F = runF x := ⟨_, rfl⟩
  rw [← her, ← hF]
  unfold runE at her
  have HXT : Hid (XtV w x xv ∧ OpsTab w) := Lib.hid ⟨hx, hT⟩
  have hck := fun W' (e : Ext w W') => extCheck_any W' xv x (hx.ext e) (hT.ext e)
  have hst := fun W' (e : Ext w W') (h : xtR x = 0) s (ys : List Int) (inp : Int) (hl : ys.length = x.vars.length) => step_any W' xv x s ys inp (hx.ext e) (hT.ext e) hl (by rw [hl]; exact varsR_le (valsR_zero (xtR_ok h).2.2.2.2.1).1) (ups_ok h)
  have hwc := fun W' (e : Ext w W') (h : xtR x = 0) => wordsCheck_any W' yv xs cy x.ins (xtR_ok h).2.2.2.2.2.1 (xtR_ok h).1 (hy.ext e)
  have hbg := fun W' (e : Ext w W') (h : xtR x = 0) => begin_any W' xv x (hx.ext e) (by rw [(valsR_zero (xtR_ok h).2.2.2.2.1).2.1]; exact varsR_le (valsR_zero (xtR_ok h).2.2.2.2.1).1)
  obtain ⟨vv, sv, av, c1, c2, c3, rfl, hvv, hsv, hav⟩ := hx
  obtain ⟨Av0, hvv0, hvv1, hvv2, hvv3, hvv4⟩ := hvv
  obtain ⟨As, hs0, hs1, hs2, hs3⟩ := hsv
  obtain ⟨Aa, as', ha0, hal, hac, has, han, ham⟩ := hav
  obtain ⟨Ay, hy0, hyc, hy2, hy3⟩ := hy
  subst hvv0 hs0 ha0 hy0
  unfold lenMax at hvv3 hs3 ham hy3
  unfold ErrP at hck
  unfold SpotP at hbg
  obtain ⟨q, hq⟩ : ∃ q, q = xtR x := ⟨_, rfl⟩
  obtain ⟨u, hu⟩ : ∃ u, u = wordC xs x.ins := ⟨_, rfl⟩
  rw [← hq] at hck her hwc hbg hst
  rw [← hu] at her hwc
  have HST := Lib.hid hst
  have HBG := Lib.hid hbg
  have HQ : Hid (q = 0 → x.start.length = x.vars.length ∧ x.start.length ≤ 16) := Lib.hid (fun h => by
    rw [hq] at h
    have h1 := valsR_zero (xtR_ok h).2.2.2.2.1
    exact ⟨h1.2.1, by rw [h1.2.1]; exact varsR_le h1.1⟩)
  have HU : Hid (u = 0 → xs.length ≤ 256) := Lib.hid (fun h => by
    rw [hu] at h
    unfold wordC at h
    split at h
    · cases h
    · omega)
  have HF : Hid (∀ i (a : Int) c, xs[i]? = some a → F (some c) (xs.drop i) = match stepR x c.1 c.2 a with | some r => r.2.2 :: F (some (r.1, r.2.1)) (xs.drop (i + 1)) | none => -1 :: F none (xs.drop (i + 1))) := Lib.hid (fun i a c h => by rw [hF]; exact runF_step h c)
  have HF0 : Hid ((∀ i (a : Int), xs[i]? = some a → F none (xs.drop i) = -1 :: F none (xs.drop (i + 1))) ∧ (∀ c, F c [] = [])) := Lib.hid ⟨fun i a h => by rw [hF]; exact runF_none h, fun c => by rw [hF]; cases c <;> rfl⟩
  have HY := Lib.hid hyc
  have HR0 := Lib.hid her
  clear her hq hu hst hbg hF hT hvv1 hvv4 hs1 hal hac has hyc
  go_enter Tryd.func17, Tryd.ntmps17
  go_upto_region 1 with fail
  refine wp_named ?_
  intro W1 hW1
  have hE1 : Ext w W1 := by rw [hW1]; exact alloc_ext w _
  have e0 : ∀ w', Ext W1 w' → w'.cell? ⟨w.heap.size, 0, none⟩ = some (.int .i64 x.ins) := fun w' h => h.cell (by rw [hW1]; simp [go_sem])
  have e1 : ∀ w', Ext W1 w' → w'.cell? ⟨w.heap.size, 1, none⟩ = some (.int .i64 x.outs) := fun w' h => h.cell (by rw [hW1]; simp [go_sem])
  have e2 : ∀ w', Ext W1 w' → w'.cell? ⟨w.heap.size, 2, none⟩ = some (.int .i64 x.states) := fun w' h => h.cell (by rw [hW1]; simp [go_sem])
  have e3 : ∀ w', Ext W1 w' → w'.cell? ⟨w.heap.size, 3, none⟩ = some (.slice Av0 x.vars.length c1) := fun w' h => h.cell (by rw [hW1]; simp [go_sem])
  have e4 : ∀ w', Ext W1 w' → w'.cell? ⟨w.heap.size, 4, none⟩ = some (.slice As x.start.length c2) := fun w' h => h.cell (by rw [hW1]; simp [go_sem])
  have e5 : ∀ w', Ext W1 w' → w'.cell? ⟨w.heap.size, 5, none⟩ = some (.slice Aa x.arcs.length c3) := fun w' h => h.cell (by rw [hW1]; simp [go_sem])
  have hR1 := Ext.refl W1
  have HB3 : Hid (∀ w', Ext W1 w' → w'.heap[w.heap.size]? = some (.cells #[.int .i64 x.ins, .int .i64 x.outs, .int .i64 x.states, .slice Av0 x.vars.length c1, .slice As x.start.length c2, .slice Aa x.arcs.length c3] 31 (0, 0))) := Lib.hid (fun w' h => heap_ext h (by rw [hW1]; exact heap_alloc_new _ _))
  have HD3 : Hid (w.heap.size < W1.heap.size) := Lib.hid (by rw [hW1]; simp)
  have hck1 := hck W1 hE1
  have HE1 := Lib.hid hE1
  clear hW1 hE1 hck
  generalize hd3 : w.heap.size = d3 at *
  have HDW := Lib.hid hd3
  clear hd3
  by_cases hq0 : q = 0
  rotate_left
  · have HR : Hid (er = q ∧ er ≠ 0) := Lib.hid (by rw [HR0.out, if_pos hq0]; exact ⟨rfl, hq0⟩)
    have hz2 : (q != 0) = true := bne_iff_ne.2 hq0
    clear hq0 hwc
    go_upto_region 3 with ((with_reducible refine hck1.mono ?_); rintro e W2 ⟨rfl, e2'⟩)
    have HE2 := Lib.hid (HE1.out.trans e2')
    clear hck1 e2' e0 e1 e2 e3 e4 e5 hR1
    go_wp2
    refine bodyPost_ret (results_tmp2 rfl _ _ _) rfl ?_
    exact ⟨fun h => absurd h HR.out.2, fun _ => ⟨by rw [HR.out.1]; rfl, HE2.out⟩⟩
  subst hq0
  have HR0 : Hid (er = u) := Lib.hid (by rw [HR0.out, if_neg (by simp)])
  go_upto_region 4 with ((with_reducible refine hck1.mono ?_); rintro e W2 ⟨rfl, e2'⟩)
  have e0 := fun w' (h : Ext W2 w') => e0 w' ((e2').trans h)
  have e1 := fun w' (h : Ext W2 w') => e1 w' ((e2').trans h)
  have e2 := fun w' (h : Ext W2 w') => e2 w' ((e2').trans h)
  have e3 := fun w' (h : Ext W2 w') => e3 w' ((e2').trans h)
  have e4 := fun w' (h : Ext W2 w') => e4 w' ((e2').trans h)
  have e5 := fun w' (h : Ext W2 w') => e5 w' ((e2').trans h)
  have HE2 := Lib.hid (HE1.out.trans e2')
  have HB3 := Lib.hid (fun w' (h : Ext W2 w') => HB3.out w' (e2'.trans h))
  have HD3 := Lib.hid (Nat.lt_of_lt_of_le HD3.out e2'.size)
  have hwc2 := hwc W2 HE2.out (by simp)
  have hR2 := Ext.refl W2
  clear hck1 e2' hR1 hwc HE1
  by_cases hu0 : u = 0
  rotate_left
  · have HR : Hid (er = u ∧ er ≠ 0) := Lib.hid (by rw [HR0.out]; exact ⟨rfl, hu0⟩)
    have hz2 : (u != 0) = true := bne_iff_ne.2 hu0
    clear hu0
    go_upto_region 6 with ((with_reducible refine hwc2.mono ?_); rintro e W3 ⟨rfl, e3'⟩)
    have HE3 := Lib.hid (HE2.out.trans e3')
    clear hwc2 e3' e0 e1 e2 e3 e4 e5 hR2
    go_wp2
    refine bodyPost_ret (results_tmp2 rfl _ _ _) rfl ?_
    exact ⟨fun h => absurd h HR.out.2, fun _ => ⟨by rw [HR.out.1]; rfl, HE3.out⟩⟩
  subst hu0
  have hx256 := HU.out (by simp)
  have hmk := mk_ints xs.length (by omega)
  go_upto_region 8 with ((with_reducible refine hwc2.mono ?_); rintro e W3 ⟨rfl, e3'⟩)
  refine wp_named ?_
  intro W4 hW4
  have hE34 : Ext W2 W4 := by rw [hW4]; exact e3'.trans (alloc_ext _ _)
  have hIB : IntB W4 W3.heap.size (List.replicate xs.length 0) := by
    unfold IntB
    rw [hW4, List.map_replicate, List.toArray_replicate]
    exact heap_alloc_new _ _
  have hlt4 := lt_of_block hIB
  have e0 := fun w' (h : Ext W4 w') => e0 w' ((hE34).trans h)
  have e1 := fun w' (h : Ext W4 w') => e1 w' ((hE34).trans h)
  have e2 := fun w' (h : Ext W4 w') => e2 w' ((hE34).trans h)
  have e3 := fun w' (h : Ext W4 w') => e3 w' ((hE34).trans h)
  have e4 := fun w' (h : Ext W4 w') => e4 w' ((hE34).trans h)
  have e5 := fun w' (h : Ext W4 w') => e5 w' ((hE34).trans h)
  have HG4 : Hid (d3 < W3.heap.size) := Lib.hid (Nat.lt_of_lt_of_le HD3.out e3'.size)
  have HE4 := Lib.hid (And.intro (HE2.out.trans hE34) (And.intro hIB (HB3.out W4 hE34)))
  have hR4 := Ext.refl W4
  have hbg4 := HBG.out W4 HE4.out.1 (by simp)
  have HQ0 := Lib.hid (HQ.out (by simp))
  clear hwc2 e3' hW4 hE34 hIB hR2 HE2 hmk HB3 HD3 HBG HQ
  generalize W3.heap.size = g at *
  go_upto_region 9 with (first
    | ((with_reducible refine hbg4.mono ?_); rintro e W5 ⟨rfl, e5'⟩; have hz5 := new_spot W5)
    | (with_reducible refine wpList_store_spot rfl _ _ rfl W5.heap.size rfl rfl hz5 (by simp) HQ0.out.2 ?_; intro w6 h6 g6))
  have hE46 := e5'.trans (Below.grown (alloc_ext W5 _) g6 (alloc_ext W5 _).size (fun k hk => by cases hk; exact Nat.le_refl _))
  have hg9 : g < W5.heap.size := Nat.lt_of_lt_of_le (lt_of_block HE4.out.2.1) e5'.size
  have HN : Hid (d3 < g ∧ g < W5.heap.size) := Lib.hid ⟨HG4.out, hg9⟩
  have HE6 := Lib.hid (And.intro (HE4.out.1.trans hE46) (And.intro (heap_ext hE46 HE4.out.2.2) (And.intro (HE4.out.2.1.ext hE46) h6)))
  clear hbg4 hz5 g6 hE46 e5' h6 hg9 hlt4 e0 e1 e2 e3 e4 e5 hR4 HE4
  generalize W5.heap.size = d9 at *
  go_wp2
  go_loopw [10, 32] (fun cv iv wr => ∃ (i : Nat) (b : Bool) (s : Int) (ys L : List Int), cv = .bool b ∧ iv = .int .i64 i ∧ i ≤ xs.length ∧ ys.length = x.vars.length ∧ L.length = xs.length ∧ Hid (F (some (0, x.start)) xs = L.take i ++ F (if b then some (s, ys) else none) (xs.drop i)) ∧
    Hid (Ext w wr ∧ wr.heap[d3]? = some (.cells #[.int .i64 x.ins, .int .i64 x.outs, .int .i64 x.states, .slice Av0 x.vars.length c1, .slice As x.start.length c2, .slice Aa x.arcs.length c3] 31 (0, 0)) ∧ IntB wr g L ∧ SpotB wr d9 s ys)) (fun _ iv _ => xs.length - (intOf iv).toNat)
  case atStart => exact ⟨0, true, 0, x.start, List.replicate xs.length 0, rfl, by first | rfl | simp, Nat.zero_le _, HQ0.out.1, by simp, Lib.hid (by simp), HE6⟩
  case round =>
    obtain ⟨i, b, s, ys, L, rfl, rfl, hi, hyl, hLl, HF1, HW⟩ := hrel
    obtain ⟨W5, hW5⟩ : ∃ W, W = wr := ⟨_, rfl⟩; subst hW5
    by_cases hlt : i < xs.length
    · have hlI : (i : Int) < (xs.length : Int) := by omega
      obtain ⟨a, ha⟩ : ∃ a, xs[i]? = some a := ⟨_, List.getElem?_eq_getElem hlt⟩
      obtain ⟨bx, ox, hA, _, cx⟩ := HY.out.at_int hlt
      subst hA
      have hxa : xs[i] = a := by have h := List.getElem?_eq_getElem hlt; rw [ha] at h; injection h with h; exact h.symm
      rw [hxa] at cx
      have cx := HW.out.1.cell cx
      have sg := HW.out.2.2.1.cell (i := i) (by omega)
      have tg := free_of_blk HW.out.2.2.1 i
      have HFN := Lib.hid (HF0.out.1 i a ha)
      have HFS := Lib.hid (fun c => HF.out i a c ha)
      clear ha hxa
      go_upto_region 13 with fail
      refine wp_named ?_
      intro W7 hW7
      have hg7 : W5.grownBy W7 (some g) := by rw [hW7]; exact grown_setK W5 g i _
      have h7g : IntB W7 g (L.set i (-1)) := by rw [hW7]; exact HW.out.2.2.1.set i (-1)
      have h79 := SpotB.grown HW.out.2.2.2 hg7 (Nat.ne_of_gt HN.out.2)
      have h73 := (hg7.block d3 (lt_of_block HW.out.2.1) (by simpa using Nat.ne_of_lt HN.out.1)).trans HW.out.2.1
      have hE7 : Ext w W7 := Below.grown HW.out.1 hg7 HW.out.1.size (fun k hk => by cases hk; have := HN.out.1; rw [HDW.out]; omega)
      have HE7 := Lib.hid (And.intro hE7 (And.intro h73 (And.intro h7g h79)))
      clear hW7 hg7 h7g h79 h73 hE7 cx sg tg HW
      cases b with
      | false =>
        have HF2 : Hid (F (some (0, x.start)) xs = (L.set i (-1)).take (i + 1) ++ F (if false = true then some (s, ys) else none) (xs.drop (i + 1))) := Lib.hid (by
          rw [take_set_next L i (-1) (by omega), HF1.out]
          simp only [Bool.false_eq_true, if_false, List.append_assoc]
          rw [HFN.out]; rfl)
        go_wp2
        refine ⟨⟨i + 1, false, s, ys, L.set i (-1), rfl, by go_num, hlt, hyl, by rw [List.length_set]; exact hLl, HF2, HE7⟩, ?_⟩
        simp [intOf]; omega
      | true =>
        have hR7 := Ext.refl W7
        have e0 : ∀ w', Ext W7 w' → w'.cell? ⟨d3, 0, none⟩ = some (.int .i64 x.ins) := fun w' h => h.cell (cell_of_blk HE7.out.2.1 0 (u := .int .i64 x.ins) rfl)
        have e1 : ∀ w', Ext W7 w' → w'.cell? ⟨d3, 1, none⟩ = some (.int .i64 x.outs) := fun w' h => h.cell (cell_of_blk HE7.out.2.1 1 (u := .int .i64 x.outs) rfl)
        have e2 : ∀ w', Ext W7 w' → w'.cell? ⟨d3, 2, none⟩ = some (.int .i64 x.states) := fun w' h => h.cell (cell_of_blk HE7.out.2.1 2 (u := .int .i64 x.states) rfl)
        have e3 : ∀ w', Ext W7 w' → w'.cell? ⟨d3, 3, none⟩ = some (.slice Av0 x.vars.length c1) := fun w' h => h.cell (cell_of_blk HE7.out.2.1 3 (u := .slice Av0 x.vars.length c1) rfl)
        have e4 : ∀ w', Ext W7 w' → w'.cell? ⟨d3, 4, none⟩ = some (.slice As x.start.length c2) := fun w' h => h.cell (cell_of_blk HE7.out.2.1 4 (u := .slice As x.start.length c2) rfl)
        have e5 : ∀ w', Ext W7 w' → w'.cell? ⟨d3, 5, none⟩ = some (.slice Aa x.arcs.length c3) := fun w' h => h.cell (cell_of_blk HE7.out.2.1 5 (u := .slice Aa x.arcs.length c3) rfl)
        have hs := HST.out W7 HE7.out.1 (by simp) s ys a hyl
        have hys : ys.length ≤ 16 := by have := HQ0.out; omega
        have HSV : Hid (stepV x s ys a = match stepR x s ys a with | some r => (r.1, r.2.1, r.2.2, true) | none => (s, ys, -1, false)) := Lib.hid rfl
        have HVL := Lib.hid (stepV_len x s ys a)
        have HFS := Lib.hid (HFS.out (s, ys))
        obtain ⟨⟨t, zs, o, b2⟩, hv⟩ : ∃ r, r = stepV x s ys a := ⟨_, rfl⟩
        rw [← hv] at hs HSV HVL
        have hzl : zs.length = ys.length := HVL.out
        have hz16 : zs.length ≤ 16 := by omega
        clear hv
        unfold StepP at hs
        dsimp only at hs
        have HF2 : Hid (F (some (0, x.start)) xs = ((L.set i (-1)).set i o).take (i + 1) ++ F (if b2 = true then some (t, zs) else none) (xs.drop (i + 1))) := Lib.hid (by
          rw [List.set_set, take_set_next L i o (by omega), HF1.out]
          simp only [if_true, List.append_assoc]
          rw [HFS.out]
          have h1 := HSV.out
          cases hq : stepR x s ys a with
          | none => rw [hq] at h1; cases h1; rfl
          | some r => rw [hq] at h1; cases h1; rfl)
        have hne9 : g ≠ d9 := Nat.ne_of_lt HN.out.2
        have hi2 : i < ((L.set i (-1))).length := by rw [List.length_set]; omega
        go_upto_region 15 with (first
          | (with_reducible refine wpList_load_spot rfl _ rfl d9 rfl HE7.out.2.2.2 hys ?_)
          | ((with_reducible refine hs.mono ?_); rintro e W8 ⟨rfl, e8⟩; have h89 := SpotB.ext HE7.out.2.2.2 e8)
          | ((with_reducible refine wpList_store_spot rfl _ _ rfl d9 rfl rfl h89 hys hz16 ?_); intro w9 h9 g9; have hi9 := IntB.grown (IntB.ext HE7.out.2.2.1 e8) g9 hne9; have sg := hi9.cell hi2; have tg := free_of_blk hi9 i))
        have hE9 : Ext w w9 := Below.grown (HE7.out.1.trans e8) g9 (HE7.out.1.trans e8).size (fun k hk => by cases hk; have := HN.out; rw [HDW.out]; omega)
        have h93 := (g9.block d3 (lt_of_block (heap_ext e8 HE7.out.2.1)) (by have := HN.out; simp; omega)).trans (heap_ext e8 HE7.out.2.1)
        refine wp_named ?_
        intro W10 hW10
        have hg10 : w9.grownBy W10 (some g) := by rw [hW10]; exact grown_setK w9 g i _
        have h10g : IntB W10 g ((L.set i (-1)).set i o) := by rw [hW10]; exact hi9.set i o
        have h109 := SpotB.grown h9 hg10 hne9.symm
        have h103 := (hg10.block d3 (lt_of_block h93) (by simpa using Nat.ne_of_lt HN.out.1)).trans h93
        have hE10 : Ext w W10 := Below.grown hE9 hg10 hE9.size (fun k hk => by cases hk; have := HN.out.1; rw [HDW.out]; omega)
        have HE10 := Lib.hid (And.intro hE10 (And.intro h103 (And.intro h10g h109)))
        clear hW10 hg10 h10g h109 h103 hE10 h93 hE9 hs h89 h9 g9 hi9 sg tg e8 e0 e1 e2 e3 e4 e5
        go_wp2
        refine ⟨⟨i + 1, b2, t, zs, (L.set i (-1)).set i o, rfl, by go_num, hlt, by omega, by rw [List.length_set, List.length_set]; exact hLl, HF2, HE10⟩, ?_⟩
        simp [intOf]; omega
    · have hie : i = xs.length := by omega
      subst hie
      have hlt2 : ¬ (xs.length : Int) < (xs.length : Int) := by omega
      have HL : Hid (F (some (0, x.start)) xs = L) := Lib.hid (by rw [HF1.out, List.drop_length, HF0.out.2, List.append_nil, ← hLl, List.take_length])
      have HFT := Lib.hid (HW.out.2.2.1.fit (by omega))
      go_wp2
      refine bodyPost_ret (results_tmp2 rfl _ _ _) rfl ?_
      rw [HL.out]
      refine ⟨fun _ => ⟨some ⟨g, 0, none⟩, ?_, HFT.out, HW.out.1, fun a ha => ?_⟩, fun h => absurd HR0.out h⟩
      · rw [hLl]; rfl
      · injection ha with ha
        rw [← ha]
        have := HN.out.1
        rw [HDW.out]
        exact Nat.le_of_lt this
end Go.Proofs.YtggffdkgfgdaoaaDoor

namespace Go.Proofs.YtggffdkgfgdaoaaDoor
open Go.RowKit Go.Maps
set_option linter.unusedVariables false
set_option linter.unusedSimpArgs false
attribute [local go_sem] Oper.quietV quietV Oper.gives givesV ext_refl_iff ext_alloc_iff ext_drew_iff ext_drewN_iff
/-! ### Maps as data that a call owns -/
section
variable {κ : Type} [BEq κ] [LawfulBEq κ]
def MapOf (enc : κ → Value) (ok : κ → Prop) (o : Obj) (es : List (κ × Int)) : Prop := ∀ (w : World) (b : Nat), w.heap[b]? = some o → MapIs w b enc ok es
omit [BEq κ] [LawfulBEq κ] in
theorem mapOf_of {w : World} {b : Nat} {enc : κ → Value} {ok : κ → Prop} {es : List (κ × Int)} (h : MapIs w b enc ok es) : ∃ o, w.heap[b]? = some o ∧ MapOf enc ok o es := by
  obtain ⟨en, cl, hb, r⟩ := h
  exact ⟨_, hb, fun w' b' hb' => ⟨en, cl, hb', r⟩⟩
omit [BEq κ] [LawfulBEq κ] in
theorem MapOf.made (enc : κ → Value) (ok : κ → Prop) : MapOf enc ok (.map #[] 0) [] := fun w b hb => ⟨#[], 0, hb, by simp, by simp, .nil⟩
theorem mapK_lookup {W : World} {b : Nat} {o : Obj} {enc : κ → Value} {ok : κ → Prop} {es : List (κ × Int)} {t e k : TypeId} (K : KeyEnc Tryd.prog k enc ok) (ht : Tryd.prog.underlying t = some (.map k e)) (hz : (zeroValue e).run Tryd.prog W = .ok (.int .i64 0) W)
    (hb : W.heap[b]? = some o) (ho : MapOf enc ok o es) {x : κ} (hx : ok x) (c : Bool) {v : Value} (hv : v = enc x) : (Instr.lookup t (.map (some b)) v c).run Tryd.prog W = .ok (if c then .tuple #[.int .i64 ((getM es x).getD 0), .bool (getM es x).isSome] else .int .i64 ((getM es x).getD 0)) W := by
  subst hv; exact run_lookup_is K ht hz (ho W b hb) hx c
/-- A new key is stored: the list has one more. -/
theorem OwnL.mapPut {w W : World} {L : List Asn} (h : OwnL w W L) (i : Nat) {b : Nat} {o : Obj} {enc : κ → Value} {ok : κ → Prop} {es : List (κ × Int)} {t e k : TypeId} (hi : L[i]? = some (.blk b o)) (ho : MapOf enc ok o es) (K : KeyEnc Tryd.prog k enc ok) (ht : Tryd.prog.underlying t = some (.map k e))
    {x : κ} (hx : ok x) (hn : getM es x = none) (n : Int) {v : Value} (hv : v = enc x) : ∃ W' o', (Instr.mapUpdate t (.map (some b)) v (.int .i64 n)).run Tryd.prog W = .ok () W' ∧ MapOf enc ok o' (es ++ [(x, n)]) ∧ OwnL w W' (L.set i (.blk b o')) ∧ W.grownBy W' (some b) ∧ W'.heap[b]? = some o' := by
  subst hv
  have h1 : w.heap.size ≤ b ∧ W.heap[b]? = some o := h.get i hi
  obtain ⟨W', hr, hm, hg⟩ := run_update_new K ht (ho W b h1.2) hx hn n
  obtain ⟨o', hb', hm'⟩ := mapOf_of hm
  exact ⟨W', o', hr, hm', h.step (A' := .blk b o') i hi hg (fun c hc => by cases hc; rfl) ⟨h1.1, hb'⟩ (fun c hc => .inl hc), hg, hb'⟩
omit [BEq κ] [LawfulBEq κ] in
theorem mapK_len {W : World} {b : Nat} {o : Obj} {enc : κ → Value} {ok : κ → Prop} {es : List (κ × Int)} {t e k : TypeId} {ty : TypeId} (ht : Tryd.prog.underlying t = some (.map k e)) (hb : W.heap[b]? = some o) (ho : MapOf enc ok o es) :
    (Builtin.len_ #[t] ty #[.map (some b)]).run Tryd.prog W = .ok (.int .i64 es.length) W := by
  obtain ⟨en, cl, hb', he, _, _⟩ := ho W b hb
  have hlen : en.size = es.length := by
    have := congrArg List.length he
    simpa using this
  have hobj : (getObj b).run Tryd.prog W = .ok (.map en cl) W := by simp [getObj, Sem.run, hb']
  simp [Builtin.len_, run_underlying ht, hobj, hlen, goInt]
end


/-! ### The keys -/
theorem laidOut : laidOutB Tryd.prog = true := by kernel_rfl
theorem row93 : 93 < Tryd.prog.types.size := of_decide_eq_true (by kernel_rfl)
theorem deep93 : Tryd.prog.keyTypeAt 5 93 = true := by kernel_rfl
theorem deep93' : Tryd.prog.keyType 93 = true := by kernel_rfl
theorem wide93 : (match Tryd.prog.underlying 93 with | some (.array _ _) | some (.struct _) => true | _ => false) = true := by kernel_rfl
set_option maxRecDepth 100000 in
theorem law93 : Keyed Tryd.prog 93 := Keyed.of_law (deep_law_laid laidOut (m := 5) (by omega) row93 deep93 wide93)
theorem cells93 : Tryd.prog.cellsOf 93 = 17 := by kernel_rfl
theorem cells91 : Tryd.prog.cellsOf 91 = 16 := by kernel_rfl
theorem cells3 : Tryd.prog.cellsOf 3 = 1 := by kernel_rfl
theorem typesN : ∃ d, Tryd.prog.types.size + 1 = d + 5 := by
  have := row93
  exact ⟨Tryd.prog.types.size - 4, by omega⟩
def wfI (x : Int) : Prop := (Lit.int .i64 x).wf = true
theorem wfI_of {x : Int} (h : -2147483648 ≤ x ∧ x ≤ 2147483648) : wfI x := by
  unfold wfI Lit.wf
  have : IntKind.i64.wrap x = x := by rw [IntKind.wrap_i64]; omega
  simp [this, IntKind.min, IntKind.bits, IntKind.signed]; omega
theorem lits3 (d : Nat) {x : Int} (hx : wfI x) : ∃ l, Tryd.prog.keyLits (d + 1) 3 [.int .i64 x] = some l := by
  unfold wfI at hx
  exact ⟨[.int .i64 x], by simp [Program.keyLits, Tryd.underlying3, hx]⟩
theorem lits_array {d n : Nat} {t e : TypeId} {cs : List Value} (hu : Tryd.prog.underlying t = some (.array n e)) (hl : cs.length = Tryd.prog.cellsOf t)
    (h : ∀ i, i < n → ∃ l, Tryd.prog.keyLits d e ((cs.drop (i * Tryd.prog.cellsOf e)).take (Tryd.prog.cellsOf e)) = some l) : ∃ l, Tryd.prog.keyLits (d + 1) t cs = some l := by
  have hm := ChangeMaps.mapM_total (f := fun i => Tryd.prog.keyLits d e ((cs.drop (i * Tryd.prog.cellsOf e)).take (Tryd.prog.cellsOf e))) [] (l := List.range n) (fun i hi => h i (List.mem_range.1 hi))
  unfold Program.keyLits
  rw [hu]
  simp only [hl, if_true]
  rw [hm]
  exact ⟨_, rfl⟩
theorem lits91 (d : Nat) {l : List Int} (hl : l.length = 16) (hw : ∀ x ∈ l, wfI x) : ∃ r, Tryd.prog.keyLits (d + 2) 91 (l.map (.int .i64)) = some r := by
  refine lits_array Tryd.underlying91 (by simp [hl, cells91]) fun i hi => ?_
  rw [cells3, Nat.mul_one]
  have h1 : i < l.length := by omega
  have h2 : ((l.map (Value.int .i64)).drop i).take 1 = [.int .i64 l[i]] := by
    rw [List.drop_eq_getElem_cons (by simpa using h1)]; simp
  rw [h2]
  exact lits3 d (hw _ (List.getElem_mem h1))
theorem lits93 (d : Nat) {x : Int} {l : List Int} (hx : wfI x) (hl : l.length = 16) (hw : ∀ x ∈ l, wfI x) : ∃ r, Tryd.prog.keyLits (d + 3) 93 (.int .i64 x :: l.map (.int .i64)) = some r := by
  obtain ⟨a, ha⟩ := lits3 (d + 1) hx
  obtain ⟨b, hb⟩ := lits91 d hl hw
  have ht : (l.map (Value.int .i64)).take 16 = l.map (Value.int .i64) := List.take_of_length_le (by simp [hl])
  unfold Program.keyLits
  rw [Tryd.underlying93]
  simp [cells93, cells91, cells3, ha, hb, ht, hl]
/-- A configuration. -/
abbrev Sp := Int × List Int
/-- A configuration as a key. -/
def pad (c : Sp) : List Int := c.1 :: (c.2 ++ List.replicate (16 - c.2.length) 0)
theorem pad_map (c : Sp) : (pad c).map (.int .i64) = spotL c.1 c.2 := rfl
def rowV (l : List Int) : Value := .agg (l.map (.int .i64)).toArray
def rowOK (l : List Int) : Prop := l.length = 17 ∧ ∀ x ∈ l, wfI x
theorem key93 : KeyEnc Tryd.prog 93 rowV rowOK where
  law := law93
  read := fun l ⟨hl, hw⟩ => by
    obtain ⟨d, hd⟩ := typesN
    match l, hl, hw with
    | x :: t, hl, hw =>
      obtain ⟨r, hr⟩ := lits93 (d + 2) (hw x (by simp)) (by simpa using hl) (fun y hy => hw y (by simp [hy]))
      have hf : (rowV (x :: t)).formed Tryd.prog 93 = true := by
        have : t.length = 16 := by simpa using hl
        simp [rowV, Value.formed, Tryd.underlying93, cells93, this]
      refine ⟨.string (keyBytes r), ?_⟩
      unfold keyOf
      rw [Tryd.underlying93]
      simp only [deep93', hf, Bool.and_self, if_true, hd]
      rw [show (rowV (x :: t)).cells.toList = .int .i64 x :: t.map (.int .i64) by simp [rowV, Value.cells], hr]
      rfl
  inj := fun x y h => by
    unfold rowV at h
    injection h with h
    have h1 := congrArg Array.toList h
    simp only at h1
    have hinj : ∀ a b : Int, Value.int .i64 a = Value.int .i64 b → a = b := fun a b h => by cases h; rfl
    exact List.map_inj_right hinj |>.1 h1
/-! ### The numbers of the configurations -/
def esFrom (k : Nat) : List Sp → List (List Int × Int)
  | [] => []
  | c :: S => (pad c, (k : Int)) :: esFrom (k + 1) S
def idxP (S : List Sp) (c : Sp) : Option Nat := S.findIdx? (fun d => pad d == pad c)
theorem getM_es (c : Sp) : ∀ (S : List Sp) (k : Nat), getM (esFrom k S) (pad c) = (idxP S c).map (fun j => ((k + j : Nat) : Int))
  | [], k => rfl
  | d :: S, k => by
    have h := getM_es c S (k + 1)
    unfold getM idxP at h ⊢
    unfold esFrom
    rw [List.find?_cons, List.findIdx?_cons]
    cases hq : pad d == pad c with
    | true => simp
    | false =>
      simp only [Bool.false_eq_true, if_false]
      rw [h, Option.map_map]
      congr 1
      funext j
      simp only [Function.comp_apply]
      omega
theorem es_snoc (c : Sp) : ∀ (S : List Sp) (k : Nat), esFrom k (S ++ [c]) = esFrom k S ++ [(pad c, ((k + S.length : Nat) : Int))]
  | [], k => by simp [esFrom]
  | d :: S, k => by
    rw [List.cons_append]
    unfold esFrom
    rw [es_snoc c S (k + 1), List.cons_append, List.length_cons]
    congr 4
    omega
theorem idxP_lt {S : List Sp} {c : Sp} {j : Nat} (h : idxP S c = some j) : j < S.length := by
  unfold idxP at h
  rw [List.findIdx?_eq_some_iff_getElem] at h
  exact h.1
end Go.Proofs.YtggffdkgfgdaoaaDoor

namespace Go.Proofs.YtggffdkgfgdaoaaDoor
set_option linter.unusedVariables false
set_option linter.unusedSimpArgs false
theorem putU_ok {l : List Vt} {old : List Int} {u : Up} {cur c : List Int} (hc : valsR l cur = 0) (hu : 0 ≤ u.var) (h : putU l old u cur = some c) : valsR l c = 0 := by
  obtain ⟨h1, h2, h3⟩ := valsR_zero hc
  unfold putU at h
  split at h
  · cases h
  · rename_i v hv
    split at h
    · cases h
    · rename_i hn
      injection h with h; subst h
      refine valsR_good h1 (by simp [h2]) fun i hi => ?_
      have h4 := h3 i hi
      unfold offAt at h4 ⊢
      by_cases hiv : u.var.toNat = i
      · rw [hiv] at hv
        rw [hv, hiv, List.getElem?_set_self (by omega)]
        simp only [Bool.or_eq_false_iff, decide_eq_false_iff_not]
        exact ⟨fun h => hn (.inr (.inl h)), fun h => hn (.inr (.inr h))⟩
      · rw [List.getElem?_set_ne hiv]; exact h4
theorem putsU_ok {l : List Vt} {old : List Int} : ∀ {us : List Up} {cur c : List Int}, valsR l cur = 0 → (∀ u ∈ us, 0 ≤ u.var) → putsU l old us cur = some c → valsR l c = 0
  | [], cur, c, h, _, h2 => by injection h2 with h2; subst h2; exact h
  | u :: us, cur, c, h, hu, h2 => by
    unfold putsU at h2
    split at h2
    · cases h2
    · rename_i c1 h1
      exact putsU_ok (putU_ok h (hu u (by simp)) h1) (fun v hv => hu v (by simp [hv])) h2
def okSp (x : Xt) (c : Sp) : Prop := (0 ≤ c.1 ∧ c.1 < x.states) ∧ valsR x.vars c.2 = 0
theorem takeR_ok {x : Xt} {a : Ac} {s : Int} {ys : List Int} {r : Int × List Int} (ha : arcR x a = 0) (hy : valsR x.vars ys = 0) (h : takeR x a s ys = some r) : okSp x r := by
  unfold takeR at h
  split at h
  · cases h
  · split at h
    · cases h
    · rename_i c hc
      injection h with h; subst h
      exact ⟨(arcR_ok ha).2.2.2.1, putsU_ok hy (fun u hu => by obtain ⟨i, hi⟩ := List.getElem?_of_mem hu; exact ((arcR_ok ha).2.2.2.2.2.2 i u hi).1.1) hc⟩
theorem stepL_ok {x : Xt} {s : Int} {ys : List Int} {inp : Int} (hy : valsR x.vars ys = 0) : ∀ {al : List Ac} {r : Int × List Int × Int}, (∀ a ∈ al, arcR x a = 0) → stepL x s ys inp al = some r → okSp x (r.1, r.2.1)
  | [], r, _, h => by cases h
  | a :: l, r, ha, h => by
    unfold stepL at h
    split at h
    · split at h
      · rename_i q hq
        injection h with h; subst h
        exact takeR_ok (ha a (by simp)) hy hq
      · exact stepL_ok hy (fun b hb => ha b (by simp [hb])) h
    · exact stepL_ok hy (fun b hb => ha b (by simp [hb])) h
theorem stepR_ok {x : Xt} {s : Int} {ys : List Int} {inp : Int} {r : Int × List Int × Int} (hx : xtR x = 0) (hy : valsR x.vars ys = 0) (h : stepR x s ys inp = some r) : okSp x (r.1, r.2.1) := stepL_ok hy (xtR_ok hx).2.2.2.2.2.2.2.2 h
theorem okSp_start {x : Xt} (hx : xtR x = 0) : okSp x (0, x.start) := ⟨⟨by simp, by have := (xtR_ok hx).2.2.2.2.2.2.2.1; show (0 : Int) < x.states; omega⟩, (xtR_ok hx).2.2.2.2.1⟩
theorem okSp_len {x : Xt} {c : Sp} (h : okSp x c) : c.2.length = x.vars.length ∧ c.2.length ≤ 16 := by
  have h1 := valsR_zero h.2
  exact ⟨h1.2.1, by rw [h1.2.1]; exact varsR_le h1.1⟩
theorem okSp_row {x : Xt} {c : Sp} (hx : xtR x = 0) (h : okSp x c) : rowOK (pad c) := by
  have hl := (okSp_len h).2
  refine ⟨by simp [pad]; omega, fun y hy => ?_⟩
  have hs := (xtR_ok hx).2.2.1
  unfold pad at hy
  rcases List.mem_cons.1 hy with rfl | hy
  · exact wfI_of ⟨by have := h.1.1; omega, by have := h.1.2; omega⟩
  · rcases List.mem_append.1 hy with hy | hy
    · exact wfI_of (vals_small h.2 y hy)
    · rw [(List.mem_replicate.1 hy).2]; exact wfI_of ⟨by decide, by decide⟩
/-- One edge. -/
def uStep (x : Xt) (c : Sp) (S : List Sp) (i : Int) : Option (List Sp × (Int × Int)) := match stepR x c.1 c.2 i with
  | none => some (S, (-1, -1))
  | some r => match idxP S (r.1, r.2.1) with
    | some n => some (S, ((n : Int), r.2.2))
    | none => if S.length = 64 then none else some (S ++ [(r.1, r.2.1)], ((S.length : Int), r.2.2))
def uRow (x : Xt) (c : Sp) (S : List Sp) : Nat → Option (List Sp × List (Int × Int))
  | 0 => some (S, [])
  | k + 1 => match uRow x c S k with
    | none => none
    | some r => match uStep x c r.1 (k : Int) with
      | none => none
      | some q => some (q.1, r.2 ++ [q.2])
def uAll (x : Xt) : Nat → Option (List Sp × List (List (Int × Int)))
  | 0 => some ([(0, x.start)], [])
  | i + 1 => match uAll x i with
    | none => none
    | some r => match r.1[i]? with
      | none => some r
      | some c => match uRow x c r.1 x.ins.toNat with
        | none => none
        | some q => some (q.1, r.2 ++ [q.2])
def unfR (x : Xt) : Option (List Sp × List (List (Int × Int))) := uAll x 64
theorem uRow_none {x : Xt} {c : Sp} {S : List Sp} {k n : Nat} (h : uRow x c S k = none) (hn : k ≤ n) : uRow x c S n = none := by
  induction n with
  | zero => obtain rfl : k = 0 := by omega
            exact h
  | succ n ih =>
    by_cases hk : k = n + 1
    · subst hk; exact h
    · unfold uRow; rw [ih (by omega)]
theorem uAll_none {x : Xt} {i n : Nat} (h : uAll x i = none) (hn : i ≤ n) : uAll x n = none := by
  induction n with
  | zero => obtain rfl : i = 0 := by omega
            exact h
  | succ n ih =>
    by_cases hk : i = n + 1
    · subst hk; exact h
    · unfold uAll; rw [ih (by omega)]
theorem uAll_end {x : Xt} {i n : Nat} {r : List Sp × List (List (Int × Int))} (h : uAll x i = some r) (hl : r.1.length ≤ i) (hn : i ≤ n) : uAll x n = some r := by
  induction n with
  | zero => obtain rfl : i = 0 := by omega
            exact h
  | succ n ih =>
    by_cases hk : i = n + 1
    · subst hk; exact h
    · unfold uAll; rw [ih (by omega)]
      dsimp only
      rw [List.getElem?_eq_none (by omega)]
theorem uAll_step {x : Xt} {i : Nat} {r : List Sp × List (List (Int × Int))} {c : Sp} (h : uAll x i = some r) (hc : r.1[i]? = some c) : uAll x (i + 1) = match uRow x c r.1 x.ins.toNat with | none => none | some q => some (q.1, r.2 ++ [q.2]) := by
  conv => lhs; unfold uAll
  rw [h]; dsimp only; rw [hc]
theorem uRow_step {x : Xt} {c : Sp} {S : List Sp} {k : Nat} {r : List Sp × List (Int × Int)} (h : uRow x c S k = some r) : uRow x c S (k + 1) = match uStep x c r.1 (k : Int) with | none => none | some q => some (q.1, r.2 ++ [q.2]) := by
  conv => lhs; unfold uRow
  rw [h]
/-- What the list of configurations keeps to. -/
def okL (x : Xt) (S : List Sp) : Prop := S.length ≤ 64 ∧ ∀ c ∈ S, okSp x c
theorem uStep_ok {x : Xt} {c : Sp} {S : List Sp} {i : Int} {q : List Sp × (Int × Int)} (hx : xtR x = 0) (hc : okSp x c) (hS : okL x S) (h : uStep x c S i = some q) : okL x q.1 ∧ S <+: q.1 := by
  unfold uStep at h
  split at h
  · injection h with h; subst h; exact ⟨hS, List.prefix_refl _⟩
  · rename_i r hr
    split at h
    · injection h with h; subst h; exact ⟨hS, List.prefix_refl _⟩
    · split at h
      · cases h
      · rename_i h64
        injection h with h; subst h
        refine ⟨⟨by have := hS.1; simp; omega, fun d hd => ?_⟩, List.prefix_append _ _⟩
        rcases List.mem_append.1 hd with hd | hd
        · exact hS.2 d hd
        · simp at hd; subst hd; exact stepR_ok hx hc.2 hr
theorem uRow_ok {x : Xt} {c : Sp} {S : List Sp} (hx : xtR x = 0) (hc : okSp x c) (hS : okL x S) : ∀ {k : Nat} {r : List Sp × List (Int × Int)}, uRow x c S k = some r → okL x r.1 ∧ S <+: r.1 ∧ r.2.length = k
  | 0, r, h => by unfold uRow at h; injection h with h; subst h; exact ⟨hS, List.prefix_refl _, rfl⟩
  | k + 1, r, h => by
    unfold uRow at h
    split at h
    · cases h
    · rename_i r1 h1
      obtain ⟨a1, a2, a3⟩ := uRow_ok hx hc hS h1
      split at h
      · cases h
      · rename_i q hq
        injection h with h; subst h
        obtain ⟨b1, b2⟩ := uStep_ok hx hc a1 hq
        exact ⟨b1, a2.trans b2, by simp [a3]⟩
theorem uAll_ok {x : Xt} (hx : xtR x = 0) : ∀ {i : Nat} {r : List Sp × List (List (Int × Int))}, uAll x i = some r → okL x r.1 ∧ 1 ≤ r.1.length ∧ ∀ row ∈ r.2, row.length = x.ins.toNat
  | 0, r, h => by unfold uAll at h; injection h with h; subst h; exact ⟨⟨by simp, fun c hc => by simp at hc; subst hc; exact okSp_start hx⟩, by simp, fun row h => by cases h⟩
  | i + 1, r, h => by
    unfold uAll at h
    split at h
    · cases h
    · rename_i r1 h1
      obtain ⟨a1, a2, a3⟩ := uAll_ok hx h1
      split at h
      · injection h with h; subst h; exact ⟨a1, a2, a3⟩
      · rename_i c hc
        split at h
        · cases h
        · rename_i q hq
          injection h with h; subst h
          obtain ⟨b1, b2, b3⟩ := uRow_ok hx (a1.2 c (List.mem_of_getElem? hc)) a1 hq
          refine ⟨b1, Nat.le_trans a2 b2.length_le, fun row hr => ?_⟩
          rcases List.mem_append.1 hr with hr | hr
          · exact a3 row hr
          · simp at hr; subst hr; exact b3
end Go.Proofs.YtggffdkgfgdaoaaDoor

namespace Go.Proofs.YtggffdkgfgdaoaaDoor
open Go.RowKit Go.Maps
set_option linter.unusedVariables false
set_option linter.unusedSimpArgs false
theorem flat_set (a b : Int) : ∀ (l : List (Int × Int)) (i : Nat), i < l.length → ((l.flatMap edgeCells).set (i * 2) (.int .i64 a)).set (i * 2 + 1) (.int .i64 b) = (l.set i (a, b)).flatMap edgeCells
  | [], i, h => by simp at h
  | e :: l, 0, _ => by simp [List.flatMap_cons, edgeCells]
  | e :: l, i + 1, h => by
    have ih := flat_set a b l i (by simpa using h)
    rw [show (i + 1) * 2 = i * 2 + 1 + 1 by omega]
    simp only [List.flatMap_cons, edgeCells, List.cons_append, List.nil_append, List.set_cons_succ]
    rw [ih]
theorem flat_zero : ∀ n : Nat, (List.replicate n ((0 : Int), (0 : Int))).flatMap edgeCells = List.replicate (n * 2) (.int .i64 0)
  | 0 => rfl
  | n + 1 => by
    rw [List.replicate_succ, List.flatMap_cons, flat_zero n, Nat.succ_mul, show n * 2 + 2 = (n * 2 + 1) + 1 by omega, List.replicate_succ, List.replicate_succ]; rfl
theorem made_two (n : Nat) : (madeCells #[Value.int .i64 0, .int .i64 0] (n * 2)).toList = ((List.replicate n ((0 : Int), (0 : Int))).flatMap edgeCells) := by
  rw [flat_zero]
  apply List.ext_getElem
  · simp [madeCells]
  · intro i h1 h2
    have : i % 2 = 0 ∨ i % 2 = 1 := by omega
    rcases this with h | h <;> simp [madeCells, h]
theorem edge_info2 : (Tryd.prog.info? 83).map (fun i => (i.zero, i.size, i.bytes)) = some (some (.agg #[.int .i64 0, .int .i64 0]), 2, 16) := by kernel_rfl
theorem mk_edges (n : Nat) (hn : n ≤ 1000) (w : World) : (Instr.makeSlice 84 (.int .i64 (n : Int)) (.int .i64 (n : Int))).run Tryd.prog w = .ok (.slice (some ⟨w.heap.size, 0, none⟩) n n) (w.alloc (.cells (madeCells #[.int .i64 0, .int .i64 0] (n * 2)) 83)) := by
  obtain ⟨i, hi, hz0, hs, hb0⟩ := info_parts edge_info2
  have hm : (i.bytes : Int) * (n : Int) ≤ 281474976710656 := by rw [hb0]; omega
  have hr := run_make (P := Tryd.prog) w 84 83 i (.agg #[.int .i64 0, .int .i64 0]) Tryd.underlying84 hi hz0 .i64 .i64 n n (by omega) (Int.le_refl _) hm (by omega)
  simp only [Int.toNat_natCast] at hr
  rw [hr, hs]; rfl
/-- A row that is filled up with zeros. -/
def fl (row : List (Int × Int)) (n : Nat) : List (Int × Int) := row ++ List.replicate (n - row.length) (0, 0)
theorem fl_len {row : List (Int × Int)} {n : Nat} (h : row.length ≤ n) : (fl row n).length = n := by unfold fl; simp; omega
theorem fl_set {row : List (Int × Int)} {n : Nat} (h : row.length < n) (e : Int × Int) : (fl row n).set row.length e = fl (row ++ [e]) n := by
  unfold fl
  rw [show n - row.length = (n - (row ++ [e]).length) + 1 by simp; omega, List.replicate_succ, List.set_append_right _ _ (Nat.le_refl _), Nat.sub_self, List.set_cons_zero]; simp
theorem fl_reset {row : List (Int × Int)} {n : Nat} (h : row.length < n) (e e' : Int × Int) : (fl (row ++ [e]) n).set row.length e' = fl (row ++ [e']) n := by rw [← fl_set h e, List.set_set, fl_set h e']
theorem fl_full {row : List (Int × Int)} {n : Nat} (h : row.length = n) : fl row n = row := by unfold fl; rw [h]; simp
theorem own_edges (W : World) (n : Nat) (hn : n ≤ 1000) : (W.alloc (.cells (madeCells #[.int .i64 0, .int .i64 0] (n * 2)) 83)).ownsRow W.heap.size 83 2 (.slice (some ⟨W.heap.size, 0, none⟩) n n) n ((fl [] n).flatMap edgeCells) := by
  have h := World.ownsRow_lit (base := W.heap.size) (e := 83) (size := 2) W (madeCells #[.int .i64 0, .int .i64 0] (n * 2)) n (Nat.le_refl _) (by unfold maxLen; omega) (size_madeCells _ _)
  rw [made_two] at h
  exact h
/-- Two cells of a row are stored. -/
theorem OwnL.edge {w W : World} {L : List Asn} (h : OwnL w W L) (k : Nat) {g n c : Nat} {l : List (Int × Int)} (hk : L[k]? = some (.row 83 2 (.slice (some ⟨g, 0, none⟩) n c) n (l.flatMap edgeCells))) {i : Nat} (hi : i < l.length) (a b : Int) :
    OwnL w ((W.setCell ⟨g, i * 2, none⟩ (.int .i64 a)).setCell ⟨g, i * 2 + 1, none⟩ (.int .i64 b)) (L.set k (.row 83 2 (.slice (some ⟨g, 0, none⟩) n c) n ((l.set i (a, b)).flatMap edgeCells))) := by
  have hkl := (List.getElem?_eq_some_iff.1 hk).1
  have h1 : W.ownsRow w.heap.size 83 2 (.slice (some ⟨g, 0, none⟩) n c) n (l.flatMap edgeCells) := h.get k hk
  have h2 := h1.stored (i * 2) (.int .i64 a)
  have h3 := h2.1.stored (i * 2 + 1) (.int .i64 b)
  rw [flat_set a b l i hi] at h3
  refine h.step k hk (row := some g) ⟨rfl, rfl, rfl, by simp, fun x hx hne => ?_⟩ (fun b hb => hb) h3.1 (fun b hb => .inl hb)
  rw [heap_setCell_other _ _ _ _ (fun e => hne (by simp [e])), heap_setCell_other _ _ _ _ (fun e => hne (by simp [e]))]


end Go.Proofs.YtggffdkgfgdaoaaDoor

namespace Go.Proofs.YtggffdkgfgdaoaaDoor
open Go.RowKit Go.Maps
set_option linter.unusedVariables false
set_option linter.unusedSimpArgs false
attribute [local go_sem] Oper.quietV quietV Oper.gives givesV ext_refl_iff ext_alloc_iff ext_drew_iff ext_drewN_iff
def noAsn : Asn := .any (fun _ => False) (fun _ => True)
theorem noAsn_ok (N : Nat) (w : World) : noAsn.ok N w := ⟨fun _ h => h.elim, fun _ _ => trivial⟩
theorem grown_none {w w' : World} (e : Ext w w') : w.grownBy w' none := ⟨e.os, e.tape, e.output, e.size, fun k hk _ => e.block k hk⟩
theorem OwnL.fill {w W W' : World} {L : List Asn} (h : OwnL w W L) (k : Nat) {A A' : Asn} (hk : L[k]? = some A) (e : Ext W W') (hA : A'.ok W.heap.size W') : OwnL w W' (L.set k A') :=
  h.step k hk (row := none) (grown_none e) (fun b hb => by cases hb) (Asn.mono hA h.ext.size) (fun b hb => .inr (Asn.lt hA hb).1)
def spC (c : Sp) : List Value := spotL c.1 c.2
def spV (c : Sp) : Value := .agg (spotL c.1 c.2).toArray
def u2 (c : Sp) : Option Value → Asn
  | some v => .row 93 17 v 1 (spC c)
  | none => noAsn
def u3 (o : Obj) : Option Value → Asn
  | some (.map (some b)) => .blk b o
  | _ => noAsn
structure U4 (W : World) (c : Sp) (G : Vals) (w : World) : Prop where
  own : ∃ o, OwnL W w [u2 c (G 2), u3 o (G 3)] ∧ (G 6 = none → o = .map #[] 0) ∧ (∀ u, G 6 = some u → MapOf rowV rowOK o [(pad c, 0)])
  c1 : ∀ v, G 1 = some v → v = spV c
  c5 : ∀ v, G 5 = some v → v = spV c
  p2 : ∀ v, G 2 = some v → ∃ b, v = .slice (some ⟨b, 0, none⟩) 1 1
  p3 : ∀ v, G 3 = some v → ∃ b, v = .map (some b)
  n : G 3 = none → G 6 = none
section
variable {W w w' : World} {c : Sp} {G : Vals} {v : Value}
theorem U4.ext (h : U4 W c G w) : Ext W w := by obtain ⟨o, h1, _⟩ := h.own; exact h1.ext
theorem U4.start (W : World) (c : Sp) {w : World} (e : Ext W w) : U4 W c (fun _ => none) w := by
  have n := fun (L : List Asn) (h : OwnL W w L) => h.add (Ext.refl w) (A := noAsn) (noAsn_ok _ _)
  exact ⟨⟨.map #[] 0, n _ (n _ (OwnL.nil e)), fun _ => rfl, fun u h => (by cases h)⟩, fun v h => (by cases h), fun v h => (by cases h), fun v h => (by cases h), fun v h => (by cases h), fun _ => rfl⟩
theorem U4.call1 (h : U4 W c G w) (e : Ext w w') : U4 W c (G.put 1 (spV c)) w' := by
  obtain ⟨o, h1, h2, h3⟩ := h.own
  exact ⟨⟨o, h1.trans e, h2, h3⟩, fun v hv => by have : some (spV c) = some v := hv; cases this; rfl, h.c5, h.p2, h.p3, h.n⟩
theorem U4.call5 (h : U4 W c G w) (e : Ext w w') : U4 W c (G.put 5 (spV c)) w' := by
  obtain ⟨o, h1, h2, h3⟩ := h.own
  exact ⟨⟨o, h1.trans e, h2, h3⟩, h.c1, fun v hv => by have : some (spV c) = some v := hv; cases this; rfl, h.p2, h.p3, h.n⟩
theorem own_spot {W : World} {c : Sp} (hl : c.2.length ≤ 16) : (W.alloc (.cells (spotL c.1 c.2).toArray 93)).ownsRow W.heap.size 93 17 (.slice (some ⟨W.heap.size, 0, none⟩) 1 1) 1 (spC c) := by
  have h := World.ownsRow_lit (base := W.heap.size) (e := 93) (size := 17) W (spotL c.1 c.2).toArray 1 (Nat.le_refl _) (by unfold maxLen; omega) (by simp [spot_len hl])
  simpa [spC] using h
theorem U4.set2 (h : U4 W c G w) (hg : G 2 = none) (hl : c.2.length ≤ 16) : U4 W c (G.put 2 (.slice (some ⟨w.heap.size, 0, none⟩) 1 1)) (w.alloc (.cells (spotL c.1 c.2).toArray 93)) := by
  obtain ⟨o, h1, h2, h3⟩ := h.own
  exact ⟨⟨o, h1.fill 0 (A := u2 c (G 2)) (A' := u2 c (some (.slice (some ⟨w.heap.size, 0, none⟩) 1 1))) rfl (alloc_ext w _) (own_spot hl), h2, h3⟩, h.c1, h.c5, fun v hv => by have : some (Value.slice (some ⟨w.heap.size, 0, none⟩) 1 1) = some v := hv; cases this; exact ⟨_, rfl⟩, h.p3, h.n⟩
theorem U4.set3 (h : U4 W c G w) (hg : G 3 = none) : U4 W c (G.put 3 (.map (some w.heap.size))) (w.alloc (.map #[] 0)) := by
  obtain ⟨o, h1, h2, h3⟩ := h.own
  have h6 := h.n hg
  refine ⟨⟨.map #[] 0, h1.fill 1 (A := u3 o (G 3)) (A' := u3 (.map #[] 0) (some (.map (some w.heap.size)))) rfl (alloc_ext w _) ⟨Nat.le_refl _, heap_alloc_new w _⟩, fun _ => rfl, fun u hu => ?_⟩, h.c1, h.c5, h.p2, fun v hv => by have : some (Value.map (some w.heap.size)) = some v := hv; cases this; exact ⟨_, rfl⟩, fun hh => by simp [Vals.put] at hh⟩
  have : G 6 = some u := hu
  rw [h6] at this; cases this
theorem U4.set6 (h : U4 W c G w) (hg : G 6 = none) {b : Nat} (h3 : G 3 = some (.map (some b))) (hr : rowOK (pad c)) {v : Value} (hv : v = spV c) : ∃ w', (Instr.mapUpdate 103 (.map (some b)) v (.int .i64 0)).run Tryd.prog w = .ok () w' ∧ ∀ u, U4 W c (G.put 6 u) w' := by
  obtain ⟨o, h1, h2, _⟩ := h.own
  rw [h2 hg, h3] at h1
  obtain ⟨w', o', hrun, hm, hO, _, _⟩ := h1.mapPut 1 (b := b) (o := .map #[] 0) rfl (MapOf.made rowV rowOK) key93 Tryd.underlying103 (x := pad c) hr rfl 0 (v := v) hv
  refine ⟨w', hrun, fun u => ⟨⟨o', ?_, fun hh => by simp [Vals.put] at hh, fun _ _ => hm⟩, h.c1, h.c5, h.p2, h.p3, fun hh => ?_⟩⟩
  · show OwnL W w' [u2 c (G 2), u3 o' (G 3)]
    rw [h3]; exact hO
  · have : G 3 = none := hh
    rw [h3] at this; cases this
end
end Go.Proofs.YtggffdkgfgdaoaaDoor

namespace Go.Proofs.YtggffdkgfgdaoaaDoor
open Go.RowKit Go.Maps
set_option linter.unusedVariables false
set_option linter.unusedSimpArgs false
attribute [local go_sem] Oper.quietV quietV Oper.gives givesV ext_refl_iff ext_alloc_iff ext_drew_iff ext_drewN_iff
theorem spot_info2 : (Tryd.prog.info? 93).map (fun i => (i.zero, i.size, i.bytes)) = some (some (.agg (spotL 0 []).toArray), 17, 136) := by kernel_rfl
theorem gives_run {P : Program} {o : Oper} {a : Act} {w w' : World} {v : Value} {K : Value → World → Prop} (t : TypeId) (s x : Operand) (ho : o.op = .call { callee := .builtin .append, args := #[s, x], argTypes := #[t, t] })
    (hr : (Builtin.append_ #[t, t] o.type #[a.eval s, a.eval x]).run P w = .ok v w') (h : K v w') : RI.Oper.gives P o a w K := by
  unfold RI.Oper.gives execOp
  simp only [ho, resolve, invoke, builtin, Sem.run_bind, Sem.run_pure, Result.andThen_ok, List.map_toArray, List.map_cons, List.map_nil, hr]
  exact h
theorem spots_len {S : List Sp} (h : ∀ c ∈ S, c.2.length ≤ 16) : (S.flatMap spC).length = S.length * 17 := by
  induction S with
  | nil => rfl
  | cons c S ih => rw [List.flatMap_cons, List.length_append, ih (fun d hd => h d (by simp [hd])), List.length_cons, Nat.succ_mul, spC, spot_len (h c (by simp))]; omega
theorem spots_get {S : List Sp} (h : ∀ c ∈ S, c.2.length ≤ 16) {i : Nat} {c : Sp} (hc : S[i]? = some c) (j : Nat) (u : Value) (hj : (spC c)[j]? = some u) : (S.flatMap spC)[i * 17 + j]? = some u := by
  induction S generalizing i with
  | nil => simp at hc
  | cons d S ih =>
    have hd : (spC d).length = 17 := spot_len (h d (by simp))
    rw [List.flatMap_cons]
    cases i with
    | zero =>
      simp at hc; subst hc
      rw [Nat.zero_mul, Nat.zero_add, List.getElem?_append_left (by have := (List.getElem?_eq_some_iff.1 hj).1; omega)]; exact hj
    | succ i =>
      have h2 := ih (fun e he => h e (by simp [he])) (i := i) (by simpa using hc)
      rw [List.getElem?_append_right (by rw [hd, Nat.succ_mul]; omega), ← h2]
      congr 1; rw [hd, Nat.succ_mul]; omega
/-- append of one spot. -/
theorem gives_spot {o : Oper} {a : Act} {w : World} {N : Nat} {K : Value → World → Prop} (S : List Sp) (c : Sp) (b : Nat) (v : Value)
    (s x : Operand) (ho : o.op = .call { callee := .builtin .append, args := #[s, x], argTypes := #[102, 102] })
    (hs : a.eval s = v) (hown : w.ownsRow N 93 17 v S.length (S.flatMap spC)) (hx : a.eval x = .slice (some ⟨b, 0, none⟩) 1 1) (hb : w.heap[b]? = some (.cells (spotL c.1 c.2).toArray 93 (0, 0)))
    (hc : c.2.length ≤ 16) (hlen : S.length ≤ 1000) (hN : N ≤ w.heap.size)
    (h : ∀ v' w', w'.ownsRow N 93 17 v' (S.length + 1) (S.flatMap spC ++ spC c) → w.grownBy w' v.ownBlock → (∀ k, v'.ownBlock = some k → v.ownBlock = some k ∨ w.heap.size ≤ k) → K v' w') : RI.Oper.gives Tryd.prog o a w K := by
  obtain ⟨i3, hi3, hz3, hs3, hb3⟩ := info_parts spot_info2
  obtain ⟨v', w', hr, h2, h3, h4⟩ := run_append_own2 (P := Tryd.prog) (w := w) N 102 o.type 93 i3 (.agg (spotL 0 []).toArray) 17 136 Tryd.underlying102 hi3 hz3 hs3 hb3 rfl (by decide) v S.length (S.flatMap spC) hown ⟨b, 0, none⟩ 1 1 (spC c) (by simp [spC, spot_len hc]) (fun j u hj => by
    rw [Addr.add_lit, Nat.zero_add]
    exact cell_of_blk hb j (by simpa [spC] using hj))
    (fun u hu => by have := spot_all c.1 c.2; rw [List.all_toArray, List.all_eq_true] at this; exact this u hu) (by unfold maxLen; omega) (by omega) hN
  exact gives_run 102 s x ho (by rw [hs, hx]; exact hr) (h v' w' h2 h3 h4)
/-- A spot out of a row of them. -/
theorem range_spot {w : World} {N g n c : Nat} {S : List Sp} {d : Sp} {i : Nat} (h : w.ownsRow N 93 17 (.slice (some ⟨g, 0, none⟩) n c) n (S.flatMap spC)) (hS : ∀ c ∈ S, c.2.length ≤ 16) (hi : S[i]? = some d) : w.rangeAt g (i * 17) (spotL d.1 d.2) :=
  fun j v hj => cell_at_own h (spots_get hS hi j v hj)
theorem quiet_load_mid {w : World} {o : Oper} {a : Act} (x : Operand) (ho : o.op = .load 93 x) (b k : Nat) (hx : a.eval x = .pointer (some ⟨b, k, none⟩)) {s : Int} {ys : List Int} (hB : w.rangeAt b k (spotL s ys)) (hl : ys.length ≤ 16) : Oper.quietV Tryd.prog o a w (.agg (spotL s ys).toArray) := by
  have hi : (Tryd.prog.info? 93).map (·.size) = some (spotL s ys).length := by rw [spot_info (s := s) hl]; simp
  unfold Oper.quietV execOp
  simp only [ho, hx, Instr.loadAt, Instr.sureAddr, Sem.run_bind, Sem.run_pure, Result.andThen_ok, run_loadVar_mid w b k 93 _ _ hB Tryd.underlying93 rfl hi]
  exact ⟨rfl, rfl⟩
def u5 (c : Sp) : Option Value → Asn
  | some (.slice (some ⟨b, _, _⟩) _ _) => .blk b (.cells (spotL c.1 c.2).toArray 93)
  | _ => noAsn
def u6 (lv : Value) (S : List Sp) (c : Sp) : Option Value → Asn
  | some v => .row 93 17 v (S.length + 1) ((S ++ [c]).flatMap spC)
  | none => .row 93 17 lv S.length (S.flatMap spC)
/-- Region 21: a literal of a spot, and its append. -/
structure I21 (W0 : World) (lv : Value) (S : List Sp) (c : Sp) (rest : List Asn) (G : Vals) (w : World) : Prop where
  own : OwnL W0 w (u5 c (G 5) :: u6 lv S c (G 6) :: rest)
  p5 : ∀ v, G 5 = some v → ∃ b, v = .slice (some ⟨b, 0, none⟩) 1 1
  n : G 5 = none → G 6 = none
section
variable {W0 w w' : World} {lv : Value} {S : List Sp} {c : Sp} {rest : List Asn} {G : Vals} {v : Value}
theorem I21.ext (h : I21 W0 lv S c rest G w) : Ext W0 w := h.own.ext
theorem I21.start (h : OwnL W0 w (.row 93 17 lv S.length (S.flatMap spC) :: rest)) : I21 W0 lv S c rest (fun _ => none) w := ⟨h.add (Ext.refl w) (A := noAsn) (noAsn_ok _ _), fun v h => (by cases h), fun _ => rfl⟩
theorem I21.set5 (h : I21 W0 lv S c rest G w) (hg : G 5 = none) : I21 W0 lv S c rest (G.put 5 (.slice (some ⟨w.heap.size, 0, none⟩) 1 1)) (w.alloc (.cells (spotL c.1 c.2).toArray 93)) :=
  ⟨h.own.fill 0 (A := u5 c (G 5)) (A' := u5 c (some (.slice (some ⟨w.heap.size, 0, none⟩) 1 1))) rfl (alloc_ext w _) ⟨Nat.le_refl _, heap_alloc_new w _⟩, fun v hv => by have : some (Value.slice (some ⟨w.heap.size, 0, none⟩) 1 1) = some v := hv; cases this; exact ⟨_, rfl⟩, fun hh => by simp [Vals.put] at hh⟩
theorem I21.row (h : I21 W0 lv S c rest G w) (hg : G 6 = none) : w.ownsRow W0.heap.size 93 17 lv S.length (S.flatMap spC) := by
  have h0 := h.own
  rw [hg] at h0
  exact h0.get 1 rfl
theorem I21.blk {b : Nat} (h : I21 W0 lv S c rest G w) (h5 : G 5 = some (.slice (some ⟨b, 0, none⟩) 1 1)) : w.heap[b]? = some (.cells (spotL c.1 c.2).toArray 93 (0, 0)) := by
  have h0 := h.own
  rw [h5] at h0
  exact (h0.get 0 rfl).2
theorem I21.set6 {b : Nat} (h : I21 W0 lv S c rest G w) (hg : G 6 = none) (h5 : G 5 = some (.slice (some ⟨b, 0, none⟩) 1 1)) (hown : w'.ownsRow W0.heap.size 93 17 v (S.length + 1) (S.flatMap spC ++ spC c)) (hgr : w.grownBy w' lv.ownBlock) (hb : ∀ k, v.ownBlock = some k → lv.ownBlock = some k ∨ w.heap.size ≤ k) : I21 W0 lv S c rest (G.put 6 v) w' := by
  have h0 := h.own
  rw [hg] at h0
  have h1 := h0.app 1 (v := lv) rfl hgr hown hb
  refine ⟨?_, h.p5, fun hh => ?_⟩
  · show OwnL W0 w' (u5 c (G 5) :: .row 93 17 v (S.length + 1) ((S ++ [c]).flatMap spC) :: rest)
    rw [List.flatMap_append, show [c].flatMap spC = spC c by simp]
    exact h1
  · have : G 5 = none := hh
    rw [h5] at this; cases this
theorem I21.fin (h : I21 W0 lv S c rest G w) (h6 : G 6 = some v) : OwnL W0 w (.row 93 17 v (S.length + 1) ((S ++ [c]).flatMap spC) :: rest) := by
  have h0 := h.own.drop
  rw [h6] at h0
  exact h0
end
end Go.Proofs.YtggffdkgfgdaoaaDoor

namespace Go.Proofs.YtggffdkgfgdaoaaDoor
open Go.RowKit Go.Maps
set_option linter.unusedVariables false
set_option linter.unusedSimpArgs false
attribute [local go_sem] Oper.quietV quietV Oper.gives givesV ext_refl_iff ext_alloc_iff ext_drew_iff ext_drewN_iff
attribute [local go_sem] RI.Oper.gives RI.givesV
set_option maxRecDepth 100000 in
set_option maxHeartbeats 4000000 in
theorem build_any (L : List Value) (h17 : L.length = 17) (W : World) : (Instr.buildSlice 102 1 #[(0, .agg L.toArray)]).run Tryd.prog W = .ok (.slice (some ⟨W.heap.size, 0, none⟩) 1 1) (W.alloc (.cells L.toArray 93)) := by
  match L, h17 with
  | [v0, v1, v2, v3, v4, v5, v6, v7, v8, v9, v10, v11, v12, v13, v14, v15, v16], _ =>
    go_simp
theorem build_spot (s : Int) (ys : List Int) (hl : ys.length ≤ 16) (W : World) : (Instr.buildSlice 102 1 #[(0, .agg (spotL s ys).toArray)]).run Tryd.prog W = .ok (.slice (some ⟨W.heap.size, 0, none⟩) 1 1) (W.alloc (.cells (spotL s ys).toArray 93)) := build_any _ (spot_len hl) W
theorem gives_lit {o : Oper} {a : Act} {w : World} {K : Value → World → Prop} (x : Operand) (ho : o.op = .buildSlice 102 1 #[(0, x)]) (s : Int) (ys : List Int) (hx : a.eval x = .agg (spotL s ys).toArray) (hl : ys.length ≤ 16)
    (h : K (.slice (some ⟨w.heap.size, 0, none⟩) 1 1) (w.alloc (.cells (spotL s ys).toArray 93))) : RI.Oper.gives Tryd.prog o a w K := by
  unfold RI.Oper.gives execOp
  simp only [ho, Sem.run_bind, Sem.run_pure, List.map_toArray, List.map_cons, List.map_nil, hx, build_spot s ys hl w, Result.andThen_ok]
  exact h
theorem gives_insert {o : Oper} {a : Act} {w w' : World} {K : Value → World → Prop} (t : TypeId) (m k x : Operand) (ho : o.op = .insert t m k x) (hr : (Instr.mapUpdate t (a.eval m) (a.eval k) (a.eval x)).run Tryd.prog w = .ok () w') (h : K undef w') : RI.Oper.gives Tryd.prog o a w K := by
  unfold RI.Oper.gives execOp
  simp only [ho, Sem.run_bind, Sem.run_pure, hr, Result.andThen_ok]
  exact h
theorem OwnL.join {w W W' : World} {L L' : List Asn} (h : OwnL w W L) (h' : OwnL W W' L') : OwnL w W' (L' ++ L) := by
  refine ⟨h.ext.trans h'.ext, fun A hA => ?_, List.pairwise_append.2 ⟨h'.apart, h.apart, fun A hA B hB b hb hb' => ?_⟩⟩
  · rcases List.mem_append.1 hA with hA | hA
    · exact Asn.mono (h'.ok A hA) h.ext.size
    · exact Asn.of (h.ok A hA) (fun b hb => h'.ext.block b (Asn.lt (h.ok A hA) hb).2)
  · have h1 := (Asn.lt (h'.ok A hA) hb).1
    have h2 := (Asn.lt (h.ok B hB) hb').2
    omega
theorem OwnL.blkAt {w W : World} {L : List Asn} (h : OwnL w W L) (k : Nat) {b : Nat} {o : Obj} (hk : L[k]? = some (.blk b o)) : W.heap[b]? = some o := by
  have h1 : Asn.ok w.heap.size W (.blk b o) := h.get k hk
  exact h1.2
theorem OwnRows.none (w : World) (B e1 e2 s2 : Nat) : OwnRows w B e1 e2 s2 (.slice none 0 0) [] [] :=
  ⟨World.ownsRow_nil _ _ _ _, rfl, fun j u r h => by simp at h, fun i j u u' h => by simp at h, fun j u h => by simp at h⟩
abbrev zMach : Obj := .cells #[.int .i64 0, .int .i64 0, .slice none 0 0] 52
def eRow (r : List (Int × Int)) : Nat × List Value := (r.length, r.flatMap edgeCells)
/-- What Unfold owns. -/
def UL (xb : Obj) (d1 d2 d8 bm : Nat) (ins outs : Int) (lv rv : Value) (om : Obj) (S : List Sp) (vs : List Value) (rows : List (List (Int × Int))) : List Asn :=
  [.rows 84 83 2 rv vs (rows.map eRow), .blk d8 (.cells #[.int .i64 ins, .int .i64 outs, rv] 52), .row 93 17 lv S.length (S.flatMap spC), .blk bm om, .blk d2 zMach, .blk d1 xb]
def UnfSt (w W : World) (xb : Obj) (d1 d2 d8 bm : Nat) (ins outs : Int) (lv : Value) (S : List Sp) (rows : List (List (Int × Int))) : Prop :=
  ∃ rv om vs, MapOf rowV rowOK om (esFrom 0 S) ∧ OwnL w W (UL xb d1 d2 d8 bm ins outs lv rv om S vs rows)
/-- With a row under way. -/
def UnfRow (w W : World) (xb : Obj) (d1 d2 d8 bm : Nat) (ins outs : Int) (lv : Value) (S : List Sp) (rows : List (List (Int × Int))) (g n : Nat) (row : List (Int × Int)) : Prop :=
  ∃ rv om vs, MapOf rowV rowOK om (esFrom 0 S) ∧ OwnL w W (.row 83 2 (.slice (some ⟨g, 0, none⟩) n n) n (row.flatMap edgeCells) :: UL xb d1 d2 d8 bm ins outs lv rv om S vs rows)
section
variable {w W W' : World} {xb : Obj} {d1 d2 d8 bm g n : Nat} {ins outs : Int} {lv : Value} {S : List Sp} {rows : List (List (Int × Int))} {row : List (Int × Int)}
theorem UnfSt.ext (h : UnfSt w W xb d1 d2 d8 bm ins outs lv S rows) : Ext w W := by obtain ⟨_, _, _, _, h⟩ := h; exact h.ext
theorem UnfSt.box (h : UnfSt w W xb d1 d2 d8 bm ins outs lv S rows) : W.heap[d1]? = some xb := by obtain ⟨_, _, _, _, h⟩ := h; exact (h.get 5 rfl).2
theorem UnfSt.res (h : UnfSt w W xb d1 d2 d8 bm ins outs lv S rows) : W.heap[d2]? = some zMach := by obtain ⟨_, _, _, _, h⟩ := h; exact (h.get 4 rfl).2
theorem UnfSt.trans (h : UnfSt w W xb d1 d2 d8 bm ins outs lv S rows) (e : Ext W W') : UnfSt w W' xb d1 d2 d8 bm ins outs lv S rows := by obtain ⟨a, b, c, d, h⟩ := h; exact ⟨a, b, c, d, h.trans e⟩
theorem UnfSt.lst (h : UnfSt w W xb d1 d2 d8 bm ins outs lv S rows) : W.ownsRow w.heap.size 93 17 lv S.length (S.flatMap spC) := by obtain ⟨_, _, _, _, h⟩ := h; exact h.get 2 rfl
theorem UnfRow.ext (h : UnfRow w W xb d1 d2 d8 bm ins outs lv S rows g n row) : Ext w W := by obtain ⟨_, _, _, _, h⟩ := h; exact h.ext
theorem UnfRow.box (h : UnfRow w W xb d1 d2 d8 bm ins outs lv S rows g n row) : W.heap[d1]? = some xb := by obtain ⟨_, _, _, _, h⟩ := h; exact (h.get 6 rfl).2
theorem UnfRow.res (h : UnfRow w W xb d1 d2 d8 bm ins outs lv S rows g n row) : W.heap[d2]? = some zMach := by obtain ⟨_, _, _, _, h⟩ := h; exact (h.get 5 rfl).2
theorem UnfRow.lst (h : UnfRow w W xb d1 d2 d8 bm ins outs lv S rows g n row) : W.ownsRow w.heap.size 93 17 lv S.length (S.flatMap spC) := by obtain ⟨_, _, _, _, h⟩ := h; exact h.get 3 rfl
theorem UnfRow.edges (h : UnfRow w W xb d1 d2 d8 bm ins outs lv S rows g n row) : W.ownsRow w.heap.size 83 2 (.slice (some ⟨g, 0, none⟩) n n) n (row.flatMap edgeCells) := by obtain ⟨_, _, _, _, h⟩ := h; exact h.get 0 rfl
theorem UnfRow.trans (h : UnfRow w W xb d1 d2 d8 bm ins outs lv S rows g n row) (e : Ext W W') : UnfRow w W' xb d1 d2 d8 bm ins outs lv S rows g n row := by obtain ⟨a, b, c, d, h⟩ := h; exact ⟨a, b, c, d, h.trans e⟩
theorem UnfRow.edge (h : UnfRow w W xb d1 d2 d8 bm ins outs lv S rows g n row) {i : Nat} (hi : i < row.length) (a b : Int) : UnfRow w ((W.setCell ⟨g, i * 2, none⟩ (.int .i64 a)).setCell ⟨g, i * 2 + 1, none⟩ (.int .i64 b)) xb d1 d2 d8 bm ins outs lv S rows g n (row.set i (a, b)) := by
  obtain ⟨rv, om, vs, h1, h2⟩ := h
  exact ⟨rv, om, vs, h1, h2.edge 0 rfl hi a b⟩
theorem UnfSt.begin (h : UnfSt w W xb d1 d2 d8 bm ins outs lv S rows) (n : Nat) (hn : n ≤ 1000) : UnfRow w (W.alloc (.cells (madeCells #[.int .i64 0, .int .i64 0] (n * 2)) 83)) xb d1 d2 d8 bm ins outs lv S rows W.heap.size n (fl [] n) := by
  obtain ⟨rv, om, vs, h1, h2⟩ := h
  exact ⟨rv, om, vs, h1, h2.add (alloc_ext W _) (own_edges W n hn)⟩
theorem UnfRow.at_ (h : UnfRow w W xb d1 d2 d8 bm ins outs lv S rows g n row) {i : Nat} (hi : i < row.length) : W.cell? ⟨g, i * 2, none⟩ = some (.int .i64 row[i].1) ∧ W.cell? ⟨g, i * 2 + 1, none⟩ = some (.int .i64 row[i].2) ∧ W.frozen? ⟨g, i * 2, none⟩ = false ∧ W.frozen? ⟨g, i * 2 + 1, none⟩ = false := by
  have rw0 := h.edges
  obtain ⟨b', o', hA, _, e0, e1⟩ := Cells.at_edge (w := W) (A := some ⟨g, 0, none⟩) (xs := row) (by
    obtain ⟨A', c', hv, _, hc⟩ := cells_of_owns rw0
    cases hv; exact hc) hi
  simp only [Option.some.injEq, Addr.mk.injEq, and_true] at hA
  obtain ⟨rfl, rfl⟩ := hA
  rw [Nat.zero_add] at e0 e1
  exact ⟨e0, e1, rw0.frozenAt _, rw0.frozenAt _⟩
theorem UnfRow.lv_ (h : UnfRow w W xb d1 d2 d8 bm ins outs lv S rows g n row) (hS : 0 < S.length) : ∃ g c, lv = .slice (some ⟨g, 0, none⟩) S.length c := ownsRow_pos h.lst hS
/-- The map is asked. -/
theorem UnfRow.ask (h : UnfRow w W xb d1 d2 d8 bm ins outs lv S rows g n row) {c : Sp} (hc : rowOK (pad c)) : (Instr.lookup 103 (.map (some bm)) (.agg (spotL c.1 c.2).toArray) true).run Tryd.prog W = .ok (.tuple #[.int .i64 ((Option.map (fun j : Nat => (j : Int)) (idxP S c)).getD 0), .bool (idxP S c).isSome]) W := by
  obtain ⟨rv, om, vs, h1, h2⟩ := h
  have h3 : w.heap.size ≤ bm ∧ W.heap[bm]? = some om := h2.get 4 rfl
  have h4 := mapK_lookup (W := W) key93 Tryd.underlying103 (by kernel_rfl) h3.2 h1 hc true (v := .agg (spotL c.1 c.2).toArray) rfl
  rw [getM_es] at h4
  simp only [if_true, Nat.zero_add, Option.isSome_map] at h4
  exact h4
theorem I21.beside {W0 w : World} {lv : Value} {S : List Sp} {c : Sp} {b : Nat} {s : Int} {ys : List Int} {rest : List Asn} {G : Vals} (h : I21 W0 lv S c (.blk b (.cells (spotL s ys).toArray 93) :: rest) G w) : SpotB w b s ys := by
  have h1 : Asn.ok W0.heap.size w (.blk b (.cells (spotL s ys).toArray 93)) := h.own.get 2 rfl
  exact h1.2
/-- The row is put behind the others. -/
theorem UnfRow.close {rv rv' : Value} {om : Obj} {vs : List Value} (hm : MapOf rowV rowOK om (esFrom 0 S)) (h : OwnL w W (.row 83 2 (.slice (some ⟨g, 0, none⟩) n n) n (row.flatMap edgeCells) :: UL xb d1 d2 d8 bm ins outs lv rv om S vs rows)) (hr : row.length = n) (hg : W.grownBy W' rv.ownBlock)
    (ho : W'.ownsRow w.heap.size 84 1 rv' (vs.length + 1) (vs ++ [.slice (some ⟨g, 0, none⟩) n n])) (hb : ∀ b, rv'.ownBlock = some b → rv.ownBlock = some b ∨ W.heap.size ≤ b) : UnfSt w (W'.setCell ⟨d8, 2, none⟩ rv') xb d1 d2 d8 bm ins outs lv S (rows ++ [row]) := by
  have h1 := (h.push hg ho hb).put 1 rfl 2 rv'
  refine ⟨rv', om, vs ++ [.slice (some ⟨g, 0, none⟩) n n], hm, ?_⟩
  unfold UL
  rw [List.map_append, show [row].map eRow = [(n, row.flatMap edgeCells)] by simp [eRow, hr]]
  exact h1
theorem own_rows {rv : Value} {om : Obj} {vs : List Value} (h : OwnL w W (.row 83 2 (.slice (some ⟨g, 0, none⟩) n n) n (row.flatMap edgeCells) :: UL xb d1 d2 d8 bm ins outs lv rv om S vs rows)) : W.ownsRow w.heap.size 84 1 rv vs.length vs ∧ vs.length = rows.length ∧ W.heap[d8]? = some (.cells #[.int .i64 ins, .int .i64 outs, rv] 52 (0, 0)) := by
  have h1 : OwnRows W w.heap.size 84 83 2 rv vs (rows.map eRow) := h.get 1 rfl
  have h2 : w.heap.size ≤ d8 ∧ W.heap[d8]? = some (.cells #[.int .i64 ins, .int .i64 outs, rv] 52 (0, 0)) := h.get 2 rfl
  exact ⟨h1.own, by rw [h1.len]; simp, h2.2⟩
/-- With a spot beside it. -/
def UnfSp (w W : World) (xb : Obj) (d1 d2 d8 bm : Nat) (ins outs : Int) (lv : Value) (S : List Sp) (rows : List (List (Int × Int))) (g n : Nat) (row : List (Int × Int)) (b : Nat) (c : Sp) : Prop :=
  ∃ rv om vs, MapOf rowV rowOK om (esFrom 0 S) ∧ OwnL w W (.row 93 17 lv S.length (S.flatMap spC) :: [.blk b (.cells (spotL c.1 c.2).toArray 93), .row 83 2 (.slice (some ⟨g, 0, none⟩) n n) n (row.flatMap edgeCells), .rows 84 83 2 rv vs (rows.map eRow), .blk d8 (.cells #[.int .i64 ins, .int .i64 outs, rv] 52), .blk bm om, .blk d2 zMach, .blk d1 xb])
theorem UnfRow.spot (h : UnfRow w W xb d1 d2 d8 bm ins outs lv S rows g n row) (e : Ext W W') {b : Nat} {c : Sp} (hb : W.heap.size ≤ b) (hB : SpotB W' b c.1 c.2) : UnfSp w W' xb d1 d2 d8 bm ins outs lv S rows g n row b c := by
  obtain ⟨rv, om, vs, h1, h2⟩ := h
  have h3 := h2.add e (A := .blk b (.cells (spotL c.1 c.2).toArray 93)) ⟨hb, hB⟩
  exact ⟨rv, om, vs, h1, h3.perm (List.perm_middle (l₁ := [_, _, _, _]))⟩
/-- A new configuration. -/
theorem UnfRow.more {c : Sp} (hc : rowOK (pad c)) (hn : idxP S c = none) {w1 : World} {lv' : Value} {rv : Value} {om : Obj} {vs : List Value} (h1 : MapOf rowV rowOK om (esFrom 0 S))
    {b : Nat} {ob : Obj} (hO : OwnL w w1 (.row 93 17 lv' (S.length + 1) ((S ++ [c]).flatMap spC) :: [.blk b ob, .row 83 2 (.slice (some ⟨g, 0, none⟩) n n) n (row.flatMap edgeCells), .rows 84 83 2 rv vs (rows.map eRow), .blk d8 (.cells #[.int .i64 ins, .int .i64 outs, rv] 52), .blk bm om, .blk d2 zMach, .blk d1 xb])) :
    ∃ w2, (Instr.mapUpdate 103 (.map (some bm)) (.agg (spotL c.1 c.2).toArray) (.int .i64 (S.length : Int))).run Tryd.prog w1 = .ok () w2 ∧ UnfRow w w2 xb d1 d2 d8 bm ins outs lv' (S ++ [c]) rows g n row := by
  have hnone : getM (esFrom 0 S) (pad c) = none := by rw [getM_es, hn]; rfl
  have hO := hO.swap.drop
  obtain ⟨w2, o', hrun, hm, hO2, _, _⟩ := hO.mapPut 4 (b := bm) rfl h1 key93 Tryd.underlying103 hc hnone (S.length : Int) (v := .agg (spotL c.1 c.2).toArray) rfl
  refine ⟨w2, hrun, rv, o', vs, by rw [es_snoc, Nat.zero_add]; exact hm, ?_⟩
  have h3 : OwnL w w2 (.row 93 17 lv' (S.length + 1) ((S ++ [c]).flatMap spC) :: [.row 83 2 (.slice (some ⟨g, 0, none⟩) n n) n (row.flatMap edgeCells), .rows 84 83 2 rv vs (rows.map eRow), .blk d8 (.cells #[.int .i64 ins, .int .i64 outs, rv] 52), .blk bm o', .blk d2 zMach, .blk d1 xb]) := hO2
  have h4 := h3.perm (List.perm_middle (l₁ := [_, _, _])).symm
  unfold UL
  rw [List.length_append, List.length_singleton]
  exact h4
end
end Go.Proofs.YtggffdkgfgdaoaaDoor

namespace Go.Proofs.YtggffdkgfgdaoaaDoor
open Go.RowKit Go.Maps
set_option linter.unusedVariables false
set_option linter.unusedSimpArgs false
attribute [local go_sem] Oper.quietV quietV Oper.gives givesV ext_refl_iff ext_alloc_iff ext_drew_iff ext_drewN_iff
attribute [local go_sem] RI.Oper.gives RI.givesV
def cfCells (p : Int × Value) : List Value := [.int .i64 p.1, p.2]
/-- Configurations in memory. -/
def ConfsC (w : World) (v : Value) (S : List Sp) (c : Nat) : Prop := ∃ (A : Option Addr) (vs : List (Int × Value)), v = .slice A S.length c ∧ vs.length = S.length ∧ Cells w A (vs.flatMap cfCells) ∧ (∀ (i : Nat) (s : Sp) (p : Int × Value), S[i]? = some s → vs[i]? = some p → p.1 = s.1 ∧ ∃ A2, p.2 = .slice A2 s.2.length s.2.length ∧ FitC w p.2 s.2) ∧ S.length ≤ c ∧ S.length ≤ lenMax
def CfKnow (vs : List (Int × Value)) (S : List Sp) (W : World) : Prop := ∀ (i : Nat) (s : Sp) (p : Int × Value), S[i]? = some s → vs[i]? = some p → p.1 = s.1 ∧ ∃ A2, p.2 = .slice A2 s.2.length s.2.length ∧ FitC W p.2 s.2
theorem cell_same {w w' : World} {b : Nat} (h : w'.heap[b]? = w.heap[b]?) (k : Nat) : w'.cell? ⟨b, k, none⟩ = w.cell? ⟨b, k, none⟩ := by simp [World.cell?, h]
def fitF (A : Option Addr) (n : Nat) (b : Nat) : Prop := 0 < n ∧ ∃ o, A = some ⟨b, o, none⟩
theorem fit_any {N : Nat} {w : World} {A : Option Addr} {xs : List Int} (h : FitC w (.slice A xs.length xs.length) xs) (hn : NewA N A xs) : (Asn.any (fitF A xs.length) (fun W => FitC W (.slice A xs.length xs.length) xs)).ok N w := by
  obtain ⟨A', hv, hc, hr⟩ := h
  injection hv with hA _ _
  subst hA
  refine ⟨fun b ⟨h0, o, hA⟩ => ⟨hn h0 _ hA, ?_⟩, fun w' hs => ⟨A, rfl, fun h0 => ?_, hr⟩⟩
  · obtain ⟨b', o', hA', hb, _⟩ := hc (by simpa using h0)
    rw [hA] at hA'; cases hA'; exact hb
  · obtain ⟨b, o, hA, hb, hcc⟩ := hc h0
    have hsame := hs b ⟨by simpa using h0, o, hA⟩
    refine ⟨b, o, hA, ?_, fun j u hj => by rw [cell_same hsame]; exact hcc j u hj⟩
    rw [Array.getElem?_eq_getElem hb] at hsame
    exact (Array.getElem?_eq_some_iff.1 hsame).1
/-- One more configuration is known. -/
theorem OwnL.conf {w W W' : World} {F : Nat → Prop} {vs : List (Int × Value)} {S : List Sp} {L : List Asn} (h : OwnL w W (.any F (CfKnow vs S) :: L)) (hl : vs.length = S.length) (e : Ext W W') {c : Sp} {A : Option Addr} (hf : FitC W' (.slice A c.2.length c.2.length) c.2) (hn : NewA W.heap.size A c.2) :
    ∃ F', OwnL w W' (.any F' (CfKnow (vs ++ [(c.1, .slice A c.2.length c.2.length)]) (S ++ [c])) :: L) := by
  have h1 := (h.add e (fit_any hf hn)).merge
  refine ⟨_, h1.weaken (Φ' := CfKnow (vs ++ [(c.1, .slice A c.2.length c.2.length)]) (S ++ [c])) (fun W hk i s p hs hp => ?_)⟩
  by_cases hi : i < S.length
  · rw [List.getElem?_append_left hi] at hs
    rw [List.getElem?_append_left (by omega)] at hp
    exact hk.2 i s p hs hp
  · have hi2 : i = S.length := by have := (List.getElem?_eq_some_iff.1 hs).1; simp at this; omega
    subst hi2
    rw [List.getElem?_append_right (Nat.le_refl _), Nat.sub_self] at hs
    rw [← hl, List.getElem?_append_right (Nat.le_refl _), Nat.sub_self] at hp
    cases hs; cases hp
    exact ⟨rfl, A, rfl, hk.1⟩
theorem confs_of {W : World} {B n c : Nat} {A : Option Addr} {vs : List (Int × Value)} {S : List Sp} (h : W.ownsRow B 34 2 (.slice A n c) n (vs.flatMap cfCells)) (hn : S.length = n) (hl : vs.length = S.length) (hk : CfKnow vs S W) (hm : n ≤ 1000) : ConfsC W (.slice A n n) S n := by
  subst hn
  obtain ⟨A', c', hv, hnc, hc⟩ := cells_of_owns h
  cases hv
  exact ⟨A, vs, rfl, hl, hc, hk, Nat.le_refl _, by unfold lenMax; omega⟩
theorem rowsC_of {W : World} {B n c : Nat} {A : Option Addr} {vs : List Value} {rows : List (List (Int × Int))} (h : OwnRows W B 84 83 2 (.slice A n c) vs (rows.map eRow)) (hn : rows.length = n) (hl : n ≤ 1000) (hr : ∀ r ∈ rows, r.length ≤ 1000) : RowsC W (.slice A n n) rows n := by
  subst hn
  have hlen : vs.length = rows.length := by rw [h.len]; simp
  obtain ⟨A', c', hv, hnc, hc⟩ := cells_of_owns h.own
  rw [hlen] at hv hnc
  cases hv
  refine ⟨A, vs, rfl, hc, hlen, fun i u es hu hes => ?_, Nat.le_refl _, by unfold lenMax; omega⟩
  have h1 := h.each i u (eRow es) hu (by rw [List.getElem?_map, hes]; rfl)
  obtain ⟨A2, c2, hu2, h3, h4⟩ := cells_of_owns h1
  subst hu2
  exact ⟨c2, A2, rfl, h4, h3, by have := hr es (List.mem_of_getElem? hes); show es.length ≤ lenMax; unfold lenMax; omega⟩
theorem clipR_any (w : World) (A : Option Addr) (n c : Nat) (hn : n ≤ c) (hn' : n ≤ 100000) : Calls Tryd.prog 45 #[.slice A n c] w fun e w' => e = .returned (.slice A n n) ∧ w = w' := by
  go_enter Tryd.func45, Tryd.ntmps45
  go_wp2
  go_ret
  exact ⟨rfl, rfl⟩
theorem clipC_any (w : World) (A : Option Addr) (n c : Nat) (hn : n ≤ c) (hn' : n ≤ 100000) : Calls Tryd.prog 46 #[.slice A n c] w fun e w' => e = .returned (.slice A n n) ∧ w = w' := by
  go_enter Tryd.func46, Tryd.ntmps46
  go_wp2
  go_ret
  exact ⟨rfl, rfl⟩
end Go.Proofs.YtggffdkgfgdaoaaDoor
