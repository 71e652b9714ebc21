/-    -/
import Derived.Test.YtmebgomnmlbgnaaDoorZK
import Derived.Test.YtmebgomnmlbgnaaDoorZX4
import Derived.Test.YtmebgomnmlbgnaaDoorZL
import Derived.Test.YtmebgomnmlbgnaaDoorZA
set_option linter.unnecessarySimpa false
set_option linter.unusedSectionVars false
namespace Go.Proofs.YtmebgomnmlbgnaaDoor
open Go.RowKit
set_option linter.unusedVariables false
set_option linter.unusedSimpArgs false
attribute [local go_sem] Oper.quietV quietV Oper.gives givesV ext_refl_iff ext_alloc_iff ext_drew_iff ext_drewN_iff
def badW (sy x : Int) : Bool := decide (x < 0) || decide (sy ≤ x)
def wordC (xs : List Int) (sy : Int) : Int := if 256 < xs.length then 3 else if xs.any (badW sy) then 1 else 0
theorem any_take {α : Type} {p : α → Bool} {xs : List α} {k : Nat} (hk : k < xs.length) : (xs.take (k + 1)).any p = ((xs.take k).any p || p xs[k]) := by
  rw [List.take_succ_eq_append_getElem hk, List.any_append]; simp
theorem any_of_get {α : Type} {p : α → Bool} {xs : List α} {k : Nat} (hk : k < xs.length) (h : p xs[k] = true) : xs.any p = true := List.any_eq_true.2 ⟨_, List.getElem_mem hk, h⟩
theorem any_full {α : Type} {p : α → Bool} {xs : List α} {k : Nat} (hk : xs.length ≤ k) (h : (xs.take k).any p = false) : xs.any p = false := by rwa [List.take_of_length_le hk] at h
set_option maxHeartbeats 800000 in
theorem refWord_any (w : World) (v : Value) (xs : List Int) (c : Nat) (sy : Int) (hv : IntsC w v xs c) : Calls Tryd.prog 36 #[v, .int .i64 sy] w fun e w' => e = .returned (.int .i64 (wordC xs sy)) ∧ w = w' := by
  obtain ⟨A, rfl, ha, _, hx⟩ := hv
  unfold lenMax at hx
  by_cases hl : 256 < xs.length
  · rw [show wordC xs sy = 3 from if_pos hl]
    go_enter Tryd.func36, Tryd.ntmps36
    go_wp2
    go_ret
    exact ⟨rfl, rfl⟩
  · have HW : Hid (wordC xs sy = if xs.any (badW sy) then 1 else 0) := if_neg hl
    go_enter Tryd.func36, Tryd.ntmps36
    go_wp2
    go_loop [5] (fun i => ∃ k : Nat, k ≤ xs.length ∧ i = .int .i64 k ∧ Hid ((xs.take k).any (badW sy) = false)) (fun i => xs.length - (intOf i).toNat)
    case atStart => exact ⟨0, by omega, rfl, Lib.hid (by simp)⟩
    case round =>
      obtain ⟨k, hk, rfl, HP⟩ := hrel
      by_cases hlt : k < xs.length
      · obtain ⟨b, o, rfl, _, c1⟩ := ha.at_int hlt
        have HT := Lib.hid (any_take (p := badW sy) hlt)
        have HM := Lib.hid (any_of_get (p := badW sy) hlt)
        generalize xs[k] = y at *
        have hB : Hid (badW sy y = (decide (y < 0) || decide (sy ≤ y))) := rfl
        by_cases hy : y < 0
        · have hr : Hid (wordC xs sy = 1) := by show _ = _; rw [HW.out, HM.out (by rw [hB.out, decide_eq_true hy]; rfl)]; rfl
          go_wp2
          go_ret
          exact ⟨by rw [hr.out]; rfl, rfl⟩
        · by_cases hy2 : sy ≤ y
          · have hr : Hid (wordC xs sy = 1) := by show _ = _; rw [HW.out, HM.out (by rw [hB.out, decide_eq_true hy2]; simp)]; rfl
            go_wp2
            go_ret
            exact ⟨by rw [hr.out]; rfl, rfl⟩
          · have hn : Hid ((xs.take (k + 1)).any (badW sy) = false) := by show _ = _; rw [HT.out, HP.out, hB.out, decide_eq_false hy, decide_eq_false hy2]; rfl
            go_wp2
            go_round
            case rel => exact ⟨k + 1, by omega, by go_num, hn⟩
            case measure => simp [intOf]; omega
      · have hr : Hid (wordC xs sy = 0) := by show _ = _; rw [HW.out, any_full (by omega) HP.out]; rfl
        go_wp2
        go_ret
        exact ⟨by rw [hr.out]; rfl, rfl⟩
set_option maxHeartbeats 400000 in
theorem wcheck1_any (w : World) (b : Nat) (sy x : Int) (hb : w.cell? ⟨b, 0, none⟩ = some (.int .i64 sy)) :
   Calls Tryd.prog 87 #[.int .i64 x, .pointer (some ⟨b, 0, none⟩)] w fun e w' => e = .returned (.bool (badW sy x)) ∧ w = w' := by
  by_cases h1 : x < 0
  · have h : Hid (badW sy x = true) := by show _ = _; unfold badW; rw [decide_eq_true h1]; rfl
    go_enter Tryd.func87, Tryd.ntmps87
    go_wp2
    go_ret
    exact ⟨by rw [h.out]; rfl, rfl⟩
  · by_cases h2 : sy ≤ x
    · have h : Hid (badW sy x = true) := by show _ = _; unfold badW; rw [decide_eq_true h2]; simp
      go_enter Tryd.func87, Tryd.ntmps87
      go_wp2
      go_ret
      exact ⟨by rw [h.out]; rfl, rfl⟩
    · have h : Hid (badW sy x = false) := by show _ = _; unfold badW; rw [decide_eq_false h1, decide_eq_false h2]; rfl
      go_enter Tryd.func87, Tryd.ntmps87
      go_wp2
      go_ret
      exact ⟨by rw [h.out]; rfl, rfl⟩
set_option maxHeartbeats 400000 in
theorem windex_any (w : World) (b : Nat) (sy : Int) (hb : w.cell? ⟨b, 0, none⟩ = some (.int .i64 sy)) (v : Value) (xs : List Int) (c : Nat) (hv : IntsC w v xs c) :
   Calls Tryd.prog 112 #[v, .func (.func 87) #[] #[.pointer (some ⟨b, 0, none⟩)]] w fun e w' => (∃ i : Int, e = .returned (.int .i64 i) ∧ Hid (decide (0 ≤ i) = xs.any (badW sy))) ∧ w = w' := by
  obtain ⟨A, rfl, ha, _, hx⟩ := hv
  unfold lenMax at hx
  have hf := wcheck1_any w b sy
  go_enter Tryd.func112, Tryd.ntmps112
  go_wp2_with (fail)
  go_loop [8, 5] (fun i _ => ∃ k : Nat, k ≤ xs.length ∧ i = .int .i64 k ∧ Hid ((xs.take k).any (badW sy) = false)) (fun i _ => xs.length - (intOf i).toNat)
  case atStart => exact ⟨0, by omega, rfl, Lib.hid (by simp)⟩
  case round =>
    obtain ⟨k, hk, rfl, HP⟩ := hrel
    by_cases hlt : k < xs.length
    · obtain ⟨b', o', rfl, _, c1⟩ := ha.at_int hlt
      have HT := Lib.hid (any_take (p := badW sy) hlt)
      have HM := Lib.hid (any_of_get (p := badW sy) hlt)
      generalize xs[k] = y at *
      have hc := hf y hb
      clear hf
      cases hB : badW sy y
      · rw [hB] at hc
        have hn : Hid ((xs.take (k + 1)).any (badW sy) = false) := by show _ = _; rw [HT.out, HP.out, hB]; rfl
        clear hB
        go_wp2_with ((with_reducible refine hc.mono ?_); rintro e w1 ⟨rfl, rfl⟩)
        go_round
        case rel => exact ⟨k + 1, by omega, by go_num, hn⟩
        case measure => simp [intOf]; omega
      · rw [hB] at hc
        have hn : Hid (xs.any (badW sy) = true) := HM.out hB
        clear hB
        go_wp2_with ((with_reducible refine hc.mono ?_); rintro e w1 ⟨rfl, rfl⟩)
        go_ret
        exact ⟨⟨k, rfl, by show _ = _; rw [hn.out]; simp⟩, rfl⟩
    · have hn : Hid (xs.any (badW sy) = false) := any_full (by omega) HP.out
      clear hf
      go_wp2
      go_ret
      exact ⟨⟨-1, rfl, by show _ = _; rw [hn.out]; rfl⟩, rfl⟩
theorem wcontains_any (w : World) (b : Nat) (sy : Int) (hb : w.cell? ⟨b, 0, none⟩ = some (.int .i64 sy)) (v : Value) (xs : List Int) (c : Nat) (hv : IntsC w v xs c) :
   Calls Tryd.prog 86 #[v, .func (.func 87) #[] #[.pointer (some ⟨b, 0, none⟩)]] w fun e w' => e = .returned (.bool (xs.any (badW sy))) ∧ w = w' := by
  go_enter Tryd.func86, Tryd.ntmps86
  go_wp2_with (fail)
  refine (windex_any w b sy hb v xs c hv).mono ?_
  rintro e w1 ⟨⟨i, rfl, hi⟩, rfl⟩
  go_wp2
  go_ret
  rw [← hi.out]
  exact ⟨rfl, rfl⟩
set_option maxHeartbeats 800000 in
theorem wordsCheck_any (w : World) (v : Value) (xs : List Int) (c : Nat) (sy : Int) (h1 : 1 ≤ sy) (h2 : sy ≤ 16) (hv : IntsC w v xs c) : Calls Tryd.prog 55 #[v, .int .i64 sy] w fun e w' => e = .returned (.int .i64 (wordC xs sy)) ∧ Ext w w' := by
  have hv0 := hv
  obtain ⟨A, rfl, ha, _, hx⟩ := hv
  unfold lenMax at hx
  have n1 : ¬ 16 < sy := by omega
  have n2 : ¬ sy < 1 := by omega
  by_cases hl : 256 < xs.length
  · rw [show wordC xs sy = 3 from if_pos hl]
    go_enter Tryd.func55, Tryd.ntmps55
    go_wp2
    go_ret
    exact ⟨rfl, alloc_ext _ _⟩
  · have HW : Hid (wordC xs sy = if xs.any (badW sy) then 1 else 0) := if_neg hl
    have hc := wcontains_any (w.alloc (.cells #[.int .i64 sy] 3)) w.heap.size sy (by simp [go_sem]) _ xs c (hv0.ext (alloc_ext _ _))
    cases hB : xs.any (badW sy)
    · rw [hB] at HW hc
      clear hB
      go_enter Tryd.func55, Tryd.ntmps55
      go_wp2_with ((with_reducible refine hc.mono ?_); rintro e w1 ⟨rfl, rfl⟩)
      go_ret
      exact ⟨by rw [HW.out]; rfl, alloc_ext _ _⟩
    · rw [hB] at HW hc
      clear hB
      go_enter Tryd.func55, Tryd.ntmps55
      go_wp2_with ((with_reducible refine hc.mono ?_); rintro e w1 ⟨rfl, rfl⟩)
      go_ret
      exact ⟨by rw [HW.out]; rfl, alloc_ext _ _⟩
end Go.Proofs.YtmebgomnmlbgnaaDoor

namespace Go.Proofs.YtmebgomnmlbgnaaDoor
open Go.RowKit
set_option linter.unusedVariables false
set_option linter.unusedSimpArgs false
attribute [local go_sem] Oper.quietV quietV Oper.gives givesV ext_refl_iff ext_alloc_iff ext_drew_iff ext_drewN_iff
end Go.Proofs.YtmebgomnmlbgnaaDoor

namespace Go.Proofs.YtmebgomnmlbgnaaDoor
open Go.RowKit Go.Maps
set_option linter.unusedVariables false
set_option linter.unusedSimpArgs false
attribute [local go_sem] Oper.quietV quietV Oper.gives givesV ext_refl_iff ext_alloc_iff ext_drew_iff ext_drewN_iff
attribute [local go_sem] RI.Oper.gives RI.givesV
theorem end_any {w0 : World} {vw : Value} {bk bw bf m cv : Nat} {root : Rx} {ws : List Int} (hI : IntsC w0 vw ws cv) (hr : root.cnt ≤ 64) (hl : ws.length ≤ 65536) : ∀ r : Rx, EndT w0 vw bk bw bf m root ws r
  | .none => end_none hI hr hl
  | .empty => end_empty hI hr hl
  | .sym a => end_sym hI hr hl a
  | .or x y => end_or hI hr hl (end_any hI hr hl x) (end_any hI hr hl y)
  | .seq x y => end_seq hI hr hl (end_any hI hr hl x) (end_any hI hr hl y)
  | .and x y => end_and hI hr hl (end_any hI hr hl x) (end_any hI hr hl y)
  | .star x => end_star hI hr hl (end_any hI hr hl x)
  | .not x => end_not hI hr hl (end_any hI hr hl x)
structure OneI (W1 : World) (m k : Nat) (Φ : Value → World → Prop) (G : Vals) (w : World) : Prop where
  ext : W1.grownBy w (some m)
  un : G k = none → w = W1
  st : ∀ v, G k = some v → Φ v w
theorem OneI.start (W1 : World) (m k : Nat) (Φ : Value → World → Prop) {G : Vals} (h : G k = none) : OneI W1 m k Φ G W1 := ⟨⟨rfl, rfl, rfl, Nat.le_refl _, fun _ _ _ => rfl⟩, fun _ => rfl, fun v hv => by rw [h] at hv; cases hv⟩
theorem OneI.call {W1 w : World} {m k : Nat} {Φ : Value → World → Prop} {G : Vals} {v : Value} (h : Φ v w) (g : W1.grownBy w (some m)) : OneI W1 m k Φ (G.put k v) w := ⟨g, fun e => by simp [Vals.put] at e, fun u hu => by simp [Vals.put] at hu; subst hu; exact h⟩
theorem cell_grown {w w' : World} {b o m : Nat} {u : Value} (h : w.cell? ⟨b, o, none⟩ = some u) (g : w.grownBy w' (some m)) (hb : b ≠ m) : w'.cell? ⟨b, o, none⟩ = some u := by
  have hl : b < w.heap.size := by
    by_cases hl : b < w.heap.size
    · exact hl
    · simp [World.cell?, Array.getElem?_eq_none (Nat.le_of_not_lt hl)] at h
  rw [World.cell?_of_block (a := ⟨b, o, none⟩) (g.block b hl (fun e => hb (by injection e)))]; exact h
theorem run_store_func (P : Program) (w : World) (a : Addr) (m : Mode) (fn : Fn) (x y : Array Value) : (store a (.func fn x y) m).run P w = stored P w a (.func fn x y) m := run_store P w a _ m rfl
attribute [local go_sem] run_store_func
def matR (ws : List Int) (r : Rx) : Bool := (endsF ws r 0).getD ws.length false
set_option maxRecDepth 100000 in
set_option maxHeartbeats 4000000 in
theorem matches_bad {sy er : Int} {t : Tr} {w : World} {v vw : Value} {ws : List Int} {cv : Nat} (hN : NodeV w t v) (hT : Tabs w) (hI : IntsC w vw ws cv) (he : checkX sy t = er) (hz : er ≠ 0) : Calls Tryd.prog 23 #[v, .int .i64 sy, vw] w (PairP w (.bool false) er) := by
  have HCK := Lib.hid he
  obtain ⟨A, c, rfl⟩ := node_parts hN
  obtain ⟨op, hop⟩ : ∃ op, op = t.op := ⟨_, rfl⟩
  obtain ⟨n, hn⟩ : ∃ op, op = t.n := ⟨_, rfl⟩
  obtain ⟨ln, hl⟩ : ∃ op, op = t.subs.length := ⟨_, rfl⟩
  rw [← hop, ← hn, ← hl] at hN ⊢
  clear hop hn hl
  have HK := Lib.hid (And.intro hN (And.intro hT hI))
  have hck := fun w1 (hE : Ext w w1) => check_any (sy := sy) (HK.out.1.ext hE) (HK.out.2.1.ext hE)
  unfold ErrP at hck
  obtain ⟨Aw, hvw, hci, hiw, hiv⟩ := id hI
  subst hvw
  clear hN hT hI hci
  go_enter Tryd.func23, Tryd.ntmps23
  go_upto_region 1 with fail
  refine wp_named ?_
  intro W1 hW1
  have hE1 : Ext w W1 := by rw [hW1]; exact (alloc_ext _ _).trans (alloc_ext _ _)
  have hB0 : W1.heap[w.heap.size]? = some (.cells #[.int .u8 (op : Int), .int .i64 n, .slice A ln c] 35 (0, 0)) := by rw [hW1]; exact heap_ext (alloc_ext _ _) (heap_alloc_new _ _)
  have hB1 : W1.heap[w.heap.size + 1]? = some (.cells #[.slice Aw ws.length cv] 42 (0, 0)) := by rw [hW1]; exact alloc2_1 _ _ _
  have HD : Hid (w.heap.size ≤ w.heap.size ∧ w.heap.size ≤ w.heap.size + 1) := Lib.hid ⟨Nat.le_refl _, by omega⟩
  clear hW1
  generalize w.heap.size + 1 = bw at *
  generalize hbn : w.heap.size = bn at *
  have k0 : ∀ w', Ext W1 w' → w'.cell? ⟨bn, 0, none⟩ = some (.int .u8 (op : Int)) := fun w' h => h.cell (cell_of_blk hB0 0 rfl)
  have k1 : ∀ w', Ext W1 w' → w'.cell? ⟨bn, 1, none⟩ = some (.int .i64 n) := fun w' h => h.cell (cell_of_blk hB0 1 rfl)
  have k2 : ∀ w', Ext W1 w' → w'.cell? ⟨bn, 2, none⟩ = some (.slice A ln c) := fun w' h => h.cell (cell_of_blk hB0 2 rfl)
  have kw : ∀ w', Ext W1 w' → w'.cell? ⟨bw, 0, none⟩ = some (.slice Aw ws.length cv) := fun w' h => h.cell (cell_of_blk hB1 0 rfl)
  have hR1 := Ext.refl W1
  have HE1 := Lib.hid hE1
  have HB := Lib.hid (And.intro hB0 hB1)
  have hck := hck W1 hE1
  have HBN := Lib.hid hbn
  clear hB0 hB1 hbn hE1
  rw [he] at hck
  have hne : (er != 0) = true := bne_iff_ne.2 hz
  clear he hz
  go_wp2_with ((with_reducible refine hck.mono ?_); rintro e W5 ⟨rfl, e5⟩)
  refine bodyPost_ret (results_tmp2 rfl _ _ _) rfl ?_
  exact ⟨rfl, HE1.out.trans e5⟩
set_option maxRecDepth 100000 in
set_option maxHeartbeats 4000000 in
theorem matches_word {sy er : Int} {t : Tr} {w : World} {v vw : Value} {ws : List Int} {cv : Nat} (hN : NodeV w t v) (hT : Tabs w) (hI : IntsC w vw ws cv) (h1 : 1 ≤ sy) (h2 : sy ≤ 16) (hc : checkX sy t = 0) (he : wordC ws sy = er) (hz : er ≠ 0) : Calls Tryd.prog 23 #[v, .int .i64 sy, vw] w (PairP w (.bool false) er) := by
  have HCK := Lib.hid he
  obtain ⟨A, c, rfl⟩ := node_parts hN
  obtain ⟨op, hop⟩ : ∃ op, op = t.op := ⟨_, rfl⟩
  obtain ⟨n, hn⟩ : ∃ op, op = t.n := ⟨_, rfl⟩
  obtain ⟨ln, hl⟩ : ∃ op, op = t.subs.length := ⟨_, rfl⟩
  rw [← hop, ← hn, ← hl] at hN ⊢
  clear hop hn hl
  have HK := Lib.hid (And.intro hN (And.intro hT hI))
  have hck := fun w1 (hE : Ext w w1) => check_any (sy := sy) (HK.out.1.ext hE) (HK.out.2.1.ext hE)
  unfold ErrP at hck
  obtain ⟨Aw, hvw, hci, hiw, hiv⟩ := id hI
  subst hvw
  clear hN hT hI hci
  go_enter Tryd.func23, Tryd.ntmps23
  go_upto_region 1 with fail
  refine wp_named ?_
  intro W1 hW1
  have hE1 : Ext w W1 := by rw [hW1]; exact (alloc_ext _ _).trans (alloc_ext _ _)
  have hB0 : W1.heap[w.heap.size]? = some (.cells #[.int .u8 (op : Int), .int .i64 n, .slice A ln c] 35 (0, 0)) := by rw [hW1]; exact heap_ext (alloc_ext _ _) (heap_alloc_new _ _)
  have hB1 : W1.heap[w.heap.size + 1]? = some (.cells #[.slice Aw ws.length cv] 42 (0, 0)) := by rw [hW1]; exact alloc2_1 _ _ _
  have HD : Hid (w.heap.size ≤ w.heap.size ∧ w.heap.size ≤ w.heap.size + 1) := Lib.hid ⟨Nat.le_refl _, by omega⟩
  clear hW1
  generalize w.heap.size + 1 = bw at *
  generalize hbn : w.heap.size = bn at *
  have k0 : ∀ w', Ext W1 w' → w'.cell? ⟨bn, 0, none⟩ = some (.int .u8 (op : Int)) := fun w' h => h.cell (cell_of_blk hB0 0 rfl)
  have k1 : ∀ w', Ext W1 w' → w'.cell? ⟨bn, 1, none⟩ = some (.int .i64 n) := fun w' h => h.cell (cell_of_blk hB0 1 rfl)
  have k2 : ∀ w', Ext W1 w' → w'.cell? ⟨bn, 2, none⟩ = some (.slice A ln c) := fun w' h => h.cell (cell_of_blk hB0 2 rfl)
  have kw : ∀ w', Ext W1 w' → w'.cell? ⟨bw, 0, none⟩ = some (.slice Aw ws.length cv) := fun w' h => h.cell (cell_of_blk hB1 0 rfl)
  have hR1 := Ext.refl W1
  have HE1 := Lib.hid hE1
  have HB := Lib.hid (And.intro hB0 hB1)
  have hck := hck W1 hE1
  have HBN := Lib.hid hbn
  clear hB0 hB1 hbn hE1
  rw [hc] at hck
  have hwc := fun w1 (e : Ext W1 w1) => wordsCheck_any w1 _ ws cv sy h1 h2 (HK.out.2.2.ext (HE1.out.trans e))
  rw [he] at hwc
  have hne : (er != 0) = true := bne_iff_ne.2 hz
  clear he hz hc h1 h2
  go_wp2_with (first | ((with_reducible refine hck.mono ?_); rintro e W5 ⟨rfl, e5⟩) | ((with_reducible refine (hwc _ e5).mono ?_); rintro e W6 ⟨rfl, e6⟩))
  refine bodyPost_ret (results_tmp2 rfl _ _ _) rfl ?_
  exact ⟨rfl, (HE1.out.trans e5).trans e6⟩
set_option maxRecDepth 100000 in
set_option maxHeartbeats 4000000 in
theorem matches_ok {sy : Nat} {r : Rx} {w : World} {v vw : Value} {ws : List Int} {cv : Nat} (hN : NodeV w r.tr v) (hT : Tabs w) (hI : IntsC w vw ws cv) (h1 : 1 ≤ sy) (h2 : sy ≤ 16) (ho : r.okS sy = true) (hcn : r.cnt ≤ 64) (he : wordC ws (sy : Int) = 0) : Calls Tryd.prog 23 #[v, .int .i64 (sy : Int), vw] w (PairP w (.bool (matR ws r)) 0) := by
  have hc := check_rx h1 h2 hcn ho
  have hln : ws.length ≤ 256 := by
    unfold wordC at he
    split at he
    · cases he
    · omega
  obtain ⟨t, ht⟩ : ∃ t, t = r.tr := ⟨_, rfl⟩
  rw [← ht] at hN hc
  have HT := Lib.hid ht
  clear ht
  have h1 : (1 : Int) ≤ (sy : Int) := by omega
  have h2 : (sy : Int) ≤ 16 := by omega
  generalize (sy : Int) = sy at *
  obtain ⟨A, c, rfl⟩ := node_parts hN
  obtain ⟨op, hop⟩ : ∃ op, op = t.op := ⟨_, rfl⟩
  obtain ⟨n, hn⟩ : ∃ op, op = t.n := ⟨_, rfl⟩
  obtain ⟨ln, hl⟩ : ∃ op, op = t.subs.length := ⟨_, rfl⟩
  rw [← hop, ← hn, ← hl] at hN ⊢
  clear hop hn hl
  have HK := Lib.hid (And.intro hN (And.intro hT hI))
  have hck := fun w1 (hE : Ext w w1) => check_any (sy := sy) (HK.out.1.ext hE) (HK.out.2.1.ext hE)
  unfold ErrP at hck
  obtain ⟨Aw, hvw, hci, hiw, hiv⟩ := id hI
  subst hvw
  clear hN hT hI hci
  go_enter Tryd.func23, Tryd.ntmps23
  go_upto_region 1 with fail
  refine wp_named ?_
  intro W1 hW1
  have hE1 : Ext w W1 := by rw [hW1]; exact (alloc_ext _ _).trans (alloc_ext _ _)
  have hB0 : W1.heap[w.heap.size]? = some (.cells #[.int .u8 (op : Int), .int .i64 n, .slice A ln c] 35 (0, 0)) := by rw [hW1]; exact heap_ext (alloc_ext _ _) (heap_alloc_new _ _)
  have hB1 : W1.heap[w.heap.size + 1]? = some (.cells #[.slice Aw ws.length cv] 42 (0, 0)) := by rw [hW1]; exact alloc2_1 _ _ _
  have HD : Hid (w.heap.size ≤ w.heap.size ∧ w.heap.size ≤ w.heap.size + 1) := Lib.hid ⟨Nat.le_refl _, by omega⟩
  clear hW1
  generalize w.heap.size + 1 = bw at *
  generalize hbn : w.heap.size = bn at *
  have k0 : ∀ w', Ext W1 w' → w'.cell? ⟨bn, 0, none⟩ = some (.int .u8 (op : Int)) := fun w' h => h.cell (cell_of_blk hB0 0 rfl)
  have k1 : ∀ w', Ext W1 w' → w'.cell? ⟨bn, 1, none⟩ = some (.int .i64 n) := fun w' h => h.cell (cell_of_blk hB0 1 rfl)
  have k2 : ∀ w', Ext W1 w' → w'.cell? ⟨bn, 2, none⟩ = some (.slice A ln c) := fun w' h => h.cell (cell_of_blk hB0 2 rfl)
  have kw : ∀ w', Ext W1 w' → w'.cell? ⟨bw, 0, none⟩ = some (.slice Aw ws.length cv) := fun w' h => h.cell (cell_of_blk hB1 0 rfl)
  have hR1 := Ext.refl W1
  have HE1 := Lib.hid hE1
  have HB := Lib.hid (And.intro hB0 hB1)
  have hck := hck W1 hE1
  have HBN := Lib.hid hbn
  clear hB0 hB1 hbn hE1
  rw [hc] at hck
  have hwc := fun w1 (e : Ext W1 w1) => wordsCheck_any w1 _ ws cv sy h1 h2 (HK.out.2.2.ext (HE1.out.trans e))
  rw [he] at hwc
  clear he hc h1 h2
  go_upto_region 7 with (first | ((with_reducible refine hck.mono ?_); rintro e W5 ⟨rfl, e5⟩) | ((with_reducible refine (hwc _ e5).mono ?_); rintro e W6 ⟨rfl, e6⟩))
  have hmm := @run_makeMap Tryd.prog
  have hmf : ∀ (fn : Fn) (first cap : Array Value) (w : World), (Instr.makeFunc fn first cap).run Tryd.prog w = .ok (.func fn first cap) w := fun _ _ _ _ => rfl
  go_upto_region 9 with fail
  refine wp_named ?_
  intro W7 hW7
  have hE67 : Ext W6 W7 := by rw [hW7]; exact ((alloc_ext _ _).trans (alloc_ext _ _)).trans (alloc_ext _ _)
  have hm7 : MapG W7 W6.heap.size plcV okP [] := by rw [hW7]; exact ((MapG.made W6 plcV okP).ext (alloc_ext _ _)).ext (alloc_ext _ _)
  have hk7 : W7.heap[W6.heap.size + 1]? = some (.cells #[.map (some W6.heap.size)] 85 (0, 0)) := by rw [hW7]; exact alloc3_1 _ _ _ _
  have hf7 : W7.heap[W6.heap.size + 1 + 1]? = some (.cells #[.nilFunc] 86 (0, 0)) := by rw [hW7]; exact alloc3_2 _ _ _ _
  have z7 := cell_of_blk hf7 0 (u := .nilFunc) rfl
  have f7 := free_of_blk hf7 0
  have H7 := Lib.hid (And.intro hE67 (And.intro hm7 (And.intro hk7 hf7)))
  clear hW7 hE67 hm7 hk7 hf7 hmm
  obtain ⟨m, hm⟩ : ∃ m, m = W6.heap.size := ⟨_, rfl⟩
  obtain ⟨bk, hbk⟩ : ∃ m, m = W6.heap.size + 1 := ⟨_, rfl⟩
  obtain ⟨bf, hbf⟩ : ∃ m, m = W6.heap.size + 1 + 1 := ⟨_, rfl⟩
  rw [← hbf] at z7 f7 H7 ⊢
  rw [← hbk] at H7 ⊢
  rw [← hm] at H7 ⊢
  have HM := Lib.hid (And.intro hm (And.intro hbk hbf))
  clear hm hbk hbf
  go_upto_region 10 with fail
  refine wp_named ?_
  intro W8 hW8
  have hf8 : W8.heap[bf]? = some (.cells #[.func (.func 56) #[] #[.pointer (some ⟨bk, 0, none⟩), .pointer (some ⟨bw, 0, none⟩), .pointer (some ⟨bf, 0, none⟩)]] 86 (0, 0)) := by rw [hW8]; exact heap_setCell_same W7 bf 0 _ 86 _ H7.out.2.2.2
  have g8 : W7.grownBy W8 (some bf) := by rw [hW8]; exact grown_setK W7 bf 0 _
  have hE16 : Ext W1 W6 := e5.trans e6
  have hl1 := lt_of_block (heap_ext hE16 HB.out.1)
  have hl2 := lt_of_block (heap_ext hE16 HB.out.2)
  have hd := HM.out
  have hE68 : Ext W6 W8 := Below.grown H7.out.1 g8 H7.out.1.size (fun k hk => by cases hk; omega)
  have hm8 : MapG W8 m plcV okP [] := H7.out.2.1.grown g8 (fun e => by injection e; omega)
  have hEnv : EnvM W6 (.slice Aw ws.length cv) bk bw bf m W8 := ⟨hE68, blk_keep H7.out.2.2.1 g8 (by omega), heap_ext (hE16.trans hE68) HB.out.2, hf8, by omega⟩
  have hn8 : W8.heap[bn]? = some (.cells #[.int .u8 (op : Int), .int .i64 n, .slice A ln c] 35 (0, 0)) := heap_ext (hE16.trans hE68) HB.out.1
  have hI6 : IntsC W6 (.slice Aw ws.length cv) ws cv := HK.out.2.2.ext (HE1.out.trans hE16)
  have hW06 := (HE1.out.trans hE16).size
  have hN6 := HK.out.1.ext (HE1.out.trans hE16)
  rw [HT.out] at hN6
  have hcall := fun w1 (e : Ext W8 w1) => end_any hI6 hcn (by omega) r (fun _ => True) (fun _ => False) w1 _ 0 0 (fun _ _ => trivial) (nodeAt_zero r) (Nat.zero_le _) (hEnv.next e) hN6 ⟨[], hm8.ext e, fun p v h => by cases h⟩
  unfold EndQ at hcall
  rw [show (((0 : Nat) : Int)) = 0 from rfl] at hcall
  have HCC := Lib.hid hcall
  have HE8 := Lib.hid ((HE1.out.trans hE16).trans hE68)
  have HENV := Lib.hid (And.intro hEnv (And.intro hn8 hm8))
  have HD8 : Hid (bn ≠ m ∧ bw ≠ m ∧ bf ≠ m ∧ w.heap.size ≤ m) := Lib.hid ⟨by omega, by omega, by omega, by omega⟩
  clear hW8 hf8 g8 hE16 hl1 hl2 hd hE68 hm8 hEnv hn8 hI6 hN6 hcall z7 f7 k0 k1 k2 kw hR1 hck hwc hmf e5 e6
  obtain ⟨Φ, hΦ⟩ : ∃ Φ : Value → World → Prop, Φ = fun v w' => ∃ b, v = .slice (some ⟨b, 0, none⟩) (ws.length + 1) (ws.length + 1) ∧ BoolsB w' b (endsF ws r 0) := ⟨_, rfl⟩
  have HΦ := Lib.hid hΦ
  clear hΦ
  have HED := Lib.hid ((Ext.refl W8).drew)
  have kf : ∀ w', W8.drew.grownBy w' (some m) → w'.cell? ⟨bf, 0, none⟩ = some (.func (.func 56) #[] #[.pointer (some ⟨bk, 0, none⟩), .pointer (some ⟨bw, 0, none⟩), .pointer (some ⟨bf, 0, none⟩)]) := fun w' g => cell_grown (HED.out.cell (cell_of_blk HENV.out.1.f 0 rfl)) g HD8.out.2.2.1
  have k0 : ∀ w', W8.drew.grownBy w' (some m) → w'.cell? ⟨bn, 0, none⟩ = some (.int .u8 (op : Int)) := fun w' g => cell_grown (HED.out.cell (cell_of_blk HENV.out.2.1 0 rfl)) g HD8.out.1
  have k1 : ∀ w', W8.drew.grownBy w' (some m) → w'.cell? ⟨bn, 1, none⟩ = some (.int .i64 n) := fun w' g => cell_grown (HED.out.cell (cell_of_blk HENV.out.2.1 1 rfl)) g HD8.out.1
  have k2 : ∀ w', W8.drew.grownBy w' (some m) → w'.cell? ⟨bn, 2, none⟩ = some (.slice A ln c) := fun w' g => cell_grown (HED.out.cell (cell_of_blk HENV.out.2.1 2 rfl)) g HD8.out.1
  have kw : ∀ w', W8.drew.grownBy w' (some m) → w'.cell? ⟨bw, 0, none⟩ = some (.slice Aw ws.length cv) := fun w' g => cell_grown (HED.out.cell (cell_of_blk HENV.out.1.w 0 rfl)) g HD8.out.2.1
  refine RI.wp_region_inv 5 (OneI W8.drew m 2 Φ) (fun k => [2].contains k) (fun k => ([[], [], [0, 1], [], [3], [0, 1, 2, 3, 4], [0, 1, 2, 3, 4, 5], [0, 1, 2, 3, 4, 5, 6], [0, 1, 2, 3, 4, 5, 6, 7]] : List (List Nat)).getD k []) (by kernel_rfl) (by kernel_rfl) ?_ ?_
  rotate_left; simp only [List.take_succ_cons, List.take_zero]; rotate_left
  · exact OneI.start _ _ _ _ rfl
  repeat (first | (with_reducible refine RI.lexL_quiet' (v := ?_) ?_ ?_ ?_ ?_; rotate_left; (· with_reducible rfl); (· decide); (· intro G w1 hI1 hA1; have hw1 := hI1.ext; go_simp; with_reducible rfl); (try simp only [Act.put, List.setIfInBounds_toArray, List.set_cons_zero, List.set_cons_succ])) | (with_reducible refine RI.lexL_skip ?_ ?_; (· simp [Region.wanted, yielded, undef]); (try simp only [Act.put, List.setIfInBounds_toArray, List.set_cons_zero, List.set_cons_succ])) | (with_reducible refine RI.lexL_quiet (v := ?_) ?_ ?_ ?_ ?_; rotate_left; (· simp [Region.wanted, yielded, undef]); (· decide); (· intro G w1 hI1 hA1; have hw1 := hI1.ext; go_simp; with_reducible rfl); (try simp only [Act.put, List.setIfInBounds_toArray, List.set_cons_zero, List.set_cons_succ])))
  with_reducible refine RI.lexL_give' ?_ ?_ ?_ ?_; (· with_reducible rfl); (· decide)
  · intro G w5 hI hA hg
    have hw1 := hI.ext
    have h5 := hI.un hg
    subst h5
    go_simp
    refine (HCC.out _ HED.out).mono ?_
    rintro e w6 ⟨b5, rfl, -, h6, h7, h8⟩
    exact ⟨_, rfl, OneI.call (by rw [HΦ.out]; exact ⟨b5, rfl, h6⟩) h7⟩
  intro v5 G w5 hI hs2
  have hv5 := hI.st v5 (hs2 2 v5 rfl)
  rw [HΦ.out] at hv5
  obtain ⟨b5, rfl, -⟩ := hv5
  clear hI hs2 G w5
  (try simp only [Act.put, List.setIfInBounds_toArray, List.set_cons_zero, List.set_cons_succ])
  repeat (first | (with_reducible refine RI.lexL_quiet' (v := ?_) ?_ ?_ ?_ ?_; rotate_left; (· with_reducible rfl); (· decide); (· intro G w1 hI1 hA1; have hw1 := hI1.ext; go_simp; with_reducible rfl); (try simp only [Act.put, List.setIfInBounds_toArray, List.set_cons_zero, List.set_cons_succ])) | (with_reducible refine RI.lexL_skip ?_ ?_; (· simp [Region.wanted, yielded, undef]); (try simp only [Act.put, List.setIfInBounds_toArray, List.set_cons_zero, List.set_cons_succ])) | (with_reducible refine RI.lexL_quiet (v := ?_) ?_ ?_ ?_ ?_; rotate_left; (· simp [Region.wanted, yielded, undef]); (· decide); (· intro G w1 hI1 hA1; have hw1 := hI1.ext; go_simp; with_reducible rfl); (try simp only [Act.put, List.setIfInBounds_toArray, List.set_cons_zero, List.set_cons_succ])))
  with_reducible refine RI.lexL_nil ?_; intro w1 hI1; simp only [List.drop_succ_cons, List.drop_zero]
  have hv5 := hI1.st _ rfl
  rw [HΦ.out] at hv5
  obtain ⟨b6, hb6, h9⟩ := hv5
  have hb6 : b5 = b6 := by injection hb6 with h1; injection h1 with h1; injection h1
  subst hb6
  have z9 := h9.cell (k := ws.length) (by rw [endsF_len]; omega)
  have HFI := Lib.hid (show Ext w w1 from Below.grown (HE8.out.trans HED.out) hI1.ext (HE8.out.trans HED.out).size (fun k hk => by cases hk; exact HD8.out.2.2.2))
  have HMR : Hid (matR ws r = (endsF ws r 0).getD ws.length false) := Lib.hid rfl
  have hltI : (ws.length : Int) < (ws.length : Int) + 1 := by omega
  clear kf k0 k1 k2 kw hI1 h9
  go_wp2
  refine bodyPost_ret (results_tmp2 rfl _ _ _) rfl ?_
  exact ⟨by rw [HMR.out]; rfl, HFI.out⟩
end Go.Proofs.YtmebgomnmlbgnaaDoor
