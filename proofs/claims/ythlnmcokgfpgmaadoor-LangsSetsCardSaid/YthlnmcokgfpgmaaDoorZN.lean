/- The number of a word: how many words come before it. Plain lists. law23.Word 27; THE LAW LangsRank 6: the walk. -/
import Derived.Test.YthlnmcokgfpgmaaDoorZK
import Derived.Test.YthlnmcokgfpgmaaDoorZL
namespace Go.Proofs.YthlnmcokgfpgmaaDoor
open Go.RowKit
set_option linter.unusedVariables false
set_option linter.unusedSimpArgs false

theorem foldS_exact {α : Type} {f g : α → Nat} : ∀ (l : List α) (c : Nat), (∀ y ∈ l, f y = min (g y) topN) → c + (l.map g).sum ≤ topN → l.foldl (fun c y => satS c (f y)) c = c + (l.map g).sum
  | [], c, _, _ => rfl
  | x :: r, c, hf, h => by
    simp only [List.map_cons, List.sum_cons] at h ⊢
    have h1 : f x = g x := by rw [hf x (by simp)]; exact Nat.min_eq_left (by omega)
    rw [List.foldl_cons, show satS c (f x) = c + g x by rw [h1]; exact Nat.min_eq_left (by omega), foldS_exact r _ (fun y hy => hf y (by simp [hy])) (by omega)]; omega
theorem foldS_min {α : Type} {f g : α → Nat} : ∀ (l : List α) (c : Nat), (∀ y ∈ l, f y = min (g y) topN) → l.foldl (fun c y => satS c (f y)) (min c topN) = min (c + (l.map g).sum) topN
  | [], c, _ => by simp
  | x :: r, c, hf => by
    simp only [List.map_cons, List.sum_cons]
    rw [List.foldl_cons, show satS (min c topN) (f x) = min (c + g x) topN by rw [hf x (by simp)]; unfold satS; omega, foldS_min r _ (fun y hy => hf y (by simp [hy])), Nat.add_assoc]
/-- What is counted, up to the top. -/
theorem tl_sat {d : Dfa} (hg : Good d) : ∀ j s, s < d.n → tlN d j s = min (cntW d j s) topN
  | 0, s, hs => by
    rw [cntW_zero]
    unfold tlN tailL tl0 Dfa.ac
    have hs' : s < d.acc.length := by rw [hg.acc]; exact hs
    rw [List.getD_eq_getElem?_getD, List.getElem?_map, List.getD_eq_getElem?_getD, List.getElem?_eq_getElem hs']
    cases d.acc[s] <;> simp [topN]
  | j + 1, s, hs => by
    rw [cntW_succ]
    have hs' : s < d.rows.length := hs
    unfold tlN tailL
    rw [List.getD_eq_getElem?_getD, List.getElem?_map, List.getElem?_eq_getElem hs']
    show tlRow (tailL d j) d.rows[s] = _
    have hsum : (d.rows[s].map (fun x : Int => cntW d j x.toNat)) = (List.range d.k).map (fun x => cntW d j (d.to s x)) := row_map hg hs' (fun n => cntW d j n)
    have h2 := foldS_min (f := fun x : Int => (tailL d j).getD x.toNat 0) (g := fun x : Int => cntW d j x.toNat) d.rows[s] 0 (fun y hy => by
      have h3 := hg.fit _ (List.getElem_mem hs') y hy
      exact tl_sat hg j y.toNat (by unfold Dfa.n; omega))
    rw [hsum, Nat.zero_add] at h2
    rw [← h2]; rfl
/-- The words of its length that come before u and are accepted from s. -/
def lexC (d : Dfa) (s : Nat) (u : List Nat) : Nat := (lev d.k u.length).countP (fun v => d.ac (d.run s v) && befG (wI v) (wI u))
theorem lexC_nil (d : Dfa) (s : Nat) : lexC d s [] = 0 := by
  unfold lexC
  rw [List.countP_eq_zero]
  intro v hv
  obtain rfl : v = [] := by simpa [lev] using hv
  simp [wI, befG]
theorem sum_split {k x : Nat} (hx : x < k) (f : Nat → Nat) (h : ∀ y, x < y → f y = 0) : ((List.range k).map f).sum = ((List.range x).map f).sum + f x := by
  obtain ⟨m, rfl⟩ : ∃ m, k = (x + 1) + m := ⟨k - (x + 1), by omega⟩
  rw [List.range_add, List.map_append, List.sum_append, List.range_succ, List.map_append, List.sum_append]
  have : (((List.range m).map (fun i => (x + 1) + i)).map f).sum = 0 := by
    rw [List.sum_eq_zero_iff_forall_eq_nat]
    intro z hz
    obtain ⟨y, hy, rfl⟩ := List.mem_map.1 hz
    obtain ⟨i, _, rfl⟩ := List.mem_map.1 hy
    exact h _ (by omega)
  rw [this]; simp
theorem lexC_cons (d : Dfa) (s x : Nat) (r : List Nat) (hx : x < d.k) : lexC d s (x :: r) = ((List.range x).map (fun y => cntW d r.length (d.to s y))).sum + lexC d (d.to s x) r := by
  unfold lexC
  rw [List.length_cons, lev_front, countP_flat, sum_split hx]
  · congr 1
    · congr 1
      refine List.map_congr_left fun y hy => ?_
      rw [List.countP_map]
      unfold cntW
      refine List.countP_congr fun v hv => ?_
      have := List.mem_range.1 hy
      have h1 : ((y : Nat) : Int) ≠ (x : Int) := by omega
      have h2 : ((y : Nat) : Int) < (x : Int) := by omega
      simp [wI, befG, Dfa.run, h1, h2]
    · rw [List.countP_map]
      refine List.countP_congr fun v hv => ?_
      simp [wI, befG, Dfa.run]
  · intro y hy
    rw [List.countP_map, List.countP_eq_zero]
    intro v hv
    have h1 : ((y : Nat) : Int) ≠ (x : Int) := by omega
    have h2 : ¬ ((y : Nat) : Int) < (x : Int) := by omega
    simp [wI, befG, h1, h2]
theorem lexC_le (d : Dfa) (s : Nat) (u : List Nat) : lexC d s u ≤ d.k ^ u.length := by
  unfold lexC
  rw [← lev_len]
  exact List.countP_le_length
theorem rk2_sum {d : Dfa} (hg : Good d) : ∀ (u : List Nat) (s c : Nat), s < d.n → okW d.k u → c + lexC d s u ≤ topN → rk2 d (wI u) s c = c + lexC d s u
  | [], s, c, _, _, _ => by rw [lexC_nil]; rfl
  | x :: r, s, c, hs, hw, hc => by
    have hx : x < d.k := hw x (by simp)
    have hr : okW d.k r := fun y hy => hw y (by simp [hy])
    rw [lexC_cons d s x r hx] at hc ⊢
    show rk2 d (wI r) (d.to s ((x : Int)).toNat) (rkX d (wI r).length s c ((x : Int)).toNat) = _
    rw [Int.toNat_natCast, wI_len]
    have h2 : rkX d r.length s c x = c + ((List.range x).map (fun y => cntW d r.length (d.to s y))).sum := by
      unfold rkX
      exact foldS_exact (f := fun y => tlN d r.length (d.to s y)) _ _ (fun y hy => tl_sat hg _ _ (hg.to_lt hs (by have := List.mem_range.1 hy; omega))) (by omega)
    rw [h2, rk2_sum hg r _ _ (hg.to_lt hs hx) hr (by omega)]; omega
/-- How many words of less than m symbols are accepted. -/
def shortC (d : Dfa) (m : Nat) : Nat := ((List.range m).map (fun j => cntW d j 0)).sum
theorem shortC_succ (d : Dfa) (m : Nat) : shortC d (m + 1) = shortC d m + cntW d m 0 := by unfold shortC; rw [List.range_succ]; simp
theorem shortC_mono (d : Dfa) {m n : Nat} (h : m ≤ n) : shortC d m ≤ shortC d n := by
  induction n with
  | zero => rw [Nat.le_zero.1 h]; exact Nat.le_refl _
  | succ n ih =>
    rcases Nat.lt_or_ge m (n + 1) with h1 | h1
    · rw [shortC_succ]; have := ih (by omega); omega
    · rw [Nat.le_antisymm h h1]; exact Nat.le_refl _
/-- The number of a word, if it is not too great. -/
theorem rank_sum {d : Dfa} (hg : Good d) {u : List Nat} (hw : okW d.k u) (hl : u.length ≤ 256) (hs : shortC d u.length + lexC d 0 u ≤ 4611686018427387904) : rankR d (wI u) = (((shortC d u.length + lexC d 0 u : Nat) : Int), 0) := by
  have h0 : 0 < d.n := by have := hg.size; unfold Dfa.n; omega
  have hwc : wordC (wI u) d.sy = 0 := by
    unfold wordC
    rw [if_neg (by rw [wI_len]; omega), if_neg]
    rw [Bool.not_eq_true, List.any_eq_false]
    intro x hx
    obtain ⟨y, hy, rfl⟩ := List.mem_map.1 hx
    have h1 := hw y hy
    have h2 := hg.kk.1
    simp only [badW, Bool.or_eq_true, decide_eq_true_eq]
    omega
  have h1 : rk1 d u.length = shortC d u.length := by
    unfold rk1
    have := foldS_exact (f := fun j => tlN d j 0) (g := fun j => cntW d j 0) (List.range u.length) 0 (fun j hj => tl_sat hg j 0 h0) (by unfold shortC at hs; unfold topN; omega)
    rw [this, Nat.zero_add]; rfl
  have h2 : rkL d (wI u) = shortC d u.length + lexC d 0 u := by
    unfold rkL
    rw [wI_len, rk2_sum hg u 0 _ h0 hw (by rw [h1]; unfold topN; omega), h1]
  unfold rankR
  rw [if_neg (fun h => h ((good_iff d).2 hg)), if_neg (fun h => h hwc), h2, if_neg (by omega)]
/-- How many of a list of words come before one. -/
def befN (ws : List (List Nat)) (u : List Nat) : Nat := ws.countP (fun v => befL (wI v) (wI u))
theorem befL_len {u v : List Nat} (h : u.length = v.length) : befL (wI u) (wI v) = befG (wI u) (wI v) := by
  unfold befL; rw [if_pos (by rw [wI_len, wI_len]; exact h)]
theorem befL_short {u v : List Nat} (h : u.length < v.length) : befL (wI u) (wI v) = true := by
  unfold befL
  rw [if_neg (by rw [wI_len, wI_len]; omega), wI_len, wI_len]
  simpa using h
theorem befL_long {u v : List Nat} (h : v.length < u.length) : befL (wI u) (wI v) = false := by
  unfold befL
  rw [if_neg (by rw [wI_len, wI_len]; omega), wI_len, wI_len]
  simp; omega
theorem befN_append (ws vs : List (List Nat)) (u : List Nat) : befN (ws ++ vs) u = befN ws u + befN vs u := List.countP_append
theorem bef_words (d : Dfa) (u : List Nat) : befN (wordsL d u.length) u = shortC d u.length + lexC d 0 u := by
  unfold befN wordsL shortC
  rw [List.range_succ, List.flatMap_append, List.countP_append, countP_flat]
  congr 1
  · congr 1
    refine List.map_congr_left fun j hj => ?_
    have hj := List.mem_range.1 hj
    rw [List.countP_filter]
    unfold cntW
    refine List.countP_congr fun v hv => ?_
    have h1 := (lev_ok hv).1
    have h2 := befL_short (u := v) (v := u) (by omega)
    simp [h2, accW]
  · simp only [List.flatMap_cons, List.flatMap_nil, List.append_nil]
    rw [List.countP_filter]
    unfold lexC
    refine List.countP_congr fun v hv => ?_
    rw [befL_len (lev_ok hv).1, Bool.and_comm]; rfl
/-- Longer words do not come before. -/
theorem bef_more (d : Dfa) (u : List Nat) : ∀ m, befN (wordsL d (u.length + m)) u = shortC d u.length + lexC d 0 u
  | 0 => bef_words d u
  | m + 1 => by
    have h1 : wordsL d (u.length + (m + 1)) = wordsL d (u.length + m) ++ (lev d.k (u.length + m + 1)).filter (accW d) := by
      unfold wordsL
      rw [show u.length + (m + 1) + 1 = (u.length + m + 1) + 1 by omega, List.range_succ, List.flatMap_append]; simp
    rw [h1, befN_append, bef_more d u m]
    have : befN ((lev d.k (u.length + m + 1)).filter (accW d)) u = 0 := by
      unfold befN
      rw [List.countP_eq_zero]
      intro v hv
      have := (lev_ok (List.mem_filter.1 hv).1).1
      rw [befL_long (by omega)]; simp
    omega
theorem words_len (d : Dfa) (hk : d.k ≤ 3) {n : Nat} (hn : n ≤ 6) : (wordsL d n).length ≤ 20000 := by
  rw [← outL_end]
  have := outL_len d hk (j := n + 1) (i := 0) (by omega)
  omega
theorem rank_law {d : Dfa} (hg : Good d) (hk : d.k ≤ 3) {u : List Nat} (hw : okW d.k u) (hl : u.length ≤ 6) : rankR d (wI u) = (((befN (wordsL d u.length) u : Nat) : Int), 0) := by
  have hle : befN (wordsL d u.length) u ≤ 20000 := Nat.le_trans List.countP_le_length (words_len d hk hl)
  have hb := bef_words d u
  rw [hb] at hle ⊢
  exact rank_sum hg hw (by omega) (by omega)
end Go.Proofs.YthlnmcokgfpgmaaDoor

namespace Go.Proofs.YthlnmcokgfpgmaaDoor
open Go.RowKit Go.Maps
set_option linter.unusedVariables false
set_option linter.unusedSimpArgs false
attribute [local go_sem] Oper.quietV quietV Oper.gives givesV ext_refl_iff ext_alloc_iff ext_drew_iff ext_drewN_iff
def U8sC (w : World) (v : Value) (xs : List Nat) (c : Nat) : Prop := ∃ A, v = .slice A xs.length c ∧ Cells w A (xs.map (fun (x : Nat) => Value.int .u8 (x : Int))) ∧ xs.length ≤ c ∧ xs.length ≤ maxLen ∧ ∀ x ∈ xs, x < 256
theorem U8sC.ext {w w' : World} {v : Value} {xs : List Nat} {c : Nat} (h : U8sC w v xs c) (e : Ext w w') : U8sC w' v xs c := by
  obtain ⟨A, h1, h2, h3⟩ := h
  exact ⟨A, h1, h2.ext e, h3⟩
theorem Cells.at_u8 {w : World} {A : Option Addr} {xs : List Nat} (h : Cells w A (xs.map (fun (x : Nat) => Value.int .u8 (x : Int)))) {k : Nat} (hk : k < xs.length) :
    ∃ b o, A = some ⟨b, o, none⟩ ∧ b < w.heap.size ∧ w.cell? ⟨b, o + k, none⟩ = some (.int .u8 (xs[k] : Int)) := by
  obtain ⟨b, o, hA, hb, hc⟩ := h (by rw [List.length_map]; omega)
  exact ⟨b, o, hA, hb, hc k _ (by rw [List.getElem?_map, List.getElem?_eq_getElem hk]; rfl)⟩
def modW (ws : List Nat) (k : Nat) : List Nat := ws.map (· % k)
theorem modW_ok (ws : List Nat) {k : Nat} (hk : 1 ≤ k) : okW k (modW ws k) := fun x hx => by
  obtain ⟨y, _, rfl⟩ := List.mem_map.1 hx
  exact Nat.mod_lt _ hk
theorem modW_len (ws : List Nat) (k : Nat) : (modW ws k).length = ws.length := by unfold modW; simp
set_option maxRecDepth 100000 in
set_option maxHeartbeats 4000000 in
theorem word27_any (w : World) (v : Value) (ws : List Nat) (c k : Nat) (hv : U8sC w v ws c) (hl : ws.length ≤ 40) (hk : 1 ≤ k ∧ k ≤ 16) :
    Calls Tryd.prog 27 #[v, .int .i64 k] w fun e w' => ∃ u c', e = .returned u ∧ IntsC w' u (wI (modW ws k)) c' ∧ Ext w w' := by
  obtain ⟨A, rfl, hc, _, _, hb⟩ := hv
  obtain ⟨i3, hi3, hz3, hs3, hb3⟩ := info_parts int_info
  go_enter Tryd.func27, Tryd.ntmps27
  have hO0 : OwnL w (w.alloc (.cells #[] 3)) [.row 3 1 (.slice (some ⟨w.heap.size, 0, none⟩) 0 0) 0 []] := (OwnL.nil (Ext.refl w)).add (alloc_ext _ _) (A := .row 3 1 (.slice (some ⟨w.heap.size, 0, none⟩) 0 0) 0 []) (own_empty w 3)
  go_upto_region 2 with fail
  refine wp_named ?_
  intro W1 hW1
  rw [← hW1] at hO0
  clear hW1
  go_wp2
  go_loopw [5, 6] (fun ov iv wr => ∃ i : Nat, iv = .int .i64 i ∧ i ≤ ws.length ∧ OwnL w wr [.row 3 1 ov i ((wI (modW (ws.take i) k)).map (.int .i64))]) (fun _ iv _ => ws.length - (intOf iv).toNat)
  case atStart => exact ⟨0, rfl, by omega, hO0⟩
  case round =>
    clear hO0
    obtain ⟨i, rfl, hi, hO⟩ := hrel
    obtain ⟨W4, hW4⟩ : ∃ W, W = wr := ⟨_, rfl⟩; subst hW4
    by_cases hlt : i < ws.length
    · have hsI : (i : Int) < (ws.length : Int) := by omega
      have hi40 : (i : Int) < 40 := by omega
      obtain ⟨b, o, hA, _, hcell⟩ := hc.at_u8 hlt
      subst hA
      have hcell := hO.ext.cell hcell
      have hown : W4.ownsRow w.heap.size 3 1 u5 i ((wI (modW (ws.take i) k)).map (.int .i64)) := hO.get 0 rfl
      have hsz := hO.ext.size
      have hnx : (wI (modW (ws.take (i + 1)) k)).map (Value.int .i64) = (wI (modW (ws.take i) k)).map (.int .i64) ++ [.int .i64 ((ws[i] % k : Nat) : Int)] := by
        rw [List.take_succ_eq_append_getElem hlt]; simp only [modW, wI, List.map_append, List.map_cons, List.map_nil]
      have HNX := Lib.hid hnx
      have hbz := hb _ (List.getElem_mem hlt)
      clear hnx
      generalize ws[i] = z at *
      have hmod : ((z : Nat) : Int).tmod (k : Int) = ((z % k : Nat) : Int) := by rw [Int.tmod_eq_emod_of_nonneg (by omega)]; push_cast; rfl
      have hkn : ¬ (k : Int) = 0 := by omega
      have hcell : ∀ w', Ext W4 w' → w'.cell? ⟨b, o + i, none⟩ = some (.int .u8 (z : Int)) := fun w' h => h.cell hcell
      have hE0 := Ext.refl W4
      have hzk : z % k < k := Nat.mod_lt _ (by omega)
      generalize z % k = y at *
      go_wp2_with (at_builtin; refine wpList_append_own2 rfl _ _ 31 rfl w.heap.size 3 i3 (.int .i64 0) 1 8 Tryd.underlying31 hi3 hz3 hs3 hb3 rfl (by decide) u5 i ((wI (modW (ws.take i) k)).map (.int .i64)) rfl (World.ownsRow.alloc hown _) ⟨W4.heap.size, 0, none⟩ 1 1 [.int .i64 y] rfl rfl (new_cell _ _ _ _ (by first | rfl | simp)) (one_int _) (by unfold maxLen; omega) (by omega) (by simp; omega) ?_; intro v6 w6 hown6 hg6 hb6)
      have hO6 := (hO.trans (alloc_ext W4 (.cells #[.int .i64 y] 3))).app 0 rfl hg6 hown6 hb6
      go_roundw
      case rel => exact ⟨i + 1, by go_num, by omega, by rw [HNX.out]; exact hO6⟩
      case measure => simp [intOf]; omega
    · obtain rfl : i = ws.length := by omega
      rw [List.take_length] at hO
      have h1 : W4.ownsRow w.heap.size 3 1 u5 (wI (modW ws k)).length ((wI (modW ws k)).map (.int .i64)) := by rw [wI_len, modW_len]; exact hO.get 0 rfl
      obtain ⟨c', h2⟩ := ints_of_owns h1 (by rw [wI_len, modW_len]; unfold lenMax; omega)
      have H := Lib.hid (And.intro h2 hO.ext)
      clear h1 h2 hO hc hb
      go_wp2
      go_ret
      exact ⟨_, c', rfl, H.out.1, H.out.2⟩
def WordF (l : List Int) (v : Value) (w : World) : Prop := ∃ c, IntsC w v l c
theorem stays_wordF (l : List Int) : Stays Ext (WordF l) := fun v w w' hE ⟨c, h⟩ => ⟨c, h.ext hE⟩
noncomputable def T6 (n : Nat) : Code := textR n Tryd.f6.body
theorem befN_succ (ws : List (List Nat)) (u : List Nat) {i : Nat} (h : i < ws.length) : (befN (ws.take (i + 1)) u : Int) = (befN (ws.take i) u : Int) + b01 (befL (wI ws[i]) (wI u)) := by
  unfold befN
  rw [countP_succ _ _ h]
  cases befL (wI ws[i]) (wI u) <;> simp [b01]
theorem befN_le (ws : List (List Nat)) (u : List Nat) (i : Nat) : befN (ws.take i) u ≤ i := Nat.le_trans List.countP_le_length (by rw [List.length_take]; exact Nat.min_le_left _ _)
theorem u8_take {W : World} {v : Value} {ws : List Nat} {c : Nat} (h : U8sC W v ws c) {A : Option Addr} {n m k : Nat} (hv : v = .slice A n m) (hm : min ws.length 5 = k) : U8sC W (.slice A k c) (ws.take 5) c := by
  obtain ⟨A', h1, h2, h3, h4, h5⟩ := h
  rw [hv] at h1
  cases h1
  refine ⟨A, by rw [List.length_take, Nat.min_comm, hm], fun hpos => ?_, by rw [List.length_take]; omega, by rw [List.length_take]; omega, fun x hx => h5 x (List.mem_of_mem_take hx)⟩
  obtain ⟨b, o, hA, hb, hc⟩ := h2 (by rw [List.length_map] at hpos ⊢; rw [List.length_take] at hpos; omega)
  refine ⟨b, o, hA, hb, fun j u hj => hc j u ?_⟩
  rw [List.map_take] at hj
  rw [List.getElem?_take] at hj
  split at hj
  · exact hj
  · cases hj
set_option maxRecDepth 100000 in
set_option maxHeartbeats 4000000 in
theorem rank_t2 (w W : World) (b5 : Nat) (v1 : Value) (ws : List Nat) (c : Nat) (hv : U8sC W v1 ws c) (d : Dfa) (c0 c2 c3 c4 c6 c7 c8 c9 c10 c11 c12 c13 c14 c15 c16 c17 c18 c19 c20 c21 c22 c23 c24 c25 c26 c27 c28 c29 c30 c31 c32 c33 c34 c35 c36 c37 c38 c39 c40 c41 c42 c43 c44 c45 c46 c47 c48 c49 c50 c51 c52 c53 c54 c55 c56 c57 c58 c59 c60 : Value) (h0 : Ext w W) (hm : GlobM W) (hc : GlobC W) (hb : BoxD W b5 d) (hg : Good d) (hk : d.k ≤ 3) :
    Code.wp Tryd.prog (T6 2) (bodyPost Tryd.prog Tryd.f6 fun e w' => e = .returned (.bool true) ∧ Ext w w') ⟨(c0 :: v1 :: c2 :: c3 :: c4 :: .pointer (some ⟨b5, 0, none⟩) :: c6 :: c7 :: c8 :: c9 :: c10 :: c11 :: c12 :: c13 :: c14 :: c15 :: c16 :: c17 :: c18 :: c19 :: c20 :: c21 :: c22 :: c23 :: c24 :: c25 :: c26 :: c27 :: c28 :: c29 :: c30 :: c31 :: c32 :: c33 :: c34 :: c35 :: c36 :: c37 :: c38 :: c39 :: c40 :: c41 :: c42 :: c43 :: c44 :: c45 :: c46 :: c47 :: c48 :: c49 :: c50 :: c51 :: c52 :: c53 :: c54 :: c55 :: c56 :: c57 :: c58 :: c59 :: c60 :: []).toArray, []⟩ W := by
  conv => arg 2; whnf
  obtain ⟨Ar, Aa, cr, ca, p0, p1, p2, hD⟩ := hb
  have p0 := fun w' (h : Ext W w') => h.cell p0
  have p1 := fun w' (h : Ext W w') => h.cell p1
  have p2 := fun w' (h : Ext W w') => h.cell p2
  have hE0 := Ext.refl W
  have hkk := hg.kk
  have hsy : d.sy = (d.k : Int) := hkk.1.symm
  have HA := Lib.hid (And.intro h0 (And.intro hm (And.intro hc (And.intro hg (And.intro hk hkk)))))
  have hlv := fun W1 (e : Ext W W1) => lives_any W1 (HA.out.2.1.ext e) (HA.out.2.2.1.ext e)
  obtain ⟨A, rfl, _⟩ := id hv
  obtain ⟨K, hK⟩ : ∃ K, min ws.length 5 = K := ⟨_, rfl⟩
  have hv5 := u8_take hv rfl hK
  have hcl : K ≤ ws.length ∧ ws.length ≤ c ∧ ws.length ≤ maxLen ∧ K ≤ 5 := by obtain ⟨_, h1, _, h2, h3, _⟩ := hv; cases h1; omega
  have hwd := fun W1 (e : Ext W W1) => word27_any W1 _ _ c d.k (hv5.ext e) (by rw [List.length_take]; omega) (by omega)
  have hmin : min (ws.length : Int) 5 = (K : Int) := by omega
  unfold maxLen at hcl
  have hmn : (if (5 : Int) < (ws.length : Int) then (5 : Int) else (ws.length : Int)) = (K : Int) := by split <;> omega
  clear h0 hm hc hg hk hkk
  rw [hsy] at p0
  go_upto_region 2 with fail
  refine wp_region_ext 7 (factsOf [(4, fun v _ => v = .slice A K c)]) (fun k => ([[], [], [1], [1, 2], [0, 1, 2, 3], [], [5], [0, 1, 2, 3, 4, 5, 6], [0, 1, 2, 3, 4, 5, 6, 7]] : List (List Nat)).getD k []) (by kernel_rfl) (by kernel_rfl) Ext.pre (mono_cons (stays_eq _) (mono_nil)) ?_
  simp only [List.take_succ_cons, List.take_zero]
  repeat (first | (with_reducible refine lexL_quiet' (v := ?_) ?_ ?_ ?_ ?_; rotate_left; (· with_reducible rfl); (· simp [factsOf]); (· intro w1 hw1 _; go_simp; with_reducible rfl); (try simp only [Act.put, List.setIfInBounds_toArray, List.set_cons_zero, List.set_cons_succ])) | (with_reducible refine lexL_skip ?_ ?_; (· simp [Region.wanted, yielded, undef]); (try simp only [Act.put, List.setIfInBounds_toArray, List.set_cons_zero, List.set_cons_succ])) | (with_reducible refine lexL_quiet (v := ?_) ?_ ?_ ?_ ?_; rotate_left; (· simp [Region.wanted, yielded, undef]); (· simp [factsOf]); (· intro w1 hw1 _; go_simp; with_reducible rfl); (try simp only [Act.put, List.setIfInBounds_toArray, List.set_cons_zero, List.set_cons_succ])))
  with_reducible refine lexL_give' (φ := ?_) ?_ ?_ ?_ ?_; rotate_left; (· with_reducible rfl); (· simp only [factsOf, Nat.reduceAdd, ↓reduceIte, Nat.reduceEqDiff]; rfl)
  · intro w2 hw2 _
    go_simp
    rw [if_pos (by omega)]
    exact ⟨Ext.refl _, rfl⟩
  rintro v4 w2 hw2 rfl hk2
  clear hk2 hw2 w2
  (try simp only [Act.put, List.setIfInBounds_toArray, List.set_cons_zero, List.set_cons_succ])
  repeat (first | (with_reducible refine lexL_quiet' (v := ?_) ?_ ?_ ?_ ?_; rotate_left; (· with_reducible rfl); (· simp [factsOf]); (· intro w1 hw1 _; go_simp; with_reducible rfl); (try simp only [Act.put, List.setIfInBounds_toArray, List.set_cons_zero, List.set_cons_succ])) | (with_reducible refine lexL_skip ?_ ?_; (· simp [Region.wanted, yielded, undef]); (try simp only [Act.put, List.setIfInBounds_toArray, List.set_cons_zero, List.set_cons_succ])) | (with_reducible refine lexL_quiet (v := ?_) ?_ ?_ ?_ ?_; rotate_left; (· simp [Region.wanted, yielded, undef]); (· simp [factsOf]); (· intro w1 hw1 _; go_simp; with_reducible rfl); (try simp only [Act.put, List.setIfInBounds_toArray, List.set_cons_zero, List.set_cons_succ])))
  with_reducible refine lexL_nil ?_; intro w1 hw1 hk1; simp only [List.drop_succ_cons, List.drop_zero]
  have hw7 := hwd w1 hw1
  clear hk1 hwd
  go_upto_region 3 with ((with_reducible refine hw7.mono ?_); rintro e w2 ⟨u, c', rfl, h2, e2⟩; clear hw7)
  have hE2 : Ext W w2 := hw1.trans e2
  have hul : (modW (ws.take 5) d.k).length = K := by rw [modW_len, List.length_take]; omega
  have huok := modW_ok (ws.take 5) (k := d.k) (by have := HA.out.2.2.2.2.2; omega)
  generalize modW (ws.take 5) d.k = u5 at *
  have hrk := rank_law HA.out.2.2.2.1 HA.out.2.2.2.2.1 huok (by omega)
  have hwl := words_len d HA.out.2.2.2.2.1 (show u5.length ≤ 6 by omega)
  rw [hul] at hrk hwl
  have hrk2 : ∀ w3, Ext W w3 → IntsC w3 u (wI u5) c' → Calls Tryd.prog 22 #[.agg #[.int .i64 (d.k : Int), .slice Ar d.rows.length cr, .slice Aa d.acc.length ca], u] w3 fun e w' => e = .returned (.tuple #[.int .i64 (befN (wordsL d K) u5 : Nat), .int .i64 0]) ∧ Ext w3 w' := fun w3 e3 h3 => two_val (Rank_any w3 _ d (hsy ▸ hD.ext e3) u _ c' h3) hrk
  have hwd : ∀ W1, Ext W W1 → Calls Tryd.prog 20 #[.agg #[.int .i64 (d.k : Int), .slice Ar d.rows.length cr, .slice Aa d.acc.length ca], .int .i64 K] W1 fun e w' => ∃ v, e = .returned v ∧ WordsC w' v (wordsL d K) ∧ Ext W1 w' := fun W1 (e : Ext W W1) => words_any W1 _ d K (hsy ▸ hD.ext e) HA.out.2.2.2.1 HA.out.2.2.2.2.1 (by omega)
  have HRK := Lib.hid (And.intro hrk2 hrk)
  have hw3 := hwd w2 hE2
  clear hrk2 hrk hwd huok
  generalize wordsL d K = wl at *
  obtain ⟨Au, rfl, _⟩ := id h2
  rw [wI_len, hul] at h2 ⊢
  go_upto_region 6 with ((with_reducible refine hw3.mono ?_); rintro e w3 ⟨v, rfl, hv, e3⟩; clear hw3)
  have hE3 := hE2.trans e3
  have h3 := h2.ext e3
  obtain ⟨Al, cl, vs, rfl, hlc⟩ := id hv
  clear hlc h2 hE2 e3 hv5
  have HV := Lib.hid hv
  have hrk3 := fun w4 (e : Ext w3 w4) => HRK.out.1 w4 (hE3.trans e) (by rw [wI_len, hul]; exact h3.ext e)
  rw [wI_len, hul] at hrk3
  clear hv
  go_wp2
  go_loopw [9, 10] (fun cv iv wr => ∃ i : Nat, iv = .int .i64 i ∧ i ≤ wl.length ∧ cv = .int .i64 (befN (wl.take i) u5 : Nat) ∧ Ext w3 wr) (fun _ iv _ => wl.length - (intOf iv).toNat)
  case atStart => exact ⟨0, rfl, by omega, rfl, Ext.refl _⟩
  case round =>
    obtain ⟨i, rfl, hi, rfl, hE⟩ := hrel
    obtain ⟨W4, hW4⟩ : ∃ W, W = wr := ⟨_, rfl⟩; subst hW4
    have hbl := befN_le wl u5 i
    by_cases hil : i < wl.length
    · have hilI : (i : Int) < (wl.length : Int) := by omega
      obtain ⟨b, o, c2, u2, hvv, hcell, ⟨cu, hu⟩, _⟩ := HV.out.at_ hil
      injection hvv with hA _ hC
      subst hA
      subst hC
      have hbf := before_any W4 u2 _ _ _ cu c' (hu.ext hE) (h3.ext hE)
      have hcell := hE.cell hcell
      have hsc := befN_succ wl u5 hil
      have HC := Lib.hid hsc
      clear hsc hu
      generalize hB : befL (wI wl[i]) (wI u5) = B at *
      clear hB
      generalize befN (wl.take i) u5 = X at *
      have hb01 : 0 ≤ b01 B ∧ b01 B ≤ 1 := by cases B <;> simp [b01]
      generalize b01 B = y at *
      go_wp2_with ((with_reducible refine hbf.mono ?_); rintro e w5 ⟨rfl, e5⟩)
      go_roundw
      case rel => exact ⟨i + 1, by go_num, by omega, by rw [HC.out], hE.trans e5⟩
      case measure => simp [intOf]; omega
    · obtain rfl : i = wl.length := by omega
      rw [List.take_length] at hbl ⊢
      have HE := Lib.hid (HA.out.1.trans (hE3.trans hE))
      have hlv3 := fun w4 (e : Ext W4 w4) => hlv w4 (hE3.trans (hE.trans e))
      have hrk3 := hrk3 W4 hE
      have p0 := fun w4 (e : Ext W4 w4) => p0 w4 (hE3.trans (hE.trans e))
      have p1 := fun w4 (e : Ext W4 w4) => p1 w4 (hE3.trans (hE.trans e))
      have p2 := fun w4 (e : Ext W4 w4) => p2 w4 (hE3.trans (hE.trans e))
      have hE0 := Ext.refl W4
      generalize befN wl u5 = X at *
      clear hlv hE3 h3 hE
      go_upto_region 10 with ((with_reducible refine hrk3.mono ?_); rintro e w4 ⟨rfl, e4⟩; clear hrk3; have hl := hlv3 w4 e4)
      go_wp2_with ((with_reducible refine hl.mono ?_); rintro e w5 ⟨rfl, e5⟩)
      go_ret
      exact ⟨rfl, HE.out.trans (e4.trans e5)⟩
set_option maxRecDepth 100000 in
set_option maxHeartbeats 4000000 in
theorem LangsRank_any (w : World) (xv : Value) (x : RawN) (wv : Value) (ws : List Nat) (c : Nat) (hx : RawNV w xv x) (hw : U8sC w wv ws c) (hm : GlobM w) (hc : GlobC w) : Calls Tryd.prog 6 #[xv, wv] w fun e w' => e = .returned (.bool true) ∧ Ext w w' := by
  obtain ⟨av, ca, rfl, ha, hxb⟩ := id hx
  obtain ⟨Aa, rfl, _⟩ := id ha
  go_enter Tryd.func6, Tryd.ntmps6
  go_upto_region 1 with fail
  refine wp_named ?_
  intro W1 hW1
  have hE1 : Ext w W1 := by rw [hW1]; exact (Ext.refl _).alloc _
  have z1 : W1.heap[w.heap.size]? = some (.cells #[.int .u8 x.sy, .int .u8 x.many, .slice Aa x.arcs.length ca, .int .u8 x.st, .int .u8 x.ac] 24 (0, 0)) := by rw [hW1]; exact heap_alloc_new w _
  clear hW1
  generalize w.heap.size = b1 at *
  have k0 := cell_of_blk z1 0 (u := .int .u8 x.sy) rfl
  have k1 := cell_of_blk z1 1 (u := .int .u8 x.many) rfl
  have k2 := cell_of_blk z1 2 (u := .slice Aa x.arcs.length ca) rfl
  have k3 := cell_of_blk z1 3 (u := .int .u8 x.st) rfl
  have k4 := cell_of_blk z1 4 (u := .int .u8 x.ac) rfl
  have hdf := dfas_any W1 _ _ x x (hx.ext hE1) (hx.ext hE1)
  have HX := Lib.hid (And.intro hm (And.intro hc (And.intro hE1 hw)))
  clear hx ha hxb z1 hm hc hE1 hw
  go_upto_region 999 with (first
    | (with_reducible refine stop_at 2 ?_)
    | (go_at_call 12; refine hdf.mono ?_; rintro e wB ⟨v1, v2, a, b, rfl, hd1, hd2, hg1, hg2, hn1, hn2, hs1, hs2, eB⟩; obtain ⟨rvA, crA, avA, caA, rfl, ⟨ArA, vrA, rfl, -⟩, ⟨AaA, rfl, -⟩⟩ := id hd1; obtain ⟨rvB, crB, avB, caB, rfl, ⟨ArB, vrB, rfl, -⟩, ⟨AaB, rfl, -⟩⟩ := id hd2; clear hdf)
    | (with_reducible refine wpList_store_blk _ rfl 28 _ _ rfl wB.heap.size 28 _ _ rfl rfl (heap_ext (alloc_ext _ _) (heap_alloc_new _ _)) (by kernel_rfl) (by kernel_rfl) (by kernel_rfl) ?_; intro w1 h1 g1)
    | (with_reducible refine wpList_store_blk _ rfl 28 _ _ rfl (wB.heap.size + 1) 28 _ _ rfl rfl ((g1.block _ (by simp) (by simp)).trans (by have := heap_alloc_new (wB.alloc (.cells #[.int .i64 0, .slice none 0 0, .slice none 0 0] 28)) (.cells #[.int .i64 0, .slice none 0 0, .slice none 0 0] 28); simpa using this)) (by kernel_rfl) (by kernel_rfl) (by kernel_rfl) ?_; intro w2 h2 g2))
  refine ⟨?_⟩
  have eB1 : Ext wB w1 := Below.grown ((alloc_ext wB _).trans (alloc_ext _ _)) g1 ((alloc_ext wB _).trans (alloc_ext _ _)).size (fun k hk => by cases hk; exact Nat.le_refl _)
  have e12 : Ext wB w2 := Below.grown eB1 g2 eB1.size (fun k hk => by cases hk; omega)
  have h1 := (g2.block _ (lt_of_block h1) (by simp)).trans h1
  rw [← hs1] at h1
  have hE2 : Ext w w2 := HX.out.2.2.1.trans (eB.trans e12)
  exact rank_t2 w w2 wB.heap.size _ ws c (HX.out.2.2.2.ext hE2) a _ _ _ _ _ _ _ _ _ _ _ _ _ _ _ _ _ _ _ _ _ _ _ _ _ _ _ _ _ _ _ _ _ _ _ _ _ _ _ _ _ _ _ _ _ _ _ _ _ _ _ _ _ _ _ _ _ _ _ hE2 (HX.out.1.ext hE2) (HX.out.2.1.ext hE2) (BoxD.of h1 (hd1.ext e12)) hg1 (by have := hg1.kk; omega)
end Go.Proofs.YthlnmcokgfpgmaaDoor
