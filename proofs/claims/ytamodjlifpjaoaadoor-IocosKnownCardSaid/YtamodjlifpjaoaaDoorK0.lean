/- Lean: the values of IocosKnown. -/
import Derived.Test.YtamodjlifpjaoaaDoorGC
import Derived.Test.YtamodjlifpjaoaaDoorF0
namespace Go.Proofs.YtamodjlifpjaoaaDoor
open Go.RowKit
set_option linter.unusedVariables false
set_option linter.unusedSimpArgs false
set_option linter.unusedSectionVars false
def loopX : Lts := ⟨0, 1, [[⟨2, 0, 0⟩]]⟩
def bothX : Lts := ⟨0, 1, [[⟨0, 0, 1⟩, ⟨2, 0, 0⟩], [⟨0, 0, 0⟩]]⟩
def stillX : Lts := ⟨0, 2, [[⟨2, 0, 0⟩, ⟨2, 1, 0⟩]]⟩
def chR (k n : Nat) : List (List Arc) := (List.range n).map (fun (s : Nat) => [⟨k, 0, (s : Int) + 1⟩])
def chX (k : Nat) (r : List Arc) : Lts := ⟨0, 1, chR k 63 ++ [r]⟩
def longX : Lts := chX 0 [⟨2, 0, 63⟩]
def farX : Lts := chX 2 [⟨2, 0, 63⟩]
def muteX : Lts := chX 2 []
theorem loop_val : checkI loopX = 0 ∧ (mkT loopX (List.replicate 9 (-1)) (begM loopX) 0).length = 19 := by decide +kernel
theorem still_val : checkI stillX = 0 ∧ (mkT stillX (List.replicate 8 (-1)) (begM stillX) 0).length = 766 := by decide +kernel
theorem still_val9 : (mkT stillX (List.replicate 9 (-1)) (begM stillX) 0).length = 1534 := by decide +kernel
theorem both_val : checkI bothX = 0 ∧ obsM bothX 3 = [0] ∧ aftM bothX (begM bothX) 1 = 0 := by decide +kernel
theorem ch_ok : checkI longX = 0 ∧ checkI farX = 0 ∧ checkI muteX = 0 := by decide +kernel
theorem ch_arcs (k : Nat) (r : List Arc) (s : Nat) : (chX k r).arcs s = if s < 63 then [⟨k, 0, (s : Int) + 1⟩] else if s = 63 then r else [] := by
  have hl : (chR k 63).length = 63 := by unfold chR; simp
  unfold Lts.arcs chX
  simp only
  split
  · rename_i h
    rw [List.getD_eq_getElem?_getD, List.getElem?_append_left (by rw [hl]; exact h)]
    unfold chR
    rw [List.getElem?_map, List.getElem?_range h]; rfl
  · rename_i h
    rw [List.getD_eq_getElem?_getD, List.getElem?_append_right (by rw [hl]; omega), hl]
    split
    · rename_i h2; subst h2; rfl
    · rename_i h2
      rw [List.getElem?_eq_none (by simp; omega)]; rfl
theorem mem_pow {i : Nat} (h : i < 64) : mem (2 ^ i) = [i] := by
  have : ∀ i < 64, mem (2 ^ i) = [i] := by decide +kernel
  exact this i h
theorem path_self {x : Lts} {s t : Nat} (hn : ∀ a ∈ x.arcs s, isSil a = false) (h : Path x isSil s t) : s = t := by
  induction h with
  | refl => rfl
  | step _ ha hp ih => subst ih; rw [hn _ ha] at hp; cases hp
theorem sil_pow {x : Lts} (hx : Good x) {s : Nat} (hn : ∀ a ∈ x.arcs s, isSil a = false) : sil x s = 2 ^ s := by
  refine Nat.eq_of_testBit_eq fun t => ?_
  rw [Bool.eq_iff_iff, sil_bit hx s t, bit_one, decide_eq_true_eq]
  exact ⟨path_self hn, fun h => h ▸ .refl⟩
/-- One step of a chain. -/
theorem ch_out {x : Lts} (hx : Good x) (hi : x.ins = 0) (ho : x.outs = 1) {i t : Nat} (hi' : i < 64) (ha : x.arcs i = [⟨2, 0, (t : Int)⟩]) (ht : ∀ a ∈ x.arcs t, isSil a = false) : aftM x (2 ^ i) 0 = 2 ^ t ∧ aftM x (2 ^ i) 1 = 0 := by
  unfold aftM
  rw [mem_pow hi']
  refine ⟨?_, ?_⟩
  · rw [if_neg (by rw [hi, ho]; decide)]
    unfold aftL
    simp only [List.foldl_cons, List.foldl_nil, ha]
    rw [show hit x 0 ⟨2, 0, (t : Int)⟩ = true by unfold hit; rw [hi]; rfl]
    simp only [↓reduceIte, Nat.zero_or]
    exact (sil_pow hx (s := t) ht)
  · rw [if_pos (by rw [hi, ho]; rfl)]
    unfold aftQ
    simp only [List.foldl_cons, List.foldl_nil]
    rw [show quietS x i = false by unfold quietS; rw [ha]; rfl]
    rfl
/-! ### A search that finds a chain -/
section
variable {κ : Type} [DecidableEq κ] {cand : κ → List (Int × κ)} {ok : κ → Bool}
def chL (K : Nat → κ) : Nat → List (Fd κ)
  | 0 => [rt (K 0)]
  | i + 1 => chL K i ++ [newB ((chL K i).getD i (rt (K 0))) i (0, K (i + 1))]
theorem chL_len (K : Nat → κ) : ∀ i, (chL K i).length = i + 1
  | 0 => rfl
  | i + 1 => by unfold chL; rw [List.length_append, chL_len K i]; rfl
theorem chL_get (K : Nat → κ) : ∀ (i j : Nat), j ≤ i → ∃ r, (chL K i)[j]? = some r ∧ r.key = K j ∧ r.ln = (j : Int)
  | 0, j, h => by
    obtain rfl : j = 0 := by omega
    exact ⟨_, rfl, rfl, rfl⟩
  | i + 1, j, h => by
    have hl := chL_len K i
    unfold chL
    by_cases hj : j ≤ i
    · obtain ⟨r, h1, h2⟩ := chL_get K i j hj
      exact ⟨r, by rw [List.getElem?_append_left (by omega)]; exact h1, h2⟩
    · obtain rfl : j = i + 1 := by omega
      obtain ⟨r, h1, h2, h3⟩ := chL_get K i i (Nat.le_refl i)
      refine ⟨_, by rw [List.getElem?_append_right (by omega), hl, Nat.sub_self]; rfl, rfl, ?_⟩
      unfold newB
      simp only
      rw [fd_get h1, h3]; push_cast; rfl
theorem chL_in {K : Nat → κ} {i : Nat} {t : κ} (h : ∃ j, j ≤ i ∧ K j = t) : inB (chL K i) t = true := by
  obtain ⟨j, hj, rfl⟩ := h
  obtain ⟨r, h1, h2, _⟩ := chL_get K i j hj
  rw [inB_iff, List.mem_map]
  exact ⟨r, List.mem_of_getElem? h1, h2⟩
theorem chL_not {K : Nat → κ} {i : Nat} {t : κ} (h : ∀ j, j ≤ i → K j ≠ t) : inB (chL K i) t = false := by
  rw [Bool.eq_false_iff]
  intro h1
  rw [inB_iff, List.mem_map] at h1
  obtain ⟨r, hr, rfl⟩ := h1
  obtain ⟨j, hj⟩ := List.getElem?_of_mem hr
  have hjl := (List.getElem?_eq_some_iff.1 hj).1
  rw [chL_len] at hjl
  obtain ⟨r', h2, h3, _⟩ := chL_get K i j (by omega)
  rw [hj] at h2; cases h2
  exact h j (by omega) h3.symm
theorem go_chain {K : Nat → κ} {m : Nat} (h : ∀ i, i < m → ∃ z, cand (K i) = [(0, K (i + 1)), (1, z)] ∧ ok (K (i + 1)) = true ∧ ok z = false) (hinj : ∀ i j, i < j → j ≤ m → K i ≠ K j) :
    ∀ i, i ≤ m → goB (K 0) cand ok i = chL K i
  | 0, _ => rfl
  | i + 1, hi => by
    have ih := go_chain h hinj i (by omega)
    obtain ⟨r, h1, h2, _⟩ := chL_get K i i (Nat.le_refl i)
    obtain ⟨z, hc, ho, hz⟩ := h i (by omega)
    rw [goB_step (by rw [ih]; exact h1), ih, h2, hc]
    unfold rowB
    simp only [List.foldl_cons, List.foldl_nil]
    have e1 : addB (K 0) ok (chL K i) i (0, K (i + 1)) = chL K (i + 1) := by
      unfold addB
      simp only
      rw [ho, chL_not (fun j hj => hinj j (i + 1) (by omega) hi)]
      rfl
    rw [e1]
    unfold addB
    simp only
    rw [hz]
    rfl
theorem go_chain_end {K : Nat → κ} {m : Nat} (h : ∀ i, i < m → ∃ z, cand (K i) = [(0, K (i + 1)), (1, z)] ∧ ok (K (i + 1)) = true ∧ ok z = false) (hinj : ∀ i j, i < j → j ≤ m → K i ≠ K j)
    (he : ∀ e ∈ cand (K m), ok e.2 = false ∨ ∃ j, j ≤ m ∧ K j = e.2) : goB (K 0) cand ok (m + 1) = chL K m := by
  have ih := go_chain h hinj m (Nat.le_refl m)
  obtain ⟨r, h1, h2, _⟩ := chL_get K m m (Nat.le_refl m)
  rw [goB_step (by rw [ih]; exact h1), ih, h2]
  have key : ∀ (es : List (Int × κ)), (∀ e ∈ es, ok e.2 = false ∨ ∃ j, j ≤ m ∧ K j = e.2) → rowB (K 0) ok (chL K m) m es = chL K m := by
    intro es
    induction es with
    | nil => intro _; rfl
    | cons e es ihe =>
      intro hes
      unfold rowB
      rw [List.foldl_cons]
      have e1 : addB (K 0) ok (chL K m) m e = chL K m := by
        unfold addB
        rw [if_pos]
        rcases hes e (by simp) with h | h
        · simp [h]
        · rw [chL_in h]; simp
      rw [e1]
      exact ihe (fun e' he' => hes e' (by simp [he']))
  exact key _ he
end
theorem cand_two {x y : Lts} (hi : x.ins = 0) (ho : x.outs = 1) (t : Nat × Nat) : candC x y t = [(0, (aftM x t.1 0, aftM y t.2 0)), (1, (aftM x t.1 1, aftM y t.2 1))] := by
  unfold candC labs Lts.I Lts.O
  rw [hi, ho]; rfl
theorem obs_one {x : Lts} (hi : x.ins = 0) (ho : x.outs = 1) {S : Nat} (h0 : aftM x S 0 ≠ 0) (h1 : aftM x S 1 = 0) : obsM x S = [0] := by
  unfold obsM Lts.O
  rw [hi, ho]
  have h0' : (aftM x S 0 != 0) = true := by simpa using h0
  have h1' : (aftM x S 1 != 0) = false := by simpa using h1
  simp [List.range_succ, List.filter_cons, h0', h1']
theorem good_long : Good longX := check_good ch_ok.1
theorem good_far : Good farX := check_good ch_ok.2.1
theorem good_mute : Good muteX := check_good ch_ok.2.2
theorem far_arcs (s : Nat) (hs : s < 64) : farX.arcs s = [⟨2, 0, ((if s < 63 then s + 1 else 63 : Nat) : Int)⟩] := by
  unfold farX
  rw [ch_arcs]
  by_cases h : s < 63
  · rw [if_pos h, if_pos h]; push_cast; rfl
  · rw [if_neg h, if_pos (by omega), if_neg h]; rfl
theorem far_sil (s : Nat) : ∀ a ∈ farX.arcs s, isSil a = false := by
  unfold farX
  rw [ch_arcs]
  intro a ha
  split at ha
  · rw [List.mem_singleton.1 ha]; rfl
  · split at ha
    · rw [List.mem_singleton.1 ha]; rfl
    · simp at ha
theorem mute_sil (s : Nat) : ∀ a ∈ muteX.arcs s, isSil a = false := by
  unfold muteX
  rw [ch_arcs]
  intro a ha
  split at ha
  · rw [List.mem_singleton.1 ha]; rfl
  · split at ha <;> simp at ha
theorem far_step {i : Nat} (h : i < 64) : aftM farX (2 ^ i) 0 = 2 ^ (if i < 63 then i + 1 else 63) ∧ aftM farX (2 ^ i) 1 = 0 := ch_out good_far rfl rfl h (far_arcs i h) (far_sil _)
theorem mute_step {i : Nat} (h : i < 63) : aftM muteX (2 ^ i) 0 = 2 ^ (i + 1) ∧ aftM muteX (2 ^ i) 1 = 0 := ch_out good_mute rfl rfl (by omega) (by unfold muteX; rw [ch_arcs, if_pos h]; push_cast; rfl) (mute_sil _)
theorem mute_end : aftM muteX (2 ^ 63) 0 = 0 := by decide +kernel
theorem pow_ne {i : Nat} : 2 ^ i ≠ 0 := by have := Nat.pow_pos (n := i) (show 0 < 2 by omega); omega
theorem pow_inj {i j : Nat} (h : i < j) : 2 ^ i ≠ 2 ^ j := Nat.ne_of_lt (Nat.pow_lt_pow_right (by omega) h)
theorem acc_ch {x : Lts} (hI : x.I = 0) : accB x = true := by
  unfold accB
  rw [List.all_eq_true]
  intro s _
  rw [hI]
  simp
def KF (i : Nat) : Nat × Nat := (2 ^ i, 2 ^ i)
theorem fm_go : fndL farX muteX = chL KF 63 := by
  have h0 : rootC farX muteX = KF 0 := by
    unfold rootC begM
    rw [sil_pow good_far (far_sil 0), sil_pow good_mute (mute_sil 0)]; rfl
  have h1 : goC farX muteX 64 = chL KF 63 := by
    unfold goC
    rw [h0]
    refine go_chain_end (m := 63) (fun i hi => ⟨(0, 0), ?_, ?_, rfl⟩) (fun i j hij hj e => ?_) (fun e he => ?_)
    · rw [cand_two rfl rfl]
      unfold KF
      simp only
      rw [(far_step (i := i) (by omega)).1, (far_step (i := i) (by omega)).2, (mute_step hi).1, (mute_step hi).2, if_pos hi]
    · unfold okC KF
      have := @pow_ne (i + 1)
      simp
    · unfold KF at e
      exact pow_inj hij (by injection e)
    · rw [cand_two rfl rfl] at he
      left
      rcases List.mem_cons.1 he with rfl | he
      · unfold KF okC
        simp only
        rw [mute_end]; simp
      · rw [List.mem_singleton.1 he]
        unfold KF okC
        simp only
        rw [(far_step (i := 63) (by omega)).2]; simp
  rw [← h1]
  exact goC_stop (by rw [h1, chL_len]; decide) (by omega)
theorem fm_b1 : ∀ j, j < 63 → badC farX muteX (KF j) = none := fun j hj => by
    unfold badC KF
    simp only
    rw [obs_one rfl rfl (by rw [(far_step (i := j) (by omega)).1]; exact pow_ne) (far_step (i := j) (by omega)).2]
    simp only [List.find?_cons, List.find?_nil]
    rw [show (aftM muteX (2 ^ j) 0 == 0) = false by rw [(mute_step hj).1]; simp]
theorem fm_b2 : badC farX muteX (KF 63) = some 0 := by
    unfold badC KF
    simp only
    rw [obs_one rfl rfl (by rw [(far_step (i := 63) (by omega)).1]; exact pow_ne) (far_step (i := 63) (by omega)).2]
    simp only [List.find?_cons]
    rw [mute_end]; rfl
theorem fm_idx {r : Fd (Nat × Nat)} (h1 : (chL KF 63)[63]? = some r) (h2 : r.key = KF 63) : (fndL farX muteX).findIdx? (offC farX muteX) = some 63 := by
    rw [fm_go, List.findIdx?_eq_some_iff_getElem]
    obtain ⟨hl, he⟩ := List.getElem?_eq_some_iff.1 h1
    refine ⟨hl, by rw [he]; unfold offC; rw [h2, fm_b2]; rfl, fun j hj => ?_⟩
    obtain ⟨r', h1', h2', _⟩ := chL_get KF 63 j (by omega)
    obtain ⟨_, he'⟩ := List.getElem?_eq_some_iff.1 h1'
    rw [he']
    unfold offC
    rw [h2', fm_b1 j hj]; simp
theorem fm_R : confR farX muteX = confG farX muteX := by
  unfold confR
  rw [if_neg (by rw [ch_ok.2.1]; simp), if_neg (by rw [ch_ok.2.2]; simp), if_neg (fun h => h.elim (fun e => e rfl) (fun e => e rfl)), if_neg, if_neg]
  · rw [fm_go, chL_len]; omega
  · rw [acc_ch rfl]; simp
theorem kconf_some {x y : Lts} {n : Nat} {r : Fd (Nat × Nat)} {l : Int} (hf : (fndL x y).findIdx? (offC x y) = some n) (hn : (fndL x y)[n]? = some r) (hl : r.ln ≤ 256) (hb : badC x y r.key = some l) : confG x y = (false, wayC x y n, l, 0) := by
  unfold confG
  rw [hf]
  simp only [fd_get hn, hb, Option.getD_some]
  rw [if_neg (by omega)]
theorem kconf_none {x y : Lts} (hf : (fndL x y).findIdx? (offC x y) = none) : confG x y = (true, [], 0, 0) := by
  unfold confG
  rw [hf]
theorem fm_val : ∃ t : List Int, confR farX muteX = (false, t, 0, 0) ∧ t.length = 63 := by
  obtain ⟨r, h1, h2, h3⟩ := chL_get KF 63 63 (Nat.le_refl _)
  have h1' : (fndL farX muteX)[63]? = some r := by rw [fm_go]; exact h1
  have hln := wayC_ln h1'
  refine ⟨wayC farX muteX 63, ?_, by omega⟩
  rw [fm_R]
  exact kconf_some (fm_idx h1 h2) h1' (by omega) (by rw [h2]; exact fm_b2)
/-! ### The chain of silent arcs -/
theorem long_path : ∀ t, t < 64 → Path longX isSil 0 t
  | 0, _ => .refl
  | t + 1, h => by
    have h1 := long_path t (by omega)
    have ha : (⟨0, 0, (t : Int) + 1⟩ : Arc) ∈ longX.arcs t := by
      unfold longX
      rw [ch_arcs, if_pos (by omega)]; simp
    have h2 := h1.step ha rfl
    have e : Arc.to ⟨0, 0, (t : Int) + 1⟩ = t + 1 := by unfold Arc.to; simp only; omega
    rw [e] at h2
    exact h2
theorem long_mem : mem (begM longX) = List.range 64 := by
  unfold mem
  rw [List.filter_eq_self]
  intro t ht
  unfold begM
  exact (sil_bit good_long 0 t).2 (long_path t (List.mem_range.1 ht))
theorem long_sil : ∀ a ∈ longX.arcs 63, isSil a = false := by
  unfold longX
  rw [ch_arcs]
  intro a ha
  simp at ha
  rw [ha]; rfl
theorem long_first : aftM longX (begM longX) 0 = 2 ^ 63 ∧ aftM longX (begM longX) 1 = 0 := by
  unfold aftM
  rw [long_mem]
  refine ⟨?_, ?_⟩
  · rw [if_neg (by decide)]
    refine Nat.eq_of_testBit_eq fun t => ?_
    unfold aftL
    rw [or_fold2 (fun s => longX.arcs s) (fun _ a => hit longX 0 a) (fun a => sil longX a.to), Nat.zero_testBit, Bool.false_or, bit_one, Bool.eq_iff_iff, List.any_eq_true, decide_eq_true_eq]
    constructor
    · rintro ⟨s, hs, h⟩
      obtain ⟨a, ha, hb⟩ := List.any_eq_true.1 h
      rw [Bool.and_eq_true] at hb
      unfold longX at ha
      rw [ch_arcs] at ha
      split at ha
      · rw [List.mem_singleton.1 ha] at hb
        exact absurd hb.1 (by unfold hit; simp)
      · split at ha
        · rw [List.mem_singleton.1 ha] at hb
          have h2 := hb.2
          rw [show Arc.to ⟨2, 0, 63⟩ = 63 from rfl, sil_pow good_long long_sil, bit_one, decide_eq_true_eq] at h2
          exact h2
        · simp at ha
    · rintro rfl
      refine ⟨63, List.mem_range.2 (by omega), List.any_eq_true.2 ⟨⟨2, 0, 63⟩, by unfold longX; rw [ch_arcs]; simp, ?_⟩⟩
      rw [show Arc.to ⟨2, 0, 63⟩ = 63 from rfl, sil_pow good_long long_sil, bit_one]
      rfl
  · rw [if_pos (by decide)]
    refine Nat.eq_of_testBit_eq fun t => ?_
    rw [Nat.zero_testBit, Bool.eq_false_iff]
    intro h
    obtain ⟨h1, h2⟩ := (aftQ_bit longX _ t).1 h
    unfold quietS longX at h2
    rw [ch_arcs] at h2
    have := List.mem_range.1 h1
    split at h2
    · simp at h2
    · rw [if_pos (by omega)] at h2
      simp at h2
theorem long_last : aftM longX (2 ^ 63) 0 = 2 ^ 63 ∧ aftM longX (2 ^ 63) 1 = 0 := ch_out good_long rfl rfl (by omega) (t := 63) (by unfold longX; rw [ch_arcs]; rfl) long_sil
def KL (i : Nat) : Nat × Nat := (if i = 0 then begM longX else 2 ^ 63, 2 ^ i)
theorem KL_step {i : Nat} (h : i < 64) : aftM longX (KL i).1 0 = 2 ^ 63 ∧ aftM longX (KL i).1 1 = 0 ∧ aftM farX (KL i).2 0 = 2 ^ (if i < 63 then i + 1 else 63) ∧ aftM farX (KL i).2 1 = 0 := by
  refine ⟨?_, ?_, (far_step h).1, (far_step h).2⟩
  · unfold KL; simp only
    split
    · exact long_first.1
    · exact long_last.1
  · unfold KL; simp only
    split
    · exact long_first.2
    · exact long_last.2
theorem lf_go : fndL longX farX = chL KL 63 := by
  have h0 : rootC longX farX = KL 0 := by
    unfold rootC KL
    rw [show begM farX = 2 ^ 0 from sil_pow good_far (far_sil 0)]; rfl
  have h1 : goC longX farX 64 = chL KL 63 := by
    unfold goC
    rw [h0]
    refine go_chain_end (m := 63) (fun i hi => ⟨(0, 0), ?_, ?_, rfl⟩) (fun i j hij hj e => ?_) (fun e he => ?_)
    · obtain ⟨h1, h2, h3, h4⟩ := KL_step (i := i) (by omega)
      rw [cand_two rfl rfl, h1, h2, h3, h4, if_pos hi]
      unfold KL
      rw [if_neg (by omega)]
    · unfold okC KL
      rw [if_neg (by omega)]
      have := @pow_ne (i + 1)
      simp
    · unfold KL at e
      exact pow_inj hij (by injection e)
    · obtain ⟨h1, h2, h3, h4⟩ := KL_step (i := 63) (by omega)
      rw [cand_two rfl rfl, h1, h2, h3, h4] at he
      rcases List.mem_cons.1 he with rfl | he
      · exact .inr ⟨63, Nat.le_refl _, rfl⟩
      · left; rw [List.mem_singleton.1 he]; rfl
  rw [← h1]
  exact goC_stop (by rw [h1, chL_len]; decide) (by omega)
theorem lf_b : ∀ j, j < 64 → badC longX farX (KL j) = none := fun j hj => by
  obtain ⟨h1, h2, h3, h4⟩ := KL_step hj
  unfold badC
  rw [obs_one rfl rfl (by rw [h1]; exact pow_ne) h2]
  simp only [List.find?_cons, List.find?_nil]
  rw [show (aftM farX (KL j).2 0 == 0) = false by rw [h3]; simp]
theorem lf_idx : (fndL longX farX).findIdx? (offC longX farX) = none := by
  rw [lf_go, List.findIdx?_eq_none_iff]
  intro z hz
  obtain ⟨j, hj⟩ := List.getElem?_of_mem hz
  have hjl := (List.getElem?_eq_some_iff.1 hj).1
  rw [chL_len] at hjl
  obtain ⟨r', h1', h2', _⟩ := chL_get KL 63 j (by omega)
  rw [hj] at h1'; cases h1'
  unfold offC
  rw [h2', lf_b j (by omega)]; rfl
theorem lf_val : confR longX farX = (true, [], 0, 0) := by
  unfold confR
  rw [if_neg (by rw [ch_ok.1]; simp), if_neg (by rw [ch_ok.2.1]; simp), if_neg (fun h => h.elim (fun e => e rfl) (fun e => e rfl)), if_neg, if_neg]
  · exact kconf_none lf_idx
  · rw [lf_go, chL_len]; omega
  · rw [acc_ch rfl]; simp
end Go.Proofs.YtamodjlifpjaoaaDoor
