/- The strategies of the definition serve: they are valid, the one avoids the set from each safe state, the other attacks it from each winning one. Plain lists. -/
import Derived.Test.YteadkafeabhhhaaQ0
import Derived.Test.YteadkafeabhhhaaA1
namespace Go.Proofs.Yteadkafeabhhhaa
set_option linter.unusedVariables false
set_option linter.unusedSimpArgs false

theorem getD_map_range {α : Type} (f : Nat → α) (d : α) {n s : Nat} (h : s < n) : ((List.range n).map f).getD s d = f s := getD_rangeMap f d h
theorem strat_get (g : Game) (hF : Fine g) {s : Nat} (hs : s < g.m.rows.length) : (avoidL g).getD s 0 = rAvF g s ∧ (attackL g).getD s 0 = rAtF g s := by
  rw [← avoid_eq hF, ← attack_eq hF]
  exact ⟨getD_map_range _ _ hs, getD_map_range _ _ hs⟩
theorem row_len {g : Game} (hV : Valid g.m) {s : Nat} (hs : s < g.m.rows.length) : ((g.m.row s).length : Int) = g.m.ins := by
  rw [row_eq hs]; exact hV.len _ (List.getElem_mem hs)
theorem strat_ok {g : Game} (hF : Fine g) {l : List Int} (hl : l.length = g.m.rows.length) (h : ∀ s, s < g.m.rows.length → l.getD s 0 = -1 ∨ ∃ i : Nat, i < (g.m.row s).length ∧ l.getD s 0 = i ∧ 0 ≤ toAt g s i) : stratE g l = 0 := by
  unfold stratE
  rw [if_neg (fun h => h hl)]
  refine errL_none (fun s hs => ?_)
  rw [hl] at hs
  have hr := row_len hF.1 hs
  unfold errAt
  rcases h s hs with h1 | ⟨i, h1, h2, h3⟩
  · have hi := hF.1.ins
    rw [h1, if_neg (by omega), if_neg (by omega)]
  · rw [h2, if_neg (by omega), if_neg (fun h4 => ?_)]
    have h5 := h4.2.2
    rw [Int.toNat_natCast] at h5
    unfold toAt at h3
    omega
theorem avoid_ok {g : Game} (hF : Fine g) : stratE g (avoidL g) = 0 := by
  refine strat_ok hF (stratL_len _ _ _) (fun s hs => ?_)
  rw [(strat_get g hF hs).1]
  unfold rAvF
  rcases downB_spec (pAv g (rankG g.m (othersL g.ours) g.set) s) (g.m.row s).length _ (Nat.le_refl _) with ⟨h1, _⟩ | ⟨i, _, h2, h3, h4, _⟩
  · exact .inl h1
  · refine .inr ⟨i, h2, h3, ?_⟩
    unfold pAv at h4
    simp only [Bool.and_eq_true, decide_eq_true_eq] at h4
    exact h4.1.2
theorem attack_ok {g : Game} (hF : Fine g) : stratE g (attackL g) = 0 := by
  refine strat_ok hF (stratL_len _ _ _) (fun s hs => ?_)
  rw [(strat_get g hF hs).2]
  unfold rAtF
  rcases downB_spec (pAt g (rankG g.m g.ours g.set) s) (g.m.row s).length _ (Nat.le_refl _) with ⟨h1, _⟩ | ⟨i, _, h2, h3, h4, _⟩
  · exact .inl h1
  · refine .inr ⟨i, h2, h3, ?_⟩
    unfold pAt at h4
    simp only [Bool.and_eq_true, decide_eq_true_eq] at h4
    exact h4.1.2

/-! ### What is reached -/
theorem try_all {P : Nat → Prop} {c : Ent} {es : List Ent} {i : Nat} {x : Int} (h : ∀ e ∈ es, P e.st) (hx : x ≠ -1 → P x.toNat) : ∀ e ∈ tryE c es i x, P e.st := fun e he => by
  unfold tryE at he
  split at he
  · rename_i hc
    rcases List.mem_append.1 he with he | he
    · exact h e he
    · have : e = ⟨x.toNat, c.st, i, c.way ++ [(i : Int)]⟩ := by simpa using he
      rw [this]; exact hx hc.1
  · exact h e he
theorem row_all {P : Nat → Prop} {c : Ent} {row : List Int} {es : List Ent} (h : ∀ e ∈ es, P e.st) (hx : ∀ x ∈ row, x ≠ -1 → P x.toNat) : ∀ k, k ≤ row.length → ∀ e ∈ rowAt c row es k, P e.st
  | 0, _ => h
  | k + 1, hk => try_all (row_all h hx k (by omega)) (by
      rw [show row.getD k (-1) = row[k] by simp [List.getD, show k < row.length by omega]]
      exact hx _ (List.getElem_mem _))
theorem st_all {P : Nat → Prop} {M : List (List Int)} (h0 : P 0) (hx : ∀ s, P s → ∀ x ∈ M.getD s [], x ≠ -1 → P x.toNat) : ∀ n, ∀ e ∈ stAt M n, P e.st
  | 0 => fun e he => by
    have : e = ⟨0, -1, 0, []⟩ := by simpa [stAt] using he
    rw [this]; exact h0
  | n + 1 => fun e he => by
    unfold stAt at he
    split at he
    · rename_i c hc
      exact row_all (st_all h0 hx n) (hx c.st (st_all h0 hx n c (List.mem_of_getElem? hc))) _ (Nat.le_refl _) e he
    · exact st_all h0 hx n e he
theorem comes_true {P : Nat → Prop} {M : List (List Int)} {set : List Bool} (h0 : P 0) (hx : ∀ s, P s → ∀ x ∈ M.getD s [], x ≠ -1 → P x.toNat) (hs : ∀ s, P s → set.getD s false = false) : ∀ f n, (comesF M set f n).1 = true
  | 0, _ => rfl
  | f + 1, n => by
    unfold comesF
    split
    · rfl
    · rename_i c hc
      rw [hs c.st (st_all h0 hx n c (List.mem_of_getElem? hc)), if_neg (by decide)]
      exact comes_true h0 hx hs f (n + 1)

theorem mem_sucEg {g : Game} {s u : Nat} : u ∈ sucE (g.m.row s) ↔ ∃ i, i < (g.m.row s).length ∧ toAt g s i ≠ -1 ∧ (toAt g s i).toNat = u := by
  unfold sucE
  rw [List.mem_map]
  constructor
  · rintro ⟨e, he, rfl⟩
    obtain ⟨h1, h2⟩ := List.mem_filter.1 he
    obtain ⟨i, hi, rfl⟩ := List.mem_iff_getElem.1 h1
    refine ⟨i, hi, ?_, ?_⟩ <;> unfold toAt <;> rw [show (g.m.row s).getD i (0, 0) = (g.m.row s)[i] by simp [List.getD, hi]]
    simpa using h2
  · rintro ⟨i, hi, h1, rfl⟩
    unfold toAt at h1 ⊢
    rw [show (g.m.row s).getD i (0, 0) = (g.m.row s)[i] by simp [List.getD, hi]] at h1 ⊢
    exact ⟨_, List.mem_filter.2 ⟨List.getElem_mem hi, by simpa using h1⟩, rfl⟩
theorem fol_get {g : Game} (l : List Int) {s : Nat} (hs : s < g.m.rows.length) : (folL g l).getD s [] = folR g l s := getD_map_range _ _ hs
theorem fol_none {g : Game} (l : List Int) {s : Nat} (hs : ¬ s < g.m.rows.length) : (folL g l).getD s [] = [] := by
  unfold folL; simp [List.getD, List.getElem?_eq_none (show ((List.range g.m.rows.length).map (folR g l)).length ≤ s by simpa using hs)]
theorem mem_fol {g : Game} {l : List Int} {s : Nat} {x : Int} : x ∈ folR g l s ↔ ∃ i, i < (g.m.row s).length ∧ folE g l s i = x := by
  unfold folR
  rw [List.mem_map]
  constructor
  · rintro ⟨i, hi, rfl⟩; exact ⟨i, List.mem_range.1 hi, rfl⟩
  · rintro ⟨i, hi, rfl⟩; exact ⟨i, List.mem_range.2 hi, rfl⟩
theorem folE_ours {g : Game} {l : List Int} {s i : Nat} (ho : g.ours.getD s false = true) : folE g l s i = if (i : Int) = l.getD s 0 then toAt g s i else -1 := by
  unfold folE toAt
  rw [ho]
  by_cases h : (i : Int) = l.getD s 0
  · rw [if_pos h, if_neg (by simp [h])]
  · rw [if_neg h, if_pos (by simpa using h)]
theorem folE_theirs {g : Game} {l : List Int} {s i : Nat} (ho : g.ours.getD s false = false) : folE g l s i = toAt g s i := by
  unfold folE toAt; rw [ho]; rfl

theorem others_get (o : List Bool) {s : Nat} (hs : s < o.length) : (othersL o).getD s false = !(o.getD s false) := by
  unfold othersL; simp [List.getD, hs]

/-- From a safe state 0 the strategy of avoiding never comes to the set. -/
theorem avoid_serves {g : Game} (hF : Fine g) (h0 : (rankG g.m (othersL g.ours) g.set).getD 0 0 = -1) : (comesL (folL g (avoidL g)) g.set).1 = true := by
  obtain ⟨r, hR, hr⟩ := exists_rank (grOf g.m (othersL g.ours) g.set) (grOf_ok hF.1 (othersL g.ours) g.set)
  have hr : ∀ u, u < g.m.rows.length → r u = (rankG g.m (othersL g.ours) g.set).getD u 0 := hr
  have hn := hF.1.size
  have hgl : ∀ s, s < g.m.rows.length → r s = -1 → g.set.getD s false = false := fun s hs h => by
    cases hh : g.set.getD s false with
    | false => rfl
    | true => have := hR.goal s hs hh; omega
  unfold comesL
  refine comes_true (P := fun s => s < g.m.rows.length ∧ r s = -1) ⟨by omega, by rw [hr 0 (by omega)]; exact h0⟩ (fun s hs x hx hne => ?_) (fun s hs => hgl s hs.1 hs.2) _ _
  obtain ⟨hs, hrs⟩ := hs
  rw [fol_get _ hs] at hx
  obtain ⟨i, hi, he⟩ := mem_fol.1 hx
  have hto := toAt_range (g := g) hF.1 hi
  have hol : s < g.ours.length := by rw [hF.2.1]; exact hs
  cases ho : g.ours.getD s false with
  | true =>
    rw [folE_ours ho] at he
    by_cases hl : (i : Int) = (avoidL g).getD s 0
    · rw [if_pos hl] at he
      rw [(strat_get g hF hs).1] at hl
      unfold rAvF at hl
      rcases downB_spec (pAv g (rankG g.m (othersL g.ours) g.set) s) (g.m.row s).length _ (Nat.le_refl _) with ⟨h1, _⟩ | ⟨j, _, h2, h3, h4, _⟩
      · rw [h1] at hl; omega
      · rw [h3] at hl
        have : i = j := by omega
        subst this
        unfold pAv at h4
        simp only [Bool.and_eq_true, decide_eq_true_eq] at h4
        subst he
        have h5 := h4.2
        have h6 := (rank_bd g.m hF.1 (othersL g.ours) g.set (toAt g s i).toNat).1
        show (toAt g s i).toNat < g.m.rows.length ∧ r (toAt g s i).toNat = -1
        refine ⟨by omega, ?_⟩
        rw [hr _ (by omega)]; omega
    · rw [if_neg hl] at he; exact absurd he.symm hne
  | false =>
    rw [folE_theirs ho] at he
    subst he
    have hmem : (toAt g s i).toNat ∈ sucE (g.m.row s) := mem_sucEg.2 ⟨i, hi, hne, rfl⟩
    have htn : (grOf g.m (othersL g.ours) g.set).turn s = true := by
      show (othersL g.ours).getD s false = true
      rw [others_get _ hol, ho]; rfl
    exact ⟨by omega, hR.ours0 s hs (hgl s hs hrs) htn hrs _ hmem⟩

theorem mem_sucM {row : List Int} {u : Nat} : u ∈ sucM row ↔ ∃ x ∈ row, x ≠ -1 ∧ x.toNat = u := by
  unfold sucM
  rw [List.mem_map]
  constructor
  · rintro ⟨x, hx, rfl⟩
    obtain ⟨h1, h2⟩ := List.mem_filter.1 hx
    exact ⟨x, h1, by simpa using h2, rfl⟩
  · rintro ⟨x, h1, h2, rfl⟩
    exact ⟨x, List.mem_filter.2 ⟨h1, by simpa using h2⟩, rfl⟩
/-- Followed from 0, the strategy of attacking forces the set if anything does. -/
theorem attack_serves {g : Game} (hF : Fine g) : wins (folL g (attackL g)) g.set = decide ((rankG g.m g.ours g.set).getD 0 0 ≠ -1) := by
  have hM := folL_ok hF (attackL g)
  have hlen : (folL g (attackL g)).length = g.m.rows.length := by unfold folL; simp
  obtain ⟨r, hR, hr⟩ := exists_rank (grOf g.m g.ours g.set) (grOf_ok hF.1 g.ours g.set)
  obtain ⟨q, hQ, hq⟩ := exists_rank (grM (folL g (attackL g)) g.set) (grM_ok g.set hM.2.2)
  have hr : ∀ u, u < g.m.rows.length → r u = (rankG g.m g.ours g.set).getD u 0 := hr
  have hqn : (grM (folL g (attackL g)) g.set).n = g.m.rows.length := hlen
  rw [hqn] at hq
  have hn := hF.1.size
  have hsc : ∀ s, s < g.m.rows.length → ∀ u, u ∈ (grM (folL g (attackL g)) g.set).sc s ↔ ∃ i, i < (g.m.row s).length ∧ folE g (attackL g) s i ≠ -1 ∧ (folE g (attackL g) s i).toNat = u := fun s hs u => by
    show u ∈ sucM ((folL g (attackL g)).getD s []) ↔ _
    rw [fol_get _ hs, mem_sucM]
    constructor
    · rintro ⟨x, hx, h1, h2⟩
      obtain ⟨i, hi, rfl⟩ := mem_fol.1 hx
      exact ⟨i, hi, h1, h2⟩
    · rintro ⟨i, hi, h1, h2⟩
      exact ⟨_, mem_fol.2 ⟨i, hi, rfl⟩, h1, h2⟩
  have hgt : ∀ s, s < g.m.rows.length → (r s = 0 ↔ g.set.getD s false = true) := fun s hs => by
    constructor
    · intro h
      cases hh : g.set.getD s false with
      | true => rfl
      | false => have := hR.low s hs hh; omega
    · exact fun h => hR.goal s hs h
  have hqt : ∀ s, s < g.m.rows.length → g.set.getD s false = true → q s = 0 := fun s hs h => hQ.goal s (by rw [hqn]; exact hs) h
  have hrlow : ∀ s, s < g.m.rows.length → r s = -1 ∨ 0 ≤ r s := fun s hs => by
    cases hh : g.set.getD s false with
    | true => have := hR.goal s hs hh; omega
    | false => have := hR.low s hs hh; omega
  have hqlow : ∀ s, s < g.m.rows.length → q s = -1 ∨ 0 ≤ q s := fun s hs => by
    cases hh : g.set.getD s false with
    | true => have := hqt s hs hh; omega
    | false => have := hQ.low s (by rw [hqn]; exact hs) hh; omega
  have hth : ∀ s, s < g.m.rows.length → g.ours.getD s false = false → ∀ u, u ∈ (grM (folL g (attackL g)) g.set).sc s ↔ u ∈ (grOf g.m g.ours g.set).sc s := fun s hs ho u => by
    rw [hsc s hs]
    show _ ↔ u ∈ sucE (g.m.row s)
    rw [mem_sucEg]
    simp only [folE_theirs ho]
  -- forward
  have fwd : ∀ (k : Nat) (s : Nat), s < g.m.rows.length → r s = (k : Int) → 0 ≤ q s := by
    intro k
    induction k using Nat.strongRecOn with
    | ind k ih =>
      intro s hs hk
      cases hgs : g.set.getD s false with
      | true => rw [hqt s hs hgs]; omega
      | false =>
        have hk1 : 1 ≤ k := by
          have := hR.low s hs hgs; omega
        obtain ⟨k', rfl⟩ : ∃ k', k = k' + 1 := ⟨k - 1, by omega⟩
        have hrs : r s = (k' : Int) + 1 := by rw [hk]; push_cast; rfl
        rcases hqlow s hs with hq1 | hq1
        · exfalso
          have hcases := hQ.their0 s (by rw [hqn]; exact hs) hgs rfl hq1
          cases ho : g.ours.getD s false with
          | false =>
            obtain ⟨⟨u0, hu0, _⟩, hall⟩ := hR.their1 s hs hgs ho k' (by omega) hrs
            rcases hcases with he | ⟨u, hu, hqu⟩
            · have := (hth s hs ho u0).2 hu0
              rw [he] at this; cases this
            · have h1 := hall u ((hth s hs ho u).1 hu)
              have hul : u < g.m.rows.length := grOf_ok hF.1 g.ours g.set s hs u ((hth s hs ho u).1 hu)
              have := ih (r u).toNat (by omega) u hul (by omega)
              omega
          | true =>
            have hpos : 0 < (rankG g.m g.ours g.set).getD s 0 := by rw [← hr s hs]; omega
            have hR1 := hR.ours1 s hs hgs ho k' (by omega) hrs
            obtain ⟨⟨u0, hu0, hru0⟩, _⟩ := hR1
            obtain ⟨i0, hi0, hne0, hto0⟩ := mem_sucEg.1 (show u0 ∈ sucE (g.m.row s) from hu0)
            have hto0r := toAt_range (g := g) hF.1 hi0
            have hp0 : pAt g (rankG g.m g.ours g.set) s i0 = true := by
              unfold pAt
              rw [ho, hto0, ← hr u0 (by omega), ← hr s hs, hru0, hrs]
              simp; omega
            have hat := (strat_get g hF hs).2
            unfold rAtF at hat
            rcases downB_spec (pAt g (rankG g.m g.ours g.set) s) (g.m.row s).length _ (Nat.le_refl _) with ⟨_, h2⟩ | ⟨j, _, h2, h3, h4, _⟩
            · have := h2 i0 (by omega) hi0
              rw [hp0] at this; cases this
            · rw [h3] at hat
              have hjto := toAt_range (g := g) hF.1 h2
              have h5 : g.ours.getD s false = true ∧ 0 < (rankG g.m g.ours g.set).getD s 0 ∧ 0 ≤ toAt g s j ∧ (rankG g.m g.ours g.set).getD (toAt g s j).toNat 0 = (rankG g.m g.ours g.set).getD s 0 - 1 := by
                unfold pAt at h4
                simp only [Bool.and_eq_true, decide_eq_true_eq] at h4
                exact ⟨h4.1.1.1, h4.1.1.2, h4.1.2, h4.2⟩
              have hju : (toAt g s j).toNat < g.m.rows.length := by omega
              have hrj : r (toAt g s j).toNat = (k' : Int) := by
                rw [hr _ hju, h5.2.2.2, ← hr s hs, hrs]; omega
              have hqj := ih k' (by omega) _ hju hrj
              have hfj : folE g (attackL g) s j = toAt g s j := by rw [folE_ours ho, if_pos hat.symm]
              rcases hcases with he | ⟨u, hu, hqu⟩
              · have : (toAt g s j).toNat ∈ (grM (folL g (attackL g)) g.set).sc s := (hsc s hs _).2 ⟨j, h2, by rw [hfj]; omega, by rw [hfj]⟩
                rw [he] at this; cases this
              · obtain ⟨i, hi, hne, htu⟩ := (hsc s hs u).1 hu
                rw [folE_ours ho] at hne htu
                by_cases hij : (i : Int) = (attackL g).getD s 0
                · rw [if_pos hij] at htu
                  rw [hat] at hij
                  have : i = j := by omega
                  subst this
                  rw [htu] at hqj; omega
                · rw [if_neg hij] at hne; exact hne rfl
        · exact hq1
  -- back
  have bwd : ∀ (k : Nat) (s : Nat), s < g.m.rows.length → q s = (k : Int) → 0 ≤ r s := by
    intro k
    induction k using Nat.strongRecOn with
    | ind k ih =>
      intro s hs hk
      cases hgs : g.set.getD s false with
      | true => rw [hR.goal s hs hgs]; omega
      | false =>
        have hk1 : 1 ≤ k := by
          have := hQ.low s (by rw [hqn]; exact hs) hgs; omega
        obtain ⟨k', rfl⟩ : ∃ k', k = k' + 1 := ⟨k - 1, by omega⟩
        have hqs : q s = (k' : Int) + 1 := by rw [hk]; push_cast; rfl
        obtain ⟨⟨u0, hu0, _⟩, hall⟩ := hQ.their1 s (by rw [hqn]; exact hs) hgs rfl k' (by omega) hqs
        rcases hrlow s hs with hr1 | hr1
        · exfalso
          cases ho : g.ours.getD s false with
          | false =>
            rcases hR.their0 s hs hgs ho hr1 with he | ⟨u, hu, hru⟩
            · have := (hth s hs ho u0).1 hu0
              rw [he] at this; cases this
            · have h1 := hall u ((hth s hs ho u).2 hu)
              have hul : u < g.m.rows.length := grOf_ok hF.1 g.ours g.set s hs u hu
              have := ih (q u).toNat (by omega) u hul (by omega)
              omega
          | true =>
            obtain ⟨i, hi, hne, _⟩ := (hsc s hs u0).1 hu0
            rw [folE_ours ho, (strat_get g hF hs).2] at hne
            have : rAtF g s = -1 := by
              unfold rAtF
              exact downB_none (fun j hj => by
                unfold pAt
                rw [← hr s hs, hr1]; simp)
            rw [this, if_neg (by omega)] at hne
            exact hne rfl
        · exact hr1
  have h00 : 0 < g.m.rows.length := by omega
  unfold wins
  rw [hlen, ← hq 0 h00, ← hr 0 h00]
  rcases hrlow 0 h00 with h1 | h1
  · rcases hqlow 0 h00 with h2 | h2
    · rw [h1, h2]; rfl
    · have := bwd (q 0).toNat 0 h00 (by omega); omega
  · have := fwd (r 0).toNat 0 h00 (by omega)
    rw [decide_eq_true this, decide_eq_true (show r 0 ≠ -1 by omega)]
end Go.Proofs.Yteadkafeabhhhaa
