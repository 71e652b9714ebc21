/- Ranks: the states from which a player forces a set: the one word of them, the rounds, and the search by a queue. Plain lists. -/
namespace Go.Proofs.Yteadkafeabhhhaa
set_option linter.unusedVariables false
set_option linter.unusedSimpArgs false

/-- A graph on 0 .. n-1, with turns and a set. -/
structure Gr where
  n : Nat
  sc : Nat → List Nat
  turn : Nat → Bool
  goal : Nat → Bool
def Gr.Ok (g : Gr) : Prop := ∀ s, s < g.n → ∀ u ∈ g.sc s, u < g.n

structure IsRank (g : Gr) (r : Nat → Int) : Prop where
  goal : ∀ s, s < g.n → g.goal s = true → r s = 0
  low : ∀ s, s < g.n → g.goal s = false → r s = -1 ∨ 1 ≤ r s
  ours0 : ∀ s, s < g.n → g.goal s = false → g.turn s = true → r s = -1 → ∀ u ∈ g.sc s, r u = -1
  ours1 : ∀ s, s < g.n → g.goal s = false → g.turn s = true → ∀ k : Int, 0 ≤ k → r s = k + 1 → (∃ u ∈ g.sc s, r u = k) ∧ ∀ u ∈ g.sc s, r u = -1 ∨ k ≤ r u
  their0 : ∀ s, s < g.n → g.goal s = false → g.turn s = false → r s = -1 → g.sc s = [] ∨ ∃ u ∈ g.sc s, r u = -1
  their1 : ∀ s, s < g.n → g.goal s = false → g.turn s = false → ∀ k : Int, 0 ≤ k → r s = k + 1 → (∃ u ∈ g.sc s, r u = k) ∧ ∀ u ∈ g.sc s, 0 ≤ r u ∧ r u ≤ k

/-! ### Round by round -/
def goesAt (g : Gr) (r : List Int) (s : Nat) : Bool :=
  if g.turn s then (g.sc s).any (fun u => decide (0 ≤ r.getD u 0)) else (!(g.sc s).isEmpty) && (g.sc s).all (fun u => decide (0 ≤ r.getD u 0))
def forceAt (g : Gr) (k : Nat) (r : List Int) (s : Nat) : Int := if r.getD s 0 < 0 ∧ goesAt g r s = true then (k : Int) + 1 else r.getD s 0
def force0 (g : Gr) : List Int := (List.range g.n).map fun s => if g.goal s then 0 else -1
def forceL (g : Gr) : Nat → List Int
  | 0 => force0 g
  | k + 1 => (List.range g.n).map (forceAt g k (forceL g k))

theorem getD_rangeMap {α : Type} (f : Nat → α) (d : α) {n i : Nat} (h : i < n) : ((List.range n).map f).getD i d = f i := by
  simp [List.getD, h]

def cutAt (r : Nat → Int) (k : Nat) (s : Nat) : Int := if 0 ≤ r s ∧ r s ≤ k then r s else -1
theorem force_eq {g : Gr} {r : Nat → Int} (hg : g.Ok) (h : IsRank g r) : ∀ k, forceL g k = (List.range g.n).map (cutAt r k)
  | 0 => by
    unfold forceL force0
    apply List.map_congr_left
    intro s hs
    have hs := List.mem_range.1 hs
    unfold cutAt
    cases hgs : g.goal s with
    | true => simp [h.goal s hs hgs]
    | false =>
      have := h.low s hs hgs
      rw [if_neg (by simp), if_neg (by omega)]
  | k + 1 => by
    unfold forceL
    rw [force_eq hg h k]
    apply List.map_congr_left
    intro s hs
    have hs := List.mem_range.1 hs
    have hR : ∀ u, u < g.n → ((List.range g.n).map (cutAt r k)).getD u 0 = cutAt r k u := fun u hu => getD_rangeMap _ _ hu
    unfold forceAt
    rw [hR s hs]
    have hany : (∃ u ∈ g.sc s, 0 ≤ r u ∧ r u ≤ k) ↔ (g.sc s).any (fun u => decide (0 ≤ ((List.range g.n).map (cutAt r k)).getD u 0)) = true := by
      rw [List.any_eq_true]
      refine exists_congr fun u => and_congr_right fun hu => ?_
      rw [hR u (hg s hs u hu)]
      unfold cutAt
      by_cases hc : 0 ≤ r u ∧ r u ≤ k
      · rw [if_pos hc]; simp [hc]
      · rw [if_neg hc]; simp; omega
    have hall : (∀ u ∈ g.sc s, 0 ≤ r u ∧ r u ≤ k) ↔ (g.sc s).all (fun u => decide (0 ≤ ((List.range g.n).map (cutAt r k)).getD u 0)) = true := by
      rw [List.all_eq_true]
      refine forall_congr' fun u => ?_
      constructor
      · intro hh hu
        rw [hR u (hg s hs u hu)]
        unfold cutAt
        rw [if_pos (hh hu)]; simp [(hh hu).1]
      · intro hh hu
        have := hh hu
        rw [hR u (hg s hs u hu)] at this
        unfold cutAt at this
        by_cases hc : 0 ≤ r u ∧ r u ≤ k
        · exact hc
        · rw [if_neg hc] at this; simp at this
    have hempty : (!(g.sc s).isEmpty) = true ↔ g.sc s ≠ [] := by cases g.sc s <;> simp
    cases hgs : g.goal s with
    | true =>
      have h0 := h.goal s hs hgs
      unfold cutAt
      rw [h0]
      have e1 : (0 : Int) ≤ 0 ∧ (0 : Int) ≤ (k : Int) := by omega
      have e2 : (0 : Int) ≤ 0 ∧ (0 : Int) ≤ ((k + 1 : Nat) : Int) := by omega
      rw [if_pos e1, if_pos e2, if_neg (by omega)]
    | false =>
      have hlow := h.low s hs hgs
      by_cases hc : 0 ≤ r s ∧ r s ≤ k
      · have e1 : cutAt r k s = r s := if_pos hc
        have e2 : cutAt r (k + 1) s = r s := if_pos (by omega)
        rw [e1, e2, if_neg (by omega)]
      · have e1 : cutAt r k s = -1 := if_neg hc
        rw [e1]
        cases ht : g.turn s with
        | true =>
          have hgo : goesAt g ((List.range g.n).map (cutAt r k)) s = true ↔ ∃ u ∈ g.sc s, 0 ≤ r u ∧ r u ≤ k := by
            unfold goesAt; rw [ht, if_pos rfl]; exact hany.symm
          rcases hlow with hm | hp
          · have e2 : cutAt r (k + 1) s = -1 := if_neg (by omega)
            rw [e2]
            refine if_neg ?_
            rintro ⟨_, hx⟩
            obtain ⟨u, hu, h1, _⟩ := hgo.1 hx
            have := h.ours0 s hs hgs ht hm u hu
            omega
          · obtain ⟨⟨u, hu, hru⟩, hle⟩ := h.ours1 s hs hgs ht (r s - 1) (by omega) (by omega)
            by_cases hk : r s = k + 1
            · have e2 : cutAt r (k + 1) s = r s := if_pos (by omega)
              rw [e2, hk]
              exact if_pos ⟨by omega, hgo.2 ⟨u, hu, by omega, by omega⟩⟩
            · have e2 : cutAt r (k + 1) s = -1 := if_neg (by omega)
              rw [e2]
              refine if_neg ?_
              rintro ⟨_, hx⟩
              obtain ⟨v, hv, h1, h2⟩ := hgo.1 hx
              have := hle v hv
              omega
        | false =>
          have hgo : goesAt g ((List.range g.n).map (cutAt r k)) s = true ↔ g.sc s ≠ [] ∧ ∀ u ∈ g.sc s, 0 ≤ r u ∧ r u ≤ k := by
            unfold goesAt; rw [ht, if_neg (by decide), Bool.and_eq_true, hempty, ← hall]
          rcases hlow with hm | hp
          · have e2 : cutAt r (k + 1) s = -1 := if_neg (by omega)
            rw [e2]
            refine if_neg ?_
            rintro ⟨_, hx⟩
            obtain ⟨hne, ha⟩ := hgo.1 hx
            rcases h.their0 s hs hgs ht hm with h0 | ⟨u, hu, h1⟩
            · exact hne h0
            · have := ha u hu; omega
          · obtain ⟨⟨u, hu, hru⟩, hle⟩ := h.their1 s hs hgs ht (r s - 1) (by omega) (by omega)
            by_cases hk : r s = k + 1
            · have e2 : cutAt r (k + 1) s = r s := if_pos (by omega)
              rw [e2, hk]
              exact if_pos ⟨by omega, hgo.2 ⟨(fun h0 => by rw [h0] at hu; exact absurd hu (by simp)), fun v hv => (by have := hle v hv; omega)⟩⟩
            · have e2 : cutAt r (k + 1) s = -1 := if_neg (by omega)
              rw [e2]
              refine if_neg ?_
              rintro ⟨_, hx⟩
              obtain ⟨_, ha⟩ := hgo.1 hx
              have := ha u hu
              omega

/-! ### The search by a queue -/
structure Bf where
  left : List Int
  rank : List Int
  out : List Nat
def Bf.R (b : Bf) (s : Nat) : Int := b.rank.getD s 0
def Bf.L (b : Bf) (s : Nat) : Int := b.left.getD s 0

def touch (turn : Nat → Bool) (d : Int) (b : Bf) (t : Nat) : Bf :=
  if b.R t = -1 ∧ (turn t = true ∨ b.L t - 1 = 0) then { left := b.left.set t (b.L t - 1), rank := b.rank.set t (d + 1), out := b.out ++ [t] }
  else { left := b.left.set t (b.L t - 1), rank := b.rank, out := b.out }
def back (g : Gr) (u : Nat) : List Nat := (List.range g.n).flatMap fun t => List.replicate ((g.sc t).count u) t
def visit (g : Gr) (b : Bf) (s : Nat) : Bf := (back g s).foldl (touch g.turn (b.R s)) b
def bfs0 (g : Gr) : Bf := { left := (List.range g.n).map (fun s => ((g.sc s).length : Int)), rank := force0 g, out := (List.range g.n).filter g.goal }
def bfsAt (g : Gr) : Nat → Bf
  | 0 => bfs0 g
  | k + 1 => match (bfsAt g k).out[k]? with
    | some s => visit g (bfsAt g k) s
    | none => bfsAt g k

theorem getD_set {α : Type} (l : List α) (i j : Nat) (x d : α) (h : i < l.length) : (l.set i x).getD j d = if j = i then x else l.getD j d := by
  simp only [List.getD, List.getElem?_set]
  by_cases hij : i = j
  · subst hij; simp [h]
  · rw [if_neg hij, if_neg (fun e => hij e.symm)]

theorem touchAll (turn : Nat → Bool) (d : Int) (hd : 0 ≤ d) (n : Nat) : ∀ (l : List Nat) (b : Bf), (∀ t ∈ l, t < n) → b.left.length = n → b.rank.length = n → (∀ t, t < n → (l.count t : Int) ≤ b.L t) →
    let b' := l.foldl (touch turn d) b
    b'.left.length = n ∧ b'.rank.length = n ∧ (∀ t, t < n → b'.L t = b.L t - (l.count t : Int)) ∧
    ∃ new : List Nat, b'.out = b.out ++ new ∧ new.Nodup ∧ (∀ t, t ∈ new ↔ t ∈ l ∧ b.R t = -1 ∧ (turn t = true ∨ b.L t = (l.count t : Int))) ∧ (∀ t, t < n → b'.R t = if t ∈ new then d + 1 else b.R t)
  | [], b, _, hl, hr, _ => by
    refine ⟨hl, hr, fun t _ => by simp, [], by simp, List.nodup_nil, fun t => by simp, fun t _ => by simp⟩
  | t0 :: l, b, hlt, hl, hr, hc => by
    have ht0 : t0 < n := hlt t0 (by simp)
    have hlt' : ∀ t ∈ l, t < n := fun t ht => hlt t (by simp [ht])
    obtain ⟨b1, hb1⟩ : ∃ b1, b1 = touch turn d b t0 := ⟨_, rfl⟩
    have hL1 : ∀ t, b1.L t = if t = t0 then b.L t0 - 1 else b.L t := fun t => by
      rw [hb1]; unfold touch
      split <;> exact getD_set b.left t0 t _ 0 (by omega)
    have hcnt : ∀ t, ((t0 :: l).count t : Int) = (l.count t : Int) + if t = t0 then 1 else 0 := fun t => by
      rw [List.count_cons]
      by_cases h : t = t0
      · subst h; simp
      · have h' : (t0 == t) = false := by simpa using fun e => h e.symm
        simp [h, h']
    have hl1 : b1.left.length = n := by rw [hb1]; unfold touch; split <;> simpa using hl
    have hr1 : b1.rank.length = n := by rw [hb1]; unfold touch; split <;> simpa using hr
    have hc1 : ∀ t, t < n → (l.count t : Int) ≤ b1.L t := fun t ht => by
      have h1 := hc t ht
      rw [hcnt] at h1
      rw [hL1]
      by_cases h : t = t0
      · subst h; simp at h1 ⊢; omega
      · rw [if_neg h] at h1 ⊢; omega
    obtain ⟨h1, h2, h3, new, h4, h5, h6, h7⟩ := touchAll turn d hd n l b1 hlt' hl1 hr1 hc1
    have hfold : (t0 :: l).foldl (touch turn d) b = l.foldl (touch turn d) b1 := by rw [List.foldl_cons, ← hb1]
    intro b'
    have hb' : b' = l.foldl (touch turn d) b1 := hfold
    rw [hb']
    refine ⟨h1, h2, fun t ht => ?_, ?_⟩
    · rw [h3 t ht, hL1, hcnt]
      by_cases h : t = t0
      · subst h; simp; omega
      · rw [if_neg h, if_neg h]; omega
    · by_cases hcond : b.R t0 = -1 ∧ (turn t0 = true ∨ b.L t0 - 1 = 0)
      · have e1 : b1 = { left := b.left.set t0 (b.L t0 - 1), rank := b.rank.set t0 (d + 1), out := b.out ++ [t0] } := by rw [hb1]; unfold touch; rw [if_pos hcond]
        have hR1 : ∀ t, b1.R t = if t = t0 then d + 1 else b.R t := fun t => by
          rw [e1]; exact getD_set b.rank t0 t _ 0 (by omega)
        have hn0 : t0 ∉ new := fun h => by
          have := ((h6 t0).1 h).2.1
          rw [hR1, if_pos rfl] at this; omega
        refine ⟨t0 :: new, ?_, List.nodup_cons.2 ⟨hn0, h5⟩, fun t => ?_, fun t ht => ?_⟩
        · rw [h4, e1]; simp
        · by_cases h : t = t0
          · subst h
            simp only [List.mem_cons, true_or, true_and, true_iff]
            refine ⟨hcond.1, ?_⟩
            rcases hcond.2 with h | h
            · exact .inl h
            · refine .inr ?_
              have h8 := hc t ht0
              have h9 := hc1 t ht0
              rw [hL1, if_pos rfl] at h9
              rw [hcnt, if_pos rfl] at h8 ⊢
              omega
          · rw [List.mem_cons, h6 t, hR1, if_neg h, hL1, if_neg h, hcnt, if_neg h, List.mem_cons]
            simp [h]
        · rw [h7 t ht, hR1]
          by_cases h : t = t0
          · subst h; simp
          · simp [h]
      · have e1 : b1 = { left := b.left.set t0 (b.L t0 - 1), rank := b.rank, out := b.out } := by rw [hb1]; unfold touch; rw [if_neg hcond]
        have hR1 : ∀ t, b1.R t = b.R t := fun t => by rw [e1]; rfl
        refine ⟨new, ?_, h5, fun t => ?_, fun t ht => ?_⟩
        · rw [h4, e1]
        · rw [h6 t, hR1, hL1, hcnt]
          by_cases h : t = t0
          · subst h
            simp only [if_pos, List.mem_cons, true_or, true_and]
            constructor
            · rintro ⟨_, h8, h9⟩
              refine ⟨h8, ?_⟩
              rcases h9 with h9 | h9
              · exact .inl h9
              · exact .inr (by omega)
            · rintro ⟨h8, h9⟩
              have h10 : ¬ (turn t = true ∨ b.L t - 1 = 0) := fun h => hcond ⟨h8, h⟩
              have h11 : turn t ≠ true := fun h => h10 (.inl h)
              have h12 : b.L t - 1 ≠ 0 := fun h => h10 (.inr h)
              have h13 := h9.resolve_left h11
              have h14 : 0 < l.count t := by omega
              exact ⟨List.count_pos_iff.1 h14, h8, .inr (by omega)⟩
          · rw [if_neg h, if_neg h, List.mem_cons]
            simp [h]
        · rw [h7 t ht, hR1]

theorem count_flatMap_range (f : Nat → Nat) (t : Nat) : ∀ n, ((List.range n).flatMap fun s => List.replicate (f s) s).count t = if t < n then f t else 0
  | 0 => by simp
  | n + 1 => by
    rw [List.range_succ, List.flatMap_append, List.count_append, count_flatMap_range f t n]
    simp only [List.flatMap_cons, List.flatMap_nil, List.append_nil, List.count_replicate]
    by_cases h : t < n
    · have h1 : (n == t) = false := by simp; omega
      rw [if_pos h, h1, if_pos (show t < n + 1 by omega)]; simp
    · by_cases h2 : t = n
      · subst h2; simp
      · have h1 : (n == t) = false := by simp; omega
        rw [if_neg h, h1, if_neg (show ¬ t < n + 1 by omega)]; simp
theorem count_back (g : Gr) (u t : Nat) : (back g u).count t = if t < g.n then (g.sc t).count u else 0 := count_flatMap_range _ _ _
theorem mem_back {g : Gr} {u t : Nat} : t ∈ back g u ↔ t < g.n ∧ u ∈ g.sc t := by
  rw [← List.count_pos_iff, count_back]
  by_cases h : t < g.n
  · rw [if_pos h]; simp [h]
  · rw [if_neg h]; simp [h]

/-- What holds when k states of the queue are done. -/
structure BInv (g : Gr) (k : Nat) (b : Bf) : Prop where
  ll : b.left.length = g.n
  rl : b.rank.length = g.n
  nd : b.out.Nodup
  lt : ∀ u ∈ b.out, u < g.n
  mem : ∀ s, s < g.n → (0 ≤ b.R s ↔ s ∈ b.out)
  low : ∀ s, s < g.n → -1 ≤ b.R s
  zero : ∀ s, s < g.n → (b.R s = 0 ↔ g.goal s = true)
  sorted : ∀ (i j u v : Nat), i ≤ j → b.out[i]? = some u → b.out[j]? = some v → b.R u ≤ b.R v
  near : ∀ (j u v : Nat), b.out[k]? = some u → b.out[j]? = some v → b.R v ≤ b.R u + 1
  pos : ∀ (j u : Nat), b.out[j]? = some u → b.R u ≤ j
  cnt : ∀ t, t < g.n → b.L t = ((g.sc t).countP (fun u => !(b.out.take k).contains u) : Int)
  ours : ∀ t, t < g.n → g.goal t = false → g.turn t = true → (b.R t = -1 ∧ ∀ u ∈ g.sc t, u ∉ b.out.take k) ∨
    ∃ j u : Nat, j < k ∧ b.out[j]? = some u ∧ u ∈ g.sc t ∧ b.R t = b.R u + 1 ∧ ∀ v ∈ g.sc t, v ∉ b.out.take j
  their : ∀ t, t < g.n → g.goal t = false → g.turn t = false → (b.R t = -1 ∧ (g.sc t = [] ∨ ∃ u ∈ g.sc t, u ∉ b.out.take k)) ∨
    ∃ j u : Nat, j < k ∧ b.out[j]? = some u ∧ u ∈ g.sc t ∧ b.R t = b.R u + 1 ∧ ∀ v ∈ g.sc t, v ∈ b.out.take (j + 1)

theorem force0_R (g : Gr) {s : Nat} (hs : s < g.n) : (force0 g).getD s 0 = if g.goal s then 0 else -1 := getD_rangeMap _ _ hs
theorem binv0 (g : Gr) (hg : g.Ok) : BInv g 0 (bfs0 g) := by
  have hR : ∀ s, s < g.n → (bfs0 g).R s = if g.goal s then 0 else -1 := fun s hs => force0_R g hs
  have hout : ∀ u, u ∈ (bfs0 g).out ↔ u < g.n ∧ g.goal u = true := fun u => by unfold bfs0; simp
  have hz : ∀ (j u : Nat), (bfs0 g).out[j]? = some u → (bfs0 g).R u = 0 := fun j u h => by
    have h1 := (hout u).1 (List.mem_of_getElem? h)
    rw [hR u h1.1, if_pos h1.2]
  refine ⟨by simp [bfs0], by simp [bfs0, force0], ?_, fun u hu => ((hout u).1 hu).1, fun s hs => ?_, fun s hs => ?_, fun s hs => ?_, ?_, ?_, ?_, fun t ht => ?_, fun t ht hgt htt => ?_, fun t ht hgt htt => ?_⟩
  · exact List.nodup_range.filter _
  · rw [hR s hs, hout]
    cases g.goal s <;> simp [hs]
  · rw [hR s hs]; split <;> omega
  · rw [hR s hs]; cases g.goal s <;> simp
  · intro i j u v _ hi hj; rw [hz i u hi, hz j v hj]; exact Int.le_refl _
  · intro j u v hi hj; rw [hz 0 u hi, hz j v hj]; omega
  · intro j u hj; rw [hz j u hj]; omega
  · have : (bfs0 g).L t = ((g.sc t).length : Int) := getD_rangeMap _ _ ht
    rw [this]; simp
  · exact .inl ⟨by rw [hR t ht, hgt]; rfl, by simp⟩
  · refine .inl ⟨by rw [hR t ht, hgt]; rfl, ?_⟩
    cases h : g.sc t with
    | nil => exact .inl rfl
    | cons u l => exact .inr ⟨u, by simp, by simp⟩

theorem mem_take_of_get {l : List Nat} {j k u : Nat} (h : l[j]? = some u) (hjk : j < k) : u ∈ l.take k := by
  obtain ⟨hj, rfl⟩ := List.getElem?_eq_some_iff.1 h
  exact List.mem_iff_getElem.2 ⟨j, by rw [List.length_take]; omega, by simp⟩
theorem get_of_mem_take {l : List Nat} {k u : Nat} (h : u ∈ l.take k) : ∃ j, j < k ∧ l[j]? = some u := by
  obtain ⟨j, hj, rfl⟩ := List.mem_iff_getElem.1 h
  rw [List.length_take] at hj
  exact ⟨j, by omega, by simp [show j < l.length by omega]⟩
theorem take_append_le {α : Type} (l m : List α) {k : Nat} (h : k ≤ l.length) : (l ++ m).take k = l.take k := by
  rw [List.take_append, show k - l.length = 0 by omega]; simp

theorem binv_step {g : Gr} (hg : g.Ok) {k s : Nat} {b : Bf} (h : BInv g k b) (hk : b.out[k]? = some s) : BInv g (k + 1) (visit g b s) := by
  have hkl : k < b.out.length := (List.getElem?_eq_some_iff.1 hk).1
  have hsm : s ∈ b.out := List.mem_of_getElem? hk
  have hsn : s < g.n := h.lt s hsm
  have hd : 0 ≤ b.R s := (h.mem s hsn).2 hsm
  have hst : s ∉ b.out.take k := fun hc => by
    obtain ⟨j, hj, hju⟩ := get_of_mem_take hc
    have := (List.getElem?_inj (List.getElem?_eq_some_iff.1 hju).1 h.nd).1 (hju.trans hk.symm)
    omega
  have htk : ∀ v, v ∈ b.out.take (k + 1) ↔ v ∈ b.out.take k ∨ v = s := fun v => by
    rw [List.take_add_one, hk]; simp
  -- the numbers of edges
  have hsplit : ∀ l : List Nat, (l.countP (fun u => !(b.out.take k).contains u) : Int) = l.countP (fun u => !(b.out.take (k + 1)).contains u) + l.count s := fun l => by
    induction l with
    | nil => rfl
    | cons x r ih =>
      rw [List.countP_cons, List.countP_cons, List.count_cons]
      have hx : (b.out.take (k + 1)).contains x = ((b.out.take k).contains x || x == s) := by
        rw [Bool.eq_iff_iff]; simp only [List.contains_iff_mem, Bool.or_eq_true, beq_iff_eq]; exact htk x
      rw [hx]
      by_cases hxs : x = s
      · subst hxs
        have : (b.out.take k).contains x = false := by
          cases hcc : (b.out.take k).contains x
          · rfl
          · exact absurd (List.contains_iff_mem.1 hcc) hst
        rw [this]; simp only [beq_self_eq_true, Bool.or_true, Bool.or_false, Bool.false_or, Bool.true_or, Bool.not_true, Bool.not_false, if_true, Bool.false_eq_true, if_false]; omega
      · have e1 : (x == s) = false := by simpa using hxs
        rw [e1]
        cases (b.out.take k).contains x <;> simp only [beq_self_eq_true, Bool.or_true, Bool.or_false, Bool.false_or, Bool.true_or, Bool.not_true, Bool.not_false, if_true, Bool.false_eq_true, if_false] <;> omega
  have hcb : ∀ t, t < g.n → ((back g s).count t : Int) ≤ b.L t := fun t ht => by
    rw [count_back, if_pos ht, h.cnt t ht, hsplit]; omega
  obtain ⟨h1, h2, h3, new, h4, h5, h6, h7⟩ := touchAll g.turn (b.R s) hd g.n (back g s) b (fun t ht => (mem_back.1 ht).1) h.ll h.rl hcb
  have hv : visit g b s = (back g s).foldl (touch g.turn (b.R s)) b := rfl
  rw [← hv] at h1 h2 h3 h4 h7
  obtain ⟨b', hb'⟩ : ∃ b', b' = visit g b s := ⟨_, rfl⟩
  rw [← hb'] at h1 h2 h3 h4 h7 ⊢
  have hnew : ∀ t, t ∈ new ↔ t < g.n ∧ s ∈ g.sc t ∧ b.R t = -1 ∧ (g.turn t = true ∨ ∀ u ∈ g.sc t, u ∈ b.out.take (k + 1)) := fun t => by
    rw [h6 t, mem_back]
    constructor
    · rintro ⟨⟨ht, hs⟩, hr, hc⟩
      refine ⟨ht, hs, hr, hc.imp id fun hc => ?_⟩
      rw [count_back, if_pos ht, h.cnt t ht, hsplit] at hc
      have h0 : (g.sc t).countP (fun u => !(b.out.take (k + 1)).contains u) = 0 := by omega
      intro u hu
      have := List.countP_eq_zero.1 h0 u hu
      simpa using this
    · rintro ⟨ht, hs, hr, hc⟩
      refine ⟨⟨ht, hs⟩, hr, hc.imp id fun hc => ?_⟩
      rw [count_back, if_pos ht, h.cnt t ht, hsplit]
      have h0 : (g.sc t).countP (fun u => !(b.out.take (k + 1)).contains u) = 0 := List.countP_eq_zero.2 (fun u hu => by simpa using hc u hu)
      omega
  have hnout : ∀ t, t ∈ new → t ∉ b.out := fun t ht hc => by
    obtain ⟨a1, _, a2, _⟩ := (hnew t).1 ht
    have := (h.mem t a1).2 hc; omega
  have hRold : ∀ u, u ∈ b.out → b'.R u = b.R u := fun u hu => by rw [h7 u (h.lt u hu), if_neg (fun hc => hnout u hc hu)]
  have hRnew : ∀ u, u ∈ new → b'.R u = b.R s + 1 := fun u hu => by rw [h7 u ((hnew u).1 hu).1, if_pos hu]
  have hget : ∀ (j u : Nat), b'.out[j]? = some u → (j < b.out.length ∧ b.out[j]? = some u) ∨ (b.out.length ≤ j ∧ u ∈ new) := fun j u hj => by
    rw [h4] at hj
    by_cases hlt : j < b.out.length
    · rw [List.getElem?_append_left hlt] at hj; exact .inl ⟨hlt, hj⟩
    · rw [List.getElem?_append_right (by omega)] at hj; exact .inr ⟨by omega, List.mem_of_getElem? hj⟩
  have hput : ∀ (j u : Nat), b.out[j]? = some u → b'.out[j]? = some u := fun j u hj => by
    rw [h4, List.getElem?_append_left (List.getElem?_eq_some_iff.1 hj).1]; exact hj
  have htake : ∀ j, j ≤ b.out.length → b'.out.take j = b.out.take j := fun j hj => by rw [h4, take_append_le _ _ hj]
  have hk1 : b'.out.take (k + 1) = b.out.take (k + 1) := htake _ (by omega)
  have hRs : b'.R s = b.R s := hRold s hsm
  have hbound : ∀ (j u : Nat), b'.out[j]? = some u → b'.R u ≤ b.R s + 1 := fun j u hj => by
    rcases hget j u hj with ⟨_, h8⟩ | ⟨_, h8⟩
    · rw [hRold u (List.mem_of_getElem? h8)]; exact h.near j s u hk h8
    · rw [hRnew u h8]; exact Int.le_refl _
  have hlowb : ∀ t, t < g.n → -1 ≤ b'.R t := fun t ht => by
    rw [h7 t ht]; have := h.low t ht; split <;> omega
  refine ⟨h1, h2, ?_, fun u hu => ?_, fun t ht => ?_, hlowb, fun t ht => ?_, ?_, ?_, ?_, fun t ht => ?_, fun t ht hgt htt => ?_, fun t ht hgt htt => ?_⟩
  · rw [h4]; exact List.nodup_append.2 ⟨h.nd, h5, fun a ha b hb e => hnout b hb (e ▸ ha)⟩
  · rw [h4] at hu
    rcases List.mem_append.1 hu with hu | hu
    · exact h.lt u hu
    · exact ((hnew u).1 hu).1
  · rw [h7 t ht, h4, List.mem_append]
    by_cases hc : t ∈ new
    · rw [if_pos hc]; simp [hc]; omega
    · rw [if_neg hc, h.mem t ht]; simp [hc]
  · rw [h7 t ht]
    by_cases hc : t ∈ new
    · rw [if_pos hc]
      have := ((hnew t).1 hc).2.2.1
      have hz := h.zero t ht
      constructor
      · intro; omega
      · intro hg; have := hz.2 hg; omega
    · rw [if_neg hc]; exact h.zero t ht
  · intro i j u v hij hi hj
    rcases hget i u hi with ⟨_, h8⟩ | ⟨hi2, h8⟩
    · rcases hget j v hj with ⟨_, h9⟩ | ⟨_, h9⟩
      · rw [hRold u (List.mem_of_getElem? h8), hRold v (List.mem_of_getElem? h9)]; exact h.sorted i j u v hij h8 h9
      · rw [hRnew v h9]; exact hbound i u hi
    · rcases hget j v hj with ⟨hj2, h9⟩ | ⟨_, h9⟩
      · omega
      · rw [hRnew v h9, hRnew u h8]; exact Int.le_refl _
  · intro j u v hi hj
    have h8 := hbound j v hj
    have h9 : b.R s ≤ b'.R u := by
      rcases hget (k + 1) u hi with ⟨_, h9⟩ | ⟨_, h9⟩
      · rw [hRold u (List.mem_of_getElem? h9)]; exact h.sorted k (k + 1) s u (by omega) hk h9
      · rw [hRnew u h9]; omega
    omega
  · intro j u hj
    rcases hget j u hj with ⟨_, h8⟩ | ⟨hj2, h8⟩
    · rw [hRold u (List.mem_of_getElem? h8)]; exact h.pos j u h8
    · rw [hRnew u h8]
      have := h.pos k s hk
      omega
  · rw [h3 t ht, count_back, if_pos ht, h.cnt t ht, hsplit, hk1]; omega
  · by_cases hc : t ∈ new
    · refine .inr ⟨k, s, by omega, hput k s hk, ((hnew t).1 hc).2.1, by rw [hRnew t hc, hRs], ?_⟩
      rw [htake k (by omega)]
      rcases h.ours t ht hgt htt with ⟨_, h8⟩ | ⟨j, u, _, _, _, h8, _⟩
      · exact h8
      · have h9 := ((hnew t).1 hc).2.2.1
        have := h.low u (by
          rename_i hju _ _
          exact h.lt u (List.mem_of_getElem? hju))
        have h10 := (h.mem u (by
          rename_i hju _ _
          exact h.lt u (List.mem_of_getElem? hju))).2 (by
          rename_i hju _ _
          exact List.mem_of_getElem? hju)
        omega
    · rcases h.ours t ht hgt htt with ⟨h8, h9⟩ | ⟨j, u, hj, hju, hu, h8, h9⟩
      · refine .inl ⟨by rw [h7 t ht, if_neg hc]; exact h8, fun u hu hin => ?_⟩
        rw [hk1] at hin
        rcases (htk u).1 hin with h10 | rfl
        · exact h9 u hu h10
        · exact hc ((hnew t).2 ⟨ht, hu, h8, .inl htt⟩)
      · refine .inr ⟨j, u, by omega, hput j u hju, hu, ?_, ?_⟩
        · rw [h7 t ht, if_neg hc, hRold u (List.mem_of_getElem? hju)]; exact h8
        · rw [htake j (by omega)]; exact h9
  · by_cases hc : t ∈ new
    · obtain ⟨_, h8, _, h9⟩ := (hnew t).1 hc
      refine .inr ⟨k, s, by omega, hput k s hk, h8, by rw [hRnew t hc, hRs], ?_⟩
      rw [hk1]
      exact h9.resolve_left (by rw [htt]; simp)
    · rcases h.their t ht hgt htt with ⟨h8, h9⟩ | ⟨j, u, hj, hju, hu, h8, h9⟩
      · refine .inl ⟨by rw [h7 t ht, if_neg hc]; exact h8, ?_⟩
        rcases h9 with h9 | ⟨u, hu, h10⟩
        · exact .inl h9
        · by_cases hall : ∀ v ∈ g.sc t, v ∈ b.out.take (k + 1)
          · have hsin : s ∈ g.sc t := by
              rcases (htk u).1 (hall u hu) with h11 | rfl
              · exact absurd h11 h10
              · exact hu
            exact absurd ((hnew t).2 ⟨ht, hsin, h8, .inr hall⟩) hc
          · refine .inr ?_
            rw [hk1]
            simpa using hall
      · refine .inr ⟨j, u, by omega, hput j u hju, hu, ?_, ?_⟩
        · rw [h7 t ht, if_neg hc, hRold u (List.mem_of_getElem? hju)]; exact h8
        · rw [htake (j + 1) (by omega)]; exact h9

theorem bfs_inv (g : Gr) (hg : g.Ok) : ∀ k, k ≤ (bfsAt g k).out.length → BInv g k (bfsAt g k) ∧ ∀ j, j ≤ k → j ≤ (bfsAt g j).out.length
  | 0, _ => ⟨binv0 g hg, fun j hj => by omega⟩
  | k + 1, h => by
    have e : bfsAt g (k + 1) = match (bfsAt g k).out[k]? with
      | some s => visit g (bfsAt g k) s
      | none => bfsAt g k := rfl
    cases hk : (bfsAt g k).out[k]? with
    | none =>
      have h1 := List.getElem?_eq_none_iff.1 hk
      rw [e, hk] at h
      simp only at h
      omega
    | some s =>
      have hlt := (List.getElem?_eq_some_iff.1 hk).1
      obtain ⟨h1, h2⟩ := bfs_inv g hg k (by omega)
      refine ⟨by rw [e, hk]; exact binv_step hg h1 hk, fun j hj => ?_⟩
      rcases Nat.lt_or_ge j (k + 1) with h3 | h3
      · exact h2 j (by omega)
      · have : j = k + 1 := by omega
        subst this
        exact h

theorem isRank_of_inv {g : Gr} (hg : g.Ok) {k : Nat} {b : Bf} (h : BInv g k b) (hk : b.out.length ≤ k) : IsRank g b.R := by
  have htk : b.out.take k = b.out := List.take_of_length_le hk
  refine ⟨fun s hs hgs => (h.zero s hs).2 hgs, fun s hs hgs => ?_, fun s hs hgs ht hr u hu => ?_, fun s hs hgs ht c hc hr => ?_, fun s hs hgs ht hr => ?_, fun s hs hgs ht c hc hr => ?_⟩
  · have h1 := h.low s hs
    have h2 : b.R s ≠ 0 := fun e => by have := (h.zero s hs).1 e; rw [hgs] at this; cases this
    omega
  · rcases h.ours s hs hgs ht with ⟨_, h1⟩ | ⟨j, v, _, hjv, _, h2, _⟩
    · have h2 := h1 u hu
      rw [htk] at h2
      have h3 := h.low u (hg s hs u hu)
      have h4 : ¬ 0 ≤ b.R u := fun e => h2 ((h.mem u (hg s hs u hu)).1 e)
      omega
    · have := (h.mem v (h.lt v (List.mem_of_getElem? hjv))).2 (List.mem_of_getElem? hjv)
      omega
  · rcases h.ours s hs hgs ht with ⟨h1, _⟩ | ⟨j, v, _, hjv, hv, h2, h3⟩
    · omega
    · refine ⟨⟨v, hv, by omega⟩, fun u hu => ?_⟩
      by_cases h4 : u ∈ b.out
      · obtain ⟨i, hi, hiu⟩ := List.mem_iff_getElem.1 h4
        have hiu' : b.out[i]? = some u := by rw [List.getElem?_eq_getElem hi, hiu]
        have hij : j ≤ i := Nat.le_of_not_lt fun hc => h3 u hu (mem_take_of_get hiu' hc)
        have := h.sorted j i v u hij hjv hiu'
        exact .inr (by omega)
      · have h5 := h.low u (hg s hs u hu)
        have h6 : ¬ 0 ≤ b.R u := fun e => h4 ((h.mem u (hg s hs u hu)).1 e)
        exact .inl (by omega)
  · rcases h.their s hs hgs ht with ⟨_, h1⟩ | ⟨j, v, _, hjv, _, h2, _⟩
    · refine h1.imp id fun ⟨u, hu, h2⟩ => ⟨u, hu, ?_⟩
      rw [htk] at h2
      have h3 := h.low u (hg s hs u hu)
      have h4 : ¬ 0 ≤ b.R u := fun e => h2 ((h.mem u (hg s hs u hu)).1 e)
      omega
    · have := (h.mem v (h.lt v (List.mem_of_getElem? hjv))).2 (List.mem_of_getElem? hjv)
      omega
  · rcases h.their s hs hgs ht with ⟨h1, _⟩ | ⟨j, v, _, hjv, hv, h2, h3⟩
    · omega
    · refine ⟨⟨v, hv, by omega⟩, fun u hu => ?_⟩
      obtain ⟨i, hi, hiu⟩ := get_of_mem_take (h3 u hu)
      have h4 := h.sorted i j u v (by omega) hiu hjv
      have h5 := (h.mem u (hg s hs u hu)).2 (List.mem_of_getElem? hiu)
      exact ⟨h5, by omega⟩

theorem nodup_le {l : List Nat} {n : Nat} (hn : l.Nodup) (h : ∀ u ∈ l, u < n) : l.length ≤ n := by
  induction n generalizing l with
  | zero =>
    cases l with
    | nil => simp
    | cons u r => have := h u (by simp); omega
  | succ n ih =>
    have h1 := ih (hn.erase n) (fun u hu => by
      have h2 := (hn.mem_erase_iff).1 hu
      have := h u h2.2
      have := h2.1
      omega)
    have h3 := List.length_erase (a := n) (l := l)
    split at h3 <;> omega

theorem out_le {g : Gr} {k : Nat} {b : Bf} (h : BInv g k b) : b.out.length ≤ g.n := nodup_le h.nd h.lt
/-- When the queue is done, the ranks are those of the rounds. -/
theorem bfs_force {g : Gr} (hg : g.Ok) {k : Nat} {b : Bf} (h : BInv g k b) (hk : b.out.length ≤ k) : b.rank = forceL g g.n := by
  have hI := isRank_of_inv hg h hk
  rw [force_eq hg hI]
  apply List.ext_getElem
  · rw [h.rl]; simp
  · intro i h1 h2
    have hi : i < g.n := by rw [h.rl] at h1; exact h1
    have e1 : b.rank[i] = b.R i := by unfold Bf.R; simp [List.getD, h1]
    rw [e1, List.getElem_map, List.getElem_range]
    unfold cutAt
    have h3 := h.low i hi
    by_cases h4 : 0 ≤ b.R i
    · obtain ⟨j, hj, hji⟩ := List.mem_iff_getElem.1 ((h.mem i hi).1 h4)
      have h5 := h.pos j i (by rw [List.getElem?_eq_getElem hj, hji])
      have h6 := out_le h
      rw [if_pos ⟨h4, by omega⟩]
    · rw [if_neg (by omega)]; omega
/-- There is a number at which the queue is done. -/
theorem bfs_done (g : Gr) (hg : g.Ok) : ∃ k, k ≤ g.n ∧ BInv g k (bfsAt g k) ∧ (bfsAt g k).out.length = k := by
  have key : ∀ d k, g.n - k = d → BInv g k (bfsAt g k) → k ≤ (bfsAt g k).out.length → ∃ k, k ≤ g.n ∧ BInv g k (bfsAt g k) ∧ (bfsAt g k).out.length = k := by
    intro d
    induction d with
    | zero =>
      intro k hd h hk
      have := out_le h
      exact ⟨k, by omega, h, by omega⟩
    | succ d ih =>
      intro k hd h hk
      by_cases he : (bfsAt g k).out.length = k
      · exact ⟨k, by omega, h, he⟩
      · have hlt : k < (bfsAt g k).out.length := by omega
        have hk' := List.getElem?_eq_getElem hlt
        have e : bfsAt g (k + 1) = visit g (bfsAt g k) (bfsAt g k).out[k] := by
          conv => lhs; unfold bfsAt
          rw [hk']
        have h2 := binv_step hg h hk'
        rw [← e] at h2
        refine ih (k + 1) (by omega) h2 ?_
        have h3 := h2.nd
        rw [e]
        unfold visit
        obtain ⟨_, _, _, new, h4, _⟩ := touchAll g.turn ((bfsAt g k).R (bfsAt g k).out[k]) ((h.mem _ (h.lt _ (List.getElem_mem hlt))).2 (List.getElem_mem hlt)) g.n (back g (bfsAt g k).out[k]) (bfsAt g k) (fun t ht => (mem_back.1 ht).1) h.ll h.rl (fun t ht => by
          have h5 := h2.cnt t ht
          rw [count_back, if_pos ht, h.cnt t ht]
          have h6 : ∀ l : List Nat, l.count (bfsAt g k).out[k] ≤ l.countP (fun u => !((bfsAt g k).out.take k).contains u) := fun l => by
            unfold List.count
            apply List.countP_mono_left
            intro x hx hxe
            have hxe : x = (bfsAt g k).out[k] := by simpa using hxe
            have : x ∉ (bfsAt g k).out.take k := fun hc => by
              obtain ⟨j, hj, hju⟩ := get_of_mem_take hc
              rw [hxe] at hju
              have hjl := (List.getElem?_eq_some_iff.1 hju).1
              have := (List.getElem?_inj hjl h.nd).1 (hju.trans hk'.symm)
              omega
            simpa using this
          have := h6 (g.sc t)
          omega)
        rw [h4, List.length_append]; omega
  exact key g.n 0 (by omega) (binv0 g hg) (by omega)
/-- There is a word of ranks, none greater than n; it is that of the rounds. -/
theorem exists_rank (g : Gr) (hg : g.Ok) : ∃ r, IsRank g r ∧ (∀ s, s < g.n → r s = (forceL g g.n).getD s 0) := by
  obtain ⟨k, _, h, hk⟩ := bfs_done g hg
  refine ⟨_, isRank_of_inv hg h (by omega), fun s hs => ?_⟩
  rw [← bfs_force hg h (by omega)]; rfl
end Go.Proofs.Yteadkafeabhhhaa
