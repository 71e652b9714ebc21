/- What their inputs force to what is bad; the states that are kept, numbered as they are found. Plain lists. -/
import Derived.Test.YteadkafeabhhhaaRk1
namespace Go.Proofs.Yteadkafeabhhhaa
set_option linter.unusedVariables false
set_option linter.unusedSimpArgs false

def sucT (row : List (Int × Int)) (th : List Bool) : List Nat := (List.range row.length).filterMap (fun i => if th.getD i false = true ∧ (row.getD i (0, 0)).1 ≠ -1 then some (row.getD i (0, 0)).1.toNat else none)
def grT (m : Mach) (th bad : List Bool) : Gr := { n := m.rows.length, sc := fun s => sucT (m.row s) th, turn := fun _ => true, goal := fun s => bad.getD s false }
def dropL (m : Mach) (th bad : List Bool) : List Bool := (forceL (grT m th bad) m.rows.length).map (fun r => decide (0 ≤ r))
theorem mem_sucT {row : List (Int × Int)} {th : List Bool} {u : Nat} : u ∈ sucT row th ↔ ∃ i, i < row.length ∧ th.getD i false = true ∧ (row.getD i (0, 0)).1 ≠ -1 ∧ (row.getD i (0, 0)).1.toNat = u := by
  unfold sucT
  rw [List.mem_filterMap]
  constructor
  · rintro ⟨i, hi, h⟩
    split at h
    · rename_i hc
      exact ⟨i, List.mem_range.1 hi, hc.1, hc.2, by simpa using h⟩
    · cases h
  · rintro ⟨i, hi, h1, h2, h3⟩
    exact ⟨i, List.mem_range.2 hi, by rw [if_pos ⟨h1, h2⟩, h3]⟩
/-- The pair s, i does not force s. -/
def OkAt (m : Mach) (th d : List Bool) (s i : Nat) : Prop := th.getD i false = true → ((m.row s).getD i (0, 0)).1 ≠ -1 → d.getD ((m.row s).getD i (0, 0)).1.toNat false = true → d.getD s false = true
structure ClosedD (m : Mach) (th bad c : List Bool) : Prop where
  len : c.length = m.rows.length
  inc : ∀ s, s < m.rows.length → bad.getD s false = true → c.getD s false = true
  ok : ∀ s, s < m.rows.length → ∀ i, i < (m.row s).length → OkAt m th c s i
structure SoundD (m : Mach) (th bad d : List Bool) : Prop where
  len : d.length = m.rows.length
  inc : ∀ s, s < m.rows.length → bad.getD s false = true → d.getD s false = true
  least : ∀ c, ClosedD m th bad c → ∀ s, s < m.rows.length → d.getD s false = true → c.getD s false = true
theorem sound_bad {m : Mach} {th bad : List Bool} (h : bad.length = m.rows.length) : SoundD m th bad bad := ⟨h, fun _ _ h => h, fun c hc s hs h => hc.inc s hs h⟩
theorem sound_set {m : Mach} {th bad d : List Bool} (h : SoundD m th bad d) {s i : Nat} (hs : s < m.rows.length) (hi : i < (m.row s).length) (hth : th.getD i false = true) (hne : ((m.row s).getD i (0, 0)).1 ≠ -1)
    (hlt : ((m.row s).getD i (0, 0)).1.toNat < m.rows.length) (hd : d.getD ((m.row s).getD i (0, 0)).1.toNat false = true) : SoundD m th bad (d.set s true) := by
  have hsl : s < d.length := by rw [h.len]; exact hs
  refine ⟨by rw [List.length_set]; exact h.len, fun t ht hb => ?_, fun c hc t ht hdt => ?_⟩
  · rw [getD_set _ _ _ _ _ hsl]; split
    · rfl
    · exact h.inc t ht hb
  · rw [getD_set _ _ _ _ _ hsl] at hdt
    by_cases hts : t = s
    · subst hts; exact hc.ok t ht i hi hth hne (h.least c hc _ hlt hd)
    · rw [if_neg hts] at hdt; exact h.least c hc t ht hdt
theorem eq_of_both {m : Mach} {th bad c d : List Bool} (h1 : SoundD m th bad c) (h2 : ClosedD m th bad c) (h3 : SoundD m th bad d) (h4 : ClosedD m th bad d) : c = d := by
  apply List.ext_getElem (by rw [h1.len, h3.len])
  intro i hi hj
  have hn : i < m.rows.length := by rw [← h1.len]; exact hi
  have e1 : c.getD i false = c[i] := by simp [List.getD, hi]
  have e2 : d.getD i false = d[i] := by simp [List.getD, hj]
  rw [← e1, ← e2]
  have a1 := h1.least d h4 i hn
  have a2 := h3.least c h2 i hn
  cases hx : c.getD i false <;> cases hy : d.getD i false
  · rfl
  · rw [hx] at a2; exact absurd (a2 hy) (by simp)
  · rw [hy] at a1; exact absurd (a1 hx) (by simp)
  · rfl
theorem grT_ok {m : Mach} (hV : Valid m) (th bad : List Bool) : (grT m th bad).Ok := fun s hs u hu => by
  have hs : s < m.rows.length := hs
  obtain ⟨i, hi, _, h2, rfl⟩ := mem_sucT.1 hu
  have e : (m.row s).getD i (0, 0) = (m.row s)[i] := by simp [List.getD, hi]
  rw [e] at h2 ⊢
  have key : ∀ e ∈ m.row s, fitsB m e = true := fun e he => hV.fit _ (List.getElem_mem hs) e (row_eq hs ▸ he)
  have h3 := fit_to (key _ (List.getElem_mem hi))
  show (m.row s)[i].1.toNat < m.rows.length
  omega
theorem drop_both {m : Mach} (hV : Valid m) {th bad : List Bool} (hb : bad.length = m.rows.length) : SoundD m th bad (dropL m th bad) ∧ ClosedD m th bad (dropL m th bad) := by
  have hg := grT_ok hV th bad
  obtain ⟨r, hr, hrf⟩ := exists_rank (grT m th bad) hg
  have hlen : (forceL (grT m th bad) m.rows.length).length = m.rows.length := by
    have : ∀ k, (forceL (grT m th bad) k).length = m.rows.length := fun k => by cases k <;> simp [forceL, force0, grT]
    exact this _
  have hget : ∀ s, s < m.rows.length → ((dropL m th bad).getD s false = true ↔ 0 ≤ r s) := fun s hs => by
    rw [hrf s hs]
    have h1 : s < (forceL (grT m th bad) m.rows.length).length := by rw [hlen]; exact hs
    have h2 : (grT m th bad).n = m.rows.length := rfl
    unfold dropL
    rw [h2]
    simp [List.getD, h1]
  have hlow : ∀ s, s < m.rows.length → 0 ≤ r s ∨ r s = -1 := fun s hs => by
    cases hgs : (grT m th bad).goal s with
    | true => have := hr.goal s hs hgs; omega
    | false => have := hr.low s hs hgs; omega
  refine ⟨⟨by unfold dropL; rw [List.length_map, hlen], fun s hs hbs => (hget s hs).2 (by rw [hr.goal s hs hbs]; omega), fun c hc s hs hd => ?_⟩, ⟨by unfold dropL; rw [List.length_map, hlen], fun s hs hbs => (hget s hs).2 (by rw [hr.goal s hs hbs]; omega), fun s hs i hi h1 h2 h3 => ?_⟩⟩
  · have key : ∀ k : Nat, ∀ s, s < m.rows.length → r s = k → c.getD s false = true := fun k => by
      induction k with
      | zero =>
        intro s hs hk
        cases hgs : (grT m th bad).goal s with
        | true => exact hc.inc s hs hgs
        | false => have := hr.low s hs hgs; omega
      | succ k ih =>
        intro s hs hk
        cases hgs : (grT m th bad).goal s with
        | true => exact hc.inc s hs hgs
        | false =>
          obtain ⟨⟨u, hu, hru⟩, _⟩ := hr.ours1 s hs hgs rfl k (by omega) (by omega)
          have hun := hg s hs u hu
          obtain ⟨i, hi, h1, h2, rfl⟩ := mem_sucT.1 hu
          exact hc.ok s hs i hi h1 h2 (ih _ hun hru)
    have h0 := (hget s hs).1 hd
    obtain ⟨k, hk⟩ := Int.eq_ofNat_of_zero_le h0
    exact key k s hs hk
  · have hu : ((m.row s).getD i (0, 0)).1.toNat ∈ (grT m th bad).sc s := mem_sucT.2 ⟨i, hi, h1, h2, rfl⟩
    have hun := hg s hs _ hu
    have h4 := (hget _ hun).1 h3
    refine (hget s hs).2 ?_
    cases hgs : (grT m th bad).goal s with
    | true => rw [hr.goal s hs hgs]; omega
    | false =>
      rcases hlow s hs with h5 | h5
      · exact h5
      · have := hr.ours0 s hs hgs rfl h5 _ hu; omega
/-- How many are dropped. -/
def cntD (d : List Bool) : Nat := d.count true
theorem cntD_set {d : List Bool} {s : Nat} (hs : s < d.length) : cntD d ≤ cntD (d.set s true) ∧ (d.getD s false = false → cntD d < cntD (d.set s true)) ∧ (d.getD s false = true → d.set s true = d) := by
  have hg : d.getD s false = d[s] := by simp [List.getD, hs]
  refine ⟨?_, fun h => ?_, fun h => ?_⟩
  · unfold cntD; rw [List.count_set hs]; split <;> simp <;> omega
  · unfold cntD; rw [List.count_set hs]
    rw [hg] at h
    rw [h]; simp
  · rw [hg] at h
    apply List.ext_getElem (by simp)
    intro i h1 h2
    rw [List.getElem_set]; split
    · rename_i h3; subst h3; exact h.symm
    · rfl
theorem cntD_le (d : List Bool) : cntD d ≤ d.length := List.count_le_length
theorem all_of_cnt {d : List Bool} (h : d.length ≤ cntD d) : ∀ s, s < d.length → d.getD s false = true := fun s hs => by
  have h1 : ∀ b ∈ d, true = b := List.count_eq_length.1 (Nat.le_antisymm (cntD_le d) h)
  have := h1 d[s] (List.getElem_mem hs)
  simp [List.getD, hs, ← this]
theorem closed_all {m : Mach} {th bad d : List Bool} (hl : d.length = m.rows.length) (h : d.length ≤ cntD d) : ClosedD m th bad d :=
  ⟨hl, fun s hs _ => all_of_cnt h s (by omega), fun s hs i hi _ _ _ => all_of_cnt h s (by omega)⟩

/-! ### What is kept -/
def keepE (d : List Bool) (e : Int × Int) : Bool := decide (e.1 ≠ -1) && !(d.getD e.1.toNat false)
def ordN (d : List Bool) (o : List Nat) (e : Int × Int) : List Nat := if keepE d e then (if o.contains e.1.toNat then o else o ++ [e.1.toNat]) else o
def edgeN (d : List Bool) (o : List Nat) (e : Int × Int) : Int × Int := if keepE d e then ((ordN d o e).idxOf e.1.toNat, e.2) else (-1, -1)
def ordAt (d : List Bool) (row : List (Int × Int)) (o : List Nat) : Nat → List Nat
  | 0 => o
  | k + 1 => ordN d (ordAt d row o k) (row.getD k (0, 0))
def rowN (d : List Bool) (row : List (Int × Int)) (o : List Nat) (k : Nat) : List (Int × Int) := (List.range k).map (fun i => edgeN d (ordAt d row o i) (row.getD i (0, 0)))
def supO (m : Mach) (d : List Bool) : Nat → List Nat
  | 0 => [0]
  | n + 1 => match (supO m d n)[n]? with
    | some s => ordAt d (m.row s) (supO m d n) (m.row s).length
    | none => supO m d n
def supR (m : Mach) (d : List Bool) (n : Nat) : List (Int × Int) := match (supO m d n)[n]? with
  | some s => rowN d (m.row s) (supO m d n) (m.row s).length
  | none => []
def supEnd (m : Mach) (d : List Bool) : Nat → Nat → Nat
  | 0, n => n
  | f + 1, n => if (supO m d n).length ≤ n then n else supEnd m d f (n + 1)
def supM (m : Mach) (th bad : List Bool) : Mach :=
  let d := dropL m th bad
  { ins := m.ins, outs := m.outs, rows := (List.range (supEnd m d (m.rows.length + 1) 0)).map (supR m d) }

structure OInv (n : Nat) (o : List Nat) : Prop where
  nd : o.Nodup
  lt : ∀ u ∈ o, u < n
theorem oinv_len {n : Nat} {o : List Nat} (h : OInv n o) : o.length ≤ n := nodup_le h.nd h.lt
theorem oinv_step {n : Nat} {d : List Bool} {o : List Nat} {e : Int × Int} (h : OInv n o) (he : e.1 = -1 ∨ (0 ≤ e.1 ∧ e.1 < n)) : OInv n (ordN d o e) := by
  unfold ordN
  cases hk : keepE d e with
  | false => exact h
  | true =>
    have hne : e.1 ≠ -1 := by unfold keepE at hk; simp at hk; exact hk.1
    rw [if_pos rfl]
    by_cases hc : o.contains e.1.toNat = true
    · rw [if_pos hc]; exact h
    · rw [if_neg hc]
      have hnm : e.1.toNat ∉ o := fun hm => hc (List.contains_iff_mem.2 hm)
      refine ⟨List.nodup_append.2 ⟨h.nd, by simp, fun a ha b hb hab => ?_⟩, fun u hu => ?_⟩
      · simp at hb; subst hb; subst hab; exact hnm ha
      · rcases List.mem_append.1 hu with hu | hu
        · exact h.lt u hu
        · simp at hu; subst hu; omega
theorem ordN_len (d : List Bool) (o : List Nat) (e : Int × Int) : o.length ≤ (ordN d o e).length := by
  unfold ordN; split
  · split <;> simp
  · exact Nat.le_refl _
theorem ordAt_len (d : List Bool) (row : List (Int × Int)) (o : List Nat) : ∀ k, o.length ≤ (ordAt d row o k).length
  | 0 => Nat.le_refl _
  | k + 1 => Nat.le_trans (ordAt_len d row o k) (ordN_len _ _ _)
theorem oinv_at {m : Mach} (hV : Valid m) {d : List Bool} {s : Nat} (hs : s < m.rows.length) {o : List Nat} (h : OInv m.rows.length o) : ∀ k, k ≤ (m.row s).length → OInv m.rows.length (ordAt d (m.row s) o k)
  | 0, _ => h
  | k + 1, hk => by
    have hkl : k < (m.row s).length := by omega
    refine oinv_step (oinv_at hV hs h k (by omega)) ?_
    rw [show (m.row s).getD k (0, 0) = (m.row s)[k] by simp [List.getD, hkl]]
    have key : ∀ e ∈ m.row s, fitsB m e = true := fun e he => hV.fit _ (List.getElem_mem hs) e (row_eq hs ▸ he)
    exact fit_to (key _ (List.getElem_mem hkl))
theorem oinv_sup {m : Mach} (hV : Valid m) (d : List Bool) : ∀ n, OInv m.rows.length (supO m d n)
  | 0 => ⟨by simp [supO], fun u hu => by simp [supO] at hu; subst hu; exact hV.size.1⟩
  | n + 1 => by
    unfold supO
    have ih := oinv_sup hV d n
    cases h : (supO m d n)[n]? with
    | none => exact ih
    | some s => exact oinv_at hV (ih.lt s (List.mem_of_getElem? h)) ih _ (Nat.le_refl _)
theorem supEnd_step {m : Mach} (hV : Valid m) {d : List Bool} {n : Nat} (h : n < (supO m d n).length) : supEnd m d (m.rows.length + 1 - n) n = supEnd m d (m.rows.length + 1 - (n + 1)) (n + 1) := by
  have h1 := oinv_len (oinv_sup hV d n)
  obtain ⟨f, hf⟩ : ∃ f, m.rows.length + 1 - n = f + 1 := ⟨m.rows.length - n, by omega⟩
  rw [hf, show m.rows.length + 1 - (n + 1) = f by omega]
  show (if (supO m d n).length ≤ n then n else supEnd m d f (n + 1)) = _
  rw [if_neg (by omega)]
theorem supEnd_end {m : Mach} {d : List Bool} {n : Nat} (h : (supO m d n).length ≤ n) (f : Nat) : supEnd m d f n = n := by
  cases f with
  | zero => rfl
  | succ f => show (if (supO m d n).length ≤ n then n else supEnd m d f (n + 1)) = n; rw [if_pos h]
end Go.Proofs.Yteadkafeabhhhaa
