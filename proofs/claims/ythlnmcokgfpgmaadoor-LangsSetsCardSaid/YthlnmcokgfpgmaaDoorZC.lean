/- From which states a word is accepted; finitely many words. Plain lists. slices.Clone at []bool 73 and []int 70; langs.alive 63. A search in depth: white 0, grey 1, black 2. Plain lists. langs.finite$1 64, langs.finite 45, langs.Finite 14. langs.Nth 21. -/
import Derived.Test.YthlnmcokgfpgmaaDoorZB
import Derived.Laws.EntriesVeiled
namespace Go.Proofs.YthlnmcokgfpgmaaDoor
open Go.RowKit
set_option linter.unusedVariables false
set_option linter.unusedSimpArgs false

def Dfa.run (d : Dfa) : Nat → List Nat → Nat
  | s, [] => s
  | s, x :: w => d.run (d.to s x) w
def okW (k : Nat) (w : List Nat) : Prop := ∀ x ∈ w, x < k
def Live (d : Dfa) (s : Nat) : Prop := ∃ w, okW d.k w ∧ d.ac (d.run s w) = true
def FinD (d : Dfa) : Prop := ∀ w, okW d.k w → d.ac (d.run 0 w) = true → w.length < d.n
theorem run_append (d : Dfa) : ∀ (w u : List Nat) (s : Nat), d.run s (w ++ u) = d.run (d.run s w) u
  | [], _, _ => rfl
  | x :: w, u, s => run_append d w u (d.to s x)
theorem run_lt {d : Dfa} (h : Good d) : ∀ (w : List Nat) (s : Nat), s < d.n → okW d.k w → d.run s w < d.n
  | [], s, hs, _ => hs
  | x :: w, s, hs, hw => run_lt h w _ (h.to_lt hs (hw x (by simp))) (fun y hy => hw y (by simp [hy]))
theorem Live.step {d : Dfa} {s x : Nat} (hx : x < d.k) (h : Live d (d.to s x)) : Live d s := by
  obtain ⟨w, hw, ha⟩ := h
  exact ⟨x :: w, fun y hy => by rcases List.mem_cons.1 hy with rfl | hy; exact hx; exact hw y hy, ha⟩

/-! ### alive -/
def zerosB (l : List Bool) : Nat := l.countP (fun x => !x)
structure Sound (d : Dfa) (l : List Bool) : Prop where
  len : l.length = d.n
  acc : ∀ s, s < d.n → d.ac s = true → l.getD s false = true
  live : ∀ s, s < d.n → l.getD s false = true → Live d s
theorem sound_start {d : Dfa} (h : Good d) : Sound d d.acc :=
  ⟨h.acc, fun s _ h => h, fun s _ h => ⟨[], (fun _ hx => by cases hx), h⟩⟩
theorem getD_set {l : List Bool} {s t : Nat} (hs : s < l.length) : (l.set s true).getD t false = if t = s then true else l.getD t false := by
  simp only [List.getD_eq_getElem?_getD]
  by_cases h : t = s
  · subst h; rw [List.getElem?_set_self hs, if_pos rfl]; rfl
  · rw [List.getElem?_set_ne (fun e => h e.symm), if_neg h]
theorem Sound.set {d : Dfa} {l : List Bool} (h : Sound d l) {s x : Nat} (hs : s < d.n) (hx : x < d.k) (ht : d.to s x < d.n) (hl : l.getD (d.to s x) false = true) : Sound d (l.set s true) := by
  have hsl : s < l.length := by rw [h.len]; exact hs
  refine ⟨by rw [List.length_set]; exact h.len, fun t ht' ha => ?_, fun t ht' hlt => ?_⟩
  · rw [getD_set hsl]; split
    · rfl
    · exact h.acc t ht' ha
  · rw [getD_set hsl] at hlt
    by_cases e : t = s
    · subst e; exact (h.live _ ht hl).step hx
    · rw [if_neg e] at hlt; exact h.live t ht' hlt
theorem zerosB_set : ∀ (l : List Bool) (s : Nat), l[s]? = some false → zerosB (l.set s true) + 1 = zerosB l
  | [], s, h => by simp at h
  | y :: r, 0, h => by simp at h; subst h; simp [zerosB]
  | y :: r, s + 1, h => by
    have := zerosB_set r s (by simpa using h)
    unfold zerosB at *
    rw [List.set_cons_succ, List.countP_cons, List.countP_cons]; omega
structure PassA (d : Dfa) (l0 l : List Bool) (m : Bool) (s x : Nat) : Prop where
  sound : Sound d l
  le : zerosB l ≤ zerosB l0
  lt : m = true → zerosB l < zerosB l0
  same : m = false → l = l0 ∧ ∀ s' x', (s' < s ∧ x' < d.k ∨ s' = s ∧ x' < x) → l0.getD (d.to s' x') false = true → l0.getD s' false = true
theorem PassA.start {d : Dfa} {l : List Bool} (h : Sound d l) : PassA d l l false 0 0 :=
  ⟨h, Nat.le_refl _, (fun h => by cases h), fun _ => ⟨rfl, fun s' x' h => by omega⟩⟩
theorem PassA.keep {d : Dfa} {l0 l : List Bool} {m : Bool} {s x : Nat} (h : PassA d l0 l m s x) (hn : l.getD (d.to s x) false = true → l.getD s false = true) : PassA d l0 l m s (x + 1) :=
  ⟨h.sound, h.le, h.lt, fun hm => by
    obtain ⟨h1, h2⟩ := h.same hm
    refine ⟨h1, fun s' x' hs => ?_⟩
    by_cases e : s' = s ∧ x' = x
    · obtain ⟨rfl, rfl⟩ := e; rw [← h1]; exact hn
    · exact h2 s' x' (by omega)⟩
theorem PassA.turn {d : Dfa} {l0 l : List Bool} {m : Bool} {s x : Nat} (h : PassA d l0 l m s x) (hs : s < d.n) (hx : x < d.k) (ht : d.to s x < d.n) (h1 : l.getD (d.to s x) false = true) (h2 : l.getD s false = false) : PassA d l0 (l.set s true) true s (x + 1) := by
  have hsl : s < l.length := by rw [h.sound.len]; exact hs
  have h3 : l[s]? = some false := by rw [List.getD_eq_getElem?_getD, List.getElem?_eq_getElem hsl] at h2; rw [List.getElem?_eq_getElem hsl]; exact congrArg some h2
  have h4 := zerosB_set l s h3
  have h5 := h.le
  exact ⟨h.sound.set hs hx ht h1, by omega, (fun _ => by omega), (fun h => by cases h)⟩
theorem PassA.row {d : Dfa} {l0 l : List Bool} {m : Bool} {s x : Nat} (h : PassA d l0 l m s x) (hx : x = d.k) : PassA d l0 l m (s + 1) 0 :=
  ⟨h.sound, h.le, h.lt, fun hm => ⟨(h.same hm).1, fun s' x' hs => (h.same hm).2 s' x' (by omega)⟩⟩
/-- Nothing more is to be said of these truths. -/
def AliveOf (d : Dfa) (l : List Bool) : Prop := l.length = d.n ∧ ∀ s, s < d.n → (l.getD s false = true ↔ Live d s)
theorem closed_run {d : Dfa} (hg : Good d) {l : List Bool} (hs : Sound d l) (hc : ∀ s x, s < d.n → x < d.k → l.getD (d.to s x) false = true → l.getD s false = true) : ∀ (w : List Nat) (s : Nat), s < d.n → okW d.k w → d.ac (d.run s w) = true → l.getD s false = true
  | [], s, hsn, _, ha => hs.acc s hsn ha
  | x :: w, s, hsn, hw, ha => by
    have hx := hw x (by simp)
    exact hc s x hsn hx (closed_run hg hs hc w _ (hg.to_lt hsn hx) (fun y hy => hw y (by simp [hy])) ha)
theorem alive_end {d : Dfa} (hg : Good d) {l : List Bool} (hs : Sound d l) (hc : ∀ s x, s < d.n → x < d.k → l.getD (d.to s x) false = true → l.getD s false = true) : AliveOf d l :=
  ⟨hs.len, fun s hsn => ⟨hs.live s hsn, fun ⟨w, hw, ha⟩ => closed_run hg hs hc w s hsn hw ha⟩⟩
theorem PassA.final {d : Dfa} {l0 l : List Bool} {s : Nat} (hg : Good d) (h : PassA d l0 l false s 0) (hs : s = d.n) : AliveOf d l := by
  obtain ⟨rfl, h2⟩ := h.same rfl
  exact alive_end hg h.sound fun s' x hs' hx => h2 s' x (by omega)
end Go.Proofs.YthlnmcokgfpgmaaDoor

namespace Go.Proofs.YthlnmcokgfpgmaaDoor
open Go.RowKit Go.Maps
set_option linter.unusedVariables false
set_option linter.unusedSimpArgs false
attribute [local go_sem] Oper.quietV quietV Oper.gives givesV ext_refl_iff ext_alloc_iff ext_drew_iff ext_drewN_iff
theorem own_empty (W : World) (e : TypeId) : (W.alloc (.cells #[] e)).ownsRow W.heap.size e 1 (.slice (some ⟨W.heap.size, 0, none⟩) 0 0) 0 [] := by
  have h := World.ownsRow_lit (base := W.heap.size) (e := e) (size := 1) W #[] 0 (Nat.le_refl _) (by unfold maxLen; omega) rfl
  simpa using h
theorem src_cells {w : World} {b o : Nat} {cs : List Value} (h : ∀ j u, cs[j]? = some u → w.cell? ⟨b, o + j, none⟩ = some u) {W : World} (e : Ext w W) : ∀ (j : Nat) (u : Value), cs[j]? = some u → W.cell? ((⟨b, o, none⟩ : Addr).add j) = some u := fun j u hj => by
  rw [Addr.add_lit]; exact e.cell (h j u hj)
theorem bools_one (xs : List Bool) : ∀ u ∈ xs.map Value.bool, u.oneCell' = true := fun u hu => by
  obtain ⟨x, _, rfl⟩ := List.mem_map.1 hu; rfl
theorem ints_one (xs : List Int) : ∀ u ∈ xs.map (Value.int .i64), u.oneCell' = true := fun u hu => by
  obtain ⟨x, _, rfl⟩ := List.mem_map.1 hu; rfl
theorem eq_nil (w : World) (t e : TypeId) (a : Option Addr) (n c : Nat) (h : Tryd.prog.underlying t = some (.slice e)) : (binOp .eql t (.slice a n c) (.slice none 0 0)).run Tryd.prog w = .ok (.bool a.isNone) w := by
  simp only [binOp]
  simp [Op.equal, Op.maxDepth, Lib.run_equalIn_slice_nil w 9999 t e a n c 0 0 h]
set_option maxRecDepth 100000 in
set_option maxHeartbeats 1000000 in
theorem cloneB_any (w : World) (v : Value) (xs : List Bool) (c : Nat) (hv : BoolsC w v xs c) (h0 : 0 < xs.length) (hl : xs.length ≤ 100000) :
    Calls Tryd.prog 73 #[v] w fun e w' => ∃ v', e = .returned v' ∧ w'.ownsRow w.heap.size 4 1 v' xs.length (xs.map .bool) ∧ Ext w w' := by
  obtain ⟨A, rfl, hc, _, _⟩ := hv
  obtain ⟨b, o, rfl, _, hcc⟩ := hc (by simpa using h0)
  obtain ⟨i4, hi4, hz4, hs4, hb4⟩ := info_parts bool_info
  have hsrc := src_cells hcc (alloc_ext w (.cells #[] 4))
  have hone := bools_one xs
  have hln : (xs.map Value.bool).length = xs.length * 1 := by simp
  have HN := Lib.hid (And.intro hsrc (And.intro hone hln))
  have heq := fun w => eq_nil w 26 4 (some ⟨b, o, none⟩) xs.length c Tryd.underlying26
  clear hsrc hone hln hcc
  go_enter Tryd.func73, Tryd.ntmps73
  go_wp2_with (at_builtin; refine wpList_append_own2 rfl _ _ 26 rfl w.heap.size 4 i4 (.bool false) 1 1 Tryd.underlying26 hi4 hz4 hs4 hb4 rfl (by decide) (.slice (some ⟨w.heap.size, 0, none⟩) 0 0) 0 [] rfl (own_empty w 4) ⟨b, o, none⟩ xs.length c (xs.map .bool) rfl HN.out.2.2 HN.out.1 HN.out.2.1 (by unfold maxLen; omega) (by omega) (by simp) ?_; intro v6 w6 hown6 hg6 hb6)
  go_ret
  exact ⟨_, rfl, by simpa using hown6, ext_grown (alloc_ext _ _) (own_empty w 4) (Nat.le_refl _) hg6⟩
set_option maxRecDepth 100000 in
set_option maxHeartbeats 1000000 in
theorem cloneI_any (w : World) (v : Value) (xs : List Int) (c : Nat) (hv : IntsC w v xs c) (h0 : 0 < xs.length) (hl : xs.length ≤ 100000) :
    Calls Tryd.prog 70 #[v] w fun e w' => ∃ v', e = .returned v' ∧ w'.ownsRow w.heap.size 3 1 v' xs.length (xs.map (.int .i64)) ∧ Ext w w' := by
  obtain ⟨A, rfl, hc, _, _⟩ := hv
  obtain ⟨b, o, rfl, _, hcc⟩ := hc (by simpa using h0)
  obtain ⟨i3, hi3, hz3, hs3, hb3⟩ := info_parts int_info
  have hsrc := src_cells hcc (alloc_ext w (.cells #[] 3))
  have hone := ints_one xs
  have hln : (xs.map (Value.int .i64)).length = xs.length * 1 := by simp
  have HN := Lib.hid (And.intro hsrc (And.intro hone hln))
  have heq := fun w => eq_nil w 31 3 (some ⟨b, o, none⟩) xs.length c Tryd.underlying31
  clear hsrc hone hln hcc
  go_enter Tryd.func70, Tryd.ntmps70
  go_wp2_with (at_builtin; refine wpList_append_own2 rfl _ _ 31 rfl w.heap.size 3 i3 (.int .i64 0) 1 8 Tryd.underlying31 hi3 hz3 hs3 hb3 rfl (by decide) (.slice (some ⟨w.heap.size, 0, none⟩) 0 0) 0 [] rfl (own_empty w 3) ⟨b, o, none⟩ xs.length c (xs.map (.int .i64)) rfl HN.out.2.2 HN.out.1 HN.out.2.1 (by unfold maxLen; omega) (by omega) (by simp) ?_; intro v6 w6 hown6 hg6 hb6)
  go_ret
  exact ⟨_, rfl, by simpa using hown6, ext_grown (alloc_ext _ _) (own_empty w 3) (Nat.le_refl _) hg6⟩

def AliveP (d : Dfa) (w : World) (e : Ending) (w' : World) : Prop := ∃ g c l, e = .returned (.slice (some ⟨g, 0, none⟩) d.n c) ∧ w'.ownsRow w.heap.size 4 1 (.slice (some ⟨g, 0, none⟩) d.n c) d.n (l.map .bool) ∧ AliveOf d l ∧ Ext w w'
def bRow (l : List Bool) : List Value := l.map .bool
theorem bRow_at {l : List Bool} {s : Nat} (h : s < l.length) : (bRow l)[s]? = some (.bool (l.getD s false)) := by unfold bRow; rw [List.getElem?_map, List.getElem?_eq_getElem h]; simp [List.getD, h]
theorem bRow_set (l : List Bool) (s : Nat) : (bRow l).set s (.bool true) = bRow (l.set s true) := by unfold bRow; rw [List.map_set]

set_option maxRecDepth 100000 in
set_option maxHeartbeats 8000000 in
theorem alive_any (w : World) (dv : Value) (d : Dfa) (hd : DfaV w dv d) (hg : Good d) :
    Calls Tryd.prog 63 #[dv] w (AliveP d w) := by
  obtain ⟨rv, cr, av, ca, rfl, hr, ha⟩ := id hd
  obtain ⟨Ar, vr, rfl, _, _, _, _, hrm⟩ := id hr
  obtain ⟨Aa, rfl, hac, _, ham⟩ := id ha
  unfold lenMax at hrm ham
  have hsz := hg.size
  have HG := Lib.hid hg
  go_enter Tryd.func63, Tryd.ntmps63
  go_upto_region 1 with fail
  refine wp_named ?_
  intro W1 hW1
  have hE1 : Ext w W1 := by rw [hW1]; exact (Ext.refl _).alloc _
  have k1 : ∀ w', Ext W1 w' → w'.cell? ⟨w.heap.size, 1, none⟩ = some (.slice Ar d.rows.length cr) := fun w' h => h.cell (by rw [hW1]; simp [go_sem])
  have k2 : ∀ w', Ext W1 w' → w'.cell? ⟨w.heap.size, 2, none⟩ = some (.slice Aa d.acc.length ca) := fun w' h => h.cell (by rw [hW1]; simp [go_sem])
  clear hW1
  have hE0 := Ext.refl W1
  have hcl := cloneB_any W1 _ d.acc ca (ha.ext hE1) (by have := HG.out.acc; omega) (by have := HG.out.acc; omega)
  have HCL := Lib.hid hcl
  clear hcl
  go_upto_region 2 with ((with_reducible refine HCL.out.mono ?_); rintro e w2 ⟨v2, rfl, hown, e2⟩)
  have hown' : w2.ownsRow W1.heap.size 4 1 v2 d.n (bRow d.acc) := by
    have := HG.out.acc
    rw [this] at hown
    exact hown
  obtain ⟨g, c, rfl⟩ := ownsRow_pos hown' (by show 0 < d.rows.length; omega)
  have hO2 : OwnL W1 w2 [.row 4 1 (.slice (some ⟨g, 0, none⟩) d.n c) d.n (bRow d.acc)] := ⟨e2, fun A hA => by simp at hA; subst hA; exact hown', by simp⟩
  have hsd := sound_start HG.out
  have H0 := Lib.hid hsd
  clear HCL hown hown' hsd
  go_wp2
  go_loopg [4] (zerosB d.acc + 1) (fun gk mv wr => ∃ (l : List Bool) (m : Bool), mv = .bool m ∧ Hid (gk = zerosB l + if m then 1 else 0) ∧ Hid (Sound d l) ∧ Hid (m = false → AliveOf d l) ∧ OwnL W1 wr [.row 4 1 (.slice (some ⟨g, 0, none⟩) d.n c) d.n (bRow l)])
  case atStart => exact ⟨d.acc, true, rfl, Lib.hid rfl, H0, Lib.hid (fun h => by cases h), hO2⟩
  case round =>
    clear H0 hO2 e2
    obtain ⟨l0, m0, rfl, hgk, hsd, hal, hO⟩ := hrel
    obtain ⟨W3, hW3⟩ : ∃ W, W = wr := ⟨_, rfl⟩; subst hW3
    cases m0 with
    | false =>
      have HF := Lib.hid (And.intro (hal.out rfl) (And.intro (own_mono (hO.get 0 rfl) hE1.size) (hE1.trans hO.ext)))
      go_wp2
      go_ret
      exact ⟨_, _, _, rfl, HF.out.2.1, HF.out.1, HF.out.2.2⟩
    | true =>
      have hst := PassA.start hsd.out
      have HST := Lib.hid hst
      have kk1 := k1 W3 hO.ext
      clear hst
      go_wp2
      go_loopw [4, 16] (fun mv sv wr => ∃ (s : Nat) (m : Bool) (l : List Bool), mv = .bool m ∧ sv = .int .i64 s ∧ s ≤ d.rows.length ∧ Hid (PassA d l0 l m s 0) ∧ OwnL W1 wr [.row 4 1 (.slice (some ⟨g, 0, none⟩) d.n c) d.n (bRow l)]) (fun _ sv _ => d.rows.length - (intOf sv).toNat)
      case atStart => exact ⟨0, false, l0, rfl, rfl, Nat.zero_le _, HST, hO⟩
      case round =>
        clear HST hO kk1
        obtain ⟨s, m, l, rfl, rfl, hs, hP, hO⟩ := hrel
        obtain ⟨W4, hW4⟩ : ∃ W, W = wr := ⟨_, rfl⟩; subst hW4
        by_cases hsl : s < d.rows.length
        · obtain ⟨b, o, u, c', hv, _, c1, hi⟩ := hr.at_ hsl
          injection hv with hv; subst hv
          have c1 := (hE1.trans hO.ext).cell c1
          have hrl := HG.out.row hsl
          have hcell : ∀ x (hx : x < d.rows[s].length), d.rows[s][x] = (d.to s x : Int) ∧ d.to s x < d.rows.length := fun x hx => HG.out.cell hsl hx
          have HC := Lib.hid (And.intro hrl hcell)
          have hk16 := HG.out.kk.2.2
          clear hcell
          generalize d.rows[s] = row at *
          obtain ⟨A2, rfl, hi2, _, him⟩ := hi
          rw [hrl] at c1
          clear hrl him
          go_wp2
          go_loopw [4, 23] (fun mv xv wr => ∃ (x : Nat) (m : Bool) (l : List Bool), mv = .bool m ∧ xv = .int .i64 x ∧ x ≤ d.k ∧ Hid (PassA d l0 l m s x) ∧ OwnL W1 wr [.row 4 1 (.slice (some ⟨g, 0, none⟩) d.n c) d.n (bRow l)]) (fun _ xv _ => d.k - (intOf xv).toNat)
          case atStart => exact ⟨0, m, l, rfl, rfl, Nat.zero_le _, hP, hO⟩
          case round =>
            clear hP hO c1
            obtain ⟨x, m, l, rfl, rfl, hx, hP, hO⟩ := hrel
            obtain ⟨W5, hW5⟩ : ∃ W, W = wr := ⟨_, rfl⟩; subst hW5
            by_cases hxl : x < d.k
            · have hxr : x < row.length := by have := HC.out.1; omega
              obtain ⟨b2, o2, rfl, _, c2⟩ := (hi2.ext (hE1.trans hO.ext)).at_int hxr
              obtain ⟨h3, h4⟩ := HC.out.2 x hxr
              rw [h3] at c2
              have hll := hP.out.sound.len
              have h4' : d.to s x < l.length := by rw [hll]; exact h4
              have hsl' : s < l.length := by rw [hll]; exact hsl
              have y1 := cell_own hO 0 rfl (bRow_at h4')
              have y2 := cell_own hO 0 rfl (bRow_at hsl')
              have sf := free_own (e := 4) hO 0 rfl s
              have hst := hO.store 0 rfl s (.bool true)
              have HL := Lib.hid (And.intro (show s < d.n from hsl) (And.intro hxl (show d.to s x < d.n from h4)))
              have h4I : (d.to s x : Int) < (d.n : Int) := by show (d.to s x : Int) < (d.rows.length : Int); omega
              have hsI : (s : Int) < (d.n : Int) := by show (s : Int) < (d.rows.length : Int); omega
              have HP := hP
              clear h3 h4 hll h4' hsl' hP
              cases hb1 : l.getD (d.to s x) false with
              | false =>
                have hk := HP.out.keep (by rw [hb1]; intro h; cases h)
                have HK := Lib.hid hk
                rw [hb1] at y1
                clear hk hb1 hst
                generalize d.to s x = t at *
                go_wp2
                go_roundw
                case rel => exact ⟨x + 1, m, l, rfl, by go_num, hxl, HK, hO⟩
                case measure => simp [intOf]; omega
              | true =>
                cases hb2 : l.getD s false with
                | true =>
                  have hk := HP.out.keep (fun _ => hb2)
                  have HK := Lib.hid hk
                  rw [hb1] at y1
                  rw [hb2] at y2
                  clear hk hb1 hb2 hst
                  generalize d.to s x = t at *
                  go_wp2
                  go_roundw
                  case rel => exact ⟨x + 1, m, l, rfl, by go_num, hxl, HK, hO⟩
                  case measure => simp [intOf]; omega
                | false =>
                  have hk := HP.out.turn HL.out.1 HL.out.2.1 HL.out.2.2 hb1 hb2
                  have HK := Lib.hid hk
                  rw [hb1] at y1
                  rw [hb2] at y2
                  have hst2 : OwnL W1 (W5.setCell ⟨g, s, none⟩ (.bool true)) [.row 4 1 (.slice (some ⟨g, 0, none⟩) d.n c) d.n (bRow (l.set s true))] := by rw [← bRow_set]; exact hst
                  clear hk hb1 hb2 hst
                  generalize d.to s x = t at *
                  go_wp2
                  go_roundw
                  case rel => exact ⟨x + 1, true, l.set s true, rfl, by go_num, hxl, HK, hst2⟩
                  case measure => simp [intOf]; omega
            · have hk := hP.out.row (by omega)
              have HK := Lib.hid hk
              clear hk hP
              go_wp2
              go_roundw
              case rel => exact ⟨s + 1, m, l, rfl, by go_num, hsl, HK, hO⟩
              case measure => simp [intOf]; omega
        · obtain rfl : s = d.rows.length := by omega
          have HP := hP
          clear hP
          go_wp2
          go_roundg (zerosB l + if m then 1 else 0)
          case rel =>
            exact ⟨l, m, rfl, Lib.hid rfl, Lib.hid HP.out.sound, Lib.hid (fun hm => by subst hm; exact HP.out.final HG.out rfl), hO⟩
          case measure =>
            have h1 := HP.out.le
            have h2 := HP.out.lt
            rw [hgk.out]
            cases m
            · simp; omega
            · have := h2 rfl; simp; omega
end Go.Proofs.YthlnmcokgfpgmaaDoor

namespace Go.Proofs.YthlnmcokgfpgmaaDoor
open Go.RowKit
set_option linter.unusedVariables false
set_option linter.unusedSimpArgs false

def Reach (d : Dfa) (s t : Nat) : Prop := ∃ w, okW d.k w ∧ d.run s w = t
def LoopAt (d : Dfa) (c : Nat) : Prop := Live d c ∧ ∃ w, w ≠ [] ∧ okW d.k w ∧ d.run c w = c
theorem okW_append {k : Nat} {w u : List Nat} (h : okW k w) (h' : okW k u) : okW k (w ++ u) := fun x hx => by
  rcases List.mem_append.1 hx with hx | hx
  · exact h x hx
  · exact h' x hx
theorem okW_one {k x : Nat} (h : x < k) : okW k [x] := fun y hy => by simp at hy; omega
theorem Reach.refl (d : Dfa) (s : Nat) : Reach d s s := ⟨[], (fun _ h => by cases h), rfl⟩
theorem Reach.trans {d : Dfa} {s t u : Nat} (h : Reach d s t) (h' : Reach d t u) : Reach d s u := by
  obtain ⟨w, hw, rfl⟩ := h
  obtain ⟨v, hv, rfl⟩ := h'
  exact ⟨w ++ v, okW_append hw hv, run_append d w v s⟩
theorem Reach.one {d : Dfa} {s x : Nat} (hx : x < d.k) : Reach d s (d.to s x) := ⟨[x], okW_one hx, rfl⟩
theorem loop_words {d : Dfa} {c : Nat} {v : List Nat} (hv : okW d.k v) (hr : d.run c v = c) (h0 : v ≠ []) : ∀ m, ∃ u, okW d.k u ∧ d.run c u = c ∧ m ≤ u.length
  | 0 => ⟨[], (fun _ h => by cases h), rfl, Nat.zero_le _⟩
  | m + 1 => by
    obtain ⟨u, h1, h2, h3⟩ := loop_words hv hr h0 m
    refine ⟨u ++ v, okW_append h1 hv, by rw [run_append, h2, hr], ?_⟩
    have : 0 < v.length := List.length_pos_iff.2 h0
    rw [List.length_append]; omega
theorem not_fin {d : Dfa} {c : Nat} (hr : Reach d 0 c) (hl : LoopAt d c) : ¬ FinD d := fun hf => by
  obtain ⟨w, hw, rfl⟩ := hr
  obtain ⟨⟨z, hz, ha⟩, v, h0, hv, hc⟩ := hl
  obtain ⟨u, h1, h2, h3⟩ := loop_words hv hc h0 d.n
  have h4 := hf (w ++ (u ++ z)) (okW_append hw (okW_append h1 hz)) (by rw [run_append, run_append, h2]; exact ha)
  rw [List.length_append, List.length_append] at h4; omega

def col (st : List Int) (s : Nat) : Int := st.getD s 0
theorem col_set {st : List Int} {s t : Nat} {z : Int} (hs : s < st.length) : col (st.set s z) t = if t = s then z else col st t := by
  unfold col
  simp only [List.getD_eq_getElem?_getD]
  by_cases h : t = s
  · subst h; rw [List.getElem?_set_self hs, if_pos rfl]; rfl
  · rw [List.getElem?_set_ne (fun e => h e.symm), if_neg h]
structure Dfs (d : Dfa) (st : List Int) (ord : List Nat) : Prop where
  len : st.length = d.n
  vals : ∀ s, s < d.n → col st s = 0 ∨ col st s = 1 ∨ col st s = 2
  black : ∀ s, s ∈ ord ↔ s < d.n ∧ col st s = 2
  nodup : ord.Nodup
  topo : ∀ (i s : Nat), ord[i]? = some s → ∀ x, x < d.k → Live d (d.to s x) → d.to s x ∈ ord.take i
def whites (st : List Int) : Nat := st.countP (fun z => z == 0)
theorem whites_set : ∀ (st : List Int) (s : Nat) (z : Int), st[s]? = some 0 → z ≠ 0 → whites (st.set s z) + 1 = whites st
  | [], s, z, h, _ => by simp at h
  | y :: r, 0, z, h, hz => by
    simp at h; subst h
    have : (z == 0) = false := by simpa using hz
    simp [whites, this]
  | y :: r, s + 1, z, h, hz => by
    have := whites_set r s z (by simpa using h) hz
    unfold whites at *
    rw [List.set_cons_succ, List.countP_cons, List.countP_cons]; omega
/-- What has happened since st: nothing was whitened, the grey ones are the same. -/
structure Since (d : Dfa) (st st' : List Int) : Prop where
  grey : ∀ g, g < d.n → (col st' g = 1 ↔ col st g = 1)
  le : whites st' ≤ whites st
  keep : ∀ t, t < d.n → col st t = 2 → col st' t = 2
theorem Since.refl (d : Dfa) (st : List Int) : Since d st st := ⟨fun _ _ => Iff.rfl, Nat.le_refl _, fun _ _ h => h⟩
theorem Since.trans {d : Dfa} {a b c : List Int} (h : Since d a b) (h' : Since d b c) : Since d a c := ⟨fun g hg => (h'.grey g hg).trans (h.grey g hg), Nat.le_trans h'.le h.le, fun t ht h2 => h'.keep t ht (h.keep t ht h2)⟩
structure PreV (d : Dfa) (st : List Int) (ord : List Nat) (s : Nat) : Prop where
  dfs : Dfs d st ord
  lt : s < d.n
  live : Live d s
  white : col st s = 0
  path : ∀ g, g < d.n → col st g = 1 → Reach d g s
def PostV (d : Dfa) (st : List Int) (s : Nat) (b : Bool) (st' : List Int) : Prop :=
  if b then ∃ ord', Dfs d st' ord' ∧ col st' s = 2 ∧ Since d st st' else ∃ c, Reach d s c ∧ LoopAt d c
/-- In the midst of visiting s: it is grey; its first x steps are done. -/
structure MidV (d : Dfa) (st0 : List Int) (s : Nat) (st : List Int) (ord : List Nat) (x : Nat) : Prop where
  dfs : Dfs d st ord
  lt : s < d.n
  len0 : st0.length = d.n
  white0 : col st0 s = 0
  grey : ∀ g, g < d.n → (col st g = 1 ↔ g = s ∨ col st0 g = 1)
  le : whites st + 1 ≤ whites st0
  path : ∀ g, g < d.n → col st g = 1 → Reach d g s
  keep : ∀ t, t < d.n → col st0 t = 2 → col st t = 2
  done : ∀ y, y < x → Live d (d.to s y) → d.to s y ∈ ord
theorem get_col {st : List Int} {s : Nat} (hs : s < st.length) : st[s]? = some (col st s) := by unfold col; rw [List.getElem?_eq_getElem hs]; simp [List.getD, hs]
theorem MidV.start {d : Dfa} {st : List Int} {ord : List Nat} {s : Nat} (h : PreV d st ord s) : MidV d st s (st.set s 1) ord 0 := by
  have hsl : s < st.length := by rw [h.dfs.len]; exact h.lt
  have hg := get_col hsl
  rw [h.white] at hg
  have hw := whites_set st s 1 hg (by omega)
  refine ⟨⟨by rw [List.length_set]; exact h.dfs.len, fun t ht => ?_, fun t => ?_, h.dfs.nodup, h.dfs.topo⟩, h.lt, h.dfs.len, h.white, fun g hgn => ?_, by omega, fun g hgn h1 => ?_, fun t ht h2 => ?_, fun y hy => by omega⟩
  · rw [col_set hsl]; split
    · exact .inr (.inl rfl)
    · exact h.dfs.vals t ht
  · rw [h.dfs.black, col_set hsl]
    by_cases e : t = s
    · subst e; rw [if_pos rfl, h.white]; constructor <;> (rintro ⟨_, h⟩; omega)
    · rw [if_neg e]
  · rw [col_set hsl]
    by_cases e : g = s
    · rw [if_pos e]; exact ⟨fun _ => .inl e, fun _ => rfl⟩
    · rw [if_neg e]; exact ⟨fun h => .inr h, fun h => h.resolve_left e⟩
  · rw [col_set hsl] at h1
    by_cases e : g = s
    · subst e; exact Reach.refl _ _
    · rw [if_neg e] at h1; exact h.path g hgn h1
  · rw [col_set hsl]
    by_cases e : t = s
    · subst e; rw [h.white] at h2; omega
    · rw [if_neg e]; exact h2
theorem MidV.dead {d : Dfa} {st0 st : List Int} {ord : List Nat} {s x : Nat} (h : MidV d st0 s st ord x) (hn : ¬ Live d (d.to s x)) : MidV d st0 s st ord (x + 1) :=
  ⟨h.dfs, h.lt, h.len0, h.white0, h.grey, h.le, h.path, h.keep, fun y hy hl => by
      by_cases e : y = x
      · subst e; exact absurd hl hn
      · exact h.done y (by omega) hl⟩
theorem MidV.black {d : Dfa} {st0 st : List Int} {ord : List Nat} {s x : Nat} (hg : Good d) (h : MidV d st0 s st ord x) (hx : x < d.k) (hb : col st (d.to s x) = 2) : MidV d st0 s st ord (x + 1) :=
  ⟨h.dfs, h.lt, h.len0, h.white0, h.grey, h.le, h.path, h.keep, fun y hy hl => by
      by_cases e : y = x
      · subst e; exact (h.dfs.black _).2 ⟨hg.to_lt h.lt hx, hb⟩
      · exact h.done y (by omega) hl⟩
theorem MidV.greyLoop {d : Dfa} {st0 st : List Int} {ord : List Nat} {s x : Nat} (hg : Good d) (h : MidV d st0 s st ord x) (hx : x < d.k) (hl : Live d (d.to s x)) (h1 : col st (d.to s x) = 1) : ∃ c, Reach d s c ∧ LoopAt d c := by
  obtain ⟨w, hw, hr⟩ := h.path _ (hg.to_lt h.lt hx) h1
  exact ⟨_, Reach.one hx, hl, w ++ [x], by simp, okW_append hw (okW_one hx), by rw [run_append, hr]; rfl⟩
theorem MidV.pre {d : Dfa} {st0 st : List Int} {ord : List Nat} {s x : Nat} (hg : Good d) (h : MidV d st0 s st ord x) (hx : x < d.k) (hl : Live d (d.to s x)) (h0 : col st (d.to s x) = 0) : PreV d st ord (d.to s x) :=
  ⟨h.dfs, hg.to_lt h.lt hx, hl, h0, fun g hgn h1 => (h.path g hgn h1).trans (Reach.one hx)⟩
theorem MidV.after {d : Dfa} {st0 st st' : List Int} {ord ord' : List Nat} {s x : Nat} (hg : Good d) (h : MidV d st0 s st ord x) (hx : x < d.k) (hd : Dfs d st' ord') (hc : col st' (d.to s x) = 2) (hs : Since d st st') : MidV d st0 s st' ord' (x + 1) :=
  ⟨hd, h.lt, h.len0, h.white0, fun g hgn => (hs.grey g hgn).trans (h.grey g hgn), by have := hs.le; have := h.le; omega, fun g hgn h1 => h.path g hgn ((hs.grey g hgn).1 h1), fun t ht h2 => hs.keep t ht (h.keep t ht h2), fun y hy hl => by
    by_cases e : y = x
    · subst e; exact (hd.black _).2 ⟨hg.to_lt h.lt hx, hc⟩
    · have h1 := (h.dfs.black _).1 (h.done y (by omega) hl)
      exact (hd.black _).2 ⟨h1.1, hs.keep _ h1.1 h1.2⟩⟩
theorem MidV.finish {d : Dfa} {st0 st : List Int} {ord : List Nat} {s x : Nat} (h : MidV d st0 s st ord x) (hx : x = d.k) : PostV d st0 s true (st.set s 2) := by
  have hsl : s < st.length := by rw [h.dfs.len]; exact h.lt
  have hc1 : col st s = 1 := (h.grey s h.lt).2 (.inl rfl)
  have hno : s ∉ ord := fun hm => by have := ((h.dfs.black s).1 hm).2; omega
  unfold PostV
  rw [if_pos rfl]
  refine ⟨ord ++ [s], ⟨by rw [List.length_set]; exact h.dfs.len, fun t ht => ?_, fun t => ?_, ?_, fun i t hi y hy hl => ?_⟩, by rw [col_set hsl, if_pos rfl], ⟨fun g hgn => ?_, ?_, fun t ht h2 => ?_⟩⟩
  · rw [col_set hsl]; split
    · exact .inr (.inr rfl)
    · exact h.dfs.vals t ht
  · rw [List.mem_append, h.dfs.black, col_set hsl, List.mem_singleton]
    by_cases e : t = s
    · subst e; rw [if_pos rfl]; exact ⟨fun _ => ⟨h.lt, rfl⟩, fun _ => .inr rfl⟩
    · rw [if_neg e]; exact ⟨fun h => h.resolve_right e, fun h => .inl h⟩
  · rw [List.nodup_append]
    exact ⟨h.dfs.nodup, by simp, fun a ha b hb e => by simp at hb; subst hb; exact hno (e ▸ ha)⟩
  · by_cases hil : i < ord.length
    · rw [List.getElem?_append_left hil] at hi
      have := h.dfs.topo i t hi y hy hl
      rw [List.take_append_of_le_length (Nat.le_of_lt hil)]; exact this
    · have hlt := (List.getElem?_eq_some_iff.1 hi).1
      simp at hlt
      have he : i = ord.length := by omega
      subst he
      rw [List.getElem?_append_right (Nat.le_refl _), Nat.sub_self] at hi
      cases hi
      rw [List.take_left']
      · exact h.done y (by omega) hl
      · rfl
  · rw [col_set hsl]
    by_cases e : g = s
    · rw [if_pos e, e, h.white0]; constructor <;> (intro h; omega)
    · rw [if_neg e, h.grey g hgn]; exact ⟨fun h => h.resolve_left e, fun h => .inr h⟩
  · have h1 : whites (st.set s 2) ≤ whites st := by
      have : st[s]? = some 1 := by rw [get_col hsl, hc1]
      have hle : ∀ (l : List Int) (i : Nat), whites (l.set i 2) ≤ whites l := fun l => by
        induction l with
        | nil => intro i; simp [whites]
        | cons y r ih =>
          intro i
          cases i with
          | zero => simp only [List.set_cons_zero]; unfold whites; rw [List.countP_cons, List.countP_cons]; simp
          | succ i => have := ih i; simp only [List.set_cons_succ]; unfold whites at *; rw [List.countP_cons, List.countP_cons]; omega
      exact hle st s
    have := h.le
    omega
  · rw [col_set hsl]
    split
    · rfl
    · exact h.keep t ht h2
theorem fin_of_black {d : Dfa} {st : List Int} {ord : List Nat} (h : Dfs d st ord) : ∀ (w : List Nat) (i s : Nat), ord[i]? = some s → okW d.k w → d.ac (d.run s w) = true → w.length ≤ i
  | [], i, s, _, _, _ => Nat.zero_le _
  | x :: w, i, s, hi, hw, ha => by
    have hx := hw x (by simp)
    have hw' : okW d.k w := fun y hy => hw y (by simp [hy])
    have hm := h.topo i s hi x hx ⟨w, hw', ha⟩
    obtain ⟨j, hj⟩ := List.getElem?_of_mem hm
    have hji : j < i := by
      have := (List.getElem?_eq_some_iff.1 hj).1
      rw [List.length_take] at this; omega
    rw [List.getElem?_take_of_lt hji] at hj
    have := fin_of_black h w j _ hj hw' ha
    simp only [List.length_cons]; omega
theorem fin_true {d : Dfa} {st : List Int} {ord : List Nat} (h : Dfs d st ord) (h0 : 0 < d.n) (hb : col st 0 = 2) : FinD d := fun w hw ha => by
  have hm := (h.black 0).2 ⟨h0, hb⟩
  obtain ⟨i, hi⟩ := List.getElem?_of_mem hm
  have h1 := fin_of_black h w i 0 hi hw ha
  have h2 := List.Nodup.length_le_of_subset h.nodup (l₂ := List.range d.n) (fun z hz => List.mem_range.2 ((h.black z).1 hz).1)
  rw [List.length_range] at h2
  have := (List.getElem?_eq_some_iff.1 hi).1
  omega
theorem fin_dead {d : Dfa} (h : ¬ Live d 0) : FinD d := fun w hw ha => absurd ⟨w, hw, ha⟩ h
theorem dfs_start (d : Dfa) (h0 : 0 < d.n) (hl : Live d 0) : PreV d (List.replicate d.n 0) [] 0 := by
  have hc : ∀ s, col (List.replicate d.n 0) s = 0 := fun s => by
    unfold col
    rw [List.getD_eq_getElem?_getD, List.getElem?_replicate]; split <;> rfl
  exact ⟨⟨by simp, fun s _ => .inl (hc s), fun s => by simp [hc s], by simp, fun i s h => by simp at h⟩, h0, hl, hc 0, fun g _ h => by rw [hc g] at h; omega⟩
end Go.Proofs.YthlnmcokgfpgmaaDoor

namespace Go.Proofs.YthlnmcokgfpgmaaDoor
open Go.RowKit Go.Maps
set_option linter.unusedVariables false
set_option linter.unusedSimpArgs false
attribute [local go_sem] Oper.quietV quietV Oper.gives givesV ext_refl_iff ext_alloc_iff ext_drew_iff ext_drewN_iff
def iRowV (st : List Int) : List Value := st.map (.int .i64)
theorem iRowV_at {st : List Int} {s : Nat} (h : s < st.length) : (iRowV st)[s]? = some (.int .i64 (col st s)) := by unfold iRowV col; rw [List.getElem?_map, List.getElem?_eq_getElem h]; simp [List.getD, h]
theorem iRowV_set (st : List Int) (s : Nat) (z : Int) : (iRowV st).set s (.int .i64 z) = iRowV (st.set s z) := by unfold iRowV; rw [List.map_set]
/-- What the search owns: the colours, the variable that holds them, the variable that holds the search itself. -/
def finO (d : Dfa) (bs b1 b2 b3 b4 : Nat) (st : List Int) : List Asn := [.row 3 1 (.slice (some ⟨bs, 0, none⟩) d.n d.n) d.n (iRowV st), .blk b1 (.cells #[.slice (some ⟨bs, 0, none⟩) d.n d.n] 31), .blk b4 (.cells #[.func (.func 64) #[] #[.pointer (some ⟨b1, 0, none⟩), .pointer (some ⟨b2, 0, none⟩), .pointer (some ⟨b3, 0, none⟩), .pointer (some ⟨b4, 0, none⟩)]] 112)]
def VisP (d : Dfa) (W0 : World) (bs b1 b2 b3 b4 : Nat) (st : List Int) (s : Nat) (e : Ending) (w' : World) : Prop := ∃ b st', e = .returned (.bool b) ∧ OwnL W0 w' (finO d bs b1 b2 b3 b4 st') ∧ PostV d st s b st'

set_option maxRecDepth 100000 in
set_option maxHeartbeats 8000000 in
theorem visit_any (d : Dfa) (hg : Good d) (W0 : World) (bs b1 b2 b3 b4 : Nat) (rv : Value) (cr : Nat) (hr : ListsC W0 rv d.rows cr) (h2 : W0.cell? ⟨b2, 1, none⟩ = some rv) (gg cg : Nat) (h3 : W0.cell? ⟨b3, 0, none⟩ = some (.slice (some ⟨gg, 0, none⟩) d.n cg)) (gl : List Bool) (hgc : ∀ j u, (bRow gl)[j]? = some u → W0.cell? ⟨gg, j, none⟩ = some u) (hal : AliveOf d gl) :
    ∀ (m : Nat) (w : World) (st : List Int) (ord : List Nat) (s : Nat), whites st ≤ m → OwnL W0 w (finO d bs b1 b2 b3 b4 st) → PreV d st ord s →
      Calls Tryd.prog 64 #[.int .i64 (s : Int), .pointer (some ⟨b1, 0, none⟩), .pointer (some ⟨b2, 0, none⟩), .pointer (some ⟨b3, 0, none⟩), .pointer (some ⟨b4, 0, none⟩)] w (VisP d W0 bs b1 b2 b3 b4 st s) := by
  intro m
  induction m with
  | zero =>
    intro w st ord s hm hO hp
    have hsl : s < st.length := by rw [hp.dfs.len]; exact hp.lt
    have hg := get_col hsl
    rw [hp.white] at hg
    have := whites_set st s 1 hg (by omega)
    omega
  | succ m ih =>
    intro w st ord s hm hO hp
    obtain ⟨Ar, vr, rfl, _, _, _, _, hrm⟩ := id hr
    unfold lenMax at hrm
    have hsl : s < st.length := by rw [hp.dfs.len]; exact hp.lt
    have hmid := MidV.start hp
    have hwm : whites (st.set s 1) ≤ m := by have := hmid.le; omega
    have hsn : s < d.rows.length := hp.lt
    have c1 := cell_of_blk (hO.get 1 rfl).2 0 (u := .slice (some ⟨bs, 0, none⟩) d.n d.n) rfl
    have s0 := cell_own hO 0 rfl (iRowV_at hsl)
    have sf := free_own (e := 3) hO 0 rfl s
    have hst := hO.store 0 rfl s (.int .i64 1)
    have IH := Lib.hid ih
    have HM := Lib.hid (And.intro hmid (And.intro hwm (And.intro hg hal)))
    have hsI : (s : Int) < (d.n : Int) := by show (s : Int) < (d.rows.length : Int); omega
    have hsI2 : (s : Int) < (d.rows.length : Int) := hsI
    have hsz := hg.size
    clear ih hmid hwm hp hm hsl hal
    go_enter Tryd.func64, Tryd.ntmps64
    go_upto_region 2 with fail
    refine wp_named ?_
    intro W2 hW2
    have hO2 : OwnL W0 W2 (finO d bs b1 b2 b3 b4 (st.set s 1)) := by
      rw [hW2]
      unfold finO
      rw [← iRowV_set]
      exact hst
    clear hW2 hst hO c1 s0 sf
    have e0 := hO2.ext
    have c2 := e0.cell h2
    obtain ⟨b, o, u, c', hv, _, c3, hi⟩ := hr.at_ hsn
    injection hv with hv; subst hv
    have c3 := e0.cell c3
    have hrl := hg.row hsn
    have hcell : ∀ x (hx : x < d.rows[s].length), d.rows[s][x] = (d.to s x : Int) ∧ d.to s x < d.rows.length := fun x hx => hg.cell hsn hx
    have HC := Lib.hid (And.intro hrl hcell)
    have hk16 := hg.kk.2.2
    clear hcell
    generalize d.rows[s] = row at *
    obtain ⟨A2, rfl, hi2, _, him⟩ := hi
    rw [hrl] at c3
    clear hrl him e0
    go_wp2
    go_loopw [18] (fun xv wr => ∃ (x : Nat) (st1 : List Int) (ord1 : List Nat), xv = .int .i64 x ∧ x ≤ d.k ∧ Hid (MidV d st s st1 ord1 x) ∧ Hid (whites st1 ≤ m) ∧ OwnL W0 wr (finO d bs b1 b2 b3 b4 st1)) (fun xv _ => d.k - (intOf xv).toNat)
    case atStart => exact ⟨0, _, _, rfl, Nat.zero_le _, Lib.hid HM.out.1, Lib.hid HM.out.2.1, hO2⟩
    case round =>
      clear hO2 c2 c3
      obtain ⟨x, st1, ord1, rfl, hx, hM, hwm, hO⟩ := hrel
      obtain ⟨W3, hW3⟩ : ∃ W, W = wr := ⟨_, rfl⟩; subst hW3
      have c1 := cell_of_blk (hO.get 1 rfl).2 0 (u := .slice (some ⟨bs, 0, none⟩) d.n d.n) rfl
      by_cases hxl : x < d.k
      · have hxr : x < row.length := by have := HC.out.1; omega
        obtain ⟨bb, oo, rfl, _, c5⟩ := (hi2.ext hO.ext).at_int hxr
        obtain ⟨h5, h6⟩ := HC.out.2 x hxr
        rw [h5] at c5
        have c4 := cell_of_blk (hO.get 2 rfl).2 0 (u := .func (.func 64) #[] #[.pointer (some ⟨b1, 0, none⟩), .pointer (some ⟨b2, 0, none⟩), .pointer (some ⟨b3, 0, none⟩), .pointer (some ⟨b4, 0, none⟩)]) rfl
        have c6 := hO.ext.cell h3
        have hgl : d.to s x < gl.length := by rw [HM.out.2.2.2.1]; exact h6
        have c7 := hO.ext.cell (hgc _ _ (bRow_at hgl))
        have hal := HM.out.2.2.2.2 (d.to s x) h6
        have hsl1 : d.to s x < st1.length := by rw [hM.out.dfs.len]; exact h6
        have c8 := cell_own hO 0 rfl (iRowV_at hsl1)
        have hvals := hM.out.dfs.vals (d.to s x) h6
        have h6I : (d.to s x : Int) < (d.n : Int) := by show (d.to s x : Int) < (d.rows.length : Int); omega
        have HL := Lib.hid (And.intro hxl (And.intro hal h6))
        clear h5 hgl hsl1 hal h6
        cases hb : gl.getD (d.to s x) false with
        | false =>
          have hk := hM.out.dead (x := x) (fun hl => by have := HL.out.2.1.2 hl; rw [hb] at this; cases this)
          have HK := Lib.hid hk
          rw [hb] at c7
          clear hk hb hvals
          generalize d.to s x = t at *
          go_wp2
          go_roundw
          case rel => exact ⟨x + 1, st1, ord1, by go_num, hxl, HK, hwm, hO⟩
          case measure => simp [intOf]; omega
        | true =>
          have hlive : Live d (d.to s x) := HL.out.2.1.1 hb
          rw [hb] at c7
          have HLV := Lib.hid hlive
          clear hb hlive
          rcases hvals with hz | hz | hz
          · have hpre := hM.out.pre HM.out.2.2.1 hxl HLV.out hz
            have hcall := IH.out W3 st1 ord1 (d.to s x) hwm.out hO hpre
            rw [hz] at c8
            have HCALL := Lib.hid hcall
            clear hpre hcall hz
            generalize htt : d.to s x = t at *
            have HT := Lib.hid htt
            clear htt
            go_wp2_with fail
            refine HCALL.out.mono ?_
            rintro e w4 ⟨bq, st2, rfl, hO4, hP4⟩
            cases bq with
            | true =>
              have hP : ∃ ord', Dfs d st2 ord' ∧ col st2 t = 2 ∧ Since d st1 st2 := hP4
              obtain ⟨ord2, p1, p2, p3⟩ := hP
              have hw2 : whites st2 ≤ m := Nat.le_trans p3.le hwm.out
              have HP := Lib.hid (And.intro p1 (And.intro p2 (And.intro p3 hw2)))
              clear p1 p2 p3 hw2 hP4 hO
              go_wp2
              go_roundw
              case rel => exact ⟨x + 1, st2, ord2, by go_num, hxl, Lib.hid (by rw [← HT.out] at HP; exact hM.out.after HM.out.2.2.1 hxl HP.out.1 HP.out.2.1 HP.out.2.2.1), Lib.hid HP.out.2.2.2, hO4⟩
              case measure => simp [intOf]; omega
            | false =>
              have hP : ∃ c, Reach d t c ∧ LoopAt d c := hP4
              obtain ⟨cc, p1, p2⟩ := hP
              have HP := Lib.hid (And.intro p1 p2)
              clear p1 p2 hP4 hO
              go_wp2
              go_ret
              refine ⟨false, st2, rfl, hO4, ?_⟩
              show ∃ c, Reach d s c ∧ LoopAt d c
              rw [← HT.out] at HP
              exact ⟨cc, (Reach.one hxl).trans HP.out.1, HP.out.2⟩
          · have hloop := hM.out.greyLoop HM.out.2.2.1 hxl HLV.out hz
            rw [hz] at c8
            have HL2 := Lib.hid hloop
            clear hloop hz
            generalize d.to s x = t at *
            go_wp2
            go_ret
            exact ⟨false, st1, rfl, hO, HL2.out⟩
          · have hk := hM.out.black HM.out.2.2.1 hxl hz
            have HK := Lib.hid hk
            rw [hz] at c8
            clear hk hz
            generalize d.to s x = t at *
            go_wp2
            go_roundw
            case rel => exact ⟨x + 1, st1, ord1, by go_num, hxl, HK, hwm, hO⟩
            case measure => simp [intOf]; omega
      · have hfin := hM.out.finish (by omega)
        have HF := Lib.hid hfin
        have hsl1 : s < st1.length := by rw [hM.out.dfs.len]; exact hM.out.lt
        have s0 := cell_own hO 0 rfl (iRowV_at hsl1)
        have sf := free_own (e := 3) hO 0 rfl s
        have hst := hO.store 0 rfl s (.int .i64 2)
        have hst2 : OwnL W0 (W3.setCell ⟨bs, s, none⟩ (.int .i64 2)) (finO d bs b1 b2 b3 b4 (st1.set s 2)) := by unfold finO; rw [← iRowV_set]; exact hst
        clear hfin hsl1 hst
        go_wp2
        go_ret
        exact ⟨true, st1.set s 2, rfl, hst2, HF.out⟩

def FinP (d : Dfa) (w : World) (e : Ending) (w' : World) : Prop := ∃ b, e = .returned (.bool b) ∧ (b = true ↔ FinD d) ∧ Ext w w'
set_option maxRecDepth 100000 in
set_option maxHeartbeats 8000000 in
theorem finite_any (w : World) (dv : Value) (d : Dfa) (hd : DfaV w dv d) (hg : Good d) : Calls Tryd.prog 45 #[dv] w (FinP d w) := by
  obtain ⟨rv, cr, av, ca, rfl, hr, ha⟩ := id hd
  obtain ⟨Ar, vr, rfl, _, _, _, _, hrm⟩ := id hr
  obtain ⟨Aa, rfl, hac, _, ham⟩ := id ha
  unfold lenMax at hrm ham
  have hsz := hg.size
  have HG := Lib.hid hg
  have hmk := mk_ints d.rows.length (by omega)
  go_enter Tryd.func45, Tryd.ntmps45
  go_upto_region 1 with fail
  refine wp_named ?_
  intro W1 hW1
  have hE1 : Ext w W1 := by rw [hW1]; exact (Ext.refl _).alloc _
  have k0 : ∀ w', Ext W1 w' → w'.cell? ⟨w.heap.size, 0, none⟩ = some (.int .i64 d.sy) := fun w' h => h.cell (by rw [hW1]; simp [go_sem])
  have k1 : ∀ w', Ext W1 w' → w'.cell? ⟨w.heap.size, 1, none⟩ = some (.slice Ar d.rows.length cr) := fun w' h => h.cell (by rw [hW1]; simp [go_sem])
  have k2 : ∀ w', Ext W1 w' → w'.cell? ⟨w.heap.size, 2, none⟩ = some (.slice Aa d.acc.length ca) := fun w' h => h.cell (by rw [hW1]; simp [go_sem])
  clear hW1
  have hE0 := Ext.refl W1
  have HAL := Lib.hid (alive_any W1 _ d (hd.ext hE1) hg)
  go_upto_region 2 with ((with_reducible refine HAL.out.mono ?_); rintro e w2 ⟨gg, cg, gl, rfl, hown, hal, e2⟩)
  refine wp_named ?_
  intro W3 hW3
  have e3 : Ext w2 W3 := by rw [hW3]; exact alloc_ext _ _
  have h3 : W3.cell? ⟨w2.heap.size, 0, none⟩ = some (.slice (some ⟨gg, 0, none⟩) d.n cg) := by rw [hW3]; simp [go_sem]
  have hgc : ∀ j u, (bRow gl)[j]? = some u → W3.cell? ⟨gg, j, none⟩ = some u := fun j u hj => e3.cell (cell_at_own hown hj)
  have eW : Ext W1 W3 := e2.trans e3
  have h2 := k1 W3 eW
  have hr3 := hr.ext (hE1.trans eW)
  have hzero : (bRow gl)[0]? = some (.bool (gl.getD 0 false)) := bRow_at (by rw [hal.1]; show 0 < d.rows.length; omega)
  have hg0 := hgc 0 _ hzero
  have HV := Lib.hid (And.intro hgc (And.intro hal (And.intro hr3 h3)))
  clear hW3 hown e2 e3 hgc hr3 hzero HAL
  generalize w2.heap.size = b3 at *
  go_upto_region 5 with fail
  refine wp_named ?_
  intro W4 hW4
  have hO4 : OwnL W3 W4 (finO d W3.heap.size (W3.heap.size + 1) w.heap.size b3 (W3.heap.size + 1 + 1) (List.replicate d.n 0)) := by
    rw [hW4]
    unfold finO iRowV
    rw [List.map_replicate]
    have h1 := (OwnL.nil (Ext.refl W3)).add (alloc_ext _ _) (A := .row 3 1 (.slice (some ⟨W3.heap.size, 0, none⟩) d.n d.n) d.n (List.replicate d.n (.int .i64 0))) (own_new _ _ 3 _ (by show d.rows.length ≤ 100000; omega))
    have h2 := h1.add (alloc_ext _ (.cells #[.slice (some ⟨W3.heap.size, 0, none⟩) d.n d.n] 31)) (A := .blk (W3.heap.size + 1) (.cells #[.slice (some ⟨W3.heap.size, 0, none⟩) d.n d.n] 31)) ⟨by simp, by have := heap_alloc_new (W3.alloc (.cells (Array.replicate d.n (.int .i64 0)) 3)) (.cells #[.slice (some ⟨W3.heap.size, 0, none⟩) d.n d.n] 31); simpa using this⟩
    have h3 := h2.add (alloc_ext _ (.cells #[.func (.func 64) #[] #[.pointer (some ⟨W3.heap.size + 1, 0, none⟩), .pointer (some ⟨w.heap.size, 0, none⟩), .pointer (some ⟨b3, 0, none⟩), .pointer (some ⟨W3.heap.size + 1 + 1, 0, none⟩)]] 112)) (A := .blk (W3.heap.size + 1 + 1) (.cells #[.func (.func 64) #[] #[.pointer (some ⟨W3.heap.size + 1, 0, none⟩), .pointer (some ⟨w.heap.size, 0, none⟩), .pointer (some ⟨b3, 0, none⟩), .pointer (some ⟨W3.heap.size + 1 + 1, 0, none⟩)]] 112)) ⟨by simp, by
      have := heap_alloc_new ((W3.alloc (.cells (Array.replicate d.n (.int .i64 0)) 3)).alloc (.cells #[.slice (some ⟨W3.heap.size, 0, none⟩) d.n d.n] 31)) (.cells #[.func (.func 64) #[] #[.pointer (some ⟨W3.heap.size + 1, 0, none⟩), .pointer (some ⟨w.heap.size, 0, none⟩), .pointer (some ⟨b3, 0, none⟩), .pointer (some ⟨W3.heap.size + 1 + 1, 0, none⟩)]] 112)
      simpa using this⟩
    have h4 := h3.perm (L' := [_, _, _]) (by
      refine List.Perm.trans (List.Perm.swap _ _ _) ?_
      refine List.Perm.trans (List.Perm.cons _ (List.Perm.swap _ _ _)) ?_
      exact List.Perm.swap _ _ _)
    exact (h4.perm (List.Perm.cons _ (List.Perm.refl _)))
  have c4 := cell_of_blk (hO4.get 2 rfl).2 0 (u := .func (.func 64) #[] #[.pointer (some ⟨W3.heap.size + 1, 0, none⟩), .pointer (some ⟨w.heap.size, 0, none⟩), .pointer (some ⟨b3, 0, none⟩), .pointer (some ⟨W3.heap.size + 1 + 1, 0, none⟩)]) rfl
  have c3 := hO4.ext.cell h3
  have cg0 := hO4.ext.cell hg0
  have hlv := HV.out.2.1.2 0 (show 0 < d.rows.length by omega)
  have H4 := Lib.hid (And.intro hO4 (And.intro hlv (hE1.trans (eW.trans hO4.ext))))
  have h0I : (0 : Int) < (d.n : Int) := by show (0 : Int) < (d.rows.length : Int); omega
  clear hW4 hO4 hlv h3 hal hg0
  cases hb : gl.getD 0 false with
  | false =>
    rw [hb] at cg0
    have hnl : ¬ Live d 0 := fun h => by have := H4.out.2.1.2 h; rw [hb] at this; cases this
    have HN := Lib.hid (fin_dead hnl)
    clear hb hnl
    go_wp2
    go_ret
    exact ⟨true, rfl, ⟨fun _ => HN.out, fun _ => rfl⟩, H4.out.2.2⟩
  | true =>
    rw [hb] at cg0
    have hlive := H4.out.2.1.1 hb
    have hpre := dfs_start d (show 0 < d.rows.length by omega) hlive
    have hcall := visit_any d HG.out W3 W3.heap.size (W3.heap.size + 1) w.heap.size b3 (W3.heap.size + 1 + 1) _ cr HV.out.2.2.1 h2 gg cg HV.out.2.2.2 gl HV.out.1 HV.out.2.1 _ W4 _ _ 0 (Nat.le_refl _) H4.out.1 hpre
    have HCALL := Lib.hid hcall
    clear hb hlive hpre hcall
    go_wp2_with fail
    refine HCALL.out.mono ?_
    rintro e w5 ⟨bq, st2, rfl, hO5, hP5⟩
    have hE5 := Lib.hid ((hE1.trans eW).trans hO5.ext)
    have hgoal : Hid (bq = true ↔ FinD d) := by
      show _ ↔ _
      cases bq with
      | true =>
        obtain ⟨ord2, p1, p2, p3⟩ : ∃ ord', Dfs d st2 ord' ∧ col st2 0 = 2 ∧ Since d (List.replicate d.n 0) st2 := hP5
        exact ⟨fun _ => fin_true p1 (show 0 < d.rows.length by omega) p2, fun _ => rfl⟩
      | false =>
        obtain ⟨cc, p1, p2⟩ : ∃ c, Reach d 0 c ∧ LoopAt d c := hP5
        exact ⟨fun h => (by cases h), fun h => absurd h (not_fin p1 p2)⟩
    clear hO5 hP5 HCALL
    go_wp2
    go_ret
    exact ⟨bq, rfl, hgoal.out, hE5.out⟩

/-! ### Finite -/
def FinR (d : Dfa) (w : World) (e : Ending) (w' : World) : Prop := (checkD d ≠ 0 ∧ e = .returned (.tuple #[.bool false, .int .i64 (checkD d)]) ∧ Ext w w') ∨ (checkD d = 0 ∧ ∃ b, e = .returned (.tuple #[.bool b, .int .i64 0]) ∧ (b = true ↔ FinD d) ∧ Ext w w')
set_option maxRecDepth 100000 in
set_option maxHeartbeats 2000000 in
theorem Finite_any (w : World) (dv : Value) (d : Dfa) (hd : DfaV w dv d) : Calls Tryd.prog 14 #[dv] w (FinR d w) := by
  obtain ⟨rv, cr, av, ca, rfl, hr, ha⟩ := id hd
  obtain ⟨Ar, vr, rfl, _, _, _, _, hrm⟩ := id hr
  obtain ⟨Aa, rfl, hac, _, ham⟩ := id ha
  unfold lenMax at hrm ham
  go_enter Tryd.func14, Tryd.ntmps14
  go_upto_region 1 with fail
  refine wp_named ?_
  intro W1 hW1
  have hE1 : Ext w W1 := by rw [hW1]; exact (Ext.refl _).alloc _
  have k0 : ∀ w', Ext W1 w' → w'.cell? ⟨w.heap.size, 0, none⟩ = some (.int .i64 d.sy) := fun w' h => h.cell (by rw [hW1]; simp [go_sem])
  have k1 : ∀ w', Ext W1 w' → w'.cell? ⟨w.heap.size, 1, none⟩ = some (.slice Ar d.rows.length cr) := fun w' h => h.cell (by rw [hW1]; simp [go_sem])
  have k2 : ∀ w', Ext W1 w' → w'.cell? ⟨w.heap.size, 2, none⟩ = some (.slice Aa d.acc.length ca) := fun w' h => h.cell (by rw [hW1]; simp [go_sem])
  clear hW1
  have hE0 := Ext.refl W1
  have hck := check_any W1 _ d (hd.ext hE1)
  by_cases hz : checkD d = 0
  · have HZ := Lib.hid hz
    have hga := (good_iff d).1 hz
    have HG := Lib.hid hga
    rw [hz] at hck
    clear hz hga
    go_upto_region 4 with ((with_reducible refine hck.mono ?_); rintro e w1 ⟨rfl, e1⟩)
    have HF := Lib.hid (finite_any w1 _ d (hd.ext (hE1.trans e1)) HG.out)
    go_wp2_with (go_at_call 45; refine HF.out.mono ?_; rintro e w2 ⟨b, rfl, hb, e2⟩; have HB := Lib.hid hb; clear hb)
    go_ret2
    exact .inr ⟨HZ.out, b, rfl, HB.out, (hE1.trans e1).trans e2⟩
  · have hz' : (checkD d != 0) = true := by simpa using hz
    have HZ := Lib.hid hz
    clear hz
    go_wp2_with ((with_reducible refine hck.mono ?_); rintro e w1 ⟨rfl, e1⟩)
    go_ret2
    exact .inl ⟨HZ.out, rfl, hE1.trans e1⟩
end Go.Proofs.YthlnmcokgfpgmaaDoor

namespace Go.Proofs.YthlnmcokgfpgmaaDoor
open Go.RowKit Go.Maps
set_option linter.unusedVariables false
set_option linter.unusedSimpArgs false
attribute [local go_sem] Oper.quietV quietV Oper.gives givesV ext_refl_iff ext_alloc_iff ext_drew_iff ext_drewN_iff
/-! ### append where there is room -/
section
variable {P : Program}
theorem wpList_append_room2 {w : World} {ops : Array Oper} {rest : List Oper} {o : Oper} {a : Act} {Q : Exit → Act → World → Prop} (hgd : o.guard = none) (s x : Operand) (t : TypeId)
    (ho : o.op = .call { callee := .builtin .append, args := #[s, x], argTypes := #[t, t] })
    (base : Nat) (e : TypeId) (i : TypeInfo) (z : Value) (size bytes : Nat) (ht : P.underlying t = some (.slice e)) (hi : P.info? e = some i) (hz : i.zero = some z)
    (hsize : i.size = size) (hby : i.bytes = bytes) (hzs : z.cells.size = size) (hsz : 0 < size)
    (g n cap : Nat) (xs : List Value) (hs : a.eval s = .slice (some ⟨g, 0, none⟩) n cap) (hown : w.ownsRow base e size (.slice (some ⟨g, 0, none⟩) n cap) n xs)
    (ad : Addr) (m c : Nat) (news : List Value) (hx : a.eval x = .slice (some ad) m c) (hl : news.length = m * size) (hnews : ∀ j u, news[j]? = some u → w.cell? (ad.add j) = some u) (h1 : ∀ u ∈ news, u.oneCell' = true)
    (hroom : n + m ≤ cap) (h63 : n + m ≤ maxLen) (hbytes : (n + m) * bytes ≤ 140737488355328) (hbase : base ≤ w.heap.size)
    (h : ∀ w', w'.ownsRow base e size (.slice (some ⟨g, 0, none⟩) (n + m) cap) (n + m) (xs ++ news) → w.grownBy w' (some g) → wpList P ops Q rest (a.put o.dst (.slice (some ⟨g, 0, none⟩) (n + m) cap)) w') : wpList P ops Q (o :: rest) a w := by
  refine wpList_plain hgd fun K hK => ?_
  obtain ⟨v', w', hr, h2, h3, h4⟩ := run_append_own2 (P := P) (w := w) base t o.type e i z size bytes ht hi hz hsize hby hzs hsz _ n xs hown ad m c news hl hnews h1 h63 hbytes hbase
  have hv : v' = .slice (some ⟨g, 0, none⟩) (n + m) cap := by
    subst hsize
    rcases hown.2 with ⟨hn, _⟩ | ⟨g', cap', cur, hv, hbg, hg, hnc, hcm, hcs, htake⟩
    · cases hn
    · cases hv
      have hfit : n * i.size + news.length ≤ cur.size := by rw [hl, hcs, ← Nat.add_mul]; exact Nat.mul_le_mul_right _ hroom
      have hr2 := run_append_room (P := P) w t o.type e i ht hi g n cap cur hg ad m c news hl hnews h1 hroom hfit
      rw [hr] at hr2
      cases hr2; rfl
  subst hv
  unfold Oper.wp execOp
  simp only [ho, resolve, invoke, builtin, Sem.run_bind, Sem.run_pure, Result.andThen_ok, List.map_toArray, List.map_cons, List.map_nil, hs, hx, hr]
  exact hK _ _ (h w' h2 h3)
end
set_option maxRecDepth 100000 in
theorem mk_room (n : Nat) (hn : n ≤ 100000) (w : World) : (Instr.makeSlice 31 (.int .i64 0) (.int .i64 (n : Int))).run Tryd.prog w = .ok (.slice (some ⟨w.heap.size, 0, none⟩) 0 n) (w.alloc (.cells (Array.replicate n (.int .i64 0)) 3)) := by
  obtain ⟨i, hi, hz0, hs, hb0⟩ := info_parts int_info
  have hr := run_make (P := Tryd.prog) w 31 3 i (.int .i64 0) Tryd.underlying31 hi hz0 .i64 .i64 0 n (by omega) (by omega) (by rw [hb0]; omega) (by omega)
  simp only [Int.toNat_natCast] at hr
  rw [hr, hs, Nat.mul_one]
  congr 3
  exact Array.ext' (by rw [show (Value.int .i64 0).cells = #[.int .i64 0] from rfl, toList_madeCells_one]; simp)
set_option maxRecDepth 100000 in
theorem own_room (W : World) (e : TypeId) (n : Nat) (z : Value) (hn : n ≤ 100000) : (W.alloc (.cells (Array.replicate n z) e)).ownsRow W.heap.size e 1 (.slice (some ⟨W.heap.size, 0, none⟩) 0 n) 0 [] := by
  refine ⟨rfl, .inr ⟨W.heap.size, n, Array.replicate n z, rfl, Nat.le_refl _, heap_alloc_new W _, Nat.zero_le _, by unfold maxLen; omega, by simp, by simp⟩⟩

/-! ### The plain function -/
def scan (d : Dfa) : Nat → Nat → Nat → Nat × Nat
  | 0, n, left => (n, left)
  | f + 1, n, left => if tlN d n 0 ≤ left then scan d f (n + 1) (left - tlN d n 0) else (n, left)
def pickX (d : Dfa) (j s : Nat) : Nat → Nat → Nat → Option (Nat × Nat)
  | 0, _, _ => none
  | f + 1, x, left => if left < tlN d j (d.to s x) then some (x, left) else pickX d j s f (x + 1) (left - tlN d j (d.to s x))
def nthW (d : Dfa) : Nat → Nat → Nat → List Nat
  | 0, _, _ => []
  | m + 1, s, left => match pickX d m s d.k 0 left with
    | some (x, l) => x :: nthW d m (d.to s x) l
    | none => []
def NthP (d : Dfa) (k : Int) (w : World) (e : Ending) (w' : World) : Prop :=
  if checkD d ≠ 0 then e = .returned (.tuple #[.slice none 0 0, .int .i64 (checkD d)]) ∧ Ext w w'
  else if k < 0 then e = .returned (.tuple #[.slice none 0 0, .int .i64 1]) ∧ Ext w w'
  else if (scan d 257 0 k.toNat).1 = 257 then ∃ c : Int, e = .returned (.tuple #[.slice none 0 0, .int .i64 c]) ∧ ((c = 7 ∧ FinD d) ∨ (c = 3 ∧ ¬ FinD d)) ∧ Ext w w'
  else ∃ v, e = .returned (.tuple #[v, .int .i64 0]) ∧ IntsC w' v ((nthW d (scan d 257 0 k.toNat).1 0 (scan d 257 0 k.toNat).2).map (fun x : Nat => (x : Int))) (scan d 257 0 k.toNat).1 ∧ Ext w w'

set_option maxRecDepth 100000 in
set_option maxHeartbeats 8000000 in
theorem Nth_any (w : World) (dv : Value) (d : Dfa) (hd : DfaV w dv d) (k : Int) (hkm : k ≤ 9223372036854775807) : Calls Tryd.prog 21 #[dv, .int .i64 k] w (NthP d k w) := by
  obtain ⟨rv, cr, av, ca, rfl, hr, ha⟩ := id hd
  obtain ⟨Ar, vr, rfl, _, _, _, _, hrm⟩ := id hr
  obtain ⟨Aa, rfl, hac, _, ham⟩ := id ha
  unfold lenMax at hrm ham
  go_enter Tryd.func21, Tryd.ntmps21
  go_wp2
  go_step3
  go_upto_region 1 with fail
  refine wp_named ?_
  intro W1 hW1
  have hE1 : Ext w W1 := by rw [hW1]; exact (Ext.refl _).alloc _
  have k0 : ∀ w', Ext W1 w' → w'.cell? ⟨w.heap.size, 0, none⟩ = some (.int .i64 d.sy) := fun w' h => h.cell (by rw [hW1]; simp [go_sem])
  have k1 : ∀ w', Ext W1 w' → w'.cell? ⟨w.heap.size, 1, none⟩ = some (.slice Ar d.rows.length cr) := fun w' h => h.cell (by rw [hW1]; simp [go_sem])
  have k2 : ∀ w', Ext W1 w' → w'.cell? ⟨w.heap.size, 2, none⟩ = some (.slice Aa d.acc.length ca) := fun w' h => h.cell (by rw [hW1]; simp [go_sem])
  clear hW1
  have hE0 := Ext.refl W1
  have hck := check_any W1 _ d (hd.ext hE1)
  by_cases hz : checkD d = 0
  rotate_left
  · have hz' : (checkD d != 0) = true := by simpa using hz
    have HZ := Lib.hid hz
    clear hz
    go_wp2_with ((with_reducible refine hck.mono ?_); rintro e w1 ⟨rfl, e1⟩)
    try rw [Exit.noGoto_ret]
    go_ret2
    unfold NthP
    rw [if_pos HZ.out]
    exact ⟨rfl, hE1.trans e1⟩
  have hga := (good_iff d).1 hz
  have HZ := Lib.hid hz
  rw [hz] at hck
  have hsz := hga.size
  have HG := Lib.hid hga
  clear hz hga
  go_upto_region 4 with ((with_reducible refine hck.mono ?_); rintro e w1 ⟨rfl, e1⟩)
  by_cases hk0 : k < 0
  · go_wp2
    try rw [Exit.noGoto_ret]
    go_ret2
    unfold NthP
    rw [if_neg (fun h => h HZ.out), if_pos hk0]
    exact ⟨rfl, hE1.trans e1⟩
  obtain ⟨kk, rfl⟩ := Int.eq_ofNat_of_zero_le (show 0 ≤ k by omega)
  have hkk : kk ≤ 9223372036854775807 := by omega
  have HP : Hid (NthP d kk w = fun e w' => if (scan d 257 0 kk).1 = 257 then ∃ c : Int, e = .returned (.tuple #[.slice none 0 0, .int .i64 c]) ∧ ((c = 7 ∧ FinD d) ∨ (c = 3 ∧ ¬ FinD d)) ∧ Ext w w'
    else ∃ v, e = .returned (.tuple #[v, .int .i64 0]) ∧ IntsC w' v ((nthW d (scan d 257 0 kk).1 0 (scan d 257 0 kk).2).map (fun x : Nat => (x : Int))) (scan d 257 0 kk).1 ∧ Ext w w') := by
    show _ = _
    funext e w'
    unfold NthP
    rw [if_neg (fun h => h HZ.out), if_neg (by omega)]
    rfl
  have ht : Calls Tryd.prog 48 #[.agg #[.int .i64 d.sy, .slice Ar d.rows.length cr, .slice Aa d.acc.length ca], .int .i64 256] w1 fun e w' => ∃ v, e = .returned v ∧ ULists w' v (tailRows d 257) d.rows.length ∧ Ext w1 w' := tails_any w1 _ d (hd.ext (hE1.trans e1)) HG.out 256 (Nat.le_refl _)
  have HT := Lib.hid ht
  have HWK := Lib.hid (wrap_u64 (kk : Int) (by omega) (by omega))
  clear hck hk0 hkm ht
  go_upto_region 7 with (go_at_call 48; (with_reducible refine HT.out.mono ?_); rintro e w3 ⟨v3, rfl, hU, e3⟩)
  have hE3 : Ext W1 w3 := e1.trans e3
  have HU := Lib.hid hU
  obtain ⟨bt, ot, _, _, ct, _, rfl, _, _⟩ := tails_at HG.out hU (show 0 < 257 by omega) (show 0 < d.rows.length by omega)
  clear hU HT
  go_wp2
  go_loop [8, 9] (fun lv nv => ∃ n left : Nat, lv = .int .u64 (left : Int) ∧ nv = .int .i64 n ∧ n ≤ 257 ∧ Hid (scan d 257 0 kk = scan d (257 - n) n left ∧ left ≤ 9223372036854775807)) (fun _ nv => 257 - (intOf nv).toNat)
  case atStart => exact ⟨0, kk, rfl, rfl, by omega, Lib.hid ⟨rfl, hkk⟩⟩
  case round =>
    obtain ⟨n, left, rfl, rfl, hn, hS⟩ := hrel
    by_cases hnl : n < 257
    · obtain ⟨b, o, b', o', c, c', hv, c1, c2⟩ := tails_at HG.out HU.out hnl (show 0 < d.rows.length by omega)
      rw [Nat.add_zero] at c2
      injection hv with hv1 hv2 hv3
      simp only [Option.some.injEq, Addr.mk.injEq] at hv1
      obtain ⟨hb1, hb2, _⟩ := hv1
      subst hb1 hb2 hv3
      have hsc : scan d (257 - n) n left = if tlN d n 0 ≤ left then scan d (257 - (n + 1)) (n + 1) (left - tlN d n 0) else (n, left) := by
        rw [show 257 - n = (257 - (n + 1)) + 1 by omega]; rfl
      have HS2 := Lib.hid hsc
      have hleft := hS.out.2
      clear hsc
      generalize tlN d n 0 = z at *
      have hnI : (n : Int) < 257 := by omega
      by_cases hzl : z ≤ left
      · have hzI : (z : Int) ≤ (left : Int) := by omega
        have HR : Hid (scan d 257 0 kk = scan d (257 - (n + 1)) (n + 1) (left - z)) := by show _ = _; rw [hS.out.1, HS2.out, if_pos hzl]
        have HW := Lib.hid (wrap_u64 ((left : Int) - (z : Int)) (by omega) (by omega))
        go_wp2
        go_round
        case rel => exact ⟨n + 1, left - z, by first | (rw [HW.out]; congr 1; omega) | (congr 1; omega), by go_num, hnl, Lib.hid ⟨HR.out, by omega⟩⟩
        case measure => simp [intOf]; omega
      · have HR : Hid (scan d 257 0 kk = (n, left)) := by show _ = _; rw [hS.out.1, HS2.out, if_neg hzl]
        have hzI : (left : Int) < (z : Int) := by omega
        have hnn : ((n : Int) == 257) = false := by simp; omega
        have hmr := mk_room n (by omega)
        have hnn2 : ¬ n = 257 := by omega
        have HN := Lib.hid (And.intro hnn2 hnl)
        have hn256 : n ≤ 256 := by omega
        clear hnn2 hzl hnl HS2
        go_upto_region 16 with fail
        refine wp_named ?_
        intro W4 hW4
        have hO4 : OwnL w3 W4 [.row 3 1 (.slice (some ⟨w3.heap.size, 0, none⟩) 0 n) 0 (([] : List Int).map (.int .i64))] := by
          rw [hW4]
          exact (OwnL.nil (Ext.refl w3)).add (alloc_ext _ _) (A := .row 3 1 (.slice (some ⟨w3.heap.size, 0, none⟩) 0 n) 0 []) (own_room _ 3 n _ (by omega))
        clear hW4 hmr hnI hnn hzI c1 c2
        generalize w3.heap.size = gw at *
        go_wp2
        go_step3
        go_wp2
        obtain ⟨i3, hi3, hz3, hs3, hb3⟩ := info_parts int_info
        go_loopg [8, 10, 11] n (fun gk lv wv sv wr => ∃ (s lf : Nat) (pre : List Nat), lv = .int .u64 (lf : Int) ∧ sv = .int .i64 s ∧ s < d.rows.length ∧ wv = .slice (some ⟨gw, 0, none⟩) pre.length n ∧ gk + pre.length = n ∧ Hid (nthW d n 0 left = pre ++ nthW d gk s lf) ∧ lf ≤ 9223372036854775807 ∧ OwnL w3 wr [.row 3 1 (.slice (some ⟨gw, 0, none⟩) pre.length n) pre.length ((pre.map (fun x : Nat => (x : Int))).map (.int .i64))])
        case atStart => exact ⟨0, left, [], rfl, rfl, by omega, rfl, rfl, Lib.hid rfl, hleft, hO4⟩
        case round =>
          clear hO4
          obtain ⟨s, lf, pre, rfl, rfl, hs, rfl, hgk, hW, hlf, hO⟩ := hrel
          obtain ⟨W5, hW5⟩ : ∃ W, W = wr := ⟨_, rfl⟩; subst hW5
          have hsz3 := hO.ext.size
          cases gk with
          | zero =>
            have hpn : pre.length = n := by omega
            have hnw : nthW d n 0 left = pre := by rw [hW.out]; show pre ++ [] = pre; simp
            have hints : IntsC W5 (.slice (some ⟨gw, 0, none⟩) pre.length n) ((nthW d n 0 left).map (fun x : Nat => (x : Int))) n := by
              rw [hnw]
              obtain ⟨A, c, hv, h1, h2⟩ := cells_of_owns (hO.get 0 rfl)
              injection hv with hv1 hv2 hv3
              subst hv1 hv3
              exact ⟨_, by rw [List.length_map], h2, by rw [List.length_map]; exact h1, by rw [List.length_map]; unfold lenMax; omega⟩
            have HF := Lib.hid (And.intro hints (hE1.trans (hE3.trans hO.ext)))
            have HNN := Lib.hid hgk
            have hpI : ¬ (pre.length : Int) < (n : Int) := by omega
            clear hints hnw hpn hgk hO
            go_wp2
            try rw [Exit.noGoto_ret]
            go_ret2
            rw [HP.out]
            simp only
            rw [HR.out, if_neg HN.out.1]
            exact ⟨_, rfl, HF.out.1, HF.out.2⟩
          | succ m =>
            have hpI : (pre.length : Int) < (n : Int) := by omega
            have hpn : pre.length < n := by omega
            obtain ⟨b, o, u, c9, hv, _, c3, hi⟩ := hr.at_ hs
            injection hv with hv; subst hv
            have c3 := (hE1.trans (hE3.trans hO.ext)).cell c3
            have kk1 := k1 W5 (hE3.trans hO.ext)
            have hrl := HG.out.row hs
            have hcell : ∀ x (hx : x < d.rows[s].length), d.rows[s][x] = (d.to s x : Int) ∧ d.to s x < d.rows.length := fun x hx => HG.out.cell hs hx
            have HC := Lib.hid (And.intro hrl (And.intro hcell hgk))
            have hk16 := HG.out.kk.2.2
            have hm256 : m < 257 := by omega
            clear hcell
            generalize d.rows[s] = row at *
            obtain ⟨A2, rfl, hi2, _, him⟩ := hi
            rw [hrl] at c3
            clear hrl him hgk
            go_wp2
            go_loopg [8, 10, 11, 68] d.k (fun gi lv wv sv xv wr => ∃ x lf2 : Nat, wv = .slice (some ⟨gw, 0, none⟩) pre.length n ∧ sv = .int .i64 (s : Int) ∧ lv = .int .u64 (lf2 : Int) ∧ xv = .int .i64 x ∧ gi + x = d.k ∧ Hid (pickX d m s d.k 0 lf = pickX d m s gi x lf2) ∧ lf2 ≤ 9223372036854775807 ∧ OwnL w3 wr [.row 3 1 (.slice (some ⟨gw, 0, none⟩) pre.length n) pre.length ((pre.map (fun x : Nat => (x : Int))).map (.int .i64))])
            case atStart => exact ⟨0, lf, rfl, rfl, rfl, rfl, rfl, Lib.hid rfl, hlf, hO⟩
            case round =>
              clear hO
              rename_i gk0
              obtain ⟨x, lf2, rfl, rfl, rfl, rfl, hgx, hpk, hlf2, hO⟩ := hrel
              obtain ⟨W6, hW6⟩ : ∃ W, W = wr := ⟨_, rfl⟩; subst hW6
              cases gk with
              | zero =>
                have hxk : x = d.k := by omega
                have hnone : pickX d m s d.k 0 lf = none := hpk.out
                have hnw : nthW d n 0 left = pre := by
                  rw [hW.out]
                  show pre ++ (match pickX d m s d.k 0 lf with | some (x, l) => x :: nthW d m (d.to s x) l | none => []) = pre
                  rw [hnone]; simp
                have hints : IntsC W6 (.slice (some ⟨gw, 0, none⟩) pre.length n) ((nthW d n 0 left).map (fun x : Nat => (x : Int))) n := by
                  rw [hnw]
                  obtain ⟨A, c, hv, h1, h2⟩ := cells_of_owns (hO.get 0 rfl)
                  injection hv with hv1 hv2 hv3
                  subst hv1 hv3
                  exact ⟨_, by rw [List.length_map], h2, by rw [List.length_map]; exact h1, by rw [List.length_map]; unfold lenMax; omega⟩
                have HF := Lib.hid (And.intro hints (hE1.trans (hE3.trans hO.ext)))
                have hxI : ¬ (x : Int) < (d.k : Int) := by omega
                clear hints hnw hO hnone
                go_wp2
                try rw [Exit.noGoto_ret]
                go_ret2
                rw [HP.out]
                simp only
                rw [HR.out, if_neg HN.out.1]
                exact ⟨_, rfl, HF.out.1, HF.out.2⟩
              | succ gi =>
                have hxl : x < d.k := by omega
                have hxr : x < row.length := by have := HC.out.1; omega
                obtain ⟨b2, o2, rfl, _, c5⟩ := (hi2.ext (hE1.trans (hE3.trans hO.ext))).at_int hxr
                obtain ⟨h5, h6⟩ := HC.out.2.1 x hxr
                rw [h5] at c5
                obtain ⟨b9, o9, b'', o'', c9', c'', hv, e1', e2'⟩ := tails_at HG.out (HU.out.ext hO.ext) hm256 h6
                injection hv with hv1 hv2 hv3
                simp only [Option.some.injEq, Addr.mk.injEq] at hv1
                obtain ⟨hb1, hb2, _⟩ := hv1
                subst hb1 hb2 hv3
                have hpx : pickX d m s (gi + 1) x lf2 = if lf2 < tlN d m (d.to s x) then some (x, lf2) else pickX d m s gi (x + 1) (lf2 - tlN d m (d.to s x)) := rfl
                have HPX := Lib.hid (And.intro hpx (And.intro hgx h6))
                have hxI : (x : Int) < (d.k : Int) := by omega
                have htI : (d.to s x : Int) < (d.rows.length : Int) := by omega
                have hmI : (m : Int) < 257 := by omega
                have hown := hO.get 0 rfl
                have HOO := Lib.hid hO
                have hszb := hO.ext.size
                have HHN := Lib.hid (tlN_le d m (d.to s x))
                clear h5 h6 hpx hgx hO
                generalize htt : d.to s x = t at *
                have HTT := Lib.hid htt
                generalize tlN d m t = z2 at *
                obtain ⟨q, hq⟩ : ∃ q : Int, q = (m : Int) + 1 := ⟨_, rfl⟩
                have hq0 : (n : Int) - (pre.length : Int) = q := by have := HC.out.2.2; omega
                have hq1 : q - 1 = (m : Int) := by omega
                have hqb : (0 : Int) ≤ q ∧ q ≤ 1000 := by omega
                by_cases hlz : lf2 < z2
                · have hlI : (lf2 : Int) < (z2 : Int) := by omega
                  have hpk2 : pickX d m s d.k 0 lf = some (x, lf2) := by rw [hpk.out, HPX.out.1, if_pos hlz]
                  have hnw : nthW d n 0 left = (pre ++ [x]) ++ nthW d m t lf2 := by
                    rw [hW.out, List.append_assoc, ← HTT.out]
                    show pre ++ (match pickX d m s d.k 0 lf with | some (x, l) => x :: nthW d m (d.to s x) l | none => []) = pre ++ (x :: nthW d m (d.to s x) lf2)
                    rw [hpk2]
                  have HNW := Lib.hid hnw
                  clear hq htt hpk2 hnw
                  go_wp2_with (at_builtin; refine wpList_append_room2 rfl _ _ 31 rfl w3.heap.size 3 i3 (.int .i64 0) 1 8 Tryd.underlying31 hi3 hz3 hs3 hb3 rfl (by decide) gw pre.length n _ rfl (World.ownsRow.alloc hown _) ⟨W6.heap.size, 0, none⟩ 1 1 [.int .i64 (x : Int)] rfl rfl (new_cell _ _ _ _ rfl) (one_int _) (by omega) (by unfold maxLen; omega) (by omega) (by simp; omega) ?_; intro w7 hown7 hg7)
                  have hO8 := (HOO.out.trans (alloc_ext W6 _)).app 0 rfl hg7 hown7 (fun b hb => .inl hb)
                  clear hq0 hq1
                  go_roundg m
                  case rel =>
                    refine ⟨t, lf2, pre ++ [x], rfl, rfl, HPX.out.2.2, by rw [List.length_append]; rfl, by rw [List.length_append]; have := HC.out.2.2; simp; omega, HNW, hlf2, ?_⟩
                    rw [List.length_append, List.map_append, List.map_append]
                    exact hO8
                  case measure => omega
                · have hlI : (z2 : Int) ≤ (lf2 : Int) := by omega
                  have hpk2 : pickX d m s d.k 0 lf = pickX d m s gi (x + 1) (lf2 - z2) := by rw [hpk.out, HPX.out.1, if_neg hlz]
                  have HPK := Lib.hid hpk2
                  have HW := Lib.hid (wrap_u64 ((lf2 : Int) - (z2 : Int)) (by omega) (by omega))
                  clear hq htt hpk2
                  go_wp2
                  clear hq0 hq1
                  go_roundg gi
                  case rel => exact ⟨x + 1, lf2 - z2, rfl, rfl, by first | (rw [HW.out]; congr 1; omega) | (congr 1; omega), by go_num, by have := HPX.out.2.1; omega, HPK, by omega, HOO.out⟩
                  case measure => omega
    · obtain rfl : n = 257 := by omega
      have HR : Hid (scan d 257 0 kk = (257, left)) := hS.out.1
      have HF := Lib.hid (finite_any w3 _ d (hd.ext (hE1.trans hE3)) HG.out)
      clear hn hnl hS
      go_wp2_with fail
      refine HF.out.mono ?_
      rintro e w4 ⟨b, rfl, hb, e4⟩
      cases b with
      | true =>
        have HB := Lib.hid (hb.1 rfl)
        clear hb
        go_wp2
        try rw [Exit.noGoto_ret]
        go_ret2
        rw [HP.out]
        simp only
        rw [HR.out, if_pos rfl]
        exact ⟨7, rfl, .inl ⟨rfl, HB.out⟩, hE1.trans (hE3.trans e4)⟩
      | false =>
        have hnf : ¬ FinD d := fun h => Bool.false_ne_true (hb.2 h)
        have HB := Lib.hid hnf
        clear hnf
        clear hb
        go_wp2
        try rw [Exit.noGoto_ret]
        go_ret2
        rw [HP.out]
        simp only
        rw [HR.out, if_pos rfl]
        exact ⟨3, rfl, .inr ⟨rfl, HB.out⟩, hE1.trans (hE3.trans e4)⟩
end Go.Proofs.YthlnmcokgfpgmaaDoor
