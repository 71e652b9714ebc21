/- games.CheckAttack: the recursion over the states that plays take. -/
import Derived.Test.YteadkafeabhhhaaE1
import Derived.Laws.EntriesVeiled
namespace Go.Proofs.Yteadkafeabhhhaa
open Go.RowKit
set_option linter.unusedVariables false
set_option linter.unusedSimpArgs false
attribute [local go_sem] Oper.quietV quietV Oper.gives givesV ext_refl_iff ext_alloc_iff ext_drew_iff ext_drewN_iff

def sucM (row : List Int) : List Nat := (row.filter (· != -1)).map Int.toNat
def grM (M : List (List Int)) (set : List Bool) : Gr := { n := M.length, sc := fun s => sucM (M.getD s []), turn := fun _ => false, goal := fun s => set.getD s false }
theorem sucM_none {row : List Int} {i : Nat} (hi : i < row.length) (h : row[i] = -1) : sucM (row.take (i + 1)) = sucM (row.take i) := by
  unfold sucM; rw [List.take_succ_eq_append_getElem hi, List.filter_append]; simp [h]
theorem sucM_some {row : List Int} {i : Nat} (hi : i < row.length) (h : row[i] ≠ -1) : sucM (row.take (i + 1)) = sucM (row.take i) ++ [row[i].toNat] := by
  unfold sucM; rw [List.take_succ_eq_append_getElem hi, List.filter_append]; simp [h]
theorem sucM_le (row : List Int) : (sucM row).length ≤ row.length := by unfold sucM; rw [List.length_map]; exact List.length_filter_le _ _

/-- What is known of the states that are begun (1) and of those that are done (2). -/
structure StInv (n : Nat) (r : Nat → Int) (st : List Int) : Prop where
  len : st.length = n
  val : ∀ t, t < n → st.getD t 0 = 0 ∨ st.getD t 0 = 1 ∨ st.getD t 0 = 2
  good : ∀ t, t < n → st.getD t 0 = 2 → 0 ≤ r t
def zeros (st : List Int) : Nat := st.count 0
theorem zeros_set {st : List Int} {s : Nat} (hs : s < st.length) (h : st.getD s 0 = 0) {x : Int} (hx : x ≠ 0) : zeros (st.set s x) + 1 = zeros st := by
  unfold zeros
  have h0 : st[s] = 0 := by simpa [List.getD, hs] using h
  rw [List.count_set hs, h0]
  have hp : 0 < st.count 0 := List.count_pos_iff.2 (h0 ▸ List.getElem_mem hs)
  have e : (x == (0 : Int)) = false := by simpa using hx
  rw [e]; simp; omega
theorem zeros_set2 {st : List Int} {s : Nat} (hs : s < st.length) {x : Int} (hx : x ≠ 0) : zeros (st.set s x) ≤ zeros st := by
  unfold zeros
  rw [List.count_set hs]
  have e : (x == (0 : Int)) = false := by simpa using hx
  rw [e]; simp
def Opens (n : Nat) (st st' : List Int) : Prop := ∀ t, t < n → (st'.getD t 0 = 1 ↔ st.getD t 0 = 1)
/-- What the recursion says of a state s, beginning at st. -/
def ComesP (n : Nat) (r : Nat → Int) (st : List Int) (s : Nat) (b : Bool) (st' : List Int) : Prop :=
  st'.length = n ∧ (b = true → 0 ≤ r s ∧ StInv n r st' ∧ Opens n st st' ∧ zeros st' ≤ zeros st) ∧ ((0 ≤ r s ∧ ∀ t, t < n → st.getD t 0 = 1 → r t = -1 ∨ r s < r t) → b = true)

structure MEnv where
  n : Nat
  M : List (List Int)
  set : List Bool
  bg : Nat
  bs : Nat
  br : Nat
  bc : Nat
  gs : Nat
  gm : Nat
  vm : List Value
def MEnv.cap (E : MEnv) : Array Value := #[.pointer (some ⟨E.bg, 0, none⟩), .pointer (some ⟨E.bs, 0, none⟩), .pointer (some ⟨E.br, 0, none⟩), .pointer (some ⟨E.bc, 0, none⟩)]
def MEnv.L (E : MEnv) (st : List Int) : List Asn :=
  [.row 3 1 (.slice (some ⟨E.gs, 0, none⟩) E.n E.n) E.n (st.map (.int .i64)), .blk E.bs (.cells #[.slice (some ⟨E.gs, 0, none⟩) E.n E.n] 37 (0, 0)), .blk E.br (.cells #[.slice (some ⟨E.gm, 0, none⟩) E.n E.n] 75 (0, 0)),
   .blk E.bc (.cells #[.func (.func 46) #[] E.cap] 77 (0, 0)), .rows 37 3 1 (.slice (some ⟨E.gm, 0, none⟩) E.vm.length E.n) E.vm (E.M.map intRow)]
structure MEnv.Ok (E : MEnv) (w : World) : Prop where
  n1 : 1 ≤ E.n ∧ E.n ≤ 64
  ml : E.M.length = E.n
  vl : E.vm.length = E.n
  rows : ∀ r ∈ E.M, r.length ≤ 16 ∧ ∀ x ∈ r, x = -1 ∨ (0 ≤ x ∧ x < E.M.length)
  box : ∃ A c, (∀ w', Ext w w' → w'.cell? ⟨E.bg, 4, none⟩ = some (.slice A E.n c)) ∧ ∀ j, j < E.n → ∃ b o, A = some ⟨b, o, none⟩ ∧ ∀ w', Ext w w' → w'.cell? ⟨b, o + j, none⟩ = some (.bool (E.set.getD j false))

set_option maxRecDepth 100000 in
set_option maxHeartbeats 4000000 in
theorem comes_any (w0 : World) (E : MEnv) (hE : E.Ok w0) (r : Nat → Int) (hr : IsRank (grM E.M E.set) r) : ∀ (k : Nat) (st : List Int) (W : World) (s : Nat), OwnL w0 W (E.L st) → StInv E.n r st → s < E.n → zeros st < k →
    Calls Try.prog 46 #[.int .i64 s, .pointer (some ⟨E.bg, 0, none⟩), .pointer (some ⟨E.bs, 0, none⟩), .pointer (some ⟨E.br, 0, none⟩), .pointer (some ⟨E.bc, 0, none⟩)] W fun e w' => ∃ b st', e = .returned (.bool b) ∧ OwnL w0 w' (E.L st') ∧ ComesP E.n r st s b st' := by
  intro k
  induction k with
  | zero => intro st W s _ _ _ h; omega
  | succ k ih =>
    intro st W s hO hI hs hz
    obtain ⟨hn, hml, hvl, hrows, Ag, cg, hbox, hset⟩ := hE
    obtain ⟨bq, oq, rfl, hsc⟩ := hset s hs
    have hEx := hO.ext
    have cbx := hbox W hEx
    have cst := hsc W hEx
    have c1 := cell_of_blk (hO.get 1 rfl).2 0 rfl
    have c2 := cell_of_blk (hO.get 2 rfl).2 0 rfl
    have c3 := cell_of_blk (hO.get 3 rfl).2 0 rfl
    have hsl : s < st.length := by rw [hI.len]; exact hs
    have c0 := cell_own hO 0 rfl (ints_get hsl)
    have f0 := free_own (e := 3) hO 0 rfl s
    have hsI : (s : Int) < (E.n : Int) := by omega
    have hn64 := hn.2
    have HX := Lib.hid (And.intro hml (And.intro hvl hrows))
    have HSET := Lib.hid hset
    clear hsc hset
    have HI := Lib.hid hI
    have hgoal : (grM E.M E.set).goal s = E.set.getD s false := rfl
    have hsg : s < (grM E.M E.set).n := by show s < E.M.length; omega
    have hv := hI.val s hs
    have HV := Lib.hid hv
    clear hml hvl hrows hI hgoal hv
    generalize hx : st.getD s 0 = x at *
    have HXX := Lib.hid hx
    clear hx
    cases hg : E.set.getD s false with
    | true =>
      rw [hg] at cst
      have h0 : r s = 0 := hr.goal s hsg hg
      have H0 := Lib.hid h0
      clear h0 hg
      go_enter Try.func46, Try.ntmps46
      go_wp2
      go_ret
      exact ⟨true, st, rfl, hO, HI.out.len, fun _ => ⟨by rw [H0.out]; omega, HI.out, fun t _ => Iff.rfl, Nat.le_refl _⟩, fun _ => rfl⟩
    | false =>
      rw [hg] at cst
      have HG := Lib.hid hg
      clear hg
      by_cases h2 : x = 2
      · have h2' : (x == 2) = true := by simp [h2]
        have H2 := Lib.hid h2
        clear h2
        go_enter Try.func46, Try.ntmps46
        go_wp2
        go_ret
        exact ⟨true, st, rfl, hO, HI.out.len, fun _ => ⟨HI.out.good s hs (by rw [HXX.out, H2.out]), HI.out, fun t _ => Iff.rfl, Nat.le_refl _⟩, fun _ => rfl⟩
      have h2' : (x == 2) = false := by simpa using h2
      by_cases h1 : x = 1
      · have h1' : (x == 1) = true := by simp [h1]
        have H1 := Lib.hid h1
        clear h1 h2
        go_enter Try.func46, Try.ntmps46
        go_wp2
        go_ret
        refine ⟨false, st, rfl, hO, HI.out.len, (fun h => by cases h), fun ⟨h3, h4⟩ => ?_⟩
        have := h4 s hs (by rw [HXX.out, H1.out])
        omega
      have h1' : (x == 1) = false := by simpa using h1
      have hx0 : x = 0 := by have := HV.out; omega
      have HX0 := Lib.hid hx0
      clear h1 h2 hx0
      go_enter Try.func46, Try.ntmps46
      have hOs : OwnL w0 (W.setCell ⟨E.gs, s, none⟩ (.int .i64 1)) (E.L (st.set s 1)) := by
        have h1 := hO.store 0 rfl s (.int .i64 1)
        rw [← List.map_set] at h1
        exact h1
      have hIs : StInv E.n r (st.set s 1) := by
        refine ⟨by rw [List.length_set]; exact HI.out.len, fun t ht => ?_, fun t ht h => ?_⟩
        · rw [getD_set _ _ _ _ _ hsl]; split
          · exact .inr (.inl rfl)
          · exact HI.out.val t ht
        · rw [getD_set _ _ _ _ _ hsl] at h
          split at h
          · cases h
          · exact HI.out.good t ht h
      have hzs := zeros_set hsl (by rw [HXX.out, HX0.out]) (x := 1) (by decide)
      have HZ := Lib.hid hzs
      have HIS := Lib.hid hIs
      have HOS := Lib.hid hOs
      clear hzs hIs hOs
      go_upto_region 6 with fail
      refine wp_named ?_
      intro W2 hW2
      have hO2 : OwnL w0 W2 (E.L (st.set s 1)) := by rw [hW2]; exact HOS.out
      clear hW2 cst cbx c0 f0 c1 c2 c3 hEx hO
      obtain ⟨row, hrow⟩ : ∃ row, row = E.M.getD s [] := ⟨_, rfl⟩
      have hsM : s < E.M.length := by rw [HX.out.1]; exact hs
      have hrm : row ∈ E.M := by
        rw [hrow, show E.M.getD s [] = E.M[s] by simp [List.getD, hsM]]
        exact List.getElem_mem hsM
      have hrk := HX.out.2.2 row hrm
      have hvs : s < E.vm.length := by rw [HX.out.2.1]; exact hs
      have hx5 := List.getElem?_eq_getElem hvs
      have hrr : (E.M.map intRow)[s]? = some (intRow row) := by rw [hrow]; simp [List.getD, show s < E.M.length by rw [HX.out.1]; exact hs]
      have hown : W2.ownsRow w0.heap.size 3 1 E.vm[s] row.length (row.map (.int .i64)) := OwnRows.each (hO2.get 4 rfl) _ _ _ hx5 hrr
      have q1 := cell_rows hO2 4 rfl hx5
      have c1 := cell_of_blk (hO2.get 1 rfl).2 0 rfl
      have c2 := cell_of_blk (hO2.get 2 rfl).2 0 rfl
      have c3 := cell_of_blk (hO2.get 3 rfl).2 0 rfl
      have HX5 := Lib.hid (And.intro hx5 hrr)
      clear hx5 hrr
      generalize E.vm[s] = xu at *
      obtain ⟨Ax, cx, rfl, _, _⟩ := cells_of_owns hown
      obtain ⟨L, hLe⟩ : ∃ L, L = row.length := ⟨_, rfl⟩
      rw [← hLe] at q1 HX5
      have HLE := Lib.hid (And.intro hLe hrow)
      have hL16 : L ≤ 16 := by have := hrk.1; omega
      have HRK := Lib.hid hrk
      clear hLe hrow hrk hown hrm
      have hE2 := hO2.ext
      have hsc2 : Hid ((grM E.M E.set).sc s = sucM row) := by show sucM (E.M.getD s []) = _; rw [HLE.out.2]
      go_wp2
      go_loopw [35, 7] (fun iv mv wr => ∃ (j : Nat) (stj : List Int) (m : Nat), iv = .int .i64 j ∧ j ≤ L ∧ mv = .int .i64 (m : Int) ∧ m ≤ j ∧ Hid (m = (sucM (row.take j)).length ∧ (∀ u ∈ sucM (row.take j), 0 ≤ r u) ∧ StInv E.n r stj ∧ Opens E.n (st.set s 1) stj ∧ zeros stj ≤ zeros (st.set s 1)) ∧ Ext w0 wr ∧ OwnL w0 wr (E.L stj)) (fun iv _ _ => L - (intOf iv).toNat)
      case atStart => exact ⟨0, _, 0, rfl, by omega, rfl, by omega, ⟨rfl, (fun u hu => by simp [sucM] at hu), HIS.out, (fun t _ => Iff.rfl), Nat.le_refl _⟩, hE2, hO2⟩
      case round =>
        clear hO2 hE2 q1 c1 c2 c3
        obtain ⟨j, stj, mm, rfl, hj, rfl, hmj, hH, hE3, hO⟩ := hrel
        obtain ⟨W3, hW3⟩ : ∃ W, W = wr := ⟨_, rfl⟩; subst hW3
        have c1 := cell_of_blk (hO.get 1 rfl).2 0 rfl
        have c3 := cell_of_blk (hO.get 3 rfl).2 0 rfl
        by_cases hjL : j < L
        · have hjr : j < row.length := by rw [← HLE.out.1]; exact hjL
          have hown : W3.ownsRow w0.heap.size 3 1 (.slice Ax L cx) row.length (row.map (.int .i64)) := OwnRows.each (hO.get 4 rfl) _ _ _ HX5.out.1 HX5.out.2
          obtain ⟨gx, cx', hv⟩ := ownsRow_pos hown (by omega)
          obtain rfl : Ax = some ⟨gx, 0, none⟩ := by injection hv
          clear hv cx'
          have ct := hown.cells (g := gx) rfl j (.int .i64 row[j]) (by simp [hjr])
          rw [Addr.add_lit, Nat.zero_add] at ct
          have hto := HRK.out.2 _ (List.getElem_mem hjr)
          have hno := sucM_none hjr
          have hso := sucM_some hjr
          generalize row[j] = tx at *
          have HNO := Lib.hid hno
          have HSO := Lib.hid hso
          have hjI : (j : Int) < (L : Int) := by omega
          clear hno hso hown
          by_cases hx1 : tx = -1
          · have hb : (tx == -1) = true := by simp [hx1]
            have HX1 := Lib.hid hx1
            clear hx1
            go_wp2
            go_roundw
            case rel => exact ⟨j + 1, stj, mm, by go_num, by omega, rfl, by omega, (by rw [HNO.out HX1.out]; exact hH), hE3, hO⟩
            case measure => simp [intOf]; omega
          · have hb : (tx == -1) = false := by simpa using hx1
            obtain ⟨u, rfl⟩ := Int.eq_ofNat_of_zero_le (show 0 ≤ tx by omega)
            have hun : u < E.n := by have := HX.out.1; omega
            have hs2 := HSO.out hx1
            rw [Int.toNat_natCast] at hs2
            have HS2 := Lib.hid hs2
            have hzk : zeros stj < k := by have h1 := hH.out.2.2.2.2; have h2 := HZ.out; omega
            have hcall := ih stj W3 u hO hH.out.2.2.1 hun hzk
            clear hx1 hs2 hb hzk
            have hb : ((u : Int) == -1) = false := by rw [beq_eq_false_iff_ne]; omega
            have hcap : E.cap = #[.pointer (some ⟨E.bg, 0, none⟩), .pointer (some ⟨E.bs, 0, none⟩), .pointer (some ⟨E.br, 0, none⟩), .pointer (some ⟨E.bc, 0, none⟩)] := rfl
            rw [hcap] at c3
            go_wp2_with ((with_reducible refine hcall.mono ?_); rintro e w5 ⟨b, st5, rfl, hO5, hC5⟩; cases b)
            · go_ret
              refine ⟨false, st5, rfl, hO5, hC5.1, (fun h => by cases h), fun ⟨h3, h4⟩ => ?_⟩
              have h5 : r s ≠ 0 := fun h => by
                have hlow := hr.low s hsg (by show E.set.getD s false = false; exact HG.out)
                omega
              have humem : u ∈ (grM E.M E.set).sc s := by
                rw [hsc2.out]
                have h6 : sucM (row.take (j + 1)) = sucM (row.take j) ++ [u] := HS2.out
                have h7 : u ∈ sucM (row.take (j + 1)) := by rw [h6]; simp
                unfold sucM at h7 ⊢
                obtain ⟨x, hx, hxu⟩ := List.mem_map.1 h7
                obtain ⟨hx1, hx2⟩ := List.mem_filter.1 hx
                exact List.mem_map.2 ⟨x, List.mem_filter.2 ⟨List.mem_of_mem_take hx1, hx2⟩, hxu⟩
              have h8 := (hr.their1 s hsg (by show E.set.getD s false = false; exact HG.out) rfl (r s - 1) (by omega) (by omega)).2 u humem
              have h9 := hC5.2.2 ⟨h8.1, fun t ht hto => by
                have hop := (hH.out.2.2.2.1 t ht).1 hto
                rw [getD_set _ _ _ _ _ hsl] at hop
                by_cases hts : t = s
                · subst hts; exact .inr (by omega)
                · rw [if_neg hts] at hop
                  rcases h4 t ht hop with h10 | h10
                  · exact .inl h10
                  · exact .inr (by omega)⟩
              cases h9
            · obtain ⟨h1, h2, h3, h4⟩ := hC5.2.1 rfl
              go_roundw
              case rel =>
                refine ⟨j + 1, st5, mm + 1, by go_num, by omega, by go_num, by omega, ?_, hO5.ext, hO5⟩
                have h6 : sucM (row.take (j + 1)) = sucM (row.take j) ++ [u] := HS2.out
                show _ ∧ _ ∧ _ ∧ _ ∧ _
                rw [h6]
                refine ⟨by rw [List.length_append, ← hH.out.1]; rfl, fun v hv => ?_, h2, fun t ht => (h3 t ht).trans (hH.out.2.2.2.1 t ht), Nat.le_trans h4 hH.out.2.2.2.2⟩
                rcases List.mem_append.1 hv with hv | hv
                · exact hH.out.2.1 v hv
                · simp at hv; subst hv; exact h1
              case measure => simp [intOf]; omega
        · have hje : j = row.length := by rw [← HLE.out.1]; omega
          have hH2 := hH.out
          rw [hje, List.take_length] at hH2
          have HH2 := Lib.hid hH2
          have hsj : s < stj.length := by rw [hH2.2.2.1.len]; exact hs
          have c0 := cell_own hO 0 rfl (ints_get hsj)
          have f0 := free_own (e := 3) hO 0 rfl s
          have hOs : OwnL w0 (W3.setCell ⟨E.gs, s, none⟩ (.int .i64 2)) (E.L (stj.set s 2)) := by
            have h1 := hO.store 0 rfl s (.int .i64 2)
            rw [← List.map_set] at h1
            exact h1
          have HOS2 := Lib.hid hOs
          have hgs0 : (grM E.M E.set).goal s = false := HG.out
          have HGS := Lib.hid hgs0
          clear hje hH2 hOs hgs0
          by_cases hm0 : 0 < mm
          · have hd : decide (0 < (mm : Int)) = true := by simpa using hm0
            go_wp2
            go_ret
            have hrs : 0 ≤ r s := by
              rcases hr.low s hsg HGS.out with h1 | h1
              · rcases hr.their0 s hsg HGS.out rfl h1 with h2 | ⟨u, hu, h2⟩
                · rw [hsc2.out] at h2
                  have := HH2.out.1
                  rw [h2] at this; simp at this; omega
                · rw [hsc2.out] at hu
                  have := HH2.out.2.1 u hu; omega
              · omega
            refine ⟨true, stj.set s 2, rfl, HOS2.out, by rw [List.length_set]; exact HH2.out.2.2.1.len, fun _ => ⟨hrs, ?_, fun t ht => ?_, ?_⟩, fun _ => rfl⟩
            · refine ⟨by rw [List.length_set]; exact HH2.out.2.2.1.len, fun t ht => ?_, fun t ht h => ?_⟩
              · rw [getD_set _ _ _ _ _ hsj]; split
                · exact .inr (.inr rfl)
                · exact HH2.out.2.2.1.val t ht
              · rw [getD_set _ _ _ _ _ hsj] at h
                by_cases hts : t = s
                · subst hts; exact hrs
                · rw [if_neg hts] at h; exact HH2.out.2.2.1.good t ht h
            · rw [getD_set _ _ _ _ _ hsj]
              by_cases hts : t = s
              · subst hts
                rw [if_pos rfl, HXX.out, HX0.out]; decide
              · rw [if_neg hts, HH2.out.2.2.2.1 t ht, getD_set _ _ _ _ _ hsl, if_neg hts]
            · have h1 := zeros_set2 hsj (x := 2) (by decide)
              have h2 := HH2.out.2.2.2.2
              have h3 := HZ.out
              omega
          · have hd : decide (0 < (mm : Int)) = false := by simpa using hm0
            have HM0 := Lib.hid hm0
            go_wp2
            go_ret
            refine ⟨false, stj.set s 2, rfl, HOS2.out, by rw [List.length_set]; exact HH2.out.2.2.1.len, (fun h => by cases h), fun ⟨h3, h4⟩ => ?_⟩
            have hlow := hr.low s hsg HGS.out
            obtain ⟨⟨u, hu, _⟩, _⟩ := hr.their1 s hsg HGS.out rfl (r s - 1) (by omega) (by omega)
            rw [hsc2.out] at hu
            have h5 := HH2.out.1
            have h6 := List.length_pos_of_mem hu
            have := HM0.out
            omega
theorem perm5 {α : Type} (a b c d e : α) : [a, b, c, d, e].Perm [c, b, d, a, e] :=
  (List.Perm.swap _ _ _).trans (((List.Perm.swap _ _ _).cons _).trans ((List.Perm.swap _ _ _).trans (((List.Perm.swap _ _ _).cons _).cons _)))
def wins (M : List (List Int)) (set : List Bool) : Bool := decide (0 ≤ (forceL (grM M set) M.length).getD 0 0)
def atRes (g : Game) (l : List Int) : Bool × Int :=
  if checkG g ≠ 0 then (false, checkG g) else if stratE g l ≠ 0 then (false, stratE g l) else (wins (folL g l) g.set, 0)
theorem grM_ok {M : List (List Int)} (set : List Bool) (h : ∀ r ∈ M, r.length ≤ 16 ∧ ∀ x ∈ r, x = -1 ∨ (0 ≤ x ∧ x < M.length)) : (grM M set).Ok := fun s hs u hu => by
  have hs : s < M.length := hs
  have hu : u ∈ sucM (M.getD s []) := hu
  rw [show M.getD s [] = M[s] by simp [List.getD, hs]] at hu
  unfold sucM at hu
  obtain ⟨x, hx, rfl⟩ := List.mem_map.1 hu
  obtain ⟨hx1, hx2⟩ := List.mem_filter.1 hx
  have h2 := (h _ (List.getElem_mem hs)).2 x hx1
  have h3 : x ≠ -1 := by simpa using hx2
  show x.toNat < M.length
  omega

set_option maxRecDepth 100000 in
set_option maxHeartbeats 4000000 in
theorem CheckAttack_any (w : World) (gv lv : Value) (g : Game) (hg : GameV w gv g) (l : List Int) (cl : Nat) (hl : IntsC w lv l cl) :
    Calls Try.prog 21 #[gv, lv] w fun e w' => e = .returned (.tuple #[.bool (atRes g l).1, .int .i64 (atRes g l).2]) ∧ Ext w w' := by
  have hg0 := hg
  obtain ⟨rv, cr, ov, co, sv, cs, rfl, hr, ho, hs⟩ := hg
  obtain ⟨Ar, vr, rfl, _, _, _, _, hrm⟩ := id hr
  obtain ⟨Ao, rfl, hoc, _, hom⟩ := id ho
  obtain ⟨As, rfl, hsc, _, hsm⟩ := id hs
  unfold lenMax at hrm hom hsm
  go_enter Try.func21, Try.ntmps21
  go_upto_region 1 with fail
  refine wp_named ?_
  intro W1 hW1
  have hE1 : Ext w W1 := by rw [hW1]; exact (Ext.refl _).alloc _
  have k0 : ∀ w', Ext W1 w' → w'.cell? ⟨w.heap.size, 0, none⟩ = some (.int .i64 g.m.ins) := fun w' h => h.cell (by rw [hW1]; simp [go_sem])
  have k1 : ∀ w', Ext W1 w' → w'.cell? ⟨w.heap.size, 1, none⟩ = some (.int .i64 g.m.outs) := fun w' h => h.cell (by rw [hW1]; simp [go_sem])
  have k2 : ∀ w', Ext W1 w' → w'.cell? ⟨w.heap.size, 2, none⟩ = some (.slice Ar g.m.rows.length cr) := fun w' h => h.cell (by rw [hW1]; simp [go_sem])
  have k3 : ∀ w', Ext W1 w' → w'.cell? ⟨w.heap.size, 3, none⟩ = some (.slice Ao g.ours.length co) := fun w' h => h.cell (by rw [hW1]; simp [go_sem])
  have k4 : ∀ w', Ext W1 w' → w'.cell? ⟨w.heap.size, 4, none⟩ = some (.slice As g.set.length cs) := fun w' h => h.cell (by rw [hW1]; simp [go_sem])
  clear hW1
  have hE0 := Ext.refl W1
  have hck := gcheck_any W1 _ g (hg0.ext hE1)
  by_cases hz : checkG g = 0
  rotate_left
  · have hz' : (checkG g != 0) = true := by simpa using hz
    have HZ := Lib.hid hz
    clear hz
    go_wp2_with ((with_reducible refine hck.mono ?_); rintro e w2 ⟨rfl, hE2⟩)
    go_ret2
    refine ⟨?_, hE1.trans hE2⟩
    unfold atRes; rw [if_pos HZ.out]; rfl
  rw [hz] at hck
  have hF := (fine_iff g).1 hz
  have HZ := Lib.hid hz
  have HF := Lib.hid hF
  clear hz hF
  go_upto_region 2 with ((with_reducible refine hck.mono ?_); rintro e w2 ⟨rfl, hE2⟩)
  clear hck
  have hE12 := hE1.trans hE2
  have hva := valid_any w2 _ _ g (hg0.ext hE12) HF.out l cl (hl.ext hE12)
  by_cases hz : stratE g l = 0
  rotate_left
  · have hz' : (stratE g l != 0) = true := by simpa using hz
    have HZ2 := Lib.hid hz
    clear hz
    go_wp2_with ((with_reducible refine hva.mono ?_); rintro e w3 ⟨rfl, hE3⟩)
    go_ret2
    refine ⟨?_, hE12.trans hE3⟩
    unfold atRes; rw [if_neg (fun h => h HZ.out), if_pos HZ2.out]; rfl
  rw [hz] at hva
  have HZ2 := Lib.hid hz
  have hll : l.length = g.m.rows.length := by
    apply Classical.byContradiction
    intro h
    have : stratE g l = 16 := if_pos h
    omega
  clear hz
  go_upto_region 5 with ((with_reducible refine hva.mono ?_); rintro e w3 ⟨rfl, hE3⟩)
  clear hva
  have hE13 := hE12.trans hE3
  have hE23 := hE2.trans hE3
  have hfo := follow_any w3 _ _ g (hg0.ext hE13) HF.out l cl (hl.ext hE13) hll
  have HR : Hid (atRes g l = (wins (folL g l) g.set, 0)) := by
    show _ = _
    unfold atRes
    rw [if_neg (fun h => h HZ.out), if_neg (fun h => h HZ2.out)]
  have hok := folL_ok HF.out l
  have hml : (folL g l).length = g.m.rows.length := by unfold folL; simp
  generalize folL g l = M at *
  have HML := Lib.hid (And.intro hml hll)
  clear hml hll
  have hmi := mk_ints M.length (by have := hok.2.1; omega)
  go_upto_region 11 with ((with_reducible refine hfo.mono ?_); rintro e w4 ⟨⟨rv4, rfl, gm, vm, hv4, hvl, hRows⟩, hE4⟩; subst hv4)
  clear hfo hmi
  refine wp_named ?_
  intro W7 hW7
  obtain ⟨E, hEd⟩ : ∃ E : MEnv, E = { n := M.length, M := M, set := g.set, bg := w.heap.size, bs := w4.heap.size + 1 + 1, br := w4.heap.size, bc := w4.heap.size + 1 + 1 + 1, gs := w4.heap.size + 1, gm := gm, vm := vm } := ⟨_, rfl⟩
  have hO : OwnL w3 W7 (E.L (List.replicate M.length 0)) := by
    have hO4 : OwnL w3 w4 [.rows 37 3 1 (.slice (some ⟨gm, 0, none⟩) vm.length M.length) vm (M.map intRow)] := by
      have := (OwnL.nil (Ext.refl w3)).add hE4 (A := .rows 37 3 1 (.slice (some ⟨gm, 0, none⟩) vm.length M.length) vm (M.map intRow)) (by rw [hvl]; exact hRows)
      exact this
    have n64 := hok.2.1
    have h1 := hO4.add (alloc_ext w4 (Obj.cells #[.slice (some ⟨gm, 0, none⟩) M.length M.length] 75)) (A := .blk w4.heap.size (Obj.cells #[.slice (some ⟨gm, 0, none⟩) M.length M.length] 75)) ⟨Nat.le_refl _, heap_alloc_new _ _⟩
    have h2 := h1.add (alloc_ext _ (Obj.cells (Array.replicate M.length (.int .i64 0)) 3)) (A := .row 3 1 _ M.length (List.replicate M.length (.int .i64 0))) (own_new _ (.int .i64 0) 3 M.length (by omega))
    have h3 := h2.add (alloc_ext _ (Obj.cells #[.slice (some ⟨w4.heap.size + 1, 0, none⟩) M.length M.length] 37)) (A := .blk _ (Obj.cells #[.slice (some ⟨w4.heap.size + 1, 0, none⟩) M.length M.length] 37)) ⟨Nat.le_refl _, heap_alloc_new _ _⟩
    have h4 := h3.add (alloc_ext _ (Obj.cells #[.func (.func 46) #[] E.cap] 77)) (A := .blk _ (Obj.cells #[.func (.func 46) #[] E.cap] 77)) ⟨Nat.le_refl _, heap_alloc_new _ _⟩
    rw [hW7]
    have h5 := h4.perm (L' := E.L (List.replicate M.length 0)) (by
      rw [hEd]
      simp only [MEnv.L, MEnv.cap, World.size_alloc, List.map_replicate]
      exact perm5 _ _ _ _ _)
    rw [hEd] at h5 ⊢
    exact h5
  clear hW7
  have hEn : E.n = M.length := by rw [hEd]
  have hEM : E.M = M := by rw [hEd]
  have hEs : E.set = g.set := by rw [hEd]
  have hEg : E.bg = w.heap.size := by rw [hEd]
  have hEv : E.vm = vm := by rw [hEd]
  have hOk : E.Ok w3 := by
    refine ⟨by rw [hEn]; exact ⟨hok.1, hok.2.1⟩, by rw [hEM, hEn], by rw [hEv, hEn]; exact hvl, by rw [hEM]; exact hok.2.2, As, cs, fun w' h => ?_, fun j hj => ?_⟩
    · rw [hEg, hEn]
      have := k4 w' (hE23.trans h)
      rw [HF.out.2.2, ← HML.out.1] at this
      exact this
    · rw [hEn] at hj
      have hjs : j < g.set.length := by rw [HF.out.2.2, ← HML.out.1]; exact hj
      obtain ⟨b, o, hA, _, h⟩ := (hsc.ext hE13).at_bool hjs
      exact ⟨b, o, hA, fun w' hw => by rw [hw.cell h, hEs]; simp [List.getD, hjs]⟩
  obtain ⟨r, hr, hrf⟩ := exists_rank (grM M g.set) (grM_ok g.set hok.2.2)
  have hr' : IsRank (grM E.M E.set) r := by rw [hEM, hEs]; exact hr
  have hcall := comes_any w3 E hOk r hr' (M.length + 1) (List.replicate M.length 0) W7 0 hO (by
    rw [hEn]
    refine ⟨by simp, fun t ht => .inl (by simp [List.getD, ht]), fun t ht h => ?_⟩
    simp [List.getD, ht] at h) (by rw [hEn]; exact hok.1) (by
    have h1 : zeros (List.replicate M.length (0 : Int)) ≤ M.length := by unfold zeros; simp
    omega)
  have hres : ∀ b st', ComesP E.n r (List.replicate M.length 0) 0 b st' → b = wins M g.set := fun b st' h => by
    have h0 := hrf 0 hok.1
    have h1 : wins M g.set = decide (0 ≤ r 0) := by unfold wins; rw [h0]; rfl
    rw [h1]
    cases b with
    | true => rw [decide_eq_true (h.2.1 rfl).1]
    | false =>
      rw [decide_eq_false]
      intro h2
      have := h.2.2 ⟨h2, fun t ht h3 => by rw [hEn] at ht; simp [List.getD, ht] at h3⟩
      cases this
  have hc3 : W7.cell? ⟨w4.heap.size + 1 + 1 + 1, 0, none⟩ = some (.func (.func 46) #[] #[.pointer (some ⟨w.heap.size, 0, none⟩), .pointer (some ⟨w4.heap.size + 1 + 1, 0, none⟩), .pointer (some ⟨w4.heap.size, 0, none⟩), .pointer (some ⟨w4.heap.size + 1 + 1 + 1, 0, none⟩)]) := by
    rw [hEd] at hO
    exact cell_of_blk (hO.get 3 rfl).2 0 rfl
  have hcall2 : Calls Try.prog 46 #[.int .i64 0, .pointer (some ⟨w.heap.size, 0, none⟩), .pointer (some ⟨w4.heap.size + 1 + 1, 0, none⟩), .pointer (some ⟨w4.heap.size, 0, none⟩), .pointer (some ⟨w4.heap.size + 1 + 1 + 1, 0, none⟩)] W7 fun e w' => ∃ b st', e = .returned (.bool b) ∧ OwnL w3 w' (E.L st') ∧ ComesP E.n r (List.replicate M.length 0) 0 b st' := by
    rw [hEd] at hcall ⊢
    exact hcall
  clear hcall
  have HRS := Lib.hid hres
  have HEd := Lib.hid hEd
  clear hres hEd hEn hEM hEs hEg hEv hrf
  go_wp2_with ((with_reducible refine hcall2.mono ?_); rintro e w8 ⟨b, st8, rfl, hO8, hC8⟩)
  go_ret2
  refine ⟨?_, hE13.trans hO8.ext⟩
  rw [HR.out, ← HRS.out b st8 hC8]; rfl
#print axioms CheckAttack_any
end Go.Proofs.Yteadkafeabhhhaa
