/- The unfolded machine: what its rows say; its runs; al plain data. -/
import Derived.Test.YtggffdkgfgdaoaaDoorE14
import Derived.Test.YtggffdkgfgdaoaaDoorT10
namespace Go.Proofs.YtggffdkgfgdaoaaDoor
set_option linter.unusedVariables false
set_option linter.unusedSimpArgs false
/-- What an edge says. -/
def edgeOk (x : Xt) (S : List Sp) (c : Sp) (i : Int) (e : Int × Int) : Prop := match stepR x c.1 c.2 i with
  | none => e = (-1, -1)
  | some r => ∃ k : Nat, e = ((k : Int), r.2.2) ∧ S[k]? = some (r.1, r.2.1)
theorem edgeOk_mono {x : Xt} {S S' : List Sp} {c : Sp} {i : Int} {e : Int × Int} (h : edgeOk x S c i e) (hp : S <+: S') : edgeOk x S' c i e := by
  unfold edgeOk at h ⊢
  split at h
  · exact h
  · obtain ⟨k, h1, h2⟩ := h
    obtain ⟨t, rfl⟩ := hp
    exact ⟨k, h1, by rw [List.getElem?_append_left (List.getElem?_eq_some_iff.1 h2).1]; exact h2⟩
theorem idxP_get {S : List Sp} {c : Sp} (hl : ∀ d ∈ S, d.2.length = c.2.length) {k : Nat} (h : idxP S c = some k) : S[k]? = some c := by
  unfold idxP at h
  rw [List.findIdx?_eq_some_iff_getElem] at h
  obtain ⟨hlt, h1, _⟩ := h
  rw [List.getElem?_eq_getElem hlt, pad_inj (hl _ (List.getElem_mem hlt)) (beq_iff_eq.1 h1)]
theorem okL_len {x : Xt} {S : List Sp} (h : okL x S) {c : Sp} (hc : okSp x c) : ∀ d ∈ S, d.2.length = c.2.length := fun d hd => by
  rw [(okSp_len (h.2 d hd)).1, (okSp_len hc).1]
theorem uStep_edge {x : Xt} {c : Sp} {S : List Sp} {i : Int} {q : List Sp × (Int × Int)} (hx : xtR x = 0) (hc : okSp x c) (hS : okL x S) (h : uStep x c S i = some q) : edgeOk x q.1 c i q.2 := by
  unfold uStep at h
  unfold edgeOk
  split at h
  · rename_i hq; rw [hq]; injection h with h; subst h; rfl
  · rename_i r hr
    rw [hr]
    have hl := okL_len hS (stepR_ok hx hc.2 hr)
    split at h
    · rename_i k hk
      injection h with h; subst h
      exact ⟨k, rfl, idxP_get hl hk⟩
    · split at h
      · cases h
      · injection h with h; subst h
        exact ⟨S.length, rfl, by simp⟩
theorem uRow_edge {x : Xt} {c : Sp} {S : List Sp} (hx : xtR x = 0) (hc : okSp x c) (hS : okL x S) : ∀ {k : Nat} {r : List Sp × List (Int × Int)}, uRow x c S k = some r → ∀ (j : Nat) (e : Int × Int), r.2[j]? = some e → edgeOk x r.1 c (j : Int) e
  | 0, r, h, j, e, he => by unfold uRow at h; injection h with h; subst h; simp at he
  | k + 1, r, h, j, e, he => by
    unfold uRow at h
    split at h
    · cases h
    · rename_i r1 h1
      obtain ⟨a1, a2, a3⟩ := uRow_ok hx hc hS h1
      split at h
      · cases h
      · rename_i q hq
        injection h with h; subst h
        obtain ⟨b1, b2⟩ := uStep_ok hx hc a1 hq
        dsimp only at he ⊢
        by_cases hj : j < r1.2.length
        · rw [List.getElem?_append_left hj] at he
          exact edgeOk_mono (uRow_edge hx hc hS h1 j e he) b2
        · have hjk : j = k := by have := (List.getElem?_eq_some_iff.1 he).1; simp at this; omega
          subst hjk
          rw [List.getElem?_append_right (by omega), a3, Nat.sub_self] at he
          simp at he
          subst he
          exact uStep_edge hx hc a1 hq
theorem uAll_edge {x : Xt} (hx : xtR x = 0) : ∀ {i : Nat} {r : List Sp × List (List (Int × Int))}, uAll x i = some r → ∀ (n : Nat) (row : List (Int × Int)), r.2[n]? = some row → ∃ c, r.1[n]? = some c ∧ ∀ (j : Nat) (e : Int × Int), row[j]? = some e → edgeOk x r.1 c (j : Int) e
  | 0, r, h, n, row, he => by unfold uAll at h; injection h with h; subst h; simp at he
  | i + 1, r, h, n, row, he => by
    unfold uAll at h
    split at h
    · cases h
    · rename_i r1 h1
      have hok := uAll_ok hx h1
      have hrs := uAll_rows hx h1
      split at h
      · injection h with h; subst h
        exact uAll_edge hx h1 n row he
      · rename_i c hc
        have hlt := (List.getElem?_eq_some_iff.1 hc).1
        have hco := hok.1.2 c (List.mem_of_getElem? hc)
        split at h
        · cases h
        · rename_i q hq
          injection h with h; subst h
          obtain ⟨b1, b2, b3⟩ := uRow_ok hx hco hok.1 hq
          dsimp only at he ⊢
          have hri : r1.2.length = i := by omega
          by_cases hn : n < r1.2.length
          · rw [List.getElem?_append_left hn] at he
            obtain ⟨d, hd, h2⟩ := uAll_edge hx h1 n row he
            obtain ⟨t, ht⟩ := id b2
            refine ⟨d, by rw [← ht, List.getElem?_append_left (List.getElem?_eq_some_iff.1 hd).1]; exact hd, fun j e hje => edgeOk_mono (h2 j e hje) b2⟩
          · have hni : n = i := by have := (List.getElem?_eq_some_iff.1 he).1; simp at this; omega
            subst hni
            rw [List.getElem?_append_right (by omega), hri, Nat.sub_self] at he
            simp at he
            subst he
            obtain ⟨t, ht⟩ := id b2
            exact ⟨c, by rw [← ht, List.getElem?_append_left hlt]; exact hc, uRow_edge hx hco hok.1 hq⟩
/-- What ref04.Next and ref04.Run answer. -/
def nextM (rows : List (List (Int × Int))) (s i : Int) : Int × Int := if s < 0 then (-1, -1) else (rows.getD s.toNat []).getD i.toNat (-1, -1)
def runM (rows : List (List (Int × Int))) : Int → List Int → List Int
  | _, [] => []
  | s, a :: w => (nextM rows s a).2 :: runM rows (nextM rows s a).1 w
theorem runM_none (x : Xt) (rows : List (List (Int × Int))) : ∀ w, runM rows (-1) w = runF x none w
  | [] => rfl
  | a :: w => by
    unfold runM runF
    have : nextM rows (-1) a = (-1, -1) := rfl
    rw [this, runM_none x rows w]
theorem runM_run {x : Xt} (hx : xtR x = 0) {S : List Sp} {rows : List (List (Int × Int))} (h : unfR x = some (S, rows)) : ∀ (w : List Int) (k : Nat) (c : Sp), (∀ a ∈ w, 0 ≤ a ∧ a < x.ins) → S[k]? = some c → runM rows (k : Int) w = runF x (some c) w
  | [], k, c, _, _ => rfl
  | a :: w, k, c, hw, hc => by
    unfold unfR at h
    have hok := uAll_ok hx h
    have hrs := uAll_rows hx h
    have hE := uAll_edge hx h
    dsimp only at hok hrs hE
    have hlt := (List.getElem?_eq_some_iff.1 hc).1
    have hS64 := hok.1.1
    obtain ⟨row, hrow⟩ : ∃ row, rows[k]? = some row := ⟨_, List.getElem?_eq_getElem (by omega)⟩
    obtain ⟨c', hc', he⟩ := hE k row hrow
    rw [hc] at hc'
    injection hc' with hc'
    subst hc'
    obtain ⟨ha0, ha1⟩ := hw a (by simp)
    obtain ⟨i, rfl⟩ : ∃ i : Nat, a = i := ⟨a.toNat, by omega⟩
    have hrl := hok.2.2 row (List.mem_of_getElem? hrow)
    obtain ⟨e, hei⟩ : ∃ e, row[i]? = some e := ⟨_, List.getElem?_eq_getElem (by omega)⟩
    have hedge := he i e hei
    have hnx : nextM rows (k : Int) (i : Int) = e := by
      unfold nextM
      rw [if_neg (by omega)]
      simp [List.getD_eq_getElem?_getD, hrow, hei]
    unfold runM runF
    rw [hnx]
    unfold edgeOk at hedge
    split at hedge
    · rename_i hq
      rw [hq, hedge]
      exact congrArg _ (runM_none x rows w)
    · rename_i r hq
      obtain ⟨k2, hk2, hs2⟩ := hedge
      rw [hq, hk2]
      exact congrArg _ (runM_run hx h w k2 _ (fun a ha => hw a (by simp [ha])) hs2)
/-! ### No more than so many configurations -/
theorem nodup_le {α : Type} [BEq α] [LawfulBEq α] : ∀ (L M : List α), L.Nodup → (∀ a ∈ L, a ∈ M) → L.length ≤ M.length
  | [], M, _, _ => Nat.zero_le _
  | a :: L, M, hn, hs => by
    obtain ⟨h1, h2⟩ := List.nodup_cons.1 hn
    have h3 := nodup_le L (M.erase a) h2 (fun b hb => by
      have hba : b ≠ a := fun e => h1 (e ▸ hb)
      exact (List.mem_erase_of_ne hba).2 (hs b (by simp [hb])))
    have h4 := List.length_erase_of_mem (hs a (by simp))
    have h5 := List.length_pos_of_mem (hs a (by simp))
    rw [List.length_cons]
    omega
theorem idxP_none {S : List Sp} {c : Sp} (h : idxP S c = none) : c ∉ S := fun hc => by
  unfold idxP at h
  rw [List.findIdx?_eq_none_iff] at h
  have := h c hc
  simp at this
def fewS (x : Xt) (S : List Sp) : Prop := S.Nodup ∧ okL x S
theorem uStep_few {x : Xt} {c : Sp} {S : List Sp} {i : Int} (hx : xtR x = 0) (hc : okSp x c) (hS : fewS x S) (hb : ∀ S, fewS x S → S.length < 64) : ∃ q, uStep x c S i = some q ∧ fewS x q.1 := by
  unfold uStep
  split
  · exact ⟨_, rfl, hS⟩
  · rename_i r hr
    split
    · exact ⟨_, rfl, hS⟩
    · rename_i hn
      have h1 := hb S hS
      rw [if_neg (by omega)]
      refine ⟨_, rfl, ?_, by simp; omega, fun d hd => ?_⟩
      · show (S ++ [(r.1, r.2.1)]).Nodup
        rw [List.nodup_append]
        refine ⟨hS.1, by simp, fun a ha b hb' => ?_⟩
        simp at hb'
        subst hb'
        intro e
        subst e
        exact idxP_none hn ha
      · rcases List.mem_append.1 hd with hd | hd
        · exact hS.2.2 d hd
        · simp at hd; subst hd; exact stepR_ok hx hc.2 hr
theorem uRow_few {x : Xt} {c : Sp} {S : List Sp} (hx : xtR x = 0) (hc : okSp x c) (hS : fewS x S) (hb : ∀ S, fewS x S → S.length < 64) : ∀ k, ∃ r, uRow x c S k = some r ∧ fewS x r.1
  | 0 => ⟨_, rfl, hS⟩
  | k + 1 => by
    obtain ⟨r, h1, h2⟩ := uRow_few hx hc hS hb k
    obtain ⟨q, h3, h4⟩ := uStep_few (i := (k : Int)) hx hc h2 hb
    refine ⟨(q.1, r.2 ++ [q.2]), ?_, h4⟩
    rw [uRow_step h1, h3]
theorem uAll_few {x : Xt} (hx : xtR x = 0) (hb : ∀ S, fewS x S → S.length < 64) : ∀ k, ∃ r, uAll x k = some r ∧ fewS x r.1
  | 0 => ⟨_, rfl, by simp, by simp, fun c hc => by simp at hc; subst hc; exact okSp_start hx⟩
  | k + 1 => by
    obtain ⟨r, h1, h2⟩ := uAll_few hx hb k
    cases hc : r.1[k]? with
    | none =>
      refine ⟨r, ?_, h2⟩
      unfold uAll
      rw [h1]; dsimp only; rw [hc]
    | some c =>
      obtain ⟨q, h3, h4⟩ := uRow_few (k := x.ins.toNat) hx (h2.2.2 c (List.mem_of_getElem? hc)) h2 hb
      refine ⟨(q.1, r.2 ++ [q.2]), ?_, h4⟩
      rw [uAll_step h1 hc, h3]
/-- All configurations of a machine of V.Of. -/
def allV : List Sp := ((List.range 3).map (fun s : Nat => (s : Int))).flatMap (fun s => (domL varsV).map (fun ys => (s, ys)))
theorem few_v (v : Vd) : ∀ S, fewS (ofX v) S → S.length < 64 := fun S hS => by
  have h := nodup_le S allV hS.1 (fun c hc => by
    obtain ⟨s, ys⟩ := c
    have hk := hS.2.2 _ hc
    have hst : (ofX v).states = ((v.S : Nat) : Int) := rfl
    have hS := vd_s v
    have h1 : 0 ≤ s ∧ s < (ofX v).states := hk.1
    rw [hst] at h1
    refine List.mem_flatMap.2 ⟨s, List.mem_map.2 ⟨s.toNat, List.mem_range.2 (by omega), by omega⟩, List.mem_map.2 ⟨ys, vals_dom (l := varsV) hk.2, rfl⟩⟩)
  have h2 : allV.length = 18 := by decide
  omega
theorem unf_v (v : Vd) : ∃ S rows, unfR (ofX v) = some (S, rows) := by
  obtain ⟨r, h, _⟩ := uAll_few (ofX_ok v) (few_v v) 64
  exact ⟨r.1, r.2, h⟩
end Go.Proofs.YtggffdkgfgdaoaaDoor
