/- A Pass of a test turned into a Fail: the test as data and in memory. -/
import Derived.Test.YtamodjlifpjaoaaDoorY3
namespace Go.Proofs.YtamodjlifpjaoaaDoor
open Go.RowKit
set_option linter.unusedVariables false
set_option linter.unusedSimpArgs false
attribute [local go_sem] Oper.quietV quietV Oper.gives givesV ext_refl_iff ext_alloc_iff ext_drew_iff ext_drewN_iff
def failN (L : List Nd) (k : Nat) : List Nd := L.set k ⟨-3, (ndAt L k).next⟩
theorem failN_len (L : List Nd) (k : Nat) : (failN L k).length = L.length := by unfold failN; rw [List.length_set]
theorem almost_self (L : List Nd) : AlmostT L L := ⟨rfl, fun k => .inl rfl⟩
theorem failN_at {L : List Nd} {k : Nat} (hk : k < L.length) (j : Nat) : ndAt (failN L k) j = if j = k then ⟨-3, (ndAt L k).next⟩ else ndAt L j := by
  by_cases hj : j = k
  · subst hj
    rw [if_pos rfl]
    exact ndAt_get (by unfold failN; rw [List.getElem?_set_self (by simpa using hk)])
  · rw [if_neg hj]
    by_cases h2 : j < L.length
    · obtain ⟨nd, hnd⟩ : ∃ nd, L[j]? = some nd := ⟨_, List.getElem?_eq_getElem h2⟩
      rw [ndAt_get hnd]
      exact ndAt_get (by unfold failN; rw [List.getElem?_set_ne (fun e => hj e.symm)]; exact hnd)
    · rw [ndAt_none (by rw [failN_len]; omega), ndAt_none (by omega)]
theorem failN_almost {L : List Nd} {k : Nat} (hk : k < L.length) (ha : (ndAt L k).act = -2) : AlmostT L (failN L k) := ⟨failN_len L k, fun j => by
  rw [failN_at hk]
  by_cases hj : j = k
  · subst hj; rw [if_pos rfl]; exact .inr ⟨ha, rfl⟩
  · rw [if_neg hj]; exact .inl rfl⟩
theorem failN_right {i o : Int} {L : List Nd} {k : Nat} (h : RightT i o L) (hk : k < L.length) (ha : (ndAt L k).act = -2) : RightT i o (failN L k) := by
  obtain ⟨nk, hnk⟩ : ∃ nd, L[k]? = some nd := ⟨_, List.getElem?_eq_getElem hk⟩
  have hka := ndAt_get hnk
  have key : ∀ (j : Nat) (nd : Nd), (failN L k)[j]? = some nd → ∃ nd', L[j]? = some nd' ∧ nd.next = nd'.next ∧ manyOk i o nd = manyOk i o nd' := fun j nd hj => by
    unfold failN at hj
    by_cases he : j = k
    · subst he
      rw [List.getElem?_set_self hk] at hj
      cases hj
      refine ⟨nk, hnk, by rw [hka], ?_⟩
      rw [hka] at ha
      unfold manyOk
      rw [hka, ha]
      simp
    · rw [List.getElem?_set_ne (fun e => he e.symm)] at hj
      exact ⟨nd, hj, rfl, rfl⟩
  refine ⟨by rw [failN_len]; exact h.pos, fun j nd hj => ?_, fun j nd hj t ht => ?_⟩
  · obtain ⟨nd', h1, _, h3⟩ := key j nd hj
    rw [h3]; exact h.many j nd' h1
  · obtain ⟨nd', h1, h2, _⟩ := key j nd hj
    rw [h2] at ht
    rw [failN_len]
    exact h.next j nd' h1 t ht
theorem nds_act : ∀ (M : List (Nd × Value)) (k : Nat) (e : Nd × Value) (a : Int), M[k]? = some e → ndsV (M.set k (⟨a, e.1.next⟩, e.2)) = (ndsV M).set (k * 2) (.int .i64 a)
  | [], k, e, a, h => by simp at h
  | z :: M, 0, e, a, h => by
    simp at h
    subst h
    simp [ndsV, ndCells]
  | z :: M, k + 1, e, a, h => by
    have ih := nds_act M k e a (by simpa using h)
    show ndCells z ++ ndsV (M.set k _) = _
    rw [ih, show (k + 1) * 2 = k * 2 + 1 + 1 by omega]
    rfl
/-- The store. -/
theorem NodesN.fail {N : Nat} {w : World} {A : Option Addr} {L : List Nd} {c k : Nat} (h : NodesN N w (.slice A L.length c) L c) {nd : Nd} (hk : L[k]? = some nd) :
    ∃ b, A = some ⟨b, 0, none⟩ ∧ N ≤ b ∧ w.cell? ⟨b, k * 2, none⟩ = some (.int .i64 nd.act) ∧ w.frozen? ⟨b, k * 2, none⟩ = false ∧ NodesC (w.setCell ⟨b, k * 2, none⟩ (.int .i64 (-3))) (.slice A (failN L k).length c) (failN L k) c ∧
      ∀ w0, Ext w0 w → w0.heap.size ≤ N → Ext w0 (w.setCell ⟨b, k * 2, none⟩ (.int .i64 (-3))) := by
  obtain ⟨A', M, hM, hv, hc, hT, hfar, hle, hlm, b, cs, hA, hNb, hblk⟩ := h
  injection hv with hv _ _
  subst hv hA
  have hML : M.length = L.length := by rw [← hM, List.length_map]
  have hkl := (List.getElem?_eq_some_iff.1 hk).1
  obtain ⟨e, hMk⟩ : ∃ e, M[k]? = some e := ⟨_, List.getElem?_eq_getElem (by omega)⟩
  have hek : e.1 = nd := by
    rw [← hM, List.getElem?_map, hMk] at hk
    simpa using hk
  obtain ⟨b', o', hbo, _, hcc⟩ := hc (by rw [nds_len]; omega)
  cases hbo
  simp only [Nat.zero_add] at hcc
  have hcs : ∀ j u, (ndsV M)[j]? = some u → cs[j]? = some u := fun j u hj => by
    have h1 := hcc j u hj
    rw [cell_of_row w b j cs 56 (0, 0) hblk] at h1
    exact h1
  have hb2 := heap_setCell_same w b (k * 2) cs 56 (.int .i64 (-3)) hblk
  have hset : failN L k = (M.set k (⟨-3, e.1.next⟩, e.2)).map Prod.fst := by
    unfold failN
    rw [ndAt_get hk, List.map_set, hM, hek]
  have hoth : ∀ b', b' ≠ b → (w.setCell ⟨b, k * 2, none⟩ (.int .i64 (-3))).heap[b']? = w.heap[b']? := fun b' hb' => Below.heap_setCell _ _ _ _ (by simpa using hb')
  refine ⟨b, rfl, hNb, ?_, free_of_blk hblk _, ⟨_, M.set k (⟨-3, e.1.next⟩, e.2), hset.symm, rfl, ?_, ?_, by rw [failN_len]; exact hle, by rw [failN_len]; exact hlm⟩, fun w0 he hN => he.setCell (Nat.le_trans hN hNb) _⟩
  · have := hcc (k * 2) _ (nds_get hMk 0 _ rfl)
    rw [← hek]; exact this
  · rw [nds_act M k e (-3) hMk]
    intro _
    refine ⟨b, 0, rfl, ?_, fun j u hj => ?_⟩
    · have := (Array.getElem?_eq_some_iff.1 hblk).1
      simpa [World.setCell] using this
    · rw [Nat.zero_add]
      refine cell_of_blk hb2 j ?_
      by_cases hj2 : j = k * 2
      · subst hj2
        have h1 : k * 2 < cs.size := by
          have := hcs (k * 2) _ (nds_get hMk 0 _ rfl)
          exact (Array.getElem?_eq_some_iff.1 this).1
        have h2 : k * 2 < (ndsV M).length := by rw [nds_len]; omega
        rw [List.getElem?_set_self h2] at hj
        cases hj
        simp [h1]
      · rw [List.getElem?_set_ne (fun e => hj2 e.symm)] at hj
        rw [Array.getElem?_setIfInBounds_ne (fun e => hj2 e.symm)]
        exact hcs j u hj
  · intro z hz
    obtain ⟨z', hz', hzz⟩ : ∃ z', z' ∈ M ∧ z.2 = z'.2 ∧ z.1.next = z'.1.next := by
      rcases List.mem_or_eq_of_mem_set hz with h | h
      · exact ⟨z, h, rfl, rfl⟩
      · exact ⟨e, List.mem_of_getElem? hMk, by rw [h], by rw [h]⟩
    obtain ⟨c', hi⟩ := hT.1 z' hz'
    rw [hzz.1, hzz.2]
    refine ⟨c', ints_same hi fun b' o n c e' hn => hoth b' fun heq => ?_⟩
    obtain ⟨cs', h3⟩ := hT.2 z' hz' b' o n c e' hn
    rw [heq, hblk] at h3
    injection h3 with h3
    injection h3 with _ h3 _
    cases h3
theorem ndAt_act {L : List Nd} {k : Nat} {nd : Nd} (h : L[k]? = some nd) (ha : nd.act = -2) : (ndAt L k).act = -2 := by rw [ndAt_get h]; exact ha
end Go.Proofs.YtamodjlifpjaoaaDoor
