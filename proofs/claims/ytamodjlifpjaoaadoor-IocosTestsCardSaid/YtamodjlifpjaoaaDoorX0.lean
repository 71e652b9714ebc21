/- Nodes whose next lists lie from a place on; what a test that is made by appending owns. -/
import Derived.Test.YtamodjlifpjaoaaDoorGF
namespace Go.Proofs.YtamodjlifpjaoaaDoor
open Go.RowKit
set_option linter.unusedVariables false
set_option linter.unusedSimpArgs false
def FarV (N : Nat) (u : Value) : Prop := ∀ b o n c, u = .slice (some ⟨b, o, none⟩) n c → N ≤ b
theorem FarV.mono {N N' : Nat} {u : Value} (h : FarV N u) (hN : N' ≤ N) : FarV N' u := fun b o n c e => Nat.le_trans hN (h b o n c e)
theorem far_nil (N n c : Nat) : FarV N (.slice none n c) := fun b o n c e => by cases e
theorem far_at {N b : Nat} (h : N ≤ b) (o n c : Nat) : FarV N (.slice (some ⟨b, o, none⟩) n c) := fun b' o' n' c' e => by cases e; exact h
/-- A slice of nodes whose next lists lie in blocks from N on. -/
def NodesN (N : Nat) (w : World) (v : Value) (L : List Nd) (c : Nat) : Prop := ∃ (A : Option Addr) (M : List (Nd × Value)), M.map Prod.fst = L ∧ v = .slice A L.length c ∧ Cells w A (ndsV M) ∧ NdOk M w ∧ (∀ e ∈ M, FarV N e.2) ∧ L.length ≤ c ∧ L.length ≤ lenMax
theorem NodesN.nodes {N : Nat} {w : World} {v : Value} {L : List Nd} {c : Nat} (h : NodesN N w v L c) : NodesC w v L c := by
  obtain ⟨A, M, h1, h2, h3, h4, _, h5⟩ := h
  exact ⟨A, M, h1, h2, h3, h4, h5⟩
theorem NodesN.mono {N N' : Nat} {w : World} {v : Value} {L : List Nd} {c : Nat} (h : NodesN N w v L c) (hN : N' ≤ N) : NodesN N' w v L c := by
  obtain ⟨A, M, h1, h2, h3, h4, h6, h5⟩ := h
  exact ⟨A, M, h1, h2, h3, h4, fun e he => (h6 e he).mono hN, h5⟩
theorem ndOk_ext {M : List (Nd × Value)} {w w' : World} (h : NdOk M w) (e : Ext w w') : NdOk M w' := fun z hz => by obtain ⟨c, h⟩ := h z hz; exact ⟨c, h.ext e⟩
theorem NodesN.ext {N : Nat} {w w' : World} {v : Value} {L : List Nd} {c : Nat} (h : NodesN N w v L c) (e : Ext w w') : NodesN N w' v L c := by
  obtain ⟨A, M, h1, h2, h3, h4, h5⟩ := h
  exact ⟨A, M, h1, h2, h3.ext e, ndOk_ext h4 e, h5⟩
/-- The blocks of next lists. -/
def ndF (M : List (Nd × Value)) (b : Nat) : Prop := ∃ e ∈ M, ∃ o n c, e.2 = .slice (some ⟨b, o, none⟩) n c ∧ 0 < n
theorem cell_same {w w' : World} {b o : Nat} (h : w'.heap[b]? = w.heap[b]?) : w'.cell? ⟨b, o, none⟩ = w.cell? ⟨b, o, none⟩ := by
  unfold World.cell?
  simp only [h]
theorem ints_same {w w' : World} {v : Value} {xs : List Int} {c : Nat} (h : IntsC w v xs c) (hb : ∀ b o n c, v = .slice (some ⟨b, o, none⟩) n c → 0 < n → w'.heap[b]? = w.heap[b]?) : IntsC w' v xs c := by
  obtain ⟨A, rfl, hc, h1, h2⟩ := h
  refine ⟨A, rfl, fun hpos => ?_, h1, h2⟩
  obtain ⟨b, o, rfl, hlt, hcc⟩ := hc hpos
  have hn : 0 < xs.length := by simpa using hpos
  have he := hb b o _ _ rfl hn
  refine ⟨b, o, rfl, ?_, fun j u hj => ?_⟩
  · rw [Array.getElem?_eq_getElem hlt] at he
    exact (Array.getElem?_eq_some_iff.1 he).1
  · rw [cell_same he]; exact hcc j u hj
theorem ndAny {N : Nat} {w : World} {M : List (Nd × Value)} (h : NdOk M w) (hf : ∀ e ∈ M, FarV N e.2) : (Asn.any (ndF M) (NdOk M)).ok N w := by
  refine ⟨fun b ⟨e, he, o, n, c, hv, hn⟩ => ⟨hf e he b o n c hv, ?_⟩, fun w' hb e he => ?_⟩
  · obtain ⟨c', A, h1, hc, _, _⟩ := h e he
    rw [hv] at h1
    injection h1 with h1 h2 _
    subst h1
    obtain ⟨b', o', h3, hlt, _⟩ := hc (by simp; omega)
    cases h3; exact hlt
  · obtain ⟨c', hi⟩ := h e he
    exact ⟨c', ints_same hi fun b o n c hv hn => hb b ⟨e, he, o, n, c, hv, hn⟩⟩
theorem nds_one {M : List (Nd × Value)} {w : World} (h : NdOk M w) : ∀ u ∈ ndsV M, u.oneCell' = true := fun u hu => by
  unfold ndsV at hu
  obtain ⟨e, he, hu⟩ := List.mem_flatMap.1 hu
  obtain ⟨c, A, hv, _⟩ := h e he
  simp only [ndCells, List.mem_cons, List.not_mem_nil, or_false] at hu
  rcases hu with rfl | rfl
  · rfl
  · rw [hv]; rfl
/-- What making a test by appending owns: the box of its own node, what follows it, and the nodes behind it. -/
def MkSt (W0 W : World) (b : Nat) (nv : Value) (k : List Int) (v : Value) (M : List (Nd × Value)) : Prop := ∃ F, OwnL W0 W [.blk b (.cells #[.int .i64 (-1), nv] 56), .row 3 1 nv k.length (k.map (.int .i64)), .row 56 2 v M.length (ndsV M), .any F (NdOk M)]
theorem MkSt.trans {W0 W W' : World} {b : Nat} {nv v : Value} {k : List Int} {M : List (Nd × Value)} (h : MkSt W0 W b nv k v M) (e : Ext W W') : MkSt W0 W' b nv k v M := by
  obtain ⟨F, h⟩ := h
  exact ⟨F, h.trans e⟩
theorem MkSt.ext {W0 W : World} {b : Nat} {nv v : Value} {k : List Int} {M : List (Nd × Value)} (h : MkSt W0 W b nv k v M) : Ext W0 W := by
  obtain ⟨F, h⟩ := h
  exact OwnL.ext h
theorem MkSt.start (W : World) : MkSt W (W.alloc (.cells #[.int .i64 (-1), .slice none 0 0] 56)) W.heap.size (.slice none 0 0) [] (.slice none 0 0) [] := by
  have h1 := (OwnL.nil (Ext.refl W)).add (Ext.refl W) (ndAny (N := W.heap.size) (w := W) (M := []) (fun e he => by cases he) (fun e he => by cases he))
  have h2 := h1.add (Ext.refl W) (A := .row 56 2 (.slice none 0 0) 0 []) (World.ownsRow_nil W _ 56 2)
  have h3 := h2.add (Ext.refl W) (A := .row 3 1 (.slice none 0 0) 0 []) (World.ownsRow_nil W _ 3 1)
  exact ⟨_, h3.add (alloc_ext W _) (A := .blk W.heap.size (.cells #[.int .i64 (-1), .slice none 0 0] 56)) ⟨Nat.le_refl _, heap_alloc_new W _⟩⟩
theorem MkSt.cells {W0 W : World} {b : Nat} {nv v : Value} {k : List Int} {M : List (Nd × Value)} (h : MkSt W0 W b nv k v M) : W.cell? ⟨b, 0, none⟩ = some (.int .i64 (-1)) ∧ W.cell? ⟨b, 1, none⟩ = some nv ∧ W.frozen? ⟨b, 1, none⟩ = false ∧ W.ownsRow W0.heap.size 3 1 nv k.length (k.map (.int .i64)) ∧ W.ownsRow W0.heap.size 56 2 v M.length (ndsV M) ∧ NdOk M W := by
  obtain ⟨F, h⟩ := h
  exact ⟨cell_of_blk (h.get 0 rfl).2 0 rfl, cell_of_blk (h.get 0 rfl).2 1 rfl, free_of_blk (h.get 0 rfl).2 1, h.get 1 rfl, h.get 2 rfl, h.know 3 rfl⟩
/-- One more number follows the own node. -/
theorem MkSt.next {W0 W W' : World} {b : Nat} {nv nv' v : Value} {k : List Int} {M : List (Nd × Value)} {y : Int} (h : MkSt W0 W b nv k v M) (hg : W.grownBy W' nv.ownBlock) (ho : W'.ownsRow W0.heap.size 3 1 nv' (k.length + 1) (k.map (.int .i64) ++ [.int .i64 y])) (hb : ∀ b, nv'.ownBlock = some b → nv.ownBlock = some b ∨ W.heap.size ≤ b) :
    W'.cell? ⟨b, 1, none⟩ = some nv ∧ W'.frozen? ⟨b, 1, none⟩ = false ∧ MkSt W0 (W'.setCell ⟨b, 1, none⟩ nv') b nv' (k ++ [y]) v M := by
  obtain ⟨F, h⟩ := h
  have h1 := h.app 1 rfl hg ho hb
  refine ⟨cell_of_blk (h1.get 0 rfl).2 1 rfl, free_of_blk (h1.get 0 rfl).2 1, F, ?_⟩
  have h2 := h1.put 0 rfl 1 nv'
  have e1 : (k ++ [y]).length = k.length + 1 := by simp
  have e2 : (k ++ [y]).map (Value.int .i64) = k.map (.int .i64) ++ [.int .i64 y] := by simp
  rw [e1, e2]
  exact h2
/-- More nodes. -/
theorem MkSt.more {W0 W W1 W' : World} {b : Nat} {nv v v' : Value} {k : List Int} {M M1 : List (Nd × Value)} (h : MkSt W0 W b nv k v M) (e : Ext W W1) (hM : NdOk M1 W1) (hf : ∀ z ∈ M1, FarV W.heap.size z.2) (hg : W1.grownBy W' v.ownBlock) (ho : W'.ownsRow W0.heap.size 56 2 v' (M.length + M1.length) (ndsV M ++ ndsV M1)) (hb : ∀ b, v'.ownBlock = some b → v.ownBlock = some b ∨ W1.heap.size ≤ b) : MkSt W0 W' b nv k v' (M ++ M1) := by
  obtain ⟨F, h⟩ := h
  have h1 := h.add e (ndAny hM hf)
  have h2 := h1.app 3 rfl hg ho hb
  have h3 := (h2.perm (List.perm_middle (l₁ := [_, _, _]) (a := _) (l₂ := [_])).symm)
  have h4 : OwnL W0 W' (.blk b (.cells #[.int .i64 (-1), nv] 56) :: .row 3 1 nv k.length (k.map (.int .i64)) :: .row 56 2 v' (M.length + M1.length) (ndsV M ++ ndsV M1) :: .any (ndF M1) (NdOk M1) :: .any F (NdOk M) :: []) := h3
  have h5 := (h4.perm (List.perm_middle (l₁ := [_, _, _]))).perm (.cons _ (List.perm_middle (l₁ := [_, _, _])))
  have h6 := h5.merge.weaken (Φ' := NdOk (M ++ M1)) (fun W h z hz => by
    rcases List.mem_append.1 hz with hz | hz
    · exact h.2 z hz
    · exact h.1 z hz)
  have h7 := h6.perm (List.perm_middle (l₁ := [_, _, _])).symm
  have e1 : (M ++ M1).length = M.length + M1.length := by simp
  refine ⟨fun b => ndF M1 b ∨ F b, ?_⟩
  rw [e1, nds_app]
  exact h7
end Go.Proofs.YtamodjlifpjaoaaDoor
