/- Nodes whose next lists lie from a place on; what a test that is made by appending owns. -/
import Derived.Test.YtamodjlifpjaoaaDoorGF
import Derived.Test.YtamodjlifpjaoaaDoorGH
namespace Go.Proofs.YtamodjlifpjaoaaDoor
open Go.RowKit
set_option linter.unusedVariables false
set_option linter.unusedSimpArgs false
section
variable {P : Program} {w : World}
theorem run_append_full2 (t ty e : TypeId) (i : TypeInfo) (z : Value) (size bytes : Nat) (ht : P.underlying t = some (.slice e)) (hi : P.info? e = some i) (hz : i.zero = some z) (hsize : i.size = size) (hby : i.bytes = bytes) (hsz : 0 < size)
    (A : Option Addr) (n : Nat) (xs : List Value) (hlen : xs.length = n * size) (hx : Cells w A xs) (hA : A = none → n = 0)
    (ad : Addr) (m c : Nat) (news : List Value) (hl : news.length = m * size) (hnews : ∀ j u, news[j]? = some u → w.cell? (ad.add j) = some u) (hm : 0 < m)
    (h63 : n + m ≤ maxLen) (hbytes : (n + m) * bytes ≤ 140737488355328) :
    ∃ c' w', (Builtin.append_ #[t, t] ty #[.slice A n n, .slice (some ad) m c]).run P w = .ok (.slice (some ⟨w.heap.size, 0, none⟩) (n + m) c') w' ∧ Ext w w' ∧ Cells w' (some ⟨w.heap.size, 0, none⟩) (xs ++ news) ∧ n + m ≤ c' ∧ ∃ cs, w'.heap[w.heap.size]? = some (.cells cs e (0, 0)) := by
  subst hsize
  subst hby
  have hsmall : n + m ≤ 9223372036854775807 := by simp only [maxLen] at h63; omega
  have key : ∀ (W : World) (cs : Array Value) (ys : List Value) (tail : Array Value), cs = ys.toArray ++ tail → Cells (W.alloc (.cells cs e)) (some ⟨W.heap.size, 0, none⟩) ys := fun W cs ys tail hcs _ =>
    ⟨W.heap.size, 0, rfl, by simp, fun j u hj => by
      rw [Nat.zero_add]
      refine cell_of_blk (heap_alloc_new W _) j ?_
      rw [hcs, Array.getElem?_append_left (by have := (List.getElem?_eq_some_iff.1 hj).1; simpa using this)]
      simpa using hj⟩
  cases A with
  | none =>
    have hn := hA rfl
    subst hn
    have hx0 : xs = [] := List.eq_nil_of_length_eq_zero (by simpa using hlen)
    subst hx0
    have hr := run_append_nil (P := P) w t ty e i z ht hi hz ad m c news hl hnews hm (by omega) (by have hb := hbytes; simp only [Nat.zero_add] at hb; omega)
    refine ⟨grownCap w m 0 e, _, by rw [hr, Nat.zero_add], (drew_ext w).trans (alloc_ext _ _), ?_, by rw [Nat.zero_add]; exact grownCap_ge w m 0 e, _, heap_alloc_new w.drew _⟩
    exact key w.drew _ _ _ rfl
  | some a =>
    have holds : ∀ j u, xs[j]? = some u → w.cell? (a.add j) = some u := fun j u hj => by
      obtain ⟨b, o, h, _, hc⟩ := hx (by have := (List.getElem?_eq_some_iff.1 hj).1; omega)
      cases h
      rw [Addr.add_lit]
      exact hc j u hj
    have hr := run_append_grow (P := P) w t ty e i z ht hi hz a n n xs hlen holds ad m c news hl hnews (by omega) (by omega) (growslice_fits (by omega) hbytes)
    refine ⟨grownCap w (n + m) n e, _, hr, (drew_ext w).trans (alloc_ext _ _), ?_, grownCap_ge w (n + m) n e, _, heap_alloc_new w.drew _⟩
    exact key w.drew _ (xs ++ news) (Builtin.zeroCells z.cells (grownCap w (n + m) n e - (n + m))) (by simp)
theorem wpList_append_full2 {ops : Array Oper} {rest : List Oper} {o : Oper} {a : Act} {Q : Exit → Act → World → Prop} (hgd : o.guard = none) (s x : Operand) (t : TypeId)
    (ho : o.op = .call { callee := .builtin .append, args := #[s, x], argTypes := #[t, t] })
    (e : TypeId) (i : TypeInfo) (z : Value) (size bytes : Nat) (ht : P.underlying t = some (.slice e)) (hi : P.info? e = some i) (hz : i.zero = some z) (hsize : i.size = size) (hby : i.bytes = bytes) (hsz : 0 < size)
    (A : Option Addr) (n : Nat) (xs : List Value) (hs : a.eval s = .slice A n n) (hlen : xs.length = n * size) (hx : Cells w A xs) (hA : A = none → n = 0)
    (ad : Addr) (m c : Nat) (news : List Value) (hxx : a.eval x = .slice (some ad) m c) (hl : news.length = m * size) (hnews : ∀ j u, news[j]? = some u → w.cell? (ad.add j) = some u) (hm : 0 < m)
    (h63 : n + m ≤ maxLen) (hbytes : (n + m) * bytes ≤ 140737488355328)
    (h : ∀ c' w', Ext w w' → Cells w' (some ⟨w.heap.size, 0, none⟩) (xs ++ news) → n + m ≤ c' → (∃ cs, w'.heap[w.heap.size]? = some (.cells cs e (0, 0))) → wpList P ops Q rest (a.put o.dst (.slice (some ⟨w.heap.size, 0, none⟩) (n + m) c')) w') : wpList P ops Q (o :: rest) a w := by
  refine wpList_plain hgd fun K hK => ?_
  obtain ⟨c', w', hr, h2, h3, h4, h5⟩ := run_append_full2 (P := P) (w := w) t o.type e i z size bytes ht hi hz hsize hby hsz A n xs hlen hx hA ad m c news hl hnews hm h63 hbytes
  unfold Oper.wp execOp
  simp only [ho, resolve, invoke, builtin, Sem.run_bind, Sem.run_pure, Result.andThen_ok, List.map_toArray, List.map_cons, List.map_nil, hs, hxx, hr]
  exact hK _ _ (h c' w' h2 h3 h4 h5)
end
def FarV (N : Nat) (u : Value) : Prop := ∀ b o n c, u = .slice (some ⟨b, o, none⟩) n c → N ≤ b
theorem FarV.mono {N N' : Nat} {u : Value} (h : FarV N u) (hN : N' ≤ N) : FarV N' u := fun b o n c e => Nat.le_trans hN (h b o n c e)
theorem far_nil (N n c : Nat) : FarV N (.slice none n c) := fun b o n c e => by cases e
theorem far_at {N b : Nat} (h : N ≤ b) (o n c : Nat) : FarV N (.slice (some ⟨b, o, none⟩) n c) := fun b' o' n' c' e => by cases e; exact h
/-- A list of numbers lies in a block of numbers. -/
def TypV (w : World) (u : Value) : Prop := ∀ b o n c, u = .slice (some ⟨b, o, none⟩) n c → 0 < n → ∃ cs, w.heap[b]? = some (.cells cs 3 (0, 0))
theorem TypV.ext {w w' : World} {u : Value} (h : TypV w u) (e : Ext w w') : TypV w' u := fun b o n c hu hn => by obtain ⟨cs, h⟩ := h b o n c hu hn; exact ⟨cs, heap_ext e h⟩
theorem typ_nil (w : World) (n c : Nat) : TypV w (.slice none n c) := fun b o n c e => by cases e
theorem typ_at {w : World} {b : Nat} {cs : Array Value} (h : w.heap[b]? = some (.cells cs 3 (0, 0))) (o n c : Nat) : TypV w (.slice (some ⟨b, o, none⟩) n c) := fun b' o' n' c' e _ => by cases e; exact ⟨cs, h⟩
def NdT (M : List (Nd × Value)) (w : World) : Prop := NdOk M w ∧ ∀ e ∈ M, TypV w e.2
theorem NdT.cons {M : List (Nd × Value)} {w : World} {e : Nd × Value} (h1 : ∃ c, IntsC w e.2 e.1.next c) (h2 : TypV w e.2) (h : NdT M w) : NdT (e :: M) w :=
  ⟨fun z hz => by rcases List.mem_cons.1 hz with rfl | hz; exact h1; exact h.1 z hz, fun z hz => by rcases List.mem_cons.1 hz with rfl | hz; exact h2; exact h.2 z hz⟩
theorem ndT_none (w : World) : NdT [] w := ⟨fun e he => absurd he (by simp), fun e he => absurd he (by simp)⟩
theorem ndT_nil (w : World) (a : Int) : NdT [(⟨a, []⟩, .slice none 0 0)] w := NdT.cons (nil_ok w a) (typ_nil w 0 0) (ndT_none w)
/-- The slice of nodes has a block of its own. -/
def HdT (N : Nat) (w : World) (A : Option Addr) : Prop := ∃ b cs, A = some ⟨b, 0, none⟩ ∧ N ≤ b ∧ w.heap[b]? = some (.cells cs 56 (0, 0))
theorem HdT.ext {N : Nat} {w w' : World} {A : Option Addr} (h : HdT N w A) (e : Ext w w') : HdT N w' A := by obtain ⟨b, cs, h1, h0, h2⟩ := h; exact ⟨b, cs, h1, h0, heap_ext e h2⟩
theorem HdT.mono {N N' : Nat} {w : World} {A : Option Addr} (h : HdT N w A) (hN : N' ≤ N) : HdT N' w A := by obtain ⟨b, cs, h1, h0, h2⟩ := h; exact ⟨b, cs, h1, Nat.le_trans hN h0, h2⟩
/-- A slice of nodes whose next lists lie in blocks from N on. -/
def NodesN (N : Nat) (w : World) (v : Value) (L : List Nd) (c : Nat) : Prop := ∃ (A : Option Addr) (M : List (Nd × Value)), M.map Prod.fst = L ∧ v = .slice A L.length c ∧ Cells w A (ndsV M) ∧ NdT M w ∧ (∀ e ∈ M, FarV N e.2) ∧ L.length ≤ c ∧ L.length ≤ lenMax ∧ HdT N w A
theorem NodesN.nodes {N : Nat} {w : World} {v : Value} {L : List Nd} {c : Nat} (h : NodesN N w v L c) : NodesC w v L c := by
  obtain ⟨A, M, h1, h2, h3, h4, _, h5, h6, _⟩ := h
  exact ⟨A, M, h1, h2, h3, h4.1, h5, h6⟩
theorem NodesN.mono {N N' : Nat} {w : World} {v : Value} {L : List Nd} {c : Nat} (h : NodesN N w v L c) (hN : N' ≤ N) : NodesN N' w v L c := by
  obtain ⟨A, M, h1, h2, h3, h4, h6, h5, h7, h8⟩ := h
  exact ⟨A, M, h1, h2, h3, h4, fun e he => (h6 e he).mono hN, h5, h7, h8.mono hN⟩
theorem ndOk_ext {M : List (Nd × Value)} {w w' : World} (h : NdOk M w) (e : Ext w w') : NdOk M w' := fun z hz => by obtain ⟨c, h⟩ := h z hz; exact ⟨c, h.ext e⟩
theorem ndT_ext {M : List (Nd × Value)} {w w' : World} (h : NdT M w) (e : Ext w w') : NdT M w' := ⟨ndOk_ext h.1 e, fun z hz => (h.2 z hz).ext e⟩
theorem NodesN.ext {N : Nat} {w w' : World} {v : Value} {L : List Nd} {c : Nat} (h : NodesN N w v L c) (e : Ext w w') : NodesN N w' v L c := by
  obtain ⟨A, M, h1, h2, h3, h4, h5, h6, h7, h8⟩ := h
  exact ⟨A, M, h1, h2, h3.ext e, ndT_ext h4 e, h5, h6, h7, h8.ext e⟩
/-- The blocks of next lists. -/
def ndF (M : List (Nd × Value)) (b : Nat) : Prop := ∃ e ∈ M, ∃ o n c, e.2 = .slice (some ⟨b, o, none⟩) n c ∧ 0 < n
theorem cell_same {w w' : World} {b o : Nat} (h : w'.heap[b]? = w.heap[b]?) : w'.cell? ⟨b, o, none⟩ = w.cell? ⟨b, o, none⟩ := by
  unfold World.cell?
  simp only [h]
theorem ints_same {w w' : World} {v : Value} {xs : List Int} {c : Nat} (h : IntsC w v xs c) (hb : ∀ b o n c, v = .slice (some ⟨b, o, none⟩) n c → 0 < n → w'.heap[b]? = w.heap[b]?) : IntsC w' v xs c := by
  obtain ⟨A, rfl, hc, h1, h2⟩ := h
  refine ⟨A, rfl, fun hpos => ?_, h1, h2⟩
  obtain ⟨b, o, rfl, hlt, hcc⟩ := hc hpos
  have hn : 0 < xs.length := by simpa using hpos
  have he := hb b o _ _ rfl hn
  refine ⟨b, o, rfl, ?_, fun j u hj => ?_⟩
  · rw [Array.getElem?_eq_getElem hlt] at he
    exact (Array.getElem?_eq_some_iff.1 he).1
  · rw [cell_same he]; exact hcc j u hj
theorem ndAny {N : Nat} {w : World} {M : List (Nd × Value)} (hT : NdT M w) (hf : ∀ e ∈ M, FarV N e.2) : (Asn.any (ndF M) (NdT M)).ok N w := by
  have h := hT.1
  refine ⟨fun b ⟨e, he, o, n, c, hv, hn⟩ => ⟨hf e he b o n c hv, ?_⟩, fun w' hb => ⟨fun e he => ?_, fun e he b o n c hv hn => ?_⟩⟩
  · obtain ⟨c', A, h1, hc, _, _⟩ := h e he
    rw [hv] at h1
    injection h1 with h1 h2 _
    subst h1
    obtain ⟨b', o', h3, hlt, _⟩ := hc (by simp; omega)
    cases h3; exact hlt
  · obtain ⟨c', hi⟩ := h e he
    exact ⟨c', ints_same hi fun b o n c hv hn => hb b ⟨e, he, o, n, c, hv, hn⟩⟩
  · obtain ⟨cs, h3⟩ := hT.2 e he b o n c hv hn
    exact ⟨cs, (hb b ⟨e, he, o, n, c, hv, hn⟩).trans h3⟩
theorem nds_one {M : List (Nd × Value)} {w : World} (h : NdOk M w) : ∀ u ∈ ndsV M, u.oneCell' = true := fun u hu => by
  unfold ndsV at hu
  obtain ⟨e, he, hu⟩ := List.mem_flatMap.1 hu
  obtain ⟨c, A, hv, _⟩ := h e he
  simp only [ndCells, List.mem_cons, List.not_mem_nil, or_false] at hu
  rcases hu with rfl | rfl
  · rfl
  · rw [hv]; rfl
/-- What making a test by appending owns: the box of its own node, what follows it, and the nodes behind it. -/
def MkSt (W0 W : World) (b : Nat) (nv : Value) (k : List Int) (v : Value) (M : List (Nd × Value)) : Prop := ∃ F, OwnL W0 W [.blk b (.cells #[.int .i64 (-1), nv] 56), .row 3 1 nv k.length (k.map (.int .i64)), .row 56 2 v M.length (ndsV M), .any F (NdT M)]
theorem MkSt.trans {W0 W W' : World} {b : Nat} {nv v : Value} {k : List Int} {M : List (Nd × Value)} (h : MkSt W0 W b nv k v M) (e : Ext W W') : MkSt W0 W' b nv k v M := by
  obtain ⟨F, h⟩ := h
  exact ⟨F, h.trans e⟩
theorem MkSt.ext {W0 W : World} {b : Nat} {nv v : Value} {k : List Int} {M : List (Nd × Value)} (h : MkSt W0 W b nv k v M) : Ext W0 W := by
  obtain ⟨F, h⟩ := h
  exact OwnL.ext h
theorem MkSt.start (W : World) : MkSt W (W.alloc (.cells #[.int .i64 (-1), .slice none 0 0] 56)) W.heap.size (.slice none 0 0) [] (.slice none 0 0) [] := by
  have h1 := (OwnL.nil (Ext.refl W)).add (Ext.refl W) (ndAny (N := W.heap.size) (w := W) (M := []) (ndT_none W) (fun e he => by cases he))
  have h2 := h1.add (Ext.refl W) (A := .row 56 2 (.slice none 0 0) 0 []) (World.ownsRow_nil W _ 56 2)
  have h3 := h2.add (Ext.refl W) (A := .row 3 1 (.slice none 0 0) 0 []) (World.ownsRow_nil W _ 3 1)
  exact ⟨_, h3.add (alloc_ext W _) (A := .blk W.heap.size (.cells #[.int .i64 (-1), .slice none 0 0] 56)) ⟨Nat.le_refl _, heap_alloc_new W _⟩⟩
theorem MkSt.cells {W0 W : World} {b : Nat} {nv v : Value} {k : List Int} {M : List (Nd × Value)} (h : MkSt W0 W b nv k v M) : W.cell? ⟨b, 0, none⟩ = some (.int .i64 (-1)) ∧ W.cell? ⟨b, 1, none⟩ = some nv ∧ W.frozen? ⟨b, 1, none⟩ = false ∧ W.ownsRow W0.heap.size 3 1 nv k.length (k.map (.int .i64)) ∧ W.ownsRow W0.heap.size 56 2 v M.length (ndsV M) ∧ NdT M W := by
  obtain ⟨F, h⟩ := h
  exact ⟨cell_of_blk (h.get 0 rfl).2 0 rfl, cell_of_blk (h.get 0 rfl).2 1 rfl, free_of_blk (h.get 0 rfl).2 1, h.get 1 rfl, h.get 2 rfl, h.know 3 rfl⟩
/-- One more number follows the own node. -/
theorem MkSt.next {W0 W W' : World} {b : Nat} {nv nv' v : Value} {k : List Int} {M : List (Nd × Value)} {y : Int} (h : MkSt W0 W b nv k v M) (hg : W.grownBy W' nv.ownBlock) (ho : W'.ownsRow W0.heap.size 3 1 nv' (k.length + 1) (k.map (.int .i64) ++ [.int .i64 y])) (hb : ∀ b, nv'.ownBlock = some b → nv.ownBlock = some b ∨ W.heap.size ≤ b) :
    W'.cell? ⟨b, 1, none⟩ = some nv ∧ W'.frozen? ⟨b, 1, none⟩ = false ∧ MkSt W0 (W'.setCell ⟨b, 1, none⟩ nv') b nv' (k ++ [y]) v M := by
  obtain ⟨F, h⟩ := h
  have h1 := h.app 1 rfl hg ho hb
  refine ⟨cell_of_blk (h1.get 0 rfl).2 1 rfl, free_of_blk (h1.get 0 rfl).2 1, F, ?_⟩
  have h2 := h1.put 0 rfl 1 nv'
  have e1 : (k ++ [y]).length = k.length + 1 := by simp
  have e2 : (k ++ [y]).map (Value.int .i64) = k.map (.int .i64) ++ [.int .i64 y] := by simp
  rw [e1, e2]
  exact h2
/-- More nodes. -/
theorem MkSt.more {W0 W W1 W' : World} {b : Nat} {nv v v' : Value} {k : List Int} {M M1 : List (Nd × Value)} (h : MkSt W0 W b nv k v M) (e : Ext W W1) (hM : NdT M1 W1) (hf : ∀ z ∈ M1, FarV W.heap.size z.2) (hg : W1.grownBy W' v.ownBlock) (ho : W'.ownsRow W0.heap.size 56 2 v' (M.length + M1.length) (ndsV M ++ ndsV M1)) (hb : ∀ b, v'.ownBlock = some b → v.ownBlock = some b ∨ W1.heap.size ≤ b) : MkSt W0 W' b nv k v' (M ++ M1) := by
  obtain ⟨F, h⟩ := h
  have h1 := h.add e (ndAny hM hf)
  have h2 := h1.app 3 rfl hg ho hb
  have h3 := (h2.perm (List.perm_middle (l₁ := [_, _, _]) (a := _) (l₂ := [_])).symm)
  have h4 : OwnL W0 W' (.blk b (.cells #[.int .i64 (-1), nv] 56) :: .row 3 1 nv k.length (k.map (.int .i64)) :: .row 56 2 v' (M.length + M1.length) (ndsV M ++ ndsV M1) :: .any (ndF M1) (NdT M1) :: .any F (NdT M) :: []) := h3
  have h5 := (h4.perm (List.perm_middle (l₁ := [_, _, _]))).perm (.cons _ (List.perm_middle (l₁ := [_, _, _])))
  have h6 := h5.merge.weaken (Φ' := NdT (M ++ M1)) (fun W h => ⟨fun z hz => by
    rcases List.mem_append.1 hz with hz | hz
    · exact h.2.1 z hz
    · exact h.1.1 z hz, fun z hz => by
    rcases List.mem_append.1 hz with hz | hz
    · exact h.2.2 z hz
    · exact h.1.2 z hz⟩)
  have h7 := h6.perm (List.perm_middle (l₁ := [_, _, _])).symm
  have e1 : (M ++ M1).length = M.length + M1.length := by simp
  refine ⟨fun b => ndF M1 b ∨ F b, ?_⟩
  rw [e1, nds_app]
  exact h7
end Go.Proofs.YtamodjlifpjaoaaDoor
