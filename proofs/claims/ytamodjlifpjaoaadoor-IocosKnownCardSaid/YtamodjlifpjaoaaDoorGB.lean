/- Words for the data of this chapter: lists, lists of lists, automata; what a call owns. append, once more: what lay at the old place lies there still. Small functions on lists: ref27.has 46, ref25.Before 32, ref25.Same 31. Systems as plain data; sets of states as numbers whose bits are the states; what silent arcs lead to. Plain. Systems in memory: arcs, rows of arcs, systems, boxes. B as raw data; B.has 36. -/
import Derived.Test.YtamodjlifpjaoaaDoorGA
namespace Go.Proofs.YtamodjlifpjaoaaDoor
open Go.RowKit
set_option linter.unusedVariables false
set_option linter.unusedSimpArgs false
attribute [local go_sem] Oper.quietV quietV Oper.gives givesV ext_refl_iff ext_alloc_iff ext_drew_iff ext_drewN_iff

def FitC (w : World) (v : Value) (xs : List Int) : Prop := IntsC w v xs xs.length
def BoolsC (w : World) (v : Value) (xs : List Bool) (c : Nat) : Prop := ∃ A, v = .slice A xs.length c ∧ Cells w A (xs.map .bool) ∧ xs.length ≤ c ∧ xs.length ≤ lenMax
theorem BoolsC.ext {w w' : World} {v : Value} {xs : List Bool} {c : Nat} (h : BoolsC w v xs c) (e : Ext w w') : BoolsC w' v xs c := by
  obtain ⟨A, hv, hc, hr⟩ := h
  exact ⟨A, hv, hc.ext e, hr⟩
theorem Cells.at_bool {w : World} {A : Option Addr} {xs : List Bool} (h : Cells w A (xs.map .bool)) {k : Nat} (hk : k < xs.length) :
    ∃ b o, A = some ⟨b, o, none⟩ ∧ b < w.heap.size ∧ w.cell? ⟨b, o + k, none⟩ = some (.bool xs[k]) := by
  obtain ⟨b, o, hA, hb, hc⟩ := h (by simp; omega)
  exact ⟨b, o, hA, hb, hc k _ (by simp [hk])⟩
theorem bools_of_owns {w : World} {base : Nat} {e : TypeId} {v : Value} {xs : List Bool} {n : Nat} (h : w.ownsRow base e 1 v n (xs.map .bool)) (hn : xs.length = n) (hl : n ≤ lenMax) : ∃ c, BoolsC w v xs c := by
  subst hn
  obtain ⟨A, c, rfl, hn, hc⟩ := cells_of_owns h
  exact ⟨c, A, rfl, hc, hn, hl⟩
theorem fit_of_owns {w : World} {base : Nat} {e : TypeId} {xs : List Int} {n g : Nat} (h : w.ownsRow base e 1 (.slice (some ⟨g, 0, none⟩) n n) n (xs.map (.int .i64))) (hn : xs.length = n) (hl : n ≤ lenMax) : FitC w (.slice (some ⟨g, 0, none⟩) n n) xs := by
  subst hn
  obtain ⟨A, c, hv, hn, hc⟩ := cells_of_owns h
  cases hv
  exact ⟨_, rfl, hc, Nat.le_refl _, hl⟩
theorem int_info : (Tryd.prog.info? 3).map (fun i => (i.zero, i.size, i.bytes)) = some (some (.int .i64 0), 1, 8) := by kernel_rfl
theorem bool_info : (Tryd.prog.info? 4).map (fun i => (i.zero, i.size, i.bytes)) = some (some (.bool false), 1, 1) := by kernel_rfl
theorem ints_info : (Tryd.prog.info? 30).map (fun i => (i.zero, i.size, i.bytes)) = some (some (.slice none 0 0), 1, 24) := by kernel_rfl
theorem ints_zero (n : Nat) : ((madeCells (Value.int .i64 0).cells (n * 1)).toList) = List.replicate n (.int .i64 0) := by
  rw [Nat.mul_one, show (Value.int .i64 0).cells = #[.int .i64 0] from rfl, toList_madeCells_one]
theorem bools_zero (n : Nat) : ((madeCells (Value.bool false).cells (n * 1)).toList) = List.replicate n (.bool false) := by
  rw [Nat.mul_one, show (Value.bool false).cells = #[.bool false] from rfl, toList_madeCells_one]
theorem slices_zero (n : Nat) : ((madeCells (Value.slice none 0 0).cells (n * 1)).toList) = List.replicate n (.slice none 0 0) := by
  rw [Nat.mul_one, show (Value.slice none 0 0).cells = #[.slice none 0 0] from rfl, toList_madeCells_one]
theorem step_append_own2 {P : Program} {ops : Array Oper} {o : Oper} {a : Act} {w : World} {K : Act → World → Prop} {Q : Exit → Act → World → Prop} {E : Prop}
    (hg : o.guard = none) (s x : Operand) (t : TypeId) (ho : o.op = .call { callee := .builtin .append, args := #[s, x], argTypes := #[t, t] })
    (base : Nat) (e : TypeId) (i : TypeInfo) (z : Value) (size bytes : Nat) (ht : P.underlying t = some (.slice e)) (hi : P.info? e = some i) (hz : i.zero = some z)
    (hsize : i.size = size) (hby : i.bytes = bytes) (hzs : z.cells.size = size) (hsz : 0 < size)
    (v : Value) (n : Nat) (xs : List Value) (hs : a.eval s = v) (hown : w.ownsRow base e size v n xs)
    (ad : Addr) (m c : Nat) (news : List Value) (hx : a.eval x = .slice (some ad) m c) (hl : news.length = m * size) (hnews : ∀ j u, news[j]? = some u → w.cell? (ad.add j) = some u) (h1 : ∀ u ∈ news, u.oneCell' = true)
    (h63 : n + m ≤ maxLen) (hbytes : (n + m) * bytes ≤ 140737488355328) (hbase : base ≤ w.heap.size)
    (h : ∀ v' w', w'.ownsRow base e size v' (n + m) (xs ++ news) → w.grownBy w' v.ownBlock → (∀ b, v'.ownBlock = some b → v.ownBlock = some b ∨ w.heap.size ≤ b) → K (a.put o.dst v') w') :
    if Region.wanted o (yielded ops a.tmps) = true then Oper.wp P o a w K Q else E := by
  have hw : Region.wanted o (yielded ops a.tmps) = true := by simp [Region.wanted, hg]
  rw [if_pos hw]
  exact wp_append_own2 s x t ho base e i z size bytes ht hi hz hsize hby hzs hsz v n xs hs hown ad m c news hx hl hnews h1 h63 hbytes hbase h
theorem wpList_append_own2 {P : Program} {w : World} {ops : Array Oper} {rest : List Oper} {o : Oper} {a : Act} {Q : Exit → Act → World → Prop} (hgd : o.guard = none) (s x : Operand) (t : TypeId)
    (ho : o.op = .call { callee := .builtin .append, args := #[s, x], argTypes := #[t, t] })
    (base : Nat) (e : TypeId) (i : TypeInfo) (z : Value) (size bytes : Nat) (ht : P.underlying t = some (.slice e)) (hi : P.info? e = some i) (hz : i.zero = some z)
    (hsize : i.size = size) (hby : i.bytes = bytes) (hzs : z.cells.size = size) (hsz : 0 < size)
    (v : Value) (n : Nat) (xs : List Value) (hs : a.eval s = v) (hown : w.ownsRow base e size v n xs)
    (ad : Addr) (m c : Nat) (news : List Value) (hx : a.eval x = .slice (some ad) m c) (hl : news.length = m * size) (hnews : ∀ j u, news[j]? = some u → w.cell? (ad.add j) = some u) (h1 : ∀ u ∈ news, u.oneCell' = true)
    (h63 : n + m ≤ maxLen) (hbytes : (n + m) * bytes ≤ 140737488355328) (hbase : base ≤ w.heap.size)
    (h : ∀ v' w', w'.ownsRow base e size v' (n + m) (xs ++ news) → w.grownBy w' v.ownBlock → (∀ b, v'.ownBlock = some b → v.ownBlock = some b ∨ w.heap.size ≤ b) → wpList P ops Q rest (a.put o.dst v') w') : wpList P ops Q (o :: rest) a w :=
  wpList_plain hgd fun _ hK => wp_append_own2 s x t ho base e i z size bytes ht hi hz hsize hby hzs hsz v n xs hs hown ad m c news hx hl hnews h1 h63 hbytes hbase fun v' w' h2 h3 h4 => hK _ _ (h v' w' h2 h3 h4)
theorem cells_new (W : World) (cs : Array Value) (t : TypeId) : ∀ (j : Nat) (u : Value), cs.toList[j]? = some u → (W.alloc (.cells cs t)).cell? ((⟨W.heap.size, 0, none⟩ : Addr).add j) = some u := by
  intro j u h
  rw [Addr.add_lit]
  have hb : (W.alloc (.cells cs t)).heap[W.heap.size]? = some (.cells cs t) := heap_alloc_new W _
  rw [Nat.zero_add]
  refine (cell_of_row _ _ j cs t (0, 0) hb).trans ?_
  simpa using h
theorem one_int (x : Int) : ∀ u ∈ [Value.int .i64 x], u.oneCell' = true := by intro u hu; simp at hu; subst hu; rfl
theorem one_bool (x : Bool) : ∀ u ∈ [Value.bool x], u.oneCell' = true := by intro u hu; simp at hu; subst hu; rfl
theorem one_slice (x : Option Addr) (n c : Nat) : ∀ u ∈ [Value.slice x n c], u.oneCell' = true := by intro u hu; simp at hu; subst hu; rfl
theorem cell_own {w W : World} {L : List Asn} (h : OwnL w W L) (k : Nat) {e g n c : Nat} {xs : List Value} (hk : L[k]? = some (.row e 1 (.slice (some ⟨g, 0, none⟩) n c) n xs)) {j : Nat} {u : Value} (hj : xs[j]? = some u) : W.cell? ⟨g, j, none⟩ = some u := by
  have h1 : W.ownsRow w.heap.size e 1 (.slice (some ⟨g, 0, none⟩) n c) n xs := h.get k hk
  have := h1.cells (g := g) rfl j u hj
  rw [Addr.add_lit, Nat.zero_add] at this
  exact this
theorem free_own {w W : World} {L : List Asn} (h : OwnL w W L) (k : Nat) {e g n c : Nat} {xs : List Value} (hk : L[k]? = some (.row e 1 (.slice (some ⟨g, 0, none⟩) n c) n xs)) (j : Nat) : W.frozen? ⟨g, j, none⟩ = false := by
  have h1 : W.ownsRow w.heap.size e 1 (.slice (some ⟨g, 0, none⟩) n c) n xs := h.get k hk
  exact h1.frozenAt j
theorem free_rows {w W : World} {L : List Asn} (h : OwnL w W L) (k : Nat) {e1 e2 s2 g c : Nat} {vs : List Value} {rs : List (Nat × List Value)} (hk : L[k]? = some (.rows e1 e2 s2 (.slice (some ⟨g, 0, none⟩) vs.length c) vs rs)) (j : Nat) : W.frozen? ⟨g, j, none⟩ = false := by
  have h1 : OwnRows W w.heap.size e1 e2 s2 (.slice (some ⟨g, 0, none⟩) vs.length c) vs rs := h.get k hk
  exact h1.own.frozenAt j
theorem cell_rows {w W : World} {L : List Asn} (h : OwnL w W L) (k : Nat) {e1 e2 s2 g c : Nat} {vs : List Value} {rs : List (Nat × List Value)} (hk : L[k]? = some (.rows e1 e2 s2 (.slice (some ⟨g, 0, none⟩) vs.length c) vs rs)) {j : Nat} {u : Value} (hj : vs[j]? = some u) : W.cell? ⟨g, j, none⟩ = some u := by
  have h1 : OwnRows W w.heap.size e1 e2 s2 (.slice (some ⟨g, 0, none⟩) vs.length c) vs rs := h.get k hk
  have := h1.own.cells (g := g) rfl j u hj
  rw [Addr.add_lit, Nat.zero_add] at this
  exact this
theorem OwnL.ints {w W : World} {L : List Asn} (h : OwnL w W L) (k : Nat) {e n g : Nat} {xs : List Int} (hk : L[k]? = some (.row e 1 (.slice (some ⟨g, 0, none⟩) n n) n (xs.map (.int .i64)))) (hn : xs.length = n) (hl : n ≤ lenMax) : FitC W (.slice (some ⟨g, 0, none⟩) n n) xs := fit_of_owns (h.get k hk) hn hl
/-- New rows, all of them nil. -/
theorem nils_own {W W' : World} {e1 e2 s2 g n : Nat} (h : W'.ownsRow W.heap.size e1 1 (.slice (some ⟨g, 0, none⟩) n n) n (List.replicate n (.slice none 0 0))) :
    Asn.ok W.heap.size W' (.rows e1 e2 s2 (.slice (some ⟨g, 0, none⟩) (List.replicate n (Value.slice none 0 0)).length n) (List.replicate n (.slice none 0 0)) (List.replicate n (0, []))) := by
  have hr : ∀ (j : Nat) (u : Value), (List.replicate n (Value.slice none 0 0))[j]? = some u → u = .slice none 0 0 := fun j u hj => by
    rw [List.getElem?_replicate] at hj; split at hj <;> simp_all
  refine ⟨by simpa using h, by simp, fun j u r hj hj' => ?_, fun i j u u' hi hj _ b hb => ?_, fun j u hj b hb => ?_⟩
  · rw [hr j u hj]
    have : r = (0, []) := by rw [List.getElem?_replicate] at hj'; split at hj' <;> simp_all
    subst this
    exact World.ownsRow_nil _ _ _ _
  · rw [hr i u hi] at hb; cases hb
  · rw [hr j u hj] at hb; cases hb
/-- v is a new list of just these numbers, without spare room. -/
def OwnI (w w' : World) (v : Value) (xs : List Int) : Prop := ∃ A, v = .slice A xs.length xs.length ∧ w'.ownsRow w.heap.size 3 1 v xs.length (xs.map (.int .i64))
def OwnB (w w' : World) (v : Value) (xs : List Bool) : Prop := ∃ A, v = .slice A xs.length xs.length ∧ w'.ownsRow w.heap.size 4 1 v xs.length (xs.map .bool)
def FitB (w : World) (v : Value) (xs : List Bool) : Prop := BoolsC w v xs xs.length
theorem OwnI.fit {w w' : World} {v : Value} {xs : List Int} (h : OwnI w w' v xs) (hl : xs.length ≤ 100000) : FitC w' v xs := by
  obtain ⟨A, rfl, h⟩ := h
  obtain ⟨A', c, hv, hn, hc⟩ := cells_of_owns h
  cases hv
  exact ⟨_, rfl, hc, Nat.le_refl _, by unfold lenMax; omega⟩
theorem OwnB.fit {w w' : World} {v : Value} {xs : List Bool} (h : OwnB w w' v xs) (hl : xs.length ≤ 100000) : FitB w' v xs := by
  obtain ⟨A, rfl, h⟩ := h
  obtain ⟨A', c, hv, hn, hc⟩ := cells_of_owns h
  cases hv
  exact ⟨_, rfl, hc, Nat.le_refl _, by unfold lenMax; omega⟩
theorem OwnI.ext {w w' w'' : World} {v : Value} {xs : List Int} (h : OwnI w w' v xs) (e : Ext w' w'') : OwnI w w'' v xs := by
  obtain ⟨A, hv, h⟩ := h
  exact ⟨A, hv, ownsRow_ext h e⟩
theorem OwnB.ext {w w' w'' : World} {v : Value} {xs : List Bool} (h : OwnB w w' v xs) (e : Ext w' w'') : OwnB w w'' v xs := by
  obtain ⟨A, hv, h⟩ := h
  exact ⟨A, hv, ownsRow_ext h e⟩
theorem OwnI.mono {w0 w w' : World} {v : Value} {xs : List Int} (h : OwnI w w' v xs) (e : Ext w0 w) : OwnI w0 w' v xs := by
  obtain ⟨A, hv, h⟩ := h
  exact ⟨A, hv, own_mono h e.size⟩
theorem OwnB.mono {w0 w w' : World} {v : Value} {xs : List Bool} (h : OwnB w w' v xs) (e : Ext w0 w) : OwnB w0 w' v xs := by
  obtain ⟨A, hv, h⟩ := h
  exact ⟨A, hv, own_mono h e.size⟩

theorem OwnL.perm {w W : World} {L L' : List Asn} (h : OwnL w W L) (hp : L.Perm L') : OwnL w W L' :=
  ⟨h.ext, fun A hA => h.ok A (hp.mem_iff.2 hA), hp.pairwise h.apart (fun {A B} hab b hb hb' => hab b hb' hb)⟩
theorem OwnL.swap {w W : World} {A B : Asn} {L : List Asn} (h : OwnL w W (A :: B :: L)) : OwnL w W (B :: A :: L) := h.perm (.swap _ _ _)
set_option maxRecDepth 100000 in
theorem mk_slice {t e : TypeId} {i : TypeInfo} {z : Value} {bytes : Nat} (ht : Tryd.prog.underlying t = some (.slice e)) (hi : (Tryd.prog.info? e).map (fun i => (i.zero, i.size, i.bytes)) = some (some z, 1, bytes)) (hz : z.cells = #[z]) (hb : bytes ≤ 100) (n : Nat) (hn : n ≤ 100000) (w : World) :
    (Instr.makeSlice t (.int .i64 (n : Int)) (.int .i64 (n : Int))).run Tryd.prog w = .ok (.slice (some ⟨w.heap.size, 0, none⟩) n n) (w.alloc (.cells (Array.replicate n z) e)) := by
  obtain ⟨i, hi, hz0, hs, hb0⟩ := info_parts hi
  have hm : (i.bytes : Int) * (n : Int) ≤ 281474976710656 := by
    have h1 : i.bytes * n ≤ 100 * 100000 := Nat.mul_le_mul (by omega) hn
    have h2 : ((i.bytes * n : Nat) : Int) ≤ 281474976710656 := by omega
    rwa [Int.natCast_mul] at h2
  have hr := run_make (P := Tryd.prog) w t e i z ht hi hz0 .i64 .i64 n n (by omega) (Int.le_refl _) hm (by omega)
  simp only [Int.toNat_natCast] at hr
  rw [hr, hs, Nat.mul_one, hz]
  congr 3
  exact Array.ext' (by rw [toList_madeCells_one]; simp)
theorem mk_ints (n : Nat) (hn : n ≤ 100000) (w : World) : (Instr.makeSlice 30 (.int .i64 (n : Int)) (.int .i64 (n : Int))).run Tryd.prog w = .ok (.slice (some ⟨w.heap.size, 0, none⟩) n n) (w.alloc (.cells (Array.replicate n (.int .i64 0)) 3)) := mk_slice (i := default) Tryd.underlying30 int_info rfl (by decide) n hn w
theorem mk_slices (n : Nat) (hn : n ≤ 100000) (w : World) : (Instr.makeSlice 86 (.int .i64 (n : Int)) (.int .i64 (n : Int))).run Tryd.prog w = .ok (.slice (some ⟨w.heap.size, 0, none⟩) n n) (w.alloc (.cells (Array.replicate n (.slice none 0 0)) 30)) := mk_slice (i := default) Tryd.underlying86 ints_info rfl (by decide) n hn w
set_option maxRecDepth 100000 in
theorem own_new (W : World) (z : Value) (e : TypeId) (n : Nat) (hn : n ≤ 100000) : (W.alloc (.cells (Array.replicate n z) e)).ownsRow W.heap.size e 1 (.slice (some ⟨W.heap.size, 0, none⟩) n n) n (List.replicate n z) := by
  have h := World.ownsRow_lit (base := W.heap.size) (e := e) (size := 1) W (Array.replicate n z) n (Nat.le_refl _) (by unfold maxLen; omega) (by simp)
  simpa using h
theorem alloc_ext (W : World) (o : Obj) : Ext W (W.alloc o) := (Ext.refl W).alloc o
theorem grown_ext {W W' : World} (h : W.grownBy W' none) : Ext W W' := ⟨h.os, h.tape, h.output, h.size, fun k hk => h.block k hk (by simp)⟩
theorem drew_ext (W : World) : Ext W W.drew := (Ext.refl W).drew

theorem rows_keep {w W W' : World} {L : List Asn} (h : OwnL w W L) (k : Nat) {e1 e2 s2 g c : Nat} {vs : List Value} {rs : List (Nat × List Value)} (hk : L[k]? = some (.rows e1 e2 s2 (.slice (some ⟨g, 0, none⟩) vs.length c) vs rs)) {j : Nat} {u : Value} (hj : vs[j]? = some u)
    (hg : W.grownBy W' u.ownBlock) : W'.cell? ⟨g, j, none⟩ = some u ∧ W'.frozen? ⟨g, j, none⟩ = false := by
  have hO : OwnRows W w.heap.size e1 e2 s2 (.slice (some ⟨g, 0, none⟩) vs.length c) vs rs := h.get k hk
  have hb := hg.block g (hO.own.lt g rfl).2 (fun e => hO.away j u hj g e.symm rfl)
  exact ⟨(World.cell?_of_block (a := ⟨g, j, none⟩) hb).trans (cell_rows h k hk hj), (World.frozen?_of_block (a := ⟨g, j, none⟩) hb).trans (free_rows h k hk j)⟩
theorem ownsRow_pos {W : World} {base : Nat} {e : TypeId} {size : Nat} {v : Value} {k : Nat} {xs : List Value} (h : W.ownsRow base e size v k xs) (hk : 0 < k) : ∃ g cap, v = .slice (some ⟨g, 0, none⟩) k cap := by
  rcases h.2 with ⟨_, h0⟩ | ⟨g, cap, _, rfl, _⟩
  · omega
  · exact ⟨g, cap, rfl⟩
theorem OwnL.push {w W W' : World} {L : List Asn} {e1 e2 s2 n : Nat} {x v v' : Value} {xs : List Value} {vs : List Value} {rs : List (Nat × List Value)} (h : OwnL w W (.row e2 s2 x n xs :: .rows e1 e2 s2 v vs rs :: L)) (hg : W.grownBy W' v.ownBlock)
    (h4 : W'.ownsRow w.heap.size e1 1 v' (vs.length + 1) (vs ++ [x])) (hb : ∀ b, v'.ownBlock = some b → v.ownBlock = some b ∨ W.heap.size ≤ b) : OwnL w W' (.rows e1 e2 s2 v' (vs ++ [x]) (rs ++ [(n, xs)]) :: L) := by
  have hx : W.ownsRow w.heap.size e2 s2 x n xs := h.get 0 rfl
  have hO : OwnRows W w.heap.size e1 e2 s2 v vs rs := h.get 1 rfl
  obtain ⟨ha1, ha2⟩ := List.pairwise_cons.1 h.apart
  obtain ⟨ha3, ha4⟩ := List.pairwise_cons.1 ha2
  have hxr : ∀ b, x.ownBlock = some b → v.ownBlock ≠ some b ∧ ∀ u ∈ vs, u.ownBlock ≠ some b := fun b hb' => by
    have h1 := ha1 (.rows e1 e2 s2 v vs rs) (by simp) b hb'
    exact ⟨fun e => h1 (.inl e), fun u hu e => h1 (.inr ⟨u, hu, e⟩)⟩
  have hkeep : ∀ (u : Value) (k : Nat) (ys : List Value), W.ownsRow w.heap.size e2 s2 u k ys → (∀ b, u.ownBlock = some b → v.ownBlock ≠ some b) → W'.ownsRow w.heap.size e2 s2 u k ys := fun u k ys hu hne =>
    ownsRow_of hu (fun b hb' => hg.block b (hu.lt b hb').2 (fun e => hne b hb' e.symm))
  have hget : ∀ (j : Nat) (u : Value), (vs ++ [x])[j]? = some u → (j < vs.length ∧ vs[j]? = some u) ∨ (j = vs.length ∧ u = x) := fun j u hj => by
    by_cases hlt : j < vs.length
    · rw [List.getElem?_append_left hlt] at hj; exact .inl ⟨hlt, hj⟩
    · have hjl := (List.getElem?_eq_some_iff.1 hj).1
      have : j = vs.length := by simp at hjl; omega
      subst this
      rw [List.getElem?_append_right (Nat.le_refl _), Nat.sub_self] at hj
      cases hj; exact .inr ⟨rfl, rfl⟩
  have hnew : OwnRows W' w.heap.size e1 e2 s2 v' (vs ++ [x]) (rs ++ [(n, xs)]) := by
    refine ⟨by simpa using h4, by simp [hO.len], fun j u r hj hr => ?_, fun i j u u' hi hj hij b hb1 hb2 => ?_, fun j u hj b hb1 hb2 => ?_⟩
    · rcases hget j u hj with ⟨hlt, hj'⟩ | ⟨rfl, rfl⟩
      · rw [List.getElem?_append_left (by rw [← hO.len]; exact hlt)] at hr
        exact hkeep u _ _ (hO.each j u r hj' hr) (fun b hb' e => hO.away j u hj' b hb' e)
      · rw [List.getElem?_append_right (by rw [hO.len]; exact Nat.le_refl _), hO.len, Nat.sub_self] at hr
        cases hr
        exact hkeep u _ _ hx (fun b hb' => (hxr b hb').1)
    · rcases hget i u hi with ⟨h1, hi'⟩ | ⟨h1, rfl⟩ <;> rcases hget j u' hj with ⟨h2, hj'⟩ | ⟨h2, rfl⟩
      · exact hO.apart i j u u' hi' hj' hij b hb1 hb2
      · exact (hxr b hb2).2 u (List.mem_of_getElem? hi') hb1
      · exact (hxr b hb1).2 u' (List.mem_of_getElem? hj') hb2
      · omega
    · rcases hb b hb2 with h1 | h1
      · rcases hget j u hj with ⟨_, hj'⟩ | ⟨_, rfl⟩
        · exact hO.away j u hj' b hb1 h1
        · exact (hxr b hb1).1 h1
      · rcases hget j u hj with ⟨_, hj'⟩ | ⟨_, rfl⟩
        · have := (OwnRows.lt hO (List.mem_of_getElem? hj') hb1).2; omega
        · have := (hx.lt b hb1).2; omega
  have hother : ∀ B ∈ L, ∀ b, B.foot b → v.ownBlock ≠ some b := fun B hB b hb' e => ha3 B hB b (.inl e) hb'
  refine ⟨Below.grown h.ext hg h.ext.size (fun b hb' => (hO.own.lt b hb').1), fun B hB => ?_, List.pairwise_cons.2 ⟨fun B hB b hb1 hb2 => ?_, ha4⟩⟩
  · rcases List.mem_cons.1 hB with rfl | hB
    · exact hnew
    · have hB0 := h.ok B (by simp [hB])
      exact Asn.of hB0 (fun b hb' => hg.block b (Asn.lt hB0 hb').2 (fun e => hother B hB b hb' e.symm))
  · have hB0 := h.ok B (by simp [hB])
    rcases hb1 with hb1 | ⟨u, hu, hb1⟩
    · rcases hb b hb1 with h1 | h1
      · exact hother B hB b hb2 h1
      · have := (Asn.lt hB0 hb2).2; omega
    · rcases List.mem_append.1 hu with hu | hu
      · exact ha3 B hB b (.inr ⟨u, hu, hb1⟩) hb2
      · simp at hu; subst hu
        exact ha1 B (by simp [hB]) b hb1 hb2

theorem own_far {W : World} {B e s n : Nat} {v : Value} {xs : List Value} (h : W.ownsRow B e s v n xs) {b : Nat} (hb : W.heap.size ≤ b) : some b ≠ v.ownBlock := fun he => by
  have := (World.ownsRow.lt h b he.symm).2
  omega
theorem new_cell (W : World) (x : Value) (t : TypeId) (n : Nat) (hn : W.heap.size = n) : ∀ (j : Nat) (u : Value), [x][j]? = some u → (W.alloc (.cells #[x] t)).cell? ((⟨n, 0, none⟩ : Addr).add j) = some u := by
  subst hn; exact cells_new W #[x] t
theorem cells_blk {W : World} {b : Nat} {cs : Array Value} {t : TypeId} (h : W.heap[b]? = some (.cells cs t (0, 0))) : Cells W (some ⟨b, 0, none⟩) cs.toList := fun _ =>
  ⟨b, 0, rfl, lt_of_block h, fun j u hu => by rw [Nat.zero_add]; exact cell_of_blk h j (by simpa using hu)⟩
theorem bools_blk {W : World} {b t n : Nat} {cs : Array Value} {xs : List Bool} (h : W.heap[b]? = some (.cells cs t (0, 0))) (hc : cs.toList = xs.map .bool) (hn : xs.length = n) (hl : n ≤ 100000) : FitB W (.slice (some ⟨b, 0, none⟩) n n) xs := by
  subst hn
  exact ⟨_, rfl, hc ▸ cells_blk h, Nat.le_refl _, by unfold lenMax; omega⟩
theorem ints_blk {W : World} {b t n : Nat} {cs : Array Value} {xs : List Int} (h : W.heap[b]? = some (.cells cs t (0, 0))) (hc : cs.toList = xs.map (.int .i64)) (hn : xs.length = n) (hl : n ≤ 100000) : FitC W (.slice (some ⟨b, 0, none⟩) n n) xs := by
  subst hn
  exact ⟨_, rfl, hc ▸ cells_blk h, Nat.le_refl _, by unfold lenMax; omega⟩
theorem fit_nil (W : World) : FitC W (.slice none 0 0) [] := ⟨none, rfl, Cells.nil _ _, Nat.le_refl _, by unfold lenMax; simp⟩
theorem new_cell2 (W : World) (x y : Value) (t : TypeId) (n : Nat) (hn : W.heap.size = n) : ∀ (j : Nat) (u : Value), [x, y][j]? = some u → (W.alloc (.cells #[x, y] t)).cell? ((⟨n, 0, none⟩ : Addr).add j) = some u := by
  subst hn; exact cells_new W #[x, y] t

/-- A slice of the lists of numbers. -/
def ListsC (w : World) (v : Value) (rows : List (List Int)) (c : Nat) : Prop :=
  ∃ A vs, v = .slice A rows.length c ∧ Cells w A vs ∧ vs.length = rows.length ∧ (∀ (i : Nat) (u : Value) (es : List Int), vs[i]? = some u → rows[i]? = some es → ∃ c', IntsC w u es c') ∧ rows.length ≤ c ∧ rows.length ≤ lenMax
theorem ListsC.ext {w w' : World} {v : Value} {rows : List (List Int)} {c : Nat} (h : ListsC w v rows c) (e : Ext w w') : ListsC w' v rows c := by
  obtain ⟨A, vs, hv, hc, hl, hr, hb⟩ := h
  exact ⟨A, vs, hv, hc.ext e, hl, fun i u es hu hes => by
    obtain ⟨c', h'⟩ := hr i u es hu hes
    exact ⟨c', h'.ext e⟩, hb⟩
theorem ListsC.at_ {w : World} {v : Value} {rows : List (List Int)} {c : Nat} (h : ListsC w v rows c) {k : Nat} (hk : k < rows.length) :
    ∃ b o u c', v = .slice (some ⟨b, o, none⟩) rows.length c ∧ b < w.heap.size ∧ w.cell? ⟨b, o + k, none⟩ = some u ∧ IntsC w u rows[k] c' := by
  obtain ⟨A, vs, rfl, hc, hl, hr, _⟩ := h
  obtain ⟨b, o, rfl, hb, hcc⟩ := hc (by omega)
  have hk' : k < vs.length := by omega
  obtain ⟨c', he⟩ := hr k vs[k] rows[k] (List.getElem?_eq_getElem hk') (List.getElem?_eq_getElem hk)
  exact ⟨b, o, vs[k], c', rfl, hb, hcc k _ (List.getElem?_eq_getElem hk'), he⟩
theorem lists_nil (W : World) : ListsC W (.slice none 0 0) [] 0 := ⟨none, [], rfl, Cells.nil _ _, rfl, fun i u es h => by simp at h, Nat.le_refl _, by unfold lenMax; simp⟩
theorem lists_blk {W : World} {b t n : Nat} {cs : Array Value} {rows : List (List Int)} (h : W.heap[b]? = some (.cells cs t (0, 0))) (hc : cs.size = n) (hn : rows.length = n) (hl : n ≤ 1000)
    (hr : ∀ (i : Nat) (u : Value) (es : List Int), cs[i]? = some u → rows[i]? = some es → ∃ c', IntsC W u es c') : ListsC W (.slice (some ⟨b, 0, none⟩) n n) rows n := by
  subst hn
  exact ⟨_, cs.toList, rfl, cells_blk h, by simpa using hc, fun i u es hu hes => hr i u es (by simpa using hu) hes, Nat.le_refl _, by unfold lenMax; omega⟩
def iRow (r : List Int) : Nat × List Value := (r.length, r.map (.int .i64))
theorem listsC_of_own {W : World} {B : Nat} {A : Option Addr} {c n : Nat} {vs : List Value} {rows : List (List Int)} (h : OwnRows W B 30 3 1 (.slice A n c) vs (rows.map iRow)) (hn : rows.length = n) (hl : n ≤ lenMax) (hr : ∀ r ∈ rows, r.length ≤ lenMax) : ListsC W (.slice A n c) rows c := by
  subst hn
  have hlen : vs.length = rows.length := by rw [h.len]; simp
  obtain ⟨A', c', hv, hnc, hc⟩ := cells_of_owns h.own
  rw [hlen] at hv hnc
  cases hv
  refine ⟨A, vs, rfl, hc, hlen, fun i u es hu hes => ?_, hnc, hl⟩
  have h1 := h.each i u (iRow es) hu (by rw [List.getElem?_map, hes]; rfl)
  obtain ⟨A2, c2, rfl, h3, h4⟩ := cells_of_owns h1
  exact ⟨c2, A2, rfl, h4, h3, hr es (List.mem_of_getElem? hes)⟩

end Go.Proofs.YtamodjlifpjaoaaDoor

namespace Go.Proofs.YtamodjlifpjaoaaDoor
open Go.RowKit
set_option linter.unusedVariables false
set_option linter.unusedSimpArgs false
section
variable {P : Program} {w : World}
def KeptAt (w' : World) (v : Value) (xs : List Value) : Prop := ∀ g n c, v = .slice (some ⟨g, 0, none⟩) n c → ∀ j u, xs[j]? = some u → w'.cell? ⟨g, j, none⟩ = some u
theorem cell_at_own {w : World} {base : Nat} {e : TypeId} {size g n c : Nat} {xs : List Value} (h : w.ownsRow base e size (.slice (some ⟨g, 0, none⟩) n c) n xs) {j : Nat} {u : Value} (hj : xs[j]? = some u) : w.cell? ⟨g, j, none⟩ = some u := by
  have := h.cells (g := g) rfl j u hj
  rw [Addr.add_lit, Nat.zero_add] at this
  exact this
theorem run_append_own3 (base : Nat) (t ty e : TypeId) (i : TypeInfo) (z : Value) (size bytes : Nat) (ht : P.underlying t = some (.slice e)) (hi : P.info? e = some i) (hz : i.zero = some z)
    (hsize : i.size = size) (hby : i.bytes = bytes) (hzs : z.cells.size = size) (hsz : 0 < size)
    (v : Value) (n : Nat) (xs : List Value) (hown : w.ownsRow base e size v n xs)
    (a : Addr) (m c : Nat) (news : List Value) (hl : news.length = m * size) (hnews : ∀ j u, news[j]? = some u → w.cell? (a.add j) = some u) (h1 : ∀ u ∈ news, u.oneCell' = true)
    (h63 : n + m ≤ maxLen) (hbytes : (n + m) * bytes ≤ 140737488355328) (hbase : base ≤ w.heap.size) :
    ∃ v' w', (Builtin.append_ #[t, t] ty #[v, .slice (some a) m c]).run P w = .ok v' w' ∧ w'.ownsRow base e size v' (n + m) (xs ++ news) ∧ w.grownBy w' v.ownBlock ∧
      (∀ b, v'.ownBlock = some b → v.ownBlock = some b ∨ w.heap.size ≤ b) ∧ KeptAt w' v xs := by
  obtain ⟨v', w', hr, h2, h3, h4⟩ := run_append_own2 (P := P) (w := w) base t ty e i z size bytes ht hi hz hsize hby hzs hsz v n xs hown a m c news hl hnews h1 h63 hbytes hbase
  refine ⟨v', w', hr, h2, h3, h4, ?_⟩
  subst hsize
  subst hby
  have hsmall : n + m ≤ 9223372036854775807 := by simp only [maxLen] at h63; omega
  rcases hown.2 with ⟨rfl, rfl⟩ | ⟨g, cap, cur, rfl, hbg, hg, hnc, hcm, hcs, htake⟩
  · intro g n' c' hv; cases hv
  · by_cases hroom : n + m ≤ cap
    · have hfit : n * i.size + news.length ≤ cur.size := by rw [hl, hcs, ← Nat.add_mul]; exact Nat.mul_le_mul_right _ hroom
      have hr2 := run_append_room (P := P) w t ty e i ht hi g n cap cur hg a m c news hl hnews h1 hroom hfit
      rw [hr] at hr2
      cases hr2
      intro g' n' c' hv j u hj
      cases hv
      refine cell_at_own h2 ?_
      rw [List.getElem?_append_left (List.getElem?_eq_some_iff.1 hj).1]; exact hj
    · have holds : ∀ j u, xs[j]? = some u → w.cell? ((⟨g, 0, none⟩ : Addr).add j) = some u := hown.cells (g := g) rfl
      have hr2 := run_append_grow (P := P) w t ty e i z ht hi hz ⟨g, 0, none⟩ n cap xs hown.1 holds a m c news hl hnews (by omega) (by omega) (growslice_fits (by omega) hbytes)
      rw [hr] at hr2
      cases hr2
      intro g' n' c' hv j u hj
      cases hv
      exact ((drew_ext w).trans (alloc_ext _ _)).cell (cell_at_own hown hj)
theorem step_append_own3 {ops : Array Oper} {o : Oper} {a : Act} {K : Act → World → Prop} {Q : Exit → Act → World → Prop} {E : Prop}
    (hg : o.guard = none) (s x : Operand) (t : TypeId) (ho : o.op = .call { callee := .builtin .append, args := #[s, x], argTypes := #[t, t] })
    (base : Nat) (e : TypeId) (i : TypeInfo) (z : Value) (size bytes : Nat) (ht : P.underlying t = some (.slice e)) (hi : P.info? e = some i) (hz : i.zero = some z)
    (hsize : i.size = size) (hby : i.bytes = bytes) (hzs : z.cells.size = size) (hsz : 0 < size)
    (v : Value) (n : Nat) (xs : List Value) (hs : a.eval s = v) (hown : w.ownsRow base e size v n xs)
    (ad : Addr) (m c : Nat) (news : List Value) (hx : a.eval x = .slice (some ad) m c) (hl : news.length = m * size) (hnews : ∀ j u, news[j]? = some u → w.cell? (ad.add j) = some u) (h1 : ∀ u ∈ news, u.oneCell' = true)
    (h63 : n + m ≤ maxLen) (hbytes : (n + m) * bytes ≤ 140737488355328) (hbase : base ≤ w.heap.size)
    (h : ∀ v' w', w'.ownsRow base e size v' (n + m) (xs ++ news) → w.grownBy w' v.ownBlock → (∀ b, v'.ownBlock = some b → v.ownBlock = some b ∨ w.heap.size ≤ b) → KeptAt w' v xs → K (a.put o.dst v') w') :
    if Region.wanted o (yielded ops a.tmps) = true then Oper.wp P o a w K Q else E := by
  have hw : Region.wanted o (yielded ops a.tmps) = true := by simp [Region.wanted, hg]
  rw [if_pos hw]
  obtain ⟨v', w', hr, h2, h3, h4, h5⟩ := run_append_own3 (P := P) (w := w) base t o.type e i z size bytes ht hi hz hsize hby hzs hsz v n xs hown ad m c news hl hnews h1 h63 hbytes hbase
  unfold Oper.wp execOp
  simp only [ho, resolve, invoke, builtin, Sem.run_bind, Sem.run_pure, Result.andThen_ok, List.map_toArray, List.map_cons, List.map_nil, hs, hx, hr]
  exact h v' w' h2 h3 h4 h5
theorem new_blk {W : World} {b t : Nat} {cs : Array Value} (h : W.heap[b]? = some (.cells cs t (0, 0))) : ∀ (j : Nat) (u : Value), cs.toList[j]? = some u → W.cell? ((⟨b, 0, none⟩ : Addr).add j) = some u := fun j u hj => by
  rw [Addr.add_lit, Nat.zero_add]; exact cell_of_blk h j (by simpa using hj)
end
end Go.Proofs.YtamodjlifpjaoaaDoor

namespace Go.Proofs.YtamodjlifpjaoaaDoor
open Go.RowKit
set_option linter.unusedVariables false
set_option linter.unusedSimpArgs false
attribute [local go_sem] Oper.quietV quietV Oper.gives givesV ext_refl_iff ext_alloc_iff ext_drew_iff ext_drewN_iff

def b01 (b : Bool) : Int := if b then 1 else 0
def hasL (xs : List Int) (x : Int) : Bool := xs.any (fun y => y == x)
theorem hasL_iff (xs : List Int) (x : Int) : hasL xs x = true ↔ x ∈ xs := by unfold hasL; simp
theorem hasL_take {xs : List Int} {x : Int} {k : Nat} (hk : k < xs.length) : hasL (xs.take (k + 1)) x = (hasL (xs.take k) x || xs[k] == x) := by
  unfold hasL; rw [List.take_succ_eq_append_getElem hk, List.any_append]; simp
set_option maxHeartbeats 800000 in
theorem has_any (w : World) (v : Value) (xs : List Int) (c : Nat) (x : Int) (hv : IntsC w v xs c) : Calls Tryd.prog 46 #[v, .int .i64 x] w fun e w' => e = .returned (.int .i64 (b01 (hasL xs x))) ∧ w = w' := by
  obtain ⟨A, rfl, ha, _, hx⟩ := hv
  unfold lenMax at hx
  go_enter Tryd.func46, Tryd.ntmps46
  go_wp2
  go_loop [5] (fun i => ∃ k : Nat, k ≤ xs.length ∧ i = .int .i64 k ∧ Hid (hasL (xs.take k) x = false)) (fun i => xs.length - (intOf i).toNat)
  case atStart => exact ⟨0, by omega, rfl, Lib.hid (by unfold hasL; simp)⟩
  case round =>
    obtain ⟨k, hk, rfl, HP⟩ := hrel
    by_cases hlt : k < xs.length
    · obtain ⟨b, o, rfl, _, c1⟩ := ha.at_int hlt
      have HT := Lib.hid (hasL_take (x := x) hlt)
      have HM := Lib.hid (List.getElem_mem hlt)
      generalize xs[k] = y at *
      by_cases hy : y = x
      · subst hy
        have hr : Hid (hasL xs y = true) := (hasL_iff _ _).2 HM.out
        go_wp2
        go_ret
        exact ⟨by rw [hr.out]; rfl, rfl⟩
      · have hy1 : (y == x) = false := by simpa using hy
        have hn : Hid (hasL (xs.take (k + 1)) x = false) := by show _ = _; rw [HT.out, HP.out, hy1]; rfl
        clear hy
        go_wp2
        go_round
        case rel => exact ⟨k + 1, by omega, by go_num, hn⟩
        case measure => simp [intOf]; omega
    · have hr : Hid (hasL xs x = false) := by
        show _ = _
        have := HP.out; rwa [List.take_of_length_le (by omega)] at this
      go_wp2
      go_ret
      exact ⟨by rw [hr.out]; rfl, rfl⟩

def befG : List Int → List Int → Bool
  | x :: xs, y :: ys => if x = y then befG xs ys else decide (x < y)
  | _, _ => false
def befL (xs ys : List Int) : Bool := if xs.length = ys.length then befG xs ys else decide (xs.length < ys.length)
theorem befG_same : ∀ xs ys : List Int, xs.length = ys.length → (befG xs ys = false ∧ befG ys xs = false ↔ xs = ys)
  | [], [], _ => by simp [befG]
  | x :: xs, y :: ys, h => by
    have ih := befG_same xs ys (by simpa using h)
    unfold befG
    by_cases hxy : x = y
    · subst hxy; simp [ih]
    · rw [if_neg hxy, if_neg (fun e => hxy e.symm)]
      simp [hxy]; omega
theorem befL_same (xs ys : List Int) (h : xs.length = ys.length) : (befL xs ys = false ∧ befL ys xs = false) ↔ xs = ys := by
  unfold befL; rw [if_pos h, if_pos h.symm]; exact befG_same xs ys h
set_option maxHeartbeats 800000 in
theorem before_any (w : World) (v u : Value) (xs ys : List Int) (ca cb : Nat) (hv : IntsC w v xs ca) (hu : IntsC w u ys cb) :
    Calls Tryd.prog 32 #[v, u] w fun e w' => e = .returned (.int .i64 (b01 (befL xs ys))) ∧ Ext w w' := by
  obtain ⟨A, rfl, ha, _, hx⟩ := hv
  obtain ⟨B, rfl, hb, _, hy⟩ := hu
  unfold lenMax at hx hy
  by_cases hl : xs.length = ys.length
  · have hl1 : ((xs.length : Int) != (ys.length : Int)) = false := by simp [hl]
    have HB : Hid (befL xs ys = befG xs ys) := if_pos hl
    have HL := Lib.hid hl; clear hl
    go_enter Tryd.func32, Tryd.ntmps32
    go_wp2
    go_loopw [5] (fun i wr => ∃ k : Nat, k ≤ xs.length ∧ i = .int .i64 k ∧ Hid (befL xs ys = befG (xs.drop k) (ys.drop k)) ∧ Ext w wr) (fun i _ => xs.length - (intOf i).toNat)
    case atStart => exact ⟨0, by omega, rfl, HB, Ext.refl _⟩
    case round =>
      obtain ⟨k, hk, rfl, hpre, hE⟩ := hrel
      by_cases hlt : k < xs.length
      · have hk2 : k < ys.length := by have := HL.out; omega
        obtain ⟨b, o, rfl, _, c1⟩ := (ha.ext hE).at_int hlt
        obtain ⟨b', o', rfl, _, c2⟩ := (hb.ext hE).at_int hk2
        have hstep : Hid (befL xs ys = if xs[k] = ys[k] then befG (xs.drop (k + 1)) (ys.drop (k + 1)) else decide (xs[k] < ys[k])) := by
          show _ = _
          rw [hpre.out, List.drop_eq_getElem_cons hlt, List.drop_eq_getElem_cons hk2, befG]
        generalize xs[k] = x at *
        generalize ys[k] = y at *
        go_wp2_with fail
        go_quiet (fail)
        cases hc : (x != y)
        · have hxy : x = y := by simpa using hc
          have hres : Hid (befL xs ys = befG (xs.drop (k + 1)) (ys.drop (k + 1))) := by show _ = _; rw [hstep.out, if_pos hxy]
          clear hxy
          go_wp2
          go_roundw
          case rel => exact ⟨k + 1, by omega, by go_num, hres, hE.drewN _⟩
          case measure => simp [intOf]; omega
        · by_cases l1 : x < y
          ·
            have hres : Hid (befL xs ys = true) := by show _ = _; rw [hstep.out, if_neg (by simpa using hc)]; simp; omega
            go_wp2
            go_quiet (fail)
            go_wp2
            go_ret
            exact ⟨by rw [hres.out]; rfl, (hE.drewN _).drewN _⟩
          ·
            have hres : Hid (befL xs ys = false) := by show _ = _; rw [hstep.out, if_neg (by simpa using hc)]; simp; omega
            go_wp2
            go_quiet (fail)
            go_wp2
            go_ret
            exact ⟨by rw [hres.out]; rfl, (hE.drewN _).drewN _⟩
      · have hke : k = xs.length := by omega
        go_wp2
        go_ret
        exact ⟨by rw [hpre.out, hke, List.drop_length]; rfl, hE⟩
  · have hl1 : ((xs.length : Int) != (ys.length : Int)) = true := by simp; omega
    have HB : Hid (befL xs ys = decide (xs.length < ys.length)) := if_neg hl
    clear hl
    by_cases h2 : xs.length < ys.length
    · go_enter Tryd.func32, Tryd.ntmps32
      go_wp2
      go_ret
      exact ⟨by rw [HB.out, decide_eq_true h2]; rfl, Ext.refl _⟩
    · go_enter Tryd.func32, Tryd.ntmps32
      go_wp2
      go_ret
      exact ⟨by rw [HB.out, decide_eq_false h2]; rfl, Ext.refl _⟩

set_option maxHeartbeats 800000 in
theorem same_any (w : World) (v u : Value) (xs ys : List Int) (ca cb : Nat) (hv : IntsC w v xs ca) (hu : IntsC w u ys cb) :
    Calls Tryd.prog 31 #[v, u] w fun e w' => e = .returned (.int .i64 (b01 (xs == ys))) ∧ Ext w w' := by
  obtain ⟨A, rfl, ha, hca, hx⟩ := id hv
  obtain ⟨B, rfl, hb, hcb, hy⟩ := id hu
  unfold lenMax at hx hy
  by_cases hl : xs.length = ys.length
  · have hl1 : ((xs.length : Int) != (ys.length : Int)) = false := by simp [hl]
    have HS := Lib.hid (befL_same xs ys hl)
    have h1 := before_any w _ _ xs ys ca cb hv hu
    have h2 := fun w1 (hE : Ext w w1) => before_any w1 _ _ ys xs cb ca (hu.ext hE) (hv.ext hE)
    clear hl
    generalize hb1 : befL xs ys = b1 at *
    generalize hb2 : befL ys xs = b2 at *
    clear hb1 hb2
    go_enter Tryd.func31, Tryd.ntmps31
    cases b1 with
    | true =>
      have hs : Hid ((xs == ys) = false) := by
        show _ = _
        rw [beq_eq_false_iff_ne]; intro e; have := HS.out.2 e; simp at this
      go_wp2_with ((with_reducible refine h1.mono ?_); rintro e w1 ⟨rfl, hE1⟩)
      go_wp2
      go_ret
      exact ⟨by rw [hs.out]; rfl, hE1⟩
    | false =>
      cases b2 with
      | true =>
        have hs : Hid ((xs == ys) = false) := by
          show _ = _
          rw [beq_eq_false_iff_ne]; intro e; have := HS.out.2 e; simp at this
        go_wp2_with (first | ((with_reducible refine h1.mono ?_); rintro e w1 ⟨rfl, hE1⟩) | ((with_reducible refine (h2 _ hE1).mono ?_); rintro e w2 ⟨rfl, hE2⟩))
        go_wp2
        go_ret
        exact ⟨by rw [hs.out]; rfl, hE1.trans hE2⟩
      | false =>
        have hs : Hid ((xs == ys) = true) := by
          show _ = _
          rw [beq_iff_eq]; exact HS.out.1 ⟨rfl, rfl⟩
        go_wp2_with (first | ((with_reducible refine h1.mono ?_); rintro e w1 ⟨rfl, hE1⟩) | ((with_reducible refine (h2 _ hE1).mono ?_); rintro e w2 ⟨rfl, hE2⟩))
        go_wp2
        go_ret
        exact ⟨by rw [hs.out]; rfl, hE1.trans hE2⟩
  · have hl1 : ((xs.length : Int) != (ys.length : Int)) = true := by simp; omega
    have hs : Hid ((xs == ys) = false) := by
      show _ = _
      rw [beq_eq_false_iff_ne]; intro e; exact hl (by rw [e])
    clear hl
    go_enter Tryd.func31, Tryd.ntmps31
    go_wp2
    go_ret
    exact ⟨by rw [hs.out]; rfl, Ext.refl _⟩
end Go.Proofs.YtamodjlifpjaoaaDoor

namespace Go.Proofs.YtamodjlifpjaoaaDoor
open Go.RowKit
set_option linter.unusedVariables false
set_option linter.unusedSimpArgs false

structure Arc where
  k : Nat
  l : Int
  t : Int
deriving DecidableEq
structure Lts where
  ins : Int
  outs : Int
  rows : List (List Arc)
def a0 : Arc := ⟨0, 0, 0⟩
def Lts.I (x : Lts) : Nat := x.ins.toNat
def Lts.O (x : Lts) : Nat := x.outs.toNat
def Lts.n (x : Lts) : Nat := x.rows.length
def Lts.arcs (x : Lts) (s : Nat) : List Arc := x.rows.getD s []
def Arc.to (a : Arc) : Nat := a.t.toNat

/-! ### Which systems are valid -/
def labN (i o : Int) (k : Nat) : Int := if k = 1 then i else if k = 2 then o else 1
def ltA (a b : Arc) : Bool := decide (a.k < b.k ∨ a.k = b.k ∧ (a.l < b.l ∨ a.l = b.l ∧ a.t < b.t))
def badA (i o n : Int) (a : Arc) : Bool := decide (2 < a.k ∨ a.l < 0 ∨ labN i o a.k ≤ a.l ∨ a.t < 0 ∨ n ≤ a.t)
def badAt (i o n : Int) (r : List Arc) (j : Nat) : Bool := badA i o n (r.getD j a0) || (decide (0 < j) && !ltA (r.getD (j - 1) a0) (r.getD j a0))
def badRow (i o n : Int) (r : List Arc) : Bool := (List.range r.length).any (badAt i o n r)
def bigX (x : Lts) : Bool := decide (16 < x.ins ∨ 16 < x.outs ∨ 64 < x.rows.length) || x.rows.any (fun r => decide (256 < r.length))
def checkI (x : Lts) : Int := if bigX x then 3 else if x.ins < 0 ∨ x.outs < 0 ∨ x.rows.length < 1 then 1 else if x.rows.any (badRow x.ins x.outs x.rows.length) then 1 else 0
structure Good (x : Lts) : Prop where
  ins : 0 ≤ x.ins ∧ x.ins ≤ 16
  outs : 0 ≤ x.outs ∧ x.outs ≤ 16
  size : 1 ≤ x.rows.length ∧ x.rows.length ≤ 64
  len : ∀ r ∈ x.rows, r.length ≤ 256
  arc : ∀ r ∈ x.rows, ∀ a ∈ r, a.k ≤ 2 ∧ 0 ≤ a.l ∧ a.l < labN x.ins x.outs a.k ∧ 0 ≤ a.t ∧ a.t < x.rows.length
theorem badRow_false {i o n : Int} {r : List Arc} (h : badRow i o n r = false) : ∀ a ∈ r, badA i o n a = false := by
  intro a ha
  obtain ⟨j, hj, rfl⟩ := List.mem_iff_getElem.1 ha
  have h1 := List.any_eq_false.1 h j (List.mem_range.2 hj)
  unfold badAt at h1
  simp only [List.getD_eq_getElem?_getD, List.getElem?_eq_getElem hj, Option.getD_some] at h1
  cases h2 : badA i o n r[j] with
  | false => rfl
  | true => rw [h2] at h1; simp at h1
theorem check_good {x : Lts} (h : checkI x = 0) : Good x := by
  unfold checkI at h
  cases h1 : bigX x with
  | true => rw [h1] at h; simp at h
  | false =>
    rw [h1] at h
    by_cases h2 : x.ins < 0 ∨ x.outs < 0 ∨ x.rows.length < 1
    · rw [if_neg (by simp), if_pos h2] at h; cases h
    · cases h3 : x.rows.any (badRow x.ins x.outs x.rows.length) with
      | true => rw [if_neg (by simp), if_neg h2, h3] at h; simp at h
      | false =>
        unfold bigX at h1
        simp only [Bool.or_eq_false_iff, decide_eq_false_iff_not, List.any_eq_false, decide_eq_true_eq] at h1
        have h4 := List.any_eq_false.1 h3
        refine ⟨by omega, by omega, by omega, fun r hr => by have := h1.2 r hr; omega, fun r hr a ha => ?_⟩
        have h5 := badRow_false (by simpa using h4 r hr) a ha
        unfold badA at h5
        simp only [decide_eq_false_iff_not] at h5
        omega
section
variable {x : Lts} (h : Good x)
include h
theorem Good.II : (x.I : Int) = x.ins ∧ x.I ≤ 16 := by have := h.ins; unfold Lts.I; omega
theorem Good.OO : (x.O : Int) = x.outs ∧ x.O ≤ 16 := by have := h.outs; unfold Lts.O; omega
theorem Good.nn : 1 ≤ x.n ∧ x.n ≤ 64 := h.size
theorem Good.arc_at {s : Nat} {a : Arc} (ha : a ∈ x.arcs s) : a.k ≤ 2 ∧ 0 ≤ a.l ∧ a.l < labN x.ins x.outs a.k ∧ (a.to : Int) = a.t ∧ a.to < x.n := by
  unfold Lts.arcs at ha
  by_cases hs : s < x.rows.length
  · rw [List.getD_eq_getElem?_getD, List.getElem?_eq_getElem hs] at ha
    have := h.arc _ (List.getElem_mem hs) a ha
    unfold Arc.to Lts.n
    omega
  · rw [List.getD_eq_getElem?_getD, List.getElem?_eq_none (by omega)] at ha
    cases ha
end
theorem arcs_eq {x : Lts} {s : Nat} (hs : s < x.rows.length) : x.arcs s = x.rows[s] := by unfold Lts.arcs; rw [List.getD_eq_getElem?_getD, List.getElem?_eq_getElem hs]; rfl
theorem arcs_none {x : Lts} {s : Nat} (hs : x.n ≤ s) : x.arcs s = [] := by unfold Lts.arcs; unfold Lts.n at hs; rw [List.getD_eq_getElem?_getD, List.getElem?_eq_none hs]; rfl

/-! ### Masks -/
theorem bit_one (t s : Nat) : (2 ^ t).testBit s = decide (t = s) := Nat.testBit_two_pow
/-- A fold that lays masks together. -/
theorem or_fold {α : Type} (c : α → Bool) (f : α → Nat) (t : Nat) : ∀ (l : List α) (z : Nat), (l.foldl (fun z a => if c a then z ||| f a else z) z).testBit t = (z.testBit t || l.any (fun a => c a && (f a).testBit t))
  | [], z => by simp
  | a :: l, z => by
    rw [List.foldl_cons, or_fold c f t l, List.any_cons]
    cases hc : c a <;> simp [Nat.testBit_or, Bool.or_assoc]
theorem or_fold2 {α β : Type} (g : α → List β) (c : α → β → Bool) (f : β → Nat) (t : Nat) : ∀ (l : List α) (z : Nat),
    (l.foldl (fun z s => (g s).foldl (fun z a => if c s a then z ||| f a else z) z) z).testBit t = (z.testBit t || l.any (fun s => (g s).any (fun a => c s a && (f a).testBit t)))
  | [], z => by simp
  | s :: l, z => by rw [List.foldl_cons, or_fold2 g c f t l, or_fold, List.any_cons, Bool.or_assoc]
theorem mask_eq {S T : Nat} (h : ∀ t, S.testBit t = T.testBit t) : S = T := Nat.eq_of_testBit_eq h
theorem mask_lt {S n : Nat} (h : ∀ t, S.testBit t = true → t < n) : S < 2 ^ n := by
  refine Nat.lt_pow_two_of_testBit _ fun i hi => ?_
  cases hb : S.testBit i with
  | false => rfl
  | true => have := h i hb; omega
theorem mask_bit {S n t : Nat} (h : S < 2 ^ n) (ht : S.testBit t = true) : t < n := by
  rcases Nat.lt_or_ge t n with h1 | h1
  · exact h1
  · rw [Nat.testBit_lt_two_pow (Nat.lt_of_lt_of_le h (Nat.pow_le_pow_right (by omega) h1))] at ht; cases ht
theorem mask_zero {S : Nat} (h : ∀ t, S.testBit t = false) : S = 0 := mask_eq fun t => by rw [h t, Nat.zero_testBit]
theorem mask_some {S : Nat} (h : S ≠ 0) : ∃ t, S.testBit t = true := by
  refine Classical.byContradiction fun hn => h (mask_zero fun t => ?_)
  cases hb : S.testBit t with
  | false => rfl
  | true => exact absurd ⟨t, hb⟩ hn
/-- The states of a set. -/
def mem (S : Nat) : List Nat := (List.range 64).filter S.testBit
theorem mem_iff {S s : Nat} (h : S < 2 ^ 64) : s ∈ mem S ↔ S.testBit s = true := by
  unfold mem
  rw [List.mem_filter, List.mem_range]
  exact ⟨fun h1 => h1.2, fun h1 => ⟨mask_bit h h1, h1⟩⟩
theorem mem_bit {S s : Nat} (h : s ∈ mem S) : s < 64 ∧ S.testBit s = true := by
  unfold mem at h
  rw [List.mem_filter, List.mem_range] at h
  exact h

/-! ### What arcs lead to -/
inductive Path (x : Lts) (p : Arc → Bool) (s : Nat) : Nat → Prop
  | refl : Path x p s s
  | step {t : Nat} {a : Arc} : Path x p s t → a ∈ x.arcs t → p a = true → Path x p s a.to
theorem Path.trans {x : Lts} {p : Arc → Bool} {s t u : Nat} (h : Path x p s t) (k : Path x p t u) : Path x p s u := by
  induction k with
  | refl => exact h
  | step _ h2 h3 ih => exact ih.step h2 h3
def stepM (x : Lts) (p : Arc → Bool) (S : Nat) : Nat := (List.range x.n).foldl (fun z s => (x.arcs s).foldl (fun z a => if S.testBit s && p a then z ||| 2 ^ a.to else z) z) S
def iterM (x : Lts) (p : Arc → Bool) (S : Nat) : Nat → Nat
  | 0 => S
  | k + 1 => stepM x p (iterM x p S k)
def cloM (x : Lts) (p : Arc → Bool) (S : Nat) : Nat := iterM x p S x.n
theorem stepM_bit (x : Lts) (p : Arc → Bool) (S t : Nat) : (stepM x p S).testBit t = true ↔ S.testBit t = true ∨ ∃ s, s < x.n ∧ S.testBit s = true ∧ ∃ a ∈ x.arcs s, p a = true ∧ a.to = t := by
  unfold stepM
  rw [or_fold2 (fun s => x.arcs s) (fun s a => S.testBit s && p a) (fun a => 2 ^ a.to)]
  simp only [Bool.or_eq_true, List.any_eq_true, List.mem_range, Bool.and_eq_true, bit_one, decide_eq_true_eq]
  constructor
  · rintro (h | ⟨s, hs, a, ha, ⟨h1, h2⟩, h3⟩)
    · exact .inl h
    · exact .inr ⟨s, hs, h1, a, ha, h2, h3⟩
  · rintro (h | ⟨s, hs, h1, a, ha, h2, h3⟩)
    · exact .inl h
    · exact .inr ⟨s, hs, a, ha, ⟨h1, h2⟩, h3⟩
/-- How many states a set has. -/
def cntM (n S : Nat) : Nat := ((List.range n).filter S.testBit).length
theorem cnt_le (n S : Nat) : cntM n S ≤ n := by
  unfold cntM
  have := List.length_filter_le S.testBit (List.range n)
  simpa using this
theorem filter_lt {α : Type} (p q : α → Bool) : ∀ (l : List α), (∀ a ∈ l, p a = true → q a = true) → (∃ a ∈ l, p a = false ∧ q a = true) → (l.filter p).length < (l.filter q).length
  | [], _, h => by obtain ⟨a, ha, _⟩ := h; cases ha
  | b :: l, h, ⟨a, ha, h1, h2⟩ => by
    have hle : ∀ (l : List α), (∀ a ∈ l, p a = true → q a = true) → (l.filter p).length ≤ (l.filter q).length := fun l => by
      induction l with
      | nil => intro _; simp
      | cons c l ih =>
        intro hl
        have := ih (fun a ha => hl a (by simp [ha]))
        have hc := hl c (by simp)
        cases hp : p c
        · cases hq : q c <;> simp [hp, hq] <;> omega
        · simp [hp, hc hp]; omega
    rcases List.mem_cons.1 ha with rfl | ha
    · have := hle l (fun c hc => h c (by simp [hc]))
      simp [h1, h2]; omega
    · have := filter_lt p q l (fun c hc => h c (by simp [hc])) ⟨a, ha, h1, h2⟩
      have hc := h b (by simp)
      cases hp : p b
      · cases hq : q b <;> simp [hp, hq] <;> omega
      · simp [hp, hc hp]; omega
theorem iterM_fix (x : Lts) (p : Arc → Bool) (S : Nat) (hg : ∀ s a, a ∈ x.arcs s → a.to < x.n) : ∀ k, stepM x p (iterM x p S k) = iterM x p S k ∨ k ≤ cntM x.n (iterM x p S k)
  | 0 => .inr (Nat.zero_le _)
  | k + 1 => by
    rcases iterM_fix x p S hg k with h | h
    · left
      show stepM x p (stepM x p (iterM x p S k)) = stepM x p (iterM x p S k)
      rw [h, h]
    · by_cases he : stepM x p (iterM x p S k) = iterM x p S k
      · left
        show stepM x p (stepM x p (iterM x p S k)) = stepM x p (iterM x p S k)
        rw [he, he]
      · right
        have : cntM x.n (iterM x p S k) < cntM x.n (stepM x p (iterM x p S k)) := by
          unfold cntM
          refine filter_lt _ _ _ (fun a _ ha => (stepM_bit x p _ a).2 (.inl ha)) ?_
          refine Classical.byContradiction fun hn => he (mask_eq fun t => ?_)
          cases h1 : (iterM x p S k).testBit t with
          | true => exact (stepM_bit x p _ t).2 (.inl h1)
          | false =>
            cases h2 : (stepM x p (iterM x p S k)).testBit t with
            | false => rfl
            | true =>
              rcases (stepM_bit x p _ t).1 h2 with h3 | ⟨s, _, _, a, ha, _, rfl⟩
              · rw [h1] at h3; cases h3
              · exact absurd ⟨a.to, List.mem_range.2 (hg s a ha), h1, h2⟩ hn
        show k + 1 ≤ cntM x.n (stepM x p (iterM x p S k))
        omega
theorem cnt_full {n S : Nat} (h : n ≤ cntM n S) {t : Nat} (ht : t < n) : S.testBit t = true := by
  refine Classical.byContradiction fun hn => ?_
  have h1 := filter_lt S.testBit (fun _ => true) (List.range n) (fun _ _ _ => rfl) ⟨t, List.mem_range.2 ht, by simpa using hn, rfl⟩
  rw [List.filter_eq_self.2 (fun _ _ => rfl), List.length_range] at h1
  unfold cntM at h
  omega
theorem cloM_fix (x : Lts) (p : Arc → Bool) (S : Nat) (hg : ∀ s a, a ∈ x.arcs s → a.to < x.n) : stepM x p (cloM x p S) = cloM x p S := by
  rcases iterM_fix x p S hg x.n with h | h
  · exact h
  · refine mask_eq fun t => ?_
    cases h1 : (cloM x p S).testBit t with
    | true => exact (stepM_bit x p _ t).2 (.inl h1)
    | false =>
      cases h2 : (stepM x p (cloM x p S)).testBit t with
      | false => rfl
      | true =>
        rcases (stepM_bit x p _ t).1 h2 with h3 | ⟨s, _, _, a, ha, _, rfl⟩
        · exact h3.symm.trans h1 |>.symm ▸ rfl
        · have := cnt_full h (hg s a ha)
          exact this.symm.trans h1 |>.symm ▸ rfl
theorem iterM_sub (x : Lts) (p : Arc → Bool) (S : Nat) {t : Nat} (h : S.testBit t = true) : ∀ k, (iterM x p S k).testBit t = true
  | 0 => h
  | k + 1 => (stepM_bit x p _ t).2 (.inl (iterM_sub x p S h k))
theorem iterM_path (x : Lts) (p : Arc → Bool) (S : Nat) : ∀ (k t : Nat), (iterM x p S k).testBit t = true → ∃ s, S.testBit s = true ∧ Path x p s t
  | 0, t, h => ⟨t, h, .refl⟩
  | k + 1, t, h => by
    rcases (stepM_bit x p _ t).1 h with h1 | ⟨s, _, hs, a, ha, hp, rfl⟩
    · exact iterM_path x p S k t h1
    · obtain ⟨s0, h0, hp0⟩ := iterM_path x p S k s hs
      exact ⟨s0, h0, hp0.step ha hp⟩
/-- **The closure of a set.** -/
theorem cloM_bit (x : Lts) (p : Arc → Bool) (S : Nat) (hg : ∀ s a, a ∈ x.arcs s → a.to < x.n) (t : Nat) : (cloM x p S).testBit t = true ↔ ∃ s, S.testBit s = true ∧ Path x p s t := by
  constructor
  · exact iterM_path x p S x.n t
  · rintro ⟨s, hs, hp⟩
    induction hp with
    | refl => exact iterM_sub x p S hs _
    | @step u a hp ha hpa ih =>
      rw [← cloM_fix x p S hg]
      refine (stepM_bit x p _ _).2 (.inr ⟨u, ?_, ih, a, ha, hpa, rfl⟩)
      rcases Nat.lt_or_ge u x.n with h | h
      · exact h
      · rw [arcs_none h] at ha; cases ha
def isSil (a : Arc) : Bool := a.k == 0
def anyArc (_ : Arc) : Bool := true
def sil (x : Lts) (s : Nat) : Nat := cloM x isSil (2 ^ s)
def reachM (x : Lts) : Nat := cloM x anyArc 1
theorem Good.to_lt {x : Lts} (h : Good x) (s : Nat) (a : Arc) (ha : a ∈ x.arcs s) : a.to < x.n := (h.arc_at ha).2.2.2.2
theorem sil_bit {x : Lts} (h : Good x) (s t : Nat) : (sil x s).testBit t = true ↔ Path x isSil s t := by
  unfold sil
  rw [cloM_bit x isSil _ h.to_lt]
  constructor
  · rintro ⟨u, hu, hp⟩
    rw [bit_one] at hu
    rw [of_decide_eq_true hu]; exact hp
  · exact fun hp => ⟨s, by rw [bit_one]; exact decide_eq_true rfl, hp⟩
theorem Path.lt {x : Lts} (h : Good x) {p : Arc → Bool} {s t : Nat} (hp : Path x p s t) (hs : s < x.n) : t < x.n := by
  cases hp with
  | refl => exact hs
  | step _ ha _ => exact h.to_lt _ _ ha
theorem sil_lt {x : Lts} (h : Good x) {s : Nat} (hs : s < x.n) : sil x s < 2 ^ x.n := mask_lt fun t ht => ((sil_bit h s t).1 ht).lt h hs
theorem sil_self {x : Lts} (h : Good x) (s : Nat) : (sil x s).testBit s = true := (sil_bit h s s).2 .refl
theorem sil_ne {x : Lts} (h : Good x) (s : Nat) : sil x s ≠ 0 := fun e => by have := sil_self h s; rw [e, Nat.zero_testBit] at this; cases this

/-! ### Observations -/
def quietS (x : Lts) (s : Nat) : Bool := (x.arcs s).all (fun a => a.k == 1)
def hit (x : Lts) (l : Int) (a : Arc) : Bool := (a.k == 1 && a.l == l) || (a.k == 2 && x.ins + a.l == l)
def aftQ (x : Lts) (S : List Nat) : Nat := S.foldl (fun z s => if quietS x s then z ||| 2 ^ s else z) 0
def aftL (x : Lts) (l : Int) (S : List Nat) : Nat := S.foldl (fun z s => (x.arcs s).foldl (fun z a => if hit x l a then z ||| sil x a.to else z) z) 0
def aftM (x : Lts) (S : Nat) (l : Int) : Nat := if l = x.ins + x.outs then aftQ x (mem S) else aftL x l (mem S)
def begM (x : Lts) : Nat := sil x 0
def obsM (x : Lts) (S : Nat) : List Int := ((List.range (x.O + 1)).map (fun (j : Nat) => x.ins + (j : Int))).filter (fun l => aftM x S l != 0)
theorem aftQ_bit (x : Lts) (S : List Nat) (t : Nat) : (aftQ x S).testBit t = true ↔ t ∈ S ∧ quietS x t = true := by
  unfold aftQ
  rw [or_fold (fun s => quietS x s) (fun s => 2 ^ s)]
  simp only [Nat.zero_testBit, Bool.false_or, List.any_eq_true, Bool.and_eq_true, bit_one, decide_eq_true_eq]
  constructor
  · rintro ⟨s, hs, hq, rfl⟩; exact ⟨hs, hq⟩
  · rintro ⟨h1, h2⟩; exact ⟨t, h1, h2, rfl⟩
theorem aftL_bit (x : Lts) (l : Int) (S : List Nat) (t : Nat) : (aftL x l S).testBit t = true ↔ ∃ s ∈ S, ∃ a ∈ x.arcs s, hit x l a = true ∧ (sil x a.to).testBit t = true := by
  unfold aftL
  rw [or_fold2 (fun s => x.arcs s) (fun _ a => hit x l a) (fun a => sil x a.to)]
  simp only [Nat.zero_testBit, Bool.false_or, List.any_eq_true, Bool.and_eq_true]
theorem aftM_lt {x : Lts} (h : Good x) {S : Nat} (hS : S < 2 ^ x.n) (l : Int) : aftM x S l < 2 ^ x.n := by
  refine mask_lt fun t ht => ?_
  unfold aftM at ht
  split at ht
  · have := ((aftQ_bit x _ t).1 ht).1
    exact mask_bit hS (mem_bit this).2
  · obtain ⟨s, _, a, ha, _, h2⟩ := (aftL_bit x l _ t).1 ht
    exact mask_bit (sil_lt h (h.to_lt s a ha)) h2
theorem begM_lt {x : Lts} (h : Good x) : begM x < 2 ^ x.n := sil_lt h h.nn.1
theorem pow_le {n : Nat} (h : n ≤ 64) : 2 ^ n ≤ 18446744073709551616 := Nat.le_trans (Nat.pow_le_pow_right (by omega) h) (by decide)
theorem Good.mask {x : Lts} (h : Good x) {S : Nat} (hS : S < 2 ^ x.n) : S < 18446744073709551616 := Nat.lt_of_lt_of_le hS (pow_le h.nn.2)
theorem Good.mask64 {x : Lts} (h : Good x) {S : Nat} (hS : S < 2 ^ x.n) : S < 2 ^ 64 := h.mask hS
def accB (x : Lts) : Bool := (mem (reachM x)).all (fun s => (List.range x.I).all (fun (i : Nat) => aftM x (sil x s) (i : Int) != 0))
end Go.Proofs.YtamodjlifpjaoaaDoor

namespace Go.Proofs.YtamodjlifpjaoaaDoor
open Go.RowKit
set_option linter.unusedVariables false
set_option linter.unusedSimpArgs false
attribute [local go_sem] Oper.quietV quietV Oper.gives givesV ext_refl_iff ext_alloc_iff ext_drew_iff ext_drewN_iff

def arcCells (a : Arc) : List Value := [.int .u8 a.k, .int .i64 a.l, .int .i64 a.t]
theorem arcs_len : ∀ l : List Arc, (l.flatMap arcCells).length = l.length * 3
  | [] => rfl
  | y :: t => by rw [List.flatMap_cons, List.length_append, arcs_len t]; simp [arcCells]; omega
theorem arcs_get : ∀ {l : List Arc} {i : Nat} {r : Arc} (h : l[i]? = some r) (j : Nat) (u : Value), (arcCells r)[j]? = some u → (l.flatMap arcCells)[i * 3 + j]? = some u
  | [], i, r, h, _, _, _ => by simp at h
  | y :: t, 0, r, h, j, u, hj => by
    simp at h; subst h
    have := (List.getElem?_eq_some_iff.1 hj).1
    rw [List.flatMap_cons, Nat.zero_mul, Nat.zero_add, List.getElem?_append_left this]; exact hj
  | y :: t, i + 1, r, h, j, u, hj => by
    rw [List.flatMap_cons, List.getElem?_append_right (by simp [arcCells]; omega)]
    have := arcs_get (l := t) (i := i) (r := r) (by simpa using h) j u hj
    rw [← this]; congr 1; simp [arcCells]; omega
/-- A slice of arcs. -/
def ArcsC (w : World) (v : Value) (l : List Arc) : Prop := ∃ A c, v = .slice A l.length c ∧ Cells w A (l.flatMap arcCells) ∧ l.length ≤ c ∧ l.length ≤ lenMax
theorem ArcsC.ext {w w' : World} {v : Value} {l : List Arc} (h : ArcsC w v l) (e : Ext w w') : ArcsC w' v l := by
  obtain ⟨A, c, hv, hc, hr⟩ := h
  exact ⟨A, c, hv, hc.ext e, hr⟩
theorem ArcsC.at_ {w : World} {v : Value} {l : List Arc} (h : ArcsC w v l) {k : Nat} {a : Arc} (hk : l[k]? = some a) :
    ∃ b o c, v = .slice (some ⟨b, o, none⟩) l.length c ∧ b < w.heap.size ∧ w.cell? ⟨b, o + k * 3, none⟩ = some (.int .u8 a.k) ∧ w.cell? ⟨b, o + k * 3 + 1, none⟩ = some (.int .i64 a.l) ∧ w.cell? ⟨b, o + k * 3 + 2, none⟩ = some (.int .i64 a.t) := by
  obtain ⟨A, c, rfl, hc, _⟩ := h
  have hkl := (List.getElem?_eq_some_iff.1 hk).1
  obtain ⟨b, o, rfl, hb, hcc⟩ := hc (by rw [arcs_len]; omega)
  exact ⟨b, o, c, rfl, hb, hcc _ _ (arcs_get hk 0 _ rfl), by rw [Nat.add_assoc]; exact hcc _ _ (arcs_get hk 1 _ rfl), by rw [Nat.add_assoc]; exact hcc _ _ (arcs_get hk 2 _ rfl)⟩
/-- A slice of rows of arcs. -/
def ARowsC (w : World) (v : Value) (rows : List (List Arc)) : Prop :=
  ∃ A c vs, v = .slice A rows.length c ∧ Cells w A vs ∧ vs.length = rows.length ∧ (∀ (i : Nat) (u : Value) (es : List Arc), vs[i]? = some u → rows[i]? = some es → ArcsC w u es) ∧ rows.length ≤ c ∧ rows.length ≤ lenMax
theorem ARowsC.ext {w w' : World} {v : Value} {rows : List (List Arc)} (h : ARowsC w v rows) (e : Ext w w') : ARowsC w' v rows := by
  obtain ⟨A, c, vs, hv, hc, hl, hr, hb⟩ := h
  exact ⟨A, c, vs, hv, hc.ext e, hl, fun i u es hu hes => (hr i u es hu hes).ext e, hb⟩
theorem ARowsC.at_ {w : World} {v : Value} {rows : List (List Arc)} (h : ARowsC w v rows) {k : Nat} {r : List Arc} (hk : rows[k]? = some r) :
    ∃ b o u c, v = .slice (some ⟨b, o, none⟩) rows.length c ∧ b < w.heap.size ∧ w.cell? ⟨b, o + k, none⟩ = some u ∧ ArcsC w u r := by
  obtain ⟨A, c, vs, rfl, hc, hl, hr, _⟩ := h
  have hkl := (List.getElem?_eq_some_iff.1 hk).1
  obtain ⟨b, o, rfl, hb, hcc⟩ := hc (by omega)
  have hk' : k < vs.length := by omega
  exact ⟨b, o, vs[k], c, rfl, hb, hcc k _ (List.getElem?_eq_getElem hk'), hr k _ r (List.getElem?_eq_getElem hk') hk⟩
/-- A system by value. -/
def LtsV (w : World) (v : Value) (x : Lts) : Prop := ∃ rv, v = .agg #[.int .i64 x.ins, .int .i64 x.outs, rv] ∧ ARowsC w rv x.rows
theorem LtsV.ext {w w' : World} {v : Value} {x : Lts} (h : LtsV w v x) (e : Ext w w') : LtsV w' v x := by
  obtain ⟨rv, hv, hr⟩ := h
  exact ⟨rv, hv, hr.ext e⟩
theorem LtsV.form {w : World} {v : Value} {x : Lts} (h : LtsV w v x) : ∃ A c, v = .agg #[.int .i64 x.ins, .int .i64 x.outs, .slice A x.rows.length c] ∧ ARowsC w (.slice A x.rows.length c) x.rows ∧ x.rows.length ≤ 9223372036854775807 := by
  obtain ⟨rv, rfl, hr⟩ := h
  obtain ⟨A, c, vs, rfl, h2⟩ := id hr
  exact ⟨A, c, rfl, hr, h2.2.2.2.2⟩
/-- A list of masks. -/
def MasksC (w : World) (v : Value) (l : List Nat) : Prop := ∃ A c, v = .slice A l.length c ∧ Cells w A (l.map (fun (m : Nat) => Value.int .u64 m)) ∧ l.length ≤ c ∧ l.length ≤ lenMax
theorem MasksC.ext {w w' : World} {v : Value} {l : List Nat} (h : MasksC w v l) (e : Ext w w') : MasksC w' v l := by
  obtain ⟨A, c, hv, hc, hr⟩ := h
  exact ⟨A, c, hv, hc.ext e, hr⟩
theorem MasksC.at_ {w : World} {v : Value} {l : List Nat} (h : MasksC w v l) {k m : Nat} (hk : l[k]? = some m) :
    ∃ b o c, v = .slice (some ⟨b, o, none⟩) l.length c ∧ b < w.heap.size ∧ w.cell? ⟨b, o + k, none⟩ = some (.int .u64 m) := by
  obtain ⟨A, c, rfl, hc, _⟩ := h
  have hkl := (List.getElem?_eq_some_iff.1 hk).1
  obtain ⟨b, o, rfl, hb, hcc⟩ := hc (by simp; omega)
  exact ⟨b, o, c, rfl, hb, hcc k _ (by rw [List.getElem?_map, hk]; rfl)⟩
/-- A prepared system by value: with what silent arcs lead to. -/
def sils (x : Lts) : List Nat := (List.range x.n).map (sil x)
def SysV (w : World) (v : Value) (x : Lts) : Prop := ∃ rv sv, v = .agg #[.int .i64 x.ins, .int .i64 x.outs, rv, sv] ∧ ARowsC w rv x.rows ∧ MasksC w sv (sils x)
theorem SysV.ext {w w' : World} {v : Value} {x : Lts} (h : SysV w v x) (e : Ext w w') : SysV w' v x := by
  obtain ⟨rv, sv, hv, hr, hs⟩ := h
  exact ⟨rv, sv, hv, hr.ext e, hs.ext e⟩
theorem sils_at (x : Lts) {s : Nat} (hs : s < x.n) : (sils x)[s]? = some (sil x s) := by unfold sils; rw [List.getElem?_map, List.getElem?_range hs]; rfl
theorem SysV.form {w : World} {v : Value} {x : Lts} (h : SysV w v x) : ∃ A c B d, v = .agg #[.int .i64 x.ins, .int .i64 x.outs, .slice A x.rows.length c, .slice B x.rows.length d] ∧ ARowsC w (.slice A x.rows.length c) x.rows ∧ MasksC w (.slice B x.rows.length d) (sils x) ∧ x.rows.length ≤ 9223372036854775807 := by
  obtain ⟨rv, sv, rfl, hr, hs⟩ := h
  obtain ⟨A, c, vs, rfl, h2⟩ := id hr
  obtain ⟨B, d, rfl, h3⟩ := id hs
  have hl : (sils x).length = x.rows.length := by simp [sils, Lts.n]
  rw [hl] at hs ⊢
  exact ⟨A, c, B, d, rfl, hr, hs, h2.2.2.2.2⟩
theorem one_u64 (x : Nat) : ∀ u ∈ [Value.int .u64 x], u.oneCell' = true := by intro u hu; simp at hu; subst hu; rfl
end Go.Proofs.YtamodjlifpjaoaaDoor

namespace Go.Proofs.YtamodjlifpjaoaaDoor
open Go.RowKit
set_option linter.unusedVariables false
set_option linter.unusedSimpArgs false
attribute [local go_sem] Oper.quietV quietV Oper.gives givesV ext_refl_iff ext_alloc_iff ext_drew_iff ext_drewN_iff
/-- Bytes in memory. -/
def BytesC (w : World) (A : Option Addr) (n : Nat) : Prop := 0 < n → ∃ b o, A = some ⟨b, o, none⟩ ∧ b < w.heap.size ∧ ∀ j, j < n → ∃ a : Nat, a < 256 ∧ w.cell? ⟨b, o + j, none⟩ = some (.int .u8 a)
theorem BytesC.ext {w w' : World} {A : Option Addr} {n : Nat} (h : BytesC w A n) (e : Ext w w') : BytesC w' A n := fun hn => by
  obtain ⟨b, o, hA, hb, hc⟩ := h hn
  exact ⟨b, o, hA, Nat.lt_of_lt_of_le hb e.size, fun j hj => by obtain ⟨a, ha, hcc⟩ := hc j hj; exact ⟨a, ha, e.cell hcc⟩⟩
structure BNum where
  i : Nat
  o : Nat
  m : Nat
  n : Nat
  f : Bool
/-- A B by value. -/
def BV (w : World) (v : Value) (r : BNum) : Prop := ∃ A c, v = .agg #[.int .u8 r.i, .int .u8 r.o, .int .u8 r.m, .slice A r.n c, .bool r.f] ∧ BytesC w A (r.n * 4) ∧ r.i < 256 ∧ r.o < 256 ∧ r.m < 256 ∧ r.n ≤ c ∧ r.n ≤ lenMax
theorem BV.ext {w w' : World} {v : Value} {r : BNum} (h : BV w v r) (e : Ext w w') : BV w' v r := by
  obtain ⟨A, c, hv, hb, h⟩ := h
  exact ⟨A, c, hv, hb.ext e, h⟩
set_option maxRecDepth 100000 in
set_option maxHeartbeats 8000000 in
theorem bhas_any (w : World) (v : Value) (r : BNum) (s k l t N i o : Int) (hv : BV w v r) (hN : 1 ≤ N ∧ N ≤ 5) (hk : 0 ≤ k ∧ k ≤ 2) (hi : 0 ≤ i ∧ i ≤ 2) (ho : 0 ≤ o ∧ o ≤ 2) :
    Calls Tryd.prog 36 #[v, .int .i64 s, .int .i64 k, .int .i64 l, .int .i64 t, .agg #[.int .i64 1, .int .i64 i, .int .i64 o], .int .i64 N] w fun e w' => ∃ b : Bool, e = .returned (.int .i64 (b01 b)) ∧ Ext w w' := by
  obtain ⟨A, c, rfl, hA, h1, h2, h3, _, hnm⟩ := id hv
  unfold lenMax at hnm
  go_enter Tryd.func36, Tryd.ntmps36
  go_upto_region 1 with fail
  refine wp_named ?_
  intro W1 hW1
  have hE1 : Ext w W1 := by rw [hW1]; exact ((Ext.refl _).alloc _).alloc _
  have k3 : ∀ w', Ext W1 w' → w'.cell? ⟨w.heap.size, 3, none⟩ = some (.slice A r.n c) := fun w' h => h.cell (by rw [hW1]; simp [go_sem])
  have l0 : ∀ w', Ext W1 w' → w'.cell? ⟨w.heap.size + 1, 0, none⟩ = some (.int .i64 1) := fun w' h => h.cell (by rw [hW1]; simp [go_sem])
  have l1 : ∀ w', Ext W1 w' → w'.cell? ⟨w.heap.size + 1, 1, none⟩ = some (.int .i64 i) := fun w' h => h.cell (by rw [hW1]; simp [go_sem])
  have l2 : ∀ w', Ext W1 w' → w'.cell? ⟨w.heap.size + 1, 2, none⟩ = some (.int .i64 o) := fun w' h => h.cell (by rw [hW1]; simp [go_sem])
  clear hW1
  have HA := Lib.hid (And.intro hE1 (hA.ext hE1))
  clear hA hE1 hv
  generalize w.heap.size + 1 = b12 at *
  generalize w.heap.size = b7 at *
  have HK := Lib.hid (And.intro k3 (And.intro l0 (And.intro l1 l2)))
  have hE0 := Ext.refl W1
  clear l0 l1 l2
  go_wp2
  go_loopw [15] (fun jv wr => ∃ j : Nat, jv = .int .i64 j ∧ j ≤ 40 ∧ j ≤ r.n ∧ Ext W1 wr) (fun jv _ => 40 - (intOf jv).toNat)
  case atStart => exact ⟨0, rfl, by omega, by omega, Ext.refl _⟩
  case round =>
    obtain ⟨j, rfl, hj, hjn, hE⟩ := hrel
    obtain ⟨W5, hW5⟩ : ∃ W, W = wr := ⟨_, rfl⟩; subst hW5
    by_cases hlt : j < r.n
    · by_cases hl4 : j < 40
      · obtain ⟨ba, oa, rfl, _, hcells⟩ := HA.out.2 (by omega)
        obtain ⟨a0, ha0, c0⟩ := hcells (j * 4) (by omega)
        obtain ⟨a1, ha1, c1⟩ := hcells (j * 4 + 1) (by omega)
        obtain ⟨a2, ha2, c2⟩ := hcells (j * 4 + 2) (by omega)
        obtain ⟨a3, ha3, c3⟩ := hcells (j * 4 + 3) (by omega)
        rw [← Nat.add_assoc] at c1 c2 c3
        have c0 := hE.cell c0
        have c1 := hE.cell c1
        have c2 := hE.cell c2
        have c3 := hE.cell c3
        have hlk : ∃ q : Int, 0 ≤ q ∧ q ≤ 2 ∧ ∀ w', Ext W1 w' → w'.cell? ⟨b12, k.toNat, none⟩ = some (.int .i64 q) := by
          obtain rfl | rfl | rfl : k = 0 ∨ k = 1 ∨ k = 2 := by omega
          · exact ⟨1, by omega, by omega, HK.out.2.1⟩
          · exact ⟨i, hi.1, hi.2, HK.out.2.2.1⟩
          · exact ⟨o, ho.1, ho.2, HK.out.2.2.2⟩
        obtain ⟨q, hq0, hq2, lk⟩ := hlk
        go_upto_region 5 with fail
        refine wp_named ?_
        intro W6 hW6
        have e6 : Ext W5 W6 := by rw [hW6]; exact alloc_ext _ _
        have m0 : ∀ w', Ext W6 w' → w'.cell? ⟨W5.heap.size, 0, none⟩ = some (.int .u8 a0) := fun w' h => h.cell (by rw [hW6]; simp [go_sem])
        have m1 : ∀ w', Ext W6 w' → w'.cell? ⟨W5.heap.size, 1, none⟩ = some (.int .u8 a1) := fun w' h => h.cell (by rw [hW6]; simp [go_sem])
        have m2 : ∀ w', Ext W6 w' → w'.cell? ⟨W5.heap.size, 2, none⟩ = some (.int .u8 a2) := fun w' h => h.cell (by rw [hW6]; simp [go_sem])
        have m3 : ∀ w', Ext W6 w' → w'.cell? ⟨W5.heap.size, 3, none⟩ = some (.int .u8 a3) := fun w' h => h.cell (by rw [hW6]; simp [go_sem])
        clear hW6 c0 c1 c2 c3 k3
        have lk := fun w' (h : Ext W6 w') => lk w' (hE.trans (e6.trans h))
        have HE := Lib.hid (hE.trans e6)
        have hR6 := Ext.refl W6
        clear hE e6 hcells HK hE0
        generalize W5.heap.size = b16 at *
        have w0 : IntKind.i64.wrap (a0 : Int) = a0 := by rw [IntKind.wrap_i64]; omega
        have n0 : ¬ N = 0 := by omega
        have hk0 : 0 ≤ k := hk.1
        have hk3 : k < 3 := by omega
        have w2 : IntKind.i64.wrap (a2 : Int) = a2 := by rw [IntKind.wrap_i64]; omega
        have w3 : IntKind.i64.wrap (a3 : Int) = a3 := by rw [IntKind.wrap_i64]; omega
        cases g1 : ((a0 : Int).tmod N == s) with
        | false =>
          refine wp_region_ext 39 (factsOf []) (fun k => ([[], [0], [0, 1], [], [0, 1, 2, 3], [], [0, 1, 2, 3, 4, 5], [0, 1, 2, 3, 4, 5, 6], [0, 1, 2, 3, 4, 5, 6, 7], [0, 1, 2, 3, 4, 5, 6, 7, 8], [0, 1, 2, 3, 4, 5, 6, 7, 8, 9], [0, 1, 2, 3, 4, 5, 6, 7, 8, 9, 10], [0, 1, 2, 3, 4, 5, 6, 7], [0, 1, 2, 3, 4, 5, 6, 7, 8, 9, 10, 11, 12], [0, 1, 2, 3, 4, 5, 6, 7, 8, 9, 10, 11, 12, 13], [0, 1, 2, 3, 4, 5, 6, 7, 8, 9, 10, 11, 12, 13, 14], [0, 1, 2, 3, 4, 5, 6, 7, 8, 9, 10, 11, 12, 13, 14, 15], [0, 1, 2, 3, 4, 5, 6, 7, 8, 9, 10, 11, 12, 13, 14, 15, 16], [0, 1, 2, 3, 4, 5, 6, 7, 8, 9, 10, 11, 12, 13, 14, 15, 16, 17], [0, 1, 2, 3, 4, 5, 6, 7, 8, 9, 10, 11, 12, 13, 14, 15, 16, 17, 18], [0, 1, 2, 3, 4, 5, 6, 7, 8, 9, 10, 11, 12, 13, 14, 15, 16, 17, 18, 19], [0, 1, 2, 3, 4, 5, 6, 7, 8, 9, 10, 11, 12, 13, 14, 15, 16, 17, 18, 19, 20], [0, 1, 2, 3, 4, 5, 6, 7, 8, 9, 10, 11, 12, 13, 14, 15, 16, 17, 18, 19, 20, 21], [0, 1, 2, 3, 4, 5, 6, 7, 8, 9, 10, 11, 12, 13, 14, 15, 16, 17, 18, 19, 20, 21, 22], [0, 1, 2, 3, 4, 5, 6, 7, 8, 9, 10, 11, 12, 13, 14, 15, 16, 17, 18, 19, 20, 21, 22, 23], [0, 1, 2, 3, 4, 5, 6, 7, 8, 9, 10, 11, 12, 13, 14, 15, 16, 17, 18, 19, 20, 21], [0, 1, 2, 3, 4, 5, 6, 7, 8, 9, 10, 11, 12, 13, 14, 15, 16, 17, 18, 19, 20, 21, 25], [0, 1, 2, 3, 4, 5, 6, 7, 8, 9, 10, 11, 12, 13, 14, 15, 16, 17, 18, 19, 20, 21, 25, 26], [0, 1, 2, 3, 4, 5, 6, 7, 8, 9, 10, 11, 12, 13, 14, 15, 16, 17, 18, 19, 20, 21, 22, 23, 24, 25, 26, 27], [0, 1, 2, 3, 4, 5, 6, 7, 8, 9, 10, 11, 12, 13, 14, 15, 16, 17, 18, 19, 20, 21], [0, 1, 2, 3, 4, 5, 6, 7, 8, 9, 10, 11, 12, 13, 14, 15, 16, 17, 18, 19, 20, 21, 22, 23, 24, 25, 26, 27, 28, 29], [0, 1, 2, 3, 4, 5, 6, 7, 8, 9, 10, 11, 12, 13, 14, 15, 16, 17, 18, 19, 20, 21, 22, 23, 24, 25, 26, 27, 28, 29, 30], [0, 1, 2, 3, 4, 5, 6, 7, 8, 9, 10, 11, 12, 13, 14, 15, 16, 17, 18, 19, 20, 21, 22, 23, 24, 25, 26, 27, 28, 29, 30, 31], [0, 1, 2, 3, 4, 5, 6, 7, 8, 9, 10, 11, 12, 13, 14, 15, 16, 17, 18, 19, 20, 21, 22, 23, 24, 25, 26, 27, 28, 29, 30, 31, 32], [0, 1, 2, 3, 4, 5, 6, 7, 8, 9, 10, 11, 12, 13, 14, 15, 16, 17, 18, 19, 20, 21, 22, 23, 24, 25, 26, 27, 28, 29, 30, 31, 32, 33], [0, 1, 2, 3, 4, 5, 6, 7, 8, 9, 10, 11, 12, 13, 14, 15, 16, 17, 18, 19, 20, 21, 22, 23, 24, 25, 26, 27, 28, 29, 30, 31, 32, 33, 34], [0, 1, 2, 3, 4, 5, 6, 7, 8, 9, 10, 11, 12, 13, 14, 15, 16, 17, 18, 19, 20, 21, 22, 23, 24, 25, 26, 27, 28, 29, 30, 31, 32], [0, 1, 2, 3, 4, 5, 6, 7, 8, 9, 10, 11, 12, 13, 14, 15, 16, 17, 18, 19, 20, 21, 22, 23, 24, 25, 26, 27, 28, 29, 30, 31, 32, 33, 34, 35, 36], [0, 1, 2, 3, 4, 5, 6, 7, 8, 9, 10, 11, 12, 13, 14, 15, 16, 17, 18, 19, 20, 21, 22, 23, 24, 25, 26, 27, 28, 29, 30, 31, 32], [0, 1, 2, 3, 4, 5, 6, 7, 8, 9, 10, 11, 12, 13, 14, 15, 16, 17, 18, 19, 20, 21, 22, 23, 24, 25, 26, 27, 28, 29, 30, 31, 32, 33, 34, 35, 36, 37, 38], [0, 1, 2, 3, 4, 5, 6, 7, 8, 9, 10, 11, 12, 13, 14, 15, 16, 17, 18, 19, 20, 21, 22, 23, 24, 25, 26, 27, 28, 29, 30, 31, 32, 33, 34, 35, 36, 37, 38, 39]] : List (List Nat)).getD k []) (by kernel_rfl) (by kernel_rfl) Ext.pre (mono_nil) ?_
          simp only [List.take_succ_cons, List.take_zero]
          repeat (first | (with_reducible refine lexL_quiet' (v := ?_) ?_ ?_ ?_ ?_; rotate_left; (· with_reducible rfl); (· simp [factsOf]); (· intro w1 hw1 _; go_simp; with_reducible rfl); (try simp only [Act.put, List.setIfInBounds_toArray, List.set_cons_zero, List.set_cons_succ])) | (with_reducible refine lexL_skip ?_ ?_; (· simp [Region.wanted, yielded, undef]); (try simp only [Act.put, List.setIfInBounds_toArray, List.set_cons_zero, List.set_cons_succ])) | (with_reducible refine lexL_quiet (v := ?_) ?_ ?_ ?_ ?_; rotate_left; (· simp [Region.wanted, yielded, undef]); (· simp [factsOf]); (· intro w1 hw1 _; go_simp; with_reducible rfl); (try simp only [Act.put, List.setIfInBounds_toArray, List.set_cons_zero, List.set_cons_succ])))
          with_reducible refine lexL_nil ?_; intro w1 hw1 hk1; simp only [List.drop_succ_cons, List.drop_zero]
          have HW := Lib.hid hw1
          clear hk1 hw1 m0 m1 m2 m3 lk hR6
          go_wp2
          go_roundw
          case rel => exact ⟨j + 1, by go_num, by omega, by omega, HE.out.trans HW.out⟩
          case measure => simp [intOf]; omega
        | true =>
          cases g2 : (IntKind.i64.wrap ((a1 : Int).tmod 3) == k) with
          | false =>
            refine wp_region_ext 39 (factsOf []) (fun k => ([[], [0], [0, 1], [], [0, 1, 2, 3], [], [0, 1, 2, 3, 4, 5], [0, 1, 2, 3, 4, 5, 6], [0, 1, 2, 3, 4, 5, 6, 7], [0, 1, 2, 3, 4, 5, 6, 7, 8], [0, 1, 2, 3, 4, 5, 6, 7, 8, 9], [0, 1, 2, 3, 4, 5, 6, 7, 8, 9, 10], [0, 1, 2, 3, 4, 5, 6, 7], [0, 1, 2, 3, 4, 5, 6, 7, 8, 9, 10, 11, 12], [0, 1, 2, 3, 4, 5, 6, 7, 8, 9, 10, 11, 12, 13], [0, 1, 2, 3, 4, 5, 6, 7, 8, 9, 10, 11, 12, 13, 14], [0, 1, 2, 3, 4, 5, 6, 7, 8, 9, 10, 11, 12, 13, 14, 15], [0, 1, 2, 3, 4, 5, 6, 7, 8, 9, 10, 11, 12, 13, 14, 15, 16], [0, 1, 2, 3, 4, 5, 6, 7, 8, 9, 10, 11, 12, 13, 14, 15, 16, 17], [0, 1, 2, 3, 4, 5, 6, 7, 8, 9, 10, 11, 12, 13, 14, 15, 16, 17, 18], [0, 1, 2, 3, 4, 5, 6, 7, 8, 9, 10, 11, 12, 13, 14, 15, 16, 17, 18, 19], [0, 1, 2, 3, 4, 5, 6, 7, 8, 9, 10, 11, 12, 13, 14, 15, 16, 17, 18, 19, 20], [0, 1, 2, 3, 4, 5, 6, 7, 8, 9, 10, 11, 12, 13, 14, 15, 16, 17, 18, 19, 20, 21], [0, 1, 2, 3, 4, 5, 6, 7, 8, 9, 10, 11, 12, 13, 14, 15, 16, 17, 18, 19, 20, 21, 22], [0, 1, 2, 3, 4, 5, 6, 7, 8, 9, 10, 11, 12, 13, 14, 15, 16, 17, 18, 19, 20, 21, 22, 23], [0, 1, 2, 3, 4, 5, 6, 7, 8, 9, 10, 11, 12, 13, 14, 15, 16, 17, 18, 19, 20, 21], [0, 1, 2, 3, 4, 5, 6, 7, 8, 9, 10, 11, 12, 13, 14, 15, 16, 17, 18, 19, 20, 21, 25], [0, 1, 2, 3, 4, 5, 6, 7, 8, 9, 10, 11, 12, 13, 14, 15, 16, 17, 18, 19, 20, 21, 25, 26], [0, 1, 2, 3, 4, 5, 6, 7, 8, 9, 10, 11, 12, 13, 14, 15, 16, 17, 18, 19, 20, 21, 22, 23, 24, 25, 26, 27], [0, 1, 2, 3, 4, 5, 6, 7, 8, 9, 10, 11, 12, 13, 14, 15, 16, 17, 18, 19, 20, 21], [0, 1, 2, 3, 4, 5, 6, 7, 8, 9, 10, 11, 12, 13, 14, 15, 16, 17, 18, 19, 20, 21, 22, 23, 24, 25, 26, 27, 28, 29], [0, 1, 2, 3, 4, 5, 6, 7, 8, 9, 10, 11, 12, 13, 14, 15, 16, 17, 18, 19, 20, 21, 22, 23, 24, 25, 26, 27, 28, 29, 30], [0, 1, 2, 3, 4, 5, 6, 7, 8, 9, 10, 11, 12, 13, 14, 15, 16, 17, 18, 19, 20, 21, 22, 23, 24, 25, 26, 27, 28, 29, 30, 31], [0, 1, 2, 3, 4, 5, 6, 7, 8, 9, 10, 11, 12, 13, 14, 15, 16, 17, 18, 19, 20, 21, 22, 23, 24, 25, 26, 27, 28, 29, 30, 31, 32], [0, 1, 2, 3, 4, 5, 6, 7, 8, 9, 10, 11, 12, 13, 14, 15, 16, 17, 18, 19, 20, 21, 22, 23, 24, 25, 26, 27, 28, 29, 30, 31, 32, 33], [0, 1, 2, 3, 4, 5, 6, 7, 8, 9, 10, 11, 12, 13, 14, 15, 16, 17, 18, 19, 20, 21, 22, 23, 24, 25, 26, 27, 28, 29, 30, 31, 32, 33, 34], [0, 1, 2, 3, 4, 5, 6, 7, 8, 9, 10, 11, 12, 13, 14, 15, 16, 17, 18, 19, 20, 21, 22, 23, 24, 25, 26, 27, 28, 29, 30, 31, 32], [0, 1, 2, 3, 4, 5, 6, 7, 8, 9, 10, 11, 12, 13, 14, 15, 16, 17, 18, 19, 20, 21, 22, 23, 24, 25, 26, 27, 28, 29, 30, 31, 32, 33, 34, 35, 36], [0, 1, 2, 3, 4, 5, 6, 7, 8, 9, 10, 11, 12, 13, 14, 15, 16, 17, 18, 19, 20, 21, 22, 23, 24, 25, 26, 27, 28, 29, 30, 31, 32], [0, 1, 2, 3, 4, 5, 6, 7, 8, 9, 10, 11, 12, 13, 14, 15, 16, 17, 18, 19, 20, 21, 22, 23, 24, 25, 26, 27, 28, 29, 30, 31, 32, 33, 34, 35, 36, 37, 38], [0, 1, 2, 3, 4, 5, 6, 7, 8, 9, 10, 11, 12, 13, 14, 15, 16, 17, 18, 19, 20, 21, 22, 23, 24, 25, 26, 27, 28, 29, 30, 31, 32, 33, 34, 35, 36, 37, 38, 39]] : List (List Nat)).getD k []) (by kernel_rfl) (by kernel_rfl) Ext.pre (mono_nil) ?_
            simp only [List.take_succ_cons, List.take_zero]
            repeat (first | (with_reducible refine lexL_quiet' (v := ?_) ?_ ?_ ?_ ?_; rotate_left; (· with_reducible rfl); (· simp [factsOf]); (· intro w1 hw1 _; go_simp; with_reducible rfl); (try simp only [Act.put, List.setIfInBounds_toArray, List.set_cons_zero, List.set_cons_succ])) | (with_reducible refine lexL_skip ?_ ?_; (· simp [Region.wanted, yielded, undef]); (try simp only [Act.put, List.setIfInBounds_toArray, List.set_cons_zero, List.set_cons_succ])) | (with_reducible refine lexL_quiet (v := ?_) ?_ ?_ ?_ ?_; rotate_left; (· simp [Region.wanted, yielded, undef]); (· simp [factsOf]); (· intro w1 hw1 _; go_simp; with_reducible rfl); (try simp only [Act.put, List.setIfInBounds_toArray, List.set_cons_zero, List.set_cons_succ])))
            with_reducible refine lexL_nil ?_; intro w1 hw1 hk1; simp only [List.drop_succ_cons, List.drop_zero]
            have HW := Lib.hid hw1
            clear hk1 hw1 m0 m1 m2 m3 lk hR6
            go_wp2
            go_roundw
            case rel => exact ⟨j + 1, by go_num, by omega, by omega, HE.out.trans HW.out⟩
            case measure => simp [intOf]; omega
          | true =>
            by_cases hq : 0 < q
            · have n1 : ¬ q = 0 := by omega
              cases g4 : ((a2 : Int).tmod q == l) with
              | false =>
                refine wp_region_ext 39 (factsOf []) (fun k => ([[], [0], [0, 1], [], [0, 1, 2, 3], [], [0, 1, 2, 3, 4, 5], [0, 1, 2, 3, 4, 5, 6], [0, 1, 2, 3, 4, 5, 6, 7], [0, 1, 2, 3, 4, 5, 6, 7, 8], [0, 1, 2, 3, 4, 5, 6, 7, 8, 9], [0, 1, 2, 3, 4, 5, 6, 7, 8, 9, 10], [0, 1, 2, 3, 4, 5, 6, 7], [0, 1, 2, 3, 4, 5, 6, 7, 8, 9, 10, 11, 12], [0, 1, 2, 3, 4, 5, 6, 7, 8, 9, 10, 11, 12, 13], [0, 1, 2, 3, 4, 5, 6, 7, 8, 9, 10, 11, 12, 13, 14], [0, 1, 2, 3, 4, 5, 6, 7, 8, 9, 10, 11, 12, 13, 14, 15], [0, 1, 2, 3, 4, 5, 6, 7, 8, 9, 10, 11, 12, 13, 14, 15, 16], [0, 1, 2, 3, 4, 5, 6, 7, 8, 9, 10, 11, 12, 13, 14, 15, 16, 17], [0, 1, 2, 3, 4, 5, 6, 7, 8, 9, 10, 11, 12, 13, 14, 15, 16, 17, 18], [0, 1, 2, 3, 4, 5, 6, 7, 8, 9, 10, 11, 12, 13, 14, 15, 16, 17, 18, 19], [0, 1, 2, 3, 4, 5, 6, 7, 8, 9, 10, 11, 12, 13, 14, 15, 16, 17, 18, 19, 20], [0, 1, 2, 3, 4, 5, 6, 7, 8, 9, 10, 11, 12, 13, 14, 15, 16, 17, 18, 19, 20, 21], [0, 1, 2, 3, 4, 5, 6, 7, 8, 9, 10, 11, 12, 13, 14, 15, 16, 17, 18, 19, 20, 21, 22], [0, 1, 2, 3, 4, 5, 6, 7, 8, 9, 10, 11, 12, 13, 14, 15, 16, 17, 18, 19, 20, 21, 22, 23], [0, 1, 2, 3, 4, 5, 6, 7, 8, 9, 10, 11, 12, 13, 14, 15, 16, 17, 18, 19, 20, 21], [0, 1, 2, 3, 4, 5, 6, 7, 8, 9, 10, 11, 12, 13, 14, 15, 16, 17, 18, 19, 20, 21, 25], [0, 1, 2, 3, 4, 5, 6, 7, 8, 9, 10, 11, 12, 13, 14, 15, 16, 17, 18, 19, 20, 21, 25, 26], [0, 1, 2, 3, 4, 5, 6, 7, 8, 9, 10, 11, 12, 13, 14, 15, 16, 17, 18, 19, 20, 21, 22, 23, 24, 25, 26, 27], [0, 1, 2, 3, 4, 5, 6, 7, 8, 9, 10, 11, 12, 13, 14, 15, 16, 17, 18, 19, 20, 21], [0, 1, 2, 3, 4, 5, 6, 7, 8, 9, 10, 11, 12, 13, 14, 15, 16, 17, 18, 19, 20, 21, 22, 23, 24, 25, 26, 27, 28, 29], [0, 1, 2, 3, 4, 5, 6, 7, 8, 9, 10, 11, 12, 13, 14, 15, 16, 17, 18, 19, 20, 21, 22, 23, 24, 25, 26, 27, 28, 29, 30], [0, 1, 2, 3, 4, 5, 6, 7, 8, 9, 10, 11, 12, 13, 14, 15, 16, 17, 18, 19, 20, 21, 22, 23, 24, 25, 26, 27, 28, 29, 30, 31], [0, 1, 2, 3, 4, 5, 6, 7, 8, 9, 10, 11, 12, 13, 14, 15, 16, 17, 18, 19, 20, 21, 22, 23, 24, 25, 26, 27, 28, 29, 30, 31, 32], [0, 1, 2, 3, 4, 5, 6, 7, 8, 9, 10, 11, 12, 13, 14, 15, 16, 17, 18, 19, 20, 21, 22, 23, 24, 25, 26, 27, 28, 29, 30, 31, 32, 33], [0, 1, 2, 3, 4, 5, 6, 7, 8, 9, 10, 11, 12, 13, 14, 15, 16, 17, 18, 19, 20, 21, 22, 23, 24, 25, 26, 27, 28, 29, 30, 31, 32, 33, 34], [0, 1, 2, 3, 4, 5, 6, 7, 8, 9, 10, 11, 12, 13, 14, 15, 16, 17, 18, 19, 20, 21, 22, 23, 24, 25, 26, 27, 28, 29, 30, 31, 32], [0, 1, 2, 3, 4, 5, 6, 7, 8, 9, 10, 11, 12, 13, 14, 15, 16, 17, 18, 19, 20, 21, 22, 23, 24, 25, 26, 27, 28, 29, 30, 31, 32, 33, 34, 35, 36], [0, 1, 2, 3, 4, 5, 6, 7, 8, 9, 10, 11, 12, 13, 14, 15, 16, 17, 18, 19, 20, 21, 22, 23, 24, 25, 26, 27, 28, 29, 30, 31, 32], [0, 1, 2, 3, 4, 5, 6, 7, 8, 9, 10, 11, 12, 13, 14, 15, 16, 17, 18, 19, 20, 21, 22, 23, 24, 25, 26, 27, 28, 29, 30, 31, 32, 33, 34, 35, 36, 37, 38], [0, 1, 2, 3, 4, 5, 6, 7, 8, 9, 10, 11, 12, 13, 14, 15, 16, 17, 18, 19, 20, 21, 22, 23, 24, 25, 26, 27, 28, 29, 30, 31, 32, 33, 34, 35, 36, 37, 38, 39]] : List (List Nat)).getD k []) (by kernel_rfl) (by kernel_rfl) Ext.pre (mono_nil) ?_
                simp only [List.take_succ_cons, List.take_zero]
                repeat (first | (with_reducible refine lexL_quiet' (v := ?_) ?_ ?_ ?_ ?_; rotate_left; (· with_reducible rfl); (· simp [factsOf]); (· intro w1 hw1 _; go_simp; with_reducible rfl); (try simp only [Act.put, List.setIfInBounds_toArray, List.set_cons_zero, List.set_cons_succ])) | (with_reducible refine lexL_skip ?_ ?_; (· simp [Region.wanted, yielded, undef]); (try simp only [Act.put, List.setIfInBounds_toArray, List.set_cons_zero, List.set_cons_succ])) | (with_reducible refine lexL_quiet (v := ?_) ?_ ?_ ?_ ?_; rotate_left; (· simp [Region.wanted, yielded, undef]); (· simp [factsOf]); (· intro w1 hw1 _; go_simp; with_reducible rfl); (try simp only [Act.put, List.setIfInBounds_toArray, List.set_cons_zero, List.set_cons_succ])))
                with_reducible refine lexL_nil ?_; intro w1 hw1 hk1; simp only [List.drop_succ_cons, List.drop_zero]
                have HW := Lib.hid hw1
                clear hk1 hw1 m0 m1 m2 m3 lk hR6
                go_wp2
                go_roundw
                case rel => exact ⟨j + 1, by go_num, by omega, by omega, HE.out.trans HW.out⟩
                case measure => simp [intOf]; omega
              | true =>
                cases g5 : ((a3 : Int).tmod N == t) with
                | false =>
                  refine wp_region_ext 39 (factsOf []) (fun k => ([[], [0], [0, 1], [], [0, 1, 2, 3], [], [0, 1, 2, 3, 4, 5], [0, 1, 2, 3, 4, 5, 6], [0, 1, 2, 3, 4, 5, 6, 7], [0, 1, 2, 3, 4, 5, 6, 7, 8], [0, 1, 2, 3, 4, 5, 6, 7, 8, 9], [0, 1, 2, 3, 4, 5, 6, 7, 8, 9, 10], [0, 1, 2, 3, 4, 5, 6, 7], [0, 1, 2, 3, 4, 5, 6, 7, 8, 9, 10, 11, 12], [0, 1, 2, 3, 4, 5, 6, 7, 8, 9, 10, 11, 12, 13], [0, 1, 2, 3, 4, 5, 6, 7, 8, 9, 10, 11, 12, 13, 14], [0, 1, 2, 3, 4, 5, 6, 7, 8, 9, 10, 11, 12, 13, 14, 15], [0, 1, 2, 3, 4, 5, 6, 7, 8, 9, 10, 11, 12, 13, 14, 15, 16], [0, 1, 2, 3, 4, 5, 6, 7, 8, 9, 10, 11, 12, 13, 14, 15, 16, 17], [0, 1, 2, 3, 4, 5, 6, 7, 8, 9, 10, 11, 12, 13, 14, 15, 16, 17, 18], [0, 1, 2, 3, 4, 5, 6, 7, 8, 9, 10, 11, 12, 13, 14, 15, 16, 17, 18, 19], [0, 1, 2, 3, 4, 5, 6, 7, 8, 9, 10, 11, 12, 13, 14, 15, 16, 17, 18, 19, 20], [0, 1, 2, 3, 4, 5, 6, 7, 8, 9, 10, 11, 12, 13, 14, 15, 16, 17, 18, 19, 20, 21], [0, 1, 2, 3, 4, 5, 6, 7, 8, 9, 10, 11, 12, 13, 14, 15, 16, 17, 18, 19, 20, 21, 22], [0, 1, 2, 3, 4, 5, 6, 7, 8, 9, 10, 11, 12, 13, 14, 15, 16, 17, 18, 19, 20, 21, 22, 23], [0, 1, 2, 3, 4, 5, 6, 7, 8, 9, 10, 11, 12, 13, 14, 15, 16, 17, 18, 19, 20, 21], [0, 1, 2, 3, 4, 5, 6, 7, 8, 9, 10, 11, 12, 13, 14, 15, 16, 17, 18, 19, 20, 21, 25], [0, 1, 2, 3, 4, 5, 6, 7, 8, 9, 10, 11, 12, 13, 14, 15, 16, 17, 18, 19, 20, 21, 25, 26], [0, 1, 2, 3, 4, 5, 6, 7, 8, 9, 10, 11, 12, 13, 14, 15, 16, 17, 18, 19, 20, 21, 22, 23, 24, 25, 26, 27], [0, 1, 2, 3, 4, 5, 6, 7, 8, 9, 10, 11, 12, 13, 14, 15, 16, 17, 18, 19, 20, 21], [0, 1, 2, 3, 4, 5, 6, 7, 8, 9, 10, 11, 12, 13, 14, 15, 16, 17, 18, 19, 20, 21, 22, 23, 24, 25, 26, 27, 28, 29], [0, 1, 2, 3, 4, 5, 6, 7, 8, 9, 10, 11, 12, 13, 14, 15, 16, 17, 18, 19, 20, 21, 22, 23, 24, 25, 26, 27, 28, 29, 30], [0, 1, 2, 3, 4, 5, 6, 7, 8, 9, 10, 11, 12, 13, 14, 15, 16, 17, 18, 19, 20, 21, 22, 23, 24, 25, 26, 27, 28, 29, 30, 31], [0, 1, 2, 3, 4, 5, 6, 7, 8, 9, 10, 11, 12, 13, 14, 15, 16, 17, 18, 19, 20, 21, 22, 23, 24, 25, 26, 27, 28, 29, 30, 31, 32], [0, 1, 2, 3, 4, 5, 6, 7, 8, 9, 10, 11, 12, 13, 14, 15, 16, 17, 18, 19, 20, 21, 22, 23, 24, 25, 26, 27, 28, 29, 30, 31, 32, 33], [0, 1, 2, 3, 4, 5, 6, 7, 8, 9, 10, 11, 12, 13, 14, 15, 16, 17, 18, 19, 20, 21, 22, 23, 24, 25, 26, 27, 28, 29, 30, 31, 32, 33, 34], [0, 1, 2, 3, 4, 5, 6, 7, 8, 9, 10, 11, 12, 13, 14, 15, 16, 17, 18, 19, 20, 21, 22, 23, 24, 25, 26, 27, 28, 29, 30, 31, 32], [0, 1, 2, 3, 4, 5, 6, 7, 8, 9, 10, 11, 12, 13, 14, 15, 16, 17, 18, 19, 20, 21, 22, 23, 24, 25, 26, 27, 28, 29, 30, 31, 32, 33, 34, 35, 36], [0, 1, 2, 3, 4, 5, 6, 7, 8, 9, 10, 11, 12, 13, 14, 15, 16, 17, 18, 19, 20, 21, 22, 23, 24, 25, 26, 27, 28, 29, 30, 31, 32], [0, 1, 2, 3, 4, 5, 6, 7, 8, 9, 10, 11, 12, 13, 14, 15, 16, 17, 18, 19, 20, 21, 22, 23, 24, 25, 26, 27, 28, 29, 30, 31, 32, 33, 34, 35, 36, 37, 38], [0, 1, 2, 3, 4, 5, 6, 7, 8, 9, 10, 11, 12, 13, 14, 15, 16, 17, 18, 19, 20, 21, 22, 23, 24, 25, 26, 27, 28, 29, 30, 31, 32, 33, 34, 35, 36, 37, 38, 39]] : List (List Nat)).getD k []) (by kernel_rfl) (by kernel_rfl) Ext.pre (mono_nil) ?_
                  simp only [List.take_succ_cons, List.take_zero]
                  repeat (first | (with_reducible refine lexL_quiet' (v := ?_) ?_ ?_ ?_ ?_; rotate_left; (· with_reducible rfl); (· simp [factsOf]); (· intro w1 hw1 _; go_simp; with_reducible rfl); (try simp only [Act.put, List.setIfInBounds_toArray, List.set_cons_zero, List.set_cons_succ])) | (with_reducible refine lexL_skip ?_ ?_; (· simp [Region.wanted, yielded, undef]); (try simp only [Act.put, List.setIfInBounds_toArray, List.set_cons_zero, List.set_cons_succ])) | (with_reducible refine lexL_quiet (v := ?_) ?_ ?_ ?_ ?_; rotate_left; (· simp [Region.wanted, yielded, undef]); (· simp [factsOf]); (· intro w1 hw1 _; go_simp; with_reducible rfl); (try simp only [Act.put, List.setIfInBounds_toArray, List.set_cons_zero, List.set_cons_succ])))
                  with_reducible refine lexL_nil ?_; intro w1 hw1 hk1; simp only [List.drop_succ_cons, List.drop_zero]
                  have HW := Lib.hid hw1
                  clear hk1 hw1 m0 m1 m2 m3 lk hR6
                  go_wp2
                  go_roundw
                  case rel => exact ⟨j + 1, by go_num, by omega, by omega, HE.out.trans HW.out⟩
                  case measure => simp [intOf]; omega
                | true =>
                  refine wp_region_ext 39 (factsOf []) (fun k => ([[], [0], [0, 1], [], [0, 1, 2, 3], [], [0, 1, 2, 3, 4, 5], [0, 1, 2, 3, 4, 5, 6], [0, 1, 2, 3, 4, 5, 6, 7], [0, 1, 2, 3, 4, 5, 6, 7, 8], [0, 1, 2, 3, 4, 5, 6, 7, 8, 9], [0, 1, 2, 3, 4, 5, 6, 7, 8, 9, 10], [0, 1, 2, 3, 4, 5, 6, 7], [0, 1, 2, 3, 4, 5, 6, 7, 8, 9, 10, 11, 12], [0, 1, 2, 3, 4, 5, 6, 7, 8, 9, 10, 11, 12, 13], [0, 1, 2, 3, 4, 5, 6, 7, 8, 9, 10, 11, 12, 13, 14], [0, 1, 2, 3, 4, 5, 6, 7, 8, 9, 10, 11, 12, 13, 14, 15], [0, 1, 2, 3, 4, 5, 6, 7, 8, 9, 10, 11, 12, 13, 14, 15, 16], [0, 1, 2, 3, 4, 5, 6, 7, 8, 9, 10, 11, 12, 13, 14, 15, 16, 17], [0, 1, 2, 3, 4, 5, 6, 7, 8, 9, 10, 11, 12, 13, 14, 15, 16, 17, 18], [0, 1, 2, 3, 4, 5, 6, 7, 8, 9, 10, 11, 12, 13, 14, 15, 16, 17, 18, 19], [0, 1, 2, 3, 4, 5, 6, 7, 8, 9, 10, 11, 12, 13, 14, 15, 16, 17, 18, 19, 20], [0, 1, 2, 3, 4, 5, 6, 7, 8, 9, 10, 11, 12, 13, 14, 15, 16, 17, 18, 19, 20, 21], [0, 1, 2, 3, 4, 5, 6, 7, 8, 9, 10, 11, 12, 13, 14, 15, 16, 17, 18, 19, 20, 21, 22], [0, 1, 2, 3, 4, 5, 6, 7, 8, 9, 10, 11, 12, 13, 14, 15, 16, 17, 18, 19, 20, 21, 22, 23], [0, 1, 2, 3, 4, 5, 6, 7, 8, 9, 10, 11, 12, 13, 14, 15, 16, 17, 18, 19, 20, 21], [0, 1, 2, 3, 4, 5, 6, 7, 8, 9, 10, 11, 12, 13, 14, 15, 16, 17, 18, 19, 20, 21, 25], [0, 1, 2, 3, 4, 5, 6, 7, 8, 9, 10, 11, 12, 13, 14, 15, 16, 17, 18, 19, 20, 21, 25, 26], [0, 1, 2, 3, 4, 5, 6, 7, 8, 9, 10, 11, 12, 13, 14, 15, 16, 17, 18, 19, 20, 21, 22, 23, 24, 25, 26, 27], [0, 1, 2, 3, 4, 5, 6, 7, 8, 9, 10, 11, 12, 13, 14, 15, 16, 17, 18, 19, 20, 21], [0, 1, 2, 3, 4, 5, 6, 7, 8, 9, 10, 11, 12, 13, 14, 15, 16, 17, 18, 19, 20, 21, 22, 23, 24, 25, 26, 27, 28, 29], [0, 1, 2, 3, 4, 5, 6, 7, 8, 9, 10, 11, 12, 13, 14, 15, 16, 17, 18, 19, 20, 21, 22, 23, 24, 25, 26, 27, 28, 29, 30], [0, 1, 2, 3, 4, 5, 6, 7, 8, 9, 10, 11, 12, 13, 14, 15, 16, 17, 18, 19, 20, 21, 22, 23, 24, 25, 26, 27, 28, 29, 30, 31], [0, 1, 2, 3, 4, 5, 6, 7, 8, 9, 10, 11, 12, 13, 14, 15, 16, 17, 18, 19, 20, 21, 22, 23, 24, 25, 26, 27, 28, 29, 30, 31, 32], [0, 1, 2, 3, 4, 5, 6, 7, 8, 9, 10, 11, 12, 13, 14, 15, 16, 17, 18, 19, 20, 21, 22, 23, 24, 25, 26, 27, 28, 29, 30, 31, 32, 33], [0, 1, 2, 3, 4, 5, 6, 7, 8, 9, 10, 11, 12, 13, 14, 15, 16, 17, 18, 19, 20, 21, 22, 23, 24, 25, 26, 27, 28, 29, 30, 31, 32, 33, 34], [0, 1, 2, 3, 4, 5, 6, 7, 8, 9, 10, 11, 12, 13, 14, 15, 16, 17, 18, 19, 20, 21, 22, 23, 24, 25, 26, 27, 28, 29, 30, 31, 32], [0, 1, 2, 3, 4, 5, 6, 7, 8, 9, 10, 11, 12, 13, 14, 15, 16, 17, 18, 19, 20, 21, 22, 23, 24, 25, 26, 27, 28, 29, 30, 31, 32, 33, 34, 35, 36], [0, 1, 2, 3, 4, 5, 6, 7, 8, 9, 10, 11, 12, 13, 14, 15, 16, 17, 18, 19, 20, 21, 22, 23, 24, 25, 26, 27, 28, 29, 30, 31, 32], [0, 1, 2, 3, 4, 5, 6, 7, 8, 9, 10, 11, 12, 13, 14, 15, 16, 17, 18, 19, 20, 21, 22, 23, 24, 25, 26, 27, 28, 29, 30, 31, 32, 33, 34, 35, 36, 37, 38], [0, 1, 2, 3, 4, 5, 6, 7, 8, 9, 10, 11, 12, 13, 14, 15, 16, 17, 18, 19, 20, 21, 22, 23, 24, 25, 26, 27, 28, 29, 30, 31, 32, 33, 34, 35, 36, 37, 38, 39]] : List (List Nat)).getD k []) (by kernel_rfl) (by kernel_rfl) Ext.pre (mono_nil) ?_
                  simp only [List.take_succ_cons, List.take_zero]
                  repeat (first | (with_reducible refine lexL_quiet' (v := ?_) ?_ ?_ ?_ ?_; rotate_left; (· with_reducible rfl); (· simp [factsOf]); (· intro w1 hw1 _; go_simp; with_reducible rfl); (try simp only [Act.put, List.setIfInBounds_toArray, List.set_cons_zero, List.set_cons_succ])) | (with_reducible refine lexL_skip ?_ ?_; (· simp [Region.wanted, yielded, undef]); (try simp only [Act.put, List.setIfInBounds_toArray, List.set_cons_zero, List.set_cons_succ])) | (with_reducible refine lexL_quiet (v := ?_) ?_ ?_ ?_ ?_; rotate_left; (· simp [Region.wanted, yielded, undef]); (· simp [factsOf]); (· intro w1 hw1 _; go_simp; with_reducible rfl); (try simp only [Act.put, List.setIfInBounds_toArray, List.set_cons_zero, List.set_cons_succ])))
                  with_reducible refine lexL_nil ?_; intro w1 hw1 hk1; simp only [List.drop_succ_cons, List.drop_zero]
                  have HW := Lib.hid hw1
                  clear hk1 hw1 m0 m1 m2 m3 lk hR6
                  go_wp2
                  go_ret
                  exact ⟨true, rfl, HA.out.1.trans (HE.out.trans HW.out)⟩
            · skip
              refine wp_region_ext 39 (factsOf []) (fun k => ([[], [0], [0, 1], [], [0, 1, 2, 3], [], [0, 1, 2, 3, 4, 5], [0, 1, 2, 3, 4, 5, 6], [0, 1, 2, 3, 4, 5, 6, 7], [0, 1, 2, 3, 4, 5, 6, 7, 8], [0, 1, 2, 3, 4, 5, 6, 7, 8, 9], [0, 1, 2, 3, 4, 5, 6, 7, 8, 9, 10], [0, 1, 2, 3, 4, 5, 6, 7], [0, 1, 2, 3, 4, 5, 6, 7, 8, 9, 10, 11, 12], [0, 1, 2, 3, 4, 5, 6, 7, 8, 9, 10, 11, 12, 13], [0, 1, 2, 3, 4, 5, 6, 7, 8, 9, 10, 11, 12, 13, 14], [0, 1, 2, 3, 4, 5, 6, 7, 8, 9, 10, 11, 12, 13, 14, 15], [0, 1, 2, 3, 4, 5, 6, 7, 8, 9, 10, 11, 12, 13, 14, 15, 16], [0, 1, 2, 3, 4, 5, 6, 7, 8, 9, 10, 11, 12, 13, 14, 15, 16, 17], [0, 1, 2, 3, 4, 5, 6, 7, 8, 9, 10, 11, 12, 13, 14, 15, 16, 17, 18], [0, 1, 2, 3, 4, 5, 6, 7, 8, 9, 10, 11, 12, 13, 14, 15, 16, 17, 18, 19], [0, 1, 2, 3, 4, 5, 6, 7, 8, 9, 10, 11, 12, 13, 14, 15, 16, 17, 18, 19, 20], [0, 1, 2, 3, 4, 5, 6, 7, 8, 9, 10, 11, 12, 13, 14, 15, 16, 17, 18, 19, 20, 21], [0, 1, 2, 3, 4, 5, 6, 7, 8, 9, 10, 11, 12, 13, 14, 15, 16, 17, 18, 19, 20, 21, 22], [0, 1, 2, 3, 4, 5, 6, 7, 8, 9, 10, 11, 12, 13, 14, 15, 16, 17, 18, 19, 20, 21, 22, 23], [0, 1, 2, 3, 4, 5, 6, 7, 8, 9, 10, 11, 12, 13, 14, 15, 16, 17, 18, 19, 20, 21], [0, 1, 2, 3, 4, 5, 6, 7, 8, 9, 10, 11, 12, 13, 14, 15, 16, 17, 18, 19, 20, 21, 25], [0, 1, 2, 3, 4, 5, 6, 7, 8, 9, 10, 11, 12, 13, 14, 15, 16, 17, 18, 19, 20, 21, 25, 26], [0, 1, 2, 3, 4, 5, 6, 7, 8, 9, 10, 11, 12, 13, 14, 15, 16, 17, 18, 19, 20, 21, 22, 23, 24, 25, 26, 27], [0, 1, 2, 3, 4, 5, 6, 7, 8, 9, 10, 11, 12, 13, 14, 15, 16, 17, 18, 19, 20, 21], [0, 1, 2, 3, 4, 5, 6, 7, 8, 9, 10, 11, 12, 13, 14, 15, 16, 17, 18, 19, 20, 21, 22, 23, 24, 25, 26, 27, 28, 29], [0, 1, 2, 3, 4, 5, 6, 7, 8, 9, 10, 11, 12, 13, 14, 15, 16, 17, 18, 19, 20, 21, 22, 23, 24, 25, 26, 27, 28, 29, 30], [0, 1, 2, 3, 4, 5, 6, 7, 8, 9, 10, 11, 12, 13, 14, 15, 16, 17, 18, 19, 20, 21, 22, 23, 24, 25, 26, 27, 28, 29, 30, 31], [0, 1, 2, 3, 4, 5, 6, 7, 8, 9, 10, 11, 12, 13, 14, 15, 16, 17, 18, 19, 20, 21, 22, 23, 24, 25, 26, 27, 28, 29, 30, 31, 32], [0, 1, 2, 3, 4, 5, 6, 7, 8, 9, 10, 11, 12, 13, 14, 15, 16, 17, 18, 19, 20, 21, 22, 23, 24, 25, 26, 27, 28, 29, 30, 31, 32, 33], [0, 1, 2, 3, 4, 5, 6, 7, 8, 9, 10, 11, 12, 13, 14, 15, 16, 17, 18, 19, 20, 21, 22, 23, 24, 25, 26, 27, 28, 29, 30, 31, 32, 33, 34], [0, 1, 2, 3, 4, 5, 6, 7, 8, 9, 10, 11, 12, 13, 14, 15, 16, 17, 18, 19, 20, 21, 22, 23, 24, 25, 26, 27, 28, 29, 30, 31, 32], [0, 1, 2, 3, 4, 5, 6, 7, 8, 9, 10, 11, 12, 13, 14, 15, 16, 17, 18, 19, 20, 21, 22, 23, 24, 25, 26, 27, 28, 29, 30, 31, 32, 33, 34, 35, 36], [0, 1, 2, 3, 4, 5, 6, 7, 8, 9, 10, 11, 12, 13, 14, 15, 16, 17, 18, 19, 20, 21, 22, 23, 24, 25, 26, 27, 28, 29, 30, 31, 32], [0, 1, 2, 3, 4, 5, 6, 7, 8, 9, 10, 11, 12, 13, 14, 15, 16, 17, 18, 19, 20, 21, 22, 23, 24, 25, 26, 27, 28, 29, 30, 31, 32, 33, 34, 35, 36, 37, 38], [0, 1, 2, 3, 4, 5, 6, 7, 8, 9, 10, 11, 12, 13, 14, 15, 16, 17, 18, 19, 20, 21, 22, 23, 24, 25, 26, 27, 28, 29, 30, 31, 32, 33, 34, 35, 36, 37, 38, 39]] : List (List Nat)).getD k []) (by kernel_rfl) (by kernel_rfl) Ext.pre (mono_nil) ?_
              simp only [List.take_succ_cons, List.take_zero]
              repeat (first | (with_reducible refine lexL_quiet' (v := ?_) ?_ ?_ ?_ ?_; rotate_left; (· with_reducible rfl); (· simp [factsOf]); (· intro w1 hw1 _; go_simp; with_reducible rfl); (try simp only [Act.put, List.setIfInBounds_toArray, List.set_cons_zero, List.set_cons_succ])) | (with_reducible refine lexL_skip ?_ ?_; (· simp [Region.wanted, yielded, undef]); (try simp only [Act.put, List.setIfInBounds_toArray, List.set_cons_zero, List.set_cons_succ])) | (with_reducible refine lexL_quiet (v := ?_) ?_ ?_ ?_ ?_; rotate_left; (· simp [Region.wanted, yielded, undef]); (· simp [factsOf]); (· intro w1 hw1 _; go_simp; with_reducible rfl); (try simp only [Act.put, List.setIfInBounds_toArray, List.set_cons_zero, List.set_cons_succ])))
              with_reducible refine lexL_nil ?_; intro w1 hw1 hk1; simp only [List.drop_succ_cons, List.drop_zero]
              have HW := Lib.hid hw1
              clear hk1 hw1 m0 m1 m2 m3 lk hR6
              go_wp2
              go_roundw
              case rel => exact ⟨j + 1, by go_num, by omega, by omega, HE.out.trans HW.out⟩
              case measure => simp [intOf]; omega
      · have hj40 : j = 40 := by omega
        have k3 := k3 W5 hE
        have HE := Lib.hid hE
        clear hE
        go_wp2
        go_ret
        exact ⟨false, rfl, HA.out.1.trans HE.out⟩
    · have k3 := k3 W5 hE
      have HE := Lib.hid hE
      clear hE
      go_wp2
      go_ret
      exact ⟨false, rfl, HA.out.1.trans HE.out⟩
end Go.Proofs.YtamodjlifpjaoaaDoor
