/- What a call owns, told as a list of data with blocks of their own; append tells where its result lies. -/
import Derived.Test.YteadkafeabhhhaaBase
import Derived.Maps.OwnSet
namespace Go.Proofs.Yteadkafeabhhhaa
open Go.RowKit
set_option linter.unusedVariables false
set_option linter.unusedSimpArgs false

/-! ### append, and where its result lies -/
section
variable {P : Program} {w : World}
theorem run_append_own2 (base : Nat) (t ty e : TypeId) (i : TypeInfo) (z : Value) (size bytes : Nat) (ht : P.underlying t = some (.slice e)) (hi : P.info? e = some i) (hz : i.zero = some z)
    (hsize : i.size = size) (hby : i.bytes = bytes) (hzs : z.cells.size = size) (hsz : 0 < size)
    (v : Value) (n : Nat) (xs : List Value) (hown : w.ownsRow base e size v n xs)
    (a : Addr) (m c : Nat) (news : List Value) (hl : news.length = m * size) (hnews : ∀ j u, news[j]? = some u → w.cell? (a.add j) = some u) (h1 : ∀ u ∈ news, u.oneCell' = true)
    (h63 : n + m ≤ maxLen) (hbytes : (n + m) * bytes ≤ 140737488355328) (hbase : base ≤ w.heap.size) :
    ∃ v' w', (Builtin.append_ #[t, t] ty #[v, .slice (some a) m c]).run P w = .ok v' w' ∧ w'.ownsRow base e size v' (n + m) (xs ++ news) ∧ w.grownBy w' v.ownBlock ∧
      (∀ b, v'.ownBlock = some b → v.ownBlock = some b ∨ w.heap.size ≤ b) := by
  obtain ⟨v', w', hr, h2, h3, h4⟩ := run_append_own (P := P) w base t ty e i z size bytes ht hi hz hsize hby hzs hsz v n xs hown a m c news hl hnews h1 h63 hbytes hbase
  refine ⟨v', w', hr, h2, h3, ?_⟩
  subst hsize
  subst hby
  have hsmall : n + m ≤ 9223372036854775807 := by simp only [maxLen] at h63; omega
  rcases hown.2 with ⟨rfl, rfl⟩ | ⟨g, cap, cur, rfl, hbg, hg, hnc, hcm, hcs, htake⟩
  · by_cases hm : m = 0
    · rw [h4.2 ⟨rfl, hm⟩]; intro b hb; cases hb
    · have hr2 := run_append_nil (P := P) w t ty e i z ht hi hz a m c news hl hnews (by omega) (by omega) (by have hb := hbytes; simp only [Nat.zero_add] at hb; omega)
      rw [hr] at hr2
      cases hr2
      intro b hb; cases hb; exact .inr (Nat.le_refl _)
  · by_cases hroom : n + m ≤ cap
    · have hfit : n * i.size + news.length ≤ cur.size := by rw [hl, hcs, ← Nat.add_mul]; exact Nat.mul_le_mul_right _ hroom
      have hr2 := run_append_room (P := P) w t ty e i ht hi g n cap cur hg a m c news hl hnews h1 hroom hfit
      rw [hr] at hr2
      cases hr2
      exact fun b hb => .inl hb
    · have holds : ∀ j u, xs[j]? = some u → w.cell? ((⟨g, 0, none⟩ : Addr).add j) = some u := hown.cells (g := g) rfl
      have hr2 := run_append_grow (P := P) w t ty e i z ht hi hz ⟨g, 0, none⟩ n cap xs hown.1 holds a m c news hl hnews (by omega) (by omega) (growslice_fits (by omega) hbytes)
      rw [hr] at hr2
      cases hr2
      intro b hb; cases hb; exact .inr (Nat.le_refl _)

theorem wp_append_own2 {o : Oper} {a : Act} {K : Act → World → Prop} {Q : Exit → Act → World → Prop} (s x : Operand) (t : TypeId)
    (ho : o.op = .call { callee := .builtin .append, args := #[s, x], argTypes := #[t, t] })
    (base : Nat) (e : TypeId) (i : TypeInfo) (z : Value) (size bytes : Nat) (ht : P.underlying t = some (.slice e)) (hi : P.info? e = some i) (hz : i.zero = some z)
    (hsize : i.size = size) (hby : i.bytes = bytes) (hzs : z.cells.size = size) (hsz : 0 < size)
    (v : Value) (n : Nat) (xs : List Value) (hs : a.eval s = v) (hown : w.ownsRow base e size v n xs)
    (ad : Addr) (m c : Nat) (news : List Value) (hx : a.eval x = .slice (some ad) m c) (hl : news.length = m * size) (hnews : ∀ j u, news[j]? = some u → w.cell? (ad.add j) = some u) (h1 : ∀ u ∈ news, u.oneCell' = true)
    (h63 : n + m ≤ maxLen) (hbytes : (n + m) * bytes ≤ 140737488355328) (hbase : base ≤ w.heap.size)
    (h : ∀ v' w', w'.ownsRow base e size v' (n + m) (xs ++ news) → w.grownBy w' v.ownBlock → (∀ b, v'.ownBlock = some b → v.ownBlock = some b ∨ w.heap.size ≤ b) → K (a.put o.dst v') w') : o.wp P a w K Q := by
  obtain ⟨v', w', hr, h2, h3, h4⟩ := run_append_own2 (P := P) (w := w) base t o.type e i z size bytes ht hi hz hsize hby hzs hsz v n xs hown ad m c news hl hnews h1 h63 hbytes hbase
  unfold Oper.wp execOp
  simp only [ho, resolve, invoke, builtin, Sem.run_bind, Sem.run_pure, Result.andThen_ok, List.map_toArray, List.map_cons, List.map_nil, hs, hx, hr]
  exact h v' w' h2 h3 h4
end

/-! ### What is owned -/
/-- v owns a row of slices vs; each of these owns its cells; no two of them share a block, nor with v. -/
structure OwnRows (w : World) (B e1 e2 s2 : Nat) (v : Value) (vs : List Value) (rs : List (Nat × List Value)) : Prop where
  own : w.ownsRow B e1 1 v vs.length vs
  len : vs.length = rs.length
  each : ∀ (j : Nat) (u : Value) (r : Nat × List Value), vs[j]? = some u → rs[j]? = some r → w.ownsRow B e2 s2 u r.1 r.2
  apart : ∀ (i j : Nat) (u u' : Value), vs[i]? = some u → vs[j]? = some u' → i ≠ j → ∀ b, u.ownBlock = some b → u'.ownBlock ≠ some b
  away : ∀ (j : Nat) (u : Value), vs[j]? = some u → ∀ b, u.ownBlock = some b → v.ownBlock ≠ some b

inductive Asn where
  | row (e size : Nat) (v : Value) (n : Nat) (xs : List Value)
  | rows (e1 e2 s2 : Nat) (v : Value) (vs : List Value) (rs : List (Nat × List Value))
  | blk (b : Nat) (o : Obj)
def Asn.ok (B : Nat) (w : World) : Asn → Prop
  | .row e s v n xs => w.ownsRow B e s v n xs
  | .rows e1 e2 s2 v vs rs => OwnRows w B e1 e2 s2 v vs rs
  | .blk b o => B ≤ b ∧ w.heap[b]? = some o
def Asn.foot : Asn → Nat → Prop
  | .row _ _ v _ _ => fun b => v.ownBlock = some b
  | .rows _ _ _ v vs _ => fun b => v.ownBlock = some b ∨ ∃ u ∈ vs, u.ownBlock = some b
  | .blk b _ => fun c => c = b

theorem ownsRow_of {w w' : World} {B e s : Nat} {v : Value} {n : Nat} {xs : List Value} (h : w.ownsRow B e s v n xs) (hb : ∀ b, v.ownBlock = some b → w'.heap[b]? = w.heap[b]?) : w'.ownsRow B e s v n xs := by
  refine ⟨h.1, ?_⟩
  rcases h.2 with hn | ⟨g, cap, cur, rfl, hB, hg, rest⟩
  · exact .inl hn
  · exact .inr ⟨g, cap, cur, rfl, hB, (hb g rfl).trans hg, rest⟩
theorem OwnRows.of {w w' : World} {B e1 e2 s2 : Nat} {v : Value} {vs : List Value} {rs : List (Nat × List Value)} (h : OwnRows w B e1 e2 s2 v vs rs) (hv : ∀ b, v.ownBlock = some b → w'.heap[b]? = w.heap[b]?)
    (hu : ∀ u ∈ vs, ∀ b, u.ownBlock = some b → w'.heap[b]? = w.heap[b]?) : OwnRows w' B e1 e2 s2 v vs rs :=
  ⟨ownsRow_of h.own hv, h.len, fun j u r hj hr => ownsRow_of (h.each j u r hj hr) (hu u (List.mem_of_getElem? hj)), h.apart, h.away⟩
theorem OwnRows.lt {w : World} {B e1 e2 s2 : Nat} {v : Value} {vs : List Value} {rs : List (Nat × List Value)} (h : OwnRows w B e1 e2 s2 v vs rs) {u : Value} (hu : u ∈ vs) {b : Nat} (hb : u.ownBlock = some b) : B ≤ b ∧ b < w.heap.size := by
  obtain ⟨j, hj, rfl⟩ := List.mem_iff_getElem.1 hu
  have hj2 : j < rs.length := by rw [← h.len]; exact hj
  exact (h.each j vs[j] rs[j] (List.getElem?_eq_getElem hj) (List.getElem?_eq_getElem hj2)).lt b hb
theorem Asn.lt {B : Nat} {w : World} {A : Asn} (h : A.ok B w) {b : Nat} (hb : A.foot b) : B ≤ b ∧ b < w.heap.size := by
  cases A with
  | row e s v n xs => exact World.ownsRow.lt h b hb
  | rows e1 e2 s2 v vs rs =>
    rcases hb with hb | ⟨u, hu, hb⟩
    · exact h.own.lt b hb
    · exact OwnRows.lt h hu hb
  | blk c o => cases hb; exact ⟨h.1, lt_of_block h.2⟩
theorem Asn.of {B : Nat} {w w' : World} {A : Asn} (h : A.ok B w) (hb : ∀ b, A.foot b → w'.heap[b]? = w.heap[b]?) : A.ok B w' := by
  cases A with
  | row e s v n xs => exact ownsRow_of h hb
  | rows e1 e2 s2 v vs rs => exact OwnRows.of h (fun b hv => hb b (.inl hv)) (fun u hu b h' => hb b (.inr ⟨u, hu, h'⟩))
  | blk c o => exact ⟨h.1, (hb c rfl).trans h.2⟩
theorem own_mono {w : World} {b1 b2 e s1 : Nat} {u : Value} {n1 : Nat} {xs : List Value} (h : w.ownsRow b1 e s1 u n1 xs) (hb : b2 ≤ b1) : w.ownsRow b2 e s1 u n1 xs := by
  refine ⟨h.1, ?_⟩
  rcases h.2 with hn | ⟨g, cap, cur, rfl, hg, rest⟩
  · exact .inl hn
  · exact .inr ⟨g, cap, cur, rfl, Nat.le_trans hb hg, rest⟩
theorem Asn.mono {b1 b2 : Nat} {w : World} {A : Asn} (h : A.ok b1 w) (hb : b2 ≤ b1) : A.ok b2 w := by
  cases A with
  | row e s v n xs => exact own_mono h hb
  | rows e1 e2 s2 v vs rs => exact ⟨own_mono h.own hb, h.len, fun j u r hj hr => own_mono (h.each j u r hj hr) hb, h.apart, h.away⟩
  | blk c o => exact ⟨Nat.le_trans hb h.1, h.2⟩

structure OwnL (w W : World) (L : List Asn) : Prop where
  ext : Ext w W
  ok : ∀ A ∈ L, A.ok w.heap.size W
  apart : L.Pairwise (fun A A' => ∀ b, A.foot b → ¬ A'.foot b)

theorem OwnL.nil {w W : World} (h : Ext w W) : OwnL w W [] := ⟨h, (fun A hA => by cases hA), .nil⟩
theorem OwnL.get {w W : World} {L : List Asn} (h : OwnL w W L) (k : Nat) {A : Asn} (hk : L[k]? = some A) : A.ok w.heap.size W := h.ok A (List.mem_of_getElem? hk)
theorem OwnL.trans {w W W' : World} {L : List Asn} (h : OwnL w W L) (e : Ext W W') : OwnL w W' L :=
  ⟨h.ext.trans e, fun A hA => Asn.of (h.ok A hA) (fun b hb => e.block b (Asn.lt (h.ok A hA) hb).2), h.apart⟩
theorem OwnL.drop {w W : World} {A : Asn} {L : List Asn} (h : OwnL w W (A :: L)) : OwnL w W L := ⟨h.ext, fun B hB => h.ok B (by simp [hB]), (List.pairwise_cons.1 h.apart).2⟩
theorem OwnL.add {w W W' : World} {L : List Asn} (h : OwnL w W L) (e : Ext W W') {A : Asn} (hA : A.ok W.heap.size W') : OwnL w W' (A :: L) := by
  have h' := h.trans e
  refine ⟨h'.ext, fun B hB => ?_, List.pairwise_cons.2 ⟨fun B hB b hb hb' => ?_, h.apart⟩⟩
  · rcases List.mem_cons.1 hB with rfl | hB
    · exact Asn.mono hA h.ext.size
    · exact h'.ok B hB
  · have h1 := (Asn.lt hA hb).1
    have h2 := (Asn.lt (h.ok B hB) hb').2
    omega
/-- One of the data turns; the others stay. -/
theorem OwnL.step {w W W' : World} {L : List Asn} (h : OwnL w W L) (k : Nat) {A A' : Asn} (hk : L[k]? = some A) {row : Option Nat} (hg : W.grownBy W' row) (hrow : ∀ b, row = some b → A.foot b) (hA : A'.ok w.heap.size W')
    (hf : ∀ b, A'.foot b → A.foot b ∨ W.heap.size ≤ b) : OwnL w W' (L.set k A') := by
  have hkl := (List.getElem?_eq_some_iff.1 hk).1
  have hAm := h.get k hk
  have hex : Ext w W' := Below.grown h.ext hg h.ext.size (fun b hb => (Asn.lt hAm (hrow b hb)).1)
  have hother : ∀ (j : Nat) (B : Asn), j ≠ k → L[j]? = some B → ∀ b, B.foot b → ¬ A.foot b := fun j B hj hB b hb hb' => by
    have hjl := (List.getElem?_eq_some_iff.1 hB).1
    have hp := List.pairwise_iff_getElem.1 h.apart
    rcases Nat.lt_or_gt_of_ne hj with hlt | hlt
    · have := hp j k hjl hkl hlt b (by rw [(List.getElem?_eq_some_iff.1 hB).2]; exact hb)
      rw [(List.getElem?_eq_some_iff.1 hk).2] at this
      exact this hb'
    · have := hp k j hkl hjl hlt b (by rw [(List.getElem?_eq_some_iff.1 hk).2]; exact hb')
      rw [(List.getElem?_eq_some_iff.1 hB).2] at this
      exact this hb
  have hset : ∀ (j : Nat) (B : Asn), (L.set k A')[j]? = some B → (j = k ∧ B = A') ∨ (j ≠ k ∧ L[j]? = some B) := fun j B hB => by
    by_cases hj : j = k
    · subst hj
      rw [List.getElem?_set_self hkl] at hB
      cases hB; exact .inl ⟨rfl, rfl⟩
    · rw [List.getElem?_set_ne (fun e => hj e.symm)] at hB
      exact .inr ⟨hj, hB⟩
  have hokB : ∀ (j : Nat) (B : Asn), j ≠ k → L[j]? = some B → B.ok w.heap.size W' := fun j B hj hB => by
    have hB0 := h.get j hB
    exact Asn.of hB0 (fun b hb => hg.block b (Asn.lt hB0 hb).2 (fun e => hother j B hj hB b hb (hrow b e.symm)))
  refine ⟨hex, fun B hB => ?_, List.pairwise_iff_getElem.2 fun i j hi hj hij b hb hb' => ?_⟩
  · obtain ⟨j, hj⟩ := List.getElem?_of_mem hB
    rcases hset j B hj with ⟨_, rfl⟩ | ⟨hne, hj⟩
    · exact hA
    · exact hokB j B hne hj
  · rcases hset i _ (List.getElem?_eq_getElem hi) with ⟨hi1, hi2⟩ | ⟨hi1, hi2⟩ <;> rcases hset j _ (List.getElem?_eq_getElem hj) with ⟨hj1, hj2⟩ | ⟨hj1, hj2⟩
    · omega
    · rw [hi2] at hb
      rcases hf b hb with h1 | h1
      · exact hother j _ hj1 hj2 b hb' h1
      · have := (Asn.lt (h.get j hj2) hb').2; omega
    · rw [hj2] at hb'
      rcases hf b hb' with h1 | h1
      · exact hother i _ hi1 hi2 b hb h1
      · have := (Asn.lt (h.get i hi2) hb).2; omega
    · have hi0 : i < L.length := by simpa using hi
      have hj0 : j < L.length := by simpa using hj
      have hp := List.pairwise_iff_getElem.1 h.apart i j hi0 hj0 hij b
      rw [(List.getElem?_eq_some_iff.1 hi2).2, (List.getElem?_eq_some_iff.1 hj2).2] at hp
      exact hp hb hb'
/-- A store into a row. -/
theorem OwnL.store {w W : World} {L : List Asn} (h : OwnL w W L) (k : Nat) {e s g n c : Nat} {xs : List Value} (hk : L[k]? = some (.row e s (.slice (some ⟨g, 0, none⟩) n c) n xs)) (j : Nat) (u : Value) :
    OwnL w (W.setCell ⟨g, j, none⟩ u) (L.set k (.row e s (.slice (some ⟨g, 0, none⟩) n c) n (xs.set j u))) := by
  have h1 : W.ownsRow w.heap.size e s (.slice (some ⟨g, 0, none⟩) n c) n xs := h.get k hk
  have h2 := h1.stored j u
  exact h.step k hk h2.2 (fun b hb => hb) h2.1 (fun b hb => .inl hb)
/-- A store into a block. -/
theorem OwnL.put {w W : World} {L : List Asn} (h : OwnL w W L) (k : Nat) {b t : Nat} {cs : Array Value} (hk : L[k]? = some (.blk b (.cells cs t (0, 0)))) (j : Nat) (u : Value) :
    OwnL w (W.setCell ⟨b, j, none⟩ u) (L.set k (.blk b (.cells (cs.setIfInBounds j u) t (0, 0)))) := by
  have h1 : w.heap.size ≤ b ∧ W.heap[b]? = some (.cells cs t (0, 0)) := h.get k hk
  have h2 := heap_setCell_same W b j cs t u h1.2
  refine h.step (A' := .blk b (.cells (cs.setIfInBounds j u) t (0, 0))) k hk (row := some b) ⟨rfl, rfl, rfl, by simp, fun c _ hc => heap_setCell_other W ⟨b, j, none⟩ c u (fun e => hc (by simp [e]))⟩ (fun c hc => by cases hc; rfl) ⟨h1.1, h2⟩ (fun c hc => .inl hc)
/-- A row has grown. -/
theorem OwnL.app {w W W' : World} {L : List Asn} (h : OwnL w W L) (k : Nat) {e s n n' : Nat} {v v' : Value} {xs xs' : List Value} (hk : L[k]? = some (.row e s v n xs)) (hg : W.grownBy W' v.ownBlock) (ho : W'.ownsRow w.heap.size e s v' n' xs')
    (hb : ∀ b, v'.ownBlock = some b → v.ownBlock = some b ∨ W.heap.size ≤ b) : OwnL w W' (L.set k (.row e s v' n' xs')) :=
  h.step k hk hg (fun b hb => hb) ho hb
/-- A row of a row has grown, and is stored at its place. -/
theorem OwnL.appAt {w W W' : World} {L : List Asn} (h : OwnL w W L) (k : Nat) {e1 e2 s2 g c n' : Nat} {vs : List Value} {rs : List (Nat × List Value)} {j : Nat} {u u' : Value} {r : Nat × List Value} {xs' : List Value}
    (hk : L[k]? = some (.rows e1 e2 s2 (.slice (some ⟨g, 0, none⟩) vs.length c) vs rs)) (hj : vs[j]? = some u) (hr : rs[j]? = some r) (hg : W.grownBy W' u.ownBlock) (ho : W'.ownsRow w.heap.size e2 s2 u' n' xs')
    (hb : ∀ b, u'.ownBlock = some b → u.ownBlock = some b ∨ W.heap.size ≤ b) :
    OwnL w (W'.setCell ⟨g, j, none⟩ u') (L.set k (.rows e1 e2 s2 (.slice (some ⟨g, 0, none⟩) (vs.set j u').length c) (vs.set j u') (rs.set j (n', xs')))) := by
  have hO : OwnRows W w.heap.size e1 e2 s2 (.slice (some ⟨g, 0, none⟩) vs.length c) vs rs := h.get k hk
  have hjl := (List.getElem?_eq_some_iff.1 hj).1
  have hjr := (List.getElem?_eq_some_iff.1 hr).1
  have hgW : g < W.heap.size := (hO.own.lt g rfl).2
  have hug : u.ownBlock ≠ some g := fun e => hO.away j u hj g e rfl
  have hug' : u'.ownBlock ≠ some g := fun e => by
    rcases hb g e with h1 | h1
    · exact hug h1
    · omega
  -- first the row grows
  have hown' : W'.ownsRow w.heap.size e1 1 (.slice (some ⟨g, 0, none⟩) vs.length c) vs.length vs := ownsRow_of hO.own (fun b hb' => by cases hb'; exact hg.block g hgW (fun e => hug e.symm))
  have hst := hown'.stored j u'
  have hgrow2 : W.heap.size ≤ (W'.setCell ⟨g, j, none⟩ u').heap.size := by have := hg.size; simpa using this
  have hblk : ∀ b, b < W.heap.size → some b ≠ u.ownBlock → b ≠ g → (W'.setCell ⟨g, j, none⟩ u').heap[b]? = W.heap[b]? := fun b hlt hne hne2 =>
    (heap_setCell_other W' ⟨g, j, none⟩ b u' hne2).trans (hg.block b hlt hne)
  have hblk' : ∀ b, b ≠ g → (W'.setCell ⟨g, j, none⟩ u').heap[b]? = W'.heap[b]? := fun b hne2 => heap_setCell_other W' ⟨g, j, none⟩ b u' hne2
  have hnew : OwnRows (W'.setCell ⟨g, j, none⟩ u') w.heap.size e1 e2 s2 (.slice (some ⟨g, 0, none⟩) (vs.set j u').length c) (vs.set j u') (rs.set j (n', xs')) := by
    refine ⟨by simpa using hst.1, by simp [hO.len], fun i y r' hy hr' => ?_, fun i i' y y' hy hy' hne b hyb hyb' => ?_, fun i y hy b hyb => ?_⟩
    · by_cases hij : i = j
      · subst hij
        rw [List.getElem?_set_self hjl] at hy
        rw [List.getElem?_set_self hjr] at hr'
        cases hy; cases hr'
        exact ownsRow_of ho (fun b hyb => hblk' b (fun e => hug' (e ▸ hyb)))
      · rw [List.getElem?_set_ne (fun e => hij e.symm)] at hy hr'
        have h2 := hO.each i y r' hy hr'
        exact ownsRow_of h2 (fun b hyb => hblk b (h2.lt b hyb).2 (fun e => hO.apart i j y u hy hj hij b hyb e.symm) (fun e => hO.away i y hy b hyb (by rw [e]; rfl)))
    · by_cases hij : i = j
      · subst hij
        rw [List.getElem?_set_self hjl] at hy
        cases hy
        rw [List.getElem?_set_ne hne] at hy'
        have h2 := hO.each i' y' _ hy' (List.getElem?_eq_getElem (by rw [← hO.len]; exact (List.getElem?_eq_some_iff.1 hy').1))
        rcases hb b hyb with h3 | h3
        · exact hO.apart i i' u y' hj hy' hne b h3 hyb'
        · have := (h2.lt b hyb').2; omega
      · rw [List.getElem?_set_ne (fun e => hij e.symm)] at hy
        have h2 := hO.each i y _ hy (List.getElem?_eq_getElem (by rw [← hO.len]; exact (List.getElem?_eq_some_iff.1 hy).1))
        by_cases hij' : i' = j
        · subst hij'
          rw [List.getElem?_set_self hjl] at hy'
          cases hy'
          rcases hb b hyb' with h3 | h3
          · exact hO.apart i i' y u hy hj hne b hyb h3
          · have := (h2.lt b hyb).2; omega
        · rw [List.getElem?_set_ne (fun e => hij' e.symm)] at hy'
          exact hO.apart i i' y y' hy hy' hne b hyb hyb'
    · by_cases hij : i = j
      · subst hij
        rw [List.getElem?_set_self hjl] at hy
        cases hy
        intro e
        cases e
        exact hug' hyb
      · rw [List.getElem?_set_ne (fun e => hij e.symm)] at hy
        intro e
        exact hO.away i y hy b hyb e
  -- the step, in two: the blocks that turn are those of u and of the row itself
  have hkl := (List.getElem?_eq_some_iff.1 hk).1
  have hAm := h.get k hk
  have hfoot : ∀ b, (Asn.rows e1 e2 s2 (.slice (some ⟨g, 0, none⟩) (vs.set j u').length c) (vs.set j u') (rs.set j (n', xs'))).foot b → (Asn.rows e1 e2 s2 (.slice (some ⟨g, 0, none⟩) vs.length c) vs rs).foot b ∨ W.heap.size ≤ b := fun b hb' => by
    rcases hb' with hb' | ⟨y, hy, hyb⟩
    · exact .inl (.inl hb')
    · rcases List.mem_or_eq_of_mem_set hy with hy | rfl
      · exact .inl (.inr ⟨y, hy, hyb⟩)
      · rcases hb b hyb with h3 | h3
        · exact .inl (.inr ⟨u, List.mem_of_getElem? hj, h3⟩)
        · exact .inr h3
  have hext' : Ext w W' := Below.grown h.ext hg h.ext.size (fun b hb' => (OwnRows.lt hO (List.mem_of_getElem? hj) hb').1)
  have hp := List.pairwise_iff_getElem.1 h.apart
  have hother : ∀ (i : Nat) (B : Asn), i ≠ k → L[i]? = some B → ∀ b, B.foot b → ¬ (Asn.rows e1 e2 s2 (.slice (some ⟨g, 0, none⟩) vs.length c) vs rs).foot b := fun i B hi hB b hb1 hb2 => by
    have hil := (List.getElem?_eq_some_iff.1 hB).1
    rcases Nat.lt_or_gt_of_ne hi with hlt | hlt
    · have := hp i k hil hkl hlt b (by rw [(List.getElem?_eq_some_iff.1 hB).2]; exact hb1)
      rw [(List.getElem?_eq_some_iff.1 hk).2] at this
      exact this hb2
    · have := hp k i hkl hil hlt b (by rw [(List.getElem?_eq_some_iff.1 hk).2]; exact hb2)
      rw [(List.getElem?_eq_some_iff.1 hB).2] at this
      exact this hb1
  have hset : ∀ (i : Nat) (A' B : Asn), (L.set k A')[i]? = some B → (i = k ∧ B = A') ∨ (i ≠ k ∧ L[i]? = some B) := fun i A' B hB => by
    by_cases hi : i = k
    · subst hi
      rw [List.getElem?_set_self hkl] at hB
      cases hB; exact .inl ⟨rfl, rfl⟩
    · rw [List.getElem?_set_ne (fun e => hi e.symm)] at hB
      exact .inr ⟨hi, hB⟩
  refine ⟨hext'.setCell (by exact (hO.own.lt g rfl).1) _, fun B hB => ?_, List.pairwise_iff_getElem.2 fun i i' hi hi' hii b hb1 hb2 => ?_⟩
  · obtain ⟨i, hi⟩ := List.getElem?_of_mem hB
    rcases hset i _ B hi with ⟨_, rfl⟩ | ⟨hne, hi⟩
    · exact hnew
    · have hB0 := h.get i hi
      refine Asn.of hB0 (fun b hb1 => hblk b (Asn.lt hB0 hb1).2 (fun e => ?_) (fun e => ?_))
      · exact hother i B hne hi b hb1 (.inr ⟨u, List.mem_of_getElem? hj, e.symm⟩)
      · exact hother i B hne hi b hb1 (.inl (by rw [e]; rfl))
  · rcases hset i _ _ (List.getElem?_eq_getElem hi) with ⟨hi1, hi2⟩ | ⟨hi1, hi2⟩ <;> rcases hset i' _ _ (List.getElem?_eq_getElem hi') with ⟨hj1, hj2⟩ | ⟨hj1, hj2⟩
    · omega
    · rw [hi2] at hb1
      rcases hfoot b hb1 with h1 | h1
      · exact hother i' _ hj1 hj2 b hb2 h1
      · have := (Asn.lt (h.get i' hj2) hb2).2; omega
    · rw [hj2] at hb2
      rcases hfoot b hb2 with h1 | h1
      · exact hother i _ hi1 hi2 b hb1 h1
      · have := (Asn.lt (h.get i hi2) hb1).2; omega
    · have hi0 : i < L.length := by simpa using hi
      have hj0 : i' < L.length := by simpa using hi'
      have hp' := hp i i' hi0 hj0 hii b
      rw [(List.getElem?_eq_some_iff.1 hi2).2, (List.getElem?_eq_some_iff.1 hj2).2] at hp'
      exact hp' hb1 hb2
end Go.Proofs.Yteadkafeabhhhaa
