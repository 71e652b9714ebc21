
import Derived.Test.YtmebgomnmlbgnaaDoorZZA
import Derived.Test.YtmebgomnmlbgnaaDoorRows
import Derived.ProofKit
import Derived.Carry
import Derived.OpenShut
import Derived.LaidMore
import Derived.LaidOnce
import Derived.Stop.Joined
set_option linter.unnecessarySimpa false
set_option linter.unusedSectionVars false
namespace Go.Proofs.YtmebgomnmlbgnaaDoor
open Go.ChangeShapes Go.WideShapes Go.ChangeAt Go.RowKit
set_option linter.unusedVariables false
set_option linter.unusedSimpArgs false
theorem Tryd.own : ownKnob Tryd.prog.godebug = none := by kernel_rfl
section
variable {α : Type}
theorem flatten_len {sz : Nat} : ∀ L : List (List α), (∀ l ∈ L, l.length = sz) → L.flatten.length = L.length * sz
  | [], _ => by simp
  | l :: L, h => by
    rw [List.flatten_cons, List.length_append, h l (by simp), flatten_len L (fun x hx => h x (by simp [hx])), List.length_cons, Nat.succ_mul, Nat.add_comm]
theorem flatten_get {sz : Nat} : ∀ (L : List (List α)), (∀ l ∈ L, l.length = sz) → ∀ (i r : Nat) (l : List α), L[i]? = some l → r < sz → L.flatten[i * sz + r]? = l[r]?
  | [], _, i, r, l, hi, _ => by simp at hi
  | x :: L, h, 0, r, l, hi, hr => by
    simp at hi; subst hi
    rw [List.flatten_cons, Nat.zero_mul, Nat.zero_add, List.getElem?_append_left (by rw [h x (by simp)]; exact hr)]
  | x :: L, h, i + 1, r, l, hi, hr => by
    have hx := h x (by simp)
    rw [List.flatten_cons, List.getElem?_append_right (by rw [hx, Nat.succ_mul]; omega), hx, show (i + 1) * sz + r - sz = i * sz + r by rw [Nat.succ_mul]; omega]
    exact flatten_get L (fun y hy => h y (by simp [hy])) i r l (by simpa using hi) hr
theorem list_of_each {Q : Nat → α → Prop} : ∀ (n : Nat), (∀ i, i < n → ∃ y, Q i y) → ∃ L : List α, L.length = n ∧ ∀ (i : Nat) (y : α), L[i]? = some y → Q i y
  | 0, _ => ⟨[], rfl, fun i y h => by simp at h⟩
  | n + 1, h => by
    obtain ⟨L, hl, hq⟩ := list_of_each n (fun i hi => h i (by omega))
    obtain ⟨y, hy⟩ := h n (by omega)
    refine ⟨L ++ [y], by simp [hl], fun i z hz => ?_⟩
    by_cases hi : i < L.length
    · rw [List.getElem?_append_left hi] at hz; exact hq i z hz
    · have hi2 : i = L.length := by
        have := (List.getElem?_eq_some_iff.1 hz).1
        simp at this; omega
      subst hi2
      rw [List.getElem?_append_right (Nat.le_refl _), Nat.sub_self] at hz
      cases hz
      rw [hl]; exact hy
theorem list_of_map {β : Type} {f : β → α} : ∀ (L : List α), (∀ (i : Nat) (y : α), L[i]? = some y → ∃ b, y = f b) → ∃ B : List β, L = B.map f
  | [], _ => ⟨[], rfl⟩
  | y :: L, h => by
    obtain ⟨b, rfl⟩ := h 0 y rfl
    obtain ⟨B, rfl⟩ := list_of_map L (fun i z hz => h (i + 1) z (by simpa using hz))
    exact ⟨b :: B, rfl⟩
end
section
variable {H : Type} {enc : TypeId × Value → H} {P : Program} {w : World}
theorem cells_open {A : Option Addr} {len sz : Nat} {Q : Nat → List Value → Prop} (hsz : 0 < sz) (h : ∀ i, i < len → ∃ a css, A = some a ∧ w.cells? 0 (a.add (i * sz)) sz = some css ∧ Q i css) :
    ∃ L : List (List Value), L.length = len ∧ (∀ (i : Nat) (css : List Value), L[i]? = some css → css.length = sz ∧ Q i css) ∧ Cells w A L.flatten := by
  obtain ⟨L, hl, hq⟩ := list_of_each (Q := fun i css => ∃ a, A = some a ∧ w.cells? 0 (a.add (i * sz)) sz = some css ∧ Q i css) len (fun i hi => by obtain ⟨a, css, h1, h2, h3⟩ := h i hi; exact ⟨css, a, h1, h2, h3⟩)
  have hlen : ∀ (i : Nat) (css : List Value), L[i]? = some css → css.length = sz := fun i css hi => by
    obtain ⟨a, _, h2, _⟩ := hq i css hi
    exact (World.cells?_some h2).2.1
  have hall : ∀ l ∈ L, l.length = sz := fun l hm => by
    obtain ⟨i, hi, rfl⟩ := List.mem_iff_getElem.1 hm
    exact hlen i _ (List.getElem?_eq_getElem hi)
  refine ⟨L, hl, fun i css hi => ⟨hlen i css hi, by obtain ⟨a, _, _, h3⟩ := hq i css hi; exact h3⟩, fun hpos => ?_⟩
  rw [flatten_len L hall] at hpos
  have hL0 : 0 < L.length := Nat.pos_of_ne_zero (fun h0 => by rw [h0] at hpos; simp at hpos)
  obtain ⟨a, rfl, h2, _⟩ := hq 0 L[0] (List.getElem?_eq_getElem hL0)
  have hc0 := (World.cells?_some h2).2.2 0 hsz
  have hlt : 0 < (L[0]).length := by rw [hall _ (List.getElem_mem hL0)]; exact hsz
  rw [List.getElem?_eq_getElem hlt] at hc0
  obtain ⟨b, o, sp⟩ := a
  have hsp : sp = none := by
    cases sp with
    | none => rfl
    | some q =>
      simp only [Addr.add, World.cell?] at hc0
      split at hc0 <;> simp at hc0
  subst hsp
  have hb : b < w.heap.size := by
    have := World.block_lt_of_cell? _ _ hc0
    simpa [Addr.add] using this
  refine ⟨b, o, rfl, hb, fun j u hu => ?_⟩
  have hj := (List.getElem?_eq_some_iff.1 hu).1
  rw [flatten_len L hall] at hj
  have hjd : j / sz < L.length := by
    apply Nat.div_lt_of_lt_mul
    rw [Nat.mul_comm]; exact hj
  have hjr : j % sz < sz := Nat.mod_lt _ hsz
  have hje : j / sz * sz + j % sz = j := by rw [Nat.mul_comm]; exact Nat.div_add_mod _ _
  obtain ⟨a, ha, h2, _⟩ := hq (j / sz) L[j / sz] (List.getElem?_eq_getElem hjd)
  cases ha
  have hc := (World.cells?_some h2).2.2 (j % sz) hjr
  have hf := flatten_get L hall (j / sz) (j % sz) _ (List.getElem?_eq_getElem hjd) hjr
  rw [hje, hu] at hf
  rw [← hf] at hc
  rw [Addr.add_lit] at hc
  have hadd : (⟨b, o + j / sz * sz, none⟩ : Addr).add (j % sz) = ⟨b, o + j, none⟩ := by
    rw [Addr.add_lit, Nat.add_assoc, hje]
  rw [hadd] at hc
  exact hc
theorem trod_places {t : TypeId} {v : Value} {d : DataW H} {p : List MemPlace} (h : DataW.Trod enc P w 0 (fun _ => true) true t v d p) : ∀ x ∈ p, x.block < w.heap.size := by
  obtain ⟨fuel, hf⟩ := h
  exact DataW.trod_lt _ _ _ _ hf
end
theorem flatten_single (xs : List Value) : (xs.map (fun u => [u])).flatten = xs := by
  induction xs with
  | nil => rfl
  | cons x r ih => simp [ih]
theorem u8_nat {a : Int} (h : (Lit.int .u8 a).wf = true) : ∃ k : Nat, a = k ∧ k < 256 := by
  have := bounds_u8 h
  exact ⟨a.toNat, by omega, by omega⟩
section
variable {H : Type} {enc : TypeId × Value → H} {P : Program} {w : World}
theorem open_slice2 {t e : TypeId} {fuel : Nat} {cs : List Value} {x : DataW H × List MemPlace} (ht : P.underlying t = some (.slice e)) (h : DataW.trod enc P w 0 (fun _ => true) true fuel t cs = some x) :
    ∃ (A : Option Addr) (len cap n : Nat), cs = [.slice A len cap] ∧ len ≤ cap ∧ cap ≤ maxLen ∧ n < fuel ∧
      ∀ i, i < len → ∃ a css y, A = some a ∧ w.cells? 0 (a.add (i * P.cellsOf e)) (P.cellsOf e) = some css ∧ DataW.trod enc P w 0 (fun _ => true) true n e css = some y := by
  rcases DataW.trod_slice ht h with ⟨rfl, _⟩ | ⟨a, len, cap, elems, rest, n, hf, rfl, _, _, hl, hm, hlen, hel, _, _⟩
  · refine ⟨none, 0, 0, 0, rfl, Nat.le_refl _, Nat.zero_le _, ?_, fun i hi => by omega⟩
    cases fuel with
    | zero => simp [DataW.trod] at h
    | succ n => omega
  · refine ⟨some a, len, cap, n, rfl, hl, hm, by omega, fun i hi => ?_⟩
    have := hel i hi
    rw [List.getElem?_eq_getElem (show i < elems.length by omega)] at this
    obtain ⟨css, h1, h2⟩ := Option.bind_eq_some_iff.1 this
    exact ⟨a, css, _, rfl, h1, h2⟩
end
section
variable {H : Type} {enc : TypeId × Value → H} {W : World}
theorem kc3 : Tryd.prog.cellsOf 3 = 1 := by kernel_rfl
theorem kc32 : Tryd.prog.cellsOf 32 = 1 := by kernel_rfl
theorem kc33 : Tryd.prog.cellsOf 33 = 1 := by kernel_rfl
theorem kc35 : Tryd.prog.cellsOf 35 = 3 := by kernel_rfl
abbrev NvT (W : World) := {u : Nv // ∃ t, NodeV W t (nvVal u)}
set_option maxRecDepth 100000 in
theorem open_tree : ∀ (k fuel : Nat) (cs : List Value) (x : DataW H × List MemPlace), fuel ≤ k → DataW.trod enc Tryd.prog W 0 (fun _ => true) true fuel 35 cs = some x → ∃ u : NvT W, cs = nvCells u.1
  | 0, fuel, cs, x, hk, h => by
    have : fuel = 0 := by omega
    subst this
    simp [DataW.trod] at h
  | k + 1, fuel, cs, x, hk, h => by
    obtain ⟨xs, m, hf, _, hlen, hxl, hfs⟩ := DataW.trod_struct Tryd.underlying35 h
    rw [kc35] at hlen
    match cs, hlen with
    | [c0, c1, c2], _ =>
      have h0 := hfs 0 _ rfl
      have h1 := hfs 1 _ rfl
      have h2 := hfs 2 _ rfl
      rw [List.getElem?_eq_getElem (show 0 < xs.length by rw [hxl]; decide)] at h0
      rw [List.getElem?_eq_getElem (show 1 < xs.length by rw [hxl]; decide)] at h1
      rw [List.getElem?_eq_getElem (show 2 < xs.length by rw [hxl]; decide)] at h2
      simp [kc3, kc32, kc33] at h0 h1 h2
      obtain ⟨op, e0, _, w0⟩ := DataW.trod_int Tryd.underlying32 h0
      obtain ⟨n, e1, _, _⟩ := DataW.trod_int Tryd.underlying3 h1
      cases e0; cases e1
      obtain ⟨o, rfl, ho⟩ := u8_nat w0
      obtain ⟨A, len, cap, n', e2, hl, hm, hn, hel⟩ := open_slice2 Tryd.underlying33 h2
      rw [kc35] at hel
      obtain ⟨L, hL, hq, hcs⟩ := cells_open (w := W) (A := A) (len := len) (sz := 3) (Q := fun _ css => ∃ u : NvT W, css = nvCells u.1) (by omega) (fun i hi => by
        obtain ⟨a, css, y, h1, h2, h3⟩ := hel i hi
        exact ⟨a, css, h1, h2, open_tree k n' css y (by omega) h3⟩)
      obtain ⟨B, rfl⟩ := list_of_map (f := fun (u : NvT W) => nvCells u.1) L (fun i y hy => (hq i y hy).2)
      have hBL : B.length = len := by rw [List.length_map] at hL; exact hL
      have hc2 : c2 = .slice A len cap := by simpa using e2
      subst hc2
      refine ⟨⟨(o, n, .slice A len cap), .mk o n (B.map (fun u => Classical.choose u.2)), ?_⟩, rfl⟩
      have hlen : (B.map (fun (u : NvT W) => Classical.choose u.2)).length = len := by rw [List.length_map, hBL]
      have hN : NodeV W (.mk o n (B.map (fun (u : NvT W) => Classical.choose u.2))) (.agg #[.int .u8 (o : Int), .int .i64 n, .slice A (B.map (fun (u : NvT W) => Classical.choose u.2)).length cap]) := by
        refine NodeV.mk ho (vs := B.map (·.1)) (by simp) ?_ (fun i t u ht hu => ?_) (by rw [hlen]; exact hl) (by rw [hlen]; unfold maxLen at hm; unfold lenMax; omega)
        · have he2 : (B.map (·.1)).flatMap nvCells = (B.map (fun u => nvCells u.1)).flatten := by
            rw [List.flatMap_def, List.map_map]; rfl
          rw [he2]; exact hcs
        · rw [List.getElem?_map] at ht hu
          cases hb : B[i]? with
          | none => rw [hb] at hu; simp at hu
          | some z =>
            rw [hb] at ht hu
            simp at ht hu
            subst ht; subst hu
            exact Classical.choose_spec z.2
      rw [hlen] at hN
      exact hN
theorem open_node {fuel : Nat} {cs : List Value} {x : DataW H × List MemPlace} (h : DataW.trod enc Tryd.prog W 0 (fun _ => true) true fuel 35 cs = some x) : ∃ u : NvT W, cs = nvCells u.1 := open_tree _ _ _ _ (Nat.le_refl _) h
theorem open_ints' {fuel : Nat} {cs : List Value} {x : DataW H × List MemPlace} (h : DataW.trod enc Tryd.prog W 0 (fun _ => true) true fuel 42 cs = some x) : ∃ v xs c, cs = [v] ∧ IntsC W v xs c := by
  obtain ⟨A, len, cap, n, e0, hl, hm, _, hel⟩ := open_slice2 Tryd.underlying42 h
  rw [kc3] at hel
  obtain ⟨L, hL, hq, hcs⟩ := cells_open (w := W) (A := A) (len := len) (sz := 1) (Q := fun _ css => ∃ t : Int, css = [.int .i64 t]) (by omega) (fun i hi => by
    obtain ⟨a, css, y, h1, h2, h3⟩ := hel i hi
    obtain ⟨t, e, _, _⟩ := DataW.trod_int Tryd.underlying3 h3
    exact ⟨a, css, h1, h2, t, e⟩)
  obtain ⟨B, rfl⟩ := list_of_map (f := fun (t : Int) => [Value.int .i64 t]) L (fun i y hy => (hq i y hy).2)
  have hBL : B.length = len := by rw [List.length_map] at hL; exact hL
  unfold maxLen at hm
  refine ⟨_, B, cap, e0, A, by rw [hBL], ?_, by rw [hBL]; exact hl, by unfold lenMax; omega⟩
  have he2 : B.map (Value.int .i64) = (B.map (fun t => [Value.int .i64 t])).flatten := by
    conv => lhs; rw [← flatten_single (B.map _), List.map_map]
    rfl
  rw [he2]
  exact hcs
set_option maxRecDepth 100000 in
theorem open_ints {b0 : Nat} {v : Value} {d : DataW H} {p : List MemPlace} (hv : Value.okWide Tryd.prog W .any b0 42 v) (h : DataW.Trod enc Tryd.prog W 0 (fun _ => true) true 42 v d p) : ∃ (xs : List Int) (c : Nat), IntsC W v xs c := by
  obtain ⟨a, len0, cp, rfl⟩ := okWide_slice Tryd.underlying42 hv
  obtain ⟨fuel, hf⟩ := h
  obtain ⟨u, xs, c, e, hi⟩ := open_ints' hf
  have he : Value.slice a len0 cp = u := by simpa [Value.cells] using e
  exact ⟨xs, c, he ▸ hi⟩
set_option maxRecDepth 100000 in
theorem open_top {b0 : Nat} {v : Value} {d : DataW H} {p : List MemPlace} (hv : Value.okWide Tryd.prog W .any b0 35 v) (h : DataW.Trod enc Tryd.prog W 0 (fun _ => true) true 35 v d p) : ∃ t, NodeV W t v := by
  obtain ⟨cs, rfl, hsz⟩ := okWide_struct Tryd.underlying35 hv
  obtain ⟨fuel, hf⟩ := h
  have hf : DataW.trod enc Tryd.prog W 0 (fun _ => true) true fuel 35 cs.toList = some (d, p) := by simpa [Value.cells] using hf
  obtain ⟨u, hu⟩ := open_node hf
  obtain ⟨t, ht⟩ := u.2
  refine ⟨t, ?_⟩
  have : cs = (nvCells u.1).toArray := by rw [← hu]
  rw [this]
  exact ht
end
def ranksZ : List Int := [6, 6, 6, 1, 3, 2, 5, 4]
def subsZ : List Int := [0, 0, 0, 2, 2, 2, 1, 1]
theorem tab_one {H : Type} {enc : TypeId × Value → H} {W : World} {g fuel : Nat} {cs : Array Value} {p : List MemPlace} {l : List Int} (hl : l.length = 8) (hv : ∀ r, W.cell? ⟨g, r, none⟩ = cs[r]?)
    (hd : DataW.trod enc Tryd.prog W 0 (fun _ => true) false fuel 121 cs.toList = some (.agg (l.map fun n => .lit (.int .i64 n)), p)) (r : Nat) (hr : r < 8) : W.cell? ⟨g, r, none⟩ = some (.int .i64 (l.getD r 0)) := by
  obtain ⟨xs, m, _, ex, _, hx, hel⟩ := DataW.trod_array Tryd.underlying121 hd
  have hE := hel r hr
  rw [kc3, Nat.mul_one, List.getElem?_eq_getElem (by omega)] at hE
  obtain ⟨z, e1, e2, _⟩ := DataW.trod_int Tryd.underlying3 hE
  have e3 : (xs.map (·.1)) = l.map fun n => .lit (.int .i64 n) := (DataW.agg.inj (Prod.mk.inj ex).1).symm
  have e4 : (xs.map (·.1))[r]? = (l.map fun n => (DataW.lit (.int .i64 n) : DataW H))[r]? := by rw [e3]
  rw [List.getElem?_map, List.getElem?_map, List.getElem?_eq_getElem (by omega : r < xs.length), List.getElem?_eq_getElem (by omega : r < l.length), e2] at e4
  have hz : z = l.getD r 0 := by
    simp only [Option.map_some, Option.some.injEq, DataW.lit.injEq, Lit.int.injEq, true_and] at e4
    rw [e4]; simp [List.getD, List.getElem?_eq_getElem (by omega : r < l.length)]
  rw [hv, ← hz]
  have : cs.toList[r]? = some (.int .i64 z) := by
    have h0 : ((cs.toList.drop r).take 1)[0]? = some (.int .i64 z) := by rw [e1]; rfl
    simpa using h0
  simpa using this
theorem subs_laid : (Rows.laid_gauntlet_regexes_subs : DataW Unit) = .agg (subsZ.map fun n => .lit (.int .i64 n)) := by kernel_rfl
theorem ranks_laid : (Rows.laid_gauntlet_regexes_ranks : DataW Unit) = .agg (ranksZ.map fun n => .lit (.int .i64 n)) := by kernel_rfl
set_option maxRecDepth 100000 in
theorem tabs_of_laid {W : World} (h : laidMetH Tryd.prog [("gauntlet/regexes.subs", Rows.laid_gauntlet_regexes_subs), ("gauntlet/regexes.ranks", Rows.laid_gauntlet_regexes_ranks)] W) : Tabs W := by
  rw [MakeChecks.laidMetH_plain _ _ _ (by kernel_rfl)] at h
  obtain ⟨ps, ⟨g, t, cs, fuel, p, q, hg, ht, hv, hd, ⟨g', t', cs', fuel', p', q', hg', ht', hv', hd', _, _⟩, _⟩, _, _⟩ := h
  obtain rfl := Option.some.inj ((show Tryd.prog.globalNamed "gauntlet/regexes.subs" = some 1 by kernel_rfl).symm.trans hg)
  obtain rfl := Option.some.inj ((show Tryd.prog.globalNamed "gauntlet/regexes.ranks" = some 0 by kernel_rfl).symm.trans hg')
  obtain rfl := Option.some.inj ((show (Tryd.prog.globals[1]?).map (·.type) = some 121 by kernel_rfl).symm.trans ht)
  obtain rfl := Option.some.inj ((show (Tryd.prog.globals[0]?).map (·.type) = some 121 by kernel_rfl).symm.trans ht')
  have hd0 := hd
  rw [subs_laid] at hd0
  have hd0' := hd'
  rw [ranks_laid] at hd0'
  have h1 := tab_one (l := subsZ) rfl (fun r => World.var?_cell hg hv r) (p := p) hd0
  have h2 := tab_one (l := ranksZ) rfl (fun r => World.var?_cell hg' hv' r) (p := p') hd0'
  intro k hk
  rw [h1 k hk, h2 k hk]
  match k, hk with
  | 0, _ => exact ⟨rfl, rfl⟩
  | 1, _ => exact ⟨rfl, rfl⟩
  | 2, _ => exact ⟨rfl, rfl⟩
  | 3, _ => exact ⟨rfl, rfl⟩
  | 4, _ => exact ⟨rfl, rfl⟩
  | 5, _ => exact ⟨rfl, rfl⟩
  | 6, _ => exact ⟨rfl, rfl⟩
  | 7, _ => exact ⟨rfl, rfl⟩
end Go.Proofs.YtmebgomnmlbgnaaDoor
