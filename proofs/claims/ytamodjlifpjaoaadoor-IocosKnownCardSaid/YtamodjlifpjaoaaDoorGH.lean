/- append of an empty slice. append to a slice that has no room left: what was there stays as it was. iocos.right 54 and what it calls (63, 64, 71). iocos.Verdict 29: the search. iocos.Verdict 29. -/
import Derived.Test.YtamodjlifpjaoaaDoorGB
import Derived.Test.YtamodjlifpjaoaaDoorGC
import Derived.Test.YtamodjlifpjaoaaDoorGF
import Derived.Test.YtamodjlifpjaoaaDoorGG
namespace Go.Proofs.YtamodjlifpjaoaaDoor
open Go.RowKit
set_option linter.unusedVariables false
theorem run_append_none {P : Program} (t ty e : TypeId) (i : TypeInfo) (ht : P.underlying t = some (.slice e)) (hi : P.info? e = some i) (g n cap c : Nat) (hnc : n ≤ cap) (w : World) :
    (Builtin.append_ #[t, t] ty #[.slice (some ⟨g, 0, none⟩) n cap, .slice none 0 c]).run P w = .ok (.slice (some ⟨g, 0, none⟩) n cap) w := by
  simp [Builtin.append_, run_underlying ht, sizeOf, typeInfo, hi, Builtin.lenOf, hnc, Builtin.firstCells, storeCells]
end Go.Proofs.YtamodjlifpjaoaaDoor

namespace Go.Proofs.YtamodjlifpjaoaaDoor
open Go.RowKit
set_option linter.unusedVariables false
set_option linter.unusedSimpArgs false
section
variable {P : Program} {w : World}
theorem run_append_full (t ty e : TypeId) (i : TypeInfo) (z : Value) (size bytes : Nat) (ht : P.underlying t = some (.slice e)) (hi : P.info? e = some i) (hz : i.zero = some z) (hsize : i.size = size) (hby : i.bytes = bytes) (hsz : 0 < size)
    (A : Option Addr) (n : Nat) (xs : List Value) (hlen : xs.length = n * size) (hx : Cells w A xs) (hA : A = none → n = 0)
    (ad : Addr) (m c : Nat) (news : List Value) (hl : news.length = m * size) (hnews : ∀ j u, news[j]? = some u → w.cell? (ad.add j) = some u) (hm : 0 < m)
    (h63 : n + m ≤ maxLen) (hbytes : (n + m) * bytes ≤ 140737488355328) :
    ∃ c' w', (Builtin.append_ #[t, t] ty #[.slice A n n, .slice (some ad) m c]).run P w = .ok (.slice (some ⟨w.heap.size, 0, none⟩) (n + m) c') w' ∧ Ext w w' ∧ Cells w' (some ⟨w.heap.size, 0, none⟩) (xs ++ news) ∧ n + m ≤ c' := by
  subst hsize
  subst hby
  have hsmall : n + m ≤ 9223372036854775807 := by simp only [maxLen] at h63; omega
  have key : ∀ (W : World) (cs : Array Value) (ys : List Value) (tail : Array Value), cs = ys.toArray ++ tail → Cells (W.alloc (.cells cs e)) (some ⟨W.heap.size, 0, none⟩) ys := fun W cs ys tail hcs _ =>
    ⟨W.heap.size, 0, rfl, by simp, fun j u hj => by
      rw [Nat.zero_add]
      refine cell_of_blk (heap_alloc_new W _) j ?_
      rw [hcs, Array.getElem?_append_left (by have := (List.getElem?_eq_some_iff.1 hj).1; simpa using this)]
      simpa using hj⟩
  cases A with
  | none =>
    have hn := hA rfl
    subst hn
    have hx0 : xs = [] := List.eq_nil_of_length_eq_zero (by simpa using hlen)
    subst hx0
    have hr := run_append_nil (P := P) w t ty e i z ht hi hz ad m c news hl hnews hm (by omega) (by have hb := hbytes; simp only [Nat.zero_add] at hb; omega)
    refine ⟨grownCap w m 0 e, _, by rw [hr, Nat.zero_add], (drew_ext w).trans (alloc_ext _ _), ?_, by rw [Nat.zero_add]; exact grownCap_ge w m 0 e⟩
    exact key w.drew _ _ _ rfl
  | some a =>
    have holds : ∀ j u, xs[j]? = some u → w.cell? (a.add j) = some u := fun j u hj => by
      obtain ⟨b, o, h, _, hc⟩ := hx (by have := (List.getElem?_eq_some_iff.1 hj).1; omega)
      cases h
      rw [Addr.add_lit]
      exact hc j u hj
    have hr := run_append_grow (P := P) w t ty e i z ht hi hz a n n xs hlen holds ad m c news hl hnews (by omega) (by omega) (growslice_fits (by omega) hbytes)
    refine ⟨grownCap w (n + m) n e, _, hr, (drew_ext w).trans (alloc_ext _ _), ?_, grownCap_ge w (n + m) n e⟩
    exact key w.drew _ (xs ++ news) (Builtin.zeroCells z.cells (grownCap w (n + m) n e - (n + m))) (by simp)
theorem wpList_append_full {ops : Array Oper} {rest : List Oper} {o : Oper} {a : Act} {Q : Exit → Act → World → Prop} (hgd : o.guard = none) (s x : Operand) (t : TypeId)
    (ho : o.op = .call { callee := .builtin .append, args := #[s, x], argTypes := #[t, t] })
    (e : TypeId) (i : TypeInfo) (z : Value) (size bytes : Nat) (ht : P.underlying t = some (.slice e)) (hi : P.info? e = some i) (hz : i.zero = some z) (hsize : i.size = size) (hby : i.bytes = bytes) (hsz : 0 < size)
    (A : Option Addr) (n : Nat) (xs : List Value) (hs : a.eval s = .slice A n n) (hlen : xs.length = n * size) (hx : Cells w A xs) (hA : A = none → n = 0)
    (ad : Addr) (m c : Nat) (news : List Value) (hxx : a.eval x = .slice (some ad) m c) (hl : news.length = m * size) (hnews : ∀ j u, news[j]? = some u → w.cell? (ad.add j) = some u) (hm : 0 < m)
    (h63 : n + m ≤ maxLen) (hbytes : (n + m) * bytes ≤ 140737488355328)
    (h : ∀ c' w', Ext w w' → Cells w' (some ⟨w.heap.size, 0, none⟩) (xs ++ news) → n + m ≤ c' → wpList P ops Q rest (a.put o.dst (.slice (some ⟨w.heap.size, 0, none⟩) (n + m) c')) w') : wpList P ops Q (o :: rest) a w := by
  refine wpList_plain hgd fun K hK => ?_
  obtain ⟨c', w', hr, h2, h3, h4⟩ := run_append_full (P := P) (w := w) t o.type e i z size bytes ht hi hz hsize hby hsz A n xs hlen hx hA ad m c news hl hnews hm h63 hbytes
  unfold Oper.wp execOp
  simp only [ho, resolve, invoke, builtin, Sem.run_bind, Sem.run_pure, Result.andThen_ok, List.map_toArray, List.map_cons, List.map_nil, hs, hxx, hr]
  exact hK _ _ (h c' w' h2 h3 h4)
end
end Go.Proofs.YtamodjlifpjaoaaDoor

namespace Go.Proofs.YtamodjlifpjaoaaDoor
open Go.RowKit
set_option linter.unusedVariables false
set_option linter.unusedSimpArgs false
attribute [local go_sem] Oper.quietV quietV Oper.gives givesV ext_refl_iff ext_alloc_iff ext_drew_iff ext_drewN_iff
/-- What the closure of right sees. -/
def RightV (w : World) (b7 b3 k N : Nat) : Prop := ∃ A c, w.cell? ⟨b7, 0, none⟩ = some (.int .i64 (k : Int)) ∧ w.cell? ⟨b3, 0, none⟩ = some (.slice A N c) ∧ N ≤ 9223372036854775807
theorem RightV.ext {w w' : World} {b7 b3 k N : Nat} (h : RightV w b7 b3 k N) (e : Ext w w') : RightV w' b7 b3 k N := by
  obtain ⟨A, c, h1, h2, h3⟩ := h
  exact ⟨A, c, e.cell h1, e.cell h2, h3⟩
set_option maxRecDepth 100000 in
set_option maxHeartbeats 1000000 in
theorem off_any (w : World) (b7 b3 k N : Nat) (t : Int) (h : RightV w b7 b3 k N) : Calls Tryd.prog 64 #[.int .i64 t, .pointer (some ⟨b7, 0, none⟩), .pointer (some ⟨b3, 0, none⟩)] w fun e w' => e = .returned (.bool (offN N k t)) ∧ Ext w w' := by
  obtain ⟨A, c, h7, h3, hN⟩ := h
  have hB : Hid (offN N k t = (decide (t ≤ (k : Int)) || decide ((N : Int) ≤ t))) := Lib.hid rfl
  by_cases h1 : t ≤ (k : Int)
  · have hr : Hid (offN N k t = true) := Lib.hid (by rw [hB.out, decide_eq_true h1]; rfl)
    go_enter Tryd.func64, Tryd.ntmps64
    go_wp2
    go_ret
    exact ⟨by rw [hr.out]; rfl, Ext.refl _⟩
  · by_cases h2 : (N : Int) ≤ t
    · have hr : Hid (offN N k t = true) := Lib.hid (by rw [hB.out, decide_eq_true h2]; simp)
      go_enter Tryd.func64, Tryd.ntmps64
      go_wp2
      go_ret
      exact ⟨by rw [hr.out]; rfl, Ext.refl _⟩
    · have hr : Hid (offN N k t = false) := Lib.hid (by rw [hB.out, decide_eq_false h1, decide_eq_false h2]; rfl)
      go_enter Tryd.func64, Tryd.ntmps64
      go_wp2
      go_ret
      exact ⟨by rw [hr.out]; rfl, Ext.refl _⟩
set_option maxRecDepth 100000 in
set_option maxHeartbeats 1000000 in
theorem oindex_any (w : World) (v : Value) (l : List Int) (cv b7 b3 k N : Nat) (hv : IntsC w v l cv) (h : RightV w b7 b3 k N) : Calls Tryd.prog 71 #[v, .func (.func 64) #[] #[.pointer (some ⟨b7, 0, none⟩), .pointer (some ⟨b3, 0, none⟩)]] w (IdxB w (l.any (offN N k))) := by
  obtain ⟨A, rfl, hc0, _, hm⟩ := id hv
  unfold lenMax at hm
  have HR := Lib.hid h
  clear h
  go_enter Tryd.func71, Tryd.ntmps71
  go_wp2_with (fail)
  go_loopw [8] (fun i wr => ∃ j : Nat, j ≤ l.length ∧ i = .int .i64 j ∧ Hid ((l.take j).any (offN N k) = false) ∧ Ext w wr) (fun i _ => l.length - (intOf i).toNat)
  case atStart => exact ⟨0, by omega, rfl, Lib.hid (by simp), Ext.refl _⟩
  case round =>
    obtain ⟨j, hj, rfl, HP, hE⟩ := hrel
    obtain ⟨W1, hW1⟩ : ∃ W, W = wr := ⟨_, rfl⟩; subst hW1
    by_cases hlt : j < l.length
    · obtain ⟨y, hy⟩ : ∃ y, l[j]? = some y := ⟨_, List.getElem?_eq_getElem hlt⟩
      obtain ⟨b, o, rfl, c0⟩ := int_at (hc0.ext hE) hy
      have HT := Lib.hid (any_take (p := offN N k) hy)
      have HM := Lib.hid (any_of_get (p := offN N k) hy)
      have hc := off_any W1 b7 b3 k N y (HR.out.ext hE)
      have HE := Lib.hid hE
      clear hy hv hE hc0
      cases hq : offN N k y with
      | false =>
        rw [hq] at hc
        have hn : Hid ((l.take (j + 1)).any (offN N k) = false) := Lib.hid (by rw [HT.out, HP.out, hq]; rfl)
        clear hq
        go_wp2_with ((with_reducible refine hc.mono ?_); rintro e w1 ⟨rfl, e1⟩)
        go_roundw
        case rel => exact ⟨j + 1, by omega, by go_num, hn, HE.out.trans e1⟩
        case measure => simp [intOf]; omega
      | true =>
        rw [hq] at hc
        have hn : Hid (l.any (offN N k) = true) := Lib.hid (HM.out hq)
        clear hq
        go_wp2_with ((with_reducible refine hc.mono ?_); rintro e w1 ⟨rfl, e1⟩)
        go_ret
        exact ⟨j, rfl, by rw [hn.out]; simp, HE.out.trans e1⟩
    · have hn : Hid (l.any (offN N k) = false) := Lib.hid (any_full (by omega) HP.out)
      go_wp2
      go_ret
      exact ⟨-1, rfl, by rw [hn.out]; rfl, hE⟩
theorem ocontains_any (w : World) (v : Value) (l : List Int) (cv b7 b3 k N : Nat) (hv : IntsC w v l cv) (h : RightV w b7 b3 k N) : Calls Tryd.prog 63 #[v, .func (.func 64) #[] #[.pointer (some ⟨b7, 0, none⟩), .pointer (some ⟨b3, 0, none⟩)]] w fun e w' => e = .returned (.bool (l.any (offN N k))) ∧ Ext w w' := by
  have hc := oindex_any w v l cv b7 b3 k N hv h
  unfold IdxB at hc
  obtain ⟨A, rfl, _⟩ := id hv
  clear hv h
  go_enter Tryd.func63, Tryd.ntmps63
  go_wp2_with ((with_reducible refine hc.mono ?_); rintro e w1 ⟨i, rfl, hi, e1⟩; have hi := Lib.hid hi)
  go_ret
  exact ⟨by rw [← hi.out]; rfl, e1⟩
theorem right_no {i o : Int} {L : List Nd} {k : Nat} {nd : Nd} (hk : L[k]? = some nd) (h : okNd i o L.length k nd = false) : rightB i o L = false := by
  unfold rightB
  rw [Bool.and_eq_false_iff]
  left
  rw [List.all_eq_false]
  exact ⟨k, List.mem_range.2 (List.getElem?_eq_some_iff.1 hk).1, by rw [ndAt_get hk, h]; simp⟩
def okTo (i o : Int) (L : List Nd) (k : Nat) : Prop := ∀ t, t < k → okNd i o L.length t (ndAt L t) = true
theorem okTo_step {i o : Int} {L : List Nd} {k : Nat} {nd : Nd} (h : okTo i o L k) (hk : L[k]? = some nd) (h1 : okNd i o L.length k nd = true) : okTo i o L (k + 1) := fun t ht => by
  rcases Nat.lt_or_ge t k with h2 | h2
  · exact h t h2
  · obtain rfl : t = k := by omega
    rw [ndAt_get hk]; exact h1
theorem okTo_all {i o : Int} {L : List Nd} (h : okTo i o L L.length) : rightB i o L = decide (0 < L.length) := by
  unfold rightB
  rw [List.all_eq_true.2 (fun t ht => h t (List.mem_range.1 ht)), Bool.true_and]
set_option maxRecDepth 100000 in
set_option maxHeartbeats 8000000 in
theorem right_any (w : World) (v : Value) (L : List Nd) (c : Nat) (i o : Int) (hv : NodesC w v L c) (ho : 0 ≤ o ∧ o ≤ 16) (hL : L.length ≤ 100000) : Calls Tryd.prog 54 #[v, .int .i64 i, .int .i64 o] w fun e w' => e = .returned (.bool (rightB i o L)) ∧ Ext w w' := by
  obtain ⟨A, M, _, rfl, _⟩ := id hv
  have ho1 : IntKind.i64.wrap (o + 1) = o + 1 := by rw [IntKind.wrap_i64]; omega
  have HV := Lib.hid (And.intro hv ho)
  clear hv ho
  go_enter Tryd.func54, Tryd.ntmps54
  go_upto_region 1 with fail
  refine wp_named ?_
  intro W1 hW1
  have hE1 : Ext w W1 := by rw [hW1]; exact (Ext.refl _).alloc _
  have k3 : W1.cell? ⟨w.heap.size, 0, none⟩ = some (.slice A L.length c) := by rw [hW1]; simp [go_sem]
  clear hW1
  have HE1 := Lib.hid hE1
  have HV1 := Lib.hid (HV.out.1.ext hE1)
  clear hE1
  generalize w.heap.size = b3 at *
  have HK := Lib.hid k3
  go_upto_region 2 with fail
  clear k3
  go_loopw [12] (fun iv wr => ∃ k : Nat, iv = .int .i64 k ∧ k ≤ L.length ∧ Hid (okTo i o L k) ∧ Ext W1 wr) (fun iv _ => L.length - (intOf iv).toNat)
  case atStart => exact ⟨0, rfl, by omega, Lib.hid (fun t ht => by omega), Ext.refl _⟩
  case round =>
    obtain ⟨k, rfl, hk, HP, hE⟩ := hrel
    obtain ⟨W5, hW5⟩ : ∃ W, W = wr := ⟨_, rfl⟩; subst hW5
    by_cases hlt : k < L.length
    · obtain ⟨nd, hnd⟩ : ∃ nd, L[k]? = some nd := ⟨_, List.getElem?_eq_getElem hlt⟩
      obtain ⟨b, of, u, cu, hA, d0, d1, hu⟩ := (HV1.out.ext hE).at_ hnd
      injection hA with hA _ _
      subst hA
      obtain ⟨Au, rfl, _, _, hum⟩ := id hu
      unfold lenMax at hum
      have HU := Lib.hid hu
      have HND := Lib.hid hnd
      have HE5 := Lib.hid hE
      clear hnd hE hu
      go_upto_region 4 with fail
      refine wp_named ?_
      intro W6 hW6
      have e6 : Ext W5 W6 := by rw [hW6]; first | exact ((Ext.refl _).alloc _).alloc _ | exact (((Ext.refl _).alloc _).alloc _).drew
      have a7 : W6.cell? ⟨W5.heap.size, 0, none⟩ = some (.int .i64 (k : Int)) := by rw [hW6]; simp [go_sem]
      have a8 : W6.cell? ⟨W5.heap.size + 1, 0, none⟩ = some (.int .i64 nd.act) := by rw [hW6]; simp [go_sem]
      have a9 : W6.cell? ⟨W5.heap.size + 1, 1, none⟩ = some (.slice Au nd.next.length cu) := by rw [hW6]; simp [go_sem]
      clear hW6
      have hRV : RightV W6 W5.heap.size b3 k L.length := ⟨_, _, a7, e6.cell (HE5.out.cell HK.out), by omega⟩
      have hcon := ocontains_any W6 _ nd.next cu W5.heap.size b3 k L.length (HU.out.ext e6) hRV
      have HE := Lib.hid (HE1.out.trans (HE5.out.trans e6))
      have HE' := Lib.hid (HE5.out.trans e6)
      clear hRV e6 d0 d1 a7
      generalize W5.heap.size + 1 = b8 at *
      generalize W5.heap.size = b7 at *
      by_cases h1 : nd.act = -1
      · have g1 : (nd.act == -1) = true := by simp [h1]
        have HMN : manyOk i o nd = decide ((nd.next.length : Int) = o + 1) := by unfold manyOk; rw [if_pos h1]
        have HMN := Lib.hid HMN
        clear h1
        have hmany : Hid (manyOk i o nd = decide ((nd.next.length : Int) = o + 1)) := HMN
        cases hq : ((nd.next.length : Int) != o + 1) with
        | true =>
          have hr : Hid (rightB i o L = false) := Lib.hid (right_no HND.out (by unfold okNd; rw [hmany.out, decide_eq_false (by simpa using hq)]; rfl))
          go_wp2
          go_ret
          exact ⟨by rw [hr.out]; rfl, HE.out⟩
        | false =>
          have hm1 : Hid (manyOk i o nd = true) := Lib.hid (by rw [hmany.out, decide_eq_true (by simpa using hq)])
          cases hof : nd.next.any (offN L.length k) with
          | true =>
            rw [hof] at hcon
            have hr : Hid (rightB i o L = false) := Lib.hid (right_no HND.out (by unfold okNd; rw [hof]; simp))
            clear hof
            go_wp2_with ((with_reducible refine hcon.mono ?_); rintro e w7 ⟨rfl, e7⟩)
            go_ret
            exact ⟨by rw [hr.out]; rfl, HE.out.trans e7⟩
          | false =>
            rw [hof] at hcon
            have hr : Hid (okTo i o L (k + 1)) := Lib.hid (okTo_step HP.out HND.out (by unfold okNd; rw [hof, hm1.out]; rfl))
            clear hof
            go_wp2_with ((with_reducible refine hcon.mono ?_); rintro e w7 ⟨rfl, e7⟩)
            go_roundw
            case rel => exact ⟨k + 1, by go_num, by omega, hr, HE'.out.trans e7⟩
            case measure => simp [intOf]; omega
      have g1 : (nd.act == -1) = false := by simp [h1]
      by_cases h2 : 0 ≤ nd.act
      · by_cases h3 : nd.act < i
        · have HMN : manyOk i o nd = decide ((nd.next.length : Int) = 1) := by unfold manyOk; rw [if_neg h1, if_pos ⟨h2, h3⟩]
          have HMN := Lib.hid HMN
          clear h1
          have hmany : Hid (manyOk i o nd = decide ((nd.next.length : Int) = 1)) := HMN
          cases hq : ((nd.next.length : Int) != 1) with
          | true =>
            have hr : Hid (rightB i o L = false) := Lib.hid (right_no HND.out (by unfold okNd; rw [hmany.out, decide_eq_false (by simpa using hq)]; rfl))
            go_wp2
            go_ret
            exact ⟨by rw [hr.out]; rfl, HE.out⟩
          | false =>
            have hm1 : Hid (manyOk i o nd = true) := Lib.hid (by rw [hmany.out, decide_eq_true (by simpa using hq)])
            cases hof : nd.next.any (offN L.length k) with
            | true =>
              rw [hof] at hcon
              have hr : Hid (rightB i o L = false) := Lib.hid (right_no HND.out (by unfold okNd; rw [hof]; simp))
              clear hof
              go_wp2_with ((with_reducible refine hcon.mono ?_); rintro e w7 ⟨rfl, e7⟩)
              go_ret
              exact ⟨by rw [hr.out]; rfl, HE.out.trans e7⟩
            | false =>
              rw [hof] at hcon
              have hr : Hid (okTo i o L (k + 1)) := Lib.hid (okTo_step HP.out HND.out (by unfold okNd; rw [hof, hm1.out]; rfl))
              clear hof
              go_wp2_with ((with_reducible refine hcon.mono ?_); rintro e w7 ⟨rfl, e7⟩)
              go_roundw
              case rel => exact ⟨k + 1, by go_num, by omega, hr, HE'.out.trans e7⟩
              case measure => simp [intOf]; omega
        · have hr : Hid (rightB i o L = false) := Lib.hid (right_no HND.out (by unfold okNd manyOk; rw [if_neg h1, if_neg (fun h => h3 h.2), if_neg (by omega)]; rfl))
          have g2 : (nd.act != -2) = true := by simp; omega
          have g3 : (nd.act != -3) = true := by simp; omega
          clear h1
          go_wp2
          go_ret
          exact ⟨by rw [hr.out]; rfl, HE.out⟩
      · by_cases h4 : nd.act = -2 ∨ nd.act = -3
        · have HMN : manyOk i o nd = decide ((nd.next.length : Int) = 0) := by unfold manyOk; rw [if_neg h1, if_neg (fun h => h2 h.1), if_pos h4]
          have HMN := Lib.hid HMN
          rcases h4 with h4 | h4
          · have g2 : (nd.act != -2) = false := by simp [h4]
            clear h1 h4
            have hmany : Hid (manyOk i o nd = decide ((nd.next.length : Int) = 0)) := HMN
            cases hq : ((nd.next.length : Int) != 0) with
            | true =>
              have hr : Hid (rightB i o L = false) := Lib.hid (right_no HND.out (by unfold okNd; rw [hmany.out, decide_eq_false (by simpa using hq)]; rfl))
              go_wp2
              go_ret
              exact ⟨by rw [hr.out]; rfl, HE.out⟩
            | false =>
              have hm1 : Hid (manyOk i o nd = true) := Lib.hid (by rw [hmany.out, decide_eq_true (by simpa using hq)])
              cases hof : nd.next.any (offN L.length k) with
              | true =>
                rw [hof] at hcon
                have hr : Hid (rightB i o L = false) := Lib.hid (right_no HND.out (by unfold okNd; rw [hof]; simp))
                clear hof
                go_wp2_with ((with_reducible refine hcon.mono ?_); rintro e w7 ⟨rfl, e7⟩)
                go_ret
                exact ⟨by rw [hr.out]; rfl, HE.out.trans e7⟩
              | false =>
                rw [hof] at hcon
                have hr : Hid (okTo i o L (k + 1)) := Lib.hid (okTo_step HP.out HND.out (by unfold okNd; rw [hof, hm1.out]; rfl))
                clear hof
                go_wp2_with ((with_reducible refine hcon.mono ?_); rintro e w7 ⟨rfl, e7⟩)
                go_roundw
                case rel => exact ⟨k + 1, by go_num, by omega, hr, HE'.out.trans e7⟩
                case measure => simp [intOf]; omega
          · have g2 : (nd.act != -2) = true := by simp [h4]
            have g3 : (nd.act != -3) = false := by simp [h4]
            clear h1 h4
            have hmany : Hid (manyOk i o nd = decide ((nd.next.length : Int) = 0)) := HMN
            cases hq : ((nd.next.length : Int) != 0) with
            | true =>
              have hr : Hid (rightB i o L = false) := Lib.hid (right_no HND.out (by unfold okNd; rw [hmany.out, decide_eq_false (by simpa using hq)]; rfl))
              go_wp2
              go_ret
              exact ⟨by rw [hr.out]; rfl, HE.out⟩
            | false =>
              have hm1 : Hid (manyOk i o nd = true) := Lib.hid (by rw [hmany.out, decide_eq_true (by simpa using hq)])
              cases hof : nd.next.any (offN L.length k) with
              | true =>
                rw [hof] at hcon
                have hr : Hid (rightB i o L = false) := Lib.hid (right_no HND.out (by unfold okNd; rw [hof]; simp))
                clear hof
                go_wp2_with ((with_reducible refine hcon.mono ?_); rintro e w7 ⟨rfl, e7⟩)
                go_ret
                exact ⟨by rw [hr.out]; rfl, HE.out.trans e7⟩
              | false =>
                rw [hof] at hcon
                have hr : Hid (okTo i o L (k + 1)) := Lib.hid (okTo_step HP.out HND.out (by unfold okNd; rw [hof, hm1.out]; rfl))
                clear hof
                go_wp2_with ((with_reducible refine hcon.mono ?_); rintro e w7 ⟨rfl, e7⟩)
                go_roundw
                case rel => exact ⟨k + 1, by go_num, by omega, hr, HE'.out.trans e7⟩
                case measure => simp [intOf]; omega
        · have hr : Hid (rightB i o L = false) := Lib.hid (right_no HND.out (by unfold okNd manyOk; rw [if_neg h1, if_neg (fun h => h2 h.1), if_neg h4]; rfl))
          have g2 : (nd.act != -2) = true := by simp; omega
          have g3 : (nd.act != -3) = true := by simp; omega
          clear h1 h4
          go_wp2
          go_ret
          exact ⟨by rw [hr.out]; rfl, HE.out⟩
    · obtain rfl : k = L.length := by omega
      have hr : Hid (rightB i o L = decide (0 < L.length)) := Lib.hid (okTo_all HP.out)
      have k3 := hE.cell HK.out
      have HE := Lib.hid hE
      clear hE
      go_wp2
      go_ret
      exact ⟨by rw [hr.out]; simp [Int.natCast_pos], HE1.out.trans HE.out⟩
end Go.Proofs.YtamodjlifpjaoaaDoor

namespace Go.Proofs.YtamodjlifpjaoaaDoor
open Go.RowKit Go.Maps
set_option linter.unusedVariables false
set_option linter.unusedSimpArgs false
attribute [local go_sem] Oper.quietV quietV Oper.gives givesV ext_refl_iff ext_alloc_iff ext_drew_iff ext_drewN_iff
noncomputable def T29 (n : Nat) : Code := textR n Tryd.f29.body
def VerdP (w : World) (r : Bool × List Int × Int) (e : Ending) (w' : World) : Prop := ∃ tv, e = .returned (.tuple #[.bool r.1, tv, .int .i64 r.2.2]) ∧ FitC w' tv r.2.1 ∧ Ext w w'
theorem place_info : (Tryd.prog.info? 104).map (fun i => (i.zero, i.size, i.bytes)) = some (some (.agg #[.int .i64 0, .int .u64 0]), 2, 16) := by kernel_rfl
def plCells (r : Fp) : List Value := [.int .i64 r.key.1, .int .u64 r.key.2]
def fd0Cells (r : Fp) : List Value := [.int .u64 0, .int .u64 0, .int .i64 r.fr, .int .i64 r.sy, .int .i64 r.ln]
theorem flat_len (f : Fp → List Value) (s : Nat) (hf : ∀ r, (f r).length = s) : ∀ l : List Fp, (l.flatMap f).length = l.length * s
  | [] => by simp
  | y :: t => by rw [List.flatMap_cons, List.length_append, flat_len f s hf t, hf, List.length_cons, Nat.succ_mul, Nat.add_comm]
theorem flat_get (f : Fp → List Value) (s : Nat) (hf : ∀ r, (f r).length = s) : ∀ {l : List Fp} {i : Nat} {r : Fp} (h : l[i]? = some r) (j : Nat) (u : Value), (f r)[j]? = some u → (l.flatMap f)[i * s + j]? = some u
  | [], i, r, h, _, _, _ => by simp at h
  | y :: t, 0, r, h, j, u, hj => by
    simp at h; subst h
    have := (List.getElem?_eq_some_iff.1 hj).1
    rw [List.flatMap_cons, Nat.zero_mul, Nat.zero_add, List.getElem?_append_left this]; exact hj
  | y :: t, i + 1, r, h, j, u, hj => by
    have h2 := flat_get f s hf (l := t) (i := i) (r := r) (by simpa using h) j u hj
    rw [List.flatMap_cons, List.getElem?_append_right (by rw [hf, Nat.succ_mul]; omega), hf]
    rw [← h2]; congr 1; rw [Nat.succ_mul]; omega
theorem pl_len (l : List Fp) : (l.flatMap plCells).length = l.length * 2 := flat_len plCells 2 (fun _ => rfl) l
theorem pl_get {l : List Fp} {i : Nat} {r : Fp} (h : l[i]? = some r) (j : Nat) (u : Value) (hj : (plCells r)[j]? = some u) : (l.flatMap plCells)[i * 2 + j]? = some u := flat_get plCells 2 (fun _ => rfl) h j u hj
theorem f0_len (l : List Fp) : (l.flatMap fd0Cells).length = l.length * 5 := flat_len fd0Cells 5 (fun _ => rfl) l
theorem f0_get {l : List Fp} {i : Nat} {r : Fp} (h : l[i]? = some r) (j : Nat) (u : Value) (hj : (fd0Cells r)[j]? = some u) : (l.flatMap fd0Cells)[i * 5 + j]? = some u := flat_get fd0Cells 5 (fun _ => rfl) h j u hj
/-- A row, halfway. -/
def rowV (x : Lts) (L : List Nd) (n j : Nat) (k : Nat × Nat) : List Fp := rowB (rootV x) okV (goV x L n) n ((candV x L k).take j)
theorem rowV_zero (x : Lts) (L : List Nd) (n : Nat) (k : Nat × Nat) : rowV x L n 0 k = goV x L n := rfl
theorem candV_len (x : Lts) (L : List Nd) (k : Nat × Nat) : (candV x L k).length = (ndAt L k.1).next.length := by simp [candV]
theorem candV_at {x : Lts} {L : List Nd} {k : Nat × Nat} {j : Nat} (hj : j < (ndAt L k.1).next.length) : (candV x L k)[j]? = some (candAt x (ndAt L k.1) k.2 j) := by
  unfold candV
  rw [List.getElem?_map, List.getElem?_range hj]; rfl
theorem rowV_succ {x : Lts} {L : List Nd} {n j : Nat} {k : Nat × Nat} (hj : j < (ndAt L k.1).next.length) : rowV x L n (j + 1) k = addB (rootV x) okV (rowV x L n j k) n (candAt x (ndAt L k.1) k.2 j) := rowB_snoc _ _ (candV_at hj)
theorem rowV_all {x : Lts} {L : List Nd} {n : Nat} {r : Fp} (h : (goV x L n)[n]? = some r) : rowV x L n (ndAt L r.key.1).next.length r.key = goV x L (n + 1) := by
  unfold rowV
  rw [List.take_of_length_le (by rw [candV_len]; exact Nat.le_refl _)]
  exact (goB_step h).symm
theorem rowV_pre {x : Lts} {L : List Nd} {n : Nat} {r : Fp} (h : (goV x L n)[n]? = some r) (j : Nat) : goV x L n <+: rowV x L n j r.key ∧ rowV x L n j r.key <+: goV x L (n + 1) := by
  refine ⟨rowB_pre _ _ _, ?_⟩
  have h1 := rowB_take_pre (root := rootV x) (ok := okV) (goV x L n) n (candV x L r.key) j
  have h2 : goV x L (n + 1) = rowB (rootV x) okV (goV x L n) n (candV x L r.key) := goB_step h
  rw [h2]
  exact h1
theorem rowV_ok {x : Lts} {L : List Nd} (hR : RightT x.ins x.outs L) {n : Nat} {r : Fp} (h : (goV x L n)[n]? = some r) (j : Nat) : OkB (rootV x) (candV x L) okV (rowV x L n j r.key) := by
  obtain ⟨h1, h2⟩ := go_ok (root := rootV x) (cand := candV x L) (ok := okV) (candV_rise hR) n
  exact (row_ok ((candV x L r.key).take j) h1 h (fun e he => List.mem_of_mem_take he) (List.Pairwise.sublist (List.take_sublist _ _) (candV_rise hR r.key)) (fun e _ => h2 e.1)).1
theorem goV_end {x : Lts} {L : List Nd} {n : Nat} (hn : n = (goV x L n).length) (hl : (goV x L n).length ≤ 32768) : fndV x L = goV x L n := goB_stop (by show (goV x L n).length ≤ n; omega) (by rw [capV_eq]; omega)
theorem wayP_pre {root : Nat × Nat} {cand : Nat × Nat → List (Int × (Nat × Nat))} {ok : Nat × Nat → Bool} {l L : List Fp} (h : l <+: L) (hok : OkB root cand ok l) : ∀ (k n : Nat), n < l.length → wayP root l k n = wayP root L k n
  | 0, _, _ => rfl
  | k + 1, n, hn => by
    have h1 := List.getElem?_eq_getElem hn
    have h2 := pre_get h h1
    have hln := hok.ln n _ h1
    have ih := wayP_pre h hok k ((l.getD n (rt root)).fr.toNat) (by rw [fd_get h1]; omega)
    show wayP root l k ((l.getD n (rt root)).fr.toNat) ++ [(l.getD n (rt root)).sy] = wayP root L k ((L.getD n (rt root)).fr.toNat) ++ [(L.getD n (rt root)).sy]
    rw [ih, fd_get h1, fd_get h2]
theorem lnk0_of {w : World} {A : Option Addr} {root : Nat × Nat} {cand : Nat × Nat → List (Int × (Nat × Nat))} {ok : Nat × Nat → Bool} {l : List Fp} {c : Nat} (h : Cells w A (l.flatMap fd0Cells)) (hok : OkB root cand ok l) (hn : l.length ≤ 100000000) : LnksC w (.slice A l.length c) l.length (lnkOf root l) ∧ ∀ i, i < l.length → (lnkOf root l i).fr < l.length := by
  obtain ⟨b, o, rfl, _, hc⟩ := h (by rw [f0_len]; have := hok.pos; omega)
  refine ⟨⟨b, o, c, rfl, hn, fun i hi => ?_⟩, fun i hi => ?_⟩
  · have hr := List.getElem?_eq_getElem hi
    have h2 := hc _ _ (f0_get hr 2 _ rfl)
    have h3 := hc _ _ (f0_get hr 3 _ rfl)
    have h4 := hc _ _ (f0_get hr 4 _ rfl)
    rw [← Nat.add_assoc] at h2 h3 h4
    have hln := hok.ln i _ hr
    have hg := fd_get (d := rt root) hr
    unfold lnkOf
    rw [hg]
    exact ⟨by rw [h2]; congr 2; simp only; omega, h3, by rw [h4]; congr 2; simp only; omega⟩
  · have hr := List.getElem?_eq_getElem hi
    have hln := hok.ln i _ hr
    unfold lnkOf
    rw [fd_get (d := rt root) hr]
    simp only
    omega
/-- The places that the map knows: all but the first. -/
def keysT (l : List Fp) : List (Nat × Nat) := (l.map Fd.key).tail
theorem keysT_in {x : Lts} {L : List Nd} {l : List Fp} (hok : OkB (rootV x) (candV x L) okV l) {k T : Nat} (hk : 0 < k) : inB l (k, T) = decide ((k, T) ∈ keysT l) := by
  rw [Bool.eq_iff_iff, inB_iff, decide_eq_true_iff]
  unfold keysT
  have h0 := hok.first
  cases l with
  | nil => simp at h0
  | cons a t =>
    simp at h0; subst h0
    simp only [List.map_cons, List.tail_cons, List.mem_cons]
    refine ⟨fun h => h.elim (fun e => ?_) id, .inr⟩
    unfold rt rootV at e
    simp only [Prod.mk.injEq] at e
    omega
theorem keysT_snoc {l : List Fp} (h : 0 < l.length) (r : Fp) : keysT (l ++ [r]) = keysT l ++ [r.key] := by
  unfold keysT
  cases l with
  | nil => simp at h
  | cons a t => simp
theorem verd_fail {x : Lts} {L : List Nd} (hR : RightT x.ins x.outs L) {n : Nat} {r : Fp} (hr : (goV x L n)[n]? = some r) (hf : failB L r = true) (hno : ∀ (m : Nat) (z : Fp), m < n → (goV x L n)[m]? = some z → failB L z = false) (hn : n ≤ 32768) :
    verdT x L = (false, wayF (lnkOf (rootV x) (goV x L n)) (lnkOf (rootV x) (goV x L n) n).ln n, 0) := by
  have hpre : goV x L n <+: fndV x L := goB_le (by rw [capV_eq]; exact hn)
  have hok := goV_ok hR n
  have hln := (List.getElem?_eq_some_iff.1 hr).1
  have h1 : verdG x L = (false, wayV x L n) := verdG_some (pre_get hpre hr) hf (fun m z hm hz => by
    have h2 : m < (goV x L n).length := by omega
    have h3 := pre_get hpre (List.getElem?_eq_getElem h2)
    rw [hz] at h3
    cases h3
    exact hno m _ hm (List.getElem?_eq_getElem h2))
  have h4 : wayV x L n = wayF (lnkOf (rootV x) (goV x L n)) (lnkOf (rootV x) (goV x L n) n).ln n := by
    rw [wayF_of, wayP_pre hpre hok _ _ hln]
    unfold wayV wayB lnkOf
    simp only
    rw [fd_get hr, fd_get (pre_get hpre hr)]
  unfold verdT
  rw [h1, h4]
theorem verd_pass {x : Lts} {L : List Nd} {n : Nat} (hn : n = (goV x L n).length) (hl : (goV x L n).length ≤ 32768) (hno : ∀ (m : Nat) (z : Fp), m < n → (goV x L n)[m]? = some z → failB L z = false) : verdT x L = (true, [], 0) := by
  have h := goV_end hn hl
  unfold verdT
  rw [verdG_none (fun m z hz => by
    rw [h] at hz
    exact hno m z (by have := (List.getElem?_eq_some_iff.1 hz).1; omega) hz)]
theorem results_tmp3 {fn : Func} {t u v : Tmp} (h : fn.results = #[.tmp t, .tmp u, .tmp v]) (tmps : Array Value) (P : Program) (w : World) :
    (results fn tmps).run P w = .ok (.tuple #[tmps.getD t undef, tmps.getD u undef, tmps.getD v undef]) w := by
  simp [results, h]
def PlV (l : List Fp) (gp cp gl cl gm : Nat) (om : Obj) : List Asn := [.row 104 2 (.slice (some ⟨gp, 0, none⟩) l.length cp) l.length (l.flatMap plCells), .row 91 5 (.slice (some ⟨gl, 0, none⟩) l.length cl) l.length (l.flatMap fd0Cells), .blk gm om]
def Sv (b g a : Nat) (t T u : Value) (w : World) : Prop := w.cell? ⟨b, 0, none⟩ = some t ∧ w.cell? ⟨b, 1, none⟩ = some T ∧ w.cell? ⟨g, a, none⟩ = some u
theorem Sv.ext {b g a : Nat} {t T u : Value} {w w' : World} (h : Sv b g a t T u w) (e : Ext w w') : Sv b g a t T u w' := ⟨e.cell h.1, e.cell h.2.1, e.cell h.2.2⟩
theorem OwnL.last {w W : World} {A : Asn} {L : List Asn} (h : OwnL w W (A :: L)) : OwnL w W (L ++ [A]) := h.perm (List.perm_append_singleton _ _).symm
theorem OwnL.front {w W : World} {A : Asn} {L : List Asn} (h : OwnL w W (L ++ [A])) : OwnL w W L := (h.perm (List.perm_append_singleton _ _)).drop
theorem blk_news2 {w : World} {n t : Nat} {x y : Value} (h : w.heap[n]? = some (.cells #[x, y] t (0, 0))) : ∀ (j : Nat) (u : Value), [x, y][j]? = some u → w.cell? ((⟨n, 0, none⟩ : Addr).add j) = some u := fun j u hj => by
  rw [Addr.add_lit, Nat.zero_add]; exact cell_of_blk h j (by simpa using hj)
theorem two_place (a b : Int) : ∀ u ∈ [Value.int .i64 a, .int .u64 b], u.oneCell' = true := by intro u hu; simp at hu; rcases hu with rfl | rfl <;> rfl
theorem five_cells0 (c d e : Int) : ∀ u ∈ [Value.int .u64 0, .int .u64 0, .int .i64 c, .int .i64 d, .int .i64 e], u.oneCell' = true := by intro u hu; simp at hu; rcases hu with rfl | rfl | rfl | rfl <;> rfl
set_option maxRecDepth 100000 in
set_option maxHeartbeats 16000000 in
theorem verd_t12 (w W0 W : World) (b8 gp gl gm ct : Nat) (om : Obj) (x : Lts) (L : List Nd) (At : Option Addr) (c0 c2 c3 c4 c5 c6 c7 c12 c13 c14 c15 c16 c17 c18 c19 c20 c21 c22 c23 c24 c25 c26 c27 c28 c29 c30 c31 c32 c33 c34 c35 c36 c37 c38 c39 c40 c41 c42 c43 c44 c45 c46 c47 c48 c49 c50 c51 c52 c53 c54 c55 c56 c57 c58 c59 c60 c61 c62 c63 c64 c65 c66 c67 c68 c69 c70 c71 c72 c73 c74 c75 c76 c77 c78 c79 c80 c81 c82 c83 c84 c85 c86 c87 c88 c89 c90 c91 c92 c93 c94 c95 c96 c97 c98 c99 c100 c101 c102 c103 c104 c105 c106 c107 c108 c109 c110 c111 c112 c113 c114 c115 c116 c117 c118 c119 c120 c121 : Value) (h0 : Ext w W0) (hT : Tab W0) (hx : Good x) (h5 : x.n ≤ 5) (hL : L.length ≤ 1024) (hR : RightT x.ins x.outs L)
    (hb8 : BoxS W0 b8 x) (hN : NodesC W0 (.slice At L.length ct) L ct) (hO : OwnL W0 W (PlV [rt (rootV x)] gp 1 gl 1 gm om)) (hm : SetOf placeV placeOK om []) :
    Code.wp Tryd.prog (T29 12) (bodyPost Tryd.prog Tryd.f29 (VerdP w (verdT x L))) ⟨(c0 :: .slice At L.length ct :: c2 :: c3 :: c4 :: c5 :: c6 :: c7 :: .pointer (some ⟨b8, 0, none⟩) :: .slice (some ⟨gp, 0, none⟩) 1 1 :: .slice (some ⟨gl, 0, none⟩) 1 1 :: .map (some gm) :: c12 :: c13 :: c14 :: c15 :: c16 :: c17 :: c18 :: c19 :: c20 :: c21 :: c22 :: c23 :: c24 :: c25 :: c26 :: c27 :: c28 :: c29 :: c30 :: c31 :: c32 :: c33 :: c34 :: c35 :: c36 :: c37 :: c38 :: c39 :: c40 :: c41 :: c42 :: c43 :: c44 :: c45 :: c46 :: c47 :: c48 :: c49 :: c50 :: c51 :: c52 :: c53 :: c54 :: c55 :: c56 :: c57 :: c58 :: c59 :: c60 :: c61 :: c62 :: c63 :: c64 :: c65 :: c66 :: c67 :: c68 :: c69 :: c70 :: c71 :: c72 :: c73 :: c74 :: c75 :: c76 :: c77 :: c78 :: c79 :: c80 :: c81 :: c82 :: c83 :: c84 :: c85 :: c86 :: c87 :: c88 :: c89 :: c90 :: c91 :: c92 :: c93 :: c94 :: c95 :: c96 :: c97 :: c98 :: c99 :: c100 :: c101 :: c102 :: c103 :: c104 :: c105 :: c106 :: c107 :: c108 :: c109 :: c110 :: c111 :: c112 :: c113 :: c114 :: c115 :: c116 :: c117 :: c118 :: c119 :: c120 :: c121 :: []).toArray, []⟩ W := by
  conv => arg 2; whnf
  obtain ⟨i91, hi91, hz91, hs91, hb91⟩ := info_parts found_info
  obtain ⟨i104, hi104, hz104, hs104, hb104⟩ := info_parts place_info
  have HX := Lib.hid (And.intro hT (And.intro hx (And.intro hR hN)))
  have HS := Lib.hid (fun i => goV_small hx hR h5 hL i)
  have HII := Lib.hid (And.intro hx.II hx.OO)
  have HIO := Lib.hid (And.intro hx.ins hx.outs)
  obtain ⟨pA, pc, pB, pd, p0, p1, p2, p3, pS⟩ := hb8
  have HB := Lib.hid (And.intro p0 (And.intro p1 (And.intro p2 (And.intro p3 pS))))
  have H0 := Lib.hid h0
  have hO0 : OwnL W0 W (PlV (goV x L 0) gp 1 gl 1 gm om) := hO
  have hm0 : SetOf placeV placeOK om (keysT (goV x L 0)) := hm
  clear h0 hT hx hR hN h5 p0 p1 p2 p3 pS hO hm
  go_wp2
  go_loopw [12, 9, 10] (fun nv pv lv wr => ∃ (n : Nat) (om : Obj) (gp cp gl cl : Nat), nv = .int .i64 n ∧ Hid (n ≤ (goV x L n).length ∧ ∀ (m : Nat) (z : Fp), m < n → (goV x L n)[m]? = some z → failB L z = false) ∧ pv = .slice (some ⟨gp, 0, none⟩) (goV x L n).length cp ∧ lv = .slice (some ⟨gl, 0, none⟩) (goV x L n).length cl ∧ SetOf placeV placeOK om (keysT (goV x L n)) ∧ OwnL W0 wr (PlV (goV x L n) gp cp gl cl gm om)) (fun nv _ _ _ => 32769 - (intOf nv).toNat)
  case atStart => exact ⟨0, om, gp, 1, gl, 1, rfl, Lib.hid ⟨Nat.zero_le _, fun m z hm => by omega⟩, rfl, rfl, hm0, hO0⟩
  case round =>
    clear hO0 hm0
    clear om gl gp
    obtain ⟨n, om, gp, cp, gl, cl, rfl, hle, rfl, rfl, hm, hO⟩ := hrel
    have hE := hO.ext
    have hsm := HS.out n
    obtain ⟨W2, hW2⟩ : ∃ W, W = wr := ⟨_, rfl⟩; subst hW2
    by_cases hlt2 : n < (goV x L n).length
    · obtain ⟨r, hr⟩ : ∃ r, (goV x L n)[n]? = some r := ⟨_, List.getElem?_eq_getElem hlt2⟩
      have hnI : (n : Int) < ((goV x L n).length : Int) := by omega
      have hkey := goV_key HX.out.2.1 HX.out.2.2.1 n hr
      obtain ⟨nd, hnd⟩ : ∃ nd, L[r.key.1]? = some nd := ⟨_, List.getElem?_eq_getElem hkey.1⟩
      have hndA := ndAt_get hnd
      have f0 := cell_at_own (hO.get 0 rfl) (pl_get hr 0 (.int .i64 r.key.1) rfl)
      have f1 := cell_at_own (hO.get 0 rfl) (pl_get hr 1 (.int .u64 r.key.2) rfl)
      rw [Nat.add_zero] at f0
      obtain ⟨bt, ot, un, cn, hAt, t0, t1, hun⟩ := HX.out.2.2.2.at_ hnd
      injection hAt with hAt _ _
      subst hAt
      obtain ⟨Au, rfl, hunc, _, hunm⟩ := id hun
      unfold lenMax at hunm
      have t0 := hE.cell t0
      have t1 := hE.cell t1
      have hkI : (r.key.1 : Int) < (L.length : Int) := by omega
      have hnx := HX.out.2.2.1.next _ _ hnd
      have HQ := Lib.hid (And.intro hr (And.intro hkey (And.intro hnd (And.intro hndA (And.intro hunc (And.intro hm (And.intro hO (And.intro hnx hle.out))))))))
      clear hr hkey hnd hndA hun hunc hm hO hle hnx
      generalize hkk : r.key.1 = kn at *
      generalize hkS : r.key.2 = S at *
      have HKK := Lib.hid (And.intro hkk hkS)
      clear hkk hkS
      go_upto_region 16 with fail
      refine wp_named ?_
      intro W3 hW3
      have e3 : Ext W2 W3 := by rw [hW3]; exact alloc_ext _ _
      have hO3 : OwnL W0 W3 (.blk W2.heap.size (.cells #[.int .i64 (kn : Int), .int .u64 (S : Int)] 104) :: PlV (goV x L n) gp cp gl cl gm om) := by
        rw [hW3]; exact HQ.out.2.2.2.2.2.2.1.add (alloc_ext W2 _) (A := .blk W2.heap.size (.cells #[.int .i64 (kn : Int), .int .u64 (S : Int)] 104)) ⟨Nat.le_refl _, heap_alloc_new W2 _⟩
      clear hW3 f0 f1
      have t0 := e3.cell t0
      have t1 := e3.cell t1
      generalize W2.heap.size = b13 at *
      have m0 := cell_of_blk (hO3.get 0 rfl).2 0 (u := .int .i64 (kn : Int)) rfl
      have HO3 := Lib.hid hO3
      clear hO3
      by_cases hF : nd.act = -3
      · have g1 : (nd.act == -3) = true := by simp [hF]
        have hfb : failB L r = true := by unfold failB; rw [HKK.out.1, HQ.out.2.2.2.1]; exact g1
        have HV := Lib.hid (verd_fail HX.out.2.2.1 HQ.out.1 hfb HQ.out.2.2.2.2.2.2.2.2.2 (by omega))
        have hok := goV_ok HX.out.2.2.1 n
        have hrow : W3.ownsRow W0.heap.size 91 5 (.slice (some ⟨gl, 0, none⟩) (goV x L n).length cl) (goV x L n).length ((goV x L n).flatMap fd0Cells) := HO3.out.get 2 rfl
        obtain ⟨A9, c9, hv9, _, hc9⟩ := cells_of_owns hrow
        injection hv9 with h1 _ h2
        subst h1 h2
        have hlk := lnk0_of (c := cl) hc9 hok (by omega)
        have hln := hok.ln n _ HQ.out.1
        have hway := way_any W3 _ _ _ n hlk.1 hlk.2 hlt2 (by unfold lnkOf; simp only; rw [fd_get HQ.out.1]; omega)
        have HE3 := Lib.hid (HO3.out.ext)
        clear hfb hF hok hrow hc9 hlk hln
        go_wp2_with ((with_reducible refine hway.mono ?_); rintro e w7 ⟨rv, rfl, hf7, e7⟩; have HF7 := Lib.hid (And.intro hf7 e7); clear hf7 e7)
        refine bodyPost_ret (results_tmp3 rfl _ _ _) rfl ?_
        unfold VerdP
        rw [HV.out]
        exact ⟨_, rfl, HF7.out.1, H0.out.trans (HE3.out.trans HF7.out.2)⟩
      · have g1 : (nd.act == -3) = false := by simp [hF]
        have hfb : Hid (failB L r = false) := Lib.hid (by unfold failB; rw [HKK.out.1, HQ.out.2.2.2.1]; exact g1)
        clear hF
        go_upto_region 20 with fail
        clear m0 t0 t1
        have hO3 := HO3.out
        have hm3 := HQ.out.2.2.2.2.2.1
        go_loopw [74, 9, 10] (fun jv pv lv wr => ∃ (j : Nat) (om : Obj) (gp cp gl cl : Nat), jv = .int .i64 j ∧ j ≤ nd.next.length ∧ pv = .slice (some ⟨gp, 0, none⟩) (rowV x L n j r.key).length cp ∧ lv = .slice (some ⟨gl, 0, none⟩) (rowV x L n j r.key).length cl ∧ SetOf placeV placeOK om (keysT (rowV x L n j r.key)) ∧ OwnL W0 wr (.blk b13 (.cells #[.int .i64 (kn : Int), .int .u64 (S : Int)] 104) :: PlV (rowV x L n j r.key) gp cp gl cl gm om)) (fun jv _ _ _ => nd.next.length - (intOf jv).toNat)
        case atStart => exact ⟨0, om, gp, cp, gl, cl, rfl, by omega, rfl, rfl, hm3, hO3⟩
        case round =>
          clear hO3 hm3
          obtain ⟨j, om2, gp2, cp2, gl2, cl2, rfl, hj, rfl, rfl, hm, hO⟩ := hrel
          have hE := hO.ext
          obtain ⟨W4, hW4⟩ : ∃ W, W = wr := ⟨_, rfl⟩; subst hW4
          by_cases hjl : j < nd.next.length
          · obtain ⟨t, ht⟩ : ∃ t, nd.next[j]? = some t := ⟨_, List.getElem?_eq_getElem hjl⟩
            obtain ⟨bu, ou, rfl, c0⟩ := int_at (HQ.out.2.2.2.2.1.ext hE) ht
            have htb := HQ.out.2.2.2.2.2.2.2.1 t (List.mem_of_getElem? ht)
            obtain ⟨tn, rfl⟩ : ∃ tn : Nat, t = (tn : Int) := ⟨t.toNat, by omega⟩
            have hsucc := rowV_succ (x := x) (L := L) (n := n) (k := r.key) (j := j) (by rw [HKK.out.1, HQ.out.2.2.2.1]; exact hjl)
            rw [HKK.out.1, HKK.out.2, HQ.out.2.2.2.1] at hsucc
            have hr1 : (rowV x L n j r.key)[n]? = some r := pre_get (rowV_pre HQ.out.1 j).1 HQ.out.1
            have hok1 := rowV_ok HX.out.2.2.1 HQ.out.1 j
            have hlen1 := (rowV_pre HQ.out.1 j).2.length_le
            have hlen2 := HS.out (n + 1)
            have hln := hok1.ln n r hr1
            have hcand : candAt x nd S j = (labV x nd j, (tn, aftM x S (labV x nd j))) := by
              unfold candAt
              rw [List.getD_eq_getElem?_getD, ht]; rfl
            rw [hcand] at hsucc
            have HJ := Lib.hid (And.intro hsucc (And.intro hr1 (And.intro hok1 (And.intro hm hO))))
            have hrl : (rowV x L n j r.key).length ≤ 32768 := by omega
            have hE4 := Lib.hid hE
            have k0 := hE.cell (HB.out.1)
            have k1 := hE.cell (HB.out.2.1)
            have k2 := hE.cell (HB.out.2.2.1)
            have k3 := hE.cell (HB.out.2.2.2.1)
            have m1 := cell_of_blk (hO.get 0 rfl).2 1 (u := .int .u64 (S : Int)) rfl
            have hkt := Lib.hid htb.1
            have htN : Hid (tn < 1024) := Lib.hid (by omega)
            clear hsucc hr1 hok1 hm hO hcand ht hlen1 hlen2 hE htb
            by_cases h1 : nd.act = -1
            · have g2 : (nd.act == -1) = true := by simp [h1]
              have hl : labV x nd j = x.ins + (j : Int) := if_pos h1
              have hj16 : (nd.next.length : Int) = x.outs + 1 := by
                have h := HX.out.2.2.1.many _ _ HQ.out.2.2.1
                unfold manyOk at h
                rw [if_pos h1] at h
                exact of_decide_eq_true h
              have hadd : IntKind.i64.wrap (x.ins + (j : Int)) = x.ins + (j : Int) := by have := HIO.out; rw [IntKind.wrap_i64]; omega
              clear h1 hj16
              obtain ⟨T, hT⟩ : ∃ T, T = aftM x S (x.ins + (j : Int)) := ⟨_, rfl⟩
              have haf := after_any W4 _ x S (x.ins + (j : Int)) (HB.out.2.2.2.2.ext hE4.out) HX.out.2.1 HQ.out.2.1.2.1 (HX.out.1.ext hE4.out)
              have HT := Lib.hid (And.intro hl hT)
              rw [← hT] at haf
              have hTl : T < 18446744073709551616 := by rw [hT]; exact HX.out.2.1.mask (aftM_lt HX.out.2.1 HQ.out.2.1.2.1 _)
              clear hT hl
              go_upto_region 26 with (first | ((with_reducible refine haf.mono ?_); rintro e W5 ⟨rfl, e5⟩) | (with_reducible refine wpList_store_blk _ rfl 104 _ _ rfl W5.heap.size 104 _ _ rfl rfl (heap_alloc_new _ _) (by kernel_rfl) (by kernel_rfl) (by kernel_rfl) ?_; intro W6 h6 g6))
              have e56 : Ext W5 W6 := Below.grown (alloc_ext W5 _) g6 (alloc_ext W5 _).size (fun k hk => by cases hk; exact Nat.le_refl _)
              have hO6 : OwnL W0 W6 (.blk W5.heap.size (.cells #[.int .i64 (tn : Int), .int .u64 (T : Int)] 104) :: .blk b13 (.cells #[.int .i64 (kn : Int), .int .u64 (S : Int)] 104) :: PlV (rowV x L n j r.key) gp2 cp2 gl2 cl2 gm om2) := (HJ.out.2.2.2.2.trans e5).add e56 (A := .blk W5.heap.size (.cells #[.int .i64 (tn : Int), .int .u64 (T : Int)] 104)) ⟨Nat.le_refl _, h6⟩
              clear h6 g6 e56 e5 haf k0 k1 k2 k3 c0 m1
              generalize W5.heap.size = b18 at *
              have d0 := cell_of_blk (hO6.get 0 rfl).2 0 (u := .int .i64 (tn : Int)) rfl
              have d1 := cell_of_blk (hO6.get 0 rfl).2 1 (u := .int .u64 (T : Int)) rfl
              have hpk : placeOK (tn, T) := ⟨by have := htN.out; show tn ≤ 1000000000; omega, hTl⟩
              have hlk := set_lookup key104 Tryd.underlying106 (zero4 W6) (hO6.get 4 rfl).2 HJ.out.2.2.2.1 hpk (v := .agg #[.int .i64 (tn : Int), .int .u64 (T : Int)]) rfl
              have HO6 := Lib.hid hO6
              have hADD : Hid (rowV x L n (j + 1) r.key = addB (rootV x) okV (rowV x L n j r.key) n (x.ins + (j : Int), (tn, T))) := Lib.hid (by rw [HJ.out.1, HT.out.1, ← HT.out.2])
              have hSK : Hid ((!okV (tn, T) || inB (rowV x L n j r.key) (tn, T)) = true → rowV x L n (j + 1) r.key = rowV x L n j r.key) := Lib.hid (fun h => by rw [hADD.out]; unfold addB; rw [if_pos h])
              have hkn := keysT_in HJ.out.2.2.1 (k := tn) (T := T) (by have := hkt.out; omega)
              clear hO6
              by_cases hT0 : T = 0
              · have HS2 := Lib.hid (hSK.out (by unfold okV; simp [hT0]))
                subst hT0
                go_wp2
                go_roundw
                case rel => exact ⟨j + 1, om2, gp2, cp2, gl2, cl2, by go_num, hjl, by rw [HS2.out], by rw [HS2.out], by rw [HS2.out]; exact HJ.out.2.2.2.1, by rw [HS2.out]; exact HO6.out.drop⟩
                case measure => simp [intOf]; omega
              · have z1 : ((T : Int) != 0) = true := by simp; omega
                have hokc : okV (tn, T) = true := by unfold okV; simpa using hT0
                cases hin : inB (rowV x L n j r.key) (tn, T) with
                | true =>
                  have HS2 := Lib.hid (hSK.out (by rw [hin]; simp))
                  have hmem : (tn, T) ∈ keysT (rowV x L n j r.key) := by rw [hin] at hkn; exact of_decide_eq_true hkn.symm
                  simp only [hmem, decide_true] at hlk
                  clear hin hT0 hokc hkn
                  go_wp2
                  go_roundw
                  case rel => exact ⟨j + 1, om2, gp2, cp2, gl2, cl2, by go_num, hjl, by rw [HS2.out], by rw [HS2.out], by rw [HS2.out]; exact HJ.out.2.2.2.1, by rw [HS2.out]; exact HO6.out.drop⟩
                  case measure => simp [intOf]; omega
                | false =>
                  have hnin : (tn, T) ∉ keysT (rowV x L n j r.key) := by rw [hin] at hkn; exact of_decide_eq_false hkn.symm
                  simp only [hnin, decide_false] at hlk
                  have hNEW : Hid (rowV x L n (j + 1) r.key = rowV x L n j r.key ++ [newB r n (x.ins + (j : Int), (tn, T))]) := Lib.hid (by
                    rw [hADD.out]; unfold addB; rw [if_neg (by rw [hokc, hin]; simp), fd_get HJ.out.2.1])
                  obtain ⟨W7, om3, hrun, hm7, hO7, hg7⟩ := HO6.out.setPut 4 rfl HJ.out.2.2.2.1 key104 Tryd.underlying106 hpk hnin (v := .agg #[.int .i64 (tn : Int), .int .u64 (T : Int)]) rfl
                  have hO7 : OwnL W0 W7 (.blk b18 (.cells #[.int .i64 (tn : Int), .int .u64 (T : Int)] 104) :: .blk b13 (.cells #[.int .i64 (kn : Int), .int .u64 (S : Int)] 104) :: PlV (rowV x L n j r.key) gp2 cp2 gl2 cl2 gm om3) := hO7
                  clear hin hT0 hokc hkn
                  go_upto_region 28 with fail
                  have HNF := Lib.hid (hNEW.out)
                  have hr1 := HJ.out.2.1
                  have hnI4 : (n : Int) < ((rowV x L n j r.key).length : Int) := by have := (List.getElem?_eq_some_iff.1 hr1).1; omega
                  have HC := Lib.hid (f0_get hr1 4 (.int .i64 r.ln) rfl)
                  have q4 := cell_at_own (hO7.get 3 rfl) HC.out
                  have q0 := cell_of_blk (hO7.get 0 rfl).2 0 (u := .int .i64 (tn : Int)) rfl
                  have q1 := cell_of_blk (hO7.get 0 rfl).2 1 (u := .int .u64 (T : Int)) rfl
                  have hS0 : Sv b18 gl2 (n * 5 + 4) (.int .i64 (tn : Int)) (.int .u64 (T : Int)) (.int .i64 r.ln) W7.drew := ⟨(drew_ext _).cell q0, (drew_ext _).cell q1, (drew_ext _).cell q4⟩
                  have hO := hO7.trans (drew_ext W7)
                  have hwl : IntKind.i64.wrap (r.ln + 1) = r.ln + 1 := by rw [IntKind.wrap_i64]; omega
                  obtain ⟨oP, hoP⟩ : ∃ o : Obj, o = .cells #[.int .i64 (tn : Int), .int .u64 (T : Int)] 104 := ⟨_, rfl⟩
                  obtain ⟨oF, hoF⟩ : ∃ o : Obj, o = .cells #[.int .u64 0, .int .u64 0, .int .i64 (n : Int), .int .i64 (x.ins + (j : Int)), .int .i64 (r.ln + 1)] 91 := ⟨_, rfl⟩
                  have HOP := Lib.hid hoP
                  have HOF := Lib.hid hoF
                  have HM7 := Lib.hid hm7
                  clear hoP hoF hr1 q0 q1 q4 d0 d1 hlk hm7 HO6 hADD hSK hnin hrun hg7 z1
                  refine wp_region_bar 16 (Sv b18 gl2 (n * 5 + 4) (.int .i64 (tn : Int)) (.int .u64 (T : Int)) (.int .i64 r.ln)) (by kernel_rfl) ?_
                  refine wpAnyB_take (i := 0) (v := ?_) rfl (by kernel_rfl) (by kernel_rfl) (by kernel_rfl) (by kernel_rfl) (fun _ _ _ h => h) (Or.inl ⟨by rfl, ?_⟩) hS0 ?_
                  rotate_left
                  · (intro w hSw; obtain ⟨s1, s2, s3⟩ := hSw; go_simp; first | done | with_reducible rfl)
                  try simp only [Act.put, List.setIfInBounds_toArray, List.set_cons_zero, List.set_cons_succ]
                  refine wpAnyB_take (i := 1) (v := ?_) rfl (by kernel_rfl) (by kernel_rfl) (by kernel_rfl) (by kernel_rfl) (fun _ _ _ h => h) (Or.inl ⟨by rfl, ?_⟩) hS0 ?_
                  rotate_left
                  · (intro w hSw; obtain ⟨s1, s2, s3⟩ := hSw; go_simp; first | done | with_reducible rfl)
                  try simp only [Act.put, List.setIfInBounds_toArray, List.set_cons_zero, List.set_cons_succ]
                  refine wpAnyB_take (i := 4) (v := ?_) rfl (by kernel_rfl) (by kernel_rfl) (by kernel_rfl) (by kernel_rfl) (fun _ _ _ h => h) (Or.inl ⟨by rfl, ?_⟩) hS0 ?_
                  rotate_left
                  · (intro w hSw; obtain ⟨s1, s2, s3⟩ := hSw; go_simp; first | done | with_reducible rfl)
                  try simp only [Act.put, List.setIfInBounds_toArray, List.set_cons_zero, List.set_cons_succ]
                  refine wpAnyB_take (i := 5) (v := ?_) rfl (by kernel_rfl) (by kernel_rfl) (by kernel_rfl) (by kernel_rfl) (fun _ _ _ h => h) (Or.inl ⟨by rfl, ?_⟩) hS0 ?_
                  rotate_left
                  · (intro w hSw; obtain ⟨s1, s2, s3⟩ := hSw; go_simp; first | done | with_reducible rfl)
                  try simp only [Act.put, List.setIfInBounds_toArray, List.set_cons_zero, List.set_cons_succ]
                  refine wpAnyB_take (i := 6) (v := ?_) rfl (by kernel_rfl) (by kernel_rfl) (by kernel_rfl) (by kernel_rfl) (fun _ _ _ h => h) (Or.inl ⟨by rfl, ?_⟩) hS0 ?_
                  rotate_left
                  · (intro w hSw; obtain ⟨s1, s2, s3⟩ := hSw; go_simp; first | done | with_reducible rfl)
                  try simp only [Act.put, List.setIfInBounds_toArray, List.set_cons_zero, List.set_cons_succ]
                  refine wpAnyB_take (i := 7) (v := ?_) rfl (by kernel_rfl) (by kernel_rfl) (by kernel_rfl) (by kernel_rfl) (fun _ _ _ h => h) (Or.inl ⟨by rfl, ?_⟩) hS0 ?_
                  rotate_left
                  · (intro w hSw; obtain ⟨s1, s2, s3⟩ := hSw; go_simp; first | done | with_reducible rfl)
                  try simp only [Act.put, List.setIfInBounds_toArray, List.set_cons_zero, List.set_cons_succ]
                  refine wpAnyB_take (i := 8) (v := ?_) rfl (by kernel_rfl) (by kernel_rfl) (by kernel_rfl) (by kernel_rfl) (fun _ _ _ h => h) (Or.inl ⟨by rfl, ?_⟩) hS0 ?_
                  rotate_left
                  · (intro w hSw; obtain ⟨s1, s2, s3⟩ := hSw; go_simp; first | done | with_reducible rfl)
                  try simp only [Act.put, List.setIfInBounds_toArray, List.set_cons_zero, List.set_cons_succ]
                  refine wpAnyB_take (i := 9) (v := ?_) rfl (by kernel_rfl) (by kernel_rfl) (by kernel_rfl) (by kernel_rfl) (fun _ _ _ h => h) (Or.inl ⟨by rfl, ?_⟩) hS0 ?_
                  rotate_left
                  · (intro w hSw; obtain ⟨s1, s2, s3⟩ := hSw; go_simp; first | done | with_reducible rfl)
                  try simp only [Act.put, List.setIfInBounds_toArray, List.set_cons_zero, List.set_cons_succ]
                  refine wpAnyB_take (i := 10) (v := ?_) rfl (by kernel_rfl) (by kernel_rfl) (by kernel_rfl) (by kernel_rfl) (fun _ _ _ h => h) (Or.inl ⟨by rfl, ?_⟩) hS0 ?_
                  rotate_left
                  · (intro w hSw; obtain ⟨s1, s2, s3⟩ := hSw; go_simp; first | done | with_reducible rfl)
                  try simp only [Act.put, List.setIfInBounds_toArray, List.set_cons_zero, List.set_cons_succ]
                  refine wpAnyB_take (i := 11) (v := ?_) rfl (by kernel_rfl) (by kernel_rfl) (by kernel_rfl) (by kernel_rfl) (fun _ _ _ h => h) (Or.inl ⟨by rfl, ?_⟩) hS0 ?_
                  rotate_left
                  · (intro w hSw; obtain ⟨s1, s2, s3⟩ := hSw; go_simp; first | done | with_reducible rfl)
                  try simp only [Act.put, List.setIfInBounds_toArray, List.set_cons_zero, List.set_cons_succ]
                  refine wpAnyB_take (i := 12) (v := ?_) rfl (by kernel_rfl) (by kernel_rfl) (by kernel_rfl) (by kernel_rfl) (fun _ _ _ h => h) (Or.inl ⟨by rfl, ?_⟩) hS0 ?_
                  rotate_left
                  · (intro w hSw; obtain ⟨s1, s2, s3⟩ := hSw; go_simp; first | done | with_reducible rfl)
                  try simp only [Act.put, List.setIfInBounds_toArray, List.set_cons_zero, List.set_cons_succ]
                  refine wpAnyB_take (i := 13) (v := ?_) rfl (by kernel_rfl) (by kernel_rfl) (by kernel_rfl) (by kernel_rfl) (fun _ _ _ h => h) (Or.inl ⟨by rfl, ?_⟩) hS0 ?_
                  rotate_left
                  · (intro w hSw; obtain ⟨s1, s2, s3⟩ := hSw; go_simp; first | done | with_reducible rfl)
                  try simp only [Act.put, List.setIfInBounds_toArray, List.set_cons_zero, List.set_cons_succ]
                  refine wpAnyB_ready (rs := [2, 14]) (by kernel_rfl) (by simp) (AllB.cons rfl (fun K hK => ?_) (AllB.cons rfl (fun K hK => ?_) AllB.nil))
                  · skip
                    go_simp
                    rw [← HOP.out]
                    have hS1 := Sv.ext hS0 (alloc_ext W7.drew oP)
                    refine hK.out _ _ hS1 ?_
                    clear hK K
                    try simp only [Act.put, List.setIfInBounds_toArray, List.set_cons_zero, List.set_cons_succ]
                    have hOa := hO.trans (alloc_ext W7.drew oP)
                    refine wpAnyB_ready (rs := [3, 14]) (by kernel_rfl) (by simp) (AllB.cons rfl (fun K hK => ?_) (AllB.cons rfl (fun K hK => ?_) AllB.nil))
                    · skip
                      refine step_append_own2 rfl _ _ 105 rfl W0.heap.size 104 i104 (.agg #[.int .i64 0, .int .u64 0]) 2 16 Tryd.underlying105 hi104 hz104 hs104 hb104 rfl (by decide) (.slice (some ⟨gp2, 0, none⟩) (rowV x L n j r.key).length cp2) (rowV x L n j r.key).length ((rowV x L n j r.key).flatMap plCells) (by rfl) ((hOa).get 2 rfl) ⟨_, 0, none⟩ 1 1 [.int .i64 (tn : Int), .int .u64 (T : Int)] (by rfl) rfl (blk_news2 (n := W7.drew.heap.size) (by rw [HOP.out]; exact heap_alloc_new _ _)) (two_place _ _) (by unfold maxLen; omega) (by omega) (hOa).ext.size ?_
                      intro v8 w8 hown8 hg8 hb8
                      obtain ⟨g8, c8, rfl⟩ := ownsRow_pos hown8 (by omega)
                      have hO8 := (hOa).app 2 rfl hg8 hown8 hb8
                      have hSk : Sv b18 gl2 (n * 5 + 4) (.int .i64 (tn : Int)) (.int .u64 (T : Int)) (.int .i64 r.ln) w8 := ⟨cell_of_blk ((hO8).get 0 rfl).2 0 rfl, cell_of_blk ((hO8).get 0 rfl).2 1 rfl, cell_at_own ((hO8).get 3 rfl) HC.out⟩
                      refine hK.out _ _ hSk ?_
                      clear hK K
                      try simp only [Act.put, List.setIfInBounds_toArray, List.set_cons_zero, List.set_cons_succ]
                      refine wpAnyB_ready (rs := [14]) (by kernel_rfl) (by simp) (AllB.cons rfl (fun K hK => ?_) AllB.nil)
                      go_simp
                      rw [← HOF.out]
                      have hS3 := Sv.ext hSk (alloc_ext w8 oF)
                      refine hK.out _ _ hS3 ?_
                      clear hK K
                      try simp only [Act.put, List.setIfInBounds_toArray, List.set_cons_zero, List.set_cons_succ]
                      refine wpAnyB_ready (rs := [15]) (by kernel_rfl) (by simp) (AllB.cons rfl (fun K hK => ?_) AllB.nil)
                      have hO8b := hO8.trans (alloc_ext w8 oF)
                      refine step_append_own3 rfl _ _ 92 rfl W0.heap.size 91 i91 (.agg #[.int .u64 0, .int .u64 0, .int .i64 0, .int .i64 0, .int .i64 0]) 5 40 Tryd.underlying92 hi91 hz91 hs91 hb91 rfl (by decide) (.slice (some ⟨gl2, 0, none⟩) (rowV x L n j r.key).length cl2) (rowV x L n j r.key).length ((rowV x L n j r.key).flatMap fd0Cells) (by rfl) ((hO8b).get 3 rfl) ⟨_, 0, none⟩ 1 1 [.int .u64 0, .int .u64 0, .int .i64 (n : Int), .int .i64 (x.ins + (j : Int)), .int .i64 (r.ln + 1)] (by rfl) rfl (blk5 (b := w8.heap.size) (by rw [HOF.out]; exact heap_alloc_new _ _)) (five_cells0 _ _ _) (by unfold maxLen; omega) (by omega) (hO8b).ext.size ?_
                      intro v9 w9 hown9 hg9 hb9 hk9
                      obtain ⟨g9, c9, rfl⟩ := ownsRow_pos hown9 (by omega)
                      have hO9 := (hO8b).app 3 rfl hg9 hown9 hb9
                      have hSk : Sv b18 gl2 (n * 5 + 4) (.int .i64 (tn : Int)) (.int .u64 (T : Int)) (.int .i64 r.ln) w9 := ⟨cell_of_blk (hO9.get 0 rfl).2 0 rfl, cell_of_blk (hO9.get 0 rfl).2 1 rfl, hk9 gl2 _ _ rfl _ _ HC.out⟩
                      refine hK.out _ _ hSk ?_
                      clear hK K
                      try simp only [Act.put, List.setIfInBounds_toArray, List.set_cons_zero, List.set_cons_succ]
                      refine wpAnyB_tail rfl rfl (by decide) (by kernel_rfl) ?_
                      have hO10 : OwnL W0 w9 (.blk b13 (.cells #[.int .i64 (kn : Int), .int .u64 (S : Int)] 104) :: PlV (rowV x L n (j + 1) r.key) g8 c8 g9 c9 gm om3) := by
                        rw [hNEW.out]
                        unfold PlV
                        rw [List.flatMap_append, List.flatMap_append, List.length_append]
                        exact OwnL.drop hO9
                      have hm10 : SetOf placeV placeOK om3 (keysT (rowV x L n (j + 1) r.key)) := by
                        rw [hNEW.out, keysT_snoc (by omega)]
                        exact HM7.out
                      have hl10 : (rowV x L n (j + 1) r.key).length = (rowV x L n j r.key).length + 1 := by rw [hNEW.out, List.length_append]; rfl
                      have HF := Lib.hid (And.intro hO10 (And.intro hm10 hl10))
                      clear hO10 hm10 hl10 hO9 hSk hg8 hown8 hb8 hg9 hown9 hb9 hk9 hO8 hO7 hO hS0 hS1
                      go_wp2
                      exact ⟨⟨j + 1, om3, g8, c8, g9, c9, by go_num, hjl, by rw [HF.out.2.2], by rw [HF.out.2.2], HF.out.2.1, HF.out.1⟩, by simp [intOf]; omega⟩
                    · skip
                      go_simp
                      rw [← HOF.out]
                      have hS2 := Sv.ext hS1 (alloc_ext (W7.drew.alloc oP) oF)
                      refine hK.out _ _ hS2 ?_
                      clear hK K
                      try simp only [Act.put, List.setIfInBounds_toArray, List.set_cons_zero, List.set_cons_succ]
                      have hOb := (hOa.add (alloc_ext _ oF) (A := .blk (W7.heap.size + 1) oF) ⟨by simp, by have := heap_alloc_new (W7.drew.alloc oP) oF; simpa using this⟩).last
                      refine wpAnyB_ready (rs := [3]) (by kernel_rfl) (by simp) (AllB.cons rfl (fun K hK => ?_) AllB.nil)
                      refine step_append_own2 rfl _ _ 105 rfl W0.heap.size 104 i104 (.agg #[.int .i64 0, .int .u64 0]) 2 16 Tryd.underlying105 hi104 hz104 hs104 hb104 rfl (by decide) (.slice (some ⟨gp2, 0, none⟩) (rowV x L n j r.key).length cp2) (rowV x L n j r.key).length ((rowV x L n j r.key).flatMap plCells) (by rfl) ((hOb).get 2 rfl) ⟨_, 0, none⟩ 1 1 [.int .i64 (tn : Int), .int .u64 (T : Int)] (by rfl) rfl (blk_news2 (n := W7.drew.heap.size) (heap_ext (alloc_ext _ _) (by rw [HOP.out]; exact heap_alloc_new _ _))) (two_place _ _) (by unfold maxLen; omega) (by omega) (hOb).ext.size ?_
                      intro v8 w8 hown8 hg8 hb8
                      obtain ⟨g8, c8, rfl⟩ := ownsRow_pos hown8 (by omega)
                      have hO8 := (hOb).app 2 rfl hg8 hown8 hb8
                      have hSk : Sv b18 gl2 (n * 5 + 4) (.int .i64 (tn : Int)) (.int .u64 (T : Int)) (.int .i64 r.ln) w8 := ⟨cell_of_blk ((hO8).get 0 rfl).2 0 rfl, cell_of_blk ((hO8).get 0 rfl).2 1 rfl, cell_at_own ((hO8).get 3 rfl) HC.out⟩
                      refine hK.out _ _ hSk ?_
                      clear hK K
                      try simp only [Act.put, List.setIfInBounds_toArray, List.set_cons_zero, List.set_cons_succ]
                      refine wpAnyB_ready (rs := [15]) (by kernel_rfl) (by simp) (AllB.cons rfl (fun K hK => ?_) AllB.nil)
                      have hnb := (hO8.get 5 rfl).2
                      rw [HOF.out] at hnb
                      refine step_append_own3 rfl _ _ 92 rfl W0.heap.size 91 i91 (.agg #[.int .u64 0, .int .u64 0, .int .i64 0, .int .i64 0, .int .i64 0]) 5 40 Tryd.underlying92 hi91 hz91 hs91 hb91 rfl (by decide) (.slice (some ⟨gl2, 0, none⟩) (rowV x L n j r.key).length cl2) (rowV x L n j r.key).length ((rowV x L n j r.key).flatMap fd0Cells) (by rfl) ((hO8).get 3 rfl) ⟨_, 0, none⟩ 1 1 [.int .u64 0, .int .u64 0, .int .i64 (n : Int), .int .i64 (x.ins + (j : Int)), .int .i64 (r.ln + 1)] (by rfl) rfl (blk5 hnb) (five_cells0 _ _ _) (by unfold maxLen; omega) (by omega) (hO8).ext.size ?_
                      intro v9 w9 hown9 hg9 hb9 hk9
                      obtain ⟨g9, c9, rfl⟩ := ownsRow_pos hown9 (by omega)
                      have hO9 := (hO8).app 3 rfl hg9 hown9 hb9
                      have hSk : Sv b18 gl2 (n * 5 + 4) (.int .i64 (tn : Int)) (.int .u64 (T : Int)) (.int .i64 r.ln) w9 := ⟨cell_of_blk (hO9.get 0 rfl).2 0 rfl, cell_of_blk (hO9.get 0 rfl).2 1 rfl, hk9 gl2 _ _ rfl _ _ HC.out⟩
                      refine hK.out _ _ hSk ?_
                      clear hK K
                      try simp only [Act.put, List.setIfInBounds_toArray, List.set_cons_zero, List.set_cons_succ]
                      have hO9 := OwnL.front (L := [_, _, _, _, _]) hO9
                      refine wpAnyB_tail rfl rfl (by decide) (by kernel_rfl) ?_
                      have hO10 : OwnL W0 w9 (.blk b13 (.cells #[.int .i64 (kn : Int), .int .u64 (S : Int)] 104) :: PlV (rowV x L n (j + 1) r.key) g8 c8 g9 c9 gm om3) := by
                        rw [hNEW.out]
                        unfold PlV
                        rw [List.flatMap_append, List.flatMap_append, List.length_append]
                        exact OwnL.drop hO9
                      have hm10 : SetOf placeV placeOK om3 (keysT (rowV x L n (j + 1) r.key)) := by
                        rw [hNEW.out, keysT_snoc (by omega)]
                        exact HM7.out
                      have hl10 : (rowV x L n (j + 1) r.key).length = (rowV x L n j r.key).length + 1 := by rw [hNEW.out, List.length_append]; rfl
                      have HF := Lib.hid (And.intro hO10 (And.intro hm10 hl10))
                      clear hO10 hm10 hl10 hO9 hSk hg8 hown8 hb8 hg9 hown9 hb9 hk9 hO8 hO7 hO hS0 hS1
                      go_wp2
                      exact ⟨⟨j + 1, om3, g8, c8, g9, c9, by go_num, hjl, by rw [HF.out.2.2], by rw [HF.out.2.2], HF.out.2.1, HF.out.1⟩, by simp [intOf]; omega⟩
                  · skip
                    go_simp
                    rw [← HOF.out]
                    have hS1 := Sv.ext hS0 (alloc_ext W7.drew oF)
                    refine hK.out _ _ hS1 ?_
                    clear hK K
                    try simp only [Act.put, List.setIfInBounds_toArray, List.set_cons_zero, List.set_cons_succ]
                    have hOc := (hO.add (alloc_ext _ oF) (A := .blk W7.drew.heap.size oF) ⟨Nat.le_refl _, heap_alloc_new _ _⟩).last
                    refine wpAnyB_ready (rs := [2]) (by kernel_rfl) (by simp) (AllB.cons rfl (fun K hK => ?_) AllB.nil)
                    go_simp
                    rw [← HOP.out]
                    have hS2 := Sv.ext hS1 (alloc_ext (W7.drew.alloc oF) oP)
                    refine hK.out _ _ hS2 ?_
                    clear hK K
                    try simp only [Act.put, List.setIfInBounds_toArray, List.set_cons_zero, List.set_cons_succ]
                    have hOd := hOc.trans (alloc_ext _ oP)
                    refine wpAnyB_ready (rs := [3]) (by kernel_rfl) (by simp) (AllB.cons rfl (fun K hK => ?_) AllB.nil)
                    have hnr : ((W7.drew.alloc oF).alloc oP).heap[W7.heap.size + 1]? = some oP := by have := heap_alloc_new (W7.drew.alloc oF) oP; simpa using this
                    refine step_append_own2 rfl _ _ 105 rfl W0.heap.size 104 i104 (.agg #[.int .i64 0, .int .u64 0]) 2 16 Tryd.underlying105 hi104 hz104 hs104 hb104 rfl (by decide) (.slice (some ⟨gp2, 0, none⟩) (rowV x L n j r.key).length cp2) (rowV x L n j r.key).length ((rowV x L n j r.key).flatMap plCells) (by rfl) ((hOd).get 2 rfl) ⟨_, 0, none⟩ 1 1 [.int .i64 (tn : Int), .int .u64 (T : Int)] (by rfl) rfl (blk_news2 (n := W7.heap.size + 1) (hnr.trans (by rw [HOP.out]))) (two_place _ _) (by unfold maxLen; omega) (by omega) (hOd).ext.size ?_
                    intro v8 w8 hown8 hg8 hb8
                    obtain ⟨g8, c8, rfl⟩ := ownsRow_pos hown8 (by omega)
                    have hO8 := (hOd).app 2 rfl hg8 hown8 hb8
                    have hSk : Sv b18 gl2 (n * 5 + 4) (.int .i64 (tn : Int)) (.int .u64 (T : Int)) (.int .i64 r.ln) w8 := ⟨cell_of_blk ((hO8).get 0 rfl).2 0 rfl, cell_of_blk ((hO8).get 0 rfl).2 1 rfl, cell_at_own ((hO8).get 3 rfl) HC.out⟩
                    refine hK.out _ _ hSk ?_
                    clear hK K
                    try simp only [Act.put, List.setIfInBounds_toArray, List.set_cons_zero, List.set_cons_succ]
                    refine wpAnyB_ready (rs := [15]) (by kernel_rfl) (by simp) (AllB.cons rfl (fun K hK => ?_) AllB.nil)
                    have hnb := (hO8.get 5 rfl).2
                    rw [HOF.out] at hnb
                    refine step_append_own3 rfl _ _ 92 rfl W0.heap.size 91 i91 (.agg #[.int .u64 0, .int .u64 0, .int .i64 0, .int .i64 0, .int .i64 0]) 5 40 Tryd.underlying92 hi91 hz91 hs91 hb91 rfl (by decide) (.slice (some ⟨gl2, 0, none⟩) (rowV x L n j r.key).length cl2) (rowV x L n j r.key).length ((rowV x L n j r.key).flatMap fd0Cells) (by rfl) ((hO8).get 3 rfl) ⟨_, 0, none⟩ 1 1 [.int .u64 0, .int .u64 0, .int .i64 (n : Int), .int .i64 (x.ins + (j : Int)), .int .i64 (r.ln + 1)] (by rfl) rfl (blk5 hnb) (five_cells0 _ _ _) (by unfold maxLen; omega) (by omega) (hO8).ext.size ?_
                    intro v9 w9 hown9 hg9 hb9 hk9
                    obtain ⟨g9, c9, rfl⟩ := ownsRow_pos hown9 (by omega)
                    have hO9 := (hO8).app 3 rfl hg9 hown9 hb9
                    have hSk : Sv b18 gl2 (n * 5 + 4) (.int .i64 (tn : Int)) (.int .u64 (T : Int)) (.int .i64 r.ln) w9 := ⟨cell_of_blk (hO9.get 0 rfl).2 0 rfl, cell_of_blk (hO9.get 0 rfl).2 1 rfl, hk9 gl2 _ _ rfl _ _ HC.out⟩
                    refine hK.out _ _ hSk ?_
                    clear hK K
                    try simp only [Act.put, List.setIfInBounds_toArray, List.set_cons_zero, List.set_cons_succ]
                    have hO9 := OwnL.front (L := [_, _, _, _, _]) hO9
                    refine wpAnyB_tail rfl rfl (by decide) (by kernel_rfl) ?_
                    have hO10 : OwnL W0 w9 (.blk b13 (.cells #[.int .i64 (kn : Int), .int .u64 (S : Int)] 104) :: PlV (rowV x L n (j + 1) r.key) g8 c8 g9 c9 gm om3) := by
                      rw [hNEW.out]
                      unfold PlV
                      rw [List.flatMap_append, List.flatMap_append, List.length_append]
                      exact OwnL.drop hO9
                    have hm10 : SetOf placeV placeOK om3 (keysT (rowV x L n (j + 1) r.key)) := by
                      rw [hNEW.out, keysT_snoc (by omega)]
                      exact HM7.out
                    have hl10 : (rowV x L n (j + 1) r.key).length = (rowV x L n j r.key).length + 1 := by rw [hNEW.out, List.length_append]; rfl
                    have HF := Lib.hid (And.intro hO10 (And.intro hm10 hl10))
                    clear hO10 hm10 hl10 hO9 hSk hg8 hown8 hb8 hg9 hown9 hb9 hk9 hO8 hO7 hO hS0 hS1
                    go_wp2
                    exact ⟨⟨j + 1, om3, g8, c8, g9, c9, by go_num, hjl, by rw [HF.out.2.2], by rw [HF.out.2.2], HF.out.2.1, HF.out.1⟩, by simp [intOf]; omega⟩
            · have g2 : (nd.act == -1) = false := by simp [h1]
              have hl : labV x nd j = nd.act := if_neg h1
              clear h1
              obtain ⟨T, hT⟩ : ∃ T, T = aftM x S (nd.act) := ⟨_, rfl⟩
              have haf := after_any W4 _ x S (nd.act) (HB.out.2.2.2.2.ext hE4.out) HX.out.2.1 HQ.out.2.1.2.1 (HX.out.1.ext hE4.out)
              have HT := Lib.hid (And.intro hl hT)
              rw [← hT] at haf
              have hTl : T < 18446744073709551616 := by rw [hT]; exact HX.out.2.1.mask (aftM_lt HX.out.2.1 HQ.out.2.1.2.1 _)
              clear hT hl
              go_upto_region 26 with (first | ((with_reducible refine haf.mono ?_); rintro e W5 ⟨rfl, e5⟩) | (with_reducible refine wpList_store_blk _ rfl 104 _ _ rfl W5.heap.size 104 _ _ rfl rfl (heap_alloc_new _ _) (by kernel_rfl) (by kernel_rfl) (by kernel_rfl) ?_; intro W6 h6 g6))
              have e56 : Ext W5 W6 := Below.grown (alloc_ext W5 _) g6 (alloc_ext W5 _).size (fun k hk => by cases hk; exact Nat.le_refl _)
              have hO6 : OwnL W0 W6 (.blk W5.heap.size (.cells #[.int .i64 (tn : Int), .int .u64 (T : Int)] 104) :: .blk b13 (.cells #[.int .i64 (kn : Int), .int .u64 (S : Int)] 104) :: PlV (rowV x L n j r.key) gp2 cp2 gl2 cl2 gm om2) := (HJ.out.2.2.2.2.trans e5).add e56 (A := .blk W5.heap.size (.cells #[.int .i64 (tn : Int), .int .u64 (T : Int)] 104)) ⟨Nat.le_refl _, h6⟩
              clear h6 g6 e56 e5 haf k0 k1 k2 k3 c0 m1
              generalize W5.heap.size = b18 at *
              have d0 := cell_of_blk (hO6.get 0 rfl).2 0 (u := .int .i64 (tn : Int)) rfl
              have d1 := cell_of_blk (hO6.get 0 rfl).2 1 (u := .int .u64 (T : Int)) rfl
              have hpk : placeOK (tn, T) := ⟨by have := htN.out; show tn ≤ 1000000000; omega, hTl⟩
              have hlk := set_lookup key104 Tryd.underlying106 (zero4 W6) (hO6.get 4 rfl).2 HJ.out.2.2.2.1 hpk (v := .agg #[.int .i64 (tn : Int), .int .u64 (T : Int)]) rfl
              have HO6 := Lib.hid hO6
              have hADD : Hid (rowV x L n (j + 1) r.key = addB (rootV x) okV (rowV x L n j r.key) n (nd.act, (tn, T))) := Lib.hid (by rw [HJ.out.1, HT.out.1, ← HT.out.2])
              have hSK : Hid ((!okV (tn, T) || inB (rowV x L n j r.key) (tn, T)) = true → rowV x L n (j + 1) r.key = rowV x L n j r.key) := Lib.hid (fun h => by rw [hADD.out]; unfold addB; rw [if_pos h])
              have hkn := keysT_in HJ.out.2.2.1 (k := tn) (T := T) (by have := hkt.out; omega)
              clear hO6
              by_cases hT0 : T = 0
              · have HS2 := Lib.hid (hSK.out (by unfold okV; simp [hT0]))
                subst hT0
                go_wp2
                go_roundw
                case rel => exact ⟨j + 1, om2, gp2, cp2, gl2, cl2, by go_num, hjl, by rw [HS2.out], by rw [HS2.out], by rw [HS2.out]; exact HJ.out.2.2.2.1, by rw [HS2.out]; exact HO6.out.drop⟩
                case measure => simp [intOf]; omega
              · have z1 : ((T : Int) != 0) = true := by simp; omega
                have hokc : okV (tn, T) = true := by unfold okV; simpa using hT0
                cases hin : inB (rowV x L n j r.key) (tn, T) with
                | true =>
                  have HS2 := Lib.hid (hSK.out (by rw [hin]; simp))
                  have hmem : (tn, T) ∈ keysT (rowV x L n j r.key) := by rw [hin] at hkn; exact of_decide_eq_true hkn.symm
                  simp only [hmem, decide_true] at hlk
                  clear hin hT0 hokc hkn
                  go_wp2
                  go_roundw
                  case rel => exact ⟨j + 1, om2, gp2, cp2, gl2, cl2, by go_num, hjl, by rw [HS2.out], by rw [HS2.out], by rw [HS2.out]; exact HJ.out.2.2.2.1, by rw [HS2.out]; exact HO6.out.drop⟩
                  case measure => simp [intOf]; omega
                | false =>
                  have hnin : (tn, T) ∉ keysT (rowV x L n j r.key) := by rw [hin] at hkn; exact of_decide_eq_false hkn.symm
                  simp only [hnin, decide_false] at hlk
                  have hNEW : Hid (rowV x L n (j + 1) r.key = rowV x L n j r.key ++ [newB r n (nd.act, (tn, T))]) := Lib.hid (by
                    rw [hADD.out]; unfold addB; rw [if_neg (by rw [hokc, hin]; simp), fd_get HJ.out.2.1])
                  obtain ⟨W7, om3, hrun, hm7, hO7, hg7⟩ := HO6.out.setPut 4 rfl HJ.out.2.2.2.1 key104 Tryd.underlying106 hpk hnin (v := .agg #[.int .i64 (tn : Int), .int .u64 (T : Int)]) rfl
                  have hO7 : OwnL W0 W7 (.blk b18 (.cells #[.int .i64 (tn : Int), .int .u64 (T : Int)] 104) :: .blk b13 (.cells #[.int .i64 (kn : Int), .int .u64 (S : Int)] 104) :: PlV (rowV x L n j r.key) gp2 cp2 gl2 cl2 gm om3) := hO7
                  clear hin hT0 hokc hkn
                  go_upto_region 28 with fail
                  have HNF := Lib.hid (hNEW.out)
                  have hr1 := HJ.out.2.1
                  have hnI4 : (n : Int) < ((rowV x L n j r.key).length : Int) := by have := (List.getElem?_eq_some_iff.1 hr1).1; omega
                  have HC := Lib.hid (f0_get hr1 4 (.int .i64 r.ln) rfl)
                  have q4 := cell_at_own (hO7.get 3 rfl) HC.out
                  have q0 := cell_of_blk (hO7.get 0 rfl).2 0 (u := .int .i64 (tn : Int)) rfl
                  have q1 := cell_of_blk (hO7.get 0 rfl).2 1 (u := .int .u64 (T : Int)) rfl
                  have hS0 : Sv b18 gl2 (n * 5 + 4) (.int .i64 (tn : Int)) (.int .u64 (T : Int)) (.int .i64 r.ln) W7.drew := ⟨(drew_ext _).cell q0, (drew_ext _).cell q1, (drew_ext _).cell q4⟩
                  have hO := hO7.trans (drew_ext W7)
                  have hwl : IntKind.i64.wrap (r.ln + 1) = r.ln + 1 := by rw [IntKind.wrap_i64]; omega
                  obtain ⟨oP, hoP⟩ : ∃ o : Obj, o = .cells #[.int .i64 (tn : Int), .int .u64 (T : Int)] 104 := ⟨_, rfl⟩
                  obtain ⟨oF, hoF⟩ : ∃ o : Obj, o = .cells #[.int .u64 0, .int .u64 0, .int .i64 (n : Int), .int .i64 (nd.act), .int .i64 (r.ln + 1)] 91 := ⟨_, rfl⟩
                  have HOP := Lib.hid hoP
                  have HOF := Lib.hid hoF
                  have HM7 := Lib.hid hm7
                  clear hoP hoF hr1 q0 q1 q4 d0 d1 hlk hm7 HO6 hADD hSK hnin hrun hg7 z1
                  refine wp_region_bar 16 (Sv b18 gl2 (n * 5 + 4) (.int .i64 (tn : Int)) (.int .u64 (T : Int)) (.int .i64 r.ln)) (by kernel_rfl) ?_
                  refine wpAnyB_take (i := 0) (v := ?_) rfl (by kernel_rfl) (by kernel_rfl) (by kernel_rfl) (by kernel_rfl) (fun _ _ _ h => h) (Or.inl ⟨by rfl, ?_⟩) hS0 ?_
                  rotate_left
                  · (intro w hSw; obtain ⟨s1, s2, s3⟩ := hSw; go_simp; first | done | with_reducible rfl)
                  try simp only [Act.put, List.setIfInBounds_toArray, List.set_cons_zero, List.set_cons_succ]
                  refine wpAnyB_take (i := 1) (v := ?_) rfl (by kernel_rfl) (by kernel_rfl) (by kernel_rfl) (by kernel_rfl) (fun _ _ _ h => h) (Or.inl ⟨by rfl, ?_⟩) hS0 ?_
                  rotate_left
                  · (intro w hSw; obtain ⟨s1, s2, s3⟩ := hSw; go_simp; first | done | with_reducible rfl)
                  try simp only [Act.put, List.setIfInBounds_toArray, List.set_cons_zero, List.set_cons_succ]
                  refine wpAnyB_take (i := 4) (v := ?_) rfl (by kernel_rfl) (by kernel_rfl) (by kernel_rfl) (by kernel_rfl) (fun _ _ _ h => h) (Or.inl ⟨by rfl, ?_⟩) hS0 ?_
                  rotate_left
                  · (intro w hSw; obtain ⟨s1, s2, s3⟩ := hSw; go_simp; first | done | with_reducible rfl)
                  try simp only [Act.put, List.setIfInBounds_toArray, List.set_cons_zero, List.set_cons_succ]
                  refine wpAnyB_take (i := 5) (v := ?_) rfl (by kernel_rfl) (by kernel_rfl) (by kernel_rfl) (by kernel_rfl) (fun _ _ _ h => h) (Or.inl ⟨by rfl, ?_⟩) hS0 ?_
                  rotate_left
                  · (intro w hSw; obtain ⟨s1, s2, s3⟩ := hSw; go_simp; first | done | with_reducible rfl)
                  try simp only [Act.put, List.setIfInBounds_toArray, List.set_cons_zero, List.set_cons_succ]
                  refine wpAnyB_take (i := 6) (v := ?_) rfl (by kernel_rfl) (by kernel_rfl) (by kernel_rfl) (by kernel_rfl) (fun _ _ _ h => h) (Or.inl ⟨by rfl, ?_⟩) hS0 ?_
                  rotate_left
                  · (intro w hSw; obtain ⟨s1, s2, s3⟩ := hSw; go_simp; first | done | with_reducible rfl)
                  try simp only [Act.put, List.setIfInBounds_toArray, List.set_cons_zero, List.set_cons_succ]
                  refine wpAnyB_take (i := 7) (v := ?_) rfl (by kernel_rfl) (by kernel_rfl) (by kernel_rfl) (by kernel_rfl) (fun _ _ _ h => h) (Or.inl ⟨by rfl, ?_⟩) hS0 ?_
                  rotate_left
                  · (intro w hSw; obtain ⟨s1, s2, s3⟩ := hSw; go_simp; first | done | with_reducible rfl)
                  try simp only [Act.put, List.setIfInBounds_toArray, List.set_cons_zero, List.set_cons_succ]
                  refine wpAnyB_take (i := 8) (v := ?_) rfl (by kernel_rfl) (by kernel_rfl) (by kernel_rfl) (by kernel_rfl) (fun _ _ _ h => h) (Or.inl ⟨by rfl, ?_⟩) hS0 ?_
                  rotate_left
                  · (intro w hSw; obtain ⟨s1, s2, s3⟩ := hSw; go_simp; first | done | with_reducible rfl)
                  try simp only [Act.put, List.setIfInBounds_toArray, List.set_cons_zero, List.set_cons_succ]
                  refine wpAnyB_take (i := 9) (v := ?_) rfl (by kernel_rfl) (by kernel_rfl) (by kernel_rfl) (by kernel_rfl) (fun _ _ _ h => h) (Or.inl ⟨by rfl, ?_⟩) hS0 ?_
                  rotate_left
                  · (intro w hSw; obtain ⟨s1, s2, s3⟩ := hSw; go_simp; first | done | with_reducible rfl)
                  try simp only [Act.put, List.setIfInBounds_toArray, List.set_cons_zero, List.set_cons_succ]
                  refine wpAnyB_take (i := 10) (v := ?_) rfl (by kernel_rfl) (by kernel_rfl) (by kernel_rfl) (by kernel_rfl) (fun _ _ _ h => h) (Or.inl ⟨by rfl, ?_⟩) hS0 ?_
                  rotate_left
                  · (intro w hSw; obtain ⟨s1, s2, s3⟩ := hSw; go_simp; first | done | with_reducible rfl)
                  try simp only [Act.put, List.setIfInBounds_toArray, List.set_cons_zero, List.set_cons_succ]
                  refine wpAnyB_take (i := 11) (v := ?_) rfl (by kernel_rfl) (by kernel_rfl) (by kernel_rfl) (by kernel_rfl) (fun _ _ _ h => h) (Or.inl ⟨by rfl, ?_⟩) hS0 ?_
                  rotate_left
                  · (intro w hSw; obtain ⟨s1, s2, s3⟩ := hSw; go_simp; first | done | with_reducible rfl)
                  try simp only [Act.put, List.setIfInBounds_toArray, List.set_cons_zero, List.set_cons_succ]
                  refine wpAnyB_take (i := 12) (v := ?_) rfl (by kernel_rfl) (by kernel_rfl) (by kernel_rfl) (by kernel_rfl) (fun _ _ _ h => h) (Or.inl ⟨by rfl, ?_⟩) hS0 ?_
                  rotate_left
                  · (intro w hSw; obtain ⟨s1, s2, s3⟩ := hSw; go_simp; first | done | with_reducible rfl)
                  try simp only [Act.put, List.setIfInBounds_toArray, List.set_cons_zero, List.set_cons_succ]
                  refine wpAnyB_take (i := 13) (v := ?_) rfl (by kernel_rfl) (by kernel_rfl) (by kernel_rfl) (by kernel_rfl) (fun _ _ _ h => h) (Or.inl ⟨by rfl, ?_⟩) hS0 ?_
                  rotate_left
                  · (intro w hSw; obtain ⟨s1, s2, s3⟩ := hSw; go_simp; first | done | with_reducible rfl)
                  try simp only [Act.put, List.setIfInBounds_toArray, List.set_cons_zero, List.set_cons_succ]
                  refine wpAnyB_ready (rs := [2, 14]) (by kernel_rfl) (by simp) (AllB.cons rfl (fun K hK => ?_) (AllB.cons rfl (fun K hK => ?_) AllB.nil))
                  · skip
                    go_simp
                    rw [← HOP.out]
                    have hS1 := Sv.ext hS0 (alloc_ext W7.drew oP)
                    refine hK.out _ _ hS1 ?_
                    clear hK K
                    try simp only [Act.put, List.setIfInBounds_toArray, List.set_cons_zero, List.set_cons_succ]
                    have hOa := hO.trans (alloc_ext W7.drew oP)
                    refine wpAnyB_ready (rs := [3, 14]) (by kernel_rfl) (by simp) (AllB.cons rfl (fun K hK => ?_) (AllB.cons rfl (fun K hK => ?_) AllB.nil))
                    · skip
                      refine step_append_own2 rfl _ _ 105 rfl W0.heap.size 104 i104 (.agg #[.int .i64 0, .int .u64 0]) 2 16 Tryd.underlying105 hi104 hz104 hs104 hb104 rfl (by decide) (.slice (some ⟨gp2, 0, none⟩) (rowV x L n j r.key).length cp2) (rowV x L n j r.key).length ((rowV x L n j r.key).flatMap plCells) (by rfl) ((hOa).get 2 rfl) ⟨_, 0, none⟩ 1 1 [.int .i64 (tn : Int), .int .u64 (T : Int)] (by rfl) rfl (blk_news2 (n := W7.drew.heap.size) (by rw [HOP.out]; exact heap_alloc_new _ _)) (two_place _ _) (by unfold maxLen; omega) (by omega) (hOa).ext.size ?_
                      intro v8 w8 hown8 hg8 hb8
                      obtain ⟨g8, c8, rfl⟩ := ownsRow_pos hown8 (by omega)
                      have hO8 := (hOa).app 2 rfl hg8 hown8 hb8
                      have hSk : Sv b18 gl2 (n * 5 + 4) (.int .i64 (tn : Int)) (.int .u64 (T : Int)) (.int .i64 r.ln) w8 := ⟨cell_of_blk ((hO8).get 0 rfl).2 0 rfl, cell_of_blk ((hO8).get 0 rfl).2 1 rfl, cell_at_own ((hO8).get 3 rfl) HC.out⟩
                      refine hK.out _ _ hSk ?_
                      clear hK K
                      try simp only [Act.put, List.setIfInBounds_toArray, List.set_cons_zero, List.set_cons_succ]
                      refine wpAnyB_ready (rs := [14]) (by kernel_rfl) (by simp) (AllB.cons rfl (fun K hK => ?_) AllB.nil)
                      go_simp
                      rw [← HOF.out]
                      have hS3 := Sv.ext hSk (alloc_ext w8 oF)
                      refine hK.out _ _ hS3 ?_
                      clear hK K
                      try simp only [Act.put, List.setIfInBounds_toArray, List.set_cons_zero, List.set_cons_succ]
                      refine wpAnyB_ready (rs := [15]) (by kernel_rfl) (by simp) (AllB.cons rfl (fun K hK => ?_) AllB.nil)
                      have hO8b := hO8.trans (alloc_ext w8 oF)
                      refine step_append_own3 rfl _ _ 92 rfl W0.heap.size 91 i91 (.agg #[.int .u64 0, .int .u64 0, .int .i64 0, .int .i64 0, .int .i64 0]) 5 40 Tryd.underlying92 hi91 hz91 hs91 hb91 rfl (by decide) (.slice (some ⟨gl2, 0, none⟩) (rowV x L n j r.key).length cl2) (rowV x L n j r.key).length ((rowV x L n j r.key).flatMap fd0Cells) (by rfl) ((hO8b).get 3 rfl) ⟨_, 0, none⟩ 1 1 [.int .u64 0, .int .u64 0, .int .i64 (n : Int), .int .i64 (nd.act), .int .i64 (r.ln + 1)] (by rfl) rfl (blk5 (b := w8.heap.size) (by rw [HOF.out]; exact heap_alloc_new _ _)) (five_cells0 _ _ _) (by unfold maxLen; omega) (by omega) (hO8b).ext.size ?_
                      intro v9 w9 hown9 hg9 hb9 hk9
                      obtain ⟨g9, c9, rfl⟩ := ownsRow_pos hown9 (by omega)
                      have hO9 := (hO8b).app 3 rfl hg9 hown9 hb9
                      have hSk : Sv b18 gl2 (n * 5 + 4) (.int .i64 (tn : Int)) (.int .u64 (T : Int)) (.int .i64 r.ln) w9 := ⟨cell_of_blk (hO9.get 0 rfl).2 0 rfl, cell_of_blk (hO9.get 0 rfl).2 1 rfl, hk9 gl2 _ _ rfl _ _ HC.out⟩
                      refine hK.out _ _ hSk ?_
                      clear hK K
                      try simp only [Act.put, List.setIfInBounds_toArray, List.set_cons_zero, List.set_cons_succ]
                      refine wpAnyB_tail rfl rfl (by decide) (by kernel_rfl) ?_
                      have hO10 : OwnL W0 w9 (.blk b13 (.cells #[.int .i64 (kn : Int), .int .u64 (S : Int)] 104) :: PlV (rowV x L n (j + 1) r.key) g8 c8 g9 c9 gm om3) := by
                        rw [hNEW.out]
                        unfold PlV
                        rw [List.flatMap_append, List.flatMap_append, List.length_append]
                        exact OwnL.drop hO9
                      have hm10 : SetOf placeV placeOK om3 (keysT (rowV x L n (j + 1) r.key)) := by
                        rw [hNEW.out, keysT_snoc (by omega)]
                        exact HM7.out
                      have hl10 : (rowV x L n (j + 1) r.key).length = (rowV x L n j r.key).length + 1 := by rw [hNEW.out, List.length_append]; rfl
                      have HF := Lib.hid (And.intro hO10 (And.intro hm10 hl10))
                      clear hO10 hm10 hl10 hO9 hSk hg8 hown8 hb8 hg9 hown9 hb9 hk9 hO8 hO7 hO hS0 hS1
                      go_wp2
                      exact ⟨⟨j + 1, om3, g8, c8, g9, c9, by go_num, hjl, by rw [HF.out.2.2], by rw [HF.out.2.2], HF.out.2.1, HF.out.1⟩, by simp [intOf]; omega⟩
                    · skip
                      go_simp
                      rw [← HOF.out]
                      have hS2 := Sv.ext hS1 (alloc_ext (W7.drew.alloc oP) oF)
                      refine hK.out _ _ hS2 ?_
                      clear hK K
                      try simp only [Act.put, List.setIfInBounds_toArray, List.set_cons_zero, List.set_cons_succ]
                      have hOb := (hOa.add (alloc_ext _ oF) (A := .blk (W7.heap.size + 1) oF) ⟨by simp, by have := heap_alloc_new (W7.drew.alloc oP) oF; simpa using this⟩).last
                      refine wpAnyB_ready (rs := [3]) (by kernel_rfl) (by simp) (AllB.cons rfl (fun K hK => ?_) AllB.nil)
                      refine step_append_own2 rfl _ _ 105 rfl W0.heap.size 104 i104 (.agg #[.int .i64 0, .int .u64 0]) 2 16 Tryd.underlying105 hi104 hz104 hs104 hb104 rfl (by decide) (.slice (some ⟨gp2, 0, none⟩) (rowV x L n j r.key).length cp2) (rowV x L n j r.key).length ((rowV x L n j r.key).flatMap plCells) (by rfl) ((hOb).get 2 rfl) ⟨_, 0, none⟩ 1 1 [.int .i64 (tn : Int), .int .u64 (T : Int)] (by rfl) rfl (blk_news2 (n := W7.drew.heap.size) (heap_ext (alloc_ext _ _) (by rw [HOP.out]; exact heap_alloc_new _ _))) (two_place _ _) (by unfold maxLen; omega) (by omega) (hOb).ext.size ?_
                      intro v8 w8 hown8 hg8 hb8
                      obtain ⟨g8, c8, rfl⟩ := ownsRow_pos hown8 (by omega)
                      have hO8 := (hOb).app 2 rfl hg8 hown8 hb8
                      have hSk : Sv b18 gl2 (n * 5 + 4) (.int .i64 (tn : Int)) (.int .u64 (T : Int)) (.int .i64 r.ln) w8 := ⟨cell_of_blk ((hO8).get 0 rfl).2 0 rfl, cell_of_blk ((hO8).get 0 rfl).2 1 rfl, cell_at_own ((hO8).get 3 rfl) HC.out⟩
                      refine hK.out _ _ hSk ?_
                      clear hK K
                      try simp only [Act.put, List.setIfInBounds_toArray, List.set_cons_zero, List.set_cons_succ]
                      refine wpAnyB_ready (rs := [15]) (by kernel_rfl) (by simp) (AllB.cons rfl (fun K hK => ?_) AllB.nil)
                      have hnb := (hO8.get 5 rfl).2
                      rw [HOF.out] at hnb
                      refine step_append_own3 rfl _ _ 92 rfl W0.heap.size 91 i91 (.agg #[.int .u64 0, .int .u64 0, .int .i64 0, .int .i64 0, .int .i64 0]) 5 40 Tryd.underlying92 hi91 hz91 hs91 hb91 rfl (by decide) (.slice (some ⟨gl2, 0, none⟩) (rowV x L n j r.key).length cl2) (rowV x L n j r.key).length ((rowV x L n j r.key).flatMap fd0Cells) (by rfl) ((hO8).get 3 rfl) ⟨_, 0, none⟩ 1 1 [.int .u64 0, .int .u64 0, .int .i64 (n : Int), .int .i64 (nd.act), .int .i64 (r.ln + 1)] (by rfl) rfl (blk5 hnb) (five_cells0 _ _ _) (by unfold maxLen; omega) (by omega) (hO8).ext.size ?_
                      intro v9 w9 hown9 hg9 hb9 hk9
                      obtain ⟨g9, c9, rfl⟩ := ownsRow_pos hown9 (by omega)
                      have hO9 := (hO8).app 3 rfl hg9 hown9 hb9
                      have hSk : Sv b18 gl2 (n * 5 + 4) (.int .i64 (tn : Int)) (.int .u64 (T : Int)) (.int .i64 r.ln) w9 := ⟨cell_of_blk (hO9.get 0 rfl).2 0 rfl, cell_of_blk (hO9.get 0 rfl).2 1 rfl, hk9 gl2 _ _ rfl _ _ HC.out⟩
                      refine hK.out _ _ hSk ?_
                      clear hK K
                      try simp only [Act.put, List.setIfInBounds_toArray, List.set_cons_zero, List.set_cons_succ]
                      have hO9 := OwnL.front (L := [_, _, _, _, _]) hO9
                      refine wpAnyB_tail rfl rfl (by decide) (by kernel_rfl) ?_
                      have hO10 : OwnL W0 w9 (.blk b13 (.cells #[.int .i64 (kn : Int), .int .u64 (S : Int)] 104) :: PlV (rowV x L n (j + 1) r.key) g8 c8 g9 c9 gm om3) := by
                        rw [hNEW.out]
                        unfold PlV
                        rw [List.flatMap_append, List.flatMap_append, List.length_append]
                        exact OwnL.drop hO9
                      have hm10 : SetOf placeV placeOK om3 (keysT (rowV x L n (j + 1) r.key)) := by
                        rw [hNEW.out, keysT_snoc (by omega)]
                        exact HM7.out
                      have hl10 : (rowV x L n (j + 1) r.key).length = (rowV x L n j r.key).length + 1 := by rw [hNEW.out, List.length_append]; rfl
                      have HF := Lib.hid (And.intro hO10 (And.intro hm10 hl10))
                      clear hO10 hm10 hl10 hO9 hSk hg8 hown8 hb8 hg9 hown9 hb9 hk9 hO8 hO7 hO hS0 hS1
                      go_wp2
                      exact ⟨⟨j + 1, om3, g8, c8, g9, c9, by go_num, hjl, by rw [HF.out.2.2], by rw [HF.out.2.2], HF.out.2.1, HF.out.1⟩, by simp [intOf]; omega⟩
                  · skip
                    go_simp
                    rw [← HOF.out]
                    have hS1 := Sv.ext hS0 (alloc_ext W7.drew oF)
                    refine hK.out _ _ hS1 ?_
                    clear hK K
                    try simp only [Act.put, List.setIfInBounds_toArray, List.set_cons_zero, List.set_cons_succ]
                    have hOc := (hO.add (alloc_ext _ oF) (A := .blk W7.drew.heap.size oF) ⟨Nat.le_refl _, heap_alloc_new _ _⟩).last
                    refine wpAnyB_ready (rs := [2]) (by kernel_rfl) (by simp) (AllB.cons rfl (fun K hK => ?_) AllB.nil)
                    go_simp
                    rw [← HOP.out]
                    have hS2 := Sv.ext hS1 (alloc_ext (W7.drew.alloc oF) oP)
                    refine hK.out _ _ hS2 ?_
                    clear hK K
                    try simp only [Act.put, List.setIfInBounds_toArray, List.set_cons_zero, List.set_cons_succ]
                    have hOd := hOc.trans (alloc_ext _ oP)
                    refine wpAnyB_ready (rs := [3]) (by kernel_rfl) (by simp) (AllB.cons rfl (fun K hK => ?_) AllB.nil)
                    have hnr : ((W7.drew.alloc oF).alloc oP).heap[W7.heap.size + 1]? = some oP := by have := heap_alloc_new (W7.drew.alloc oF) oP; simpa using this
                    refine step_append_own2 rfl _ _ 105 rfl W0.heap.size 104 i104 (.agg #[.int .i64 0, .int .u64 0]) 2 16 Tryd.underlying105 hi104 hz104 hs104 hb104 rfl (by decide) (.slice (some ⟨gp2, 0, none⟩) (rowV x L n j r.key).length cp2) (rowV x L n j r.key).length ((rowV x L n j r.key).flatMap plCells) (by rfl) ((hOd).get 2 rfl) ⟨_, 0, none⟩ 1 1 [.int .i64 (tn : Int), .int .u64 (T : Int)] (by rfl) rfl (blk_news2 (n := W7.heap.size + 1) (hnr.trans (by rw [HOP.out]))) (two_place _ _) (by unfold maxLen; omega) (by omega) (hOd).ext.size ?_
                    intro v8 w8 hown8 hg8 hb8
                    obtain ⟨g8, c8, rfl⟩ := ownsRow_pos hown8 (by omega)
                    have hO8 := (hOd).app 2 rfl hg8 hown8 hb8
                    have hSk : Sv b18 gl2 (n * 5 + 4) (.int .i64 (tn : Int)) (.int .u64 (T : Int)) (.int .i64 r.ln) w8 := ⟨cell_of_blk ((hO8).get 0 rfl).2 0 rfl, cell_of_blk ((hO8).get 0 rfl).2 1 rfl, cell_at_own ((hO8).get 3 rfl) HC.out⟩
                    refine hK.out _ _ hSk ?_
                    clear hK K
                    try simp only [Act.put, List.setIfInBounds_toArray, List.set_cons_zero, List.set_cons_succ]
                    refine wpAnyB_ready (rs := [15]) (by kernel_rfl) (by simp) (AllB.cons rfl (fun K hK => ?_) AllB.nil)
                    have hnb := (hO8.get 5 rfl).2
                    rw [HOF.out] at hnb
                    refine step_append_own3 rfl _ _ 92 rfl W0.heap.size 91 i91 (.agg #[.int .u64 0, .int .u64 0, .int .i64 0, .int .i64 0, .int .i64 0]) 5 40 Tryd.underlying92 hi91 hz91 hs91 hb91 rfl (by decide) (.slice (some ⟨gl2, 0, none⟩) (rowV x L n j r.key).length cl2) (rowV x L n j r.key).length ((rowV x L n j r.key).flatMap fd0Cells) (by rfl) ((hO8).get 3 rfl) ⟨_, 0, none⟩ 1 1 [.int .u64 0, .int .u64 0, .int .i64 (n : Int), .int .i64 (nd.act), .int .i64 (r.ln + 1)] (by rfl) rfl (blk5 hnb) (five_cells0 _ _ _) (by unfold maxLen; omega) (by omega) (hO8).ext.size ?_
                    intro v9 w9 hown9 hg9 hb9 hk9
                    obtain ⟨g9, c9, rfl⟩ := ownsRow_pos hown9 (by omega)
                    have hO9 := (hO8).app 3 rfl hg9 hown9 hb9
                    have hSk : Sv b18 gl2 (n * 5 + 4) (.int .i64 (tn : Int)) (.int .u64 (T : Int)) (.int .i64 r.ln) w9 := ⟨cell_of_blk (hO9.get 0 rfl).2 0 rfl, cell_of_blk (hO9.get 0 rfl).2 1 rfl, hk9 gl2 _ _ rfl _ _ HC.out⟩
                    refine hK.out _ _ hSk ?_
                    clear hK K
                    try simp only [Act.put, List.setIfInBounds_toArray, List.set_cons_zero, List.set_cons_succ]
                    have hO9 := OwnL.front (L := [_, _, _, _, _]) hO9
                    refine wpAnyB_tail rfl rfl (by decide) (by kernel_rfl) ?_
                    have hO10 : OwnL W0 w9 (.blk b13 (.cells #[.int .i64 (kn : Int), .int .u64 (S : Int)] 104) :: PlV (rowV x L n (j + 1) r.key) g8 c8 g9 c9 gm om3) := by
                      rw [hNEW.out]
                      unfold PlV
                      rw [List.flatMap_append, List.flatMap_append, List.length_append]
                      exact OwnL.drop hO9
                    have hm10 : SetOf placeV placeOK om3 (keysT (rowV x L n (j + 1) r.key)) := by
                      rw [hNEW.out, keysT_snoc (by omega)]
                      exact HM7.out
                    have hl10 : (rowV x L n (j + 1) r.key).length = (rowV x L n j r.key).length + 1 := by rw [hNEW.out, List.length_append]; rfl
                    have HF := Lib.hid (And.intro hO10 (And.intro hm10 hl10))
                    clear hO10 hm10 hl10 hO9 hSk hg8 hown8 hb8 hg9 hown9 hb9 hk9 hO8 hO7 hO hS0 hS1
                    go_wp2
                    exact ⟨⟨j + 1, om3, g8, c8, g9, c9, by go_num, hjl, by rw [HF.out.2.2], by rw [HF.out.2.2], HF.out.2.1, HF.out.1⟩, by simp [intOf]; omega⟩
          · obtain rfl : j = nd.next.length := by omega
            have hall := rowV_all HQ.out.1
            rw [HKK.out.1, HQ.out.2.2.2.1] at hall
            rw [hall] at hm
            have hO : OwnL W0 W4 (PlV (goV x L (n + 1)) gp2 cp2 gl2 cl2 gm om2) := by rw [← hall]; exact hO.drop
            have hpre := (rowV_pre HQ.out.1 0).2
            have hNL : n + 1 ≤ (goV x L (n + 1)).length := by have h2 : (goV x L n).length ≤ (goV x L (n + 1)).length := hpre.length_le; omega
            have hno : ∀ (m : Nat) (z : Fp), m < n + 1 → (goV x L (n + 1))[m]? = some z → failB L z = false := fun m z hmn hz => by
              have h2 : m < (goV x L n).length := by omega
              have h3 := pre_get (show goV x L n <+: goV x L (n + 1) from hpre) (List.getElem?_eq_getElem h2)
              rw [hz] at h3
              cases h3
              rcases Nat.lt_or_ge m n with h4 | h4
              · exact HQ.out.2.2.2.2.2.2.2.2.2 m _ h4 (List.getElem?_eq_getElem h2)
              · obtain rfl : m = n := by omega
                have h5 := HQ.out.1
                rw [List.getElem?_eq_getElem h2] at h5
                cases h5; exact hfb.out
            have HF := Lib.hid (And.intro hm (And.intro hO (And.intro hNL (And.intro hno hall))))
            clear hall hm hO hE hNL hno hpre
            go_wp2
            go_roundw
            case rel => exact ⟨n + 1, om2, gp2, cp2, gl2, cl2, by go_num, Lib.hid ⟨HF.out.2.2.1, HF.out.2.2.2.1⟩, by rw [HF.out.2.2.2.2], by rw [HF.out.2.2.2.2], HF.out.1, HF.out.2.1⟩
            case measure => simp [intOf]; omega
    · have hnn : n = (goV x L n).length := by have := hle.out.1; omega
      have HV := Lib.hid (verd_pass hnn hsm hle.out.2)
      have hnI : ¬ (n : Int) < ((goV x L n).length : Int) := by omega
      have HE := Lib.hid hE
      clear hnn hO hE hm
      go_wp2
      refine bodyPost_ret (results_tmp3 rfl _ _ _) rfl ?_
      unfold VerdP
      rw [HV.out]
      exact ⟨_, rfl, fit_nil _, H0.out.trans HE.out⟩
end Go.Proofs.YtamodjlifpjaoaaDoor

namespace Go.Proofs.YtamodjlifpjaoaaDoor
open Go.RowKit Go.Maps
set_option linter.unusedVariables false
set_option linter.unusedSimpArgs false
attribute [local go_sem] Oper.quietV quietV Oper.gives givesV ext_refl_iff ext_alloc_iff ext_drew_iff ext_drewN_iff
set_option maxRecDepth 100000 in
set_option maxHeartbeats 16000000 in
theorem verd_t11 (w W : World) (b8 ct : Nat) (x : Lts) (L : List Nd) (At : Option Addr) (c0 c2 c3 c4 c5 c6 c7 c9 c10 c11 c12 c13 c14 c15 c16 c17 c18 c19 c20 c21 c22 c23 c24 c25 c26 c27 c28 c29 c30 c31 c32 c33 c34 c35 c36 c37 c38 c39 c40 c41 c42 c43 c44 c45 c46 c47 c48 c49 c50 c51 c52 c53 c54 c55 c56 c57 c58 c59 c60 c61 c62 c63 c64 c65 c66 c67 c68 c69 c70 c71 c72 c73 c74 c75 c76 c77 c78 c79 c80 c81 c82 c83 c84 c85 c86 c87 c88 c89 c90 c91 c92 c93 c94 c95 c96 c97 c98 c99 c100 c101 c102 c103 c104 c105 c106 c107 c108 c109 c110 c111 c112 c113 c114 c115 c116 c117 c118 c119 c120 c121 : Value) (h0 : Ext w W) (hT : Tab W) (hx : Good x) (h5 : x.n ≤ 5) (hL : L.length ≤ 1024) (hR : RightT x.ins x.outs L)
    (hb8 : BoxS W b8 x) (hN : NodesC W (.slice At L.length ct) L ct) :
    Code.wp Tryd.prog (T29 11) (bodyPost Tryd.prog Tryd.f29 (VerdP w (verdT x L))) ⟨(c0 :: .slice At L.length ct :: c2 :: c3 :: c4 :: c5 :: c6 :: c7 :: .pointer (some ⟨b8, 0, none⟩) :: c9 :: c10 :: c11 :: c12 :: c13 :: c14 :: c15 :: c16 :: c17 :: c18 :: c19 :: c20 :: c21 :: c22 :: c23 :: c24 :: c25 :: c26 :: c27 :: c28 :: c29 :: c30 :: c31 :: c32 :: c33 :: c34 :: c35 :: c36 :: c37 :: c38 :: c39 :: c40 :: c41 :: c42 :: c43 :: c44 :: c45 :: c46 :: c47 :: c48 :: c49 :: c50 :: c51 :: c52 :: c53 :: c54 :: c55 :: c56 :: c57 :: c58 :: c59 :: c60 :: c61 :: c62 :: c63 :: c64 :: c65 :: c66 :: c67 :: c68 :: c69 :: c70 :: c71 :: c72 :: c73 :: c74 :: c75 :: c76 :: c77 :: c78 :: c79 :: c80 :: c81 :: c82 :: c83 :: c84 :: c85 :: c86 :: c87 :: c88 :: c89 :: c90 :: c91 :: c92 :: c93 :: c94 :: c95 :: c96 :: c97 :: c98 :: c99 :: c100 :: c101 :: c102 :: c103 :: c104 :: c105 :: c106 :: c107 :: c108 :: c109 :: c110 :: c111 :: c112 :: c113 :: c114 :: c115 :: c116 :: c117 :: c118 :: c119 :: c120 :: c121 :: []).toArray, []⟩ W := by
  conv => arg 2; whnf
  have HX := Lib.hid (And.intro h0 (And.intro hT (And.intro hx (And.intro hR (And.intro hN (And.intro h5 hb8))))))
  obtain ⟨pA, pc, pB, pd, p0, p1, p2, p3, pS⟩ := hb8
  have hbg := begin_any W _ x pS hx
  clear h0 hT hx hR hN h5 pS
  have hmm := @run_makeMap Tryd.prog
  go_upto_region 999 with (first | ((with_reducible refine hbg.mono ?_); rintro e W5 ⟨rfl, e5⟩) | (with_reducible refine stop_at 12 ?_) | (with_reducible refine stop_at2 12 ?_))
  refine ⟨?_⟩
  clear hbg p0 p1 p2 p3
  have h1 := (OwnL.nil (Ext.refl W5)).add (alloc_ext W5 (.cells #[.int .i64 0, .int .u64 (begM x : Int)] 104)) (A := .row 104 2 (.slice (some ⟨W5.heap.size, 0, none⟩) 1 1) 1 ([rt (rootV x)].flatMap plCells)) (World.ownsRow_lit (base := W5.heap.size) (e := 104) (size := 2) W5 #[.int .i64 0, .int .u64 (begM x : Int)] 1 (Nat.le_refl _) (by unfold maxLen; omega) rfl)
  have h2 := h1.add (alloc_ext _ (.cells #[.int .u64 0, .int .u64 0, .int .i64 0, .int .i64 0, .int .i64 0] 91)) (A := .row 91 5 (.slice (some ⟨W5.heap.size + 1, 0, none⟩) 1 1) 1 ([rt (rootV x)].flatMap fd0Cells)) (by
    have h := World.ownsRow_lit (base := W5.heap.size + 1) (e := 91) (size := 5) (W5.alloc (.cells #[.int .i64 0, .int .u64 (begM x : Int)] 104)) #[.int .u64 0, .int .u64 0, .int .i64 0, .int .i64 0, .int .i64 0] 1 (by simp) (by unfold maxLen; omega) rfl
    have hs : (W5.alloc (.cells #[.int .i64 0, .int .u64 (begM x : Int)] 104)).heap.size = W5.heap.size + 1 := by simp
    rw [hs] at h ⊢
    exact h)
  have h3 := h2.swap.add (alloc_ext _ (.map #[] 0)) (A := .blk (W5.heap.size + 1 + 1) (.map #[] 0)) ⟨by simp, by
    have h := heap_alloc_new ((W5.alloc (.cells #[.int .i64 0, .int .u64 (begM x : Int)] 104)).alloc (.cells #[.int .u64 0, .int .u64 0, .int .i64 0, .int .i64 0, .int .i64 0] 91)) (.map #[] 0)
    simpa using h⟩
  have h4 := h3.last
  have HO : Hid (OwnL W5 _ (PlV [rt (rootV x)] W5.heap.size 1 (W5.heap.size + 1) 1 (W5.heap.size + 1 + 1) (.map #[] 0))) := Lib.hid h4
  clear h1 h2 h3 h4 hmm
  exact verd_t12 w W5 _ b8 _ _ _ ct _ x L At _ _ _ _ _ _ _ _ _ _ _ _ _ _ _ _ _ _ _ _ _ _ _ _ _ _ _ _ _ _ _ _ _ _ _ _ _ _ _ _ _ _ _ _ _ _ _ _ _ _ _ _ _ _ _ _ _ _ _ _ _ _ _ _ _ _ _ _ _ _ _ _ _ _ _ _ _ _ _ _ _ _ _ _ _ _ _ _ _ _ _ _ _ _ _ _ _ _ _ _ _ _ _ _ _ _ _ _ _ _ _ _ _ _ _ _ _ (HX.out.1.trans e5) (HX.out.2.1.ext e5) HX.out.2.2.1 HX.out.2.2.2.2.2.1 hL HX.out.2.2.2.1 (HX.out.2.2.2.2.2.2.ext e5) (HX.out.2.2.2.2.1.ext e5) HO.out (SetOf.made placeV placeOK)
set_option maxRecDepth 100000 in
set_option maxHeartbeats 16000000 in
theorem Verdict_any (w : World) (v : Value) (x : Lts) (tv : Value) (L : List Nd) (ct : Nat) (hd : LtsV w v x) (h5 : checkI x = 0 → rightB x.ins x.outs L = true → x.n ≤ 5) (ht : NodesC w tv L ct) (hT : Tab w) : Calls Tryd.prog 29 #[v, tv] w (VerdP w (verdR x L)) := by
  obtain ⟨A, c, rfl, hr, hlen⟩ := hd.form
  obtain ⟨At, rfl, htm⟩ : ∃ At, tv = .slice At L.length ct ∧ L.length ≤ 9223372036854775807 := by
    obtain ⟨At, M, _, h, _, _, _, h2⟩ := ht
    exact ⟨At, h, h2⟩
  go_enter Tryd.func29, Tryd.ntmps29
  go_upto_region 1 with fail
  refine wp_named ?_
  intro W1 hW1
  have hE1 : Ext w W1 := by rw [hW1]; exact (Ext.refl _).alloc _
  have k0 : ∀ w', Ext W1 w' → w'.cell? ⟨w.heap.size, 0, none⟩ = some (.int .i64 x.ins) := fun w' h => h.cell (by rw [hW1]; simp [go_sem])
  have k1 : ∀ w', Ext W1 w' → w'.cell? ⟨w.heap.size, 1, none⟩ = some (.int .i64 x.outs) := fun w' h => h.cell (by rw [hW1]; simp [go_sem])
  have k2 : ∀ w', Ext W1 w' → w'.cell? ⟨w.heap.size, 2, none⟩ = some (.slice A x.rows.length c) := fun w' h => h.cell (by rw [hW1]; simp [go_sem])
  clear hW1
  have hE0 := Ext.refl W1
  have hch := check_any W1 _ x (hd.ext hE1)
  by_cases h0 : checkI x = 0
  · have hg := check_good h0
    have H : Hid (verdR x L = if 1024 < L.length then (false, [], 3) else if !rightB x.ins x.outs L then (false, [], 1) else if !accB x then (false, [], 9) else verdT x L) := Lib.hid (if_neg (by simpa using h0))
    rw [h0] at hch
    have H5 := Lib.hid (h5 h0)
    clear h0 h5
    by_cases hl : 1024 < L.length
    · have hI : (1024 : Int) < (L.length : Int) := by omega
      have H := Lib.hid (H.out.trans (if_pos hl))
      clear hd hr hT hg ht
      go_wp2_with ((with_reducible refine hch.mono ?_); rintro e w1 ⟨rfl, e1⟩)
      refine bodyPost_ret (results_tmp3 rfl _ _ _) rfl ?_
      unfold VerdP
      rw [H.out]
      exact ⟨_, rfl, fit_nil _, hE1.trans e1⟩
    have hI : ¬ (1024 : Int) < (L.length : Int) := by omega
    have H := Lib.hid (H.out.trans (if_neg hl))
    have hri := fun W (e : Ext W1 W) => right_any W _ L ct x.ins x.outs (ht.ext (hE1.trans e)) hg.outs (by omega)
    have hpr := fun W (e : Ext W1 W) => prepare_form W _ x (hd.ext (hE1.trans e)) hg
    have hac := fun W v (e : Ext W1 W) (hs : SysV W v x) => accepts_any W v x hs hg (hT.ext (hE1.trans e))
    have HT := Lib.hid (And.intro hT (And.intro hg (And.intro ht hE1)))
    clear hd hr hT ht hg
    cases hb : rightB x.ins x.outs L with
    | false =>
      have H := Lib.hid (H.out.trans (if_pos (by rw [hb]; rfl)))
      rw [hb] at hri
      clear hb hpr hac
      go_wp2_with (first
        | ((with_reducible refine hch.mono ?_); rintro e w1 ⟨rfl, e1⟩; have hri1 := hri w1 e1)
        | ((with_reducible refine hri1.mono ?_); rintro e w2 ⟨rfl, e2⟩))
      refine bodyPost_ret (results_tmp3 rfl _ _ _) rfl ?_
      unfold VerdP
      rw [H.out]
      exact ⟨_, rfl, fit_nil _, hE1.trans (e1.trans e2)⟩
    | true =>
      have H := Lib.hid (H.out.trans (if_neg (by rw [hb]; simp)))
      have HR := Lib.hid (And.intro (right_of hb) (H5.out hb))
      rw [hb] at hri
      clear hb H5
      cases hab : accB x with
      | false =>
        have H := Lib.hid (H.out.trans (if_pos (by rw [hab]; rfl)))
        rw [hab] at hac
        clear hab
        go_upto_region 9 with (first
          | ((with_reducible refine hch.mono ?_); rintro e w1 ⟨rfl, e1⟩; have hri1 := hri w1 e1)
          | ((with_reducible refine hri1.mono ?_); rintro e w2 ⟨rfl, e2⟩; have hpr2 := hpr w2 (e1.trans e2); have E2 := e1.trans e2)
          | ((with_reducible refine hpr2.mono ?_); rintro e w3 ⟨A2, c2, B2, d2, rfl, hs3, e3⟩)
          | (with_reducible refine wpList_store_blk _ rfl 73 _ _ rfl w3.heap.size 73 _ _ rfl rfl (heap_alloc_new _ _) (by kernel_rfl) (by kernel_rfl) (by kernel_rfl) ?_; intro w4 h4 g4))
        have e34 : Ext w3 w4 := Below.grown (alloc_ext w3 _) g4 (alloc_ext w3 _).size (fun k hk => by cases hk; exact Nat.le_refl _)
        have e14 := e1.trans (e2.trans (e3.trans e34))
        have hac4 := hac w4 _ e14 (hs3.ext e34)
        have q0 := cell_of_blk h4 0 (u := .int .i64 x.ins) rfl
        have q1 := cell_of_blk h4 1 (u := .int .i64 x.outs) rfl
        have q2 := cell_of_blk h4 2 (u := .slice A2 x.rows.length c2) rfl
        have q3 := cell_of_blk h4 3 (u := .slice B2 x.rows.length d2) rfl
        have HE := Lib.hid (hE1.trans e14)
        clear hch hri hri1 hpr hpr2 hac e14 e34 e3 e2 e1 E2 h4 g4 hs3
        go_wp2_with ((with_reducible refine hac4.mono ?_); rintro e w5 ⟨rfl, e5⟩)
        refine bodyPost_ret (results_tmp3 rfl _ _ _) rfl ?_
        unfold VerdP
        rw [H.out]
        exact ⟨_, rfl, fit_nil _, HE.out.trans e5⟩
      | true =>
        have H := Lib.hid (H.out.trans (if_neg (by rw [hab]; simp)))
        rw [hab] at hac
        clear hab
        go_upto_region 9 with (first
          | ((with_reducible refine hch.mono ?_); rintro e w1 ⟨rfl, e1⟩; have hri1 := hri w1 e1)
          | ((with_reducible refine hri1.mono ?_); rintro e w2 ⟨rfl, e2⟩; have hpr2 := hpr w2 (e1.trans e2); have E2 := e1.trans e2)
          | ((with_reducible refine hpr2.mono ?_); rintro e w3 ⟨A2, c2, B2, d2, rfl, hs3, e3⟩)
          | (with_reducible refine wpList_store_blk _ rfl 73 _ _ rfl w3.heap.size 73 _ _ rfl rfl (heap_alloc_new _ _) (by kernel_rfl) (by kernel_rfl) (by kernel_rfl) ?_; intro w4 h4 g4))
        have e34 : Ext w3 w4 := Below.grown (alloc_ext w3 _) g4 (alloc_ext w3 _).size (fun k hk => by cases hk; exact Nat.le_refl _)
        have e14 := e1.trans (e2.trans (e3.trans e34))
        have hac4 := hac w4 _ e14 (hs3.ext e34)
        have q0 := cell_of_blk h4 0 (u := .int .i64 x.ins) rfl
        have q1 := cell_of_blk h4 1 (u := .int .i64 x.outs) rfl
        have q2 := cell_of_blk h4 2 (u := .slice A2 x.rows.length c2) rfl
        have q3 := cell_of_blk h4 3 (u := .slice B2 x.rows.length d2) rfl
        have HE := Lib.hid (hE1.trans e14)
        have HB := Lib.hid (BoxS.of h4 (hs3.ext e34))
        clear hch hri hri1 hpr hpr2 hac e14 e34 e3 e2 e1 E2 h4 g4 hs3
        go_upto_region 999 with (first | ((with_reducible refine hac4.mono ?_); rintro e w5 ⟨rfl, e5⟩) | (with_reducible refine stop_at 11 ?_) | (with_reducible refine stop_at2 11 ?_))
        refine ⟨?_⟩
        rw [show verdR x L = verdT x L from H.out]
        exact verd_t11 w w5 w3.heap.size ct x L At _ _ _ _ _ _ _ _ _ _ _ _ _ _ _ _ _ _ _ _ _ _ _ _ _ _ _ _ _ _ _ _ _ _ _ _ _ _ _ _ _ _ _ _ _ _ _ _ _ _ _ _ _ _ _ _ _ _ _ _ _ _ _ _ _ _ _ _ _ _ _ _ _ _ _ _ _ _ _ _ _ _ _ _ _ _ _ _ _ _ _ _ _ _ _ _ _ _ _ _ _ _ _ _ _ _ _ _ _ _ _ _ _ _ _ _ _ _ _ _ (HE.out.trans e5) (HT.out.1.ext (HE.out.trans e5)) HT.out.2.1 HR.out.2 (by omega) HR.out.1 (HB.out.ext e5) (HT.out.2.2.1.ext (HE.out.trans e5))
  · have H : Hid (verdR x L = (false, [], checkI x)) := Lib.hid (if_pos h0)
    have h1 : (checkI x != 0) = true := by simpa using h0
    generalize checkI x = z at *
    clear h0 hd hr h5
    go_wp2_with ((with_reducible refine hch.mono ?_); rintro e w1 ⟨rfl, e1⟩)
    refine bodyPost_ret (results_tmp3 rfl _ _ _) rfl ?_
    unfold VerdP
    rw [H.out]
    exact ⟨_, rfl, fit_nil _, hE1.trans e1⟩
end Go.Proofs.YtamodjlifpjaoaaDoor
