/- gauntletref32.Comes 23: the least word that leads to a set, by definition. -/
import Derived.Test.YteadkafeabhhhaaF2
import Derived.Test.YteadkafeabhhhaaE1
import Derived.Test.YteadkafeabhhhaaRegB
import Derived.Test.YteadkafeabhhhaaC2
namespace Go.Proofs.Yteadkafeabhhhaa
open Go.RowKit
set_option linter.unusedVariables false
set_option linter.unusedSimpArgs false
attribute [local go_sem] Oper.quietV quietV Oper.gives givesV ext_refl_iff ext_alloc_iff ext_drew_iff ext_drewN_iff

def toL (m : Mach) : List (List Int) := m.rows.map (fun r => r.map (fun e => e.1))
theorem toL_len (m : Mach) : (toL m).length = m.rows.length := by simp [toL]
theorem toL_get (m : Mach) {s : Nat} (hs : s < m.rows.length) : (toL m).getD s [] = (m.row s).map (fun e => e.1) := by
  rw [row_eq hs]; simp [toL, List.getD, hs]
theorem toL_ok {m : Mach} (hV : Valid m) : OkM (toL m) := by
  refine ⟨by rw [toL_len]; exact hV.size.1, by rw [toL_len]; exact hV.size.2, fun r hr => ?_⟩
  obtain ⟨r0, hr0, rfl⟩ := List.mem_map.1 hr
  refine ⟨by rw [List.length_map]; have := hV.len r0 hr0; have := hV.ins; omega, fun x hx => ?_⟩
  obtain ⟨e, he, rfl⟩ := List.mem_map.1 hx
  rw [toL_len]
  exact fit_to (hV.fit r0 hr0 e he)
theorem toL_fM {g : Game} (l : List Int) : toL (fM g l) = folL g l := by
  unfold toL fM folL
  simp only [List.map_map]
  apply List.map_congr_left
  intro s _
  show (fR g l s).map _ = folR g l s
  unfold fR folR
  rw [List.map_map]
  apply List.map_congr_left
  intro i _
  show (fE g l s i).1 = folE g l s i
  unfold fE folE
  split <;> rfl
theorem mem_row_of {m : Mach} {s i : Nat} (hs : s < m.rows.length) (hi : i < (m.row s).length) : (m.row s)[i] ∈ m.rows[s] := by
  have h := List.getElem_mem hi
  have e := row_eq hs
  generalize (m.row s)[i] = x at h ⊢
  rw [e] at h
  exact h
theorem new_blk {W : World} {b t : Nat} {u : Value} (h : W.heap[b]? = some (.cells #[u] t (0, 0))) : ∀ (j : Nat) (v : Value), [u][j]? = some v → W.cell? ((⟨b, 0, none⟩ : Addr).add j) = some v := fun j v hj => by
  rw [Addr.add_lit, Nat.zero_add]
  exact cell_of_blk h j (by simpa using hj)
theorem cell_rows' {w W : World} {L : List Asn} (h : OwnL w W L) (k : Nat) {e1 e2 s2 g c ln : Nat} {vs : List Value} {rs : List (Nat × List Value)} (hk : L[k]? = some (.rows e1 e2 s2 (.slice (some ⟨g, 0, none⟩) ln c) vs rs)) {j : Nat} {u : Value} (hj : vs[j]? = some u) : W.cell? ⟨g, j, none⟩ = some u := by
  have h1 : OwnRows W w.heap.size e1 e2 s2 (.slice (some ⟨g, 0, none⟩) ln c) vs rs := h.get k hk
  have := h1.own.cells (g := g) rfl j u hj
  rw [Addr.add_lit, Nat.zero_add] at this
  exact this
theorem rows_news {w W : World} {L : List Asn} (h : OwnL w W L) (k : Nat) {e1 e2 s2 gn kn cn : Nat} {g : Value} {vs : List Value} {rs : List (Nat × List Value)} (hk : L[k]? = some (.rows e1 e2 s2 g vs rs)) {n q : Nat} {xs : List Value} (hj : vs[n]? = some (.slice (some ⟨gn, 0, none⟩) kn cn)) (hr : rs[n]? = some (q, xs)) :
    ∀ (j : Nat) (u : Value), xs[j]? = some u → W.cell? ((⟨gn, 0, none⟩ : Addr).add j) = some u := fun j u hu => by
  have h1 : OwnRows W w.heap.size e1 e2 s2 g vs rs := h.get k hk
  exact (h1.each n _ _ hj hr).cells (g := gn) rfl j u hu
theorem OwnL.pick4 {w W : World} {L : List Asn} (h : OwnL w W L) (a b c d : Nat) {A B C D : Asn} (ha : L[a]? = some A) (hb : L[b]? = some B) (hc : L[c]? = some C) (hd : L[d]? = some D) (h1 : a ≠ b) (h2 : a ≠ c) (h3 : a ≠ d) (h4 : b ≠ c) (h5 : b ≠ d) (h6 : c ≠ d) : OwnL w W [A, B, C, D] := by
  have hp : ∀ (i j : Nat) (X Y : Asn), L[i]? = some X → L[j]? = some Y → i ≠ j → ∀ z, X.foot z → ¬ Y.foot z := fun i j X Y hi hj hij z hx hy => by
    obtain ⟨hil, hi'⟩ := List.getElem?_eq_some_iff.1 hi
    obtain ⟨hjl, hj'⟩ := List.getElem?_eq_some_iff.1 hj
    have hpw := List.pairwise_iff_getElem.1 h.apart
    rcases Nat.lt_or_gt_of_ne hij with hlt | hlt
    · exact hpw i j hil hjl hlt z (by rw [hi']; exact hx) (by rw [hj']; exact hy)
    · exact hpw j i hjl hil hlt z (by rw [hj']; exact hy) (by rw [hi']; exact hx)
  refine ⟨h.ext, fun X hX => ?_, ?_⟩
  · simp only [List.mem_cons, List.not_mem_nil, or_false] at hX
    rcases hX with rfl | rfl | rfl | rfl
    · exact h.get a ha
    · exact h.get b hb
    · exact h.get c hc
    · exact h.get d hd
  · refine List.pairwise_cons.2 ⟨fun Y hY => ?_, List.pairwise_cons.2 ⟨fun Y hY => ?_, List.pairwise_cons.2 ⟨fun Y hY => ?_, List.pairwise_singleton _ _⟩⟩⟩
    · simp only [List.mem_cons, List.not_mem_nil, or_false] at hY
      rcases hY with rfl | rfl | rfl
      · exact hp a b _ _ ha hb h1
      · exact hp a c _ _ ha hc h2
      · exact hp a d _ _ ha hd h3
    · simp only [List.mem_cons, List.not_mem_nil, or_false] at hY
      rcases hY with rfl | rfl
      · exact hp b c _ _ hb hc h4
      · exact hp b d _ _ hb hd h5
    · simp only [List.mem_cons, List.not_mem_nil, or_false] at hY
      subst hY
      exact hp c d _ _ hc hd h6
theorem OwnL.pick2 {w W : World} {L : List Asn} (h : OwnL w W L) (a b : Nat) {A B : Asn} (ha : L[a]? = some A) (hb : L[b]? = some B) (hab : a ≠ b) : OwnL w W [A, B] := by
  refine ⟨h.ext, fun X hX => ?_, List.pairwise_cons.2 ⟨fun Y hY => ?_, List.pairwise_singleton _ _⟩⟩
  · simp only [List.mem_cons, List.not_mem_nil, or_false] at hX
    rcases hX with rfl | rfl
    · exact h.get a ha
    · exact h.get b hb
  · simp only [List.mem_cons, List.not_mem_nil, or_false] at hY
    subst hY
    obtain ⟨hil, hi'⟩ := List.getElem?_eq_some_iff.1 ha
    obtain ⟨hjl, hj'⟩ := List.getElem?_eq_some_iff.1 hb
    have hpw := List.pairwise_iff_getElem.1 h.apart
    intro z hx hy
    rcases Nat.lt_or_gt_of_ne hab with hlt | hlt
    · exact hpw a b hil hjl hlt z (by rw [hi']; exact hx) (by rw [hj']; exact hy)
    · exact hpw b a hjl hil hlt z (by rw [hj']; exact hy) (by rw [hi']; exact hx)
theorem own_form {W : World} {B e s n : Nat} {v : Value} {xs : List Value} (h : W.ownsRow B e s v n xs) : ∃ A c, v = .slice A n c := by
  obtain ⟨A, c, hv, _⟩ := cells_of_owns h
  exact ⟨A, c, hv⟩
theorem step_append_none {P : Program} {ops : Array Oper} {o : Oper} {a : Act} {w : World} {K : Act → World → Prop} {Q : Exit → Act → World → Prop} {E : Prop} (hgd : o.guard = none) (s x : Operand) (t : TypeId)
    (ho : o.op = .call { callee := .builtin .append, args := #[s, x], argTypes := #[t, t] })
    (base : Nat) (e : TypeId) (i : TypeInfo) (size : Nat) (ht : P.underlying t = some (.slice e)) (hi : P.info? e = some i)
    (v : Value) (n : Nat) (xs : List Value) (hs : a.eval s = v) (hown : w.ownsRow base e size v n xs) (hx : a.eval x = .slice none 0 0)
    (h : K (a.put o.dst v) w) : if Region.wanted o (yielded ops a.tmps) = true then Oper.wp P o a w K Q else E := by
  have hw : Region.wanted o (yielded ops a.tmps) = true := by simp [Region.wanted, hgd]
  rw [if_pos hw]
  have hrun := run_append_owned_none (P := P) (w := w) base t o.type e i size ht hi v n xs hown
  unfold Oper.wp
  simp [execOp, ho, resolve, invoke, builtin, hs, hx, hrun, Result.andThen]
  exact h
theorem all_ints (xs : List Int) : ∀ u ∈ xs.map (Value.int .i64), u.oneCell' = true := by
  intro u hu; obtain ⟨x, _, rfl⟩ := List.mem_map.1 hu; rfl
theorem tryE_keeps (c : Ent) (es : List Ent) (i : Nat) (x : Int) {n : Nat} (hn : n < es.length) : (tryE c es i x)[n]? = es[n]? := by
  unfold tryE
  split
  · rw [List.getElem?_append_left hn]
  · rfl
theorem rowAt_keeps (c : Ent) (row : List Int) (es : List Ent) : ∀ k n, n < es.length → (rowAt c row es k)[n]? = es[n]?
  | 0, _, _ => rfl
  | k + 1, n, hn => by
    show (tryE c (rowAt c row es k) k (row.getD k (-1)))[n]? = _
    rw [tryE_keeps _ _ _ _ (Nat.lt_of_lt_of_le hn (rowAt_len c row es k))]
    exact rowAt_keeps c row es k n hn
def atSt (es : List Ent) (x : Int) : Bool := es.any (fun e => (e.st : Int) == x)
theorem atSt_seen {es : List Ent} {x : Int} (hx : 0 ≤ x) : atSt es x = seenE es x.toNat := by
  unfold atSt seenE
  congr 1
  funext e
  by_cases h : e.st = x.toNat
  · rw [beq_iff_eq.2 h, beq_iff_eq.2 (show (e.st : Int) = x by omega)]
  · rw [beq_eq_false_iff_ne.2 h, beq_eq_false_iff_ne.2 (show (e.st : Int) ≠ x by omega)]
theorem atSt_neg (es : List Ent) : atSt es (-1) = false := by
  unfold atSt
  rw [List.any_eq_false]
  intro e _ h
  have := beq_iff_eq.1 h
  omega
theorem try_seen {c : Ent} {es : List Ent} {i : Nat} {x : Int} (hx : x = -1 ∨ 0 ≤ x) (h : atSt es x = true ∨ x = -1) : tryE c es i x = es := by
  unfold tryE
  rw [if_neg]
  rintro ⟨h1, h2⟩
  rcases h with h | h
  · rw [atSt_seen (by omega), h2] at h; cases h
  · exact h1 h
theorem try_new {c : Ent} {es : List Ent} {i : Nat} {x : Int} (hx : 0 ≤ x) (h : atSt es x = false) : tryE c es i x = es ++ [⟨x.toNat, c.st, i, c.way ++ [(i : Int)]⟩] := by
  unfold tryE
  rw [if_pos ⟨by omega, by rw [← atSt_seen hx]; exact h⟩]
theorem atSt_take {es : List Ent} {j : Nat} (hj : j < es.length) (x : Int) : atSt (es.take (j + 1)) x = (atSt (es.take j) x || ((es[j].st : Int) == x)) := by
  unfold atSt
  rw [List.take_succ_eq_append_getElem hj]
  simp only [List.any_append, List.any_cons, List.any_nil, Bool.or_false]
set_option maxRecDepth 100000 in
set_option maxHeartbeats 16000000 in
theorem refComes_any (w : World) (mv sv : Value) (m : Mach) (hm : MachV w mv m) (hV : Valid m) (set : List Bool) (cset : Nat) (hs : BoolsC w sv set cset) (hsl : set.length = m.rows.length) :
    Calls Try.prog 23 #[mv, sv] w fun e w' => (∃ v c, e = .returned (.tuple #[.int .i64 (if (comesL (toL m) set).1 then 0 else 1), v]) ∧ IntsC w' v (comesL (toL m) set).2 c) ∧ Ext w w' := by
  obtain ⟨rv, cr, rfl, hr⟩ := hm
  obtain ⟨Ar, vr, rfl, _, _, _, _, hrm⟩ := id hr
  obtain ⟨As, rfl, hsc, _, hsm⟩ := id hs
  unfold lenMax at hrm hsm
  obtain ⟨N, hN⟩ : ∃ N, N = m.rows.length := ⟨_, rfl⟩
  have hok := toL_ok hV
  have hml : (toL m).length = N := by rw [toL_len, hN]
  have hN64 : N ≤ 64 := by rw [hN]; exact hV.size.2
  have hN1 : 1 ≤ N := by rw [hN]; exact hV.size.1
  rw [← hN] at hsl hrm hr
  rw [hsl] at hsm hs
  rw [hsl, ← hN]
  have HN := Lib.hid (And.intro hN (And.intro hml hsl))
  have HV := Lib.hid hV
  have HOK := Lib.hid hok
  clear hN hml hsl hV hok
  obtain ⟨M, hM⟩ : ∃ M, M = toL m := ⟨_, rfl⟩
  rw [← hM]
  have HM := Lib.hid hM
  clear hM
  obtain ⟨CR, hCR⟩ : ∃ CR, CR = comesL M set := ⟨_, rfl⟩
  rw [← hCR]
  have HCR := Lib.hid hCR
  obtain ⟨CI, hCI⟩ : ∃ CI : Int, CI = if CR.1 then 0 else 1 := ⟨_, rfl⟩
  rw [← hCI]
  have HCI := Lib.hid hCI
  clear hCR hCI
  obtain ⟨i3, hi3, hz3, hs3, hb3⟩ := info_parts int_info
  obtain ⟨i37, hi37, hz37, hs37, hb37⟩ := info_parts ints_info
  go_enter Try.func23, Try.ntmps23
  go_upto_region 1 with fail
  refine wp_named ?_
  intro Wb hWb
  have hEb : Ext w Wb := by rw [hWb]; exact alloc_ext _ _
  have k0 : ∀ w', Ext Wb w' → w'.cell? ⟨w.heap.size, 0, none⟩ = some (.int .i64 m.ins) := fun w' h => h.cell (by rw [hWb]; simp [go_sem])
  have k2 : ∀ w', Ext Wb w' → w'.cell? ⟨w.heap.size, 2, none⟩ = some (.slice Ar N cr) := fun w' h => h.cell (by rw [hWb]; simp [go_sem])
  have HR := Lib.hid (hr.ext hEb)
  have HSC := Lib.hid (hsc.ext hEb)
  clear hWb hr hsc hs
  go_upto_region 2 with fail
  refine wp_named ?_
  intro W1 hW1
  have hO1 : OwnL Wb W1 [.row 3 1 (.slice (some ⟨Wb.heap.size, 0, none⟩) 1 1) 1 (ordE (stAt M 0)), .rows 37 3 1 (.slice (some ⟨Wb.heap.size + 1, 0, none⟩) 1 1) [.slice none 0 0] ((stAt M 0).map (fun e => intRow e.way))] := by
    rw [hW1]
    have a1 := (OwnL.nil (Ext.refl Wb)).add (alloc_ext _ _) (A := .row 3 1 (.slice (some ⟨Wb.heap.size, 0, none⟩) 1 1) 1 (ordE (stAt M 0))) (World.ownsRow_lit (base := Wb.heap.size) (e := 3) (size := 1) Wb #[.int .i64 0] 1 (Nat.le_refl _) (by unfold maxLen; omega) rfl)
    have hsz : (Wb.alloc (.cells #[.int .i64 0] 3)).heap.size = Wb.heap.size + 1 := by simp
    have hl := World.ownsRow_lit (base := (Wb.alloc (.cells #[.int .i64 0] 3)).heap.size) (e := 37) (size := 1) (Wb.alloc (.cells #[.int .i64 0] 3)) #[.slice none 0 0] 1 (Nat.le_refl _) (by unfold maxLen; omega) rfl
    rw [hsz] at hl
    have a2 := a1.add (alloc_ext _ (.cells #[.slice none 0 0] 37)) (A := .rows 37 3 1 (.slice (some ⟨Wb.heap.size + 1, 0, none⟩) 1 1) [.slice none 0 0] ((stAt M 0).map (fun e => intRow e.way))) (by
      rw [hsz]
      refine ⟨hl, rfl, fun j u r hj hr => ?_, fun i j u u' hi hj hij b hb => ?_, fun j u hj b hb => ?_⟩
      · match j, hj, hr with
        | 0, hj, hr => cases hj; cases hr; exact World.ownsRow_nil _ _ _ _
      · match i, hi with
        | 0, hi => cases hi; cases hb
      · match j, hj with
        | 0, hj => cases hj; cases hb)
    exact a2.swap
  have hE1 := hO1.ext
  have hc0 : comesF M set (M.length + 1 - 0) 0 = CR := HCR.out.symm
  have HC0 := Lib.hid hc0
  clear hW1 hc0
  go_wp2
  go_loopw [8, 6, 7] (fun i sv wv wr => ∃ (n : Nat) (vs : List Value), i = .int .i64 n ∧ n ≤ (stAt M n).length ∧ Ext Wb wr ∧ Hid (comesF M set (M.length + 1 - n) n = CR) ∧ OwnL Wb wr [.row 3 1 sv (stAt M n).length (ordE (stAt M n)), .rows 37 3 1 wv vs ((stAt M n).map (fun e => intRow e.way))]) (fun i _ _ _ => 100 - (intOf i).toNat)
  case atStart => exact ⟨0, _, rfl, by simp, hE1, HC0, hO1⟩
  case round =>
    clear hO1 hE1
    obtain ⟨n, vs, rfl, hn, hE, hC, hO⟩ := hrel
    obtain ⟨W3, hW3⟩ : ∃ W, W = wr := ⟨_, rfl⟩; subst hW3
    have hOK : OkM M := by rw [HM.out]; exact HOK.out
    have hML : M.length = N := by rw [HM.out]; exact HN.out.2.1
    have hinv := einv_st hOK n
    obtain ⟨es, hes⟩ : ∃ es, es = stAt M n := ⟨_, rfl⟩
    rw [← hes] at hinv hn hO
    have hlen := einv_len hinv
    rw [hML] at hinv hlen
    have HES := Lib.hid hes
    have hvl : vs.length = es.length := by have := (hO.get 1 rfl : OwnRows W3 Wb.heap.size 37 3 1 u7 vs (es.map (fun e => intRow e.way))).len; simpa using this
    have HOKM := Lib.hid (And.intro hOK hML)
    clear hes hOK hML
    by_cases hlt : n < es.length
    · have hltI : (n : Int) < (es.length : Int) := by omega
      obtain ⟨gs, cs', rfl⟩ := ownsRow_pos (hO.get 0 rfl : W3.ownsRow Wb.heap.size 3 1 u6 es.length (ordE es)) (by omega)
      obtain ⟨gw, cw, rfl⟩ := ownsRow_pos (hO.get 1 rfl : OwnRows W3 Wb.heap.size 37 3 1 u7 vs (es.map (fun e => intRow e.way))).own (by omega)
      rw [hvl] at hO ⊢
      obtain ⟨c, hc⟩ : ∃ c, es[n]? = some c := ⟨_, List.getElem?_eq_getElem hlt⟩
      have hcm : c ∈ es := List.mem_of_getElem? hc
      have hcs : c.st < N := hinv.lt c hcm
      have hcr : c.st < m.rows.length := by rw [← HN.out.1]; exact hcs
      have hwl : c.way.length < es.length := hinv.len c hcm
      obtain ⟨un, hun⟩ : ∃ un, vs[n]? = some un := ⟨_, List.getElem?_eq_getElem (by omega)⟩
      have hrn : (es.map (fun e => intRow e.way))[n]? = some (intRow c.way) := by rw [List.getElem?_map, hc]; rfl
      have hro : W3.ownsRow Wb.heap.size 3 1 un c.way.length (c.way.map (.int .i64)) := (hO.get 1 rfl : OwnRows W3 Wb.heap.size 37 3 1 (.slice (some ⟨gw, 0, none⟩) es.length cw) vs (es.map (fun e => intRow e.way))).each n un _ hun hrn
      have cst := cell_own hO 0 rfl (show (ordE es)[n]? = some (.int .i64 (c.st : Int)) by unfold ordE; rw [List.getElem?_map, hc]; rfl)
      have cwn := cell_rows' hO 1 rfl hun
      have hss : c.st < set.length := by rw [HN.out.2.2]; exact hcs
      obtain ⟨bs, os, hAs, _, cset0⟩ := HSC.out.at_bool hss
      obtain rfl : As = some ⟨bs, os, none⟩ := hAs
      have csx := hE.cell cset0
      have hsg : set.getD c.st false = set[c.st] := by simp [List.getD, hss]
      have hcI : (c.st : Int) < (N : Int) := by omega
      have hstep : comesF M set (M.length + 1 - n) n = if set.getD c.st false then (false, c.way) else comesF M set (M.length + 1 - (n + 1)) (n + 1) := comesF_some HOKM.out.1 (by rw [← HES.out]; exact hc)
      rw [hC.out, hsg] at hstep
      have HSTEP := Lib.hid hstep
      obtain ⟨Au, cu, rfl, hcu, hcc⟩ := cells_of_owns hro
      generalize set[c.st] = sb at *
      clear hsg hstep cset0 hss hC
      cases sb with
      | true =>
        have hcr2 : CR = (false, c.way) := by rw [HSTEP.out]; rfl
        have HIC : Hid (IntsC W3 (.slice Au c.way.length cu) c.way cu) := ⟨Au, rfl, hcc, hcu, by unfold lenMax; omega⟩
        have HC2 := Lib.hid hcr2
        clear hro hcc hO hcr2
        go_upto_region 6 with fail
        go_quiet (fail)
        go_wp2
        go_ret2
        refine ⟨⟨_, by rw [HCI.out, HC2.out]; rfl, cu, by rw [HC2.out]; exact HIC.out.ext ((Ext.refl W3).drewN _)⟩, hEb.trans (hE.drewN _)⟩
      | false =>
        go_upto_region 7 with fail
        have hnx : comesF M set (M.length + 1 - (n + 1)) (n + 1) = CR := HSTEP.out.symm
        have HNX := Lib.hid hnx
        clear hnx hro
        obtain ⟨b, o, us, cu2, hv, hbb, c0, hes2⟩ := HR.out.at_ hcr
        obtain rfl : Ar = some ⟨b, o, none⟩ := by injection hv
        have hre := row_eq hcr
        obtain ⟨Ae, rfl, hce, _, hme⟩ := hes2
        unfold lenMax at hme
        rw [← hre] at hce hme c0
        have hlenI : ((m.row c.st).length : Int) = m.ins := by rw [hre]; exact HV.out.len _ (List.getElem_mem hcr)
        obtain ⟨el, hel⟩ : ∃ el, el = (m.row c.st).length := ⟨_, rfl⟩
        rw [← hel] at c0 hme hlenI
        have hel16 : el ≤ 16 := by have := HV.out.ins; omega
        have g0 : ∀ w', Ext Wb w' → w'.cell? ⟨b, o + c.st, none⟩ = some (.slice Ae el cu2) := fun w' h => h.cell c0
        have k0e : ∀ w', Ext Wb w' → w'.cell? ⟨w.heap.size, 0, none⟩ = some (.int .i64 (el : Int)) := by rw [hlenI]; exact k0
        obtain ⟨rw_, hrw⟩ : ∃ rw_ : List Int, rw_ = (m.row c.st).map (fun e => e.1) := ⟨_, rfl⟩
        have hrl : rw_.length = el := by rw [hrw, hel]; simp
        have hrg : ∀ k, (hk : k < (m.row c.st).length) → rw_.getD k (-1) = (m.row c.st)[k].1 := fun k hk => by rw [hrw]; simp [List.getD, hk]
        have HRW := Lib.hid (And.intro hrg (And.intro hrl (And.intro hel hrw)))
        clear hre hel hrw hrl hrg hv hbb c0 k0 hlenI
        have hz : es = rowAt c rw_ es 0 := rfl
        have hOz : OwnL Wb W3 [.row 3 1 (.slice (some ⟨gs, 0, none⟩) es.length cs') (rowAt c rw_ es 0).length (ordE (rowAt c rw_ es 0)), .rows 37 3 1 (.slice (some ⟨gw, 0, none⟩) es.length cw) vs ((rowAt c rw_ es 0).map (fun e => intRow e.way))] := hO
        clear hO hz cwn cst csx
        have HUN : Hid (vs.length = es.length ∧ vs[n]? = some (.slice Au c.way.length cu)) := ⟨hvl, hun⟩
        have HCC := Lib.hid (And.intro hc (And.intro hcm hinv))
        clear hvl hun hcc hrn hcu hc hcm hinv
        go_wp2
        go_loopw [9, 6, 7] (fun i sv wv wr => ∃ (k : Nat) (vs2 : List Value), i = .int .i64 k ∧ k ≤ el ∧ Ext Wb wr ∧ vs2[n]? = some (.slice Au c.way.length cu) ∧ OwnL Wb wr [.row 3 1 sv (rowAt c rw_ es k).length (ordE (rowAt c rw_ es k)), .rows 37 3 1 wv vs2 ((rowAt c rw_ es k).map (fun e => intRow e.way))]) (fun i _ _ _ => el - (intOf i).toNat)
        case atStart => exact ⟨0, vs, rfl, by omega, hE, HUN.out.2, hOz⟩
        case round =>
          clear hOz hE
          obtain ⟨i, vs2, rfl, hi, hE, hun, hO⟩ := hrel
          obtain ⟨W5, hW5⟩ : ∃ W, W = wr := ⟨_, rfl⟩; subst hW5
          have k0w := k0e W5 hE
          by_cases hil : i < el
          · have hiI : (i : Int) < (el : Int) := by omega
            obtain ⟨es2, hes2⟩ : ∃ es2, es2 = rowAt c rw_ es i := ⟨_, rfl⟩
            have hei := einv_row (M := M) HOKM.out.1 (c := c) (es := es) (by rw [HOKM.out.2]; exact HCC.out.2.2) HCC.out.2.1 (row := rw_) (by
              rw [HRW.out.2.2.2, HM.out, ← toL_get m hcr]
              exact getD_memM (by rw [toL_len]; exact hcr)) i (by rw [HRW.out.2.1]; exact hi)
            rw [← hes2] at hei hO
            have hl2 := einv_len hei.1
            rw [HOKM.out.2] at hl2
            have hlt2 : n < es2.length := by
              have := rowAt_len c rw_ es i
              rw [← hes2] at this
              omega
            have hHES := Lib.hid hes2
            have hvl2 : vs2.length = es2.length := by have := (hO.get 1 rfl : OwnRows W5 Wb.heap.size 37 3 1 u7 vs2 (es2.map (fun e => intRow e.way))).len; simpa using this
            clear hes2
            obtain ⟨gs2, cs2, rfl⟩ := ownsRow_pos (hO.get 0 rfl : W5.ownsRow Wb.heap.size 3 1 u6 es2.length (ordE es2)) (by omega)
            obtain ⟨gw2, cw2, rfl⟩ := ownsRow_pos (hO.get 1 rfl : OwnRows W5 Wb.heap.size 37 3 1 u7 vs2 (es2.map (fun e => intRow e.way))).own (by omega)
            rw [hvl2] at hO ⊢
            have hce2 : es2[n]? = some c := by
              have := rowAt_keeps c rw_ es i n
              rw [hHES.out]
              rw [this hlt]; exact HCC.out.1
            have cst := cell_own hO 0 rfl (show (ordE es2)[n]? = some (.int .i64 (c.st : Int)) by unfold ordE; rw [List.getElem?_map, hce2]; rfl)
            have hltI2 : (n : Int) < (es2.length : Int) := by omega
            have g0w := g0 W5 hE
            have k2w := k2 W5 hE
            have hir : i < (m.row c.st).length := by rw [← HRW.out.2.2.1]; exact hil
            obtain ⟨be, oe, hAe, _, d0, d1⟩ := hce.at_edge hir
            obtain rfl : Ae = some ⟨be, oe, none⟩ := hAe
            have d0 := hE.cell d0
            have hfx := fit_to (HV.out.fit _ (List.getElem_mem hcr) (m.row c.st)[i] (mem_row_of hcr hir))
            have hrg := HRW.out.1 i hir
            have hto : (m.row c.st)[i].1 = -1 ∨ (0 ≤ (m.row c.st)[i].1 ∧ (m.row c.st)[i].1 < m.rows.length) := hfx
            generalize (m.row c.st)[i].1 = tx at *
            have HTO : Hid (rw_.getD i (-1) = tx) := hrg
            have HNEXT : Hid (rowAt c rw_ es (i + 1) = tryE c es2 i tx) := by
              show rowAt c rw_ es (i + 1) = _
              have : rowAt c rw_ es (i + 1) = tryE c (rowAt c rw_ es i) i (rw_.getD i (-1)) := rfl
              rw [this, HTO.out, ← hHES.out]
            have htb : -1 ≤ tx ∧ tx < 100 := by have := HN.out.1; omega
            clear hfx hrg d1 hir
            go_upto_region 10 with fail
            go_quiet (fail)
            go_upto_region 11 with fail
            refine wp_named ?_
            intro W6 hW6
            have e56 : Ext W5 W6 := by rw [hW6]; exact (Ext.refl W5).drewN _
            have hO6 := hO.trans e56
            have hE6 := hE.trans e56
            clear hW6 hO e56 cst d0 k0w g0w k2w
            obtain ⟨ln, hln⟩ : ∃ ln, ln = es2.length := ⟨_, rfl⟩
            rw [← hln] at hl2 hlt2 hvl2 hltI2 hO6 ⊢
            have HLN := Lib.hid hln
            clear hln
            go_wp2
            go_loopw [12, 11] (fun kk th wr => ∃ j : Nat, j ≤ ln ∧ kk = .int .i64 j ∧ th = .int .i64 (b01 (atSt (es2.take j) tx)) ∧ W6 = wr) (fun kk _ _ => ln - (intOf kk).toNat)
            case atStart => exact ⟨0, by omega, rfl, rfl, rfl⟩
            case round =>
              obtain ⟨j, hj, rfl, rfl, rfl⟩ := hrel
              by_cases hjl : j < ln
              · have hjI : (j : Int) < (ln : Int) := by omega
                have hje : j < es2.length := by rw [← HLN.out]; exact hjl
                have cj := cell_own hO6 0 rfl (show (ordE es2)[j]? = some (.int .i64 (es2[j].st : Int)) by unfold ordE; rw [List.getElem?_map, List.getElem?_eq_getElem hje]; rfl)
                have hta := atSt_take hje tx
                have HTA := Lib.hid hta
                generalize (es2[j].st : Int) = sj at *
                generalize atSt (es2.take j) tx = th at *
                clear hta hje
                by_cases hsj : sj = tx
                · have hb : (sj == tx) = true := by simpa using hsj
                  have HB := Lib.hid hb
                  clear hsj
                  go_wp2
                  go_roundw
                  case rel => exact ⟨j + 1, by omega, by go_num, by rw [HTA.out, HB.out, Bool.or_true]; rfl, trivial⟩
                  case measure => simp [intOf]; omega
                · have hb : (sj == tx) = false := by simpa using hsj
                  have HB := Lib.hid hb
                  clear hsj
                  go_wp2
                  go_roundw
                  case rel => exact ⟨j + 1, by omega, by go_num, by rw [HTA.out, HB.out, Bool.or_false], trivial⟩
                  case measure => simp [intOf]; omega
              · have hje : j = ln := by omega
                have hjI : ¬ (j : Int) < (ln : Int) := by omega
                have hta : atSt (es2.take j) tx = atSt es2 tx := by rw [List.take_of_length_le (by rw [← HLN.out]; omega)]
                rw [hta]
                clear hta
                cases hA : atSt es2 tx with
                | true =>
                  have hsame : rowAt c rw_ es (i + 1) = es2 := by rw [HNEXT.out]; exact try_seen (by omega) (.inl hA)
                  have HSM := Lib.hid hsame
                  clear hsame hA hje
                  have hb1 : b01 true = 1 := rfl
                  rw [hb1]
                  go_wp2
                  go_roundw
                  case rel => exact ⟨i + 1, vs2, by go_num, by omega, hE6, hun, by rw [HSM.out, ← HLN.out]; exact hO6⟩
                  case measure => simp [intOf]; omega
                | false =>
                  have hb1 : b01 false = 0 := rfl
                  rw [hb1]
                  by_cases htx : 0 ≤ tx
                  · have hnew : rowAt c rw_ es (i + 1) = es2 ++ [⟨tx.toNat, c.st, i, c.way ++ [(i : Int)]⟩] := by rw [HNEXT.out]; exact try_new htx hA
                    have HEL0 : Hid ((rowAt c rw_ es (i + 1)).length = ln + 1 ∧ ordE (rowAt c rw_ es (i + 1)) = ordE es2 ++ [.int .i64 tx] ∧ (rowAt c rw_ es (i + 1)).map (fun e => intRow e.way) = es2.map (fun e => intRow e.way) ++ [intRow (c.way ++ [(i : Int)])]) := by
                      show _ ∧ _ ∧ _
                      rw [hnew]
                      refine ⟨by rw [List.length_append, HLN.out]; rfl, ?_, by rw [List.map_append]; rfl⟩
                      unfold ordE
                      rw [List.map_append]
                      show _ ++ [Value.int .i64 ((tx.toNat : Nat) : Int)] = _
                      rw [Int.toNat_of_nonneg htx]
                    have hjn : vs2[n]? = some (.slice Au c.way.length cu) := hun
                    have HUN2 : Hid (vs2[n]? = some (.slice Au c.way.length cu)) := hun
                    have hjr : (es2.map (fun e => intRow e.way))[n]? = some (c.way.length, c.way.map (.int .i64)) := by rw [List.getElem?_map, hce2]; rfl
                    have hwl2 : c.way.length ≤ 64 := by omega
                    have HNA : Hid (∀ x : Value, (vs2 ++ [x])[n]? = vs2[n]?) := fun x => List.getElem?_append_left (by omega)
                    clear hA hje hnew hjI hj hun
                    go_upto_region 18 with fail
                    cases Au with
                    | none =>
                      have hw0 : c.way.length = 0 := (slice_nil_cap ((hO6.get 1 rfl : OwnRows W6 Wb.heap.size 37 3 1 (.slice (some ⟨gw2, 0, none⟩) ln cw2) vs2 (es2.map (fun e => intRow e.way))).each n _ _ hjn hjr) rfl).1
                      have hc0 : cu = 0 := (slice_nil_cap ((hO6.get 1 rfl : OwnRows W6 Wb.heap.size 37 3 1 (.slice (some ⟨gw2, 0, none⟩) ln cw2) vs2 (es2.map (fun e => intRow e.way))).each n _ _ hjn hjr) rfl).2
                      have hwn : c.way = [] := List.eq_nil_of_length_eq_zero hw0
                      have HEL : Hid ((rowAt c rw_ es (i + 1)).length = ln + 1 ∧ ordE (rowAt c rw_ es (i + 1)) = ordE es2 ++ [.int .i64 tx] ∧ (rowAt c rw_ es (i + 1)).map (fun e => intRow e.way) = es2.map (fun e => intRow e.way) ++ [(1, [.int .i64 (i : Int)])]) := by
                        have := HEL0.out
                        rw [hwn] at this
                        exact this
                      rw [hw0] at hjn
                      subst hc0
                      clear hwn hw0 hjr HEL0
                      refine wp_region_bar 15 (fun w => w.cell? ⟨gw2, n, none⟩ = some (.slice none 0 0)) (by kernel_rfl) ?_
                      obtain ⟨X0, hX⟩ : ∃ Y, Y = W6.drew := ⟨_, rfl⟩
                      have hO0 : OwnL Wb X0 [.row 3 1 (.slice (some ⟨gs2, 0, none⟩) ln cs2) ln (ordE es2), .rows 37 3 1 (.slice (some ⟨gw2, 0, none⟩) ln cw2) vs2 (es2.map (fun e => intRow e.way))] := by rw [hX]; exact hO6.trans (Ext.refl W6).drew
                      have hSX0 := cell_rows' hO0 1 rfl hjn
                      rw [← hX]
                      clear hX hO6
                      refine wpAnyB_take (i := 0) (v := ?_) rfl (by kernel_rfl) (by kernel_rfl) (by kernel_rfl) (by kernel_rfl) (fun _ _ _ h => h) (Or.inl ⟨by rfl, ?_⟩) hSX0 ?_
                      rotate_left
                      · (intro w hSw; go_simp; first | done | with_reducible rfl)
                      try simp only [Act.put, List.setIfInBounds_toArray, List.set_cons_zero, List.set_cons_succ]
                      refine wpAnyB_take (i := 1) (v := ?_) rfl (by kernel_rfl) (by kernel_rfl) (by kernel_rfl) (by kernel_rfl) (fun _ _ _ h => h) (Or.inl ⟨by rfl, ?_⟩) hSX0 ?_
                      rotate_left
                      · (intro w hSw; go_simp; first | done | with_reducible rfl)
                      try simp only [Act.put, List.setIfInBounds_toArray, List.set_cons_zero, List.set_cons_succ]
                      refine wpAnyB_take (i := 4) (v := ?_) rfl (by kernel_rfl) (by kernel_rfl) (by kernel_rfl) (by kernel_rfl) (fun _ _ _ h => h) (Or.inl ⟨by rfl, ?_⟩) hSX0 ?_
                      rotate_left
                      · (intro w hSw; go_simp; first | done | with_reducible rfl)
                      try simp only [Act.put, List.setIfInBounds_toArray, List.set_cons_zero, List.set_cons_succ]
                      refine wpAnyB_take (i := 6) (v := ?_) rfl (by kernel_rfl) (by kernel_rfl) (by kernel_rfl) (by kernel_rfl) (fun _ _ _ h => h) (Or.inl ⟨by rfl, ?_⟩) hSX0 ?_
                      rotate_left
                      · (intro w hSw; go_simp; first | done | with_reducible rfl)
                      try simp only [Act.put, List.setIfInBounds_toArray, List.set_cons_zero, List.set_cons_succ]
                      refine wpAnyB_take (i := 7) (v := ?_) rfl (by kernel_rfl) (by kernel_rfl) (by kernel_rfl) (by kernel_rfl) (fun _ _ _ h => h) (Or.inl ⟨by rfl, ?_⟩) hSX0 ?_
                      rotate_left
                      · (intro w hSw; go_simp; first | done | with_reducible rfl)
                      try simp only [Act.put, List.setIfInBounds_toArray, List.set_cons_zero, List.set_cons_succ]
                      refine wpAnyB_take (i := 8) (v := ?_) rfl (by kernel_rfl) (by kernel_rfl) (by kernel_rfl) (by kernel_rfl) (fun _ _ _ h => h) (Or.inl ⟨by rfl, ?_⟩) hSX0 ?_
                      rotate_left
                      · (intro w hSw; go_simp; first | done | with_reducible rfl)
                      try simp only [Act.put, List.setIfInBounds_toArray, List.set_cons_zero, List.set_cons_succ]
                      refine wpAnyB_take (i := 9) (v := ?_) rfl (by kernel_rfl) (by kernel_rfl) (by kernel_rfl) (by kernel_rfl) (fun _ _ _ h => h) (Or.inl ⟨by rfl, ?_⟩) hSX0 ?_
                      rotate_left
                      · (intro w hSw; go_simp; first | done | with_reducible rfl)
                      try simp only [Act.put, List.setIfInBounds_toArray, List.set_cons_zero, List.set_cons_succ]
                      refine wpAnyB_take (i := 11) (v := ?_) rfl (by kernel_rfl) (by kernel_rfl) (by kernel_rfl) (by kernel_rfl) (fun _ _ _ h => h) (Or.inl ⟨by rfl, ?_⟩) hSX0 ?_
                      rotate_left
                      · (intro w hSw; go_simp; first | done | with_reducible rfl)
                      try simp only [Act.put, List.setIfInBounds_toArray, List.set_cons_zero, List.set_cons_succ]
                      refine wpAnyB_ready (rs := [2, 5, 12]) (by kernel_rfl) (by simp) (AllB.cons rfl (fun K hK => ?_) (AllB.cons rfl (fun K hK => ?_) (AllB.cons rfl (fun K hK => ?_) AllB.nil)))
                      · skip
                        go_simp
                        refine hK.out _ _ ((alloc_ext _ _).cell hSX0) ?_
                        clear hK K
                        try simp only [Act.put, List.setIfInBounds_toArray, List.set_cons_zero, List.set_cons_succ]
                        obtain ⟨X1, hX⟩ : ∃ Y, Y = X0.alloc (.cells #[.int .i64 tx] 3) := ⟨_, rfl⟩
                        have hO1 := hO0.add (alloc_ext X0 (.cells #[.int .i64 tx] 3)) (A := .blk X0.heap.size (.cells #[.int .i64 tx] 3)) ⟨Nat.le_refl _, heap_alloc_new _ _⟩
                        rw [← hX] at hO1
                        have hSX1 : X1.cell? ⟨gw2, n, none⟩ = some (.slice none 0 0) := by rw [hX]; exact (alloc_ext _ _).cell hSX0
                        rw [← hX]
                        clear hX hO0 hSX0
                        refine wpAnyB_ready (rs := [3, 5, 12]) (by kernel_rfl) (by simp) (AllB.cons rfl (fun K hK => ?_) (AllB.cons rfl (fun K hK => ?_) (AllB.cons rfl (fun K hK => ?_) AllB.nil)))
                        · skip
                          refine step_append_own2 rfl _ _ 37 rfl Wb.heap.size 3 i3 (.int .i64 0) 1 8 Try.underlying37 hi3 hz3 hs3 hb3 rfl (by decide) (.slice (some ⟨gs2, 0, none⟩) ln cs2) ln (ordE es2) (by rfl) (hO1.get 1 rfl) ⟨_, 0, none⟩ 1 1 [.int .i64 tx] (by rfl) rfl (new_blk (hO1.get 0 rfl).2) (one_int _) (by unfold maxLen; omega) (by omega) hO1.ext.size ?_
                          intro v6 X2 hown6 hg6 hb6
                          obtain ⟨g6, c6, rfl⟩ := ownsRow_pos hown6 (by omega)
                          have hO2 := hO1.app 1 rfl hg6 hown6 hb6
                          have hO2 : OwnL Wb X2 [.blk X0.heap.size (.cells #[.int .i64 tx] 3), .row 3 1 (.slice (some ⟨g6, 0, none⟩) (ln + 1) c6) (ln + 1) (ordE es2 ++ [.int .i64 tx]), .rows 37 3 1 (.slice (some ⟨gw2, 0, none⟩) ln cw2) vs2 (es2.map (fun e => intRow e.way))] := hO2
                          have hSX2 := cell_rows' hO2 2 rfl hjn
                          refine hK.out _ _ hSX2 ?_
                          clear hK K hg6 hb6 hown6 hO1 hSX1
                          try simp only [Act.put, List.setIfInBounds_toArray, List.set_cons_zero, List.set_cons_succ]
                          refine wpAnyB_ready (rs := [5, 12]) (by kernel_rfl) (by simp) (AllB.cons rfl (fun K hK => ?_) (AllB.cons rfl (fun K hK => ?_) AllB.nil))
                          · skip
                            go_simp
                            refine hK.out _ _ ((alloc_ext _ _).cell hSX2) ?_
                            clear hK K
                            try simp only [Act.put, List.setIfInBounds_toArray, List.set_cons_zero, List.set_cons_succ]
                            obtain ⟨X3, hX⟩ : ∃ Y, Y = X2.alloc (.cells #[] 3) := ⟨_, rfl⟩
                            have hO3 := hO2.add (alloc_ext X2 (.cells #[] 3)) (A := .row 3 1 (.slice (some ⟨X2.heap.size, 0, none⟩) 0 0) 0 []) (World.ownsRow_lit (base := X2.heap.size) (e := 3) (size := 1) X2 #[] 0 (Nat.le_refl _) (by unfold maxLen; omega) rfl)
                            rw [← hX] at hO3
                            have hSX3 : X3.cell? ⟨gw2, n, none⟩ = some (.slice none 0 0) := by rw [hX]; exact (alloc_ext _ _).cell hSX2
                            rw [← hX]
                            clear hX hO2 hSX2
                            refine wpAnyB_ready (rs := [10, 12]) (by kernel_rfl) (by simp) (AllB.cons rfl (fun K hK => ?_) (AllB.cons rfl (fun K hK => ?_) AllB.nil))
                            · skip
                              refine step_append_none rfl _ _ 37 rfl Wb.heap.size 3 i3 1 Try.underlying37 hi3 (.slice (some ⟨X2.heap.size, 0, none⟩) 0 0) 0 [] (by rfl) (hO3.get 0 rfl) (by rfl) ?_
                              refine hK.out _ _ hSX3 ?_
                              clear hK K
                              try simp only [Act.put, List.setIfInBounds_toArray, List.set_cons_zero, List.set_cons_succ]
                              refine wpAnyB_ready (rs := [12]) (by kernel_rfl) (by simp) (AllB.cons rfl (fun K hK => ?_) AllB.nil)
                              go_simp
                              refine hK.out _ _ ((alloc_ext _ _).cell hSX3) ?_
                              clear hK K
                              try simp only [Act.put, List.setIfInBounds_toArray, List.set_cons_zero, List.set_cons_succ]
                              obtain ⟨X5, hX⟩ : ∃ Y, Y = X3.alloc (.cells #[.int .i64 (i : Int)] 3) := ⟨_, rfl⟩
                              have hO5 := hO3.add (alloc_ext X3 (.cells #[.int .i64 (i : Int)] 3)) (A := .blk X3.heap.size (.cells #[.int .i64 (i : Int)] 3)) ⟨Nat.le_refl _, heap_alloc_new _ _⟩
                              rw [← hX] at hO5
                              have hSX5 : X5.cell? ⟨gw2, n, none⟩ = some (.slice none 0 0) := by rw [hX]; exact (alloc_ext _ _).cell hSX3
                              rw [← hX]
                              clear hX hO3 hSX3
                              refine wpAnyB_ready (rs := [13]) (by kernel_rfl) (by simp) (AllB.cons rfl (fun K hK => ?_) AllB.nil)
                              refine step_append_own2 rfl _ _ 37 rfl Wb.heap.size 3 i3 (.int .i64 0) 1 8 Try.underlying37 hi3 hz3 hs3 hb3 rfl (by decide) (.slice (some ⟨X2.heap.size, 0, none⟩) 0 0) 0 [] (by rfl) (hO5.get 1 rfl) ⟨_, 0, none⟩ 1 1 [.int .i64 (i : Int)] (by rfl) rfl (new_blk (hO5.get 0 rfl).2) (one_int _) (by unfold maxLen; omega) (by omega) hO5.ext.size ?_
                              intro v13 X6 hown6 hg6 hb6
                              have hown6 : X6.ownsRow Wb.heap.size 3 1 v13 1 [.int .i64 (i : Int)] := hown6
                              obtain ⟨g13, c13, rfl⟩ := ownsRow_pos hown6 (by omega)
                              have hO6 := hO5.app 1 rfl hg6 hown6 hb6
                              have hO6 : OwnL Wb X6 [.blk X3.heap.size (.cells #[.int .i64 (i : Int)] 3), .row 3 1 (.slice (some ⟨g13, 0, none⟩) 1 c13) 1 [.int .i64 (i : Int)], .blk X0.heap.size (.cells #[.int .i64 tx] 3), .row 3 1 (.slice (some ⟨g6, 0, none⟩) (ln + 1) c6) (ln + 1) (ordE es2 ++ [.int .i64 tx]), .rows 37 3 1 (.slice (some ⟨gw2, 0, none⟩) ln cw2) vs2 (es2.map (fun e => intRow e.way))] := hO6
                              have hSX6 := cell_rows' hO6 4 rfl hjn
                              refine hK.out _ _ hSX6 ?_
                              clear hK K hg6 hb6 hown6 hO5 hSX5
                              try simp only [Act.put, List.setIfInBounds_toArray, List.set_cons_zero, List.set_cons_succ]
                              refine wpAnyB_ready (rs := [14]) (by kernel_rfl) (by simp) (AllB.cons rfl (fun K hK => ?_) AllB.nil)
                              go_simp
                              refine hK.out _ _ ((alloc_ext _ _).cell hSX6) ?_
                              clear hK K
                              try simp only [Act.put, List.setIfInBounds_toArray, List.set_cons_zero, List.set_cons_succ]
                              obtain ⟨X7, hX⟩ : ∃ Y, Y = X6.alloc (.cells #[.slice (some ⟨g13, 0, none⟩) 1 c13] 37) := ⟨_, rfl⟩
                              have hO7 := hO6.add (alloc_ext X6 (.cells #[.slice (some ⟨g13, 0, none⟩) 1 c13] 37)) (A := .blk X6.heap.size (.cells #[.slice (some ⟨g13, 0, none⟩) 1 c13] 37)) ⟨Nat.le_refl _, heap_alloc_new _ _⟩
                              rw [← hX] at hO7
                              have hSX7 : X7.cell? ⟨gw2, n, none⟩ = some (.slice none 0 0) := by rw [hX]; exact (alloc_ext _ _).cell hSX6
                              rw [← hX]
                              clear hX hO6 hSX6
                              refine wpAnyB_tail rfl rfl (by decide) (by kernel_rfl) ?_
                              have hT : OwnL Wb X7 [.row 3 1 (.slice (some ⟨g13, 0, none⟩) 1 c13) 1 [.int .i64 (i : Int)], .rows 37 3 1 (.slice (some ⟨gw2, 0, none⟩) ln cw2) vs2 (es2.map (fun e => intRow e.way)), .row 3 1 (.slice (some ⟨g6, 0, none⟩) (ln + 1) c6) (ln + 1) (ordE es2 ++ [.int .i64 tx]), .blk X6.heap.size (.cells #[.slice (some ⟨g13, 0, none⟩) 1 c13] 37)] := hO7.pick4 2 5 4 0 rfl rfl rfl rfl (by decide) (by decide) (by decide) (by decide) (by decide) (by decide)
                              clear hO7
                              have hownV := (hT.get 1 rfl : OwnRows X7 Wb.heap.size 37 3 1 (.slice (some ⟨gw2, 0, none⟩) ln cw2) vs2 (es2.map (fun e => intRow e.way))).own
                              rw [hvl2] at hownV
                              go_wp2_with (at_builtin; refine wpList_append_own2 rfl _ _ 75 rfl Wb.heap.size 37 i37 (.slice none 0 0) 1 24 Try.underlying75 hi37 hz37 hs37 hb37 rfl (by decide) (.slice (some ⟨gw2, 0, none⟩) ln cw2) ln vs2 (by rfl) hownV ⟨_, 0, none⟩ 1 1 [.slice (some ⟨g13, 0, none⟩) 1 c13] (by rfl) rfl (new_blk (hT.get 3 rfl).2) (one_slice _ _ _) (by unfold maxLen; omega) (by omega) hT.ext.size ?_; intro v7 w7 hown7 hg7 hb7)
                              have hp := (hT.push hg7 (by rw [hvl2]; exact hown7) hb7).pick2 1 0 rfl rfl (by decide)
                              go_roundw
                              case rel => exact ⟨i + 1, _, by go_num, by omega, hp.ext, (HNA.out _).trans HUN2.out, by rw [HEL.out.1, HEL.out.2.1, HEL.out.2.2]; exact hp⟩
                              case measure => simp [intOf]; omega
                            · skip
                              go_simp
                              refine hK.out _ _ ((alloc_ext _ _).cell hSX3) ?_
                              clear hK K
                              try simp only [Act.put, List.setIfInBounds_toArray, List.set_cons_zero, List.set_cons_succ]
                              obtain ⟨X8, hX⟩ : ∃ Y, Y = X3.alloc (.cells #[.int .i64 (i : Int)] 3) := ⟨_, rfl⟩
                              have hO8 := hO3.add (alloc_ext X3 (.cells #[.int .i64 (i : Int)] 3)) (A := .blk X3.heap.size (.cells #[.int .i64 (i : Int)] 3)) ⟨Nat.le_refl _, heap_alloc_new _ _⟩
                              rw [← hX] at hO8
                              have hSX8 : X8.cell? ⟨gw2, n, none⟩ = some (.slice none 0 0) := by rw [hX]; exact (alloc_ext _ _).cell hSX3
                              rw [← hX]
                              clear hX hO3 hSX3
                              refine wpAnyB_ready (rs := [10]) (by kernel_rfl) (by simp) (AllB.cons rfl (fun K hK => ?_) AllB.nil)
                              refine step_append_none rfl _ _ 37 rfl Wb.heap.size 3 i3 1 Try.underlying37 hi3 (.slice (some ⟨X2.heap.size, 0, none⟩) 0 0) 0 [] (by rfl) (hO8.get 1 rfl) (by rfl) ?_
                              refine hK.out _ _ hSX8 ?_
                              clear hK K
                              try simp only [Act.put, List.setIfInBounds_toArray, List.set_cons_zero, List.set_cons_succ]
                              refine wpAnyB_ready (rs := [13]) (by kernel_rfl) (by simp) (AllB.cons rfl (fun K hK => ?_) AllB.nil)
                              refine step_append_own2 rfl _ _ 37 rfl Wb.heap.size 3 i3 (.int .i64 0) 1 8 Try.underlying37 hi3 hz3 hs3 hb3 rfl (by decide) (.slice (some ⟨X2.heap.size, 0, none⟩) 0 0) 0 [] (by rfl) (hO8.get 1 rfl) ⟨_, 0, none⟩ 1 1 [.int .i64 (i : Int)] (by rfl) rfl (new_blk (hO8.get 0 rfl).2) (one_int _) (by unfold maxLen; omega) (by omega) hO8.ext.size ?_
                              intro v13 X10 hown6 hg6 hb6
                              have hown6 : X10.ownsRow Wb.heap.size 3 1 v13 1 [.int .i64 (i : Int)] := hown6
                              obtain ⟨g13, c13, rfl⟩ := ownsRow_pos hown6 (by omega)
                              have hO10 := hO8.app 1 rfl hg6 hown6 hb6
                              have hO10 : OwnL Wb X10 [.blk X3.heap.size (.cells #[.int .i64 (i : Int)] 3), .row 3 1 (.slice (some ⟨g13, 0, none⟩) 1 c13) 1 [.int .i64 (i : Int)], .blk X0.heap.size (.cells #[.int .i64 tx] 3), .row 3 1 (.slice (some ⟨g6, 0, none⟩) (ln + 1) c6) (ln + 1) (ordE es2 ++ [.int .i64 tx]), .rows 37 3 1 (.slice (some ⟨gw2, 0, none⟩) ln cw2) vs2 (es2.map (fun e => intRow e.way))] := hO10
                              have hSX10 := cell_rows' hO10 4 rfl hjn
                              refine hK.out _ _ hSX10 ?_
                              clear hK K hg6 hb6 hown6 hO8 hSX8
                              try simp only [Act.put, List.setIfInBounds_toArray, List.set_cons_zero, List.set_cons_succ]
                              refine wpAnyB_ready (rs := [14]) (by kernel_rfl) (by simp) (AllB.cons rfl (fun K hK => ?_) AllB.nil)
                              go_simp
                              refine hK.out _ _ ((alloc_ext _ _).cell hSX10) ?_
                              clear hK K
                              try simp only [Act.put, List.setIfInBounds_toArray, List.set_cons_zero, List.set_cons_succ]
                              obtain ⟨X11, hX⟩ : ∃ Y, Y = X10.alloc (.cells #[.slice (some ⟨g13, 0, none⟩) 1 c13] 37) := ⟨_, rfl⟩
                              have hO11 := hO10.add (alloc_ext X10 (.cells #[.slice (some ⟨g13, 0, none⟩) 1 c13] 37)) (A := .blk X10.heap.size (.cells #[.slice (some ⟨g13, 0, none⟩) 1 c13] 37)) ⟨Nat.le_refl _, heap_alloc_new _ _⟩
                              rw [← hX] at hO11
                              have hSX11 : X11.cell? ⟨gw2, n, none⟩ = some (.slice none 0 0) := by rw [hX]; exact (alloc_ext _ _).cell hSX10
                              rw [← hX]
                              clear hX hO10 hSX10
                              refine wpAnyB_tail rfl rfl (by decide) (by kernel_rfl) ?_
                              have hT : OwnL Wb X11 [.row 3 1 (.slice (some ⟨g13, 0, none⟩) 1 c13) 1 [.int .i64 (i : Int)], .rows 37 3 1 (.slice (some ⟨gw2, 0, none⟩) ln cw2) vs2 (es2.map (fun e => intRow e.way)), .row 3 1 (.slice (some ⟨g6, 0, none⟩) (ln + 1) c6) (ln + 1) (ordE es2 ++ [.int .i64 tx]), .blk X10.heap.size (.cells #[.slice (some ⟨g13, 0, none⟩) 1 c13] 37)] := hO11.pick4 2 5 4 0 rfl rfl rfl rfl (by decide) (by decide) (by decide) (by decide) (by decide) (by decide)
                              clear hO11
                              have hownV := (hT.get 1 rfl : OwnRows X11 Wb.heap.size 37 3 1 (.slice (some ⟨gw2, 0, none⟩) ln cw2) vs2 (es2.map (fun e => intRow e.way))).own
                              rw [hvl2] at hownV
                              go_wp2_with (at_builtin; refine wpList_append_own2 rfl _ _ 75 rfl Wb.heap.size 37 i37 (.slice none 0 0) 1 24 Try.underlying75 hi37 hz37 hs37 hb37 rfl (by decide) (.slice (some ⟨gw2, 0, none⟩) ln cw2) ln vs2 (by rfl) hownV ⟨_, 0, none⟩ 1 1 [.slice (some ⟨g13, 0, none⟩) 1 c13] (by rfl) rfl (new_blk (hT.get 3 rfl).2) (one_slice _ _ _) (by unfold maxLen; omega) (by omega) hT.ext.size ?_; intro v7 w7 hown7 hg7 hb7)
                              have hp := (hT.push hg7 (by rw [hvl2]; exact hown7) hb7).pick2 1 0 rfl rfl (by decide)
                              go_roundw
                              case rel => exact ⟨i + 1, _, by go_num, by omega, hp.ext, (HNA.out _).trans HUN2.out, by rw [HEL.out.1, HEL.out.2.1, HEL.out.2.2]; exact hp⟩
                              case measure => simp [intOf]; omega
                          · skip
                            go_simp
                            refine hK.out _ _ ((alloc_ext _ _).cell hSX2) ?_
                            clear hK K
                            try simp only [Act.put, List.setIfInBounds_toArray, List.set_cons_zero, List.set_cons_succ]
                            obtain ⟨X12, hX⟩ : ∃ Y, Y = X2.alloc (.cells #[.int .i64 (i : Int)] 3) := ⟨_, rfl⟩
                            have hO12 := hO2.add (alloc_ext X2 (.cells #[.int .i64 (i : Int)] 3)) (A := .blk X2.heap.size (.cells #[.int .i64 (i : Int)] 3)) ⟨Nat.le_refl _, heap_alloc_new _ _⟩
                            rw [← hX] at hO12
                            have hSX12 : X12.cell? ⟨gw2, n, none⟩ = some (.slice none 0 0) := by rw [hX]; exact (alloc_ext _ _).cell hSX2
                            rw [← hX]
                            clear hX hO2 hSX2
                            refine wpAnyB_ready (rs := [5]) (by kernel_rfl) (by simp) (AllB.cons rfl (fun K hK => ?_) AllB.nil)
                            go_simp
                            refine hK.out _ _ ((alloc_ext _ _).cell hSX12) ?_
                            clear hK K
                            try simp only [Act.put, List.setIfInBounds_toArray, List.set_cons_zero, List.set_cons_succ]
                            obtain ⟨X13, hX⟩ : ∃ Y, Y = X12.alloc (.cells #[] 3) := ⟨_, rfl⟩
                            have hO13 := hO12.add (alloc_ext X12 (.cells #[] 3)) (A := .row 3 1 (.slice (some ⟨X12.heap.size, 0, none⟩) 0 0) 0 []) (World.ownsRow_lit (base := X12.heap.size) (e := 3) (size := 1) X12 #[] 0 (Nat.le_refl _) (by unfold maxLen; omega) rfl)
                            rw [← hX] at hO13
                            have hSX13 : X13.cell? ⟨gw2, n, none⟩ = some (.slice none 0 0) := by rw [hX]; exact (alloc_ext _ _).cell hSX12
                            rw [← hX]
                            clear hX hO12 hSX12
                            refine wpAnyB_ready (rs := [10]) (by kernel_rfl) (by simp) (AllB.cons rfl (fun K hK => ?_) AllB.nil)
                            refine step_append_none rfl _ _ 37 rfl Wb.heap.size 3 i3 1 Try.underlying37 hi3 (.slice (some ⟨X12.heap.size, 0, none⟩) 0 0) 0 [] (by rfl) (hO13.get 0 rfl) (by rfl) ?_
                            refine hK.out _ _ hSX13 ?_
                            clear hK K
                            try simp only [Act.put, List.setIfInBounds_toArray, List.set_cons_zero, List.set_cons_succ]
                            refine wpAnyB_ready (rs := [13]) (by kernel_rfl) (by simp) (AllB.cons rfl (fun K hK => ?_) AllB.nil)
                            refine step_append_own2 rfl _ _ 37 rfl Wb.heap.size 3 i3 (.int .i64 0) 1 8 Try.underlying37 hi3 hz3 hs3 hb3 rfl (by decide) (.slice (some ⟨X12.heap.size, 0, none⟩) 0 0) 0 [] (by rfl) (hO13.get 0 rfl) ⟨_, 0, none⟩ 1 1 [.int .i64 (i : Int)] (by rfl) rfl (new_blk (hO13.get 1 rfl).2) (one_int _) (by unfold maxLen; omega) (by omega) hO13.ext.size ?_
                            intro v13 X15 hown6 hg6 hb6
                            have hown6 : X15.ownsRow Wb.heap.size 3 1 v13 1 [.int .i64 (i : Int)] := hown6
                            obtain ⟨g13, c13, rfl⟩ := ownsRow_pos hown6 (by omega)
                            have hO15 := hO13.app 0 rfl hg6 hown6 hb6
                            have hO15 : OwnL Wb X15 [.row 3 1 (.slice (some ⟨g13, 0, none⟩) 1 c13) 1 [.int .i64 (i : Int)], .blk X2.heap.size (.cells #[.int .i64 (i : Int)] 3), .blk X0.heap.size (.cells #[.int .i64 tx] 3), .row 3 1 (.slice (some ⟨g6, 0, none⟩) (ln + 1) c6) (ln + 1) (ordE es2 ++ [.int .i64 tx]), .rows 37 3 1 (.slice (some ⟨gw2, 0, none⟩) ln cw2) vs2 (es2.map (fun e => intRow e.way))] := hO15
                            have hSX15 := cell_rows' hO15 4 rfl hjn
                            refine hK.out _ _ hSX15 ?_
                            clear hK K hg6 hb6 hown6 hO13 hSX13
                            try simp only [Act.put, List.setIfInBounds_toArray, List.set_cons_zero, List.set_cons_succ]
                            refine wpAnyB_ready (rs := [14]) (by kernel_rfl) (by simp) (AllB.cons rfl (fun K hK => ?_) AllB.nil)
                            go_simp
                            refine hK.out _ _ ((alloc_ext _ _).cell hSX15) ?_
                            clear hK K
                            try simp only [Act.put, List.setIfInBounds_toArray, List.set_cons_zero, List.set_cons_succ]
                            obtain ⟨X16, hX⟩ : ∃ Y, Y = X15.alloc (.cells #[.slice (some ⟨g13, 0, none⟩) 1 c13] 37) := ⟨_, rfl⟩
                            have hO16 := hO15.add (alloc_ext X15 (.cells #[.slice (some ⟨g13, 0, none⟩) 1 c13] 37)) (A := .blk X15.heap.size (.cells #[.slice (some ⟨g13, 0, none⟩) 1 c13] 37)) ⟨Nat.le_refl _, heap_alloc_new _ _⟩
                            rw [← hX] at hO16
                            have hSX16 : X16.cell? ⟨gw2, n, none⟩ = some (.slice none 0 0) := by rw [hX]; exact (alloc_ext _ _).cell hSX15
                            rw [← hX]
                            clear hX hO15 hSX15
                            refine wpAnyB_tail rfl rfl (by decide) (by kernel_rfl) ?_
                            have hT : OwnL Wb X16 [.row 3 1 (.slice (some ⟨g13, 0, none⟩) 1 c13) 1 [.int .i64 (i : Int)], .rows 37 3 1 (.slice (some ⟨gw2, 0, none⟩) ln cw2) vs2 (es2.map (fun e => intRow e.way)), .row 3 1 (.slice (some ⟨g6, 0, none⟩) (ln + 1) c6) (ln + 1) (ordE es2 ++ [.int .i64 tx]), .blk X15.heap.size (.cells #[.slice (some ⟨g13, 0, none⟩) 1 c13] 37)] := hO16.pick4 1 5 4 0 rfl rfl rfl rfl (by decide) (by decide) (by decide) (by decide) (by decide) (by decide)
                            clear hO16
                            have hownV := (hT.get 1 rfl : OwnRows X16 Wb.heap.size 37 3 1 (.slice (some ⟨gw2, 0, none⟩) ln cw2) vs2 (es2.map (fun e => intRow e.way))).own
                            rw [hvl2] at hownV
                            go_wp2_with (at_builtin; refine wpList_append_own2 rfl _ _ 75 rfl Wb.heap.size 37 i37 (.slice none 0 0) 1 24 Try.underlying75 hi37 hz37 hs37 hb37 rfl (by decide) (.slice (some ⟨gw2, 0, none⟩) ln cw2) ln vs2 (by rfl) hownV ⟨_, 0, none⟩ 1 1 [.slice (some ⟨g13, 0, none⟩) 1 c13] (by rfl) rfl (new_blk (hT.get 3 rfl).2) (one_slice _ _ _) (by unfold maxLen; omega) (by omega) hT.ext.size ?_; intro v7 w7 hown7 hg7 hb7)
                            have hp := (hT.push hg7 (by rw [hvl2]; exact hown7) hb7).pick2 1 0 rfl rfl (by decide)
                            go_roundw
                            case rel => exact ⟨i + 1, _, by go_num, by omega, hp.ext, (HNA.out _).trans HUN2.out, by rw [HEL.out.1, HEL.out.2.1, HEL.out.2.2]; exact hp⟩
                            case measure => simp [intOf]; omega
                        · skip
                          go_simp
                          refine hK.out _ _ ((alloc_ext _ _).cell hSX1) ?_
                          clear hK K
                          try simp only [Act.put, List.setIfInBounds_toArray, List.set_cons_zero, List.set_cons_succ]
                          obtain ⟨X17, hX⟩ : ∃ Y, Y = X1.alloc (.cells #[] 3) := ⟨_, rfl⟩
                          have hO17 := hO1.add (alloc_ext X1 (.cells #[] 3)) (A := .row 3 1 (.slice (some ⟨X1.heap.size, 0, none⟩) 0 0) 0 []) (World.ownsRow_lit (base := X1.heap.size) (e := 3) (size := 1) X1 #[] 0 (Nat.le_refl _) (by unfold maxLen; omega) rfl)
                          rw [← hX] at hO17
                          have hSX17 : X17.cell? ⟨gw2, n, none⟩ = some (.slice none 0 0) := by rw [hX]; exact (alloc_ext _ _).cell hSX1
                          rw [← hX]
                          clear hX hO1 hSX1
                          refine wpAnyB_ready (rs := [3, 12]) (by kernel_rfl) (by simp) (AllB.cons rfl (fun K hK => ?_) (AllB.cons rfl (fun K hK => ?_) AllB.nil))
                          · skip
                            refine step_append_own2 rfl _ _ 37 rfl Wb.heap.size 3 i3 (.int .i64 0) 1 8 Try.underlying37 hi3 hz3 hs3 hb3 rfl (by decide) (.slice (some ⟨gs2, 0, none⟩) ln cs2) ln (ordE es2) (by rfl) (hO17.get 2 rfl) ⟨_, 0, none⟩ 1 1 [.int .i64 tx] (by rfl) rfl (new_blk (hO17.get 1 rfl).2) (one_int _) (by unfold maxLen; omega) (by omega) hO17.ext.size ?_
                            intro v6 X18 hown6 hg6 hb6
                            obtain ⟨g6, c6, rfl⟩ := ownsRow_pos hown6 (by omega)
                            have hO18 := hO17.app 2 rfl hg6 hown6 hb6
                            have hO18 : OwnL Wb X18 [.row 3 1 (.slice (some ⟨X1.heap.size, 0, none⟩) 0 0) 0 [], .blk X0.heap.size (.cells #[.int .i64 tx] 3), .row 3 1 (.slice (some ⟨g6, 0, none⟩) (ln + 1) c6) (ln + 1) (ordE es2 ++ [.int .i64 tx]), .rows 37 3 1 (.slice (some ⟨gw2, 0, none⟩) ln cw2) vs2 (es2.map (fun e => intRow e.way))] := hO18
                            have hSX18 := cell_rows' hO18 3 rfl hjn
                            refine hK.out _ _ hSX18 ?_
                            clear hK K hg6 hb6 hown6 hO17 hSX17
                            try simp only [Act.put, List.setIfInBounds_toArray, List.set_cons_zero, List.set_cons_succ]
                            refine wpAnyB_ready (rs := [10, 12]) (by kernel_rfl) (by simp) (AllB.cons rfl (fun K hK => ?_) (AllB.cons rfl (fun K hK => ?_) AllB.nil))
                            · skip
                              refine step_append_none rfl _ _ 37 rfl Wb.heap.size 3 i3 1 Try.underlying37 hi3 (.slice (some ⟨X1.heap.size, 0, none⟩) 0 0) 0 [] (by rfl) (hO18.get 0 rfl) (by rfl) ?_
                              refine hK.out _ _ hSX18 ?_
                              clear hK K
                              try simp only [Act.put, List.setIfInBounds_toArray, List.set_cons_zero, List.set_cons_succ]
                              refine wpAnyB_ready (rs := [12]) (by kernel_rfl) (by simp) (AllB.cons rfl (fun K hK => ?_) AllB.nil)
                              go_simp
                              refine hK.out _ _ ((alloc_ext _ _).cell hSX18) ?_
                              clear hK K
                              try simp only [Act.put, List.setIfInBounds_toArray, List.set_cons_zero, List.set_cons_succ]
                              obtain ⟨X20, hX⟩ : ∃ Y, Y = X18.alloc (.cells #[.int .i64 (i : Int)] 3) := ⟨_, rfl⟩
                              have hO20 := hO18.add (alloc_ext X18 (.cells #[.int .i64 (i : Int)] 3)) (A := .blk X18.heap.size (.cells #[.int .i64 (i : Int)] 3)) ⟨Nat.le_refl _, heap_alloc_new _ _⟩
                              rw [← hX] at hO20
                              have hSX20 : X20.cell? ⟨gw2, n, none⟩ = some (.slice none 0 0) := by rw [hX]; exact (alloc_ext _ _).cell hSX18
                              rw [← hX]
                              clear hX hO18 hSX18
                              refine wpAnyB_ready (rs := [13]) (by kernel_rfl) (by simp) (AllB.cons rfl (fun K hK => ?_) AllB.nil)
                              refine step_append_own2 rfl _ _ 37 rfl Wb.heap.size 3 i3 (.int .i64 0) 1 8 Try.underlying37 hi3 hz3 hs3 hb3 rfl (by decide) (.slice (some ⟨X1.heap.size, 0, none⟩) 0 0) 0 [] (by rfl) (hO20.get 1 rfl) ⟨_, 0, none⟩ 1 1 [.int .i64 (i : Int)] (by rfl) rfl (new_blk (hO20.get 0 rfl).2) (one_int _) (by unfold maxLen; omega) (by omega) hO20.ext.size ?_
                              intro v13 X21 hown6 hg6 hb6
                              have hown6 : X21.ownsRow Wb.heap.size 3 1 v13 1 [.int .i64 (i : Int)] := hown6
                              obtain ⟨g13, c13, rfl⟩ := ownsRow_pos hown6 (by omega)
                              have hO21 := hO20.app 1 rfl hg6 hown6 hb6
                              have hO21 : OwnL Wb X21 [.blk X18.heap.size (.cells #[.int .i64 (i : Int)] 3), .row 3 1 (.slice (some ⟨g13, 0, none⟩) 1 c13) 1 [.int .i64 (i : Int)], .blk X0.heap.size (.cells #[.int .i64 tx] 3), .row 3 1 (.slice (some ⟨g6, 0, none⟩) (ln + 1) c6) (ln + 1) (ordE es2 ++ [.int .i64 tx]), .rows 37 3 1 (.slice (some ⟨gw2, 0, none⟩) ln cw2) vs2 (es2.map (fun e => intRow e.way))] := hO21
                              have hSX21 := cell_rows' hO21 4 rfl hjn
                              refine hK.out _ _ hSX21 ?_
                              clear hK K hg6 hb6 hown6 hO20 hSX20
                              try simp only [Act.put, List.setIfInBounds_toArray, List.set_cons_zero, List.set_cons_succ]
                              refine wpAnyB_ready (rs := [14]) (by kernel_rfl) (by simp) (AllB.cons rfl (fun K hK => ?_) AllB.nil)
                              go_simp
                              refine hK.out _ _ ((alloc_ext _ _).cell hSX21) ?_
                              clear hK K
                              try simp only [Act.put, List.setIfInBounds_toArray, List.set_cons_zero, List.set_cons_succ]
                              obtain ⟨X22, hX⟩ : ∃ Y, Y = X21.alloc (.cells #[.slice (some ⟨g13, 0, none⟩) 1 c13] 37) := ⟨_, rfl⟩
                              have hO22 := hO21.add (alloc_ext X21 (.cells #[.slice (some ⟨g13, 0, none⟩) 1 c13] 37)) (A := .blk X21.heap.size (.cells #[.slice (some ⟨g13, 0, none⟩) 1 c13] 37)) ⟨Nat.le_refl _, heap_alloc_new _ _⟩
                              rw [← hX] at hO22
                              have hSX22 : X22.cell? ⟨gw2, n, none⟩ = some (.slice none 0 0) := by rw [hX]; exact (alloc_ext _ _).cell hSX21
                              rw [← hX]
                              clear hX hO21 hSX21
                              refine wpAnyB_tail rfl rfl (by decide) (by kernel_rfl) ?_
                              have hT : OwnL Wb X22 [.row 3 1 (.slice (some ⟨g13, 0, none⟩) 1 c13) 1 [.int .i64 (i : Int)], .rows 37 3 1 (.slice (some ⟨gw2, 0, none⟩) ln cw2) vs2 (es2.map (fun e => intRow e.way)), .row 3 1 (.slice (some ⟨g6, 0, none⟩) (ln + 1) c6) (ln + 1) (ordE es2 ++ [.int .i64 tx]), .blk X21.heap.size (.cells #[.slice (some ⟨g13, 0, none⟩) 1 c13] 37)] := hO22.pick4 2 5 4 0 rfl rfl rfl rfl (by decide) (by decide) (by decide) (by decide) (by decide) (by decide)
                              clear hO22
                              have hownV := (hT.get 1 rfl : OwnRows X22 Wb.heap.size 37 3 1 (.slice (some ⟨gw2, 0, none⟩) ln cw2) vs2 (es2.map (fun e => intRow e.way))).own
                              rw [hvl2] at hownV
                              go_wp2_with (at_builtin; refine wpList_append_own2 rfl _ _ 75 rfl Wb.heap.size 37 i37 (.slice none 0 0) 1 24 Try.underlying75 hi37 hz37 hs37 hb37 rfl (by decide) (.slice (some ⟨gw2, 0, none⟩) ln cw2) ln vs2 (by rfl) hownV ⟨_, 0, none⟩ 1 1 [.slice (some ⟨g13, 0, none⟩) 1 c13] (by rfl) rfl (new_blk (hT.get 3 rfl).2) (one_slice _ _ _) (by unfold maxLen; omega) (by omega) hT.ext.size ?_; intro v7 w7 hown7 hg7 hb7)
                              have hp := (hT.push hg7 (by rw [hvl2]; exact hown7) hb7).pick2 1 0 rfl rfl (by decide)
                              go_roundw
                              case rel => exact ⟨i + 1, _, by go_num, by omega, hp.ext, (HNA.out _).trans HUN2.out, by rw [HEL.out.1, HEL.out.2.1, HEL.out.2.2]; exact hp⟩
                              case measure => simp [intOf]; omega
                            · skip
                              go_simp
                              refine hK.out _ _ ((alloc_ext _ _).cell hSX18) ?_
                              clear hK K
                              try simp only [Act.put, List.setIfInBounds_toArray, List.set_cons_zero, List.set_cons_succ]
                              obtain ⟨X23, hX⟩ : ∃ Y, Y = X18.alloc (.cells #[.int .i64 (i : Int)] 3) := ⟨_, rfl⟩
                              have hO23 := hO18.add (alloc_ext X18 (.cells #[.int .i64 (i : Int)] 3)) (A := .blk X18.heap.size (.cells #[.int .i64 (i : Int)] 3)) ⟨Nat.le_refl _, heap_alloc_new _ _⟩
                              rw [← hX] at hO23
                              have hSX23 : X23.cell? ⟨gw2, n, none⟩ = some (.slice none 0 0) := by rw [hX]; exact (alloc_ext _ _).cell hSX18
                              rw [← hX]
                              clear hX hO18 hSX18
                              refine wpAnyB_ready (rs := [10]) (by kernel_rfl) (by simp) (AllB.cons rfl (fun K hK => ?_) AllB.nil)
                              refine step_append_none rfl _ _ 37 rfl Wb.heap.size 3 i3 1 Try.underlying37 hi3 (.slice (some ⟨X1.heap.size, 0, none⟩) 0 0) 0 [] (by rfl) (hO23.get 1 rfl) (by rfl) ?_
                              refine hK.out _ _ hSX23 ?_
                              clear hK K
                              try simp only [Act.put, List.setIfInBounds_toArray, List.set_cons_zero, List.set_cons_succ]
                              refine wpAnyB_ready (rs := [13]) (by kernel_rfl) (by simp) (AllB.cons rfl (fun K hK => ?_) AllB.nil)
                              refine step_append_own2 rfl _ _ 37 rfl Wb.heap.size 3 i3 (.int .i64 0) 1 8 Try.underlying37 hi3 hz3 hs3 hb3 rfl (by decide) (.slice (some ⟨X1.heap.size, 0, none⟩) 0 0) 0 [] (by rfl) (hO23.get 1 rfl) ⟨_, 0, none⟩ 1 1 [.int .i64 (i : Int)] (by rfl) rfl (new_blk (hO23.get 0 rfl).2) (one_int _) (by unfold maxLen; omega) (by omega) hO23.ext.size ?_
                              intro v13 X25 hown6 hg6 hb6
                              have hown6 : X25.ownsRow Wb.heap.size 3 1 v13 1 [.int .i64 (i : Int)] := hown6
                              obtain ⟨g13, c13, rfl⟩ := ownsRow_pos hown6 (by omega)
                              have hO25 := hO23.app 1 rfl hg6 hown6 hb6
                              have hO25 : OwnL Wb X25 [.blk X18.heap.size (.cells #[.int .i64 (i : Int)] 3), .row 3 1 (.slice (some ⟨g13, 0, none⟩) 1 c13) 1 [.int .i64 (i : Int)], .blk X0.heap.size (.cells #[.int .i64 tx] 3), .row 3 1 (.slice (some ⟨g6, 0, none⟩) (ln + 1) c6) (ln + 1) (ordE es2 ++ [.int .i64 tx]), .rows 37 3 1 (.slice (some ⟨gw2, 0, none⟩) ln cw2) vs2 (es2.map (fun e => intRow e.way))] := hO25
                              have hSX25 := cell_rows' hO25 4 rfl hjn
                              refine hK.out _ _ hSX25 ?_
                              clear hK K hg6 hb6 hown6 hO23 hSX23
                              try simp only [Act.put, List.setIfInBounds_toArray, List.set_cons_zero, List.set_cons_succ]
                              refine wpAnyB_ready (rs := [14]) (by kernel_rfl) (by simp) (AllB.cons rfl (fun K hK => ?_) AllB.nil)
                              go_simp
                              refine hK.out _ _ ((alloc_ext _ _).cell hSX25) ?_
                              clear hK K
                              try simp only [Act.put, List.setIfInBounds_toArray, List.set_cons_zero, List.set_cons_succ]
                              obtain ⟨X26, hX⟩ : ∃ Y, Y = X25.alloc (.cells #[.slice (some ⟨g13, 0, none⟩) 1 c13] 37) := ⟨_, rfl⟩
                              have hO26 := hO25.add (alloc_ext X25 (.cells #[.slice (some ⟨g13, 0, none⟩) 1 c13] 37)) (A := .blk X25.heap.size (.cells #[.slice (some ⟨g13, 0, none⟩) 1 c13] 37)) ⟨Nat.le_refl _, heap_alloc_new _ _⟩
                              rw [← hX] at hO26
                              have hSX26 : X26.cell? ⟨gw2, n, none⟩ = some (.slice none 0 0) := by rw [hX]; exact (alloc_ext _ _).cell hSX25
                              rw [← hX]
                              clear hX hO25 hSX25
                              refine wpAnyB_tail rfl rfl (by decide) (by kernel_rfl) ?_
                              have hT : OwnL Wb X26 [.row 3 1 (.slice (some ⟨g13, 0, none⟩) 1 c13) 1 [.int .i64 (i : Int)], .rows 37 3 1 (.slice (some ⟨gw2, 0, none⟩) ln cw2) vs2 (es2.map (fun e => intRow e.way)), .row 3 1 (.slice (some ⟨g6, 0, none⟩) (ln + 1) c6) (ln + 1) (ordE es2 ++ [.int .i64 tx]), .blk X25.heap.size (.cells #[.slice (some ⟨g13, 0, none⟩) 1 c13] 37)] := hO26.pick4 2 5 4 0 rfl rfl rfl rfl (by decide) (by decide) (by decide) (by decide) (by decide) (by decide)
                              clear hO26
                              have hownV := (hT.get 1 rfl : OwnRows X26 Wb.heap.size 37 3 1 (.slice (some ⟨gw2, 0, none⟩) ln cw2) vs2 (es2.map (fun e => intRow e.way))).own
                              rw [hvl2] at hownV
                              go_wp2_with (at_builtin; refine wpList_append_own2 rfl _ _ 75 rfl Wb.heap.size 37 i37 (.slice none 0 0) 1 24 Try.underlying75 hi37 hz37 hs37 hb37 rfl (by decide) (.slice (some ⟨gw2, 0, none⟩) ln cw2) ln vs2 (by rfl) hownV ⟨_, 0, none⟩ 1 1 [.slice (some ⟨g13, 0, none⟩) 1 c13] (by rfl) rfl (new_blk (hT.get 3 rfl).2) (one_slice _ _ _) (by unfold maxLen; omega) (by omega) hT.ext.size ?_; intro v7 w7 hown7 hg7 hb7)
                              have hp := (hT.push hg7 (by rw [hvl2]; exact hown7) hb7).pick2 1 0 rfl rfl (by decide)
                              go_roundw
                              case rel => exact ⟨i + 1, _, by go_num, by omega, hp.ext, (HNA.out _).trans HUN2.out, by rw [HEL.out.1, HEL.out.2.1, HEL.out.2.2]; exact hp⟩
                              case measure => simp [intOf]; omega
                          · skip
                            go_simp
                            refine hK.out _ _ ((alloc_ext _ _).cell hSX17) ?_
                            clear hK K
                            try simp only [Act.put, List.setIfInBounds_toArray, List.set_cons_zero, List.set_cons_succ]
                            obtain ⟨X27, hX⟩ : ∃ Y, Y = X17.alloc (.cells #[.int .i64 (i : Int)] 3) := ⟨_, rfl⟩
                            have hO27 := hO17.add (alloc_ext X17 (.cells #[.int .i64 (i : Int)] 3)) (A := .blk X17.heap.size (.cells #[.int .i64 (i : Int)] 3)) ⟨Nat.le_refl _, heap_alloc_new _ _⟩
                            rw [← hX] at hO27
                            have hSX27 : X27.cell? ⟨gw2, n, none⟩ = some (.slice none 0 0) := by rw [hX]; exact (alloc_ext _ _).cell hSX17
                            rw [← hX]
                            clear hX hO17 hSX17
                            refine wpAnyB_ready (rs := [3]) (by kernel_rfl) (by simp) (AllB.cons rfl (fun K hK => ?_) AllB.nil)
                            refine step_append_own2 rfl _ _ 37 rfl Wb.heap.size 3 i3 (.int .i64 0) 1 8 Try.underlying37 hi3 hz3 hs3 hb3 rfl (by decide) (.slice (some ⟨gs2, 0, none⟩) ln cs2) ln (ordE es2) (by rfl) (hO27.get 3 rfl) ⟨_, 0, none⟩ 1 1 [.int .i64 tx] (by rfl) rfl (new_blk (hO27.get 2 rfl).2) (one_int _) (by unfold maxLen; omega) (by omega) hO27.ext.size ?_
                            intro v6 X28 hown6 hg6 hb6
                            obtain ⟨g6, c6, rfl⟩ := ownsRow_pos hown6 (by omega)
                            have hO28 := hO27.app 3 rfl hg6 hown6 hb6
                            have hO28 : OwnL Wb X28 [.blk X17.heap.size (.cells #[.int .i64 (i : Int)] 3), .row 3 1 (.slice (some ⟨X1.heap.size, 0, none⟩) 0 0) 0 [], .blk X0.heap.size (.cells #[.int .i64 tx] 3), .row 3 1 (.slice (some ⟨g6, 0, none⟩) (ln + 1) c6) (ln + 1) (ordE es2 ++ [.int .i64 tx]), .rows 37 3 1 (.slice (some ⟨gw2, 0, none⟩) ln cw2) vs2 (es2.map (fun e => intRow e.way))] := hO28
                            have hSX28 := cell_rows' hO28 4 rfl hjn
                            refine hK.out _ _ hSX28 ?_
                            clear hK K hg6 hb6 hown6 hO27 hSX27
                            try simp only [Act.put, List.setIfInBounds_toArray, List.set_cons_zero, List.set_cons_succ]
                            refine wpAnyB_ready (rs := [10]) (by kernel_rfl) (by simp) (AllB.cons rfl (fun K hK => ?_) AllB.nil)
                            refine step_append_none rfl _ _ 37 rfl Wb.heap.size 3 i3 1 Try.underlying37 hi3 (.slice (some ⟨X1.heap.size, 0, none⟩) 0 0) 0 [] (by rfl) (hO28.get 1 rfl) (by rfl) ?_
                            refine hK.out _ _ hSX28 ?_
                            clear hK K
                            try simp only [Act.put, List.setIfInBounds_toArray, List.set_cons_zero, List.set_cons_succ]
                            refine wpAnyB_ready (rs := [13]) (by kernel_rfl) (by simp) (AllB.cons rfl (fun K hK => ?_) AllB.nil)
                            refine step_append_own2 rfl _ _ 37 rfl Wb.heap.size 3 i3 (.int .i64 0) 1 8 Try.underlying37 hi3 hz3 hs3 hb3 rfl (by decide) (.slice (some ⟨X1.heap.size, 0, none⟩) 0 0) 0 [] (by rfl) (hO28.get 1 rfl) ⟨_, 0, none⟩ 1 1 [.int .i64 (i : Int)] (by rfl) rfl (new_blk (hO28.get 0 rfl).2) (one_int _) (by unfold maxLen; omega) (by omega) hO28.ext.size ?_
                            intro v13 X30 hown6 hg6 hb6
                            have hown6 : X30.ownsRow Wb.heap.size 3 1 v13 1 [.int .i64 (i : Int)] := hown6
                            obtain ⟨g13, c13, rfl⟩ := ownsRow_pos hown6 (by omega)
                            have hO30 := hO28.app 1 rfl hg6 hown6 hb6
                            have hO30 : OwnL Wb X30 [.blk X17.heap.size (.cells #[.int .i64 (i : Int)] 3), .row 3 1 (.slice (some ⟨g13, 0, none⟩) 1 c13) 1 [.int .i64 (i : Int)], .blk X0.heap.size (.cells #[.int .i64 tx] 3), .row 3 1 (.slice (some ⟨g6, 0, none⟩) (ln + 1) c6) (ln + 1) (ordE es2 ++ [.int .i64 tx]), .rows 37 3 1 (.slice (some ⟨gw2, 0, none⟩) ln cw2) vs2 (es2.map (fun e => intRow e.way))] := hO30
                            have hSX30 := cell_rows' hO30 4 rfl hjn
                            refine hK.out _ _ hSX30 ?_
                            clear hK K hg6 hb6 hown6 hO28 hSX28
                            try simp only [Act.put, List.setIfInBounds_toArray, List.set_cons_zero, List.set_cons_succ]
                            refine wpAnyB_ready (rs := [14]) (by kernel_rfl) (by simp) (AllB.cons rfl (fun K hK => ?_) AllB.nil)
                            go_simp
                            refine hK.out _ _ ((alloc_ext _ _).cell hSX30) ?_
                            clear hK K
                            try simp only [Act.put, List.setIfInBounds_toArray, List.set_cons_zero, List.set_cons_succ]
                            obtain ⟨X31, hX⟩ : ∃ Y, Y = X30.alloc (.cells #[.slice (some ⟨g13, 0, none⟩) 1 c13] 37) := ⟨_, rfl⟩
                            have hO31 := hO30.add (alloc_ext X30 (.cells #[.slice (some ⟨g13, 0, none⟩) 1 c13] 37)) (A := .blk X30.heap.size (.cells #[.slice (some ⟨g13, 0, none⟩) 1 c13] 37)) ⟨Nat.le_refl _, heap_alloc_new _ _⟩
                            rw [← hX] at hO31
                            have hSX31 : X31.cell? ⟨gw2, n, none⟩ = some (.slice none 0 0) := by rw [hX]; exact (alloc_ext _ _).cell hSX30
                            rw [← hX]
                            clear hX hO30 hSX30
                            refine wpAnyB_tail rfl rfl (by decide) (by kernel_rfl) ?_
                            have hT : OwnL Wb X31 [.row 3 1 (.slice (some ⟨g13, 0, none⟩) 1 c13) 1 [.int .i64 (i : Int)], .rows 37 3 1 (.slice (some ⟨gw2, 0, none⟩) ln cw2) vs2 (es2.map (fun e => intRow e.way)), .row 3 1 (.slice (some ⟨g6, 0, none⟩) (ln + 1) c6) (ln + 1) (ordE es2 ++ [.int .i64 tx]), .blk X30.heap.size (.cells #[.slice (some ⟨g13, 0, none⟩) 1 c13] 37)] := hO31.pick4 2 5 4 0 rfl rfl rfl rfl (by decide) (by decide) (by decide) (by decide) (by decide) (by decide)
                            clear hO31
                            have hownV := (hT.get 1 rfl : OwnRows X31 Wb.heap.size 37 3 1 (.slice (some ⟨gw2, 0, none⟩) ln cw2) vs2 (es2.map (fun e => intRow e.way))).own
                            rw [hvl2] at hownV
                            go_wp2_with (at_builtin; refine wpList_append_own2 rfl _ _ 75 rfl Wb.heap.size 37 i37 (.slice none 0 0) 1 24 Try.underlying75 hi37 hz37 hs37 hb37 rfl (by decide) (.slice (some ⟨gw2, 0, none⟩) ln cw2) ln vs2 (by rfl) hownV ⟨_, 0, none⟩ 1 1 [.slice (some ⟨g13, 0, none⟩) 1 c13] (by rfl) rfl (new_blk (hT.get 3 rfl).2) (one_slice _ _ _) (by unfold maxLen; omega) (by omega) hT.ext.size ?_; intro v7 w7 hown7 hg7 hb7)
                            have hp := (hT.push hg7 (by rw [hvl2]; exact hown7) hb7).pick2 1 0 rfl rfl (by decide)
                            go_roundw
                            case rel => exact ⟨i + 1, _, by go_num, by omega, hp.ext, (HNA.out _).trans HUN2.out, by rw [HEL.out.1, HEL.out.2.1, HEL.out.2.2]; exact hp⟩
                            case measure => simp [intOf]; omega
                        · skip
                          go_simp
                          refine hK.out _ _ ((alloc_ext _ _).cell hSX1) ?_
                          clear hK K
                          try simp only [Act.put, List.setIfInBounds_toArray, List.set_cons_zero, List.set_cons_succ]
                          obtain ⟨X32, hX⟩ : ∃ Y, Y = X1.alloc (.cells #[.int .i64 (i : Int)] 3) := ⟨_, rfl⟩
                          have hO32 := hO1.add (alloc_ext X1 (.cells #[.int .i64 (i : Int)] 3)) (A := .blk X1.heap.size (.cells #[.int .i64 (i : Int)] 3)) ⟨Nat.le_refl _, heap_alloc_new _ _⟩
                          rw [← hX] at hO32
                          have hSX32 : X32.cell? ⟨gw2, n, none⟩ = some (.slice none 0 0) := by rw [hX]; exact (alloc_ext _ _).cell hSX1
                          rw [← hX]
                          clear hX hO1 hSX1
                          refine wpAnyB_ready (rs := [3, 5]) (by kernel_rfl) (by simp) (AllB.cons rfl (fun K hK => ?_) (AllB.cons rfl (fun K hK => ?_) AllB.nil))
                          · skip
                            refine step_append_own2 rfl _ _ 37 rfl Wb.heap.size 3 i3 (.int .i64 0) 1 8 Try.underlying37 hi3 hz3 hs3 hb3 rfl (by decide) (.slice (some ⟨gs2, 0, none⟩) ln cs2) ln (ordE es2) (by rfl) (hO32.get 2 rfl) ⟨_, 0, none⟩ 1 1 [.int .i64 tx] (by rfl) rfl (new_blk (hO32.get 1 rfl).2) (one_int _) (by unfold maxLen; omega) (by omega) hO32.ext.size ?_
                            intro v6 X33 hown6 hg6 hb6
                            obtain ⟨g6, c6, rfl⟩ := ownsRow_pos hown6 (by omega)
                            have hO33 := hO32.app 2 rfl hg6 hown6 hb6
                            have hO33 : OwnL Wb X33 [.blk X1.heap.size (.cells #[.int .i64 (i : Int)] 3), .blk X0.heap.size (.cells #[.int .i64 tx] 3), .row 3 1 (.slice (some ⟨g6, 0, none⟩) (ln + 1) c6) (ln + 1) (ordE es2 ++ [.int .i64 tx]), .rows 37 3 1 (.slice (some ⟨gw2, 0, none⟩) ln cw2) vs2 (es2.map (fun e => intRow e.way))] := hO33
                            have hSX33 := cell_rows' hO33 3 rfl hjn
                            refine hK.out _ _ hSX33 ?_
                            clear hK K hg6 hb6 hown6 hO32 hSX32
                            try simp only [Act.put, List.setIfInBounds_toArray, List.set_cons_zero, List.set_cons_succ]
                            refine wpAnyB_ready (rs := [5]) (by kernel_rfl) (by simp) (AllB.cons rfl (fun K hK => ?_) AllB.nil)
                            go_simp
                            refine hK.out _ _ ((alloc_ext _ _).cell hSX33) ?_
                            clear hK K
                            try simp only [Act.put, List.setIfInBounds_toArray, List.set_cons_zero, List.set_cons_succ]
                            obtain ⟨X34, hX⟩ : ∃ Y, Y = X33.alloc (.cells #[] 3) := ⟨_, rfl⟩
                            have hO34 := hO33.add (alloc_ext X33 (.cells #[] 3)) (A := .row 3 1 (.slice (some ⟨X33.heap.size, 0, none⟩) 0 0) 0 []) (World.ownsRow_lit (base := X33.heap.size) (e := 3) (size := 1) X33 #[] 0 (Nat.le_refl _) (by unfold maxLen; omega) rfl)
                            rw [← hX] at hO34
                            have hSX34 : X34.cell? ⟨gw2, n, none⟩ = some (.slice none 0 0) := by rw [hX]; exact (alloc_ext _ _).cell hSX33
                            rw [← hX]
                            clear hX hO33 hSX33
                            refine wpAnyB_ready (rs := [10]) (by kernel_rfl) (by simp) (AllB.cons rfl (fun K hK => ?_) AllB.nil)
                            refine step_append_none rfl _ _ 37 rfl Wb.heap.size 3 i3 1 Try.underlying37 hi3 (.slice (some ⟨X33.heap.size, 0, none⟩) 0 0) 0 [] (by rfl) (hO34.get 0 rfl) (by rfl) ?_
                            refine hK.out _ _ hSX34 ?_
                            clear hK K
                            try simp only [Act.put, List.setIfInBounds_toArray, List.set_cons_zero, List.set_cons_succ]
                            refine wpAnyB_ready (rs := [13]) (by kernel_rfl) (by simp) (AllB.cons rfl (fun K hK => ?_) AllB.nil)
                            refine step_append_own2 rfl _ _ 37 rfl Wb.heap.size 3 i3 (.int .i64 0) 1 8 Try.underlying37 hi3 hz3 hs3 hb3 rfl (by decide) (.slice (some ⟨X33.heap.size, 0, none⟩) 0 0) 0 [] (by rfl) (hO34.get 0 rfl) ⟨_, 0, none⟩ 1 1 [.int .i64 (i : Int)] (by rfl) rfl (new_blk (hO34.get 1 rfl).2) (one_int _) (by unfold maxLen; omega) (by omega) hO34.ext.size ?_
                            intro v13 X36 hown6 hg6 hb6
                            have hown6 : X36.ownsRow Wb.heap.size 3 1 v13 1 [.int .i64 (i : Int)] := hown6
                            obtain ⟨g13, c13, rfl⟩ := ownsRow_pos hown6 (by omega)
                            have hO36 := hO34.app 0 rfl hg6 hown6 hb6
                            have hO36 : OwnL Wb X36 [.row 3 1 (.slice (some ⟨g13, 0, none⟩) 1 c13) 1 [.int .i64 (i : Int)], .blk X1.heap.size (.cells #[.int .i64 (i : Int)] 3), .blk X0.heap.size (.cells #[.int .i64 tx] 3), .row 3 1 (.slice (some ⟨g6, 0, none⟩) (ln + 1) c6) (ln + 1) (ordE es2 ++ [.int .i64 tx]), .rows 37 3 1 (.slice (some ⟨gw2, 0, none⟩) ln cw2) vs2 (es2.map (fun e => intRow e.way))] := hO36
                            have hSX36 := cell_rows' hO36 4 rfl hjn
                            refine hK.out _ _ hSX36 ?_
                            clear hK K hg6 hb6 hown6 hO34 hSX34
                            try simp only [Act.put, List.setIfInBounds_toArray, List.set_cons_zero, List.set_cons_succ]
                            refine wpAnyB_ready (rs := [14]) (by kernel_rfl) (by simp) (AllB.cons rfl (fun K hK => ?_) AllB.nil)
                            go_simp
                            refine hK.out _ _ ((alloc_ext _ _).cell hSX36) ?_
                            clear hK K
                            try simp only [Act.put, List.setIfInBounds_toArray, List.set_cons_zero, List.set_cons_succ]
                            obtain ⟨X37, hX⟩ : ∃ Y, Y = X36.alloc (.cells #[.slice (some ⟨g13, 0, none⟩) 1 c13] 37) := ⟨_, rfl⟩
                            have hO37 := hO36.add (alloc_ext X36 (.cells #[.slice (some ⟨g13, 0, none⟩) 1 c13] 37)) (A := .blk X36.heap.size (.cells #[.slice (some ⟨g13, 0, none⟩) 1 c13] 37)) ⟨Nat.le_refl _, heap_alloc_new _ _⟩
                            rw [← hX] at hO37
                            have hSX37 : X37.cell? ⟨gw2, n, none⟩ = some (.slice none 0 0) := by rw [hX]; exact (alloc_ext _ _).cell hSX36
                            rw [← hX]
                            clear hX hO36 hSX36
                            refine wpAnyB_tail rfl rfl (by decide) (by kernel_rfl) ?_
                            have hT : OwnL Wb X37 [.row 3 1 (.slice (some ⟨g13, 0, none⟩) 1 c13) 1 [.int .i64 (i : Int)], .rows 37 3 1 (.slice (some ⟨gw2, 0, none⟩) ln cw2) vs2 (es2.map (fun e => intRow e.way)), .row 3 1 (.slice (some ⟨g6, 0, none⟩) (ln + 1) c6) (ln + 1) (ordE es2 ++ [.int .i64 tx]), .blk X36.heap.size (.cells #[.slice (some ⟨g13, 0, none⟩) 1 c13] 37)] := hO37.pick4 1 5 4 0 rfl rfl rfl rfl (by decide) (by decide) (by decide) (by decide) (by decide) (by decide)
                            clear hO37
                            have hownV := (hT.get 1 rfl : OwnRows X37 Wb.heap.size 37 3 1 (.slice (some ⟨gw2, 0, none⟩) ln cw2) vs2 (es2.map (fun e => intRow e.way))).own
                            rw [hvl2] at hownV
                            go_wp2_with (at_builtin; refine wpList_append_own2 rfl _ _ 75 rfl Wb.heap.size 37 i37 (.slice none 0 0) 1 24 Try.underlying75 hi37 hz37 hs37 hb37 rfl (by decide) (.slice (some ⟨gw2, 0, none⟩) ln cw2) ln vs2 (by rfl) hownV ⟨_, 0, none⟩ 1 1 [.slice (some ⟨g13, 0, none⟩) 1 c13] (by rfl) rfl (new_blk (hT.get 3 rfl).2) (one_slice _ _ _) (by unfold maxLen; omega) (by omega) hT.ext.size ?_; intro v7 w7 hown7 hg7 hb7)
                            have hp := (hT.push hg7 (by rw [hvl2]; exact hown7) hb7).pick2 1 0 rfl rfl (by decide)
                            go_roundw
                            case rel => exact ⟨i + 1, _, by go_num, by omega, hp.ext, (HNA.out _).trans HUN2.out, by rw [HEL.out.1, HEL.out.2.1, HEL.out.2.2]; exact hp⟩
                            case measure => simp [intOf]; omega
                          · skip
                            go_simp
                            refine hK.out _ _ ((alloc_ext _ _).cell hSX32) ?_
                            clear hK K
                            try simp only [Act.put, List.setIfInBounds_toArray, List.set_cons_zero, List.set_cons_succ]
                            obtain ⟨X38, hX⟩ : ∃ Y, Y = X32.alloc (.cells #[] 3) := ⟨_, rfl⟩
                            have hO38 := hO32.add (alloc_ext X32 (.cells #[] 3)) (A := .row 3 1 (.slice (some ⟨X32.heap.size, 0, none⟩) 0 0) 0 []) (World.ownsRow_lit (base := X32.heap.size) (e := 3) (size := 1) X32 #[] 0 (Nat.le_refl _) (by unfold maxLen; omega) rfl)
                            rw [← hX] at hO38
                            have hSX38 : X38.cell? ⟨gw2, n, none⟩ = some (.slice none 0 0) := by rw [hX]; exact (alloc_ext _ _).cell hSX32
                            rw [← hX]
                            clear hX hO32 hSX32
                            refine wpAnyB_ready (rs := [3]) (by kernel_rfl) (by simp) (AllB.cons rfl (fun K hK => ?_) AllB.nil)
                            refine step_append_own2 rfl _ _ 37 rfl Wb.heap.size 3 i3 (.int .i64 0) 1 8 Try.underlying37 hi3 hz3 hs3 hb3 rfl (by decide) (.slice (some ⟨gs2, 0, none⟩) ln cs2) ln (ordE es2) (by rfl) (hO38.get 3 rfl) ⟨_, 0, none⟩ 1 1 [.int .i64 tx] (by rfl) rfl (new_blk (hO38.get 2 rfl).2) (one_int _) (by unfold maxLen; omega) (by omega) hO38.ext.size ?_
                            intro v6 X39 hown6 hg6 hb6
                            obtain ⟨g6, c6, rfl⟩ := ownsRow_pos hown6 (by omega)
                            have hO39 := hO38.app 3 rfl hg6 hown6 hb6
                            have hO39 : OwnL Wb X39 [.row 3 1 (.slice (some ⟨X32.heap.size, 0, none⟩) 0 0) 0 [], .blk X1.heap.size (.cells #[.int .i64 (i : Int)] 3), .blk X0.heap.size (.cells #[.int .i64 tx] 3), .row 3 1 (.slice (some ⟨g6, 0, none⟩) (ln + 1) c6) (ln + 1) (ordE es2 ++ [.int .i64 tx]), .rows 37 3 1 (.slice (some ⟨gw2, 0, none⟩) ln cw2) vs2 (es2.map (fun e => intRow e.way))] := hO39
                            have hSX39 := cell_rows' hO39 4 rfl hjn
                            refine hK.out _ _ hSX39 ?_
                            clear hK K hg6 hb6 hown6 hO38 hSX38
                            try simp only [Act.put, List.setIfInBounds_toArray, List.set_cons_zero, List.set_cons_succ]
                            refine wpAnyB_ready (rs := [10]) (by kernel_rfl) (by simp) (AllB.cons rfl (fun K hK => ?_) AllB.nil)
                            refine step_append_none rfl _ _ 37 rfl Wb.heap.size 3 i3 1 Try.underlying37 hi3 (.slice (some ⟨X32.heap.size, 0, none⟩) 0 0) 0 [] (by rfl) (hO39.get 0 rfl) (by rfl) ?_
                            refine hK.out _ _ hSX39 ?_
                            clear hK K
                            try simp only [Act.put, List.setIfInBounds_toArray, List.set_cons_zero, List.set_cons_succ]
                            refine wpAnyB_ready (rs := [13]) (by kernel_rfl) (by simp) (AllB.cons rfl (fun K hK => ?_) AllB.nil)
                            refine step_append_own2 rfl _ _ 37 rfl Wb.heap.size 3 i3 (.int .i64 0) 1 8 Try.underlying37 hi3 hz3 hs3 hb3 rfl (by decide) (.slice (some ⟨X32.heap.size, 0, none⟩) 0 0) 0 [] (by rfl) (hO39.get 0 rfl) ⟨_, 0, none⟩ 1 1 [.int .i64 (i : Int)] (by rfl) rfl (new_blk (hO39.get 1 rfl).2) (one_int _) (by unfold maxLen; omega) (by omega) hO39.ext.size ?_
                            intro v13 X41 hown6 hg6 hb6
                            have hown6 : X41.ownsRow Wb.heap.size 3 1 v13 1 [.int .i64 (i : Int)] := hown6
                            obtain ⟨g13, c13, rfl⟩ := ownsRow_pos hown6 (by omega)
                            have hO41 := hO39.app 0 rfl hg6 hown6 hb6
                            have hO41 : OwnL Wb X41 [.row 3 1 (.slice (some ⟨g13, 0, none⟩) 1 c13) 1 [.int .i64 (i : Int)], .blk X1.heap.size (.cells #[.int .i64 (i : Int)] 3), .blk X0.heap.size (.cells #[.int .i64 tx] 3), .row 3 1 (.slice (some ⟨g6, 0, none⟩) (ln + 1) c6) (ln + 1) (ordE es2 ++ [.int .i64 tx]), .rows 37 3 1 (.slice (some ⟨gw2, 0, none⟩) ln cw2) vs2 (es2.map (fun e => intRow e.way))] := hO41
                            have hSX41 := cell_rows' hO41 4 rfl hjn
                            refine hK.out _ _ hSX41 ?_
                            clear hK K hg6 hb6 hown6 hO39 hSX39
                            try simp only [Act.put, List.setIfInBounds_toArray, List.set_cons_zero, List.set_cons_succ]
                            refine wpAnyB_ready (rs := [14]) (by kernel_rfl) (by simp) (AllB.cons rfl (fun K hK => ?_) AllB.nil)
                            go_simp
                            refine hK.out _ _ ((alloc_ext _ _).cell hSX41) ?_
                            clear hK K
                            try simp only [Act.put, List.setIfInBounds_toArray, List.set_cons_zero, List.set_cons_succ]
                            obtain ⟨X42, hX⟩ : ∃ Y, Y = X41.alloc (.cells #[.slice (some ⟨g13, 0, none⟩) 1 c13] 37) := ⟨_, rfl⟩
                            have hO42 := hO41.add (alloc_ext X41 (.cells #[.slice (some ⟨g13, 0, none⟩) 1 c13] 37)) (A := .blk X41.heap.size (.cells #[.slice (some ⟨g13, 0, none⟩) 1 c13] 37)) ⟨Nat.le_refl _, heap_alloc_new _ _⟩
                            rw [← hX] at hO42
                            have hSX42 : X42.cell? ⟨gw2, n, none⟩ = some (.slice none 0 0) := by rw [hX]; exact (alloc_ext _ _).cell hSX41
                            rw [← hX]
                            clear hX hO41 hSX41
                            refine wpAnyB_tail rfl rfl (by decide) (by kernel_rfl) ?_
                            have hT : OwnL Wb X42 [.row 3 1 (.slice (some ⟨g13, 0, none⟩) 1 c13) 1 [.int .i64 (i : Int)], .rows 37 3 1 (.slice (some ⟨gw2, 0, none⟩) ln cw2) vs2 (es2.map (fun e => intRow e.way)), .row 3 1 (.slice (some ⟨g6, 0, none⟩) (ln + 1) c6) (ln + 1) (ordE es2 ++ [.int .i64 tx]), .blk X41.heap.size (.cells #[.slice (some ⟨g13, 0, none⟩) 1 c13] 37)] := hO42.pick4 1 5 4 0 rfl rfl rfl rfl (by decide) (by decide) (by decide) (by decide) (by decide) (by decide)
                            clear hO42
                            have hownV := (hT.get 1 rfl : OwnRows X42 Wb.heap.size 37 3 1 (.slice (some ⟨gw2, 0, none⟩) ln cw2) vs2 (es2.map (fun e => intRow e.way))).own
                            rw [hvl2] at hownV
                            go_wp2_with (at_builtin; refine wpList_append_own2 rfl _ _ 75 rfl Wb.heap.size 37 i37 (.slice none 0 0) 1 24 Try.underlying75 hi37 hz37 hs37 hb37 rfl (by decide) (.slice (some ⟨gw2, 0, none⟩) ln cw2) ln vs2 (by rfl) hownV ⟨_, 0, none⟩ 1 1 [.slice (some ⟨g13, 0, none⟩) 1 c13] (by rfl) rfl (new_blk (hT.get 3 rfl).2) (one_slice _ _ _) (by unfold maxLen; omega) (by omega) hT.ext.size ?_; intro v7 w7 hown7 hg7 hb7)
                            have hp := (hT.push hg7 (by rw [hvl2]; exact hown7) hb7).pick2 1 0 rfl rfl (by decide)
                            go_roundw
                            case rel => exact ⟨i + 1, _, by go_num, by omega, hp.ext, (HNA.out _).trans HUN2.out, by rw [HEL.out.1, HEL.out.2.1, HEL.out.2.2]; exact hp⟩
                            case measure => simp [intOf]; omega
                      · skip
                        go_simp
                        refine hK.out _ _ ((alloc_ext _ _).cell hSX0) ?_
                        clear hK K
                        try simp only [Act.put, List.setIfInBounds_toArray, List.set_cons_zero, List.set_cons_succ]
                        obtain ⟨X43, hX⟩ : ∃ Y, Y = X0.alloc (.cells #[] 3) := ⟨_, rfl⟩
                        have hO43 := hO0.add (alloc_ext X0 (.cells #[] 3)) (A := .row 3 1 (.slice (some ⟨X0.heap.size, 0, none⟩) 0 0) 0 []) (World.ownsRow_lit (base := X0.heap.size) (e := 3) (size := 1) X0 #[] 0 (Nat.le_refl _) (by unfold maxLen; omega) rfl)
                        rw [← hX] at hO43
                        have hSX43 : X43.cell? ⟨gw2, n, none⟩ = some (.slice none 0 0) := by rw [hX]; exact (alloc_ext _ _).cell hSX0
                        rw [← hX]
                        clear hX hO0 hSX0
                        refine wpAnyB_ready (rs := [2, 12]) (by kernel_rfl) (by simp) (AllB.cons rfl (fun K hK => ?_) (AllB.cons rfl (fun K hK => ?_) AllB.nil))
                        · skip
                          go_simp
                          refine hK.out _ _ ((alloc_ext _ _).cell hSX43) ?_
                          clear hK K
                          try simp only [Act.put, List.setIfInBounds_toArray, List.set_cons_zero, List.set_cons_succ]
                          obtain ⟨X44, hX⟩ : ∃ Y, Y = X43.alloc (.cells #[.int .i64 tx] 3) := ⟨_, rfl⟩
                          have hO44 := hO43.add (alloc_ext X43 (.cells #[.int .i64 tx] 3)) (A := .blk X43.heap.size (.cells #[.int .i64 tx] 3)) ⟨Nat.le_refl _, heap_alloc_new _ _⟩
                          rw [← hX] at hO44
                          have hSX44 : X44.cell? ⟨gw2, n, none⟩ = some (.slice none 0 0) := by rw [hX]; exact (alloc_ext _ _).cell hSX43
                          rw [← hX]
                          clear hX hO43 hSX43
                          refine wpAnyB_ready (rs := [3, 12]) (by kernel_rfl) (by simp) (AllB.cons rfl (fun K hK => ?_) (AllB.cons rfl (fun K hK => ?_) AllB.nil))
                          · skip
                            refine step_append_own2 rfl _ _ 37 rfl Wb.heap.size 3 i3 (.int .i64 0) 1 8 Try.underlying37 hi3 hz3 hs3 hb3 rfl (by decide) (.slice (some ⟨gs2, 0, none⟩) ln cs2) ln (ordE es2) (by rfl) (hO44.get 2 rfl) ⟨_, 0, none⟩ 1 1 [.int .i64 tx] (by rfl) rfl (new_blk (hO44.get 0 rfl).2) (one_int _) (by unfold maxLen; omega) (by omega) hO44.ext.size ?_
                            intro v6 X45 hown6 hg6 hb6
                            obtain ⟨g6, c6, rfl⟩ := ownsRow_pos hown6 (by omega)
                            have hO45 := hO44.app 2 rfl hg6 hown6 hb6
                            have hO45 : OwnL Wb X45 [.blk X43.heap.size (.cells #[.int .i64 tx] 3), .row 3 1 (.slice (some ⟨X0.heap.size, 0, none⟩) 0 0) 0 [], .row 3 1 (.slice (some ⟨g6, 0, none⟩) (ln + 1) c6) (ln + 1) (ordE es2 ++ [.int .i64 tx]), .rows 37 3 1 (.slice (some ⟨gw2, 0, none⟩) ln cw2) vs2 (es2.map (fun e => intRow e.way))] := hO45
                            have hSX45 := cell_rows' hO45 3 rfl hjn
                            refine hK.out _ _ hSX45 ?_
                            clear hK K hg6 hb6 hown6 hO44 hSX44
                            try simp only [Act.put, List.setIfInBounds_toArray, List.set_cons_zero, List.set_cons_succ]
                            refine wpAnyB_ready (rs := [10, 12]) (by kernel_rfl) (by simp) (AllB.cons rfl (fun K hK => ?_) (AllB.cons rfl (fun K hK => ?_) AllB.nil))
                            · skip
                              refine step_append_none rfl _ _ 37 rfl Wb.heap.size 3 i3 1 Try.underlying37 hi3 (.slice (some ⟨X0.heap.size, 0, none⟩) 0 0) 0 [] (by rfl) (hO45.get 1 rfl) (by rfl) ?_
                              refine hK.out _ _ hSX45 ?_
                              clear hK K
                              try simp only [Act.put, List.setIfInBounds_toArray, List.set_cons_zero, List.set_cons_succ]
                              refine wpAnyB_ready (rs := [12]) (by kernel_rfl) (by simp) (AllB.cons rfl (fun K hK => ?_) AllB.nil)
                              go_simp
                              refine hK.out _ _ ((alloc_ext _ _).cell hSX45) ?_
                              clear hK K
                              try simp only [Act.put, List.setIfInBounds_toArray, List.set_cons_zero, List.set_cons_succ]
                              obtain ⟨X47, hX⟩ : ∃ Y, Y = X45.alloc (.cells #[.int .i64 (i : Int)] 3) := ⟨_, rfl⟩
                              have hO47 := hO45.add (alloc_ext X45 (.cells #[.int .i64 (i : Int)] 3)) (A := .blk X45.heap.size (.cells #[.int .i64 (i : Int)] 3)) ⟨Nat.le_refl _, heap_alloc_new _ _⟩
                              rw [← hX] at hO47
                              have hSX47 : X47.cell? ⟨gw2, n, none⟩ = some (.slice none 0 0) := by rw [hX]; exact (alloc_ext _ _).cell hSX45
                              rw [← hX]
                              clear hX hO45 hSX45
                              refine wpAnyB_ready (rs := [13]) (by kernel_rfl) (by simp) (AllB.cons rfl (fun K hK => ?_) AllB.nil)
                              refine step_append_own2 rfl _ _ 37 rfl Wb.heap.size 3 i3 (.int .i64 0) 1 8 Try.underlying37 hi3 hz3 hs3 hb3 rfl (by decide) (.slice (some ⟨X0.heap.size, 0, none⟩) 0 0) 0 [] (by rfl) (hO47.get 2 rfl) ⟨_, 0, none⟩ 1 1 [.int .i64 (i : Int)] (by rfl) rfl (new_blk (hO47.get 0 rfl).2) (one_int _) (by unfold maxLen; omega) (by omega) hO47.ext.size ?_
                              intro v13 X48 hown6 hg6 hb6
                              have hown6 : X48.ownsRow Wb.heap.size 3 1 v13 1 [.int .i64 (i : Int)] := hown6
                              obtain ⟨g13, c13, rfl⟩ := ownsRow_pos hown6 (by omega)
                              have hO48 := hO47.app 2 rfl hg6 hown6 hb6
                              have hO48 : OwnL Wb X48 [.blk X45.heap.size (.cells #[.int .i64 (i : Int)] 3), .blk X43.heap.size (.cells #[.int .i64 tx] 3), .row 3 1 (.slice (some ⟨g13, 0, none⟩) 1 c13) 1 [.int .i64 (i : Int)], .row 3 1 (.slice (some ⟨g6, 0, none⟩) (ln + 1) c6) (ln + 1) (ordE es2 ++ [.int .i64 tx]), .rows 37 3 1 (.slice (some ⟨gw2, 0, none⟩) ln cw2) vs2 (es2.map (fun e => intRow e.way))] := hO48
                              have hSX48 := cell_rows' hO48 4 rfl hjn
                              refine hK.out _ _ hSX48 ?_
                              clear hK K hg6 hb6 hown6 hO47 hSX47
                              try simp only [Act.put, List.setIfInBounds_toArray, List.set_cons_zero, List.set_cons_succ]
                              refine wpAnyB_ready (rs := [14]) (by kernel_rfl) (by simp) (AllB.cons rfl (fun K hK => ?_) AllB.nil)
                              go_simp
                              refine hK.out _ _ ((alloc_ext _ _).cell hSX48) ?_
                              clear hK K
                              try simp only [Act.put, List.setIfInBounds_toArray, List.set_cons_zero, List.set_cons_succ]
                              obtain ⟨X49, hX⟩ : ∃ Y, Y = X48.alloc (.cells #[.slice (some ⟨g13, 0, none⟩) 1 c13] 37) := ⟨_, rfl⟩
                              have hO49 := hO48.add (alloc_ext X48 (.cells #[.slice (some ⟨g13, 0, none⟩) 1 c13] 37)) (A := .blk X48.heap.size (.cells #[.slice (some ⟨g13, 0, none⟩) 1 c13] 37)) ⟨Nat.le_refl _, heap_alloc_new _ _⟩
                              rw [← hX] at hO49
                              have hSX49 : X49.cell? ⟨gw2, n, none⟩ = some (.slice none 0 0) := by rw [hX]; exact (alloc_ext _ _).cell hSX48
                              rw [← hX]
                              clear hX hO48 hSX48
                              refine wpAnyB_tail rfl rfl (by decide) (by kernel_rfl) ?_
                              have hT : OwnL Wb X49 [.row 3 1 (.slice (some ⟨g13, 0, none⟩) 1 c13) 1 [.int .i64 (i : Int)], .rows 37 3 1 (.slice (some ⟨gw2, 0, none⟩) ln cw2) vs2 (es2.map (fun e => intRow e.way)), .row 3 1 (.slice (some ⟨g6, 0, none⟩) (ln + 1) c6) (ln + 1) (ordE es2 ++ [.int .i64 tx]), .blk X48.heap.size (.cells #[.slice (some ⟨g13, 0, none⟩) 1 c13] 37)] := hO49.pick4 3 5 4 0 rfl rfl rfl rfl (by decide) (by decide) (by decide) (by decide) (by decide) (by decide)
                              clear hO49
                              have hownV := (hT.get 1 rfl : OwnRows X49 Wb.heap.size 37 3 1 (.slice (some ⟨gw2, 0, none⟩) ln cw2) vs2 (es2.map (fun e => intRow e.way))).own
                              rw [hvl2] at hownV
                              go_wp2_with (at_builtin; refine wpList_append_own2 rfl _ _ 75 rfl Wb.heap.size 37 i37 (.slice none 0 0) 1 24 Try.underlying75 hi37 hz37 hs37 hb37 rfl (by decide) (.slice (some ⟨gw2, 0, none⟩) ln cw2) ln vs2 (by rfl) hownV ⟨_, 0, none⟩ 1 1 [.slice (some ⟨g13, 0, none⟩) 1 c13] (by rfl) rfl (new_blk (hT.get 3 rfl).2) (one_slice _ _ _) (by unfold maxLen; omega) (by omega) hT.ext.size ?_; intro v7 w7 hown7 hg7 hb7)
                              have hp := (hT.push hg7 (by rw [hvl2]; exact hown7) hb7).pick2 1 0 rfl rfl (by decide)
                              go_roundw
                              case rel => exact ⟨i + 1, _, by go_num, by omega, hp.ext, (HNA.out _).trans HUN2.out, by rw [HEL.out.1, HEL.out.2.1, HEL.out.2.2]; exact hp⟩
                              case measure => simp [intOf]; omega
                            · skip
                              go_simp
                              refine hK.out _ _ ((alloc_ext _ _).cell hSX45) ?_
                              clear hK K
                              try simp only [Act.put, List.setIfInBounds_toArray, List.set_cons_zero, List.set_cons_succ]
                              obtain ⟨X50, hX⟩ : ∃ Y, Y = X45.alloc (.cells #[.int .i64 (i : Int)] 3) := ⟨_, rfl⟩
                              have hO50 := hO45.add (alloc_ext X45 (.cells #[.int .i64 (i : Int)] 3)) (A := .blk X45.heap.size (.cells #[.int .i64 (i : Int)] 3)) ⟨Nat.le_refl _, heap_alloc_new _ _⟩
                              rw [← hX] at hO50
                              have hSX50 : X50.cell? ⟨gw2, n, none⟩ = some (.slice none 0 0) := by rw [hX]; exact (alloc_ext _ _).cell hSX45
                              rw [← hX]
                              clear hX hO45 hSX45
                              refine wpAnyB_ready (rs := [10]) (by kernel_rfl) (by simp) (AllB.cons rfl (fun K hK => ?_) AllB.nil)
                              refine step_append_none rfl _ _ 37 rfl Wb.heap.size 3 i3 1 Try.underlying37 hi3 (.slice (some ⟨X0.heap.size, 0, none⟩) 0 0) 0 [] (by rfl) (hO50.get 2 rfl) (by rfl) ?_
                              refine hK.out _ _ hSX50 ?_
                              clear hK K
                              try simp only [Act.put, List.setIfInBounds_toArray, List.set_cons_zero, List.set_cons_succ]
                              refine wpAnyB_ready (rs := [13]) (by kernel_rfl) (by simp) (AllB.cons rfl (fun K hK => ?_) AllB.nil)
                              refine step_append_own2 rfl _ _ 37 rfl Wb.heap.size 3 i3 (.int .i64 0) 1 8 Try.underlying37 hi3 hz3 hs3 hb3 rfl (by decide) (.slice (some ⟨X0.heap.size, 0, none⟩) 0 0) 0 [] (by rfl) (hO50.get 2 rfl) ⟨_, 0, none⟩ 1 1 [.int .i64 (i : Int)] (by rfl) rfl (new_blk (hO50.get 0 rfl).2) (one_int _) (by unfold maxLen; omega) (by omega) hO50.ext.size ?_
                              intro v13 X52 hown6 hg6 hb6
                              have hown6 : X52.ownsRow Wb.heap.size 3 1 v13 1 [.int .i64 (i : Int)] := hown6
                              obtain ⟨g13, c13, rfl⟩ := ownsRow_pos hown6 (by omega)
                              have hO52 := hO50.app 2 rfl hg6 hown6 hb6
                              have hO52 : OwnL Wb X52 [.blk X45.heap.size (.cells #[.int .i64 (i : Int)] 3), .blk X43.heap.size (.cells #[.int .i64 tx] 3), .row 3 1 (.slice (some ⟨g13, 0, none⟩) 1 c13) 1 [.int .i64 (i : Int)], .row 3 1 (.slice (some ⟨g6, 0, none⟩) (ln + 1) c6) (ln + 1) (ordE es2 ++ [.int .i64 tx]), .rows 37 3 1 (.slice (some ⟨gw2, 0, none⟩) ln cw2) vs2 (es2.map (fun e => intRow e.way))] := hO52
                              have hSX52 := cell_rows' hO52 4 rfl hjn
                              refine hK.out _ _ hSX52 ?_
                              clear hK K hg6 hb6 hown6 hO50 hSX50
                              try simp only [Act.put, List.setIfInBounds_toArray, List.set_cons_zero, List.set_cons_succ]
                              refine wpAnyB_ready (rs := [14]) (by kernel_rfl) (by simp) (AllB.cons rfl (fun K hK => ?_) AllB.nil)
                              go_simp
                              refine hK.out _ _ ((alloc_ext _ _).cell hSX52) ?_
                              clear hK K
                              try simp only [Act.put, List.setIfInBounds_toArray, List.set_cons_zero, List.set_cons_succ]
                              obtain ⟨X53, hX⟩ : ∃ Y, Y = X52.alloc (.cells #[.slice (some ⟨g13, 0, none⟩) 1 c13] 37) := ⟨_, rfl⟩
                              have hO53 := hO52.add (alloc_ext X52 (.cells #[.slice (some ⟨g13, 0, none⟩) 1 c13] 37)) (A := .blk X52.heap.size (.cells #[.slice (some ⟨g13, 0, none⟩) 1 c13] 37)) ⟨Nat.le_refl _, heap_alloc_new _ _⟩
                              rw [← hX] at hO53
                              have hSX53 : X53.cell? ⟨gw2, n, none⟩ = some (.slice none 0 0) := by rw [hX]; exact (alloc_ext _ _).cell hSX52
                              rw [← hX]
                              clear hX hO52 hSX52
                              refine wpAnyB_tail rfl rfl (by decide) (by kernel_rfl) ?_
                              have hT : OwnL Wb X53 [.row 3 1 (.slice (some ⟨g13, 0, none⟩) 1 c13) 1 [.int .i64 (i : Int)], .rows 37 3 1 (.slice (some ⟨gw2, 0, none⟩) ln cw2) vs2 (es2.map (fun e => intRow e.way)), .row 3 1 (.slice (some ⟨g6, 0, none⟩) (ln + 1) c6) (ln + 1) (ordE es2 ++ [.int .i64 tx]), .blk X52.heap.size (.cells #[.slice (some ⟨g13, 0, none⟩) 1 c13] 37)] := hO53.pick4 3 5 4 0 rfl rfl rfl rfl (by decide) (by decide) (by decide) (by decide) (by decide) (by decide)
                              clear hO53
                              have hownV := (hT.get 1 rfl : OwnRows X53 Wb.heap.size 37 3 1 (.slice (some ⟨gw2, 0, none⟩) ln cw2) vs2 (es2.map (fun e => intRow e.way))).own
                              rw [hvl2] at hownV
                              go_wp2_with (at_builtin; refine wpList_append_own2 rfl _ _ 75 rfl Wb.heap.size 37 i37 (.slice none 0 0) 1 24 Try.underlying75 hi37 hz37 hs37 hb37 rfl (by decide) (.slice (some ⟨gw2, 0, none⟩) ln cw2) ln vs2 (by rfl) hownV ⟨_, 0, none⟩ 1 1 [.slice (some ⟨g13, 0, none⟩) 1 c13] (by rfl) rfl (new_blk (hT.get 3 rfl).2) (one_slice _ _ _) (by unfold maxLen; omega) (by omega) hT.ext.size ?_; intro v7 w7 hown7 hg7 hb7)
                              have hp := (hT.push hg7 (by rw [hvl2]; exact hown7) hb7).pick2 1 0 rfl rfl (by decide)
                              go_roundw
                              case rel => exact ⟨i + 1, _, by go_num, by omega, hp.ext, (HNA.out _).trans HUN2.out, by rw [HEL.out.1, HEL.out.2.1, HEL.out.2.2]; exact hp⟩
                              case measure => simp [intOf]; omega
                          · skip
                            go_simp
                            refine hK.out _ _ ((alloc_ext _ _).cell hSX44) ?_
                            clear hK K
                            try simp only [Act.put, List.setIfInBounds_toArray, List.set_cons_zero, List.set_cons_succ]
                            obtain ⟨X54, hX⟩ : ∃ Y, Y = X44.alloc (.cells #[.int .i64 (i : Int)] 3) := ⟨_, rfl⟩
                            have hO54 := hO44.add (alloc_ext X44 (.cells #[.int .i64 (i : Int)] 3)) (A := .blk X44.heap.size (.cells #[.int .i64 (i : Int)] 3)) ⟨Nat.le_refl _, heap_alloc_new _ _⟩
                            rw [← hX] at hO54
                            have hSX54 : X54.cell? ⟨gw2, n, none⟩ = some (.slice none 0 0) := by rw [hX]; exact (alloc_ext _ _).cell hSX44
                            rw [← hX]
                            clear hX hO44 hSX44
                            refine wpAnyB_ready (rs := [3]) (by kernel_rfl) (by simp) (AllB.cons rfl (fun K hK => ?_) AllB.nil)
                            refine step_append_own2 rfl _ _ 37 rfl Wb.heap.size 3 i3 (.int .i64 0) 1 8 Try.underlying37 hi3 hz3 hs3 hb3 rfl (by decide) (.slice (some ⟨gs2, 0, none⟩) ln cs2) ln (ordE es2) (by rfl) (hO54.get 3 rfl) ⟨_, 0, none⟩ 1 1 [.int .i64 tx] (by rfl) rfl (new_blk (hO54.get 1 rfl).2) (one_int _) (by unfold maxLen; omega) (by omega) hO54.ext.size ?_
                            intro v6 X55 hown6 hg6 hb6
                            obtain ⟨g6, c6, rfl⟩ := ownsRow_pos hown6 (by omega)
                            have hO55 := hO54.app 3 rfl hg6 hown6 hb6
                            have hO55 : OwnL Wb X55 [.blk X44.heap.size (.cells #[.int .i64 (i : Int)] 3), .blk X43.heap.size (.cells #[.int .i64 tx] 3), .row 3 1 (.slice (some ⟨X0.heap.size, 0, none⟩) 0 0) 0 [], .row 3 1 (.slice (some ⟨g6, 0, none⟩) (ln + 1) c6) (ln + 1) (ordE es2 ++ [.int .i64 tx]), .rows 37 3 1 (.slice (some ⟨gw2, 0, none⟩) ln cw2) vs2 (es2.map (fun e => intRow e.way))] := hO55
                            have hSX55 := cell_rows' hO55 4 rfl hjn
                            refine hK.out _ _ hSX55 ?_
                            clear hK K hg6 hb6 hown6 hO54 hSX54
                            try simp only [Act.put, List.setIfInBounds_toArray, List.set_cons_zero, List.set_cons_succ]
                            refine wpAnyB_ready (rs := [10]) (by kernel_rfl) (by simp) (AllB.cons rfl (fun K hK => ?_) AllB.nil)
                            refine step_append_none rfl _ _ 37 rfl Wb.heap.size 3 i3 1 Try.underlying37 hi3 (.slice (some ⟨X0.heap.size, 0, none⟩) 0 0) 0 [] (by rfl) (hO55.get 2 rfl) (by rfl) ?_
                            refine hK.out _ _ hSX55 ?_
                            clear hK K
                            try simp only [Act.put, List.setIfInBounds_toArray, List.set_cons_zero, List.set_cons_succ]
                            refine wpAnyB_ready (rs := [13]) (by kernel_rfl) (by simp) (AllB.cons rfl (fun K hK => ?_) AllB.nil)
                            refine step_append_own2 rfl _ _ 37 rfl Wb.heap.size 3 i3 (.int .i64 0) 1 8 Try.underlying37 hi3 hz3 hs3 hb3 rfl (by decide) (.slice (some ⟨X0.heap.size, 0, none⟩) 0 0) 0 [] (by rfl) (hO55.get 2 rfl) ⟨_, 0, none⟩ 1 1 [.int .i64 (i : Int)] (by rfl) rfl (new_blk (hO55.get 0 rfl).2) (one_int _) (by unfold maxLen; omega) (by omega) hO55.ext.size ?_
                            intro v13 X57 hown6 hg6 hb6
                            have hown6 : X57.ownsRow Wb.heap.size 3 1 v13 1 [.int .i64 (i : Int)] := hown6
                            obtain ⟨g13, c13, rfl⟩ := ownsRow_pos hown6 (by omega)
                            have hO57 := hO55.app 2 rfl hg6 hown6 hb6
                            have hO57 : OwnL Wb X57 [.blk X44.heap.size (.cells #[.int .i64 (i : Int)] 3), .blk X43.heap.size (.cells #[.int .i64 tx] 3), .row 3 1 (.slice (some ⟨g13, 0, none⟩) 1 c13) 1 [.int .i64 (i : Int)], .row 3 1 (.slice (some ⟨g6, 0, none⟩) (ln + 1) c6) (ln + 1) (ordE es2 ++ [.int .i64 tx]), .rows 37 3 1 (.slice (some ⟨gw2, 0, none⟩) ln cw2) vs2 (es2.map (fun e => intRow e.way))] := hO57
                            have hSX57 := cell_rows' hO57 4 rfl hjn
                            refine hK.out _ _ hSX57 ?_
                            clear hK K hg6 hb6 hown6 hO55 hSX55
                            try simp only [Act.put, List.setIfInBounds_toArray, List.set_cons_zero, List.set_cons_succ]
                            refine wpAnyB_ready (rs := [14]) (by kernel_rfl) (by simp) (AllB.cons rfl (fun K hK => ?_) AllB.nil)
                            go_simp
                            refine hK.out _ _ ((alloc_ext _ _).cell hSX57) ?_
                            clear hK K
                            try simp only [Act.put, List.setIfInBounds_toArray, List.set_cons_zero, List.set_cons_succ]
                            obtain ⟨X58, hX⟩ : ∃ Y, Y = X57.alloc (.cells #[.slice (some ⟨g13, 0, none⟩) 1 c13] 37) := ⟨_, rfl⟩
                            have hO58 := hO57.add (alloc_ext X57 (.cells #[.slice (some ⟨g13, 0, none⟩) 1 c13] 37)) (A := .blk X57.heap.size (.cells #[.slice (some ⟨g13, 0, none⟩) 1 c13] 37)) ⟨Nat.le_refl _, heap_alloc_new _ _⟩
                            rw [← hX] at hO58
                            have hSX58 : X58.cell? ⟨gw2, n, none⟩ = some (.slice none 0 0) := by rw [hX]; exact (alloc_ext _ _).cell hSX57
                            rw [← hX]
                            clear hX hO57 hSX57
                            refine wpAnyB_tail rfl rfl (by decide) (by kernel_rfl) ?_
                            have hT : OwnL Wb X58 [.row 3 1 (.slice (some ⟨g13, 0, none⟩) 1 c13) 1 [.int .i64 (i : Int)], .rows 37 3 1 (.slice (some ⟨gw2, 0, none⟩) ln cw2) vs2 (es2.map (fun e => intRow e.way)), .row 3 1 (.slice (some ⟨g6, 0, none⟩) (ln + 1) c6) (ln + 1) (ordE es2 ++ [.int .i64 tx]), .blk X57.heap.size (.cells #[.slice (some ⟨g13, 0, none⟩) 1 c13] 37)] := hO58.pick4 3 5 4 0 rfl rfl rfl rfl (by decide) (by decide) (by decide) (by decide) (by decide) (by decide)
                            clear hO58
                            have hownV := (hT.get 1 rfl : OwnRows X58 Wb.heap.size 37 3 1 (.slice (some ⟨gw2, 0, none⟩) ln cw2) vs2 (es2.map (fun e => intRow e.way))).own
                            rw [hvl2] at hownV
                            go_wp2_with (at_builtin; refine wpList_append_own2 rfl _ _ 75 rfl Wb.heap.size 37 i37 (.slice none 0 0) 1 24 Try.underlying75 hi37 hz37 hs37 hb37 rfl (by decide) (.slice (some ⟨gw2, 0, none⟩) ln cw2) ln vs2 (by rfl) hownV ⟨_, 0, none⟩ 1 1 [.slice (some ⟨g13, 0, none⟩) 1 c13] (by rfl) rfl (new_blk (hT.get 3 rfl).2) (one_slice _ _ _) (by unfold maxLen; omega) (by omega) hT.ext.size ?_; intro v7 w7 hown7 hg7 hb7)
                            have hp := (hT.push hg7 (by rw [hvl2]; exact hown7) hb7).pick2 1 0 rfl rfl (by decide)
                            go_roundw
                            case rel => exact ⟨i + 1, _, by go_num, by omega, hp.ext, (HNA.out _).trans HUN2.out, by rw [HEL.out.1, HEL.out.2.1, HEL.out.2.2]; exact hp⟩
                            case measure => simp [intOf]; omega
                        · skip
                          go_simp
                          refine hK.out _ _ ((alloc_ext _ _).cell hSX43) ?_
                          clear hK K
                          try simp only [Act.put, List.setIfInBounds_toArray, List.set_cons_zero, List.set_cons_succ]
                          obtain ⟨X59, hX⟩ : ∃ Y, Y = X43.alloc (.cells #[.int .i64 (i : Int)] 3) := ⟨_, rfl⟩
                          have hO59 := hO43.add (alloc_ext X43 (.cells #[.int .i64 (i : Int)] 3)) (A := .blk X43.heap.size (.cells #[.int .i64 (i : Int)] 3)) ⟨Nat.le_refl _, heap_alloc_new _ _⟩
                          rw [← hX] at hO59
                          have hSX59 : X59.cell? ⟨gw2, n, none⟩ = some (.slice none 0 0) := by rw [hX]; exact (alloc_ext _ _).cell hSX43
                          rw [← hX]
                          clear hX hO43 hSX43
                          refine wpAnyB_ready (rs := [2]) (by kernel_rfl) (by simp) (AllB.cons rfl (fun K hK => ?_) AllB.nil)
                          go_simp
                          refine hK.out _ _ ((alloc_ext _ _).cell hSX59) ?_
                          clear hK K
                          try simp only [Act.put, List.setIfInBounds_toArray, List.set_cons_zero, List.set_cons_succ]
                          obtain ⟨X60, hX⟩ : ∃ Y, Y = X59.alloc (.cells #[.int .i64 tx] 3) := ⟨_, rfl⟩
                          have hO60 := hO59.add (alloc_ext X59 (.cells #[.int .i64 tx] 3)) (A := .blk X59.heap.size (.cells #[.int .i64 tx] 3)) ⟨Nat.le_refl _, heap_alloc_new _ _⟩
                          rw [← hX] at hO60
                          have hSX60 : X60.cell? ⟨gw2, n, none⟩ = some (.slice none 0 0) := by rw [hX]; exact (alloc_ext _ _).cell hSX59
                          rw [← hX]
                          clear hX hO59 hSX59
                          refine wpAnyB_ready (rs := [3]) (by kernel_rfl) (by simp) (AllB.cons rfl (fun K hK => ?_) AllB.nil)
                          refine step_append_own2 rfl _ _ 37 rfl Wb.heap.size 3 i3 (.int .i64 0) 1 8 Try.underlying37 hi3 hz3 hs3 hb3 rfl (by decide) (.slice (some ⟨gs2, 0, none⟩) ln cs2) ln (ordE es2) (by rfl) (hO60.get 3 rfl) ⟨_, 0, none⟩ 1 1 [.int .i64 tx] (by rfl) rfl (new_blk (hO60.get 0 rfl).2) (one_int _) (by unfold maxLen; omega) (by omega) hO60.ext.size ?_
                          intro v6 X61 hown6 hg6 hb6
                          obtain ⟨g6, c6, rfl⟩ := ownsRow_pos hown6 (by omega)
                          have hO61 := hO60.app 3 rfl hg6 hown6 hb6
                          have hO61 : OwnL Wb X61 [.blk X59.heap.size (.cells #[.int .i64 tx] 3), .blk X43.heap.size (.cells #[.int .i64 (i : Int)] 3), .row 3 1 (.slice (some ⟨X0.heap.size, 0, none⟩) 0 0) 0 [], .row 3 1 (.slice (some ⟨g6, 0, none⟩) (ln + 1) c6) (ln + 1) (ordE es2 ++ [.int .i64 tx]), .rows 37 3 1 (.slice (some ⟨gw2, 0, none⟩) ln cw2) vs2 (es2.map (fun e => intRow e.way))] := hO61
                          have hSX61 := cell_rows' hO61 4 rfl hjn
                          refine hK.out _ _ hSX61 ?_
                          clear hK K hg6 hb6 hown6 hO60 hSX60
                          try simp only [Act.put, List.setIfInBounds_toArray, List.set_cons_zero, List.set_cons_succ]
                          refine wpAnyB_ready (rs := [10]) (by kernel_rfl) (by simp) (AllB.cons rfl (fun K hK => ?_) AllB.nil)
                          refine step_append_none rfl _ _ 37 rfl Wb.heap.size 3 i3 1 Try.underlying37 hi3 (.slice (some ⟨X0.heap.size, 0, none⟩) 0 0) 0 [] (by rfl) (hO61.get 2 rfl) (by rfl) ?_
                          refine hK.out _ _ hSX61 ?_
                          clear hK K
                          try simp only [Act.put, List.setIfInBounds_toArray, List.set_cons_zero, List.set_cons_succ]
                          refine wpAnyB_ready (rs := [13]) (by kernel_rfl) (by simp) (AllB.cons rfl (fun K hK => ?_) AllB.nil)
                          refine step_append_own2 rfl _ _ 37 rfl Wb.heap.size 3 i3 (.int .i64 0) 1 8 Try.underlying37 hi3 hz3 hs3 hb3 rfl (by decide) (.slice (some ⟨X0.heap.size, 0, none⟩) 0 0) 0 [] (by rfl) (hO61.get 2 rfl) ⟨_, 0, none⟩ 1 1 [.int .i64 (i : Int)] (by rfl) rfl (new_blk (hO61.get 1 rfl).2) (one_int _) (by unfold maxLen; omega) (by omega) hO61.ext.size ?_
                          intro v13 X63 hown6 hg6 hb6
                          have hown6 : X63.ownsRow Wb.heap.size 3 1 v13 1 [.int .i64 (i : Int)] := hown6
                          obtain ⟨g13, c13, rfl⟩ := ownsRow_pos hown6 (by omega)
                          have hO63 := hO61.app 2 rfl hg6 hown6 hb6
                          have hO63 : OwnL Wb X63 [.blk X59.heap.size (.cells #[.int .i64 tx] 3), .blk X43.heap.size (.cells #[.int .i64 (i : Int)] 3), .row 3 1 (.slice (some ⟨g13, 0, none⟩) 1 c13) 1 [.int .i64 (i : Int)], .row 3 1 (.slice (some ⟨g6, 0, none⟩) (ln + 1) c6) (ln + 1) (ordE es2 ++ [.int .i64 tx]), .rows 37 3 1 (.slice (some ⟨gw2, 0, none⟩) ln cw2) vs2 (es2.map (fun e => intRow e.way))] := hO63
                          have hSX63 := cell_rows' hO63 4 rfl hjn
                          refine hK.out _ _ hSX63 ?_
                          clear hK K hg6 hb6 hown6 hO61 hSX61
                          try simp only [Act.put, List.setIfInBounds_toArray, List.set_cons_zero, List.set_cons_succ]
                          refine wpAnyB_ready (rs := [14]) (by kernel_rfl) (by simp) (AllB.cons rfl (fun K hK => ?_) AllB.nil)
                          go_simp
                          refine hK.out _ _ ((alloc_ext _ _).cell hSX63) ?_
                          clear hK K
                          try simp only [Act.put, List.setIfInBounds_toArray, List.set_cons_zero, List.set_cons_succ]
                          obtain ⟨X64, hX⟩ : ∃ Y, Y = X63.alloc (.cells #[.slice (some ⟨g13, 0, none⟩) 1 c13] 37) := ⟨_, rfl⟩
                          have hO64 := hO63.add (alloc_ext X63 (.cells #[.slice (some ⟨g13, 0, none⟩) 1 c13] 37)) (A := .blk X63.heap.size (.cells #[.slice (some ⟨g13, 0, none⟩) 1 c13] 37)) ⟨Nat.le_refl _, heap_alloc_new _ _⟩
                          rw [← hX] at hO64
                          have hSX64 : X64.cell? ⟨gw2, n, none⟩ = some (.slice none 0 0) := by rw [hX]; exact (alloc_ext _ _).cell hSX63
                          rw [← hX]
                          clear hX hO63 hSX63
                          refine wpAnyB_tail rfl rfl (by decide) (by kernel_rfl) ?_
                          have hT : OwnL Wb X64 [.row 3 1 (.slice (some ⟨g13, 0, none⟩) 1 c13) 1 [.int .i64 (i : Int)], .rows 37 3 1 (.slice (some ⟨gw2, 0, none⟩) ln cw2) vs2 (es2.map (fun e => intRow e.way)), .row 3 1 (.slice (some ⟨g6, 0, none⟩) (ln + 1) c6) (ln + 1) (ordE es2 ++ [.int .i64 tx]), .blk X63.heap.size (.cells #[.slice (some ⟨g13, 0, none⟩) 1 c13] 37)] := hO64.pick4 3 5 4 0 rfl rfl rfl rfl (by decide) (by decide) (by decide) (by decide) (by decide) (by decide)
                          clear hO64
                          have hownV := (hT.get 1 rfl : OwnRows X64 Wb.heap.size 37 3 1 (.slice (some ⟨gw2, 0, none⟩) ln cw2) vs2 (es2.map (fun e => intRow e.way))).own
                          rw [hvl2] at hownV
                          go_wp2_with (at_builtin; refine wpList_append_own2 rfl _ _ 75 rfl Wb.heap.size 37 i37 (.slice none 0 0) 1 24 Try.underlying75 hi37 hz37 hs37 hb37 rfl (by decide) (.slice (some ⟨gw2, 0, none⟩) ln cw2) ln vs2 (by rfl) hownV ⟨_, 0, none⟩ 1 1 [.slice (some ⟨g13, 0, none⟩) 1 c13] (by rfl) rfl (new_blk (hT.get 3 rfl).2) (one_slice _ _ _) (by unfold maxLen; omega) (by omega) hT.ext.size ?_; intro v7 w7 hown7 hg7 hb7)
                          have hp := (hT.push hg7 (by rw [hvl2]; exact hown7) hb7).pick2 1 0 rfl rfl (by decide)
                          go_roundw
                          case rel => exact ⟨i + 1, _, by go_num, by omega, hp.ext, (HNA.out _).trans HUN2.out, by rw [HEL.out.1, HEL.out.2.1, HEL.out.2.2]; exact hp⟩
                          case measure => simp [intOf]; omega
                      · skip
                        go_simp
                        refine hK.out _ _ ((alloc_ext _ _).cell hSX0) ?_
                        clear hK K
                        try simp only [Act.put, List.setIfInBounds_toArray, List.set_cons_zero, List.set_cons_succ]
                        obtain ⟨X65, hX⟩ : ∃ Y, Y = X0.alloc (.cells #[.int .i64 (i : Int)] 3) := ⟨_, rfl⟩
                        have hO65 := hO0.add (alloc_ext X0 (.cells #[.int .i64 (i : Int)] 3)) (A := .blk X0.heap.size (.cells #[.int .i64 (i : Int)] 3)) ⟨Nat.le_refl _, heap_alloc_new _ _⟩
                        rw [← hX] at hO65
                        have hSX65 : X65.cell? ⟨gw2, n, none⟩ = some (.slice none 0 0) := by rw [hX]; exact (alloc_ext _ _).cell hSX0
                        rw [← hX]
                        clear hX hO0 hSX0
                        refine wpAnyB_ready (rs := [2, 5]) (by kernel_rfl) (by simp) (AllB.cons rfl (fun K hK => ?_) (AllB.cons rfl (fun K hK => ?_) AllB.nil))
                        · skip
                          go_simp
                          refine hK.out _ _ ((alloc_ext _ _).cell hSX65) ?_
                          clear hK K
                          try simp only [Act.put, List.setIfInBounds_toArray, List.set_cons_zero, List.set_cons_succ]
                          obtain ⟨X66, hX⟩ : ∃ Y, Y = X65.alloc (.cells #[.int .i64 tx] 3) := ⟨_, rfl⟩
                          have hO66 := hO65.add (alloc_ext X65 (.cells #[.int .i64 tx] 3)) (A := .blk X65.heap.size (.cells #[.int .i64 tx] 3)) ⟨Nat.le_refl _, heap_alloc_new _ _⟩
                          rw [← hX] at hO66
                          have hSX66 : X66.cell? ⟨gw2, n, none⟩ = some (.slice none 0 0) := by rw [hX]; exact (alloc_ext _ _).cell hSX65
                          rw [← hX]
                          clear hX hO65 hSX65
                          refine wpAnyB_ready (rs := [3, 5]) (by kernel_rfl) (by simp) (AllB.cons rfl (fun K hK => ?_) (AllB.cons rfl (fun K hK => ?_) AllB.nil))
                          · skip
                            refine step_append_own2 rfl _ _ 37 rfl Wb.heap.size 3 i3 (.int .i64 0) 1 8 Try.underlying37 hi3 hz3 hs3 hb3 rfl (by decide) (.slice (some ⟨gs2, 0, none⟩) ln cs2) ln (ordE es2) (by rfl) (hO66.get 2 rfl) ⟨_, 0, none⟩ 1 1 [.int .i64 tx] (by rfl) rfl (new_blk (hO66.get 0 rfl).2) (one_int _) (by unfold maxLen; omega) (by omega) hO66.ext.size ?_
                            intro v6 X67 hown6 hg6 hb6
                            obtain ⟨g6, c6, rfl⟩ := ownsRow_pos hown6 (by omega)
                            have hO67 := hO66.app 2 rfl hg6 hown6 hb6
                            have hO67 : OwnL Wb X67 [.blk X65.heap.size (.cells #[.int .i64 tx] 3), .blk X0.heap.size (.cells #[.int .i64 (i : Int)] 3), .row 3 1 (.slice (some ⟨g6, 0, none⟩) (ln + 1) c6) (ln + 1) (ordE es2 ++ [.int .i64 tx]), .rows 37 3 1 (.slice (some ⟨gw2, 0, none⟩) ln cw2) vs2 (es2.map (fun e => intRow e.way))] := hO67
                            have hSX67 := cell_rows' hO67 3 rfl hjn
                            refine hK.out _ _ hSX67 ?_
                            clear hK K hg6 hb6 hown6 hO66 hSX66
                            try simp only [Act.put, List.setIfInBounds_toArray, List.set_cons_zero, List.set_cons_succ]
                            refine wpAnyB_ready (rs := [5]) (by kernel_rfl) (by simp) (AllB.cons rfl (fun K hK => ?_) AllB.nil)
                            go_simp
                            refine hK.out _ _ ((alloc_ext _ _).cell hSX67) ?_
                            clear hK K
                            try simp only [Act.put, List.setIfInBounds_toArray, List.set_cons_zero, List.set_cons_succ]
                            obtain ⟨X68, hX⟩ : ∃ Y, Y = X67.alloc (.cells #[] 3) := ⟨_, rfl⟩
                            have hO68 := hO67.add (alloc_ext X67 (.cells #[] 3)) (A := .row 3 1 (.slice (some ⟨X67.heap.size, 0, none⟩) 0 0) 0 []) (World.ownsRow_lit (base := X67.heap.size) (e := 3) (size := 1) X67 #[] 0 (Nat.le_refl _) (by unfold maxLen; omega) rfl)
                            rw [← hX] at hO68
                            have hSX68 : X68.cell? ⟨gw2, n, none⟩ = some (.slice none 0 0) := by rw [hX]; exact (alloc_ext _ _).cell hSX67
                            rw [← hX]
                            clear hX hO67 hSX67
                            refine wpAnyB_ready (rs := [10]) (by kernel_rfl) (by simp) (AllB.cons rfl (fun K hK => ?_) AllB.nil)
                            refine step_append_none rfl _ _ 37 rfl Wb.heap.size 3 i3 1 Try.underlying37 hi3 (.slice (some ⟨X67.heap.size, 0, none⟩) 0 0) 0 [] (by rfl) (hO68.get 0 rfl) (by rfl) ?_
                            refine hK.out _ _ hSX68 ?_
                            clear hK K
                            try simp only [Act.put, List.setIfInBounds_toArray, List.set_cons_zero, List.set_cons_succ]
                            refine wpAnyB_ready (rs := [13]) (by kernel_rfl) (by simp) (AllB.cons rfl (fun K hK => ?_) AllB.nil)
                            refine step_append_own2 rfl _ _ 37 rfl Wb.heap.size 3 i3 (.int .i64 0) 1 8 Try.underlying37 hi3 hz3 hs3 hb3 rfl (by decide) (.slice (some ⟨X67.heap.size, 0, none⟩) 0 0) 0 [] (by rfl) (hO68.get 0 rfl) ⟨_, 0, none⟩ 1 1 [.int .i64 (i : Int)] (by rfl) rfl (new_blk (hO68.get 2 rfl).2) (one_int _) (by unfold maxLen; omega) (by omega) hO68.ext.size ?_
                            intro v13 X70 hown6 hg6 hb6
                            have hown6 : X70.ownsRow Wb.heap.size 3 1 v13 1 [.int .i64 (i : Int)] := hown6
                            obtain ⟨g13, c13, rfl⟩ := ownsRow_pos hown6 (by omega)
                            have hO70 := hO68.app 0 rfl hg6 hown6 hb6
                            have hO70 : OwnL Wb X70 [.row 3 1 (.slice (some ⟨g13, 0, none⟩) 1 c13) 1 [.int .i64 (i : Int)], .blk X65.heap.size (.cells #[.int .i64 tx] 3), .blk X0.heap.size (.cells #[.int .i64 (i : Int)] 3), .row 3 1 (.slice (some ⟨g6, 0, none⟩) (ln + 1) c6) (ln + 1) (ordE es2 ++ [.int .i64 tx]), .rows 37 3 1 (.slice (some ⟨gw2, 0, none⟩) ln cw2) vs2 (es2.map (fun e => intRow e.way))] := hO70
                            have hSX70 := cell_rows' hO70 4 rfl hjn
                            refine hK.out _ _ hSX70 ?_
                            clear hK K hg6 hb6 hown6 hO68 hSX68
                            try simp only [Act.put, List.setIfInBounds_toArray, List.set_cons_zero, List.set_cons_succ]
                            refine wpAnyB_ready (rs := [14]) (by kernel_rfl) (by simp) (AllB.cons rfl (fun K hK => ?_) AllB.nil)
                            go_simp
                            refine hK.out _ _ ((alloc_ext _ _).cell hSX70) ?_
                            clear hK K
                            try simp only [Act.put, List.setIfInBounds_toArray, List.set_cons_zero, List.set_cons_succ]
                            obtain ⟨X71, hX⟩ : ∃ Y, Y = X70.alloc (.cells #[.slice (some ⟨g13, 0, none⟩) 1 c13] 37) := ⟨_, rfl⟩
                            have hO71 := hO70.add (alloc_ext X70 (.cells #[.slice (some ⟨g13, 0, none⟩) 1 c13] 37)) (A := .blk X70.heap.size (.cells #[.slice (some ⟨g13, 0, none⟩) 1 c13] 37)) ⟨Nat.le_refl _, heap_alloc_new _ _⟩
                            rw [← hX] at hO71
                            have hSX71 : X71.cell? ⟨gw2, n, none⟩ = some (.slice none 0 0) := by rw [hX]; exact (alloc_ext _ _).cell hSX70
                            rw [← hX]
                            clear hX hO70 hSX70
                            refine wpAnyB_tail rfl rfl (by decide) (by kernel_rfl) ?_
                            have hT : OwnL Wb X71 [.row 3 1 (.slice (some ⟨g13, 0, none⟩) 1 c13) 1 [.int .i64 (i : Int)], .rows 37 3 1 (.slice (some ⟨gw2, 0, none⟩) ln cw2) vs2 (es2.map (fun e => intRow e.way)), .row 3 1 (.slice (some ⟨g6, 0, none⟩) (ln + 1) c6) (ln + 1) (ordE es2 ++ [.int .i64 tx]), .blk X70.heap.size (.cells #[.slice (some ⟨g13, 0, none⟩) 1 c13] 37)] := hO71.pick4 1 5 4 0 rfl rfl rfl rfl (by decide) (by decide) (by decide) (by decide) (by decide) (by decide)
                            clear hO71
                            have hownV := (hT.get 1 rfl : OwnRows X71 Wb.heap.size 37 3 1 (.slice (some ⟨gw2, 0, none⟩) ln cw2) vs2 (es2.map (fun e => intRow e.way))).own
                            rw [hvl2] at hownV
                            go_wp2_with (at_builtin; refine wpList_append_own2 rfl _ _ 75 rfl Wb.heap.size 37 i37 (.slice none 0 0) 1 24 Try.underlying75 hi37 hz37 hs37 hb37 rfl (by decide) (.slice (some ⟨gw2, 0, none⟩) ln cw2) ln vs2 (by rfl) hownV ⟨_, 0, none⟩ 1 1 [.slice (some ⟨g13, 0, none⟩) 1 c13] (by rfl) rfl (new_blk (hT.get 3 rfl).2) (one_slice _ _ _) (by unfold maxLen; omega) (by omega) hT.ext.size ?_; intro v7 w7 hown7 hg7 hb7)
                            have hp := (hT.push hg7 (by rw [hvl2]; exact hown7) hb7).pick2 1 0 rfl rfl (by decide)
                            go_roundw
                            case rel => exact ⟨i + 1, _, by go_num, by omega, hp.ext, (HNA.out _).trans HUN2.out, by rw [HEL.out.1, HEL.out.2.1, HEL.out.2.2]; exact hp⟩
                            case measure => simp [intOf]; omega
                          · skip
                            go_simp
                            refine hK.out _ _ ((alloc_ext _ _).cell hSX66) ?_
                            clear hK K
                            try simp only [Act.put, List.setIfInBounds_toArray, List.set_cons_zero, List.set_cons_succ]
                            obtain ⟨X72, hX⟩ : ∃ Y, Y = X66.alloc (.cells #[] 3) := ⟨_, rfl⟩
                            have hO72 := hO66.add (alloc_ext X66 (.cells #[] 3)) (A := .row 3 1 (.slice (some ⟨X66.heap.size, 0, none⟩) 0 0) 0 []) (World.ownsRow_lit (base := X66.heap.size) (e := 3) (size := 1) X66 #[] 0 (Nat.le_refl _) (by unfold maxLen; omega) rfl)
                            rw [← hX] at hO72
                            have hSX72 : X72.cell? ⟨gw2, n, none⟩ = some (.slice none 0 0) := by rw [hX]; exact (alloc_ext _ _).cell hSX66
                            rw [← hX]
                            clear hX hO66 hSX66
                            refine wpAnyB_ready (rs := [3]) (by kernel_rfl) (by simp) (AllB.cons rfl (fun K hK => ?_) AllB.nil)
                            refine step_append_own2 rfl _ _ 37 rfl Wb.heap.size 3 i3 (.int .i64 0) 1 8 Try.underlying37 hi3 hz3 hs3 hb3 rfl (by decide) (.slice (some ⟨gs2, 0, none⟩) ln cs2) ln (ordE es2) (by rfl) (hO72.get 3 rfl) ⟨_, 0, none⟩ 1 1 [.int .i64 tx] (by rfl) rfl (new_blk (hO72.get 1 rfl).2) (one_int _) (by unfold maxLen; omega) (by omega) hO72.ext.size ?_
                            intro v6 X73 hown6 hg6 hb6
                            obtain ⟨g6, c6, rfl⟩ := ownsRow_pos hown6 (by omega)
                            have hO73 := hO72.app 3 rfl hg6 hown6 hb6
                            have hO73 : OwnL Wb X73 [.row 3 1 (.slice (some ⟨X66.heap.size, 0, none⟩) 0 0) 0 [], .blk X65.heap.size (.cells #[.int .i64 tx] 3), .blk X0.heap.size (.cells #[.int .i64 (i : Int)] 3), .row 3 1 (.slice (some ⟨g6, 0, none⟩) (ln + 1) c6) (ln + 1) (ordE es2 ++ [.int .i64 tx]), .rows 37 3 1 (.slice (some ⟨gw2, 0, none⟩) ln cw2) vs2 (es2.map (fun e => intRow e.way))] := hO73
                            have hSX73 := cell_rows' hO73 4 rfl hjn
                            refine hK.out _ _ hSX73 ?_
                            clear hK K hg6 hb6 hown6 hO72 hSX72
                            try simp only [Act.put, List.setIfInBounds_toArray, List.set_cons_zero, List.set_cons_succ]
                            refine wpAnyB_ready (rs := [10]) (by kernel_rfl) (by simp) (AllB.cons rfl (fun K hK => ?_) AllB.nil)
                            refine step_append_none rfl _ _ 37 rfl Wb.heap.size 3 i3 1 Try.underlying37 hi3 (.slice (some ⟨X66.heap.size, 0, none⟩) 0 0) 0 [] (by rfl) (hO73.get 0 rfl) (by rfl) ?_
                            refine hK.out _ _ hSX73 ?_
                            clear hK K
                            try simp only [Act.put, List.setIfInBounds_toArray, List.set_cons_zero, List.set_cons_succ]
                            refine wpAnyB_ready (rs := [13]) (by kernel_rfl) (by simp) (AllB.cons rfl (fun K hK => ?_) AllB.nil)
                            refine step_append_own2 rfl _ _ 37 rfl Wb.heap.size 3 i3 (.int .i64 0) 1 8 Try.underlying37 hi3 hz3 hs3 hb3 rfl (by decide) (.slice (some ⟨X66.heap.size, 0, none⟩) 0 0) 0 [] (by rfl) (hO73.get 0 rfl) ⟨_, 0, none⟩ 1 1 [.int .i64 (i : Int)] (by rfl) rfl (new_blk (hO73.get 2 rfl).2) (one_int _) (by unfold maxLen; omega) (by omega) hO73.ext.size ?_
                            intro v13 X75 hown6 hg6 hb6
                            have hown6 : X75.ownsRow Wb.heap.size 3 1 v13 1 [.int .i64 (i : Int)] := hown6
                            obtain ⟨g13, c13, rfl⟩ := ownsRow_pos hown6 (by omega)
                            have hO75 := hO73.app 0 rfl hg6 hown6 hb6
                            have hO75 : OwnL Wb X75 [.row 3 1 (.slice (some ⟨g13, 0, none⟩) 1 c13) 1 [.int .i64 (i : Int)], .blk X65.heap.size (.cells #[.int .i64 tx] 3), .blk X0.heap.size (.cells #[.int .i64 (i : Int)] 3), .row 3 1 (.slice (some ⟨g6, 0, none⟩) (ln + 1) c6) (ln + 1) (ordE es2 ++ [.int .i64 tx]), .rows 37 3 1 (.slice (some ⟨gw2, 0, none⟩) ln cw2) vs2 (es2.map (fun e => intRow e.way))] := hO75
                            have hSX75 := cell_rows' hO75 4 rfl hjn
                            refine hK.out _ _ hSX75 ?_
                            clear hK K hg6 hb6 hown6 hO73 hSX73
                            try simp only [Act.put, List.setIfInBounds_toArray, List.set_cons_zero, List.set_cons_succ]
                            refine wpAnyB_ready (rs := [14]) (by kernel_rfl) (by simp) (AllB.cons rfl (fun K hK => ?_) AllB.nil)
                            go_simp
                            refine hK.out _ _ ((alloc_ext _ _).cell hSX75) ?_
                            clear hK K
                            try simp only [Act.put, List.setIfInBounds_toArray, List.set_cons_zero, List.set_cons_succ]
                            obtain ⟨X76, hX⟩ : ∃ Y, Y = X75.alloc (.cells #[.slice (some ⟨g13, 0, none⟩) 1 c13] 37) := ⟨_, rfl⟩
                            have hO76 := hO75.add (alloc_ext X75 (.cells #[.slice (some ⟨g13, 0, none⟩) 1 c13] 37)) (A := .blk X75.heap.size (.cells #[.slice (some ⟨g13, 0, none⟩) 1 c13] 37)) ⟨Nat.le_refl _, heap_alloc_new _ _⟩
                            rw [← hX] at hO76
                            have hSX76 : X76.cell? ⟨gw2, n, none⟩ = some (.slice none 0 0) := by rw [hX]; exact (alloc_ext _ _).cell hSX75
                            rw [← hX]
                            clear hX hO75 hSX75
                            refine wpAnyB_tail rfl rfl (by decide) (by kernel_rfl) ?_
                            have hT : OwnL Wb X76 [.row 3 1 (.slice (some ⟨g13, 0, none⟩) 1 c13) 1 [.int .i64 (i : Int)], .rows 37 3 1 (.slice (some ⟨gw2, 0, none⟩) ln cw2) vs2 (es2.map (fun e => intRow e.way)), .row 3 1 (.slice (some ⟨g6, 0, none⟩) (ln + 1) c6) (ln + 1) (ordE es2 ++ [.int .i64 tx]), .blk X75.heap.size (.cells #[.slice (some ⟨g13, 0, none⟩) 1 c13] 37)] := hO76.pick4 1 5 4 0 rfl rfl rfl rfl (by decide) (by decide) (by decide) (by decide) (by decide) (by decide)
                            clear hO76
                            have hownV := (hT.get 1 rfl : OwnRows X76 Wb.heap.size 37 3 1 (.slice (some ⟨gw2, 0, none⟩) ln cw2) vs2 (es2.map (fun e => intRow e.way))).own
                            rw [hvl2] at hownV
                            go_wp2_with (at_builtin; refine wpList_append_own2 rfl _ _ 75 rfl Wb.heap.size 37 i37 (.slice none 0 0) 1 24 Try.underlying75 hi37 hz37 hs37 hb37 rfl (by decide) (.slice (some ⟨gw2, 0, none⟩) ln cw2) ln vs2 (by rfl) hownV ⟨_, 0, none⟩ 1 1 [.slice (some ⟨g13, 0, none⟩) 1 c13] (by rfl) rfl (new_blk (hT.get 3 rfl).2) (one_slice _ _ _) (by unfold maxLen; omega) (by omega) hT.ext.size ?_; intro v7 w7 hown7 hg7 hb7)
                            have hp := (hT.push hg7 (by rw [hvl2]; exact hown7) hb7).pick2 1 0 rfl rfl (by decide)
                            go_roundw
                            case rel => exact ⟨i + 1, _, by go_num, by omega, hp.ext, (HNA.out _).trans HUN2.out, by rw [HEL.out.1, HEL.out.2.1, HEL.out.2.2]; exact hp⟩
                            case measure => simp [intOf]; omega
                        · skip
                          go_simp
                          refine hK.out _ _ ((alloc_ext _ _).cell hSX65) ?_
                          clear hK K
                          try simp only [Act.put, List.setIfInBounds_toArray, List.set_cons_zero, List.set_cons_succ]
                          obtain ⟨X77, hX⟩ : ∃ Y, Y = X65.alloc (.cells #[] 3) := ⟨_, rfl⟩
                          have hO77 := hO65.add (alloc_ext X65 (.cells #[] 3)) (A := .row 3 1 (.slice (some ⟨X65.heap.size, 0, none⟩) 0 0) 0 []) (World.ownsRow_lit (base := X65.heap.size) (e := 3) (size := 1) X65 #[] 0 (Nat.le_refl _) (by unfold maxLen; omega) rfl)
                          rw [← hX] at hO77
                          have hSX77 : X77.cell? ⟨gw2, n, none⟩ = some (.slice none 0 0) := by rw [hX]; exact (alloc_ext _ _).cell hSX65
                          rw [← hX]
                          clear hX hO65 hSX65
                          refine wpAnyB_ready (rs := [2]) (by kernel_rfl) (by simp) (AllB.cons rfl (fun K hK => ?_) AllB.nil)
                          go_simp
                          refine hK.out _ _ ((alloc_ext _ _).cell hSX77) ?_
                          clear hK K
                          try simp only [Act.put, List.setIfInBounds_toArray, List.set_cons_zero, List.set_cons_succ]
                          obtain ⟨X78, hX⟩ : ∃ Y, Y = X77.alloc (.cells #[.int .i64 tx] 3) := ⟨_, rfl⟩
                          have hO78 := hO77.add (alloc_ext X77 (.cells #[.int .i64 tx] 3)) (A := .blk X77.heap.size (.cells #[.int .i64 tx] 3)) ⟨Nat.le_refl _, heap_alloc_new _ _⟩
                          rw [← hX] at hO78
                          have hSX78 : X78.cell? ⟨gw2, n, none⟩ = some (.slice none 0 0) := by rw [hX]; exact (alloc_ext _ _).cell hSX77
                          rw [← hX]
                          clear hX hO77 hSX77
                          refine wpAnyB_ready (rs := [3]) (by kernel_rfl) (by simp) (AllB.cons rfl (fun K hK => ?_) AllB.nil)
                          refine step_append_own2 rfl _ _ 37 rfl Wb.heap.size 3 i3 (.int .i64 0) 1 8 Try.underlying37 hi3 hz3 hs3 hb3 rfl (by decide) (.slice (some ⟨gs2, 0, none⟩) ln cs2) ln (ordE es2) (by rfl) (hO78.get 3 rfl) ⟨_, 0, none⟩ 1 1 [.int .i64 tx] (by rfl) rfl (new_blk (hO78.get 0 rfl).2) (one_int _) (by unfold maxLen; omega) (by omega) hO78.ext.size ?_
                          intro v6 X79 hown6 hg6 hb6
                          obtain ⟨g6, c6, rfl⟩ := ownsRow_pos hown6 (by omega)
                          have hO79 := hO78.app 3 rfl hg6 hown6 hb6
                          have hO79 : OwnL Wb X79 [.blk X77.heap.size (.cells #[.int .i64 tx] 3), .row 3 1 (.slice (some ⟨X65.heap.size, 0, none⟩) 0 0) 0 [], .blk X0.heap.size (.cells #[.int .i64 (i : Int)] 3), .row 3 1 (.slice (some ⟨g6, 0, none⟩) (ln + 1) c6) (ln + 1) (ordE es2 ++ [.int .i64 tx]), .rows 37 3 1 (.slice (some ⟨gw2, 0, none⟩) ln cw2) vs2 (es2.map (fun e => intRow e.way))] := hO79
                          have hSX79 := cell_rows' hO79 4 rfl hjn
                          refine hK.out _ _ hSX79 ?_
                          clear hK K hg6 hb6 hown6 hO78 hSX78
                          try simp only [Act.put, List.setIfInBounds_toArray, List.set_cons_zero, List.set_cons_succ]
                          refine wpAnyB_ready (rs := [10]) (by kernel_rfl) (by simp) (AllB.cons rfl (fun K hK => ?_) AllB.nil)
                          refine step_append_none rfl _ _ 37 rfl Wb.heap.size 3 i3 1 Try.underlying37 hi3 (.slice (some ⟨X65.heap.size, 0, none⟩) 0 0) 0 [] (by rfl) (hO79.get 1 rfl) (by rfl) ?_
                          refine hK.out _ _ hSX79 ?_
                          clear hK K
                          try simp only [Act.put, List.setIfInBounds_toArray, List.set_cons_zero, List.set_cons_succ]
                          refine wpAnyB_ready (rs := [13]) (by kernel_rfl) (by simp) (AllB.cons rfl (fun K hK => ?_) AllB.nil)
                          refine step_append_own2 rfl _ _ 37 rfl Wb.heap.size 3 i3 (.int .i64 0) 1 8 Try.underlying37 hi3 hz3 hs3 hb3 rfl (by decide) (.slice (some ⟨X65.heap.size, 0, none⟩) 0 0) 0 [] (by rfl) (hO79.get 1 rfl) ⟨_, 0, none⟩ 1 1 [.int .i64 (i : Int)] (by rfl) rfl (new_blk (hO79.get 2 rfl).2) (one_int _) (by unfold maxLen; omega) (by omega) hO79.ext.size ?_
                          intro v13 X81 hown6 hg6 hb6
                          have hown6 : X81.ownsRow Wb.heap.size 3 1 v13 1 [.int .i64 (i : Int)] := hown6
                          obtain ⟨g13, c13, rfl⟩ := ownsRow_pos hown6 (by omega)
                          have hO81 := hO79.app 1 rfl hg6 hown6 hb6
                          have hO81 : OwnL Wb X81 [.blk X77.heap.size (.cells #[.int .i64 tx] 3), .row 3 1 (.slice (some ⟨g13, 0, none⟩) 1 c13) 1 [.int .i64 (i : Int)], .blk X0.heap.size (.cells #[.int .i64 (i : Int)] 3), .row 3 1 (.slice (some ⟨g6, 0, none⟩) (ln + 1) c6) (ln + 1) (ordE es2 ++ [.int .i64 tx]), .rows 37 3 1 (.slice (some ⟨gw2, 0, none⟩) ln cw2) vs2 (es2.map (fun e => intRow e.way))] := hO81
                          have hSX81 := cell_rows' hO81 4 rfl hjn
                          refine hK.out _ _ hSX81 ?_
                          clear hK K hg6 hb6 hown6 hO79 hSX79
                          try simp only [Act.put, List.setIfInBounds_toArray, List.set_cons_zero, List.set_cons_succ]
                          refine wpAnyB_ready (rs := [14]) (by kernel_rfl) (by simp) (AllB.cons rfl (fun K hK => ?_) AllB.nil)
                          go_simp
                          refine hK.out _ _ ((alloc_ext _ _).cell hSX81) ?_
                          clear hK K
                          try simp only [Act.put, List.setIfInBounds_toArray, List.set_cons_zero, List.set_cons_succ]
                          obtain ⟨X82, hX⟩ : ∃ Y, Y = X81.alloc (.cells #[.slice (some ⟨g13, 0, none⟩) 1 c13] 37) := ⟨_, rfl⟩
                          have hO82 := hO81.add (alloc_ext X81 (.cells #[.slice (some ⟨g13, 0, none⟩) 1 c13] 37)) (A := .blk X81.heap.size (.cells #[.slice (some ⟨g13, 0, none⟩) 1 c13] 37)) ⟨Nat.le_refl _, heap_alloc_new _ _⟩
                          rw [← hX] at hO82
                          have hSX82 : X82.cell? ⟨gw2, n, none⟩ = some (.slice none 0 0) := by rw [hX]; exact (alloc_ext _ _).cell hSX81
                          rw [← hX]
                          clear hX hO81 hSX81
                          refine wpAnyB_tail rfl rfl (by decide) (by kernel_rfl) ?_
                          have hT : OwnL Wb X82 [.row 3 1 (.slice (some ⟨g13, 0, none⟩) 1 c13) 1 [.int .i64 (i : Int)], .rows 37 3 1 (.slice (some ⟨gw2, 0, none⟩) ln cw2) vs2 (es2.map (fun e => intRow e.way)), .row 3 1 (.slice (some ⟨g6, 0, none⟩) (ln + 1) c6) (ln + 1) (ordE es2 ++ [.int .i64 tx]), .blk X81.heap.size (.cells #[.slice (some ⟨g13, 0, none⟩) 1 c13] 37)] := hO82.pick4 2 5 4 0 rfl rfl rfl rfl (by decide) (by decide) (by decide) (by decide) (by decide) (by decide)
                          clear hO82
                          have hownV := (hT.get 1 rfl : OwnRows X82 Wb.heap.size 37 3 1 (.slice (some ⟨gw2, 0, none⟩) ln cw2) vs2 (es2.map (fun e => intRow e.way))).own
                          rw [hvl2] at hownV
                          go_wp2_with (at_builtin; refine wpList_append_own2 rfl _ _ 75 rfl Wb.heap.size 37 i37 (.slice none 0 0) 1 24 Try.underlying75 hi37 hz37 hs37 hb37 rfl (by decide) (.slice (some ⟨gw2, 0, none⟩) ln cw2) ln vs2 (by rfl) hownV ⟨_, 0, none⟩ 1 1 [.slice (some ⟨g13, 0, none⟩) 1 c13] (by rfl) rfl (new_blk (hT.get 3 rfl).2) (one_slice _ _ _) (by unfold maxLen; omega) (by omega) hT.ext.size ?_; intro v7 w7 hown7 hg7 hb7)
                          have hp := (hT.push hg7 (by rw [hvl2]; exact hown7) hb7).pick2 1 0 rfl rfl (by decide)
                          go_roundw
                          case rel => exact ⟨i + 1, _, by go_num, by omega, hp.ext, (HNA.out _).trans HUN2.out, by rw [HEL.out.1, HEL.out.2.1, HEL.out.2.2]; exact hp⟩
                          case measure => simp [intOf]; omega
                    | some ad =>
                      obtain ⟨gn, rfl⟩ : ∃ gn, ad = ⟨gn, 0, none⟩ := by
                        rcases ((hO6.get 1 rfl : OwnRows W6 Wb.heap.size 37 3 1 (.slice (some ⟨gw2, 0, none⟩) ln cw2) vs2 (es2.map (fun e => intRow e.way))).each n _ _ hjn hjr).2 with ⟨h1, _⟩ | ⟨g, cap, cur, h1, _⟩
                        · cases h1
                        · cases h1; exact ⟨g, rfl⟩
                      have HEL : Hid ((rowAt c rw_ es (i + 1)).length = ln + 1 ∧ ordE (rowAt c rw_ es (i + 1)) = ordE es2 ++ [.int .i64 tx] ∧ (rowAt c rw_ es (i + 1)).map (fun e => intRow e.way) = es2.map (fun e => intRow e.way) ++ [(c.way.length + 1, c.way.map (.int .i64) ++ [.int .i64 (i : Int)])]) := by
                        have := HEL0.out
                        unfold intRow at this ⊢
                        rw [List.length_append, List.map_append] at this
                        exact this
                      obtain ⟨kn, hkn0⟩ : ∃ kn, kn = c.way.length := ⟨_, rfl⟩
                      have hkn : c.way.length = kn := hkn0.symm
                      rw [hkn] at hjn hjr HEL hwl2
                      obtain ⟨wy, hwy⟩ : ∃ wy, wy = c.way := ⟨_, rfl⟩
                      rw [← hwy] at hjr HEL hkn
                      have HKN := Lib.hid hkn
                      clear hkn0 hwy
                      --[some
                      refine wp_region_bar 15 (fun w => w.cell? ⟨gw2, n, none⟩ = some (.slice (some ⟨gn, 0, none⟩) kn cu)) (by kernel_rfl) ?_
                      obtain ⟨X0, hX⟩ : ∃ Y, Y = W6.drew := ⟨_, rfl⟩
                      have hO0 : OwnL Wb X0 [.row 3 1 (.slice (some ⟨gs2, 0, none⟩) ln cs2) ln (ordE es2), .rows 37 3 1 (.slice (some ⟨gw2, 0, none⟩) ln cw2) vs2 (es2.map (fun e => intRow e.way))] := by rw [hX]; exact hO6.trans (Ext.refl W6).drew
                      have hSX0 := cell_rows' hO0 1 rfl hjn
                      rw [← hX]
                      clear hX hO6
                      refine wpAnyB_take (i := 0) (v := ?_) rfl (by kernel_rfl) (by kernel_rfl) (by kernel_rfl) (by kernel_rfl) (fun _ _ _ h => h) (Or.inl ⟨by rfl, ?_⟩) hSX0 ?_
                      rotate_left
                      · (intro w hSw; go_simp; first | done | with_reducible rfl)
                      try simp only [Act.put, List.setIfInBounds_toArray, List.set_cons_zero, List.set_cons_succ]
                      refine wpAnyB_take (i := 1) (v := ?_) rfl (by kernel_rfl) (by kernel_rfl) (by kernel_rfl) (by kernel_rfl) (fun _ _ _ h => h) (Or.inl ⟨by rfl, ?_⟩) hSX0 ?_
                      rotate_left
                      · (intro w hSw; go_simp; first | done | with_reducible rfl)
                      try simp only [Act.put, List.setIfInBounds_toArray, List.set_cons_zero, List.set_cons_succ]
                      refine wpAnyB_take (i := 4) (v := ?_) rfl (by kernel_rfl) (by kernel_rfl) (by kernel_rfl) (by kernel_rfl) (fun _ _ _ h => h) (Or.inl ⟨by rfl, ?_⟩) hSX0 ?_
                      rotate_left
                      · (intro w hSw; go_simp; first | done | with_reducible rfl)
                      try simp only [Act.put, List.setIfInBounds_toArray, List.set_cons_zero, List.set_cons_succ]
                      refine wpAnyB_take (i := 6) (v := ?_) rfl (by kernel_rfl) (by kernel_rfl) (by kernel_rfl) (by kernel_rfl) (fun _ _ _ h => h) (Or.inl ⟨by rfl, ?_⟩) hSX0 ?_
                      rotate_left
                      · (intro w hSw; go_simp; first | done | with_reducible rfl)
                      try simp only [Act.put, List.setIfInBounds_toArray, List.set_cons_zero, List.set_cons_succ]
                      refine wpAnyB_take (i := 7) (v := ?_) rfl (by kernel_rfl) (by kernel_rfl) (by kernel_rfl) (by kernel_rfl) (fun _ _ _ h => h) (Or.inl ⟨by rfl, ?_⟩) hSX0 ?_
                      rotate_left
                      · (intro w hSw; go_simp; first | done | with_reducible rfl)
                      try simp only [Act.put, List.setIfInBounds_toArray, List.set_cons_zero, List.set_cons_succ]
                      refine wpAnyB_take (i := 8) (v := ?_) rfl (by kernel_rfl) (by kernel_rfl) (by kernel_rfl) (by kernel_rfl) (fun _ _ _ h => h) (Or.inl ⟨by rfl, ?_⟩) hSX0 ?_
                      rotate_left
                      · (intro w hSw; go_simp; first | done | with_reducible rfl)
                      try simp only [Act.put, List.setIfInBounds_toArray, List.set_cons_zero, List.set_cons_succ]
                      refine wpAnyB_take (i := 9) (v := ?_) rfl (by kernel_rfl) (by kernel_rfl) (by kernel_rfl) (by kernel_rfl) (fun _ _ _ h => h) (Or.inl ⟨by rfl, ?_⟩) hSX0 ?_
                      rotate_left
                      · (intro w hSw; go_simp; first | done | with_reducible rfl)
                      try simp only [Act.put, List.setIfInBounds_toArray, List.set_cons_zero, List.set_cons_succ]
                      refine wpAnyB_take (i := 11) (v := ?_) rfl (by kernel_rfl) (by kernel_rfl) (by kernel_rfl) (by kernel_rfl) (fun _ _ _ h => h) (Or.inl ⟨by rfl, ?_⟩) hSX0 ?_
                      rotate_left
                      · (intro w hSw; go_simp; first | done | with_reducible rfl)
                      try simp only [Act.put, List.setIfInBounds_toArray, List.set_cons_zero, List.set_cons_succ]
                      refine wpAnyB_ready (rs := [2, 5, 12]) (by kernel_rfl) (by simp) (AllB.cons rfl (fun K hK => ?_) (AllB.cons rfl (fun K hK => ?_) (AllB.cons rfl (fun K hK => ?_) AllB.nil)))
                      · skip
                        go_simp
                        refine hK.out _ _ ((alloc_ext _ _).cell hSX0) ?_
                        clear hK K
                        try simp only [Act.put, List.setIfInBounds_toArray, List.set_cons_zero, List.set_cons_succ]
                        obtain ⟨X1, hX⟩ : ∃ Y, Y = X0.alloc (.cells #[.int .i64 tx] 3) := ⟨_, rfl⟩
                        have hO1 := hO0.add (alloc_ext X0 (.cells #[.int .i64 tx] 3)) (A := .blk X0.heap.size (.cells #[.int .i64 tx] 3)) ⟨Nat.le_refl _, heap_alloc_new _ _⟩
                        rw [← hX] at hO1
                        have hSX1 : X1.cell? ⟨gw2, n, none⟩ = some (.slice (some ⟨gn, 0, none⟩) kn cu) := by rw [hX]; exact (alloc_ext _ _).cell hSX0
                        rw [← hX]
                        clear hX hO0 hSX0
                        refine wpAnyB_ready (rs := [3, 5, 12]) (by kernel_rfl) (by simp) (AllB.cons rfl (fun K hK => ?_) (AllB.cons rfl (fun K hK => ?_) (AllB.cons rfl (fun K hK => ?_) AllB.nil)))
                        · skip
                          refine step_append_own2 rfl _ _ 37 rfl Wb.heap.size 3 i3 (.int .i64 0) 1 8 Try.underlying37 hi3 hz3 hs3 hb3 rfl (by decide) (.slice (some ⟨gs2, 0, none⟩) ln cs2) ln (ordE es2) (by rfl) (hO1.get 1 rfl) ⟨_, 0, none⟩ 1 1 [.int .i64 tx] (by rfl) rfl (new_blk (hO1.get 0 rfl).2) (one_int _) (by unfold maxLen; omega) (by omega) hO1.ext.size ?_
                          intro v6 X2 hown6 hg6 hb6
                          obtain ⟨g6, c6, rfl⟩ := ownsRow_pos hown6 (by omega)
                          have hO2 := hO1.app 1 rfl hg6 hown6 hb6
                          have hO2 : OwnL Wb X2 [.blk X0.heap.size (.cells #[.int .i64 tx] 3), .row 3 1 (.slice (some ⟨g6, 0, none⟩) (ln + 1) c6) (ln + 1) (ordE es2 ++ [.int .i64 tx]), .rows 37 3 1 (.slice (some ⟨gw2, 0, none⟩) ln cw2) vs2 (es2.map (fun e => intRow e.way))] := hO2
                          have hSX2 := cell_rows' hO2 2 rfl hjn
                          refine hK.out _ _ hSX2 ?_
                          clear hK K hg6 hb6 hown6 hO1 hSX1
                          try simp only [Act.put, List.setIfInBounds_toArray, List.set_cons_zero, List.set_cons_succ]
                          refine wpAnyB_ready (rs := [5, 12]) (by kernel_rfl) (by simp) (AllB.cons rfl (fun K hK => ?_) (AllB.cons rfl (fun K hK => ?_) AllB.nil))
                          · skip
                            go_simp
                            refine hK.out _ _ ((alloc_ext _ _).cell hSX2) ?_
                            clear hK K
                            try simp only [Act.put, List.setIfInBounds_toArray, List.set_cons_zero, List.set_cons_succ]
                            obtain ⟨X3, hX⟩ : ∃ Y, Y = X2.alloc (.cells #[] 3) := ⟨_, rfl⟩
                            have hO3 := hO2.add (alloc_ext X2 (.cells #[] 3)) (A := .row 3 1 (.slice (some ⟨X2.heap.size, 0, none⟩) 0 0) 0 []) (World.ownsRow_lit (base := X2.heap.size) (e := 3) (size := 1) X2 #[] 0 (Nat.le_refl _) (by unfold maxLen; omega) rfl)
                            rw [← hX] at hO3
                            have hSX3 : X3.cell? ⟨gw2, n, none⟩ = some (.slice (some ⟨gn, 0, none⟩) kn cu) := by rw [hX]; exact (alloc_ext _ _).cell hSX2
                            rw [← hX]
                            clear hX hO2 hSX2
                            refine wpAnyB_ready (rs := [10, 12]) (by kernel_rfl) (by simp) (AllB.cons rfl (fun K hK => ?_) (AllB.cons rfl (fun K hK => ?_) AllB.nil))
                            · skip
                              refine step_append_own2 rfl _ _ 37 rfl Wb.heap.size 3 i3 (.int .i64 0) 1 8 Try.underlying37 hi3 hz3 hs3 hb3 rfl (by decide) (.slice (some ⟨X2.heap.size, 0, none⟩) 0 0) 0 [] (by rfl) (hO3.get 0 rfl) ⟨gn, 0, none⟩ kn cu (wy.map (.int .i64)) (by rfl) (by simp; exact hkn) (rows_news hO3 3 rfl hjn hjr) (all_ints _) (by unfold maxLen; omega) (by omega) hO3.ext.size ?_
                              intro v10 X4 hown6 hg6 hb6
                              rw [Nat.zero_add, List.nil_append] at hown6
                              obtain ⟨A10, c10, rfl⟩ := own_form hown6
                              have hO4 := hO3.app 0 rfl hg6 hown6 hb6
                              have hO4 : OwnL Wb X4 [.row 3 1 (.slice A10 kn c10) kn (wy.map (.int .i64)), .blk X0.heap.size (.cells #[.int .i64 tx] 3), .row 3 1 (.slice (some ⟨g6, 0, none⟩) (ln + 1) c6) (ln + 1) (ordE es2 ++ [.int .i64 tx]), .rows 37 3 1 (.slice (some ⟨gw2, 0, none⟩) ln cw2) vs2 (es2.map (fun e => intRow e.way))] := hO4
                              have hSX4 := cell_rows' hO4 3 rfl hjn
                              refine hK.out _ _ hSX4 ?_
                              clear hK K hg6 hb6 hown6 hO3 hSX3
                              try simp only [Act.put, List.setIfInBounds_toArray, List.set_cons_zero, List.set_cons_succ]
                              refine wpAnyB_ready (rs := [12]) (by kernel_rfl) (by simp) (AllB.cons rfl (fun K hK => ?_) AllB.nil)
                              go_simp
                              refine hK.out _ _ ((alloc_ext _ _).cell hSX4) ?_
                              clear hK K
                              try simp only [Act.put, List.setIfInBounds_toArray, List.set_cons_zero, List.set_cons_succ]
                              obtain ⟨X5, hX⟩ : ∃ Y, Y = X4.alloc (.cells #[.int .i64 (i : Int)] 3) := ⟨_, rfl⟩
                              have hO5 := hO4.add (alloc_ext X4 (.cells #[.int .i64 (i : Int)] 3)) (A := .blk X4.heap.size (.cells #[.int .i64 (i : Int)] 3)) ⟨Nat.le_refl _, heap_alloc_new _ _⟩
                              rw [← hX] at hO5
                              have hSX5 : X5.cell? ⟨gw2, n, none⟩ = some (.slice (some ⟨gn, 0, none⟩) kn cu) := by rw [hX]; exact (alloc_ext _ _).cell hSX4
                              rw [← hX]
                              clear hX hO4 hSX4
                              refine wpAnyB_ready (rs := [13]) (by kernel_rfl) (by simp) (AllB.cons rfl (fun K hK => ?_) AllB.nil)
                              refine step_append_own2 rfl _ _ 37 rfl Wb.heap.size 3 i3 (.int .i64 0) 1 8 Try.underlying37 hi3 hz3 hs3 hb3 rfl (by decide) (.slice A10 kn c10) kn (wy.map (.int .i64)) (by rfl) (hO5.get 1 rfl) ⟨_, 0, none⟩ 1 1 [.int .i64 (i : Int)] (by rfl) rfl (new_blk (hO5.get 0 rfl).2) (one_int _) (by unfold maxLen; omega) (by omega) hO5.ext.size ?_
                              intro v13 X6 hown6 hg6 hb6
                              obtain ⟨g13, c13, rfl⟩ := ownsRow_pos hown6 (by omega)
                              have hO6 := hO5.app 1 rfl hg6 hown6 hb6
                              have hO6 : OwnL Wb X6 [.blk X4.heap.size (.cells #[.int .i64 (i : Int)] 3), .row 3 1 (.slice (some ⟨g13, 0, none⟩) (kn + 1) c13) (kn + 1) (wy.map (.int .i64) ++ [.int .i64 (i : Int)]), .blk X0.heap.size (.cells #[.int .i64 tx] 3), .row 3 1 (.slice (some ⟨g6, 0, none⟩) (ln + 1) c6) (ln + 1) (ordE es2 ++ [.int .i64 tx]), .rows 37 3 1 (.slice (some ⟨gw2, 0, none⟩) ln cw2) vs2 (es2.map (fun e => intRow e.way))] := hO6
                              have hSX6 := cell_rows' hO6 4 rfl hjn
                              refine hK.out _ _ hSX6 ?_
                              clear hK K hg6 hb6 hown6 hO5 hSX5
                              try simp only [Act.put, List.setIfInBounds_toArray, List.set_cons_zero, List.set_cons_succ]
                              refine wpAnyB_ready (rs := [14]) (by kernel_rfl) (by simp) (AllB.cons rfl (fun K hK => ?_) AllB.nil)
                              go_simp
                              refine hK.out _ _ ((alloc_ext _ _).cell hSX6) ?_
                              clear hK K
                              try simp only [Act.put, List.setIfInBounds_toArray, List.set_cons_zero, List.set_cons_succ]
                              obtain ⟨X7, hX⟩ : ∃ Y, Y = X6.alloc (.cells #[.slice (some ⟨g13, 0, none⟩) (kn + 1) c13] 37) := ⟨_, rfl⟩
                              have hO7 := hO6.add (alloc_ext X6 (.cells #[.slice (some ⟨g13, 0, none⟩) (kn + 1) c13] 37)) (A := .blk X6.heap.size (.cells #[.slice (some ⟨g13, 0, none⟩) (kn + 1) c13] 37)) ⟨Nat.le_refl _, heap_alloc_new _ _⟩
                              rw [← hX] at hO7
                              have hSX7 : X7.cell? ⟨gw2, n, none⟩ = some (.slice (some ⟨gn, 0, none⟩) kn cu) := by rw [hX]; exact (alloc_ext _ _).cell hSX6
                              rw [← hX]
                              clear hX hO6 hSX6
                              refine wpAnyB_tail rfl rfl (by decide) (by kernel_rfl) ?_
                              have hT : OwnL Wb X7 [.row 3 1 (.slice (some ⟨g13, 0, none⟩) (kn + 1) c13) (kn + 1) (wy.map (.int .i64) ++ [.int .i64 (i : Int)]), .rows 37 3 1 (.slice (some ⟨gw2, 0, none⟩) ln cw2) vs2 (es2.map (fun e => intRow e.way)), .row 3 1 (.slice (some ⟨g6, 0, none⟩) (ln + 1) c6) (ln + 1) (ordE es2 ++ [.int .i64 tx]), .blk X6.heap.size (.cells #[.slice (some ⟨g13, 0, none⟩) (kn + 1) c13] 37)] := hO7.pick4 2 5 4 0 rfl rfl rfl rfl (by decide) (by decide) (by decide) (by decide) (by decide) (by decide)
                              clear hO7
                              have hownV := (hT.get 1 rfl : OwnRows X7 Wb.heap.size 37 3 1 (.slice (some ⟨gw2, 0, none⟩) ln cw2) vs2 (es2.map (fun e => intRow e.way))).own
                              rw [hvl2] at hownV
                              go_wp2_with (at_builtin; refine wpList_append_own2 rfl _ _ 75 rfl Wb.heap.size 37 i37 (.slice none 0 0) 1 24 Try.underlying75 hi37 hz37 hs37 hb37 rfl (by decide) (.slice (some ⟨gw2, 0, none⟩) ln cw2) ln vs2 (by rfl) hownV ⟨_, 0, none⟩ 1 1 [.slice (some ⟨g13, 0, none⟩) (kn + 1) c13] (by rfl) rfl (new_blk (hT.get 3 rfl).2) (one_slice _ _ _) (by unfold maxLen; omega) (by omega) hT.ext.size ?_; intro v7 w7 hown7 hg7 hb7)
                              have hp := (hT.push hg7 (by rw [hvl2]; exact hown7) hb7).pick2 1 0 rfl rfl (by decide)
                              go_roundw
                              case rel => exact ⟨i + 1, _, by go_num, by omega, hp.ext, (HNA.out _).trans HUN2.out, by rw [HEL.out.1, HEL.out.2.1, HEL.out.2.2]; exact hp⟩
                              case measure => simp [intOf]; omega
                            · skip
                              go_simp
                              refine hK.out _ _ ((alloc_ext _ _).cell hSX3) ?_
                              clear hK K
                              try simp only [Act.put, List.setIfInBounds_toArray, List.set_cons_zero, List.set_cons_succ]
                              obtain ⟨X8, hX⟩ : ∃ Y, Y = X3.alloc (.cells #[.int .i64 (i : Int)] 3) := ⟨_, rfl⟩
                              have hO8 := hO3.add (alloc_ext X3 (.cells #[.int .i64 (i : Int)] 3)) (A := .blk X3.heap.size (.cells #[.int .i64 (i : Int)] 3)) ⟨Nat.le_refl _, heap_alloc_new _ _⟩
                              rw [← hX] at hO8
                              have hSX8 : X8.cell? ⟨gw2, n, none⟩ = some (.slice (some ⟨gn, 0, none⟩) kn cu) := by rw [hX]; exact (alloc_ext _ _).cell hSX3
                              rw [← hX]
                              clear hX hO3 hSX3
                              refine wpAnyB_ready (rs := [10]) (by kernel_rfl) (by simp) (AllB.cons rfl (fun K hK => ?_) AllB.nil)
                              refine step_append_own2 rfl _ _ 37 rfl Wb.heap.size 3 i3 (.int .i64 0) 1 8 Try.underlying37 hi3 hz3 hs3 hb3 rfl (by decide) (.slice (some ⟨X2.heap.size, 0, none⟩) 0 0) 0 [] (by rfl) (hO8.get 1 rfl) ⟨gn, 0, none⟩ kn cu (wy.map (.int .i64)) (by rfl) (by simp; exact hkn) (rows_news hO8 4 rfl hjn hjr) (all_ints _) (by unfold maxLen; omega) (by omega) hO8.ext.size ?_
                              intro v10 X9 hown6 hg6 hb6
                              rw [Nat.zero_add, List.nil_append] at hown6
                              obtain ⟨A10, c10, rfl⟩ := own_form hown6
                              have hO9 := hO8.app 1 rfl hg6 hown6 hb6
                              have hO9 : OwnL Wb X9 [.blk X3.heap.size (.cells #[.int .i64 (i : Int)] 3), .row 3 1 (.slice A10 kn c10) kn (wy.map (.int .i64)), .blk X0.heap.size (.cells #[.int .i64 tx] 3), .row 3 1 (.slice (some ⟨g6, 0, none⟩) (ln + 1) c6) (ln + 1) (ordE es2 ++ [.int .i64 tx]), .rows 37 3 1 (.slice (some ⟨gw2, 0, none⟩) ln cw2) vs2 (es2.map (fun e => intRow e.way))] := hO9
                              have hSX9 := cell_rows' hO9 4 rfl hjn
                              refine hK.out _ _ hSX9 ?_
                              clear hK K hg6 hb6 hown6 hO8 hSX8
                              try simp only [Act.put, List.setIfInBounds_toArray, List.set_cons_zero, List.set_cons_succ]
                              refine wpAnyB_ready (rs := [13]) (by kernel_rfl) (by simp) (AllB.cons rfl (fun K hK => ?_) AllB.nil)
                              refine step_append_own2 rfl _ _ 37 rfl Wb.heap.size 3 i3 (.int .i64 0) 1 8 Try.underlying37 hi3 hz3 hs3 hb3 rfl (by decide) (.slice A10 kn c10) kn (wy.map (.int .i64)) (by rfl) (hO9.get 1 rfl) ⟨_, 0, none⟩ 1 1 [.int .i64 (i : Int)] (by rfl) rfl (new_blk (hO9.get 0 rfl).2) (one_int _) (by unfold maxLen; omega) (by omega) hO9.ext.size ?_
                              intro v13 X10 hown6 hg6 hb6
                              obtain ⟨g13, c13, rfl⟩ := ownsRow_pos hown6 (by omega)
                              have hO10 := hO9.app 1 rfl hg6 hown6 hb6
                              have hO10 : OwnL Wb X10 [.blk X3.heap.size (.cells #[.int .i64 (i : Int)] 3), .row 3 1 (.slice (some ⟨g13, 0, none⟩) (kn + 1) c13) (kn + 1) (wy.map (.int .i64) ++ [.int .i64 (i : Int)]), .blk X0.heap.size (.cells #[.int .i64 tx] 3), .row 3 1 (.slice (some ⟨g6, 0, none⟩) (ln + 1) c6) (ln + 1) (ordE es2 ++ [.int .i64 tx]), .rows 37 3 1 (.slice (some ⟨gw2, 0, none⟩) ln cw2) vs2 (es2.map (fun e => intRow e.way))] := hO10
                              have hSX10 := cell_rows' hO10 4 rfl hjn
                              refine hK.out _ _ hSX10 ?_
                              clear hK K hg6 hb6 hown6 hO9 hSX9
                              try simp only [Act.put, List.setIfInBounds_toArray, List.set_cons_zero, List.set_cons_succ]
                              refine wpAnyB_ready (rs := [14]) (by kernel_rfl) (by simp) (AllB.cons rfl (fun K hK => ?_) AllB.nil)
                              go_simp
                              refine hK.out _ _ ((alloc_ext _ _).cell hSX10) ?_
                              clear hK K
                              try simp only [Act.put, List.setIfInBounds_toArray, List.set_cons_zero, List.set_cons_succ]
                              obtain ⟨X11, hX⟩ : ∃ Y, Y = X10.alloc (.cells #[.slice (some ⟨g13, 0, none⟩) (kn + 1) c13] 37) := ⟨_, rfl⟩
                              have hO11 := hO10.add (alloc_ext X10 (.cells #[.slice (some ⟨g13, 0, none⟩) (kn + 1) c13] 37)) (A := .blk X10.heap.size (.cells #[.slice (some ⟨g13, 0, none⟩) (kn + 1) c13] 37)) ⟨Nat.le_refl _, heap_alloc_new _ _⟩
                              rw [← hX] at hO11
                              have hSX11 : X11.cell? ⟨gw2, n, none⟩ = some (.slice (some ⟨gn, 0, none⟩) kn cu) := by rw [hX]; exact (alloc_ext _ _).cell hSX10
                              rw [← hX]
                              clear hX hO10 hSX10
                              refine wpAnyB_tail rfl rfl (by decide) (by kernel_rfl) ?_
                              have hT : OwnL Wb X11 [.row 3 1 (.slice (some ⟨g13, 0, none⟩) (kn + 1) c13) (kn + 1) (wy.map (.int .i64) ++ [.int .i64 (i : Int)]), .rows 37 3 1 (.slice (some ⟨gw2, 0, none⟩) ln cw2) vs2 (es2.map (fun e => intRow e.way)), .row 3 1 (.slice (some ⟨g6, 0, none⟩) (ln + 1) c6) (ln + 1) (ordE es2 ++ [.int .i64 tx]), .blk X10.heap.size (.cells #[.slice (some ⟨g13, 0, none⟩) (kn + 1) c13] 37)] := hO11.pick4 2 5 4 0 rfl rfl rfl rfl (by decide) (by decide) (by decide) (by decide) (by decide) (by decide)
                              clear hO11
                              have hownV := (hT.get 1 rfl : OwnRows X11 Wb.heap.size 37 3 1 (.slice (some ⟨gw2, 0, none⟩) ln cw2) vs2 (es2.map (fun e => intRow e.way))).own
                              rw [hvl2] at hownV
                              go_wp2_with (at_builtin; refine wpList_append_own2 rfl _ _ 75 rfl Wb.heap.size 37 i37 (.slice none 0 0) 1 24 Try.underlying75 hi37 hz37 hs37 hb37 rfl (by decide) (.slice (some ⟨gw2, 0, none⟩) ln cw2) ln vs2 (by rfl) hownV ⟨_, 0, none⟩ 1 1 [.slice (some ⟨g13, 0, none⟩) (kn + 1) c13] (by rfl) rfl (new_blk (hT.get 3 rfl).2) (one_slice _ _ _) (by unfold maxLen; omega) (by omega) hT.ext.size ?_; intro v7 w7 hown7 hg7 hb7)
                              have hp := (hT.push hg7 (by rw [hvl2]; exact hown7) hb7).pick2 1 0 rfl rfl (by decide)
                              go_roundw
                              case rel => exact ⟨i + 1, _, by go_num, by omega, hp.ext, (HNA.out _).trans HUN2.out, by rw [HEL.out.1, HEL.out.2.1, HEL.out.2.2]; exact hp⟩
                              case measure => simp [intOf]; omega
                          · skip
                            go_simp
                            refine hK.out _ _ ((alloc_ext _ _).cell hSX2) ?_
                            clear hK K
                            try simp only [Act.put, List.setIfInBounds_toArray, List.set_cons_zero, List.set_cons_succ]
                            obtain ⟨X12, hX⟩ : ∃ Y, Y = X2.alloc (.cells #[.int .i64 (i : Int)] 3) := ⟨_, rfl⟩
                            have hO12 := hO2.add (alloc_ext X2 (.cells #[.int .i64 (i : Int)] 3)) (A := .blk X2.heap.size (.cells #[.int .i64 (i : Int)] 3)) ⟨Nat.le_refl _, heap_alloc_new _ _⟩
                            rw [← hX] at hO12
                            have hSX12 : X12.cell? ⟨gw2, n, none⟩ = some (.slice (some ⟨gn, 0, none⟩) kn cu) := by rw [hX]; exact (alloc_ext _ _).cell hSX2
                            rw [← hX]
                            clear hX hO2 hSX2
                            refine wpAnyB_ready (rs := [5]) (by kernel_rfl) (by simp) (AllB.cons rfl (fun K hK => ?_) AllB.nil)
                            go_simp
                            refine hK.out _ _ ((alloc_ext _ _).cell hSX12) ?_
                            clear hK K
                            try simp only [Act.put, List.setIfInBounds_toArray, List.set_cons_zero, List.set_cons_succ]
                            obtain ⟨X13, hX⟩ : ∃ Y, Y = X12.alloc (.cells #[] 3) := ⟨_, rfl⟩
                            have hO13 := hO12.add (alloc_ext X12 (.cells #[] 3)) (A := .row 3 1 (.slice (some ⟨X12.heap.size, 0, none⟩) 0 0) 0 []) (World.ownsRow_lit (base := X12.heap.size) (e := 3) (size := 1) X12 #[] 0 (Nat.le_refl _) (by unfold maxLen; omega) rfl)
                            rw [← hX] at hO13
                            have hSX13 : X13.cell? ⟨gw2, n, none⟩ = some (.slice (some ⟨gn, 0, none⟩) kn cu) := by rw [hX]; exact (alloc_ext _ _).cell hSX12
                            rw [← hX]
                            clear hX hO12 hSX12
                            refine wpAnyB_ready (rs := [10]) (by kernel_rfl) (by simp) (AllB.cons rfl (fun K hK => ?_) AllB.nil)
                            refine step_append_own2 rfl _ _ 37 rfl Wb.heap.size 3 i3 (.int .i64 0) 1 8 Try.underlying37 hi3 hz3 hs3 hb3 rfl (by decide) (.slice (some ⟨X12.heap.size, 0, none⟩) 0 0) 0 [] (by rfl) (hO13.get 0 rfl) ⟨gn, 0, none⟩ kn cu (wy.map (.int .i64)) (by rfl) (by simp; exact hkn) (rows_news hO13 4 rfl hjn hjr) (all_ints _) (by unfold maxLen; omega) (by omega) hO13.ext.size ?_
                            intro v10 X14 hown6 hg6 hb6
                            rw [Nat.zero_add, List.nil_append] at hown6
                            obtain ⟨A10, c10, rfl⟩ := own_form hown6
                            have hO14 := hO13.app 0 rfl hg6 hown6 hb6
                            have hO14 : OwnL Wb X14 [.row 3 1 (.slice A10 kn c10) kn (wy.map (.int .i64)), .blk X2.heap.size (.cells #[.int .i64 (i : Int)] 3), .blk X0.heap.size (.cells #[.int .i64 tx] 3), .row 3 1 (.slice (some ⟨g6, 0, none⟩) (ln + 1) c6) (ln + 1) (ordE es2 ++ [.int .i64 tx]), .rows 37 3 1 (.slice (some ⟨gw2, 0, none⟩) ln cw2) vs2 (es2.map (fun e => intRow e.way))] := hO14
                            have hSX14 := cell_rows' hO14 4 rfl hjn
                            refine hK.out _ _ hSX14 ?_
                            clear hK K hg6 hb6 hown6 hO13 hSX13
                            try simp only [Act.put, List.setIfInBounds_toArray, List.set_cons_zero, List.set_cons_succ]
                            refine wpAnyB_ready (rs := [13]) (by kernel_rfl) (by simp) (AllB.cons rfl (fun K hK => ?_) AllB.nil)
                            refine step_append_own2 rfl _ _ 37 rfl Wb.heap.size 3 i3 (.int .i64 0) 1 8 Try.underlying37 hi3 hz3 hs3 hb3 rfl (by decide) (.slice A10 kn c10) kn (wy.map (.int .i64)) (by rfl) (hO14.get 0 rfl) ⟨_, 0, none⟩ 1 1 [.int .i64 (i : Int)] (by rfl) rfl (new_blk (hO14.get 1 rfl).2) (one_int _) (by unfold maxLen; omega) (by omega) hO14.ext.size ?_
                            intro v13 X15 hown6 hg6 hb6
                            obtain ⟨g13, c13, rfl⟩ := ownsRow_pos hown6 (by omega)
                            have hO15 := hO14.app 0 rfl hg6 hown6 hb6
                            have hO15 : OwnL Wb X15 [.row 3 1 (.slice (some ⟨g13, 0, none⟩) (kn + 1) c13) (kn + 1) (wy.map (.int .i64) ++ [.int .i64 (i : Int)]), .blk X2.heap.size (.cells #[.int .i64 (i : Int)] 3), .blk X0.heap.size (.cells #[.int .i64 tx] 3), .row 3 1 (.slice (some ⟨g6, 0, none⟩) (ln + 1) c6) (ln + 1) (ordE es2 ++ [.int .i64 tx]), .rows 37 3 1 (.slice (some ⟨gw2, 0, none⟩) ln cw2) vs2 (es2.map (fun e => intRow e.way))] := hO15
                            have hSX15 := cell_rows' hO15 4 rfl hjn
                            refine hK.out _ _ hSX15 ?_
                            clear hK K hg6 hb6 hown6 hO14 hSX14
                            try simp only [Act.put, List.setIfInBounds_toArray, List.set_cons_zero, List.set_cons_succ]
                            refine wpAnyB_ready (rs := [14]) (by kernel_rfl) (by simp) (AllB.cons rfl (fun K hK => ?_) AllB.nil)
                            go_simp
                            refine hK.out _ _ ((alloc_ext _ _).cell hSX15) ?_
                            clear hK K
                            try simp only [Act.put, List.setIfInBounds_toArray, List.set_cons_zero, List.set_cons_succ]
                            obtain ⟨X16, hX⟩ : ∃ Y, Y = X15.alloc (.cells #[.slice (some ⟨g13, 0, none⟩) (kn + 1) c13] 37) := ⟨_, rfl⟩
                            have hO16 := hO15.add (alloc_ext X15 (.cells #[.slice (some ⟨g13, 0, none⟩) (kn + 1) c13] 37)) (A := .blk X15.heap.size (.cells #[.slice (some ⟨g13, 0, none⟩) (kn + 1) c13] 37)) ⟨Nat.le_refl _, heap_alloc_new _ _⟩
                            rw [← hX] at hO16
                            have hSX16 : X16.cell? ⟨gw2, n, none⟩ = some (.slice (some ⟨gn, 0, none⟩) kn cu) := by rw [hX]; exact (alloc_ext _ _).cell hSX15
                            rw [← hX]
                            clear hX hO15 hSX15
                            refine wpAnyB_tail rfl rfl (by decide) (by kernel_rfl) ?_
                            have hT : OwnL Wb X16 [.row 3 1 (.slice (some ⟨g13, 0, none⟩) (kn + 1) c13) (kn + 1) (wy.map (.int .i64) ++ [.int .i64 (i : Int)]), .rows 37 3 1 (.slice (some ⟨gw2, 0, none⟩) ln cw2) vs2 (es2.map (fun e => intRow e.way)), .row 3 1 (.slice (some ⟨g6, 0, none⟩) (ln + 1) c6) (ln + 1) (ordE es2 ++ [.int .i64 tx]), .blk X15.heap.size (.cells #[.slice (some ⟨g13, 0, none⟩) (kn + 1) c13] 37)] := hO16.pick4 1 5 4 0 rfl rfl rfl rfl (by decide) (by decide) (by decide) (by decide) (by decide) (by decide)
                            clear hO16
                            have hownV := (hT.get 1 rfl : OwnRows X16 Wb.heap.size 37 3 1 (.slice (some ⟨gw2, 0, none⟩) ln cw2) vs2 (es2.map (fun e => intRow e.way))).own
                            rw [hvl2] at hownV
                            go_wp2_with (at_builtin; refine wpList_append_own2 rfl _ _ 75 rfl Wb.heap.size 37 i37 (.slice none 0 0) 1 24 Try.underlying75 hi37 hz37 hs37 hb37 rfl (by decide) (.slice (some ⟨gw2, 0, none⟩) ln cw2) ln vs2 (by rfl) hownV ⟨_, 0, none⟩ 1 1 [.slice (some ⟨g13, 0, none⟩) (kn + 1) c13] (by rfl) rfl (new_blk (hT.get 3 rfl).2) (one_slice _ _ _) (by unfold maxLen; omega) (by omega) hT.ext.size ?_; intro v7 w7 hown7 hg7 hb7)
                            have hp := (hT.push hg7 (by rw [hvl2]; exact hown7) hb7).pick2 1 0 rfl rfl (by decide)
                            go_roundw
                            case rel => exact ⟨i + 1, _, by go_num, by omega, hp.ext, (HNA.out _).trans HUN2.out, by rw [HEL.out.1, HEL.out.2.1, HEL.out.2.2]; exact hp⟩
                            case measure => simp [intOf]; omega
                        · skip
                          go_simp
                          refine hK.out _ _ ((alloc_ext _ _).cell hSX1) ?_
                          clear hK K
                          try simp only [Act.put, List.setIfInBounds_toArray, List.set_cons_zero, List.set_cons_succ]
                          obtain ⟨X17, hX⟩ : ∃ Y, Y = X1.alloc (.cells #[] 3) := ⟨_, rfl⟩
                          have hO17 := hO1.add (alloc_ext X1 (.cells #[] 3)) (A := .row 3 1 (.slice (some ⟨X1.heap.size, 0, none⟩) 0 0) 0 []) (World.ownsRow_lit (base := X1.heap.size) (e := 3) (size := 1) X1 #[] 0 (Nat.le_refl _) (by unfold maxLen; omega) rfl)
                          rw [← hX] at hO17
                          have hSX17 : X17.cell? ⟨gw2, n, none⟩ = some (.slice (some ⟨gn, 0, none⟩) kn cu) := by rw [hX]; exact (alloc_ext _ _).cell hSX1
                          rw [← hX]
                          clear hX hO1 hSX1
                          refine wpAnyB_ready (rs := [3, 12]) (by kernel_rfl) (by simp) (AllB.cons rfl (fun K hK => ?_) (AllB.cons rfl (fun K hK => ?_) AllB.nil))
                          · skip
                            refine step_append_own2 rfl _ _ 37 rfl Wb.heap.size 3 i3 (.int .i64 0) 1 8 Try.underlying37 hi3 hz3 hs3 hb3 rfl (by decide) (.slice (some ⟨gs2, 0, none⟩) ln cs2) ln (ordE es2) (by rfl) (hO17.get 2 rfl) ⟨_, 0, none⟩ 1 1 [.int .i64 tx] (by rfl) rfl (new_blk (hO17.get 1 rfl).2) (one_int _) (by unfold maxLen; omega) (by omega) hO17.ext.size ?_
                            intro v6 X18 hown6 hg6 hb6
                            obtain ⟨g6, c6, rfl⟩ := ownsRow_pos hown6 (by omega)
                            have hO18 := hO17.app 2 rfl hg6 hown6 hb6
                            have hO18 : OwnL Wb X18 [.row 3 1 (.slice (some ⟨X1.heap.size, 0, none⟩) 0 0) 0 [], .blk X0.heap.size (.cells #[.int .i64 tx] 3), .row 3 1 (.slice (some ⟨g6, 0, none⟩) (ln + 1) c6) (ln + 1) (ordE es2 ++ [.int .i64 tx]), .rows 37 3 1 (.slice (some ⟨gw2, 0, none⟩) ln cw2) vs2 (es2.map (fun e => intRow e.way))] := hO18
                            have hSX18 := cell_rows' hO18 3 rfl hjn
                            refine hK.out _ _ hSX18 ?_
                            clear hK K hg6 hb6 hown6 hO17 hSX17
                            try simp only [Act.put, List.setIfInBounds_toArray, List.set_cons_zero, List.set_cons_succ]
                            refine wpAnyB_ready (rs := [10, 12]) (by kernel_rfl) (by simp) (AllB.cons rfl (fun K hK => ?_) (AllB.cons rfl (fun K hK => ?_) AllB.nil))
                            · skip
                              refine step_append_own2 rfl _ _ 37 rfl Wb.heap.size 3 i3 (.int .i64 0) 1 8 Try.underlying37 hi3 hz3 hs3 hb3 rfl (by decide) (.slice (some ⟨X1.heap.size, 0, none⟩) 0 0) 0 [] (by rfl) (hO18.get 0 rfl) ⟨gn, 0, none⟩ kn cu (wy.map (.int .i64)) (by rfl) (by simp; exact hkn) (rows_news hO18 3 rfl hjn hjr) (all_ints _) (by unfold maxLen; omega) (by omega) hO18.ext.size ?_
                              intro v10 X19 hown6 hg6 hb6
                              rw [Nat.zero_add, List.nil_append] at hown6
                              obtain ⟨A10, c10, rfl⟩ := own_form hown6
                              have hO19 := hO18.app 0 rfl hg6 hown6 hb6
                              have hO19 : OwnL Wb X19 [.row 3 1 (.slice A10 kn c10) kn (wy.map (.int .i64)), .blk X0.heap.size (.cells #[.int .i64 tx] 3), .row 3 1 (.slice (some ⟨g6, 0, none⟩) (ln + 1) c6) (ln + 1) (ordE es2 ++ [.int .i64 tx]), .rows 37 3 1 (.slice (some ⟨gw2, 0, none⟩) ln cw2) vs2 (es2.map (fun e => intRow e.way))] := hO19
                              have hSX19 := cell_rows' hO19 3 rfl hjn
                              refine hK.out _ _ hSX19 ?_
                              clear hK K hg6 hb6 hown6 hO18 hSX18
                              try simp only [Act.put, List.setIfInBounds_toArray, List.set_cons_zero, List.set_cons_succ]
                              refine wpAnyB_ready (rs := [12]) (by kernel_rfl) (by simp) (AllB.cons rfl (fun K hK => ?_) AllB.nil)
                              go_simp
                              refine hK.out _ _ ((alloc_ext _ _).cell hSX19) ?_
                              clear hK K
                              try simp only [Act.put, List.setIfInBounds_toArray, List.set_cons_zero, List.set_cons_succ]
                              obtain ⟨X20, hX⟩ : ∃ Y, Y = X19.alloc (.cells #[.int .i64 (i : Int)] 3) := ⟨_, rfl⟩
                              have hO20 := hO19.add (alloc_ext X19 (.cells #[.int .i64 (i : Int)] 3)) (A := .blk X19.heap.size (.cells #[.int .i64 (i : Int)] 3)) ⟨Nat.le_refl _, heap_alloc_new _ _⟩
                              rw [← hX] at hO20
                              have hSX20 : X20.cell? ⟨gw2, n, none⟩ = some (.slice (some ⟨gn, 0, none⟩) kn cu) := by rw [hX]; exact (alloc_ext _ _).cell hSX19
                              rw [← hX]
                              clear hX hO19 hSX19
                              refine wpAnyB_ready (rs := [13]) (by kernel_rfl) (by simp) (AllB.cons rfl (fun K hK => ?_) AllB.nil)
                              refine step_append_own2 rfl _ _ 37 rfl Wb.heap.size 3 i3 (.int .i64 0) 1 8 Try.underlying37 hi3 hz3 hs3 hb3 rfl (by decide) (.slice A10 kn c10) kn (wy.map (.int .i64)) (by rfl) (hO20.get 1 rfl) ⟨_, 0, none⟩ 1 1 [.int .i64 (i : Int)] (by rfl) rfl (new_blk (hO20.get 0 rfl).2) (one_int _) (by unfold maxLen; omega) (by omega) hO20.ext.size ?_
                              intro v13 X21 hown6 hg6 hb6
                              obtain ⟨g13, c13, rfl⟩ := ownsRow_pos hown6 (by omega)
                              have hO21 := hO20.app 1 rfl hg6 hown6 hb6
                              have hO21 : OwnL Wb X21 [.blk X19.heap.size (.cells #[.int .i64 (i : Int)] 3), .row 3 1 (.slice (some ⟨g13, 0, none⟩) (kn + 1) c13) (kn + 1) (wy.map (.int .i64) ++ [.int .i64 (i : Int)]), .blk X0.heap.size (.cells #[.int .i64 tx] 3), .row 3 1 (.slice (some ⟨g6, 0, none⟩) (ln + 1) c6) (ln + 1) (ordE es2 ++ [.int .i64 tx]), .rows 37 3 1 (.slice (some ⟨gw2, 0, none⟩) ln cw2) vs2 (es2.map (fun e => intRow e.way))] := hO21
                              have hSX21 := cell_rows' hO21 4 rfl hjn
                              refine hK.out _ _ hSX21 ?_
                              clear hK K hg6 hb6 hown6 hO20 hSX20
                              try simp only [Act.put, List.setIfInBounds_toArray, List.set_cons_zero, List.set_cons_succ]
                              refine wpAnyB_ready (rs := [14]) (by kernel_rfl) (by simp) (AllB.cons rfl (fun K hK => ?_) AllB.nil)
                              go_simp
                              refine hK.out _ _ ((alloc_ext _ _).cell hSX21) ?_
                              clear hK K
                              try simp only [Act.put, List.setIfInBounds_toArray, List.set_cons_zero, List.set_cons_succ]
                              obtain ⟨X22, hX⟩ : ∃ Y, Y = X21.alloc (.cells #[.slice (some ⟨g13, 0, none⟩) (kn + 1) c13] 37) := ⟨_, rfl⟩
                              have hO22 := hO21.add (alloc_ext X21 (.cells #[.slice (some ⟨g13, 0, none⟩) (kn + 1) c13] 37)) (A := .blk X21.heap.size (.cells #[.slice (some ⟨g13, 0, none⟩) (kn + 1) c13] 37)) ⟨Nat.le_refl _, heap_alloc_new _ _⟩
                              rw [← hX] at hO22
                              have hSX22 : X22.cell? ⟨gw2, n, none⟩ = some (.slice (some ⟨gn, 0, none⟩) kn cu) := by rw [hX]; exact (alloc_ext _ _).cell hSX21
                              rw [← hX]
                              clear hX hO21 hSX21
                              refine wpAnyB_tail rfl rfl (by decide) (by kernel_rfl) ?_
                              have hT : OwnL Wb X22 [.row 3 1 (.slice (some ⟨g13, 0, none⟩) (kn + 1) c13) (kn + 1) (wy.map (.int .i64) ++ [.int .i64 (i : Int)]), .rows 37 3 1 (.slice (some ⟨gw2, 0, none⟩) ln cw2) vs2 (es2.map (fun e => intRow e.way)), .row 3 1 (.slice (some ⟨g6, 0, none⟩) (ln + 1) c6) (ln + 1) (ordE es2 ++ [.int .i64 tx]), .blk X21.heap.size (.cells #[.slice (some ⟨g13, 0, none⟩) (kn + 1) c13] 37)] := hO22.pick4 2 5 4 0 rfl rfl rfl rfl (by decide) (by decide) (by decide) (by decide) (by decide) (by decide)
                              clear hO22
                              have hownV := (hT.get 1 rfl : OwnRows X22 Wb.heap.size 37 3 1 (.slice (some ⟨gw2, 0, none⟩) ln cw2) vs2 (es2.map (fun e => intRow e.way))).own
                              rw [hvl2] at hownV
                              go_wp2_with (at_builtin; refine wpList_append_own2 rfl _ _ 75 rfl Wb.heap.size 37 i37 (.slice none 0 0) 1 24 Try.underlying75 hi37 hz37 hs37 hb37 rfl (by decide) (.slice (some ⟨gw2, 0, none⟩) ln cw2) ln vs2 (by rfl) hownV ⟨_, 0, none⟩ 1 1 [.slice (some ⟨g13, 0, none⟩) (kn + 1) c13] (by rfl) rfl (new_blk (hT.get 3 rfl).2) (one_slice _ _ _) (by unfold maxLen; omega) (by omega) hT.ext.size ?_; intro v7 w7 hown7 hg7 hb7)
                              have hp := (hT.push hg7 (by rw [hvl2]; exact hown7) hb7).pick2 1 0 rfl rfl (by decide)
                              go_roundw
                              case rel => exact ⟨i + 1, _, by go_num, by omega, hp.ext, (HNA.out _).trans HUN2.out, by rw [HEL.out.1, HEL.out.2.1, HEL.out.2.2]; exact hp⟩
                              case measure => simp [intOf]; omega
                            · skip
                              go_simp
                              refine hK.out _ _ ((alloc_ext _ _).cell hSX18) ?_
                              clear hK K
                              try simp only [Act.put, List.setIfInBounds_toArray, List.set_cons_zero, List.set_cons_succ]
                              obtain ⟨X23, hX⟩ : ∃ Y, Y = X18.alloc (.cells #[.int .i64 (i : Int)] 3) := ⟨_, rfl⟩
                              have hO23 := hO18.add (alloc_ext X18 (.cells #[.int .i64 (i : Int)] 3)) (A := .blk X18.heap.size (.cells #[.int .i64 (i : Int)] 3)) ⟨Nat.le_refl _, heap_alloc_new _ _⟩
                              rw [← hX] at hO23
                              have hSX23 : X23.cell? ⟨gw2, n, none⟩ = some (.slice (some ⟨gn, 0, none⟩) kn cu) := by rw [hX]; exact (alloc_ext _ _).cell hSX18
                              rw [← hX]
                              clear hX hO18 hSX18
                              refine wpAnyB_ready (rs := [10]) (by kernel_rfl) (by simp) (AllB.cons rfl (fun K hK => ?_) AllB.nil)
                              refine step_append_own2 rfl _ _ 37 rfl Wb.heap.size 3 i3 (.int .i64 0) 1 8 Try.underlying37 hi3 hz3 hs3 hb3 rfl (by decide) (.slice (some ⟨X1.heap.size, 0, none⟩) 0 0) 0 [] (by rfl) (hO23.get 1 rfl) ⟨gn, 0, none⟩ kn cu (wy.map (.int .i64)) (by rfl) (by simp; exact hkn) (rows_news hO23 4 rfl hjn hjr) (all_ints _) (by unfold maxLen; omega) (by omega) hO23.ext.size ?_
                              intro v10 X24 hown6 hg6 hb6
                              rw [Nat.zero_add, List.nil_append] at hown6
                              obtain ⟨A10, c10, rfl⟩ := own_form hown6
                              have hO24 := hO23.app 1 rfl hg6 hown6 hb6
                              have hO24 : OwnL Wb X24 [.blk X18.heap.size (.cells #[.int .i64 (i : Int)] 3), .row 3 1 (.slice A10 kn c10) kn (wy.map (.int .i64)), .blk X0.heap.size (.cells #[.int .i64 tx] 3), .row 3 1 (.slice (some ⟨g6, 0, none⟩) (ln + 1) c6) (ln + 1) (ordE es2 ++ [.int .i64 tx]), .rows 37 3 1 (.slice (some ⟨gw2, 0, none⟩) ln cw2) vs2 (es2.map (fun e => intRow e.way))] := hO24
                              have hSX24 := cell_rows' hO24 4 rfl hjn
                              refine hK.out _ _ hSX24 ?_
                              clear hK K hg6 hb6 hown6 hO23 hSX23
                              try simp only [Act.put, List.setIfInBounds_toArray, List.set_cons_zero, List.set_cons_succ]
                              refine wpAnyB_ready (rs := [13]) (by kernel_rfl) (by simp) (AllB.cons rfl (fun K hK => ?_) AllB.nil)
                              refine step_append_own2 rfl _ _ 37 rfl Wb.heap.size 3 i3 (.int .i64 0) 1 8 Try.underlying37 hi3 hz3 hs3 hb3 rfl (by decide) (.slice A10 kn c10) kn (wy.map (.int .i64)) (by rfl) (hO24.get 1 rfl) ⟨_, 0, none⟩ 1 1 [.int .i64 (i : Int)] (by rfl) rfl (new_blk (hO24.get 0 rfl).2) (one_int _) (by unfold maxLen; omega) (by omega) hO24.ext.size ?_
                              intro v13 X25 hown6 hg6 hb6
                              obtain ⟨g13, c13, rfl⟩ := ownsRow_pos hown6 (by omega)
                              have hO25 := hO24.app 1 rfl hg6 hown6 hb6
                              have hO25 : OwnL Wb X25 [.blk X18.heap.size (.cells #[.int .i64 (i : Int)] 3), .row 3 1 (.slice (some ⟨g13, 0, none⟩) (kn + 1) c13) (kn + 1) (wy.map (.int .i64) ++ [.int .i64 (i : Int)]), .blk X0.heap.size (.cells #[.int .i64 tx] 3), .row 3 1 (.slice (some ⟨g6, 0, none⟩) (ln + 1) c6) (ln + 1) (ordE es2 ++ [.int .i64 tx]), .rows 37 3 1 (.slice (some ⟨gw2, 0, none⟩) ln cw2) vs2 (es2.map (fun e => intRow e.way))] := hO25
                              have hSX25 := cell_rows' hO25 4 rfl hjn
                              refine hK.out _ _ hSX25 ?_
                              clear hK K hg6 hb6 hown6 hO24 hSX24
                              try simp only [Act.put, List.setIfInBounds_toArray, List.set_cons_zero, List.set_cons_succ]
                              refine wpAnyB_ready (rs := [14]) (by kernel_rfl) (by simp) (AllB.cons rfl (fun K hK => ?_) AllB.nil)
                              go_simp
                              refine hK.out _ _ ((alloc_ext _ _).cell hSX25) ?_
                              clear hK K
                              try simp only [Act.put, List.setIfInBounds_toArray, List.set_cons_zero, List.set_cons_succ]
                              obtain ⟨X26, hX⟩ : ∃ Y, Y = X25.alloc (.cells #[.slice (some ⟨g13, 0, none⟩) (kn + 1) c13] 37) := ⟨_, rfl⟩
                              have hO26 := hO25.add (alloc_ext X25 (.cells #[.slice (some ⟨g13, 0, none⟩) (kn + 1) c13] 37)) (A := .blk X25.heap.size (.cells #[.slice (some ⟨g13, 0, none⟩) (kn + 1) c13] 37)) ⟨Nat.le_refl _, heap_alloc_new _ _⟩
                              rw [← hX] at hO26
                              have hSX26 : X26.cell? ⟨gw2, n, none⟩ = some (.slice (some ⟨gn, 0, none⟩) kn cu) := by rw [hX]; exact (alloc_ext _ _).cell hSX25
                              rw [← hX]
                              clear hX hO25 hSX25
                              refine wpAnyB_tail rfl rfl (by decide) (by kernel_rfl) ?_
                              have hT : OwnL Wb X26 [.row 3 1 (.slice (some ⟨g13, 0, none⟩) (kn + 1) c13) (kn + 1) (wy.map (.int .i64) ++ [.int .i64 (i : Int)]), .rows 37 3 1 (.slice (some ⟨gw2, 0, none⟩) ln cw2) vs2 (es2.map (fun e => intRow e.way)), .row 3 1 (.slice (some ⟨g6, 0, none⟩) (ln + 1) c6) (ln + 1) (ordE es2 ++ [.int .i64 tx]), .blk X25.heap.size (.cells #[.slice (some ⟨g13, 0, none⟩) (kn + 1) c13] 37)] := hO26.pick4 2 5 4 0 rfl rfl rfl rfl (by decide) (by decide) (by decide) (by decide) (by decide) (by decide)
                              clear hO26
                              have hownV := (hT.get 1 rfl : OwnRows X26 Wb.heap.size 37 3 1 (.slice (some ⟨gw2, 0, none⟩) ln cw2) vs2 (es2.map (fun e => intRow e.way))).own
                              rw [hvl2] at hownV
                              go_wp2_with (at_builtin; refine wpList_append_own2 rfl _ _ 75 rfl Wb.heap.size 37 i37 (.slice none 0 0) 1 24 Try.underlying75 hi37 hz37 hs37 hb37 rfl (by decide) (.slice (some ⟨gw2, 0, none⟩) ln cw2) ln vs2 (by rfl) hownV ⟨_, 0, none⟩ 1 1 [.slice (some ⟨g13, 0, none⟩) (kn + 1) c13] (by rfl) rfl (new_blk (hT.get 3 rfl).2) (one_slice _ _ _) (by unfold maxLen; omega) (by omega) hT.ext.size ?_; intro v7 w7 hown7 hg7 hb7)
                              have hp := (hT.push hg7 (by rw [hvl2]; exact hown7) hb7).pick2 1 0 rfl rfl (by decide)
                              go_roundw
                              case rel => exact ⟨i + 1, _, by go_num, by omega, hp.ext, (HNA.out _).trans HUN2.out, by rw [HEL.out.1, HEL.out.2.1, HEL.out.2.2]; exact hp⟩
                              case measure => simp [intOf]; omega
                          · skip
                            go_simp
                            refine hK.out _ _ ((alloc_ext _ _).cell hSX17) ?_
                            clear hK K
                            try simp only [Act.put, List.setIfInBounds_toArray, List.set_cons_zero, List.set_cons_succ]
                            obtain ⟨X27, hX⟩ : ∃ Y, Y = X17.alloc (.cells #[.int .i64 (i : Int)] 3) := ⟨_, rfl⟩
                            have hO27 := hO17.add (alloc_ext X17 (.cells #[.int .i64 (i : Int)] 3)) (A := .blk X17.heap.size (.cells #[.int .i64 (i : Int)] 3)) ⟨Nat.le_refl _, heap_alloc_new _ _⟩
                            rw [← hX] at hO27
                            have hSX27 : X27.cell? ⟨gw2, n, none⟩ = some (.slice (some ⟨gn, 0, none⟩) kn cu) := by rw [hX]; exact (alloc_ext _ _).cell hSX17
                            rw [← hX]
                            clear hX hO17 hSX17
                            refine wpAnyB_ready (rs := [3]) (by kernel_rfl) (by simp) (AllB.cons rfl (fun K hK => ?_) AllB.nil)
                            refine step_append_own2 rfl _ _ 37 rfl Wb.heap.size 3 i3 (.int .i64 0) 1 8 Try.underlying37 hi3 hz3 hs3 hb3 rfl (by decide) (.slice (some ⟨gs2, 0, none⟩) ln cs2) ln (ordE es2) (by rfl) (hO27.get 3 rfl) ⟨_, 0, none⟩ 1 1 [.int .i64 tx] (by rfl) rfl (new_blk (hO27.get 2 rfl).2) (one_int _) (by unfold maxLen; omega) (by omega) hO27.ext.size ?_
                            intro v6 X28 hown6 hg6 hb6
                            obtain ⟨g6, c6, rfl⟩ := ownsRow_pos hown6 (by omega)
                            have hO28 := hO27.app 3 rfl hg6 hown6 hb6
                            have hO28 : OwnL Wb X28 [.blk X17.heap.size (.cells #[.int .i64 (i : Int)] 3), .row 3 1 (.slice (some ⟨X1.heap.size, 0, none⟩) 0 0) 0 [], .blk X0.heap.size (.cells #[.int .i64 tx] 3), .row 3 1 (.slice (some ⟨g6, 0, none⟩) (ln + 1) c6) (ln + 1) (ordE es2 ++ [.int .i64 tx]), .rows 37 3 1 (.slice (some ⟨gw2, 0, none⟩) ln cw2) vs2 (es2.map (fun e => intRow e.way))] := hO28
                            have hSX28 := cell_rows' hO28 4 rfl hjn
                            refine hK.out _ _ hSX28 ?_
                            clear hK K hg6 hb6 hown6 hO27 hSX27
                            try simp only [Act.put, List.setIfInBounds_toArray, List.set_cons_zero, List.set_cons_succ]
                            refine wpAnyB_ready (rs := [10]) (by kernel_rfl) (by simp) (AllB.cons rfl (fun K hK => ?_) AllB.nil)
                            refine step_append_own2 rfl _ _ 37 rfl Wb.heap.size 3 i3 (.int .i64 0) 1 8 Try.underlying37 hi3 hz3 hs3 hb3 rfl (by decide) (.slice (some ⟨X1.heap.size, 0, none⟩) 0 0) 0 [] (by rfl) (hO28.get 1 rfl) ⟨gn, 0, none⟩ kn cu (wy.map (.int .i64)) (by rfl) (by simp; exact hkn) (rows_news hO28 4 rfl hjn hjr) (all_ints _) (by unfold maxLen; omega) (by omega) hO28.ext.size ?_
                            intro v10 X29 hown6 hg6 hb6
                            rw [Nat.zero_add, List.nil_append] at hown6
                            obtain ⟨A10, c10, rfl⟩ := own_form hown6
                            have hO29 := hO28.app 1 rfl hg6 hown6 hb6
                            have hO29 : OwnL Wb X29 [.blk X17.heap.size (.cells #[.int .i64 (i : Int)] 3), .row 3 1 (.slice A10 kn c10) kn (wy.map (.int .i64)), .blk X0.heap.size (.cells #[.int .i64 tx] 3), .row 3 1 (.slice (some ⟨g6, 0, none⟩) (ln + 1) c6) (ln + 1) (ordE es2 ++ [.int .i64 tx]), .rows 37 3 1 (.slice (some ⟨gw2, 0, none⟩) ln cw2) vs2 (es2.map (fun e => intRow e.way))] := hO29
                            have hSX29 := cell_rows' hO29 4 rfl hjn
                            refine hK.out _ _ hSX29 ?_
                            clear hK K hg6 hb6 hown6 hO28 hSX28
                            try simp only [Act.put, List.setIfInBounds_toArray, List.set_cons_zero, List.set_cons_succ]
                            refine wpAnyB_ready (rs := [13]) (by kernel_rfl) (by simp) (AllB.cons rfl (fun K hK => ?_) AllB.nil)
                            refine step_append_own2 rfl _ _ 37 rfl Wb.heap.size 3 i3 (.int .i64 0) 1 8 Try.underlying37 hi3 hz3 hs3 hb3 rfl (by decide) (.slice A10 kn c10) kn (wy.map (.int .i64)) (by rfl) (hO29.get 1 rfl) ⟨_, 0, none⟩ 1 1 [.int .i64 (i : Int)] (by rfl) rfl (new_blk (hO29.get 0 rfl).2) (one_int _) (by unfold maxLen; omega) (by omega) hO29.ext.size ?_
                            intro v13 X30 hown6 hg6 hb6
                            obtain ⟨g13, c13, rfl⟩ := ownsRow_pos hown6 (by omega)
                            have hO30 := hO29.app 1 rfl hg6 hown6 hb6
                            have hO30 : OwnL Wb X30 [.blk X17.heap.size (.cells #[.int .i64 (i : Int)] 3), .row 3 1 (.slice (some ⟨g13, 0, none⟩) (kn + 1) c13) (kn + 1) (wy.map (.int .i64) ++ [.int .i64 (i : Int)]), .blk X0.heap.size (.cells #[.int .i64 tx] 3), .row 3 1 (.slice (some ⟨g6, 0, none⟩) (ln + 1) c6) (ln + 1) (ordE es2 ++ [.int .i64 tx]), .rows 37 3 1 (.slice (some ⟨gw2, 0, none⟩) ln cw2) vs2 (es2.map (fun e => intRow e.way))] := hO30
                            have hSX30 := cell_rows' hO30 4 rfl hjn
                            refine hK.out _ _ hSX30 ?_
                            clear hK K hg6 hb6 hown6 hO29 hSX29
                            try simp only [Act.put, List.setIfInBounds_toArray, List.set_cons_zero, List.set_cons_succ]
                            refine wpAnyB_ready (rs := [14]) (by kernel_rfl) (by simp) (AllB.cons rfl (fun K hK => ?_) AllB.nil)
                            go_simp
                            refine hK.out _ _ ((alloc_ext _ _).cell hSX30) ?_
                            clear hK K
                            try simp only [Act.put, List.setIfInBounds_toArray, List.set_cons_zero, List.set_cons_succ]
                            obtain ⟨X31, hX⟩ : ∃ Y, Y = X30.alloc (.cells #[.slice (some ⟨g13, 0, none⟩) (kn + 1) c13] 37) := ⟨_, rfl⟩
                            have hO31 := hO30.add (alloc_ext X30 (.cells #[.slice (some ⟨g13, 0, none⟩) (kn + 1) c13] 37)) (A := .blk X30.heap.size (.cells #[.slice (some ⟨g13, 0, none⟩) (kn + 1) c13] 37)) ⟨Nat.le_refl _, heap_alloc_new _ _⟩
                            rw [← hX] at hO31
                            have hSX31 : X31.cell? ⟨gw2, n, none⟩ = some (.slice (some ⟨gn, 0, none⟩) kn cu) := by rw [hX]; exact (alloc_ext _ _).cell hSX30
                            rw [← hX]
                            clear hX hO30 hSX30
                            refine wpAnyB_tail rfl rfl (by decide) (by kernel_rfl) ?_
                            have hT : OwnL Wb X31 [.row 3 1 (.slice (some ⟨g13, 0, none⟩) (kn + 1) c13) (kn + 1) (wy.map (.int .i64) ++ [.int .i64 (i : Int)]), .rows 37 3 1 (.slice (some ⟨gw2, 0, none⟩) ln cw2) vs2 (es2.map (fun e => intRow e.way)), .row 3 1 (.slice (some ⟨g6, 0, none⟩) (ln + 1) c6) (ln + 1) (ordE es2 ++ [.int .i64 tx]), .blk X30.heap.size (.cells #[.slice (some ⟨g13, 0, none⟩) (kn + 1) c13] 37)] := hO31.pick4 2 5 4 0 rfl rfl rfl rfl (by decide) (by decide) (by decide) (by decide) (by decide) (by decide)
                            clear hO31
                            have hownV := (hT.get 1 rfl : OwnRows X31 Wb.heap.size 37 3 1 (.slice (some ⟨gw2, 0, none⟩) ln cw2) vs2 (es2.map (fun e => intRow e.way))).own
                            rw [hvl2] at hownV
                            go_wp2_with (at_builtin; refine wpList_append_own2 rfl _ _ 75 rfl Wb.heap.size 37 i37 (.slice none 0 0) 1 24 Try.underlying75 hi37 hz37 hs37 hb37 rfl (by decide) (.slice (some ⟨gw2, 0, none⟩) ln cw2) ln vs2 (by rfl) hownV ⟨_, 0, none⟩ 1 1 [.slice (some ⟨g13, 0, none⟩) (kn + 1) c13] (by rfl) rfl (new_blk (hT.get 3 rfl).2) (one_slice _ _ _) (by unfold maxLen; omega) (by omega) hT.ext.size ?_; intro v7 w7 hown7 hg7 hb7)
                            have hp := (hT.push hg7 (by rw [hvl2]; exact hown7) hb7).pick2 1 0 rfl rfl (by decide)
                            go_roundw
                            case rel => exact ⟨i + 1, _, by go_num, by omega, hp.ext, (HNA.out _).trans HUN2.out, by rw [HEL.out.1, HEL.out.2.1, HEL.out.2.2]; exact hp⟩
                            case measure => simp [intOf]; omega
                        · skip
                          go_simp
                          refine hK.out _ _ ((alloc_ext _ _).cell hSX1) ?_
                          clear hK K
                          try simp only [Act.put, List.setIfInBounds_toArray, List.set_cons_zero, List.set_cons_succ]
                          obtain ⟨X32, hX⟩ : ∃ Y, Y = X1.alloc (.cells #[.int .i64 (i : Int)] 3) := ⟨_, rfl⟩
                          have hO32 := hO1.add (alloc_ext X1 (.cells #[.int .i64 (i : Int)] 3)) (A := .blk X1.heap.size (.cells #[.int .i64 (i : Int)] 3)) ⟨Nat.le_refl _, heap_alloc_new _ _⟩
                          rw [← hX] at hO32
                          have hSX32 : X32.cell? ⟨gw2, n, none⟩ = some (.slice (some ⟨gn, 0, none⟩) kn cu) := by rw [hX]; exact (alloc_ext _ _).cell hSX1
                          rw [← hX]
                          clear hX hO1 hSX1
                          refine wpAnyB_ready (rs := [3, 5]) (by kernel_rfl) (by simp) (AllB.cons rfl (fun K hK => ?_) (AllB.cons rfl (fun K hK => ?_) AllB.nil))
                          · skip
                            refine step_append_own2 rfl _ _ 37 rfl Wb.heap.size 3 i3 (.int .i64 0) 1 8 Try.underlying37 hi3 hz3 hs3 hb3 rfl (by decide) (.slice (some ⟨gs2, 0, none⟩) ln cs2) ln (ordE es2) (by rfl) (hO32.get 2 rfl) ⟨_, 0, none⟩ 1 1 [.int .i64 tx] (by rfl) rfl (new_blk (hO32.get 1 rfl).2) (one_int _) (by unfold maxLen; omega) (by omega) hO32.ext.size ?_
                            intro v6 X33 hown6 hg6 hb6
                            obtain ⟨g6, c6, rfl⟩ := ownsRow_pos hown6 (by omega)
                            have hO33 := hO32.app 2 rfl hg6 hown6 hb6
                            have hO33 : OwnL Wb X33 [.blk X1.heap.size (.cells #[.int .i64 (i : Int)] 3), .blk X0.heap.size (.cells #[.int .i64 tx] 3), .row 3 1 (.slice (some ⟨g6, 0, none⟩) (ln + 1) c6) (ln + 1) (ordE es2 ++ [.int .i64 tx]), .rows 37 3 1 (.slice (some ⟨gw2, 0, none⟩) ln cw2) vs2 (es2.map (fun e => intRow e.way))] := hO33
                            have hSX33 := cell_rows' hO33 3 rfl hjn
                            refine hK.out _ _ hSX33 ?_
                            clear hK K hg6 hb6 hown6 hO32 hSX32
                            try simp only [Act.put, List.setIfInBounds_toArray, List.set_cons_zero, List.set_cons_succ]
                            refine wpAnyB_ready (rs := [5]) (by kernel_rfl) (by simp) (AllB.cons rfl (fun K hK => ?_) AllB.nil)
                            go_simp
                            refine hK.out _ _ ((alloc_ext _ _).cell hSX33) ?_
                            clear hK K
                            try simp only [Act.put, List.setIfInBounds_toArray, List.set_cons_zero, List.set_cons_succ]
                            obtain ⟨X34, hX⟩ : ∃ Y, Y = X33.alloc (.cells #[] 3) := ⟨_, rfl⟩
                            have hO34 := hO33.add (alloc_ext X33 (.cells #[] 3)) (A := .row 3 1 (.slice (some ⟨X33.heap.size, 0, none⟩) 0 0) 0 []) (World.ownsRow_lit (base := X33.heap.size) (e := 3) (size := 1) X33 #[] 0 (Nat.le_refl _) (by unfold maxLen; omega) rfl)
                            rw [← hX] at hO34
                            have hSX34 : X34.cell? ⟨gw2, n, none⟩ = some (.slice (some ⟨gn, 0, none⟩) kn cu) := by rw [hX]; exact (alloc_ext _ _).cell hSX33
                            rw [← hX]
                            clear hX hO33 hSX33
                            refine wpAnyB_ready (rs := [10]) (by kernel_rfl) (by simp) (AllB.cons rfl (fun K hK => ?_) AllB.nil)
                            refine step_append_own2 rfl _ _ 37 rfl Wb.heap.size 3 i3 (.int .i64 0) 1 8 Try.underlying37 hi3 hz3 hs3 hb3 rfl (by decide) (.slice (some ⟨X33.heap.size, 0, none⟩) 0 0) 0 [] (by rfl) (hO34.get 0 rfl) ⟨gn, 0, none⟩ kn cu (wy.map (.int .i64)) (by rfl) (by simp; exact hkn) (rows_news hO34 4 rfl hjn hjr) (all_ints _) (by unfold maxLen; omega) (by omega) hO34.ext.size ?_
                            intro v10 X35 hown6 hg6 hb6
                            rw [Nat.zero_add, List.nil_append] at hown6
                            obtain ⟨A10, c10, rfl⟩ := own_form hown6
                            have hO35 := hO34.app 0 rfl hg6 hown6 hb6
                            have hO35 : OwnL Wb X35 [.row 3 1 (.slice A10 kn c10) kn (wy.map (.int .i64)), .blk X1.heap.size (.cells #[.int .i64 (i : Int)] 3), .blk X0.heap.size (.cells #[.int .i64 tx] 3), .row 3 1 (.slice (some ⟨g6, 0, none⟩) (ln + 1) c6) (ln + 1) (ordE es2 ++ [.int .i64 tx]), .rows 37 3 1 (.slice (some ⟨gw2, 0, none⟩) ln cw2) vs2 (es2.map (fun e => intRow e.way))] := hO35
                            have hSX35 := cell_rows' hO35 4 rfl hjn
                            refine hK.out _ _ hSX35 ?_
                            clear hK K hg6 hb6 hown6 hO34 hSX34
                            try simp only [Act.put, List.setIfInBounds_toArray, List.set_cons_zero, List.set_cons_succ]
                            refine wpAnyB_ready (rs := [13]) (by kernel_rfl) (by simp) (AllB.cons rfl (fun K hK => ?_) AllB.nil)
                            refine step_append_own2 rfl _ _ 37 rfl Wb.heap.size 3 i3 (.int .i64 0) 1 8 Try.underlying37 hi3 hz3 hs3 hb3 rfl (by decide) (.slice A10 kn c10) kn (wy.map (.int .i64)) (by rfl) (hO35.get 0 rfl) ⟨_, 0, none⟩ 1 1 [.int .i64 (i : Int)] (by rfl) rfl (new_blk (hO35.get 1 rfl).2) (one_int _) (by unfold maxLen; omega) (by omega) hO35.ext.size ?_
                            intro v13 X36 hown6 hg6 hb6
                            obtain ⟨g13, c13, rfl⟩ := ownsRow_pos hown6 (by omega)
                            have hO36 := hO35.app 0 rfl hg6 hown6 hb6
                            have hO36 : OwnL Wb X36 [.row 3 1 (.slice (some ⟨g13, 0, none⟩) (kn + 1) c13) (kn + 1) (wy.map (.int .i64) ++ [.int .i64 (i : Int)]), .blk X1.heap.size (.cells #[.int .i64 (i : Int)] 3), .blk X0.heap.size (.cells #[.int .i64 tx] 3), .row 3 1 (.slice (some ⟨g6, 0, none⟩) (ln + 1) c6) (ln + 1) (ordE es2 ++ [.int .i64 tx]), .rows 37 3 1 (.slice (some ⟨gw2, 0, none⟩) ln cw2) vs2 (es2.map (fun e => intRow e.way))] := hO36
                            have hSX36 := cell_rows' hO36 4 rfl hjn
                            refine hK.out _ _ hSX36 ?_
                            clear hK K hg6 hb6 hown6 hO35 hSX35
                            try simp only [Act.put, List.setIfInBounds_toArray, List.set_cons_zero, List.set_cons_succ]
                            refine wpAnyB_ready (rs := [14]) (by kernel_rfl) (by simp) (AllB.cons rfl (fun K hK => ?_) AllB.nil)
                            go_simp
                            refine hK.out _ _ ((alloc_ext _ _).cell hSX36) ?_
                            clear hK K
                            try simp only [Act.put, List.setIfInBounds_toArray, List.set_cons_zero, List.set_cons_succ]
                            obtain ⟨X37, hX⟩ : ∃ Y, Y = X36.alloc (.cells #[.slice (some ⟨g13, 0, none⟩) (kn + 1) c13] 37) := ⟨_, rfl⟩
                            have hO37 := hO36.add (alloc_ext X36 (.cells #[.slice (some ⟨g13, 0, none⟩) (kn + 1) c13] 37)) (A := .blk X36.heap.size (.cells #[.slice (some ⟨g13, 0, none⟩) (kn + 1) c13] 37)) ⟨Nat.le_refl _, heap_alloc_new _ _⟩
                            rw [← hX] at hO37
                            have hSX37 : X37.cell? ⟨gw2, n, none⟩ = some (.slice (some ⟨gn, 0, none⟩) kn cu) := by rw [hX]; exact (alloc_ext _ _).cell hSX36
                            rw [← hX]
                            clear hX hO36 hSX36
                            refine wpAnyB_tail rfl rfl (by decide) (by kernel_rfl) ?_
                            have hT : OwnL Wb X37 [.row 3 1 (.slice (some ⟨g13, 0, none⟩) (kn + 1) c13) (kn + 1) (wy.map (.int .i64) ++ [.int .i64 (i : Int)]), .rows 37 3 1 (.slice (some ⟨gw2, 0, none⟩) ln cw2) vs2 (es2.map (fun e => intRow e.way)), .row 3 1 (.slice (some ⟨g6, 0, none⟩) (ln + 1) c6) (ln + 1) (ordE es2 ++ [.int .i64 tx]), .blk X36.heap.size (.cells #[.slice (some ⟨g13, 0, none⟩) (kn + 1) c13] 37)] := hO37.pick4 1 5 4 0 rfl rfl rfl rfl (by decide) (by decide) (by decide) (by decide) (by decide) (by decide)
                            clear hO37
                            have hownV := (hT.get 1 rfl : OwnRows X37 Wb.heap.size 37 3 1 (.slice (some ⟨gw2, 0, none⟩) ln cw2) vs2 (es2.map (fun e => intRow e.way))).own
                            rw [hvl2] at hownV
                            go_wp2_with (at_builtin; refine wpList_append_own2 rfl _ _ 75 rfl Wb.heap.size 37 i37 (.slice none 0 0) 1 24 Try.underlying75 hi37 hz37 hs37 hb37 rfl (by decide) (.slice (some ⟨gw2, 0, none⟩) ln cw2) ln vs2 (by rfl) hownV ⟨_, 0, none⟩ 1 1 [.slice (some ⟨g13, 0, none⟩) (kn + 1) c13] (by rfl) rfl (new_blk (hT.get 3 rfl).2) (one_slice _ _ _) (by unfold maxLen; omega) (by omega) hT.ext.size ?_; intro v7 w7 hown7 hg7 hb7)
                            have hp := (hT.push hg7 (by rw [hvl2]; exact hown7) hb7).pick2 1 0 rfl rfl (by decide)
                            go_roundw
                            case rel => exact ⟨i + 1, _, by go_num, by omega, hp.ext, (HNA.out _).trans HUN2.out, by rw [HEL.out.1, HEL.out.2.1, HEL.out.2.2]; exact hp⟩
                            case measure => simp [intOf]; omega
                          · skip
                            go_simp
                            refine hK.out _ _ ((alloc_ext _ _).cell hSX32) ?_
                            clear hK K
                            try simp only [Act.put, List.setIfInBounds_toArray, List.set_cons_zero, List.set_cons_succ]
                            obtain ⟨X38, hX⟩ : ∃ Y, Y = X32.alloc (.cells #[] 3) := ⟨_, rfl⟩
                            have hO38 := hO32.add (alloc_ext X32 (.cells #[] 3)) (A := .row 3 1 (.slice (some ⟨X32.heap.size, 0, none⟩) 0 0) 0 []) (World.ownsRow_lit (base := X32.heap.size) (e := 3) (size := 1) X32 #[] 0 (Nat.le_refl _) (by unfold maxLen; omega) rfl)
                            rw [← hX] at hO38
                            have hSX38 : X38.cell? ⟨gw2, n, none⟩ = some (.slice (some ⟨gn, 0, none⟩) kn cu) := by rw [hX]; exact (alloc_ext _ _).cell hSX32
                            rw [← hX]
                            clear hX hO32 hSX32
                            refine wpAnyB_ready (rs := [3]) (by kernel_rfl) (by simp) (AllB.cons rfl (fun K hK => ?_) AllB.nil)
                            refine step_append_own2 rfl _ _ 37 rfl Wb.heap.size 3 i3 (.int .i64 0) 1 8 Try.underlying37 hi3 hz3 hs3 hb3 rfl (by decide) (.slice (some ⟨gs2, 0, none⟩) ln cs2) ln (ordE es2) (by rfl) (hO38.get 3 rfl) ⟨_, 0, none⟩ 1 1 [.int .i64 tx] (by rfl) rfl (new_blk (hO38.get 2 rfl).2) (one_int _) (by unfold maxLen; omega) (by omega) hO38.ext.size ?_
                            intro v6 X39 hown6 hg6 hb6
                            obtain ⟨g6, c6, rfl⟩ := ownsRow_pos hown6 (by omega)
                            have hO39 := hO38.app 3 rfl hg6 hown6 hb6
                            have hO39 : OwnL Wb X39 [.row 3 1 (.slice (some ⟨X32.heap.size, 0, none⟩) 0 0) 0 [], .blk X1.heap.size (.cells #[.int .i64 (i : Int)] 3), .blk X0.heap.size (.cells #[.int .i64 tx] 3), .row 3 1 (.slice (some ⟨g6, 0, none⟩) (ln + 1) c6) (ln + 1) (ordE es2 ++ [.int .i64 tx]), .rows 37 3 1 (.slice (some ⟨gw2, 0, none⟩) ln cw2) vs2 (es2.map (fun e => intRow e.way))] := hO39
                            have hSX39 := cell_rows' hO39 4 rfl hjn
                            refine hK.out _ _ hSX39 ?_
                            clear hK K hg6 hb6 hown6 hO38 hSX38
                            try simp only [Act.put, List.setIfInBounds_toArray, List.set_cons_zero, List.set_cons_succ]
                            refine wpAnyB_ready (rs := [10]) (by kernel_rfl) (by simp) (AllB.cons rfl (fun K hK => ?_) AllB.nil)
                            refine step_append_own2 rfl _ _ 37 rfl Wb.heap.size 3 i3 (.int .i64 0) 1 8 Try.underlying37 hi3 hz3 hs3 hb3 rfl (by decide) (.slice (some ⟨X32.heap.size, 0, none⟩) 0 0) 0 [] (by rfl) (hO39.get 0 rfl) ⟨gn, 0, none⟩ kn cu (wy.map (.int .i64)) (by rfl) (by simp; exact hkn) (rows_news hO39 4 rfl hjn hjr) (all_ints _) (by unfold maxLen; omega) (by omega) hO39.ext.size ?_
                            intro v10 X40 hown6 hg6 hb6
                            rw [Nat.zero_add, List.nil_append] at hown6
                            obtain ⟨A10, c10, rfl⟩ := own_form hown6
                            have hO40 := hO39.app 0 rfl hg6 hown6 hb6
                            have hO40 : OwnL Wb X40 [.row 3 1 (.slice A10 kn c10) kn (wy.map (.int .i64)), .blk X1.heap.size (.cells #[.int .i64 (i : Int)] 3), .blk X0.heap.size (.cells #[.int .i64 tx] 3), .row 3 1 (.slice (some ⟨g6, 0, none⟩) (ln + 1) c6) (ln + 1) (ordE es2 ++ [.int .i64 tx]), .rows 37 3 1 (.slice (some ⟨gw2, 0, none⟩) ln cw2) vs2 (es2.map (fun e => intRow e.way))] := hO40
                            have hSX40 := cell_rows' hO40 4 rfl hjn
                            refine hK.out _ _ hSX40 ?_
                            clear hK K hg6 hb6 hown6 hO39 hSX39
                            try simp only [Act.put, List.setIfInBounds_toArray, List.set_cons_zero, List.set_cons_succ]
                            refine wpAnyB_ready (rs := [13]) (by kernel_rfl) (by simp) (AllB.cons rfl (fun K hK => ?_) AllB.nil)
                            refine step_append_own2 rfl _ _ 37 rfl Wb.heap.size 3 i3 (.int .i64 0) 1 8 Try.underlying37 hi3 hz3 hs3 hb3 rfl (by decide) (.slice A10 kn c10) kn (wy.map (.int .i64)) (by rfl) (hO40.get 0 rfl) ⟨_, 0, none⟩ 1 1 [.int .i64 (i : Int)] (by rfl) rfl (new_blk (hO40.get 1 rfl).2) (one_int _) (by unfold maxLen; omega) (by omega) hO40.ext.size ?_
                            intro v13 X41 hown6 hg6 hb6
                            obtain ⟨g13, c13, rfl⟩ := ownsRow_pos hown6 (by omega)
                            have hO41 := hO40.app 0 rfl hg6 hown6 hb6
                            have hO41 : OwnL Wb X41 [.row 3 1 (.slice (some ⟨g13, 0, none⟩) (kn + 1) c13) (kn + 1) (wy.map (.int .i64) ++ [.int .i64 (i : Int)]), .blk X1.heap.size (.cells #[.int .i64 (i : Int)] 3), .blk X0.heap.size (.cells #[.int .i64 tx] 3), .row 3 1 (.slice (some ⟨g6, 0, none⟩) (ln + 1) c6) (ln + 1) (ordE es2 ++ [.int .i64 tx]), .rows 37 3 1 (.slice (some ⟨gw2, 0, none⟩) ln cw2) vs2 (es2.map (fun e => intRow e.way))] := hO41
                            have hSX41 := cell_rows' hO41 4 rfl hjn
                            refine hK.out _ _ hSX41 ?_
                            clear hK K hg6 hb6 hown6 hO40 hSX40
                            try simp only [Act.put, List.setIfInBounds_toArray, List.set_cons_zero, List.set_cons_succ]
                            refine wpAnyB_ready (rs := [14]) (by kernel_rfl) (by simp) (AllB.cons rfl (fun K hK => ?_) AllB.nil)
                            go_simp
                            refine hK.out _ _ ((alloc_ext _ _).cell hSX41) ?_
                            clear hK K
                            try simp only [Act.put, List.setIfInBounds_toArray, List.set_cons_zero, List.set_cons_succ]
                            obtain ⟨X42, hX⟩ : ∃ Y, Y = X41.alloc (.cells #[.slice (some ⟨g13, 0, none⟩) (kn + 1) c13] 37) := ⟨_, rfl⟩
                            have hO42 := hO41.add (alloc_ext X41 (.cells #[.slice (some ⟨g13, 0, none⟩) (kn + 1) c13] 37)) (A := .blk X41.heap.size (.cells #[.slice (some ⟨g13, 0, none⟩) (kn + 1) c13] 37)) ⟨Nat.le_refl _, heap_alloc_new _ _⟩
                            rw [← hX] at hO42
                            have hSX42 : X42.cell? ⟨gw2, n, none⟩ = some (.slice (some ⟨gn, 0, none⟩) kn cu) := by rw [hX]; exact (alloc_ext _ _).cell hSX41
                            rw [← hX]
                            clear hX hO41 hSX41
                            refine wpAnyB_tail rfl rfl (by decide) (by kernel_rfl) ?_
                            have hT : OwnL Wb X42 [.row 3 1 (.slice (some ⟨g13, 0, none⟩) (kn + 1) c13) (kn + 1) (wy.map (.int .i64) ++ [.int .i64 (i : Int)]), .rows 37 3 1 (.slice (some ⟨gw2, 0, none⟩) ln cw2) vs2 (es2.map (fun e => intRow e.way)), .row 3 1 (.slice (some ⟨g6, 0, none⟩) (ln + 1) c6) (ln + 1) (ordE es2 ++ [.int .i64 tx]), .blk X41.heap.size (.cells #[.slice (some ⟨g13, 0, none⟩) (kn + 1) c13] 37)] := hO42.pick4 1 5 4 0 rfl rfl rfl rfl (by decide) (by decide) (by decide) (by decide) (by decide) (by decide)
                            clear hO42
                            have hownV := (hT.get 1 rfl : OwnRows X42 Wb.heap.size 37 3 1 (.slice (some ⟨gw2, 0, none⟩) ln cw2) vs2 (es2.map (fun e => intRow e.way))).own
                            rw [hvl2] at hownV
                            go_wp2_with (at_builtin; refine wpList_append_own2 rfl _ _ 75 rfl Wb.heap.size 37 i37 (.slice none 0 0) 1 24 Try.underlying75 hi37 hz37 hs37 hb37 rfl (by decide) (.slice (some ⟨gw2, 0, none⟩) ln cw2) ln vs2 (by rfl) hownV ⟨_, 0, none⟩ 1 1 [.slice (some ⟨g13, 0, none⟩) (kn + 1) c13] (by rfl) rfl (new_blk (hT.get 3 rfl).2) (one_slice _ _ _) (by unfold maxLen; omega) (by omega) hT.ext.size ?_; intro v7 w7 hown7 hg7 hb7)
                            have hp := (hT.push hg7 (by rw [hvl2]; exact hown7) hb7).pick2 1 0 rfl rfl (by decide)
                            go_roundw
                            case rel => exact ⟨i + 1, _, by go_num, by omega, hp.ext, (HNA.out _).trans HUN2.out, by rw [HEL.out.1, HEL.out.2.1, HEL.out.2.2]; exact hp⟩
                            case measure => simp [intOf]; omega
                      · skip
                        go_simp
                        refine hK.out _ _ ((alloc_ext _ _).cell hSX0) ?_
                        clear hK K
                        try simp only [Act.put, List.setIfInBounds_toArray, List.set_cons_zero, List.set_cons_succ]
                        obtain ⟨X43, hX⟩ : ∃ Y, Y = X0.alloc (.cells #[] 3) := ⟨_, rfl⟩
                        have hO43 := hO0.add (alloc_ext X0 (.cells #[] 3)) (A := .row 3 1 (.slice (some ⟨X0.heap.size, 0, none⟩) 0 0) 0 []) (World.ownsRow_lit (base := X0.heap.size) (e := 3) (size := 1) X0 #[] 0 (Nat.le_refl _) (by unfold maxLen; omega) rfl)
                        rw [← hX] at hO43
                        have hSX43 : X43.cell? ⟨gw2, n, none⟩ = some (.slice (some ⟨gn, 0, none⟩) kn cu) := by rw [hX]; exact (alloc_ext _ _).cell hSX0
                        rw [← hX]
                        clear hX hO0 hSX0
                        refine wpAnyB_ready (rs := [2, 12]) (by kernel_rfl) (by simp) (AllB.cons rfl (fun K hK => ?_) (AllB.cons rfl (fun K hK => ?_) AllB.nil))
                        · skip
                          go_simp
                          refine hK.out _ _ ((alloc_ext _ _).cell hSX43) ?_
                          clear hK K
                          try simp only [Act.put, List.setIfInBounds_toArray, List.set_cons_zero, List.set_cons_succ]
                          obtain ⟨X44, hX⟩ : ∃ Y, Y = X43.alloc (.cells #[.int .i64 tx] 3) := ⟨_, rfl⟩
                          have hO44 := hO43.add (alloc_ext X43 (.cells #[.int .i64 tx] 3)) (A := .blk X43.heap.size (.cells #[.int .i64 tx] 3)) ⟨Nat.le_refl _, heap_alloc_new _ _⟩
                          rw [← hX] at hO44
                          have hSX44 : X44.cell? ⟨gw2, n, none⟩ = some (.slice (some ⟨gn, 0, none⟩) kn cu) := by rw [hX]; exact (alloc_ext _ _).cell hSX43
                          rw [← hX]
                          clear hX hO43 hSX43
                          refine wpAnyB_ready (rs := [3, 12]) (by kernel_rfl) (by simp) (AllB.cons rfl (fun K hK => ?_) (AllB.cons rfl (fun K hK => ?_) AllB.nil))
                          · skip
                            refine step_append_own2 rfl _ _ 37 rfl Wb.heap.size 3 i3 (.int .i64 0) 1 8 Try.underlying37 hi3 hz3 hs3 hb3 rfl (by decide) (.slice (some ⟨gs2, 0, none⟩) ln cs2) ln (ordE es2) (by rfl) (hO44.get 2 rfl) ⟨_, 0, none⟩ 1 1 [.int .i64 tx] (by rfl) rfl (new_blk (hO44.get 0 rfl).2) (one_int _) (by unfold maxLen; omega) (by omega) hO44.ext.size ?_
                            intro v6 X45 hown6 hg6 hb6
                            obtain ⟨g6, c6, rfl⟩ := ownsRow_pos hown6 (by omega)
                            have hO45 := hO44.app 2 rfl hg6 hown6 hb6
                            have hO45 : OwnL Wb X45 [.blk X43.heap.size (.cells #[.int .i64 tx] 3), .row 3 1 (.slice (some ⟨X0.heap.size, 0, none⟩) 0 0) 0 [], .row 3 1 (.slice (some ⟨g6, 0, none⟩) (ln + 1) c6) (ln + 1) (ordE es2 ++ [.int .i64 tx]), .rows 37 3 1 (.slice (some ⟨gw2, 0, none⟩) ln cw2) vs2 (es2.map (fun e => intRow e.way))] := hO45
                            have hSX45 := cell_rows' hO45 3 rfl hjn
                            refine hK.out _ _ hSX45 ?_
                            clear hK K hg6 hb6 hown6 hO44 hSX44
                            try simp only [Act.put, List.setIfInBounds_toArray, List.set_cons_zero, List.set_cons_succ]
                            refine wpAnyB_ready (rs := [10, 12]) (by kernel_rfl) (by simp) (AllB.cons rfl (fun K hK => ?_) (AllB.cons rfl (fun K hK => ?_) AllB.nil))
                            · skip
                              refine step_append_own2 rfl _ _ 37 rfl Wb.heap.size 3 i3 (.int .i64 0) 1 8 Try.underlying37 hi3 hz3 hs3 hb3 rfl (by decide) (.slice (some ⟨X0.heap.size, 0, none⟩) 0 0) 0 [] (by rfl) (hO45.get 1 rfl) ⟨gn, 0, none⟩ kn cu (wy.map (.int .i64)) (by rfl) (by simp; exact hkn) (rows_news hO45 3 rfl hjn hjr) (all_ints _) (by unfold maxLen; omega) (by omega) hO45.ext.size ?_
                              intro v10 X46 hown6 hg6 hb6
                              rw [Nat.zero_add, List.nil_append] at hown6
                              obtain ⟨A10, c10, rfl⟩ := own_form hown6
                              have hO46 := hO45.app 1 rfl hg6 hown6 hb6
                              have hO46 : OwnL Wb X46 [.blk X43.heap.size (.cells #[.int .i64 tx] 3), .row 3 1 (.slice A10 kn c10) kn (wy.map (.int .i64)), .row 3 1 (.slice (some ⟨g6, 0, none⟩) (ln + 1) c6) (ln + 1) (ordE es2 ++ [.int .i64 tx]), .rows 37 3 1 (.slice (some ⟨gw2, 0, none⟩) ln cw2) vs2 (es2.map (fun e => intRow e.way))] := hO46
                              have hSX46 := cell_rows' hO46 3 rfl hjn
                              refine hK.out _ _ hSX46 ?_
                              clear hK K hg6 hb6 hown6 hO45 hSX45
                              try simp only [Act.put, List.setIfInBounds_toArray, List.set_cons_zero, List.set_cons_succ]
                              refine wpAnyB_ready (rs := [12]) (by kernel_rfl) (by simp) (AllB.cons rfl (fun K hK => ?_) AllB.nil)
                              go_simp
                              refine hK.out _ _ ((alloc_ext _ _).cell hSX46) ?_
                              clear hK K
                              try simp only [Act.put, List.setIfInBounds_toArray, List.set_cons_zero, List.set_cons_succ]
                              obtain ⟨X47, hX⟩ : ∃ Y, Y = X46.alloc (.cells #[.int .i64 (i : Int)] 3) := ⟨_, rfl⟩
                              have hO47 := hO46.add (alloc_ext X46 (.cells #[.int .i64 (i : Int)] 3)) (A := .blk X46.heap.size (.cells #[.int .i64 (i : Int)] 3)) ⟨Nat.le_refl _, heap_alloc_new _ _⟩
                              rw [← hX] at hO47
                              have hSX47 : X47.cell? ⟨gw2, n, none⟩ = some (.slice (some ⟨gn, 0, none⟩) kn cu) := by rw [hX]; exact (alloc_ext _ _).cell hSX46
                              rw [← hX]
                              clear hX hO46 hSX46
                              refine wpAnyB_ready (rs := [13]) (by kernel_rfl) (by simp) (AllB.cons rfl (fun K hK => ?_) AllB.nil)
                              refine step_append_own2 rfl _ _ 37 rfl Wb.heap.size 3 i3 (.int .i64 0) 1 8 Try.underlying37 hi3 hz3 hs3 hb3 rfl (by decide) (.slice A10 kn c10) kn (wy.map (.int .i64)) (by rfl) (hO47.get 2 rfl) ⟨_, 0, none⟩ 1 1 [.int .i64 (i : Int)] (by rfl) rfl (new_blk (hO47.get 0 rfl).2) (one_int _) (by unfold maxLen; omega) (by omega) hO47.ext.size ?_
                              intro v13 X48 hown6 hg6 hb6
                              obtain ⟨g13, c13, rfl⟩ := ownsRow_pos hown6 (by omega)
                              have hO48 := hO47.app 2 rfl hg6 hown6 hb6
                              have hO48 : OwnL Wb X48 [.blk X46.heap.size (.cells #[.int .i64 (i : Int)] 3), .blk X43.heap.size (.cells #[.int .i64 tx] 3), .row 3 1 (.slice (some ⟨g13, 0, none⟩) (kn + 1) c13) (kn + 1) (wy.map (.int .i64) ++ [.int .i64 (i : Int)]), .row 3 1 (.slice (some ⟨g6, 0, none⟩) (ln + 1) c6) (ln + 1) (ordE es2 ++ [.int .i64 tx]), .rows 37 3 1 (.slice (some ⟨gw2, 0, none⟩) ln cw2) vs2 (es2.map (fun e => intRow e.way))] := hO48
                              have hSX48 := cell_rows' hO48 4 rfl hjn
                              refine hK.out _ _ hSX48 ?_
                              clear hK K hg6 hb6 hown6 hO47 hSX47
                              try simp only [Act.put, List.setIfInBounds_toArray, List.set_cons_zero, List.set_cons_succ]
                              refine wpAnyB_ready (rs := [14]) (by kernel_rfl) (by simp) (AllB.cons rfl (fun K hK => ?_) AllB.nil)
                              go_simp
                              refine hK.out _ _ ((alloc_ext _ _).cell hSX48) ?_
                              clear hK K
                              try simp only [Act.put, List.setIfInBounds_toArray, List.set_cons_zero, List.set_cons_succ]
                              obtain ⟨X49, hX⟩ : ∃ Y, Y = X48.alloc (.cells #[.slice (some ⟨g13, 0, none⟩) (kn + 1) c13] 37) := ⟨_, rfl⟩
                              have hO49 := hO48.add (alloc_ext X48 (.cells #[.slice (some ⟨g13, 0, none⟩) (kn + 1) c13] 37)) (A := .blk X48.heap.size (.cells #[.slice (some ⟨g13, 0, none⟩) (kn + 1) c13] 37)) ⟨Nat.le_refl _, heap_alloc_new _ _⟩
                              rw [← hX] at hO49
                              have hSX49 : X49.cell? ⟨gw2, n, none⟩ = some (.slice (some ⟨gn, 0, none⟩) kn cu) := by rw [hX]; exact (alloc_ext _ _).cell hSX48
                              rw [← hX]
                              clear hX hO48 hSX48
                              refine wpAnyB_tail rfl rfl (by decide) (by kernel_rfl) ?_
                              have hT : OwnL Wb X49 [.row 3 1 (.slice (some ⟨g13, 0, none⟩) (kn + 1) c13) (kn + 1) (wy.map (.int .i64) ++ [.int .i64 (i : Int)]), .rows 37 3 1 (.slice (some ⟨gw2, 0, none⟩) ln cw2) vs2 (es2.map (fun e => intRow e.way)), .row 3 1 (.slice (some ⟨g6, 0, none⟩) (ln + 1) c6) (ln + 1) (ordE es2 ++ [.int .i64 tx]), .blk X48.heap.size (.cells #[.slice (some ⟨g13, 0, none⟩) (kn + 1) c13] 37)] := hO49.pick4 3 5 4 0 rfl rfl rfl rfl (by decide) (by decide) (by decide) (by decide) (by decide) (by decide)
                              clear hO49
                              have hownV := (hT.get 1 rfl : OwnRows X49 Wb.heap.size 37 3 1 (.slice (some ⟨gw2, 0, none⟩) ln cw2) vs2 (es2.map (fun e => intRow e.way))).own
                              rw [hvl2] at hownV
                              go_wp2_with (at_builtin; refine wpList_append_own2 rfl _ _ 75 rfl Wb.heap.size 37 i37 (.slice none 0 0) 1 24 Try.underlying75 hi37 hz37 hs37 hb37 rfl (by decide) (.slice (some ⟨gw2, 0, none⟩) ln cw2) ln vs2 (by rfl) hownV ⟨_, 0, none⟩ 1 1 [.slice (some ⟨g13, 0, none⟩) (kn + 1) c13] (by rfl) rfl (new_blk (hT.get 3 rfl).2) (one_slice _ _ _) (by unfold maxLen; omega) (by omega) hT.ext.size ?_; intro v7 w7 hown7 hg7 hb7)
                              have hp := (hT.push hg7 (by rw [hvl2]; exact hown7) hb7).pick2 1 0 rfl rfl (by decide)
                              go_roundw
                              case rel => exact ⟨i + 1, _, by go_num, by omega, hp.ext, (HNA.out _).trans HUN2.out, by rw [HEL.out.1, HEL.out.2.1, HEL.out.2.2]; exact hp⟩
                              case measure => simp [intOf]; omega
                            · skip
                              go_simp
                              refine hK.out _ _ ((alloc_ext _ _).cell hSX45) ?_
                              clear hK K
                              try simp only [Act.put, List.setIfInBounds_toArray, List.set_cons_zero, List.set_cons_succ]
                              obtain ⟨X50, hX⟩ : ∃ Y, Y = X45.alloc (.cells #[.int .i64 (i : Int)] 3) := ⟨_, rfl⟩
                              have hO50 := hO45.add (alloc_ext X45 (.cells #[.int .i64 (i : Int)] 3)) (A := .blk X45.heap.size (.cells #[.int .i64 (i : Int)] 3)) ⟨Nat.le_refl _, heap_alloc_new _ _⟩
                              rw [← hX] at hO50
                              have hSX50 : X50.cell? ⟨gw2, n, none⟩ = some (.slice (some ⟨gn, 0, none⟩) kn cu) := by rw [hX]; exact (alloc_ext _ _).cell hSX45
                              rw [← hX]
                              clear hX hO45 hSX45
                              refine wpAnyB_ready (rs := [10]) (by kernel_rfl) (by simp) (AllB.cons rfl (fun K hK => ?_) AllB.nil)
                              refine step_append_own2 rfl _ _ 37 rfl Wb.heap.size 3 i3 (.int .i64 0) 1 8 Try.underlying37 hi3 hz3 hs3 hb3 rfl (by decide) (.slice (some ⟨X0.heap.size, 0, none⟩) 0 0) 0 [] (by rfl) (hO50.get 2 rfl) ⟨gn, 0, none⟩ kn cu (wy.map (.int .i64)) (by rfl) (by simp; exact hkn) (rows_news hO50 4 rfl hjn hjr) (all_ints _) (by unfold maxLen; omega) (by omega) hO50.ext.size ?_
                              intro v10 X51 hown6 hg6 hb6
                              rw [Nat.zero_add, List.nil_append] at hown6
                              obtain ⟨A10, c10, rfl⟩ := own_form hown6
                              have hO51 := hO50.app 2 rfl hg6 hown6 hb6
                              have hO51 : OwnL Wb X51 [.blk X45.heap.size (.cells #[.int .i64 (i : Int)] 3), .blk X43.heap.size (.cells #[.int .i64 tx] 3), .row 3 1 (.slice A10 kn c10) kn (wy.map (.int .i64)), .row 3 1 (.slice (some ⟨g6, 0, none⟩) (ln + 1) c6) (ln + 1) (ordE es2 ++ [.int .i64 tx]), .rows 37 3 1 (.slice (some ⟨gw2, 0, none⟩) ln cw2) vs2 (es2.map (fun e => intRow e.way))] := hO51
                              have hSX51 := cell_rows' hO51 4 rfl hjn
                              refine hK.out _ _ hSX51 ?_
                              clear hK K hg6 hb6 hown6 hO50 hSX50
                              try simp only [Act.put, List.setIfInBounds_toArray, List.set_cons_zero, List.set_cons_succ]
                              refine wpAnyB_ready (rs := [13]) (by kernel_rfl) (by simp) (AllB.cons rfl (fun K hK => ?_) AllB.nil)
                              refine step_append_own2 rfl _ _ 37 rfl Wb.heap.size 3 i3 (.int .i64 0) 1 8 Try.underlying37 hi3 hz3 hs3 hb3 rfl (by decide) (.slice A10 kn c10) kn (wy.map (.int .i64)) (by rfl) (hO51.get 2 rfl) ⟨_, 0, none⟩ 1 1 [.int .i64 (i : Int)] (by rfl) rfl (new_blk (hO51.get 0 rfl).2) (one_int _) (by unfold maxLen; omega) (by omega) hO51.ext.size ?_
                              intro v13 X52 hown6 hg6 hb6
                              obtain ⟨g13, c13, rfl⟩ := ownsRow_pos hown6 (by omega)
                              have hO52 := hO51.app 2 rfl hg6 hown6 hb6
                              have hO52 : OwnL Wb X52 [.blk X45.heap.size (.cells #[.int .i64 (i : Int)] 3), .blk X43.heap.size (.cells #[.int .i64 tx] 3), .row 3 1 (.slice (some ⟨g13, 0, none⟩) (kn + 1) c13) (kn + 1) (wy.map (.int .i64) ++ [.int .i64 (i : Int)]), .row 3 1 (.slice (some ⟨g6, 0, none⟩) (ln + 1) c6) (ln + 1) (ordE es2 ++ [.int .i64 tx]), .rows 37 3 1 (.slice (some ⟨gw2, 0, none⟩) ln cw2) vs2 (es2.map (fun e => intRow e.way))] := hO52
                              have hSX52 := cell_rows' hO52 4 rfl hjn
                              refine hK.out _ _ hSX52 ?_
                              clear hK K hg6 hb6 hown6 hO51 hSX51
                              try simp only [Act.put, List.setIfInBounds_toArray, List.set_cons_zero, List.set_cons_succ]
                              refine wpAnyB_ready (rs := [14]) (by kernel_rfl) (by simp) (AllB.cons rfl (fun K hK => ?_) AllB.nil)
                              go_simp
                              refine hK.out _ _ ((alloc_ext _ _).cell hSX52) ?_
                              clear hK K
                              try simp only [Act.put, List.setIfInBounds_toArray, List.set_cons_zero, List.set_cons_succ]
                              obtain ⟨X53, hX⟩ : ∃ Y, Y = X52.alloc (.cells #[.slice (some ⟨g13, 0, none⟩) (kn + 1) c13] 37) := ⟨_, rfl⟩
                              have hO53 := hO52.add (alloc_ext X52 (.cells #[.slice (some ⟨g13, 0, none⟩) (kn + 1) c13] 37)) (A := .blk X52.heap.size (.cells #[.slice (some ⟨g13, 0, none⟩) (kn + 1) c13] 37)) ⟨Nat.le_refl _, heap_alloc_new _ _⟩
                              rw [← hX] at hO53
                              have hSX53 : X53.cell? ⟨gw2, n, none⟩ = some (.slice (some ⟨gn, 0, none⟩) kn cu) := by rw [hX]; exact (alloc_ext _ _).cell hSX52
                              rw [← hX]
                              clear hX hO52 hSX52
                              refine wpAnyB_tail rfl rfl (by decide) (by kernel_rfl) ?_
                              have hT : OwnL Wb X53 [.row 3 1 (.slice (some ⟨g13, 0, none⟩) (kn + 1) c13) (kn + 1) (wy.map (.int .i64) ++ [.int .i64 (i : Int)]), .rows 37 3 1 (.slice (some ⟨gw2, 0, none⟩) ln cw2) vs2 (es2.map (fun e => intRow e.way)), .row 3 1 (.slice (some ⟨g6, 0, none⟩) (ln + 1) c6) (ln + 1) (ordE es2 ++ [.int .i64 tx]), .blk X52.heap.size (.cells #[.slice (some ⟨g13, 0, none⟩) (kn + 1) c13] 37)] := hO53.pick4 3 5 4 0 rfl rfl rfl rfl (by decide) (by decide) (by decide) (by decide) (by decide) (by decide)
                              clear hO53
                              have hownV := (hT.get 1 rfl : OwnRows X53 Wb.heap.size 37 3 1 (.slice (some ⟨gw2, 0, none⟩) ln cw2) vs2 (es2.map (fun e => intRow e.way))).own
                              rw [hvl2] at hownV
                              go_wp2_with (at_builtin; refine wpList_append_own2 rfl _ _ 75 rfl Wb.heap.size 37 i37 (.slice none 0 0) 1 24 Try.underlying75 hi37 hz37 hs37 hb37 rfl (by decide) (.slice (some ⟨gw2, 0, none⟩) ln cw2) ln vs2 (by rfl) hownV ⟨_, 0, none⟩ 1 1 [.slice (some ⟨g13, 0, none⟩) (kn + 1) c13] (by rfl) rfl (new_blk (hT.get 3 rfl).2) (one_slice _ _ _) (by unfold maxLen; omega) (by omega) hT.ext.size ?_; intro v7 w7 hown7 hg7 hb7)
                              have hp := (hT.push hg7 (by rw [hvl2]; exact hown7) hb7).pick2 1 0 rfl rfl (by decide)
                              go_roundw
                              case rel => exact ⟨i + 1, _, by go_num, by omega, hp.ext, (HNA.out _).trans HUN2.out, by rw [HEL.out.1, HEL.out.2.1, HEL.out.2.2]; exact hp⟩
                              case measure => simp [intOf]; omega
                          · skip
                            go_simp
                            refine hK.out _ _ ((alloc_ext _ _).cell hSX44) ?_
                            clear hK K
                            try simp only [Act.put, List.setIfInBounds_toArray, List.set_cons_zero, List.set_cons_succ]
                            obtain ⟨X54, hX⟩ : ∃ Y, Y = X44.alloc (.cells #[.int .i64 (i : Int)] 3) := ⟨_, rfl⟩
                            have hO54 := hO44.add (alloc_ext X44 (.cells #[.int .i64 (i : Int)] 3)) (A := .blk X44.heap.size (.cells #[.int .i64 (i : Int)] 3)) ⟨Nat.le_refl _, heap_alloc_new _ _⟩
                            rw [← hX] at hO54
                            have hSX54 : X54.cell? ⟨gw2, n, none⟩ = some (.slice (some ⟨gn, 0, none⟩) kn cu) := by rw [hX]; exact (alloc_ext _ _).cell hSX44
                            rw [← hX]
                            clear hX hO44 hSX44
                            refine wpAnyB_ready (rs := [3]) (by kernel_rfl) (by simp) (AllB.cons rfl (fun K hK => ?_) AllB.nil)
                            refine step_append_own2 rfl _ _ 37 rfl Wb.heap.size 3 i3 (.int .i64 0) 1 8 Try.underlying37 hi3 hz3 hs3 hb3 rfl (by decide) (.slice (some ⟨gs2, 0, none⟩) ln cs2) ln (ordE es2) (by rfl) (hO54.get 3 rfl) ⟨_, 0, none⟩ 1 1 [.int .i64 tx] (by rfl) rfl (new_blk (hO54.get 1 rfl).2) (one_int _) (by unfold maxLen; omega) (by omega) hO54.ext.size ?_
                            intro v6 X55 hown6 hg6 hb6
                            obtain ⟨g6, c6, rfl⟩ := ownsRow_pos hown6 (by omega)
                            have hO55 := hO54.app 3 rfl hg6 hown6 hb6
                            have hO55 : OwnL Wb X55 [.blk X44.heap.size (.cells #[.int .i64 (i : Int)] 3), .blk X43.heap.size (.cells #[.int .i64 tx] 3), .row 3 1 (.slice (some ⟨X0.heap.size, 0, none⟩) 0 0) 0 [], .row 3 1 (.slice (some ⟨g6, 0, none⟩) (ln + 1) c6) (ln + 1) (ordE es2 ++ [.int .i64 tx]), .rows 37 3 1 (.slice (some ⟨gw2, 0, none⟩) ln cw2) vs2 (es2.map (fun e => intRow e.way))] := hO55
                            have hSX55 := cell_rows' hO55 4 rfl hjn
                            refine hK.out _ _ hSX55 ?_
                            clear hK K hg6 hb6 hown6 hO54 hSX54
                            try simp only [Act.put, List.setIfInBounds_toArray, List.set_cons_zero, List.set_cons_succ]
                            refine wpAnyB_ready (rs := [10]) (by kernel_rfl) (by simp) (AllB.cons rfl (fun K hK => ?_) AllB.nil)
                            refine step_append_own2 rfl _ _ 37 rfl Wb.heap.size 3 i3 (.int .i64 0) 1 8 Try.underlying37 hi3 hz3 hs3 hb3 rfl (by decide) (.slice (some ⟨X0.heap.size, 0, none⟩) 0 0) 0 [] (by rfl) (hO55.get 2 rfl) ⟨gn, 0, none⟩ kn cu (wy.map (.int .i64)) (by rfl) (by simp; exact hkn) (rows_news hO55 4 rfl hjn hjr) (all_ints _) (by unfold maxLen; omega) (by omega) hO55.ext.size ?_
                            intro v10 X56 hown6 hg6 hb6
                            rw [Nat.zero_add, List.nil_append] at hown6
                            obtain ⟨A10, c10, rfl⟩ := own_form hown6
                            have hO56 := hO55.app 2 rfl hg6 hown6 hb6
                            have hO56 : OwnL Wb X56 [.blk X44.heap.size (.cells #[.int .i64 (i : Int)] 3), .blk X43.heap.size (.cells #[.int .i64 tx] 3), .row 3 1 (.slice A10 kn c10) kn (wy.map (.int .i64)), .row 3 1 (.slice (some ⟨g6, 0, none⟩) (ln + 1) c6) (ln + 1) (ordE es2 ++ [.int .i64 tx]), .rows 37 3 1 (.slice (some ⟨gw2, 0, none⟩) ln cw2) vs2 (es2.map (fun e => intRow e.way))] := hO56
                            have hSX56 := cell_rows' hO56 4 rfl hjn
                            refine hK.out _ _ hSX56 ?_
                            clear hK K hg6 hb6 hown6 hO55 hSX55
                            try simp only [Act.put, List.setIfInBounds_toArray, List.set_cons_zero, List.set_cons_succ]
                            refine wpAnyB_ready (rs := [13]) (by kernel_rfl) (by simp) (AllB.cons rfl (fun K hK => ?_) AllB.nil)
                            refine step_append_own2 rfl _ _ 37 rfl Wb.heap.size 3 i3 (.int .i64 0) 1 8 Try.underlying37 hi3 hz3 hs3 hb3 rfl (by decide) (.slice A10 kn c10) kn (wy.map (.int .i64)) (by rfl) (hO56.get 2 rfl) ⟨_, 0, none⟩ 1 1 [.int .i64 (i : Int)] (by rfl) rfl (new_blk (hO56.get 0 rfl).2) (one_int _) (by unfold maxLen; omega) (by omega) hO56.ext.size ?_
                            intro v13 X57 hown6 hg6 hb6
                            obtain ⟨g13, c13, rfl⟩ := ownsRow_pos hown6 (by omega)
                            have hO57 := hO56.app 2 rfl hg6 hown6 hb6
                            have hO57 : OwnL Wb X57 [.blk X44.heap.size (.cells #[.int .i64 (i : Int)] 3), .blk X43.heap.size (.cells #[.int .i64 tx] 3), .row 3 1 (.slice (some ⟨g13, 0, none⟩) (kn + 1) c13) (kn + 1) (wy.map (.int .i64) ++ [.int .i64 (i : Int)]), .row 3 1 (.slice (some ⟨g6, 0, none⟩) (ln + 1) c6) (ln + 1) (ordE es2 ++ [.int .i64 tx]), .rows 37 3 1 (.slice (some ⟨gw2, 0, none⟩) ln cw2) vs2 (es2.map (fun e => intRow e.way))] := hO57
                            have hSX57 := cell_rows' hO57 4 rfl hjn
                            refine hK.out _ _ hSX57 ?_
                            clear hK K hg6 hb6 hown6 hO56 hSX56
                            try simp only [Act.put, List.setIfInBounds_toArray, List.set_cons_zero, List.set_cons_succ]
                            refine wpAnyB_ready (rs := [14]) (by kernel_rfl) (by simp) (AllB.cons rfl (fun K hK => ?_) AllB.nil)
                            go_simp
                            refine hK.out _ _ ((alloc_ext _ _).cell hSX57) ?_
                            clear hK K
                            try simp only [Act.put, List.setIfInBounds_toArray, List.set_cons_zero, List.set_cons_succ]
                            obtain ⟨X58, hX⟩ : ∃ Y, Y = X57.alloc (.cells #[.slice (some ⟨g13, 0, none⟩) (kn + 1) c13] 37) := ⟨_, rfl⟩
                            have hO58 := hO57.add (alloc_ext X57 (.cells #[.slice (some ⟨g13, 0, none⟩) (kn + 1) c13] 37)) (A := .blk X57.heap.size (.cells #[.slice (some ⟨g13, 0, none⟩) (kn + 1) c13] 37)) ⟨Nat.le_refl _, heap_alloc_new _ _⟩
                            rw [← hX] at hO58
                            have hSX58 : X58.cell? ⟨gw2, n, none⟩ = some (.slice (some ⟨gn, 0, none⟩) kn cu) := by rw [hX]; exact (alloc_ext _ _).cell hSX57
                            rw [← hX]
                            clear hX hO57 hSX57
                            refine wpAnyB_tail rfl rfl (by decide) (by kernel_rfl) ?_
                            have hT : OwnL Wb X58 [.row 3 1 (.slice (some ⟨g13, 0, none⟩) (kn + 1) c13) (kn + 1) (wy.map (.int .i64) ++ [.int .i64 (i : Int)]), .rows 37 3 1 (.slice (some ⟨gw2, 0, none⟩) ln cw2) vs2 (es2.map (fun e => intRow e.way)), .row 3 1 (.slice (some ⟨g6, 0, none⟩) (ln + 1) c6) (ln + 1) (ordE es2 ++ [.int .i64 tx]), .blk X57.heap.size (.cells #[.slice (some ⟨g13, 0, none⟩) (kn + 1) c13] 37)] := hO58.pick4 3 5 4 0 rfl rfl rfl rfl (by decide) (by decide) (by decide) (by decide) (by decide) (by decide)
                            clear hO58
                            have hownV := (hT.get 1 rfl : OwnRows X58 Wb.heap.size 37 3 1 (.slice (some ⟨gw2, 0, none⟩) ln cw2) vs2 (es2.map (fun e => intRow e.way))).own
                            rw [hvl2] at hownV
                            go_wp2_with (at_builtin; refine wpList_append_own2 rfl _ _ 75 rfl Wb.heap.size 37 i37 (.slice none 0 0) 1 24 Try.underlying75 hi37 hz37 hs37 hb37 rfl (by decide) (.slice (some ⟨gw2, 0, none⟩) ln cw2) ln vs2 (by rfl) hownV ⟨_, 0, none⟩ 1 1 [.slice (some ⟨g13, 0, none⟩) (kn + 1) c13] (by rfl) rfl (new_blk (hT.get 3 rfl).2) (one_slice _ _ _) (by unfold maxLen; omega) (by omega) hT.ext.size ?_; intro v7 w7 hown7 hg7 hb7)
                            have hp := (hT.push hg7 (by rw [hvl2]; exact hown7) hb7).pick2 1 0 rfl rfl (by decide)
                            go_roundw
                            case rel => exact ⟨i + 1, _, by go_num, by omega, hp.ext, (HNA.out _).trans HUN2.out, by rw [HEL.out.1, HEL.out.2.1, HEL.out.2.2]; exact hp⟩
                            case measure => simp [intOf]; omega
                        · skip
                          go_simp
                          refine hK.out _ _ ((alloc_ext _ _).cell hSX43) ?_
                          clear hK K
                          try simp only [Act.put, List.setIfInBounds_toArray, List.set_cons_zero, List.set_cons_succ]
                          obtain ⟨X59, hX⟩ : ∃ Y, Y = X43.alloc (.cells #[.int .i64 (i : Int)] 3) := ⟨_, rfl⟩
                          have hO59 := hO43.add (alloc_ext X43 (.cells #[.int .i64 (i : Int)] 3)) (A := .blk X43.heap.size (.cells #[.int .i64 (i : Int)] 3)) ⟨Nat.le_refl _, heap_alloc_new _ _⟩
                          rw [← hX] at hO59
                          have hSX59 : X59.cell? ⟨gw2, n, none⟩ = some (.slice (some ⟨gn, 0, none⟩) kn cu) := by rw [hX]; exact (alloc_ext _ _).cell hSX43
                          rw [← hX]
                          clear hX hO43 hSX43
                          refine wpAnyB_ready (rs := [2]) (by kernel_rfl) (by simp) (AllB.cons rfl (fun K hK => ?_) AllB.nil)
                          go_simp
                          refine hK.out _ _ ((alloc_ext _ _).cell hSX59) ?_
                          clear hK K
                          try simp only [Act.put, List.setIfInBounds_toArray, List.set_cons_zero, List.set_cons_succ]
                          obtain ⟨X60, hX⟩ : ∃ Y, Y = X59.alloc (.cells #[.int .i64 tx] 3) := ⟨_, rfl⟩
                          have hO60 := hO59.add (alloc_ext X59 (.cells #[.int .i64 tx] 3)) (A := .blk X59.heap.size (.cells #[.int .i64 tx] 3)) ⟨Nat.le_refl _, heap_alloc_new _ _⟩
                          rw [← hX] at hO60
                          have hSX60 : X60.cell? ⟨gw2, n, none⟩ = some (.slice (some ⟨gn, 0, none⟩) kn cu) := by rw [hX]; exact (alloc_ext _ _).cell hSX59
                          rw [← hX]
                          clear hX hO59 hSX59
                          refine wpAnyB_ready (rs := [3]) (by kernel_rfl) (by simp) (AllB.cons rfl (fun K hK => ?_) AllB.nil)
                          refine step_append_own2 rfl _ _ 37 rfl Wb.heap.size 3 i3 (.int .i64 0) 1 8 Try.underlying37 hi3 hz3 hs3 hb3 rfl (by decide) (.slice (some ⟨gs2, 0, none⟩) ln cs2) ln (ordE es2) (by rfl) (hO60.get 3 rfl) ⟨_, 0, none⟩ 1 1 [.int .i64 tx] (by rfl) rfl (new_blk (hO60.get 0 rfl).2) (one_int _) (by unfold maxLen; omega) (by omega) hO60.ext.size ?_
                          intro v6 X61 hown6 hg6 hb6
                          obtain ⟨g6, c6, rfl⟩ := ownsRow_pos hown6 (by omega)
                          have hO61 := hO60.app 3 rfl hg6 hown6 hb6
                          have hO61 : OwnL Wb X61 [.blk X59.heap.size (.cells #[.int .i64 tx] 3), .blk X43.heap.size (.cells #[.int .i64 (i : Int)] 3), .row 3 1 (.slice (some ⟨X0.heap.size, 0, none⟩) 0 0) 0 [], .row 3 1 (.slice (some ⟨g6, 0, none⟩) (ln + 1) c6) (ln + 1) (ordE es2 ++ [.int .i64 tx]), .rows 37 3 1 (.slice (some ⟨gw2, 0, none⟩) ln cw2) vs2 (es2.map (fun e => intRow e.way))] := hO61
                          have hSX61 := cell_rows' hO61 4 rfl hjn
                          refine hK.out _ _ hSX61 ?_
                          clear hK K hg6 hb6 hown6 hO60 hSX60
                          try simp only [Act.put, List.setIfInBounds_toArray, List.set_cons_zero, List.set_cons_succ]
                          refine wpAnyB_ready (rs := [10]) (by kernel_rfl) (by simp) (AllB.cons rfl (fun K hK => ?_) AllB.nil)
                          refine step_append_own2 rfl _ _ 37 rfl Wb.heap.size 3 i3 (.int .i64 0) 1 8 Try.underlying37 hi3 hz3 hs3 hb3 rfl (by decide) (.slice (some ⟨X0.heap.size, 0, none⟩) 0 0) 0 [] (by rfl) (hO61.get 2 rfl) ⟨gn, 0, none⟩ kn cu (wy.map (.int .i64)) (by rfl) (by simp; exact hkn) (rows_news hO61 4 rfl hjn hjr) (all_ints _) (by unfold maxLen; omega) (by omega) hO61.ext.size ?_
                          intro v10 X62 hown6 hg6 hb6
                          rw [Nat.zero_add, List.nil_append] at hown6
                          obtain ⟨A10, c10, rfl⟩ := own_form hown6
                          have hO62 := hO61.app 2 rfl hg6 hown6 hb6
                          have hO62 : OwnL Wb X62 [.blk X59.heap.size (.cells #[.int .i64 tx] 3), .blk X43.heap.size (.cells #[.int .i64 (i : Int)] 3), .row 3 1 (.slice A10 kn c10) kn (wy.map (.int .i64)), .row 3 1 (.slice (some ⟨g6, 0, none⟩) (ln + 1) c6) (ln + 1) (ordE es2 ++ [.int .i64 tx]), .rows 37 3 1 (.slice (some ⟨gw2, 0, none⟩) ln cw2) vs2 (es2.map (fun e => intRow e.way))] := hO62
                          have hSX62 := cell_rows' hO62 4 rfl hjn
                          refine hK.out _ _ hSX62 ?_
                          clear hK K hg6 hb6 hown6 hO61 hSX61
                          try simp only [Act.put, List.setIfInBounds_toArray, List.set_cons_zero, List.set_cons_succ]
                          refine wpAnyB_ready (rs := [13]) (by kernel_rfl) (by simp) (AllB.cons rfl (fun K hK => ?_) AllB.nil)
                          refine step_append_own2 rfl _ _ 37 rfl Wb.heap.size 3 i3 (.int .i64 0) 1 8 Try.underlying37 hi3 hz3 hs3 hb3 rfl (by decide) (.slice A10 kn c10) kn (wy.map (.int .i64)) (by rfl) (hO62.get 2 rfl) ⟨_, 0, none⟩ 1 1 [.int .i64 (i : Int)] (by rfl) rfl (new_blk (hO62.get 1 rfl).2) (one_int _) (by unfold maxLen; omega) (by omega) hO62.ext.size ?_
                          intro v13 X63 hown6 hg6 hb6
                          obtain ⟨g13, c13, rfl⟩ := ownsRow_pos hown6 (by omega)
                          have hO63 := hO62.app 2 rfl hg6 hown6 hb6
                          have hO63 : OwnL Wb X63 [.blk X59.heap.size (.cells #[.int .i64 tx] 3), .blk X43.heap.size (.cells #[.int .i64 (i : Int)] 3), .row 3 1 (.slice (some ⟨g13, 0, none⟩) (kn + 1) c13) (kn + 1) (wy.map (.int .i64) ++ [.int .i64 (i : Int)]), .row 3 1 (.slice (some ⟨g6, 0, none⟩) (ln + 1) c6) (ln + 1) (ordE es2 ++ [.int .i64 tx]), .rows 37 3 1 (.slice (some ⟨gw2, 0, none⟩) ln cw2) vs2 (es2.map (fun e => intRow e.way))] := hO63
                          have hSX63 := cell_rows' hO63 4 rfl hjn
                          refine hK.out _ _ hSX63 ?_
                          clear hK K hg6 hb6 hown6 hO62 hSX62
                          try simp only [Act.put, List.setIfInBounds_toArray, List.set_cons_zero, List.set_cons_succ]
                          refine wpAnyB_ready (rs := [14]) (by kernel_rfl) (by simp) (AllB.cons rfl (fun K hK => ?_) AllB.nil)
                          go_simp
                          refine hK.out _ _ ((alloc_ext _ _).cell hSX63) ?_
                          clear hK K
                          try simp only [Act.put, List.setIfInBounds_toArray, List.set_cons_zero, List.set_cons_succ]
                          obtain ⟨X64, hX⟩ : ∃ Y, Y = X63.alloc (.cells #[.slice (some ⟨g13, 0, none⟩) (kn + 1) c13] 37) := ⟨_, rfl⟩
                          have hO64 := hO63.add (alloc_ext X63 (.cells #[.slice (some ⟨g13, 0, none⟩) (kn + 1) c13] 37)) (A := .blk X63.heap.size (.cells #[.slice (some ⟨g13, 0, none⟩) (kn + 1) c13] 37)) ⟨Nat.le_refl _, heap_alloc_new _ _⟩
                          rw [← hX] at hO64
                          have hSX64 : X64.cell? ⟨gw2, n, none⟩ = some (.slice (some ⟨gn, 0, none⟩) kn cu) := by rw [hX]; exact (alloc_ext _ _).cell hSX63
                          rw [← hX]
                          clear hX hO63 hSX63
                          refine wpAnyB_tail rfl rfl (by decide) (by kernel_rfl) ?_
                          have hT : OwnL Wb X64 [.row 3 1 (.slice (some ⟨g13, 0, none⟩) (kn + 1) c13) (kn + 1) (wy.map (.int .i64) ++ [.int .i64 (i : Int)]), .rows 37 3 1 (.slice (some ⟨gw2, 0, none⟩) ln cw2) vs2 (es2.map (fun e => intRow e.way)), .row 3 1 (.slice (some ⟨g6, 0, none⟩) (ln + 1) c6) (ln + 1) (ordE es2 ++ [.int .i64 tx]), .blk X63.heap.size (.cells #[.slice (some ⟨g13, 0, none⟩) (kn + 1) c13] 37)] := hO64.pick4 3 5 4 0 rfl rfl rfl rfl (by decide) (by decide) (by decide) (by decide) (by decide) (by decide)
                          clear hO64
                          have hownV := (hT.get 1 rfl : OwnRows X64 Wb.heap.size 37 3 1 (.slice (some ⟨gw2, 0, none⟩) ln cw2) vs2 (es2.map (fun e => intRow e.way))).own
                          rw [hvl2] at hownV
                          go_wp2_with (at_builtin; refine wpList_append_own2 rfl _ _ 75 rfl Wb.heap.size 37 i37 (.slice none 0 0) 1 24 Try.underlying75 hi37 hz37 hs37 hb37 rfl (by decide) (.slice (some ⟨gw2, 0, none⟩) ln cw2) ln vs2 (by rfl) hownV ⟨_, 0, none⟩ 1 1 [.slice (some ⟨g13, 0, none⟩) (kn + 1) c13] (by rfl) rfl (new_blk (hT.get 3 rfl).2) (one_slice _ _ _) (by unfold maxLen; omega) (by omega) hT.ext.size ?_; intro v7 w7 hown7 hg7 hb7)
                          have hp := (hT.push hg7 (by rw [hvl2]; exact hown7) hb7).pick2 1 0 rfl rfl (by decide)
                          go_roundw
                          case rel => exact ⟨i + 1, _, by go_num, by omega, hp.ext, (HNA.out _).trans HUN2.out, by rw [HEL.out.1, HEL.out.2.1, HEL.out.2.2]; exact hp⟩
                          case measure => simp [intOf]; omega
                      · skip
                        go_simp
                        refine hK.out _ _ ((alloc_ext _ _).cell hSX0) ?_
                        clear hK K
                        try simp only [Act.put, List.setIfInBounds_toArray, List.set_cons_zero, List.set_cons_succ]
                        obtain ⟨X65, hX⟩ : ∃ Y, Y = X0.alloc (.cells #[.int .i64 (i : Int)] 3) := ⟨_, rfl⟩
                        have hO65 := hO0.add (alloc_ext X0 (.cells #[.int .i64 (i : Int)] 3)) (A := .blk X0.heap.size (.cells #[.int .i64 (i : Int)] 3)) ⟨Nat.le_refl _, heap_alloc_new _ _⟩
                        rw [← hX] at hO65
                        have hSX65 : X65.cell? ⟨gw2, n, none⟩ = some (.slice (some ⟨gn, 0, none⟩) kn cu) := by rw [hX]; exact (alloc_ext _ _).cell hSX0
                        rw [← hX]
                        clear hX hO0 hSX0
                        refine wpAnyB_ready (rs := [2, 5]) (by kernel_rfl) (by simp) (AllB.cons rfl (fun K hK => ?_) (AllB.cons rfl (fun K hK => ?_) AllB.nil))
                        · skip
                          go_simp
                          refine hK.out _ _ ((alloc_ext _ _).cell hSX65) ?_
                          clear hK K
                          try simp only [Act.put, List.setIfInBounds_toArray, List.set_cons_zero, List.set_cons_succ]
                          obtain ⟨X66, hX⟩ : ∃ Y, Y = X65.alloc (.cells #[.int .i64 tx] 3) := ⟨_, rfl⟩
                          have hO66 := hO65.add (alloc_ext X65 (.cells #[.int .i64 tx] 3)) (A := .blk X65.heap.size (.cells #[.int .i64 tx] 3)) ⟨Nat.le_refl _, heap_alloc_new _ _⟩
                          rw [← hX] at hO66
                          have hSX66 : X66.cell? ⟨gw2, n, none⟩ = some (.slice (some ⟨gn, 0, none⟩) kn cu) := by rw [hX]; exact (alloc_ext _ _).cell hSX65
                          rw [← hX]
                          clear hX hO65 hSX65
                          refine wpAnyB_ready (rs := [3, 5]) (by kernel_rfl) (by simp) (AllB.cons rfl (fun K hK => ?_) (AllB.cons rfl (fun K hK => ?_) AllB.nil))
                          · skip
                            refine step_append_own2 rfl _ _ 37 rfl Wb.heap.size 3 i3 (.int .i64 0) 1 8 Try.underlying37 hi3 hz3 hs3 hb3 rfl (by decide) (.slice (some ⟨gs2, 0, none⟩) ln cs2) ln (ordE es2) (by rfl) (hO66.get 2 rfl) ⟨_, 0, none⟩ 1 1 [.int .i64 tx] (by rfl) rfl (new_blk (hO66.get 0 rfl).2) (one_int _) (by unfold maxLen; omega) (by omega) hO66.ext.size ?_
                            intro v6 X67 hown6 hg6 hb6
                            obtain ⟨g6, c6, rfl⟩ := ownsRow_pos hown6 (by omega)
                            have hO67 := hO66.app 2 rfl hg6 hown6 hb6
                            have hO67 : OwnL Wb X67 [.blk X65.heap.size (.cells #[.int .i64 tx] 3), .blk X0.heap.size (.cells #[.int .i64 (i : Int)] 3), .row 3 1 (.slice (some ⟨g6, 0, none⟩) (ln + 1) c6) (ln + 1) (ordE es2 ++ [.int .i64 tx]), .rows 37 3 1 (.slice (some ⟨gw2, 0, none⟩) ln cw2) vs2 (es2.map (fun e => intRow e.way))] := hO67
                            have hSX67 := cell_rows' hO67 3 rfl hjn
                            refine hK.out _ _ hSX67 ?_
                            clear hK K hg6 hb6 hown6 hO66 hSX66
                            try simp only [Act.put, List.setIfInBounds_toArray, List.set_cons_zero, List.set_cons_succ]
                            refine wpAnyB_ready (rs := [5]) (by kernel_rfl) (by simp) (AllB.cons rfl (fun K hK => ?_) AllB.nil)
                            go_simp
                            refine hK.out _ _ ((alloc_ext _ _).cell hSX67) ?_
                            clear hK K
                            try simp only [Act.put, List.setIfInBounds_toArray, List.set_cons_zero, List.set_cons_succ]
                            obtain ⟨X68, hX⟩ : ∃ Y, Y = X67.alloc (.cells #[] 3) := ⟨_, rfl⟩
                            have hO68 := hO67.add (alloc_ext X67 (.cells #[] 3)) (A := .row 3 1 (.slice (some ⟨X67.heap.size, 0, none⟩) 0 0) 0 []) (World.ownsRow_lit (base := X67.heap.size) (e := 3) (size := 1) X67 #[] 0 (Nat.le_refl _) (by unfold maxLen; omega) rfl)
                            rw [← hX] at hO68
                            have hSX68 : X68.cell? ⟨gw2, n, none⟩ = some (.slice (some ⟨gn, 0, none⟩) kn cu) := by rw [hX]; exact (alloc_ext _ _).cell hSX67
                            rw [← hX]
                            clear hX hO67 hSX67
                            refine wpAnyB_ready (rs := [10]) (by kernel_rfl) (by simp) (AllB.cons rfl (fun K hK => ?_) AllB.nil)
                            refine step_append_own2 rfl _ _ 37 rfl Wb.heap.size 3 i3 (.int .i64 0) 1 8 Try.underlying37 hi3 hz3 hs3 hb3 rfl (by decide) (.slice (some ⟨X67.heap.size, 0, none⟩) 0 0) 0 [] (by rfl) (hO68.get 0 rfl) ⟨gn, 0, none⟩ kn cu (wy.map (.int .i64)) (by rfl) (by simp; exact hkn) (rows_news hO68 4 rfl hjn hjr) (all_ints _) (by unfold maxLen; omega) (by omega) hO68.ext.size ?_
                            intro v10 X69 hown6 hg6 hb6
                            rw [Nat.zero_add, List.nil_append] at hown6
                            obtain ⟨A10, c10, rfl⟩ := own_form hown6
                            have hO69 := hO68.app 0 rfl hg6 hown6 hb6
                            have hO69 : OwnL Wb X69 [.row 3 1 (.slice A10 kn c10) kn (wy.map (.int .i64)), .blk X65.heap.size (.cells #[.int .i64 tx] 3), .blk X0.heap.size (.cells #[.int .i64 (i : Int)] 3), .row 3 1 (.slice (some ⟨g6, 0, none⟩) (ln + 1) c6) (ln + 1) (ordE es2 ++ [.int .i64 tx]), .rows 37 3 1 (.slice (some ⟨gw2, 0, none⟩) ln cw2) vs2 (es2.map (fun e => intRow e.way))] := hO69
                            have hSX69 := cell_rows' hO69 4 rfl hjn
                            refine hK.out _ _ hSX69 ?_
                            clear hK K hg6 hb6 hown6 hO68 hSX68
                            try simp only [Act.put, List.setIfInBounds_toArray, List.set_cons_zero, List.set_cons_succ]
                            refine wpAnyB_ready (rs := [13]) (by kernel_rfl) (by simp) (AllB.cons rfl (fun K hK => ?_) AllB.nil)
                            refine step_append_own2 rfl _ _ 37 rfl Wb.heap.size 3 i3 (.int .i64 0) 1 8 Try.underlying37 hi3 hz3 hs3 hb3 rfl (by decide) (.slice A10 kn c10) kn (wy.map (.int .i64)) (by rfl) (hO69.get 0 rfl) ⟨_, 0, none⟩ 1 1 [.int .i64 (i : Int)] (by rfl) rfl (new_blk (hO69.get 2 rfl).2) (one_int _) (by unfold maxLen; omega) (by omega) hO69.ext.size ?_
                            intro v13 X70 hown6 hg6 hb6
                            obtain ⟨g13, c13, rfl⟩ := ownsRow_pos hown6 (by omega)
                            have hO70 := hO69.app 0 rfl hg6 hown6 hb6
                            have hO70 : OwnL Wb X70 [.row 3 1 (.slice (some ⟨g13, 0, none⟩) (kn + 1) c13) (kn + 1) (wy.map (.int .i64) ++ [.int .i64 (i : Int)]), .blk X65.heap.size (.cells #[.int .i64 tx] 3), .blk X0.heap.size (.cells #[.int .i64 (i : Int)] 3), .row 3 1 (.slice (some ⟨g6, 0, none⟩) (ln + 1) c6) (ln + 1) (ordE es2 ++ [.int .i64 tx]), .rows 37 3 1 (.slice (some ⟨gw2, 0, none⟩) ln cw2) vs2 (es2.map (fun e => intRow e.way))] := hO70
                            have hSX70 := cell_rows' hO70 4 rfl hjn
                            refine hK.out _ _ hSX70 ?_
                            clear hK K hg6 hb6 hown6 hO69 hSX69
                            try simp only [Act.put, List.setIfInBounds_toArray, List.set_cons_zero, List.set_cons_succ]
                            refine wpAnyB_ready (rs := [14]) (by kernel_rfl) (by simp) (AllB.cons rfl (fun K hK => ?_) AllB.nil)
                            go_simp
                            refine hK.out _ _ ((alloc_ext _ _).cell hSX70) ?_
                            clear hK K
                            try simp only [Act.put, List.setIfInBounds_toArray, List.set_cons_zero, List.set_cons_succ]
                            obtain ⟨X71, hX⟩ : ∃ Y, Y = X70.alloc (.cells #[.slice (some ⟨g13, 0, none⟩) (kn + 1) c13] 37) := ⟨_, rfl⟩
                            have hO71 := hO70.add (alloc_ext X70 (.cells #[.slice (some ⟨g13, 0, none⟩) (kn + 1) c13] 37)) (A := .blk X70.heap.size (.cells #[.slice (some ⟨g13, 0, none⟩) (kn + 1) c13] 37)) ⟨Nat.le_refl _, heap_alloc_new _ _⟩
                            rw [← hX] at hO71
                            have hSX71 : X71.cell? ⟨gw2, n, none⟩ = some (.slice (some ⟨gn, 0, none⟩) kn cu) := by rw [hX]; exact (alloc_ext _ _).cell hSX70
                            rw [← hX]
                            clear hX hO70 hSX70
                            refine wpAnyB_tail rfl rfl (by decide) (by kernel_rfl) ?_
                            have hT : OwnL Wb X71 [.row 3 1 (.slice (some ⟨g13, 0, none⟩) (kn + 1) c13) (kn + 1) (wy.map (.int .i64) ++ [.int .i64 (i : Int)]), .rows 37 3 1 (.slice (some ⟨gw2, 0, none⟩) ln cw2) vs2 (es2.map (fun e => intRow e.way)), .row 3 1 (.slice (some ⟨g6, 0, none⟩) (ln + 1) c6) (ln + 1) (ordE es2 ++ [.int .i64 tx]), .blk X70.heap.size (.cells #[.slice (some ⟨g13, 0, none⟩) (kn + 1) c13] 37)] := hO71.pick4 1 5 4 0 rfl rfl rfl rfl (by decide) (by decide) (by decide) (by decide) (by decide) (by decide)
                            clear hO71
                            have hownV := (hT.get 1 rfl : OwnRows X71 Wb.heap.size 37 3 1 (.slice (some ⟨gw2, 0, none⟩) ln cw2) vs2 (es2.map (fun e => intRow e.way))).own
                            rw [hvl2] at hownV
                            go_wp2_with (at_builtin; refine wpList_append_own2 rfl _ _ 75 rfl Wb.heap.size 37 i37 (.slice none 0 0) 1 24 Try.underlying75 hi37 hz37 hs37 hb37 rfl (by decide) (.slice (some ⟨gw2, 0, none⟩) ln cw2) ln vs2 (by rfl) hownV ⟨_, 0, none⟩ 1 1 [.slice (some ⟨g13, 0, none⟩) (kn + 1) c13] (by rfl) rfl (new_blk (hT.get 3 rfl).2) (one_slice _ _ _) (by unfold maxLen; omega) (by omega) hT.ext.size ?_; intro v7 w7 hown7 hg7 hb7)
                            have hp := (hT.push hg7 (by rw [hvl2]; exact hown7) hb7).pick2 1 0 rfl rfl (by decide)
                            go_roundw
                            case rel => exact ⟨i + 1, _, by go_num, by omega, hp.ext, (HNA.out _).trans HUN2.out, by rw [HEL.out.1, HEL.out.2.1, HEL.out.2.2]; exact hp⟩
                            case measure => simp [intOf]; omega
                          · skip
                            go_simp
                            refine hK.out _ _ ((alloc_ext _ _).cell hSX66) ?_
                            clear hK K
                            try simp only [Act.put, List.setIfInBounds_toArray, List.set_cons_zero, List.set_cons_succ]
                            obtain ⟨X72, hX⟩ : ∃ Y, Y = X66.alloc (.cells #[] 3) := ⟨_, rfl⟩
                            have hO72 := hO66.add (alloc_ext X66 (.cells #[] 3)) (A := .row 3 1 (.slice (some ⟨X66.heap.size, 0, none⟩) 0 0) 0 []) (World.ownsRow_lit (base := X66.heap.size) (e := 3) (size := 1) X66 #[] 0 (Nat.le_refl _) (by unfold maxLen; omega) rfl)
                            rw [← hX] at hO72
                            have hSX72 : X72.cell? ⟨gw2, n, none⟩ = some (.slice (some ⟨gn, 0, none⟩) kn cu) := by rw [hX]; exact (alloc_ext _ _).cell hSX66
                            rw [← hX]
                            clear hX hO66 hSX66
                            refine wpAnyB_ready (rs := [3]) (by kernel_rfl) (by simp) (AllB.cons rfl (fun K hK => ?_) AllB.nil)
                            refine step_append_own2 rfl _ _ 37 rfl Wb.heap.size 3 i3 (.int .i64 0) 1 8 Try.underlying37 hi3 hz3 hs3 hb3 rfl (by decide) (.slice (some ⟨gs2, 0, none⟩) ln cs2) ln (ordE es2) (by rfl) (hO72.get 3 rfl) ⟨_, 0, none⟩ 1 1 [.int .i64 tx] (by rfl) rfl (new_blk (hO72.get 1 rfl).2) (one_int _) (by unfold maxLen; omega) (by omega) hO72.ext.size ?_
                            intro v6 X73 hown6 hg6 hb6
                            obtain ⟨g6, c6, rfl⟩ := ownsRow_pos hown6 (by omega)
                            have hO73 := hO72.app 3 rfl hg6 hown6 hb6
                            have hO73 : OwnL Wb X73 [.row 3 1 (.slice (some ⟨X66.heap.size, 0, none⟩) 0 0) 0 [], .blk X65.heap.size (.cells #[.int .i64 tx] 3), .blk X0.heap.size (.cells #[.int .i64 (i : Int)] 3), .row 3 1 (.slice (some ⟨g6, 0, none⟩) (ln + 1) c6) (ln + 1) (ordE es2 ++ [.int .i64 tx]), .rows 37 3 1 (.slice (some ⟨gw2, 0, none⟩) ln cw2) vs2 (es2.map (fun e => intRow e.way))] := hO73
                            have hSX73 := cell_rows' hO73 4 rfl hjn
                            refine hK.out _ _ hSX73 ?_
                            clear hK K hg6 hb6 hown6 hO72 hSX72
                            try simp only [Act.put, List.setIfInBounds_toArray, List.set_cons_zero, List.set_cons_succ]
                            refine wpAnyB_ready (rs := [10]) (by kernel_rfl) (by simp) (AllB.cons rfl (fun K hK => ?_) AllB.nil)
                            refine step_append_own2 rfl _ _ 37 rfl Wb.heap.size 3 i3 (.int .i64 0) 1 8 Try.underlying37 hi3 hz3 hs3 hb3 rfl (by decide) (.slice (some ⟨X66.heap.size, 0, none⟩) 0 0) 0 [] (by rfl) (hO73.get 0 rfl) ⟨gn, 0, none⟩ kn cu (wy.map (.int .i64)) (by rfl) (by simp; exact hkn) (rows_news hO73 4 rfl hjn hjr) (all_ints _) (by unfold maxLen; omega) (by omega) hO73.ext.size ?_
                            intro v10 X74 hown6 hg6 hb6
                            rw [Nat.zero_add, List.nil_append] at hown6
                            obtain ⟨A10, c10, rfl⟩ := own_form hown6
                            have hO74 := hO73.app 0 rfl hg6 hown6 hb6
                            have hO74 : OwnL Wb X74 [.row 3 1 (.slice A10 kn c10) kn (wy.map (.int .i64)), .blk X65.heap.size (.cells #[.int .i64 tx] 3), .blk X0.heap.size (.cells #[.int .i64 (i : Int)] 3), .row 3 1 (.slice (some ⟨g6, 0, none⟩) (ln + 1) c6) (ln + 1) (ordE es2 ++ [.int .i64 tx]), .rows 37 3 1 (.slice (some ⟨gw2, 0, none⟩) ln cw2) vs2 (es2.map (fun e => intRow e.way))] := hO74
                            have hSX74 := cell_rows' hO74 4 rfl hjn
                            refine hK.out _ _ hSX74 ?_
                            clear hK K hg6 hb6 hown6 hO73 hSX73
                            try simp only [Act.put, List.setIfInBounds_toArray, List.set_cons_zero, List.set_cons_succ]
                            refine wpAnyB_ready (rs := [13]) (by kernel_rfl) (by simp) (AllB.cons rfl (fun K hK => ?_) AllB.nil)
                            refine step_append_own2 rfl _ _ 37 rfl Wb.heap.size 3 i3 (.int .i64 0) 1 8 Try.underlying37 hi3 hz3 hs3 hb3 rfl (by decide) (.slice A10 kn c10) kn (wy.map (.int .i64)) (by rfl) (hO74.get 0 rfl) ⟨_, 0, none⟩ 1 1 [.int .i64 (i : Int)] (by rfl) rfl (new_blk (hO74.get 2 rfl).2) (one_int _) (by unfold maxLen; omega) (by omega) hO74.ext.size ?_
                            intro v13 X75 hown6 hg6 hb6
                            obtain ⟨g13, c13, rfl⟩ := ownsRow_pos hown6 (by omega)
                            have hO75 := hO74.app 0 rfl hg6 hown6 hb6
                            have hO75 : OwnL Wb X75 [.row 3 1 (.slice (some ⟨g13, 0, none⟩) (kn + 1) c13) (kn + 1) (wy.map (.int .i64) ++ [.int .i64 (i : Int)]), .blk X65.heap.size (.cells #[.int .i64 tx] 3), .blk X0.heap.size (.cells #[.int .i64 (i : Int)] 3), .row 3 1 (.slice (some ⟨g6, 0, none⟩) (ln + 1) c6) (ln + 1) (ordE es2 ++ [.int .i64 tx]), .rows 37 3 1 (.slice (some ⟨gw2, 0, none⟩) ln cw2) vs2 (es2.map (fun e => intRow e.way))] := hO75
                            have hSX75 := cell_rows' hO75 4 rfl hjn
                            refine hK.out _ _ hSX75 ?_
                            clear hK K hg6 hb6 hown6 hO74 hSX74
                            try simp only [Act.put, List.setIfInBounds_toArray, List.set_cons_zero, List.set_cons_succ]
                            refine wpAnyB_ready (rs := [14]) (by kernel_rfl) (by simp) (AllB.cons rfl (fun K hK => ?_) AllB.nil)
                            go_simp
                            refine hK.out _ _ ((alloc_ext _ _).cell hSX75) ?_
                            clear hK K
                            try simp only [Act.put, List.setIfInBounds_toArray, List.set_cons_zero, List.set_cons_succ]
                            obtain ⟨X76, hX⟩ : ∃ Y, Y = X75.alloc (.cells #[.slice (some ⟨g13, 0, none⟩) (kn + 1) c13] 37) := ⟨_, rfl⟩
                            have hO76 := hO75.add (alloc_ext X75 (.cells #[.slice (some ⟨g13, 0, none⟩) (kn + 1) c13] 37)) (A := .blk X75.heap.size (.cells #[.slice (some ⟨g13, 0, none⟩) (kn + 1) c13] 37)) ⟨Nat.le_refl _, heap_alloc_new _ _⟩
                            rw [← hX] at hO76
                            have hSX76 : X76.cell? ⟨gw2, n, none⟩ = some (.slice (some ⟨gn, 0, none⟩) kn cu) := by rw [hX]; exact (alloc_ext _ _).cell hSX75
                            rw [← hX]
                            clear hX hO75 hSX75
                            refine wpAnyB_tail rfl rfl (by decide) (by kernel_rfl) ?_
                            have hT : OwnL Wb X76 [.row 3 1 (.slice (some ⟨g13, 0, none⟩) (kn + 1) c13) (kn + 1) (wy.map (.int .i64) ++ [.int .i64 (i : Int)]), .rows 37 3 1 (.slice (some ⟨gw2, 0, none⟩) ln cw2) vs2 (es2.map (fun e => intRow e.way)), .row 3 1 (.slice (some ⟨g6, 0, none⟩) (ln + 1) c6) (ln + 1) (ordE es2 ++ [.int .i64 tx]), .blk X75.heap.size (.cells #[.slice (some ⟨g13, 0, none⟩) (kn + 1) c13] 37)] := hO76.pick4 1 5 4 0 rfl rfl rfl rfl (by decide) (by decide) (by decide) (by decide) (by decide) (by decide)
                            clear hO76
                            have hownV := (hT.get 1 rfl : OwnRows X76 Wb.heap.size 37 3 1 (.slice (some ⟨gw2, 0, none⟩) ln cw2) vs2 (es2.map (fun e => intRow e.way))).own
                            rw [hvl2] at hownV
                            go_wp2_with (at_builtin; refine wpList_append_own2 rfl _ _ 75 rfl Wb.heap.size 37 i37 (.slice none 0 0) 1 24 Try.underlying75 hi37 hz37 hs37 hb37 rfl (by decide) (.slice (some ⟨gw2, 0, none⟩) ln cw2) ln vs2 (by rfl) hownV ⟨_, 0, none⟩ 1 1 [.slice (some ⟨g13, 0, none⟩) (kn + 1) c13] (by rfl) rfl (new_blk (hT.get 3 rfl).2) (one_slice _ _ _) (by unfold maxLen; omega) (by omega) hT.ext.size ?_; intro v7 w7 hown7 hg7 hb7)
                            have hp := (hT.push hg7 (by rw [hvl2]; exact hown7) hb7).pick2 1 0 rfl rfl (by decide)
                            go_roundw
                            case rel => exact ⟨i + 1, _, by go_num, by omega, hp.ext, (HNA.out _).trans HUN2.out, by rw [HEL.out.1, HEL.out.2.1, HEL.out.2.2]; exact hp⟩
                            case measure => simp [intOf]; omega
                        · skip
                          go_simp
                          refine hK.out _ _ ((alloc_ext _ _).cell hSX65) ?_
                          clear hK K
                          try simp only [Act.put, List.setIfInBounds_toArray, List.set_cons_zero, List.set_cons_succ]
                          obtain ⟨X77, hX⟩ : ∃ Y, Y = X65.alloc (.cells #[] 3) := ⟨_, rfl⟩
                          have hO77 := hO65.add (alloc_ext X65 (.cells #[] 3)) (A := .row 3 1 (.slice (some ⟨X65.heap.size, 0, none⟩) 0 0) 0 []) (World.ownsRow_lit (base := X65.heap.size) (e := 3) (size := 1) X65 #[] 0 (Nat.le_refl _) (by unfold maxLen; omega) rfl)
                          rw [← hX] at hO77
                          have hSX77 : X77.cell? ⟨gw2, n, none⟩ = some (.slice (some ⟨gn, 0, none⟩) kn cu) := by rw [hX]; exact (alloc_ext _ _).cell hSX65
                          rw [← hX]
                          clear hX hO65 hSX65
                          refine wpAnyB_ready (rs := [2]) (by kernel_rfl) (by simp) (AllB.cons rfl (fun K hK => ?_) AllB.nil)
                          go_simp
                          refine hK.out _ _ ((alloc_ext _ _).cell hSX77) ?_
                          clear hK K
                          try simp only [Act.put, List.setIfInBounds_toArray, List.set_cons_zero, List.set_cons_succ]
                          obtain ⟨X78, hX⟩ : ∃ Y, Y = X77.alloc (.cells #[.int .i64 tx] 3) := ⟨_, rfl⟩
                          have hO78 := hO77.add (alloc_ext X77 (.cells #[.int .i64 tx] 3)) (A := .blk X77.heap.size (.cells #[.int .i64 tx] 3)) ⟨Nat.le_refl _, heap_alloc_new _ _⟩
                          rw [← hX] at hO78
                          have hSX78 : X78.cell? ⟨gw2, n, none⟩ = some (.slice (some ⟨gn, 0, none⟩) kn cu) := by rw [hX]; exact (alloc_ext _ _).cell hSX77
                          rw [← hX]
                          clear hX hO77 hSX77
                          refine wpAnyB_ready (rs := [3]) (by kernel_rfl) (by simp) (AllB.cons rfl (fun K hK => ?_) AllB.nil)
                          refine step_append_own2 rfl _ _ 37 rfl Wb.heap.size 3 i3 (.int .i64 0) 1 8 Try.underlying37 hi3 hz3 hs3 hb3 rfl (by decide) (.slice (some ⟨gs2, 0, none⟩) ln cs2) ln (ordE es2) (by rfl) (hO78.get 3 rfl) ⟨_, 0, none⟩ 1 1 [.int .i64 tx] (by rfl) rfl (new_blk (hO78.get 0 rfl).2) (one_int _) (by unfold maxLen; omega) (by omega) hO78.ext.size ?_
                          intro v6 X79 hown6 hg6 hb6
                          obtain ⟨g6, c6, rfl⟩ := ownsRow_pos hown6 (by omega)
                          have hO79 := hO78.app 3 rfl hg6 hown6 hb6
                          have hO79 : OwnL Wb X79 [.blk X77.heap.size (.cells #[.int .i64 tx] 3), .row 3 1 (.slice (some ⟨X65.heap.size, 0, none⟩) 0 0) 0 [], .blk X0.heap.size (.cells #[.int .i64 (i : Int)] 3), .row 3 1 (.slice (some ⟨g6, 0, none⟩) (ln + 1) c6) (ln + 1) (ordE es2 ++ [.int .i64 tx]), .rows 37 3 1 (.slice (some ⟨gw2, 0, none⟩) ln cw2) vs2 (es2.map (fun e => intRow e.way))] := hO79
                          have hSX79 := cell_rows' hO79 4 rfl hjn
                          refine hK.out _ _ hSX79 ?_
                          clear hK K hg6 hb6 hown6 hO78 hSX78
                          try simp only [Act.put, List.setIfInBounds_toArray, List.set_cons_zero, List.set_cons_succ]
                          refine wpAnyB_ready (rs := [10]) (by kernel_rfl) (by simp) (AllB.cons rfl (fun K hK => ?_) AllB.nil)
                          refine step_append_own2 rfl _ _ 37 rfl Wb.heap.size 3 i3 (.int .i64 0) 1 8 Try.underlying37 hi3 hz3 hs3 hb3 rfl (by decide) (.slice (some ⟨X65.heap.size, 0, none⟩) 0 0) 0 [] (by rfl) (hO79.get 1 rfl) ⟨gn, 0, none⟩ kn cu (wy.map (.int .i64)) (by rfl) (by simp; exact hkn) (rows_news hO79 4 rfl hjn hjr) (all_ints _) (by unfold maxLen; omega) (by omega) hO79.ext.size ?_
                          intro v10 X80 hown6 hg6 hb6
                          rw [Nat.zero_add, List.nil_append] at hown6
                          obtain ⟨A10, c10, rfl⟩ := own_form hown6
                          have hO80 := hO79.app 1 rfl hg6 hown6 hb6
                          have hO80 : OwnL Wb X80 [.blk X77.heap.size (.cells #[.int .i64 tx] 3), .row 3 1 (.slice A10 kn c10) kn (wy.map (.int .i64)), .blk X0.heap.size (.cells #[.int .i64 (i : Int)] 3), .row 3 1 (.slice (some ⟨g6, 0, none⟩) (ln + 1) c6) (ln + 1) (ordE es2 ++ [.int .i64 tx]), .rows 37 3 1 (.slice (some ⟨gw2, 0, none⟩) ln cw2) vs2 (es2.map (fun e => intRow e.way))] := hO80
                          have hSX80 := cell_rows' hO80 4 rfl hjn
                          refine hK.out _ _ hSX80 ?_
                          clear hK K hg6 hb6 hown6 hO79 hSX79
                          try simp only [Act.put, List.setIfInBounds_toArray, List.set_cons_zero, List.set_cons_succ]
                          refine wpAnyB_ready (rs := [13]) (by kernel_rfl) (by simp) (AllB.cons rfl (fun K hK => ?_) AllB.nil)
                          refine step_append_own2 rfl _ _ 37 rfl Wb.heap.size 3 i3 (.int .i64 0) 1 8 Try.underlying37 hi3 hz3 hs3 hb3 rfl (by decide) (.slice A10 kn c10) kn (wy.map (.int .i64)) (by rfl) (hO80.get 1 rfl) ⟨_, 0, none⟩ 1 1 [.int .i64 (i : Int)] (by rfl) rfl (new_blk (hO80.get 2 rfl).2) (one_int _) (by unfold maxLen; omega) (by omega) hO80.ext.size ?_
                          intro v13 X81 hown6 hg6 hb6
                          obtain ⟨g13, c13, rfl⟩ := ownsRow_pos hown6 (by omega)
                          have hO81 := hO80.app 1 rfl hg6 hown6 hb6
                          have hO81 : OwnL Wb X81 [.blk X77.heap.size (.cells #[.int .i64 tx] 3), .row 3 1 (.slice (some ⟨g13, 0, none⟩) (kn + 1) c13) (kn + 1) (wy.map (.int .i64) ++ [.int .i64 (i : Int)]), .blk X0.heap.size (.cells #[.int .i64 (i : Int)] 3), .row 3 1 (.slice (some ⟨g6, 0, none⟩) (ln + 1) c6) (ln + 1) (ordE es2 ++ [.int .i64 tx]), .rows 37 3 1 (.slice (some ⟨gw2, 0, none⟩) ln cw2) vs2 (es2.map (fun e => intRow e.way))] := hO81
                          have hSX81 := cell_rows' hO81 4 rfl hjn
                          refine hK.out _ _ hSX81 ?_
                          clear hK K hg6 hb6 hown6 hO80 hSX80
                          try simp only [Act.put, List.setIfInBounds_toArray, List.set_cons_zero, List.set_cons_succ]
                          refine wpAnyB_ready (rs := [14]) (by kernel_rfl) (by simp) (AllB.cons rfl (fun K hK => ?_) AllB.nil)
                          go_simp
                          refine hK.out _ _ ((alloc_ext _ _).cell hSX81) ?_
                          clear hK K
                          try simp only [Act.put, List.setIfInBounds_toArray, List.set_cons_zero, List.set_cons_succ]
                          obtain ⟨X82, hX⟩ : ∃ Y, Y = X81.alloc (.cells #[.slice (some ⟨g13, 0, none⟩) (kn + 1) c13] 37) := ⟨_, rfl⟩
                          have hO82 := hO81.add (alloc_ext X81 (.cells #[.slice (some ⟨g13, 0, none⟩) (kn + 1) c13] 37)) (A := .blk X81.heap.size (.cells #[.slice (some ⟨g13, 0, none⟩) (kn + 1) c13] 37)) ⟨Nat.le_refl _, heap_alloc_new _ _⟩
                          rw [← hX] at hO82
                          have hSX82 : X82.cell? ⟨gw2, n, none⟩ = some (.slice (some ⟨gn, 0, none⟩) kn cu) := by rw [hX]; exact (alloc_ext _ _).cell hSX81
                          rw [← hX]
                          clear hX hO81 hSX81
                          refine wpAnyB_tail rfl rfl (by decide) (by kernel_rfl) ?_
                          have hT : OwnL Wb X82 [.row 3 1 (.slice (some ⟨g13, 0, none⟩) (kn + 1) c13) (kn + 1) (wy.map (.int .i64) ++ [.int .i64 (i : Int)]), .rows 37 3 1 (.slice (some ⟨gw2, 0, none⟩) ln cw2) vs2 (es2.map (fun e => intRow e.way)), .row 3 1 (.slice (some ⟨g6, 0, none⟩) (ln + 1) c6) (ln + 1) (ordE es2 ++ [.int .i64 tx]), .blk X81.heap.size (.cells #[.slice (some ⟨g13, 0, none⟩) (kn + 1) c13] 37)] := hO82.pick4 2 5 4 0 rfl rfl rfl rfl (by decide) (by decide) (by decide) (by decide) (by decide) (by decide)
                          clear hO82
                          have hownV := (hT.get 1 rfl : OwnRows X82 Wb.heap.size 37 3 1 (.slice (some ⟨gw2, 0, none⟩) ln cw2) vs2 (es2.map (fun e => intRow e.way))).own
                          rw [hvl2] at hownV
                          go_wp2_with (at_builtin; refine wpList_append_own2 rfl _ _ 75 rfl Wb.heap.size 37 i37 (.slice none 0 0) 1 24 Try.underlying75 hi37 hz37 hs37 hb37 rfl (by decide) (.slice (some ⟨gw2, 0, none⟩) ln cw2) ln vs2 (by rfl) hownV ⟨_, 0, none⟩ 1 1 [.slice (some ⟨g13, 0, none⟩) (kn + 1) c13] (by rfl) rfl (new_blk (hT.get 3 rfl).2) (one_slice _ _ _) (by unfold maxLen; omega) (by omega) hT.ext.size ?_; intro v7 w7 hown7 hg7 hb7)
                          have hp := (hT.push hg7 (by rw [hvl2]; exact hown7) hb7).pick2 1 0 rfl rfl (by decide)
                          go_roundw
                          case rel => exact ⟨i + 1, _, by go_num, by omega, hp.ext, (HNA.out _).trans HUN2.out, by rw [HEL.out.1, HEL.out.2.1, HEL.out.2.2]; exact hp⟩
                          case measure => simp [intOf]; omega
                      --]some
                  · have hsame : rowAt c rw_ es (i + 1) = es2 := by rw [HNEXT.out]; exact try_seen (by omega) (.inr (by omega))
                    have HSM := Lib.hid hsame
                    clear hsame hA hje
                    go_wp2
                    go_roundw
                    case rel => exact ⟨i + 1, vs2, by go_num, by omega, hE6, hun, by rw [HSM.out, ← HLN.out]; exact hO6⟩
                    case measure => simp [intOf]; omega
          · have hie : i = el := by omega
            have hnext : rowAt c rw_ es i = stAt M (n + 1) := by
              have e : stAt M (n + 1) = match (stAt M n)[n]? with
                | some c => rowAt c (M.getD c.st []) (stAt M n) (M.getD c.st []).length
                | none => stAt M n := rfl
              rw [e, ← HES.out, HCC.out.1]
              simp only
              have e2 : M.getD c.st [] = rw_ := by rw [HM.out, toL_get m hcr, HRW.out.2.2.2]
              rw [e2, hie, HRW.out.2.1]
            rw [hnext] at hO
            have hiI : ¬ (i : Int) < (el : Int) := by omega
            have hl5 : n + 1 ≤ (stAt M (n + 1)).length := by
              rw [← hnext]
              have := rowAt_len c rw_ es i
              omega
            clear hnext hie
            go_wp2
            go_roundw
            case rel => exact ⟨n + 1, vs2, by go_num, hl5, hE, HNX.out, hO⟩
            case measure => simp [intOf]; omega
    · have hnI : ¬ (n : Int) < (es.length : Int) := by omega
      have hne : n = es.length := by omega
      have hno : CR = (true, []) := by
        rw [← hC.out, comesF_none (by rw [← HES.out]; exact List.getElem?_eq_none (by omega))]
      have HNO := Lib.hid hno
      obtain ⟨A6, c6, rfl⟩ := own_form (hO.get 0 rfl : W3.ownsRow Wb.heap.size 3 1 u6 es.length (ordE es))
      clear hno hC hO
      go_wp2
      go_ret2
      refine ⟨⟨_, by rw [HCI.out, HNO.out]; rfl, 0, by rw [HNO.out]; exact fit_nil _⟩, hEb.trans hE⟩
#print axioms refComes_any
end Go.Proofs.Yteadkafeabhhhaa
