/- games.CheckAvoid. -/
import Derived.Test.YteadkafeabhhhaaG6
import Derived.Test.YteadkafeabhhhaaG7
import Derived.Test.YteadkafeabhhhaaE0
import Derived.Test.YteadkafeabhhhaaMap2
import Derived.Deep.CutBlock
namespace Go.Proofs.Yteadkafeabhhhaa
open Go.RowKit
set_option linter.unusedVariables false
set_option linter.unusedSimpArgs false
attribute [local go_sem] Oper.quietV quietV Oper.gives givesV ext_refl_iff ext_alloc_iff ext_drew_iff ext_drewN_iff

def entV (e : Ent) : Value := .agg #[.int .i64 e.from_, .int .i64 e.inp]
def mapE (es : List Ent) : List (Int × Value) := es.map (fun e => ((e.st : Int), entV e))
def ordE (es : List Ent) : List Value := es.map (fun e => .int .i64 (e.st : Int))
theorem mapE_mem {n : Nat} {es : List Ent} (h : EInv n es) {e : Ent} (he : e ∈ es) : getW (mapE es) (e.st : Int) = some (entV e) := by
  refine getW_of_mem (List.pairwise_map.2 (h.nd.imp (fun {a b} hab hc => hab (by have h2 : (a.st : Int) = (b.st : Int) := hc; omega)))) (List.mem_map.2 ⟨e, he, rfl⟩)
theorem mapE_cases {n : Nat} {es : List Ent} (h : EInv n es) (x : Int) (hx : -1 ≤ x) : (getW (mapE es) x = none ∧ (x = -1 ∨ seenE es x.toNat = false)) ∨ ∃ e ∈ es, getW (mapE es) x = some (entV e) ∧ x ≠ -1 ∧ seenE es x.toNat = true := by
  by_cases hs : ∃ e ∈ es, (e.st : Int) = x
  · obtain ⟨e, he, rfl⟩ := hs
    refine .inr ⟨e, he, mapE_mem h he, by omega, ?_⟩
    unfold seenE
    exact List.any_eq_true.2 ⟨e, he, by simp⟩
  · refine .inl ⟨getW_none.2 (fun p hp hpx => ?_), ?_⟩
    · obtain ⟨e, he, rfl⟩ := List.mem_map.1 hp
      exact hs ⟨e, he, hpx⟩
    · by_cases hm : x = -1
      · exact .inl hm
      · exact .inr (seenE_false.2 (fun e he hes => hs ⟨e, he, by omega⟩))
def wayLen (es : List Ent) (x : Int) : Nat := ((es.find? (fun e => (e.st : Int) == x)).map (fun e => e.way.length)).getD 0
theorem wayLen_mem {n : Nat} {es : List Ent} (h : EInv n es) {e : Ent} (he : e ∈ es) : wayLen es (e.st : Int) = e.way.length := by
  unfold wayLen
  have hnd := h.nd
  clear h
  induction es with
  | nil => cases he
  | cons a r ih =>
    rw [List.find?_cons]
    obtain ⟨h1, h2⟩ := List.pairwise_cons.1 hnd
    rcases List.mem_cons.1 he with rfl | he
    · simp
    · have : ((a.st : Int) == (e.st : Int)) = false := by
        rw [beq_eq_false_iff_ne]; have := h1 e he; omega
      rw [this]; exact ih he h2
theorem folL_ok {g : Game} (hF : Fine g) (l : List Int) : OkM (folL g l) := by
  have hl : (folL g l).length = g.m.rows.length := by unfold folL; simp
  refine ⟨by rw [hl]; exact hF.1.size.1, by rw [hl]; exact hF.1.size.2, fun r hr => ?_⟩
  obtain ⟨s, hs, rfl⟩ := List.mem_map.1 hr
  have hs := List.mem_range.1 hs
  refine ⟨by rw [folR_len]; exact row_le hF.1 s, fun x hx => ?_⟩
  obtain ⟨i, hi, rfl⟩ := List.mem_map.1 hx
  have hi := List.mem_range.1 hi
  rw [hl]
  unfold folE
  split
  · exact .inl rfl
  · have h1 : (g.m.row s).getD i (0, 0) = (g.m.row s)[i] := by simp [List.getD, hi]
    rw [h1]
    exact fit_to (hF.1.fit _ (List.getElem_mem hs) _ (row_eq hs ▸ List.getElem_mem hi))
theorem zero_found (w : World) : (zeroValue 81).run Try.prog w = .ok (.agg #[.int .i64 0, .int .i64 0]) w := by kernel_rfl

theorem run_f0 (a b : Int) (w : World) : (Instr.field 81 (.agg #[.int .i64 a, .int .i64 b]) 0).run Try.prog w = .ok (.int .i64 a) w := by
  simp [Instr.field, go_sem, Try.underlying81, asAgg]
theorem run_f1 (a b : Int) (w : World) : (Instr.field 81 (.agg #[.int .i64 a, .int .i64 b]) 1).run Try.prog w = .ok (.int .i64 b) w := by
  simp [Instr.field, go_sem, Try.underlying81, asAgg]
theorem wpList_field0 {w : World} {ops : Array Oper} {rest : List Oper} {o : Oper} {a : Act} {Q : Exit → Act → World → Prop} (hgd : o.guard = none) (x : Operand) (hop : o.op = Op.field 81 x 0) (p q : Int) (hx : a.eval x = .agg #[.int .i64 p, .int .i64 q])
    (hK : wpList Try.prog ops Q rest (a.put o.dst (.int .i64 p)) w) : wpList Try.prog ops Q (o :: rest) a w := by
  refine wpList_plain hgd fun K' hK' => ?_
  unfold Oper.wp
  simp only [execOp, hop, hx]
  simp [run_f0, Result.andThen]
  exact hK' _ _ hK
theorem wpList_field1 {w : World} {ops : Array Oper} {rest : List Oper} {o : Oper} {a : Act} {Q : Exit → Act → World → Prop} (hgd : o.guard = none) (x : Operand) (hop : o.op = Op.field 81 x 1) (p q : Int) (hx : a.eval x = .agg #[.int .i64 p, .int .i64 q])
    (hK : wpList Try.prog ops Q rest (a.put o.dst (.int .i64 q)) w) : wpList Try.prog ops Q (o :: rest) a w := by
  refine wpList_plain hgd fun K' hK' => ?_
  unfold Oper.wp
  simp only [execOp, hop, hx]
  simp [run_f1, Result.andThen]
  exact hK' _ _ hK
def avRes (g : Game) (l : List Int) : Bool × List Int × Int :=
  if checkG g ≠ 0 then (false, [], checkG g) else if stratE g l ≠ 0 then (false, [], stratE g l) else ((comesL (folL g l) g.set).1, (comesL (folL g l) g.set).2, 0)
def AvP (r : Bool × List Int × Int) (w : World) (e : Ending) (w' : World) : Prop := ∃ v, e = .returned (.tuple #[.bool r.1, v, .int .i64 r.2.2]) ∧ FitC w' v r.2.1 ∧ Ext w w'
theorem fit_nil (W : World) : FitC W (.slice none 0 0) [] := ⟨none, rfl, Cells.nil _ _, Nat.le_refl _, by unfold lenMax; simp⟩

set_option maxRecDepth 100000 in
set_option maxHeartbeats 4000000 in
theorem CheckAvoid_any (w : World) (gv lv : Value) (g : Game) (hg : GameV w gv g) (l : List Int) (cl : Nat) (hl : IntsC w lv l cl) :
    Calls Try.prog 20 #[gv, lv] w (AvP (avRes g l) w) := by
  have hg0 := hg
  obtain ⟨rv, cr, ov, co, sv, cs, rfl, hr, ho, hs⟩ := hg
  obtain ⟨Ar, vr, rfl, _, _, _, _, hrm⟩ := id hr
  obtain ⟨Ao, rfl, hoc, _, hom⟩ := id ho
  obtain ⟨As, rfl, hsc, _, hsm⟩ := id hs
  unfold lenMax at hrm hom hsm
  obtain ⟨i3, hi3, hz3, hs3, hb3⟩ := info_parts int_info
  go_enter Try.func20, Try.ntmps20
  go_upto_region 1 with fail
  refine wp_named ?_
  intro W1 hW1
  have hE1 : Ext w W1 := by rw [hW1]; exact (Ext.refl _).alloc _
  have k0 : ∀ w', Ext W1 w' → w'.cell? ⟨w.heap.size, 0, none⟩ = some (.int .i64 g.m.ins) := fun w' h => h.cell (by rw [hW1]; simp [go_sem])
  have k1 : ∀ w', Ext W1 w' → w'.cell? ⟨w.heap.size, 1, none⟩ = some (.int .i64 g.m.outs) := fun w' h => h.cell (by rw [hW1]; simp [go_sem])
  have k2 : ∀ w', Ext W1 w' → w'.cell? ⟨w.heap.size, 2, none⟩ = some (.slice Ar g.m.rows.length cr) := fun w' h => h.cell (by rw [hW1]; simp [go_sem])
  have k3 : ∀ w', Ext W1 w' → w'.cell? ⟨w.heap.size, 3, none⟩ = some (.slice Ao g.ours.length co) := fun w' h => h.cell (by rw [hW1]; simp [go_sem])
  have k4 : ∀ w', Ext W1 w' → w'.cell? ⟨w.heap.size, 4, none⟩ = some (.slice As g.set.length cs) := fun w' h => h.cell (by rw [hW1]; simp [go_sem])
  clear hW1
  have hE0 := Ext.refl W1
  have hck := gcheck_any W1 _ g (hg0.ext hE1)
  by_cases hz : checkG g = 0
  rotate_left
  · have hz' : (checkG g != 0) = true := by simpa using hz
    have HZ := Lib.hid hz
    clear hz
    go_wp2_with ((with_reducible refine hck.mono ?_); rintro e w2 ⟨rfl, hE2⟩)
    go_ret3
    refine ⟨.slice none 0 0, ?_, ?_, hE1.trans hE2⟩
    · unfold avRes; rw [if_pos HZ.out]; rfl
    · unfold avRes; rw [if_pos HZ.out]; exact fit_nil _
  rw [hz] at hck
  have hF := (fine_iff g).1 hz
  have HZ := Lib.hid hz
  have HF := Lib.hid hF
  clear hz hF
  go_upto_region 2 with ((with_reducible refine hck.mono ?_); rintro e w2 ⟨rfl, hE2⟩)
  clear hck
  have hE12 := hE1.trans hE2
  have hva := valid_any w2 _ _ g (hg0.ext hE12) HF.out l cl (hl.ext hE12)
  by_cases hz : stratE g l = 0
  rotate_left
  · have hz' : (stratE g l != 0) = true := by simpa using hz
    have HZ2 := Lib.hid hz
    clear hz
    go_wp2_with ((with_reducible refine hva.mono ?_); rintro e w3 ⟨rfl, hE3⟩)
    go_ret3
    refine ⟨.slice none 0 0, ?_, ?_, hE12.trans hE3⟩
    · unfold avRes; rw [if_neg (fun h => h HZ.out), if_pos HZ2.out]; rfl
    · unfold avRes; rw [if_neg (fun h => h HZ.out), if_pos HZ2.out]; exact fit_nil _
  rw [hz] at hva
  have HZ2 := Lib.hid hz
  have hll : l.length = g.m.rows.length := by
    apply Classical.byContradiction
    intro h
    have : stratE g l = 16 := if_pos h
    omega
  clear hz
  go_upto_region 5 with ((with_reducible refine hva.mono ?_); rintro e w3 ⟨rfl, hE3⟩)
  clear hva
  have hE13 := hE12.trans hE3
  have hE23 := hE2.trans hE3
  have hfo := follow_any w3 _ _ g (hg0.ext hE13) HF.out l cl (hl.ext hE13) hll
  have HR : Hid (avRes g l = ((comesL (folL g l) g.set).1, (comesL (folL g l) g.set).2, 0)) := by
    show _ = _
    unfold avRes
    rw [if_neg (fun h => h HZ.out), if_neg (fun h => h HZ2.out)]
  have hok := folL_ok HF.out l
  have hml : (folL g l).length = g.m.rows.length := by unfold folL; simp
  generalize folL g l = M at *
  have HML := Lib.hid (And.intro hml hll)
  clear hml hll
  go_upto_region 8 with ((with_reducible refine hfo.mono ?_); rintro e w4 ⟨⟨rv4, rfl, gm, vm, hv4, hvl, hRows⟩, hE4⟩; subst hv4)
  clear hfo
  have k4' : ∀ w', Ext w3 w' → w'.cell? ⟨w.heap.size, 4, none⟩ = some (.slice As g.set.length cs) := fun w' h => k4 w' (hE23.trans h)
  have hn64 : M.length ≤ 64 := hok.2.1
  have hO4 : OwnL w3 w4 [.rows 37 3 1 (.slice (some ⟨gm, 0, none⟩) vm.length M.length) vm (M.map intRow)] := by
    have := (OwnL.nil (Ext.refl w3)).add hE4 (A := .rows 37 3 1 (.slice (some ⟨gm, 0, none⟩) vm.length M.length) vm (M.map intRow)) (by rw [hvl]; exact hRows)
    exact this
  have hsb : ∀ j, j < M.length → ∃ b o, As = some ⟨b, o, none⟩ ∧ ∀ w', Ext w3 w' → w'.cell? ⟨b, o + j, none⟩ = some (.bool (g.set.getD j false)) := fun j hj => by
    have hjs : j < g.set.length := by rw [HF.out.2.2, ← HML.out.1]; exact hj
    obtain ⟨b, o, rfl, _, h⟩ := (hsc.ext hE13).at_bool hjs
    exact ⟨b, o, rfl, fun w' hw => by rw [hw.cell h]; simp [List.getD, hjs]⟩
  have HSB := Lib.hid hsb
  have hsl : g.set.length = M.length := by rw [HF.out.2.2, HML.out.1]
  have HSL := Lib.hid hsl
  rw [hsl] at k4'
  have hgl := hsl
  clear hsl hsb k0 k1 k2 k3 k4 hRows hE0
  have k4 := k4'
  clear k4'
  have HOK := Lib.hid hok
  clear hok
  have hOm := hO4.add (alloc_ext w4 (.map #[] 0)) (A := .blk w4.heap.size (.map #[] 0)) ⟨Nat.le_refl _, heap_alloc_new _ _⟩
  obtain ⟨W6, om, hrun, hm, hO6⟩ := hOm.mapPut 0 rfl MapOf.made Try.underlying82 Try.underlying3 (x := 0) (wfI_of (by omega)) rfl (.agg #[.int .i64 (-1), .int .i64 0])
  have hmm := @run_makeMap Try.prog
  go_upto_region 9 with fail
  refine wp_named ?_
  intro W7 hW7
  have hO7 : OwnL w3 W7 [.row 3 1 (.slice (some ⟨W6.heap.size, 0, none⟩) 1 1) 1 (ordE (stAt M 0)), .blk w4.heap.size om, .rows 37 3 1 (.slice (some ⟨gm, 0, none⟩) vm.length M.length) vm (M.map intRow)] := by
    rw [hW7]
    refine hO6.add (alloc_ext W6 _) (A := .row 3 1 (.slice (some ⟨W6.heap.size, 0, none⟩) 1 1) 1 (ordE (stAt M 0))) ?_
    exact World.ownsRow_lit (base := W6.heap.size) (e := 3) (size := 1) W6 #[.int .i64 0] 1 (Nat.le_refl _) (by unfold maxLen; omega) rfl
  have hm7 : MapOf om (mapE (stAt M 0)) := hm
  clear hW7 hrun hm hO6 hOm hO4
  generalize w4.heap.size = bm at *
  generalize W6.heap.size = go at *
  have hE7 := hO7.ext
  have hg64 : g.set.length ≤ 64 := by omega
  clear hgl
  go_wp2
  go_loopw [12, 11, 5] (fun i v wnil wr => ∃ (k : Nat) (om : Obj) (gv cv : Nat), i = .int .i64 k ∧ wnil = .slice none 0 0 ∧ k ≤ (stAt M k).length ∧ v = .slice (some ⟨gv, 0, none⟩) (stAt M k).length cv ∧ Hid (comesL M g.set = comesF M g.set (M.length + 1 - k) k) ∧ MapOf om (mapE (stAt M k)) ∧ Ext w3 wr ∧ OwnL w3 wr [.row 3 1 v (stAt M k).length (ordE (stAt M k)), .blk bm om, .rows 37 3 1 (.slice (some ⟨gm, 0, none⟩) vm.length M.length) vm (M.map intRow)]) (fun i _ _ _ => 65 - (intOf i).toNat)
  case atStart => exact ⟨0, om, go, 1, rfl, rfl, by simp [stAt], rfl, rfl, hm7, hE7, hO7⟩
  case round =>
    clear hO7 hm7 hE7
    obtain ⟨k, om, gv, cv, rfl, rfl, hk, rfl, hC, hmo, hE, hO⟩ := hrel
    obtain ⟨W8, hW8⟩ : ∃ W, W = wr := ⟨_, rfl⟩; subst hW8
    have hI := einv_st HOK.out k
    have hle := einv_len hI
    by_cases hkl : k < (stAt M k).length
    · obtain ⟨c, hc⟩ : ∃ c, (stAt M k)[k]? = some c := ⟨_, List.getElem?_eq_getElem hkl⟩
      have hcf := comesF_some (set := g.set) HOK.out hc
      have hsu : stAt M (k + 1) = rowAt c (M.getD c.st []) (stAt M k) (M.getD c.st []).length := by
        conv => lhs; unfold stAt
        rw [hc]
      have hmem := List.mem_of_getElem? hc
      generalize hes : stAt M k = es at *
      clear hes
      have hcn := hI.lt c hmem
      have hog : (ordE es)[k]? = some (.int .i64 (c.st : Int)) := by unfold ordE; rw [List.getElem?_map, hc]; rfl
      have ho0 := cell_own hO 0 rfl hog
      obtain ⟨bs, os, rfl, cbs⟩ := HSB.out c.st hcn
      have cb := cbs W8 hE
      have hcI : (c.st : Int) < (M.length : Int) := by omega
      have HCF := Lib.hid hcf
      have HSU := Lib.hid hsu
      have HCC := Lib.hid (And.intro hc hmem)
      have hcst : Hid (∃ cst : Nat, cst = c.st) := ⟨_, rfl⟩
      clear hcf hsu hc hog cbs hcst
      cases hsc2 : g.set.getD c.st false with
      | true =>
        rw [hsc2] at cb
        have hres : comesL M g.set = (false, c.way) := by rw [hC.out, HCF.out, hsc2]; rfl
        have HRES : Hid (avRes g l = (false, c.way, 0)) := by show _ = _; rw [HR.out, hres]
        clear hres hsc2
        --[p1
        have hO0 := hO.add (Ext.refl W8) (A := .row 3 1 (.slice none 0 0) 0 []) (World.ownsRow_nil _ _ _ _)
        go_wp2
        go_loopw [13, 5] (fun sv wv wr => ∃ (e : Ent) (ws : List Int), e ∈ es ∧ sv = .int .i64 (e.st : Int) ∧ Hid (c.way = e.way ++ ws.reverse) ∧ Ext w3 wr ∧ OwnL w3 wr [.row 3 1 wv ws.length (ws.map (.int .i64)), .row 3 1 (.slice (some ⟨gv, 0, none⟩) es.length cv) es.length (ordE es), .blk bm om, .rows 37 3 1 (.slice (some ⟨gm, 0, none⟩) vm.length M.length) vm (M.map intRow)]) (fun sv _ _ => wayLen es (intOf sv))
        case atStart => exact ⟨c, [], HCC.out.2, rfl, (by show _ = _; simp), hE, hO0⟩
        case round =>
          clear hO0 hO hE cb ho0
          obtain ⟨e, ws, hem, rfl, hway, hE, hO⟩ := hrel
          obtain ⟨W9, hW9⟩ : ∃ W, W = wr := ⟨_, rfl⟩; subst hW9
          have hwl := wayLen_mem hI hem
          have hwl2 := hI.len c HCC.out.2
          have hwsl : ws.length ≤ 64 := by
            have := congrArg List.length hway.out
            rw [List.length_append, List.length_reverse] at this
            omega
          have hfr := hI.frm e hem
          have hinp := hI.inp e hem
          have hlk := map_lookup Try.underlying82 Try.underlying3 (zero_found W9) (hO.get 2 rfl).2 hmo (x := (e.st : Int)) (wfI_of (by have := hI.lt e hem; omega)) false
          rw [mapE_mem hI hem] at hlk
          have hlk2 : (Instr.lookup 82 (.map (some bm)) (.int .i64 (e.st : Int)) false).run Try.prog W9 = .ok (.agg #[.int .i64 e.from_, .int .i64 e.inp]) W9 := hlk
          clear hlk
          have HWL := Lib.hid hwl
          clear hwl
          rcases hI.back e hem with ⟨h1, h2⟩ | ⟨e', he', h1, h2⟩
          · have hcw : c.way = ws.reverse := by rw [hway.out, h2]; rfl
            rw [h1] at hlk2
            have HCW := Lib.hid hcw
            clear h1 h2 hcw hfr
            have hrow : W9.ownsRow w3.heap.size 3 1 u5 ws.length (ws.map (.int .i64)) := hO.get 0 rfl
            have hrv := reverse_any W9 w3.heap.size u5 ws hrow (by omega)
            obtain ⟨A5, c5, rfl, hc5, _⟩ := cells_of_owns hrow
            have hA5 : A5 = none → ws.length = 0 ∧ c5 = 0 := fun h => by
              subst h
              rcases hrow.2 with ⟨h1, h2⟩ | ⟨g, cap, cur, h1, _⟩
              · simp only [Value.slice.injEq] at h1; exact ⟨h1.2.1, h1.2.2⟩
              · cases h1
            have hcl := fun W => clip_any W A5 ws.length c5 hc5 hA5 (by omega)
            clear hrow
            go_wp2_with (first | (with_reducible refine wpList_field0 rfl _ rfl _ _ rfl ?_) | (with_reducible refine wpList_field1 rfl _ rfl _ _ rfl ?_) | ((with_reducible refine hrv.mono ?_); rintro e w10 ⟨rfl, hgw, how⟩) | ((with_reducible refine (hcl _).mono ?_); rintro e w11 ⟨rfl, hE11⟩))
            go_ret3
            have hX := hO.app 0 rfl hgw how (fun b hb => .inl hb)
            obtain ⟨A6, c6, hv6, _, hcc⟩ := cells_of_owns how
            cases hv6
            refine ⟨.slice A5 ws.length ws.length, ?_, ?_, hE13.trans (hX.ext.trans hE11)⟩
            · rw [HRES.out]; rfl
            · rw [HRES.out]
              refine ⟨A5, ?_, ?_, Nat.le_refl _, ?_⟩
              · show _ = Value.slice A5 c.way.length c.way.length
                rw [HCW.out, List.length_reverse]
              · show Cells _ A5 (c.way.map _)
                rw [HCW.out]; exact hcc.ext hE11
              · show c.way.length ≤ lenMax
                rw [HCW.out, List.length_reverse]; unfold lenMax; omega
          · rw [← h1] at hlk2 hfr
            have hst' := hI.lt e' he'
            have hcw : c.way = e'.way ++ (ws ++ [e.inp]).reverse := by rw [hway.out, h2]; simp
            have hms : e'.way.length < e.way.length := by rw [h2]; simp
            have HCW := Lib.hid (And.intro hcw hms)
            clear hcw hms
            have hrow : W9.ownsRow w3.heap.size 3 1 u5 ws.length (ws.map (.int .i64)) := hO.get 0 rfl
            have hsz9 := hE.size
            have hgw : getW (mapE es) (e.st : Int) = some (.agg #[.int .i64 (e'.st : Int), .int .i64 e.inp]) := by rw [mapE_mem hI hem, h1]; rfl
            have HGW := Lib.hid hgw
            have hwf : wfI (e.st : Int) := wfI_of (by have := hI.lt e hem; omega)
            clear hgw h1 h2
            generalize e.inp = ip at *
            go_wp2_with (first | (with_reducible refine wpList_field0 rfl _ rfl _ _ rfl ?_) | (with_reducible refine wpList_field1 rfl _ rfl _ _ rfl ?_) | (at_builtin; refine wpList_append_own2 rfl _ _ 37 rfl w3.heap.size 3 i3 (.int .i64 0) 1 8 Try.underlying37 hi3 hz3 hs3 hb3 rfl (by decide) u5 ws.length _ rfl (World.ownsRow.alloc hrow _) ⟨W9.heap.size, 0, none⟩ 1 1 [.int .i64 ip] rfl rfl (cells_new _ #[.int .i64 ip] _) (one_int _) (by unfold maxLen; omega) (by omega) (by simp; omega) ?_; intro v6 w6 hown6 hg6 hb6; have hlk3 := map_lookup Try.underlying82 Try.underlying3 (zero_found w6) (((hO.trans (alloc_ext W9 _)).app 0 rfl hg6 hown6 hb6).get 2 rfl).2 hmo hwf false; rw [HGW.out] at hlk3))
            go_roundw
            case rel =>
              have h1 := (hO.trans (alloc_ext W9 _)).app 0 rfl hg6 hown6 hb6
              refine ⟨e', ws ++ [ip], he', rfl, HCW.out.1, h1.ext, ?_⟩
              rw [List.length_append, List.map_append]
              exact h1
            case measure =>
              simp only [intOf]
              rw [wayLen_mem hI he', HWL.out]; exact HCW.out.2
        --]p1
      | false =>
        rw [hsc2] at cb
        have hnx : Hid (comesL M g.set = comesF M g.set (M.length + 1 - (k + 1)) (k + 1)) := by show _ = _; rw [hC.out, HCF.out, hsc2]; rfl
        clear hsc2
        --[p2
        have hrm := getD_memM hcn
        have hrok := HOK.out.2.2 _ hrm
        have hvc : c.st < vm.length := by omega
        have hx8 := List.getElem?_eq_getElem hvc
        have q1 : W8.cell? ⟨gm, c.st, none⟩ = some vm[c.st] := cell_rows hO 2 rfl hx8
        have hrr : (M.map intRow)[c.st]? = some (intRow (M.getD c.st [])) := by simp [List.getD, hcn]
        have hown : W8.ownsRow w3.heap.size 3 1 vm[c.st] (M.getD c.st []).length ((M.getD c.st []).map (.int .i64)) := OwnRows.each (hO.get 2 rfl) _ _ _ hx8 hrr
        have HX8 := Lib.hid (And.intro hx8 hrr)
        clear hx8 hrr
        generalize hrow : M.getD c.st [] = row at *
        generalize vm[c.st] = xu at *
        obtain ⟨Ax, cx, rfl, _, _⟩ := cells_of_owns hown
        obtain ⟨L, hLe⟩ : ∃ L, L = row.length := ⟨_, rfl⟩
        rw [← hLe] at q1 HX8
        have HLE := Lib.hid (And.intro hLe hrow)
        have HROK := Lib.hid (And.intro hrm hrok)
        have hL16 : L ≤ 16 := by have := hrok.1; omega
        clear hLe hown hrow hrm hrok
        go_wp2
        go_loopw [76, 11] (fun i v wr => ∃ (j : Nat) (om : Obj) (gv cv : Nat), i = .int .i64 j ∧ j ≤ L ∧ v = .slice (some ⟨gv, 0, none⟩) (rowAt c row es j).length cv ∧ MapOf om (mapE (rowAt c row es j)) ∧ Ext w3 wr ∧ OwnL w3 wr [.row 3 1 v (rowAt c row es j).length (ordE (rowAt c row es j)), .blk bm om, .rows 37 3 1 (.slice (some ⟨gm, 0, none⟩) vm.length M.length) vm (M.map intRow)]) (fun i _ _ => L - (intOf i).toNat)
        case atStart => exact ⟨0, om, gv, cv, rfl, by omega, rfl, hmo, hE, hO⟩
        case round =>
          clear hO hmo hE q1 ho0 cb
          obtain ⟨j, om, gv, cv, rfl, hj, rfl, hmo, hE, hO⟩ := hrel
          obtain ⟨W9, hW9⟩ : ∃ W, W = wr := ⟨_, rfl⟩; subst hW9
          by_cases hjL : j < L
          · have hjr : j < row.length := by rw [← HLE.out.1]; exact hjL
            obtain ⟨hIj, hcj⟩ := einv_row HOK.out hI HCC.out.2 HROK.out.1 j (by omega)
            have hlej := einv_len hIj
            have hown : W9.ownsRow w3.heap.size 3 1 (.slice Ax L cx) row.length (row.map (.int .i64)) := OwnRows.each (hO.get 2 rfl) _ _ _ HX8.out.1 HX8.out.2
            obtain ⟨gx, cx', hv⟩ := ownsRow_pos hown (by omega)
            obtain rfl : Ax = some ⟨gx, 0, none⟩ := by injection hv
            clear hv cx'
            have ct := hown.cells (g := gx) rfl j (.int .i64 row[j]) (by simp [hjr])
            rw [Addr.add_lit, Nat.zero_add] at ct
            have hto := HROK.out.2.2 _ (List.getElem_mem hjr)
            have hstep : rowAt c row es (j + 1) = tryE c (rowAt c row es j) j row[j] := by
              show tryE c (rowAt c row es j) j (row.getD j (-1)) = _
              simp [List.getD, hjr]
            generalize row[j] = tx at *
            have HSTEP := Lib.hid hstep
            clear hstep hown
            have hjI : (j : Int) < (L : Int) := by omega
            generalize hej : rowAt c row es j = ej at *
            have HEJ := Lib.hid hej
            clear hej
            have hwf : wfI tx := wfI_of (by omega)
            have hlk := map_lookup Try.underlying82 Try.underlying3 (zero_found W9) (hO.get 1 rfl).2 hmo hwf true
            simp only [if_true] at hlk
            rcases mapE_cases hIj tx (by omega) with ⟨hgn, hx⟩ | ⟨e, hem, hgs, hx1, hx2⟩
            · rw [hgn] at hlk
              by_cases hx1 : tx = -1
              · have hb : (tx != -1) = false := by simp [hx1]
                have hs1 : rowAt c row es (j + 1) = ej := by
                  rw [HSTEP.out]; unfold tryE; exact if_neg (fun h => h.1 hx1)
                have HS1 := Lib.hid hs1
                have HX1 := Lib.hid hx1
                clear hs1 hx1 hx hgn
                go_wp2
                go_roundw
                case rel => exact ⟨j + 1, om, gv, cv, by go_num, by omega, by rw [HS1.out], by rw [HS1.out]; exact hmo, hE.trans (alloc_ext _ _), by rw [HS1.out]; exact hO.trans (alloc_ext _ _)⟩
                case measure => simp [intOf]; omega
              · have hb : (tx != -1) = true := by simpa using hx1
                have hsn := hx.resolve_left hx1
                obtain ⟨u, rfl⟩ := Int.eq_ofNat_of_zero_le (show 0 ≤ tx by omega)
                have hs1 : rowAt c row es (j + 1) = ej ++ [⟨u, c.st, j, c.way ++ [(j : Int)]⟩] := by
                  rw [HSTEP.out]; unfold tryE; rw [if_pos ⟨hx1, hsn⟩]; rfl
                have hle2 := einv_len (einv_row HOK.out hI HCC.out.2 HROK.out.1 (j + 1) (by omega)).1
                rw [hs1] at hle2
                have hle3 : ej.length + 1 ≤ M.length := by simpa using hle2
                have hm2 : mapE (ej ++ [⟨u, c.st, j, c.way ++ [(j : Int)]⟩]) = mapE ej ++ [((u : Int), .agg #[.int .i64 (c.st : Int), .int .i64 (j : Int)])] := by unfold mapE; rw [List.map_append]; rfl
                have ho2 : ordE (ej ++ [⟨u, c.st, j, c.way ++ [(j : Int)]⟩]) = ordE ej ++ [.int .i64 (u : Int)] := by unfold ordE; rw [List.map_append]; rfl
                have HS1 := Lib.hid hs1
                have HM2 := Lib.hid (And.intro hm2 ho2)
                have HGN := Lib.hid hgn
                clear hs1 hx1 hx hsn hle2 hm2 ho2 hgn
                go_upto_region 24 with fail
                refine wp_named ?_
                intro WA hWA
                have hOA : OwnL w3 WA [.row 3 1 (.slice (some ⟨gv, 0, none⟩) ej.length cv) ej.length (ordE ej), .blk bm om, .rows 37 3 1 (.slice (some ⟨gm, 0, none⟩) vm.length M.length) vm (M.map intRow)] := by
                  rw [hWA]; exact hO.trans (alloc_ext _ _)
                clear hWA hlk ct hO hE
                obtain ⟨WB, om', hrun, hm', hOB⟩ := hOA.mapPut 1 rfl hmo Try.underlying82 Try.underlying3 hwf HGN.out (.agg #[.int .i64 (c.st : Int), .int .i64 (j : Int)])
                have hEB := hOB.ext
                have hsB := hEB.size
                have hownB : WB.ownsRow w3.heap.size 3 1 (.slice (some ⟨gv, 0, none⟩) ej.length cv) ej.length (ordE ej) := hOB.get 0 rfl
                go_wp2_with (at_builtin; refine wpList_append_own2 rfl _ _ 37 rfl w3.heap.size 3 i3 (.int .i64 0) 1 8 Try.underlying37 hi3 hz3 hs3 hb3 rfl (by decide) (.slice (some ⟨gv, 0, none⟩) ej.length cv) ej.length _ rfl (World.ownsRow.alloc hownB _) ⟨WB.heap.size, 0, none⟩ 1 1 [.int .i64 (u : Int)] rfl rfl (cells_new _ #[.int .i64 (u : Int)] _) (one_int _) (by unfold maxLen; omega) (by omega) (by simp; omega) ?_; intro v6 w6 hown6 hg6 hb6; obtain ⟨g6, c6, rfl⟩ := ownsRow_pos hown6 (by omega))
                go_roundw
                case rel =>
                  have h1 := (hOB.trans (alloc_ext WB _)).app 0 rfl hg6 hown6 hb6
                  refine ⟨j + 1, om', g6, c6, by go_num, by omega, by rw [HS1.out, List.length_append]; rfl, by rw [HS1.out, HM2.out.1]; exact hm', h1.ext, ?_⟩
                  rw [HS1.out, HM2.out.2, List.length_append]
                  exact h1
                case measure => simp [intOf]; omega
            · have hb : (tx != -1) = true := by simpa using hx1
              rw [hgs] at hlk
              have hs1 : rowAt c row es (j + 1) = ej := by
                rw [HSTEP.out]; unfold tryE; exact if_neg (fun h => by rw [hx2] at h; cases h.2)
              have HS1 := Lib.hid hs1
              have hlk2 : (Instr.lookup 82 (.map (some bm)) (.int .i64 tx) true).run Try.prog W9 = .ok (.tuple #[.agg #[.int .i64 e.from_, .int .i64 e.inp], .bool true]) W9 := hlk
              clear hs1 hx1 hgs hx2 hlk
              go_wp2
              go_roundw
              case rel => exact ⟨j + 1, om, gv, cv, by go_num, by omega, by rw [HS1.out], by rw [HS1.out]; exact hmo, hE.trans (alloc_ext _ _), by rw [HS1.out]; exact hO.trans (alloc_ext _ _)⟩
              case measure => simp [intOf]; omega
          · have hje : j = row.length := by rw [← HLE.out.1]; omega
            have hfin : rowAt c row es j = stAt M (k + 1) := by rw [HSU.out, hje]
            rw [hfin] at hO hmo ⊢
            have HO := Lib.hid hO
            have HKL : Hid (k + 1 ≤ (stAt M (k + 1)).length) := by
              show _ ≤ _
              have := rowAt_len c row es row.length
              rw [HSU.out]; omega
            clear hfin hje hO
            go_wp2
            go_roundw
            case rel => exact ⟨k + 1, om, gv, cv, by go_num, rfl, HKL.out, rfl, hnx, hmo, hE, HO.out⟩
            case measure => simp [intOf]; omega
        --]p2
    · have hres : comesL M g.set = (true, []) := by rw [hC.out]; exact comesF_none (List.getElem?_eq_none (by omega)) _
      have HRES : Hid (avRes g l = (true, [], 0)) := by show _ = _; rw [HR.out, hres]
      have hklI : ¬ (k : Int) < ((stAt M k).length : Int) := by omega
      clear hres
      go_wp2
      go_ret3
      refine ⟨.slice none 0 0, ?_, ?_, hE13.trans hE⟩
      · rw [HRES.out]; rfl
      · rw [HRES.out]; exact fit_nil _
#print axioms CheckAvoid_any
end Go.Proofs.Yteadkafeabhhhaa
