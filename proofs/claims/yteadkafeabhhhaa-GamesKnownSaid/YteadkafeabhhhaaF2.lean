/- gauntletref32.Follow 22: the machine with the edges that a strategy leaves. -/
import Derived.Test.YteadkafeabhhhaaP1
import Derived.Test.YteadkafeabhhhaaG6
namespace Go.Proofs.Yteadkafeabhhhaa
open Go.RowKit
set_option linter.unusedVariables false
set_option linter.unusedSimpArgs false
attribute [local go_sem] Oper.quietV quietV Oper.gives givesV ext_refl_iff ext_alloc_iff ext_drew_iff ext_drewN_iff


def fE (g : Game) (l : List Int) (s i : Nat) : Int × Int := if g.ours.getD s false && (i : Int) != l.getD s 0 then (-1, -1) else (g.m.row s).getD i (0, 0)
def fR (g : Game) (l : List Int) (s : Nat) : List (Int × Int) := (List.range (g.m.row s).length).map (fE g l s)
def fM (g : Game) (l : List Int) : Mach := ⟨g.m.ins, g.m.outs, (List.range g.m.rows.length).map (fR g l)⟩
theorem fR_len (g : Game) (l : List Int) (s : Nat) : (fR g l s).length = (g.m.row s).length := by simp [fR]
theorem edges_snoc (F : Nat → Int × Int) (i : Nat) : ((List.range i).map F).flatMap edgeCells ++ [.int .i64 (F i).1, .int .i64 (F i).2] = ((List.range (i + 1)).map F).flatMap edgeCells := by simp [List.range_succ, edgeCells]
theorem rowsC_of_own {W : World} {B : Nat} {A : Option Addr} {c n : Nat} {vs : List Value} {rows : List (List (Int × Int))} (h : OwnRows W B 53 52 2 (.slice A n c) vs (rows.map eRow)) (hn : rows.length = n) (hl : n ≤ 1000) (hr : ∀ r ∈ rows, r.length ≤ 1000) : RowsC W (.slice A n c) rows c := by
  subst hn
  have hlen : vs.length = rows.length := by rw [h.len]; simp
  obtain ⟨A', c', hv, hnc, hc⟩ := cells_of_owns h.own
  rw [hlen] at hv hnc
  cases hv
  refine ⟨A, vs, rfl, hc, hlen, fun i u es hu hes => ?_, hnc, by unfold lenMax; omega⟩
  have h1 := h.each i u (eRow es) hu (by rw [List.getElem?_map, hes]; rfl)
  obtain ⟨A2, c2, rfl, h3, h4⟩ := cells_of_owns h1
  exact ⟨c2, A2, rfl, h4, h3, by have := hr es (List.mem_of_getElem? hes); unfold lenMax; omega⟩
theorem new_cell2 (W : World) (x y : Value) (t : TypeId) (n : Nat) (hn : W.heap.size = n) : ∀ (j : Nat) (u : Value), [x, y][j]? = some u → (W.alloc (.cells #[x, y] t)).cell? ((⟨n, 0, none⟩ : Addr).add j) = some u := by
  subst hn; exact cells_new W #[x, y] t
theorem two_ints (x y : Int) : ∀ u ∈ [Value.int .i64 x, .int .i64 y], u.oneCell' = true := by intro u hu; simp at hu; rcases hu with rfl | rfl <;> rfl

set_option maxRecDepth 100000 in
set_option maxHeartbeats 8000000 in
theorem refFollow_any (w : World) (gv lv : Value) (g : Game) (hg : GameV w gv g) (hF : Fine g) (l : List Int) (cl : Nat) (hl : IntsC w lv l cl) (hll : l.length = g.m.rows.length) :
    Calls Try.prog 22 #[gv, lv] w fun e w' => (∃ mv, e = .returned mv ∧ MachV w' mv (fM g l)) ∧ Ext w w' := by
  obtain ⟨rv, cr, ov, co, sv, cs, rfl, hr, ho, hs⟩ := hg
  obtain ⟨Ar, vr, rfl, _, _, _, _, hrm⟩ := id hr
  obtain ⟨Ao, rfl, hoc, _, hom⟩ := id ho
  obtain ⟨As, rfl, hsc, _, hsm⟩ := id hs
  unfold lenMax at hrm hom hsm
  obtain ⟨hV, hol, hsl⟩ := hF
  have hsz := hV.size
  obtain ⟨n, hn⟩ : ∃ n, n = g.m.rows.length := ⟨_, rfl⟩
  rw [← hn] at hol hsl hsz hrm hr ⊢
  rw [hol] at hom ho ⊢
  rw [hsl] at hsm hs ⊢
  have HN := Lib.hid hn
  have HOL := Lib.hid hol
  have HSL := Lib.hid hsl
  have HV := Lib.hid hV
  clear hV hol hsl hn
  have hn64 : n ≤ 64 := hsz.2
  have hn1 : 1 ≤ n := hsz.1
  obtain ⟨i52, hi52, hz52, hs52, hb52⟩ := info_parts edge_info
  obtain ⟨i53, hi53, hz53, hs53, hb53⟩ := info_parts slices_info
  obtain ⟨Al, rfl, hlc, _, hlm⟩ := id hl
  unfold lenMax at hlm
  have hln : l.length = n := by rw [hll]; exact HN.out.symm
  rw [hln] at hlm hl ⊢
  have HLL := Lib.hid hln
  clear hln hll
  go_enter Try.func22, Try.ntmps22
  go_upto_region 1 with fail
  refine wp_named ?_
  intro W1 hW1
  obtain ⟨Wb, hWb⟩ : ∃ Wb, Wb = w.alloc (.cells #[.int .i64 g.m.ins, .int .i64 g.m.outs, .slice Ar n cr, .slice Ao n co, .slice As n cs] 32) := ⟨_, rfl⟩
  rw [← hWb] at hW1
  have hEb : Ext w Wb := by rw [hWb]; exact alloc_ext _ _
  have hbs : Wb.heap.size = w.heap.size + 1 := by rw [hWb]; simp
  have k0 : ∀ w', Ext Wb w' → w'.cell? ⟨w.heap.size, 0, none⟩ = some (.int .i64 g.m.ins) := fun w' h => h.cell (by rw [hWb]; simp [go_sem])
  have k1 : ∀ w', Ext Wb w' → w'.cell? ⟨w.heap.size, 1, none⟩ = some (.int .i64 g.m.outs) := fun w' h => h.cell (by rw [hWb]; simp [go_sem])
  have k2 : ∀ w', Ext Wb w' → w'.cell? ⟨w.heap.size, 2, none⟩ = some (.slice Ar n cr) := fun w' h => h.cell (by rw [hWb]; simp [go_sem])
  have k3 : ∀ w', Ext Wb w' → w'.cell? ⟨w.heap.size, 3, none⟩ = some (.slice Ao n co) := fun w' h => h.cell (by rw [hWb]; simp [go_sem])
  have hO1 : OwnL Wb W1 [.blk (w.heap.size + 1) (.cells #[.int .i64 0, .int .i64 0, .slice none 0 0] 29)] := by
    rw [hW1]; exact (OwnL.nil (Ext.refl Wb)).add (alloc_ext _ _) (A := .blk (w.heap.size + 1) (.cells #[.int .i64 0, .int .i64 0, .slice none 0 0] 29)) ⟨by omega, by rw [← hbs]; exact heap_alloc_new _ _⟩
  have hbs1 : W1.heap.size = w.heap.size + 2 := by rw [hW1]; simp; omega
  have hE0 := hO1.ext
  clear hW1 hWb
  go_upto_region 2 with fail
  refine wp_named ?_
  intro W2 hW2
  have hO2 : OwnL Wb W2 [.rows 53 52 2 (.slice none 0 0) [] ((List.range 0).map (fun j => eRow (fR g l j))), .blk (w.heap.size + 2) (.cells #[.int .i64 g.m.ins, .int .i64 g.m.outs, (.slice none 0 0)] 29), .blk (w.heap.size + 1) (.cells #[.int .i64 0, .int .i64 0, .slice none 0 0] 29)] := by
    rw [hW2]
    have h1 := hO1.add (alloc_ext _ _) (A := .blk (w.heap.size + 2) (.cells #[.int .i64 g.m.ins, .int .i64 g.m.outs, .slice none 0 0] 29)) ⟨by omega, by rw [← hbs1]; exact heap_alloc_new _ _⟩
    exact h1.add (Ext.refl _) (A := .rows 53 52 2 (.slice none 0 0) [] []) ⟨World.ownsRow_nil _ _ _ _, rfl, fun j u r hj _ => by simp at hj, fun i j u u' hi _ _ => by simp at hi, fun j u hj => by simp at hj⟩
  have hE2 := hO2.ext
  clear hW2 hO1 hE0
  have HR := Lib.hid (hr.ext hEb)
  have HLC := Lib.hid (hlc.ext hEb)
  have HOC := Lib.hid (hoc.ext hEb)
  clear hr hlc hoc hl ho hs
  go_wp2
  go_loopw [6] (fun i wr => ∃ (s : Nat) (rv : Value) (vs : List Value), i = .int .i64 s ∧ s ≤ n ∧ Ext Wb wr ∧ OwnL Wb wr [.rows 53 52 2 rv vs ((List.range s).map (fun j => eRow (fR g l j))), .blk (w.heap.size + 2) (.cells #[.int .i64 g.m.ins, .int .i64 g.m.outs, rv] 29), .blk (w.heap.size + 1) (.cells #[.int .i64 0, .int .i64 0, .slice none 0 0] 29)]) (fun i _ => n - (intOf i).toNat)
  case atStart => exact ⟨0, _, _, rfl, by omega, hE2, hO2⟩
  case round =>
    clear hO2 hE2
    obtain ⟨s, rv, vs, rfl, hsn, hE, hO⟩ := hrel
    obtain ⟨W3, hW3⟩ : ∃ W, W = wr := ⟨_, rfl⟩; subst hW3
    by_cases hlt : s < n
    · have hltI : (s : Int) < (n : Int) := by omega
      have hsm : s < g.m.rows.length := by rw [← HN.out]; exact hlt
      obtain ⟨b, o, us, cu, hv, hbb, c0, hes⟩ := HR.out.at_ hsm
      obtain rfl : Ar = some ⟨b, o, none⟩ := by injection hv
      have hre := row_eq hsm
      obtain ⟨Ae, rfl, hce, _, hme⟩ := hes
      unfold lenMax at hme
      rw [← hre] at hce hme c0
      have hlen : ((g.m.row s).length : Int) = g.m.ins := by rw [hre]; exact HV.out.len _ (List.getElem_mem hsm)
      obtain ⟨el, hel⟩ : ∃ el, el = (g.m.row s).length := ⟨_, rfl⟩
      rw [← hel] at c0 hme hlen
      have hel16 : el ≤ 16 := by have := HV.out.ins; omega
      have hel1 : 1 ≤ el := by have := HV.out.ins; omega
      have HEL := Lib.hid (And.intro hel hlen)
      have g0 : ∀ w', Ext Wb w' → w'.cell? ⟨b, o + s, none⟩ = some (.slice Ae el cu) := fun w' h => h.cell c0
      have k0e : ∀ w', Ext Wb w' → w'.cell? ⟨w.heap.size, 0, none⟩ = some (.int .i64 (el : Int)) := by rw [hlen]; exact k0
      have hso : s < g.ours.length := by rw [HOL.out]; exact hlt
      obtain ⟨bo, oo, hAo, _, co0⟩ := HOC.out.at_bool hso
      obtain rfl : Ao = some ⟨bo, oo, none⟩ := hAo
      have co0 : ∀ w', Ext Wb w' → w'.cell? ⟨bo, oo + s, none⟩ = some (.bool g.ours[s]) := fun w' h => h.cell co0
      have hog : g.ours.getD s false = g.ours[s] := by simp [List.getD, hso]
      have hsl : s < l.length := by rw [HLL.out]; exact hlt
      obtain ⟨bl, ol, hAl, _, cl0⟩ := HLC.out.at_int hsl
      obtain rfl : Al = some ⟨bl, ol, none⟩ := hAl
      have cl0 : ∀ w', Ext Wb w' → w'.cell? ⟨bl, ol + s, none⟩ = some (.int .i64 l[s]) := fun w' h => h.cell cl0
      have hlg : l.getD s 0 = l[s] := by simp [List.getD, hsl]
      have HG := Lib.hid (And.intro hog hlg)
      generalize g.ours[s] = ob at *
      generalize l[s] = lx at *
      have hvl : vs.length = s := by have := (hO.get 0 rfl : OwnRows W3 Wb.heap.size 53 52 2 rv vs ((List.range s).map (fun j => eRow (fR g l j)))).len; simpa using this
      have HVL := Lib.hid hvl
      clear hre hlen hel hog hlg hbb hv hso hsl hvl c0 k0
      have hO0 : OwnL Wb W3 [.row 52 2 (.slice none 0 0) 0 (((List.range 0).map (fE g l s)).flatMap edgeCells), .rows 53 52 2 rv vs ((List.range s).map (fun j => eRow (fR g l j))), .blk (w.heap.size + 2) (.cells #[.int .i64 g.m.ins, .int .i64 g.m.outs, rv] 29), .blk (w.heap.size + 1) (.cells #[.int .i64 0, .int .i64 0, .slice none 0 0] 29)] := hO.add (Ext.refl _) (A := .row 52 2 (.slice none 0 0) 0 (((List.range 0).map (fE g l s)).flatMap edgeCells)) (World.ownsRow_nil _ _ _ _)
      clear hO
      go_wp2
      go_loopw [8, 7] (fun i x wr => ∃ k : Nat, k ≤ el ∧ i = .int .i64 k ∧ Ext Wb wr ∧ OwnL Wb wr [.row 52 2 x k (((List.range k).map (fE g l s)).flatMap edgeCells), .rows 53 52 2 rv vs ((List.range s).map (fun j => eRow (fR g l j))), .blk (w.heap.size + 2) (.cells #[.int .i64 g.m.ins, .int .i64 g.m.outs, rv] 29), .blk (w.heap.size + 1) (.cells #[.int .i64 0, .int .i64 0, .slice none 0 0] 29)]) (fun i _ _ => el - (intOf i).toNat)
      case atStart => exact ⟨0, by omega, rfl, hE, hO0⟩
      case round =>
        clear hO0 hE
        obtain ⟨k, hk, rfl, hE, hO⟩ := hrel
        obtain ⟨W5, hW5⟩ : ∃ W, W = wr := ⟨_, rfl⟩; subst hW5
        have k0w := k0e W5 hE
        by_cases hkl : k < el
        · have hkI : (k : Int) < (el : Int) := by omega
          have hir : k < (g.m.row s).length := by rw [← HEL.out.1]; exact hkl
          obtain ⟨be, oe, hAe, _, d0, d1⟩ := hce.at_edge hir
          obtain rfl : Ae = some ⟨be, oe, none⟩ := hAe
          have d0 := hE.cell d0
          have d1 := hE.cell d1
          have hge : (g.m.row s).getD k (0, 0) = (g.m.row s)[k] := by simp [List.getD, hir]
          have HGE := Lib.hid hge
          generalize (g.m.row s)[k] = xy at *
          obtain ⟨x, y⟩ := xy
          have hown : W5.ownsRow Wb.heap.size 52 2 u7 k (((List.range k).map (fE g l s)).flatMap edgeCells) := hO.get 0 rfl
          have hszb := hE.size
          have gs := g0 W5 hE
          have os := co0 W5 hE
          have ls := cl0 W5 hE
          have k2s := k2 W5 hE
          have k3s := k3 W5 hE
          clear hge hir
          by_cases hcond : (ob && (k : Int) != lx) = true
          · have hfe : fE g l s k = (-1, -1) := by unfold fE; rw [HG.out.1, HG.out.2, if_pos hcond]
            have HFE := Lib.hid hfe
            rw [Bool.and_eq_true] at hcond
            obtain ⟨rfl, hnk⟩ := hcond
            clear hfe
            go_wp2_with (at_builtin; refine wpList_append_own2 rfl _ _ 53 rfl Wb.heap.size 52 i52 (.agg #[.int .i64 0, .int .i64 0]) 2 16 Try.underlying53 hi52 hz52 hs52 hb52 rfl (by decide) u7 k _ rfl (World.ownsRow.alloc (World.ownsRow.alloc hown _) _) ⟨W5.heap.size + 1, 0, none⟩ 1 1 [.int .i64 (-1), .int .i64 (-1)] rfl rfl (new_cell2 _ _ _ _ _ (by simp)) (two_ints _ _) (by unfold maxLen; omega) (by omega) (by simp; omega) ?_; intro v6 w6 hown6 hg6 hb6)
            go_roundw
            case rel =>
              have h1 := (hO.trans ((alloc_ext W5 _).trans (alloc_ext _ _))).app 0 rfl hg6 hown6 hb6
              have h2 := edges_snoc (fE g l s) k
              rw [HFE.out] at h2
              rw [h2] at h1
              exact ⟨k + 1, by omega, by go_num, h1.ext, h1⟩
            case measure => simp [intOf]; omega
          · have hfe : fE g l s k = (x, y) := by unfold fE; rw [HG.out.1, HG.out.2, if_neg hcond]; exact HGE.out
            have HFE := Lib.hid hfe
            clear hfe
            cases ob with
            | false =>
              clear hcond
              go_wp2_with (at_builtin; refine wpList_append_own2 rfl _ _ 53 rfl Wb.heap.size 52 i52 (.agg #[.int .i64 0, .int .i64 0]) 2 16 Try.underlying53 hi52 hz52 hs52 hb52 rfl (by decide) u7 k _ rfl (World.ownsRow.alloc (World.ownsRow.alloc hown _) _) ⟨W5.heap.size + 1, 0, none⟩ 1 1 [.int .i64 x, .int .i64 y] rfl rfl (new_cell2 _ _ _ _ _ (by simp)) (two_ints _ _) (by unfold maxLen; omega) (by omega) (by simp; omega) ?_; intro v6 w6 hown6 hg6 hb6)
              go_roundw
              case rel =>
                have h1 := (hO.trans ((alloc_ext W5 _).trans (alloc_ext _ _))).app 0 rfl hg6 hown6 hb6
                have h2 := edges_snoc (fE g l s) k
                rw [HFE.out] at h2
                rw [h2] at h1
                exact ⟨k + 1, by omega, by go_num, h1.ext, h1⟩
              case measure => simp [intOf]; omega
            | true =>
              have hnk : ((k : Int) != lx) = false := by simpa using hcond
              clear hcond
              go_wp2_with (at_builtin; refine wpList_append_own2 rfl _ _ 53 rfl Wb.heap.size 52 i52 (.agg #[.int .i64 0, .int .i64 0]) 2 16 Try.underlying53 hi52 hz52 hs52 hb52 rfl (by decide) u7 k _ rfl (World.ownsRow.alloc (World.ownsRow.alloc hown _) _) ⟨W5.heap.size + 1, 0, none⟩ 1 1 [.int .i64 x, .int .i64 y] rfl rfl (new_cell2 _ _ _ _ _ (by simp)) (two_ints _ _) (by unfold maxLen; omega) (by omega) (by simp; omega) ?_; intro v6 w6 hown6 hg6 hb6)
              go_roundw
              case rel =>
                have h1 := (hO.trans ((alloc_ext W5 _).trans (alloc_ext _ _))).app 0 rfl hg6 hown6 hb6
                have h2 := edges_snoc (fE g l s) k
                rw [HFE.out] at h2
                rw [h2] at h1
                exact ⟨k + 1, by omega, by go_num, h1.ext, h1⟩
              case measure => simp [intOf]; omega
        · have hke : k = el := by omega
          subst hke
          obtain ⟨gr, cx, rfl⟩ := ownsRow_pos (hO.get 0 rfl : W5.ownsRow Wb.heap.size 52 2 u7 k (((List.range k).map (fE g l s)).flatMap edgeCells)) hel1
          have hOR : OwnRows W5 Wb.heap.size 53 52 2 rv vs ((List.range s).map (fun j => eRow (fR g l j))) := hO.get 1 rfl
          have hown := hOR.own
          rw [HVL.out] at hown
          have b2 := cell_of_blk (hO.get 2 rfl).2 2 (u := rv) rfl
          have hszb := hE.size
          obtain ⟨Arv, crv, rfl, _, _⟩ := cells_of_owns hown
          clear hOR
          have hkI : ¬ (k : Int) < (k : Int) := by omega
          go_wp2_with (at_builtin; refine wpList_append_own2 rfl _ _ 27 rfl Wb.heap.size 53 i53 (.slice none 0 0) 1 24 Try.underlying27 hi53 hz53 hs53 hb53 rfl (by decide) (.slice Arv s crv) s vs rfl (World.ownsRow.alloc hown _) ⟨W5.heap.size, 0, none⟩ 1 1 [.slice (some ⟨gr, 0, none⟩) k cx] rfl rfl (cells_new _ #[.slice (some ⟨gr, 0, none⟩) k cx] _) (one_slice _ _ _) (by unfold maxLen; omega) (by omega) (by simp; omega) ?_; intro v6 w6 hown6 hg6 hb6; obtain ⟨g6, c6, rfl⟩ := ownsRow_pos hown6 (by omega); have hp := (hO.trans (alloc_ext W5 _)).push hg6 (by rw [HVL.out]; exact hown6) hb6; have p2 := cell_of_blk (hp.get 1 rfl).2 2 (u := .slice Arv s crv) rfl; have pf := free_of_blk (hp.get 1 rfl).2 2)
          go_roundw
          case rel =>
            have h5 := hp.put 1 rfl 2 (.slice (some ⟨g6, 0, none⟩) (s + 1) c6)
            have h6 : ((List.range s).map (fun j => eRow (fR g l j))) ++ [(k, ((List.range k).map (fE g l s)).flatMap edgeCells)] = (List.range (s + 1)).map (fun j => eRow (fR g l j)) := by
              rw [List.range_succ, List.map_append]
              show _ = _ ++ [eRow (fR g l s)]
              unfold eRow
              rw [fR_len, ← HEL.out.1]
              unfold fR
              rw [← HEL.out.1]
            rw [h6] at h5
            exact ⟨s + 1, _, _, by go_num, by omega, h5.ext, h5⟩
          case measure => simp [intOf]; omega
    · have hse : s = n := by omega
      subst hse
      have hnI : ¬ (s : Int) < (s : Int) := by omega
      have hOR : OwnRows W3 Wb.heap.size 53 52 2 rv vs ((List.range s).map (fun j => eRow (fR g l j))) := hO.get 0 rfl
      obtain ⟨gv, cv, rfl⟩ := ownsRow_pos hOR.own (by have := hOR.len; simp at this; omega)
      have hvl : vs.length = s := by have := hOR.len; simpa using this
      rw [hvl] at hO
      have x0 := cell_of_blk (hO.get 1 rfl).2 0 (u := .int .i64 g.m.ins) rfl
      have x1 := cell_of_blk (hO.get 1 rfl).2 1 (u := .int .i64 g.m.outs) rfl
      have x2 := cell_of_blk (hO.get 1 rfl).2 2 (u := .slice (some ⟨gv, 0, none⟩) s cv) rfl
      have y0 := cell_of_blk (hO.get 2 rfl).2 0 (u := .int .i64 0) rfl
      have y1 := cell_of_blk (hO.get 2 rfl).2 1 (u := .int .i64 0) rfl
      have y2 := cell_of_blk (hO.get 2 rfl).2 2 (u := .slice none 0 0) rfl
      have yf := free_of_blk (hO.get 2 rfl).2
      have hO3 := ((hO.put 2 rfl 0 (.int .i64 g.m.ins)).put 2 rfl 1 (.int .i64 g.m.outs)).put 2 rfl 2 (.slice (some ⟨gv, 0, none⟩) s cv)
      have z0 := cell_of_blk (hO3.get 2 rfl).2 0 (u := .int .i64 g.m.ins) rfl
      have z1 := cell_of_blk (hO3.get 2 rfl).2 1 (u := .int .i64 g.m.outs) rfl
      have z2 := cell_of_blk (hO3.get 2 rfl).2 2 (u := .slice (some ⟨gv, 0, none⟩) s cv) rfl
      have HO3 := Lib.hid hO3
      clear hO3 hO hOR hvl
      go_wp2
      refine bodyPost_ret (v := .agg #[.int .i64 g.m.ins, .int .i64 g.m.outs, .slice (some ⟨gv, 0, none⟩) s cv]) (by simp [results, Try.f22, go_sem, z0, z1, z2]) rfl ?_
      refine ⟨⟨_, rfl, ?_⟩, hEb.trans HO3.out.ext⟩
      have h5 := HO3.out.get 0 rfl
      refine ⟨_, cv, rfl, rowsC_of_own (rows := (fM g l).rows) (by
        have e : (fM g l).rows.map eRow = (List.range s).map (fun j => eRow (fR g l j)) := by
          unfold fM; simp only; rw [List.map_map, HN.out]; rfl
        rw [e]; exact h5) (by unfold fM; simp; exact HN.out.symm) (by omega) (fun r hr => ?_)⟩
      obtain ⟨j, _, rfl⟩ := List.mem_map.1 hr
      rw [fR_len]
      have := row_le HV.out j
      omega
#print axioms refFollow_any
end Go.Proofs.Yteadkafeabhhhaa
