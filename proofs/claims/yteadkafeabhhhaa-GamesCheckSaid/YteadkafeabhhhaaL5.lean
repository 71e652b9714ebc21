/- gauntletlaw32.GamesCheck 5: the walk. -/
import Derived.Test.YteadkafeabhhhaaL4
import Derived.Test.YteadkafeabhhhaaQ3
import Derived.Test.YteadkafeabhhhaaC3
namespace Go.Proofs.Yteadkafeabhhhaa
open Go.RowKit
set_option linter.unusedVariables false
set_option linter.unusedSimpArgs false
attribute [local go_sem] Oper.quietV quietV Oper.gives givesV ext_refl_iff ext_alloc_iff ext_drew_iff ext_drewN_iff
attribute [local go_sem] wrap_one

/-- A slice value of bytes. -/
def U8sC (w : World) (v : Value) (xs : List Nat) (c : Nat) : Prop := ∃ A, v = .slice A xs.length c ∧ Cells w A (xs.map (fun (x : Nat) => Value.int .u8 (x : Int))) ∧ xs.length ≤ c ∧ xs.length ≤ maxLen ∧ ∀ x ∈ xs, x < 256
theorem bools_made {W w' : World} {n : Nat} (h : w'.heap = (W.alloc (.cells (Array.replicate n (.bool false)) 4)).heap) (hn : n ≤ 1000) : BoolsC w' (.slice (some ⟨W.heap.size, 0, none⟩) n n) (List.replicate n false) n :=
  by
  have h1 := bools_blk (W := w') (t := 4) (cs := Array.replicate n (.bool false)) (xs := List.replicate n false) (by rw [h]; exact heap_alloc_new W _) (by rw [Array.toList_replicate, List.map_replicate]) List.length_replicate hn
  unfold FitB at h1
  rwa [List.length_replicate] at h1
theorem Cells.at_u8 {w : World} {A : Option Addr} {xs : List Nat} (h : Cells w A (xs.map (fun (x : Nat) => Value.int .u8 (x : Int)))) {k : Nat} (hk : k < xs.length) :
    ∃ b o, A = some ⟨b, o, none⟩ ∧ b < w.heap.size ∧ w.cell? ⟨b, o + k, none⟩ = some (.int .u8 (xs[k] : Int)) := by
  obtain ⟨b, o, hA, hb, hc⟩ := h (by simp; omega)
  exact ⟨b, o, hA, hb, hc k _ (by simp [hk])⟩
theorem MachV.rows {w : World} {p q rv : Value} {m : Mach} (h : MachV w (.agg #[p, q, rv]) m) : RowsC w rv m.rows (match rv with | .slice _ _ c => c | _ => 0) := by
  obtain ⟨rv', c, hv, hr⟩ := h
  cases hv
  obtain ⟨A, vs, rfl, hh⟩ := id hr
  exact hr
def stN (g : Game) (ls : List Nat) (s : Nat) : Int :=
  if s < ls.length ∧ ls.getD s 0 < 200 then
    (if g.ours.getD s false = true ∧ toAt g s (ls.getD s 0 % g.m.ins.toNat) < 0 then -1 else ((ls.getD s 0 % g.m.ins.toNat : Nat) : Int))
  else -1
def stL (g : Game) (ls : List Nat) : List Int := (List.range g.m.rows.length).map (stN g ls)
theorem stL_ok {g : Game} (hF : Fine g) (ls : List Nat) : stratE g (stL g ls) = 0 := by
  refine strat_ok2 hF (by simp [stL]) (fun s hs => ?_)
  have e : (stL g ls).getD s 0 = stN g ls s := getD_map_range _ _ hs
  rw [e]
  have hi := hF.1.ins
  have hr := row_len hF.1 hs
  unfold stN
  split
  · split
    · exact .inl rfl
    · rename_i h1 h2
      refine .inr ⟨ls.getD s 0 % g.m.ins.toNat, ?_, rfl, fun ho => ?_⟩
      · have := Nat.mod_lt (ls.getD s 0) (show 0 < g.m.ins.toNat by omega)
        omega
      · by_cases h3 : toAt g s (ls.getD s 0 % g.m.ins.toNat) < 0
        · exact absurd ⟨ho, h3⟩ h2
        · omega
  · exact .inl rfl
set_option maxRecDepth 100000 in
set_option maxHeartbeats 8000000 in
theorem GamesCheck_any (w : World) (v lv : Value) (r : RawG) (hr : RawGV w v r) (ls : List Nat) (cl : Nat) (hls : U8sC w lv ls cl) : Calls Try.prog 5 #[v, lv] w fun e w' => e = .returned (.bool true) ∧ Ext w w' := by
  obtain ⟨ev, c, rfl, hu, h1, h2, h3, h4, h5⟩ := id hr
  obtain ⟨Al, rfl, hlc, _, hlm, hl256⟩ := hls
  unfold maxLen at hlm
  go_enter Try.func5, Try.ntmps5
  go_upto_region 1 with fail
  refine wp_named ?_
  intro W1 hW1
  have hE1 : Ext w W1 := by rw [hW1]; exact (Ext.refl _).alloc _
  have k0 : ∀ w', Ext W1 w' → w'.cell? ⟨w.heap.size, 0, none⟩ = some (.int .u8 r.m.states) := fun w' h => h.cell (by rw [hW1]; simp [go_sem])
  have k1 : ∀ w', Ext W1 w' → w'.cell? ⟨w.heap.size, 1, none⟩ = some (.int .u8 r.m.inputs) := fun w' h => h.cell (by rw [hW1]; simp [go_sem])
  have k2 : ∀ w', Ext W1 w' → w'.cell? ⟨w.heap.size, 2, none⟩ = some (.int .u8 r.m.outputs) := fun w' h => h.cell (by rw [hW1]; simp [go_sem])
  have k3 : ∀ w', Ext W1 w' → w'.cell? ⟨w.heap.size, 3, none⟩ = some (.bool r.m.part) := fun w' h => h.cell (by rw [hW1]; simp [go_sem])
  have k4 : ∀ w', Ext W1 w' → w'.cell? ⟨w.heap.size, 4, none⟩ = some ev := fun w' h => h.cell (by rw [hW1]; simp [go_sem])
  have k5 : ∀ w', Ext W1 w' → w'.cell? ⟨w.heap.size, 5, none⟩ = some (.int .u8 r.ours) := fun w' h => h.cell (by rw [hW1]; simp [go_sem])
  have k6 : ∀ w', Ext W1 w' → w'.cell? ⟨w.heap.size, 6, none⟩ = some (.int .u8 r.set) := fun w' h => h.cell (by rw [hW1]; simp [go_sem])
  clear hW1
  obtain ⟨Ae, rfl, hu2⟩ := hu
  clear hu2
  have hof := GOf_any W1 _ r (hr.ext hE1)
  have hF := game_fine r
  have hn6 := game_six r
  generalize r.game = g at hof hF hn6
  go_upto_region 2 with (go_at_call 9; refine hof.mono ?_; rintro e W2 ⟨⟨gv, rfl, hg⟩, hE2⟩; obtain ⟨Ar, cr, Ao, co, As, cs, rfl⟩ := hg.form)
  refine wp_named ?_
  intro W hW
  obtain ⟨n, hn⟩ : ∃ n, n = g.m.rows.length := ⟨_, rfl⟩
  have hol := hF.2.1
  have hsl := hF.2.2
  rw [← hn] at hol hsl hn6
  rw [hol, hsl, ← hn] at hW hg
  have hG : ∀ w', Ext W w' → GameV w' (.agg #[.int .i64 g.m.ins, .int .i64 g.m.outs, .slice Ar n cr, .slice Ao n co, .slice As n cs]) g := fun w' h => hg.ext (Ext.trans (by rw [hW]; exact alloc_ext _ _) h)
  have q0 : ∀ w', Ext W w' → w'.cell? ⟨W2.heap.size, 0, none⟩ = some (.int .i64 g.m.ins) := fun w' h => h.cell (by rw [hW]; simp [go_sem])
  have q1 : ∀ w', Ext W w' → w'.cell? ⟨W2.heap.size, 1, none⟩ = some (.int .i64 g.m.outs) := fun w' h => h.cell (by rw [hW]; simp [go_sem])
  have q2 : ∀ w', Ext W w' → w'.cell? ⟨W2.heap.size, 2, none⟩ = some (.slice Ar n cr) := fun w' h => h.cell (by rw [hW]; simp [go_sem])
  have q3 : ∀ w', Ext W w' → w'.cell? ⟨W2.heap.size, 3, none⟩ = some (.slice Ao n co) := fun w' h => h.cell (by rw [hW]; simp [go_sem])
  have q4 : ∀ w', Ext W w' → w'.cell? ⟨W2.heap.size, 4, none⟩ = some (.slice As n cs) := fun w' h => h.cell (by rw [hW]; simp [go_sem])
  have hEW : Ext w W := by rw [hW]; exact (hE1.trans hE2).alloc _
  generalize W2.heap.size = N at *
  have HF := Lib.hid (And.intro hF (And.intro hn (And.intro hol hsl)))
  have hn1 : 1 ≤ n := by have := hF.1.size; omega
  clear hW hg hof k0 k1 k2 k3 k4 k5 k6 hr hF hn hol hsl hE1 hE2 h1 h2 h3 h4 h5
  obtain ⟨i3, hi3, hz3, hs3, hb3⟩ := info_parts int_info
  have HLC := Lib.hid (hlc.ext hEW)
  have HLB := Lib.hid hl256
  clear hlc hl256
  obtain ⟨ll, hll⟩ : ∃ ll, ll = ls.length := ⟨_, rfl⟩
  rw [← hll] at hlm ⊢
  have HLL := Lib.hid hll
  clear hll
  have HEW := Lib.hid hEW
  have hEE := Ext.refl W
  clear hEW
  go_wp2
  go_loopw [7, 6] (fun i sv wr => ∃ s : Nat, i = .int .i64 s ∧ s ≤ n ∧ Ext W wr ∧ OwnL W wr [.row 3 1 sv s (((List.range s).map (stN g ls)).map (.int .i64))]) (fun i _ _ => n - (intOf i).toNat)
  case atStart => exact ⟨0, rfl, by omega, hEE, (OwnL.nil hEE).add (Ext.refl _) (A := .row 3 1 (.slice none 0 0) 0 []) (World.ownsRow_nil _ _ _ _)⟩
  case round =>
    clear hEE
    obtain ⟨s, rfl, hs, hE, hO⟩ := hrel
    obtain ⟨W3, hW3⟩ : ∃ W, W = wr := ⟨_, rfl⟩; subst hW3
    by_cases hlt : s < n
    · have hltI : (s : Int) < (n : Int) := by omega
      have q0s := q0 W3 hE
      have q2s := q2 W3 hE
      have q3s := q3 W3 hE
      have hsm : s < g.m.rows.length := by rw [← HF.out.2.1]; exact hlt
      by_cases hll : s < ll
      · have hllI : (s : Int) < (ll : Int) := by omega
        have hsl : s < ls.length := by rw [← HLL.out]; exact hll
        obtain ⟨bl, ol, hAl, _, cl0⟩ := HLC.out.at_u8 hsl
        obtain rfl : Al = some ⟨bl, ol, none⟩ := hAl
        have cl0 := hE.cell cl0
        have hzg : ls.getD s 0 = ls[s] := by simp [List.getD, hsl]
        have hz256 := HLB.out _ (List.getElem_mem hsl)
        generalize ls[s] = z at *
        by_cases hz : z < 200
        · have hzI : (z : Int) < 200 := by omega
          obtain ⟨b, o, us, cu2, hv, hbb, c0, hes2⟩ := (hG W (Ext.refl W)).mach.1.rows.at_ hsm
          obtain rfl : Ar = some ⟨b, o, none⟩ := by injection hv
          have hre := row_eq hsm
          obtain ⟨Ae, rfl, hce, _, hme⟩ := hes2
          unfold lenMax at hme
          rw [← hre] at hce hme c0
          have c0 := hE.cell c0
          obtain ⟨el, hel⟩ : ∃ el, el = (g.m.row s).length := ⟨_, rfl⟩
          have hlenI : (el : Int) = g.m.ins := by rw [hel]; exact row_len HF.out.1.1 hsm
          rw [← hel] at c0 hme
          have hel1 : 1 ≤ el ∧ el ≤ 16 := by have := HF.out.1.1.ins; omega
          obtain ⟨ik, hik⟩ : ∃ ik, ik = z % el := ⟨_, rfl⟩
          have hikl : ik < el := by rw [hik]; exact Nat.mod_lt _ (by omega)
          have hmod : (z : Int).tmod g.m.ins = (ik : Int) := by rw [← hlenI, hik, Int.tmod_eq_emod_of_nonneg (by omega)]; push_cast; rfl
          have hnz : ¬ g.m.ins = 0 := by omega
          have hnz2 : g.m.ins ≠ 0 := hnz
          have hnz3 : (g.m.ins == 0) = false := by simpa using hnz
          have hwz : IntKind.i64.wrap (z : Int) = (z : Int) := by simp [IntKind.wrap, IntKind.bits, IntKind.signed]; omega
          have hwk : IntKind.i64.wrap (ik : Int) = (ik : Int) := by simp [IntKind.wrap, IntKind.bits, IntKind.signed]; omega
          have hgm : ls.getD s 0 % g.m.ins.toNat = ik := by rw [hzg, hik, ← hlenI, Int.toNat_natCast]
          have hir : ik < (g.m.row s).length := by rw [← hel]; exact hikl
          obtain ⟨be, oe, hAe, _, d0, d1⟩ := hce.at_edge hir
          obtain rfl : Ae = some ⟨be, oe, none⟩ := hAe
          have d0 := hE.cell d0
          have hta : toAt g s ik = (g.m.row s)[ik].1 := by unfold toAt; simp [List.getD, hir]
          obtain ⟨co2, hob⟩ := (hG W (Ext.refl W)).mach.2.1
          obtain ⟨Ao2, hAo2, hoc, _⟩ := hob
          have hso : s < g.ours.length := by rw [HF.out.2.2.1]; exact hlt
          obtain ⟨bo, oo, hAo, _, co0⟩ := hoc.at_bool hso
          have hAo3 : Ao = Ao2 := by injection hAo2
          obtain rfl : Ao = some ⟨bo, oo, none⟩ := hAo3.trans hAo
          have co0 := hE.cell co0
          have hog : g.ours.getD s false = g.ours[s] := by simp [List.getD, hso]
          have hikI : (ik : Int) < (el : Int) := by omega
          have hbig : (z : Int) ≤ 255 := by omega
          generalize (g.m.row s)[ik].1 = x at *
          generalize g.ours[s] = ob at *
          have hst0 : stN g ls s = if ob = true ∧ x < 0 then -1 else (ik : Int) := by
            unfold stN
            rw [if_pos ⟨hsl, by rw [hzg]; exact hz⟩, hgm, hog, hta]
          have HST0 := Lib.hid hst0
          clear hst0 hgm hog hta hik hzg hlenI hel hre hv hbb d1 hAo2 hAo3 hoc hso hir hz hsl hce
          go_upto_region 8 with fail
          go_quiet (fail)
          go_upto_region 9 with fail
          refine wp_named ?_
          intro W6 hW6
          have e36 : Ext W3 W6 := by rw [hW6]; exact (Ext.refl W3).drewN _
          have hO6 := hO.trans e36
          have q0s := e36.cell q0s
          have q2s := e36.cell q2s
          have q3s := e36.cell q3s
          have c0 := e36.cell c0
          have d0 := e36.cell d0
          have co0 := e36.cell co0
          clear hW6 hO hE cl0
          cases ob with
          | false =>
            have HST : Hid (stN g ls s = (ik : Int)) := by show _ = _; rw [HST0.out, if_neg (fun h => by cases h.1)]
            clear HST0
            have hown : W6.ownsRow W.heap.size 3 1 u6 s (((List.range s).map (stN g ls)).map (.int .i64)) := hO6.get 0 rfl
            have hszx := hO6.ext.size
            go_wp2_with (at_builtin; refine wpList_append_own2 rfl _ _ 37 rfl W.heap.size 3 i3 (.int .i64 0) 1 8 Try.underlying37 hi3 hz3 hs3 hb3 rfl (by decide) u6 s _ rfl (World.ownsRow.alloc hown _) ⟨W6.heap.size, 0, none⟩ 1 1 [.int .i64 (ik : Int)] rfl rfl (cells_new _ #[.int .i64 (ik : Int)] _) (one_int _) (by unfold maxLen; omega) (by omega) (by simp; omega) ?_; intro v6 w6 hown6 hg6 hb6)
            go_roundw
            case rel =>
              have e := ints_snoc (stN g ls) s
              rw [HST.out] at e
              rw [e] at hown6
              have h1 := (hO6.trans (alloc_ext _ _)).app 0 rfl hg6 hown6 hb6
              exact ⟨s + 1, by go_num, by omega, h1.ext, h1⟩
            case measure => simp [intOf]; omega
          | true =>
            by_cases hx : x < 0
            · have HST : Hid (stN g ls s = -1) := by show _ = _; rw [HST0.out, if_pos ⟨rfl, hx⟩]
              clear HST0
              have hown : W6.ownsRow W.heap.size 3 1 u6 s (((List.range s).map (stN g ls)).map (.int .i64)) := hO6.get 0 rfl
              have hszx := hO6.ext.size
              go_wp2_with (at_builtin; refine wpList_append_own2 rfl _ _ 37 rfl W.heap.size 3 i3 (.int .i64 0) 1 8 Try.underlying37 hi3 hz3 hs3 hb3 rfl (by decide) u6 s _ rfl (World.ownsRow.alloc hown _) ⟨W6.heap.size, 0, none⟩ 1 1 [.int .i64 (-1)] rfl rfl (cells_new _ #[.int .i64 (-1)] _) (one_int _) (by unfold maxLen; omega) (by omega) (by simp; omega) ?_; intro v6 w6 hown6 hg6 hb6)
              go_roundw
              case rel =>
                have e := ints_snoc (stN g ls) s
                rw [HST.out] at e
                rw [e] at hown6
                have h1 := (hO6.trans (alloc_ext _ _)).app 0 rfl hg6 hown6 hb6
                exact ⟨s + 1, by go_num, by omega, h1.ext, h1⟩
              case measure => simp [intOf]; omega
            · have HST : Hid (stN g ls s = (ik : Int)) := by show _ = _; rw [HST0.out, if_neg (fun h => hx h.2)]
              clear HST0
              have hown : W6.ownsRow W.heap.size 3 1 u6 s (((List.range s).map (stN g ls)).map (.int .i64)) := hO6.get 0 rfl
              have hszx := hO6.ext.size
              go_wp2_with (at_builtin; refine wpList_append_own2 rfl _ _ 37 rfl W.heap.size 3 i3 (.int .i64 0) 1 8 Try.underlying37 hi3 hz3 hs3 hb3 rfl (by decide) u6 s _ rfl (World.ownsRow.alloc hown _) ⟨W6.heap.size, 0, none⟩ 1 1 [.int .i64 (ik : Int)] rfl rfl (cells_new _ #[.int .i64 (ik : Int)] _) (one_int _) (by unfold maxLen; omega) (by omega) (by simp; omega) ?_; intro v6 w6 hown6 hg6 hb6)
              go_roundw
              case rel =>
                have e := ints_snoc (stN g ls) s
                rw [HST.out] at e
                rw [e] at hown6
                have h1 := (hO6.trans (alloc_ext _ _)).app 0 rfl hg6 hown6 hb6
                exact ⟨s + 1, by go_num, by omega, h1.ext, h1⟩
              case measure => simp [intOf]; omega
        · have hzI : ¬ (z : Int) < 200 := by omega
          have HST : Hid (stN g ls s = -1) := by
            show _ = _
            unfold stN
            rw [if_neg (fun h => ?_)]
            rw [hzg] at h; exact hz h.2
          clear hz hzg hsl
          have hown : W3.ownsRow W.heap.size 3 1 u6 s (((List.range s).map (stN g ls)).map (.int .i64)) := hO.get 0 rfl
          have hszx := hO.ext.size
          go_wp2_with (at_builtin; refine wpList_append_own2 rfl _ _ 37 rfl W.heap.size 3 i3 (.int .i64 0) 1 8 Try.underlying37 hi3 hz3 hs3 hb3 rfl (by decide) u6 s _ rfl (World.ownsRow.alloc hown _) ⟨W3.heap.size, 0, none⟩ 1 1 [.int .i64 (-1)] rfl rfl (cells_new _ #[.int .i64 (-1)] _) (one_int _) (by unfold maxLen; omega) (by omega) (by simp; omega) ?_; intro v6 w6 hown6 hg6 hb6)
          go_roundw
          case rel =>
            have e := ints_snoc (stN g ls) s
            rw [HST.out] at e
            rw [e] at hown6
            have h1 := (hO.trans (alloc_ext _ _)).app 0 rfl hg6 hown6 hb6
            exact ⟨s + 1, by go_num, by omega, h1.ext, h1⟩
          case measure => simp [intOf]; omega
      · have hllI : ¬ (s : Int) < (ll : Int) := by omega
        have HST : Hid (stN g ls s = -1) := by
          show _ = _
          unfold stN
          rw [if_neg (fun h => ?_)]
          have := HLL.out; omega
        have hown : W3.ownsRow W.heap.size 3 1 u6 s (((List.range s).map (stN g ls)).map (.int .i64)) := hO.get 0 rfl
        have hszx := hO.ext.size
        go_wp2_with (at_builtin; refine wpList_append_own2 rfl _ _ 37 rfl W.heap.size 3 i3 (.int .i64 0) 1 8 Try.underlying37 hi3 hz3 hs3 hb3 rfl (by decide) u6 s _ rfl (World.ownsRow.alloc hown _) ⟨W3.heap.size, 0, none⟩ 1 1 [.int .i64 (-1)] rfl rfl (cells_new _ #[.int .i64 (-1)] _) (one_int _) (by unfold maxLen; omega) (by omega) (by simp; omega) ?_; intro v6 w6 hown6 hg6 hb6)
        go_roundw
        case rel =>
          have e := ints_snoc (stN g ls) s
          rw [HST.out] at e
          rw [e] at hown6
          have h1 := (hO.trans (alloc_ext _ _)).app 0 rfl hg6 hown6 hb6
          exact ⟨s + 1, by go_num, by omega, h1.ext, h1⟩
        case measure => simp [intOf]; omega
    · have hse : s = n := by omega
      subst hse
      have hnI : ¬ (s : Int) < (s : Int) := by omega
      have hst : (List.range s).map (stN g ls) = stL g ls := by unfold stL; rw [← HF.out.2.1]
      have hrow : W3.ownsRow W.heap.size 3 1 u6 s (((List.range s).map (stN g ls)).map (.int .i64)) := hO.get 0 rfl
      rw [hst] at hrow
      have hsl : (stL g ls).length = s := by rw [← hst]; simp
      obtain ⟨cst, hic⟩ := ints_of_owns' hrow hsl (by unfold lenMax; omega)
      obtain ⟨Ast, hsv, hct, hcl, hcm⟩ := id hic
      rw [hsl] at hsv
      subst hsv
      have HIC : Hid (IntsC W3 (.slice Ast s cst) (stL g ls) cst) := hic
      have HSL := Lib.hid hsl
      clear hO hrow hst hic hct hcl hcm hsl
      have hav : avRes g (stL g ls) = ((comesL (folL g (stL g ls)) g.set).1, (comesL (folL g (stL g ls)) g.set).2, 0) := by
        unfold avRes
        rw [fine_check HF.out.1, stL_ok HF.out.1, if_neg (by decide), if_neg (by decide)]
      have hcm : ∀ (w' : World) (mv sv : Value) (cset : Nat), MachV w' mv (fM g (stL g ls)) → BoolsC w' sv g.set cset → Calls Try.prog 23 #[mv, sv] w' fun e w'' => (∃ v c, e = .returned (.tuple #[.int .i64 (if (comesL (folL g (stL g ls)) g.set).1 then 0 else 1), v]) ∧ IntsC w'' v (comesL (folL g (stL g ls)) g.set).2 c) ∧ Ext w' w'' := fun w' mv sv cset hm hs => by
        have h := refComes_any w' mv sv (fM g (stL g ls)) hm (fM_valid HF.out.1 _) g.set cset hs (by rw [HF.out.1.2.2]; simp [fM])
        rw [toL_fM] at h
        exact h
      obtain ⟨R, hR⟩ : ∃ R, R = (rankG (fM g (stL g ls)) (List.replicate s false) g.set).getD 0 0 := ⟨_, rfl⟩
      have hat : atRes g (stL g ls) = (R != -1, 0) := by
        unfold atRes
        rw [fine_check HF.out.1, stL_ok HF.out.1, if_neg (by decide), if_neg (by decide), wins_rank HF.out.1 (stL g ls) (n := s), ← hR]
      have hfol := fun (w' : World) (h : Ext W w') (hi : IntsC w' (.slice Ast s cst) (stL g ls) cst) => refFollow_any w' _ _ g (hG w' h) HF.out.1 (stL g ls) cst hi (by rw [HSL.out, ← HF.out.2.1])
      have hML : (fM g (stL g ls)).rows.length = s := by simp [fM]; exact HF.out.2.1.symm
      have HFM := Lib.hid (And.intro (fM_valid HF.out.1 (stL g ls)) (And.intro hML hR))
      generalize fM g (stL g ls) = fm at *
      generalize comesL (folL g (stL g ls)) g.set = CC at *
      obtain ⟨pb, pw⟩ := CC
      have hpI : pb = true ∨ pb = false := by cases pb <;> simp
      have hav : avRes g (stL g ls) = (pb, pw, 0) := hav
      have HAV := Lib.hid (And.intro hav (And.intro hat hcm))
      have hs1 : 0 < s := by omega
      have hs100 : s ≤ 1000 := by omega
      have hmk := mk_bools s hs100
      have HMK := Lib.hid hmk
      clear hav hat hcm hML hR hmk hpI
      cases pb with
      | true =>
        go_upto_region 13 with (go_at_call 20; refine (CheckAvoid_eq _ _ _ g (hG _ hE) _ _ HIC.out _ _ _ HAV.out.1 pw.length rfl).mono ?_; rintro e Wa ⟨Sa, rfl, fa, ea⟩)
        have hEa := hE.trans ea
        have hia := IntsC.ext HIC.out ea
        go_upto_region 14 with (go_at_call 22; refine (hfol _ hEa hia).mono ?_; rintro e Wf ⟨⟨mvv, rfl, hmv⟩, ef⟩; obtain ⟨rvv, crv, rfl, hrows⟩ := id hmv; obtain ⟨Arv, vrv, rfl, hrr⟩ := hrows; clear hrr)
        rw [HFM.out.2.1] at hmv ⊢
        refine wp_named ?_
        intro Wg hWg
        have eg : Ext Wf Wg := by rw [hWg]; exact alloc_ext _ _
        have m0 : ∀ w', Ext Wg w' → w'.cell? ⟨Wf.heap.size, 0, none⟩ = some (.int .i64 fm.ins) := fun w' h => h.cell (by rw [hWg]; simp [go_sem])
        have m1 : ∀ w', Ext Wg w' → w'.cell? ⟨Wf.heap.size, 1, none⟩ = some (.int .i64 fm.outs) := fun w' h => h.cell (by rw [hWg]; simp [go_sem])
        have m2 : ∀ w', Ext Wg w' → w'.cell? ⟨Wf.heap.size, 2, none⟩ = some (.slice Arv s crv) := fun w' h => h.cell (by rw [hWg]; simp [go_sem])
        have hMV : ∀ w', Ext Wg w' → MachV w' (.agg #[.int .i64 fm.ins, .int .i64 fm.outs, .slice Arv s crv]) fm := fun w' h => hmv.ext (eg.trans h)
        generalize Wf.heap.size = N12 at *
        have hEg := (hEa.trans ef).trans eg
        have fa := IntsC.ext fa (ef.trans eg)
        have hia := IntsC.ext hia (ef.trans eg)
        have hG2 := fun w' (h : Ext Wg w') => hG w' (hEg.trans h)
        have q0 := fun w' (h : Ext Wg w') => q0 w' (hEg.trans h)
        have q1 := fun w' (h : Ext Wg w') => q1 w' (hEg.trans h)
        have q2 := fun w' (h : Ext Wg w') => q2 w' (hEg.trans h)
        have q3 := fun w' (h : Ext Wg w') => q3 w' (hEg.trans h)
        have q4 := fun w' (h : Ext Wg w') => q4 w' (hEg.trans h)
        have HEG := Lib.hid (HEW.out.trans hEg)
        clear hWg hmv ef eg hEa ea hE hEg hG
        have hgg := Ext.refl Wg
        obtain ⟨d1, hd1⟩ := (hG2 Wg hgg).mach.2.2
        have hco := HAV.out.2.2 Wg _ _ d1 (hMV Wg hgg) hd1
        have hco : Calls Try.prog 23 #[.agg #[.int .i64 fm.ins, .int .i64 fm.outs, .slice Arv s crv], .slice As s cs] Wg fun e w'' => (∃ v c, e = .returned (.tuple #[.int .i64 0, v]) ∧ IntsC w'' v pw c) ∧ Ext Wg w'' := hco
        clear hd1
        go_upto_region 15 with (go_at_call 23; refine hco.mono ?_; rintro e Wh ⟨⟨vv, cv, rfl, hiv⟩, eh⟩; obtain ⟨Avv, rfl, hrr⟩ := id hiv; clear hrr)
        clear hco
        have fa := IntsC.ext fa eh
        have hia := IntsC.ext hia eh
        clear hgg
        go_upto_region 17 with (go_at_call 13; refine (list_one Wh _ _ _ cv fa hiv).mono ?_; rintro e Wi ⟨rfl, ei⟩)
        have eI := eh.trans ei
        have hia := IntsC.ext hia ei
        clear eh ei fa hiv
        go_upto_region 18 with (go_at_call 21; refine (CheckAttack_eq _ _ _ g (hG2 _ eI) _ _ hia _ _ HAV.out.2.1).mono ?_; rintro e Wj ⟨rfl, ej⟩)
        have eJ := eI.trans ej
        clear eI ej hia
        have hmk := HMK.out
        have hMj := fun w' (h : Ext Wj w') => hMV w' (eJ.trans h)
        have hGj := fun w' (h : Ext Wj w') => hG2 w' (eJ.trans h)
        have q0 := fun w' (h : Ext Wj w') => q0 w' (eJ.trans h)
        have q1 := fun w' (h : Ext Wj w') => q1 w' (eJ.trans h)
        have q2 := fun w' (h : Ext Wj w') => q2 w' (eJ.trans h)
        have q3 := fun w' (h : Ext Wj w') => q3 w' (eJ.trans h)
        have q4 := fun w' (h : Ext Wj w') => q4 w' (eJ.trans h)
        have m0 := fun w' (h : Ext Wj w') => m0 w' (eJ.trans h)
        have m1 := fun w' (h : Ext Wj w') => m1 w' (eJ.trans h)
        have m2 := fun w' (h : Ext Wj w') => m2 w' (eJ.trans h)
        have HEJ := Lib.hid (HEG.out.trans eJ)
        clear hMV hG2 eJ
        have jr := Ext.refl Wj
        have eM : Ext Wj ((Wj.alloc (.cells (Array.replicate s (.bool false)) 4)).drew) := (jr.alloc _).drew
        go_region_held3 (fun w' => Ext Wj w') ((first | exact jr.drew | exact (jr.alloc _).drew | exact (jr.drew).alloc _ | exact eK))
          ((go_at_call 14; refine (force_any _ _ _ _ fm (hMj _ eM) HFM.out.1 (List.replicate s false) g.set s _ (bools_made (W := Wj) rfl hs100) (hGj _ eM).mach.2.2.choose_spec (by rw [List.length_replicate]; exact HFM.out.2.1.symm) (by rw [HF.out.2.2.2]; exact HFM.out.2.1.symm)).mono ?_; rintro e Wk ⟨⟨vk, ck, rfl, hik⟩, eK⟩; obtain ⟨bk, ok, ck2, rfl, dk⟩ := IntsC.head hik (by rw [rankG_len]; exact HFM.out.2.1) hs1; rw [← HFM.out.2.2] at dk; have eK := eM.trans eK))
        go_upto_region 19 with fail
        have hqq : ((R != -1) == (R != -1)) = true := by simp
        have HFIN := Lib.hid (HEJ.out.trans eK)
        clear hik eK jr hMj hGj q0 q1 q2 q3 q4 m0 m1 m2
        go_wp2_with (go_at_call 15; refine (lives_any _).mono ?_; rintro e wz ⟨rfl, ez⟩)
        go_ret
        exact ⟨rfl, HFIN.out.trans ez⟩
      | false =>
        go_upto_region 13 with (go_at_call 20; refine (CheckAvoid_eq _ _ _ g (hG _ hE) _ _ HIC.out _ _ _ HAV.out.1 pw.length rfl).mono ?_; rintro e Wa ⟨Sa, rfl, fa, ea⟩)
        have hEa := hE.trans ea
        have hia := IntsC.ext HIC.out ea
        go_upto_region 14 with (go_at_call 22; refine (hfol _ hEa hia).mono ?_; rintro e Wf ⟨⟨mvv, rfl, hmv⟩, ef⟩; obtain ⟨rvv, crv, rfl, hrows⟩ := id hmv; obtain ⟨Arv, vrv, rfl, hrr⟩ := hrows; clear hrr)
        rw [HFM.out.2.1] at hmv ⊢
        refine wp_named ?_
        intro Wg hWg
        have eg : Ext Wf Wg := by rw [hWg]; exact alloc_ext _ _
        have m0 : ∀ w', Ext Wg w' → w'.cell? ⟨Wf.heap.size, 0, none⟩ = some (.int .i64 fm.ins) := fun w' h => h.cell (by rw [hWg]; simp [go_sem])
        have m1 : ∀ w', Ext Wg w' → w'.cell? ⟨Wf.heap.size, 1, none⟩ = some (.int .i64 fm.outs) := fun w' h => h.cell (by rw [hWg]; simp [go_sem])
        have m2 : ∀ w', Ext Wg w' → w'.cell? ⟨Wf.heap.size, 2, none⟩ = some (.slice Arv s crv) := fun w' h => h.cell (by rw [hWg]; simp [go_sem])
        have hMV : ∀ w', Ext Wg w' → MachV w' (.agg #[.int .i64 fm.ins, .int .i64 fm.outs, .slice Arv s crv]) fm := fun w' h => hmv.ext (eg.trans h)
        generalize Wf.heap.size = N12 at *
        have hEg := (hEa.trans ef).trans eg
        have fa := IntsC.ext fa (ef.trans eg)
        have hia := IntsC.ext hia (ef.trans eg)
        have hG2 := fun w' (h : Ext Wg w') => hG w' (hEg.trans h)
        have q0 := fun w' (h : Ext Wg w') => q0 w' (hEg.trans h)
        have q1 := fun w' (h : Ext Wg w') => q1 w' (hEg.trans h)
        have q2 := fun w' (h : Ext Wg w') => q2 w' (hEg.trans h)
        have q3 := fun w' (h : Ext Wg w') => q3 w' (hEg.trans h)
        have q4 := fun w' (h : Ext Wg w') => q4 w' (hEg.trans h)
        have HEG := Lib.hid (HEW.out.trans hEg)
        clear hWg hmv ef eg hEa ea hE hEg hG
        have hgg := Ext.refl Wg
        obtain ⟨d1, hd1⟩ := (hG2 Wg hgg).mach.2.2
        have hco := HAV.out.2.2 Wg _ _ d1 (hMV Wg hgg) hd1
        have hco : Calls Try.prog 23 #[.agg #[.int .i64 fm.ins, .int .i64 fm.outs, .slice Arv s crv], .slice As s cs] Wg fun e w'' => (∃ v c, e = .returned (.tuple #[.int .i64 1, v]) ∧ IntsC w'' v pw c) ∧ Ext Wg w'' := hco
        clear hd1
        go_upto_region 15 with (go_at_call 23; refine hco.mono ?_; rintro e Wh ⟨⟨vv, cv, rfl, hiv⟩, eh⟩; obtain ⟨Avv, rfl, hrr⟩ := id hiv; clear hrr)
        clear hco
        have fa := IntsC.ext fa eh
        have hia := IntsC.ext hia eh
        clear hgg
        go_upto_region 17 with (go_at_call 13; refine (list_one Wh _ _ _ cv fa hiv).mono ?_; rintro e Wi ⟨rfl, ei⟩)
        have eI := eh.trans ei
        have hia := IntsC.ext hia ei
        clear eh ei fa hiv
        go_upto_region 18 with (go_at_call 21; refine (CheckAttack_eq _ _ _ g (hG2 _ eI) _ _ hia _ _ HAV.out.2.1).mono ?_; rintro e Wj ⟨rfl, ej⟩)
        have eJ := eI.trans ej
        clear eI ej hia
        have hmk := HMK.out
        have hMj := fun w' (h : Ext Wj w') => hMV w' (eJ.trans h)
        have hGj := fun w' (h : Ext Wj w') => hG2 w' (eJ.trans h)
        have q0 := fun w' (h : Ext Wj w') => q0 w' (eJ.trans h)
        have q1 := fun w' (h : Ext Wj w') => q1 w' (eJ.trans h)
        have q2 := fun w' (h : Ext Wj w') => q2 w' (eJ.trans h)
        have q3 := fun w' (h : Ext Wj w') => q3 w' (eJ.trans h)
        have q4 := fun w' (h : Ext Wj w') => q4 w' (eJ.trans h)
        have m0 := fun w' (h : Ext Wj w') => m0 w' (eJ.trans h)
        have m1 := fun w' (h : Ext Wj w') => m1 w' (eJ.trans h)
        have m2 := fun w' (h : Ext Wj w') => m2 w' (eJ.trans h)
        have HEJ := Lib.hid (HEG.out.trans eJ)
        clear hMV hG2 eJ
        have jr := Ext.refl Wj
        have eM : Ext Wj ((Wj.alloc (.cells (Array.replicate s (.bool false)) 4)).drew) := (jr.alloc _).drew
        go_region_held3 (fun w' => Ext Wj w') ((first | exact jr.drew | exact (jr.alloc _).drew | exact (jr.drew).alloc _ | exact eK))
          ((go_at_call 14; refine (force_any _ _ _ _ fm (hMj _ eM) HFM.out.1 (List.replicate s false) g.set s _ (bools_made (W := Wj) rfl hs100) (hGj _ eM).mach.2.2.choose_spec (by rw [List.length_replicate]; exact HFM.out.2.1.symm) (by rw [HF.out.2.2.2]; exact HFM.out.2.1.symm)).mono ?_; rintro e Wk ⟨⟨vk, ck, rfl, hik⟩, eK⟩; obtain ⟨bk, ok, ck2, rfl, dk⟩ := IntsC.head hik (by rw [rankG_len]; exact HFM.out.2.1) hs1; rw [← HFM.out.2.2] at dk; have eK := eM.trans eK))
        go_upto_region 19 with fail
        have hqq : ((R != -1) == (R != -1)) = true := by simp
        have HFIN := Lib.hid (HEJ.out.trans eK)
        clear hik eK jr hMj hGj q0 q1 q2 q3 q4 m0 m1 m2
        go_wp2_with (go_at_call 15; refine (lives_any _).mono ?_; rintro e wz ⟨rfl, ez⟩)
        go_ret
        exact ⟨rfl, HFIN.out.trans ez⟩
#print axioms GamesCheck_any
end Go.Proofs.Yteadkafeabhhhaa
