/- gauntletlaw32.GamesKnown 8: the walk. -/
import Derived.Test.YteadkafeabhhhaaH4
import Derived.Test.YteadkafeabhhhaaL7
import Derived.Test.YteadkafeabhhhaaK8
import Derived.Test.YteadkafeabhhhaaF2
namespace Go.Proofs.Yteadkafeabhhhaa
open Go.RowKit
set_option linter.unusedVariables false
set_option linter.unusedSimpArgs false
attribute [local go_sem] Oper.quietV quietV Oper.gives givesV ext_refl_iff ext_alloc_iff ext_drew_iff ext_drewN_iff
theorem fit_cell {w : World} {A : Option Addr} {n : Nat} {xs : List Int} (h : FitC w (.slice A n n) xs) (hx : 0 < xs.length) : ∃ b o, A = some ⟨b, o, none⟩ ∧ ∀ (k : Nat) (x : Int), xs[k]? = some x → w.cell? ⟨b, o + k, none⟩ = some (.int .i64 x) := by
  obtain ⟨A', hv, hc, _, _⟩ := h
  injection hv with h1
  subst h1
  obtain ⟨b, o, hA, _, hz⟩ := hc (by simpa using hx)
  exact ⟨b, o, hA, fun k x hk => hz k _ (by rw [List.getElem?_map, hk]; rfl)⟩
theorem ch_game {w W : World} {Ar : Option Addr} {cr go co gs cs N : Nat} {vs : List Value} {os : List Bool} (h : OwnL w W [.rows 53 52 2 (.slice Ar 64 cr) vs ((List.range 64).map (fun j => eRow (chR j))), .row 4 1 (.slice (some ⟨go, 0, none⟩) 64 co) 64 (os.map .bool), .row 4 1 (.slice (some ⟨gs, 0, none⟩) 64 cs) 64 (chS.map .bool), .blk N (.cells #[.int .i64 2, .int .i64 1, .slice Ar 64 cr, .slice (some ⟨go, 0, none⟩) 64 co, .slice (some ⟨gs, 0, none⟩) 64 cs] 32)]) (ho : os.length = 64) :
    GameV W (.agg #[.int .i64 2, .int .i64 1, .slice Ar 64 cr, .slice (some ⟨go, 0, none⟩) 64 co, .slice (some ⟨gs, 0, none⟩) 64 cs]) ⟨chM, os, chS⟩ := by
  obtain ⟨c2, h2⟩ := bools_of_owns (h.get 1 rfl) ho (by unfold lenMax; omega)
  obtain ⟨c3, h3⟩ := bools_of_owns (h.get 2 rfl) (show chS.length = 64 by decide) (by unfold lenMax; omega)
  refine ⟨_, cr, _, c2, _, c3, rfl, rowsC_of_own (B := w.heap.size) (vs := vs) (rows := chM.rows) ?_ (by decide) (by omega) (fun r hr => ?_), h2, h3⟩
  · have e : chM.rows.map eRow = (List.range 64).map (fun j => eRow (chR j)) := by unfold chM; simp only; rw [List.map_map]; rfl
    rw [e]; exact h.get 0 rfl
  · obtain ⟨j, _, rfl⟩ := List.mem_map.1 hr
    unfold chR; simp
theorem ch_ranks (w : World) (gv : Value) (hg : GameV w gv chG) : Calls Try.prog 11 #[gv] w fun e w' => ∃ b o, e = .returned (.tuple #[.slice (some ⟨b, o, none⟩) 64 64, .int .i64 0]) ∧ w'.cell? ⟨b, o, none⟩ = some (.int .i64 63) ∧ w'.cell? ⟨b, o + 62, none⟩ = some (.int .i64 1) ∧ Ext w w' :=
  (Ranks_ok w gv chG hg ch_check (by decide) _ (show rankG chG.m chG.ours chG.set = _ from rank1) 64 (by simp)).mono fun e w' ⟨A, he, hf, hx⟩ => by
    obtain ⟨b, o, rfl, hc⟩ := fit_cell hf (by simp)
    exact ⟨b, o, he, hc 0 63 (by decide +kernel), hc 62 1 (by decide +kernel), hx⟩
theorem ch_ranks3 (w : World) (gv : Value) (hg : GameV w gv ⟨chM, chO2, chS⟩) : Calls Try.prog 11 #[gv] w fun e w' => ∃ b o, e = .returned (.tuple #[.slice (some ⟨b, o, none⟩) 64 64, .int .i64 0]) ∧ w'.cell? ⟨b, o, none⟩ = some (.int .i64 (-1)) ∧ w'.cell? ⟨b, o + 41, none⟩ = some (.int .i64 22) ∧ Ext w w' :=
  (Ranks_ok w gv ⟨chM, chO2, chS⟩ hg ch_check2 (by decide) _ rank3 64 (by simp)).mono fun e w' ⟨A, he, hf, hx⟩ => by
    obtain ⟨b, o, rfl, hc⟩ := fit_cell hf (by simp)
    exact ⟨b, o, he, hc 0 (-1) (by decide +kernel), hc 41 22 (by decide +kernel), hx⟩
theorem ch_att (w : World) (gv : Value) (hg : GameV w gv chG) : Calls Try.prog 17 #[gv] w fun e w' => ∃ b o, e = .returned (.tuple #[.slice (some ⟨b, o, none⟩) 64 64, .int .i64 0]) ∧ FitC w' (.slice (some ⟨b, o, none⟩) 64 64) chA ∧ w'.cell? ⟨b, o, none⟩ = some (.int .i64 1) ∧ w'.cell? ⟨b, o + 62, none⟩ = some (.int .i64 1) ∧ w'.cell? ⟨b, o + 63, none⟩ = some (.int .i64 (-1)) ∧ Ext w w' :=
  (Attack_ok w gv chG hg ch_check _ ch_attack (by decide) 64 (by decide)).mono fun e w' ⟨A, he, hf, hx⟩ => by
    obtain ⟨b, o, rfl, hc⟩ := fit_cell hf (by decide)
    exact ⟨b, o, he, hf, hc 0 1 (by decide +kernel), hc 62 1 (by decide +kernel), hc 63 (-1) (by decide +kernel), hx⟩
theorem ch_av (w : World) (gv : Value) (hg : GameV w gv chG) : Calls Try.prog 16 #[gv] w fun e w' => ∃ b o, e = .returned (.tuple #[.slice (some ⟨b, o, none⟩) 64 64, .int .i64 0]) ∧ w'.cell? ⟨b, o, none⟩ = some (.int .i64 0) ∧ w'.cell? ⟨b, o + 62, none⟩ = some (.int .i64 0) ∧ w'.cell? ⟨b, o + 63, none⟩ = some (.int .i64 (-1)) ∧ Ext w w' :=
  (Avoid_ok w gv chG hg ch_check _ ch_avoid (by decide) 64 (by decide)).mono fun e w' ⟨A, he, hf, hx⟩ => by
    obtain ⟨b, o, rfl, hc⟩ := fit_cell hf (by decide)
    exact ⟨b, o, he, hc 0 0 (by decide +kernel), hc 62 0 (by decide +kernel), hc 63 (-1) (by decide +kernel), hx⟩
theorem ch_cav (w : World) (gv lv : Value) (hg : GameV w gv chG) (hl : FitC w lv chA) : Calls Try.prog 20 #[gv, lv] w fun e w' => ∃ A, e = .returned (.tuple #[.bool false, .slice A 63 63, .int .i64 0]) ∧ Ext w w' :=
  (CheckAvoid_eq w gv lv chG hg chA _ hl false (comesL (folL chG chA) chS).2 0 (by unfold avRes; rw [ch_check, ch_strat, if_neg (by decide), if_neg (by decide), show chG.set = chS from rfl, ch_comes.1]) 63 ch_comes.2).mono fun e w' ⟨A, he, _, hx⟩ => ⟨A, he, hx⟩
theorem ch_cat (w : World) (gv lv : Value) (hg : GameV w gv chG) (hl : FitC w lv chA) : Calls Try.prog 21 #[gv, lv] w fun e w' => e = .returned (.tuple #[.bool true, .int .i64 0]) ∧ Ext w w' :=
  CheckAttack_eq w gv lv chG hg chA _ hl true 0 (by unfold atRes; rw [ch_check, ch_strat, if_neg (by decide), if_neg (by decide), show chG.set = chS from rfl, ch_wins])
def endM : Mach := ⟨1, 1, [[(-1, -1)]]⟩
def endG (b : Bool) : Game := ⟨endM, [false], [b]⟩
theorem end_c (b : Bool) : checkG (endG b) = 0 := by cases b <;> decide +kernel
theorem end_s0 : safeG (endG false) = [true] := by decide +kernel
theorem end_s1 : safeG (endG true) = [false] := by decide +kernel
theorem end_r0 : rankG (endG false).m (endG false).ours (endG false).set = [-1] := by decide +kernel
theorem end_r1 : rankG (endG true).m (endG true).ours (endG true).set = [0] := by decide +kernel
theorem end_a1 : avRes (endG true) [-1] = (false, [], 0) := by decide +kernel
theorem ints_new1 (W : World) (a : Int) (t : TypeId) : FitC (W.alloc (.cells #[.int .i64 a] t)) (.slice (some ⟨W.heap.size, 0, none⟩) 1 1) [a] := ints_blk (heap_alloc_new W _) rfl rfl (by omega)
theorem bools_new1 (W : World) (a : Bool) (t n : Nat) (hn : n = W.heap.size) : BoolsC (W.alloc (.cells #[.bool a] t)) (.slice (some ⟨n, 0, none⟩) 1 1) [a] 1 := by subst hn; exact bools_blk (heap_alloc_new W _) rfl rfl (by omega)
theorem gameV_nil (W : World) : GameV W (.agg #[.int .i64 0, .int .i64 0, .slice none 0 0, .slice none 0 0, .slice none 0 0]) ⟨⟨0, 0, []⟩, [], []⟩ :=
  ⟨_, 0, _, 0, _, 0, rfl, rows_nil W, ⟨none, rfl, Cells.nil _ _, Nat.le_refl _, by unfold lenMax; simp⟩, ⟨none, rfl, Cells.nil _ _, Nat.le_refl _, by unfold lenMax; simp⟩⟩
theorem bools_nil (W : World) : BoolsC W (.slice none 0 0) [] 0 := ⟨none, rfl, Cells.nil _ _, Nat.le_refl _, by unfold lenMax; simp⟩
def endL (B : Nat) (b : Bool) : List Asn := [.blk (B + 1 + 1 + 1 + 1) (.cells #[.int .i64 1, .int .i64 1, .slice (some ⟨B + 1, 0, none⟩) 1 1, .slice (some ⟨B + 1 + 1, 0, none⟩) 1 1, .slice (some ⟨B + 1 + 1 + 1, 0, none⟩) 1 1] 32), .blk (B + 1 + 1 + 1) (.cells #[.bool b] 4), .blk (B + 1 + 1) (.cells #[.bool false] 4), .blk (B + 1) (.cells #[.slice (some ⟨B, 0, none⟩) 1 1] 53), .blk B (.cells #[.int .i64 (-1), .int .i64 (-1)] 52)]
theorem end_game {w W : World} {B : Nat} {b : Bool} (h : OwnL w W (endL B b)) : GameV W (.agg #[.int .i64 1, .int .i64 1, .slice (some ⟨B + 1, 0, none⟩) 1 1, .slice (some ⟨B + 1 + 1, 0, none⟩) 1 1, .slice (some ⟨B + 1 + 1 + 1, 0, none⟩) 1 1]) (endG b) := by
  refine ⟨_, 1, _, 1, _, 1, rfl, rows_blk (h.get 3 rfl).2 rfl rfl (by omega) (fun i u es hu hes => ?_), bools_blk (xs := [false]) (h.get 2 rfl).2 rfl rfl (by omega), bools_blk (xs := [b]) (h.get 1 rfl).2 rfl rfl (by omega)⟩
  match i, hu, hes with
  | 0, hu, hes => cases hu; cases hes; exact ⟨1, _, rfl, cells_blk (h.get 4 rfl).2, Nat.le_refl _, by unfold lenMax; simp⟩
  | n + 1, hu, hes => simp at hu
theorem snoc_true (s : Nat) : ((List.range s).map (fun _ => true)).map Value.bool ++ [.bool true] = ((List.range (s + 1)).map (fun _ => true)).map .bool := by simp [List.range_succ]
theorem int63 (s : Nat) : ((s : Int) == 63) = (s == 63) := by
  by_cases h : s = 63
  · subst h; rfl
  · have h1 : ((s : Int) == 63) = false := by simp; omega
    have h2 : (s == 63) = false := by simpa using h
    rw [h1, h2]
theorem snoc_63 (s : Nat) : ((List.range s).map (fun j => j == 63)).map Value.bool ++ [.bool ((s : Int) == 63)] = ((List.range (s + 1)).map (fun j => j == 63)).map .bool := by rw [int63]; simp [List.range_succ]
set_option maxRecDepth 100000 in
set_option maxHeartbeats 8000000 in
theorem GamesKnown_any (w : World) : Calls Try.prog 8 #[] w fun e w' => e = .returned (.bool true) ∧ Ext w w' := by
  obtain ⟨i4, hi4, hz4, hs4, hb4⟩ := info_parts bool_info
  obtain ⟨i52, hi52, hz52, hs52, hb52⟩ := info_parts edge_info
  obtain ⟨i53, hi53, hz53, hs53, hb53⟩ := info_parts slices_info
  go_enter Try.func8, Try.ntmps8
  go_upto_region 2 with fail
  refine wp_named ?_
  intro W1 hW1
  have hO : ∃ N, N = w.heap.size ∧ OwnL w W1 [.rows 53 52 2 (.slice none 0 0) [] ((List.range 0).map (fun j => eRow (chR j))), .row 4 1 (.slice none 0 0) 0 (((List.range 0).map (fun _ => true)).map .bool), .row 4 1 (.slice none 0 0) 0 (((List.range 0).map (fun j => j == 63)).map .bool), .blk N (.cells #[.int .i64 2, .int .i64 1, (.slice none 0 0), (.slice none 0 0), (.slice none 0 0)] 32)] := by
    refine ⟨w.heap.size, rfl, ?_⟩
    rw [hW1]
    refine ((((OwnL.nil (Ext.refl w)).add (alloc_ext _ _) (A := .blk w.heap.size (.cells #[.int .i64 2, .int .i64 1, .slice none 0 0, .slice none 0 0, .slice none 0 0] 32)) ⟨Nat.le_refl _, heap_alloc_new _ _⟩).add (Ext.refl _) (A := .row 4 1 (.slice none 0 0) 0 []) (World.ownsRow_nil _ _ _ _)).add (Ext.refl _) (A := .row 4 1 (.slice none 0 0) 0 []) (World.ownsRow_nil _ _ _ _)).add (Ext.refl _) (A := .rows 53 52 2 (.slice none 0 0) [] []) ⟨World.ownsRow_nil _ _ _ _, rfl, fun j u r hj _ => by simp at hj, fun i j u u' hi _ _ => by simp at hi, fun j u hj => by simp at hj⟩
  obtain ⟨N, hN, hO⟩ := hO
  rw [← hN]
  clear hW1 hN
  go_upto_block 0 with fail
  go_cut [] (fun wx => ∃ (Ar : Option Addr) (cr : Nat) (vs : List Value) (go co gs cs : Nat), OwnL w wx [.rows 53 52 2 (.slice Ar 64 cr) vs ((List.range 64).map (fun j => eRow (chR j))), .row 4 1 (.slice (some ⟨go, 0, none⟩) 64 co) 64 (((List.range 64).map (fun _ => true)).map .bool), .row 4 1 (.slice (some ⟨gs, 0, none⟩) 64 cs) 64 (((List.range 64).map (fun j => j == 63)).map .bool), .blk N (.cells #[.int .i64 2, .int .i64 1, (.slice Ar 64 cr), (.slice (some ⟨go, 0, none⟩) 64 co), (.slice (some ⟨gs, 0, none⟩) 64 cs)] 32)])
  case first =>
    --[f
    go_wp2
    go_loopw [2] (fun i wr => ∃ (s : Nat) (rv : Value) (vs : List Value) (ov sv : Value), i = .int .i64 s ∧ s ≤ 64 ∧ OwnL w wr [.rows 53 52 2 rv vs ((List.range s).map (fun j => eRow (chR j))), .row 4 1 ov s (((List.range s).map (fun _ => true)).map .bool), .row 4 1 sv s (((List.range s).map (fun j => j == 63)).map .bool), .blk N (.cells #[.int .i64 2, .int .i64 1, rv, ov, sv] 32)]) (fun i _ => 64 - (intOf i).toNat)
    case atStart => exact ⟨0, _, _, _, _, rfl, by omega, hO⟩
    case round =>
      clear hO
      obtain ⟨s, rv, vs, ov, sv, rfl, hs, hO⟩ := hrel
      obtain ⟨W3, hW3⟩ : ∃ W, W = wr := ⟨_, rfl⟩; subst hW3
      by_cases hlt : s < 64
      · have hltI : (s : Int) < 64 := by omega
        have hOR : OwnRows W3 w.heap.size 53 52 2 rv vs ((List.range s).map (fun j => eRow (chR j))) := hO.get 0 rfl
        have hvl : vs.length = s := by have := hOR.len; simpa using this
        have HVL := Lib.hid hvl
        have hown := hOR.own
        rw [hvl] at hown
        have b2 := cell_of_blk (hO.get 3 rfl).2 2 (u := rv) rfl
        have hszb := hO.ext.size
        obtain ⟨Arv, crv, rfl, _, _⟩ := cells_of_owns hown
        have HO := Lib.hid hO
        clear hOR hvl hO
        have hw1 : IntKind.i64.wrap ((s : Int) + 1) = (s : Int) + 1 := IntWalk.i64_in _ ⟨by omega, by omega⟩
        by_cases h62 : s < 63
        · skip
          --[b1
          have hmi : ¬ (63 : Int) < (s : Int) + 1 := by omega
          go_upto_region 6 with (at_builtin; refine wpList_append_own2 rfl _ _ 27 rfl w.heap.size 53 i53 (.slice none 0 0) 1 24 Try.underlying27 hi53 hz53 hs53 hb53 rfl (by decide) (.slice Arv s crv) s vs rfl (World.ownsRow.alloc (World.ownsRow.alloc hown _) _) ⟨W3.heap.size + 1, 0, none⟩ 1 1 [.slice (some ⟨W3.heap.size, 0, none⟩) 2 2] rfl rfl (new_cell _ _ _ _ (by simp)) (one_slice _ _ _) (by unfold maxLen; omega) (by omega) (by simp; omega) ?_; intro v6 w6 hown6 hg6 hb6; obtain ⟨g6, c6, rfl⟩ := ownsRow_pos hown6 (by omega); have hp := ((HO.out.add (alloc_ext _ _) (A := .row 52 2 (.slice (some ⟨W3.heap.size, 0, none⟩) 2 2) 2 [.int .i64 0, .int .i64 0, .int .i64 ((s : Int) + 1), .int .i64 0]) (World.ownsRow_lit (base := W3.heap.size) (e := 52) (size := 2) W3 #[.int .i64 0, .int .i64 0, .int .i64 ((s : Int) + 1), .int .i64 0] 2 (Nat.le_refl _) (by unfold maxLen; omega) rfl)).trans (alloc_ext _ _)).push hg6 (by rw [HVL.out]; exact hown6) hb6; have p2 := cell_of_blk (hp.get 3 rfl).2 2 (u := .slice Arv s crv) rfl; have pf := free_of_blk (hp.get 3 rfl).2 2)
          refine wp_named ?_
          intro W4 hW4
          have h5 := hp.put 3 rfl 2 (.slice (some ⟨g6, 0, none⟩) (s + 1) c6)
          rw [← hW4] at h5
          have hrs : ((List.range s).map (fun j => eRow (chR j))) ++ [(2, [Value.int .i64 0, .int .i64 0, .int .i64 ((s : Int) + 1), .int .i64 0])] = (List.range (s + 1)).map (fun j => eRow (chR j)) := by
            rw [List.range_succ, List.map_append]
            show _ = _ ++ [eRow (chR s)]
            have hmi : (((min (s + 1) 63 : Nat) : Int)) = ((s : Int) + 1) := by omega
            unfold chR
            rw [hmi]; rfl
          rw [hrs] at h5
          have hO4 : OwnL w W4 [.rows 53 52 2 (.slice (some ⟨g6, 0, none⟩) (s + 1) c6) (vs ++ [Value.slice (some ⟨W3.heap.size, 0, none⟩) 2 2]) ((List.range (s + 1)).map (fun j => eRow (chR j))), .row 4 1 ov s (((List.range s).map (fun _ => true)).map .bool), .row 4 1 sv s (((List.range s).map (fun j => j == 63)).map .bool), .blk N (.cells #[.int .i64 2, .int .i64 1, .slice (some ⟨g6, 0, none⟩) (s + 1) c6, ov, sv] 32)] := h5
          clear hW4 h5 hp p2 pf hown6 hg6 hb6 b2 hown HO hrs HVL hszb
          have x3 := cell_of_blk (hO4.get 3 rfl).2 3 (u := ov) rfl
          have x4 := cell_of_blk (hO4.get 3 rfl).2 4 (u := sv) rfl
          have ho1 : ∀ w', Ext W4 w' → w'.ownsRow w.heap.size 4 1 ov s (((List.range s).map (fun _ => true)).map .bool) := fun w' h => (hO4.trans h).get 1 rfl
          have hszb := hO4.ext.size
          have hsI : (s : Int) < 64 := by omega
          refine wp_region_bar 11 (Sg w N ov sv) (by kernel_rfl) ?_
          have hS0 : Sg w N ov sv W4.drew := ⟨hO4.ext.drew, (Ext.refl W4).drew.cell x3, (Ext.refl W4).drew.cell x4⟩
          refine wpAnyB_take (i := 0) (v := ?_) rfl (by kernel_rfl) (by kernel_rfl) (by kernel_rfl) (by kernel_rfl) (fun _ _ _ h => h) (Or.inl ⟨by rfl, ?_⟩) hS0 ?_
          rotate_left
          · (intro w hSw; obtain ⟨s1, s2, s3⟩ := hSw; go_simp; first | done | with_reducible rfl)
          try simp only [Act.put, List.setIfInBounds_toArray, List.set_cons_zero, List.set_cons_succ]
          refine wpAnyB_take (i := 1) (v := ?_) rfl (by kernel_rfl) (by kernel_rfl) (by kernel_rfl) (by kernel_rfl) (fun _ _ _ h => h) (Or.inl ⟨by rfl, ?_⟩) hS0 ?_
          rotate_left
          · (intro w hSw; obtain ⟨s1, s2, s3⟩ := hSw; go_simp; first | done | with_reducible rfl)
          try simp only [Act.put, List.setIfInBounds_toArray, List.set_cons_zero, List.set_cons_succ]
          refine wpAnyB_take (i := 4) (v := ?_) rfl (by kernel_rfl) (by kernel_rfl) (by kernel_rfl) (by kernel_rfl) (fun _ _ _ h => h) (Or.inl ⟨by rfl, ?_⟩) hS0 ?_
          rotate_left
          · (intro w hSw; obtain ⟨s1, s2, s3⟩ := hSw; go_simp; first | done | with_reducible rfl)
          try simp only [Act.put, List.setIfInBounds_toArray, List.set_cons_zero, List.set_cons_succ]
          refine wpAnyB_take (i := 5) (v := ?_) rfl (by kernel_rfl) (by kernel_rfl) (by kernel_rfl) (by kernel_rfl) (fun _ _ _ h => h) (Or.inl ⟨by rfl, ?_⟩) hS0 ?_
          rotate_left
          · (intro w hSw; obtain ⟨s1, s2, s3⟩ := hSw; go_simp; first | done | with_reducible rfl)
          try simp only [Act.put, List.setIfInBounds_toArray, List.set_cons_zero, List.set_cons_succ]
          refine wpAnyB_take (i := 6) (v := ?_) rfl (by kernel_rfl) (by kernel_rfl) (by kernel_rfl) (by kernel_rfl) (fun _ _ _ h => h) (Or.inl ⟨by rfl, ?_⟩) hS0 ?_
          rotate_left
          · (intro w hSw; obtain ⟨s1, s2, s3⟩ := hSw; go_simp; first | done | with_reducible rfl)
          try simp only [Act.put, List.setIfInBounds_toArray, List.set_cons_zero, List.set_cons_succ]
          refine wpAnyB_take (i := 7) (v := ?_) rfl (by kernel_rfl) (by kernel_rfl) (by kernel_rfl) (by kernel_rfl) (fun _ _ _ h => h) (Or.inl ⟨by rfl, ?_⟩) hS0 ?_
          rotate_left
          · (intro w hSw; obtain ⟨s1, s2, s3⟩ := hSw; go_simp; first | done | with_reducible rfl)
          try simp only [Act.put, List.setIfInBounds_toArray, List.set_cons_zero, List.set_cons_succ]
          refine wpAnyB_ready (rs := [2, 8]) (by kernel_rfl) (by simp) (AllB.cons rfl (fun K hK => ?_) (AllB.cons rfl (fun K hK => ?_) AllB.nil))
          · skip
            go_simp
            refine hK.out _ _ (Sg.ext hS0 (alloc_ext _ _)) ?_
            clear hK K
            try simp only [Act.put, List.setIfInBounds_toArray, List.set_cons_zero, List.set_cons_succ]
            refine wpAnyB_ready (rs := [3, 8]) (by kernel_rfl) (by simp) (AllB.cons rfl (fun K hK => ?_) (AllB.cons rfl (fun K hK => ?_) AllB.nil))
            · skip
              refine step_append_own2 rfl _ _ 30 rfl w.heap.size 4 i4 (.bool false) 1 1 Try.underlying30 hi4 hz4 hs4 hb4 rfl (by decide) ov s _ (by rfl) (ho1 _ (by repeat (first | exact Ext.refl _ | refine Ext.drew ?_ | refine Ext.alloc ?_ _))) ⟨_, 0, none⟩ 1 1 [.bool _] (by rfl) rfl (new_cell _ _ _ _ (by simp)) (one_bool _) (by unfold maxLen; omega) (by omega) (by simp; omega) ?_
              intro v7 w7 hown7 hg7 hb7
              obtain ⟨g7, c7, rfl⟩ := ownsRow_pos hown7 (by omega)
              have hO7 := (hO4.trans (by repeat (first | exact Ext.refl _ | refine Ext.drew ?_ | refine Ext.alloc ?_ _))).app 1 rfl hg7 hown7 hb7
              have hkp := fun (a : Addr) (u : Value) (hb : W4.heap.size ≤ a.block) hc => hg7.cell (a := a) (v := u) hc (own_far (ho1 W4 (Ext.refl _)) hb)
              have hS2 : Sg w N ov sv w7 := ⟨hO7.ext, cell_of_blk (hO7.get 3 rfl).2 3 (u := ov) rfl, cell_of_blk (hO7.get 3 rfl).2 4 (u := sv) rfl⟩
              refine hK.out _ _ hS2 ?_
              clear hK K hg7 hb7 hown7
              try simp only [Act.put, List.setIfInBounds_toArray, List.set_cons_zero, List.set_cons_succ]
              refine wpAnyB_take (i := 10) (v := ?_) rfl (by kernel_rfl) (by kernel_rfl) (by kernel_rfl) (by kernel_rfl) (fun _ _ _ h => h) (Or.inl ⟨by rfl, ?_⟩) hS2 ?_
              rotate_left
              · (intro w hSw; obtain ⟨s1, s2, s3⟩ := hSw; go_simp; first | done | with_reducible rfl)
              try simp only [Act.put, List.setIfInBounds_toArray, List.set_cons_zero, List.set_cons_succ]
              refine wpAnyB_ready (rs := [8]) (by kernel_rfl) (by simp) (AllB.cons rfl (fun K hK => ?_) AllB.nil)
              go_simp
              refine hK.out _ _ (Sg.ext hS2 (alloc_ext _ _)) ?_
              clear hK K
              try simp only [Act.put, List.setIfInBounds_toArray, List.set_cons_zero, List.set_cons_succ]
              refine wpAnyB_ready (rs := [9]) (by kernel_rfl) (by simp) (AllB.cons rfl (fun K hK => ?_) AllB.nil)
              refine step_append_own2 rfl _ _ 30 rfl w.heap.size 4 i4 (.bool false) 1 1 Try.underlying30 hi4 hz4 hs4 hb4 rfl (by decide) sv s _ (by rfl) ((hO7.trans (by repeat (first | exact Ext.refl _ | refine Ext.drew ?_ | refine Ext.alloc ?_ _))).get 2 rfl) ⟨_, 0, none⟩ 1 1 [.bool _] (by rfl) rfl (new_cell _ _ _ _ (by simp)) (one_bool _) (by unfold maxLen; omega) (by omega) (by have := hO7.ext.size; simp; omega) ?_
              intro v8 w8 hown8 hg8 hb8
              obtain ⟨g8, c8, rfl⟩ := ownsRow_pos hown8 (by omega)
              have hO9 := (hO7.trans (by repeat (first | exact Ext.refl _ | refine Ext.drew ?_ | refine Ext.alloc ?_ _))).app 2 rfl hg8 hown8 hb8
              have hS4 : Sg w N ov sv w8 := ⟨hO9.ext, cell_of_blk (hO9.get 3 rfl).2 3 (u := ov) rfl, cell_of_blk (hO9.get 3 rfl).2 4 (u := sv) rfl⟩
              refine hK.out _ _ hS4 ?_
              clear hK K hg8 hb8 hown8
              try simp only [Act.put, List.setIfInBounds_toArray, List.set_cons_zero, List.set_cons_succ]
              refine wpAnyB_tail rfl rfl (by decide) (by kernel_rfl) ?_
              have y3 := cell_of_blk (hO9.get 3 rfl).2 3 (u := ov) rfl
              have y4 := cell_of_blk (hO9.get 3 rfl).2 4 (u := sv) rfl
              have f9 := free_of_blk (hO9.get 3 rfl).2
              have hOx := (hO9.put 3 rfl 3 (.slice (some ⟨g7, 0, none⟩) (s + 1) c7)).put 3 rfl 4 (.slice (some ⟨g8, 0, none⟩) (s + 1) c8)
              have HOX := Lib.hid hOx
              clear hOx hO9 hO7 hkp
              go_wp2
              go_roundw
              case rel =>
                have h8 := HOX.out
                rw [snoc_true] at h8
                rw [snoc_63] at h8
                exact ⟨s + 1, _, _, _, _, by go_num, by omega, h8⟩
              case measure => simp [intOf]; omega
            · skip
              go_simp
              refine hK.out _ _ (Sg.ext (Sg.ext hS0 (alloc_ext _ _)) (alloc_ext _ _)) ?_
              clear hK K
              try simp only [Act.put, List.setIfInBounds_toArray, List.set_cons_zero, List.set_cons_succ]
              refine wpAnyB_ready (rs := [3]) (by kernel_rfl) (by simp) (AllB.cons rfl (fun K hK => ?_) AllB.nil)
              refine step_append_own2 rfl _ _ 30 rfl w.heap.size 4 i4 (.bool false) 1 1 Try.underlying30 hi4 hz4 hs4 hb4 rfl (by decide) ov s _ (by rfl) (ho1 _ (by repeat (first | exact Ext.refl _ | refine Ext.drew ?_ | refine Ext.alloc ?_ _))) ⟨_, 0, none⟩ 1 1 [.bool _] (by rfl) rfl (fun j u h => (alloc_ext _ _).cell (new_cell _ _ _ _ (by simp) j u h)) (one_bool _) (by unfold maxLen; omega) (by omega) (by simp; omega) ?_
              intro v7 w7 hown7 hg7 hb7
              obtain ⟨g7, c7, rfl⟩ := ownsRow_pos hown7 (by omega)
              have hO7 := (hO4.trans (by repeat (first | exact Ext.refl _ | refine Ext.drew ?_ | refine Ext.alloc ?_ _))).app 1 rfl hg7 hown7 hb7
              have hkp := fun (a : Addr) (u : Value) (hb : W4.heap.size ≤ a.block) hc => hg7.cell (a := a) (v := u) hc (own_far (ho1 W4 (Ext.refl _)) hb)
              have hS3 : Sg w N ov sv w7 := ⟨hO7.ext, cell_of_blk (hO7.get 3 rfl).2 3 (u := ov) rfl, cell_of_blk (hO7.get 3 rfl).2 4 (u := sv) rfl⟩
              refine hK.out _ _ hS3 ?_
              clear hK K hg7 hb7 hown7
              try simp only [Act.put, List.setIfInBounds_toArray, List.set_cons_zero, List.set_cons_succ]
              refine wpAnyB_take (i := 10) (v := ?_) rfl (by kernel_rfl) (by kernel_rfl) (by kernel_rfl) (by kernel_rfl) (fun _ _ _ h => h) (Or.inl ⟨by rfl, ?_⟩) hS3 ?_
              rotate_left
              · (intro w hSw; obtain ⟨s1, s2, s3⟩ := hSw; go_simp; first | done | with_reducible rfl)
              try simp only [Act.put, List.setIfInBounds_toArray, List.set_cons_zero, List.set_cons_succ]
              refine wpAnyB_ready (rs := [9]) (by kernel_rfl) (by simp) (AllB.cons rfl (fun K hK => ?_) AllB.nil)
              refine step_append_own2 rfl _ _ 30 rfl w.heap.size 4 i4 (.bool false) 1 1 Try.underlying30 hi4 hz4 hs4 hb4 rfl (by decide) sv s _ (by rfl) ((hO7.trans (by repeat (first | exact Ext.refl _ | refine Ext.drew ?_ | refine Ext.alloc ?_ _))).get 2 rfl) ⟨_, 0, none⟩ 1 1 [.bool _] (by rfl) rfl (fun j u h => hkp _ _ (by rw [Addr.add_lit]; simp) (new_cell _ _ _ _ (by simp) j u h)) (one_bool _) (by unfold maxLen; omega) (by omega) (by have := hO7.ext.size; simp; omega) ?_
              intro v8 w8 hown8 hg8 hb8
              obtain ⟨g8, c8, rfl⟩ := ownsRow_pos hown8 (by omega)
              have hO9 := (hO7.trans (by repeat (first | exact Ext.refl _ | refine Ext.drew ?_ | refine Ext.alloc ?_ _))).app 2 rfl hg8 hown8 hb8
              have hS4 : Sg w N ov sv w8 := ⟨hO9.ext, cell_of_blk (hO9.get 3 rfl).2 3 (u := ov) rfl, cell_of_blk (hO9.get 3 rfl).2 4 (u := sv) rfl⟩
              refine hK.out _ _ hS4 ?_
              clear hK K hg8 hb8 hown8
              try simp only [Act.put, List.setIfInBounds_toArray, List.set_cons_zero, List.set_cons_succ]
              refine wpAnyB_tail rfl rfl (by decide) (by kernel_rfl) ?_
              have y3 := cell_of_blk (hO9.get 3 rfl).2 3 (u := ov) rfl
              have y4 := cell_of_blk (hO9.get 3 rfl).2 4 (u := sv) rfl
              have f9 := free_of_blk (hO9.get 3 rfl).2
              have hOx := (hO9.put 3 rfl 3 (.slice (some ⟨g7, 0, none⟩) (s + 1) c7)).put 3 rfl 4 (.slice (some ⟨g8, 0, none⟩) (s + 1) c8)
              have HOX := Lib.hid hOx
              clear hOx hO9 hO7 hkp
              go_wp2
              go_roundw
              case rel =>
                have h8 := HOX.out
                rw [snoc_true] at h8
                rw [snoc_63] at h8
                exact ⟨s + 1, _, _, _, _, by go_num, by omega, h8⟩
              case measure => simp [intOf]; omega
          · skip
            go_simp
            refine hK.out _ _ (Sg.ext hS0 (alloc_ext _ _)) ?_
            clear hK K
            try simp only [Act.put, List.setIfInBounds_toArray, List.set_cons_zero, List.set_cons_succ]
            refine wpAnyB_ready (rs := [2]) (by kernel_rfl) (by simp) (AllB.cons rfl (fun K hK => ?_) AllB.nil)
            go_simp
            refine hK.out _ _ (Sg.ext (Sg.ext hS0 (alloc_ext _ _)) (alloc_ext _ _)) ?_
            clear hK K
            try simp only [Act.put, List.setIfInBounds_toArray, List.set_cons_zero, List.set_cons_succ]
            refine wpAnyB_ready (rs := [3]) (by kernel_rfl) (by simp) (AllB.cons rfl (fun K hK => ?_) AllB.nil)
            refine step_append_own2 rfl _ _ 30 rfl w.heap.size 4 i4 (.bool false) 1 1 Try.underlying30 hi4 hz4 hs4 hb4 rfl (by decide) ov s _ (by rfl) (ho1 _ (by repeat (first | exact Ext.refl _ | refine Ext.drew ?_ | refine Ext.alloc ?_ _))) ⟨_, 0, none⟩ 1 1 [.bool _] (by rfl) rfl (new_cell _ _ _ _ (by simp)) (one_bool _) (by unfold maxLen; omega) (by omega) (by simp; omega) ?_
            intro v7 w7 hown7 hg7 hb7
            obtain ⟨g7, c7, rfl⟩ := ownsRow_pos hown7 (by omega)
            have hO7 := (hO4.trans (by repeat (first | exact Ext.refl _ | refine Ext.drew ?_ | refine Ext.alloc ?_ _))).app 1 rfl hg7 hown7 hb7
            have hkp := fun (a : Addr) (u : Value) (hb : W4.heap.size ≤ a.block) hc => hg7.cell (a := a) (v := u) hc (own_far (ho1 W4 (Ext.refl _)) hb)
            have hS3 : Sg w N ov sv w7 := ⟨hO7.ext, cell_of_blk (hO7.get 3 rfl).2 3 (u := ov) rfl, cell_of_blk (hO7.get 3 rfl).2 4 (u := sv) rfl⟩
            refine hK.out _ _ hS3 ?_
            clear hK K hg7 hb7 hown7
            try simp only [Act.put, List.setIfInBounds_toArray, List.set_cons_zero, List.set_cons_succ]
            refine wpAnyB_take (i := 10) (v := ?_) rfl (by kernel_rfl) (by kernel_rfl) (by kernel_rfl) (by kernel_rfl) (fun _ _ _ h => h) (Or.inl ⟨by rfl, ?_⟩) hS3 ?_
            rotate_left
            · (intro w hSw; obtain ⟨s1, s2, s3⟩ := hSw; go_simp; first | done | with_reducible rfl)
            try simp only [Act.put, List.setIfInBounds_toArray, List.set_cons_zero, List.set_cons_succ]
            refine wpAnyB_ready (rs := [9]) (by kernel_rfl) (by simp) (AllB.cons rfl (fun K hK => ?_) AllB.nil)
            refine step_append_own2 rfl _ _ 30 rfl w.heap.size 4 i4 (.bool false) 1 1 Try.underlying30 hi4 hz4 hs4 hb4 rfl (by decide) sv s _ (by rfl) ((hO7.trans (by repeat (first | exact Ext.refl _ | refine Ext.drew ?_ | refine Ext.alloc ?_ _))).get 2 rfl) ⟨_, 0, none⟩ 1 1 [.bool _] (by rfl) rfl (fun j u h => hkp _ _ (by rw [Addr.add_lit]; simp) ((alloc_ext _ _).cell (new_cell _ _ _ _ (by simp) j u h))) (one_bool _) (by unfold maxLen; omega) (by omega) (by have := hO7.ext.size; simp; omega) ?_
            intro v8 w8 hown8 hg8 hb8
            obtain ⟨g8, c8, rfl⟩ := ownsRow_pos hown8 (by omega)
            have hO9 := (hO7.trans (by repeat (first | exact Ext.refl _ | refine Ext.drew ?_ | refine Ext.alloc ?_ _))).app 2 rfl hg8 hown8 hb8
            have hS4 : Sg w N ov sv w8 := ⟨hO9.ext, cell_of_blk (hO9.get 3 rfl).2 3 (u := ov) rfl, cell_of_blk (hO9.get 3 rfl).2 4 (u := sv) rfl⟩
            refine hK.out _ _ hS4 ?_
            clear hK K hg8 hb8 hown8
            try simp only [Act.put, List.setIfInBounds_toArray, List.set_cons_zero, List.set_cons_succ]
            refine wpAnyB_tail rfl rfl (by decide) (by kernel_rfl) ?_
            have y3 := cell_of_blk (hO9.get 3 rfl).2 3 (u := ov) rfl
            have y4 := cell_of_blk (hO9.get 3 rfl).2 4 (u := sv) rfl
            have f9 := free_of_blk (hO9.get 3 rfl).2
            have hOx := (hO9.put 3 rfl 3 (.slice (some ⟨g7, 0, none⟩) (s + 1) c7)).put 3 rfl 4 (.slice (some ⟨g8, 0, none⟩) (s + 1) c8)
            have HOX := Lib.hid hOx
            clear hOx hO9 hO7 hkp
            go_wp2
            go_roundw
            case rel =>
              have h8 := HOX.out
              rw [snoc_true] at h8
              rw [snoc_63] at h8
              exact ⟨s + 1, _, _, _, _, by go_num, by omega, h8⟩
            case measure => simp [intOf]; omega
          --]b1
        · skip
          --[b2
          have hmi : (63 : Int) < (s : Int) + 1 := by omega
          go_upto_region 6 with (at_builtin; refine wpList_append_own2 rfl _ _ 27 rfl w.heap.size 53 i53 (.slice none 0 0) 1 24 Try.underlying27 hi53 hz53 hs53 hb53 rfl (by decide) (.slice Arv s crv) s vs rfl (World.ownsRow.alloc (World.ownsRow.alloc hown _) _) ⟨W3.heap.size + 1, 0, none⟩ 1 1 [.slice (some ⟨W3.heap.size, 0, none⟩) 2 2] rfl rfl (new_cell _ _ _ _ (by simp)) (one_slice _ _ _) (by unfold maxLen; omega) (by omega) (by simp; omega) ?_; intro v6 w6 hown6 hg6 hb6; obtain ⟨g6, c6, rfl⟩ := ownsRow_pos hown6 (by omega); have hp := ((HO.out.add (alloc_ext _ _) (A := .row 52 2 (.slice (some ⟨W3.heap.size, 0, none⟩) 2 2) 2 [.int .i64 0, .int .i64 0, .int .i64 63, .int .i64 0]) (World.ownsRow_lit (base := W3.heap.size) (e := 52) (size := 2) W3 #[.int .i64 0, .int .i64 0, .int .i64 63, .int .i64 0] 2 (Nat.le_refl _) (by unfold maxLen; omega) rfl)).trans (alloc_ext _ _)).push hg6 (by rw [HVL.out]; exact hown6) hb6; have p2 := cell_of_blk (hp.get 3 rfl).2 2 (u := .slice Arv s crv) rfl; have pf := free_of_blk (hp.get 3 rfl).2 2)
          refine wp_named ?_
          intro W4 hW4
          have h5 := hp.put 3 rfl 2 (.slice (some ⟨g6, 0, none⟩) (s + 1) c6)
          rw [← hW4] at h5
          have hrs : ((List.range s).map (fun j => eRow (chR j))) ++ [(2, [Value.int .i64 0, .int .i64 0, .int .i64 63, .int .i64 0])] = (List.range (s + 1)).map (fun j => eRow (chR j)) := by
            rw [List.range_succ, List.map_append]
            show _ = _ ++ [eRow (chR s)]
            have hmi : (((min (s + 1) 63 : Nat) : Int)) = 63 := by omega
            unfold chR
            rw [hmi]; rfl
          rw [hrs] at h5
          have hO4 : OwnL w W4 [.rows 53 52 2 (.slice (some ⟨g6, 0, none⟩) (s + 1) c6) (vs ++ [Value.slice (some ⟨W3.heap.size, 0, none⟩) 2 2]) ((List.range (s + 1)).map (fun j => eRow (chR j))), .row 4 1 ov s (((List.range s).map (fun _ => true)).map .bool), .row 4 1 sv s (((List.range s).map (fun j => j == 63)).map .bool), .blk N (.cells #[.int .i64 2, .int .i64 1, .slice (some ⟨g6, 0, none⟩) (s + 1) c6, ov, sv] 32)] := h5
          clear hW4 h5 hp p2 pf hown6 hg6 hb6 b2 hown HO hrs HVL hszb
          have x3 := cell_of_blk (hO4.get 3 rfl).2 3 (u := ov) rfl
          have x4 := cell_of_blk (hO4.get 3 rfl).2 4 (u := sv) rfl
          have ho1 : ∀ w', Ext W4 w' → w'.ownsRow w.heap.size 4 1 ov s (((List.range s).map (fun _ => true)).map .bool) := fun w' h => (hO4.trans h).get 1 rfl
          have hszb := hO4.ext.size
          have hsI : (s : Int) < 64 := by omega
          refine wp_region_bar 11 (Sg w N ov sv) (by kernel_rfl) ?_
          have hS0 : Sg w N ov sv W4.drew := ⟨hO4.ext.drew, (Ext.refl W4).drew.cell x3, (Ext.refl W4).drew.cell x4⟩
          refine wpAnyB_take (i := 0) (v := ?_) rfl (by kernel_rfl) (by kernel_rfl) (by kernel_rfl) (by kernel_rfl) (fun _ _ _ h => h) (Or.inl ⟨by rfl, ?_⟩) hS0 ?_
          rotate_left
          · (intro w hSw; obtain ⟨s1, s2, s3⟩ := hSw; go_simp; first | done | with_reducible rfl)
          try simp only [Act.put, List.setIfInBounds_toArray, List.set_cons_zero, List.set_cons_succ]
          refine wpAnyB_take (i := 1) (v := ?_) rfl (by kernel_rfl) (by kernel_rfl) (by kernel_rfl) (by kernel_rfl) (fun _ _ _ h => h) (Or.inl ⟨by rfl, ?_⟩) hS0 ?_
          rotate_left
          · (intro w hSw; obtain ⟨s1, s2, s3⟩ := hSw; go_simp; first | done | with_reducible rfl)
          try simp only [Act.put, List.setIfInBounds_toArray, List.set_cons_zero, List.set_cons_succ]
          refine wpAnyB_take (i := 4) (v := ?_) rfl (by kernel_rfl) (by kernel_rfl) (by kernel_rfl) (by kernel_rfl) (fun _ _ _ h => h) (Or.inl ⟨by rfl, ?_⟩) hS0 ?_
          rotate_left
          · (intro w hSw; obtain ⟨s1, s2, s3⟩ := hSw; go_simp; first | done | with_reducible rfl)
          try simp only [Act.put, List.setIfInBounds_toArray, List.set_cons_zero, List.set_cons_succ]
          refine wpAnyB_take (i := 5) (v := ?_) rfl (by kernel_rfl) (by kernel_rfl) (by kernel_rfl) (by kernel_rfl) (fun _ _ _ h => h) (Or.inl ⟨by rfl, ?_⟩) hS0 ?_
          rotate_left
          · (intro w hSw; obtain ⟨s1, s2, s3⟩ := hSw; go_simp; first | done | with_reducible rfl)
          try simp only [Act.put, List.setIfInBounds_toArray, List.set_cons_zero, List.set_cons_succ]
          refine wpAnyB_take (i := 6) (v := ?_) rfl (by kernel_rfl) (by kernel_rfl) (by kernel_rfl) (by kernel_rfl) (fun _ _ _ h => h) (Or.inl ⟨by rfl, ?_⟩) hS0 ?_
          rotate_left
          · (intro w hSw; obtain ⟨s1, s2, s3⟩ := hSw; go_simp; first | done | with_reducible rfl)
          try simp only [Act.put, List.setIfInBounds_toArray, List.set_cons_zero, List.set_cons_succ]
          refine wpAnyB_take (i := 7) (v := ?_) rfl (by kernel_rfl) (by kernel_rfl) (by kernel_rfl) (by kernel_rfl) (fun _ _ _ h => h) (Or.inl ⟨by rfl, ?_⟩) hS0 ?_
          rotate_left
          · (intro w hSw; obtain ⟨s1, s2, s3⟩ := hSw; go_simp; first | done | with_reducible rfl)
          try simp only [Act.put, List.setIfInBounds_toArray, List.set_cons_zero, List.set_cons_succ]
          refine wpAnyB_ready (rs := [2, 8]) (by kernel_rfl) (by simp) (AllB.cons rfl (fun K hK => ?_) (AllB.cons rfl (fun K hK => ?_) AllB.nil))
          · skip
            go_simp
            refine hK.out _ _ (Sg.ext hS0 (alloc_ext _ _)) ?_
            clear hK K
            try simp only [Act.put, List.setIfInBounds_toArray, List.set_cons_zero, List.set_cons_succ]
            refine wpAnyB_ready (rs := [3, 8]) (by kernel_rfl) (by simp) (AllB.cons rfl (fun K hK => ?_) (AllB.cons rfl (fun K hK => ?_) AllB.nil))
            · skip
              refine step_append_own2 rfl _ _ 30 rfl w.heap.size 4 i4 (.bool false) 1 1 Try.underlying30 hi4 hz4 hs4 hb4 rfl (by decide) ov s _ (by rfl) (ho1 _ (by repeat (first | exact Ext.refl _ | refine Ext.drew ?_ | refine Ext.alloc ?_ _))) ⟨_, 0, none⟩ 1 1 [.bool _] (by rfl) rfl (new_cell _ _ _ _ (by simp)) (one_bool _) (by unfold maxLen; omega) (by omega) (by simp; omega) ?_
              intro v7 w7 hown7 hg7 hb7
              obtain ⟨g7, c7, rfl⟩ := ownsRow_pos hown7 (by omega)
              have hO7 := (hO4.trans (by repeat (first | exact Ext.refl _ | refine Ext.drew ?_ | refine Ext.alloc ?_ _))).app 1 rfl hg7 hown7 hb7
              have hkp := fun (a : Addr) (u : Value) (hb : W4.heap.size ≤ a.block) hc => hg7.cell (a := a) (v := u) hc (own_far (ho1 W4 (Ext.refl _)) hb)
              have hS2 : Sg w N ov sv w7 := ⟨hO7.ext, cell_of_blk (hO7.get 3 rfl).2 3 (u := ov) rfl, cell_of_blk (hO7.get 3 rfl).2 4 (u := sv) rfl⟩
              refine hK.out _ _ hS2 ?_
              clear hK K hg7 hb7 hown7
              try simp only [Act.put, List.setIfInBounds_toArray, List.set_cons_zero, List.set_cons_succ]
              refine wpAnyB_take (i := 10) (v := ?_) rfl (by kernel_rfl) (by kernel_rfl) (by kernel_rfl) (by kernel_rfl) (fun _ _ _ h => h) (Or.inl ⟨by rfl, ?_⟩) hS2 ?_
              rotate_left
              · (intro w hSw; obtain ⟨s1, s2, s3⟩ := hSw; go_simp; first | done | with_reducible rfl)
              try simp only [Act.put, List.setIfInBounds_toArray, List.set_cons_zero, List.set_cons_succ]
              refine wpAnyB_ready (rs := [8]) (by kernel_rfl) (by simp) (AllB.cons rfl (fun K hK => ?_) AllB.nil)
              go_simp
              refine hK.out _ _ (Sg.ext hS2 (alloc_ext _ _)) ?_
              clear hK K
              try simp only [Act.put, List.setIfInBounds_toArray, List.set_cons_zero, List.set_cons_succ]
              refine wpAnyB_ready (rs := [9]) (by kernel_rfl) (by simp) (AllB.cons rfl (fun K hK => ?_) AllB.nil)
              refine step_append_own2 rfl _ _ 30 rfl w.heap.size 4 i4 (.bool false) 1 1 Try.underlying30 hi4 hz4 hs4 hb4 rfl (by decide) sv s _ (by rfl) ((hO7.trans (by repeat (first | exact Ext.refl _ | refine Ext.drew ?_ | refine Ext.alloc ?_ _))).get 2 rfl) ⟨_, 0, none⟩ 1 1 [.bool _] (by rfl) rfl (new_cell _ _ _ _ (by simp)) (one_bool _) (by unfold maxLen; omega) (by omega) (by have := hO7.ext.size; simp; omega) ?_
              intro v8 w8 hown8 hg8 hb8
              obtain ⟨g8, c8, rfl⟩ := ownsRow_pos hown8 (by omega)
              have hO9 := (hO7.trans (by repeat (first | exact Ext.refl _ | refine Ext.drew ?_ | refine Ext.alloc ?_ _))).app 2 rfl hg8 hown8 hb8
              have hS4 : Sg w N ov sv w8 := ⟨hO9.ext, cell_of_blk (hO9.get 3 rfl).2 3 (u := ov) rfl, cell_of_blk (hO9.get 3 rfl).2 4 (u := sv) rfl⟩
              refine hK.out _ _ hS4 ?_
              clear hK K hg8 hb8 hown8
              try simp only [Act.put, List.setIfInBounds_toArray, List.set_cons_zero, List.set_cons_succ]
              refine wpAnyB_tail rfl rfl (by decide) (by kernel_rfl) ?_
              have y3 := cell_of_blk (hO9.get 3 rfl).2 3 (u := ov) rfl
              have y4 := cell_of_blk (hO9.get 3 rfl).2 4 (u := sv) rfl
              have f9 := free_of_blk (hO9.get 3 rfl).2
              have hOx := (hO9.put 3 rfl 3 (.slice (some ⟨g7, 0, none⟩) (s + 1) c7)).put 3 rfl 4 (.slice (some ⟨g8, 0, none⟩) (s + 1) c8)
              have HOX := Lib.hid hOx
              clear hOx hO9 hO7 hkp
              go_wp2
              go_roundw
              case rel =>
                have h8 := HOX.out
                rw [snoc_true] at h8
                rw [snoc_63] at h8
                exact ⟨s + 1, _, _, _, _, by go_num, by omega, h8⟩
              case measure => simp [intOf]; omega
            · skip
              go_simp
              refine hK.out _ _ (Sg.ext (Sg.ext hS0 (alloc_ext _ _)) (alloc_ext _ _)) ?_
              clear hK K
              try simp only [Act.put, List.setIfInBounds_toArray, List.set_cons_zero, List.set_cons_succ]
              refine wpAnyB_ready (rs := [3]) (by kernel_rfl) (by simp) (AllB.cons rfl (fun K hK => ?_) AllB.nil)
              refine step_append_own2 rfl _ _ 30 rfl w.heap.size 4 i4 (.bool false) 1 1 Try.underlying30 hi4 hz4 hs4 hb4 rfl (by decide) ov s _ (by rfl) (ho1 _ (by repeat (first | exact Ext.refl _ | refine Ext.drew ?_ | refine Ext.alloc ?_ _))) ⟨_, 0, none⟩ 1 1 [.bool _] (by rfl) rfl (fun j u h => (alloc_ext _ _).cell (new_cell _ _ _ _ (by simp) j u h)) (one_bool _) (by unfold maxLen; omega) (by omega) (by simp; omega) ?_
              intro v7 w7 hown7 hg7 hb7
              obtain ⟨g7, c7, rfl⟩ := ownsRow_pos hown7 (by omega)
              have hO7 := (hO4.trans (by repeat (first | exact Ext.refl _ | refine Ext.drew ?_ | refine Ext.alloc ?_ _))).app 1 rfl hg7 hown7 hb7
              have hkp := fun (a : Addr) (u : Value) (hb : W4.heap.size ≤ a.block) hc => hg7.cell (a := a) (v := u) hc (own_far (ho1 W4 (Ext.refl _)) hb)
              have hS3 : Sg w N ov sv w7 := ⟨hO7.ext, cell_of_blk (hO7.get 3 rfl).2 3 (u := ov) rfl, cell_of_blk (hO7.get 3 rfl).2 4 (u := sv) rfl⟩
              refine hK.out _ _ hS3 ?_
              clear hK K hg7 hb7 hown7
              try simp only [Act.put, List.setIfInBounds_toArray, List.set_cons_zero, List.set_cons_succ]
              refine wpAnyB_take (i := 10) (v := ?_) rfl (by kernel_rfl) (by kernel_rfl) (by kernel_rfl) (by kernel_rfl) (fun _ _ _ h => h) (Or.inl ⟨by rfl, ?_⟩) hS3 ?_
              rotate_left
              · (intro w hSw; obtain ⟨s1, s2, s3⟩ := hSw; go_simp; first | done | with_reducible rfl)
              try simp only [Act.put, List.setIfInBounds_toArray, List.set_cons_zero, List.set_cons_succ]
              refine wpAnyB_ready (rs := [9]) (by kernel_rfl) (by simp) (AllB.cons rfl (fun K hK => ?_) AllB.nil)
              refine step_append_own2 rfl _ _ 30 rfl w.heap.size 4 i4 (.bool false) 1 1 Try.underlying30 hi4 hz4 hs4 hb4 rfl (by decide) sv s _ (by rfl) ((hO7.trans (by repeat (first | exact Ext.refl _ | refine Ext.drew ?_ | refine Ext.alloc ?_ _))).get 2 rfl) ⟨_, 0, none⟩ 1 1 [.bool _] (by rfl) rfl (fun j u h => hkp _ _ (by rw [Addr.add_lit]; simp) (new_cell _ _ _ _ (by simp) j u h)) (one_bool _) (by unfold maxLen; omega) (by omega) (by have := hO7.ext.size; simp; omega) ?_
              intro v8 w8 hown8 hg8 hb8
              obtain ⟨g8, c8, rfl⟩ := ownsRow_pos hown8 (by omega)
              have hO9 := (hO7.trans (by repeat (first | exact Ext.refl _ | refine Ext.drew ?_ | refine Ext.alloc ?_ _))).app 2 rfl hg8 hown8 hb8
              have hS4 : Sg w N ov sv w8 := ⟨hO9.ext, cell_of_blk (hO9.get 3 rfl).2 3 (u := ov) rfl, cell_of_blk (hO9.get 3 rfl).2 4 (u := sv) rfl⟩
              refine hK.out _ _ hS4 ?_
              clear hK K hg8 hb8 hown8
              try simp only [Act.put, List.setIfInBounds_toArray, List.set_cons_zero, List.set_cons_succ]
              refine wpAnyB_tail rfl rfl (by decide) (by kernel_rfl) ?_
              have y3 := cell_of_blk (hO9.get 3 rfl).2 3 (u := ov) rfl
              have y4 := cell_of_blk (hO9.get 3 rfl).2 4 (u := sv) rfl
              have f9 := free_of_blk (hO9.get 3 rfl).2
              have hOx := (hO9.put 3 rfl 3 (.slice (some ⟨g7, 0, none⟩) (s + 1) c7)).put 3 rfl 4 (.slice (some ⟨g8, 0, none⟩) (s + 1) c8)
              have HOX := Lib.hid hOx
              clear hOx hO9 hO7 hkp
              go_wp2
              go_roundw
              case rel =>
                have h8 := HOX.out
                rw [snoc_true] at h8
                rw [snoc_63] at h8
                exact ⟨s + 1, _, _, _, _, by go_num, by omega, h8⟩
              case measure => simp [intOf]; omega
          · skip
            go_simp
            refine hK.out _ _ (Sg.ext hS0 (alloc_ext _ _)) ?_
            clear hK K
            try simp only [Act.put, List.setIfInBounds_toArray, List.set_cons_zero, List.set_cons_succ]
            refine wpAnyB_ready (rs := [2]) (by kernel_rfl) (by simp) (AllB.cons rfl (fun K hK => ?_) AllB.nil)
            go_simp
            refine hK.out _ _ (Sg.ext (Sg.ext hS0 (alloc_ext _ _)) (alloc_ext _ _)) ?_
            clear hK K
            try simp only [Act.put, List.setIfInBounds_toArray, List.set_cons_zero, List.set_cons_succ]
            refine wpAnyB_ready (rs := [3]) (by kernel_rfl) (by simp) (AllB.cons rfl (fun K hK => ?_) AllB.nil)
            refine step_append_own2 rfl _ _ 30 rfl w.heap.size 4 i4 (.bool false) 1 1 Try.underlying30 hi4 hz4 hs4 hb4 rfl (by decide) ov s _ (by rfl) (ho1 _ (by repeat (first | exact Ext.refl _ | refine Ext.drew ?_ | refine Ext.alloc ?_ _))) ⟨_, 0, none⟩ 1 1 [.bool _] (by rfl) rfl (new_cell _ _ _ _ (by simp)) (one_bool _) (by unfold maxLen; omega) (by omega) (by simp; omega) ?_
            intro v7 w7 hown7 hg7 hb7
            obtain ⟨g7, c7, rfl⟩ := ownsRow_pos hown7 (by omega)
            have hO7 := (hO4.trans (by repeat (first | exact Ext.refl _ | refine Ext.drew ?_ | refine Ext.alloc ?_ _))).app 1 rfl hg7 hown7 hb7
            have hkp := fun (a : Addr) (u : Value) (hb : W4.heap.size ≤ a.block) hc => hg7.cell (a := a) (v := u) hc (own_far (ho1 W4 (Ext.refl _)) hb)
            have hS3 : Sg w N ov sv w7 := ⟨hO7.ext, cell_of_blk (hO7.get 3 rfl).2 3 (u := ov) rfl, cell_of_blk (hO7.get 3 rfl).2 4 (u := sv) rfl⟩
            refine hK.out _ _ hS3 ?_
            clear hK K hg7 hb7 hown7
            try simp only [Act.put, List.setIfInBounds_toArray, List.set_cons_zero, List.set_cons_succ]
            refine wpAnyB_take (i := 10) (v := ?_) rfl (by kernel_rfl) (by kernel_rfl) (by kernel_rfl) (by kernel_rfl) (fun _ _ _ h => h) (Or.inl ⟨by rfl, ?_⟩) hS3 ?_
            rotate_left
            · (intro w hSw; obtain ⟨s1, s2, s3⟩ := hSw; go_simp; first | done | with_reducible rfl)
            try simp only [Act.put, List.setIfInBounds_toArray, List.set_cons_zero, List.set_cons_succ]
            refine wpAnyB_ready (rs := [9]) (by kernel_rfl) (by simp) (AllB.cons rfl (fun K hK => ?_) AllB.nil)
            refine step_append_own2 rfl _ _ 30 rfl w.heap.size 4 i4 (.bool false) 1 1 Try.underlying30 hi4 hz4 hs4 hb4 rfl (by decide) sv s _ (by rfl) ((hO7.trans (by repeat (first | exact Ext.refl _ | refine Ext.drew ?_ | refine Ext.alloc ?_ _))).get 2 rfl) ⟨_, 0, none⟩ 1 1 [.bool _] (by rfl) rfl (fun j u h => hkp _ _ (by rw [Addr.add_lit]; simp) ((alloc_ext _ _).cell (new_cell _ _ _ _ (by simp) j u h))) (one_bool _) (by unfold maxLen; omega) (by omega) (by have := hO7.ext.size; simp; omega) ?_
            intro v8 w8 hown8 hg8 hb8
            obtain ⟨g8, c8, rfl⟩ := ownsRow_pos hown8 (by omega)
            have hO9 := (hO7.trans (by repeat (first | exact Ext.refl _ | refine Ext.drew ?_ | refine Ext.alloc ?_ _))).app 2 rfl hg8 hown8 hb8
            have hS4 : Sg w N ov sv w8 := ⟨hO9.ext, cell_of_blk (hO9.get 3 rfl).2 3 (u := ov) rfl, cell_of_blk (hO9.get 3 rfl).2 4 (u := sv) rfl⟩
            refine hK.out _ _ hS4 ?_
            clear hK K hg8 hb8 hown8
            try simp only [Act.put, List.setIfInBounds_toArray, List.set_cons_zero, List.set_cons_succ]
            refine wpAnyB_tail rfl rfl (by decide) (by kernel_rfl) ?_
            have y3 := cell_of_blk (hO9.get 3 rfl).2 3 (u := ov) rfl
            have y4 := cell_of_blk (hO9.get 3 rfl).2 4 (u := sv) rfl
            have f9 := free_of_blk (hO9.get 3 rfl).2
            have hOx := (hO9.put 3 rfl 3 (.slice (some ⟨g7, 0, none⟩) (s + 1) c7)).put 3 rfl 4 (.slice (some ⟨g8, 0, none⟩) (s + 1) c8)
            have HOX := Lib.hid hOx
            clear hOx hO9 hO7 hkp
            go_wp2
            go_roundw
            case rel =>
              have h8 := HOX.out
              rw [snoc_true] at h8
              rw [snoc_63] at h8
              exact ⟨s + 1, _, _, _, _, by go_num, by omega, h8⟩
            case measure => simp [intOf]; omega
          --]b2
      · have hse : s = 64 := by omega
        subst hse
        obtain ⟨Arv, crv, rfl, _, _⟩ := cells_of_owns (hO.get 0 rfl : OwnRows W3 w.heap.size 53 52 2 rv vs ((List.range 64).map (fun j => eRow (chR j)))).own
        obtain ⟨g7, c7, rfl⟩ := ownsRow_pos (hO.get 1 rfl : W3.ownsRow w.heap.size 4 1 ov 64 (((List.range 64).map (fun _ => true)).map .bool)) (by omega)
        obtain ⟨g8, c8, rfl⟩ := ownsRow_pos (hO.get 2 rfl : W3.ownsRow w.heap.size 4 1 sv 64 (((List.range 64).map (fun j => j == 63)).map .bool)) (by omega)
        have hvl : vs.length = 64 := by have := (hO.get 0 rfl : OwnRows W3 w.heap.size 53 52 2 (.slice Arv vs.length crv) vs ((List.range 64).map (fun j => eRow (chR j)))).len; simpa using this
        rw [hvl] at hO
        have HO := Lib.hid hO
        clear hO hvl hlt hs
        go_wp2
        go_meet
        exact ⟨Arv, crv, vs, g7, c7, g8, c8, HO.out⟩
    --]f
  case rest =>
    obtain ⟨Ar, cr, vs, go, co, gs, cs, hO⟩ := hcut
    obtain ⟨W5, hW5⟩ : ∃ W, W = wc := ⟨_, rfl⟩; subst hW5
    have hO : OwnL w W5 [.rows 53 52 2 (.slice Ar 64 cr) vs ((List.range 64).map (fun j => eRow (chR j))), .row 4 1 (.slice (some ⟨go, 0, none⟩) 64 co) 64 (chO.map .bool), .row 4 1 (.slice (some ⟨gs, 0, none⟩) 64 cs) 64 (chS.map .bool), .blk N (.cells #[.int .i64 2, .int .i64 1, .slice Ar 64 cr, .slice (some ⟨go, 0, none⟩) 64 co, .slice (some ⟨gs, 0, none⟩) 64 cs] 32)] := hO
    obtain ⟨GV, hGV⟩ : ∃ GV : Value, GV = .agg #[.int .i64 2, .int .i64 1, .slice Ar 64 cr, .slice (some ⟨go, 0, none⟩) 64 co, .slice (some ⟨gs, 0, none⟩) 64 cs] := ⟨_, rfl⟩
    have hG : ∀ w', Ext W5 w' → GameV w' (.agg #[.int .i64 2, .int .i64 1, .slice Ar 64 cr, .slice (some ⟨go, 0, none⟩) 64 co, .slice (some ⟨gs, 0, none⟩) 64 cs]) chG := fun w' h => ch_game (hO.trans h) (by decide)
    have k0 : ∀ w', Ext W5 w' → w'.cell? ⟨N, 0, none⟩ = some (.int .i64 2) := fun w' h => h.cell (cell_of_blk (hO.get 3 rfl).2 0 (u := .int .i64 2) rfl)
    have k1 : ∀ w', Ext W5 w' → w'.cell? ⟨N, 1, none⟩ = some (.int .i64 1) := fun w' h => h.cell (cell_of_blk (hO.get 3 rfl).2 1 (u := .int .i64 1) rfl)
    have k2 : ∀ w', Ext W5 w' → w'.cell? ⟨N, 2, none⟩ = some (.slice Ar 64 cr) := fun w' h => h.cell (cell_of_blk (hO.get 3 rfl).2 2 (u := .slice Ar 64 cr) rfl)
    have k3 : ∀ w', Ext W5 w' → w'.cell? ⟨N, 3, none⟩ = some (.slice (some ⟨go, 0, none⟩) 64 co) := fun w' h => h.cell (cell_of_blk (hO.get 3 rfl).2 3 (u := .slice (some ⟨go, 0, none⟩) 64 co) rfl)
    have k4 : ∀ w', Ext W5 w' → w'.cell? ⟨N, 4, none⟩ = some (.slice (some ⟨gs, 0, none⟩) 64 cs) := fun w' h => h.cell (cell_of_blk (hO.get 3 rfl).2 4 (u := .slice (some ⟨gs, 0, none⟩) 64 cs) rfl)
    have hr1 := fun w' (h : Ext W5 w') => ch_ranks w' _ (hG w' h)
    have ha1 := fun w' (h : Ext W5 w') => ch_att w' _ (hG w' h)
    have hb1 := fun w' (h : Ext W5 w') => ch_av w' _ (hG w' h)
    have hc1 := fun w' (h : Ext W5 w') lv hl => ch_cav w' _ lv (hG w' h) hl
    have hd1 := fun w' (h : Ext W5 w') lv hl => ch_cat w' _ lv (hG w' h) hl
    have HO := Lib.hid hO
    have hE := Ext.refl W5
    clear hO hG hGV GV
    go_upto_region 8 with (go_at_call 11; (with_reducible refine (hr1 _ hE).mono ?_); rintro e wa ⟨b1, o1, rfl, c10, c162, ea⟩; have hE := hE.trans ea)
    go_upto_region 9 with (go_at_call 17; (with_reducible refine (ha1 _ hE).mono ?_); rintro e wb ⟨b2, o2, rfl, fA, c20, c262, c263, eb⟩; have hE := hE.trans eb)
    go_upto_region 10 with (go_at_call 16; (with_reducible refine (hb1 _ hE).mono ?_); rintro e wd ⟨b3, o3, rfl, c30, c362, c363, ec⟩; have hE := hE.trans ec)
    have c10 := (eb.trans ec).cell c10
    have c162 := (eb.trans ec).cell c162
    have c20 := ec.cell c20
    have c262 := ec.cell c262
    have c263 := ec.cell c263
    have FA := Lib.hid (IntsC.ext fA ec)
    clear fA hr1 ha1 hb1 ea eb ec
    go_upto_region 12 with fail
    have hc2 := hc1 _ hE _ FA.out
    clear hc1 c10 c162 c20 c262 c263 c30 c362 c363
    go_upto_region 13 with (go_at_call 20; (with_reducible refine hc2.mono ?_); rintro e wf ⟨A4, rfl, ed⟩; have hE := hE.trans ed)
    have hd2 := hd1 _ hE _ (IntsC.ext FA.out ed)
    clear hc2 hd1 FA ed
    go_upto_region 14 with (go_at_call 21; (with_reducible refine hd2.mono ?_); rintro e wg ⟨rfl, ee⟩; have hE := hE.trans ee)
    clear hd2 ee
    have hO := HO.out.trans hE
    have hst := hO.store 1 rfl 40 (.bool false)
    have HST := Lib.hid hst
    have cz := cell_own hO 1 rfl (j := 40) (u := .bool true) (by rw [List.getElem?_map, show chO[40]? = some true by decide +kernel]; rfl)
    have fz := free_own (e := 4) hO 1 rfl 40
    clear hst hO HO
    go_upto_region 15 with fail
    refine wp_named ?_
    intro W6 hW6
    have hO : OwnL w W6 [.rows 53 52 2 (.slice Ar 64 cr) vs ((List.range 64).map (fun j => eRow (chR j))), .row 4 1 (.slice (some ⟨go, 0, none⟩) 64 co) 64 (chO2.map .bool), .row 4 1 (.slice (some ⟨gs, 0, none⟩) 64 cs) 64 (chS.map .bool), .blk N (.cells #[.int .i64 2, .int .i64 1, .slice Ar 64 cr, .slice (some ⟨go, 0, none⟩) 64 co, .slice (some ⟨gs, 0, none⟩) 64 cs] 32)] := by
      have h := HST.out
      rw [← hW6] at h
      exact h
    clear hW6 HST cz fz k0 k1 k2 k3 k4 hE
    have hG : ∀ w', Ext W6 w' → GameV w' (.agg #[.int .i64 2, .int .i64 1, .slice Ar 64 cr, .slice (some ⟨go, 0, none⟩) 64 co, .slice (some ⟨gs, 0, none⟩) 64 cs]) ⟨chM, chO2, chS⟩ := fun w' h => ch_game (hO.trans h) (by decide)
    have k0 := cell_of_blk (hO.get 3 rfl).2 0 (u := .int .i64 2) rfl
    have k1 := cell_of_blk (hO.get 3 rfl).2 1 (u := .int .i64 1) rfl
    have k2 := cell_of_blk (hO.get 3 rfl).2 2 (u := .slice Ar 64 cr) rfl
    have k3 := cell_of_blk (hO.get 3 rfl).2 3 (u := .slice (some ⟨go, 0, none⟩) 64 co) rfl
    have k4 := cell_of_blk (hO.get 3 rfl).2 4 (u := .slice (some ⟨gs, 0, none⟩) 64 cs) rfl
    have hr3 := ch_ranks3 W6 _ (hG W6 (Ext.refl _))
    have HEW := Lib.hid hO.ext
    clear hG hO
    go_upto_region 16 with (go_at_call 11; (with_reducible refine hr3.mono ?_); rintro e W7 ⟨b5, o5, rfl, c50, c541, e7⟩)
    have HE7 := Lib.hid (HEW.out.trans e7)
    clear hr3 k0 k1 k2 k3 k4 HEW e7
    go_upto_region 18 with fail
    clear c50 c541
    go_upto_region 19 with fail
    refine wp_named ?_
    intro W8 hW8
    have hO : ∃ B, B = W7.heap.size ∧ OwnL W7 W8 (endL B false) := by
      have al : ∀ (W' : World) (L : List Asn) (b : Nat) (cs : Array Value) (t : TypeId), OwnL W7 W' L → b = W'.heap.size → OwnL W7 (W'.alloc (.cells cs t)) (.blk b (.cells cs t) :: L) := fun W' L b cs t h hb => h.add (alloc_ext _ _) (A := .blk b (.cells cs t)) ⟨by omega, by rw [hb]; exact heap_alloc_new _ _⟩
      refine ⟨W7.heap.size, rfl, ?_⟩
      rw [hW8]
      exact al _ _ _ _ _ (al _ _ _ _ _ (al _ _ _ _ _ (al _ _ _ _ _ (al _ _ _ _ _ (OwnL.nil (Ext.refl W7)) rfl) (by simp)) (by simp)) (by simp)) (by simp)
    obtain ⟨B, hB, hO⟩ := hO
    rw [← hB]
    clear hW8 hB
    have k0 : ∀ w', Ext W8 w' → w'.cell? ⟨B + 1 + 1 + 1 + 1, 0, none⟩ = some (.int .i64 1) := fun w' h => h.cell (cell_of_blk (hO.get 0 rfl).2 0 (u := .int .i64 1) rfl)
    have k1 : ∀ w', Ext W8 w' → w'.cell? ⟨B + 1 + 1 + 1 + 1, 1, none⟩ = some (.int .i64 1) := fun w' h => h.cell (cell_of_blk (hO.get 0 rfl).2 1 (u := .int .i64 1) rfl)
    have k2 : ∀ w', Ext W8 w' → w'.cell? ⟨B + 1 + 1 + 1 + 1, 2, none⟩ = some (.slice (some ⟨B + 1, 0, none⟩) 1 1) := fun w' h => h.cell (cell_of_blk (hO.get 0 rfl).2 2 (u := .slice (some ⟨B + 1, 0, none⟩) 1 1) rfl)
    have k3 : ∀ w', Ext W8 w' → w'.cell? ⟨B + 1 + 1 + 1 + 1, 3, none⟩ = some (.slice (some ⟨B + 1 + 1, 0, none⟩) 1 1) := fun w' h => h.cell (cell_of_blk (hO.get 0 rfl).2 3 (u := .slice (some ⟨B + 1 + 1, 0, none⟩) 1 1) rfl)
    have k4 : ∀ w', Ext W8 w' → w'.cell? ⟨B + 1 + 1 + 1 + 1, 4, none⟩ = some (.slice (some ⟨B + 1 + 1 + 1, 0, none⟩) 1 1) := fun w' h => h.cell (cell_of_blk (hO.get 0 rfl).2 4 (u := .slice (some ⟨B + 1 + 1 + 1, 0, none⟩) 1 1) rfl)
    have hG : ∀ w', Ext W8 w' → GameV w' (.agg #[.int .i64 1, .int .i64 1, .slice (some ⟨B + 1, 0, none⟩) 1 1, .slice (some ⟨B + 1 + 1, 0, none⟩) 1 1, .slice (some ⟨B + 1 + 1 + 1, 0, none⟩) 1 1]) (endG false) := fun w' h => end_game (hO.trans h)
    have HO := Lib.hid hO
    have hE := Ext.refl W8
    clear hO
    have hs1 := fun w' (h : Ext W8 w') => Safe_ok w' _ (endG false) (hG w' h) (end_c _) (by decide) _ end_s0 1 rfl
    have hr1 := fun w' (h : Ext W8 w') => Ranks_ok w' _ (endG false) (hG w' h) (end_c _) (by decide) _ end_r0 1 rfl
    go_upto_region 20 with (go_at_call 10; (with_reducible refine (hs1 _ hE).mono ?_); rintro e wa ⟨A1, rfl, fa, ea⟩; have hE := hE.trans ea)
    go_upto_region 21 with (go_at_call 11; (with_reducible refine (hr1 _ hE).mono ?_); rintro e wb ⟨A2, rfl, fb, eb⟩; have hE := hE.trans eb)
    have fa := BoolsC.ext fa eb
    clear hs1 hr1 ea eb hG
    go_upto_region 23 with (first
      | (go_at_call 31; refine (truths_one _ _ _ _ _ 1 (BoolsC.ext fa (alloc_ext _ _)) (ints_new1 _ _ _) rfl rfl).mono ?_; rintro e wc ⟨rfl, ec⟩; have ec := (alloc_ext _ _).trans ec)
      | (go_at_call 13; refine (list_one _ _ _ _ 1 (IntsC.ext fb (ec.trans (alloc_ext _ _))) (ints_new1 _ _ _)).mono ?_; rintro e wd ⟨rfl, ed⟩; have ed := ec.trans ((alloc_ext _ _).trans ed)))
    have hE := hE.trans ed
    clear fa fb ec ed
    have hO := HO.out.trans hE
    have hst := hO.put 1 rfl 0 (.bool true)
    have HST := Lib.hid hst
    have cz := cell_of_blk (hO.get 1 rfl).2 0 (u := .bool false) rfl
    have fz := free_of_blk (hO.get 1 rfl).2 0
    clear hst hO HO
    go_upto_region 24 with fail
    refine wp_named ?_
    intro W9 hW9
    have hO : OwnL W7 W9 (endL B true) := by
      have h := HST.out
      rw [← hW9] at h
      exact h
    clear hW9 HST cz fz k0 k1 k2 k3 k4 hE
    have k0 : ∀ w', Ext W9 w' → w'.cell? ⟨B + 1 + 1 + 1 + 1, 0, none⟩ = some (.int .i64 1) := fun w' h => h.cell (cell_of_blk (hO.get 0 rfl).2 0 (u := .int .i64 1) rfl)
    have k1 : ∀ w', Ext W9 w' → w'.cell? ⟨B + 1 + 1 + 1 + 1, 1, none⟩ = some (.int .i64 1) := fun w' h => h.cell (cell_of_blk (hO.get 0 rfl).2 1 (u := .int .i64 1) rfl)
    have k2 : ∀ w', Ext W9 w' → w'.cell? ⟨B + 1 + 1 + 1 + 1, 2, none⟩ = some (.slice (some ⟨B + 1, 0, none⟩) 1 1) := fun w' h => h.cell (cell_of_blk (hO.get 0 rfl).2 2 (u := .slice (some ⟨B + 1, 0, none⟩) 1 1) rfl)
    have k3 : ∀ w', Ext W9 w' → w'.cell? ⟨B + 1 + 1 + 1 + 1, 3, none⟩ = some (.slice (some ⟨B + 1 + 1, 0, none⟩) 1 1) := fun w' h => h.cell (cell_of_blk (hO.get 0 rfl).2 3 (u := .slice (some ⟨B + 1 + 1, 0, none⟩) 1 1) rfl)
    have k4 : ∀ w', Ext W9 w' → w'.cell? ⟨B + 1 + 1 + 1 + 1, 4, none⟩ = some (.slice (some ⟨B + 1 + 1 + 1, 0, none⟩) 1 1) := fun w' h => h.cell (cell_of_blk (hO.get 0 rfl).2 4 (u := .slice (some ⟨B + 1 + 1 + 1, 0, none⟩) 1 1) rfl)
    have hG : ∀ w', Ext W9 w' → GameV w' (.agg #[.int .i64 1, .int .i64 1, .slice (some ⟨B + 1, 0, none⟩) 1 1, .slice (some ⟨B + 1 + 1, 0, none⟩) 1 1, .slice (some ⟨B + 1 + 1 + 1, 0, none⟩) 1 1]) (endG true) := fun w' h => end_game (hO.trans h)
    have HO := Lib.hid hO
    have hE := Ext.refl W9
    clear hO
    have hs1 := fun w' (h : Ext W9 w') => Safe_ok w' _ (endG true) (hG w' h) (end_c _) (by decide) _ end_s1 1 rfl
    have hr1 := fun w' (h : Ext W9 w') => Ranks_ok w' _ (endG true) (hG w' h) (end_c _) (by decide) _ end_r1 1 rfl
    have hv1 := fun w' (h : Ext W9 w') lv hl => CheckAvoid_eq w' _ lv (endG true) (hG w' h) [-1] 1 hl _ _ _ end_a1 0 rfl
    go_upto_region 25 with (go_at_call 10; (with_reducible refine (hs1 _ hE).mono ?_); rintro e wa ⟨A3, rfl, fa, ea⟩; have hE := hE.trans ea)
    go_upto_region 26 with (go_at_call 11; (with_reducible refine (hr1 _ hE).mono ?_); rintro e wb ⟨A4, rfl, fb, eb⟩; have hE := hE.trans eb)
    go_upto_region 27 with (go_at_call 20; refine (hv1 _ (hE.alloc _) _ (ints_new1 _ _ _)).mono ?_; rintro e wd ⟨A5, rfl, fv, ev⟩; have ev := (alloc_ext _ _).trans ev)
    have fa := BoolsC.ext fa (eb.trans ev)
    have fb := IntsC.ext fb ev
    have hE := hE.trans ev
    have t1 : True := trivial
    have t2 : True := trivial
    clear hs1 hr1 hv1 ea eb ev
    go_wp2_with (first
      | (go_at_call 31; refine (truths_one _ _ _ _ _ 1 (BoolsC.ext fa (alloc_ext _ _)) (ints_new1 _ _ _) rfl rfl).mono ?_; rintro e x1 ⟨rfl, h1⟩; have h1 := (alloc_ext _ _).trans h1)
      | (go_at_call 13; clear t1; refine (list_one _ _ _ _ 1 (IntsC.ext fb (h1.trans (alloc_ext _ _))) (ints_new1 _ _ _)).mono ?_; rintro e x2 ⟨rfl, h2⟩; have h2 := h1.trans ((alloc_ext _ _).trans h2))
      | (go_at_call 13; refine (list_one _ _ _ _ 0 (IntsC.ext fv h2) (fit_nil _)).mono ?_; rintro e x3 ⟨rfl, h3⟩; have h3 := hE.trans (h2.trans h3))
      | (go_at_call 7; clear t2; refine (GamesErrors_any _ _ _ _ ⟨⟨0, 0, []⟩, [], []⟩ (gameV_nil _) [] 0 (fit_nil _) [] 0 (bools_nil _)).mono ?_; rintro e x4 ⟨rfl, h4⟩; have h4 := h3.trans h4)
      | (go_at_call 7; refine (GamesErrors_any _ _ _ _ (endG true) (hG _ ((h4.alloc _).alloc _)) [1] 1 (IntsC.ext (ints_new1 _ _ _) (alloc_ext _ _)) [true] 1 (bools_new1 _ _ _ _ (by simp))).mono ?_; rintro e x5 ⟨rfl, h5⟩; have h5 := ((h4.alloc _).alloc _).trans h5)
      | (go_at_call 15; refine (lives_any _).mono ?_; rintro e x6 ⟨rfl, h6⟩))
    go_ret
    exact ⟨rfl, ((HE7.out.trans HO.out.ext).trans h5).trans h6⟩
#print axioms GamesKnown_any
end Go.Proofs.Yteadkafeabhhhaa
