/- ref29.Unfold 20. -/
import Derived.Test.YtggffdkgfgdaoaaDoorE14
import Derived.Test.YtggffdkgfgdaoaaDoorE7
import Derived.Test.YtggffdkgfgdaoaaDoorE8
import Derived.Test.YtggffdkgfgdaoaaDoorT10
namespace Go.Proofs.YtggffdkgfgdaoaaDoor
open Go.RowKit Go.Maps
set_option linter.unusedVariables false
set_option linter.unusedSimpArgs false
attribute [local go_sem] Oper.quietV quietV Oper.gives givesV ext_refl_iff ext_alloc_iff ext_drew_iff ext_drewN_iff
attribute [local go_sem] RI.Oper.gives RI.givesV
def RufP (w : World) (x : Xt) (S : List Sp) (rows : List (List (Int × Int))) (e : Ending) (w' : World) : Prop := ∃ A c B cb, e = .returned (.tuple #[.agg #[.int .i64 x.ins, .int .i64 x.outs, .slice A rows.length c], .slice B S.length cb]) ∧ RowsC w' (.slice A rows.length c) rows c ∧ KfC w' (.slice B S.length cb) S cb ∧ Ext w w'
theorem xt_ins {x : Xt} (h : xtR x = 0) : ∃ n : Nat, x.ins = n ∧ n ≤ 16 := ⟨x.ins.toNat, by have := (xtR_ok h).2.2.2.2.2.1; omega, by have := (xtR_ok h).1; omega⟩
theorem conf_info' : (Tryd.prog.info? 34).map (fun i => (i.zero, i.size, i.bytes)) = some (some (.agg #[.int .i64 0, .slice none 0 0]), 2, 32) := by kernel_rfl
theorem erow_info : (Tryd.prog.info? 84).map (fun i => (i.zero, i.size, i.bytes)) = some (some (.slice none 0 0), 1, 24) := by kernel_rfl
theorem slice_inj3 {b b' : Nat} {n c c' : Nat} (h : Value.slice (some ⟨b, 0, none⟩) n c = .slice (some ⟨b', 0, none⟩) n c') : b = b' := by cases h; rfl
set_option maxRecDepth 100000 in
set_option maxHeartbeats 16000000 in
theorem refUnfold_any (w : World) (xv : Value) (x : Xt) (hx : XtV w x xv) (hx0 : xtR x = 0) (SF : List Sp) (RF : List (List (Int × Int))) (hU : unfR x = some (SF, RF)) : Calls Tryd.prog 20 #[xv] w (RufP w x SF RF) := by
  have HST := Lib.hid (fun W (e : Ext w W) s yv ys cy inp (hy : IntsC W yv ys cy) (hv : valsR x.vars ys = 0) => refStep_any W xv x s ys yv cy inp (hx.ext e) hy hx0 hv)
  have HOK := Lib.hid (And.intro hx0 hU)
  obtain ⟨ni, hni, hn16⟩ := xt_ins hx0
  have HNI := Lib.hid hni
  clear hni
  obtain ⟨i34, hi34, hz34, hs34, hb34⟩ := info_parts conf_info'
  obtain ⟨i83, hi83, hz83, hs83, hb83⟩ := info_parts edge_info2
  obtain ⟨i84, hi84, hz84, hs84, hb84⟩ := info_parts erow_info
  obtain ⟨vv, sv, av, c1, c2, c3, rfl, hvv, hsv, hav⟩ := hx
  obtain ⟨Av0, rfl, _⟩ := hvv
  obtain ⟨As, rfl, _⟩ := id hsv
  obtain ⟨Aa, as', rfl, _⟩ := hav
  obtain ⟨xb, hxb⟩ : ∃ o : Obj, o = .cells #[.int .i64 x.ins, .int .i64 x.outs, .int .i64 x.states, .slice Av0 x.vars.length c1, .slice As x.start.length c2, .slice Aa x.arcs.length c3] 31 := ⟨_, rfl⟩
  have HXB := Lib.hid hxb
  clear hxb hx0 hU
  go_enter Tryd.func20, Tryd.ntmps20
  go_upto_region 1 with fail
  refine wp_named ?_
  intro W1 hW1
  have hO1 : OwnL w W1 [.blk (w.heap.size + 1) zMach, .blk w.heap.size xb] := by
    have h := ((OwnL.nil (Ext.refl w)).add (alloc_ext w xb) (A := .blk w.heap.size xb) ⟨Nat.le_refl _, heap_alloc_new _ _⟩).add (alloc_ext _ zMach) (A := .blk (w.heap.size + 1) zMach) ⟨by simp, by have := heap_alloc_new (w.alloc xb) zMach; simpa using this⟩
    rw [hW1, ← HXB.out]
    exact h
  have hE1 := hO1.ext
  have hB1 : W1.heap[w.heap.size]? = some (.cells #[.int .i64 x.ins, .int .i64 x.outs, .int .i64 x.states, .slice Av0 x.vars.length c1, .slice As x.start.length c2, .slice Aa x.arcs.length c3] 31 (0, 0)) := by rw [hO1.blkAt 1 rfl, HXB.out]
  have e0 : ∀ w', Ext W1 w' → w'.cell? ⟨w.heap.size, 0, none⟩ = some (.int .i64 x.ins) := fun w' h => h.cell (cell_of_blk hB1 0 (u := .int .i64 x.ins) rfl)
  have e1 : ∀ w', Ext W1 w' → w'.cell? ⟨w.heap.size, 1, none⟩ = some (.int .i64 x.outs) := fun w' h => h.cell (cell_of_blk hB1 1 (u := .int .i64 x.outs) rfl)
  have e4 : ∀ w', Ext W1 w' → w'.cell? ⟨w.heap.size, 4, none⟩ = some (.slice As x.start.length c2) := fun w' h => h.cell (cell_of_blk hB1 4 (u := .slice As x.start.length c2) rfl)
  have hR1 := Ext.refl W1
  have HO1 := Lib.hid hO1
  clear hW1 hO1 hB1
  generalize hd1 : w.heap.size = d1 at *
  generalize hd2 : d1 + 1 = d2 at *
  have HDW := Lib.hid (And.intro hd1 hd2)
  clear hd1 hd2
  go_upto_region 3 with (with_reducible refine wpList_store_blk _ rfl 52 _ _ rfl (W1.heap.size + 1) 52 _ _ rfl rfl (by have := heap_alloc_new (W1.alloc (.cells #[.int .i64 0, .slice As x.start.length c2] 34)) (.cells #[.int .i64 0, .int .i64 0, .slice none 0 0] 52); simpa using this) (by kernel_rfl) (by kernel_rfl) (by kernel_rfl) ?_; intro W2 h2 g2)
  have hU0 : RuSt w W2 xb d1 d2 (W1.heap.size + 1) x.ins x.outs (.slice (some ⟨W1.heap.size, 0, none⟩) 1 1) [(0, x.start)] [] := RuSt.start HO1.out hsv h2 g2
  have HU0 := Lib.hid hU0
  clear e0 e1 e4 hR1 h2 g2 hE1 HO1 hU0
  generalize W1.heap.size + 1 = d5 at *
  go_wp2
  go_loopw [4, 6] (fun lv nv wr => ∃ (n : Nat) (S : List Sp) (rows : List (List (Int × Int))), nv = .int .i64 n ∧ n ≤ S.length ∧ S.length ≤ 64 ∧ Hid (uAll x n = some (S, rows)) ∧ Hid (RuSt w wr xb d1 d2 d5 x.ins x.outs lv S rows)) (fun _ nv _ => 64 - (intOf nv).toNat)
  case atStart => exact ⟨0, [(0, x.start)], [], by first | rfl | simp, Nat.zero_le _, by simp, Lib.hid rfl, HU0⟩
  case round =>
    clear HU0
    obtain ⟨n, S, rows, rfl, hn, hS, HA, HI⟩ := hrel
    obtain ⟨W3, hW3⟩ : ∃ W, W = wr := ⟨_, rfl⟩; subst hW3
    have hao := uAll_ok HOK.out.1 HA.out
    obtain ⟨lvs, hrow, hkf⟩ := HI.out.lst
    obtain ⟨g, cl, hlv⟩ := ownsRow_pos hrow hao.2.1
    subst hlv
    have HAO := Lib.hid hao
    have hS64 : decide ((S.length : Int) ≤ 64) = true := by simp; omega
    by_cases hlt : n < S.length
    rotate_left
    · have hne : n = S.length := by omega
      subst hne
      have hq : decide ((S.length : Int) < (S.length : Int)) = false := by simp
      have HF : Hid (SF = S ∧ RF = rows) := Lib.hid (by
        have h := uAll_end (n := 64) HA.out (Nat.le_refl _) hS
        have h2 := HOK.out.2
        unfold unfR at h2
        rw [h] at h2
        injection h2 with h2
        injection h2 with h3 h4
        exact ⟨h3.symm, h4.symm⟩)
      have hrl := (uAll_rows HOK.out.1 HA.out).2.1
      obtain ⟨rv, F, lvs, vs, hO⟩ := HI.out
      have hRO : OwnRows W3 w.heap.size 84 83 2 rv vs (rows.map eRow) := hO.get 2 rfl
      have hvl : vs.length = rows.length := by rw [hRO.len]; simp
      obtain ⟨Ar, cr, hrv, hrn, _⟩ := cells_of_owns hRO.own
      rw [hvl] at hrv hrn
      subst hrv
      have hB5 : W3.heap[d5]? = some (.cells #[.int .i64 x.ins, .int .i64 x.outs, .slice Ar rows.length cr] 52 (0, 0)) := hO.blkAt 3 rfl
      have hB2 := hO.blkAt 4 rfl
      have HO := Lib.hid (And.intro hO (And.intro hrl hrn))
      clear hao hrow hkf hlt hn hS64 hRO hvl hO hrl hrn HI
      go_wp2_with (first
        | (with_reducible refine wpList_load_row rfl 52 _ rfl d5 rfl 52 _ (0, 0) _ hB5 Tryd.underlying52 rfl (by kernel_rfl) ?_)
        | (with_reducible refine wpList_store_blk _ rfl 52 _ _ rfl d2 52 _ _ rfl rfl hB2 (by kernel_rfl) (by kernel_rfl) (by kernel_rfl) ?_; intro w8 h8 g8))
      refine bodyPost_ret (results_cell_tmp rfl _ _ d2 52 _ (0, 0) _ (by simp [Act.put]) h8 Tryd.underlying52 rfl (by kernel_rfl)) rfl ?_
      have hO8 := HO.out.1.step 4 (A' := .blk d2 (.cells #[.int .i64 x.ins, .int .i64 x.outs, .slice Ar rows.length cr] 52)) rfl g8 (fun k hk => by cases hk; exact rfl) ⟨by rw [← HDW.out.2, HDW.out.1]; exact Nat.le_succ _, h8⟩ (fun k hk => .inl hk)
      obtain ⟨rfl, rfl⟩ := HF.out
      have hn16' := (xtR_ok HOK.out.1).1
      refine ⟨Ar, cr, _, _, rfl, rowsC_any (hO8.get 2 rfl) rfl (by have := HO.out.2.1; omega) (fun r hr => by have := HAO.out.2.2 r hr; omega), ?_, hO8.ext⟩
      have hl8 : w8.ownsRow w.heap.size 34 2 (.slice (some ⟨g, 0, none⟩) SF.length cl) SF.length (lvs.flatMap cfCells) := hO8.get 1 rfl
      obtain ⟨A', c', hv', hnc, hcc⟩ := cells_of_owns hl8
      cases hv'
      exact ⟨_, lvs, rfl, hcc, hO8.know 0 rfl hO8.ext, hnc, by unfold lenMax; omega⟩
    · have hq : decide ((n : Int) < (S.length : Int)) = true := by simp; omega
      obtain ⟨c, hc⟩ : ∃ c, S[n]? = some c := ⟨_, List.getElem?_eq_getElem hlt⟩
      have HC := Lib.hid hc
      have HB := Lib.hid HI.out.begin
      clear hao hrow hkf hS64 hc
      go_wp2
      go_loopw [4, 7, 8] (fun lv wv iv wr => ∃ (i : Nat) (S' : List Sp) (row : List (Int × Int)), iv = .int .i64 i ∧ i ≤ ni ∧ S'.length ≤ 64 ∧ Hid (uRow x c S i = some (S', row)) ∧ Hid (RuRow w wr xb d1 d2 d5 x.ins x.outs lv S' rows wv row)) (fun _ _ iv _ => ni - (intOf iv).toNat)
      case atStart => exact ⟨0, S, [], by first | rfl | simp, Nat.zero_le _, hS, Lib.hid rfl, HB⟩
      case round =>
        clear HB HI
        obtain ⟨i, S', row, rfl, hi, hS', HR, HI⟩ := hrel
        obtain ⟨W4, hW4⟩ : ∃ W, W = wr := ⟨_, rfl⟩; subst hW4
        have hro := uRow_ok HOK.out.1 (HAO.out.1.2 c (List.mem_of_getElem? HC.out)) HAO.out.1 HR.out
        dsimp only at hro
        obtain ⟨lvs', hrow, hkf, hmore⟩ := HI.out.conf
        have hc' : S'[n]? = some c := by
          obtain ⟨t, ht⟩ := hro.2.1
          rw [← ht, List.getElem?_append_left hlt]; exact HC.out
        obtain ⟨g', cl', As', ca', hlv, q0, q1, hcI⟩ := kf_at hrow hkf hc'
        subst hlv
        have hbx : W4.heap[d1]? = some (.cells #[.int .i64 x.ins, .int .i64 x.outs, .int .i64 x.states, .slice Av0 x.vars.length c1, .slice As x.start.length c2, .slice Aa x.arcs.length c3] 31 (0, 0)) := by rw [HI.out.box, HXB.out]
        have e0 : ∀ w', Ext W4 w' → w'.cell? ⟨d1, 0, none⟩ = some (.int .i64 x.ins) := fun w' h => h.cell (cell_of_blk hbx 0 (u := .int .i64 x.ins) rfl)
        have hR4 := Ext.refl W4
        have HRO := Lib.hid hro
        by_cases hin : i < ni
        rotate_left
        · have hie : i = ni := by omega
          subst hie
          have hq2 : ¬ (i : Int) < x.ins := by rw [HNI.out]; omega
          have HA2 : Hid (uAll x (n + 1) = some (S', rows ++ [row])) := Lib.hid (by
            rw [uAll_step HA.out HC.out, show x.ins.toNat = i by rw [HNI.out]; rfl, HR.out])
          obtain ⟨rv, vs, hmr, hvl, hb5, hcl⟩ := HI.out.mrows
          obtain ⟨Am, cm, hrv, hmn, _⟩ := cells_of_owns hmr
          subst hrv
          obtain ⟨Aw, cw, hwv, hwn, _⟩ := cells_of_owns HI.out.edges
          subst hwv
          have hn1 : n + 1 ≤ S'.length := by have := hro.2.1.length_le; omega
          have hrl := (uAll_rows HOK.out.1 HA.out).1
          dsimp only at hrl
          have hvs : vs.length ≤ 64 := by omega
          have hd5 : W4.cell? ⟨d5, 2, none⟩ = some (.slice Am vs.length cm) := cell_of_blk hb5 2 (u := .slice Am vs.length cm) rfl
          have HI2 := Lib.hid hn1
          have hsz := HI.out.ext.size
          clear hrow hkf hmore hc' q0 q1 hcI hbx hro hin hi hb5 hvl hrl hn1 hmn hwn
          go_wp2_with (at_builtin; refine wpList_append_own2 rfl _ _ 50 rfl w.heap.size 84 i84 (.slice none 0 0) 1 24 Tryd.underlying50 hi84 hz84 hs84 hb84 rfl (by decide) (.slice Am vs.length cm) vs.length vs rfl (World.ownsRow.alloc hmr _) ⟨W4.heap.size, 0, none⟩ 1 1 [.slice Aw row.length cw] rfl rfl (new_cell _ _ _ _ (by first | rfl | simp)) (one_slice _ _ _) (by unfold maxLen; omega) (by omega) (by simp; omega) ?_; intro v8 w8 hown8 hg8 hb8; obtain ⟨gv, cv, hv8⟩ := ownsRow_pos hown8 (by omega); subst hv8; obtain ⟨hU8, hb58⟩ := hcl _ _ _ (alloc_ext W4 _) hg8 hown8 hb8; have k8 := cell_of_blk hb58 2 (u := .slice Am vs.length cm) rfl; have t8 := free_of_blk hb58 2)
          refine ⟨⟨n + 1, S', rows ++ [row], by go_num, HI2.out, hS', HA2, Lib.hid hU8⟩, ?_⟩
          simp [intOf]; omega
        · have hq2 : (i : Int) < x.ins := by rw [HNI.out]; omega
          have hLS := Lib.hid (fun d (h : d ∈ S') => (okSp_len (hro.1.2 d h)).1)
          obtain ⟨q, hqs⟩ : ∃ q, q = stepR x c.1 c.2 (i : Int) := ⟨_, rfl⟩
          have HUS : Hid (uRow x c S (i + 1) = match uStep x c S' (i : Int) with | none => none | some q => some (q.1, row ++ [q.2])) := Lib.hid (uRow_step HR.out)
          have HSQ := Lib.hid hqs
          have hco := hro.1.2 c (List.mem_of_getElem? hc')
          have hst := fun W (e : Ext W4 W) => HST.out W (HI.out.ext.trans e) c.1 _ c.2 ca' (i : Int) (hcI.ext e) hco.2
          rw [← hqs] at hst
          obtain ⟨⟨t, zs, o, can⟩, hqt⟩ : ∃ p, p = stT q := ⟨_, rfl⟩
          rw [← hqt] at hst
          unfold StQ at hst
          dsimp only at hst
          have HQT := Lib.hid hqt
          have HST4 := Lib.hid hst
          have e1 : ∀ w', Ext W4 w' → w'.cell? ⟨d1, 1, none⟩ = some (.int .i64 x.outs) := fun w' h => h.cell (cell_of_blk hbx 1 (u := .int .i64 x.outs) rfl)
          have e2 : ∀ w', Ext W4 w' → w'.cell? ⟨d1, 2, none⟩ = some (.int .i64 x.states) := fun w' h => h.cell (cell_of_blk hbx 2 (u := .int .i64 x.states) rfl)
          have e3 : ∀ w', Ext W4 w' → w'.cell? ⟨d1, 3, none⟩ = some (.slice Av0 x.vars.length c1) := fun w' h => h.cell (cell_of_blk hbx 3 (u := .slice Av0 x.vars.length c1) rfl)
          have e4 : ∀ w', Ext W4 w' → w'.cell? ⟨d1, 4, none⟩ = some (.slice As x.start.length c2) := fun w' h => h.cell (cell_of_blk hbx 4 (u := .slice As x.start.length c2) rfl)
          have e5 : ∀ w', Ext W4 w' → w'.cell? ⟨d1, 5, none⟩ = some (.slice Aa x.arcs.length c3) := fun w' h => h.cell (cell_of_blk hbx 5 (u := .slice Aa x.arcs.length c3) rfl)
          have q0 : ∀ w', Ext W4 w' → w'.cell? ⟨g', n * 2, none⟩ = some (.int .i64 c.1) := fun w' h => h.cell q0
          have q1 : ∀ w', Ext W4 w' → w'.cell? ⟨g', n * 2 + 1, none⟩ = some (.slice As' c.2.length ca') := fun w' h => h.cell q1
          have HM := Lib.hid (And.intro hrow (And.intro hkf hmore))
          have hnS : n < S'.length := (List.getElem?_eq_some_iff.1 hc').1
          clear hqs hqt hst hco hcI hbx hc' hrow hkf hmore hro
          go_upto_region 10 with fail
          refine RI.wp_region_inv 14 (RsI 6 11 12 (tp3 o can) t zs W4) (fun k => [6, 11, 12].contains k) (fun k => ([[], [], [], [1, 2], [1, 2, 3], [], [0, 1, 2, 3, 4, 5], [0, 1, 2, 3, 4, 5, 6], [0, 1, 2, 3, 4, 5, 6, 7], [0, 1, 2, 3, 4, 5, 6, 7], [0, 1, 2, 3, 4, 5, 6, 7], [], [0, 1, 2, 3, 4, 5, 6, 7, 8, 11], [0, 1, 2, 3, 4, 5, 6, 7, 8, 9, 11, 12], [0, 1, 2, 3, 4, 5, 6, 7, 8, 9, 10, 11, 12, 13]] : List (List Nat)).getD k []) (by kernel_rfl) (by kernel_rfl) ?_ ?_
          rotate_left; simp only [List.take_succ_cons, List.take_zero]; rotate_left
          · exact RsI.start (Ext.refl _).drew
          repeat (first | (with_reducible refine RI.lexL_quiet' (v := ?_) ?_ ?_ ?_ ?_; rotate_left; (· with_reducible rfl); (· decide); (· intro G w1 hI1 hA1; have hw1 := hI1.ext; go_simp; with_reducible rfl); (try simp only [Act.put, List.setIfInBounds_toArray, List.set_cons_zero, List.set_cons_succ])) | (with_reducible refine RI.lexL_skip ?_ ?_; (· simp [Region.wanted, yielded, undef]); (try simp only [Act.put, List.setIfInBounds_toArray, List.set_cons_zero, List.set_cons_succ])) | (with_reducible refine RI.lexL_quiet (v := ?_) ?_ ?_ ?_ ?_; rotate_left; (· simp [Region.wanted, yielded, undef]); (· decide); (· intro G w1 hI1 hA1; have hw1 := hI1.ext; go_simp; with_reducible rfl); (try simp only [Act.put, List.setIfInBounds_toArray, List.set_cons_zero, List.set_cons_succ])))
          with_reducible refine RI.lexL_give' ?_ ?_ ?_ ?_; (· with_reducible rfl); (· decide)
          · intro G w5 hI hA hg
            have hw5 := hI.ext
            go_simp
            refine (HST4.out w5 hw5).mono ?_
            rintro e w6 ⟨A, c, rfl, h1, h2, e6⟩
            exact ⟨_, rfl, hI.call (by decide) (by decide) hg e6 h1 h2⟩
          intro v6 G w5 hI hs2
          obtain ⟨A7, c7, hv6, -⟩ := hI.c v6 (hs2 6 v6 rfl)
          unfold tp3 cfgV at hv6
          subst hv6
          clear hI hs2 G w5
          (try simp only [Act.put, List.setIfInBounds_toArray, List.set_cons_zero, List.set_cons_succ])
          repeat (first | (with_reducible refine RI.lexL_quiet' (v := ?_) ?_ ?_ ?_ ?_; rotate_left; (· with_reducible rfl); (· decide); (· intro G w1 hI1 hA1; have hw1 := hI1.ext; go_simp; with_reducible rfl); (try simp only [Act.put, List.setIfInBounds_toArray, List.set_cons_zero, List.set_cons_succ])) | (with_reducible refine RI.lexL_skip ?_ ?_; (· simp [Region.wanted, yielded, undef]); (try simp only [Act.put, List.setIfInBounds_toArray, List.set_cons_zero, List.set_cons_succ])) | (with_reducible refine RI.lexL_quiet (v := ?_) ?_ ?_ ?_ ?_; rotate_left; (· simp [Region.wanted, yielded, undef]); (· decide); (· intro G w1 hI1 hA1; have hw1 := hI1.ext; go_simp; with_reducible rfl); (try simp only [Act.put, List.setIfInBounds_toArray, List.set_cons_zero, List.set_cons_succ])))
          with_reducible refine RI.lexL_give' ?_ ?_ ?_ ?_; (· with_reducible rfl); (· decide)
          · intro G w5 hI hA hg
            go_simp
            exact hI.alloc (by decide) (by decide) hg
          intro v11 G w5 hI hs2
          obtain ⟨b9, hv11, -⟩ := hI.a v11 (hs2 11 v11 rfl)
          unfold ptrV at hv11
          subst hv11
          clear hI hs2 G w5
          (try simp only [Act.put, List.setIfInBounds_toArray, List.set_cons_zero, List.set_cons_succ])
          with_reducible refine RI.lexL_give' ?_ ?_ ?_ ?_; (· with_reducible rfl); (· decide)
          · intro G w5 hI hA hg
            have h6 := hA 6 (by decide) _ rfl
            have h11 := hA 11 (by decide) _ rfl
            obtain ⟨b', hb', _, _, h3⟩ := hI.a _ h11
            have hb' := ptrV_inj (b := b9) hb'
            subst hb'
            refine gives_store_blk 34 (.tmp 9) (.tmp 47) ?_ b9 ?_ ?_ (h3 hg) (cells := #[.int .i64 t, .slice A7 zs.length c7]) rfl (by kernel_rfl) (by kernel_rfl) (fun w' hB hgr => hI.store (by decide) (by decide) tp3_inj hg h6 h11 hB hgr) <;> first | rfl | exact rfl | (go_simp; done)
          intro v12 G w5 hI hs2
          clear hI hs2 G w5
          (try simp only [Act.put, List.setIfInBounds_toArray, List.set_cons_zero, List.set_cons_succ])
          repeat (first | (with_reducible refine RI.lexL_quiet' (v := ?_) ?_ ?_ ?_ ?_; rotate_left; (· with_reducible rfl); (· decide); (· intro G w1 hI1 hA1; have hw1 := hI1.ext; go_simp; with_reducible rfl); (try simp only [Act.put, List.setIfInBounds_toArray, List.set_cons_zero, List.set_cons_succ])) | (with_reducible refine RI.lexL_skip ?_ ?_; (· simp [Region.wanted, yielded, undef]); (try simp only [Act.put, List.setIfInBounds_toArray, List.set_cons_zero, List.set_cons_succ])) | (with_reducible refine RI.lexL_quiet (v := ?_) ?_ ?_ ?_ ?_; rotate_left; (· simp [Region.wanted, yielded, undef]); (· decide); (· intro G w1 hI1 hA1; have hw1 := hI1.ext; go_simp; with_reducible rfl); (try simp only [Act.put, List.setIfInBounds_toArray, List.set_cons_zero, List.set_cons_succ])))
          with_reducible refine RI.lexL_nil ?_; intro w1 hI1; simp only [List.drop_succ_cons, List.drop_zero]
          have hdn := hI1.done tp3_inj (u := v12) (A := A7) (c := c7) (b := b9) rfl rfl rfl
          clear hI1
          go_upto_region 12 with fail
          obtain ⟨W5, hW5⟩ : ∃ W, W = w1 := ⟨_, rfl⟩
          subst hW5
          have HDN := Lib.hid hdn
          have HI5 := Lib.hid (HI.out.trans hdn.1)
          clear hdn e0 e1 e2 e3 e4 e5 q0 q1 hR4 HST4
          cases q with
          | none =>
            obtain ⟨rfl, rfl, rfl, rfl⟩ : t = 0 ∧ zs = [] ∧ o = -1 ∧ can = 0 := by
              have h := HQT.out; unfold stT at h; injection h with h1 h; injection h with h2 h; injection h with h3 h4; exact ⟨h1, h2, h3, h4⟩
            have HR2 : Hid (uRow x c S (i + 1) = some (S', row ++ [(-1, -1)])) := Lib.hid (by rw [HUS.out]; unfold uStep; rw [← HSQ.out])
            have hed := (HI5).out.edges
            have hrl : row.length ≤ 100 := by have := HRO.out.2.2; omega
            have hsz5 := (HI5).out.ext.size
            go_wp2_with (at_builtin; refine wpList_append_own2 rfl _ _ 84 rfl w.heap.size 83 i83 (.agg #[.int .i64 0, .int .i64 0]) 2 16 Tryd.underlying84 hi83 hz83 hs83 hb83 rfl (by decide) u7 row.length (row.flatMap edgeCells) rfl (World.ownsRow.alloc hed _) ⟨(W5).heap.size, 0, none⟩ 1 1 (edgeCells (-1, -1)) rfl rfl (new_cell2 _ _ _ _ _ (by first | rfl | simp)) (by intro u hu; simp [edgeCells] at hu; rcases hu with rfl | rfl <;> rfl) (by unfold maxLen; omega) (by omega) (by simp; omega) ?_; intro v8 w8 hown8 hg8 hb8)
            have hU8 := (HI5).out.edge (alloc_ext _ _) hg8 hown8 hb8
            have HU8 := Lib.hid hU8
            clear hed hown8 hg8 hb8 hU8
            refine ⟨⟨i + 1, S', row ++ [(-1, -1)], by go_num, hin, (by first | assumption | (simp; omega)), HR2, HU8⟩, ?_⟩
            simp [intOf]; omega
          | some q =>
            obtain ⟨rfl, rfl, rfl, rfl⟩ : t = q.1 ∧ zs = q.2.1 ∧ o = q.2.2 ∧ can = 1 := by
              have h := HQT.out; unfold stT at h; injection h with h1 h; injection h with h2 h; injection h with h3 h4; exact ⟨h1, h2, h3, h4⟩
            obtain ⟨t, zs, o⟩ := q
            dsimp only at HDN ⊢
            have HZ : Hid (∀ d ∈ S', d.2.length = ((t, zs) : Sp).2.length) := Lib.hid (fun d hd => by
              have h := stepR_ok HOK.out.1 (HRO.out.1.2 c (by
                have h5 := HRO.out.2.1
                obtain ⟨u, hu⟩ := h5
                rw [← hu]
                exact List.mem_append_left _ (List.mem_of_getElem? HC.out))).2 HSQ.out.symm
              rw [hLS.out d hd]
              exact (okSp_len h).1.symm)
            have HUF : Hid (∀ k, idxP S' (t, zs) = some k → uRow x c S (i + 1) = some (S', row ++ [((k : Int), o)])) := Lib.hid (fun k h => by
              rw [HUS.out]; unfold uStep; rw [← HSQ.out]; dsimp only; rw [h])
            have HUN : Hid (idxP S' (t, zs) = none → S'.length < 64 ∧ uRow x c S (i + 1) = some (S' ++ [(t, zs)], row ++ [((S'.length : Int), o)])) := Lib.hid (fun h => by
              have hr := HUS.out
              unfold uStep at hr
              rw [← HSQ.out] at hr
              dsimp only at hr
              rw [h] at hr
              dsimp only at hr
              by_cases h64 : S'.length = 64
              · rw [if_pos h64] at hr
                exfalso
                have h1 := uRow_none (n := ni) hr hin
                have h2 := uAll_step HA.out HC.out
                dsimp only at h2
                rw [show x.ins.toNat = ni by rw [HNI.out]; rfl, h1] at h2
                have h3 := uAll_none (n := 64) h2 (by omega)
                have h4 := HOK.out.2
                unfold unfR at h4
                rw [h3] at h4; cases h4
              · rw [if_neg h64] at hr
                exact ⟨by omega, hr⟩)
            go_wp2
            go_loopw [12] (fun kv wr => ∃ k : Nat, kv = .int .i64 k ∧ k ≤ S'.length ∧ Hid (∀ (j : Nat), j < k → ∀ d, S'[j]? = some d → d ≠ (t, zs)) ∧ Hid (Ext W5 wr)) (fun kv _ => S'.length - (intOf kv).toNat)
            case atStart => exact ⟨0, by first | rfl | simp, Nat.zero_le _, Lib.hid (fun j h => by omega), Lib.hid (Ext.refl _)⟩
            case round =>
              obtain ⟨k, rfl, hk, HK, HW⟩ := hrel
              obtain ⟨W6, hW6⟩ : ∃ W, W = wr := ⟨_, rfl⟩; subst hW6
              by_cases hkl : k < S'.length
              rotate_left
              · have hke : k = S'.length := by omega
                subst hke
                have hq3 : decide (S'.length < S'.length) = false := by simp
                have HUN2 := Lib.hid (HUN.out (idxP_no HZ.out (fun j d h => HK.out j (List.getElem?_eq_some_iff.1 h).1 d h)))
                have h64 : S'.length < 64 := HUN2.out.1
                clear hkl hk HK HUF HUN HZ
                go_upto_region 14 with fail
                go_quiet (fail)
                go_upto_region 17 with fail
                refine wp_named ?_
                intro W7 hW7
                have hE7 : Ext W5 W7 := by rw [hW7]; exact HW.out.drewN _
                have hB9 := heap_ext hE7 HDN.out.2.1
                have hE47 := HDN.out.1.trans hE7
                have hrow7 := ownsRow_ext HM.out.1 hE47
                have hsz7 := (HI.out.ext.trans hE47).size
                have HW7 := Lib.hid (And.intro hE47 (HDN.out.2.2.1.ext hE7))
                clear hW7 hE7 HW hE47
                go_upto_region 18 with (first
                  | (with_reducible refine wpList_load_row rfl 34 _ rfl b9 rfl 34 _ (0, 0) _ hB9 Tryd.underlying34 rfl (by kernel_rfl) ?_)
                  | (at_builtin; refine wpList_append_own2 rfl _ _ 53 rfl w.heap.size 34 i34 (.agg #[.int .i64 0, .slice none 0 0]) 2 32 Tryd.underlying53 hi34 hz34 hs34 hb34 rfl (by decide) (.slice (some ⟨g', 0, none⟩) S'.length cl') S'.length (lvs'.flatMap cfCells) rfl (World.ownsRow.alloc hrow7 _) ⟨W7.heap.size, 0, none⟩ 1 1 [.int .i64 t, .slice A7 zs.length c7] rfl rfl (new_cell2 _ _ _ _ _ (by first | rfl | simp)) (by intro u hu; simp at hu; rcases hu with rfl | rfl <;> rfl) (by unfold maxLen; omega) (by omega) (by simp; omega) ?_; intro v9 w9 hown9 hg9 hb9))
                have HI9 := Lib.hid (HM.out.2.2 _ _ _ (t, zs) A7 c7 (HW7.out.1.trans (alloc_ext W7 _)) (HW7.out.2.ext (alloc_ext W7 _)) HDN.out.2.2.2.1 hg9 hown9 hb9)
                have HR2 := Lib.hid HUN2.out.2
                clear hB9 hrow7 hsz7 hown9 hg9 hb9
                have hed := (HI9).out.edges
                have hrl : row.length ≤ 100 := by have := HRO.out.2.2; omega
                have hsz5 := (HI9).out.ext.size
                go_wp2_with (at_builtin; refine wpList_append_own2 rfl _ _ 84 rfl w.heap.size 83 i83 (.agg #[.int .i64 0, .int .i64 0]) 2 16 Tryd.underlying84 hi83 hz83 hs83 hb83 rfl (by decide) u7 row.length (row.flatMap edgeCells) rfl (World.ownsRow.alloc hed _) ⟨(w9).heap.size, 0, none⟩ 1 1 (edgeCells ((S'.length : Int), o)) rfl rfl (new_cell2 _ _ _ _ _ (by first | rfl | simp)) (by intro u hu; simp [edgeCells] at hu; rcases hu with rfl | rfl <;> rfl) (by unfold maxLen; omega) (by omega) (by simp; omega) ?_; intro v8 w8 hown8 hg8 hb8)
                have hU8 := (HI9).out.edge (alloc_ext _ _) hg8 hown8 hb8
                have HU8 := Lib.hid hU8
                clear hed hown8 hg8 hb8 hU8
                refine ⟨⟨i + 1, S' ++ [(t, zs)], row ++ [((S'.length : Int), o)], by go_num, hin, (by first | assumption | (simp; omega)), HR2, HU8⟩, ?_⟩
                simp [intOf]; omega
              · have hq3 : decide (k < S'.length) = true := by simpa using hkl
                obtain ⟨d, hd⟩ : ∃ d, S'[k]? = some d := ⟨_, List.getElem?_eq_getElem hkl⟩
                have HD := Lib.hid hd
                have hE46 := HDN.out.1.trans HW.out
                obtain ⟨g2, cl2, Ad, cd, hlv2, p0, p1, hdI⟩ := kf_at HM.out.1 HM.out.2.1 hd
                have hlv2 := slice_inj3 hlv2
                subst hlv2
                have p0 : ∀ w', Ext W6 w' → w'.cell? ⟨g', k * 2, none⟩ = some (.int .i64 d.1) := fun w' h => (hE46.trans h).cell p0
                have p1 : ∀ w', Ext W6 w' → w'.cell? ⟨g', k * 2 + 1, none⟩ = some (.slice Ad d.2.length cd) := fun w' h => (hE46.trans h).cell p1
                have s0 : ∀ w', Ext W6 w' → w'.cell? ⟨b9, 0, none⟩ = some (.int .i64 t) := fun w' h => (HW.out.trans h).cell (cell_of_blk HDN.out.2.1 0 (u := .int .i64 t) rfl)
                have s1 : ∀ w', Ext W6 w' → w'.cell? ⟨b9, 1, none⟩ = some (.slice A7 zs.length c7) := fun w' h => (HW.out.trans h).cell (cell_of_blk HDN.out.2.1 1 (u := .slice A7 zs.length c7) rfl)
                have hsm := fun W (e : Ext W6 W) => refSame_any W d.1 t _ _ d.2 zs _ _ (hdI.ext (hE46.trans e)) (HDN.out.2.2.1.ext (HW.out.trans e))
                have hR6 := Ext.refl W6
                by_cases hdc : d = (t, zs)
                · subst hdc
                  have hsm : ∀ W (e : Ext W6 W), Calls Tryd.prog 14 #[.agg #[.int .i64 t, .slice Ad zs.length cd], .agg #[.int .i64 t, .slice A7 zs.length c7]] W fun e w' => e = .returned (.int .i64 1) ∧ Ext W w' := fun W e => by
                    have h := hsm W e
                    rw [show (((t, zs) : Int × List Int).1 == t && ((t, zs) : Int × List Int).2 == zs) = true by simp] at h
                    exact h
                  have HR2 := Lib.hid (HUF.out k (idxP_at HZ.out hd HK.out))
                  have hkn : (k == S'.length) = false := beq_eq_false_iff_ne.2 (by omega)
                  have hknI : ((k : Int) == (S'.length : Int)) = false := beq_eq_false_iff_ne.2 (by omega)
                  clear hd hdI
                  dsimp only at p0 p1
                  go_upto_region 14 with fail
                  refine wp_region_ext 10 (factsOf []) (fun k => ([[], [], [1], [0, 1, 2], [0, 1, 2, 3], [], [], [5, 6], [5, 6, 7], [], [0, 1, 2, 3, 4, 5, 6, 7, 8, 9], [0, 1, 2, 3, 4, 5, 6, 7, 8, 9, 10], [0, 1, 2, 3, 4, 5, 6, 7, 8, 9, 10, 11]] : List (List Nat)).getD k []) (by kernel_rfl) (by kernel_rfl) Ext.pre (mono_nil) ?_
                  simp only [List.take_succ_cons, List.take_zero]
                  repeat (first | (with_reducible refine lexL_quiet' (v := ?_) ?_ ?_ ?_ ?_; rotate_left; (· with_reducible rfl); (· simp [factsOf]); (· intro w1 hw1 _; go_simp; with_reducible rfl); (try simp only [Act.put, List.setIfInBounds_toArray, List.set_cons_zero, List.set_cons_succ])) | (with_reducible refine lexL_skip ?_ ?_; (· simp [Region.wanted, yielded, undef]); (try simp only [Act.put, List.setIfInBounds_toArray, List.set_cons_zero, List.set_cons_succ])) | (with_reducible refine lexL_quiet (v := ?_) ?_ ?_ ?_ ?_; rotate_left; (· simp [Region.wanted, yielded, undef]); (· simp [factsOf]); (· intro w1 hw1 _; go_simp; with_reducible rfl); (try simp only [Act.put, List.setIfInBounds_toArray, List.set_cons_zero, List.set_cons_succ])))
                  with_reducible refine lexL_nil ?_; intro w1 hw1 hk1; simp only [List.drop_succ_cons, List.drop_zero]
                  have hsm1 := hsm w1 hw1
                  go_upto_region 18 with ((with_reducible refine hsm1.mono ?_); rintro e W7 ⟨rfl, e7⟩)
                  have HW1 := Lib.hid ((HW.out.trans hw1).trans e7)
                  have HI1 := Lib.hid (HI.out.trans ((hE46.trans hw1).trans e7))
                  clear hk1 hsm hsm1 p0 p1 s0 s1 hR6 hw1 e7
                  have hed := (HI1).out.edges
                  have hrl : row.length ≤ 100 := by have := HRO.out.2.2; omega
                  have hsz5 := (HI1).out.ext.size
                  go_wp2_with (at_builtin; refine wpList_append_own2 rfl _ _ 84 rfl w.heap.size 83 i83 (.agg #[.int .i64 0, .int .i64 0]) 2 16 Tryd.underlying84 hi83 hz83 hs83 hb83 rfl (by decide) u7 row.length (row.flatMap edgeCells) rfl (World.ownsRow.alloc hed _) ⟨(W7).heap.size, 0, none⟩ 1 1 (edgeCells ((k : Int), o)) rfl rfl (new_cell2 _ _ _ _ _ (by first | rfl | simp)) (by intro u hu; simp [edgeCells] at hu; rcases hu with rfl | rfl <;> rfl) (by unfold maxLen; omega) (by omega) (by simp; omega) ?_; intro v8 w8 hown8 hg8 hb8)
                  have hU8 := (HI1).out.edge (alloc_ext _ _) hg8 hown8 hb8
                  have HU8 := Lib.hid hU8
                  clear hed hown8 hg8 hb8 hU8
                  refine ⟨⟨i + 1, S', row ++ [((k : Int), o)], by go_num, hin, (by first | assumption | (simp; omega)), HR2, HU8⟩, ?_⟩
                  simp [intOf]; omega
                · have hsm : ∀ W (e : Ext W6 W), Calls Tryd.prog 14 #[.agg #[.int .i64 d.1, .slice Ad d.2.length cd], .agg #[.int .i64 t, .slice A7 zs.length c7]] W fun e w' => e = .returned (.int .i64 0) ∧ Ext W w' := fun W e => by
                    have h := hsm W e
                    rw [show (d.1 == t && d.2 == zs) = false by
                      rw [Bool.and_eq_false_iff, beq_eq_false_iff_ne, beq_eq_false_iff_ne]
                      by_cases h1 : d.1 = t
                      · right; intro h2; exact hdc (Prod.ext h1 h2)
                      · exact .inl h1] at h
                    exact h
                  have HK2 : Hid (∀ (j : Nat), j < k + 1 → ∀ d, S'[j]? = some d → d ≠ (t, zs)) := Lib.hid (fun j hj e he => by
                    by_cases hjk : j = k
                    · subst hjk
                      rw [HD.out] at he
                      injection he with he
                      subst he
                      exact hdc
                    · exact HK.out j (by omega) e he)
                  clear hd hdI hdc
                  go_upto_region 14 with fail
                  refine wp_region_ext 10 (factsOf []) (fun k => ([[], [], [1], [0, 1, 2], [0, 1, 2, 3], [], [], [5, 6], [5, 6, 7], [], [0, 1, 2, 3, 4, 5, 6, 7, 8, 9], [0, 1, 2, 3, 4, 5, 6, 7, 8, 9, 10], [0, 1, 2, 3, 4, 5, 6, 7, 8, 9, 10, 11]] : List (List Nat)).getD k []) (by kernel_rfl) (by kernel_rfl) Ext.pre (mono_nil) ?_
                  simp only [List.take_succ_cons, List.take_zero]
                  repeat (first | (with_reducible refine lexL_quiet' (v := ?_) ?_ ?_ ?_ ?_; rotate_left; (· with_reducible rfl); (· simp [factsOf]); (· intro w1 hw1 _; go_simp; with_reducible rfl); (try simp only [Act.put, List.setIfInBounds_toArray, List.set_cons_zero, List.set_cons_succ])) | (with_reducible refine lexL_skip ?_ ?_; (· simp [Region.wanted, yielded, undef]); (try simp only [Act.put, List.setIfInBounds_toArray, List.set_cons_zero, List.set_cons_succ])) | (with_reducible refine lexL_quiet (v := ?_) ?_ ?_ ?_ ?_; rotate_left; (· simp [Region.wanted, yielded, undef]); (· simp [factsOf]); (· intro w1 hw1 _; go_simp; with_reducible rfl); (try simp only [Act.put, List.setIfInBounds_toArray, List.set_cons_zero, List.set_cons_succ])))
                  with_reducible refine lexL_nil ?_; intro w1 hw1 hk1; simp only [List.drop_succ_cons, List.drop_zero]
                  have hsm1 := hsm w1 hw1
                  go_upto_region 15 with ((with_reducible refine hsm1.mono ?_); rintro e W7 ⟨rfl, e7⟩)
                  have HW1 := Lib.hid ((HW.out.trans hw1).trans e7)
                  have HI1 := Lib.hid (HI.out.trans ((hE46.trans hw1).trans e7))
                  clear hk1 hsm hsm1 p0 p1 s0 s1 hR6 hw1 e7
                  go_wp2
                  refine ⟨⟨k + 1, by go_num, hkl, HK2, HW1⟩, ?_⟩
                  simp [intOf]; omega
end Go.Proofs.YtggffdkgfgdaoaaDoor
