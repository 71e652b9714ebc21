/-    -/
import Derived.Test.YtmebgomnmlbgnaaDoorZG
import Derived.Deep.LoopGhost
set_option linter.unnecessarySimpa false
set_option linter.unusedSectionVars false
namespace Go.Proofs.YtmebgomnmlbgnaaDoor
open Go.RowKit
set_option linter.unusedVariables false
set_option linter.unusedSimpArgs false
attribute [local go_sem] Oper.quietV quietV Oper.gives givesV ext_refl_iff ext_alloc_iff ext_drew_iff ext_drewN_iff
def wrongC : List PanicEntry := [{ v := .iface 99 (.agg #[]), recovered := false, goexit := false }]
def ParQ (S : Nat → Prop) (w : World) (pb : Nat) (s : ByteArray) (sy : Nat) (pr : PR) (e : Ending) (w' : World) : Prop := match pr with
  | .ok r j => ∃ A c, e = .returned (.agg #[.int .u8 (r.tr.op : Int), .int .i64 r.tr.n, .slice A r.tr.subs.length c]) ∧ NodeB S false w' r.tr (.agg #[.int .u8 (r.tr.op : Int), .int .i64 r.tr.n, .slice A r.tr.subs.length c]) ∧ ParP w pb s j sy w'
  | .bad j => e = .panicked wrongC ∧ ParP w pb s j sy w'
def ParS (s : ByteArray) (sy : Nat) (F : FuncId) (i : Nat) (pr : PR) : Prop := ∀ (S : Nat → Prop) (w : World) (pb : Nat), New S w → ¬ S pb → PSt w pb s i sy → Calls Tryd.prog F #[.pointer (some ⟨pb, 0, none⟩)] w (ParQ S w pb s sy pr)
theorem PSt.lt {w : World} {pb : Nat} {s : ByteArray} {i sy : Nat} (h : PSt w pb s i sy) : pb < w.heap.size := lt_of_block h
theorem grown_past {w W W' : World} {pb b : Nat} (h : w.grownBy W (some pb)) (hb : w.heap.size ≤ b) (g : W.grownBy W' (some b)) : w.grownBy W' (some pb) := by
  refine ⟨g.os.trans h.os, g.tape.trans h.tape, g.output.trans h.output, Nat.le_trans h.size g.size, fun k hk hr => ?_⟩
  rw [g.block k (Nat.lt_of_lt_of_le hk h.size) (fun e => by injection e with e; omega)]
  exact h.block k hk hr
theorem blk_keep {w w' : World} {pb b : Nat} {o : Obj} (h : w.heap[b]? = some o) (g : w.grownBy w' (some pb)) (hb : b ≠ pb) : w'.heap[b]? = some o := by
  rw [g.block b (lt_of_block h) (fun e => hb (by injection e))]; exact h
theorem PSt.keep {w w' : World} {pb b : Nat} {s : ByteArray} {i sy : Nat} (h : PSt w pb s i sy) (g : w.grownBy w' (some b)) (hb : pb ≠ b) : PSt w' pb s i sy := blk_keep h g hb
theorem New.keep {S : Nat → Prop} {w w' : World} {r : Option Nat} (h : New S w) (g : w.grownBy w' r) : New S w' := fun b hb => h b (Nat.le_trans g.size hb)
set_option maxRecDepth 100000 in
set_option maxHeartbeats 16000000 in
theorem atom_any {s : ByteArray} {sy : Nat} (hs : s.size ≤ 1000000) (hsy : sy ≤ 16) {rec : Nat → PR} {i : Nat} (hi : i ≤ s.size) (hrec : ∀ k, i < k → k ≤ s.size → ParS s sy 64 k (rec k) ∧ Fine s k (rec k)) : ParS s sy 121 i (pAtom s sy rec i) := by
  intro S w pb hS hpb hP
  have HREC := Lib.hid hrec
  have hTk := fun (c k : Nat) (hk : k ≤ 1000000) (w' : World) (h : PSt w' pb s k sy) => take_any c hs hk h
  unfold TakQ at hTk
  obtain ⟨pr, hpr⟩ : ∃ p, p = pAtom s sy rec i := ⟨_, rfl⟩
  rw [← hpr]
  unfold pAtom at hpr
  have HPR := Lib.hid hpr
  have HTK := Lib.hid hTk
  have HS := Lib.hid hS
  have HP := Lib.hid (And.intro hP (And.intro hpb hP.lt))
  clear hrec hTk hpr hS hP hpb
  go_enter Tryd.func121, Tryd.ntmps121
  go_upto_region 1 with fail
  refine wp_named ?_
  intro W1 hW1
  have hE1 : Ext w W1 := by rw [hW1]; exact alloc_ext _ _
  have hB : W1.heap[w.heap.size]? = some (.cells zNode 35 (0, 0)) := by rw [hW1]; exact heap_alloc_new _ _
  have HE1 := Lib.hid hE1
  have HB := Lib.hid hB
  have HP1 := Lib.hid (HP.out.1.ext hE1)
  have HPB : Hid (w.heap.size ≠ pb ∧ w.heap.size ≤ w.heap.size) := Lib.hid ⟨by have := HP.out.2.2; omega, Nat.le_refl _⟩
  have HS1 := Lib.hid (HS.out.but hE1 (lt_of_block hB))
  clear hW1 hE1 hB HS
  generalize hb2 : w.heap.size = b2 at *
  have HBW := Lib.hid hb2
  clear hb2
  have t1 := HTK.out 48 i (by omega) W1 HP1.out
  cases hz : takP s i 48 with
  | true =>
    rw [hz] at t1
    have hpr : pr = .ok .none (i + 1) := by rw [HPR.out, if_pos hz]
    have t1 : Calls Tryd.prog 89 #[.pointer (some ⟨pb, 0, none⟩), .int .u8 48] W1 (fun e w' => e = .returned (.bool true) ∧ ParP W1 pb s (i + 1) sy w') := t1
    clear hz HREC HTK
    subst hpr
    go_wp2_with (first
      | ((with_reducible refine t1.mono ?_); rintro e W5 ⟨rfl, p5, g5⟩)
      | (with_reducible refine wpList_store_blk _ rfl 35 _ _ rfl b2 35 _ _ rfl rfl (blk_keep HB.out g5 HPB.out.1) (by kernel_rfl) (by kernel_rfl) (by kernel_rfl) ?_; intro w8 h8 g8))
    refine bodyPost_ret (results_cell_row rfl _ _ b2 35 _ (0, 0) _ (by simp [Act.put]) h8 Tryd.underlying35 rfl (by kernel_rfl)) rfl ?_
    exact ⟨none, 0, rfl, nodeB_leaf _ _ _ 0 0 (by decide) _, p5.keep g8 (Ne.symm HPB.out.1), grown_past (grown_trans (grown_of_ext HE1.out _) g5) (by rw [HBW.out]; exact HPB.out.2) g8⟩
  | false =>
    rw [hz] at t1
    have HPR := Lib.hid (show pr = _ by rw [HPR.out, if_neg (by rw [hz]; decide)])
    have t1 : Calls Tryd.prog 89 #[.pointer (some ⟨pb, 0, none⟩), .int .u8 48] W1 (fun e w' => e = .returned (.bool false) ∧ ParP W1 pb s i sy w') := t1
    clear hz
    go_upto_region 3 with ((with_reducible refine t1.mono ?_); rintro e W5 ⟨rfl, p5, g5⟩)
    have t2 := HTK.out 49 i (by omega) W5 p5
    cases hz : takP s i 49 with
    | true =>
      rw [hz] at t2
      have hpr : pr = .ok .empty (i + 1) := by rw [HPR.out, if_pos hz]
      have t2 : Calls Tryd.prog 89 #[.pointer (some ⟨pb, 0, none⟩), .int .u8 49] W5 (fun e w' => e = .returned (.bool true) ∧ ParP W5 pb s (i + 1) sy w') := t2
      have HG5 := Lib.hid g5
      clear hz HREC HTK p5 g5 t1
      subst hpr
      go_wp2_with (first
        | ((with_reducible refine t2.mono ?_); rintro e W6 ⟨rfl, p6, g6⟩)
        | (with_reducible refine wpList_store_blk _ rfl 35 _ _ rfl b2 35 _ _ rfl rfl (blk_keep HB.out (grown_trans HG5.out g6) HPB.out.1) (by kernel_rfl) (by kernel_rfl) (by kernel_rfl) ?_; intro w8 h8 g8))
      refine bodyPost_ret (results_cell_row rfl _ _ b2 35 _ (0, 0) _ (by simp [Act.put]) h8 Tryd.underlying35 rfl (by kernel_rfl)) rfl ?_
      exact ⟨none, 0, rfl, nodeB_leaf _ _ _ 1 0 (by decide) _, p6.keep g8 (Ne.symm HPB.out.1), grown_past (grown_trans (grown_of_ext HE1.out _) (grown_trans HG5.out g6)) (by rw [HBW.out]; exact HPB.out.2) g8⟩
    | false =>
      rw [hz] at t2
      have HPR := Lib.hid (show pr = _ by rw [HPR.out, if_neg (by rw [hz]; decide)])
      have t2 : Calls Tryd.prog 89 #[.pointer (some ⟨pb, 0, none⟩), .int .u8 49] W5 (fun e w' => e = .returned (.bool false) ∧ ParP W5 pb s i sy w') := t2
      have HG5 := Lib.hid g5
      clear hz p5 g5 t1
      go_upto_region 5 with ((with_reducible refine t2.mono ?_); rintro e W6 ⟨rfl, p6, g6⟩)
      have HG6 := Lib.hid (grown_trans HG5.out g6)
      have HP6 := Lib.hid p6
      have tl := letter_any (i := i) (sy := sy) (s := s) (by omega) p6
      unfold BoolP at tl
      clear t2 p6 g6 HG5
      cases hz : letP sy (bt s i) with
      | true =>
        rw [hz] at tl
        have hpr : pr = .ok (.sym (bt s i - 97)) (i + 1) := by rw [HPR.out, if_pos hz]
        have hin := letP_in hz
        have hb := bt_in hin
        have hlp : 97 ≤ bt s i ∧ bt s i < 97 + sy := of_decide_eq_true hz
        clear hz HREC HTK HPR
        subst hpr
        go_upto_region 6 with ((with_reducible refine tl.mono ?_); rintro e W7 ⟨rfl, e7⟩)
        have p7 := HP6.out.ext e7
        have c0 : ∀ w', Ext W7 w' → w'.cell? ⟨pb, 0, none⟩ = some (.string s) := fun w' e => e.cell (cell_of_blk p7 0 rfl)
        have c1 : ∀ w', Ext W7 w' → w'.cell? ⟨pb, 1, none⟩ = some (.int .i64 ((i : Int))) := fun w' e => e.cell (cell_of_blk p7 1 rfl)
        have c2 : ∀ w', Ext W7 w' → w'.cell? ⟨pb, 2, none⟩ = some (.int .i64 (sy : Int)) := fun w' e => e.cell (cell_of_blk p7 2 rfl)
        have f1 : ∀ w', Ext W7 w' → w'.frozen? ⟨pb, 1, none⟩ = false := fun w' e => free_of_blk (heap_ext e p7) 1
        have hR7 := Ext.refl W7
        have hii : (i : Int) < 1000001 := by omega
        have HP7 := Lib.hid p7
        have HG7 := Lib.hid (grown_trans HG6.out (grown_of_ext e7 _))
        clear p7 e7
        go_upto_region 7 with fail
        refine wp_named ?_
        intro W8 hW8
        have p8 : PSt W8 pb s (i + 1) sy := by rw [hW8]; exact heap_setCell_same _ pb 1 _ 97 _ HP7.out
        have g78 : W7.grownBy W8 (some pb) := by rw [hW8]; exact grown_setK _ pb 1 _
        have HG8 := Lib.hid (grown_trans HG7.out g78)
        have HP8 := Lib.hid p8
        clear hW8 c0 c1 c2 f1 g78
        have c0 : ∀ w', Ext W8 w' → w'.cell? ⟨pb, 0, none⟩ = some (.string s) := fun w' e => e.cell (cell_of_blk p8 0 rfl)
        have c1 : ∀ w', Ext W8 w' → w'.cell? ⟨pb, 1, none⟩ = some (.int .i64 (((i + 1 : Nat) : Int))) := fun w' e => e.cell (cell_of_blk p8 1 rfl)
        have c2 : ∀ w', Ext W8 w' → w'.cell? ⟨pb, 2, none⟩ = some (.int .i64 (sy : Int)) := fun w' e => e.cell (cell_of_blk p8 2 rfl)
        have hR8 := Ext.refl W8
        obtain ⟨d, hd⟩ : ∃ d : Nat, bt s i = d + 97 := ⟨bt s i - 97, by omega⟩
        rw [show bt s i - 97 = d by omega] at *
        rw [hb] at hd
        have q0 : IntKind.i64.wrap (i : Int) = (i : Int) := wrap64_nat (by omega)
        have q1 : IntKind.u8.wrap (((s[i]'hin).toNat : Int) - 97) = (d : Int) := by rw [hd, show (((d + 97 : Nat) : Int)) - 97 = (d : Int) by omega]; exact wrap8_nat (by omega)
        have q2 : IntKind.i64.wrap (d : Int) = (d : Int) := wrap64_nat (by omega)
        have hiI : (i : Int) < (s.size : Int) := by omega
        clear hd hb hlp p8
        refine wp_region_ext 9 (factsOf []) (fun k => ([[], [0], [0, 1], [0, 1, 2], [], [4], [4, 5], [4, 5, 6], [4, 5, 6, 7], [0, 1, 2, 3, 4, 5, 6, 7, 8], [0, 1, 2, 3, 4, 5, 6, 7, 8, 9], [0, 1, 2, 3, 4, 5, 6, 7, 8, 9, 10], [0, 1, 2, 3, 4, 5, 6, 7, 8, 9, 10, 11], [0, 1, 2, 3, 4, 5, 6, 7, 8, 9, 10, 11, 12]] : List (List Nat)).getD k []) (by kernel_rfl) (by kernel_rfl) Ext.pre (mono_nil) ?_
        simp only [List.take_succ_cons, List.take_zero]
        repeat (first | (with_reducible refine lexL_quiet' (v := ?_) ?_ ?_ ?_ ?_; rotate_left; (· with_reducible rfl); (· simp [factsOf]); (· intro w1 hw1 _; go_simp; with_reducible rfl); (try simp only [Act.put, List.setIfInBounds_toArray, List.set_cons_zero, List.set_cons_succ])) | (with_reducible refine lexL_skip ?_ ?_; (· simp [Region.wanted, yielded, undef]); (try simp only [Act.put, List.setIfInBounds_toArray, List.set_cons_zero, List.set_cons_succ])) | (with_reducible refine lexL_quiet (v := ?_) ?_ ?_ ?_ ?_; rotate_left; (· simp [Region.wanted, yielded, undef]); (· simp [factsOf]); (· intro w1 hw1 _; go_simp; with_reducible rfl); (try simp only [Act.put, List.setIfInBounds_toArray, List.set_cons_zero, List.set_cons_succ])))
        with_reducible refine lexL_nil ?_; intro w1 hw1 hk1; simp only [List.drop_succ_cons, List.drop_zero]
        have HW1 := Lib.hid hw1
        clear hk1 hw1 c0 c1 c2
        go_wp2_with (with_reducible refine wpList_store_blk _ rfl 35 _ _ rfl b2 35 _ _ rfl rfl (heap_ext HW1.out (blk_keep HB.out HG8.out HPB.out.1)) (by kernel_rfl) (by kernel_rfl) (by kernel_rfl) ?_; intro w9 h9 g9)
        refine bodyPost_ret (results_cell_row rfl _ _ b2 35 _ (0, 0) _ (by simp [Act.put]) h9 Tryd.underlying35 rfl (by kernel_rfl)) rfl ?_
        exact ⟨none, 0, rfl, nodeB_leaf _ _ _ 2 (d : Int) (by decide) _, (HP8.out.ext HW1.out).keep g9 (Ne.symm HPB.out.1), grown_past (grown_trans (grown_of_ext HE1.out _) (grown_trans HG8.out (grown_of_ext HW1.out _))) (by rw [HBW.out]; exact HPB.out.2) g9⟩
      | false =>
        rw [hz] at tl
        have HPR := Lib.hid (show pr = _ by rw [HPR.out, if_neg (by rw [hz]; decide)])
        have hR6 := Ext.refl W6
        have HTL := Lib.hid (fun W7 (e7 : Ext W6 W7) => HTK.out 40 i (by omega) W7 (HP6.out.ext e7))
        clear hz
        go_upto_region 8 with ((with_reducible refine tl.mono ?_); rintro e W7 ⟨rfl, e7⟩)
        have t3 := HTL.out W7 e7
        have HG7 := Lib.hid (grown_trans HG6.out (grown_of_ext e7 _))
        clear HTL e7 tl
        cases hz : takP s i 40 with
        | false =>
          rw [hz] at t3
          have hpr : pr = .bad i := by rw [HPR.out, if_neg (by rw [hz]; decide)]
          have t3 : Calls Tryd.prog 89 #[.pointer (some ⟨pb, 0, none⟩), .int .u8 40] W7 (fun e w' => e = .returned (.bool false) ∧ ParP W7 pb s i sy w') := t3
          clear hz HREC HTK HPR
          subst hpr
          go_wp2_with ((with_reducible refine t3.mono ?_); rintro e W8 ⟨rfl, p8, g8⟩)
          exact ⟨rfl, rfl, p8, grown_trans (grown_of_ext HE1.out _) (grown_trans HG7.out g8)⟩
        | true =>
          rw [hz] at t3
          have HQ := Lib.hid (show pr = _ by rw [HPR.out, if_pos hz])
          clear HPR
          have hin := takP_in hz
          have t3 : Calls Tryd.prog 89 #[.pointer (some ⟨pb, 0, none⟩), .int .u8 40] W7 (fun e w' => e = .returned (.bool true) ∧ ParP W7 pb s (i + 1) sy w') := t3
          clear hz
          go_upto_region 9 with ((with_reducible refine t3.mono ?_); rintro e W8 ⟨rfl, p8, g8⟩)
          have HG8 := Lib.hid (grown_trans HG7.out g8)
          have hrc := (HREC.out (i + 1) (by omega) (by omega)).1 (butS S b2) W8 pb (HS1.out.keep HG8.out) (fun h => HP.out.2.1 h.1) p8
          have hfi := (HREC.out (i + 1) (by omega) (by omega)).2
          clear HREC t3 p8 g8 t1 t2
          generalize rec (i + 1) = q at *
          cases q with
          | bad j =>
            have hpr : pr = .bad j := HQ.out
            subst hpr
            have hrc : Calls Tryd.prog 64 _ W8 (fun e w' => e = .panicked wrongC ∧ ParP W8 pb s j sy w') := hrc
            clear HTK HQ hfi
            go_wp2_with ((with_reducible refine hrc.mono ?_); rintro e W9 ⟨rfl, p9, g9⟩)
            exact ⟨rfl, rfl, p9, grown_trans (grown_of_ext HE1.out _) (grown_trans HG8.out g9)⟩
          | ok x j =>
            have hrc : Calls Tryd.prog 64 _ W8 (fun e w' => ∃ A c, e = .returned (.agg #[.int .u8 (x.tr.op : Int), .int .i64 x.tr.n, .slice A x.tr.subs.length c]) ∧ NodeB (butS S b2) false w' x.tr (.agg #[.int .u8 (x.tr.op : Int), .int .i64 x.tr.n, .slice A x.tr.subs.length c]) ∧ ParP W8 pb s j sy w') := hrc
            have hj : j ≤ 1000000 := by have := hfi.2; omega
            clear hfi
            go_upto_region 10 with ((with_reducible refine hrc.mono ?_); rintro e W9 ⟨A9, c9, rfl, n9, p9, g9⟩)
            have e90 := alloc_ext W9 (.cells #[.int .u8 (x.tr.op : Int), .int .i64 x.tr.n, .slice A9 x.tr.subs.length c9] 35)
            obtain ⟨W10, hW10⟩ : ∃ W, W = W9.alloc (.cells #[.int .u8 (x.tr.op : Int), .int .i64 x.tr.n, .slice A9 x.tr.subs.length c9] 35) := ⟨_, rfl⟩
            rw [← hW10] at e90 ⊢
            have hb3 : W10.heap[W9.heap.size]? = some (.cells #[.int .u8 (x.tr.op : Int), .int .i64 x.tr.n, .slice A9 x.tr.subs.length c9] 35 (0, 0)) := by rw [hW10]; exact heap_alloc_new _ _
            have H10 := Lib.hid (And.intro (grown_trans HG8.out (grown_trans g9 (grown_of_ext e90 _))) (And.intro (n9.ext e90) (And.intro hb3 (show W9.heap.size ≠ pb by have := p9.lt; omega))))
            have t4 := HTK.out 41 j hj W10 (p9.ext e90)
            clear hrc n9 p9 g9 e90 hb3 hW10
            generalize W9.heap.size = b3 at *
            cases hz : takP s j 41 with
            | false =>
              rw [hz] at t4
              have hpr : pr = .bad j := by have h := HQ.out; exact h.trans (if_neg (by rw [hz]; decide))
              have t4 : Calls Tryd.prog 89 #[.pointer (some ⟨pb, 0, none⟩), .int .u8 41] W10 (fun e w' => e = .returned (.bool false) ∧ ParP W10 pb s j sy w') := t4
              clear hz HTK HQ
              subst hpr
              go_wp2_with ((with_reducible refine t4.mono ?_); rintro e W11 ⟨rfl, p11, g11⟩)
              exact ⟨rfl, rfl, p11, grown_trans (grown_of_ext HE1.out _) (grown_trans H10.out.1 g11)⟩
            | true =>
              rw [hz] at t4
              have hpr : pr = .ok x (j + 1) := by have h := HQ.out; exact h.trans (if_pos hz)
              have t4 : Calls Tryd.prog 89 #[.pointer (some ⟨pb, 0, none⟩), .int .u8 41] W10 (fun e w' => e = .returned (.bool true) ∧ ParP W10 pb s (j + 1) sy w') := t4
              clear hz HTK HQ
              subst hpr
              go_upto_region 12 with ((with_reducible refine t4.mono ?_); rintro e W11 ⟨rfl, p11, g11⟩)
              have hb311 := blk_keep H10.out.2.2.1 g11 H10.out.2.2.2
              have k0 := cell_of_blk hb311 0 (u := .int .u8 (x.tr.op : Int)) rfl
              have k1 := cell_of_blk hb311 1 (u := .int .i64 x.tr.n) rfl
              have k2 := cell_of_blk hb311 2 (u := .slice A9 x.tr.subs.length c9) rfl
              have H11 := Lib.hid (And.intro (grown_trans H10.out.1 g11) (And.intro (H10.out.2.1.past3 g11 (fun h => HP.out.2.1 h.1)) p11))
              clear t4 p11 g11 hb311
              go_wp2_with (with_reducible refine wpList_store_blk _ rfl 35 _ _ rfl b2 35 _ _ rfl rfl (blk_keep HB.out H11.out.1 HPB.out.1) (by kernel_rfl) (by kernel_rfl) (by kernel_rfl) ?_; intro w12 h12 g12)
              refine bodyPost_ret (results_cell_row rfl _ _ b2 35 _ (0, 0) _ (by simp [Act.put]) h12 Tryd.underlying35 rfl (by kernel_rfl)) rfl ?_
              exact ⟨A9, c9, rfl, H11.out.2.1.past g12, H11.out.2.2.keep g12 (Ne.symm HPB.out.1), grown_past (grown_trans (grown_of_ext HE1.out _) H11.out.1) (by rw [HBW.out]; exact HPB.out.2) g12⟩
end Go.Proofs.YtmebgomnmlbgnaaDoor

namespace Go.Proofs.YtmebgomnmlbgnaaDoor
open Go.RowKit
set_option linter.unusedVariables false
set_option linter.unusedSimpArgs false
attribute [local go_sem] Oper.quietV quietV Oper.gives givesV ext_refl_iff ext_alloc_iff ext_drew_iff ext_drewN_iff
structure LocX (S : Nat → Prop) (W1 : World) (pb b3 : Nat) (s : ByteArray) (sy : Nat) (x : Rx) (j : Nat) (wr : World) : Prop where
  g : W1.grownBy wr (some pb)
  p : PSt wr pb s j sy
  lo : W1.heap.size ≤ b3
  st : ∃ A c, wr.heap[b3]? = some (.cells #[.int .u8 (x.tr.op : Int), .int .i64 x.tr.n, .slice A x.tr.subs.length c] 35 (0, 0)) ∧ NodeB (butS S b3) false wr x.tr (.agg #[.int .u8 (x.tr.op : Int), .int .i64 x.tr.n, .slice A x.tr.subs.length c])
theorem LocX.start {S : Nat → Prop} {W1 W5 : World} {pb : Nat} {s : ByteArray} {sy : Nat} {x : Rx} {j : Nat} {A : Option Addr} {c : Nat} (hp : PSt W5 pb s j sy) (hg : W1.grownBy W5 (some pb)) (hn : NodeB S false W5 x.tr (.agg #[.int .u8 (x.tr.op : Int), .int .i64 x.tr.n, .slice A x.tr.subs.length c])) :
    LocX S W1 pb W5.heap.size s sy x j (W5.alloc (.cells #[.int .u8 (x.tr.op : Int), .int .i64 x.tr.n, .slice A x.tr.subs.length c] 35)) :=
  ⟨grown_trans hg (grown_of_ext (alloc_ext _ _) _), hp.ext (alloc_ext _ _), hg.size, A, c, heap_alloc_new _ _, (hn.but (Nat.le_refl _)).ext (alloc_ext _ _)⟩
theorem LocX.ne {S : Nat → Prop} {W1 wr : World} {pb b3 : Nat} {s : ByteArray} {sy : Nat} {x : Rx} {j : Nat} (h : LocX S W1 pb b3 s sy x j wr) (hpb : pb < W1.heap.size) : b3 ≠ pb := by have := h.lo; omega
theorem LocX.move {S : Nat → Prop} {W1 wr w' : World} {pb b3 : Nat} {s : ByteArray} {sy : Nat} {x : Rx} {j k : Nat} (h : LocX S W1 pb b3 s sy x j wr) (hpb : pb < W1.heap.size) (hS : ¬ S pb) (p : PSt w' pb s k sy) (g : wr.grownBy w' (some pb)) : LocX S W1 pb b3 s sy x k w' := by
  obtain ⟨A, c, h1, h2⟩ := h.st
  exact ⟨grown_trans h.g g, p, h.lo, A, c, blk_keep h1 g (h.ne hpb), h2.past3 g (fun e => hS e.1)⟩
theorem LocX.ext {S : Nat → Prop} {W1 wr w' : World} {pb b3 : Nat} {s : ByteArray} {sy : Nat} {x : Rx} {j : Nat} (h : LocX S W1 pb b3 s sy x j wr) (e : Ext wr w') : LocX S W1 pb b3 s sy x j w' := by
  obtain ⟨A, c, h1, h2⟩ := h.st
  exact ⟨grown_trans h.g (grown_of_ext e _), h.p.ext e, h.lo, A, c, heap_ext e h1, h2.ext e⟩
theorem LocX.new {S : Nat → Prop} {W1 wr : World} {pb b3 : Nat} {s : ByteArray} {sy : Nat} {x : Rx} {j : Nat} (h : LocX S W1 pb b3 s sy x j wr) (hS : New S W1) : New (butS S b3) wr := fun b hb => ⟨hS b (Nat.le_trans h.g.size hb), by
  obtain ⟨A, c, h1, _⟩ := h.st
  have := lt_of_block h1; omega⟩
theorem LocX.put {S : Nat → Prop} {W1 wr w' w8 : World} {pb b3 : Nat} {s : ByteArray} {sy : Nat} {x z : Rx} {j k : Nat} {A : Option Addr} {c : Nat} (h : LocX S W1 pb b3 s sy x j wr) (hpb : pb < W1.heap.size) (p : PSt w' pb s k sy) (g : wr.grownBy w' (some pb)) (hn : NodeB (butS S b3) false w' z.tr (.agg #[.int .u8 (z.tr.op : Int), .int .i64 z.tr.n, .slice A z.tr.subs.length c]))
    (h8 : w8.heap[b3]? = some (.cells #[.int .u8 (z.tr.op : Int), .int .i64 z.tr.n, .slice A z.tr.subs.length c] 35 (0, 0))) (g8 : w'.grownBy w8 (some b3)) : LocX S W1 pb b3 s sy z k w8 :=
  ⟨grown_past (grown_trans h.g g) h.lo g8, p.keep g8 (Ne.symm (h.ne hpb)), h.lo, A, c, h8, hn.past2 g8⟩
def SP (b3 : Nat) (y : Rx) (A : Option Addr) (c : Nat) (w : World) : Prop := w.cell? ⟨b3, 0, none⟩ = some (.int .u8 (y.tr.op : Int)) ∧ w.cell? ⟨b3, 1, none⟩ = some (.int .i64 y.tr.n) ∧ w.cell? ⟨b3, 2, none⟩ = some (.slice A y.tr.subs.length c)
set_option maxRecDepth 100000 in
set_option maxHeartbeats 16000000 in
theorem star_any {s : ByteArray} {sy : Nat} (hs : s.size ≤ 1000000) {rec : Nat → PR} {i : Nat} (hat : ParS s sy 121 i (pAtom s sy rec i)) (hfi : Fine s i (pAtom s sy rec i)) : ParS s sy 117 i (pStar s sy rec i) := by
  intro S w pb hS hpb hP
  obtain ⟨pr, hpr⟩ : ∃ p, p = pStar s sy rec i := ⟨_, rfl⟩
  rw [← hpr]
  unfold pStar at hpr
  have HPR := Lib.hid hpr
  have HAT := Lib.hid hat
  have HFI := Lib.hid hfi
  have HTK := Lib.hid (fun (k : Nat) (hk : k ≤ 1000000) (w' : World) (h : PSt w' pb s k sy) => take_any 42 hs hk h)
  unfold TakQ at HTK
  have HS := Lib.hid hS
  have HP := Lib.hid (And.intro hP (And.intro hpb hP.lt))
  clear hat hfi hpr hS hP hpb
  generalize pAtom s sy rec i = q at *
  go_enter Tryd.func117, Tryd.ntmps117
  go_upto_region 1 with fail
  refine wp_named ?_
  intro W1 hW1
  have hE1 : Ext w W1 := by rw [hW1]; exact alloc_ext _ _
  have hB : W1.heap[w.heap.size]? = some (.cells zNode 35 (0, 0)) := by rw [hW1]; exact heap_alloc_new _ _
  have HE1 := Lib.hid hE1
  have HB := Lib.hid hB
  have HP1 := Lib.hid (HP.out.1.ext hE1)
  have HPB : Hid (w.heap.size ≠ pb ∧ w.heap.size ≤ w.heap.size) := Lib.hid ⟨by have := HP.out.2.2; omega, Nat.le_refl _⟩
  have HS1 := Lib.hid (HS.out.but hE1 (lt_of_block hB))
  have hat := HAT.out (butS S w.heap.size) W1 pb HS1.out (fun h => HP.out.2.1 h.1) HP1.out
  clear hW1 hE1 hB HS HAT
  generalize hb2 : w.heap.size = b2 at *
  have HBW := Lib.hid hb2
  clear hb2
  cases q with
  | bad j =>
    have hpr : pr = .bad j := HPR.out
    subst hpr
    have hat : Calls Tryd.prog 121 _ W1 (fun e w' => e = .panicked wrongC ∧ ParP W1 pb s j sy w') := hat
    clear HTK HPR HFI
    go_wp2_with ((with_reducible refine hat.mono ?_); rintro e W5 ⟨rfl, p5, g5⟩)
    exact ⟨rfl, rfl, p5, grown_trans (grown_of_ext HE1.out _) g5⟩
  | ok x j =>
    have HPR : Hid (pr = starL s (s.size + 1 - j) x j) := Lib.hid HPR.out
    have hat : Calls Tryd.prog 121 _ W1 (fun e w' => ∃ A c, e = .returned (.agg #[.int .u8 (x.tr.op : Int), .int .i64 x.tr.n, .slice A x.tr.subs.length c]) ∧ NodeB (butS S b2) false w' x.tr (.agg #[.int .u8 (x.tr.op : Int), .int .i64 x.tr.n, .slice A x.tr.subs.length c]) ∧ ParP W1 pb s j sy w') := hat
    have hj : j ≤ s.size := HFI.out.2
    clear HFI
    go_upto_region 2 with ((with_reducible refine hat.mono ?_); rintro e W5 ⟨A5, c5, rfl, n5, p5, g5⟩)
    have HL := Lib.hid (LocX.start p5 g5 n5)
    have HPL : Hid (pb < W1.heap.size) := Lib.hid HP1.out.lt
    clear hat n5 p5 g5
    generalize W5.alloc (.cells #[.int .u8 (x.tr.op : Int), .int .i64 x.tr.n, .slice A5 x.tr.subs.length c5] 35) = W6 at *
    generalize W5.heap.size = b3 at *
    go_loopg [7] (s.size + 1 - j) (fun k t7 wr => ∃ y l, Hid (k = s.size + 1 - l ∧ l ≤ s.size ∧ pr = starL s k y l ∧ LocX (butS S b2) W1 pb b3 s sy y l wr))
    case atStart => exact ⟨x, j, Lib.hid ⟨rfl, hj, HPR.out, HL.out⟩⟩
    case round =>
      clear HL HPR
      obtain ⟨y, l, HY⟩ := hrel
      have tk := HTK.out l (by have := HY.out.2.1; omega) wr HY.out.2.2.2.p
      obtain ⟨f, hf⟩ : ∃ f, gk = f + 1 := ⟨s.size - l, by have := HY.out.1; have := HY.out.2.1; omega⟩
      have HF := Lib.hid hf
      clear hf
      cases hz : takP s l 42 with
      | false =>
        rw [hz] at tk
        have hpr : pr = .ok y l := by have h := HY.out.2.2.1; rw [HF.out, starL, if_neg (by rw [hz]; decide)] at h; exact h
        have tk : Calls Tryd.prog 89 #[.pointer (some ⟨pb, 0, none⟩), .int .u8 42] wr (fun e w' => e = .returned (.bool false) ∧ ParP wr pb s l sy w') := tk
        have HL := Lib.hid HY.out.2.2.2
        clear hz HTK HY
        subst hpr
        go_upto_region 4 with ((with_reducible refine tk.mono ?_); rintro e W7 ⟨rfl, p7, g7⟩)
        have hL := HL.out.move HPL.out (fun h => HP.out.2.1 h.1) p7 g7
        obtain ⟨A, c, hb3, hn⟩ := hL.st
        have k0 := cell_of_blk hb3 0 (u := .int .u8 (y.tr.op : Int)) rfl
        have k1 := cell_of_blk hb3 1 (u := .int .i64 y.tr.n) rfl
        have k2 := cell_of_blk hb3 2 (u := .slice A y.tr.subs.length c) rfl
        have HL7 := Lib.hid (And.intro hL hn)
        clear tk p7 g7 hL hb3 hn
        go_wp2_with (with_reducible refine wpList_store_blk _ rfl 35 _ _ rfl b2 35 _ _ rfl rfl (blk_keep HB.out HL7.out.1.g HPB.out.1) (by kernel_rfl) (by kernel_rfl) (by kernel_rfl) ?_; intro w8 h8 g8)
        refine bodyPost_ret (results_cell_row rfl _ _ b2 35 _ (0, 0) _ (by simp [Act.put]) h8 Tryd.underlying35 rfl (by kernel_rfl)) rfl ?_
        exact ⟨A, c, rfl, (HL7.out.2.mono (fun b hb _ => hb.1)).past g8, HL7.out.1.p.keep g8 (Ne.symm HPB.out.1), grown_past (grown_trans (grown_of_ext HE1.out _) HL7.out.1.g) (by rw [HBW.out]; exact HPB.out.2) g8⟩
      | true =>
        rw [hz] at tk
        have hin := takP_in hz
        have HSt : Hid (pr = starL s f (.star y) (l + 1)) := Lib.hid (by have h := HY.out.2.2.1; rw [HF.out, starL, if_pos hz] at h; exact h)
        have tk : Calls Tryd.prog 89 #[.pointer (some ⟨pb, 0, none⟩), .int .u8 42] wr (fun e w' => e = .returned (.bool true) ∧ ParP wr pb s (l + 1) sy w') := tk
        clear hz HTK
        go_upto_region 3 with ((with_reducible refine tk.mono ?_); rintro e W7 ⟨rfl, p7, g7⟩)
        have hL := HY.out.2.2.2.move HPL.out (fun h => HP.out.2.1 h.1) p7 g7
        obtain ⟨A, c, hb3, hn⟩ := hL.st
        have k0 := cell_of_blk hb3 0 (u := .int .u8 (y.tr.op : Int)) rfl
        have k1 := cell_of_blk hb3 1 (u := .int .i64 y.tr.n) rfl
        have k2 := cell_of_blk hb3 2 (u := .slice A y.tr.subs.length c) rfl
        have hon := one6 (hL.new HS1.out) hn
        unfold MadeQ ndV at hon
        have HL7 := Lib.hid (And.intro hL hb3)
        have HGL : Hid (gk = s.size + 1 - l) := Lib.hid HY.out.1
        clear tk p7 g7 hL hb3 hn HY
        go_wp2_with (first | ((with_reducible refine hon.mono ?_); rintro e W8 ⟨A8, c8, rfl, n8, e8⟩) | (with_reducible refine wpList_store_blk _ rfl 35 _ _ rfl b3 35 _ _ rfl rfl (heap_ext e8 HL7.out.2) (by kernel_rfl) (by kernel_rfl) (by kernel_rfl) ?_; intro w9 h9 g9))
        go_roundg f
        case measure => have := HF.out; omega
        case rel =>
          refine ⟨.star y, l + 1, Lib.hid ⟨by have := HF.out; have := HGL.out; omega, by omega, HSt.out, ?_⟩⟩
          exact HL7.out.1.put (z := .star y) HPL.out (HL7.out.1.p.ext e8) (grown_of_ext e8 _) n8 h9 g9
end Go.Proofs.YtmebgomnmlbgnaaDoor

namespace Go.Proofs.YtmebgomnmlbgnaaDoor
open Go.RowKit
set_option linter.unusedVariables false
set_option linter.unusedSimpArgs false
attribute [local go_sem] Oper.quietV quietV Oper.gives givesV ext_refl_iff ext_alloc_iff ext_drew_iff ext_drewN_iff
set_option maxRecDepth 100000 in
set_option maxHeartbeats 16000000 in
theorem pnot_any {s : ByteArray} {sy : Nat} (hs : s.size ≤ 1000000) {rec : Nat → PR} {i : Nat} (hi : i ≤ s.size) (hst : ∀ k, i ≤ k → k ≤ s.size → ParS s sy 117 k (pStar s sy rec k)) (hfi : ∀ k, i ≤ k → k ≤ s.size → Fine s k (pStar s sy rec k)) : ParS s sy 115 i (pNot s sy rec i) := by
  intro S w pb hS hpb hP
  obtain ⟨pr, hpr⟩ : ∃ p, p = pNot s sy rec i := ⟨_, rfl⟩
  rw [← hpr]
  unfold pNot at hpr
  have HPR := Lib.hid hpr
  have HST := Lib.hid hst
  have HFI := Lib.hid hfi
  have HTF := Lib.hid (tildeL_fine (s := s) (s.size + 1 - i) i hi)
  have HTK := Lib.hid (fun (k : Nat) (hk : k ≤ 1000000) (w' : World) (h : PSt w' pb s k sy) => take_any 126 hs hk h)
  unfold TakQ at HTK
  have HS := Lib.hid hS
  have HP := Lib.hid (And.intro hP (And.intro hpb hP.lt))
  clear hst hfi hpr hS hP hpb
  go_enter Tryd.func115, Tryd.ntmps115
  go_upto_region 1 with fail
  refine wp_named ?_
  intro W1 hW1
  have hE1 : Ext w W1 := by rw [hW1]; exact alloc_ext _ _
  have hB : W1.heap[w.heap.size]? = some (.cells zNode 35 (0, 0)) := by rw [hW1]; exact heap_alloc_new _ _
  have HE1 := Lib.hid hE1
  have HB := Lib.hid hB
  have HP1 := Lib.hid (HP.out.1.ext hE1)
  have HPB : Hid (w.heap.size ≠ pb ∧ w.heap.size ≤ w.heap.size) := Lib.hid ⟨by have := HP.out.2.2; omega, Nat.le_refl _⟩
  have HS1 := Lib.hid (HS.out.but hE1 (lt_of_block hB))
  have HPL : Hid (pb < W1.heap.size) := Lib.hid HP1.out.lt
  clear hW1 hE1 hB HS
  generalize hb2 : w.heap.size = b2 at *
  have HBW := Lib.hid hb2
  clear hb2
  have HT0 : Hid (∃ t, t = tildeL s (s.size + 1 - i) i) := Lib.hid ⟨_, rfl⟩
  obtain ⟨t, ht⟩ := HT0.out
  have HTT := Lib.hid ht
  rw [← ht] at HTF HPR
  clear ht HT0
  go_upto_region 2 with fail
  go_loopg [3, 6] (s.size + 1 - i) (fun k t3 t6 wr => ∃ m : Nat, t3 = .int .i64 (m : Int) ∧ Hid (k = s.size + 1 - (i + m) ∧ i + m ≤ s.size ∧ t = m + tildeL s k (i + m) ∧ PSt wr pb s (i + m) sy ∧ W1.grownBy wr (some pb)))
  case atStart => exact ⟨0, by first | rfl | simp, Lib.hid ⟨by simp, by simpa using hi, by have := HTT.out; simpa using this, HP1.out, grown_of_ext (Ext.refl _) _⟩⟩
  case round =>
    obtain ⟨m, rfl, HY⟩ := hrel
    have tk := HTK.out (i + m) (by have := HY.out.2.1; omega) wr HY.out.2.2.2.1
    obtain ⟨f, hf⟩ : ∃ f, gk = f + 1 := ⟨s.size - (i + m), by have := HY.out.1; have := HY.out.2.1; omega⟩
    have HF := Lib.hid hf
    clear hf
    cases hz : takP s (i + m) 126 with
    | true =>
      rw [hz] at tk
      have hin := takP_in hz
      have HSt : Hid (t = (m + 1) + tildeL s f (i + (m + 1))) := Lib.hid (by have h := HY.out.2.2.1; rw [HF.out, tildeL, if_pos hz] at h; rw [h, show i + m + 1 = i + (m + 1) by omega]; omega)
      have tk : Calls Tryd.prog 89 #[.pointer (some ⟨pb, 0, none⟩), .int .u8 126] wr (fun e w' => e = .returned (.bool true) ∧ ParP wr pb s (i + m + 1) sy w') := tk
      have hm1 : (m : Int) < 1000001 := by omega
      clear hz
      go_wp2_with ((with_reducible refine tk.mono ?_); rintro e W7 ⟨rfl, p7, g7⟩)
      go_roundg f
      case measure => have := HF.out; omega
      case rel => exact ⟨m + 1, by go_num, Lib.hid ⟨by have := HF.out; have := HY.out.1; omega, by omega, HSt.out, p7, grown_trans HY.out.2.2.2.2 g7⟩⟩
    | false =>
      rw [hz] at tk
      have HM : Hid (t = m) := Lib.hid (by have h := HY.out.2.2.1; rw [HF.out, tildeL, if_neg (by rw [hz]; decide)] at h; exact h)
      have tk : Calls Tryd.prog 89 #[.pointer (some ⟨pb, 0, none⟩), .int .u8 126] wr (fun e w' => e = .returned (.bool false) ∧ ParP wr pb s (i + m) sy w') := tk
      have hm1 : (m : Int) < 1000001 := by have := HY.out.2.1; omega
      have HM1 : Hid (i + m ≤ s.size) := Lib.hid HY.out.2.1
      clear hz
      go_upto_region 4 with ((with_reducible refine tk.mono ?_); rintro e W7 ⟨rfl, p7, g7⟩)
      have HG7 := Lib.hid (grown_trans HY.out.2.2.2.2 g7)
      have hst := HST.out (i + m) (by omega) HM1.out (butS S b2) W7 pb (HS1.out.keep HG7.out) (fun h => HP.out.2.1 h.1) p7
      have HFI := Lib.hid (HFI.out (i + m) (by omega) HM1.out)
      have HPR : Hid (pr = notF m (pStar s sy rec (i + m))) := Lib.hid (by rw [HPR.out, HM.out])
      clear tk p7 g7 HY HST HTK HF HTF HTT
      generalize pStar s sy rec (i + m) = q at *
      cases q with
      | bad j =>
        have hpr : pr = .bad j := HPR.out
        subst hpr
        have hst : Calls Tryd.prog 117 _ W7 (fun e w' => e = .panicked wrongC ∧ ParP W7 pb s j sy w') := hst
        clear HPR HFI
        go_wp2_with ((with_reducible refine hst.mono ?_); rintro e W8 ⟨rfl, p8, g8⟩)
        exact ⟨rfl, rfl, p8, grown_trans (grown_of_ext HE1.out _) (grown_trans HG7.out g8)⟩
      | ok x j =>
        have hpr : pr = .ok (notN m x) j := HPR.out
        have hst : Calls Tryd.prog 117 _ W7 (fun e w' => ∃ A c, e = .returned (.agg #[.int .u8 (x.tr.op : Int), .int .i64 x.tr.n, .slice A x.tr.subs.length c]) ∧ NodeB (butS S b2) false w' x.tr (.agg #[.int .u8 (x.tr.op : Int), .int .i64 x.tr.n, .slice A x.tr.subs.length c]) ∧ ParP W7 pb s j sy w') := hst
        have HPR := Lib.hid hpr
        clear HFI hpr
        go_upto_region 5 with ((with_reducible refine hst.mono ?_); rintro e W5 ⟨A5, c5, rfl, n5, p5, g5⟩)
        have HL := Lib.hid (LocX.start p5 (grown_trans HG7.out g5) n5)
        clear hst n5 p5 g5
        generalize W5.alloc (.cells #[.int .u8 (x.tr.op : Int), .int .i64 x.tr.n, .slice A5 x.tr.subs.length c5] 35) = W6 at *
        generalize W5.heap.size = b3 at *
        go_upto_region 6 with fail
        go_loopg [12, 13] m (fun k t12 t13 wr => ∃ (v : Nat) (y : Rx), t12 = .int .i64 (v : Int) ∧ v ≤ m ∧ Hid (k = m - v ∧ notN m x = notN k y ∧ LocX (butS S b2) W1 pb b3 s sy y j wr))
        case atStart => exact ⟨0, x, by first | rfl | simp, Nat.zero_le _, Lib.hid ⟨by simp, rfl, HL.out⟩⟩
        case round =>
          clear HL
          obtain ⟨v, y, rfl, hv, HY⟩ := hrel
          by_cases hlt : v < m
          · have hlI : (v : Int) < (m : Int) := by omega
            obtain ⟨f, hf⟩ : ∃ f, gk = f + 1 := ⟨m - v - 1, by have := HY.out.1; omega⟩
            have HF := Lib.hid hf
            have hL := HY.out.2.2
            obtain ⟨A, c, hb3, hn⟩ := hL.st
            have k0 := cell_of_blk hb3 0 (u := .int .u8 (y.tr.op : Int)) rfl
            have k1 := cell_of_blk hb3 1 (u := .int .i64 y.tr.n) rfl
            have k2 := cell_of_blk hb3 2 (u := .slice A y.tr.subs.length c) rfl
            have hon := one7 (hL.new HS1.out) hn
            unfold MadeQ ndV at hon
            have HL7 := Lib.hid (And.intro hL hb3)
            have HNN : Hid (notN m x = notN f (.not y)) := Lib.hid (by rw [HY.out.2.1, HF.out]; rfl)
            have HGL : Hid (gk = m - v) := Lib.hid HY.out.1
            clear hf hL hb3 hn HY
            go_wp2_with (first | ((with_reducible refine hon.mono ?_); rintro e W8 ⟨A8, c8, rfl, n8, e8⟩) | (with_reducible refine wpList_store_blk _ rfl 35 _ _ rfl b3 35 _ _ rfl rfl (heap_ext e8 HL7.out.2) (by kernel_rfl) (by kernel_rfl) (by kernel_rfl) ?_; intro w9 h9 g9))
            go_roundg f
            case measure => have := HF.out; omega
            case rel =>
              refine ⟨v + 1, .not y, by go_num, by omega, Lib.hid ⟨by have := HF.out; have := HGL.out; omega, HNN.out, ?_⟩⟩
              exact HL7.out.1.put (z := .not y) HPL.out (HL7.out.1.p.ext e8) (grown_of_ext e8 _) n8 h9 g9
          · have hie : v = m := by omega
            subst hie
            have hlt2 : ¬ (v : Int) < (v : Int) := by omega
            have HPR : Hid (pr = .ok y j) := Lib.hid (by
              have h1 := HY.out.1
              have h2 := HY.out.2.1
              rw [Nat.sub_self] at h1
              rw [h1] at h2
              rw [HPR.out, h2]; rfl)
            have hpr := HPR.out
            subst hpr
            have hL := HY.out.2.2
            obtain ⟨A, c, hb3, hn⟩ := hL.st
            have k0 := cell_of_blk hb3 0 (u := .int .u8 (y.tr.op : Int)) rfl
            have k1 := cell_of_blk hb3 1 (u := .int .i64 y.tr.n) rfl
            have k2 := cell_of_blk hb3 2 (u := .slice A y.tr.subs.length c) rfl
            have HL7 := Lib.hid (And.intro hL hn)
            clear hL hb3 hn HY HPR hlt
            go_upto_region 9 with fail
            go_wp2_with (with_reducible refine wpList_store_blk _ rfl 35 _ _ rfl b2 35 _ _ rfl rfl (blk_keep HB.out HL7.out.1.g HPB.out.1) (by kernel_rfl) (by kernel_rfl) (by kernel_rfl) ?_; intro w8 h8 g8)
            refine bodyPost_ret (results_cell_row rfl _ _ b2 35 _ (0, 0) _ (by simp [Act.put]) h8 Tryd.underlying35 rfl (by kernel_rfl)) rfl ?_
            exact ⟨A, c, rfl, (HL7.out.2.mono (fun b hb _ => hb.1)).past g8, HL7.out.1.p.keep g8 (Ne.symm HPB.out.1), grown_past (grown_trans (grown_of_ext HE1.out _) HL7.out.1.g) (by rw [HBW.out]; exact HPB.out.2) g8⟩
end Go.Proofs.YtmebgomnmlbgnaaDoor
