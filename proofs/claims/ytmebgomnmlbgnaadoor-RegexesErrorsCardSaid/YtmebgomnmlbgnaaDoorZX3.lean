
import Derived.Test.YtmebgomnmlbgnaaDoorZK
set_option linter.unnecessarySimpa false
set_option linter.unusedSectionVars false
namespace Go.Proofs.YtmebgomnmlbgnaaDoor
open Go.RowKit Go.Maps
set_option linter.unusedVariables false
set_option linter.unusedSimpArgs false
attribute [local go_sem] Oper.quietV quietV Oper.gives givesV ext_refl_iff ext_alloc_iff ext_drew_iff ext_drewN_iff
theorem zero26 (w : World) : (zeroValue 26).run Tryd.prog w = .ok (.slice none 0 0) w := by kernel_rfl
theorem int_at {w : World} {A : Option Addr} {xs : List Int} (h : Cells w A (xs.map (.int .i64))) {k : Nat} {y : Int} (hk : xs[k]? = some y) : ∃ b o, A = some ⟨b, o, none⟩ ∧ w.cell? ⟨b, o + k, none⟩ = some (.int .i64 y) := by
  obtain ⟨hlt, rfl⟩ := List.getElem?_eq_some_iff.1 hk
  obtain ⟨b, o, hA, _, hc⟩ := h.at_int hlt
  exact ⟨b, o, hA, hc⟩
theorem zeroB (n : Nat) : Obj.cells ((zeroL n).map Value.bool).toArray 4 (0, 0) = Obj.cells (Array.replicate (n + 1) (.bool false)) 4 (0, 0) := by
  congr 1
  apply Array.ext'
  simp [zeroL]
set_option maxRecDepth 100000 in
set_option maxHeartbeats 16000000 in
theorem end_none {w0 : World} {vw : Value} {bk bw bf m cv : Nat} {root : Rx} {ws : List Int} (hI : IntsC w0 vw ws cv) (hr : root.cnt ≤ 64) (hl : ws.length ≤ 65536) : EndT w0 vw bk bw bf m root ws .none := by
  intro S K w v num frm hS hnum hf hE hN hM
  obtain ⟨hop, A, c, hv, hA, hnc, hnm⟩ := node_nodes hN
  have hcnt := nodeAt_lt hnum
  have hv : v = .agg #[.int .u8 0, .int .i64 0, .slice A 0 c] := hv
  subst hv
  obtain ⟨Aw, hvw, hci, hiw, hiv⟩ := id hI
  subst hvw
  have HN := Lib.hid (And.intro hnum (And.intro hE (And.intro hA (And.intro hM hS))))
  obtain ⟨es, hes, hme⟩ := id hM
  have HME := Lib.hid hme
  have hokp : okP (num, frm) := ⟨by show num ≤ 100000; omega, by show frm ≤ 100000; omega⟩
  clear hN hA hnc hnm hop hme hM hS hnum
  go_enter Tryd.func56, Tryd.ntmps56
  go_upto_region 2 with fail
  refine wp_named ?_
  intro W1 hW1
  have hE1 : Ext w W1 := by rw [hW1]; exact ((alloc_ext _ _).trans (alloc_ext _ _)).trans (alloc_ext _ _)
  have hB0 : W1.heap[w.heap.size]? = some (.cells #[.int .u8 0, .int .i64 0, .slice A 0 c] 35 (0, 0)) := by rw [hW1]; exact alloc3_0 _ _ _ _
  have hB1 : W1.heap[w.heap.size + 1]? = some (.cells #[.int .i64 (num : Int)] 3 (0, 0)) := by rw [hW1]; exact alloc3_1 _ _ _ _
  have hB2 : W1.heap[w.heap.size + 1 + 1]? = some (.cells #[.int .i64 (num : Int), .int .i64 (frm : Int)] 88 (0, 0)) := by rw [hW1]; exact alloc3_2 _ _ _ _
  have hsz : W1.heap.size = w.heap.size + 1 + 1 + 1 := by rw [hW1]; simp [go_sem]
  clear hW1
  have HSZ := Lib.hid hsz
  have HB := Lib.hid (And.intro hB0 (And.intro hB1 hB2))
  have HE1 := Lib.hid hE1
  have kk : ∀ w', Ext W1 w' → w'.cell? ⟨bk, 0, none⟩ = some (.map (some m)) := fun w' e => (hE1.trans e).cell (cell_of_blk hE.k 0 rfl)
  have kw : ∀ w', Ext W1 w' → w'.cell? ⟨bw, 0, none⟩ = some (.slice Aw ws.length cv) := fun w' e => (hE1.trans e).cell (cell_of_blk hE.w 0 rfl)
  have k0 : ∀ w', Ext W1 w' → w'.cell? ⟨w.heap.size, 0, none⟩ = some (.int .u8 0) := fun w' e => e.cell (cell_of_blk hB0 0 rfl)
  have p0 : ∀ w', Ext W1 w' → w'.cell? ⟨w.heap.size + 1 + 1, 0, none⟩ = some (.int .i64 (num : Int)) := fun w' e => e.cell (cell_of_blk hB2 0 rfl)
  have p1 : ∀ w', Ext W1 w' → w'.cell? ⟨w.heap.size + 1 + 1, 1, none⟩ = some (.int .i64 (frm : Int)) := fun w' e => e.cell (cell_of_blk hB2 1 rfl)
  have hR1 := Ext.refl W1
  have hes1 := hes.ext hE1
  have HES := Lib.hid hes
  clear hB0 hB1 hB2 hsz hE hes hE1
  obtain ⟨bn, hbn⟩ : ∃ b, b = w.heap.size := ⟨_, rfl⟩
  obtain ⟨bb, hbb⟩ : ∃ b, b = w.heap.size + 1 := ⟨_, rfl⟩
  obtain ⟨bp, hbp⟩ : ∃ b, b = w.heap.size + 1 + 1 := ⟨_, rfl⟩
  rw [← hbp] at p0 p1 ⊢
  rw [← hbb]
  rw [← hbn] at k0 ⊢
  have HBN := Lib.hid (And.intro hbn (And.intro hbb hbp))
  clear hbn hbb hbp
  have hmf : ∀ (fn : Fn) (first cap : Array Value) (w : World), (Instr.makeFunc fn first cap).run Tryd.prog w = .ok (.func fn first cap) w := fun _ _ _ _ => rfl
  cases hg : getG es (num, frm) with
  | some u =>
    have HG := Lib.hid hg
    clear hg
    go_wp2_with (at_lookup; refine wpList_lookup_g rfl _ _ 85 true rfl 26 key88 Tryd.underlying85 (zero26 _) rfl hes1 (num, frm) rfl hokp ?_; rw [HG.out]; simp only [Option.getD_some, Option.isSome_some, if_true])
    go_ret
    exact hit_done HN.out.2.2.2.1 HES.out HME.out HG.out HN.out.1 HE1.out
  | none =>
    have HG := Lib.hid hg
    clear hg
    have hmk : ∀ w', (Instr.makeSlice 26 (.int .i64 ((ws.length : Int) + 1)) (.int .i64 ((ws.length : Int) + 1))).run Tryd.prog w' = .ok (.slice (some ⟨w'.heap.size, 0, none⟩) (ws.length + 1) (ws.length + 1)) (w'.alloc (.cells (Array.replicate (ws.length + 1) (.bool false)) 4)) := fun w' => mk_bools (ws.length + 1) (by omega) w'
    go_upto_region 7 with (at_lookup; refine wpList_lookup_g rfl _ _ 85 true rfl 26 key88 Tryd.underlying85 (zero26 _) rfl hes1 (num, frm) rfl hokp ?_; rw [HG.out]; simp only [Option.getD_none, Option.isSome_none, if_true])
    refine wp_named ?_
    intro W2 hW2
    have hE2 : Ext W1 W2 := by rw [hW2]; exact alloc_ext _ _
    have h2 : MidM w0 (.slice Aw ws.length cv) bk bw bf m root ws S K num frm (Rx.cnt .none) #[.int .u8 0, .int .i64 0, .slice A 0 c] w (zeroL ws.length) W2 :=
      ⟨⟨lt_of_block HN.out.2.1.k, lt_of_block HN.out.2.1.w, lt_of_block HN.out.2.1.f, HES.out.lt, HN.out.2.1.ext.size⟩, grown_of_ext (HE1.out.trans hE2) _, HN.out.2.1.next (HE1.out.trans hE2), heap_ext hE2 HB.out.1, heap_ext hE2 HB.out.2.1, heap_ext hE2 HB.out.2.2, by rw [hW2]; show _ = _; rw [show w.heap.size + 3 = W1.heap.size from HSZ.out.symm, zeroB]; exact heap_alloc_new _ _, (miss_mem HES.out HME.out HG.out).ext (HE1.out.trans hE2)⟩
    have H2 := Lib.hid h2
    obtain ⟨bo, hbo⟩ : ∃ b, b = W1.heap.size := ⟨_, rfl⟩
    rw [← hbo]
    have HBO : Hid (bo = w.heap.size + 3) := Lib.hid (by rw [hbo, HSZ.out])
    clear kk kw k0 p0 p1 hR1 hes1 hW2 hE2 h2 HES HME HG HE1 HB HSZ hbo hmk hmf
    have H2 : Hid (MidM w0 (.slice Aw ws.length cv) bk bw bf m root ws S K num frm (Rx.cnt .none) #[.int .u8 0, .int .i64 0, .slice A 0 c] w (endsF ws .none frm) W2) := H2
    have kk : ∀ w', Ext W2 w' → w'.cell? ⟨bk, 0, none⟩ = some (.map (some m)) := fun w' e => e.cell (cell_of_blk H2.out.env.k 0 rfl)
    have kw : ∀ w', Ext W2 w' → w'.cell? ⟨bw, 0, none⟩ = some (.slice Aw ws.length cv) := fun w' e => e.cell (cell_of_blk H2.out.env.w 0 rfl)
    have k0 : ∀ w', Ext W2 w' → w'.cell? ⟨bn, 0, none⟩ = some (.int .u8 0) := fun w' e => e.cell (by rw [HBN.out.1]; exact cell_of_blk H2.out.nd 0 rfl)
    have p0 : ∀ w', Ext W2 w' → w'.cell? ⟨bp, 0, none⟩ = some (.int .i64 (num : Int)) := fun w' e => e.cell (by rw [HBN.out.2.2]; exact cell_of_blk H2.out.pl 0 rfl)
    have p1 : ∀ w', Ext W2 w' → w'.cell? ⟨bp, 1, none⟩ = some (.int .i64 (frm : Int)) := fun w' e => e.cell (by rw [HBN.out.2.2]; exact cell_of_blk H2.out.pl 1 rfl)
    have hRW := Ext.refl W2
    obtain ⟨es9, h91, h92⟩ := H2.out.mem
    have hg9 := miss_get h91 h92
    have H92 := Lib.hid h92
    clear h92
    go_wp2_with (at_mapUpdate; refine wpList_update_g rfl _ _ _ 85 rfl 26 key88 Tryd.underlying85 rfl h91 (num, frm) rfl hokp hg9 _ rfl ?_; intro w9 h9 g9)
    go_ret
    exact H2.out.done HN.out.2.2.2.2 HN.out.1 H92.out h91 HBO.out h9 g9
set_option maxRecDepth 100000 in
set_option maxHeartbeats 16000000 in
theorem end_empty {w0 : World} {vw : Value} {bk bw bf m cv : Nat} {root : Rx} {ws : List Int} (hI : IntsC w0 vw ws cv) (hr : root.cnt ≤ 64) (hl : ws.length ≤ 65536) : EndT w0 vw bk bw bf m root ws .empty := by
  intro S K w v num frm hS hnum hf hE hN hM
  obtain ⟨hop, A, c, hv, hA, hnc, hnm⟩ := node_nodes hN
  have hcnt := nodeAt_lt hnum
  have hv : v = .agg #[.int .u8 1, .int .i64 0, .slice A 0 c] := hv
  subst hv
  obtain ⟨Aw, hvw, hci, hiw, hiv⟩ := id hI
  subst hvw
  have HN := Lib.hid (And.intro hnum (And.intro hE (And.intro hA (And.intro hM hS))))
  obtain ⟨es, hes, hme⟩ := id hM
  have HME := Lib.hid hme
  have hokp : okP (num, frm) := ⟨by show num ≤ 100000; omega, by show frm ≤ 100000; omega⟩
  clear hN hA hnc hnm hop hme hM hS hnum
  go_enter Tryd.func56, Tryd.ntmps56
  go_upto_region 2 with fail
  refine wp_named ?_
  intro W1 hW1
  have hE1 : Ext w W1 := by rw [hW1]; exact ((alloc_ext _ _).trans (alloc_ext _ _)).trans (alloc_ext _ _)
  have hB0 : W1.heap[w.heap.size]? = some (.cells #[.int .u8 1, .int .i64 0, .slice A 0 c] 35 (0, 0)) := by rw [hW1]; exact alloc3_0 _ _ _ _
  have hB1 : W1.heap[w.heap.size + 1]? = some (.cells #[.int .i64 (num : Int)] 3 (0, 0)) := by rw [hW1]; exact alloc3_1 _ _ _ _
  have hB2 : W1.heap[w.heap.size + 1 + 1]? = some (.cells #[.int .i64 (num : Int), .int .i64 (frm : Int)] 88 (0, 0)) := by rw [hW1]; exact alloc3_2 _ _ _ _
  have hsz : W1.heap.size = w.heap.size + 1 + 1 + 1 := by rw [hW1]; simp [go_sem]
  clear hW1
  have HSZ := Lib.hid hsz
  have HB := Lib.hid (And.intro hB0 (And.intro hB1 hB2))
  have HE1 := Lib.hid hE1
  have kk : ∀ w', Ext W1 w' → w'.cell? ⟨bk, 0, none⟩ = some (.map (some m)) := fun w' e => (hE1.trans e).cell (cell_of_blk hE.k 0 rfl)
  have kw : ∀ w', Ext W1 w' → w'.cell? ⟨bw, 0, none⟩ = some (.slice Aw ws.length cv) := fun w' e => (hE1.trans e).cell (cell_of_blk hE.w 0 rfl)
  have k0 : ∀ w', Ext W1 w' → w'.cell? ⟨w.heap.size, 0, none⟩ = some (.int .u8 1) := fun w' e => e.cell (cell_of_blk hB0 0 rfl)
  have p0 : ∀ w', Ext W1 w' → w'.cell? ⟨w.heap.size + 1 + 1, 0, none⟩ = some (.int .i64 (num : Int)) := fun w' e => e.cell (cell_of_blk hB2 0 rfl)
  have p1 : ∀ w', Ext W1 w' → w'.cell? ⟨w.heap.size + 1 + 1, 1, none⟩ = some (.int .i64 (frm : Int)) := fun w' e => e.cell (cell_of_blk hB2 1 rfl)
  have hR1 := Ext.refl W1
  have hes1 := hes.ext hE1
  have HES := Lib.hid hes
  clear hB0 hB1 hB2 hsz hE hes hE1
  obtain ⟨bn, hbn⟩ : ∃ b, b = w.heap.size := ⟨_, rfl⟩
  obtain ⟨bb, hbb⟩ : ∃ b, b = w.heap.size + 1 := ⟨_, rfl⟩
  obtain ⟨bp, hbp⟩ : ∃ b, b = w.heap.size + 1 + 1 := ⟨_, rfl⟩
  rw [← hbp] at p0 p1 ⊢
  rw [← hbb]
  rw [← hbn] at k0 ⊢
  have HBN := Lib.hid (And.intro hbn (And.intro hbb hbp))
  clear hbn hbb hbp
  have hmf : ∀ (fn : Fn) (first cap : Array Value) (w : World), (Instr.makeFunc fn first cap).run Tryd.prog w = .ok (.func fn first cap) w := fun _ _ _ _ => rfl
  cases hg : getG es (num, frm) with
  | some u =>
    have HG := Lib.hid hg
    clear hg
    go_wp2_with (at_lookup; refine wpList_lookup_g rfl _ _ 85 true rfl 26 key88 Tryd.underlying85 (zero26 _) rfl hes1 (num, frm) rfl hokp ?_; rw [HG.out]; simp only [Option.getD_some, Option.isSome_some, if_true])
    go_ret
    exact hit_done HN.out.2.2.2.1 HES.out HME.out HG.out HN.out.1 HE1.out
  | none =>
    have HG := Lib.hid hg
    clear hg
    have hmk : ∀ w', (Instr.makeSlice 26 (.int .i64 ((ws.length : Int) + 1)) (.int .i64 ((ws.length : Int) + 1))).run Tryd.prog w' = .ok (.slice (some ⟨w'.heap.size, 0, none⟩) (ws.length + 1) (ws.length + 1)) (w'.alloc (.cells (Array.replicate (ws.length + 1) (.bool false)) 4)) := fun w' => mk_bools (ws.length + 1) (by omega) w'
    go_upto_region 7 with (at_lookup; refine wpList_lookup_g rfl _ _ 85 true rfl 26 key88 Tryd.underlying85 (zero26 _) rfl hes1 (num, frm) rfl hokp ?_; rw [HG.out]; simp only [Option.getD_none, Option.isSome_none, if_true])
    refine wp_named ?_
    intro W2 hW2
    have hE2 : Ext W1 W2 := by rw [hW2]; exact alloc_ext _ _
    have h2 : MidM w0 (.slice Aw ws.length cv) bk bw bf m root ws S K num frm (Rx.cnt .empty) #[.int .u8 1, .int .i64 0, .slice A 0 c] w (zeroL ws.length) W2 :=
      ⟨⟨lt_of_block HN.out.2.1.k, lt_of_block HN.out.2.1.w, lt_of_block HN.out.2.1.f, HES.out.lt, HN.out.2.1.ext.size⟩, grown_of_ext (HE1.out.trans hE2) _, HN.out.2.1.next (HE1.out.trans hE2), heap_ext hE2 HB.out.1, heap_ext hE2 HB.out.2.1, heap_ext hE2 HB.out.2.2, by rw [hW2]; show _ = _; rw [show w.heap.size + 3 = W1.heap.size from HSZ.out.symm, zeroB]; exact heap_alloc_new _ _, (miss_mem HES.out HME.out HG.out).ext (HE1.out.trans hE2)⟩
    have H2 := Lib.hid h2
    obtain ⟨bo, hbo⟩ : ∃ b, b = W1.heap.size := ⟨_, rfl⟩
    rw [← hbo]
    have HBO : Hid (bo = w.heap.size + 3) := Lib.hid (by rw [hbo, HSZ.out])
    clear kk kw k0 p0 p1 hR1 hes1 hW2 hE2 h2 HES HME HG HE1 HB HSZ hbo hmk hmf
    have kk : ∀ w', Ext W2 w' → w'.cell? ⟨bk, 0, none⟩ = some (.map (some m)) := fun w' e => e.cell (cell_of_blk H2.out.env.k 0 rfl)
    have kw : ∀ w', Ext W2 w' → w'.cell? ⟨bw, 0, none⟩ = some (.slice Aw ws.length cv) := fun w' e => e.cell (cell_of_blk H2.out.env.w 0 rfl)
    have k0 : ∀ w', Ext W2 w' → w'.cell? ⟨bn, 0, none⟩ = some (.int .u8 1) := fun w' e => e.cell (by rw [HBN.out.1]; exact cell_of_blk H2.out.nd 0 rfl)
    have p0 : ∀ w', Ext W2 w' → w'.cell? ⟨bp, 0, none⟩ = some (.int .i64 (num : Int)) := fun w' e => e.cell (by rw [HBN.out.2.2]; exact cell_of_blk H2.out.pl 0 rfl)
    have p1 : ∀ w', Ext W2 w' → w'.cell? ⟨bp, 1, none⟩ = some (.int .i64 (frm : Int)) := fun w' e => e.cell (by rw [HBN.out.2.2]; exact cell_of_blk H2.out.pl 1 rfl)
    have hRW := Ext.refl W2
    have hb := H2.out.out
    rw [← HBO.out] at hb
    have z0 := hb.cell (k := frm) (by rw [zeroL_len]; omega)
    have f0 := free_of_blk hb frm
    have hfI : (frm : Int) < (ws.length : Int) + 1 := by omega
    clear hb
    go_upto_region 49 with fail
    refine wp_named ?_
    intro W3 hW3
    have H3 : Hid (MidM w0 (.slice Aw ws.length cv) bk bw bf m root ws S K num frm (Rx.cnt .empty) #[.int .u8 1, .int .i64 0, .slice A 0 c] w (endsF ws .empty frm) W3) := Lib.hid (by rw [hW3, HBO.out]; exact H2.out.put frm true)
    clear kk kw k0 p0 p1 hRW z0 f0 hW3 H2
    have kk : ∀ w', Ext W3 w' → w'.cell? ⟨bk, 0, none⟩ = some (.map (some m)) := fun w' e => e.cell (cell_of_blk H3.out.env.k 0 rfl)
    have kw : ∀ w', Ext W3 w' → w'.cell? ⟨bw, 0, none⟩ = some (.slice Aw ws.length cv) := fun w' e => e.cell (cell_of_blk H3.out.env.w 0 rfl)
    have k0 : ∀ w', Ext W3 w' → w'.cell? ⟨bn, 0, none⟩ = some (.int .u8 1) := fun w' e => e.cell (by rw [HBN.out.1]; exact cell_of_blk H3.out.nd 0 rfl)
    have p0 : ∀ w', Ext W3 w' → w'.cell? ⟨bp, 0, none⟩ = some (.int .i64 (num : Int)) := fun w' e => e.cell (by rw [HBN.out.2.2]; exact cell_of_blk H3.out.pl 0 rfl)
    have p1 : ∀ w', Ext W3 w' → w'.cell? ⟨bp, 1, none⟩ = some (.int .i64 (frm : Int)) := fun w' e => e.cell (by rw [HBN.out.2.2]; exact cell_of_blk H3.out.pl 1 rfl)
    have hRW := Ext.refl W3
    obtain ⟨es9, h91, h92⟩ := H3.out.mem
    have hg9 := miss_get h91 h92
    have H92 := Lib.hid h92
    clear h92
    go_wp2_with (at_mapUpdate; refine wpList_update_g rfl _ _ _ 85 rfl 26 key88 Tryd.underlying85 rfl h91 (num, frm) rfl hokp hg9 _ rfl ?_; intro w9 h9 g9)
    go_ret
    exact H3.out.done HN.out.2.2.2.2 HN.out.1 H92.out h91 HBO.out h9 g9
set_option maxRecDepth 100000 in
set_option maxHeartbeats 16000000 in
theorem end_sym {w0 : World} {vw : Value} {bk bw bf m cv : Nat} {root : Rx} {ws : List Int} (hI : IntsC w0 vw ws cv) (hr : root.cnt ≤ 64) (hl : ws.length ≤ 65536) (a : Nat) : EndT w0 vw bk bw bf m root ws (.sym a) := by
  intro S K w v num frm hS hnum hf hE hN hM
  obtain ⟨hop, A, c, hv, hA, hnc, hnm⟩ := node_nodes hN
  have hcnt := nodeAt_lt hnum
  have hv : v = .agg #[.int .u8 2, .int .i64 (a : Int), .slice A 0 c] := hv
  subst hv
  obtain ⟨Aw, hvw, hci, hiw, hiv⟩ := id hI
  subst hvw
  have HN := Lib.hid (And.intro hnum (And.intro hE (And.intro hA (And.intro hM hS))))
  obtain ⟨es, hes, hme⟩ := id hM
  have HME := Lib.hid hme
  have hokp : okP (num, frm) := ⟨by show num ≤ 100000; omega, by show frm ≤ 100000; omega⟩
  clear hN hA hnc hnm hop hme hM hS hnum
  go_enter Tryd.func56, Tryd.ntmps56
  go_upto_region 2 with fail
  refine wp_named ?_
  intro W1 hW1
  have hE1 : Ext w W1 := by rw [hW1]; exact ((alloc_ext _ _).trans (alloc_ext _ _)).trans (alloc_ext _ _)
  have hB0 : W1.heap[w.heap.size]? = some (.cells #[.int .u8 2, .int .i64 (a : Int), .slice A 0 c] 35 (0, 0)) := by rw [hW1]; exact alloc3_0 _ _ _ _
  have hB1 : W1.heap[w.heap.size + 1]? = some (.cells #[.int .i64 (num : Int)] 3 (0, 0)) := by rw [hW1]; exact alloc3_1 _ _ _ _
  have hB2 : W1.heap[w.heap.size + 1 + 1]? = some (.cells #[.int .i64 (num : Int), .int .i64 (frm : Int)] 88 (0, 0)) := by rw [hW1]; exact alloc3_2 _ _ _ _
  have hsz : W1.heap.size = w.heap.size + 1 + 1 + 1 := by rw [hW1]; simp [go_sem]
  clear hW1
  have HSZ := Lib.hid hsz
  have HB := Lib.hid (And.intro hB0 (And.intro hB1 hB2))
  have HE1 := Lib.hid hE1
  have kk : ∀ w', Ext W1 w' → w'.cell? ⟨bk, 0, none⟩ = some (.map (some m)) := fun w' e => (hE1.trans e).cell (cell_of_blk hE.k 0 rfl)
  have kw : ∀ w', Ext W1 w' → w'.cell? ⟨bw, 0, none⟩ = some (.slice Aw ws.length cv) := fun w' e => (hE1.trans e).cell (cell_of_blk hE.w 0 rfl)
  have k0 : ∀ w', Ext W1 w' → w'.cell? ⟨w.heap.size, 0, none⟩ = some (.int .u8 2) := fun w' e => e.cell (cell_of_blk hB0 0 rfl)
  have p0 : ∀ w', Ext W1 w' → w'.cell? ⟨w.heap.size + 1 + 1, 0, none⟩ = some (.int .i64 (num : Int)) := fun w' e => e.cell (cell_of_blk hB2 0 rfl)
  have p1 : ∀ w', Ext W1 w' → w'.cell? ⟨w.heap.size + 1 + 1, 1, none⟩ = some (.int .i64 (frm : Int)) := fun w' e => e.cell (cell_of_blk hB2 1 rfl)
  have hR1 := Ext.refl W1
  have hes1 := hes.ext hE1
  have HES := Lib.hid hes
  clear hB0 hB1 hB2 hsz hE hes hE1
  obtain ⟨bn, hbn⟩ : ∃ b, b = w.heap.size := ⟨_, rfl⟩
  obtain ⟨bb, hbb⟩ : ∃ b, b = w.heap.size + 1 := ⟨_, rfl⟩
  obtain ⟨bp, hbp⟩ : ∃ b, b = w.heap.size + 1 + 1 := ⟨_, rfl⟩
  rw [← hbp] at p0 p1 ⊢
  rw [← hbb]
  rw [← hbn] at k0 ⊢
  have HBN := Lib.hid (And.intro hbn (And.intro hbb hbp))
  clear hbn hbb hbp
  have hmf : ∀ (fn : Fn) (first cap : Array Value) (w : World), (Instr.makeFunc fn first cap).run Tryd.prog w = .ok (.func fn first cap) w := fun _ _ _ _ => rfl
  cases hg : getG es (num, frm) with
  | some u =>
    have HG := Lib.hid hg
    clear hg
    go_wp2_with (at_lookup; refine wpList_lookup_g rfl _ _ 85 true rfl 26 key88 Tryd.underlying85 (zero26 _) rfl hes1 (num, frm) rfl hokp ?_; rw [HG.out]; simp only [Option.getD_some, Option.isSome_some, if_true])
    go_ret
    exact hit_done HN.out.2.2.2.1 HES.out HME.out HG.out HN.out.1 HE1.out
  | none =>
    have HG := Lib.hid hg
    clear hg
    have hmk : ∀ w', (Instr.makeSlice 26 (.int .i64 ((ws.length : Int) + 1)) (.int .i64 ((ws.length : Int) + 1))).run Tryd.prog w' = .ok (.slice (some ⟨w'.heap.size, 0, none⟩) (ws.length + 1) (ws.length + 1)) (w'.alloc (.cells (Array.replicate (ws.length + 1) (.bool false)) 4)) := fun w' => mk_bools (ws.length + 1) (by omega) w'
    go_upto_region 7 with (at_lookup; refine wpList_lookup_g rfl _ _ 85 true rfl 26 key88 Tryd.underlying85 (zero26 _) rfl hes1 (num, frm) rfl hokp ?_; rw [HG.out]; simp only [Option.getD_none, Option.isSome_none, if_true])
    refine wp_named ?_
    intro W2 hW2
    have hE2 : Ext W1 W2 := by rw [hW2]; exact alloc_ext _ _
    have h2 : MidM w0 (.slice Aw ws.length cv) bk bw bf m root ws S K num frm (Rx.cnt (.sym a)) #[.int .u8 2, .int .i64 (a : Int), .slice A 0 c] w (zeroL ws.length) W2 :=
      ⟨⟨lt_of_block HN.out.2.1.k, lt_of_block HN.out.2.1.w, lt_of_block HN.out.2.1.f, HES.out.lt, HN.out.2.1.ext.size⟩, grown_of_ext (HE1.out.trans hE2) _, HN.out.2.1.next (HE1.out.trans hE2), heap_ext hE2 HB.out.1, heap_ext hE2 HB.out.2.1, heap_ext hE2 HB.out.2.2, by rw [hW2]; show _ = _; rw [show w.heap.size + 3 = W1.heap.size from HSZ.out.symm, zeroB]; exact heap_alloc_new _ _, (miss_mem HES.out HME.out HG.out).ext (HE1.out.trans hE2)⟩
    have H2 := Lib.hid h2
    obtain ⟨bo, hbo⟩ : ∃ b, b = W1.heap.size := ⟨_, rfl⟩
    rw [← hbo]
    have HBO : Hid (bo = w.heap.size + 3) := Lib.hid (by rw [hbo, HSZ.out])
    clear kk kw k0 p0 p1 hR1 hes1 hW2 hE2 h2 HES HME HG HE1 HB HSZ hbo hmk hmf
    have kk : ∀ w', Ext W2 w' → w'.cell? ⟨bk, 0, none⟩ = some (.map (some m)) := fun w' e => e.cell (cell_of_blk H2.out.env.k 0 rfl)
    have kw : ∀ w', Ext W2 w' → w'.cell? ⟨bw, 0, none⟩ = some (.slice Aw ws.length cv) := fun w' e => e.cell (cell_of_blk H2.out.env.w 0 rfl)
    have k0 : ∀ w', Ext W2 w' → w'.cell? ⟨bn, 0, none⟩ = some (.int .u8 2) := fun w' e => e.cell (by rw [HBN.out.1]; exact cell_of_blk H2.out.nd 0 rfl)
    have p0 : ∀ w', Ext W2 w' → w'.cell? ⟨bp, 0, none⟩ = some (.int .i64 (num : Int)) := fun w' e => e.cell (by rw [HBN.out.2.2]; exact cell_of_blk H2.out.pl 0 rfl)
    have p1 : ∀ w', Ext W2 w' → w'.cell? ⟨bp, 1, none⟩ = some (.int .i64 (frm : Int)) := fun w' e => e.cell (by rw [HBN.out.2.2]; exact cell_of_blk H2.out.pl 1 rfl)
    have hRW := Ext.refl W2
    have k1 : ∀ w', Ext W2 w' → w'.cell? ⟨bn, 1, none⟩ = some (.int .i64 (a : Int)) := fun w' e => e.cell (by rw [HBN.out.1]; exact cell_of_blk H2.out.nd 1 rfl)
    by_cases hlt : frm < ws.length
    · have hltI : (frm : Int) < (ws.length : Int) := by omega
      obtain ⟨y, hy⟩ : ∃ y, ws[frm]? = some y := ⟨_, List.getElem?_eq_getElem hlt⟩
      obtain ⟨bi, oi, hAw, c0⟩ := int_at hci hy
      have HAW := Lib.hid hAw
      have kw9 : ∀ w', Ext W2 w' → w'.cell? ⟨bw, 0, none⟩ = some (.slice (some ⟨bi, oi, none⟩) ws.length cv) := fun w' e => by rw [← HAW.out]; exact kw w' e
      clear kw
      have kw := kw9
      clear kw9
      have c0 : ∀ w', Ext W2 w' → w'.cell? ⟨bi, oi + frm, none⟩ = some (.int .i64 y) := fun w' e => (H2.out.env.ext.trans e).cell c0
      have HY := Lib.hid hy
      clear hy hci hI hAw
      by_cases hya : y = (a : Int)
      · subst hya
        go_upto_region 11 with fail
        refine wp_named ?_
        intro W3 hW3
        have hW3 : W3 = W2 := hW3
        subst hW3
        refine wp_region_ext 11 (factsOf []) (fun k => ([[], [], [1], [0, 1, 2], [0, 1, 2, 3], [0, 1, 2, 3, 4], [0, 1, 2, 3, 4], [0, 1, 2, 3, 4, 5, 6], [0, 1, 2, 3, 4, 5, 6, 7], [0, 1, 2, 3, 4], [0, 1, 2, 3, 4, 9], [0, 1, 2, 3, 4, 5, 6, 7, 8, 9, 10], [0, 1, 2, 3, 4, 5, 6, 7, 8, 9, 10, 11]] : List (List Nat)).getD k []) (by kernel_rfl) (by kernel_rfl) Ext.pre (mono_nil) ?_
        simp only [List.take_succ_cons, List.take_zero]
        repeat (first | (with_reducible refine lexL_quiet' (v := ?_) ?_ ?_ ?_ ?_; rotate_left; (· with_reducible rfl); (· simp [factsOf]); (· intro w1 hw1 _; go_simp; with_reducible rfl); (try simp only [Act.put, List.setIfInBounds_toArray, List.set_cons_zero, List.set_cons_succ])) | (with_reducible refine lexL_skip ?_ ?_; (· simp [Region.wanted, yielded, undef]); (try simp only [Act.put, List.setIfInBounds_toArray, List.set_cons_zero, List.set_cons_succ])) | (with_reducible refine lexL_quiet (v := ?_) ?_ ?_ ?_ ?_; rotate_left; (· simp [Region.wanted, yielded, undef]); (· simp [factsOf]); (· intro w1 hw1 _; go_simp; with_reducible rfl); (try simp only [Act.put, List.setIfInBounds_toArray, List.set_cons_zero, List.set_cons_succ])))
        with_reducible refine lexL_nil ?_; intro w1 hw1 hk1; simp only [List.drop_succ_cons, List.drop_zero]
        have H2 := Lib.hid (H2.out.next hw1)
        have hb := H2.out.out
        rw [← HBO.out] at hb
        have z0 := hb.cell (k := frm + 1) (by rw [zeroL_len]; omega)
        have f0 := free_of_blk hb (frm + 1)
        have hfI : (frm : Int) + 1 < (ws.length : Int) + 1 := by omega
        clear hb
        go_upto_region 49 with fail
        refine wp_named ?_
        intro W4 hW4
        have H3 : Hid (MidM w0 (.slice Aw ws.length cv) bk bw bf m root ws S K num frm (Rx.cnt (.sym a)) #[.int .u8 2, .int .i64 (a : Int), .slice A 0 c] w (endsF ws (.sym a) frm) W4) := Lib.hid (by rw [hW4, HBO.out]; unfold endsF; rw [if_pos HY.out]; exact H2.out.put (frm + 1) true)
        clear kk kw k0 p0 p1 hRW z0 f0 hW4 H2 k1 c0 hw1 hk1
        have kk : ∀ w', Ext W4 w' → w'.cell? ⟨bk, 0, none⟩ = some (.map (some m)) := fun w' e => e.cell (cell_of_blk H3.out.env.k 0 rfl)
        have kw : ∀ w', Ext W4 w' → w'.cell? ⟨bw, 0, none⟩ = some (.slice Aw ws.length cv) := fun w' e => e.cell (cell_of_blk H3.out.env.w 0 rfl)
        have k0 : ∀ w', Ext W4 w' → w'.cell? ⟨bn, 0, none⟩ = some (.int .u8 2) := fun w' e => e.cell (by rw [HBN.out.1]; exact cell_of_blk H3.out.nd 0 rfl)
        have p0 : ∀ w', Ext W4 w' → w'.cell? ⟨bp, 0, none⟩ = some (.int .i64 (num : Int)) := fun w' e => e.cell (by rw [HBN.out.2.2]; exact cell_of_blk H3.out.pl 0 rfl)
        have p1 : ∀ w', Ext W4 w' → w'.cell? ⟨bp, 1, none⟩ = some (.int .i64 (frm : Int)) := fun w' e => e.cell (by rw [HBN.out.2.2]; exact cell_of_blk H3.out.pl 1 rfl)
        have hRW := Ext.refl W4
        obtain ⟨es9, h91, h92⟩ := H3.out.mem
        have hg9 := miss_get h91 h92
        have H92 := Lib.hid h92
        clear h92
        go_wp2_with (at_mapUpdate; refine wpList_update_g rfl _ _ _ 85 rfl 26 key88 Tryd.underlying85 rfl h91 (num, frm) rfl hokp hg9 _ rfl ?_; intro w9 h9 g9)
        go_ret
        exact H3.out.done HN.out.2.2.2.2 HN.out.1 H92.out h91 HBO.out h9 g9
      · have hya2 : ¬ ((y : Int) == (a : Int)) = true := by simpa using hya
        go_upto_region 11 with fail
        refine wp_named ?_
        intro W3 hW3
        have hW3 : W3 = W2 := hW3
        subst hW3
        refine wp_region_ext 11 (factsOf []) (fun k => ([[], [], [1], [0, 1, 2], [0, 1, 2, 3], [0, 1, 2, 3, 4], [0, 1, 2, 3, 4], [0, 1, 2, 3, 4, 5, 6], [0, 1, 2, 3, 4, 5, 6, 7], [0, 1, 2, 3, 4], [0, 1, 2, 3, 4, 9], [0, 1, 2, 3, 4, 5, 6, 7, 8, 9, 10], [0, 1, 2, 3, 4, 5, 6, 7, 8, 9, 10, 11]] : List (List Nat)).getD k []) (by kernel_rfl) (by kernel_rfl) Ext.pre (mono_nil) ?_
        simp only [List.take_succ_cons, List.take_zero]
        repeat (first | (with_reducible refine lexL_quiet' (v := ?_) ?_ ?_ ?_ ?_; rotate_left; (· with_reducible rfl); (· simp [factsOf]); (· intro w1 hw1 _; go_simp; with_reducible rfl); (try simp only [Act.put, List.setIfInBounds_toArray, List.set_cons_zero, List.set_cons_succ])) | (with_reducible refine lexL_skip ?_ ?_; (· simp [Region.wanted, yielded, undef]); (try simp only [Act.put, List.setIfInBounds_toArray, List.set_cons_zero, List.set_cons_succ])) | (with_reducible refine lexL_quiet (v := ?_) ?_ ?_ ?_ ?_; rotate_left; (· simp [Region.wanted, yielded, undef]); (· simp [factsOf]); (· intro w1 hw1 _; go_simp; with_reducible rfl); (try simp only [Act.put, List.setIfInBounds_toArray, List.set_cons_zero, List.set_cons_succ])))
        with_reducible refine lexL_nil ?_; intro w1 hw1 hk1; simp only [List.drop_succ_cons, List.drop_zero]
        have H3 : Hid (MidM w0 (.slice Aw ws.length cv) bk bw bf m root ws S K num frm (Rx.cnt (.sym a)) #[.int .u8 2, .int .i64 (a : Int), .slice A 0 c] w (endsF ws (.sym a) frm) w1) := Lib.hid (by unfold endsF; rw [if_neg (by rw [HY.out]; intro e; injection e with e; exact hya e)]; exact H2.out.next hw1)
        clear kk kw k0 p0 p1 hRW H2 hw1 hk1
        have kk : ∀ w', Ext w1 w' → w'.cell? ⟨bk, 0, none⟩ = some (.map (some m)) := fun w' e => e.cell (cell_of_blk H3.out.env.k 0 rfl)
        have kw : ∀ w', Ext w1 w' → w'.cell? ⟨bw, 0, none⟩ = some (.slice Aw ws.length cv) := fun w' e => e.cell (cell_of_blk H3.out.env.w 0 rfl)
        have k0 : ∀ w', Ext w1 w' → w'.cell? ⟨bn, 0, none⟩ = some (.int .u8 2) := fun w' e => e.cell (by rw [HBN.out.1]; exact cell_of_blk H3.out.nd 0 rfl)
        have p0 : ∀ w', Ext w1 w' → w'.cell? ⟨bp, 0, none⟩ = some (.int .i64 (num : Int)) := fun w' e => e.cell (by rw [HBN.out.2.2]; exact cell_of_blk H3.out.pl 0 rfl)
        have p1 : ∀ w', Ext w1 w' → w'.cell? ⟨bp, 1, none⟩ = some (.int .i64 (frm : Int)) := fun w' e => e.cell (by rw [HBN.out.2.2]; exact cell_of_blk H3.out.pl 1 rfl)
        have hRW := Ext.refl w1
        obtain ⟨es9, h91, h92⟩ := H3.out.mem
        have hg9 := miss_get h91 h92
        have H92 := Lib.hid h92
        clear h92
        go_wp2_with (at_mapUpdate; refine wpList_update_g rfl _ _ _ 85 rfl 26 key88 Tryd.underlying85 rfl h91 (num, frm) rfl hokp hg9 _ rfl ?_; intro w9 h9 g9)
        go_ret
        exact H3.out.done HN.out.2.2.2.2 HN.out.1 H92.out h91 HBO.out h9 g9
    · have hltI : ¬ (frm : Int) < (ws.length : Int) := by omega
      have HY : Hid (ws[frm]? = none) := Lib.hid (List.getElem?_eq_none (by omega))
      clear hI hci
      go_upto_region 11 with fail
      refine wp_named ?_
      intro W3 hW3
      have hW3 : W3 = W2 := hW3
      subst hW3
      refine wp_region_ext 11 (factsOf []) (fun k => ([[], [], [1], [0, 1, 2], [0, 1, 2, 3], [0, 1, 2, 3, 4], [0, 1, 2, 3, 4], [0, 1, 2, 3, 4, 5, 6], [0, 1, 2, 3, 4, 5, 6, 7], [0, 1, 2, 3, 4], [0, 1, 2, 3, 4, 9], [0, 1, 2, 3, 4, 5, 6, 7, 8, 9, 10], [0, 1, 2, 3, 4, 5, 6, 7, 8, 9, 10, 11]] : List (List Nat)).getD k []) (by kernel_rfl) (by kernel_rfl) Ext.pre (mono_nil) ?_
      simp only [List.take_succ_cons, List.take_zero]
      repeat (first | (with_reducible refine lexL_quiet' (v := ?_) ?_ ?_ ?_ ?_; rotate_left; (· with_reducible rfl); (· simp [factsOf]); (· intro w1 hw1 _; go_simp; with_reducible rfl); (try simp only [Act.put, List.setIfInBounds_toArray, List.set_cons_zero, List.set_cons_succ])) | (with_reducible refine lexL_skip ?_ ?_; (· simp [Region.wanted, yielded, undef]); (try simp only [Act.put, List.setIfInBounds_toArray, List.set_cons_zero, List.set_cons_succ])) | (with_reducible refine lexL_quiet (v := ?_) ?_ ?_ ?_ ?_; rotate_left; (· simp [Region.wanted, yielded, undef]); (· simp [factsOf]); (· intro w1 hw1 _; go_simp; with_reducible rfl); (try simp only [Act.put, List.setIfInBounds_toArray, List.set_cons_zero, List.set_cons_succ])))
      with_reducible refine lexL_nil ?_; intro w1 hw1 hk1; simp only [List.drop_succ_cons, List.drop_zero]
      have H3 : Hid (MidM w0 (.slice Aw ws.length cv) bk bw bf m root ws S K num frm (Rx.cnt (.sym a)) #[.int .u8 2, .int .i64 (a : Int), .slice A 0 c] w (endsF ws (.sym a) frm) w1) := Lib.hid (by unfold endsF; rw [if_neg (by rw [HY.out]; intro e; cases e)]; exact H2.out.next hw1)
      clear kk kw k0 p0 p1 hRW H2 hw1 hk1
      have kk : ∀ w', Ext w1 w' → w'.cell? ⟨bk, 0, none⟩ = some (.map (some m)) := fun w' e => e.cell (cell_of_blk H3.out.env.k 0 rfl)
      have kw : ∀ w', Ext w1 w' → w'.cell? ⟨bw, 0, none⟩ = some (.slice Aw ws.length cv) := fun w' e => e.cell (cell_of_blk H3.out.env.w 0 rfl)
      have k0 : ∀ w', Ext w1 w' → w'.cell? ⟨bn, 0, none⟩ = some (.int .u8 2) := fun w' e => e.cell (by rw [HBN.out.1]; exact cell_of_blk H3.out.nd 0 rfl)
      have p0 : ∀ w', Ext w1 w' → w'.cell? ⟨bp, 0, none⟩ = some (.int .i64 (num : Int)) := fun w' e => e.cell (by rw [HBN.out.2.2]; exact cell_of_blk H3.out.pl 0 rfl)
      have p1 : ∀ w', Ext w1 w' → w'.cell? ⟨bp, 1, none⟩ = some (.int .i64 (frm : Int)) := fun w' e => e.cell (by rw [HBN.out.2.2]; exact cell_of_blk H3.out.pl 1 rfl)
      have hRW := Ext.refl w1
      obtain ⟨es9, h91, h92⟩ := H3.out.mem
      have hg9 := miss_get h91 h92
      have H92 := Lib.hid h92
      clear h92
      go_wp2_with (at_mapUpdate; refine wpList_update_g rfl _ _ _ 85 rfl 26 key88 Tryd.underlying85 rfl h91 (num, frm) rfl hokp hg9 _ rfl ?_; intro w9 h9 g9)
      go_ret
      exact H3.out.done HN.out.2.2.2.2 HN.out.1 H92.out h91 HBO.out h9 g9
end Go.Proofs.YtmebgomnmlbgnaaDoor
