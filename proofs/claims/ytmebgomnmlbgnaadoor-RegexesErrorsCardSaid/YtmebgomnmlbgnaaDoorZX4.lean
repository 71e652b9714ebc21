
import Derived.Test.YtmebgomnmlbgnaaDoorZX3
set_option linter.unnecessarySimpa false
set_option linter.unusedSectionVars false
namespace Go.Proofs.YtmebgomnmlbgnaaDoor
open Go.RowKit Go.Maps
set_option linter.unusedVariables false
set_option linter.unusedSimpArgs false
attribute [local go_sem] Oper.quietV quietV Oper.gives givesV ext_refl_iff ext_alloc_iff ext_drew_iff ext_drewN_iff
set_option maxRecDepth 100000 in
set_option maxHeartbeats 16000000 in
theorem end_or {w0 : World} {vw : Value} {bk bw bf m cv : Nat} {root : Rx} {ws : List Int} (hI : IntsC w0 vw ws cv) (hr : root.cnt ≤ 64) (hl : ws.length ≤ 65536) {x y : Rx} (hx : EndT w0 vw bk bw bf m root ws x) (hy : EndT w0 vw bk bw bf m root ws y) : EndT w0 vw bk bw bf m root ws (.or x y) := by
  intro S K w v num frm hS hnum hf hE hN hM
  obtain ⟨hop, A, c, hv, hA, hnc, hnm⟩ := node_nodes hN
  have hcnt := nodeAt_lt hnum
  have hv : v = .agg #[.int .u8 3, .int .i64 0, .slice A 2 c] := hv
  subst hv
  obtain ⟨Aw, hvw, hci, hiw, hiv⟩ := id hI
  subst hvw
  have HN := Lib.hid (And.intro hnum (And.intro hE (And.intro hA (And.intro hM hS))))
  obtain ⟨es, hes, hme⟩ := id hM
  have HME := Lib.hid hme
  have hokp : okP (num, frm) := ⟨by show num ≤ 100000; omega, by show frm ≤ 100000; omega⟩
  clear hN hA hnc hnm hop hme hM hS hnum
  go_enter Tryd.func56, Tryd.ntmps56
  go_upto_region 2 with fail
  refine wp_named ?_
  intro W1 hW1
  have hE1 : Ext w W1 := by rw [hW1]; exact ((alloc_ext _ _).trans (alloc_ext _ _)).trans (alloc_ext _ _)
  have hB0 : W1.heap[w.heap.size]? = some (.cells #[.int .u8 3, .int .i64 0, .slice A 2 c] 35 (0, 0)) := by rw [hW1]; exact alloc3_0 _ _ _ _
  have hB1 : W1.heap[w.heap.size + 1]? = some (.cells #[.int .i64 (num : Int)] 3 (0, 0)) := by rw [hW1]; exact alloc3_1 _ _ _ _
  have hB2 : W1.heap[w.heap.size + 1 + 1]? = some (.cells #[.int .i64 (num : Int), .int .i64 (frm : Int)] 88 (0, 0)) := by rw [hW1]; exact alloc3_2 _ _ _ _
  have hsz : W1.heap.size = w.heap.size + 1 + 1 + 1 := by rw [hW1]; simp [go_sem]
  clear hW1
  have HSZ := Lib.hid hsz
  have HB := Lib.hid (And.intro hB0 (And.intro hB1 hB2))
  have HE1 := Lib.hid hE1
  have kk : ∀ w', Ext W1 w' → w'.cell? ⟨bk, 0, none⟩ = some (.map (some m)) := fun w' e => (hE1.trans e).cell (cell_of_blk hE.k 0 rfl)
  have kw : ∀ w', Ext W1 w' → w'.cell? ⟨bw, 0, none⟩ = some (.slice Aw ws.length cv) := fun w' e => (hE1.trans e).cell (cell_of_blk hE.w 0 rfl)
  have k0 : ∀ w', Ext W1 w' → w'.cell? ⟨w.heap.size, 0, none⟩ = some (.int .u8 3) := fun w' e => e.cell (cell_of_blk hB0 0 rfl)
  have p0 : ∀ w', Ext W1 w' → w'.cell? ⟨w.heap.size + 1 + 1, 0, none⟩ = some (.int .i64 (num : Int)) := fun w' e => e.cell (cell_of_blk hB2 0 rfl)
  have p1 : ∀ w', Ext W1 w' → w'.cell? ⟨w.heap.size + 1 + 1, 1, none⟩ = some (.int .i64 (frm : Int)) := fun w' e => e.cell (cell_of_blk hB2 1 rfl)
  have hR1 := Ext.refl W1
  have hes1 := hes.ext hE1
  have HES := Lib.hid hes
  clear hB0 hB1 hB2 hsz hE hes hE1
  obtain ⟨bn, hbn⟩ : ∃ b, b = w.heap.size := ⟨_, rfl⟩
  obtain ⟨bb, hbb⟩ : ∃ b, b = w.heap.size + 1 := ⟨_, rfl⟩
  obtain ⟨bp, hbp⟩ : ∃ b, b = w.heap.size + 1 + 1 := ⟨_, rfl⟩
  rw [← hbp] at p0 p1 ⊢
  rw [← hbb]
  rw [← hbn] at k0 ⊢
  have HBN := Lib.hid (And.intro hbn (And.intro hbb hbp))
  clear hbn hbb hbp
  have hmf : ∀ (fn : Fn) (first cap : Array Value) (w : World), (Instr.makeFunc fn first cap).run Tryd.prog w = .ok (.func fn first cap) w := fun _ _ _ _ => rfl
  cases hg : getG es (num, frm) with
  | some u =>
    have HG := Lib.hid hg
    clear hg
    go_wp2_with (at_lookup; refine wpList_lookup_g rfl _ _ 85 true rfl 26 key88 Tryd.underlying85 (zero26 _) rfl hes1 (num, frm) rfl hokp ?_; rw [HG.out]; simp only [Option.getD_some, Option.isSome_some, if_true])
    go_ret
    exact hit_done HN.out.2.2.2.1 HES.out HME.out HG.out HN.out.1 HE1.out
  | none =>
    have HG := Lib.hid hg
    clear hg
    have hmk : ∀ w', (Instr.makeSlice 26 (.int .i64 ((ws.length : Int) + 1)) (.int .i64 ((ws.length : Int) + 1))).run Tryd.prog w' = .ok (.slice (some ⟨w'.heap.size, 0, none⟩) (ws.length + 1) (ws.length + 1)) (w'.alloc (.cells (Array.replicate (ws.length + 1) (.bool false)) 4)) := fun w' => mk_bools (ws.length + 1) (by omega) w'
    go_upto_region 7 with (at_lookup; refine wpList_lookup_g rfl _ _ 85 true rfl 26 key88 Tryd.underlying85 (zero26 _) rfl hes1 (num, frm) rfl hokp ?_; rw [HG.out]; simp only [Option.getD_none, Option.isSome_none, if_true])
    refine wp_named ?_
    intro W2 hW2
    have hE2 : Ext W1 W2 := by rw [hW2]; exact alloc_ext _ _
    have h2 : MidM w0 (.slice Aw ws.length cv) bk bw bf m root ws S K num frm (Rx.cnt (.or x y)) #[.int .u8 3, .int .i64 0, .slice A 2 c] w (zeroL ws.length) W2 :=
      ⟨⟨lt_of_block HN.out.2.1.k, lt_of_block HN.out.2.1.w, lt_of_block HN.out.2.1.f, HES.out.lt, HN.out.2.1.ext.size⟩, grown_of_ext (HE1.out.trans hE2) _, HN.out.2.1.next (HE1.out.trans hE2), heap_ext hE2 HB.out.1, heap_ext hE2 HB.out.2.1, heap_ext hE2 HB.out.2.2, by rw [hW2]; show _ = _; rw [show w.heap.size + 3 = W1.heap.size from HSZ.out.symm, zeroB]; exact heap_alloc_new _ _, (miss_mem HES.out HME.out HG.out).ext (HE1.out.trans hE2)⟩
    have H2 := Lib.hid h2
    obtain ⟨bo, hbo⟩ : ∃ b, b = W1.heap.size := ⟨_, rfl⟩
    rw [← hbo]
    have HBO : Hid (bo = w.heap.size + 3) := Lib.hid (by rw [hbo, HSZ.out])
    clear kk kw k0 p0 p1 hR1 hes1 hW2 hE2 h2 HES HME HG HE1 HB HSZ hbo hmk hmf
    have kk : ∀ w', Ext W2 w' → w'.cell? ⟨bk, 0, none⟩ = some (.map (some m)) := fun w' e => e.cell (cell_of_blk H2.out.env.k 0 rfl)
    have kw : ∀ w', Ext W2 w' → w'.cell? ⟨bw, 0, none⟩ = some (.slice Aw ws.length cv) := fun w' e => e.cell (cell_of_blk H2.out.env.w 0 rfl)
    have k0 : ∀ w', Ext W2 w' → w'.cell? ⟨bn, 0, none⟩ = some (.int .u8 3) := fun w' e => e.cell (by rw [HBN.out.1]; exact cell_of_blk H2.out.nd 0 rfl)
    have p0 : ∀ w', Ext W2 w' → w'.cell? ⟨bp, 0, none⟩ = some (.int .i64 (num : Int)) := fun w' e => e.cell (by rw [HBN.out.2.2]; exact cell_of_blk H2.out.pl 0 rfl)
    have p1 : ∀ w', Ext W2 w' → w'.cell? ⟨bp, 1, none⟩ = some (.int .i64 (frm : Int)) := fun w' e => e.cell (by rw [HBN.out.2.2]; exact cell_of_blk H2.out.pl 1 rfl)
    have hRW := Ext.refl W2
    have hc1 := sub0_any (s := .or x y) (t := x) rfl hx H2.out.env (by exact cell_of_blk H2.out.nb 0 rfl) (cell_of_blk H2.out.nd 2 rfl) HN.out.2.2.1 HN.out.1 hf (H2.out.new HN.out.2.2.2.2) H2.out.mem hr
    have HC2 := (fun W3 (H3 : MidM w0 (.slice Aw ws.length cv) bk bw bf m root ws S K num frm (Rx.cnt (.or x y)) #[.int .u8 3, .int .i64 0, .slice A 2 c] w (zeroL ws.length) W3) => sub1_any (s := .or x y) (t := y) rfl hy H3.env (by exact cell_of_blk H3.nb 0 rfl) (cell_of_blk H3.nd 2 rfl) HN.out.2.2.1 HN.out.1 hf (H3.new HN.out.2.2.2.2) H3.mem hr)
    rw [← HBN.out.2.1, ← HBN.out.1] at hc1 HC2
    unfold EndQ at hc1 HC2
    have HC3 := Lib.hid HC2
    clear HC2
    have hqc : Rx.cnt (.or x y) = x.cnt + y.cnt + 1 := rfl
    have hqo : offOf (.or x y) 1 = x.cnt + 1 := rfl
    clear hx hy hI hci
    go_upto_region 17 with (first
      | ((with_reducible refine hc1.mono ?_); rintro e W3 ⟨b1, rfl, s1, o1, g1, m1⟩
         have H3 := Lib.hid (H2.out.sub (t := x) (by omega) (by omega) g1 m1)
         have hc2 := HC3.out W3 H3.out)
      | ((with_reducible refine hc2.mono ?_); rintro e W4 ⟨b2, rfl, s2, o2, g2, m2⟩))
    have H4 := Lib.hid (H3.out.sub (t := y) (by omega) (by omega) g2 m2)
    have o1 := H3.out.other o1 g2
    obtain ⟨f, hfd⟩ : ∃ f : Nat → Bool, f = fun k => (endsF ws x frm).getD k false || (endsF ws y frm).getD k false := ⟨_, rfl⟩
    have HF := Lib.hid hfd
    have HL1 := Lib.hid (endsF_len ws x frm)
    have HL2 := Lib.hid (endsF_len ws y frm)
    have HR : Hid (partL f (fun _ => false) (ws.length + 1) (ws.length + 1) = endsF ws (.or x y) frm) := Lib.hid (by
      rw [partL_full, hfd]; exact orL_map (endsF_len ws x frm) (endsF_len ws y frm))
    have H5 : Hid (MidM w0 (.slice Aw ws.length cv) bk bw bf m root ws S K num frm (Rx.cnt (.or x y)) #[.int .u8 3, .int .i64 0, .slice A 2 c] w (partL f (fun _ => false) (ws.length + 1) 0) W4 ∧ BoolsB W4 b1 (endsF ws x frm) ∧ BoolsB W4 b2 (endsF ws y frm)) := Lib.hid ⟨by rw [partL_zero, zeroL_map]; exact H4.out, o1, o2⟩
    clear hfd hc1 hc2 HC3 H2 H3 H4 o1 o2 g1 g2 m1 m2 kk kw k0 p0 p1 hRW
    generalize endsF ws x frm = l1 at *
    generalize endsF ws y frm = l2 at *
    go_loopw [80] (fun i wr => ∃ j : Nat, j ≤ ws.length + 1 ∧ i = .int .i64 j ∧ Hid (MidM w0 (.slice Aw ws.length cv) bk bw bf m root ws S K num frm (Rx.cnt (.or x y)) #[.int .u8 3, .int .i64 0, .slice A 2 c] w (partL f (fun _ => false) (ws.length + 1) j) wr ∧ BoolsB wr b1 l1 ∧ BoolsB wr b2 l2)) (fun i _ => ws.length + 1 - (intOf i).toNat)
    case atStart => exact ⟨0, by omega, rfl, H5⟩
    case round =>
      obtain ⟨j, hj, rfl, HC⟩ := hrel
      obtain ⟨W6, hW6⟩ : ∃ W, W = wr := ⟨_, rfl⟩; subst hW6
      by_cases hlt : j < ws.length + 1
      · have hltI : (j : Int) < (ws.length : Int) + 1 := by omega
        have kn0 : W6.cell? ⟨bn, 0, none⟩ = some (.int .u8 3) := by rw [HBN.out.1]; exact cell_of_blk HC.out.1.nd 0 rfl
        have hb := HC.out.1.out
        rw [← HBO.out] at hb
        have z0 := hb.cell (k := j) (by rw [partL_len]; omega)
        have f0 := free_of_blk hb j
        have c1 := HC.out.2.1.cell (k := j) (by rw [HL1.out]; omega)
        have c2 := HC.out.2.2.cell (k := j) (by rw [HL2.out]; omega)
        have HV : Hid (f j = (l1.getD j false || l2.getD j false)) := Lib.hid (by rw [HF.out])
        clear hb
        cases h1 : l1.getD j false with
        | true =>
          rw [h1] at c1 HV
          cases h2 : l2.getD j false with
          | true =>
            rw [h2] at c2 HV
            have HV : Hid (f j = (true || true)) := HV
            clear h1 h2
            go_wp2
            go_roundw
            case rel =>
              refine ⟨j + 1, by omega, by go_num, Lib.hid ⟨?_, ?_, ?_⟩⟩
              · have h := HC.out.1.put j (true || true)
                rw [← HBO.out] at h
                have hs := partL_step f (fun _ => false) (n := ws.length + 1) (j := j) (by omega)
                rw [HV.out] at hs
                rw [hs] at h
                exact h
              · have h := s1.put (k := j) (v := (true || true)) HC.out.2.1
                rw [← HBO.out] at h; exact h
              · have h := s2.put (k := j) (v := (true || true)) HC.out.2.2
                rw [← HBO.out] at h; exact h
            case measure => simp [intOf]; omega
          | false =>
            rw [h2] at c2 HV
            clear h1 h2
            go_wp2
            go_roundw
            case rel =>
              refine ⟨j + 1, by omega, by go_num, Lib.hid ⟨?_, ?_, ?_⟩⟩
              · have h := HC.out.1.put j (true || false)
                rw [← HBO.out] at h
                have hs := partL_step f (fun _ => false) (n := ws.length + 1) (j := j) (by omega)
                rw [HV.out] at hs
                rw [hs] at h
                exact h
              · have h := s1.put (k := j) (v := (true || false)) HC.out.2.1
                rw [← HBO.out] at h; exact h
              · have h := s2.put (k := j) (v := (true || false)) HC.out.2.2
                rw [← HBO.out] at h; exact h
            case measure => simp [intOf]; omega
        | false =>
          rw [h1] at c1 HV
          cases h2 : l2.getD j false with
          | true =>
            rw [h2] at c2 HV
            clear h1 h2
            go_wp2
            go_roundw
            case rel =>
              refine ⟨j + 1, by omega, by go_num, Lib.hid ⟨?_, ?_, ?_⟩⟩
              · have h := HC.out.1.put j (false || true)
                rw [← HBO.out] at h
                have hs := partL_step f (fun _ => false) (n := ws.length + 1) (j := j) (by omega)
                rw [HV.out] at hs
                rw [hs] at h
                exact h
              · have h := s1.put (k := j) (v := (false || true)) HC.out.2.1
                rw [← HBO.out] at h; exact h
              · have h := s2.put (k := j) (v := (false || true)) HC.out.2.2
                rw [← HBO.out] at h; exact h
            case measure => simp [intOf]; omega
          | false =>
            rw [h2] at c2 HV
            clear h1 h2
            go_wp2
            go_roundw
            case rel =>
              refine ⟨j + 1, by omega, by go_num, Lib.hid ⟨?_, ?_, ?_⟩⟩
              · have h := HC.out.1.put j (false || false)
                rw [← HBO.out] at h
                have hs := partL_step f (fun _ => false) (n := ws.length + 1) (j := j) (by omega)
                rw [HV.out] at hs
                rw [hs] at h
                exact h
              · have h := s1.put (k := j) (v := (false || false)) HC.out.2.1
                rw [← HBO.out] at h; exact h
              · have h := s2.put (k := j) (v := (false || false)) HC.out.2.2
                rw [← HBO.out] at h; exact h
            case measure => simp [intOf]; omega
      · have hje : j = ws.length + 1 := by omega
        subst hje
        have H7 : Hid (MidM w0 (.slice Aw ws.length cv) bk bw bf m root ws S K num frm (Rx.cnt (.or x y)) #[.int .u8 3, .int .i64 0, .slice A 2 c] w (endsF ws (.or x y) frm) W6) := Lib.hid (by rw [← HR.out]; exact HC.out.1)
        have hltI : ¬ (ws.length : Int) + 1 < (ws.length : Int) + 1 := by omega
        clear HC
        have kk : ∀ w', Ext W6 w' → w'.cell? ⟨bk, 0, none⟩ = some (.map (some m)) := fun w' e => e.cell (cell_of_blk H7.out.env.k 0 rfl)
        have kw : ∀ w', Ext W6 w' → w'.cell? ⟨bw, 0, none⟩ = some (.slice Aw ws.length cv) := fun w' e => e.cell (cell_of_blk H7.out.env.w 0 rfl)
        have k0 : ∀ w', Ext W6 w' → w'.cell? ⟨bn, 0, none⟩ = some (.int .u8 3) := fun w' e => e.cell (by rw [HBN.out.1]; exact cell_of_blk H7.out.nd 0 rfl)
        have p0 : ∀ w', Ext W6 w' → w'.cell? ⟨bp, 0, none⟩ = some (.int .i64 (num : Int)) := fun w' e => e.cell (by rw [HBN.out.2.2]; exact cell_of_blk H7.out.pl 0 rfl)
        have p1 : ∀ w', Ext W6 w' → w'.cell? ⟨bp, 1, none⟩ = some (.int .i64 (frm : Int)) := fun w' e => e.cell (by rw [HBN.out.2.2]; exact cell_of_blk H7.out.pl 1 rfl)
        have hRW := Ext.refl W6
        obtain ⟨es9, h91, h92⟩ := H7.out.mem
        have hg9 := miss_get h91 h92
        have H92 := Lib.hid h92
        clear h92
        go_wp2_with (at_mapUpdate; refine wpList_update_g rfl _ _ _ 85 rfl 26 key88 Tryd.underlying85 rfl h91 (num, frm) rfl hokp hg9 _ rfl ?_; intro w9 h9 g9)
        go_ret
        exact H7.out.done HN.out.2.2.2.2 HN.out.1 H92.out h91 HBO.out h9 g9
--[and
set_option maxRecDepth 100000 in
set_option maxHeartbeats 16000000 in
theorem end_and {w0 : World} {vw : Value} {bk bw bf m cv : Nat} {root : Rx} {ws : List Int} (hI : IntsC w0 vw ws cv) (hr : root.cnt ≤ 64) (hl : ws.length ≤ 65536) {x y : Rx} (hx : EndT w0 vw bk bw bf m root ws x) (hy : EndT w0 vw bk bw bf m root ws y) : EndT w0 vw bk bw bf m root ws (.and x y) := by
  intro S K w v num frm hS hnum hf hE hN hM
  obtain ⟨hop, A, c, hv, hA, hnc, hnm⟩ := node_nodes hN
  have hcnt := nodeAt_lt hnum
  have hv : v = .agg #[.int .u8 5, .int .i64 0, .slice A 2 c] := hv
  subst hv
  obtain ⟨Aw, hvw, hci, hiw, hiv⟩ := id hI
  subst hvw
  have HN := Lib.hid (And.intro hnum (And.intro hE (And.intro hA (And.intro hM hS))))
  obtain ⟨es, hes, hme⟩ := id hM
  have HME := Lib.hid hme
  have hokp : okP (num, frm) := ⟨by show num ≤ 100000; omega, by show frm ≤ 100000; omega⟩
  clear hN hA hnc hnm hop hme hM hS hnum
  go_enter Tryd.func56, Tryd.ntmps56
  go_upto_region 2 with fail
  refine wp_named ?_
  intro W1 hW1
  have hE1 : Ext w W1 := by rw [hW1]; exact ((alloc_ext _ _).trans (alloc_ext _ _)).trans (alloc_ext _ _)
  have hB0 : W1.heap[w.heap.size]? = some (.cells #[.int .u8 5, .int .i64 0, .slice A 2 c] 35 (0, 0)) := by rw [hW1]; exact alloc3_0 _ _ _ _
  have hB1 : W1.heap[w.heap.size + 1]? = some (.cells #[.int .i64 (num : Int)] 3 (0, 0)) := by rw [hW1]; exact alloc3_1 _ _ _ _
  have hB2 : W1.heap[w.heap.size + 1 + 1]? = some (.cells #[.int .i64 (num : Int), .int .i64 (frm : Int)] 88 (0, 0)) := by rw [hW1]; exact alloc3_2 _ _ _ _
  have hsz : W1.heap.size = w.heap.size + 1 + 1 + 1 := by rw [hW1]; simp [go_sem]
  clear hW1
  have HSZ := Lib.hid hsz
  have HB := Lib.hid (And.intro hB0 (And.intro hB1 hB2))
  have HE1 := Lib.hid hE1
  have kk : ∀ w', Ext W1 w' → w'.cell? ⟨bk, 0, none⟩ = some (.map (some m)) := fun w' e => (hE1.trans e).cell (cell_of_blk hE.k 0 rfl)
  have kw : ∀ w', Ext W1 w' → w'.cell? ⟨bw, 0, none⟩ = some (.slice Aw ws.length cv) := fun w' e => (hE1.trans e).cell (cell_of_blk hE.w 0 rfl)
  have k0 : ∀ w', Ext W1 w' → w'.cell? ⟨w.heap.size, 0, none⟩ = some (.int .u8 5) := fun w' e => e.cell (cell_of_blk hB0 0 rfl)
  have p0 : ∀ w', Ext W1 w' → w'.cell? ⟨w.heap.size + 1 + 1, 0, none⟩ = some (.int .i64 (num : Int)) := fun w' e => e.cell (cell_of_blk hB2 0 rfl)
  have p1 : ∀ w', Ext W1 w' → w'.cell? ⟨w.heap.size + 1 + 1, 1, none⟩ = some (.int .i64 (frm : Int)) := fun w' e => e.cell (cell_of_blk hB2 1 rfl)
  have hR1 := Ext.refl W1
  have hes1 := hes.ext hE1
  have HES := Lib.hid hes
  clear hB0 hB1 hB2 hsz hE hes hE1
  obtain ⟨bn, hbn⟩ : ∃ b, b = w.heap.size := ⟨_, rfl⟩
  obtain ⟨bb, hbb⟩ : ∃ b, b = w.heap.size + 1 := ⟨_, rfl⟩
  obtain ⟨bp, hbp⟩ : ∃ b, b = w.heap.size + 1 + 1 := ⟨_, rfl⟩
  rw [← hbp] at p0 p1 ⊢
  rw [← hbb]
  rw [← hbn] at k0 ⊢
  have HBN := Lib.hid (And.intro hbn (And.intro hbb hbp))
  clear hbn hbb hbp
  have hmf : ∀ (fn : Fn) (first cap : Array Value) (w : World), (Instr.makeFunc fn first cap).run Tryd.prog w = .ok (.func fn first cap) w := fun _ _ _ _ => rfl
  cases hg : getG es (num, frm) with
  | some u =>
    have HG := Lib.hid hg
    clear hg
    go_wp2_with (at_lookup; refine wpList_lookup_g rfl _ _ 85 true rfl 26 key88 Tryd.underlying85 (zero26 _) rfl hes1 (num, frm) rfl hokp ?_; rw [HG.out]; simp only [Option.getD_some, Option.isSome_some, if_true])
    go_ret
    exact hit_done HN.out.2.2.2.1 HES.out HME.out HG.out HN.out.1 HE1.out
  | none =>
    have HG := Lib.hid hg
    clear hg
    have hmk : ∀ w', (Instr.makeSlice 26 (.int .i64 ((ws.length : Int) + 1)) (.int .i64 ((ws.length : Int) + 1))).run Tryd.prog w' = .ok (.slice (some ⟨w'.heap.size, 0, none⟩) (ws.length + 1) (ws.length + 1)) (w'.alloc (.cells (Array.replicate (ws.length + 1) (.bool false)) 4)) := fun w' => mk_bools (ws.length + 1) (by omega) w'
    go_upto_region 7 with (at_lookup; refine wpList_lookup_g rfl _ _ 85 true rfl 26 key88 Tryd.underlying85 (zero26 _) rfl hes1 (num, frm) rfl hokp ?_; rw [HG.out]; simp only [Option.getD_none, Option.isSome_none, if_true])
    refine wp_named ?_
    intro W2 hW2
    have hE2 : Ext W1 W2 := by rw [hW2]; exact alloc_ext _ _
    have h2 : MidM w0 (.slice Aw ws.length cv) bk bw bf m root ws S K num frm (Rx.cnt (.and x y)) #[.int .u8 5, .int .i64 0, .slice A 2 c] w (zeroL ws.length) W2 :=
      ⟨⟨lt_of_block HN.out.2.1.k, lt_of_block HN.out.2.1.w, lt_of_block HN.out.2.1.f, HES.out.lt, HN.out.2.1.ext.size⟩, grown_of_ext (HE1.out.trans hE2) _, HN.out.2.1.next (HE1.out.trans hE2), heap_ext hE2 HB.out.1, heap_ext hE2 HB.out.2.1, heap_ext hE2 HB.out.2.2, by rw [hW2]; show _ = _; rw [show w.heap.size + 3 = W1.heap.size from HSZ.out.symm, zeroB]; exact heap_alloc_new _ _, (miss_mem HES.out HME.out HG.out).ext (HE1.out.trans hE2)⟩
    have H2 := Lib.hid h2
    obtain ⟨bo, hbo⟩ : ∃ b, b = W1.heap.size := ⟨_, rfl⟩
    rw [← hbo]
    have HBO : Hid (bo = w.heap.size + 3) := Lib.hid (by rw [hbo, HSZ.out])
    clear kk kw k0 p0 p1 hR1 hes1 hW2 hE2 h2 HES HME HG HE1 HB HSZ hbo hmk hmf
    have kk : ∀ w', Ext W2 w' → w'.cell? ⟨bk, 0, none⟩ = some (.map (some m)) := fun w' e => e.cell (cell_of_blk H2.out.env.k 0 rfl)
    have kw : ∀ w', Ext W2 w' → w'.cell? ⟨bw, 0, none⟩ = some (.slice Aw ws.length cv) := fun w' e => e.cell (cell_of_blk H2.out.env.w 0 rfl)
    have k0 : ∀ w', Ext W2 w' → w'.cell? ⟨bn, 0, none⟩ = some (.int .u8 5) := fun w' e => e.cell (by rw [HBN.out.1]; exact cell_of_blk H2.out.nd 0 rfl)
    have p0 : ∀ w', Ext W2 w' → w'.cell? ⟨bp, 0, none⟩ = some (.int .i64 (num : Int)) := fun w' e => e.cell (by rw [HBN.out.2.2]; exact cell_of_blk H2.out.pl 0 rfl)
    have p1 : ∀ w', Ext W2 w' → w'.cell? ⟨bp, 1, none⟩ = some (.int .i64 (frm : Int)) := fun w' e => e.cell (by rw [HBN.out.2.2]; exact cell_of_blk H2.out.pl 1 rfl)
    have hRW := Ext.refl W2
    have hc1 := sub0_any (s := .and x y) (t := x) rfl hx H2.out.env (by exact cell_of_blk H2.out.nb 0 rfl) (cell_of_blk H2.out.nd 2 rfl) HN.out.2.2.1 HN.out.1 hf (H2.out.new HN.out.2.2.2.2) H2.out.mem hr
    have HC2 := (fun W3 (H3 : MidM w0 (.slice Aw ws.length cv) bk bw bf m root ws S K num frm (Rx.cnt (.and x y)) #[.int .u8 5, .int .i64 0, .slice A 2 c] w (zeroL ws.length) W3) => sub1_any (s := .and x y) (t := y) rfl hy H3.env (by exact cell_of_blk H3.nb 0 rfl) (cell_of_blk H3.nd 2 rfl) HN.out.2.2.1 HN.out.1 hf (H3.new HN.out.2.2.2.2) H3.mem hr)
    rw [← HBN.out.2.1, ← HBN.out.1] at hc1 HC2
    unfold EndQ at hc1 HC2
    have HC3 := Lib.hid HC2
    clear HC2
    have hqc : Rx.cnt (.and x y) = x.cnt + y.cnt + 1 := rfl
    have hqo : offOf (.and x y) 1 = x.cnt + 1 := rfl
    clear hx hy hI hci
    go_upto_region 17 with (first
      | ((with_reducible refine hc1.mono ?_); rintro e W3 ⟨b1, rfl, s1, o1, g1, m1⟩
         have H3 := Lib.hid (H2.out.sub (t := x) (by omega) (by omega) g1 m1)
         have hc2 := HC3.out W3 H3.out)
      | ((with_reducible refine hc2.mono ?_); rintro e W4 ⟨b2, rfl, s2, o2, g2, m2⟩))
    have H4 := Lib.hid (H3.out.sub (t := y) (by omega) (by omega) g2 m2)
    have o1 := H3.out.other o1 g2
    obtain ⟨f, hfd⟩ : ∃ f : Nat → Bool, f = fun k => (endsF ws x frm).getD k false && (endsF ws y frm).getD k false := ⟨_, rfl⟩
    have HF := Lib.hid hfd
    have HL1 := Lib.hid (endsF_len ws x frm)
    have HL2 := Lib.hid (endsF_len ws y frm)
    have HR : Hid (partL f (fun _ => false) (ws.length + 1) (ws.length + 1) = endsF ws (.and x y) frm) := Lib.hid (by
      rw [partL_full, hfd]; exact andL_map (endsF_len ws x frm) (endsF_len ws y frm))
    have H5 : Hid (MidM w0 (.slice Aw ws.length cv) bk bw bf m root ws S K num frm (Rx.cnt (.and x y)) #[.int .u8 5, .int .i64 0, .slice A 2 c] w (partL f (fun _ => false) (ws.length + 1) 0) W4 ∧ BoolsB W4 b1 (endsF ws x frm) ∧ BoolsB W4 b2 (endsF ws y frm)) := Lib.hid ⟨by rw [partL_zero, zeroL_map]; exact H4.out, o1, o2⟩
    clear hfd hc1 hc2 HC3 H2 H3 H4 o1 o2 g1 g2 m1 m2 kk kw k0 p0 p1 hRW
    generalize endsF ws x frm = l1 at *
    generalize endsF ws y frm = l2 at *
    go_loopw [80] (fun i wr => ∃ j : Nat, j ≤ ws.length + 1 ∧ i = .int .i64 j ∧ Hid (MidM w0 (.slice Aw ws.length cv) bk bw bf m root ws S K num frm (Rx.cnt (.and x y)) #[.int .u8 5, .int .i64 0, .slice A 2 c] w (partL f (fun _ => false) (ws.length + 1) j) wr ∧ BoolsB wr b1 l1 ∧ BoolsB wr b2 l2)) (fun i _ => ws.length + 1 - (intOf i).toNat)
    case atStart => exact ⟨0, by omega, rfl, H5⟩
    case round =>
      obtain ⟨j, hj, rfl, HC⟩ := hrel
      obtain ⟨W6, hW6⟩ : ∃ W, W = wr := ⟨_, rfl⟩; subst hW6
      by_cases hlt : j < ws.length + 1
      · have hltI : (j : Int) < (ws.length : Int) + 1 := by omega
        have kn0 : W6.cell? ⟨bn, 0, none⟩ = some (.int .u8 5) := by rw [HBN.out.1]; exact cell_of_blk HC.out.1.nd 0 rfl
        have hb := HC.out.1.out
        rw [← HBO.out] at hb
        have z0 := hb.cell (k := j) (by rw [partL_len]; omega)
        have f0 := free_of_blk hb j
        have c1 := HC.out.2.1.cell (k := j) (by rw [HL1.out]; omega)
        have c2 := HC.out.2.2.cell (k := j) (by rw [HL2.out]; omega)
        have HV : Hid (f j = (l1.getD j false && l2.getD j false)) := Lib.hid (by rw [HF.out])
        clear hb
        cases h1 : l1.getD j false with
        | true =>
          rw [h1] at c1 HV
          cases h2 : l2.getD j false with
          | true =>
            rw [h2] at c2 HV
            have HV : Hid (f j = (true && true)) := HV
            clear h1 h2
            go_wp2
            go_roundw
            case rel =>
              refine ⟨j + 1, by omega, by go_num, Lib.hid ⟨?_, ?_, ?_⟩⟩
              · have h := HC.out.1.put j (true && true)
                rw [← HBO.out] at h
                have hs := partL_step f (fun _ => false) (n := ws.length + 1) (j := j) (by omega)
                rw [HV.out] at hs
                rw [hs] at h
                exact h
              · have h := s1.put (k := j) (v := (true && true)) HC.out.2.1
                rw [← HBO.out] at h; exact h
              · have h := s2.put (k := j) (v := (true && true)) HC.out.2.2
                rw [← HBO.out] at h; exact h
            case measure => simp [intOf]; omega
          | false =>
            rw [h2] at c2 HV
            clear h1 h2
            go_wp2
            go_roundw
            case rel =>
              refine ⟨j + 1, by omega, by go_num, Lib.hid ⟨?_, ?_, ?_⟩⟩
              · have h := HC.out.1.put j (true && false)
                rw [← HBO.out] at h
                have hs := partL_step f (fun _ => false) (n := ws.length + 1) (j := j) (by omega)
                rw [HV.out] at hs
                rw [hs] at h
                exact h
              · have h := s1.put (k := j) (v := (true && false)) HC.out.2.1
                rw [← HBO.out] at h; exact h
              · have h := s2.put (k := j) (v := (true && false)) HC.out.2.2
                rw [← HBO.out] at h; exact h
            case measure => simp [intOf]; omega
        | false =>
          rw [h1] at c1 HV
          cases h2 : l2.getD j false with
          | true =>
            rw [h2] at c2 HV
            clear h1 h2
            go_wp2
            go_roundw
            case rel =>
              refine ⟨j + 1, by omega, by go_num, Lib.hid ⟨?_, ?_, ?_⟩⟩
              · have h := HC.out.1.put j (false && true)
                rw [← HBO.out] at h
                have hs := partL_step f (fun _ => false) (n := ws.length + 1) (j := j) (by omega)
                rw [HV.out] at hs
                rw [hs] at h
                exact h
              · have h := s1.put (k := j) (v := (false && true)) HC.out.2.1
                rw [← HBO.out] at h; exact h
              · have h := s2.put (k := j) (v := (false && true)) HC.out.2.2
                rw [← HBO.out] at h; exact h
            case measure => simp [intOf]; omega
          | false =>
            rw [h2] at c2 HV
            clear h1 h2
            go_wp2
            go_roundw
            case rel =>
              refine ⟨j + 1, by omega, by go_num, Lib.hid ⟨?_, ?_, ?_⟩⟩
              · have h := HC.out.1.put j (false && false)
                rw [← HBO.out] at h
                have hs := partL_step f (fun _ => false) (n := ws.length + 1) (j := j) (by omega)
                rw [HV.out] at hs
                rw [hs] at h
                exact h
              · have h := s1.put (k := j) (v := (false && false)) HC.out.2.1
                rw [← HBO.out] at h; exact h
              · have h := s2.put (k := j) (v := (false && false)) HC.out.2.2
                rw [← HBO.out] at h; exact h
            case measure => simp [intOf]; omega
      · have hje : j = ws.length + 1 := by omega
        subst hje
        have H7 : Hid (MidM w0 (.slice Aw ws.length cv) bk bw bf m root ws S K num frm (Rx.cnt (.and x y)) #[.int .u8 5, .int .i64 0, .slice A 2 c] w (endsF ws (.and x y) frm) W6) := Lib.hid (by rw [← HR.out]; exact HC.out.1)
        have hltI : ¬ (ws.length : Int) + 1 < (ws.length : Int) + 1 := by omega
        clear HC
        have kk : ∀ w', Ext W6 w' → w'.cell? ⟨bk, 0, none⟩ = some (.map (some m)) := fun w' e => e.cell (cell_of_blk H7.out.env.k 0 rfl)
        have kw : ∀ w', Ext W6 w' → w'.cell? ⟨bw, 0, none⟩ = some (.slice Aw ws.length cv) := fun w' e => e.cell (cell_of_blk H7.out.env.w 0 rfl)
        have k0 : ∀ w', Ext W6 w' → w'.cell? ⟨bn, 0, none⟩ = some (.int .u8 5) := fun w' e => e.cell (by rw [HBN.out.1]; exact cell_of_blk H7.out.nd 0 rfl)
        have p0 : ∀ w', Ext W6 w' → w'.cell? ⟨bp, 0, none⟩ = some (.int .i64 (num : Int)) := fun w' e => e.cell (by rw [HBN.out.2.2]; exact cell_of_blk H7.out.pl 0 rfl)
        have p1 : ∀ w', Ext W6 w' → w'.cell? ⟨bp, 1, none⟩ = some (.int .i64 (frm : Int)) := fun w' e => e.cell (by rw [HBN.out.2.2]; exact cell_of_blk H7.out.pl 1 rfl)
        have hRW := Ext.refl W6
        obtain ⟨es9, h91, h92⟩ := H7.out.mem
        have hg9 := miss_get h91 h92
        have H92 := Lib.hid h92
        clear h92
        go_wp2_with (at_mapUpdate; refine wpList_update_g rfl _ _ _ 85 rfl 26 key88 Tryd.underlying85 rfl h91 (num, frm) rfl hokp hg9 _ rfl ?_; intro w9 h9 g9)
        go_ret
        exact H7.out.done HN.out.2.2.2.2 HN.out.1 H92.out h91 HBO.out h9 g9
--]and
end Go.Proofs.YtmebgomnmlbgnaaDoor
