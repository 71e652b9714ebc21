/-    -/
import Derived.Test.YtmebgomnmlbgnaaDoorZH
import Derived.Test.YtmebgomnmlbgnaaDoorZA
set_option linter.unnecessarySimpa false
set_option linter.unusedSectionVars false
namespace Go.Proofs.YtmebgomnmlbgnaaDoor
open Go.RowKit
set_option linter.unusedVariables false
set_option linter.unusedSimpArgs false
attribute [local go_sem] Oper.quietV quietV Oper.gives givesV ext_refl_iff ext_alloc_iff ext_drew_iff ext_drewN_iff
set_option maxRecDepth 100000 in
set_option maxHeartbeats 16000000 in
theorem pseq_any {s : ByteArray} {sy : Nat} (hs : s.size ≤ 1000000) {rec : Nat → PR} {i : Nat} (hi : i ≤ s.size) (hsub : ∀ k, i ≤ k → k ≤ s.size → ParS s sy 115 k (pNot s sy rec k)) (hfi : ∀ k, i ≤ k → k ≤ s.size → Fine s k (pNot s sy rec k)) : ParS s sy 113 i (pSeq s sy rec i) := by
  intro S w pb hS hpb hP
  obtain ⟨pr, hpr⟩ : ∃ p, p = pSeq s sy rec i := ⟨_, rfl⟩
  rw [← hpr]
  unfold pSeq manyP at hpr
  obtain ⟨sub, hsb⟩ : ∃ f, f = pNot s sy rec := ⟨_, rfl⟩
  rw [← hsb] at hpr hsub hfi
  clear hsb
  have HPR := Lib.hid hpr
  have HSB := Lib.hid hsub
  have HFI := Lib.hid hfi
  have HTK := Lib.hid (fun (k : Nat) (hk : k ≤ 1000000) (w' : World) (h : PSt w' pb s k sy) => begins_any (by omega) h)
  unfold BoolP at HTK
  have HS := Lib.hid hS
  have HP := Lib.hid (And.intro hP (And.intro hpb hP.lt))
  clear hsub hfi hpr hS hP hpb
  go_enter Tryd.func113, Tryd.ntmps113
  go_upto_region 1 with fail
  refine wp_named ?_
  intro W1 hW1
  have hE1 : Ext w W1 := by rw [hW1]; exact alloc_ext _ _
  have hB : W1.heap[w.heap.size]? = some (.cells zNode 35 (0, 0)) := by rw [hW1]; exact heap_alloc_new _ _
  have HE1 := Lib.hid hE1
  have HB := Lib.hid hB
  have HP1 := Lib.hid (HP.out.1.ext hE1)
  have HPB : Hid (w.heap.size ≠ pb ∧ w.heap.size ≤ w.heap.size) := Lib.hid ⟨by have := HP.out.2.2; omega, Nat.le_refl _⟩
  have HS1 := Lib.hid (HS.out.but hE1 (lt_of_block hB))
  have hat := HSB.out i (Nat.le_refl _) hi (butS S w.heap.size) W1 pb HS1.out (fun h => HP.out.2.1 h.1) HP1.out
  have HF0 := Lib.hid (HFI.out i (Nat.le_refl _) hi)
  have HPL : Hid (pb < W1.heap.size) := Lib.hid HP1.out.lt
  clear hW1 hE1 hB HS
  generalize hb2 : w.heap.size = b2 at *
  have HBW := Lib.hid hb2
  clear hb2
  obtain ⟨q, hq⟩ : ∃ q, q = sub i := ⟨_, rfl⟩
  rw [← hq] at HPR hat HF0
  clear hq
  cases q with
  | bad j =>
    have hpr : pr = .bad j := HPR.out
    subst hpr
    have hat : Calls Tryd.prog 115 _ W1 (fun e w' => e = .panicked wrongC ∧ ParP W1 pb s j sy w') := hat
    clear HTK HPR HFI HF0 HSB
    go_wp2_with ((with_reducible refine hat.mono ?_); rintro e W5 ⟨rfl, p5, g5⟩)
    exact ⟨rfl, rfl, p5, grown_trans (grown_of_ext HE1.out _) g5⟩
  | ok x j =>
    have HPR : Hid (pr = loopP (seqC s sy) sub .seq (s.size + 1 - j) x j) := Lib.hid HPR.out
    have hat : Calls Tryd.prog 115 _ W1 (fun e w' => ∃ A c, e = .returned (.agg #[.int .u8 (x.tr.op : Int), .int .i64 x.tr.n, .slice A x.tr.subs.length c]) ∧ NodeB (butS S b2) false w' x.tr (.agg #[.int .u8 (x.tr.op : Int), .int .i64 x.tr.n, .slice A x.tr.subs.length c]) ∧ ParP W1 pb s j sy w') := hat
    have hj : j ≤ s.size := HF0.out.2
    have HIJ : Hid (i < j) := Lib.hid HF0.out.1
    clear HF0
    go_upto_region 2 with ((with_reducible refine hat.mono ?_); rintro e W5 ⟨A5, c5, rfl, n5, p5, g5⟩)
    have HL := Lib.hid (LocX.start p5 g5 n5)
    clear hat n5 p5 g5
    generalize W5.alloc (.cells #[.int .u8 (x.tr.op : Int), .int .i64 x.tr.n, .slice A5 x.tr.subs.length c5] 35) = W6 at *
    generalize W5.heap.size = b3 at *
    go_loopg [7] (s.size + 1 - j) (fun k t7 wr => ∃ y l g, Hid (k = s.size + 1 - l ∧ l ≤ s.size ∧ i < l ∧ s.size + 1 - l ≤ g ∧ pr = loopP (seqC s sy) sub .seq g y l ∧ LocX (butS S b2) W1 pb b3 s sy y l wr))
    case atStart => exact ⟨x, j, _, Lib.hid ⟨rfl, hj, HIJ.out, Nat.le_refl _, HPR.out, HL.out⟩⟩
    case round =>
      clear HL HPR HIJ
      obtain ⟨y, l, g, HY⟩ := hrel
      have tk := HTK.out l (by have := HY.out.2.1; omega) wr HY.out.2.2.2.2.2.p
      obtain ⟨f, hf⟩ : ∃ f, g = f + 1 := ⟨g - 1, by have := HY.out.2.1; have := HY.out.2.2.2.1; omega⟩
      have HF := Lib.hid hf
      clear hf
      cases hz : begP sy (bt s l) with
      | false =>
        rw [hz] at tk
        have hpr : pr = .ok y l := by have h := HY.out.2.2.2.2.1; rw [HF.out, loopP, show (seqC s sy) l = none from if_neg (by rw [hz]; decide)] at h; exact h
        have tk : Calls Tryd.prog 116 #[.pointer (some ⟨pb, 0, none⟩)] wr (fun e w' => e = .returned (.bool false) ∧ Ext wr w') := tk
        have HL := Lib.hid HY.out.2.2.2.2.2
        clear hz HTK HY HSB HFI
        subst hpr
        go_upto_region 4 with ((with_reducible refine tk.mono ?_); rintro e W7 ⟨rfl, e7⟩)
        have hL := HL.out.ext e7
        obtain ⟨A, c, hb3, hn⟩ := hL.st
        have k0 := cell_of_blk hb3 0 (u := .int .u8 (y.tr.op : Int)) rfl
        have k1 := cell_of_blk hb3 1 (u := .int .i64 y.tr.n) rfl
        have k2 := cell_of_blk hb3 2 (u := .slice A y.tr.subs.length c) rfl
        have HL7 := Lib.hid (And.intro hL hn)
        clear tk hL hb3 hn
        go_wp2_with (with_reducible refine wpList_store_blk _ rfl 35 _ _ rfl b2 35 _ _ rfl rfl (blk_keep HB.out HL7.out.1.g HPB.out.1) (by kernel_rfl) (by kernel_rfl) (by kernel_rfl) ?_; intro w8 h8 g8)
        refine bodyPost_ret (results_cell_row rfl _ _ b2 35 _ (0, 0) _ (by simp [Act.put]) h8 Tryd.underlying35 rfl (by kernel_rfl)) rfl ?_
        exact ⟨A, c, rfl, (HL7.out.2.mono (fun b hb _ => hb.1)).past g8, HL7.out.1.p.keep g8 (Ne.symm HPB.out.1), grown_past (grown_trans (grown_of_ext HE1.out _) HL7.out.1.g) (by rw [HBW.out]; exact HPB.out.2) g8⟩
      | true =>
        rw [hz] at tk
        have HIN : Hid (l ≤ s.size) := Lib.hid (Nat.le_of_lt (begP_in hz))
        have HSt : Hid (pr = match sub (l) with | .bad l => .bad l | .ok z l => loopP (seqC s sy) sub .seq f (.seq y z) l) := Lib.hid (by have h := HY.out.2.2.2.2.1; rw [HF.out, loopP, show (seqC s sy) l = some (l) from if_pos hz] at h; exact h)
        have tk : Calls Tryd.prog 116 #[.pointer (some ⟨pb, 0, none⟩)] wr (fun e w' => e = .returned (.bool true) ∧ Ext wr w') := tk
        clear hz HTK
        go_upto_region 3 with ((with_reducible refine tk.mono ?_); rintro e W7 ⟨rfl, e7⟩)
        have hL := HY.out.2.2.2.2.2.ext e7
        obtain ⟨A, c, hb3, hn⟩ := hL.st
        have k0 : ∀ w', W7.grownBy w' (some pb) → w'.cell? ⟨b3, 0, none⟩ = some (.int .u8 (y.tr.op : Int)) := fun w' g => cell_of_blk (blk_keep hb3 g (hL.ne HPL.out)) 0 rfl
        have k1 : ∀ w', W7.grownBy w' (some pb) → w'.cell? ⟨b3, 1, none⟩ = some (.int .i64 y.tr.n) := fun w' g => cell_of_blk (blk_keep hb3 g (hL.ne HPL.out)) 1 rfl
        have k2 : ∀ w', W7.grownBy w' (some pb) → w'.cell? ⟨b3, 2, none⟩ = some (.slice A y.tr.subs.length c) := fun w' g => cell_of_blk (blk_keep hb3 g (hL.ne HPL.out)) 2 rfl
        have hil : i ≤ l := by have := HY.out.2.2.1; omega
        have hsb := fun w' (e : Ext W7 w') => HSB.out (l) hil HIN.out (butS (butS S b2) b3) w' pb ((hL.ext e).new HS1.out) (fun h => HP.out.2.1 h.1.1) (hL.ext e).p
        have HFK := Lib.hid (HFI.out (l) hil HIN.out)
        have HL7 := Lib.hid (And.intro hL (And.intro hb3 hn))
        have HGL : Hid (gk = s.size + 1 - l) := Lib.hid HY.out.1
        have HGG : Hid (s.size + 1 - l ≤ g) := Lib.hid HY.out.2.2.2.1
        clear tk hL hb3 hn HY HSB HFI
        obtain ⟨q, hq⟩ : ∃ q, q = sub (l) := ⟨_, rfl⟩
        rw [← hq] at HSt hsb HFK
        clear hq
        cases q with
        | bad l2 =>
          have hpr : pr = .bad l2 := HSt.out
          subst hpr
          have hsb : ∀ w', Ext W7 w' → Calls Tryd.prog 115 #[.pointer (some ⟨pb, 0, none⟩)] w' (fun e w'' => e = .panicked wrongC ∧ ParP w' pb s l2 sy w'') := hsb
          clear HSt HFK
          have kk0 := k0 _ (grown_of_ext (Ext.refl W7) _)
          have kk1 := k1 _ (grown_of_ext (Ext.refl W7) _)
          have kk2 := k2 _ (grown_of_ext (Ext.refl W7) _)
          have hR7 := Ext.refl W7
          have hfin : ∀ W8, PSt W8 pb s l2 sy → W7.drew.grownBy W8 (some pb) → ParP w pb s l2 sy W8 := fun W8 p8 g8 => ⟨p8, grown_trans (grown_of_ext HE1.out _) (grown_trans HL7.out.1.g (grown_trans (grown_of_ext (drew_ext _) _) g8))⟩
          have hS0 : SP b3 y A c W7.drew := ⟨kk0, kk1, kk2⟩
          refine wp_region_bar 3 (SP b3 y A c) (by kernel_rfl) ?_
          refine wpAnyB_take (i := 0) (v := ?_) rfl (by kernel_rfl) (by kernel_rfl) (by kernel_rfl) (by kernel_rfl) (fun _ _ _ h => h) (Or.inl ⟨by rfl, ?_⟩) hS0 ?_
          rotate_left
          · (intro w hSw; obtain ⟨s1, s2, s3⟩ := hSw; go_simp; first | done | with_reducible rfl)
          try simp only [Act.put, List.setIfInBounds_toArray, List.set_cons_zero, List.set_cons_succ]
          refine wpAnyB_take (i := 1) (v := ?_) rfl (by kernel_rfl) (by kernel_rfl) (by kernel_rfl) (by kernel_rfl) (fun _ _ _ h => h) (Or.inl ⟨by rfl, ?_⟩) hS0 ?_
          rotate_left
          · (intro w hSw; obtain ⟨s1, s2, s3⟩ := hSw; go_simp; first | done | with_reducible rfl)
          try simp only [Act.put, List.setIfInBounds_toArray, List.set_cons_zero, List.set_cons_succ]
          refine wpAnyB_ready (rs := [2]) (by kernel_rfl) (by simp) (AllB.cons rfl (fun K hK => ?_) AllB.nil)
          go_simp
          refine (hsb _ (drew_ext _)).mono ?_
          rintro e W8 ⟨rfl, p8, g8⟩
          exact ⟨rfl, rfl, hfin _ p8 g8⟩
        | ok z l2 =>
          have HSt : Hid (pr = loopP (seqC s sy) sub .seq f (.seq y z) l2) := Lib.hid HSt.out
          have hsb : ∀ w', Ext W7 w' → Calls Tryd.prog 115 #[.pointer (some ⟨pb, 0, none⟩)] w' (fun e w'' => ∃ A c, e = .returned (.agg #[.int .u8 (z.tr.op : Int), .int .i64 z.tr.n, .slice A z.tr.subs.length c]) ∧ NodeB (butS (butS S b2) b3) false w'' z.tr (.agg #[.int .u8 (z.tr.op : Int), .int .i64 z.tr.n, .slice A z.tr.subs.length c]) ∧ ParP w' pb s l2 sy w'') := hsb
          have hR7 := Ext.refl W7
          have htw := fun W8 A8 c8 (g8 : W7.drew.grownBy W8 (some pb)) (n8 : NodeB (butS (butS S b2) b3) false W8 z.tr (.agg #[.int .u8 (z.tr.op : Int), .int .i64 z.tr.n, .slice A8 z.tr.subs.length c8])) => (show Calls Tryd.prog 90 #[_, .agg #[.int .u8 (y.tr.op : Int), .int .i64 y.tr.n, .slice A y.tr.subs.length c], .agg #[.int .u8 (z.tr.op : Int), .int .i64 z.tr.n, .slice A8 z.tr.subs.length c8]] W8 _ from two4 (((HL7.out.1.ext (drew_ext _)).new HS1.out).keep g8) ((HL7.out.2.2.ext (drew_ext _)).past3 g8 (fun h => HP.out.2.1 h.1.1)) n8)
          unfold MadeQ at htw
          have HTW := Lib.hid htw
          have HL8 := Lib.hid (fun W8 (g8 : W7.drew.grownBy W8 (some pb)) => blk_keep (heap_ext (drew_ext _) HL7.out.2.1) g8 (HL7.out.1.ne HPL.out))
          have hS0 : SP b3 y A c W7.drew := ⟨k0 _ (grown_of_ext (drew_ext _) _), k1 _ (grown_of_ext (drew_ext _) _), k2 _ (grown_of_ext (drew_ext _) _)⟩
          clear htw k0 k1 k2
          refine wp_region_bar 3 (SP b3 y A c) (by kernel_rfl) ?_
          refine wpAnyB_take (i := 0) (v := ?_) rfl (by kernel_rfl) (by kernel_rfl) (by kernel_rfl) (by kernel_rfl) (fun _ _ _ h => h) (Or.inl ⟨by rfl, ?_⟩) hS0 ?_
          rotate_left
          · (intro w hSw; obtain ⟨s1, s2, s3⟩ := hSw; go_simp; first | done | with_reducible rfl)
          try simp only [Act.put, List.setIfInBounds_toArray, List.set_cons_zero, List.set_cons_succ]
          refine wpAnyB_take (i := 1) (v := ?_) rfl (by kernel_rfl) (by kernel_rfl) (by kernel_rfl) (by kernel_rfl) (fun _ _ _ h => h) (Or.inl ⟨by rfl, ?_⟩) hS0 ?_
          rotate_left
          · (intro w hSw; obtain ⟨s1, s2, s3⟩ := hSw; go_simp; first | done | with_reducible rfl)
          try simp only [Act.put, List.setIfInBounds_toArray, List.set_cons_zero, List.set_cons_succ]
          refine wpAnyB_ready (rs := [2]) (by kernel_rfl) (by simp) (AllB.cons rfl (fun K hK => ?_) AllB.nil)
          go_simp
          refine (hsb _ (drew_ext _)).mono ?_
          rintro e W8 ⟨A8, c8, rfl, n8, p8, g8⟩
          have hb8 := HL8.out W8 g8
          refine hK.out _ _ ⟨cell_of_blk hb8 0 rfl, cell_of_blk hb8 1 rfl, cell_of_blk hb8 2 rfl⟩ ?_
          refine wpAnyB_tail rfl rfl (by decide) (by kernel_rfl) ?_
          have htw := HTW.out W8 A8 c8 g8 n8
          have HP8 := Lib.hid (And.intro p8 (And.intro hb8 g8))
          clear hsb HTW HL8 hb8 p8 g8 n8 hK hS0
          go_wp2_with (first | ((with_reducible refine htw.mono ?_); rintro e W9 ⟨A9, c9, rfl, n9, e9⟩) | (with_reducible refine wpList_store_blk _ rfl 35 _ _ rfl b3 35 _ _ rfl rfl (heap_ext e9 HP8.out.2.1) (by kernel_rfl) (by kernel_rfl) (by kernel_rfl) ?_; intro w10 h10 g10))
          have HFL : Hid (l < l2 ∧ l2 ≤ s.size) := Lib.hid HFK.out
          go_roundg (s.size + 1 - l2)
          case measure => have := HFL.out; have := HGL.out; omega
          case rel =>
            refine ⟨.seq y z, l2, f, Lib.hid ⟨rfl, HFL.out.2, by have := HFL.out; omega, by have := HFL.out; have := HGG.out; have := HF.out; omega, HSt.out, ?_⟩⟩
            exact HL7.out.1.put (z := .seq y z) HPL.out (HP8.out.1.ext e9) (grown_trans (grown_of_ext (drew_ext _) _) (grown_trans HP8.out.2.2 (grown_of_ext e9 _))) n9 h10 g10
end Go.Proofs.YtmebgomnmlbgnaaDoor

namespace Go.Proofs.YtmebgomnmlbgnaaDoor
open Go.RowKit
set_option linter.unusedVariables false
set_option linter.unusedSimpArgs false
attribute [local go_sem] Oper.quietV quietV Oper.gives givesV ext_refl_iff ext_alloc_iff ext_drew_iff ext_drewN_iff
set_option maxRecDepth 100000 in
set_option maxHeartbeats 16000000 in
theorem pand_any {s : ByteArray} {sy : Nat} (hs : s.size ≤ 1000000) {rec : Nat → PR} {i : Nat} (hi : i ≤ s.size) (hsub : ∀ k, i ≤ k → k ≤ s.size → ParS s sy 113 k (pSeq s sy rec k)) (hfi : ∀ k, i ≤ k → k ≤ s.size → Fine s k (pSeq s sy rec k)) : ParS s sy 88 i (pAnd s sy rec i) := by
  intro S w pb hS hpb hP
  obtain ⟨pr, hpr⟩ : ∃ p, p = pAnd s sy rec i := ⟨_, rfl⟩
  rw [← hpr]
  unfold pAnd manyP at hpr
  obtain ⟨sub, hsb⟩ : ∃ f, f = pSeq s sy rec := ⟨_, rfl⟩
  rw [← hsb] at hpr hsub hfi
  clear hsb
  have HPR := Lib.hid hpr
  have HSB := Lib.hid hsub
  have HFI := Lib.hid hfi
  have HTK := Lib.hid (fun (k : Nat) (hk : k ≤ 1000000) (w' : World) (h : PSt w' pb s k sy) => take_any 38 hs hk h)
  unfold TakQ at HTK
  have HS := Lib.hid hS
  have HP := Lib.hid (And.intro hP (And.intro hpb hP.lt))
  clear hsub hfi hpr hS hP hpb
  go_enter Tryd.func88, Tryd.ntmps88
  go_upto_region 1 with fail
  refine wp_named ?_
  intro W1 hW1
  have hE1 : Ext w W1 := by rw [hW1]; exact alloc_ext _ _
  have hB : W1.heap[w.heap.size]? = some (.cells zNode 35 (0, 0)) := by rw [hW1]; exact heap_alloc_new _ _
  have HE1 := Lib.hid hE1
  have HB := Lib.hid hB
  have HP1 := Lib.hid (HP.out.1.ext hE1)
  have HPB : Hid (w.heap.size ≠ pb ∧ w.heap.size ≤ w.heap.size) := Lib.hid ⟨by have := HP.out.2.2; omega, Nat.le_refl _⟩
  have HS1 := Lib.hid (HS.out.but hE1 (lt_of_block hB))
  have hat := HSB.out i (Nat.le_refl _) hi (butS S w.heap.size) W1 pb HS1.out (fun h => HP.out.2.1 h.1) HP1.out
  have HF0 := Lib.hid (HFI.out i (Nat.le_refl _) hi)
  have HPL : Hid (pb < W1.heap.size) := Lib.hid HP1.out.lt
  clear hW1 hE1 hB HS
  generalize hb2 : w.heap.size = b2 at *
  have HBW := Lib.hid hb2
  clear hb2
  obtain ⟨q, hq⟩ : ∃ q, q = sub i := ⟨_, rfl⟩
  rw [← hq] at HPR hat HF0
  clear hq
  cases q with
  | bad j =>
    have hpr : pr = .bad j := HPR.out
    subst hpr
    have hat : Calls Tryd.prog 113 _ W1 (fun e w' => e = .panicked wrongC ∧ ParP W1 pb s j sy w') := hat
    clear HTK HPR HFI HF0 HSB
    go_wp2_with ((with_reducible refine hat.mono ?_); rintro e W5 ⟨rfl, p5, g5⟩)
    exact ⟨rfl, rfl, p5, grown_trans (grown_of_ext HE1.out _) g5⟩
  | ok x j =>
    have HPR : Hid (pr = loopP (binC s 38) sub .and (s.size + 1 - j) x j) := Lib.hid HPR.out
    have hat : Calls Tryd.prog 113 _ W1 (fun e w' => ∃ A c, e = .returned (.agg #[.int .u8 (x.tr.op : Int), .int .i64 x.tr.n, .slice A x.tr.subs.length c]) ∧ NodeB (butS S b2) false w' x.tr (.agg #[.int .u8 (x.tr.op : Int), .int .i64 x.tr.n, .slice A x.tr.subs.length c]) ∧ ParP W1 pb s j sy w') := hat
    have hj : j ≤ s.size := HF0.out.2
    have HIJ : Hid (i < j) := Lib.hid HF0.out.1
    clear HF0
    go_upto_region 2 with ((with_reducible refine hat.mono ?_); rintro e W5 ⟨A5, c5, rfl, n5, p5, g5⟩)
    have HL := Lib.hid (LocX.start p5 g5 n5)
    clear hat n5 p5 g5
    generalize W5.alloc (.cells #[.int .u8 (x.tr.op : Int), .int .i64 x.tr.n, .slice A5 x.tr.subs.length c5] 35) = W6 at *
    generalize W5.heap.size = b3 at *
    go_loopg [7] (s.size + 1 - j) (fun k t7 wr => ∃ y l g, Hid (k = s.size + 1 - l ∧ l ≤ s.size ∧ i < l ∧ s.size + 1 - l ≤ g ∧ pr = loopP (binC s 38) sub .and g y l ∧ LocX (butS S b2) W1 pb b3 s sy y l wr))
    case atStart => exact ⟨x, j, _, Lib.hid ⟨rfl, hj, HIJ.out, Nat.le_refl _, HPR.out, HL.out⟩⟩
    case round =>
      clear HL HPR HIJ
      obtain ⟨y, l, g, HY⟩ := hrel
      have tk := HTK.out l (by have := HY.out.2.1; omega) wr HY.out.2.2.2.2.2.p
      obtain ⟨f, hf⟩ : ∃ f, g = f + 1 := ⟨g - 1, by have := HY.out.2.1; have := HY.out.2.2.2.1; omega⟩
      have HF := Lib.hid hf
      clear hf
      cases hz : takP s l 38 with
      | false =>
        rw [hz] at tk
        have hpr : pr = .ok y l := by have h := HY.out.2.2.2.2.1; rw [HF.out, loopP, show (binC s 38) l = none from if_neg (by rw [hz]; decide)] at h; exact h
        have tk : Calls Tryd.prog 89 #[.pointer (some ⟨pb, 0, none⟩), .int .u8 38] wr (fun e w' => e = .returned (.bool false) ∧ ParP wr pb s l sy w') := tk
        have HL := Lib.hid HY.out.2.2.2.2.2
        clear hz HTK HY HSB HFI
        subst hpr
        go_upto_region 4 with ((with_reducible refine tk.mono ?_); rintro e W7 ⟨rfl, p7, g7⟩)
        have hL := HL.out.move HPL.out (fun h => HP.out.2.1 h.1) p7 g7
        obtain ⟨A, c, hb3, hn⟩ := hL.st
        have k0 := cell_of_blk hb3 0 (u := .int .u8 (y.tr.op : Int)) rfl
        have k1 := cell_of_blk hb3 1 (u := .int .i64 y.tr.n) rfl
        have k2 := cell_of_blk hb3 2 (u := .slice A y.tr.subs.length c) rfl
        have HL7 := Lib.hid (And.intro hL hn)
        clear tk hL hb3 hn
        go_wp2_with (with_reducible refine wpList_store_blk _ rfl 35 _ _ rfl b2 35 _ _ rfl rfl (blk_keep HB.out HL7.out.1.g HPB.out.1) (by kernel_rfl) (by kernel_rfl) (by kernel_rfl) ?_; intro w8 h8 g8)
        refine bodyPost_ret (results_cell_row rfl _ _ b2 35 _ (0, 0) _ (by simp [Act.put]) h8 Tryd.underlying35 rfl (by kernel_rfl)) rfl ?_
        exact ⟨A, c, rfl, (HL7.out.2.mono (fun b hb _ => hb.1)).past g8, HL7.out.1.p.keep g8 (Ne.symm HPB.out.1), grown_past (grown_trans (grown_of_ext HE1.out _) HL7.out.1.g) (by rw [HBW.out]; exact HPB.out.2) g8⟩
      | true =>
        rw [hz] at tk
        have HIN : Hid (l + 1 ≤ s.size) := Lib.hid (takP_in hz)
        have HSt : Hid (pr = match sub (l + 1) with | .bad l => .bad l | .ok z l => loopP (binC s 38) sub .and f (.and y z) l) := Lib.hid (by have h := HY.out.2.2.2.2.1; rw [HF.out, loopP, show (binC s 38) l = some (l + 1) from if_pos hz] at h; exact h)
        have tk : Calls Tryd.prog 89 #[.pointer (some ⟨pb, 0, none⟩), .int .u8 38] wr (fun e w' => e = .returned (.bool true) ∧ ParP wr pb s (l + 1) sy w') := tk
        clear hz HTK
        go_upto_region 3 with ((with_reducible refine tk.mono ?_); rintro e W7 ⟨rfl, p7, g7⟩)
        have hL := HY.out.2.2.2.2.2.move HPL.out (fun h => HP.out.2.1 h.1) p7 g7
        obtain ⟨A, c, hb3, hn⟩ := hL.st
        have k0 : ∀ w', W7.grownBy w' (some pb) → w'.cell? ⟨b3, 0, none⟩ = some (.int .u8 (y.tr.op : Int)) := fun w' g => cell_of_blk (blk_keep hb3 g (hL.ne HPL.out)) 0 rfl
        have k1 : ∀ w', W7.grownBy w' (some pb) → w'.cell? ⟨b3, 1, none⟩ = some (.int .i64 y.tr.n) := fun w' g => cell_of_blk (blk_keep hb3 g (hL.ne HPL.out)) 1 rfl
        have k2 : ∀ w', W7.grownBy w' (some pb) → w'.cell? ⟨b3, 2, none⟩ = some (.slice A y.tr.subs.length c) := fun w' g => cell_of_blk (blk_keep hb3 g (hL.ne HPL.out)) 2 rfl
        have hil : i ≤ l + 1 := by have := HY.out.2.2.1; omega
        have hsb := fun w' (e : Ext W7 w') => HSB.out (l + 1) hil HIN.out (butS (butS S b2) b3) w' pb ((hL.ext e).new HS1.out) (fun h => HP.out.2.1 h.1.1) (hL.ext e).p
        have HFK := Lib.hid (HFI.out (l + 1) hil HIN.out)
        have HL7 := Lib.hid (And.intro hL (And.intro hb3 hn))
        have HGL : Hid (gk = s.size + 1 - l) := Lib.hid HY.out.1
        have HGG : Hid (s.size + 1 - l ≤ g) := Lib.hid HY.out.2.2.2.1
        clear tk hL hb3 hn HY HSB HFI
        obtain ⟨q, hq⟩ : ∃ q, q = sub (l + 1) := ⟨_, rfl⟩
        rw [← hq] at HSt hsb HFK
        clear hq
        cases q with
        | bad l2 =>
          have hpr : pr = .bad l2 := HSt.out
          subst hpr
          have hsb : ∀ w', Ext W7 w' → Calls Tryd.prog 113 #[.pointer (some ⟨pb, 0, none⟩)] w' (fun e w'' => e = .panicked wrongC ∧ ParP w' pb s l2 sy w'') := hsb
          clear HSt HFK
          have kk0 := k0 _ (grown_of_ext (Ext.refl W7) _)
          have kk1 := k1 _ (grown_of_ext (Ext.refl W7) _)
          have kk2 := k2 _ (grown_of_ext (Ext.refl W7) _)
          have hR7 := Ext.refl W7
          have hfin : ∀ W8, PSt W8 pb s l2 sy → W7.drew.grownBy W8 (some pb) → ParP w pb s l2 sy W8 := fun W8 p8 g8 => ⟨p8, grown_trans (grown_of_ext HE1.out _) (grown_trans HL7.out.1.g (grown_trans (grown_of_ext (drew_ext _) _) g8))⟩
          have hS0 : SP b3 y A c W7.drew := ⟨kk0, kk1, kk2⟩
          refine wp_region_bar 3 (SP b3 y A c) (by kernel_rfl) ?_
          refine wpAnyB_take (i := 0) (v := ?_) rfl (by kernel_rfl) (by kernel_rfl) (by kernel_rfl) (by kernel_rfl) (fun _ _ _ h => h) (Or.inl ⟨by rfl, ?_⟩) hS0 ?_
          rotate_left
          · (intro w hSw; obtain ⟨s1, s2, s3⟩ := hSw; go_simp; first | done | with_reducible rfl)
          try simp only [Act.put, List.setIfInBounds_toArray, List.set_cons_zero, List.set_cons_succ]
          refine wpAnyB_take (i := 1) (v := ?_) rfl (by kernel_rfl) (by kernel_rfl) (by kernel_rfl) (by kernel_rfl) (fun _ _ _ h => h) (Or.inl ⟨by rfl, ?_⟩) hS0 ?_
          rotate_left
          · (intro w hSw; obtain ⟨s1, s2, s3⟩ := hSw; go_simp; first | done | with_reducible rfl)
          try simp only [Act.put, List.setIfInBounds_toArray, List.set_cons_zero, List.set_cons_succ]
          refine wpAnyB_ready (rs := [2]) (by kernel_rfl) (by simp) (AllB.cons rfl (fun K hK => ?_) AllB.nil)
          go_simp
          refine (hsb _ (drew_ext _)).mono ?_
          rintro e W8 ⟨rfl, p8, g8⟩
          exact ⟨rfl, rfl, hfin _ p8 g8⟩
        | ok z l2 =>
          have HSt : Hid (pr = loopP (binC s 38) sub .and f (.and y z) l2) := Lib.hid HSt.out
          have hsb : ∀ w', Ext W7 w' → Calls Tryd.prog 113 #[.pointer (some ⟨pb, 0, none⟩)] w' (fun e w'' => ∃ A c, e = .returned (.agg #[.int .u8 (z.tr.op : Int), .int .i64 z.tr.n, .slice A z.tr.subs.length c]) ∧ NodeB (butS (butS S b2) b3) false w'' z.tr (.agg #[.int .u8 (z.tr.op : Int), .int .i64 z.tr.n, .slice A z.tr.subs.length c]) ∧ ParP w' pb s l2 sy w'') := hsb
          have hR7 := Ext.refl W7
          have htw := fun W8 A8 c8 (g8 : W7.drew.grownBy W8 (some pb)) (n8 : NodeB (butS (butS S b2) b3) false W8 z.tr (.agg #[.int .u8 (z.tr.op : Int), .int .i64 z.tr.n, .slice A8 z.tr.subs.length c8])) => (show Calls Tryd.prog 90 #[_, .agg #[.int .u8 (y.tr.op : Int), .int .i64 y.tr.n, .slice A y.tr.subs.length c], .agg #[.int .u8 (z.tr.op : Int), .int .i64 z.tr.n, .slice A8 z.tr.subs.length c8]] W8 _ from two5 (((HL7.out.1.ext (drew_ext _)).new HS1.out).keep g8) ((HL7.out.2.2.ext (drew_ext _)).past3 g8 (fun h => HP.out.2.1 h.1.1)) n8)
          unfold MadeQ at htw
          have HTW := Lib.hid htw
          have HL8 := Lib.hid (fun W8 (g8 : W7.drew.grownBy W8 (some pb)) => blk_keep (heap_ext (drew_ext _) HL7.out.2.1) g8 (HL7.out.1.ne HPL.out))
          have hS0 : SP b3 y A c W7.drew := ⟨k0 _ (grown_of_ext (drew_ext _) _), k1 _ (grown_of_ext (drew_ext _) _), k2 _ (grown_of_ext (drew_ext _) _)⟩
          clear htw k0 k1 k2
          refine wp_region_bar 3 (SP b3 y A c) (by kernel_rfl) ?_
          refine wpAnyB_take (i := 0) (v := ?_) rfl (by kernel_rfl) (by kernel_rfl) (by kernel_rfl) (by kernel_rfl) (fun _ _ _ h => h) (Or.inl ⟨by rfl, ?_⟩) hS0 ?_
          rotate_left
          · (intro w hSw; obtain ⟨s1, s2, s3⟩ := hSw; go_simp; first | done | with_reducible rfl)
          try simp only [Act.put, List.setIfInBounds_toArray, List.set_cons_zero, List.set_cons_succ]
          refine wpAnyB_take (i := 1) (v := ?_) rfl (by kernel_rfl) (by kernel_rfl) (by kernel_rfl) (by kernel_rfl) (fun _ _ _ h => h) (Or.inl ⟨by rfl, ?_⟩) hS0 ?_
          rotate_left
          · (intro w hSw; obtain ⟨s1, s2, s3⟩ := hSw; go_simp; first | done | with_reducible rfl)
          try simp only [Act.put, List.setIfInBounds_toArray, List.set_cons_zero, List.set_cons_succ]
          refine wpAnyB_ready (rs := [2]) (by kernel_rfl) (by simp) (AllB.cons rfl (fun K hK => ?_) AllB.nil)
          go_simp
          refine (hsb _ (drew_ext _)).mono ?_
          rintro e W8 ⟨A8, c8, rfl, n8, p8, g8⟩
          have hb8 := HL8.out W8 g8
          refine hK.out _ _ ⟨cell_of_blk hb8 0 rfl, cell_of_blk hb8 1 rfl, cell_of_blk hb8 2 rfl⟩ ?_
          refine wpAnyB_tail rfl rfl (by decide) (by kernel_rfl) ?_
          have htw := HTW.out W8 A8 c8 g8 n8
          have HP8 := Lib.hid (And.intro p8 (And.intro hb8 g8))
          clear hsb HTW HL8 hb8 p8 g8 n8 hK hS0
          go_wp2_with (first | ((with_reducible refine htw.mono ?_); rintro e W9 ⟨A9, c9, rfl, n9, e9⟩) | (with_reducible refine wpList_store_blk _ rfl 35 _ _ rfl b3 35 _ _ rfl rfl (heap_ext e9 HP8.out.2.1) (by kernel_rfl) (by kernel_rfl) (by kernel_rfl) ?_; intro w10 h10 g10))
          have HFL : Hid (l + 1 < l2 ∧ l2 ≤ s.size) := Lib.hid HFK.out
          go_roundg (s.size + 1 - l2)
          case measure => have := HFL.out; have := HGL.out; omega
          case rel =>
            refine ⟨.and y z, l2, f, Lib.hid ⟨rfl, HFL.out.2, by have := HFL.out; omega, by have := HFL.out; have := HGG.out; have := HF.out; omega, HSt.out, ?_⟩⟩
            exact HL7.out.1.put (z := .and y z) HPL.out (HP8.out.1.ext e9) (grown_trans (grown_of_ext (drew_ext _) _) (grown_trans HP8.out.2.2 (grown_of_ext e9 _))) n9 h10 g10
end Go.Proofs.YtmebgomnmlbgnaaDoor

namespace Go.Proofs.YtmebgomnmlbgnaaDoor
open Go.RowKit
set_option linter.unusedVariables false
set_option linter.unusedSimpArgs false
attribute [local go_sem] Oper.quietV quietV Oper.gives givesV ext_refl_iff ext_alloc_iff ext_drew_iff ext_drewN_iff
set_option maxRecDepth 100000 in
set_option maxHeartbeats 16000000 in
theorem por_any {s : ByteArray} {sy : Nat} (hs : s.size ≤ 1000000) {rec : Nat → PR} {i : Nat} (hi : i ≤ s.size) (hsub : ∀ k, i ≤ k → k ≤ s.size → ParS s sy 88 k (pAnd s sy rec k)) (hfi : ∀ k, i ≤ k → k ≤ s.size → Fine s k (pAnd s sy rec k)) : ParS s sy 64 i (pOr s sy rec i) := by
  intro S w pb hS hpb hP
  obtain ⟨pr, hpr⟩ : ∃ p, p = pOr s sy rec i := ⟨_, rfl⟩
  rw [← hpr]
  unfold pOr manyP at hpr
  obtain ⟨sub, hsb⟩ : ∃ f, f = pAnd s sy rec := ⟨_, rfl⟩
  rw [← hsb] at hpr hsub hfi
  clear hsb
  have HPR := Lib.hid hpr
  have HSB := Lib.hid hsub
  have HFI := Lib.hid hfi
  have HTK := Lib.hid (fun (k : Nat) (hk : k ≤ 1000000) (w' : World) (h : PSt w' pb s k sy) => take_any 124 hs hk h)
  unfold TakQ at HTK
  have HS := Lib.hid hS
  have HP := Lib.hid (And.intro hP (And.intro hpb hP.lt))
  clear hsub hfi hpr hS hP hpb
  go_enter Tryd.func64, Tryd.ntmps64
  go_upto_region 1 with fail
  refine wp_named ?_
  intro W1 hW1
  have hE1 : Ext w W1 := by rw [hW1]; exact alloc_ext _ _
  have hB : W1.heap[w.heap.size]? = some (.cells zNode 35 (0, 0)) := by rw [hW1]; exact heap_alloc_new _ _
  have HE1 := Lib.hid hE1
  have HB := Lib.hid hB
  have HP1 := Lib.hid (HP.out.1.ext hE1)
  have HPB : Hid (w.heap.size ≠ pb ∧ w.heap.size ≤ w.heap.size) := Lib.hid ⟨by have := HP.out.2.2; omega, Nat.le_refl _⟩
  have HS1 := Lib.hid (HS.out.but hE1 (lt_of_block hB))
  have hat := HSB.out i (Nat.le_refl _) hi (butS S w.heap.size) W1 pb HS1.out (fun h => HP.out.2.1 h.1) HP1.out
  have HF0 := Lib.hid (HFI.out i (Nat.le_refl _) hi)
  have HPL : Hid (pb < W1.heap.size) := Lib.hid HP1.out.lt
  clear hW1 hE1 hB HS
  generalize hb2 : w.heap.size = b2 at *
  have HBW := Lib.hid hb2
  clear hb2
  obtain ⟨q, hq⟩ : ∃ q, q = sub i := ⟨_, rfl⟩
  rw [← hq] at HPR hat HF0
  clear hq
  cases q with
  | bad j =>
    have hpr : pr = .bad j := HPR.out
    subst hpr
    have hat : Calls Tryd.prog 88 _ W1 (fun e w' => e = .panicked wrongC ∧ ParP W1 pb s j sy w') := hat
    clear HTK HPR HFI HF0 HSB
    go_wp2_with ((with_reducible refine hat.mono ?_); rintro e W5 ⟨rfl, p5, g5⟩)
    exact ⟨rfl, rfl, p5, grown_trans (grown_of_ext HE1.out _) g5⟩
  | ok x j =>
    have HPR : Hid (pr = loopP (binC s 124) sub .or (s.size + 1 - j) x j) := Lib.hid HPR.out
    have hat : Calls Tryd.prog 88 _ W1 (fun e w' => ∃ A c, e = .returned (.agg #[.int .u8 (x.tr.op : Int), .int .i64 x.tr.n, .slice A x.tr.subs.length c]) ∧ NodeB (butS S b2) false w' x.tr (.agg #[.int .u8 (x.tr.op : Int), .int .i64 x.tr.n, .slice A x.tr.subs.length c]) ∧ ParP W1 pb s j sy w') := hat
    have hj : j ≤ s.size := HF0.out.2
    have HIJ : Hid (i < j) := Lib.hid HF0.out.1
    clear HF0
    go_upto_region 2 with ((with_reducible refine hat.mono ?_); rintro e W5 ⟨A5, c5, rfl, n5, p5, g5⟩)
    have HL := Lib.hid (LocX.start p5 g5 n5)
    clear hat n5 p5 g5
    generalize W5.alloc (.cells #[.int .u8 (x.tr.op : Int), .int .i64 x.tr.n, .slice A5 x.tr.subs.length c5] 35) = W6 at *
    generalize W5.heap.size = b3 at *
    go_loopg [7] (s.size + 1 - j) (fun k t7 wr => ∃ y l g, Hid (k = s.size + 1 - l ∧ l ≤ s.size ∧ i < l ∧ s.size + 1 - l ≤ g ∧ pr = loopP (binC s 124) sub .or g y l ∧ LocX (butS S b2) W1 pb b3 s sy y l wr))
    case atStart => exact ⟨x, j, _, Lib.hid ⟨rfl, hj, HIJ.out, Nat.le_refl _, HPR.out, HL.out⟩⟩
    case round =>
      clear HL HPR HIJ
      obtain ⟨y, l, g, HY⟩ := hrel
      have tk := HTK.out l (by have := HY.out.2.1; omega) wr HY.out.2.2.2.2.2.p
      obtain ⟨f, hf⟩ : ∃ f, g = f + 1 := ⟨g - 1, by have := HY.out.2.1; have := HY.out.2.2.2.1; omega⟩
      have HF := Lib.hid hf
      clear hf
      cases hz : takP s l 124 with
      | false =>
        rw [hz] at tk
        have hpr : pr = .ok y l := by have h := HY.out.2.2.2.2.1; rw [HF.out, loopP, show (binC s 124) l = none from if_neg (by rw [hz]; decide)] at h; exact h
        have tk : Calls Tryd.prog 89 #[.pointer (some ⟨pb, 0, none⟩), .int .u8 124] wr (fun e w' => e = .returned (.bool false) ∧ ParP wr pb s l sy w') := tk
        have HL := Lib.hid HY.out.2.2.2.2.2
        clear hz HTK HY HSB HFI
        subst hpr
        go_upto_region 4 with ((with_reducible refine tk.mono ?_); rintro e W7 ⟨rfl, p7, g7⟩)
        have hL := HL.out.move HPL.out (fun h => HP.out.2.1 h.1) p7 g7
        obtain ⟨A, c, hb3, hn⟩ := hL.st
        have k0 := cell_of_blk hb3 0 (u := .int .u8 (y.tr.op : Int)) rfl
        have k1 := cell_of_blk hb3 1 (u := .int .i64 y.tr.n) rfl
        have k2 := cell_of_blk hb3 2 (u := .slice A y.tr.subs.length c) rfl
        have HL7 := Lib.hid (And.intro hL hn)
        clear tk hL hb3 hn
        go_wp2_with (with_reducible refine wpList_store_blk _ rfl 35 _ _ rfl b2 35 _ _ rfl rfl (blk_keep HB.out HL7.out.1.g HPB.out.1) (by kernel_rfl) (by kernel_rfl) (by kernel_rfl) ?_; intro w8 h8 g8)
        refine bodyPost_ret (results_cell_row rfl _ _ b2 35 _ (0, 0) _ (by simp [Act.put]) h8 Tryd.underlying35 rfl (by kernel_rfl)) rfl ?_
        exact ⟨A, c, rfl, (HL7.out.2.mono (fun b hb _ => hb.1)).past g8, HL7.out.1.p.keep g8 (Ne.symm HPB.out.1), grown_past (grown_trans (grown_of_ext HE1.out _) HL7.out.1.g) (by rw [HBW.out]; exact HPB.out.2) g8⟩
      | true =>
        rw [hz] at tk
        have HIN : Hid (l + 1 ≤ s.size) := Lib.hid (takP_in hz)
        have HSt : Hid (pr = match sub (l + 1) with | .bad l => .bad l | .ok z l => loopP (binC s 124) sub .or f (.or y z) l) := Lib.hid (by have h := HY.out.2.2.2.2.1; rw [HF.out, loopP, show (binC s 124) l = some (l + 1) from if_pos hz] at h; exact h)
        have tk : Calls Tryd.prog 89 #[.pointer (some ⟨pb, 0, none⟩), .int .u8 124] wr (fun e w' => e = .returned (.bool true) ∧ ParP wr pb s (l + 1) sy w') := tk
        clear hz HTK
        go_upto_region 3 with ((with_reducible refine tk.mono ?_); rintro e W7 ⟨rfl, p7, g7⟩)
        have hL := HY.out.2.2.2.2.2.move HPL.out (fun h => HP.out.2.1 h.1) p7 g7
        obtain ⟨A, c, hb3, hn⟩ := hL.st
        have k0 : ∀ w', W7.grownBy w' (some pb) → w'.cell? ⟨b3, 0, none⟩ = some (.int .u8 (y.tr.op : Int)) := fun w' g => cell_of_blk (blk_keep hb3 g (hL.ne HPL.out)) 0 rfl
        have k1 : ∀ w', W7.grownBy w' (some pb) → w'.cell? ⟨b3, 1, none⟩ = some (.int .i64 y.tr.n) := fun w' g => cell_of_blk (blk_keep hb3 g (hL.ne HPL.out)) 1 rfl
        have k2 : ∀ w', W7.grownBy w' (some pb) → w'.cell? ⟨b3, 2, none⟩ = some (.slice A y.tr.subs.length c) := fun w' g => cell_of_blk (blk_keep hb3 g (hL.ne HPL.out)) 2 rfl
        have hil : i ≤ l + 1 := by have := HY.out.2.2.1; omega
        have hsb := fun w' (e : Ext W7 w') => HSB.out (l + 1) hil HIN.out (butS (butS S b2) b3) w' pb ((hL.ext e).new HS1.out) (fun h => HP.out.2.1 h.1.1) (hL.ext e).p
        have HFK := Lib.hid (HFI.out (l + 1) hil HIN.out)
        have HL7 := Lib.hid (And.intro hL (And.intro hb3 hn))
        have HGL : Hid (gk = s.size + 1 - l) := Lib.hid HY.out.1
        have HGG : Hid (s.size + 1 - l ≤ g) := Lib.hid HY.out.2.2.2.1
        clear tk hL hb3 hn HY HSB HFI
        obtain ⟨q, hq⟩ : ∃ q, q = sub (l + 1) := ⟨_, rfl⟩
        rw [← hq] at HSt hsb HFK
        clear hq
        cases q with
        | bad l2 =>
          have hpr : pr = .bad l2 := HSt.out
          subst hpr
          have hsb : ∀ w', Ext W7 w' → Calls Tryd.prog 88 #[.pointer (some ⟨pb, 0, none⟩)] w' (fun e w'' => e = .panicked wrongC ∧ ParP w' pb s l2 sy w'') := hsb
          clear HSt HFK
          have kk0 := k0 _ (grown_of_ext (Ext.refl W7) _)
          have kk1 := k1 _ (grown_of_ext (Ext.refl W7) _)
          have kk2 := k2 _ (grown_of_ext (Ext.refl W7) _)
          have hR7 := Ext.refl W7
          have hfin : ∀ W8, PSt W8 pb s l2 sy → W7.drew.grownBy W8 (some pb) → ParP w pb s l2 sy W8 := fun W8 p8 g8 => ⟨p8, grown_trans (grown_of_ext HE1.out _) (grown_trans HL7.out.1.g (grown_trans (grown_of_ext (drew_ext _) _) g8))⟩
          have hS0 : SP b3 y A c W7.drew := ⟨kk0, kk1, kk2⟩
          refine wp_region_bar 3 (SP b3 y A c) (by kernel_rfl) ?_
          refine wpAnyB_take (i := 0) (v := ?_) rfl (by kernel_rfl) (by kernel_rfl) (by kernel_rfl) (by kernel_rfl) (fun _ _ _ h => h) (Or.inl ⟨by rfl, ?_⟩) hS0 ?_
          rotate_left
          · (intro w hSw; obtain ⟨s1, s2, s3⟩ := hSw; go_simp; first | done | with_reducible rfl)
          try simp only [Act.put, List.setIfInBounds_toArray, List.set_cons_zero, List.set_cons_succ]
          refine wpAnyB_take (i := 1) (v := ?_) rfl (by kernel_rfl) (by kernel_rfl) (by kernel_rfl) (by kernel_rfl) (fun _ _ _ h => h) (Or.inl ⟨by rfl, ?_⟩) hS0 ?_
          rotate_left
          · (intro w hSw; obtain ⟨s1, s2, s3⟩ := hSw; go_simp; first | done | with_reducible rfl)
          try simp only [Act.put, List.setIfInBounds_toArray, List.set_cons_zero, List.set_cons_succ]
          refine wpAnyB_ready (rs := [2]) (by kernel_rfl) (by simp) (AllB.cons rfl (fun K hK => ?_) AllB.nil)
          go_simp
          refine (hsb _ (drew_ext _)).mono ?_
          rintro e W8 ⟨rfl, p8, g8⟩
          exact ⟨rfl, rfl, hfin _ p8 g8⟩
        | ok z l2 =>
          have HSt : Hid (pr = loopP (binC s 124) sub .or f (.or y z) l2) := Lib.hid HSt.out
          have hsb : ∀ w', Ext W7 w' → Calls Tryd.prog 88 #[.pointer (some ⟨pb, 0, none⟩)] w' (fun e w'' => ∃ A c, e = .returned (.agg #[.int .u8 (z.tr.op : Int), .int .i64 z.tr.n, .slice A z.tr.subs.length c]) ∧ NodeB (butS (butS S b2) b3) false w'' z.tr (.agg #[.int .u8 (z.tr.op : Int), .int .i64 z.tr.n, .slice A z.tr.subs.length c]) ∧ ParP w' pb s l2 sy w'') := hsb
          have hR7 := Ext.refl W7
          have htw := fun W8 A8 c8 (g8 : W7.drew.grownBy W8 (some pb)) (n8 : NodeB (butS (butS S b2) b3) false W8 z.tr (.agg #[.int .u8 (z.tr.op : Int), .int .i64 z.tr.n, .slice A8 z.tr.subs.length c8])) => (show Calls Tryd.prog 90 #[_, .agg #[.int .u8 (y.tr.op : Int), .int .i64 y.tr.n, .slice A y.tr.subs.length c], .agg #[.int .u8 (z.tr.op : Int), .int .i64 z.tr.n, .slice A8 z.tr.subs.length c8]] W8 _ from two3 (((HL7.out.1.ext (drew_ext _)).new HS1.out).keep g8) ((HL7.out.2.2.ext (drew_ext _)).past3 g8 (fun h => HP.out.2.1 h.1.1)) n8)
          unfold MadeQ at htw
          have HTW := Lib.hid htw
          have HL8 := Lib.hid (fun W8 (g8 : W7.drew.grownBy W8 (some pb)) => blk_keep (heap_ext (drew_ext _) HL7.out.2.1) g8 (HL7.out.1.ne HPL.out))
          have hS0 : SP b3 y A c W7.drew := ⟨k0 _ (grown_of_ext (drew_ext _) _), k1 _ (grown_of_ext (drew_ext _) _), k2 _ (grown_of_ext (drew_ext _) _)⟩
          clear htw k0 k1 k2
          refine wp_region_bar 3 (SP b3 y A c) (by kernel_rfl) ?_
          refine wpAnyB_take (i := 0) (v := ?_) rfl (by kernel_rfl) (by kernel_rfl) (by kernel_rfl) (by kernel_rfl) (fun _ _ _ h => h) (Or.inl ⟨by rfl, ?_⟩) hS0 ?_
          rotate_left
          · (intro w hSw; obtain ⟨s1, s2, s3⟩ := hSw; go_simp; first | done | with_reducible rfl)
          try simp only [Act.put, List.setIfInBounds_toArray, List.set_cons_zero, List.set_cons_succ]
          refine wpAnyB_take (i := 1) (v := ?_) rfl (by kernel_rfl) (by kernel_rfl) (by kernel_rfl) (by kernel_rfl) (fun _ _ _ h => h) (Or.inl ⟨by rfl, ?_⟩) hS0 ?_
          rotate_left
          · (intro w hSw; obtain ⟨s1, s2, s3⟩ := hSw; go_simp; first | done | with_reducible rfl)
          try simp only [Act.put, List.setIfInBounds_toArray, List.set_cons_zero, List.set_cons_succ]
          refine wpAnyB_ready (rs := [2]) (by kernel_rfl) (by simp) (AllB.cons rfl (fun K hK => ?_) AllB.nil)
          go_simp
          refine (hsb _ (drew_ext _)).mono ?_
          rintro e W8 ⟨A8, c8, rfl, n8, p8, g8⟩
          have hb8 := HL8.out W8 g8
          refine hK.out _ _ ⟨cell_of_blk hb8 0 rfl, cell_of_blk hb8 1 rfl, cell_of_blk hb8 2 rfl⟩ ?_
          refine wpAnyB_tail rfl rfl (by decide) (by kernel_rfl) ?_
          have htw := HTW.out W8 A8 c8 g8 n8
          have HP8 := Lib.hid (And.intro p8 (And.intro hb8 g8))
          clear hsb HTW HL8 hb8 p8 g8 n8 hK hS0
          go_wp2_with (first | ((with_reducible refine htw.mono ?_); rintro e W9 ⟨A9, c9, rfl, n9, e9⟩) | (with_reducible refine wpList_store_blk _ rfl 35 _ _ rfl b3 35 _ _ rfl rfl (heap_ext e9 HP8.out.2.1) (by kernel_rfl) (by kernel_rfl) (by kernel_rfl) ?_; intro w10 h10 g10))
          have HFL : Hid (l + 1 < l2 ∧ l2 ≤ s.size) := Lib.hid HFK.out
          go_roundg (s.size + 1 - l2)
          case measure => have := HFL.out; have := HGL.out; omega
          case rel =>
            refine ⟨.or y z, l2, f, Lib.hid ⟨rfl, HFL.out.2, by have := HFL.out; omega, by have := HFL.out; have := HGG.out; have := HF.out; omega, HSt.out, ?_⟩⟩
            exact HL7.out.1.put (z := .or y z) HPL.out (HP8.out.1.ext e9) (grown_trans (grown_of_ext (drew_ext _) _) (grown_trans HP8.out.2.2 (grown_of_ext e9 _))) n9 h10 g10
end Go.Proofs.YtmebgomnmlbgnaaDoor
