
import Derived.Test.YtmebgomnmlbgnaaDoorZN
set_option linter.unnecessarySimpa false
set_option linter.unusedSectionVars false
namespace Go.Proofs.YtmebgomnmlbgnaaDoor
open Go.RowKit Go.Maps
set_option linter.unusedVariables false
set_option linter.unusedSimpArgs false
attribute [local go_sem] Oper.quietV quietV Oper.gives givesV ext_refl_iff ext_alloc_iff ext_drew_iff ext_drewN_iff
attribute [local go_sem] RI.Oper.gives RI.givesV
set_option maxRecDepth 100000 in
set_option maxHeartbeats 16000000 in
theorem explore94_any {w : World} {m : Nat} {x1 x2 y1 y2 y3 : Value} {step : (Nat × Nat) → Nat → (Nat × Nat)} {acc : (Nat × Nat) → Bool} {s0 : (Nat × Nat)} (good : (Nat × Nat) → Prop) (hgood : ∀ s, good s → okP s) (hm : m ≤ 16)
    (hstep : ∀ (w' : World) (s : (Nat × Nat)) (a : Nat), Ext w w' → good s → a < m → Calls Tryd.prog 95 #[plcV s, .int .i64 (a : Int), x1, x2] w' fun e w'' => e = .returned (plcV (step s a)) ∧ Ext w' w'')
    (hacc : ∀ (w' : World) (s : (Nat × Nat)), Ext w w' → good s → Calls Tryd.prog 96 #[plcV s, y1, y2, y3] w' fun e w'' => e = .returned (.bool (acc s)) ∧ Ext w' w'')
    (h0 : good s0) (hok : ∀ (s : (Nat × Nat)) (a : Nat), good s → a < m → good (step s a)) :
    Calls Tryd.prog 94 #[.int .i64 (m : Int), plcV s0, .func (.func 95) #[] #[x1, x2], .func (.func 96) #[] #[y1, y2, y3]] w (ExpP acc (expF m step s0) w) := by
  have HK := Lib.hid (k129.sub hgood)
  clear hgood
  have HST := Lib.hid hstep
  have HAC := Lib.hid hacc
  have HOK := Lib.hid (And.intro h0 hok)
  clear hstep hacc hok h0
  obtain ⟨C, hC⟩ : ∃ C, C = (plcC s0).toArray := ⟨_, rfl⟩
  have hv0 : plcV s0 = .agg C := by rw [hC]; rfl
  rw [hv0]
  have HCI : Hid ((Tryd.prog.info? 129).map (·.size) = some C.size) := Lib.hid (by rw [hC, (HK.out).isz HOK.out.1]; simp)
  have HC := Lib.hid hC
  have HV0 := Lib.hid hv0
  clear hC hv0
  obtain ⟨R, hR⟩ : ∃ R, R = expF m step s0 := ⟨_, rfl⟩
  rw [← hR]
  have HR := Lib.hid hR
  clear hR
  go_enter Tryd.func94, Tryd.ntmps94
  go_upto_region 1 with fail
  refine wp_named ?_
  intro W1 hW1
  have hE1 : Ext w W1 := by rw [hW1]; exact (alloc_ext _ _).trans (alloc_ext _ _)
  have hB5 : W1.heap[w.heap.size]? = some (.cells C 129 (0, 0)) := by rw [hW1]; exact heap_ext (alloc_ext _ _) (heap_alloc_new _ _)
  have hB8 : W1.heap[w.heap.size + 1]? = some zRaw := by rw [hW1]; have := heap_alloc_new (w.alloc (.cells C 129)) zRaw; simpa using this
  obtain ⟨d5, hd5⟩ : ∃ d, d = w.heap.size := ⟨_, rfl⟩
  obtain ⟨d8, hd8⟩ : ∃ d, d = w.heap.size + 1 := ⟨_, rfl⟩
  rw [← hd8] at hB8 ⊢
  rw [← hd5] at hB5 ⊢
  have HB := Lib.hid (And.intro hB5 hB8)
  have HE1 := Lib.hid hE1
  have HD := Lib.hid (And.intro hd5 hd8)
  have hmm := @run_makeMap Tryd.prog
  obtain ⟨i3, hi3, hz3, hs3, hb3⟩ := info_parts int_info
  clear hW1 hE1 hB5 hB8 hd5 hd8
  refine RI.wp_region_inv 7 (J1 129 2 plcV plcC good W1 s0) (fun k => [1, 2, 4].contains k) (fun k => ([[], [0], [], [], [2, 3], [2, 3, 4], [0, 1], [0, 1, 2, 3, 4, 5, 6]] : List (List Nat)).getD k []) (by kernel_rfl) (by kernel_rfl) ?_ ?_
  rotate_left; simp only [List.take_succ_cons, List.take_zero]; rotate_left
  · exact J1.start W1 s0 (Ext.refl _).drew
  with_reducible refine RI.lexL_quiet' (v := ?_) ?_ ?_ ?_ ?_; rotate_left; (· with_reducible rfl); (· decide); (· intro G w1 hI1 hA1; (refine quiet_row 129 (.tmp 5) ?_ d5 ?_ (C := C) (heap_ext hI1.ext HB.out.1) _ Tryd.underlying129 rfl HCI.out) <;> (first | rfl | exact rfl | (go_simp; done) | (simp [Act.eval]; done)))
  (try simp only [Act.put, List.setIfInBounds_toArray, List.set_cons_zero, List.set_cons_succ])
  with_reducible refine RI.lexL_give' ?_ ?_ ?_ ?_; (· with_reducible rfl); (· decide)
  · intro G w5 hI hA hg
    exact (HK.out).gives_lit _ rfl (by first | (rw [HV0.out]; done) | (rw [HV0.out]; rfl)) HOK.out.1 (J1.set1 HK.out hI hg HOK.out.1)
  intro v1 G w5 hI hs2
  obtain ⟨bl, rfl⟩ := hI.p1 v1 (hs2 1 v1 rfl)
  clear hI hs2 G w5
  (try simp only [Act.put, List.setIfInBounds_toArray, List.set_cons_zero, List.set_cons_succ])
  with_reducible refine RI.lexL_give' ?_ ?_ ?_ ?_; (· with_reducible rfl); (· decide)
  · intro G w5 hI hA hg
    go_simp
    exact hI.set2 hg
  intro v2 G w5 hI hs2
  obtain ⟨bm, rfl⟩ := hI.p2 v2 (hs2 2 v2 rfl)
  clear hI hs2 G w5
  (try simp only [Act.put, List.setIfInBounds_toArray, List.set_cons_zero, List.set_cons_succ])
  with_reducible refine RI.lexL_quiet' (v := ?_) ?_ ?_ ?_ ?_; rotate_left; (· with_reducible rfl); (· decide); (· intro G w1 hI1 hA1; (refine quiet_row 129 (.tmp 5) ?_ d5 ?_ (C := C) (heap_ext hI1.ext HB.out.1) _ Tryd.underlying129 rfl HCI.out) <;> (first | rfl | exact rfl | (go_simp; done) | (simp [Act.eval]; done)))
  (try simp only [Act.put, List.setIfInBounds_toArray, List.set_cons_zero, List.set_cons_succ])
  with_reducible refine RI.lexL_give' ?_ ?_ ?_ ?_; (· with_reducible rfl); (· decide)
  · intro G w5 hI hA hg
    have h3 := hA 2 (by decide) _ rfl
    obtain ⟨w6, hrun, h6⟩ := J1.set4 HK.out hI hg h3 HOK.out.1 (v := .agg C) HV0.out.symm
    exact gives_ins 159 _ _ _ rfl hrun (h6 _)
  intro v4 G w5 hI hs2
  clear hI hs2 G w5
  (try simp only [Act.put, List.setIfInBounds_toArray, List.set_cons_zero, List.set_cons_succ])
  repeat (first | (with_reducible refine RI.lexL_quiet' (v := ?_) ?_ ?_ ?_ ?_; rotate_left; (· with_reducible rfl); (· decide); (· intro G w1 hI1 hA1; have hw1 := hI1.ext; go_simp; with_reducible rfl); (try simp only [Act.put, List.setIfInBounds_toArray, List.set_cons_zero, List.set_cons_succ])) | (with_reducible refine RI.lexL_skip ?_ ?_; (· simp [Region.wanted, yielded, undef]); (try simp only [Act.put, List.setIfInBounds_toArray, List.set_cons_zero, List.set_cons_succ])) | (with_reducible refine RI.lexL_quiet (v := ?_) ?_ ?_ ?_ ?_; rotate_left; (· simp [Region.wanted, yielded, undef]); (· decide); (· intro G w1 hI1 hA1; have hw1 := hI1.ext; go_simp; with_reducible rfl); (try simp only [Act.put, List.setIfInBounds_toArray, List.set_cons_zero, List.set_cons_succ])))
  with_reducible refine RI.lexL_nil ?_; intro w1 hI1; simp only [List.drop_succ_cons, List.drop_zero]
  obtain ⟨om0, hO9, _, hM9⟩ := hI1.own
  have hM := hM9 v4 rfl
  have hO : OwnL W1 w1 [.row 129 2 (.slice (some ⟨bl, 0, none⟩) 1 1) 1 (plcC s0), .blk bm om0] := hO9
  have hO0 : OwnL w W1 [.blk d8 zRaw, .blk d5 (.cells C 129)] := ⟨HE1.out, fun A hA => by
    rcases List.mem_cons.1 hA with rfl | hA
    · exact ⟨by rw [HD.out.2]; omega, HB.out.2⟩
    · simp at hA; subst hA; exact ⟨by rw [HD.out.1]; exact Nat.le_refl _, HB.out.1⟩, by
    refine List.pairwise_cons.2 ⟨fun B hB b hb hb' => ?_, List.pairwise_singleton _ _⟩
    simp at hB; subst hB
    have h1 : b = d8 := hb
    have h2 : b = d5 := hb'
    have := HD.out; omega⟩
  have hO2 : OwnL w w1 [.row 129 2 (.slice (some ⟨bl, 0, none⟩) 1 1) 1 (plcC s0), .blk bm om0, .blk d8 zRaw, .blk d5 (.cells C 129)] := ⟨hO0.ext.trans hO.ext, fun A hA => by
    rcases List.mem_append.1 (show A ∈ [Asn.row 129 2 (.slice (some ⟨bl, 0, none⟩) 1 1) 1 (plcC s0), .blk bm om0] ++ [.blk d8 zRaw, .blk d5 (.cells C 129)] from hA) with hA | hA
    · exact Asn.mono (hO.ok A hA) hO0.ext.size
    · exact Asn.of (hO0.ok A hA) (fun b hb => hO.ext.block b (Asn.lt (hO0.ok A hA) hb).2), List.pairwise_append.2 ⟨hO.apart, hO0.apart, fun A hA B hB b hb hb' => by
    have h1 := (Asn.lt (hO.ok A hA) hb).1
    have h2 := (Asn.lt (hO0.ok B hB) hb').2
    omega⟩⟩
  have HO := Lib.hid (And.intro hO2 hM)
  clear hI1 hO hO0 hO2 hM hO9 hM9 hmm HB HE1 HD
  go_upto_region 3 with fail
  refine wp_named ?_
  intro W5 hW5
  have hO5 : OwnL w W5 (XL 129 2 plcC (.cells C 129) d5 d8 w1.heap.size bm (.slice none 0 0) (.slice none 0 0) (.slice (some ⟨bl, 0, none⟩) 1 1) om0 [s0] [] [] []) := by
    rw [hW5]
    have h1 := HO.out.1.add (alloc_ext w1 zRaw) (A := .blk w1.heap.size zRaw) ⟨Nat.le_refl _, heap_alloc_new w1 _⟩
    have h2 := h1.add (Ext.refl _) (A := .row 4 1 (.slice none 0 0) 0 []) (World.ownsRow_nil _ _ _ _)
    have h3 := h2.add (Ext.refl _) (A := .rows 42 3 1 (.slice none 0 0) [] []) (OwnRows.empty _ _ _ _ _)
    unfold XL
    rw [show [s0].flatMap plcC = plcC s0 by simp]
    exact h3
  obtain ⟨d12, hd12⟩ : ∃ d, d = w1.heap.size := ⟨_, rfl⟩
  rw [← hd12] at hO5 ⊢
  have HX : Hid (∃ om vs rv av, MapOf plcV good om (mapZ [s0]) ∧ vs.length = 0 ∧ OwnL w W5 (XL 129 2 plcC (.cells C 129) d5 d8 d12 bm rv av (.slice (some ⟨bl, 0, none⟩) 1 1) om [s0] vs [] (([s0].take 0).map acc))) := Lib.hid ⟨om0, [], _, _, HO.out.2, rfl, hO5⟩
  clear hO5 hW5 hd12 HO
  go_wp2
  go_loopw [10, 13] (fun lv iv wr => ∃ (i : Nat) (l : List (Nat × Nat)) (rows : List (List Nat)), iv = .int .i64 i ∧ Hid (goF m step s0 i = some (l, rows)) ∧ i ≤ l.length ∧ l.length ≤ 1024 ∧ (∃ g c, lv = .slice (some ⟨g, 0, none⟩) l.length c) ∧ Hid (∃ om vs rv av, MapOf plcV good om (mapZ l) ∧ vs.length = i ∧ OwnL w wr (XL 129 2 plcC (.cells C 129) d5 d8 d12 bm rv av lv om l vs rows ((l.take i).map acc)))) (fun _ iv _ => 1025 - (intOf iv).toNat)
  case atStart => exact ⟨0, [s0], [], rfl, Lib.hid rfl, by simp, by simp, ⟨_, _, rfl⟩, HX⟩
  case round =>
    clear HX
    obtain ⟨i, l, rows, rfl, HGO, hil, hl4, ⟨gq, cq, rfl⟩, HX⟩ := hrel
    obtain ⟨W6, hW6⟩ : ∃ W, W = wr := ⟨_, rfl⟩; subst hW6
    obtain ⟨om, vs, rv, av, hmo, hvl, hO⟩ := HX.out
    have HGK := Lib.hid (goF_ok HOK.out.1 HOK.out.2 HGO.out)
    have HMO := Lib.hid (And.intro hmo (And.intro hvl hO))
    clear hmo hvl hO HX
    by_cases hlt : i < l.length
    · have hltI : (i : Int) < (l.length : Int) := by omega
      obtain ⟨s, hs⟩ : ∃ s, l[i]? = some s := ⟨_, List.getElem?_eq_getElem hlt⟩
      have hsok := HGK.out.1.all s (List.mem_of_getElem? hs)
      have HS := Lib.hid (And.intro hs hsok)
      clear hs hsok
      have HX2 : Hid (∃ om, MapOf plcV good om (mapZ l) ∧ OwnL w W6 (.row 3 1 (.slice none 0 0) 0 [] :: XL 129 2 plcC (.cells C 129) d5 d8 d12 bm rv av (.slice (some ⟨gq, 0, none⟩) l.length cq) om l vs rows ((l.take i).map acc))) := Lib.hid ⟨om, HMO.out.1, HMO.out.2.2.add (Ext.refl _) (A := .row 3 1 (.slice none 0 0) 0 []) (World.ownsRow_nil _ _ _ _)⟩
      go_wp2
      have HVL := Lib.hid HMO.out.2.1
      clear HMO
      clear om
      go_loopw [10, 14, 31] (fun lv tv xv wr => ∃ (x : Nat) (l' : List (Nat × Nat)) (row : List Nat), xv = .int .i64 x ∧ x ≤ m ∧ Hid (rowF (step s) x l = some (l', row)) ∧ l'.length ≤ 1024 ∧ (∃ g c, lv = .slice (some ⟨g, 0, none⟩) l'.length c) ∧ Hid (∃ om, MapOf plcV good om (mapZ l') ∧ OwnL w wr (.row 3 1 tv x (row.map numV) :: XL 129 2 plcC (.cells C 129) d5 d8 d12 bm rv av lv om l' vs rows ((l.take i).map acc)))) (fun _ _ xv _ => m - (intOf xv).toNat)
      case atStart => exact ⟨0, l, [], rfl, by omega, Lib.hid rfl, hl4, ⟨_, _, rfl⟩, HX2⟩
      case round =>
        clear HX2
        obtain ⟨x, l', row, rfl, hx, HRW, hl4', ⟨gq', cq', rfl⟩, HX⟩ := hrel
        obtain ⟨W7, hW7⟩ : ∃ W, W = wr := ⟨_, rfl⟩; subst hW7
        obtain ⟨om, hmo, hO⟩ := HX.out
        have HRK := Lib.hid (rowF_ok HGK.out.1 (f := step s) (x := x) (fun y hy => HOK.out.2 s y HS.out.2 (by omega)) HRW.out)
        have hs' : l'[i]? = some s := prefix_at HRK.out.2.1 HS.out.1
        have HM := Lib.hid (And.intro hmo (And.intro hO hs'))
        clear hmo hO HX hs'
        by_cases hxm : x < m
        · have hxI : (x : Int) < (m : Int) := by omega
          have hiI : (i : Int) < (l'.length : Int) := by have := (List.getElem?_eq_some_iff.1 HM.out.2.2).1; omega
          obtain ⟨t, ht⟩ : ∃ t, t = step s x := ⟨_, rfl⟩
          have HT := Lib.hid (And.intro ht (by rw [ht]; exact HOK.out.2 s x HS.out.2 hxm : good t))
          have hrg := fun w' (e : Ext W7 w') => (HK.out).range ((HM.out.2.1.trans e).get 4 rfl) HRK.out.1.all HM.out.2.2
          have hca := fun w' (e : Ext W7 w') => HST.out w' s x (HM.out.2.1.ext.trans e) HS.out.2 hxm
          rw [← ht] at hca
          have hca : ∀ w', Ext W7 w' → Calls Tryd.prog 95 #[.agg (plcC s).toArray, .int .i64 (x : Int), x1, x2] w' fun e w'' => e = .returned (.agg (plcC t).toArray) ∧ Ext w' w'' := hca
          have hsz := (HK.out).isz HS.out.2
          have HR7 := Ext.refl W7
          have hlen := (HK.out).len t HT.out.2
          have his : (Tryd.prog.info? 129).map (·.size) = some (plcC t).toArray.size := by rw [(HK.out).isz HT.out.2]; simp
          have hone := (HK.out).ones t
          clear ht
          go_upto_region 11 with (first
            | (with_reducible refine wpList_load_mid rfl 129 _ rfl gq' (i * 2) rfl (plcC s) _ (hrg _ HR7) Tryd.underlying129 rfl hsz ?_)
            | ((with_reducible refine (hca _ HR7).mono ?_); rintro e W8 ⟨rfl, e8⟩)
            | (with_reducible refine wpList_store_blk _ rfl 129 _ _ rfl W8.heap.size 129 (plcC t).toArray _ rfl rfl (heap_alloc_new _ _) (by rw [List.size_toArray, hlen]; kernel_rfl) his hone ?_; intro w9 h9 g9))
          obtain ⟨b16, hb16⟩ : ∃ b, b = W8.heap.size := ⟨_, rfl⟩
          have hE9 : Ext W7 w9 := Below.grown (e8.trans (alloc_ext _ _)) g9 (e8.trans (alloc_ext _ _)).size (fun k hk => by cases hk; exact e8.size)
          have hO9 := HM.out.2.1.add hE9 (A := .blk W8.heap.size (.cells (plcC t).toArray 129)) ⟨e8.size, h9⟩
          rw [← hb16] at hO9 h9 ⊢
          have hmW := HM.out.1 w9 bm (hO9.get 6 rfl).2
          have HO9 := Lib.hid (And.intro hO9 h9)
          have h9 := HO9.out.2
          have hkV : plcV t = .agg (plcC t).toArray := rfl
          have HKV := Lib.hid hkV
          clear g9 hE9 hO9 hb16 hca hrg HR7 hkV
          simp only [Act.put, List.setIfInBounds_toArray, List.set_cons_zero, List.set_cons_succ]
          by_cases hmem : t ∈ l'
          · have HG : Hid (getM (mapZ l') t = some (l'.idxOf t : Int)) := Lib.hid (mapZ_some HRK.out.1.nd hmem)
            have HN : Hid (rowF (step s) (x + 1) l = some (l', row ++ [l'.idxOf t])) := Lib.hid (by rw [rowF_succ HRW.out, ← HT.out.1, addF_old hmem]; rfl)
            clear hmem
            go_upto_region 17 with (first
              | (with_reducible refine wpList_load_row rfl 129 _ rfl b16 rfl 129 _ (0, 0) _ h9 Tryd.underlying129 rfl his ?_)
              | (at_lookup; refine wpList_lookup_is rfl _ _ 159 true rfl 3 (HK.out).key Tryd.underlying159 (zero3 _) rfl hmW t HKV.out.symm HT.out.2 ?_; rw [HG.out]))
            have HOW := Lib.hid (And.intro HM.out.1 HO9.out.1.drop)
            have hl2 := hl4'
            clear h9 hmW HO9 HG his hone hlen hsz
            have hrow := HOW.out.2.get 0 rfl
            have hb6 := (HOW.out.2.ext.trans (alloc_ext w9 (.cells #[.int .i64 (l'.idxOf t : Int)] 3))).size
            go_wp2_with (at_builtin; refine wpList_append_own2 rfl _ _ 42 rfl w.heap.size 3 i3 (.int .i64 0) 1 8 Tryd.underlying42 hi3 hz3 hs3 hb3 rfl (by decide) u14 x (row.map numV) rfl (World.ownsRow.alloc hrow _) ⟨w9.heap.size, 0, none⟩ 1 1 [.int .i64 (l'.idxOf t : Int)] rfl rfl (cells_new _ _ _) (by intro u hu; simp at hu; subst hu; rfl) (by unfold maxLen; omega) (by omega) hb6 ?_; intro v8 w8 hown8 hg8 hb8)
            go_roundw
            case rel =>
              refine ⟨x + 1, l', _, by go_num, by omega, HN, hl2, ⟨_, _, rfl⟩, Lib.hid ⟨_, HOW.out.1, ?_⟩⟩
              have h := (HOW.out.2.trans (alloc_ext w9 (.cells #[.int .i64 (l'.idxOf t : Int)] 3))).app 0 rfl hg8 hown8 hb8
              rw [List.map_append]; exact h
            case measure => simp [intOf]; omega
          · have HG : Hid (getM (mapZ l') t = none) := Lib.hid (mapZ_none hmem)
            by_cases hfull : l'.length = 1024
            · have HN : Hid (R = none) := Lib.hid (by
                have h1 : rowF (step s) (x + 1) l = none := by rw [rowF_succ HRW.out, ← HT.out.1, addF_full hmem hfull]; rfl
                have h2 := rowF_none h1 (show x + 1 ≤ m by omega)
                have h3 : goF m step s0 (i + 1) = none := by rw [goF_succ HGO.out HS.out.1, h2]; rfl
                rw [HR.out]; exact goF_none h3 (by omega))
              have hfI : ((l'.length : Int) == 1024) = true := by rw [hfull]; rfl
              have hRN := HN.out
              subst hRN
              obtain ⟨A1, c1, hrv, _, _⟩ := cells_of_owns (show w9.ownsRow w.heap.size 42 1 rv vs.length vs from (HO9.out.1.get 2 rfl : OwnRows w9 w.heap.size 42 3 1 rv vs (rows.map nRow)).own)
              obtain ⟨A2, c2, hav, _, _⟩ := cells_of_owns (show w9.ownsRow w.heap.size 4 1 av ((l.take i).map acc).length (((l.take i).map acc).map .bool) from HO9.out.1.get 3 rfl)
              have h12 := (HO9.out.1.get 4 rfl).2
              have h8b : w.heap.size ≤ d8 ∧ w9.heap[d8]? = some (.cells #[.slice none 0 0, .slice none 0 0] 109 (0, 0)) := HO9.out.1.get 7 rfl
              rw [hrv, hav] at h12
              have HE9 := Lib.hid (And.intro HO9.out.1.ext h8b)
              clear hmem hfull hrv hav
              go_wp2_with (first
                | (with_reducible refine wpList_load_row rfl 129 _ rfl b16 rfl 129 _ (0, 0) _ h9 Tryd.underlying129 rfl his ?_)
                | (at_lookup; refine wpList_lookup_is rfl _ _ 159 true rfl 3 (HK.out).key Tryd.underlying159 (zero3 _) rfl hmW t HKV.out.symm HT.out.2 ?_; rw [HG.out])
                | (with_reducible refine wpList_load_row rfl 109 _ rfl d12 rfl 109 _ (0, 0) _ h12 Tryd.underlying109 rfl (by kernel_rfl) ?_)
                | (with_reducible refine wpList_store_blk _ rfl 109 _ _ rfl d8 109 _ _ rfl rfl HE9.out.2.2 (by kernel_rfl) (by kernel_rfl) (by kernel_rfl) ?_; intro w10 h10 g10))
              refine bodyPost_ret (results_ct2 rfl _ _ d8 109 _ (0, 0) _ (by simp [Act.put]) h10 Tryd.underlying109 rfl (by kernel_rfl)) rfl ?_
              exact ⟨_, _, _, _, _, _, rfl, Below.grown HE9.out.1 g10 HE9.out.1.size (fun k hk => by cases hk; exact HE9.out.2.1)⟩
            · have HN : Hid (rowF (step s) (x + 1) l = some (l' ++ [t], row ++ [l'.length])) := Lib.hid (by rw [rowF_succ HRW.out, ← HT.out.1, addF_new hmem hfull]; rfl)
              have hfI : ((l'.length : Int) == 1024) = false := by simp; omega
              have hl2 : (l' ++ [t]).length ≤ 1024 := by simp; omega
              clear hmem
              go_upto_region 16 with (first
                | (with_reducible refine wpList_load_row rfl 129 _ rfl b16 rfl 129 _ (0, 0) _ h9 Tryd.underlying129 rfl his ?_)
                | (at_lookup; refine wpList_lookup_is rfl _ _ 159 true rfl 3 (HK.out).key Tryd.underlying159 (zero3 _) rfl hmW t HKV.out.symm HT.out.2 ?_; rw [HG.out]))
              refine RI.wp_region_inv 7 (J16 129 2 plcC w (.slice (some ⟨gq', 0, none⟩) l'.length cq') l' t [.blk b16 (.cells (plcC t).toArray 129), .row 3 1 u14 x (row.map numV), .rows 42 3 1 rv vs (rows.map nRow), .row 4 1 av ((l.take i).map acc).length (((l.take i).map acc).map .bool), .blk d12 (.cells #[rv, av] 109), .blk bm om, .blk d8 zRaw, .blk d5 (.cells C 129)]) (fun k => [5, 6].contains k) (fun k => ([[], [], [], [], [], [4], [3, 4, 5], [0, 1, 2, 3, 4, 5, 6], [0, 1, 2, 3, 4, 5, 6, 7]] : List (List Nat)).getD k []) (by kernel_rfl) (by kernel_rfl) ?_ ?_
              rotate_left; simp only [List.take_succ_cons, List.take_zero]; rotate_left
              · exact J16.start ((HO9.out.1.perm (List.perm_middle (l₁ := [_, _, _, _, _]))).trans (Ext.refl _).drew)
              with_reducible refine RI.lexL_quiet' (v := ?_) ?_ ?_ ?_ ?_; rotate_left; (· with_reducible rfl); (· decide); (· intro G w1 hI1 hA1; have hw1 := hI1.ext; go_simp; with_reducible rfl); (try simp only [Act.put, List.setIfInBounds_toArray, List.set_cons_zero, List.set_cons_succ])
              with_reducible refine RI.lexL_quiet' (v := ?_) ?_ ?_ ?_ ?_; rotate_left; (· with_reducible rfl); (· decide); (· intro G w1 hI1 hA1; (refine quiet_row 129 (.tmp 16) ?_ b16 ?_ (C := (plcC t).toArray) (hI1.own.blkAt 2 rfl) _ Tryd.underlying129 rfl his) <;> (first | rfl | exact rfl | (go_simp; done) | (simp [Act.eval]; done)))
              (try simp only [Act.put, List.setIfInBounds_toArray, List.set_cons_zero, List.set_cons_succ])
              with_reducible refine RI.lexL_quiet' (v := ?_) ?_ ?_ ?_ ?_; rotate_left; (· with_reducible rfl); (· decide); (· intro G w1 hI1 hA1; have hw1 := hI1.ext; go_simp; with_reducible rfl); (try simp only [Act.put, List.setIfInBounds_toArray, List.set_cons_zero, List.set_cons_succ])
              with_reducible refine RI.lexL_quiet' (v := ?_) ?_ ?_ ?_ ?_; rotate_left; (· with_reducible rfl); (· decide); (· intro G w1 hI1 hA1; have hw1 := hI1.ext; go_simp; with_reducible rfl); (try simp only [Act.put, List.setIfInBounds_toArray, List.set_cons_zero, List.set_cons_succ])
              with_reducible refine RI.lexL_quiet' (v := ?_) ?_ ?_ ?_ ?_; rotate_left; (· with_reducible rfl); (· decide); (· intro G w1 hI1 hA1; (refine quiet_row 129 (.tmp 16) ?_ b16 ?_ (C := (plcC t).toArray) (hI1.own.blkAt 2 rfl) _ Tryd.underlying129 rfl his) <;> (first | rfl | exact rfl | (go_simp; done) | (simp [Act.eval]; done)))
              (try simp only [Act.put, List.setIfInBounds_toArray, List.set_cons_zero, List.set_cons_succ])
              with_reducible refine RI.lexL_give' ?_ ?_ ?_ ?_; (· with_reducible rfl); (· decide)
              · intro G w5 hI hA hg
                exact (HK.out).gives_lit _ rfl (by first | (rw [HKV.out]; done) | (rw [HKV.out]; rfl)) HT.out.2 (hI.set5 hg)
              intro v5 G w5 hI hs2
              obtain ⟨b5, rfl⟩ := hI.p5 v5 (hs2 5 v5 rfl)
              clear hI hs2 G w5
              (try simp only [Act.put, List.setIfInBounds_toArray, List.set_cons_zero, List.set_cons_succ])
              with_reducible refine RI.lexL_give' ?_ ?_ ?_ ?_; (· with_reducible rfl); (· decide)
              · intro G w5 hI hA hg
                have h5 := hA 5 (by decide) _ rfl
                refine (HK.out).append l' t b5 (.slice (some ⟨gq', 0, none⟩) l'.length cq') (.tmp 57) (.tmp 59) ?_ ?_ (hI.row hg) ?_ (hI.blk h5) HT.out.2 (by omega) hI.ext.size (fun v' w' h1 h2 h3 => hI.set6 hg h5 h1 h2 h3) <;> first | rfl | exact rfl | (go_simp; done)
              intro v6 G w5 hI hs2
              clear hI hs2 G w5
              (try simp only [Act.put, List.setIfInBounds_toArray, List.set_cons_zero, List.set_cons_succ])
              with_reducible refine RI.lexL_nil ?_; intro w1 hI1; simp only [List.drop_succ_cons, List.drop_zero]
              have hF := hI1.fin rfl
              obtain ⟨gv, cv, rfl⟩ := ownsRow_pos (hF.get 0 rfl) (by omega)
              have hmW2 := HM.out.1 w1 bm (hF.blkAt 6 rfl)
              have hgo := (hF.get 6 rfl)
              have HF := Lib.hid hF
              clear hI1 hF hmW h9
              go_upto_region 17 with (at_mapUpdate; refine wpList_update_new rfl _ _ _ 159 rfl 3 (HK.out).key Tryd.underlying159 rfl hmW2 t HKV.out.symm HT.out.2 HG.out _ rfl ?_; intro w10 hm10 hg10)
              obtain ⟨om2, hb2, hmo2⟩ := mapOf_of hm10
              have hO6 := HF.out.step (A' := .blk bm om2) 6 rfl hg10 (fun c hc => by cases hc; rfl) ⟨(show w.heap.size ≤ bm ∧ _ from HF.out.get 6 rfl).1, hb2⟩ (fun c hc => .inl hc)
              have hO7 : OwnL w w10 [.blk b16 (.cells (plcC t).toArray 129), .row 129 2 (.slice (some ⟨gv, 0, none⟩) (l'.length + 1) cv) (l'.length + 1) ((l' ++ [t]).flatMap plcC), .row 3 1 u14 x (row.map numV), .rows 42 3 1 rv vs (rows.map nRow), .row 4 1 av ((l.take i).map acc).length (((l.take i).map acc).map .bool), .blk d12 (.cells #[rv, av] 109), .blk bm om2, .blk d8 zRaw, .blk d5 (.cells C 129)] := hO6.swap
              have hO8 := hO7.drop.perm (List.perm_middle (l₁ := [_, _, _, _])).symm
              have hlen2 : (l' ++ [t]).length = l'.length + 1 := by simp
              have HOW : Hid (MapOf plcV good om2 (mapZ (l' ++ [t])) ∧ OwnL w w10 (.row 3 1 u14 x (row.map numV) :: XL 129 2 plcC (.cells C 129) d5 d8 d12 bm rv av (.slice (some ⟨gv, 0, none⟩) (l'.length + 1) cv) om2 (l' ++ [t]) vs rows ((l.take i).map acc))) := Lib.hid ⟨by rw [mapZ_snoc]; exact hmo2, by unfold XL; rw [hlen2]; exact hO8⟩
              have HLL := Lib.hid hlen2
              clear hO6 hO7 hO8 hmo2 hb2 hm10 hg10 hgo hmW2 HF HO9 HG his hone hlen hsz hlen2
              have hrow := HOW.out.2.get 0 rfl
              have hb6 := (HOW.out.2.ext.trans (alloc_ext w10 (.cells #[.int .i64 (l'.length : Int)] 3))).size
              go_wp2_with (at_builtin; refine wpList_append_own2 rfl _ _ 42 rfl w.heap.size 3 i3 (.int .i64 0) 1 8 Tryd.underlying42 hi3 hz3 hs3 hb3 rfl (by decide) u14 x (row.map numV) rfl (World.ownsRow.alloc hrow _) ⟨w10.heap.size, 0, none⟩ 1 1 [.int .i64 (l'.length : Int)] rfl rfl (cells_new _ _ _) (by intro u hu; simp at hu; subst hu; rfl) (by unfold maxLen; omega) (by omega) hb6 ?_; intro v8 w8 hown8 hg8 hb8)
              go_roundw
              case rel =>
                refine ⟨x + 1, l' ++ [t], _, by go_num, by omega, HN, hl2, ⟨_, _, by rw [HLL.out]⟩, Lib.hid ⟨_, HOW.out.1, ?_⟩⟩
                have h := (HOW.out.2.trans (alloc_ext w10 (.cells #[.int .i64 (l'.length : Int)] 3))).app 0 rfl hg8 hown8 hb8
                rw [List.map_append]; exact h
              case measure => simp [intOf]; omega
        · have hxe : x = m := by omega
          subst hxe
          have hxI : ¬ (x : Int) < (x : Int) := by omega
          have hi2 := (List.getElem?_eq_some_iff.1 HM.out.2.2).1
          have hiI : (i : Int) < (l'.length : Int) := by omega
          have HG2 : Hid (goF x step s0 (i + 1) = some (l', rows ++ [row])) := Lib.hid (by rw [goF_succ HGO.out HS.out.1, HRW.out]; rfl)
          have hsz := (HK.out).isz HS.out.2
          have HTK : Hid ((l'.take (i + 1)).map acc = (l.take i).map acc ++ [acc s]) := Lib.hid (by
            rw [List.take_succ_eq_append_getElem hi2, List.map_append]
            have h1 : l'.take i = l.take i := by
              obtain ⟨r, hr⟩ := HRK.out.2.1
              rw [← hr, List.take_append_of_le_length (by omega)]
            have h2 : l'[i] = s := by have h := HM.out.2.2; rw [List.getElem?_eq_getElem hi2] at h; injection h
            rw [h1, h2]; rfl)
          obtain ⟨At, ct, hut, _, _⟩ := cells_of_owns (show W7.ownsRow w.heap.size 3 1 u14 x (row.map numV) from HM.out.2.1.get 0 rfl)
          subst hut
          have hOL : OwnL w W7 [.row 3 1 (.slice At x ct) x (row.map numV), .rows 42 3 1 rv vs (rows.map nRow), .row 4 1 av ((l.take i).map acc).length (((l.take i).map acc).map .bool), .blk d12 (.cells #[rv, av] 109), .row 129 2 (.slice (some ⟨gq', 0, none⟩) l'.length cq') l'.length (l'.flatMap plcC), .blk bm om, .blk d8 zRaw, .blk d5 (.cells C 129)] := HM.out.2.1
          obtain ⟨acs, hacs⟩ : ∃ a, a = (l.take i).map acc := ⟨_, rfl⟩
          obtain ⟨rs, hrs⟩ : ∃ a, a = rows.map nRow := ⟨_, rfl⟩
          obtain ⟨xs, hxs⟩ : ∃ a, a = row.map numV := ⟨_, rfl⟩
          rw [← hacs, ← hrs, ← hxs] at hOL
          have hal : acs.length ≤ 1024 := by rw [hacs]; simp; omega
          have HAX := Lib.hid (And.intro hacs (And.intro hrs hxs))
          have HOL := Lib.hid hOL
          clear hacs hrs hxs hOL
          go_upto_region 19 with fail
          refine RI.wp_region_inv 16 (J19 w (.slice At x ct) rv av x xs vs rs acs (acc s) [.blk d12 (.cells #[rv, av] 109), .row 129 2 (.slice (some ⟨gq', 0, none⟩) l'.length cq') l'.length (l'.flatMap plcC), .blk bm om, .blk d8 zRaw, .blk d5 (.cells C 129)]) (fun k => [3, 4, 12, 13, 14].contains k) (fun k => ([[], [0], [], [2], [0, 1, 2, 3], [], [5], [], [], [], [8, 9], [8, 9, 10], [0, 1, 2, 3, 4, 7, 8, 9, 10, 11], [0, 1, 2, 3, 4, 7, 8, 9, 10, 11, 12], [0, 1, 2, 3, 4, 5, 6, 7, 8, 9, 10, 11, 12, 13], [0, 1, 2, 3, 4, 5, 6], [0, 1, 2, 3, 4, 5, 6, 7, 8, 9, 10, 11, 12, 13, 14, 15], [0, 1, 2, 3, 4, 5, 6, 7, 8, 9, 10, 11, 12, 13, 14, 15, 16], [0, 1, 2, 3, 4, 5, 6, 7, 8, 9, 10, 11, 12, 13, 14, 15, 16, 17]] : List (List Nat)).getD k []) (by kernel_rfl) (by kernel_rfl) ?_ ?_
          rotate_left; simp only [List.take_succ_cons, List.take_zero]; rotate_left
          · exact J19.start (HOL.out.trans (Ext.refl _).drew)
          with_reducible refine RI.lexL_quiet' (v := ?_) ?_ ?_ ?_ ?_; rotate_left; (· with_reducible rfl); (· decide); (· intro G w1 hI1 hA1; have hw1 := hI1.ext; go_simp; with_reducible rfl); (try simp only [Act.put, List.setIfInBounds_toArray, List.set_cons_zero, List.set_cons_succ])
          with_reducible refine RI.lexL_quiet' (v := ?_) ?_ ?_ ?_ ?_; rotate_left; (· with_reducible rfl); (· decide); (· intro G w1 hI1 hA1; have q0 := cell_of_blk (hI1.own.blkAt 5 rfl) 0 (u := rv) rfl; have q1 := cell_of_blk (hI1.own.blkAt 5 rfl) 1 (u := av) rfl; go_simp; with_reducible rfl)
          (try simp only [Act.put, List.setIfInBounds_toArray, List.set_cons_zero, List.set_cons_succ])
          with_reducible refine RI.lexL_quiet' (v := ?_) ?_ ?_ ?_ ?_; rotate_left; (· with_reducible rfl); (· decide); (· intro G w1 hI1 hA1; have hw1 := hI1.ext; go_simp; with_reducible rfl); (try simp only [Act.put, List.setIfInBounds_toArray, List.set_cons_zero, List.set_cons_succ])
          with_reducible refine RI.lexL_give' ?_ ?_ ?_ ?_; (· with_reducible rfl); (· decide)
          · intro G w5 hI hA hg
            go_simp
            exact hI.set3 hg
          intro v3 G w5 hI hs2
          obtain ⟨b3, rfl⟩ := hI.p3 v3 (hs2 3 v3 rfl)
          clear hI hs2 G w5
          (try simp only [Act.put, List.setIfInBounds_toArray, List.set_cons_zero, List.set_cons_succ])
          with_reducible refine RI.lexL_give' ?_ ?_ ?_ ?_; (· with_reducible rfl); (· decide)
          · intro G w5 hI hA hg
            have h3 := hA 3 (by decide) _ rfl
            refine gives_app1 25 42 24 (.slice none 0 0) Tryd.underlying25 ints_info rfl (by decide) vs.length vs (.slice At x ct) b3 rv (.tmp 67) (.tmp 69) ?_ ?_ (hI.rows hg) ?_ (hI.blk3 h3) ?_ (by have := HVL.out; omega) hI.ext.size (fun v' w' h1 h2 h4 => hI.set4 hg h3 h1 h2 h4) <;> first | rfl | exact rfl | (go_simp; done)
          intro v4' G w5 hI hs2
          clear hI hs2 G w5
          (try simp only [Act.put, List.setIfInBounds_toArray, List.set_cons_zero, List.set_cons_succ])
          with_reducible refine RI.lexL_quiet' (v := ?_) ?_ ?_ ?_ ?_; rotate_left; (· with_reducible rfl); (· decide); (· intro G w1 hI1 hA1; have hw1 := hI1.ext; go_simp; with_reducible rfl); (try simp only [Act.put, List.setIfInBounds_toArray, List.set_cons_zero, List.set_cons_succ])
          with_reducible refine RI.lexL_quiet' (v := ?_) ?_ ?_ ?_ ?_; rotate_left; (· with_reducible rfl); (· decide); (· intro G w1 hI1 hA1; have q0 := cell_of_blk (hI1.own.blkAt 5 rfl) 0 (u := rv) rfl; have q1 := cell_of_blk (hI1.own.blkAt 5 rfl) 1 (u := av) rfl; go_simp; with_reducible rfl)
          (try simp only [Act.put, List.setIfInBounds_toArray, List.set_cons_zero, List.set_cons_succ])
          with_reducible refine RI.lexL_quiet' (v := ?_) ?_ ?_ ?_ ?_; rotate_left; (· with_reducible rfl); (· decide); (· intro G w1 hI1 hA1; have hw1 := hI1.ext; go_simp; with_reducible rfl); (try simp only [Act.put, List.setIfInBounds_toArray, List.set_cons_zero, List.set_cons_succ])
          with_reducible refine RI.lexL_quiet' (v := ?_) ?_ ?_ ?_ ?_; rotate_left; (· with_reducible rfl); (· decide); (· intro G w1 hI1 hA1; have hw1 := hI1.ext; go_simp; with_reducible rfl); (try simp only [Act.put, List.setIfInBounds_toArray, List.set_cons_zero, List.set_cons_succ])
          with_reducible refine RI.lexL_quiet' (v := ?_) ?_ ?_ ?_ ?_; rotate_left; (· with_reducible rfl); (· decide); (· intro G w1 hI1 hA1; have hw1 := hI1.ext; go_simp; with_reducible rfl); (try simp only [Act.put, List.setIfInBounds_toArray, List.set_cons_zero, List.set_cons_succ])
          with_reducible refine RI.lexL_quiet' (v := ?_) ?_ ?_ ?_ ?_; rotate_left; (· with_reducible rfl); (· decide); (· intro G w1 hI1 hA1; have hw1 := hI1.ext; go_simp; with_reducible rfl); (try simp only [Act.put, List.setIfInBounds_toArray, List.set_cons_zero, List.set_cons_succ])
          with_reducible refine RI.lexL_quiet' (v := ?_) ?_ ?_ ?_ ?_; rotate_left; (· with_reducible rfl); (· decide); (· intro G w1 hI1 hA1; (refine quiet_mid 129 (.tmp 76) ?_ gq' (i * 2) ?_ (C := plcC s) ((HK.out).range hI1.q HRK.out.1.all HM.out.2.2) _ Tryd.underlying129 rfl hsz) <;> (first | rfl | exact rfl | (go_simp; done) | (simp [Act.eval]; done)))
          (try simp only [Act.put, List.setIfInBounds_toArray, List.set_cons_zero, List.set_cons_succ])
          with_reducible refine RI.lexL_give' ?_ ?_ ?_ ?_; (· with_reducible rfl); (· decide)
          · intro G w5 hI hA hg
            go_simp
            refine (HAC.out w5 s hI.ext HS.out.2).mono ?_
            rintro e w6 ⟨rfl, e6⟩
            exact ⟨_, rfl, hI.set12 e6⟩
          intro v12 G w5 hI hs2
          have hv12 := hI.c12 v12 (hs2 12 v12 rfl)
          subst hv12
          clear hI hs2 G w5
          (try simp only [Act.put, List.setIfInBounds_toArray, List.set_cons_zero, List.set_cons_succ])
          with_reducible refine RI.lexL_give' ?_ ?_ ?_ ?_; (· with_reducible rfl); (· decide)
          · intro G w5 hI hA hg
            go_simp
            exact hI.set13 hg
          intro v13 G w5 hI hs2
          obtain ⟨b13, rfl⟩ := hI.p13 v13 (hs2 13 v13 rfl)
          clear hI hs2 G w5
          (try simp only [Act.put, List.setIfInBounds_toArray, List.set_cons_zero, List.set_cons_succ])
          with_reducible refine RI.lexL_give' ?_ ?_ ?_ ?_; (· with_reducible rfl); (· decide)
          · intro G w5 hI hA hg
            have h3 := hA 13 (by decide) _ rfl
            refine gives_app1 26 4 1 (.bool false) Tryd.underlying26 bool_info rfl (by decide) acs.length (acs.map .bool) (.bool (acc s)) b13 av (.tmp 72) (.tmp 79) ?_ ?_ (hI.acc hg) ?_ (hI.blk13 h3) ?_ (by omega) hI.ext.size (fun v' w' h1 h2 h4 => hI.set14 hg h3 h1 h2 h4) <;> first | rfl | exact rfl | (go_simp; done)
          intro v14 G w5 hI hs2
          clear hI hs2 G w5
          (try simp only [Act.put, List.setIfInBounds_toArray, List.set_cons_zero, List.set_cons_succ])
          with_reducible refine RI.lexL_quiet' (v := ?_) ?_ ?_ ?_ ?_; rotate_left; (· with_reducible rfl); (· decide); (· intro G w1 hI1 hA1; have hw1 := hI1.ext; go_simp; with_reducible rfl); (try simp only [Act.put, List.setIfInBounds_toArray, List.set_cons_zero, List.set_cons_succ])
          with_reducible refine RI.lexL_nil ?_; intro w1 hI1; simp only [List.drop_succ_cons, List.drop_zero]
          have hF := hI1.fin (v4 := v4') (v14 := v14) rfl rfl
          have HF := Lib.hid hF
          have c0 := cell_of_blk (hF.blkAt 2 rfl) 0 (u := rv) rfl
          have f0 := free_of_blk (hF.blkAt 2 rfl) 0
          have hb1 := heap_setCell_same w1 d12 0 #[rv, av] 109 v4' (hF.blkAt 2 rfl)
          have c1 : (w1.setCell ⟨d12, 0, none⟩ v4').cell? ⟨d12, 1, none⟩ = some av := cell_of_blk hb1 1 (u := av) rfl
          have f1 : (w1.setCell ⟨d12, 0, none⟩ v4').frozen? ⟨d12, 1, none⟩ = false := free_of_blk hb1 1
          obtain ⟨A4, c4, h4v, _, _⟩ := cells_of_owns (show w1.ownsRow w.heap.size 42 1 v4' (vs ++ [Value.slice At x ct]).length (vs ++ [Value.slice At x ct]) from (show OwnRows w1 w.heap.size 42 3 1 v4' (vs ++ [Value.slice At x ct]) (rs ++ [(x, xs)]) from hF.get 0 rfl).own)
          obtain ⟨A5, c5, h5v, _, _⟩ := cells_of_owns (show w1.ownsRow w.heap.size 4 1 v14 (acs.length + 1) ((acs ++ [acc s]).map .bool) from hF.get 1 rfl)
          rw [List.length_append, List.length_singleton] at h4v
          subst h4v h5v
          clear hI1 hF hb1
          go_wp2
          go_roundw
          case rel =>
            refine ⟨i + 1, l', rows ++ [row], by go_num, HG2, by omega, hl4', ⟨_, _, rfl⟩, Lib.hid ⟨om, vs ++ [Value.slice At x ct], Value.slice A4 (vs.length + 1) c4, Value.slice A5 (acs.length + 1) c5, HM.out.1, by have h := HVL.out; rw [List.length_append, List.length_singleton]; omega, ?_⟩⟩
            have h := (HF.out.put 2 rfl 0 (Value.slice A4 (vs.length + 1) c4)).put 2 rfl 1 (Value.slice A5 (acs.length + 1) c5)
            unfold XL
            rw [HTK.out, List.map_append, ← HAX.out.1, ← HAX.out.2.1]
            rw [show [row].map nRow = [(x, xs)] by rw [HAX.out.2.2]; simp [nRow, HRK.out.2.2.1]]
            rw [show (acs ++ [acc s]).length = acs.length + 1 by simp]
            exact h
          case measure => simp [intOf]; omega
    · have hie : i = l.length := by omega
      subst hie
      have HRS : Hid (R = some (l, rows)) := Lib.hid (by rw [HR.out]; exact goF_stop HGO.out (Nat.le_refl _) hl4)
      have hRS := HRS.out
      subst hRS
      have hltI : ¬ (l.length : Int) < (l.length : Int) := by omega
      have hrl : rows.length = l.length := by rw [HGK.out.2.2.1]; omega
      have hor : OwnRows W6 w.heap.size 42 3 1 rv vs (rows.map nRow) := HMO.out.2.2.get 0 rfl
      obtain ⟨A1, c1, hrv, _, _⟩ := cells_of_owns hor.own
      obtain ⟨A2, c2, hav, _, _⟩ := cells_of_owns (show W6.ownsRow w.heap.size 4 1 av ((l.take l.length).map acc).length (((l.take l.length).map acc).map .bool) from HMO.out.2.2.get 1 rfl)
      have h12 := HMO.out.2.2.blkAt 2 rfl
      have h8b : w.heap.size ≤ d8 ∧ W6.heap[d8]? = some (.cells #[.slice none 0 0, .slice none 0 0] 109 (0, 0)) := HMO.out.2.2.get 5 rfl
      have HH := Lib.hid (And.intro hrv (And.intro hav (And.intro h8b hrl)))
      rw [hrv, hav] at h12
      clear hor hrv hav hrl
      go_wp2_with (first
        | (with_reducible refine wpList_load_row rfl 109 _ rfl d12 rfl 109 _ (0, 0) _ h12 Tryd.underlying109 rfl (by kernel_rfl) ?_)
        | (with_reducible refine wpList_store_blk _ rfl 109 _ _ rfl d8 109 _ _ rfl rfl HH.out.2.2.1.2 (by kernel_rfl) (by kernel_rfl) (by kernel_rfl) ?_; intro w10 h10 g10))
      have hO10 := HMO.out.2.2.step (A' := .blk d8 (.cells #[.slice A1 vs.length c1, .slice A2 ((l.take l.length).map acc).length c2] 109)) 5 rfl g10 (fun c hc => by cases hc; rfl) ⟨HH.out.2.2.1.1, h10⟩ (fun c hc => .inl hc)
      have hvl := HMO.out.2.1
      refine bodyPost_ret (results_ct2 rfl _ _ d8 109 _ (0, 0) _ (by simp [Act.put]) h10 Tryd.underlying109 rfl (by kernel_rfl)) rfl ?_
      have r0 : Asn.ok w.heap.size w10 (.rows 42 3 1 rv vs (rows.map nRow)) := hO10.get 0 rfl
      have r1 : Asn.ok w.heap.size w10 (.row 4 1 av ((l.take l.length).map acc).length (((l.take l.length).map acc).map .bool)) := hO10.get 1 rfl
      have key : ∀ w'' : World, (∀ b, w.heap.size ≤ b → b < w10.heap.size → w''.heap[b]? = w10.heap[b]?) → ListsC w'' (.slice A1 vs.length c1) (rows.map (·.map Int.ofNat)) c1 ∧ BoolsC w'' (.slice A2 (l.map acc).length c2) (l.map acc) c2 := by
        intro w'' hag
        have hor : OwnRows w'' w.heap.size 42 3 1 rv vs (rows.map nRow) := Asn.of r0 (fun b hb => hag b (Asn.lt r0 hb).1 (Asn.lt r0 hb).2)
        have hob : w''.ownsRow w.heap.size 4 1 av ((l.take l.length).map acc).length (((l.take l.length).map acc).map .bool) := Asn.of r1 (fun b hb => hag b (Asn.lt r1 hb).1 (Asn.lt r1 hb).2)
        rw [HH.out.1, nRows] at hor
        rw [HH.out.2.1] at hob
        rw [List.take_length] at hob
        have hl := listsC_of_own (n := vs.length) hor (by rw [List.length_map, HH.out.2.2.2, hvl]) (by unfold lenMax; omega) (fun r hr => by
          obtain ⟨r0, hr0, rfl⟩ := List.mem_map.1 hr
          obtain ⟨j, hj, hjr⟩ := List.mem_iff_getElem.1 hr0
          have hjl : j < l.length := by have := HH.out.2.2.2; omega
          have := (HGK.out.2.2.2 j l[j] r0 (List.getElem?_eq_getElem hjl) (by rw [List.getElem?_eq_getElem hj, hjr])).1
          rw [List.length_map, this]; unfold lenMax; omega)
        obtain ⟨c3, hb3⟩ := bools_of_owns hob (by simp) (by simp [lenMax]; omega)
        have hc3 : c2 = c3 := by obtain ⟨A3, h3, _⟩ := hb3; injection h3
        subst hc3
        exact ⟨hl, hb3⟩
      rw [List.take_length]
      rw [hvl] at key ⊢
      rw [List.length_map] at key ⊢
      exact ⟨A1, c1, A2, c2, by simp only [HH.out.2.2.2]; simp [Act.put], hO10.ext, by rw [HH.out.2.2.2]; exact key⟩
end Go.Proofs.YtmebgomnmlbgnaaDoor
