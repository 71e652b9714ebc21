/- law25.ring 39. Rings: their words, their common words and their unions, what is included. Plain lists. What is included of rings; the automaton of all words. Plain lists. -/
import Derived.Test.YthlnmcokgfpgmaaDoorZV
import Derived.Test.YthlnmcokgfpgmaaDoorZS
namespace Go.Proofs.YthlnmcokgfpgmaaDoor
open Go.RowKit Go.Maps
set_option linter.unusedVariables false
set_option linter.unusedSimpArgs false
attribute [local go_sem] Oper.quietV quietV Oper.gives givesV ext_refl_iff ext_alloc_iff ext_drew_iff ext_drewN_iff
def rgRow (n s : Nat) : List Int := [(((s + 1) % n : Nat) : Int)]
def ringD (n : Nat) : Dfa := ⟨1, (List.range n).map (rgRow n), (List.range n).map (fun s => s == 0)⟩
set_option maxRecDepth 100000 in
set_option maxHeartbeats 16000000 in
theorem ring_any (w : World) (n : Nat) (hn : 1 ≤ n ∧ n ≤ 256) : Calls Tryd.prog 39 #[.int .i64 n] w fun e w' => ∃ v, e = .returned v ∧ DfaV w' v (ringD n) ∧ Ext w w' := by
  obtain ⟨i3, hi3, hz3, hs3, hb3⟩ := info_parts int_info
  obtain ⟨i4, hi4, hz4, hs4, hb4'⟩ := info_parts bool_info
  obtain ⟨i31, hi31, hz31, hs31, hb31⟩ := info_parts ints_info
  go_enter Tryd.func39, Tryd.ntmps39
  go_upto_region 1 with fail
  refine wp_named ?_
  intro W1 hW1
  have hE1 : Ext w W1 := by rw [hW1]; exact (Ext.refl _).alloc _
  have kb : ∀ w', Ext W1 w' → w'.heap[w.heap.size]? = some (.cells #[.int .i64 0, .slice none 0 0, .slice none 0 0] 28 (0, 0)) := fun w' h => heap_ext h (by rw [hW1]; exact heap_alloc_new w _)
  clear hW1
  go_upto_region 2 with (with_reducible refine wpList_store_blk _ rfl 28 _ _ rfl W1.heap.size 28 _ _ rfl rfl (heap_alloc_new _ _) (by kernel_rfl) (by kernel_rfl) (by kernel_rfl) ?_; intro W2 h2 g2)
  have hE2 : Ext W1 W2 := Below.grown (alloc_ext W1 _) g2 (alloc_ext W1 _).size (fun k hk => by cases hk; exact Nat.le_refl _)
  have hO : OwnL W1 W2 [.rows 31 3 1 (.slice none 0 0) [] (((List.range 0).map (rgRow n)).map iRow), .row 4 1 (.slice none 0 0) 0 ((List.range 0).map (fun s => Value.bool (s == 0))), .blk W1.heap.size (.cells #[.int .i64 1, .slice none 0 0, .slice none 0 0] 28 (0, 0))] := by
    have h1 : OwnL W1 W2 [.blk W1.heap.size (.cells #[.int .i64 1, .slice none 0 0, .slice none 0 0] 28 (0, 0))] := ⟨hE2, fun A hA => by rw [List.mem_singleton.1 hA]; exact ⟨Nat.le_refl _, h2⟩, List.pairwise_singleton _ _⟩
    have h3 := h1.add (Ext.refl _) (A := .row 4 1 (.slice none 0 0) 0 []) (World.ownsRow_nil _ _ _ _)
    exact h3.add (Ext.refl _) (A := .rows 31 3 1 (.slice none 0 0) [] []) ⟨World.ownsRow_nil _ _ _ _, rfl, fun j u r h => by simp at h, fun i j u u' h => by simp at h, fun j u h => by simp at h⟩
  have HB : Hid (W1.heap.size = w.heap.size + 1 ∨ True) := Lib.hid (.inr trivial)
  clear g2 h2 hE2
  generalize W1.heap.size = b5 at *
  go_wp2
  go_loopw [4] (fun sv wr => ∃ (s : Nat) (rowsv accv : Value) (vsr : List Value), sv = .int .i64 s ∧ s ≤ n ∧ OwnL W1 wr [.rows 31 3 1 rowsv vsr (((List.range s).map (rgRow n)).map iRow), .row 4 1 accv s ((List.range s).map (fun s => Value.bool (s == 0))), .blk b5 (.cells #[.int .i64 1, rowsv, accv] 28 (0, 0))]) (fun sv _ => n - (intOf sv).toNat)
  case atStart => exact ⟨0, _, _, [], rfl, by omega, hO⟩
  case round =>
    clear hO
    obtain ⟨s, rowsv, accv, vsr, rfl, hs, hO⟩ := hrel
    obtain ⟨W3, hW3⟩ : ∃ W, W = wr := ⟨_, rfl⟩; subst hW3
    by_cases hlt : s < n
    · have hltI : (s : Int) < (n : Int) := by omega
      have hnz : ¬ (n : Int) = 0 := by omega
      have hnz2 : ¬ n = 0 := by omega
      have hwr : IntKind.i64.wrap ((s : Int) + 1) = (s : Int) + 1 := IntWalk.i64_in _ (by omega)
      obtain ⟨M, hM⟩ : ∃ M, (s + 1) % n = M := ⟨_, rfl⟩
      have hmod : ((s : Int) + 1).tmod (n : Int) = (M : Int) := by rw [Int.tmod_eq_emod_of_nonneg (by omega), ← hM]; push_cast; rfl
      have HM := Lib.hid hM
      clear hM
      have hrows : OwnRows W3 W1.heap.size 31 3 1 rowsv vsr (((List.range s).map (rgRow n)).map iRow) := hO.get 0 rfl
      have hvl : vsr.length = s := by have := hrows.len; simpa using this
      have HVL := Lib.hid hvl
      obtain ⟨Arr, crr, hrf⟩ := own_form hrows.own
      rw [hvl] at hrf
      have d1 := cell_of_blk (hO.get 2 rfl).2 1 (u := rowsv) rfl
      have d2 := cell_of_blk (hO.get 2 rfl).2 2 (u := accv) rfl
      obtain ⟨B, hB⟩ : ∃ B, (s == 0) = B := ⟨_, rfl⟩
      have hB2 : ((s : Int) == 0) = B := by rw [← hB, Bool.eq_iff_iff]; simp
      have hS0 : Sb b5 rowsv accv W3.drew := ⟨(drew_ext _).cell d1, (drew_ext _).cell d2⟩
      have HB5 := Lib.hid hB
      subst hrf
      obtain ⟨Aac, cac, rfl⟩ := own_form (hO.get 1 rfl)
      have hs7 : s ≤ 255 := by omega
      clear hrows hvl d1 d2 hB
      obtain ⟨oV, hoV⟩ : ∃ o : Obj, o = .cells #[.int .i64 M] 3 := ⟨_, rfl⟩
      obtain ⟨oR, hoR⟩ : ∃ o : Obj, o = .cells #[.slice (some ⟨W3.heap.size, 0, none⟩) 1 1] 31 := ⟨_, rfl⟩
      obtain ⟨oR', hoR'⟩ : ∃ o : Obj, o = .cells #[.slice (some ⟨W3.heap.size + 1, 0, none⟩) 1 1] 31 := ⟨_, rfl⟩
      obtain ⟨oB, hoB⟩ : ∃ o : Obj, o = .cells #[.bool B] 4 := ⟨_, rfl⟩
      have HOV := Lib.hid hoV
      have HOR := Lib.hid hoR
      have HOR' := Lib.hid hoR'
      have HOB := Lib.hid hoB
      clear hoV hoR hoR' hoB
      have hrs : ((List.range (s + 1)).map (rgRow n)).map iRow = ((List.range s).map (rgRow n)).map iRow ++ [(1, [.int .i64 M])] := by
        rw [List.range_succ, List.map_append, List.map_append]
        show _ ++ [iRow (rgRow n s)] = _
        unfold rgRow iRow
        rw [HM.out]; rfl
      have HRS := Lib.hid hrs
      have hbs : (List.range (s + 1)).map (fun s => Value.bool (s == 0)) = (List.range s).map (fun s => Value.bool (s == 0)) ++ [.bool B] := by
        rw [List.range_succ, List.map_append, ← HB5.out]; rfl
      have HBS := Lib.hid hbs
      have hlit : ∀ W : World, (W.alloc oV).ownsRow W.heap.size 3 1 (.slice (some ⟨W.heap.size, 0, none⟩) 1 1) 1 [.int .i64 M] := fun W => by
        rw [HOV.out]; exact World.ownsRow_lit (base := W.heap.size) (e := 3) (size := 1) W #[.int .i64 M] 1 (Nat.le_refl _) (by unfold maxLen; omega) rfl
      have HLIT := Lib.hid hlit
      clear hrs hbs hlit
      have HO := Lib.hid hO
      clear hO
      go_upto_region 5 with fail
      refine wp_region_bar 16 (Sb b5 (.slice Arr s crr) (.slice Aac s cac)) (by kernel_rfl) ?_
      refine wpAnyB_take (i := 0) (v := ?_) rfl (by kernel_rfl) (by kernel_rfl) (by kernel_rfl) (by kernel_rfl) (fun _ _ _ h => h) (Or.inl ⟨by rfl, ?_⟩) hS0 ?_
      rotate_left
      · (intro w hSw; obtain ⟨s1, s2⟩ := hSw; go_simp; first | done | with_reducible rfl)
      try simp only [Act.put, List.setIfInBounds_toArray, List.set_cons_zero, List.set_cons_succ]
      refine wpAnyB_take (i := 1) (v := ?_) rfl (by kernel_rfl) (by kernel_rfl) (by kernel_rfl) (by kernel_rfl) (fun _ _ _ h => h) (Or.inl ⟨by rfl, ?_⟩) hS0 ?_
      rotate_left
      · (intro w hSw; obtain ⟨s1, s2⟩ := hSw; go_simp; first | done | with_reducible rfl)
      try simp only [Act.put, List.setIfInBounds_toArray, List.set_cons_zero, List.set_cons_succ]
      refine wpAnyB_take (i := 2) (v := ?_) rfl (by kernel_rfl) (by kernel_rfl) (by kernel_rfl) (by kernel_rfl) (fun _ _ _ h => h) (Or.inl ⟨by rfl, ?_⟩) hS0 ?_
      rotate_left
      · (intro w hSw; obtain ⟨s1, s2⟩ := hSw; go_simp; first | done | with_reducible rfl)
      try simp only [Act.put, List.setIfInBounds_toArray, List.set_cons_zero, List.set_cons_succ]
      refine wpAnyB_take (i := 3) (v := ?_) rfl (by kernel_rfl) (by kernel_rfl) (by kernel_rfl) (by kernel_rfl) (fun _ _ _ h => h) (Or.inl ⟨by rfl, ?_⟩) hS0 ?_
      rotate_left
      · (intro w hSw; obtain ⟨s1, s2⟩ := hSw; go_simp; first | done | with_reducible rfl)
      try simp only [Act.put, List.setIfInBounds_toArray, List.set_cons_zero, List.set_cons_succ]
      refine wpAnyB_take (i := 4) (v := ?_) rfl (by kernel_rfl) (by kernel_rfl) (by kernel_rfl) (by kernel_rfl) (fun _ _ _ h => h) (Or.inl ⟨by rfl, ?_⟩) hS0 ?_
      rotate_left
      · (intro w hSw; obtain ⟨s1, s2⟩ := hSw; go_simp; first | done | with_reducible rfl)
      try simp only [Act.put, List.setIfInBounds_toArray, List.set_cons_zero, List.set_cons_succ]
      refine wpAnyB_take (i := 5) (v := ?_) rfl (by kernel_rfl) (by kernel_rfl) (by kernel_rfl) (by kernel_rfl) (fun _ _ _ h => h) (Or.inl ⟨by rfl, ?_⟩) hS0 ?_
      rotate_left
      · (intro w hSw; obtain ⟨s1, s2⟩ := hSw; go_simp; first | done | with_reducible rfl)
      try simp only [Act.put, List.setIfInBounds_toArray, List.set_cons_zero, List.set_cons_succ]
      refine wpAnyB_take (i := 9) (v := ?_) rfl (by kernel_rfl) (by kernel_rfl) (by kernel_rfl) (by kernel_rfl) (fun _ _ _ h => h) (Or.inl ⟨by rfl, ?_⟩) hS0 ?_
      rotate_left
      · (intro w hSw; obtain ⟨s1, s2⟩ := hSw; go_simp; first | done | with_reducible rfl)
      try simp only [Act.put, List.setIfInBounds_toArray, List.set_cons_zero, List.set_cons_succ]
      refine wpAnyB_take (i := 10) (v := ?_) rfl (by kernel_rfl) (by kernel_rfl) (by kernel_rfl) (by kernel_rfl) (fun _ _ _ h => h) (Or.inl ⟨by rfl, ?_⟩) hS0 ?_
      rotate_left
      · (intro w hSw; obtain ⟨s1, s2⟩ := hSw; go_simp; first | done | with_reducible rfl)
      try simp only [Act.put, List.setIfInBounds_toArray, List.set_cons_zero, List.set_cons_succ]
      refine wpAnyB_take (i := 11) (v := ?_) rfl (by kernel_rfl) (by kernel_rfl) (by kernel_rfl) (by kernel_rfl) (fun _ _ _ h => h) (Or.inl ⟨by rfl, ?_⟩) hS0 ?_
      rotate_left
      · (intro w hSw; obtain ⟨s1, s2⟩ := hSw; go_simp; first | done | with_reducible rfl)
      try simp only [Act.put, List.setIfInBounds_toArray, List.set_cons_zero, List.set_cons_succ]
      refine wpAnyB_take (i := 12) (v := ?_) rfl (by kernel_rfl) (by kernel_rfl) (by kernel_rfl) (by kernel_rfl) (fun _ _ _ h => h) (Or.inl ⟨by rfl, ?_⟩) hS0 ?_
      rotate_left
      · (intro w hSw; obtain ⟨s1, s2⟩ := hSw; go_simp; first | done | with_reducible rfl)
      try simp only [Act.put, List.setIfInBounds_toArray, List.set_cons_zero, List.set_cons_succ]
      refine wpAnyB_ready (rs := [6, 13]) (by kernel_rfl) (by simp) (AllB.cons rfl (fun K hK => ?_) (AllB.cons rfl (fun K hK => ?_) AllB.nil))
      · skip
        go_simp
        rw [← HOV.out]
        have hS1 := Sb.ext hS0 (alloc_ext W3.drew oV)
        refine hK.out _ _ hS1 ?_
        clear hK K
        try simp only [Act.put, List.setIfInBounds_toArray, List.set_cons_zero, List.set_cons_succ]
        have hA : OwnL W1 (W3.drew.alloc oV) (.row 3 1 (.slice (some ⟨W3.heap.size, 0, none⟩) 1 1) 1 [.int .i64 M] :: _) := (HO.out.trans (drew_ext _)).add (alloc_ext _ oV) (A := .row 3 1 (.slice (some ⟨W3.heap.size, 0, none⟩) 1 1) 1 [.int .i64 M]) (HLIT.out W3.drew)
        refine wpAnyB_ready (rs := [7, 13]) (by kernel_rfl) (by simp) (AllB.cons rfl (fun K hK => ?_) (AllB.cons rfl (fun K hK => ?_) AllB.nil))
        · skip
          go_simp
          rw [← HOR.out]
          have hS2 := Sb.ext hS1 (alloc_ext (W3.drew.alloc oV) oR)
          refine hK.out _ _ hS2 ?_
          clear hK K
          try simp only [Act.put, List.setIfInBounds_toArray, List.set_cons_zero, List.set_cons_succ]
          have hA1 := hA.trans (alloc_ext _ oR)
          have hnr : ((W3.drew.alloc oV).alloc oR).heap[W3.heap.size + 1]? = some oR := by have := heap_alloc_new (W3.drew.alloc oV) oR; simpa using this
          refine wpAnyB_ready (rs := [8, 13]) (by kernel_rfl) (by simp) (AllB.cons rfl (fun K hK => ?_) (AllB.cons rfl (fun K hK => ?_) AllB.nil))
          · skip
            have hrw : OwnRows _ W1.heap.size 31 3 1 (.slice Arr s crr) vsr (((List.range s).map (rgRow n)).map iRow) := (hA1).get 1 rfl
            have hrwo := hrw.own
            rw [HVL.out] at hrwo
            refine step_append_own2 rfl _ _ 25 rfl W1.heap.size 31 i31 (.slice none 0 0) 1 24 Tryd.underlying25 hi31 hz31 hs31 hb31 rfl (by decide) (.slice Arr s crr) s vsr (by rfl) hrwo ⟨_, 0, none⟩ 1 1 [.slice (some ⟨W3.heap.size, 0, none⟩) 1 1] (by rfl) rfl (blk_news (n := W3.heap.size + 1) (hnr.trans (by rw [HOR.out]))) (one_slice _ _ _) (by unfold maxLen; omega) (by omega) (hA1).ext.size ?_
            intro v8 w8 hown8 hg8 hb8
            have hp8 : w8.ownsRow W1.heap.size 31 1 v8 (vsr.length + 1) (vsr ++ [.slice (some ⟨W3.heap.size, 0, none⟩) 1 1]) := by rw [HVL.out]; exact hown8
            have hO8 := (hA1).push hg8 hp8 hb8
            obtain ⟨g8, c8, rfl⟩ := ownsRow_pos hown8 (by omega)
            have hSk : Sb b5 (.slice Arr s crr) (.slice Aac s cac) w8 := ⟨cell_of_blk ((hO8).get 2 rfl).2 1 rfl, cell_of_blk ((hO8).get 2 rfl).2 2 rfl⟩
            refine hK.out _ _ hSk ?_
            clear hK K
            try simp only [Act.put, List.setIfInBounds_toArray, List.set_cons_zero, List.set_cons_succ]
            refine wpAnyB_take (i := 15) (v := ?_) rfl (by kernel_rfl) (by kernel_rfl) (by kernel_rfl) (by kernel_rfl) (fun _ _ _ h => h) (Or.inl ⟨by rfl, ?_⟩) hSk ?_
            rotate_left
            · (intro w hSw; obtain ⟨s1, s2⟩ := hSw; go_simp; first | done | with_reducible rfl)
            try simp only [Act.put, List.setIfInBounds_toArray, List.set_cons_zero, List.set_cons_succ]
            refine wpAnyB_ready (rs := [13]) (by kernel_rfl) (by simp) (AllB.cons rfl (fun K hK => ?_) AllB.nil)
            go_simp
            rw [← HOB.out]
            have hS3 := Sb.ext hSk (alloc_ext w8 oB)
            refine hK.out _ _ hS3 ?_
            clear hK K
            try simp only [Act.put, List.setIfInBounds_toArray, List.set_cons_zero, List.set_cons_succ]
            refine wpAnyB_ready (rs := [14]) (by kernel_rfl) (by simp) (AllB.cons rfl (fun K hK => ?_) AllB.nil)
            have hO8b := hO8.trans (alloc_ext w8 oB)
            refine step_append_own2 rfl _ _ 26 rfl W1.heap.size 4 i4 (.bool false) 1 1 Tryd.underlying26 hi4 hz4 hs4 hb4' rfl (by decide) (.slice Aac s cac) s ((List.range s).map (fun s => Value.bool (s == 0))) (by rfl) ((hO8b).get 1 rfl) ⟨_, 0, none⟩ 1 1 [.bool B] (by rfl) rfl (blk_news (n := w8.heap.size) (by rw [HOB.out]; exact heap_alloc_new _ _)) (one_bool _) (by unfold maxLen; omega) (by omega) (hO8b).ext.size ?_
            intro v9 w9 hown9 hg9 hb9
            obtain ⟨g9, c9, rfl⟩ := ownsRow_pos hown9 (by omega)
            have hO9 := (hO8b).app 1 rfl hg9 hown9 hb9
            have hSk : Sb b5 (.slice Arr s crr) (.slice Aac s cac) w9 := ⟨cell_of_blk ((hO9).get 2 rfl).2 1 rfl, cell_of_blk ((hO9).get 2 rfl).2 2 rfl⟩
            refine hK.out _ _ hSk ?_
            clear hK K
            try simp only [Act.put, List.setIfInBounds_toArray, List.set_cons_zero, List.set_cons_succ]
            have hO9 : OwnL W1 w9 [.rows 31 3 1 (.slice (some ⟨g8, 0, none⟩) (s + 1) c8) (vsr ++ [.slice (some ⟨W3.heap.size, 0, none⟩) 1 1]) (((List.range (s + 1)).map (rgRow n)).map iRow), .row 4 1 (.slice (some ⟨g9, 0, none⟩) (s + 1) c9) (s + 1) ((List.range (s + 1)).map (fun s => Value.bool (s == 0))), .blk b5 (.cells #[.int .i64 1, .slice Arr s crr, .slice Aac s cac] 28 (0, 0))] := by
              rw [HRS.out, HBS.out]; exact hO9
            have f9 := free_of_blk (hO9.get 2 rfl).2
            have d9 := cell_of_blk (hO9.get 2 rfl).2 1 (u := .slice Arr s crr) rfl
            have d9' := cell_of_blk (hO9.get 2 rfl).2 2 (u := .slice Aac s cac) rfl
            refine wpAnyB_tail rfl rfl (by decide) (by kernel_rfl) ?_
            have hO10 := (hO9.put 2 rfl 1 (.slice (some ⟨g8, 0, none⟩) (s + 1) c8)).put 2 rfl 2 (.slice (some ⟨g9, 0, none⟩) (s + 1) c9)
            have HO10 := Lib.hid hO10
            clear hO10 hO9
            go_wp2
            exact ⟨⟨s + 1, _, _, _, by go_num, by omega, HO10.out⟩, by simp [intOf]; omega⟩
          · skip
            go_simp
            rw [← HOB.out]
            have hS3 := Sb.ext hS2 (alloc_ext ((W3.drew.alloc oV).alloc oR) oB)
            refine hK.out _ _ hS3 ?_
            clear hK K
            try simp only [Act.put, List.setIfInBounds_toArray, List.set_cons_zero, List.set_cons_succ]
            have hA2 := (hA1.add (alloc_ext _ oB) (A := .blk (W3.heap.size + 1 + 1) oB) ⟨by simp, by have := heap_alloc_new ((W3.drew.alloc oV).alloc oR) oB; simpa using this⟩).last
            have hnr := heap_ext (alloc_ext _ oB) hnr
            refine wpAnyB_ready (rs := [8]) (by kernel_rfl) (by simp) (AllB.cons rfl (fun K hK => ?_) AllB.nil)
            have hrw : OwnRows _ W1.heap.size 31 3 1 (.slice Arr s crr) vsr (((List.range s).map (rgRow n)).map iRow) := (hA2).get 1 rfl
            have hrwo := hrw.own
            rw [HVL.out] at hrwo
            refine step_append_own2 rfl _ _ 25 rfl W1.heap.size 31 i31 (.slice none 0 0) 1 24 Tryd.underlying25 hi31 hz31 hs31 hb31 rfl (by decide) (.slice Arr s crr) s vsr (by rfl) hrwo ⟨_, 0, none⟩ 1 1 [.slice (some ⟨W3.heap.size, 0, none⟩) 1 1] (by rfl) rfl (blk_news (n := W3.heap.size + 1) (hnr.trans (by rw [HOR.out]))) (one_slice _ _ _) (by unfold maxLen; omega) (by omega) (hA2).ext.size ?_
            intro v8 w8 hown8 hg8 hb8
            have hp8 : w8.ownsRow W1.heap.size 31 1 v8 (vsr.length + 1) (vsr ++ [.slice (some ⟨W3.heap.size, 0, none⟩) 1 1]) := by rw [HVL.out]; exact hown8
            have hO8 := (hA2).push hg8 hp8 hb8
            obtain ⟨g8, c8, rfl⟩ := ownsRow_pos hown8 (by omega)
            have hSk : Sb b5 (.slice Arr s crr) (.slice Aac s cac) w8 := ⟨cell_of_blk ((hO8).get 2 rfl).2 1 rfl, cell_of_blk ((hO8).get 2 rfl).2 2 rfl⟩
            refine hK.out _ _ hSk ?_
            clear hK K
            try simp only [Act.put, List.setIfInBounds_toArray, List.set_cons_zero, List.set_cons_succ]
            refine wpAnyB_take (i := 15) (v := ?_) rfl (by kernel_rfl) (by kernel_rfl) (by kernel_rfl) (by kernel_rfl) (fun _ _ _ h => h) (Or.inl ⟨by rfl, ?_⟩) hSk ?_
            rotate_left
            · (intro w hSw; obtain ⟨s1, s2⟩ := hSw; go_simp; first | done | with_reducible rfl)
            try simp only [Act.put, List.setIfInBounds_toArray, List.set_cons_zero, List.set_cons_succ]
            refine wpAnyB_ready (rs := [14]) (by kernel_rfl) (by simp) (AllB.cons rfl (fun K hK => ?_) AllB.nil)
            have hnb := (hO8.get 3 rfl).2
            rw [HOB.out] at hnb
            refine step_append_own2 rfl _ _ 26 rfl W1.heap.size 4 i4 (.bool false) 1 1 Tryd.underlying26 hi4 hz4 hs4 hb4' rfl (by decide) (.slice Aac s cac) s ((List.range s).map (fun s => Value.bool (s == 0))) (by rfl) ((hO8).get 1 rfl) ⟨_, 0, none⟩ 1 1 [.bool B] (by rfl) rfl (blk_news hnb) (one_bool _) (by unfold maxLen; omega) (by omega) (hO8).ext.size ?_
            intro v9 w9 hown9 hg9 hb9
            obtain ⟨g9, c9, rfl⟩ := ownsRow_pos hown9 (by omega)
            have hO9 := (hO8).app 1 rfl hg9 hown9 hb9
            have hSk : Sb b5 (.slice Arr s crr) (.slice Aac s cac) w9 := ⟨cell_of_blk ((hO9).get 2 rfl).2 1 rfl, cell_of_blk ((hO9).get 2 rfl).2 2 rfl⟩
            refine hK.out _ _ hSk ?_
            clear hK K
            try simp only [Act.put, List.setIfInBounds_toArray, List.set_cons_zero, List.set_cons_succ]
            have hO9 := OwnL.front (L := [_, _, _]) hO9
            have hO9 : OwnL W1 w9 [.rows 31 3 1 (.slice (some ⟨g8, 0, none⟩) (s + 1) c8) (vsr ++ [.slice (some ⟨W3.heap.size, 0, none⟩) 1 1]) (((List.range (s + 1)).map (rgRow n)).map iRow), .row 4 1 (.slice (some ⟨g9, 0, none⟩) (s + 1) c9) (s + 1) ((List.range (s + 1)).map (fun s => Value.bool (s == 0))), .blk b5 (.cells #[.int .i64 1, .slice Arr s crr, .slice Aac s cac] 28 (0, 0))] := by
              rw [HRS.out, HBS.out]; exact hO9
            have f9 := free_of_blk (hO9.get 2 rfl).2
            have d9 := cell_of_blk (hO9.get 2 rfl).2 1 (u := .slice Arr s crr) rfl
            have d9' := cell_of_blk (hO9.get 2 rfl).2 2 (u := .slice Aac s cac) rfl
            refine wpAnyB_tail rfl rfl (by decide) (by kernel_rfl) ?_
            have hO10 := (hO9.put 2 rfl 1 (.slice (some ⟨g8, 0, none⟩) (s + 1) c8)).put 2 rfl 2 (.slice (some ⟨g9, 0, none⟩) (s + 1) c9)
            have HO10 := Lib.hid hO10
            clear hO10 hO9
            go_wp2
            exact ⟨⟨s + 1, _, _, _, by go_num, by omega, HO10.out⟩, by simp [intOf]; omega⟩
        · skip
          go_simp
          rw [← HOB.out]
          have hS2 := Sb.ext hS1 (alloc_ext (W3.drew.alloc oV) oB)
          refine hK.out _ _ hS2 ?_
          clear hK K
          try simp only [Act.put, List.setIfInBounds_toArray, List.set_cons_zero, List.set_cons_succ]
          have hA2 := (hA.add (alloc_ext _ oB) (A := .blk (W3.heap.size + 1) oB) ⟨by simp, by have := heap_alloc_new (W3.drew.alloc oV) oB; simpa using this⟩).last
          refine wpAnyB_ready (rs := [7]) (by kernel_rfl) (by simp) (AllB.cons rfl (fun K hK => ?_) AllB.nil)
          go_simp
          rw [← HOR.out]
          have hS3 := Sb.ext hS2 (alloc_ext ((W3.drew.alloc oV).alloc oB) oR)
          refine hK.out _ _ hS3 ?_
          clear hK K
          try simp only [Act.put, List.setIfInBounds_toArray, List.set_cons_zero, List.set_cons_succ]
          have hA3 := hA2.trans (alloc_ext _ oR)
          have hnr : (((W3.drew.alloc oV).alloc oB).alloc oR).heap[W3.heap.size + 1 + 1]? = some oR := by have := heap_alloc_new ((W3.drew.alloc oV).alloc oB) oR; simpa using this
          refine wpAnyB_ready (rs := [8]) (by kernel_rfl) (by simp) (AllB.cons rfl (fun K hK => ?_) AllB.nil)
          have hrw : OwnRows _ W1.heap.size 31 3 1 (.slice Arr s crr) vsr (((List.range s).map (rgRow n)).map iRow) := (hA3).get 1 rfl
          have hrwo := hrw.own
          rw [HVL.out] at hrwo
          refine step_append_own2 rfl _ _ 25 rfl W1.heap.size 31 i31 (.slice none 0 0) 1 24 Tryd.underlying25 hi31 hz31 hs31 hb31 rfl (by decide) (.slice Arr s crr) s vsr (by rfl) hrwo ⟨_, 0, none⟩ 1 1 [.slice (some ⟨W3.heap.size, 0, none⟩) 1 1] (by rfl) rfl (blk_news (n := W3.heap.size + 1 + 1) (hnr.trans (by rw [HOR.out]))) (one_slice _ _ _) (by unfold maxLen; omega) (by omega) (hA3).ext.size ?_
          intro v8 w8 hown8 hg8 hb8
          have hp8 : w8.ownsRow W1.heap.size 31 1 v8 (vsr.length + 1) (vsr ++ [.slice (some ⟨W3.heap.size, 0, none⟩) 1 1]) := by rw [HVL.out]; exact hown8
          have hO8 := (hA3).push hg8 hp8 hb8
          obtain ⟨g8, c8, rfl⟩ := ownsRow_pos hown8 (by omega)
          have hSk : Sb b5 (.slice Arr s crr) (.slice Aac s cac) w8 := ⟨cell_of_blk ((hO8).get 2 rfl).2 1 rfl, cell_of_blk ((hO8).get 2 rfl).2 2 rfl⟩
          refine hK.out _ _ hSk ?_
          clear hK K
          try simp only [Act.put, List.setIfInBounds_toArray, List.set_cons_zero, List.set_cons_succ]
          refine wpAnyB_take (i := 15) (v := ?_) rfl (by kernel_rfl) (by kernel_rfl) (by kernel_rfl) (by kernel_rfl) (fun _ _ _ h => h) (Or.inl ⟨by rfl, ?_⟩) hSk ?_
          rotate_left
          · (intro w hSw; obtain ⟨s1, s2⟩ := hSw; go_simp; first | done | with_reducible rfl)
          try simp only [Act.put, List.setIfInBounds_toArray, List.set_cons_zero, List.set_cons_succ]
          refine wpAnyB_ready (rs := [14]) (by kernel_rfl) (by simp) (AllB.cons rfl (fun K hK => ?_) AllB.nil)
          have hnb := (hO8.get 3 rfl).2
          rw [HOB.out] at hnb
          refine step_append_own2 rfl _ _ 26 rfl W1.heap.size 4 i4 (.bool false) 1 1 Tryd.underlying26 hi4 hz4 hs4 hb4' rfl (by decide) (.slice Aac s cac) s ((List.range s).map (fun s => Value.bool (s == 0))) (by rfl) ((hO8).get 1 rfl) ⟨_, 0, none⟩ 1 1 [.bool B] (by rfl) rfl (blk_news hnb) (one_bool _) (by unfold maxLen; omega) (by omega) (hO8).ext.size ?_
          intro v9 w9 hown9 hg9 hb9
          obtain ⟨g9, c9, rfl⟩ := ownsRow_pos hown9 (by omega)
          have hO9 := (hO8).app 1 rfl hg9 hown9 hb9
          have hSk : Sb b5 (.slice Arr s crr) (.slice Aac s cac) w9 := ⟨cell_of_blk ((hO9).get 2 rfl).2 1 rfl, cell_of_blk ((hO9).get 2 rfl).2 2 rfl⟩
          refine hK.out _ _ hSk ?_
          clear hK K
          try simp only [Act.put, List.setIfInBounds_toArray, List.set_cons_zero, List.set_cons_succ]
          have hO9 := OwnL.front (L := [_, _, _]) hO9
          have hO9 : OwnL W1 w9 [.rows 31 3 1 (.slice (some ⟨g8, 0, none⟩) (s + 1) c8) (vsr ++ [.slice (some ⟨W3.heap.size, 0, none⟩) 1 1]) (((List.range (s + 1)).map (rgRow n)).map iRow), .row 4 1 (.slice (some ⟨g9, 0, none⟩) (s + 1) c9) (s + 1) ((List.range (s + 1)).map (fun s => Value.bool (s == 0))), .blk b5 (.cells #[.int .i64 1, .slice Arr s crr, .slice Aac s cac] 28 (0, 0))] := by
            rw [HRS.out, HBS.out]; exact hO9
          have f9 := free_of_blk (hO9.get 2 rfl).2
          have d9 := cell_of_blk (hO9.get 2 rfl).2 1 (u := .slice Arr s crr) rfl
          have d9' := cell_of_blk (hO9.get 2 rfl).2 2 (u := .slice Aac s cac) rfl
          refine wpAnyB_tail rfl rfl (by decide) (by kernel_rfl) ?_
          have hO10 := (hO9.put 2 rfl 1 (.slice (some ⟨g8, 0, none⟩) (s + 1) c8)).put 2 rfl 2 (.slice (some ⟨g9, 0, none⟩) (s + 1) c9)
          have HO10 := Lib.hid hO10
          clear hO10 hO9
          go_wp2
          exact ⟨⟨s + 1, _, _, _, by go_num, by omega, HO10.out⟩, by simp [intOf]; omega⟩
      · skip
        go_simp
        rw [← HOB.out]
        have hS1 := Sb.ext hS0 (alloc_ext W3.drew oB)
        refine hK.out _ _ hS1 ?_
        clear hK K
        try simp only [Act.put, List.setIfInBounds_toArray, List.set_cons_zero, List.set_cons_succ]
        have hB1 := ((HO.out.trans (drew_ext _)).add (alloc_ext _ oB) (A := .blk W3.drew.heap.size oB) ⟨Nat.le_refl _, heap_alloc_new _ _⟩).last
        refine wpAnyB_ready (rs := [6]) (by kernel_rfl) (by simp) (AllB.cons rfl (fun K hK => ?_) AllB.nil)
        go_simp
        rw [← HOV.out]
        have hS2 := Sb.ext hS1 (alloc_ext (W3.drew.alloc oB) oV)
        refine hK.out _ _ hS2 ?_
        clear hK K
        try simp only [Act.put, List.setIfInBounds_toArray, List.set_cons_zero, List.set_cons_succ]
        have hlt2 := HLIT.out (W3.drew.alloc oB)
        rw [show (W3.drew.alloc oB).heap.size = W3.heap.size + 1 by simp] at hlt2
        have hB22 := hB1.add (alloc_ext _ oV) (A := .row 3 1 (.slice (some ⟨W3.heap.size + 1, 0, none⟩) 1 1) 1 [.int .i64 M]) (by show World.ownsRow _ _ _ _ _ _ _; rw [show (W3.drew.alloc oB).heap.size = W3.heap.size + 1 by simp]; exact hlt2)
        refine wpAnyB_ready (rs := [7]) (by kernel_rfl) (by simp) (AllB.cons rfl (fun K hK => ?_) AllB.nil)
        go_simp
        rw [← HOR'.out]
        have hS3 := Sb.ext hS2 (alloc_ext ((W3.drew.alloc oB).alloc oV) oR')
        refine hK.out _ _ hS3 ?_
        clear hK K
        try simp only [Act.put, List.setIfInBounds_toArray, List.set_cons_zero, List.set_cons_succ]
        have hB3 := hB22.trans (alloc_ext _ oR')
        have hnr : (((W3.drew.alloc oB).alloc oV).alloc oR').heap[W3.heap.size + 1 + 1]? = some oR' := by have := heap_alloc_new ((W3.drew.alloc oB).alloc oV) oR'; simpa using this
        refine wpAnyB_ready (rs := [8]) (by kernel_rfl) (by simp) (AllB.cons rfl (fun K hK => ?_) AllB.nil)
        have hrw : OwnRows _ W1.heap.size 31 3 1 (.slice Arr s crr) vsr (((List.range s).map (rgRow n)).map iRow) := (hB3).get 1 rfl
        have hrwo := hrw.own
        rw [HVL.out] at hrwo
        refine step_append_own2 rfl _ _ 25 rfl W1.heap.size 31 i31 (.slice none 0 0) 1 24 Tryd.underlying25 hi31 hz31 hs31 hb31 rfl (by decide) (.slice Arr s crr) s vsr (by rfl) hrwo ⟨_, 0, none⟩ 1 1 [.slice (some ⟨W3.heap.size + 1, 0, none⟩) 1 1] (by rfl) rfl (blk_news (n := W3.heap.size + 1 + 1) (hnr.trans (by rw [HOR'.out]))) (one_slice _ _ _) (by unfold maxLen; omega) (by omega) (hB3).ext.size ?_
        intro v8 w8 hown8 hg8 hb8
        have hp8 : w8.ownsRow W1.heap.size 31 1 v8 (vsr.length + 1) (vsr ++ [.slice (some ⟨W3.heap.size + 1, 0, none⟩) 1 1]) := by rw [HVL.out]; exact hown8
        have hO8 := (hB3).push hg8 hp8 hb8
        obtain ⟨g8, c8, rfl⟩ := ownsRow_pos hown8 (by omega)
        have hSk : Sb b5 (.slice Arr s crr) (.slice Aac s cac) w8 := ⟨cell_of_blk ((hO8).get 2 rfl).2 1 rfl, cell_of_blk ((hO8).get 2 rfl).2 2 rfl⟩
        refine hK.out _ _ hSk ?_
        clear hK K
        try simp only [Act.put, List.setIfInBounds_toArray, List.set_cons_zero, List.set_cons_succ]
        refine wpAnyB_take (i := 15) (v := ?_) rfl (by kernel_rfl) (by kernel_rfl) (by kernel_rfl) (by kernel_rfl) (fun _ _ _ h => h) (Or.inl ⟨by rfl, ?_⟩) hSk ?_
        rotate_left
        · (intro w hSw; obtain ⟨s1, s2⟩ := hSw; go_simp; first | done | with_reducible rfl)
        try simp only [Act.put, List.setIfInBounds_toArray, List.set_cons_zero, List.set_cons_succ]
        refine wpAnyB_ready (rs := [14]) (by kernel_rfl) (by simp) (AllB.cons rfl (fun K hK => ?_) AllB.nil)
        have hnb := (hO8.get 3 rfl).2
        rw [HOB.out] at hnb
        refine step_append_own2 rfl _ _ 26 rfl W1.heap.size 4 i4 (.bool false) 1 1 Tryd.underlying26 hi4 hz4 hs4 hb4' rfl (by decide) (.slice Aac s cac) s ((List.range s).map (fun s => Value.bool (s == 0))) (by rfl) ((hO8).get 1 rfl) ⟨_, 0, none⟩ 1 1 [.bool B] (by rfl) rfl (blk_news hnb) (one_bool _) (by unfold maxLen; omega) (by omega) (hO8).ext.size ?_
        intro v9 w9 hown9 hg9 hb9
        obtain ⟨g9, c9, rfl⟩ := ownsRow_pos hown9 (by omega)
        have hO9 := (hO8).app 1 rfl hg9 hown9 hb9
        have hSk : Sb b5 (.slice Arr s crr) (.slice Aac s cac) w9 := ⟨cell_of_blk ((hO9).get 2 rfl).2 1 rfl, cell_of_blk ((hO9).get 2 rfl).2 2 rfl⟩
        refine hK.out _ _ hSk ?_
        clear hK K
        try simp only [Act.put, List.setIfInBounds_toArray, List.set_cons_zero, List.set_cons_succ]
        have hO9 := OwnL.front (L := [_, _, _]) hO9
        have hO9 : OwnL W1 w9 [.rows 31 3 1 (.slice (some ⟨g8, 0, none⟩) (s + 1) c8) (vsr ++ [.slice (some ⟨W3.heap.size + 1, 0, none⟩) 1 1]) (((List.range (s + 1)).map (rgRow n)).map iRow), .row 4 1 (.slice (some ⟨g9, 0, none⟩) (s + 1) c9) (s + 1) ((List.range (s + 1)).map (fun s => Value.bool (s == 0))), .blk b5 (.cells #[.int .i64 1, .slice Arr s crr, .slice Aac s cac] 28 (0, 0))] := by
          rw [HRS.out, HBS.out]; exact hO9
        have f9 := free_of_blk (hO9.get 2 rfl).2
        have d9 := cell_of_blk (hO9.get 2 rfl).2 1 (u := .slice Arr s crr) rfl
        have d9' := cell_of_blk (hO9.get 2 rfl).2 2 (u := .slice Aac s cac) rfl
        refine wpAnyB_tail rfl rfl (by decide) (by kernel_rfl) ?_
        have hO10 := (hO9.put 2 rfl 1 (.slice (some ⟨g8, 0, none⟩) (s + 1) c8)).put 2 rfl 2 (.slice (some ⟨g9, 0, none⟩) (s + 1) c9)
        have HO10 := Lib.hid hO10
        clear hO10 hO9
        go_wp2
        exact ⟨⟨s + 1, _, _, _, by go_num, by omega, HO10.out⟩, by simp [intOf]; omega⟩
    · obtain rfl : s = n := by omega
      have hrows : OwnRows W3 W1.heap.size 31 3 1 rowsv vsr (((List.range s).map (rgRow s)).map iRow) := hO.get 0 rfl
      have hvl : vsr.length = s := by have := hrows.len; simpa using this
      have hown := hrows.own
      rw [hvl] at hown
      obtain ⟨gR, cR, rfl⟩ := ownsRow_pos hown (by omega)
      have hac : W3.ownsRow W1.heap.size 4 1 accv s ((List.range s).map (fun s => Value.bool (s == 0))) := hO.get 1 rfl
      obtain ⟨gA, cA, rfl⟩ := ownsRow_pos hac (by omega)
      have d0 := cell_of_blk (hO.get 2 rfl).2 0 (u := .int .i64 1) rfl
      have d1 := cell_of_blk (hO.get 2 rfl).2 1 (u := .slice (some ⟨gR, 0, none⟩) s cR) rfl
      have d2 := cell_of_blk (hO.get 2 rfl).2 2 (u := .slice (some ⟨gA, 0, none⟩) s cA) rfl
      have hb := kb W3 hO.ext
      have hl := HB.out
      have HO := Lib.hid hO
      clear hO hrows hvl hown hac
      go_wp2_with (with_reducible refine wpList_store_blk _ rfl 28 _ _ rfl w.heap.size 28 _ _ rfl rfl hb (by kernel_rfl) (by kernel_rfl) (by kernel_rfl) ?_; intro w8 h8 g8)
      refine bodyPost_ret (results_cell_row rfl _ _ w.heap.size 28 _ (0, 0) _ (by simp [Act.put]) h8 Tryd.underlying28 rfl (by kernel_rfl)) rfl ?_
      have hk2 : ∀ A ∈ _, Asn.ok W1.heap.size w8 A := fun A hA => Asn.of (HO.out.ok A hA) (fun b hb => g8.block b (Asn.lt (HO.out.ok A hA) hb).2 (fun e => by cases e; have h1 := (Asn.lt (HO.out.ok A hA) hb).1; have := lt_of_block (kb W1 (Ext.refl _)); omega))
      have hr2 : OwnRows w8 W1.heap.size 31 3 1 (.slice (some ⟨gR, 0, none⟩) s cR) vsr (((List.range s).map (rgRow s)).map iRow) := hk2 (.rows 31 3 1 (.slice (some ⟨gR, 0, none⟩) s cR) vsr (((List.range s).map (rgRow s)).map iRow)) (by simp)
      have ha2 : w8.ownsRow W1.heap.size 4 1 (.slice (some ⟨gA, 0, none⟩) s cA) s ((List.range s).map (fun s => Value.bool (s == 0))) := hk2 (.row 4 1 (.slice (some ⟨gA, 0, none⟩) s cA) s ((List.range s).map (fun s => Value.bool (s == 0)))) (by simp)
      have ha3 : w8.ownsRow W1.heap.size 4 1 (.slice (some ⟨gA, 0, none⟩) s cA) s (((List.range s).map (fun s => s == 0)).map .bool) := by rw [List.map_map]; exact ha2
      obtain ⟨c9, hac9⟩ := bools_of_owns ha3 (by simp) (by unfold lenMax; omega)
      refine ⟨_, rfl, ⟨_, cR, _, c9, rfl, listsC_of_own (rows := (List.range s).map (rgRow s)) hr2 (by simp) (by unfold lenMax; omega) (fun r hr => ?_), hac9⟩, Below.grown (hE1.trans HO.out.ext) g8 (hE1.trans HO.out.ext).size (fun k hk => by cases hk; exact Nat.le_refl _)⟩
      obtain ⟨y, _, rfl⟩ := List.mem_map.1 hr
      unfold rgRow lenMax; simp
end Go.Proofs.YthlnmcokgfpgmaaDoor

namespace Go.Proofs.YthlnmcokgfpgmaaDoor
open Go.RowKit
set_option linter.unusedVariables false
set_option linter.unusedSimpArgs false

theorem ring_k (n : Nat) : (ringD n).k = 1 := rfl
theorem ring_n (n : Nat) : (ringD n).n = n := by unfold ringD Dfa.n; simp
theorem ring_row {n s : Nat} (hs : s < n) : (ringD n).rows[s]? = some (rgRow n s) := by
  unfold ringD
  simp only
  rw [List.getElem?_map, List.getElem?_range hs]; rfl
theorem ring_to {n s : Nat} (hs : s < n) : (ringD n).to s 0 = (s + 1) % n := by
  unfold Dfa.to
  rw [List.getD_eq_getElem?_getD (l := (ringD n).rows), ring_row hs, Option.getD_some]
  unfold rgRow
  exact Int.toNat_natCast _
theorem ring_ac {n s : Nat} (hs : s < n) : (ringD n).ac s = (s == 0) := by
  unfold ringD Dfa.ac
  simp only
  rw [List.getD_eq_getElem?_getD, List.getElem?_map, List.getElem?_range hs]; rfl
theorem ring_good {n : Nat} (hn : 1 ≤ n ∧ n ≤ 256) : Good (ringD n) := by
  have hl : (ringD n).rows.length = n := ring_n n
  refine ⟨by unfold ringD; simp only; omega, by rw [hl]; exact hn, by unfold ringD; simp, fun r hr => ?_, fun r hr x hx => ?_⟩
  · unfold ringD at hr
    obtain ⟨s, _, rfl⟩ := List.mem_map.1 hr
    rfl
  · rw [hl]
    unfold ringD at hr
    obtain ⟨s, _, rfl⟩ := List.mem_map.1 hr
    unfold rgRow at hx
    rw [List.mem_singleton.1 hx]
    have := Nat.mod_lt (s + 1) (show 0 < n by omega)
    omega
theorem ring_run {n : Nat} (hn : 0 < n) : ∀ (w : List Nat) (s : Nat), s < n → okW 1 w → (ringD n).run s w = (s + w.length) % n
  | [], s, hs, _ => by show s = (s + 0) % n; rw [Nat.add_zero, Nat.mod_eq_of_lt hs]
  | x :: w, s, hs, hw => by
    have hx := hw x (by simp)
    have hx0 : x = 0 := by omega
    subst hx0
    show (ringD n).run ((ringD n).to s 0) w = _
    rw [ring_to hs, ring_run hn w _ (Nat.mod_lt _ hn) (fun y hy => hw y (by simp [hy])), List.length_cons, Nat.mod_add_mod]
    congr 1; omega
theorem ring_word {n : Nat} (hn : 1 ≤ n ∧ n ≤ 256) {w : List Nat} (hw : okW 1 w) : (ringD n).ac ((ringD n).run 0 w) = decide (w.length % n = 0) := by
  rw [ring_run (by omega) w 0 (by omega) hw, Nat.zero_add, ring_ac (Nat.mod_lt _ (by omega))]
  rw [Bool.eq_iff_iff]; simp
def ones (t : Nat) : List Nat := List.replicate t 0
theorem ones_ok (t : Nat) : okW 1 (ones t) := fun x hx => by
  unfold ones at hx
  rw [(List.mem_replicate.1 hx).2]; omega
theorem ones_len (t : Nat) : (ones t).length = t := by unfold ones; simp
theorem ring_ones {n : Nat} (hn : 1 ≤ n ∧ n ≤ 256) (t : Nat) : (ringD n).ac ((ringD n).run 0 (ones t)) = decide (t % n = 0) := by rw [ring_word hn (ones_ok t), ones_len]
theorem ring_canon {n : Nat} (hn : 1 ≤ n ∧ n ≤ 256) : Canon (ringD n) := by
  refine ⟨ring_good hn, fun s t hs ht hl => ?_, fun t h0 ht => ?_⟩
  · rw [ring_n] at hs ht
    have h1 := hl (ones (n - s)) (ones_ok _)
    rw [ring_run (by omega) _ s hs (ones_ok _), ring_run (by omega) _ t ht (ones_ok _), ones_len, ring_ac (Nat.mod_lt _ (by omega)), ring_ac (Nat.mod_lt _ (by omega))] at h1
    have h2 : (s + (n - s)) % n = 0 := by rw [show s + (n - s) = n by omega, Nat.mod_self]
    rw [h2] at h1
    have h3 : (t + (n - s)) % n = 0 := by simpa using h1.symm
    rcases Nat.lt_trichotomy s t with h | h | h
    · rw [show t + (n - s) = (t - s) + n by omega, Nat.add_mod_right, Nat.mod_eq_of_lt (by omega)] at h3; omega
    · exact h
    · rw [Nat.mod_eq_of_lt (by omega)] at h3; omega
  · rw [ring_n] at ht
    refine ⟨t - 1, 0, by omega, by rw [ring_k]; omega, ?_, fun s' x' hx' hb => ?_⟩
    · rw [ring_to (by omega), show t - 1 + 1 = t by omega, Nat.mod_eq_of_lt ht]
    · rw [ring_k] at hx'
      have hx0 : x' = 0 := by omega
      subst hx0
      have hs' : s' < t - 1 := by omega
      rw [ring_to (by omega), Nat.mod_eq_of_lt (by omega)]; omega
/-- An automaton of at most 256 states over one symbol goes round. -/
theorem goes_round {q : Dfa} (hq : Good q) (hk : q.k = 1) : ∃ i p, 1 ≤ p ∧ p ≤ 256 ∧ ∀ t, i ≤ t → q.ac (q.run 0 (ones (t + p))) = q.ac (q.run 0 (ones t)) := by
  have hn := hq.size
  have h0 : 0 < q.n := by unfold Dfa.n; omega
  obtain ⟨i, j, hij, hj, he⟩ := pigeon (n := q.n) (fun i => q.run 0 (ones i)) (fun i _ => run_lt hq _ 0 h0 (by rw [hk]; exact ones_ok i))
  have hone : ∀ a b, ones (a + b) = ones a ++ ones b := fun a b => by unfold ones; rw [List.replicate_append_replicate]
  have hj2 : j ≤ 256 := Nat.le_trans hj hn.2
  refine ⟨i, j - i, by omega, by omega, fun t ht => ?_⟩
  have he' : q.run 0 (ones i) = q.run 0 (ones j) := he
  rw [show t + (j - i) = j + (t - i) by omega, hone, run_append, ← he', ← run_append, ← hone, show i + (t - i) = t by omega]
theorem ring_chk {a b : Nat} (ha : 1 ≤ a ∧ a ≤ 256) (hb : 1 ≤ b ∧ b ≤ 256) : chkL (ringD a) (ringD b) = 0 := chkL_good (ring_good ha) (ring_good hb) rfl
/-- What an operation of two rings answers, if no ring of 256 states has these words. -/
theorem ring_far {g : Bool → Bool → Bool} {a b : Nat} (ha : 1 ≤ a ∧ a ≤ 256) (hb : 1 ≤ b ∧ b ≤ 256) (hno : ∀ i p, 1 ≤ p → p ≤ 256 → ∃ t, i ≤ t ∧ g (decide ((t + p) % a = 0)) (decide ((t + p) % b = 0)) ≠ g (decide (t % a = 0)) (decide (t % b = 0)))
    {r : Dfa × Int} (h : OpR g (ringD a) (ringD b) r) : r = (zeroD, 3) := by
  have hc := ring_chk ha hb
  cases h with
  | bad h0 => exact absurd hc h0
  | big _ _ => rfl
  | many _ _ _ _ => rfl
  | set h1 h2 h3 h4 =>
    exfalso
    have h5 := OpR.set (g := g) h1 h2 h3 h4
    obtain ⟨_, _, _, hcan, hsy, hw⟩ := opR_set h5 rfl
    obtain ⟨i, p, hp1, hp2, hper⟩ := goes_round hcan.good (by unfold Dfa.k; rw [hsy]; rfl)
    obtain ⟨t, ht, hne⟩ := hno i p hp1 hp2
    have h6 := hper t ht
    rw [hw _ (ones_ok _), hw _ (ones_ok _), ring_ones ha, ring_ones hb, ring_ones ha, ring_ones hb] at h6
    exact hne h6
theorem far_common {r : Dfa × Int} (h : OpR (fun x y => x && y) (ringD 16) (ringD 17) r) : r = (zeroD, 3) :=
  ring_far (by omega) (by omega) (fun i p h1 h2 => ⟨272 * (i + 1), by omega, by
    have e1 : (272 * (i + 1)) % 16 = 0 := by omega
    have e2 : (272 * (i + 1)) % 17 = 0 := by omega
    rw [decide_eq_true e1, decide_eq_true e2]
    by_cases h3 : (272 * (i + 1) + p) % 16 = 0
    · have h4 : ¬ (272 * (i + 1) + p) % 17 = 0 := by omega
      rw [decide_eq_false h4]; simp
    · rw [decide_eq_false h3]; simp⟩) h
theorem far_union1 {r : Dfa × Int} (h : OpR (fun x y => x || y) (ringD 64) (ringD 63) r) : r = (zeroD, 3) :=
  ring_far (by omega) (by omega) (fun i p h1 h2 => by
    by_cases h3 : (4032 * (i + 1) + p) % 64 = 0 ∨ (4032 * (i + 1) + p) % 63 = 0
    · by_cases h4 : (4032 * (i + 1) + p) % 64 = 0
      · refine ⟨4032 * (i + 1) + 63, by omega, ?_⟩
        have e1 : (4032 * (i + 1) + 63) % 63 = 0 := by omega
        have e2 : ¬ (4032 * (i + 1) + 63 + p) % 63 = 0 := by omega
        have e3 : ¬ (4032 * (i + 1) + 63 + p) % 64 = 0 := by omega
        rw [decide_eq_true e1, decide_eq_false e2, decide_eq_false e3]; simp
      · refine ⟨4032 * (i + 1) + 64, by omega, ?_⟩
        have e1 : (4032 * (i + 1) + 64) % 64 = 0 := by omega
        have e2 : ¬ (4032 * (i + 1) + 64 + p) % 63 = 0 := by omega
        have e3 : ¬ (4032 * (i + 1) + 64 + p) % 64 = 0 := by omega
        rw [decide_eq_true e1, decide_eq_false e2, decide_eq_false e3]; simp
    · refine ⟨4032 * (i + 1), by omega, ?_⟩
      have e1 : (4032 * (i + 1)) % 64 = 0 := by omega
      rw [not_or] at h3
      rw [decide_eq_true e1, decide_eq_false h3.1, decide_eq_false h3.2]; simp) h
theorem far_union2 {r : Dfa × Int} (h : OpR (fun x y => x || y) (ringD 65) (ringD 64) r) : r = (zeroD, 3) :=
  ring_far (by omega) (by omega) (fun i p h1 h2 => by
    by_cases h3 : (4160 * (i + 1) + p) % 65 = 0 ∨ (4160 * (i + 1) + p) % 64 = 0
    · by_cases h4 : (4160 * (i + 1) + p) % 65 = 0
      · refine ⟨4160 * (i + 1) + 64, by omega, ?_⟩
        have e1 : (4160 * (i + 1) + 64) % 64 = 0 := by omega
        have e2 : ¬ (4160 * (i + 1) + 64 + p) % 65 = 0 := by omega
        have e3 : ¬ (4160 * (i + 1) + 64 + p) % 64 = 0 := by omega
        rw [decide_eq_true e1, decide_eq_false e2, decide_eq_false e3]; simp
      · refine ⟨4160 * (i + 1) + 65, by omega, ?_⟩
        have e1 : (4160 * (i + 1) + 65) % 65 = 0 := by omega
        have e2 : ¬ (4160 * (i + 1) + 65 + p) % 65 = 0 := by omega
        have e3 : ¬ (4160 * (i + 1) + 65 + p) % 64 = 0 := by omega
        rw [decide_eq_true e1, decide_eq_false e2, decide_eq_false e3]; simp
    · refine ⟨4160 * (i + 1), by omega, ?_⟩
      have e1 : (4160 * (i + 1)) % 65 = 0 := by omega
      rw [not_or] at h3
      rw [decide_eq_true e1, decide_eq_false h3.1, decide_eq_false h3.2]; simp) h
/-- The common words of the rings of 15 and 16 are those of the ring of 240. -/
theorem common_240 {r : Dfa × Int} (h : OpR (fun x y => x && y) (ringD 15) (ringD 16) r) : r = (ringD 240, 0) := by
  have hc := ring_chk (a := 15) (b := 16) (by omega) (by omega)
  have hp := pairs_small (m := 256) hc (by have h1 := ring_n 15; have h2 := ring_n 16; unfold Dfa.n at h1 h2; rw [h1, h2]; omega)
  obtain ⟨h1, _⟩ := opR_small h (fun _ => hp)
  rw [hc] at h1
  obtain ⟨_, _, _, hcan, hsy, hw⟩ := opR_set h h1
  have hk : r.1.k = 1 := by unfold Dfa.k; rw [hsy]; rfl
  have h2 := canon_eq hcan (ring_canon (n := 240) (by omega)) (by rw [hk]; rfl) (fun w hw' => by
    have hw1 : okW 1 w := hk ▸ hw'
    rw [hw w hw1, ring_word (by omega) hw1, ring_word (by omega) hw1, ring_word (by omega) hw1, Bool.eq_iff_iff]
    simp only [Bool.and_eq_true, decide_eq_true_eq]
    omega)
  exact Prod.ext h2 h1
end Go.Proofs.YthlnmcokgfpgmaaDoor

namespace Go.Proofs.YthlnmcokgfpgmaaDoor
open Go.RowKit
set_option linter.unusedVariables false
set_option linter.unusedSimpArgs false

/-- Over one symbol the pairs stand in the order of their words: one behind the other. -/
theorem one_pairs {a b : Dfa} {L : List Rch} (h : OkP a b L) (hk : a.k = 1) : ∀ (j : Nat) (r : Rch), L[j]? = some r → 0 < j → ∃ r', L[j - 1]? = some r' ∧ r = newP a b r' (j - 1) 0 := by
  intro j
  induction j using Nat.strongRecOn with
  | _ j ih =>
    intro r hr h0
    obtain ⟨i, x, r', h1, h2, h3, h4⟩ := h.back j r hr h0
    have hx : x = 0 := by omega
    subst hx
    by_cases he : i = j - 1
    · subst he; exact ⟨r', h3, h4⟩
    · exfalso
      have hjl := (List.getElem?_eq_some_iff.1 hr).1
      have hi1 : i + 1 < j := by omega
      have hn := List.getElem?_eq_getElem (show i + 1 < L.length by omega)
      obtain ⟨r2, h5, h6⟩ := ih (i + 1) hi1 _ hn (by omega)
      rw [Nat.add_sub_cancel] at h5 h6
      rw [h3] at h5
      cases h5
      have hk1 : (L.map Rch.key)[i + 1]'(by simp; omega) = (L.map Rch.key)[j]'(by simpa using hjl) := by
        simp only [List.getElem_map]
        rw [h6, (List.getElem?_eq_some_iff.1 hr).2, h4]
        try rfl
      have := List.pairwise_iff_getElem.1 h.nodup (i + 1) j (by simp; omega) (by simpa using hjl) hi1
      exact this hk1
theorem ring_pairs {m n : Nat} (hm : 1 ≤ m ∧ m ≤ 256) (hn : 1 ≤ n ∧ n ≤ 256) : ∀ (j : Nat) (r : Rch), (pairsL (ringD m) (ringD n))[j]? = some r → r.p = j % m ∧ r.q = j % n ∧ r.ln = j := by
  have hok := okP_all (ring_good hm) (ring_good hn) rfl
  intro j
  induction j with
  | zero =>
    intro r hr
    rw [hok.first] at hr
    cases hr
    exact ⟨(Nat.zero_mod m).symm, (Nat.zero_mod n).symm, rfl⟩
  | succ j ih =>
    intro r hr
    obtain ⟨r', h1, h2⟩ := one_pairs hok rfl (j + 1) r hr (by omega)
    rw [Nat.add_sub_cancel] at h1 h2
    obtain ⟨h3, h4, h5⟩ := ih r' h1
    subst h2
    refine ⟨?_, ?_, ?_⟩
    · show (ringD m).to r'.p 0 = _
      rw [h3, ring_to (Nat.mod_lt _ (by omega)), Nat.mod_add_mod]
    · show (ringD n).to r'.q 0 = _
      rw [h4, ring_to (Nat.mod_lt _ (by omega)), Nat.mod_add_mod]
    · show r'.ln + 1 = _
      rw [h5]; omega
/-- Each word leads to a pair that is listed. -/
theorem ring_there {m n : Nat} (hm : 1 ≤ m ∧ m ≤ 256) (hn : 1 ≤ n ∧ n ≤ 256) (t : Nat) : ∃ j, j < (pairsL (ringD m) (ringD n)).length ∧ j % m = t % m ∧ j % n = t % n := by
  have hok := okP_all (ring_good hm) (ring_good hn) rfl
  obtain ⟨z, hz, he⟩ := prod_run (g := fun x _ => x) (ring_good hm) (ring_good hn) rfl (ones t) 0 r0 hok.first (ones_ok t)
  obtain ⟨h1, h2, _⟩ := ring_pairs hm hn _ z hz
  have e1 : z.p = (ringD m).run 0 (ones t) := congrArg Prod.fst he
  have e2 : z.q = (ringD n).run 0 (ones t) := congrArg Prod.snd he
  rw [ring_run (by omega) _ 0 (by omega) (ones_ok t), ones_len, Nat.zero_add] at e1 e2
  exact ⟨_, (List.getElem?_eq_some_iff.1 hz).1, by rw [← h1, e1], by rw [← h2, e2]⟩
/-- No two pairs are the same. -/
theorem ring_short {m n j : Nat} (hm : 1 ≤ m ∧ m ≤ 256) (hn : 1 ≤ n ∧ n ≤ 256) (h0 : 0 < j) (h1 : j % m = 0) (h2 : j % n = 0) : (pairsL (ringD m) (ringD n)).length ≤ j := by
  have hok := okP_all (ring_good hm) (ring_good hn) rfl
  rcases Nat.lt_or_ge j (pairsL (ringD m) (ringD n)).length with h | h
  · exfalso
    have hz := List.getElem?_eq_getElem hok.pos
    have hj := List.getElem?_eq_getElem h
    obtain ⟨a1, a2, _⟩ := ring_pairs hm hn 0 _ hz
    obtain ⟨b1, b2, _⟩ := ring_pairs hm hn j _ hj
    have := List.pairwise_iff_getElem.1 hok.nodup 0 j (by simpa using hok.pos) (by simpa using h) h0
    refine this ?_
    simp only [List.getElem_map]
    unfold Rch.key
    rw [a1, a2, b1, b2, h1, h2, Nat.zero_mod, Nat.zero_mod]
  · exact h
theorem ring_off {m n : Nat} (hm : 1 ≤ m ∧ m ≤ 256) (hn : 1 ≤ n ∧ n ≤ 256) {j : Nat} {r : Rch} (hr : (pairsL (ringD m) (ringD n))[j]? = some r) : offP (ringD m) (ringD n) r = (decide (j % m = 0) && !decide (j % n = 0)) := by
  obtain ⟨h1, h2, _⟩ := ring_pairs hm hn j r hr
  unfold offP
  rw [h1, h2, ring_ac (Nat.mod_lt _ (by omega)), ring_ac (Nat.mod_lt _ (by omega))]
  have e : ∀ x : Nat, (x == 0) = decide (x = 0) := fun x => by rw [Bool.eq_iff_iff]; simp
  rw [e, e]
theorem incl_at {a b : Dfa} {L : List Rch} (hL : pairsL a b = L) (hc : chkL a b = 0) (hl : L.length ≤ 4096) {n : Nat} {r : Rch} (hf : L.findIdx? (offP a b) = some n) (hr : L[n]? = some r) (hln : r.ln = (n : Int)) (hn : n ≤ 256) : ∃ w : List Int, inclR a b = (false, w, 0) ∧ w.length = n := by
  subst hL
  refine ⟨wayP (pairsL a b) n n, ?_, wayP_len _ _ _⟩
  unfold inclR
  rw [if_neg (fun h => h hc), if_neg (by omega)]
  unfold inclG
  rw [hf]
  show (if 256 < ((pairsL a b).getD n r0).ln then _ else (false, wayP (pairsL a b) ((pairsL a b).getD n r0).ln.toNat n, 0)) = _
  rw [getD_of_get? hr, hln, if_neg (by omega), Int.toNat_natCast]
theorem incl_first {m n t : Nat} (hm : 1 ≤ m ∧ m ≤ 256) (hn : 1 ≤ n ∧ n ≤ 256) (h1 : t % m = 0) (h2 : ¬ t % n = 0) (hmin : ∀ k, k < t → k % m = 0 → k % n = 0) (ht : t ≤ 256) (hl : (pairsL (ringD m) (ringD n)).length ≤ 4096) : ∃ w : List Int, inclR (ringD m) (ringD n) = (false, w, 0) ∧ w.length = t := by
  obtain ⟨j, hj, e1, e2⟩ := ring_there hm hn t
  have hlt : t < (pairsL (ringD m) (ringD n)).length := by
    rcases Nat.lt_or_ge t (pairsL (ringD m) (ringD n)).length with h | h
    · exact h
    · have := hmin j (by omega) (by rw [e1]; exact h1)
      rw [e2] at this
      exact absurd this h2
  have hr := List.getElem?_eq_getElem hlt
  refine incl_at rfl (ring_chk hm hn) hl ?_ hr (ring_pairs hm hn t _ hr).2.2 ht
  rw [List.findIdx?_eq_some_iff_getElem]
  refine ⟨hlt, by rw [ring_off hm hn hr, decide_eq_true h1, decide_eq_false h2]; rfl, fun k hk => ?_⟩
  rw [ring_off hm hn (List.getElem?_eq_getElem (show k < (pairsL (ringD m) (ringD n)).length by omega))]
  by_cases h3 : k % m = 0
  · rw [decide_eq_true (hmin k hk h3)]; simp
  · rw [decide_eq_false h3]; simp
theorem incl_16 : ∃ w : List Int, inclR (ringD 16) (ringD 240) = (false, w, 0) ∧ w.length = 16 :=
  incl_first (by omega) (by omega) (by omega) (by omega) (fun k h1 h2 => by omega) (by omega) (Nat.le_trans (ring_short (j := 240) (by omega) (by omega) (by omega) (by omega) (by omega)) (by omega))
theorem incl_big {m n : Nat} (hm : 1 ≤ m ∧ m ≤ 256) (hn : 1 ≤ n ∧ n ≤ 256) (h : 4096 < (pairsL (ringD m) (ringD n)).length) : inclR (ringD m) (ringD n) = (false, [], 3) := by
  unfold inclR
  rw [if_neg (fun h => h (ring_chk hm hn)), if_pos h]
theorem far_len {L j : Nat} (h : j < L) (h1 : j % 240 = 200) (h2 : j % 239 = 220) : 4096 < L := by
  have h3 := Nat.div_add_mod j 240
  have h4 := Nat.div_add_mod j 239
  rw [h1] at h3
  rw [h2] at h4
  generalize j / 240 = a at *
  generalize j / 239 = b at *
  clear h1 h2
  rcases Nat.lt_trichotomy a b with h5 | h5 | h5 <;> omega
theorem incl_far : inclR (ringD 240) (ringD 239) = (false, [], 3) := by
  obtain ⟨j, hj, e1, e2⟩ := ring_there (m := 240) (n := 239) (by omega) (by omega) 5000
  exact incl_big (by omega) (by omega) (far_len hj (e1.trans (by decide)) (e2.trans (by decide)))
theorem incl_none {m n j : Nat} (hm : 1 ≤ m ∧ m ≤ 256) (hn : 1 ≤ n ∧ n ≤ 256) (h0 : 0 < j) (h1 : j % m = 0) (h2 : j % n = 0) (hj : j ≤ 4096) (hd : ∀ k : Nat, k % m = 0 → k % n = 0) : inclR (ringD m) (ringD n) = (true, [], 0) := by
  have hs := ring_short hm hn h0 h1 h2
  unfold inclR
  rw [if_neg (fun h => h (ring_chk hm hn)), if_neg (by omega)]
  unfold inclG
  rw [List.findIdx?_eq_none_iff.2 (fun x hx => ?_)]
  obtain ⟨k, hk⟩ := List.getElem?_of_mem hx
  rw [ring_off hm hn hk]
  by_cases h3 : k % m = 0
  · rw [decide_eq_true (hd k h3)]; simp
  · rw [decide_eq_false h3]; rfl
theorem incl_240 : inclR (ringD 240) (ringD 240) = (true, [], 0) := incl_none (j := 240) (by omega) (by omega) (by omega) (by omega) (by omega) (by omega) (fun k h => h)
theorem incl_256 : inclR (ringD 256) (ringD 64) = (true, [], 0) := incl_none (j := 256) (by omega) (by omega) (by omega) (by omega) (by omega) (by omega) (fun k h => by omega)

/-! ### All words of sixteen symbols -/
def allD : Dfa := ⟨16, [List.replicate 16 0], [true]⟩
theorem all_good : checkD allD = 0 := by decide +kernel
theorem count_15 : countR allD 15 = (1152921504606846976, 0) := by decide +kernel
theorem count_16 : countR allD 16 = (0, 3) := by decide +kernel
def long : List Int := List.replicate 256 0
set_option maxRecDepth 100000 in
theorem rank_all : rankR allD long = (0, 3) := by decide +kernel
set_option maxRecDepth 100000 in
theorem rank_ring : rankR (ringD 2) long = (128, 0) := by decide +kernel
theorem scan_62 : (scan allD 257 0 4611686018427387904).1 = 16 := by decide +kernel
theorem scan_63 : (scan allD 257 0 9223372036854775807).1 = 16 := by decide +kernel
set_option maxRecDepth 100000 in
theorem scan_128 : (scan (ringD 2) 257 0 128).1 = 256 := by decide +kernel
set_option maxRecDepth 100000 in
theorem scan_129 : (scan (ringD 2) 257 0 129).1 = 257 := by decide +kernel
def w62 : List Nat := nthW allD 16 0 (scan allD 257 0 4611686018427387904).2
theorem w62_len : w62.length = 16 := by decide +kernel
theorem rank_62 : rankR allD (wI w62) = (4611686018427387904, 0) := by decide +kernel
theorem ring2_inf : ¬ FinD (ringD 2) := fun h => by
  have h1 := h (ones 2) (ones_ok 2) (by rw [ring_ones (by omega)]; decide)
  rw [ones_len, ring_n] at h1
  omega
end Go.Proofs.YthlnmcokgfpgmaaDoor
