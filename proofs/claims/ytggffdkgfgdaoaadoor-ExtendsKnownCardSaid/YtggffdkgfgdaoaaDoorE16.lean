/- ref04.Next 47, ref04.Run 22. -/
import Derived.Test.YtggffdkgfgdaoaaDoorT11
import Derived.Test.YtggffdkgfgdaoaaDoorC4
namespace Go.Proofs.YtggffdkgfgdaoaaDoor
open Go.RowKit Go.Maps
set_option linter.unusedVariables false
set_option linter.unusedSimpArgs false
attribute [local go_sem] Oper.quietV quietV Oper.gives givesV ext_refl_iff ext_alloc_iff ext_drew_iff ext_drewN_iff
def stOk (rows : List (List (Int × Int))) (s : Int) : Prop := s = -1 ∨ ∃ k : Nat, k < rows.length ∧ s = (k : Int)
theorem rows_at {w : World} {v : Value} {rows : List (List (Int × Int))} {c : Nat} (h : RowsC w v rows c) {k i : Nat} {row : List (Int × Int)} {e : Int × Int} (hk : rows[k]? = some row) (hi : row[i]? = some e) :
    ∃ b o b2 o2 c2, v = .slice (some ⟨b, o, none⟩) rows.length c ∧ w.cell? ⟨b, o + k, none⟩ = some (.slice (some ⟨b2, o2, none⟩) row.length c2) ∧ w.cell? ⟨b2, o2 + i * 2, none⟩ = some (.int .i64 e.1) ∧ w.cell? ⟨b2, o2 + i * 2 + 1, none⟩ = some (.int .i64 e.2) := by
  obtain ⟨A, vs, rfl, hc, hl, hr, _, _⟩ := h
  have hlt := (List.getElem?_eq_some_iff.1 hk).1
  have hlti := (List.getElem?_eq_some_iff.1 hi).1
  obtain ⟨b, o, rfl, _, hcc⟩ := hc (by omega)
  obtain ⟨u, hu⟩ : ∃ u, vs[k]? = some u := ⟨_, List.getElem?_eq_getElem (by omega)⟩
  obtain ⟨c2, A2, rfl, hc2, _, _⟩ := hr k u row hu hk
  obtain ⟨b2, o2, rfl, _, e0, e1⟩ := Cells.at_edge hc2 hlti
  have he : row[i] = e := by have := List.getElem?_eq_getElem hlti; rw [hi] at this; injection this with this; exact this.symm
  rw [he] at e0 e1
  exact ⟨b, o, b2, o2, c2, rfl, hcc k _ hu, e0, e1⟩
set_option maxRecDepth 100000 in
set_option maxHeartbeats 4000000 in
theorem refNext_any (w : World) (ins outs : Int) (rv : Value) (rows : List (List (Int × Int))) (c : Nat) (hr : RowsC w rv rows c) (s : Int) (hs : stOk rows s) (i n : Nat) (hi : i < n) (hn : ∀ row ∈ rows, row.length = n) :
    Calls Tryd.prog 47 #[.agg #[.int .i64 ins, .int .i64 outs, rv], .int .i64 s, .int .i64 (i : Int)] w fun e w' => e = .returned (.agg #[.int .i64 (nextM rows s i).1, .int .i64 (nextM rows s i).2]) ∧ Ext w w' := by
  have hrv : ∃ A c', rv = .slice A rows.length c' := by obtain ⟨A, vs, h, _⟩ := hr; exact ⟨A, c, h⟩
  rcases hs with rfl | ⟨k, hk, rfl⟩
  · obtain ⟨A, c', rfl⟩ := hrv
    clear hr
    go_enter Tryd.func47, Tryd.ntmps47
    go_upto_region 1 with fail
    refine wp_named ?_
    intro W1 hW1
    have hE1 : Ext w W1 := by rw [hW1]; exact (alloc_ext _ _).trans (alloc_ext _ _)
    have hB : W1.heap[w.heap.size + 1]? = some (.cells #[.int .i64 0, .int .i64 0] 83 (0, 0)) := by
      rw [hW1]
      have := heap_alloc_new (w.alloc (.cells #[.int .i64 ins, .int .i64 outs, .slice A rows.length c'] 52)) (.cells #[.int .i64 0, .int .i64 0] 83)
      simpa using this
    have HD := Lib.hid hE1
    clear hW1 hE1
    go_wp2_with (with_reducible refine wpList_store_blk _ rfl 83 _ _ rfl (w.heap.size + 1) 83 _ _ rfl rfl hB (by kernel_rfl) (by kernel_rfl) (by kernel_rfl) ?_; intro w8 h8 g8)
    refine bodyPost_ret (results_cell_row rfl _ _ (w.heap.size + 1) 83 _ (0, 0) _ (by simp [Act.put]) h8 Tryd.underlying83 rfl (by kernel_rfl)) rfl ?_
    exact ⟨rfl, Below.grown HD.out g8 HD.out.size (fun k hk => by cases hk; exact Nat.le_succ _)⟩
  · obtain ⟨row, hrow⟩ : ∃ row, rows[k]? = some row := ⟨_, List.getElem?_eq_getElem hk⟩
    have hrl := hn row (List.mem_of_getElem? hrow)
    obtain ⟨e, he⟩ : ∃ e, row[i]? = some e := ⟨_, List.getElem?_eq_getElem (by omega)⟩
    have HN : Hid (nextM rows (k : Int) (i : Int) = e) := Lib.hid (by
      unfold nextM
      rw [if_neg (by omega)]
      simp [List.getD_eq_getElem?_getD, hrow, he])
    obtain ⟨b, o, b2, o2, c2, rfl, r0, r1, r2⟩ := rows_at hr hrow he
    obtain ⟨rl, hrl2⟩ : ∃ r, r = row.length := ⟨_, rfl⟩
    rw [← hrl2] at r0
    have hirl : i < rl := by omega
    clear hr hrv hrow he hrl hn hrl2
    go_enter Tryd.func47, Tryd.ntmps47
    go_upto_region 1 with fail
    refine wp_named ?_
    intro W1 hW1
    have hE1 : Ext w W1 := by rw [hW1]; exact (alloc_ext _ _).trans (alloc_ext _ _)
    have hB : W1.heap[w.heap.size + 1]? = some (.cells #[.int .i64 0, .int .i64 0] 83 (0, 0)) := by
      rw [hW1]
      have := heap_alloc_new (w.alloc (.cells #[.int .i64 ins, .int .i64 outs, .slice (some ⟨b, o, none⟩) rows.length c] 52)) (.cells #[.int .i64 0, .int .i64 0] 83)
      simpa using this
    have m2 : W1.cell? ⟨w.heap.size, 2, none⟩ = some (.slice (some ⟨b, o, none⟩) rows.length c) := by rw [hW1]; simp [go_sem]
    have r0 := hE1.cell r0
    have r1 := hE1.cell r1
    have r2 := hE1.cell r2
    have HD := Lib.hid hE1
    clear hW1 hE1
    go_wp2_with (with_reducible refine wpList_store_blk _ rfl 83 _ _ rfl (w.heap.size + 1) 83 _ _ rfl rfl hB (by kernel_rfl) (by kernel_rfl) (by kernel_rfl) ?_; intro w8 h8 g8)
    refine bodyPost_ret (results_cell_row rfl _ _ (w.heap.size + 1) 83 _ (0, 0) _ (by simp [Act.put]) h8 Tryd.underlying83 rfl (by kernel_rfl)) rfl ?_
    rw [HN.out]
    exact ⟨rfl, Below.grown HD.out g8 HD.out.size (fun k hk => by cases hk; exact Nat.le_succ _)⟩
def RuP (w : World) (L : List Int) (e : Ending) (w' : World) : Prop := ∃ A c, e = .returned (.slice A L.length c) ∧ IntsC w' (.slice A L.length c) L c ∧ Ext w w'
def NewE (N : Nat) (v : Value) (w : World) : Prop := ∃ b, v = .pointer (some ⟨b, 0, none⟩) ∧ N ≤ b ∧ w.heap[b]? = some (.cells #[.int .i64 0, .int .i64 0] 83 (0, 0))
theorem stays_newE (N : Nat) : Stays Ext (NewE N) := fun v w w' e ⟨b, h1, h2, h3⟩ => ⟨b, h1, h2, heap_ext e h3⟩
set_option maxRecDepth 100000 in
set_option maxHeartbeats 16000000 in
theorem refRun4_any (w : World) (ins outs : Int) (rv : Value) (rows : List (List (Int × Int))) (c : Nat) (hr : RowsC w rv rows c) (s0 : Int) (hs : stOk rows s0) (n : Nat) (hn : ∀ row ∈ rows, row.length = n) (hst : ∀ row ∈ rows, ∀ e ∈ row, stOk rows e.1) (wv : Value) (ws : List Int) (cw : Nat) (hw : IntsC w wv ws cw) (hwi : ∀ a ∈ ws, 0 ≤ a ∧ a < (n : Int)) (hl : ws.length ≤ 256) :
    Calls Tryd.prog 22 #[.agg #[.int .i64 ins, .int .i64 outs, rv], .int .i64 s0, wv] w (RuP w (runM rows s0 ws)) := by
  obtain ⟨i3, hi3, hz3, hs3, hb3⟩ := info_parts int_info
  have HNX := Lib.hid (fun W (e : Ext w W) s i (h1 : stOk rows s) (h2 : i < n) => refNext_any W ins outs rv rows c (hr.ext e) s h1 i n h2 hn)
  have HNS : Hid (∀ s (i : Nat), stOk rows s → i < n → stOk rows (nextM rows s i).1) := Lib.hid (fun s i h1 h2 => by
    rcases h1 with rfl | ⟨k, hk, rfl⟩
    · exact .inl rfl
    · have hrow := List.getElem?_eq_getElem hk
      have hrl := hn rows[k] (List.getElem_mem hk)
      have hi : i < rows[k].length := by omega
      have he : nextM rows (k : Int) (i : Int) = rows[k][i] := by
        unfold nextM
        rw [if_neg (by omega)]
        simp [List.getD_eq_getElem?_getD, hk, hi]
      rw [he]
      exact hst rows[k] (List.getElem_mem hk) _ (List.getElem_mem hi))
  obtain ⟨A, c', rfl⟩ : ∃ A c', rv = .slice A rows.length c' := by obtain ⟨A, vs, h, _⟩ := hr; exact ⟨A, c, h⟩
  obtain ⟨Aw, rfl, hcw, _, _⟩ := hw
  have HWI := Lib.hid hwi
  have HS0 := Lib.hid hs
  clear hr hn hst hwi hs
  go_enter Tryd.func22, Tryd.ntmps22
  go_upto_region 1 with fail
  refine wp_named ?_
  intro W1 hW1
  have hE1 : Ext w W1 := by rw [hW1]; exact alloc_ext _ _
  have hO0 : OwnL w W1 [.row 3 1 (.slice none 0 0) 0 [], .blk w.heap.size (.cells #[.int .i64 ins, .int .i64 outs, .slice A rows.length c'] 52)] := ((OwnL.nil (Ext.refl w)).add hE1 (A := .blk w.heap.size (.cells #[.int .i64 ins, .int .i64 outs, .slice A rows.length c'] 52)) ⟨Nat.le_refl _, by rw [hW1]; exact heap_alloc_new _ _⟩).add (Ext.refl _) (A := .row 3 1 (.slice none 0 0) 0 []) (World.ownsRow_nil _ _ _ _)
  clear hW1 hE1
  go_wp2
  go_loopw [1, 7, 8] (fun sv ov kv wr => ∃ (i : Nat) (s : Int) (os : List Int), kv = .int .i64 i ∧ sv = .int .i64 s ∧ i ≤ ws.length ∧ os.length = i ∧ Hid (stOk rows s) ∧ Hid (runM rows s0 ws = os ++ runM rows s (ws.drop i)) ∧ Hid (OwnL w wr [.row 3 1 ov os.length (os.map (.int .i64)), .blk w.heap.size (.cells #[.int .i64 ins, .int .i64 outs, .slice A rows.length c'] 52)])) (fun _ _ kv _ => ws.length - (intOf kv).toNat)
  case atStart => exact ⟨0, s0, [], by first | rfl | simp, rfl, Nat.zero_le _, rfl, HS0, Lib.hid (by simp), Lib.hid hO0⟩
  case round =>
    clear hO0
    obtain ⟨i, s, os, rfl, rfl, hi, hos, HS, HR, HO⟩ := hrel
    obtain ⟨W3, hW3⟩ : ∃ W, W = wr := ⟨_, rfl⟩; subst hW3
    by_cases hlt : i < ws.length
    rotate_left
    · have hie : i = ws.length := by omega
      subst hie
      have HR2 : Hid (runM rows s0 ws = os) := Lib.hid (by rw [HR.out, List.drop_length]; simp [runM])
      have hown : W3.ownsRow w.heap.size 3 1 u7 os.length (os.map (.int .i64)) := HO.out.get 0 rfl
      obtain ⟨c', h2⟩ := ints_of_owns hown (by rw [hos]; unfold lenMax; omega)
      have H := Lib.hid (And.intro h2 HO.out.ext)
      have hlt3 : ¬ (ws.length : Int) < (ws.length : Int) := by omega
      clear hlt hi hos hown h2
      go_wp2
      go_ret
      obtain ⟨A', h3, h4⟩ := H.out.1
      rw [HR2.out]
      exact ⟨A', c', by rw [h3]; rfl, by rw [← h3]; exact H.out.1, H.out.2⟩
    · have hlI : (i : Int) < (ws.length : Int) := by omega
      obtain ⟨bw, ow, hA, hbw, cw0⟩ := hcw.at_int hlt
      subst hA
      have hE3 := HO.out.ext
      have hrun : runM rows s0 ws = (os ++ [(nextM rows s ws[i]).2]) ++ runM rows (nextM rows s ws[i]).1 (ws.drop (i + 1)) := by
        rw [HR.out, List.drop_eq_getElem_cons hlt]
        simp [runM]
      obtain ⟨ha0, ha1⟩ := HWI.out ws[i] (List.getElem_mem hlt)
      obtain ⟨a, ha⟩ : ∃ a : Nat, ws[i] = a := ⟨ws[i].toNat, by omega⟩
      rw [ha] at cw0 hrun ha1
      have han : a < n := by omega
      have hnx := fun W (e : Ext W3 W) => HNX.out W (hE3.trans e) s a HS.out han
      have HS2 := Lib.hid (HNS.out s a HS.out han)
      obtain ⟨⟨t, o⟩, hq⟩ : ∃ q, q = nextM rows s (a : Int) := ⟨_, rfl⟩
      rw [← hq] at hnx hrun HS2
      dsimp only at hnx hrun HS2
      have HR2 := Lib.hid hrun
      have hB3 := HO.out.blkAt 1 rfl
      have m0 : ∀ w', Ext W3 w' → w'.cell? ⟨w.heap.size, 0, none⟩ = some (.int .i64 ins) := fun w' h => h.cell (cell_of_blk hB3 0 (u := .int .i64 ins) rfl)
      have m1 : ∀ w', Ext W3 w' → w'.cell? ⟨w.heap.size, 1, none⟩ = some (.int .i64 outs) := fun w' h => h.cell (cell_of_blk hB3 1 (u := .int .i64 outs) rfl)
      have m2 : ∀ w', Ext W3 w' → w'.cell? ⟨w.heap.size, 2, none⟩ = some (.slice A rows.length c') := fun w' h => h.cell (cell_of_blk hB3 2 (u := .slice A rows.length c') rfl)
      have cw1 : ∀ w', Ext W3 w' → w'.cell? ⟨bw, ow + i, none⟩ = some (.int .i64 (a : Int)) := fun w' h => (hE3.trans h).cell cw0
      have hR3 := Ext.refl W3
      clear hq hrun ha ha0 ha1 cw0 hE3 hB3 hcw
      go_upto_region 5 with fail
      refine wp_region_ext 8 (factsOf [(6, EqP (.agg #[.int .i64 t, .int .i64 o])), (7, NewE W3.heap.size)]) (fun k => ([[], [], [], [], [2, 3], [2, 3, 4], [0, 1, 2, 3, 4, 5], [], [0, 1, 2, 3, 4, 5, 6, 7]] : List (List Nat)).getD k []) (by kernel_rfl) (by kernel_rfl) Ext.pre (mono_cons (stays_eqP _) (mono_cons (stays_newE _) (mono_nil))) ?_
      simp only [List.take_succ_cons, List.take_zero]
      repeat (first | (with_reducible refine lexL_quiet' (v := ?_) ?_ ?_ ?_ ?_; rotate_left; (· with_reducible rfl); (· simp [factsOf]); (· intro w1 hw1 _; go_simp; with_reducible rfl); (try simp only [Act.put, List.setIfInBounds_toArray, List.set_cons_zero, List.set_cons_succ])) | (with_reducible refine lexL_skip ?_ ?_; (· simp [Region.wanted, yielded, undef]); (try simp only [Act.put, List.setIfInBounds_toArray, List.set_cons_zero, List.set_cons_succ])) | (with_reducible refine lexL_quiet (v := ?_) ?_ ?_ ?_ ?_; rotate_left; (· simp [Region.wanted, yielded, undef]); (· simp [factsOf]); (· intro w1 hw1 _; go_simp; with_reducible rfl); (try simp only [Act.put, List.setIfInBounds_toArray, List.set_cons_zero, List.set_cons_succ])))
      with_reducible refine lexL_give' (φ := ?_) ?_ ?_ ?_ ?_; rotate_left; (· with_reducible rfl); (· simp only [factsOf, Nat.reduceAdd, ↓reduceIte, Nat.reduceEqDiff]; rfl)
      · intro w5 hw5 _
        go_simp
        refine (hnx w5 hw5).mono ?_
        rintro e w6 ⟨rfl, e6⟩
        exact ⟨_, rfl, e6, rfl⟩
      rintro v6 w5 hw5 hv6 hk2
      unfold EqP at hv6
      subst hv6
      clear hk2 hw5 w5
      (try simp only [Act.put, List.setIfInBounds_toArray, List.set_cons_zero, List.set_cons_succ])
      repeat (first | (with_reducible refine lexL_quiet' (v := ?_) ?_ ?_ ?_ ?_; rotate_left; (· with_reducible rfl); (· simp [factsOf]); (· intro w1 hw1 _; go_simp; with_reducible rfl); (try simp only [Act.put, List.setIfInBounds_toArray, List.set_cons_zero, List.set_cons_succ])) | (with_reducible refine lexL_skip ?_ ?_; (· simp [Region.wanted, yielded, undef]); (try simp only [Act.put, List.setIfInBounds_toArray, List.set_cons_zero, List.set_cons_succ])) | (with_reducible refine lexL_quiet (v := ?_) ?_ ?_ ?_ ?_; rotate_left; (· simp [Region.wanted, yielded, undef]); (· simp [factsOf]); (· intro w1 hw1 _; go_simp; with_reducible rfl); (try simp only [Act.put, List.setIfInBounds_toArray, List.set_cons_zero, List.set_cons_succ])))
      with_reducible refine lexL_give' (φ := ?_) ?_ ?_ ?_ ?_; rotate_left; (· with_reducible rfl); (· simp only [factsOf, Nat.reduceAdd, ↓reduceIte, Nat.reduceEqDiff]; rfl)
      · intro w5 hw5 _
        go_simp
        exact ⟨w5.heap.size, rfl, hw5.size, heap_alloc_new _ _⟩
      rintro v7 w5 hw5 ⟨b7, rfl, -, -⟩ hk2
      clear hk2 hw5 w5
      (try simp only [Act.put, List.setIfInBounds_toArray, List.set_cons_zero, List.set_cons_succ])
      with_reducible refine lexL_nil ?_; intro w1 hw1 hk1; simp only [List.drop_succ_cons, List.drop_zero]
      obtain ⟨b7', hv7, hN7, hB7⟩ := hk1.get 7 rfl rfl
      have hv7 := ptr_inj hv7
      subst hv7
      go_upto_region 6 with (with_reducible refine wpList_store_blk _ rfl 83 _ _ rfl b7 83 _ _ rfl rfl hB7 (by kernel_rfl) (by kernel_rfl) (by kernel_rfl) ?_; intro W5 h5 g5)
      have hE5 : Ext W3 W5 := Below.grown hw1 g5 hw1.size (fun k hk => by cases hk; exact hN7)
      have hO5 := HO.out.add hE5 (A := .blk b7 (.cells #[.int .i64 t, .int .i64 o] 83)) ⟨hN7, h5⟩
      have HO5 := Lib.hid hO5
      have f0 : ∀ w', Ext W5 w' → w'.cell? ⟨b7, 0, none⟩ = some (.int .i64 t) := fun w' h => h.cell (cell_of_blk h5 0 (u := .int .i64 t) rfl)
      have f1 : ∀ w', Ext W5 w' → w'.cell? ⟨b7, 1, none⟩ = some (.int .i64 o) := fun w' h => h.cell (cell_of_blk h5 1 (u := .int .i64 o) rfl)
      have hR5 := Ext.refl W5
      have hown : W5.ownsRow w.heap.size 3 1 u7 os.length (os.map (.int .i64)) := hO5.get 1 rfl
      have hsz5 := hO5.ext.size
      have hol : os.length ≤ 256 := by omega
      have h0 : W5.cell? ⟨b7, 0, none⟩ = some (.int .i64 t) := f0 W5 (Ext.refl _)
      have hlt7 := lt_of_block h5
      have HF := Lib.hid h5
      clear hk1 hw1 hB7 hN7 g5 hE5 hO5 m0 m1 m2 cw1 hR3 hnx h5
      go_upto_region 7 with (at_builtin; refine wpList_append_own2 rfl _ _ 28 rfl w.heap.size 3 i3 (.int .i64 0) 1 8 Tryd.underlying28 hi3 hz3 hs3 hb3 rfl (by decide) u7 os.length (os.map (.int .i64)) rfl (World.ownsRow.alloc hown _) ⟨W5.heap.size, 0, none⟩ 1 1 [.int .i64 o] rfl rfl (new_cell _ _ _ _ (by first | rfl | simp)) (one_int _) (by unfold maxLen; omega) (by omega) (by simp; omega) ?_; intro v6 w6 hown6 hg6 hb6)
      have hO6 := (HO5.out.trans (alloc_ext W5 (.cells #[.int .i64 o] 3))).app 1 rfl hg6 hown6 hb6
      have k0 := cell_of_blk (hO6.blkAt 0 rfl) 0 (u := .int .i64 t) rfl
      have hO7 := hO6.drop
      have HO7 := Lib.hid hO7
      clear hO6 hO7 hown6 hg6 hb6 hown f0 f1 h0 hR5
      go_wp2
      have hlen : (os ++ [o]).length = os.length + 1 := by simp
      have hmap : (os ++ [o]).map (Value.int .i64) = os.map (.int .i64) ++ [.int .i64 o] := by simp
      refine ⟨⟨i + 1, t, os ++ [o], by go_num, rfl, hlt, by rw [hlen, hos], HS2, HR2, Lib.hid (by rw [hlen, hmap]; exact HO7.out)⟩, ?_⟩
      simp [intOf]; omega
end Go.Proofs.YtggffdkgfgdaoaaDoor
