/-   -/
import Derived.Test.YtmebgomnmlbgnaaDoorZB
import Derived.Test.YtmebgomnmlbgnaaDoorZF
set_option linter.unnecessarySimpa false
set_option linter.unusedSectionVars false
namespace Go.Proofs.YtmebgomnmlbgnaaDoor
open Go.RowKit
set_option linter.unusedVariables false
set_option linter.unusedSimpArgs false
attribute [local go_sem] Oper.quietV quietV Oper.gives givesV ext_refl_iff ext_alloc_iff ext_drew_iff ext_drewN_iff
def PSt (w : World) (pb : Nat) (s : ByteArray) (i sy : Nat) : Prop := w.heap[pb]? = some (.cells #[.string s, .int .i64 (i : Int), .int .i64 (sy : Int)] 97 (0, 0))
theorem PSt.ext {w w' : World} {pb : Nat} {s : ByteArray} {i sy : Nat} (h : PSt w pb s i sy) (e : Ext w w') : PSt w' pb s i sy := heap_ext e h
def bt (s : ByteArray) (i : Nat) : Nat := if h : i < s.size then (s[i]'h).toNat else 0
theorem bt_lt (s : ByteArray) (i : Nat) : bt s i < 256 := by unfold bt; split; exact UInt8.toNat_lt _; decide
theorem bt_in {s : ByteArray} {i : Nat} (h : i < s.size) : bt s i = (s[i]'h).toNat := by unfold bt; rw [dif_pos h]
theorem bt_out {s : ByteArray} {i : Nat} (h : ¬ i < s.size) : bt s i = 0 := by unfold bt; rw [dif_neg h]
def U8P (w : World) (c : Nat) (e : Ending) (w' : World) : Prop := e = .returned (.int .u8 (c : Int)) ∧ Ext w w'
set_option maxRecDepth 100000 in
set_option maxHeartbeats 4000000 in
theorem next_any {w : World} {pb : Nat} {s : ByteArray} {i sy : Nat} (hs : s.size ≤ 9223372036854775807) (hP : PSt w pb s i sy) : Calls Tryd.prog 119 #[.pointer (some ⟨pb, 0, none⟩)] w (U8P w (bt s i)) := by
  have c0 : ∀ w', Ext w w' → w'.cell? ⟨pb, 0, none⟩ = some (.string s) := fun w' e => e.cell (cell_of_blk hP 0 rfl)
  have c1 : ∀ w', Ext w w' → w'.cell? ⟨pb, 1, none⟩ = some (.int .i64 (i : Int)) := fun w' e => e.cell (cell_of_blk hP 1 rfl)
  have c2 : ∀ w', Ext w w' → w'.cell? ⟨pb, 2, none⟩ = some (.int .i64 (sy : Int)) := fun w' e => e.cell (cell_of_blk hP 2 rfl)
  have hR := Ext.refl w
  by_cases hi : i < s.size
  · have hb := bt_in hi
    have hiI : (i : Int) < (s.size : Int) := by omega
    rw [hb]
    clear hb hP
    go_enter Tryd.func119, Tryd.ntmps119
    go_upto_region 1 with fail
    go_quiet (fail)
    go_upto_region 2 with fail
    go_quiet (fail)
    go_wp2
    go_ret
    exact ⟨by rfl, ((Ext.refl _).drewN _).drewN _⟩
  · have hb := bt_out hi
    have hiI : ¬ (i : Int) < (s.size : Int) := by omega
    rw [hb]
    clear hb hP
    go_enter Tryd.func119, Tryd.ntmps119
    go_upto_region 1 with fail
    go_quiet (fail)
    go_wp2
    go_ret
    exact ⟨rfl, (Ext.refl _).drewN _⟩
def letP (sy c : Nat) : Bool := decide (97 ≤ c ∧ c < 97 + sy)
def EqP (c : Value) (v : Value) (_ : World) : Prop := v = c
theorem stays_eqP (c : Value) : Stays Ext (EqP c) := fun _ _ _ _ h => h
theorem wrap8_nat {d : Nat} (h : d < 256) : IntKind.u8.wrap (d : Int) = d := by
  unfold IntKind.wrap
  simp [IntKind.signed, IntKind.bits]
  omega
theorem wrap64_nat {d : Nat} (h : d < 9223372036854775808) : IntKind.i64.wrap (d : Int) = d := by
  simp [IntKind.wrap, IntKind.signed, IntKind.bits]
  omega
set_option maxRecDepth 100000 in
set_option maxHeartbeats 4000000 in
theorem letter_any {w : World} {pb : Nat} {s : ByteArray} {i sy : Nat} (hs : s.size ≤ 9223372036854775807) (hP : PSt w pb s i sy) : Calls Tryd.prog 118 #[.pointer (some ⟨pb, 0, none⟩)] w (BoolP w (letP sy (bt s i))) := by
  have hn := fun w' (e : Ext w w') => next_any hs (hP.ext e)
  have c0 : ∀ w', Ext w w' → w'.cell? ⟨pb, 0, none⟩ = some (.string s) := fun w' e => e.cell (cell_of_blk hP 0 rfl)
  have c1 : ∀ w', Ext w w' → w'.cell? ⟨pb, 1, none⟩ = some (.int .i64 (i : Int)) := fun w' e => e.cell (cell_of_blk hP 1 rfl)
  have c2 : ∀ w', Ext w w' → w'.cell? ⟨pb, 2, none⟩ = some (.int .i64 (sy : Int)) := fun w' e => e.cell (cell_of_blk hP 2 rfl)
  have hR := Ext.refl w
  obtain ⟨r, hr⟩ : ∃ r : Bool, r = letP sy (bt s i) := ⟨_, rfl⟩
  rw [← hr]
  have hc := bt_lt s i
  generalize bt s i = c at *
  unfold U8P at hn
  unfold letP at hr
  have HN := Lib.hid hn
  clear hn hP
  by_cases h97 : (97 : Int) ≤ c
  rotate_left
  · have HR : Hid (r = false) := Lib.hid (by rw [hr]; exact decide_eq_false (by omega))
    clear hr
    go_enter Tryd.func118, Tryd.ntmps118
    go_upto_region 1 with fail
    refine wp_region_ext 12 (factsOf [(1, EqP (.int .u8 (c : Int)))]) (fun k => ([[], [0], [0, 1], [0, 1, 2], [0, 1, 2, 3], [0, 1, 2, 3, 4], [0, 1, 2, 3, 4, 5], [0, 1, 2, 3, 4, 5, 6], [0, 1, 2, 3], [0, 1, 2, 3, 8], [0, 1, 2, 3, 8, 9], [0, 1, 2, 3, 8, 9, 10], [0, 1, 2, 3, 4, 5, 6, 7, 8, 9, 10, 11], [0, 1, 2, 3, 4, 5, 6, 7, 8, 9, 10, 11, 12], [0, 1, 2, 3, 4, 5, 6, 7, 8, 9, 10, 11, 12, 13]] : List (List Nat)).getD k []) (by kernel_rfl) (by kernel_rfl) Ext.pre (mono_cons (stays_eqP _) (mono_nil)) ?_
    simp only [List.take_succ_cons, List.take_zero]
    repeat (first | (with_reducible refine lexL_quiet' (v := ?_) ?_ ?_ ?_ ?_; rotate_left; (· with_reducible rfl); (· simp [factsOf]); (· intro w1 hw1 _; go_simp; with_reducible rfl); (try simp only [Act.put, List.setIfInBounds_toArray, List.set_cons_zero, List.set_cons_succ])) | (with_reducible refine lexL_skip ?_ ?_; (· simp [Region.wanted, yielded, undef]); (try simp only [Act.put, List.setIfInBounds_toArray, List.set_cons_zero, List.set_cons_succ])) | (with_reducible refine lexL_quiet (v := ?_) ?_ ?_ ?_ ?_; rotate_left; (· simp [Region.wanted, yielded, undef]); (· simp [factsOf]); (· intro w1 hw1 _; go_simp; with_reducible rfl); (try simp only [Act.put, List.setIfInBounds_toArray, List.set_cons_zero, List.set_cons_succ])))
    with_reducible refine lexL_give' (φ := ?_) ?_ ?_ ?_ ?_; rotate_left; (· with_reducible rfl); (· simp only [factsOf, Nat.reduceAdd, ↓reduceIte, Nat.reduceEqDiff]; rfl)
    · intro w5 hw5 _
      go_simp
      refine (HN.out w5 hw5).mono ?_
      rintro e w6 ⟨rfl, e6⟩
      exact ⟨_, rfl, e6, rfl⟩
    rintro v1 w5 hw5 rfl hk2
    clear hk2 hw5 w5
    (try simp only [Act.put, List.setIfInBounds_toArray, List.set_cons_zero, List.set_cons_succ])
    repeat (first | (with_reducible refine lexL_quiet' (v := ?_) ?_ ?_ ?_ ?_; rotate_left; (· with_reducible rfl); (· simp [factsOf]); (· intro w1 hw1 _; go_simp; with_reducible rfl); (try simp only [Act.put, List.setIfInBounds_toArray, List.set_cons_zero, List.set_cons_succ])) | (with_reducible refine lexL_skip ?_ ?_; (· simp [Region.wanted, yielded, undef]); (try simp only [Act.put, List.setIfInBounds_toArray, List.set_cons_zero, List.set_cons_succ])) | (with_reducible refine lexL_quiet (v := ?_) ?_ ?_ ?_ ?_; rotate_left; (· simp [Region.wanted, yielded, undef]); (· simp [factsOf]); (· intro w1 hw1 _; go_simp; with_reducible rfl); (try simp only [Act.put, List.setIfInBounds_toArray, List.set_cons_zero, List.set_cons_succ])))
    with_reducible refine lexL_nil ?_; intro w1 hw1 hk1; simp only [List.drop_succ_cons, List.drop_zero]
    have HW1 := Lib.hid hw1
    clear hk1 hw1
    go_wp2
    go_ret
    exact ⟨by rw [HR.out]; rfl, HW1.out⟩
  · obtain ⟨d, hd⟩ : ∃ d : Nat, c = d + 97 := ⟨c - 97, by omega⟩
    have q1 : IntKind.u8.wrap ((c : Int) - 97) = (d : Int) := by rw [show (c : Int) - 97 = (d : Int) by omega]; exact wrap8_nat (by omega)
    have q2 : IntKind.i64.wrap (d : Int) = (d : Int) := wrap64_nat (by omega)
    have HR : Hid (r = decide (d < sy)) := Lib.hid (by
      rw [hr]
      by_cases h : d < sy
      · rw [decide_eq_true (by omega), decide_eq_true (by omega)]
      · rw [decide_eq_false (by omega), decide_eq_false (by omega)])
    clear hr hd
    go_enter Tryd.func118, Tryd.ntmps118
    go_upto_region 1 with fail
    refine wp_region_ext 12 (factsOf [(1, EqP (.int .u8 (c : Int))), (5, EqP (.int .u8 (c : Int)))]) (fun k => ([[], [0], [0, 1], [0, 1, 2], [0, 1, 2, 3], [0, 1, 2, 3, 4], [0, 1, 2, 3, 4, 5], [0, 1, 2, 3, 4, 5, 6], [0, 1, 2, 3], [0, 1, 2, 3, 8], [0, 1, 2, 3, 8, 9], [0, 1, 2, 3, 8, 9, 10], [0, 1, 2, 3, 4, 5, 6, 7, 8, 9, 10, 11], [0, 1, 2, 3, 4, 5, 6, 7, 8, 9, 10, 11, 12], [0, 1, 2, 3, 4, 5, 6, 7, 8, 9, 10, 11, 12, 13]] : List (List Nat)).getD k []) (by kernel_rfl) (by kernel_rfl) Ext.pre (mono_cons (stays_eqP _) (mono_cons (stays_eqP _) (mono_nil))) ?_
    simp only [List.take_succ_cons, List.take_zero]
    repeat (first | (with_reducible refine lexL_quiet' (v := ?_) ?_ ?_ ?_ ?_; rotate_left; (· with_reducible rfl); (· simp [factsOf]); (· intro w1 hw1 _; go_simp; with_reducible rfl); (try simp only [Act.put, List.setIfInBounds_toArray, List.set_cons_zero, List.set_cons_succ])) | (with_reducible refine lexL_skip ?_ ?_; (· simp [Region.wanted, yielded, undef]); (try simp only [Act.put, List.setIfInBounds_toArray, List.set_cons_zero, List.set_cons_succ])) | (with_reducible refine lexL_quiet (v := ?_) ?_ ?_ ?_ ?_; rotate_left; (· simp [Region.wanted, yielded, undef]); (· simp [factsOf]); (· intro w1 hw1 _; go_simp; with_reducible rfl); (try simp only [Act.put, List.setIfInBounds_toArray, List.set_cons_zero, List.set_cons_succ])))
    with_reducible refine lexL_give' (φ := ?_) ?_ ?_ ?_ ?_; rotate_left; (· with_reducible rfl); (· simp only [factsOf, Nat.reduceAdd, ↓reduceIte, Nat.reduceEqDiff]; rfl)
    · intro w5 hw5 _
      go_simp
      refine (HN.out w5 hw5).mono ?_
      rintro e w6 ⟨rfl, e6⟩
      exact ⟨_, rfl, e6, rfl⟩
    rintro v1 w5 hw5 rfl hk2
    clear hk2 hw5 w5
    (try simp only [Act.put, List.setIfInBounds_toArray, List.set_cons_zero, List.set_cons_succ])
    repeat (first | (with_reducible refine lexL_quiet' (v := ?_) ?_ ?_ ?_ ?_; rotate_left; (· with_reducible rfl); (· simp [factsOf]); (· intro w1 hw1 _; go_simp; with_reducible rfl); (try simp only [Act.put, List.setIfInBounds_toArray, List.set_cons_zero, List.set_cons_succ])) | (with_reducible refine lexL_skip ?_ ?_; (· simp [Region.wanted, yielded, undef]); (try simp only [Act.put, List.setIfInBounds_toArray, List.set_cons_zero, List.set_cons_succ])) | (with_reducible refine lexL_quiet (v := ?_) ?_ ?_ ?_ ?_; rotate_left; (· simp [Region.wanted, yielded, undef]); (· simp [factsOf]); (· intro w1 hw1 _; go_simp; with_reducible rfl); (try simp only [Act.put, List.setIfInBounds_toArray, List.set_cons_zero, List.set_cons_succ])))
    with_reducible refine lexL_give (φ := ?_) ?_ ?_ ?_ ?_; rotate_left; (· simp [Region.wanted, yielded, undef]); (· simp only [factsOf, Nat.reduceAdd, ↓reduceIte, Nat.reduceEqDiff]; rfl)
    · intro w5 hw5 _
      go_simp
      refine (HN.out w5 hw5).mono ?_
      rintro e w6 ⟨rfl, e6⟩
      exact ⟨_, rfl, e6, rfl⟩
    rintro v1 w5 hw5 rfl hk2
    clear hk2 hw5 w5
    (try simp only [Act.put, List.setIfInBounds_toArray, List.set_cons_zero, List.set_cons_succ])
    repeat (first | (with_reducible refine lexL_quiet' (v := ?_) ?_ ?_ ?_ ?_; rotate_left; (· with_reducible rfl); (· simp [factsOf]); (· intro w1 hw1 _; go_simp; with_reducible rfl); (try simp only [Act.put, List.setIfInBounds_toArray, List.set_cons_zero, List.set_cons_succ])) | (with_reducible refine lexL_skip ?_ ?_; (· simp [Region.wanted, yielded, undef]); (try simp only [Act.put, List.setIfInBounds_toArray, List.set_cons_zero, List.set_cons_succ])) | (with_reducible refine lexL_quiet (v := ?_) ?_ ?_ ?_ ?_; rotate_left; (· simp [Region.wanted, yielded, undef]); (· simp [factsOf]); (· intro w1 hw1 _; go_simp; with_reducible rfl); (try simp only [Act.put, List.setIfInBounds_toArray, List.set_cons_zero, List.set_cons_succ])))
    with_reducible refine lexL_nil ?_; intro w1 hw1 hk1; simp only [List.drop_succ_cons, List.drop_zero]
    have HW1 := Lib.hid hw1
    clear hk1 hw1
    go_wp2
    go_ret
    exact ⟨by rw [HR.out]; rfl, HW1.out⟩
def begP (sy c : Nat) : Bool := letP sy c || opensB c
set_option maxRecDepth 100000 in
set_option maxHeartbeats 4000000 in
theorem begins_any {w : World} {pb : Nat} {s : ByteArray} {i sy : Nat} (hs : s.size ≤ 9223372036854775807) (hP : PSt w pb s i sy) : Calls Tryd.prog 116 #[.pointer (some ⟨pb, 0, none⟩)] w (BoolP w (begP sy (bt s i))) := by
  have hn := fun w' (e : Ext w w') => next_any hs (hP.ext e)
  have hl := fun w' (e : Ext w w') => letter_any hs (hP.ext e)
  have hc := bt_lt s i
  have hR := Ext.refl w
  generalize bt s i = c at *
  obtain ⟨r, hr⟩ : ∃ r : Bool, r = begP sy c := ⟨_, rfl⟩
  rw [← hr]
  unfold begP at hr
  obtain ⟨lt, hlt⟩ : ∃ r : Bool, r = letP sy c := ⟨_, rfl⟩
  rw [← hlt] at hr hl
  unfold U8P at hn
  unfold BoolP at hl
  have hidx := fun w' => idx_any opens c w'
  have hop := opens_idx c hc
  obtain ⟨ix, hix⟩ : ∃ x, x = firstIdx opens c.toUInt8 := ⟨_, rfl⟩
  rw [← hix] at hidx hop
  obtain ⟨ob, hob⟩ : ∃ x, x = opensB c := ⟨_, rfl⟩
  rw [← hob] at hop hr
  have HOB := Lib.hid hob
  unfold opens at hidx
  have HI := Lib.hid hidx
  have HN := Lib.hid hn
  have HL := Lib.hid hl
  have HR0 := Lib.hid hr
  clear hn hl hr hix hob hP hlt hidx
  cases lt with
  | true =>
    have HR : Hid (r = true) := Lib.hid (by rw [HR0.out]; rfl)
    clear HR0 hop
    have hl := HL.out w hR
    go_enter Tryd.func116, Tryd.ntmps116
    go_wp2_with ((with_reducible refine hl.mono ?_); rintro e W5 ⟨rfl, e5⟩)
    go_ret
    exact ⟨by rw [HR.out]; rfl, e5⟩
  | false =>
    have HR1 : Hid (r = ob) := Lib.hid (by rw [HR0.out]; rfl)
    clear HR0
    have hl := HL.out w hR
    by_cases hz : c = 0
    · have hz2 : ((c : Int) != 0) = false := by rw [hz]; rfl
      have HR : Hid (r = false) := Lib.hid (by rw [HR1.out, HOB.out, hz]; rfl)
      clear hz hop
      go_enter Tryd.func116, Tryd.ntmps116
      go_wp2_with (first | ((with_reducible refine hl.mono ?_); rintro e W5 ⟨rfl, e5⟩; have hn := HN.out W5 e5) | ((with_reducible refine hn.mono ?_); rintro e W6 ⟨rfl, e6⟩))
      go_ret
      exact ⟨by rw [HR.out]; rfl, e5.trans e6⟩
    · have hz2 : ((c : Int) != 0) = true := bne_iff_ne.2 (by omega)
      clear hz
      go_enter Tryd.func116, Tryd.ntmps116
      cases ob with
      | true =>
        have hge : (0 : Int) ≤ ix := of_decide_eq_true hop
        clear hop
        go_wp2_with (first | ((with_reducible refine hl.mono ?_); rintro e W5 ⟨rfl, e5⟩; have hn := HN.out W5 e5) | ((with_reducible refine hn.mono ?_); rintro e W6 ⟨rfl, e6⟩; have hn2 := HN.out W6 (e5.trans e6); clear hn) | ((with_reducible refine hn2.mono ?_); rintro e W7 ⟨rfl, e7⟩; have hi := HI.out W7) | ((with_reducible refine hi.mono ?_); rintro e W8 ⟨rfl, rfl⟩))
        go_ret
        exact ⟨by rw [HR1.out]; rfl, (e5.trans e6).trans e7⟩
      | false =>
        have hge : ¬ (0 : Int) ≤ ix := of_decide_eq_false hop
        clear hop
        go_wp2_with (first | ((with_reducible refine hl.mono ?_); rintro e W5 ⟨rfl, e5⟩; have hn := HN.out W5 e5) | ((with_reducible refine hn.mono ?_); rintro e W6 ⟨rfl, e6⟩; have hn2 := HN.out W6 (e5.trans e6); clear hn) | ((with_reducible refine hn2.mono ?_); rintro e W7 ⟨rfl, e7⟩; have hi := HI.out W7) | ((with_reducible refine hi.mono ?_); rintro e W8 ⟨rfl, rfl⟩))
        go_ret
        exact ⟨by rw [HR1.out]; first | rfl | exact congrArg (fun b => Ending.returned (.bool b)) (decide_eq_false (by omega)), (e5.trans e6).trans e7⟩
def ParP (w : World) (pb : Nat) (s : ByteArray) (i sy : Nat) (w' : World) : Prop := PSt w' pb s i sy ∧ w.grownBy w' (some pb)
def takP (s : ByteArray) (i c : Nat) : Bool := decide (i < s.size) && bt s i == c
def TakQ (w : World) (pb : Nat) (s : ByteArray) (i sy c : Nat) (e : Ending) (w' : World) : Prop := e = .returned (.bool (takP s i c)) ∧ ParP w pb s (if takP s i c = true then i + 1 else i) sy w'
set_option maxRecDepth 100000 in
set_option maxHeartbeats 4000000 in
theorem take_any {w : World} {pb : Nat} {s : ByteArray} {i sy : Nat} (c : Nat) (hs : s.size ≤ 1000000) (hi0 : i ≤ 1000000) (hP : PSt w pb s i sy) : Calls Tryd.prog 89 #[.pointer (some ⟨pb, 0, none⟩), .int .u8 (c : Int)] w (TakQ w pb s i sy c) := by
  have c0 : ∀ w', Ext w w' → w'.cell? ⟨pb, 0, none⟩ = some (.string s) := fun w' e => e.cell (cell_of_blk hP 0 rfl)
  have c1 : ∀ w', Ext w w' → w'.cell? ⟨pb, 1, none⟩ = some (.int .i64 (i : Int)) := fun w' e => e.cell (cell_of_blk hP 1 rfl)
  have c2 : ∀ w', Ext w w' → w'.cell? ⟨pb, 2, none⟩ = some (.int .i64 (sy : Int)) := fun w' e => e.cell (cell_of_blk hP 2 rfl)
  have hR := Ext.refl w
  have f1 : ∀ w', Ext w w' → w'.frozen? ⟨pb, 1, none⟩ = false := fun w' e => free_of_blk (heap_ext e hP) 1
  obtain ⟨r, hr⟩ : ∃ r : Bool, r = takP s i c := ⟨_, rfl⟩
  unfold TakQ
  rw [← hr]
  unfold takP at hr
  obtain ⟨j, hj⟩ : ∃ j, j = (if r = true then i + 1 else i) := ⟨_, rfl⟩
  rw [← hj]
  have HJ := Lib.hid hj
  have HP := Lib.hid hP
  clear hj
  by_cases hi : i < s.size
  rotate_left
  · have hiI : ¬ (i : Int) < (s.size : Int) := by omega
    have HR : Hid (r = false) := Lib.hid (by rw [hr, decide_eq_false hi]; rfl)
    have HJ : Hid (j = i) := Lib.hid (by rw [HJ.out, HR.out]; rfl)
    clear hr hP hi
    go_enter Tryd.func89, Tryd.ntmps89
    go_upto_region 1 with fail
    go_quiet (fail)
    go_wp2
    go_ret
    exact ⟨by rw [HR.out]; rfl, by rw [HJ.out]; exact HP.out.ext ((Ext.refl _).drewN _), grown_of_ext ((Ext.refl _).drewN _) _⟩
  · have hiI : (i : Int) < (s.size : Int) := by omega
    have hb := bt_in hi
    by_cases hc : bt s i = c
    · have g0 : (((s[i]'hi).toNat : Int) == (c : Int)) = true := by rw [← hb, hc]; exact beq_self_eq_true _
      have HR : Hid (r = true) := Lib.hid (by rw [hr, decide_eq_true hi, hc]; simp)
      have HJ : Hid (j = i + 1) := Lib.hid (by rw [HJ.out, HR.out]; rfl)
      clear hr hP hb hc
      go_enter Tryd.func89, Tryd.ntmps89
      go_upto_region 1 with fail
      go_quiet (fail)
      go_upto_region 4 with fail
      refine wp_named ?_
      intro W5 hW5
      have hH : Hid (PSt W5 pb s (i + 1) sy ∧ w.grownBy W5 (some pb)) := Lib.hid (by
        rw [hW5]
        exact ⟨heap_setCell_same _ pb 1 _ 97 _ (HP.out.ext ((Ext.refl _).drewN _)), grown_trans (grown_of_ext ((Ext.refl _).drewN _) _) (grown_setK _ pb 1 _)⟩)
      clear hW5 c0 c1 c2 f1
      go_wp2
      go_ret
      exact ⟨by rw [HR.out]; rfl, by rw [HJ.out]; exact hH.out.1, hH.out.2⟩
    · have g0 : (((s[i]'hi).toNat : Int) == (c : Int)) = false := by rw [← hb]; exact beq_eq_false_iff_ne.2 (by omega)
      have HR : Hid (r = false) := Lib.hid (by rw [hr, decide_eq_true hi, beq_eq_false_iff_ne.2 hc]; rfl)
      have HJ : Hid (j = i) := Lib.hid (by rw [HJ.out, HR.out]; rfl)
      clear hr hP hb hc
      go_enter Tryd.func89, Tryd.ntmps89
      go_upto_region 1 with fail
      go_quiet (fail)
      go_wp2
      go_ret
      exact ⟨by rw [HR.out]; rfl, by rw [HJ.out]; exact HP.out.ext ((Ext.refl _).drewN _), grown_of_ext ((Ext.refl _).drewN _) _⟩
end Go.Proofs.YtmebgomnmlbgnaaDoor

namespace Go.Proofs.YtmebgomnmlbgnaaDoor
open Go.RowKit
set_option linter.unusedVariables false
set_option linter.unusedSimpArgs false
inductive PR where
  | ok (r : Rx) (j : Nat)
  | bad (j : Nat)
deriving DecidableEq
section
variable (s : ByteArray) (sy : Nat)
def pAtom (rec : Nat → PR) (i : Nat) : PR :=
  if takP s i 48 = true then .ok .none (i + 1) else if takP s i 49 = true then .ok .empty (i + 1)
  else if letP sy (bt s i) = true then .ok (.sym (bt s i - 97)) (i + 1)
  else if takP s i 40 = true then match rec (i + 1) with
    | .bad j => .bad j
    | .ok x j => if takP s j 41 = true then .ok x (j + 1) else .bad j
  else .bad i
def starL : Nat → Rx → Nat → PR
  | 0, x, j => .ok x j
  | f + 1, x, j => if takP s j 42 = true then starL f (.star x) (j + 1) else .ok x j
def pStar (rec : Nat → PR) (i : Nat) : PR := match pAtom s sy rec i with
  | .bad j => .bad j
  | .ok x j => starL s (s.size + 1 - j) x j
def tildeL : Nat → Nat → Nat
  | 0, _ => 0
  | f + 1, i => if takP s i 126 = true then tildeL f (i + 1) + 1 else 0
def notN : Nat → Rx → Rx
  | 0, x => x
  | n + 1, x => notN n (.not x)
def notF (n : Nat) : PR → PR
  | .bad j => .bad j
  | .ok x j => .ok (notN n x) j
def pNot (rec : Nat → PR) (i : Nat) : PR := notF (tildeL s (s.size + 1 - i) i) (pStar s sy rec (i + tildeL s (s.size + 1 - i) i))
def loopP (cond : Nat → Option Nat) (sub : Nat → PR) (mk : Rx → Rx → Rx) : Nat → Rx → Nat → PR
  | 0, x, j => .ok x j
  | f + 1, x, j => match cond j with
    | none => .ok x j
    | some k => match sub k with
      | .bad l => .bad l
      | .ok y l => loopP cond sub mk f (mk x y) l
def seqC (j : Nat) : Option Nat := if begP sy (bt s j) = true then some j else none
def binC (c : Nat) (j : Nat) : Option Nat := if takP s j c = true then some (j + 1) else none
def manyP (cond : Nat → Option Nat) (sub : Nat → PR) (mk : Rx → Rx → Rx) (i : Nat) : PR := match sub i with
  | .bad j => .bad j
  | .ok x j => loopP cond sub mk (s.size + 1 - j) x j
def pSeq (rec : Nat → PR) (i : Nat) : PR := manyP s (seqC s sy) (pNot s sy rec) .seq i
def pAnd (rec : Nat → PR) (i : Nat) : PR := manyP s (binC s 38) (pSeq s sy rec) .and i
def pOr (rec : Nat → PR) (i : Nat) : PR := manyP s (binC s 124) (pAnd s sy rec) .or i
def pAll : Nat → Nat → PR
  | 0, i => .bad i
  | f + 1, i => pOr s sy (pAll f) i
end
def Fine (s : ByteArray) (i : Nat) : PR → Prop
  | .ok _ j => i < j ∧ j ≤ s.size
  | .bad j => i ≤ j ∧ j ≤ s.size
theorem takP_in {s : ByteArray} {i c : Nat} (h : takP s i c = true) : i < s.size := by
  unfold takP at h
  simp at h
  exact h.1
theorem letP_in {s : ByteArray} {sy i : Nat} (h : letP sy (bt s i) = true) : i < s.size := by
  unfold letP at h
  have := of_decide_eq_true h
  apply Nat.lt_of_not_le
  intro h2
  rw [bt_out (by omega)] at this
  omega
section
variable {s : ByteArray} {sy : Nat}
theorem pAtom_fine {rec : Nat → PR} {i : Nat} (hi : i ≤ s.size) (h : ∀ k, i < k → k ≤ s.size → Fine s k (rec k)) : Fine s i (pAtom s sy rec i) := by
  unfold pAtom
  split
  · rename_i h1; have := takP_in h1; exact ⟨by omega, by omega⟩
  · split
    · rename_i h1; have := takP_in h1; exact ⟨by omega, by omega⟩
    · split
      · rename_i h1; have := letP_in h1; exact ⟨by omega, by omega⟩
      · split
        · rename_i h1
          have h2 := takP_in h1
          have h3 := h (i + 1) (by omega) (by omega)
          split
          · rename_i j e; rw [e] at h3; exact ⟨by have := h3.1; omega, h3.2⟩
          · rename_i x j e
            rw [e] at h3
            split
            · rename_i h4; have h5 := takP_in h4; have := h3.1; exact ⟨by omega, by omega⟩
            · have := h3.1; exact ⟨by omega, h3.2⟩
        · exact ⟨Nat.le_refl _, hi⟩
theorem starL_fine : ∀ (f : Nat) (x : Rx) (j : Nat), j ≤ s.size → ∃ y k, starL s f x j = .ok y k ∧ j ≤ k ∧ k ≤ s.size
  | 0, x, j, h => ⟨x, j, rfl, Nat.le_refl _, h⟩
  | f + 1, x, j, h => by
    unfold starL
    split
    · rename_i h1
      have := takP_in h1
      obtain ⟨y, k, e, h2, h3⟩ := starL_fine f (.star x) (j + 1) (by omega)
      exact ⟨y, k, e, by omega, h3⟩
    · exact ⟨x, j, rfl, Nat.le_refl _, h⟩
theorem pStar_fine {rec : Nat → PR} {i : Nat} (hi : i ≤ s.size) (h : ∀ k, i < k → k ≤ s.size → Fine s k (rec k)) : Fine s i (pStar s sy rec i) := by
  have h1 := pAtom_fine (sy := sy) hi h
  unfold pStar
  split
  · rename_i j e; rw [e] at h1; exact h1
  · rename_i x j e
    rw [e] at h1
    obtain ⟨y, k, e2, h2, h3⟩ := starL_fine (s := s) (s.size + 1 - j) x j h1.2
    rw [e2]
    exact ⟨by have := h1.1; omega, h3⟩
theorem tildeL_fine : ∀ (f i : Nat), i ≤ s.size → i + tildeL s f i ≤ s.size
  | 0, i, h => by simpa [tildeL] using h
  | f + 1, i, h => by
    unfold tildeL
    split
    · rename_i h1
      have := takP_in h1
      have := tildeL_fine f (i + 1) (by omega)
      omega
    · simpa using h
theorem pNot_fine {rec : Nat → PR} {i : Nat} (hi : i ≤ s.size) (h : ∀ k, i < k → k ≤ s.size → Fine s k (rec k)) : Fine s i (pNot s sy rec i) := by
  unfold pNot
  have h0 := tildeL_fine (s := s) (s.size + 1 - i) i hi
  have h1 := pStar_fine (sy := sy) h0 (rec := rec) (fun k hk hk2 => h k (by omega) hk2)
  unfold notF
  split
  · rename_i j e; rw [e] at h1; exact ⟨by have := h1.1; omega, h1.2⟩
  · rename_i x j e; rw [e] at h1; exact ⟨by have := h1.1; omega, h1.2⟩
theorem loopP_fine {cond : Nat → Option Nat} {sub : Nat → PR} {mk : Rx → Rx → Rx} {i : Nat} (hc : ∀ j k, cond j = some k → j ≤ k ∧ k ≤ s.size) (h : ∀ k, i ≤ k → k ≤ s.size → Fine s k (sub k)) :
    ∀ (f : Nat) (x : Rx) (j : Nat), i < j → j ≤ s.size → Fine s i (loopP cond sub mk f x j)
  | 0, x, j, h1, h2 => ⟨h1, h2⟩
  | f + 1, x, j, h1, h2 => by
    unfold loopP
    split
    · exact ⟨h1, h2⟩
    · rename_i k e
      have h3 := hc j k e
      have h4 := h k (by omega) h3.2
      split
      · rename_i l e2; rw [e2] at h4; exact ⟨by have := h4.1; omega, h4.2⟩
      · rename_i y l e2
        rw [e2] at h4
        exact loopP_fine hc h f (mk x y) l (by have := h4.1; omega) h4.2
theorem manyP_fine {cond : Nat → Option Nat} {sub : Nat → PR} {mk : Rx → Rx → Rx} {i : Nat} (hi : i ≤ s.size) (hc : ∀ j k, cond j = some k → j ≤ k ∧ k ≤ s.size) (h : ∀ k, i ≤ k → k ≤ s.size → Fine s k (sub k)) : Fine s i (manyP s cond sub mk i) := by
  have h1 := h i (Nat.le_refl _) hi
  unfold manyP
  split
  · rename_i j e; rw [e] at h1; exact h1
  · rename_i x j e
    rw [e] at h1
    exact loopP_fine hc h _ x j h1.1 h1.2
theorem begP_in {i : Nat} (h : begP sy (bt s i) = true) : i < s.size := by
  apply Nat.lt_of_not_le
  intro h2
  rw [bt_out (by omega)] at h
  unfold begP letP opensB at h
  simp at h
theorem seqC_in {j k : Nat} (hj : seqC s sy j = some k) : j ≤ k ∧ k ≤ s.size := by
  unfold seqC at hj
  split at hj
  · rename_i h; cases hj; exact ⟨Nat.le_refl _, Nat.le_of_lt (begP_in h)⟩
  · cases hj
theorem binC_in {c j k : Nat} (hj : binC s c j = some k) : j ≤ k ∧ k ≤ s.size := by
  unfold binC at hj
  split at hj
  · rename_i h; cases hj; exact ⟨by omega, takP_in h⟩
  · cases hj
theorem pSeq_fine {rec : Nat → PR} {i : Nat} (hi : i ≤ s.size) (h : ∀ k, i < k → k ≤ s.size → Fine s k (rec k)) : Fine s i (pSeq s sy rec i) :=
  manyP_fine hi (fun j k e => seqC_in e) (fun k hk hk2 => pNot_fine hk2 (fun l hl hl2 => h l (by omega) hl2))
theorem pAnd_fine {rec : Nat → PR} {i : Nat} (hi : i ≤ s.size) (h : ∀ k, i < k → k ≤ s.size → Fine s k (rec k)) : Fine s i (pAnd s sy rec i) :=
  manyP_fine hi (fun j k e => binC_in e) (fun k hk hk2 => pSeq_fine hk2 (fun l hl hl2 => h l (by omega) hl2))
theorem pOr_fine {rec : Nat → PR} {i : Nat} (hi : i ≤ s.size) (h : ∀ k, i < k → k ≤ s.size → Fine s k (rec k)) : Fine s i (pOr s sy rec i) :=
  manyP_fine hi (fun j k e => binC_in e) (fun k hk hk2 => pAnd_fine hk2 (fun l hl hl2 => h l (by omega) hl2))
theorem pAll_fine : ∀ (f i : Nat), i ≤ s.size → Fine s i (pAll s sy f i)
  | 0, i, h => ⟨Nat.le_refl _, h⟩
  | f + 1, i, h => pOr_fine h (fun k _ hk2 => pAll_fine f k hk2)
end
end Go.Proofs.YtmebgomnmlbgnaaDoor
