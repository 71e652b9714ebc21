/-    -/
import Derived.Test.YtmebgomnmlbgnaaDoorZN
import Derived.Test.YtmebgomnmlbgnaaDoorZO
import Derived.Test.YtmebgomnmlbgnaaDoorZE5
set_option linter.unnecessarySimpa false
set_option linter.unusedSectionVars false
namespace Go.Proofs.YtmebgomnmlbgnaaDoor
open Go.RowKit Go.Maps
set_option linter.unusedVariables false
set_option linter.unusedSimpArgs false
attribute [local go_sem] Oper.quietV quietV Oper.gives givesV ext_refl_iff ext_alloc_iff ext_drew_iff ext_drewN_iff
theorem both1_any {W : World} {m : Nat} {D E : DN} {b1 b2 : Nat} (s : Nat × Nat) {a : Nat} (hD : D.ok m) (hE : E.ok m) (h1 : DBox W b1 m D) (h2 : DBox W b2 m E) (hs : s.1 < D.rows.length) (ht : s.2 < E.rows.length) (ha : a < m) :
    Calls Tryd.prog 95 #[plcV s, .int .i64 (a : Int), .pointer (some ⟨b1, 0, none⟩), .pointer (some ⟨b2, 0, none⟩)] W fun e w' => e = .returned (plcV (D.nx s.1 a, E.nx s.2 a)) ∧ Ext W w' := by
  obtain ⟨x, y⟩ := s
  have hs : x < D.rows.length := hs
  have ht : y < E.rows.length := ht
  obtain ⟨g1, o1, c1, g2, o2, c2, r1, r2, r3⟩ := h1.row hD hs ha
  obtain ⟨g3, o3, c3, g4, o4, c4, r4, r5, r6⟩ := h2.row hE ht ha
  show Calls Tryd.prog 95 #[.agg #[.int .i64 (x : Int), .int .i64 (y : Int)], .int .i64 (a : Int), .pointer (some ⟨b1, 0, none⟩), .pointer (some ⟨b2, 0, none⟩)] W fun e w' => e = .returned (.agg #[.int .i64 (D.nx x a : Int), .int .i64 (E.nx y a : Int)]) ∧ Ext W w'
  generalize D.nx x a = p at *
  generalize E.nx y a = q at *
  have hsI : (x : Int) < (D.rows.length : Int) := by omega
  have htI : (y : Int) < (E.rows.length : Int) := by omega
  have haI : (a : Int) < (m : Int) := by omega
  clear h1 h2 hD hE
  go_enter Tryd.func95, Tryd.ntmps95
  go_upto_region 1 with fail
  refine wp_named ?_
  intro W1 hW1
  have hE1 : Ext W W1 := by rw [hW1]; exact (alloc_ext _ _).trans (alloc_ext _ _)
  have hB0 : W1.heap[W.heap.size]? = some (.cells #[.int .i64 (x : Int), .int .i64 (y : Int)] 129) := by rw [hW1]; exact heap_ext (alloc_ext _ _) (heap_alloc_new _ _)
  have hB1 : W1.heap[W.heap.size + 1]? = some (.cells #[.int .i64 0, .int .i64 0] 129) := by rw [hW1]; have := heap_alloc_new (W.alloc (.cells #[.int .i64 (x : Int), .int .i64 (y : Int)] 129)) (.cells #[.int .i64 0, .int .i64 0] 129); simpa using this
  have k0 := fun w' (e : Ext W1 w') => e.cell (cell_of_blk hB0 0 (u := .int .i64 (x : Int)) rfl)
  have k1 := fun w' (e : Ext W1 w') => e.cell (cell_of_blk hB0 1 (u := .int .i64 (y : Int)) rfl)
  have q1 := fun w' (e : Ext W1 w') => e.cell (hE1.cell r1)
  have q2 := fun w' (e : Ext W1 w') => e.cell (hE1.cell r2)
  have q3 := fun w' (e : Ext W1 w') => e.cell (hE1.cell r3)
  have q4 := fun w' (e : Ext W1 w') => e.cell (hE1.cell r4)
  have q5 := fun w' (e : Ext W1 w') => e.cell (hE1.cell r5)
  have q6 := fun w' (e : Ext W1 w') => e.cell (hE1.cell r6)
  clear hW1 hB0 r1 r2 r3 r4 r5 r6
  refine wp_region_ext 18 (factsOf []) (fun k => ([[], [0], [], [2], [0, 1, 2, 3], [0, 1, 2, 3, 4], [], [0, 1, 2, 3, 4, 5, 6], [0, 1, 2, 3, 4, 5, 6, 7], [], [9], [], [11], [9, 10, 11, 12], [9, 10, 11, 12, 13], [], [9, 10, 11, 12, 13, 14, 15], [9, 10, 11, 12, 13, 14, 15, 16], [0, 1, 2, 3, 4, 5, 6, 7, 8, 9, 10, 11, 12, 13, 14, 15, 16, 17], [0, 1, 2, 3, 4, 5, 6, 7, 8, 9, 10, 11, 12, 13, 14, 15, 16, 17, 18]] : List (List Nat)).getD k []) (by kernel_rfl) (by kernel_rfl) Ext.pre (mono_nil) ?_
  simp only [List.take_succ_cons, List.take_zero]
  repeat (first | (with_reducible refine lexL_quiet' (v := ?_) ?_ ?_ ?_ ?_; rotate_left; (· with_reducible rfl); (· simp [factsOf]); (· intro w1 hw1 _; go_simp; with_reducible rfl); (try simp only [Act.put, List.setIfInBounds_toArray, List.set_cons_zero, List.set_cons_succ])) | (with_reducible refine lexL_skip ?_ ?_; (· simp [Region.wanted, yielded, undef]); (try simp only [Act.put, List.setIfInBounds_toArray, List.set_cons_zero, List.set_cons_succ])) | (with_reducible refine lexL_quiet (v := ?_) ?_ ?_ ?_ ?_; rotate_left; (· simp [Region.wanted, yielded, undef]); (· simp [factsOf]); (· intro w1 hw1 _; go_simp; with_reducible rfl); (try simp only [Act.put, List.setIfInBounds_toArray, List.set_cons_zero, List.set_cons_succ])))
  with_reducible refine lexL_nil ?_; intro w1 hw1 hk1; simp only [List.drop_succ_cons, List.drop_zero]
  have hB1 := heap_ext hw1 hB1
  go_wp2_with (with_reducible refine wpList_store_blk _ rfl 129 _ _ rfl (W.heap.size + 1) 129 _ _ rfl rfl hB1 (by kernel_rfl) (by kernel_rfl) (by kernel_rfl) ?_; intro w10 h10 g10)
  refine bodyPost_ret (results_cell_row rfl _ _ (W.heap.size + 1) 129 _ (0, 0) _ (by simp [Act.put]) h10 Tryd.underlying129 rfl (by kernel_rfl)) rfl ?_
  exact ⟨by simp [Act.put], Below.grown (hE1.trans hw1) g10 (hE1.trans hw1).size (fun k hk => by cases hk; exact Nat.le_succ _)⟩
theorem both2_any {W : World} {m : Nat} {D E : DN} {b0 b1 b2 : Nat} (s : Nat × Nat) {o : Nat} (hD : D.ok m) (hE : E.ok m) (h0 : W.cell? ⟨b0, 0, none⟩ = some (.int .u8 (o : Int))) (h1 : DBox W b1 m D) (h2 : DBox W b2 m E) (hs : s.1 < D.rows.length) (ht : s.2 < E.rows.length) :
    Calls Tryd.prog 96 #[plcV s, .pointer (some ⟨b0, 0, none⟩), .pointer (some ⟨b1, 0, none⟩), .pointer (some ⟨b2, 0, none⟩)] W fun e w' => e = .returned (.bool ((o == 3) && (D.ac s.1 || E.ac s.2) || D.ac s.1 && E.ac s.2)) ∧ Ext W w' := by
  obtain ⟨x, y⟩ := s
  have hs : x < D.rows.length := hs
  have ht : y < E.rows.length := ht
  obtain ⟨g1, o1, c1, r1, r2⟩ := h1.accs hD hs
  obtain ⟨g3, o3, c3, r4, r5⟩ := h2.accs hE ht
  show Calls Tryd.prog 96 #[.agg #[.int .i64 (x : Int), .int .i64 (y : Int)], .pointer (some ⟨b0, 0, none⟩), .pointer (some ⟨b1, 0, none⟩), .pointer (some ⟨b2, 0, none⟩)] W fun e w' => e = .returned (.bool ((o == 3) && (D.ac x || E.ac y) || D.ac x && E.ac y)) ∧ Ext W w'
  have ho : Hid (((o : Int) == 3) = (o == 3)) := Lib.hid (by rw [Bool.eq_iff_iff]; simp; omega)
  generalize D.ac x = p at *
  generalize E.ac y = q at *
  have hsI : (x : Int) < (D.rows.length : Int) := by omega
  have htI : (y : Int) < (E.rows.length : Int) := by omega
  clear h1 h2 hD hE
  go_enter Tryd.func96, Tryd.ntmps96
  go_upto_region 1 with fail
  refine wp_named ?_
  intro W1 hW1
  have hE1 : Ext W W1 := by rw [hW1]; exact alloc_ext _ _
  have hB0 : W1.heap[W.heap.size]? = some (.cells #[.int .i64 (x : Int), .int .i64 (y : Int)] 129) := by rw [hW1]; exact heap_alloc_new _ _
  have k0 := cell_of_blk hB0 0 (u := .int .i64 (x : Int)) rfl
  have k1 := cell_of_blk hB0 1 (u := .int .i64 (y : Int)) rfl
  have q0 := hE1.cell h0
  have q1 := hE1.cell r1
  have q2 := hE1.cell r2
  have q4 := hE1.cell r4
  have q5 := hE1.cell r5
  clear hW1 hB0 r1 r2 r4 r5 h0
  by_cases ho3 : o = 3
  · subst ho3
    clear ho
    cases p <;> cases q <;> (go_wp2; go_ret; exact ⟨rfl, hE1⟩)
  · have h3 : ((o : Int) == 3) = false := by simp; omega
    have h4 : Hid ((o == 3) = false) := Lib.hid (by simpa using ho3)
    clear ho
    cases p <;> cases q <;> (go_wp2; go_ret; first | exact ⟨rfl, hE1⟩ | exact ⟨by rw [h4.out]; rfl, hE1⟩)
end Go.Proofs.YtmebgomnmlbgnaaDoor

namespace Go.Proofs.YtmebgomnmlbgnaaDoor
open Go.RowKit Go.Maps
set_option linter.unusedVariables false
set_option linter.unusedSimpArgs false
attribute [local go_sem] Oper.quietV quietV Oper.gives givesV ext_refl_iff ext_alloc_iff ext_drew_iff ext_drewN_iff
def leafS (o sy : Nat) (s a : Nat) : Nat := if s = 0 ∧ o = 2 ∧ a = sy then 1 else 2
def leafA (o : Nat) (s : Nat) : Bool := (o == 1 && s == 0) || (o == 2 && s == 1)
theorem leaf1_any {W : World} {b o sy : Nat} (s a : Nat) (h0 : W.cell? ⟨b, 0, none⟩ = some (.int .u8 (o : Int))) (h1 : W.cell? ⟨b, 1, none⟩ = some (.int .i64 (sy : Int))) :
    Calls Tryd.prog 106 #[.int .i64 (s : Int), .int .i64 (a : Int), .pointer (some ⟨b, 0, none⟩)] W fun e w' => e = .returned (.int .i64 (leafS o sy s a : Int)) ∧ Ext W w' := by
  have hE := Ext.refl W
  by_cases hs : s = 0
  · subst hs
    by_cases ho : o = 2
    · subst ho
      by_cases ha : a = sy
      · subst ha
        go_enter Tryd.func106, Tryd.ntmps106
        go_wp2
        go_ret
        exact ⟨by unfold leafS; simp, hE⟩
      · have h3 : ((a : Int) == (sy : Int)) = false := by simp; omega
        have HA := Lib.hid ha
        clear ha
        go_enter Tryd.func106, Tryd.ntmps106
        go_wp2
        go_ret
        exact ⟨by unfold leafS; simp [HA.out], hE⟩
    · have h3 : ((o : Int) == 2) = false := by simp; omega
      have HO := Lib.hid ho
      clear ho
      go_enter Tryd.func106, Tryd.ntmps106
      go_wp2
      go_ret
      exact ⟨by unfold leafS; simp [HO.out], hE⟩
  · have h3 : ((s : Int) == 0) = false := by simp; omega
    have HS := Lib.hid hs
    clear hs
    go_enter Tryd.func106, Tryd.ntmps106
    go_wp2
    go_ret
    exact ⟨by unfold leafS; simp [HS.out], hE⟩
theorem leaf2_any {W : World} {b o : Nat} (s : Nat) (h0 : W.cell? ⟨b, 0, none⟩ = some (.int .u8 (o : Int))) :
    Calls Tryd.prog 107 #[.int .i64 (s : Int), .pointer (some ⟨b, 0, none⟩)] W fun e w' => e = .returned (.bool (leafA o s)) ∧ Ext W w' := by
  have hE := Ext.refl W
  obtain ⟨r, hr⟩ : ∃ r, r = leafA o s := ⟨_, rfl⟩
  rw [← hr]
  have HR := Lib.hid hr
  clear hr
  have e1 : ∃ p1 : Bool, ((o : Int) == 1) = p1 ∧ Hid ((o == 1) = p1) := ⟨o == 1, by rw [Bool.eq_iff_iff]; simp; omega, Lib.hid rfl⟩
  have e2 : ∃ p1 : Bool, ((o : Int) == 2) = p1 ∧ Hid ((o == 2) = p1) := ⟨o == 2, by rw [Bool.eq_iff_iff]; simp; omega, Lib.hid rfl⟩
  have e3 : ∃ p1 : Bool, ((s : Int) == 0) = p1 ∧ Hid ((s == 0) = p1) := ⟨s == 0, by rw [Bool.eq_iff_iff]; simp, Lib.hid rfl⟩
  have e4 : ∃ p1 : Bool, ((s : Int) == 1) = p1 ∧ Hid ((s == 1) = p1) := ⟨s == 1, by rw [Bool.eq_iff_iff]; simp; omega, Lib.hid rfl⟩
  obtain ⟨p1, k1, H1⟩ := e1
  obtain ⟨p2, k2, H2⟩ := e2
  obtain ⟨p3, k3, H3⟩ := e3
  obtain ⟨p4, k4, H4⟩ := e4
  have HR2 : Hid (r = (p1 && p3 || p2 && p4)) := Lib.hid (by rw [HR.out]; unfold leafA; rw [H1.out, H2.out, H3.out, H4.out])
  clear HR H1 H2 H3 H4
  cases p1 <;> cases p2 <;> cases p3 <;> cases p4 <;> (go_enter Tryd.func107, Tryd.ntmps107; go_wp2; go_ret; exact ⟨by rw [HR2.out]; rfl, hE⟩)
end Go.Proofs.YtmebgomnmlbgnaaDoor

namespace Go.Proofs.YtmebgomnmlbgnaaDoor
open Go.RowKit Go.Maps
set_option linter.unusedVariables false
set_option linter.unusedSimpArgs false
attribute [local go_sem] Oper.quietV quietV Oper.gives givesV ext_refl_iff ext_alloc_iff ext_drew_iff ext_drewN_iff
def expD {κ : Type} (acc : κ → Bool) (r : Option (List κ × List (List Nat))) : Option DN := r.map (fun p => ⟨p.2, p.1.map acc⟩)
def RawP (r : Option DN) (w : World) (e : Ending) (w' : World) : Prop := match r with
  | none => ∃ A n c A' n' c', e = .returned (.tuple #[.agg #[.slice A n c, .slice A' n' c'], .bool false]) ∧ Ext w w'
  | some D => ∃ A c A' c', e = .returned (.tuple #[.agg #[.slice A D.rows.length c, .slice A' D.acc.length c'], .bool true]) ∧ Ext w w' ∧ ∀ w'' : World, (∀ b, w.heap.size ≤ b → b < w'.heap.size → w''.heap[b]? = w'.heap[b]?) → ListsC w'' (.slice A D.rows.length c) (D.rows.map (·.map Int.ofNat)) c ∧ BoolsC w'' (.slice A' D.acc.length c') D.acc c'
theorem raw_of {κ : Type} {acc : κ → Bool} {r : Option (List κ × List (List Nat))} {w w' : World} {e : Ending} (h : ExpP acc r w e w') : RawP (expD acc r) w e w' := by
  cases r with
  | none => exact h
  | some p =>
    obtain ⟨A, c, A', c', h1, h2, h3⟩ := h
    refine ⟨A, c, A', c', ?_, h2, fun w'' hw => ?_⟩
    · rw [h1]; simp [expD]
    · have := h3 w'' hw
      simpa using this
theorem raw_keep {Φ : World → Prop} {W W1 W8 w10 : World} {b : Nat} (e8 : Ext W1 W8) (g10 : W8.grownBy w10 (some b)) (e : Ext W W1) (hb : b < W1.heap.size) (hL : ∀ w'' : World, (∀ b, W1.heap.size ≤ b → b < W8.heap.size → w''.heap[b]? = W8.heap[b]?) → Φ w'') :
    ∀ w'' : World, (∀ b, W.heap.size ≤ b → b < w10.heap.size → w''.heap[b]? = w10.heap[b]?) → Φ w'' := fun w'' h => hL w'' (fun c h1 h2 => by
  rw [h c (by have := e.size; omega) (by have := g10.size; omega)]
  exact g10.block c h2 (fun h => by cases h; omega))
def bothS (D E : DN) (s : Nat × Nat) (a : Nat) : Nat × Nat := (D.nx s.1 a, E.nx s.2 a)
def bothA (o : Nat) (D E : DN) (s : Nat × Nat) : Bool := (o == 3) && (D.ac s.1 || E.ac s.2) || D.ac s.1 && E.ac s.2
def bothD (o m : Nat) (D E : DN) : Option DN := expD (bothA o D E) (expF m (bothS D E) (0, 0))
set_option maxRecDepth 20000 in
set_option maxHeartbeats 4000000 in
theorem both_any {W : World} {o m : Nat} {D E : DN} {dv cv : Value} (hm : m ≤ 16) (hD : D.ok m) (hE : E.ok m) (h1 : DfaV W dv (D.dfa m)) (h2 : DfaV W cv (E.dfa m)) :
    Calls Tryd.prog 74 #[.int .u8 (o : Int), .int .i64 (m : Int), dv, cv] W (RawP (bothD o m D E) W) := by
  obtain ⟨rv, cr, av, ca, rfl, l1, l2⟩ := h1
  obtain ⟨rv', cr', av', ca', rfl, l3, l4⟩ := h2
  have HD := Lib.hid (And.intro hD (And.intro l1 l2))
  have HE := Lib.hid (And.intro hE (And.intro l3 l4))
  clear l1 l2 l3 l4 hD hE
  show Calls Tryd.prog 74 #[.int .u8 (o : Int), .int .i64 (m : Int), .agg #[.int .i64 (m : Int), rv, av], .agg #[.int .i64 (m : Int), rv', av']] W (RawP (bothD o m D E) W)
  obtain ⟨R, hR⟩ : ∃ R, R = bothD o m D E := ⟨_, rfl⟩
  rw [← hR]
  have HR := Lib.hid hR
  clear hR
  go_enter Tryd.func74, Tryd.ntmps74
  go_upto_region 1 with fail
  refine wp_named ?_
  intro W1 hW1
  have hE1 : Ext W W1 := by rw [hW1]; exact (((alloc_ext _ _).trans (alloc_ext _ _)).trans (alloc_ext _ _)).trans (alloc_ext _ _)
  have hB4 : W1.heap[W.heap.size]? = some (.cells #[.int .u8 (o : Int)] 32) := by rw [hW1]; exact heap_ext (((alloc_ext _ _).trans (alloc_ext _ _)).trans (alloc_ext _ _)) (heap_alloc_new _ _)
  have hB6 : W1.heap[W.heap.size + 1]? = some (.cells #[.int .i64 (m : Int), rv, av] 28) := by rw [hW1]; exact heap_ext ((alloc_ext _ _).trans (alloc_ext _ _)) (heap_new2 _ _ _)
  have hB7 : W1.heap[W.heap.size + 1 + 1]? = some (.cells #[.int .i64 (m : Int), rv', av'] 28) := by rw [hW1]; exact heap_ext (alloc_ext _ _) (heap_new3 _ _ _ _)
  have hZ : W1.heap[W.heap.size + 1 + 1 + 1]? = some zRaw := by rw [hW1]; have := heap_alloc_new (((W.alloc (.cells #[.int .u8 (o : Int)] 32)).alloc (.cells #[.int .i64 (m : Int), rv, av] 28)).alloc (.cells #[.int .i64 (m : Int), rv', av'] 28)) zRaw; simpa using this
  have hsz : W.heap.size + 1 + 1 + 1 < W1.heap.size := (Array.getElem?_eq_some_iff.1 hZ).1
  have b1 : DBox W1 (W.heap.size + 1) m D := ⟨rv, av, hB6, DfaV.ext ⟨rv, cr, av, ca, rfl, HD.out.2⟩ hE1⟩
  have b2 : DBox W1 (W.heap.size + 1 + 1) m E := ⟨rv', av', hB7, DfaV.ext ⟨rv', cr', av', ca', rfl, HE.out.2⟩ hE1⟩
  have k4 : W1.cell? ⟨W.heap.size, 0, none⟩ = some (.int .u8 (o : Int)) := cell_of_blk hB4 0 rfl
  have hst : Calls Tryd.prog 94 #[.int .i64 (m : Int), .agg #[.int .i64 0, .int .i64 0], .func (.func 95) #[] #[.pointer (some ⟨W.heap.size + 1, 0, none⟩), .pointer (some ⟨W.heap.size + 1 + 1, 0, none⟩)], .func (.func 96) #[] #[.pointer (some ⟨W.heap.size, 0, none⟩), .pointer (some ⟨W.heap.size + 1, 0, none⟩), .pointer (some ⟨W.heap.size + 1 + 1, 0, none⟩)]] W1 (RawP R W1) := by
    rw [HR.out]
    unfold bothD
    refine (explore94_any (w := W1) (s0 := (0, 0)) (step := bothS D E) (acc := bothA o D E) (fun s => s.1 < D.rows.length ∧ s.2 < E.rows.length) (fun s hs => ⟨by have := HD.out.1.big; omega, by have := HE.out.1.big; omega⟩) hm
      (fun w' s a e hs ha => both1_any s HD.out.1 HE.out.1 (b1.ext e) (b2.ext e) hs.1 hs.2 ha)
      (fun w' s e hs => both2_any s HD.out.1 HE.out.1 (e.cell k4) (b1.ext e) (b2.ext e) hs.1 hs.2)
      ⟨HD.out.1.pos, HE.out.1.pos⟩ (fun s a hs ha => ⟨HD.out.1.nx hs.1 ha, HE.out.1.nx hs.2 ha⟩)).mono ?_
    intro e w' h
    exact raw_of h
  have HE1 := Lib.hid (And.intro hE1 (And.intro (show W.heap.size ≤ W.heap.size + 1 + 1 + 1 by omega) hsz))
  clear hW1 hB4 hB6 hB7 b1 b2 k4 hE1 hsz
  cases R with
  | none =>
    go_wp2_with (first
      | ((with_reducible refine hst.mono ?_); rintro e W8 ⟨A, n, c, A', n', c', rfl, e8⟩)
      | (with_reducible refine wpList_store_blk _ rfl 109 _ _ rfl (W.heap.size + 1 + 1 + 1) 109 _ _ rfl rfl (heap_ext e8 hZ) (by kernel_rfl) (by kernel_rfl) (by kernel_rfl) ?_; intro w10 h10 g10))
    have hE8 := HE1.out.1.trans e8
    refine bodyPost_ret (results_ct2 rfl _ _ (W.heap.size + 1 + 1 + 1) 109 _ (0, 0) _ (by simp [Act.put]) h10 Tryd.underlying109 rfl (by kernel_rfl)) rfl ?_
    exact ⟨A, n, c, A', n', c', by simp [Act.put], Below.grown hE8 g10 hE8.size (fun k hk => by cases hk; exact HE1.out.2.1)⟩
  | some D0 =>
    go_wp2_with (first
      | ((with_reducible refine hst.mono ?_); rintro e W8 ⟨A, c, A', c', rfl, e8, hL⟩)
      | (with_reducible refine wpList_store_blk _ rfl 109 _ _ rfl (W.heap.size + 1 + 1 + 1) 109 _ _ rfl rfl (heap_ext e8 hZ) (by kernel_rfl) (by kernel_rfl) (by kernel_rfl) ?_; intro w10 h10 g10))
    have hE8 := HE1.out.1.trans e8
    refine bodyPost_ret (results_ct2 rfl _ _ (W.heap.size + 1 + 1 + 1) 109 _ (0, 0) _ (by simp [Act.put]) h10 Tryd.underlying109 rfl (by kernel_rfl)) rfl ?_
    exact ⟨A, c, A', c', by simp [Act.put], Below.grown hE8 g10 hE8.size (fun k hk => by cases hk; exact HE1.out.2.1), raw_keep e8 g10 HE1.out.1 HE1.out.2.2 hL⟩
end Go.Proofs.YtmebgomnmlbgnaaDoor
