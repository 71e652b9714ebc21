/-   -/
import Derived.Test.YtmebgomnmlbgnaaDoorZV2
import Derived.Test.YtmebgomnmlbgnaaDoorZZ
set_option linter.unnecessarySimpa false
set_option linter.unusedSectionVars false
namespace Go.Proofs.YtmebgomnmlbgnaaDoor
open Go.RowKit Go.Maps
set_option linter.unusedVariables false
set_option linter.unusedSimpArgs false
attribute [local go_sem] Oper.quietV quietV Oper.gives givesV ext_refl_iff ext_alloc_iff ext_drew_iff ext_drewN_iff
abbrev zNdV : Value := .agg #[.int .u8 0, .int .i64 0, .slice none 0 0]
def noneT : Tr := .mk 0 0 []
theorem none_node (w : World) : NodeV w noneT zNdV := .mk (op := 0) (n := 0) (ts := []) (A := none) (c := 0) (vs := []) (by decide) rfl (Cells.nil _ _) (fun i t u h => by simp at h) (Nat.le_refl _) (by unfold lenMax; decide)
theorem check_none {sy : Int} (h1 : 1 ≤ sy) (h2 : sy ≤ 16) : checkX sy noneT = 0 := by
  unfold checkX
  have hc : cntT noneT = 1 := by simp [noneT, cntT, cntTs]
  have hv : valT sy noneT = true := by simp [noneT, valT, valTs, ownV, subT]
  rw [hc, hv, if_neg (by omega), if_neg (by simp; omega)]
theorem node_nil (w : World) (o : Nat) : Calls Tryd.prog 32 #[.int .u8 (o : Int), .slice none 0 0] w (fun e w' => e = .returned (.agg #[.int .u8 (o : Int), .int .i64 0, .slice none 0 0]) ∧ Ext w w') := by
  go_enter Tryd.func32, Tryd.ntmps32
  go_upto_region 1 with fail
  refine wp_named ?_
  intro W1 hW1
  have hE1 : Ext w W1 := by rw [hW1]; exact alloc_ext _ _
  have hB : W1.heap[w.heap.size]? = some (.cells #[.int .u8 0, .int .i64 0, .slice none 0 0] 35) := by rw [hW1]; exact heap_alloc_new _ _
  clear hW1
  go_wp2_with (with_reducible refine wpList_store_blk _ rfl 35 _ _ rfl w.heap.size 35 #[.int .u8 (o : Int), .int .i64 0, .slice none 0 0] _ rfl rfl hB (by kernel_rfl) (by kernel_rfl) (by kernel_rfl) ?_; intro w10 h10 g10)
  refine bodyPost_ret (results_cell_row rfl _ _ w.heap.size 35 _ (0, 0) _ (by simp [Act.put]) h10 Tryd.underlying35 rfl (by kernel_rfl)) rfl ?_
  exact ⟨by simp [Act.put], Below.grown hE1 g10 hE1.size (fun k hk => by cases hk; exact Nat.le_refl _)⟩
set_option maxRecDepth 100000 in
theorem same_zero (w : World) : Calls Tryd.prog 19 #[zNdV, zNdV] w (fun e w' => e = .returned (.int .i64 1) ∧ Ext w w') := by
  go_enter Tryd.func19, Tryd.ntmps19
  go_upto_region 1 with fail
  refine wp_named ?_
  intro W1 hW1
  have hE1 : Ext w W1 := by rw [hW1]; exact (alloc_ext _ _).trans (alloc_ext _ _)
  have hB : W1.heap[w.heap.size]? = some (.cells #[.int .u8 0, .int .i64 0, .slice none 0 0] 35) := by rw [hW1]; exact heap_ext (alloc_ext _ _) (heap_alloc_new _ _)
  have hC : W1.heap[w.heap.size + 1]? = some (.cells #[.int .u8 0, .int .i64 0, .slice none 0 0] 35) := by rw [hW1]; exact heap_new2 _ _ _
  have a0 := cell_of_blk hB 0 (u := .int .u8 0) rfl
  have a1 := cell_of_blk hB 1 (u := .int .i64 0) rfl
  have a2 := cell_of_blk hB 2 (u := .slice none 0 0) rfl
  have b0 := cell_of_blk hC 0 (u := .int .u8 0) rfl
  have b1 := cell_of_blk hC 1 (u := .int .i64 0) rfl
  have b2 := cell_of_blk hC 2 (u := .slice none 0 0) rfl
  have HE1 := Lib.hid hE1
  clear hW1 hB hC hE1
  go_wp2
  go_loopw [5] (fun iv wr => iv = .int .i64 0 ∧ wr = W1) (fun iv _ => 0)
  case atStart => exact ⟨by first | rfl | simp, rfl⟩
  case round =>
    obtain ⟨rfl, rfl⟩ := hrel
    go_wp2
    go_ret
    exact ⟨rfl, HE1.out⟩
end Go.Proofs.YtmebgomnmlbgnaaDoor

namespace Go.Proofs.YtmebgomnmlbgnaaDoor
open Go.RowKit Go.Maps
set_option linter.unusedVariables false
set_option linter.unusedSimpArgs false
attribute [local go_sem] Oper.quietV quietV Oper.gives givesV ext_refl_iff ext_alloc_iff ext_drew_iff ext_drewN_iff
set_option maxRecDepth 100000 in
set_option maxHeartbeats 16000000 in
theorem RegexesErrors_any {sy : Int} {t : Tr} {w : World} {v wv : Value} {ws : List Int} {cw : Nat} (hN : NodeV w t v) (hI : IntsC w wv ws cw) (hT : Tabs w) : Calls Tryd.prog 8 #[v, .int .i64 sy, wv] w (LivP w) := by
  obtain ⟨-, A, c, -, rfl, -⟩ := hN.form
  obtain ⟨Aw, rfl, -, -, hwm⟩ := id hI
  unfold lenMax at hwm
  have HK := Lib.hid (And.intro hN (And.intro hI hT))
  obtain ⟨er, her⟩ : ∃ er, er = checkX sy t := ⟨_, rfl⟩
  obtain ⟨nb, hnb⟩ : ∃ q, q = min (cntT t : Int) (100 + 1) := ⟨_, rfl⟩
  have hgr := fun w1 (e : Ext w w1) => count_anyG (m := 100) (hN.ext e) (by omega) (by omega)
  have hrc := fun w1 (e : Ext w w1) => refCheck_any (sy := sy) (hN.ext e)
  have hck := fun w1 (e : Ext w w1) => check_any (sy := sy) (hN.ext e) (hT.ext e)
  unfold ErrP at hgr hrc hck
  rw [← hnb] at hgr
  rw [← her] at hrc hck
  have HER := Lib.hid her
  have HC := Lib.hid (And.intro hgr (And.intro hrc hck))
  clear hnb her hgr hrc hck
  have HV : Hid (∃ o n l, o = t.op ∧ n = t.n ∧ l = t.subs.length) := Lib.hid ⟨_, _, _, rfl, rfl, rfl⟩
  obtain ⟨o, ho⟩ : ∃ o, o = t.op := ⟨_, rfl⟩
  obtain ⟨n, hn⟩ : ∃ o, o = t.n := ⟨_, rfl⟩
  obtain ⟨l, hl⟩ : ∃ o, o = t.subs.length := ⟨_, rfl⟩
  rw [← ho, ← hn, ← hl] at HK HC ⊢
  clear HV ho hn hl hN hI hT
  have hlv := fun w1 (e : Ext w w1) => lives_any w1 (HK.out.2.2.ext e)
  unfold LivP at hlv
  have HLV := Lib.hid hlv
  clear hlv
  go_enter Tryd.func8, Tryd.ntmps8
  go_upto_region 1 with fail
  refine wp_named ?_
  intro W1 hW1
  have hE1 : Ext w W1 := by rw [hW1]; exact alloc_ext _ _
  have hB : W1.heap[w.heap.size]? = some (.cells #[.int .u8 (o : Int), .int .i64 n, .slice A l c] 35) := by rw [hW1]; exact heap_alloc_new _ _
  have k0 := fun w' (e : Ext W1 w') => e.cell (cell_of_blk hB 0 (u := .int .u8 (o : Int)) rfl)
  have k1 := fun w' (e : Ext W1 w') => e.cell (cell_of_blk hB 1 (u := .int .i64 n) rfl)
  have k2 := fun w' (e : Ext W1 w') => e.cell (cell_of_blk hB 2 (u := .slice A l c) rfl)
  have HE1 := Lib.hid hE1
  have hgr := fun w1 (e : Ext W1 w1) => HC.out.1 w1 (hE1.trans e)
  have hrc := fun w1 (e : Ext W1 w1) => HC.out.2.1 w1 (hE1.trans e)
  have hck := fun w1 (e : Ext W1 w1) => HC.out.2.2 w1 (hE1.trans e)
  have hlv := fun w1 (e : Ext W1 w1) => HLV.out w1 (hE1.trans e)
  have hx := Ext.refl W1
  clear hW1 hB hE1 HLV
  generalize w.heap.size = b3 at *
  by_cases hbig : 100 < nb
  · clear hrc hck
    go_wp2_with (first
      | ((with_reducible refine (hgr _ hx).mono ?_); rintro e Wn ⟨rfl, en⟩; have hx := hx.trans en; clear en)
      | ((with_reducible refine (hlv _ hx).mono ?_); rintro e Wn ⟨rfl, en⟩; have hx := hx.trans en; clear en))
    go_ret
    exact ⟨rfl, HE1.out.trans hx⟩
  by_cases hwl : 300 < (ws.length : Int)
  · clear hrc hck
    go_wp2_with (first
      | ((with_reducible refine (hgr _ hx).mono ?_); rintro e Wn ⟨rfl, en⟩; have hx := hx.trans en; clear en)
      | ((with_reducible refine (hlv _ hx).mono ?_); rintro e Wn ⟨rfl, en⟩; have hx := hx.trans en; clear en))
    go_ret
    exact ⟨rfl, HE1.out.trans hx⟩
  go_upto_region 6 with (first
    | ((with_reducible refine (hgr _ hx).mono ?_); rintro e Wn ⟨rfl, en⟩; have hx := hx.trans en; clear en)
    | ((with_reducible refine (hrc _ hx).mono ?_); rintro e Wn ⟨rfl, en⟩; have hx := hx.trans en; clear en)
    | ((with_reducible refine (hck _ hx).mono ?_); rintro e Wn ⟨rfl, en⟩; have hx := hx.trans en; clear en))
  clear hgr hrc hck
  have hW := fun w1 (e : Ext W1 w1) => (HK.out.2.1.ext (HE1.out.trans e))
  have hTT := fun w1 (e : Ext W1 w1) => (HK.out.2.2.ext (HE1.out.trans e))
  have hND := fun w1 (e : Ext W1 w1) => (HK.out.1.ext (HE1.out.trans e))
  have HALL := Lib.hid (And.intro hW (And.intro hTT hND))
  clear hW hTT hND
  by_cases her0 : er = 0
  · subst her0
    obtain ⟨bd, hbd⟩ : ∃ b, b = wordC ws sy := ⟨_, rfl⟩
    obtain ⟨mb, hmb, hm⟩ : ∃ mb : Bool, (bd = 0 ∨ mb = false) ∧ ∀ w1, Ext W1 w1 → Calls Tryd.prog 23 #[.agg #[.int .u8 (o : Int), .int .i64 n, .slice A l c], .int .i64 sy, .slice Aw ws.length cw] w1 (fun e w' => e = .returned (.tuple #[.bool mb, .int .i64 bd]) ∧ Ext w1 w') := by
      obtain ⟨m, r, h0, h1, h2, h3, h4, h5⟩ := rx_of_check HER.out.symm
      by_cases hb0 : bd = 0
      · refine ⟨matR ws r, .inl hb0, fun w1 e => ?_⟩
        rw [hb0, h0]
        exact matches_ok (by rw [h3]; exact HALL.out.2.2 w1 e) (HALL.out.2.1 w1 e) (HALL.out.1 w1 e) h1 h2 h4 h5 (by rw [← h0, ← hbd]; exact hb0)
      · refine ⟨false, .inr rfl, fun w1 e => ?_⟩
        exact matches_word (HALL.out.2.2 w1 e) (HALL.out.2.1 w1 e) (HALL.out.1 w1 e) (by omega) (by omega) HER.out.symm hbd.symm hb0
    have hwd := fun w1 (e : Ext W1 w1) => refWord_any w1 _ ws cw sy (HALL.out.1 w1 e)
    rw [← hbd] at hwd
    clear hbd
    by_cases hb0 : bd = 0
    · subst hb0
      clear hmb
      go_wp2_with (first
        | ((with_reducible refine (hm _ hx).mono ?_); rintro e Wn ⟨rfl, en⟩; have hx := hx.trans en; clear en)
        | ((with_reducible refine (hwd _ hx).mono ?_); rintro e Wn ⟨rfl, rfl⟩)
        | ((with_reducible refine (hlv _ hx).mono ?_); rintro e Wn ⟨rfl, en⟩; have hx := hx.trans en; clear en))
      go_ret
      exact ⟨rfl, HE1.out.trans hx⟩
    · have hmf : mb = false := hmb.resolve_left hb0
      subst hmf
      have hb1 : (bd == 0) = false := by simpa using hb0
      have hb2 : (bd == bd) = true := by simp
      clear hb0 hmb
      go_wp2_with (first
        | ((with_reducible refine (hm _ hx).mono ?_); rintro e Wn ⟨rfl, en⟩; have hx := hx.trans en; clear en)
        | ((with_reducible refine (hwd _ hx).mono ?_); rintro e Wn ⟨rfl, rfl⟩)
        | ((with_reducible refine (hlv _ hx).mono ?_); rintro e Wn ⟨rfl, en⟩; have hx := hx.trans en; clear en))
      go_ret
      exact ⟨rfl, HE1.out.trans hx⟩
  · have he1 : (er == 0) = false := by simpa using her0
    have he2 : (er == er) = true := by simp
    have hm := fun w1 (e : Ext W1 w1) => matches_bad (HALL.out.2.2 w1 e) (HALL.out.2.1 w1 e) (HALL.out.1 w1 e) HER.out.symm her0
    have htx := fun w1 (e : Ext W1 w1) => text_bad (HALL.out.2.2 w1 e) (HALL.out.2.1 w1 e) HER.out.symm her0
    have hnu := fun w1 (e : Ext W1 w1) => nullable_bad (HALL.out.2.2 w1 e) (HALL.out.2.1 w1 e) HER.out.symm her0
    have hde := fun w1 (e : Ext W1 w1) => derive_bad (a := 0) (HALL.out.2.2 w1 e) (HALL.out.2.1 w1 e) HER.out.symm her0
    have htd := fun w1 (e : Ext W1 w1) => todfa_bad (HALL.out.2.2 w1 e) (HALL.out.2.1 w1 e) HER.out.symm her0
    have heq := fun w1 (e : Ext W1 w1) => equal_bad1 (HALL.out.2.2 w1 e) (none_node w1) (HALL.out.2.1 w1 e) HER.out.symm her0
    have heq2 := fun (h1 : 1 ≤ sy) (h2 : sy ≤ 16) w1 (e : Ext W1 w1) => equal_bad2 (none_node w1) (HALL.out.2.2 w1 e) (HALL.out.2.1 w1 e) (check_none h1 h2) ⟨HER.out.symm, her0⟩
    unfold PairP at hm htx hnu htd heq heq2
    unfold NonP at hde
    have HEQ := Lib.hid (And.intro heq heq2)
    clear heq heq2 her0
    go_upto_region 13 with (first
      | ((with_reducible refine (hm _ hx).mono ?_); rintro e Wn ⟨rfl, en⟩; have hx := hx.trans en; clear en)
      | ((with_reducible refine (htx _ hx).mono ?_); rintro e Wn ⟨rfl, en⟩; have hx := hx.trans en; clear en)
      | ((with_reducible refine (hnu _ hx).mono ?_); rintro e Wn ⟨rfl, en⟩; have hx := hx.trans en; clear en)
      | ((with_reducible refine (hde _ hx).mono ?_); rintro e Wn ⟨rfl, en⟩; have hx := hx.trans en; clear en))
    refine wp_named ?_
    intro Wa hWa
    obtain ⟨Wp, hWp⟩ : ∃ W, W = Wn := ⟨_, rfl⟩
    rw [← hWp] at hWa hx ⊢
    have hxa : Ext W1 Wa := by rw [hWa]; exact hx.trans (alloc_ext _ _)
    have hda : Wa.heap[Wp.heap.size]? = some zNd := by rw [hWa]; exact heap_alloc_new Wp zNd
    obtain ⟨b15, hb15⟩ : ∃ b, b = Wp.heap.size := ⟨_, rfl⟩
    rw [← hb15] at hda ⊢
    have q0 := fun w' (e : Ext Wa w') => e.cell (cell_of_blk hda 0 (u := .int .u8 0) rfl)
    have q1 := fun w' (e : Ext Wa w') => e.cell (cell_of_blk hda 1 (u := .int .i64 0) rfl)
    have q2 := fun w' (e : Ext Wa w') => e.cell (cell_of_blk hda 2 (u := .slice none 0 0) rfl)
    have k0 := fun w' (e : Ext Wa w') => k0 w' (hxa.trans e)
    have k1 := fun w' (e : Ext Wa w') => k1 w' (hxa.trans e)
    have k2 := fun w' (e : Ext Wa w') => k2 w' (hxa.trans e)
    have htd := fun w' (e : Ext Wa w') => htd w' (hxa.trans e)
    have hlv := fun w' (e : Ext Wa w') => hlv w' (hxa.trans e)
    have HEQ := Lib.hid (And.intro (fun w' (e : Ext Wa w') => HEQ.out.1 w' (hxa.trans e)) (fun h1 h2 w' (e : Ext Wa w') => HEQ.out.2 h1 h2 w' (hxa.trans e)))
    have HE1 := Lib.hid (HE1.out.trans hxa)
    clear hWa hx hxa hda hb15 hWp hm htx hnu hde
    have hx := Ext.refl Wa
    go_upto_region 14 with ((with_reducible refine (htd _ hx).mono ?_); rintro e Wn ⟨rfl, en⟩; have hx := hx.trans en; clear en)
    refine wp_named ?_
    intro Wb hWb
    obtain ⟨Wp, hWp⟩ : ∃ W, W = Wn := ⟨_, rfl⟩
    rw [← hWp] at hWb hx ⊢
    have hxa : Ext Wa Wb := by rw [hWb]; exact hx.trans (alloc_ext _ _)
    have hda : Wb.heap[Wp.heap.size]? = some zDfa := by rw [hWb]; exact heap_alloc_new Wp zDfa
    obtain ⟨b17, hb17⟩ : ∃ b, b = Wp.heap.size := ⟨_, rfl⟩
    rw [← hb17] at hda ⊢
    have p1 := fun w' (e : Ext Wb w') => e.cell (cell_of_blk hda 1 (u := .slice none 0 0) rfl)
    have q0 := fun w' (e : Ext Wb w') => q0 w' (hxa.trans e)
    have q1 := fun w' (e : Ext Wb w') => q1 w' (hxa.trans e)
    have q2 := fun w' (e : Ext Wb w') => q2 w' (hxa.trans e)
    have k0 := fun w' (e : Ext Wb w') => k0 w' (hxa.trans e)
    have k1 := fun w' (e : Ext Wb w') => k1 w' (hxa.trans e)
    have k2 := fun w' (e : Ext Wb w') => k2 w' (hxa.trans e)
    have hlv := fun w' (e : Ext Wb w') => hlv w' (hxa.trans e)
    have HEQ := Lib.hid (And.intro (fun w' (e : Ext Wb w') => HEQ.out.1 w' (hxa.trans e)) (fun h1 h2 w' (e : Ext Wb w') => HEQ.out.2 h1 h2 w' (hxa.trans e)))
    have HE1 := Lib.hid (HE1.out.trans hxa)
    clear hWb hx hxa hda hb17 hWp htd
    have hx := Ext.refl Wb
    have HLV := Lib.hid hlv
    clear hlv
    refine wp_region_ext 8 (factsOf [(1, fun v _ => v = zNdV), (3, fun v _ => v = .tuple #[.bool false, .int .i64 er])]) (fun k => ([[], [], [], [0, 1, 2], [0, 1, 2, 3], [0, 1, 2, 3, 4], [0, 1, 2, 3, 4], [0, 1, 2, 3, 4, 5], [0, 1, 2, 3, 4, 5, 6, 7]] : List (List Nat)).getD k []) (by kernel_rfl) (by kernel_rfl) Ext.pre (mono_cons (stays_eq _) (mono_cons (stays_eq _) (mono_nil))) ?_
    simp only [List.take_succ_cons, List.take_zero]
    with_reducible refine lexL_quiet' (v := ?_) ?_ ?_ ?_ ?_; rotate_left; (· with_reducible rfl); (· simp [factsOf]); (· intro w1 hw1 _; go_simp; with_reducible rfl); (try simp only [Act.put, List.setIfInBounds_toArray, List.set_cons_zero, List.set_cons_succ])
    with_reducible refine lexL_give' (φ := ?_) ?_ ?_ ?_ ?_; rotate_left; (· with_reducible rfl); (· simp only [factsOf, Nat.reduceAdd, ↓reduceIte, Nat.reduceEqDiff]; rfl)
    · intro w5 hw5 _
      go_simp
      refine (node_nil w5 0).mono ?_
      rintro e w6 ⟨rfl, e6⟩
      exact ⟨_, rfl, e6, rfl⟩
    rintro v1 w5 hw5 rfl hk2
    clear hk2 hw5 w5
    (try simp only [Act.put, List.setIfInBounds_toArray, List.set_cons_zero, List.set_cons_succ])
    with_reducible refine lexL_quiet' (v := ?_) ?_ ?_ ?_ ?_; rotate_left; (· with_reducible rfl); (· simp [factsOf]); (· intro w1 hw1 _; go_simp; with_reducible rfl); (try simp only [Act.put, List.setIfInBounds_toArray, List.set_cons_zero, List.set_cons_succ])
    with_reducible refine lexL_give' (φ := ?_) ?_ ?_ ?_ ?_; rotate_left; (· with_reducible rfl); (· simp only [factsOf, Nat.reduceAdd, ↓reduceIte, Nat.reduceEqDiff]; rfl)
    · intro w5 hw5 _
      go_simp
      refine (HEQ.out.1 w5 hw5).mono ?_
      rintro e w6 ⟨rfl, e6⟩
      exact ⟨_, rfl, e6, rfl⟩
    rintro v3 w5 hw5 rfl hk2
    clear hk2 hw5 w5
    (try simp only [Act.put, List.setIfInBounds_toArray, List.set_cons_zero, List.set_cons_succ])
    repeat (first | (with_reducible refine lexL_quiet' (v := ?_) ?_ ?_ ?_ ?_; rotate_left; (· with_reducible rfl); (· simp [factsOf]); (· intro w1 hw1 _; go_simp; with_reducible rfl); (try simp only [Act.put, List.setIfInBounds_toArray, List.set_cons_zero, List.set_cons_succ])) | (with_reducible refine lexL_skip ?_ ?_; (· simp [Region.wanted, yielded, undef]); (try simp only [Act.put, List.setIfInBounds_toArray, List.set_cons_zero, List.set_cons_succ])) | (with_reducible refine lexL_quiet (v := ?_) ?_ ?_ ?_ ?_; rotate_left; (· simp [Region.wanted, yielded, undef]); (· simp [factsOf]); (· intro w1 hw1 _; go_simp; with_reducible rfl); (try simp only [Act.put, List.setIfInBounds_toArray, List.set_cons_zero, List.set_cons_succ])))
    with_reducible refine lexL_nil ?_; intro w1 hw1 hk1; simp only [List.drop_succ_cons, List.drop_zero]
    clear hx hk1
    have hx := hw1
    clear hw1
    by_cases hs : 1 ≤ sy ∧ sy ≤ 16
    · have hs1 : (0 : Int) < sy := by omega
      have hs2 : sy < 17 := by omega
      have HEQ2 := Lib.hid (HEQ.out.2 hs.1 hs.2)
      clear hs
      go_upto_region 17 with fail
      have k0 := fun w' (e : Ext w1 w') => k0 w' (hx.trans e)
      have k1 := fun w' (e : Ext w1 w') => k1 w' (hx.trans e)
      have k2 := fun w' (e : Ext w1 w') => k2 w' (hx.trans e)
      have HX := Lib.hid hx
      clear hx
      refine wp_region_ext 8 (factsOf [(0, fun v _ => v = zNdV), (3, fun v _ => v = .tuple #[.bool false, .int .i64 er])]) (fun k => ([[], [], [], [0, 1, 2], [0, 1, 2, 3], [0, 1, 2, 3, 4], [0, 1, 2, 3, 4], [0, 1, 2, 3, 4, 5], [0, 1, 2, 3, 4, 5, 6, 7]] : List (List Nat)).getD k []) (by kernel_rfl) (by kernel_rfl) Ext.pre (mono_cons (stays_eq _) (mono_cons (stays_eq _) (mono_nil))) ?_
      simp only [List.take_succ_cons, List.take_zero]
      with_reducible refine lexL_give' (φ := ?_) ?_ ?_ ?_ ?_; rotate_left; (· with_reducible rfl); (· simp only [factsOf, Nat.reduceAdd, ↓reduceIte, Nat.reduceEqDiff]; rfl)
      · intro w5 hw5 _
        go_simp
        refine (node_nil w5 0).mono ?_
        rintro e w6 ⟨rfl, e6⟩
        exact ⟨_, rfl, e6, rfl⟩
      rintro v1 w5 hw5 rfl hk2
      clear hk2 hw5 w5
      (try simp only [Act.put, List.setIfInBounds_toArray, List.set_cons_zero, List.set_cons_succ])
      with_reducible refine lexL_quiet' (v := ?_) ?_ ?_ ?_ ?_; rotate_left; (· with_reducible rfl); (· simp [factsOf]); (· intro w1 hw1 _; go_simp; with_reducible rfl); (try simp only [Act.put, List.setIfInBounds_toArray, List.set_cons_zero, List.set_cons_succ])
      with_reducible refine lexL_quiet' (v := ?_) ?_ ?_ ?_ ?_; rotate_left; (· with_reducible rfl); (· simp [factsOf]); (· intro w1 hw1 _; go_simp; with_reducible rfl); (try simp only [Act.put, List.setIfInBounds_toArray, List.set_cons_zero, List.set_cons_succ])
      with_reducible refine lexL_give' (φ := ?_) ?_ ?_ ?_ ?_; rotate_left; (· with_reducible rfl); (· simp only [factsOf, Nat.reduceAdd, ↓reduceIte, Nat.reduceEqDiff]; rfl)
      · intro w5 hw5 _
        go_simp
        refine (HEQ2.out w5 (HX.out.trans hw5)).mono ?_
        rintro e w6 ⟨rfl, e6⟩
        exact ⟨_, rfl, e6, rfl⟩
      rintro v3 w5 hw5 rfl hk2
      clear hk2 hw5 w5
      (try simp only [Act.put, List.setIfInBounds_toArray, List.set_cons_zero, List.set_cons_succ])
      repeat (first | (with_reducible refine lexL_quiet' (v := ?_) ?_ ?_ ?_ ?_; rotate_left; (· with_reducible rfl); (· simp [factsOf]); (· intro w1 hw1 _; go_simp; with_reducible rfl); (try simp only [Act.put, List.setIfInBounds_toArray, List.set_cons_zero, List.set_cons_succ])) | (with_reducible refine lexL_skip ?_ ?_; (· simp [Region.wanted, yielded, undef]); (try simp only [Act.put, List.setIfInBounds_toArray, List.set_cons_zero, List.set_cons_succ])) | (with_reducible refine lexL_quiet (v := ?_) ?_ ?_ ?_ ?_; rotate_left; (· simp [Region.wanted, yielded, undef]); (· simp [factsOf]); (· intro w1 hw1 _; go_simp; with_reducible rfl); (try simp only [Act.put, List.setIfInBounds_toArray, List.set_cons_zero, List.set_cons_succ])))
      with_reducible refine lexL_nil ?_; intro w1 hw1 hk1; simp only [List.drop_succ_cons, List.drop_zero]
      have hx := HX.out.trans hw1
      clear hw1 hk1 k0 k1 k2
      have hlv := HLV.out
      go_wp2_with (first
        | ((with_reducible refine (same_zero _).mono ?_); rintro e Wn ⟨rfl, en⟩; have hx := hx.trans en; clear en)
        | ((with_reducible refine (hlv _ hx).mono ?_); rintro e Wn ⟨rfl, en⟩; have hx := hx.trans en; clear en))
      go_ret
      exact ⟨rfl, HE1.out.trans hx⟩
    · have hlv := HLV.out
      by_cases hs1 : (0 : Int) < sy
      · have hs2 : ¬ sy < 17 := by omega
        clear hs
        go_wp2_with (first
          | ((with_reducible refine (same_zero _).mono ?_); rintro e Wn ⟨rfl, en⟩; have hx := hx.trans en; clear en)
          | ((with_reducible refine (hlv _ hx).mono ?_); rintro e Wn ⟨rfl, en⟩; have hx := hx.trans en; clear en))
        go_ret
        exact ⟨rfl, HE1.out.trans hx⟩
      · clear hs
        go_wp2_with (first
          | ((with_reducible refine (same_zero _).mono ?_); rintro e Wn ⟨rfl, en⟩; have hx := hx.trans en; clear en)
          | ((with_reducible refine (hlv _ hx).mono ?_); rintro e Wn ⟨rfl, en⟩; have hx := hx.trans en; clear en))
        go_ret
        exact ⟨rfl, HE1.out.trans hx⟩
end Go.Proofs.YtmebgomnmlbgnaaDoor
