/- ref27.Verdict 30: what it answers. -/
import Derived.Test.YtamodjlifpjaoaaDoorY2
import Derived.Test.YtamodjlifpjaoaaDoorX4
namespace Go.Proofs.YtamodjlifpjaoaaDoor
open Go.RowKit
set_option linter.unusedVariables false
set_option linter.unusedSimpArgs false
attribute [local go_sem] Oper.quietV quietV Oper.gives givesV ext_refl_iff ext_alloc_iff ext_drew_iff ext_drewN_iff
theorem runs_any (x : Lts) (L : List Nd) (hg : Good x) (hR : RightT x.ins x.outs L) (hL : L.length ≤ 1024) : ∀ n, RunsS x L n
  | 0 => fun W v nv sv tv k S cn cs ct u _ _ _ _ _ hk hkn _ _ => absurd hk (by omega)
  | n + 1 => runs_step x L hg hR hL n (runs_any x L hg hR hL n)
def bestI (R : List (List Int)) (i : Nat) : List Int := (R.take i).foldl stepB (R.getD 0 [])
theorem bestI_all (R : List (List Int)) : bestI R R.length = bestL R := by unfold bestI bestL; rw [List.take_length]
theorem bestI_step {R : List (List Int)} {i : Nat} {r : List Int} (h : R[i]? = some r) : bestI R (i + 1) = stepB (bestI R i) r := by
  have hi := (List.getElem?_eq_some_iff.1 h).1
  unfold bestI
  rw [List.take_add_one, h, List.foldl_append]
  rfl
theorem bestI_zero (R : List (List Int)) : bestI R 0 = R.getD 0 [] := rfl
set_option maxRecDepth 100000 in
set_option maxHeartbeats 16000000 in
theorem refVerdict_any (w : World) (v nv : Value) (x : Lts) (L : List Nd) (cn : Nat) (hd : LtsV w v x) (hg : Good x) (hR : RightT x.ins x.outs L) (hN : NodesC w nv L cn) (hL : L.length ≤ 1024) (hlen : (runsL x L L.length 0 (begM x) []).length ≤ 1000) :
    Calls Tryd.prog 30 #[v, nv] w fun e w' => ∃ rv c, e = .returned (.tuple #[.int .i64 (refVerd x L).1, rv]) ∧ IntsC w' rv (refVerd x L).2 c ∧ Ext w w' := by
  obtain ⟨A, c, rfl, hr, hrl⟩ := id hd.form
  have hbg := fun W (e : Ext w W) => refBegin_any W _ x (hd.ext e) hg
  have hrs := fun W sv cs (e : Ext w W) hs => runs_any x L hg hR hL L.length W _ nv sv (.slice none 0 0) 0 (begM x) cn cs 0 [] (hd.ext e) (hN.ext e) (begM_lt hg) hs ⟨none, rfl, fun h => by simp at h, Nat.le_refl _, by unfold lenMax; simp⟩ hR.pos (Nat.le_refl _) (by simp; omega) hlen
  have HL := Lib.hid hlen
  obtain ⟨An, Mn, _, rfl, _⟩ := id hN
  clear hd hN hr hrl hlen
  go_enter Tryd.func30, Tryd.ntmps30
  go_upto_region 1 with fail
  refine wp_named ?_
  intro W1 hW1
  obtain ⟨hE1, k0, k1, k2⟩ := lts_box (x := x) (A := A) (c := c) hW1
  clear hW1
  generalize w.heap.size = b1 at *
  have hE0 := Ext.refl W1
  refine wp_region_ext 4 (factsOf [(3, BegP (begM x))]) (fun k => ([[], [], [], [2], [0, 1, 2, 3], [0, 1, 2, 3, 4]] : List (List Nat)).getD k []) (by kernel_rfl) (by kernel_rfl) Ext.pre (mono_cons (stays_begP _) (mono_nil)) ?_
  simp only [List.take_succ_cons, List.take_zero]
  repeat (first | (with_reducible refine lexL_quiet' (v := ?_) ?_ ?_ ?_ ?_; rotate_left; (· with_reducible rfl); (· simp [factsOf]); (· intro w1 hw1 _; go_simp; with_reducible rfl); (try simp only [Act.put, List.setIfInBounds_toArray, List.set_cons_zero, List.set_cons_succ])) | (with_reducible refine lexL_skip ?_ ?_; (· simp [Region.wanted, yielded, undef]); (try simp only [Act.put, List.setIfInBounds_toArray, List.set_cons_zero, List.set_cons_succ])) | (with_reducible refine lexL_quiet (v := ?_) ?_ ?_ ?_ ?_; rotate_left; (· simp [Region.wanted, yielded, undef]); (· simp [factsOf]); (· intro w1 hw1 _; go_simp; with_reducible rfl); (try simp only [Act.put, List.setIfInBounds_toArray, List.set_cons_zero, List.set_cons_succ])))
  with_reducible refine lexL_give' (φ := ?_) ?_ ?_ ?_ ?_; rotate_left; (· with_reducible rfl); (· simp only [factsOf, Nat.reduceAdd, ↓reduceIte, Nat.reduceEqDiff]; rfl)
  · intro w5 hw5 _
    go_simp
    refine (hbg w5 (hE1.trans hw5)).mono ?_
    rintro e w6 ⟨rv, c, rfl, hi, e6⟩
    obtain ⟨A9, rfl, h9⟩ := id hi
    exact ⟨_, rfl, e6, A9, c, rfl, hi⟩
  rintro v9 w5 hw5 ⟨A9, c9, rfl, h9⟩ hk2
  clear hk2 h9 hw5 w5
  (try simp only [Act.put, List.setIfInBounds_toArray, List.set_cons_zero, List.set_cons_succ])
  repeat (first | (with_reducible refine lexL_quiet' (v := ?_) ?_ ?_ ?_ ?_; rotate_left; (· with_reducible rfl); (· simp [factsOf]); (· intro w1 hw1 _; go_simp; with_reducible rfl); (try simp only [Act.put, List.setIfInBounds_toArray, List.set_cons_zero, List.set_cons_succ])) | (with_reducible refine lexL_skip ?_ ?_; (· simp [Region.wanted, yielded, undef]); (try simp only [Act.put, List.setIfInBounds_toArray, List.set_cons_zero, List.set_cons_succ])) | (with_reducible refine lexL_quiet (v := ?_) ?_ ?_ ?_ ?_; rotate_left; (· simp [Region.wanted, yielded, undef]); (· simp [factsOf]); (· intro w1 hw1 _; go_simp; with_reducible rfl); (try simp only [Act.put, List.setIfInBounds_toArray, List.set_cons_zero, List.set_cons_succ])))
  with_reducible refine lexL_nil ?_; intro w1 hw1 hk1; simp only [List.drop_succ_cons, List.drop_zero]
  obtain ⟨A9', c9', hv9, hi9⟩ := hk1.get 3 rfl rfl
  injection hv9 with hvA _ hvc
  subst hvA hvc
  have hrs1 : Calls Tryd.prog 55 #[.agg #[.int .i64 x.ins, .int .i64 x.outs, .slice A x.rows.length c], .slice An L.length cn, .int .i64 0, .slice A9 (memI (begM x)).length c9, .slice none 0 0] w1 (RunsP w1 (.slice none 0 0) (runsL x L L.length 0 (begM x) [])) := hrs w1 _ _ (hE1.trans hw1) hi9
  have HE1 := Lib.hid (hE1.trans hw1)
  obtain ⟨R, hRR⟩ : ∃ R, R = runsL x L L.length 0 (begM x) [] := ⟨_, rfl⟩
  have HV : Hid (refVerd x L = if R.length = 0 then (1, []) else (0, bestL R)) := Lib.hid (by rw [hRR]; rfl)
  rw [← hRR] at hrs1 HL
  clear hrs hbg hk1 hi9 hw1 hE1 hRR hE0 k0 k1 k2
  go_upto_region 2 with ((with_reducible refine hrs1.mono ?_); rintro e W2 ⟨A2, c2, vs, rfl, hc2, hl2, _, hle2, _, e2⟩)
  have HE2 := Lib.hid (HE1.out.trans e2)
  clear hrs1 e2
  have hE2 := Ext.refl W2
  by_cases h0 : R.length = 0
  · have g0 : ((R.length : Int) == 0) = true := by simp [h0]
    have HR : Hid (refVerd x L = (1, [])) := Lib.hid (by rw [HV.out, if_pos h0])
    clear h0
    go_wp2
    refine bodyPost_ret (results_tmp2 rfl _ _ _) rfl ?_
    rw [HR.out]
    exact ⟨_, 0, rfl, ⟨none, rfl, fun h => by simp at h, Nat.le_refl _, by unfold lenMax; simp⟩, HE2.out⟩
  have g0 : ((R.length : Int) == 0) = false := by simp [h0]
  have HR : Hid (refVerd x L = (0, bestL R)) := Lib.hid (by rw [HV.out, if_neg h0])
  have hpos : 0 < R.length := by omega
  obtain ⟨bC, oC, rfl, hbC, hceC⟩ := hc2 (by rw [hl2.1]; exact hpos)
  obtain ⟨u0, hu0⟩ : ∃ u, vs[0]? = some u := ⟨_, List.getElem?_eq_getElem (by rw [hl2.1]; exact hpos)⟩
  obtain ⟨r0, hr0⟩ : ∃ r, R[0]? = some r := ⟨_, List.getElem?_eq_getElem hpos⟩
  obtain ⟨cu0, hi0⟩ := hl2.2 0 u0 r0 hu0 hr0
  have c0 : ∀ w', Ext W2 w' → w'.cell? ⟨bC, oC, none⟩ = some u0 := fun w' h => h.cell (by have := hceC 0 u0 hu0; simpa using this)
  have HI0 : Hid (IntsC W2 u0 (bestI R 0) cu0) := Lib.hid (by rw [bestI_zero, List.getD_eq_getElem?_getD, hr0]; exact hi0)
  have HC := Lib.hid (And.intro hceC hl2)
  obtain ⟨Au0, rfl, _⟩ := id hi0
  clear h0 hu0 hr0 hi0 hceC hl2 hc2
  have hposI : (0 : Int) < (R.length : Int) := by omega
  go_wp2
  go_loopw [8, 7] (fun iv bv wr => ∃ (i c : Nat), iv = .int .i64 i ∧ i ≤ R.length ∧ Hid (IntsC wr bv (bestI R i) c) ∧ Ext W2 wr) (fun iv _ _ => R.length - (intOf iv).toNat)
  case atStart => exact ⟨0, cu0, rfl, by omega, HI0, Ext.refl _⟩
  case round =>
    clear c0 hE2
    obtain ⟨i, cb, rfl, hi, HB, hE⟩ := hrel
    obtain ⟨W5, hW5⟩ : ∃ W, W = wr := ⟨_, rfl⟩; subst hW5
    obtain ⟨Ab, hbv, _⟩ := id HB.out
    subst hbv
    have hE5 := Ext.refl W5
    have hRl := HL.out
    by_cases hlt : i < R.length
    · obtain ⟨u, hu⟩ : ∃ u, vs[i]? = some u := ⟨_, List.getElem?_eq_getElem (by rw [HC.out.2.1]; exact hlt)⟩
      obtain ⟨r, hr⟩ : ∃ r, R[i]? = some r := ⟨_, List.getElem?_eq_getElem hlt⟩
      obtain ⟨cu, hiu⟩ := HC.out.2.2 i u r hu hr
      have c1 := fun w' (h : Ext W5 w') => (hE.trans h).cell (HC.out.1 i u hu)
      have HU := Lib.hid (hiu.ext hE)
      have HST : Hid (bestI R (i + 1) = if befL r (bestI R i) then r else bestI R i) := Lib.hid (by rw [bestI_step hr]; rfl)
      obtain ⟨Au, rfl, _⟩ := id hiu
      have hbf := before_any W5 _ _ r (bestI R i) cu cb HU.out HB.out
      clear hu hr hiu
      cases hb : befL r (bestI R i) with
      | true =>
        rw [hb] at hbf
        have HS : Hid (bestI R (i + 1) = r) := Lib.hid (by rw [HST.out, hb]; rfl)
        clear hb
        go_wp2_with ((with_reducible refine hbf.mono ?_); rintro e W6 ⟨rfl, e6⟩; have hE6 := Ext.refl W6; have c1 := fun w' (h : Ext W6 w') => c1 w' (e6.trans h))
        go_roundw
        case rel => exact ⟨i + 1, cu, by go_num, hlt, Lib.hid (by rw [HS.out]; first | exact HU.out.ext e6 | exact HU.out.ext e6.drew), by first | exact hE.trans e6 | exact hE.trans e6.drew⟩
        case measure => simp [intOf]; omega
      | false =>
        rw [hb] at hbf
        have HS : Hid (bestI R (i + 1) = bestI R i) := Lib.hid (by rw [HST.out, hb]; rfl)
        clear hb
        go_wp2_with ((with_reducible refine hbf.mono ?_); rintro e W6 ⟨rfl, e6⟩)
        go_roundw
        case rel => exact ⟨i + 1, cb, by go_num, hlt, Lib.hid (by rw [HS.out]; first | exact HB.out.ext e6 | exact HB.out.ext e6.drew), by first | exact hE.trans e6 | exact hE.trans e6.drew⟩
        case measure => simp [intOf]; omega
    · have hii : i = R.length := by omega
      have HII := Lib.hid hii
      have HE := Lib.hid hE
      clear hii hE
      go_wp2
      refine bodyPost_ret (results_tmp2 rfl _ _ _) rfl ?_
      rw [HR.out]
      refine ⟨_, cb, rfl, ?_, HE2.out.trans ?_⟩
      · have h9 : bestL R = bestI R i := by rw [HII.out, bestI_all]
        show IntsC _ (.slice Ab (bestI R i).length cb) (bestL R) cb
        rw [h9]
        first | exact HB.out | exact HB.out.ext (drew_ext _)
      · first | exact HE.out | exact HE.out.drew
end Go.Proofs.YtamodjlifpjaoaaDoor
