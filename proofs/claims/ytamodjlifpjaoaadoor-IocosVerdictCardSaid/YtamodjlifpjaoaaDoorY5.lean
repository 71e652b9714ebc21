/- IocosVerdict 6: from the call of Verdict on. -/
import Derived.Test.YtamodjlifpjaoaaDoorY4
import Derived.Test.YtamodjlifpjaoaaDoorZ1
import Derived.Test.YtamodjlifpjaoaaDoorGH
import Derived.Test.YtamodjlifpjaoaaDoorGJ
import Derived.Test.YtamodjlifpjaoaaDoorGL
import Derived.Test.YtamodjlifpjaoaaDoorGE
namespace Go.Proofs.YtamodjlifpjaoaaDoor
open Go.RowKit
set_option linter.unusedVariables false
set_option linter.unusedSimpArgs false
attribute [local go_sem] Oper.quietV quietV Oper.gives givesV ext_refl_iff ext_alloc_iff ext_drew_iff ext_drewN_iff
noncomputable def T6 (n : Nat) : Code := textR n Tryd.f6.body
def VLawP (w : World) (e : Ending) (w' : World) : Prop := e = .returned (.bool true) ∧ Ext w w'
theorem right_back {i o : Int} {L : List Nd} (h : RightT i o L) : rightB i o L = true := by
  unfold rightB
  rw [Bool.and_eq_true, List.all_eq_true, decide_eq_true_eq]
  refine ⟨fun k hk => ?_, h.pos⟩
  obtain ⟨nd, hnd⟩ : ∃ nd, L[k]? = some nd := ⟨_, List.getElem?_eq_getElem (List.mem_range.1 hk)⟩
  rw [ndAt_get hnd]
  unfold okNd
  rw [h.many k nd hnd, Bool.true_and, Bool.not_eq_true', List.any_eq_false]
  intro t ht
  have := h.next k nd hnd t ht
  unfold offN
  simp only [Bool.or_eq_true, decide_eq_true_eq, not_or]
  omega
theorem runs_len {x : Lts} {L : List Nd} : ∀ (n k S : Nat) (u w : List Int), w ∈ runsL x L n k S u → w.length ≤ u.length + n
  | 0, k, S, u, w, h => by simp [runsL] at h
  | n + 1, k, S, u, w, h => by
    by_cases hf : (ndAt L k).act = -3
    · rw [runsL_fail hf] at h
      rw [List.mem_singleton.1 h]; omega
    · rw [runsL_go hf] at h
      obtain ⟨i, _, h⟩ := List.mem_flatMap.1 h
      unfold subR at h
      split at h
      · simp at h
      · have := runs_len n _ _ _ w h
        rw [List.length_append, List.length_singleton] at this
        omega
theorem best_mem {l : List (List Int)} (h : l.length ≠ 0) : bestL l ∈ l := by
  have h1 := (best_fold l (l.getD 0 [])).1
  cases l with
  | nil => simp at h
  | cons a l =>
    rcases h1 with h1 | h1
    · show (a :: l).foldl stepB ((a :: l).getD 0 []) ∈ _
      rw [h1]; simp
    · exact h1
theorem refVerd_form (x : Lts) (L : List Nd) : ((refVerd x L).1 = 1 ∨ (refVerd x L).1 = 0) ∧ (refVerd x L).2.length ≤ L.length := by
  unfold refVerd
  split
  · exact ⟨.inl rfl, by simp⟩
  · rename_i h
    refine ⟨.inr rfl, ?_⟩
    have := runs_len L.length 0 (begM x) [] _ (best_mem h)
    simpa using this
set_option maxRecDepth 100000 in
set_option maxHeartbeats 16000000 in
theorem vlaw_t6 (w W : World) (b7 b8 : Nat) (x y : Lts) (fl gl : Bool) (L : List Nd) (ct : Nat) (c0 c1 c2 c3 c4 c5 c6 c10 c11 c12 c13 c14 c15 c16 c17 c18 c19 c20 c21 c22 c23 c24 c25 c26 c27 c28 c29 c30 c31 c32 c33 c34 c35 c36 c37 c38 c39 c40 c41 c42 c43 c44 c45 c46 c47 c48 c49 c50 c51 c52 c53 c54 c55 c56 c57 c58 c59 c60 c61 c62 c63 c64 c65 c66 c67 c68 c69 c70 c71 c72 c73 c74 c75 c76 c77 c78 c79 c80 c81 c82 c83 c84 c85 c86 c87 c88 c89 c90 c91 c92 c93 c94 c95 c96 c97 c98 c99 c100 c101 c102 c103 tv : Value) (hW : TwoV w W b7 b8 x y fl gl) (hT : Tab W) (hN : NodesC W tv L ct) (hR : RightT x.ins x.outs L) (hL : L.length ≤ 1024)
    (hfew : (runsL x L L.length 0 (begM x) []).length ≤ 1000) :
    Code.wp Tryd.prog (T6 6) (bodyPost Tryd.prog Tryd.f6 (VLawP w)) ⟨(c0 :: c1 :: c2 :: c3 :: c4 :: c5 :: c6 :: .pointer (some ⟨b7, 0, none⟩) :: .pointer (some ⟨b8, 0, none⟩) :: tv :: c10 :: c11 :: c12 :: c13 :: c14 :: c15 :: c16 :: c17 :: c18 :: c19 :: c20 :: c21 :: c22 :: c23 :: c24 :: c25 :: c26 :: c27 :: c28 :: c29 :: c30 :: c31 :: c32 :: c33 :: c34 :: c35 :: c36 :: c37 :: c38 :: c39 :: c40 :: c41 :: c42 :: c43 :: c44 :: c45 :: c46 :: c47 :: c48 :: c49 :: c50 :: c51 :: c52 :: c53 :: c54 :: c55 :: c56 :: c57 :: c58 :: c59 :: c60 :: c61 :: c62 :: c63 :: c64 :: c65 :: c66 :: c67 :: c68 :: c69 :: c70 :: c71 :: c72 :: c73 :: c74 :: c75 :: c76 :: c77 :: c78 :: c79 :: c80 :: c81 :: c82 :: c83 :: c84 :: c85 :: c86 :: c87 :: c88 :: c89 :: c90 :: c91 :: c92 :: c93 :: c94 :: c95 :: c96 :: c97 :: c98 :: c99 :: c100 :: c101 :: c102 :: c103 :: []).toArray, []⟩ W := by
  conv => arg 2; whnf
  obtain ⟨hcx, hcy, hnx, hny, _⟩ := hW.good
  have hgx := check_good hcx
  have HX := Lib.hid (And.intro hW hT)
  obtain ⟨pA, pc, p0, p1, p2, pS⟩ := hW.bx
  have p0 := fun w' (h : Ext W w') => h.cell p0
  have p1 := fun w' (h : Ext W w') => h.cell p1
  have p2 := fun w' (h : Ext W w') => h.cell p2
  have hE0 := Ext.refl W
  obtain ⟨At, _, _, htv, _⟩ := id hN
  subst htv
  have hvd := Verdict_any W _ x (.slice At L.length ct) L ct pS (fun _ _ => hnx) hN hT
  unfold VerdP at hvd
  have hac := fun W' (e : Ext W W') => refAccepts_any W' _ x (pS.ext e) hgx
  have hrv := fun W' (e : Ext W W') => refVerdict_any W' _ _ x L ct (pS.ext e) hgx hR (hN.ext e) hL hfew
  have hv1 : verdR x L = if !accB x then (false, [], 9) else verdT x L := by
    unfold verdR
    rw [if_neg (by simpa using hcx), if_neg (by omega), if_neg (by rw [right_back hR]; simp)]
  have hv2 := verd_ref hR (goV_small hgx hR hnx hL (capV x))
  obtain ⟨hf1, hf2⟩ := refVerd_form x L
  have hf3 : (refVerd x L).2.length ≤ 1024 := Nat.le_trans hf2 hL
  have hlv := fun W' (e : Ext W W') => lives_any W' (hT.ext e)
  clear hW hT hcx hcy hny hgx hN hR hL hfew pS hf2
  obtain ⟨yes, hyes⟩ : ∃ z, z = (refVerd x L).1 := ⟨_, rfl⟩
  obtain ⟨wl, hwl⟩ : ∃ z, z = (refVerd x L).2 := ⟨_, rfl⟩
  rw [← hyes] at hf1 hv2 hrv
  rw [← hwl] at hf3 hv2 hrv
  clear hyes hwl
  cases hacc : accB x with
  | false =>
    rw [hacc] at hv1 hac
    rw [show verdR x L = (false, [], 9) by rw [hv1]; rfl] at hvd
    rw [show b01 false = 0 from rfl] at hac
    clear hv1 hacc hf1 hf3 hv2 hrv
    go_upto_region 7 with ((with_reducible refine hvd.mono ?_); rintro e W5 ⟨rv, rfl, ⟨A5, rfl, _⟩, e5⟩)
    have hac5 := hac W5 e5
    have p0 := fun w' (h : Ext W5 w') => p0 w' (e5.trans h)
    have p1 := fun w' (h : Ext W5 w') => p1 w' (e5.trans h)
    have p2 := fun w' (h : Ext W5 w') => p2 w' (e5.trans h)
    have hE5 := Ext.refl W5
    have H5 := Lib.hid e5
    clear hvd hac e5 hE0
    go_wp2_with (first
      | ((with_reducible refine hac5.mono ?_); rintro e W6 ⟨rfl, e6⟩; have hlv6 := hlv W6 (H5.out.trans e6))
      | ((with_reducible refine hlv6.mono ?_); rintro e W7 ⟨rfl, e7⟩))
    go_ret
    exact ⟨rfl, HX.out.1.ext.trans (H5.out.trans (e6.trans e7))⟩
  | true =>
    rw [hacc] at hv1 hac
    rw [show verdR x L = (yes == 1, wl, 0) by rw [hv1]; show verdT x L = _; unfold verdT; rw [hv2]] at hvd
    rw [show b01 true = 1 from rfl] at hac
    clear hv1 hacc hv2
    go_upto_region 7 with ((with_reducible refine hvd.mono ?_); rintro e W5 ⟨rv, rfl, hf5, e5⟩)
    have hac5 := hac W5 e5
    have p0 := fun w' (h : Ext W5 w') => p0 w' (e5.trans h)
    have p1 := fun w' (h : Ext W5 w') => p1 w' (e5.trans h)
    have p2 := fun w' (h : Ext W5 w') => p2 w' (e5.trans h)
    have hE5 := Ext.refl W5
    have H5 := Lib.hid (And.intro hf5 e5)
    clear hvd hac e5 hE0 hf5
    go_upto_region 9 with ((with_reducible refine hac5.mono ?_); rintro e W6 ⟨rfl, e6⟩)
    have hrv6 := hrv W6 (H5.out.2.trans e6)
    have p0 := fun w' (h : Ext W6 w') => p0 w' (e6.trans h)
    have p1 := fun w' (h : Ext W6 w') => p1 w' (e6.trans h)
    have p2 := fun w' (h : Ext W6 w') => p2 w' (e6.trans h)
    have hE6 := Ext.refl W6
    have H6 := Lib.hid e6
    clear hrv hac5 e6 hE5
    go_upto_region 10 with ((with_reducible refine hrv6.mono ?_); rintro e W7 ⟨rv7, c7, rfl, hi7, e7⟩)
    have hsm := sameE_any W7 rv rv7 wl wl _ c7 0 (H5.out.1.ext (H6.out.trans e7)) hi7 (by omega)
    rw [show sameB wl wl wl.length 0 = true by simp [sameB], show b01 true = 1 from rfl] at hsm
    have hlv7 := fun W' (e : Ext W7 W') => hlv W' (H5.out.2.trans (H6.out.trans (e7.trans e)))
    have HE7 := Lib.hid (HX.out.1.ext.trans (H5.out.2.trans (H6.out.trans e7)))
    obtain ⟨A7, rfl, _⟩ := hi7
    obtain ⟨A5, rfl, _⟩ := id H5.out.1
    clear hrv6 p0 p1 p2 hE6 e7 hlv
    rcases hf1 with rfl | rfl
    · go_wp2_with (first
        | ((with_reducible refine hsm.mono ?_); rintro e W8 ⟨rfl, e8⟩; have hlv8 := hlv7 W8 e8)
        | ((with_reducible refine hlv8.mono ?_); rintro e W9 ⟨rfl, e9⟩))
      go_ret
      exact ⟨rfl, HE7.out.trans (e8.trans e9)⟩
    · go_wp2_with (first
        | ((with_reducible refine hsm.mono ?_); rintro e W8 ⟨rfl, e8⟩; have hlv8 := hlv7 W8 e8)
        | ((with_reducible refine hlv8.mono ?_); rintro e W9 ⟨rfl, e9⟩))
      go_ret
      exact ⟨rfl, HE7.out.trans (e8.trans e9)⟩
end Go.Proofs.YtamodjlifpjaoaaDoor
