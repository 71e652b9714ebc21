/- ref29.Domain 51. -/
import Derived.Test.YtggffdkgfgdaoaaDoorE11
import Derived.Test.YtggffdkgfgdaoaaDoorC4
namespace Go.Proofs.YtggffdkgfgdaoaaDoor
open Go.RowKit Go.Maps
set_option linter.unusedVariables false
set_option linter.unusedSimpArgs false
attribute [local go_sem] Oper.quietV quietV Oper.gives givesV ext_refl_iff ext_alloc_iff ext_drew_iff ext_drewN_iff
def DomP (w : World) (L : List (List Int)) (e : Ending) (w' : World) : Prop := ∃ A c, e = .returned (.slice A L.length c) ∧ ListsC w' (.slice A L.length c) L c ∧ Ext w w'
/-- Between two variables. -/
def DoSt (w W : World) (O : List (List Int)) (ov : Value) : Prop := ∃ S A c, ov = .slice A O.length c ∧ OwnL w W [.any S (fun W => ListsC W (.slice A O.length c) O c)]
theorem lists_info : (Tryd.prog.info? 28).map (fun i => (i.zero, i.size, i.bytes)) = some (some (.slice none 0 0), 1, 24) := by kernel_rfl
set_option maxRecDepth 100000 in
set_option maxHeartbeats 16000000 in
theorem domain_any (w : World) (v : Value) (l : List Vt) (c : Nat) (hv : VarsC w v l c) (hs : SpanOk l) (hl : l.length ≤ 16) (hd : ∀ i ≤ l.length, (domL (l.take i)).length ≤ 5000) : Calls Tryd.prog 51 #[v] w (DomP w (domL l)) := by
  obtain ⟨i3, hi3, hz3, hs3, hb3⟩ := info_parts int_info
  obtain ⟨i28, hi28, hz28, hs28, hb28⟩ := info_parts lists_info
  obtain ⟨A, rfl, hc, hlc, hlm, hsz⟩ := hv
  have HC := Lib.hid hc
  have HS := Lib.hid hs
  have HD := Lib.hid hd
  clear hs hc hsz hd hlm
  go_enter Tryd.func51, Tryd.ntmps51
  go_upto_region 2 with fail
  refine wp_named ?_
  intro W1 hW1
  have hO1 : DoSt w W1 (domL (l.take 0)) (.slice (some ⟨w.heap.size, 0, none⟩) 1 1) := by
    have h := (OwnL.nil (Ext.refl w)).add (W' := W1) (by rw [hW1]; exact alloc_ext _ _) (A := .blk w.heap.size (.cells #[.slice none 0 0] 28 (0, 0))) ⟨Nat.le_refl _, by rw [hW1]; exact heap_alloc_new _ _⟩
    exact ⟨_, _, _, rfl, h.seal (Φ := fun W => ListsC W (.slice (some ⟨w.heap.size, 0, none⟩) 1 1) [[]] 1) (fun W' hA => lists_blk hA.2 rfl rfl (by omega) (fun i u es hu hes => by
      cases i with
      | zero => simp at hu hes; subst hu hes; exact ⟨0, fit_nil W'⟩
      | succ i => simp at hu))⟩
  clear hW1
  go_wp2
  go_loopw [3, 4] (fun ov iv wr => ∃ i : Nat, iv = .int .i64 i ∧ i ≤ l.length ∧ Hid (DoSt w wr (domL (l.take i)) ov)) (fun _ iv _ => l.length - (intOf iv).toNat)
  case atStart => exact ⟨0, by first | rfl | simp, Nat.zero_le _, Lib.hid hO1⟩
  case round =>
    clear hO1
    obtain ⟨i, rfl, hi, HI⟩ := hrel
    obtain ⟨W3, hW3⟩ : ∃ W, W = wr := ⟨_, rfl⟩; subst hW3
    obtain ⟨S, Ao, co, rfl, hO⟩ := HI.out
    by_cases hlt : i < l.length
    rotate_left
    · have hie : i = l.length := by omega
      subst hie
      have H : Hid (ListsC W3 (.slice Ao (domL l).length co) (domL l) co ∧ Ext w W3) := Lib.hid ⟨by have h := hO.know 0 rfl; rw [List.take_length] at h; exact h, hO.ext⟩
      have hlt3 : ¬ (l.length : Int) < (l.length : Int) := by omega
      clear HI hO hlt hi
      rw [List.take_length]
      go_wp2
      go_ret
      exact ⟨Ao, co, rfl, H.out⟩
    · have hlI : (i : Int) < (l.length : Int) := by omega
      obtain ⟨⟨nm, lo, hh⟩, hu⟩ : ∃ u, l[i]? = some u := ⟨_, List.getElem?_eq_getElem hlt⟩
      obtain ⟨bl, ol, hA, d0, d1, d2⟩ := var_at HC.out hu
      subst hA
      have hsp := HS.out _ (List.mem_of_getElem? hu)
      obtain ⟨s1, s2, s3⟩ := hsp
      dsimp only at s1 s2 s3 d0 d1 d2
      have HN1 : Hid (domL (l.take (i + 1)) = domS (domL (l.take i)) (nm, lo, hh)) := Lib.hid (by rw [List.take_add_one, hu]; exact domL_snoc _ _)
      have HLE : Hid ((domS (domL (l.take i)) (nm, lo, hh)).length ≤ 5000 ∧ (domL (l.take i)).length ≤ 5000 ∧ ∀ p ∈ domL (l.take i), p.length ≤ 16) := Lib.hid ⟨by rw [← HN1.out]; exact HD.out _ (by omega), HD.out _ (by omega), fun p hp => by rw [dom_len _ p hp, List.length_take]; omega⟩
      have HG0 := Lib.hid (GaSt.start hO)
      have hOle := HLE.out.2.1
      clear HI hO hu d0 HS
      generalize domL (l.take i) = O at *
      obtain ⟨n, hn⟩ : ∃ n, n = (spanL (nm, lo, hh)).length := ⟨_, rfl⟩
      have hn2 : (n : Int) = hh - lo + 1 := by rw [hn, span_len]; show (((hh - lo + 1).toNat : Nat) : Int) = _; omega
      have HSN := Lib.hid hn
      clear hn
      go_wp2
      go_loopw [5, 6] (fun nv kv wr => ∃ (k : Nat) (vs : List Value), kv = .int .i64 k ∧ k ≤ O.length ∧ Hid (GaSt w wr S (fun W => ListsC W (.slice Ao O.length co) O co) nv vs (domK O (nm, lo, hh) k))) (fun _ kv _ => O.length - (intOf kv).toNat)
      case atStart => exact ⟨0, [], by first | rfl | simp, Nat.zero_le _, HG0⟩
      case round =>
        clear HG0
        obtain ⟨k, vs, rfl, hk, HG⟩ := hrel
        obtain ⟨W4, hW4⟩ : ∃ W, W = wr := ⟨_, rfl⟩; subst hW4
        by_cases hkl : k < O.length
        rotate_left
        · have hke : k = O.length := by omega
          subst hke
          have hq : ¬ (O.length : Int) < (O.length : Int) := by omega
          obtain ⟨S', A', c', hv', hO'⟩ := GaSt.done (by have h := HG.out; rw [domK_all, ← HN1.out] at h; exact h) (by have := HLE.out.1; rw [← HN1.out] at this; unfold lenMax; omega)
          have HR : Hid (DoSt w W4 (domL (l.take (i + 1))) u5) := Lib.hid ⟨S', A', c', hv', hO'⟩
          clear hv' hO' HG hk hkl d1 d2
          go_wp2
          refine ⟨⟨i + 1, by go_num, hlt, HR⟩, ?_⟩
          simp [intOf]; omega
        · have hkI : (k : Int) < (O.length : Int) := by omega
          have HG1 : Hid (GaSt w W4 S (fun W => ListsC W (.slice Ao O.length co) O co) u5 vs (domJ O (nm, lo, hh) k 0)) := Lib.hid (by rw [domJ_zero]; exact HG.out)
          have hE4 := HG.out.ext
          have e1 := hE4.cell d1
          have e2 := hE4.cell d2
          go_wp2
          go_loopw [5, 7] (fun nv yv wr => ∃ (j : Nat) (vs : List Value), yv = .int .i64 (lo + (j : Int)) ∧ j ≤ n ∧ Hid (GaSt w wr S (fun W => ListsC W (.slice Ao O.length co) O co) nv vs (domJ O (nm, lo, hh) k j))) (fun _ yv _ => (hh + 1 - intOf yv).toNat)
          case atStart => exact ⟨0, vs, by simp, Nat.zero_le _, HG1⟩
          case round =>
            clear HG1 HG hE4 e1 e2
            obtain ⟨j, vs, rfl, hj, HG⟩ := hrel
            obtain ⟨W5, hW5⟩ : ∃ W, W = wr := ⟨_, rfl⟩; subst hW5
            have hE5 := HG.out.ext
            have e1 := hE5.cell d1
            have e2 := hE5.cell d2
            by_cases hjn : j < n
            rotate_left
            · have hje : j = n := by omega
              subst hje
              have hq : ¬ lo + (j : Int) ≤ hh := by omega
              have HR : Hid (GaSt w W5 S (fun W => ListsC W (.slice Ao O.length co) O co) u5 vs (domK O (nm, lo, hh) (k + 1))) := Lib.hid (by have h := HG.out; rw [domK_more hkl (by rw [HSN.out]; exact Nat.le_refl _)] at h; exact h)
              clear HG hjn hj hE5
              go_wp2
              refine ⟨⟨k + 1, vs, by go_num, hkl, HR⟩, ?_⟩
              simp [intOf]; omega
            · have hq : lo + (j : Int) ≤ hh := by omega
              obtain ⟨hrow, hlst, hlis⟩ := HG.out.row
              obtain ⟨bo, oo, u, cu, hA, _, hcu, hIu⟩ := hlis.at_ hkl
              injection hA with hA _ _
              subst hA
              have hp16 := HLE.out.2.2 _ (List.getElem_mem hkl)
              have hjlt := domJ_lt (v := (nm, lo, hh)) hkl (show j < (spanL (nm, lo, hh)).length by rw [← HSN.out]; exact hjn)
              have hJ := domJ_more (O := O) (v := (nm, lo, hh)) (k := k) (show j < (spanL (nm, lo, hh)).length by rw [← HSN.out]; exact hjn)
              rw [List.getD_eq_getElem?_getD, List.getElem?_eq_getElem hkl] at hJ
              have HJ : Hid (domJ O (nm, lo, hh) k (j + 1) = domJ O (nm, lo, hh) k j ++ [O[k] ++ [lo + (j : Int)]]) := Lib.hid hJ
              have hJ5 : (domJ O (nm, lo, hh) k j).length < 5000 := Nat.lt_of_lt_of_le hjlt HLE.out.1
              clear hJ hjlt
              have HJ5 := Lib.hid hJ5
              generalize domJ O (nm, lo, hh) k j = N at *
              generalize O[k] = p at *
              have hcu : ∀ w', Ext W5 w' → w'.cell? ⟨bo, oo + k, none⟩ = some u := fun w' h => h.cell hcu
              have hR5 := Ext.refl W5
              have HE5 := Lib.hid hE5
              have HIu := Lib.hid (And.intro hIu (And.intro hrow hp16))
              have hb5 : (W5.alloc (.cells #[] 3)).heap[W5.heap.size]? = some (.cells #[] 3 (0, 0)) := heap_alloc_new _ _
              have hi5 := hIu.ext (alloc_ext W5 (.cells #[] 3))
              clear hlst hlis hIu hrow
              go_upto_region 12 with fail
              clear d1 d2 e1 e2
              go_wp2_with (first
                | (at_builtin; refine wpList_copy rfl _ _ rfl rfl rfl hi5 (Nat.le_trans hp16 (by decide)) hb5 ?_; intro v6 w6 hown6 hg6; have hE56 : Ext W5 w6 := Below.grown (alloc_ext W5 _) hg6 (alloc_ext W5 _).size (fun k hk => by cases hk; exact Nat.le_refl _))
                | (at_builtin; refine wpList_append_own2 rfl _ _ 28 rfl W5.heap.size 3 i3 (.int .i64 0) 1 8 Tryd.underlying28 hi3 hz3 hs3 hb3 rfl (by decide) v6 p.length (p.map (.int .i64)) rfl (World.ownsRow.alloc hown6 _) ⟨w6.heap.size, 0, none⟩ 1 1 [.int .i64 (lo + (j : Int))] rfl rfl (new_cell _ _ _ _ (by first | rfl | simp)) (one_int _) (by unfold maxLen; omega) (by omega) (by have := hg6.size; simp at this ⊢; omega) ?_; intro v7 w7 hown7 hg7 hb7; have hE57 : Ext W5 w7 := Below.grown (hE56.trans (alloc_ext w6 _)) hg7 (hE56.trans (alloc_ext w6 _)).size (fun k hk => (hown6.lt k hk).1); obtain ⟨A7, c7, hv7, _, _⟩ := cells_of_owns hown7; subst hv7)
                | (at_builtin; refine wpList_append_own2 rfl _ _ 112 rfl w.heap.size 28 i28 (.slice none 0 0) 1 24 Tryd.underlying112 hi28 hz28 hs28 hb28 rfl (by decide) u5 N.length vs rfl (World.ownsRow.alloc (ownsRow_ext HIu.out.2.1 hE57) _) ⟨w7.heap.size, 0, none⟩ 1 1 [.slice A7 (p.length + 1) c7] rfl rfl (new_cell _ _ _ _ (by first | rfl | simp)) (one_slice _ _ _) (by unfold maxLen; omega) (by omega) (by have := HE5.out.size; have := hE57.size; simp; omega) ?_; intro v8 w8 hown8 hg8 hb8))
              have hM := HG.out.more (r := p ++ [lo + (j : Int)]) (hE57.trans (alloc_ext w7 (.cells #[.slice A7 (p.length + 1) c7] 28))) (by
                rw [List.length_append, List.length_singleton, List.map_append]
                exact World.ownsRow.alloc hown7 _) (by rw [List.length_append, List.length_singleton]; unfold lenMax; omega) hg8 hown8 hb8
              rw [← HJ.out] at hM
              have HM := Lib.hid hM
              clear hM hown8 hg8 hb8 hown7 hg7 hb7 hE57 hE56 hown6 hg6 hi5 hb5 hcu hR5
              refine ⟨⟨j + 1, _, ?_, hjn, HM⟩, ?_⟩
              · go_num
              · simp [intOf]; omega
end Go.Proofs.YtggffdkgfgdaoaaDoor
