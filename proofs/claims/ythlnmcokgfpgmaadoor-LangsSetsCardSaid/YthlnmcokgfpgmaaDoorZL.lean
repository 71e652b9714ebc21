/- THE LAW LangsCount 4: the walk. -/
import Derived.Test.YthlnmcokgfpgmaaDoorZK
import Derived.Test.YthlnmcokgfpgmaaDoorZH
namespace Go.Proofs.YthlnmcokgfpgmaaDoor
open Go.RowKit Go.Maps
set_option linter.unusedVariables false
set_option linter.unusedSimpArgs false
attribute [local go_sem] Oper.quietV quietV Oper.gives givesV ext_refl_iff ext_alloc_iff ext_drew_iff ext_drewN_iff
noncomputable def T4 (n : Nat) : Code := textR n Tryd.f4.body
theorem WordsC.at_ {W : World} {v : Value} {ws : List (List Nat)} (h : WordsC W v ws) {i : Nat} (hi : i < ws.length) : ∃ b o c u, v = .slice (some ⟨b, o, none⟩) ws.length c ∧ W.cell? ⟨b, o + i, none⟩ = some u ∧ WordC W u ws[i] := by
  obtain ⟨A, c, vs, rfl, hc, hl, hq, _⟩ := h
  obtain ⟨b, o, rfl, _, hcc⟩ := hc (by omega)
  have hi' : i < vs.length := by omega
  exact ⟨b, o, c, vs[i], rfl, hcc i _ (List.getElem?_eq_getElem hi'), hq i _ _ (List.getElem?_eq_getElem hi') (List.getElem?_eq_getElem hi)⟩
theorem countP_succ {α : Type} (p : α → Bool) (l : List α) {i : Nat} (h : i < l.length) : (l.take (i + 1)).countP p = (l.take i).countP p + if p l[i] then 1 else 0 := by
  rw [List.take_succ_eq_append_getElem h, List.countP_append]
  cases hp : p l[i] <;> simp [hp]
set_option maxRecDepth 100000 in
set_option maxHeartbeats 4000000 in
theorem count_t2 (w W : World) (b5 : Nat) (n : Int) (d : Dfa) (c0 c2 c3 c4 c6 c7 c8 c9 c10 c11 c12 c13 c14 c15 c16 c17 c18 c19 c20 c21 c22 c23 c24 c25 c26 c27 c28 c29 c30 c31 c32 c33 c34 c35 c36 c37 c38 c39 c40 c41 c42 c43 c44 c45 c46 c47 c48 c49 c50 c51 c52 c53 c54 c55 c56 c57 c58 c59 c60 c61 c62 c63 c64 c65 c66 c67 c68 c69 c70 c71 c72 c73 c74 c75 c76 c77 c78 c79 c80 : Value) (h0 : Ext w W) (hm : GlobM W) (hc : GlobC W) (hb : BoxD W b5 d) (hg : Good d) (hk : d.k ≤ 3) :
    Code.wp Tryd.prog (T4 2) (bodyPost Tryd.prog Tryd.f4 fun e w' => e = .returned (.bool true) ∧ Ext w w') ⟨(c0 :: .int .i64 n :: c2 :: c3 :: c4 :: .pointer (some ⟨b5, 0, none⟩) :: c6 :: c7 :: c8 :: c9 :: c10 :: c11 :: c12 :: c13 :: c14 :: c15 :: c16 :: c17 :: c18 :: c19 :: c20 :: c21 :: c22 :: c23 :: c24 :: c25 :: c26 :: c27 :: c28 :: c29 :: c30 :: c31 :: c32 :: c33 :: c34 :: c35 :: c36 :: c37 :: c38 :: c39 :: c40 :: c41 :: c42 :: c43 :: c44 :: c45 :: c46 :: c47 :: c48 :: c49 :: c50 :: c51 :: c52 :: c53 :: c54 :: c55 :: c56 :: c57 :: c58 :: c59 :: c60 :: c61 :: c62 :: c63 :: c64 :: c65 :: c66 :: c67 :: c68 :: c69 :: c70 :: c71 :: c72 :: c73 :: c74 :: c75 :: c76 :: c77 :: c78 :: c79 :: c80 :: []).toArray, []⟩ W := by
  conv => arg 2; whnf
  obtain ⟨Ar, Aa, cr, ca, p0, p1, p2, hD⟩ := hb
  have p0 := fun w' (h : Ext W w') => h.cell p0
  have p1 := fun w' (h : Ext W w') => h.cell p1
  have p2 := fun w' (h : Ext W w') => h.cell p2
  have hE0 := Ext.refl W
  have HA := Lib.hid (And.intro h0 (And.intro hm (And.intro hc (And.intro hg hk))))
  have hlv := fun W1 (e : Ext W W1) => lives_any W1 (HA.out.2.1.ext e) (HA.out.2.2.1.ext e)
  clear h0 hm hc hg hk
  by_cases hn0 : n < 0
  · have hcn := two_val (CountOf_any W _ d hD n) (count_neg HA.out.2.2.2.1 hn0)
    have hn1 : ¬ 0 < n := by omega
    go_wp2_with (first
      | ((with_reducible refine hcn.mono ?_); rintro e w1 ⟨rfl, e1⟩; clear hcn; have hl := hlv w1 e1)
      | ((with_reducible refine hl.mono ?_); rintro e w2 ⟨rfl, e2⟩))
    go_ret
    exact ⟨rfl, HA.out.1.trans (e1.trans e2)⟩
  by_cases hn2 : 256 < n
  · have hcn := two_val (CountOf_any W _ d hD n) (count_big HA.out.2.2.2.1 hn2)
    have hn1 : 0 < n := by omega
    go_wp2_with (first
      | ((with_reducible refine hcn.mono ?_); rintro e w1 ⟨rfl, e1⟩; clear hcn; have hl := hlv w1 e1)
      | ((with_reducible refine hl.mono ?_); rintro e w2 ⟨rfl, e2⟩))
    go_ret
    exact ⟨rfl, HA.out.1.trans (e1.trans e2)⟩
  obtain ⟨N, rfl⟩ : ∃ N : Nat, n = (N : Int) := ⟨n.toNat, by omega⟩
  go_upto_region 9 with fail
  obtain ⟨m, hm⟩ : ∃ m, m = N % 7 := ⟨_, rfl⟩
  rw [show ((N : Int) % 7) = (m : Int) by omega]
  have hm6 : m ≤ 6 := by omega
  clear hm
  have hcn := two_val (CountOf_any W _ d hD m) (count_law HA.out.2.2.2.1 HA.out.2.2.2.2 hm6)
  have hwd : ∀ W1, Ext W W1 → Calls Tryd.prog 20 #[.agg #[.int .i64 d.sy, .slice Ar d.rows.length cr, .slice Aa d.acc.length ca], .int .i64 m] W1 fun e w' => ∃ v, e = .returned v ∧ WordsC w' v (wordsL d m) ∧ Ext W1 w' := fun W1 (e : Ext W W1) => words_any W1 _ d m (hD.ext e) HA.out.2.2.2.1 HA.out.2.2.2.2 hm6
  generalize wordsL d m = ws at *
  go_upto_region 11 with (first
    | ((with_reducible refine hcn.mono ?_); rintro e w1 ⟨rfl, e1⟩; clear hcn; have hw := hwd w1 e1)
    | ((with_reducible refine hw.mono ?_); rintro e w2 ⟨v, rfl, hv, e2⟩; have e12 := e1.trans e2; clear hw))
  have hl := hlv w2 e12
  have hE2 := HA.out.1.trans e12
  obtain ⟨A, c, vs, rfl, _, _, _, _, hlm⟩ := id hv
  unfold lenMax at hlm
  have HL := Lib.hid (And.intro hl hE2)
  clear p0 p1 p2 hD hE0 hlv hwd e1 e2 e12 hl hE2
  go_wp2
  go_loop [13, 14] (fun cv iv => ∃ i : Nat, iv = .int .i64 i ∧ i ≤ ws.length ∧ cv = .int .i64 ((ws.take i).countP (fun u => u.length == m) : Nat)) (fun _ iv => ws.length - (intOf iv).toNat)
  case atStart => exact ⟨0, rfl, by omega, rfl⟩
  case round =>
    obtain ⟨i, rfl, hi, rfl⟩ := hrel
    have hcl : (ws.take i).countP (fun u => u.length == m) ≤ i := Nat.le_trans List.countP_le_length (by rw [List.length_take]; exact Nat.min_le_left _ _)
    by_cases hil : i < ws.length
    · have hilI : (i : Int) < (ws.length : Int) := by omega
      obtain ⟨b, o, c', u, hvv, hcell, ⟨cu, hu⟩, _⟩ := hv.at_ hil
      injection hvv with hA _ _
      rw [hA]
      have hcs := countP_succ (fun u : List Nat => u.length == m) ws hil
      obtain ⟨Au, rfl, _⟩ := id hu
      rw [wI_len] at hcell
      have HC := Lib.hid hcs
      clear hcs hu hA
      generalize hX : (ws.take i).countP (fun u : List Nat => u.length == m) = X at *
      clear hX
      generalize ws[i].length = L at *
      cases hL : (L == m) with
      | false =>
        rw [hL] at HC
        have hLm2 : ¬ L = m := by simpa using hL
        have hLm : ((L : Int) == (m : Int)) = false := by simp; omega
        clear hL hLm2
        go_wp2
        go_round
        case rel => exact ⟨i + 1, by go_num, by omega, by rw [HC.out]; rfl⟩
        case measure => simp [intOf]; omega
      | true =>
        rw [hL] at HC
        obtain rfl : L = m := by simpa using hL
        clear hL
        go_wp2
        go_round
        case rel => exact ⟨i + 1, by go_num, by omega, by rw [HC.out]; go_num⟩
        case measure => simp [intOf]; omega
    · obtain rfl : i = ws.length := by omega
      rw [List.take_length] at hcl ⊢
      generalize ws.countP (fun u => u.length == m) = X at *
      go_wp2_with ((with_reducible refine HL.out.1.mono ?_); rintro e w3 ⟨rfl, e3⟩)
      go_ret
      exact ⟨rfl, HL.out.2.trans e3⟩
set_option maxRecDepth 100000 in
set_option maxHeartbeats 4000000 in
theorem LangsCount_any (w : World) (xv : Value) (x : RawN) (n : Int) (hx : RawNV w xv x) (hm : GlobM w) (hc : GlobC w) : Calls Tryd.prog 4 #[xv, .int .i64 n] w fun e w' => e = .returned (.bool true) ∧ Ext w w' := by
  obtain ⟨av, ca, rfl, ha, hxb⟩ := id hx
  obtain ⟨Aa, rfl, _⟩ := id ha
  go_enter Tryd.func4, Tryd.ntmps4
  go_upto_region 1 with fail
  refine wp_named ?_
  intro W1 hW1
  have hE1 : Ext w W1 := by rw [hW1]; exact (Ext.refl _).alloc _
  have z1 : W1.heap[w.heap.size]? = some (.cells #[.int .u8 x.sy, .int .u8 x.many, .slice Aa x.arcs.length ca, .int .u8 x.st, .int .u8 x.ac] 24 (0, 0)) := by rw [hW1]; exact heap_alloc_new w _
  clear hW1
  generalize w.heap.size = b1 at *
  have k0 := cell_of_blk z1 0 (u := .int .u8 x.sy) rfl
  have k1 := cell_of_blk z1 1 (u := .int .u8 x.many) rfl
  have k2 := cell_of_blk z1 2 (u := .slice Aa x.arcs.length ca) rfl
  have k3 := cell_of_blk z1 3 (u := .int .u8 x.st) rfl
  have k4 := cell_of_blk z1 4 (u := .int .u8 x.ac) rfl
  have hdf := dfas_any W1 _ _ x x (hx.ext hE1) (hx.ext hE1)
  have HX := Lib.hid (And.intro hm (And.intro hc hE1))
  clear hx ha hxb z1 hm hc hE1
  go_upto_region 999 with (first
    | (with_reducible refine stop_at2 2 ?_)
    | (go_at_call 12; refine hdf.mono ?_; rintro e wB ⟨v1, v2, a, b, rfl, hd1, hd2, hg1, hg2, hn1, hn2, hs1, hs2, eB⟩; obtain ⟨rvA, crA, avA, caA, rfl, ⟨ArA, vrA, rfl, -⟩, ⟨AaA, rfl, -⟩⟩ := id hd1; obtain ⟨rvB, crB, avB, caB, rfl, ⟨ArB, vrB, rfl, -⟩, ⟨AaB, rfl, -⟩⟩ := id hd2; clear hdf)
    | (with_reducible refine wpList_store_blk _ rfl 28 _ _ rfl wB.heap.size 28 _ _ rfl rfl (heap_ext (alloc_ext _ _) (heap_alloc_new _ _)) (by kernel_rfl) (by kernel_rfl) (by kernel_rfl) ?_; intro w1 h1 g1)
    | (with_reducible refine wpList_store_blk _ rfl 28 _ _ rfl (wB.heap.size + 1) 28 _ _ rfl rfl ((g1.block _ (by simp) (by simp)).trans (by have := heap_alloc_new (wB.alloc (.cells #[.int .i64 0, .slice none 0 0, .slice none 0 0] 28)) (.cells #[.int .i64 0, .slice none 0 0, .slice none 0 0] 28); simpa using this)) (by kernel_rfl) (by kernel_rfl) (by kernel_rfl) ?_; intro w2 h2 g2))
  refine ⟨?_⟩
  have eB1 : Ext wB w1 := Below.grown ((alloc_ext wB _).trans (alloc_ext _ _)) g1 ((alloc_ext wB _).trans (alloc_ext _ _)).size (fun k hk => by cases hk; exact Nat.le_refl _)
  have e12 : Ext wB w2 := Below.grown eB1 g2 eB1.size (fun k hk => by cases hk; omega)
  have h1 := (g2.block _ (lt_of_block h1) (by simp)).trans h1
  rw [← hs1] at h1
  have hE2 : Ext w w2 := HX.out.2.2.trans (eB.trans e12)
  exact count_t2 w w2 wB.heap.size n a _ _ _ _ _ _ _ _ _ _ _ _ _ _ _ _ _ _ _ _ _ _ _ _ _ _ _ _ _ _ _ _ _ _ _ _ _ _ _ _ _ _ _ _ _ _ _ _ _ _ _ _ _ _ _ _ _ _ _ _ _ _ _ _ _ _ _ _ _ _ _ _ _ _ _ _ _ _ _ hE2 (HX.out.1.ext hE2) (HX.out.2.1.ext hE2) (BoxD.of h1 (hd1.ext e12)) hg1 (by have := hg1.kk; omega)
end Go.Proofs.YthlnmcokgfpgmaaDoor
