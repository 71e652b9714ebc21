/- ref29.Run 18: the walk. -/
import Derived.Test.YtggffdkgfgdaoaaDoorE9
namespace Go.Proofs.YtggffdkgfgdaoaaDoor
open Go.RowKit Go.Maps
set_option linter.unusedVariables false
set_option linter.unusedSimpArgs false
attribute [local go_sem] Oper.quietV quietV Oper.gives givesV ext_refl_iff ext_alloc_iff ext_drew_iff ext_drewN_iff
attribute [local go_sem] RI.Oper.gives RI.givesV
def RrP (w : World) (L : List Int) (e : Ending) (w' : World) : Prop := ∃ A c, e = .returned (.slice A L.length c) ∧ IntsC w' (.slice A L.length c) L c ∧ Ext w w'
/-- What is owned in a round. -/
def rrL (w : World) (B : Asn) (d : Nat) (S : Nat → Prop) (s : Int) (ys : List Int) (A : Option Addr) (n c : Nat) (ov : Value) (os : List Int) : List Asn :=
  [.any S (cfF w (.slice A n c) ys c), .row 3 1 ov os.length (os.map (.int .i64)), .blk d (.cells #[.int .i64 s, .slice A n c] 34 (0, 0)), B]
def RrI (w : World) (B : Asn) (x : Xt) (ws : List Int) (d i : Nat) (cur : Option (Int × List Int)) (ov : Value) (W : World) : Prop :=
  ∃ S s ys A n c os, OwnL w W (rrL w B d S s ys A n c ov os) ∧ os.length = i ∧ runF x (some (0, x.start)) ws = os ++ runF x cur (ws.drop i) ∧ ∀ q, cur = some q → q = (s, ys) ∧ ys.length = n ∧ valsR x.vars ys = 0
def CurK (k : Int) (cur : Option (Int × List Int)) : Prop := (k = 0 ∧ cur = none) ∨ (k = 1 ∧ ∃ q, cur = some q)
def xBlk (b : Nat) (x : Xt) (Av As Aa : Option Addr) (c1 c2 c3 : Nat) : Asn := .blk b (.cells #[.int .i64 x.ins, .int .i64 x.outs, .int .i64 x.states, .slice Av x.vars.length c1, .slice As x.start.length c2, .slice Aa x.arcs.length c3] 31 (0, 0))
theorem rr_turn {w W W' : World} {B : Asn} {d : Nat} {S : Nat → Prop} {s : Int} {ys : List Int} {A : Option Addr} {n c : Nat} {ov : Value} {os : List Int} (h : OwnL w W (rrL w B d S s ys A n c ov os)) (g : W.grownBy W' (some d)) {t : Int} {zs : List Int} {A' : Option Addr} {c' : Nat} (hB : W'.heap[d]? = some (.cells #[.int .i64 t, .slice A' zs.length c'] 34 (0, 0))) (hi : IntsC W' (.slice A' zs.length c') zs c') (hn : NewA W.heap.size A' zs) : OwnL w W' (rrL w B d (cfS A' zs.length) t zs A' zs.length c' ov os) := by
  have h1 := h.drop
  have hd : Asn.ok w.heap.size W (.blk d (.cells #[.int .i64 s, .slice A n c] 34 (0, 0))) := h1.get 1 rfl
  have h2 := h1.step (A' := .blk d (.cells #[.int .i64 t, .slice A' zs.length c'] 34 (0, 0))) 1 rfl g (fun b hb => by cases hb; rfl) ⟨hd.1, hB⟩ (fun b hb => .inl hb)
  refine h2.addN (N := W.heap.size) (fun C hC b hb => ?_) h1.ext.size (cf_ok hi hn)
  simp only [List.set_cons_succ, List.set_cons_zero, List.mem_cons, List.not_mem_nil, or_false] at hC
  rcases hC with rfl | rfl | rfl
  · exact (Asn.lt (h1.get 0 rfl) hb).2
  · cases hb; exact lt_of_block hd.2
  · exact (Asn.lt (h1.get 2 rfl) hb).2
set_option maxRecDepth 100000 in
set_option maxHeartbeats 16000000 in
theorem refRun_any (w : World) (xv : Value) (x : Xt) (wv : Value) (ws : List Int) (cw : Nat) (hx : XtV w x xv) (hw : IntsC w wv ws cw) (hx0 : xtR x = 0) (hl : ws.length ≤ 256) : Calls Tryd.prog 18 #[xv, wv] w (RrP w (runF x (some (0, x.start)) ws)) := by
  obtain ⟨i3, hi3, hz3, hs3, hb3⟩ := info_parts int_info
  have HST := Lib.hid (fun W (e : Ext w W) s yv ys cy inp (hy : IntsC W yv ys cy) (hv : valsR x.vars ys = 0) => refStep_any W xv x s ys yv cy inp (hx.ext e) hy hx0 hv)
  have HV0 := Lib.hid (xtR_ok hx0).2.2.2.2.1
  have HXX := Lib.hid (And.intro hx hx0)
  obtain ⟨vv, sv, av, c1, c2, c3, rfl, hvv, hsv, hav⟩ := hx
  obtain ⟨As, rfl, hs0⟩ := id hsv
  obtain ⟨Aw, rfl, hcw, _, _⟩ := hw
  obtain ⟨Av, rfl, _⟩ := hvv
  obtain ⟨Aa, as', rfl, _⟩ := hav
  clear hx0 hs0
  go_enter Tryd.func18, Tryd.ntmps18
  go_upto_region 2 with fail
  refine wp_named ?_
  intro W1 hW1
  have hE1 : Ext w W1 := by rw [hW1]; exact alloc_ext _ _
  have e4 : ∀ w', Ext W1 w' → w'.cell? ⟨w.heap.size, 4, none⟩ = some (.slice As x.start.length c2) := fun w' h => h.cell (by rw [hW1]; simp [go_sem])
  have hR1 := Ext.refl W1
  have hOx : OwnL w W1 [xBlk w.heap.size x Av As Aa c1 c2 c3] := (OwnL.nil (Ext.refl w)).add (by rw [hW1]; exact alloc_ext _ _) (A := xBlk w.heap.size x Av As Aa c1 c2 c3) ⟨Nat.le_refl _, by rw [hW1]; exact heap_alloc_new _ _⟩
  have hO0 := hOx.add (alloc_ext W1 (.cells #[.int .i64 0, .slice none 0 0] 34)) (A := .blk W1.heap.size (.cells #[.int .i64 0, .slice none 0 0] 34 (0, 0))) ⟨Nat.le_refl _, heap_alloc_new _ _⟩
  have HD1 : Hid (w.heap.size < W1.heap.size) := Lib.hid (by rw [hW1]; simp)
  clear hW1
  go_upto_region 3 with (with_reducible refine wpList_store_blk _ rfl 34 _ _ rfl W1.heap.size 34 _ _ rfl rfl (heap_alloc_new _ _) (by kernel_rfl) (by kernel_rfl) (by kernel_rfl) ?_; intro W2 h2 g2)
  have hO2 : OwnL w W2 [.blk W1.heap.size (.cells #[.int .i64 0, .slice As x.start.length c2] 34 (0, 0)), xBlk w.heap.size x Av As Aa c1 c2 c3] := hO0.step 0 rfl g2 (fun b hb => by cases hb; rfl) (A' := .blk W1.heap.size (.cells #[.int .i64 0, .slice As x.start.length c2] 34 (0, 0))) ⟨hE1.size, h2⟩ (fun b hb => .inl hb)
  have hO2 : OwnL w W2 (rrL w (xBlk w.heap.size x Av As Aa c1 c2 c3) W1.heap.size (fun _ => False) 0 x.start As x.start.length c2 (.slice none 0 0) []) := cf_old (hO2.add (Ext.refl _) (A := .row 3 1 (.slice none 0 0) 0 []) (World.ownsRow_nil _ _ _ _)) hsv
  have HD2 : Hid (w.heap.size < W1.heap.size) := HD1
  clear e4 hR1 hO0 hOx h2 g2 hE1 HD1
  generalize W1.heap.size = d6 at *
  obtain ⟨d1, hd1⟩ : ∃ d1, d1 = w.heap.size := ⟨_, rfl⟩
  rw [← hd1] at hO2 HD2 ⊢
  have HDW := Lib.hid hd1
  clear hd1
  go_wp2
  go_loopw [5, 7, 8] (fun ov cv iv wr => ∃ (i : Nat) (k : Int) (cur : Option (Int × List Int)), iv = .int .i64 i ∧ cv = .int .i64 k ∧ i ≤ ws.length ∧ Hid (CurK k cur) ∧ Hid (RrI w (xBlk d1 x Av As Aa c1 c2 c3) x ws d6 i cur ov wr)) (fun _ _ iv _ => ws.length - (intOf iv).toNat)
  case atStart => exact ⟨0, 1, some (0, x.start), by first | rfl | simp, rfl, Nat.zero_le _, Lib.hid (.inr ⟨rfl, _, rfl⟩), Lib.hid ⟨_, _, _, _, _, _, [], hO2, rfl, by simp, fun q hq => by injection hq with hq; subst hq; exact ⟨rfl, rfl, HV0.out⟩⟩⟩
  case round =>
    clear hO2
    obtain ⟨i, k, cur, rfl, rfl, hi, HK, HI⟩ := hrel
    obtain ⟨W3, hW3⟩ : ∃ W, W = wr := ⟨_, rfl⟩; subst hW3
    obtain ⟨S, s, ys, A, n, c, os, hO, hos, hrf, hq⟩ := HI.out
    by_cases hlt : i < ws.length
    rotate_left
    · have hie : i = ws.length := by omega
      subst hie
      have HR : Hid (runF x (some (0, x.start)) ws = os) := Lib.hid (by rw [hrf, List.drop_length]; cases cur <;> simp [runF])
      have hown : W3.ownsRow w.heap.size 3 1 u5 os.length (os.map (.int .i64)) := hO.get 1 rfl
      obtain ⟨c', h2⟩ := ints_of_owns hown (by rw [hos]; unfold lenMax; omega)
      have H := Lib.hid (And.intro h2 hO.ext)
      have hlt3 : ¬ (ws.length : Int) < (ws.length : Int) := by omega
      clear hlt hi hO hos hrf hq hown h2 HI
      go_wp2
      go_ret
      obtain ⟨A', h3, h4⟩ := H.out.1
      rw [HR.out]
      exact ⟨A', c', by rw [h3]; rfl, by rw [← h3]; exact H.out.1, H.out.2⟩
    · have hlI : (i : Int) < (ws.length : Int) := by omega
      obtain ⟨bw, ow, hA, hbw, cw0⟩ := hcw.at_int hlt
      subst hA
      rcases HK.out with ⟨rfl, rfl⟩ | ⟨rfl, q, rfl⟩
      · have HRF : Hid (runF x (some (0, x.start)) ws = (os ++ [-1]) ++ runF x none (ws.drop (i + 1))) := Lib.hid (by rw [hrf, runF_none (List.getElem?_eq_getElem hlt)]; simp)
        have HOO := Lib.hid hO
        obtain ⟨W5, hW5⟩ : ∃ W, W = W3 := ⟨_, rfl⟩
        subst hW5
        clear hrf hq hO HI hcw
        have hown : W5.ownsRow w.heap.size 3 1 u5 os.length (os.map (.int .i64)) := (HOO.out).get 1 rfl
        have hsz5 := (HOO.out).ext.size
        have hol : os.length ≤ 256 := by omega
        go_wp2_with (at_builtin; refine wpList_append_own2 rfl _ _ 28 rfl w.heap.size 3 i3 (.int .i64 0) 1 8 Tryd.underlying28 hi3 hz3 hs3 hb3 rfl (by decide) u5 os.length (os.map (.int .i64)) rfl (World.ownsRow.alloc hown _) ⟨W5.heap.size, 0, none⟩ 1 1 [.int .i64 (-1)] rfl rfl (new_cell _ _ _ _ (by first | rfl | simp)) (one_int _) (by unfold maxLen; omega) (by omega) (by simp; omega) ?_; intro v6 w6 hown6 hg6 hb6)
        have hO6 := ((HOO.out).trans (alloc_ext W5 (.cells #[.int .i64 (-1)] 3))).app 1 rfl hg6 hown6 hb6
        have hlen : (os ++ [-1]).length = os.length + 1 := by simp
        have hmap : (os ++ [-1]).map (Value.int .i64) = os.map (.int .i64) ++ [.int .i64 (-1)] := by simp
        go_roundw
        case rel => exact ⟨i + 1, 0, none, by go_num, rfl, hlt, Lib.hid (.inl ⟨rfl, rfl⟩), Lib.hid ⟨_, _, _, _, _, _, os ++ [-1], (by unfold rrL; rw [hlen, hmap]; exact hO6), by rw [hlen, hos], ⟨HRF.out, fun q hq => by cases hq⟩⟩⟩
        case measure => simp [intOf]; omega
      · obtain ⟨rfl, hyn, hyv⟩ := hq q rfl
        have hstp := fun a (h : ws[i]? = some a) => runF_step (x := x) h (s, ys)
        have hcl := fun j u h => cell_of_blk (hO.get 3 rfl).2 j (u := u) h
        have hd6 := (hO.get 2 rfl).2
        have hI3 : IntsC W3 (.slice A n c) ys c := hO.know 0 rfl hO.ext
        have hlt6 := lt_of_block hd6
        have HRF := Lib.hid hrf
        have HOO := Lib.hid (And.intro hO hd6)
        have hd16 : d1 ≠ d6 := by have := HD2.out; omega
        have hbw6 : bw ≠ d6 := by have := HD2.out; have := HDW.out; omega
        have e0 := fun w' (h : W3.grownBy w' (some d6)) => h.cell (hcl 0 (.int .i64 x.ins) rfl) (by simpa using hd16)
        have e1 := fun w' (h : W3.grownBy w' (some d6)) => h.cell (hcl 1 (.int .i64 x.outs) rfl) (by simpa using hd16)
        have e2 := fun w' (h : W3.grownBy w' (some d6)) => h.cell (hcl 2 (.int .i64 x.states) rfl) (by simpa using hd16)
        have e3 := fun w' (h : W3.grownBy w' (some d6)) => h.cell (hcl 3 (.slice Av x.vars.length c1) rfl) (by simpa using hd16)
        have e4 := fun w' (h : W3.grownBy w' (some d6)) => h.cell (hcl 4 (.slice As x.start.length c2) rfl) (by simpa using hd16)
        have e5 := fun w' (h : W3.grownBy w' (some d6)) => h.cell (hcl 5 (.slice Aa x.arcs.length c3) rfl) (by simpa using hd16)
        have cw1 := fun w' (h : W3.grownBy w' (some d6)) => h.cell (hO.ext.cell cw0) (by simpa using hbw6)
        obtain ⟨a, ha⟩ : ∃ a, a = ws[i] := ⟨_, rfl⟩
        rw [← ha] at cw1
        have hstp := hstp a (by rw [ha]; exact List.getElem?_eq_getElem hlt)
        obtain ⟨q, hq⟩ : ∃ q, q = stepR x s ys a := ⟨_, rfl⟩
        have HSV : Hid (q = stepR x s ys a) := Lib.hid hq
        rw [← hq] at hstp
        obtain ⟨⟨t, zs, o, can⟩, hqt⟩ : ∃ p, p = stT q := ⟨_, rfl⟩
        have HQT := Lib.hid hqt
        have HSTP := Lib.hid hstp
        have HST3 := Lib.hid (fun W (e : Ext W3 W) => by
          have h := HST.out W (hO.ext.trans e) s _ ys c a (hI3.ext e) hyv
          rw [← hq, ← hqt] at h
          exact h)
        unfold StQ at HST3
        dsimp only at HST3
        have HYV := Lib.hid (And.intro hyv hyn)
        clear hq hrf hO hcl hI3 ha hstp hqt hyv hyn HI hcw cw0
        go_upto_region 8 with fail
        refine RI.wp_region_inv 13 (RnI W3 d6 1 6 11 #[.int .i64 s, .slice A n c] (tp3 o can) t zs) (fun k => [1, 6, 11].contains k) (fun k => ([[], [], [], [], [2, 3], [2, 3, 4], [0, 1, 2, 3, 4, 5], [0, 1, 2, 3, 4, 5, 6], [0, 1, 2, 3, 4, 5, 6, 7], [0, 1, 2, 3, 4, 5, 6, 7], [0, 1, 2, 3, 4, 5, 6, 7], [0, 1, 2, 3, 4, 5, 6, 7, 8], [0, 1, 2, 3, 4, 5, 6, 7, 8, 9, 11], [0, 1, 2, 3, 4, 5, 6, 7, 8, 9, 10, 11, 12]] : List (List Nat)).getD k []) (by kernel_rfl) (by kernel_rfl) ?_ ?_
        rotate_left; simp only [List.take_succ_cons, List.take_zero]; rotate_left
        · exact RnI.start HOO.out.2 (Ext.refl _).drew
        repeat (first | (with_reducible refine RI.lexL_quiet' (v := ?_) ?_ ?_ ?_ ?_; rotate_left; (· with_reducible rfl); (· decide); (· intro G w1 hI1 hA1; have hw1 := hI1.ext; go_simp; with_reducible rfl); (try simp only [Act.put, List.setIfInBounds_toArray, List.set_cons_zero, List.set_cons_succ])) | (with_reducible refine RI.lexL_skip ?_ ?_; (· simp [Region.wanted, yielded, undef]); (try simp only [Act.put, List.setIfInBounds_toArray, List.set_cons_zero, List.set_cons_succ])) | (with_reducible refine RI.lexL_quiet (v := ?_) ?_ ?_ ?_ ?_; rotate_left; (· simp [Region.wanted, yielded, undef]); (· decide); (· intro G w1 hI1 hA1; have hw1 := hI1.ext; go_simp; with_reducible rfl); (try simp only [Act.put, List.setIfInBounds_toArray, List.set_cons_zero, List.set_cons_succ])))
        with_reducible refine RI.lexL_give' ?_ ?_ ?_ ?_; (· with_reducible rfl); (· decide)
        · intro G w5 hI hA hg
          have hb := hI.o0 hg
          have j0 := cell_of_blk hb 0 (u := .int .i64 s) rfl
          have j1 := cell_of_blk hb 1 (u := .slice A n c) rfl
          go_simp
          exact hI.load (by decide) (by decide) hg
        intro v1 G w5 hI hs2
        have hv1 := hI.a0 v1 (hs2 1 v1 rfl)
        subst hv1
        clear hI hs2 G w5
        (try simp only [Act.put, List.setIfInBounds_toArray, List.set_cons_zero, List.set_cons_succ])
        repeat (first | (with_reducible refine RI.lexL_quiet' (v := ?_) ?_ ?_ ?_ ?_; rotate_left; (· with_reducible rfl); (· decide); (· intro G w1 hI1 hA1; have hw1 := hI1.ext; go_simp; with_reducible rfl); (try simp only [Act.put, List.setIfInBounds_toArray, List.set_cons_zero, List.set_cons_succ])) | (with_reducible refine RI.lexL_skip ?_ ?_; (· simp [Region.wanted, yielded, undef]); (try simp only [Act.put, List.setIfInBounds_toArray, List.set_cons_zero, List.set_cons_succ])) | (with_reducible refine RI.lexL_quiet (v := ?_) ?_ ?_ ?_ ?_; rotate_left; (· simp [Region.wanted, yielded, undef]); (· decide); (· intro G w1 hI1 hA1; have hw1 := hI1.ext; go_simp; with_reducible rfl); (try simp only [Act.put, List.setIfInBounds_toArray, List.set_cons_zero, List.set_cons_succ])))
        with_reducible refine RI.lexL_give' ?_ ?_ ?_ ?_; (· with_reducible rfl); (· decide)
        · intro G w5 hI hA hg
          have e5' := hI.ext1 HOO.out.2 hg
          have hw5 := hI.ext
          go_simp
          refine (HST3.out w5 e5').mono ?_
          rintro e w6 ⟨A', c', rfl, h1, h2, e6⟩
          exact ⟨_, rfl, hI.call (by decide) (by decide) hg e6 h1 h2⟩
        intro v6 G w5 hI hs2
        obtain ⟨A6, c6, hv6, -⟩ := hI.c v6 (hs2 6 v6 rfl)
        unfold tp3 cfgV at hv6
        subst hv6
        clear hI hs2 G w5
        (try simp only [Act.put, List.setIfInBounds_toArray, List.set_cons_zero, List.set_cons_succ])
        repeat (first | (with_reducible refine RI.lexL_quiet' (v := ?_) ?_ ?_ ?_ ?_; rotate_left; (· with_reducible rfl); (· decide); (· intro G w1 hI1 hA1; have hw1 := hI1.ext; go_simp; with_reducible rfl); (try simp only [Act.put, List.setIfInBounds_toArray, List.set_cons_zero, List.set_cons_succ])) | (with_reducible refine RI.lexL_skip ?_ ?_; (· simp [Region.wanted, yielded, undef]); (try simp only [Act.put, List.setIfInBounds_toArray, List.set_cons_zero, List.set_cons_succ])) | (with_reducible refine RI.lexL_quiet (v := ?_) ?_ ?_ ?_ ?_; rotate_left; (· simp [Region.wanted, yielded, undef]); (· decide); (· intro G w1 hI1 hA1; have hw1 := hI1.ext; go_simp; with_reducible rfl); (try simp only [Act.put, List.setIfInBounds_toArray, List.set_cons_zero, List.set_cons_succ])))
        with_reducible refine RI.lexL_give' ?_ ?_ ?_ ?_; (· with_reducible rfl); (· decide)
        · intro G w5 hI hA hg
          have h1 := hA 1 (by decide) _ rfl
          have h6 := hA 6 (by decide) _ rfl
          refine gives_store_blk 34 (.tmp 6) (.tmp 29) ?_ d6 ?_ ?_ (hI.o2 hg) (cells := #[.int .i64 t, .slice A6 zs.length c6]) rfl (by kernel_rfl) (by kernel_rfl) (fun w' hB hgr => hI.store (by decide) (by decide) tp3_inj hlt6 h1 h6 hB hgr) <;> first | rfl | exact rfl | (go_simp; done)
        intro v11 G w5 hI hs2
        clear hI hs2 G w5
        (try simp only [Act.put, List.setIfInBounds_toArray, List.set_cons_zero, List.set_cons_succ])
        repeat (first | (with_reducible refine RI.lexL_quiet' (v := ?_) ?_ ?_ ?_ ?_; rotate_left; (· with_reducible rfl); (· decide); (· intro G w1 hI1 hA1; have hw1 := hI1.ext; go_simp; with_reducible rfl); (try simp only [Act.put, List.setIfInBounds_toArray, List.set_cons_zero, List.set_cons_succ])) | (with_reducible refine RI.lexL_skip ?_ ?_; (· simp [Region.wanted, yielded, undef]); (try simp only [Act.put, List.setIfInBounds_toArray, List.set_cons_zero, List.set_cons_succ])) | (with_reducible refine RI.lexL_quiet (v := ?_) ?_ ?_ ?_ ?_; rotate_left; (· simp [Region.wanted, yielded, undef]); (· decide); (· intro G w1 hI1 hA1; have hw1 := hI1.ext; go_simp; with_reducible rfl); (try simp only [Act.put, List.setIfInBounds_toArray, List.set_cons_zero, List.set_cons_succ])))
        with_reducible refine RI.lexL_nil ?_; intro w1 hI1; simp only [List.drop_succ_cons, List.drop_zero]
        obtain ⟨A', c', hv', hi6, hn6, h11⟩ := hI1.c _ rfl
        obtain ⟨q1, q2⟩ := cfgV_inj (tp3_inj (o := o) (can := can) _ _ hv')
        subst q1 q2
        have hO5 := rr_turn HOO.out.1 hI1.g (h11 v11 rfl) hi6 hn6
        have HO5 := Lib.hid hO5
        clear hI1 hv' hi6 hn6 h11 e0 e1 e2 e3 e4 e5 cw1 hO5
        obtain ⟨W5, hW5⟩ : ∃ W, W = w1 := ⟨_, rfl⟩
        subst hW5
        cases q with
        | none =>
          obtain ⟨rfl, rfl, rfl, rfl⟩ : t = 0 ∧ zs = [] ∧ o = -1 ∧ can = 0 := by
            have h := HQT.out; unfold stT at h; injection h with h1 h; injection h with h2 h; injection h with h3 h4; exact ⟨h1, h2, h3, h4⟩
          have HRF2 : Hid (runF x (some (0, x.start)) ws = (os ++ [-1]) ++ runF x none (ws.drop (i + 1))) := Lib.hid (by rw [HRF.out, HSTP.out]; simp)
          have hown : W5.ownsRow w.heap.size 3 1 u5 os.length (os.map (.int .i64)) := (HO5.out).get 1 rfl
          have hsz5 := (HO5.out).ext.size
          have hol : os.length ≤ 256 := by omega
          go_wp2_with (at_builtin; refine wpList_append_own2 rfl _ _ 28 rfl w.heap.size 3 i3 (.int .i64 0) 1 8 Tryd.underlying28 hi3 hz3 hs3 hb3 rfl (by decide) u5 os.length (os.map (.int .i64)) rfl (World.ownsRow.alloc hown _) ⟨W5.heap.size, 0, none⟩ 1 1 [.int .i64 (-1)] rfl rfl (new_cell _ _ _ _ (by first | rfl | simp)) (one_int _) (by unfold maxLen; omega) (by omega) (by simp; omega) ?_; intro v6 w6 hown6 hg6 hb6)
          have hO6 := ((HO5.out).trans (alloc_ext W5 (.cells #[.int .i64 (-1)] 3))).app 1 rfl hg6 hown6 hb6
          have hlen : (os ++ [-1]).length = os.length + 1 := by simp
          have hmap : (os ++ [-1]).map (Value.int .i64) = os.map (.int .i64) ++ [.int .i64 (-1)] := by simp
          go_roundw
          case rel => exact ⟨i + 1, 0, none, by go_num, rfl, hlt, Lib.hid (.inl ⟨rfl, rfl⟩), Lib.hid ⟨_, _, _, _, _, _, os ++ [-1], (by unfold rrL; rw [hlen, hmap]; exact hO6), by rw [hlen, hos], ⟨HRF2.out, fun q hq => by cases hq⟩⟩⟩
          case measure => simp [intOf]; omega
        | some q =>
          obtain ⟨rfl, rfl, rfl, rfl⟩ : t = q.1 ∧ zs = q.2.1 ∧ o = q.2.2 ∧ can = 1 := by
            have h := HQT.out; unfold stT at h; injection h with h1 h; injection h with h2 h; injection h with h3 h4; exact ⟨h1, h2, h3, h4⟩
          have HRF2 : Hid (runF x (some (0, x.start)) ws = (os ++ [q.2.2]) ++ runF x (some (q.1, q.2.1)) (ws.drop (i + 1))) := Lib.hid (by rw [HRF.out, HSTP.out]; simp)
          have HVL : Hid (valsR x.vars q.2.1 = 0) := Lib.hid (stepR_ok HXX.out.2 HYV.out.1 HSV.out.symm).2
          have hown : W5.ownsRow w.heap.size 3 1 u5 os.length (os.map (.int .i64)) := (HO5.out).get 1 rfl
          have hsz5 := (HO5.out).ext.size
          have hol : os.length ≤ 256 := by omega
          go_wp2_with (at_builtin; refine wpList_append_own2 rfl _ _ 28 rfl w.heap.size 3 i3 (.int .i64 0) 1 8 Tryd.underlying28 hi3 hz3 hs3 hb3 rfl (by decide) u5 os.length (os.map (.int .i64)) rfl (World.ownsRow.alloc hown _) ⟨W5.heap.size, 0, none⟩ 1 1 [.int .i64 (q.2.2)] rfl rfl (new_cell _ _ _ _ (by first | rfl | simp)) (one_int _) (by unfold maxLen; omega) (by omega) (by simp; omega) ?_; intro v6 w6 hown6 hg6 hb6)
          have hO6 := ((HO5.out).trans (alloc_ext W5 (.cells #[.int .i64 (q.2.2)] 3))).app 1 rfl hg6 hown6 hb6
          have hlen : (os ++ [q.2.2]).length = os.length + 1 := by simp
          have hmap : (os ++ [q.2.2]).map (Value.int .i64) = os.map (.int .i64) ++ [.int .i64 (q.2.2)] := by simp
          go_roundw
          case rel => exact ⟨i + 1, 1, some (q.1, q.2.1), by go_num, rfl, hlt, Lib.hid (.inr ⟨rfl, _, rfl⟩), Lib.hid ⟨_, _, _, _, _, _, os ++ [q.2.2], (by unfold rrL; rw [hlen, hmap]; exact hO6), by rw [hlen, hos], ⟨HRF2.out, fun p hp => by injection hp with hp; subst hp; exact ⟨rfl, rfl, HVL.out⟩⟩⟩⟩
          case measure => simp [intOf]; omega
end Go.Proofs.YtggffdkgfgdaoaaDoor
