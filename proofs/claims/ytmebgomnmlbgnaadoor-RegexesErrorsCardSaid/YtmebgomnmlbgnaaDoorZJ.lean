/-    -/
import Derived.Test.YtmebgomnmlbgnaaDoorZI
import Derived.Test.YtmebgomnmlbgnaaDoorZF
import Derived.Recover
set_option linter.unnecessarySimpa false
set_option linter.unusedSectionVars false
namespace Go.Proofs.YtmebgomnmlbgnaaDoor
open Go.RowKit
set_option linter.unusedVariables false
set_option linter.unusedSimpArgs false
attribute [local go_sem] Oper.quietV quietV Oper.gives givesV ext_refl_iff ext_alloc_iff ext_drew_iff ext_drewN_iff
theorem or_from {s : ByteArray} {sy : Nat} (hs : s.size ≤ 1000000) (hsy : sy ≤ 16) {rec : Nat → PR} {i : Nat} (hi : i ≤ s.size) (hrec : ∀ k, i < k → k ≤ s.size → ParS s sy 64 k (rec k) ∧ Fine s k (rec k)) : ParS s sy 64 i (pOr s sy rec i) := by
  have hf : ∀ l k, i ≤ l → l < k → k ≤ s.size → Fine s k (rec k) := fun l k h1 h2 h3 => (hrec k (by omega) h3).2
  have hat : ∀ k, i ≤ k → k ≤ s.size → ParS s sy 121 k (pAtom s sy rec k) := fun k h1 h2 => atom_any hs hsy h2 (fun l h3 h4 => hrec l (by omega) h4)
  have hst : ∀ k, i ≤ k → k ≤ s.size → ParS s sy 117 k (pStar s sy rec k) := fun k h1 h2 => star_any hs (hat k h1 h2) (pAtom_fine h2 (fun l h3 h4 => hf k l h1 h3 h4))
  have hno : ∀ k, i ≤ k → k ≤ s.size → ParS s sy 115 k (pNot s sy rec k) := fun k h1 h2 => pnot_any hs h2 (fun l h3 h4 => hst l (by omega) h4) (fun l h3 h4 => pStar_fine h4 (fun m h5 h6 => hf l m (by omega) h5 h6))
  have hse : ∀ k, i ≤ k → k ≤ s.size → ParS s sy 113 k (pSeq s sy rec k) := fun k h1 h2 => pseq_any hs h2 (fun l h3 h4 => hno l (by omega) h4) (fun l h3 h4 => pNot_fine h4 (fun m h5 h6 => hf l m (by omega) h5 h6))
  have han : ∀ k, i ≤ k → k ≤ s.size → ParS s sy 88 k (pAnd s sy rec k) := fun k h1 h2 => pand_any hs h2 (fun l h3 h4 => hse l (by omega) h4) (fun l h3 h4 => pSeq_fine h4 (fun m h5 h6 => hf l m (by omega) h5 h6))
  exact por_any hs hi (fun l h3 h4 => han l h3 h4) (fun l h3 h4 => pAnd_fine h4 (fun m h5 h6 => hf l m (by omega) h5 h6))
theorem or_all {s : ByteArray} {sy : Nat} (hs : s.size ≤ 1000000) (hsy : sy ≤ 16) : ∀ (f i : Nat), i ≤ s.size → s.size - i < f → ParS s sy 64 i (pAll s sy f i)
  | 0, i, _, h => absurd h (by omega)
  | f + 1, i, hi, h => or_from hs hsy hi (fun k h1 h2 => ⟨or_all hs hsy f k h2 (by omega), pAll_fine f k h2⟩)
theorem notN_cnt : ∀ (n : Nat) (x : Rx), (notN n x).cnt = x.cnt + n
  | 0, x => rfl
  | n + 1, x => by rw [notN, notN_cnt n (.not x)]; simp [Rx.cnt]; omega
def Thin (i : Nat) : PR → Prop
  | .ok r j => r.cnt + 1 ≤ 2 * (j - i)
  | .bad _ => True
section
variable {s : ByteArray} {sy : Nat}
theorem pAtom_thin {rec : Nat → PR} {i : Nat} (hi : i ≤ s.size) (h : ∀ k, i < k → k ≤ s.size → Thin k (rec k) ∧ Fine s k (rec k)) : Thin i (pAtom s sy rec i) := by
  unfold pAtom
  split
  · show 1 + 1 ≤ 2 * (i + 1 - i); omega
  · split
    · show 1 + 1 ≤ 2 * (i + 1 - i); omega
    · split
      · show 1 + 1 ≤ 2 * (i + 1 - i); omega
      · split
        · rename_i h1
          have h2 := takP_in h1
          have h3 := h (i + 1) (by omega) (by omega)
          split
          · trivial
          · rename_i x j e
            rw [e] at h3
            split
            · have h4 := h3.1; have h5 := h3.2.1; unfold Thin at h4 ⊢; omega
            · trivial
        · trivial
theorem starL_thin : ∀ (f : Nat) (x : Rx) (i j : Nat), i < j → x.cnt + 1 ≤ 2 * (j - i) → Thin i (starL s f x j)
  | 0, x, i, j, _, h => h
  | f + 1, x, i, j, hij, h => by
    unfold starL
    split
    · exact starL_thin f (.star x) i (j + 1) (by omega) (by simp only [Rx.cnt]; omega)
    · exact h
theorem pStar_thin {rec : Nat → PR} {i : Nat} (hi : i ≤ s.size) (h : ∀ k, i < k → k ≤ s.size → Thin k (rec k) ∧ Fine s k (rec k)) : Thin i (pStar s sy rec i) := by
  have h1 := pAtom_thin (sy := sy) hi h
  have h2 := pAtom_fine (sy := sy) hi (fun k a b => (h k a b).2)
  unfold pStar
  split
  · trivial
  · rename_i x j e
    rw [e] at h1 h2
    exact starL_thin _ x i j h2.1 h1
theorem pNot_thin {rec : Nat → PR} {i : Nat} (hi : i ≤ s.size) (h : ∀ k, i < k → k ≤ s.size → Thin k (rec k) ∧ Fine s k (rec k)) : Thin i (pNot s sy rec i) := by
  unfold pNot
  have h0 := tildeL_fine (s := s) (s.size + 1 - i) i hi
  have h1 := pStar_thin (sy := sy) h0 (rec := rec) (fun k hk hk2 => h k (by omega) hk2)
  have h2 := pStar_fine (sy := sy) h0 (rec := rec) (fun k hk hk2 => (h k (by omega) hk2).2)
  unfold notF
  split
  · trivial
  · rename_i x j e
    rw [e] at h1 h2
    have h3 := h2.1
    have h1 : x.cnt + 1 ≤ 2 * (j - (i + tildeL s (s.size + 1 - i) i)) := h1
    show (notN _ x).cnt + 1 ≤ 2 * (j - i)
    rw [notN_cnt]
    omega
theorem loopP_thin {cond : Nat → Option Nat} {sub : Nat → PR} {mk : Rx → Rx → Rx} {i : Nat} (hm : ∀ x y, (mk x y).cnt = x.cnt + y.cnt + 1) (hc : ∀ j k, cond j = some k → j ≤ k ∧ k ≤ s.size) (h : ∀ k, i ≤ k → k ≤ s.size → Thin k (sub k) ∧ Fine s k (sub k)) :
    ∀ (f : Nat) (x : Rx) (j : Nat), i < j → j ≤ s.size → x.cnt + 1 ≤ 2 * (j - i) → Thin i (loopP cond sub mk f x j)
  | 0, x, j, h1, h2, h3 => h3
  | f + 1, x, j, h1, h2, h3 => by
    unfold loopP
    split
    · exact h3
    · rename_i k e
      have h4 := hc j k e
      have h5 := h k (by omega) h4.2
      split
      · trivial
      · rename_i y l e2
        rw [e2] at h5
        have h6 := h5.1; have h7 := h5.2.1; have h8 := h5.2.2
        unfold Thin at h6
        exact loopP_thin hm hc h f (mk x y) l (by omega) h8 (by rw [hm]; omega)
theorem manyP_thin {cond : Nat → Option Nat} {sub : Nat → PR} {mk : Rx → Rx → Rx} {i : Nat} (hi : i ≤ s.size) (hm : ∀ x y, (mk x y).cnt = x.cnt + y.cnt + 1) (hc : ∀ j k, cond j = some k → j ≤ k ∧ k ≤ s.size) (h : ∀ k, i ≤ k → k ≤ s.size → Thin k (sub k) ∧ Fine s k (sub k)) : Thin i (manyP s cond sub mk i) := by
  have h1 := h i (Nat.le_refl _) hi
  unfold manyP
  split
  · trivial
  · rename_i x j e
    rw [e] at h1
    exact loopP_thin hm hc h _ x j h1.2.1 h1.2.2 h1.1
theorem pAll_thin : ∀ (f i : Nat), i ≤ s.size → Thin i (pAll s sy f i)
  | 0, i, h => trivial
  | f + 1, i, h => by
    have hr : ∀ k, k ≤ s.size → Thin k (pAll s sy f k) ∧ Fine s k (pAll s sy f k) := fun k hk => ⟨pAll_thin f k hk, pAll_fine f k hk⟩
    have hno : ∀ k, k ≤ s.size → Thin k (pNot s sy (pAll s sy f) k) ∧ Fine s k (pNot s sy (pAll s sy f) k) := fun k hk => ⟨pNot_thin hk (fun l _ h2 => hr l h2), pNot_fine hk (fun l _ h2 => (hr l h2).2)⟩
    have hse : ∀ k, k ≤ s.size → Thin k (pSeq s sy (pAll s sy f) k) ∧ Fine s k (pSeq s sy (pAll s sy f) k) := fun k hk => ⟨manyP_thin hk (fun _ _ => rfl) (fun j k e => seqC_in e) (fun l _ h2 => hno l h2), pSeq_fine hk (fun l _ h2 => (hr l h2).2)⟩
    have han : ∀ k, k ≤ s.size → Thin k (pAnd s sy (pAll s sy f) k) ∧ Fine s k (pAnd s sy (pAll s sy f) k) := fun k hk => ⟨manyP_thin hk (fun _ _ => rfl) (fun j k e => binC_in e) (fun l _ h2 => hse l h2), pAnd_fine hk (fun l _ h2 => (hr l h2).2)⟩
    exact manyP_thin h (fun _ _ => rfl) (fun j k e => binC_in e) (fun l _ h2 => han l h2)
end
section
variable {s : ByteArray} {sy : Nat}
end
mutual
def sizT : Tr → Nat
  | .mk _ _ ts => sizTs 1 ts
def sizTs : Nat → List Tr → Nat
  | n, [] => n
  | n, t :: l => if 64 < n then n else sizTs (n + sizT t) l
end
mutual
theorem siz_le : ∀ t : Tr, sizT t ≤ cntT t ∧ (sizT t ≤ 64 → sizT t = cntT t)
  | .mk o n ts => by
    have := sizs_le 1 ts
    simp only [sizT, cntT]
    exact ⟨by omega, fun h => by have := this.2 h; omega⟩
theorem sizs_le : ∀ (n : Nat) (ts : List Tr), sizTs n ts ≤ n + cntTs ts ∧ (sizTs n ts ≤ 64 → sizTs n ts = n + cntTs ts)
  | n, [] => by simp [sizTs, cntTs]
  | n, t :: l => by
    have h1 := siz_le t
    unfold sizTs
    split
    · rename_i h; exact ⟨by omega, fun h2 => by omega⟩
    · rename_i h
      have h2 := sizs_le (n + sizT t) l
      simp only [cntTs]
      refine ⟨by omega, fun h3 => ?_⟩
      have h4 := h2.2 h3
      have h5 : sizT t ≤ 64 := by omega
      have := h1.2 h5
      omega
end
theorem sizTs_big : ∀ (n : Nat) (ts : List Tr), 64 < n → sizTs n ts = n
  | n, [], _ => rfl
  | n, t :: l, h => by unfold sizTs; rw [if_pos h]
def SizS (k : Nat) : Prop := ∀ (t : Tr) (w : World) (v : Value), SizeOf.sizeOf t ≤ k → cntT t ≤ 1000000 → NodeV w t v → Calls Tryd.prog 58 #[v] w (ErrP w (sizT t : Int))
set_option maxRecDepth 100000 in
set_option maxHeartbeats 16000000 in
theorem siz_step (k : Nat) (IH : SizS k) : SizS (k + 1) := by
  intro t w v hk hcn hN
  obtain ⟨_, A, c, rfl, hA, hnc, hnm⟩ := node_nodes hN
  unfold lenMax at hnm
  have hsz : ∀ s ∈ t.subs, SizeOf.sizeOf s ≤ k := fun s h => by have := Tr.sub_lt h; omega
  have hcs : cntTs t.subs + 1 ≤ 1000000 := by rw [← cntT_eq]; exact hcn
  obtain ⟨r, hr⟩ : ∃ r, r = sizT t := ⟨_, rfl⟩
  have hr2 : r = sizTs 1 t.subs := by rw [hr]; cases t; rfl
  have hrb : r ≤ 1000000 := by rw [hr]; exact Nat.le_trans (siz_le t).1 hcn
  rw [← hr]
  have HX := Lib.hid (And.intro hA (And.intro hsz IH))
  have HR0 := Lib.hid hr2
  generalize t.op = o1 at *
  generalize t.n = n1 at *
  generalize t.subs = ts at *
  clear hk hcn hN hA hsz IH hr hr2
  go_enter Tryd.func58, Tryd.ntmps58
  go_upto_region 1 with fail
  refine wp_named ?_
  intro W1 hW1
  have hE1 : Ext w W1 := by rw [hW1]; exact alloc_ext _ _
  have k2 : ∀ w', Ext W1 w' → w'.cell? ⟨w.heap.size, 2, none⟩ = some (.slice A ts.length c) := fun w' h => h.cell (by rw [hW1]; simp [go_sem])
  have HE1 := Lib.hid hE1
  have HX := Lib.hid (And.intro (HX.out.1.ext hE1) HX.out.2)
  have hR1 := Ext.refl W1
  clear hW1 hE1
  go_wp2
  clear k2
  go_loopw [3, 9] (fun nv iv wr => ∃ i m : Nat, nv = .int .i64 (m : Int) ∧ iv = .int .i64 (i : Int) ∧ i ≤ ts.length ∧ Hid (r = sizTs m (ts.drop i) ∧ m ≤ 2000000) ∧ Hid (Ext W1 wr)) (fun _ iv _ => ts.length - (intOf iv).toNat)
  case atStart => exact ⟨0, 1, by first | rfl | simp, by first | rfl | simp, Nat.zero_le _, Lib.hid ⟨by rw [HR0.out]; rfl, by omega⟩, Lib.hid (Ext.refl _)⟩
  case round =>
    obtain ⟨i, m, rfl, rfl, hi, HF, HW⟩ := hrel
    obtain ⟨W5, hW5⟩ : ∃ W, W = wr := ⟨_, rfl⟩; subst hW5
    have hR5 := Ext.refl W5
    have hmb := HF.out.2
    by_cases hlt : i < ts.length
    · have hlI : (i : Int) < (ts.length : Int) := by omega
      obtain ⟨s, hsi⟩ : ∃ s, ts[i]? = some s := ⟨_, List.getElem?_eq_getElem hlt⟩
      obtain ⟨bs, os, A1, c1, hA, d0, d1, d2, hns⟩ := HX.out.1.at_ hsi
      subst hA
      have d0 := fun w' (h : Ext W5 w') => (HW.out.trans h).cell d0
      have d1 := fun w' (h : Ext W5 w') => (HW.out.trans h).cell d1
      have d2 := fun w' (h : Ext W5 w') => (HW.out.trans h).cell d2
      have hdr : ts.drop i = s :: ts.drop (i + 1) := by
        rw [List.drop_eq_getElem_cons hlt]
        rw [List.getElem?_eq_getElem hlt] at hsi
        rw [Option.some.inj hsi]
      by_cases hbig : 64 < m
      · have hbI : (64 : Int) < (m : Int) := by omega
        have HR : Hid (r = m) := Lib.hid (by rw [HF.out.1]; exact sizTs_big _ _ hbig)
        have HW6 := Lib.hid (HW.out.trans (alloc_ext W5 (.cells #[.int .u8 (s.op : Int), .int .i64 s.n, .slice A1 s.subs.length c1] 35)))
        clear hsi hdr hns
        go_wp2
        go_ret
        exact ⟨by rw [HR.out]; rfl, HE1.out.trans HW6.out⟩
      · have hbI : ¬ (64 : Int) < (m : Int) := by omega
        have hc1 : cntT s ≤ 1000000 := by
          have h1 := cnt_take ts i s hsi
          have h2 := cnt_le ts (i + 1)
          omega
        have hcl := HX.out.2.2 s (W5.alloc (.cells #[.int .u8 (s.op : Int), .int .i64 s.n, .slice A1 s.subs.length c1] 35)) _ (HX.out.2.1 s (List.mem_of_getElem? hsi)) hc1 (hns.ext (HW.out.trans (alloc_ext W5 _)))
        unfold ErrP at hcl
        have hsb : sizT s ≤ 1000000 := Nat.le_trans (siz_le s).1 hc1
        have hmn : m + sizT s ≤ 2000000 := by
          have h1 := cnt_take ts i s hsi
          have h2 := cnt_le ts (i + 1)
          have h3 := (siz_le s).1
          omega
        have HST : Hid (r = sizTs (m + sizT s) (ts.drop (i + 1))) := Lib.hid (by rw [HF.out.1, hdr, sizTs, if_neg hbig])
        have HW6 := Lib.hid (HW.out.trans (alloc_ext W5 (.cells #[.int .u8 (s.op : Int), .int .i64 s.n, .slice A1 s.subs.length c1] 35)))
        generalize sizT s = q at *
        have hmI : (m : Int) + (q : Int) ≤ 2000000 := by omega
        clear hsi hdr hns hc1
        go_wp2_with ((with_reducible refine hcl.mono ?_); rintro e W8 ⟨rfl, e8⟩)
        refine ⟨⟨i + 1, m + q, by go_num, by go_num, hlt, Lib.hid ⟨HST.out, hmn⟩, Lib.hid (HW6.out.trans e8)⟩, ?_⟩
        simp [intOf]; omega
    · have hie : i = ts.length := by omega
      subst hie
      have hlt2 : ¬ (ts.length : Int) < (ts.length : Int) := by omega
      have HR : Hid (r = m) := Lib.hid (by rw [HF.out.1, List.drop_length]; rfl)
      go_wp2
      go_ret
      exact ⟨by rw [HR.out]; rfl, HE1.out.trans HW.out⟩
theorem siz_all : ∀ k, SizS k
  | 0 => fun t _ _ h => by cases t; simp at h
  | k + 1 => siz_step k (siz_all k)
theorem size_any {t : Tr} {w : World} {v : Value} (hc : cntT t ≤ 1000000) (hN : NodeV w t v) : Calls Tryd.prog 58 #[v] w (ErrP w (sizT t : Int)) := siz_all _ t w v (Nat.le_refl _) hc hN
end Go.Proofs.YtmebgomnmlbgnaaDoor

namespace Go.Proofs.YtmebgomnmlbgnaaDoor
open Go.RowKit
set_option linter.unusedVariables false
set_option linter.unusedSimpArgs false
attribute [local go_sem] Oper.quietV quietV Oper.gives givesV ext_refl_iff ext_alloc_iff ext_drew_iff ext_drewN_iff
theorem caught_idle (args : Array Value) (ha : args.size = 4) (w : World) :
    CallsD Tryd.prog 63 args .returning w fun e u' w' => e = .returned (.tuple #[]) ∧ u' = .returning ∧ w' = w := by
  obtain ⟨a0, a1, a2, a3, rfl⟩ : ∃ a0 a1 a2 a3, args = #[a0, a1, a2, a3] := by
    match args, ha with
    | ⟨[a, b, c, d]⟩, _ => exact ⟨a, b, c, d, rfl⟩
  refine callsD_of_wpS Tryd.func63 rfl fun c₀ cs hu => ?_
  apply wpS_seq
  apply wpS_region
  simp [wpOpsS, go_sem, recoverD, hu, Tryd.ntmps63, Exit.thenS]
  apply wpS_seq
  apply wpS_region
  simp [wpOpsS, go_sem, Tryd.ntmps63, Exit.thenS]
  refine wpS_cond (t := false) (by simp [Act.eval, Array.replicate]) ?_
  simp only [Bool.false_eq_true, if_false]
  refine wpS_of_wp (wp_skip ?_)
  cases c₀
  simp_all [bodyPostS, results, Tryd.results63]
structure RecW (w : World) (bx ba be : Nat) (x : Array Value) (j er : Int) (w' : World) : Prop where
  x : w'.heap[bx]? = some (.cells x 35 (0, 0))
  j : w'.heap[ba]? = some (.cells #[.int .i64 j] 3 (0, 0))
  e : w'.heap[be]? = some (.cells #[.int .i64 er] 29 (0, 0))
  g : ∀ w0, Ext w0 w → w0.heap.size ≤ bx → w0.heap.size ≤ ba → w0.heap.size ≤ be → Ext w0 w'
set_option maxRecDepth 100000 in
set_option maxHeartbeats 4000000 in
theorem caught_wrong {w : World} {bp bx ba be pb : Nat} {s : ByteArray} {j sy : Nat} {x : Array Value} {a0 e0 : Int} (hp : w.heap[bp]? = some (.cells #[.pointer (some ⟨pb, 0, none⟩)] 95 (0, 0))) (hP : PSt w pb s j sy) (hx : w.heap[bx]? = some (.cells x 35 (0, 0))) (hxs : x.size = 3)
    (ha : w.heap[ba]? = some (.cells #[.int .i64 a0] 3 (0, 0))) (he : w.heap[be]? = some (.cells #[.int .i64 e0] 29 (0, 0))) (h1 : bx ≠ ba) (h2 : bx ≠ be) (h3 : ba ≠ be) (h4 : bx ≠ pb) (older : List PanicEntry) (pv : Value) (u : TypeId) :
    CallsD Tryd.prog 63 #[.pointer (some ⟨bp, 0, none⟩), .pointer (some ⟨bx, 0, none⟩), .pointer (some ⟨ba, 0, none⟩), .pointer (some ⟨be, 0, none⟩)] (.panicking ({ v := .iface u pv, recovered := false } :: older)) w fun e u' w' =>
      e = .returned (.tuple #[]) ∧ u' = .panicking ({ v := .iface u pv, recovered := true } :: older) ∧ RecW w bx ba be zNode j 4 w' := by
  obtain ⟨x0, x1, x2, rfl⟩ : ∃ a b c, x = #[a, b, c] := by
    match x, hxs with
    | ⟨[a, b, c]⟩, _ => exact ⟨a, b, c, rfl⟩
  refine callsD_of_wpS Tryd.func63 rfl fun c₀ cs hu => ?_
  apply wpS_seq
  apply wpS_region
  simp [wpOpsS, go_sem, recoverD, hu, Tryd.ntmps63, Exit.thenS]
  apply wpS_seq
  apply wpS_region
  simp [wpOpsS, go_sem, Tryd.ntmps63, Exit.thenS]
  refine wpS_cond (t := true) (by simp [Act.eval, Array.replicate]) ?_
  simp only [if_true]
  refine wpS_of_wp ?_
  have c0 := cell_of_blk hp 0 (u := .pointer (some ⟨pb, 0, none⟩)) rfl
  have c1 := cell_of_blk hP 1 (u := .int .i64 (j : Int)) rfl
  have HA := Lib.hid (fun w8 (g8 : w.grownBy w8 (some bx)) => And.intro (blk_keep ha g8 (Ne.symm h1)) (blk_keep he g8 (Ne.symm h2)))
  have HX := Lib.hid hx
  have HH := Lib.hid (And.intro h1 (And.intro h2 h3))
  clear hx ha he hp hP h1 h2 h3 h4
  change Code.wp Tryd.prog _ _ ⟨#[.pointer (some ⟨bp, 0, none⟩), .pointer (some ⟨bx, 0, none⟩), .pointer (some ⟨ba, 0, none⟩), .pointer (some ⟨be, 0, none⟩), .iface u pv, .iface u pv, .iface u pv, .bool true, undef, undef, undef, undef, undef], []⟩ w
  generalize hmode : FrameMode.panicking ({ v := .iface u pv, recovered := true } :: older) = md
  go_wp2_with (with_reducible refine wpList_store_blk _ rfl 35 _ _ rfl bx 35 _ _ rfl rfl HX.out (by kernel_rfl) (by kernel_rfl) (by kernel_rfl) ?_; intro w8 h8 g8; have q := HA.out w8 g8; have q1 := free_of_blk q.1 0; have q2 := cell_of_blk q.1 0 (u := .int .i64 a0) rfl; have q5 : ∀ v, (w8.setCell ⟨ba, 0, none⟩ v).heap[be]? = some (.cells #[.int .i64 e0] 29 (0, 0)) := fun v => (heap_setCell_other w8 ⟨ba, 0, none⟩ be v (Ne.symm HH.out.2.2)).trans q.2; have q3 := fun v => free_of_blk (q5 v) 0; have q4 := fun v => cell_of_blk (q5 v) 0 (u := .int .i64 e0) rfl)
  refine ⟨rfl, md, rfl, .tuple #[], by simp [results, Tryd.results63], rfl, rfl, ?_⟩
  have q6 := heap_setCell_same w8 ba 0 _ 3 (.int .i64 (j : Int)) q.1
  have q7 := heap_setCell_same (w8.setCell ⟨ba, 0, none⟩ (.int .i64 (j : Int))) be 0 _ 29 (.int .i64 4) (q5 _)
  refine ⟨?_, ?_, q7, fun w0 e0 l1 l2 l3 => ?_⟩
  · rw [heap_setCell_other _ _ _ _ HH.out.2.1, heap_setCell_other _ _ _ _ HH.out.1]; exact h8
  · rw [heap_setCell_other _ _ _ _ HH.out.2.2]; exact q6
  · exact ((Below.grown e0 g8 e0.size (fun k hk => by cases hk; exact l1)).setCell l2 _).setCell l3 _
end Go.Proofs.YtmebgomnmlbgnaaDoor

namespace Go.Proofs.YtmebgomnmlbgnaaDoor
open Go.RowKit
set_option linter.unusedVariables false
set_option linter.unusedSimpArgs false
attribute [local go_sem] Oper.quietV quietV Oper.gives givesV ext_refl_iff ext_alloc_iff ext_drew_iff ext_drewN_iff
theorem load_3 {w : World} {b t : Nat} {v : Int} (h : w.heap[b]? = some (.cells #[.int .i64 v] t (0, 0))) : (loadVar 3 ⟨b, 0, none⟩).run Tryd.prog w = .ok (.int .i64 v) w := by
  have c := cell_of_blk h 0 (u := .int .i64 v) rfl
  have hi : ∀ w, (isAgg 3).run Tryd.prog w = .ok false w := fun w => by kernel_rfl
  simp [go_sem, c, hi]
theorem load_29 {w : World} {b t : Nat} {v : Int} (h : w.heap[b]? = some (.cells #[.int .i64 v] t (0, 0))) : (loadVar 29 ⟨b, 0, none⟩).run Tryd.prog w = .ok (.int .i64 v) w := by
  have c := cell_of_blk h 0 (u := .int .i64 v) rfl
  have hi : ∀ w, (isAgg 29).run Tryd.prog w = .ok false w := fun w => by kernel_rfl
  simp [go_sem, c, hi]
theorem results_c3 {fn : Func} {p q u : Tmp} (h : fn.results = #[.cell p 35, .cell q 3, .cell u 29]) (tmps : Array Value) (w : World) (bx ba be : Nat) (x : Array Value) (j er : Int)
    (hp : tmps.getD p undef = .pointer (some ⟨bx, 0, none⟩)) (hq : tmps.getD q undef = .pointer (some ⟨ba, 0, none⟩)) (hu : tmps.getD u undef = .pointer (some ⟨be, 0, none⟩))
    (hx : w.heap[bx]? = some (.cells x 35 (0, 0))) (hxs : (Tryd.prog.info? 35).map (·.size) = some x.size) (hj : w.heap[ba]? = some (.cells #[.int .i64 j] 3 (0, 0))) (he : w.heap[be]? = some (.cells #[.int .i64 er] 29 (0, 0))) :
    (results fn tmps).run Tryd.prog w = .ok (.tuple #[.agg x, .int .i64 j, .int .i64 er]) w := by
  have hp' : tmps[p]?.getD undef = .pointer (some ⟨bx, 0, none⟩) := by simpa using hp
  have hq' : tmps[q]?.getD undef = .pointer (some ⟨ba, 0, none⟩) := by simpa using hq
  have hu' : tmps[u]?.getD undef = .pointer (some ⟨be, 0, none⟩) := by simpa using hu
  simp [results, h, hp', hq', hu', asAddr, run_loadVar_row w bx 35 35 x (0, 0) _ hx Tryd.underlying35 rfl hxs, load_3 hj, load_29 he]
inductive PA where
  | err (e : Int) (j : Nat)
  | tree (r : Rx)
def parA (s : ByteArray) (sy : Int) : PA :=
  if 16 < sy ∨ 65536 < s.size then .err 3 0 else if sy < 1 then .err 1 0 else
  match pAll s sy.toNat (s.size + 1) 0 with
  | .bad j => .err 4 j
  | .ok r j => if j < s.size then .err 4 j else if 64 < r.cnt then .err 3 0 else .tree r
def PrsP (S : Nat → Prop) (w : World) (pa : PA) (e : Ending) (w' : World) : Prop := match pa with
  | .err er j => e = .returned (.tuple #[.agg zNode, .int .i64 (j : Int), .int .i64 er]) ∧ Ext w w'
  | .tree r => ∃ A c, e = .returned (.tuple #[ndV r.tr A c, .int .i64 0, .int .i64 0]) ∧ NodeB S false w' r.tr (ndV r.tr A c) ∧ Ext w w'
theorem alloc3 (w : World) (A B C : Obj) : (((w.alloc A).alloc B).alloc C).heap[w.heap.size]? = some A ∧ (((w.alloc A).alloc B).alloc C).heap[w.heap.size + 1]? = some B ∧ (((w.alloc A).alloc B).alloc C).heap[w.heap.size + 1 + 1]? = some C := ⟨alloc3_0 w A B C, alloc3_1 w A B C, alloc3_2 w A B C⟩
set_option maxRecDepth 100000 in
set_option maxHeartbeats 4000000 in
theorem parse_limit {S : Nat → Prop} {w : World} {s : ByteArray} {sy : Int} (hs : s.size ≤ 9223372036854775807) (h : 16 < sy ∨ 65536 < s.size) : Calls Tryd.prog 28 #[.string s, .int .i64 sy] w (PrsP S w (.err 3 0)) := by
  by_cases h16 : 16 < sy
  · clear h
    go_enter_defers Tryd.func28, Tryd.ntmps28
    go_upto_region 1 with fail
    refine wp_named ?_
    intro W1 hW1
    have hE1 : Ext w W1 := by rw [hW1]; exact ((alloc_ext _ _).trans (alloc_ext _ _)).trans (alloc_ext _ _)
    have hBB : W1.heap[w.heap.size]? = some (.cells zNode 35 (0, 0)) ∧ W1.heap[w.heap.size + 1]? = some (.cells #[.int .i64 0] 3 (0, 0)) ∧ W1.heap[w.heap.size + 1 + 1]? = some (.cells #[.int .i64 0] 29 (0, 0)) := by rw [hW1]; exact alloc3 _ _ _ _
    have HE1 := Lib.hid hE1
    have HB := Lib.hid hBB
    have HD : Hid (w.heap.size ≤ w.heap.size ∧ w.heap.size ≤ w.heap.size + 1 ∧ w.heap.size ≤ w.heap.size + 1 + 1 ∧ w.heap.size ≠ w.heap.size + 1 ∧ w.heap.size ≠ w.heap.size + 1 + 1 ∧ w.heap.size + 1 ≠ w.heap.size + 1 + 1) := Lib.hid ⟨by omega, by omega, by omega, by omega, by omega, by omega⟩
    clear hW1 hE1 hBB
    generalize w.heap.size + 1 + 1 = be at *
    generalize w.heap.size + 1 = ba at *
    generalize hbx : w.heap.size = bx at *
    have HBX := Lib.hid hbx
    clear hbx
    go_wp2_with (with_reducible refine wpList_store_blk _ rfl 35 _ _ rfl bx 35 _ _ rfl rfl (heap_ext (Ext.refl _) HB.out.1) (by kernel_rfl) (by kernel_rfl) (by kernel_rfl) ?_; intro w8 h8 g8; have q1 := blk_keep (heap_ext (Ext.refl _) HB.out.2.1) g8 (Ne.symm HD.out.2.2.2.1); have q2 := blk_keep (heap_ext (Ext.refl _) HB.out.2.2) g8 (Ne.symm HD.out.2.2.2.2.1); have q5 : ∀ v, (w8.setCell ⟨ba, 0, none⟩ v).heap[be]? = some (.cells #[.int .i64 0] 29 (0, 0)) := fun v => (heap_setCell_other w8 ⟨ba, 0, none⟩ be v (Ne.symm HD.out.2.2.2.2.2)).trans q2; have r1 := free_of_blk q1 0; have r2 := cell_of_blk q1 0 (u := .int .i64 0) rfl; have r3 := fun v => free_of_blk (q5 v) 0; have r4 := fun v => cell_of_blk (q5 v) 0 (u := .int .i64 0) rfl)
    have q6 : (w8.setCell ⟨ba, 0, none⟩ (.int .i64 0)).heap[ba]? = some (.cells #[.int .i64 0] 3 (0, 0)) := heap_setCell_same w8 ba 0 _ 3 (.int .i64 0) q1
    have q7 : ((w8.setCell ⟨ba, 0, none⟩ (.int .i64 0)).setCell ⟨be, 0, none⟩ (.int .i64 3)).heap[be]? = some (.cells #[.int .i64 3] 29 (0, 0)) := heap_setCell_same (w8.setCell ⟨ba, 0, none⟩ (.int .i64 0)) be 0 _ 29 (.int .i64 3) (q5 _)
    have q8 : ((w8.setCell ⟨ba, 0, none⟩ (.int .i64 0)).setCell ⟨be, 0, none⟩ (.int .i64 3)).heap[bx]? = some (.cells zNode 35 (0, 0)) := by rw [heap_setCell_other _ _ _ _ HD.out.2.2.2.2.1, heap_setCell_other _ _ _ _ HD.out.2.2.2.1]; exact h8
    have q9 : ((w8.setCell ⟨ba, 0, none⟩ (.int .i64 0)).setCell ⟨be, 0, none⟩ (.int .i64 3)).heap[ba]? = some (.cells #[.int .i64 0] 3 (0, 0)) := by rw [heap_setCell_other _ _ _ _ HD.out.2.2.2.2.2]; exact q6
    have qE : Ext w ((w8.setCell ⟨ba, 0, none⟩ (.int .i64 0)).setCell ⟨be, 0, none⟩ (.int .i64 3)) := ((Below.grown (HE1.out.trans (Ext.refl _)) g8 (HE1.out.trans (Ext.refl _)).size (fun k hk => by cases hk; rw [HBX.out]; exact HD.out.1)).setCell (by rw [HBX.out]; exact HD.out.2.1) _).setCell (by rw [HBX.out]; exact HD.out.2.2.1) _
    exact ⟨_, results_c3 rfl _ _ bx ba be _ 0 3 (by simp [Act.put]) (by simp [Act.put]) (by simp [Act.put]) q8 (by kernel_rfl) q9 q7, rfl, qE⟩
  · have h65 : (65536 : Int) < (s.size : Int) := by omega
    clear h
    go_enter_defers Tryd.func28, Tryd.ntmps28
    go_upto_region 1 with fail
    refine wp_named ?_
    intro W1 hW1
    have hE1 : Ext w W1 := by rw [hW1]; exact ((alloc_ext _ _).trans (alloc_ext _ _)).trans (alloc_ext _ _)
    have hBB : W1.heap[w.heap.size]? = some (.cells zNode 35 (0, 0)) ∧ W1.heap[w.heap.size + 1]? = some (.cells #[.int .i64 0] 3 (0, 0)) ∧ W1.heap[w.heap.size + 1 + 1]? = some (.cells #[.int .i64 0] 29 (0, 0)) := by rw [hW1]; exact alloc3 _ _ _ _
    have HE1 := Lib.hid hE1
    have HB := Lib.hid hBB
    have HD : Hid (w.heap.size ≤ w.heap.size ∧ w.heap.size ≤ w.heap.size + 1 ∧ w.heap.size ≤ w.heap.size + 1 + 1 ∧ w.heap.size ≠ w.heap.size + 1 ∧ w.heap.size ≠ w.heap.size + 1 + 1 ∧ w.heap.size + 1 ≠ w.heap.size + 1 + 1) := Lib.hid ⟨by omega, by omega, by omega, by omega, by omega, by omega⟩
    clear hW1 hE1 hBB
    generalize w.heap.size + 1 + 1 = be at *
    generalize w.heap.size + 1 = ba at *
    generalize hbx : w.heap.size = bx at *
    have HBX := Lib.hid hbx
    clear hbx
    go_wp2_with (with_reducible refine wpList_store_blk _ rfl 35 _ _ rfl bx 35 _ _ rfl rfl (heap_ext (Ext.refl _) HB.out.1) (by kernel_rfl) (by kernel_rfl) (by kernel_rfl) ?_; intro w8 h8 g8; have q1 := blk_keep (heap_ext (Ext.refl _) HB.out.2.1) g8 (Ne.symm HD.out.2.2.2.1); have q2 := blk_keep (heap_ext (Ext.refl _) HB.out.2.2) g8 (Ne.symm HD.out.2.2.2.2.1); have q5 : ∀ v, (w8.setCell ⟨ba, 0, none⟩ v).heap[be]? = some (.cells #[.int .i64 0] 29 (0, 0)) := fun v => (heap_setCell_other w8 ⟨ba, 0, none⟩ be v (Ne.symm HD.out.2.2.2.2.2)).trans q2; have r1 := free_of_blk q1 0; have r2 := cell_of_blk q1 0 (u := .int .i64 0) rfl; have r3 := fun v => free_of_blk (q5 v) 0; have r4 := fun v => cell_of_blk (q5 v) 0 (u := .int .i64 0) rfl)
    have q6 : (w8.setCell ⟨ba, 0, none⟩ (.int .i64 0)).heap[ba]? = some (.cells #[.int .i64 0] 3 (0, 0)) := heap_setCell_same w8 ba 0 _ 3 (.int .i64 0) q1
    have q7 : ((w8.setCell ⟨ba, 0, none⟩ (.int .i64 0)).setCell ⟨be, 0, none⟩ (.int .i64 3)).heap[be]? = some (.cells #[.int .i64 3] 29 (0, 0)) := heap_setCell_same (w8.setCell ⟨ba, 0, none⟩ (.int .i64 0)) be 0 _ 29 (.int .i64 3) (q5 _)
    have q8 : ((w8.setCell ⟨ba, 0, none⟩ (.int .i64 0)).setCell ⟨be, 0, none⟩ (.int .i64 3)).heap[bx]? = some (.cells zNode 35 (0, 0)) := by rw [heap_setCell_other _ _ _ _ HD.out.2.2.2.2.1, heap_setCell_other _ _ _ _ HD.out.2.2.2.1]; exact h8
    have q9 : ((w8.setCell ⟨ba, 0, none⟩ (.int .i64 0)).setCell ⟨be, 0, none⟩ (.int .i64 3)).heap[ba]? = some (.cells #[.int .i64 0] 3 (0, 0)) := by rw [heap_setCell_other _ _ _ _ HD.out.2.2.2.2.2]; exact q6
    have qE : Ext w ((w8.setCell ⟨ba, 0, none⟩ (.int .i64 0)).setCell ⟨be, 0, none⟩ (.int .i64 3)) := ((Below.grown (HE1.out.trans (Ext.refl _)) g8 (HE1.out.trans (Ext.refl _)).size (fun k hk => by cases hk; rw [HBX.out]; exact HD.out.1)).setCell (by rw [HBX.out]; exact HD.out.2.1) _).setCell (by rw [HBX.out]; exact HD.out.2.2.1) _
    exact ⟨_, results_c3 rfl _ _ bx ba be _ 0 3 (by simp [Act.put]) (by simp [Act.put]) (by simp [Act.put]) q8 (by kernel_rfl) q9 q7, rfl, qE⟩
set_option maxRecDepth 100000 in
set_option maxHeartbeats 4000000 in
theorem parse_arg {S : Nat → Prop} {w : World} {s : ByteArray} {sy : Int} (hs : s.size ≤ 65536) (h : sy < 1) : Calls Tryd.prog 28 #[.string s, .int .i64 sy] w (PrsP S w (.err 1 0)) := by
  have h16 : ¬ 16 < sy := by omega
  have h65 : ¬ (65536 : Int) < (s.size : Int) := by omega
  go_enter_defers Tryd.func28, Tryd.ntmps28
  go_upto_region 1 with fail
  refine wp_named ?_
  intro W1 hW1
  have hE1 : Ext w W1 := by rw [hW1]; exact ((alloc_ext _ _).trans (alloc_ext _ _)).trans (alloc_ext _ _)
  have hBB : W1.heap[w.heap.size]? = some (.cells zNode 35 (0, 0)) ∧ W1.heap[w.heap.size + 1]? = some (.cells #[.int .i64 0] 3 (0, 0)) ∧ W1.heap[w.heap.size + 1 + 1]? = some (.cells #[.int .i64 0] 29 (0, 0)) := by rw [hW1]; exact alloc3 _ _ _ _
  have HE1 := Lib.hid hE1
  have HB := Lib.hid hBB
  have HD : Hid (w.heap.size ≤ w.heap.size ∧ w.heap.size ≤ w.heap.size + 1 ∧ w.heap.size ≤ w.heap.size + 1 + 1 ∧ w.heap.size ≠ w.heap.size + 1 ∧ w.heap.size ≠ w.heap.size + 1 + 1 ∧ w.heap.size + 1 ≠ w.heap.size + 1 + 1) := Lib.hid ⟨by omega, by omega, by omega, by omega, by omega, by omega⟩
  clear hW1 hE1 hBB
  generalize w.heap.size + 1 + 1 = be at *
  generalize w.heap.size + 1 = ba at *
  generalize hbx : w.heap.size = bx at *
  have HBX := Lib.hid hbx
  clear hbx
  go_wp2_with (with_reducible refine wpList_store_blk _ rfl 35 _ _ rfl bx 35 _ _ rfl rfl (heap_ext (Ext.refl _) HB.out.1) (by kernel_rfl) (by kernel_rfl) (by kernel_rfl) ?_; intro w8 h8 g8; have q1 := blk_keep (heap_ext (Ext.refl _) HB.out.2.1) g8 (Ne.symm HD.out.2.2.2.1); have q2 := blk_keep (heap_ext (Ext.refl _) HB.out.2.2) g8 (Ne.symm HD.out.2.2.2.2.1); have q5 : ∀ v, (w8.setCell ⟨ba, 0, none⟩ v).heap[be]? = some (.cells #[.int .i64 0] 29 (0, 0)) := fun v => (heap_setCell_other w8 ⟨ba, 0, none⟩ be v (Ne.symm HD.out.2.2.2.2.2)).trans q2; have r1 := free_of_blk q1 0; have r2 := cell_of_blk q1 0 (u := .int .i64 0) rfl; have r3 := fun v => free_of_blk (q5 v) 0; have r4 := fun v => cell_of_blk (q5 v) 0 (u := .int .i64 0) rfl)
  have q6 : (w8.setCell ⟨ba, 0, none⟩ (.int .i64 0)).heap[ba]? = some (.cells #[.int .i64 0] 3 (0, 0)) := heap_setCell_same w8 ba 0 _ 3 (.int .i64 0) q1
  have q7 : ((w8.setCell ⟨ba, 0, none⟩ (.int .i64 0)).setCell ⟨be, 0, none⟩ (.int .i64 1)).heap[be]? = some (.cells #[.int .i64 1] 29 (0, 0)) := heap_setCell_same (w8.setCell ⟨ba, 0, none⟩ (.int .i64 0)) be 0 _ 29 (.int .i64 1) (q5 _)
  have q8 : ((w8.setCell ⟨ba, 0, none⟩ (.int .i64 0)).setCell ⟨be, 0, none⟩ (.int .i64 1)).heap[bx]? = some (.cells zNode 35 (0, 0)) := by rw [heap_setCell_other _ _ _ _ HD.out.2.2.2.2.1, heap_setCell_other _ _ _ _ HD.out.2.2.2.1]; exact h8
  have q9 : ((w8.setCell ⟨ba, 0, none⟩ (.int .i64 0)).setCell ⟨be, 0, none⟩ (.int .i64 1)).heap[ba]? = some (.cells #[.int .i64 0] 3 (0, 0)) := by rw [heap_setCell_other _ _ _ _ HD.out.2.2.2.2.2]; exact q6
  have qE : Ext w ((w8.setCell ⟨ba, 0, none⟩ (.int .i64 0)).setCell ⟨be, 0, none⟩ (.int .i64 1)) := ((Below.grown (HE1.out.trans (Ext.refl _)) g8 (HE1.out.trans (Ext.refl _)).size (fun k hk => by cases hk; rw [HBX.out]; exact HD.out.1)).setCell (by rw [HBX.out]; exact HD.out.2.1) _).setCell (by rw [HBX.out]; exact HD.out.2.2.1) _
  exact ⟨_, results_c3 rfl _ _ bx ba be _ 0 1 (by simp [Act.put]) (by simp [Act.put]) (by simp [Act.put]) q8 (by kernel_rfl) q9 q7, rfl, qE⟩
set_option maxRecDepth 100000 in
set_option maxHeartbeats 16000000 in
theorem parse_run {S : Nat → Prop} {w : World} {s : ByteArray} {sy : Nat} (hS : New S w) (hs : s.size ≤ 65536) (h1 : 1 ≤ sy) (h2 : sy ≤ 16) : Calls Tryd.prog 28 #[.string s, .int .i64 (sy : Int)] w (PrsP S w (parA s (sy : Int))) := by
  obtain ⟨pa, hpa⟩ : ∃ p, p = parA s (sy : Int) := ⟨_, rfl⟩
  rw [← hpa]
  unfold parA at hpa
  rw [if_neg (by omega), if_neg (by omega), Int.toNat_natCast] at hpa
  have HPA := Lib.hid hpa
  clear hpa
  have h65 : ¬ (65536 : Int) < (s.size : Int) := by omega
  have h16 : ¬ (16 : Int) < (sy : Int) := by omega
  have h01 : ¬ (sy : Int) < 1 := by omega
  have hmf : ∀ (fn : Fn) (first cap : Array Value) (w : World), (Instr.makeFunc fn first cap).run Tryd.prog w = .ok (.func fn first cap) w := fun _ _ _ _ => rfl
  have HOR := Lib.hid (or_all (s := s) (sy := sy) (by omega) h2 (s.size + 1) 0 (Nat.zero_le _) (by omega))
  have HFI := Lib.hid (pAll_fine (s := s) (sy := sy) (s.size + 1) 0 (Nat.zero_le _))
  have HTH := Lib.hid (pAll_thin (s := s) (sy := sy) (s.size + 1) 0 (Nat.zero_le _))
  obtain ⟨q, hq⟩ : ∃ q, q = pAll s sy (s.size + 1) 0 := ⟨_, rfl⟩
  rw [← hq] at HOR HFI HTH
  have HQ := Lib.hid hq
  clear hq
  go_enter_defers Tryd.func28, Tryd.ntmps28
  go_upto_region 1 with fail
  refine wp_named ?_
  intro W1 hW1
  have hE1 : Ext w W1 := by rw [hW1]; exact ((alloc_ext _ _).trans (alloc_ext _ _)).trans (alloc_ext _ _)
  have hBB : W1.heap[w.heap.size]? = some (.cells zNode 35 (0, 0)) ∧ W1.heap[w.heap.size + 1]? = some (.cells #[.int .i64 0] 3 (0, 0)) ∧ W1.heap[w.heap.size + 1 + 1]? = some (.cells #[.int .i64 0] 29 (0, 0)) := by rw [hW1]; exact alloc3 _ _ _ _
  have HE1 := Lib.hid hE1
  have HB := Lib.hid hBB
  have HD : Hid (w.heap.size ≤ w.heap.size ∧ w.heap.size ≤ w.heap.size + 1 ∧ w.heap.size ≤ w.heap.size + 1 + 1 ∧ w.heap.size ≠ w.heap.size + 1 ∧ w.heap.size ≠ w.heap.size + 1 + 1 ∧ w.heap.size + 1 ≠ w.heap.size + 1 + 1) := Lib.hid ⟨by omega, by omega, by omega, by omega, by omega, by omega⟩
  clear hW1 hE1 hBB
  generalize w.heap.size + 1 + 1 = be at *
  generalize w.heap.size + 1 = ba at *
  generalize hbx : w.heap.size = bx at *
  have HBX := Lib.hid hbx
  clear hbx
  go_upto_region 7 with fail
  refine wp_named ?_
  intro W3 hW3
  have hE3 : Ext W1 W3 := by rw [hW3]; exact (alloc_ext _ _).trans (alloc_ext _ _)
  have hP : PSt W3 W1.heap.size s 0 sy := by rw [hW3]; exact heap_ext (alloc_ext _ _) (heap_alloc_new _ _)
  have hbp : W3.heap[W1.heap.size + 1]? = some (.cells #[.pointer (some ⟨W1.heap.size, 0, none⟩)] 95 (0, 0)) := by rw [hW3]; exact alloc2_1 _ _ _
  have HE3 := Lib.hid hE3
  have HP3 := Lib.hid hP
  have HBP := Lib.hid hbp
  have HNE : Hid (bx < W1.heap.size ∧ ba < W1.heap.size ∧ be < W1.heap.size) := Lib.hid ⟨lt_of_block HB.out.1, lt_of_block HB.out.2.1, lt_of_block HB.out.2.2⟩
  have c7 : ∀ w', Ext W3 w' → w'.cell? ⟨W1.heap.size + 1, 0, none⟩ = some (.pointer (some ⟨W1.heap.size, 0, none⟩)) := fun w' e => e.cell (cell_of_blk hbp 0 rfl)
  have hR3 := Ext.refl W3
  have hNS : New (fun b => S b ∧ (b ≠ bx ∧ b ≠ W1.heap.size ∧ b ≠ ba ∧ b ≠ be)) W3 := fun b hb => ⟨hS b (by have := (HE1.out.trans hE3).size; omega), by have := lt_of_block hbp; have := HNE.out; omega⟩
  have hor := HOR.out (fun b => S b ∧ (b ≠ bx ∧ b ≠ W1.heap.size ∧ b ≠ ba ∧ b ≠ be)) W3 W1.heap.size hNS (fun h => h.2.2.1 rfl) hP
  clear hW3 hE3 hP hbp hNS HOR
  generalize hpb : W1.heap.size = pb at *
  have HPBW := Lib.hid hpb
  clear hpb
  rw [← HQ.out] at HPA
  clear HQ
  cases q with
  | bad j =>
    have hpa : pa = .err 4 j := HPA.out
    subst hpa
    have hor : Calls Tryd.prog 64 _ W3 (fun e w' => e = .panicked wrongC ∧ ParP W3 pb s j sy w') := hor
    clear HPA HFI HTH
    go_wp2_with ((with_reducible refine hor.mono ?_); rintro e W5 ⟨rfl, p5, g5⟩)
    have hE5 := Below.grown (HE1.out.trans HE3.out) g5 (HE1.out.trans HE3.out).size (fun k hk => by cases hk; rw [← HPBW.out]; exact HE1.out.size)
    refine leaves_cons (f := 63) (args := #[.pointer (some ⟨pb + 1, 0, none⟩), .pointer (some ⟨bx, 0, none⟩), .pointer (some ⟨ba, 0, none⟩), .pointer (some ⟨be, 0, none⟩)]) (by simp) (by simp [go_sem]) ?_
    refine (caught_wrong (blk_keep HBP.out g5 (by omega)) p5 (blk_keep (heap_ext HE3.out HB.out.1) g5 (by have := HNE.out; omega)) rfl (blk_keep (heap_ext HE3.out HB.out.2.1) g5 (by have := HNE.out; omega)) (blk_keep (heap_ext HE3.out HB.out.2.2) g5 (by have := HNE.out; omega)) HD.out.2.2.2.1 HD.out.2.2.2.2.1 HD.out.2.2.2.2.2 (by have := HNE.out; omega) [] (.agg #[]) 99).mono ?_
    rintro e u' w9 ⟨rfl, rfl, hW⟩
    exact ⟨_, results_c3 rfl _ _ bx ba be _ _ 4 (by simp [Act.put]) (by simp [Act.put]) (by simp [Act.put]) hW.x (by kernel_rfl) hW.j hW.e, rfl, hW.g w hE5 (by rw [HBX.out]; exact HD.out.1) (by rw [HBX.out]; exact HD.out.2.1) (by rw [HBX.out]; exact HD.out.2.2.1)⟩
  | ok r j =>
    have hor : Calls Tryd.prog 64 _ W3 (fun e w' => ∃ A c, e = .returned (.agg #[.int .u8 (r.tr.op : Int), .int .i64 r.tr.n, .slice A r.tr.subs.length c]) ∧ NodeB (fun b => S b ∧ (b ≠ bx ∧ b ≠ pb ∧ b ≠ ba ∧ b ≠ be)) false w' r.tr (.agg #[.int .u8 (r.tr.op : Int), .int .i64 r.tr.n, .slice A r.tr.subs.length c]) ∧ ParP W3 pb s j sy w') := hor
    have hjs : j ≤ s.size := HFI.out.2
    have HTN : Hid (r.cnt + 1 ≤ 2 * (j - 0)) := Lib.hid HTH.out
    have HPA : Hid (pa = if j < s.size then .err 4 j else if 64 < r.cnt then .err 3 0 else .tree r) := Lib.hid HPA.out
    clear HFI HTH
    go_upto_region 9 with (first | ((with_reducible refine hor.mono ?_); rintro e W5 ⟨A5, c5, rfl, n5, p5, g5⟩; have hb5 := blk_keep (heap_ext HE3.out HB.out.1) g5 (by have := HNE.out; omega)) | (with_reducible refine wpList_store_blk _ rfl 35 _ _ rfl bx 35 _ _ rfl rfl hb5 (by kernel_rfl) (by kernel_rfl) (by kernel_rfl) ?_; intro w8 h8 g8))
    have hE5 := Below.grown (HE1.out.trans HE3.out) g5 (HE1.out.trans HE3.out).size (fun k hk => by cases hk; rw [← HPBW.out]; exact HE1.out.size)
    have hE8 : Ext w w8 := Below.grown hE5 g8 hE5.size (fun k hk => by cases hk; rw [HBX.out]; exact Nat.le_refl _)
    have p8 := p5.keep g8 (by have := HNE.out; omega)
    have hbp8 := blk_keep (blk_keep HBP.out g5 (by omega)) g8 (by have := HNE.out; omega)
    have hba8 := blk_keep (blk_keep (heap_ext HE3.out HB.out.2.1) g5 (by have := HNE.out; omega)) g8 (Ne.symm HD.out.2.2.2.1)
    have hbe8 := blk_keep (blk_keep (heap_ext HE3.out HB.out.2.2) g5 (by have := HNE.out; omega)) g8 (Ne.symm HD.out.2.2.2.2.1)
    have n8 : NodeB (fun b => S b ∧ (b ≠ bx ∧ b ≠ pb ∧ b ≠ ba ∧ b ≠ be)) false w8 r.tr (.agg #[.int .u8 (r.tr.op : Int), .int .i64 r.tr.n, .slice A5 r.tr.subs.length c5]) := n5.past3 g8 (fun h => h.2.1 rfl)
    have c7 : ∀ w', Ext w8 w' → w'.cell? ⟨pb + 1, 0, none⟩ = some (.pointer (some ⟨pb, 0, none⟩)) := fun w' e => e.cell (cell_of_blk hbp8 0 rfl)
    have c1 : ∀ w', Ext w8 w' → w'.cell? ⟨pb, 1, none⟩ = some (.int .i64 (j : Int)) := fun w' e => e.cell (cell_of_blk p8 1 rfl)
    have x0 : ∀ w', Ext w8 w' → w'.cell? ⟨bx, 0, none⟩ = some (.int .u8 (r.tr.op : Int)) := fun w' e => e.cell (cell_of_blk h8 0 rfl)
    have x1 : ∀ w', Ext w8 w' → w'.cell? ⟨bx, 1, none⟩ = some (.int .i64 r.tr.n) := fun w' e => e.cell (cell_of_blk h8 1 rfl)
    have x2 : ∀ w', Ext w8 w' → w'.cell? ⟨bx, 2, none⟩ = some (.slice A5 r.tr.subs.length c5) := fun w' e => e.cell (cell_of_blk h8 2 rfl)
    have hR8 := Ext.refl w8
    have H8 := Lib.hid (And.intro hE8 (And.intro p8 (And.intro hbp8 (And.intro hba8 (And.intro hbe8 (And.intro n8 h8))))))
    clear hor hE5 hE8 p8 hbp8 hba8 hbe8 n8 h8 g8 g5 p5 n5 hb5
    by_cases hj : j < s.size
    · have hjI : (j : Int) < (s.size : Int) := by omega
      have hpa : pa = .err 4 j := by rw [HPA.out, if_pos hj]
      clear HPA hj
      subst hpa
      go_wp2
      refine leaves_cons (f := 63) (args := #[.pointer (some ⟨pb + 1, 0, none⟩), .pointer (some ⟨bx, 0, none⟩), .pointer (some ⟨ba, 0, none⟩), .pointer (some ⟨be, 0, none⟩)]) (by simp) (by simp [go_sem]) ?_
      refine (caught_wrong H8.out.2.2.1 H8.out.2.1 H8.out.2.2.2.2.2.2 rfl H8.out.2.2.2.1 H8.out.2.2.2.2.1 HD.out.2.2.2.1 HD.out.2.2.2.2.1 HD.out.2.2.2.2.2 (by have := HNE.out; omega) [] (.agg #[]) 99).mono ?_
      rintro e u' w9 ⟨rfl, rfl, hW⟩
      exact ⟨_, results_c3 rfl _ _ bx ba be _ _ 4 (by simp [Act.put]) (by simp [Act.put]) (by simp [Act.put]) hW.x (by kernel_rfl) hW.j hW.e, rfl, hW.g w H8.out.1 (by rw [HBX.out]; exact HD.out.1) (by rw [HBX.out]; exact HD.out.2.1) (by rw [HBX.out]; exact HD.out.2.2.1)⟩
    · have hjI : ¬ (j : Int) < (s.size : Int) := by omega
      have HPA := Lib.hid (show pa = _ by rw [HPA.out, if_neg hj])
      have hcn : cntT r.tr ≤ 1000000 := by rw [cnt_tr]; have := HTN.out; omega
      have hsz := fun w' (e : Ext w8 w') => size_any hcn (H8.out.2.2.2.2.2.1.ext e).node
      have hs1 := siz_le r.tr
      rw [cnt_tr] at hs1
      unfold ErrP at hsz
      generalize sizT r.tr = z at *
      have hsz := hsz w8 hR8
      by_cases hz : 64 < z
      · have hzI : (64 : Int) < (z : Int) := by omega
        have hpa : pa = .err 3 0 := by rw [HPA.out, if_pos (by omega)]
        clear HPA hj hcn
        subst hpa
        go_upto_region 12 with ((with_reducible refine hsz.mono ?_); rintro e W9 ⟨rfl, e9⟩)
        have H9 := Lib.hid (And.intro (heap_ext e9 H8.out.2.2.2.1) (And.intro (heap_ext e9 H8.out.2.2.2.2.1) (heap_ext e9 H8.out.2.2.2.2.2.2)))
        go_wp2_with (with_reducible refine wpList_store_blk _ rfl 35 _ _ rfl bx 35 _ _ rfl rfl H9.out.2.2 (by kernel_rfl) (by kernel_rfl) (by kernel_rfl) ?_; intro W10 h10 g10; have q1 := blk_keep H9.out.1 g10 (Ne.symm HD.out.2.2.2.1); have q2 := blk_keep H9.out.2.1 g10 (Ne.symm HD.out.2.2.2.2.1); have q5 : ∀ v, (W10.setCell ⟨ba, 0, none⟩ v).heap[be]? = some (.cells #[.int .i64 0] 29 (0, 0)) := fun v => (heap_setCell_other W10 ⟨ba, 0, none⟩ be v (Ne.symm HD.out.2.2.2.2.2)).trans q2; have r1 := free_of_blk q1 0; have r2 := cell_of_blk q1 0 (u := .int .i64 0) rfl; have r3 := fun v => free_of_blk (q5 v) 0; have r4 := fun v => cell_of_blk (q5 v) 0 (u := .int .i64 0) rfl)
        have q6 : (W10.setCell ⟨ba, 0, none⟩ (.int .i64 0)).heap[ba]? = some (.cells #[.int .i64 0] 3 (0, 0)) := heap_setCell_same W10 ba 0 _ 3 (.int .i64 0) q1
        have q7' : ((W10.setCell ⟨ba, 0, none⟩ (.int .i64 0)).setCell ⟨be, 0, none⟩ (.int .i64 3)).heap[be]? = some (.cells #[.int .i64 3] 29 (0, 0)) := heap_setCell_same (W10.setCell ⟨ba, 0, none⟩ (.int .i64 0)) be 0 _ 29 (.int .i64 3) (q5 _)
        have q8 : ((W10.setCell ⟨ba, 0, none⟩ (.int .i64 0)).setCell ⟨be, 0, none⟩ (.int .i64 3)).heap[bx]? = some (.cells zNode 35 (0, 0)) := by rw [heap_setCell_other _ _ _ _ HD.out.2.2.2.2.1, heap_setCell_other _ _ _ _ HD.out.2.2.2.1]; exact h10
        have q9 : ((W10.setCell ⟨ba, 0, none⟩ (.int .i64 0)).setCell ⟨be, 0, none⟩ (.int .i64 3)).heap[ba]? = some (.cells #[.int .i64 0] 3 (0, 0)) := by rw [heap_setCell_other _ _ _ _ HD.out.2.2.2.2.2]; exact q6
        have qE : Ext w ((W10.setCell ⟨ba, 0, none⟩ (.int .i64 0)).setCell ⟨be, 0, none⟩ (.int .i64 3)) := ((Below.grown (H8.out.1.trans e9) g10 (H8.out.1.trans e9).size (fun k hk => by cases hk; rw [HBX.out]; exact HD.out.1)).setCell (by rw [HBX.out]; exact HD.out.2.1) _).setCell (by rw [HBX.out]; exact HD.out.2.2.1) _
        refine leaves_cons (f := 63) (args := #[.pointer (some ⟨pb + 1, 0, none⟩), .pointer (some ⟨bx, 0, none⟩), .pointer (some ⟨ba, 0, none⟩), .pointer (some ⟨be, 0, none⟩)]) (by simp) (by simp [go_sem]) ?_
        refine (caught_idle _ rfl _).mono ?_
        rintro e u' w9 ⟨rfl, rfl, rfl⟩
        exact ⟨_, results_c3 rfl _ _ bx ba be _ 0 3 (by simp [Act.put]) (by simp [Act.put]) (by simp [Act.put]) q8 (by kernel_rfl) q9 q7', rfl, qE⟩
      · have hzI : ¬ (64 : Int) < (z : Int) := by omega
        have hpa : pa = .tree r := by rw [HPA.out, if_neg (by have := hs1.2 (by omega); omega)]
        clear HPA hj hcn
        subst hpa
        go_upto_region 13 with ((with_reducible refine hsz.mono ?_); rintro e W9 ⟨rfl, e9⟩)
        have H9 := Lib.hid (And.intro (heap_ext e9 H8.out.2.2.2.1) (And.intro (heap_ext e9 H8.out.2.2.2.2.1) (heap_ext e9 H8.out.2.2.2.2.2.2)))
        go_wp2_with (with_reducible refine wpList_store_blk _ rfl 35 _ _ rfl bx 35 _ _ rfl rfl H9.out.2.2 (by kernel_rfl) (by kernel_rfl) (by kernel_rfl) ?_; intro W10 h10 g10; have q1 := blk_keep H9.out.1 g10 (Ne.symm HD.out.2.2.2.1); have q2 := blk_keep H9.out.2.1 g10 (Ne.symm HD.out.2.2.2.2.1); have q5 : ∀ v, (W10.setCell ⟨ba, 0, none⟩ v).heap[be]? = some (.cells #[.int .i64 0] 29 (0, 0)) := fun v => (heap_setCell_other W10 ⟨ba, 0, none⟩ be v (Ne.symm HD.out.2.2.2.2.2)).trans q2; have r1 := free_of_blk q1 0; have r2 := cell_of_blk q1 0 (u := .int .i64 0) rfl; have r3 := fun v => free_of_blk (q5 v) 0; have r4 := fun v => cell_of_blk (q5 v) 0 (u := .int .i64 0) rfl)
        have q6 : (W10.setCell ⟨ba, 0, none⟩ (.int .i64 0)).heap[ba]? = some (.cells #[.int .i64 0] 3 (0, 0)) := heap_setCell_same W10 ba 0 _ 3 (.int .i64 0) q1
        have q7' : ((W10.setCell ⟨ba, 0, none⟩ (.int .i64 0)).setCell ⟨be, 0, none⟩ (.int .i64 0)).heap[be]? = some (.cells #[.int .i64 0] 29 (0, 0)) := heap_setCell_same (W10.setCell ⟨ba, 0, none⟩ (.int .i64 0)) be 0 _ 29 (.int .i64 0) (q5 _)
        have q8 : ((W10.setCell ⟨ba, 0, none⟩ (.int .i64 0)).setCell ⟨be, 0, none⟩ (.int .i64 0)).heap[bx]? = some (.cells #[.int .u8 (r.tr.op : Int), .int .i64 r.tr.n, .slice A5 r.tr.subs.length c5] 35 (0, 0)) := by rw [heap_setCell_other _ _ _ _ HD.out.2.2.2.2.1, heap_setCell_other _ _ _ _ HD.out.2.2.2.1]; exact h10
        have q9 : ((W10.setCell ⟨ba, 0, none⟩ (.int .i64 0)).setCell ⟨be, 0, none⟩ (.int .i64 0)).heap[ba]? = some (.cells #[.int .i64 0] 3 (0, 0)) := by rw [heap_setCell_other _ _ _ _ HD.out.2.2.2.2.2]; exact q6
        have qE : Ext w ((W10.setCell ⟨ba, 0, none⟩ (.int .i64 0)).setCell ⟨be, 0, none⟩ (.int .i64 0)) := ((Below.grown (H8.out.1.trans e9) g10 (H8.out.1.trans e9).size (fun k hk => by cases hk; rw [HBX.out]; exact HD.out.1)).setCell (by rw [HBX.out]; exact HD.out.2.1) _).setCell (by rw [HBX.out]; exact HD.out.2.2.1) _
        refine leaves_cons (f := 63) (args := #[.pointer (some ⟨pb + 1, 0, none⟩), .pointer (some ⟨bx, 0, none⟩), .pointer (some ⟨ba, 0, none⟩), .pointer (some ⟨be, 0, none⟩)]) (by simp) (by simp [go_sem]) ?_
        refine (caught_idle _ rfl _).mono ?_
        rintro e u' w9 ⟨rfl, rfl, rfl⟩
        have hn1 : NodeB (fun b => S b ∧ (b ≠ bx ∧ b ≠ pb ∧ b ≠ ba ∧ b ≠ be)) false W10 r.tr (.agg #[.int .u8 (r.tr.op : Int), .int .i64 r.tr.n, .slice A5 r.tr.subs.length c5]) := (H8.out.2.2.2.2.2.1.ext e9).past3 g10 (fun h => h.2.1 rfl)
        have hn2 := (hn1.past3 (grown_setK W10 ba 0 (.int .i64 0)) (fun h => h.2.2.2.1 rfl)).past3 (grown_setK (W10.setCell ⟨ba, 0, none⟩ (.int .i64 0)) be 0 (.int .i64 0)) (fun h => h.2.2.2.2 rfl)
        exact ⟨_, results_c3 rfl _ _ bx ba be _ 0 0 (by simp [Act.put]) (by simp [Act.put]) (by simp [Act.put]) q8 (by kernel_rfl) q9 q7', A5, c5, rfl, hn2.mono (fun b hb _ => hb.1), qE⟩
theorem parse_any {S : Nat → Prop} {w : World} {s : ByteArray} {sy : Int} (hS : New S w) (hs : s.size ≤ 9223372036854775807) : Calls Tryd.prog 28 #[.string s, .int .i64 sy] w (PrsP S w (parA s sy)) := by
  by_cases h : 16 < sy ∨ 65536 < s.size
  · unfold parA; rw [if_pos h]; exact parse_limit hs h
  · by_cases h1 : sy < 1
    · unfold parA; rw [if_neg h, if_pos h1]; exact parse_arg (by omega) h1
    · obtain ⟨n, rfl⟩ : ∃ n : Nat, sy = n := ⟨sy.toNat, by omega⟩
      exact parse_run hS (by omega) (by omega) (by omega)
end Go.Proofs.YtmebgomnmlbgnaaDoor
