/-        -/
import Derived.Test.YtmebgomnmlbgnaaDoorZA
import Derived.Laws.Externs
set_option linter.unnecessarySimpa false
set_option linter.unusedSectionVars false
namespace Go.Proofs.YtmebgomnmlbgnaaDoor
open Go.RowKit
set_option linter.unusedVariables false
set_option linter.unusedSimpArgs false
inductive Tr where
  | mk (op : Nat) (n : Int) (subs : List Tr)
def Tr.op : Tr → Nat | .mk o _ _ => o
def Tr.n : Tr → Int | .mk _ n _ => n
def Tr.subs : Tr → List Tr | .mk _ _ s => s
theorem Tr.eta (t : Tr) : t = .mk t.op t.n t.subs := by cases t; rfl
theorem Tr.sub_lt {t s : Tr} (h : s ∈ t.subs) : SizeOf.sizeOf s < SizeOf.sizeOf t := by
  cases t with
  | mk o n l =>
    have := List.sizeOf_lt_of_mem h
    simp only [Tr.subs] at this
    simp only [Tr.mk.sizeOf_spec]
    omega
abbrev Nv := Nat × Int × Value
def nvCells (u : Nv) : List Value := [.int .u8 u.1, .int .i64 u.2.1, u.2.2]
def nvVal (u : Nv) : Value := .agg #[.int .u8 u.1, .int .i64 u.2.1, u.2.2]
theorem nvs_len : ∀ l : List Nv, (l.flatMap nvCells).length = l.length * 3
  | [] => rfl
  | y :: t => by rw [List.flatMap_cons, List.length_append, nvs_len t]; simp [nvCells]; omega
theorem nvs_get : ∀ {l : List Nv} {i : Nat} {r : Nv} (h : l[i]? = some r) (j : Nat) (u : Value), (nvCells r)[j]? = some u → (l.flatMap nvCells)[i * 3 + j]? = some u
  | [], i, r, h, _, _, _ => by simp at h
  | y :: t, 0, r, h, j, u, hj => by
    simp at h; subst h
    have := (List.getElem?_eq_some_iff.1 hj).1
    rw [List.flatMap_cons, Nat.zero_mul, Nat.zero_add, List.getElem?_append_left this]; exact hj
  | y :: t, i + 1, r, h, j, u, hj => by
    have h2 := nvs_get (l := t) (i := i) (r := r) (by simpa using h) j u hj
    rw [List.flatMap_cons, List.getElem?_append_right (by simp [nvCells]; omega)]
    rw [← h2]; congr 1; simp [nvCells]; omega
inductive NodeV (w : World) : Tr → Value → Prop
  | mk {op : Nat} {n : Int} {ts : List Tr} {A : Option Addr} {c : Nat} {vs : List Nv} : op < 256 → vs.length = ts.length → Cells w A (vs.flatMap nvCells) → (∀ (i : Nat) (t : Tr) (u : Nv), ts[i]? = some t → vs[i]? = some u → NodeV w t (nvVal u)) →
      ts.length ≤ c → ts.length ≤ lenMax → NodeV w (.mk op n ts) (.agg #[.int .u8 (op : Int), .int .i64 n, .slice A ts.length c])
theorem NodeV.ext {w w' : World} {t : Tr} {v : Value} (h : NodeV w t v) (e : Ext w w') : NodeV w' t v := by
  induction h with
  | mk h0 h1 h2 _ h4 h5 ih => exact .mk h0 h1 (h2.ext e) ih h4 h5
theorem NodeV.form {w : World} {t : Tr} {v : Value} (h : NodeV w t v) : t.op < 256 ∧ ∃ (A : Option Addr) (c : Nat) (vs : List Nv), v = .agg #[.int .u8 (t.op : Int), .int .i64 t.n, .slice A t.subs.length c] ∧ vs.length = t.subs.length ∧ Cells w A (vs.flatMap nvCells) ∧
    (∀ (i : Nat) (s : Tr) (u : Nv), t.subs[i]? = some s → vs[i]? = some u → NodeV w s (nvVal u)) ∧ t.subs.length ≤ c ∧ t.subs.length ≤ lenMax := by
  cases h with
  | mk h0 h1 h2 h3 h4 h5 => exact ⟨h0, _, _, _, rfl, h1, h2, h3, h4, h5⟩
theorem sub_at {w : World} {A : Option Addr} {vs : List Nv} {ts : List Tr} (hl : vs.length = ts.length) (hc : Cells w A (vs.flatMap nvCells)) (hs : ∀ (i : Nat) (s : Tr) (u : Nv), ts[i]? = some s → vs[i]? = some u → NodeV w s (nvVal u)) {i : Nat} {s : Tr} (hi : ts[i]? = some s) :
    ∃ b o p m q, A = some ⟨b, o, none⟩ ∧ w.cell? ⟨b, o + i * 3, none⟩ = some (.int .u8 (p : Nat)) ∧ w.cell? ⟨b, o + i * 3 + 1, none⟩ = some (.int .i64 m) ∧ w.cell? ⟨b, o + i * 3 + 2, none⟩ = some q ∧ NodeV w s (.agg #[.int .u8 (p : Int), .int .i64 m, q]) := by
  have hlt := (List.getElem?_eq_some_iff.1 hi).1
  obtain ⟨u, hu⟩ : ∃ u, vs[i]? = some u := ⟨_, List.getElem?_eq_getElem (by omega)⟩
  obtain ⟨b, o, rfl, _, hcc⟩ := hc (by rw [nvs_len]; omega)
  exact ⟨b, o, u.1, u.2.1, u.2.2, rfl, hcc _ _ (nvs_get hu 0 _ rfl), by rw [Nat.add_assoc]; exact hcc _ _ (nvs_get hu 1 _ rfl), by rw [Nat.add_assoc]; exact hcc _ _ (nvs_get hu 2 _ rfl), hs i s u hi hu⟩
-- How many nodes.
mutual
def cntT : Tr → Nat
  | .mk _ _ ts => cntTs ts + 1
def cntTs : List Tr → Nat
  | [] => 0
  | t :: l => cntT t + cntTs l
end
def subsN (op : Nat) : Int := if op = 0 ∨ op = 1 then 0 else if op = 2 ∨ op = 9 then 1 else 2
def mostN (op vars : Nat) : Int := if op = 0 then 2147483648 else if op = 1 then (vars : Int) - 1 else 0
def ownOk (vars : Nat) (op : Nat) (n : Int) (k : Nat) : Bool := decide (op < 12) && (decide ((k : Int) = subsN op) && (decide (0 ≤ n) && decide (n ≤ mostN op vars)))
mutual
def shapT (vars : Nat) : Tr → Bool
  | .mk op n ts => ownOk vars op n ts.length && shapTs vars ts
def shapTs (vars : Nat) : List Tr → Bool
  | [] => true
  | t :: l => shapT vars t && shapTs vars l
end
def condT (t : Tr) : Bool := decide (6 ≤ t.op)
def numsO (op : Nat) : Bool := decide (2 ≤ op ∧ op ≤ 8)
mutual
def typT : Tr → Bool
  | .mk op n ts => typTs (numsO op) ts
def typTs (nums : Bool) : List Tr → Bool
  | [] => true
  | t :: l => (condT t != nums) && typT t && typTs nums l
end
theorem cntT_eq (t : Tr) : cntT t = cntTs t.subs + 1 := by cases t; simp [cntT, Tr.subs]
def doO (op : Nat) (a b : Int) : Int :=
  if op = 2 then -a else if op = 3 then a + b else if op = 4 then a - b else if op = 5 then a * b else if op = 6 then (if a = b then 1 else 0) else if op = 7 then (if a < b then 1 else 0) else if op = 8 then (if a ≤ b then 1 else 0) else if op = 9 then 1 - a else if op = 10 then a * b else if a < b then b else a
def fitsV (n : Int) : Bool := decide (-2147483648 ≤ n ∧ n ≤ 2147483648)
-- The value of an expression; none where it is undefined.
mutual
def evT (vals : List Int) : Tr → Option Int
  | .mk op n ts => if op = 0 then some n else if op = 1 then some (vals.getD n.toNat 0) else
    match evTs vals ts with
    | some l => let r := doO op (l.getD 0 0) (l.getD 1 0); if fitsV r then some r else none
    | none => none
def evTs (vals : List Int) : List Tr → Option (List Int)
  | [] => some []
  | t :: l => match evT vals t with
    | some a => (match evTs vals l with | some r => some (a :: r) | none => none)
    | none => none
end
end Go.Proofs.YtmebgomnmlbgnaaDoor

namespace Go.Proofs.YtmebgomnmlbgnaaDoor
open Go.RowKit
set_option linter.unusedVariables false
set_option linter.unusedSimpArgs false
attribute [local go_sem] Oper.quietV quietV Oper.gives givesV ext_refl_iff ext_alloc_iff ext_drew_iff ext_drewN_iff
theorem cntT_pos (t : Tr) : 1 ≤ cntT t := by rw [cntT_eq]; omega
theorem cnt_take : ∀ (ts : List Tr) (i : Nat) (s : Tr), ts[i]? = some s → cntTs (ts.take (i + 1)) = cntTs (ts.take i) + cntT s
  | [], i, s, h => by simp at h
  | t :: l, 0, s, h => by simp at h; subst h; simp [cntTs]
  | t :: l, i + 1, s, h => by
    have := cnt_take l i s (by simpa using h)
    simp only [List.take_succ_cons, cntTs, this]; omega
theorem cnt_le : ∀ (ts : List Tr) (i : Nat), cntTs (ts.take i) ≤ cntTs ts
  | [], i => by simp
  | t :: l, 0 => by simp [cntTs]
  | t :: l, i + 1 => by
    have := cnt_le l i
    simp only [List.take_succ_cons, cntTs]; omega
def SmallQ (w : World) (b : Nat) (L : Int) (n : Nat) (r : Bool) (e : Ending) (w' : World) : Prop := ∃ L' : Int, e = .returned (.bool r) ∧ w'.heap[b]? = some (.cells #[.int .i64 L'] 3 (0, 0)) ∧ w.grownBy w' (some b) ∧ ((n : Int) ≤ L → L' = L - n) ∧ (L < (n : Int) → L' < 0) ∧ -1 ≤ L' ∧ L' ≤ L
def SmallP (w : World) (b : Nat) (L : Int) (n : Nat) : Ending → World → Prop := SmallQ w b L n (decide ((n : Int) ≤ L))
def SmallS (k : Nat) : Prop := ∀ (t : Tr) (W0 w : World) (v : Value) (b : Nat) (L : Int), SizeOf.sizeOf t ≤ k → NodeV W0 t v → Ext W0 w → W0.heap.size ≤ b → w.heap[b]? = some (.cells #[.int .i64 L] 3 (0, 0)) → 0 ≤ L → L ≤ 1000 → Calls Tryd.prog 49 #[v, .pointer (some ⟨b, 0, none⟩)] w (SmallP w b L (cntT t))
theorem grown_trans {a b c : World} {r : Option Nat} (h : a.grownBy b r) (k : b.grownBy c r) : a.grownBy c r := ⟨k.os.trans h.os, k.tape.trans h.tape, k.output.trans h.output, Nat.le_trans h.size k.size, fun i hi hr => (k.block i (Nat.lt_of_lt_of_le hi h.size) hr).trans (h.block i hi hr)⟩
theorem grown_of_ext {a b : World} (e : Ext a b) (r : Option Nat) : a.grownBy b r := ⟨e.os, e.tape, e.output, e.size, fun k hk _ => e.block k hk⟩
theorem grown_set (w : World) (b : Nat) (v : Value) : w.grownBy (w.setCell ⟨b, 0, none⟩ v) (some b) := ⟨rfl, rfl, rfl, by simp [World.setCell], fun k hk hr => heap_setCell_other w ⟨b, 0, none⟩ k v (fun e => hr (by rw [e]))⟩
set_option maxRecDepth 100000 in
set_option maxHeartbeats 16000000 in
theorem small_step (k : Nat) (IH : SmallS k) : SmallS (k + 1) := by
  intro t W0 w v b L hk hN hE hb hc hL0 hL1
  obtain ⟨hop, A, cs, vs, rfl, hvl, hcs, hsub, hnc, hnm⟩ := hN.form
  unfold lenMax at hnm
  have hsz : ∀ s ∈ t.subs, SizeOf.sizeOf s ≤ k := fun s h => by have := Tr.sub_lt h; omega
  have HX := Lib.hid (And.intro hsub (And.intro hcs (And.intro hvl (And.intro IH (And.intro hsz (And.intro hE hb))))))
  have HC : Hid (cntT t = cntTs t.subs + 1) := Lib.hid (cntT_eq t)
  obtain ⟨n, hn⟩ : ∃ n, n = cntT t := ⟨_, rfl⟩
  rw [← hn] at HC ⊢
  obtain ⟨rb, hrb⟩ : ∃ rb : Bool, rb = decide ((n : Int) ≤ L) := ⟨_, rfl⟩
  have HRB : Hid (rb = decide ((n : Int) ≤ L)) := Lib.hid hrb
  unfold SmallP
  rw [← hrb]
  clear hrb
  generalize t.op = op at *
  generalize t.n = tn at *
  generalize t.subs = ts at *
  clear hk hN hE hb hsub hcs hvl IH hsz hn
  have hlt := lt_of_block hc
  have hca : ∀ o, (w.alloc o).cell? ⟨b, 0, none⟩ = some (.int .i64 L) := fun o => (alloc_ext w o).cell (cell_of_blk hc 0 rfl)
  have hfa : ∀ o, (w.alloc o).frozen? ⟨b, 0, none⟩ = false := fun o => free_of_blk (heap_ext (alloc_ext w o) hc) 0
  have hba : ∀ o, (w.alloc o).heap[b]? = some (.cells #[.int .i64 L] 3 (0, 0)) := fun o => heap_ext (alloc_ext w o) hc
  go_enter Tryd.func49, Tryd.ntmps49
  go_upto_region 2 with fail
  refine wp_named ?_
  intro W3 hW3
  have hG3 : w.grownBy W3 (some b) := by rw [hW3]; exact grown_trans (grown_set w b _) (grown_of_ext (alloc_ext _ _) (some b))
  have hB3 : W3.heap[b]? = some (.cells #[.int .i64 (L - 1)] 3 (0, 0)) := by rw [hW3]; exact heap_ext (alloc_ext _ _) (heap_setCell_same w b 0 _ 3 _ hc)
  have hX3 : W3.heap[w.heap.size]? = some (.cells #[.int .u8 (op : Int), .int .i64 tn, .slice A ts.length cs] 35 (0, 0)) := by rw [hW3]; have := heap_alloc_new (w.setCell ⟨b, 0, none⟩ (.int .i64 (L - 1))) (.cells #[.int .u8 (op : Int), .int .i64 tn, .slice A ts.length cs] 35); simpa [World.setCell] using this
  have k2 := cell_of_blk hX3 2 (u := .slice A ts.length cs) rfl
  have HG := Lib.hid (And.intro hG3 hB3)
  clear hW3 hG3 hB3 hX3 hba hfa hca hlt hc
  generalize w.heap.size = b2 at *
  go_wp2
  clear k2
  go_loopw [15] (fun iv wr => ∃ (i : Nat) (M : Int), iv = .int .i64 i ∧ i ≤ ts.length ∧ Hid (M = L - 1 - (cntTs (ts.take i) : Int)) ∧ -1 ≤ M ∧ M ≤ 1000 ∧ Hid (w.grownBy wr (some b) ∧ wr.heap[b]? = some (.cells #[.int .i64 M] 3 (0, 0)))) (fun iv _ => ts.length - (intOf iv).toNat)
  case atStart => exact ⟨0, L - 1, by first | rfl | simp, Nat.zero_le _, Lib.hid (by simp [cntTs]), by omega, by omega, HG⟩
  case round =>
    clear HG
    obtain ⟨i, M, rfl, hi, HM, hM1, hM2, HB⟩ := hrel
    obtain ⟨W5, hW5⟩ : ∃ W, W = wr := ⟨_, rfl⟩; subst hW5
    have hE5 : Ext _ W5 := Below.grown HX.out.2.2.2.2.2.1 HB.out.1 HX.out.2.2.2.2.2.1.size (fun k hk => by cases hk; exact HX.out.2.2.2.2.2.2)
    have hR5 := Ext.refl W5
    by_cases hlt : i < ts.length
    · have hlI : (i : Int) < (ts.length : Int) := by omega
      obtain ⟨s, hsi⟩ : ∃ s, ts[i]? = some s := ⟨_, List.getElem?_eq_getElem hlt⟩
      obtain ⟨bs, os, p, m, q, hA, d0, d1, d2, hns⟩ := sub_at HX.out.2.2.1 HX.out.2.1 HX.out.1 hsi
      subst hA
      have d0 := fun w' (h : Ext W5 w') => (hE5.trans h).cell d0
      have d1 := fun w' (h : Ext W5 w') => (hE5.trans h).cell d1
      have d2 := fun w' (h : Ext W5 w') => (hE5.trans h).cell d2
      obtain ⟨_, A9, cs9, vs9, hq9, _⟩ := hns.form
      have hq : q = .slice A9 s.subs.length cs9 := by
        have h9 := congrArg (fun v => match v with | Value.agg cs => cs[2]? | _ => none) hq9
        simpa using h9
      subst hq
      have HCT := Lib.hid (And.intro (cnt_take ts i s hsi) (And.intro (cnt_le ts (i + 1)) (cntT_pos s)))
      have cM := fun w' (h : Ext W5 w') => h.cell (cell_of_blk HB.out.2 0 (u := .int .i64 M) rfl)
      by_cases hneg : M < 0
      · have HRF : Hid (rb = false ∧ L < (n : Int)) := Lib.hid (by
          have h1 := HM.out; have h2 := HC.out; have h3 := HCT.out.1; have h4 := HCT.out.2.1; have h5 := HCT.out.2.2
          have : L < (n : Int) := by omega
          exact ⟨by rw [HRB.out]; exact decide_eq_false (by omega), this⟩)
        have hge := HB.out.1
        clear hsi hns hq9 hE5
        go_wp2
        go_ret
        refine ⟨M, by rw [HRF.out.1]; rfl, ?_, ?_, fun h => absurd h (by have := HRF.out.2; omega), fun _ => hneg, hM1, by omega⟩
        · exact heap_ext (alloc_ext _ _) HB.out.2
        · exact grown_trans HB.out.1 (grown_of_ext (alloc_ext _ _) _)
      · have hpos : 0 ≤ M := by omega
        have hcl := HX.out.2.2.2.1 s W0 (W5.alloc (.cells #[.int .u8 (p : Int), .int .i64 m, .slice A9 s.subs.length cs9] 35)) _ b M (HX.out.2.2.2.2.1 s (List.mem_of_getElem? hsi)) hns (hE5.trans (alloc_ext W5 _)) HX.out.2.2.2.2.2.2 (heap_ext (alloc_ext W5 _) HB.out.2) hpos hM2
        unfold SmallP at hcl
        obtain ⟨r2, hr2⟩ : ∃ r : Bool, r = decide ((cntT s : Int) ≤ M) := ⟨_, rfl⟩
        have HR2 := Lib.hid hr2
        rw [← hr2] at hcl
        have HG5 := Lib.hid (And.intro HB.out.1 (alloc_ext W5 (.cells #[.int .u8 (p : Int), .int .i64 m, .slice A9 s.subs.length cs9] 35)))
        obtain ⟨ns, hns2⟩ : ∃ ns, ns = cntT s := ⟨_, rfl⟩
        have HNS := Lib.hid hns2
        rw [← hns2] at hcl
        clear hsi hns hq9 hr2 hns2 HB
        have HPB : Hid (w.heap.size ≤ w.heap.size) := Lib.hid (Nat.le_refl _)
        cases r2 with
        | false =>
          have HRF : Hid (rb = false ∧ L < (n : Int)) := Lib.hid (by
            have h1 := HM.out; have h2 := HC.out; have h3 := HCT.out.1; have h4 := HCT.out.2.1; have h5 := HNS.out
            have h6 := of_decide_eq_false HR2.out.symm
            have : L < (n : Int) := by omega
            exact ⟨by rw [HRB.out]; exact decide_eq_false (by omega), this⟩)
          go_upto_region 8 with ((with_reducible refine hcl.mono ?_); rintro e W8 ⟨L8, rfl, hb8, hg8, hl8, hl9, hl1, hl2⟩)
          have HR8 := Lib.hid (And.intro hb8 (And.intro (grown_trans (grown_trans HG5.out.1 (grown_of_ext HG5.out.2 _)) hg8) (And.intro (hl9 (by have h6 := of_decide_eq_false HR2.out.symm; have h5 := HNS.out; omega)) (And.intro hl1 hl2))))
          clear hl8 hl9 hg8 hb8 hl1
          go_wp2
          go_ret
          exact ⟨L8, by rw [HRF.out.1]; rfl, HR8.out.1, HR8.out.2.1, fun h => absurd h (by have := HRF.out.2; omega), fun _ => HR8.out.2.2.1, HR8.out.2.2.2.1, by have := HR8.out.2.2.2.2; have := HM.out; omega⟩
        | true =>
          go_upto_region 8 with ((with_reducible refine hcl.mono ?_); rintro e W8 ⟨L8, rfl, hb8, hg8, hl8, hl9, hl1, hl2⟩)
          have h6 := of_decide_eq_true HR2.out.symm
          have h1 := HM.out; have h3 := HCT.out.1; have h5 := HNS.out; have h9 := HCT.out.2.2
          refine ⟨⟨i + 1, L8, by go_num, hlt, Lib.hid (by have := hl8 (by omega); omega), hl1, by omega, Lib.hid ⟨grown_trans (grown_trans HG5.out.1 (grown_of_ext HG5.out.2 _)) hg8, hb8⟩⟩, ?_⟩
          simp [intOf]; omega
    · have hie : i = ts.length := by omega
      subst hie
      have hlt2 : ¬ (ts.length : Int) < (ts.length : Int) := by omega
      have HB2 := Lib.hid HB.out.1
      have cM := fun w' (h : Ext W5 w') => h.cell (cell_of_blk HB.out.2 0 (u := .int .i64 M) rfl)
      by_cases hneg : M < 0
      · have HRF : Hid (rb = false ∧ L < (n : Int)) := Lib.hid (by
          have h1 := HM.out; have h2 := HC.out
          rw [List.take_length] at h1
          have : L < (n : Int) := by omega
          exact ⟨by rw [HRB.out]; exact decide_eq_false (by omega), this⟩)
        go_wp2
        go_ret
        exact ⟨M, by rw [HRF.out.1]; exact congrArg (fun b => Ending.returned (.bool b)) (decide_eq_false (by omega)), HB.out.2, HB.out.1, fun h => absurd h (by have := HRF.out.2; omega), fun _ => hneg, hM1, by have := HM.out; omega⟩
      · have HRF : Hid (rb = true ∧ (n : Int) ≤ L ∧ M = L - n) := Lib.hid (by
          have h1 := HM.out; have h2 := HC.out
          rw [List.take_length] at h1
          have : (n : Int) ≤ L := by omega
          exact ⟨by rw [HRB.out]; exact decide_eq_true this, this, by omega⟩)
        go_wp2
        go_ret
        exact ⟨M, by rw [HRF.out.1]; first | rfl | exact congrArg (fun b => Ending.returned (.bool b)) (decide_eq_true (by omega)), HB.out.2, HB.out.1, fun _ => HRF.out.2.2, fun h => absurd HRF.out.2.1 (by omega), hM1, by have := HM.out; omega⟩
theorem small_any : ∀ k, SmallS k
  | 0 => fun t _ _ _ _ _ h => by cases t; simp at h
  | k + 1 => small_step k (small_any k)
theorem small_of {t : Tr} {W0 w : World} {v : Value} {b : Nat} {L : Int} (hN : NodeV W0 t v) (hE : Ext W0 w) (hb : W0.heap.size ≤ b) (hc : w.heap[b]? = some (.cells #[.int .i64 L] 3 (0, 0))) (h0 : 0 ≤ L) (h1 : L ≤ 1000) : Calls Tryd.prog 49 #[v, .pointer (some ⟨b, 0, none⟩)] w (SmallP w b L (cntT t)) := small_any _ t W0 w v b L (Nat.le_refl _) hN hE hb hc h0 h1
end Go.Proofs.YtmebgomnmlbgnaaDoor

namespace Go.Proofs.YtmebgomnmlbgnaaDoor
open Go.RowKit
set_option linter.unusedVariables false
set_option linter.unusedSimpArgs false
attribute [local go_sem] Oper.quietV quietV Oper.gives givesV ext_refl_iff ext_alloc_iff ext_drew_iff ext_drewN_iff
def subT (op : Nat) : Int := if op ≤ 2 then 0 else if op ≤ 5 then 2 else 1
def rankT (op : Nat) : Int := if op ≤ 2 then 6 else if op = 3 then 1 else if op = 4 then 3 else if op = 5 then 2 else if op = 6 then 5 else 4
def Tabs (w : World) : Prop := ∀ k, k < 8 → w.cell? ⟨0, k, none⟩ = some (.int .i64 (rankT k)) ∧ w.cell? ⟨1, k, none⟩ = some (.int .i64 (subT k))
theorem Tabs.ext {w w' : World} (h : Tabs w) (e : Ext w w') : Tabs w' := fun k hk => ⟨e.cell (h k hk).1, e.cell (h k hk).2⟩
def ownV (sy : Int) (op : Nat) (n : Int) (k : Nat) : Bool := decide (op < 8) && (decide ((k : Int) = subT op) && (decide (n = 0) || (decide (op = 2) && (decide (0 ≤ n) && decide (n < sy)))))
mutual
def valT (sy : Int) : Tr → Bool
  | .mk op n ts => ownV sy op n ts.length && valTs sy ts
def valTs (sy : Int) : List Tr → Bool
  | [] => true
  | t :: l => valT sy t && valTs sy l
end
theorem valT_eq (sy : Int) (t : Tr) : valT sy t = (ownV sy t.op t.n t.subs.length && valTs sy t.subs) := by cases t; simp [valT, Tr.subs, Tr.op, Tr.n]
theorem val_take (sy : Int) : ∀ (ts : List Tr) (i : Nat) (s : Tr), ts[i]? = some s → valTs sy (ts.take (i + 1)) = (valTs sy (ts.take i) && valT sy s)
  | [], i, s, h => by simp at h
  | t :: l, 0, s, h => by simp at h; subst h; simp [valTs]
  | t :: l, i + 1, s, h => by
    have := val_take sy l i s (by simpa using h)
    simp only [List.take_succ_cons, valTs, this, Bool.and_assoc]
theorem val_sub {sy : Int} : ∀ {ts : List Tr} {i : Nat} {s : Tr}, valTs sy ts = true → ts[i]? = some s → valT sy s = true
  | [], _, _, _, h => by simp at h
  | t :: l, 0, s, h, hi => by simp at hi; subst hi; simp [valTs] at h; exact h.1
  | t :: l, i + 1, s, h, hi => by simp [valTs] at h; exact val_sub h.2 (by simpa using hi)
def BoolP (w : World) (r : Bool) (e : Ending) (w' : World) : Prop := e = .returned (.bool r) ∧ Ext w w'
def ErrP (w : World) (r : Int) (e : Ending) (w' : World) : Prop := e = .returned (.int .i64 r) ∧ Ext w w'
def ValS (sy : Int) (k : Nat) : Prop := ∀ (t : Tr) (w : World) (v : Value), SizeOf.sizeOf t ≤ k → NodeV w t v → Tabs w → Calls Tryd.prog 71 #[v, .int .i64 sy] w (BoolP w (valT sy t))
set_option maxRecDepth 100000 in
set_option maxHeartbeats 16000000 in
theorem val_step (sy : Int) (k : Nat) (IH : ValS sy k) : ValS sy (k + 1) := by
  intro t w v hk hN hT
  obtain ⟨hop, A, cs, vs, rfl, hvl, hcs, hsub, hnc, hnm⟩ := hN.form
  unfold lenMax at hnm
  have HX := Lib.hid (And.intro hsub (And.intro hT (And.intro hcs (And.intro hvl IH))))
  have hsz : ∀ s ∈ t.subs, SizeOf.sizeOf s ≤ k := fun s h => by have := Tr.sub_lt h; omega
  have HSZ := Lib.hid hsz
  obtain ⟨r, hr⟩ : ∃ r, r = valT sy t := ⟨_, rfl⟩
  rw [← hr]
  rw [valT_eq] at hr
  have HR0 := Lib.hid hr
  generalize t.op = op at *
  generalize t.n = n at *
  generalize t.subs = ts at *
  clear hk hN hT hsub hcs hvl IH hsz hr
  go_enter Tryd.func71, Tryd.ntmps71
  go_upto_region 1 with fail
  refine wp_named ?_
  intro W1 hW1
  have hE1 : Ext w W1 := by rw [hW1]; first | exact (Ext.refl _).alloc _ | exact ((Ext.refl _).alloc _).drew
  have k0 : ∀ w', Ext W1 w' → w'.cell? ⟨w.heap.size, 0, none⟩ = some (.int .u8 (op : Int)) := fun w' h => h.cell (by rw [hW1]; simp [go_sem])
  have k1 : ∀ w', Ext W1 w' → w'.cell? ⟨w.heap.size, 1, none⟩ = some (.int .i64 n) := fun w' h => h.cell (by rw [hW1]; simp [go_sem])
  have k2 : ∀ w', Ext W1 w' → w'.cell? ⟨w.heap.size, 2, none⟩ = some (.slice A ts.length cs) := fun w' h => h.cell (by rw [hW1]; simp [go_sem])
  clear hW1
  generalize w.heap.size = b2 at *
  have hE0 := Ext.refl W1
  have HE1 := Lib.hid hE1
  by_cases h8 : (8 : Int) ≤ op
  · skip
    have HR : Hid (r = false) := Lib.hid (by rw [HR0.out, show ownV sy op n ts.length = false by unfold ownV; rw [decide_eq_false (show ¬ op < 8 by omega)]; rfl]; rfl)
    clear hE1 HR0
    go_quiet (fail)
    go_wp2
    go_ret
    exact ⟨by rw [HR.out]; rfl, HE1.out.trans ((Ext.refl _).drewN _)⟩
  have h8b : (op : Int) < 8 := by omega
  have c6 := fun w' (h : Ext W1 w') => h.cell ((HX.out.2.1.ext hE1) op (by omega)).2
  have HD : Hid (decide (op < 8) = true) := Lib.hid (decide_eq_true (by omega))
  by_cases hsn : (ts.length : Int) = subT op
  rotate_left
  · have hsn3 : ((ts.length : Int) != subT op) = true := bne_iff_ne.2 hsn
    have HS : Hid (decide ((ts.length : Int) = subT op) = false) := Lib.hid (decide_eq_false hsn)
    clear hsn
    obtain ⟨sn, hsn9⟩ : ∃ sn, sn = subT op := ⟨_, rfl⟩
    rw [← hsn9] at hsn3 c6
    have HS2 : Hid (decide ((ts.length : Int) = sn) = false) := Lib.hid (by rw [hsn9]; exact HS.out)
    have HQ := Lib.hid hsn9
    clear hsn9
    have HR : Hid (r = false) := Lib.hid (by rw [HR0.out, show ownV sy op n ts.length = false by unfold ownV; rw [HS.out]; simp]; rfl)
    clear hE1 HR0
    go_quiet (fail)
    go_wp2
    go_ret
    exact ⟨by rw [HR.out]; rfl, HE1.out.trans ((Ext.refl _).drewN _)⟩
  have HS : Hid (decide ((ts.length : Int) = subT op) = true) := Lib.hid (decide_eq_true hsn)
  rw [← hsn] at c6
  clear hsn
  by_cases hn0 : n = 0
  · have hz : (n != 0) = false := by rw [hn0]; rfl
    have HN := Lib.hid hn0
    clear hn0
    have HR1 : Hid (r = valTs sy ts) := Lib.hid (by rw [HR0.out, show ownV sy op n ts.length = true by unfold ownV; rw [HD.out, HS.out, decide_eq_true HN.out]; rfl]; rfl)
    clear hE1 HR0
    go_quiet (fail)
    go_wp2
    go_loopw [45] (fun iv wr => ∃ i : Nat, iv = .int .i64 i ∧ i ≤ ts.length ∧ Hid (valTs sy (ts.take i) = true) ∧ Hid (Ext W1 wr)) (fun iv _ => ts.length - (intOf iv).toNat)
    case atStart => exact ⟨0, by first | rfl | simp, Nat.zero_le _, Lib.hid (by simp [valTs]), Lib.hid ((Ext.refl _).drewN _)⟩
    case round =>
      clear k0 k1 k2 c6
      obtain ⟨i, rfl, hi, HF, HW⟩ := hrel
      obtain ⟨W5, hW5⟩ : ∃ W, W = wr := ⟨_, rfl⟩; subst hW5
      have hwE := HE1.out.trans HW.out
      have hR5 := Ext.refl W5
      by_cases hlt : i < ts.length
      · have hlI : (i : Int) < (ts.length : Int) := by omega
        obtain ⟨s, hsi⟩ : ∃ s, ts[i]? = some s := ⟨_, List.getElem?_eq_getElem hlt⟩
        obtain ⟨bs, os, p, m, q, hA, d0, d1, d2, hns⟩ := sub_at HX.out.2.2.2.1 HX.out.2.2.1 HX.out.1 hsi
        subst hA
        have d0 := fun w' (h : Ext W5 w') => (hwE.trans h).cell d0
        have d1 := fun w' (h : Ext W5 w') => (hwE.trans h).cell d1
        have d2 := fun w' (h : Ext W5 w') => (hwE.trans h).cell d2
        obtain ⟨_, A9, cs9, vs9, hq9, _⟩ := hns.form
        have hq : q = .slice A9 s.subs.length cs9 := by
          have h9 := congrArg (fun v => match v with | Value.agg cs => cs[2]? | _ => none) hq9
          simpa using h9
        subst hq
        clear hq9
        have hcl := HX.out.2.2.2.2 s (W5.alloc (.cells #[.int .u8 (p : Int), .int .i64 m, .slice A9 s.subs.length cs9] 35)) _ (HSZ.out s (List.mem_of_getElem? hsi)) (hns.ext (hwE.trans (alloc_ext W5 _))) (HX.out.2.1.ext (hwE.trans (alloc_ext W5 _)))
        unfold BoolP at hcl
        obtain ⟨r2, hr2⟩ : ∃ r : Bool, r = valT sy s := ⟨_, rfl⟩
        rw [← hr2] at hcl
        have HST := Lib.hid (val_take sy ts i s hsi)
        have HR2 := Lib.hid hr2
        have HSI := Lib.hid hsi
        have HW5 := Lib.hid (hwE.trans (alloc_ext W5 (.cells #[.int .u8 (p : Int), .int .i64 m, .slice A9 s.subs.length cs9] 35)))
        clear hsi hns hr2
        cases r2 with
        | false =>
          have HR : Hid (r = false) := Lib.hid (by
            rw [HR1.out]
            cases hall : valTs sy ts with
            | false => rfl
            | true => exact absurd ((val_sub hall HSI.out).symm.trans HR2.out.symm) (by decide))
          go_upto_region 7 with ((with_reducible refine hcl.mono ?_); rintro e W8 ⟨rfl, e8⟩)
          go_wp2
          go_ret
          exact ⟨by rw [HR.out]; rfl, HW5.out.trans e8⟩
        | true =>
          go_upto_region 8 with ((with_reducible refine hcl.mono ?_); rintro e W8 ⟨rfl, e8⟩)
          go_wp2
          refine ⟨⟨i + 1, by go_num, hlt, Lib.hid (by rw [HST.out, HF.out, ← HR2.out]; rfl), Lib.hid ((HW.out.trans (alloc_ext W5 _)).trans e8)⟩, ?_⟩
          simp [intOf]; omega
      · have hie : i = ts.length := by omega
        subst hie
        have hlt2 : ¬ (ts.length : Int) < (ts.length : Int) := by omega
        have HR : Hid (r = true) := Lib.hid (by rw [HR1.out]; have := HF.out; rwa [List.take_length] at this)
        go_wp2
        go_ret
        exact ⟨by rw [HR.out]; rfl, hwE⟩
  have hz : (n != 0) = true := bne_iff_ne.2 hn0
  have HN : Hid (decide (n = 0) = false) := Lib.hid (decide_eq_false hn0)
  clear hn0
  by_cases h2 : op = 2
  rotate_left
  · have g2 : ((op : Int) != 2) = true := bne_iff_ne.2 (by omega)
    have H2 := Lib.hid h2
    clear h2
    have HR : Hid (r = false) := Lib.hid (by rw [HR0.out, show ownV sy op n ts.length = false by unfold ownV; rw [HN.out, decide_eq_false H2.out]; simp]; rfl)
    clear hE1 HR0
    go_quiet (fail)
    go_wp2
    go_ret
    exact ⟨by rw [HR.out]; rfl, HE1.out.trans ((Ext.refl _).drewN _)⟩
  have g2 : ((op : Int) != 2) = false := by rw [h2]; rfl
  have H2 : Hid (decide (op = 2) = true) := Lib.hid (decide_eq_true h2)
  clear h2
  by_cases h3 : n < 0
  · skip
    have HR : Hid (r = false) := Lib.hid (by rw [HR0.out, show ownV sy op n ts.length = false by unfold ownV; rw [HN.out, decide_eq_false (show ¬ 0 ≤ n by omega)]; simp]; rfl)
    clear hE1 HR0
    go_quiet (fail)
    go_wp2
    go_ret
    exact ⟨by rw [HR.out]; rfl, HE1.out.trans ((Ext.refl _).drewN _)⟩
  by_cases h4 : sy ≤ n
  · skip
    have HR : Hid (r = false) := Lib.hid (by rw [HR0.out, show ownV sy op n ts.length = false by unfold ownV; rw [HN.out, decide_eq_false (show ¬ n < sy by omega)]; simp]; rfl)
    clear hE1 HR0
    go_quiet (fail)
    go_wp2
    go_ret
    exact ⟨by rw [HR.out]; rfl, HE1.out.trans ((Ext.refl _).drewN _)⟩
  have HR1 : Hid (r = valTs sy ts) := Lib.hid (by rw [HR0.out, show ownV sy op n ts.length = true by unfold ownV; rw [HD.out, HS.out, H2.out, decide_eq_true (show 0 ≤ n by omega), decide_eq_true (show n < sy by omega)]; simp]; rfl)
  clear hE1 HR0
  go_quiet (fail)
  go_wp2
  go_loopw [45] (fun iv wr => ∃ i : Nat, iv = .int .i64 i ∧ i ≤ ts.length ∧ Hid (valTs sy (ts.take i) = true) ∧ Hid (Ext W1 wr)) (fun iv _ => ts.length - (intOf iv).toNat)
  case atStart => exact ⟨0, by first | rfl | simp, Nat.zero_le _, Lib.hid (by simp [valTs]), Lib.hid ((Ext.refl _).drewN _)⟩
  case round =>
    clear k0 k1 k2 c6
    obtain ⟨i, rfl, hi, HF, HW⟩ := hrel
    obtain ⟨W5, hW5⟩ : ∃ W, W = wr := ⟨_, rfl⟩; subst hW5
    have hwE := HE1.out.trans HW.out
    have hR5 := Ext.refl W5
    by_cases hlt : i < ts.length
    · have hlI : (i : Int) < (ts.length : Int) := by omega
      obtain ⟨s, hsi⟩ : ∃ s, ts[i]? = some s := ⟨_, List.getElem?_eq_getElem hlt⟩
      obtain ⟨bs, os, p, m, q, hA, d0, d1, d2, hns⟩ := sub_at HX.out.2.2.2.1 HX.out.2.2.1 HX.out.1 hsi
      subst hA
      have d0 := fun w' (h : Ext W5 w') => (hwE.trans h).cell d0
      have d1 := fun w' (h : Ext W5 w') => (hwE.trans h).cell d1
      have d2 := fun w' (h : Ext W5 w') => (hwE.trans h).cell d2
      obtain ⟨_, A9, cs9, vs9, hq9, _⟩ := hns.form
      have hq : q = .slice A9 s.subs.length cs9 := by
        have h9 := congrArg (fun v => match v with | Value.agg cs => cs[2]? | _ => none) hq9
        simpa using h9
      subst hq
      clear hq9
      have hcl := HX.out.2.2.2.2 s (W5.alloc (.cells #[.int .u8 (p : Int), .int .i64 m, .slice A9 s.subs.length cs9] 35)) _ (HSZ.out s (List.mem_of_getElem? hsi)) (hns.ext (hwE.trans (alloc_ext W5 _))) (HX.out.2.1.ext (hwE.trans (alloc_ext W5 _)))
      unfold BoolP at hcl
      obtain ⟨r2, hr2⟩ : ∃ r : Bool, r = valT sy s := ⟨_, rfl⟩
      rw [← hr2] at hcl
      have HST := Lib.hid (val_take sy ts i s hsi)
      have HR2 := Lib.hid hr2
      have HSI := Lib.hid hsi
      have HW5 := Lib.hid (hwE.trans (alloc_ext W5 (.cells #[.int .u8 (p : Int), .int .i64 m, .slice A9 s.subs.length cs9] 35)))
      clear hsi hns hr2
      cases r2 with
      | false =>
        have HR : Hid (r = false) := Lib.hid (by
          rw [HR1.out]
          cases hall : valTs sy ts with
          | false => rfl
          | true => exact absurd ((val_sub hall HSI.out).symm.trans HR2.out.symm) (by decide))
        go_upto_region 7 with ((with_reducible refine hcl.mono ?_); rintro e W8 ⟨rfl, e8⟩)
        go_wp2
        go_ret
        exact ⟨by rw [HR.out]; rfl, HW5.out.trans e8⟩
      | true =>
        go_upto_region 8 with ((with_reducible refine hcl.mono ?_); rintro e W8 ⟨rfl, e8⟩)
        go_wp2
        refine ⟨⟨i + 1, by go_num, hlt, Lib.hid (by rw [HST.out, HF.out, ← HR2.out]; rfl), Lib.hid ((HW.out.trans (alloc_ext W5 _)).trans e8)⟩, ?_⟩
        simp [intOf]; omega
    · have hie : i = ts.length := by omega
      subst hie
      have hlt2 : ¬ (ts.length : Int) < (ts.length : Int) := by omega
      have HR : Hid (r = true) := Lib.hid (by rw [HR1.out]; have := HF.out; rwa [List.take_length] at this)
      go_wp2
      go_ret
      exact ⟨by rw [HR.out]; rfl, hwE⟩
theorem val_any (sy : Int) : ∀ k, ValS sy k
  | 0 => fun t _ _ h => by cases t; simp at h
  | k + 1 => val_step sy k (val_any sy k)
theorem valid_of {sy : Int} {t : Tr} {w : World} {v : Value} (hN : NodeV w t v) (hT : Tabs w) : Calls Tryd.prog 71 #[v, .int .i64 sy] w (BoolP w (valT sy t)) := val_any sy _ t w v (Nat.le_refl _) hN hT
end Go.Proofs.YtmebgomnmlbgnaaDoor

namespace Go.Proofs.YtmebgomnmlbgnaaDoor
open Go.RowKit
set_option linter.unusedVariables false
set_option linter.unusedSimpArgs false
attribute [local go_sem] Oper.quietV quietV Oper.gives givesV ext_refl_iff ext_alloc_iff ext_drew_iff ext_drewN_iff
def checkX (sy : Int) (t : Tr) : Int := if 16 < sy ∨ 64 < cntT t then 3 else if sy < 1 ∨ valT sy t = false then 1 else 0
theorem Ext.grown {w0 w w' : World} {b : Nat} (h : Ext w0 w) (hb : w0.heap.size ≤ b) (hg : w.grownBy w' (some b)) : Ext w0 w' := Below.grown h hg h.size (fun k hk => by cases hk; exact hb)
set_option maxRecDepth 100000 in
set_option maxHeartbeats 16000000 in
theorem check_any {sy : Int} {t : Tr} {w : World} {v : Value} (hN : NodeV w t v) (hT : Tabs w) : Calls Tryd.prog 35 #[v, .int .i64 sy] w (ErrP w (checkX sy t)) := by
  obtain ⟨r, hr⟩ : ∃ r, r = checkX sy t := ⟨_, rfl⟩
  rw [← hr]
  unfold checkX at hr
  have HX := Lib.hid (And.intro hN hT)
  obtain ⟨hop, A, cs, vs, rfl, hvl, hcs, hsub, hnc, hnm⟩ := hN.form
  have HR0 := Lib.hid hr
  obtain ⟨op, hop9⟩ : ∃ op, op = t.op := ⟨_, rfl⟩
  obtain ⟨n, hn9⟩ : ∃ op, op = t.n := ⟨_, rfl⟩
  obtain ⟨ln, hl9⟩ : ∃ op, op = t.subs.length := ⟨_, rfl⟩
  rw [← hop9, ← hn9, ← hl9] at HX ⊢
  clear hr hN hT hvl hcs hsub hop9 hn9 hl9 hnm hnc hop
  obtain ⟨rs, hrs⟩ : ∃ r : Bool, r = decide ((cntT t : Int) ≤ 64) := ⟨_, rfl⟩
  have HRS := Lib.hid hrs
  obtain ⟨nt, hnt⟩ : ∃ n, n = cntT t := ⟨_, rfl⟩
  obtain ⟨rv, hrv⟩ : ∃ r : Bool, r = valT sy t := ⟨_, rfl⟩
  have HRV := Lib.hid hrv
  have hsm := fun (w1 : World) (b : Nat) (hE : Ext w w1) (hb : w.heap.size ≤ b) (hc : w1.heap[b]? = some (.cells #[.int .i64 64] 3 (0, 0))) => small_of HX.out.1 hE hb hc (by decide) (by decide)
  unfold SmallP at hsm
  rw [← hrs, ← hnt] at hsm
  have hvd := fun (w1 : World) (hE : Ext w w1) => valid_of (sy := sy) (HX.out.1.ext hE) (HX.out.2.ext hE)
  unfold BoolP at hvd
  rw [← hrv] at hvd
  have HSM := Lib.hid hsm
  have HVD := Lib.hid hvd
  clear hrs hrv hsm hvd hnt HX
  go_enter Tryd.func35, Tryd.ntmps35
  go_upto_region 2 with fail
  refine wp_named ?_
  intro W1 hW1
  have hE1 : Ext w W1 := by
    rw [hW1]
    exact Ext.alloc (Ext.alloc (Ext.refl _) _) _
  have hB : W1.heap[w.heap.size + 1]? = some (.cells #[.int .i64 64] 3 (0, 0)) := by
    rw [hW1]
    have h1 := heap_alloc_new (w.alloc (.cells #[.int .u8 (op : Int), .int .i64 n, .slice A ln cs] 35)) (.cells #[.int .i64 64] 3)
    have hsz : ∀ o, (w.alloc o).heap.size = w.heap.size + 1 := fun o => by simp [go_sem]
    rw [hsz] at h1
    exact h1
  have k0 : ∀ w', Ext W1 w' → w'.cell? ⟨w.heap.size, 0, none⟩ = some (.int .u8 (op : Int)) := fun w' h => h.cell (by rw [hW1]; simp [go_sem])
  have k1 : ∀ w', Ext W1 w' → w'.cell? ⟨w.heap.size, 1, none⟩ = some (.int .i64 n) := fun w' h => h.cell (by rw [hW1]; simp [go_sem])
  have k2 : ∀ w', Ext W1 w' → w'.cell? ⟨w.heap.size, 2, none⟩ = some (.slice A ln cs) := fun w' h => h.cell (by rw [hW1]; simp [go_sem])
  have HB := Lib.hid hB
  have HE1 := Lib.hid hE1
  have hNB : Hid (w.heap.size + 1 < W1.heap.size ∧ w.heap.size ≤ w.heap.size + 1) := Lib.hid ⟨lt_of_block hB, by omega⟩
  clear hW1 hE1 hB
  have hR1 := Ext.refl W1
  by_cases h1 : 16 < sy
  · have HR : Hid (r = 3) := Lib.hid (by rw [HR0.out, if_pos (.inl h1)])
    clear HR0
    go_wp2
    go_ret
    exact ⟨by rw [HR.out]; rfl, HE1.out⟩
  have hcl := HSM.out W1 (w.heap.size + 1) HE1.out hNB.out.2 HB.out
  have HOLD : ∀ w', W1.grownBy w' (some (w.heap.size + 1)) → w'.cell? ⟨w.heap.size, 0, none⟩ = some (.int .u8 (op : Int)) ∧ w'.cell? ⟨w.heap.size, 1, none⟩ = some (.int .i64 n) ∧ w'.cell? ⟨w.heap.size, 2, none⟩ = some (.slice A ln cs) := by
    intro w' hg
    have hb : w'.heap[w.heap.size]? = W1.heap[w.heap.size]? := hg.block _ (by have := hNB.out.1; omega) (by simp)
    have hcell : ∀ j, w'.cell? ⟨w.heap.size, j, none⟩ = W1.cell? ⟨w.heap.size, j, none⟩ := fun j => by simp only [World.cell?, hb]
    exact ⟨by rw [hcell]; exact k0 _ hR1, by rw [hcell]; exact k1 _ hR1, by rw [hcell]; exact k2 _ hR1⟩
  have HHOLD := Lib.hid HOLD
  clear HOLD
  cases rs with
  | false =>
    have HR : Hid (r = 3) := Lib.hid (by rw [HR0.out, if_pos (.inr (by have := of_decide_eq_false HRS.out.symm; omega))])
    clear HR0
    go_upto_region 4 with ((with_reducible refine hcl.mono ?_); rintro e W8 ⟨L8, rfl, hb8, hg8, hl8, hl9, hl1, hl2⟩)
    have HG8 := Lib.hid hg8
    clear hl8 hl9 hg8 hb8 hl1 k0 k1 k2
    go_wp2
    go_ret
    exact ⟨by rw [HR.out]; rfl, HE1.out.grown (by omega) HG8.out⟩
  | true =>
    have HC : Hid (¬ (16 < sy ∨ 64 < cntT t)) := Lib.hid (by have := of_decide_eq_true HRS.out.symm; omega)
    have HR1 : Hid (r = if sy < 1 ∨ valT sy t = false then 1 else 0) := Lib.hid (by rw [HR0.out, if_neg HC.out])
    clear HR0
    go_upto_region 5 with ((with_reducible refine hcl.mono ?_); rintro e W8 ⟨L8, rfl, hb8, hg8, hl8, hl9, hl1, hl2⟩)
    have HG8 := Lib.hid (HE1.out.grown (by omega) hg8)
    have ko := HHOLD.out W8 hg8
    have k0 : ∀ w', Ext W8 w' → w'.cell? ⟨w.heap.size, 0, none⟩ = some (.int .u8 (op : Int)) := fun w' h => h.cell ko.1
    have k1 : ∀ w', Ext W8 w' → w'.cell? ⟨w.heap.size, 1, none⟩ = some (.int .i64 n) := fun w' h => h.cell ko.2.1
    have k2 : ∀ w', Ext W8 w' → w'.cell? ⟨w.heap.size, 2, none⟩ = some (.slice A ln cs) := fun w' h => h.cell ko.2.2
    have hR8 := Ext.refl W8
    clear hl8 hl9 hg8 hb8 hl1 ko hcl hR1
    by_cases h2 : sy < 1
    · have HR : Hid (r = 1) := Lib.hid (by rw [HR1.out, if_pos (.inl h2)])
      go_wp2
      go_ret
      exact ⟨by rw [HR.out]; rfl, HG8.out⟩
    have hvd := HVD.out W8 HG8.out
    cases rv with
    | false =>
      have HR : Hid (r = 1) := Lib.hid (by rw [HR1.out, if_pos (.inr HRV.out.symm)])
      go_upto_region 7 with ((with_reducible refine hvd.mono ?_); rintro e W9 ⟨rfl, e9⟩)
      go_wp2
      go_ret
      exact ⟨by rw [HR.out]; rfl, HG8.out.trans e9⟩
    | true =>
      have HR : Hid (r = 0) := Lib.hid (by rw [HR1.out, if_neg (by rintro (h | h) <;> first | omega | exact absurd (HRV.out.trans h) (by decide))])
      go_upto_region 8 with ((with_reducible refine hvd.mono ?_); rintro e W9 ⟨rfl, e9⟩)
      go_wp2
      go_ret
      exact ⟨by rw [HR.out]; rfl, HG8.out.trans e9⟩
end Go.Proofs.YtmebgomnmlbgnaaDoor

namespace Go.Proofs.YtmebgomnmlbgnaaDoor
open Go.RowKit
set_option linter.unusedVariables false
set_option linter.unusedSimpArgs false
attribute [local go_sem] Oper.quietV quietV Oper.gives givesV ext_refl_iff ext_alloc_iff ext_drew_iff ext_drewN_iff
def CntSC (k : Nat) : Prop := ∀ (t : Tr) (w : World) (v : Value) (m : Int), SizeOf.sizeOf t ≤ k → NodeV w t v → 0 ≤ m → m ≤ 1000 → Calls Tryd.prog 54 #[v, .int .i64 m] w (ErrP w (min (cntT t : Int) (m + 1)))
set_option maxRecDepth 100000 in
set_option maxHeartbeats 16000000 in
theorem cnt_stepC (k : Nat) (IH : CntSC k) : CntSC (k + 1) := by
  intro t w v m hk hN hm0 hm1
  obtain ⟨hop, A, cs, vs, rfl, hvl, hcs, hsub, hnc, hnm⟩ := hN.form
  unfold lenMax at hnm
  have HX := Lib.hid (And.intro hsub (And.intro hcs (And.intro hvl IH)))
  have HSZ := Lib.hid (fun s (h : s ∈ t.subs) => (by have := Tr.sub_lt h; omega : SizeOf.sizeOf s ≤ k))
  obtain ⟨r, hr⟩ : ∃ r, r = min (cntT t : Int) (m + 1) := ⟨_, rfl⟩
  rw [← hr]
  have HR0 : Hid (r = min ((cntTs t.subs : Int) + 1) (m + 1)) := Lib.hid (by rw [hr, cntT_eq]; push_cast; rfl)
  generalize t.op = op at *
  generalize t.n = n at *
  generalize t.subs = ts at *
  clear hk hN hsub hcs hvl IH hr
  go_enter Tryd.func54, Tryd.ntmps54
  go_upto_region 1 with fail
  refine wp_named ?_
  intro W1 hW1
  have hE1 : Ext w W1 := by rw [hW1]; exact alloc_ext _ _
  have k2 : ∀ w', Ext W1 w' → w'.cell? ⟨w.heap.size, 2, none⟩ = some (.slice A ts.length cs) := fun w' h => h.cell (by rw [hW1]; simp [go_sem])
  have HE1 := Lib.hid hE1
  clear hW1 hE1
  generalize w.heap.size = b2 at *
  go_wp2
  go_loopw [5, 6] (fun nv iv wr => ∃ (i : Nat) (n : Int), nv = .int .i64 n ∧ iv = .int .i64 i ∧ i ≤ ts.length ∧ 1 ≤ n ∧ n ≤ 1001 ∧ Hid (n = min ((cntTs (ts.take i) : Int) + 1) (m + 1)) ∧ Hid (Ext W1 wr)) (fun _ iv _ => ts.length - (intOf iv).toNat)
  case atStart => exact ⟨0, 1, by first | rfl | simp, by first | rfl | simp, Nat.zero_le _, by omega, by omega, Lib.hid (by simp [cntTs]; omega), Lib.hid (Ext.refl _)⟩
  case round =>
    obtain ⟨i, n, rfl, rfl, hi, hn0, hn1, HN, HW⟩ := hrel
    obtain ⟨W5, hW5⟩ : ∃ W, W = wr := ⟨_, rfl⟩; subst hW5
    have hE5 := HW.out
    have k2 := k2 W5 hE5
    by_cases hlt : i < ts.length
    rotate_left
    · have hie : i = ts.length := by omega
      subst hie
      have hq : ¬ (ts.length : Int) < (ts.length : Int) := by omega
      have HR : Hid (r = n) := Lib.hid (by rw [HR0.out, HN.out, List.take_length])
      clear hlt hi
      go_wp2
      go_ret
      exact ⟨by rw [HR.out]; rfl, HE1.out.trans hE5⟩
    · have hlI : (i : Int) < (ts.length : Int) := by omega
      by_cases hnm' : n ≤ m
      rotate_left
      · have HR : Hid (r = n) := Lib.hid (by
          have h1 := cnt_le ts i
          have h2 := HN.out
          rw [HR0.out]; omega)
        clear hlt hi
        go_wp2
        go_ret
        exact ⟨by rw [HR.out]; rfl, HE1.out.trans hE5⟩
      · skip
        obtain ⟨s, hsi⟩ : ∃ s, ts[i]? = some s := ⟨_, List.getElem?_eq_getElem hlt⟩
        obtain ⟨bs, os, p, m', q, hA, d0, d1, d2, hns⟩ := sub_at HX.out.2.2.1 HX.out.2.1 HX.out.1 hsi
        subst hA
        obtain ⟨_, A9, cs9, vs9, hq9, _⟩ := hns.form
        have hq : q = .slice A9 s.subs.length cs9 := by
          have h9 := congrArg (fun v => match v with | Value.agg cs => cs[2]? | _ => none) hq9
          simpa using h9
        subst hq
        clear hq9
        obtain ⟨sl, hsl⟩ : ∃ n, n = s.subs.length := ⟨_, rfl⟩
        rw [← hsl] at d2 hns
        clear hsl
        have d0 := (HE1.out.trans hE5).cell d0
        have d1 := (HE1.out.trans hE5).cell d1
        have d2 := (HE1.out.trans hE5).cell d2
        have hcl := HX.out.2.2.2 s W5 _ (m - n) (HSZ.out s (List.mem_of_getElem? hsi)) (hns.ext (HE1.out.trans hE5)) (by omega) (by omega)
        have hc1 := cntT_pos s
        have HST := Lib.hid (cnt_take ts i s hsi)
        obtain ⟨q, hq⟩ : ∃ q, q = min (cntT s : Int) (m - n + 1) := ⟨_, rfl⟩
        rw [← hq] at hcl
        have hq0 : 1 ≤ q := by omega
        have hq1 : n + q ≤ m + 1 := by omega
        have HQ : Hid (n + q = min ((cntTs (ts.take (i + 1)) : Int) + 1) (m + 1)) := Lib.hid (by
          rw [HST.out]
          have h2 := HN.out
          push_cast
          omega)
        have HE5 := Lib.hid hE5
        unfold ErrP at hcl
        clear hq hc1 hns hsi hE5
        go_wp2_with ((with_reducible refine hcl.mono ?_); rintro e W8 ⟨rfl, e8⟩)
        refine ⟨⟨i + 1, n + q, by go_num, by go_num, hlt, by omega, by omega, HQ, Lib.hid (HE5.out.trans e8)⟩, ?_⟩
        simp [intOf]; omega
theorem cnt_anyC : ∀ k, CntSC k
  | 0 => fun t _ _ _ h => by cases t; simp at h
  | k + 1 => cnt_stepC k (cnt_anyC k)
theorem count_anyC {t : Tr} {w : World} {v : Value} {m : Int} (hN : NodeV w t v) (h0 : 0 ≤ m) (h1 : m ≤ 1000) : Calls Tryd.prog 54 #[v, .int .i64 m] w (ErrP w (min (cntT t : Int) (m + 1))) := cnt_anyC _ t w v m (Nat.le_refl _) hN h0 h1
def CntSG (k : Nat) : Prop := ∀ (t : Tr) (w : World) (v : Value) (m : Int), SizeOf.sizeOf t ≤ k → NodeV w t v → 0 ≤ m → m ≤ 1000 → Calls Tryd.prog 33 #[v, .int .i64 m] w (ErrP w (min (cntT t : Int) (m + 1)))
set_option maxRecDepth 100000 in
set_option maxHeartbeats 16000000 in
theorem cnt_stepG (k : Nat) (IH : CntSG k) : CntSG (k + 1) := by
  intro t w v m hk hN hm0 hm1
  obtain ⟨hop, A, cs, vs, rfl, hvl, hcs, hsub, hnc, hnm⟩ := hN.form
  unfold lenMax at hnm
  have HX := Lib.hid (And.intro hsub (And.intro hcs (And.intro hvl IH)))
  have HSZ := Lib.hid (fun s (h : s ∈ t.subs) => (by have := Tr.sub_lt h; omega : SizeOf.sizeOf s ≤ k))
  obtain ⟨r, hr⟩ : ∃ r, r = min (cntT t : Int) (m + 1) := ⟨_, rfl⟩
  rw [← hr]
  have HR0 : Hid (r = min ((cntTs t.subs : Int) + 1) (m + 1)) := Lib.hid (by rw [hr, cntT_eq]; push_cast; rfl)
  generalize t.op = op at *
  generalize t.n = n at *
  generalize t.subs = ts at *
  clear hk hN hsub hcs hvl IH hr
  go_enter Tryd.func33, Tryd.ntmps33
  go_upto_region 1 with fail
  refine wp_named ?_
  intro W1 hW1
  have hE1 : Ext w W1 := by rw [hW1]; exact alloc_ext _ _
  have k2 : ∀ w', Ext W1 w' → w'.cell? ⟨w.heap.size, 2, none⟩ = some (.slice A ts.length cs) := fun w' h => h.cell (by rw [hW1]; simp [go_sem])
  have HE1 := Lib.hid hE1
  clear hW1 hE1
  generalize w.heap.size = b2 at *
  go_wp2
  go_loopw [5, 6] (fun nv iv wr => ∃ (i : Nat) (n : Int), nv = .int .i64 n ∧ iv = .int .i64 i ∧ i ≤ ts.length ∧ 1 ≤ n ∧ n ≤ 1001 ∧ Hid (n = min ((cntTs (ts.take i) : Int) + 1) (m + 1)) ∧ Hid (Ext W1 wr)) (fun _ iv _ => ts.length - (intOf iv).toNat)
  case atStart => exact ⟨0, 1, by first | rfl | simp, by first | rfl | simp, Nat.zero_le _, by omega, by omega, Lib.hid (by simp [cntTs]; omega), Lib.hid (Ext.refl _)⟩
  case round =>
    obtain ⟨i, n, rfl, rfl, hi, hn0, hn1, HN, HW⟩ := hrel
    obtain ⟨W5, hW5⟩ : ∃ W, W = wr := ⟨_, rfl⟩; subst hW5
    have hE5 := HW.out
    have k2 := k2 W5 hE5
    by_cases hlt : i < ts.length
    rotate_left
    · have hie : i = ts.length := by omega
      subst hie
      have hq : ¬ (ts.length : Int) < (ts.length : Int) := by omega
      have HR : Hid (r = n) := Lib.hid (by rw [HR0.out, HN.out, List.take_length])
      clear hlt hi
      go_wp2
      go_ret
      exact ⟨by rw [HR.out]; rfl, HE1.out.trans hE5⟩
    · have hlI : (i : Int) < (ts.length : Int) := by omega
      by_cases hnm' : n ≤ m
      rotate_left
      · have HR : Hid (r = n) := Lib.hid (by
          have h1 := cnt_le ts i
          have h2 := HN.out
          rw [HR0.out]; omega)
        clear hlt hi
        go_wp2
        go_ret
        exact ⟨by rw [HR.out]; rfl, HE1.out.trans hE5⟩
      · skip
        obtain ⟨s, hsi⟩ : ∃ s, ts[i]? = some s := ⟨_, List.getElem?_eq_getElem hlt⟩
        obtain ⟨bs, os, p, m', q, hA, d0, d1, d2, hns⟩ := sub_at HX.out.2.2.1 HX.out.2.1 HX.out.1 hsi
        subst hA
        obtain ⟨_, A9, cs9, vs9, hq9, _⟩ := hns.form
        have hq : q = .slice A9 s.subs.length cs9 := by
          have h9 := congrArg (fun v => match v with | Value.agg cs => cs[2]? | _ => none) hq9
          simpa using h9
        subst hq
        clear hq9
        obtain ⟨sl, hsl⟩ : ∃ n, n = s.subs.length := ⟨_, rfl⟩
        rw [← hsl] at d2 hns
        clear hsl
        have d0 := (HE1.out.trans hE5).cell d0
        have d1 := (HE1.out.trans hE5).cell d1
        have d2 := (HE1.out.trans hE5).cell d2
        have hcl := HX.out.2.2.2 s W5 _ (m - n) (HSZ.out s (List.mem_of_getElem? hsi)) (hns.ext (HE1.out.trans hE5)) (by omega) (by omega)
        have hc1 := cntT_pos s
        have HST := Lib.hid (cnt_take ts i s hsi)
        obtain ⟨q, hq⟩ : ∃ q, q = min (cntT s : Int) (m - n + 1) := ⟨_, rfl⟩
        rw [← hq] at hcl
        have hq0 : 1 ≤ q := by omega
        have hq1 : n + q ≤ m + 1 := by omega
        have HQ : Hid (n + q = min ((cntTs (ts.take (i + 1)) : Int) + 1) (m + 1)) := Lib.hid (by
          rw [HST.out]
          have h2 := HN.out
          push_cast
          omega)
        have HE5 := Lib.hid hE5
        unfold ErrP at hcl
        clear hq hc1 hns hsi hE5
        go_wp2_with ((with_reducible refine hcl.mono ?_); rintro e W8 ⟨rfl, e8⟩)
        refine ⟨⟨i + 1, n + q, by go_num, by go_num, hlt, by omega, by omega, HQ, Lib.hid (HE5.out.trans e8)⟩, ?_⟩
        simp [intOf]; omega
theorem cnt_anyG : ∀ k, CntSG k
  | 0 => fun t _ _ _ h => by cases t; simp at h
  | k + 1 => cnt_stepG k (cnt_anyG k)
theorem count_anyG {t : Tr} {w : World} {v : Value} {m : Int} (hN : NodeV w t v) (h0 : 0 ≤ m) (h1 : m ≤ 1000) : Calls Tryd.prog 33 #[v, .int .i64 m] w (ErrP w (min (cntT t : Int) (m + 1))) := cnt_anyG _ t w v m (Nat.le_refl _) hN h0 h1
end Go.Proofs.YtmebgomnmlbgnaaDoor

namespace Go.Proofs.YtmebgomnmlbgnaaDoor
open Go.RowKit
set_option linter.unusedVariables false
set_option linter.unusedSimpArgs false
inductive Rx where
  | none | empty | sym (a : Nat) | or (x y : Rx) | seq (x y : Rx) | and (x y : Rx) | star (x : Rx) | not (x : Rx)
deriving DecidableEq
def Rx.op : Rx → Nat
  | .none => 0 | .empty => 1 | .sym _ => 2 | .or _ _ => 3 | .seq _ _ => 4 | .and _ _ => 5 | .star _ => 6 | .not _ => 7
def Rx.num : Rx → Nat
  | .sym a => a | _ => 0
def Rx.tr : Rx → Tr
  | .none => .mk 0 0 [] | .empty => .mk 1 0 [] | .sym a => .mk 2 a []
  | .or x y => .mk 3 0 [x.tr, y.tr] | .seq x y => .mk 4 0 [x.tr, y.tr] | .and x y => .mk 5 0 [x.tr, y.tr]
  | .star x => .mk 6 0 [x.tr] | .not x => .mk 7 0 [x.tr]
def Rx.okS (sy : Nat) : Rx → Bool
  | .none => true | .empty => true | .sym a => decide (a < sy)
  | .or x y => x.okS sy && y.okS sy | .seq x y => x.okS sy && y.okS sy | .and x y => x.okS sy && y.okS sy
  | .star x => x.okS sy | .not x => x.okS sy
def Rx.cnt : Rx → Nat
  | .none => 1 | .empty => 1 | .sym _ => 1
  | .or x y => x.cnt + y.cnt + 1 | .seq x y => x.cnt + y.cnt + 1 | .and x y => x.cnt + y.cnt + 1
  | .star x => x.cnt + 1 | .not x => x.cnt + 1
theorem cnt_tr : ∀ r : Rx, cntT r.tr = r.cnt
  | .none => rfl | .empty => rfl | .sym _ => rfl
  | .or x y => by simp [Rx.tr, cntT, cntTs, Rx.cnt, cnt_tr x, cnt_tr y]
  | .seq x y => by simp [Rx.tr, cntT, cntTs, Rx.cnt, cnt_tr x, cnt_tr y]
  | .and x y => by simp [Rx.tr, cntT, cntTs, Rx.cnt, cnt_tr x, cnt_tr y]
  | .star x => by simp [Rx.tr, cntT, cntTs, Rx.cnt, cnt_tr x]
  | .not x => by simp [Rx.tr, cntT, cntTs, Rx.cnt, cnt_tr x]
theorem tr_inj : ∀ {r s : Rx}, r.tr = s.tr → r = s := by
  intro r
  induction r with
  | none => intro s h; cases s <;> simp [Rx.tr] at h ⊢
  | empty => intro s h; cases s <;> simp [Rx.tr] at h ⊢
  | sym a => intro s h; cases s <;> simp [Rx.tr] at h ⊢; omega
  | or x y ihx ihy => intro s h; cases s <;> simp [Rx.tr] at h ⊢; exact ⟨ihx h.1, ihy h.2⟩
  | seq x y ihx ihy => intro s h; cases s <;> simp [Rx.tr] at h ⊢; exact ⟨ihx h.1, ihy h.2⟩
  | and x y ihx ihy => intro s h; cases s <;> simp [Rx.tr] at h ⊢; exact ⟨ihx h.1, ihy h.2⟩
  | star x ihx => intro s h; cases s <;> simp [Rx.tr] at h ⊢; exact ihx h
  | not x ihx => intro s h; cases s <;> simp [Rx.tr] at h ⊢; exact ihx h
theorem val_of_rx {sy : Nat} : ∀ {r : Rx}, r.okS sy = true → valT (sy : Int) r.tr = true := by
  intro r
  induction r with
  | none => intro _; rfl
  | empty => intro _; rfl
  | sym a => intro h; simp [Rx.okS] at h; simp [Rx.tr, valT, valTs, ownV, subT]; omega
  | or x y ihx ihy => intro h; simp [Rx.okS] at h; simp [Rx.tr, valT, valTs, ownV, subT, ihx h.1, ihy h.2]
  | seq x y ihx ihy => intro h; simp [Rx.okS] at h; simp [Rx.tr, valT, valTs, ownV, subT, ihx h.1, ihy h.2]
  | and x y ihx ihy => intro h; simp [Rx.okS] at h; simp [Rx.tr, valT, valTs, ownV, subT, ihx h.1, ihy h.2]
  | star x ihx => intro h; simp [Rx.okS] at h; simp [Rx.tr, valT, valTs, ownV, subT, ihx h]
  | not x ihx => intro h; simp [Rx.okS] at h; simp [Rx.tr, valT, valTs, ownV, subT, ihx h]
theorem list1 {α : Type} {l : List α} (h : l.length = 1) : ∃ a, l = [a] := by
  match l, h with
  | [a], _ => exact ⟨a, rfl⟩
theorem list2 {α : Type} {l : List α} (h : l.length = 2) : ∃ a b, l = [a, b] := by
  match l, h with
  | [a, b], _ => exact ⟨a, b, rfl⟩
theorem rx_of_val_aux {sy : Nat} (hsy : 0 < sy) : ∀ (k : Nat) (t : Tr), SizeOf.sizeOf t ≤ k → valT (sy : Int) t = true → ∃ r : Rx, r.tr = t ∧ r.okS sy = true
  | 0, t, hk, _ => by cases t; simp at hk
  | k + 1, .mk op n ts, hk, h => by
    have hs : ∀ s ∈ ts, SizeOf.sizeOf s ≤ k := fun s hs => by have := Tr.sub_lt (t := .mk op n ts) (s := s) hs; omega
    simp only [valT, Bool.and_eq_true] at h
    obtain ⟨ho, hl⟩ := h
    unfold ownV at ho
    simp only [Bool.and_eq_true, Bool.or_eq_true, decide_eq_true_eq] at ho
    obtain ⟨h8, hlen, hn⟩ := ho
    by_cases h2 : op ≤ 2
    · have hl0 : ts = [] := by
        rw [subT, if_pos h2] at hlen
        exact List.eq_nil_of_length_eq_zero (by omega)
      subst hl0
      rcases (show op = 0 ∨ op = 1 ∨ op = 2 by omega) with rfl | rfl | rfl
      · exact ⟨.none, by simp only [Rx.tr]; congr; omega, rfl⟩
      · exact ⟨.empty, by simp only [Rx.tr]; congr; omega, rfl⟩
      · rcases hn with rfl | ⟨_, hn1, hn2⟩
        · exact ⟨.sym 0, rfl, by simp [Rx.okS]; exact hsy⟩
        · exact ⟨.sym n.toNat, by simp only [Rx.tr]; congr; omega, by simp [Rx.okS]; omega⟩
    · by_cases h5 : op ≤ 5
      · rw [subT, if_neg h2, if_pos h5] at hlen
        obtain ⟨a, b, rfl⟩ := list2 (l := ts) (by omega)
        simp only [valTs, Bool.and_eq_true] at hl
        obtain ⟨ra, hra, hoa⟩ := rx_of_val_aux hsy k a (hs a (by simp)) hl.1
        obtain ⟨rb, hrb, hob⟩ := rx_of_val_aux hsy k b (hs b (by simp)) hl.2.1
        have hn0 : n = 0 := by omega
        subst hn0 hra hrb
        rcases (show op = 3 ∨ op = 4 ∨ op = 5 by omega) with rfl | rfl | rfl
        · exact ⟨.or ra rb, rfl, by simp [Rx.okS, hoa, hob]⟩
        · exact ⟨.seq ra rb, rfl, by simp [Rx.okS, hoa, hob]⟩
        · exact ⟨.and ra rb, rfl, by simp [Rx.okS, hoa, hob]⟩
      · rw [subT, if_neg h2, if_neg h5] at hlen
        obtain ⟨a, rfl⟩ := list1 (l := ts) (by omega)
        simp only [valTs, Bool.and_eq_true] at hl
        obtain ⟨ra, hra, hoa⟩ := rx_of_val_aux hsy k a (hs a (by simp)) hl.1
        have hn0 : n = 0 := by omega
        subst hn0 hra
        rcases (show op = 6 ∨ op = 7 by omega) with rfl | rfl
        · exact ⟨.star ra, rfl, by simp [Rx.okS, hoa]⟩
        · exact ⟨.not ra, rfl, by simp [Rx.okS, hoa]⟩
theorem rx_of_val {sy : Nat} (hsy : 0 < sy) {t : Tr} (h : valT (sy : Int) t = true) : ∃ r : Rx, r.tr = t ∧ r.okS sy = true := rx_of_val_aux hsy _ t (Nat.le_refl _) h
theorem check_rx {sy : Nat} {r : Rx} (h1 : 1 ≤ sy) (h2 : sy ≤ 16) (hc : r.cnt ≤ 64) (ho : r.okS sy = true) : checkX (sy : Int) r.tr = 0 := by
  unfold checkX
  rw [cnt_tr, if_neg (by omega), if_neg]
  rintro (h | h)
  · omega
  · rw [val_of_rx ho] at h; cases h
theorem rx_of_check {sy : Int} {t : Tr} (h : checkX sy t = 0) : ∃ (m : Nat) (r : Rx), sy = m ∧ 1 ≤ m ∧ m ≤ 16 ∧ r.tr = t ∧ r.okS m = true ∧ r.cnt ≤ 64 := by
  unfold checkX at h
  split at h
  · cases h
  · rename_i h1
    split at h
    · cases h
    · rename_i h2
      obtain ⟨m, rfl⟩ : ∃ m : Nat, sy = m := ⟨sy.toNat, by omega⟩
      have hv : valT (m : Int) t = true := by
        cases hv : valT (m : Int) t with
        | true => rfl
        | false => exact absurd (.inr hv) h2
      obtain ⟨r, hr, ho⟩ := rx_of_val (by omega) hv
      refine ⟨m, r, rfl, by omega, by omega, hr, ho, ?_⟩
      rw [← cnt_tr, hr]; omega
theorem node_parts {w : World} {t : Tr} {v : Value} (h : NodeV w t v) : ∃ A c, v = .agg #[.int .u8 (t.op : Int), .int .i64 t.n, .slice A t.subs.length c] := by
  obtain ⟨_, A, c, _, hv, _⟩ := h.form
  exact ⟨A, c, hv⟩
theorem leaf_form {w : World} {op : Nat} {n : Int} {v : Value} (h : NodeV w (.mk op n []) v) : ∃ A c, v = .agg #[.int .u8 (op : Int), .int .i64 n, .slice A 0 c] := by
  obtain ⟨_, A, c, _, hv, _⟩ := h.form
  exact ⟨A, c, hv⟩
theorem sub_form {w : World} {A : Option Addr} {vs : List Nv} {ts : List Tr} (hl : vs.length = ts.length) (hc : Cells w A (vs.flatMap nvCells)) (hs : ∀ (i : Nat) (s : Tr) (u : Nv), ts[i]? = some s → vs[i]? = some u → NodeV w s (nvVal u)) {i : Nat} {s : Tr} (hi : ts[i]? = some s) :
    ∃ b o A1 c1, A = some ⟨b, o, none⟩ ∧ w.cell? ⟨b, o + i * 3, none⟩ = some (.int .u8 (s.op : Int)) ∧ w.cell? ⟨b, o + i * 3 + 1, none⟩ = some (.int .i64 s.n) ∧ w.cell? ⟨b, o + i * 3 + 2, none⟩ = some (.slice A1 s.subs.length c1) ∧ NodeV w s (.agg #[.int .u8 (s.op : Int), .int .i64 s.n, .slice A1 s.subs.length c1]) := by
  obtain ⟨b, o, p, m, q, hA, d0, d1, d2, hn⟩ := sub_at hl hc hs hi
  obtain ⟨A1, c1, hv⟩ := node_parts hn
  have h0 := congrArg (fun v => match v with | Value.agg cs => cs[0]? | _ => none) hv
  have h1 := congrArg (fun v => match v with | Value.agg cs => cs[1]? | _ => none) hv
  have h2 := congrArg (fun v => match v with | Value.agg cs => cs[2]? | _ => none) hv
  simp only [List.getElem?_toArray, List.getElem?_cons_zero, List.getElem?_cons_succ, Option.some.injEq] at h0 h1 h2
  exact ⟨b, o, A1, c1, hA, by rw [d0, h0], by rw [d1, h1], by rw [d2, h2], by rw [hv] at hn; exact hn⟩
theorem one_form {w : World} {op : Nat} {n : Int} {t : Tr} {v : Value} (h : NodeV w (.mk op n [t]) v) :
    ∃ b o c A1 c1, v = .agg #[.int .u8 (op : Int), .int .i64 n, .slice (some ⟨b, o, none⟩) 1 c] ∧ w.cell? ⟨b, o, none⟩ = some (.int .u8 (t.op : Int)) ∧ w.cell? ⟨b, o + 1, none⟩ = some (.int .i64 t.n) ∧ w.cell? ⟨b, o + 2, none⟩ = some (.slice A1 t.subs.length c1) ∧
      NodeV w t (.agg #[.int .u8 (t.op : Int), .int .i64 t.n, .slice A1 t.subs.length c1]) ∧ 1 ≤ c := by
  obtain ⟨_, A, c, vs, hv, hl, hc, hs, hcap, _⟩ := h.form
  obtain ⟨b, o, A1, c1, rfl, d0, d1, d2, hn⟩ := sub_form hl hc hs (i := 0) (s := t) rfl
  exact ⟨b, o, c, A1, c1, hv, by simpa using d0, by simpa using d1, by simpa using d2, hn, hcap⟩
theorem two_form {w : World} {op : Nat} {n : Int} {t u : Tr} {v : Value} (h : NodeV w (.mk op n [t, u]) v) :
    ∃ b o c A1 c1 A2 c2, v = .agg #[.int .u8 (op : Int), .int .i64 n, .slice (some ⟨b, o, none⟩) 2 c] ∧ w.cell? ⟨b, o, none⟩ = some (.int .u8 (t.op : Int)) ∧ w.cell? ⟨b, o + 1, none⟩ = some (.int .i64 t.n) ∧ w.cell? ⟨b, o + 2, none⟩ = some (.slice A1 t.subs.length c1) ∧
      NodeV w t (.agg #[.int .u8 (t.op : Int), .int .i64 t.n, .slice A1 t.subs.length c1]) ∧ w.cell? ⟨b, o + 3, none⟩ = some (.int .u8 (u.op : Int)) ∧ w.cell? ⟨b, o + 3 + 1, none⟩ = some (.int .i64 u.n) ∧ w.cell? ⟨b, o + 3 + 2, none⟩ = some (.slice A2 u.subs.length c2) ∧
      NodeV w u (.agg #[.int .u8 (u.op : Int), .int .i64 u.n, .slice A2 u.subs.length c2]) ∧ 2 ≤ c := by
  obtain ⟨_, A, c, vs, hv, hl, hc, hs, hcap, _⟩ := h.form
  obtain ⟨b, o, A1, c1, rfl, d0, d1, d2, hn⟩ := sub_form hl hc hs (i := 0) (s := t) rfl
  obtain ⟨b', o', A2, c2, hA, e0, e1, e2, hn2⟩ := sub_form hl hc hs (i := 1) (s := u) rfl
  cases hA
  exact ⟨b, o, c, A1, c1, A2, c2, hv, by simpa using d0, by simpa using d1, by simpa using d2, hn, by simpa using e0, by simpa using e1, by simpa using e2, hn2, hcap⟩
end Go.Proofs.YtmebgomnmlbgnaaDoor

namespace Go.Proofs.YtmebgomnmlbgnaaDoor
open Go.RowKit
set_option linter.unusedVariables false
set_option linter.unusedSimpArgs false
attribute [local go_sem] Oper.quietV quietV Oper.gives givesV ext_refl_iff ext_alloc_iff ext_drew_iff ext_drewN_iff
def opens : ByteArray := ⟨#[48, 49, 126, 40]⟩
def opensB (c : Nat) : Bool := c == 48 || (c == 49 || (c == 126 || c == 40))
theorem opens_idx : ∀ c : Nat, c < 256 → decide (0 ≤ firstIdx opens c.toUInt8) = opensB c := by
  have h : (List.range 256).all (fun c => decide (0 ≤ firstIdx opens c.toUInt8) == opensB c) = true := by kernel_rfl
  intro c hc
  have := List.all_eq_true.1 h c (List.mem_range.2 hc)
  simpa using this
theorem run_idx (s : ByteArray) (c : Nat) (w : World) : (callFunc 123 #[.string s, .int .u8 (c : Int)]).run Tryd.prog w = .ok (.value (.int .i64 (firstIdx s c.toUInt8))) w := by
  rw [run_callFunc_extern (e := Extern.BytealgIndexByte.indexByte) Tryd.func123 (by kernel_rfl) (by kernel_rfl) (by kernel_rfl) (by kernel_rfl)]
  rw [run_indexByte_string]
  rfl
theorem idx_any (s : ByteArray) (c : Nat) (w : World) : Calls Tryd.prog 120 #[.string s, .int .u8 (c : Int)] w fun e w' => e = .returned (.int .i64 (firstIdx s c.toUInt8)) ∧ w = w' := by
  have hr := fun w => run_idx s c w
  generalize firstIdx s c.toUInt8 = r at *
  go_enter Tryd.func120, Tryd.ntmps120
  go_wp2
  go_ret
  exact ⟨rfl, rfl⟩
end Go.Proofs.YtmebgomnmlbgnaaDoor
