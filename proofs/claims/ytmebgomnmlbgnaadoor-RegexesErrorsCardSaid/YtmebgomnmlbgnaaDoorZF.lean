/-   -/
import Derived.Test.YtmebgomnmlbgnaaDoorZN8
set_option linter.unnecessarySimpa false
set_option linter.unusedSectionVars false
namespace Go.Proofs.YtmebgomnmlbgnaaDoor
open Go.RowKit Go.Maps
set_option linter.unusedVariables false
set_option linter.unusedSimpArgs false
attribute [local go_sem] Oper.quietV quietV Oper.gives givesV ext_refl_iff ext_alloc_iff ext_drew_iff ext_drewN_iff
theorem clipN_any (w : World) (A : Option Addr) (n c : Nat) (hn : n ≤ c) (hn' : n ≤ 9223372036854775807) : Calls Tryd.prog 85 #[.slice A n c] w fun e w' => e = .returned (.slice A n n) ∧ w = w' := by
  go_enter Tryd.func85, Tryd.ntmps85
  go_wp2
  go_ret
  exact ⟨rfl, rfl⟩
theorem node_info : (Tryd.prog.info? 35).map (fun i => (i.zero, i.size, i.bytes)) = some (some (.agg #[.int .u8 0, .int .i64 0, .slice none 0 0]), 3, 40) := by kernel_rfl
def SX (S : Nat → Prop) (v : Value) : Nat → Prop := fun b => S b ∧ v.ownBlock ≠ some b
structure CloSt (S : Nat → Prop) (W : World) (ts : List Tr) (i : Nat) (v : Value) (W' : World) : Prop where
  ext : Ext W W'
  st : ∃ vs : List Nv, vs.length = i ∧ W'.ownsRow W.heap.size 35 3 v i (vs.flatMap nvCells) ∧ ∀ (j : Nat) (s : Tr) (u : Nv), ts[j]? = some s → vs[j]? = some u → NodeB (SX S v) true W' s (nvVal u)
theorem CloSt.start (S : Nat → Prop) (W : World) (ts : List Tr) : CloSt S W ts 0 (.slice none 0 0) W := ⟨Ext.refl _, [], rfl, World.ownsRow_nil _ _ _ _, fun j s u _ h => by simp at h⟩
theorem CloSt.new {S : Nat → Prop} {W : World} {ts : List Tr} {i : Nat} {v : Value} {W' w5 : World} (h : CloSt S W ts i v W') (e : Ext W' w5) (hS : New S W) : New (SX S v) w5 := fun b hb => ⟨hS b (Nat.le_trans (h.ext.trans e).size hb), fun e2 => by
  obtain ⟨vs, _, h2, _⟩ := h.st
  have := (h2.lt b e2).2
  have := e.size
  omega⟩
theorem NodeB.keepX {S : Nat → Prop} {v v8 : Value} {F : Bool} {w6 w8 : World} {o : Obj} {t : Tr} {u : Value} (h : NodeB (SX S v) F w6 t u) (g : (w6.alloc o).grownBy w8 v.ownBlock) (hb : ∀ b, v8.ownBlock = some b → v.ownBlock = some b ∨ (w6.alloc o).heap.size ≤ b) : NodeB (SX S v8) F w8 t u := by
  have e6 := alloc_ext w6 o
  have h1 : NodeB (fun b => SX S v b ∧ SX S v8 b) F w6 t u := h.mono (fun b hb2 hl => ⟨hb2, hb2.1, fun e => by
    rcases hb b e with h | h
    · exact hb2.2 h
    · have := e6.size; omega⟩)
  have h2 := h1.keep (w' := w8) (Nat.le_trans e6.size g.size) (fun b hb2 hl => by rw [g.block b (Nat.lt_of_lt_of_le hl e6.size) (fun e => hb2.1.2 e.symm)]; exact e6.block b hl)
  exact h2.mono (fun b hb2 _ => hb2.2)
theorem CloSt.step {S : Nat → Prop} {W : World} {ts : List Tr} {i : Nat} {v : Value} {W' w5 w6 w8 : World} {v8 : Value} {s : Tr} {A : Option Addr} {c : Nat} {o : Obj} (h : CloSt S W ts i v W') (e5 : Ext W' w5) (e6 : Ext w5 w6) (hs : ts[i]? = some s) (hn : NodeB (SX S v) true w6 s (ndV s A c)) {vs : List Nv} (hvl : vs.length = i)
    (hst : ∀ (j : Nat) (s : Tr) (u : Nv), ts[j]? = some s → vs[j]? = some u → NodeB (SX S v) true W' s (nvVal u)) (hown0 : W'.ownsRow W.heap.size 35 3 v i (vs.flatMap nvCells))
    (hown : w8.ownsRow W.heap.size 35 3 v8 (i + 1) (vs.flatMap nvCells ++ [.int .u8 (s.op : Int), .int .i64 s.n, .slice A s.subs.length c])) (g : (w6.alloc o).grownBy w8 v.ownBlock) (hb : ∀ b, v8.ownBlock = some b → v.ownBlock = some b ∨ (w6.alloc o).heap.size ≤ b) : CloSt S W ts (i + 1) v8 w8 := by
  have e8 := ((h.ext.trans e5).trans e6).trans (alloc_ext w6 o)
  refine ⟨Below.grown e8 g e8.size (fun k hk => ?_), vs ++ [(s.op, s.n, .slice A s.subs.length c)], by simp [hvl], ?_, fun j t u ht hu => ?_⟩
  · exact (hown0.lt k hk).1
  · simpa [nvCells] using hown
  · by_cases hj : j < i
    · rw [List.getElem?_append_left (by omega)] at hu
      exact ((hst j t u ht hu).ext (e5.trans e6)).keepX g hb
    · have hji : j = i := by
        have := (List.getElem?_eq_some_iff.1 hu).1
        simp [hvl] at this; omega
      subst hji
      rw [List.getElem?_append_right (by omega), hvl, Nat.sub_self] at hu
      simp at hu; subst hu
      rw [hs] at ht; cases ht
      exact hn.keepX g hb
theorem CloSt.done {S : Nat → Prop} {W : World} {ts : List Tr} {A : Option Addr} {c : Nat} {W' : World} (h : CloSt S W ts ts.length (.slice A ts.length c) W') (hS : New S W) {op : Nat} {n : Int} (hop : op < 256) (hl : ts.length ≤ lenMax) : NodeB S true W' (.mk op n ts) (.agg #[.int .u8 (op : Int), .int .i64 n, .slice A ts.length ts.length]) := by
  obtain ⟨vs, h1, h2, h3⟩ := h.st
  refine .mk (vs := vs) hop h1 ?_ (fun i t u ht hu => (h3 i t u ht hu).mono (fun b hb _ => hb.1)) (Nat.le_refl _) hl (fun _ => rfl)
  intro h0
  obtain ⟨A', c', hv, _, hc⟩ := cells_of_owns h2
  injection hv with hA _ _
  subst hA
  obtain ⟨b, o, hA, hb, hcc⟩ := hc h0
  subst hA
  exact ⟨b, o, rfl, hS b (h2.lt b rfl).1, hb, hcc⟩
theorem NodeB.past3 {S : Nat → Prop} {F : Bool} {w w' : World} {t : Tr} {v : Value} {h : Nat} (hN : NodeB S F w t v) (g : w.grownBy w' (some h)) (hS : ¬ S h) : NodeB S F w' t v :=
  hN.keep (w' := w') g.size (fun b hb hl => g.block b hl (fun e => hS (by injection e with e; rw [← e]; exact hb)))
theorem grown_setK (w : World) (b k : Nat) (v : Value) : w.grownBy (w.setCell ⟨b, k, none⟩ v) (some b) := ⟨rfl, rfl, rfl, by simp [World.setCell], fun j hk hr => heap_setCell_other w ⟨b, k, none⟩ j v (fun e => hr (by rw [e]))⟩
def CloT (t : Tr) : Prop := ∀ (S : Nat → Prop) (w : World) (v : Value), New S w → NodeV w t v → Calls Tryd.prog 50 #[v] w (NodeQ S true w t)
set_option maxRecDepth 100000 in
set_option maxHeartbeats 16000000 in
theorem clo_step (t : Tr) (h2 : t.subs.length ≤ 2) (IH : ∀ s ∈ t.subs, CloT s) : CloT t := by
  intro S w v hS hN
  obtain ⟨hop, A, c, rfl, hA, hnc, hnm⟩ := node_nodes hN
  have HX := Lib.hid (And.intro hA IH)
  obtain ⟨i9, hi9, hz9, hs9, hb9⟩ := info_parts node_info
  have HT : Hid (t = .mk t.op t.n t.subs) := Lib.hid (Tr.eta t)
  have HOP := Lib.hid hop
  generalize t.op = op at *
  generalize t.n = n at *
  generalize t.subs = ts at *
  clear hN hA IH hnm hop
  go_enter Tryd.func50, Tryd.ntmps50
  go_upto_region 1 with fail
  refine wp_named ?_
  intro W1 hW1
  have hE1 : Ext w W1 := by rw [hW1]; exact (alloc_ext _ _).trans (alloc_ext _ _)
  have hB1 : W1.heap[w.heap.size]? = some (.cells #[.int .u8 (op : Int), .int .i64 n, .slice A ts.length c] 35 (0, 0)) := by rw [hW1]; exact heap_ext (alloc_ext _ _) (heap_alloc_new _ _)
  have hB2 : W1.heap[w.heap.size + 1]? = some (.cells zNode 35 (0, 0)) := by rw [hW1]; exact alloc2_1 _ _ _
  have k2 : ∀ w', Ext W1 w' → w'.cell? ⟨w.heap.size, 2, none⟩ = some (.slice A ts.length c) := fun w' h => h.cell (cell_of_blk hB1 2 rfl)
  have hR1 := Ext.refl W1
  have HE1 := Lib.hid hE1
  have HB := Lib.hid (And.intro hB1 hB2)
  have HD : Hid (w.heap.size ≤ w.heap.size ∧ w.heap.size ≤ w.heap.size + 1 ∧ w.heap.size ≠ w.heap.size + 1) := Lib.hid ⟨Nat.le_refl _, by omega, by omega⟩
  have HS := Lib.hid ((hS.but hE1 (lt_of_block hB1)).but (Ext.refl W1) (lt_of_block hB2))
  have HX := Lib.hid (And.intro (HX.out.1.ext hE1) HX.out.2)
  have HW0 : Hid (w.heap.size = w.heap.size) := Lib.hid rfl
  clear hW1 hE1 hB1 hB2 hS
  generalize w.heap.size + 1 = b2 at *
  obtain ⟨b1, hb1⟩ : ∃ b, b = w.heap.size := ⟨_, rfl⟩
  rw [← hb1] at HB HD k2 HS
  have HBW := Lib.hid hb1
  rw [← hb1]
  clear hb1
  go_wp2
  clear k2
  go_loopw [3, 9] (fun lv iv wr => ∃ i : Nat, iv = .int .i64 i ∧ i ≤ ts.length ∧ Hid (CloSt (butS (butS S b1) b2) W1 ts i lv wr)) (fun _ iv _ => ts.length - (intOf iv).toNat)
  case atStart => exact ⟨0, by first | rfl | simp, Nat.zero_le _, Lib.hid (CloSt.start _ _ _)⟩
  case round =>
    obtain ⟨i, rfl, hi, HC⟩ := hrel
    obtain ⟨W5, hW5⟩ : ∃ W, W = wr := ⟨_, rfl⟩; subst hW5
    have hR5 := Ext.refl W5
    by_cases hlt : i < ts.length
    · have hlI : (i : Int) < (ts.length : Int) := by omega
      obtain ⟨s, hsi⟩ : ∃ s, ts[i]? = some s := ⟨_, List.getElem?_eq_getElem hlt⟩
      obtain ⟨bs, os, A1, c1, hA, d0, d1, d2, hns⟩ := HX.out.1.at_ hsi
      subst hA
      have hE15 := HC.out.ext
      have d0 := fun w' (h : Ext W5 w') => (hE15.trans h).cell d0
      have d1 := fun w' (h : Ext W5 w') => (hE15.trans h).cell d1
      have d2 := fun w' (h : Ext W5 w') => (hE15.trans h).cell d2
      obtain ⟨vs, hvl, hown, hst⟩ := HC.out.st
      have hcl := HX.out.2 s (List.mem_of_getElem? hsi) (SX (butS (butS S b1) b2) u3) (W5.alloc (.cells #[.int .u8 (s.op : Int), .int .i64 s.n, .slice A1 s.subs.length c1] 35)) _ (HC.out.new (alloc_ext W5 _) HS.out) (hns.ext (hE15.trans (alloc_ext W5 _)))
      unfold NodeQ ndV at hcl
      have HSI := Lib.hid (And.intro hsi (And.intro hvl (And.intro hown hst)))
      clear hsi hvl hown hst hns hE15
      go_wp2_with (first
        | ((with_reducible refine hcl.mono ?_); rintro e W6 ⟨A6, c6, rfl, h6, e6⟩
           have e56 := (alloc_ext W5 (.cells #[.int .u8 (s.op : Int), .int .i64 s.n, .slice A1 s.subs.length c1] 35)).trans e6
           have hown6 := ownsRow_ext HSI.out.2.2.1 e56
           have hb6 : W1.heap.size ≤ (W6.alloc (.cells #[.int .u8 (s.op : Int), .int .i64 s.n, .slice A6 s.subs.length c6] 35)).heap.size := ((HC.out.ext.trans e56).trans (alloc_ext _ _)).size)
        | (at_builtin; refine wpList_append_own2 rfl _ _ 33 rfl W1.heap.size 35 i9 (.agg #[.int .u8 0, .int .i64 0, .slice none 0 0]) 3 40 Tryd.underlying33 hi9 hz9 hs9 hb9 rfl (by decide) u3 i (vs.flatMap nvCells) rfl (World.ownsRow.alloc hown6 _) ⟨W6.heap.size, 0, none⟩ 1 1 [.int .u8 (s.op : Int), .int .i64 s.n, .slice A6 s.subs.length c6] rfl rfl (cells_new _ _ _) (by intro u hu; simp at hu; rcases hu with rfl | rfl | rfl <;> rfl) (by unfold maxLen; omega) (by omega) hb6 ?_; intro v8 w8 hown8 hg8 hb8))
      go_roundw
      case rel =>
        have hC := HC.out.step (alloc_ext W5 _) e6 HSI.out.1 h6 HSI.out.2.1 HSI.out.2.2.2 HSI.out.2.2.1 hown8 hg8 hb8
        refine ⟨i + 1, by go_num, hlt, Lib.hid ?_⟩
        exact hC
      case measure => simp [intOf]; omega
    · have hie : i = ts.length := by omega
      subst hie
      have hlt2 : ¬ (ts.length : Int) < (ts.length : Int) := by omega
      obtain ⟨vs, hvl, hown, hst⟩ := HC.out.st
      obtain ⟨A3, c3, rfl, hnc3, -⟩ := cells_of_owns hown
      have hcl := fun w' => clipN_any w' A3 ts.length c3 hnc3 (by omega)
      have hb15 := heap_ext HC.out.ext HB.out.1
      have hb25 := heap_ext HC.out.ext HB.out.2
      have j2 := cell_of_blk hb15 2 (u := .slice A ts.length c) rfl
      have t2 := free_of_blk hb15 2
      have HB5 := Lib.hid (And.intro hb15 hb25)
      clear hown hst hvl hb15 hb25 HX hlt
      go_upto_region 8 with ((with_reducible refine (hcl _).mono ?_); rintro e W6 ⟨rfl, rfl⟩)
      refine wp_named ?_
      intro W8 hW8
      have g8 : W5.grownBy W8 (some b1) := by rw [hW8]; exact grown_setK W5 b1 2 _
      have hb18 : W8.heap[b1]? = some (.cells #[.int .u8 (op : Int), .int .i64 n, .slice A3 ts.length ts.length] 35 (0, 0)) := by rw [hW8]; exact heap_setCell_same W5 b1 2 _ 35 _ HB5.out.1
      have hb28 : W8.heap[b2]? = some (.cells zNode 35 (0, 0)) := by rw [g8.block b2 (lt_of_block HB5.out.2) (fun e => HD.out.2.2 (by injection e with e; exact e.symm))]; exact HB5.out.2
      have k0 := cell_of_blk hb18 0 (u := .int .u8 (op : Int)) rfl
      have k1 := cell_of_blk hb18 1 (u := .int .i64 n) rfl
      have k2 := cell_of_blk hb18 2 (u := .slice A3 ts.length ts.length) rfl
      have hE6 := HE1.out.trans HC.out.ext
      have HF := Lib.hid (And.intro hb28 (And.intro (Below.grown hE6 g8 hE6.size (fun k hk => by cases hk; rw [HBW.out]; exact Nat.le_refl _)) ((HC.out.done HS.out HOP.out (by unfold lenMax; omega) (op := op) (n := n)).past3 g8 (fun h => h.1.2 rfl))))
      clear hW8 g8 hb18 hb28 hE6 j2 t2 hcl hR5
      go_wp2_with (with_reducible refine wpList_store_blk _ rfl 35 _ _ rfl b2 35 _ _ rfl rfl HF.out.1 (by kernel_rfl) (by kernel_rfl) (by kernel_rfl) ?_; intro w9 h9 g9)
      refine bodyPost_ret (results_cell_row rfl _ _ b2 35 _ (0, 0) _ (by simp [Act.put]) h9 Tryd.underlying35 rfl (by kernel_rfl)) rfl ?_
      rw [HT.out]
      exact ⟨A3, ts.length, rfl, (HF.out.2.2.past2 g9).mono (fun b hb _ => hb.1.1), Below.grown HF.out.2.1 g9 HF.out.2.1.size (fun k hk => by cases hk; rw [← HBW.out]; exact HD.out.2.1)⟩
theorem clo_rx : ∀ r : Rx, CloT r.tr
  | .none => clo_step _ (by simp [Rx.tr, Tr.subs]) (by simp [Rx.tr, Tr.subs])
  | .empty => clo_step _ (by simp [Rx.tr, Tr.subs]) (by simp [Rx.tr, Tr.subs])
  | .sym _ => clo_step _ (by simp [Rx.tr, Tr.subs]) (by simp [Rx.tr, Tr.subs])
  | .or x y => clo_step _ (by simp [Rx.tr, Tr.subs]) (by simp [Rx.tr, Tr.subs]; exact ⟨clo_rx x, clo_rx y⟩)
  | .seq x y => clo_step _ (by simp [Rx.tr, Tr.subs]) (by simp [Rx.tr, Tr.subs]; exact ⟨clo_rx x, clo_rx y⟩)
  | .and x y => clo_step _ (by simp [Rx.tr, Tr.subs]) (by simp [Rx.tr, Tr.subs]; exact ⟨clo_rx x, clo_rx y⟩)
  | .star x => clo_step _ (by simp [Rx.tr, Tr.subs]) (by simp [Rx.tr, Tr.subs]; exact clo_rx x)
  | .not x => clo_step _ (by simp [Rx.tr, Tr.subs]) (by simp [Rx.tr, Tr.subs]; exact clo_rx x)
theorem clone_any {S : Nat → Prop} {r : Rx} {w : World} {v : Value} (hS : New S w) (h : NodeV w r.tr v) : Calls Tryd.prog 50 #[v] w (NodeQ S true w r.tr) := clo_rx r S w v hS h
end Go.Proofs.YtmebgomnmlbgnaaDoor

namespace Go.Proofs.YtmebgomnmlbgnaaDoor
open Go.RowKit Go.Maps
set_option linter.unusedVariables false
set_option linter.unusedSimpArgs false
attribute [local go_sem] Oper.quietV quietV Oper.gives givesV ext_refl_iff ext_alloc_iff ext_drew_iff ext_drewN_iff
theorem results_ct {P : Program} {fn : Func} {p u : Tmp} {ty : TypeId} (h : fn.results = #[.cell p ty, .tmp u]) (tmps : Array Value) (w : World) (g : Nat) (t : TypeId) (cs : Array Value) (fr : Nat × Nat) (d : TypeDesc)
    (hp : tmps.getD p undef = .pointer (some ⟨g, 0, none⟩)) (hg : w.heap[g]? = some (.cells cs t fr))
    (hu : P.underlying ty = some d) (hd : (match d with | .struct _ | .array _ _ => true | _ => false) = true) (hi : (P.info? ty).map (·.size) = some cs.size) :
    (results fn tmps).run P w = .ok (.tuple #[.agg cs, tmps.getD u undef]) w := by
  have hp' : tmps[p]?.getD undef = .pointer (some ⟨g, 0, none⟩) := by simpa using hp
  simp [results, h, hp', asAddr, run_loadVar_row w g t ty cs fr d hg hu hd hi]
def NonP (w : World) (er : Int) (e : Ending) (w' : World) : Prop := e = .returned (.tuple #[.agg #[.int .u8 0, .int .i64 0, .slice none 0 0], .int .i64 er]) ∧ Ext w w'
def TreeP (S : Nat → Prop) (w : World) (t : Tr) (e : Ending) (w' : World) : Prop := ∃ A c, e = .returned (.tuple #[ndV t A c, .int .i64 0]) ∧ NodeB S true w' t (ndV t A c) ∧ Ext w w'
theorem cnt_pos (r : Rx) : 1 ≤ r.cnt := by cases r <;> simp [Rx.cnt]
set_option maxRecDepth 100000 in
set_option maxHeartbeats 4000000 in
theorem derive_bad {sy er a : Int} {t : Tr} {w : World} {v : Value} (hN : NodeV w t v) (hT : Tabs w) (he : checkX sy t = er) (hz : er ≠ 0) : Calls Tryd.prog 18 #[v, .int .i64 sy, .int .i64 a] w (NonP w er) := by
  obtain ⟨A, c, rfl⟩ := node_parts hN
  have HK := Lib.hid (And.intro hN hT)
  obtain ⟨op, hop⟩ : ∃ op, op = t.op := ⟨_, rfl⟩
  obtain ⟨n, hn⟩ : ∃ op, op = t.n := ⟨_, rfl⟩
  obtain ⟨ln, hl⟩ : ∃ op, op = t.subs.length := ⟨_, rfl⟩
  rw [← hop, ← hn, ← hl] at HK ⊢
  have hck := fun w1 (hE : Ext w w1) => check_any (sy := sy) (HK.out.1.ext hE) (HK.out.2.ext hE)
  unfold ErrP at hck
  clear hop hn hl hN hT
  go_enter Tryd.func18, Tryd.ntmps18
  go_upto_region 1 with fail
  refine wp_named ?_
  intro W1 hW1
  have hE1 : Ext w W1 := by rw [hW1]; exact (alloc_ext _ _).trans (alloc_ext _ _)
  have hB : W1.heap[w.heap.size + 1]? = some (.cells zNode 35 (0, 0)) := by rw [hW1]; exact alloc2_1 _ _ _
  have k0 : ∀ w', Ext W1 w' → w'.cell? ⟨w.heap.size, 0, none⟩ = some (.int .u8 (op : Int)) := fun w' h => h.cell (by rw [hW1]; simp [go_sem])
  have k1 : ∀ w', Ext W1 w' → w'.cell? ⟨w.heap.size, 1, none⟩ = some (.int .i64 n) := fun w' h => h.cell (by rw [hW1]; simp [go_sem])
  have k2 : ∀ w', Ext W1 w' → w'.cell? ⟨w.heap.size, 2, none⟩ = some (.slice A ln c) := fun w' h => h.cell (by rw [hW1]; simp [go_sem])
  have hR1 := Ext.refl W1
  have HE1 := Lib.hid hE1
  have HB := Lib.hid hB
  have HD : Hid (w.heap.size ≤ w.heap.size + 1) := Lib.hid (by omega)
  have hck := hck W1 hE1
  clear hW1 hB
  generalize w.heap.size + 1 = b6 at *
  rw [he] at hck
  have hne : (er != 0) = true := bne_iff_ne.2 hz
  clear he hz hE1
  go_wp2_with (first | ((with_reducible refine hck.mono ?_); rintro e W5 ⟨rfl, e5⟩) | (with_reducible refine wpList_store_blk _ rfl 35 _ _ rfl b6 35 _ _ rfl rfl (heap_ext e5 HB.out) (by kernel_rfl) (by kernel_rfl) (by kernel_rfl) ?_; intro w9 h9 g9))
  refine bodyPost_ret (results_ct rfl _ _ b6 35 _ (0, 0) _ (by simp [Act.put]) h9 Tryd.underlying35 rfl (by kernel_rfl)) rfl ?_
  exact ⟨rfl, Below.grown (HE1.out.trans e5) g9 (HE1.out.trans e5).size (fun k hk => by cases hk; exact HD.out)⟩
set_option maxRecDepth 100000 in
set_option maxHeartbeats 4000000 in
theorem derive_ok {S : Nat → Prop} {sy : Nat} {a : Int} {r : Rx} {w : World} {v : Value} (hS : New S w) (hN : NodeV w r.tr v) (hT : Tabs w) (h1 : 1 ≤ sy) (h2 : sy ≤ 16) (ho : r.okS sy = true) (hcn : r.cnt ≤ 64) (ha1 : 0 ≤ a) (ha2 : a < sy) (hcz : (derR a r).cnt ≤ 64) : Calls Tryd.prog 18 #[v, .int .i64 (sy : Int), .int .i64 a] w (TreeP S w (derR a r).tr) := by
  have HS := Lib.hid hS
  clear hS
  have hc0 := check_rx h1 h2 hcn ho
  obtain ⟨z, hz⟩ : ∃ z, z = derR a r := ⟨_, rfl⟩
  rw [← hz] at hcz
  try rw [← hz]
  have HDV : Hid (∀ (S' : Nat → Prop) (w' : World) (u : Value), New S' w' → NodeB S' false w' r.tr u → Calls Tryd.prog 48 #[u, .int .i64 a] w' (NodeQ S' false w' z.tr)) := Lib.hid (fun S' w' u hS' h => by
    obtain ⟨A, c, rfl⟩ := h.val
    rw [hz]; exact derive_any a hS' h)
  generalize (sy : Int) = sy at *
  have ha3 : ¬ sy ≤ a := by omega
  have ha4 : ¬ a < 0 := by omega
  obtain ⟨t, ht⟩ : ∃ t, t = r.tr := ⟨_, rfl⟩
  rw [← ht] at HDV hN hc0
  clear ht h1 h2 ho hcn hz ha1 ha2
  obtain ⟨A, c, rfl⟩ := node_parts hN
  have HK := Lib.hid (And.intro hN hT)
  obtain ⟨op, hop⟩ : ∃ op, op = t.op := ⟨_, rfl⟩
  obtain ⟨n, hn⟩ : ∃ op, op = t.n := ⟨_, rfl⟩
  obtain ⟨ln, hl⟩ : ∃ op, op = t.subs.length := ⟨_, rfl⟩
  rw [← hop, ← hn, ← hl] at HK ⊢
  have hck := fun w1 (hE : Ext w w1) => check_any (sy := sy) (HK.out.1.ext hE) (HK.out.2.ext hE)
  unfold ErrP at hck
  clear hop hn hl hN hT
  go_enter Tryd.func18, Tryd.ntmps18
  go_upto_region 1 with fail
  refine wp_named ?_
  intro W1 hW1
  have hE1 : Ext w W1 := by rw [hW1]; exact (alloc_ext _ _).trans (alloc_ext _ _)
  have hB : W1.heap[w.heap.size + 1]? = some (.cells zNode 35 (0, 0)) := by rw [hW1]; exact alloc2_1 _ _ _
  have k0 : ∀ w', Ext W1 w' → w'.cell? ⟨w.heap.size, 0, none⟩ = some (.int .u8 (op : Int)) := fun w' h => h.cell (by rw [hW1]; simp [go_sem])
  have k1 : ∀ w', Ext W1 w' → w'.cell? ⟨w.heap.size, 1, none⟩ = some (.int .i64 n) := fun w' h => h.cell (by rw [hW1]; simp [go_sem])
  have k2 : ∀ w', Ext W1 w' → w'.cell? ⟨w.heap.size, 2, none⟩ = some (.slice A ln c) := fun w' h => h.cell (by rw [hW1]; simp [go_sem])
  have hR1 := Ext.refl W1
  have HE1 := Lib.hid hE1
  have HB := Lib.hid hB
  have HD : Hid (w.heap.size ≤ w.heap.size + 1) := Lib.hid (by omega)
  have hck := hck W1 hE1
  clear hW1 hB
  generalize w.heap.size + 1 = b6 at *
  rw [hc0] at hck
  have HNT := Lib.hid (HK.out.1.toB.mono (S' := butS (fun _ => True) b6) (fun b _ hl => ⟨trivial, by have := HD.out; omega⟩))
  have HNW := Lib.hid (fun w' (e : Ext W1 w') => (fun b hb => ⟨trivial, by have := lt_of_block HB.out; have := e.size; omega⟩ : New (butS (fun _ => True) b6) w'))
  have hdv := fun w' (e : Ext W1 w') => HDV.out _ w' _ (HNW.out w' e) (HNT.out.ext (HE1.out.trans e))
  have hsm := fun (W0 w' : World) (u : Value) (b : Nat) (h : NodeV W0 z.tr u) e hb hc => small_of (W0 := W0) (w := w') (v := u) (b := b) (L := 64) h e hb hc (by decide) (by decide)
  unfold NodeQ ndV at hdv
  have HDV2 := Lib.hid hdv
  unfold SmallP at hsm
  have HSM := Lib.hid hsm
  clear hdv hsm hE1 hc0
  obtain ⟨rs, hrs⟩ : ∃ r : Bool, r = decide ((cntT z.tr : Int) ≤ 64) := ⟨_, rfl⟩
  rw [← hrs] at HSM
  rw [cnt_tr] at hrs HSM
  go_upto_region 7 with (first | ((with_reducible refine hck.mono ?_); rintro e W5 ⟨rfl, e5⟩; have hdv := HDV2.out W5 e5) | ((with_reducible refine hdv.mono ?_); rintro e W6 ⟨A6, c6, rfl, h6, e6⟩))
  have HE6 := Lib.hid (e5.trans e6)
  have HN6 := Lib.hid h6
  have e67 := (alloc_ext W6 (.cells #[.int .u8 (z.tr.op : Int), .int .i64 z.tr.n, .slice A6 z.tr.subs.length c6] 35))
  have hcl := HSM.out (W6.alloc (.cells #[.int .u8 (z.tr.op : Int), .int .i64 z.tr.n, .slice A6 z.tr.subs.length c6] 35)) ((W6.alloc (.cells #[.int .u8 (z.tr.op : Int), .int .i64 z.tr.n, .slice A6 z.tr.subs.length c6] 35)).alloc (.cells #[.int .i64 64] 3)) _ (W6.alloc (.cells #[.int .u8 (z.tr.op : Int), .int .i64 z.tr.n, .slice A6 z.tr.subs.length c6] 35)).heap.size (h6.node.ext e67) (alloc_ext _ _) (Nat.le_refl _) (heap_alloc_new _ _)
  rw [show (W6.alloc (.cells #[.int .u8 (z.tr.op : Int), .int .i64 z.tr.n, .slice A6 z.tr.subs.length c6] 35)).heap.size = W6.heap.size + 1 by simp [go_sem]] at hcl
  have HE67 := Lib.hid (e67.trans (alloc_ext _ (.cells #[.int .i64 64] 3)))
  clear hdv hck e5 e6 e67 h6
  have hrf : rs = true := by rw [hrs]; exact decide_eq_true (by omega)
  subst hrf
  clear hrs hcz
  go_upto_region 10 with ((with_reducible refine hcl.mono ?_); rintro e W8 ⟨L8, rfl, hb8, hg8, hl8, hl9, hl1, hl2⟩)
  have hE8 : Ext W6 W8 := Below.grown HE67.out hg8 HE67.out.size (fun k hk => by cases hk; omega)
  have hb96 : W8.heap[W6.heap.size]? = some (.cells #[.int .u8 (z.tr.op : Int), .int .i64 z.tr.n, .slice A6 z.tr.subs.length c6] 35 (0, 0)) := by
    have h9 := heap_ext (alloc_ext _ (.cells #[.int .i64 64] 3)) (heap_alloc_new W6 (.cells #[.int .u8 (z.tr.op : Int), .int .i64 z.tr.n, .slice A6 z.tr.subs.length c6] 35))
    rw [hg8.block W6.heap.size (lt_of_block h9) (fun e => by injection e with e; omega)]
    exact h9
  have y0 : ∀ w', Ext W8 w' → w'.cell? ⟨W6.heap.size, 0, none⟩ = some (.int .u8 (z.tr.op : Int)) := fun w' e => e.cell (cell_of_blk hb96 0 rfl)
  have y1 : ∀ w', Ext W8 w' → w'.cell? ⟨W6.heap.size, 1, none⟩ = some (.int .i64 z.tr.n) := fun w' e => e.cell (cell_of_blk hb96 1 rfl)
  have y2 : ∀ w', Ext W8 w' → w'.cell? ⟨W6.heap.size, 2, none⟩ = some (.slice A6 z.tr.subs.length c6) := fun w' e => e.cell (cell_of_blk hb96 2 rfl)
  have HE8 := Lib.hid (HE6.out.trans hE8)
  have hcl2 := clone_any (S := butS S b6) (r := z) (w := W8) (HS.out.but (HE1.out.trans HE8.out) (lt_of_block (heap_ext HE8.out HB.out))) (HN6.out.ext hE8).node
  unfold NodeQ ndV at hcl2
  have hR8 := Ext.refl W8
  clear hb8 hg8 hl8 hl9 hl1 hl2 hcl hE8 hb96
  go_wp2_with (first | ((with_reducible refine hcl2.mono ?_); rintro e W9 ⟨A9, c9, rfl, h9, e9⟩) | (with_reducible refine wpList_store_blk _ rfl 35 _ _ rfl b6 35 _ _ rfl rfl (heap_ext (HE8.out.trans e9) HB.out) (by kernel_rfl) (by kernel_rfl) (by kernel_rfl) ?_; intro w9 h9' g9))
  refine bodyPost_ret (results_ct rfl _ _ b6 35 _ (0, 0) _ (by simp [Act.put]) h9' Tryd.underlying35 rfl (by kernel_rfl)) rfl ?_
  have hE9 := (HE1.out.trans HE8.out).trans e9
  exact ⟨A9, c9, rfl, h9.past g9, Below.grown hE9 g9 hE9.size (fun k hk => by cases hk; exact HD.out)⟩
end Go.Proofs.YtmebgomnmlbgnaaDoor
