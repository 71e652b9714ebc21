/-    -/
import Derived.Test.YtmebgomnmlbgnaaDoorZN2
set_option linter.unnecessarySimpa false
set_option linter.unusedSectionVars false
namespace Go.Proofs.YtmebgomnmlbgnaaDoor
open Go.RowKit Go.Maps
set_option linter.unusedVariables false
set_option linter.unusedSimpArgs false
attribute [local go_sem] Oper.quietV quietV Oper.gives givesV ext_refl_iff ext_alloc_iff ext_drew_iff ext_drewN_iff
theorem okS_mono {sy : Nat} (h : sy ≤ 16) : ∀ {r : Rx}, r.okS sy = true → r.okS 16 = true := by
  intro r
  induction r with
  | none => intro _; rfl
  | empty => intro _; rfl
  | sym a => intro h2; simp [Rx.okS] at h2 ⊢; omega
  | or x y ihx ihy => intro h2; simp [Rx.okS] at h2 ⊢; exact ⟨ihx h2.1, ihy h2.2⟩
  | seq x y ihx ihy => intro h2; simp [Rx.okS] at h2 ⊢; exact ⟨ihx h2.1, ihy h2.2⟩
  | and x y ihx ihy => intro h2; simp [Rx.okS] at h2 ⊢; exact ⟨ihx h2.1, ihy h2.2⟩
  | star x ihx => intro h2; simp [Rx.okS] at h2 ⊢; exact ihx h2
  | not x ihx => intro h2; simp [Rx.okS] at h2 ⊢; exact ihx h2
def PairP (w : World) (v : Value) (er : Int) (e : Ending) (w' : World) : Prop := e = .returned (.tuple #[v, .int .i64 er]) ∧ Ext w w'
set_option maxRecDepth 100000 in
set_option maxHeartbeats 4000000 in
theorem text_bad {sy er : Int} {t : Tr} {w : World} {v : Value} (hN : NodeV w t v) (hT : Tabs w) (he : checkX sy t = er) (hz : er ≠ 0) : Calls Tryd.prog 27 #[v, .int .i64 sy] w (PairP w (.string ⟨#[]⟩) er) := by
  have HCK := Lib.hid he
  obtain ⟨A, c, rfl⟩ := node_parts hN
  have HK := Lib.hid (And.intro hN hT)
  have hck := check_any (sy := sy) hN hT
  unfold ErrP at hck
  obtain ⟨op, hop⟩ : ∃ op, op = t.op := ⟨_, rfl⟩
  obtain ⟨n, hn⟩ : ∃ op, op = t.n := ⟨_, rfl⟩
  obtain ⟨ln, hl⟩ : ∃ op, op = t.subs.length := ⟨_, rfl⟩
  rw [← hop, ← hn, ← hl] at HK hck ⊢
  have hck := fun w1 (hE : Ext w w1) => check_any (sy := sy) (HK.out.1.ext hE) (HK.out.2.ext hE)
  unfold ErrP at hck
  clear hop hn hl hN hT
  go_enter Tryd.func27, Tryd.ntmps27
  go_upto_region 1 with fail
  refine wp_named ?_
  intro W1 hW1
  have hE1 : Ext w W1 := by rw [hW1]; first | exact alloc_ext _ _ | exact (Ext.refl _).alloc _ | exact ((Ext.refl _).alloc _).drew | exact ((Ext.refl _).drew.alloc _)
  have k0 : ∀ w', Ext W1 w' → w'.cell? ⟨w.heap.size, 0, none⟩ = some (.int .u8 (op : Int)) := fun w' h => h.cell (by rw [hW1]; simp [go_sem])
  have k1 : ∀ w', Ext W1 w' → w'.cell? ⟨w.heap.size, 1, none⟩ = some (.int .i64 n) := fun w' h => h.cell (by rw [hW1]; simp [go_sem])
  have k2 : ∀ w', Ext W1 w' → w'.cell? ⟨w.heap.size, 2, none⟩ = some (.slice A ln c) := fun w' h => h.cell (by rw [hW1]; simp [go_sem])
  clear hW1
  generalize w.heap.size = b2 at *
  have hR1 := Ext.refl W1
  have HE1 := Lib.hid hE1
  have hck := hck W1 hE1
  rw [he] at hck
  have hne : (er != 0) = true := bne_iff_ne.2 hz
  clear hE1 he hz
  go_wp2_with ((with_reducible refine hck.mono ?_); rintro e W5 ⟨rfl, e5⟩)
  refine bodyPost_ret (results_tmp2 rfl _ _ _) rfl ?_
  exact ⟨rfl, HE1.out.trans e5⟩
set_option maxRecDepth 100000 in
set_option maxHeartbeats 4000000 in
theorem nullable_bad {sy er : Int} {t : Tr} {w : World} {v : Value} (hN : NodeV w t v) (hT : Tabs w) (he : checkX sy t = er) (hz : er ≠ 0) : Calls Tryd.prog 37 #[v, .int .i64 sy] w (PairP w (.bool false) er) := by
  have HCK := Lib.hid he
  obtain ⟨A, c, rfl⟩ := node_parts hN
  have HK := Lib.hid (And.intro hN hT)
  have hck := check_any (sy := sy) hN hT
  unfold ErrP at hck
  obtain ⟨op, hop⟩ : ∃ op, op = t.op := ⟨_, rfl⟩
  obtain ⟨n, hn⟩ : ∃ op, op = t.n := ⟨_, rfl⟩
  obtain ⟨ln, hl⟩ : ∃ op, op = t.subs.length := ⟨_, rfl⟩
  rw [← hop, ← hn, ← hl] at HK hck ⊢
  have hck := fun w1 (hE : Ext w w1) => check_any (sy := sy) (HK.out.1.ext hE) (HK.out.2.ext hE)
  unfold ErrP at hck
  clear hop hn hl hN hT
  go_enter Tryd.func37, Tryd.ntmps37
  go_upto_region 1 with fail
  refine wp_named ?_
  intro W1 hW1
  have hE1 : Ext w W1 := by rw [hW1]; first | exact alloc_ext _ _ | exact (Ext.refl _).alloc _ | exact ((Ext.refl _).alloc _).drew | exact ((Ext.refl _).drew.alloc _)
  have k0 : ∀ w', Ext W1 w' → w'.cell? ⟨w.heap.size, 0, none⟩ = some (.int .u8 (op : Int)) := fun w' h => h.cell (by rw [hW1]; simp [go_sem])
  have k1 : ∀ w', Ext W1 w' → w'.cell? ⟨w.heap.size, 1, none⟩ = some (.int .i64 n) := fun w' h => h.cell (by rw [hW1]; simp [go_sem])
  have k2 : ∀ w', Ext W1 w' → w'.cell? ⟨w.heap.size, 2, none⟩ = some (.slice A ln c) := fun w' h => h.cell (by rw [hW1]; simp [go_sem])
  clear hW1
  generalize w.heap.size = b2 at *
  have hR1 := Ext.refl W1
  have HE1 := Lib.hid hE1
  have hck := hck W1 hE1
  rw [he] at hck
  have hne : (er != 0) = true := bne_iff_ne.2 hz
  clear hE1 he hz
  go_wp2_with ((with_reducible refine hck.mono ?_); rintro e W5 ⟨rfl, e5⟩)
  refine bodyPost_ret (results_tmp2 rfl _ _ _) rfl ?_
  exact ⟨rfl, HE1.out.trans e5⟩
set_option maxRecDepth 100000 in
set_option maxHeartbeats 4000000 in
theorem text_ok {sy : Nat} {r : Rx} {w : World} {v : Value} (hN : NodeV w r.tr v) (hT : Tabs w) (h1 : 1 ≤ sy) (h2 : sy ≤ 16) (ho : r.okS sy = true) (hcn : r.cnt ≤ 64) : Calls Tryd.prog 27 #[v, .int .i64 (sy : Int)] w (PairP w (.string (wrB r 0)) 0) := by
  have hc0 := check_rx h1 h2 hcn ho
  obtain ⟨s, hs⟩ : ∃ s, s = wrB r 0 := ⟨_, rfl⟩
  have HWR : Hid (∀ w1 u, NodeV w1 r.tr u → Tabs w1 → Calls Tryd.prog 62 #[u, .int .i64 0] w1 (StrP w1 s)) := Lib.hid (by rw [hs]; exact fun w1 u h hT => write_any 0 h hT (okS_mono h2 ho) (by omega))
  rw [← hs]
  clear hs
  unfold StrP at HWR
  generalize r.tr = t at *
  generalize (sy : Int) = sy at *
  clear h1 h2 ho hcn
  obtain ⟨A, c, rfl⟩ := node_parts hN
  have HK := Lib.hid (And.intro hN hT)
  have hck := check_any (sy := sy) hN hT
  unfold ErrP at hck
  obtain ⟨op, hop⟩ : ∃ op, op = t.op := ⟨_, rfl⟩
  obtain ⟨n, hn⟩ : ∃ op, op = t.n := ⟨_, rfl⟩
  obtain ⟨ln, hl⟩ : ∃ op, op = t.subs.length := ⟨_, rfl⟩
  rw [← hop, ← hn, ← hl] at HK hck ⊢
  have hck := fun w1 (hE : Ext w w1) => check_any (sy := sy) (HK.out.1.ext hE) (HK.out.2.ext hE)
  unfold ErrP at hck
  clear hop hn hl hN hT
  go_enter Tryd.func27, Tryd.ntmps27
  go_upto_region 1 with fail
  refine wp_named ?_
  intro W1 hW1
  have hE1 : Ext w W1 := by rw [hW1]; first | exact alloc_ext _ _ | exact (Ext.refl _).alloc _ | exact ((Ext.refl _).alloc _).drew | exact ((Ext.refl _).drew.alloc _)
  have k0 : ∀ w', Ext W1 w' → w'.cell? ⟨w.heap.size, 0, none⟩ = some (.int .u8 (op : Int)) := fun w' h => h.cell (by rw [hW1]; simp [go_sem])
  have k1 : ∀ w', Ext W1 w' → w'.cell? ⟨w.heap.size, 1, none⟩ = some (.int .i64 n) := fun w' h => h.cell (by rw [hW1]; simp [go_sem])
  have k2 : ∀ w', Ext W1 w' → w'.cell? ⟨w.heap.size, 2, none⟩ = some (.slice A ln c) := fun w' h => h.cell (by rw [hW1]; simp [go_sem])
  clear hW1
  generalize w.heap.size = b2 at *
  have hR1 := Ext.refl W1
  have HE1 := Lib.hid hE1
  have hck := hck W1 hE1
  rw [hc0] at hck
  have hwr := fun w2 (h : Ext W1 w2) => HWR.out w2 _ (HK.out.1.ext (HE1.out.trans h)) (HK.out.2.ext (HE1.out.trans h))
  clear hE1 hc0
  have HWR2 := Lib.hid hwr
  clear hwr
  go_wp2_with (first | ((with_reducible refine hck.mono ?_); rintro e W5 ⟨rfl, e5⟩) | ((with_reducible refine (HWR2.out _ e5).mono ?_); rintro e W6 ⟨rfl, e6⟩))
  refine bodyPost_ret (results_tmp2 rfl _ _ _) rfl ?_
  exact ⟨rfl, (HE1.out.trans e5).trans e6⟩
end Go.Proofs.YtmebgomnmlbgnaaDoor

namespace Go.Proofs.YtmebgomnmlbgnaaDoor
open Go.RowKit Go.Maps
set_option linter.unusedVariables false
set_option linter.unusedSimpArgs false
attribute [local go_sem] Oper.quietV quietV Oper.gives givesV ext_refl_iff ext_alloc_iff ext_drew_iff ext_drewN_iff
mutual
def eqT : Tr → Tr → Bool
  | .mk o n l, .mk o' n' l' => o == o' && (n == n' && eqTs l l')
def eqTs : List Tr → List Tr → Bool
  | [], [] => true
  | t :: l, u :: l' => eqT t u && eqTs l l'
  | _, _ => false
end
mutual
theorem eqT_iff : ∀ t u : Tr, eqT t u = true ↔ t = u
  | .mk o n l, .mk o' n' l' => by
    have := eqTs_iff l l'
    simp only [eqT, Bool.and_eq_true, beq_iff_eq, this, Tr.mk.injEq]
theorem eqTs_iff : ∀ l l' : List Tr, eqTs l l' = true ↔ l = l'
  | [], [] => by simp [eqTs]
  | t :: l, u :: l' => by
    have h1 := eqT_iff t u
    have h2 := eqTs_iff l l'
    simp only [eqTs, Bool.and_eq_true, h1, h2, List.cons.injEq]
  | [], _ :: _ => by simp [eqTs]
  | _ :: _, [] => by simp [eqTs]
end
theorem eqT_eq (t u : Tr) : eqT t u = (t.op == u.op && (t.n == u.n && eqTs t.subs u.subs)) := by cases t; cases u; simp [eqT, Tr.op, Tr.n, Tr.subs]
theorem eqTs_len : ∀ {l l' : List Tr}, l.length ≠ l'.length → eqTs l l' = false
  | [], [], h => absurd rfl h
  | [], _ :: _, _ => rfl
  | _ :: _, [], _ => rfl
  | t :: l, u :: l', h => by rw [eqTs, eqTs_len (by simpa using h), Bool.and_false]
theorem eqTs_take : ∀ (l l' : List Tr) (i : Nat) (t u : Tr), l[i]? = some t → l'[i]? = some u → eqTs (l.take (i + 1)) (l'.take (i + 1)) = (eqTs (l.take i) (l'.take i) && eqT t u)
  | [], _, i, t, u, h, _ => by simp at h
  | _ :: _, [], i, t, u, _, h => by simp at h
  | a :: l, b :: l', 0, t, u, h1, h2 => by simp at h1 h2; subst h1 h2; simp [eqTs]
  | a :: l, b :: l', i + 1, t, u, h1, h2 => by
    have := eqTs_take l l' i t u (by simpa using h1) (by simpa using h2)
    simp only [List.take_succ_cons, eqTs, this, Bool.and_assoc]
theorem eqTs_bad : ∀ {l l' : List Tr} {i : Nat} {t u : Tr}, l[i]? = some t → l'[i]? = some u → eqT t u = false → eqTs l l' = false
  | [], _, i, t, u, h, _, _ => by simp at h
  | _ :: _, [], i, t, u, _, h, _ => by simp at h
  | a :: l, b :: l', 0, t, u, h1, h2, h => by simp at h1 h2; subst h1 h2; simp [eqTs, h]
  | a :: l, b :: l', i + 1, t, u, h1, h2, h => by rw [eqTs, eqTs_bad (by simpa using h1) (by simpa using h2) h, Bool.and_false]
def NodesV (w : World) (A : Option Addr) (ts : List Tr) : Prop := ∃ vs : List Nv, vs.length = ts.length ∧ Cells w A (vs.flatMap nvCells) ∧ ∀ (i : Nat) (t : Tr) (u : Nv), ts[i]? = some t → vs[i]? = some u → NodeV w t (nvVal u)
theorem NodesV.ext {w w' : World} {A : Option Addr} {ts : List Tr} (h : NodesV w A ts) (e : Ext w w') : NodesV w' A ts := by
  obtain ⟨vs, h1, h2, h3⟩ := h
  exact ⟨vs, h1, h2.ext e, fun i t u ht hu => (h3 i t u ht hu).ext e⟩
theorem NodesV.at_ {w : World} {A : Option Addr} {ts : List Tr} (h : NodesV w A ts) {i : Nat} {s : Tr} (hi : ts[i]? = some s) :
    ∃ b o A1 c1, A = some ⟨b, o, none⟩ ∧ w.cell? ⟨b, o + i * 3, none⟩ = some (.int .u8 (s.op : Int)) ∧ w.cell? ⟨b, o + i * 3 + 1, none⟩ = some (.int .i64 s.n) ∧ w.cell? ⟨b, o + i * 3 + 2, none⟩ = some (.slice A1 s.subs.length c1) ∧ NodeV w s (.agg #[.int .u8 (s.op : Int), .int .i64 s.n, .slice A1 s.subs.length c1]) := by
  obtain ⟨vs, h1, h2, h3⟩ := h
  exact sub_form h1 h2 h3 hi
theorem node_nodes {w : World} {t : Tr} {v : Value} (h : NodeV w t v) : t.op < 256 ∧ ∃ A c, v = .agg #[.int .u8 (t.op : Int), .int .i64 t.n, .slice A t.subs.length c] ∧ NodesV w A t.subs ∧ t.subs.length ≤ c ∧ t.subs.length ≤ lenMax := by
  obtain ⟨h0, A, c, vs, hv, h1, h2, h3, h4, h5⟩ := h.form
  exact ⟨h0, A, c, hv, ⟨vs, h1, h2, h3⟩, h4, h5⟩
def SameS (k : Nat) : Prop := ∀ (t u : Tr) (w : World) (v v' : Value), SizeOf.sizeOf t ≤ k → NodeV w t v → NodeV w u v' → Calls Tryd.prog 110 #[v, v'] w (BoolP w (eqT t u))
def EqfS (k : Nat) : Prop := ∀ (ts us : List Tr) (w : World) (A B : Option Addr) (c c' : Nat), (∀ t ∈ ts, SizeOf.sizeOf t ≤ k) → NodesV w A ts → NodesV w B us → ts.length ≤ lenMax → us.length ≤ lenMax → Calls Tryd.prog 114 #[.slice A ts.length c, .slice B us.length c', .func (.func 110) #[] #[]] w (BoolP w (eqTs ts us))
set_option maxRecDepth 100000 in
set_option maxHeartbeats 16000000 in
theorem eqf_of (k : Nat) (IH : SameS k) : EqfS k := by
  intro ts us w A B c c' hsz hA hB hl1 hl2
  unfold lenMax at hl1 hl2
  obtain ⟨r, hr⟩ : ∃ r, r = eqTs ts us := ⟨_, rfl⟩
  rw [← hr]
  have HX := Lib.hid (And.intro hsz (And.intro hA (And.intro hB IH)))
  have HR0 := Lib.hid hr
  clear hr hsz hA hB IH
  by_cases hlen : ts.length = us.length
  rotate_left
  · have g1 : ((ts.length : Int) != (us.length : Int)) = true := bne_iff_ne.2 (by omega)
    have HR : Hid (r = false) := Lib.hid (by rw [HR0.out]; exact eqTs_len hlen)
    clear hlen
    go_enter Tryd.func114, Tryd.ntmps114
    go_wp2
    go_ret
    exact ⟨by rw [HR.out]; rfl, Ext.refl _⟩
  have g1 : ((ts.length : Int) != (us.length : Int)) = false := by rw [hlen]; exact bne_self_eq_false _
  have HL := Lib.hid hlen
  clear hlen
  go_enter Tryd.func114, Tryd.ntmps114
  go_upto_region 4 with fail
  go_wp2
  go_loopw [17] (fun iv wr => ∃ i : Nat, iv = .int .i64 i ∧ i ≤ ts.length ∧ Hid (eqTs (ts.take i) (us.take i) = true) ∧ Hid (Ext w wr)) (fun iv _ => ts.length - (intOf iv).toNat)
  case atStart => exact ⟨0, by first | rfl | simp, Nat.zero_le _, Lib.hid (by simp [eqTs]), Lib.hid (Ext.refl _)⟩
  case round =>
    obtain ⟨i, rfl, hi, HF, HW⟩ := hrel
    obtain ⟨W5, hW5⟩ : ∃ W, W = wr := ⟨_, rfl⟩; subst hW5
    have hR5 := Ext.refl W5
    by_cases hlt : i < ts.length
    · have hlI : (i : Int) < (ts.length : Int) := by omega
      have hlt2 : i < us.length := by have := HL.out; omega
      obtain ⟨s, hsi⟩ : ∃ s, ts[i]? = some s := ⟨_, List.getElem?_eq_getElem hlt⟩
      obtain ⟨u, hui⟩ : ∃ s, us[i]? = some s := ⟨_, List.getElem?_eq_getElem hlt2⟩
      obtain ⟨bs, os, A1, c1, hA, d0, d1, d2, hns⟩ := HX.out.2.1.at_ hsi
      obtain ⟨bu, ou, A2, c2, hB, e0, e1, e2, hnu⟩ := HX.out.2.2.1.at_ hui
      subst hA hB
      have d0 := fun w' (h : Ext W5 w') => (HW.out.trans h).cell d0
      have d1 := fun w' (h : Ext W5 w') => (HW.out.trans h).cell d1
      have d2 := fun w' (h : Ext W5 w') => (HW.out.trans h).cell d2
      have e0 := fun w' (h : Ext W5 w') => (HW.out.trans h).cell e0
      have e1 := fun w' (h : Ext W5 w') => (HW.out.trans h).cell e1
      have e2 := fun w' (h : Ext W5 w') => (HW.out.trans h).cell e2
      have hcl := fun w2 (h : Ext W5 w2) => HX.out.2.2.2 s u w2 _ _ (HX.out.1 s (List.mem_of_getElem? hsi)) (hns.ext (HW.out.trans h)) (hnu.ext (HW.out.trans h))
      unfold BoolP at hcl
      have HST := Lib.hid (eqTs_take ts us i s u hsi hui)
      have HBD := Lib.hid (fun h => eqTs_bad hsi hui h)
      obtain ⟨r2, hr2⟩ : ∃ r : Bool, r = eqT s u := ⟨_, rfl⟩
      rw [← hr2] at hcl HST HBD
      generalize s.op = o1 at *
      generalize s.n = n1 at *
      generalize s.subs.length = l1 at *
      generalize u.op = o2 at *
      generalize u.n = n2 at *
      generalize u.subs.length = l2 at *
      have HCL := Lib.hid hcl
      have HWX := Lib.hid ((alloc_ext W5 (.cells #[.int .u8 (o1 : Int), .int .i64 n1, .slice A1 l1 c1] 35)).trans (alloc_ext _ (.cells #[.int .u8 (o2 : Int), .int .i64 n2, .slice A2 l2 c2] 35)))
      clear hsi hui hns hnu hr2 hcl
      cases r2 with
      | false =>
        have HR : Hid (r = false) := Lib.hid (by rw [HR0.out]; exact HBD.out rfl)
        go_wp2_with ((with_reducible refine (HCL.out _ HWX.out).mono ?_); rintro e W8 ⟨rfl, e8⟩)
        go_ret
        exact ⟨by rw [HR.out]; rfl, (HW.out.trans HWX.out).trans e8⟩
      | true =>
        go_wp2_with ((with_reducible refine (HCL.out _ HWX.out).mono ?_); rintro e W8 ⟨rfl, e8⟩)
        refine ⟨⟨i + 1, by go_num, hlt, Lib.hid (by rw [HST.out, HF.out]; rfl), Lib.hid ((HW.out.trans HWX.out).trans e8)⟩, ?_⟩
        simp [intOf]; omega
    · have hie : i = ts.length := by omega
      subst hie
      have hlt2 : ¬ (ts.length : Int) < (ts.length : Int) := by omega
      have HR : Hid (r = true) := Lib.hid (by rw [HR0.out]; have := HF.out; rwa [List.take_length, HL.out, List.take_length] at this)
      go_wp2
      go_ret
      exact ⟨by rw [HR.out]; rfl, HW.out⟩
set_option maxRecDepth 100000 in
set_option maxHeartbeats 16000000 in
theorem same_step (k : Nat) (IH : EqfS k) : SameS (k + 1) := by
  intro t u w v v' hk hN hM
  obtain ⟨_, A, c, rfl, hA, hnc, hnm⟩ := node_nodes hN
  obtain ⟨_, B, c', rfl, hB, hmc, hmm⟩ := node_nodes hM
  have hsz : ∀ s ∈ t.subs, SizeOf.sizeOf s ≤ k := fun s h => by have := Tr.sub_lt h; omega
  obtain ⟨r, hr⟩ : ∃ r, r = eqT t u := ⟨_, rfl⟩
  rw [← hr]
  rw [eqT_eq] at hr
  obtain ⟨re, hre⟩ : ∃ r, r = eqTs t.subs u.subs := ⟨_, rfl⟩
  have hcl := fun w1 (hE : Ext w w1) => IH t.subs u.subs w1 A B c c' hsz (hA.ext hE) (hB.ext hE) hnm hmm
  rw [← hre] at hr hcl
  have HR0 := Lib.hid hr
  generalize t.op = o1 at *
  generalize t.n = n1 at *
  generalize t.subs.length = l1 at *
  generalize u.op = o2 at *
  generalize u.n = n2 at *
  generalize u.subs.length = l2 at *
  unfold BoolP at hcl
  have HCL := Lib.hid hcl
  clear hk hN hM hA hB hsz IH hr hre hcl
  go_enter Tryd.func110, Tryd.ntmps110
  go_upto_region 1 with fail
  refine wp_named ?_
  intro W1 hW1
  have hE1 : Ext w W1 := by rw [hW1]; exact (alloc_ext _ _).trans (alloc_ext _ _)
  have k0 : ∀ w', Ext W1 w' → w'.cell? ⟨w.heap.size, 0, none⟩ = some (.int .u8 (o1 : Int)) := fun w' h => h.cell (by rw [hW1]; simp [go_sem])
  have k1 : ∀ w', Ext W1 w' → w'.cell? ⟨w.heap.size, 1, none⟩ = some (.int .i64 n1) := fun w' h => h.cell (by rw [hW1]; simp [go_sem])
  have k2 : ∀ w', Ext W1 w' → w'.cell? ⟨w.heap.size, 2, none⟩ = some (.slice A l1 c) := fun w' h => h.cell (by rw [hW1]; simp [go_sem])
  have j0 : ∀ w', Ext W1 w' → w'.cell? ⟨w.heap.size + 1, 0, none⟩ = some (.int .u8 (o2 : Int)) := fun w' h => h.cell (by rw [hW1]; simp [go_sem])
  have j1 : ∀ w', Ext W1 w' → w'.cell? ⟨w.heap.size + 1, 1, none⟩ = some (.int .i64 n2) := fun w' h => h.cell (by rw [hW1]; simp [go_sem])
  have j2 : ∀ w', Ext W1 w' → w'.cell? ⟨w.heap.size + 1, 2, none⟩ = some (.slice B l2 c') := fun w' h => h.cell (by rw [hW1]; simp [go_sem])
  have hR1 := Ext.refl W1
  have HE1 := Lib.hid hE1
  clear hW1 hE1
  by_cases ho : o1 = o2
  rotate_left
  · have g1 : ((o1 : Int) == (o2 : Int)) = false := beq_eq_false_iff_ne.2 (by omega)
    have HR : Hid (r = false) := Lib.hid (by rw [HR0.out, beq_eq_false_iff_ne.2 ho]; rfl)
    clear ho
    go_wp2
    go_ret
    exact ⟨by rw [HR.out]; rfl, HE1.out⟩
  have g1 : ((o1 : Int) == (o2 : Int)) = true := beq_iff_eq.2 (by omega)
  have H1 : Hid ((o1 == o2) = true) := Lib.hid (beq_iff_eq.2 ho)
  clear ho
  by_cases hn : n1 = n2
  rotate_left
  · have g2 : (n1 == n2) = false := beq_eq_false_iff_ne.2 hn
    have HR : Hid (r = false) := Lib.hid (by rw [HR0.out, g2, H1.out]; rfl)
    clear hn
    go_wp2
    go_ret
    exact ⟨by rw [HR.out]; rfl, HE1.out⟩
  have g2 : (n1 == n2) = true := beq_iff_eq.2 hn
  have HR : Hid (r = re) := Lib.hid (by rw [HR0.out, g2, H1.out]; rfl)
  clear hn
  go_wp2_with ((with_reducible refine (HCL.out _ HE1.out).mono ?_); rintro e W8 ⟨rfl, e8⟩)
  go_ret
  exact ⟨by rw [HR.out]; rfl, HE1.out.trans e8⟩
theorem same_all : ∀ k, SameS k
  | 0 => fun t _ _ _ _ h => by cases t; simp at h
  | k + 1 => same_step k (eqf_of k (same_all k))
theorem same_any {t u : Tr} {w : World} {v v' : Value} (h : NodeV w t v) (h' : NodeV w u v') : Calls Tryd.prog 110 #[v, v'] w (BoolP w (eqT t u)) := same_all _ t u w v v' (Nat.le_refl _) h h'
end Go.Proofs.YtmebgomnmlbgnaaDoor

namespace Go.Proofs.YtmebgomnmlbgnaaDoor
open Go.RowKit Go.Maps
set_option linter.unusedVariables false
set_option linter.unusedSimpArgs false
attribute [local go_sem] Oper.quietV quietV Oper.gives givesV ext_refl_iff ext_alloc_iff ext_drew_iff ext_drewN_iff
def ndV (t : Tr) (A : Option Addr) (c : Nat) : Value := .agg #[.int .u8 (t.op : Int), .int .i64 t.n, .slice A t.subs.length c]
def CellsS (S : Nat → Prop) (w : World) (A : Option Addr) (cs : List Value) : Prop :=
  0 < cs.length → ∃ b o, A = some ⟨b, o, none⟩ ∧ S b ∧ b < w.heap.size ∧ ∀ j u, cs[j]? = some u → w.cell? ⟨b, o + j, none⟩ = some u
inductive NodeB (S : Nat → Prop) (F : Bool) (w : World) : Tr → Value → Prop
  | mk {op : Nat} {n : Int} {ts : List Tr} {A : Option Addr} {c : Nat} {vs : List Nv} : op < 256 → vs.length = ts.length → CellsS S w A (vs.flatMap nvCells) → (∀ (i : Nat) (t : Tr) (u : Nv), ts[i]? = some t → vs[i]? = some u → NodeB S F w t (nvVal u)) →
      ts.length ≤ c → ts.length ≤ lenMax → (F = true → c = ts.length) → NodeB S F w (.mk op n ts) (.agg #[.int .u8 (op : Int), .int .i64 n, .slice A ts.length c])
theorem CellsS.cells {S : Nat → Prop} {w : World} {A : Option Addr} {cs : List Value} (h : CellsS S w A cs) : Cells w A cs := fun h0 => by
  obtain ⟨b, o, h1, _, h2, h3⟩ := h h0
  exact ⟨b, o, h1, h2, h3⟩
theorem NodeB.node {S : Nat → Prop} {F : Bool} {w : World} {t : Tr} {v : Value} (h : NodeB S F w t v) : NodeV w t v := by
  induction h with
  | mk h0 h1 h2 _ h4 h5 _ ih => exact .mk h0 h1 h2.cells ih h4 h5
theorem NodeV.toB {w : World} {t : Tr} {v : Value} (h : NodeV w t v) : NodeB (fun b => b < w.heap.size) false w t v := by
  induction h with
  | mk h0 h1 h2 _ h4 h5 ih =>
    refine .mk h0 h1 (fun h => ?_) ih h4 h5 (by simp)
    obtain ⟨b, o, e1, e2, e3⟩ := h2 h
    exact ⟨b, o, e1, e2, e2, e3⟩
theorem NodeB.keep {S : Nat → Prop} {F : Bool} {w w' : World} {t : Tr} {v : Value} (h : NodeB S F w t v) (hs : w.heap.size ≤ w'.heap.size) (e : ∀ b, S b → b < w.heap.size → w'.heap[b]? = w.heap[b]?) : NodeB S F w' t v := by
  induction h with
  | mk h0 h1 h2 _ h4 h5 h6 ih =>
    refine .mk h0 h1 (fun h => ?_) ih h4 h5 h6
    obtain ⟨b, o, e1, e2, e3, e4⟩ := h2 h
    exact ⟨b, o, e1, e2, Nat.lt_of_lt_of_le e3 hs, fun j u hj => by rw [← e4 j u hj]; simp only [World.cell?, e b e2 e3]⟩
theorem NodeB.ext {S : Nat → Prop} {F : Bool} {w w' : World} {t : Tr} {v : Value} (h : NodeB S F w t v) (e : Ext w w') : NodeB S F w' t v := h.keep e.size (fun b _ hb => e.block b hb)
theorem NodeB.mono {S S' : Nat → Prop} {F : Bool} {w : World} {t : Tr} {v : Value} (h : NodeB S F w t v) (e : ∀ b, S b → b < w.heap.size → S' b) : NodeB S' F w t v := by
  induction h with
  | mk h0 h1 h2 _ h4 h5 h6 ih =>
    refine .mk h0 h1 (fun h => ?_) ih h4 h5 h6
    obtain ⟨b, o, e1, e2, e3, e4⟩ := h2 h
    exact ⟨b, o, e1, e b e2 e3, e3, e4⟩
theorem NodeB.loose {S : Nat → Prop} {F : Bool} {w : World} {t : Tr} {v : Value} (h : NodeB S F w t v) : NodeB S false w t v := by
  induction h with
  | mk h0 h1 h2 _ h4 h5 _ ih => exact .mk h0 h1 h2 ih h4 h5 (by simp)
theorem NodeB.form {S : Nat → Prop} {F : Bool} {w : World} {t : Tr} {v : Value} (h : NodeB S F w t v) : t.op < 256 ∧ ∃ (A : Option Addr) (c : Nat) (vs : List Nv), v = .agg #[.int .u8 (t.op : Int), .int .i64 t.n, .slice A t.subs.length c] ∧ vs.length = t.subs.length ∧ CellsS S w A (vs.flatMap nvCells) ∧
    (∀ (i : Nat) (s : Tr) (u : Nv), t.subs[i]? = some s → vs[i]? = some u → NodeB S F w s (nvVal u)) ∧ t.subs.length ≤ c ∧ t.subs.length ≤ lenMax ∧ (F = true → c = t.subs.length) := by
  cases h with
  | mk h0 h1 h2 h3 h4 h5 h6 => exact ⟨h0, _, _, _, rfl, h1, h2, h3, h4, h5, h6⟩
theorem NodeB.sub {S : Nat → Prop} {F : Bool} {w : World} {t : Tr} {v : Value} (h : NodeB S F w t v) {i : Nat} {s : Tr} (hi : t.subs[i]? = some s) : ∃ b o c A1 c1, v = .agg #[.int .u8 (t.op : Int), .int .i64 t.n, .slice (some ⟨b, o, none⟩) t.subs.length c] ∧
    w.cell? ⟨b, o + i * 3, none⟩ = some (.int .u8 (s.op : Int)) ∧ w.cell? ⟨b, o + i * 3 + 1, none⟩ = some (.int .i64 s.n) ∧ w.cell? ⟨b, o + i * 3 + 2, none⟩ = some (.slice A1 s.subs.length c1) ∧ NodeB S F w s (ndV s A1 c1) := by
  obtain ⟨_, A, c, vs, hv, h1, h2, h3, h4, h5, _⟩ := h.form
  have hlt := (List.getElem?_eq_some_iff.1 hi).1
  obtain ⟨u, hu⟩ : ∃ u, vs[i]? = some u := ⟨_, List.getElem?_eq_getElem (by omega)⟩
  have hn := h3 i s u hi hu
  obtain ⟨_, A1, c1, _, hv1, _⟩ := hn.form
  have h3' : ∀ (i : Nat) (s : Tr) (u : Nv), t.subs[i]? = some s → vs[i]? = some u → NodeV w s (nvVal u) := fun i s u a b => (h3 i s u a b).node
  obtain ⟨b, o, A2, c2, hA, d0, d1, d2, hnn⟩ := sub_form h1 h2.cells h3' hi
  obtain ⟨b', o', hA', _, _, hcc⟩ := h2 (by rw [nvs_len]; omega)
  rw [hA] at hA'
  cases hA'
  have e2 := hcc _ _ (nvs_get hu 2 _ rfl)
  rw [← Nat.add_assoc, d2] at e2
  have h7 := congrArg (fun v => match v with | Value.agg cs => cs[2]? | _ => none) hv1
  simp [nvVal] at h7
  rw [h7] at e2
  cases e2
  exact ⟨b, o, c, A1, c1, by rw [hv, hA], d0, d1, by rw [d2], by rw [hv1] at hn; exact hn⟩
theorem NodeB.val {S : Nat → Prop} {F : Bool} {w : World} {t : Tr} {v : Value} (h : NodeB S F w t v) : ∃ A c, v = ndV t A c := by
  obtain ⟨_, A, c, _, hv, _⟩ := h.form
  exact ⟨A, c, hv⟩
def NodeQ (S : Nat → Prop) (F : Bool) (w : World) (t : Tr) (e : Ending) (w' : World) : Prop := ∃ A c, e = .returned (ndV t A c) ∧ NodeB S F w' t (ndV t A c) ∧ Ext w w'
def MadeQ (S : Nat → Prop) (w : World) (o : Int) (l : Nat) (t : Tr) (e : Ending) (w' : World) : Prop := ∃ A c, e = .returned (.agg #[.int .u8 o, .int .i64 0, .slice A l c]) ∧ NodeB S false w' t (.agg #[.int .u8 o, .int .i64 0, .slice A l c]) ∧ Ext w w'
def New (S : Nat → Prop) (w : World) : Prop := ∀ b, w.heap.size ≤ b → S b
theorem New.ext {S : Nat → Prop} {w w' : World} (h : New S w) (e : Ext w w') : New S w' := fun b hb => h b (Nat.le_trans e.size hb)
def butS (S : Nat → Prop) (h : Nat) : Nat → Prop := fun b => S b ∧ b ≠ h
theorem New.but {S : Nat → Prop} {w w' : World} {h : Nat} (hN : New S w) (e : Ext w w') (hh : h < w'.heap.size) : New (butS S h) w' := fun b hb => ⟨hN b (Nat.le_trans e.size hb), by omega⟩
theorem NodeB.but {S : Nat → Prop} {F : Bool} {w : World} {t : Tr} {v : Value} (h : NodeB S F w t v) {b : Nat} (hb : w.heap.size ≤ b) : NodeB (butS S b) F w t v := h.mono (fun c hc hl => ⟨hc, by omega⟩)
theorem NodeB.past {S : Nat → Prop} {F : Bool} {w w' : World} {t : Tr} {v : Value} {h : Nat} (hN : NodeB (butS S h) F w t v) (g : w.grownBy w' (some h)) : NodeB S F w' t v :=
  (hN.keep (w' := w') g.size (fun b hb hl => g.block b hl (fun e => hb.2 (by injection e)))).mono (fun b hb _ => hb.1)
theorem node_two {S : Nat → Prop} {w : World} {b op c : Nat} {t u : Tr} {A1 A2 : Option Addr} {c1 c2 : Nat} (hb : w.heap[b]? = some (.cells #[.int .u8 (t.op : Int), .int .i64 t.n, .slice A1 t.subs.length c1, .int .u8 (u.op : Int), .int .i64 u.n, .slice A2 u.subs.length c2] 35 (0, 0))) (hS : S b)
    (hop : op < 256) (hc : 2 ≤ c) (h1 : NodeB S false w t (ndV t A1 c1)) (h2 : NodeB S false w u (ndV u A2 c2)) : NodeB S false w (.mk op 0 [t, u]) (.agg #[.int .u8 (op : Int), .int .i64 0, .slice (some ⟨b, 0, none⟩) 2 c]) := by
  refine NodeB.mk (vs := [(t.op, t.n, .slice A1 t.subs.length c1), (u.op, u.n, .slice A2 u.subs.length c2)]) hop rfl ?_ ?_ hc (by simp [lenMax]) (by simp)
  · intro h0
    obtain ⟨b', o', e1, e2, e3⟩ := cells_blk hb h0
    cases e1
    exact ⟨b, 0, rfl, hS, e2, e3⟩
  · intro i s v hs hv
    match i with
    | 0 => simp at hs hv; subst hs hv; exact h1
    | 1 => simp at hs hv; subst hs hv; exact h2
    | n + 2 => simp at hs
theorem node_one {S : Nat → Prop} {w : World} {b op c : Nat} {t : Tr} {A1 : Option Addr} {c1 : Nat} (hb : w.heap[b]? = some (.cells #[.int .u8 (t.op : Int), .int .i64 t.n, .slice A1 t.subs.length c1] 35 (0, 0))) (hS : S b)
    (hop : op < 256) (hc : 1 ≤ c) (h1 : NodeB S false w t (ndV t A1 c1)) : NodeB S false w (.mk op 0 [t]) (.agg #[.int .u8 (op : Int), .int .i64 0, .slice (some ⟨b, 0, none⟩) 1 c]) := by
  refine NodeB.mk (vs := [(t.op, t.n, .slice A1 t.subs.length c1)]) hop rfl ?_ ?_ hc (by simp [lenMax]) (by simp)
  · intro h0
    obtain ⟨b', o', e1, e2, e3⟩ := cells_blk hb h0
    cases e1
    exact ⟨b, 0, rfl, hS, e2, e3⟩
  · intro i s v hs hv
    match i with
    | 0 => simp at hs hv; subst hs hv; exact h1
    | n + 1 => simp at hs
theorem nodeB_leaf (S : Nat → Prop) (F : Bool) (w : World) (op : Nat) (n : Int) (hop : op < 256) (A : Option Addr) : NodeB S F w (.mk op n []) (.agg #[.int .u8 (op : Int), .int .i64 n, .slice A 0 0]) :=
  .mk (vs := []) hop rfl (fun h => by simp at h) (fun i t u h => by simp at h) (Nat.zero_le _) (by simp [lenMax]) (fun _ => rfl)
theorem alloc3_0 (w : World) (A B C : Obj) : (((w.alloc A).alloc B).alloc C).heap[w.heap.size]? = some A := heap_ext ((alloc_ext _ _).trans (alloc_ext _ _)) (heap_alloc_new w A)
theorem alloc3_1 (w : World) (A B C : Obj) : (((w.alloc A).alloc B).alloc C).heap[w.heap.size + 1]? = some B := by
  have h := heap_alloc_new (w.alloc A) B
  refine heap_ext (alloc_ext _ _) ?_
  simpa using h
theorem alloc3_2 (w : World) (A B C : Obj) : (((w.alloc A).alloc B).alloc C).heap[w.heap.size + 1 + 1]? = some C := by
  have h := heap_alloc_new ((w.alloc A).alloc B) C
  simpa using h
theorem alloc2_1 (w : World) (A B : Obj) : ((w.alloc A).alloc B).heap[w.heap.size + 1]? = some B := by
  have h := heap_alloc_new (w.alloc A) B
  simpa using h
def zNode : Array Value := #[.int .u8 0, .int .i64 0, .slice none 0 0]
set_option maxRecDepth 100000 in
set_option maxHeartbeats 4000000 in
theorem two_any (op : Nat) (hop : op < 256) {t u : Tr} {w : World} {A1 A2 : Option Addr} {c1 c2 : Nat} {S : Nat → Prop} (hS : New S w) (h1 : NodeB S false w t (ndV t A1 c1)) (h2 : NodeB S false w u (ndV u A2 c2)) : Calls Tryd.prog 90 #[.int .u8 (op : Int), ndV t A1 c1, ndV u A2 c2] w (MadeQ S w (op : Int) 2 (.mk op 0 [t, u])) := by
  have HN := Lib.hid (fun (w' : World) (b c : Nat) (e : Ext w w') hb hc (hw : w.heap.size ≤ b) => node_two (S := S) (w := w') (b := b) (op := op) (c := c) (A1 := A1) (A2 := A2) (c1 := c1) (c2 := c2) (t := t) (u := u) hb (hS b hw) hop hc (h1.ext e) (h2.ext e))
  unfold ndV
  clear h1 h2 hS
  generalize t.op = o1 at *
  generalize t.n = n1 at *
  generalize t.subs.length = l1 at *
  generalize u.op = o2 at *
  generalize u.n = n2 at *
  generalize u.subs.length = l2 at *
  go_enter Tryd.func90, Tryd.ntmps90
  go_upto_region 1 with fail
  refine wp_named ?_
  intro W1 hW1
  have hE1 : Ext w W1 := by rw [hW1]; exact ((alloc_ext _ _).trans (alloc_ext _ _)).trans (alloc_ext _ _)
  have k0 : ∀ w', Ext W1 w' → w'.cell? ⟨w.heap.size, 0, none⟩ = some (.int .u8 (o1 : Int)) := fun w' h => h.cell (by rw [hW1]; simp [go_sem])
  have k1 : ∀ w', Ext W1 w' → w'.cell? ⟨w.heap.size, 1, none⟩ = some (.int .i64 n1) := fun w' h => h.cell (by rw [hW1]; simp [go_sem])
  have k2 : ∀ w', Ext W1 w' → w'.cell? ⟨w.heap.size, 2, none⟩ = some (.slice A1 l1 c1) := fun w' h => h.cell (by rw [hW1]; simp [go_sem])
  have j0 : ∀ w', Ext W1 w' → w'.cell? ⟨w.heap.size + 1, 0, none⟩ = some (.int .u8 (o2 : Int)) := fun w' h => h.cell (by rw [hW1]; simp [go_sem])
  have j1 : ∀ w', Ext W1 w' → w'.cell? ⟨w.heap.size + 1, 1, none⟩ = some (.int .i64 n2) := fun w' h => h.cell (by rw [hW1]; simp [go_sem])
  have j2 : ∀ w', Ext W1 w' → w'.cell? ⟨w.heap.size + 1, 2, none⟩ = some (.slice A2 l2 c2) := fun w' h => h.cell (by rw [hW1]; simp [go_sem])
  have hB : W1.heap[w.heap.size + 1 + 1]? = some (.cells zNode 35 (0, 0)) := by rw [hW1]; exact alloc3_2 _ _ _ _
  have hR1 := Ext.refl W1
  have HE1 := Lib.hid hE1
  have HD : Hid (w.heap.size ≤ w.heap.size + 1 + 1) := Lib.hid (by omega)
  clear hW1 hE1
  go_wp2_with (with_reducible refine wpList_store_blk _ rfl 35 _ _ rfl (w.heap.size + 1 + 1) 35 _ _ rfl rfl (heap_ext (alloc_ext _ _) hB) (by kernel_rfl) (by kernel_rfl) (by kernel_rfl) ?_; intro w8 h8 g8)
  refine bodyPost_ret (results_cell_row rfl _ _ (w.heap.size + 1 + 1) 35 _ (0, 0) _ (by simp [Act.put]) h8 Tryd.underlying35 rfl (by kernel_rfl)) rfl ?_
  have hE8 : Ext w w8 := Below.grown (HE1.out.trans (alloc_ext _ _)) g8 (HE1.out.trans (alloc_ext _ _)).size (fun k hk => by cases hk; exact HD.out)
  refine ⟨_, _, rfl, HN.out w8 W1.heap.size 2 hE8 ?_ (Nat.le_refl _) HE1.out.size, hE8⟩
  have hn := heap_alloc_new W1 (.cells #[.int .u8 (o1 : Int), .int .i64 n1, .slice A1 l1 c1, .int .u8 (o2 : Int), .int .i64 n2, .slice A2 l2 c2] 35)
  have hlt := lt_of_block hB
  rw [g8.block W1.heap.size (lt_of_block hn) (by simp; omega)]
  exact hn
set_option maxRecDepth 100000 in
set_option maxHeartbeats 4000000 in
theorem one_any (op : Nat) (hop : op < 256) {t : Tr} {w : World} {A1 : Option Addr} {c1 : Nat} {S : Nat → Prop} (hS : New S w) (h1 : NodeB S false w t (ndV t A1 c1)) : Calls Tryd.prog 111 #[.int .u8 (op : Int), ndV t A1 c1] w (MadeQ S w (op : Int) 1 (.mk op 0 [t])) := by
  have HN := Lib.hid (fun (w' : World) (b c : Nat) (e : Ext w w') hb hc (hw : w.heap.size ≤ b) => node_one (S := S) (w := w') (b := b) (op := op) (c := c) (A1 := A1) (c1 := c1) (t := t) hb (hS b hw) hop hc (h1.ext e))
  unfold ndV
  clear h1 hS
  generalize t.op = o1 at *
  generalize t.n = n1 at *
  generalize t.subs.length = l1 at *
  go_enter Tryd.func111, Tryd.ntmps111
  go_upto_region 1 with fail
  refine wp_named ?_
  intro W1 hW1
  have hE1 : Ext w W1 := by rw [hW1]; exact (alloc_ext _ _).trans (alloc_ext _ _)
  have k0 : ∀ w', Ext W1 w' → w'.cell? ⟨w.heap.size, 0, none⟩ = some (.int .u8 (o1 : Int)) := fun w' h => h.cell (by rw [hW1]; simp [go_sem])
  have k1 : ∀ w', Ext W1 w' → w'.cell? ⟨w.heap.size, 1, none⟩ = some (.int .i64 n1) := fun w' h => h.cell (by rw [hW1]; simp [go_sem])
  have k2 : ∀ w', Ext W1 w' → w'.cell? ⟨w.heap.size, 2, none⟩ = some (.slice A1 l1 c1) := fun w' h => h.cell (by rw [hW1]; simp [go_sem])
  have hB : W1.heap[w.heap.size + 1]? = some (.cells zNode 35 (0, 0)) := by rw [hW1]; exact alloc2_1 _ _ _
  have hR1 := Ext.refl W1
  have HE1 := Lib.hid hE1
  have HD : Hid (w.heap.size ≤ w.heap.size + 1) := Lib.hid (by omega)
  clear hW1 hE1
  go_wp2_with (with_reducible refine wpList_store_blk _ rfl 35 _ _ rfl (w.heap.size + 1) 35 _ _ rfl rfl (heap_ext (alloc_ext _ _) hB) (by kernel_rfl) (by kernel_rfl) (by kernel_rfl) ?_; intro w8 h8 g8)
  refine bodyPost_ret (results_cell_row rfl _ _ (w.heap.size + 1) 35 _ (0, 0) _ (by simp [Act.put]) h8 Tryd.underlying35 rfl (by kernel_rfl)) rfl ?_
  have hE8 : Ext w w8 := Below.grown (HE1.out.trans (alloc_ext _ _)) g8 (HE1.out.trans (alloc_ext _ _)).size (fun k hk => by cases hk; exact HD.out)
  refine ⟨_, _, rfl, HN.out w8 W1.heap.size 1 hE8 ?_ (Nat.le_refl _) HE1.out.size, hE8⟩
  have hn := heap_alloc_new W1 (.cells #[.int .u8 (o1 : Int), .int .i64 n1, .slice A1 l1 c1] 35)
  have hlt := lt_of_block hB
  rw [g8.block W1.heap.size (lt_of_block hn) (by simp; omega)]
  exact hn
theorem two3 {t u : Tr} {w : World} {A1 A2 : Option Addr} {c1 c2 : Nat} {S : Nat → Prop} (hS : New S w) (h1 : NodeB S false w t (ndV t A1 c1)) (h2 : NodeB S false w u (ndV u A2 c2)) : Calls Tryd.prog 90 #[.int .u8 3, ndV t A1 c1, ndV u A2 c2] w (MadeQ S w 3 2 (.mk 3 0 [t, u])) := two_any 3 (by decide) hS h1 h2
theorem two4 {t u : Tr} {w : World} {A1 A2 : Option Addr} {c1 c2 : Nat} {S : Nat → Prop} (hS : New S w) (h1 : NodeB S false w t (ndV t A1 c1)) (h2 : NodeB S false w u (ndV u A2 c2)) : Calls Tryd.prog 90 #[.int .u8 4, ndV t A1 c1, ndV u A2 c2] w (MadeQ S w 4 2 (.mk 4 0 [t, u])) := two_any 4 (by decide) hS h1 h2
theorem two5 {t u : Tr} {w : World} {A1 A2 : Option Addr} {c1 c2 : Nat} {S : Nat → Prop} (hS : New S w) (h1 : NodeB S false w t (ndV t A1 c1)) (h2 : NodeB S false w u (ndV u A2 c2)) : Calls Tryd.prog 90 #[.int .u8 5, ndV t A1 c1, ndV u A2 c2] w (MadeQ S w 5 2 (.mk 5 0 [t, u])) := two_any 5 (by decide) hS h1 h2
theorem one6 {t : Tr} {w : World} {A1 : Option Addr} {c1 : Nat} {S : Nat → Prop} (hS : New S w) (h1 : NodeB S false w t (ndV t A1 c1)) : Calls Tryd.prog 111 #[.int .u8 6, ndV t A1 c1] w (MadeQ S w 6 1 (.mk 6 0 [t])) := one_any 6 (by decide) hS h1
theorem one7 {t : Tr} {w : World} {A1 : Option Addr} {c1 : Nat} {S : Nat → Prop} (hS : New S w) (h1 : NodeB S false w t (ndV t A1 c1)) : Calls Tryd.prog 111 #[.int .u8 7, ndV t A1 c1] w (MadeQ S w 7 1 (.mk 7 0 [t])) := one_any 7 (by decide) hS h1
end Go.Proofs.YtmebgomnmlbgnaaDoor
