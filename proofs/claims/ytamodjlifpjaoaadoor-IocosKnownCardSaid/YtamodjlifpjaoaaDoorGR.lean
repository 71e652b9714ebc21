/- ref27.Quiet 45, Before 56. Lean: the lists of the document (ref27.sorted, Next): what they hold. ref27.sorted 47. ref27.Begin 26. Lean: what ref27.Next gathers. ref27.Next 42. ref27.Next 42 at a label that is not quiet. ref27.Next 42, After 14. Lean: what ref27.Observe sees. -/
import Derived.Test.YtamodjlifpjaoaaDoorGB
import Derived.Test.YtamodjlifpjaoaaDoorGE
import Derived.Test.YtamodjlifpjaoaaDoorGH
namespace Go.Proofs.YtamodjlifpjaoaaDoor
open Go.RowKit
set_option linter.unusedVariables false
set_option linter.unusedSimpArgs false
attribute [local go_sem] Oper.quietV quietV Oper.gives givesV ext_refl_iff ext_alloc_iff ext_drew_iff ext_drewN_iff
/-- A system as a parameter, in a block of its own. -/
theorem lts_box {w W1 : World} {x : Lts} {A : Option Addr} {c : Nat} (hW1 : W1 = w.alloc (.cells #[.int .i64 x.ins, .int .i64 x.outs, .slice A x.rows.length c] 28)) :
    Ext w W1 ∧ (∀ w', Ext W1 w' → w'.cell? ⟨w.heap.size, 0, none⟩ = some (.int .i64 x.ins)) ∧ (∀ w', Ext W1 w' → w'.cell? ⟨w.heap.size, 1, none⟩ = some (.int .i64 x.outs)) ∧ (∀ w', Ext W1 w' → w'.cell? ⟨w.heap.size, 2, none⟩ = some (.slice A x.rows.length c)) := by
  subst hW1
  refine ⟨(Ext.refl _).alloc _, fun w' h => h.cell (by simp [go_sem]), fun w' h => h.cell (by simp [go_sem]), fun w' h => h.cell (by simp [go_sem])⟩
set_option maxRecDepth 100000 in
set_option maxHeartbeats 4000000 in
theorem refQuiet_any (w : World) (v : Value) (x : Lts) (s : Nat) (hd : LtsV w v x) (hs : s < x.n) : Calls Tryd.prog 45 #[v, .int .i64 s] w fun e w' => e = .returned (.int .i64 (b01 (quietS x s))) ∧ Ext w w' := by
  obtain ⟨A, c, rfl, hr, hlen⟩ := hd.form
  have hs1 : s < x.rows.length := hs
  go_enter Tryd.func45, Tryd.ntmps45
  go_upto_region 1 with fail
  refine wp_named ?_
  intro W1 hW1
  obtain ⟨hE1, k0, k1, k2⟩ := lts_box (x := x) (A := A) (c := c) hW1
  clear hW1
  generalize w.heap.size = b1 at *
  have hE0 := Ext.refl W1
  obtain ⟨b, o, A', c', rfl, hc, hu, hl3⟩ := row_at (hr.ext hE1) hs
  have hc := fun w' (h : Ext W1 w') => h.cell hc
  have HQ : Hid (quietS x s = (x.arcs s).all (fun a => a.k == 1)) := Lib.hid rfl
  have HE := Lib.hid hE1
  clear hd hr hs hE1
  generalize x.arcs s = l at *
  go_wp2
  go_loopw [5] (fun iv wr => ∃ k : Nat, iv = .int .i64 k ∧ k ≤ l.length ∧ Hid ((l.take k).all (fun a => a.k == 1) = true) ∧ Ext W1 wr) (fun iv _ => l.length - (intOf iv).toNat)
  case atStart => exact ⟨0, rfl, by omega, Lib.hid (by simp), hE0⟩
  case round =>
    obtain ⟨k, rfl, hk, HP, hE⟩ := hrel
    obtain ⟨W5, hW5⟩ : ∃ W, W = wr := ⟨_, rfl⟩; subst hW5
    have hc := fun w' (h : Ext W5 w') => hc w' (hE.trans h)
    have k2 := fun w' (h : Ext W5 w') => k2 w' (hE.trans h)
    have hE5 := Ext.refl W5
    by_cases hlt : k < l.length
    · obtain ⟨a, ha⟩ : ∃ a, l[k]? = some a := ⟨_, List.getElem?_eq_getElem hlt⟩
      obtain ⟨b2, o2, rfl, c0, c1, c2⟩ := arc_at (hu.ext hE) ha
      have c0 := fun w' (h : Ext W5 w') => h.cell c0
      have HT : Hid ((l.take (k + 1)).all (fun a => a.k == 1) = (a.k == 1)) := Lib.hid (by rw [take_snoc ha, List.all_append, HP.out]; simp)
      have HM := Lib.hid (List.mem_of_getElem? ha)
      have HX := Lib.hid hE
      clear ha hE hu c1 c2
      by_cases hz : a.k = 1
      · have HN : Hid ((l.take (k + 1)).all (fun a => a.k == 1) = true) := Lib.hid (by rw [HT.out, hz]; rfl)
        have h1 : ((a.k : Int) != 1) = false := by simp [hz]
        clear hz
        go_wp2
        go_roundw
        case rel => exact ⟨k + 1, by go_num, hlt, HN, HX.out⟩
        case measure => simp [intOf]; omega
      · have HF : Hid (quietS x s = false) := Lib.hid (by rw [HQ.out, List.all_eq_false]; exact ⟨a, HM.out, by simpa using hz⟩)
        have h1 : ((a.k : Int) != 1) = true := by simp; omega
        clear hz
        go_wp2
        go_ret
        exact ⟨by rw [HF.out]; rfl, HE.out.trans HX.out⟩
    · obtain rfl : k = l.length := by omega
      have HF : Hid (quietS x s = true) := Lib.hid (by rw [HQ.out]; have := HP.out; rwa [List.take_length] at this)
      have HX := Lib.hid hE
      clear hE
      go_wp2
      go_ret
      exact ⟨by rw [HF.out]; rfl, HE.out.trans HX.out⟩
set_option maxRecDepth 100000 in
set_option maxHeartbeats 4000000 in
theorem refBefore_any (w : World) (x y : Arc) : Calls Tryd.prog 56 #[.agg #[.int .u8 x.k, .int .i64 x.l, .int .i64 x.t], .agg #[.int .u8 y.k, .int .i64 y.l, .int .i64 y.t]] w fun e w' => e = .returned (.int .i64 (b01 (ltA x y))) ∧ Ext w w' := by
  by_cases h1 : (x.k : Int) < (y.k : Int)
  ·
    have H : Hid (ltA x y = true) := Lib.hid (by unfold ltA; simp; omega)
    try clear h4
    try clear h2
    obtain ⟨ak, al, at'⟩ := x
    obtain ⟨bk, bl, bt⟩ := y
    simp only at *
    go_enter Tryd.func56, Tryd.ntmps56
    go_wp2
    go_ret
    exact ⟨by rw [H.out]; rfl, by first | exact Ext.refl _ | exact (Ext.refl _).alloc _ | exact ((Ext.refl _).alloc _).alloc _⟩
  by_cases h2 : (x.k : Int) = (y.k : Int)
  · have g2 : ((x.k : Int) == (y.k : Int)) = true := by simp [h2]
    by_cases h3 : x.l < y.l
    ·
      have H : Hid (ltA x y = true) := Lib.hid (by unfold ltA; simp; omega)
      try clear h4
      try clear h2
      obtain ⟨ak, al, at'⟩ := x
      obtain ⟨bk, bl, bt⟩ := y
      simp only at *
      go_enter Tryd.func56, Tryd.ntmps56
      go_wp2
      go_ret
      exact ⟨by rw [H.out]; rfl, by first | exact Ext.refl _ | exact (Ext.refl _).alloc _ | exact ((Ext.refl _).alloc _).alloc _⟩
    by_cases h4 : x.l = y.l
    · have g4 : (x.l == y.l) = true := by simp [h4]
      by_cases h5 : x.t < y.t
      ·
        have H : Hid (ltA x y = true) := Lib.hid (by unfold ltA; simp; omega)
        try clear h4
        try clear h2
        obtain ⟨ak, al, at'⟩ := x
        obtain ⟨bk, bl, bt⟩ := y
        simp only at *
        go_enter Tryd.func56, Tryd.ntmps56
        go_wp2
        go_ret
        exact ⟨by rw [H.out]; rfl, by first | exact Ext.refl _ | exact (Ext.refl _).alloc _ | exact ((Ext.refl _).alloc _).alloc _⟩
      ·
        have H : Hid (ltA x y = false) := Lib.hid (by unfold ltA; simp; omega)
        try clear h4
        try clear h2
        obtain ⟨ak, al, at'⟩ := x
        obtain ⟨bk, bl, bt⟩ := y
        simp only at *
        go_enter Tryd.func56, Tryd.ntmps56
        go_wp2
        go_ret
        exact ⟨by rw [H.out]; rfl, by first | exact Ext.refl _ | exact (Ext.refl _).alloc _ | exact ((Ext.refl _).alloc _).alloc _⟩
    · have g4 : (x.l == y.l) = false := by simp [h4]
      have H : Hid (ltA x y = false) := Lib.hid (by unfold ltA; simp; omega)
      try clear h4
      try clear h2
      obtain ⟨ak, al, at'⟩ := x
      obtain ⟨bk, bl, bt⟩ := y
      simp only at *
      go_enter Tryd.func56, Tryd.ntmps56
      go_wp2
      go_ret
      exact ⟨by rw [H.out]; rfl, by first | exact Ext.refl _ | exact (Ext.refl _).alloc _ | exact ((Ext.refl _).alloc _).alloc _⟩
  · have g2 : ((x.k : Int) == (y.k : Int)) = false := by simp; omega
    have H : Hid (ltA x y = false) := Lib.hid (by unfold ltA; simp; omega)
    try clear h4
    try clear h2
    obtain ⟨ak, al, at'⟩ := x
    obtain ⟨bk, bl, bt⟩ := y
    simp only at *
    go_enter Tryd.func56, Tryd.ntmps56
    go_wp2
    go_ret
    exact ⟨by rw [H.out]; rfl, by first | exact Ext.refl _ | exact (Ext.refl _).alloc _ | exact ((Ext.refl _).alloc _).alloc _⟩
end Go.Proofs.YtamodjlifpjaoaaDoor

namespace Go.Proofs.YtamodjlifpjaoaaDoor
open Go.RowKit
set_option linter.unusedVariables false
set_option linter.unusedSimpArgs false
theorem far_row {w : World} {N : Nat} {e : TypeId} {size : Nat} {v : Value} {n : Nat} {xs : List Value} (h : w.ownsRow N e size v n xs) : ∀ b o n' k, v = .slice (some ⟨b, o, none⟩) n' k → N ≤ b := fun b o n' c e' => by
  rcases h.2 with ⟨h2, _⟩ | ⟨g, cap, cur, h2, hB, _⟩
  · rw [e'] at h2; cases h2
  · rw [e'] at h2; cases h2; exact hB
/-- The mask of what silent arcs lead to from a list. -/
def unionM (x : Lts) (l : List Nat) : Nat := l.foldl (fun z s => if (true : Bool) then z ||| sil x s else z) 0
theorem unionM_bit {x : Lts} (h : Good x) (l : List Nat) (t : Nat) : (unionM x l).testBit t = true ↔ ∃ s ∈ l, Path x isSil s t := by
  unfold unionM
  rw [or_fold (fun _ => true) (fun s => sil x s)]
  simp only [Nat.zero_testBit, Bool.false_or, Bool.true_and, List.any_eq_true]
  exact ⟨fun ⟨s, hs, ht⟩ => ⟨s, hs, (sil_bit h s t).1 ht⟩, fun ⟨s, hs, ht⟩ => ⟨s, hs, (sil_bit h s t).2 ht⟩⟩
theorem unionM_lt {x : Lts} (h : Good x) {l : List Nat} (hl : ∀ s ∈ l, s < x.n) : unionM x l < 2 ^ x.n := mask_lt fun t ht => by
  obtain ⟨s, hs, hp⟩ := (unionM_bit h l t).1 ht
  exact hp.lt h (hl s hs)
/-- The list of sorted, when i of it have been looked at. -/
structure SInv (x : Lts) (l out : List Nat) (i : Nat) : Prop where
  pre : ∃ m, out = l ++ m ∧ m.Nodup ∧ ∀ t ∈ m, t < x.n
  reach : ∀ t ∈ out, ∃ s ∈ l, Path x isSil s t
  done : ∀ j, j < i → ∀ s, out[j]? = some s → ∀ a ∈ x.arcs s, isSil a = true → a.to ∈ out
theorem SInv.start (x : Lts) (l : List Nat) : SInv x l l 0 := ⟨⟨[], by simp, List.nodup_nil, by simp⟩, fun t ht => ⟨t, ht, .refl⟩, fun j hj => absurd hj (by omega)⟩
theorem nodup_len {n : Nat} {m : List Nat} (h : m.Nodup) (hm : ∀ t ∈ m, t < n) : m.length ≤ n := by
  have := nodup_bnd (n := n) (m := 1) (l := m.map fun t => (t, 0)) (by
    rw [List.nodup_iff_pairwise_ne, List.pairwise_map]
    exact (List.nodup_iff_pairwise_ne.1 h).imp fun hne he => hne (by cases he; rfl)) (fun p hp => by
    obtain ⟨t, ht, rfl⟩ := List.mem_map.1 hp
    exact ⟨hm t ht, Nat.one_pos⟩)
  simpa using this
theorem SInv.len {x : Lts} {l out : List Nat} {i : Nat} (h : SInv x l out i) : out.length ≤ l.length + x.n := by
  obtain ⟨m, rfl, hn, hm⟩ := h.pre
  rw [List.length_append]
  have := nodup_len hn hm
  omega
theorem SInv.lt {x : Lts} (hg : Good x) {l out : List Nat} {i : Nat} (hl : ∀ s ∈ l, s < x.n) (h : SInv x l out i) : ∀ t ∈ out, t < x.n := fun t ht => by
  obtain ⟨s, hs, hp⟩ := h.reach t ht
  exact hp.lt hg (hl s hs)
theorem SInv.put {x : Lts} (hg : Good x) {l out : List Nat} {i s : Nat} {a : Arc} (h : SInv x l out i) (hi : i < out.length) (hs : s ∈ out) (ha : a ∈ x.arcs s) (hk : isSil a = true) (hn : a.to ∉ out) : SInv x l (out ++ [a.to]) i := by
  obtain ⟨m, hm, hnd, hlt⟩ := h.pre
  refine ⟨⟨m ++ [a.to], by rw [hm, List.append_assoc], ?_, fun t ht => ?_⟩, fun t ht => ?_, fun j hj u hu b hb hbk => ?_⟩
  · rw [List.nodup_append]
    refine ⟨hnd, by simp, fun u hu v hv => ?_⟩
    simp at hv
    subst hv
    intro e
    exact hn (by rw [hm, ← e]; simp [hu])
  · rcases List.mem_append.1 ht with h1 | h1
    · exact hlt t h1
    · simp at h1; subst h1; exact hg.to_lt s a ha
  · rcases List.mem_append.1 ht with h1 | h1
    · exact h.reach t h1
    · simp at h1; subst h1
      obtain ⟨s0, hs0, hp⟩ := h.reach s hs
      exact ⟨s0, hs0, hp.step ha hk⟩
  · rw [List.getElem?_append_left (by omega)] at hu
    exact List.mem_append_left _ (h.done j hj u hu b hb hbk)
theorem SInv.next {x : Lts} {l out : List Nat} {i s : Nat} (h : SInv x l out i) (hs : out[i]? = some s) (hd : ∀ a ∈ x.arcs s, isSil a = true → a.to ∈ out) : SInv x l out (i + 1) :=
  ⟨h.pre, h.reach, fun j hj u hu => by
    rcases Nat.lt_or_ge j i with h1 | h1
    · exact h.done j h1 u hu
    · obtain rfl : j = i := by omega
      rw [hs] at hu; cases hu
      exact hd⟩
theorem SInv.all {x : Lts} {l out : List Nat} (h : SInv x l out out.length) (t : Nat) : t ∈ out ↔ ∃ s ∈ l, Path x isSil s t := by
  refine ⟨h.reach t, fun ⟨s, hs, hp⟩ => ?_⟩
  obtain ⟨m, hm, _⟩ := h.pre
  have hs' : s ∈ out := by rw [hm]; simp [hs]
  have key : ∀ u, Path x isSil s u → u ∈ out := by
    intro u hu
    induction hu with
    | refl => exact hs'
    | step _ ha hk ih =>
      obtain ⟨j, hj⟩ := List.getElem?_of_mem ih
      exact h.done j (List.getElem?_eq_some_iff.1 hj).1 _ hj _ ha hk
  exact key t hp
/-- What sorted answers. -/
theorem sorted_mem {x : Lts} (hg : Good x) {l out : List Nat} (hl : ∀ s ∈ l, s < x.n) (h : SInv x l out out.length) : (List.range x.n).filter (fun s => out.contains s) = mem (unionM x l) := by
  unfold mem
  have h64 : List.range 64 = List.range x.n ++ (List.range (64 - x.n)).map (fun t => x.n + t) := by
    rw [← List.range_add, show x.n + (64 - x.n) = 64 by have := hg.nn.2; omega]
  have hU := unionM_lt hg hl
  rw [h64, List.filter_append, show ((List.range (64 - x.n)).map (fun t => x.n + t)).filter (unionM x l).testBit = [] from ?_, List.append_nil]
  · refine List.filter_congr fun t ht => ?_
    rw [Bool.eq_iff_iff, List.contains_iff_mem, h.all t, unionM_bit hg]
  · rw [List.filter_eq_nil_iff]
    intro t ht hb
    obtain ⟨u, _, rfl⟩ := List.mem_map.1 ht
    have := mask_bit hU hb
    omega
end Go.Proofs.YtamodjlifpjaoaaDoor

namespace Go.Proofs.YtamodjlifpjaoaaDoor
open Go.RowKit
set_option linter.unusedVariables false
set_option linter.unusedSimpArgs false
attribute [local go_sem] Oper.quietV quietV Oper.gives givesV ext_refl_iff ext_alloc_iff ext_drew_iff ext_drewN_iff
/-- What sorted has gathered. -/
def StO (W1 : World) (l : List Nat) (u : Value) (wc : World) : Prop := OwnL W1 wc [.row 3 1 u l.length (wV l)]
theorem stO_nil (W1 : World) : StO W1 [] (.slice (some ⟨W1.heap.size, 0, none⟩) 0 0) (W1.alloc (.cells #[] 3)) :=
  (OwnL.nil (Ext.refl W1)).add (alloc_ext W1 _) (World.ownsRow_lit (base := W1.heap.size) (e := 3) (size := 1) W1 #[] 0 (Nat.le_refl _) (by unfold maxLen; omega) rfl)
theorem wV_one (l : List Nat) : ∀ u ∈ wV l, u.oneCell' = true := fun u hu => by
  obtain ⟨s, _, rfl⟩ := List.mem_map.1 hu
  rfl
theorem ints_row {W : World} {B : Nat} {v : Value} {out : List Nat} (h : W.ownsRow B 3 1 v out.length (wV out)) (hl : out.length ≤ 100000) : ∃ c, IntsC W v (out.map (fun (s : Nat) => (s : Int))) c := by
  have h2 : (out.map (fun (s : Nat) => (s : Int))).map (Value.int .i64) = wV out := by unfold wV; rw [List.map_map]; rfl
  refine ints_of_owns (base := B) (e := 3) ?_ (by rw [List.length_map]; unfold lenMax; omega)
  rw [h2, List.length_map]
  exact h
theorem has_nat (out : List Nat) (t : Nat) : hasL (out.map (fun (s : Nat) => (s : Int))) (t : Int) = decide (t ∈ out) := by
  rw [Bool.eq_iff_iff, hasL_iff, decide_eq_true_iff, List.mem_map]
  exact ⟨fun ⟨s, hs, he⟩ => by have : s = t := by omega
                               rwa [← this], fun h => ⟨t, h, rfl⟩⟩
theorem done_step {x : Lts} {s k : Nat} {a : Arc} {o2 o3 : List Nat} (h : ∀ t, t < k → ∀ a, (x.arcs s)[t]? = some a → isSil a = true → a.to ∈ o2) (hsub : ∀ u ∈ o2, u ∈ o3) (ha : (x.arcs s)[k]? = some a) (hn : isSil a = true → a.to ∈ o3) :
    ∀ t, t < k + 1 → ∀ a, (x.arcs s)[t]? = some a → isSil a = true → a.to ∈ o3 := fun t ht b hb hs => by
  rcases Nat.lt_or_ge t k with h1 | h1
  · exact hsub _ (h t h1 b hb hs)
  · obtain rfl : t = k := by omega
    rw [ha] at hb; cases hb
    exact hn hs
set_option maxRecDepth 100000 in
set_option maxHeartbeats 8000000 in
theorem sortedF_any (w : World) (v lv : Value) (x : Lts) (l : List Nat) (cl : Nat) (hd : LtsV w v x) (hg : Good x) (hl : ∀ s ∈ l, s < x.n) (hv : IntsC w lv (l.map (fun (s : Nat) => (s : Int))) cl) (hlen : l.length ≤ 20000) :
    Calls Tryd.prog 47 #[v, lv] w fun e w' => ∃ rv c, e = .returned rv ∧ IntsC w' rv (memI (unionM x l)) c ∧ Ext w w' ∧ ∀ b o n k, rv = .slice (some ⟨b, o, none⟩) n k → w.heap.size ≤ b := by
  obtain ⟨i3, hi3, hz3, hs3, hb3⟩ := info_parts int_info
  obtain ⟨A, c, rfl, hr, hrl⟩ := hd.form
  obtain ⟨Al, rfl, hlc, hcl, hlm⟩ := id hv
  rw [List.length_map] at *
  go_enter Tryd.func47, Tryd.ntmps47
  go_upto_region 1 with fail
  refine wp_named ?_
  intro W1 hW1
  obtain ⟨hE1, k0, k1, k2⟩ := lts_box (x := x) (A := A) (c := c) hW1
  clear hW1
  generalize w.heap.size = b1 at *
  have hE0 := Ext.refl W1
  have hnone := fun W => run_append_none (P := Tryd.prog) 30 30 3 i3 Tryd.underlying30 hi3 W1.heap.size 0 0 cl (Nat.le_refl 0) W
  have HX := Lib.hid (And.intro hE1 (And.intro (hr.ext hE1) (And.intro hg (And.intro hl hlen))))
  have hwl : (l.map (fun (s : Nat) => (s : Int))).map (Value.int .i64) = wV l := by unfold wV; rw [List.map_map]; rfl
  rw [hwl] at hlc
  have hlc := hlc.ext hE1
  clear hwl hd hr hg hl hv hE1
  go_cut [5] (StO W1 l)
  case first =>
    cases Al with
    | none =>
      have h0 : l = [] := by
        cases hq : l with
        | nil => rfl
        | cons a t =>
          obtain ⟨b, o, h, _⟩ := hlc (by rw [hq]; simp [wV])
          cases h
      subst h0
      simp only [List.length_nil] at *
      go_wp2
      go_meet
      exact stO_nil W1
    | some ad =>
      clear hnone
      have hnew : ∀ j u, (wV l)[j]? = some u → (W1.alloc (.cells #[] 3)).cell? (ad.add j) = some u := fun j u hj => by
        have hlj : j < (wV l).length := (List.getElem?_eq_some_iff.1 hj).1
        obtain ⟨b, o, h, _, hc⟩ := hlc (by omega)
        cases h
        rw [Addr.add_lit]
        exact (alloc_ext W1 _).cell (hc j u hj)
      have hLL := Lib.hid hlen
      have hO0 := Lib.hid (stO_nil W1)
      have hl2 := Lib.hid (wV_len l)
      clear hlc hcl hlm
      go_wp2_with (at_builtin; refine wpList_append_own2 rfl _ _ 30 rfl W1.heap.size 3 i3 (.int .i64 0) 1 8 Tryd.underlying30 hi3 hz3 hs3 hb3 rfl (by decide) (.slice (some ⟨W1.heap.size, 0, none⟩) 0 0) 0 [] rfl (World.ownsRow_lit (base := W1.heap.size) (e := 3) (size := 1) W1 #[] 0 (Nat.le_refl _) (by unfold maxLen; omega) rfl) ad l.length cl (wV l) rfl (by rw [wV_len]; omega) hnew (wV_one l) (by unfold maxLen; have := hLL.out; omega) (by have := hLL.out; omega) (by simp) ?_; intro v8 w8 hown8 hg8 hb8)
      go_meet
      have h8 := OwnL.app (W' := w8) hO0.out 0 rfl hg8 hown8 hb8
      simpa [StO] using h8
  case rest =>
    have HO : Hid (StO W1 l u5 wc) := Lib.hid hcut
    clear hcut hlc hcl hlm hnone hlen
    go_wp2
    go_loopw [5, 6] (fun uv iv wr => ∃ out : List Nat, ∃ i : Nat, iv = .int .i64 i ∧ i ≤ out.length ∧ Hid (SInv x l out i) ∧ OwnL W1 wr [.row 3 1 uv out.length (wV out)]) (fun _ iv _ => l.length + x.n - (intOf iv).toNat)
    case atStart => exact ⟨l, 0, rfl, by omega, Lib.hid (SInv.start x l), HO.out⟩
    case round =>
      obtain ⟨out, i, rfl, hi, HS, hO⟩ := hrel
      obtain ⟨W5, hW5⟩ : ∃ W, W = wr := ⟨_, rfl⟩; subst hW5
      obtain ⟨A5, c5, rfl, hnc5, hc5⟩ := cells_of_owns (hO.get 0 rfl)
      have hlen5 : out.length ≤ 20064 := by have := HS.out.len; have := HX.out.2.2.1.nn; have := HX.out.2.2.2.2; omega
      have hE5 := hO.ext
      have k2 := fun w' (h : Ext W5 w') => k2 w' (hE5.trans h)
      have HO5 := Lib.hid hO
      have hE := Ext.refl W5
      by_cases hlt : i < out.length
      · obtain ⟨s, hs⟩ : ∃ s, out[i]? = some s := ⟨_, List.getElem?_eq_getElem hlt⟩
        have hsn := HS.out.lt HX.out.2.2.1 HX.out.2.2.2.1 s (List.mem_of_getElem? hs)
        have hsn' : s < x.rows.length := hsn
        obtain ⟨b5, o5, hA5, _, hcc⟩ := hc5 (by rw [wV_len]; omega)
        subst hA5
        have hci := hcc i (.int .i64 (s : Int)) (by unfold wV; rw [List.getElem?_map, hs]; rfl)
        obtain ⟨br, or_, A', c', rfl, hcr, hu, hl3⟩ := row_at HX.out.2.1 hsn
        have hcr := fun w' (h : Ext W5 w') => h.cell (hE5.cell hcr)
        have HU := Lib.hid (And.intro hu (And.intro hs (And.intro hsn (And.intro hc5 hE5))))
        clear hcc hc5 hu hs hsn hO hE5
        go_wp2_with fail
        go_quiet (fail)
        go_wp2
        go_loopw [5, 8] (fun uv kv wr => ∃ out2 : List Nat, ∃ k : Nat, kv = .int .i64 k ∧ k ≤ (x.arcs s).length ∧ Hid (SInv x l out2 i ∧ i < out2.length ∧ out2[i]? = some s ∧ ∀ t, t < k → ∀ a, (x.arcs s)[t]? = some a → isSil a = true → a.to ∈ out2) ∧ OwnL W1 wr [.row 3 1 uv out2.length (wV out2)]) (fun _ kv _ => (x.arcs s).length - (intOf kv).toNat)
        case atStart => exact ⟨out, 0, rfl, by omega, Lib.hid ⟨HS.out, hlt, HU.out.2.1, fun t ht => absurd ht (by omega)⟩, HO5.out.trans (by first | exact (Ext.refl _).drew | exact (Ext.refl _).drewN _ | exact drew_ext _)⟩
        case round =>
          clear hcr hci k2 hE
          obtain ⟨out2, k, rfl, hk, HI, hO2⟩ := hrel
          obtain ⟨W6, hW6⟩ : ∃ W, W = wr := ⟨_, rfl⟩; subst hW6
          have hlen6 : out2.length ≤ 20064 := by have := HI.out.1.len; have := HX.out.2.2.1.nn; have := HX.out.2.2.2.2; omega
          obtain ⟨c6, hin⟩ := ints_row (hO2.get 0 rfl) (by omega)
          have HO6 := Lib.hid hO2
          have hE6 := Ext.refl W6
          by_cases hkl : k < (x.arcs s).length
          · obtain ⟨a, ha⟩ : ∃ a, (x.arcs s)[k]? = some a := ⟨_, List.getElem?_eq_getElem hkl⟩
            have hto := (HX.out.2.2.1.arc_at (List.mem_of_getElem? ha)).2.2.2
            obtain ⟨ba, oa, rfl, c0, c1, c2⟩ := arc_at (HU.out.1.ext hO2.ext) ha
            rw [← hto.1] at c2
            have c0 := fun w' (h : Ext W6 w') => h.cell c0
            have c2 := fun w' (h : Ext W6 w') => h.cell c2
            have HA := Lib.hid (And.intro ha hto)
            have hhas := fun W (e : Ext W6 W) => has_any W _ _ c6 (a.to : Int) (hin.ext e)
            obtain ⟨A6, rfl, _⟩ := id hin
            rw [List.length_map] at *
            clear ha hto hin hO2 c1
            by_cases hz : a.k = 0
            · have h1 : ((a.k : Int) == 0) = true := by simp [hz]
              have HZ : Hid (isSil a = true) := Lib.hid (by unfold isSil; simp [hz])
              clear hz
              by_cases hm : a.to ∈ out2
              · have hb : b01 (hasL (out2.map (fun (s : Nat) => (s : Int))) (a.to : Int)) = 1 := by rw [has_nat, decide_eq_true hm]; rfl
                rw [hb] at hhas
                have hhas := hhas W6 hE6
                have HM := Lib.hid hm
                clear hb hm
                go_wp2_with ((with_reducible refine hhas.mono ?_); rintro e w7 ⟨rfl, rfl⟩)
                go_roundw
                case rel => exact ⟨out2, k + 1, by go_num, hkl, Lib.hid ⟨HI.out.1, HI.out.2.1, HI.out.2.2.1, done_step HI.out.2.2.2 (fun _ h => h) HA.out.1 (fun _ => HM.out)⟩, HO6.out⟩
                case measure => simp [intOf]; omega
              · have hb : b01 (hasL (out2.map (fun (s : Nat) => (s : Int))) (a.to : Int)) = 0 := by rw [has_nat, decide_eq_false hm]; rfl
                rw [hb] at hhas
                have hhas := hhas W6 hE6
                have HM := Lib.hid hm
                have hown : W6.ownsRow W1.heap.size 3 1 (.slice A6 out2.length c6) out2.length (wV out2) := HO6.out.get 0 rfl
                have hsz := HO6.out.ext.size
                clear hb hm
                go_wp2_with (first
                  | ((with_reducible refine hhas.mono ?_); rintro e w7 ⟨rfl, rfl⟩)
                  | (at_builtin; refine wpList_append_own2 rfl _ _ 30 rfl W1.heap.size 3 i3 (.int .i64 0) 1 8 Tryd.underlying30 hi3 hz3 hs3 hb3 rfl (by decide) (.slice A6 out2.length c6) out2.length (wV out2) rfl (World.ownsRow.alloc hown _) ⟨W6.heap.size, 0, none⟩ 1 1 [.int .i64 (a.to : Int)] rfl rfl (new_cell _ _ _ _ rfl) (one_int _) (by unfold maxLen; omega) (by omega) (by simp; omega) ?_; intro v8 w8 hown8 hg8 hb8))
                have hO8 := (HO6.out.trans (alloc_ext W6 (.cells #[.int .i64 (a.to : Int)] 3))).app 0 rfl hg8 hown8 hb8
                go_roundw
                case rel =>
                  have hmem : s ∈ out2 := List.mem_of_getElem? HI.out.2.2.1
                  refine ⟨out2 ++ [a.to], k + 1, by go_num, hkl, Lib.hid ⟨HI.out.1.put HX.out.2.2.1 HI.out.2.1 hmem (List.mem_of_getElem? HA.out.1) HZ.out HM.out, by rw [List.length_append]; have := HI.out.2.1; omega, by rw [List.getElem?_append_left HI.out.2.1]; exact HI.out.2.2.1, done_step HI.out.2.2.2 (fun _ h => List.mem_append_left _ h) HA.out.1 (fun _ => by simp)⟩, ?_⟩
                  simpa [wV] using hO8
                case measure => simp [intOf]; omega
            · have h1 : ((a.k : Int) == 0) = false := by simp [hz]
              have HZ : Hid (isSil a = false) := Lib.hid (by unfold isSil; simp [hz])
              clear hz hhas
              go_wp2
              go_roundw
              case rel => exact ⟨out2, k + 1, by go_num, hkl, Lib.hid ⟨HI.out.1, HI.out.2.1, HI.out.2.2.1, done_step HI.out.2.2.2 (fun _ h => h) HA.out.1 (fun h => absurd h (by rw [HZ.out]; simp))⟩, HO6.out⟩
              case measure => simp [intOf]; omega
          · obtain rfl : k = (x.arcs s).length := by omega
            have hnext := Lib.hid (HI.out.1.next HI.out.2.2.1 (fun a ha hs => by
              obtain ⟨t, ht⟩ := List.getElem?_of_mem ha
              exact HI.out.2.2.2 t (List.getElem?_eq_some_iff.1 ht).1 a ht hs))
            clear hin hO2
            go_wp2
            go_roundw
            case rel => exact ⟨out2, i + 1, by go_num, HI.out.2.1, hnext, HO6.out⟩
            case measure => simp [intOf]; have h1 := HI.out.1.len; have h2 := HI.out.2.1; omega
      · obtain rfl : i = out.length := by omega
        have HR : Hid ((List.range x.n).filter (fun s => out.contains s) = mem (unionM x l)) := Lib.hid (sorted_mem HX.out.2.2.1 HX.out.2.2.2.1 HS.out)
        obtain ⟨c6, hin⟩ := ints_row (hO.get 0 rfl) (by omega)
        have hn64 := HX.out.2.2.1.nn
        unfold Lts.n at hn64
        clear hc5 hO
        go_wp2
        go_loopw [9, 10] (fun rv tv wr => ∃ t : Nat, tv = .int .i64 t ∧ t ≤ x.rows.length ∧ OwnL W5 wr [.row 3 1 rv ((List.range t).filter (fun s => out.contains s)).length (wV ((List.range t).filter (fun s => out.contains s)))]) (fun _ tv _ => x.rows.length - (intOf tv).toNat)
        case atStart => exact ⟨0, rfl, by omega, (OwnL.nil (Ext.refl W5)).add (Ext.refl W5) (World.ownsRow_nil W5 _ 3 1)⟩
        case round =>
          obtain ⟨t, rfl, ht, hO2⟩ := hrel
          obtain ⟨W6, hW6⟩ : ∃ W, W = wr := ⟨_, rfl⟩; subst hW6
          have hE6 := hO2.ext
          have k2 := fun w' (h : Ext W6 w') => k2 w' (hE6.trans h)
          have HO2 := Lib.hid hO2
          have hE := Ext.refl W6
          have hlt5 := List.length_filter_le (fun s => out.contains s) (List.range t)
          rw [List.length_range] at hlt5
          have hhas := fun W (e : Ext W6 W) => has_any W _ _ c6 (t : Int) ((hin.ext hE6).ext e)
          by_cases htl : t < x.rows.length
          · by_cases hm : t ∈ out
            · have hb : b01 (hasL (out.map (fun (s : Nat) => (s : Int))) (t : Int)) = 1 := by rw [has_nat, decide_eq_true hm]; rfl
              rw [hb] at hhas
              have hhas := hhas W6 hE
              have HF : Hid ((List.range (t + 1)).filter (fun s => out.contains s) = (List.range t).filter (fun s => out.contains s) ++ [t]) := Lib.hid (by rw [List.range_succ, List.filter_append]; simp [hm])
              generalize (List.range t).filter (fun s => out.contains s) = ri at *
              have hown : W6.ownsRow W5.heap.size 3 1 u9 ri.length (wV ri) := HO2.out.get 0 rfl
              have hsz := HO2.out.ext.size
              clear hb hm hO2
              go_wp2_with (first
                | ((with_reducible refine hhas.mono ?_); rintro e w7 ⟨rfl, rfl⟩)
                | (at_builtin; refine wpList_append_own2 rfl _ _ 30 rfl W5.heap.size 3 i3 (.int .i64 0) 1 8 Tryd.underlying30 hi3 hz3 hs3 hb3 rfl (by decide) u9 ri.length (wV ri) rfl (World.ownsRow.alloc hown _) ⟨W6.heap.size, 0, none⟩ 1 1 [.int .i64 (t : Int)] rfl rfl (new_cell _ _ _ _ rfl) (one_int _) (by unfold maxLen; omega) (by omega) (by simp; omega) ?_; intro v8 w8 hown8 hg8 hb8))
              have hO8 := (HO2.out.trans (alloc_ext W6 (.cells #[.int .i64 (t : Int)] 3))).app 0 rfl hg8 hown8 hb8
              go_roundw
              case rel => exact ⟨t + 1, by go_num, htl, by rw [HF.out]; simpa [wV] using hO8⟩
              case measure => simp [intOf]; omega
            · have hb : b01 (hasL (out.map (fun (s : Nat) => (s : Int))) (t : Int)) = 0 := by rw [has_nat, decide_eq_false hm]; rfl
              rw [hb] at hhas
              have hhas := hhas W6 hE
              have HF : Hid ((List.range (t + 1)).filter (fun s => out.contains s) = (List.range t).filter (fun s => out.contains s)) := Lib.hid (by rw [List.range_succ, List.filter_append]; simp [hm])
              clear hb hm hO2
              go_wp2_with ((with_reducible refine hhas.mono ?_); rintro e w7 ⟨rfl, rfl⟩)
              go_roundw
              case rel => exact ⟨t + 1, by go_num, htl, by rw [HF.out]; exact HO2.out⟩
              case measure => simp [intOf]; omega
          · obtain rfl : t = x.rows.length := by omega
            have hrow := hO2.get 0 rfl
            rw [show (List.range x.rows.length).filter (fun s => out.contains s) = mem (unionM x l) from HR.out] at hrow hlt5
            obtain ⟨c9, hfin⟩ := Lib.hid (ints_row hrow (by omega)) |>.out
            have HF := Lib.hid hfin
            have HFR := Lib.hid (far_row hrow)
            clear hfin hrow hO2 hhas
            go_wp2
            go_ret
            exact ⟨_, c9, rfl, HF.out, HX.out.1.trans (HO5.out.ext.trans HO2.out.ext), fun b o n' k e' => Nat.le_trans (HX.out.1.trans HO5.out.ext).size (HFR.out b o n' k e')⟩
theorem sorted_any (w : World) (v lv : Value) (x : Lts) (l : List Nat) (cl : Nat) (hd : LtsV w v x) (hg : Good x) (hl : ∀ s ∈ l, s < x.n) (hv : IntsC w lv (l.map (fun (s : Nat) => (s : Int))) cl) (hlen : l.length ≤ 20000) :
    Calls Tryd.prog 47 #[v, lv] w fun e w' => ∃ rv c, e = .returned rv ∧ IntsC w' rv (memI (unionM x l)) c ∧ Ext w w' :=
  (sortedF_any w v lv x l cl hd hg hl hv hlen).mono fun e w' ⟨rv, c, h1, h2, h3, _⟩ => ⟨rv, c, h1, h2, h3⟩
end Go.Proofs.YtamodjlifpjaoaaDoor

namespace Go.Proofs.YtamodjlifpjaoaaDoor
open Go.RowKit
set_option linter.unusedVariables false
set_option linter.unusedSimpArgs false
attribute [local go_sem] Oper.quietV quietV Oper.gives givesV ext_refl_iff ext_alloc_iff ext_drew_iff ext_drewN_iff
theorem unionM_one (x : Lts) (s : Nat) : unionM x [s] = sil x s := by unfold unionM; simp
theorem one_ints (W : World) (v : Int) : IntsC (W.alloc (.cells #[.int .i64 v] 3)) (.slice (some ⟨W.heap.size, 0, none⟩) 1 1) [v] 1 := by
  obtain ⟨c, h⟩ := ints_of_owns (base := W.heap.size) (e := 3) (xs := [v]) (World.ownsRow_lit (base := W.heap.size) (e := 3) (size := 1) W #[.int .i64 v] 1 (Nat.le_refl _) (by unfold maxLen; omega) rfl) (by unfold lenMax; simp)
  obtain ⟨A, hv, h1, h2⟩ := h
  cases hv
  exact ⟨_, rfl, h1, h2⟩
set_option maxRecDepth 100000 in
set_option maxHeartbeats 4000000 in
theorem refBeginF_any (w : World) (v : Value) (x : Lts) (hd : LtsV w v x) (hg : Good x) : Calls Tryd.prog 26 #[v] w fun e w' => ∃ rv c, e = .returned rv ∧ IntsC w' rv (memI (begM x)) c ∧ Ext w w' ∧ ∀ b o n k, rv = .slice (some ⟨b, o, none⟩) n k → w.heap.size ≤ b := by
  obtain ⟨A, c, rfl, hr, hrl⟩ := id hd.form
  go_enter Tryd.func26, Tryd.ntmps26
  go_upto_region 1 with fail
  refine wp_named ?_
  intro W1 hW1
  obtain ⟨hE1, k0, k1, k2⟩ := lts_box (x := x) (A := A) (c := c) hW1
  clear hW1
  generalize w.heap.size = b1 at *
  have hE0 := Ext.refl W1
  have hso := sortedF_any (W1.alloc (.cells #[.int .i64 0] 3)) _ _ x [0] 1 (hd.ext (hE1.trans (alloc_ext W1 _))) hg (by intro s hs; simp at hs; subst hs; exact hg.nn.1) (one_ints W1 0) (by simp)
  rw [unionM_one] at hso
  have HX := Lib.hid hE1
  clear hd hg hr hrl hE1
  go_wp2_with ((with_reducible refine hso.mono ?_); rintro e w1 ⟨rv, c9, rfl, hi9, e9, hf9⟩; have H9 := Lib.hid (And.intro hi9 (And.intro e9 hf9)); clear hi9 e9 hf9)
  go_ret
  exact ⟨_, c9, rfl, H9.out.1, HX.out.trans ((alloc_ext W1 _).trans H9.out.2.1), fun b o n' k e' => Nat.le_trans (HX.out.trans (alloc_ext W1 _)).size (H9.out.2.2 b o n' k e')⟩
theorem refBegin_any (w : World) (v : Value) (x : Lts) (hd : LtsV w v x) (hg : Good x) : Calls Tryd.prog 26 #[v] w fun e w' => ∃ rv c, e = .returned rv ∧ IntsC w' rv (memI (begM x)) c ∧ Ext w w' :=
  (refBeginF_any w v x hd hg).mono fun e w' ⟨rv, c, h1, h2, h3, _⟩ => ⟨rv, c, h1, h2, h3⟩
end Go.Proofs.YtamodjlifpjaoaaDoor

namespace Go.Proofs.YtamodjlifpjaoaaDoor
open Go.RowKit
set_option linter.unusedVariables false
set_option linter.unusedSimpArgs false
theorem mem_aftQ (x : Lts) {S : Nat} (hS : S < 2 ^ 64) : mem (aftQ x (mem S)) = (mem S).filter (quietS x) := by
  unfold mem
  rw [List.filter_filter]
  refine List.filter_congr fun t ht => ?_
  rw [Bool.eq_iff_iff]
  have h1 := aftQ_bit x (mem S) t
  have h2 := mem_iff (s := t) hS
  unfold mem at h1 h2
  rw [h1, h2, Bool.and_eq_true]
  exact ⟨fun ⟨a, b⟩ => ⟨b, a⟩, fun ⟨a, b⟩ => ⟨b, a⟩⟩
def toL (x : Lts) (l : Int) (r : List Arc) : List Nat := (r.filter (hit x l)).map Arc.to
def gath (x : Lts) (l : Int) (L : List Nat) : List Nat := L.flatMap fun s => toL x l (x.arcs s)
theorem toL_snoc (x : Lts) (l : Int) {r : List Arc} {k : Nat} {a : Arc} (h : r[k]? = some a) : toL x l (r.take (k + 1)) = toL x l (r.take k) ++ (if hit x l a then [a.to] else []) := by
  unfold toL
  rw [take_snoc h, List.filter_append, List.map_append]
  congr 1
  cases hh : hit x l a <;> simp [hh, List.filter_cons]
theorem gath_snoc (x : Lts) (l : Int) {L : List Nat} {i s : Nat} (h : L[i]? = some s) : gath x l (L.take (i + 1)) = gath x l (L.take i) ++ toL x l (x.arcs s) := by
  unfold gath
  rw [take_snoc h, List.flatMap_append]
  simp
theorem toL_len (x : Lts) (l : Int) (r : List Arc) : (toL x l r).length ≤ r.length := by
  unfold toL
  rw [List.length_map]
  exact List.length_filter_le _ _
theorem arcs_len256 {x : Lts} (hg : Good x) (s : Nat) : (x.arcs s).length ≤ 256 := by
  rcases Nat.lt_or_ge s x.rows.length with h | h
  · rw [arcs_eq h]
    exact hg.len _ (List.getElem_mem h)
  · rw [arcs_none h]; simp
theorem gath_len {x : Lts} (hg : Good x) (l : Int) : ∀ L : List Nat, (gath x l L).length ≤ L.length * 256
  | [] => by simp [gath]
  | s :: L => by
    have h1 := gath_len hg l L
    have h2 := Nat.le_trans (toL_len x l (x.arcs s)) (arcs_len256 hg s)
    unfold gath at *
    rw [List.flatMap_cons, List.length_append, List.length_cons]
    omega
theorem gath_lt {x : Lts} (hg : Good x) (l : Int) (L : List Nat) : ∀ t ∈ gath x l L, t < x.n := fun t ht => by
  obtain ⟨s, _, h⟩ := List.mem_flatMap.1 ht
  obtain ⟨a, ha, rfl⟩ := List.mem_map.1 h
  exact hg.to_lt s a (List.mem_filter.1 ha).1
theorem gath_union {x : Lts} (hg : Good x) (l : Int) (L : List Nat) : unionM x (gath x l L) = aftL x l L := mask_eq fun t => by
  rw [Bool.eq_iff_iff, unionM_bit hg, aftL_bit]
  constructor
  · rintro ⟨s, hs, hp⟩
    obtain ⟨u, hu, h⟩ := List.mem_flatMap.1 hs
    obtain ⟨a, ha, rfl⟩ := List.mem_map.1 h
    exact ⟨u, hu, a, (List.mem_filter.1 ha).1, (List.mem_filter.1 ha).2, (sil_bit hg _ _).2 hp⟩
  · rintro ⟨u, hu, a, ha, hh, ht⟩
    exact ⟨a.to, List.mem_flatMap.2 ⟨u, hu, List.mem_map.2 ⟨a, List.mem_filter.2 ⟨ha, hh⟩, rfl⟩⟩, (sil_bit hg _ _).1 ht⟩
end Go.Proofs.YtamodjlifpjaoaaDoor

namespace Go.Proofs.YtamodjlifpjaoaaDoor
open Go.RowKit
set_option linter.unusedVariables false
set_option linter.unusedSimpArgs false
attribute [local go_sem] Oper.quietV quietV Oper.gives givesV ext_refl_iff ext_alloc_iff ext_drew_iff ext_drewN_iff
theorem nil_row (W : World) : OwnL W W [.row 3 1 (.slice none 0 0) 0 (wV [])] := (OwnL.nil (Ext.refl W)).add (Ext.refl W) (World.ownsRow_nil W _ 3 1)
set_option maxRecDepth 100000 in
set_option maxHeartbeats 8000000 in
theorem refNextQF_any (w : World) (v fv : Value) (x : Lts) (S cf : Nat) (l : Int) (hd : LtsV w v x) (hg : Good x) (hS : S < 2 ^ x.n) (hf : IntsC w fv (memI S) cf) (hq : l = x.ins + x.outs) :
    Calls Tryd.prog 42 #[v, fv, .int .i64 l] w fun e w' => ∃ rv c, e = .returned rv ∧ IntsC w' rv (memI (aftM x S l)) c ∧ Ext w w' ∧ ∀ b o n k, rv = .slice (some ⟨b, o, none⟩) n k → w.heap.size ≤ b := by
  obtain ⟨i3, hi3, hz3, hs3, hb3⟩ := info_parts int_info
  obtain ⟨A, c, rfl, hr, hrl⟩ := id hd.form
  obtain ⟨Af, rfl, hfc, hfn, hfm⟩ := id hf
  have hml : (memI S).length = (mem S).length := by unfold memI; simp
  have hm64 := mem_len S
  rw [hml] at *
  have b1' := hg.ins
  have b2' := hg.outs
  have hwv : (memI S).map (Value.int .i64) = wV (mem S) := by unfold memI wV; rw [List.map_map]; rfl
  rw [hwv] at hfc
  have HQ : Hid (aftM x S l = aftQ x (mem S)) := Lib.hid (if_pos hq)
  have hq1 : (l == x.ins + x.outs) = true := by simp [hq]
  go_enter Tryd.func42, Tryd.ntmps42
  go_upto_region 1 with fail
  refine wp_named ?_
  intro W1 hW1
  obtain ⟨hE1, k0, k1, k2⟩ := lts_box (x := x) (A := A) (c := c) hW1
  clear hW1
  generalize w.heap.size = b1 at *
  have hE0 := Ext.refl W1
  have hqu := fun W (e : Ext W1 W) s hs => refQuiet_any W _ x s (hd.ext (hE1.trans e)) hs
  have HX := Lib.hid (And.intro hE1 (And.intro hg (And.intro hS (hfc.ext hE1))))
  clear hd hg hr hf hS hfc hE1 hwv hml hq
  go_wp2
  go_loopw [7, 8] (fun rv iv wr => ∃ i : Nat, iv = .int .i64 i ∧ i ≤ (mem S).length ∧ OwnL W1 wr [.row 3 1 rv (((mem S).take i).filter (quietS x)).length (wV (((mem S).take i).filter (quietS x)))]) (fun _ iv _ => (mem S).length - (intOf iv).toNat)
  case atStart => exact ⟨0, rfl, by omega, by simpa using nil_row W1⟩
  case round =>
    obtain ⟨i, rfl, hi, hO⟩ := hrel
    obtain ⟨W5, hW5⟩ : ∃ W, W = wr := ⟨_, rfl⟩; subst hW5
    have HO := Lib.hid hO
    have hE5 := hO.ext
    have k0 := fun w' (h : Ext W5 w') => k0 w' (hE5.trans h)
    have k1 := fun w' (h : Ext W5 w') => k1 w' (hE5.trans h)
    have k2 := fun w' (h : Ext W5 w') => k2 w' (hE5.trans h)
    have hE := Ext.refl W5
    by_cases hlt : i < (mem S).length
    · obtain ⟨s, hs⟩ : ∃ s, (mem S)[i]? = some s := ⟨_, List.getElem?_eq_getElem hlt⟩
      have hsn : s < x.n := mask_bit HX.out.2.2.1 (mem_bit (List.mem_of_getElem? hs)).2
      have hqs := fun W (e : Ext W5 W) => hqu W (hE5.trans e) s hsn
      obtain ⟨bf, of_, hA, _, hcc⟩ := (HX.out.2.2.2.ext hE5) (by rw [wV_len]; omega)
      subst hA
      have hci := fun w' (h : Ext W5 w') => h.cell (hcc i (.int .i64 (s : Int)) (by unfold wV; rw [List.getElem?_map, hs]; rfl))
      have HF := Lib.hid (show ((mem S).take (i + 1)).filter (quietS x) = ((mem S).take i).filter (quietS x) ++ (if quietS x s then [s] else []) by rw [take_snoc hs, List.filter_append]; cases hh : quietS x s <;> simp [hh])
      clear hcc hs hO hqu
      cases hh : quietS x s with
      | true =>
        have hqs : ∀ W, Ext W5 W → Calls Tryd.prog 45 #[.agg #[.int .i64 x.ins, .int .i64 x.outs, .slice A x.rows.length c], .int .i64 (s : Int)] W fun e w' => e = .returned (.int .i64 1) ∧ Ext W w' := fun W e => by
          have := hqs W e
          rw [hh] at this
          exact this
        rw [hh] at HF
        clear hh
        go_upto_region 6 with fail
        refine wp_region_ext 5 (factsOf []) (fun k => ([[], [], [], [1, 2], [1, 2, 3], [0, 1, 2, 3, 4], [0, 1, 2, 3, 4, 5]] : List (List Nat)).getD k []) (by kernel_rfl) (by kernel_rfl) Ext.pre (mono_nil) ?_
        simp only [List.take_succ_cons, List.take_zero]
        repeat (first | (with_reducible refine lexL_quiet' (v := ?_) ?_ ?_ ?_ ?_; rotate_left; (· with_reducible rfl); (· simp [factsOf]); (· intro w1 hw1 _; go_simp; with_reducible rfl); (try simp only [Act.put, List.setIfInBounds_toArray, List.set_cons_zero, List.set_cons_succ])) | (with_reducible refine lexL_skip ?_ ?_; (· simp [Region.wanted, yielded, undef]); (try simp only [Act.put, List.setIfInBounds_toArray, List.set_cons_zero, List.set_cons_succ])) | (with_reducible refine lexL_quiet (v := ?_) ?_ ?_ ?_ ?_; rotate_left; (· simp [Region.wanted, yielded, undef]); (· simp [factsOf]); (· intro w1 hw1 _; go_simp; with_reducible rfl); (try simp only [Act.put, List.setIfInBounds_toArray, List.set_cons_zero, List.set_cons_succ])))
        with_reducible refine lexL_nil ?_; intro w1 hw1 hk1; simp only [List.drop_succ_cons, List.drop_zero]
        have hqs := hqs w1 hw1
        clear hk1
        go_upto_region 7 with ((with_reducible refine hqs.mono ?_); rintro e wa ⟨rfl, ea⟩)
        have hO6 := HO.out.trans (hw1.trans ea)
        have hci := hci wa (hw1.trans ea)
        have hown : wa.ownsRow W1.heap.size 3 1 u7 (((mem S).take i).filter (quietS x)).length (wV (((mem S).take i).filter (quietS x))) := hO6.get 0 rfl
        have hsz := hO6.ext.size
        have hlf := Nat.le_trans (List.length_filter_le (quietS x) ((mem S).take i)) (List.length_take_le i (mem S))
        have HO6 := Lib.hid hO6
        generalize ((mem S).take i).filter (quietS x) = ri at *
        clear hO6
        go_wp2_with (at_builtin; refine wpList_append_own2 rfl _ _ 30 rfl W1.heap.size 3 i3 (.int .i64 0) 1 8 Tryd.underlying30 hi3 hz3 hs3 hb3 rfl (by decide) u7 ri.length (wV ri) rfl (World.ownsRow.alloc hown _) ⟨wa.heap.size, 0, none⟩ 1 1 [.int .i64 (s : Int)] rfl rfl (new_cell _ _ _ _ rfl) (one_int _) (by unfold maxLen; omega) (by omega) (by simp; omega) ?_; intro v8 w8 hown8 hg8 hb8)
        have hO8 := (HO6.out.trans (alloc_ext wa (.cells #[.int .i64 (s : Int)] 3))).app 0 rfl hg8 hown8 hb8
        go_roundw
        case rel => exact ⟨i + 1, by go_num, hlt, by rw [HF.out]; simpa [wV] using hO8⟩
        case measure => simp [intOf]; omega
      | false =>
        have hqs : ∀ W, Ext W5 W → Calls Tryd.prog 45 #[.agg #[.int .i64 x.ins, .int .i64 x.outs, .slice A x.rows.length c], .int .i64 (s : Int)] W fun e w' => e = .returned (.int .i64 0) ∧ Ext W w' := fun W e => by
          have := hqs W e
          rw [hh] at this
          exact this
        rw [hh] at HF
        clear hh
        go_upto_region 6 with fail
        refine wp_region_ext 5 (factsOf []) (fun k => ([[], [], [], [1, 2], [1, 2, 3], [0, 1, 2, 3, 4], [0, 1, 2, 3, 4, 5]] : List (List Nat)).getD k []) (by kernel_rfl) (by kernel_rfl) Ext.pre (mono_nil) ?_
        simp only [List.take_succ_cons, List.take_zero]
        repeat (first | (with_reducible refine lexL_quiet' (v := ?_) ?_ ?_ ?_ ?_; rotate_left; (· with_reducible rfl); (· simp [factsOf]); (· intro w1 hw1 _; go_simp; with_reducible rfl); (try simp only [Act.put, List.setIfInBounds_toArray, List.set_cons_zero, List.set_cons_succ])) | (with_reducible refine lexL_skip ?_ ?_; (· simp [Region.wanted, yielded, undef]); (try simp only [Act.put, List.setIfInBounds_toArray, List.set_cons_zero, List.set_cons_succ])) | (with_reducible refine lexL_quiet (v := ?_) ?_ ?_ ?_ ?_; rotate_left; (· simp [Region.wanted, yielded, undef]); (· simp [factsOf]); (· intro w1 hw1 _; go_simp; with_reducible rfl); (try simp only [Act.put, List.setIfInBounds_toArray, List.set_cons_zero, List.set_cons_succ])))
        with_reducible refine lexL_nil ?_; intro w1 hw1 hk1; simp only [List.drop_succ_cons, List.drop_zero]
        have hqs := hqs w1 hw1
        clear hk1
        go_wp2_with ((with_reducible refine hqs.mono ?_); rintro e wa ⟨rfl, ea⟩)
        go_roundw
        case rel => exact ⟨i + 1, by go_num, hlt, by rw [HF.out]; simpa using HO.out.trans (hw1.trans ea)⟩
        case measure => simp [intOf]; omega
    · obtain rfl : i = (mem S).length := by omega
      have hrow := hO.get 0 rfl
      rw [List.take_length, ← mem_aftQ x (show S < 2 ^ 64 from HX.out.2.1.mask64 HX.out.2.2.1)] at hrow
      obtain ⟨c9, hfin⟩ := ints_row hrow (by have := mem_len (aftQ x (mem S)); omega)
      have HF := Lib.hid hfin
      have HFR := Lib.hid (far_row hrow)
      clear hfin hrow hO
      go_wp2
      go_ret
      exact ⟨_, c9, rfl, by rw [HQ.out]; exact HF.out, HX.out.1.trans HO.out.ext, fun b o n' k e' => Nat.le_trans HX.out.1.size (HFR.out b o n' k e')⟩
theorem refNextQ_any (w : World) (v fv : Value) (x : Lts) (S cf : Nat) (l : Int) (hd : LtsV w v x) (hg : Good x) (hS : S < 2 ^ x.n) (hf : IntsC w fv (memI S) cf) (hq : l = x.ins + x.outs) :
    Calls Tryd.prog 42 #[v, fv, .int .i64 l] w fun e w' => ∃ rv c, e = .returned rv ∧ IntsC w' rv (memI (aftM x S l)) c ∧ Ext w w' :=
  (refNextQF_any w v fv x S cf l hd hg hS hf hq).mono fun e w' ⟨rv, c, h1, h2, h3, _⟩ => ⟨rv, c, h1, h2, h3⟩
end Go.Proofs.YtamodjlifpjaoaaDoor

namespace Go.Proofs.YtamodjlifpjaoaaDoor
open Go.RowKit
set_option linter.unusedVariables false
set_option linter.unusedSimpArgs false
attribute [local go_sem] Oper.quietV quietV Oper.gives givesV ext_refl_iff ext_alloc_iff ext_drew_iff ext_drewN_iff
set_option maxRecDepth 100000 in
set_option maxHeartbeats 8000000 in
theorem refNextLF_any (w : World) (v fv : Value) (x : Lts) (S cf : Nat) (l : Int) (hd : LtsV w v x) (hg : Good x) (hS : S < 2 ^ x.n) (hf : IntsC w fv (memI S) cf) (hl0 : 0 ≤ l) (hl1 : l < x.ins + x.outs) :
    Calls Tryd.prog 42 #[v, fv, .int .i64 l] w fun e w' => ∃ rv c, e = .returned rv ∧ IntsC w' rv (memI (aftM x S l)) c ∧ Ext w w' ∧ ∀ b o n k, rv = .slice (some ⟨b, o, none⟩) n k → w.heap.size ≤ b := by
  obtain ⟨i3, hi3, hz3, hs3, hb3⟩ := info_parts int_info
  obtain ⟨A, c, rfl, hr, hrl⟩ := id hd.form
  obtain ⟨Af, rfl, hfc, hfn, hfm⟩ := id hf
  have hml : (memI S).length = (mem S).length := by unfold memI; simp
  have hm64 := mem_len S
  rw [hml] at *
  have b1' := hg.ins
  have b2' := hg.outs
  have hwv : (memI S).map (Value.int .i64) = wV (mem S) := by unfold memI wV; rw [List.map_map]; rfl
  rw [hwv] at hfc
  have HQ : Hid (aftM x S l = unionM x (gath x l (mem S))) := Lib.hid (by rw [gath_union hg]; exact if_neg (by omega))
  have hq1 : (l == x.ins + x.outs) = false := by simp; omega
  go_enter Tryd.func42, Tryd.ntmps42
  go_upto_region 1 with fail
  refine wp_named ?_
  intro W1 hW1
  obtain ⟨hE1, k0, k1, k2⟩ := lts_box (x := x) (A := A) (c := c) hW1
  clear hW1
  generalize w.heap.size = b1 at *
  have hE0 := Ext.refl W1
  have HX := Lib.hid (And.intro hE1 (And.intro hg (And.intro hS (And.intro (hfc.ext hE1) (And.intro (hr.ext hE1) (hd.ext hE1))))))
  have HK := Lib.hid k0
  clear hd hg hr hf hS hfc hE1 hwv hml
  go_wp2
  go_loopw [7, 9] (fun rv iv wr => ∃ i : Nat, iv = .int .i64 i ∧ i ≤ (mem S).length ∧ OwnL W1 wr [.row 3 1 rv (gath x l ((mem S).take i)).length (wV (gath x l ((mem S).take i)))]) (fun _ iv _ => (mem S).length - (intOf iv).toNat)
  case atStart => exact ⟨0, rfl, by omega, by simpa [gath] using nil_row W1⟩
  case round =>
    obtain ⟨i, rfl, hi, hO⟩ := hrel
    obtain ⟨W5, hW5⟩ : ∃ W, W = wr := ⟨_, rfl⟩; subst hW5
    have HO := Lib.hid hO
    have hE5 := hO.ext
    have k0 := fun w' (h : Ext W5 w') => k0 w' (hE5.trans h)
    have k1 := fun w' (h : Ext W5 w') => k1 w' (hE5.trans h)
    have k2 := fun w' (h : Ext W5 w') => k2 w' (hE5.trans h)
    have hE := Ext.refl W5
    by_cases hlt : i < (mem S).length
    · obtain ⟨s, hs⟩ : ∃ s, (mem S)[i]? = some s := ⟨_, List.getElem?_eq_getElem hlt⟩
      have hsn : s < x.n := mask_bit HX.out.2.2.1 (mem_bit (List.mem_of_getElem? hs)).2
      have hsn' : s < x.rows.length := hsn
      obtain ⟨bf, of_, hA, _, hcc⟩ := (HX.out.2.2.2.1.ext hE5) (by rw [wV_len]; omega)
      subst hA
      have hci := fun w' (h : Ext W5 w') => h.cell (hcc i (.int .i64 (s : Int)) (by unfold wV; rw [List.getElem?_map, hs]; rfl))
      obtain ⟨br, or_, A', c', rfl, hcr, hu, hl3⟩ := row_at HX.out.2.2.2.2.1 hsn
      have hcr := fun w' (h : Ext W5 w') => h.cell (hE5.cell hcr)
      have HU := Lib.hid (And.intro hu (And.intro hs hE5))
      have HG := Lib.hid (gath_snoc x l hs)
      clear hcc hs hu hO hE5
      go_wp2_with fail
      go_quiet (fail)
      go_wp2
      go_loopw [7, 11] (fun rv kv wr => ∃ k : Nat, kv = .int .i64 k ∧ k ≤ (x.arcs s).length ∧ OwnL W1 wr [.row 3 1 rv (gath x l ((mem S).take i) ++ toL x l ((x.arcs s).take k)).length (wV (gath x l ((mem S).take i) ++ toL x l ((x.arcs s).take k)))]) (fun _ kv _ => (x.arcs s).length - (intOf kv).toNat)
      case atStart =>
        refine ⟨0, rfl, by omega, ?_⟩
        rw [show gath x l ((mem S).take i) ++ toL x l ((x.arcs s).take 0) = gath x l ((mem S).take i) by simp [toL]]
        exact HO.out.trans (by first | exact (Ext.refl _).drew | exact (Ext.refl _).drewN _ | exact drew_ext _)
      case round =>
        obtain ⟨k, rfl, hk, hO2⟩ := hrel
        obtain ⟨W6, hW6⟩ : ∃ W, W = wr := ⟨_, rfl⟩; subst hW6
        have HO6 := Lib.hid hO2
        have hE6 := hO2.ext
        have k0 := fun w' (h : Ext W6 w') => HK.out w' (hE6.trans h)
        by_cases hkl : k < (x.arcs s).length
        · obtain ⟨a, ha⟩ : ∃ a, (x.arcs s)[k]? = some a := ⟨_, List.getElem?_eq_getElem hkl⟩
          obtain ⟨ba, oa, rfl, c0, c1, c2⟩ := arc_at (HU.out.1.ext hE6) ha
          have c0 := fun w' (h : Ext W6 w') => h.cell c0
          have c1 := fun w' (h : Ext W6 w') => h.cell c1
          have c2 := fun w' (h : Ext W6 w') => h.cell c2
          have hto := Lib.hid (HX.out.2.1.arc_at (List.mem_of_getElem? ha)).2
          have HA := Lib.hid ha
          have hE := Ext.refl W6
          clear ha hO2 hE6 hcr hci
          by_cases h1 : a.k = 1
          · have g1 : ((a.k : Int) == 1) = true := by simp [h1]
            have g2 : ((a.k : Int) == 2) = false := by simp [h1]
            by_cases h2 : a.l = l
            · have g3 : (a.l == l) = true := by simp [h2]
              have HH : Hid (hit x l a = true) := Lib.hid (by unfold hit; simp; omega)
              have HS := Lib.hid (show gath x l ((mem S).take i) ++ toL x l ((x.arcs s).take (k + 1)) = (gath x l ((mem S).take i) ++ toL x l ((x.arcs s).take k)) ++ [a.to] by rw [toL_snoc x l HA.out, HH.out, List.append_assoc]; simp)
              have n1 := gath_len HX.out.2.1 l ((mem S).take i)
              have n2 := Nat.le_trans (toL_len x l ((x.arcs s).take k)) (List.length_take_le k _)
              have n3 := arcs_len256 HX.out.2.1 s
              have n4 := List.length_take_le i (mem S)
              have hlen : (gath x l ((mem S).take i) ++ toL x l ((x.arcs s).take k)).length ≤ 20000 := by rw [List.length_append]; omega
              generalize gath x l ((mem S).take i) ++ toL x l ((x.arcs s).take k) = out at *
              clear h1 h2 n1 n2 n3 n4
              simp only [← hto.out.2.2.1] at c2
              go_wp2_with fail
              go_quiet (fail)
              go_upto_region 17 with fail
              refine wp_named ?_
              intro W7 hW7
              have e7 : Ext W6 W7 := by rw [hW7]; first | exact (Ext.refl _).drew | exact (Ext.refl _).drewN _ | exact drew_ext _
              clear hW7
              have c2 := c2 W7 e7
              have hO7 := HO6.out.trans e7
              have hown : W7.ownsRow W1.heap.size 3 1 u7 out.length (wV out) := hO7.get 0 rfl
              have hsz := hO7.ext.size
              have HO7 := Lib.hid hO7
              clear hO7
              go_wp2_with (at_builtin; refine wpList_append_own2 rfl _ _ 30 rfl W1.heap.size 3 i3 (.int .i64 0) 1 8 Tryd.underlying30 hi3 hz3 hs3 hb3 rfl (by decide) u7 out.length (wV out) rfl (World.ownsRow.alloc hown _) ⟨W7.heap.size, 0, none⟩ 1 1 [.int .i64 (a.to : Int)] rfl rfl (new_cell _ _ _ _ rfl) (one_int _) (by unfold maxLen; omega) (by omega) (by simp; omega) ?_; intro v8 w8 hown8 hg8 hb8)
              have hO8 := (HO7.out.trans (alloc_ext W7 (.cells #[.int .i64 (a.to : Int)] 3))).app 0 rfl hg8 hown8 hb8
              go_roundw
              case rel => exact ⟨k + 1, by go_num, hkl, by rw [HS.out]; simpa [wV] using hO8⟩
              case measure => simp [intOf]; omega
            · have g3 : (a.l == l) = false := by simp [h2]
              have HH : Hid (hit x l a = false) := Lib.hid (by unfold hit; simp; omega)
              have HS := Lib.hid (show gath x l ((mem S).take i) ++ toL x l ((x.arcs s).take (k + 1)) = gath x l ((mem S).take i) ++ toL x l ((x.arcs s).take k) by rw [toL_snoc x l HA.out, HH.out]; simp)
              clear h1 h2
              go_wp2_with fail
              go_quiet (fail)
              go_wp2
              go_roundw
              case rel =>
                refine ⟨k + 1, by go_num, hkl, ?_⟩
                rw [HS.out]
                exact HO6.out.trans (by first | exact (Ext.refl _).drew | exact (Ext.refl _).drewN _ | exact drew_ext _)
              case measure => simp [intOf]; omega
          · have g1 : ((a.k : Int) == 1) = false := by simp; omega
            by_cases h2 : a.k = 2
            · have g2 : ((a.k : Int) == 2) = true := by simp [h2]
              by_cases h3 : a.l = l - x.ins
              · have g3 : (a.l == l - x.ins) = true := by simp [h3]
                have HH : Hid (hit x l a = true) := Lib.hid (by unfold hit; simp; omega)
                have HS := Lib.hid (show gath x l ((mem S).take i) ++ toL x l ((x.arcs s).take (k + 1)) = (gath x l ((mem S).take i) ++ toL x l ((x.arcs s).take k)) ++ [a.to] by rw [toL_snoc x l HA.out, HH.out, List.append_assoc]; simp)
                have n1 := gath_len HX.out.2.1 l ((mem S).take i)
                have n2 := Nat.le_trans (toL_len x l ((x.arcs s).take k)) (List.length_take_le k _)
                have n3 := arcs_len256 HX.out.2.1 s
                have n4 := List.length_take_le i (mem S)
                have hlen : (gath x l ((mem S).take i) ++ toL x l ((x.arcs s).take k)).length ≤ 20000 := by rw [List.length_append]; omega
                generalize gath x l ((mem S).take i) ++ toL x l ((x.arcs s).take k) = out at *
                clear h1 h2 n1 n2 n3 n4
                simp only [← hto.out.2.2.1] at c2
                go_wp2_with fail
                go_quiet (fail)
                go_upto_region 17 with fail
                refine wp_named ?_
                intro W7 hW7
                have e7 : Ext W6 W7 := by rw [hW7]; first | exact (Ext.refl _).drew | exact (Ext.refl _).drewN _ | exact drew_ext _
                clear hW7
                have c2 := c2 W7 e7
                have hO7 := HO6.out.trans e7
                have hown : W7.ownsRow W1.heap.size 3 1 u7 out.length (wV out) := hO7.get 0 rfl
                have hsz := hO7.ext.size
                have HO7 := Lib.hid hO7
                clear hO7
                go_wp2_with (at_builtin; refine wpList_append_own2 rfl _ _ 30 rfl W1.heap.size 3 i3 (.int .i64 0) 1 8 Tryd.underlying30 hi3 hz3 hs3 hb3 rfl (by decide) u7 out.length (wV out) rfl (World.ownsRow.alloc hown _) ⟨W7.heap.size, 0, none⟩ 1 1 [.int .i64 (a.to : Int)] rfl rfl (new_cell _ _ _ _ rfl) (one_int _) (by unfold maxLen; omega) (by omega) (by simp; omega) ?_; intro v8 w8 hown8 hg8 hb8)
                have hO8 := (HO7.out.trans (alloc_ext W7 (.cells #[.int .i64 (a.to : Int)] 3))).app 0 rfl hg8 hown8 hb8
                go_roundw
                case rel => exact ⟨k + 1, by go_num, hkl, by rw [HS.out]; simpa [wV] using hO8⟩
                case measure => simp [intOf]; omega
              · have g3 : (a.l == l - x.ins) = false := by simp [h3]
                have HH : Hid (hit x l a = false) := Lib.hid (by unfold hit; simp; omega)
                have HS := Lib.hid (show gath x l ((mem S).take i) ++ toL x l ((x.arcs s).take (k + 1)) = gath x l ((mem S).take i) ++ toL x l ((x.arcs s).take k) by rw [toL_snoc x l HA.out, HH.out]; simp)
                clear h1 h2
                go_wp2_with fail
                go_quiet (fail)
                go_wp2
                go_roundw
                case rel =>
                  refine ⟨k + 1, by go_num, hkl, ?_⟩
                  rw [HS.out]
                  exact HO6.out.trans (by first | exact (Ext.refl _).drew | exact (Ext.refl _).drewN _ | exact drew_ext _)
                case measure => simp [intOf]; omega
            · have g2 : ((a.k : Int) == 2) = false := by simp; omega
              have HH : Hid (hit x l a = false) := Lib.hid (by unfold hit; simp; omega)
              have HS := Lib.hid (show gath x l ((mem S).take i) ++ toL x l ((x.arcs s).take (k + 1)) = gath x l ((mem S).take i) ++ toL x l ((x.arcs s).take k) by rw [toL_snoc x l HA.out, HH.out]; simp)
              clear h1 h2
              go_wp2_with fail
              go_quiet (fail)
              go_wp2
              go_roundw
              case rel =>
                refine ⟨k + 1, by go_num, hkl, ?_⟩
                rw [HS.out]
                exact HO6.out.trans (by first | exact (Ext.refl _).drew | exact (Ext.refl _).drewN _ | exact drew_ext _)
              case measure => simp [intOf]; omega
        · obtain rfl : k = (x.arcs s).length := by omega
          clear hO2
          go_wp2
          go_roundw
          case rel => exact ⟨i + 1, by go_num, hlt, by rw [HG.out]; have := HO6.out; rwa [List.take_length] at this⟩
          case measure => simp [intOf]; omega
    · obtain rfl : i = (mem S).length := by omega
      have hrow := hO.get 0 rfl
      have hgl := gath_len HX.out.2.1 l (mem S)
      rw [List.take_length] at hrow
      obtain ⟨c9, hin⟩ := ints_row hrow (by omega)
      have hso := sortedF_any W5 _ _ x (gath x l (mem S)) c9 (HX.out.2.2.2.2.2.ext hE5) HX.out.2.1 (gath_lt HX.out.2.1 l (mem S)) hin (by omega)
      rw [← HQ.out] at hso
      have HE := Lib.hid hE5
      clear hin hrow hO hE5 hgl
      go_wp2_with ((with_reducible refine hso.mono ?_); rintro e w6 ⟨rv, c8, rfl, hi8, e8, hf8⟩; have H8 := Lib.hid (And.intro hi8 (And.intro e8 hf8)); clear hi8 e8 hf8)
      go_ret
      exact ⟨_, c8, rfl, H8.out.1, HX.out.1.trans (HE.out.trans H8.out.2.1), fun b o n' k e' => Nat.le_trans (HX.out.1.trans HE.out).size (H8.out.2.2 b o n' k e')⟩
theorem refNextL_any (w : World) (v fv : Value) (x : Lts) (S cf : Nat) (l : Int) (hd : LtsV w v x) (hg : Good x) (hS : S < 2 ^ x.n) (hf : IntsC w fv (memI S) cf) (hl0 : 0 ≤ l) (hl1 : l < x.ins + x.outs) :
    Calls Tryd.prog 42 #[v, fv, .int .i64 l] w fun e w' => ∃ rv c, e = .returned rv ∧ IntsC w' rv (memI (aftM x S l)) c ∧ Ext w w' :=
  (refNextLF_any w v fv x S cf l hd hg hS hf hl0 hl1).mono fun e w' ⟨rv, c, h1, h2, h3, _⟩ => ⟨rv, c, h1, h2, h3⟩
end Go.Proofs.YtamodjlifpjaoaaDoor

namespace Go.Proofs.YtamodjlifpjaoaaDoor
open Go.RowKit
set_option linter.unusedVariables false
set_option linter.unusedSimpArgs false
attribute [local go_sem] Oper.quietV quietV Oper.gives givesV ext_refl_iff ext_alloc_iff ext_drew_iff ext_drewN_iff
theorem refNextF_any (w : World) (v fv : Value) (x : Lts) (S cf : Nat) (l : Int) (hd : LtsV w v x) (hg : Good x) (hS : S < 2 ^ x.n) (hf : IntsC w fv (memI S) cf) (hl0 : 0 ≤ l) (hl1 : l ≤ x.ins + x.outs) :
    Calls Tryd.prog 42 #[v, fv, .int .i64 l] w fun e w' => ∃ rv c, e = .returned rv ∧ IntsC w' rv (memI (aftM x S l)) c ∧ Ext w w' ∧ ∀ b o n k, rv = .slice (some ⟨b, o, none⟩) n k → w.heap.size ≤ b := by
  by_cases h : l = x.ins + x.outs
  · exact refNextQF_any w v fv x S cf l hd hg hS hf h
  · exact refNextLF_any w v fv x S cf l hd hg hS hf hl0 (by omega)
theorem refNext_any (w : World) (v fv : Value) (x : Lts) (S cf : Nat) (l : Int) (hd : LtsV w v x) (hg : Good x) (hS : S < 2 ^ x.n) (hf : IntsC w fv (memI S) cf) (hl0 : 0 ≤ l) (hl1 : l ≤ x.ins + x.outs) :
    Calls Tryd.prog 42 #[v, fv, .int .i64 l] w fun e w' => ∃ rv c, e = .returned rv ∧ IntsC w' rv (memI (aftM x S l)) c ∧ Ext w w' :=
  (refNextF_any w v fv x S cf l hd hg hS hf hl0 hl1).mono fun e w' ⟨rv, c, h1, h2, h3, _⟩ => ⟨rv, c, h1, h2, h3⟩
set_option maxRecDepth 100000 in
set_option maxHeartbeats 8000000 in
theorem refAfter_any (w : World) (v tv : Value) (x : Lts) (ts : List Int) (ct : Nat) (hd : LtsV w v x) (hg : Good x) (ht : IntsC w tv ts ct) (hts : ∀ l ∈ ts, 0 ≤ l ∧ l ≤ x.ins + x.outs) :
    Calls Tryd.prog 14 #[v, tv] w fun e w' => ∃ rv c, e = .returned rv ∧ IntsC w' rv (memI (tr x (begM x) ts)) c ∧ Ext w w' := by
  obtain ⟨A, c, rfl, hr, hrl⟩ := id hd.form
  obtain ⟨At, rfl, htc, htn, htm⟩ := id ht
  unfold lenMax at htm
  go_enter Tryd.func14, Tryd.ntmps14
  go_upto_region 1 with fail
  refine wp_named ?_
  intro W1 hW1
  obtain ⟨hE1, k0, k1, k2⟩ := lts_box (x := x) (A := A) (c := c) hW1
  clear hW1
  generalize w.heap.size = b1 at *
  have hE0 := Ext.refl W1
  have HX := Lib.hid (And.intro hE1 (And.intro hg (And.intro hts (And.intro (htc.ext hE1) (hd.ext hE1)))))
  have hbg := refBegin_any W1 _ x (hd.ext hE1) hg
  clear hd hg hr ht htc hts hE1
  go_upto_region 2 with ((with_reducible refine hbg.mono ?_); rintro e wa ⟨rv, c9, rfl, hi9, e9⟩; have H9 := Lib.hid (And.intro hi9 e9); clear hi9 e9)
  clear hbg hE0
  go_wp2
  go_loopw [5, 6] (fun sv iv wr => ∃ i c : Nat, iv = .int .i64 i ∧ i ≤ ts.length ∧ Hid (IntsC wr sv (memI (tr x (begM x) (ts.take i))) c) ∧ Ext W1 wr) (fun _ iv _ => ts.length - (intOf iv).toNat)
  case atStart => exact ⟨0, c9, rfl, by omega, Lib.hid H9.out.1, H9.out.2⟩
  case round =>
    clear H9
    obtain ⟨i, c5, rfl, hi, HI, hE5⟩ := hrel
    obtain ⟨W5, hW5⟩ : ∃ W, W = wr := ⟨_, rfl⟩; subst hW5
    have HE5 := Lib.hid hE5
    have k0 := fun w' (h : Ext W5 w') => k0 w' (hE5.trans h)
    have k1 := fun w' (h : Ext W5 w') => k1 w' (hE5.trans h)
    have k2 := fun w' (h : Ext W5 w') => k2 w' (hE5.trans h)
    have hE := Ext.refl W5
    by_cases hlt : i < ts.length
    · obtain ⟨l, hl⟩ : ∃ l, ts[i]? = some l := ⟨_, List.getElem?_eq_getElem hlt⟩
      have hlb := HX.out.2.2.1 l (List.mem_of_getElem? hl)
      obtain ⟨bt, ot, hA, _, hci⟩ := (HX.out.2.2.2.1.ext hE5).at_int hlt
      subst hA
      rw [(List.getElem?_eq_some_iff.1 hl).2] at hci
      have hci := fun w' (h : Ext W5 w') => h.cell hci
      have HT := Lib.hid (show tr x (begM x) (ts.take (i + 1)) = aftM x (tr x (begM x) (ts.take i)) l by rw [take_snoc hl, tr_snoc])
      have hSl := tr_lt HX.out.2.1 (ts.take i) (begM_lt HX.out.2.1)
      have hnx := fun W (e : Ext W5 W) => refNext_any W _ u5 x _ c5 l (HX.out.2.2.2.2.ext (hE5.trans e)) HX.out.2.1 hSl (HI.out.ext e) hlb.1 hlb.2
      generalize tr x (begM x) (ts.take i) = S at *
      clear hl hE5 hlb hSl
      go_upto_region 5 with fail
      refine wp_region_ext 6 (factsOf []) (fun k => ([[], [], [], [], [2, 3], [2, 3, 4], [0, 1, 2, 3, 4, 5], [0, 1, 2, 3, 4, 5, 6]] : List (List Nat)).getD k []) (by kernel_rfl) (by kernel_rfl) Ext.pre (mono_nil) ?_
      simp only [List.take_succ_cons, List.take_zero]
      repeat (first | (with_reducible refine lexL_quiet' (v := ?_) ?_ ?_ ?_ ?_; rotate_left; (· with_reducible rfl); (· simp [factsOf]); (· intro w1 hw1 _; go_simp; with_reducible rfl); (try simp only [Act.put, List.setIfInBounds_toArray, List.set_cons_zero, List.set_cons_succ])) | (with_reducible refine lexL_skip ?_ ?_; (· simp [Region.wanted, yielded, undef]); (try simp only [Act.put, List.setIfInBounds_toArray, List.set_cons_zero, List.set_cons_succ])) | (with_reducible refine lexL_quiet (v := ?_) ?_ ?_ ?_ ?_; rotate_left; (· simp [Region.wanted, yielded, undef]); (· simp [factsOf]); (· intro w1 hw1 _; go_simp; with_reducible rfl); (try simp only [Act.put, List.setIfInBounds_toArray, List.set_cons_zero, List.set_cons_succ])))
      with_reducible refine lexL_nil ?_; intro w1 hw1 hk1; simp only [List.drop_succ_cons, List.drop_zero]
      have hnx := hnx w1 hw1
      have HW := Lib.hid hw1
      clear hk1 hw1
      go_wp2_with ((with_reducible refine hnx.mono ?_); rintro e wa ⟨rv, c9, rfl, hi9, e9⟩; have H9 := Lib.hid (And.intro hi9 e9); clear hi9 e9)
      go_roundw
      case rel => exact ⟨i + 1, c9, by go_num, hlt, Lib.hid (by rw [HT.out]; exact H9.out.1), HE5.out.trans (HW.out.trans H9.out.2)⟩
      case measure => simp [intOf]; omega
    · obtain rfl : i = ts.length := by omega
      rw [List.take_length] at HI
      clear hE5
      go_wp2
      go_ret
      exact ⟨_, c5, rfl, HI.out, HX.out.1.trans HE5.out⟩
end Go.Proofs.YtamodjlifpjaoaaDoor

namespace Go.Proofs.YtamodjlifpjaoaaDoor
open Go.RowKit
set_option linter.unusedVariables false
set_option linter.unusedSimpArgs false
def obA (x : Lts) (l : Int) (a : Arc) : Bool := a.k == 2 && x.ins + a.l == l
def obK (x : Lts) (l : Int) (r : List Arc) : Bool := r.any (obA x l)
def obS (x : Lts) (l : Int) (s : Nat) : Bool := obK x l (x.arcs s) || (l == x.ins + x.outs && quietS x s)
def obL (x : Lts) (l : Int) (L : List Nat) : Bool := L.any (obS x l)
theorem obL_eq {x : Lts} (hg : Good x) {S : Nat} {l : Int} (h0 : x.ins ≤ l) (h1 : l ≤ x.ins + x.outs) : obL x l (mem S) = (aftM x S l != 0) := by
  rw [Bool.eq_iff_iff]
  have hne : (aftM x S l != 0) = true ↔ ∃ t, (aftM x S l).testBit t = true := by
    rw [bne_iff_ne]
    exact ⟨fun h => mask_some h, fun ⟨t, ht⟩ e => by rw [e, Nat.zero_testBit] at ht; cases ht⟩
  rw [hne]
  unfold obL aftM
  rw [List.any_eq_true]
  by_cases hq : l = x.ins + x.outs
  · rw [if_pos hq]
    constructor
    · rintro ⟨s, hs, h⟩
      unfold obS at h
      rw [Bool.or_eq_true, Bool.and_eq_true] at h
      rcases h with h | h
      · obtain ⟨a, ha, h2⟩ := List.any_eq_true.1 h
        have h3 := hg.arc_at ha
        unfold obA at h2
        simp only [Bool.and_eq_true, beq_iff_eq] at h2
        have h4 := h3.2.2.1
        rw [h2.1] at h4
        unfold labN at h4
        simp at h4
        omega
      · exact ⟨s, (aftQ_bit x (mem S) s).2 ⟨hs, h.2⟩⟩
    · rintro ⟨t, ht⟩
      obtain ⟨hs, h⟩ := (aftQ_bit x (mem S) t).1 ht
      exact ⟨t, hs, by unfold obS; rw [h]; simp [hq]⟩
  · rw [if_neg hq]
    constructor
    · rintro ⟨s, hs, h⟩
      unfold obS at h
      rw [show (l == x.ins + x.outs) = false by simp [hq], Bool.false_and, Bool.or_false] at h
      obtain ⟨a, ha, h2⟩ := List.any_eq_true.1 h
      unfold obA at h2
      exact ⟨a.to, (aftL_bit x l (mem S) a.to).2 ⟨s, hs, a, ha, by unfold hit; rw [h2, Bool.or_true], sil_self hg a.to⟩⟩
    · rintro ⟨t, ht⟩
      obtain ⟨s, hs, a, ha, hh, _⟩ := (aftL_bit x l (mem S) t).1 ht
      refine ⟨s, hs, ?_⟩
      unfold obS
      rw [Bool.or_eq_true]
      left
      refine List.any_eq_true.2 ⟨a, ha, ?_⟩
      unfold hit at hh
      rw [Bool.or_eq_true] at hh
      rcases hh with h | h
      · have h3 := (hg.arc_at ha).2.2.1
        simp only [Bool.and_eq_true, beq_iff_eq] at h
        rw [h.1] at h3
        unfold labN at h3
        simp at h3
        omega
      · exact h
end Go.Proofs.YtamodjlifpjaoaaDoor
