
import Derived.Test.YtmebgomnmlbgnaaDoorZC
set_option linter.unnecessarySimpa false
set_option linter.unusedSectionVars false
namespace Go.Proofs.YtmebgomnmlbgnaaDoor
open Go.RowKit Go.Maps
set_option linter.unusedVariables false
set_option linter.unusedSimpArgs false
attribute [local go_sem] Oper.quietV quietV Oper.gives givesV ext_refl_iff ext_alloc_iff ext_drew_iff ext_drewN_iff
attribute [local go_sem] RI.Oper.gives RI.givesV
def parB (p : Bool) (s : ByteArray) : ByteArray := if p then (⟨#[40]⟩ ++ s) ++ ⟨#[41]⟩ else s
def letB (a : Nat) : ByteArray := Utf8.encode (97 + (a : Int))
def wrB : Rx → Int → ByteArray
  | .none, m => parB (decide (6 < m)) ⟨#[48]⟩
  | .empty, m => parB (decide (6 < m)) ⟨#[49]⟩
  | .sym a, m => parB (decide (6 < m)) (letB a)
  | .or x y, m => parB (decide (1 < m)) (wrB x 1 ++ ⟨#[124]⟩ ++ wrB y 2)
  | .seq x y, m => parB (decide (3 < m)) (wrB x 3 ++ ⟨#[]⟩ ++ wrB y 4)
  | .and x y, m => parB (decide (2 < m)) (wrB x 2 ++ ⟨#[38]⟩ ++ wrB y 3)
  | .star x, m => parB (decide (5 < m)) (wrB x 5 ++ ⟨#[42]⟩)
  | .not x, m => parB (decide (4 < m)) (⟨#[126]⟩ ++ wrB x 4)
theorem parB_size (p : Bool) (s : ByteArray) : (parB p s).size ≤ s.size + 2 := by
  unfold parB
  split
  · simp only [ByteArray.size_append]
    show 1 + s.size + 1 ≤ _
    omega
  · omega
theorem letB_size : ∀ a : Nat, a < 16 → (letB a).size = 1 := by
  intro a h
  match a, h with
  | 0, _ => rfl | 1, _ => rfl | 2, _ => rfl | 3, _ => rfl | 4, _ => rfl | 5, _ => rfl | 6, _ => rfl | 7, _ => rfl
  | 8, _ => rfl | 9, _ => rfl | 10, _ => rfl | 11, _ => rfl | 12, _ => rfl | 13, _ => rfl | 14, _ => rfl | 15, _ => rfl
  | n + 16, h => exact absurd h (by omega)
theorem wrB_size : ∀ (r : Rx) (m : Int), r.okS 16 = true → (wrB r m).size ≤ 3 * r.cnt
  | .none, m, _ => parB_size _ _
  | .empty, m, _ => parB_size _ _
  | .sym a, m, h => by
    have := parB_size (decide (6 < m)) (letB a)
    rw [letB_size a (by simpa [Rx.okS] using h)] at this
    exact this
  | .or x y, m, h => by
    simp only [Rx.okS, Bool.and_eq_true] at h
    have h1 := wrB_size x 1 h.1
    have h2 := wrB_size y 2 h.2
    have := parB_size (decide (1 < m)) (wrB x 1 ++ ⟨#[124]⟩ ++ wrB y 2)
    simp only [ByteArray.size_append] at this
    have e : (ByteArray.mk #[124]).size = 1 := rfl
    unfold wrB Rx.cnt
    omega
  | .seq x y, m, h => by
    simp only [Rx.okS, Bool.and_eq_true] at h
    have h1 := wrB_size x 3 h.1
    have h2 := wrB_size y 4 h.2
    have := parB_size (decide (3 < m)) (wrB x 3 ++ ⟨#[]⟩ ++ wrB y 4)
    simp only [ByteArray.size_append] at this
    have e : (ByteArray.mk #[]).size = 0 := rfl
    unfold wrB Rx.cnt
    omega
  | .and x y, m, h => by
    simp only [Rx.okS, Bool.and_eq_true] at h
    have h1 := wrB_size x 2 h.1
    have h2 := wrB_size y 3 h.2
    have := parB_size (decide (2 < m)) (wrB x 2 ++ ⟨#[38]⟩ ++ wrB y 3)
    simp only [ByteArray.size_append] at this
    have e : (ByteArray.mk #[38]).size = 1 := rfl
    unfold wrB Rx.cnt
    omega
  | .star x, m, h => by
    simp only [Rx.okS] at h
    have h1 := wrB_size x 5 h
    have := parB_size (decide (5 < m)) (wrB x 5 ++ ⟨#[42]⟩)
    simp only [ByteArray.size_append] at this
    have e : (ByteArray.mk #[42]).size = 1 := rfl
    unfold wrB Rx.cnt
    omega
  | .not x, m, h => by
    simp only [Rx.okS] at h
    have h1 := wrB_size x 4 h
    have := parB_size (decide (4 < m)) (⟨#[126]⟩ ++ wrB x 4)
    simp only [ByteArray.size_append] at this
    have e : (ByteArray.mk #[126]).size = 1 := rfl
    unfold wrB Rx.cnt
    omega
def StrP (w : World) (s : ByteArray) (e : Ending) (w' : World) : Prop := e = .returned (.string s) ∧ Ext w w'
def WrS (r : Rx) : Prop := ∀ (w : World) (v : Value) (m : Int), NodeV w r.tr v → Tabs w → r.okS 16 = true → r.cnt ≤ 1000 → Calls Tryd.prog 62 #[v, .int .i64 m] w (StrP w (wrB r m))
set_option maxRecDepth 100000 in
set_option maxHeartbeats 4000000 in
theorem wr_none : WrS .none := by
  intro w v m hN hT ho hcn
  obtain ⟨A, c, rfl⟩ := leaf_form hN
  obtain ⟨r, hr⟩ : ∃ r, r = wrB .none m := ⟨_, rfl⟩
  rw [← hr]
  have HR0 : Hid (r = parB (decide (6 < m)) ((⟨#[48]⟩ : ByteArray))) := Lib.hid hr
  obtain ⟨s0, hs0⟩ : ∃ s : ByteArray, s = ((⟨#[48]⟩ : ByteArray)) := ⟨_, rfl⟩
  rw [← hs0] at HR0
  have HS0 := Lib.hid hs0
  have hsz0 : s0.size ≤ 4000 := by rw [hs0]; first | decide | (rw [letB_size a ha]; decide)
  clear hN hr hs0
  go_enter Tryd.func62, Tryd.ntmps62
  go_upto_region 1 with fail
  refine wp_named ?_
  intro W1 hW1
  have hE1 : Ext w W1 := by rw [hW1]; first | exact alloc_ext _ _ | exact (Ext.refl _).alloc _ | exact ((Ext.refl _).alloc _).drew
  have k0 : ∀ w', Ext W1 w' → w'.cell? ⟨w.heap.size, 0, none⟩ = some (.int .u8 0) := fun w' h => h.cell (by rw [hW1]; simp [go_sem])
  have c0 : ∀ w', Ext W1 w' → w'.cell? ⟨0, 0, none⟩ = some (.int .i64 6) := fun w' h => by have := (hE1.trans h).cell (hT 0 (by decide)).1; simpa [rankT] using this
  have k1 : ∀ w', Ext W1 w' → w'.cell? ⟨w.heap.size, 1, none⟩ = some (.int .i64 0) := fun w' h => h.cell (by rw [hW1]; simp [go_sem])
  clear hW1 hT ho
  generalize w.heap.size = b2 at *
  have hR1 := Ext.refl W1
  have HE1 := Lib.hid hE1
  go_quiet (fail)
  go_upto_region 14 with fail
  have hs0 : (⟨#[48]⟩ : ByteArray) = s0 := HS0.out.symm
  rw [hs0]
  clear hs0
  by_cases hp : (6 : Int) < m
  · have HR : Hid (r = parB true s0) := Lib.hid (by rw [HR0.out, decide_eq_true hp])
    go_wp2
    go_ret
    exact ⟨by rw [HR.out]; rfl, HE1.out.trans ((Ext.refl _).drewN _)⟩
  · have HR : Hid (r = parB false s0) := Lib.hid (by rw [HR0.out, decide_eq_false hp])
    go_wp2
    go_ret
    exact ⟨by rw [HR.out]; rfl, HE1.out.trans ((Ext.refl _).drewN _)⟩
set_option maxRecDepth 100000 in
set_option maxHeartbeats 4000000 in
theorem wr_empty : WrS .empty := by
  intro w v m hN hT ho hcn
  obtain ⟨A, c, rfl⟩ := leaf_form hN
  obtain ⟨r, hr⟩ : ∃ r, r = wrB .empty m := ⟨_, rfl⟩
  rw [← hr]
  have HR0 : Hid (r = parB (decide (6 < m)) ((⟨#[49]⟩ : ByteArray))) := Lib.hid hr
  obtain ⟨s0, hs0⟩ : ∃ s : ByteArray, s = ((⟨#[49]⟩ : ByteArray)) := ⟨_, rfl⟩
  rw [← hs0] at HR0
  have HS0 := Lib.hid hs0
  have hsz0 : s0.size ≤ 4000 := by rw [hs0]; first | decide | (rw [letB_size a ha]; decide)
  clear hN hr hs0
  go_enter Tryd.func62, Tryd.ntmps62
  go_upto_region 1 with fail
  refine wp_named ?_
  intro W1 hW1
  have hE1 : Ext w W1 := by rw [hW1]; first | exact alloc_ext _ _ | exact (Ext.refl _).alloc _ | exact ((Ext.refl _).alloc _).drew
  have k0 : ∀ w', Ext W1 w' → w'.cell? ⟨w.heap.size, 0, none⟩ = some (.int .u8 1) := fun w' h => h.cell (by rw [hW1]; simp [go_sem])
  have c0 : ∀ w', Ext W1 w' → w'.cell? ⟨0, 1, none⟩ = some (.int .i64 6) := fun w' h => by have := (hE1.trans h).cell (hT 1 (by decide)).1; simpa [rankT] using this
  have k1 : ∀ w', Ext W1 w' → w'.cell? ⟨w.heap.size, 1, none⟩ = some (.int .i64 0) := fun w' h => h.cell (by rw [hW1]; simp [go_sem])
  clear hW1 hT ho
  generalize w.heap.size = b2 at *
  have hR1 := Ext.refl W1
  have HE1 := Lib.hid hE1
  go_quiet (fail)
  go_upto_region 14 with fail
  have hs0 : (⟨#[49]⟩ : ByteArray) = s0 := HS0.out.symm
  rw [hs0]
  clear hs0
  by_cases hp : (6 : Int) < m
  · have HR : Hid (r = parB true s0) := Lib.hid (by rw [HR0.out, decide_eq_true hp])
    go_wp2
    go_ret
    exact ⟨by rw [HR.out]; rfl, HE1.out.trans ((Ext.refl _).drewN _)⟩
  · have HR : Hid (r = parB false s0) := Lib.hid (by rw [HR0.out, decide_eq_false hp])
    go_wp2
    go_ret
    exact ⟨by rw [HR.out]; rfl, HE1.out.trans ((Ext.refl _).drewN _)⟩
set_option maxRecDepth 100000 in
set_option maxHeartbeats 4000000 in
theorem wr_sym (a : Nat) : WrS (.sym a) := by
  intro w v m hN hT ho hcn
  obtain ⟨A, c, rfl⟩ := leaf_form hN
  have ha : a < 16 := by simpa [Rx.okS] using ho
  obtain ⟨r, hr⟩ : ∃ r, r = wrB (.sym a) m := ⟨_, rfl⟩
  rw [← hr]
  have HR0 : Hid (r = parB (decide (6 < m)) (letB a)) := Lib.hid hr
  obtain ⟨s0, hs0⟩ : ∃ s : ByteArray, s = (letB a) := ⟨_, rfl⟩
  rw [← hs0] at HR0
  have HS0 := Lib.hid hs0
  have hsz0 : s0.size ≤ 4000 := by rw [hs0]; first | decide | (rw [letB_size a ha]; decide)
  clear hN hr hs0
  go_enter Tryd.func62, Tryd.ntmps62
  go_upto_region 1 with fail
  refine wp_named ?_
  intro W1 hW1
  have hE1 : Ext w W1 := by rw [hW1]; first | exact alloc_ext _ _ | exact (Ext.refl _).alloc _ | exact ((Ext.refl _).alloc _).drew
  have k0 : ∀ w', Ext W1 w' → w'.cell? ⟨w.heap.size, 0, none⟩ = some (.int .u8 2) := fun w' h => h.cell (by rw [hW1]; simp [go_sem])
  have c0 : ∀ w', Ext W1 w' → w'.cell? ⟨0, 2, none⟩ = some (.int .i64 6) := fun w' h => by have := (hE1.trans h).cell (hT 2 (by decide)).1; simpa [rankT] using this
  have k1 : ∀ w', Ext W1 w' → w'.cell? ⟨w.heap.size, 1, none⟩ = some (.int .i64 (a : Int)) := fun w' h => h.cell (by rw [hW1]; simp [go_sem])
  clear hW1 hT ho
  generalize w.heap.size = b2 at *
  have hR1 := Ext.refl W1
  have HE1 := Lib.hid hE1
  go_quiet (fail)
  go_upto_region 14 with fail
  have hs0 : Utf8.encode (97 + (a : Int)) = s0 := HS0.out.symm
  rw [hs0]
  clear hs0
  by_cases hp : (6 : Int) < m
  · have HR : Hid (r = parB true s0) := Lib.hid (by rw [HR0.out, decide_eq_true hp])
    go_wp2
    go_ret
    exact ⟨by rw [HR.out]; rfl, HE1.out.trans ((Ext.refl _).drewN _)⟩
  · have HR : Hid (r = parB false s0) := Lib.hid (by rw [HR0.out, decide_eq_false hp])
    go_wp2
    go_ret
    exact ⟨by rw [HR.out]; rfl, HE1.out.trans ((Ext.refl _).drewN _)⟩
set_option maxRecDepth 100000 in
set_option maxHeartbeats 4000000 in
theorem wr_star (x : Rx) (hx : WrS x) : WrS (.star x) := by
  intro w v m hN hT ho hcn
  obtain ⟨b, o, c, A1, c1, rfl, d0, d1, d2, hn1, hc⟩ := one_form hN
  clear hN
  have h1 := fun w1 (hE : Ext w w1) => hx w1 _ 5 (hn1.ext hE) (hT.ext hE) (by simpa [Rx.okS] using ho) (by simp only [Rx.cnt] at hcn; omega)
  obtain ⟨r, hr⟩ : ∃ r, r = wrB (.star x) m := ⟨_, rfl⟩
  rw [← hr]
  obtain ⟨sx, hsx⟩ : ∃ s, s = wrB x 5 := ⟨_, rfl⟩
  have HR0 : Hid (r = parB (decide (5 < m)) (sx ++ (⟨#[42]⟩ : ByteArray))) := Lib.hid (by rw [hr, hsx]; rfl)
  rw [← hsx] at h1
  obtain ⟨s0, hs0⟩ : ∃ s : ByteArray, s = (sx ++ (⟨#[42]⟩ : ByteArray)) := ⟨_, rfl⟩
  rw [← hs0] at HR0
  have HS0 := Lib.hid hs0
  have hszx : sx.size ≤ 3000 := by
    rw [hsx]
    refine Nat.le_trans (wrB_size x _ (by simpa [Rx.okS] using ho)) ?_
    simp only [Rx.cnt] at hcn
    omega
  have hsz0 : s0.size ≤ 4000 := by
    rw [hs0]
    simp only [ByteArray.size_append]
    first
    | (show sx.size + 1 ≤ _; omega)
    | (show 1 + sx.size ≤ _; omega)
  generalize x.tr.op = ox at *
  generalize x.tr.n = nx at *
  generalize x.tr.subs.length = lx at *
  clear hn1 hx hr hs0 hsx hcn
  go_enter Tryd.func62, Tryd.ntmps62
  go_upto_region 1 with fail
  refine wp_named ?_
  intro W1 hW1
  have hE1 : Ext w W1 := by rw [hW1]; first | exact alloc_ext _ _ | exact (Ext.refl _).alloc _ | exact ((Ext.refl _).alloc _).drew
  have k0 : ∀ w', Ext W1 w' → w'.cell? ⟨w.heap.size, 0, none⟩ = some (.int .u8 6) := fun w' h => h.cell (by rw [hW1]; simp [go_sem])
  have c0 : ∀ w', Ext W1 w' → w'.cell? ⟨0, 6, none⟩ = some (.int .i64 5) := fun w' h => by have := (hE1.trans h).cell (hT 6 (by decide)).1; simpa [rankT] using this
  have k2 : ∀ w', Ext W1 w' → w'.cell? ⟨w.heap.size, 2, none⟩ = some (.slice (some ⟨b, o, none⟩) 1 c) := fun w' h => h.cell (by rw [hW1]; simp [go_sem])
  clear hW1 ho hT
  have d0 := fun w1 (h : Ext W1 w1) => (hE1.trans h).cell d0
  have d1 := fun w1 (h : Ext W1 w1) => (hE1.trans h).cell d1
  have d2 := fun w1 (h : Ext W1 w1) => (hE1.trans h).cell d2
  generalize w.heap.size = b2 at *
  have hR1 := Ext.refl W1
  have HE1 := Lib.hid hE1
  have HH1 := Lib.hid h1
  clear h1
  unfold StrP at HH1
  go_quiet (fail)
  go_upto_region 14 with ((with_reducible refine (HH1.out _ (HE1.out.trans ((Ext.refl _).drewN _))).mono ?_); rintro e W5 ⟨rfl, e5⟩)
  have hs0 : (sx ++ (⟨#[42]⟩ : ByteArray)) = s0 := HS0.out.symm
  rw [hs0]
  clear hs0
  by_cases hp : (5 : Int) < m
  · have HR : Hid (r = parB true s0) := Lib.hid (by rw [HR0.out, decide_eq_true hp])
    go_wp2
    go_ret
    exact ⟨by rw [HR.out]; rfl, (HE1.out.trans ((Ext.refl _).drewN _)).trans e5⟩
  · have HR : Hid (r = parB false s0) := Lib.hid (by rw [HR0.out, decide_eq_false hp])
    go_wp2
    go_ret
    exact ⟨by rw [HR.out]; rfl, (HE1.out.trans ((Ext.refl _).drewN _)).trans e5⟩
set_option maxRecDepth 100000 in
set_option maxHeartbeats 4000000 in
theorem wr_not (x : Rx) (hx : WrS x) : WrS (.not x) := by
  intro w v m hN hT ho hcn
  obtain ⟨b, o, c, A1, c1, rfl, d0, d1, d2, hn1, hc⟩ := one_form hN
  clear hN
  have h1 := fun w1 (hE : Ext w w1) => hx w1 _ 4 (hn1.ext hE) (hT.ext hE) (by simpa [Rx.okS] using ho) (by simp only [Rx.cnt] at hcn; omega)
  obtain ⟨r, hr⟩ : ∃ r, r = wrB (.not x) m := ⟨_, rfl⟩
  rw [← hr]
  obtain ⟨sx, hsx⟩ : ∃ s, s = wrB x 4 := ⟨_, rfl⟩
  have HR0 : Hid (r = parB (decide (4 < m)) ((⟨#[126]⟩ : ByteArray) ++ sx)) := Lib.hid (by rw [hr, hsx]; rfl)
  rw [← hsx] at h1
  obtain ⟨s0, hs0⟩ : ∃ s : ByteArray, s = ((⟨#[126]⟩ : ByteArray) ++ sx) := ⟨_, rfl⟩
  rw [← hs0] at HR0
  have HS0 := Lib.hid hs0
  have hszx : sx.size ≤ 3000 := by
    rw [hsx]
    refine Nat.le_trans (wrB_size x _ (by simpa [Rx.okS] using ho)) ?_
    simp only [Rx.cnt] at hcn
    omega
  have hsz0 : s0.size ≤ 4000 := by
    rw [hs0]
    simp only [ByteArray.size_append]
    first
    | (show sx.size + 1 ≤ _; omega)
    | (show 1 + sx.size ≤ _; omega)
  generalize x.tr.op = ox at *
  generalize x.tr.n = nx at *
  generalize x.tr.subs.length = lx at *
  clear hn1 hx hr hs0 hsx hcn
  go_enter Tryd.func62, Tryd.ntmps62
  go_upto_region 1 with fail
  refine wp_named ?_
  intro W1 hW1
  have hE1 : Ext w W1 := by rw [hW1]; first | exact alloc_ext _ _ | exact (Ext.refl _).alloc _ | exact ((Ext.refl _).alloc _).drew
  have k0 : ∀ w', Ext W1 w' → w'.cell? ⟨w.heap.size, 0, none⟩ = some (.int .u8 7) := fun w' h => h.cell (by rw [hW1]; simp [go_sem])
  have c0 : ∀ w', Ext W1 w' → w'.cell? ⟨0, 7, none⟩ = some (.int .i64 4) := fun w' h => by have := (hE1.trans h).cell (hT 7 (by decide)).1; simpa [rankT] using this
  have k2 : ∀ w', Ext W1 w' → w'.cell? ⟨w.heap.size, 2, none⟩ = some (.slice (some ⟨b, o, none⟩) 1 c) := fun w' h => h.cell (by rw [hW1]; simp [go_sem])
  clear hW1 ho hT
  have d0 := fun w1 (h : Ext W1 w1) => (hE1.trans h).cell d0
  have d1 := fun w1 (h : Ext W1 w1) => (hE1.trans h).cell d1
  have d2 := fun w1 (h : Ext W1 w1) => (hE1.trans h).cell d2
  generalize w.heap.size = b2 at *
  have hR1 := Ext.refl W1
  have HE1 := Lib.hid hE1
  have HH1 := Lib.hid h1
  clear h1
  unfold StrP at HH1
  go_quiet (fail)
  go_upto_region 14 with ((with_reducible refine (HH1.out _ (HE1.out.trans ((Ext.refl _).drewN _))).mono ?_); rintro e W5 ⟨rfl, e5⟩)
  have hs0 : ((⟨#[126]⟩ : ByteArray) ++ sx) = s0 := HS0.out.symm
  rw [hs0]
  clear hs0
  by_cases hp : (4 : Int) < m
  · have HR : Hid (r = parB true s0) := Lib.hid (by rw [HR0.out, decide_eq_true hp])
    go_wp2
    go_ret
    exact ⟨by rw [HR.out]; rfl, (HE1.out.trans ((Ext.refl _).drewN _)).trans e5⟩
  · have HR : Hid (r = parB false s0) := Lib.hid (by rw [HR0.out, decide_eq_false hp])
    go_wp2
    go_ret
    exact ⟨by rw [HR.out]; rfl, (HE1.out.trans ((Ext.refl _).drewN _)).trans e5⟩
def kkW (j : Nat) : Nat := if j = 7 then 3 else if j = 8 then 5 else 4
def ssW (j : Nat) : ByteArray := if j = 7 then ⟨#[124]⟩ else if j = 8 then ⟨#[38]⟩ else ⟨#[]⟩
abbrev encU (x : Nat) : Value := .int .u8 (x : Int)
structure WrI (W1 : World) (s1 s2 : ByteArray) (G : Vals) (w : World) : Prop where
  ext : Ext W1 w
  c5 : ∀ v, G 5 = some v → v = .string s1
  c21 : ∀ v, G 21 = some v → v = .string s2
  z : G 6 = none → ∀ j, j = 7 ∨ j = 8 ∨ j = 9 → G j = none
  m6 : ∀ m, G 6 = some m → ∃ b es, m = .map (some b) ∧ W1.heap.size ≤ b ∧ MapG w b encU (fun x => x < 256) es ∧ ∀ j, j = 7 ∨ j = 8 ∨ j = 9 → getG es (kkW j) = (G j).map (fun _ => .string (ssW j))
theorem WrI.call {W1 w w' : World} {s1 s2 : ByteArray} {G : Vals} (h : WrI W1 s1 s2 G w) (k : Nat) (v : Value) (hk : (k = 5 ∧ v = .string s1) ∨ (k = 21 ∧ v = .string s2)) (e : Ext w w') : WrI W1 s1 s2 (G.put k v) w' where
  ext := h.ext.trans e
  c5 := fun u hu => by
    rcases hk with ⟨rfl, rfl⟩ | ⟨rfl, rfl⟩
    · simp [Vals.put] at hu; exact hu.symm
    · exact h.c5 u (by simpa [Vals.put] using hu)
  c21 := fun u hu => by
    rcases hk with ⟨rfl, rfl⟩ | ⟨rfl, rfl⟩
    · exact h.c21 u (by simpa [Vals.put] using hu)
    · simp [Vals.put] at hu; exact hu.symm
  z := fun h6 j hj => by
    have := h.z (by rcases hk with ⟨rfl, _⟩ | ⟨rfl, _⟩ <;> simpa [Vals.put] using h6) j hj
    rcases hk with ⟨rfl, _⟩ | ⟨rfl, _⟩ <;> rcases hj with rfl | rfl | rfl <;> simpa [Vals.put] using this
  m6 := fun m hm => by
    obtain ⟨b, es, h1, h2, h3, h4⟩ := h.m6 m (by rcases hk with ⟨rfl, _⟩ | ⟨rfl, _⟩ <;> simpa [Vals.put] using hm)
    refine ⟨b, es, h1, h2, h3.ext e, fun j hj => ?_⟩
    have := h4 j hj
    rcases hk with ⟨rfl, _⟩ | ⟨rfl, _⟩ <;> rcases hj with rfl | rfl | rfl <;> simpa [Vals.put] using this
theorem WrI.make {W1 w : World} {s1 s2 : ByteArray} {G : Vals} (h : WrI W1 s1 s2 G w) (hg : G 6 = none) : WrI W1 s1 s2 (G.put 6 (.map (some w.heap.size))) (w.alloc (.map #[] 0)) where
  ext := h.ext.trans (alloc_ext _ _)
  c5 := fun u hu => h.c5 u (by simpa [Vals.put] using hu)
  c21 := fun u hu => h.c21 u (by simpa [Vals.put] using hu)
  z := fun h6 => by simp [Vals.put] at h6
  m6 := fun m hm => by
    simp [Vals.put] at hm
    refine ⟨w.heap.size, [], hm.symm, h.ext.size, MapG.made w _ _, fun j hj => ?_⟩
    have := h.z hg j hj
    rcases hj with rfl | rfl | rfl <;> simp [Vals.put, this, getG]
theorem WrI.ins {W1 w w' : World} {s1 s2 : ByteArray} {G : Vals} (h : WrI W1 s1 s2 G w) {b : Nat} {es : List (Nat × Value)} (j : Nat) (hj : j = 7 ∨ j = 8 ∨ j = 9) (h6 : G 6 = some (.map (some b))) (hb : W1.heap.size ≤ b) (hes : ∀ i, i = 7 ∨ i = 8 ∨ i = 9 → getG es (kkW i) = (G i).map (fun _ => .string (ssW i)))
    (hm : MapG w' b encU (fun x => x < 256) (es ++ [(kkW j, .string (ssW j))])) (hg : w.grownBy w' (some b)) : WrI W1 s1 s2 (G.put j undef) w' where
  ext := Below.grown h.ext hg h.ext.size (fun k hk => by cases hk; exact hb)
  c5 := fun u hu => h.c5 u (by rcases hj with rfl | rfl | rfl <;> simpa [Vals.put] using hu)
  c21 := fun u hu => h.c21 u (by rcases hj with rfl | rfl | rfl <;> simpa [Vals.put] using hu)
  z := fun h0 => by
    have : G 6 = none := by rcases hj with rfl | rfl | rfl <;> simpa [Vals.put] using h0
    rw [h6] at this; cases this
  m6 := fun m hmm => by
    have hm0 : G 6 = some m := by rcases hj with rfl | rfl | rfl <;> simpa [Vals.put] using hmm
    rw [h6] at hm0
    refine ⟨b, _, (Option.some.inj hm0).symm, hb, hm, fun i hi => ?_⟩
    rw [getG_snoc, hes i hi]
    rcases hj with rfl | rfl | rfl <;> rcases hi with rfl | rfl | rfl <;> simp [Vals.put, kkW, ssW] <;> cases G _ <;> simp
theorem zero9 (w : World) : (zeroValue 9).run Tryd.prog w = .ok (.string ⟨#[]⟩) w := by kernel_rfl
theorem keyU : KeyEnc Tryd.prog 32 encU (fun x => x < 256) := key_u8 Tryd.underlying32
set_option maxRecDepth 100000 in
set_option maxHeartbeats 4000000 in
theorem wr_or (x y : Rx) (hx : WrS x) (hy : WrS y) : WrS (.or x y) := by
  intro w v m hN hT ho hcn
  obtain ⟨b, o, c, A1, c1, A2, c2, rfl, d0, d1, d2, hn1, d3, d4, d5, hn2, hc⟩ := two_form hN
  clear hN
  simp only [Rx.okS, Bool.and_eq_true] at ho
  simp only [Rx.cnt] at hcn
  have h1 := fun w1 (hE : Ext w w1) => hx w1 _ 1 (hn1.ext hE) (hT.ext hE) ho.1 (by omega)
  have h2 := fun w1 (hE : Ext w w1) => hy w1 _ 2 (hn2.ext hE) (hT.ext hE) ho.2 (by omega)
  obtain ⟨r, hr⟩ : ∃ r, r = wrB (.or x y) m := ⟨_, rfl⟩
  rw [← hr]
  obtain ⟨sx, hsx⟩ : ∃ s, s = wrB x 1 := ⟨_, rfl⟩
  obtain ⟨sy, hsy⟩ : ∃ s, s = wrB y 2 := ⟨_, rfl⟩
  have HR0 : Hid (r = parB (decide (1 < m)) (sx ++ (⟨#[124]⟩ : ByteArray) ++ sy)) := Lib.hid (by rw [hr, hsx, hsy]; rfl)
  rw [← hsx] at h1
  rw [← hsy] at h2
  obtain ⟨s0, hs0⟩ : ∃ s : ByteArray, s = (sx ++ (⟨#[124]⟩ : ByteArray) ++ sy) := ⟨_, rfl⟩
  rw [← hs0] at HR0
  have HS0 := Lib.hid hs0
  have hszx : sx.size ≤ 3000 := by
    rw [hsx]
    exact Nat.le_trans (wrB_size x _ ho.1) (by omega)
  have hszy : sy.size ≤ 3000 := by
    rw [hsy]
    exact Nat.le_trans (wrB_size y _ ho.2) (by omega)
  have hsz0 : s0.size ≤ 6001 := by
    rw [hs0]
    simp only [ByteArray.size_append]
    have e : (ByteArray.mk #[124]).size = 1 ∧ (ByteArray.mk #[38]).size = 1 ∧ (ByteArray.mk #[]).size = 0 := ⟨rfl, rfl, rfl⟩
    omega
  have q1 : ¬ 9223372036854775807 < sx.size + 1 := by omega
  have q2 : ¬ 9223372036854775807 < sx.size := by omega
  have q3 : ¬ 9223372036854775807 < sx.size + 1 + sy.size := by omega
  have q4 : ¬ 9223372036854775807 < sx.size + sy.size := by omega
  generalize x.tr.op = ox at *
  generalize y.tr.op = oy at *
  generalize x.tr.n = nx at *
  generalize y.tr.n = ny at *
  generalize x.tr.subs.length = lx at *
  generalize y.tr.subs.length = ly at *
  clear hn1 hn2 hx hy hr hs0 hsx hsy hcn
  go_enter Tryd.func62, Tryd.ntmps62
  go_upto_region 1 with fail
  refine wp_named ?_
  intro W1 hW1
  have hE1 : Ext w W1 := by rw [hW1]; first | exact alloc_ext _ _ | exact (Ext.refl _).alloc _ | exact ((Ext.refl _).alloc _).drew
  have k0 : ∀ w', Ext W1 w' → w'.cell? ⟨w.heap.size, 0, none⟩ = some (.int .u8 3) := fun w' h => h.cell (by rw [hW1]; simp [go_sem])
  have c0 : ∀ w', Ext W1 w' → w'.cell? ⟨0, 3, none⟩ = some (.int .i64 1) := fun w' h => by have := (hE1.trans h).cell (hT 3 (by decide)).1; simpa [rankT] using this
  have k2 : ∀ w', Ext W1 w' → w'.cell? ⟨w.heap.size, 2, none⟩ = some (.slice (some ⟨b, o, none⟩) 2 c) := fun w' h => h.cell (by rw [hW1]; simp [go_sem])
  clear hW1 ho hT
  have d0 := fun w1 (h : Ext W1 w1) => (hE1.trans h).cell d0
  have d1 := fun w1 (h : Ext W1 w1) => (hE1.trans h).cell d1
  have d2 := fun w1 (h : Ext W1 w1) => (hE1.trans h).cell d2
  have d3 := fun w1 (h : Ext W1 w1) => (hE1.trans h).cell d3
  have d4 := fun w1 (h : Ext W1 w1) => (hE1.trans h).cell d4
  have d5 := fun w1 (h : Ext W1 w1) => (hE1.trans h).cell d5
  generalize w.heap.size = b2 at *
  have hR1 := Ext.refl W1
  have HE1 := Lib.hid hE1
  have HH1 := Lib.hid h1
  have HH2 := Lib.hid h2
  clear h1 h2 hE1
  unfold StrP at HH1 HH2
  go_quiet (fail)
  go_upto_region 3 with fail
  refine wp_named ?_
  intro W2 hW2
  have hE2 : Ext W1 W2 := by rw [hW2]; exact (Ext.refl _).drewN _
  have HE2 := Lib.hid (HE1.out.trans hE2)
  have k0 := fun w1 (h : Ext W2 w1) => k0 w1 (hE2.trans h)
  have k2 := fun w1 (h : Ext W2 w1) => k2 w1 (hE2.trans h)
  have d0 := fun w1 (h : Ext W2 w1) => d0 w1 (hE2.trans h)
  have d1 := fun w1 (h : Ext W2 w1) => d1 w1 (hE2.trans h)
  have d2 := fun w1 (h : Ext W2 w1) => d2 w1 (hE2.trans h)
  have d3 := fun w1 (h : Ext W2 w1) => d3 w1 (hE2.trans h)
  have d4 := fun w1 (h : Ext W2 w1) => d4 w1 (hE2.trans h)
  have d5 := fun w1 (h : Ext W2 w1) => d5 w1 (hE2.trans h)
  clear hW2 hE2 hR1 c0
  refine RI.wp_region_inv 22 (WrI W2 sx sy) (fun k => [5, 6, 7, 8, 9, 21].contains k) (fun k => ([[], [0], [0, 1], [0, 1, 2], [], [0, 1, 2, 3, 4], [], [6], [6], [6], [6, 7, 8, 9], [], [11], [6, 7, 8, 9, 10, 11, 12], [0, 1, 2, 3, 4, 5, 6, 7, 8, 9, 10, 11, 12, 13], [], [15], [15, 16], [15, 16, 17], [], [19], [0, 1, 2, 3, 4, 5, 15, 16, 17, 18, 19, 20], [0, 1, 2, 3, 4, 5, 6, 7, 8, 9, 10, 11, 12, 13, 14, 15, 16, 17, 18, 19, 20, 21], [0, 1, 2, 3, 4, 5, 6, 7, 8, 9, 10, 11, 12, 13, 14, 15, 16, 17, 18, 19, 20, 21, 22]] : List (List Nat)).getD k []) (by kernel_rfl) (by kernel_rfl) ?_ ?_
  rotate_left; simp only [List.take_succ_cons, List.take_zero]; rotate_left
  · exact ⟨(Ext.refl _).drew, fun v h => (by cases h), fun v h => (by cases h), fun _ j _ => rfl, fun v h => (by cases h)⟩
  repeat (first | (with_reducible refine RI.lexL_quiet' (v := ?_) ?_ ?_ ?_ ?_; rotate_left; (· with_reducible rfl); (· decide); (· intro G w1 hI1 hA1; have hw1 := hI1.ext; go_simp; with_reducible rfl); (try simp only [Act.put, List.setIfInBounds_toArray, List.set_cons_zero, List.set_cons_succ])) | (with_reducible refine RI.lexL_skip ?_ ?_; (· simp [Region.wanted, yielded, undef]); (try simp only [Act.put, List.setIfInBounds_toArray, List.set_cons_zero, List.set_cons_succ])) | (with_reducible refine RI.lexL_quiet (v := ?_) ?_ ?_ ?_ ?_; rotate_left; (· simp [Region.wanted, yielded, undef]); (· decide); (· intro G w1 hI1 hA1; have hw1 := hI1.ext; go_simp; with_reducible rfl); (try simp only [Act.put, List.setIfInBounds_toArray, List.set_cons_zero, List.set_cons_succ])))
  with_reducible refine RI.lexL_give' ?_ ?_ ?_ ?_; (· with_reducible rfl); (· decide)
  · intro G w5 hI hA hg
    have hw5 := hI.ext
    go_simp
    refine (HH1.out w5 (HE2.out.trans hw5)).mono ?_
    rintro e w6 ⟨rfl, e6⟩
    exact ⟨_, rfl, hI.call 5 _ (.inl ⟨rfl, rfl⟩) e6⟩
  intro v5 G w5 hI hs2
  have hv5 := hI.c5 v5 (hs2 5 v5 rfl)
  subst hv5
  clear hI hs2 G w5
  (try simp only [Act.put, List.setIfInBounds_toArray, List.set_cons_zero, List.set_cons_succ])
  with_reducible refine RI.lexL_give' ?_ ?_ ?_ ?_; (· with_reducible rfl); (· decide)
  · intro G w5 hI hA hg
    go_simp
    exact hI.make hg
  intro v6 G w5 hI hs2
  obtain ⟨b6, es, hv6, -⟩ := hI.m6 v6 (hs2 6 v6 rfl)
  subst hv6
  clear hI hs2 G w5 es
  (try simp only [Act.put, List.setIfInBounds_toArray, List.set_cons_zero, List.set_cons_succ])
  with_reducible refine RI.lexL_give' ?_ ?_ ?_ ?_; (· with_reducible rfl); (· decide)
  · intro G w5 hI hA hg
    have h6 := hA 6 (by decide) _ rfl
    obtain ⟨b9, es, hb9, hlb, hmg, hes⟩ := hI.m6 _ h6
    have hb9 : b6 = b9 := by injection hb9 with hb9; injection hb9
    subst hb9
    refine gives_insert (.tmp 19) (.const (.int .u8 3)) (.const (.string ⟨#[124]⟩)) 122 rfl 9 keyU Tryd.underlying122 ?_ hmg (kkW 7) ?_ (by decide) (by rw [hes 7 (by simp), hg]; rfl) (.string (ssW 7)) ?_ (fun w' h1 h2 => hI.ins 7 (by simp) h6 hlb hes h1 h2) <;> first | rfl | exact rfl | (go_simp; done)
  intro v7 G w5 hI hs2
  clear hI hs2 G w5
  (try simp only [Act.put, List.setIfInBounds_toArray, List.set_cons_zero, List.set_cons_succ])
  with_reducible refine RI.lexL_give' ?_ ?_ ?_ ?_; (· with_reducible rfl); (· decide)
  · intro G w5 hI hA hg
    have h6 := hA 6 (by decide) _ rfl
    obtain ⟨b9, es, hb9, hlb, hmg, hes⟩ := hI.m6 _ h6
    have hb9 : b6 = b9 := by injection hb9 with hb9; injection hb9
    subst hb9
    refine gives_insert (.tmp 19) (.const (.int .u8 5)) (.const (.string ⟨#[38]⟩)) 122 rfl 9 keyU Tryd.underlying122 ?_ hmg (kkW 8) ?_ (by decide) (by rw [hes 8 (by simp), hg]; rfl) (.string (ssW 8)) ?_ (fun w' h1 h2 => hI.ins 8 (by simp) h6 hlb hes h1 h2) <;> first | rfl | exact rfl | (go_simp; done)
  intro v8 G w5 hI hs2
  clear hI hs2 G w5
  (try simp only [Act.put, List.setIfInBounds_toArray, List.set_cons_zero, List.set_cons_succ])
  with_reducible refine RI.lexL_give' ?_ ?_ ?_ ?_; (· with_reducible rfl); (· decide)
  · intro G w5 hI hA hg
    have h6 := hA 6 (by decide) _ rfl
    obtain ⟨b9, es, hb9, hlb, hmg, hes⟩ := hI.m6 _ h6
    have hb9 : b6 = b9 := by injection hb9 with hb9; injection hb9
    subst hb9
    refine gives_insert (.tmp 19) (.const (.int .u8 4)) (.const (.string ⟨#[]⟩)) 122 rfl 9 keyU Tryd.underlying122 ?_ hmg (kkW 9) ?_ (by decide) (by rw [hes 9 (by simp), hg]; rfl) (.string (ssW 9)) ?_ (fun w' h1 h2 => hI.ins 9 (by simp) h6 hlb hes h1 h2) <;> first | rfl | exact rfl | (go_simp; done)
  intro v9 G w5 hI hs2
  clear hI hs2 G w5
  (try simp only [Act.put, List.setIfInBounds_toArray, List.set_cons_zero, List.set_cons_succ])
  with_reducible refine RI.lexL_quiet' (v := ?_) ?_ ?_ ?_ ?_; rotate_left; (· with_reducible rfl); (· decide); (· intro G w1 hI1 hA1; have hw1 := hI1.ext; go_simp; with_reducible rfl); (try simp only [Act.put, List.setIfInBounds_toArray, List.set_cons_zero, List.set_cons_succ])
  with_reducible refine RI.lexL_quiet' (v := ?_) ?_ ?_ ?_ ?_; rotate_left; (· with_reducible rfl); (· decide); (· intro G w1 hI1 hA1; have hw1 := hI1.ext; go_simp; with_reducible rfl); (try simp only [Act.put, List.setIfInBounds_toArray, List.set_cons_zero, List.set_cons_succ])
  with_reducible refine RI.lexL_quiet' (v := ?_) ?_ ?_ ?_ ?_; rotate_left; (· with_reducible rfl); (· decide); (· intro G w1 hI1 hA1; have hw1 := hI1.ext; go_simp; with_reducible rfl); (try simp only [Act.put, List.setIfInBounds_toArray, List.set_cons_zero, List.set_cons_succ])
  with_reducible refine RI.lexL_quiet' (v := .string (⟨#[124]⟩ : ByteArray)) ?_ ?_ ?_ ?_; (· with_reducible rfl); (· decide)
  · intro G w5 hI hA
    have h6 := hA 6 (by decide) _ rfl
    have h7 := hA 7 (by decide) _ rfl
    have h8 := hA 8 (by decide) _ rfl
    have h9 := hA 9 (by decide) _ rfl
    obtain ⟨b9, es, hb9, hlb, hmg, hes⟩ := hI.m6 _ h6
    have hb9 : b6 = b9 := by injection hb9 with hb9; injection hb9
    subst hb9
    refine quiet_lookup (.tmp 20) (.tmp 22) 122 false rfl 9 keyU Tryd.underlying122 (zero9 _) ?_ hmg 3 ?_ (by decide) _ ?_ <;> first | rfl | exact rfl | (go_simp; done) | (have e7 := hes 7 (by simp); have e8 := hes 8 (by simp); have e9 := hes 9 (by simp); rw [h7] at e7; rw [h8] at e8; rw [h9] at e9; simp [kkW, ssW] at e7 e8 e9; simp [e7, e8, e9])
  (try simp only [Act.put, List.setIfInBounds_toArray, List.set_cons_zero, List.set_cons_succ])
  repeat (first | (with_reducible refine RI.lexL_quiet' (v := ?_) ?_ ?_ ?_ ?_; rotate_left; (· with_reducible rfl); (· decide); (· intro G w1 hI1 hA1; have hw1 := hI1.ext; go_simp; with_reducible rfl); (try simp only [Act.put, List.setIfInBounds_toArray, List.set_cons_zero, List.set_cons_succ])) | (with_reducible refine RI.lexL_skip ?_ ?_; (· simp [Region.wanted, yielded, undef]); (try simp only [Act.put, List.setIfInBounds_toArray, List.set_cons_zero, List.set_cons_succ])) | (with_reducible refine RI.lexL_quiet (v := ?_) ?_ ?_ ?_ ?_; rotate_left; (· simp [Region.wanted, yielded, undef]); (· decide); (· intro G w1 hI1 hA1; have hw1 := hI1.ext; go_simp; with_reducible rfl); (try simp only [Act.put, List.setIfInBounds_toArray, List.set_cons_zero, List.set_cons_succ])))
  with_reducible refine RI.lexL_give' ?_ ?_ ?_ ?_; (· with_reducible rfl); (· decide)
  · intro G w5 hI hA hg
    have hw5 := hI.ext
    go_simp
    refine (HH2.out w5 (HE2.out.trans hw5)).mono ?_
    rintro e w6 ⟨rfl, e6⟩
    exact ⟨_, rfl, hI.call 21 _ (.inr ⟨rfl, rfl⟩) e6⟩
  intro v21 G w5 hI hs2
  have hv21 := hI.c21 v21 (hs2 21 v21 rfl)
  subst hv21
  clear hI hs2 G w5
  (try simp only [Act.put, List.setIfInBounds_toArray, List.set_cons_zero, List.set_cons_succ])
  with_reducible refine RI.lexL_nil ?_; intro w1 hI1; simp only [List.drop_succ_cons, List.drop_zero]
  have HE3 := Lib.hid (HE2.out.trans hI1.ext)
  clear hI1
  go_upto_region 14 with fail
  have hs0 : sx ++ (⟨#[124]⟩ : ByteArray) ++ sy = s0 := HS0.out.symm
  rw [hs0]
  clear hs0
  by_cases hp : (1 : Int) < m
  · have HR : Hid (r = parB true s0) := Lib.hid (by rw [HR0.out, decide_eq_true hp])
    go_wp2
    go_ret
    exact ⟨by rw [HR.out]; rfl, HE3.out⟩
  · have HR : Hid (r = parB false s0) := Lib.hid (by rw [HR0.out, decide_eq_false hp])
    go_wp2
    go_ret
    exact ⟨by rw [HR.out]; rfl, HE3.out⟩
--OTHERS (by gen_n2.py)
set_option maxRecDepth 100000 in
set_option maxHeartbeats 4000000 in
theorem wr_seq (x y : Rx) (hx : WrS x) (hy : WrS y) : WrS (.seq x y) := by
  intro w v m hN hT ho hcn
  obtain ⟨b, o, c, A1, c1, A2, c2, rfl, d0, d1, d2, hn1, d3, d4, d5, hn2, hc⟩ := two_form hN
  clear hN
  simp only [Rx.okS, Bool.and_eq_true] at ho
  simp only [Rx.cnt] at hcn
  have h1 := fun w1 (hE : Ext w w1) => hx w1 _ 3 (hn1.ext hE) (hT.ext hE) ho.1 (by omega)
  have h2 := fun w1 (hE : Ext w w1) => hy w1 _ 4 (hn2.ext hE) (hT.ext hE) ho.2 (by omega)
  obtain ⟨r, hr⟩ : ∃ r, r = wrB (.seq x y) m := ⟨_, rfl⟩
  rw [← hr]
  obtain ⟨sx, hsx⟩ : ∃ s, s = wrB x 3 := ⟨_, rfl⟩
  obtain ⟨sy, hsy⟩ : ∃ s, s = wrB y 4 := ⟨_, rfl⟩
  have HR0 : Hid (r = parB (decide (3 < m)) (sx ++ (⟨#[]⟩ : ByteArray) ++ sy)) := Lib.hid (by rw [hr, hsx, hsy]; rfl)
  rw [← hsx] at h1
  rw [← hsy] at h2
  obtain ⟨s0, hs0⟩ : ∃ s : ByteArray, s = (sx ++ (⟨#[]⟩ : ByteArray) ++ sy) := ⟨_, rfl⟩
  rw [← hs0] at HR0
  have HS0 := Lib.hid hs0
  have hszx : sx.size ≤ 3000 := by
    rw [hsx]
    exact Nat.le_trans (wrB_size x _ ho.1) (by omega)
  have hszy : sy.size ≤ 3000 := by
    rw [hsy]
    exact Nat.le_trans (wrB_size y _ ho.2) (by omega)
  have hsz0 : s0.size ≤ 6001 := by
    rw [hs0]
    simp only [ByteArray.size_append]
    have e : (ByteArray.mk #[124]).size = 1 ∧ (ByteArray.mk #[38]).size = 1 ∧ (ByteArray.mk #[]).size = 0 := ⟨rfl, rfl, rfl⟩
    omega
  have q1 : ¬ 9223372036854775807 < sx.size + 1 := by omega
  have q2 : ¬ 9223372036854775807 < sx.size := by omega
  have q3 : ¬ 9223372036854775807 < sx.size + 1 + sy.size := by omega
  have q4 : ¬ 9223372036854775807 < sx.size + sy.size := by omega
  generalize x.tr.op = ox at *
  generalize y.tr.op = oy at *
  generalize x.tr.n = nx at *
  generalize y.tr.n = ny at *
  generalize x.tr.subs.length = lx at *
  generalize y.tr.subs.length = ly at *
  clear hn1 hn2 hx hy hr hs0 hsx hsy hcn
  go_enter Tryd.func62, Tryd.ntmps62
  go_upto_region 1 with fail
  refine wp_named ?_
  intro W1 hW1
  have hE1 : Ext w W1 := by rw [hW1]; first | exact alloc_ext _ _ | exact (Ext.refl _).alloc _ | exact ((Ext.refl _).alloc _).drew
  have k0 : ∀ w', Ext W1 w' → w'.cell? ⟨w.heap.size, 0, none⟩ = some (.int .u8 4) := fun w' h => h.cell (by rw [hW1]; simp [go_sem])
  have c0 : ∀ w', Ext W1 w' → w'.cell? ⟨0, 4, none⟩ = some (.int .i64 3) := fun w' h => by have := (hE1.trans h).cell (hT 4 (by decide)).1; simpa [rankT] using this
  have k2 : ∀ w', Ext W1 w' → w'.cell? ⟨w.heap.size, 2, none⟩ = some (.slice (some ⟨b, o, none⟩) 2 c) := fun w' h => h.cell (by rw [hW1]; simp [go_sem])
  clear hW1 ho hT
  have d0 := fun w1 (h : Ext W1 w1) => (hE1.trans h).cell d0
  have d1 := fun w1 (h : Ext W1 w1) => (hE1.trans h).cell d1
  have d2 := fun w1 (h : Ext W1 w1) => (hE1.trans h).cell d2
  have d3 := fun w1 (h : Ext W1 w1) => (hE1.trans h).cell d3
  have d4 := fun w1 (h : Ext W1 w1) => (hE1.trans h).cell d4
  have d5 := fun w1 (h : Ext W1 w1) => (hE1.trans h).cell d5
  generalize w.heap.size = b2 at *
  have hR1 := Ext.refl W1
  have HE1 := Lib.hid hE1
  have HH1 := Lib.hid h1
  have HH2 := Lib.hid h2
  clear h1 h2 hE1
  unfold StrP at HH1 HH2
  go_quiet (fail)
  go_upto_region 3 with fail
  refine wp_named ?_
  intro W2 hW2
  have hE2 : Ext W1 W2 := by rw [hW2]; exact (Ext.refl _).drewN _
  have HE2 := Lib.hid (HE1.out.trans hE2)
  have k0 := fun w1 (h : Ext W2 w1) => k0 w1 (hE2.trans h)
  have k2 := fun w1 (h : Ext W2 w1) => k2 w1 (hE2.trans h)
  have d0 := fun w1 (h : Ext W2 w1) => d0 w1 (hE2.trans h)
  have d1 := fun w1 (h : Ext W2 w1) => d1 w1 (hE2.trans h)
  have d2 := fun w1 (h : Ext W2 w1) => d2 w1 (hE2.trans h)
  have d3 := fun w1 (h : Ext W2 w1) => d3 w1 (hE2.trans h)
  have d4 := fun w1 (h : Ext W2 w1) => d4 w1 (hE2.trans h)
  have d5 := fun w1 (h : Ext W2 w1) => d5 w1 (hE2.trans h)
  clear hW2 hE2 hR1 c0
  refine RI.wp_region_inv 22 (WrI W2 sx sy) (fun k => [5, 6, 7, 8, 9, 21].contains k) (fun k => ([[], [0], [0, 1], [0, 1, 2], [], [0, 1, 2, 3, 4], [], [6], [6], [6], [6, 7, 8, 9], [], [11], [6, 7, 8, 9, 10, 11, 12], [0, 1, 2, 3, 4, 5, 6, 7, 8, 9, 10, 11, 12, 13], [], [15], [15, 16], [15, 16, 17], [], [19], [0, 1, 2, 3, 4, 5, 15, 16, 17, 18, 19, 20], [0, 1, 2, 3, 4, 5, 6, 7, 8, 9, 10, 11, 12, 13, 14, 15, 16, 17, 18, 19, 20, 21], [0, 1, 2, 3, 4, 5, 6, 7, 8, 9, 10, 11, 12, 13, 14, 15, 16, 17, 18, 19, 20, 21, 22]] : List (List Nat)).getD k []) (by kernel_rfl) (by kernel_rfl) ?_ ?_
  rotate_left; simp only [List.take_succ_cons, List.take_zero]; rotate_left
  · exact ⟨(Ext.refl _).drew, fun v h => (by cases h), fun v h => (by cases h), fun _ j _ => rfl, fun v h => (by cases h)⟩
  repeat (first | (with_reducible refine RI.lexL_quiet' (v := ?_) ?_ ?_ ?_ ?_; rotate_left; (· with_reducible rfl); (· decide); (· intro G w1 hI1 hA1; have hw1 := hI1.ext; go_simp; with_reducible rfl); (try simp only [Act.put, List.setIfInBounds_toArray, List.set_cons_zero, List.set_cons_succ])) | (with_reducible refine RI.lexL_skip ?_ ?_; (· simp [Region.wanted, yielded, undef]); (try simp only [Act.put, List.setIfInBounds_toArray, List.set_cons_zero, List.set_cons_succ])) | (with_reducible refine RI.lexL_quiet (v := ?_) ?_ ?_ ?_ ?_; rotate_left; (· simp [Region.wanted, yielded, undef]); (· decide); (· intro G w1 hI1 hA1; have hw1 := hI1.ext; go_simp; with_reducible rfl); (try simp only [Act.put, List.setIfInBounds_toArray, List.set_cons_zero, List.set_cons_succ])))
  with_reducible refine RI.lexL_give' ?_ ?_ ?_ ?_; (· with_reducible rfl); (· decide)
  · intro G w5 hI hA hg
    have hw5 := hI.ext
    go_simp
    refine (HH1.out w5 (HE2.out.trans hw5)).mono ?_
    rintro e w6 ⟨rfl, e6⟩
    exact ⟨_, rfl, hI.call 5 _ (.inl ⟨rfl, rfl⟩) e6⟩
  intro v5 G w5 hI hs2
  have hv5 := hI.c5 v5 (hs2 5 v5 rfl)
  subst hv5
  clear hI hs2 G w5
  (try simp only [Act.put, List.setIfInBounds_toArray, List.set_cons_zero, List.set_cons_succ])
  with_reducible refine RI.lexL_give' ?_ ?_ ?_ ?_; (· with_reducible rfl); (· decide)
  · intro G w5 hI hA hg
    go_simp
    exact hI.make hg
  intro v6 G w5 hI hs2
  obtain ⟨b6, es, hv6, -⟩ := hI.m6 v6 (hs2 6 v6 rfl)
  subst hv6
  clear hI hs2 G w5 es
  (try simp only [Act.put, List.setIfInBounds_toArray, List.set_cons_zero, List.set_cons_succ])
  with_reducible refine RI.lexL_give' ?_ ?_ ?_ ?_; (· with_reducible rfl); (· decide)
  · intro G w5 hI hA hg
    have h6 := hA 6 (by decide) _ rfl
    obtain ⟨b9, es, hb9, hlb, hmg, hes⟩ := hI.m6 _ h6
    have hb9 : b6 = b9 := by injection hb9 with hb9; injection hb9
    subst hb9
    refine gives_insert (.tmp 19) (.const (.int .u8 3)) (.const (.string ⟨#[124]⟩)) 122 rfl 9 keyU Tryd.underlying122 ?_ hmg (kkW 7) ?_ (by decide) (by rw [hes 7 (by simp), hg]; rfl) (.string (ssW 7)) ?_ (fun w' h1 h2 => hI.ins 7 (by simp) h6 hlb hes h1 h2) <;> first | rfl | exact rfl | (go_simp; done)
  intro v7 G w5 hI hs2
  clear hI hs2 G w5
  (try simp only [Act.put, List.setIfInBounds_toArray, List.set_cons_zero, List.set_cons_succ])
  with_reducible refine RI.lexL_give' ?_ ?_ ?_ ?_; (· with_reducible rfl); (· decide)
  · intro G w5 hI hA hg
    have h6 := hA 6 (by decide) _ rfl
    obtain ⟨b9, es, hb9, hlb, hmg, hes⟩ := hI.m6 _ h6
    have hb9 : b6 = b9 := by injection hb9 with hb9; injection hb9
    subst hb9
    refine gives_insert (.tmp 19) (.const (.int .u8 5)) (.const (.string ⟨#[38]⟩)) 122 rfl 9 keyU Tryd.underlying122 ?_ hmg (kkW 8) ?_ (by decide) (by rw [hes 8 (by simp), hg]; rfl) (.string (ssW 8)) ?_ (fun w' h1 h2 => hI.ins 8 (by simp) h6 hlb hes h1 h2) <;> first | rfl | exact rfl | (go_simp; done)
  intro v8 G w5 hI hs2
  clear hI hs2 G w5
  (try simp only [Act.put, List.setIfInBounds_toArray, List.set_cons_zero, List.set_cons_succ])
  with_reducible refine RI.lexL_give' ?_ ?_ ?_ ?_; (· with_reducible rfl); (· decide)
  · intro G w5 hI hA hg
    have h6 := hA 6 (by decide) _ rfl
    obtain ⟨b9, es, hb9, hlb, hmg, hes⟩ := hI.m6 _ h6
    have hb9 : b6 = b9 := by injection hb9 with hb9; injection hb9
    subst hb9
    refine gives_insert (.tmp 19) (.const (.int .u8 4)) (.const (.string ⟨#[]⟩)) 122 rfl 9 keyU Tryd.underlying122 ?_ hmg (kkW 9) ?_ (by decide) (by rw [hes 9 (by simp), hg]; rfl) (.string (ssW 9)) ?_ (fun w' h1 h2 => hI.ins 9 (by simp) h6 hlb hes h1 h2) <;> first | rfl | exact rfl | (go_simp; done)
  intro v9 G w5 hI hs2
  clear hI hs2 G w5
  (try simp only [Act.put, List.setIfInBounds_toArray, List.set_cons_zero, List.set_cons_succ])
  with_reducible refine RI.lexL_quiet' (v := ?_) ?_ ?_ ?_ ?_; rotate_left; (· with_reducible rfl); (· decide); (· intro G w1 hI1 hA1; have hw1 := hI1.ext; go_simp; with_reducible rfl); (try simp only [Act.put, List.setIfInBounds_toArray, List.set_cons_zero, List.set_cons_succ])
  with_reducible refine RI.lexL_quiet' (v := ?_) ?_ ?_ ?_ ?_; rotate_left; (· with_reducible rfl); (· decide); (· intro G w1 hI1 hA1; have hw1 := hI1.ext; go_simp; with_reducible rfl); (try simp only [Act.put, List.setIfInBounds_toArray, List.set_cons_zero, List.set_cons_succ])
  with_reducible refine RI.lexL_quiet' (v := ?_) ?_ ?_ ?_ ?_; rotate_left; (· with_reducible rfl); (· decide); (· intro G w1 hI1 hA1; have hw1 := hI1.ext; go_simp; with_reducible rfl); (try simp only [Act.put, List.setIfInBounds_toArray, List.set_cons_zero, List.set_cons_succ])
  with_reducible refine RI.lexL_quiet' (v := .string (⟨#[]⟩ : ByteArray)) ?_ ?_ ?_ ?_; (· with_reducible rfl); (· decide)
  · intro G w5 hI hA
    have h6 := hA 6 (by decide) _ rfl
    have h7 := hA 7 (by decide) _ rfl
    have h8 := hA 8 (by decide) _ rfl
    have h9 := hA 9 (by decide) _ rfl
    obtain ⟨b9, es, hb9, hlb, hmg, hes⟩ := hI.m6 _ h6
    have hb9 : b6 = b9 := by injection hb9 with hb9; injection hb9
    subst hb9
    refine quiet_lookup (.tmp 20) (.tmp 22) 122 false rfl 9 keyU Tryd.underlying122 (zero9 _) ?_ hmg 4 ?_ (by decide) _ ?_ <;> first | rfl | exact rfl | (go_simp; done) | (have e7 := hes 7 (by simp); have e8 := hes 8 (by simp); have e9 := hes 9 (by simp); rw [h7] at e7; rw [h8] at e8; rw [h9] at e9; simp [kkW, ssW] at e7 e8 e9; simp [e7, e8, e9])
  (try simp only [Act.put, List.setIfInBounds_toArray, List.set_cons_zero, List.set_cons_succ])
  repeat (first | (with_reducible refine RI.lexL_quiet' (v := ?_) ?_ ?_ ?_ ?_; rotate_left; (· with_reducible rfl); (· decide); (· intro G w1 hI1 hA1; have hw1 := hI1.ext; go_simp; with_reducible rfl); (try simp only [Act.put, List.setIfInBounds_toArray, List.set_cons_zero, List.set_cons_succ])) | (with_reducible refine RI.lexL_skip ?_ ?_; (· simp [Region.wanted, yielded, undef]); (try simp only [Act.put, List.setIfInBounds_toArray, List.set_cons_zero, List.set_cons_succ])) | (with_reducible refine RI.lexL_quiet (v := ?_) ?_ ?_ ?_ ?_; rotate_left; (· simp [Region.wanted, yielded, undef]); (· decide); (· intro G w1 hI1 hA1; have hw1 := hI1.ext; go_simp; with_reducible rfl); (try simp only [Act.put, List.setIfInBounds_toArray, List.set_cons_zero, List.set_cons_succ])))
  with_reducible refine RI.lexL_give' ?_ ?_ ?_ ?_; (· with_reducible rfl); (· decide)
  · intro G w5 hI hA hg
    have hw5 := hI.ext
    go_simp
    refine (HH2.out w5 (HE2.out.trans hw5)).mono ?_
    rintro e w6 ⟨rfl, e6⟩
    exact ⟨_, rfl, hI.call 21 _ (.inr ⟨rfl, rfl⟩) e6⟩
  intro v21 G w5 hI hs2
  have hv21 := hI.c21 v21 (hs2 21 v21 rfl)
  subst hv21
  clear hI hs2 G w5
  (try simp only [Act.put, List.setIfInBounds_toArray, List.set_cons_zero, List.set_cons_succ])
  with_reducible refine RI.lexL_nil ?_; intro w1 hI1; simp only [List.drop_succ_cons, List.drop_zero]
  have HE3 := Lib.hid (HE2.out.trans hI1.ext)
  clear hI1
  go_upto_region 14 with fail
  have hs0 : sx ++ (⟨#[]⟩ : ByteArray) ++ sy = s0 := HS0.out.symm
  rw [hs0]
  clear hs0
  by_cases hp : (3 : Int) < m
  · have HR : Hid (r = parB true s0) := Lib.hid (by rw [HR0.out, decide_eq_true hp])
    go_wp2
    go_ret
    exact ⟨by rw [HR.out]; rfl, HE3.out⟩
  · have HR : Hid (r = parB false s0) := Lib.hid (by rw [HR0.out, decide_eq_false hp])
    go_wp2
    go_ret
    exact ⟨by rw [HR.out]; rfl, HE3.out⟩
set_option maxRecDepth 100000 in
set_option maxHeartbeats 4000000 in
theorem wr_and (x y : Rx) (hx : WrS x) (hy : WrS y) : WrS (.and x y) := by
  intro w v m hN hT ho hcn
  obtain ⟨b, o, c, A1, c1, A2, c2, rfl, d0, d1, d2, hn1, d3, d4, d5, hn2, hc⟩ := two_form hN
  clear hN
  simp only [Rx.okS, Bool.and_eq_true] at ho
  simp only [Rx.cnt] at hcn
  have h1 := fun w1 (hE : Ext w w1) => hx w1 _ 2 (hn1.ext hE) (hT.ext hE) ho.1 (by omega)
  have h2 := fun w1 (hE : Ext w w1) => hy w1 _ 3 (hn2.ext hE) (hT.ext hE) ho.2 (by omega)
  obtain ⟨r, hr⟩ : ∃ r, r = wrB (.and x y) m := ⟨_, rfl⟩
  rw [← hr]
  obtain ⟨sx, hsx⟩ : ∃ s, s = wrB x 2 := ⟨_, rfl⟩
  obtain ⟨sy, hsy⟩ : ∃ s, s = wrB y 3 := ⟨_, rfl⟩
  have HR0 : Hid (r = parB (decide (2 < m)) (sx ++ (⟨#[38]⟩ : ByteArray) ++ sy)) := Lib.hid (by rw [hr, hsx, hsy]; rfl)
  rw [← hsx] at h1
  rw [← hsy] at h2
  obtain ⟨s0, hs0⟩ : ∃ s : ByteArray, s = (sx ++ (⟨#[38]⟩ : ByteArray) ++ sy) := ⟨_, rfl⟩
  rw [← hs0] at HR0
  have HS0 := Lib.hid hs0
  have hszx : sx.size ≤ 3000 := by
    rw [hsx]
    exact Nat.le_trans (wrB_size x _ ho.1) (by omega)
  have hszy : sy.size ≤ 3000 := by
    rw [hsy]
    exact Nat.le_trans (wrB_size y _ ho.2) (by omega)
  have hsz0 : s0.size ≤ 6001 := by
    rw [hs0]
    simp only [ByteArray.size_append]
    have e : (ByteArray.mk #[124]).size = 1 ∧ (ByteArray.mk #[38]).size = 1 ∧ (ByteArray.mk #[]).size = 0 := ⟨rfl, rfl, rfl⟩
    omega
  have q1 : ¬ 9223372036854775807 < sx.size + 1 := by omega
  have q2 : ¬ 9223372036854775807 < sx.size := by omega
  have q3 : ¬ 9223372036854775807 < sx.size + 1 + sy.size := by omega
  have q4 : ¬ 9223372036854775807 < sx.size + sy.size := by omega
  generalize x.tr.op = ox at *
  generalize y.tr.op = oy at *
  generalize x.tr.n = nx at *
  generalize y.tr.n = ny at *
  generalize x.tr.subs.length = lx at *
  generalize y.tr.subs.length = ly at *
  clear hn1 hn2 hx hy hr hs0 hsx hsy hcn
  go_enter Tryd.func62, Tryd.ntmps62
  go_upto_region 1 with fail
  refine wp_named ?_
  intro W1 hW1
  have hE1 : Ext w W1 := by rw [hW1]; first | exact alloc_ext _ _ | exact (Ext.refl _).alloc _ | exact ((Ext.refl _).alloc _).drew
  have k0 : ∀ w', Ext W1 w' → w'.cell? ⟨w.heap.size, 0, none⟩ = some (.int .u8 5) := fun w' h => h.cell (by rw [hW1]; simp [go_sem])
  have c0 : ∀ w', Ext W1 w' → w'.cell? ⟨0, 5, none⟩ = some (.int .i64 2) := fun w' h => by have := (hE1.trans h).cell (hT 5 (by decide)).1; simpa [rankT] using this
  have k2 : ∀ w', Ext W1 w' → w'.cell? ⟨w.heap.size, 2, none⟩ = some (.slice (some ⟨b, o, none⟩) 2 c) := fun w' h => h.cell (by rw [hW1]; simp [go_sem])
  clear hW1 ho hT
  have d0 := fun w1 (h : Ext W1 w1) => (hE1.trans h).cell d0
  have d1 := fun w1 (h : Ext W1 w1) => (hE1.trans h).cell d1
  have d2 := fun w1 (h : Ext W1 w1) => (hE1.trans h).cell d2
  have d3 := fun w1 (h : Ext W1 w1) => (hE1.trans h).cell d3
  have d4 := fun w1 (h : Ext W1 w1) => (hE1.trans h).cell d4
  have d5 := fun w1 (h : Ext W1 w1) => (hE1.trans h).cell d5
  generalize w.heap.size = b2 at *
  have hR1 := Ext.refl W1
  have HE1 := Lib.hid hE1
  have HH1 := Lib.hid h1
  have HH2 := Lib.hid h2
  clear h1 h2 hE1
  unfold StrP at HH1 HH2
  go_quiet (fail)
  go_upto_region 3 with fail
  refine wp_named ?_
  intro W2 hW2
  have hE2 : Ext W1 W2 := by rw [hW2]; exact (Ext.refl _).drewN _
  have HE2 := Lib.hid (HE1.out.trans hE2)
  have k0 := fun w1 (h : Ext W2 w1) => k0 w1 (hE2.trans h)
  have k2 := fun w1 (h : Ext W2 w1) => k2 w1 (hE2.trans h)
  have d0 := fun w1 (h : Ext W2 w1) => d0 w1 (hE2.trans h)
  have d1 := fun w1 (h : Ext W2 w1) => d1 w1 (hE2.trans h)
  have d2 := fun w1 (h : Ext W2 w1) => d2 w1 (hE2.trans h)
  have d3 := fun w1 (h : Ext W2 w1) => d3 w1 (hE2.trans h)
  have d4 := fun w1 (h : Ext W2 w1) => d4 w1 (hE2.trans h)
  have d5 := fun w1 (h : Ext W2 w1) => d5 w1 (hE2.trans h)
  clear hW2 hE2 hR1 c0
  refine RI.wp_region_inv 22 (WrI W2 sx sy) (fun k => [5, 6, 7, 8, 9, 21].contains k) (fun k => ([[], [0], [0, 1], [0, 1, 2], [], [0, 1, 2, 3, 4], [], [6], [6], [6], [6, 7, 8, 9], [], [11], [6, 7, 8, 9, 10, 11, 12], [0, 1, 2, 3, 4, 5, 6, 7, 8, 9, 10, 11, 12, 13], [], [15], [15, 16], [15, 16, 17], [], [19], [0, 1, 2, 3, 4, 5, 15, 16, 17, 18, 19, 20], [0, 1, 2, 3, 4, 5, 6, 7, 8, 9, 10, 11, 12, 13, 14, 15, 16, 17, 18, 19, 20, 21], [0, 1, 2, 3, 4, 5, 6, 7, 8, 9, 10, 11, 12, 13, 14, 15, 16, 17, 18, 19, 20, 21, 22]] : List (List Nat)).getD k []) (by kernel_rfl) (by kernel_rfl) ?_ ?_
  rotate_left; simp only [List.take_succ_cons, List.take_zero]; rotate_left
  · exact ⟨(Ext.refl _).drew, fun v h => (by cases h), fun v h => (by cases h), fun _ j _ => rfl, fun v h => (by cases h)⟩
  repeat (first | (with_reducible refine RI.lexL_quiet' (v := ?_) ?_ ?_ ?_ ?_; rotate_left; (· with_reducible rfl); (· decide); (· intro G w1 hI1 hA1; have hw1 := hI1.ext; go_simp; with_reducible rfl); (try simp only [Act.put, List.setIfInBounds_toArray, List.set_cons_zero, List.set_cons_succ])) | (with_reducible refine RI.lexL_skip ?_ ?_; (· simp [Region.wanted, yielded, undef]); (try simp only [Act.put, List.setIfInBounds_toArray, List.set_cons_zero, List.set_cons_succ])) | (with_reducible refine RI.lexL_quiet (v := ?_) ?_ ?_ ?_ ?_; rotate_left; (· simp [Region.wanted, yielded, undef]); (· decide); (· intro G w1 hI1 hA1; have hw1 := hI1.ext; go_simp; with_reducible rfl); (try simp only [Act.put, List.setIfInBounds_toArray, List.set_cons_zero, List.set_cons_succ])))
  with_reducible refine RI.lexL_give' ?_ ?_ ?_ ?_; (· with_reducible rfl); (· decide)
  · intro G w5 hI hA hg
    have hw5 := hI.ext
    go_simp
    refine (HH1.out w5 (HE2.out.trans hw5)).mono ?_
    rintro e w6 ⟨rfl, e6⟩
    exact ⟨_, rfl, hI.call 5 _ (.inl ⟨rfl, rfl⟩) e6⟩
  intro v5 G w5 hI hs2
  have hv5 := hI.c5 v5 (hs2 5 v5 rfl)
  subst hv5
  clear hI hs2 G w5
  (try simp only [Act.put, List.setIfInBounds_toArray, List.set_cons_zero, List.set_cons_succ])
  with_reducible refine RI.lexL_give' ?_ ?_ ?_ ?_; (· with_reducible rfl); (· decide)
  · intro G w5 hI hA hg
    go_simp
    exact hI.make hg
  intro v6 G w5 hI hs2
  obtain ⟨b6, es, hv6, -⟩ := hI.m6 v6 (hs2 6 v6 rfl)
  subst hv6
  clear hI hs2 G w5 es
  (try simp only [Act.put, List.setIfInBounds_toArray, List.set_cons_zero, List.set_cons_succ])
  with_reducible refine RI.lexL_give' ?_ ?_ ?_ ?_; (· with_reducible rfl); (· decide)
  · intro G w5 hI hA hg
    have h6 := hA 6 (by decide) _ rfl
    obtain ⟨b9, es, hb9, hlb, hmg, hes⟩ := hI.m6 _ h6
    have hb9 : b6 = b9 := by injection hb9 with hb9; injection hb9
    subst hb9
    refine gives_insert (.tmp 19) (.const (.int .u8 3)) (.const (.string ⟨#[124]⟩)) 122 rfl 9 keyU Tryd.underlying122 ?_ hmg (kkW 7) ?_ (by decide) (by rw [hes 7 (by simp), hg]; rfl) (.string (ssW 7)) ?_ (fun w' h1 h2 => hI.ins 7 (by simp) h6 hlb hes h1 h2) <;> first | rfl | exact rfl | (go_simp; done)
  intro v7 G w5 hI hs2
  clear hI hs2 G w5
  (try simp only [Act.put, List.setIfInBounds_toArray, List.set_cons_zero, List.set_cons_succ])
  with_reducible refine RI.lexL_give' ?_ ?_ ?_ ?_; (· with_reducible rfl); (· decide)
  · intro G w5 hI hA hg
    have h6 := hA 6 (by decide) _ rfl
    obtain ⟨b9, es, hb9, hlb, hmg, hes⟩ := hI.m6 _ h6
    have hb9 : b6 = b9 := by injection hb9 with hb9; injection hb9
    subst hb9
    refine gives_insert (.tmp 19) (.const (.int .u8 5)) (.const (.string ⟨#[38]⟩)) 122 rfl 9 keyU Tryd.underlying122 ?_ hmg (kkW 8) ?_ (by decide) (by rw [hes 8 (by simp), hg]; rfl) (.string (ssW 8)) ?_ (fun w' h1 h2 => hI.ins 8 (by simp) h6 hlb hes h1 h2) <;> first | rfl | exact rfl | (go_simp; done)
  intro v8 G w5 hI hs2
  clear hI hs2 G w5
  (try simp only [Act.put, List.setIfInBounds_toArray, List.set_cons_zero, List.set_cons_succ])
  with_reducible refine RI.lexL_give' ?_ ?_ ?_ ?_; (· with_reducible rfl); (· decide)
  · intro G w5 hI hA hg
    have h6 := hA 6 (by decide) _ rfl
    obtain ⟨b9, es, hb9, hlb, hmg, hes⟩ := hI.m6 _ h6
    have hb9 : b6 = b9 := by injection hb9 with hb9; injection hb9
    subst hb9
    refine gives_insert (.tmp 19) (.const (.int .u8 4)) (.const (.string ⟨#[]⟩)) 122 rfl 9 keyU Tryd.underlying122 ?_ hmg (kkW 9) ?_ (by decide) (by rw [hes 9 (by simp), hg]; rfl) (.string (ssW 9)) ?_ (fun w' h1 h2 => hI.ins 9 (by simp) h6 hlb hes h1 h2) <;> first | rfl | exact rfl | (go_simp; done)
  intro v9 G w5 hI hs2
  clear hI hs2 G w5
  (try simp only [Act.put, List.setIfInBounds_toArray, List.set_cons_zero, List.set_cons_succ])
  with_reducible refine RI.lexL_quiet' (v := ?_) ?_ ?_ ?_ ?_; rotate_left; (· with_reducible rfl); (· decide); (· intro G w1 hI1 hA1; have hw1 := hI1.ext; go_simp; with_reducible rfl); (try simp only [Act.put, List.setIfInBounds_toArray, List.set_cons_zero, List.set_cons_succ])
  with_reducible refine RI.lexL_quiet' (v := ?_) ?_ ?_ ?_ ?_; rotate_left; (· with_reducible rfl); (· decide); (· intro G w1 hI1 hA1; have hw1 := hI1.ext; go_simp; with_reducible rfl); (try simp only [Act.put, List.setIfInBounds_toArray, List.set_cons_zero, List.set_cons_succ])
  with_reducible refine RI.lexL_quiet' (v := ?_) ?_ ?_ ?_ ?_; rotate_left; (· with_reducible rfl); (· decide); (· intro G w1 hI1 hA1; have hw1 := hI1.ext; go_simp; with_reducible rfl); (try simp only [Act.put, List.setIfInBounds_toArray, List.set_cons_zero, List.set_cons_succ])
  with_reducible refine RI.lexL_quiet' (v := .string (⟨#[38]⟩ : ByteArray)) ?_ ?_ ?_ ?_; (· with_reducible rfl); (· decide)
  · intro G w5 hI hA
    have h6 := hA 6 (by decide) _ rfl
    have h7 := hA 7 (by decide) _ rfl
    have h8 := hA 8 (by decide) _ rfl
    have h9 := hA 9 (by decide) _ rfl
    obtain ⟨b9, es, hb9, hlb, hmg, hes⟩ := hI.m6 _ h6
    have hb9 : b6 = b9 := by injection hb9 with hb9; injection hb9
    subst hb9
    refine quiet_lookup (.tmp 20) (.tmp 22) 122 false rfl 9 keyU Tryd.underlying122 (zero9 _) ?_ hmg 5 ?_ (by decide) _ ?_ <;> first | rfl | exact rfl | (go_simp; done) | (have e7 := hes 7 (by simp); have e8 := hes 8 (by simp); have e9 := hes 9 (by simp); rw [h7] at e7; rw [h8] at e8; rw [h9] at e9; simp [kkW, ssW] at e7 e8 e9; simp [e7, e8, e9])
  (try simp only [Act.put, List.setIfInBounds_toArray, List.set_cons_zero, List.set_cons_succ])
  repeat (first | (with_reducible refine RI.lexL_quiet' (v := ?_) ?_ ?_ ?_ ?_; rotate_left; (· with_reducible rfl); (· decide); (· intro G w1 hI1 hA1; have hw1 := hI1.ext; go_simp; with_reducible rfl); (try simp only [Act.put, List.setIfInBounds_toArray, List.set_cons_zero, List.set_cons_succ])) | (with_reducible refine RI.lexL_skip ?_ ?_; (· simp [Region.wanted, yielded, undef]); (try simp only [Act.put, List.setIfInBounds_toArray, List.set_cons_zero, List.set_cons_succ])) | (with_reducible refine RI.lexL_quiet (v := ?_) ?_ ?_ ?_ ?_; rotate_left; (· simp [Region.wanted, yielded, undef]); (· decide); (· intro G w1 hI1 hA1; have hw1 := hI1.ext; go_simp; with_reducible rfl); (try simp only [Act.put, List.setIfInBounds_toArray, List.set_cons_zero, List.set_cons_succ])))
  with_reducible refine RI.lexL_give' ?_ ?_ ?_ ?_; (· with_reducible rfl); (· decide)
  · intro G w5 hI hA hg
    have hw5 := hI.ext
    go_simp
    refine (HH2.out w5 (HE2.out.trans hw5)).mono ?_
    rintro e w6 ⟨rfl, e6⟩
    exact ⟨_, rfl, hI.call 21 _ (.inr ⟨rfl, rfl⟩) e6⟩
  intro v21 G w5 hI hs2
  have hv21 := hI.c21 v21 (hs2 21 v21 rfl)
  subst hv21
  clear hI hs2 G w5
  (try simp only [Act.put, List.setIfInBounds_toArray, List.set_cons_zero, List.set_cons_succ])
  with_reducible refine RI.lexL_nil ?_; intro w1 hI1; simp only [List.drop_succ_cons, List.drop_zero]
  have HE3 := Lib.hid (HE2.out.trans hI1.ext)
  clear hI1
  go_upto_region 14 with fail
  have hs0 : sx ++ (⟨#[38]⟩ : ByteArray) ++ sy = s0 := HS0.out.symm
  rw [hs0]
  clear hs0
  by_cases hp : (2 : Int) < m
  · have HR : Hid (r = parB true s0) := Lib.hid (by rw [HR0.out, decide_eq_true hp])
    go_wp2
    go_ret
    exact ⟨by rw [HR.out]; rfl, HE3.out⟩
  · have HR : Hid (r = parB false s0) := Lib.hid (by rw [HR0.out, decide_eq_false hp])
    go_wp2
    go_ret
    exact ⟨by rw [HR.out]; rfl, HE3.out⟩
theorem wr_any : ∀ r : Rx, WrS r
  | .none => wr_none | .empty => wr_empty | .sym a => wr_sym a
  | .or x y => wr_or x y (wr_any x) (wr_any y) | .seq x y => wr_seq x y (wr_any x) (wr_any y) | .and x y => wr_and x y (wr_any x) (wr_any y)
  | .star x => wr_star x (wr_any x) | .not x => wr_not x (wr_any x)
theorem write_any {r : Rx} {w : World} {v : Value} (m : Int) (h : NodeV w r.tr v) (hT : Tabs w) (ho : r.okS 16 = true) (hc : r.cnt ≤ 1000) : Calls Tryd.prog 62 #[v, .int .i64 m] w (StrP w (wrB r m)) := wr_any r w v m h hT ho hc
end Go.Proofs.YtmebgomnmlbgnaaDoor
