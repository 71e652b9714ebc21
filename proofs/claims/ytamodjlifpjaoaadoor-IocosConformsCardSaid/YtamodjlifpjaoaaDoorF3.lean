/- ref27.Conforms 22. -/
import Derived.Test.YtamodjlifpjaoaaDoorF2
import Derived.Test.YtamodjlifpjaoaaDoorGR
import Derived.Test.YtamodjlifpjaoaaDoorGJ
namespace Go.Proofs.YtamodjlifpjaoaaDoor
open Go.RowKit
set_option linter.unusedVariables false
set_option linter.unusedSimpArgs false
attribute [local go_sem] Oper.quietV quietV Oper.gives givesV ext_refl_iff ext_alloc_iff ext_drew_iff ext_drewN_iff
attribute [local go_sem] RI.Oper.gives RI.givesV
def RConfP (w : World) (r : Int × List Int × Int) (e : Ending) (w' : World) : Prop := ∃ tv c, e = .returned (.tuple #[.int .i64 r.1, tv, .int .i64 r.2.2]) ∧ IntsC w' tv r.2.1 c ∧ Ext w w'
def LisQ (l : List Int) (v : Value) (w : World) : Prop := ∃ A c, v = .slice A l.length c ∧ IntsC w (.slice A l.length c) l c
theorem stays_lisQ (l : List Int) : Stays Ext (LisQ l) := fun v w w' hE ⟨A, c, hv, h⟩ => ⟨A, c, hv, h.ext hE⟩
def LisF (N : Nat) (l : List Int) (v : Value) (w : World) : Prop := ∃ A c, v = .slice A l.length c ∧ IntsC w (.slice A l.length c) l c ∧ FarV N (.slice A l.length c)
theorem stays_lisF (N : Nat) (l : List Int) : Stays Ext (LisF N l) := fun v w w' hE ⟨A, c, hv, h, hf⟩ => ⟨A, c, hv, h.ext hE, hf⟩
def IntP (z : Int) (v : Value) (w : World) : Prop := v = .int .i64 z
theorem stays_intP (z : Int) : Stays Ext (IntP z) := fun v w w' _ h => h
theorem spL_zero (x y : Lts) : spL x y (goC x y 0) = [((begM x, begM y), [])] := by
  have h : (fndL x y)[0]? = some (rt (rootC x y)) := pre_get (goC_pre (n := 0) (by omega)) rfl
  unfold spL
  show [((rt (rootC x y)).key, wayC x y 0)] = _
  have hw : wayC x y 0 = [] := wayB_first h
  rw [hw]; rfl
theorem mid_at {x y : Lts} {n j : Nat} (h : n < (goC x y n).length) : (spL x y (midC x y n j))[n]? = some (keyC x y (goC x y n) n, wayC x y n) := by
  have h1 := midC_get (j := j) h
  rw [spL_get (List.getElem?_eq_some_iff.1 h1).1]
  unfold keyC
  rw [fd_get h1, fd_get (List.getElem?_eq_getElem h)]
theorem sp_start {W1 W2 : World} {x y : Lts} {va vb : Value} (e : Ext W1 W2) (h1 : LisW va (memI (begM x)) W2) (h2 : LisW vb (memI (begM y)) W2) (f1 : FarV W1.heap.size va) (f2 : FarV W1.heap.size vb) :
    SpSt W1 (W2.alloc (.cells #[va, vb, .slice none 0 0] 96)) (.slice (some ⟨W2.heap.size, 0, none⟩) 1 1) (spL x y (goC x y 0)) := by
  rw [spL_zero]
  have hz : LisW (.slice none 0 0) [] W2 := ⟨0, none, rfl, fun h => by simp at h, Nat.le_refl _, by simp [lenMax]⟩
  have h3 := (OwnL.nil (Ext.refl W1)).add e (sp_any (M := [(((begM x, begM y), []), (va, vb, .slice none 0 0))]) (fun z hz' => by rw [List.mem_singleton.1 hz']; exact ⟨h1, h2, hz⟩) (fun z hz' => by rw [List.mem_singleton.1 hz']; exact ⟨f1.w, f2.w, (far_nil _ 0 0).w⟩))
  exact ⟨[(((begM x, begM y), []), (va, vb, .slice none 0 0))], _, rfl, h3.add (alloc_ext W2 _) (A := .row 96 3 (.slice (some ⟨W2.heap.size, 0, none⟩) 1 1) 1 [va, vb, .slice none 0 0]) ⟨rfl, .inr ⟨W2.heap.size, 1, #[va, vb, .slice none 0 0], rfl, Nat.le_refl _, heap_alloc_new W2 _, Nat.le_refl _, by unfold maxLen; omega, rfl, rfl⟩⟩⟩
theorem SpSt.form {W0 W : World} {v : Value} {L : List Sp} (h : SpSt W0 W v L) (hn : 0 < L.length) : ∃ b c, v = .slice (some ⟨b, 0, none⟩) L.length c := by
  obtain ⟨s, hs⟩ : ∃ s, L[0]? = some s := ⟨_, List.getElem?_eq_getElem hn⟩
  obtain ⟨b, c, _, _, _, hv, _⟩ := h.at_ hs
  exact ⟨b, c, hv⟩
theorem goC_pos (x y : Lts) (n : Nat) : 0 < (goC x y n).length := Nat.lt_of_lt_of_le (Nat.zero_lt_one : 0 < [rt (rootC x y)].length) (goB_le (i := 0) (j := n) (Nat.zero_le n)).length_le
theorem lab_cast {x : Lts} (hx : Good x) (l : Int) (h0 : 0 ≤ l) (h1 : l ≤ x.ins + x.outs) : ∃ j : Nat, l = (j : Int) ∧ j < x.I + x.O + 1 := by
  have h2 := hx.II.1
  have h3 := hx.OO.1
  exact ⟨l.toNat, by omega, by omega⟩
theorem spot_info : (Tryd.prog.info? 96).map (fun i => (i.zero, i.size, i.bytes)) = some (some (.agg #[.slice none 0 0, .slice none 0 0, .slice none 0 0]), 3, 72) := by kernel_rfl
theorem key_dec {a b S T : Nat} : decide ((a, b) = (S, T)) = ((a == S) && (b == T)) := by
  by_cases h1 : a = S
  · by_cases h2 : b = T
    · subst h1 h2; simp
    · have : (b == T) = false := by simpa using h2
      rw [this]; simp [h2]
  · have : (a == S) = false := by simpa using h1
    rw [this]; simp [h1]
theorem LisW.ext {v : Value} {xs : List Int} {w w' : World} (h : LisW v xs w) (e : Ext w w') : LisW v xs w' := by obtain ⟨c, h⟩ := h; exact ⟨c, h.ext e⟩
theorem three_one (A B C : Option Addr) (a b c d e f : Nat) : ∀ u ∈ [Value.slice A a b, .slice B c d, .slice C e f], u.oneCell' = true := by intro u hu; simp at hu; rcases hu with rfl | rfl | rfl <;> rfl
set_option maxRecDepth 100000 in
set_option maxHeartbeats 32000000 in
theorem refConforms_any (w : World) (v u : Value) (x y : Lts) (hd : LtsV w v x) (he : LtsV w u y) (hx : Good x) (hy : Good y) (h5 : x.n ≤ 5) (h5' : y.n ≤ 5) (hi : x.ins = y.ins) (ho : x.outs = y.outs) :
    Calls Tryd.prog 22 #[v, u] w (RConfP w (refConf x y)) := by
  obtain ⟨i96, hi96, hz96, hs96, hb96⟩ := info_parts spot_info
  obtain ⟨A, c, rfl, hr, hrl⟩ := id hd.form
  obtain ⟨B, d, rfl, _, _⟩ := id he.form
  have HX := Lib.hid (And.intro hd (And.intro he (And.intro hx (And.intro hy (And.intro h5 (And.intro h5' (And.intro hi ho)))))))
  have hbx := fun W (e : Ext w W) => refBeginF_any W _ x (hd.ext e) hx
  have hby := fun W (e : Ext w W) => refBeginF_any W _ y (he.ext e) hy
  have b1' := hx.ins
  have b2' := hx.outs
  clear hd he hx hy h5 h5' hi ho hr hrl
  go_enter Tryd.func22, Tryd.ntmps22
  go_upto_region 1 with fail
  refine wp_named ?_
  intro W1 hW1
  have hE1 : Ext w W1 := by rw [hW1]; first | exact ((Ext.refl _).alloc _).alloc _ | exact (((Ext.refl _).alloc _).alloc _).drew
  have k0 : ∀ w', Ext W1 w' → w'.cell? ⟨w.heap.size, 0, none⟩ = some (.int .i64 x.ins) := fun w' h => h.cell (by rw [hW1]; simp [go_sem])
  have k1 : ∀ w', Ext W1 w' → w'.cell? ⟨w.heap.size, 1, none⟩ = some (.int .i64 x.outs) := fun w' h => h.cell (by rw [hW1]; simp [go_sem])
  have k2 : ∀ w', Ext W1 w' → w'.cell? ⟨w.heap.size, 2, none⟩ = some (.slice A x.rows.length c) := fun w' h => h.cell (by rw [hW1]; simp [go_sem])
  have m0 : ∀ w', Ext W1 w' → w'.cell? ⟨w.heap.size + 1, 0, none⟩ = some (.int .i64 y.ins) := fun w' h => h.cell (by rw [hW1]; simp [go_sem])
  have m1 : ∀ w', Ext W1 w' → w'.cell? ⟨w.heap.size + 1, 1, none⟩ = some (.int .i64 y.outs) := fun w' h => h.cell (by rw [hW1]; simp [go_sem])
  have m2 : ∀ w', Ext W1 w' → w'.cell? ⟨w.heap.size + 1, 2, none⟩ = some (.slice B y.rows.length d) := fun w' h => h.cell (by rw [hW1]; simp [go_sem])
  clear hW1
  generalize w.heap.size + 1 = b3 at *
  generalize w.heap.size = b2 at *
  have hE0 := Ext.refl W1
  refine wp_region_ext 3 (factsOf [(1, LisF W1.heap.size (memI (begM x)))]) (fun k => ([[], [0], [], [0, 1, 2], [0, 1, 2, 3], [0, 1, 2, 3, 4], [0, 1, 2, 3, 4, 5]] : List (List Nat)).getD k []) (by kernel_rfl) (by kernel_rfl) Ext.pre (mono_cons (stays_lisF _ _) (mono_nil)) ?_
  simp only [List.take_succ_cons, List.take_zero]
  repeat (first | (with_reducible refine lexL_quiet' (v := ?_) ?_ ?_ ?_ ?_; rotate_left; (· with_reducible rfl); (· simp [factsOf]); (· intro w1 hw1 _; go_simp; with_reducible rfl); (try simp only [Act.put, List.setIfInBounds_toArray, List.set_cons_zero, List.set_cons_succ])) | (with_reducible refine lexL_skip ?_ ?_; (· simp [Region.wanted, yielded, undef]); (try simp only [Act.put, List.setIfInBounds_toArray, List.set_cons_zero, List.set_cons_succ])) | (with_reducible refine lexL_quiet (v := ?_) ?_ ?_ ?_ ?_; rotate_left; (· simp [Region.wanted, yielded, undef]); (· simp [factsOf]); (· intro w1 hw1 _; go_simp; with_reducible rfl); (try simp only [Act.put, List.setIfInBounds_toArray, List.set_cons_zero, List.set_cons_succ])))
  with_reducible refine lexL_give' (φ := ?_) ?_ ?_ ?_ ?_; rotate_left; (· with_reducible rfl); (· simp only [factsOf, Nat.reduceAdd, ↓reduceIte, Nat.reduceEqDiff]; rfl)
  · intro w5 hw5 _
    go_simp
    refine (hbx w5 (hE1.trans hw5)).mono ?_
    rintro e w6 ⟨rv, c, rfl, hi, e6, hf⟩
    obtain ⟨A9, rfl, h9⟩ := id hi
    exact ⟨_, rfl, e6, A9, c, rfl, hi, FarV.mono hf hw5.size⟩
  rintro v9 w5 hw5 ⟨A9, c9, rfl, h9⟩ hk2
  clear hk2 h9 hw5 w5
  (try simp only [Act.put, List.setIfInBounds_toArray, List.set_cons_zero, List.set_cons_succ])
  repeat (first | (with_reducible refine lexL_quiet' (v := ?_) ?_ ?_ ?_ ?_; rotate_left; (· with_reducible rfl); (· simp [factsOf]); (· intro w1 hw1 _; go_simp; with_reducible rfl); (try simp only [Act.put, List.setIfInBounds_toArray, List.set_cons_zero, List.set_cons_succ])) | (with_reducible refine lexL_skip ?_ ?_; (· simp [Region.wanted, yielded, undef]); (try simp only [Act.put, List.setIfInBounds_toArray, List.set_cons_zero, List.set_cons_succ])) | (with_reducible refine lexL_quiet (v := ?_) ?_ ?_ ?_ ?_; rotate_left; (· simp [Region.wanted, yielded, undef]); (· simp [factsOf]); (· intro w1 hw1 _; go_simp; with_reducible rfl); (try simp only [Act.put, List.setIfInBounds_toArray, List.set_cons_zero, List.set_cons_succ])))
  with_reducible refine lexL_nil ?_; intro w1 hw1 hk1; simp only [List.drop_succ_cons, List.drop_zero]
  obtain ⟨A9', c9', hv9, hi9, hf9⟩ := hk1.get 1 rfl rfl
  injection hv9 with hvA _ hvc
  subst hvA hvc
  have hby1 := hby w1 (hE1.trans hw1)
  have H1 := Lib.hid (And.intro hw1 (And.intro hi9 hf9))
  clear hk1 hi9 hf9 hbx hby hw1
  go_upto_region 2 with ((with_reducible refine hby1.mono ?_); rintro e W2 ⟨rv, c10, rfl, hi10, e2, hf10⟩; obtain ⟨A10, rfl, _⟩ := id hi10)
  have hS := sp_start (x := x) (y := y) (H1.out.1.trans e2) ⟨_, H1.out.2.1.ext e2⟩ ⟨_, hi10⟩ H1.out.2.2 (FarV.mono hf10 H1.out.1.size)
  have HS := Lib.hid (And.intro hS hE1)
  have HK := Lib.hid (And.intro k0 (And.intro k1 (And.intro k2 (And.intro m0 (And.intro m1 m2)))))
  have hl0 : (spL x y (goC x y 0)).length = 1 := by rw [spL_len]; rfl
  clear hby1 hS hE1 hE0 k0 k1 k2 m0 m1 m2 e2 hi10 hf10 H1
  go_wp2
  go_loopw [8, 7] (fun nv av wr => ∃ n : Nat, nv = .int .i64 n ∧ Hid (n ≤ (goC x y n).length ∧ ∀ (m : Nat) (r : Fd (Nat × Nat)), m < n → (fndL x y)[m]? = some r → offC x y r = false) ∧ Hid (SpSt W1 wr av (spL x y (goC x y n)))) (fun nv _ _ => 1025 - (intOf nv).toNat)
  case atStart => exact ⟨0, rfl, Lib.hid ⟨Nat.zero_le _, fun m r hm => by omega⟩, Lib.hid (by first | exact HS.out.1 | exact HS.out.1.trans (drew_ext _))⟩
  case round =>
    obtain ⟨n, rfl, HN, HA⟩ := hrel
    obtain ⟨W4, hW4⟩ : ∃ W, W = wr := ⟨_, rfl⟩; subst hW4
    obtain ⟨b7, c7, hv7⟩ := HA.out.form (by rw [spL_len]; exact goC_pos x y n)
    rw [spL_len] at hv7
    subst hv7
    have hE4 := HA.out.ext
    have hsm := goC_small HX.out.2.2.1 HX.out.2.2.2.1 HX.out.2.2.2.2.1 HX.out.2.2.2.2.2.1 n
    by_cases hlt : n < (goC x y n).length
    · have hlI : (n : Int) < ((goC x y n).length : Int) := by omega
      obtain ⟨b', c', va, vb, vt, hv', q0, q1, q2, hla, hlb, hlt'⟩ := HA.out.at_ (mid_at (j := 0) hlt)
      rw [spL_len] at hv'
      injection hv' with hv' _ hvc
      injection hv' with hv'
      injection hv' with hv' _ _
      subst hv' hvc
      obtain ⟨hSl, hTl⟩ := goC_key' HX.out.2.2.1 HX.out.2.2.2.1 hlt
      obtain ⟨S, hS⟩ : ∃ S, S = (keyC x y (goC x y n) n).1 := ⟨_, rfl⟩
      obtain ⟨T, hT⟩ : ∃ T, T = (keyC x y (goC x y n) n).2 := ⟨_, rfl⟩
      obtain ⟨ts, hts⟩ : ∃ ts, ts = wayC x y n := ⟨_, rfl⟩
      simp only [← hS, ← hT, ← hts] at hla hlb hlt' hSl hTl
      have HKY := Lib.hid (And.intro hS (And.intro hT hts))
      obtain ⟨ca, hia⟩ := hla
      obtain ⟨cb, hib⟩ := hlb
      obtain ⟨ct, hit⟩ := hlt'
      obtain ⟨Aa, rfl, _⟩ := id hia
      obtain ⟨Ab, rfl, _⟩ := id hib
      obtain ⟨At, rfl, _⟩ := id hit
      have HI := Lib.hid (And.intro hia (And.intro hib (And.intro hit (And.intro hSl hTl))))
      have q0 := fun w' (h : Ext W4 w') => h.cell q0
      have q1 := fun w' (h : Ext W4 w') => h.cell q1
      have q2 := fun w' (h : Ext W4 w') => h.cell q2
      have k0 := fun w' (h : Ext W4 w') => HK.out.1 w' (hE4.trans h)
      have k1 := fun w' (h : Ext W4 w') => HK.out.2.1 w' (hE4.trans h)
      have k2 := fun w' (h : Ext W4 w') => HK.out.2.2.1 w' (hE4.trans h)
      have m0 := fun w' (h : Ext W4 w') => HK.out.2.2.2.1 w' (hE4.trans h)
      have m1 := fun w' (h : Ext W4 w') => HK.out.2.2.2.2.1 w' (hE4.trans h)
      have m2 := fun w' (h : Ext W4 w') => HK.out.2.2.2.2.2 w' (hE4.trans h)
      have hob := fun W' (e : Ext W4 W') => refObserve_any W' _ _ x S ca (HX.out.1.ext (HS.out.2.trans (hE4.trans e))) HX.out.2.2.1 HI.out.2.2.2.1 (HI.out.1.ext e)
      have hob2 := fun W' (e : Ext W4 W') => refObserve_any W' _ _ y T cb (HX.out.2.1.ext (HS.out.2.trans (hE4.trans e))) HX.out.2.2.2.1 HI.out.2.2.2.2 (HI.out.2.1.ext e)
      have HE4 := Lib.hid hE4
      have hE0 := Ext.refl W4
      have HLT := Lib.hid hlt
      clear hS hT hts hia hib hit hSl hTl hE4
      go_upto_region 5 with fail
      refine wp_region_ext 13 (factsOf [(6, LisQ (obsM x S))]) (fun k => ([[], [], [], [1, 2], [1, 2, 3], [1, 2, 3, 4], [0, 1, 2, 3, 4, 5], [], [], [], [8, 9], [8, 9, 10], [8, 9, 10, 11], [0, 1, 2, 3, 4, 5, 6, 7, 8, 9, 10, 11, 12], [0, 1, 2, 3, 4, 5, 6, 7, 8, 9, 10, 11, 12, 13], [0, 1, 2, 3, 4, 5, 6, 7, 8, 9, 10, 11, 12, 13, 14]] : List (List Nat)).getD k []) (by kernel_rfl) (by kernel_rfl) Ext.pre (mono_cons (stays_lisQ _) (mono_nil)) ?_
      simp only [List.take_succ_cons, List.take_zero]
      repeat (first | (with_reducible refine lexL_quiet' (v := ?_) ?_ ?_ ?_ ?_; rotate_left; (· with_reducible rfl); (· simp [factsOf]); (· intro w1 hw1 _; go_simp; with_reducible rfl); (try simp only [Act.put, List.setIfInBounds_toArray, List.set_cons_zero, List.set_cons_succ])) | (with_reducible refine lexL_skip ?_ ?_; (· simp [Region.wanted, yielded, undef]); (try simp only [Act.put, List.setIfInBounds_toArray, List.set_cons_zero, List.set_cons_succ])) | (with_reducible refine lexL_quiet (v := ?_) ?_ ?_ ?_ ?_; rotate_left; (· simp [Region.wanted, yielded, undef]); (· simp [factsOf]); (· intro w1 hw1 _; go_simp; with_reducible rfl); (try simp only [Act.put, List.setIfInBounds_toArray, List.set_cons_zero, List.set_cons_succ])))
      with_reducible refine lexL_give' (φ := ?_) ?_ ?_ ?_ ?_; rotate_left; (· with_reducible rfl); (· simp only [factsOf, Nat.reduceAdd, ↓reduceIte, Nat.reduceEqDiff]; rfl)
      · intro w5 hw5 _
        go_simp
        refine (hob w5 hw5).mono ?_
        rintro e w6 ⟨rv, c, rfl, hi, e6⟩
        obtain ⟨A9, rfl, h9⟩ := id hi
        exact ⟨_, rfl, e6, A9, c, rfl, hi⟩
      rintro v9 w5 hw5 ⟨A5, c5, rfl, h9⟩ hk2
      clear hk2 h9 hw5 w5
      (try simp only [Act.put, List.setIfInBounds_toArray, List.set_cons_zero, List.set_cons_succ])
      repeat (first | (with_reducible refine lexL_quiet' (v := ?_) ?_ ?_ ?_ ?_; rotate_left; (· with_reducible rfl); (· simp [factsOf]); (· intro w1 hw1 _; go_simp; with_reducible rfl); (try simp only [Act.put, List.setIfInBounds_toArray, List.set_cons_zero, List.set_cons_succ])) | (with_reducible refine lexL_skip ?_ ?_; (· simp [Region.wanted, yielded, undef]); (try simp only [Act.put, List.setIfInBounds_toArray, List.set_cons_zero, List.set_cons_succ])) | (with_reducible refine lexL_quiet (v := ?_) ?_ ?_ ?_ ?_; rotate_left; (· simp [Region.wanted, yielded, undef]); (· simp [factsOf]); (· intro w1 hw1 _; go_simp; with_reducible rfl); (try simp only [Act.put, List.setIfInBounds_toArray, List.set_cons_zero, List.set_cons_succ])))
      with_reducible refine lexL_nil ?_; intro w1 hw1 hk1; simp only [List.drop_succ_cons, List.drop_zero]
      obtain ⟨A5', c5', hv9, hi5⟩ := hk1.get 6 rfl rfl
      injection hv9 with hvA _ hvc
      subst hvA hvc
      have hob3 := hob2 w1 hw1
      have H1 := Lib.hid (And.intro hw1 hi5)
      clear hk1 hi5 hob hob2 hw1
      go_upto_region 6 with ((with_reducible refine hob3.mono ?_); rintro e W6 ⟨rv, c6, rfl, hi6, e6⟩; obtain ⟨A6, rfl, _⟩ := id hi6)
      have H6 := Lib.hid (And.intro (H1.out.2.ext e6) (And.intro hi6 (H1.out.1.trans e6)))
      have H46 := Lib.hid (H1.out.1.trans e6)
      obtain ⟨hmc, hmn, hmm⟩ : Cells W6 A5 ((obsM x S).map (.int .i64)) ∧ (obsM x S).length ≤ c5 ∧ (obsM x S).length ≤ lenMax := by
        obtain ⟨A', h1, h2⟩ := H6.out.1
        injection h1 with h1 _ _
        subst h1; exact h2
      have HMC := Lib.hid hmc
      unfold lenMax at hmm
      clear H1 hob3 e6 hi6 hE0 hmc hmn
      go_wp2
      have HQ := Lib.hid (And.intro q0 (And.intro q1 q2))
      clear k0 k1 k2 m0 m1 m2 q0 q1 q2
      go_loopw [11] (fun iv wr => ∃ i : Nat, iv = .int .i64 i ∧ i ≤ (obsM x S).length ∧ Hid (∀ (j : Nat) (l : Int), j < i → (obsM x S)[j]? = some l → (aftM y T l == 0) = false) ∧ Ext W6 wr) (fun iv _ => (obsM x S).length - (intOf iv).toNat)
      case atStart => exact ⟨0, rfl, by omega, Lib.hid (fun j l hj => by omega), by first | exact Ext.refl _ | exact drew_ext _⟩
      case round =>
        obtain ⟨i, rfl, hi, HB, hE⟩ := hrel
        obtain ⟨W7, hW7⟩ : ∃ W, W = wr := ⟨_, rfl⟩; subst hW7
        by_cases hil : i < (obsM x S).length
        · obtain ⟨l, hl⟩ : ∃ l, (obsM x S)[i]? = some l := ⟨_, List.getElem?_eq_getElem hil⟩
          have hilI : (i : Int) < ((obsM x S).length : Int) := by omega
          obtain ⟨bm, om, hA5, cm⟩ := int_at (HMC.out.ext hE) hl
          subst hA5
          have hbs := has_obs HX.out.2.2.2.2.2.2.1 HX.out.2.2.2.2.2.2.2 (T := T) (List.mem_of_getElem? hl)
          have hhas := has_any W7 _ (obsM y T) c6 l (H6.out.2.1.ext hE)
          rw [hbs] at hhas
          have HL := Lib.hid hl
          clear hl hbs
          cases hz : aftM y T l == 0 with
          | true =>
            rw [hz, show b01 (!true) = 0 from rfl] at hhas
            have HZ := Lib.hid hz
            have q2 := fun w' (h : Ext W7 w') => HQ.out.2.2 w' (H46.out.trans (hE.trans h))
            have cm := fun w' (h : Ext W7 w') => h.cell cm
            have hE7 := Ext.refl W7
            have HE := Lib.hid hE
            clear hz hE
            go_wp2_with ((with_reducible refine hhas.mono ?_); rintro e W8 ⟨rfl, rfl⟩)
            go_quiet (fail)
            go_wp2
            refine bodyPost_ret (results_tmp3 rfl _ _ _) rfl ?_
            have hn4 : n ≤ 4096 := by omega
            have hrc := refConf_some (x := x) (y := y) (n := n) (l := l) (pre_get (goC_pre hn4) (List.getElem?_eq_getElem HLT.out)) (by
              rw [show ((goC x y n)[n]'HLT.out).key = keyC x y (goC x y n) n by unfold keyC; rw [fd_get (List.getElem?_eq_getElem HLT.out)]]
              exact find_at (by rw [← HKY.out.1]; exact HL.out) (by rw [← HKY.out.2.1]; exact HZ.out) (fun j b hj hb => by rw [← HKY.out.1] at hb; rw [← HKY.out.2.1]; exact HB.out j b hj hb)) (fun m z hm hz => HN.out.2 m z hm hz)
            rw [hrc]
            refine ⟨_, ct, rfl, ?_, HS.out.2.trans (HE4.out.trans (H46.out.trans (by first | exact HE.out | exact HE.out.drewN _ | exact HE.out.drew)))⟩
            show IntsC _ _ (wayC x y n) ct
            rw [← HKY.out.2.2]
            exact HI.out.2.2.1.ext (H46.out.trans (by first | exact HE.out | exact HE.out.drewN _ | exact HE.out.drew))
          | false =>
            rw [hz, show b01 (!false) = 1 from rfl] at hhas
            have HZ := Lib.hid hz
            clear hz
            go_wp2_with ((with_reducible refine hhas.mono ?_); rintro e W8 ⟨rfl, rfl⟩)
            go_roundw
            case rel => exact ⟨i + 1, by go_num, hil, Lib.hid (fun j l' hj hl' => by
              rcases Nat.lt_or_ge j i with h | h
              · exact HB.out j l' h hl'
              · obtain rfl : j = i := by omega
                rw [HL.out] at hl'; cases hl'
                exact HZ.out), by first | exact hE | exact hE.drew⟩
            case measure => simp [intOf]; omega
        · have hin : i = (obsM x S).length := by omega
          have HBE : Hid (badC x y (keyC x y (goC x y n) n) = none) := Lib.hid (find_no fun j b hb => by
            rw [← HKY.out.1] at hb
            rw [← HKY.out.2.1]
            exact HB.out j b (by rw [hin]; exact (List.getElem?_eq_some_iff.1 hb).1) hb)
          have HSP := Lib.hid (HA.out.trans (H46.out.trans hE))
          clear hin HB hE hmm
          go_wp2
          go_loopw [12, 7] (fun lv av wr => ∃ j : Nat, lv = .int .i64 j ∧ j ≤ x.I + x.O + 1 ∧ Hid (SpSt W1 wr av (spL x y (midC x y n j)))) (fun lv _ _ => x.I + x.O + 1 - (intOf lv).toNat)
          case atStart => exact ⟨0, rfl, Nat.zero_le _, Lib.hid (by first | exact HSP.out | exact HSP.out.trans (drew_ext _))⟩
          case round =>
            clear HSP HMC H6 H46 HQ HI
            obtain ⟨j, rfl, hj, HC⟩ := hrel
            obtain ⟨W8, hW8⟩ : ∃ W, W = wr := ⟨_, rfl⟩; subst hW8
            have hE8 := HC.out.ext
            have k0 := fun w' (h : Ext W8 w') => HK.out.1 w' (hE8.trans h)
            have k1 := fun w' (h : Ext W8 w') => HK.out.2.1 w' (hE8.trans h)
            have k2 := fun w' (h : Ext W8 w') => HK.out.2.2.1 w' (hE8.trans h)
            have m0 := fun w' (h : Ext W8 w') => HK.out.2.2.2.1 w' (hE8.trans h)
            have m1 := fun w' (h : Ext W8 w') => HK.out.2.2.2.2.1 w' (hE8.trans h)
            have m2 := fun w' (h : Ext W8 w') => HK.out.2.2.2.2.2 w' (hE8.trans h)
            have hI1 := HX.out.2.2.1.II.1
            have hO1 := HX.out.2.2.1.OO.1
            have hE0 := Ext.refl W8
            by_cases hjl : j < x.I + x.O + 1
            · have hjI : (j : Int) ≤ x.ins + x.outs := by omega
              have hml := midC_len HX.out.2.2.1 HX.out.2.2.2.1 HX.out.2.2.2.2.1 HX.out.2.2.2.2.2.1 HLT.out j
              obtain ⟨bm, cm, va, vb, vt, hv', q0, q1, q2, hla, hlb, hlt'⟩ := HC.out.at_ (mid_at (j := j) HLT.out)
              rw [spL_len] at hv'
              subst hv'
              simp only [← HKY.out.1, ← HKY.out.2.1, ← HKY.out.2.2] at hla hlb hlt'
              obtain ⟨hSl, hTl⟩ := goC_key' HX.out.2.2.1 HX.out.2.2.2.1 HLT.out
              rw [← HKY.out.1] at hSl
              rw [← HKY.out.2.1] at hTl
              have hnl : n < (midC x y n j).length := (List.getElem?_eq_some_iff.1 (midC_get (j := j) HLT.out)).1
              have hnI : (n : Int) < ((midC x y n j).length : Int) := by omega
              obtain ⟨ca, hia⟩ := hla
              obtain ⟨cb, hib⟩ := hlb
              obtain ⟨ct, hit⟩ := hlt'
              obtain ⟨Aa, rfl, _⟩ := id hia
              obtain ⟨Ab, rfl, _⟩ := id hib
              obtain ⟨At, rfl, _⟩ := id hit
              have q0 := fun w' (h : Ext W8 w') => h.cell q0
              have q1 := fun w' (h : Ext W8 w') => h.cell q1
              have q2 := fun w' (h : Ext W8 w') => h.cell q2
              have hnx1 := fun W' (e : Ext W8 W') => refNextF_any W' _ _ x S ca (j : Int) (HX.out.1.ext (HS.out.2.trans (hE8.trans e))) HX.out.2.2.1 hSl (hia.ext e) (by omega) hjI
              have hnx2 := fun W' (e : Ext W8 W') => refNextF_any W' _ _ y T cb (j : Int) (HX.out.2.1.ext (HS.out.2.trans (hE8.trans e))) HX.out.2.2.2.1 hTl (hib.ext e) (by omega) (by rw [← HX.out.2.2.2.2.2.2.1, ← HX.out.2.2.2.2.2.2.2]; exact hjI)
              have HI := Lib.hid (And.intro hia (And.intro hib hit))
              have hwl : ts.length ≤ 1024 := by
                have h1 := wayC_ln (pre_get (goC_pre (x := x) (y := y) (n := n) (by omega)) (List.getElem?_eq_getElem HLT.out))
                have h2 := ((goC_ok x y n).ln n _ (List.getElem?_eq_getElem HLT.out)).2.1
                rw [HKY.out.2.2]
                omega
              have HW := Lib.hid (And.intro hml (And.intro hnl hwl))
              have HE8 := Lib.hid hE8
              have HNX : Hid (nxtC x y n j = (aftM x S (j : Int), aftM y T (j : Int))) := Lib.hid (by unfold nxtC; rw [← HKY.out.1, ← HKY.out.2.1])
              have hSl' := aftM_lt HX.out.2.2.1 hSl (j : Int)
              have hTl' := aftM_lt HX.out.2.2.2.1 hTl (j : Int)
              obtain ⟨S', hS'⟩ : ∃ S', S' = aftM x S (j : Int) := ⟨_, rfl⟩
              obtain ⟨T', hT'⟩ : ∃ T', T' = aftM y T (j : Int) := ⟨_, rfl⟩
              rw [← hS', ← hT'] at HNX
              rw [← hS'] at hSl' hnx1
              rw [← hT'] at hTl' hnx2
              have HSL := Lib.hid (And.intro hSl' hTl')
              clear hia hib hit hwl hml hnl hE8 hSl hTl hSl' hTl' hS' hT'
              go_upto_region 14 with fail
              refine RI.wp_region_inv 28 (I14 W8 S' T' ts (j : Int)) (fun k => [7, 15, 16, 22, 24, 25, 27].contains k) (fun k => ([[], [], [], [1, 2], [1, 2, 3], [1, 2, 3, 4], [], [0, 1, 2, 3, 4, 5, 6], [], [], [], [9, 10], [9, 10, 11], [9, 10, 11, 12], [], [0, 1, 2, 3, 4, 5, 6, 7, 8, 9, 10, 11, 12, 13, 14], [], [], [], [17, 18], [17, 18, 19], [17, 18, 19, 20], [0, 1, 2, 3, 4, 5, 6, 7, 8, 9, 10, 11, 12, 13, 14, 15, 16, 17, 18, 19, 20, 21], [], [23], [0, 1, 2, 3, 4, 5, 6, 7, 8, 9, 10, 11, 12, 13, 14, 15, 16, 17, 18, 19, 20, 21, 22, 23, 24], [0, 1, 2, 3, 4, 5, 6, 7, 8, 9, 10, 11, 12, 13, 14, 15, 16, 17, 18, 19, 20, 21, 22, 23, 24, 25], [], [0, 1, 2, 3, 4, 5, 6, 7, 8, 9, 10, 11, 12, 13, 14, 15, 16, 17, 18, 19, 20, 21, 22, 23, 24, 25, 26, 27]] : List (List Nat)).getD k []) (by kernel_rfl) (by kernel_rfl) ?_ ?_
              rotate_left; simp only [List.take_succ_cons, List.take_zero]; rotate_left
              · exact I14.start W8 S' T' ts (j : Int) hE0.drew
              repeat (first | (with_reducible refine RI.lexL_quiet' (v := ?_) ?_ ?_ ?_ ?_; rotate_left; (· with_reducible rfl); (· decide); (· intro G w1 hI1 hA1; have hw1 := hI1.ext; go_simp; with_reducible rfl); (try simp only [Act.put, List.setIfInBounds_toArray, List.set_cons_zero, List.set_cons_succ])) | (with_reducible refine RI.lexL_skip ?_ ?_; (· simp [Region.wanted, yielded, undef]); (try simp only [Act.put, List.setIfInBounds_toArray, List.set_cons_zero, List.set_cons_succ])) | (with_reducible refine RI.lexL_quiet (v := ?_) ?_ ?_ ?_ ?_; rotate_left; (· simp [Region.wanted, yielded, undef]); (· decide); (· intro G w1 hI1 hA1; have hw1 := hI1.ext; go_simp; with_reducible rfl); (try simp only [Act.put, List.setIfInBounds_toArray, List.set_cons_zero, List.set_cons_succ])))
              with_reducible refine RI.lexL_give' ?_ ?_ ?_ ?_; (· with_reducible rfl); (· decide)
              · intro G w5 hI hA hg
                have hw5 := hI.ext
                go_simp
                refine (hnx1 w5 hw5).mono ?_
                rintro e w6 ⟨rv, c, rfl, hi, e6, hf⟩
                exact ⟨_, rfl, hI.set7 hg e6 ⟨c, hi⟩ hf⟩
              intro v7 G w5 hI hs
              obtain ⟨c7', A7', rfl, h9⟩ := hI.lis7 (hs 7 v7 rfl)
              clear h9 hI hs G w5
              (try simp only [Act.put, List.setIfInBounds_toArray, List.set_cons_zero, List.set_cons_succ])
              repeat (first | (with_reducible refine RI.lexL_quiet' (v := ?_) ?_ ?_ ?_ ?_; rotate_left; (· with_reducible rfl); (· decide); (· intro G w1 hI1 hA1; have hw1 := hI1.ext; go_simp; with_reducible rfl); (try simp only [Act.put, List.setIfInBounds_toArray, List.set_cons_zero, List.set_cons_succ])) | (with_reducible refine RI.lexL_skip ?_ ?_; (· simp [Region.wanted, yielded, undef]); (try simp only [Act.put, List.setIfInBounds_toArray, List.set_cons_zero, List.set_cons_succ])) | (with_reducible refine RI.lexL_quiet (v := ?_) ?_ ?_ ?_ ?_; rotate_left; (· simp [Region.wanted, yielded, undef]); (· decide); (· intro G w1 hI1 hA1; have hw1 := hI1.ext; go_simp; with_reducible rfl); (try simp only [Act.put, List.setIfInBounds_toArray, List.set_cons_zero, List.set_cons_succ])))
              with_reducible refine RI.lexL_give' ?_ ?_ ?_ ?_; (· with_reducible rfl); (· decide)
              · intro G w5 hI hA hg
                have hw5 := hI.ext
                go_simp
                refine (hnx2 w5 hw5).mono ?_
                rintro e w6 ⟨rv, c, rfl, hi, e6, hf⟩
                exact ⟨_, rfl, hI.set15 hg e6 ⟨c, hi⟩ hf⟩
              intro v15 G w5 hI hs
              obtain ⟨c15', A15', rfl, h9⟩ := hI.lis15 (hs 15 v15 rfl)
              clear h9 hI hs G w5
              (try simp only [Act.put, List.setIfInBounds_toArray, List.set_cons_zero, List.set_cons_succ])
              with_reducible refine RI.lexL_give' ?_ ?_ ?_ ?_; (· with_reducible rfl); (· decide)
              · intro G w5 hI hA hg
                go_simp
                exact hI.set16 hg
              intro v16 G w5 hI hs
              obtain ⟨b16, rfl⟩ := hI.p16 v16 (hs 16 v16 rfl)
              clear hI hs G w5
              (try simp only [Act.put, List.setIfInBounds_toArray, List.set_cons_zero, List.set_cons_succ])
              repeat (first | (with_reducible refine RI.lexL_quiet' (v := ?_) ?_ ?_ ?_ ?_; rotate_left; (· with_reducible rfl); (· decide); (· intro G w1 hI1 hA1; have hw1 := hI1.ext; go_simp; with_reducible rfl); (try simp only [Act.put, List.setIfInBounds_toArray, List.set_cons_zero, List.set_cons_succ])) | (with_reducible refine RI.lexL_skip ?_ ?_; (· simp [Region.wanted, yielded, undef]); (try simp only [Act.put, List.setIfInBounds_toArray, List.set_cons_zero, List.set_cons_succ])) | (with_reducible refine RI.lexL_quiet (v := ?_) ?_ ?_ ?_ ?_; rotate_left; (· simp [Region.wanted, yielded, undef]); (· decide); (· intro G w1 hI1 hA1; have hw1 := hI1.ext; go_simp; with_reducible rfl); (try simp only [Act.put, List.setIfInBounds_toArray, List.set_cons_zero, List.set_cons_succ])))
              with_reducible refine RI.lexL_give' ?_ ?_ ?_ ?_; (· with_reducible rfl); (· decide)
              · intro G w5 hI hA hg
                have h16 := hA 16 (by decide) _ rfl
                exact gives_open ts ct b16 _ _ _ rfl (by rfl) (by rfl) (HI.out.2.2.ext hI.ext) (by have := HW.out.2.2; omega) (hI.row16 hg h16) hI.ext.size (fun v' w' ho hgr hb => hI.set22 hg h16 ho hgr hb)
              intro v22 G w5 hI hs
              clear hI hs G w5
              (try simp only [Act.put, List.setIfInBounds_toArray, List.set_cons_zero, List.set_cons_succ])
              repeat (first | (with_reducible refine RI.lexL_quiet' (v := ?_) ?_ ?_ ?_ ?_; rotate_left; (· with_reducible rfl); (· decide); (· intro G w1 hI1 hA1; have hw1 := hI1.ext; go_simp; with_reducible rfl); (try simp only [Act.put, List.setIfInBounds_toArray, List.set_cons_zero, List.set_cons_succ])) | (with_reducible refine RI.lexL_skip ?_ ?_; (· simp [Region.wanted, yielded, undef]); (try simp only [Act.put, List.setIfInBounds_toArray, List.set_cons_zero, List.set_cons_succ])) | (with_reducible refine RI.lexL_quiet (v := ?_) ?_ ?_ ?_ ?_; rotate_left; (· simp [Region.wanted, yielded, undef]); (· decide); (· intro G w1 hI1 hA1; have hw1 := hI1.ext; go_simp; with_reducible rfl); (try simp only [Act.put, List.setIfInBounds_toArray, List.set_cons_zero, List.set_cons_succ])))
              with_reducible refine RI.lexL_give' ?_ ?_ ?_ ?_; (· with_reducible rfl); (· decide)
              · intro G w5 hI hA hg
                go_simp
                exact hI.set24 hg
              intro v24 G w5 hI hs
              obtain ⟨b24, rfl⟩ := hI.p24 v24 (hs 24 v24 rfl)
              clear hI hs G w5
              (try simp only [Act.put, List.setIfInBounds_toArray, List.set_cons_zero, List.set_cons_succ])
              with_reducible refine RI.lexL_give' ?_ ?_ ?_ ?_; (· with_reducible rfl); (· decide)
              · intro G w5 hI hA hg
                have h22 := hA 22 (by decide) _ rfl
                have h24 := hA 24 (by decide) _ rfl
                exact gives_more ts [(j : Int)] b24 v22 _ _ rfl (by rfl) (hI.row22 hg h22) (by rfl) (hI.blk24 h24) (by have := HW.out.2.2; simp; omega) hI.ext.size (fun v' w' ho hgr hb => hI.set25 hg h22 (by simpa using ho) hgr hb)
              intro v25 G w5 hI hs
              obtain ⟨g25, c25, rfl⟩ := ownsRow_pos (hI.row25 (hs 22 v22 rfl) (hs 25 v25 rfl)) (by omega)
              clear hI hs G w5
              (try simp only [Act.put, List.setIfInBounds_toArray, List.set_cons_zero, List.set_cons_succ])
              repeat (first | (with_reducible refine RI.lexL_quiet' (v := ?_) ?_ ?_ ?_ ?_; rotate_left; (· with_reducible rfl); (· decide); (· intro G w1 hI1 hA1; have hw1 := hI1.ext; go_simp; with_reducible rfl); (try simp only [Act.put, List.setIfInBounds_toArray, List.set_cons_zero, List.set_cons_succ])) | (with_reducible refine RI.lexL_skip ?_ ?_; (· simp [Region.wanted, yielded, undef]); (try simp only [Act.put, List.setIfInBounds_toArray, List.set_cons_zero, List.set_cons_succ])) | (with_reducible refine RI.lexL_quiet (v := ?_) ?_ ?_ ?_ ?_; rotate_left; (· simp [Region.wanted, yielded, undef]); (· decide); (· intro G w1 hI1 hA1; have hw1 := hI1.ext; go_simp; with_reducible rfl); (try simp only [Act.put, List.setIfInBounds_toArray, List.set_cons_zero, List.set_cons_succ])))
              with_reducible refine RI.lexL_give' ?_ ?_ ?_ ?_; (· with_reducible rfl); (· decide)
              · intro G w5 hI hA hg
                go_simp
                exact hI.set27 hg
              intro v27 G w5 hI hs
              obtain ⟨b27, rfl⟩ := hI.p27 v27 (hs 27 v27 rfl)
              clear hI hs G w5
              (try simp only [Act.put, List.setIfInBounds_toArray, List.set_cons_zero, List.set_cons_succ])
              with_reducible refine RI.lexL_nil ?_; intro w1 hI1; simp only [List.drop_succ_cons, List.drop_zero]
              have hB27 := (hI1.own.get 4 rfl).2
              clear hnx1 hnx2 q0 q1 q2 k0 k1 k2 m0 m1 m2 hE0
              go_upto_region 15 with (with_reducible refine wpList_store_blk _ rfl 96 _ _ rfl b27 96 _ _ rfl rfl hB27 (by kernel_rfl) (by kernel_rfl) (by kernel_rfl) ?_; intro w2 h2' g2)
              have hfin := hI1.fin rfl rfl rfl rfl rfl (by have := HW.out.2.2; omega) g2 h2'
              have HF := Lib.hid (And.intro hfin h2')
              clear hI1 hB27 h2' g2 hfin
              have d0 := fun w' (h : Ext w2 w') => h.cell (cell_of_blk HF.out.2 0 (u := .slice A7' (memI S').length c7') rfl)
              have d1 := fun w' (h : Ext w2 w') => h.cell (cell_of_blk HF.out.2 1 (u := .slice A15' (memI T').length c15') rfl)
              have d2 := fun w' (h : Ext w2 w') => h.cell (cell_of_blk HF.out.2 2 (u := .slice (some ⟨g25, 0, none⟩) (ts.length + 1) c25) rfl)
              have HD := Lib.hid (And.intro d0 (And.intro d1 d2))
              clear d0 d1 d2
              go_wp2
              go_loopw [15, 14] (fun kv tv wr => ∃ k : Nat, kv = .int .i64 k ∧ k ≤ (midC x y n j).length ∧ Hid (tv = .int .i64 (b01 (((midC x y n j).take k).any (fun r => decide (r.key = (S', T')))))) ∧ Ext w2 wr) (fun kv _ _ => (midC x y n j).length - (intOf kv).toNat)
              case atStart => exact ⟨0, rfl, Nat.zero_le _, Lib.hid rfl, by first | exact Ext.refl _ | exact drew_ext _⟩
              case round =>
                obtain ⟨k, rfl, hk, HTH, hE9⟩ := hrel
                obtain ⟨W9, hW9⟩ : ∃ W, W = wr := ⟨_, rfl⟩; subst hW9
                have hml := HW.out.1
                have d0 := fun w' (h : Ext W9 w') => HD.out.1 w' (hE9.trans h)
                have d1 := fun w' (h : Ext W9 w') => HD.out.2.1 w' (hE9.trans h)
                have d2 := fun w' (h : Ext W9 w') => HD.out.2.2 w' (hE9.trans h)
                have hE90 := Ext.refl W9
                have HE9 := Lib.hid hE9
                obtain ⟨c7l, hi7⟩ := HF.out.1.2.1
                obtain ⟨c15l, hi15⟩ := HF.out.1.2.2.1
                by_cases hkl : k < (midC x y n j).length
                · have hkI : (k : Int) < ((midC x y n j).length : Int) := by omega
                  obtain ⟨b', c', pa, pb, pt, hv', r0, r1, _, hpa, hpb, _⟩ := (HC.out.trans (HF.out.1.1.trans hE9)).at_ (spL_get hkl)
                  rw [spL_len] at hv'
                  injection hv' with e1 _ e3
                  injection e1 with e1
                  injection e1 with e1 _ _
                  subst e1
                  obtain ⟨hPl, hQl⟩ := midC_key (j := j) HX.out.2.2.1 HX.out.2.2.2.1 HLT.out hkl
                  have HST := Lib.hid (inB_step (x := x) (y := y) hkl (S', T'))
                  obtain ⟨P, hP⟩ : ∃ P, P = (keyC x y (midC x y n j) k).1 := ⟨_, rfl⟩
                  obtain ⟨Q, hQ⟩ : ∃ Q, Q = (keyC x y (midC x y n j) k).2 := ⟨_, rfl⟩
                  rw [show keyC x y (midC x y n j) k = (P, Q) by rw [hP, hQ], key_dec] at HST
                  simp only [← hP, ← hQ] at hpa hpb hPl hQl
                  obtain ⟨cpa, hpa⟩ := hpa
                  obtain ⟨cpb, hpb⟩ := hpb
                  have r0 := fun w' (h : Ext W9 w') => h.cell r0
                  have r1 := fun w' (h : Ext W9 w') => h.cell r1
                  have hs1 := fun W' (e : Ext W9 W') => same_any W' _ _ _ _ _ _ (hpa.ext e) (hi7.ext (hE9.trans e))
                  have hs2 := fun W' (e : Ext W9 W') => same_any W' _ _ _ _ _ _ (hpb.ext e) (hi15.ext (hE9.trans e))
                  rw [memI_beq (HX.out.2.2.1.mask64 hPl) (HX.out.2.2.1.mask64 HSL.out.1)] at hs1
                  rw [memI_beq (HX.out.2.2.2.1.mask64 hQl) (HX.out.2.2.2.1.mask64 HSL.out.2)] at hs2
                  obtain ⟨Apa, rfl, h9⟩ := hpa
                  obtain ⟨Apb, rfl, h9'⟩ := hpb
                  clear hP hQ hPl hQl e3 h9 h9' hi7 hi15 hE9
                  cases hq1 : P == S' with
                  | true =>
                    rw [hq1, show b01 true = 1 from rfl] at hs1
                    cases hq2 : Q == T' with
                    | true =>
                      rw [hq2, show b01 true = 1 from rfl] at hs2
                      have HST : Hid (((midC x y n j).take (k + 1)).any (fun r => decide (r.key = (S', T'))) = true) := Lib.hid (by rw [HST.out, hq1, hq2]; simp)
                      clear hq1 hq2
                      go_upto_region 19 with fail
                      refine wp_region_ext 15 (factsOf [(7, IntP 1)]) (fun k => ([[], [], [0, 1], [0, 1, 2], [0, 1, 2, 3], [], [5], [0, 1, 2, 3, 4, 5, 6], [], [], [8, 9], [8, 9, 10], [8, 9, 10, 11], [], [13], [0, 1, 2, 3, 4, 5, 6, 7, 8, 9, 10, 11, 12, 13, 14], [0, 1, 2, 3, 4, 5, 6, 7, 8, 9, 10, 11, 12, 13, 14, 15], [0, 1, 2, 3, 4, 5, 6, 7, 8, 9, 10, 11, 12, 13, 14, 15, 16]] : List (List Nat)).getD k []) (by kernel_rfl) (by kernel_rfl) Ext.pre (mono_cons (stays_intP _) (mono_nil)) ?_
                      simp only [List.take_succ_cons, List.take_zero]
                      repeat (first | (with_reducible refine lexL_quiet' (v := ?_) ?_ ?_ ?_ ?_; rotate_left; (· with_reducible rfl); (· simp [factsOf]); (· intro w1 hw1 _; go_simp; with_reducible rfl); (try simp only [Act.put, List.setIfInBounds_toArray, List.set_cons_zero, List.set_cons_succ])) | (with_reducible refine lexL_skip ?_ ?_; (· simp [Region.wanted, yielded, undef]); (try simp only [Act.put, List.setIfInBounds_toArray, List.set_cons_zero, List.set_cons_succ])) | (with_reducible refine lexL_quiet (v := ?_) ?_ ?_ ?_ ?_; rotate_left; (· simp [Region.wanted, yielded, undef]); (· simp [factsOf]); (· intro w1 hw1 _; go_simp; with_reducible rfl); (try simp only [Act.put, List.setIfInBounds_toArray, List.set_cons_zero, List.set_cons_succ])))
                      with_reducible refine lexL_give' (φ := ?_) ?_ ?_ ?_ ?_; rotate_left; (· with_reducible rfl); (· simp only [factsOf, Nat.reduceAdd, ↓reduceIte, Nat.reduceEqDiff]; rfl)
                      · intro w5 hw5 _
                        go_simp
                        refine (hs1 w5 hw5).mono ?_
                        rintro e w6 ⟨rfl, e6⟩
                        exact ⟨_, rfl, e6, rfl⟩
                      rintro v9 w5 hw5 hv9 hk2
                      unfold IntP at hv9
                      subst hv9
                      clear hk2 hw5 w5
                      (try simp only [Act.put, List.setIfInBounds_toArray, List.set_cons_zero, List.set_cons_succ])
                      repeat (first | (with_reducible refine lexL_quiet' (v := ?_) ?_ ?_ ?_ ?_; rotate_left; (· with_reducible rfl); (· simp [factsOf]); (· intro w1 hw1 _; go_simp; with_reducible rfl); (try simp only [Act.put, List.setIfInBounds_toArray, List.set_cons_zero, List.set_cons_succ])) | (with_reducible refine lexL_skip ?_ ?_; (· simp [Region.wanted, yielded, undef]); (try simp only [Act.put, List.setIfInBounds_toArray, List.set_cons_zero, List.set_cons_succ])) | (with_reducible refine lexL_quiet (v := ?_) ?_ ?_ ?_ ?_; rotate_left; (· simp [Region.wanted, yielded, undef]); (· simp [factsOf]); (· intro w1 hw1 _; go_simp; with_reducible rfl); (try simp only [Act.put, List.setIfInBounds_toArray, List.set_cons_zero, List.set_cons_succ])))
                      with_reducible refine lexL_nil ?_; intro w1 hw1 hk1; simp only [List.drop_succ_cons, List.drop_zero]
                      have hs2' := hs2 w1 hw1
                      have H1 := Lib.hid hw1
                      clear hk1 hs1 hs2 hw1
                      go_wp2_with ((with_reducible refine hs2'.mono ?_); rintro e w6 ⟨rfl, e6⟩)
                      go_roundw
                      case rel => exact ⟨k + 1, by go_num, hkl, Lib.hid (by rw [HST.out]; rfl), HE9.out.trans (H1.out.trans (by first | exact e6 | exact e6.drew))⟩
                      case measure => simp [intOf]; omega
                    | false =>
                      rw [hq2, show b01 false = 0 from rfl] at hs2
                      have HST : Hid (((midC x y n j).take (k + 1)).any (fun r => decide (r.key = (S', T'))) = ((midC x y n j).take k).any (fun r => decide (r.key = (S', T')))) := Lib.hid (by rw [HST.out, hq1, hq2]; simp)
                      clear hq1 hq2
                      go_upto_region 19 with fail
                      refine wp_region_ext 15 (factsOf [(7, IntP 1)]) (fun k => ([[], [], [0, 1], [0, 1, 2], [0, 1, 2, 3], [], [5], [0, 1, 2, 3, 4, 5, 6], [], [], [8, 9], [8, 9, 10], [8, 9, 10, 11], [], [13], [0, 1, 2, 3, 4, 5, 6, 7, 8, 9, 10, 11, 12, 13, 14], [0, 1, 2, 3, 4, 5, 6, 7, 8, 9, 10, 11, 12, 13, 14, 15], [0, 1, 2, 3, 4, 5, 6, 7, 8, 9, 10, 11, 12, 13, 14, 15, 16]] : List (List Nat)).getD k []) (by kernel_rfl) (by kernel_rfl) Ext.pre (mono_cons (stays_intP _) (mono_nil)) ?_
                      simp only [List.take_succ_cons, List.take_zero]
                      repeat (first | (with_reducible refine lexL_quiet' (v := ?_) ?_ ?_ ?_ ?_; rotate_left; (· with_reducible rfl); (· simp [factsOf]); (· intro w1 hw1 _; go_simp; with_reducible rfl); (try simp only [Act.put, List.setIfInBounds_toArray, List.set_cons_zero, List.set_cons_succ])) | (with_reducible refine lexL_skip ?_ ?_; (· simp [Region.wanted, yielded, undef]); (try simp only [Act.put, List.setIfInBounds_toArray, List.set_cons_zero, List.set_cons_succ])) | (with_reducible refine lexL_quiet (v := ?_) ?_ ?_ ?_ ?_; rotate_left; (· simp [Region.wanted, yielded, undef]); (· simp [factsOf]); (· intro w1 hw1 _; go_simp; with_reducible rfl); (try simp only [Act.put, List.setIfInBounds_toArray, List.set_cons_zero, List.set_cons_succ])))
                      with_reducible refine lexL_give' (φ := ?_) ?_ ?_ ?_ ?_; rotate_left; (· with_reducible rfl); (· simp only [factsOf, Nat.reduceAdd, ↓reduceIte, Nat.reduceEqDiff]; rfl)
                      · intro w5 hw5 _
                        go_simp
                        refine (hs1 w5 hw5).mono ?_
                        rintro e w6 ⟨rfl, e6⟩
                        exact ⟨_, rfl, e6, rfl⟩
                      rintro v9 w5 hw5 hv9 hk2
                      unfold IntP at hv9
                      subst hv9
                      clear hk2 hw5 w5
                      (try simp only [Act.put, List.setIfInBounds_toArray, List.set_cons_zero, List.set_cons_succ])
                      repeat (first | (with_reducible refine lexL_quiet' (v := ?_) ?_ ?_ ?_ ?_; rotate_left; (· with_reducible rfl); (· simp [factsOf]); (· intro w1 hw1 _; go_simp; with_reducible rfl); (try simp only [Act.put, List.setIfInBounds_toArray, List.set_cons_zero, List.set_cons_succ])) | (with_reducible refine lexL_skip ?_ ?_; (· simp [Region.wanted, yielded, undef]); (try simp only [Act.put, List.setIfInBounds_toArray, List.set_cons_zero, List.set_cons_succ])) | (with_reducible refine lexL_quiet (v := ?_) ?_ ?_ ?_ ?_; rotate_left; (· simp [Region.wanted, yielded, undef]); (· simp [factsOf]); (· intro w1 hw1 _; go_simp; with_reducible rfl); (try simp only [Act.put, List.setIfInBounds_toArray, List.set_cons_zero, List.set_cons_succ])))
                      with_reducible refine lexL_nil ?_; intro w1 hw1 hk1; simp only [List.drop_succ_cons, List.drop_zero]
                      have hs2' := hs2 w1 hw1
                      have H1 := Lib.hid hw1
                      clear hk1 hs1 hs2 hw1
                      go_wp2_with ((with_reducible refine hs2'.mono ?_); rintro e w6 ⟨rfl, e6⟩)
                      go_roundw
                      case rel => exact ⟨k + 1, by go_num, hkl, Lib.hid (by rw [HST.out]; exact HTH.out), HE9.out.trans (H1.out.trans (by first | exact e6 | exact e6.drew))⟩
                      case measure => simp [intOf]; omega
                  | false =>
                    rw [hq1, show b01 false = 0 from rfl] at hs1
                    have HST : Hid (((midC x y n j).take (k + 1)).any (fun r => decide (r.key = (S', T'))) = ((midC x y n j).take k).any (fun r => decide (r.key = (S', T')))) := Lib.hid (by rw [HST.out, hq1]; simp)
                    clear hq1
                    cases hq2 : Q == T' with
                    | true =>
                      rw [hq2, show b01 true = 1 from rfl] at hs2
                      clear hq2
                      go_upto_region 19 with fail
                      refine wp_region_ext 15 (factsOf [(7, IntP 0)]) (fun k => ([[], [], [0, 1], [0, 1, 2], [0, 1, 2, 3], [], [5], [0, 1, 2, 3, 4, 5, 6], [], [], [8, 9], [8, 9, 10], [8, 9, 10, 11], [], [13], [0, 1, 2, 3, 4, 5, 6, 7, 8, 9, 10, 11, 12, 13, 14], [0, 1, 2, 3, 4, 5, 6, 7, 8, 9, 10, 11, 12, 13, 14, 15], [0, 1, 2, 3, 4, 5, 6, 7, 8, 9, 10, 11, 12, 13, 14, 15, 16]] : List (List Nat)).getD k []) (by kernel_rfl) (by kernel_rfl) Ext.pre (mono_cons (stays_intP _) (mono_nil)) ?_
                      simp only [List.take_succ_cons, List.take_zero]
                      repeat (first | (with_reducible refine lexL_quiet' (v := ?_) ?_ ?_ ?_ ?_; rotate_left; (· with_reducible rfl); (· simp [factsOf]); (· intro w1 hw1 _; go_simp; with_reducible rfl); (try simp only [Act.put, List.setIfInBounds_toArray, List.set_cons_zero, List.set_cons_succ])) | (with_reducible refine lexL_skip ?_ ?_; (· simp [Region.wanted, yielded, undef]); (try simp only [Act.put, List.setIfInBounds_toArray, List.set_cons_zero, List.set_cons_succ])) | (with_reducible refine lexL_quiet (v := ?_) ?_ ?_ ?_ ?_; rotate_left; (· simp [Region.wanted, yielded, undef]); (· simp [factsOf]); (· intro w1 hw1 _; go_simp; with_reducible rfl); (try simp only [Act.put, List.setIfInBounds_toArray, List.set_cons_zero, List.set_cons_succ])))
                      with_reducible refine lexL_give' (φ := ?_) ?_ ?_ ?_ ?_; rotate_left; (· with_reducible rfl); (· simp only [factsOf, Nat.reduceAdd, ↓reduceIte, Nat.reduceEqDiff]; rfl)
                      · intro w5 hw5 _
                        go_simp
                        refine (hs1 w5 hw5).mono ?_
                        rintro e w6 ⟨rfl, e6⟩
                        exact ⟨_, rfl, e6, rfl⟩
                      rintro v9 w5 hw5 hv9 hk2
                      unfold IntP at hv9
                      subst hv9
                      clear hk2 hw5 w5
                      (try simp only [Act.put, List.setIfInBounds_toArray, List.set_cons_zero, List.set_cons_succ])
                      repeat (first | (with_reducible refine lexL_quiet' (v := ?_) ?_ ?_ ?_ ?_; rotate_left; (· with_reducible rfl); (· simp [factsOf]); (· intro w1 hw1 _; go_simp; with_reducible rfl); (try simp only [Act.put, List.setIfInBounds_toArray, List.set_cons_zero, List.set_cons_succ])) | (with_reducible refine lexL_skip ?_ ?_; (· simp [Region.wanted, yielded, undef]); (try simp only [Act.put, List.setIfInBounds_toArray, List.set_cons_zero, List.set_cons_succ])) | (with_reducible refine lexL_quiet (v := ?_) ?_ ?_ ?_ ?_; rotate_left; (· simp [Region.wanted, yielded, undef]); (· simp [factsOf]); (· intro w1 hw1 _; go_simp; with_reducible rfl); (try simp only [Act.put, List.setIfInBounds_toArray, List.set_cons_zero, List.set_cons_succ])))
                      with_reducible refine lexL_nil ?_; intro w1 hw1 hk1; simp only [List.drop_succ_cons, List.drop_zero]
                      have hs2' := hs2 w1 hw1
                      have H1 := Lib.hid hw1
                      clear hk1 hs1 hs2 hw1
                      go_wp2_with ((with_reducible refine hs2'.mono ?_); rintro e w6 ⟨rfl, e6⟩)
                      go_roundw
                      case rel => exact ⟨k + 1, by go_num, hkl, Lib.hid (by rw [HST.out]; exact HTH.out), HE9.out.trans (H1.out.trans (by first | exact e6 | exact e6.drew))⟩
                      case measure => simp [intOf]; omega
                    | false =>
                      rw [hq2, show b01 false = 0 from rfl] at hs2
                      clear hq2
                      go_upto_region 19 with fail
                      refine wp_region_ext 15 (factsOf [(7, IntP 0)]) (fun k => ([[], [], [0, 1], [0, 1, 2], [0, 1, 2, 3], [], [5], [0, 1, 2, 3, 4, 5, 6], [], [], [8, 9], [8, 9, 10], [8, 9, 10, 11], [], [13], [0, 1, 2, 3, 4, 5, 6, 7, 8, 9, 10, 11, 12, 13, 14], [0, 1, 2, 3, 4, 5, 6, 7, 8, 9, 10, 11, 12, 13, 14, 15], [0, 1, 2, 3, 4, 5, 6, 7, 8, 9, 10, 11, 12, 13, 14, 15, 16]] : List (List Nat)).getD k []) (by kernel_rfl) (by kernel_rfl) Ext.pre (mono_cons (stays_intP _) (mono_nil)) ?_
                      simp only [List.take_succ_cons, List.take_zero]
                      repeat (first | (with_reducible refine lexL_quiet' (v := ?_) ?_ ?_ ?_ ?_; rotate_left; (· with_reducible rfl); (· simp [factsOf]); (· intro w1 hw1 _; go_simp; with_reducible rfl); (try simp only [Act.put, List.setIfInBounds_toArray, List.set_cons_zero, List.set_cons_succ])) | (with_reducible refine lexL_skip ?_ ?_; (· simp [Region.wanted, yielded, undef]); (try simp only [Act.put, List.setIfInBounds_toArray, List.set_cons_zero, List.set_cons_succ])) | (with_reducible refine lexL_quiet (v := ?_) ?_ ?_ ?_ ?_; rotate_left; (· simp [Region.wanted, yielded, undef]); (· simp [factsOf]); (· intro w1 hw1 _; go_simp; with_reducible rfl); (try simp only [Act.put, List.setIfInBounds_toArray, List.set_cons_zero, List.set_cons_succ])))
                      with_reducible refine lexL_give' (φ := ?_) ?_ ?_ ?_ ?_; rotate_left; (· with_reducible rfl); (· simp only [factsOf, Nat.reduceAdd, ↓reduceIte, Nat.reduceEqDiff]; rfl)
                      · intro w5 hw5 _
                        go_simp
                        refine (hs1 w5 hw5).mono ?_
                        rintro e w6 ⟨rfl, e6⟩
                        exact ⟨_, rfl, e6, rfl⟩
                      rintro v9 w5 hw5 hv9 hk2
                      unfold IntP at hv9
                      subst hv9
                      clear hk2 hw5 w5
                      (try simp only [Act.put, List.setIfInBounds_toArray, List.set_cons_zero, List.set_cons_succ])
                      repeat (first | (with_reducible refine lexL_quiet' (v := ?_) ?_ ?_ ?_ ?_; rotate_left; (· with_reducible rfl); (· simp [factsOf]); (· intro w1 hw1 _; go_simp; with_reducible rfl); (try simp only [Act.put, List.setIfInBounds_toArray, List.set_cons_zero, List.set_cons_succ])) | (with_reducible refine lexL_skip ?_ ?_; (· simp [Region.wanted, yielded, undef]); (try simp only [Act.put, List.setIfInBounds_toArray, List.set_cons_zero, List.set_cons_succ])) | (with_reducible refine lexL_quiet (v := ?_) ?_ ?_ ?_ ?_; rotate_left; (· simp [Region.wanted, yielded, undef]); (· simp [factsOf]); (· intro w1 hw1 _; go_simp; with_reducible rfl); (try simp only [Act.put, List.setIfInBounds_toArray, List.set_cons_zero, List.set_cons_succ])))
                      with_reducible refine lexL_nil ?_; intro w1 hw1 hk1; simp only [List.drop_succ_cons, List.drop_zero]
                      have hs2' := hs2 w1 hw1
                      have H1 := Lib.hid hw1
                      clear hk1 hs1 hs2 hw1
                      go_wp2_with ((with_reducible refine hs2'.mono ?_); rintro e w6 ⟨rfl, e6⟩)
                      go_roundw
                      case rel => exact ⟨k + 1, by go_num, hkl, Lib.hid (by rw [HST.out]; exact HTH.out), HE9.out.trans (H1.out.trans (by first | exact e6 | exact e6.drew))⟩
                      case measure => simp [intOf]; omega
                · have hkn : k = (midC x y n j).length := by omega
                  subst hkn
                  have hin : u14 = .int .i64 (b01 (inB (midC x y n j) (S', T'))) := by
                    have := HTH.out
                    rw [List.take_length] at this
                    exact this
                  have e89 := HF.out.1.1.trans hE9
                  have HC9 := Lib.hid (HC.out.trans e89)
                  have hz1 := memI_zero S' (HX.out.2.2.1.mask64 HSL.out.1)
                  have hz2 := memI_zero T' (HX.out.2.2.2.1.mask64 HSL.out.2)
                  clear HTH hi7 hi15
                  cases hib : inB (midC x y n j) (S', T') with
                  | true =>
                    have HOLD : Hid (spL x y (midC x y n (j + 1)) = spL x y (midC x y n j)) := Lib.hid (by rw [midC_old hjl (.inr (by rw [HNX.out]; exact hib))])
                    have hin1 : u14 = .int .i64 1 := by rw [hin, hib]; rfl
                    clear hin
                    subst hin1
                    clear hib hz1 hz2 e89 hE9
                    go_wp2
                    go_roundw
                    case rel => exact ⟨j + 1, by go_num, hjl, Lib.hid (by rw [HOLD.out]; first | exact HC9.out | exact HC9.out.trans (drew_ext _))⟩
                    case measure => simp [intOf]; omega
                  | false =>
                    have hin1 : u14 = .int .i64 0 := by rw [hin, hib]; rfl
                    clear hin
                    subst hin1
                    by_cases hS0 : S' = 0
                    · have g1 : ¬ (0 : Int) < ((memI S').length : Int) := by
                        rw [hS0] at hz1
                        have := beq_iff_eq.1 (hz1.trans rfl)
                        rw [hS0]; omega
                      have HOLD : Hid (spL x y (midC x y n (j + 1)) = spL x y (midC x y n j)) := Lib.hid (by rw [midC_old hjl (.inl (by rw [HNX.out]; unfold okC; simp [hS0]))])
                      clear hib hz1 hz2 e89 hE9 hS0
                      go_wp2
                      go_roundw
                      case rel => exact ⟨j + 1, by go_num, hjl, Lib.hid (by rw [HOLD.out]; first | exact HC9.out | exact HC9.out.trans (drew_ext _))⟩
                      case measure => simp [intOf]; omega
                    have g1 : (0 : Int) < ((memI S').length : Int) := by
                      have := beq_eq_false_iff_ne.1 (hz1.trans (by simpa using hS0))
                      omega
                    by_cases hT0 : T' = 0
                    · have g2 : ¬ (0 : Int) < ((memI T').length : Int) := by
                        rw [hT0] at hz2
                        have := beq_iff_eq.1 (hz2.trans rfl)
                        rw [hT0]; omega
                      have HOLD : Hid (spL x y (midC x y n (j + 1)) = spL x y (midC x y n j)) := Lib.hid (by rw [midC_old hjl (.inl (by rw [HNX.out]; unfold okC; simp [hT0]))])
                      clear hib hz1 hz2 e89 hE9 hT0 hS0
                      go_wp2
                      go_roundw
                      case rel => exact ⟨j + 1, by go_num, hjl, Lib.hid (by rw [HOLD.out]; first | exact HC9.out | exact HC9.out.trans (drew_ext _))⟩
                      case measure => simp [intOf]; omega
                    have g2 : (0 : Int) < ((memI T').length : Int) := by
                      have := beq_eq_false_iff_ne.1 (hz2.trans (by simpa using hT0))
                      omega
                    have HNEW : Hid (spL x y (midC x y n (j + 1)) = spL x y (midC x y n j) ++ [((S', T'), ts ++ [(j : Int)])]) := Lib.hid (by
                      rw [midC_new HLT.out (by omega) hjl (by rw [HNX.out]; unfold okC; simp [hS0, hT0]) (by rw [HNX.out]; exact hib), HNX.out, ← HKY.out.2.2])
                    obtain ⟨M, Fm, hML, hOL⟩ := HC.out
                    have e9a := e89.trans (alloc_ext W9 (.cells #[.slice A7' (memI S').length c7', .slice A15' (memI T').length c15', .slice (some ⟨g25, 0, none⟩) (ts.length + 1) c25] 96))
                    have hrow := (hOL.trans e9a).get 0 rfl
                    have hbase := (hOL.trans e9a).ext.size
                    have HOL := Lib.hid (And.intro hML hOL)
                    have HE9 := Lib.hid (And.intro e9a hE9)
                    rw [spL_len] at hrow
                    clear hib hz1 hz2 e89 hE9 hT0 hS0 hML hOL e9a HC9
                    go_wp2_with (at_builtin; refine wpList_append_own2 rfl _ _ 97 rfl W1.heap.size 96 i96 (.agg #[.slice none 0 0, .slice none 0 0, .slice none 0 0]) 3 72 Tryd.underlying97 hi96 hz96 hs96 hb96 rfl (by decide) (.slice (some ⟨bm, 0, none⟩) (midC x y n j).length cm) (midC x y n j).length (spV M) rfl hrow ⟨W9.heap.size, 0, none⟩ 1 1 [.slice A7' (memI S').length c7', .slice A15' (memI T').length c15', .slice (some ⟨g25, 0, none⟩) (ts.length + 1) c25] rfl rfl (new_cell3 _ _ _ _ _ _ rfl) (three_one _ _ _ _ _ _ _ _ _) (by unfold maxLen; omega) (by omega) hbase ?_; intro v10 w10 hown10 hg10 hb10; have H10 := Lib.hid (And.intro hown10 (And.intro hg10 hb10)); clear hown10 hg10 hb10)
                    have hSP := SpSt.more HOL.out.1 HOL.out.2 HE9.out.1 (e := (((S', T'), ts ++ [(j : Int)]), (.slice A7' (memI S').length c7', .slice A15' (memI T').length c15', .slice (some ⟨g25, 0, none⟩) (ts.length + 1) c25))) ⟨(HF.out.1.2.1.ext HE9.out.2).ext (alloc_ext _ _), (HF.out.1.2.2.1.ext HE9.out.2).ext (alloc_ext _ _), (HF.out.1.2.2.2.1.ext HE9.out.2).ext (alloc_ext _ _)⟩ HF.out.1.2.2.2.2 H10.out.2.1 (by rw [spL_len]; exact H10.out.1) H10.out.2.2
                    have HSP := Lib.hid hSP
                    clear hSP hrow
                    go_roundw
                    case rel => exact ⟨j + 1, by go_num, hjl, Lib.hid (by rw [HNEW.out]; first | exact HSP.out | exact HSP.out.trans (drew_ext _))⟩
                    case measure => simp [intOf]; omega
            · have hje : j = x.I + x.O + 1 := by omega
              have hjI : ¬ (j : Int) ≤ x.ins + x.outs := by omega
              have HE : Hid (SpSt W1 W8 u7 (spL x y (goC x y (n + 1)))) := Lib.hid (by have := HC.out; rw [hje, midC_full HLT.out] at this; exact this)
              clear hje HC
              go_wp2
              go_roundw
              case rel => exact ⟨n + 1, by go_num, Lib.hid ⟨Nat.lt_of_lt_of_le HLT.out (goB_le (Nat.le_succ n)).length_le, fun m r hm hr => by
                rcases Nat.lt_or_ge m n with h | h
                · exact HN.out.2 m r h hr
                · obtain rfl : m = n := by omega
                  have h1 := pre_get (goC_pre (x := x) (y := y) (n := m) (by omega)) (List.getElem?_eq_getElem HLT.out)
                  rw [h1] at hr
                  cases hr
                  unfold offC
                  rw [show ((goC x y m)[m]'HLT.out).key = keyC x y (goC x y m) m by unfold keyC; rw [fd_get (List.getElem?_eq_getElem HLT.out)], HBE.out]
                  rfl⟩, Lib.hid (by first | exact HE.out | exact HE.out.trans (drew_ext _))⟩
              case measure => simp [intOf]; omega
    · have hne : (goC x y n).length = n := by have := HN.out.1; omega
      have HR : Hid (refConf x y = (1, [], 0)) := Lib.hid (refConf_none fun m r hr => by
        have hst : fndL x y = goC x y n := goC_stop (by omega) (by omega)
        rw [hst] at hr
        exact HN.out.2 m r (by have := (List.getElem?_eq_some_iff.1 hr).1; omega) (by rw [hst]; exact hr))
      have HE4 := Lib.hid hE4
      have hlI : ¬ (n : Int) < ((goC x y n).length : Int) := by omega
      clear hne hE4
      go_wp2
      refine bodyPost_ret (results_tmp3 rfl _ _ _) rfl ?_
      rw [HR.out]
      exact ⟨_, 0, rfl, ⟨none, rfl, fun h => by simp at h, Nat.le_refl _, by simp [lenMax]⟩, HS.out.2.trans (by first | exact HE4.out | exact HE4.out.drew)⟩
end Go.Proofs.YtamodjlifpjaoaaDoor
