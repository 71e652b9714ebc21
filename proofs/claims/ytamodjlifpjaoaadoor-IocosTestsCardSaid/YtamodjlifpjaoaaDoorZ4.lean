/- IocosTests 7. -/
import Derived.Test.YtamodjlifpjaoaaDoorZ3
namespace Go.Proofs.YtamodjlifpjaoaaDoor
open Go.RowKit
set_option linter.unusedVariables false
set_option linter.unusedSimpArgs false
attribute [local go_sem] Oper.quietV quietV Oper.gives givesV ext_refl_iff ext_alloc_iff ext_drew_iff ext_drewN_iff
theorem labs_of {x : Lts} (hx : Good x) {l : Int} (h : l ∈ labs x) : 0 ≤ l ∧ l ≤ x.ins + x.outs := by
  unfold labs at h
  obtain ⟨j, hj, rfl⟩ := List.mem_map.1 h
  have := List.mem_range.1 hj
  have h1 := hx.II.1
  have h2 := hx.OO.1
  omega
/-- What Conforms answers of two small systems with equal labels. -/
theorem conf_two {x y : Lts} (hcx : checkI x = 0) (hcy : checkI y = 0) (hi : x.ins = y.ins) (ho : x.outs = y.outs) (hx5 : x.n ≤ 5) (hy5 : y.n ≤ 5) (hacc : accB x = true) :
    ((fndL x y).findIdx? (offC x y) = none ∧ confR x y = (true, [], 0, 0) ∧ refConf x y = (1, [], 0)) ∨
    ∃ (t : List Int) (o : Int), confR x y = (false, t, o, 0) ∧ refConf x y = (0, t, o) ∧ (∀ l ∈ t, 0 ≤ l ∧ l ≤ y.ins + y.outs) ∧ t.length ≤ 1024 ∧ tr x (begM x) t ≠ 0 ∧ tr y (begM y) t ≠ 0 ∧ o ∈ obsM x (tr x (begM x) t) ∧ aftM y (tr y (begM y) t) o = 0 := by
  have hgx := check_good hcx
  have hgy := check_good hcy
  have hN := goC_small hgx hgy hx5 hy5 (capC x)
  have hcr : confR x y = confG x y := by
    unfold confR
    rw [if_neg (by simpa using hcx), if_neg (by simpa using hcy), if_neg (by simp [hi, ho]), if_neg (by rw [hacc]; simp), if_neg (by show ¬ 4096 < (goC x y (capC x)).length; omega)]
  rw [hcr, conf_small hgx hgy hx5 hy5]
  cases hf : (fndL x y).findIdx? (offC x y) with
  | none =>
    have hr : refConf x y = (1, [], 0) := by unfold refConf; rw [hf]
    exact .inl ⟨rfl, by rw [hr]; rfl, hr⟩
  | some n =>
    obtain ⟨r, hn, hbad, _⟩ := find_first hf
    have hr : refConf x y = (0, wayC x y n, (badC x y ((fndL x y).getD n (rt (rootC x y))).key).getD 0) := by unfold refConf; rw [hf]
    have hw := (goC_ok x y (capC x)).way n r hn
    obtain ⟨e, hl⟩ := wayC_tr hw
    have hk := goC_key hgx hgy (capC x) (List.mem_of_getElem? hn)
    rw [fd_get hn] at hr
    have hb : (badC x y r.key).isSome = true := hbad
    obtain ⟨l, hbl⟩ := Option.isSome_iff_exists.1 hb
    obtain ⟨v1, v2⟩ := badC_val hbl
    rw [hbl] at hr
    rw [e] at hk v1 v2
    have hsh := conf_short hgx hgy (by show (goC x y (capC x)).length ≤ 4096; omega) hf
    have h3 : x.n * 2 ^ y.n ≤ 5 * 32 := Nat.mul_le_mul hx5 (Nat.le_trans (Nat.pow_le_pow_right (by omega) hy5) (by decide))
    refine .inr ⟨wayC x y n, l, by rw [hr]; rfl, hr, fun z hz => ?_, by omega, hk.2.2.1, hk.2.2.2, v1, v2⟩
    have := labs_of hgx (hl z hz)
    rw [hi, ho] at this
    exact this
set_option maxRecDepth 100000 in
set_option maxHeartbeats 16000000 in
theorem tests_t4 (w W : World) (b7 b8 : Nat) (x y : Lts) (gl : Bool) (ns : List Nat) (cv : Nat) (c0 c1 c3 c4 c5 c6 c9 c10 c11 c12 c13 c14 c15 c16 c17 c18 c19 c20 c21 c22 c23 c24 c25 c26 c27 c28 c29 c30 c31 c32 c33 c34 c35 c36 c37 c38 c39 c40 c41 c42 c43 c44 c45 c46 c47 c48 c49 c50 c51 c52 c53 c54 c55 c56 c57 c58 c59 c60 c61 c62 c63 c64 c65 c66 c67 c68 c69 c70 c71 c72 c73 c74 c75 c76 c77 c78 c79 c80 c81 c82 c83 c84 c85 c86 c87 c88 c89 c90 c91 c92 c93 c94 c95 c96 c97 c98 c99 c100 c101 c102 c103 c104 c105 c106 c107 c108 c109 c110 c111 c112 c113 c114 c115 c116 c117 c118 c119 c120 c121 c122 c123 c124 c125 c126 c127 c128 c129 c130 c131 c132 c133 c134 c135 c136 c137 c138 c139 c140 c141 c142 c143 c144 c145 c146 c147 c148 c149 v : Value) (hW : TwoV w W b7 b8 x y true gl) (hT : Tab W) (hv : U8sC W v ns cv) :
    Code.wp Tryd.prog (T7 4) (bodyPost Tryd.prog Tryd.f7 (TestsP w)) ⟨(c0 :: c1 :: v :: c3 :: c4 :: c5 :: c6 :: .pointer (some ⟨b7, 0, none⟩) :: .pointer (some ⟨b8, 0, none⟩) :: c9 :: c10 :: c11 :: c12 :: c13 :: c14 :: c15 :: c16 :: c17 :: c18 :: c19 :: c20 :: c21 :: c22 :: c23 :: c24 :: c25 :: c26 :: c27 :: c28 :: c29 :: c30 :: c31 :: c32 :: c33 :: c34 :: c35 :: c36 :: c37 :: c38 :: c39 :: c40 :: c41 :: c42 :: c43 :: c44 :: c45 :: c46 :: c47 :: c48 :: c49 :: c50 :: c51 :: c52 :: c53 :: c54 :: c55 :: c56 :: c57 :: c58 :: c59 :: c60 :: c61 :: c62 :: c63 :: c64 :: c65 :: c66 :: c67 :: c68 :: c69 :: c70 :: c71 :: c72 :: c73 :: c74 :: c75 :: c76 :: c77 :: c78 :: c79 :: c80 :: c81 :: c82 :: c83 :: c84 :: c85 :: c86 :: c87 :: c88 :: c89 :: c90 :: c91 :: c92 :: c93 :: c94 :: c95 :: c96 :: c97 :: c98 :: c99 :: c100 :: c101 :: c102 :: c103 :: c104 :: c105 :: c106 :: c107 :: c108 :: c109 :: c110 :: c111 :: c112 :: c113 :: c114 :: c115 :: c116 :: c117 :: c118 :: c119 :: c120 :: c121 :: c122 :: c123 :: c124 :: c125 :: c126 :: c127 :: c128 :: c129 :: c130 :: c131 :: c132 :: c133 :: c134 :: c135 :: c136 :: c137 :: c138 :: c139 :: c140 :: c141 :: c142 :: c143 :: c144 :: c145 :: c146 :: c147 :: c148 :: c149 :: []).toArray, []⟩ W := by
  conv => arg 2; whnf
  obtain ⟨i3, hi3, hz3, hs3, hb3⟩ := info_parts int_info
  obtain ⟨hcx, hcy, hnx, hny, hacc⟩ := hW.good
  have hacc := hacc rfl
  obtain ⟨hin, hout, hOx, hOy⟩ := hW.labs
  have hgx := check_good hcx
  have hgy := check_good hcy
  have hct := conf_two hcx hcy hin hout hnx hny hacc
  have hNC := goC_small hgx hgy hnx hny (capC x)
  have hNV := fun (L : List Nd) (hR : RightT x.ins x.outs L) (hl : L.length ≤ 1024) => goV_small hgx hR hnx hl (capV x)
  have hRT : ∀ p, okPlan y p → RightT x.ins x.outs (mkT y p (begM y) 0) := fun p hp => right_of (by rw [hin, hout]; exact mkT_right hgy hp (begM y))
  have HX := Lib.hid (And.intro hW (And.intro hT (And.intro hacc (And.intro hgx (And.intro hgy (And.intro hin (And.intro hout (And.intro hNC (And.intro hNV hRT)))))))))
  obtain ⟨pA, pc, p0, p1, p2, pS⟩ := hW.bx
  have p0 := fun w' (h : Ext W w') => h.cell p0
  have p1 := fun w' (h : Ext W w') => h.cell p1
  have p2 := fun w' (h : Ext W w') => h.cell p2
  obtain ⟨qA, qc, q0, q1, q2, qS⟩ := hW.bz
  have q0 := fun w' (h : Ext W w') => h.cell q0
  have q1 := fun w' (h : Ext W w') => h.cell q1
  have q2 := fun w' (h : Ext W w') => h.cell q2
  have hE0 := Ext.refl W
  have hcf := Conforms_any W _ _ x y pS qS hT
  have hpn := fun W' (e : Ext W W') => plan_any W' v ns cv y.ins y.I hgy.II.1.symm hgy.II.2 (hv.ext e)
  have hpk := planI_ok hgy ns
  have hpl := planI_len ns y.I
  have HPK := Lib.hid (And.intro hpk hpl)
  clear hW hT hv hcx hcy hnx hny hacc hin hout hOx hOy hgx hgy hNC hNV hRT pS qS hpk hpl
  generalize planI ns y.I = pl at *
  rcases hct with ⟨hfi, hcr, _⟩ | ⟨t, o, hcr, _, ht1, ht2, ht3, ht4, ht5, ht6⟩
  · rw [hcr] at hcf
    unfold ConfP at hcf
    have HF := Lib.hid hfi
    clear hcr hfi
    go_upto_region 7 with ((with_reducible refine hcf.mono ?_); rintro e W5 ⟨tv, rfl, hf5, e5⟩)
    have hpn5 := hpn W5 e5
    have H5 := Lib.hid (And.intro hf5 e5)
    have q0 := fun w' (h : Ext W5 w') => q0 w' (e5.trans h)
    have hE5 := Ext.refl W5
    clear hcf hpn hf5 e5 p0 p1 p2 q1 q2 hE0
    go_upto_region 999 with (first
      | ((with_reducible refine hpn5.mono ?_); rintro e W6 ⟨pv, cp, rfl, hp6, e6⟩; have H6 := Lib.hid (And.intro hp6 e6); clear hp6 e6)
      | (with_reducible refine stop_at 18 ?_) | (with_reducible refine stop_at2 18 ?_))
    refine ⟨?_⟩
    have e06 := H5.out.2.trans H6.out.2
    exact tests_t18 w W6 b7 b8 x y true gl true [] pl 0 _ cp _ _ _ _ _ _ _ _ _ _ _ _ _ _ _ _ _ _ _ _ _ _ _ _ _ _ _ _ _ _ _ _ _ _ _ _ _ _ _ _ _ _ _ _ _ _ _ _ _ _ _ _ _ _ _ _ _ _ _ _ _ _ _ _ _ _ _ _ _ _ _ _ _ _ _ _ _ _ _ _ _ _ _ _ _ _ _ _ _ _ _ _ _ _ _ _ _ _ _ _ _ _ _ _ _ _ _ _ _ _ _ _ _ _ _ _ _ _ _ _ _ _ _ _ _ _ _ _ _ _ _ _ _ _ _ _ _ _ _ _ _ _ _ _ _ _ (HX.out.1.ex e06) (HX.out.2.1.ext e06) HX.out.2.2.1 (H5.out.1.ext H6.out.2) H6.out.1 HPK.out.1 (by have := HPK.out.2; simp; omega) (fun hl => ⟨[], verd_conf HX.out.2.2.2.1 HX.out.2.2.2.2.1 HX.out.2.2.2.2.2.1 HX.out.2.2.2.2.2.2.1 HPK.out.1 rfl (HX.out.2.2.2.2.2.2.2.2.2 pl HPK.out.1) (by have := HX.out.2.2.2.2.2.2.2.1; show (goC x y (capC x)).length ≤ 4096; omega) HF.out, .inl rfl⟩)
  · rw [hcr] at hcf
    unfold ConfP at hcf
    have HT := Lib.hid (And.intro ht1 (And.intro ht3 (And.intro ht4 (And.intro ht5 ht6))))
    clear hcr ht1 ht3 ht4 ht5 ht6
    go_upto_region 7 with ((with_reducible refine hcf.mono ?_); rintro e W5 ⟨tv, rfl, hf5, e5⟩)
    have hpn5 := hpn W5 e5
    have H5 := Lib.hid (And.intro hf5 e5)
    have q0 := fun w' (h : Ext W5 w') => q0 w' (e5.trans h)
    have hE5 := Ext.refl W5
    clear hcf hpn hf5 e5 p0 p1 p2 q1 q2 hE0
    go_upto_region 10 with ((with_reducible refine hpn5.mono ?_); rintro e W6 ⟨pv, cp, rfl, hp6, e6⟩; have H6 := Lib.hid e6; clear hp6 e6)
    have hf6 := H5.out.1.ext H6.out
    obtain ⟨At, rfl, htc, _, _⟩ := id hf6
    have HQ := Lib.hid (And.intro q0 (And.intro hf6 htc))
    have hO6 : OwnL W6 W6 [.row 3 1 (.slice none 0 0) ((t.take 0).map (actOf y.ins)).length (((t.take 0).map (actOf y.ins)).map (.int .i64))] := (OwnL.nil (Ext.refl W6)).add (Ext.refl W6) (World.ownsRow_nil W6 _ 3 1)
    have HO6 := Lib.hid hO6
    clear hpn5 q0 hE5 hf6 htc hO6
    go_wp2
    go_loopw [13, 14] (fun rv iv wr => ∃ i : Nat, iv = .int .i64 i ∧ i ≤ t.length ∧ OwnL W6 wr [.row 3 1 rv ((t.take i).map (actOf y.ins)).length (((t.take i).map (actOf y.ins)).map (.int .i64))]) (fun _ iv _ => t.length - (intOf iv).toNat)
    case atStart => exact ⟨0, rfl, by omega, HO6.out⟩
    case round =>
      clear HO6
      obtain ⟨i, rfl, hi, hO⟩ := hrel
      obtain ⟨W7, hW7⟩ : ∃ W, W = wr := ⟨_, rfl⟩; subst hW7
      have HO := Lib.hid hO
      have hE7 := hO.ext
      have hsz := hE7.size
      by_cases hlt : i < t.length
      · obtain ⟨l, hl⟩ : ∃ l, t[i]? = some l := ⟨_, List.getElem?_eq_getElem hlt⟩
        obtain ⟨bl, ol, hA, c0'⟩ := int_at (HQ.out.2.2.ext hE7) hl
        subst hA
        have hS : (t.take (i + 1)).map (actOf y.ins) = (t.take i).map (actOf y.ins) ++ [actOf y.ins l] := by rw [take_snoc hl, List.map_append]; rfl
        have HS := Lib.hid hS
        have hol : ((t.take i).map (actOf y.ins)).length ≤ 1024 := by rw [List.length_map]; have := List.length_take_le i t; have := List.length_take_le' i t; omega
        have hrow := hO.get 0 rfl
        generalize (t.take i).map (actOf y.ins) = out at *
        have hown : W7.ownsRow W6.heap.size 3 1 u13 out.length (out.map (.int .i64)) := hrow
        have c0' := fun w' (h : Ext W7 w') => h.cell c0'
        have q0 := fun w' (h : Ext W7 w') => HQ.out.1 w' (H6.out.trans (hE7.trans h))
        have hR7 := Ext.refl W7
        clear hl hO hrow hE7 hS
        by_cases hli : l < y.ins
        · have HA : Hid (actOf y.ins l = l) := Lib.hid (if_pos hli)
          go_upto_region 14 with fail
          go_quiet (fail)
          go_wp2_with (at_builtin; refine wpList_append_own2 rfl _ _ 30 rfl W6.heap.size 3 i3 (.int .i64 0) 1 8 Tryd.underlying30 hi3 hz3 hs3 hb3 rfl (by decide) u13 out.length (out.map (.int .i64)) rfl (ownsRow_ext hown (by first | exact ((Ext.refl W7).drewN _).alloc _ | exact (Ext.refl W7).alloc _)) ⟨W7.heap.size, 0, none⟩ 1 1 [.int .i64 l] rfl rfl (new_cell _ _ _ _ (by simp)) (one_int _) (by unfold maxLen; omega) (by omega) (by simp; omega) ?_; intro v8 w8 hown8 hg8 hb8; have hO8 := (HO.out.trans (by first | exact ((Ext.refl W7).drewN _).alloc _ | exact (Ext.refl W7).alloc _)).app 0 rfl hg8 hown8 (fun b h => by have := hb8 b h; simpa using this); have HO8 := Lib.hid hO8; clear hO8 hown8 hg8 hb8)
          go_roundw
          case rel => exact ⟨i + 1, by go_num, hlt, by rw [HS.out, HA.out]; simpa using HO8.out⟩
          case measure => simp [intOf]; omega
        · have HA : Hid (actOf y.ins l = -1) := Lib.hid (if_neg hli)
          go_upto_region 14 with fail
          go_quiet (fail)
          go_wp2_with (at_builtin; refine wpList_append_own2 rfl _ _ 30 rfl W6.heap.size 3 i3 (.int .i64 0) 1 8 Tryd.underlying30 hi3 hz3 hs3 hb3 rfl (by decide) u13 out.length (out.map (.int .i64)) rfl (ownsRow_ext hown (by first | exact ((Ext.refl W7).drewN _).alloc _ | exact (Ext.refl W7).alloc _)) ⟨W7.heap.size, 0, none⟩ 1 1 [.int .i64 (-1)] rfl rfl (new_cell _ _ _ _ (by simp)) (one_int _) (by unfold maxLen; omega) (by omega) (by simp; omega) ?_; intro v8 w8 hown8 hg8 hb8; have hO8 := (HO.out.trans (by first | exact ((Ext.refl W7).drewN _).alloc _ | exact (Ext.refl W7).alloc _)).app 0 rfl hg8 hown8 (fun b h => by have := hb8 b h; simpa using this); have HO8 := Lib.hid hO8; clear hO8 hown8 hg8 hb8)
          go_roundw
          case rel => exact ⟨i + 1, by go_num, hlt, by rw [HS.out, HA.out]; simpa using HO8.out⟩
          case measure => simp [intOf]; omega
      · obtain rfl : i = t.length := by omega
        have hrow := hO.get 0 rfl
        have hta : (t.take t.length).map (actOf y.ins) = t.map (actOf y.ins) := by rw [List.take_length]
        rw [hta] at hrow
        have hown : W7.ownsRow W6.heap.size 3 1 u13 t.length ((t.map (actOf y.ins)).map (.int .i64)) := by have h := hrow; rw [List.length_map] at h; exact h
        have HE7 := Lib.hid (And.intro hE7 hown)
        clear hrow hta hO hE7
        go_upto_region 999 with (first
          | (at_builtin; refine wpList_append_own2 rfl _ _ 30 rfl W6.heap.size 3 i3 (.int .i64 0) 1 8 Tryd.underlying30 hi3 hz3 hs3 hb3 rfl (by decide) u13 t.length ((t.map (actOf y.ins)).map (.int .i64)) rfl (World.ownsRow.alloc hown _) ⟨W7.heap.size, 0, none⟩ 1 1 [.int .i64 (-1)] rfl rfl (new_cell _ _ _ _ rfl) (one_int _) (by unfold maxLen; omega) (by omega) (by simp; omega) ?_; intro v9 w9 hown9 hg9 hb9; have HO9 := Lib.hid (And.intro hown9 (ext_grown (HE7.out.1.trans (alloc_ext W7 _)) (World.ownsRow.alloc hown _) (Nat.le_refl _) hg9)); clear hown9 hg9 hb9)
          | (with_reducible refine stop_at 18 ?_) | (with_reducible refine stop_at2 18 ?_))
        refine ⟨?_⟩
        obtain ⟨c9, hpi⟩ := ints_of_owns (xs := planT y.ins t) (w := w9) (base := W6.heap.size) (e := 3) (v := v9) (by unfold planT; rw [List.length_append, List.length_map, List.map_append]; exact HO9.out.1) (by unfold planT; rw [List.length_append, List.length_map]; simp [lenMax]; omega)
        have e09 := H5.out.2.trans (H6.out.trans HO9.out.2)
        have hpk := planT_ok HT.out.1
        exact tests_t18 w w9 b7 b8 x y true gl false t (planT y.ins t) o _ c9 _ _ _ _ _ _ _ _ _ _ _ _ _ _ _ _ _ _ _ _ _ _ _ _ _ _ _ _ _ _ _ _ _ _ _ _ _ _ _ _ _ _ _ _ _ _ _ _ _ _ _ _ _ _ _ _ _ _ _ _ _ _ _ _ _ _ _ _ _ _ _ _ _ _ _ _ _ _ _ _ _ _ _ _ _ _ _ _ _ _ _ _ _ _ _ _ _ _ _ _ _ _ _ _ _ _ _ _ _ _ _ _ _ _ _ _ _ _ _ _ _ _ _ _ _ _ _ _ _ _ _ _ _ _ _ _ _ _ _ _ _ _ _ _ _ _ (HX.out.1.ex e09) (HX.out.2.1.ext e09) HX.out.2.2.1 (HQ.out.2.1.ext HO9.out.2) hpi hpk (by unfold planT; rw [List.length_append, List.length_map]; simp) (fun hl => by
          obtain ⟨wl, h1, h2⟩ := verd_off HX.out.2.2.2.1 HX.out.2.2.2.2.1 HX.out.2.2.2.2.2.1 HX.out.2.2.2.2.2.2.1 HT.out.1 HT.out.2.1 HT.out.2.2.1 HT.out.2.2.2.1 HT.out.2.2.2.2 rfl (HX.out.2.2.2.2.2.2.2.2.2 _ hpk) (HX.out.2.2.2.2.2.2.2.2.1 _ (HX.out.2.2.2.2.2.2.2.2.2 _ hpk) hl)
          exact ⟨wl, h1, .inr h2⟩)
set_option maxRecDepth 100000 in
set_option maxHeartbeats 16000000 in
theorem iocosTests_any (w : World) (bx by' v : Value) (r s : BNum) (ns : List Nat) (cv : Nat) (hb : BV w bx r) (hb2 : BV w by' s) (hv : U8sC w v ns cv) (hT : Tab w) :
    Calls Tryd.prog 7 #[bx, by', v] w fun e w' => e = .returned (.bool true) ∧ Ext w w' := by
  obtain ⟨A, c, rfl, hA, h1, h2, h3, h4, hnm⟩ := id hb
  obtain ⟨B, d, rfl, hB, j1, j2, j3, j4, jnm⟩ := id hb2
  have HX := Lib.hid (And.intro hv (And.intro hT (And.intro hA hB)))
  clear hb hb2 hv hT hA hB
  show Calls Tryd.prog 7 _ w (TestsP w)
  go_enter Tryd.func7, Tryd.ntmps7
  go_upto_region 2 with fail
  go_region_held3 (fun w' => w'.cell? ⟨w.heap.size, 0, none⟩ = some (.int .u8 r.i) ∧ w'.cell? ⟨w.heap.size, 1, none⟩ = some (.int .u8 r.o)) ((constructor <;> simp [go_sem])) (fail)
  go_upto_region 3 with fail
  refine wp_named ?_
  intro W1 hW1
  have hE1 : Ext w W1 := by rw [hW1]; first | exact ((Ext.refl _).alloc _).alloc _ | exact (((Ext.refl _).alloc _).alloc _).drew
  have k0 : ∀ w', Ext W1 w' → w'.cell? ⟨w.heap.size, 0, none⟩ = some (.int .u8 r.i) := fun w' h => h.cell (by rw [hW1]; simp [go_sem])
  have k1 : ∀ w', Ext W1 w' → w'.cell? ⟨w.heap.size, 1, none⟩ = some (.int .u8 r.o) := fun w' h => h.cell (by rw [hW1]; simp [go_sem])
  have k2 : ∀ w', Ext W1 w' → w'.cell? ⟨w.heap.size, 2, none⟩ = some (.int .u8 r.m) := fun w' h => h.cell (by rw [hW1]; simp [go_sem])
  have k3 : ∀ w', Ext W1 w' → w'.cell? ⟨w.heap.size, 3, none⟩ = some (.slice A r.n c) := fun w' h => h.cell (by rw [hW1]; simp [go_sem])
  have k4 : ∀ w', Ext W1 w' → w'.cell? ⟨w.heap.size, 4, none⟩ = some (.bool true) := fun w' h => h.cell (by rw [hW1]; simp [go_sem])
  have m0 : ∀ w', Ext W1 w' → w'.cell? ⟨w.heap.size + 1, 0, none⟩ = some (.int .u8 r.i) := fun w' h => h.cell (by rw [hW1]; simp [go_sem])
  have m1 : ∀ w', Ext W1 w' → w'.cell? ⟨w.heap.size + 1, 1, none⟩ = some (.int .u8 r.o) := fun w' h => h.cell (by rw [hW1]; simp [go_sem])
  have m2 : ∀ w', Ext W1 w' → w'.cell? ⟨w.heap.size + 1, 2, none⟩ = some (.int .u8 s.m) := fun w' h => h.cell (by rw [hW1]; simp [go_sem])
  have m3 : ∀ w', Ext W1 w' → w'.cell? ⟨w.heap.size + 1, 3, none⟩ = some (.slice B s.n d) := fun w' h => h.cell (by rw [hW1]; simp [go_sem])
  have m4 : ∀ w', Ext W1 w' → w'.cell? ⟨w.heap.size + 1, 4, none⟩ = some (.bool s.f) := fun w' h => h.cell (by rw [hW1]; simp [go_sem])
  clear hW1
  generalize w.heap.size + 1 = b4 at *
  generalize w.heap.size = b3 at *
  have hox := fun W (e : Ext W1 W) => bOfK_any W (.agg #[.int .u8 r.i, .int .u8 r.o, .int .u8 r.m, .slice A r.n c, .bool true]) ⟨r.i, r.o, r.m, r.n, true⟩ ⟨A, c, rfl, HX.out.2.2.1.ext (hE1.trans e), h1, h2, h3, h4, hnm⟩
  have hoy := fun W (e : Ext W1 W) => bOfK_any W (.agg #[.int .u8 r.i, .int .u8 r.o, .int .u8 s.m, .slice B s.n d, .bool s.f]) ⟨r.i, r.o, s.m, s.n, s.f⟩ ⟨B, d, rfl, HX.out.2.2.2.ext (hE1.trans e), h1, h2, j3, j4, jnm⟩
  have HM := Lib.hid (And.intro (show r.i % 3 ≤ 2 by omega) (show r.o % 3 ≤ 2 by omega))
  have HE1 := Lib.hid hE1
  have hE0 := Ext.refl W1
  clear hE1
  refine Dis.wp_region_apart 6 [4, 5] (factsOf [(1, OfV (r.i % 3) (r.o % 3) true), (3, OfV (r.i % 3) (r.o % 3) s.f), (4, Fresh W1.heap.size #[.int .i64 0, .int .i64 0, .slice none 0 0] 28), (5, Fresh W1.heap.size #[.int .i64 0, .int .i64 0, .slice none 0 0] 28)]) (fun k => ([[], [0], [], [0, 1, 2], [], [], [0, 1, 2, 3, 4, 5], [0, 1, 2, 3, 4, 5, 6]] : List (List Nat)).getD k []) (by kernel_rfl) (by kernel_rfl) Ext.pre (fun _ _ h => h.size) (mono_cons (stays_ofV _ _ _) (mono_cons (stays_ofV _ _ _) (mono_cons (stays_fresh _ _ _) (mono_cons (stays_fresh _ _ _) (mono_nil))))) ?_
  simp only [List.take_succ_cons, List.take_zero]
  repeat (first | (with_reducible refine Dis.lexL_quiet' (v := ?_) ?_ ?_ ?_ ?_; rotate_left; (· with_reducible rfl); (· simp [factsOf]); (· intro w1 hw1 _; go_simp; with_reducible rfl); (try simp only [Act.put, List.setIfInBounds_toArray, List.set_cons_zero, List.set_cons_succ])) | (with_reducible refine Dis.lexL_skip ?_ ?_; (· simp [Region.wanted, yielded, undef]); (try simp only [Act.put, List.setIfInBounds_toArray, List.set_cons_zero, List.set_cons_succ])) | (with_reducible refine Dis.lexL_quiet (v := ?_) ?_ ?_ ?_ ?_; rotate_left; (· simp [Region.wanted, yielded, undef]); (· simp [factsOf]); (· intro w1 hw1 _; go_simp; with_reducible rfl); (try simp only [Act.put, List.setIfInBounds_toArray, List.set_cons_zero, List.set_cons_succ])))
  with_reducible refine Dis.lexL_give' (φ := ?_) ?_ ?_ ?_ ?_ ?_; rotate_left; (· with_reducible rfl); (· simp only [factsOf, Nat.reduceAdd, ↓reduceIte, Nat.reduceEqDiff]; rfl); (· decide)
  · intro w5 hw5 _
    go_simp
    refine (hox w5 hw5).mono ?_
    rintro e w6 ⟨x, A1, c1, rfl, hK, hB, e6⟩
    exact ⟨_, rfl, e6, x, A1, c1, rfl, hK, hB⟩
  rintro v1 w5 hw5 ⟨x1, A1, c1, rfl, hK1, hB1⟩ hk2
  clear hk2 hw5 hK1 hB1 w5
  generalize x1.ins = xi at *
  generalize x1.outs = xo at *
  generalize x1.rows.length = xn at *
  clear x1
  (try simp only [Act.put, List.setIfInBounds_toArray, List.set_cons_zero, List.set_cons_succ])
  repeat (first | (with_reducible refine Dis.lexL_quiet' (v := ?_) ?_ ?_ ?_ ?_; rotate_left; (· with_reducible rfl); (· simp [factsOf]); (· intro w1 hw1 _; go_simp; with_reducible rfl); (try simp only [Act.put, List.setIfInBounds_toArray, List.set_cons_zero, List.set_cons_succ])) | (with_reducible refine Dis.lexL_skip ?_ ?_; (· simp [Region.wanted, yielded, undef]); (try simp only [Act.put, List.setIfInBounds_toArray, List.set_cons_zero, List.set_cons_succ])) | (with_reducible refine Dis.lexL_quiet (v := ?_) ?_ ?_ ?_ ?_; rotate_left; (· simp [Region.wanted, yielded, undef]); (· simp [factsOf]); (· intro w1 hw1 _; go_simp; with_reducible rfl); (try simp only [Act.put, List.setIfInBounds_toArray, List.set_cons_zero, List.set_cons_succ])))
  with_reducible refine Dis.lexL_give' (φ := ?_) ?_ ?_ ?_ ?_ ?_; rotate_left; (· with_reducible rfl); (· simp only [factsOf, Nat.reduceAdd, ↓reduceIte, Nat.reduceEqDiff]; rfl); (· decide)
  · intro w5 hw5 _
    go_simp
    refine (hoy w5 hw5).mono ?_
    rintro e w6 ⟨x, A1, c1, rfl, hK, hB, e6⟩
    exact ⟨_, rfl, e6, x, A1, c1, rfl, hK, hB⟩
  rintro v3 w5 hw5 ⟨y1, A3, c3, rfl, hK1, hB1⟩ hk2
  clear hk2 hw5 hK1 hB1 w5
  generalize y1.ins = yi at *
  generalize y1.outs = yo at *
  generalize y1.rows.length = yn at *
  clear y1
  (try simp only [Act.put, List.setIfInBounds_toArray, List.set_cons_zero, List.set_cons_succ])
  with_reducible refine Dis.lexL_make' (φ := ?_) ?_ ?_ ?_ ?_; rotate_left; (· with_reducible rfl); (· simp only [factsOf, Nat.reduceAdd, ↓reduceIte, Nat.reduceEqDiff]; rfl)
  · intro w2' hw2' _
    go_simp
    exact ⟨(fresh_alloc _ _ _ _ hw2'.size).2, fun _ => ⟨_, rfl, Nat.le_refl _, by simp⟩⟩
  rintro v4 w2' hw2' ⟨b7, rfl, hb7, hblk8⟩ hk2
  clear hk2 hw2' hblk8 w2'
  (try simp only [Act.put, List.setIfInBounds_toArray, List.set_cons_zero, List.set_cons_succ])
  with_reducible refine Dis.lexL_make' (φ := ?_) ?_ ?_ ?_ ?_; rotate_left; (· with_reducible rfl); (· simp only [factsOf, Nat.reduceAdd, ↓reduceIte, Nat.reduceEqDiff]; rfl)
  · intro w2' hw2' _
    go_simp
    exact ⟨(fresh_alloc _ _ _ _ hw2'.size).2, fun _ => ⟨_, rfl, Nat.le_refl _, by simp⟩⟩
  rintro v5 w2' hw2' ⟨b8, rfl, hb8, hblk8⟩ hk2
  clear hk2 hw2' hblk8 w2'
  (try simp only [Act.put, List.setIfInBounds_toArray, List.set_cons_zero, List.set_cons_succ])
  with_reducible refine Dis.lexL_nil ?_; intro w1 hw1 hk1; simp only [List.drop_succ_cons, List.drop_zero]
  have hne := hk1.apart 4 5 (by decide) (by decide) (by decide) rfl rfl
  simp only [Dis.blkP, ne_eq, Option.some.injEq] at hne
  obtain ⟨x, A1', c1', e1, hKx, hBx⟩ := hk1.get 1 rfl rfl
  obtain ⟨rfl, rfl, rfl, rfl, rfl⟩ : xi = x.ins ∧ xo = x.outs ∧ A1 = A1' ∧ xn = x.rows.length ∧ c1 = c1' := by simpa using e1
  obtain ⟨y, A3', c3', e3, hKy, hBy⟩ := hk1.get 3 rfl rfl
  obtain ⟨rfl, rfl, rfl, rfl, rfl⟩ : yi = y.ins ∧ yo = y.outs ∧ A3 = A3' ∧ yn = y.rows.length ∧ c3 = c3' := by simpa using e3
  obtain ⟨b7', e7, _, hB7⟩ := hk1.get 4 rfl rfl
  obtain rfl : b7' = b7 := by simpa using e7.symm
  obtain ⟨b8', e8, _, hB8⟩ := hk1.get 5 rfl rfl
  obtain rfl : b8' = b8 := by simpa using e8.symm
  clear e1 e3 e7 e8 hk1 hox hoy k0 k1 k2 k3 k4 m0 m1 m2 m3 m4 hE0
  go_upto_region 999 with (first
    | (with_reducible refine stop_at2 4 ?_)
    | (with_reducible refine stop_at 4 ?_)
    | (with_reducible refine wpList_store_blk _ rfl 28 _ _ rfl b7' 28 _ _ rfl rfl hB7 (by kernel_rfl) (by kernel_rfl) (by kernel_rfl) ?_; intro w2 h2' g2; have hB8' := (g2.block b8' (lt_of_block hB8) (by simp; omega)).trans hB8)
    | (with_reducible refine wpList_store_blk _ rfl 28 _ _ rfl b8' 28 _ _ rfl rfl hB8' (by kernel_rfl) (by kernel_rfl) (by kernel_rfl) ?_; intro w3 h3' g3))
  have hTW := two_of hw1 hKx hKy hBx hBy HM.out.1 HM.out.2 hne hb7 hb8 hB7 hB8 g2 h2' g3 h3'
  have HTW := Lib.hid (And.intro hTW (HE1.out.trans hTW.ext))
  clear hTW hw1 hKx hKy hBx hBy hne hb7 hb8 hB7 hB8 hB8' g2 h2' g3 h3'
  refine ⟨?_⟩
  have hW : TwoV w w3 b7' b8' x y true s.f := ⟨HTW.out.2, HTW.out.1.bx, HTW.out.1.bz, HTW.out.1.lx⟩
  exact tests_t4 w w3 b7' b8' x y s.f ns cv _ _ _ _ _ _ _ _ _ _ _ _ _ _ _ _ _ _ _ _ _ _ _ _ _ _ _ _ _ _ _ _ _ _ _ _ _ _ _ _ _ _ _ _ _ _ _ _ _ _ _ _ _ _ _ _ _ _ _ _ _ _ _ _ _ _ _ _ _ _ _ _ _ _ _ _ _ _ _ _ _ _ _ _ _ _ _ _ _ _ _ _ _ _ _ _ _ _ _ _ _ _ _ _ _ _ _ _ _ _ _ _ _ _ _ _ _ _ _ _ _ _ _ _ _ _ _ _ _ _ _ _ _ _ _ _ _ _ _ _ _ _ _ _ _ _ _ v hW (HX.out.2.1.ext HTW.out.2) (HX.out.1.ext HTW.out.2)
end Go.Proofs.YtamodjlifpjaoaaDoor
