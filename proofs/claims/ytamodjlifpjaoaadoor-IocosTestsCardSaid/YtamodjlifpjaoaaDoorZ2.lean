/- IocosTests 7: from the count of the plan's watching on. -/
import Derived.Test.YtamodjlifpjaoaaDoorZ0
import Derived.Test.YtamodjlifpjaoaaDoorZ1
import Derived.Test.YtamodjlifpjaoaaDoorX4
import Derived.Test.YtamodjlifpjaoaaDoorGJ
namespace Go.Proofs.YtamodjlifpjaoaaDoor
open Go.RowKit
set_option linter.unusedVariables false
set_option linter.unusedSimpArgs false
attribute [local go_sem] Oper.quietV quietV Oper.gives givesV ext_refl_iff ext_alloc_iff ext_drew_iff ext_drewN_iff
noncomputable def T7 (n : Nat) : Code := textR n Tryd.f7.body
def TestsP (w : World) (e : Ending) (w' : World) : Prop := e = .returned (.bool true) ∧ Ext w w'
/-- How often a plan watches. -/
def cntW (p : List Int) : Nat := p.countP (fun a => a == -1)
theorem cntW_step {p : List Int} {i : Nat} {a : Int} (h : p[i]? = some a) : cntW (p.take (i + 1)) = cntW (p.take i) + (if a = -1 then 1 else 0) := by
  unfold cntW
  rw [List.take_add_one, h, List.countP_append]
  simp [List.countP_cons]
theorem mkT_watch {y : Lts} (hO : y.O ≤ 2) : ∀ (p : List Int) (S f : Nat), (mkT y p S f).length ≤ 3 ^ cntW p * (p.length + 1)
  | [], _, _ => by simp [mkT, cntW]
  | a :: q, S, f => by
    have ih := mkT_watch hO q
    have h3 : 1 ≤ 3 ^ cntW q := Nat.one_le_pow _ _ (by omega)
    have hpos : 1 ≤ 3 ^ cntW q * (q.length + 1) := Nat.succ_le_of_lt (Nat.mul_pos (by omega) (by omega))
    have hw : cntW (a :: q) = cntW q + (if a = -1 then 1 else 0) := by unfold cntW; simp [List.countP_cons]
    have hM : 3 ^ cntW q * (q.length + 1 + 1) = 3 ^ cntW q * (q.length + 1) + 3 ^ cntW q := Nat.mul_succ _ _
    by_cases h : a ≠ -1 ∧ aftM y S a = 0
    · rw [mkT_skip h.1 h.2, hw, if_neg h.1, List.length_cons, Nat.add_zero, hM]
      have := ih S f
      omega
    · rw [mkT_node (by rcases Classical.em (a = -1) with h1 | h1; exact .inl h1; exact .inr fun e => h ⟨h1, e⟩), List.length_cons, List.length_cons, hw]
      have h1 := fold_bound (x := y) (rec := mkT y q) (S := S) (f := f) hpos ih (labsOf y a) ([], [])
      simp only [List.length_nil, Nat.zero_add] at h1
      show (kidsT y (mkT y q) S f (labsOf y a)).2.length + 1 ≤ _
      unfold kidsT
      by_cases ha : a = -1
      · have h2 : (labsOf y a).length ≤ 3 := by unfold labsOf; rw [if_pos ha, obs_len]; omega
        have h4 : (labsOf y a).length * (3 ^ cntW q * (q.length + 1)) ≤ 3 * (3 ^ cntW q * (q.length + 1)) := Nat.mul_le_mul_right _ h2
        have h5 : 3 ^ (cntW q + 1) * (q.length + 1 + 1) = 3 * (3 ^ cntW q * (q.length + 1)) + 3 * 3 ^ cntW q := by
          rw [Nat.pow_succ, Nat.mul_comm (3 ^ cntW q) 3, Nat.mul_assoc, hM, Nat.mul_add]
        rw [if_pos ha, h5]
        omega
      · have h2 : (labsOf y a).length = 1 := by unfold labsOf; rw [if_neg ha]; rfl
        rw [h2, Nat.one_mul] at h1
        rw [if_neg ha, show cntW q + 0 = cntW q from rfl, hM]
        omega
theorem makeR_fits {x : Lts} (h0 : checkI x = 0) {p : List Int} (hp : okPlan x p) (hl : p.length ≤ 256) (hm : (mkT x p (begM x) 0).length ≤ 1024) : makeR x p = (mkT x p (begM x) 0, 0) := by
  unfold makeR
  rw [if_neg (by simpa using h0), if_neg (by omega), if_neg, if_neg (by omega)]
  rw [Bool.not_eq_true, List.any_eq_false]
  intro a ha
  unfold badP
  rcases hp a ha with h | h <;> simp <;> omega
theorem slt_befG : ∀ {a b : List Int}, a.length = b.length → slt a b = true → befG a b = true
  | [], [], _, h => by simp [slt] at h
  | [], _ :: _, hl, _ => by simp at hl
  | _ :: _, [], hl, _ => by simp at hl
  | x :: a, y :: b, hl, h => by
    unfold slt at h
    unfold befG
    simp only [Bool.or_eq_true, Bool.and_eq_true, decide_eq_true_eq] at h
    rcases h with h | ⟨h1, h2⟩
    · rw [if_neg (by omega)]; exact decide_eq_true h
    · rw [if_pos h1]; exact slt_befG (by simpa using hl) h2
theorem bef_befL {a b : List Int} (h : bef a b = true) : befL a b = true := by
  unfold befL
  rcases bef_iff.1 h with h1 | ⟨h1, h2⟩
  · rw [if_neg (by omega)]; exact decide_eq_true h1
  · rw [if_pos h1]; exact slt_befG h1 h2
theorem wpList_open {ops : Array Oper} {rest : List Oper} {o : Oper} {a : Act} {w W0 : World} {Q : Exit → Act → World → Prop} (ts : List Int) (c b : Nat) (v : Value)
    (hg : o.guard = none) (s x : Operand) (ho : o.op = .call { callee := .builtin .append, args := #[s, x], argTypes := #[30, 30] })
    (hs : a.eval s = .slice (some ⟨b, 0, none⟩) 0 0) (hx : a.eval x = v) (hv : IntsC W0 v ts c) (hlen : ts.length ≤ 1000) (hE : Ext W0 w) (hb : w.heap[b]? = some (.cells #[] 3 (0, 0))) (hB : W0.heap.size ≤ b)
    (h : ∀ v' w', w'.ownsRow W0.heap.size 3 1 v' ts.length (ts.map (.int .i64)) → Ext W0 w' → wpList Tryd.prog ops Q rest (a.put o.dst v') w') : wpList Tryd.prog ops Q (o :: rest) a w :=
  wpList_plain hg fun K hK => by
    have := step_open (ops := ops) (K := K) (Q := Q) (E := True) ts c b v hg s x ho hs hx hv hlen hE hb hB (fun v' w' h1 h2 _ _ _ => hK _ _ (h v' w' h1 h2))
    rwa [if_pos (by simp [Region.wanted, hg])] at this
set_option maxRecDepth 100000 in
set_option maxHeartbeats 16000000 in
theorem tests_t26 (w W : World) (b7 b8 : Nat) (x y : Lts) (fl gl is : Bool) (t p wl : List Int) (o : Int) (ct cp : Nat) (c0 c1 c2 c3 c4 c5 c6 c12 c14 c15 c16 c17 c18 c19 c20 c21 c22 c23 c24 c25 c26 c27 c28 c29 c30 c31 c32 c33 c34 c35 c36 c37 c38 c39 c40 c41 c42 c43 c44 c45 c46 c47 c48 c49 c50 c51 c52 c53 c54 c55 c56 c57 c58 c59 c60 c61 c62 c63 c64 c65 c66 c67 c68 c69 c70 c71 c72 c73 c74 c75 c76 c77 c78 c79 c80 c81 c82 c83 c84 c85 c86 c87 c88 c89 c90 c91 c92 c93 c94 c95 c96 c97 c98 c99 c100 c101 c102 c103 c104 c105 c106 c107 c108 c109 c110 c111 c112 c113 c114 c115 c116 c117 c118 c119 c120 c121 c122 c123 c124 c125 c126 c127 c128 c129 c130 c131 c132 c133 c134 c135 c136 c137 c138 c139 c140 c141 c142 c143 c144 c145 c146 c147 c148 c149 tv pv : Value) (hW : TwoV w W b7 b8 x y fl gl) (hT : Tab W) (hacc : accB x = true) (ht : IntsC W tv t ct) (hp : IntsC W pv p cp) (hok : okPlan y p)
    (hl : p.length ≤ 256) (htl : t.length ≤ 30) (hm : (mkT y p (begM y) 0).length ≤ 1024) (hV : verdG x (mkT y p (begM y) 0) = (is, wl)) (hN : is = true ∨ nle wl (t ++ [o])) :
    Code.wp Tryd.prog (T7 26) (bodyPost Tryd.prog Tryd.f7 (TestsP w)) ⟨(c0 :: c1 :: c2 :: c3 :: c4 :: c5 :: c6 :: .pointer (some ⟨b7, 0, none⟩) :: .pointer (some ⟨b8, 0, none⟩) :: .bool is :: tv :: .int .i64 o :: c12 :: pv :: c14 :: c15 :: c16 :: c17 :: c18 :: c19 :: c20 :: c21 :: c22 :: c23 :: c24 :: c25 :: c26 :: c27 :: c28 :: c29 :: c30 :: c31 :: c32 :: c33 :: c34 :: c35 :: c36 :: c37 :: c38 :: c39 :: c40 :: c41 :: c42 :: c43 :: c44 :: c45 :: c46 :: c47 :: c48 :: c49 :: c50 :: c51 :: c52 :: c53 :: c54 :: c55 :: c56 :: c57 :: c58 :: c59 :: c60 :: c61 :: c62 :: c63 :: c64 :: c65 :: c66 :: c67 :: c68 :: c69 :: c70 :: c71 :: c72 :: c73 :: c74 :: c75 :: c76 :: c77 :: c78 :: c79 :: c80 :: c81 :: c82 :: c83 :: c84 :: c85 :: c86 :: c87 :: c88 :: c89 :: c90 :: c91 :: c92 :: c93 :: c94 :: c95 :: c96 :: c97 :: c98 :: c99 :: c100 :: c101 :: c102 :: c103 :: c104 :: c105 :: c106 :: c107 :: c108 :: c109 :: c110 :: c111 :: c112 :: c113 :: c114 :: c115 :: c116 :: c117 :: c118 :: c119 :: c120 :: c121 :: c122 :: c123 :: c124 :: c125 :: c126 :: c127 :: c128 :: c129 :: c130 :: c131 :: c132 :: c133 :: c134 :: c135 :: c136 :: c137 :: c138 :: c139 :: c140 :: c141 :: c142 :: c143 :: c144 :: c145 :: c146 :: c147 :: c148 :: c149 :: []).toArray, []⟩ W := by
  conv => arg 2; whnf
  obtain ⟨hcx, hcy, hnx, hny, _⟩ := hW.good
  obtain ⟨hin, hout, hOx, hOy⟩ := hW.labs
  have hgx := check_good hcx
  have hgy := check_good hcy
  obtain ⟨i3, hi3, hz3, hs3, hb3⟩ := info_parts int_info
  have HX := Lib.hid (And.intro hW (And.intro hT ht))
  obtain ⟨pA, pc, p0, p1, p2, pS⟩ := hW.bx
  have p0 := fun w' (h : Ext W w') => h.cell p0
  have p1 := fun w' (h : Ext W w') => h.cell p1
  have p2 := fun w' (h : Ext W w') => h.cell p2
  obtain ⟨qA, qc, q0, q1, q2, qS⟩ := hW.bz
  have q0 := fun w' (h : Ext W w') => h.cell q0
  have q1 := fun w' (h : Ext W w') => h.cell q1
  have q2 := fun w' (h : Ext W w') => h.cell q2
  have hE0 := Ext.refl W
  have hmk := Make_any W _ y pv p cp qS hp hT
  rw [makeR_fits hcy hok hl hm] at hmk
  unfold MakeP at hmk
  have hR : rightB x.ins x.outs (mkT y p (begM y) 0) = true := by rw [hin, hout]; exact mkT_right hgy hok (begM y)
  have hvr : verdR x (mkT y p (begM y) 0) = (is, wl, 0) := by
    unfold verdR
    rw [if_neg (by simpa using hcx), if_neg (by omega), if_neg (by rw [hR]; simp), if_neg (by rw [hacc]; simp)]
    unfold verdT
    rw [hV]
  have hvd := fun W' tv' ct' (e : Ext W W') (hn : NodesC W' tv' (mkT y p (begM y) 0) ct') => Verdict_any W' _ x tv' (mkT y p (begM y) 0) ct' (pS.ext e) (fun _ _ => hnx) hn (hT.ext e)
  rw [hvr] at hvd
  unfold VerdP at hvd
  have HN := Lib.hid (And.intro hN (And.intro htl hm))
  clear hW hT ht hcx hcy hnx hny hin hout hOx hOy hgx hgy hp hok hl hm hV hR hvr hN pS qS hacc
  generalize mkT y p (begM y) 0 = L at *
  go_upto_region 27 with ((with_reducible refine hmk.mono ?_); rintro e W5 ⟨nv, rfl, hN5, e5⟩; obtain ⟨At, M5, hM5, hvt, hc5, hok5, hl5, hm5⟩ := id hN5)
  subst hvt
  have hvd5 := hvd W5 _ _ e5 hN5
  have p0 := fun w' (h : Ext W5 w') => p0 w' (e5.trans h)
  have p1 := fun w' (h : Ext W5 w') => p1 w' (e5.trans h)
  have p2 := fun w' (h : Ext W5 w') => p2 w' (e5.trans h)
  have hE5 := Ext.refl W5
  have H5 := Lib.hid e5
  clear hmk hvd e5 hN5 hM5 hc5 hok5 hE0
  have gi : (is != is) = false := by cases is <;> rfl
  go_upto_region 30 with ((with_reducible refine hvd5.mono ?_); rintro e W6 ⟨wv, rfl, hf6, e6⟩)
  have H6 := Lib.hid (And.intro hf6 (H5.out.trans e6))
  have hti := HX.out.2.2.ext H6.out.2
  have htl := HN.out.2.1
  have hE6 := Ext.refl W6
  clear hvd5 hf6 e6 p0 p1 p2 q0 q1 q2 hE5 gi
  go_upto_region 31 with (first
    | (at_builtin; refine wpList_open (W0 := W6) t ct W6.heap.size tv rfl _ _ rfl rfl rfl hti (by omega) (alloc_ext W6 _) (heap_alloc_new W6 _) (Nat.le_refl _) ?_; intro vA wA hownA eA; have HA := Lib.hid eA; have hszA := eA.size; clear eA)
    | (at_builtin; refine wpList_append_own2 rfl _ _ 30 rfl W6.heap.size 3 i3 (.int .i64 0) 1 8 Tryd.underlying30 hi3 hz3 hs3 hb3 rfl (by decide) vA t.length (t.map (.int .i64)) rfl (World.ownsRow.alloc hownA _) ⟨wA.heap.size, 0, none⟩ 1 1 [.int .i64 o] rfl rfl (new_cell _ _ _ _ rfl) (one_int _) (by unfold maxLen; omega) (by omega) (by simp; omega) ?_; intro v9 w9 hown9 hg9 hb9; have HO9 := Lib.hid (And.intro hown9 (ext_grown (HA.out.trans (alloc_ext wA _)) (World.ownsRow.alloc hownA _) (Nat.le_refl _) hg9)); clear hown9 hg9 hb9))
  obtain ⟨c9, hlo⟩ := ints_of_owns (xs := t ++ [o]) (w := w9) (base := W6.heap.size) (e := 3) (v := v9) (by rw [List.length_append, List.map_append]; exact HO9.out.1) (by rw [List.length_append]; simp [lenMax]; omega)
  obtain ⟨A9, rfl, _⟩ := id hlo
  have HQ9 := Lib.hid HO9.out.2
  clear HO9
  generalize t ++ [o] = lo at *
  have hwi : FitC w9 wv wl := H6.out.1.ext HQ9.out
  obtain ⟨A6, rfl, _⟩ := id hwi
  have hlv := fun W' (e : Ext w9 W') => lives_any W' (HX.out.2.1.ext (H6.out.2.trans (HQ9.out.trans e)))
  have HE := Lib.hid (H6.out.2.trans HQ9.out)
  have hsm := fun W' (e : Ext w9 W') => same_any W' _ _ wl lo _ c9 (hwi.ext e) (hlo.ext e)
  have hbe := fun W' (e : Ext w9 W') => before_any W' _ _ wl lo _ c9 (hwi.ext e) (hlo.ext e)
  have hE9 := Ext.refl w9
  clear hti htl hE6 hwi hlo hownA hszA
  cases is with
  | true =>
    clear hsm hbe
    go_wp2_with ((with_reducible refine (hlv _ (by first | exact Ext.refl _ | exact (Ext.refl _).drew)).mono ?_); rintro e W10 ⟨rfl, e10⟩)
    go_ret
    exact ⟨rfl, HX.out.1.ext.trans (HE.out.trans e10)⟩
  | false =>
    have hn := HN.out.1.resolve_left (by simp)
    rcases hn with hn | hn
    · have hb : (wl == lo) = true := by simp [hn]
      have hsm := hsm w9 hE9
      rw [hb, show b01 true = 1 from rfl] at hsm
      clear hb hn hbe
      go_wp2_with (first
        | ((with_reducible refine hsm.mono ?_); rintro e W8 ⟨rfl, e8⟩; have hlv8 := hlv W8 e8)
        | ((with_reducible refine hlv8.mono ?_); rintro e W10 ⟨rfl, e10⟩))
      go_ret
      exact ⟨rfl, HX.out.1.ext.trans (HE.out.trans (e8.trans e10))⟩
    · have hbf := bef_befL hn
      rw [hbf, show b01 true = 1 from rfl] at hbe
      have hsm := hsm w9 hE9
      cases hq : (wl == lo) with
      | true =>
        rw [hq, show b01 true = 1 from rfl] at hsm
        clear hbf hn hbe hq
        go_wp2_with (first
          | ((with_reducible refine hsm.mono ?_); rintro e W8 ⟨rfl, e8⟩; have hlv8 := hlv W8 e8)
          | ((with_reducible refine hlv8.mono ?_); rintro e W10 ⟨rfl, e10⟩))
        go_ret
        exact ⟨rfl, HX.out.1.ext.trans (HE.out.trans (e8.trans e10))⟩
      | false =>
        rw [hq, show b01 false = 0 from rfl] at hsm
        clear hbf hn hq
        go_wp2_with (first
          | ((with_reducible refine hsm.mono ?_); rintro e W8 ⟨rfl, e8⟩; have hbe8 := hbe W8 e8)
          | ((with_reducible refine hbe8.mono ?_); rintro e W9 ⟨rfl, e9⟩; have hlv9 := hlv W9 (e8.trans e9))
          | ((with_reducible refine hlv9.mono ?_); rintro e W10 ⟨rfl, e10⟩))
        go_ret
        exact ⟨rfl, HX.out.1.ext.trans (HE.out.trans (e8.trans (e9.trans e10)))⟩
end Go.Proofs.YtamodjlifpjaoaaDoor
