/- refines.refined. -/
import Derived.Test.YtkmcplhgakpneaaS2
namespace Go.Proofs.Ytkmcplhgakpneaa
open Go.RowKit Go.Maps
set_option linter.unusedVariables false
set_option linter.unusedSimpArgs false
attribute [local go_sem] Oper.quietV quietV Oper.gives givesV ext_refl_iff ext_alloc_iff ext_drew_iff ext_drewN_iff

/-- Names by the order in which things come. -/
def nameStep {κ : Type} [BEq κ] (es : List (κ × Int)) (x : κ) : List (κ × Int) := if (getM es x).isSome then es else es ++ [(x, (es.length : Int))]
def namesOf {κ : Type} [BEq κ] (l : List κ) : List (κ × Int) := l.foldl nameStep []
def namedL {κ : Type} [BEq κ] (l : List κ) : List Int := l.map (fun x => (getM (namesOf l) x).getD 0)

def keyL (p : List Int) (b : Int) (row : List (Int × Int)) : List Int := b :: sigL p row
def keysL (m : Mach) (p : List Int) : List (List Int) := (p.zip m.rows).map (fun x => keyL p x.1 x.2)
def refinedL (m : Mach) (p : List Int) : List Int := namedL (keysL m p)

section
variable {κ : Type} [BEq κ] [LawfulBEq κ]
omit [LawfulBEq κ] in
theorem getM_append {es : List (κ × Int)} {y : κ} {n : Int} {x : κ} : getM (es ++ [(y, n)]) x = (getM es x).or (if y == x then some n else none) := by
  unfold getM
  rw [List.find?_append]
  cases h : es.find? (fun p => p.1 == x) with
  | some p => simp
  | none =>
    simp only [Option.none_or, Option.map_none]
    rw [List.find?_cons]
    cases hh : (y == x) <;> simp
omit [LawfulBEq κ] in
theorem nameStep_keep {es : List (κ × Int)} {y x : κ} {n : Int} (h : getM es x = some n) : getM (nameStep es y) x = some n := by
  unfold nameStep
  split
  · exact h
  · rw [getM_append, h]; rfl
omit [LawfulBEq κ] in
theorem foldl_keep {x : κ} {n : Int} : ∀ (l : List κ) (es : List (κ × Int)), getM es x = some n → getM (l.foldl nameStep es) x = some n
  | [], _, h => h
  | _ :: l, _, h => foldl_keep l _ (nameStep_keep h)
theorem nameStep_has (es : List (κ × Int)) (x : κ) : (getM (nameStep es x) x).isSome = true := by
  unfold nameStep
  split
  · assumption
  · rename_i h
    rw [getM_append]
    cases hg : getM es x <;> simp
/-- A name, once given, stays. -/
theorem names_take (l : List κ) {k : Nat} (hk : k < l.length) : getM (namesOf l) l[k] = getM (namesOf (l.take (k + 1))) l[k] := by
  have h1 : namesOf l = (l.drop (k + 1)).foldl nameStep (namesOf (l.take (k + 1))) := by
    unfold namesOf
    rw [← List.foldl_append, List.take_append_drop]
  have h2 : namesOf (l.take (k + 1)) = nameStep (namesOf (l.take k)) l[k] := by
    unfold namesOf
    rw [List.take_succ_eq_append_getElem hk, List.foldl_append]; rfl
  obtain ⟨n, hn⟩ := Option.isSome_iff_exists.1 (nameStep_has (namesOf (l.take k)) l[k])
  rw [h2, hn, h1, h2]
  exact foldl_keep _ _ hn
omit [LawfulBEq κ] in
theorem namesOf_len : ∀ (l : List κ) (es : List (κ × Int)), (l.foldl nameStep es).length ≤ es.length + l.length
  | [], _ => by simp
  | x :: l, es => by
    have := namesOf_len l (nameStep es x)
    have h2 : (nameStep es x).length ≤ es.length + 1 := by unfold nameStep; split <;> simp
    simp only [List.foldl_cons, List.length_cons]; omega
end

theorem outL_set {r : List Int} {n k : Nat} (hr : r.length = n) (hk : k < n) : (r.take k ++ List.replicate (n - k) 0).set k (r.getD k 0) = r.take (k + 1) ++ List.replicate (n - (k + 1)) 0 := by
  have hk' : k < r.length := by omega
  rw [show n - k = (n - (k + 1)) + 1 by omega, List.replicate_succ, List.set_append_right _ _ (by rw [List.length_take]; omega), List.length_take, Nat.min_eq_left (by omega), Nat.sub_self, List.set_cons_zero, List.take_succ_eq_append_getElem hk']
  rw [List.append_assoc]; simp [List.getD, hk']

theorem foldl_sets (off : Nat) : ∀ (l : List Value) (k : Nat) (base : Array Value), (l.zipIdx k).foldl (fun cs x => cs.setIfInBounds (off + x.2) x.1) base = setsAt base (off + k) l
  | [], _, _ => rfl
  | v :: l, k, base => by
    rw [List.zipIdx_cons, List.foldl_cons, foldl_sets off l (k + 1)]
    rfl
theorem run_build_key (w : World) (b : Int) (cs : Array Value) (h : cs.size = 32) : (Instr.build 94 #[(0, .int .i64 b), (1, .agg cs)]).run Try.prog w = .ok (.agg (#[.int .i64 b] ++ cs)) w := by
  have hf : ∀ (base : Array Value), base.size = 33 → (cs.zipIdx.foldl (fun cs x => cs.setIfInBounds (1 + x.2) x.1) base 0 32) = ⟨base.toList.take 1⟩ ++ cs := fun base hb => by
    have h32 : cs.zipIdx.size = 32 := by simp [h]
    rw [← h32, ← Array.foldl_toList, Array.toList_zipIdx, foldl_sets]
    apply Array.ext'
    rw [setsAt_toList _ _ _ (by simp; omega)]
    simp
    omega
  simp [go_sem, Instr.build, Instr.fill, h, hf]
theorem wpList_build2 {P : Program} {ops : Array Oper} {rest : List Oper} {o : Oper} {a : Act} {w : World} {Q : Exit → Act → World → Prop} (hg : o.guard = none) (t : TypeId) (i j : Nat) (x y : Operand) (ho : o.op = .build t #[(i, x), (j, y)]) (vx vy v : Value) (hx : a.eval x = vx) (hy : a.eval y = vy)
    (hrun : (Instr.build t #[(i, vx), (j, vy)]).run P w = .ok v w) (h : wpList P ops Q rest (a.put o.dst v) w) : wpList P ops Q (o :: rest) a w := by
  refine wpList_plain hg fun K hK => ?_
  unfold Oper.wp
  simp only [execOp, ho, List.map_toArray, List.map_cons, List.map_nil, hx, hy]
  simp only [Sem.run_bind, hrun, Result.andThen_ok, Sem.run_pure]
  exact hK _ _ h
def keyA (p : List Int) (b : Int) (row : List (Int × Int)) : Array Value := ((keyL p b row).map (.int .i64)).toArray
theorem keyA_build (p : List Int) (b : Int) (row : List (Int × Int)) : #[Value.int .i64 b] ++ sigA p row = keyA p b row := by
  simp [keyA, keyL, sigA]
theorem keyA_size (p : List Int) (b : Int) (row : List (Int × Int)) (h : row.length ≤ 16) : (keyA p b row).size = 33 := by
  simp [keyA, keyL, sigL_length p row h]
theorem keyA_one (p : List Int) (b : Int) (row : List (Int × Int)) : (keyA p b row).all (·.oneCell') = true := all_oneCell_toArray (ints_oneCell _ _)

theorem keyOK_of {m : Mach} (hV : Valid m) {p : List Int} (hwf : ∀ x ∈ p, wfI x) {k : Nat} (hkr : k < m.rows.length) (hlt : k < p.length) (hpl : p.length = m.rows.length) : keyOK (keyL p p[k] m.rows[k]) := by
  have h16 : m.rows[k].length ≤ 16 := by have := hV.len _ (List.getElem_mem hkr); have := hV.ins; omega
  refine ⟨by simp [keyL, sigL_length p _ h16], fun x hx => ?_⟩
  have hz : wfI 0 := by unfold wfI; decide
  have hm1 : wfI (-1) := by unfold wfI; decide
  rcases List.mem_cons.1 hx with rfl | hx
  · exact hwf _ (List.getElem_mem hlt)
  · rcases List.mem_append.1 hx with hx | hx
    · obtain ⟨e, he, hxe⟩ := List.mem_flatMap.1 hx
      have hf := hV.fit _ (List.getElem_mem hkr) e he
      have ho := hV.outs
      simp only [sigC, List.mem_cons, List.not_mem_nil, or_false] at hxe
      rcases hxe with rfl | rfl
      · simp only [fitsB, Bool.or_eq_true, Bool.and_eq_true, beq_iff_eq, decide_eq_true_eq] at hf
        exact WalkArith.wf_i64 (by omega)
      · split
        · exact hm1
        · rename_i hne
          simp only [fitsB, Bool.or_eq_true, Bool.and_eq_true, beq_iff_eq, decide_eq_true_eq] at hf
          have : e.1.toNat < p.length := by omega
          rw [show p.getD e.1.toNat 0 = p[e.1.toNat] by simp [List.getD, this]]
          exact hwf _ (List.getElem_mem this)
    · rw [(List.mem_replicate.1 hx).2]; exact hz

theorem keysL_length {m : Mach} {p : List Int} (h : p.length = m.rows.length) : (keysL m p).length = p.length := by simp [keysL, h]
theorem refinedL_length (m : Mach) (p : List Int) (h : p.length = m.rows.length) : (refinedL m p).length = p.length := by simp [refinedL, namedL, keysL_length h]

set_option maxRecDepth 100000 in
set_option maxHeartbeats 600000 in
theorem refined_any (w : World) (mv pv : Value) (m : Mach) (hm : MachV w mv m) (hV : Valid m) (p : List Int) (cp : Nat) (hp : IntsC w pv p cp) (hpl : p.length = m.rows.length) (hwf : ∀ x ∈ p, wfI x) :
    Calls Try.prog 38 #[mv, pv] w fun e w' => (∃ u, e = .returned u ∧ IntsC w' u (refinedL m p) (refinedL m p).length ∧ ∀ b, u.ownBlock = some b → w.heap.size ≤ b) ∧ Ext w w' := by
  obtain ⟨i0, hi0, hz0, hz1, hz2⟩ := info_parts int_info
  have hmm := @run_makeMap Try.prog
  have hm0 := hm
  have hp0 := hp
  obtain ⟨rv, c, rfl, hr⟩ := hm
  obtain ⟨Ap, rfl, hcp, _, hpm⟩ := hp
  have hV64 := hV.size
  unfold lenMax at hpm
  have hpn : p.length ≤ 64 := by omega
  have HPL := Lib.hid hpl
  clear hpl hV64
  go_enter Try.func38, Try.ntmps38
  go_upto_region 1 with fail
  refine wp_named ?_
  intro W1 hW1
  have hE1 : Ext w W1 := by rw [hW1]; exact (Ext.refl _).alloc _
  have k0 : ∀ w', Ext W1 w' → w'.cell? ⟨w.heap.size, 0, none⟩ = some (.int .i64 m.ins) := fun w' h => h.cell (by rw [hW1]; simp [go_sem])
  have k1 : ∀ w', Ext W1 w' → w'.cell? ⟨w.heap.size, 1, none⟩ = some (.int .i64 m.outs) := fun w' h => h.cell (by rw [hW1]; simp [go_sem])
  have k2 : ∀ w', Ext W1 w' → w'.cell? ⟨w.heap.size, 2, none⟩ = some rv := fun w' h => h.cell (by rw [hW1]; simp [go_sem])
  clear hW1
  go_wp2_with (at_make; refine wpList_make_full _ rfl _ _ 29 rfl (W1.heap.size + 1) 3 i0 (.int .i64 0) 1 Try.underlying29 hi0 hz0 hz1 _ _ _ _ p.length rfl rfl rfl rfl (by rw [hz2]; omega) (by unfold maxLen; omega) (by simp) ?_; intro w1 hown1 hg1)
  rw [World.size_alloc, Nat.mul_one, show (Value.int .i64 0).cells = #[.int .i64 0] from rfl, toList_madeCells_one] at hown1
  have hM1 : MapIs w1 W1.heap.size keyV keyOK [] := (MapIs.made W1 keyV keyOK).keep (hg1.block _ (by simp) (by simp))
  have hE2 : Ext W1 w1 := Below.grown ((Ext.refl W1).alloc _) hg1 ((Ext.refl W1).alloc _).size (by simp)
  have hkl := keysL_length (m := m) HPL.out
  have hrl := refinedL_length m p HPL.out
  have HKL := Lib.hid hkl
  have HRL := Lib.hid hrl
  clear hg1 hkl hrl
  go_loopw [18] (fun i wr => ∃ k : Nat, k ≤ p.length ∧ i = .int .i64 k ∧ Ext W1 wr ∧ MapIs wr W1.heap.size keyV keyOK (namesOf ((keysL m p).take k)) ∧
     wr.ownsRow (W1.heap.size + 1) 3 1 (.slice (some ⟨W1.heap.size + 1, 0, none⟩) p.length p.length) p.length (((refinedL m p).take k ++ List.replicate (p.length - k) 0).map (.int .i64))) (fun i _ => p.length - (intOf i).toNat)
  case atStart => exact ⟨0, by omega, rfl, hE2, by simpa [namesOf] using hM1, by simpa using hown1⟩
  case round =>
    clear hown1 hM1
    obtain ⟨k, hk, rfl, hE, hM, hown⟩ := hrel
    by_cases hlt : k < p.length
    · obtain ⟨b, o, rfl, hb, c0⟩ := ((hcp.ext hE1).ext hE).at_int hlt
      have hkr : k < m.rows.length := by have := HPL.out; omega
      have hkk : k < (keysL m p).length := by have := HKL.out; omega
      have hkey : (keysL m p)[k] = keyL p p[k] m.rows[k] := by simp [keysL]
      have HKEY := Lib.hid hkey
      have g0 : ∀ w', Ext wr w' → w'.cell? ⟨b, o + k, none⟩ = some (.int .i64 p[k]) := fun w' h => h.cell c0
      have g1 : ∀ w', Ext wr w' → w'.cell? ⟨w.heap.size, 0, none⟩ = some (.int .i64 m.ins) := fun w' h => k0 w' (hE.trans h)
      have g2 : ∀ w', Ext wr w' → w'.cell? ⟨w.heap.size, 1, none⟩ = some (.int .i64 m.outs) := fun w' h => k1 w' (hE.trans h)
      have g3 : ∀ w', Ext wr w' → w'.cell? ⟨w.heap.size, 2, none⟩ = some rv := fun w' h => k2 w' (hE.trans h)
      have hsg := sign_any wr (.agg #[.int .i64 m.ins, .int .i64 m.outs, rv]) _ m (hm0.ext (hE1.trans hE)) hV p cp (hp0.ext (hE1.trans hE)) k hkr (by have := HPL.out; omega)
      have HSG := Lib.hid hsg
      have hrow16 : m.rows[k].length ≤ 16 := by have := hV.len _ (List.getElem_mem hkr); have := hV.ins; omega
      have hbld := fun w => run_build_key w p[k] (sigA p m.rows[k]) (sigA_size p _ hrow16)
      rw [keyA_build] at hbld
      have hks := keyA_size p p[k] m.rows[k] hrow16
      clear c0 hkey hsg
      have hkOK : keyOK (keyL p p[k] m.rows[k]) := keyOK_of hV hwf hkr hlt HPL.out
      have hokey := hkOK
      rw [← HKEY.out] at hokey
      have hnt := names_take (keysL m p) hkk
      have HNT := Lib.hid hnt
      have hnstep : namesOf ((keysL m p).take (k + 1)) = nameStep (namesOf ((keysL m p).take k)) (keysL m p)[k] := by
        unfold namesOf
        rw [List.take_succ_eq_append_getElem hkk, List.foldl_append]; rfl
      have HNS := Lib.hid hnstep
      have hnlen : (namesOf ((keysL m p).take k)).length ≤ 64 := by
        have := namesOf_len ((keysL m p).take k) []
        rw [List.length_take] at this
        simp only [List.length_nil, Nat.zero_add] at this
        exact Nat.le_trans this (by omega)
      have hgetk : (refinedL m p).getD k 0 = (getM (namesOf ((keysL m p).take (k + 1))) (keysL m p)[k]).getD 0 := by
        have h1 : k < (refinedL m p).length := by have := HRL.out; omega
        simp only [List.getD, List.getElem?_eq_getElem h1, Option.getD_some]
        simp only [refinedL, namedL, List.getElem_map]
        rw [hnt]
      have hset := outL_set (r := refinedL m p) (n := p.length) HRL.out hlt
      rw [hgetk, hnstep] at hset
      have HSET := Lib.hid hset
      rw [HKEY.out] at hnstep hset
      clear hnt hnstep hgetk hset hokey
      go_upto_region 7 with (first
        | (go_at_call 48; refine (HSG.out).mono ?_; rintro e w2 ⟨rfl, hE3⟩)
        | (with_reducible refine wpList_build2 rfl 94 0 1 _ _ rfl (.int .i64 p[k]) (.agg (sigA p m.rows[k])) _ rfl rfl (hbld _) ?_)
        | (with_reducible refine wpList_store_blk _ rfl 94 _ _ rfl w2.heap.size 94 (keyA p p[k] m.rows[k]) _ rfl rfl (heap_alloc_new _ _) (by simp [hks]) (by rw [hks]; kernel_rfl) (keyA_one _ _ _) ?_; intro w3 h3 g3x))
      have hE4 : Ext wr w3 := Below.grown (hE3.alloc _) g3x (hE3.alloc _).size (fun k hk => by cases hk; exact hE3.size)
      have hM4 := hM.ext hE4
      have hown4 := ownsRow_ext hown hE4
      have hb9 : W1.heap.size + 1 < w2.heap.size := Nat.lt_of_lt_of_le (hown.lt _ rfl).2 hE3.size
      generalize hb9g : w2.heap.size = b9 at *
      clear g3x hE3 hb9g w2 hM hown
      go_upto_region 8 with (first
        | (with_reducible refine wpList_load_row rfl 94 _ rfl b9 rfl 94 _ (0, 0) _ h3 Try.underlying94 rfl (by rw [hks]; kernel_rfl) ?_)
        | (at_lookup; refine wpList_lookup_is rfl _ _ 89 true rfl 3 key94 Try.underlying89 (Try.zeroValue3 _) rfl hM4 (keyL p p[k] m.rows[k]) rfl hkOK ?_))
      have hcur : ∃ u, w3.cell? ⟨W1.heap.size + 1, k, none⟩ = some u := by
        rw [hown4.cellAt k (by omega)]
        exact ⟨_, List.getElem?_eq_getElem (by rw [hown4.1]; omega)⟩
      obtain ⟨u0, hcur⟩ := hcur
      have hfz := hown4.frozenAt k
      have hres : ∀ w5 : World, w5.ownsRow (W1.heap.size + 1) 3 1 (.slice (some ⟨W1.heap.size + 1, 0, none⟩) p.length p.length) p.length ((((refinedL m p).take k ++ List.replicate (p.length - k) 0).map (Value.int .i64)).set k (.int .i64 ((getM (nameStep (namesOf ((keysL m p).take k)) (keyL p p[k] m.rows[k])) (keyL p p[k] m.rows[k])).getD 0))) →
          w5.ownsRow (W1.heap.size + 1) 3 1 (.slice (some ⟨W1.heap.size + 1, 0, none⟩) p.length p.length) p.length (((refinedL m p).take (k + 1) ++ List.replicate (p.length - (k + 1)) 0).map (.int .i64)) := fun w5 h => by
        rw [← List.map_set] at h
        have := HSET.out
        rw [HKEY.out] at this
        rw [this] at h
        exact h
      have hnms : ∀ w5 : World, MapIs w5 W1.heap.size keyV keyOK (nameStep (namesOf ((keysL m p).take k)) (keyL p p[k] m.rows[k])) → MapIs w5 W1.heap.size keyV keyOK (namesOf ((keysL m p).take (k + 1))) := fun w5 h => by
        have := HNS.out
        rw [HKEY.out] at this
        rw [this]; exact h
      have HRES := Lib.hid hres
      have HNMS := Lib.hid hnms
      have hE5 := hE.trans hE4
      have hkI : (k : Int) < (p.length : Int) := by omega
      clear hres hnms HSET HNS HNT HKEY hbld HSG hE4 g0 g1 g2 g3 hp0 hcp hmm
      cases hg : getM (namesOf ((keysL m p).take k)) (keyL p p[k] m.rows[k]) with
      | some nn =>
        have hns : nameStep (namesOf ((keysL m p).take k)) (keyL p p[k] m.rows[k]) = namesOf ((keysL m p).take k) := by unfold nameStep; rw [hg]; rfl
        rw [hns, hg] at HRES
        rw [hns] at HNMS
        have HG := Lib.hid hg
        clear hns
        go_upto_region 10 with fail
        clear hg
        go_wp2_with (first
          | (with_reducible refine wpList_load_row rfl 94 _ rfl b9 rfl 94 _ (0, 0) _ h3 Try.underlying94 rfl (by rw [hks]; kernel_rfl) ?_)
          | (at_lookup; refine wpList_lookup_is rfl _ _ 89 false rfl 3 key94 Try.underlying89 (Try.zeroValue3 _) rfl hM4 (keyL p p[k] m.rows[k]) rfl hkOK ?_; rw [HG.out]))
        refine ⟨⟨k + 1, by omega, by go_num, hE5.setCell (by simp) _, HNMS.out _ (hM4.setCell _ (by simp) _), HRES.out _ (hown4.stored k _).1⟩, ?_⟩
        simp [intOf]; omega
      | none =>
        have hns : nameStep (namesOf ((keysL m p).take k)) (keyL p p[k] m.rows[k]) = namesOf ((keysL m p).take k) ++ [(keyL p p[k] m.rows[k], ((namesOf ((keysL m p).take k)).length : Int))] := by unfold nameStep; rw [hg]; rfl
        have hg2 : getM (namesOf ((keysL m p).take k) ++ [(keyL p p[k] m.rows[k], ((namesOf ((keysL m p).take k)).length : Int))]) (keyL p p[k] m.rows[k]) = some ((namesOf ((keysL m p).take k)).length : Int) := by
          rw [getM_append, hg]; simp
        rw [hns, hg2] at HRES
        rw [hns] at HNMS
        have HG := Lib.hid hg
        have HG2 := Lib.hid hg2
        clear hns hg2
        go_upto_region 9 with fail
        clear hg
        go_upto_region 10 with (first
          | (with_reducible refine wpList_load_row rfl 94 _ rfl b9 rfl 94 _ (0, 0) _ h3 Try.underlying94 rfl (by rw [hks]; kernel_rfl) ?_)
          | (with_reducible refine wpList_len_is rfl _ 89 rfl Try.underlying89 rfl hM4 ?_)
          | (with_reducible refine wpList_update_new rfl _ _ _ 89 rfl 3 key94 Try.underlying89 rfl hM4 (keyL p p[k] m.rows[k]) rfl hkOK HG.out _ rfl ?_; intro w4 hM5 hg4))
        have h4 : w4.heap[b9]? = some (.cells (keyA p p[k] m.rows[k]) 94) := by
          rw [hg4.block b9 (Array.getElem?_eq_some_iff.1 h3).1 (by simp; omega)]; exact h3
        have hown5 := hown4.kept hg4 (.inr (by simp [Value.ownBlock]))
        have hE6 : Ext W1 w4 := Below.grown hE5 hg4 hE5.size (fun k hk => by cases hk; exact Nat.le_refl _)
        have hcur : ∃ u, w4.cell? ⟨W1.heap.size + 1, k, none⟩ = some u := by
          rw [hown5.cellAt k (by omega)]
          exact ⟨_, List.getElem?_eq_getElem (by rw [hown5.1]; omega)⟩
        obtain ⟨u0, hcur⟩ := hcur
        have hfz := hown5.frozenAt k
        clear h3 hg4 hM4 hown4 hE5
        go_wp2_with (first
          | (with_reducible refine wpList_load_row rfl 94 _ rfl b9 rfl 94 _ (0, 0) _ h4 Try.underlying94 rfl (by rw [hks]; kernel_rfl) ?_)
          | (at_lookup; refine wpList_lookup_is rfl _ _ 89 false rfl 3 key94 Try.underlying89 (Try.zeroValue3 _) rfl hM5 (keyL p p[k] m.rows[k]) rfl hkOK ?_; rw [HG2.out]))
        refine ⟨⟨k + 1, by omega, by go_num, hE6.setCell (by simp) _, HNMS.out _ (hM5.setCell _ (by simp) _), HRES.out _ (hown5.stored k _).1⟩, ?_⟩
        simp [intOf]; omega
    · have hk' : k = p.length := by omega
      subst hk'
      go_wp2
      go_ret
      rw [Nat.sub_self, List.replicate_zero, List.append_nil, List.take_of_length_le (Nat.le_of_eq HRL.out)] at hown
      obtain ⟨A, c', hA, hle, hcs⟩ := cells_of_owns hown
      cases hA
      have hn := HRL.out
      exact ⟨⟨.slice (some ⟨W1.heap.size + 1, 0, none⟩) p.length p.length, rfl, ⟨_, by rw [hn], hcs, Nat.le_refl _, by unfold lenMax; omega⟩, fun b hb => by have hs := hE1.size; cases hb; show w.heap.size ≤ W1.heap.size + 1; omega⟩, hE1.trans hE⟩
end Go.Proofs.Ytkmcplhgakpneaa
