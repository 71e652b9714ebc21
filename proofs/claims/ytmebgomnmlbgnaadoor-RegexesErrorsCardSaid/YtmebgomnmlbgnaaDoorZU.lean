/-    -/
import Derived.Test.YtmebgomnmlbgnaaDoorZB
import Derived.Test.YtmebgomnmlbgnaaDoorZC8
import Derived.Test.YtmebgomnmlbgnaaDoorZS
import Derived.Test.YtmebgomnmlbgnaaDoorZT
import Derived.Test.YtmebgomnmlbgnaaDoorZA
set_option linter.unnecessarySimpa false
set_option linter.unusedSectionVars false
namespace Go.Proofs.YtmebgomnmlbgnaaDoor
open Go.RowKit Go.Maps
set_option linter.unusedVariables false
set_option linter.unusedSimpArgs false
def dfaR (m : Nat) : Rx → Option DN
  | .none => (leafD 0 0 m).bind minD
  | .empty => (leafD 1 0 m).bind minD
  | .sym a => (leafD 2 a m).bind minD
  | .or x y => (dfaR m x).bind fun D => (dfaR m y).bind fun E => (bothD 3 m D E).bind minD
  | .and x y => (dfaR m x).bind fun D => (dfaR m y).bind fun E => (bothD 5 m D E).bind minD
  | .seq x y => (dfaR m x).bind fun D => (dfaR m y).bind fun E => (behindD m D E).bind minD
  | .star x => (dfaR m x).bind fun D => (oftenD m D).bind minD
  | .not x => (dfaR m x).map fun D => ⟨D.rows, D.acc.map (!·)⟩
theorem rawOk_exp {κ : Type} [BEq κ] [LawfulBEq κ] {ok : κ → Prop} {m : Nat} {step : κ → Nat → κ} {s0 : κ} {acc : κ → Bool} {D : DN} (h0 : ok s0) (hst : ∀ s a, ok s → a < m → ok (step s a)) (h : expD acc (expF m step s0) = some D) : RawOk m D := by
  unfold expD at h
  cases hr : expF m step s0 with
  | none => rw [hr] at h; cases h
  | some p =>
    obtain ⟨l, rows⟩ := p
    rw [hr] at h
    cases h
    obtain ⟨a1, a2, a3, a4⟩ := goF_ok h0 hst hr
    have hle := a1.le
    have hrl : rows.length = l.length := by omega
    have hpos := (List.getElem?_eq_some_iff.1 a2).1
    refine ⟨by show 0 < rows.length; omega, by show rows.length ≤ 1024; omega, by simp [hrl], fun r hr' => ?_⟩
    obtain ⟨j, hj, rfl⟩ := List.mem_iff_getElem.1 (show r ∈ rows from hr')
    have hjl : j < l.length := by omega
    obtain ⟨b1, b2⟩ := a4 j l[j] rows[j] (List.getElem?_eq_getElem hjl) (List.getElem?_eq_getElem hj)
    refine ⟨b1, fun x hx => ?_⟩
    obtain ⟨a, ha, hax⟩ := List.mem_iff_getElem.1 hx
    obtain ⟨k, hk, hkl⟩ := b2 a (by omega)
    rw [List.getElem?_eq_getElem ha] at hk
    cases hk
    have := (List.getElem?_eq_some_iff.1 hkl).1
    show x < rows.length
    omega
theorem refG_form {rows : List (List Int)} : ∀ {f : Nat} {cl : List Int} {many : Nat} {r : List Int × Nat}, refG rows f cl many = some r → ∃ cl', r.1 = nextR rows cl' ∧ r.2 = (namesR rows cl').length
  | 0, cl, many, r, h => by cases h
  | f + 1, cl, many, r, h => by
    unfold refG at h
    split at h
    · rename_i h1; cases h; exact ⟨cl, rfl, h1.symm⟩
    · exact refG_form h
theorem minD_ok {m : Nat} {D D' : DN} (hD : RawOk m D) (h : minD D = some D') : D'.ok m := by
  have hlr : (intR D.rows).length = D.rows.length := by simp [intR]
  unfold minD at h
  cases hg : refG (intR D.rows) (D.rows.length + 1) (cls0 D.acc) 0 with
  | none => rw [hg] at h; cases h
  | some p =>
    rw [hg] at h
    simp only [Option.bind_some] at h
    split at h
    rotate_left
    · cases h
    · rename_i hle
      obtain ⟨cl', e1, e2⟩ := refG_form hg
      cases h
      have hpl : (pickF p.1 D.rows.length).length = (namesR (intR D.rows) cl').length := by
        rw [e1]
        have h1 := pick_len (rows := intR D.rows) (cl := cl') (i := D.rows.length) (by omega)
        rw [h1, List.take_of_length_le (by rw [keysR_len]; omega)]; rfl
      have hpp : ∀ s ∈ pickF p.1 D.rows.length, s < D.rows.length := pickF_at _ _
      have hnp : 0 < (namesR (intR D.rows) cl').length := names_pos (by have := hD.pos; omega)
      have hnx := nextR_ok (rows := intR D.rows) (cl := cl') (by have := hD.le; omega)
      refine ⟨by simp [quoN]; omega, by simp [quoN]; omega, by simp [quoN], fun r hr => ?_⟩
      obtain ⟨s, hs, rfl⟩ := List.mem_map.1 (show r ∈ (pickF p.1 D.rows.length).map _ from hr)
      have hsl := hpp s hs
      have e : D.rows.getD s [] = D.rows[s] := by simp [List.getD, List.getElem?_eq_getElem hsl]
      rw [e]
      have hrow := hD.row _ (List.getElem_mem hsl)
      refine ⟨by rw [List.length_map]; exact hrow.1, fun x hx => ?_⟩
      obtain ⟨t, ht, rfl⟩ := List.mem_map.1 hx
      have htl : t < p.1.length := by rw [e1, nextR_len, hlr]; exact hrow.2 t ht
      have hv : p.1.getD t 0 ∈ p.1 := by simp [List.getD, List.getElem?_eq_getElem htl]
      have hlt : 0 ≤ p.1.getD t 0 ∧ p.1.getD t 0 < ((namesR (intR D.rows) cl').length : Int) := by
        rw [e1] at hv ⊢
        unfold nextR at hv ⊢
        obtain ⟨k, hk, hke⟩ := List.mem_map.1 hv
        have := idxN_lt (mem_namesOf.2 hk)
        unfold namesR at hke ⊢
        omega
      show _ < ((pickF p.1 D.rows.length).map _).length
      rw [List.length_map, hpl]
      omega
theorem raw_both {o m : Nat} {D E R : DN} (hD : D.ok m) (hE : E.ok m) (h : bothD o m D E = some R) : RawOk m R :=
  rawOk_exp (ok := fun s => s.1 < D.rows.length ∧ s.2 < E.rows.length) ⟨hD.pos, hE.pos⟩ (fun s a hs ha => ⟨hD.nx hs.1 ha, hE.nx hs.2 ha⟩) h
theorem raw_behind {m : Nat} {D E R : DN} (hD : D.ok m) (h : behindD m D E = some R) : RawOk m R :=
  rawOk_exp (ok := fun _ => True) trivial (fun _ _ _ _ => trivial) h
theorem raw_often {m : Nat} {D R : DN} (h : oftenD m D = some R) : RawOk m R :=
  rawOk_exp (ok := fun _ => True) trivial (fun _ _ _ _ => trivial) h
theorem raw_leaf {o sy m : Nat} {R : DN} (h : leafD o sy m = some R) : RawOk m R :=
  rawOk_exp (ok := fun _ => True) trivial (fun _ _ _ _ => trivial) h
theorem dfaR_ok {m : Nat} : ∀ {x : Rx} {D : DN}, dfaR m x = some D → D.ok m := by
  have two : ∀ {x y : Rx} {f : DN → DN → Option DN} {D : DN}, (∀ {D}, dfaR m x = some D → D.ok m) → (∀ {D}, dfaR m y = some D → D.ok m) → (∀ {A B R : DN}, A.ok m → B.ok m → f A B = some R → RawOk m R) → ((dfaR m x).bind fun A => (dfaR m y).bind fun B => (f A B).bind minD) = some D → D.ok m := by
    intro x y f D hx hy hf h
    cases h1 : dfaR m x with
    | none => rw [h1] at h; cases h
    | some A =>
      rw [h1] at h
      simp only [Option.bind_some] at h
      cases h2 : dfaR m y with
      | none => rw [h2] at h; cases h
      | some B =>
        rw [h2] at h
        simp only [Option.bind_some] at h
        cases h3 : f A B with
        | none => rw [h3] at h; cases h
        | some R =>
          rw [h3] at h
          simp only [Option.bind_some] at h
          exact minD_ok (hf (hx h1) (hy h2) h3) h
  have leaf : ∀ {o sy : Nat} {D : DN}, (leafD o sy m).bind minD = some D → D.ok m := by
    intro o sy D h
    cases h3 : leafD o sy m with
    | none => rw [h3] at h; cases h
    | some R => rw [h3] at h; exact minD_ok (raw_leaf h3) h
  intro x
  induction x with
  | none => intro D h; exact leaf h
  | empty => intro D h; exact leaf h
  | sym a => intro D h; exact leaf h
  | or x y ihx ihy => intro D h; exact two (f := bothD 3 m) ihx ihy (fun a b c => raw_both a b c) h
  | and x y ihx ihy => intro D h; exact two (f := bothD 5 m) ihx ihy (fun a b c => raw_both a b c) h
  | seq x y ihx ihy => intro D h; exact two (f := behindD m) ihx ihy (fun a b c => raw_behind a c) h
  | star x ihx =>
    intro D h
    unfold dfaR at h
    cases h1 : dfaR m x with
    | none => rw [h1] at h; cases h
    | some A =>
      rw [h1] at h
      simp only [Option.bind_some] at h
      cases h3 : oftenD m A with
      | none => rw [h3] at h; cases h
      | some R => rw [h3] at h; exact minD_ok (raw_often h3) h
  | not x ihx =>
    intro D h
    unfold dfaR at h
    cases h1 : dfaR m x with
    | none => rw [h1] at h; cases h
    | some A =>
      rw [h1] at h
      cases h
      have := ihx h1
      exact ⟨this.pos, this.big, by simp [this.acc], this.row⟩
end Go.Proofs.YtmebgomnmlbgnaaDoor

namespace Go.Proofs.YtmebgomnmlbgnaaDoor
open Go.RowKit Go.Maps
set_option linter.unusedVariables false
set_option linter.unusedSimpArgs false
attribute [local go_sem] Oper.quietV quietV Oper.gives givesV ext_refl_iff ext_alloc_iff ext_drew_iff ext_drewN_iff
noncomputable def T41 (n : Nat) : Code := textR n Tryd.f41.body
theorem OwnL.join {w W W' : World} {L L' : List Asn} (h : OwnL w W L) (h' : OwnL W W' L') : OwnL w W' (L' ++ L) := by
  refine ⟨h.ext.trans h'.ext, fun A hA => ?_, List.pairwise_append.2 ⟨h'.apart, h.apart, fun A hA B hB b hb hb' => ?_⟩⟩
  · rcases List.mem_append.1 hA with hA | hA
    · exact Asn.mono (h'.ok A hA) h.ext.size
    · exact Asn.of (h.ok A hA) (fun b hb => h'.ext.block b (Asn.lt (h.ok A hA) hb).2)
  · have h1 := (Asn.lt (h'.ok A hA) hb).1
    have h2 := (Asn.lt (h.ok B hB) hb').2
    omega
set_option maxRecDepth 100000 in
set_option maxHeartbeats 16000000 in
theorem dfa_t27 (w W : World) (m b4 b11 cr ca : Nat) (rv av : Value) (R : Option DN) (c0 c2 c3 c5 c6 c7 c8 c9 c10 c13 c14 c15 c16 c17 c18 c19 c20 c21 c22 c23 c24 c25 c26 c27 c28 c29 c30 c31 c32 c33 c34 c35 c36 c37 c38 c39 c40 c41 c42 c43 c44 c45 c46 c47 c48 c49 c50 c51 c52 c53 c54 c55 c56 c57 c58 c59 c60 c61 c62 c63 c64 c65 c66 c67 c68 c69 c70 c71 c72 c73 c74 c75 c76 c77 c78 c79 c80 c81 c82 c83 c84 c85 c86 c87 c88 c89 c90 c91 c92 c93 c94 c95 c96 c97 c98 c99 c100 c101 c102 c103 c104 c105 c106 c107 c108 c109 c110 c111 c112 c113 c114 c115 c116 : Value) (hm : m ≤ 16) (hE : Ext w W) (h4 : w.heap.size ≤ b4 ∧ W.heap[b4]? = some zDfa) (h11 : W.heap[b11]? = some (.cells #[rv, av] 109 (0, 0)))
    (hR : ∀ D, R = some D → RawOk m D ∧ ListsC W rv (intR D.rows) cr ∧ BoolsC W av D.acc ca) :
    Code.wp Tryd.prog (T41 27) (bodyPost Tryd.prog Tryd.f41 (MinP m (R.bind minD) w)) ⟨(c0 :: .int .i64 (m : Int) :: c2 :: c3 :: .pointer (some ⟨b4, 0, none⟩) :: c5 :: c6 :: c7 :: c8 :: c9 :: c10 :: .pointer (some ⟨b11, 0, none⟩) :: .bool R.isSome :: c13 :: c14 :: c15 :: c16 :: c17 :: c18 :: c19 :: c20 :: c21 :: c22 :: c23 :: c24 :: c25 :: c26 :: c27 :: c28 :: c29 :: c30 :: c31 :: c32 :: c33 :: c34 :: c35 :: c36 :: c37 :: c38 :: c39 :: c40 :: c41 :: c42 :: c43 :: c44 :: c45 :: c46 :: c47 :: c48 :: c49 :: c50 :: c51 :: c52 :: c53 :: c54 :: c55 :: c56 :: c57 :: c58 :: c59 :: c60 :: c61 :: c62 :: c63 :: c64 :: c65 :: c66 :: c67 :: c68 :: c69 :: c70 :: c71 :: c72 :: c73 :: c74 :: c75 :: c76 :: c77 :: c78 :: c79 :: c80 :: c81 :: c82 :: c83 :: c84 :: c85 :: c86 :: c87 :: c88 :: c89 :: c90 :: c91 :: c92 :: c93 :: c94 :: c95 :: c96 :: c97 :: c98 :: c99 :: c100 :: c101 :: c102 :: c103 :: c104 :: c105 :: c106 :: c107 :: c108 :: c109 :: c110 :: c111 :: c112 :: c113 :: c114 :: c115 :: c116 :: []).toArray, []⟩ W := by
  conv => arg 2; whnf
  have hb4 := h4.2
  have HH := Lib.hid (And.intro hE h4)
  clear h4 hE
  cases R with
  | none =>
    clear hR
    simp only [Option.isSome_none, Option.bind_none]
    go_wp2_with (with_reducible refine wpList_store_blk _ rfl 28 _ _ rfl b4 28 #[.int .i64 0, .slice none 0 0, .slice none 0 0] _ rfl rfl hb4 (by kernel_rfl) (by kernel_rfl) (by kernel_rfl) ?_; intro w8 h8 g8)
    refine bodyPost_ret (results_ct2 rfl _ _ b4 28 _ (0, 0) _ (by simp [Act.put]) h8 Tryd.underlying28 rfl (by kernel_rfl)) rfl ?_
    exact ⟨by simp [Act.put], Below.grown HH.out.1 g8 HH.out.1.size (fun k hk => by cases hk; exact HH.out.2.1)⟩
  | some D =>
    obtain ⟨hD, hL, hB⟩ := hR D rfl
    have hst := minimal_any hm hD hL hB
    clear hR hD hL hB
    simp only [Option.isSome_some, Option.bind_some]
    cases hr : minD D with
    | none =>
      rw [hr] at hst
      have hst : Calls Tryd.prog 78 #[.agg #[rv, av], .int .i64 (m : Int)] W (fun e w' => e = .returned (.tuple #[.agg #[.int .i64 0, .slice none 0 0, .slice none 0 0], .int .i64 3]) ∧ Ext W w') := hst
      clear hr
      go_wp2_with (first
        | (with_reducible refine wpList_load_row rfl 109 _ rfl b11 rfl 109 _ (0, 0) _ h11 Tryd.underlying109 rfl (by kernel_rfl) ?_)
        | ((with_reducible refine hst.mono ?_); rintro e W8 ⟨rfl, e8⟩)
        | (with_reducible refine wpList_store_blk _ rfl 28 _ _ rfl b4 28 #[.int .i64 0, .slice none 0 0, .slice none 0 0] _ rfl rfl (heap_ext e8 hb4) (by kernel_rfl) (by kernel_rfl) (by kernel_rfl) ?_; intro w8 h8 g8))
      refine bodyPost_ret (results_ct2 rfl _ _ b4 28 _ (0, 0) _ (by simp [Act.put]) h8 Tryd.underlying28 rfl (by kernel_rfl)) rfl ?_
      have hE8 := HH.out.1.trans e8
      exact ⟨by simp [Act.put], Below.grown hE8 g8 hE8.size (fun k hk => by cases hk; exact HH.out.2.1)⟩
    | some D' =>
      rw [hr] at hst
      have hst : Calls Tryd.prog 78 #[.agg #[rv, av], .int .i64 (m : Int)] W (fun e w' => ∃ rv g cs S, e = .returned (.tuple #[.agg #[.int .i64 (m : Int), rv, .slice (some ⟨g, 0, none⟩) D'.acc.length D'.acc.length], .int .i64 0]) ∧ cs.toList.take D'.acc.length = D'.acc.map .bool ∧ OwnL W w' [.any S (fun W => ListsC W rv (intR D'.rows) D'.rows.length), .blk g (.cells cs 4)]) := hst
      clear hr
      go_wp2_with (first
        | (with_reducible refine wpList_load_row rfl 109 _ rfl b11 rfl 109 _ (0, 0) _ h11 Tryd.underlying109 rfl (by kernel_rfl) ?_)
        | ((with_reducible refine hst.mono ?_); rintro e W8 ⟨rv', g, cs, S, rfl, hcs, hO8⟩; obtain ⟨A8, vs8, hv8, -⟩ := hO8.know 0 rfl; subst hv8)
        | (with_reducible refine wpList_store_blk _ rfl 28 _ _ rfl b4 28 #[.int .i64 (m : Int), .slice A8 (intR D'.rows).length D'.rows.length, .slice (some ⟨g, 0, none⟩) D'.acc.length D'.acc.length] _ rfl rfl (heap_ext hO8.ext hb4) (by kernel_rfl) (by kernel_rfl) (by kernel_rfl) ?_; intro w8 h8 g8))
      refine bodyPost_ret (results_ct2 rfl _ _ b4 28 _ (0, 0) _ (by simp [Act.put]) h8 Tryd.underlying28 rfl (by kernel_rfl)) rfl ?_
      have hOB := hO8.base HH.out.1 HH.out.2.1 HH.out.2.2
      have hO9 := (hOB.step (A' := .blk b4 (.cells #[.int .i64 (m : Int), .slice A8 (intR D'.rows).length D'.rows.length, .slice (some ⟨g, 0, none⟩) D'.acc.length D'.acc.length] 28)) 0 rfl g8 (fun c hc => by cases hc; rfl) ⟨HH.out.2.1, h8⟩ (fun c hc => .inl hc)).drop
      exact min_fin hO9 hcs (by simp [Act.put])
end Go.Proofs.YtmebgomnmlbgnaaDoor

namespace Go.Proofs.YtmebgomnmlbgnaaDoor
open Go.RowKit Go.Maps
set_option linter.unusedVariables false
set_option linter.unusedSimpArgs false
attribute [local go_sem] Oper.quietV quietV Oper.gives givesV ext_refl_iff ext_alloc_iff ext_drew_iff ext_drewN_iff
attribute [local go_sem] RI.Oper.gives RI.givesV
structure DR where
  A : Option Addr
  g : Nat
  cs : Array Value
  S : Nat → Prop
  D : DN
def DR.rv (r : DR) : Value := .slice r.A r.D.rows.length r.D.rows.length
def DR.av (r : DR) : Value := .slice (some ⟨r.g, 0, none⟩) r.D.acc.length r.D.acc.length
def dCells (m : Nat) (r : DR) : List Value := [.int .i64 (m : Int), r.rv, r.av]
def dAny (r : DR) : Asn := .any r.S (fun W => ListsC W r.rv (intR r.D.rows) r.D.rows.length)
def dBlk (r : DR) : Asn := .blk r.g (.cells r.cs 4)
def DR.fine (r : DR) : Prop := r.cs.toList.take r.D.acc.length = r.D.acc.map .bool ∧ r.D.acc.length ≤ 256
theorem DR.dfaV {w W : World} {L : List Asn} (h : OwnL w W L) {r : DR} {m i j : Nat} (hi : L[i]? = some (dAny r)) (hj : L[j]? = some (dBlk r)) (hf : r.fine) : DfaV W (.agg #[.int .i64 (m : Int), r.rv, r.av]) (r.D.dfa m) := by
  have h1 := h.know i hi
  have h2 := h.blkAt j hj
  refine ⟨_, _, _, r.D.acc.length, rfl, h1, _, rfl, cells_take h2 hf.1, Nat.le_refl _, ?_⟩
  have h3 := hf.2
  show r.D.acc.length ≤ lenMax
  unfold lenMax; omega
theorem min_dr {m : Nat} {D : DN} {w w' : World} {e : Ending} (hD : D.ok m) (h : MinP m (some D) w e w') : ∃ r : DR, r.D = D ∧ r.fine ∧ e = .returned (.tuple #[.agg #[.int .i64 (m : Int), r.rv, r.av], .int .i64 0]) ∧ OwnL w w' [dAny r, dBlk r] := by
  obtain ⟨rv, g, cs, S, h1, h2, h3⟩ := h
  obtain ⟨A, vs, hv, -⟩ := h3.know 0 rfl
  have hl : (intR D.rows).length = D.rows.length := by simp [intR]
  rw [hl] at hv
  subst hv
  exact ⟨⟨A, g, cs, S, D⟩, rfl, ⟨h2, by show D.acc.length ≤ 256; rw [hD.acc]; exact hD.big⟩, h1, h3⟩
theorem min_of_dr {m : Nat} {w w' : World} {e : Ending} {r : DR} (hf : r.fine) (he : e = .returned (.tuple #[.agg #[.int .i64 (m : Int), r.rv, r.av], .int .i64 0])) (h : OwnL w w' [dAny r, dBlk r]) : MinP m (some r.D) w e w' := min_fin h hf.1 he
def RawQ (R : Option DN) (N : Nat) (v : Value) (w : World) : Prop := match R with
  | none => ∃ A n c A' n' c', v = .tuple #[.agg #[.slice A n c, .slice A' n' c'], .bool false]
  | some D => ∃ A c A' c', v = .tuple #[.agg #[.slice A D.rows.length c, .slice A' D.acc.length c'], .bool true] ∧ ∀ w'' : World, (∀ b, N ≤ b → b < w.heap.size → w''.heap[b]? = w.heap[b]?) → ListsC w'' (.slice A D.rows.length c) (intR D.rows) c ∧ BoolsC w'' (.slice A' D.acc.length c') D.acc c'
theorem rawQ_of {R : Option DN} {w w' : World} {e : Ending} {N : Nat} (hN : N ≤ w.heap.size) (h : RawP R w e w') : ∃ v, e = .returned v ∧ RawQ R N v w' ∧ Ext w w' := by
  cases R with
  | none => obtain ⟨A, n, c, A', n', c', h1, h2⟩ := h; exact ⟨_, h1, ⟨A, n, c, A', n', c', rfl⟩, h2⟩
  | some D => obtain ⟨A, c, A', c', h1, h2, h3⟩ := h; exact ⟨_, h1, ⟨A, c, A', c', rfl, fun w'' hw => h3 w'' (fun b hb hl => hw b (by omega) hl)⟩, h2⟩
theorem RawQ.of {R : Option DN} {N : Nat} {v : Value} {w w' : World} (h : RawQ R N v w) (hs : w.heap.size ≤ w'.heap.size) (hw : ∀ b, N ≤ b → b < w.heap.size → w'.heap[b]? = w.heap[b]?) : RawQ R N v w' := by
  cases R with
  | none => exact h
  | some D =>
    obtain ⟨A, c, A', c', h1, h3⟩ := h
    exact ⟨A, c, A', c', h1, fun w'' hw'' => h3 w'' (fun b hb hl => (hw'' b hb (by omega)).trans (hw b hb hl))⟩
def RawQ.val (R : Option DN) (v x y : Value) : Prop := v = .tuple #[.agg #[x, y], .bool R.isSome] ∧ (∃ A n c, x = .slice A n c) ∧ (∃ A n c, y = .slice A n c)
theorem RawQ.form {R : Option DN} {N : Nat} {v : Value} {w : World} (h : RawQ R N v w) : ∃ x y, RawQ.val R v x y := by
  cases R with
  | none => obtain ⟨A, n, c, A', n', c', h1⟩ := h; exact ⟨_, _, h1, ⟨_, _, _, rfl⟩, ⟨_, _, _, rfl⟩⟩
  | some D => obtain ⟨A, c, A', c', h1, _⟩ := h; exact ⟨_, _, h1, ⟨_, _, _, rfl⟩, ⟨_, _, _, rfl⟩⟩
theorem RawQ.lists {R : Option DN} {N : Nat} {x y : Value} {b : Bool} {w : World} (h : RawQ R N (.tuple #[.agg #[x, y], .bool b]) w) : ∃ cr ca, ∀ D, R = some D → ListsC w x (intR D.rows) cr ∧ BoolsC w y D.acc ca := by
  cases R with
  | none => exact ⟨0, 0, fun D hD => by cases hD⟩
  | some D =>
    obtain ⟨A, c, A', c', h1, h2⟩ := h
    simp only [Value.tuple.injEq, Array.mk.injEq, List.cons.injEq, Value.agg.injEq, and_true] at h1
    obtain ⟨⟨rfl, rfl⟩, _⟩ := h1
    exact ⟨c, c', fun D' hD' => by cases hD'; exact h2 w (fun _ _ _ => rfl)⟩
theorem gives_store_blk {o : Oper} {a : Act} {w : World} {K : Value → World → Prop} (ty : TypeId) (x y : Operand) (ho : o.op = .store ty x y) (b : Nat) (hx : a.eval x = .pointer (some ⟨b, 0, none⟩)) {t : TypeId} {cells cs : Array Value} (hy : a.eval y = .agg cells) (hB : w.heap[b]? = some (.cells cs t (0, 0))) (hs : cells.size = cs.size) (hi : (Tryd.prog.info? ty).map (·.size) = some cells.size) (h1 : cells.all (·.oneCell') = true)
    (h : ∀ w', w'.heap[b]? = some (.cells cells t (0, 0)) → w.grownBy w' (some b) → K undef w') : RI.Oper.gives Tryd.prog o a w K := by
  have hw : w.there b 0 cells.size := fun j hj => by
    rw [Nat.zero_add]
    refine ⟨?_, free_of_blk hB j⟩
    rw [cell_of_row w b j cs t (0, 0) hB]
    simp [show j < cs.size by omega]
  unfold RI.Oper.gives execOp
  simp only [ho, hx, hy, Instr.storeAt, Instr.sureAddr, Sem.run_bind, Sem.run_pure, Result.andThen_ok, run_storeVar_mid w b 0 ty _ hw hi h1]
  obtain ⟨h2, h3⟩ := setCells_blk b t cells.toList 0 w _ hB
  rw [setsAt_all _ _ (by simpa using hs)] at h2
  exact h _ (by simpa using h2) h3
theorem range_ext {W w : World} {g i : Nat} {ys : List Value} (h : W.rangeAt g i ys) (e : Ext W w) : w.rangeAt g i ys := fun j v hj => e.cell (h j v hj)
structure JB (kc ks : Nat) (W : World) (b : Nat) (R : Option DN) (G : Vals) (w : World) : Prop where
  ext : Ext W w
  raw : G ks = none → w.heap[b]? = some zRaw
  ans : ∀ v, G kc = some v → RawQ R (b + 1) v w
  n : G kc = none → G ks = none
  st : ∀ u v x y, G ks = some u → G kc = some v → RawQ.val R v x y → w.heap[b]? = some (.cells #[x, y] 109 (0, 0))
section
variable {kc ks : Nat} {W w w' : World} {b : Nat} {R : Option DN} {G : Vals}
theorem JB.start (e : Ext W w) (hz : w.heap[b]? = some zRaw) : JB kc ks W b R (fun _ => none) w := ⟨e, fun _ => hz, fun v h => (by cases h), fun _ => rfl, fun u v x y h => (by cases h)⟩
theorem JB.call {v : Value} (h : JB kc ks W b R G w) (hne : ks ≠ kc) (hg : G kc = none) (e : Ext w w') (hq : RawQ R (b + 1) v w') : JB kc ks W b R (G.put kc v) w' := by
  have hs := h.n hg
  have hn : (G.put kc v) ks = G ks := by simp [Vals.put, hne]
  refine ⟨h.ext.trans e, fun hg => heap_ext e (h.raw hs), fun v' hv' => ?_, fun hh => by simp [Vals.put] at hh, fun u v' x y hu => ?_⟩
  · have : some v = some v' := by simpa [Vals.put] using hv'
    cases this; exact hq
  · rw [hn, hs] at hu; cases hu
theorem JB.store {v x y : Value} (h : JB kc ks W b R G w) (hne : ks ≠ kc) (hb : W.heap.size ≤ b) (hc : G kc = some v) (hv : RawQ.val R v x y) (hw : w'.heap[b]? = some (.cells #[x, y] 109 (0, 0))) (hg : w.grownBy w' (some b)) : JB kc ks W b R (G.put ks undef) w' := by
  have hn : (G.put ks undef) kc = G kc := by simp [Vals.put, Ne.symm hne]
  refine ⟨Below.grown h.ext hg h.ext.size (fun k hk => by cases hk; exact hb), fun hg' => by simp [Vals.put] at hg', fun v' hv' => ?_, fun hh => (by rw [hn, hc] at hh; cases hh), fun u v' x' y' _ hv' hval => ?_⟩
  · rw [hn] at hv'
    exact (h.ans v' hv').of hg.size (fun c hc' hl => hg.block c hl (fun e => by cases e; omega))
  · rw [hn, hc] at hv'
    cases hv'
    have h1 := hv.1.symm.trans hval.1
    simp only [Value.tuple.injEq, Array.mk.injEq, List.cons.injEq, Value.agg.injEq, and_true] at h1
    obtain ⟨rfl, rfl⟩ := h1
    exact hw
end
end Go.Proofs.YtmebgomnmlbgnaaDoor
