/- games.follow. -/
import Derived.Test.YteadkafeabhhhaaG5
import Derived.Deep.CutBlock
namespace Go.Proofs.Yteadkafeabhhhaa
open Go.RowKit
set_option linter.unusedVariables false
set_option linter.unusedSimpArgs false
attribute [local go_sem] Oper.quietV quietV Oper.gives givesV ext_refl_iff ext_alloc_iff ext_drew_iff ext_drewN_iff

def intRow (xs : List Int) : Nat × List Value := (xs.length, xs.map (.int .i64))
def folE (g : Game) (l : List Int) (s i : Nat) : Int := if g.ours.getD s false && (i : Int) != l.getD s 0 then -1 else ((g.m.row s).getD i (0, 0)).1
def folR (g : Game) (l : List Int) (s : Nat) : List Int := (List.range (g.m.row s).length).map (folE g l s)
def folL (g : Game) (l : List Int) : List (List Int) := (List.range g.m.rows.length).map (folR g l)
def folAt (g : Game) (l : List Int) (n s i : Nat) : List (Nat × List Value) := (List.range n).map (fun t => intRow (if t < s then folR g l t else if t = s then (folR g l s).take i else []))
theorem folR_len (g : Game) (l : List Int) (s : Nat) : (folR g l s).length = (g.m.row s).length := by unfold folR; simp
theorem folR_get (g : Game) (l : List Int) {s i : Nat} (hi : i < (g.m.row s).length) : (folR g l s)[i]'(by rw [folR_len]; exact hi) = folE g l s i := by unfold folR; simp
theorem folAt_zero (g : Game) (l : List Int) (n : Nat) : List.replicate n (0, ([] : List Value)) = folAt g l n 0 0 := by
  unfold folAt intRow; apply List.ext_getElem
  · simp
  · intro i h1 h2; simp
theorem folAt_get (g : Game) (l : List Int) {n s i : Nat} (h : s < n) (hi : i ≤ (g.m.row s).length) : (folAt g l n s i)[s]? = some (intRow ((folR g l s).take i)) := by unfold folAt; simp [h]
theorem folAt_set (g : Game) (l : List Int) {n s i : Nat} (hi : i < (g.m.row s).length) (x : Int) (hx : folE g l s i = x) :
    (folAt g l n s i).set s (i + 1, (intRow ((folR g l s).take i)).2 ++ [.int .i64 x]) = folAt g l n s (i + 1) := by
  have hir : i < (folR g l s).length := by rw [folR_len]; exact hi
  have e : (i + 1, (intRow ((folR g l s).take i)).2 ++ [Value.int .i64 x]) = intRow ((folR g l s).take (i + 1)) := by
    unfold intRow
    rw [List.take_succ_eq_append_getElem hir, folR_get g l hi, hx]
    simp; omega
  rw [e]
  have := map_set_range (fun t => intRow (if t < s then folR g l t else if t = s then (folR g l s).take (i + 1) else [])) (fun t => intRow (if t < s then folR g l t else if t = s then (folR g l s).take i else [])) n s (fun t ht => by simp [ht])
  simpa [folAt] using this
theorem folAt_next (g : Game) (l : List Int) (n s : Nat) : folAt g l n s (g.m.row s).length = folAt g l n (s + 1) 0 := by
  unfold folAt
  apply List.map_congr_left
  intro t _
  by_cases h1 : t < s
  · rw [if_pos h1, if_pos (by omega)]
  · by_cases h2 : t = s
    · subst h2; rw [if_neg h1, if_pos rfl, if_pos (by omega), List.take_of_length_le (by rw [folR_len]; exact Nat.le_refl _)]
    · rw [if_neg h1, if_neg h2, if_neg (by omega)]; split <;> simp
theorem folAt_end (g : Game) (l : List Int) : folAt g l g.m.rows.length g.m.rows.length 0 = (folL g l).map intRow := by
  unfold folAt folL
  rw [List.map_map]
  apply List.map_congr_left
  intro t ht
  rw [if_pos (List.mem_range.1 ht)]; rfl
def OwnRw (w w' : World) (v : Value) (M : List (List Int)) : Prop := ∃ g vs, v = .slice (some ⟨g, 0, none⟩) M.length M.length ∧ vs.length = M.length ∧ OwnRows w' w.heap.size 37 3 1 v vs (M.map intRow)

set_option maxRecDepth 100000 in
set_option maxHeartbeats 4000000 in
theorem follow_any (w : World) (gv lv : Value) (g : Game) (hg : GameV w gv g) (hF : Fine g) (l : List Int) (cl : Nat) (hl : IntsC w lv l cl) (hll : l.length = g.m.rows.length) :
    Calls Try.prog 43 #[gv, lv] w fun e w' => (∃ v, e = .returned v ∧ OwnRw w w' v (folL g l)) ∧ Ext w w' := by
  obtain ⟨rv, cr, ov, co, sv, cs, rfl, hr, ho, hs⟩ := hg
  obtain ⟨Ar, vr, rfl, _, _, _, _, hrm⟩ := id hr
  obtain ⟨Ao, rfl, hoc, _, hom⟩ := id ho
  obtain ⟨As, rfl, hsc, _, hsm⟩ := id hs
  unfold lenMax at hrm hom hsm
  obtain ⟨hV, hol, hsl⟩ := hF
  have hsz := hV.size
  obtain ⟨n, hn⟩ : ∃ n, n = g.m.rows.length := ⟨_, rfl⟩
  rw [← hn] at hol hsl hsz hrm hr ⊢
  rw [hol] at hom ho ⊢
  rw [hsl] at hsm hs ⊢
  have HN := Lib.hid hn
  have HOL := Lib.hid hol
  have HSL := Lib.hid hsl
  have HV := Lib.hid hV
  clear hV hol hsl hn
  have hn64 : n ≤ 64 := hsz.2
  have hn1 : 1 ≤ n := hsz.1
  obtain ⟨i3, hi3, hz3, hs3, hb3⟩ := info_parts int_info
  obtain ⟨Al, rfl, hlc, _, hlm⟩ := id hl
  unfold lenMax at hlm
  have hbo : ∀ j, (hj : j < n) → ∃ b o, Ao = some ⟨b, o, none⟩ ∧ ∀ w', Ext w w' → w'.cell? ⟨b, o + j, none⟩ = some (.bool (g.ours.getD j false)) := fun j hj => by
    have hjo : j < g.ours.length := by rw [HOL.out]; exact hj
    obtain ⟨b, o, rfl, _, h⟩ := hoc.at_bool hjo
    exact ⟨b, o, rfl, fun w' hw => by rw [hw.cell h]; simp [List.getD, hjo]⟩
  have HBO := Lib.hid hbo
  clear hbo
  rw [← HN.out] at hll
  have HLL := Lib.hid hll
  rw [hll]
  clear hll
  have hms := mk_slices n (by omega)
  go_enter Try.func43, Try.ntmps43
  go_upto_region 1 with fail
  refine wp_named ?_
  intro W1 hW1
  have hE1 : Ext w W1 := by rw [hW1]; exact (Ext.refl _).alloc _
  have k0 : ∀ w', Ext W1 w' → w'.cell? ⟨w.heap.size, 0, none⟩ = some (.int .i64 g.m.ins) := fun w' h => h.cell (by rw [hW1]; simp [go_sem])
  have k1 : ∀ w', Ext W1 w' → w'.cell? ⟨w.heap.size, 1, none⟩ = some (.int .i64 g.m.outs) := fun w' h => h.cell (by rw [hW1]; simp [go_sem])
  have k2 : ∀ w', Ext W1 w' → w'.cell? ⟨w.heap.size, 2, none⟩ = some (.slice Ar n cr) := fun w' h => h.cell (by rw [hW1]; simp [go_sem])
  have k3 : ∀ w', Ext W1 w' → w'.cell? ⟨w.heap.size, 3, none⟩ = some (.slice Ao n co) := fun w' h => h.cell (by rw [hW1]; simp [go_sem])
  have k4 : ∀ w', Ext W1 w' → w'.cell? ⟨w.heap.size, 4, none⟩ = some (.slice As n cs) := fun w' h => h.cell (by rw [hW1]; simp [go_sem])
  clear hW1
  have hE0 := Ext.refl W1
  go_upto_region 2 with fail
  refine wp_named ?_
  intro W2 hW2
  have hO2 : OwnL W1 W2 [.rows 37 3 1 (.slice (some ⟨W1.heap.size, 0, none⟩) (List.replicate n (Value.slice none 0 0)).length n) (List.replicate n (.slice none 0 0)) (folAt g l n 0 0)] := by
    rw [hW2, ← folAt_zero]
    exact (OwnL.nil (Ext.refl W1)).add (alloc_ext _ _) (nils_own (own_new W1 (.slice none 0 0) 37 n (by omega)))
  clear hW2
  generalize W1.heap.size = gx at *
  have hE2 := hO2.ext
  go_wp2
  go_loopw [20] (fun i wr => ∃ (s : Nat) (vs : List Value), s ≤ n ∧ i = .int .i64 s ∧ Ext W1 wr ∧ vs.length = n ∧ OwnL W1 wr [.rows 37 3 1 (.slice (some ⟨gx, 0, none⟩) vs.length n) vs (folAt g l n s 0)]) (fun i _ => n - (intOf i).toNat)
  case atStart => exact ⟨0, _, by omega, rfl, hE2, by simp, hO2⟩
  case round =>
    clear hO2 hE2
    obtain ⟨s, vs, hs', rfl, hE, hvl, hO⟩ := hrel
    obtain ⟨W3, hW3⟩ : ∃ W, W = wr := ⟨_, rfl⟩; subst hW3
    by_cases hsn : s < n
    · have hsm : s < g.m.rows.length := by rw [← HN.out]; exact hsn
      have hsl' : s < l.length := by rw [HLL.out]; exact hsn
      obtain ⟨b, o, us, cu, hv, hb, c0, hes⟩ := (hr.ext hE1).at_ hsm
      obtain rfl : Ar = some ⟨b, o, none⟩ := by injection hv
      clear hv
      have hre := row_eq hsm
      obtain ⟨Ae, rfl, hce, _, hme⟩ := hes
      unfold lenMax at hme
      rw [← hre] at hce hme c0
      have hl16 := row_le HV.out s
      have g0 : ∀ w', Ext W1 w' → w'.cell? ⟨b, o + s, none⟩ = some (.slice Ae (g.m.row s).length cu) := fun w' h => h.cell c0
      obtain ⟨el, hel⟩ : ∃ el, el = (g.m.row s).length := ⟨_, rfl⟩
      rw [← hel] at g0 hme hl16
      have HEL := Lib.hid hel
      clear c0 hre hel
      obtain ⟨bo, oo, rfl, cbo⟩ := HBO.out s hsn
      obtain ⟨bl, ol, rfl, _, cl⟩ := hlc.at_int hsl'
      have cl : ∀ w', Ext W1 w' → w'.cell? ⟨bl, ol + s, none⟩ = some (.int .i64 l[s]) := fun w' h => (hE1.trans h).cell cl
      have cbo : ∀ w', Ext W1 w' → w'.cell? ⟨bo, oo + s, none⟩ = some (.bool (g.ours.getD s false)) := fun w' h => cbo w' (hE1.trans h)
      have hfe : ∀ i, folE g l s i = if g.ours.getD s false && (i : Int) != l[s] then -1 else ((g.m.row s).getD i (0, 0)).1 := fun i => by
        unfold folE; rw [show l.getD s 0 = l[s] by simp [List.getD, hsl']]
      generalize l[s] = ls at *
      generalize g.ours.getD s false = us at *
      have HFE := Lib.hid hfe
      clear hfe
      have hsI : (s : Int) < (n : Int) := by omega
      go_wp2
      go_loopw [27] (fun i wr => ∃ (j : Nat) (vs : List Value), j ≤ el ∧ i = .int .i64 j ∧ Ext W1 wr ∧ vs.length = n ∧ OwnL W1 wr [.rows 37 3 1 (.slice (some ⟨gx, 0, none⟩) vs.length n) vs (folAt g l n s j)]) (fun i _ => el - (intOf i).toNat)
      case atStart => exact ⟨0, vs, by omega, rfl, hE, hvl, hO⟩
      case round =>
        clear hO hE hvl
        obtain ⟨j, vs, hj, rfl, hE, hvl, hO⟩ := hrel
        obtain ⟨W4, hW4⟩ : ∃ W, W = wr := ⟨_, rfl⟩; subst hW4
        by_cases hje : j < el
        · have hjr : j < (g.m.row s).length := by rw [← HEL.out]; exact hje
          obtain ⟨be, oe, rfl, _, d0, d1⟩ := hce.at_edge hjr
          have d0 := hE.cell d0
          have d1 := hE.cell d1
          have hfj := HFE.out j
          rw [show (g.m.row s).getD j (0, 0) = (g.m.row s)[j] by simp [List.getD, hjr]] at hfj
          have hset := fun x hx => folAt_set g l (n := n) hjr x hx
          have hget := folAt_get g l (n := n) hsn (Nat.le_of_lt hjr)
          have hjI : (j : Int) < (el : Int) := by omega
          rcases hxe : (g.m.row s)[j] with ⟨x, y⟩
          rw [hxe] at d0 d1 hfj
          simp only at d0 d1 hfj
          have HFJ := Lib.hid hfj
          have HSET := Lib.hid hset
          have HGET := Lib.hid hget
          clear hfj hset hget hxe
          go_upto_region 8 with fail
          refine wp_named ?_
          intro W6 hW6
          have hO6 : OwnL W1 W6 [.rows 37 3 1 (.slice (some ⟨gx, 0, none⟩) vs.length n) vs (folAt g l n s j)] := by rw [hW6]; exact hO.trans (alloc_ext _ _)
          have hq : W6.heap[W4.heap.size]? = some (.cells #[.int .i64 x, .int .i64 y] 52) := by rw [hW6]; exact heap_alloc_new _ _
          clear hW6 d0 d1 hO hE
          have hE6 := hO6.ext
          generalize W4.heap.size = bq at *
          have q00 := cell_of_blk hq 0 rfl
          obtain ⟨z, hz⟩ : ∃ z, z = folE g l s j := ⟨_, rfl⟩
          have HZ := Lib.hid hz
          clear hz
          have cl0 := cl W6 hE6
          have cb0 := cbo W6 hE6
          go_upto_region 9 with fail
          obtain ⟨C, hC⟩ : ∃ C, C = (us && (j : Int) != ls) := ⟨_, rfl⟩
          have HC := Lib.hid hC
          clear hC
          go_cut [46] (fun v wx => v = .bool C ∧ W6 = wx)
          case first =>
            cases us with
            | false =>
              go_wp2
              go_meet
              exact ⟨by rw [HC.out]; rfl, rfl⟩
            | true =>
              cases hb : ((j : Int) != ls) <;>
              · go_wp2
                go_meet
                exact ⟨by rw [HC.out, hb]; rfl, rfl⟩
          case rest =>
            obtain ⟨rfl, rfl⟩ := hcut
            clear cl0 cb0
            have hzc : z = if C then -1 else x := by rw [HZ.out, HFJ.out, HC.out]
            have HZC := Lib.hid hzc
            clear hzc
            go_upto_if 46 with fail
            go_cut [10] (fun v wx => v = .int .i64 z ∧ W6 = wx)
            case first =>
              cases C <;>
              · go_wp2
                go_meet
                exact ⟨by rw [HZC.out]; rfl, rfl⟩
            case rest =>
              obtain ⟨rfl, rfl⟩ := hcut
              have hvs : s < vs.length := by omega
              have hx5 := List.getElem?_eq_getElem hvs
              have q1 := cell_rows hO6 0 rfl hx5
              have hown : W6.ownsRow W1.heap.size 3 1 vs[s] ((folR g l s).take j).length ((folR g l s).take j |>.map (.int .i64)) := OwnRows.each (hO6.get 0 rfl) s _ _ hx5 HGET.out
              have hlj : ((folR g l s).take j).length = j := by rw [List.length_take, folR_len]; omega
              rw [hlj] at hown
              have HX5 := Lib.hid hx5
              clear hx5 hlj
              generalize vs[s] = xu at *
              obtain ⟨Ax, cx, rfl, _, _⟩ := cells_of_owns hown
              have hE6s := hE6.size
              go_wp2_with (at_builtin; refine wpList_append_own2 rfl _ _ 37 rfl W1.heap.size 3 i3 (.int .i64 0) 1 8 Try.underlying37 hi3 hz3 hs3 hb3 rfl (by decide) (.slice Ax j cx) j _ rfl (World.ownsRow.alloc hown _) ⟨W6.heap.size, 0, none⟩ 1 1 [.int .i64 z] rfl rfl (cells_new _ #[.int .i64 z] _) (one_int _) (by unfold maxLen; omega) (by omega) (by simp; omega) ?_; intro v6 w6 hown6 hg6 hb6; obtain ⟨g6, c6, rfl⟩ := ownsRow_pos hown6 (by omega); obtain ⟨q2, q3⟩ := rows_keep (hO6.trans (alloc_ext W6 _)) 0 rfl HX5.out hg6)
              go_roundw
              case rel =>
                have h1 := (hO6.trans (alloc_ext W6 _)).appAt 0 rfl HX5.out HGET.out hg6 hown6 hb6
                have h2 := HSET.out z HZ.out.symm
                rw [show (intRow ((folR g l s).take j)).2 = ((folR g l s).take j |>.map (.int .i64)) from rfl] at h2
                rw [h2] at h1
                exact ⟨j + 1, _, by omega, by go_num, h1.ext, by simpa using hvl, h1⟩
              case measure => simp [intOf]; omega
        · have hje2 : j = (g.m.row s).length := by rw [← HEL.out]; omega
          rw [hje2, folAt_next] at hO
          have HO := Lib.hid hO
          clear hje2 hO
          go_wp2
          go_roundw
          case rel => exact ⟨s + 1, vs, by omega, by go_num, hE, hvl, HO.out⟩
          case measure => simp [intOf]; omega
    · have hse : s = n := by omega
      subst hse
      have hfe := folAt_end g l
      rw [← HN.out] at hfe
      rw [hfe] at hO
      have HO := Lib.hid hO
      have HL : Hid ((folL g l).length = s) := by show _ = _; unfold folL; rw [List.length_map, List.length_range, HN.out]
      clear hfe hO
      go_wp2
      go_ret
      refine ⟨⟨.slice (some ⟨gx, 0, none⟩) s s, rfl, gx, vs, by rw [HL.out], by rw [HL.out]; exact hvl, ?_⟩, hE1.trans hE⟩
      have h1 : Asn.ok W1.heap.size W3 (.rows 37 3 1 (.slice (some ⟨gx, 0, none⟩) vs.length s) vs ((folL g l).map intRow)) := HO.out.get 0 rfl
      have h2 := Asn.mono h1 hE1.size
      rw [hvl] at h2
      exact h2
#print axioms follow_any
end Go.Proofs.Yteadkafeabhhhaa
