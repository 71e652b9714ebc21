/- games.strategy and its two users' functions: Avoid, Attack. -/
import Derived.Test.YteadkafeabhhhaaG2
namespace Go.Proofs.Yteadkafeabhhhaa
open Go.RowKit
set_option linter.unusedVariables false
set_option linter.unusedSimpArgs false
attribute [local go_sem] Oper.quietV quietV Oper.gives givesV ext_refl_iff ext_alloc_iff ext_drew_iff ext_drewN_iff

def stepP (V : Nat → Int) (acc : Int × Int) (i : Nat) (e : Int × Int) : Int × Int :=
  if e.1 ≠ -1 ∧ 0 ≤ V e.1.toNat ∧ (acc.1 < 0 ∨ V e.1.toNat < acc.1) then (V e.1.toNat, i) else acc
def pickAt (V : Nat → Int) (es : List (Int × Int)) : Nat → Int × Int
  | 0 => (-1, -1)
  | k + 1 => stepP V (pickAt V es k) k (es.getD k (0, 0))
def stratF (g : Game) (T : Nat → Bool) (V : Nat → Int) (s : Nat) : Int := if g.ours.getD s false && T s then (pickAt V (g.m.row s) (g.m.row s).length).2 else -1
def stratL (g : Game) (T : Nat → Bool) (V : Nat → Int) : List Int := (List.range g.m.rows.length).map (stratF g T V)
theorem stratL_len (g : Game) (T : Nat → Bool) (V : Nat → Int) : (stratL g T V).length = g.m.rows.length := by unfold stratL; simp
def fillI (f : Nat → Int) (n k : Nat) : List Value := (List.range n).map (fun i => .int .i64 (if i < k then f i else 0))
theorem fillI_zero (f : Nat → Int) (n : Nat) : List.replicate n (Value.int .i64 0) = fillI f n 0 := by
  unfold fillI; apply List.ext_getElem <;> simp
theorem fillI_set (f : Nat → Int) (n k : Nat) : (fillI f n k).set k (.int .i64 (f k)) = fillI f n (k + 1) := by
  have e : Value.int .i64 (f k) = .int .i64 (if k < k + 1 then f k else 0) := by rw [if_pos (by omega)]
  rw [e]
  refine map_set_range (fun i => Value.int .i64 (if i < k + 1 then f i else 0)) _ n k (fun t ht => ?_)
  by_cases h : t < k
  · rw [if_pos h, if_pos (by omega)]
  · rw [if_neg h, if_neg (by omega)]
theorem fillI_get (f : Nat → Int) {n k i : Nat} (h : i < n) : (fillI f n k)[i]? = some (.int .i64 (if i < k then f i else 0)) := by unfold fillI; simp [h]
theorem fillI_len (f : Nat → Int) (n k : Nat) : (fillI f n k).length = n := by unfold fillI; simp
theorem strat_end (g : Game) (T : Nat → Bool) (V : Nat → Int) : fillI (stratF g T V) g.m.rows.length g.m.rows.length = (stratL g T V).map (.int .i64) := by
  unfold fillI stratL
  rw [List.map_map]
  apply List.map_congr_left
  intro t ht
  rw [if_pos (List.mem_range.1 ht)]; rfl

def Enters (f : Nat) : Prop := ∀ (args : Array Value) (w : World), (callFunc f args).run Try.prog w = .ok (.enter f args) w
theorem enters38 : Enters 38 := fun args w => by simp [callFunc, go_sem, Try.func38, Try.f38]
theorem enters39 : Enters 39 := fun args w => by simp [callFunc, go_sem, Try.func39, Try.f39]
theorem enters40 : Enters 40 := fun args w => by simp [callFunc, go_sem, Try.func40, Try.f40]
theorem enters41 : Enters 41 := fun args w => by simp [callFunc, go_sem, Try.func41, Try.f41]
def Told (w : World) (f : Nat) (cap : Value) (n : Nat) (T : Nat → Bool) : Prop := ∀ W', Ext w W' → ∀ s : Nat, s < n → Calls Try.prog f #[.int .i64 s, cap] W' fun e w'' => e = .returned (.bool (T s)) ∧ Ext W' w''
def Vals1 (w : World) (f : Nat) (cap : Value) (n : Nat) (V : Nat → Int) : Prop := ∀ W', Ext w W' → ∀ s : Nat, s < n → Calls Try.prog f #[.int .i64 s, cap] W' fun e w'' => e = .returned (.int .i64 (V s)) ∧ Ext W' w''

set_option maxRecDepth 100000 in
set_option maxHeartbeats 4000000 in
theorem strategy_any (w : World) (gv : Value) (g : Game) (hg : GameV w gv g) (hF : Fine g) (fT fV : Nat) (hfT : Enters fT) (hfV : Enters fV) (cT cV : Value) (T : Nat → Bool) (V : Nat → Int) (hT : Told w fT cT g.m.rows.length T) (hVv : Vals1 w fV cV g.m.rows.length V) (hVb : ∀ u, -1 ≤ V u ∧ V u ≤ 100) :
    Calls Try.prog 37 #[gv, .func (.func fT) #[] #[cT], .func (.func fV) #[] #[cV]] w fun e w' => (∃ v, e = .returned v ∧ OwnI w w' v (stratL g T V)) ∧ Ext w w' := by
  unfold Enters at hfT hfV
  obtain ⟨rv, cr, ov, co, sv, cs, rfl, hr, ho, hs⟩ := hg
  obtain ⟨Ar, vr, rfl, _, _, _, _, hrm⟩ := id hr
  obtain ⟨Ao, rfl, hoc, _, hom⟩ := id ho
  obtain ⟨As, rfl, hsc, _, hsm⟩ := id hs
  unfold lenMax at hrm hom hsm
  obtain ⟨hV, hol, hsl⟩ := hF
  have hsz := hV.size
  obtain ⟨n, hn⟩ : ∃ n, n = g.m.rows.length := ⟨_, rfl⟩
  rw [← hn] at hol hsl hsz hrm hr hT hVv ⊢
  rw [hol] at hom ho ⊢
  rw [hsl] at hsm hs ⊢
  have HN := Lib.hid hn
  have HOL := Lib.hid hol
  have HSL := Lib.hid hsl
  have HV := Lib.hid hV
  clear hV hol hsl hn
  have hn64 : n ≤ 64 := hsz.2
  have hn1 : 1 ≤ n := hsz.1
  have hbo : ∀ j, (hj : j < n) → ∃ b o, Ao = some ⟨b, o, none⟩ ∧ ∀ w', Ext w w' → w'.cell? ⟨b, o + j, none⟩ = some (.bool (g.ours.getD j false)) := fun j hj => by
    have hjo : j < g.ours.length := by rw [HOL.out]; exact hj
    obtain ⟨b, o, rfl, _, h⟩ := hoc.at_bool hjo
    exact ⟨b, o, rfl, fun w' hw => by rw [hw.cell h]; simp [List.getD, hjo]⟩
  have HBO := Lib.hid hbo
  have HTT := Lib.hid hT
  have HVV := Lib.hid hVv
  have HVB := Lib.hid hVb
  clear hbo hT hVv hVb
  have hmi := mk_ints n (by omega)
  go_enter Try.func37, Try.ntmps37
  go_upto_region 1 with fail
  refine wp_named ?_
  intro W1 hW1
  have hE1 : Ext w W1 := by rw [hW1]; exact (Ext.refl _).alloc _
  have k0 : ∀ w', Ext W1 w' → w'.cell? ⟨w.heap.size, 0, none⟩ = some (.int .i64 g.m.ins) := fun w' h => h.cell (by rw [hW1]; simp [go_sem])
  have k1 : ∀ w', Ext W1 w' → w'.cell? ⟨w.heap.size, 1, none⟩ = some (.int .i64 g.m.outs) := fun w' h => h.cell (by rw [hW1]; simp [go_sem])
  have k2 : ∀ w', Ext W1 w' → w'.cell? ⟨w.heap.size, 2, none⟩ = some (.slice Ar n cr) := fun w' h => h.cell (by rw [hW1]; simp [go_sem])
  have k3 : ∀ w', Ext W1 w' → w'.cell? ⟨w.heap.size, 3, none⟩ = some (.slice Ao n co) := fun w' h => h.cell (by rw [hW1]; simp [go_sem])
  have k4 : ∀ w', Ext W1 w' → w'.cell? ⟨w.heap.size, 4, none⟩ = some (.slice As n cs) := fun w' h => h.cell (by rw [hW1]; simp [go_sem])
  clear hW1
  have hE0 := Ext.refl W1
  go_upto_region 2 with fail
  refine wp_named ?_
  intro W2 hW2
  obtain ⟨F, hFd⟩ : ∃ F, F = stratF g T V := ⟨_, rfl⟩
  have hO2 : OwnL W1 W2 [.row 3 1 (.slice (some ⟨W1.heap.size, 0, none⟩) n n) n (fillI F n 0)] := by
    rw [hW2, ← fillI_zero]
    exact (OwnL.nil (Ext.refl W1)).add (alloc_ext _ _) (A := .row 3 1 _ n _) (own_new W1 (.int .i64 0) 3 n (by omega))
  have HFD := Lib.hid hFd
  clear hW2 hFd
  generalize W1.heap.size = gx at *
  have hE2 := hO2.ext
  go_wp2
  go_loopw [23] (fun i wr => ∃ s : Nat, s ≤ n ∧ i = .int .i64 s ∧ Ext W1 wr ∧ OwnL W1 wr [.row 3 1 (.slice (some ⟨gx, 0, none⟩) n n) n (fillI F n s)]) (fun i _ => n - (intOf i).toNat)
  case atStart => exact ⟨0, by omega, rfl, hE2, hO2⟩
  case round =>
    clear hO2 hE2
    obtain ⟨s, hs', rfl, hE, hO⟩ := hrel
    obtain ⟨W3, hW3⟩ : ∃ W, W = wr := ⟨_, rfl⟩; subst hW3
    by_cases hsn : s < n
    · have hsm : s < g.m.rows.length := by rw [← HN.out]; exact hsn
      obtain ⟨b, o, us, cu, hv, hb, c0, hes⟩ := (hr.ext hE1).at_ hsm
      obtain rfl : Ar = some ⟨b, o, none⟩ := by injection hv
      clear hv
      have hre := row_eq hsm
      obtain ⟨Ae, rfl, hce, _, hme⟩ := hes
      unfold lenMax at hme
      rw [← hre] at hce hme c0
      have hfit : ∀ e ∈ g.m.row s, fitsB g.m e = true := fun e he => HV.out.fit _ (List.getElem_mem hsm) e (hre ▸ he)
      have hl16 := row_le HV.out s
      have hfs : F s = if g.ours.getD s false && T s then (pickAt V (g.m.row s) (g.m.row s).length).2 else -1 := by rw [HFD.out]; rfl
      have HF := Lib.hid hfit
      have HFS := Lib.hid hfs
      have g0 : ∀ w', Ext W1 w' → w'.cell? ⟨b, o + s, none⟩ = some (.slice Ae (g.m.row s).length cu) := fun w' h => h.cell c0
      obtain ⟨el, hel⟩ : ∃ el, el = (g.m.row s).length := ⟨_, rfl⟩
      rw [← hel] at g0 hme hl16 HFS
      have HEL := Lib.hid hel
      clear c0 hre hfit hel hfs
      obtain ⟨bo, oo, rfl, cbo⟩ := HBO.out s hsn
      have cx := cell_own hO 0 rfl (fillI_get F hsn)
      have fx := free_own (e := 3) hO 0 rfl s
      go_upto_region 6 with fail
      refine wp_named ?_
      intro W4 hW4
      have hO4 : OwnL W1 W4 [.row 3 1 (.slice (some ⟨gx, 0, none⟩) n n) n ((fillI F n s).set s (.int .i64 (-1)))] := by rw [hW4]; exact hO.store 0 rfl s (.int .i64 (-1))
      clear hW4 cx fx hO hE
      have hE4 := hO4.ext
      have cb := cbo W4 (hE1.trans hE4)
      clear cbo
      have hsI : (s : Int) < (n : Int) := by omega
      cases hour : g.ours.getD s false with
      | false =>
        rw [hour] at cb
        have hfv : F s = -1 := by rw [HFS.out, hour]; rfl
        rw [← hfv, fillI_set] at hO4
        clear hour hfv
        go_wp2
        go_roundw
        case rel => exact ⟨s + 1, by omega, by go_num, hE4, hO4⟩
        case measure => simp [intOf]; omega
      | true =>
        rw [hour] at cb
        have htc := HTT.out W4 (hE1.trans hE4) s hsn
        cases hT : T s with
        | false =>
          rw [hT] at htc
          have hfv : F s = -1 := by rw [HFS.out, hour, hT]; rfl
          rw [← hfv, fillI_set] at hO4
          clear hour hfv hT
          go_wp2_with (refine htc.mono ?_; rintro e w5 ⟨rfl, hE5⟩)
          go_roundw
          case rel => exact ⟨s + 1, by omega, by go_num, hE4.trans hE5, hO4.trans hE5⟩
          case measure => simp [intOf]; omega
        | true =>
          rw [hT] at htc
          have hfv : F s = (pickAt V (g.m.row s) el).2 := by rw [HFS.out, hour, hT]; rfl
          have HFV := Lib.hid hfv
          clear hour hfv hT
          go_wp2_with (refine htc.mono ?_; rintro e w5 ⟨rfl, hE5⟩)
          have hO5 := hO4.trans hE5
          have hE6 := hO5.ext
          go_loopw [45, 10] (fun i bv wr => ∃ (j : Nat) (bst inp : Int), j ≤ el ∧ i = .int .i64 j ∧ bv = .int .i64 bst ∧ Hid (pickAt V (g.m.row s) j = (bst, inp)) ∧ Ext W1 wr ∧ OwnL W1 wr [.row 3 1 (.slice (some ⟨gx, 0, none⟩) n n) n ((fillI F n s).set s (.int .i64 inp))]) (fun i _ _ => el - (intOf i).toNat)
          case atStart => exact ⟨0, -1, -1, by omega, rfl, rfl, rfl, hE6, hO5⟩
          case round =>
            clear hO5 hE6 htc hE5 hO4 hE4 cb
            obtain ⟨j, bst, inp, hj, rfl, rfl, hP, hE, hO⟩ := hrel
            obtain ⟨W5, hW5⟩ : ∃ W, W = wr := ⟨_, rfl⟩; subst hW5
            by_cases hje : j < el
            · have hjr : j < (g.m.row s).length := by rw [← HEL.out]; exact hje
              obtain ⟨be, oe, rfl, _, d0, d1⟩ := hce.at_edge hjr
              have d0 := hE.cell d0
              have d1 := hE.cell d1
              have hfx := fit_to (HF.out _ (List.getElem_mem hjr))
              have hst : pickAt V (g.m.row s) (j + 1) = stepP V (bst, inp) j (g.m.row s)[j] := by
                show stepP V (pickAt V (g.m.row s) j) j ((g.m.row s).getD j (0, 0)) = _
                rw [hP.out]; simp [List.getD, hjr]
              have hjI : (j : Int) < (el : Int) := by omega
              rcases hxe : (g.m.row s)[j] with ⟨x, y⟩
              rw [hxe] at d0 d1 hst hfx
              simp only at d0 d1 hfx
              have HST := Lib.hid hst
              clear hst hxe
              go_upto_region 11 with fail
              refine wp_named ?_
              intro W6 hW6
              have hO6 : OwnL W1 W6 [.row 3 1 (.slice (some ⟨gx, 0, none⟩) n n) n ((fillI F n s).set s (.int .i64 inp))] := by rw [hW6]; exact hO.trans (alloc_ext _ _)
              have hq : W6.heap[W5.heap.size]? = some (.cells #[.int .i64 x, .int .i64 y] 52) := by rw [hW6]; exact heap_alloc_new _ _
              clear hW6 d0 d1 hO hE
              have hE6 := hO6.ext
              generalize W5.heap.size = bq at *
              have q0 : ∀ w', Ext W6 w' → w'.cell? ⟨bq, 0, none⟩ = some (.int .i64 x) := fun w' h => h.cell (cell_of_blk hq 0 rfl)
              have q00 := q0 W6 (Ext.refl _)
              by_cases hx : x = -1
              · have hx' : (x == -1) = true := by simp [hx]
                have hs1 : pickAt V (g.m.row s) (j + 1) = (bst, inp) := by rw [HST.out]; unfold stepP; exact if_neg (fun h => h.1 hx)
                have HS1 := Lib.hid hs1
                clear hx hs1
                go_wp2
                go_roundw
                case rel => exact ⟨j + 1, bst, inp, by omega, by go_num, rfl, HS1.out, hE6, hO6⟩
                case measure => simp [intOf]; omega
              · have hx' : (x == -1) = false := by simpa using hx
                obtain ⟨u, rfl⟩ := Int.eq_ofNat_of_zero_le (show 0 ≤ x by omega)
                have hun : u < n := by have := HN.out; omega
                have hvc := HVV.out W6 (hE1.trans hE6) u hun
                have hstep : pickAt V (g.m.row s) (j + 1) = if 0 ≤ V u ∧ (bst < 0 ∨ V u < bst) then (V u, (j : Int)) else (bst, inp) := by
                  rw [HST.out]; unfold stepP
                  simp only [Int.toNat_natCast]
                  by_cases hc : 0 ≤ V u ∧ (bst < 0 ∨ V u < bst)
                  · rw [if_pos hc, if_pos ⟨hx, hc⟩]
                  · rw [if_neg hc, if_neg (fun h => hc h.2)]
                have HS1 := Lib.hid hstep
                clear hx hstep HST
                generalize V u = v at *
                go_upto_region 13 with (refine hvc.mono ?_; rintro e w7 ⟨rfl, hE7⟩)
                have hO7 := hO6.trans hE7
                clear hvc q0 q00 hq
                have hE8 := hO7.ext
                by_cases hv0 : 0 ≤ v
                · by_cases hc : bst < 0 ∨ v < bst
                  · have hs2 : pickAt V (g.m.row s) (j + 1) = (v, (j : Int)) := by rw [HS1.out, if_pos ⟨hv0, hc⟩]
                    have HS2 := Lib.hid hs2
                    have cx : w7.cell? ⟨gx, s, none⟩ = some (.int .i64 inp) := cell_own hO7 0 rfl (by rw [List.getElem?_set_self (by rw [fillI_len]; exact hsn)])
                    have fx := free_own (e := 3) hO7 0 rfl s
                    have hst := hO7.store 0 rfl s (.int .i64 (j : Int))
                    have hO9 : OwnL W1 (w7.setCell ⟨gx, s, none⟩ (.int .i64 (j : Int))) [.row 3 1 (.slice (some ⟨gx, 0, none⟩) n n) n ((fillI F n s).set s (.int .i64 (j : Int)))] := by
                      have h1 := hst
                      simp only [List.set_cons_zero, List.set_set] at h1
                      exact h1
                    have HO9 := Lib.hid hO9
                    clear hs2 hst hO9
                    by_cases hb0 : bst < 0
                    · clear hc
                      go_wp2
                      go_roundw
                      case rel => exact ⟨j + 1, v, j, by omega, by go_num, rfl, HS2.out, HO9.out.ext, HO9.out⟩
                      case measure => simp [intOf]; omega
                    · have hvb : v < bst := by omega
                      clear hc
                      go_wp2
                      go_roundw
                      case rel => exact ⟨j + 1, v, j, by omega, by go_num, rfl, HS2.out, HO9.out.ext, HO9.out⟩
                      case measure => simp [intOf]; omega
                  · have hs2 : pickAt V (g.m.row s) (j + 1) = (bst, inp) := by rw [HS1.out, if_neg (fun h => hc h.2)]
                    have HS2 := Lib.hid hs2
                    have hb0 : ¬ bst < 0 := fun h => hc (.inl h)
                    have hvb : ¬ v < bst := fun h => hc (.inr h)
                    clear hs2 hc
                    go_wp2
                    go_roundw
                    case rel => exact ⟨j + 1, bst, inp, by omega, by go_num, rfl, HS2.out, hE8, hO7⟩
                    case measure => simp [intOf]; omega
                · have hs2 : pickAt V (g.m.row s) (j + 1) = (bst, inp) := by rw [HS1.out, if_neg (fun h => hv0 h.1)]
                  have HS2 := Lib.hid hs2
                  clear hs2
                  go_wp2
                  go_roundw
                  case rel => exact ⟨j + 1, bst, inp, by omega, by go_num, rfl, HS2.out, hE8, hO7⟩
                  case measure => simp [intOf]; omega
            · have hje2 : j = el := by omega
              subst hje2
              have hfv : inp = F s := by rw [HFV.out, hP.out]
              rw [hfv, fillI_set] at hO
              have HO := Lib.hid hO
              clear hfv hO
              go_wp2
              go_roundw
              case rel => exact ⟨s + 1, by omega, by go_num, hE, HO.out⟩
              case measure => simp [intOf]; omega
    · have hse : s = n := by omega
      subst hse
      have hfe := strat_end g T V
      rw [← HN.out, ← HFD.out] at hfe
      rw [hfe] at hO
      have hl : (stratL g T V).length = s := by rw [stratL_len, HN.out]
      have HL := Lib.hid hl
      have HO := Lib.hid hO
      clear hfe hl hO
      go_wp2
      go_ret
      refine ⟨⟨.slice (some ⟨gx, 0, none⟩) s s, rfl, some ⟨gx, 0, none⟩, by rw [HL.out], ?_⟩, hE1.trans hE⟩
      rw [HL.out]
      exact own_mono (HO.out.get 0 rfl) hE1.size
#print axioms strategy_any
end Go.Proofs.Yteadkafeabhhhaa
