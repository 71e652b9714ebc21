/- gauntletref32.Force: the ranks, round by round. -/
import Derived.Test.YteadkafeabhhhaaRk1
import Derived.Test.YteadkafeabhhhaaG2
import Derived.Test.YteadkafeabhhhaaC2
namespace Go.Proofs.Yteadkafeabhhhaa
open Go.RowKit
set_option linter.unusedVariables false
set_option linter.unusedSimpArgs false
attribute [local go_sem] Oper.quietV quietV Oper.gives givesV ext_refl_iff ext_alloc_iff ext_drew_iff ext_drewN_iff

def f0At (g : Gr) (s : Nat) : List Value := (List.range s).map (fun t => .int .i64 (if g.goal t then 0 else -1))
theorem f0_succ (g : Gr) (s : Nat) (x : Int) (h : (if g.goal s then 0 else -1) = x) : f0At g s ++ [.int .i64 x] = f0At g (s + 1) := by
  unfold f0At; rw [List.range_succ, List.map_append, ← h]; rfl
theorem f0_end (g : Gr) : f0At g g.n = (forceL g 0).map (.int .i64) := by unfold f0At forceL force0; rw [List.map_map]; rfl
theorem f0_len (g : Gr) (s : Nat) : (f0At g s).length = s := by unfold f0At; simp
def nextF (g : Gr) (k : Nat) (r : List Int) (s t : Nat) : Int := if t < s then forceAt g k r t else r.getD t 0
def nextAt (g : Gr) (k : Nat) (r : List Int) (s : Nat) : List Value := (List.range g.n).map (fun t => .int .i64 (nextF g k r s t))
theorem next_zero (g : Gr) (k : Nat) (r : List Int) (h : r.length = g.n) : r.map (.int .i64) = nextAt g k r 0 := by
  unfold nextAt nextF
  apply List.ext_getElem
  · simp [h]
  · intro i h1 h2
    have : i < r.length := by simpa using h1
    simp [List.getD, this]
theorem next_end (g : Gr) (k : Nat) : nextAt g k (forceL g k) g.n = (forceL g (k + 1)).map (.int .i64) := by
  unfold nextAt nextF
  show _ = ((List.range g.n).map (forceAt g k (forceL g k))).map _
  rw [List.map_map]
  apply List.map_congr_left
  intro t ht
  rw [if_pos (List.mem_range.1 ht)]; rfl
theorem next_set (g : Gr) (k : Nat) (r : List Int) (s : Nat) : (nextAt g k r s).set s (.int .i64 (forceAt g k r s)) = nextAt g k r (s + 1) := by
  have e : Value.int .i64 (forceAt g k r s) = .int .i64 (nextF g k r (s + 1) s) := by unfold nextF; rw [if_pos (by omega)]
  rw [e]
  refine map_set_range (fun t => Value.int .i64 (nextF g k r (s + 1) t)) _ g.n s (fun t ht => ?_)
  unfold nextF
  by_cases h : t < s
  · rw [if_pos h, if_pos (by omega)]
  · rw [if_neg h, if_neg (by omega)]
theorem next_same (g : Gr) (k : Nat) (r : List Int) (s : Nat) (h : forceAt g k r s = r.getD s 0) : nextAt g k r s = nextAt g k r (s + 1) := by
  unfold nextAt
  apply List.map_congr_left
  intro t _
  unfold nextF
  by_cases h1 : t < s
  · rw [if_pos h1, if_pos (by omega)]
  · by_cases h2 : t = s
    · subst h2; rw [if_neg h1, if_pos (by omega), h]
    · rw [if_neg h1, if_neg (by omega)]
theorem next_get (g : Gr) (k : Nat) (r : List Int) (s : Nat) {t : Nat} (h : t < g.n) : (nextAt g k r s)[t]? = some (.int .i64 (nextF g k r s t)) := by unfold nextAt; simp [h]
def someF (r : List Int) (l : List Nat) : Bool := l.any (fun u => decide (0 ≤ r.getD u 0))
def allF (r : List Int) (l : List Nat) : Bool := l.all (fun u => decide (0 ≤ r.getD u 0))
theorem forceL_len (g : Gr) (k : Nat) : (forceL g k).length = g.n := by cases k <;> simp [forceL, force0]
theorem someF_snoc (r : List Int) (l : List Nat) (u : Nat) : someF r (l ++ [u]) = (someF r l || decide (0 ≤ r.getD u 0)) := by simp [someF]
theorem allF_snoc (r : List Int) (l : List Nat) (u : Nat) : allF r (l ++ [u]) = (allF r l && decide (0 ≤ r.getD u 0)) := by simp [allF]
def condF (t some all : Bool) (many : Nat) : Bool := if t then some else all && decide (0 < many)
theorem goes_cond (g : Gr) (r : List Int) (s : Nat) : goesAt g r s = condF (g.turn s) (someF r (g.sc s)) (allF r (g.sc s)) (g.sc s).length := by
  unfold goesAt condF someF allF
  cases g.turn s
  · rw [if_neg (by decide), if_neg (by decide), Bool.and_comm]
    congr 1
    cases g.sc s <;> simp
  · rfl
theorem sucE_lenle (l : List (Int × Int)) : (sucE l).length ≤ l.length := by unfold sucE; rw [List.length_map]; exact List.length_filter_le _ _
theorem own_empty (W : World) (e : TypeId) : (W.alloc (.cells #[] e)).ownsRow W.heap.size e 1 (.slice (some ⟨W.heap.size, 0, none⟩) 0 0) 0 [] := by
  have := World.ownsRow_lit (base := W.heap.size) (e := e) (size := 1) W #[] 0 (Nat.le_refl _) (by unfold maxLen; omega) rfl
  simpa using this
theorem ints_one (l : List Int) : ∀ u ∈ l.map (Value.int .i64), u.oneCell' = true := by
  intro u hu; obtain ⟨x, _, rfl⟩ := List.mem_map.1 hu; rfl

set_option maxRecDepth 100000 in
set_option maxHeartbeats 4000000 in
theorem force_any (w : World) (mv tv sv : Value) (m : Mach) (hm : MachV w mv m) (hV : Valid m) (ts ss : List Bool) (ct cs : Nat) (ht : BoolsC w tv ts ct) (hs : BoolsC w sv ss cs) (htl : ts.length = m.rows.length) (hsl : ss.length = m.rows.length) :
    Calls Try.prog 14 #[mv, tv, sv] w fun e w' => (∃ v c, e = .returned v ∧ IntsC w' v (rankG m ts ss) c) ∧ Ext w w' := by
  obtain ⟨rv, c, rfl, hr⟩ := hm
  obtain ⟨A, vs0, rfl, _, _, _, _, hrm⟩ := id hr
  unfold lenMax at hrm
  have hsz := hV.size
  have hins := hV.ins
  obtain ⟨i3, hi3, hz3, hs3, hb3⟩ := info_parts int_info
  obtain ⟨n, hn⟩ : ∃ n, n = m.rows.length := ⟨_, rfl⟩
  rw [← hn] at hrm hr htl hsl hsz ⊢
  obtain ⟨Sg, rfl, hsc, _⟩ := hs
  obtain ⟨Tg, rfl, htc, _⟩ := ht
  have HTL := Lib.hid (And.intro htl hsl)
  rw [htl, hsl]
  obtain ⟨g, hg⟩ : ∃ g, g = grOf m ts ss := ⟨_, rfl⟩
  have hbl : ∀ j, (hj : j < n) → ∃ b o, Sg = some ⟨b, o, none⟩ ∧ ∀ w', Ext w w' → w'.cell? ⟨b, o + j, none⟩ = some (.bool (g.goal j)) := fun j hj => by
    have hj2 : j < ss.length := by omega
    obtain ⟨b, o, rfl, _, h⟩ := hsc.at_bool hj2
    exact ⟨b, o, rfl, fun w' hw => by rw [hw.cell h, hg]; simp [grOf, List.getD, hj2]⟩
  have htb : ∀ j, (hj : j < n) → ∃ b o, Tg = some ⟨b, o, none⟩ ∧ ∀ w', Ext w w' → w'.cell? ⟨b, o + j, none⟩ = some (.bool (g.turn j)) := fun j hj => by
    have hj2 : j < ts.length := by omega
    obtain ⟨b, o, rfl, _, h⟩ := htc.at_bool hj2
    exact ⟨b, o, rfl, fun w' hw => by rw [hw.cell h, hg]; simp [grOf, List.getD, hj2]⟩
  have HBL := Lib.hid hbl
  have HTB := Lib.hid htb
  have HN := Lib.hid hn
  have HV := Lib.hid hV
  have HG := Lib.hid hg
  have HGN : Hid (g.n = n) := by show _ = _; rw [hg, hn]; rfl
  clear hn hV htl hsl hg hbl htb hsc htc
  have hn64 : n ≤ 64 := hsz.2
  have hn1 : 1 ≤ n := hsz.1
  clear hsz
  go_enter Try.func14, Try.ntmps14
  go_upto_region 1 with fail
  refine wp_named ?_
  intro W1 hW1
  have hE1 : Ext w W1 := by rw [hW1]; exact (Ext.refl _).alloc _
  have k0 : ∀ w', Ext W1 w' → w'.cell? ⟨w.heap.size, 0, none⟩ = some (.int .i64 m.ins) := fun w' h => h.cell (by rw [hW1]; simp [go_sem])
  have k2 : ∀ w', Ext W1 w' → w'.cell? ⟨w.heap.size, 2, none⟩ = some (.slice A n c) := fun w' h => h.cell (by rw [hW1]; simp [go_sem])
  clear hW1
  have hE0 := Ext.refl W1
  go_upto_block 0 with fail
  go_cut [8] (fun v wx => ∃ gR cR, v = .slice (some ⟨gR, 0, none⟩) n cR ∧ OwnL W1 wx [.row 3 1 (.slice (some ⟨gR, 0, none⟩) n cR) n ((forceL g 0).map (.int .i64))])
  case first =>
    --[f1
    go_wp2
    go_loopw [9, 8] (fun i v wr => ∃ s : Nat, s ≤ n ∧ i = .int .i64 s ∧ Ext W1 wr ∧ OwnL W1 wr [.row 3 1 v s (f0At g s)]) (fun i _ _ => n - (intOf i).toNat)
    case atStart => exact ⟨0, by omega, rfl, hE0, hE0, (fun B hB => by simp at hB; subst hB; exact World.ownsRow_nil _ _ _ _), List.pairwise_singleton _ _⟩
    case round =>
      obtain ⟨s, hs, rfl, hE, hO⟩ := hrel
      obtain ⟨W3, hW3⟩ : ∃ W, W = wr := ⟨_, rfl⟩; subst hW3
      by_cases hlt : s < n
      · obtain ⟨b, o, rfl, cb⟩ := HBL.out s hlt
        have cb := cb W3 (hE1.trans hE)
        have hown : W3.ownsRow W1.heap.size 3 1 u8 s (f0At g s) := hO.get 0 rfl
        have hsz3 := hE.size
        have HFS := fun x h => Lib.hid (f0_succ g s x h)
        have HFS := Lib.hid HFS
        generalize hgx : g.goal s = gx at *
        have HGX := Lib.hid hgx
        clear hgx
        cases gx <;>
        · go_wp2_with (at_builtin; refine wpList_append_own2 rfl _ _ 37 rfl W1.heap.size 3 i3 (.int .i64 0) 1 8 Try.underlying37 hi3 hz3 hs3 hb3 rfl (by decide) u8 s _ rfl (World.ownsRow.alloc hown _) ⟨W3.heap.size, 0, none⟩ 1 1 [.int .i64 _] rfl rfl (cells_new _ #[.int .i64 _] _) (one_int _) (by unfold maxLen; omega) (by omega) (by simp; omega) ?_; intro v6 w6 hown6 hg6 hb6)
          go_roundw
          case rel =>
            rw [(HFS.out _ (by rfl)).out] at hown6
            have h1 := (hO.trans (alloc_ext _ _)).app 0 rfl hg6 hown6 hb6
            exact ⟨s + 1, by omega, by go_num, h1.ext, h1⟩
          case measure => simp [intOf]; omega
      · have hse : s = n := by omega
        subst hse
        obtain ⟨gR, cR, hv⟩ := ownsRow_pos (hO.get 0 rfl) hn1
        subst hv
        have h0 := f0_end g
        rw [HGN.out] at h0
        rw [h0] at hO
        have HO := Lib.hid hO
        clear hO h0
        go_wp2
        go_meet
        exact ⟨_, _, rfl, HO.out⟩
    --]f1
  case rest =>
    obtain ⟨gR, cR, rfl, hO⟩ := hcut
    have hE := hO.ext
    go_wp2
    go_loopw [11, 8] (fun i v wr => ∃ (k gR cR : Nat), k ≤ n ∧ i = .int .i64 ((k : Int) + 1) ∧ v = .slice (some ⟨gR, 0, none⟩) n cR ∧ Ext W1 wr ∧ OwnL W1 wr [.row 3 1 (.slice (some ⟨gR, 0, none⟩) n cR) n ((forceL g k).map (.int .i64))]) (fun i _ _ => n + 1 - (intOf i).toNat)
    case atStart => exact ⟨0, gR, cR, by omega, rfl, rfl, hE, hO⟩
    case round =>
      clear hO hE
      obtain ⟨k, gR, cR, hk, rfl, rfl, hE, hO⟩ := hrel
      obtain ⟨W3, hW3⟩ : ∃ W, W = wr := ⟨_, rfl⟩; subst hW3
      by_cases hkn : k < n
      · have hrl := forceL_len g k
        rw [HGN.out] at hrl
        have hnz := next_zero g k (forceL g k) (by rw [hrl, HGN.out])
        have hne := next_end g k
        have hns := next_set g k (forceL g k)
        have hnm := next_same g k (forceL g k)
        have hng := fun s t => next_get g k (forceL g k) s (t := t)
        rw [HGN.out] at hne
        have hgo := fun s => goes_cond g (forceL g k) s
        have hfa : ∀ s, forceAt g k (forceL g k) s = if (forceL g k).getD s 0 < 0 ∧ goesAt g (forceL g k) s = true then (k : Int) + 1 else (forceL g k).getD s 0 := fun s => rfl
        have hsn := someF_snoc (forceL g k)
        have han := allF_snoc (forceL g k)
        generalize hr0 : forceL g k = r at *
        have HR := Lib.hid (And.intro hrl (And.intro hnz hne))
        have HS := Lib.hid (And.intro hns (And.intro hnm hng))
        have HGO := Lib.hid (And.intro hgo hfa)
        have HSN := Lib.hid (And.intro hsn han)
        clear hr0 hrl hnz hne hns hnm hng hgo hfa hsn han
        have hsz3 := hE.size
        go_upto_region 14 with (at_builtin; refine wpList_append_own2 rfl _ _ 37 rfl W1.heap.size 3 i3 (.int .i64 0) 1 8 Try.underlying37 hi3 hz3 hs3 hb3 rfl (by decide) (.slice (some ⟨W3.heap.size, 0, none⟩) 0 0) 0 [] rfl (own_mono (own_empty W3 3) hsz3) ⟨gR, 0, none⟩ n cR (r.map (.int .i64)) rfl (by simpa using HR.out.1) (World.ownsRow.cells ((hO.trans (alloc_ext _ _)).get 0 rfl) rfl) (ints_one _) (by unfold maxLen; omega) (by omega) (by simp; omega) ?_; intro v6 w6 hown6 hg6 hb6; rw [Nat.zero_add, List.nil_append] at hown6; obtain ⟨g12, c12, rfl⟩ := ownsRow_pos hown6 hn1)
        have hO6 : OwnL W1 w6 [.row 3 1 (.slice (some ⟨g12, 0, none⟩) n c12) n (nextAt g k r 0), .row 3 1 (.slice (some ⟨gR, 0, none⟩) n cR) n (r.map (.int .i64))] := by
          have h1 := hO.add (alloc_ext W3 (.cells #[] 3)) (A := .row 3 1 (.slice (some ⟨W3.heap.size, 0, none⟩) 0 0) 0 []) (own_empty W3 3)
          have h2 := h1.app 0 rfl hg6 hown6 hb6
          rw [← HR.out.2.1]
          exact h2
        clear hown6 hg6 hb6 hO hE hsz3
        have hE6 := hO6.ext
        go_wp2
        go_loopw [13] (fun i wr => ∃ s : Nat, s ≤ n ∧ i = .int .i64 s ∧ Ext W1 wr ∧ OwnL W1 wr [.row 3 1 (.slice (some ⟨g12, 0, none⟩) n c12) n (nextAt g k r s), .row 3 1 (.slice (some ⟨gR, 0, none⟩) n cR) n (r.map (.int .i64))]) (fun i _ => n - (intOf i).toNat)
        case atStart => exact ⟨0, by omega, rfl, hE6, hO6⟩
        case round =>
          clear hO6 hE6
          obtain ⟨s, hs, rfl, hE, hO⟩ := hrel
          obtain ⟨W4, hW4⟩ : ∃ W, W = wr := ⟨_, rfl⟩; subst hW4
          by_cases hsn : s < n
          · have hsm : s < m.rows.length := by rw [← HN.out]; exact hsn
            obtain ⟨b, o, us, cu, hv, hb, c0, hes⟩ := (hr.ext hE1).at_ hsm
            obtain rfl : A = some ⟨b, o, none⟩ := by injection hv
            clear hv
            have hre := row_eq hsm
            obtain ⟨Ae, rfl, hce, _, hme⟩ := hes
            unfold lenMax at hme
            rw [← hre] at hce hme c0
            have hfit : ∀ e ∈ m.row s, fitsB m e = true := fun e he => HV.out.fit _ (List.getElem_mem hsm) e (hre ▸ he)
            have hlen : ((m.row s).length : Int) = m.ins := by rw [hre]; exact HV.out.len _ (List.getElem_mem hsm)
            have HF := Lib.hid hfit
            have g0 : ∀ w', Ext W1 w' → w'.cell? ⟨b, o + s, none⟩ = some (.slice Ae (m.row s).length cu) := fun w' h => h.cell c0
            obtain ⟨el, hel⟩ : ∃ el, el = (m.row s).length := ⟨_, rfl⟩
            rw [← hel] at g0 hlen hme
            have k0' : ∀ w', Ext W1 w' → w'.cell? ⟨w.heap.size, 0, none⟩ = some (.int .i64 (el : Int)) := fun w' h => by rw [hlen]; exact k0 w' h
            have HEL := Lib.hid (And.intro hel hlen)
            have hel16 : el ≤ 16 := by omega
            clear c0 hre hfit hel hlen k0
            have k0 := k0'
            clear k0'
            have hcR : ∀ u, u < n → W4.cell? ⟨gR, u, none⟩ = some (.int .i64 (r.getD u 0)) := fun u hu => cell_own hO 1 rfl (ints_get (by rw [HR.out.1]; exact hu))
            have HCR := Lib.hid hcR
            clear hcR
            go_upto_block 6 with fail
            go_cut [14, 15, 16] (fun x y z wx => ∃ (sm al : Int) (M : Nat), x = .int .i64 sm ∧ y = .int .i64 al ∧ z = .int .i64 (M : Int) ∧ Hid (sm = b01 (someF r (g.sc s)) ∧ al = b01 (allF r (g.sc s)) ∧ M = (g.sc s).length) ∧ W4 = wx)
            case first =>
              --[f2
              go_wp2
              go_loop [17, 14, 15, 16] (fun i x y z => ∃ (j : Nat) (sm al : Int) (M : Nat), j ≤ el ∧ i = .int .i64 j ∧ x = .int .i64 sm ∧ y = .int .i64 al ∧ z = .int .i64 (M : Int) ∧ M ≤ j ∧ Hid (sm = b01 (someF r (sucE ((m.row s).take j))) ∧ al = b01 (allF r (sucE ((m.row s).take j))) ∧ M = (sucE ((m.row s).take j)).length)) (fun i _ _ _ => el - (intOf i).toNat)
              case atStart => exact ⟨0, 0, 1, 0, by omega, rfl, rfl, rfl, rfl, by omega, rfl, rfl, rfl⟩
              case round =>
                obtain ⟨j, sm, al, M, hj, rfl, rfl, rfl, rfl, hMj, hH⟩ := hrel
                by_cases hje : j < el
                · have hjr : j < (m.row s).length := by rw [← HEL.out.1]; exact hje
                  obtain ⟨be, oe, rfl, _, d0, _⟩ := hce.at_edge hjr
                  have d0 := hE.cell d0
                  have hfx := fit_to (HF.out _ (List.getElem_mem hjr))
                  have hno := sucE_none hjr
                  have hso := sucE_some hjr
                  have hjI : (j : Int) < (el : Int) := by omega
                  generalize (m.row s)[j].1 = x at *
                  have HNO := Lib.hid hno
                  have HSO := Lib.hid hso
                  clear hno hso
                  by_cases hx : x < 0
                  · have HX := Lib.hid hx
                    go_wp2
                    go_round
                    case rel => exact ⟨j + 1, sm, al, M, by omega, by go_num, rfl, rfl, rfl, by omega, by rw [HNO.out (by have := HX.out; omega)]; exact hH⟩
                    case measure => simp [intOf]; omega
                  · obtain ⟨u, rfl⟩ := Int.eq_ofNat_of_zero_le (show 0 ≤ x by omega)
                    have hun : u < n := by have := HN.out; omega
                    have hunI : (u : Int) < (n : Int) := by omega
                    have cu := HCR.out u hun
                    have hs2 := HSO.out (by omega)
                    rw [Int.toNat_natCast] at hs2
                    have HS2 := Lib.hid hs2
                    have ha := HSN.out.1 (sucE ((m.row s).take j)) u
                    have hb := HSN.out.2 (sucE ((m.row s).take j)) u
                    generalize r.getD u 0 = ru at *
                    have HA := Lib.hid (And.intro ha hb)
                    clear hs2 ha hb hx
                    by_cases hru : 0 ≤ ru
                    · have HRU := Lib.hid hru
                      go_wp2
                      go_round
                      case rel =>
                        refine ⟨j + 1, 1, al, M + 1, by omega, by go_num, rfl, rfl, by go_num, by omega, ?_⟩
                        show _ ∧ _ ∧ _
                        rw [HS2.out, HA.out.1, HA.out.2, decide_eq_true HRU.out, Bool.or_true, Bool.and_true]
                        exact ⟨rfl, hH.out.2.1, by rw [List.length_append, ← hH.out.2.2]; rfl⟩
                      case measure => simp [intOf]; omega
                    · have HRU := Lib.hid hru
                      go_wp2
                      go_round
                      case rel =>
                        refine ⟨j + 1, sm, 0, M + 1, by omega, by go_num, rfl, rfl, by go_num, by omega, ?_⟩
                        show _ ∧ _ ∧ _
                        rw [HS2.out, HA.out.1, HA.out.2, decide_eq_false HRU.out, Bool.or_false, Bool.and_false]
                        exact ⟨hH.out.1, rfl, by rw [List.length_append, ← hH.out.2.2]; rfl⟩
                      case measure => simp [intOf]; omega
                · have hje2 : j = (m.row s).length := by have := HEL.out.1; omega
                  have hH2 : Hid (sm = b01 (someF r (g.sc s)) ∧ al = b01 (allF r (g.sc s)) ∧ M = (g.sc s).length) := by
                    have := hH.out
                    rw [hje2, List.take_length] at this
                    rw [show g.sc s = sucE (m.row s) by rw [HG.out]; rfl]
                    exact this
                  clear hje2
                  go_wp2
                  go_meet
                  exact ⟨_, _, _, rfl, rfl, rfl, hH2, rfl⟩
              --]f2
            case rest =>
              obtain ⟨sm, al, M, rfl, rfl, rfl, hH, rfl⟩ := hcut
              have cs := HCR.out s hsn
              obtain ⟨bt, ot, rfl, ctt⟩ := HTB.out s hsn
              have ctt := ctt W4 (hE1.trans hE)
              have hgo := HGO.out.1 s
              rw [← hH.out.2.2] at hgo
              have hC : ∃ C : Bool, C = (decide (r.getD s 0 < 0) && condF (g.turn s) (sm == 1) (al == 1) M) ∧ (C = true ↔ (r.getD s 0 < 0 ∧ goesAt g r s = true)) := by
                refine ⟨_, rfl, ?_⟩
                rw [hgo, hH.out.1, hH.out.2.1]
                have hb : ∀ b : Bool, (b01 b == 1) = b := fun b => by cases b <;> rfl
                rw [hb, hb, Bool.and_eq_true, decide_eq_true_eq]
              obtain ⟨C, hC1, hC2⟩ := hC
              have HC1 := Lib.hid hC1
              have HC2 := Lib.hid hC2
              have hnx := hO.store 0 rfl s (.int .i64 ((k : Int) + 1))
              have hc12 := cell_own hO 0 rfl (HS.out.2.2 s s (by rw [HGN.out]; exact hsn))
              have hf12 := free_own (e := 3) hO 0 rfl s
              have HNX := Lib.hid hnx
              clear hgo hC1 hC2 hnx
              have hsI : (s : Int) < (n : Int) := by omega
              go_upto_region 27 with fail
              go_cut [101] (fun y wx => y = .bool C ∧ W4 = wx)
              case first =>
                --[f3
                generalize r.getD s 0 = R at *
                generalize g.turn s = T at *
                by_cases hR : R < 0
                · cases T with
                  | true =>
                    cases hb : (sm == 1) <;>
                    · go_wp2
                      go_meet
                      exact ⟨by rw [HC1.out, hb, decide_eq_true (by omega)]; rfl, rfl⟩
                  | false =>
                    cases hb : (al == 1) with
                    | false =>
                      go_wp2
                      go_meet
                      exact ⟨by rw [HC1.out, hb, decide_eq_true (by omega)]; rfl, rfl⟩
                    | true =>
                      by_cases hm0 : 0 < M
                      · have hd : decide (0 < (M : Int)) = true := by simpa using hm0
                        go_wp2
                        go_meet
                        exact ⟨by rw [HC1.out, hb, decide_eq_true (by omega)]; unfold condF; rw [decide_eq_true hm0]; rfl, rfl⟩
                      · have hd : decide (0 < (M : Int)) = false := by simpa using hm0
                        have HM0 := Lib.hid hm0
                        go_wp2
                        go_meet
                        exact ⟨by rw [HC1.out, hb, decide_eq_true (by omega)]; unfold condF; rw [decide_eq_false HM0.out]; rfl, rfl⟩
                · go_wp2
                  go_meet
                  exact ⟨by rw [HC1.out, decide_eq_false (by omega), Bool.false_and], rfl⟩
                --]f3
              case rest =>
                obtain ⟨rfl, rfl⟩ := hcut
                clear ctt cs
                have hfa := HGO.out.2 s
                cases C with
                | false =>
                  have hf2 : forceAt g k r s = r.getD s 0 := by
                    rw [hfa]; exact if_neg (fun h => by have := HC2.out.2 h; cases this)
                  have h5 := HS.out.2.1 s hf2
                  have H5 := Lib.hid h5
                  clear hfa hf2 h5
                  go_wp2
                  go_roundw
                  case rel => exact ⟨s + 1, by omega, by go_num, hE, by rw [← H5.out]; exact hO⟩
                  case measure => simp [intOf]; omega
                | true =>
                  have hf2 : forceAt g k r s = (k : Int) + 1 := by
                    rw [hfa]; exact if_pos (HC2.out.1 rfl)
                  have h5 := HS.out.1 s
                  rw [hf2] at h5
                  have H5 := Lib.hid h5
                  clear hfa hf2 h5
                  go_wp2
                  go_roundw
                  case rel =>
                    have h6 : OwnL W1 (W4.setCell ⟨g12, s, none⟩ (.int .i64 ((k : Int) + 1))) [.row 3 1 (.slice (some ⟨g12, 0, none⟩) n c12) n (nextAt g k r (s + 1)), .row 3 1 (.slice (some ⟨gR, 0, none⟩) n cR) n (r.map (.int .i64))] := by
                      rw [← H5.out]; exact HNX.out
                    exact ⟨s + 1, by omega, by go_num, h6.ext, h6⟩
                  case measure => simp [intOf]; omega
          · have hse : s = n := by omega
            subst hse
            have hfin := HR.out.2.2
            rw [hfin] at hO
            have HO := Lib.hid hO
            clear hfin hO
            go_wp2
            go_roundw
            case rel => exact ⟨k + 1, g12, c12, by omega, by go_num, rfl, hE, HO.out.swap.drop⟩
            case measure => simp [intOf]; omega
      · have hke : k = n := by omega
        subst hke
        have hi : ∃ c, IntsC W3 (.slice (some ⟨gR, 0, none⟩) k cR) (rankG m ts ss) c := by
          have h1 := ints_of_owns (w := W3) (base := W1.heap.size) (e := 3) (v := .slice (some ⟨gR, 0, none⟩) k cR) (xs := forceL g k) (by rw [forceL_len, HGN.out]; exact hO.get 0 rfl) (by rw [forceL_len, HGN.out]; unfold lenMax; omega)
          rw [HG.out] at h1
          unfold rankG
          rw [← HN.out]
          exact h1
        have HI := Lib.hid hi
        clear hi
        go_wp2
        go_ret
        obtain ⟨c', h⟩ := HI.out
        exact ⟨⟨_, c', rfl, h⟩, hE1.trans hE⟩
#print axioms force_any
end Go.Proofs.Yteadkafeabhhhaa
