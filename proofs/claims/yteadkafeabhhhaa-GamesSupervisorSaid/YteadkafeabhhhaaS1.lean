/- gauntletref32.Supervisor 25: rounds without an early end, then the states kept, by linear search. (under way) -/
import Derived.Test.YteadkafeabhhhaaP1
import Derived.Test.YteadkafeabhhhaaF2
import Derived.Test.YteadkafeabhhhaaD1
import Derived.Test.YteadkafeabhhhaaS0
namespace Go.Proofs.Yteadkafeabhhhaa
open Go.RowKit
set_option linter.unusedVariables false
set_option linter.unusedSimpArgs false
attribute [local go_sem] Oper.quietV quietV Oper.gives givesV ext_refl_iff ext_alloc_iff ext_drew_iff ext_drewN_iff

theorem ordN_pre (d : List Bool) (o : List Nat) (e : Int × Int) : o <+: ordN d o e := by
  unfold ordN; split
  · split
    · exact List.prefix_rfl
    · exact List.prefix_append _ _
  · exact List.prefix_rfl
theorem ordAt_pre (d : List Bool) (row : List (Int × Int)) (o : List Nat) : ∀ k, o <+: ordAt d row o k
  | 0 => List.prefix_rfl
  | k + 1 => (ordAt_pre d row o k).trans (ordN_pre _ _ _)
def refRes (m : Mach) (th bad : List Bool) : Mach := if (dropL m th bad).getD 0 false then ⟨0, 0, []⟩ else supM m th bad
def refOk (m : Mach) (th bad : List Bool) : Int := if (dropL m th bad).getD 0 false then 0 else 1
def RefSupP (m : Mach) (th bad : List Bool) (w : World) (e : Ending) (w' : World) : Prop :=
  (∃ rv c, e = .returned (.tuple #[.agg #[.int .i64 (refRes m th bad).ins, .int .i64 (refRes m th bad).outs, rv], .int .i64 (refOk m th bad)]) ∧ RowsC w' rv (refRes m th bad).rows c) ∧ Ext w w'
theorem ordV_at {o : List Nat} {j : Nat} (h : j < o.length) : (ordV o)[j]? = some (.int .i64 (o[j] : Int)) := by unfold ordV; rw [List.getElem?_map, List.getElem?_eq_getElem h]; rfl
theorem idx_here {o : List Nat} {u j : Nat} (h : j ≤ o.idxOf u) (hj : j < o.length) (he : o[j] = u) : j = o.idxOf u := by
  induction o generalizing j with
  | nil => simp at hj
  | cons a l ih =>
    by_cases ha : a = u
    · subst ha; simp at h; rw [h]; simp
    · have hb : (a == u) = false := by simpa using ha
      rw [List.idxOf_cons, hb] at h ⊢
      cases j with
      | zero => exact absurd he ha
      | succ j =>
        simp only [cond_false] at h ⊢
        have h3 := ih (j := j) (by omega) (by simpa using hj) (by simpa using he)
        omega
theorem idx_next {o : List Nat} {u j : Nat} (h : j ≤ o.idxOf u) (hj : j < o.length) (hne : ¬ o[j] = u) : j + 1 ≤ o.idxOf u := by
  have h1 : j ≠ o.idxOf u := by
    intro he
    have h2 : o.idxOf u < o.length := by omega
    have h3 := List.getElem_idxOf h2
    exact hne (by simp only [he]; exact h3)
  omega
theorem refsup_fin {m : Mach} {th bad d : List Bool} {w W : World} {B k c : Nat} {A : Option Addr} {vs : List Value} (hV : Valid m) (hs : refRes m th bad = supM m th bad ∧ refOk m th bad = 1)
    (hres : supM m th bad = { ins := m.ins, outs := m.outs, rows := (List.range k).map (supR m d) }) (hk : k ≤ 64) (hkc : k ≤ c) (hE : Ext w W)
    (h : OwnRows W B 53 52 2 (.slice A k c) vs ((List.range k).map (fun j => eRow (supR m d j)))) :
    RefSupP m th bad w (.returned (.tuple #[.agg #[.int .i64 m.ins, .int .i64 m.outs, .slice A k c], .int .i64 1])) W := by
  refine ⟨⟨.slice A k c, c, by rw [hs.1, hs.2, hres], ?_⟩, hE⟩
  rw [hs.1, hres]
  have h1 : ((List.range k).map (supR m d)).length = k := by simp
  have h3 : OwnRows W B 53 52 2 (.slice A ((List.range k).map (supR m d)).length c) vs (((List.range k).map (supR m d)).map eRow) := by
    rw [h1, List.map_map]; exact h
  obtain ⟨A2, vs2, hv, hc, hl, hrow, _, hlm⟩ := rows_of_own h3 (by rw [h1]; omega) (fun r hr => by
    obtain ⟨j, _, rfl⟩ := List.mem_map.1 hr
    unfold supR
    split
    · rename_i s hs
      unfold rowN; rw [List.length_map, List.length_range]; have := row_le hV s; omega
    · simp)
  rw [h1] at hv
  injection hv with ha
  subst ha
  exact ⟨A, vs2, by rw [h1], hc, hl, hrow, by rw [h1]; exact hkc, hlm⟩
set_option maxRecDepth 100000 in
set_option maxHeartbeats 4000000 in
theorem refSupervisor_any (w : World) (mv tv bv : Value) (m : Mach) (hV : Valid m) (hm : MachV w mv m) (th bad : List Bool) (ct cb : Nat) (ht : BoolsC w tv th ct) (hb : BoolsC w bv bad cb) (hl1 : (th.length : Int) = m.ins) (hl2 : bad.length = m.rows.length) :
    Calls Try.prog 25 #[mv, tv, bv] w (RefSupP m th bad w) := by
  obtain ⟨rv, c, rfl, hr⟩ := hm
  obtain ⟨A, vs0, rfl, _, _, _, _, hrm⟩ := id hr
  obtain ⟨At, rfl, htc, _, htm⟩ := id ht
  obtain ⟨Ab, rfl, hbc, _, hbm⟩ := id hb
  unfold lenMax at hrm htm hbm
  have hsz := hV.size
  go_enter Try.func25, Try.ntmps25
  go_upto_region 1 with fail
  refine wp_named ?_
  intro W1 hW1
  obtain ⟨Wb, hWb⟩ : ∃ Wb, Wb = w.alloc (.cells #[.int .i64 m.ins, .int .i64 m.outs, .slice A m.rows.length c] 29) := ⟨_, rfl⟩
  rw [← hWb] at hW1
  have hEb : Ext w Wb := by rw [hWb]; exact alloc_ext _ _
  have hbs : Wb.heap.size = w.heap.size + 1 := by rw [hWb]; simp
  have k0 : ∀ w', Ext Wb w' → w'.cell? ⟨w.heap.size, 0, none⟩ = some (.int .i64 m.ins) := fun w' h => h.cell (by rw [hWb]; simp [go_sem])
  have k1 : ∀ w', Ext Wb w' → w'.cell? ⟨w.heap.size, 1, none⟩ = some (.int .i64 m.outs) := fun w' h => h.cell (by rw [hWb]; simp [go_sem])
  have k2 : ∀ w', Ext Wb w' → w'.cell? ⟨w.heap.size, 2, none⟩ = some (.slice A m.rows.length c) := fun w' h => h.cell (by rw [hWb]; simp [go_sem])
  have hO1 : OwnL Wb W1 [.blk (w.heap.size + 1) (.cells #[.int .i64 0, .int .i64 0, .slice none 0 0] 29)] := by
    rw [hW1]; exact (OwnL.nil (Ext.refl Wb)).add (alloc_ext _ _) (A := .blk (w.heap.size + 1) (.cells #[.int .i64 0, .int .i64 0, .slice none 0 0] 29)) ⟨by omega, by rw [← hbs]; exact heap_alloc_new _ _⟩
  clear hW1 hWb hbs
  have hE1 := hO1.ext
  have HV := Lib.hid hV
  obtain ⟨n, hn⟩ : ∃ n, n = m.rows.length := ⟨_, rfl⟩
  rw [← hn] at hl2 k2 hr hsz hrm
  rw [← hn, hl2]
  have hn64 : n ≤ 64 := hsz.2
  have hn1 : 1 ≤ n := hsz.1
  have HN := Lib.hid (And.intro hn (And.intro hl2 hl1))
  have hcb : Cells W1 Ab (bad.map .bool) := hbc.ext (hEb.trans hE1)
  obtain ⟨i4, hi4, hz4, hs4, hb4⟩ := info_parts bool_info
  clear hn hl2 hl1 hV ht hb
  obtain ⟨b0, o0, hAb, _, _⟩ := hcb.at_bool (k := 0) (by rw [HN.out.2.1]; omega)
  subst hAb
  have hO2 : OwnL Wb (W1.alloc (.cells #[] 4)) [.row 4 1 (.slice (some ⟨W1.heap.size, 0, none⟩) 0 0) 0 [], .blk (w.heap.size + 1) (.cells #[.int .i64 0, .int .i64 0, .slice none 0 0] 29)] :=
    hO1.add (alloc_ext W1 _) (A := .row 4 1 (.slice (some ⟨W1.heap.size, 0, none⟩) 0 0) 0 []) (World.ownsRow_lit (base := W1.heap.size) (e := 4) (size := 1) W1 #[] 0 (Nat.le_refl _) (by unfold maxLen; omega) rfl)
  have hown2 : (W1.alloc (.cells #[] 4)).ownsRow Wb.heap.size 4 1 (.slice (some ⟨W1.heap.size, 0, none⟩) 0 0) 0 [] := hO2.get 0 rfl
  have hbl : (bad.map Value.bool).length = n * 1 := by rw [List.length_map, HN.out.2.1]; omega
  have hnw : ∀ (j : Nat) (u : Value), (bad.map Value.bool)[j]? = some u → (W1.alloc (.cells #[] 4)).cell? ((⟨b0, o0, none⟩ : Addr).add j) = some u := fun j u hj => by
    obtain ⟨b1, o1, h1, _, h2⟩ := (hcb.ext (alloc_ext W1 (.cells #[] 4))) (by rw [hbl]; omega)
    cases h1
    rw [show (⟨b0, o0, none⟩ : Addr).add j = ⟨b0, o0 + j, none⟩ by simp [Addr.add]]; exact h2 j u hj
  have hone : ∀ u ∈ bad.map Value.bool, u.oneCell' = true := fun u hu => by obtain ⟨x, _, rfl⟩ := List.mem_map.1 hu; rfl
  have hsz1 := hO2.ext.size
  go_upto_region 2 with (at_builtin; refine wpList_append_own2 rfl _ _ 30 rfl Wb.heap.size 4 i4 (.bool false) 1 1 Try.underlying30 hi4 hz4 hs4 hb4 rfl (by decide) (.slice (some ⟨W1.heap.size, 0, none⟩) 0 0) 0 [] rfl hown2 ⟨b0, o0, none⟩ n cb (bad.map .bool) rfl hbl hnw hone (by unfold maxLen; omega) (by omega) hsz1 ?_; intro v6 w6 hown6 hg6 hb6; rw [Nat.zero_add, List.nil_append] at hown6; obtain ⟨g6, c6, rfl⟩ := ownsRow_pos hown6 (by omega))
  have hO6 := hO2.app 0 rfl hg6 hown6 hb6
  have hO6 : OwnL Wb w6 [.row 4 1 (.slice (some ⟨g6, 0, none⟩) n c6) n (bad.map .bool), .blk (w.heap.size + 1) (.cells #[.int .i64 0, .int .i64 0, .slice none 0 0] 29)] := hO6
  clear hO2 hown2 hnw hone hsz1 hown6 hg6 hb6 hO1 hcb hbl
  have hE6 := hO6.ext
  have hb0 := Lib.hid (sound_bad (m := m) (th := th) (bad := bad) (by rw [HN.out.2.1, HN.out.1]))
  have htb : Cells Wb At (th.map .bool) := htc.ext hEb
  have HTB := Lib.hid htb
  have HR := Lib.hid (hr.ext hEb)
  clear htb htc hr hbc
  go_upto_block 0 with fail
  go_cut [] (fun wx => OwnL Wb wx [.row 4 1 (.slice (some ⟨g6, 0, none⟩) n c6) n ((dropL m th bad).map .bool), .blk (w.heap.size + 1) (.cells #[.int .i64 0, .int .i64 0, .slice none 0 0] 29)])
  case first =>
    --[s1
    go_wp2
    go_loopw [9] (fun i wr => ∃ (r : Nat) (d : List Bool), i = .int .i64 r ∧ r ≤ n ∧ Hid (SoundD m th bad d ∧ (ClosedD m th bad d ∨ r ≤ cntD d)) ∧ Ext Wb wr ∧ OwnL Wb wr [.row 4 1 (.slice (some ⟨g6, 0, none⟩) n c6) n (d.map .bool), .blk (w.heap.size + 1) (.cells #[.int .i64 0, .int .i64 0, .slice none 0 0] 29)]) (fun i _ => n - (intOf i).toNat)
    case atStart => exact ⟨0, bad, rfl, by omega, ⟨hb0.out, Or.inr (Nat.zero_le _)⟩, hE6, hO6⟩
    case round =>
      clear hO6 hE6 hb0
      obtain ⟨r, d0, rfl, hrn, hI, hE, hO⟩ := hrel
      obtain ⟨W7, hW7⟩ : ∃ W, W = wr := ⟨_, rfl⟩; subst hW7
      by_cases hlt : r < n
      · have hltI : (r : Int) < (n : Int) := by omega
        have HP : Hid (PassD m th bad r d0 d0 0 0) := pass_start hI.out.1 hI.out.2
        go_upto_block 2 with fail
        go_wp2
        go_loopw [10] (fun i wr => ∃ (s : Nat) (d : List Bool), i = .int .i64 s ∧ s ≤ n ∧ Hid (PassD m th bad r d0 d s 0) ∧ Ext Wb wr ∧ OwnL Wb wr [.row 4 1 (.slice (some ⟨g6, 0, none⟩) n c6) n (d.map .bool), .blk (w.heap.size + 1) (.cells #[.int .i64 0, .int .i64 0, .slice none 0 0] 29)]) (fun i _ => n - (intOf i).toNat)
        case atStart => exact ⟨0, d0, rfl, by omega, HP, hE, hO⟩
        case round =>
          clear hO hE HP
          obtain ⟨s, d, rfl, hsn, hP, hE, hO⟩ := hrel
          obtain ⟨W8, hW8⟩ : ∃ W, W = wr := ⟨_, rfl⟩; subst hW8
          by_cases hsl : s < n
          · have hslI : (s : Int) < (n : Int) := by omega
            have hsm : s < m.rows.length := by rw [← HN.out.1]; exact hsl
            obtain ⟨b, o, us, cu, hv, hbb, c0, hes⟩ := HR.out.at_ hsm
            obtain rfl : A = some ⟨b, o, none⟩ := by injection hv
            clear hv
            have hre := row_eq hsm
            obtain ⟨Ae, rfl, hce, _, hme⟩ := hes
            unfold lenMax at hme
            rw [← hre] at hce hme c0
            have hfit : ∀ e ∈ m.row s, fitsB m e = true := fun e he => HV.out.fit _ (List.getElem_mem hsm) e (hre ▸ he)
            have hlen : ((m.row s).length : Int) = m.ins := by rw [hre]; exact HV.out.len _ (List.getElem_mem hsm)
            have HF := Lib.hid hfit
            have g0 : ∀ w', Ext Wb w' → w'.cell? ⟨b, o + s, none⟩ = some (.slice Ae (m.row s).length cu) := fun w' h => h.cell c0
            obtain ⟨el, hel⟩ : ∃ el, el = (m.row s).length := ⟨_, rfl⟩
            rw [← hel] at g0 hme hlen
            have HEL := Lib.hid (And.intro hel hlen)
            clear hre hfit hel hlen c0
            go_upto_block 4 with fail
            go_wp2
            go_loopw [11] (fun i wr => ∃ (j : Nat) (d : List Bool), i = .int .i64 j ∧ j ≤ el ∧ Hid (PassD m th bad r d0 d s j) ∧ Ext Wb wr ∧ OwnL Wb wr [.row 4 1 (.slice (some ⟨g6, 0, none⟩) n c6) n (d.map .bool), .blk (w.heap.size + 1) (.cells #[.int .i64 0, .int .i64 0, .slice none 0 0] 29)]) (fun i _ => el - (intOf i).toNat)
            case atStart => exact ⟨0, d, rfl, by omega, hP, hE, hO⟩
            case round =>
              clear hO hE hP
              obtain ⟨j, d2, rfl, hjn, hP2, hE, hO⟩ := hrel
              obtain ⟨W9, hW9⟩ : ∃ W, W = wr := ⟨_, rfl⟩; subst hW9
              have k0e : W9.cell? ⟨w.heap.size, 0, none⟩ = some (.int .i64 (el : Int)) := by rw [HEL.out.2]; exact k0 W9 hE
              by_cases hjl : j < el
              · have hjI : (j : Int) < (el : Int) := by omega
                have hjM : (j : Int) < m.ins := by rw [← HEL.out.2]; exact hjI
                --[s2
                have hir : j < (m.row s).length := by rw [← HEL.out.1]; exact hjl
                obtain ⟨be, oe, rfl, _, d0', d1'⟩ := hce.at_edge hir
                have d0' := hE.cell d0'
                have hfx := fit_to (HF.out _ (List.getElem_mem hir))
                have hge : (m.row s).getD j (0, 0) = (m.row s)[j] := by simp [List.getD, hir]
                have hth : j < th.length := by have := HN.out.2.2; have := HEL.out.2; omega
                obtain ⟨bt, ot, rfl, _, tc⟩ := HTB.out.at_bool hth
                have tc := hE.cell tc
                have htg : th.getD j false = th[j] := by simp [List.getD, hth]
                generalize hxe : (m.row s)[j].1 = x at *
                generalize th[j] = tj at *
                have HX : Hid (th.getD j false = tj ∧ ((m.row s).getD j (0, 0)).1 = x) := ⟨htg, by rw [hge]; exact hxe⟩
                have gs := g0 W9 hE
                have ks := k2 W9 hE
                clear htg hge hxe d1'
                cases tj with
                | false =>
                  go_wp2
                  go_roundw
                  case rel => exact ⟨j + 1, d2, by go_num, by omega, pass_keep hP2.out (by rw [HX.out.1]; simp), hE, hO⟩
                  case measure => simp [intOf]; omega
                | true =>
                  by_cases hx : x = -1
                  · have HM := Lib.hid hx
                    subst hx
                    go_wp2
                    go_roundw
                    case rel => exact ⟨j + 1, d2, by go_num, by omega, pass_keep hP2.out (by rw [HX.out.2]; simp), hE, hO⟩
                    case measure => simp [intOf]; omega
                  · obtain ⟨u, rfl⟩ := Int.eq_ofNat_of_zero_le (show 0 ≤ x by omega)
                    have hun : u < n := by have := HN.out.1; omega
                    have hd2 : d2.length = n := by rw [hP2.out.snd.len, HN.out.1]
                    have hdg : (d2.map Value.bool)[u]? = some (.bool (d2.getD u false)) := by rw [List.getElem?_map, List.getElem?_eq_getElem (by omega)]; simp [List.getD, show u < d2.length by omega]
                    have cu' := cell_own hO 0 rfl hdg
                    have hu0 : (0 : Int) ≤ (u : Int) := by omega
                    have HU := Lib.hid hun
                    cases hdu : d2.getD u false with
                    | false =>
                      rw [hdu] at cu'
                      go_wp2
                      go_roundw
                      case rel => exact ⟨j + 1, d2, by go_num, by omega, pass_keep hP2.out (by rw [HX.out.2, Int.toNat_natCast, hdu]; simp), hE, hO⟩
                      case measure => simp [intOf]; omega
                    | true =>
                      rw [hdu] at cu'
                      have hst := hO.store 0 rfl s (.bool true)
                      have hON : OwnL Wb (W9.setCell ⟨g6, s, none⟩ (.bool true)) [.row 4 1 (.slice (some ⟨g6, 0, none⟩) n c6) n ((d2.set s true).map .bool), .blk (w.heap.size + 1) (.cells #[.int .i64 0, .int .i64 0, .slice none 0 0] 29)] := by rw [List.map_set]; exact hst
                      have HON := Lib.hid hON
                      have hsg : (d2.map Value.bool)[s]? = some (.bool (d2.getD s false)) := by rw [List.getElem?_map, List.getElem?_eq_getElem (by omega)]; simp [List.getD, show s < d2.length by omega]
                      have cs' := cell_own hO 0 rfl hsg
                      have fs' := free_own (e := 4) hO 0 rfl s
                      have hps := pass_set hP2.out hsm hir (by rw [HX.out.1]) (by rw [HX.out.2]; omega) (by rw [HX.out.2, Int.toNat_natCast, ← HN.out.1]; exact hun) (by rw [HX.out.2, Int.toNat_natCast]; exact hdu)
                      have HPS := Lib.hid hps
                      clear hst hON hsg hps hdg hdu
                      go_wp2
                      go_roundw
                      case rel => exact ⟨j + 1, d2.set s true, by go_num, by omega, HPS.out, HON.out.ext, HON.out⟩
                      case measure => simp [intOf]; omega
                --]s2
              · have hje : j = (m.row s).length := by rw [← HEL.out.1]; omega
                have hjM : ¬ (j : Int) < m.ins := by rw [← HEL.out.2]; omega
                have hpr : Hid (PassD m th bad r d0 d2 (s + 1) 0) := pass_row (by have := hP2.out; rw [hje] at this; exact this)
                clear hje
                go_wp2
                go_roundw
                case rel => exact ⟨s + 1, d2, by go_num, by omega, hpr.out, hE, hO⟩
                case measure => simp [intOf]; omega
          · have hse : s = n := by omega
            have hI2 := pass_end (by have := hP.out; rw [hse, HN.out.1] at this; exact this)
            have HI2 := Lib.hid hI2
            clear hI2 hse
            go_wp2
            go_roundw
            case rel => exact ⟨r + 1, d, by go_num, by omega, HI2.out, hE, hO⟩
            case measure => simp [intOf]; omega
      · have hre : r = n := by omega
        have hd : d0 = dropL m th bad := pass_all HV.out (by rw [HN.out.2.1, HN.out.1]) hI.out.1 (by have := hI.out.2; rw [hre, HN.out.1] at this; exact this)
        have HD := Lib.hid hd
        clear hd hre
        go_wp2
        go_meet
        rw [← HD.out]
        exact hO
    --]s1
  case rest =>
    have hO := hcut
    clear hcut hO6 hE6
    have hE := hO.ext
    have hdl : (dropL m th bad).length = n := by rw [(drop_both (th := th) HV.out (by rw [HN.out.2.1, HN.out.1])).1.len, HN.out.1]
    have hdg : ((dropL m th bad).map Value.bool)[0]? = some (.bool ((dropL m th bad).getD 0 false)) := by rw [List.getElem?_map, List.getElem?_eq_getElem (by omega)]; simp [List.getD, show 0 < (dropL m th bad).length by omega]
    have c0 := cell_own hO 0 rfl hdg
    obtain ⟨D, hD⟩ : ∃ D, D = dropL m th bad := ⟨_, rfl⟩
    rw [← hD] at hO c0 hdl
    have HD := Lib.hid (And.intro hD hdl)
    clear hdg hD hdl
    cases hd0 : D.getD 0 false with
    | true =>
      rw [hd0] at c0
      have hrr : refRes m th bad = ⟨0, 0, []⟩ ∧ refOk m th bad = 0 := by unfold refRes refOk; rw [← HD.out.1, hd0]; exact ⟨rfl, rfl⟩
      have HRR := Lib.hid hrr
      clear hrr hd0
      have x0 := cell_of_blk (hO.get 1 rfl).2 0 rfl
      have x1 := cell_of_blk (hO.get 1 rfl).2 1 rfl
      have x2 := cell_of_blk (hO.get 1 rfl).2 2 rfl
      have y0 := free_of_blk (hO.get 1 rfl).2
      have hO3 := ((hO.put 1 rfl 0 (.int .i64 0)).put 1 rfl 1 (.int .i64 0)).put 1 rfl 2 (.slice none 0 0)
      have z0 := cell_of_blk (hO3.get 1 rfl).2 0 rfl
      have z1 := cell_of_blk (hO3.get 1 rfl).2 1 rfl
      have z2 := cell_of_blk (hO3.get 1 rfl).2 2 rfl
      have HO3 := Lib.hid hO3
      clear hO3
      go_wp2
      refine bodyPost_ret (v := .tuple #[.agg #[.int .i64 0, .int .i64 0, .slice none 0 0], .int .i64 0]) (by simp [results, Try.f25, go_sem, z0, z1, z2]) rfl ?_
      exact ⟨⟨.slice none 0 0, 0, by rw [HRR.out.1, HRR.out.2], by rw [HRR.out.1]; exact rows_nil _⟩, hEb.trans HO3.out.ext⟩
    | false =>
      rw [hd0] at c0
      have hres : refRes m th bad = supM m th bad ∧ refOk m th bad = 1 := by unfold refRes refOk; rw [← HD.out.1, hd0]; exact ⟨rfl, rfl⟩
      have hsm : supM m th bad = { ins := m.ins, outs := m.outs, rows := (List.range (supEnd m D (m.rows.length + 1) 0)).map (supR m D) } := by unfold supM; rw [← HD.out.1]
      have HRES := Lib.hid (And.intro hres hsm)
      obtain ⟨i3, hi3, hz3, hs3, hb3⟩ := info_parts int_info
      obtain ⟨i52, hi52, hz52, hs52, hb52⟩ := info_parts edge_info
      obtain ⟨i53, hi53, hz53, hs53, hb53⟩ := info_parts slices_info
      clear hres hsm hd0
      go_upto_region 17 with fail
      refine wp_named ?_
      intro W6 hW6
      have hO6 : OwnL Wb W6 [.blk wc.heap.size (.cells #[.int .i64 m.ins, .int .i64 m.outs, .slice none 0 0] 29), .row 4 1 (.slice (some ⟨g6, 0, none⟩) n c6) n (D.map .bool), .blk (w.heap.size + 1) (.cells #[.int .i64 0, .int .i64 0, .slice none 0 0] 29)] := by
        rw [hW6]
        exact hO.add (alloc_ext _ _) (A := .blk wc.heap.size (.cells #[.int .i64 m.ins, .int .i64 m.outs, .slice none 0 0] 29)) ⟨Nat.le_refl _, heap_alloc_new _ _⟩
      clear hW6 hO c0 hE
      generalize wc.heap.size = bo at *
      go_upto_region 18 with fail
      refine wp_named ?_
      intro W7 hW7
      have hO7 : OwnL Wb W7 [.rows 53 52 2 (.slice none 0 0) [] [], .row 3 1 (.slice (some ⟨W6.heap.size, 0, none⟩) 1 1) 1 (ordV (supO m D 0)), .blk bo (.cells #[.int .i64 m.ins, .int .i64 m.outs, (.slice none 0 0)] 29), .row 4 1 (.slice (some ⟨g6, 0, none⟩) n c6) n (D.map .bool), .blk (w.heap.size + 1) (.cells #[.int .i64 0, .int .i64 0, .slice none 0 0] 29)] := by
        rw [hW7]
        refine (hO6.add (alloc_ext W6 _) (A := .row 3 1 (.slice (some ⟨W6.heap.size, 0, none⟩) 1 1) 1 (ordV (supO m D 0))) ?_).add (Ext.refl _) (A := .rows 53 52 2 (.slice none 0 0) [] []) ?_
        · exact World.ownsRow_lit (base := W6.heap.size) (e := 3) (size := 1) W6 #[.int .i64 0] 1 (Nat.le_refl _) (by unfold maxLen; omega) rfl
        · exact ⟨World.ownsRow_nil _ _ _ _, rfl, fun j u r h => by simp at h, fun i j u u' h => by simp at h, fun j u h => by simp at h⟩
      clear hW7 hO6
      generalize W6.heap.size = go at *
      have hE7 := hO7.ext
      go_wp2
      go_loopw [15, 14] (fun i v wr => ∃ (k : Nat) (gv cv : Nat) (rv : Value) (vs : List Value), i = .int .i64 k ∧ k ≤ (supO m D k).length ∧ v = .slice (some ⟨gv, 0, none⟩) (supO m D k).length cv ∧ Hid (supEnd m D (m.rows.length + 1) 0 = supEnd m D (m.rows.length + 1 - k) k) ∧ Ext Wb wr ∧ OwnL Wb wr [.rows 53 52 2 rv vs ((List.range k).map (fun j => eRow (supR m D j))), .row 3 1 v (supO m D k).length (ordV (supO m D k)), .blk bo (.cells #[.int .i64 m.ins, .int .i64 m.outs, rv] 29), .row 4 1 (.slice (some ⟨g6, 0, none⟩) n c6) n (D.map .bool), .blk (w.heap.size + 1) (.cells #[.int .i64 0, .int .i64 0, .slice none 0 0] 29)]) (fun i _ _ => 65 - (intOf i).toNat)
      case atStart => exact ⟨0, go, 1, _, _, rfl, by simp [supO], rfl, rfl, hE7, hO7⟩
      case round =>
        clear hO7 hE7
        obtain ⟨k, gv, cv, rv, vs, rfl, hk, rfl, hC, hE, hO⟩ := hrel
        obtain ⟨W8, hW8⟩ : ∃ W, W = wr := ⟨_, rfl⟩; subst hW8
        have hI := oinv_sup HV.out D k
        have hle := oinv_len hI
        rw [← HN.out.1] at hle
        have hOR : OwnRows W8 Wb.heap.size 53 52 2 rv vs ((List.range k).map (fun j => eRow (supR m D j))) := hO.get 0 rfl
        have hvs : vs.length = k := by rw [hOR.len]; simp
        obtain ⟨Arv, crv, rfl, hcr, _⟩ := cells_of_owns hOR.own
        rw [hvs] at hO hcr
        have HVS := Lib.hid hvs
        clear hvs hOR
        by_cases hkl : k < (supO m D k).length
        ·
          --[r1
          obtain ⟨s, hs⟩ : ∃ s, (supO m D k)[k]? = some s := ⟨_, List.getElem?_eq_getElem hkl⟩
          have hce2 := supEnd_step HV.out (d := D) hkl
          have hsu : supO m D (k + 1) = ordAt D (m.row s) (supO m D k) (m.row s).length := by
            conv => lhs; unfold supO
            rw [hs]
          have hsR : supR m D k = rowN D (m.row s) (supO m D k) (m.row s).length := by unfold supR; rw [hs]
          have hmem := List.mem_of_getElem? hs
          have hsm := hI.lt s hmem
          generalize hob : supO m D k = ob at *
          have hsn : s < n := by rw [HN.out.1]; exact hsm
          have hog : (ordV ob)[k]? = some (.int .i64 (s : Int)) := by unfold ordV; rw [List.getElem?_map, hs]; rfl
          have hCn : Hid (supEnd m D (m.rows.length + 1) 0 = supEnd m D (m.rows.length + 1 - (k + 1)) (k + 1)) := by show _ = _; rw [hC.out, hce2]
          obtain ⟨b, o, us, cu, hv, hb, c0, hes⟩ := HR.out.at_ hsm
          obtain rfl : A = some ⟨b, o, none⟩ := by injection hv
          clear hv
          have hre := row_eq hsm
          obtain ⟨Ae, rfl, hce, _, hme⟩ := hes
          unfold lenMax at hme
          rw [← hre] at hce hme c0
          have hfit : ∀ e ∈ m.row s, fitsB m e = true := fun e he => HV.out.fit _ (List.getElem_mem hsm) e (hre ▸ he)
          have hlen : ((m.row s).length : Int) = m.ins := by rw [hre]; exact HV.out.len _ (List.getElem_mem hsm)
          have HF := Lib.hid hfit
          have g0 : ∀ w', Ext Wb w' → w'.cell? ⟨b, o + s, none⟩ = some (.slice Ae (m.row s).length cu) := fun w' h => h.cell c0
          obtain ⟨el, hel⟩ : ∃ el, el = (m.row s).length := ⟨_, rfl⟩
          rw [← hel] at g0 hme hlen hsu hsR
          obtain ⟨F, hFd⟩ : ∃ F : Nat → Int × Int, F = fun i => edgeN D (ordAt D (m.row s) ob i) ((m.row s).getD i (0, 0)) := ⟨_, rfl⟩
          have hrow : eRow (supR m D k) = (el, ((List.range el).map F).flatMap edgeCells) := by
            rw [hsR, hFd]; unfold eRow rowN; simp
          have HEL := Lib.hid (And.intro hel hlen)
          have HSU := Lib.hid (And.intro hsu hrow)
          have HFD := Lib.hid hFd
          have HSS := Lib.hid (And.intro hs hmem)
          have hins := HV.out.ins
          have hel16 : el ≤ 16 := by omega
          have hel1 : 1 ≤ el := by omega
          have k0e : ∀ w', Ext Wb w' → w'.cell? ⟨w.heap.size, 0, none⟩ = some (.int .i64 (el : Int)) := by rw [hlen]; exact k0
          have hsI : (s : Int) < (n : Int) := by omega
          have hkI : (k : Int) < (ob.length : Int) := by omega
          clear c0 hre hfit hel hlen hsu hsR hrow hFd hs hmem hce2 hob k0 hins
          have hO9 : OwnL Wb W8 [.row 52 2 (.slice none 0 0) 0 (((List.range 0).map F).flatMap edgeCells), .rows 53 52 2 (.slice Arv k crv) vs ((List.range k).map (fun j => eRow (supR m D j))), .row 3 1 (.slice (some ⟨gv, 0, none⟩) ob.length cv) ob.length (ordV ob), .blk bo (.cells #[.int .i64 m.ins, .int .i64 m.outs, (.slice Arv k crv)] 29), .row 4 1 (.slice (some ⟨g6, 0, none⟩) n c6) n (D.map .bool), .blk (w.heap.size + 1) (.cells #[.int .i64 0, .int .i64 0, .slice none 0 0] 29)] := hO.add (Ext.refl _) (A := .row 52 2 (.slice none 0 0) 0 (((List.range 0).map F).flatMap edgeCells)) (World.ownsRow_nil _ _ _ _)
          clear hO
          go_wp2
          go_loopw [17, 14, 16] (fun iv v x wr => ∃ (i : Nat) (gv cv : Nat), iv = .int .i64 i ∧ i ≤ el ∧ v = .slice (some ⟨gv, 0, none⟩) (ordAt D (m.row s) ob i).length cv ∧ Ext Wb wr ∧ OwnL Wb wr [.row 52 2 x i (((List.range i).map F).flatMap edgeCells), .rows 53 52 2 (.slice Arv k crv) vs ((List.range k).map (fun j => eRow (supR m D j))), .row 3 1 v (ordAt D (m.row s) ob i).length (ordV (ordAt D (m.row s) ob i)), .blk bo (.cells #[.int .i64 m.ins, .int .i64 m.outs, (.slice Arv k crv)] 29), .row 4 1 (.slice (some ⟨g6, 0, none⟩) n c6) n (D.map .bool), .blk (w.heap.size + 1) (.cells #[.int .i64 0, .int .i64 0, .slice none 0 0] 29)]) (fun iv _ _ _ => el - (intOf iv).toNat)
          case atStart => exact ⟨0, gv, cv, rfl, by omega, rfl, hE, hO9⟩
          case round =>
            clear hO9 hE
            obtain ⟨i, gv, cv, rfl, hi, rfl, hE, hO⟩ := hrel
            obtain ⟨WB, hWB⟩ : ∃ W, W = wr := ⟨_, rfl⟩; subst hWB
            have k0w := k0e WB hE
            by_cases hie : i < el
            · have hir : i < (m.row s).length := by rw [← HEL.out.1]; exact hie
              obtain ⟨be, oe, rfl, _, d0', d1'⟩ := hce.at_edge hir
              have hfx := fit_to (HF.out _ (List.getElem_mem hir))
              have hge : (m.row s).getD i (0, 0) = (m.row s)[i] := by simp [List.getD, hir]
              have hIi := oinv_at HV.out (d := D) hsm hI i (by omega)
              have hli := oinv_len hIi
              have hIi2 := oinv_len (oinv_at HV.out (d := D) hsm hI (i + 1) (by omega))
              rw [← HN.out.1] at hli hIi2
              have hoS : ordAt D (m.row s) ob (i + 1) = ordN D (ordAt D (m.row s) ob i) (m.row s)[i] := by show ordN D _ ((m.row s).getD i (0, 0)) = _; rw [hge]
              have hFi : F i = edgeN D (ordAt D (m.row s) ob i) (m.row s)[i] := by rw [HFD.out]; show edgeN D _ ((m.row s).getD i (0, 0)) = _; rw [hge]
              have hkoi : k < (ordAt D (m.row s) ob i).length := Nat.lt_of_lt_of_le hkl (ordAt_len D (m.row s) ob i)
              have hogi : (ordV (ordAt D (m.row s) ob i))[k]? = some (.int .i64 (s : Int)) := by
                have := ordAt_pre D (m.row s) ob i
                obtain ⟨t, ht⟩ := this
                unfold ordV at hog ⊢
                rw [← ht, List.map_append, List.getElem?_append_left (by rw [List.length_map]; exact hkl)]
                exact hog
              generalize hoi : ordAt D (m.row s) ob i = oi at *
              have hiI : (i : Int) < (el : Int) := by omega
              have hkoI : (k : Int) < (oi.length : Int) := by omega
              rcases hxe : (m.row s)[i] with ⟨x, y⟩
              rw [hxe] at d0' d1' hfx hoS hFi
              simp only at d0' d1' hfx
              have HOS := Lib.hid (And.intro hoS hFi)
              have HOI := Lib.hid (And.intro hoi hIi)
              have HGI := Lib.hid hogi
              have cok : ∀ w', Ext WB w' → w'.cell? ⟨gv, k, none⟩ = some (.int .i64 (s : Int)) := fun w' h => h.cell (cell_own hO 2 rfl hogi)
              have ck2 : ∀ w', Ext WB w' → w'.cell? ⟨w.heap.size, 2, none⟩ = some (.slice (some ⟨b, o, none⟩) n c) := fun w' h => k2 w' (hE.trans h)
              have cg0 : ∀ w', Ext WB w' → w'.cell? ⟨b, o + s, none⟩ = some (.slice (some ⟨be, oe, none⟩) el cu) := fun w' h => g0 w' (hE.trans h)
              have cd0 : ∀ w', Ext WB w' → w'.cell? ⟨be, oe + i * 2, none⟩ = some (.int .i64 x) := fun w' h => (hE.trans h).cell d0'
              have cd1 : ∀ w', Ext WB w' → w'.cell? ⟨be, oe + i * 2 + 1, none⟩ = some (.int .i64 y) := fun w' h => (hE.trans h).cell d1'
              clear hoS hFi hxe hge hIi hoi hogi d0' d1'
              have jr := Ext.refl WB
              go_upto_region 25 with fail
              go_region_held3 (fun w' => Ext WB w') ((first | exact jr.drew | exact (jr.alloc _).drew | exact (jr.drew).alloc _)) ((fail))
              go_upto_region 27 with fail
              refine wp_named ?_
              intro WC hWC
              have hOC : OwnL Wb WC [.blk WB.heap.size (.cells #[.int .i64 x, .int .i64 y] 52), .row 52 2 u16 i (((List.range i).map F).flatMap edgeCells), .rows 53 52 2 (.slice Arv k crv) vs ((List.range k).map (fun j => eRow (supR m D j))), .row 3 1 (.slice (some ⟨gv, 0, none⟩) oi.length cv) oi.length (ordV oi), .blk bo (.cells #[.int .i64 m.ins, .int .i64 m.outs, (.slice Arv k crv)] 29), .row 4 1 (.slice (some ⟨g6, 0, none⟩) n c6) n (D.map .bool), .blk (w.heap.size + 1) (.cells #[.int .i64 0, .int .i64 0, .slice none 0 0] 29)] := by
                rw [hWC]
                exact (hO.add (alloc_ext _ _) (A := .blk WB.heap.size (.cells #[.int .i64 x, .int .i64 y] 52)) ⟨Nat.le_refl _, heap_alloc_new _ _⟩).trans ((Ext.refl _).drew)
              clear hWC hO hE jr cok ck2 cg0 cd0 cd1
              generalize WB.heap.size = bq at *
              have hEC := hOC.ext
              have q0 := cell_of_blk (hOC.get 0 rfl).2 0 (u := .int .i64 x) rfl
              have q1 := cell_of_blk (hOC.get 0 rfl).2 1 (u := .int .i64 y) rfl
              go_cut [110] (fun v wx => v = .bool (keepE D (x, y)) ∧ WC = wx)
              case first =>
                by_cases hx : x = -1
                · have HX : Hid (keepE D (x, y) = false) := by show _ = _; unfold keepE; rw [hx]; rfl
                  subst hx
                  go_wp2
                  go_meet
                  exact ⟨by rw [HX.out], rfl⟩
                · obtain ⟨u, rfl⟩ := Int.eq_ofNat_of_zero_le (show 0 ≤ x by omega)
                  have hun : u < n := by have := HN.out.1; omega
                  have hdl := HD.out.2
                  have hdg : (D.map Value.bool)[u]? = some (.bool (D.getD u false)) := by rw [List.getElem?_map, List.getElem?_eq_getElem (by omega)]; simp [List.getD, show u < D.length by omega]
                  have cu' := cell_own hOC 5 rfl hdg
                  have hu0 : (0 : Int) ≤ (u : Int) := by omega
                  have hunI : (u : Int) < (n : Int) := by omega
                  have HX : Hid (keepE D ((u : Int), y) = !(D.getD u false)) := by show _ = _; unfold keepE; simp
                  clear hdg hdl hx
                  generalize D.getD u false = z at *
                  cases z <;>
                  · go_wp2
                    go_meet
                    exact ⟨by rw [HX.out]; rfl, rfl⟩
              case rest =>
                obtain ⟨rfl, rfl⟩ := hcut
                cases hke : keepE D (x, y) with
                | false =>
                  have hon : ordN D oi (x, y) = oi := by unfold ordN; rw [hke]; rfl
                  have hfi : edgeN D oi (x, y) = (-1, -1) := by unfold edgeN; rw [hke]; rfl
                  have HON := Lib.hid hon
                  have HFI := Lib.hid hfi
                  have qf := free_of_blk (hOC.get 0 rfl).2
                  have hO2 := hOC.put 0 rfl 1 (.int .i64 (-1))
                  clear hon hfi hke
                  go_upto_region 34 with fail
                  refine wp_named ?_
                  intro WD hWD
                  rw [← hWD] at hO2
                  have hO2 : OwnL Wb WD [.blk bq (.cells #[.int .i64 x, .int .i64 (-1)] 52), .row 52 2 u16 i (((List.range i).map F).flatMap edgeCells), .rows 53 52 2 (.slice Arv k crv) vs ((List.range k).map (fun j => eRow (supR m D j))), .row 3 1 (.slice (some ⟨gv, 0, none⟩) oi.length cv) oi.length (ordV oi), .blk bo (.cells #[.int .i64 m.ins, .int .i64 m.outs, (.slice Arv k crv)] 29), .row 4 1 (.slice (some ⟨g6, 0, none⟩) n c6) n (D.map .bool), .blk (w.heap.size + 1) (.cells #[.int .i64 0, .int .i64 0, .slice none 0 0] 29)] := hO2
                  clear hWD qf hOC hEC q0 q1
                  have q0 := cell_of_blk (hO2.get 0 rfl).2 0 (u := .int .i64 x) rfl
                  have q1 := cell_of_blk (hO2.get 0 rfl).2 1 (u := .int .i64 (-1)) rfl
                  have hown : WD.ownsRow Wb.heap.size 52 2 u16 i (((List.range i).map F).flatMap edgeCells) := hO2.get 1 rfl
                  have hszb := hO2.ext.size
                  go_wp2_with (at_builtin; refine wpList_append_own2 rfl _ _ 53 rfl Wb.heap.size 52 i52 (.agg #[.int .i64 0, .int .i64 0]) 2 16 Try.underlying53 hi52 hz52 hs52 hb52 rfl (by decide) u16 i _ rfl (World.ownsRow.alloc hown _) ⟨WD.heap.size, 0, none⟩ 1 1 [.int .i64 (-1), .int .i64 (-1)] rfl rfl (new_cell2 _ _ _ _ _ rfl) (two_ints _ _) (by unfold maxLen; omega) (by omega) (by simp; omega) ?_; intro v7 w7 hown7 hg7 hb7)
                  go_roundw
                  case rel =>
                    have h1 := (hO2.trans (alloc_ext WD _)).app 1 rfl hg7 hown7 hb7
                    have h2 := edges_snoc F i
                    rw [HOS.out.2, HFI.out] at h2
                    rw [h2] at h1
                    have h1 := h1.drop
                    exact ⟨i + 1, gv, cv, by go_num, by omega, by simp [HOS.out.1, HON.out], h1.ext, by rw [HOS.out.1, HON.out]; first | exact h1 | (simp only [List.length_append, List.length_singleton] at h1 ⊢; exact h1)⟩
                  case measure => simp [intOf]; omega
                | true =>
                  --[t1
                  have hx : x ≠ -1 := by
                    intro h
                    rw [h] at hke
                    revert hke; unfold keepE; simp
                  obtain ⟨u, rfl⟩ := Int.eq_ofNat_of_zero_le (show 0 ≤ x by omega)
                  have hun : u < n := by have := HN.out.1; omega
                  obtain ⟨ix, hix⟩ : ∃ ix, ix = oi.idxOf u := ⟨_, rfl⟩
                  have hix2 : ix ≤ oi.length := by rw [hix]; exact List.idxOf_le_length
                  have HIX := Lib.hid (And.intro hix (And.intro hke hx))
                  clear hke hx hix
                  go_upto_block 10 with fail
                  go_cut [19] (fun v wx => v = .int .i64 (ix : Int) ∧ OwnL Wb wx [.blk bq (.cells #[.int .i64 (u : Int), .int .i64 y] 52), .row 52 2 u16 i (((List.range i).map F).flatMap edgeCells), .rows 53 52 2 (.slice Arv k crv) vs ((List.range k).map (fun j => eRow (supR m D j))), .row 3 1 (.slice (some ⟨gv, 0, none⟩) oi.length cv) oi.length (ordV oi), .blk bo (.cells #[.int .i64 m.ins, .int .i64 m.outs, (.slice Arv k crv)] 29), .row 4 1 (.slice (some ⟨g6, 0, none⟩) n c6) n (D.map .bool), .blk (w.heap.size + 1) (.cells #[.int .i64 0, .int .i64 0, .slice none 0 0] 29)])
                  case first =>
                    --[t2
                    go_wp2
                    go_loopw [19] (fun v wr => ∃ j : Nat, v = .int .i64 j ∧ j ≤ ix ∧ OwnL Wb wr [.blk bq (.cells #[.int .i64 (u : Int), .int .i64 y] 52), .row 52 2 u16 i (((List.range i).map F).flatMap edgeCells), .rows 53 52 2 (.slice Arv k crv) vs ((List.range k).map (fun j => eRow (supR m D j))), .row 3 1 (.slice (some ⟨gv, 0, none⟩) oi.length cv) oi.length (ordV oi), .blk bo (.cells #[.int .i64 m.ins, .int .i64 m.outs, (.slice Arv k crv)] 29), .row 4 1 (.slice (some ⟨g6, 0, none⟩) n c6) n (D.map .bool), .blk (w.heap.size + 1) (.cells #[.int .i64 0, .int .i64 0, .slice none 0 0] 29)]) (fun v _ => ix - (intOf v).toNat)
                    case atStart => exact ⟨0, rfl, by omega, hOC⟩
                    case round =>
                      clear hOC hEC q0 q1
                      obtain ⟨j, rfl, hj, hO⟩ := hrel
                      obtain ⟨WD, hWD⟩ : ∃ W, W = wr := ⟨_, rfl⟩; subst hWD
                      have q0 := cell_of_blk (hO.get 0 rfl).2 0 (u := .int .i64 (u : Int)) rfl
                      by_cases hjl : j < oi.length
                      · have hjI : (j : Int) < (oi.length : Int) := by omega
                        have cj := cell_own hO 3 rfl (ordV_at hjl)
                        by_cases hne : oi[j] = u
                        · have hjx : Hid (j = ix) := by show _ = _; rw [HIX.out.1]; exact idx_here (by rw [← HIX.out.1]; exact hj) hjl hne
                          rw [hne] at cj
                          clear hne
                          go_upto_region 29 with fail
                          go_quiet (fail)
                          go_wp2
                          go_meet
                          exact ⟨by rw [hjx.out], hO.trans ((Ext.refl _).drewN _)⟩
                        · have hjx : j + 1 ≤ ix := by rw [HIX.out.1]; exact idx_next (by rw [← HIX.out.1]; exact hj) hjl hne
                          generalize oi[j] = z at *
                          have hne2 : ¬ ((z : Int) = (u : Int)) := by omega
                          go_upto_region 29 with fail
                          go_quiet (fail)
                          go_wp2
                          go_roundw
                          case rel => exact ⟨j + 1, by go_num, hjx, hO.trans ((Ext.refl _).drewN _)⟩
                          case measure => simp [intOf]; omega
                      · have hjI : ¬ (j : Int) < (oi.length : Int) := by omega
                        have hjx : Hid (j = ix) := by show _ = _; omega
                        go_upto_region 29 with fail
                        go_quiet (fail)
                        go_wp2
                        go_meet
                        exact ⟨by rw [hjx.out], hO.trans ((Ext.refl _).drewN _)⟩
                    --]t2
                  case rest =>
                    obtain ⟨rfl, hOC⟩ := hcut
                    obtain ⟨WD, hWD⟩ : ∃ W, W = wc := ⟨_, rfl⟩; subst hWD
                    have hED := hOC.ext
                    have q0 := cell_of_blk (hOC.get 0 rfl).2 0 (u := .int .i64 (u : Int)) rfl
                    have q1 := cell_of_blk (hOC.get 0 rfl).2 1 (u := .int .i64 y) rfl
                    by_cases hu : u ∈ oi
                    · --[t3
                      have hon : ordN D oi ((u : Int), y) = oi := by
                        unfold ordN
                        rw [HIX.out.2.1, if_pos rfl, if_pos (List.contains_iff_mem.2 (by simpa using hu))]
                      have hfi : edgeN D oi ((u : Int), y) = ((ix : Int), y) := by
                        unfold edgeN
                        rw [HIX.out.2.1, if_pos rfl, hon, HIX.out.1]; rfl
                      have hlx : ix < oi.length := by rw [HIX.out.1]; exact List.idxOf_lt_length_of_mem hu
                      have hneI : ¬ ((ix : Int) = (oi.length : Int)) := by omega
                      have HON := Lib.hid hon
                      have HFI := Lib.hid hfi
                      clear hon hfi hu
                      go_upto_region 34 with fail
                      have hown : WD.ownsRow Wb.heap.size 52 2 u16 i (((List.range i).map F).flatMap edgeCells) := hOC.get 1 rfl
                      have hszb := hOC.ext.size
                      go_wp2_with (at_builtin; refine wpList_append_own2 rfl _ _ 53 rfl Wb.heap.size 52 i52 (.agg #[.int .i64 0, .int .i64 0]) 2 16 Try.underlying53 hi52 hz52 hs52 hb52 rfl (by decide) u16 i _ rfl (World.ownsRow.alloc hown _) ⟨WD.heap.size, 0, none⟩ 1 1 [.int .i64 (ix : Int), .int .i64 y] rfl rfl (new_cell2 _ _ _ _ _ rfl) (two_ints _ _) (by unfold maxLen; omega) (by omega) (by simp; omega) ?_; intro v7 w7 hown7 hg7 hb7)
                      go_roundw
                      case rel =>
                        have h1 := (hOC.trans (alloc_ext WD _)).app 1 rfl hg7 hown7 hb7
                        have h2 := edges_snoc F i
                        rw [HOS.out.2, HFI.out] at h2
                        rw [h2] at h1
                        have h1 := h1.drop
                        exact ⟨i + 1, gv, cv, by go_num, by omega, by simp [HOS.out.1, HON.out], h1.ext, by rw [HOS.out.1, HON.out]; first | exact h1 | (simp only [List.length_append, List.length_singleton] at h1 ⊢; exact h1)⟩
                      case measure => simp [intOf]; omega
                      --]t3
                    · --[t4
                      have hon : ordN D oi ((u : Int), y) = oi ++ [u] := by
                        unfold ordN
                        rw [HIX.out.2.1, if_pos rfl, if_neg (fun h => hu (by simpa using List.contains_iff_mem.1 h))]; rfl
                      have hlx : ix = oi.length := by rw [HIX.out.1]; exact List.idxOf_eq_length hu
                      have hfi : edgeN D oi ((u : Int), y) = ((oi.length : Int), y) := by
                        unfold edgeN
                        rw [HIX.out.2.1, if_pos rfl, hon]
                        have : (oi ++ [u]).idxOf ((u : Int)).toNat = oi.length := by
                          rw [Int.toNat_natCast, List.idxOf_append, if_neg hu]; simp
                        rw [this]
                      have hol : oi.length + 1 ≤ n := by
                        have h3 := hIi2
                        rw [HOS.out.1, hon] at h3
                        simpa using h3
                      have HON := Lib.hid hon
                      have HFI := Lib.hid hfi
                      have HOV : Hid (ordV (oi ++ [u]) = ordV oi ++ [.int .i64 (u : Int)]) := by show _ = _; unfold ordV; rw [List.map_append]; rfl
                      subst hlx
                      clear hon hfi hu
                      go_upto_if 129 with fail
                      go_cut [14] (fun v wx => ∃ (g7 c7 : Nat), v = .slice (some ⟨g7, 0, none⟩) (oi ++ [u]).length c7 ∧ OwnL Wb wx [.blk bq (.cells #[.int .i64 (u : Int), .int .i64 y] 52), .row 52 2 u16 i (((List.range i).map F).flatMap edgeCells), .rows 53 52 2 (.slice Arv k crv) vs ((List.range k).map (fun j => eRow (supR m D j))), .row 3 1 (.slice (some ⟨g7, 0, none⟩) (oi ++ [u]).length c7) (oi ++ [u]).length (ordV (oi ++ [u])), .blk bo (.cells #[.int .i64 m.ins, .int .i64 m.outs, (.slice Arv k crv)] 29), .row 4 1 (.slice (some ⟨g6, 0, none⟩) n c6) n (D.map .bool), .blk (w.heap.size + 1) (.cells #[.int .i64 0, .int .i64 0, .slice none 0 0] 29)])
                      case first =>
                        --[t5
                        have hown : WD.ownsRow Wb.heap.size 3 1 (.slice (some ⟨gv, 0, none⟩) oi.length cv) oi.length (ordV oi) := hOC.get 3 rfl
                        have hsD := hED.size
                        go_wp2_with (at_builtin; refine wpList_append_own2 rfl _ _ 37 rfl Wb.heap.size 3 i3 (.int .i64 0) 1 8 Try.underlying37 hi3 hz3 hs3 hb3 rfl (by decide) (.slice (some ⟨gv, 0, none⟩) oi.length cv) oi.length _ rfl (World.ownsRow.alloc hown _) ⟨WD.heap.size, 0, none⟩ 1 1 [.int .i64 (u : Int)] rfl rfl (cells_new _ #[.int .i64 (u : Int)] _) (one_int _) (by unfold maxLen; omega) (by omega) (by simp; omega) ?_; intro v7 w7 hown7 hg7 hb7; obtain ⟨g7, c7, rfl⟩ := ownsRow_pos hown7 (by omega))
                        go_meet
                        have h1 := (hOC.trans (alloc_ext WD _)).app 3 rfl hg7 hown7 hb7
                        refine ⟨g7, c7, by rw [List.length_append]; rfl, ?_⟩
                        rw [HOV.out, List.length_append]
                        exact h1
                        --]t5
                      case rest =>
                        obtain ⟨g7, c7, rfl, hO8⟩ := hcut
                        have q0 := cell_of_blk (hO8.get 0 rfl).2 0 (u := .int .i64 (u : Int)) rfl
                        have q1 := cell_of_blk (hO8.get 0 rfl).2 1 (u := .int .i64 y) rfl
                        clear hOC hED
                        have hown : wc.ownsRow Wb.heap.size 52 2 u16 i (((List.range i).map F).flatMap edgeCells) := hO8.get 1 rfl
                        have hszb := hO8.ext.size
                        go_wp2_with (at_builtin; refine wpList_append_own2 rfl _ _ 53 rfl Wb.heap.size 52 i52 (.agg #[.int .i64 0, .int .i64 0]) 2 16 Try.underlying53 hi52 hz52 hs52 hb52 rfl (by decide) u16 i _ rfl (World.ownsRow.alloc hown _) ⟨wc.heap.size, 0, none⟩ 1 1 [.int .i64 (oi.length : Int), .int .i64 y] rfl rfl (new_cell2 _ _ _ _ _ rfl) (two_ints _ _) (by unfold maxLen; omega) (by omega) (by simp; omega) ?_; intro v7 w7 hown7 hg7 hb7)
                        go_roundw
                        case rel =>
                          have h1 := (hO8.trans (alloc_ext wc _)).app 1 rfl hg7 hown7 hb7
                          have h2 := edges_snoc F i
                          rw [HOS.out.2, HFI.out] at h2
                          rw [h2] at h1
                          have h1 := h1.drop
                          exact ⟨i + 1, g7, c7, by go_num, by omega, by simp [HOS.out.1, HON.out], h1.ext, by rw [HOS.out.1, HON.out]; first | exact h1 | (simp only [List.length_append, List.length_singleton] at h1 ⊢; exact h1)⟩
                        case measure => simp [intOf]; omega
                      --]t4
                  --]t1
            · --[t6
              have hie2 : i = el := by omega
              have hoN : ordAt D (m.row s) ob i = supO m D (k + 1) := by rw [hie2]; exact HSU.out.1.symm
              have hkl2 : k + 1 ≤ (supO m D (k + 1)).length := by
                have h1 := ordAt_len D (m.row s) ob i
                rw [← hoN]; omega
              have hO : OwnL Wb WB [.row 52 2 u16 el (((List.range el).map F).flatMap edgeCells), .rows 53 52 2 (.slice Arv k crv) vs ((List.range k).map (fun j => eRow (supR m D j))), .row 3 1 (.slice (some ⟨gv, 0, none⟩) (ordAt D (m.row s) ob i).length cv) (ordAt D (m.row s) ob i).length (ordV (ordAt D (m.row s) ob i)), .blk bo (.cells #[.int .i64 m.ins, .int .i64 m.outs, (.slice Arv k crv)] 29), .row 4 1 (.slice (some ⟨g6, 0, none⟩) n c6) n (D.map .bool), .blk (w.heap.size + 1) (.cells #[.int .i64 0, .int .i64 0, .slice none 0 0] 29)] := by
                have := hO; rw [show (List.range i).map F = (List.range el).map F by rw [hie2]] at this; rw [show OwnL Wb WB = OwnL Wb WB from rfl] at this; rw [hie2] at this ⊢; exact this
              obtain ⟨gr, cr, hgr⟩ := ownsRow_pos (show WB.ownsRow Wb.heap.size 52 2 u16 el (((List.range el).map F).flatMap edgeCells) from hO.get 0 rfl) (by omega)
              subst hgr
              have HON := Lib.hid hoN
              have HKL := Lib.hid hkl2
              have hiI : ¬ (i : Int) < (el : Int) := by omega
              clear hie2
              have hOR : OwnRows WB Wb.heap.size 53 52 2 (.slice Arv k crv) vs ((List.range k).map (fun j => eRow (supR m D j))) := hO.get 1 rfl
              have hown := hOR.own
              rw [HVS.out] at hown
              have b2 := cell_of_blk (hO.get 3 rfl).2 2 (u := .slice Arv k crv) rfl
              have hsB := hE.size
              clear hoN hkl2 hOR hi
              go_wp2_with (at_builtin; refine wpList_append_own2 rfl _ _ 27 rfl Wb.heap.size 53 i53 (.slice none 0 0) 1 24 Try.underlying27 hi53 hz53 hs53 hb53 rfl (by decide) (.slice Arv k crv) k vs rfl (World.ownsRow.alloc hown _) ⟨WB.heap.size, 0, none⟩ 1 1 [.slice (some ⟨gr, 0, none⟩) el cr] rfl rfl (cells_new _ #[.slice (some ⟨gr, 0, none⟩) el cr] _) (one_slice _ _ _) (by unfold maxLen; omega) (by omega) (by simp; omega) ?_; intro v7 w7 hown7 hg7 hb7; obtain ⟨g7, c7, rfl⟩ := ownsRow_pos hown7 (by omega); have hp := (hO.trans (alloc_ext WB _)).push hg7 (by rw [HVS.out]; exact hown7) hb7; have p2 := cell_of_blk (hp.get 2 rfl).2 2 rfl; have pf := free_of_blk (hp.get 2 rfl).2 2)
              go_roundw
              case rel =>
                have h5 := hp.put 2 rfl 2 (.slice (some ⟨g7, 0, none⟩) (k + 1) c7)
                have h6 : ((List.range k).map (fun j => eRow (supR m D j))) ++ [(el, ((List.range el).map F).flatMap edgeCells)] = (List.range (k + 1)).map (fun j => eRow (supR m D j)) := by
                  rw [List.range_succ, List.map_append, ← HSU.out.2]; rfl
                rw [h6] at h5
                have hv2 : Value.slice (some ⟨gv, 0, none⟩) (ordAt D (m.row s) ob i).length cv = .slice (some ⟨gv, 0, none⟩) (supO m D (k + 1)).length cv := by rw [HON.out]
                have h7 : OwnL Wb (w7.setCell ⟨bo, 2, none⟩ (.slice (some ⟨g7, 0, none⟩) (k + 1) c7)) [.rows 53 52 2 (.slice (some ⟨g7, 0, none⟩) (k + 1) c7) (vs ++ [Value.slice (some ⟨gr, 0, none⟩) el cr]) ((List.range (k + 1)).map (fun j => eRow (supR m D j))), .row 3 1 (.slice (some ⟨gv, 0, none⟩) (ordAt D (m.row s) ob i).length cv) (supO m D (k + 1)).length (ordV (supO m D (k + 1))), .blk bo (.cells #[.int .i64 m.ins, .int .i64 m.outs, .slice (some ⟨g7, 0, none⟩) (k + 1) c7] 29), .row 4 1 (.slice (some ⟨g6, 0, none⟩) n c6) n (D.map .bool), .blk (w.heap.size + 1) (.cells #[.int .i64 0, .int .i64 0, .slice none 0 0] 29)] := by
                  rw [← HON.out]; exact h5
                have h8 := h7.ext
                exact ⟨k + 1, gv, cv, _, _, by go_num, HKL.out, hv2, hCn, h8, h7⟩
              case measure => simp [intOf]; omega
              --]t6
          --]r1
        · --[t7
          have hke : (supO m D k).length = k := by omega
          have hend : supEnd m D (m.rows.length + 1) 0 = k := by rw [hC.out]; exact supEnd_end (by omega) _
          have hres : supM m th bad = { ins := m.ins, outs := m.outs, rows := (List.range k).map (supR m D) } := by rw [HRES.out.2, hend]
          have HRES2 := Lib.hid hres
          have hkI : ¬ (k : Int) < ((supO m D k).length : Int) := by omega
          have hk64 : k ≤ 64 := by omega
          clear hend hres hke
          have b0 := cell_of_blk (hO.get 2 rfl).2 0 (u := .int .i64 m.ins) rfl
          have b1 := cell_of_blk (hO.get 2 rfl).2 1 (u := .int .i64 m.outs) rfl
          have b2 := cell_of_blk (hO.get 2 rfl).2 2 (u := .slice Arv k crv) rfl
          have x0 := cell_of_blk (hO.get 4 rfl).2 0 rfl
          have x1 := cell_of_blk (hO.get 4 rfl).2 1 rfl
          have x2 := cell_of_blk (hO.get 4 rfl).2 2 rfl
          have y0 := free_of_blk (hO.get 4 rfl).2
          have hO3 := ((hO.put 4 rfl 0 (.int .i64 m.ins)).put 4 rfl 1 (.int .i64 m.outs)).put 4 rfl 2 (.slice Arv k crv)
          have z0 := cell_of_blk (hO3.get 4 rfl).2 0 rfl
          have z1 := cell_of_blk (hO3.get 4 rfl).2 1 rfl
          have z2 := cell_of_blk (hO3.get 4 rfl).2 2 rfl
          have HO3 := Lib.hid hO3
          clear hO3
          go_wp2
          refine bodyPost_ret (v := .tuple #[.agg #[.int .i64 m.ins, .int .i64 m.outs, .slice Arv k crv], .int .i64 1]) (by simp [results, Try.f25, go_sem, z0, z1, z2]) rfl ?_
          have hEF := HO3.out.ext
          have hEG := hEb.trans hEF
          have hRF := HO3.out.get 0 rfl
          exact refsup_fin HV.out HRES.out.1 HRES2.out hk64 hcr hEG hRF
          --]t7
end Go.Proofs.Yteadkafeabhhhaa
