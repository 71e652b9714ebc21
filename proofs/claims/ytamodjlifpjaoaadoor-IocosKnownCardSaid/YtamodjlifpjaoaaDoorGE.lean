/- system.after 40. system.accepts 44, Accepts 17. system.observed 43. iocos.After 13, Accepts 17. iocos.Observe 16, way 50. way 50. Maps that are sets: keys with the value true; keys that are two masks, or a number and a mask. A function's text, cut into pieces: what stands from a region on. iocos.Conforms 21: its last piece, the search for what does not conform. -/
import Derived.Test.YtamodjlifpjaoaaDoorGC
import Derived.Test.YtamodjlifpjaoaaDoorGD
import Derived.Test.YtamodjlifpjaoaaDoorGB
import Derived.Test.YtamodjlifpjaoaaDoorGA
namespace Go.Proofs.YtamodjlifpjaoaaDoor
open Go.RowKit
set_option linter.unusedVariables false
set_option linter.unusedSimpArgs false
attribute [local go_sem] Oper.quietV quietV Oper.gives givesV ext_refl_iff ext_alloc_iff ext_drew_iff ext_drewN_iff
theorem aftQ_snoc (x : Lts) (S : List Nat) (s : Nat) : aftQ x (S ++ [s]) = if quietS x s then aftQ x S ||| 2 ^ s else aftQ x S := by unfold aftQ; rw [List.foldl_append]; rfl
def aftA (x : Lts) (l : Int) (z : Nat) (ar : List Arc) : Nat := ar.foldl (fun z a => if hit x l a then z ||| sil x a.to else z) z
theorem aftL_snoc (x : Lts) (l : Int) (S : List Nat) (s : Nat) : aftL x l (S ++ [s]) = aftA x l (aftL x l S) (x.arcs s) := by unfold aftL; rw [List.foldl_append]; rfl
theorem aftA_snoc (x : Lts) (l : Int) (z : Nat) (ar : List Arc) (a : Arc) : aftA x l z (ar ++ [a]) = if hit x l a then aftA x l z ar ||| sil x a.to else aftA x l z ar := by unfold aftA; rw [List.foldl_append]; rfl
theorem or_lt {a b n : Nat} (ha : a < 2 ^ n) (hb : b < 2 ^ n) : a ||| b < 2 ^ n := Nat.or_lt_two_pow ha hb
theorem aftA_lt {x : Lts} (hg : Good x) (l : Int) : ∀ (ar : List Arc) (z : Nat), z < 2 ^ x.n → (∀ a ∈ ar, a.to < x.n) → aftA x l z ar < 2 ^ x.n
  | [], z, hz, _ => hz
  | a :: ar, z, hz, h => by
    show aftA x l (if hit x l a then z ||| sil x a.to else z) ar < _
    refine aftA_lt hg l ar _ ?_ (fun b hb => h b (by simp [hb]))
    split
    · exact or_lt hz (sil_lt hg (h a (by simp)))
    · exact hz
theorem aftL_lt {x : Lts} (hg : Good x) (l : Int) (S : List Nat) : aftL x l S < 2 ^ x.n := mask_lt fun t ht => by
  obtain ⟨s, _, a, ha, _, h2⟩ := (aftL_bit x l S t).1 ht
  exact mask_bit (sil_lt hg (hg.to_lt s a ha)) h2
theorem aftQ_lt {x : Lts} (S : List Nat) (h : ∀ s ∈ S, s < x.n) : aftQ x S < 2 ^ x.n := mask_lt fun t ht => h t ((aftQ_bit x S t).1 ht).1
theorem take_snoc {α : Type} {l : List α} {i : Nat} {y : α} (h : l[i]? = some y) : l.take (i + 1) = l.take i ++ [y] := by rw [List.take_add_one, h]; rfl
theorem list_box (w : World) (S : Nat) (hS : S < 18446744073709551616) (hT : Tab w) : Calls Tryd.prog 41 #[.int .u64 S] w fun e w' => ∃ A, e = .returned (.slice A (mem S).length (mem S).length) ∧ Cells w' A ((memI S).map (.int .i64)) ∧ Ext w w' :=
  (list_any w S hS hT).mono fun e w' ⟨v, he, ⟨A, hv, hc, _⟩, hE⟩ => by
    subst hv
    have hML : (memI S).length = (mem S).length := by unfold memI; rw [List.length_map]
    rw [hML] at he
    exact ⟨A, he, hc, hE⟩
theorem memI_at {S k s : Nat} {w : World} {A : Option Addr} (hc : Cells w A ((memI S).map (.int .i64))) (hs : (mem S)[k]? = some s) : ∃ b o, A = some ⟨b, o, none⟩ ∧ w.cell? ⟨b, o + k, none⟩ = some (.int .i64 (s : Int)) := by
  have hk := (List.getElem?_eq_some_iff.1 hs).1
  obtain ⟨b, o, hA, _, h⟩ := hc (by simp [memI]; omega)
  exact ⟨b, o, hA, h k _ (by simp [memI, hs])⟩
set_option maxRecDepth 100000 in
set_option maxHeartbeats 8000000 in
theorem after_any (w : World) (v : Value) (x : Lts) (S : Nat) (l : Int) (hd : SysV w v x) (hg : Good x) (hS : S < 2 ^ x.n) (hT : Tab w) : Calls Tryd.prog 40 #[v, .int .u64 S, .int .i64 l] w fun e w' => e = .returned (.int .u64 (aftM x S l : Nat)) ∧ Ext w w' := by
  obtain ⟨A, c, B, d, rfl, hr, hs, hlen⟩ := hd.form
  have g1 := hg.ins
  have g2 := hg.outs
  have hSb := hg.mask hS
  go_enter Tryd.func40, Tryd.ntmps40
  go_upto_region 1 with fail
  refine wp_named ?_
  intro W1 hW1
  have hE1 : Ext w W1 := by rw [hW1]; exact (Ext.refl _).alloc _
  have k0 : ∀ w', Ext W1 w' → w'.cell? ⟨w.heap.size, 0, none⟩ = some (.int .i64 x.ins) := fun w' h => h.cell (by rw [hW1]; simp [go_sem])
  have k1 : ∀ w', Ext W1 w' → w'.cell? ⟨w.heap.size, 1, none⟩ = some (.int .i64 x.outs) := fun w' h => h.cell (by rw [hW1]; simp [go_sem])
  have k2 : ∀ w', Ext W1 w' → w'.cell? ⟨w.heap.size, 2, none⟩ = some (.slice A x.rows.length c) := fun w' h => h.cell (by rw [hW1]; simp [go_sem])
  have k3 : ∀ w', Ext W1 w' → w'.cell? ⟨w.heap.size, 3, none⟩ = some (.slice B x.rows.length d) := fun w' h => h.cell (by rw [hW1]; simp [go_sem])
  clear hW1
  have hE0 := Ext.refl W1
  have hlist := list_box W1 S hSb (hT.ext hE1)
  have hM64 := mem_len S
  go_upto_region 2 with ((with_reducible refine hlist.mono ?_); rintro e W2 ⟨AL, rfl, hLc, e2⟩)
  have hmb : ∀ (i s : Nat), (mem S)[i]? = some s → s < x.n := fun i s h => mask_bit hS (mem_bit (List.mem_of_getElem? h)).2
  have hsy := fun W (h : Ext W1 W) => hd.ext (hE1.trans h)
  have HG := Lib.hid (And.intro hg (And.intro hmb hsy))
  have HR := Lib.hid (And.intro hr hs)
  clear hlist hT hmb hsy hd hr hs
  by_cases hl : l = x.ins + x.outs
  · have hA : Hid (aftM x S l = aftQ x (mem S)) := Lib.hid (by unfold aftM; rw [if_pos hl])
    have hAl : Hid (∀ k, aftQ x ((mem S).take k) < 2 ^ x.n) := Lib.hid (fun k => aftQ_lt _ (fun s hs => by
      obtain ⟨j, hj⟩ := List.getElem?_of_mem (List.mem_of_mem_take hs)
      exact HG.out.2.1 j s hj))
    subst hl
    go_wp2
    go_loopw [14, 6] (fun iv tv wr => ∃ k : Nat, iv = .int .i64 k ∧ k ≤ (mem S).length ∧ tv = .int .u64 (aftQ x ((mem S).take k) : Nat) ∧ Ext W2 wr) (fun iv _ _ => (mem S).length - (intOf iv).toNat)
    case atStart => exact ⟨0, rfl, by omega, rfl, Ext.refl _⟩
    case round =>
      obtain ⟨k, rfl, hk, rfl, hE⟩ := hrel
      obtain ⟨W3, hW3⟩ : ∃ W, W = wr := ⟨_, rfl⟩; subst hW3
      by_cases hlt : k < (mem S).length
      · obtain ⟨s, hs⟩ : ∃ s, (mem S)[k]? = some s := ⟨_, List.getElem?_eq_getElem hlt⟩
        have hsn := HG.out.2.1 k s hs
        obtain ⟨b, o, rfl, hcs⟩ := memI_at (hLc.ext hE) hs
        have HT : Hid (aftQ x ((mem S).take (k + 1)) = if quietS x s then aftQ x ((mem S).take k) ||| 2 ^ s else aftQ x ((mem S).take k)) := Lib.hid (by rw [take_snoc hs, aftQ_snoc])
        have hZ := hAl.out k
        have hZ1 := HG.out.1.mask hZ
        have hS2 : 2 ^ s < 18446744073709551616 := HG.out.1.mask (Nat.pow_lt_pow_right (by omega) hsn)
        have hor := or_u64 hZ1 hS2
        have hsh := shl_u64 (n := s) (by have := HG.out.1.nn; omega)
        generalize aftQ x ((mem S).take k) = Z at *
        generalize 2 ^ s = p at hor hsh HT hS2
        have q1 := fun W (h : Ext W3 W) => labels_any W _ x (HG.out.2.2 W (e2.trans (hE.trans h))) HG.out.1
        have q2 := fun W (h : Ext W3 W) => quiet_any W _ x s (HG.out.2.2 W (e2.trans (hE.trans h))) hsn
        have k0 := fun w' (h : Ext W3 w') => k0 w' (e2.trans (hE.trans h))
        have k1 := fun w' (h : Ext W3 w') => k1 w' (e2.trans (hE.trans h))
        have k2 := fun w' (h : Ext W3 w') => k2 w' (e2.trans (hE.trans h))
        have k3 := fun w' (h : Ext W3 w') => k3 w' (e2.trans (hE.trans h))
        have hEE := Ext.refl W3
        have hc3 := q1 W3 hEE
        have HE := Lib.hid hE
        clear hs hLc hE q1
        go_upto_region 5 with ((with_reducible refine hc3.mono ?_); rintro e W4 ⟨rfl, e4⟩; have hc4 := q2 W4 e4; clear hc3 q2)
        cases hq : quietS x s with
        | true =>
          rw [hq] at hc4 HT
          clear hq
          go_wp2_with ((with_reducible refine hc4.mono ?_); rintro e W5 ⟨rfl, e5⟩)
          go_roundw
          case rel => exact ⟨k + 1, by go_num, hlt, by rw [HT.out]; simp, HE.out.trans (e4.trans e5)⟩
          case measure => simp [intOf]; omega
        | false =>
          rw [hq] at hc4 HT
          clear hq
          go_wp2_with ((with_reducible refine hc4.mono ?_); rintro e W5 ⟨rfl, e5⟩)
          go_roundw
          case rel => exact ⟨k + 1, by go_num, hlt, by rw [HT.out]; simp, HE.out.trans (e4.trans e5)⟩
          case measure => simp [intOf]; omega
      · obtain rfl : k = (mem S).length := by omega
        have HE := Lib.hid hE
        rw [List.take_length] at *
        clear hE hLc
        go_wp2
        go_ret
        exact ⟨by rw [hA.out]; rfl, hE1.trans (e2.trans HE.out)⟩
  · have hA : Hid (aftM x S l = aftL x l (mem S)) := Lib.hid (by unfold aftM; rw [if_neg hl])
    have hne : (l == x.ins + x.outs) = false := by simpa using hl
    have hAl : Hid (∀ k, aftL x l ((mem S).take k) < 2 ^ x.n) := Lib.hid (fun k => aftL_lt HG.out.1 l _)
    clear hl
    go_wp2
    go_loopw [14, 6] (fun iv tv wr => ∃ k : Nat, iv = .int .i64 k ∧ k ≤ (mem S).length ∧ tv = .int .u64 (aftL x l ((mem S).take k) : Nat) ∧ Ext W2 wr) (fun iv _ _ => (mem S).length - (intOf iv).toNat)
    case atStart => exact ⟨0, rfl, by omega, rfl, Ext.refl _⟩
    case round =>
      obtain ⟨k, rfl, hk, rfl, hE⟩ := hrel
      obtain ⟨W3, hW3⟩ : ∃ W, W = wr := ⟨_, rfl⟩; subst hW3
      by_cases hlt : k < (mem S).length
      · obtain ⟨s, hs⟩ : ∃ s, (mem S)[k]? = some s := ⟨_, List.getElem?_eq_getElem hlt⟩
        have hsn := HG.out.2.1 k s hs
        have hsn' : s < x.rows.length := hsn
        obtain ⟨b, o, rfl, hcs⟩ := memI_at (hLc.ext hE) hs
        have HT : Hid (aftL x l ((mem S).take (k + 1)) = aftA x l (aftL x l ((mem S).take k)) (x.arcs s)) := Lib.hid (by rw [take_snoc hs, aftL_snoc])
        have hZ := Lib.hid (hAl.out k)
        generalize aftL x l ((mem S).take k) = Z at *
        have q1 := labels_any W3 _ x (HG.out.2.2 W3 (e2.trans hE)) HG.out.1
        obtain ⟨b2, o2, u2, cc2, hA2, _, hc2, hu2⟩ := (HR.out.1.ext (hE1.trans (e2.trans hE))).at_ (List.getElem?_eq_getElem hsn')
        injection hA2 with hA2 _ hcc2
        subst hA2 hcc2
        rw [← arcs_eq hsn'] at hu2
        obtain ⟨A3, c3, rfl, _, _, hm3⟩ := id hu2
        unfold lenMax at hm3
        have hc2 := fun w' (h : Ext W3 w') => h.cell hc2
        have hcs := fun w' (h : Ext W3 w') => h.cell hcs
        have k0 := fun w' (h : Ext W3 w') => k0 w' (e2.trans (hE.trans h))
        have k1 := fun w' (h : Ext W3 w') => k1 w' (e2.trans (hE.trans h))
        have k2 := fun w' (h : Ext W3 w') => k2 w' (e2.trans (hE.trans h))
        have k3 := fun w' (h : Ext W3 w') => k3 w' (e2.trans (hE.trans h))
        have hEE := Ext.refl W3
        have HE := Lib.hid hE
        have HU := Lib.hid hu2
        clear hs hLc hE hu2
        go_upto_region 8 with ((with_reducible refine q1.mono ?_); rintro e W4 ⟨rfl, e4⟩)
        go_loopw [37, 6] (fun iv tv wr => ∃ j : Nat, iv = .int .i64 j ∧ j ≤ (x.arcs s).length ∧ tv = .int .u64 (aftA x l Z ((x.arcs s).take j) : Nat) ∧ Ext W3 wr) (fun iv _ _ => (x.arcs s).length - (intOf iv).toNat)
        case atStart => exact ⟨0, rfl, by omega, rfl, e4⟩
        case round =>
          obtain ⟨j, rfl, hj, rfl, hE⟩ := hrel
          obtain ⟨W5, hW5⟩ : ∃ W, W = wr := ⟨_, rfl⟩; subst hW5
          by_cases hjl : j < (x.arcs s).length
          · obtain ⟨a, ha⟩ : ∃ a, (x.arcs s)[j]? = some a := ⟨_, List.getElem?_eq_getElem hjl⟩
            obtain ⟨b3, o3, c4, hA3, _, a0, a1, a2⟩ := (HU.out.ext hE).at_ ha
            injection hA3 with hA3 _ hcc3
            subst hA3 hcc3
            obtain ⟨g3, g4, g5, g6, g7⟩ := HG.out.1.arc_at (List.mem_of_getElem? ha)
            have HT2 : Hid (aftA x l Z ((x.arcs s).take (j + 1)) = if hit x l a then aftA x l Z ((x.arcs s).take j) ||| sil x a.to else aftA x l Z ((x.arcs s).take j)) := Lib.hid (by rw [take_snoc ha, aftA_snoc])
            have hY := aftA_lt HG.out.1 l ((x.arcs s).take j) Z hZ.out (fun a' ha' => HG.out.1.to_lt s a' (List.mem_of_mem_take ha'))
            have hor := or_u64 (HG.out.1.mask hY) (HG.out.1.mask (sil_lt HG.out.1 g7))
            obtain ⟨b5, o5, dd5, hB5, _, hc5⟩ := (HR.out.2.ext (hE1.trans (e2.trans (HE.out.trans hE)))).at_ (sils_at x g7)
            injection hB5 with hB5 _ hdd5
            subst hB5 hdd5
            have hat : a.t = (a.to : Int) := g6.symm
            have g7' : a.to < x.rows.length := g7
            have hhit : Hid (hit x l a = ((a.k == 1 && a.l == l) || (a.k == 2 && x.ins + a.l == l))) := Lib.hid rfl
            rw [hat] at a2
            generalize aftA x l Z ((x.arcs s).take j) = Y at *
            generalize sil x a.to = p at *
            generalize a.to = t at *
            have hll : a.l < 17 ∨ a.k = 0 := by
              rcases (show a.k = 0 ∨ a.k = 1 ∨ a.k = 2 by omega) with h | h | h
              · exact .inr h
              · left; rw [h] at g5; unfold labN at g5; simp at g5; omega
              · left; rw [h] at g5; unfold labN at g5; simp at g5; omega
            have HE5 := Lib.hid hE
            have h5 := Ext.refl W5
            have k0 := fun w' (h : Ext W5 w') => k0 w' (hE.trans h)
            have k3 := fun w' (h : Ext W5 w') => k3 w' (hE.trans h)
            clear ha hat hE g5 g6 g7 hY
            generalize hak : a.k = ak at *
            generalize a.l = al at *
            clear hak
            rcases (show ak = 0 ∨ ak = 1 ∨ ak = 2 by omega) with rfl | rfl | rfl
            · have hb : Hid (hit x l a = false) := Lib.hid (by rw [hhit.out]; rfl)
              go_wp2
              go_roundw
              case rel => exact ⟨j + 1, by go_num, hjl, by rw [HT2.out, hb.out]; simp, HE5.out.trans ((Ext.refl _).alloc _)⟩
              case measure => simp [intOf]; omega
            · cases hb1 : (al == l) with
              | true =>
                have hb : Hid (hit x l a = true) := Lib.hid (by rw [hhit.out, hb1]; rfl)
                go_wp2
                go_roundw
                case rel => exact ⟨j + 1, by go_num, hjl, by rw [HT2.out, hb.out]; simp, HE5.out.trans ((Ext.refl _).alloc _)⟩
                case measure => simp [intOf]; omega
              | false =>
                have hb : Hid (hit x l a = false) := Lib.hid (by rw [hhit.out, hb1]; rfl)
                go_wp2
                go_roundw
                case rel => exact ⟨j + 1, by go_num, hjl, by rw [HT2.out, hb.out]; simp, HE5.out.trans ((Ext.refl _).alloc _)⟩
                case measure => simp [intOf]; omega
            · have hl17 : al < 17 := by omega
              cases hb1 : (x.ins + al == l) with
              | true =>
                have hb : Hid (hit x l a = true) := Lib.hid (by rw [hhit.out, hb1]; rfl)
                go_wp2
                go_roundw
                case rel => exact ⟨j + 1, by go_num, hjl, by rw [HT2.out, hb.out]; simp, HE5.out.trans ((Ext.refl _).alloc _)⟩
                case measure => simp [intOf]; omega
              | false =>
                have hb : Hid (hit x l a = false) := Lib.hid (by rw [hhit.out, hb1]; rfl)
                go_wp2
                go_roundw
                case rel => exact ⟨j + 1, by go_num, hjl, by rw [HT2.out, hb.out]; simp, HE5.out.trans ((Ext.refl _).alloc _)⟩
                case measure => simp [intOf]; omega
          · obtain rfl : j = (x.arcs s).length := by omega
            have HE5 := Lib.hid hE
            rw [List.take_length] at *
            clear hE
            go_wp2
            go_roundw
            case rel => exact ⟨k + 1, by go_num, hlt, by rw [HT.out], HE.out.trans HE5.out⟩
            case measure => simp [intOf]; omega
      · obtain rfl : k = (mem S).length := by omega
        have HE := Lib.hid hE
        rw [List.take_length] at *
        clear hE hLc
        go_wp2
        go_ret
        exact ⟨by rw [hA.out]; rfl, hE1.trans (e2.trans HE.out)⟩
end Go.Proofs.YtamodjlifpjaoaaDoor

namespace Go.Proofs.YtamodjlifpjaoaaDoor
open Go.RowKit
set_option linter.unusedVariables false
set_option linter.unusedSimpArgs false
attribute [local go_sem] Oper.quietV quietV Oper.gives givesV ext_refl_iff ext_alloc_iff ext_drew_iff ext_drewN_iff
theorem sil_at {w : World} {x : Lts} {B : Option Addr} {n d s : Nat} (h : MasksC w (.slice B n d) (sils x)) (hs : s < x.n) : ∃ b o, B = some ⟨b, o, none⟩ ∧ w.cell? ⟨b, o + s, none⟩ = some (.int .u64 (sil x s : Nat)) := by
  obtain ⟨b, o, c, hv, _, hc⟩ := h.at_ (sils_at x hs)
  cases hv
  exact ⟨b, o, rfl, hc⟩
theorem row_at {w : World} {x : Lts} {A : Option Addr} {n c s : Nat} (h : ARowsC w (.slice A n c) x.rows) (hs : s < x.n) : ∃ b o A' c', A = some ⟨b, o, none⟩ ∧ w.cell? ⟨b, o + s, none⟩ = some (.slice A' (x.arcs s).length c') ∧ ArcsC w (.slice A' (x.arcs s).length c') (x.arcs s) ∧ (x.arcs s).length ≤ 9223372036854775807 := by
  have hs' : s < x.rows.length := hs
  obtain ⟨b, o, u, c1, hv, _, hc, hu⟩ := h.at_ (List.getElem?_eq_getElem hs')
  rw [← arcs_eq hs'] at hu
  obtain ⟨A', c', rfl, h2, h3, h4⟩ := hu
  cases hv
  exact ⟨b, o, A', c', rfl, hc, ⟨A', c', rfl, h2, h3, h4⟩, h4⟩
theorem arc_at {w : World} {A : Option Addr} {n c k : Nat} {l : List Arc} {a : Arc} (h : ArcsC w (.slice A n c) l) (hk : l[k]? = some a) : ∃ b o, A = some ⟨b, o, none⟩ ∧ w.cell? ⟨b, o + k * 3, none⟩ = some (.int .u8 a.k) ∧ w.cell? ⟨b, o + k * 3 + 1, none⟩ = some (.int .i64 a.l) ∧ w.cell? ⟨b, o + k * 3 + 2, none⟩ = some (.int .i64 a.t) := by
  obtain ⟨b, o, c1, hv, _, h0, h1, h2⟩ := h.at_ hk
  cases hv
  exact ⟨b, o, rfl, h0, h1, h2⟩
theorem OwnL.queueC {w W : World} {L : List Asn} (h : OwnL w W L) (k : Nat) {e : Nat} {v : Value} {s : Nat} {ws : List Nat} (hk : L[k]? = some (winA w.heap.size e v (wV (s :: ws)))) :
    ∃ g off cap, v = .slice (some ⟨g, off, none⟩) (ws.length + 1) cap ∧ ws.length + 1 ≤ cap ∧ cap ≤ 9223372036854775807 ∧ W.cell? ⟨g, off, none⟩ = some (.int .i64 s) := by
  obtain ⟨g, off, cap, hv, h1, h2, h3⟩ := h.queue k hk
  exact ⟨g, off, cap, hv, h1, h2, h3 0 s rfl⟩
def okS (x : Lts) (s : Nat) : Bool := (List.range x.I).all (fun (i : Nat) => aftM x (sil x s) (i : Int) != 0)
theorem accB_iff {x : Lts} (hg : Good x) : accB x = true ↔ ∀ s, (reachM x).testBit s = true → okS x s = true := by
  have hlt : reachM x < 2 ^ 64 := by
    refine hg.mask64 (mask_lt fun t ht => ?_)
    obtain ⟨s, hs, hp⟩ := (cloM_bit x anyArc 1 hg.to_lt t).1 ht
    have h2 : (2 ^ 0).testBit s = true := hs
    rw [bit_one] at h2
    exact hp.lt hg (by have := of_decide_eq_true h2; have := hg.nn; omega)
  unfold accB
  rw [List.all_eq_true]
  exact ⟨fun h s hs => h s ((mem_iff hlt).2 hs), fun h s hs => h s ((mem_iff hlt).1 hs)⟩
/-- What has been looked at accepts all inputs. -/
def Seen (x : Lts) (M : Nat) (ws : List Nat) : Prop := ∀ s, M.testBit s = true → s ∉ ws → okS x s = true
theorem acc_all {x : Lts} (hg : Good x) {M : Nat} (h : Follow x anyArc 0 M []) (hs : Seen x M []) : accB x = true := by
  rw [accB_iff hg, ← follow_reach hg h]
  exact fun s h1 => hs s h1 (by simp)
theorem acc_no {x : Lts} (hg : Good x) {M s : Nat} {ws : List Nat} (h : Follow x anyArc 0 M (s :: ws)) {i : Nat} (hi : i < x.I) (h0 : aftM x (sil x s) (i : Int) = 0) : accB x = false := by
  rw [Bool.eq_false_iff]
  intro ha
  have hr : (reachM x).testBit s = true := by
    unfold reachM
    exact (cloM_bit x anyArc 1 hg.to_lt s).2 ⟨0, by decide, h.path s (h.inn s (by simp))⟩
  have := (accB_iff hg).1 ha s hr
  unfold okS at this
  have h2 := List.all_eq_true.1 this i (List.mem_range.2 hi)
  simp [h0] at h2
theorem Seen.pop {x : Lts} {M s : Nat} {ws : List Nat} (h : Seen x M (s :: ws)) (hs : okS x s = true) : Seen x M ws := fun t ht hn => by
  by_cases he : t = s
  · subst he; exact hs
  · exact h t ht (by simp [he, hn])
theorem Seen.push {x : Lts} {M s : Nat} {ws : List Nat} (h : Seen x M (s :: ws)) (t : Nat) : Seen x (M ||| 2 ^ t) (s :: (ws ++ [t])) := fun u hu hn => by
  simp only [List.mem_cons, List.mem_append, List.not_mem_nil, or_false, not_or] at hn
  refine h u ?_ (by simp only [List.mem_cons, not_or]; exact ⟨hn.1, hn.2.1⟩)
  rw [Nat.testBit_or, bit_one, Bool.or_eq_true, decide_eq_true_eq] at hu
  rcases hu with hu | hu
  · exact hu
  · exact absurd hu.symm hn.2.2
set_option maxRecDepth 100000 in
set_option maxHeartbeats 16000000 in
theorem accepts_any (w : World) (v : Value) (x : Lts) (hd : SysV w v x) (hg : Good x) (hT : Tab w) : Calls Tryd.prog 44 #[v] w fun e w' => e = .returned (.bool (accB x)) ∧ Ext w w' := by
  obtain ⟨i3, hi3, hz3, hs3, hb3⟩ := info_parts int_info
  obtain ⟨A, c, B, d, rfl, hr, hs, hlen⟩ := hd.form
  have g1 := hg.ins
  have g2 := hg.outs
  have hgn := hg.nn
  go_enter Tryd.func44, Tryd.ntmps44
  go_upto_region 1 with fail
  refine wp_named ?_
  intro W1 hW1
  have hE1 : Ext w W1 := by rw [hW1]; exact (Ext.refl _).alloc _
  have k0 : ∀ w', Ext W1 w' → w'.cell? ⟨w.heap.size, 0, none⟩ = some (.int .i64 x.ins) := fun w' h => h.cell (by rw [hW1]; simp [go_sem])
  have k1 : ∀ w', Ext W1 w' → w'.cell? ⟨w.heap.size, 1, none⟩ = some (.int .i64 x.outs) := fun w' h => h.cell (by rw [hW1]; simp [go_sem])
  have k2 : ∀ w', Ext W1 w' → w'.cell? ⟨w.heap.size, 2, none⟩ = some (.slice A x.rows.length c) := fun w' h => h.cell (by rw [hW1]; simp [go_sem])
  have k3 : ∀ w', Ext W1 w' → w'.cell? ⟨w.heap.size, 3, none⟩ = some (.slice B x.rows.length d) := fun w' h => h.cell (by rw [hW1]; simp [go_sem])
  clear hW1
  have hE0 := Ext.refl W1
  have hO0 := (OwnL.nil (Ext.refl W1)).winNew 3 1 [.int .i64 0] rfl (by decide)
  have HG := Lib.hid hg
  have HR := Lib.hid (And.intro hr (And.intro hs hE1))
  have q2 := fun W (h : Ext W1 W) s (hs : s < x.n) l => after_any W _ x (sil x s) l (hd.ext (hE1.trans h)) hg (sil_lt hg hs) (hT.ext (hE1.trans h))
  have HQ := Lib.hid q2
  clear q2 hd hg hr hs hT
  go_upto_region 3 with fail
  refine wp_named ?_
  intro W6 hW6
  rw [← hW6] at hO0
  have hO0 : OwnL W1 W6 [winA W1.heap.size 3 (.slice (some ⟨W1.heap.size, 0, none⟩) 1 1) (wV [0])] := hO0
  have HF0 := Lib.hid (And.intro (follow_start (x := x) (p := anyArc) (n := 0) (by omega)) (fun s h1 h2 => by
    have h1 : (2 ^ 0).testBit s = true := h1
    rw [bit_one] at h1
    have := of_decide_eq_true h1
    exact absurd (by simp [← this]) h2 : Seen x 1 [0]))
  clear hW6 hE0
  go_wp2
  go_loopw [4, 3] (fun qv mv wr => ∃ (M : Nat) (ws : List Nat), mv = .int .u64 M ∧ Hid (Follow x anyArc 0 M ws ∧ Seen x M ws) ∧ OwnL W1 wr [winA W1.heap.size 3 qv (wV ws)]) (fun qv mv _ => 2 * (x.n - cntM x.n (natOf (some mv))) + lenV qv)
  case atStart => exact ⟨1, [0], rfl, HF0, hO0⟩
  case round =>
    clear hO0 HF0
    obtain ⟨M, ws, rfl, HF, hO⟩ := hrel
    obtain ⟨W8, hW8⟩ : ∃ W, W = wr := ⟨_, rfl⟩; subst hW8
    cases ws with
    | nil =>
      obtain ⟨g, off, cap, rfl, hwc, hwm, hcq⟩ := hO.queue 0 rfl
      have H := Lib.hid (acc_all HG.out HF.out.1 HF.out.2)
      have HO := Lib.hid hO
      clear hO hcq
      go_wp2
      go_ret
      exact ⟨by rw [H.out]; rfl, hE1.trans HO.out.ext⟩
    | cons s ws =>
      obtain ⟨g, off, cap, rfl, hwl, hwm, hcs⟩ := hO.queueC 0 rfl
      have hsn : s < x.n := mask_bit HF.out.1.lt (HF.out.1.inn s (by simp))
      have hsn' : s < x.rows.length := hsn
      obtain ⟨b7, o7, A9, c9, rfl, hc7, hu7, hm9⟩ := row_at (HR.out.1.ext HR.out.2.2) hsn
      obtain ⟨b5, o5, rfl, hc5⟩ := sil_at (HR.out.2.1.ext HR.out.2.2) hsn
      have hcs : ∀ w', Ext W8 w' → w'.cell? ⟨g, off, none⟩ = some (.int .i64 (s : Int)) := fun w' h => h.cell hcs
      have hc5 := fun w' (h : Ext W8 w') => (hO.ext.trans h).cell hc5
      have hc7 := fun w' (h : Ext W8 w') => (hO.ext.trans h).cell hc7
      have k0' := fun w' (h : Ext W8 w') => k0 w' (hO.ext.trans h)
      have k1' := fun w' (h : Ext W8 w') => k1 w' (hO.ext.trans h)
      have k2' := fun w' (h : Ext W8 w') => k2 w' (hO.ext.trans h)
      have k3' := fun w' (h : Ext W8 w') => k3 w' (hO.ext.trans h)
      have hE8 := Ext.refl W8
      have HU := Lib.hid hu7
      have HO := Lib.hid hO
      have hpos : (0 : Int) < ((ws.length + 1 : Nat) : Int) := by omega
      have HH := Lib.hid (half_start HF.out.1)
      have HI := Lib.hid HG.out.II
      have hq := fun W (h : Ext W8 W) l => HQ.out W (HO.out.ext.trans h) s hsn l
      have HQ8 := Lib.hid hq
      clear hO hu7 hq
      go_wp2
      go_loopw [21] (fun iv wr => ∃ i : Nat, iv = .int .i64 i ∧ i ≤ x.I ∧ Hid (∀ t, t < i → aftM x (sil x s) (t : Int) ≠ 0) ∧ Ext W8 wr) (fun iv _ => x.I - (intOf iv).toNat)
      case atStart => exact ⟨0, rfl, by omega, Lib.hid (fun t ht => by omega), Ext.refl _⟩
      case round =>
        obtain ⟨i, rfl, hi, HP, hE⟩ := hrel
        obtain ⟨W9, hW9⟩ : ∃ W, W = wr := ⟨_, rfl⟩; subst hW9
        by_cases hlt : i < x.I
        · have hltI : (i : Int) < x.ins := by have := HI.out.1; omega
          have hc5 := fun w' (h : Ext W9 w') => hc5 w' (hE.trans h)
          have k0 := fun w' (h : Ext W9 w') => k0' w' (hE.trans h)
          have k1 := fun w' (h : Ext W9 w') => k1' w' (hE.trans h)
          have k2 := fun w' (h : Ext W9 w') => k2' w' (hE.trans h)
          have k3 := fun w' (h : Ext W9 w') => k3' w' (hE.trans h)
          have hE9 := Ext.refl W9
          have HE := Lib.hid hE
          have HN : Hid (aftM x (sil x s) (i : Int) = 0 → accB x = false) := Lib.hid (fun h => acc_no HG.out HF.out.1 hlt h)
          have hcl := fun W (h : Ext W9 W) => HQ8.out W (HE.out.trans h) (i : Int)
          clear k0' k1' k2' k3' hc7 hcs hE8
          generalize sil x s = P at *
          go_upto_region 9 with fail
          refine wp_region_ext 7 (factsOf []) (fun k => ([[], [], [1], [], [1, 2, 3], [1, 2, 3, 4], [], [0, 1, 2, 3, 4, 5, 6], [0, 1, 2, 3, 4, 5, 6, 7]] : List (List Nat)).getD k []) (by kernel_rfl) (by kernel_rfl) Ext.pre (mono_nil) ?_
          simp only [List.take_succ_cons, List.take_zero]
          repeat (first | (with_reducible refine lexL_quiet' (v := ?_) ?_ ?_ ?_ ?_; rotate_left; (· with_reducible rfl); (· simp [factsOf]); (· intro w1 hw1 _; go_simp; with_reducible rfl); (try simp only [Act.put, List.setIfInBounds_toArray, List.set_cons_zero, List.set_cons_succ])) | (with_reducible refine lexL_skip ?_ ?_; (· simp [Region.wanted, yielded, undef]); (try simp only [Act.put, List.setIfInBounds_toArray, List.set_cons_zero, List.set_cons_succ])) | (with_reducible refine lexL_quiet (v := ?_) ?_ ?_ ?_ ?_; rotate_left; (· simp [Region.wanted, yielded, undef]); (· simp [factsOf]); (· intro w1 hw1 _; go_simp; with_reducible rfl); (try simp only [Act.put, List.setIfInBounds_toArray, List.set_cons_zero, List.set_cons_succ])))
          with_reducible refine lexL_nil ?_; intro w1 hw1 hk1; simp only [List.drop_succ_cons, List.drop_zero]
          clear hk1
          have hcl1 := hcl w1 hw1
          clear hcl
          cases h0 : ((aftM x P (i : Int) : Nat) : Int) == 0 with
          | true =>
            have h00 : aftM x P (i : Int) = 0 := by simpa using h0
            have H := Lib.hid (HN.out h00)
            go_wp2_with ((with_reducible refine hcl1.mono ?_); rintro e w5 ⟨rfl, e5⟩)
            go_ret
            exact ⟨by rw [H.out]; rfl, hE1.trans (HO.out.ext.trans (HE.out.trans (hw1.trans e5)))⟩
          | false =>
            have h00 : aftM x P (i : Int) ≠ 0 := by simpa using h0
            have HP' : Hid (∀ t, t < i + 1 → aftM x P (t : Int) ≠ 0) := Lib.hid (fun t ht => by
              rcases Nat.lt_or_ge t i with h1 | h1
              · exact HP.out t h1
              · obtain rfl : t = i := by omega
                exact h00)
            clear h00
            go_wp2_with ((with_reducible refine hcl1.mono ?_); rintro e w5 ⟨rfl, e5⟩)
            go_roundw
            case rel => exact ⟨i + 1, by go_num, hlt, HP', HE.out.trans (hw1.trans e5)⟩
            case measure => simp [intOf]; omega
        · obtain rfl : i = x.I := by omega
          have hltI : ¬ ((x.I : Nat) : Int) < x.ins := by have := HI.out.1; omega
          have hok : Hid (okS x s = true) := Lib.hid (by
            unfold okS
            rw [List.all_eq_true]
            intro t ht
            have := HP.out t (List.mem_range.1 ht)
            simpa using this)
          have hO9 := HO.out.trans hE
          have hc7 := fun w' (h : Ext W9 w') => hc7 w' (hE.trans h)
          have k2 := fun w' (h : Ext W9 w') => k2' w' (hE.trans h)
          have hE9 := Ext.refl W9
          clear hE hc5 hcs k0' k1' k2' k3' hE8
          go_wp2
          clear hc7 k2 hE9
          go_loopw [41, 3, 4] (fun jv mv qv wr => ∃ (j M' : Nat) (ws' : List Nat), jv = .int .i64 j ∧ j ≤ (x.arcs s).length ∧ mv = .int .u64 M' ∧ Hid (Half x anyArc 0 M' s ws' j (2 * (x.n - cntM x.n M) + (ws.length + 1)) ∧ Seen x M' (s :: ws')) ∧ OwnL W1 wr [winA W1.heap.size 3 qv (wV (s :: ws'))]) (fun jv _ _ _ => (x.arcs s).length - (intOf jv).toNat)
          case atStart => exact ⟨0, M, ws, rfl, by omega, rfl, Lib.hid ⟨HH.out, HF.out.2⟩, hO9⟩
          case round =>
            clear hO9
            obtain ⟨j, M', ws', rfl, hj, rfl, HF', hO⟩ := hrel
            obtain ⟨W10, hW10⟩ : ∃ W, W = wr := ⟨_, rfl⟩; subst hW10
            obtain ⟨g', off', cap', rfl, hwc', hwm', hcq'⟩ := hO.queueC 0 rfl
            by_cases hjl : j < (x.arcs s).length
            · obtain ⟨a, ha⟩ : ∃ a, (x.arcs s)[j]? = some a := ⟨_, List.getElem?_eq_getElem hjl⟩
              obtain ⟨b3, o3, rfl, a0', a1, a2⟩ := arc_at (HU.out.ext hO.ext) ha
              have HA := Lib.hid ha
              have hto := Lib.hid (HG.out.arc_at (List.mem_of_getElem? ha))
              have hat : a.t = (a.to : Int) := hto.out.2.2.2.1.symm
              have hMl := HG.out.mask HF'.out.1.fol.lt
              have ht64 : a.to < 64 := by have := hto.out.2.2.2.2; have := HG.out.nn; omega
              rw [hat] at a2
              have HO9 := Lib.hid hO
              clear hO hcq' ha
              go_upto_region 15 with fail
              refine wp_named ?_
              intro W11 hW11
              have e11 : Ext W10 W11 := by rw [hW11]; exact alloc_ext _ _
              have m2 : W11.cell? ⟨W10.heap.size, 2, none⟩ = some (.int .i64 (a.to : Int)) := by rw [hW11]; simp [go_sem]
              clear hW11 a0' a1 a2 hat
              have HE11 := Lib.hid e11
              clear e11
              generalize W10.heap.size = b10 at *
              generalize hT : a.to = T at *
              have HTT := Lib.hid hT
              clear hT
              have htest := shr_test (t := T) hMl
              cases hb : M'.testBit T with
              | true =>
                rw [hb] at htest
                have htest : (bits .and .u64 ((M' : Int) / 2 ^ T) 1 == 0) = false := htest
                have HN := Lib.hid (HF'.out.1.skip HA.out (fun _ => by rw [HTT.out]; exact hb))
                clear hb
                go_wp2
                go_roundw
                case rel => exact ⟨j + 1, M', ws', by go_num, hjl, rfl, Lib.hid ⟨HN.out, HF'.out.2⟩, HO9.out.trans HE11.out⟩
                case measure => simp [intOf]; omega
              | false =>
                rw [hb] at htest
                have htest : (bits .and .u64 ((M' : Int) / 2 ^ T) 1 == 0) = true := htest
                have HN : Hid (Half x anyArc 0 (M' ||| 2 ^ T) s (ws' ++ [T]) (j + 1) (2 * (x.n - cntM x.n M) + (ws.length + 1))) := Lib.hid (by
                  have := HF'.out.1.push HG.out HA.out rfl (by rw [HTT.out]; exact hb)
                  rw [HTT.out] at this
                  exact this)
                have HS := Lib.hid (HF'.out.2.push T)
                have hP : 2 ^ T < 18446744073709551616 := Nat.lt_of_lt_of_le (Nat.pow_lt_pow_right (by omega) ht64) (by decide)
                have hor := or_u64 hMl hP
                have hsh := shl_u64b ht64
                have hfew := HF'.out.1.fol.bound HG.out
                have hfew : ws'.length + 1 ≤ 129 := hfew
                clear hb
                obtain ⟨N, hN⟩ : ∃ N, N = M' ||| 2 ^ T := ⟨_, rfl⟩
                obtain ⟨P, hPP⟩ : ∃ P, P = 2 ^ T := ⟨_, rfl⟩
                rw [← hN] at hor HN HS
                rw [← hPP] at hor hsh
                clear hN hPP hP
                have hO12 := HO9.out.trans HE11.out
                have hsz := hO12.ext.size
                have hown := (hO12.trans (alloc_ext W11 (.cells #[.int .i64 (T : Int)] 3))).win 0 rfl
                have HO12 := Lib.hid hO12
                clear hO12
                go_wp2_with (at_builtin; refine wpList_append_win rfl _ _ 30 rfl W1.heap.size 3 i3 (.int .i64 0) 8 Tryd.underlying30 hi3 hz3 hs3 hb3 rfl (.slice (some ⟨g', off', none⟩) (ws'.length + 1) cap') (wV (s :: ws')) (.int .i64 (T : Int)) rfl hown ⟨W11.heap.size, 0, none⟩ 1 rfl (cell_of_blk (heap_alloc_new W11 _) 0 rfl) rfl (by rw [wV_len]; unfold maxLen; simp only [List.length_cons]; omega) (by rw [wV_len]; simp only [List.length_cons]; omega) ?_; intro v8 w8 hown8 hg8 hb8)
                have hO13 := (HO12.out.trans (alloc_ext W11 (.cells #[.int .i64 (T : Int)] 3))).winApp 0 rfl hg8 hown8 hb8
                rw [show wV (s :: ws') ++ [Value.int .i64 (T : Int)] = wV (s :: (ws' ++ [T])) by simp [wV]] at hO13
                go_roundw
                case rel => exact ⟨j + 1, N, ws' ++ [T], by go_num, hjl, rfl, Lib.hid ⟨HN.out, HS.out⟩, hO13⟩
                case measure => simp [intOf]; omega
            · obtain rfl : j = (x.arcs s).length := by omega
              have hp := Lib.hid HF'.out.1.pop
              have HS := Lib.hid (HF'.out.2.pop hok.out)
              have hO2 := hO.winTail (x := .int .i64 (s : Int)) (xs := wV ws') 0 (by rw [wV_len]; rfl)
              rw [wV_len] at hO2
              have HO2 := Lib.hid hO2
              clear hO hO2 hcq'
              by_cases hc1 : cap' = 1
              · subst hc1
                have HO2 := Lib.hid (show OwnL W1 W10 [winA W1.heap.size 3 (.slice (some ⟨g', off', none⟩) ws'.length 0) (wV ws')] from HO2.out)
                have hws : ws' = [] := List.length_eq_zero_iff.1 (by omega)
                subst hws
                go_wp2
                go_roundw
                case rel => exact ⟨M', [], rfl, Lib.hid ⟨hp.out.1, HS.out⟩, HO2.out⟩
                case measure =>
                  have h1 := hp.out.2
                  simp [natOf, lenV] at *
                  omega
              · have HO2 := Lib.hid (show OwnL W1 W10 [winA W1.heap.size 3 (.slice (some ⟨g', off' + 1, none⟩) ws'.length (cap' - 1)) (wV ws')] from by have := HO2.out; rw [if_neg hc1] at this; exact this)
                go_wp2
                go_roundw
                case rel => exact ⟨M', ws', rfl, Lib.hid ⟨hp.out.1, HS.out⟩, HO2.out⟩
                case measure =>
                  have h1 := hp.out.2
                  simp [natOf, lenV] at *
                  omega
end Go.Proofs.YtamodjlifpjaoaaDoor

namespace Go.Proofs.YtamodjlifpjaoaaDoor
open Go.RowKit
set_option linter.unusedVariables false
set_option linter.unusedSimpArgs false
attribute [local go_sem] Oper.quietV quietV Oper.gives givesV ext_refl_iff ext_alloc_iff ext_drew_iff ext_drewN_iff
def obsJ (x : Lts) (S j : Nat) : List Int := ((List.range j).map (fun (j : Nat) => x.ins + (j : Int))).filter (fun l => aftM x S l != 0)
theorem obsJ_all (x : Lts) (S : Nat) : obsJ x S (x.O + 1) = obsM x S := rfl
theorem obsJ_succ (x : Lts) (S j : Nat) : obsJ x S (j + 1) = if aftM x S (x.ins + (j : Int)) != 0 then obsJ x S j ++ [x.ins + (j : Int)] else obsJ x S j := by
  unfold obsJ
  rw [List.range_succ, List.map_append, List.filter_append]
  simp only [List.map_cons, List.map_nil, List.filter_cons, List.filter_nil]
  split <;> simp
theorem obsJ_len (x : Lts) (S j : Nat) : (obsJ x S j).length ≤ j := by
  unfold obsJ
  refine Nat.le_trans (List.length_filter_le _ _) ?_
  simp
set_option maxRecDepth 100000 in
set_option maxHeartbeats 4000000 in
theorem observed_any (w : World) (v : Value) (x : Lts) (S : Nat) (hd : SysV w v x) (hg : Good x) (hS : S < 2 ^ x.n) (hT : Tab w) : Calls Tryd.prog 43 #[v, .int .u64 S] w fun e w' => ∃ v, e = .returned v ∧ FitC w' v (obsM x S) ∧ Ext w w' := by
  obtain ⟨i3, hi3, hz3, hs3, hb3⟩ := info_parts int_info
  obtain ⟨A, c, B, d, rfl, hr, hs, hlen⟩ := hd.form
  have g1 := hg.ins
  have g2 := hg.outs
  go_enter Tryd.func43, Tryd.ntmps43
  go_upto_region 1 with fail
  refine wp_named ?_
  intro W1 hW1
  have hE1 : Ext w W1 := by rw [hW1]; exact (Ext.refl _).alloc _
  have k0 : ∀ w', Ext W1 w' → w'.cell? ⟨w.heap.size, 0, none⟩ = some (.int .i64 x.ins) := fun w' h => h.cell (by rw [hW1]; simp [go_sem])
  have k1 : ∀ w', Ext W1 w' → w'.cell? ⟨w.heap.size, 1, none⟩ = some (.int .i64 x.outs) := fun w' h => h.cell (by rw [hW1]; simp [go_sem])
  have k2 : ∀ w', Ext W1 w' → w'.cell? ⟨w.heap.size, 2, none⟩ = some (.slice A x.rows.length c) := fun w' h => h.cell (by rw [hW1]; simp [go_sem])
  have k3 : ∀ w', Ext W1 w' → w'.cell? ⟨w.heap.size, 3, none⟩ = some (.slice B x.rows.length d) := fun w' h => h.cell (by rw [hW1]; simp [go_sem])
  clear hW1
  have hE0 := Ext.refl W1
  have q1 := fun W (h : Ext W1 W) => labels_any W _ x (hd.ext (hE1.trans h)) hg
  have q2 := fun W (h : Ext W1 W) l => after_any W _ x S l (hd.ext (hE1.trans h)) hg hS (hT.ext (hE1.trans h))
  have HQ := Lib.hid (And.intro q1 (And.intro q2 hg.OO))
  clear q1 q2 hd hg hr hs hS hT
  have hO : OwnL W1 W1 [.row 3 1 (.slice none 0 0) (obsJ x S 0).length ((obsJ x S 0).map (.int .i64))] := OwnL.add (OwnL.nil (Ext.refl W1)) (Ext.refl W1) (A := .row 3 1 (.slice none 0 0) 0 []) (World.ownsRow_nil _ _ _ _)
  go_wp2
  go_loopw [5, 4] (fun lv ov wr => ∃ j : Nat, lv = .int .i64 (x.ins + (j : Int)) ∧ j ≤ x.O + 1 ∧ OwnL W1 wr [.row 3 1 ov (obsJ x S j).length ((obsJ x S j).map (.int .i64))]) (fun lv _ _ => x.O + 1 - (intOf lv - x.ins).toNat)
  case atStart => exact ⟨0, by simp, by omega, hO⟩
  case round =>
    clear hO
    obtain ⟨j, rfl, hj, hO⟩ := hrel
    obtain ⟨W3, hW3⟩ : ∃ W, W = wr := ⟨_, rfl⟩; subst hW3
    have hjl := obsJ_len x S j
    have k0 := fun w' (h : Ext W3 w') => k0 w' (hO.ext.trans h)
    have k1 := fun w' (h : Ext W3 w') => k1 w' (hO.ext.trans h)
    have k2 := fun w' (h : Ext W3 w') => k2 w' (hO.ext.trans h)
    have k3 := fun w' (h : Ext W3 w') => k3 w' (hO.ext.trans h)
    have hE3 := Ext.refl W3
    have q1 := HQ.out.1 W3 hO.ext
    by_cases hlt : j < x.O + 1
    · have hltI : x.ins + (j : Int) < x.ins + x.outs + 1 := by have := HQ.out.2.2; omega
      have hO16 : x.O ≤ 16 := HQ.out.2.2.2
      have q2 := fun W (h : Ext W3 W) => HQ.out.2.1 W (hO.ext.trans h) (x.ins + (j : Int))
      have HS := Lib.hid (obsJ_succ x S j)
      have hnx : x.ins + (j : Int) + 1 = x.ins + ((j + 1 : Nat) : Int) := by omega
      have HN := Lib.hid hnx
      have hsz := hO.ext.size
      have hown : W3.ownsRow W1.heap.size 3 1 u4 (obsJ x S j).length ((obsJ x S j).map (.int .i64)) := hO.get 0 rfl
      have HO := Lib.hid hO
      have hl17 : x.ins + (j : Int) < 40 := by omega
      have hl0 : 0 ≤ x.ins + (j : Int) := by omega
      have hlen2 : (obsJ x S j).length ≤ 17 := by omega
      clear hO hnx hjl
      go_upto_region 4 with ((with_reducible refine q1.mono ?_); rintro e W4 ⟨rfl, e4⟩)
      have q24 := q2 W4 e4
      clear q1 q2
      cases hz : (aftM x S (x.ins + (j : Int)) != 0) with
      | false =>
        rw [hz] at HS
        have hz0 : aftM x S (x.ins + (j : Int)) = 0 := by simpa using hz
        rw [hz0] at q24
        clear hz hz0 hown
        go_wp2_with ((with_reducible refine q24.mono ?_); rintro e W5 ⟨rfl, e5⟩)
        go_roundw
        case rel => exact ⟨j + 1, by rw [HN.out], hlt, by rw [HS.out]; exact HO.out.trans (e4.trans e5)⟩
        case measure => simp [intOf]; omega
      | true =>
        rw [hz] at HS
        have hz0 : ((aftM x S (x.ins + (j : Int)) : Nat) : Int) ≠ 0 := by simpa using hz
        have hz1 : (((aftM x S (x.ins + (j : Int)) : Nat) : Int) != 0) = true := by simpa using hz0
        generalize aftM x S (x.ins + (j : Int)) = T at *
        clear hz hz0 hown
        go_upto_region 5 with ((with_reducible refine q24.mono ?_); rintro e W5 ⟨rfl, e5⟩)
        have hO5 := HO.out.trans (e4.trans e5)
        have hown : W5.ownsRow W1.heap.size 3 1 u4 (obsJ x S j).length ((obsJ x S j).map (.int .i64)) := hO5.get 0 rfl
        have hsz := hO5.ext.size
        have HO5 := Lib.hid hO5
        generalize obsJ x S j = xs at *
        generalize hL : x.ins + (j : Int) = l at *
        clear hO5 q24 HO
        go_wp2_with (at_builtin; refine wpList_append_own2 rfl _ _ 30 rfl W1.heap.size 3 i3 (.int .i64 0) 1 8 Tryd.underlying30 hi3 hz3 hs3 hb3 rfl (by decide) u4 xs.length (xs.map (.int .i64)) rfl (World.ownsRow.alloc hown _) ⟨W5.heap.size, 0, none⟩ 1 1 [.int .i64 l] rfl rfl (new_cell _ _ _ _ rfl) (one_int _) (by unfold maxLen; omega) (by omega) (by simp; omega) ?_; intro v8 w8 hown8 hg8 hb8)
        have hO8 := (HO5.out.trans (alloc_ext W5 (.cells #[.int .i64 l] 3))).app 0 rfl hg8 hown8 hb8
        go_roundw
        case rel => exact ⟨j + 1, by rw [HN.out], hlt, by rw [HS.out]; simpa using hO8⟩
        case measure => simp [intOf]; omega
    · have hltI : ¬ x.ins + (j : Int) < x.ins + x.outs + 1 := by have := HQ.out.2.2; omega
      obtain rfl : j = x.O + 1 := by omega
      have hO16 : x.O ≤ 16 := HQ.out.2.2.2
      rw [obsJ_all] at *
      obtain ⟨A4, c4, rfl, hnc, _⟩ := cells_of_owns (hO.get 0 rfl)
      have hcl := fun W => clip_any W A4 (obsM x S).length c4 hnc (by omega)
      have HO := Lib.hid hO
      clear hO hnc
      go_wp2_with (first
        | ((with_reducible refine q1.mono ?_); rintro e W4 ⟨rfl, e4⟩; have hcl4 := hcl W4)
        | ((with_reducible refine hcl4.mono ?_); rintro e W5 ⟨rfl, rfl⟩))
      go_ret
      have hO4 := HO.out.trans e4
      exact ⟨_, rfl, fit_clip (hO4.get 0 rfl) rfl (by omega), hE1.trans hO4.ext⟩
end Go.Proofs.YtamodjlifpjaoaaDoor

namespace Go.Proofs.YtamodjlifpjaoaaDoor
open Go.RowKit
set_option linter.unusedVariables false
set_option linter.unusedSimpArgs false
attribute [local go_sem] Oper.quietV quietV Oper.gives givesV ext_refl_iff ext_alloc_iff ext_drew_iff ext_drewN_iff
/-- A prepared system in a block. -/
theorem sys_box {w w3 : World} {b : Nat} {x : Lts} {A B : Option Addr} {c d : Nat} (h : w3.heap[b]? = some (.cells #[.int .i64 x.ins, .int .i64 x.outs, .slice A x.rows.length c, .slice B x.rows.length d] 73 (0, 0))) :
    ∀ w', Ext w3 w' → w'.cell? ⟨b, 0, none⟩ = some (.int .i64 x.ins) ∧ w'.cell? ⟨b, 1, none⟩ = some (.int .i64 x.outs) ∧ w'.cell? ⟨b, 2, none⟩ = some (.slice A x.rows.length c) ∧ w'.cell? ⟨b, 3, none⟩ = some (.slice B x.rows.length d) :=
  fun w' e => ⟨e.cell (cell_of_blk h 0 rfl), e.cell (cell_of_blk h 1 rfl), e.cell (cell_of_blk h 2 rfl), e.cell (cell_of_blk h 3 rfl)⟩
theorem sys_form {w : World} {v : Value} {x : Lts} (h : SysV w v x) : ∃ A c B d, v = .agg #[.int .i64 x.ins, .int .i64 x.outs, .slice A x.rows.length c, .slice B x.rows.length d] := by
  obtain ⟨A, c, B, d, hv, _⟩ := h.form
  exact ⟨A, c, B, d, hv⟩
theorem prepare_form (w : World) (v : Value) (x : Lts) (hd : LtsV w v x) (hg : Good x) : Calls Tryd.prog 37 #[v] w fun e w' => ∃ A c B d, e = .returned (.agg #[.int .i64 x.ins, .int .i64 x.outs, .slice A x.rows.length c, .slice B x.rows.length d]) ∧ SysV w' (.agg #[.int .i64 x.ins, .int .i64 x.outs, .slice A x.rows.length c, .slice B x.rows.length d]) x ∧ Ext w w' :=
  (prepare_any w v x hd hg).mono fun e w' ⟨v', he, hs, hE⟩ => by
    obtain ⟨A, c, B, d, rfl⟩ := sys_form hs
    exact ⟨A, c, B, d, he, hs, hE⟩
def acceptsR (x : Lts) : Bool × Int := if checkI x ≠ 0 then (false, checkI x) else (accB x, 0)
set_option maxRecDepth 100000 in
set_option maxHeartbeats 4000000 in
theorem Accepts_any (w : World) (v : Value) (x : Lts) (hd : LtsV w v x) (hT : Tab w) : Calls Tryd.prog 17 #[v] w fun e w' => e = .returned (.tuple #[.bool (acceptsR x).1, .int .i64 (acceptsR x).2]) ∧ Ext w w' := by
  obtain ⟨A, c, rfl, hr, hlen⟩ := hd.form
  go_enter Tryd.func17, Tryd.ntmps17
  go_upto_region 1 with fail
  refine wp_named ?_
  intro W1 hW1
  have hE1 : Ext w W1 := by rw [hW1]; exact (Ext.refl _).alloc _
  have k0 : ∀ w', Ext W1 w' → w'.cell? ⟨w.heap.size, 0, none⟩ = some (.int .i64 x.ins) := fun w' h => h.cell (by rw [hW1]; simp [go_sem])
  have k1 : ∀ w', Ext W1 w' → w'.cell? ⟨w.heap.size, 1, none⟩ = some (.int .i64 x.outs) := fun w' h => h.cell (by rw [hW1]; simp [go_sem])
  have k2 : ∀ w', Ext W1 w' → w'.cell? ⟨w.heap.size, 2, none⟩ = some (.slice A x.rows.length c) := fun w' h => h.cell (by rw [hW1]; simp [go_sem])
  clear hW1
  have hE0 := Ext.refl W1
  have hch := check_any W1 _ x (hd.ext hE1)
  by_cases h0 : checkI x = 0
  · have hg := check_good h0
    have H : Hid (acceptsR x = (accB x, 0)) := Lib.hid (if_neg (by simpa using h0))
    rw [h0] at hch
    have hpr := fun W (e : Ext W1 W) => prepare_form W _ x (hd.ext (hE1.trans e)) hg
    have hac := fun W v (e : Ext W1 W) (hs : SysV W v x) => accepts_any W v x hs hg (hT.ext (hE1.trans e))
    clear h0 hg hd hr hT
    go_wp2_with (first
      | ((with_reducible refine hch.mono ?_); rintro e w1 ⟨rfl, e1⟩; have hpr1 := hpr w1 e1)
      | ((with_reducible refine hpr1.mono ?_); rintro e w2 ⟨A2, c2, B2, d2, rfl, hs2, e2⟩; have hac2 := hac w2 _ (e1.trans e2) hs2)
      | ((with_reducible refine hac2.mono ?_); rintro e w3 ⟨rfl, e3⟩))
    go_ret2
    exact ⟨by rw [H.out]; rfl, hE1.trans (e1.trans (e2.trans e3))⟩
  · have H : Hid (acceptsR x = (false, checkI x)) := Lib.hid (if_pos h0)
    have h1 : (checkI x != 0) = true := by simpa using h0
    generalize checkI x = z at *
    clear h0 hd hr
    go_wp2_with ((with_reducible refine hch.mono ?_); rintro e w1 ⟨rfl, e1⟩)
    go_ret2
    exact ⟨by rw [H.out]; rfl, hE1.trans e1⟩
def badT (x : Lts) (l : Int) : Bool := decide (l < 0) || decide (x.ins + x.outs + 1 ≤ l)
def afterR (x : Lts) (ts : List Int) : List Int × Int := if checkI x ≠ 0 then ([], checkI x) else if 256 < ts.length then ([], 3) else if ts.any (badT x) then ([], 1) else (memI (tr x (begM x) ts), 0)
set_option maxRecDepth 100000 in
set_option maxHeartbeats 8000000 in
theorem After_any (w : World) (v : Value) (x : Lts) (tv : Value) (ts : List Int) (ct : Nat) (hd : LtsV w v x) (ht : IntsC w tv ts ct) (hT : Tab w) : Calls Tryd.prog 13 #[v, tv] w fun e w' => ∃ rv, e = .returned (.tuple #[rv, .int .i64 (afterR x ts).2]) ∧ FitC w' rv (afterR x ts).1 ∧ Ext w w' := by
  obtain ⟨A, c, rfl, hr, hlen⟩ := hd.form
  obtain ⟨At, rfl, htc, hct, htm⟩ := id ht
  unfold lenMax at htm
  go_enter Tryd.func13, Tryd.ntmps13
  go_upto_region 1 with fail
  refine wp_named ?_
  intro W1 hW1
  have hE1 : Ext w W1 := by rw [hW1]; exact (Ext.refl _).alloc _
  have k0 : ∀ w', Ext W1 w' → w'.cell? ⟨w.heap.size, 0, none⟩ = some (.int .i64 x.ins) := fun w' h => h.cell (by rw [hW1]; simp [go_sem])
  have k1 : ∀ w', Ext W1 w' → w'.cell? ⟨w.heap.size, 1, none⟩ = some (.int .i64 x.outs) := fun w' h => h.cell (by rw [hW1]; simp [go_sem])
  have k2 : ∀ w', Ext W1 w' → w'.cell? ⟨w.heap.size, 2, none⟩ = some (.slice A x.rows.length c) := fun w' h => h.cell (by rw [hW1]; simp [go_sem])
  clear hW1
  have hE0 := Ext.refl W1
  have hch := check_any W1 _ x (hd.ext hE1)
  by_cases h0 : checkI x = 0
  · have hg := check_good h0
    have H : Hid (afterR x ts = if 256 < ts.length then ([], 3) else if ts.any (badT x) then ([], 1) else (memI (tr x (begM x) ts), 0)) := Lib.hid (if_neg (by simpa using h0))
    rw [h0] at hch
    clear h0
    by_cases hl : 256 < ts.length
    · have hI : (256 : Int) < (ts.length : Int) := by omega
      have H := Lib.hid (H.out.trans (if_pos hl))
      clear hd hr hT hg
      go_wp2_with ((with_reducible refine hch.mono ?_); rintro e w1 ⟨rfl, e1⟩)
      go_ret2
      exact ⟨_, by rw [H.out]; rfl, by rw [H.out]; exact fit_nil _, hE1.trans e1⟩
    have hI : ¬ (256 : Int) < (ts.length : Int) := by omega
    have H := Lib.hid (H.out.trans (if_neg hl))
    have hpr := fun W (e : Ext W1 W) => prepare_form W _ x (hd.ext (hE1.trans e)) hg
    have HT := Lib.hid (And.intro hT (And.intro hg (And.intro htc hE1)))
    clear hd hr hT
    go_upto_region 7 with (first
      | ((with_reducible refine hch.mono ?_); rintro e w1 ⟨rfl, e1⟩; have hpr1 := hpr w1 e1)
      | ((with_reducible refine hpr1.mono ?_); rintro e w2 ⟨A2, c2, B2, d2, rfl, hs2, e2⟩)
      | (with_reducible refine wpList_store_blk _ rfl 73 _ _ rfl w2.heap.size 73 _ _ rfl rfl (heap_alloc_new _ _) (by kernel_rfl) (by kernel_rfl) (by kernel_rfl) ?_; intro w3 h3 g3))
    have e23 : Ext w2 w3 := Below.grown (alloc_ext w2 _) g3 (alloc_ext w2 _).size (fun k hk => by cases hk; exact Nat.le_refl _)
    have hbx := sys_box (w := w) h3
    have k0 := fun w' e => (hbx w' e).1
    have k1 := fun w' e => (hbx w' e).2.1
    have k2 := fun w' e => (hbx w' e).2.2.1
    have k3 := fun w' e => (hbx w' e).2.2.2
    have e13 := e1.trans (e2.trans e23)
    have hsy := fun W (e : Ext w3 W) => hs2.ext (e23.trans e)
    have HS := Lib.hid (And.intro hsy (And.intro e13 (fun W (e : Ext w3 W) => HT.out.1.ext (hE1.trans (e13.trans e)))))
    have hbg := begin_any w3 _ x (hsy w3 (Ext.refl _)) hg
    have hE3 := Ext.refl w3
    clear h3 g3 hbx hsy hs2 hpr hpr1 hch e13 hE0 e23 e2 e1
    generalize w2.heap.size = b7 at *
    go_upto_region 8 with ((with_reducible refine hbg.mono ?_); rintro e w4 ⟨rfl, e4⟩)
    clear hbg
    go_wp2
    go_loopw [25, 8] (fun iv sv wr => ∃ i : Nat, iv = .int .i64 i ∧ i ≤ ts.length ∧ sv = .int .u64 (tr x (begM x) (ts.take i) : Nat) ∧ Hid ((ts.take i).any (badT x) = false) ∧ Ext w3 wr) (fun iv _ _ => ts.length - (intOf iv).toNat)
    case atStart => exact ⟨0, rfl, by omega, rfl, Lib.hid (by simp), e4⟩
    case round =>
      obtain ⟨i, rfl, hi, rfl, HP, hE⟩ := hrel
      obtain ⟨W5, hW5⟩ : ∃ W, W = wr := ⟨_, rfl⟩; subst hW5
      have hSl := tr_lt hg (ts.take i) (begM_lt hg)
      by_cases hlt : i < ts.length
      · obtain ⟨l, hl2⟩ : ∃ l, ts[i]? = some l := ⟨_, List.getElem?_eq_getElem hlt⟩
        have hcl : ∃ b o, At = some ⟨b, o, none⟩ ∧ W5.cell? ⟨b, o + i, none⟩ = some (.int .i64 l) := by
          obtain ⟨b, o, hA, _, hc⟩ := (HT.out.2.2.1.ext (hE1.trans (HS.out.2.1.trans hE))).at_int hlt
          rw [(List.getElem?_eq_some_iff.1 hl2).2] at hc
          exact ⟨b, o, hA, hc⟩
        obtain ⟨bt, ot, rfl, hcl⟩ := hcl
        have HT1 := Lib.hid (any_take (p := badT x) hl2)
        have HM := Lib.hid (any_of_get (p := badT x) hl2)
        have HB : Hid (badT x l = (decide (l < 0) || decide (x.ins + x.outs + 1 ≤ l))) := Lib.hid rfl
        have HTR : Hid (tr x (begM x) (ts.take (i + 1)) = aftM x (tr x (begM x) (ts.take i)) l) := Lib.hid (by rw [take_snoc hl2, tr_snoc])
        have hlab := labels_any W5 _ x (HS.out.1 W5 hE) hg
        generalize tr x (begM x) (ts.take i) = S at *
        have haf := fun W (e : Ext W5 W) => after_any W _ x S l (HS.out.1 W (hE.trans e)) hg hSl (HS.out.2.2 W (hE.trans e))
        have k0 := fun w' (h : Ext W5 w') => k0 w' (hE.trans h)
        have k1 := fun w' (h : Ext W5 w') => k1 w' (hE.trans h)
        have k2 := fun w' (h : Ext W5 w') => k2 w' (hE.trans h)
        have k3 := fun w' (h : Ext W5 w') => k3 w' (hE.trans h)
        have hE5 := Ext.refl W5
        have HE := Lib.hid hE
        clear hl2 hE htc hE3
        by_cases h1 : l < 0
        · have H := Lib.hid (H.out.trans (if_pos (HM.out (by rw [HB.out, decide_eq_true h1]; rfl))))
          go_wp2
          go_ret2
          exact ⟨_, by rw [H.out]; rfl, by rw [H.out]; exact fit_nil _, hE1.trans (HS.out.2.1.trans HE.out)⟩
        by_cases h2 : x.ins + x.outs + 1 ≤ l
        · have H := Lib.hid (H.out.trans (if_pos (HM.out (by rw [HB.out, decide_eq_true h2]; simp))))
          go_wp2_with ((with_reducible refine hlab.mono ?_); rintro e w6 ⟨rfl, e6⟩)
          go_ret2
          exact ⟨_, by rw [H.out]; rfl, by rw [H.out]; exact fit_nil _, hE1.trans (HS.out.2.1.trans (HE.out.trans e6))⟩
        have HN : Hid ((ts.take (i + 1)).any (badT x) = false) := Lib.hid (by rw [HT1.out, HP.out, HB.out, decide_eq_false h1, decide_eq_false h2]; rfl)
        go_wp2_with (first
          | ((with_reducible refine hlab.mono ?_); rintro e w6 ⟨rfl, e6⟩; have haf6 := haf w6 e6)
          | ((with_reducible refine haf6.mono ?_); rintro e w7 ⟨rfl, e7⟩))
        go_roundw
        case rel => exact ⟨i + 1, by go_num, hlt, by rw [HTR.out], HN, HE.out.trans (e6.trans e7)⟩
        case measure => simp [intOf]; omega
      · obtain rfl : i = ts.length := by omega
        rw [List.take_length] at *
        have H := Lib.hid (H.out.trans (if_neg (by rw [HP.out]; simp)))
        have hli := list_any W5 _ (hg.mask hSl) (HS.out.2.2 W5 hE)
        have HE := Lib.hid hE
        clear hE htc
        go_wp2_with ((with_reducible refine hli.mono ?_); rintro e w6 ⟨v6, rfl, hf6, e6⟩)
        go_ret2
        exact ⟨_, by rw [H.out]; rfl, by rw [H.out]; exact hf6, hE1.trans (HS.out.2.1.trans (HE.out.trans e6))⟩
  · have H : Hid (afterR x ts = ([], checkI x)) := Lib.hid (if_pos h0)
    have h1 : (checkI x != 0) = true := by simpa using h0
    generalize checkI x = z at *
    clear h0 hd hr
    go_wp2_with ((with_reducible refine hch.mono ?_); rintro e w1 ⟨rfl, e1⟩)
    go_ret2
    exact ⟨_, by rw [H.out]; rfl, by rw [H.out]; exact fit_nil _, hE1.trans e1⟩
end Go.Proofs.YtamodjlifpjaoaaDoor

namespace Go.Proofs.YtamodjlifpjaoaaDoor
open Go.RowKit
set_option linter.unusedVariables false
set_option linter.unusedSimpArgs false
attribute [local go_sem] Oper.quietV quietV Oper.gives givesV ext_refl_iff ext_alloc_iff ext_drew_iff ext_drewN_iff
def maskL (ls : List Int) : Nat := ls.foldl (fun z n => z ||| 2 ^ n.toNat) 0
def badS (x : Lts) (ls : List Int) (i : Nat) : Bool := decide (ls.getD i 0 < 0) || (decide ((x.rows.length : Int) ≤ ls.getD i 0) || (decide (0 < i) && decide (ls.getD i 0 ≤ ls.getD (i - 1) 0)))
def badSt (x : Lts) (ls : List Int) : Bool := (List.range ls.length).any (badS x ls)
theorem badS_eq {x : Lts} {ls : List Int} {i : Nat} {n : Int} (h : ls[i]? = some n) : badS x ls i = (decide (n < 0) || (decide ((x.rows.length : Int) ≤ n) || (decide (0 < i) && decide (n ≤ ls.getD (i - 1) 0)))) := by
  unfold badS
  rw [List.getD_eq_getElem?_getD (i := i), h]; rfl
theorem badSt_yes {x : Lts} {ls : List Int} {i : Nat} (hi : i < ls.length) (h : badS x ls i = true) : badSt x ls = true := List.any_eq_true.2 ⟨i, List.mem_range.2 hi, h⟩
theorem badSt_no {x : Lts} {ls : List Int} (h : ∀ i, i < ls.length → badS x ls i = false) : badSt x ls = false := by
  unfold badSt
  rw [List.any_eq_false]
  intro i hi
  rw [h i (List.mem_range.1 hi)]; simp
theorem maskL_snoc (ls : List Int) (n : Int) : maskL (ls ++ [n]) = maskL ls ||| 2 ^ n.toNat := by unfold maskL; rw [List.foldl_append]; rfl
def observeR (x : Lts) (ls : List Int) : List Int × Int := if checkI x ≠ 0 then ([], checkI x) else if badSt x ls then ([], 1) else (obsM x (maskL ls), 0)
theorem int_at {w : World} {A : Option Addr} {xs : List Int} (h : Cells w A (xs.map (.int .i64))) {k : Nat} {y : Int} (hk : xs[k]? = some y) : ∃ b o, A = some ⟨b, o, none⟩ ∧ w.cell? ⟨b, o + k, none⟩ = some (.int .i64 y) := by
  obtain ⟨hlt, rfl⟩ := List.getElem?_eq_some_iff.1 hk
  obtain ⟨b, o, hA, _, hc⟩ := h.at_int hlt
  exact ⟨b, o, hA, hc⟩
set_option maxRecDepth 100000 in
set_option maxHeartbeats 8000000 in
theorem Observe_any (w : World) (v : Value) (x : Lts) (tv : Value) (ls : List Int) (ct : Nat) (hd : LtsV w v x) (ht : IntsC w tv ls ct) (hT : Tab w) : Calls Tryd.prog 16 #[v, tv] w fun e w' => ∃ rv, e = .returned (.tuple #[rv, .int .i64 (observeR x ls).2]) ∧ FitC w' rv (observeR x ls).1 ∧ Ext w w' := by
  obtain ⟨A, c, rfl, hr, hlen⟩ := hd.form
  obtain ⟨At, rfl, htc, hct, htm⟩ := id ht
  unfold lenMax at htm
  go_enter Tryd.func16, Tryd.ntmps16
  go_upto_region 1 with fail
  refine wp_named ?_
  intro W1 hW1
  have hE1 : Ext w W1 := by rw [hW1]; exact (Ext.refl _).alloc _
  have k0 : ∀ w', Ext W1 w' → w'.cell? ⟨w.heap.size, 0, none⟩ = some (.int .i64 x.ins) := fun w' h => h.cell (by rw [hW1]; simp [go_sem])
  have k1 : ∀ w', Ext W1 w' → w'.cell? ⟨w.heap.size, 1, none⟩ = some (.int .i64 x.outs) := fun w' h => h.cell (by rw [hW1]; simp [go_sem])
  have k2 : ∀ w', Ext W1 w' → w'.cell? ⟨w.heap.size, 2, none⟩ = some (.slice A x.rows.length c) := fun w' h => h.cell (by rw [hW1]; simp [go_sem])
  clear hW1
  have hE0 := Ext.refl W1
  have hch := check_any W1 _ x (hd.ext hE1)
  by_cases h0 : checkI x = 0
  · have hg := check_good h0
    have H : Hid (observeR x ls = if badSt x ls then ([], 1) else (obsM x (maskL ls), 0)) := Lib.hid (if_neg (by simpa using h0))
    rw [h0] at hch
    have hgn := hg.nn
    unfold Lts.n at hgn
    clear h0
    have HT := Lib.hid (And.intro hT (And.intro hg (And.intro htc (And.intro hE1 hd))))
    clear hd hr hT hg
    go_upto_region 5 with ((with_reducible refine hch.mono ?_); rintro e w3 ⟨rfl, e3⟩)
    clear hch
    go_wp2
    go_loopw [17, 7] (fun iv sv wr => ∃ i : Nat, iv = .int .i64 i ∧ i ≤ ls.length ∧ sv = .int .u64 (maskL (ls.take i) : Nat) ∧ Hid ((∀ t, t < i → badS x ls t = false) ∧ maskL (ls.take i) < 2 ^ x.n) ∧ Ext W1 wr) (fun iv _ _ => ls.length - (intOf iv).toNat)
    case atStart => exact ⟨0, rfl, by omega, rfl, Lib.hid ⟨fun t ht => by omega, by simp [maskL]; exact Nat.two_pow_pos _⟩, e3⟩
    case round =>
      obtain ⟨i, rfl, hi, rfl, HP, hE⟩ := hrel
      obtain ⟨W5, hW5⟩ : ∃ W, W = wr := ⟨_, rfl⟩; subst hW5
      by_cases hlt : i < ls.length
      · obtain ⟨l, hl2⟩ : ∃ l, ls[i]? = some l := ⟨_, List.getElem?_eq_getElem hlt⟩
        obtain ⟨bt, ot, rfl, hcl⟩ := int_at (HT.out.2.2.1.ext (hE1.trans hE)) hl2
        have HB := Lib.hid (badS_eq (x := x) hl2)
        have HY := Lib.hid (fun h => badSt_yes (x := x) hlt h)
        have HS : Hid (maskL (ls.take (i + 1)) = maskL (ls.take i) ||| 2 ^ l.toNat) := Lib.hid (by rw [take_snoc hl2, maskL_snoc])
        have k2 := fun w' (h : Ext W5 w') => k2 w' (hE.trans h)
        have hE5 := Ext.refl W5
        have HE := Lib.hid hE
        clear hl2 hE htc
        by_cases h1 : l < 0
        · have H := Lib.hid (H.out.trans (if_pos (HY.out (by rw [HB.out, decide_eq_true h1]; rfl))))
          go_wp2
          go_ret2
          exact ⟨_, by rw [H.out]; rfl, by rw [H.out]; exact fit_nil _, hE1.trans HE.out⟩
        by_cases h2 : (x.rows.length : Int) ≤ l
        · have H := Lib.hid (H.out.trans (if_pos (HY.out (by rw [HB.out, decide_eq_true h2]; simp))))
          go_wp2
          go_ret2
          exact ⟨_, by rw [H.out]; rfl, by rw [H.out]; exact fit_nil _, hE1.trans HE.out⟩
        obtain ⟨n, rfl⟩ : ∃ n : Nat, l = (n : Int) := ⟨l.toNat, by omega⟩
        have hn : n < x.rows.length := by omega
        have hn' : n < x.n := hn
        have hZ := HT.out.2.1.mask HP.out.2
        have hS2 : 2 ^ n < 18446744073709551616 := HT.out.2.1.mask (Nat.pow_lt_pow_right (by omega) hn')
        have hor := or_u64 hZ hS2
        have hsh := shl_u64b (n := n) (by omega)
        have HLT := Lib.hid (or_lt HP.out.2 (show 2 ^ n < 2 ^ x.n from Nat.pow_lt_pow_right (by omega) hn'))
        have HS : Hid (maskL (ls.take (i + 1)) = maskL (ls.take i) ||| 2 ^ n) := Lib.hid HS.out
        generalize maskL (ls.take i) = Z at *
        generalize 2 ^ n = P at hor hsh HS HLT hS2
        obtain ⟨N, hN⟩ : ∃ N, N = Z ||| P := ⟨_, rfl⟩
        rw [← hN] at hor HS HLT
        clear hN
        have HB : Hid (badS x ls i = (decide (0 < i) && decide ((n : Int) ≤ ls.getD (i - 1) 0))) := Lib.hid (by rw [HB.out, decide_eq_false h1, decide_eq_false h2]; rfl)
        have HNO : Hid (badS x ls i = false → ∀ t, t < i + 1 → badS x ls t = false) := Lib.hid (fun h t ht => by
          rcases Nat.lt_or_ge t i with h1 | h1
          · exact HP.out.1 t h1
          · obtain rfl : t = i := by omega
            exact h)
        rcases Nat.eq_zero_or_pos i with hi0 | hi0
        · subst hi0
          rw [Nat.add_zero] at hcl
          have HN := Lib.hid (HNO.out (by rw [HB.out]; rfl))
          go_wp2
          go_roundw
          case rel => exact ⟨1, by go_num, by omega, by rw [HS.out], Lib.hid ⟨HN.out, by rw [HS.out]; exact HLT.out⟩, HE.out⟩
          case measure => simp [intOf]; omega
        · obtain ⟨i', rfl⟩ : ∃ i', i = i' + 1 := ⟨i - 1, by omega⟩
          obtain ⟨p, hp⟩ : ∃ p, ls[i']? = some p := ⟨_, List.getElem?_eq_getElem (by omega)⟩
          obtain ⟨bt2, ot2, hA2, hcp⟩ := int_at (HT.out.2.2.1.ext (hE1.trans HE.out)) hp
          injection hA2 with hA2
          injection hA2 with hb2 ho2
          subst hb2 ho2
          have HB : Hid (badS x ls (i' + 1) = decide ((n : Int) ≤ p)) := Lib.hid (by
            rw [HB.out, List.getD_eq_getElem?_getD, show i' + 1 - 1 = i' by omega, hp, decide_eq_true (by omega)]; rfl)
          have hil : (i' : Int) < (ls.length : Int) := by omega
          have hil2 : i' < ls.length := by omega
          have hsub : IntKind.i64.wrap (i' : Int) = (i' : Int) := by rw [IntKind.wrap_i64]; omega
          clear hp
          by_cases h3 : (n : Int) ≤ p
          · have H := Lib.hid (H.out.trans (if_pos (HY.out (by rw [HB.out, decide_eq_true h3]))))
            go_wp2
            go_ret2
            exact ⟨_, by rw [H.out]; rfl, by rw [H.out]; exact fit_nil _, hE1.trans HE.out⟩
          · have HN := Lib.hid (HNO.out (by rw [HB.out, decide_eq_false h3]))
            go_wp2
            go_roundw
            case rel => exact ⟨i' + 1 + 1, by go_num, by omega, by rw [HS.out], Lib.hid ⟨HN.out, by rw [HS.out]; exact HLT.out⟩, HE.out⟩
            case measure => simp [intOf]; omega
      · obtain rfl : i = ls.length := by omega
        rw [List.take_length] at *
        have H := Lib.hid (H.out.trans (if_neg (by rw [badSt_no (fun t ht => HP.out.1 t ht)]; simp)))
        have hpr := prepare_form W5 _ x (HT.out.2.2.2.2.ext (hE1.trans hE)) HT.out.2.1
        have hob := fun W v (hs : SysV W v x) (e : Ext W5 W) => observed_any W v x _ hs HT.out.2.1 HP.out.2 (HT.out.1.ext ((hE1.trans hE).trans e))
        have k0 := fun w' (h : Ext W5 w') => k0 w' (hE.trans h)
        have k1 := fun w' (h : Ext W5 w') => k1 w' (hE.trans h)
        have k2 := fun w' (h : Ext W5 w') => k2 w' (hE.trans h)
        have hE5 := Ext.refl W5
        have HE := Lib.hid hE
        clear hE htc
        go_wp2_with (first
          | ((with_reducible refine hpr.mono ?_); rintro e w2 ⟨A2, c2, B2, d2, rfl, hs2, e2⟩; have hob2 := hob w2 _ hs2 e2)
          | ((with_reducible refine hob2.mono ?_); rintro e w6 ⟨v6, rfl, hf6, e6⟩))
        go_ret2
        exact ⟨_, by rw [H.out]; rfl, by rw [H.out]; exact hf6, hE1.trans (HE.out.trans (e2.trans e6))⟩
  · have H : Hid (observeR x ls = ([], checkI x)) := Lib.hid (if_pos h0)
    have h1 : (checkI x != 0) = true := by simpa using h0
    generalize checkI x = z at *
    clear h0 hd hr
    go_wp2_with ((with_reducible refine hch.mono ?_); rintro e w1 ⟨rfl, e1⟩)
    go_ret2
    exact ⟨_, by rw [H.out]; rfl, by rw [H.out]; exact fit_nil _, hE1.trans e1⟩
end Go.Proofs.YtamodjlifpjaoaaDoor

namespace Go.Proofs.YtamodjlifpjaoaaDoor
open Go.RowKit
set_option linter.unusedVariables false
set_option linter.unusedSimpArgs false
attribute [local go_sem] Oper.quietV quietV Oper.gives givesV ext_refl_iff ext_alloc_iff ext_drew_iff ext_drewN_iff
/-- What way looks at: from where, by which label, how far. -/
structure Lnk where
  fr : Nat
  sy : Int
  ln : Nat
/-- A list of found things, of which the last three cells are known. -/
def LnksC (w : World) (v : Value) (n : Nat) (f : Nat → Lnk) : Prop :=
  ∃ b o c, v = .slice (some ⟨b, o, none⟩) n c ∧ n ≤ 100000000 ∧ ∀ i, i < n → w.cell? ⟨b, o + i * 5 + 2, none⟩ = some (.int .i64 ((f i).fr : Int)) ∧ w.cell? ⟨b, o + i * 5 + 3, none⟩ = some (.int .i64 (f i).sy) ∧ w.cell? ⟨b, o + i * 5 + 4, none⟩ = some (.int .i64 ((f i).ln : Int))
theorem LnksC.ext {w w' : World} {v : Value} {n : Nat} {f : Nat → Lnk} (h : LnksC w v n f) (e : Ext w w') : LnksC w' v n f := by
  obtain ⟨b, o, c, hv, hn, hc⟩ := h
  exact ⟨b, o, c, hv, hn, fun i hi => ⟨e.cell (hc i hi).1, e.cell (hc i hi).2.1, e.cell (hc i hi).2.2⟩⟩
def wayF (f : Nat → Lnk) : Nat → Nat → List Int
  | 0, _ => []
  | k + 1, n => wayF f k (f n).fr ++ [(f n).sy]
theorem wayF_len (f : Nat → Lnk) : ∀ k n, (wayF f k n).length = k
  | 0, _ => rfl
  | k + 1, n => by show (_ ++ [_]).length = _; rw [List.length_append, wayF_len f k]; rfl
/-- Where the links lead from n, k steps back. -/
def backF (f : Nat → Lnk) : Nat → Nat → Nat
  | 0, n => n
  | k + 1, n => backF f k (f n).fr
theorem backF_succ (f : Nat → Lnk) : ∀ k n, backF f (k + 1) n = (f (backF f k n)).fr
  | 0, _ => rfl
  | k + 1, n => by show backF f (k + 1) (f n).fr = _; rw [backF_succ f k]; rfl
theorem wayF_at (f : Nat → Lnk) : ∀ (p m n : Nat), (wayF f (p + 1 + m) n)[p]? = some (f (backF f m n)).sy
  | p, 0, n => by
    show (wayF f p (f n).fr ++ [(f n).sy])[p]? = _
    rw [List.getElem?_append_right (by rw [wayF_len]; exact Nat.le_refl _), wayF_len, Nat.sub_self]; rfl
  | p, m + 1, n => by
    show (wayF f (p + 1 + m) (f n).fr ++ [(f n).sy])[p]? = _
    rw [List.getElem?_append_left (by rw [wayF_len]; omega), wayF_at f p m]; rfl
theorem backF_lt {f : Nat → Lnk} {N : Nat} (h : ∀ i, i < N → (f i).fr < N) : ∀ {k n : Nat}, n < N → backF f k n < N
  | 0, _, hn => hn
  | k + 1, _, hn => backF_lt h (k := k) (h _ hn)
/-- The list, filled from its end. -/
def fillB (l : List Int) (p : Nat) : List Int := List.replicate p 0 ++ l.drop p
theorem fillB_all (l : List Int) : fillB l l.length = List.replicate l.length 0 := by unfold fillB; simp
theorem fillB_zero (l : List Int) : fillB l 0 = l := by unfold fillB; simp
theorem fillB_len (l : List Int) {p : Nat} (hp : p ≤ l.length) : (fillB l p).length = l.length := by unfold fillB; simp; omega
theorem fillB_at (l : List Int) (p : Nat) : (fillB l (p + 1))[p]? = some 0 := by
  unfold fillB
  rw [List.getElem?_append_left (by simp), List.getElem?_replicate, if_pos (by omega)]
theorem fillB_set {l : List Int} {p : Nat} {y : Int} (h : l[p]? = some y) : (fillB l (p + 1)).set p y = fillB l p := by
  unfold fillB
  rw [List.replicate_succ', List.append_assoc, List.set_append_right _ _ (by simp)]
  simp only [List.length_replicate, Nat.sub_self]
  obtain ⟨hp, rfl⟩ := List.getElem?_eq_some_iff.1 h
  rw [List.drop_eq_getElem_cons hp]; rfl
theorem iV_set (l : List Int) (i : Nat) (y : Int) : (l.map (Value.int .i64)).set i (.int .i64 y) = (l.set i y).map (.int .i64) := by rw [List.map_set]
set_option maxRecDepth 100000 in
set_option maxHeartbeats 8000000 in
theorem way_any (w : World) (v : Value) (N : Nat) (f : Nat → Lnk) (n : Nat) (hv : LnksC w v N f) (hf : ∀ i, i < N → (f i).fr < N) (hn : n < N) (hl : (f n).ln ≤ 100000) :
    Calls Tryd.prog 50 #[v, .int .i64 n] w fun e w' => ∃ rv, e = .returned rv ∧ FitC w' rv (wayF f (f n).ln n) ∧ Ext w w' := by
  obtain ⟨b, o, c, rfl, hN, hc⟩ := id hv
  have HV := Lib.hid hv
  obtain ⟨_, _, c4⟩ := hc n hn
  have c4' := fun w' (h : Ext w w') => h.cell c4
  have hmk := mk_ints (f n).ln hl
  obtain ⟨W, hW⟩ : ∃ W, W = wayF f (f n).ln n := ⟨_, rfl⟩
  have hWl : W.length = (f n).ln := by rw [hW]; exact wayF_len f _ n
  have HW := Lib.hid (And.intro hW hWl)
  have hnI : (n : Int) < (N : Int) := by omega
  rw [← hW]
  clear hW hWl hc hv
  generalize hL : (f n).ln = L at *
  have HL := Lib.hid hL
  clear hL
  go_enter Tryd.func50, Tryd.ntmps50
  go_upto_region 3 with fail
  have hO : OwnL w (w.alloc (.cells (Array.replicate L (.int .i64 0)) 3)) [.row 3 1 (.slice (some ⟨w.heap.size, 0, none⟩) L L) L ((fillB W L).map (.int .i64))] := by
    have h1 := (OwnL.nil (Ext.refl w)).add (alloc_ext w (.cells (Array.replicate L (.int .i64 0)) 3)) (A := .row 3 1 (.slice (some ⟨w.heap.size, 0, none⟩) L L) L (List.replicate L (.int .i64 0))) (own_new w _ 3 L hl)
    have h2 := fillB_all W
    rw [HW.out.2] at h2
    rw [h2, List.map_replicate]
    exact h1
  have HO := Lib.hid hO
  clear hO c4' c4 hmk
  generalize w.heap.size = g at *
  refine wp_named ?_
  intro W1 hW1
  rw [← hW1] at HO
  clear hW1
  go_wp2
  go_loopw [6, 1] (fun kv nv wr => ∃ p m : Nat, kv = .int .i64 ((p : Int) - 1) ∧ Hid (p + m = L) ∧ nv = .int .i64 (backF f m n : Nat) ∧ OwnL w wr [.row 3 1 (.slice (some ⟨g, 0, none⟩) L L) L ((fillB W p).map (.int .i64))]) (fun kv _ _ => (intOf kv + 1).toNat)
  case atStart => exact ⟨L, 0, rfl, Lib.hid (by omega), rfl, HO.out⟩
  case round =>
    clear HO
    obtain ⟨p, m, rfl, HPM, rfl, hO⟩ := hrel
    obtain ⟨W4, hW4⟩ : ∃ W, W = wr := ⟨_, rfl⟩; subst hW4
    cases p with
    | zero =>
      have hm1 : ((0 : Nat) : Int) - 1 = -1 := rfl
      rw [hm1]
      have HO := Lib.hid hO
      clear hO hm1
      go_wp2
      go_ret
      have h2 : W4.ownsRow w.heap.size 3 1 (.slice (some ⟨g, 0, none⟩) L L) L ((fillB W 0).map (.int .i64)) := HO.out.get 0 rfl
      rw [fillB_zero] at h2
      exact ⟨_, rfl, fit_of_owns h2 HW.out.2 (by unfold lenMax; omega), HO.out.ext⟩
    | succ p =>
      have hm1 : ((p + 1 : Nat) : Int) - 1 = (p : Int) := by omega
      rw [hm1]
      have hbl := backF_lt hf (k := m) hn
      obtain ⟨_, o9, c9, hv9, _, hc9⟩ := (HV.out.ext hO.ext)
      injection hv9 with hv9 _ hc99
      injection hv9 with hv9
      injection hv9 with hb9 ho9
      subst hb9 ho9 hc99
      obtain ⟨c2, c3, _⟩ := hc9 _ hbl
      have hwat : Hid (W[p]? = some (f (backF f m n)).sy) := Lib.hid (by
        rw [HW.out.1, show L = p + 1 + m by have := HPM.out; omega]; exact wayF_at f p m n)
      have hbs : Hid (backF f (m + 1) n = (f (backF f m n)).fr) := Lib.hid (backF_succ f m n)
      have hpL : p < L := by have := HPM.out; omega
      have hpI : (p : Int) < (L : Int) := by omega
      generalize backF f m n = q at *
      have hqI : (q : Int) < (N : Int) := by omega
      generalize (f q).sy = sy at *
      generalize (f q).fr = fr at *
      have c2 := fun w' (h : Ext W4 w') => h.cell c2
      have c3 := fun w' (h : Ext W4 w') => h.cell c3
      have hE4 := Ext.refl W4
      have HO := Lib.hid hO
      clear hO hm1 hc9 hf hn
      go_upto_region 5 with fail
      refine wp_region_ext 12 (factsOf []) (fun k => ([[], [], [], [], [2, 3], [2, 3, 4], [2, 3, 4, 5], [], [], [7, 8], [7, 8, 9], [7, 8, 9, 10], [0, 1, 2, 3, 4, 5, 6, 7, 8, 9, 10, 11], [0, 1, 2, 3, 4, 5, 6, 7, 8, 9, 10, 11, 12], [0, 1, 2, 3, 4, 5, 6, 7, 8, 9, 10, 11, 12, 13]] : List (List Nat)).getD k []) (by kernel_rfl) (by kernel_rfl) Ext.pre (mono_nil) ?_
      simp only [List.take_succ_cons, List.take_zero]
      repeat (first | (with_reducible refine lexL_quiet' (v := ?_) ?_ ?_ ?_ ?_; rotate_left; (· with_reducible rfl); (· simp [factsOf]); (· intro w1 hw1 _; go_simp; with_reducible rfl); (try simp only [Act.put, List.setIfInBounds_toArray, List.set_cons_zero, List.set_cons_succ])) | (with_reducible refine lexL_skip ?_ ?_; (· simp [Region.wanted, yielded, undef]); (try simp only [Act.put, List.setIfInBounds_toArray, List.set_cons_zero, List.set_cons_succ])) | (with_reducible refine lexL_quiet (v := ?_) ?_ ?_ ?_ ?_; rotate_left; (· simp [Region.wanted, yielded, undef]); (· simp [factsOf]); (· intro w1 hw1 _; go_simp; with_reducible rfl); (try simp only [Act.put, List.setIfInBounds_toArray, List.set_cons_zero, List.set_cons_succ])))
      with_reducible refine lexL_nil ?_; intro w1 hw1 hk1; simp only [List.drop_succ_cons, List.drop_zero]
      clear hk1
      have hO1 := HO.out.trans hw1
      have s1 := cell_own hO1 0 rfl (j := p) (u := .int .i64 0) (by rw [List.getElem?_map, fillB_at]; rfl)
      have s2 := free_own hO1 0 rfl p
      have hO2 := hO1.store 0 rfl p (.int .i64 sy)
      rw [iV_set, fillB_set hwat.out] at hO2
      have HO2 := Lib.hid hO2
      clear hO1 hO2 c2 c3 hE4
      go_wp2
      go_roundw
      case rel => exact ⟨p, m + 1, rfl, Lib.hid (by have := HPM.out; omega), by rw [hbs.out], HO2.out⟩
      case measure => simp [intOf]
end Go.Proofs.YtamodjlifpjaoaaDoor

namespace Go.Proofs.YtamodjlifpjaoaaDoor
open Go.RowKit Go.Maps
set_option linter.unusedVariables false
set_option linter.unusedSimpArgs false
attribute [local go_sem] Oper.quietV quietV Oper.gives givesV ext_refl_iff ext_alloc_iff ext_drew_iff ext_drewN_iff
section
variable {κ : Type} [DecidableEq κ]
/-- Block b is a map of just these keys, each with the value true. -/
def SetIs (w : World) (b : Nat) (enc : κ → Value) (ok : κ → Prop) (ks : List κ) : Prop :=
  ∃ entries clock, w.heap[b]? = some (.map entries clock) ∧ entries.toList.map (fun e => (e.key, e.val)) = ks.map (fun p => (enc p, .bool true)) ∧ (∀ p ∈ ks, ok p)
def SetOf (enc : κ → Value) (ok : κ → Prop) (o : Obj) (ks : List κ) : Prop := ∀ (w : World) (b : Nat), w.heap[b]? = some o → SetIs w b enc ok ks
omit [DecidableEq κ] in
theorem setOf_of {w : World} {b : Nat} {enc : κ → Value} {ok : κ → Prop} {ks : List κ} (h : SetIs w b enc ok ks) : ∃ o, w.heap[b]? = some o ∧ SetOf enc ok o ks := by
  obtain ⟨en, cl, hb, r⟩ := h
  exact ⟨_, hb, fun w' b' hb' => ⟨en, cl, hb', r⟩⟩
omit [DecidableEq κ] in
theorem SetOf.made (enc : κ → Value) (ok : κ → Prop) : SetOf enc ok (.map #[] 0) [] := fun w b hb => ⟨#[], 0, hb, by simp, by simp⟩
variable {P : Program} {k : TypeId} {enc : κ → Value} {ok : κ → Prop} {w : World} {b : Nat} {ks : List κ}
omit [DecidableEq κ] in
theorem find_set (K : KeyEnc P k enc ok) {entries : Array MapEntry} (he : entries.toList.map (fun e => (e.key, e.val)) = ks.map (fun p => (enc p, Value.bool true))) (hok : ∀ p ∈ ks, ok p) {x : κ} (hx : ok x) :
    (x ∉ ks ∧ (Instr.findKey k (enc x) entries.toList).run P w = .ok none w) ∨ ∃ j, x ∈ ks ∧ (Instr.findKey k (enc x) entries.toList).run P w = .ok (some (j, .bool true)) w := by
  obtain ⟨l, hl⟩ := K.read x hx
  have hmem : ∀ e ∈ entries.toList, ∃ p ∈ ks, e.key = enc p ∧ e.val = .bool true := fun e h => by
    have h1 : (e.key, e.val) ∈ ks.map (fun p => (enc p, Value.bool true)) := he ▸ List.mem_map.2 ⟨e, h, rfl⟩
    obtain ⟨p, hp, hpe⟩ := List.mem_map.1 h1
    simp only [Prod.mk.injEq] at hpe
    exact ⟨p, hp, hpe.1.symm, hpe.2.symm⟩
  rcases K.law.find w hl entries.toList (fun e h => by
    obtain ⟨p, hp, hk, _⟩ := hmem e h
    rw [hk]; exact K.read _ (hok p hp)) with ⟨h1, h2⟩ | ⟨j, e, h1, h2, h3⟩
  · refine .inl ⟨fun hm => ?_, h1⟩
    have h4 : (enc x, Value.bool true) ∈ entries.toList.map (fun e => (e.key, e.val)) := he ▸ List.mem_map.2 ⟨x, hm, rfl⟩
    obtain ⟨e', he', hee⟩ := List.mem_map.1 h4
    simp only [Prod.mk.injEq] at hee
    exact h2 e' he' hee.1
  · obtain ⟨p, hpm, hk, hv⟩ := hmem e (List.mem_of_getElem? h2)
    have : p = x := K.inj _ _ (hk.symm.trans h3)
    exact .inr ⟨j, this ▸ hpm, by rw [← hv]; exact h1⟩
theorem set_lookup {W : World} {o : Obj} {t e : TypeId} (K : KeyEnc P k enc ok) (ht : P.underlying t = some (.map k e)) (hz : (zeroValue e).run P W = .ok (.bool false) W) (hb : W.heap[b]? = some o) (ho : SetOf enc ok o ks) {x : κ} (hx : ok x) {v : Value} (hv : v = enc x) :
    (Instr.lookup t (.map (some b)) v false).run P W = .ok (.bool (decide (x ∈ ks))) W := by
  subst hv
  obtain ⟨en, cl, hb', he, hok⟩ := ho W b hb
  obtain ⟨l, hl⟩ := K.read x hx
  have hobj : (getObj b).run P W = .ok (.map en cl) W := by simp [getObj, Sem.run, hb']
  have hchk := K.law.check W en.isEmpty hl
  rcases find_set (w := W) K he hok hx with ⟨h1, h2⟩ | ⟨j, h1, h2⟩
  · simp [Instr.lookup, run_underlying ht, hobj, hchk, h2, h1, hz]
  · simp [Instr.lookup, run_underlying ht, hobj, hchk, h2, h1]
omit [DecidableEq κ] in
theorem set_update {W : World} {t e : TypeId} (K : KeyEnc P k enc ok) (ht : P.underlying t = some (.map k e)) (h : SetIs W b enc ok ks) {x : κ} (hx : ok x) (hn : x ∉ ks) :
    ∃ w', (Instr.mapUpdate t (.map (some b)) (enc x) (.bool true)).run P W = .ok () w' ∧ SetIs w' b enc ok (ks ++ [x]) ∧ W.grownBy w' (some b) := by
  obtain ⟨en, cl, hb, he, hok⟩ := h
  obtain ⟨l, hl⟩ := K.read x hx
  have hobj : (getObj b).run P W = .ok (.map en cl) W := by simp [getObj, Sem.run, hb]
  have hchk := K.law.check W false hl
  have hlt := lt_of_block hb
  rcases find_set (w := W) K he hok hx with ⟨h1, h2⟩ | ⟨j, h1, h2⟩
  · refine ⟨{ W with heap := W.heap.setIfInBounds b (.map (en.push { key := enc x, val := .bool true, born := cl }) (cl + 1)) }, ?_, ?_, ?_⟩
    · simp [Instr.mapUpdate, run_underlying ht, hobj, hchk, h2, setObj, Sem.run, hb]
    · refine ⟨en.push { key := enc x, val := .bool true, born := cl }, cl + 1, by simp [hlt], by simp [he], ?_⟩
      intro p hpm
      rcases List.mem_append.1 hpm with hpm | hpm
      · exact hok p hpm
      · simp at hpm; subst hpm; exact hx
    · exact ⟨rfl, rfl, rfl, by simp, fun i hi hne => by
        have : b ≠ i := fun e => hne (by rw [e])
        simp [Array.getElem?_setIfInBounds_ne this]⟩
  · exact absurd h1 hn
omit [DecidableEq κ] in
/-- A new key is stored: the set has one more. -/
theorem OwnL.setPut {w W : World} {L : List Asn} (h : OwnL w W L) (i : Nat) {o : Obj} {t e : TypeId} (hi : L[i]? = some (.blk b o)) (ho : SetOf enc ok o ks) (K : KeyEnc P k enc ok) (ht : P.underlying t = some (.map k e))
    {x : κ} (hx : ok x) (hn : x ∉ ks) {v : Value} (hv : v = enc x) : ∃ W' o', (Instr.mapUpdate t (.map (some b)) v (.bool true)).run P W = .ok () W' ∧ SetOf enc ok o' (ks ++ [x]) ∧ OwnL w W' (L.set i (.blk b o')) ∧ W.grownBy W' (some b) := by
  subst hv
  have h1 : w.heap.size ≤ b ∧ W.heap[b]? = some o := h.get i hi
  obtain ⟨W', hr, hm, hg⟩ := set_update K ht (ho W b h1.2) hx hn
  obtain ⟨o', hb', hm'⟩ := setOf_of hm
  exact ⟨W', o', hr, hm', h.step (A' := .blk b o') i hi hg (fun c hc => by cases hc; rfl) ⟨h1.1, hb'⟩ (fun c hc => .inl hc), hg⟩
end
theorem laidOut : laidOutB Tryd.prog = true := by kernel_rfl
theorem row89 : 89 < Tryd.prog.types.size := of_decide_eq_true (by kernel_rfl)
theorem row104 : 104 < Tryd.prog.types.size := of_decide_eq_true (by kernel_rfl)
theorem deep89 : Tryd.prog.keyTypeAt 5 89 = true := by kernel_rfl
theorem deep89' : Tryd.prog.keyType 89 = true := by kernel_rfl
theorem deep104 : Tryd.prog.keyTypeAt 5 104 = true := by kernel_rfl
theorem deep104' : Tryd.prog.keyType 104 = true := by kernel_rfl
theorem wide89 : (match Tryd.prog.underlying 89 with | some (.array _ _) | some (.struct _) => true | _ => false) = true := by kernel_rfl
theorem wide104 : (match Tryd.prog.underlying 104 with | some (.array _ _) | some (.struct _) => true | _ => false) = true := by kernel_rfl
set_option maxRecDepth 100000 in
theorem law89 : Keyed Tryd.prog 89 := Keyed.of_law (deep_law_laid laidOut (m := 5) (by omega) row89 deep89 wide89)
set_option maxRecDepth 100000 in
theorem law104 : Keyed Tryd.prog 104 := Keyed.of_law (deep_law_laid laidOut (m := 5) (by omega) row104 deep104 wide104)
theorem cells89 : Tryd.prog.cellsOf 89 = 2 := by kernel_rfl
theorem cells104 : Tryd.prog.cellsOf 104 = 2 := by kernel_rfl
theorem cells3 : Tryd.prog.cellsOf 3 = 1 := by kernel_rfl
theorem cells76 : Tryd.prog.cellsOf 76 = 1 := by kernel_rfl
theorem typesN : ∃ d, Tryd.prog.types.size + 1 = d + 5 := by
  have := row104
  exact ⟨Tryd.prog.types.size - 4, by omega⟩
theorem wf_i64 {x : Nat} (h : x ≤ 1000000000) : (Lit.int .i64 (x : Int)).wf = true := by
  unfold Lit.wf
  have : IntKind.i64.wrap (x : Int) = x := by rw [IntKind.wrap_i64]; omega
  simp [this, IntKind.min, IntKind.bits, IntKind.signed]; omega
theorem wf_u64 {x : Nat} (h : x < 18446744073709551616) : (Lit.int .u64 (x : Int)).wf = true := by
  unfold Lit.wf
  have : IntKind.u64.wrap (x : Int) = x := by rw [IntKind.wrap_u64]; omega
  simp [this, IntKind.min, IntKind.max, IntKind.bits, IntKind.signed]; omega
theorem lits3 (d : Nat) {x : Nat} (hx : x ≤ 1000000000) : ∃ l, Tryd.prog.keyLits (d + 1) 3 [.int .i64 (x : Int)] = some l :=
  ⟨[.int .i64 x], by simp [Program.keyLits, Tryd.underlying3, wf_i64 hx]⟩
theorem lits76 (d : Nat) {x : Nat} (hx : x < 18446744073709551616) : ∃ l, Tryd.prog.keyLits (d + 1) 76 [.int .u64 (x : Int)] = some l :=
  ⟨[.int .u64 x], by simp [Program.keyLits, Tryd.underlying76, wf_u64 hx]⟩
def pairV (p : Nat × Nat) : Value := .agg #[.int .u64 p.1, .int .u64 p.2]
def pairOK (p : Nat × Nat) : Prop := p.1 < 18446744073709551616 ∧ p.2 < 18446744073709551616
def placeV (p : Nat × Nat) : Value := .agg #[.int .i64 p.1, .int .u64 p.2]
def placeOK (p : Nat × Nat) : Prop := p.1 ≤ 1000000000 ∧ p.2 < 18446744073709551616
theorem lits89 (d : Nat) {x y : Nat} (hx : x < 18446744073709551616) (hy : y < 18446744073709551616) : ∃ r, Tryd.prog.keyLits (d + 2) 89 [.int .u64 (x : Int), .int .u64 (y : Int)] = some r := by
  obtain ⟨a, ha⟩ := lits76 d hx
  obtain ⟨b, hb⟩ := lits76 d hy
  unfold Program.keyLits
  rw [Tryd.underlying89]
  simp [cells89, cells76, ha, hb]
theorem lits104 (d : Nat) {x y : Nat} (hx : x ≤ 1000000000) (hy : y < 18446744073709551616) : ∃ r, Tryd.prog.keyLits (d + 2) 104 [.int .i64 (x : Int), .int .u64 (y : Int)] = some r := by
  obtain ⟨a, ha⟩ := lits3 d hx
  obtain ⟨b, hb⟩ := lits76 d hy
  unfold Program.keyLits
  rw [Tryd.underlying104]
  simp [cells104, cells76, cells3, ha, hb]
theorem key89 : KeyEnc Tryd.prog 89 pairV pairOK where
  law := law89
  read := fun l ⟨h1, h2⟩ => by
    obtain ⟨d, hd⟩ := typesN
    obtain ⟨r, hr⟩ := lits89 (d + 3) h1 h2
    have hf : (pairV l).formed Tryd.prog 89 = true := by simp [pairV, Value.formed, Tryd.underlying89, cells89]
    refine ⟨.string (keyBytes r), ?_⟩
    unfold keyOf
    rw [Tryd.underlying89]
    simp only [deep89', hf, Bool.and_self, if_true, hd]
    rw [show (pairV l).cells.toList = [.int .u64 l.1, .int .u64 l.2] by simp [pairV, Value.cells], hr]
    rfl
  inj := fun x y h => by
    unfold pairV at h
    simp only [Value.agg.injEq, Array.mk.injEq, List.cons.injEq, Value.int.injEq, true_and, and_true] at h
    obtain ⟨x1, x2⟩ := x
    obtain ⟨y1, y2⟩ := y
    simp only [Prod.mk.injEq] at h ⊢
    omega
theorem key104 : KeyEnc Tryd.prog 104 placeV placeOK where
  law := law104
  read := fun l ⟨h1, h2⟩ => by
    obtain ⟨d, hd⟩ := typesN
    obtain ⟨r, hr⟩ := lits104 (d + 3) h1 h2
    have hf : (placeV l).formed Tryd.prog 104 = true := by simp [placeV, Value.formed, Tryd.underlying104, cells104]
    refine ⟨.string (keyBytes r), ?_⟩
    unfold keyOf
    rw [Tryd.underlying104]
    simp only [deep104', hf, Bool.and_self, if_true, hd]
    rw [show (placeV l).cells.toList = [.int .i64 l.1, .int .u64 l.2] by simp [placeV, Value.cells], hr]
    rfl
  inj := fun x y h => by
    unfold placeV at h
    simp only [Value.agg.injEq, Array.mk.injEq, List.cons.injEq, Value.int.injEq, true_and, and_true] at h
    obtain ⟨x1, x2⟩ := x
    obtain ⟨y1, y2⟩ := y
    simp only [Prod.mk.injEq] at h ⊢
    omega
theorem zero4 (w : World) : (zeroValue 4).run Tryd.prog w = .ok (.bool false) w := by kernel_rfl
end Go.Proofs.YtamodjlifpjaoaaDoor

namespace Go.Proofs.YtamodjlifpjaoaaDoor
open Go.RowKit
def headR : Code → Option Nat
  | .region k _ _ => some k
  | .seq a _ => headR a
  | .block _ c => headR c
  | .loop c => headR c
  | _ => none
/-- What stands from region n on (a region on the function's own level). -/
def tailR (n : Nat) : Code → Option Code
  | .seq a b => if headR a = some n then some (.seq a b) else tailR n b
  | _ => none
def textR (n : Nat) (o : Option Code) : Code := match o with
  | some c => (tailR n c).getD .skip
  | none => .skip
/-- The walk stops here. -/
structure Stop (p : Prop) : Prop where
  out : p
/-- To look at a goal from near: an arm (at_builtin; refine halt_here ?_). -/
theorem halt_here {p : Prop} (h : Stop p) : p := h.out
theorem stop_at (n : Nat) {P : Program} {ops : Array Oper} {d : Bool} {rest : Code} {Q : Exit → Act → World → Prop} {a : Act} {w : World} (h : Stop (Code.wp P (.seq (.region n ops d) rest) Q a w)) : Code.wp P (.seq (.region n ops d) rest) Q a w := h.out
theorem stop_at2 (n : Nat) {P : Program} {ops : Array Oper} {d : Bool} {c rest : Code} {Q : Exit → Act → World → Prop} {a : Act} {w : World} (h : Stop (Code.wp P (.seq (.seq (.region n ops d) c) rest) Q a w)) : Code.wp P (.seq (.seq (.region n ops d) c) rest) Q a w := h.out
end Go.Proofs.YtamodjlifpjaoaaDoor

namespace Go.Proofs.YtamodjlifpjaoaaDoor
open Go.RowKit
set_option linter.unusedVariables false
set_option linter.unusedSimpArgs false
attribute [local go_sem] Oper.quietV quietV Oper.gives givesV ext_refl_iff ext_alloc_iff ext_drew_iff ext_drewN_iff
noncomputable def T21 (n : Nat) : Code := textR n Tryd.f21.body
theorem results_tmp4 {fn : Func} {t u v z : Tmp} (h : fn.results = #[.tmp t, .tmp u, .tmp v, .tmp z]) (tmps : Array Value) (P : Program) (w : World) :
    (results fn tmps).run P w = .ok (.tuple #[tmps.getD t undef, tmps.getD u undef, tmps.getD v undef, tmps.getD z undef]) w := by
  simp [results, h]
abbrev Fp := Fd (Nat × Nat)
def fdCells (r : Fp) : List Value := [.int .u64 r.key.1, .int .u64 r.key.2, .int .i64 r.fr, .int .i64 r.sy, .int .i64 r.ln]
theorem fds_len : ∀ l : List Fp, (l.flatMap fdCells).length = l.length * 5
  | [] => rfl
  | y :: t => by rw [List.flatMap_cons, List.length_append, fds_len t]; simp [fdCells]; omega
theorem fds_get : ∀ {l : List Fp} {i : Nat} {r : Fp} (h : l[i]? = some r) (j : Nat) (u : Value), (fdCells r)[j]? = some u → (l.flatMap fdCells)[i * 5 + j]? = some u
  | [], i, r, h, _, _, _ => by simp at h
  | y :: t, 0, r, h, j, u, hj => by
    simp at h; subst h
    have := (List.getElem?_eq_some_iff.1 hj).1
    rw [List.flatMap_cons, Nat.zero_mul, Nat.zero_add, List.getElem?_append_left this]; exact hj
  | y :: t, i + 1, r, h, j, u, hj => by
    rw [List.flatMap_cons, List.getElem?_append_right (by simp [fdCells]; omega)]
    have := fds_get (l := t) (i := i) (r := r) (by simpa using h) j u hj
    rw [← this]; congr 1; simp [fdCells]; omega
def FdsC (w : World) (A : Option Addr) (l : List Fp) : Prop := Cells w A (l.flatMap fdCells)
theorem FdsC.ext {w w' : World} {A : Option Addr} {l : List Fp} (h : FdsC w A l) (e : Ext w w') : FdsC w' A l := Cells.ext h e
theorem FdsC.at_ {w : World} {A : Option Addr} {l : List Fp} (h : FdsC w A l) {i : Nat} {r : Fp} (hi : l[i]? = some r) : ∃ b o, A = some ⟨b, o, none⟩ ∧ w.cell? ⟨b, o + i * 5, none⟩ = some (.int .u64 r.key.1) ∧ w.cell? ⟨b, o + i * 5 + 1, none⟩ = some (.int .u64 r.key.2) ∧ w.cell? ⟨b, o + i * 5 + 2, none⟩ = some (.int .i64 r.fr) ∧ w.cell? ⟨b, o + i * 5 + 3, none⟩ = some (.int .i64 r.sy) ∧ w.cell? ⟨b, o + i * 5 + 4, none⟩ = some (.int .i64 r.ln) := by
  have hil := (List.getElem?_eq_some_iff.1 hi).1
  obtain ⟨b, o, rfl, _, hc⟩ := h (by rw [fds_len]; omega)
  have key := fun (j : Nat) (u : Value) (hj : (fdCells r)[j]? = some u) => hc _ _ (fds_get hi j u hj)
  exact ⟨b, o, rfl, key 0 _ rfl, by have := key 1 _ rfl; rwa [← Nat.add_assoc] at this, by have := key 2 _ rfl; rwa [← Nat.add_assoc] at this, by have := key 3 _ rfl; rwa [← Nat.add_assoc] at this, by have := key 4 _ rfl; rwa [← Nat.add_assoc] at this⟩
/-- The links of a list. -/
def lnkOf (root : Nat × Nat) (l : List Fp) (i : Nat) : Lnk := ⟨(l.getD i (rt root)).fr.toNat, (l.getD i (rt root)).sy, (l.getD i (rt root)).ln.toNat⟩
theorem wayF_of (root : Nat × Nat) (l : List Fp) : ∀ k n, wayF (lnkOf root l) k n = wayP root l k n
  | 0, _ => rfl
  | k + 1, n => by show wayF _ k _ ++ [_] = wayP root l k _ ++ [_]; rw [wayF_of root l k]; rfl
theorem lnks_of {w : World} {A : Option Addr} {root : Nat × Nat} {cand : Nat × Nat → List (Int × (Nat × Nat))} {ok : Nat × Nat → Bool} {l : List Fp} {c : Nat} (h : FdsC w A l) (hok : OkB root cand ok l) (hn : l.length ≤ 100000000) : LnksC w (.slice A l.length c) l.length (lnkOf root l) ∧ ∀ i, i < l.length → (lnkOf root l i).fr < l.length := by
  obtain ⟨b, o, rfl, _⟩ := h.at_ hok.first
  refine ⟨⟨b, o, c, rfl, hn, fun i hi => ?_⟩, fun i hi => ?_⟩
  · have hr := List.getElem?_eq_getElem hi
    obtain ⟨b', o', he, _, _, h2, h3, h4⟩ := h.at_ hr
    cases he
    have hln := hok.ln i _ hr
    have hg := fd_get (d := rt root) hr
    unfold lnkOf
    rw [hg]
    exact ⟨by rw [h2]; congr 2; simp only; omega, h3, by rw [h4]; congr 2; simp only; omega⟩
  · have hr := List.getElem?_eq_getElem hi
    have hln := hok.ln i _ hr
    unfold lnkOf
    rw [fd_get (d := rt root) hr]
    simp only
    omega
theorem confG_none {x y : Lts} (h : ∀ (m : Nat) (z : Fp), (fndL x y)[m]? = some z → badC x y z.key = none) : confG x y = (true, [], 0, 0) := by
  unfold confG
  have : (fndL x y).findIdx? (offC x y) = none := by
    rw [List.findIdx?_eq_none_iff]
    intro z hz
    obtain ⟨m, hm⟩ := List.getElem?_of_mem hz
    unfold offC
    rw [h m z hm]; rfl
  rw [this]
theorem confG_some {x y : Lts} {n : Nat} {r : Fp} {l : Int} (hn : (fndL x y)[n]? = some r) (hb : badC x y r.key = some l) (h : ∀ (m : Nat) (z : Fp), m < n → (fndL x y)[m]? = some z → badC x y z.key = none) :
    confG x y = if 256 < r.ln then (false, [], 0, 3) else (false, wayC x y n, l, 0) := by
  unfold confG
  have : (fndL x y).findIdx? (offC x y) = some n := by
    rw [List.findIdx?_eq_some_iff_getElem]
    obtain ⟨h1, h2⟩ := List.getElem?_eq_some_iff.1 hn
    refine ⟨h1, by unfold offC; rw [h2, hb]; rfl, fun j hj => ?_⟩
    unfold offC
    rw [h j _ hj (List.getElem?_eq_getElem (by omega))]; simp
  rw [this]
  simp only
  rw [fd_get hn, hb]; rfl
theorem find_at {α : Type} {p : α → Bool} : ∀ {l : List α} {j : Nat} {a : α}, l[j]? = some a → p a = true → (∀ (t : Nat) (b : α), t < j → l[t]? = some b → p b = false) → l.find? p = some a
  | [], _, _, h, _, _ => by simp at h
  | b :: l, 0, a, h, hp, _ => by simp at h; subst h; simp [hp]
  | b :: l, j + 1, a, h, hp, hn => by
    rw [List.find?_cons, hn 0 b (by omega) rfl]
    exact find_at (by simpa using h) hp (fun t c ht hc => hn (t + 1) c (by omega) (by simpa using hc))
theorem find_no {α : Type} {p : α → Bool} {l : List α} (h : ∀ (t : Nat) (b : α), l[t]? = some b → p b = false) : l.find? p = none := by
  rw [List.find?_eq_none]
  intro b hb
  obtain ⟨t, ht⟩ := List.getElem?_of_mem hb
  rw [h t b ht]; simp
/-- What Conforms hands back. -/
def ConfP (w : World) (r : Bool × List Int × Int × Int) (e : Ending) (w' : World) : Prop := ∃ tv, e = .returned (.tuple #[.bool r.1, tv, .int .i64 r.2.2.1, .int .i64 r.2.2.2]) ∧ FitC w' tv r.2.1 ∧ Ext w w'
/-- A prepared system in a block. -/
def BoxS (W : World) (b : Nat) (x : Lts) : Prop := ∃ A c B d, W.cell? ⟨b, 0, none⟩ = some (.int .i64 x.ins) ∧ W.cell? ⟨b, 1, none⟩ = some (.int .i64 x.outs) ∧ W.cell? ⟨b, 2, none⟩ = some (.slice A x.rows.length c) ∧ W.cell? ⟨b, 3, none⟩ = some (.slice B x.rows.length d) ∧ SysV W (.agg #[.int .i64 x.ins, .int .i64 x.outs, .slice A x.rows.length c, .slice B x.rows.length d]) x
theorem BoxS.ext {W W' : World} {b : Nat} {x : Lts} (h : BoxS W b x) (e : Ext W W') : BoxS W' b x := by
  obtain ⟨A, c, B, d, h0, h1, h2, h3, h4⟩ := h
  exact ⟨A, c, B, d, e.cell h0, e.cell h1, e.cell h2, e.cell h3, h4.ext e⟩
theorem BoxS.of {W : World} {b : Nat} {x : Lts} {A B : Option Addr} {c d : Nat} (hb : W.heap[b]? = some (.cells #[.int .i64 x.ins, .int .i64 x.outs, .slice A x.rows.length c, .slice B x.rows.length d] 73 (0, 0))) (hs : SysV W (.agg #[.int .i64 x.ins, .int .i64 x.outs, .slice A x.rows.length c, .slice B x.rows.length d]) x) : BoxS W b x :=
  ⟨A, c, B, d, cell_of_blk hb 0 rfl, cell_of_blk hb 1 rfl, cell_of_blk hb 2 rfl, cell_of_blk hb 3 rfl, hs⟩
set_option maxRecDepth 100000 in
set_option maxHeartbeats 16000000 in
theorem conf_t28 (w W : World) (b11 b12 : Nat) (x y : Lts) (A14 : Option Addr) (c14' : Nat) (c0 c1 c2 c3 c4 c5 c6 c7 c8 c9 c10 c13 c15 c16 c17 c18 c19 c20 c21 c22 c23 c24 c25 c26 c27 c28 c29 c30 c31 c32 c33 c34 c35 c36 c37 c38 c39 c40 c41 c42 c43 c44 c45 c46 c47 c48 c49 c50 c51 c52 c53 c54 c55 c56 c57 c58 c59 c60 c61 c62 c63 c64 c65 c66 c67 c68 c69 c70 c71 c72 c73 c74 c75 c76 c77 c78 c79 c80 c81 c82 c83 c84 c85 c86 c87 c88 c89 c90 c91 c92 c93 c94 c95 c96 c97 c98 c99 c100 c101 c102 c103 c104 c105 c106 c107 c108 c109 c110 c111 c112 c113 c114 c115 c116 c117 c118 c119 c120 c121 c122 c123 c124 c125 c126 c127 c128 c129 c130 c131 c132 c133 c134 c135 c136 c137 c138 c139 c140 c141 c142 c143 c144 c145 c146 c147 c148 c149 c150 c151 c152 c153 c154 c155 c156 c157 c158 c159 c160 c161 : Value) (h0 : Ext w W) (hT : Tab W) (hx : Good x) (hy : Good y) (hbx : BoxS W b11 x) (hby : BoxS W b12 y) (hL : FdsC W A14 (fndL x y)) (hN : (fndL x y).length ≤ 4096) (hc14 : (fndL x y).length ≤ c14') :
    Code.wp Tryd.prog (T21 28) (bodyPost Tryd.prog Tryd.f21 (ConfP w (confG x y))) ⟨(c0 :: c1 :: c2 :: c3 :: c4 :: c5 :: c6 :: c7 :: c8 :: c9 :: c10 :: .pointer (some ⟨b11, 0, none⟩) :: .pointer (some ⟨b12, 0, none⟩) :: c13 :: .slice A14 (fndL x y).length c14' :: c15 :: c16 :: c17 :: c18 :: c19 :: c20 :: c21 :: c22 :: c23 :: c24 :: c25 :: c26 :: c27 :: c28 :: c29 :: c30 :: c31 :: c32 :: c33 :: c34 :: c35 :: c36 :: c37 :: c38 :: c39 :: c40 :: c41 :: c42 :: c43 :: c44 :: c45 :: c46 :: c47 :: c48 :: c49 :: c50 :: c51 :: c52 :: c53 :: c54 :: c55 :: c56 :: c57 :: c58 :: c59 :: c60 :: c61 :: c62 :: c63 :: c64 :: c65 :: c66 :: c67 :: c68 :: c69 :: c70 :: c71 :: c72 :: c73 :: c74 :: c75 :: c76 :: c77 :: c78 :: c79 :: c80 :: c81 :: c82 :: c83 :: c84 :: c85 :: c86 :: c87 :: c88 :: c89 :: c90 :: c91 :: c92 :: c93 :: c94 :: c95 :: c96 :: c97 :: c98 :: c99 :: c100 :: c101 :: c102 :: c103 :: c104 :: c105 :: c106 :: c107 :: c108 :: c109 :: c110 :: c111 :: c112 :: c113 :: c114 :: c115 :: c116 :: c117 :: c118 :: c119 :: c120 :: c121 :: c122 :: c123 :: c124 :: c125 :: c126 :: c127 :: c128 :: c129 :: c130 :: c131 :: c132 :: c133 :: c134 :: c135 :: c136 :: c137 :: c138 :: c139 :: c140 :: c141 :: c142 :: c143 :: c144 :: c145 :: c146 :: c147 :: c148 :: c149 :: c150 :: c151 :: c152 :: c153 :: c154 :: c155 :: c156 :: c157 :: c158 :: c159 :: c160 :: c161 :: []).toArray, []⟩ W := by
  conv => arg 2; whnf
  obtain ⟨pA, pc, pB, pd, p0, p1, p2, p3, pS⟩ := hbx
  have p0 := fun w' (h : Ext W w') => h.cell p0
  have p1 := fun w' (h : Ext W w') => h.cell p1
  have p2 := fun w' (h : Ext W w') => h.cell p2
  have p3 := fun w' (h : Ext W w') => h.cell p3
  obtain ⟨qA, qc, qB, qd, q0, q1, q2, q3, qS⟩ := hby
  have q0 := fun w' (h : Ext W w') => h.cell q0
  have q1 := fun w' (h : Ext W w') => h.cell q1
  have q2 := fun w' (h : Ext W w') => h.cell q2
  have q3 := fun w' (h : Ext W w') => h.cell q3
  have HX := Lib.hid (And.intro h0 (And.intro hT (And.intro hx (And.intro hy (And.intro pS (And.intro qS hL))))))
  have HK := Lib.hid (fun i (r : Fp) (h : (fndL x y)[i]? = some r) => goC_key hx hy (capC x) (List.mem_of_getElem? h))
  have HLn := Lib.hid (fun i (r : Fp) (h : (fndL x y)[i]? = some r) => (goC_ok x y (capC x)).ln i r h)
  have HW := Lib.hid (lnks_of (c := c14') hL (goC_ok x y (capC x)) (by show (fndL x y).length ≤ _; omega))
  have HG0 := Lib.hid (confG_none (x := x) (y := y))
  have HG1 := Lib.hid (fun n (r : Fp) l => confG_some (x := x) (y := y) (n := n) (r := r) (l := l))
  have HWY : Hid (∀ n k, wayF (lnkOf (rootC x y) (fndL x y)) k n = wayP (rootC x y) (fndL x y) k n ∧ wayC x y n = wayP (rootC x y) (fndL x y) ((fndL x y).getD n (rt (rootC x y))).ln.toNat n) := Lib.hid (fun n k => ⟨wayF_of _ _ k n, rfl⟩)
  clear h0 hT hx hy hL pS qS
  have hE0 := Ext.refl W
  generalize hLL : fndL x y = L at *
  have HLL := Lib.hid hLL
  clear hLL
  go_wp2
  go_loopw [131] (fun iv wr => ∃ i : Nat, iv = .int .i64 i ∧ i ≤ L.length ∧ Hid (∀ (m : Nat) (z : Fp), m < i → L[m]? = some z → badC x y z.key = none) ∧ Ext W wr) (fun iv _ => L.length - (intOf iv).toNat)
  case atStart => exact ⟨0, rfl, by omega, Lib.hid (fun m z hm => by omega), Ext.refl _⟩
  case round =>
    obtain ⟨i, rfl, hi, HP, hE⟩ := hrel
    obtain ⟨W3, hW3⟩ : ∃ W, W = wr := ⟨_, rfl⟩; subst hW3
    by_cases hlt : i < L.length
    · obtain ⟨r, hr⟩ : ∃ r, L[i]? = some r := ⟨_, List.getElem?_eq_getElem hlt⟩
      obtain ⟨b, o, rfl, f0, f1, f2, f3, f4⟩ := (HX.out.2.2.2.2.2.2.ext hE).at_ hr
      have hkey := HK.out i r hr
      have hln := HLn.out i r hr
      have HR := Lib.hid (And.intro hr (And.intro hkey hln))
      have HG1r := Lib.hid (fun l (hb : badC x y r.key = some l) => HG1.out i r l hr hb HP.out)
      have HPn : Hid (badC x y r.key = none → ∀ (m : Nat) (z : Fp), m < i + 1 → L[m]? = some z → badC x y z.key = none) := Lib.hid (fun h m z hm hz => by
        rcases Nat.lt_or_ge m i with h1 | h1
        · exact HP.out m z h1 hz
        · obtain rfl : m = i := by omega
          rw [hr] at hz; cases hz; exact h)
      have hBC : Hid (badC x y r.key = (obsM x r.key.1).find? (fun l => aftM y r.key.2 l == 0)) := Lib.hid rfl
      have p0 := fun w' (h : Ext W3 w') => p0 w' ((hE).trans h)
      have p1 := fun w' (h : Ext W3 w') => p1 w' ((hE).trans h)
      have p2 := fun w' (h : Ext W3 w') => p2 w' ((hE).trans h)
      have p3 := fun w' (h : Ext W3 w') => p3 w' ((hE).trans h)
      have q0 := fun w' (h : Ext W3 w') => q0 w' ((hE).trans h)
      have q1 := fun w' (h : Ext W3 w') => q1 w' ((hE).trans h)
      have q2 := fun w' (h : Ext W3 w') => q2 w' ((hE).trans h)
      have q3 := fun w' (h : Ext W3 w') => q3 w' ((hE).trans h)
      have hE3 := Ext.refl W3
      have HE := Lib.hid hE
      clear hr hkey hln hE
      obtain ⟨P, hP⟩ : ∃ P, P = r.key.1 := ⟨_, rfl⟩
      obtain ⟨Q, hQ⟩ : ∃ Q, Q = r.key.2 := ⟨_, rfl⟩
      have HPQ := Lib.hid (And.intro hP hQ)
      rw [← hP] at f0
      rw [← hQ] at f1
      clear hP hQ
      go_upto_region 31 with fail
      refine wp_named ?_
      intro W4 hW4
      have e4 : Ext W3 W4 := by rw [hW4]; exact alloc_ext _ _
      have m0 : ∀ w', Ext W4 w' → w'.cell? ⟨W3.heap.size, 0, none⟩ = some (.int .u64 P) := fun w' h => h.cell (by rw [hW4]; simp [go_sem])
      have m1 : ∀ w', Ext W4 w' → w'.cell? ⟨W3.heap.size, 1, none⟩ = some (.int .u64 Q) := fun w' h => h.cell (by rw [hW4]; simp [go_sem])
      have m4 : ∀ w', Ext W4 w' → w'.cell? ⟨W3.heap.size, 4, none⟩ = some (.int .i64 r.ln) := fun w' h => h.cell (by rw [hW4]; simp [go_sem])
      clear hW4 f0 f1 f2 f3 f4
      have p0 := fun w' (h : Ext W4 w') => p0 w' ((e4).trans h)
      have p1 := fun w' (h : Ext W4 w') => p1 w' ((e4).trans h)
      have p2 := fun w' (h : Ext W4 w') => p2 w' ((e4).trans h)
      have p3 := fun w' (h : Ext W4 w') => p3 w' ((e4).trans h)
      have q0 := fun w' (h : Ext W4 w') => q0 w' ((e4).trans h)
      have q1 := fun w' (h : Ext W4 w') => q1 w' ((e4).trans h)
      have q2 := fun w' (h : Ext W4 w') => q2 w' ((e4).trans h)
      have q3 := fun w' (h : Ext W4 w') => q3 w' ((e4).trans h)
      have hE4 := Ext.refl W4
      have HE4 := Lib.hid (HE.out.trans e4)
      clear e4 hE3
      generalize W3.heap.size = b20 at *
      have hob := observed_any W4 _ x P (HX.out.2.2.2.2.1.ext HE4.out) HX.out.2.2.1 (by rw [HPQ.out.1]; exact HR.out.2.1.1) (HX.out.2.1.ext HE4.out)
      have hOBl : (obsM x P).length ≤ 17 := by
        have := obsJ_len x P (x.O + 1)
        rw [obsJ_all] at this
        have := HX.out.2.2.1.OO
        omega
      go_upto_region 32 with ((with_reducible refine hob.mono ?_); rintro e W5 ⟨lv, rfl, hfit, e5⟩; obtain ⟨AL, rfl, hLc, -, -⟩ := id hfit; clear hob hfit)
      generalize hOB : obsM x P = OB at *
      have HOB := Lib.hid hOB
      clear hOB
      go_wp2
      go_loopw [142] (fun jv wr => ∃ j : Nat, jv = .int .i64 j ∧ j ≤ OB.length ∧ Hid (∀ (t : Nat) (l : Int), t < j → OB[t]? = some l → (aftM y Q l == 0) = false) ∧ Ext W4 wr ∧ Ext W5 wr) (fun jv _ => OB.length - (intOf jv).toNat)
      case atStart => exact ⟨0, rfl, by omega, Lib.hid (fun t l ht => by omega), e5, Ext.refl _⟩
      case round =>
        obtain ⟨j, rfl, hj, HQ, hE, hE5⟩ := hrel
        obtain ⟨W6, hW6⟩ : ∃ W, W = wr := ⟨_, rfl⟩; subst hW6
        by_cases hjl : j < OB.length
        · obtain ⟨l, hl⟩ : ∃ l, OB[j]? = some l := ⟨_, List.getElem?_eq_getElem hjl⟩
          obtain ⟨b8, o8, rfl, hcl⟩ := int_at (hLc.ext hE5) hl
          have HL := Lib.hid hl
          have haf := after_any W6 _ y Q l (HX.out.2.2.2.2.2.1.ext (HE4.out.trans hE)) HX.out.2.2.2.1 (by rw [HPQ.out.2]; exact HR.out.2.1.2.1) (HX.out.2.1.ext (HE4.out.trans hE))
          have m1 := fun w' (h : Ext W6 w') => m1 w' (hE.trans h)
          have m4 := fun w' (h : Ext W6 w') => m4 w' (hE.trans h)
          have q0 := fun w' (h : Ext W6 w') => q0 w' ((hE).trans h)
          have q1 := fun w' (h : Ext W6 w') => q1 w' ((hE).trans h)
          have q2 := fun w' (h : Ext W6 w') => q2 w' ((hE).trans h)
          have q3 := fun w' (h : Ext W6 w') => q3 w' ((hE).trans h)
          have hE6 := Ext.refl W6
          have HE6 := Lib.hid (HE4.out.trans hE)
          have HEE := Lib.hid hE
          clear hl hE p0 p1 p2 p3 m0
          obtain ⟨T, hTT⟩ : ∃ T, T = aftM y Q l := ⟨_, rfl⟩
          have HTT := Lib.hid hTT
          rw [← hTT] at haf
          clear hTT
          by_cases hz : T = 0
          · subst hz
            have hb : badC x y r.key = some l := by
              rw [hBC.out, ← HPQ.out.1, ← HPQ.out.2, HOB.out]
              exact find_at HL.out (by rw [← HTT.out]; rfl) HQ.out
            have HG := Lib.hid (HG1r.out l hb)
            clear hb
            by_cases hbig : 256 < r.ln
            · have H := Lib.hid (HG.out.trans (if_pos hbig))
              go_wp2_with ((with_reducible refine haf.mono ?_); rintro e w7 ⟨rfl, e7⟩)
              refine bodyPost_ret (results_tmp4 rfl _ _ _) rfl ?_
              unfold ConfP
              rw [H.out]
              exact ⟨_, rfl, fit_nil _, HX.out.1.trans (HE6.out.trans e7)⟩
            · have H := Lib.hid (HG.out.trans (if_neg hbig))
              have hwy := fun W (e : Ext W6 W) => way_any W _ L.length (lnkOf (rootC x y) L) i (HW.out.1.ext (HE6.out.trans e)) HW.out.2 hlt (by
                unfold lnkOf
                simp only
                rw [fd_get (d := rt (rootC x y)) HR.out.1]
                have := HR.out.2.2
                omega)
              go_wp2_with (first
                | ((with_reducible refine haf.mono ?_); rintro e w7 ⟨rfl, e7⟩; have hwy7 := hwy w7 e7)
                | ((with_reducible refine hwy7.mono ?_); rintro e w8 ⟨v8, rfl, hf8, e8⟩))
              refine bodyPost_ret (results_tmp4 rfl _ _ _) rfl ?_
              unfold ConfP
              rw [H.out]
              refine ⟨_, rfl, ?_, HX.out.1.trans (HE6.out.trans (e7.trans e8))⟩
              rw [(HWY.out i 0).2]
              rw [(HWY.out i _).1] at hf8
              exact hf8
          · have hz1 : ((T : Nat) : Int) ≠ 0 := by omega
            have hz2 : (((T : Nat) : Int) != 0) = true := by simpa using hz1
            have HQ' : Hid (∀ (t : Nat) (l : Int), t < j + 1 → OB[t]? = some l → (aftM y Q l == 0) = false) := Lib.hid (fun t l' ht hl' => by
              rcases Nat.lt_or_ge t j with h1 | h1
              · exact HQ.out t l' h1 hl'
              · obtain rfl : t = j := by omega
                rw [HL.out] at hl'; cases hl'
                rw [← HTT.out]
                simpa using hz)
            clear hz hz1
            go_wp2_with ((with_reducible refine haf.mono ?_); rintro e w7 ⟨rfl, e7⟩)
            go_roundw
            case rel => exact ⟨j + 1, by go_num, hjl, HQ', HEE.out.trans e7, hE5.trans e7⟩
            case measure => simp [intOf]; omega
        · obtain rfl : j = OB.length := by omega
          have HN := Lib.hid (HPn.out (by
            rw [hBC.out, ← HPQ.out.1, ← HPQ.out.2, HOB.out]
            exact find_no (fun t b hb => HQ.out t b (List.getElem?_eq_some_iff.1 hb).1 hb)))
          have HEE := Lib.hid (HE4.out.trans hE)
          clear hE
          go_wp2
          go_roundw
          case rel => exact ⟨i + 1, by go_num, hlt, HN, HEE.out⟩
          case measure => simp [intOf]; omega
    · obtain rfl : i = L.length := by omega
      have H := Lib.hid (HG0.out (fun m z hz => HP.out m z (List.getElem?_eq_some_iff.1 hz).1 hz))
      have HE := Lib.hid hE
      clear hE
      go_wp2
      refine bodyPost_ret (results_tmp4 rfl _ _ _) rfl ?_
      unfold ConfP
      rw [H.out]
      exact ⟨_, rfl, fit_nil _, HX.out.1.trans HE.out⟩
end Go.Proofs.YtamodjlifpjaoaaDoor
