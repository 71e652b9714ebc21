/- law23.Word 16. -/
import Derived.Test.YtggffdkgfgdaoaaDoorD0
namespace Go.Proofs.YtggffdkgfgdaoaaDoor
open Go.RowKit Go.Maps
set_option linter.unusedVariables false
set_option linter.unusedSimpArgs false
attribute [local go_sem] Oper.quietV quietV Oper.gives givesV ext_refl_iff ext_alloc_iff ext_drew_iff ext_drewN_iff
def U8sC (w : World) (v : Value) (xs : List Nat) (c : Nat) : Prop := ∃ A, v = .slice A xs.length c ∧ Cells w A (xs.map (fun (x : Nat) => Value.int .u8 (x : Int))) ∧ xs.length ≤ c ∧ xs.length ≤ maxLen ∧ ∀ x ∈ xs, x < 256
theorem U8sC.ext {w w' : World} {v : Value} {xs : List Nat} {c : Nat} (h : U8sC w v xs c) (e : Ext w w') : U8sC w' v xs c := by
  obtain ⟨A, h1, h2, h3⟩ := h
  exact ⟨A, h1, h2.ext e, h3⟩
theorem Cells.at_u8 {w : World} {A : Option Addr} {xs : List Nat} (h : Cells w A (xs.map (fun (x : Nat) => Value.int .u8 (x : Int)))) {k : Nat} (hk : k < xs.length) :
    ∃ b o, A = some ⟨b, o, none⟩ ∧ b < w.heap.size ∧ w.cell? ⟨b, o + k, none⟩ = some (.int .u8 (xs[k] : Int)) := by
  obtain ⟨b, o, hA, hb, hc⟩ := h (by rw [List.length_map]; omega)
  exact ⟨b, o, hA, hb, hc k _ (by rw [List.getElem?_map, List.getElem?_eq_getElem hk]; rfl)⟩
/-- The word of bytes, at most 40 inputs. -/
def wI (ws : List Nat) (k : Nat) : List Int := ws.map (fun x => ((x % k : Nat) : Int))
def wordI (ws : List Nat) : List Int := wI (ws.take 40) 2
theorem wordI_len (ws : List Nat) : (wordI ws).length ≤ 40 := by unfold wordI wI; rw [List.length_map, List.length_take]; omega
theorem wordI_ok (ws : List Nat) : wordC (wordI ws) 2 = 0 := by
  have h := wordI_len ws
  unfold wordC
  rw [if_neg (by omega), if_neg]
  intro h2
  obtain ⟨x, hx, hb⟩ := List.any_eq_true.1 h2
  unfold wordI wI at hx
  obtain ⟨y, _, rfl⟩ := List.mem_map.1 hx
  have := Nat.mod_lt y (show 0 < 2 by decide)
  unfold badW at hb
  simp at hb
  omega
set_option maxRecDepth 100000 in
set_option maxHeartbeats 4000000 in
theorem word16_any (w : World) (v : Value) (ws : List Nat) (c : Nat) (hv : U8sC w v ws c) :
    Calls Tryd.prog 16 #[v, .int .i64 2] w fun e w' => ∃ A c', e = .returned (.slice A (wordI ws).length c') ∧ IntsC w' (.slice A (wordI ws).length c') (wordI ws) c' ∧ Ext w w' ∧ ∀ a, A = some a → w.heap.size ≤ a.block := by
  obtain ⟨A, rfl, hc, _, _, hb⟩ := hv
  obtain ⟨i3, hi3, hz3, hs3, hb3⟩ := info_parts int_info
  go_enter Tryd.func16, Tryd.ntmps16
  have hO0 : OwnL w (w.alloc (.cells #[] 3)) [.row 3 1 (.slice (some ⟨w.heap.size, 0, none⟩) 0 0) 0 []] := (OwnL.nil (Ext.refl w)).add (alloc_ext _ _) (A := .row 3 1 (.slice (some ⟨w.heap.size, 0, none⟩) 0 0) 0 []) (own_empty w 3)
  go_upto_region 2 with fail
  refine wp_named ?_
  intro W1 hW1
  rw [← hW1] at hO0
  clear hW1
  obtain ⟨m, hm⟩ : ∃ m, m = min ws.length 40 := ⟨_, rfl⟩
  have hmm : m ≤ ws.length ∧ m ≤ 40 ∧ (m = ws.length ∨ m = 40) := by omega
  go_wp2
  go_loopw [5, 6] (fun ov iv wr => ∃ i : Nat, iv = .int .i64 i ∧ i ≤ m ∧ OwnL w wr [.row 3 1 ov i ((wI (ws.take i) 2).map (.int .i64))]) (fun _ iv _ => ws.length - (intOf iv).toNat)
  case atStart => exact ⟨0, rfl, by omega, hO0⟩
  case round =>
    clear hO0
    obtain ⟨i, rfl, hi, hO⟩ := hrel
    obtain ⟨W4, hW4⟩ : ∃ W, W = wr := ⟨_, rfl⟩; subst hW4
    by_cases hlt : i < m
    · have hlt2 : i < ws.length := by omega
      have hsI : (i : Int) < (ws.length : Int) := by omega
      have hi40 : (i : Int) < 40 := by omega
      obtain ⟨b, o, hA, _, hcell⟩ := hc.at_u8 hlt2
      subst hA
      have hcell := hO.ext.cell hcell
      have hown : W4.ownsRow w.heap.size 3 1 u5 i ((wI (ws.take i) 2).map (.int .i64)) := hO.get 0 rfl
      have hsz := hO.ext.size
      have hnx : (wI (ws.take (i + 1)) 2).map (Value.int .i64) = (wI (ws.take i) 2).map (.int .i64) ++ [.int .i64 ((ws[i] % 2 : Nat) : Int)] := by
        rw [List.take_succ_eq_append_getElem hlt2]; simp only [wI, List.map_append, List.map_cons, List.map_nil]
      have HNX := Lib.hid hnx
      have hbz := hb _ (List.getElem_mem hlt2)
      clear hnx
      generalize ws[i] = z at *
      have hmod : ((z : Nat) : Int).tmod (2 : Int) = ((z % 2 : Nat) : Int) := by rw [Int.tmod_eq_emod_of_nonneg (by omega)]; push_cast; rfl
      have hcell : ∀ w', Ext W4 w' → w'.cell? ⟨b, o + i, none⟩ = some (.int .u8 (z : Int)) := fun w' h => h.cell hcell
      have hE0 := Ext.refl W4
      have hzk : z % 2 < 2 := Nat.mod_lt _ (by omega)
      have hiw : i < 40 := by omega
      have HMM := Lib.hid (And.intro hm (And.intro hmm (And.intro hi hlt)))
      clear hm hmm hi hlt
      generalize z % 2 = y at *
      go_wp2_with (at_builtin; refine wpList_append_own2 rfl _ _ 28 rfl w.heap.size 3 i3 (.int .i64 0) 1 8 Tryd.underlying28 hi3 hz3 hs3 hb3 rfl (by decide) u5 i ((wI (ws.take i) 2).map (.int .i64)) rfl (World.ownsRow.alloc hown _) ⟨W4.heap.size, 0, none⟩ 1 1 [.int .i64 y] rfl rfl (new_cell _ _ _ _ (by first | rfl | simp)) (one_int _) (by unfold maxLen; omega) (by omega) (by simp; omega) ?_; intro v6 w6 hown6 hg6 hb6)
      have hO6 := (hO.trans (alloc_ext W4 (.cells #[.int .i64 y] 3))).app 0 rfl hg6 hown6 hb6
      go_roundw
      case rel => exact ⟨i + 1, by go_num, by have := HMM.out; omega, by rw [HNX.out]; exact hO6⟩
      case measure => simp [intOf]; have := HMM.out; omega
    · obtain rfl : i = m := by omega
      have hwi : wordI ws = wI (ws.take i) 2 := by
        unfold wordI
        rcases hmm.2.2 with h | h
        · rw [h, List.take_length, List.take_of_length_le (by omega)]
        · rw [h]
      have hln : (wordI ws).length = i := by rw [hwi]; unfold wI; rw [List.length_map, List.length_take]; omega
      have h1 : W4.ownsRow w.heap.size 3 1 u5 (wordI ws).length ((wordI ws).map (.int .i64)) := by
        have h := hO.get 0 rfl
        rw [← hwi] at h
        rw [hln]; exact h
      obtain ⟨c', h2⟩ := ints_of_owns h1 (by rw [hln]; unfold lenMax; omega)
      have H := Lib.hid (And.intro h2 (And.intro hO.ext (fun b hb => (h1.lt b hb).1)))
      have hq : i = ws.length ∨ (i < ws.length ∧ i = 40) := by omega
      clear h1 h2 hO hc hb hwi hln hm hmm hlt hi
      rcases hq with hq | ⟨hq1, hq2⟩
      · have hn : ¬ ((i : Int) < (ws.length : Int)) := by omega
        have HQ := Lib.hid hq
        clear hq
        go_wp2
        go_ret
        obtain ⟨A', h3, h4⟩ := H.out.1
        exact ⟨A', c', by rw [h3]; rfl, by rw [← h3]; exact H.out.1, H.out.2.1, fun a ha => H.out.2.2 _ (by rw [h3, ha]; rfl)⟩
      · have hn1 : ((i : Int) < (ws.length : Int)) := by omega
        have hn2 : ¬ ((i : Int) < 40) := by omega
        have HQ := Lib.hid hq2
        clear hq2
        go_wp2
        go_ret
        obtain ⟨A', h3, h4⟩ := H.out.1
        exact ⟨A', c', by rw [h3]; rfl, by rw [← h3]; exact H.out.1, H.out.2.1, fun a ha => H.out.2.2 _ (by rw [h3, ha]; rfl)⟩
end Go.Proofs.YtggffdkgfgdaoaaDoor
