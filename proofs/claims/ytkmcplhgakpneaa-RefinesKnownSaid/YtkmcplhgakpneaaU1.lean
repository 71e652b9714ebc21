/- classes.closed's function find. -/
import Derived.Test.YtkmcplhgakpneaaU0
import Derived.Test.YtkmcplhgakpneaaRg
import Derived.Test.YtkmcplhgakpneaaM1
namespace Go.Proofs.Ytkmcplhgakpneaa
open Go.RowKit Go.Maps
set_option linter.unusedVariables false
set_option linter.unusedSimpArgs false
attribute [local go_sem] Oper.quietV quietV Oper.gives givesV ext_refl_iff ext_alloc_iff ext_drew_iff ext_drewN_iff

def natV (x : Nat) : Value := .int .i64 (x : Int)
/-- What find leaves: the same roots, in the same block. -/
def FindPost (w : World) (g B n : Nat) (up : List Nat) (w' : World) : Prop :=
  ∃ up', up'.length = n ∧ UpOK up' ∧ (∀ j, j < n → rootU up' j = rootU up j) ∧ w'.ownsRow B 3 1 (.slice (some ⟨g, 0, none⟩) n n) n (up'.map natV) ∧ w.grownBy w' (some g)
theorem grown_refl (w : World) (r : Option Nat) : w.grownBy w r := ⟨rfl, rfl, rfl, Nat.le_refl _, fun _ _ _ => rfl⟩
theorem grown_trans {a b c : World} {r : Option Nat} (h : a.grownBy b r) (k : b.grownBy c r) : a.grownBy c r :=
  ⟨k.os.trans h.os, k.tape.trans h.tape, k.output.trans h.output, Nat.le_trans h.size k.size, fun i hi hr => (k.block i (Nat.lt_of_lt_of_le hi h.size) hr).trans (h.block i hi hr)⟩
theorem grown_ext {a b : World} (h : Ext a b) (r : Option Nat) : a.grownBy b r := ⟨h.os, h.tape, h.output, h.size, fun k hk _ => h.block k hk⟩

set_option maxRecDepth 100000 in
set_option maxHeartbeats 1000000 in
theorem find_any (w : World) (bu g B n : Nat) (up : List Nat) (hok : UpOK up) (hl : up.length = n) (hn : n ≤ 100000) (hc : w.cell? ⟨bu, 0, none⟩ = some (.slice (some ⟨g, 0, none⟩) n n)) (hne : bu ≠ g)
    (hown : w.ownsRow B 3 1 (.slice (some ⟨g, 0, none⟩) n n) n (up.map natV)) (x : Nat) (hx : x < n) :
    Calls Try.prog 52 #[.int .i64 x, .pointer (some ⟨bu, 0, none⟩)] w fun e w' => e = .returned (.int .i64 (rootU up x : Nat)) ∧ FindPost w g B n up w' := by
  have hbu := World.block_lt_of_cell? _ _ hc
  have HR := Lib.hid (And.intro hok hl)
  generalize hrr : rootU up x = R
  have HRR := Lib.hid hrr
  clear hok hrr
  go_enter Try.func52, Try.ntmps52
  go_wp2
  go_loopw [0] (fun i wr => ∃ (k : Nat) (u : List Nat), i = .int .i64 k ∧ k < n ∧ u.length = n ∧ UpOK u ∧ (∀ j, j < n → rootU u j = rootU up j) ∧ rootU up k = R ∧ wr.ownsRow B 3 1 (.slice (some ⟨g, 0, none⟩) n n) n (u.map natV) ∧ w.grownBy wr (some g)) (fun i _ => (intOf i).toNat)
  case atStart => exact ⟨x, up, rfl, hx, hl, HR.out.1, fun _ _ => rfl, HRR.out, hown, grown_refl _ _⟩
  case round =>
    clear hown hl
    obtain ⟨k, u, rfl, hk, hul, huo, hur, hkr, hown, hg⟩ := hrel
    obtain ⟨W2, hW2⟩ : ∃ W, W = wr := ⟨_, rfl⟩
    subst hW2
    have hc2 : W2.cell? ⟨bu, 0, none⟩ = some (.slice (some ⟨g, 0, none⟩) n n) := by
      rw [World.cell?_of_block (hg.block bu hbu (by simp; exact hne))]; exact hc
    have hku : k < u.length := by omega
    have hle := huo k hku
    have hcell : ∀ j, j < n → W2.cell? ⟨g, j, none⟩ = some (.int .i64 (u.getD j 0 : Nat)) := fun j hj => by
      rw [hown.cellAt j (by omega), List.getElem?_map, List.getElem?_eq_getElem (by omega)]
      simp [natV, List.getD, show j < u.length by omega]
    have ck := hcell k hk
    have cu := hcell (u.getD k 0) (by omega)
    have hkI : (k : Int) < (n : Int) := by omega
    have huI : ((u.getD k 0 : Nat) : Int) < (n : Int) := by omega
    by_cases he : u.getD k 0 = k
    · have hroot := rootU_fix huo hku he
      rw [hur k hk, hkr] at hroot
      have HROOT := Lib.hid hroot
      have HU := Lib.hid (And.intro hul (And.intro huo hur))
      have hee : (((u.getD k 0 : Nat) : Int) != (k : Int)) = false := by rw [he]; simp
      generalize u.getD k 0 = v at *
      clear hcell hul huo hur hkr hroot he cu
      go_wp2
      go_ret
      exact ⟨by rw [HROOT.out]; rfl, u, HU.out.1, HU.out.2.1, HU.out.2.2, hown, hg⟩
    · have hee : (((u.getD k 0 : Nat) : Int) != (k : Int)) = true := by simp only [bne_iff_ne, ne_eq]; omega
      have hfz := hown.frozenAt k
      have hst := fun (w' : World) (h : Ext W2 w') => (ownsRow_ext hown h).stored k (natV (u.getD (u.getD k 0) 0))
      have hlt : u.getD k 0 < k := by omega
      have hok2 := half_ok huo hku
      have hrt2 := half_root huo hku
      have hkr2 : rootU up (u.getD k 0) = R := by
        rw [← hur (u.getD k 0) (by omega), rootU_up huo hku, hur k hk]; exact hkr
      have hle2 := huo (u.getD k 0) (by omega)
      have hkr3 : rootU up (u.getD (u.getD k 0) 0) = R := by
        rw [← hur (u.getD (u.getD k 0) 0) (by omega), rootU_up huo (by omega), rootU_up huo hku, hur k hk]; exact hkr
      have hset : (u.map natV).set k (natV (u.getD (u.getD k 0) 0)) = (u.set k (u.getD (u.getD k 0) 0)).map natV := by rw [List.map_set]
      rw [hset] at hst
      have hbg : g < W2.heap.size := (hown.lt g rfl).2
      have hnew : Hid (∀ j, j < n → rootU (u.set k (u.getD (u.getD k 0) 0)) j = rootU up j) := fun j hj => by rw [hrt2 j (by omega), hur j hj]
      have HN := Lib.hid (And.intro (show (u.set k (u.getD (u.getD k 0) 0)).length = n by rw [List.length_set]; exact hul) (And.intro hok2 hkr3))
      generalize u.set k (u.getD (u.getD k 0) 0) = u2 at *
      have hgk : ∀ w', Ext W2 w' → w'.cell? ⟨g, k, none⟩ = some (.int .i64 (u.getD k 0 : Nat)) := fun w' h => h.cell ck
      generalize hvv : u.getD k 0 = v at *
      have hv2 : u.getD v 0 ≤ v := hle2
      generalize u.getD v 0 = v2 at *
      have hc3 : ∀ w', Ext W2 w' → w'.cell? ⟨bu, 0, none⟩ = some (.slice (some ⟨g, 0, none⟩) n n) := fun w' h => h.cell hc2
      have cv : ∀ w', Ext W2 w' → w'.cell? ⟨g, v, none⟩ = some (.int .i64 (v2 : Nat)) := fun w' h => h.cell cu
      have hfz2 : ∀ w', Ext W2 w' → w'.frozen? ⟨g, k, none⟩ = false := fun w' h => by
        rw [World.frozen?_of_block (h.block _ hbg)]; exact hfz
      have HST := Lib.hid hst
      clear hst hset hcell hul huo hur hkr hok2 hrt2 hkr2 hkr3 hle hle2 hvv he hown
      go_upto_region 2 with fail
      refine wp_region_ext 9 (factsOf []) (fun k => ([[], [], [], [], [], [3, 4], [3, 4, 5], [2, 3, 4, 5, 6], [2, 3, 4, 5, 6, 7], [0, 1, 2, 3, 4, 5, 6, 7, 8], [0, 1, 2, 3, 4, 5, 6, 7, 8, 9]] : List (List Nat)).getD k []) (by kernel_rfl) (by kernel_rfl) Ext.pre (mono_nil) ?_
      simp only [List.take_succ_cons, List.take_zero]
      repeat (first | (with_reducible refine lexL_quiet' (v := ?_) ?_ ?_ ?_ ?_; rotate_left; (· with_reducible rfl); (· simp [factsOf]); (· intro w1 hw1 _; go_simp; with_reducible rfl); (try simp only [Act.put, List.setIfInBounds_toArray, List.set_cons_zero, List.set_cons_succ])) | (with_reducible refine lexL_skip ?_ ?_; (· simp [Region.wanted, yielded, undef]); (try simp only [Act.put, List.setIfInBounds_toArray, List.set_cons_zero, List.set_cons_succ])) | (with_reducible refine lexL_quiet (v := ?_) ?_ ?_ ?_ ?_; rotate_left; (· simp [Region.wanted, yielded, undef]); (· simp [factsOf]); (· intro w1 hw1 _; go_simp; with_reducible rfl); (try simp only [Act.put, List.setIfInBounds_toArray, List.set_cons_zero, List.set_cons_succ])))
      with_reducible refine lexL_nil ?_; intro w1 hw1 hk1; simp only [List.drop_succ_cons, List.drop_zero]
      clear hk1
      have c1 := hgk _ hw1
      have c2 := hfz2 _ hw1
      have hs1 := HST.out _ hw1
      have hc4 : (w1.setCell ⟨g, k, none⟩ (natV v2)).cell? ⟨bu, 0, none⟩ = some (.slice (some ⟨g, 0, none⟩) n n) := by
        rw [World.cell?_of_block (Below.heap_setCell _ _ _ _ (by simp; exact hne))]; exact hc3 _ hw1
      have hc5 : (w1.setCell ⟨g, k, none⟩ (natV v2)).cell? ⟨g, k, none⟩ = some (.int .i64 (v2 : Nat)) := World.cell?_setCell_same' _ _ _ (by rw [c1]; rfl)
      have HS1 := Lib.hid hs1
      have hgg := grown_trans hg (grown_trans (grown_ext hw1 (some g)) hs1.2)
      clear hs1 hfz2 hgk cv hc3
      unfold natV at hc4 hc5 hgg HS1
      go_upto_region 3 with fail
      go_wp2
      go_roundw
      case rel => exact ⟨v2, u2, rfl, by omega, HN.out.1, HN.out.2.1, hnew.out, HN.out.2.2, HS1.out.1, hgg⟩
      case measure => simp [intOf]; omega
end Go.Proofs.Ytkmcplhgakpneaa
