/- What the functions say of the machine of the examples. -/
import Derived.Test.YtggffdkgfgdaoaaDoorGJ
import Derived.Test.YtggffdkgfgdaoaaDoorB24
import Derived.Test.YtggffdkgfgdaoaaDoorB21
namespace Go.Proofs.YtggffdkgfgdaoaaDoor
open Go.RowKit Go.Maps
set_option linter.unusedVariables false
set_option linter.unusedSimpArgs false
def cY : Xt := ⟨2, 2, 1, [(nmN, 0, 2)], [0], [cA, ⟨0, 0, gC, 1, [uB], 0⟩, cC]⟩
set_option maxRecDepth 100000
theorem cX_ok : xtR cX = 0 := by kernel_rfl
theorem cY_ok : xtR cY = 0 := by kernel_rfl
theorem cX_r1 : runF cX (some (0, [0])) [0, 0, 0, 0] = [0, 0, 1, 0] := by kernel_rfl
theorem cX_r2 : runF cX (some (0, [0])) [0, 1, 1, 0] = [0, 1, -1, -1] := by kernel_rfl
theorem cX_r3 : runF cX (some (0, [0])) [1] = [-1] := by kernel_rfl
theorem cX_s1 : stepR cX 0 [2] 0 = some (0, [0], 1) := by kernel_rfl
theorem cX_s2 : stpE cX 0 [0] 1 = 7 := by kernel_rfl
theorem cX_s3 : stpE cX 0 [3] 0 = 1 := by kernel_rfl
theorem cX_s4 : stpE cX 0 [2] 0 = 0 := by kernel_rfl
theorem cX_u : unfR cX = some ([(0, [0]), (0, [1]), (0, [2])], [[(1, 0), (-1, -1)], [(2, 0), (0, 1)], [(0, 1), (1, 1)]]) := by kernel_rfl
theorem cX_c : combR cX.vars = 3 := by kernel_rfl
theorem cX_p1 : pairC cX cA cB = none := by kernel_rfl
theorem cX_p2 : pairC cX cA cC = none := by kernel_rfl
theorem cX_p3 : pairC cX cB cC = none := by kernel_rfl
theorem cY_p1 : pairC cY cA ⟨0, 0, gC, 1, [uB], 0⟩ = some [0] := by kernel_rfl
/-! ### Calls with closed answers -/
theorem run_lit (W : World) (xv : Value) (x : Xt) (hx : XtV W x xv) (hT : OpsTab W) (v : Value) (xs ys : List Int) (c n : Nat) (hy : IntsC W v xs c) (h0 : xtR x = 0) (h1 : wordC xs x.ins = 0) (h2 : runF x (some (0, x.start)) xs = ys) (hn : ys.length = n) :
    Calls Tryd.prog 17 #[xv, v] W (fun e w' => ∃ A, e = .returned (.tuple #[.slice A n n, .int .i64 0]) ∧ FitC w' (.slice A n n) ys ∧ Ext W w') := by
  refine (extRun_any W xv x v xs c hx hT hy).mono ?_
  rintro e w' ⟨h, _⟩
  obtain ⟨A, h3, h4, h5, _⟩ := h (by unfold runE; rw [if_neg (by simpa using h0)]; exact h1)
  rw [h2] at h3 h4
  subst hn
  exact ⟨A, h3, h4, h5⟩
theorem word_lit (W : World) (A : Option Addr) (n c : Nat) (ys : List Int) (u : Value) (h : FitC W (.slice A n n) ys) (hn : ys.length = n) (hu : IntsC W u ys c) : Calls Tryd.prog 15 #[.slice A n n, .int .i64 0, u] W (fun e w' => e = .returned (.int .i64 1) ∧ Ext W w') := by
  refine (word_any W _ u ys ys _ c 0 h hu).mono ?_
  rintro e w' ⟨rfl, h2⟩
  refine ⟨?_, h2⟩
  have : wordB ys ys.length 0 ys = true := by unfold wordB; simp
  rw [this]; rfl
theorem step_lit (W : World) (xv : Value) (x : Xt) (hx : XtV W x xv) (hT : OpsTab W) (v : Value) (s : Int) (ys : List Int) (c : Nat) (inp t o : Int) (zs : List Int) (n : Nat) (hy : IntsC W v ys c) (h0 : stpE x s ys inp = 0) (h1 : stepR x s ys inp = some (t, zs, o)) (hn : zs.length = n) :
    Calls Tryd.prog 11 #[xv, .agg #[.int .i64 s, v], .int .i64 inp] W (fun e w' => ∃ A, e = .returned (.tuple #[.agg #[.int .i64 t, .slice A n n], .int .i64 o, .int .i64 0]) ∧ FitC w' (.slice A n n) zs ∧ Ext W w') := by
  refine (extStep_any W xv x s v ys c inp hx hT hy).mono ?_
  rintro e w' ⟨h, _⟩
  obtain ⟨t', zs', o', A, h2, h3, h4, h5⟩ := h h0
  rw [h1] at h2
  injection h2 with h2
  injection h2 with e1 h2
  injection h2 with e2 e3
  subst e1 e2 e3 hn
  exact ⟨A, h3, h4, h5⟩
theorem step_err (W : World) (xv : Value) (x : Xt) (hx : XtV W x xv) (hT : OpsTab W) (v : Value) (s : Int) (ys : List Int) (c : Nat) (inp er : Int) (hy : IntsC W v ys c) (h0 : stpE x s ys inp = er) (h1 : er ≠ 0) :
    Calls Tryd.prog 11 #[xv, .agg #[.int .i64 s, v], .int .i64 inp] W (fun e w' => e = .returned (.tuple #[.agg #[.int .i64 0, .slice none 0 0], .int .i64 0, .int .i64 er]) ∧ Ext W w') := by
  refine (extStep_any W xv x s v ys c inp hx hT hy).mono ?_
  rintro e w' ⟨_, h⟩
  rw [h0] at h
  exact h h1
theorem unf_lit (W : World) (xv : Value) (x : Xt) (hx : XtV W x xv) (hT : OpsTab W) (S : List Sp) (rows : Rws) (n m : Nat) (h0 : xtR x = 0) (h1 : unfR x = some (S, rows)) (hn : S.length = n) (hm : rows.length = m) :
    Calls Tryd.prog 19 #[xv] W (fun e w' => ∃ A B, e = .returned (.tuple #[.agg #[.int .i64 x.ins, .int .i64 x.outs, .slice A m m], .slice B n n, .int .i64 0]) ∧ RowsC w' (.slice A m m) rows m ∧ ConfsC w' (.slice B n n) S n ∧ Ext W w') := by
  refine (unfold_any W xv x hx hT).mono ?_
  rintro e w' ⟨_, _, h⟩
  obtain ⟨rv, lv, h2, h3, h4, h5⟩ := h h0 S rows h1
  obtain ⟨A, _, hA, _⟩ := id h3
  obtain ⟨B, _, hB, _⟩ := id h4
  subst hA hB hn hm
  exact ⟨A, B, h2, h3, h4, h5⟩
theorem confs_at {w : World} {v : Value} {S : List Sp} {c i n : Nat} {s : Sp} (h : ConfsC w v S c) (hi : S[i]? = some s) (hn : s.2.length = n) : ∃ b o A, v = .slice (some ⟨b, o, none⟩) S.length c ∧ w.cell? ⟨b, o + i * 2, none⟩ = some (.int .i64 s.1) ∧ w.cell? ⟨b, o + i * 2 + 1, none⟩ = some (.slice A n n) ∧ FitC w (.slice A n n) s.2 := by
  obtain ⟨A, vs, hv, hl, hc, hk, _⟩ := h
  have hlt := (List.getElem?_eq_some_iff.1 hi).1
  obtain ⟨p, hp⟩ : ∃ p, vs[i]? = some p := ⟨_, List.getElem?_eq_getElem (by omega)⟩
  obtain ⟨b, o, hA, _, hcc⟩ := hc (by rw [rec_len cfCells 2 (fun _ => rfl)]; omega)
  obtain ⟨h1, A2, h2, h3⟩ := hk i s p hi hp
  have g := fun j u h => rec_get cfCells 2 (fun _ => rfl) hp j u h
  subst hn
  rw [h2] at h3
  refine ⟨b, o, A2, by rw [hv, hA], ?_, ?_, h3⟩
  · rw [← h1]; exact hcc _ _ (g 0 _ rfl)
  · rw [Nat.add_assoc, ← h2]; exact hcc _ _ (g 1 _ rfl)
theorem cX_no : CfNo cX := fun i k h a b ha hb => by
  have hk : k < 3 := (List.getElem?_eq_some_iff.1 hb).1
  have : (i = 0 ∧ k = 1) ∨ (i = 0 ∧ k = 2) ∨ (i = 1 ∧ k = 2) := by omega
  rcases this with ⟨rfl, rfl⟩ | ⟨rfl, rfl⟩ | ⟨rfl, rfl⟩
  · simp [cX] at ha hb; subst ha hb; exact cX_p1
  · simp [cX] at ha hb; subst ha hb; exact cX_p2
  · simp [cX] at ha hb; subst ha hb; exact cX_p3
theorem conf_no (W : World) (xv : Value) (x : Xt) (hx : XtV W x xv) (hT : OpsTab W) (h0 : xtR x = 0) (h1 : combR x.vars ≤ 4096) (h2 : CfNo x) :
    Calls Tryd.prog 23 #[xv] W (fun e w' => e = .returned (.tuple #[.int .i64 0, .int .i64 0, .slice none 0 0, .int .i64 7]) ∧ Ext W w') := by
  refine (conflict_any W xv x hx hT).mono ?_
  rintro e w' ⟨_, _, h, h3⟩
  rcases h h0 h1 with ⟨i, k, xs, A, hc, _⟩ | ⟨_, h⟩
  · obtain ⟨hik, ⟨a, b, ha, hb, hp⟩, _⟩ := hc
    rw [h2 i k hik a b ha hb] at hp; cases hp
  · exact ⟨h, h3⟩
theorem conf_yes (W : World) (xv : Value) (x : Xt) (hx : XtV W x xv) (hT : OpsTab W) (h0 : xtR x = 0) (h1 : combR x.vars ≤ 4096) {i k n : Nat} {xs : List Int} (h2 : CfAt x i k xs) (hn : xs.length = n) :
    Calls Tryd.prog 23 #[xv] W (fun e w' => ∃ A, e = .returned (.tuple #[.int .i64 (i : Int), .int .i64 (k : Int), .slice A n n, .int .i64 0]) ∧ FitC w' (.slice A n n) xs ∧ Ext W w') := by
  refine (conflict_any W xv x hx hT).mono ?_
  rintro e w' ⟨_, _, h, h3⟩
  obtain ⟨hik, ⟨a, b, ha, hb, hp⟩, hmin⟩ := h2
  rcases h h0 h1 with ⟨i', k', xs', A, hc, h4, h5⟩ | ⟨hno, _⟩
  · obtain ⟨hik', ⟨a', b', ha', hb', hp'⟩, hmin'⟩ := hc
    have e1 : i = i' ∧ k = k' := by
      by_cases h6 : i < i' ∨ (i = i' ∧ k < k')
      · have h7 := hmin' i k hik h6 a b ha hb
        rw [h7] at hp; cases hp
      · by_cases h8 : i' < i ∨ (i' = i ∧ k' < k)
        · have h7 := hmin i' k' hik' h8 a' b' ha' hb'
          rw [h7] at hp'; cases hp'
        · omega
    obtain ⟨e1, e2⟩ := e1
    subst e1 e2
    rw [ha] at ha'
    rw [hb] at hb'
    injection ha' with ha'
    injection hb' with hb'
    subst ha' hb'
    rw [hp] at hp'
    injection hp' with hp'
    subst hp' hn
    exact ⟨A, h4, h5, h3⟩
  · have h7 := hno i k hik a b ha hb
    rw [h7] at hp; cases hp
theorem cY_at : CfAt cY 0 1 [0] := ⟨by omega, ⟨_, _, rfl, rfl, cY_p1⟩, fun i k h1 h2 => by omega⟩
theorem ints_lit (W : World) (xs : List Int) (n : Nat) (hn : xs.length = n) (h : n ≤ 1000) : IntsC (W.alloc (.cells (xs.map (.int .i64)).toArray 3)) (.slice (some ⟨W.heap.size, 0, none⟩) n n) xs n := by
  subst hn
  exact IntB.fit (heap_alloc_new W _) (by omega)
end Go.Proofs.YtggffdkgfgdaoaaDoor
