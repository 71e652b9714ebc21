/- gauntletlaw32.three 36. -/
import Derived.Test.YteadkafeabhhhaaH2
namespace Go.Proofs.Yteadkafeabhhhaa
open Go.RowKit
set_option linter.unusedVariables false
set_option linter.unusedSimpArgs false
attribute [local go_sem] Oper.quietV quietV Oper.gives givesV ext_refl_iff ext_alloc_iff ext_drew_iff ext_drewN_iff

theorem cells_blk {W : World} {b : Nat} {cs : Array Value} {t : TypeId} (h : W.heap[b]? = some (.cells cs t (0, 0))) : Cells W (some ⟨b, 0, none⟩) cs.toList := fun _ =>
  ⟨b, 0, rfl, lt_of_block h, fun j u hu => by rw [Nat.zero_add]; exact cell_of_blk h j (by simpa using hu)⟩
theorem edges2_blk {W : World} {b t : Nat} {p q p' q' : Int} (h : W.heap[b]? = some (.cells #[.int .i64 p, .int .i64 q, .int .i64 p', .int .i64 q'] t (0, 0))) : EdgesC W (.slice (some ⟨b, 0, none⟩) 2 2) [(p, q), (p', q')] 2 :=
  ⟨_, rfl, cells_blk h, Nat.le_refl _, by unfold lenMax; simp⟩
theorem bools_blk {W : World} {b t n : Nat} {cs : Array Value} {xs : List Bool} (h : W.heap[b]? = some (.cells cs t (0, 0))) (hc : cs.toList = xs.map .bool) (hn : xs.length = n) (hl : n ≤ 1000) : FitB W (.slice (some ⟨b, 0, none⟩) n n) xs := by
  subst hn
  exact ⟨_, rfl, hc ▸ cells_blk h, Nat.le_refl _, by unfold lenMax; omega⟩
theorem ints_blk {W : World} {b t n : Nat} {cs : Array Value} {xs : List Int} (h : W.heap[b]? = some (.cells cs t (0, 0))) (hc : cs.toList = xs.map (.int .i64)) (hn : xs.length = n) (hl : n ≤ 1000) : FitC W (.slice (some ⟨b, 0, none⟩) n n) xs := by
  subst hn
  exact ⟨_, rfl, hc ▸ cells_blk h, Nat.le_refl _, by unfold lenMax; omega⟩
theorem rows_blk {W : World} {b t n : Nat} {cs : Array Value} {rows : List (List (Int × Int))} (h : W.heap[b]? = some (.cells cs t (0, 0))) (hc : cs.size = n) (hn : rows.length = n) (hl : n ≤ 1000)
    (hr : ∀ (i : Nat) (u : Value) (es : List (Int × Int)), cs[i]? = some u → rows[i]? = some es → ∃ c', EdgesC W u es c') : RowsC W (.slice (some ⟨b, 0, none⟩) n n) rows n := by
  subst hn
  exact ⟨_, cs.toList, rfl, cells_blk h, by simpa using hc, fun i u es hu hes => hr i u es (by simpa using hu) hes, Nat.le_refl _, by unfold lenMax; omega⟩

def m3 : Mach := ⟨2, 1, [[(1, 0), (0, 0)], [(2, 0), (0, 0)], [(2, 0), (2, 0)]]⟩
def g3 (ours : List Bool) : Game := ⟨m3, ours, [false, false, true]⟩

set_option maxRecDepth 100000 in
set_option maxHeartbeats 4000000 in
theorem three_any (w : World) (v : Value) (ours : List Bool) (co : Nat) (hv : BoolsC w v ours co) : Calls Try.prog 36 #[v] w fun e w' => (∃ gv, e = .returned gv ∧ GameV w' gv (g3 ours)) ∧ Ext w w' := by
  obtain ⟨A, rfl, hc, hco, hm⟩ := id hv
  unfold lenMax at hm
  have HV := Lib.hid hv
  obtain ⟨X, hX⟩ : ∃ X, X = ((((((w.alloc (.cells #[.int .i64 2, .int .i64 1, .slice (some ⟨w.heap.size + 1 + 1 + 1 + 1, 0, none⟩) 3 3, .slice A ours.length co, .slice (some ⟨w.heap.size + 1 + 1 + 1 + 1 + 1, 0, none⟩) 3 3] 32)).alloc (.cells #[.int .i64 1, .int .i64 0, .int .i64 0, .int .i64 0] 52)).alloc (.cells #[.int .i64 2, .int .i64 0, .int .i64 0, .int .i64 0] 52)).alloc (.cells #[.int .i64 2, .int .i64 0, .int .i64 2, .int .i64 0] 52)).alloc (.cells #[.slice (some ⟨w.heap.size + 1, 0, none⟩) 2 2, .slice (some ⟨w.heap.size + 1 + 1, 0, none⟩) 2 2, .slice (some ⟨w.heap.size + 1 + 1 + 1, 0, none⟩) 2 2] 53)).alloc (.cells #[.bool false, .bool false, .bool true] 4)) := ⟨_, rfl⟩
  have hO : OwnL w X [.blk (w.heap.size + 1 + 1 + 1 + 1 + 1) (.cells #[.bool false, .bool false, .bool true] 4), .blk (w.heap.size + 1 + 1 + 1 + 1) (.cells #[.slice (some ⟨w.heap.size + 1, 0, none⟩) 2 2, .slice (some ⟨w.heap.size + 1 + 1, 0, none⟩) 2 2, .slice (some ⟨w.heap.size + 1 + 1 + 1, 0, none⟩) 2 2] 53), .blk (w.heap.size + 1 + 1 + 1) (.cells #[.int .i64 2, .int .i64 0, .int .i64 2, .int .i64 0] 52), .blk (w.heap.size + 1 + 1) (.cells #[.int .i64 2, .int .i64 0, .int .i64 0, .int .i64 0] 52), .blk (w.heap.size + 1) (.cells #[.int .i64 1, .int .i64 0, .int .i64 0, .int .i64 0] 52), .blk (w.heap.size) (.cells #[.int .i64 2, .int .i64 1, .slice (some ⟨w.heap.size + 1 + 1 + 1 + 1, 0, none⟩) 3 3, .slice A ours.length co, .slice (some ⟨w.heap.size + 1 + 1 + 1 + 1 + 1, 0, none⟩) 3 3] 32)] := by
    have al : ∀ (W : World) (L : List Asn) (b : Nat) (cs : Array Value) (t : TypeId), OwnL w W L → b = W.heap.size → OwnL w (W.alloc (.cells cs t)) (.blk b (.cells cs t) :: L) := fun W L b cs t h hb => h.add (alloc_ext _ _) (A := .blk b (.cells cs t)) ⟨by omega, by rw [hb]; exact heap_alloc_new _ _⟩
    rw [hX]
    exact al _ _ _ _ _ (al _ _ _ _ _ (al _ _ _ _ _ (al _ _ _ _ _ (al _ _ _ _ _ (al _ _ _ _ _ (OwnL.nil (Ext.refl w)) rfl) (by simp)) (by simp)) (by simp)) (by simp)) (by simp)
  have HO := Lib.hid (And.intro hX hO)
  clear hO hv hc hX
  go_enter Try.func36, Try.ntmps36
  go_wp2
  rw [← HO.out.1]
  have hO := HO.out.2
  have p0 := cell_of_blk (hO.get 5 rfl).2 0 (u := .int .i64 2) rfl
  have p1 := cell_of_blk (hO.get 5 rfl).2 1 (u := .int .i64 1) rfl
  have p2 := cell_of_blk (hO.get 5 rfl).2 2 (u := .slice (some ⟨w.heap.size + 1 + 1 + 1 + 1, 0, none⟩) 3 3) rfl
  have p3 := cell_of_blk (hO.get 5 rfl).2 3 (u := .slice A ours.length co) rfl
  have p4 := cell_of_blk (hO.get 5 rfl).2 4 (u := .slice (some ⟨w.heap.size + 1 + 1 + 1 + 1 + 1, 0, none⟩) 3 3) rfl
  refine bodyPost_ret (v := .agg #[.int .i64 2, .int .i64 1, .slice (some ⟨w.heap.size + 1 + 1 + 1 + 1, 0, none⟩) 3 3, .slice A ours.length co, .slice (some ⟨w.heap.size + 1 + 1 + 1 + 1 + 1, 0, none⟩) 3 3]) (by simp [results, Try.f36, go_sem, p0, p1, p2, p3, p4]) rfl ?_
  refine ⟨⟨_, rfl, ?_⟩, hO.ext⟩
  have hrr : RowsC X (.slice (some ⟨w.heap.size + 1 + 1 + 1 + 1, 0, none⟩) 3 3) m3.rows 3 := rows_blk (hO.get 1 rfl).2 rfl rfl (by omega) (fun i u es hu hes => by
    match i, hu, hes with
    | 0, hu, hes => cases hu; cases hes; exact ⟨2, edges2_blk (hO.get 4 rfl).2⟩
    | 1, hu, hes => cases hu; cases hes; exact ⟨2, edges2_blk (hO.get 3 rfl).2⟩
    | 2, hu, hes => cases hu; cases hes; exact ⟨2, edges2_blk (hO.get 2 rfl).2⟩
    | n + 3, hu, hes => simp at hu)
  exact ⟨_, 3, _, co, _, 3, rfl, hrr, HV.out.ext hO.ext, bools_blk (xs := [false, false, true]) (hO.get 0 rfl).2 rfl rfl (by omega)⟩
#print axioms three_any
end Go.Proofs.Yteadkafeabhhhaa
