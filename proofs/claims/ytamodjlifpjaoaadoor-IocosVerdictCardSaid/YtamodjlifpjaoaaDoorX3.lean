/- gauntletlaw27.Plan 23; tests that Make makes are valid and small. -/
import Derived.Test.YtamodjlifpjaoaaDoorX2
import Derived.Test.YtamodjlifpjaoaaDoorGJ
import Derived.Test.YtamodjlifpjaoaaDoorT1
namespace Go.Proofs.YtamodjlifpjaoaaDoor
open Go.RowKit
set_option linter.unusedVariables false
set_option linter.unusedSimpArgs false
attribute [local go_sem] Oper.quietV quietV Oper.gives givesV ext_refl_iff ext_alloc_iff ext_drew_iff ext_drewN_iff
def planI (ns : List Nat) (I : Nat) : List Int := (ns.take 5).map (fun n => ((n % (I + 1) : Nat) : Int) - 1)
theorem planI_ok {x : Lts} (hg : Good x) (ns : List Nat) : okPlan x (planI ns x.I) := fun a ha => by
  obtain ⟨n, _, rfl⟩ := List.mem_map.1 ha
  have h1 := hg.II.1
  have := Nat.mod_lt n (show 0 < x.I + 1 by omega)
  omega
theorem planI_len (ns : List Nat) (I : Nat) : (planI ns I).length ≤ 5 := by unfold planI; rw [List.length_map]; exact List.length_take_le 5 ns
theorem planI_step {ns : List Nat} {I i n : Nat} (hn : ns[i]? = some n) : (ns.take (i + 1)).map (fun n => ((n % (I + 1) : Nat) : Int) - 1) = (ns.take i).map (fun n => ((n % (I + 1) : Nat) : Int) - 1) ++ [((n % (I + 1) : Nat) : Int) - 1] := by
  rw [take_snoc hn, List.map_append]; rfl
set_option maxRecDepth 100000 in
set_option maxHeartbeats 8000000 in
theorem plan_any (w : World) (v : Value) (ns : List Nat) (cv : Nat) (i : Int) (I : Nat) (hi : i = (I : Int)) (hI : I ≤ 16) (hv : U8sC w v ns cv) : Calls Tryd.prog 23 #[v, .int .i64 i] w fun e w' => ∃ rv c, e = .returned rv ∧ IntsC w' rv (planI ns I) c ∧ Ext w w' := by
  obtain ⟨i3, hi3, hz3, hs3, hb3⟩ := info_parts int_info
  obtain ⟨Av, rfl, hvc, hvn, hvm, hvb⟩ := id hv
  have hd1 : IntKind.i64.wrap (i + 1) = i + 1 := by rw [IntKind.wrap_i64]; omega
  have hd0 : ¬ i + 1 = 0 := by omega
  have HI := Lib.hid hi
  have HV := Lib.hid (And.intro hvc hvb)
  unfold maxLen at hvm
  clear hv hvc hvb hi
  go_enter Tryd.func23, Tryd.ntmps23
  go_wp2
  go_loopw [5, 6] (fun rv iv wr => ∃ k : Nat, iv = .int .i64 k ∧ k ≤ ns.length ∧ k ≤ 5 ∧ OwnL w wr [.row 3 1 rv ((ns.take k).map (fun n => ((n % (I + 1) : Nat) : Int) - 1)).length (((ns.take k).map (fun n => ((n % (I + 1) : Nat) : Int) - 1)).map (.int .i64))]) (fun _ iv _ => 5 - (intOf iv).toNat)
  case atStart => exact ⟨0, rfl, by omega, by omega, by simpa using (OwnL.nil (Ext.refl w)).add (Ext.refl w) (A := .row 3 1 (.slice none 0 0) 0 []) (World.ownsRow_nil w _ 3 1)⟩
  case round =>
    obtain ⟨k, rfl, hk, hk5, hO⟩ := hrel
    obtain ⟨W5, hW5⟩ : ∃ W, W = wr := ⟨_, rfl⟩; subst hW5
    have HO := Lib.hid hO
    have hE5 := hO.ext
    have hfin : k = ns.length ∨ k = 5 → ∃ c, IntsC W5 u5 (planI ns I) c := fun h => by
      have h2 : (ns.take k).map (fun n => ((n % (I + 1) : Nat) : Int) - 1) = planI ns I := by
        unfold planI
        congr 1
        rcases h with rfl | rfl
        · rw [List.take_of_length_le (Nat.le_refl _), List.take_of_length_le hk5]
        · rfl
      have hrow := hO.get 0 rfl
      rw [h2] at hrow
      exact ints_of_owns hrow (by have := planI_len ns I; unfold lenMax; omega)
    have HF := Lib.hid hfin
    clear hfin
    by_cases hlt : k < ns.length
    · by_cases h5 : k < 5
      · obtain ⟨n, hn⟩ : ∃ n, ns[k]? = some n := ⟨_, List.getElem?_eq_getElem hlt⟩
        have hn2 := HV.out.2 n (List.mem_of_getElem? hn)
        obtain ⟨bf, of_, hA, _, hcc⟩ := (HV.out.1.ext hE5) (by rw [List.length_map]; omega)
        subst hA
        have hci := hcc k (.int .u8 (n : Int)) (by rw [List.getElem?_map, hn]; rfl)
        have HS := Lib.hid (planI_step (I := I) hn)
        have hlen : ((ns.take k).map (fun n => ((n % (I + 1) : Nat) : Int) - 1)).length ≤ 5 := by rw [List.length_map]; have := List.length_take_le k ns; omega
        generalize (ns.take k).map (fun n => ((n % (I + 1) : Nat) : Int) - 1) = out at *
        have w0 : IntKind.i64.wrap (n : Int) = n := by rw [IntKind.wrap_i64]; omega
        have hmd : (n : Int).tmod (i + 1) = ((n % (I + 1) : Nat) : Int) := by
          rw [HI.out, Int.tmod_eq_emod_of_nonneg (by omega)]; push_cast; rfl
        have hml := Nat.mod_lt n (show 0 < I + 1 by omega)
        have w1' : IntKind.i64.wrap (((n % (I + 1) : Nat) : Int) - 1) = ((n % (I + 1) : Nat) : Int) - 1 := by rw [IntKind.wrap_i64]; omega
        generalize n % (I + 1) = m at *
        have hown : W5.ownsRow w.heap.size 3 1 u5 out.length (out.map (.int .i64)) := HO.out.get 0 rfl
        have hsz := HO.out.ext.size
        clear hcc hn hO hE5
        go_wp2_with (at_builtin; refine wpList_append_own2 rfl _ _ 30 rfl w.heap.size 3 i3 (.int .i64 0) 1 8 Tryd.underlying30 hi3 hz3 hs3 hb3 rfl (by decide) u5 out.length (out.map (.int .i64)) rfl (World.ownsRow.alloc hown _) ⟨W5.heap.size, 0, none⟩ 1 1 [.int .i64 ((m : Int) - 1)] rfl rfl (new_cell _ _ _ _ rfl) (one_int _) (by unfold maxLen; omega) (by omega) (by simp; omega) ?_; intro v8 w8 hown8 hg8 hb8; have hO8 := (HO.out.trans (alloc_ext W5 (.cells #[.int .i64 ((m : Int) - 1)] 3))).app 0 rfl hg8 hown8 hb8; have HO8 := Lib.hid hO8; clear hO8 hown8 hg8 hb8)
        go_roundw
        case rel => exact ⟨k + 1, by go_num, hlt, h5, by rw [HS.out]; simpa using HO8.out⟩
        case measure => simp [intOf]; omega
      · obtain ⟨c9, hfin⟩ := HF.out (.inr (by omega))
        have HF2 := Lib.hid hfin
        clear hfin hO
        go_wp2
        go_ret
        exact ⟨_, c9, rfl, HF2.out, HO.out.ext⟩
    · obtain ⟨c9, hfin⟩ := HF.out (.inl (by omega))
      have HF2 := Lib.hid hfin
      clear hfin hO
      go_wp2
      go_ret
      exact ⟨_, c9, rfl, HF2.out, HO.out.ext⟩

/-! ### What Make makes -/
theorem fold_bound {x : Lts} {rec : Nat → Nat → List Nd} {S f m : Nat} (hm : 1 ≤ m) (h : ∀ T f', (rec T f').length ≤ m) : ∀ (ls : List Int) (k : List Int × List Nd), (ls.foldl (kidB x rec S f) k).2.length ≤ k.2.length + ls.length * m
  | [], k => by simp
  | l :: ls, k => by
    rw [List.foldl_cons]
    have h1 := fold_bound (x := x) (S := S) (f := f) hm h ls (kidB x rec S f k l)
    have h2 : (kidB x rec S f k l).2.length ≤ k.2.length + m := by
      unfold kidB subT
      rw [List.length_append]
      split
      · simp; omega
      · have := h (aftM x S l) (f + 1 + k.2.length); omega
    rw [List.length_cons, Nat.succ_mul]
    omega
def bigN : Nat → Nat
  | 0 => 1
  | k + 1 => 1 + 3 * bigN k
theorem bigN_pos (k : Nat) : 1 ≤ bigN k := by cases k <;> simp [bigN]
theorem mkT_bound {x : Lts} (hO : x.O ≤ 2) : ∀ (p : List Int) (S f : Nat), (mkT x p S f).length ≤ bigN p.length
  | [], _, _ => by simp [mkT, bigN]
  | a :: q, S, f => by
    have ih := mkT_bound hO q
    have hp := bigN_pos q.length
    by_cases h : a ≠ -1 ∧ aftM x S a = 0
    · rw [mkT_skip h.1 h.2]
      have := ih S f
      show _ ≤ 1 + 3 * bigN q.length
      omega
    · rw [mkT_node (by rcases Classical.em (a = -1) with h1 | h1; exact .inl h1; exact .inr fun e => h ⟨h1, e⟩), List.length_cons]
      have h1 := fold_bound (x := x) (rec := mkT x q) (S := S) (f := f) hp ih (labsOf x a) ([], [])
      have h2 : (labsOf x a).length ≤ 3 := by
        unfold labsOf
        split
        · rw [obs_len]; omega
        · simp
      have h3 : (labsOf x a).length * bigN q.length ≤ 3 * bigN q.length := Nat.mul_le_mul_right _ h2
      show (kidsT x (mkT x q) S f (labsOf x a)).2.length + 1 ≤ 1 + 3 * bigN q.length
      unfold kidsT
      simp only [List.length_nil, Nat.zero_add] at h1
      omega
/-- Nodes with numbers from f on, among n. -/
def NdsOk (i o : Int) (f n : Nat) (L : List Nd) : Prop := ∀ (k : Nat) (nd : Nd), L[k]? = some nd → manyOk i o nd = true ∧ ∀ t ∈ nd.next, ((f + k : Nat) : Int) < t ∧ t < (n : Int)
theorem NdsOk.mono {i o : Int} {f n n' : Nat} {L : List Nd} (h : NdsOk i o f n L) (hn : n ≤ n') : NdsOk i o f n' L := fun k nd hk => ⟨(h k nd hk).1, fun t ht => by have := (h k nd hk).2 t ht; omega⟩
structure KidOk (i o : Int) (f : Nat) (k : List Int × List Nd) : Prop where
  num : ∀ t ∈ k.1, (f : Int) < t ∧ t < ((f + 1 + k.2.length : Nat) : Int)
  nds : NdsOk i o (f + 1) (f + 1 + k.2.length) k.2
theorem many_end {i o : Int} {a : Int} (h : a = -2 ∨ a = -3) : manyOk i o ⟨a, []⟩ = true := by
  unfold manyOk
  rw [if_neg (by simp; omega), if_neg (by simp; omega), if_pos h]; rfl
theorem KidOk.step {x : Lts} {i o : Int} {rec : Nat → Nat → List Nd} {S f : Nat} (h : ∀ T f', 1 ≤ (rec T f').length ∧ NdsOk i o f' (f' + (rec T f').length) (rec T f')) {k : List Int × List Nd} (hk : KidOk i o f k) (l : Int) : KidOk i o f (kidB x rec S f k l) := by
  have hs : 1 ≤ (subT x rec S (f + 1 + k.2.length) l).length ∧ NdsOk i o (f + 1 + k.2.length) (f + 1 + k.2.length + (subT x rec S (f + 1 + k.2.length) l).length) (subT x rec S (f + 1 + k.2.length) l) := by
    unfold subT
    split
    · refine ⟨by simp, fun j nd hj => ?_⟩
      cases j with
      | zero => simp at hj; subst hj; exact ⟨many_end (.inr rfl), fun t ht => by cases ht⟩
      | succ j => simp at hj
    · exact h _ _
  generalize hB : subT x rec S (f + 1 + k.2.length) l = B at hs
  have he : kidB x rec S f k l = (k.1 ++ [((f + 1 + k.2.length : Nat) : Int)], k.2 ++ B) := by unfold kidB; rw [hB]
  rw [he]
  refine ⟨fun t ht => ?_, fun j nd hj => ?_⟩
  · simp only [List.length_append]
    rcases List.mem_append.1 ht with ht | ht
    · have := hk.num t ht; omega
    · rw [List.mem_singleton.1 ht]; have := hs.1; omega
  · simp only [List.length_append]
    by_cases hlt : j < k.2.length
    · rw [List.getElem?_append_left hlt] at hj
      obtain ⟨h1, h2⟩ := hk.nds j nd hj
      exact ⟨h1, fun t ht => by have := h2 t ht; omega⟩
    · rw [List.getElem?_append_right (by omega)] at hj
      obtain ⟨h1, h2⟩ := hs.2 _ nd hj
      exact ⟨h1, fun t ht => by have := h2 t ht; omega⟩
theorem KidOk.fold {x : Lts} {i o : Int} {rec : Nat → Nat → List Nd} {S f : Nat} (h : ∀ T f', 1 ≤ (rec T f').length ∧ NdsOk i o f' (f' + (rec T f').length) (rec T f')) : ∀ (ls : List Int) (k : List Int × List Nd), KidOk i o f k → KidOk i o f (ls.foldl (kidB x rec S f) k)
  | [], _, hk => hk
  | l :: ls, k, hk => KidOk.fold h ls _ (hk.step h l)
theorem mkT_nds {x : Lts} (hg : Good x) : ∀ (p : List Int), okPlan x p → ∀ (S f : Nat), NdsOk x.ins x.outs f (f + (mkT x p S f).length) (mkT x p S f)
  | [], _, S, f => fun j nd hj => by
    cases j with
    | zero => simp [mkT] at hj; subst hj; exact ⟨many_end (.inl rfl), fun t ht => by cases ht⟩
    | succ j => simp [mkT] at hj
  | a :: q, hp, S, f => by
    have ih := fun T f' => And.intro (mkT_pos x q T f') (mkT_nds hg q (fun z hz => hp z (by simp [hz])) T f')
    by_cases h : a ≠ -1 ∧ aftM x S a = 0
    · rw [mkT_skip h.1 h.2]; exact (ih S f).2
    · rw [mkT_node (by rcases Classical.em (a = -1) with h1 | h1; exact .inl h1; exact .inr fun e => h ⟨h1, e⟩)]
      have hk : KidOk x.ins x.outs f (kidsT x (mkT x q) S f (labsOf x a)) := KidOk.fold ih _ _ ⟨fun t ht => absurd ht (by simp), fun j nd hj => by simp at hj⟩
      have hl : (kidsT x (mkT x q) S f (labsOf x a)).1.length = (labsOf x a).length := kidsT_len x (mkT x q) S f _
      generalize kidsT x (mkT x q) S f (labsOf x a) = k at hk hl
      intro j nd hj
      cases j with
      | zero =>
        simp at hj
        subst hj
        refine ⟨?_, fun t ht => ?_⟩
        · unfold manyOk
          simp only [hl]
          have hII := hg.II.1
          have hOO := hg.OO.1
          rcases hp a (by simp) with h1 | h1
          · subst h1
            simp only [labsOf, if_pos, obs_len, if_true]
            simp; omega
          · rw [if_neg (by omega), if_pos h1]
            unfold labsOf
            rw [if_neg (by omega)]; rfl
        · have := hk.num t ht
          rw [List.length_cons]; omega
      | succ j =>
        simp at hj
        obtain ⟨h1, h2⟩ := hk.nds j nd hj
        exact ⟨h1, fun t ht => by have := h2 t ht; rw [List.length_cons]; omega⟩
theorem mkT_right {x : Lts} (hg : Good x) {p : List Int} (hp : okPlan x p) (S : Nat) : rightB x.ins x.outs (mkT x p S 0) = true := by
  have h := mkT_nds hg p hp S 0
  unfold rightB
  rw [Bool.and_eq_true]
  refine ⟨List.all_eq_true.2 fun k hk => ?_, decide_eq_true (show 0 < _ from mkT_pos x p S 0)⟩
  obtain ⟨nd, hnd⟩ : ∃ nd, (mkT x p S 0)[k]? = some nd := ⟨_, List.getElem?_eq_getElem (List.mem_range.1 hk)⟩
  obtain ⟨h1, h2⟩ := h k nd hnd
  unfold okNd
  rw [ndAt_get hnd, h1, Bool.true_and, Bool.not_eq_true', List.any_eq_false]
  intro t ht
  have := h2 t ht
  unfold offN
  simp; omega
end Go.Proofs.YtamodjlifpjaoaaDoor
