/- gauntletlaw32.G.Of 9, three 36: games out of plain data. -/
import Derived.Test.YteadkafeabhhhaaG2
import Derived.Test.YteadkafeabhhhaaM1
import Derived.Test.YteadkafeabhhhaaRegB
namespace Go.Proofs.Yteadkafeabhhhaa
open Go.RowKit
set_option linter.unusedVariables false
set_option linter.unusedSimpArgs false
attribute [local go_sem] Oper.quietV quietV Oper.gives givesV ext_refl_iff ext_alloc_iff ext_drew_iff ext_drewN_iff

def bitB (o s : Nat) : Bool := decide (o / 2 ^ (s % 8) % 2 = 1)
def bitsL (o n : Nat) : List Bool := (List.range n).map (bitB o)
theorem bitsL_len (o n : Nat) : (bitsL o n).length = n := by simp [bitsL]
theorem bits_succ (o n : Nat) : (bitsL o n).map Value.bool ++ [.bool (bitB o n)] = (bitsL o (n + 1)).map .bool := by simp [bitsL, List.range_succ]
theorem U16sC.ext {w w' : World} {v : Value} {xs : List Nat} {c : Nat} (h : U16sC w v xs c) (e : Ext w w') : U16sC w' v xs c := by
  obtain ⟨A, hv, hc, h2⟩ := h
  exact ⟨A, hv, hc.ext e, h2⟩
theorem own_far {W : World} {B e s n : Nat} {v : Value} {xs : List Value} (h : W.ownsRow B e s v n xs) {b : Nat} (hb : W.heap.size ≤ b) : some b ≠ v.ownBlock := fun he => by
  have := (World.ownsRow.lt h b he.symm).2
  omega
theorem new_cell (W : World) (x : Value) (t : TypeId) (n : Nat) (hn : W.heap.size = n) : ∀ (j : Nat) (u : Value), [x][j]? = some u → (W.alloc (.cells #[x] t)).cell? ((⟨n, 0, none⟩ : Addr).add j) = some u := by
  subst hn; exact cells_new W #[x] t
/-- What the region's loads read. -/
def Sg (Wb : World) (N : Nat) (vo vt : Value) (w : World) : Prop := Ext Wb w ∧ w.cell? ⟨N, 3, none⟩ = some vo ∧ w.cell? ⟨N, 4, none⟩ = some vt
theorem Sg.ext {Wb w w' : World} {N : Nat} {vo vt : Value} (h : Sg Wb N vo vt w) (e : Ext w w') : Sg Wb N vo vt w' := ⟨h.1.trans e, e.cell h.2.1, e.cell h.2.2⟩
def bitV (o s : Nat) : Bool := (bits .and .u8 ((o : Int) / 2 ^ min (IntKind.u64.wrap ((s : Int).tmod 8)).toNat 8) 1 == 1)
theorem bits_one : ∀ x : Nat, x < 256 → (bits .and .u8 (x : Int) 1 == 1) = decide (x % 2 = 1) := by decide +kernel
theorem bitV_eq {o s : Nat} (ho : o < 256) (hs : s < 100) : bitV o s = bitB o s := by
  have h1 : ((s : Int).tmod 8) = ((s % 8 : Nat) : Int) := by rw [Int.tmod_eq_emod_of_nonneg (by omega)]; push_cast; rfl
  have h2 : IntKind.u64.wrap ((s % 8 : Nat) : Int) = ((s % 8 : Nat) : Int) := by simp [IntKind.wrap, IntKind.bits, IntKind.signed]; omega
  have h3 : min (s % 8) 8 = s % 8 := by omega
  unfold bitV bitB
  rw [h1, h2, Int.toNat_natCast, h3]
  have h4 : (o : Int) / 2 ^ (s % 8) = ((o / 2 ^ (s % 8) : Nat) : Int) := by push_cast; rfl
  rw [h4]
  exact bits_one _ (Nat.lt_of_le_of_lt (Nat.div_le_self _ _) ho)
theorem bitsV_succ {o s : Nat} (ho : o < 256) (hs : s < 100) : (bitsL o s).map Value.bool ++ [.bool (bitV o s)] = (bitsL o (s + 1)).map .bool := by rw [bitV_eq ho hs, bits_succ]
structure RawG where
  m : Raw
  ours : Nat
  set : Nat
def RawGV (w : World) (v : Value) (r : RawG) : Prop := ∃ ev c, v = .agg #[.int .u8 r.m.states, .int .u8 r.m.inputs, .int .u8 r.m.outputs, .bool r.m.part, ev, .int .u8 r.ours, .int .u8 r.set] ∧ U16sC w ev r.m.edges c ∧ r.m.states < 256 ∧ r.m.inputs < 256 ∧ r.m.outputs < 256 ∧ r.ours < 256 ∧ r.set < 256
def RawG.game (r : RawG) : Game := ⟨r.m.mach, bitsL r.ours r.m.n, bitsL r.set r.m.n⟩

set_option maxRecDepth 100000 in
set_option maxHeartbeats 4000000 in
theorem GOf_any (w : World) (v : Value) (r : RawG) (hr : RawGV w v r) : Calls Try.prog 9 #[v] w fun e w' => (∃ gv, e = .returned gv ∧ GameV w' gv r.game) ∧ Ext w w' := by
  obtain ⟨ev, c, rfl, hu, h1, h2, h3, h4, h5⟩ := hr
  obtain ⟨i4, hi4, hz4, hs4, hb4⟩ := info_parts bool_info
  obtain ⟨Ae, rfl, hu2⟩ := id hu
  clear hu2
  go_enter Try.func9, Try.ntmps9
  go_upto_region 1 with fail
  refine wp_named ?_
  intro W1 hW1
  obtain ⟨Wb, hWb⟩ : ∃ Wb, Wb = w.alloc (.cells #[.int .u8 r.m.states, .int .u8 r.m.inputs, .int .u8 r.m.outputs, .bool r.m.part, .slice Ae r.m.edges.length c, .int .u8 r.ours, .int .u8 r.set] 26) := ⟨_, rfl⟩
  rw [← hWb] at hW1
  have hEb : Ext w Wb := by rw [hWb]; exact alloc_ext _ _
  have hbs : Wb.heap.size = w.heap.size + 1 := by rw [hWb]; simp
  have k0 : ∀ w', Ext Wb w' → w'.cell? ⟨w.heap.size, 0, none⟩ = some (.int .u8 r.m.states) := fun w' h => h.cell (by rw [hWb]; simp [go_sem])
  have k1 : ∀ w', Ext Wb w' → w'.cell? ⟨w.heap.size, 1, none⟩ = some (.int .u8 r.m.inputs) := fun w' h => h.cell (by rw [hWb]; simp [go_sem])
  have k2 : ∀ w', Ext Wb w' → w'.cell? ⟨w.heap.size, 2, none⟩ = some (.int .u8 r.m.outputs) := fun w' h => h.cell (by rw [hWb]; simp [go_sem])
  have k3 : ∀ w', Ext Wb w' → w'.cell? ⟨w.heap.size, 3, none⟩ = some (.bool r.m.part) := fun w' h => h.cell (by rw [hWb]; simp [go_sem])
  have k4 : ∀ w', Ext Wb w' → w'.cell? ⟨w.heap.size, 4, none⟩ = some (.slice Ae r.m.edges.length c) := fun w' h => h.cell (by rw [hWb]; simp [go_sem])
  have k5 : ∀ w', Ext Wb w' → w'.cell? ⟨w.heap.size, 5, none⟩ = some (.int .u8 r.ours) := fun w' h => h.cell (by rw [hWb]; simp [go_sem])
  have k6 : ∀ w', Ext Wb w' → w'.cell? ⟨w.heap.size, 6, none⟩ = some (.int .u8 r.set) := fun w' h => h.cell (by rw [hWb]; simp [go_sem])
  have hO1 : OwnL Wb W1 [.blk (w.heap.size + 1) (.cells #[.int .i64 0, .int .i64 0, .slice none 0 0, .slice none 0 0, .slice none 0 0] 32)] := by
    rw [hW1]; exact (OwnL.nil (Ext.refl Wb)).add (alloc_ext _ _) (A := .blk (w.heap.size + 1) (.cells #[.int .i64 0, .int .i64 0, .slice none 0 0, .slice none 0 0, .slice none 0 0] 32)) ⟨by omega, by rw [← hbs]; exact heap_alloc_new _ _⟩
  have hbs1 : W1.heap.size = w.heap.size + 2 := by rw [hW1]; simp; omega
  clear hW1 hWb
  have hE0 := hO1.ext
  have hof := OfN_any W1 _ r.m ⟨_, c, rfl, U16sC.ext hu (hEb.trans hE0), h1, h2, h3⟩
  go_upto_region 2 with (go_at_call 32; refine hof.mono ?_; rintro e W2 ⟨⟨mv, rfl, hN⟩, hE2⟩; obtain ⟨rv, cr, rfl, hrows⟩ := id hN.self; obtain ⟨Ar, vs, rfl, hrr⟩ := id hrows; clear hrr)
  have HN := Lib.hid hN
  clear hof hN
  obtain ⟨N3, hN3⟩ : ∃ N3, N3 = W2.heap.size := ⟨_, rfl⟩
  obtain ⟨n, hn⟩ : ∃ n, n = r.m.n := ⟨_, rfl⟩
  have hrl : r.m.mach.rows.length = n := by rw [hn]; simp [Raw.mach]
  have hn6 : n ≤ 6 := by rw [hn]; unfold Raw.n; omega
  rw [hrl]
  have HNN := Lib.hid (And.intro hn (And.intro hrl hrows))
  have hO2 : OwnL W2 (W2.alloc (.cells #[.int .i64 r.m.mach.ins, .int .i64 r.m.mach.outs, .slice Ar n cr, .slice none 0 0, .slice none 0 0] 32)) [.row 4 1 (.slice none 0 0) 0 [], .row 4 1 (.slice none 0 0) 0 [], .blk N3 (.cells #[.int .i64 r.m.mach.ins, .int .i64 r.m.mach.outs, .slice Ar n cr, .slice none 0 0, .slice none 0 0] 32)] :=
    (((OwnL.nil (Ext.refl W2)).add (alloc_ext _ _) (A := .blk N3 (.cells #[.int .i64 r.m.mach.ins, .int .i64 r.m.mach.outs, .slice Ar n cr, .slice none 0 0, .slice none 0 0] 32)) ⟨by omega, by rw [hN3]; exact heap_alloc_new _ _⟩).add (Ext.refl _) (A := .row 4 1 (.slice none 0 0) 0 []) (World.ownsRow_nil _ _ _ _)).add (Ext.refl _) (A := .row 4 1 (.slice none 0 0) 0 []) (World.ownsRow_nil _ _ _ _)
  have hEb2 : Ext Wb W2 := hE0.trans hE2
  have hgt : w.heap.size + 1 < N3 := by have := hE2.size; omega
  rw [← hN3]
  clear hn hrl hrows hN3
  generalize r.m.mach.ins = mi at *
  generalize r.m.mach.outs = mo at *
  go_wp2
  go_loopw [4] (fun i wr => ∃ (s : Nat) (vo vt : Value), i = .int .i64 s ∧ s ≤ n ∧ Ext Wb wr ∧ OwnL W2 wr [.row 4 1 vo s ((bitsL r.ours s).map .bool), .row 4 1 vt s ((bitsL r.set s).map .bool), .blk N3 (.cells #[.int .i64 mi, .int .i64 mo, .slice Ar n cr, vo, vt] 32)]) (fun i _ => n - (intOf i).toNat)
  case atStart => exact ⟨0, _, _, rfl, by omega, hEb2.trans hO2.ext, hO2⟩
  case round =>
    clear hO2
    obtain ⟨s, vo, vt, rfl, hs, hE, hO⟩ := hrel
    obtain ⟨W3, hW3⟩ : ∃ W, W = wr := ⟨_, rfl⟩; subst hW3
    have x2 := cell_of_blk (hO.get 2 rfl).2 2 (u := .slice Ar n cr) rfl
    have x3 := cell_of_blk (hO.get 2 rfl).2 3 (u := vo) rfl
    have x4 := cell_of_blk (hO.get 2 rfl).2 4 (u := vt) rfl
    by_cases hlt : s < n
    · have hsI : (s : Int) < (n : Int) := by omega
      go_upto_region 5 with fail
      have ho1 : ∀ w', Ext W3 w' → w'.ownsRow W2.heap.size 4 1 vo s ((bitsL r.ours s).map .bool) := fun w' h => (hO.trans h).get 0 rfl
      have ho2 : ∀ w', Ext W3 w' → w'.ownsRow W2.heap.size 4 1 vt s ((bitsL r.set s).map .bool) := fun w' h => (hO.trans h).get 1 rfl
      have hsz3 := hO.ext.size
      have HB := Lib.hid (And.intro (bitsV_succ (o := r.ours) (s := s) h4 (by omega)) (bitsV_succ (o := r.set) (s := s) h5 (by omega)))
      have hN3l := lt_of_block (hO.get 2 rfl).2
      refine wp_region_bar 25 (Sg Wb N3 vo vt) (by kernel_rfl) ?_
      have hS0 : Sg Wb N3 vo vt W3.drew := ⟨hE.drew, (Ext.refl W3).drew.cell x3, (Ext.refl W3).drew.cell x4⟩
      refine wpAnyB_take (i := 0) (v := ?_) rfl (by kernel_rfl) (by kernel_rfl) (by kernel_rfl) (by kernel_rfl) (fun _ _ _ h => h) (Or.inl ⟨by rfl, ?_⟩) hS0 ?_
      rotate_left
      · (intro w hSw; obtain ⟨s1, s2, s3⟩ := hSw; go_simp; first | done | with_reducible rfl)
      try simp only [Act.put, List.setIfInBounds_toArray, List.set_cons_zero, List.set_cons_succ]
      refine wpAnyB_take (i := 1) (v := ?_) rfl (by kernel_rfl) (by kernel_rfl) (by kernel_rfl) (by kernel_rfl) (fun _ _ _ h => h) (Or.inl ⟨by rfl, ?_⟩) hS0 ?_
      rotate_left
      · (intro w hSw; obtain ⟨s1, s2, s3⟩ := hSw; go_simp; first | done | with_reducible rfl)
      try simp only [Act.put, List.setIfInBounds_toArray, List.set_cons_zero, List.set_cons_succ]
      refine wpAnyB_take (i := 2) (v := ?_) rfl (by kernel_rfl) (by kernel_rfl) (by kernel_rfl) (by kernel_rfl) (fun _ _ _ h => h) (Or.inl ⟨by rfl, ?_⟩) hS0 ?_
      rotate_left
      · (intro w hSw; obtain ⟨s1, s2, s3⟩ := hSw; go_simp; first | done | with_reducible rfl)
      try simp only [Act.put, List.setIfInBounds_toArray, List.set_cons_zero, List.set_cons_succ]
      refine wpAnyB_take (i := 3) (v := ?_) rfl (by kernel_rfl) (by kernel_rfl) (by kernel_rfl) (by kernel_rfl) (fun _ _ _ h => h) (Or.inl ⟨by rfl, ?_⟩) hS0 ?_
      rotate_left
      · (intro w hSw; obtain ⟨s1, s2, s3⟩ := hSw; go_simp; first | done | with_reducible rfl)
      try simp only [Act.put, List.setIfInBounds_toArray, List.set_cons_zero, List.set_cons_succ]
      refine wpAnyB_take (i := 4) (v := ?_) rfl (by kernel_rfl) (by kernel_rfl) (by kernel_rfl) (by kernel_rfl) (fun _ _ _ h => h) (Or.inl ⟨by rfl, ?_⟩) hS0 ?_
      rotate_left
      · (intro w hSw; obtain ⟨s1, s2, s3⟩ := hSw; go_simp; first | done | with_reducible rfl)
      try simp only [Act.put, List.setIfInBounds_toArray, List.set_cons_zero, List.set_cons_succ]
      refine wpAnyB_take (i := 5) (v := ?_) rfl (by kernel_rfl) (by kernel_rfl) (by kernel_rfl) (by kernel_rfl) (fun _ _ _ h => h) (Or.inl ⟨by rfl, ?_⟩) hS0 ?_
      rotate_left
      · (intro w hSw; obtain ⟨s1, s2, s3⟩ := hSw; go_simp; first | done | with_reducible rfl)
      try simp only [Act.put, List.setIfInBounds_toArray, List.set_cons_zero, List.set_cons_succ]
      refine wpAnyB_take (i := 6) (v := ?_) rfl (by kernel_rfl) (by kernel_rfl) (by kernel_rfl) (by kernel_rfl) (fun _ _ _ h => h) (Or.inl ⟨by rfl, ?_⟩) hS0 ?_
      rotate_left
      · (intro w hSw; obtain ⟨s1, s2, s3⟩ := hSw; go_simp; first | done | with_reducible rfl)
      try simp only [Act.put, List.setIfInBounds_toArray, List.set_cons_zero, List.set_cons_succ]
      refine wpAnyB_take (i := 7) (v := ?_) rfl (by kernel_rfl) (by kernel_rfl) (by kernel_rfl) (by kernel_rfl) (fun _ _ _ h => h) (Or.inl ⟨by rfl, ?_⟩) hS0 ?_
      rotate_left
      · (intro w hSw; obtain ⟨s1, s2, s3⟩ := hSw; go_simp; first | done | with_reducible rfl)
      try simp only [Act.put, List.setIfInBounds_toArray, List.set_cons_zero, List.set_cons_succ]
      refine wpAnyB_take (i := 8) (v := ?_) rfl (by kernel_rfl) (by kernel_rfl) (by kernel_rfl) (by kernel_rfl) (fun _ _ _ h => h) (Or.inl ⟨by rfl, ?_⟩) hS0 ?_
      rotate_left
      · (intro w hSw; obtain ⟨s1, s2, s3⟩ := hSw; go_simp; first | done | with_reducible rfl)
      try simp only [Act.put, List.setIfInBounds_toArray, List.set_cons_zero, List.set_cons_succ]
      refine wpAnyB_take (i := 9) (v := ?_) rfl (by kernel_rfl) (by kernel_rfl) (by kernel_rfl) (by kernel_rfl) (fun _ _ _ h => h) (Or.inl ⟨by rfl, ?_⟩) hS0 ?_
      rotate_left
      · (intro w hSw; obtain ⟨s1, s2, s3⟩ := hSw; go_simp; first | done | with_reducible rfl)
      try simp only [Act.put, List.setIfInBounds_toArray, List.set_cons_zero, List.set_cons_succ]
      refine wpAnyB_take (i := 12) (v := ?_) rfl (by kernel_rfl) (by kernel_rfl) (by kernel_rfl) (by kernel_rfl) (fun _ _ _ h => h) (Or.inl ⟨by rfl, ?_⟩) hS0 ?_
      rotate_left
      · (intro w hSw; obtain ⟨s1, s2, s3⟩ := hSw; go_simp; first | done | with_reducible rfl)
      try simp only [Act.put, List.setIfInBounds_toArray, List.set_cons_zero, List.set_cons_succ]
      refine wpAnyB_take (i := 13) (v := ?_) rfl (by kernel_rfl) (by kernel_rfl) (by kernel_rfl) (by kernel_rfl) (fun _ _ _ h => h) (Or.inl ⟨by rfl, ?_⟩) hS0 ?_
      rotate_left
      · (intro w hSw; obtain ⟨s1, s2, s3⟩ := hSw; go_simp; first | done | with_reducible rfl)
      try simp only [Act.put, List.setIfInBounds_toArray, List.set_cons_zero, List.set_cons_succ]
      refine wpAnyB_take (i := 14) (v := ?_) rfl (by kernel_rfl) (by kernel_rfl) (by kernel_rfl) (by kernel_rfl) (fun _ _ _ h => h) (Or.inl ⟨by rfl, ?_⟩) hS0 ?_
      rotate_left
      · (intro w hSw; obtain ⟨s1, s2, s3⟩ := hSw; go_simp; first | done | with_reducible rfl)
      try simp only [Act.put, List.setIfInBounds_toArray, List.set_cons_zero, List.set_cons_succ]
      refine wpAnyB_take (i := 15) (v := ?_) rfl (by kernel_rfl) (by kernel_rfl) (by kernel_rfl) (by kernel_rfl) (fun _ _ _ h => h) (Or.inl ⟨by rfl, ?_⟩) hS0 ?_
      rotate_left
      · (intro w hSw; obtain ⟨s1, s2, s3⟩ := hSw; go_simp; first | done | with_reducible rfl)
      try simp only [Act.put, List.setIfInBounds_toArray, List.set_cons_zero, List.set_cons_succ]
      refine wpAnyB_take (i := 16) (v := ?_) rfl (by kernel_rfl) (by kernel_rfl) (by kernel_rfl) (by kernel_rfl) (fun _ _ _ h => h) (Or.inl ⟨by rfl, ?_⟩) hS0 ?_
      rotate_left
      · (intro w hSw; obtain ⟨s1, s2, s3⟩ := hSw; go_simp; first | done | with_reducible rfl)
      try simp only [Act.put, List.setIfInBounds_toArray, List.set_cons_zero, List.set_cons_succ]
      refine wpAnyB_take (i := 17) (v := ?_) rfl (by kernel_rfl) (by kernel_rfl) (by kernel_rfl) (by kernel_rfl) (fun _ _ _ h => h) (Or.inl ⟨by rfl, ?_⟩) hS0 ?_
      rotate_left
      · (intro w hSw; obtain ⟨s1, s2, s3⟩ := hSw; go_simp; first | done | with_reducible rfl)
      try simp only [Act.put, List.setIfInBounds_toArray, List.set_cons_zero, List.set_cons_succ]
      refine wpAnyB_take (i := 18) (v := ?_) rfl (by kernel_rfl) (by kernel_rfl) (by kernel_rfl) (by kernel_rfl) (fun _ _ _ h => h) (Or.inl ⟨by rfl, ?_⟩) hS0 ?_
      rotate_left
      · (intro w hSw; obtain ⟨s1, s2, s3⟩ := hSw; go_simp; first | done | with_reducible rfl)
      try simp only [Act.put, List.setIfInBounds_toArray, List.set_cons_zero, List.set_cons_succ]
      refine wpAnyB_take (i := 19) (v := ?_) rfl (by kernel_rfl) (by kernel_rfl) (by kernel_rfl) (by kernel_rfl) (fun _ _ _ h => h) (Or.inl ⟨by rfl, ?_⟩) hS0 ?_
      rotate_left
      · (intro w hSw; obtain ⟨s1, s2, s3⟩ := hSw; go_simp; first | done | with_reducible rfl)
      try simp only [Act.put, List.setIfInBounds_toArray, List.set_cons_zero, List.set_cons_succ]
      refine wpAnyB_take (i := 20) (v := ?_) rfl (by kernel_rfl) (by kernel_rfl) (by kernel_rfl) (by kernel_rfl) (fun _ _ _ h => h) (Or.inl ⟨by rfl, ?_⟩) hS0 ?_
      rotate_left
      · (intro w hSw; obtain ⟨s1, s2, s3⟩ := hSw; go_simp; first | done | with_reducible rfl)
      try simp only [Act.put, List.setIfInBounds_toArray, List.set_cons_zero, List.set_cons_succ]
      refine wpAnyB_take (i := 21) (v := ?_) rfl (by kernel_rfl) (by kernel_rfl) (by kernel_rfl) (by kernel_rfl) (fun _ _ _ h => h) (Or.inl ⟨by rfl, ?_⟩) hS0 ?_
      rotate_left
      · (intro w hSw; obtain ⟨s1, s2, s3⟩ := hSw; go_simp; first | done | with_reducible rfl)
      try simp only [Act.put, List.setIfInBounds_toArray, List.set_cons_zero, List.set_cons_succ]
      refine wpAnyB_ready (rs := [10, 22]) (by kernel_rfl) (by simp) (AllB.cons rfl (fun K hK => ?_) (AllB.cons rfl (fun K hK => ?_) AllB.nil))
      · skip
        go_simp
        refine hK.out _ _ (Sg.ext hS0 (alloc_ext _ _)) ?_
        clear hK K
        try simp only [Act.put, List.setIfInBounds_toArray, List.set_cons_zero, List.set_cons_succ]
        refine wpAnyB_ready (rs := [11, 22]) (by kernel_rfl) (by simp) (AllB.cons rfl (fun K hK => ?_) (AllB.cons rfl (fun K hK => ?_) AllB.nil))
        · skip
          refine step_append_own2 rfl _ _ 30 rfl W2.heap.size 4 i4 (.bool false) 1 1 Try.underlying30 hi4 hz4 hs4 hb4 rfl (by decide) vo s _ (by rfl) (ho1 _ (by repeat (first | exact Ext.refl _ | refine Ext.drew ?_ | refine Ext.alloc ?_ _))) ⟨_, 0, none⟩ 1 1 [.bool _] (by rfl) rfl (new_cell _ _ _ _ (by simp)) (one_bool _) (by unfold maxLen; omega) (by omega) (by simp; omega) ?_
          intro v6 w6 hown6 hg6 hb6
          obtain ⟨g6, c6, rfl⟩ := ownsRow_pos hown6 (by omega)
          have hO6 := (hO.trans (by repeat (first | exact Ext.refl _ | refine Ext.drew ?_ | refine Ext.alloc ?_ _))).app 0 rfl hg6 hown6 hb6
          have hkp := fun (a : Addr) (u : Value) (hb : W3.heap.size ≤ a.block) hc => hg6.cell (a := a) (v := u) hc (own_far (ho1 W3 (Ext.refl _)) hb)
          have hS2 : Sg Wb N3 vo vt w6 := ⟨hEb2.trans hO6.ext, cell_of_blk (hO6.get 2 rfl).2 3 (u := vo) rfl, cell_of_blk (hO6.get 2 rfl).2 4 (u := vt) rfl⟩
          refine hK.out _ _ hS2 ?_
          clear hK K hg6 hb6 hown6
          try simp only [Act.put, List.setIfInBounds_toArray, List.set_cons_zero, List.set_cons_succ]
          refine wpAnyB_take (i := 24) (v := ?_) rfl (by kernel_rfl) (by kernel_rfl) (by kernel_rfl) (by kernel_rfl) (fun _ _ _ h => h) (Or.inl ⟨by rfl, ?_⟩) hS2 ?_
          rotate_left
          · (intro w hSw; obtain ⟨s1, s2, s3⟩ := hSw; go_simp; first | done | with_reducible rfl)
          try simp only [Act.put, List.setIfInBounds_toArray, List.set_cons_zero, List.set_cons_succ]
          refine wpAnyB_ready (rs := [22]) (by kernel_rfl) (by simp) (AllB.cons rfl (fun K hK => ?_) AllB.nil)
          go_simp
          refine hK.out _ _ (Sg.ext hS2 (alloc_ext _ _)) ?_
          clear hK K
          try simp only [Act.put, List.setIfInBounds_toArray, List.set_cons_zero, List.set_cons_succ]
          refine wpAnyB_ready (rs := [23]) (by kernel_rfl) (by simp) (AllB.cons rfl (fun K hK => ?_) AllB.nil)
          refine step_append_own2 rfl _ _ 30 rfl W2.heap.size 4 i4 (.bool false) 1 1 Try.underlying30 hi4 hz4 hs4 hb4 rfl (by decide) vt s _ (by rfl) ((hO6.trans (by repeat (first | exact Ext.refl _ | refine Ext.drew ?_ | refine Ext.alloc ?_ _))).get 1 rfl) ⟨_, 0, none⟩ 1 1 [.bool _] (by rfl) rfl (new_cell _ _ _ _ (by simp)) (one_bool _) (by unfold maxLen; omega) (by omega) (by have := hO6.ext.size; simp; omega) ?_
          intro v7 w7 hown7 hg7 hb7
          obtain ⟨g7, c7, rfl⟩ := ownsRow_pos hown7 (by omega)
          have hO7 := (hO6.trans (by repeat (first | exact Ext.refl _ | refine Ext.drew ?_ | refine Ext.alloc ?_ _))).app 1 rfl hg7 hown7 hb7
          have hS4 : Sg Wb N3 vo vt w7 := ⟨hEb2.trans hO7.ext, cell_of_blk (hO7.get 2 rfl).2 3 (u := vo) rfl, cell_of_blk (hO7.get 2 rfl).2 4 (u := vt) rfl⟩
          refine hK.out _ _ hS4 ?_
          clear hK K hg7 hb7 hown7
          try simp only [Act.put, List.setIfInBounds_toArray, List.set_cons_zero, List.set_cons_succ]
          refine wpAnyB_tail rfl rfl (by decide) (by kernel_rfl) ?_
          have y3 := cell_of_blk (hO7.get 2 rfl).2 3 (u := vo) rfl
          have y4 := cell_of_blk (hO7.get 2 rfl).2 4 (u := vt) rfl
          have f7 := free_of_blk (hO7.get 2 rfl).2
          have hO8 := (hO7.put 2 rfl 3 (.slice (some ⟨g6, 0, none⟩) (s + 1) c6)).put 2 rfl 4 (.slice (some ⟨g7, 0, none⟩) (s + 1) c7)
          have HO8 := Lib.hid hO8
          clear hO8 hO7 hO6 hkp
          go_wp2
          go_roundw
          case rel =>
            have h8 := HO8.out
            have e8 := h8.ext
            have hq1 := HB.out.1
            have hq2 := HB.out.2
            unfold bitV at hq1 hq2
            rw [hq1, hq2] at h8
            exact ⟨s + 1, _, _, by go_num, by omega, hEb2.trans e8, h8⟩
          case measure => simp [intOf]; omega
        · skip
          go_simp
          refine hK.out _ _ (Sg.ext (Sg.ext hS0 (alloc_ext _ _)) (alloc_ext _ _)) ?_
          clear hK K
          try simp only [Act.put, List.setIfInBounds_toArray, List.set_cons_zero, List.set_cons_succ]
          refine wpAnyB_ready (rs := [11]) (by kernel_rfl) (by simp) (AllB.cons rfl (fun K hK => ?_) AllB.nil)
          refine step_append_own2 rfl _ _ 30 rfl W2.heap.size 4 i4 (.bool false) 1 1 Try.underlying30 hi4 hz4 hs4 hb4 rfl (by decide) vo s _ (by rfl) (ho1 _ (by repeat (first | exact Ext.refl _ | refine Ext.drew ?_ | refine Ext.alloc ?_ _))) ⟨_, 0, none⟩ 1 1 [.bool _] (by rfl) rfl (fun j u h => (alloc_ext _ _).cell (new_cell _ _ _ _ (by simp) j u h)) (one_bool _) (by unfold maxLen; omega) (by omega) (by simp; omega) ?_
          intro v6 w6 hown6 hg6 hb6
          obtain ⟨g6, c6, rfl⟩ := ownsRow_pos hown6 (by omega)
          have hO6 := (hO.trans (by repeat (first | exact Ext.refl _ | refine Ext.drew ?_ | refine Ext.alloc ?_ _))).app 0 rfl hg6 hown6 hb6
          have hkp := fun (a : Addr) (u : Value) (hb : W3.heap.size ≤ a.block) hc => hg6.cell (a := a) (v := u) hc (own_far (ho1 W3 (Ext.refl _)) hb)
          have hS3 : Sg Wb N3 vo vt w6 := ⟨hEb2.trans hO6.ext, cell_of_blk (hO6.get 2 rfl).2 3 (u := vo) rfl, cell_of_blk (hO6.get 2 rfl).2 4 (u := vt) rfl⟩
          refine hK.out _ _ hS3 ?_
          clear hK K hg6 hb6 hown6
          try simp only [Act.put, List.setIfInBounds_toArray, List.set_cons_zero, List.set_cons_succ]
          refine wpAnyB_take (i := 24) (v := ?_) rfl (by kernel_rfl) (by kernel_rfl) (by kernel_rfl) (by kernel_rfl) (fun _ _ _ h => h) (Or.inl ⟨by rfl, ?_⟩) hS3 ?_
          rotate_left
          · (intro w hSw; obtain ⟨s1, s2, s3⟩ := hSw; go_simp; first | done | with_reducible rfl)
          try simp only [Act.put, List.setIfInBounds_toArray, List.set_cons_zero, List.set_cons_succ]
          refine wpAnyB_ready (rs := [23]) (by kernel_rfl) (by simp) (AllB.cons rfl (fun K hK => ?_) AllB.nil)
          refine step_append_own2 rfl _ _ 30 rfl W2.heap.size 4 i4 (.bool false) 1 1 Try.underlying30 hi4 hz4 hs4 hb4 rfl (by decide) vt s _ (by rfl) ((hO6.trans (by repeat (first | exact Ext.refl _ | refine Ext.drew ?_ | refine Ext.alloc ?_ _))).get 1 rfl) ⟨_, 0, none⟩ 1 1 [.bool _] (by rfl) rfl (fun j u h => hkp _ _ (by rw [Addr.add_lit]; simp) (new_cell _ _ _ _ (by simp) j u h)) (one_bool _) (by unfold maxLen; omega) (by omega) (by have := hO6.ext.size; simp; omega) ?_
          intro v7 w7 hown7 hg7 hb7
          obtain ⟨g7, c7, rfl⟩ := ownsRow_pos hown7 (by omega)
          have hO7 := (hO6.trans (by repeat (first | exact Ext.refl _ | refine Ext.drew ?_ | refine Ext.alloc ?_ _))).app 1 rfl hg7 hown7 hb7
          have hS4 : Sg Wb N3 vo vt w7 := ⟨hEb2.trans hO7.ext, cell_of_blk (hO7.get 2 rfl).2 3 (u := vo) rfl, cell_of_blk (hO7.get 2 rfl).2 4 (u := vt) rfl⟩
          refine hK.out _ _ hS4 ?_
          clear hK K hg7 hb7 hown7
          try simp only [Act.put, List.setIfInBounds_toArray, List.set_cons_zero, List.set_cons_succ]
          refine wpAnyB_tail rfl rfl (by decide) (by kernel_rfl) ?_
          have y3 := cell_of_blk (hO7.get 2 rfl).2 3 (u := vo) rfl
          have y4 := cell_of_blk (hO7.get 2 rfl).2 4 (u := vt) rfl
          have f7 := free_of_blk (hO7.get 2 rfl).2
          have hO8 := (hO7.put 2 rfl 3 (.slice (some ⟨g6, 0, none⟩) (s + 1) c6)).put 2 rfl 4 (.slice (some ⟨g7, 0, none⟩) (s + 1) c7)
          have HO8 := Lib.hid hO8
          clear hO8 hO7 hO6 hkp
          go_wp2
          go_roundw
          case rel =>
            have h8 := HO8.out
            have e8 := h8.ext
            have hq1 := HB.out.1
            have hq2 := HB.out.2
            unfold bitV at hq1 hq2
            rw [hq1, hq2] at h8
            exact ⟨s + 1, _, _, by go_num, by omega, hEb2.trans e8, h8⟩
          case measure => simp [intOf]; omega
      · skip
        go_simp
        refine hK.out _ _ (Sg.ext hS0 (alloc_ext _ _)) ?_
        clear hK K
        try simp only [Act.put, List.setIfInBounds_toArray, List.set_cons_zero, List.set_cons_succ]
        refine wpAnyB_ready (rs := [10]) (by kernel_rfl) (by simp) (AllB.cons rfl (fun K hK => ?_) AllB.nil)
        go_simp
        refine hK.out _ _ (Sg.ext (Sg.ext hS0 (alloc_ext _ _)) (alloc_ext _ _)) ?_
        clear hK K
        try simp only [Act.put, List.setIfInBounds_toArray, List.set_cons_zero, List.set_cons_succ]
        refine wpAnyB_ready (rs := [11]) (by kernel_rfl) (by simp) (AllB.cons rfl (fun K hK => ?_) AllB.nil)
        refine step_append_own2 rfl _ _ 30 rfl W2.heap.size 4 i4 (.bool false) 1 1 Try.underlying30 hi4 hz4 hs4 hb4 rfl (by decide) vo s _ (by rfl) (ho1 _ (by repeat (first | exact Ext.refl _ | refine Ext.drew ?_ | refine Ext.alloc ?_ _))) ⟨_, 0, none⟩ 1 1 [.bool _] (by rfl) rfl (new_cell _ _ _ _ (by simp)) (one_bool _) (by unfold maxLen; omega) (by omega) (by simp; omega) ?_
        intro v6 w6 hown6 hg6 hb6
        obtain ⟨g6, c6, rfl⟩ := ownsRow_pos hown6 (by omega)
        have hO6 := (hO.trans (by repeat (first | exact Ext.refl _ | refine Ext.drew ?_ | refine Ext.alloc ?_ _))).app 0 rfl hg6 hown6 hb6
        have hkp := fun (a : Addr) (u : Value) (hb : W3.heap.size ≤ a.block) hc => hg6.cell (a := a) (v := u) hc (own_far (ho1 W3 (Ext.refl _)) hb)
        have hS3 : Sg Wb N3 vo vt w6 := ⟨hEb2.trans hO6.ext, cell_of_blk (hO6.get 2 rfl).2 3 (u := vo) rfl, cell_of_blk (hO6.get 2 rfl).2 4 (u := vt) rfl⟩
        refine hK.out _ _ hS3 ?_
        clear hK K hg6 hb6 hown6
        try simp only [Act.put, List.setIfInBounds_toArray, List.set_cons_zero, List.set_cons_succ]
        refine wpAnyB_take (i := 24) (v := ?_) rfl (by kernel_rfl) (by kernel_rfl) (by kernel_rfl) (by kernel_rfl) (fun _ _ _ h => h) (Or.inl ⟨by rfl, ?_⟩) hS3 ?_
        rotate_left
        · (intro w hSw; obtain ⟨s1, s2, s3⟩ := hSw; go_simp; first | done | with_reducible rfl)
        try simp only [Act.put, List.setIfInBounds_toArray, List.set_cons_zero, List.set_cons_succ]
        refine wpAnyB_ready (rs := [23]) (by kernel_rfl) (by simp) (AllB.cons rfl (fun K hK => ?_) AllB.nil)
        refine step_append_own2 rfl _ _ 30 rfl W2.heap.size 4 i4 (.bool false) 1 1 Try.underlying30 hi4 hz4 hs4 hb4 rfl (by decide) vt s _ (by rfl) ((hO6.trans (by repeat (first | exact Ext.refl _ | refine Ext.drew ?_ | refine Ext.alloc ?_ _))).get 1 rfl) ⟨_, 0, none⟩ 1 1 [.bool _] (by rfl) rfl (fun j u h => hkp _ _ (by rw [Addr.add_lit]; simp) ((alloc_ext _ _).cell (new_cell _ _ _ _ (by simp) j u h))) (one_bool _) (by unfold maxLen; omega) (by omega) (by have := hO6.ext.size; simp; omega) ?_
        intro v7 w7 hown7 hg7 hb7
        obtain ⟨g7, c7, rfl⟩ := ownsRow_pos hown7 (by omega)
        have hO7 := (hO6.trans (by repeat (first | exact Ext.refl _ | refine Ext.drew ?_ | refine Ext.alloc ?_ _))).app 1 rfl hg7 hown7 hb7
        have hS4 : Sg Wb N3 vo vt w7 := ⟨hEb2.trans hO7.ext, cell_of_blk (hO7.get 2 rfl).2 3 (u := vo) rfl, cell_of_blk (hO7.get 2 rfl).2 4 (u := vt) rfl⟩
        refine hK.out _ _ hS4 ?_
        clear hK K hg7 hb7 hown7
        try simp only [Act.put, List.setIfInBounds_toArray, List.set_cons_zero, List.set_cons_succ]
        refine wpAnyB_tail rfl rfl (by decide) (by kernel_rfl) ?_
        have y3 := cell_of_blk (hO7.get 2 rfl).2 3 (u := vo) rfl
        have y4 := cell_of_blk (hO7.get 2 rfl).2 4 (u := vt) rfl
        have f7 := free_of_blk (hO7.get 2 rfl).2
        have hO8 := (hO7.put 2 rfl 3 (.slice (some ⟨g6, 0, none⟩) (s + 1) c6)).put 2 rfl 4 (.slice (some ⟨g7, 0, none⟩) (s + 1) c7)
        have HO8 := Lib.hid hO8
        clear hO8 hO7 hO6 hkp
        go_wp2
        go_roundw
        case rel =>
          have h8 := HO8.out
          have e8 := h8.ext
          have hq1 := HB.out.1
          have hq2 := HB.out.2
          unfold bitV at hq1 hq2
          rw [hq1, hq2] at h8
          exact ⟨s + 1, _, _, by go_num, by omega, hEb2.trans e8, h8⟩
        case measure => simp [intOf]; omega
    · have hse : s = n := by omega
      subst hse
      have hnI : ¬ (s : Int) < (s : Int) := by omega
      have hn1 : 0 < s := by rw [HNN.out.1]; unfold Raw.n; omega
      obtain ⟨g6, c6, rfl⟩ := ownsRow_pos (hO.get 0 rfl : W3.ownsRow W2.heap.size 4 1 vo s ((bitsL r.ours s).map .bool)) hn1
      obtain ⟨g7, c7, rfl⟩ := ownsRow_pos (hO.get 1 rfl : W3.ownsRow W2.heap.size 4 1 vt s ((bitsL r.set s).map .bool)) hn1
      have x0 := cell_of_blk (hO.get 2 rfl).2 0 (u := .int .i64 mi) rfl
      have x1 := cell_of_blk (hO.get 2 rfl).2 1 (u := .int .i64 mo) rfl
      have hOt := hO1.trans (hE2.trans hO.ext)
      have q0 := cell_of_blk (hOt.get 0 rfl).2 0 (u := .int .i64 0) rfl
      have q1 := cell_of_blk (hOt.get 0 rfl).2 1 (u := .int .i64 0) rfl
      have q2 := cell_of_blk (hOt.get 0 rfl).2 2 (u := .slice none 0 0) rfl
      have q3 := cell_of_blk (hOt.get 0 rfl).2 3 (u := .slice none 0 0) rfl
      have q4 := cell_of_blk (hOt.get 0 rfl).2 4 (u := .slice none 0 0) rfl
      have qf := free_of_blk (hOt.get 0 rfl).2
      have hOx := ((((hOt.put 0 rfl 0 (.int .i64 mi)).put 0 rfl 1 (.int .i64 mo)).put 0 rfl 2 (.slice Ar s cr)).put 0 rfl 3 (.slice (some ⟨g6, 0, none⟩) s c6)).put 0 rfl 4 (.slice (some ⟨g7, 0, none⟩) s c7)
      obtain ⟨X, hX⟩ : ∃ X, X = ((((W3.setCell ⟨w.heap.size + 1, 0, none⟩ (.int .i64 mi)).setCell ⟨w.heap.size + 1, 1, none⟩ (.int .i64 mo)).setCell ⟨w.heap.size + 1, 2, none⟩ (.slice Ar s cr)).setCell ⟨w.heap.size + 1, 3, none⟩ (.slice (some ⟨g6, 0, none⟩) s c6)).setCell ⟨w.heap.size + 1, 4, none⟩ (.slice (some ⟨g7, 0, none⟩) s c7) := ⟨_, rfl⟩
      rw [← hX] at hOx
      have p0 := cell_of_blk (hOx.get 0 rfl).2 0 (u := .int .i64 mi) rfl
      have p1 := cell_of_blk (hOx.get 0 rfl).2 1 (u := .int .i64 mo) rfl
      have p2 := cell_of_blk (hOx.get 0 rfl).2 2 (u := .slice Ar s cr) rfl
      have p3 := cell_of_blk (hOx.get 0 rfl).2 3 (u := .slice (some ⟨g6, 0, none⟩) s c6) rfl
      have p4 := cell_of_blk (hOx.get 0 rfl).2 4 (u := .slice (some ⟨g7, 0, none⟩) s c7) rfl
      have hXb : ∀ b, b ≠ w.heap.size + 1 → X.heap[b]? = W3.heap[b]? := fun b hb => by
        rw [hX, heap_setCell_other _ _ _ _ hb, heap_setCell_other _ _ _ _ hb, heap_setCell_other _ _ _ _ hb, heap_setCell_other _ _ _ _ hb, heap_setCell_other _ _ _ _ hb]
      have HX := Lib.hid (And.intro hXb (And.intro hOx.ext hO))
      have HP := Lib.hid (And.intro hX (And.intro p0 (And.intro p1 (And.intro p2 (And.intro p3 p4)))))
      have hs2 := hE2.size
      clear hXb hOx hOt hX p0 p1 p2 p3 p4 hO
      go_wp2
      rw [← HP.out.1]
      have p0 := HP.out.2.1
      have p1 := HP.out.2.2.1
      have p2 := HP.out.2.2.2.1
      have p3 := HP.out.2.2.2.2.1
      have p4 := HP.out.2.2.2.2.2
      refine bodyPost_ret (v := .agg #[.int .i64 mi, .int .i64 mo, .slice Ar s cr, .slice (some ⟨g6, 0, none⟩) s c6, .slice (some ⟨g7, 0, none⟩) s c7]) (by simp [results, Try.f9, go_sem, p0, p1, p2, p3, p4]) rfl ?_
      refine ⟨⟨_, rfl, ?_⟩, hEb.trans HX.out.2.1⟩
      have hO := HX.out.2.2
      have hm : MachV X (.agg #[.int .i64 mi, .int .i64 mo, .slice Ar r.m.mach.rows.length cr]) r.m.mach := HN.out X (fun b hb1 hb2 => by
        rw [HX.out.1 b (by omega)]
        exact hO.ext.block b hb2)
      obtain ⟨rv, c2, hv, hrr⟩ := hm
      injection hv with hv
      have hv0 := congrArg (fun a => a[0]?) hv
      have hv1 := congrArg (fun a => a[1]?) hv
      have hv2 := congrArg (fun a => a[2]?) hv
      simp at hv0 hv1 hv2
      subst hv2
      have hown : ∀ (k : Nat) (v : Value) (xs : List Bool), X.ownsRow W2.heap.size 4 1 v s (xs.map .bool) → xs.length = s → ∃ c, BoolsC X v xs c := fun k v xs h hl => bools_of_owns h hl (by unfold lenMax; omega)
      have ho6 : X.ownsRow W2.heap.size 4 1 (.slice (some ⟨g6, 0, none⟩) s c6) s ((bitsL r.ours s).map .bool) := ownsRow_of (hO.get 0 rfl : W3.ownsRow W2.heap.size 4 1 (.slice (some ⟨g6, 0, none⟩) s c6) s ((bitsL r.ours s).map .bool)) (fun b hb => HX.out.1 b (by
        have := (World.ownsRow.lt (hO.get 0 rfl : W3.ownsRow W2.heap.size 4 1 (.slice (some ⟨g6, 0, none⟩) s c6) s ((bitsL r.ours s).map .bool)) b hb).1
        omega))
      have ho7 : X.ownsRow W2.heap.size 4 1 (.slice (some ⟨g7, 0, none⟩) s c7) s ((bitsL r.set s).map .bool) := ownsRow_of (hO.get 1 rfl : W3.ownsRow W2.heap.size 4 1 (.slice (some ⟨g7, 0, none⟩) s c7) s ((bitsL r.set s).map .bool)) (fun b hb => HX.out.1 b (by
        have := (World.ownsRow.lt (hO.get 1 rfl : W3.ownsRow W2.heap.size 4 1 (.slice (some ⟨g7, 0, none⟩) s c7) s ((bitsL r.set s).map .bool)) b hb).1
        omega))
      obtain ⟨d6, h6⟩ := hown 0 _ _ ho6 (bitsL_len _ _)
      obtain ⟨d7, h7⟩ := hown 0 _ _ ho7 (bitsL_len _ _)
      refine ⟨.slice Ar r.m.mach.rows.length cr, c2, .slice (some ⟨g6, 0, none⟩) s c6, d6, .slice (some ⟨g7, 0, none⟩) s c7, d7, ?_, hrr, ?_, ?_⟩
      · rw [HNN.out.2.1, hv0, hv1]; rfl
      · show BoolsC X _ (bitsL r.ours r.m.n) _; rw [← HNN.out.1]; exact h6
      · show BoolsC X _ (bitsL r.set r.m.n) _; rw [← HNN.out.1]; exact h7
#print axioms GOf_any
end Go.Proofs.Yteadkafeabhhhaa
