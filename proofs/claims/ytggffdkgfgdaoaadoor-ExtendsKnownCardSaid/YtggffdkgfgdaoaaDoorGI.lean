/- V.Of 10: a machine with variables out of plain data. counter 30: the machine of the examples. (written by gen_b29.py) -/
import Derived.Test.YtggffdkgfgdaoaaDoorGH
namespace Go.Proofs.YtggffdkgfgdaoaaDoor
open Go.RowKit Go.Maps
set_option linter.unusedVariables false
set_option linter.unusedSimpArgs false
attribute [local go_sem] Oper.quietV quietV Oper.gives givesV ext_refl_iff ext_alloc_iff ext_drew_iff ext_drewN_iff
abbrev A6 := Nat × Nat × Nat × Nat × Nat × Nat
def a6Cells (a : A6) : List Value := [.int .u8 (a.1 : Int), .int .u8 (a.2.1 : Int), .int .u8 (a.2.2.1 : Int), .int .u8 (a.2.2.2.1 : Int), .int .u8 (a.2.2.2.2.1 : Int), .int .u8 (a.2.2.2.2.2 : Int)]
theorem a6_len (a : A6) : (a6Cells a).length = 6 := rfl
structure Vd where
  st : Nat
  s0 : Nat
  s1 : Nat
  arcs : List A6
def Vd.S (v : Vd) : Nat := 1 + v.st % 3
def ofA (S : Nat) (a : A6) : Ac := ⟨(a.1 % S : Nat), (a.2.1 % 2 : Nat), guardT a.2.2.1, (a.2.2.2.1 % 3 : Nat), updT a.2.2.2.2.1, (a.2.2.2.2.2 % S : Nat)⟩
def nmN : ByteArray := { data := #[110] }
def nmB : ByteArray := { data := #[98] }
def ofX (v : Vd) : Xt := ⟨2, 3, (v.S : Nat), [(nmN, 0, 2), (nmB, 0, 1)], [((v.s0 % 3 : Nat) : Int), ((v.s1 % 2 : Nat) : Int)], (v.arcs.take 10).map (ofA v.S)⟩
def VdV (w : World) (u : Value) (v : Vd) : Prop := v.st < 256 ∧ v.s0 < 256 ∧ v.s1 < 256 ∧ (∀ a ∈ v.arcs, a.1 < 256 ∧ a.2.1 < 256 ∧ a.2.2.1 < 256 ∧ a.2.2.2.1 < 256 ∧ a.2.2.2.2.1 < 256 ∧ a.2.2.2.2.2 < 256) ∧
  ∃ (A : Option Addr) (c : Nat), u = .agg #[.int .u8 (v.st : Int), .int .u8 (v.s0 : Int), .int .u8 (v.s1 : Int), .slice A v.arcs.length c] ∧ Cells w A (v.arcs.flatMap a6Cells) ∧ v.arcs.length ≤ c ∧ v.arcs.length ≤ lenMax
theorem VdV.ext {w w' : World} {u : Value} {v : Vd} (h : VdV w u v) (e : Ext w w') : VdV w' u v := by
  obtain ⟨h1, h2, h3, h4, A, c, h5, h6, h7⟩ := h
  exact ⟨h1, h2, h3, h4, A, c, h5, h6.ext e, h7⟩
theorem a6_at {w : World} {A : Option Addr} {l : List A6} (hc : Cells w A (l.flatMap a6Cells)) {i : Nat} {a : A6} (hi : l[i]? = some a) : ∃ b o, A = some ⟨b, o, none⟩ ∧ ∀ (j : Nat) (u : Value), (a6Cells a)[j]? = some u → w.cell? ⟨b, o + i * 6 + j, none⟩ = some u := by
  have hlt := (List.getElem?_eq_some_iff.1 hi).1
  obtain ⟨b, o, rfl, _, hcc⟩ := hc (by rw [rec_len a6Cells 6 a6_len]; omega)
  exact ⟨b, o, rfl, fun j u hj => by rw [Nat.add_assoc]; exact hcc _ _ (rec_get a6Cells 6 a6_len hi j u hj)⟩
theorem mods {a m r : Nat} (h : r = a % m) (hm : 0 < m) : (a : Int) % (m : Int) = (r : Int) ∧ Int.tmod (a : Int) (m : Int) = (r : Int) := by
  subst h
  have h1 : (a : Int) % (m : Int) = ((a % m : Nat) : Int) := (Int.natCast_emod a m).symm
  exact ⟨h1, by rw [Int.tmod_eq_emod_of_nonneg (by omega)]; exact h1⟩
theorem arc_info : (Tryd.prog.info? 71).map (fun i => (i.zero, i.size, i.bytes)) = some (some (.agg #[.int .i64 0, .int .i64 0, .int .u8 0, .int .i64 0, .slice none 0 0, .int .i64 0, .slice none 0 0, .int .i64 0]), 8, 96) := by kernel_rfl
def NodeF (N : Nat) (t : Tr) (v : Value) (w : World) : Prop := ∃ (A : Option Addr) (l c : Nat), v = .agg #[.int .u8 (t.op : Int), .int .i64 t.n, .slice A l c] ∧ NodeT N w t v
theorem stays_nodeF (N : Nat) (t : Tr) : Stays Ext (NodeF N t) := fun v w w' e ⟨A, l, c, h1, h2⟩ => ⟨A, l, c, h1, h2.ext e⟩
def UpsF (N : Nat) (us : List Up) (v : Value) (w : World) : Prop := ∃ (A : Option Addr) (c : Nat), v = .slice A us.length c ∧ UpsT N w v us c
theorem stays_upsF (N : Nat) (us : List Up) : Stays Ext (UpsF N us) := fun v w w' e ⟨A, c, h1, h2⟩ => ⟨A, c, h1, h2.keep (.of e)⟩
def LitF (N M : Nat) (a : Ac) (v : Value) (w : World) : Prop := ∃ (b : Nat) (A : Option Addr) (l c : Nat) (A' : Option Addr) (c' : Nat), v = .slice (some ⟨b, 0, none⟩) 1 1 ∧ M ≤ b ∧
  w.heap[b]? = some (.cells #[.int .i64 a.frm, .int .i64 a.inp, .int .u8 (a.guard.op : Int), .int .i64 a.guard.n, .slice A l c, .int .i64 a.out, .slice A' a.ups.length c', .int .i64 a.dst] 71 (0, 0)) ∧ ArcT N w a ⟨a.frm, a.inp, (a.guard.op, a.guard.n, .slice A l c), a.out, .slice A' a.ups.length c', a.dst⟩
theorem stays_litF (N M : Nat) (a : Ac) : Stays Ext (LitF N M a) := fun v w w' e ⟨b, A, l, c, A', c', h1, h2, h3, h4⟩ => ⟨b, A, l, c, A', c', h1, h2, heap_ext e h3, h4.keep (.of e)⟩
theorem nodeP_f {N M : Nat} {w w' : World} {t : Tr} {e : Ending} (h : NodeP N w t e w') (hM : M ≤ N) : ∃ v, e = .returned v ∧ NodeF M t v w' ∧ Ext w w' := by
  obtain ⟨k, n, A, l, c, h1, h2, h3⟩ := h
  obtain ⟨A', l', c', h4⟩ := h2.form
  rw [h4] at h1 h2
  exact ⟨_, h1, ⟨A', l', c', rfl, h2.mono hM⟩, h3⟩
theorem UpsT.mono {N M : Nat} {w : World} {v : Value} {us : List Up} {c : Nat} (h : UpsT N w v us c) (hM : M ≤ N) : UpsT M w v us c := by
  obtain ⟨A, vs, h1, h2, h3, h4, h5⟩ := h
  exact ⟨A, vs, h1, h2, h3.mono hM, fun i u x hu hx => ⟨(h4 i u x hu hx).1, (h4 i u x hu hx).2.mono hM⟩, h5⟩
theorem nodeF_t {N : Nat} {w : World} {t : Tr} {A : Option Addr} {l c : Nat} (h : NodeF N t (.agg #[.int .u8 (t.op : Int), .int .i64 t.n, .slice A l c]) w) : NodeT N w t (.agg #[.int .u8 (t.op : Int), .int .i64 t.n, .slice A l c]) := by
  obtain ⟨_, _, _, _, h2⟩ := h; exact h2
theorem upsF_t {N : Nat} {w : World} {us : List Up} {v : Value} (h : UpsF N us v w) : ∃ c, UpsT N w v us c := by
  obtain ⟨_, c, _, h2⟩ := h; exact ⟨c, h2⟩
theorem slice_inj {b b' : Nat} {n c : Nat} (h : Value.slice (some ⟨b, 0, none⟩) n c = .slice (some ⟨b', 0, none⟩) n c) : b = b' := by cases h; rfl
theorem own_ne {w : World} {N τ : Nat} {v : Value} {n s d : Nat} {xs : List Value} {cs : Array Value} {f : Nat × Nat} (h : w.ownsRow N 71 s v n xs) (hd : w.heap[d]? = some (.cells cs τ f)) (hτ : τ ≠ 71) : v.ownBlock ≠ some d := by
  rcases h.2 with ⟨rfl, _⟩ | ⟨g, cap, cur, rfl, hB, hg, _⟩
  · simp [Value.ownBlock]
  · intro e
    have : g = d := by simpa [Value.ownBlock] using e
    subst this
    rw [hd] at hg; injection hg with hg; injection hg with _ hg _; exact hτ hg
theorem kp_own {w w' : World} {N M : Nat} {v : Value} {n s : Nat} {xs : List Value} (h : w.ownsRow N 71 s v n xs) (hg : w.grownBy w' v.ownBlock) : Kp M w w' := by
  rcases h.2 with ⟨rfl, _⟩ | ⟨g, cap, cur, rfl, hB, hgg, _⟩
  · exact Kp.none hg
  · exact Kp.grown hgg (.inl rfl) hg
/-- What V.Of has built. -/
def OfS (N d1 d2 d3 : Nat) (vv sv : Value) (z0 z1 z2 : Int) (Ax : Option Addr) (n c S : Nat) (r1 r2 : Int) (al : List Ac) (w W : World) : Prop := ∃ (av : Value) (vs : List Av), vs.length = al.length ∧ Ext w W ∧
  W.heap[d3]? = some (.cells #[.int .i64 2, .int .i64 3, .int .i64 (S : Int), vv, sv, av] 31 (0, 0)) ∧ W.heap[d2]? = some (.cells #[.int .i64 0, .int .i64 0, .int .i64 0, .slice none 0 0, .slice none 0 0, .slice none 0 0] 31 (0, 0)) ∧
  W.heap[d1]? = some (.cells #[.int .u8 z0, .int .u8 z1, .int .u8 z2, .slice Ax n c] 25 (0, 0)) ∧ VarsT N W vv [(nmN, 0, 2), (nmB, 0, 1)] 2 ∧ IntsT N W sv [r1, r2] 2 ∧ W.ownsRow N 71 8 av al.length (vs.flatMap avCells) ∧ (∀ (i : Nat) (a : Ac) (y : Av), al[i]? = some a → vs[i]? = some y → ArcT N W a y)
theorem wrap_nat {a : Nat} (h : a < 256) : IntKind.i64.wrap (a : Int) = (a : Int) := by rw [IntKind.wrap_i64]; omega
def OfP (N : Nat) (w : World) (x : Xt) (e : Ending) (w' : World) : Prop := ∃ v, e = .returned v ∧ XtT N w' x v ∧ Ext w w'
set_option maxRecDepth 100000 in
set_option maxHeartbeats 16000000 in
theorem of_any (w : World) (u : Value) (v : Vd) (hv : VdV w u v) : Calls Tryd.prog 10 #[u] w (OfP w.heap.size w (ofX v)) := by
  obtain ⟨h1, h2, h3, h4, A, c, rfl, hc, hn, hm⟩ := hv
  unfold lenMax at hm
  obtain ⟨r0, hr0⟩ : ∃ r, r = v.st % 3 := ⟨_, rfl⟩
  obtain ⟨r1, hr1⟩ : ∃ r, r = v.s0 % 3 := ⟨_, rfl⟩
  obtain ⟨r2, hr2⟩ : ∃ r, r = v.s1 % 2 := ⟨_, rfl⟩
  obtain ⟨m0, m0'⟩ := mods hr0 (by omega)
  obtain ⟨m1, m1'⟩ := mods hr1 (by omega)
  obtain ⟨m2, m2'⟩ := mods hr2 (by omega)
  have b0 : r0 < 3 := by omega
  have b1 : r1 < 3 := by omega
  have b2 : r2 < 2 := by omega
  obtain ⟨S, hS⟩ : ∃ S, S = v.S := ⟨_, rfl⟩
  have hS1 : S = 1 + r0 := by rw [hS, hr0]; rfl
  have HOF : Hid (ofX v = ⟨2, 3, (S : Nat), [(nmN, 0, 2), (nmB, 0, 1)], [(r1 : Int), (r2 : Int)], (v.arcs.take 10).map (ofA S)⟩) := Lib.hid (by rw [hS, hr1, hr2]; rfl)
  have HC := Lib.hid (And.intro hc h4)
  have hSi : (1 : Int) + (r0 : Int) = (S : Int) := by omega
  obtain ⟨X, hX⟩ : ∃ X, X = ofX v := ⟨_, rfl⟩
  rw [← hX] at HOF ⊢
  have m0 : (v.st : Int) % 3 = (r0 : Int) := m0
  have m0' : Int.tmod (v.st : Int) 3 = (r0 : Int) := m0'
  have m1 : (v.s0 : Int) % 3 = (r1 : Int) := m1
  have m1' : Int.tmod (v.s0 : Int) 3 = (r1 : Int) := m1'
  have m2 : (v.s1 : Int) % 2 = (r2 : Int) := m2
  have m2' : Int.tmod (v.s1 : Int) 2 = (r2 : Int) := m2'
  have hS3 : S < 4 := by omega
  have hSw : wrap64 (1 + (r0 : Int)) = (S : Int) := by rw [hSi]; unfold wrap64; omega
  have HS := Lib.hid (And.intro hS1 hSi)
  clear hr0 hr1 hr2 hS hc h4 hX hS1 hSi
  generalize (v.st : Int) = z0 at *
  generalize (v.s0 : Int) = z1 at *
  generalize (v.s1 : Int) = z2 at *
  generalize v.arcs = arcs at *
  go_enter Tryd.func10, Tryd.ntmps10
  go_upto_region 1 with fail
  go_upto_region 2 with fail
  refine wp_named ?_
  intro W1 hW1
  rw [HS.out.2] at hW1
  have hS1 : OfS w.heap.size w.heap.size (w.heap.size + 1) (w.heap.size + 1 + 1 + 1 + 1) (.slice (some ⟨w.heap.size + 1 + 1, 0, none⟩) 2 2) (.slice (some ⟨w.heap.size + 1 + 1 + 1, 0, none⟩) 2 2) z0 z1 z2 A arcs.length c S r1 r2 [] w W1 := by
    obtain ⟨o1, ho1⟩ : ∃ o : Obj, o = .cells #[.int .u8 z0, .int .u8 z1, .int .u8 z2, .slice A arcs.length c] 25 := ⟨_, rfl⟩
    obtain ⟨o2, ho2⟩ : ∃ o : Obj, o = .cells #[.int .i64 0, .int .i64 0, .int .i64 0, .slice none 0 0, .slice none 0 0, .slice none 0 0] 31 := ⟨_, rfl⟩
    obtain ⟨o3, ho3⟩ : ∃ o : Obj, o = .cells #[.string nmN, .int .i64 0, .int .i64 2, .string nmB, .int .i64 0, .int .i64 1] 79 := ⟨_, rfl⟩
    obtain ⟨o4, ho4⟩ : ∃ o : Obj, o = .cells #[.int .i64 r1, .int .i64 r2] 3 := ⟨_, rfl⟩
    obtain ⟨o5, ho5⟩ : ∃ o : Obj, o = .cells #[.int .i64 2, .int .i64 3, .int .i64 (S : Int), .slice (some ⟨w.heap.size + 1 + 1, 0, none⟩) 2 2, .slice (some ⟨w.heap.size + 1 + 1 + 1, 0, none⟩) 2 2, .slice none 0 0] 31 := ⟨_, rfl⟩
    have hW : W1 = ((((w.alloc o1).alloc o2).alloc o3).alloc o4).alloc o5 := by rw [hW1, ho1, ho2, ho3, ho4, ho5]; rfl
    have q1 : W1.heap[w.heap.size]? = some o1 := by rw [hW]; exact heap_ext (((alloc_ext _ _).trans (alloc_ext _ _)).trans ((alloc_ext _ _).trans (alloc_ext _ _))) (heap_alloc_new w o1)
    have q2 : W1.heap[w.heap.size + 1]? = some o2 := by rw [hW]; have h := heap_alloc_new (w.alloc o1) o2; exact heap_ext ((alloc_ext _ _).trans ((alloc_ext _ _).trans (alloc_ext _ _))) (by simpa using h)
    have q3 : W1.heap[w.heap.size + 1 + 1]? = some o3 := by rw [hW]; have h := heap_alloc_new ((w.alloc o1).alloc o2) o3; exact heap_ext ((alloc_ext _ _).trans (alloc_ext _ _)) (by simpa using h)
    have q4 : W1.heap[w.heap.size + 1 + 1 + 1]? = some o4 := by rw [hW]; have h := heap_alloc_new (((w.alloc o1).alloc o2).alloc o3) o4; exact heap_ext (alloc_ext _ _) (by simpa using h)
    have q5 : W1.heap[w.heap.size + 1 + 1 + 1 + 1]? = some o5 := by rw [hW]; have h := heap_alloc_new ((((w.alloc o1).alloc o2).alloc o3).alloc o4) o5; simpa using h
    rw [ho1] at q1
    rw [ho2] at q2
    rw [ho3] at q3
    rw [ho4] at q4
    rw [ho5] at q5
    refine ⟨.slice none 0 0, [], rfl, ?_, q5, q2, q1, ⟨_, rfl, CellsT.blk (by omega) q3, Nat.le_refl _, by simp [lenMax], fun u hu => ?_⟩, ⟨_, rfl, CellsT.blk (by omega) q4, Nat.le_refl _, by simp [lenMax]⟩, World.ownsRow_nil _ _ _ _, fun i a y h => by simp at h⟩
    · rw [hW]; exact (alloc_ext _ _).trans (((alloc_ext _ _).trans (alloc_ext _ _)).trans ((alloc_ext _ _).trans (alloc_ext _ _)))
    · simp at hu; rcases hu with rfl | rfl <;> decide
  have HS1 := Lib.hid hS1
  have HDD : Hid (w.heap.size < w.heap.size + 1 ∧ w.heap.size + 1 < w.heap.size + 1 + 1 + 1 + 1) := Lib.hid (by omega)
  clear hW1 hS1
  generalize w.heap.size + 1 + 1 + 1 + 1 = d3 at *
  generalize (Value.slice (some ⟨w.heap.size + 1 + 1 + 1, 0, none⟩) 2 2) = sv at *
  generalize (Value.slice (some ⟨w.heap.size + 1 + 1, 0, none⟩) 2 2) = vv at *
  generalize w.heap.size + 1 = d2 at *
  generalize hd : w.heap.size = d1 at *
  have HDW := Lib.hid hd
  clear hd
  go_wp2
  go_loopw [4] (fun iv wr => ∃ (i : Nat), iv = .int .i64 i ∧ i ≤ 10 ∧ i ≤ arcs.length ∧ Hid (OfS d1 d1 d2 d3 vv sv z0 z1 z2 A arcs.length c S r1 r2 ((arcs.take i).map (ofA S)) w wr)) (fun iv _ => 10 - (intOf iv).toNat)
  case atStart => exact ⟨0, by first | rfl | simp, by omega, by omega, HS1⟩
  case round =>
    clear HS1
    obtain ⟨i, rfl, hi10, hin, HOS⟩ := hrel
    obtain ⟨W5, hW5⟩ : ∃ W, W = wr := ⟨_, rfl⟩; subst hW5
    obtain ⟨av, vs, hvl, hE, hb3, hb2, hb1, hvt, hit, hrow, hat⟩ := HOS.out
    have hal : ((arcs.take i).map (ofA S)).length = i := by rw [List.length_map, List.length_take]; omega
    rw [hal] at hvl hrow
    obtain ⟨Ar, cr, hav, hncr, _⟩ := cells_of_owns hrow
    subst hav
    have k12 := cell_of_blk hb1 3 (u := .slice A arcs.length c) rfl
    have HH := Lib.hid (And.intro hE (And.intro hb3 (And.intro hb2 (And.intro hb1 (And.intro hvt (And.intro hit (And.intro hrow (And.intro hat hvl))))))))
    clear hal hb2 hvt hit hat hvl HOS
    by_cases hlt : i < arcs.length
    · have hlI : (i : Int) < (arcs.length : Int) := by omega
      by_cases h10 : i < 10
      · have h10I : (i : Int) < 10 := by omega
        obtain ⟨a, ha⟩ : ∃ a, arcs[i]? = some a := ⟨_, List.getElem?_eq_getElem hlt⟩
        have HA := Lib.hid ha
        obtain ⟨g0, g1, g2, g3, g4, g5⟩ := HC.out.2 a (List.mem_of_getElem? ha)
        obtain ⟨ba, oa, hA, hcl⟩ := a6_at HC.out.1 ha
        subst hA
        obtain ⟨x0, x1, x2, x3, x4, x5⟩ := a
        have y0 := hE.cell (hcl 0 (.int .u8 (x0 : Int)) rfl)
        have y1 := hE.cell (hcl 1 (.int .u8 (x1 : Int)) rfl)
        have y2 := hE.cell (hcl 2 (.int .u8 (x2 : Int)) rfl)
        have y3 := hE.cell (hcl 3 (.int .u8 (x3 : Int)) rfl)
        have y4 := hE.cell (hcl 4 (.int .u8 (x4 : Int)) rfl)
        have y5 := hE.cell (hcl 5 (.int .u8 (x5 : Int)) rfl)
        rw [Nat.add_zero] at y0
        dsimp only at g0 g1 g2 g3 g4 g5
        clear hcl ha hrow
        go_upto_region 6 with fail
        refine wp_named ?_
        intro W6 hW6
        have hE6 : Ext W5 W6 := by rw [hW6]; exact alloc_ext _ _
        have hB5 : W6.heap[W5.heap.size]? = some (.cells #[.int .u8 (x0 : Int), .int .u8 (x1 : Int), .int .u8 (x2 : Int), .int .u8 (x3 : Int), .int .u8 (x4 : Int), .int .u8 (x5 : Int)] 87 (0, 0)) := by rw [hW6]; exact heap_alloc_new _ _
        have y0 : ∀ w', Ext W6 w' → w'.cell? ⟨W5.heap.size, 0, none⟩ = some (.int .u8 (x0 : Int)) := fun w' h => h.cell (cell_of_blk hB5 0 (u := .int .u8 (x0 : Int)) rfl)
        have y1 : ∀ w', Ext W6 w' → w'.cell? ⟨W5.heap.size, 1, none⟩ = some (.int .u8 (x1 : Int)) := fun w' h => h.cell (cell_of_blk hB5 1 (u := .int .u8 (x1 : Int)) rfl)
        have y2 : ∀ w', Ext W6 w' → w'.cell? ⟨W5.heap.size, 2, none⟩ = some (.int .u8 (x2 : Int)) := fun w' h => h.cell (cell_of_blk hB5 2 (u := .int .u8 (x2 : Int)) rfl)
        have y3 : ∀ w', Ext W6 w' → w'.cell? ⟨W5.heap.size, 3, none⟩ = some (.int .u8 (x3 : Int)) := fun w' h => h.cell (cell_of_blk hB5 3 (u := .int .u8 (x3 : Int)) rfl)
        have y4 : ∀ w', Ext W6 w' → w'.cell? ⟨W5.heap.size, 4, none⟩ = some (.int .u8 (x4 : Int)) := fun w' h => h.cell (cell_of_blk hB5 4 (u := .int .u8 (x4 : Int)) rfl)
        have y5 : ∀ w', Ext W6 w' → w'.cell? ⟨W5.heap.size, 5, none⟩ = some (.int .u8 (x5 : Int)) := fun w' h => h.cell (cell_of_blk hB5 5 (u := .int .u8 (x5 : Int)) rfl)
        have k32 : ∀ w', Ext W6 w' → w'.cell? ⟨d3, 2, none⟩ = some (.int .i64 (S : Int)) := fun w' h => (hE6.trans h).cell (cell_of_blk hb3 2 (u := .int .i64 (S : Int)) rfl)
        have k35 : ∀ w', Ext W6 w' → w'.cell? ⟨d3, 5, none⟩ = some (.slice Ar i cr) := fun w' h => (hE6.trans h).cell (cell_of_blk hb3 5 (u := .slice Ar i cr) rfl)
        obtain ⟨q0, hq0⟩ : ∃ r, r = x0 % S := ⟨_, rfl⟩
        obtain ⟨q1, hq1⟩ : ∃ r, r = x1 % 2 := ⟨_, rfl⟩
        obtain ⟨q3, hq3⟩ : ∃ r, r = x3 % 3 := ⟨_, rfl⟩
        obtain ⟨q5, hq5⟩ : ∃ r, r = x5 % S := ⟨_, rfl⟩
        have hS0 : 0 < S := by have := HS.out.1; omega
        obtain ⟨n0, n0'⟩ := mods hq0 hS0
        obtain ⟨n1, n1'⟩ := mods hq1 (by omega)
        obtain ⟨n3, n3'⟩ := mods hq3 (by omega)
        obtain ⟨n5, n5'⟩ := mods hq5 hS0
        have n1 : (x1 : Int) % 2 = (q1 : Int) := n1
        have n1' : Int.tmod (x1 : Int) 2 = (q1 : Int) := n1'
        have n3 : (x3 : Int) % 3 = (q3 : Int) := n3
        have n3' : Int.tmod (x3 : Int) 3 = (q3 : Int) := n3'
        have hSz : ¬ S = 0 := by omega
        have hqa : q0 < 4 := by have := Nat.mod_lt x0 hS0; omega
        have hqb : q1 < 2 := by omega
        have hqc : q3 < 3 := by omega
        have hqd : q5 < 4 := by have := Nat.mod_lt x5 hS0; omega
        have HAC : Hid (ofA S (x0, x1, x2, x3, x4, x5) = ⟨(q0 : Nat), (q1 : Nat), guardT x2, (q3 : Nat), updT x4, (q5 : Nat)⟩) := Lib.hid (by rw [hq0, hq1, hq3, hq5]; rfl)
        have hgd := fun W => guard_any W x2
        have hup := fun W => updates_any W x4
        have HE6 := Lib.hid (And.intro (HH.out.1.trans hE6) (And.intro hE6 (lt_of_block hB5)))
        have hR6 := Ext.refl W6
        have w0 := wrap_nat g0
        have w5' := wrap_nat g5
        have w1 : IntKind.i64.wrap (q1 : Int) = (q1 : Int) := wrap_nat (by omega)
        have w3 : IntKind.i64.wrap (q3 : Int) = (q3 : Int) := wrap_nat (by omega)
        have HDN : Hid (∀ w', Ext W6 w' → d1 ≤ w'.heap.size) := Lib.hid (fun w' h => by rw [← HDW.out]; exact (HE6.out.1.trans h).size)
        clear hW6 hB5 hE6 hE hb3 hb1 hq0 hq1 hq3 hq5
        generalize W5.heap.size = b5 at *
        refine wp_region_ext 30 (factsOf [(14, NodeF d1 (guardT x2)), (21, UpsF d1 (updT x4)), (29, LitF d1 0 ⟨(q0 : Nat), (q1 : Nat), guardT x2, (q3 : Nat), updT x4, (q5 : Nat)⟩)]) (fun k => ([[], [0], [], [2], [2, 3], [], [5], [2, 3, 4, 5, 6], [], [8], [8, 9], [8, 9, 10], [], [12], [12, 13], [], [15], [15, 16], [15, 16, 17], [], [19], [12, 13, 14, 19, 20], [], [22], [22, 23], [], [25], [22, 23, 24, 25, 26], [2, 3, 4, 5, 6, 7, 8, 9, 10, 11, 12, 13, 14, 15, 16, 17, 18, 19, 20, 21, 22, 23, 24, 25, 26, 27], [2, 3, 4, 5, 6, 7, 8, 9, 10, 11, 12, 13, 14, 15, 16, 17, 18, 19, 20, 21, 22, 23, 24, 25, 26, 27, 28], [0, 1, 2, 3, 4, 5, 6, 7, 8, 9, 10, 11, 12, 13, 14, 15, 16, 17, 18, 19, 20, 21, 22, 23, 24, 25, 26, 27, 28, 29], [0, 1, 2, 3, 4, 5, 6, 7, 8, 9, 10, 11, 12, 13, 14, 15, 16, 17, 18, 19, 20, 21, 22, 23, 24, 25, 26, 27, 28, 29, 30], [0, 1, 2, 3, 4, 5, 6, 7, 8, 9, 10, 11, 12, 13, 14, 15, 16, 17, 18, 19, 20, 21, 22, 23, 24, 25, 26, 27, 28, 29, 30, 31]] : List (List Nat)).getD k []) (by kernel_rfl) (by kernel_rfl) Ext.pre (mono_cons (stays_nodeF _ _) (mono_cons (stays_upsF _ _) (mono_cons (stays_litF _ _ _) (mono_nil)))) ?_
        simp only [List.take_succ_cons, List.take_zero]
        repeat (first | (with_reducible refine lexL_quiet' (v := ?_) ?_ ?_ ?_ ?_; rotate_left; (· with_reducible rfl); (· simp [factsOf]); (· intro w1 hw1 _; go_simp; with_reducible rfl); (try simp only [Act.put, List.setIfInBounds_toArray, List.set_cons_zero, List.set_cons_succ])) | (with_reducible refine lexL_skip ?_ ?_; (· simp [Region.wanted, yielded, undef]); (try simp only [Act.put, List.setIfInBounds_toArray, List.set_cons_zero, List.set_cons_succ])) | (with_reducible refine lexL_quiet (v := ?_) ?_ ?_ ?_ ?_; rotate_left; (· simp [Region.wanted, yielded, undef]); (· simp [factsOf]); (· intro w1 hw1 _; go_simp; with_reducible rfl); (try simp only [Act.put, List.setIfInBounds_toArray, List.set_cons_zero, List.set_cons_succ])))
        with_reducible refine lexL_give' (φ := ?_) ?_ ?_ ?_ ?_; rotate_left; (· with_reducible rfl); (· simp only [factsOf, Nat.reduceAdd, ↓reduceIte, Nat.reduceEqDiff]; rfl)
        · intro w5 hw5 _
          go_simp
          refine (hgd w5).mono ?_
          intro e w6 h
          obtain ⟨v, rfl, h1, h2⟩ := nodeP_f h (HDN.out w5 hw5)
          exact ⟨v, rfl, h2, h1⟩
        rintro v14 w5 hw5 ⟨A14, l14, c14, rfl, h14⟩ hk2
        clear hk2 hw5 h14 w5
        (try simp only [Act.put, List.setIfInBounds_toArray, List.set_cons_zero, List.set_cons_succ])
        repeat (first | (with_reducible refine lexL_quiet' (v := ?_) ?_ ?_ ?_ ?_; rotate_left; (· with_reducible rfl); (· simp [factsOf]); (· intro w1 hw1 _; go_simp; with_reducible rfl); (try simp only [Act.put, List.setIfInBounds_toArray, List.set_cons_zero, List.set_cons_succ])) | (with_reducible refine lexL_skip ?_ ?_; (· simp [Region.wanted, yielded, undef]); (try simp only [Act.put, List.setIfInBounds_toArray, List.set_cons_zero, List.set_cons_succ])) | (with_reducible refine lexL_quiet (v := ?_) ?_ ?_ ?_ ?_; rotate_left; (· simp [Region.wanted, yielded, undef]); (· simp [factsOf]); (· intro w1 hw1 _; go_simp; with_reducible rfl); (try simp only [Act.put, List.setIfInBounds_toArray, List.set_cons_zero, List.set_cons_succ])))
        with_reducible refine lexL_give' (φ := ?_) ?_ ?_ ?_ ?_; rotate_left; (· with_reducible rfl); (· simp only [factsOf, Nat.reduceAdd, ↓reduceIte, Nat.reduceEqDiff]; rfl)
        · intro w5 hw5 _
          go_simp
          refine (hup w5).mono ?_
          rintro e w6 ⟨A, c, rfl, h1, h2⟩
          exact ⟨_, rfl, h2, A, c, rfl, h1.mono (HDN.out w5 hw5)⟩
        rintro v21 w5 hw5 ⟨A21, c21, rfl, h21⟩ hk2
        clear hk2 hw5 h21 w5
        (try simp only [Act.put, List.setIfInBounds_toArray, List.set_cons_zero, List.set_cons_succ])
        repeat (first | (with_reducible refine lexL_quiet' (v := ?_) ?_ ?_ ?_ ?_; rotate_left; (· with_reducible rfl); (· simp [factsOf]); (· intro w1 hw1 _; go_simp; with_reducible rfl); (try simp only [Act.put, List.setIfInBounds_toArray, List.set_cons_zero, List.set_cons_succ])) | (with_reducible refine lexL_skip ?_ ?_; (· simp [Region.wanted, yielded, undef]); (try simp only [Act.put, List.setIfInBounds_toArray, List.set_cons_zero, List.set_cons_succ])) | (with_reducible refine lexL_quiet (v := ?_) ?_ ?_ ?_ ?_; rotate_left; (· simp [Region.wanted, yielded, undef]); (· simp [factsOf]); (· intro w1 hw1 _; go_simp; with_reducible rfl); (try simp only [Act.put, List.setIfInBounds_toArray, List.set_cons_zero, List.set_cons_succ])))
        with_reducible refine lexL_give' (φ := ?_) ?_ ?_ ?_ ?_; rotate_left; (· with_reducible rfl); (· simp only [factsOf, Nat.reduceAdd, ↓reduceIte, Nat.reduceEqDiff]; rfl)
        · intro w5 hw5 hk5
          go_simp
          have h14 := nodeF_t (hk5.get 14 (by decide) rfl rfl)
          obtain ⟨c', h21⟩ := upsF_t (hk5.get 21 (by decide) rfl rfl)
          refine ⟨w5.heap.size, A14, l14, c14, A21, c21, rfl, Nat.zero_le _, heap_alloc_new _ _, rfl, rfl, h14.ext (alloc_ext _ _), rfl, ⟨c', h21.keep (.of (alloc_ext _ _))⟩, rfl⟩
        rintro v29 w5 hw5 ⟨b29, A29, l29, c29, A29', c29', rfl, h29⟩ hk2
        clear hk2 hw5 h29 w5
        (try simp only [Act.put, List.setIfInBounds_toArray, List.set_cons_zero, List.set_cons_succ])
        with_reducible refine lexL_nil ?_; intro w1 hw1 hk1; simp only [List.drop_succ_cons, List.drop_zero]
        obtain ⟨b9, A9, l9, c9, A9', c9', hv9, _, hB9, hA9⟩ := hk1.get 29 rfl rfl
        have hv9 := slice_inj hv9
        subst hv9
        have hb3w := heap_ext (HE6.out.2.1.trans hw1) HH.out.2.1
        have hrw := ownsRow_of HH.out.2.2.2.2.2.2.1 (fun b hb => (HE6.out.2.1.trans hw1).block b (HH.out.2.2.2.2.2.2.1.lt b hb).2)
        have hnews : ∀ (j : Nat) (u : Value), (avCells ⟨(q0 : Nat), (q1 : Nat), ((guardT x2).op, (guardT x2).n, .slice A9 l9 c9), (q3 : Nat), .slice A9' (updT x4).length c9', (q5 : Nat)⟩)[j]? = some u → w1.cell? ((⟨b29, 0, none⟩ : Addr).add j) = some u := fun j u hj => by
          rw [Addr.add_lit, Nat.zero_add]
          exact cell_of_blk hB9 j (by simpa [avCells] using hj)
        have hone : ∀ u ∈ avCells ⟨(q0 : Nat), (q1 : Nat), ((guardT x2).op, (guardT x2).n, .slice A9 l9 c9), (q3 : Nat), .slice A9' (updT x4).length c9', (q5 : Nat)⟩, u.oneCell' = true := fun u hu => by
          simp [avCells] at hu
          rcases hu with rfl | rfl | rfl | rfl | rfl | rfl | rfl | rfl <;> rfl
        obtain ⟨i7, hi7, hz7, hs7, hb7⟩ := info_parts arc_info
        have hbs := HDN.out w1 hw1
        have HW1 := Lib.hid (And.intro hw1 (And.intro hb3w (And.intro hA9 hrw)))
        clear hk1 hgd hup k32 k35 y0 y1 y2 y3 y4 y5 hw1 hb3w hB9 hA9
        go_upto_region 4 with (at_builtin; refine wpList_append_own2 rfl _ _ 29 rfl d1 71 i7 (.agg #[.int .i64 0, .int .i64 0, .int .u8 0, .int .i64 0, .slice none 0 0, .int .i64 0, .slice none 0 0, .int .i64 0]) 8 96 Tryd.underlying29 hi7 hz7 hs7 hb7 rfl (by decide) (.slice Ar i cr) i (vs.flatMap avCells) rfl hrw ⟨b29, 0, none⟩ 1 1 _ rfl rfl hnews hone (by unfold maxLen; omega) (by omega) hbs ?_; intro v8 w8 hown8 hg8 hb8; obtain ⟨gv, cv, rfl⟩ := ownsRow_pos hown8 (by omega); have hb38 := (hg8.block d3 (lt_of_block HW1.out.2.1) (own_ne HW1.out.2.2.2 HW1.out.2.1 (by decide)).symm).trans HW1.out.2.1; have k85 := cell_of_blk hb38 5 (u := .slice Ar i cr) rfl; have t85 := free_of_blk hb38 5)
        refine wp_named ?_
        intro W9 hW9
        have hg9 : w8.grownBy W9 (some d3) := by rw [hW9]; exact grown_setK w8 d3 5 _
        have hb39 : W9.heap[d3]? = some (.cells #[.int .i64 2, .int .i64 3, .int .i64 (S : Int), vv, sv, .slice (some ⟨gv, 0, none⟩) (i + 1) cv] 31 (0, 0)) := by rw [hW9]; exact heap_setCell_same w8 d3 5 _ 31 _ hb38
        have hE61 := HE6.out.2.1.trans HW1.out.1
        have hkp : Kp d1 W5 W9 := (Kp.of hE61).trans ((kp_own HW1.out.2.2.2 hg8).trans (Kp.grown hb38 (.inr rfl) hg9))
        have hE18 : Ext w w8 := Below.grown (HE6.out.1.trans HW1.out.1) hg8 (HE6.out.1.trans HW1.out.1).size (fun k hk => by rw [HDW.out]; exact (HW1.out.2.2.2.lt k hk).1)
        have hE9 : Ext w W9 := Below.grown hE18 hg9 hE18.size (fun k hk => by cases hk; rw [HDW.out]; have := HDD.out; omega)
        have hb2' := heap_ext hE61 HH.out.2.2.1
        have hb1' := heap_ext hE61 HH.out.2.2.2.1
        have hb28 := (hg8.block d2 (lt_of_block hb2') (own_ne HW1.out.2.2.2 hb2' (by decide)).symm).trans hb2'
        have hb18 := (hg8.block d1 (lt_of_block hb1') (own_ne HW1.out.2.2.2 hb1' (by decide)).symm).trans hb1'
        have hb29 := (hg9.block d2 (lt_of_block hb28) (by have := HDD.out; simp; omega)).trans hb28
        have hb19 := (hg9.block d1 (lt_of_block hb18) (by have := HDD.out; simp; omega)).trans hb18
        have hne := own_ne hown8 hb38 (by decide)
        have hr9 := ownsRow_of hown8 (fun b hb => hg9.block b (hown8.lt b hb).2 (fun e => by rw [← e] at hne; exact hne hb))
        have hta : (arcs.take (i + 1)).map (ofA S) = (arcs.take i).map (ofA S) ++ [⟨(q0 : Nat), (q1 : Nat), guardT x2, (q3 : Nat), updT x4, (q5 : Nat)⟩] := by
          rw [List.take_add_one, HA.out, List.map_append, ← HAC.out]; rfl
        have hal : ((arcs.take i).map (ofA S)).length = i := by rw [List.length_map, List.length_take]; omega
        have HS9 : Hid (OfS d1 d1 d2 d3 vv sv z0 z1 z2 (some ⟨ba, oa, none⟩) arcs.length c S r1 r2 ((arcs.take (i + 1)).map (ofA S)) w W9) := Lib.hid (by
          rw [hta]
          refine ⟨.slice (some ⟨gv, 0, none⟩) (i + 1) cv, vs ++ [⟨(q0 : Nat), (q1 : Nat), ((guardT x2).op, (guardT x2).n, .slice A9 l9 c9), (q3 : Nat), .slice A9' (updT x4).length c9', (q5 : Nat)⟩], ?_, hE9, hb39, hb29, hb19, HH.out.2.2.2.2.1.keep hkp, HH.out.2.2.2.2.2.1.keep hkp, ?_, fun j a y ha hy => ?_⟩
          · rw [List.length_append, List.length_append, HH.out.2.2.2.2.2.2.2.2, hal]; rfl
          · rw [List.length_append, hal, List.flatMap_append, show ∀ y : Av, [y].flatMap avCells = avCells y from fun y => by simp]
            exact hr9
          · have hvl := HH.out.2.2.2.2.2.2.2.2
            by_cases hj : j < i
            · rw [List.getElem?_append_left (by omega)] at ha
              rw [List.getElem?_append_left (by omega)] at hy
              exact (HH.out.2.2.2.2.2.2.2.1 j a y ha hy).keep hkp
            · have hj2 : j = i := by have := (List.getElem?_eq_some_iff.1 hy).1; simp at this; omega
              subst hj2
              rw [List.getElem?_append_right (by omega), hal, Nat.sub_self] at ha
              rw [List.getElem?_append_right (by omega), hvl, Nat.sub_self] at hy
              cases ha; cases hy
              exact HW1.out.2.2.1.keep ((kp_own HW1.out.2.2.2 hg8).trans (Kp.grown hb38 (.inr rfl) hg9)))
        clear hW9 hg9 hb39 hE61 hkp hE18 hE9 hb2' hb1' hb28 hb18 hb29 hb19 hne hr9 hta hal hb38 k85 t85 hown8 hg8 hb8 hrw hnews hone
        go_wp2
        refine ⟨⟨i + 1, by go_num, by omega, hlt, HS9⟩, ?_⟩
        simp [intOf]; omega
      · have h10I : ¬ (i : Int) < 10 := by omega
        have HAL : Hid ((arcs.take i).map (ofA S) = (arcs.take 10).map (ofA S)) := Lib.hid (by rw [show i = 10 by omega])
        go_upto_region 7 with fail
        have hb3' := HH.out.2.1
        have hb2' := HH.out.2.2.1
        go_wp2_with (first
          | (with_reducible refine wpList_load_row rfl 31 _ rfl d3 rfl 31 _ (0, 0) _ hb3' Tryd.underlying31 rfl (by kernel_rfl) ?_)
          | (with_reducible refine wpList_store_blk _ rfl 31 _ _ rfl d2 31 _ _ rfl rfl hb2' (by kernel_rfl) (by kernel_rfl) (by kernel_rfl) ?_; intro w8 h8 g8))
        refine bodyPost_ret (results_cell_row rfl _ _ d2 31 _ (0, 0) _ (by simp [Act.put]) h8 Tryd.underlying31 rfl (by kernel_rfl)) rfl ?_
        have hkp : Kp d1 W5 w8 := Kp.grown hb2' (.inr rfl) g8
        have hne := own_ne HH.out.2.2.2.2.2.2.1 hb2' (by decide)
        have hr9 := ownsRow_of HH.out.2.2.2.2.2.2.1 (fun b hb => g8.block b (HH.out.2.2.2.2.2.2.1.lt b hb).2 (fun e => by rw [← e] at hne; exact hne hb))
        have hal : ((arcs.take i).map (ofA S)).length = i := by rw [List.length_map, List.length_take]; omega
        refine ⟨_, rfl, ?_, Below.grown HH.out.1 g8 HH.out.1.size (fun k hk => by cases hk; rw [HDW.out]; exact Nat.le_of_lt HDD.out.1)⟩
        rw [HOF.out, ← HAL.out]
        exact ⟨vv, sv, _, vs, 2, 2, rfl, HH.out.2.2.2.2.1.keep hkp, HH.out.2.2.2.2.2.1.keep hkp, by rw [hal]; exact hr9, by rw [hal]; exact HH.out.2.2.2.2.2.2.2.2, fun j a y ha hy => (HH.out.2.2.2.2.2.2.2.1 j a y ha hy).keep hkp, by rw [hal]; unfold lenMax; omega⟩
    · have hlI : ¬ (i : Int) < (arcs.length : Int) := by omega
      have HAL : Hid ((arcs.take i).map (ofA S) = (arcs.take 10).map (ofA S)) := Lib.hid (by rw [List.take_of_length_le (by omega), List.take_of_length_le (by omega)])
      go_upto_region 7 with fail
      have hb3' := HH.out.2.1
      have hb2' := HH.out.2.2.1
      go_wp2_with (first
        | (with_reducible refine wpList_load_row rfl 31 _ rfl d3 rfl 31 _ (0, 0) _ hb3' Tryd.underlying31 rfl (by kernel_rfl) ?_)
        | (with_reducible refine wpList_store_blk _ rfl 31 _ _ rfl d2 31 _ _ rfl rfl hb2' (by kernel_rfl) (by kernel_rfl) (by kernel_rfl) ?_; intro w8 h8 g8))
      refine bodyPost_ret (results_cell_row rfl _ _ d2 31 _ (0, 0) _ (by simp [Act.put]) h8 Tryd.underlying31 rfl (by kernel_rfl)) rfl ?_
      have hkp : Kp d1 W5 w8 := Kp.grown hb2' (.inr rfl) g8
      have hne := own_ne HH.out.2.2.2.2.2.2.1 hb2' (by decide)
      have hr9 := ownsRow_of HH.out.2.2.2.2.2.2.1 (fun b hb => g8.block b (HH.out.2.2.2.2.2.2.1.lt b hb).2 (fun e => by rw [← e] at hne; exact hne hb))
      have hal : ((arcs.take i).map (ofA S)).length = i := by rw [List.length_map, List.length_take]; omega
      refine ⟨_, rfl, ?_, Below.grown HH.out.1 g8 HH.out.1.size (fun k hk => by cases hk; rw [HDW.out]; exact Nat.le_of_lt HDD.out.1)⟩
      rw [HOF.out, ← HAL.out]
      exact ⟨vv, sv, _, vs, 2, 2, rfl, HH.out.2.2.2.2.1.keep hkp, HH.out.2.2.2.2.2.1.keep hkp, by rw [hal]; exact hr9, by rw [hal]; exact HH.out.2.2.2.2.2.2.2.2, fun j a y ha hy => (HH.out.2.2.2.2.2.2.2.1 j a y ha hy).keep hkp, by rw [hal]; unfold lenMax; omega⟩
end Go.Proofs.YtggffdkgfgdaoaaDoor

namespace Go.Proofs.YtggffdkgfgdaoaaDoor
open Go.RowKit Go.Maps
set_option linter.unusedVariables false
set_option linter.unusedSimpArgs false
attribute [local go_sem] Oper.quietV quietV Oper.gives givesV ext_refl_iff ext_alloc_iff ext_drew_iff ext_drewN_iff
def gA : Tr := .mk 7 0 [.mk 1 0 [], .mk 0 2 []]
def gB : Tr := .mk 6 0 [.mk 1 0 [], .mk 0 2 []]
def gC : Tr := .mk 6 0 [.mk 0 0 [], .mk 0 0 []]
def uA : Up := ⟨0, .mk 3 0 [.mk 1 0 [], .mk 0 1 []]⟩
def uB : Up := ⟨0, .mk 0 0 []⟩
def uC : Up := ⟨0, .mk 4 0 [.mk 1 0 [], .mk 0 1 []]⟩
def cA : Ac := ⟨0, 0, gA, 0, [uA], 0⟩
def cB : Ac := ⟨0, 0, gB, 1, [uB], 0⟩
def cC : Ac := ⟨0, 1, gC, 1, [uC], 0⟩
def cX : Xt := ⟨2, 2, 1, [(nmN, 0, 2)], [0], [cA, cB, cC]⟩
def TwoF (N : Nat) (k : Int) (t : Tr) (v : Value) (w : World) : Prop := ∃ (A : Option Addr) (l c : Nat), v = .agg #[.int .u8 k, .int .i64 0, .slice A l c] ∧ NodeT N w t v
theorem stays_twoF (N : Nat) (k : Int) (t : Tr) : Stays Ext (TwoF N k t) := fun v w w' e ⟨A, l, c, h1, h2⟩ => ⟨A, l, c, h1, h2.ext e⟩
theorem twoF_t {N : Nat} {k : Int} {w : World} {t : Tr} {v : Value} (h : TwoF N k t v w) : NodeT N w t v := by obtain ⟨_, _, _, _, h2⟩ := h; exact h2
def UpF1 (N : Nat) (u : Up) (v : Value) (w : World) : Prop := ∃ (A : Option Addr), v = .slice A 1 1 ∧ UpsT N w v [u] 1
theorem stays_upF1 (N : Nat) (u : Up) : Stays Ext (UpF1 N u) := fun v w w' e ⟨A, h1, h2⟩ => ⟨A, h1, h2.keep (.of e)⟩
theorem upF1_t {N : Nat} {w : World} {u : Up} {v : Value} (h : UpF1 N u v w) : UpsT N w v [u] 1 := by obtain ⟨_, _, h2⟩ := h; exact h2
def VarF (N : Nat) (l : List Vt) (v : Value) (w : World) : Prop := ∃ (A : Option Addr) (n : Nat), v = .slice A n n ∧ VarsT N w v l l.length
theorem stays_varF (N : Nat) (l : List Vt) : Stays Ext (VarF N l) := fun v w w' e ⟨A, n, h1, h2⟩ => ⟨A, n, h1, h2.keep (.of e)⟩
def IntF (N : Nat) (l : List Int) (v : Value) (w : World) : Prop := ∃ (A : Option Addr) (n : Nat), v = .slice A n n ∧ IntsT N w v l l.length
theorem stays_intF (N : Nat) (l : List Int) : Stays Ext (IntF N l) := fun v w w' e ⟨A, n, h1, h2⟩ => ⟨A, n, h1, h2.keep (.of e)⟩
def LitA (N : Nat) (al : List Ac) (v : Value) (w : World) : Prop := ∃ (b n : Nat) (vs : List Av), v = .slice (some ⟨b, 0, none⟩) n n ∧ al.length = n ∧ N ≤ b ∧ vs.length = n ∧ w.heap[b]? = some (.cells (vs.flatMap avCells).toArray 71 (0, 0)) ∧ (∀ (i : Nat) (a : Ac) (y : Av), al[i]? = some a → vs[i]? = some y → ArcT N w a y)
theorem stays_litA (N : Nat) (al : List Ac) : Stays Ext (LitA N al) := fun v w w' e ⟨b, n, vs, h1, h2, h3, h4, h5, h6⟩ => ⟨b, n, vs, h1, h2, h3, h4, heap_ext e h5, fun i a y ha hy => (h6 i a y ha hy).keep (.of e)⟩
theorem own_blk71 {w : World} {N b n : Nat} {vs : List Av} (hN : N ≤ b) (hl : vs.length = n) (hn : n ≤ 1000) (h : w.heap[b]? = some (.cells (vs.flatMap avCells).toArray 71 (0, 0))) : w.ownsRow N 71 8 (.slice (some ⟨b, 0, none⟩) n n) n (vs.flatMap avCells) := by
  have h1 : (vs.flatMap avCells).length = n * 8 := by rw [rec_len avCells 8 av_len, hl]
  exact ⟨h1, .inr ⟨b, n, (vs.flatMap avCells).toArray, rfl, hN, h, Nat.le_refl _, by unfold maxLen; omega, by simp [h1], by simp; exact List.take_of_length_le (by omega)⟩⟩
set_option maxRecDepth 100000 in
set_option maxHeartbeats 16000000 in
theorem counter_any (w : World) : Calls Tryd.prog 30 #[] w (OfP w.heap.size w cX) := by
  go_enter Tryd.func30, Tryd.ntmps30
  go_upto_region 1 with fail
  refine wp_named ?_
  intro W1 hW1
  have hE1 : Ext w W1 := by rw [hW1]; exact alloc_ext w _
  have hB0 : W1.heap[w.heap.size]? = some (.cells #[.int .i64 0, .int .i64 0, .int .i64 0, .slice none 0 0, .slice none 0 0, .slice none 0 0] 31 (0, 0)) := by rw [hW1]; exact heap_alloc_new _ _
  clear hW1
  generalize hd : w.heap.size = N at *
  have HDW := Lib.hid hd
  clear hd
  go_upto_region 2 with ((with_reducible refine (name_lit _ _).mono ?_); rintro e W2 ⟨rfl, e2⟩)
  refine wp_named ?_
  intro W3 hW3
  have hE3 : Ext W1 W3 := by rw [hW3]; exact e2.trans (alloc_ext _ _)
  have hB1 : W3.heap[W2.heap.size]? = some (.cells #[.int .u8 1, .int .i64 0, .slice none 0 0] 68 (0, 0)) := by rw [hW3]; exact heap_alloc_new _ _
  have a0 : ∀ w', Ext W3 w' → w'.cell? ⟨W2.heap.size, 0, none⟩ = some (.int .u8 1) := fun w' h => h.cell (cell_of_blk hB1 0 (u := .int .u8 1) rfl)
  have a1 : ∀ w', Ext W3 w' → w'.cell? ⟨W2.heap.size, 1, none⟩ = some (.int .i64 0) := fun w' h => h.cell (cell_of_blk hB1 1 (u := .int .i64 0) rfl)
  have a2 : ∀ w', Ext W3 w' → w'.cell? ⟨W2.heap.size, 2, none⟩ = some (.slice none 0 0) := fun w' h => h.cell (cell_of_blk hB1 2 (u := .slice none 0 0) rfl)
  have HE3 := Lib.hid (And.intro (hE1.trans hE3) (heap_ext hE3 hB0))
  have hR3 := Ext.refl W3
  have HNS : Hid (∀ w', Ext W3 w' → N ≤ w'.heap.size) := Lib.hid (fun w' h => by rw [← HDW.out]; exact (HE3.out.1.trans h).size)
  clear hW3 hB1 hE3 e2 hE1 hB0
  generalize W2.heap.size = b1 at *
  refine wp_region_ext 29 (factsOf [(1, VarF N [(nmN, 0, 2)]), (2, IntF N [0]), (4, EqP (.agg #[.int .u8 0, .int .i64 2, .slice none 0 0])), (5, TwoF N 7 gA), (7, EqP (.agg #[.int .u8 0, .int .i64 1, .slice none 0 0])), (8, TwoF N 3 uA.ex), (10, UpF1 N uA), (13, EqP (.agg #[.int .u8 0, .int .i64 2, .slice none 0 0])), (14, TwoF N 6 gB), (15, EqP (.agg #[.int .u8 0, .int .i64 0, .slice none 0 0])), (17, UpF1 N uB), (19, EqP (.agg #[.int .u8 0, .int .i64 0, .slice none 0 0])), (20, EqP (.agg #[.int .u8 0, .int .i64 0, .slice none 0 0])), (21, TwoF N 6 gC), (23, EqP (.agg #[.int .u8 0, .int .i64 1, .slice none 0 0])), (24, TwoF N 4 uC.ex), (26, UpF1 N uC), (28, LitA N [cA, cB, cC])]) (fun k => ([[], [0], [], [], [], [3, 4], [], [3, 4, 5], [3, 4, 5, 6, 7], [3, 4, 5, 6, 7, 8], [3, 4, 5, 6, 7, 8, 9], [3, 4, 5, 6, 7, 8, 9, 10], [], [3, 4, 5, 6, 7, 8], [3, 4, 5, 6, 7, 8, 12, 13], [3, 4, 5, 6, 7, 8, 12, 13, 14], [3, 4, 5, 6, 7, 8, 12, 13, 14, 15], [3, 4, 5, 6, 7, 8, 12, 13, 14, 15, 16], [3, 4, 5, 6, 7, 8, 12, 13, 14, 15, 16, 17], [3, 4, 5, 6, 7, 8, 12, 13, 14, 15], [3, 4, 5, 6, 7, 8, 12, 13, 14, 15, 19], [3, 4, 5, 6, 7, 8, 12, 13, 14, 15, 19, 20], [], [3, 4, 5, 6, 7, 8, 12, 13, 14, 15, 19, 20, 21], [3, 4, 5, 6, 7, 8, 12, 13, 14, 15, 19, 20, 21, 22, 23], [3, 4, 5, 6, 7, 8, 12, 13, 14, 15, 19, 20, 21, 22, 23, 24], [3, 4, 5, 6, 7, 8, 12, 13, 14, 15, 19, 20, 21, 22, 23, 24, 25], [3, 4, 5, 6, 7, 8, 12, 13, 14, 15, 19, 20, 21, 22, 23, 24, 25, 26], [3, 4, 5, 6, 7, 8, 9, 10, 11, 12, 13, 14, 15, 16, 17, 18, 19, 20, 21, 22, 23, 24, 25, 26, 27], [0, 1, 2, 3, 4, 5, 6, 7, 8, 9, 10, 11, 12, 13, 14, 15, 16, 17, 18, 19, 20, 21, 22, 23, 24, 25, 26, 27, 28], [0, 1, 2, 3, 4, 5, 6, 7, 8, 9, 10, 11, 12, 13, 14, 15, 16, 17, 18, 19, 20, 21, 22, 23, 24, 25, 26, 27, 28, 29]] : List (List Nat)).getD k []) (by kernel_rfl) (by kernel_rfl) Ext.pre (mono_cons (stays_varF _ _) (mono_cons (stays_intF _ _) (mono_cons (stays_eqP _) (mono_cons (stays_twoF _ _ _) (mono_cons (stays_eqP _) (mono_cons (stays_twoF _ _ _) (mono_cons (stays_upF1 _ _) (mono_cons (stays_eqP _) (mono_cons (stays_twoF _ _ _) (mono_cons (stays_eqP _) (mono_cons (stays_upF1 _ _) (mono_cons (stays_eqP _) (mono_cons (stays_eqP _) (mono_cons (stays_twoF _ _ _) (mono_cons (stays_eqP _) (mono_cons (stays_twoF _ _ _) (mono_cons (stays_upF1 _ _) (mono_cons (stays_litA _ _) (mono_nil))))))))))))))))))) ?_
  simp only [List.take_succ_cons, List.take_zero]
  repeat (first | (with_reducible refine lexL_quiet' (v := ?_) ?_ ?_ ?_ ?_; rotate_left; (· with_reducible rfl); (· simp [factsOf]); (· intro w1 hw1 _; go_simp; with_reducible rfl); (try simp only [Act.put, List.setIfInBounds_toArray, List.set_cons_zero, List.set_cons_succ])) | (with_reducible refine lexL_skip ?_ ?_; (· simp [Region.wanted, yielded, undef]); (try simp only [Act.put, List.setIfInBounds_toArray, List.set_cons_zero, List.set_cons_succ])) | (with_reducible refine lexL_quiet (v := ?_) ?_ ?_ ?_ ?_; rotate_left; (· simp [Region.wanted, yielded, undef]); (· simp [factsOf]); (· intro w1 hw1 _; go_simp; with_reducible rfl); (try simp only [Act.put, List.setIfInBounds_toArray, List.set_cons_zero, List.set_cons_succ])))
  with_reducible refine lexL_give' (φ := ?_) ?_ ?_ ?_ ?_; rotate_left; (· with_reducible rfl); (· simp only [factsOf, Nat.reduceAdd, ↓reduceIte, Nat.reduceEqDiff]; rfl)
  · intro w5 hw5 hk5
    go_simp
    refine ⟨some ⟨w5.heap.size, 0, none⟩, 1, rfl, _, rfl, CellsT.blk (HNS.out w5 hw5) (heap_alloc_new _ _), Nat.le_refl _, by simp [lenMax], fun u hu => ?_⟩
    simp at hu; subst hu; decide
  rintro v1 w5 hw5 ⟨A1, n1, rfl, h1⟩ hk2
  clear hk2 hw5 h1 w5
  (try simp only [Act.put, List.setIfInBounds_toArray, List.set_cons_zero, List.set_cons_succ])
  repeat (first | (with_reducible refine lexL_quiet' (v := ?_) ?_ ?_ ?_ ?_; rotate_left; (· with_reducible rfl); (· simp [factsOf]); (· intro w1 hw1 _; go_simp; with_reducible rfl); (try simp only [Act.put, List.setIfInBounds_toArray, List.set_cons_zero, List.set_cons_succ])) | (with_reducible refine lexL_skip ?_ ?_; (· simp [Region.wanted, yielded, undef]); (try simp only [Act.put, List.setIfInBounds_toArray, List.set_cons_zero, List.set_cons_succ])) | (with_reducible refine lexL_quiet (v := ?_) ?_ ?_ ?_ ?_; rotate_left; (· simp [Region.wanted, yielded, undef]); (· simp [factsOf]); (· intro w1 hw1 _; go_simp; with_reducible rfl); (try simp only [Act.put, List.setIfInBounds_toArray, List.set_cons_zero, List.set_cons_succ])))
  with_reducible refine lexL_give' (φ := ?_) ?_ ?_ ?_ ?_; rotate_left; (· with_reducible rfl); (· simp only [factsOf, Nat.reduceAdd, ↓reduceIte, Nat.reduceEqDiff]; rfl)
  · intro w5 hw5 hk5
    go_simp
    exact ⟨some ⟨w5.heap.size, 0, none⟩, 1, rfl, _, rfl, CellsT.blk (HNS.out w5 hw5) (heap_alloc_new _ _), Nat.le_refl _, by simp [lenMax]⟩
  rintro v2 w5 hw5 ⟨A2, n2, rfl, h2⟩ hk2
  clear hk2 hw5 h2 w5
  (try simp only [Act.put, List.setIfInBounds_toArray, List.set_cons_zero, List.set_cons_succ])
  repeat (first | (with_reducible refine lexL_quiet' (v := ?_) ?_ ?_ ?_ ?_; rotate_left; (· with_reducible rfl); (· simp [factsOf]); (· intro w1 hw1 _; go_simp; with_reducible rfl); (try simp only [Act.put, List.setIfInBounds_toArray, List.set_cons_zero, List.set_cons_succ])) | (with_reducible refine lexL_skip ?_ ?_; (· simp [Region.wanted, yielded, undef]); (try simp only [Act.put, List.setIfInBounds_toArray, List.set_cons_zero, List.set_cons_succ])) | (with_reducible refine lexL_quiet (v := ?_) ?_ ?_ ?_ ?_; rotate_left; (· simp [Region.wanted, yielded, undef]); (· simp [factsOf]); (· intro w1 hw1 _; go_simp; with_reducible rfl); (try simp only [Act.put, List.setIfInBounds_toArray, List.set_cons_zero, List.set_cons_succ])))
  with_reducible refine lexL_give' (φ := ?_) ?_ ?_ ?_ ?_; rotate_left; (· with_reducible rfl); (· simp only [factsOf, Nat.reduceAdd, ↓reduceIte, Nat.reduceEqDiff]; rfl)
  · intro w5 hw5 _
    go_simp
    refine (num_lit w5 2).mono ?_
    rintro e w6 ⟨rfl, e6⟩
    exact ⟨_, rfl, e6, rfl⟩
  rintro v4 w5 hw5 hv4 hk2
  unfold EqP at hv4
  subst hv4
  clear hk2 hw5 w5
  (try simp only [Act.put, List.setIfInBounds_toArray, List.set_cons_zero, List.set_cons_succ])
  repeat (first | (with_reducible refine lexL_quiet' (v := ?_) ?_ ?_ ?_ ?_; rotate_left; (· with_reducible rfl); (· simp [factsOf]); (· intro w1 hw1 _; go_simp; with_reducible rfl); (try simp only [Act.put, List.setIfInBounds_toArray, List.set_cons_zero, List.set_cons_succ])) | (with_reducible refine lexL_skip ?_ ?_; (· simp [Region.wanted, yielded, undef]); (try simp only [Act.put, List.setIfInBounds_toArray, List.set_cons_zero, List.set_cons_succ])) | (with_reducible refine lexL_quiet (v := ?_) ?_ ?_ ?_ ?_; rotate_left; (· simp [Region.wanted, yielded, undef]); (· simp [factsOf]); (· intro w1 hw1 _; go_simp; with_reducible rfl); (try simp only [Act.put, List.setIfInBounds_toArray, List.set_cons_zero, List.set_cons_succ])))
  with_reducible refine lexL_give' (φ := ?_) ?_ ?_ ?_ ?_; rotate_left; (· with_reducible rfl); (· simp only [factsOf, Nat.reduceAdd, ↓reduceIte, Nat.reduceEqDiff]; rfl)
  · intro w5 hw5 _
    go_simp
    refine (two_lit w5 N 7 7 (by decide) (HNS.out w5 hw5) (by decide) (.mk 1 0 []) (.mk 0 2 []) _ _ (name_leaf N _ 0) (num_leaf N _ 2)).mono ?_
    rintro e w6 ⟨A, l, c, rfl, h1, e6⟩
    exact ⟨_, rfl, e6, A, l, c, rfl, h1⟩
  rintro v5 w5 hw5 ⟨A5, l5, c5, rfl, h5⟩ hk2
  clear hk2 hw5 h5 w5
  (try simp only [Act.put, List.setIfInBounds_toArray, List.set_cons_zero, List.set_cons_succ])
  repeat (first | (with_reducible refine lexL_quiet' (v := ?_) ?_ ?_ ?_ ?_; rotate_left; (· with_reducible rfl); (· simp [factsOf]); (· intro w1 hw1 _; go_simp; with_reducible rfl); (try simp only [Act.put, List.setIfInBounds_toArray, List.set_cons_zero, List.set_cons_succ])) | (with_reducible refine lexL_skip ?_ ?_; (· simp [Region.wanted, yielded, undef]); (try simp only [Act.put, List.setIfInBounds_toArray, List.set_cons_zero, List.set_cons_succ])) | (with_reducible refine lexL_quiet (v := ?_) ?_ ?_ ?_ ?_; rotate_left; (· simp [Region.wanted, yielded, undef]); (· simp [factsOf]); (· intro w1 hw1 _; go_simp; with_reducible rfl); (try simp only [Act.put, List.setIfInBounds_toArray, List.set_cons_zero, List.set_cons_succ])))
  with_reducible refine lexL_give' (φ := ?_) ?_ ?_ ?_ ?_; rotate_left; (· with_reducible rfl); (· simp only [factsOf, Nat.reduceAdd, ↓reduceIte, Nat.reduceEqDiff]; rfl)
  · intro w5 hw5 _
    go_simp
    refine (num_lit w5 1).mono ?_
    rintro e w6 ⟨rfl, e6⟩
    exact ⟨_, rfl, e6, rfl⟩
  rintro v7 w5 hw5 hv7 hk2
  unfold EqP at hv7
  subst hv7
  clear hk2 hw5 w5
  (try simp only [Act.put, List.setIfInBounds_toArray, List.set_cons_zero, List.set_cons_succ])
  repeat (first | (with_reducible refine lexL_quiet' (v := ?_) ?_ ?_ ?_ ?_; rotate_left; (· with_reducible rfl); (· simp [factsOf]); (· intro w1 hw1 _; go_simp; with_reducible rfl); (try simp only [Act.put, List.setIfInBounds_toArray, List.set_cons_zero, List.set_cons_succ])) | (with_reducible refine lexL_skip ?_ ?_; (· simp [Region.wanted, yielded, undef]); (try simp only [Act.put, List.setIfInBounds_toArray, List.set_cons_zero, List.set_cons_succ])) | (with_reducible refine lexL_quiet (v := ?_) ?_ ?_ ?_ ?_; rotate_left; (· simp [Region.wanted, yielded, undef]); (· simp [factsOf]); (· intro w1 hw1 _; go_simp; with_reducible rfl); (try simp only [Act.put, List.setIfInBounds_toArray, List.set_cons_zero, List.set_cons_succ])))
  with_reducible refine lexL_give' (φ := ?_) ?_ ?_ ?_ ?_; rotate_left; (· with_reducible rfl); (· simp only [factsOf, Nat.reduceAdd, ↓reduceIte, Nat.reduceEqDiff]; rfl)
  · intro w5 hw5 _
    go_simp
    refine (two_lit w5 N 3 3 (by decide) (HNS.out w5 hw5) (by decide) (.mk 1 0 []) (.mk 0 1 []) _ _ (name_leaf N _ 0) (num_leaf N _ 1)).mono ?_
    rintro e w6 ⟨A, l, c, rfl, h1, e6⟩
    exact ⟨_, rfl, e6, A, l, c, rfl, h1⟩
  rintro v8 w5 hw5 ⟨A8, l8, c8, rfl, h8⟩ hk2
  clear hk2 hw5 h8 w5
  (try simp only [Act.put, List.setIfInBounds_toArray, List.set_cons_zero, List.set_cons_succ])
  repeat (first | (with_reducible refine lexL_quiet' (v := ?_) ?_ ?_ ?_ ?_; rotate_left; (· with_reducible rfl); (· simp [factsOf]); (· intro w1 hw1 _; go_simp; with_reducible rfl); (try simp only [Act.put, List.setIfInBounds_toArray, List.set_cons_zero, List.set_cons_succ])) | (with_reducible refine lexL_skip ?_ ?_; (· simp [Region.wanted, yielded, undef]); (try simp only [Act.put, List.setIfInBounds_toArray, List.set_cons_zero, List.set_cons_succ])) | (with_reducible refine lexL_quiet (v := ?_) ?_ ?_ ?_ ?_; rotate_left; (· simp [Region.wanted, yielded, undef]); (· simp [factsOf]); (· intro w1 hw1 _; go_simp; with_reducible rfl); (try simp only [Act.put, List.setIfInBounds_toArray, List.set_cons_zero, List.set_cons_succ])))
  with_reducible refine lexL_give' (φ := ?_) ?_ ?_ ?_ ?_; rotate_left; (· with_reducible rfl); (· simp only [factsOf, Nat.reduceAdd, ↓reduceIte, Nat.reduceEqDiff]; rfl)
  · intro w5 hw5 hk5
    go_simp
    have hn := twoF_t (hk5.get 8 (by decide) rfl rfl)
    exact ⟨some ⟨w5.heap.size, 0, none⟩, rfl, ups_one (HNS.out w5 hw5) (heap_alloc_new _ _) (hn.ext (alloc_ext _ _))⟩
  rintro v10 w5 hw5 ⟨A10, rfl, h10⟩ hk2
  clear hk2 hw5 h10 w5
  (try simp only [Act.put, List.setIfInBounds_toArray, List.set_cons_zero, List.set_cons_succ])
  repeat (first | (with_reducible refine lexL_quiet' (v := ?_) ?_ ?_ ?_ ?_; rotate_left; (· with_reducible rfl); (· simp [factsOf]); (· intro w1 hw1 _; go_simp; with_reducible rfl); (try simp only [Act.put, List.setIfInBounds_toArray, List.set_cons_zero, List.set_cons_succ])) | (with_reducible refine lexL_skip ?_ ?_; (· simp [Region.wanted, yielded, undef]); (try simp only [Act.put, List.setIfInBounds_toArray, List.set_cons_zero, List.set_cons_succ])) | (with_reducible refine lexL_quiet (v := ?_) ?_ ?_ ?_ ?_; rotate_left; (· simp [Region.wanted, yielded, undef]); (· simp [factsOf]); (· intro w1 hw1 _; go_simp; with_reducible rfl); (try simp only [Act.put, List.setIfInBounds_toArray, List.set_cons_zero, List.set_cons_succ])))
  with_reducible refine lexL_give' (φ := ?_) ?_ ?_ ?_ ?_; rotate_left; (· with_reducible rfl); (· simp only [factsOf, Nat.reduceAdd, ↓reduceIte, Nat.reduceEqDiff]; rfl)
  · intro w5 hw5 _
    go_simp
    refine (num_lit w5 2).mono ?_
    rintro e w6 ⟨rfl, e6⟩
    exact ⟨_, rfl, e6, rfl⟩
  rintro v13 w5 hw5 hv13 hk2
  unfold EqP at hv13
  subst hv13
  clear hk2 hw5 w5
  (try simp only [Act.put, List.setIfInBounds_toArray, List.set_cons_zero, List.set_cons_succ])
  repeat (first | (with_reducible refine lexL_quiet' (v := ?_) ?_ ?_ ?_ ?_; rotate_left; (· with_reducible rfl); (· simp [factsOf]); (· intro w1 hw1 _; go_simp; with_reducible rfl); (try simp only [Act.put, List.setIfInBounds_toArray, List.set_cons_zero, List.set_cons_succ])) | (with_reducible refine lexL_skip ?_ ?_; (· simp [Region.wanted, yielded, undef]); (try simp only [Act.put, List.setIfInBounds_toArray, List.set_cons_zero, List.set_cons_succ])) | (with_reducible refine lexL_quiet (v := ?_) ?_ ?_ ?_ ?_; rotate_left; (· simp [Region.wanted, yielded, undef]); (· simp [factsOf]); (· intro w1 hw1 _; go_simp; with_reducible rfl); (try simp only [Act.put, List.setIfInBounds_toArray, List.set_cons_zero, List.set_cons_succ])))
  with_reducible refine lexL_give' (φ := ?_) ?_ ?_ ?_ ?_; rotate_left; (· with_reducible rfl); (· simp only [factsOf, Nat.reduceAdd, ↓reduceIte, Nat.reduceEqDiff]; rfl)
  · intro w5 hw5 _
    go_simp
    refine (two_lit w5 N 6 6 (by decide) (HNS.out w5 hw5) (by decide) (.mk 1 0 []) (.mk 0 2 []) _ _ (name_leaf N _ 0) (num_leaf N _ 2)).mono ?_
    rintro e w6 ⟨A, l, c, rfl, h1, e6⟩
    exact ⟨_, rfl, e6, A, l, c, rfl, h1⟩
  rintro v14 w5 hw5 ⟨A14, l14, c14, rfl, h14⟩ hk2
  clear hk2 hw5 h14 w5
  (try simp only [Act.put, List.setIfInBounds_toArray, List.set_cons_zero, List.set_cons_succ])
  repeat (first | (with_reducible refine lexL_quiet' (v := ?_) ?_ ?_ ?_ ?_; rotate_left; (· with_reducible rfl); (· simp [factsOf]); (· intro w1 hw1 _; go_simp; with_reducible rfl); (try simp only [Act.put, List.setIfInBounds_toArray, List.set_cons_zero, List.set_cons_succ])) | (with_reducible refine lexL_skip ?_ ?_; (· simp [Region.wanted, yielded, undef]); (try simp only [Act.put, List.setIfInBounds_toArray, List.set_cons_zero, List.set_cons_succ])) | (with_reducible refine lexL_quiet (v := ?_) ?_ ?_ ?_ ?_; rotate_left; (· simp [Region.wanted, yielded, undef]); (· simp [factsOf]); (· intro w1 hw1 _; go_simp; with_reducible rfl); (try simp only [Act.put, List.setIfInBounds_toArray, List.set_cons_zero, List.set_cons_succ])))
  with_reducible refine lexL_give' (φ := ?_) ?_ ?_ ?_ ?_; rotate_left; (· with_reducible rfl); (· simp only [factsOf, Nat.reduceAdd, ↓reduceIte, Nat.reduceEqDiff]; rfl)
  · intro w5 hw5 _
    go_simp
    refine (num_lit w5 0).mono ?_
    rintro e w6 ⟨rfl, e6⟩
    exact ⟨_, rfl, e6, rfl⟩
  rintro v15 w5 hw5 hv15 hk2
  unfold EqP at hv15
  subst hv15
  clear hk2 hw5 w5
  (try simp only [Act.put, List.setIfInBounds_toArray, List.set_cons_zero, List.set_cons_succ])
  repeat (first | (with_reducible refine lexL_quiet' (v := ?_) ?_ ?_ ?_ ?_; rotate_left; (· with_reducible rfl); (· simp [factsOf]); (· intro w1 hw1 _; go_simp; with_reducible rfl); (try simp only [Act.put, List.setIfInBounds_toArray, List.set_cons_zero, List.set_cons_succ])) | (with_reducible refine lexL_skip ?_ ?_; (· simp [Region.wanted, yielded, undef]); (try simp only [Act.put, List.setIfInBounds_toArray, List.set_cons_zero, List.set_cons_succ])) | (with_reducible refine lexL_quiet (v := ?_) ?_ ?_ ?_ ?_; rotate_left; (· simp [Region.wanted, yielded, undef]); (· simp [factsOf]); (· intro w1 hw1 _; go_simp; with_reducible rfl); (try simp only [Act.put, List.setIfInBounds_toArray, List.set_cons_zero, List.set_cons_succ])))
  with_reducible refine lexL_give' (φ := ?_) ?_ ?_ ?_ ?_; rotate_left; (· with_reducible rfl); (· simp only [factsOf, Nat.reduceAdd, ↓reduceIte, Nat.reduceEqDiff]; rfl)
  · intro w5 hw5 hk5
    go_simp
    exact ⟨some ⟨w5.heap.size, 0, none⟩, rfl, ups_one (HNS.out w5 hw5) (heap_alloc_new _ _) (num_leaf _ _ _)⟩
  rintro v17 w5 hw5 ⟨A17, rfl, h17⟩ hk2
  clear hk2 hw5 h17 w5
  (try simp only [Act.put, List.setIfInBounds_toArray, List.set_cons_zero, List.set_cons_succ])
  repeat (first | (with_reducible refine lexL_quiet' (v := ?_) ?_ ?_ ?_ ?_; rotate_left; (· with_reducible rfl); (· simp [factsOf]); (· intro w1 hw1 _; go_simp; with_reducible rfl); (try simp only [Act.put, List.setIfInBounds_toArray, List.set_cons_zero, List.set_cons_succ])) | (with_reducible refine lexL_skip ?_ ?_; (· simp [Region.wanted, yielded, undef]); (try simp only [Act.put, List.setIfInBounds_toArray, List.set_cons_zero, List.set_cons_succ])) | (with_reducible refine lexL_quiet (v := ?_) ?_ ?_ ?_ ?_; rotate_left; (· simp [Region.wanted, yielded, undef]); (· simp [factsOf]); (· intro w1 hw1 _; go_simp; with_reducible rfl); (try simp only [Act.put, List.setIfInBounds_toArray, List.set_cons_zero, List.set_cons_succ])))
  with_reducible refine lexL_give' (φ := ?_) ?_ ?_ ?_ ?_; rotate_left; (· with_reducible rfl); (· simp only [factsOf, Nat.reduceAdd, ↓reduceIte, Nat.reduceEqDiff]; rfl)
  · intro w5 hw5 _
    go_simp
    refine (num_lit w5 0).mono ?_
    rintro e w6 ⟨rfl, e6⟩
    exact ⟨_, rfl, e6, rfl⟩
  rintro v19 w5 hw5 hv19 hk2
  unfold EqP at hv19
  subst hv19
  clear hk2 hw5 w5
  (try simp only [Act.put, List.setIfInBounds_toArray, List.set_cons_zero, List.set_cons_succ])
  repeat (first | (with_reducible refine lexL_quiet' (v := ?_) ?_ ?_ ?_ ?_; rotate_left; (· with_reducible rfl); (· simp [factsOf]); (· intro w1 hw1 _; go_simp; with_reducible rfl); (try simp only [Act.put, List.setIfInBounds_toArray, List.set_cons_zero, List.set_cons_succ])) | (with_reducible refine lexL_skip ?_ ?_; (· simp [Region.wanted, yielded, undef]); (try simp only [Act.put, List.setIfInBounds_toArray, List.set_cons_zero, List.set_cons_succ])) | (with_reducible refine lexL_quiet (v := ?_) ?_ ?_ ?_ ?_; rotate_left; (· simp [Region.wanted, yielded, undef]); (· simp [factsOf]); (· intro w1 hw1 _; go_simp; with_reducible rfl); (try simp only [Act.put, List.setIfInBounds_toArray, List.set_cons_zero, List.set_cons_succ])))
  with_reducible refine lexL_give' (φ := ?_) ?_ ?_ ?_ ?_; rotate_left; (· with_reducible rfl); (· simp only [factsOf, Nat.reduceAdd, ↓reduceIte, Nat.reduceEqDiff]; rfl)
  · intro w5 hw5 _
    go_simp
    refine (num_lit w5 0).mono ?_
    rintro e w6 ⟨rfl, e6⟩
    exact ⟨_, rfl, e6, rfl⟩
  rintro v20 w5 hw5 hv20 hk2
  unfold EqP at hv20
  subst hv20
  clear hk2 hw5 w5
  (try simp only [Act.put, List.setIfInBounds_toArray, List.set_cons_zero, List.set_cons_succ])
  repeat (first | (with_reducible refine lexL_quiet' (v := ?_) ?_ ?_ ?_ ?_; rotate_left; (· with_reducible rfl); (· simp [factsOf]); (· intro w1 hw1 _; go_simp; with_reducible rfl); (try simp only [Act.put, List.setIfInBounds_toArray, List.set_cons_zero, List.set_cons_succ])) | (with_reducible refine lexL_skip ?_ ?_; (· simp [Region.wanted, yielded, undef]); (try simp only [Act.put, List.setIfInBounds_toArray, List.set_cons_zero, List.set_cons_succ])) | (with_reducible refine lexL_quiet (v := ?_) ?_ ?_ ?_ ?_; rotate_left; (· simp [Region.wanted, yielded, undef]); (· simp [factsOf]); (· intro w1 hw1 _; go_simp; with_reducible rfl); (try simp only [Act.put, List.setIfInBounds_toArray, List.set_cons_zero, List.set_cons_succ])))
  with_reducible refine lexL_give' (φ := ?_) ?_ ?_ ?_ ?_; rotate_left; (· with_reducible rfl); (· simp only [factsOf, Nat.reduceAdd, ↓reduceIte, Nat.reduceEqDiff]; rfl)
  · intro w5 hw5 _
    go_simp
    refine (two_lit w5 N 6 6 (by decide) (HNS.out w5 hw5) (by decide) (.mk 0 0 []) (.mk 0 0 []) _ _ (num_leaf N _ 0) (num_leaf N _ 0)).mono ?_
    rintro e w6 ⟨A, l, c, rfl, h1, e6⟩
    exact ⟨_, rfl, e6, A, l, c, rfl, h1⟩
  rintro v21 w5 hw5 ⟨A21, l21, c21, rfl, h21⟩ hk2
  clear hk2 hw5 h21 w5
  (try simp only [Act.put, List.setIfInBounds_toArray, List.set_cons_zero, List.set_cons_succ])
  repeat (first | (with_reducible refine lexL_quiet' (v := ?_) ?_ ?_ ?_ ?_; rotate_left; (· with_reducible rfl); (· simp [factsOf]); (· intro w1 hw1 _; go_simp; with_reducible rfl); (try simp only [Act.put, List.setIfInBounds_toArray, List.set_cons_zero, List.set_cons_succ])) | (with_reducible refine lexL_skip ?_ ?_; (· simp [Region.wanted, yielded, undef]); (try simp only [Act.put, List.setIfInBounds_toArray, List.set_cons_zero, List.set_cons_succ])) | (with_reducible refine lexL_quiet (v := ?_) ?_ ?_ ?_ ?_; rotate_left; (· simp [Region.wanted, yielded, undef]); (· simp [factsOf]); (· intro w1 hw1 _; go_simp; with_reducible rfl); (try simp only [Act.put, List.setIfInBounds_toArray, List.set_cons_zero, List.set_cons_succ])))
  with_reducible refine lexL_give' (φ := ?_) ?_ ?_ ?_ ?_; rotate_left; (· with_reducible rfl); (· simp only [factsOf, Nat.reduceAdd, ↓reduceIte, Nat.reduceEqDiff]; rfl)
  · intro w5 hw5 _
    go_simp
    refine (num_lit w5 1).mono ?_
    rintro e w6 ⟨rfl, e6⟩
    exact ⟨_, rfl, e6, rfl⟩
  rintro v23 w5 hw5 hv23 hk2
  unfold EqP at hv23
  subst hv23
  clear hk2 hw5 w5
  (try simp only [Act.put, List.setIfInBounds_toArray, List.set_cons_zero, List.set_cons_succ])
  repeat (first | (with_reducible refine lexL_quiet' (v := ?_) ?_ ?_ ?_ ?_; rotate_left; (· with_reducible rfl); (· simp [factsOf]); (· intro w1 hw1 _; go_simp; with_reducible rfl); (try simp only [Act.put, List.setIfInBounds_toArray, List.set_cons_zero, List.set_cons_succ])) | (with_reducible refine lexL_skip ?_ ?_; (· simp [Region.wanted, yielded, undef]); (try simp only [Act.put, List.setIfInBounds_toArray, List.set_cons_zero, List.set_cons_succ])) | (with_reducible refine lexL_quiet (v := ?_) ?_ ?_ ?_ ?_; rotate_left; (· simp [Region.wanted, yielded, undef]); (· simp [factsOf]); (· intro w1 hw1 _; go_simp; with_reducible rfl); (try simp only [Act.put, List.setIfInBounds_toArray, List.set_cons_zero, List.set_cons_succ])))
  with_reducible refine lexL_give' (φ := ?_) ?_ ?_ ?_ ?_; rotate_left; (· with_reducible rfl); (· simp only [factsOf, Nat.reduceAdd, ↓reduceIte, Nat.reduceEqDiff]; rfl)
  · intro w5 hw5 _
    go_simp
    refine (two_lit w5 N 4 4 (by decide) (HNS.out w5 hw5) (by decide) (.mk 1 0 []) (.mk 0 1 []) _ _ (name_leaf N _ 0) (num_leaf N _ 1)).mono ?_
    rintro e w6 ⟨A, l, c, rfl, h1, e6⟩
    exact ⟨_, rfl, e6, A, l, c, rfl, h1⟩
  rintro v24 w5 hw5 ⟨A24, l24, c24, rfl, h24⟩ hk2
  clear hk2 hw5 h24 w5
  (try simp only [Act.put, List.setIfInBounds_toArray, List.set_cons_zero, List.set_cons_succ])
  repeat (first | (with_reducible refine lexL_quiet' (v := ?_) ?_ ?_ ?_ ?_; rotate_left; (· with_reducible rfl); (· simp [factsOf]); (· intro w1 hw1 _; go_simp; with_reducible rfl); (try simp only [Act.put, List.setIfInBounds_toArray, List.set_cons_zero, List.set_cons_succ])) | (with_reducible refine lexL_skip ?_ ?_; (· simp [Region.wanted, yielded, undef]); (try simp only [Act.put, List.setIfInBounds_toArray, List.set_cons_zero, List.set_cons_succ])) | (with_reducible refine lexL_quiet (v := ?_) ?_ ?_ ?_ ?_; rotate_left; (· simp [Region.wanted, yielded, undef]); (· simp [factsOf]); (· intro w1 hw1 _; go_simp; with_reducible rfl); (try simp only [Act.put, List.setIfInBounds_toArray, List.set_cons_zero, List.set_cons_succ])))
  with_reducible refine lexL_give' (φ := ?_) ?_ ?_ ?_ ?_; rotate_left; (· with_reducible rfl); (· simp only [factsOf, Nat.reduceAdd, ↓reduceIte, Nat.reduceEqDiff]; rfl)
  · intro w5 hw5 hk5
    go_simp
    have hn := twoF_t (hk5.get 24 (by decide) rfl rfl)
    exact ⟨some ⟨w5.heap.size, 0, none⟩, rfl, ups_one (HNS.out w5 hw5) (heap_alloc_new _ _) (hn.ext (alloc_ext _ _))⟩
  rintro v26 w5 hw5 ⟨A26, rfl, h26⟩ hk2
  clear hk2 hw5 h26 w5
  (try simp only [Act.put, List.setIfInBounds_toArray, List.set_cons_zero, List.set_cons_succ])
  repeat (first | (with_reducible refine lexL_quiet' (v := ?_) ?_ ?_ ?_ ?_; rotate_left; (· with_reducible rfl); (· simp [factsOf]); (· intro w1 hw1 _; go_simp; with_reducible rfl); (try simp only [Act.put, List.setIfInBounds_toArray, List.set_cons_zero, List.set_cons_succ])) | (with_reducible refine lexL_skip ?_ ?_; (· simp [Region.wanted, yielded, undef]); (try simp only [Act.put, List.setIfInBounds_toArray, List.set_cons_zero, List.set_cons_succ])) | (with_reducible refine lexL_quiet (v := ?_) ?_ ?_ ?_ ?_; rotate_left; (· simp [Region.wanted, yielded, undef]); (· simp [factsOf]); (· intro w1 hw1 _; go_simp; with_reducible rfl); (try simp only [Act.put, List.setIfInBounds_toArray, List.set_cons_zero, List.set_cons_succ])))
  with_reducible refine lexL_give' (φ := ?_) ?_ ?_ ?_ ?_; rotate_left; (· with_reducible rfl); (· simp only [factsOf, Nat.reduceAdd, ↓reduceIte, Nat.reduceEqDiff]; rfl)
  · intro w5 hw5 hk5
    go_simp
    have g1 := twoF_t (hk5.get 5 (by decide) rfl rfl)
    have g2 := twoF_t (hk5.get 14 (by decide) rfl rfl)
    have g3 := twoF_t (hk5.get 21 (by decide) rfl rfl)
    have u1 := upF1_t (hk5.get 10 (by decide) rfl rfl)
    have u2 := upF1_t (hk5.get 17 (by decide) rfl rfl)
    have u3 := upF1_t (hk5.get 26 (by decide) rfl rfl)
    refine ⟨w5.heap.size, 3, [⟨0, 0, (7, 0, .slice A5 l5 c5), 0, .slice A10 1 1, 0⟩, ⟨0, 0, (6, 0, .slice A14 l14 c14), 1, .slice A17 1 1, 0⟩, ⟨0, 1, (6, 0, .slice A21 l21 c21), 1, .slice A26 1 1, 0⟩], rfl, rfl, HNS.out w5 hw5, rfl, heap_alloc_new _ _, fun i a y ha hy => ?_⟩
    match i, ha, hy with
    | 0, ha, hy => simp at ha hy; subst ha hy; exact ⟨rfl, rfl, g1.ext (alloc_ext _ _), rfl, ⟨1, u1.keep (.of (alloc_ext _ _))⟩, rfl⟩
    | 1, ha, hy => simp at ha hy; subst ha hy; exact ⟨rfl, rfl, g2.ext (alloc_ext _ _), rfl, ⟨1, u2.keep (.of (alloc_ext _ _))⟩, rfl⟩
    | 2, ha, hy => simp at ha hy; subst ha hy; exact ⟨rfl, rfl, g3.ext (alloc_ext _ _), rfl, ⟨1, u3.keep (.of (alloc_ext _ _))⟩, rfl⟩
  rintro v28 w5 hw5 ⟨b28, n28, vs28, rfl, h28⟩ hk2
  clear hk2 hw5 h28 w5
  (try simp only [Act.put, List.setIfInBounds_toArray, List.set_cons_zero, List.set_cons_succ])
  with_reducible refine lexL_nil ?_; intro w1 hw1 hk1; simp only [List.drop_succ_cons, List.drop_zero]
  obtain ⟨_, _, _, hV1⟩ := hk1.get 1 rfl rfl
  obtain ⟨_, _, _, hV2⟩ := hk1.get 2 rfl rfl
  obtain ⟨b28', n28', vs, hv28, hn28, hN28, hvl, hB28, hat⟩ := hk1.get 28 rfl rfl
  have hB0 := heap_ext hw1 HE3.out.2
  have HW := Lib.hid (And.intro hw1 (And.intro hV1 (And.intro hV2 (And.intro hv28 (And.intro hn28 (And.intro hN28 (And.intro hvl (And.intro hB28 hat))))))))
  clear hk1 hw1 hV1 hV2 hv28 hn28 hN28 hvl hB28 hat a0 a1 a2
  go_wp2_with (with_reducible refine wpList_store_blk _ rfl 31 _ _ rfl N 31 _ _ rfl rfl hB0 (by kernel_rfl) (by kernel_rfl) (by kernel_rfl) ?_; intro w8 h8 g8)
  refine bodyPost_ret (results_cell_row rfl _ _ N 31 _ (0, 0) _ (by simp [Act.put]) h8 Tryd.underlying31 rfl (by kernel_rfl)) rfl ?_
  have hkp : Kp N w1 w8 := Kp.grown hB0 (.inr rfl) g8
  have hb28 : b28' ≠ N := fun e => by have h := HW.out.2.2.2.2.2.2.2.1; rw [e, hB0] at h; injection h with h; injection h with _ h _; cases h
  have hB8 := (g8.block b28' (lt_of_block HW.out.2.2.2.2.2.2.2.1) (by simpa using hb28)).trans HW.out.2.2.2.2.2.2.2.1
  refine ⟨_, rfl, ⟨_, _, .slice (some ⟨b28', 0, none⟩) n28' n28', vs, 1, 1, ?_, HW.out.2.1.keep hkp, HW.out.2.2.1.keep hkp, ?_, ?_, fun i a y ha hy => (HW.out.2.2.2.2.2.2.2.2 i a y ha hy).keep hkp, by simp [cX, lenMax]⟩, Below.grown (HE3.out.1.trans HW.out.1) g8 (HE3.out.1.trans HW.out.1).size (fun k hk => by cases hk; rw [HDW.out]; exact Nat.le_refl _)⟩
  · rw [HW.out.2.2.2.1]; rfl
  · rw [show cX.arcs.length = n28' from HW.out.2.2.2.2.1]
    exact own_blk71 HW.out.2.2.2.2.2.1 HW.out.2.2.2.2.2.2.1 (by have := HW.out.2.2.2.2.1; simp at this; omega) hB8
  · rw [show cX.arcs.length = n28' from HW.out.2.2.2.2.1]; exact HW.out.2.2.2.2.2.2.1
end Go.Proofs.YtggffdkgfgdaoaaDoor
