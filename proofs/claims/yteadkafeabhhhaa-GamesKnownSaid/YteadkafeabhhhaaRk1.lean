/- games.ranks, its first part: edges are counted. -/
import Derived.Test.YteadkafeabhhhaaB2
import Derived.Test.YteadkafeabhhhaaRk0
import Derived.Test.YteadkafeabhhhaaComm
import Derived.Deep.RegionLaw
import Derived.Deep.CutBlock
namespace Go.Proofs.Yteadkafeabhhhaa
open Go.RowKit Go.Conc
set_option linter.unusedVariables false
set_option linter.unusedSimpArgs false
attribute [local go_sem] Oper.quietV quietV Oper.gives givesV ext_refl_iff ext_alloc_iff ext_drew_iff ext_drewN_iff

theorem OwnL.perm {w W : World} {L L' : List Asn} (h : OwnL w W L) (hp : L.Perm L') : OwnL w W L' :=
  ⟨h.ext, fun A hA => h.ok A (hp.mem_iff.2 hA), hp.pairwise h.apart (fun {A B} hab b hb hb' => hab b hb' hb)⟩
theorem OwnL.swap {w W : World} {A B : Asn} {L : List Asn} (h : OwnL w W (A :: B :: L)) : OwnL w W (B :: A :: L) := h.perm (.swap _ _ _)
theorem mk_slice {t e : TypeId} {i : TypeInfo} {z : Value} {bytes : Nat} (ht : Try.prog.underlying t = some (.slice e)) (hi : (Try.prog.info? e).map (fun i => (i.zero, i.size, i.bytes)) = some (some z, 1, bytes)) (hz : z.cells = #[z]) (hb : bytes ≤ 100) (n : Nat) (hn : n ≤ 1000) (w : World) :
    (Instr.makeSlice t (.int .i64 (n : Int)) (.int .i64 (n : Int))).run Try.prog w = .ok (.slice (some ⟨w.heap.size, 0, none⟩) n n) (w.alloc (.cells (Array.replicate n z) e)) := by
  obtain ⟨i, hi, hz0, hs, hb0⟩ := info_parts hi
  have hm : (i.bytes : Int) * (n : Int) ≤ 281474976710656 := by
    have h1 : i.bytes * n ≤ 100 * 1000 := Nat.mul_le_mul (by omega) hn
    have h2 : ((i.bytes * n : Nat) : Int) ≤ 281474976710656 := by omega
    rwa [Int.natCast_mul] at h2
  have hr := run_make (P := Try.prog) w t e i z ht hi hz0 .i64 .i64 n n (by omega) (Int.le_refl _) hm (by omega)
  simp only [Int.toNat_natCast] at hr
  rw [hr, hs, Nat.mul_one, hz]
  congr 3
  exact Array.ext' (by rw [toList_madeCells_one]; simp)
theorem mk_ints (n : Nat) (hn : n ≤ 1000) (w : World) : (Instr.makeSlice 37 (.int .i64 (n : Int)) (.int .i64 (n : Int))).run Try.prog w = .ok (.slice (some ⟨w.heap.size, 0, none⟩) n n) (w.alloc (.cells (Array.replicate n (.int .i64 0)) 3)) := mk_slice (i := default) Try.underlying37 int_info rfl (by decide) n hn w
theorem mk_bools (n : Nat) (hn : n ≤ 1000) (w : World) : (Instr.makeSlice 30 (.int .i64 (n : Int)) (.int .i64 (n : Int))).run Try.prog w = .ok (.slice (some ⟨w.heap.size, 0, none⟩) n n) (w.alloc (.cells (Array.replicate n (.bool false)) 4)) := mk_slice (i := default) Try.underlying30 bool_info rfl (by decide) n hn w
theorem mk_slices (n : Nat) (hn : n ≤ 1000) (w : World) : (Instr.makeSlice 75 (.int .i64 (n : Int)) (.int .i64 (n : Int))).run Try.prog w = .ok (.slice (some ⟨w.heap.size, 0, none⟩) n n) (w.alloc (.cells (Array.replicate n (.slice none 0 0)) 37)) := mk_slice (i := default) Try.underlying75 ints_info rfl (by decide) n hn w
theorem mk_chan (n : Nat) (hn : n ≤ 64) (w : World) : (Instr.makeChan 93 (.int .i64 (n : Int))).run Try.prog w = .ok (.chan (some w.heap.size)) (w.alloc (.chan n #[] false 0 0 false)) := by
  obtain ⟨i, hi, hz0, hs, hb0⟩ := info_parts int_info
  exact run_makeChan (P := Try.prog) (w := w) Try.underlying93 hi .i64 n (by omega) (by rw [hb0]; omega)
theorem own_new (W : World) (z : Value) (e : TypeId) (n : Nat) (hn : n ≤ 1000) : (W.alloc (.cells (Array.replicate n z) e)).ownsRow W.heap.size e 1 (.slice (some ⟨W.heap.size, 0, none⟩) n n) n (List.replicate n z) := by
  have h := World.ownsRow_lit (base := W.heap.size) (e := e) (size := 1) W (Array.replicate n z) n (Nat.le_refl _) (by unfold maxLen; omega) (by simp)
  simpa using h
theorem alloc_ext (W : World) (o : Obj) : Ext W (W.alloc o) := (Ext.refl W).alloc o
theorem grown_ext {W W' : World} (h : W.grownBy W' none) : Ext W W' := ⟨h.os, h.tape, h.output, h.size, fun k hk => h.block k hk (by simp)⟩
theorem drew_ext (W : World) : Ext W W.drew := (Ext.refl W).drew

theorem rows_keep {w W W' : World} {L : List Asn} (h : OwnL w W L) (k : Nat) {e1 e2 s2 g c : Nat} {vs : List Value} {rs : List (Nat × List Value)} (hk : L[k]? = some (.rows e1 e2 s2 (.slice (some ⟨g, 0, none⟩) vs.length c) vs rs)) {j : Nat} {u : Value} (hj : vs[j]? = some u)
    (hg : W.grownBy W' u.ownBlock) : W'.cell? ⟨g, j, none⟩ = some u ∧ W'.frozen? ⟨g, j, none⟩ = false := by
  have hO : OwnRows W w.heap.size e1 e2 s2 (.slice (some ⟨g, 0, none⟩) vs.length c) vs rs := h.get k hk
  have hb := hg.block g (hO.own.lt g rfl).2 (fun e => hO.away j u hj g e.symm rfl)
  exact ⟨(World.cell?_of_block (a := ⟨g, j, none⟩) hb).trans (cell_rows h k hk hj), (World.frozen?_of_block (a := ⟨g, j, none⟩) hb).trans (free_rows h k hk j)⟩
theorem ownsRow_pos {W : World} {base : Nat} {e : TypeId} {size : Nat} {v : Value} {k : Nat} {xs : List Value} (h : W.ownsRow base e size v k xs) (hk : 0 < k) : ∃ g cap, v = .slice (some ⟨g, 0, none⟩) k cap := by
  rcases h.2 with ⟨_, h0⟩ | ⟨g, cap, _, rfl, _⟩
  · omega
  · exact ⟨g, cap, rfl⟩
theorem fit_to {m : Mach} {e : Int × Int} (h : fitsB m e = true) : e.1 = -1 ∨ (0 ≤ e.1 ∧ e.1 < m.rows.length) := by
  simp only [fitsB, Bool.or_eq_true, Bool.and_eq_true, decide_eq_true_eq, beq_iff_eq] at h
  omega
theorem row_eq {m : Mach} {s : Nat} (hs : s < m.rows.length) : m.row s = m.rows[s] := by unfold Mach.row; simp [List.getD, hs]
theorem leftF_bd (m : Mach) (hl : ∀ s, (m.row s).length ≤ 16) (s i : Nat) : 0 ≤ leftF m s i s ∧ leftF m s i s ≤ 16 := by
  unfold leftF
  rw [if_neg (by omega), if_pos rfl]
  have h1 : (sucE ((m.row s).take i)).length ≤ ((m.row s).take i).length := by unfold sucE; rw [List.length_map]; exact List.length_filter_le _ _
  have h2 := hl s
  have h3 : ((m.row s).take i).length ≤ (m.row s).length := List.length_take_le' _ _
  omega
theorem row_le {m : Mach} (hV : Valid m) (s : Nat) : (m.row s).length ≤ 16 := by
  by_cases hs : s < m.rows.length
  · rw [row_eq hs]
    have h1 := hV.len _ (List.getElem_mem hs)
    have h2 := hV.ins
    omega
  · unfold Mach.row; simp [List.getD, List.getElem?_eq_none (show m.rows.length ≤ s by omega)]
def leftA (m : Mach) (g : Nat) (s i : Nat) : Asn := .row 3 1 (.slice (some ⟨g, 0, none⟩) m.rows.length m.rows.length) m.rows.length (leftAt m s i)
def backA (m : Mach) (g : Nat) (vs : List Value) (s i : Nat) : Asn := .rows 37 3 1 (.slice (some ⟨g, 0, none⟩) vs.length m.rows.length) vs (backAt m s i)

theorem left_zero (m : Mach) : (List.replicate m.rows.length (Value.int .i64 0)) = leftAt m 0 0 := by
  unfold leftAt leftF
  apply List.ext_getElem
  · simp
  · intro i h1 h2
    simp only [List.getElem_replicate, List.getElem_map, List.getElem_range, Nat.not_lt_zero, if_false]
    split <;> simp [sucE]
theorem back_zero (m : Mach) : (List.replicate m.rows.length (0, ([] : List Value))) = backAt m 0 0 := by
  unfold backAt backF bkRow
  apply List.ext_getElem
  · simp
  · intro i h1 h2
    simp [sucE]

/-! ### The queue -/
def r0F (g : Gr) (s t : Nat) : Int := if t < s then (if g.goal t then 0 else -1) else 0
def r0At (g : Gr) (s : Nat) : List Value := (List.range g.n).map (fun t => .int .i64 (r0F g s t))
def bufOf (l : List Nat) : Array Value := (l.map (fun (t : Nat) => Value.int .i64 (t : Int))).toArray
def q0 (g : Gr) (s : Nat) : List Nat := (List.range s).filter g.goal
def qA (ch n : Nat) (l : List Nat) (cl : Bool) (s r : Nat) : Asn := .blk ch (.chan n (bufOf l) cl s r false)
def intsA (gr n : Nat) (l : List Int) : Asn := .row 3 1 (.slice (some ⟨gr, 0, none⟩) n n) n (l.map (.int .i64))
def rowA (gr n : Nat) (l : List Value) : Asn := .row 3 1 (.slice (some ⟨gr, 0, none⟩) n n) n l
theorem r0_zero (g : Gr) : List.replicate g.n (Value.int .i64 0) = r0At g 0 := by
  unfold r0At r0F
  apply List.ext_getElem <;> simp
theorem r0_set (g : Gr) (s : Nat) (x : Int) (h : (if g.goal s then 0 else -1) = x) : (r0At g s).set s (.int .i64 x) = r0At g (s + 1) := by
  have e : Value.int .i64 x = Value.int .i64 (r0F g (s + 1) s) := by unfold r0F; rw [if_pos (by omega), h]
  rw [e]
  refine map_set_range (fun t => Value.int .i64 (r0F g (s + 1) t)) _ _ s (fun t ht => ?_)
  unfold r0F
  by_cases h1 : t < s
  · rw [if_pos h1, if_pos (by omega)]
  · rw [if_neg h1, if_neg (by omega)]
theorem r0_end (g : Gr) : r0At g g.n = (bfs0 g).rank.map (.int .i64) := by
  unfold r0At bfs0 force0
  rw [List.map_map]
  apply List.map_congr_left
  intro t ht
  unfold r0F
  rw [if_pos (List.mem_range.1 ht)]; rfl
theorem r0_get {g : Gr} {s : Nat} (h : s < g.n) : ∃ x, (r0At g s)[s]? = some (.int .i64 x) := by unfold r0At; simp [h]
theorem q0_succ (g : Gr) (s : Nat) : q0 g (s + 1) = q0 g s ++ if g.goal s then [s] else [] := by
  unfold q0; rw [List.range_succ, List.filter_append]; simp [List.filter_cons]
theorem bufOf_push (l : List Nat) (t : Nat) : (bufOf l).push (.int .i64 (t : Int)) = bufOf (l ++ [t]) := by unfold bufOf; simp
theorem bufOf_size (l : List Nat) : (bufOf l).size = l.length := by unfold bufOf; simp
theorem bufOf_tail (t : Nat) (l : List Nat) : (bufOf (t :: l)).extract 1 (bufOf (t :: l)).size = bufOf l := by unfold bufOf; simp; exact List.take_of_length_le (by simp)
theorem bufOf_head (t : Nat) (l : List Nat) : (bufOf (t :: l)).getD 0 undef = .int .i64 (t : Int) := by unfold bufOf; simp
/-- The channel turns. -/
theorem OwnL.chan {w W : World} {L : List Asn} (h : OwnL w W L) (k : Nat) {c cap cap' s s' r r' : Nat} {buf buf' : Array Value} {cl cl' tm tm' : Bool} (hk : L[k]? = some (.blk c (.chan cap buf cl s r tm))) :
    OwnL w (W.setChan c cap' buf' cl' s' r' tm') (L.set k (.blk c (.chan cap' buf' cl' s' r' tm'))) := by
  have h1 : w.heap.size ≤ c ∧ W.heap[c]? = some (.chan cap buf cl s r tm) := h.get k hk
  refine h.step (A' := .blk c (.chan cap' buf' cl' s' r' tm')) k hk (row := some c) ⟨rfl, rfl, rfl, by simp [World.setChan], fun b hb hne => ?_⟩ (fun b hb => by cases hb; rfl) ⟨h1.1, heap_setChan W c cap' buf' cl' s' r' tm' (lt_of_block h1.2)⟩ (fun b hb => .inl hb)
  simp only [World.setChan]
  rw [Array.getElem?_setIfInBounds_ne (fun e => hne (by rw [e]))]
def chanLeft (ch n : Nat) (w : World) : Nat := match w.heap[ch]? with | some (.chan _ _ _ _ r _) => n - r | _ => 0

/-- What a visit has done when j of the edges are taken. -/
structure MidInv (g : Gr) (k s j : Nat) (b bj : Bf) : Prop where
  eq : bj = ((back g s).take j).foldl (touch g.turn (b.R s)) b
  ll : bj.left.length = g.n
  rl : bj.rank.length = g.n
  le : bj.out.length ≤ g.n
  ge : k + 1 ≤ bj.out.length
  drop : bj.out.drop (k + 1) = b.out.drop (k + 1) ++ bj.out.drop b.out.length
  rs : bj.R s = b.R s
  lb : ∀ t, t < g.n → 0 ≤ bj.L t ∧ bj.L t ≤ 16
  rb : 0 ≤ b.R s ∧ b.R s ≤ 64
theorem mid_inv {g : Gr} (hg : g.Ok) (h16 : ∀ t, (g.sc t).length ≤ 16) (h64 : g.n ≤ 64) {k s : Nat} {b : Bf} (h : BInv g k b) (hk : b.out[k]? = some s) (j : Nat) : MidInv g k s j b (((back g s).take j).foldl (touch g.turn (b.R s)) b) := by
  have hkl : k < b.out.length := (List.getElem?_eq_some_iff.1 hk).1
  have hsm : s ∈ b.out := List.mem_of_getElem? hk
  have hsn : s < g.n := h.lt s hsm
  have hd : 0 ≤ b.R s := (h.mem s hsn).2 hsm
  have hpos := h.pos k s hk
  have hle := out_le h
  have hst : s ∉ b.out.take k := fun hc => by
    obtain ⟨j, hj, hju⟩ := get_of_mem_take hc
    have := (List.getElem?_inj (List.getElem?_eq_some_iff.1 hju).1 h.nd).1 (hju.trans hk.symm)
    omega
  have hcnt : ∀ t, t < g.n → (((back g s).take j).count t : Int) ≤ b.L t := fun t ht => by
    have h1 : ((back g s).take j).count t ≤ (back g s).count t := (List.take_sublist j _).count_le t
    rw [count_back, if_pos ht] at h1
    rw [h.cnt t ht]
    have h2 : (g.sc t).count s ≤ (g.sc t).countP (fun u => !(b.out.take k).contains u) := by
      unfold List.count
      apply List.countP_mono_left
      intro x hx hxe
      have hxe : x = s := by simpa using hxe
      subst hxe
      simpa using hst
    omega
  obtain ⟨h1, h2, h3, new, h4, h5, h6, h7⟩ := touchAll g.turn (b.R s) hd g.n ((back g s).take j) b (fun t ht => (mem_back.1 (List.mem_of_mem_take ht)).1) h.ll h.rl hcnt
  have hnout : ∀ t ∈ new, t ∉ b.out := fun t ht hc => by
    obtain ⟨_, a2, _⟩ := (h6 t).1 ht
    have := (h.mem t (h.lt t hc)).2 hc; omega
  refine ⟨rfl, h1, h2, ?_, ?_, ?_, ?_, fun t ht => ?_, hd, by omega⟩
  · refine nodup_le (n := g.n) (by rw [h4]; exact List.nodup_append.2 ⟨h.nd, h5, fun a ha b hb e => hnout b hb (e ▸ ha)⟩) (fun u hu => ?_)
    rw [h4] at hu
    rcases List.mem_append.1 hu with hu | hu
    · exact h.lt u hu
    · exact (mem_back.1 (List.mem_of_mem_take ((h6 u).1 hu).1)).1
  · rw [h4, List.length_append]; omega
  · rw [h4, List.drop_append_of_le_length (by omega), List.drop_left]
  · rw [h7 s hsn, if_neg (fun hc => hnout s hc hsm)]
  · have h8 := hcnt t ht
    rw [h3 t ht]
    have h9 := h.cnt t ht
    have h10 : (g.sc t).countP (fun u => !(b.out.take k).contains u) ≤ 16 := Nat.le_trans (List.countP_le_length) (h16 t)
    omega
theorem leftAt_get {m : Mach} {s i t : Nat} (h : t < m.rows.length) : (leftAt m s i)[t]? = some (.int .i64 (leftF m s i t)) := by unfold leftAt; simp [h]
theorem backAt_get {m : Mach} {s i u : Nat} (h : u < m.rows.length) : (backAt m s i)[u]? = some (bkRow (backF m s i u)) := by unfold backAt; simp [h]

theorem int_eq {a b : Int} (h : a = b) : Value.int .i64 a = .int .i64 b := by rw [h]
theorem chanLeft_eq {w W : World} {L : List Asn} (h : OwnL w W L) {ch n : Nat} {l : List Nat} {cl : Bool} {s r : Nat} (hk : L[0]? = some (qA ch n l cl s r)) : chanLeft ch n W = n - r := by
  have h1 : w.heap.size ≤ ch ∧ W.heap[ch]? = some (.chan n (bufOf l) cl s r false) := h.get 0 hk
  unfold chanLeft; rw [h1.2]
theorem grOf_ok {m : Mach} (hV : Valid m) (ts ss : List Bool) : (grOf m ts ss).Ok := fun s hs u hu => by
  have hs : s < m.rows.length := hs
  obtain ⟨e, he, rfl⟩ := List.mem_map.1 hu
  have he2 := List.mem_filter.1 he
  have h1 : e ∈ m.rows[s] := row_eq hs ▸ he2.1
  have h2 := fit_to (hV.fit _ (List.getElem_mem hs) e h1)
  have h3 : e.1 ≠ -1 := by simpa using he2.2
  show e.1.toNat < m.rows.length
  omega
theorem grOf_16 {m : Mach} (hV : Valid m) (ts ss : List Bool) (t : Nat) : ((grOf m ts ss).sc t).length ≤ 16 := by
  have h1 : (sucE (m.row t)).length ≤ (m.row t).length := by unfold sucE; rw [List.length_map]; exact List.length_filter_le _ _
  exact Nat.le_trans h1 (row_le hV t)
theorem mid_succ {g : Gr} {s j : Nat} {b : Bf} (hj : j < (back g s).length) : ((back g s).take (j + 1)).foldl (touch g.turn (b.R s)) b = touch g.turn (b.R s) (((back g s).take j).foldl (touch g.turn (b.R s)) b) (back g s)[j] := by
  rw [List.take_succ_eq_append_getElem hj, List.foldl_append]; rfl
theorem ints_get {l : List Int} {t : Nat} (h : t < l.length) : (l.map (Value.int .i64))[t]? = some (.int .i64 (l.getD t 0)) := by simp [List.getD, h]

set_option maxRecDepth 100000 in
set_option maxHeartbeats 4000000 in
theorem ranks_any (w : World) (mv tv sv : Value) (m : Mach) (hm : MachV w mv m) (hV : Valid m) (ts ss : List Bool) (ct cs : Nat) (ht : BoolsC w tv ts ct) (hs : BoolsC w sv ss cs) (htl : ts.length = m.rows.length) (hsl : ss.length = m.rows.length) :
    Calls Try.prog 34 #[mv, tv, sv] w fun e w' => (∃ v, e = .returned v ∧ OwnI w w' v (forceL (grOf m ts ss) m.rows.length)) ∧ Ext w w' := by
  obtain ⟨rv, c, rfl, hr⟩ := hm
  obtain ⟨A, vs0, rfl, _, _, _, _, hrm⟩ := id hr
  unfold lenMax at hrm
  have hsz := hV.size
  obtain ⟨i3, hi3, hz3, hs3, hb3⟩ := info_parts int_info
  obtain ⟨i37, hi37, hz37, hs37, hb37⟩ := info_parts ints_info
  generalize hnn : m.rows.length = n at *
  obtain ⟨Sg, hsv, hsc, _⟩ := hs
  obtain ⟨Tg, htv, htc, _⟩ := ht
  rw [hsl] at hsv
  rw [htl] at htv
  subst hsv htv
  have HN := Lib.hid hnn
  have HV := Lib.hid hV
  have HTL := Lib.hid (And.intro htl hsl)
  clear hnn hV htl hsl
  have hn64 : n ≤ 64 := hsz.2
  have hn1 : 1 ≤ n := hsz.1
  have hnl : n ≤ maxLen := by unfold maxLen; omega
  clear hsz
  go_enter Try.func34, Try.ntmps34
  go_upto_region 2 with fail
  refine wp_named ?_
  intro W1 hW1
  have hE1 : Ext w W1 := by rw [hW1]; exact (Ext.refl _).alloc _
  have k2 : ∀ w', Ext W1 w' → w'.cell? ⟨w.heap.size, 2, none⟩ = some (.slice A n c) := fun w' h => h.cell (by rw [hW1]; simp [go_sem])
  clear hW1
  go_cut [8, 9] (fun x y wx => ∃ (g8 g9 : Nat) (vs : List Value), x = .slice (some ⟨g8, 0, none⟩) n n ∧ y = .slice (some ⟨g9, 0, none⟩) n n ∧ vs.length = n ∧ OwnL W1 wx [leftA m g8 0 0, backA m g9 vs 0 0])
  case first =>
    have hmi := mk_ints n (by omega)
    have hms := mk_slices n (by omega)
    have hL0 := left_zero m
    have hB0 := back_zero m
    rw [HN.out] at hL0 hB0
    have HLB := Lib.hid (And.intro hL0 hB0)
    clear hL0 hB0
    go_region_law (fail)
    · go_wp2
      go_meet
      refine ⟨_, _, List.replicate n (.slice none 0 0), rfl, rfl, by simp, ?_⟩
      have h1 := (OwnL.nil (Ext.refl W1)).add (alloc_ext W1 _) (A := .row 3 1 _ n (List.replicate n (.int .i64 0))) (own_new W1 (.int .i64 0) 3 n (by omega))
      have h2 := h1.add (alloc_ext _ _) (nils_own (e2 := 3) (s2 := 1) (own_new _ (.slice none 0 0) 37 n (by omega)))
      have h3 := (h2.trans (drew_ext _)).swap
      unfold leftA backA
      rw [HN.out, ← HLB.out.1, ← HLB.out.2]
      simpa using h3
    · go_wp2
      go_meet
      refine ⟨_, _, List.replicate n (.slice none 0 0), rfl, rfl, by simp, ?_⟩
      have h1 := (OwnL.nil (Ext.refl W1)).add (alloc_ext W1 _) (nils_own (e2 := 3) (s2 := 1) (own_new W1 (.slice none 0 0) 37 n (by omega)))
      have h2 := h1.add (alloc_ext _ _) (A := .row 3 1 _ n (List.replicate n (.int .i64 0))) (own_new _ (.int .i64 0) 3 n (by omega))
      have h3 := h2.trans (drew_ext _)
      unfold leftA backA
      rw [HN.out, ← HLB.out.1, ← HLB.out.2]
      simpa using h3
    --]c1
  case rest =>
    obtain ⟨g8, g9, vs, rfl, rfl, hvl, hO⟩ := hcut
    have hEc := hO.ext
    go_upto_block 0 with fail
    go_cut [] (fun wx => ∃ vs : List Value, vs.length = n ∧ OwnL W1 wx [leftA m g8 n 0, backA m g9 vs n 0])
    case first =>
      --[c2
      go_wp2
      go_loopw [31] (fun i wr => ∃ (s : Nat) (vs : List Value), s ≤ n ∧ i = .int .i64 s ∧ vs.length = n ∧ OwnL W1 wr [leftA m g8 s 0, backA m g9 vs s 0]) (fun i _ => n - (intOf i).toNat)
      case atStart => exact ⟨0, vs, by omega, rfl, hvl, hO⟩
      case round =>
        clear hO hvl
        obtain ⟨s, vs, hs, rfl, hvl, hO⟩ := hrel
        obtain ⟨W2, hW2⟩ : ∃ W, W = wr := ⟨_, rfl⟩; subst hW2
        have hE2 := hO.ext
        by_cases hlt : s < n
        · have hsm : s < m.rows.length := by rw [HN.out]; exact hlt
          obtain ⟨b, o, us, cs, hv, hb, c0, hes⟩ := (hr.ext hE1).at_ hsm
          obtain rfl : A = some ⟨b, o, none⟩ := by injection hv
          clear hv
          have hre := row_eq hsm
          obtain ⟨As, rfl, hcs, _, hms⟩ := hes
          unfold lenMax at hms
          rw [← hre] at hcs hms
          have hfit : ∀ e ∈ m.row s, fitsB m e = true := fun e he => HV.out.fit _ (List.getElem_mem hsm) e (hre ▸ he)
          have hl16 := row_le HV.out s
          rw [← hre] at c0
          have HF := Lib.hid hfit
          clear hre hfit
          have g0 : ∀ w', Ext W1 w' → w'.cell? ⟨b, o + s, none⟩ = some (.slice As (m.row s).length cs) := fun w' h => h.cell c0
          clear c0
          generalize hel : (m.row s).length = el at *
          have HEL := Lib.hid hel
          clear hel
          go_wp2
          go_loopw [38] (fun k wr => ∃ (i : Nat) (vs : List Value), i ≤ el ∧ k = .int .i64 i ∧ vs.length = n ∧ Ext W1 wr ∧ OwnL W1 wr [leftA m g8 s i, backA m g9 vs s i]) (fun k _ => el - (intOf k).toNat)
          case atStart => exact ⟨0, vs, by omega, rfl, hvl, hE2, hO⟩
          case round =>
            clear hO hvl
            obtain ⟨i, vs, hi, rfl, hvl, hE3, hO⟩ := hrel
            obtain ⟨W3, hW3⟩ : ∃ W, W = wr := ⟨_, rfl⟩; subst hW3
            by_cases hit : i < el
            · have hir : i < (m.row s).length := by rw [HEL.out]; exact hit
              obtain ⟨be, oe, rfl, hbe, d0, d1⟩ := hcs.at_edge hir
              have hfe := fit_to (HF.out _ (List.getElem_mem hir))
              have hln := leftAt_none (m := m) (s := s) hir
              have hls := leftAt_some (m := m) (s := s) hir
              have hbn := backAt_none (m := m) (s := s) hir
              have hbs := backAt_some (m := m) (s := s) hir
              have hlb := leftF_bd m (row_le HV.out) s i
              have hbl := fun u => backF_len m (row_le HV.out) u s i
              rcases hxe : (m.row s)[i] with ⟨x, y⟩
              rw [hxe] at d0 d1 hfe hln hls hbn hbs
              simp only at d0 d1 hfe hln hls hbn hbs
              have d0 : ∀ w', Ext W1 w' → w'.cell? ⟨be, oe + i * 2, none⟩ = some (.int .i64 x) := fun w' h => h.cell d0
              have d1 : ∀ w', Ext W1 w' → w'.cell? ⟨be, oe + i * 2 + 1, none⟩ = some (.int .i64 y) := fun w' h => h.cell d1
              have HLN := Lib.hid hln
              have HLS := Lib.hid hls
              have HBN := Lib.hid hbn
              have HBS := Lib.hid hbs
              have HBL := Lib.hid hbl
              clear hln hls hbn hbs hbl hxe
              go_upto_region 9 with fail
              refine wp_named ?_
              intro W4 hW4
              have hO4 : OwnL W1 W4 [.blk W3.heap.size (.cells #[.int .i64 x, .int .i64 y] 52 (0, 0)), leftA m g8 s i, backA m g9 vs s i] := by
                rw [hW4]; exact hO.add (alloc_ext _ _) (A := .blk W3.heap.size (.cells #[.int .i64 x, .int .i64 y] 52 (0, 0))) ⟨Nat.le_refl _, heap_alloc_new W3 _⟩
              clear hW4
              have hE4 := hO4.ext
              generalize W3.heap.size = bq at *
              have q0 : ∀ w', Ext W4 w' → w'.cell? ⟨bq, 0, none⟩ = some (.int .i64 x) := fun w' h => h.cell (cell_of_blk (hO4.get 0 rfl).2 0 rfl)
              have q00 := q0 W4 (Ext.refl _)
              by_cases hx : x = -1
              · have hx' : (x != -1) = false := by simp [hx]
                have HX := Lib.hid hx
                clear hx
                go_wp2
                go_roundw
                case rel =>
                  refine ⟨i + 1, vs, by omega, by go_num, hvl, hE4, ?_⟩
                  have h1 := hO4.drop
                  unfold leftA backA at h1 ⊢
                  rw [HLN.out HX.out, HBN.out HX.out]; exact h1
                case measure => simp [intOf]; omega
              · have hx' : (x != -1) = true := by simpa using hx
                have HX := Lib.hid hx
                clear hx
                obtain ⟨u, rfl⟩ := Int.eq_ofNat_of_zero_le (show 0 ≤ x by have := HX.out; omega)
                have hun : u < n := by have := HX.out; have := HN.out; omega
                have hunI : (u : Int) < (n : Int) := by omega
                have hlc := cell_own (j := s) hO4 1 rfl (leftAt_get hsm)
                have hlf : W4.frozen? ⟨g8, s, none⟩ = false := free_own hO4 1 rfl s
                generalize hF : leftF m s i s = F at *
                go_upto_region 11 with fail
                refine wp_named ?_
                intro W5 hW5
                have hO5 : OwnL W1 W5 [.blk bq (.cells #[.int .i64 u, .int .i64 y] 52 (0, 0)), leftA m g8 s (i + 1), backA m g9 vs s i] := by
                  have h1 := hO4.store 1 rfl s (.int .i64 (F + 1))
                  rw [HLS.out HX.out] at h1
                  rw [hW5]; exact h1
                clear hW5 hlc hlf q0 q00 hO4 hE4
                have hE5 := hO5.ext
                have q0 : ∀ w', Ext W5 w' → w'.cell? ⟨bq, 0, none⟩ = some (.int .i64 u) := fun w' h => h.cell (cell_of_blk (hO5.get 0 rfl).2 0 rfl)
                have hvu : u < vs.length := by omega
                have hx5 := List.getElem?_eq_getElem hvu
                have q1 : ∀ w', Ext W5 w' → w'.cell? ⟨g9, u, none⟩ = some vs[u] := fun w' h => h.cell (cell_rows hO5 2 rfl hx5)
                have hrr := backAt_get (m := m) (s := s) (i := i) (show u < m.rows.length by omega)
                have hown : W5.ownsRow W1.heap.size 3 1 vs[u] (backF m s i u).length (bkRow (backF m s i u)).2 := OwnRows.each (hO5.get 2 rfl) u _ _ hx5 hrr
                have hbl := HBL.out u
                have HRR := Lib.hid hrr
                have HX5 := Lib.hid hx5
                clear hrr hx5
                generalize vs[u] = xu at *
                obtain ⟨Ax, cx, rfl, _, _⟩ := cells_of_owns hown
                have hset := HBS.out HX.out
                simp only [Int.toNat_natCast] at hset
                have HSET := Lib.hid hset
                clear hset
                have hqx : some bq ≠ (Value.slice Ax (backF m s i u).length cx).ownBlock := fun e => by
                  have := (List.pairwise_cons.1 hO5.apart).1 _ (List.mem_cons_of_mem _ (List.mem_cons_self)) bq rfl
                  exact this (.inr ⟨_, List.mem_of_getElem? HX5.out, e.symm⟩)
                have q0d := q0 W5 (Ext.refl _)
                have q1d := q1 W5 (Ext.refl _)
                have q0a := q0 (W5.alloc (.cells #[.int .i64 s] 3)) (alloc_ext _ _)
                have q1a := q1 (W5.alloc (.cells #[.int .i64 s] 3)) (alloc_ext _ _)
                clear q0 q1
                go_region_law (refine step_append_own2 rfl _ _ 37 rfl W1.heap.size 3 i3 (.int .i64 0) 1 8 Try.underlying37 hi3 hz3 hs3 hb3 rfl (by decide) (.slice Ax (backF m s i u).length cx) (backF m s i u).length _ rfl (World.ownsRow.alloc hown _) ⟨W5.heap.size, 0, none⟩ 1 1 [.int .i64 s] rfl rfl (cells_new _ #[.int .i64 s] _) (one_int _) (by unfold maxLen; omega) (by omega) (by have := hE5.size; simp; omega) ?_; intro v6 w6 hown6 hg6 hb6; obtain ⟨g6, c6, rfl⟩ := ownsRow_pos hown6 (by omega); obtain ⟨q2, q3⟩ := rows_keep (hO5.trans ((Ext.refl W5).alloc _).drew) 2 rfl HX5.out hg6; have q06 := hg6.cell q0a hqx)
                all_goals
                  go_wp2
                  go_roundw
                  case rel =>
                    have h1 := (hO5.trans ((Ext.refl W5).alloc _).drew).appAt 2 rfl HX5.out HRR.out hg6 hown6 hb6
                    rw [HSET.out] at h1
                    exact ⟨i + 1, _, by omega, by go_num, by simpa using hvl, h1.ext, h1.drop⟩
                  case measure => simp [intOf]; omega
            · have hie : i = el := by omega
              subst hie
              go_wp2
              go_roundw
              case rel =>
                have h1 := leftAt_next m s
                have h2 := backAt_next m s
                rw [HEL.out] at h1 h2
                refine ⟨s + 1, vs, by omega, by go_num, hvl, ?_⟩
                unfold leftA backA at hO ⊢
                rw [h1, h2]; exact hO
              case measure => simp [intOf]; omega
        · have hse : s = n := by omega
          subst hse
          go_wp2
          go_meet
          exact ⟨vs, hvl, hO⟩
      --]c2
    case rest =>
      clear hO hvl vs
      obtain ⟨vs, hvl, hO⟩ := hcut
      have hmi := mk_ints n (by omega)
      have hmc := mk_chan n hn64
      go_upto_region 16 with fail
      refine wp_named ?_
      intro W5 hW5
      obtain ⟨g, hg⟩ : ∃ g, g = grOf m ts ss := ⟨_, rfl⟩
      have hgn : g.n = n := by rw [hg]; exact HN.out
      have HG := Lib.hid hg
      have HGN := Lib.hid hgn
      clear hg hgn
      have hO5 : OwnL W1 W5 [qA (wc.heap.size + 1) n [] false 0 0, rowA wc.heap.size n (List.replicate n (.int .i64 0)), leftA m g8 n 0, backA m g9 vs n 0] := by
        rw [hW5]
        have h1 := hO.add (alloc_ext wc _) (A := rowA wc.heap.size n (List.replicate n (.int .i64 0))) (own_new wc (.int .i64 0) 3 n (by omega))
        refine h1.add (alloc_ext _ _) (A := qA (wc.heap.size + 1) n [] false 0 0) ⟨by simp, ?_⟩
        have := heap_alloc_new (wc.alloc (Obj.cells (Array.replicate n (.int .i64 0)) 3)) (Obj.chan n #[] false 0 0 false)
        rw [World.size_alloc] at this
        exact this
      clear hW5 hO
      generalize wc.heap.size + 1 = ch at *
      generalize wc.heap.size = gr at *
      rw [show List.replicate n (Value.int .i64 0) = r0At g 0 by rw [← r0_zero, HGN.out], show ([] : List Nat) = q0 g 0 from rfl] at hO5
      have hbl : ∀ j, (hj : j < n) → ∃ b o x, Sg = some ⟨b, o, none⟩ ∧ x = g.goal j ∧ ∀ w', Ext W1 w' → w'.cell? ⟨b, o + j, none⟩ = some (.bool x) := fun j hj => by
        obtain ⟨b, o, rfl, _, h⟩ := (hsc.ext hE1).at_bool (show j < ss.length by rw [HTL.out.2]; exact hj)
        refine ⟨b, o, _, rfl, ?_, fun w' hw => hw.cell h⟩
        rw [HG.out]; simp [grOf, List.getD, show j < ss.length by rw [HTL.out.2]; exact hj]
      have HBL := Lib.hid hbl
      clear hbl
      have htb : ∀ j, (hj : j < n) → ∃ b o x, Tg = some ⟨b, o, none⟩ ∧ x = g.turn j ∧ ∀ w', Ext W1 w' → w'.cell? ⟨b, o + j, none⟩ = some (.bool x) := fun j hj => by
        obtain ⟨b, o, rfl, _, h⟩ := (htc.ext hE1).at_bool (show j < ts.length by rw [HTL.out.1]; exact hj)
        refine ⟨b, o, _, rfl, ?_, fun w' hw => hw.cell h⟩
        rw [HG.out]; simp [grOf, List.getD, show j < ts.length by rw [HTL.out.1]; exact hj]
      have HTB := Lib.hid htb
      clear htb
      have hE5 := hO5.ext
      go_upto_block 4 with fail
      go_cut [] (fun wx => OwnL W1 wx [qA ch n (q0 g n) false (q0 g n).length 0, rowA gr n (r0At g n), leftA m g8 n 0, backA m g9 vs n 0])
      case first =>
        --[c3
        go_wp2
        go_loopw [71] (fun i wr => ∃ s : Nat, s ≤ n ∧ i = .int .i64 s ∧ Ext W1 wr ∧ OwnL W1 wr [qA ch n (q0 g s) false (q0 g s).length 0, rowA gr n (r0At g s), leftA m g8 n 0, backA m g9 vs n 0]) (fun i _ => n - (intOf i).toNat)
        case atStart => exact ⟨0, by omega, rfl, hE5, hO5⟩
        case round =>
          clear hO5 hE5
          obtain ⟨s, hs, rfl, hE, hO⟩ := hrel
          obtain ⟨W6, hW6⟩ : ∃ W, W = wr := ⟨_, rfl⟩; subst hW6
          by_cases hlt : s < n
          · obtain ⟨bs, os, x, rfl, hxg, cb⟩ := HBL.out s hlt
            have HXG := Lib.hid hxg
            clear hxg
            obtain ⟨x0, hx0⟩ := r0_get (g := g) (s := s) (by rw [HGN.out]; exact hlt)
            have hc := cell_own hO 1 rfl hx0
            have hf := free_own hO 1 rfl s
            go_upto_region 20 with fail
            refine wp_named ?_
            intro W7 hW7
            have hO7 : OwnL W1 W7 [qA ch n (q0 g s) false (q0 g s).length 0, rowA gr n ((r0At g s).set s (.int .i64 (-1))), leftA m g8 n 0, backA m g9 vs n 0] := by
              rw [hW7]; exact hO.store 1 rfl s (.int .i64 (-1))
            have hE7 : Ext W1 W7 := hO7.ext
            clear hW7 hc hf
            cases x with
            | false =>
              rw [r0_set g s (-1) (by rw [← HXG.out]; rfl)] at hO7
              have hq : q0 g (s + 1) = q0 g s := by rw [q0_succ, ← HXG.out]; simp
              have HQ := Lib.hid hq
              clear hq
              go_wp2
              go_roundw
              case rel => exact ⟨s + 1, by omega, by go_num, hE7, by rw [HQ.out]; exact hO7⟩
              case measure => simp [intOf]; omega
            | true =>
              have hs1 : s < (r0At g s).length := by unfold r0At; rw [List.length_map, List.length_range, HGN.out]; exact hlt
              have hx1 : ((r0At g s).set s (.int .i64 (-1)))[s]? = some (.int .i64 (-1)) := by rw [List.getElem?_set_self hs1]
              have hc := cell_own hO7 1 rfl hx1
              have hf := free_own hO7 1 rfl s
              go_upto_region 22 with fail
              refine wp_named ?_
              intro W8 hW8
              have hO8 : OwnL W1 W8 [qA ch n (q0 g s) false (q0 g s).length 0, rowA gr n (((r0At g s).set s (.int .i64 (-1))).set s (.int .i64 0)), leftA m g8 n 0, backA m g9 vs n 0] := by
                rw [hW8]; exact hO7.store 1 rfl s (.int .i64 0)
              rw [List.set_set, r0_set g s 0 (by rw [← HXG.out]; rfl)] at hO8
              have hq : q0 g (s + 1) = q0 g s ++ [s] := by rw [q0_succ, ← HXG.out]; simp
              have HQ := Lib.hid hq
              have hroom : (q0 g s).length < n := by
                have h1 : (q0 g s).length ≤ s := by unfold q0; have := List.length_filter_le g.goal (List.range s); simpa using this
                omega
              clear hW8 hc hf hq hO7 hE7
              have hch : W8.heap[ch]? = some (.chan n (bufOf (q0 g s)) false (q0 g s).length 0 false) := (hO8.get 0 rfl).2
              refine wp_region_to ?_
              refine opsTo_val (v := .chan (some ch)) rfl (by simp [Region.wanted]) (by simp [go_sem]; rfl) ?_
              refine opsTo_val (v := .int .i64 s) rfl (by simp [Region.wanted]) (by simp [go_sem, Act.put]; rfl) ?_
              refine opsTo_send (c := ch) (v := .int .i64 s) (z' := .tuple #[]) rfl (by simp [Region.wanted]) (by simp [go_sem, Act.put, scase]) hch (by rw [bufOf_size]; exact hroom) ?_
              refine opsTo_nil ?_
              simp only [Act.put, List.setIfInBounds_toArray, List.set_cons_zero, List.set_cons_succ]
              have hO9 : OwnL W1 (W8.setChan ch n ((bufOf (q0 g s)).push (.int .i64 s)) false ((q0 g s).length + 1) 0 false) [qA ch n (q0 g (s + 1)) false (q0 g (s + 1)).length 0, rowA gr n (r0At g (s + 1)), leftA m g8 n 0, backA m g9 vs n 0] := by
                have h1 := hO8.chan 0 rfl (c := ch) (cap' := n) (buf' := (bufOf (q0 g s)).push (.int .i64 s)) (cl' := false) (s' := (q0 g s).length + 1) (r' := 0) (tm' := false)
                rw [bufOf_push] at h1 ⊢
                rw [HQ.out]
                simpa [qA] using h1
              generalize W8.setChan ch n ((bufOf (q0 g s)).push (.int .i64 s)) false ((q0 g s).length + 1) 0 false = W9 at *
              clear hch hO8
              have hE9 := hO9.ext
              go_wp2
              go_roundw
              case rel => exact ⟨s + 1, by omega, by go_num, hE9, hO9⟩
              case measure => simp [intOf]; omega
          · have hse : s = n := by omega
            subst hse
            go_wp2
            go_meet
            exact hO
        --]c3
      case rest =>
        clear hO5 hE5
        have hO : OwnL W1 wc [qA ch n ((bfs0 g).out.drop 0) false (bfs0 g).out.length 0, intsA gr n (bfs0 g).rank, intsA g8 n (bfs0 g).left, backA m g9 vs n 0] := by
          have h1 := hcut
          have e1 := r0_end g
          have e2 := leftAt_end m ts ss
          rw [← HG.out] at e2
          rw [HN.out] at e2
          rw [HGN.out] at e1
          have e3 : q0 g n = (bfs0 g).out := by unfold q0 bfs0; rw [HGN.out]
          unfold leftA at h1
          rw [e1, e2, e3, HN.out] at h1
          exact h1
        have hok : g.Ok := by rw [HG.out]; exact grOf_ok HV.out ts ss
        have hg16 : ∀ t, (g.sc t).length ≤ 16 := by rw [HG.out]; exact grOf_16 HV.out ts ss
        have hI := binv0 g hok
        have HM := Lib.hid (And.intro hok hg16)
        clear hok hg16 hcut
        have hbk : ∀ u, u < n → (backAt m n 0)[u]? = some (bkRow (back g u)) := fun u hu => by
          have := backAt_end m ts ss
          rw [HN.out, ← HG.out] at this
          rw [this]; simp [hu]
        have HBK := Lib.hid hbk
        clear hbk
        have hble := out_le hI
        rw [HGN.out] at hble
        generalize hb0 : bfs0 g = b0 at *
        clear hb0
        have hch : wc.heap[ch]? = some (.chan n (bufOf (b0.out.drop 0)) false b0.out.length 0 false) := (hO.get 0 rfl).2
        have hlen : (Builtin.len_ #[93] 3 #[.chan (some ch)]).run Try.prog wc = .ok (.int .i64 (b0.out.length : Int)) wc := by
          have := run_len_chan (P := Try.prog) 93 3 Try.underlying93 hch
          rw [bufOf_size, List.drop_zero] at this
          exact this
        have hcl : (Builtin.close_ #[93] 0 #[.chan (some ch)]).run Try.prog wc = .ok (.tuple #[]) (wc.setChan ch n (bufOf (b0.out.drop 0)) true b0.out.length 0 false) := run_close_open #[93] 0 hch
        go_upto_if 90 with fail
        go_cut [] (fun wx => OwnL W1 wx [qA ch n (b0.out.drop 0) (decide (b0.out.length = 0)) b0.out.length 0, intsA gr n b0.rank, intsA g8 n b0.left, backA m g9 vs n 0])
        case first =>
          --[c4
          by_cases hz : b0.out.length = 0
          · have hz1 : ((b0.out.length : Int) == 0) = true := by simp [hz]
            have HZ := Lib.hid hz
            clear hz
            go_wp2
            go_meet
            have h1 := hO.chan 0 rfl (c := ch) (cap' := n) (buf' := bufOf (b0.out.drop 0)) (cl' := true) (s' := b0.out.length) (r' := 0) (tm' := false)
            rw [show decide (b0.out.length = 0) = true by simp [HZ.out]]
            exact h1
          · have hz1 : ((b0.out.length : Int) == 0) = false := by rw [beq_eq_false_iff_ne]; omega
            have HZ := Lib.hid hz
            clear hz
            go_wp2
            go_meet
            rw [show decide (b0.out.length = 0) = false by simpa using HZ.out]
            exact hO
          --]c4
        case rest =>
          clear hch hlen hcl hO
          have hO := hcut
          clear hcut
          have hE := hO.ext
          go_wp2
          go_loopw [17] (fun mv wr => ∃ (k : Nat) (b : Bf) (M : Int), mv = .int .i64 M ∧ Hid (M = (b.out.length : Int) - k) ∧ k ≤ b.out.length ∧ BInv g k b ∧ Ext W1 wr ∧ OwnL W1 wr [qA ch n (b.out.drop k) (decide (b.out.length = k)) b.out.length k, intsA gr n b.rank, intsA g8 n b.left, backA m g9 vs n 0]) (fun _ wr => chanLeft ch n wr)
          case atStart => exact ⟨0, b0, (b0.out.length : Int), rfl, (by show (b0.out.length : Int) = (b0.out.length : Int) - ((0 : Nat) : Int); omega), by omega, hI, hE, hO⟩
          case round =>
            clear hO hE hI hble
            obtain ⟨k, b, M, rfl, hM, hkb, hI, hE, hO⟩ := hrel
            obtain ⟨W6, hW6⟩ : ∃ W, W = wr := ⟨_, rfl⟩; subst hW6
            have hble := out_le hI
            rw [HGN.out] at hble
            have HW0 := Lib.hid (chanLeft_eq hO rfl)
            by_cases hkl : k < b.out.length
            · --[c5
              have hgs := List.getElem?_eq_getElem hkl
              have hdr := List.drop_eq_getElem_cons hkl
              generalize hs0 : b.out[k] = s0 at *
              have hs0n : s0 < n := by have := hI.lt s0 (List.mem_of_getElem? hgs); rw [HGN.out] at this; exact this
              have hmid := fun j => mid_inv HM.out.1 HM.out.2 (by rw [HGN.out]; exact hn64) hI hgs j
              have hmsu := fun j => mid_succ (g := g) (s := s0) (j := j) (b := b)
              have hstep := binv_step HM.out.1 hI hgs
              rw [show decide (b.out.length = k) = false by simp; omega, hdr] at hO
              have hch : W6.heap[ch]? = some (.chan n (bufOf (s0 :: b.out.drop (k + 1))) false b.out.length k false) := (hO.get 0 rfl).2
              have HMID := Lib.hid hmid
              have HMSU := Lib.hid hmsu
              have HSTEP := Lib.hid hstep
              have HGS := Lib.hid hgs
              clear hmid hmsu hstep hgs hdr hs0
              have hO6 : OwnL W1 (W6.setChan ch n (bufOf (b.out.drop (k + 1))) false b.out.length (k + 1) false) [qA ch n (b.out.drop (k + 1)) false b.out.length (k + 1), intsA gr n b.rank, intsA g8 n b.left, backA m g9 vs n 0] :=
                hO.chan 0 rfl (c := ch) (cap' := n) (buf' := bufOf (b.out.drop (k + 1))) (cl' := false) (s' := b.out.length) (r' := k + 1) (tm' := false)
              have hbt := bufOf_tail s0 (b.out.drop (k + 1))
              have hbh := bufOf_head s0 (b.out.drop (k + 1))
              have hbz : 0 < (bufOf (s0 :: b.out.drop (k + 1))).size := by rw [bufOf_size]; simp
              go_upto_region 28 with fail
              refine wp_region_to ?_
              refine opsTo_recv true (c := ch) (z := .int .i64 0) rfl (by simp [Region.wanted]) (by simp [go_sem, Act.put, rcase]) hch hbz ?_
              rw [hbt, hbh]
              refine opsTo_val (v := .bool true) rfl (by simp [Region.wanted]) (by simp [go_sem, Act.put, got]; rfl) ?_
              refine opsTo_nil ?_
              simp only [Act.put, List.setIfInBounds_toArray, List.set_cons_zero, List.set_cons_succ, got, if_true]
              clear hbt hbh hbz hch hO
              generalize W6.setChan ch n (bufOf (b.out.drop (k + 1))) false b.out.length (k + 1) false = W7 at *
              have hE7 := hO6.ext
              have hL0 := hI.sorted
              clear hL0
              have hs0v : s0 < vs.length := by omega
              have hx7 := List.getElem?_eq_getElem hs0v
              have q1 : ∀ w', Ext W7 w' → w'.cell? ⟨g9, s0, none⟩ = some vs[s0] := fun w' h => h.cell (cell_rows hO6 3 rfl hx7)
              have hown : W7.ownsRow W1.heap.size 3 1 vs[s0] (back g s0).length (bkRow (back g s0)).2 := OwnRows.each (hO6.get 3 rfl) s0 _ _ hx7 (HBK.out s0 hs0n)
              have HX7 := Lib.hid hx7
              clear hx7
              generalize vs[s0] = xu at *
              obtain ⟨Ax, cx, rfl, _, _⟩ := cells_of_owns hown
              have hLL : (back g s0).length ≤ 2000 := by
                have h1 := backF_len m (row_le HV.out) s0 n 0
                have h2 := HBK.out s0 hs0n
                rw [backAt_get (by rw [HN.out]; exact hs0n)] at h2
                have h3 : (backF m n 0 s0).length = (back g s0).length := by
                  have := Option.some.inj h2
                  exact congrArg Prod.fst this
                omega
              obtain ⟨L, hLe⟩ : ∃ L, L = (back g s0).length := ⟨_, rfl⟩
              rw [← hLe] at q1 hown hLL HX7
              have HLE := Lib.hid hLe
              clear hLe
              have q10 := q1 W7 (Ext.refl _)
              have hM0 := hM.out
              have hMb : 1 ≤ M ∧ M ≤ 64 := by omega
              clear hM0
              go_wp2
              go_loopw [101, 17] (fun jv mv wr => ∃ (j : Nat) (bj : Bf) (M : Int), j ≤ L ∧ jv = .int .i64 j ∧ mv = .int .i64 M ∧ Hid (M = (bj.out.length : Int) - k) ∧ MidInv g k s0 j b bj ∧ Ext W1 wr ∧ OwnL W1 wr [qA ch n (bj.out.drop (k + 1)) false bj.out.length (k + 1), intsA gr n bj.rank, intsA g8 n bj.left, backA m g9 vs n 0]) (fun jv _ _ => L - (intOf jv).toNat)
              case atStart => exact ⟨0, b, M, by omega, rfl, rfl, hM, HMID.out 0, hE7, hO6⟩
              case round =>
                clear hM hMb hE7 hO6 q1 q10 hown
                obtain ⟨j, bj, M2, hj, rfl, rfl, hM, hMid, hE, hO⟩ := hrel
                obtain ⟨W8, hW8⟩ : ∃ W, W = wr := ⟨_, rfl⟩; subst hW8
                have hM0 := hM.out
                have hge := hMid.ge
                have hle := hMid.le
                rw [HGN.out] at hle
                have hMb : 1 ≤ M2 ∧ M2 ≤ 64 := by omega
                clear hM0
                by_cases hjL : j < L
                · have hjb : j < (back g s0).length := by rw [← HLE.out]; exact hjL
                  have hown : W8.ownsRow W1.heap.size 3 1 (.slice Ax L cx) (back g s0).length (bkRow (back g s0)).2 := OwnRows.each (hO.get 3 rfl) s0 _ _ HX7.out (HBK.out s0 hs0n)
                  obtain ⟨gx, cx', hv⟩ := ownsRow_pos hown (by omega)
                  obtain rfl : Ax = some ⟨gx, 0, none⟩ := by injection hv
                  clear hv cx'
                  have ct := hown.cells (g := gx) rfl j (.int .i64 ((back g s0)[j] : Int)) (by simp [bkRow, hjb])
                  rw [Addr.add_lit, Nat.zero_add] at ct
                  have htn : (back g s0)[j] < n := by have := (mem_back.1 (List.getElem_mem hjb)).1; rw [HGN.out] at this; exact this
                  have hnext := hMid.eq ▸ HMSU.out j hjb
                  have hmn := HMID.out (j + 1)
                  rw [hnext] at hmn
                  have HNX := Lib.hid hmn
                  clear hnext hmn hown
                  generalize (back g s0)[j] = t at *
                  have htg : t < g.n := by rw [HGN.out]; exact htn
                  have hlb := hMid.lb t htg
                  have hrb := hMid.rb
                  have hrs := hMid.rs
                  have hll := hMid.ll
                  have hrl := hMid.rl
                  rw [HGN.out] at hll hrl
                  have htI : (t : Int) < (n : Int) := by omega
                  have hs0I : (s0 : Int) < (n : Int) := by omega
                  have cl0 := cell_own (j := t) hO 2 rfl (ints_get (by omega))
                  have cf0 := free_own (e := 3) hO 2 rfl t
                  have eL : bj.left.getD t 0 = bj.L t := rfl
                  rw [eL] at cl0
                  clear eL
                  have HRS := Lib.hid hrs
                  have HLL := Lib.hid (And.intro hll hrl)
                  clear hrs hll hrl
                  generalize hLt : bj.L t = Lt at *
                  have HLT := Lib.hid hLt
                  clear hLt
                  go_upto_region 34 with fail
                  refine wp_named ?_
                  intro W9 hW9
                  have hO9 : OwnL W1 W9 [qA ch n (bj.out.drop (k + 1)) false bj.out.length (k + 1), intsA gr n bj.rank, intsA g8 n (bj.left.set t (Lt - 1)), backA m g9 vs n 0] := by
                    have h1 := hO.store 2 rfl t (.int .i64 (Lt - 1))
                    rw [← List.map_set] at h1
                    rw [hW9]; exact h1
                  clear hW9 ct cl0 cf0
                  have hE9 := hO9.ext
                  have cr := cell_own (j := t) hO9 1 rfl (ints_get (by rw [HLL.out.2]; omega))
                  have cl := cell_own (j := t) hO9 2 rfl (ints_get (by rw [List.length_set, HLL.out.1]; omega))
                  rw [getD_set _ _ _ _ _ (by rw [HLL.out.1]; omega), if_pos rfl] at cl
                  have eR : bj.rank.getD t 0 = bj.R t := rfl
                  rw [eR] at cr
                  obtain ⟨bt, ot, x, rfl, hxg, cb⟩ := HTB.out t htn
                  have HXG := Lib.hid hxg
                  clear eR hxg
                  obtain ⟨C, hC⟩ : ∃ C, C = decide (bj.R t = -1 ∧ (g.turn t = true ∨ Lt - 1 = 0)) := ⟨_, rfl⟩
                  have HC := Lib.hid hC
                  clear hC
                  go_cut [128] (fun y wx => y = .bool C ∧ W9 = wx)
                  case first =>
                    generalize bj.R t = Rt at *
                    have HC2 : Hid (C = ((Rt == -1) && (x || (Lt - 1 == 0)))) := by
                      show _ = _
                      rw [HC.out, HXG.out, Bool.eq_iff_iff]
                      simp
                    cases hb1 : (Rt == -1) <;> cases x <;> cases hb2 : (Lt - 1 == 0) <;>
                      (go_wp2; go_meet; exact ⟨by rw [HC2.out, hb1, hb2]; rfl, rfl⟩)
                  case rest =>
                    obtain ⟨rfl, rfl⟩ := hcut
                    clear cl cr cb
                    have hNX := HNX.out
                    cases C with
                    | false =>
                      have ht : touch g.turn (b.R s0) bj t = { left := bj.left.set t (Lt - 1), rank := bj.rank, out := bj.out } := by
                        unfold touch
                        rw [HLT.out, if_neg (fun hcc => by have := HC.out; rw [decide_eq_true hcc] at this; cases this)]
                      rw [ht] at hNX
                      have HNX2 := Lib.hid hNX
                      clear ht hNX
                      go_wp2
                      go_roundw
                      case rel => exact ⟨j + 1, { left := bj.left.set t (Lt - 1), rank := bj.rank, out := bj.out }, _, by omega, by go_num, rfl, hM, HNX2.out, hE9, hO9⟩
                      case measure => simp [intOf]; omega
                    | true =>
                      have hcc := of_decide_eq_true HC.out.symm
                      have ht : touch g.turn (b.R s0) bj t = { left := bj.left.set t (Lt - 1), rank := bj.rank.set t (b.R s0 + 1), out := bj.out ++ [t] } := by
                        unfold touch
                        rw [HLT.out, if_pos hcc]
                      rw [ht] at hNX
                      have hle2 := hNX.le
                      have hdr := hNX.drop
                      simp only [List.length_append, List.length_cons, List.length_nil, HGN.out] at hle2
                      have HNX2 := Lib.hid hNX
                      clear ht hNX hcc hdr
                      have cs := cell_own (j := s0) hO9 1 rfl (ints_get (by rw [HLL.out.2]; omega))
                      have eS : bj.rank.getD s0 0 = b.R s0 := HRS.out
                      rw [eS] at cs
                      clear eS
                      generalize hD : b.R s0 = D at *
                      have HD := Lib.hid hD
                      clear hD
                      have crt := cell_own (j := t) hO9 1 rfl (ints_get (by rw [HLL.out.2]; omega))
                      have frt := free_own (e := 3) hO9 1 rfl t
                      go_upto_region 36 with fail
                      refine wp_named ?_
                      intro WA hWA
                      have hOA : OwnL W1 WA [qA ch n (bj.out.drop (k + 1)) false bj.out.length (k + 1), intsA gr n (bj.rank.set t (D + 1)), intsA g8 n (bj.left.set t (Lt - 1)), backA m g9 vs n 0] := by
                        have h1 := hO9.store 1 rfl t (.int .i64 (D + 1))
                        rw [← List.map_set] at h1
                        rw [hWA]; exact h1
                      clear hWA cs crt frt
                      have hch : WA.heap[ch]? = some (.chan n (bufOf (bj.out.drop (k + 1))) false bj.out.length (k + 1) false) := (hOA.get 0 rfl).2
                      have hroom : (bufOf (bj.out.drop (k + 1))).size < n := by rw [bufOf_size, List.length_drop]; omega
                      refine wp_region_to ?_
                      refine opsTo_val (v := .chan (some ch)) rfl (by simp [Region.wanted]) (by simp [go_sem]; rfl) ?_
                      refine opsTo_val (v := .int .i64 t) rfl (by simp [Region.wanted]) (by simp [go_sem, Act.put]; rfl) ?_
                      refine opsTo_send (c := ch) (v := .int .i64 t) (z' := .tuple #[]) rfl (by simp [Region.wanted]) (by simp [go_sem, Act.put, scase]) hch hroom ?_
                      refine opsTo_nil ?_
                      simp only [Act.put, List.setIfInBounds_toArray, List.set_cons_zero, List.set_cons_succ]
                      have hOB : OwnL W1 (WA.setChan ch n ((bufOf (bj.out.drop (k + 1))).push (.int .i64 t)) false (bj.out.length + 1) (k + 1) false) [qA ch n ((bj.out ++ [t]).drop (k + 1)) false (bj.out ++ [t]).length (k + 1), intsA gr n (bj.rank.set t (D + 1)), intsA g8 n (bj.left.set t (Lt - 1)), backA m g9 vs n 0] := by
                        have h1 := hOA.chan 0 rfl (c := ch) (cap' := n) (buf' := (bufOf (bj.out.drop (k + 1))).push (.int .i64 t)) (cl' := false) (s' := bj.out.length + 1) (r' := k + 1) (tm' := false)
                        rw [bufOf_push] at h1 ⊢
                        rw [List.drop_append_of_le_length (by omega), List.length_append]
                        exact h1
                      generalize WA.setChan ch n ((bufOf (bj.out.drop (k + 1))).push (.int .i64 t)) false (bj.out.length + 1) (k + 1) false = WB at *
                      clear hch hroom hOA
                      have hEB := hOB.ext
                      have hM1 : Hid (M2 + 1 = ((bj.out ++ [t]).length : Int) - k) := by
                        show _ = _
                        have := hM.out
                        rw [List.length_append, List.length_cons, List.length_nil]; omega
                      go_wp2
                      go_roundw
                      case rel => exact ⟨j + 1, { left := bj.left.set t (Lt - 1), rank := bj.rank.set t (D + 1), out := bj.out ++ [t] }, _, by omega, by go_num, rfl, hM1, HNX2.out, hEB, hOB⟩
                      case measure => simp [intOf]; omega
                · have hje : j = (back g s0).length := by have := HLE.out; omega
                  have hvis : bj = visit g b s0 := by
                    rw [hMid.eq, hje, List.take_length]; rfl
                  have hst := HSTEP.out
                  rw [← hvis] at hst
                  have hch : W8.heap[ch]? = some (.chan n (bufOf (bj.out.drop (k + 1))) false bj.out.length (k + 1) false) := (hO.get 0 rfl).2
                  have hcl : (Builtin.close_ #[93] 0 #[.chan (some ch)]).run Try.prog W8 = .ok (.tuple #[]) (W8.setChan ch n (bufOf (bj.out.drop (k + 1))) true bj.out.length (k + 1) false) := run_close_open #[93] 0 hch
                  have hcl0 := chanLeft_eq hO rfl
                  have HST := Lib.hid hst
                  have hOc := hO.chan 0 rfl (c := ch) (cap' := n) (buf' := bufOf (bj.out.drop (k + 1))) (cl' := true) (s' := bj.out.length) (r' := k + 1) (tm' := false)
                  have hcl1 := chanLeft_eq hOc (ch := ch) (n := n) (l := bj.out.drop (k + 1)) (cl := true) (s := bj.out.length) (r := k + 1) rfl
                  have HOC := Lib.hid hOc
                  have HCL := Lib.hid (And.intro hcl0 hcl1)
                  clear hst hvis hje hch hOc hcl0 hcl1
                  by_cases hz : M2 - 1 = 0
                  · have hz1 : ((M2 - 1 : Int) == 0) = true := by simp [hz]
                    have HZ := Lib.hid hz
                    clear hz
                    go_wp2
                    go_roundw
                    case rel =>
                      have hl : bj.out.length = k + 1 := by have := hM.out; have := HZ.out; omega
                      refine ⟨k + 1, bj, _, rfl, ?_, hge, HST.out, HOC.out.ext, ?_⟩
                      · show _ = _
                        have := hM.out; omega
                      · rw [show decide (bj.out.length = k + 1) = true by simp [hl]]; exact HOC.out
                    case measure =>
                      rw [HCL.out.2, HW0.out]; omega
                  · have hz1 : ((M2 - 1 : Int) == 0) = false := by simpa using hz
                    have HZ := Lib.hid hz
                    clear hz
                    go_wp2
                    go_roundw
                    case rel =>
                      have hl : bj.out.length ≠ k + 1 := by have := hM.out; have := HZ.out; omega
                      refine ⟨k + 1, bj, _, rfl, ?_, hge, HST.out, hE, ?_⟩
                      · show _ = _
                        have := hM.out; omega
                      · rw [show decide (bj.out.length = k + 1) = false by simpa using hl]; exact hO
                    case measure =>
                      rw [HCL.out.1, HW0.out]; omega
              --]c5
            · have hke : b.out.length = k := by omega
              have hch : W6.heap[ch]? = some (.chan n #[] true b.out.length k false) := by
                have h1 : W1.heap.size ≤ ch ∧ W6.heap[ch]? = some (.chan n (bufOf (b.out.drop k)) (decide (b.out.length = k)) b.out.length k false) := hO.get 0 rfl
                rw [List.drop_eq_nil_of_le (by omega), show decide (b.out.length = k) = true by simp [hke]] at h1
                exact h1.2
              go_upto_region 28 with fail
              refine wp_region_to ?_
              refine opsTo_recv_shut true (c := ch) (z := .int .i64 0) rfl (by simp [Region.wanted]) (by simp [go_sem, Act.put, rcase]) hch ?_
              refine opsTo_val (v := .bool false) rfl (by simp [Region.wanted]) (by simp [go_sem, Act.put, got]; rfl) ?_
              refine opsTo_nil ?_
              simp only [Act.put, List.setIfInBounds_toArray, List.set_cons_zero, List.set_cons_succ, got, if_true]
              have hfo := bfs_force HM.out.1 hI (by omega)
              have hft : OwnI w W6 (.slice (some ⟨gr, 0, none⟩) n n) b.rank := by
                have h1 : b.rank.length = n := by rw [hI.rl, HGN.out]
                refine ⟨_, by rw [h1], ?_⟩
                rw [h1]
                exact own_mono (hO.get 1 rfl) hE1.size
              rw [hfo, HGN.out, HG.out] at hft
              have HFT := Lib.hid hft
              clear hfo hft hke hch
              go_wp2
              go_ret
              exact ⟨⟨_, rfl, HFT.out⟩, hE1.trans hE⟩
#print axioms ranks_any
end Go.Proofs.Yteadkafeabhhhaa
