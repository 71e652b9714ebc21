/- Sends and receives of one goroutine that never waits, for the walk: laws of a region that holds one. trace 12. ref27.Observe 18. ref27.Accepts 19. A copy of a list with more behind it, made in a region that draws its order. Lean: what After and Observe answer at what the document names. IocosAfter 3. -/
import Derived.Test.YtamodjlifpjaoaaDoorGA
import Derived.Conc.LoneCalls
import Derived.Conc.LoneSelectN
import Derived.Test.YtamodjlifpjaoaaDoorGI
import Derived.Test.YtamodjlifpjaoaaDoorGR
import Derived.Test.YtamodjlifpjaoaaDoorGL
namespace Go.Proofs.YtamodjlifpjaoaaDoor
open Go.RowKit Go.Conc
set_option linter.unusedVariables false
set_option linter.unusedSimpArgs false

section
variable {P : Program} {ops : Array Oper} {Q : Exit → Act → World → Prop} {a : Act} {w w' : World} {l : List Nat} {i : Nat} {o : Oper}

/-- From the operations l of a region on. -/
def opsTo (P : Program) (ops : Array Oper) (Q : Exit → Act → World → Prop) (l : List Nat) (a : Act) (w : World) : Prop :=
  ∀ (b : Frame) (k : List Item) (cs : List Frame), ∃ e a' w', Q e a' w' ∧ Arrives P (lone (b.at a (.inRegion ops l :: k)) cs w) b k cs e a' w'

theorem wp_region_to {id : Nat} (h : opsTo P ops Q (List.range ops.size) a w) : (Code.region id ops false).wp P Q a w :=
  fun b k cs => let ⟨e, a', w', q, r⟩ := h b k cs; ⟨e, a', w', q, .of_steps (.one step_region) r⟩
theorem opsTo_nil (h : Q .normal a w) : opsTo P ops Q [] a w := fun b k cs => ⟨.normal, a, w, h, .one step_region_end⟩

theorem at_finish (ho : ops[i]? = some o) (b : Frame) (k : List Item) (v : Value) : (b.at a (.inRegion ops (i :: l) :: k)).finish v = b.at (a.put o.dst v) (.inRegion ops l :: k) := by
  rw [Frame.finish_at, ho]; rfl
theorem opsTo_val {v : Value} (ho : ops[i]? = some o) (hw : Region.wanted o (yielded ops a.tmps) = true) (hr : (execOp a.eval o).run P w = .ok (.value v) w')
    (h : opsTo P ops Q l (a.put o.dst v) w') : opsTo P ops Q (i :: l) a w := fun b k cs => by
  obtain ⟨e, a', w₂, hq, harr⟩ := h b k cs
  refine ⟨e, a', w₂, hq, .of_steps (.one (step_lone_go ?_)) harr⟩
  rw [stepG_op ho hw, ← at_finish ho]
  simp [stepG.apply, hr]

theorem stepG_comm_any {b : Frame} {k : List Item} {cs : List Frame} {cases : Array CommCase} {blocking : Bool} {shape : CommShape} (ho : ops[i]? = some o) (hw : Region.wanted o (yielded ops a.tmps) = true)
    (hr : (execOp a.eval o).run P w = .ok (.comm cases blocking shape) w') :
    ∃ es, stepG P true (G (b.at a (.inRegion ops (i :: l) :: k)) cs) w = .comm (G (b.at a (.inRegion ops (i :: l) :: k)) cs) cases blocking shape w' es := by
  rw [stepG_oper ho hw]
  simp [stepG.apply, hr, G, Frame.at, GStep.after]

variable {c cap s r : Nat} {buf : Array Value} {z z' v : Value} {tm closed : Bool}
theorem opsTo_send (ho : ops[i]? = some o) (hw : Region.wanted o (yielded ops a.tmps) = true) (hr : (execOp a.eval o).run P w = .ok (.comm #[scase c v z'] true .send) w')
    (hc : w'.heap[c]? = some (.chan cap buf false s r tm)) (hroom : buf.size < cap) (h : opsTo P ops Q l (a.put o.dst undef) (w'.setChan c cap (buf.push v) false (s + 1) r tm)) : opsTo P ops Q (i :: l) a w := fun b k cs => by
  obtain ⟨e, a', w₂, hq, harr⟩ := h b k cs
  obtain ⟨es, hs⟩ := stepG_comm_any (P := P) (b := b) (k := k) (cs := cs) (l := l) ho hw hr
  have h1 := step_lone_send_room hs hc hroom
  rw [at_finish ho] at h1
  exact ⟨e, a', w₂, hq, .of_steps (.one h1) harr⟩
theorem opsTo_recv (ok : Bool) (ho : ops[i]? = some o) (hw : Region.wanted o (yielded ops a.tmps) = true) (hr : (execOp a.eval o).run P w = .ok (.comm #[rcase c z] true (.recv ok)) w')
    (hc : w'.heap[c]? = some (.chan cap buf closed s r tm)) (hsome : 0 < buf.size) (h : opsTo P ops Q l (a.put o.dst (got ok (buf.getD 0 undef) true)) (w'.setChan c cap (buf.extract 1 buf.size) closed s (r + 1) tm)) : opsTo P ops Q (i :: l) a w := fun b k cs => by
  obtain ⟨e, a', w₂, hq, harr⟩ := h b k cs
  obtain ⟨es, hs⟩ := stepG_comm_any (P := P) (b := b) (k := k) (cs := cs) (l := l) ho hw hr
  have h1 := step_lone_recv_buf ok hs hc hsome
  rw [at_finish ho] at h1
  exact ⟨e, a', w₂, hq, .of_steps (.one h1) harr⟩
theorem opsTo_recv_shut (ok : Bool) (ho : ops[i]? = some o) (hw : Region.wanted o (yielded ops a.tmps) = true) (hr : (execOp a.eval o).run P w = .ok (.comm #[rcase c z] true (.recv ok)) w')
    (hc : w'.heap[c]? = some (.chan cap #[] true s r tm)) (h : opsTo P ops Q l (a.put o.dst (got ok z false)) w') : opsTo P ops Q (i :: l) a w := fun b k cs => by
  obtain ⟨e, a', w₂, hq, harr⟩ := h b k cs
  obtain ⟨es, hs⟩ := stepG_comm_any (P := P) (b := b) (k := k) (cs := cs) (l := l) ho hw hr
  have h1 := step_lone_recv_shut ok hs hc
  rw [at_finish ho] at h1
  exact ⟨e, a', w₂, hq, .of_steps (.one h1) harr⟩
end
end Go.Proofs.YtamodjlifpjaoaaDoor

namespace Go.Proofs.YtamodjlifpjaoaaDoor
open Go.RowKit
set_option linter.unusedVariables false
set_option linter.unusedSimpArgs false
attribute [local go_sem] Oper.quietV quietV Oper.gives givesV ext_refl_iff ext_alloc_iff ext_drew_iff ext_drewN_iff
def U8sC (w : World) (v : Value) (xs : List Nat) (c : Nat) : Prop := ∃ A, v = .slice A xs.length c ∧ Cells w A (xs.map (fun (x : Nat) => Value.int .u8 (x : Int))) ∧ xs.length ≤ c ∧ xs.length ≤ maxLen ∧ ∀ x ∈ xs, x < 256
theorem U8sC.ext {w w' : World} {v : Value} {xs : List Nat} {c : Nat} (h : U8sC w v xs c) (e : Ext w w') : U8sC w' v xs c := by
  obtain ⟨A, h1, h2, h3⟩ := h
  exact ⟨A, h1, h2.ext e, h3⟩
/-- How many observations there are. -/
def labsN (x : Lts) : Nat := (x.ins + x.outs + 1).toNat
def trN (x : Lts) (ns : List Nat) : List Nat := (ns.take 8).map (fun n => n % labsN x)
theorem trN_lt {x : Lts} (hg : Good x) (ns : List Nat) : ∀ t ∈ trN x ns, (t : Int) ≤ x.ins + x.outs := fun t ht => by
  obtain ⟨n, _, rfl⟩ := List.mem_map.1 ht
  have h1 := hg.ins
  have h2 := hg.outs
  have := Nat.mod_lt n (show 0 < labsN x by unfold labsN; omega)
  unfold labsN at *
  omega
theorem blk1 {w : World} {b t : Nat} {a : Value} (h : w.heap[b]? = some (.cells #[a] t (0, 0))) : ∀ j u, [a][j]? = some u → w.cell? ((⟨b, 0, none⟩ : Addr).add j) = some u := fun j u hj => by
  have := cell_of_blk h j (u := u) (by simpa using hj)
  rw [Addr.add_lit]
  simpa using this
set_option maxRecDepth 100000 in
set_option maxHeartbeats 8000000 in
theorem trace_any (w : World) (v xv : Value) (x : Lts) (ns : List Nat) (cv : Nat) (hv : U8sC w v ns cv) (hd : LtsV w xv x) (hg : Good x) : Calls Tryd.prog 12 #[v, xv] w fun e w' => ∃ rv c, e = .returned rv ∧ IntsC w' rv ((trN x ns).map (fun (s : Nat) => (s : Int))) c ∧ Ext w w' := by
  obtain ⟨i3, hi3, hz3, hs3, hb3⟩ := info_parts int_info
  obtain ⟨A, c, rfl, hr, hrl⟩ := id hd.form
  obtain ⟨Av, rfl, hvc, hvn, hvm, hvb⟩ := id hv
  have b1' := hg.ins
  have b2' := hg.outs
  obtain ⟨d, hdn⟩ : ∃ d, d = labsN x := ⟨_, rfl⟩
  have hdI : (d : Int) = x.ins + x.outs + 1 := by rw [hdn]; unfold labsN; omega
  have hd0 : ¬ x.ins + x.outs + 1 = 0 := by omega
  unfold maxLen at hvm
  go_enter Tryd.func12, Tryd.ntmps12
  go_upto_region 1 with fail
  refine wp_named ?_
  intro W1 hW1
  obtain ⟨hE1, k0, k1, k2⟩ := lts_box (x := x) (A := A) (c := c) hW1
  clear hW1
  generalize w.heap.size = b1 at *
  have hE0 := Ext.refl W1
  have HX := Lib.hid (And.intro hE1 (And.intro (hvc.ext hE1) (And.intro hvb (And.intro hdn hdI))))
  have HK := Lib.hid (And.intro k0 k1)
  clear hd hr hg hvc hvb hv hE1 hdn hdI k2
  go_wp2
  go_loopw [5, 6] (fun rv iv wr => ∃ i : Nat, iv = .int .i64 i ∧ i ≤ ns.length ∧ i ≤ 8 ∧ OwnL W1 wr [.row 3 1 rv ((ns.take i).map (fun n => n % d)).length (wV ((ns.take i).map (fun n => n % d)))]) (fun _ iv _ => 8 - (intOf iv).toNat)
  case atStart => exact ⟨0, rfl, by omega, by omega, by simpa using nil_row W1⟩
  case round =>
    obtain ⟨i, rfl, hi, hi8, hO⟩ := hrel
    obtain ⟨W5, hW5⟩ : ∃ W, W = wr := ⟨_, rfl⟩; subst hW5
    have HO := Lib.hid hO
    have hE5 := hO.ext
    have k0 := fun w' (h : Ext W5 w') => HK.out.1 w' (hE5.trans h)
    have k1 := fun w' (h : Ext W5 w') => HK.out.2 w' (hE5.trans h)
    have hE := Ext.refl W5
    have hfin : i = ns.length ∨ i = 8 → ∃ c, IntsC W5 u5 ((trN x ns).map (fun (s : Nat) => (s : Int))) c := fun h => by
      have h2 : (ns.take i).map (fun n => n % d) = trN x ns := by
        unfold trN
        rw [HX.out.2.2.2.1]
        congr 1
        rcases h with rfl | rfl
        · rw [List.take_of_length_le (Nat.le_refl _), List.take_of_length_le hi8]
        · rfl
      have hrow := hO.get 0 rfl
      rw [h2] at hrow
      exact ints_row hrow (by unfold trN; rw [List.length_map]; have := List.length_take_le 8 ns; omega)
    have HF := Lib.hid hfin
    clear hfin
    by_cases hlt : i < ns.length
    · by_cases h8 : i < 8
      · obtain ⟨n, hn⟩ : ∃ n, ns[i]? = some n := ⟨_, List.getElem?_eq_getElem hlt⟩
        have hn2 := HX.out.2.2.1 n (List.mem_of_getElem? hn)
        obtain ⟨bf, of_, hA, _, hcc⟩ := (HX.out.2.1.ext hE5) (by rw [List.length_map]; omega)
        subst hA
        have hci := fun w' (h : Ext W5 w') => h.cell (hcc i (.int .u8 (n : Int)) (by rw [List.getElem?_map, hn]; rfl))
        have HS := Lib.hid (show (ns.take (i + 1)).map (fun n => n % d) = (ns.take i).map (fun n => n % d) ++ [n % d] by rw [take_snoc hn, List.map_append]; rfl)
        have hlen : ((ns.take i).map (fun n => n % d)).length ≤ 8 := by rw [List.length_map]; have := List.length_take_le i ns; omega
        generalize (ns.take i).map (fun n => n % d) = out at *
        have w0 : IntKind.i64.wrap (n : Int) = n := by rw [IntKind.wrap_i64]; omega
        have hmd : (n : Int).tmod (x.ins + x.outs + 1) = ((n % d : Nat) : Int) := by
          rw [← HX.out.2.2.2.2, Int.tmod_eq_emod_of_nonneg (by omega)]; push_cast; rfl
        have HMD := Lib.hid hmd
        have q1 : IntKind.i64.wrap (x.ins + x.outs) = x.ins + x.outs := by rw [IntKind.wrap_i64]; omega
        have q2 : IntKind.i64.wrap (x.ins + x.outs + 1) = x.ins + x.outs + 1 := by rw [IntKind.wrap_i64]; omega
        clear hcc hn hO hE5 hmd
        go_upto_region 5 with fail
        refine wp_region_ext 14 (factsOf [(13, FreshS W5.heap.size #[.int .i64 ((n : Int).tmod (x.ins + x.outs + 1))] 3)]) (fun k => ([[], [], [], [1, 2], [1, 2, 3], [1, 2, 3, 4], [], [6], [], [8], [6, 7, 8, 9], [6, 7, 8, 9, 10], [1, 2, 3, 4, 5, 6, 7, 8, 9, 10, 11], [1, 2, 3, 4, 5, 6, 7, 8, 9, 10, 11, 12], [0, 1, 2, 3, 4, 5, 6, 7, 8, 9, 10, 11, 12, 13], [0, 1, 2, 3, 4, 5, 6, 7, 8, 9, 10, 11, 12, 13, 14]] : List (List Nat)).getD k []) (by kernel_rfl) (by kernel_rfl) Ext.pre (mono_cons (stays_freshS _ _ _) (mono_nil)) ?_
        simp only [List.take_succ_cons, List.take_zero]
        repeat (first | (with_reducible refine lexL_quiet' (v := ?_) ?_ ?_ ?_ ?_; rotate_left; (· with_reducible rfl); (· simp [factsOf]); (· intro w1 hw1 _; go_simp; with_reducible rfl); (try simp only [Act.put, List.setIfInBounds_toArray, List.set_cons_zero, List.set_cons_succ])) | (with_reducible refine lexL_skip ?_ ?_; (· simp [Region.wanted, yielded, undef]); (try simp only [Act.put, List.setIfInBounds_toArray, List.set_cons_zero, List.set_cons_succ])) | (with_reducible refine lexL_quiet (v := ?_) ?_ ?_ ?_ ?_; rotate_left; (· simp [Region.wanted, yielded, undef]); (· simp [factsOf]); (· intro w1 hw1 _; go_simp; with_reducible rfl); (try simp only [Act.put, List.setIfInBounds_toArray, List.set_cons_zero, List.set_cons_succ])))
        with_reducible refine lexL_give' (φ := ?_) ?_ ?_ ?_ ?_; rotate_left; (· with_reducible rfl); (· simp only [factsOf, Nat.reduceAdd, ↓reduceIte, Nat.reduceEqDiff]; rfl)
        · intro w2' hw2' _
          go_simp
          exact ⟨_, rfl, hw2'.size, heap_alloc_new w2' _⟩
        rintro v4 w2' hw2' ⟨b4, rfl, hb4, hblk4⟩ hk2
        clear hk2 hw2' hblk4 w2'
        (try simp only [Act.put, List.setIfInBounds_toArray, List.set_cons_zero, List.set_cons_succ])
        with_reducible refine lexL_nil ?_; intro w1 hw1 hk1; simp only [List.drop_succ_cons, List.drop_zero]
        obtain ⟨c4, h3, g4, hB4⟩ := hk1.get 13 rfl rfl
        obtain rfl : c4 = b4 := by injection h3 with h3; injection h3 with h3; injection h3 with h3; exact h3.symm
        have hnews := blk1 hB4
        clear h3 g4 hB4
        have hO7 := HO.out.trans hw1
        have hown : w1.ownsRow W1.heap.size 3 1 u5 out.length (wV out) := hO7.get 0 rfl
        have hsz := hO7.ext.size
        have HO7 := Lib.hid hO7
        clear hk1 hw1 hO7 w0 k0 k1 hci
        go_wp2_with (at_builtin; refine wpList_append_own2 rfl _ _ 30 rfl W1.heap.size 3 i3 (.int .i64 0) 1 8 Tryd.underlying30 hi3 hz3 hs3 hb3 rfl (by decide) u5 out.length (wV out) rfl hown ⟨c4, 0, none⟩ 1 1 [.int .i64 ((n : Int).tmod (x.ins + x.outs + 1))] rfl rfl hnews (one_int _) (by unfold maxLen; omega) (by omega) hsz ?_; intro v8 w8 hown8 hg8 hb8)
        have hO8 := HO7.out.app 0 rfl hg8 hown8 hb8
        go_roundw
        case rel => exact ⟨i + 1, by go_num, hlt, h8, by rw [HS.out]; rw [HMD.out] at hO8; simpa [wV] using hO8⟩
        case measure => simp [intOf]; omega
      · obtain ⟨c9, hfin⟩ := HF.out (.inr (by omega))
        have HF2 := Lib.hid hfin
        clear hfin hO
        go_wp2
        go_ret
        exact ⟨_, c9, rfl, HF2.out, HX.out.1.trans HO.out.ext⟩
    · obtain ⟨c9, hfin⟩ := HF.out (.inl (by omega))
      have HF2 := Lib.hid hfin
      clear hfin hO
      go_wp2
      go_ret
      exact ⟨_, c9, rfl, HF2.out, HX.out.1.trans HO.out.ext⟩
end Go.Proofs.YtamodjlifpjaoaaDoor

namespace Go.Proofs.YtamodjlifpjaoaaDoor
open Go.RowKit
set_option linter.unusedVariables false
set_option linter.unusedSimpArgs false
attribute [local go_sem] Oper.quietV quietV Oper.gives givesV ext_refl_iff ext_alloc_iff ext_drew_iff ext_drewN_iff
theorem b01_or (a b : Bool) : b01 (a || b) = if b = true then 1 else b01 a := by cases a <;> cases b <;> rfl
set_option maxRecDepth 100000 in
set_option maxHeartbeats 8000000 in
theorem refObserve_any (w : World) (v sv : Value) (x : Lts) (S cs : Nat) (hd : LtsV w v x) (hg : Good x) (hS : S < 2 ^ x.n) (hf : IntsC w sv (memI S) cs) :
    Calls Tryd.prog 18 #[v, sv] w fun e w' => ∃ rv c, e = .returned rv ∧ IntsC w' rv (obsM x S) c ∧ Ext w w' := by
  obtain ⟨i3, hi3, hz3, hs3, hb3⟩ := info_parts int_info
  obtain ⟨A, c, rfl, hr, hrl⟩ := id hd.form
  obtain ⟨Af, rfl, hfc, hfn, hfm⟩ := id hf
  have hml : (memI S).length = (mem S).length := by unfold memI; simp
  have hm64 := mem_len S
  rw [hml] at *
  have b1' := hg.ins
  have b2' := hg.outs
  have hwv : (memI S).map (Value.int .i64) = wV (mem S) := by unfold memI wV; rw [List.map_map]; rfl
  rw [hwv] at hfc
  have HOO := Lib.hid hg.OO
  go_enter Tryd.func18, Tryd.ntmps18
  go_upto_region 1 with fail
  refine wp_named ?_
  intro W1 hW1
  obtain ⟨hE1, k0, k1, k2⟩ := lts_box (x := x) (A := A) (c := c) hW1
  clear hW1
  generalize w.heap.size = b1 at *
  have hE0 := Ext.refl W1
  have hqu := Lib.hid (fun W (e : Ext W1 W) s hs => refQuiet_any W _ x s (hd.ext (hE1.trans e)) hs)
  have HX := Lib.hid (And.intro hE1 (And.intro hg (And.intro hS (And.intro (hfc.ext hE1) (And.intro (hr.ext hE1) (hd.ext hE1))))))
  have HK := Lib.hid (And.intro k0 (And.intro k1 k2))
  clear hd hg hr hf hS hfc hE1 hwv hml
  go_wp2
  go_loopw [5, 6] (fun rv lv wr => ∃ (j : Nat) (l : Int), lv = .int .i64 l ∧ Hid (l = x.ins + (j : Int)) ∧ x.ins ≤ l ∧ l ≤ x.ins + x.outs + 1 ∧ OwnL W1 wr [.row 3 1 rv (obsJ x S j).length ((obsJ x S j).map (.int .i64))]) (fun _ lv _ => (x.ins + x.outs + 1 - intOf lv).toNat)
  case atStart => exact ⟨0, x.ins, rfl, Lib.hid (by omega), by omega, by omega, nil_row W1⟩
  case round =>
    clear k0 k1 k2
    obtain ⟨j, l, rfl, HL, hl0, hl1, hO⟩ := hrel
    obtain ⟨W5, hW5⟩ : ∃ W, W = wr := ⟨_, rfl⟩; subst hW5
    have HO := Lib.hid hO
    have hE5 := hO.ext
    have k0 := fun w' (h : Ext W5 w') => HK.out.1 w' (hE5.trans h)
    have k1 := fun w' (h : Ext W5 w') => HK.out.2.1 w' (hE5.trans h)
    have hE := Ext.refl W5
    by_cases hjl : l ≤ x.ins + x.outs
    · clear hO hE5
      go_wp2
      clear k0 k1 hE
      go_loopw [7, 8] (fun tv iv wr => ∃ (i : Nat) (t : Int), tv = .int .i64 t ∧ iv = .int .i64 i ∧ i ≤ (mem S).length ∧ Hid (t = b01 (((mem S).take i).any (obS x l))) ∧ OwnL W1 wr [.row 3 1 u5 (obsJ x S j).length ((obsJ x S j).map (.int .i64))]) (fun _ iv _ => (mem S).length - (intOf iv).toNat)
      case atStart => exact ⟨0, 0, rfl, rfl, by omega, Lib.hid (by simp [b01]), HO.out⟩
      case round =>
        clear HO
        obtain ⟨i, t, rfl, rfl, hi, HT, hO⟩ := hrel
        obtain ⟨W6, hW6⟩ : ∃ W, W = wr := ⟨_, rfl⟩; subst hW6
        have HO := Lib.hid hO
        have hE6 := hO.ext
        have k2 := fun w' (h : Ext W6 w') => HK.out.2.2 w' (hE6.trans h)
        have hE := Ext.refl W6
        by_cases hlt : i < (mem S).length
        · obtain ⟨s, hs⟩ : ∃ s, (mem S)[i]? = some s := ⟨_, List.getElem?_eq_getElem hlt⟩
          have hsn : s < x.n := mask_bit HX.out.2.2.1 (mem_bit (List.mem_of_getElem? hs)).2
          have hsn' : s < x.rows.length := hsn
          obtain ⟨bf, of_, hA, _, hcc⟩ := HX.out.2.2.2.1 (by rw [wV_len]; omega)
          subst hA
          have hci1 := hcc i (.int .i64 (s : Int)) (by unfold wV; rw [List.getElem?_map, hs]; rfl)
          have HCI := Lib.hid hci1
          have hci := fun w' (h : Ext W6 w') => h.cell (hE6.cell hci1)
          obtain ⟨br, or_, A', c', rfl, hcr, hu, hl3⟩ := row_at HX.out.2.2.2.2.1 hsn
          have hcr := fun w' (h : Ext W6 w') => h.cell (hE6.cell hcr)
          have HU := Lib.hid (And.intro hu (And.intro hs (And.intro hE6 hsn)))
          have HG := Lib.hid (show (mem S).take (i + 1) = (mem S).take i ++ [s] from take_snoc hs)
          clear hcc hs hu hO hE6 hci1 hsn
          go_wp2_with fail
          go_quiet (fail)
          go_wp2
          clear hci hcr k2 hE
          go_loopw [7, 10] (fun tv kv wr => ∃ (k : Nat) (t : Int), tv = .int .i64 t ∧ kv = .int .i64 k ∧ k ≤ (x.arcs s).length ∧ Hid (t = b01 (((mem S).take i).any (obS x l) || ((x.arcs s).take k).any (obA x l))) ∧ OwnL W1 wr [.row 3 1 u5 (obsJ x S j).length ((obsJ x S j).map (.int .i64))]) (fun _ kv _ => (x.arcs s).length - (intOf kv).toNat)
          case atStart => exact ⟨0, t, rfl, rfl, by omega, Lib.hid (by simpa using HT.out), HO.out.trans (by first | exact (Ext.refl _).drew | exact (Ext.refl _).drewN _ | exact drew_ext _)⟩
          case round =>
            clear HO HT
            obtain ⟨k, t, rfl, rfl, hk, HT, hO⟩ := hrel
            obtain ⟨W7, hW7⟩ : ∃ W, W = wr := ⟨_, rfl⟩; subst hW7
            have HO6 := Lib.hid hO
            have hE7 := hO.ext
            have k0 := fun w' (h : Ext W7 w') => HK.out.1 w' (hE7.trans h)
            have hE := Ext.refl W7
            by_cases hkl : k < (x.arcs s).length
            · obtain ⟨a, ha⟩ : ∃ a, (x.arcs s)[k]? = some a := ⟨_, List.getElem?_eq_getElem hkl⟩
              obtain ⟨ba, oa, rfl, c0, c1, c2⟩ := arc_at (HU.out.1.ext hE7) ha
              have c0 := fun w' (h : Ext W7 w') => h.cell c0
              have c1 := fun w' (h : Ext W7 w') => h.cell c1
              have hal := (HX.out.2.1.arc_at (List.mem_of_getElem? ha)).2
              have hal0 : 0 ≤ a.l ∧ a.l ≤ 16 := by
                have h2 := hal.2.1
                unfold labN at h2
                split at h2 <;> (try split at h2) <;> omega
              have HA := Lib.hid ha
              clear ha hO hE7 c2 hal
              by_cases h1 : a.k = 2
              · have g1 : ((a.k : Int) == 2) = true := by simp [h1]
                by_cases h2 : x.ins + a.l = l
                · have g2 : (x.ins + a.l == l) = true := by simp [h2]
                  have HH : Hid (obA x l a = true) := Lib.hid (by unfold obA; rw [h1, h2]; simp)
                  have HS := Lib.hid (show (x.arcs s).take (k + 1) = (x.arcs s).take k ++ [a] from take_snoc HA.out)
                  clear h1 h2
                  go_wp2_with fail
                  go_quiet (fail)
                  go_wp2
                  go_roundw
                  case rel => exact ⟨k + 1, _, rfl, by go_num, hkl, Lib.hid (by rw [HS.out, List.any_append, ← Bool.or_assoc, b01_or]; simp [HH.out]), HO6.out.trans (by first | exact (Ext.refl _).drew | exact (Ext.refl _).drewN _ | exact drew_ext _)⟩
                  case measure => simp [intOf]; omega
                · have g2 : (x.ins + a.l == l) = false := by simp [h2]
                  have HH : Hid (obA x l a = false) := Lib.hid (by unfold obA; simp; omega)
                  have HS := Lib.hid (show (x.arcs s).take (k + 1) = (x.arcs s).take k ++ [a] from take_snoc HA.out)
                  clear h1
                  try clear h2
                  go_wp2_with fail
                  go_quiet (fail)
                  go_wp2
                  go_roundw
                  case rel => exact ⟨k + 1, _, rfl, by go_num, hkl, Lib.hid (by rw [HS.out, List.any_append, HT.out]; simp [HH.out]), HO6.out.trans (by first | exact (Ext.refl _).drew | exact (Ext.refl _).drewN _ | exact drew_ext _)⟩
                  case measure => simp [intOf]; omega
              · have g1 : ((a.k : Int) == 2) = false := by simp; omega
                have HH : Hid (obA x l a = false) := Lib.hid (by unfold obA; simp; omega)
                have HS := Lib.hid (show (x.arcs s).take (k + 1) = (x.arcs s).take k ++ [a] from take_snoc HA.out)
                clear h1
                try clear h2
                go_wp2_with fail
                go_quiet (fail)
                go_wp2
                go_roundw
                case rel => exact ⟨k + 1, _, rfl, by go_num, hkl, Lib.hid (by rw [HS.out, List.any_append, HT.out]; simp [HH.out]), HO6.out.trans (by first | exact (Ext.refl _).drew | exact (Ext.refl _).drewN _ | exact drew_ext _)⟩
                case measure => simp [intOf]; omega
            · obtain rfl : k = (x.arcs s).length := by omega
              rw [List.take_length] at HT
              have HT6 : Hid (t = b01 (((mem S).take i).any (obS x l) || obK x l (x.arcs s))) := HT
              have k1 := fun w' (h : Ext W7 w') => HK.out.2.1 w' (hE7.trans h)
              have k2 := fun w' (h : Ext W7 w') => HK.out.2.2 w' (hE7.trans h)
              have hci := fun w' (h : Ext W7 w') => h.cell (hE7.cell HCI.out)
              have hqs := fun W (e : Ext W7 W) => hqu.out W (hE7.trans e) s HU.out.2.2.2
              clear hO hE7 HT
              by_cases hq : l = x.ins + x.outs
              · have g1 : (l == x.ins + x.outs) = true := by simp [hq]
                have HG1 := Lib.hid g1
                subst hq
                clear g1
                have q1 : IntKind.i64.wrap (x.ins + x.outs) = x.ins + x.outs := by rw [IntKind.wrap_i64]; omega
                cases hh : quietS x s with
                | true =>
                  have hqs : ∀ W, Ext W7 W → Calls Tryd.prog 45 #[.agg #[.int .i64 x.ins, .int .i64 x.outs, .slice (some ⟨br, or_, none⟩) x.rows.length c], .int .i64 (s : Int)] W fun e w' => e = .returned (.int .i64 1) ∧ Ext W w' := fun W e => by
                    have := hqs W e
                    rw [hh] at this
                    exact this
                  have HF := Lib.hid (show (x.ins + x.outs == x.ins + x.outs && quietS x s) = true by rw [HG1.out, hh]; rfl)
                  clear hh
                  go_upto_region 15 with fail
                  refine wp_region_ext 13 (factsOf []) (fun k => ([[], [], [1], [], [3], [1, 2, 3, 4], [0, 1, 2, 3, 4, 5], [0, 1, 2, 3, 4, 5, 6], [0, 1, 2, 3, 4, 5, 6, 7], [0, 1, 2, 3, 4, 5, 6, 7], [0, 1, 2, 3, 4, 5, 6, 7], [0, 1, 2, 3, 4, 5, 6, 7, 9, 10], [0, 1, 2, 3, 4, 5, 6, 7, 9, 10, 11], [0, 1, 2, 3, 4, 5, 6, 7, 8, 9, 10, 11, 12], [0, 1, 2, 3, 4, 5, 6, 7, 8, 9, 10, 11, 12, 13], [0, 1, 2, 3, 4, 5, 6, 7, 8, 9, 10, 11, 12, 13, 14]] : List (List Nat)).getD k []) (by kernel_rfl) (by kernel_rfl) Ext.pre (mono_nil) ?_
                  simp only [List.take_succ_cons, List.take_zero]
                  repeat (first | (with_reducible refine lexL_quiet' (v := ?_) ?_ ?_ ?_ ?_; rotate_left; (· with_reducible rfl); (· simp [factsOf]); (· intro w1 hw1 _; go_simp; with_reducible rfl); (try simp only [Act.put, List.setIfInBounds_toArray, List.set_cons_zero, List.set_cons_succ])) | (with_reducible refine lexL_skip ?_ ?_; (· simp [Region.wanted, yielded, undef]); (try simp only [Act.put, List.setIfInBounds_toArray, List.set_cons_zero, List.set_cons_succ])) | (with_reducible refine lexL_quiet (v := ?_) ?_ ?_ ?_ ?_; rotate_left; (· simp [Region.wanted, yielded, undef]); (· simp [factsOf]); (· intro w1 hw1 _; go_simp; with_reducible rfl); (try simp only [Act.put, List.setIfInBounds_toArray, List.set_cons_zero, List.set_cons_succ])))
                  with_reducible refine lexL_nil ?_; intro w1 hw1 hk1; simp only [List.drop_succ_cons, List.drop_zero]
                  have hqs := hqs w1 hw1
                  clear hk1
                  go_wp2_with ((with_reducible refine hqs.mono ?_); rintro e wa ⟨rfl, ea⟩)
                  have hO7 := HO6.out.trans (hw1.trans ea)
                  have HO7 := Lib.hid hO7
                  clear hO7
                  go_roundw
                  case rel => exact ⟨i + 1, _, rfl, by go_num, hlt, Lib.hid (by rw [HG.out, List.any_append, List.any_cons, List.any_nil, Bool.or_false]; unfold obS at HT6 ⊢; rw [← Bool.or_assoc, b01_or, HF.out]; simp [HT6.out]), HO7.out⟩
                  case measure => simp [intOf]; omega
                | false =>
                  have hqs : ∀ W, Ext W7 W → Calls Tryd.prog 45 #[.agg #[.int .i64 x.ins, .int .i64 x.outs, .slice (some ⟨br, or_, none⟩) x.rows.length c], .int .i64 (s : Int)] W fun e w' => e = .returned (.int .i64 0) ∧ Ext W w' := fun W e => by
                    have := hqs W e
                    rw [hh] at this
                    exact this
                  have HF := Lib.hid (show (x.ins + x.outs == x.ins + x.outs && quietS x s) = false by rw [HG1.out, hh]; rfl)
                  clear hh
                  go_upto_region 15 with fail
                  refine wp_region_ext 13 (factsOf []) (fun k => ([[], [], [1], [], [3], [1, 2, 3, 4], [0, 1, 2, 3, 4, 5], [0, 1, 2, 3, 4, 5, 6], [0, 1, 2, 3, 4, 5, 6, 7], [0, 1, 2, 3, 4, 5, 6, 7], [0, 1, 2, 3, 4, 5, 6, 7], [0, 1, 2, 3, 4, 5, 6, 7, 9, 10], [0, 1, 2, 3, 4, 5, 6, 7, 9, 10, 11], [0, 1, 2, 3, 4, 5, 6, 7, 8, 9, 10, 11, 12], [0, 1, 2, 3, 4, 5, 6, 7, 8, 9, 10, 11, 12, 13], [0, 1, 2, 3, 4, 5, 6, 7, 8, 9, 10, 11, 12, 13, 14]] : List (List Nat)).getD k []) (by kernel_rfl) (by kernel_rfl) Ext.pre (mono_nil) ?_
                  simp only [List.take_succ_cons, List.take_zero]
                  repeat (first | (with_reducible refine lexL_quiet' (v := ?_) ?_ ?_ ?_ ?_; rotate_left; (· with_reducible rfl); (· simp [factsOf]); (· intro w1 hw1 _; go_simp; with_reducible rfl); (try simp only [Act.put, List.setIfInBounds_toArray, List.set_cons_zero, List.set_cons_succ])) | (with_reducible refine lexL_skip ?_ ?_; (· simp [Region.wanted, yielded, undef]); (try simp only [Act.put, List.setIfInBounds_toArray, List.set_cons_zero, List.set_cons_succ])) | (with_reducible refine lexL_quiet (v := ?_) ?_ ?_ ?_ ?_; rotate_left; (· simp [Region.wanted, yielded, undef]); (· simp [factsOf]); (· intro w1 hw1 _; go_simp; with_reducible rfl); (try simp only [Act.put, List.setIfInBounds_toArray, List.set_cons_zero, List.set_cons_succ])))
                  with_reducible refine lexL_nil ?_; intro w1 hw1 hk1; simp only [List.drop_succ_cons, List.drop_zero]
                  have hqs := hqs w1 hw1
                  clear hk1
                  go_wp2_with ((with_reducible refine hqs.mono ?_); rintro e wa ⟨rfl, ea⟩)
                  have hO7 := HO6.out.trans (hw1.trans ea)
                  have HO7 := Lib.hid hO7
                  clear hO7
                  go_roundw
                  case rel => exact ⟨i + 1, _, rfl, by go_num, hlt, Lib.hid (by rw [HG.out, List.any_append, List.any_cons, List.any_nil, Bool.or_false]; unfold obS at HT6 ⊢; rw [← Bool.or_assoc, b01_or, HF.out]; simp [HT6.out]), HO7.out⟩
                  case measure => simp [intOf]; omega
              · have g1 : (l == x.ins + x.outs) = false := by simp [hq]
                have HF := Lib.hid (show (l == x.ins + x.outs && quietS x s) = false by rw [g1]; rfl)
                clear hqs hq
                go_wp2_with fail
                go_quiet (fail)
                go_wp2
                go_roundw
                case rel => exact ⟨i + 1, _, rfl, by go_num, hlt, Lib.hid (by rw [HG.out, List.any_append, List.any_cons, List.any_nil, Bool.or_false]; unfold obS at HT6 ⊢; rw [← Bool.or_assoc, b01_or, HF.out]; simp [HT6.out]), HO6.out.trans (by first | exact (Ext.refl _).drew | exact (Ext.refl _).drewN _ | exact drew_ext _)⟩
                case measure => simp [intOf]; omega
        · obtain rfl : i = (mem S).length := by omega
          rw [List.take_length] at HT
          have HT2 : Hid (t = b01 (obL x l (mem S))) := HT
          rw [obL_eq HX.out.2.1 hl0 hjl] at HT2
          have hrow : W6.ownsRow W1.heap.size 3 1 u5 (obsJ x S j).length ((obsJ x S j).map (.int .i64)) := hO.get 0 rfl
          have hsz := hE6.size
          have hjO : (obsJ x S j).length ≤ 17 := by have := obsJ_len x S j; have := HOO.out; have := HL.out; omega
          have HJS := Lib.hid (obsJ_succ x S j)
          have HO := Lib.hid hO
          clear hO hE6 HT
          cases hh : (aftM x S l != 0) with
          | true =>
            rw [hh] at HT2
            rw [← HL.out, hh, if_pos rfl] at HJS
            generalize obsJ x S j = out at *
            obtain rfl : t = 1 := HT2.out
            clear hh
            go_wp2_with (at_builtin; refine wpList_append_own2 rfl _ _ 30 rfl W1.heap.size 3 i3 (.int .i64 0) 1 8 Tryd.underlying30 hi3 hz3 hs3 hb3 rfl (by decide) u5 out.length (out.map (.int .i64)) rfl (World.ownsRow.alloc hrow _) ⟨W6.heap.size, 0, none⟩ 1 1 [.int .i64 l] rfl rfl (new_cell _ _ _ _ rfl) (one_int _) (by unfold maxLen; omega) (by omega) (by simp; omega) ?_; intro v8 w8 hown8 hg8 hb8)
            have hO8 := (HO.out.trans (alloc_ext W6 (.cells #[.int .i64 l] 3))).app 0 rfl hg8 hown8 hb8
            go_roundw
            case rel => exact ⟨j + 1, _, by go_num, Lib.hid (by have := HL.out; omega), by omega, by omega, by rw [HJS.out]; simpa using hO8⟩
            case measure => simp [intOf]; omega
          | false =>
            rw [hh] at HT2
            rw [← HL.out, hh, if_neg (by simp)] at HJS
            obtain rfl : t = 0 := HT2.out
            clear hh
            go_wp2
            go_roundw
            case rel => exact ⟨j + 1, _, by go_num, Lib.hid (by have := HL.out; omega), by omega, by omega, by rw [HJS.out]; exact HO.out⟩
            case measure => simp [intOf]; omega
    · have hj : j = x.O + 1 := by have := HL.out; have := HOO.out; omega
      subst hj
      have hrow := hO.get 0 rfl
      rw [obsJ_all] at hrow
      obtain ⟨c9, hfin⟩ := ints_of_owns hrow (by have := obsJ_len x S (x.O + 1); rw [obsJ_all] at this; have := HOO.out; unfold lenMax; omega)
      have HF := Lib.hid hfin
      clear hfin hrow hO
      go_wp2
      go_ret
      exact ⟨_, rfl, ⟨c9, HF.out⟩, HX.out.1.trans HO.out.ext⟩
end Go.Proofs.YtamodjlifpjaoaaDoor

namespace Go.Proofs.YtamodjlifpjaoaaDoor
open Go.RowKit
set_option linter.unusedVariables false
set_option linter.unusedSimpArgs false
attribute [local go_sem] Oper.quietV quietV Oper.gives givesV ext_refl_iff ext_alloc_iff ext_drew_iff ext_drewN_iff
/-- All inputs are possible in what silent arcs lead to from a state. -/
def okAcc (x : Lts) (s : Nat) : Bool := (List.range x.I).all (fun (i : Nat) => aftM x (sil x s) (i : Int) != 0)
structure AInv (x : Lts) (out : List Nat) (i : Nat) : Prop where
  nd : out.Nodup
  lt : ∀ t ∈ out, t < x.n
  reach : ∀ t ∈ out, Path x anyArc 0 t
  zero : 0 ∈ out
  done : ∀ j, j < i → ∀ s, out[j]? = some s → (∀ a ∈ x.arcs s, a.to ∈ out) ∧ okAcc x s = true
theorem AInv.start {x : Lts} (hg : Good x) : AInv x [0] 0 := ⟨by simp, fun t ht => by rw [List.mem_singleton.1 ht]; exact hg.nn.1, fun t ht => by rw [List.mem_singleton.1 ht]; exact .refl, by simp, fun j hj => absurd hj (by omega)⟩
theorem AInv.len {x : Lts} {out : List Nat} {i : Nat} (h : AInv x out i) : out.length ≤ x.n := nodup_len h.nd h.lt
theorem AInv.put {x : Lts} (hg : Good x) {out : List Nat} {i s : Nat} {a : Arc} (h : AInv x out i) (hi : i < out.length) (hs : s ∈ out) (ha : a ∈ x.arcs s) (hn : a.to ∉ out) : AInv x (out ++ [a.to]) i := by
  refine ⟨?_, fun t ht => ?_, fun t ht => ?_, List.mem_append_left _ h.zero, fun j hj u hu => ?_⟩
  · rw [List.nodup_append]
    refine ⟨h.nd, by simp, fun u hu v hv e => ?_⟩
    rw [List.mem_singleton.1 hv] at e
    exact hn (e ▸ hu)
  · rcases List.mem_append.1 ht with h1 | h1
    · exact h.lt t h1
    · rw [List.mem_singleton.1 h1]; exact hg.to_lt s a ha
  · rcases List.mem_append.1 ht with h1 | h1
    · exact h.reach t h1
    · rw [List.mem_singleton.1 h1]; exact (h.reach s hs).step ha rfl
  · rw [List.getElem?_append_left (by omega)] at hu
    obtain ⟨h1, h2⟩ := h.done j hj u hu
    exact ⟨fun b hb => List.mem_append_left _ (h1 b hb), h2⟩
theorem AInv.next {x : Lts} {out : List Nat} {i s : Nat} (h : AInv x out i) (hs : out[i]? = some s) (hd : ∀ a ∈ x.arcs s, a.to ∈ out) (hk : okAcc x s = true) : AInv x out (i + 1) :=
  ⟨h.nd, h.lt, h.reach, h.zero, fun j hj u hu => by
    rcases Nat.lt_or_ge j i with h1 | h1
    · exact h.done j h1 u hu
    · obtain rfl : j = i := by omega
      rw [hs] at hu; cases hu
      exact ⟨hd, hk⟩⟩
theorem reach_bit {x : Lts} (hg : Good x) (t : Nat) : (reachM x).testBit t = true ↔ Path x anyArc 0 t := by
  unfold reachM
  rw [cloM_bit x anyArc 1 hg.to_lt t]
  constructor
  · rintro ⟨s0, hs0, hp⟩
    have h01 : (2 ^ 0).testBit s0 = true := hs0
    rw [bit_one] at h01
    rw [← of_decide_eq_true h01] at hp
    exact hp
  · intro hp
    exact ⟨0, by decide, hp⟩
theorem AInv.yes {x : Lts} (hg : Good x) {out : List Nat} (h : AInv x out out.length) : accB x = true := by
  unfold accB
  rw [List.all_eq_true]
  intro t ht
  have hp := (reach_bit hg t).1 (mem_bit ht).2
  have key : ∀ u, Path x anyArc 0 u → u ∈ out := by
    intro u hu
    induction hu with
    | refl => exact h.zero
    | step _ ha _ ih =>
      obtain ⟨j, hj⟩ := List.getElem?_of_mem ih
      exact (h.done j (List.getElem?_eq_some_iff.1 hj).1 _ hj).1 _ ha
  obtain ⟨j, hj⟩ := List.getElem?_of_mem (key t hp)
  exact (h.done j (List.getElem?_eq_some_iff.1 hj).1 _ hj).2
theorem AInv.no {x : Lts} (hg : Good x) {s i : Nat} (hp : Path x anyArc 0 s) (hi : i < x.I) (h0 : aftM x (sil x s) (i : Int) = 0) : accB x = false := by
  unfold accB
  rw [List.all_eq_false]
  have hs : s < x.n := hp.lt hg hg.nn.1
  have hb := (reach_bit hg s).2 hp
  refine ⟨s, (mem_iff ?_).2 hb, ?_⟩
  · refine hg.mask64 (mask_lt fun t ht => ?_)
    exact ((reach_bit hg t).1 ht).lt hg hg.nn.1
  · rw [Bool.not_eq_true, List.all_eq_false]
    exact ⟨i, List.mem_range.2 hi, by rw [h0]; simp⟩
theorem mem_none : mem 0 = [] := by
  unfold mem
  rw [List.filter_eq_nil_iff]
  intro t _
  simp
theorem memI_zero (S : Nat) (h : S < 2 ^ 64) : (((memI S).length : Int) == 0) = (S == 0) := by
  unfold memI
  rw [List.length_map]
  by_cases h0 : S = 0
  · subst h0; rw [mem_none]; rfl
  · obtain ⟨t, ht⟩ := mask_some h0
    have h2 := List.length_pos_of_mem ((mem_iff h).2 ht)
    have e1 : (S == 0) = false := by simpa using h0
    rw [e1]
    simp
    intro h3
    rw [h3] at h2
    simp at h2
def NextsOk (x : Lts) (s i : Nat) : Prop := ∀ j, j < i → (aftM x (sil x s) (j : Int) != 0) = true
theorem nexts_all {x : Lts} {s : Nat} (h : NextsOk x s x.I) : okAcc x s = true := by
  unfold okAcc
  rw [List.all_eq_true]
  intro j hj
  exact h j (List.mem_range.1 hj)
theorem doneA {l : List Arc} {k : Nat} {a : Arc} {o2 o3 : List Nat} (h : ∀ t, t < k → ∀ a, l[t]? = some a → a.to ∈ o2) (hsub : ∀ u ∈ o2, u ∈ o3) (ha : l[k]? = some a) (hn : a.to ∈ o3) : ∀ t, t < k + 1 → ∀ a, l[t]? = some a → a.to ∈ o3 := fun t ht b hb => by
  rcases Nat.lt_or_ge t k with h1 | h1
  · exact hsub _ (h t h1 b hb)
  · obtain rfl : t = k := by omega
    rw [ha] at hb; cases hb; exact hn
set_option maxRecDepth 100000 in
set_option maxHeartbeats 8000000 in
theorem refAccepts_any (w : World) (v : Value) (x : Lts) (hd : LtsV w v x) (hg : Good x) :
    Calls Tryd.prog 19 #[v] w fun e w' => e = .returned (.int .i64 (b01 (accB x))) ∧ Ext w w' := by
  obtain ⟨i3, hi3, hz3, hs3, hb3⟩ := info_parts int_info
  obtain ⟨A, c, rfl, hr, hrl⟩ := id hd.form
  have b1' := hg.ins
  have b2' := hg.outs
  have HII := Lib.hid hg.II
  go_enter Tryd.func19, Tryd.ntmps19
  go_upto_region 1 with fail
  refine wp_named ?_
  intro W1 hW1
  obtain ⟨hE1, k0, k1, k2⟩ := lts_box (x := x) (A := A) (c := c) hW1
  clear hW1
  generalize w.heap.size = b1 at *
  have hE0 := Ext.refl W1
  have HX := Lib.hid (And.intro hE1 (And.intro hg (And.intro (hr.ext hE1) (hd.ext hE1))))
  have HK := Lib.hid (And.intro k0 (And.intro k1 k2))
  have hO1 : OwnL W1 (W1.alloc (.cells #[.int .i64 0] 3)) [.row 3 1 (.slice (some ⟨W1.heap.size, 0, none⟩) 1 1) [0].length (wV [0])] :=
    (OwnL.nil (Ext.refl W1)).add (alloc_ext W1 _) (World.ownsRow_lit (base := W1.heap.size) (e := 3) (size := 1) W1 #[.int .i64 0] 1 (Nat.le_refl _) (by unfold maxLen; omega) rfl)
  have HO1 := Lib.hid hO1
  have HA1 := Lib.hid (AInv.start hg)
  clear hd hg hr hE1 k0 k1 k2 hO1
  go_wp2
  go_loopw [3, 4] (fun uv iv wr => ∃ out : List Nat, ∃ i : Nat, iv = .int .i64 i ∧ i ≤ out.length ∧ Hid (AInv x out i) ∧ OwnL W1 wr [.row 3 1 uv out.length (wV out)]) (fun _ iv _ => x.n - (intOf iv).toNat)
  case atStart => exact ⟨[0], 0, rfl, by simp, HA1.out, HO1.out⟩
  case round =>
    clear HO1 HA1
    obtain ⟨out, i, rfl, hi, HS, hO⟩ := hrel
    obtain ⟨W5, hW5⟩ : ∃ W, W = wr := ⟨_, rfl⟩; subst hW5
    obtain ⟨A5, c5, rfl, hnc5, hc5⟩ := cells_of_owns (hO.get 0 rfl)
    have hlen5 : out.length ≤ 64 := by have := HS.out.len; have := HX.out.2.1.nn; omega
    have hE5 := hO.ext
    have k2 := fun w' (h : Ext W5 w') => HK.out.2.2 w' (hE5.trans h)
    have HO5 := Lib.hid hO
    have hE := Ext.refl W5
    by_cases hlt : i < out.length
    · obtain ⟨s, hs⟩ : ∃ s, out[i]? = some s := ⟨_, List.getElem?_eq_getElem hlt⟩
      have hsn := HS.out.lt s (List.mem_of_getElem? hs)
      have hsn' : s < x.rows.length := hsn
      obtain ⟨b5, o5, hA5, _, hcc⟩ := hc5 (by rw [wV_len]; omega)
      subst hA5
      have hci := hcc i (.int .i64 (s : Int)) (by unfold wV; rw [List.getElem?_map, hs]; rfl)
      have hci := fun w' (h : Ext W5 w') => h.cell hci
      obtain ⟨br, or_, A', c', rfl, hcr, hu, hl3⟩ := row_at HX.out.2.2.1 hsn
      have hcr := fun w' (h : Ext W5 w') => h.cell (hE5.cell hcr)
      have HU := Lib.hid (And.intro hu (And.intro hs hsn))
      clear hcc hc5 hu hs hsn hO hE5
      go_wp2_with fail
      go_quiet (fail)
      go_wp2
      clear hci hcr k2 hE
      go_loopw [3, 6] (fun uv kv wr => ∃ out2 : List Nat, ∃ k : Nat, kv = .int .i64 k ∧ k ≤ (x.arcs s).length ∧ Hid (AInv x out2 i ∧ i < out2.length ∧ out2[i]? = some s ∧ ∀ t, t < k → ∀ a, (x.arcs s)[t]? = some a → a.to ∈ out2) ∧ OwnL W1 wr [.row 3 1 uv out2.length (wV out2)]) (fun _ kv _ => (x.arcs s).length - (intOf kv).toNat)
      case atStart => exact ⟨out, 0, rfl, by omega, Lib.hid ⟨HS.out, hlt, HU.out.2.1, fun t ht => absurd ht (by omega)⟩, HO5.out.trans (by first | exact (Ext.refl _).drew | exact (Ext.refl _).drewN _ | exact drew_ext _)⟩
      case round =>
        clear HO5 HS hlen5 hnc5
        obtain ⟨out2, k, rfl, hk, HI, hO2⟩ := hrel
        obtain ⟨W6, hW6⟩ : ∃ W, W = wr := ⟨_, rfl⟩; subst hW6
        have hlen6 : out2.length ≤ 64 := by have := HI.out.1.len; have := HX.out.2.1.nn; omega
        have HO6 := Lib.hid hO2
        have hE6 := Ext.refl W6
        by_cases hkl : k < (x.arcs s).length
        · obtain ⟨c6, hin⟩ := ints_row (hO2.get 0 rfl) (by omega)
          obtain ⟨a, ha⟩ : ∃ a, (x.arcs s)[k]? = some a := ⟨_, List.getElem?_eq_getElem hkl⟩
          have hto := (HX.out.2.1.arc_at (List.mem_of_getElem? ha)).2.2.2
          obtain ⟨ba, oa, rfl, c0, c1, c2⟩ := arc_at (HU.out.1.ext hO2.ext) ha
          rw [← hto.1] at c2
          have c2 := fun w' (h : Ext W6 w') => h.cell c2
          have HA := Lib.hid (And.intro ha hto)
          have hhas := fun W (e : Ext W6 W) => has_any W _ _ c6 (a.to : Int) (hin.ext e)
          obtain ⟨A6, rfl, _⟩ := id hin
          rw [List.length_map] at *
          clear ha hto hin hO2 c0 c1
          by_cases hm : a.to ∈ out2
          · have hb : b01 (hasL (out2.map (fun (s : Nat) => (s : Int))) (a.to : Int)) = 1 := by rw [has_nat, decide_eq_true hm]; rfl
            rw [hb] at hhas
            have hhas := hhas W6 hE6
            have HM := Lib.hid hm
            clear hb hm
            go_wp2_with ((with_reducible refine hhas.mono ?_); rintro e w7 ⟨rfl, rfl⟩)
            go_roundw
            case rel => exact ⟨out2, k + 1, by go_num, hkl, Lib.hid ⟨HI.out.1, HI.out.2.1, HI.out.2.2.1, doneA HI.out.2.2.2 (fun _ h => h) HA.out.1 HM.out⟩, HO6.out.trans (by first | exact Ext.refl _ | exact (Ext.refl _).drew | exact (Ext.refl _).drewN _ | exact drew_ext _)⟩
            case measure => simp [intOf]; omega
          · have hb : b01 (hasL (out2.map (fun (s : Nat) => (s : Int))) (a.to : Int)) = 0 := by rw [has_nat, decide_eq_false hm]; rfl
            rw [hb] at hhas
            have hhas := hhas W6 hE6
            have HM := Lib.hid hm
            have hown : W6.ownsRow W1.heap.size 3 1 (.slice A6 out2.length c6) out2.length (wV out2) := HO6.out.get 0 rfl
            have hsz := HO6.out.ext.size
            clear hb hm
            go_wp2_with (first
              | ((with_reducible refine hhas.mono ?_); rintro e w7 ⟨rfl, rfl⟩)
              | (at_builtin; refine wpList_append_own2 rfl _ _ 30 rfl W1.heap.size 3 i3 (.int .i64 0) 1 8 Tryd.underlying30 hi3 hz3 hs3 hb3 rfl (by decide) (.slice A6 out2.length c6) out2.length (wV out2) rfl (World.ownsRow.alloc hown _) ⟨W6.heap.size, 0, none⟩ 1 1 [.int .i64 (a.to : Int)] rfl rfl (new_cell _ _ _ _ rfl) (one_int _) (by unfold maxLen; omega) (by omega) (by simp; omega) ?_; intro v8 w8 hown8 hg8 hb8))
            have hO8 := (HO6.out.trans (alloc_ext W6 (.cells #[.int .i64 (a.to : Int)] 3))).app 0 rfl hg8 hown8 hb8
            go_roundw
            case rel =>
              have hmem : s ∈ out2 := List.mem_of_getElem? HI.out.2.2.1
              refine ⟨out2 ++ [a.to], k + 1, by go_num, hkl, Lib.hid ⟨HI.out.1.put HX.out.2.1 HI.out.2.1 hmem (List.mem_of_getElem? HA.out.1) HM.out, by rw [List.length_append]; have := HI.out.2.1; omega, by rw [List.getElem?_append_left HI.out.2.1]; exact HI.out.2.2.1, doneA HI.out.2.2.2 (fun _ h => List.mem_append_left _ h) HA.out.1 (by simp)⟩, ?_⟩
              simpa [wV] using hO8
            case measure => simp [intOf]; omega
        · obtain rfl : k = (x.arcs s).length := by omega
          have HN := Lib.hid (show ∀ a ∈ x.arcs s, a.to ∈ out2 from fun a ha => by
            obtain ⟨t, ht⟩ := List.getElem?_of_mem ha
            exact HI.out.2.2.2 t (List.getElem?_eq_some_iff.1 ht).1 a ht)
          have HP := Lib.hid (HI.out.1.reach s (List.mem_of_getElem? HI.out.2.2.1))
          have hilt := HI.out.2.1
          have hE := hO2.ext
          obtain ⟨A6, c6, rfl, _, hc6⟩ := cells_of_owns (hO2.get 0 rfl)
          obtain ⟨b6, o6, hA6, _, hcc⟩ := hc6 (by rw [wV_len]; omega)
          subst hA6
          have hci := hcc i (.int .i64 (s : Int)) (by unfold wV; rw [List.getElem?_map, HI.out.2.2.1]; rfl)
          have hci := fun w' (h : Ext W6 w') => h.cell hci
          have k0 := fun w' (h : Ext W6 w') => HK.out.1 w' (hE.trans h)
          have k1 := fun w' (h : Ext W6 w') => HK.out.2.1 w' (hE.trans h)
          have k2 := fun w' (h : Ext W6 w') => HK.out.2.2 w' (hE.trans h)
          have HE := Lib.hid hE
          have hE := Ext.refl W6
          clear hcc hc6 hO2
          go_upto_region 11 with fail
          refine wp_region_ext 6 (factsOf [(5, FreshS W6.heap.size #[.int .i64 (s : Int)] 3)]) (fun k => ([[], [], [], [1, 2], [1, 2, 3], [1, 2, 3, 4], [0, 1, 2, 3, 4, 5], [0, 1, 2, 3, 4, 5, 6]] : List (List Nat)).getD k []) (by kernel_rfl) (by kernel_rfl) Ext.pre (mono_cons (stays_freshS _ _ _) (mono_nil)) ?_
          simp only [List.take_succ_cons, List.take_zero]
          repeat (first | (with_reducible refine lexL_quiet' (v := ?_) ?_ ?_ ?_ ?_; rotate_left; (· with_reducible rfl); (· simp [factsOf]); (· intro w1 hw1 _; go_simp; with_reducible rfl); (try simp only [Act.put, List.setIfInBounds_toArray, List.set_cons_zero, List.set_cons_succ])) | (with_reducible refine lexL_skip ?_ ?_; (· simp [Region.wanted, yielded, undef]); (try simp only [Act.put, List.setIfInBounds_toArray, List.set_cons_zero, List.set_cons_succ])) | (with_reducible refine lexL_quiet (v := ?_) ?_ ?_ ?_ ?_; rotate_left; (· simp [Region.wanted, yielded, undef]); (· simp [factsOf]); (· intro w1 hw1 _; go_simp; with_reducible rfl); (try simp only [Act.put, List.setIfInBounds_toArray, List.set_cons_zero, List.set_cons_succ])))
          with_reducible refine lexL_give' (φ := ?_) ?_ ?_ ?_ ?_; rotate_left; (· with_reducible rfl); (· simp only [factsOf, Nat.reduceAdd, ↓reduceIte, Nat.reduceEqDiff]; rfl)
          · intro w2' hw2' _
            go_simp
            exact ⟨_, rfl, hw2'.size, heap_alloc_new w2' _⟩
          rintro v4 w2' hw2' ⟨b4, rfl, hb4, hblk4⟩ hk2
          clear hk2 hw2' hblk4 w2'
          (try simp only [Act.put, List.setIfInBounds_toArray, List.set_cons_zero, List.set_cons_succ])
          with_reducible refine lexL_nil ?_; intro w1 hw1 hk1; simp only [List.drop_succ_cons, List.drop_zero]
          obtain ⟨c4, h3, g4, hB4⟩ := hk1.get 5 rfl rfl
          obtain rfl : c4 = b4 := by injection h3 with h3; injection h3 with h3; injection h3 with h3; exact h3.symm
          have hints : IntsC w1 (.slice (some ⟨c4, 0, none⟩) 1 1) [(s : Int)] 1 := ⟨_, rfl, fun _ => ⟨c4, 0, rfl, lt_of_block hB4, fun j u hj => by
            rw [Nat.zero_add]; exact cell_of_blk hB4 j (by simpa using hj)⟩, by simp, by simp [lenMax]⟩
          have hso := sorted_any w1 _ _ x [s] 1 (HX.out.2.2.2.ext (HE.out.trans hw1)) HX.out.2.1 (by intro t ht; rw [List.mem_singleton.1 ht]; exact HU.out.2.2) hints (by simp)
          rw [unionM_one] at hso
          have HW := Lib.hid hw1
          clear hk1 h3 g4 hB4 hints hw1 k0 k1 k2 hci hE
          go_wp2_with ((with_reducible refine hso.mono ?_); rintro e w7 ⟨rv, c9, rfl, hi9, e9⟩; have H9 := Lib.hid (And.intro hi9 e9); clear hi9 e9)
          have HE7 := Lib.hid (HE.out.trans (HW.out.trans H9.out.2))
          have HSL := Lib.hid (sil_lt HX.out.2.1 HU.out.2.2)
          clear hso
          go_loopw [8] (fun jv wr => ∃ j : Nat, jv = .int .i64 j ∧ j ≤ x.I ∧ Hid (NextsOk x s j) ∧ Ext w7 wr) (fun jv _ => x.I - (intOf jv).toNat)
          case atStart => exact ⟨0, rfl, by omega, Lib.hid (fun j hj => absurd hj (by omega)), Ext.refl _⟩
          case round =>
            obtain ⟨j, rfl, hj, HNX, hE⟩ := hrel
            obtain ⟨W8, hW8⟩ : ∃ W, W = wr := ⟨_, rfl⟩; subst hW8
            have k0 := fun w' (h : Ext W8 w') => HK.out.1 w' (HE7.out.trans (hE.trans h))
            have k1 := fun w' (h : Ext W8 w') => HK.out.2.1 w' (HE7.out.trans (hE.trans h))
            have k2 := fun w' (h : Ext W8 w') => HK.out.2.2 w' (HE7.out.trans (hE.trans h))
            have hI1 := HII.out.1
            by_cases hjl : (j : Int) < x.ins
            · have hnx := fun W (e : Ext W8 W) => refNext_any W _ rv x (sil x s) c9 (j : Int) (HX.out.2.2.2.ext (HE7.out.trans (hE.trans e))) HX.out.2.1 HSL.out (H9.out.1.ext (hE.trans e)) (by omega) (by omega)
              obtain ⟨T, hT⟩ : ∃ T, aftM x (sil x s) (j : Int) = T := ⟨_, rfl⟩
              rw [hT] at hnx
              have hz := memI_zero T (HX.out.2.1.mask64 (by rw [← hT]; exact aftM_lt HX.out.2.1 HSL.out _))
              have HT := Lib.hid hT
              have HE8 := Lib.hid hE
              have hnx := hnx W8 (Ext.refl _)
              have k0 := k0 W8 (Ext.refl _)
              have k1 := k1 W8 (Ext.refl _)
              have k2 := k2 W8 (Ext.refl _)
              clear hT hE
              by_cases h0 : T = 0
              · have g0 : (((memI T).length : Int) == 0) = true := by rw [hz, h0]; rfl
                have HF := Lib.hid (AInv.no HX.out.2.1 HP.out (i := j) (by omega) (HT.out.trans h0))
                clear hz h0
                go_wp2_with ((with_reducible refine hnx.mono ?_); rintro e w9 ⟨rv2, c2, rfl, ⟨A2, rfl, hi2⟩, e2⟩; have H2 := Lib.hid e2; clear hi2 e2)
                go_ret
                exact ⟨by rw [HF.out]; rfl, HX.out.1.trans (HE7.out.trans (HE8.out.trans H2.out))⟩
              · have g0 : (((memI T).length : Int) == 0) = false := by rw [hz]; simpa using h0
                have HF := Lib.hid h0
                clear hz h0
                go_wp2_with ((with_reducible refine hnx.mono ?_); rintro e w9 ⟨rv2, c2, rfl, ⟨A2, rfl, hi2⟩, e2⟩; have H2 := Lib.hid e2; clear hi2 e2)
                go_roundw
                case rel => exact ⟨j + 1, by go_num, by omega, Lib.hid (fun t ht => by
                  rcases Nat.lt_or_ge t j with h1 | h1
                  · exact HNX.out t h1
                  · obtain rfl : t = j := by omega
                    rw [HT.out]; simpa using HF.out), HE8.out.trans H2.out⟩
                case measure => simp [intOf]; omega
            · obtain rfl : j = x.I := by omega
              have HNXT := Lib.hid (HI.out.1.next HI.out.2.2.1 HN.out (nexts_all HNX.out))
              have HO9 := Lib.hid (HO6.out.trans (HW.out.trans (H9.out.2.trans hE)))
              have hln := HI.out.1.len
              clear k1 k2 hE
              have k0 := k0 W8 (Ext.refl _)
              go_wp2
              go_roundw
              case rel => exact ⟨out2, i + 1, by go_num, hilt, HNXT, HO9.out⟩
              case measure => simp [intOf]; omega
    · obtain rfl : i = out.length := by omega
      have HF := Lib.hid (HS.out.yes HX.out.2.1)
      clear hc5 hO
      go_wp2
      go_ret
      exact ⟨by rw [HF.out]; rfl, HX.out.1.trans HO5.out.ext⟩
end Go.Proofs.YtamodjlifpjaoaaDoor

namespace Go.Proofs.YtamodjlifpjaoaaDoor
open Go.RowKit
set_option linter.unusedVariables false
set_option linter.unusedSimpArgs false
attribute [local go_sem] Oper.quietV quietV Oper.gives givesV ext_refl_iff ext_alloc_iff ext_drew_iff ext_drewN_iff
theorem mem_keep {w w' : World} {b : Option Nat} (h : w.grownBy w' b) {k : Nat} {o : Obj} (hk : some k ≠ b) (ho : w.heap[k]? = some o) : w'.heap[k]? = some o := by
  rw [h.block k (lt_of_block ho) hk]; exact ho
/-- append to a literal without elements. -/
theorem step_open {ops : Array Oper} {o : Oper} {a : Act} {w W0 : World} {K : Act → World → Prop} {Q : Exit → Act → World → Prop} {E : Prop} (ts : List Int) (c b : Nat) (v : Value)
    (hg : o.guard = none) (s x : Operand) (ho : o.op = .call { callee := .builtin .append, args := #[s, x], argTypes := #[30, 30] })
    (hs : a.eval s = .slice (some ⟨b, 0, none⟩) 0 0) (hx : a.eval x = v) (hv : IntsC W0 v ts c) (hlen : ts.length ≤ 1000) (hE : Ext W0 w) (hb : w.heap[b]? = some (.cells #[] 3 (0, 0))) (hB : W0.heap.size ≤ b)
    (h : ∀ v' w', w'.ownsRow W0.heap.size 3 1 v' ts.length (ts.map (.int .i64)) → Ext W0 w' → (∀ k o, k ≠ b → w.heap[k]? = some o → w'.heap[k]? = some o) → w.heap.size ≤ w'.heap.size →
      (∀ k, v'.ownBlock = some k → k = b ∨ w.heap.size ≤ k) → K (a.put o.dst v') w') :
    if Region.wanted o (yielded ops a.tmps) = true then Oper.wp Tryd.prog o a w K Q else E := by
  have hw : Region.wanted o (yielded ops a.tmps) = true := by simp [Region.wanted, hg]
  rw [if_pos hw]
  obtain ⟨i3, hi3, hz3, hs3, hb3⟩ := info_parts int_info
  have hown : w.ownsRow W0.heap.size 3 1 (.slice (some ⟨b, 0, none⟩) 0 0) 0 [] := ⟨rfl, .inr ⟨b, 0, #[], rfl, hB, hb, Nat.le_refl _, by unfold maxLen; omega, rfl, rfl⟩⟩
  have hv := hv.ext hE
  obtain ⟨At, rfl, htc, htn, htm⟩ := hv
  have key : ∃ v' w', (Builtin.append_ #[30, 30] o.type #[.slice (some ⟨b, 0, none⟩) 0 0, .slice At ts.length c]).run Tryd.prog w = .ok v' w' ∧ w'.ownsRow W0.heap.size 3 1 v' ts.length (ts.map (.int .i64)) ∧ w.grownBy w' (some b) ∧ (∀ k, v'.ownBlock = some k → k = b ∨ w.heap.size ≤ k) := by
    cases At with
    | none =>
      have h0 : ts = [] := by
        cases hq : ts with
        | nil => rfl
        | cons u t =>
          obtain ⟨b', o', h, _⟩ := htc (by rw [hq]; simp)
          cases h
      subst h0
      refine ⟨_, w, run_append_none (P := Tryd.prog) 30 o.type 3 i3 Tryd.underlying30 hi3 b 0 0 c (Nat.le_refl 0) w, hown, ⟨rfl, rfl, rfl, Nat.le_refl _, fun _ _ _ => rfl⟩, fun k hk => .inl ?_⟩
      simp [Value.ownBlock] at hk
      exact hk.symm
    | some ad =>
      have hnews : ∀ j u, (ts.map (Value.int .i64))[j]? = some u → w.cell? (ad.add j) = some u := fun j u hj => by
        obtain ⟨b', o', h, _, hc⟩ := htc (by have := (List.getElem?_eq_some_iff.1 hj).1; omega)
        cases h
        rw [Addr.add_lit]
        exact hc j u hj
      obtain ⟨v', w', hr, h2, h3, h4⟩ := run_append_own2 (P := Tryd.prog) (w := w) W0.heap.size 30 o.type 3 i3 (.int .i64 0) 1 8 Tryd.underlying30 hi3 hz3 hs3 hb3 rfl (by decide) (.slice (some ⟨b, 0, none⟩) 0 0) 0 [] hown ad ts.length c (ts.map (.int .i64)) (by simp) hnews
        (fun u hu => by obtain ⟨z, _, rfl⟩ := List.mem_map.1 hu; rfl) (by unfold maxLen; omega) (by omega) (Nat.le_trans hB (Nat.le_of_lt (lt_of_block hb)))
      rw [Nat.zero_add, List.nil_append] at h2
      refine ⟨v', w', hr, h2, h3, fun k hk => ?_⟩
      rcases h4 k hk with h | h
      · left; simp [Value.ownBlock] at h; exact h.symm
      · exact .inr h
  obtain ⟨v', w', hr, h2, h3, h4⟩ := key
  unfold Oper.wp execOp
  simp only [ho, resolve, invoke, builtin, Sem.run_bind, Sem.run_pure, Result.andThen_ok, List.map_toArray, List.map_cons, List.map_nil, hs, hx, hr]
  exact h v' w' h2 (Below.grown hE h3 hE.size (fun k hk => by injection hk with hk; omega)) (fun k o hk hko => mem_keep h3 (fun e => hk (by injection e)) hko) h3.size h4
/-- And the list that is put behind it. -/
theorem step_more {ops : Array Oper} {o : Oper} {a : Act} {w W0 : World} {K : Act → World → Prop} {Q : Exit → Act → World → Prop} {E : Prop} (ts qs : List Int) (b : Nat) (v : Value)
    (hg : o.guard = none) (s x : Operand) (ho : o.op = .call { callee := .builtin .append, args := #[s, x], argTypes := #[30, 30] })
    (hs : a.eval s = v) (hown : w.ownsRow W0.heap.size 3 1 v ts.length (ts.map (.int .i64))) (hx : a.eval x = .slice (some ⟨b, 0, none⟩) qs.length qs.length) (hb : w.heap[b]? = some (.cells (qs.map (.int .i64)).toArray 3 (0, 0)))
    (hlen : ts.length + qs.length ≤ 1000) (hE : Ext W0 w) (h : ∀ v' w' c', IntsC w' v' (ts ++ qs) c' → Ext W0 w' → K (a.put o.dst v') w') :
    if Region.wanted o (yielded ops a.tmps) = true then Oper.wp Tryd.prog o a w K Q else E := by
  obtain ⟨i3, hi3, hz3, hs3, hb3⟩ := info_parts int_info
  refine step_append_own2 hg s x 30 ho W0.heap.size 3 i3 (.int .i64 0) 1 8 Tryd.underlying30 hi3 hz3 hs3 hb3 rfl (by decide) v ts.length (ts.map (.int .i64)) hs hown ⟨b, 0, none⟩ qs.length qs.length (qs.map (.int .i64)) hx (by simp) (fun j u hj => ?_)
    (fun u hu => by obtain ⟨z, _, rfl⟩ := List.mem_map.1 hu; rfl) (by unfold maxLen; omega) (by omega) hE.size (fun v' w' hown' hg' hb' => ?_)
  · rw [Addr.add_lit, Nat.zero_add]
    exact cell_of_blk hb j (by simpa using hj)
  · obtain ⟨c', hi⟩ := ints_of_owns (xs := ts ++ qs) (w := w') (base := W0.heap.size) (e := 3) (v := v') (by rw [List.length_append, List.map_append]; exact hown') (by rw [List.length_append]; unfold lenMax; omega)
    refine h v' w' c' hi (Below.grown hE hg' hE.size (fun k hk => ?_))
    exact (hown.lt k hk).1
end Go.Proofs.YtamodjlifpjaoaaDoor

namespace Go.Proofs.YtamodjlifpjaoaaDoor
open Go.RowKit
set_option linter.unusedVariables false
set_option linter.unusedSimpArgs false
theorem afterR_ok {x : Lts} (h0 : checkI x = 0) {ts : List Int} (hl : ts.length ≤ 256) (ht : ∀ t ∈ ts, 0 ≤ t ∧ t ≤ x.ins + x.outs) : afterR x ts = (memI (tr x (begM x) ts), 0) := by
  unfold afterR
  rw [if_neg (by simpa using h0), if_neg (by omega), if_neg]
  rw [Bool.not_eq_true, List.any_eq_false]
  intro t h
  have := ht t h
  unfold badT
  simp
  omega
theorem mem_sorted (S : Nat) : (mem S).Pairwise (· < ·) := List.Pairwise.filter _ List.pairwise_lt_range
theorem badSt_mem {x : Lts} (hg : Good x) {S : Nat} (hS : S < 2 ^ x.n) : badSt x (memI S) = false := badSt_no fun i hi => by
  unfold memI at hi ⊢
  rw [List.length_map] at hi
  have hget : ∀ j (hj : j < (mem S).length), (List.map (fun (s : Nat) => (s : Int)) (mem S)).getD j 0 = (((mem S)[j] : Nat) : Int) := fun j hj => by
    rw [List.getD_eq_getElem?_getD, List.getElem?_map, List.getElem?_eq_getElem hj]; rfl
  have hb : (mem S)[i] < x.n := mask_bit hS (mem_bit (List.getElem_mem hi)).2
  unfold badS
  rw [hget i hi]
  have hn : x.n = x.rows.length := rfl
  rw [Bool.or_eq_false_iff, Bool.or_eq_false_iff]
  refine ⟨decide_eq_false (by omega), decide_eq_false (by omega), ?_⟩
  rw [Bool.and_eq_false_iff]
  by_cases h : 0 < i
  · right
    rw [hget (i - 1) (by omega)]
    have := List.pairwise_iff_getElem.1 (mem_sorted S) (i - 1) i (by omega) hi (by omega)
    exact decide_eq_false (by omega)
  · left; exact decide_eq_false h
theorem maskL_bit (ls : List Int) (t : Nat) : (maskL ls).testBit t = true ↔ ∃ n ∈ ls, n.toNat = t := by
  have h : maskL ls = ls.foldl (fun z (n : Int) => if (true : Bool) then z ||| 2 ^ n.toNat else z) 0 := rfl
  rw [h, or_fold (fun _ => true) (fun (n : Int) => 2 ^ n.toNat)]
  simp only [Nat.zero_testBit, Bool.false_or, Bool.true_and, List.any_eq_true, bit_one, decide_eq_true_eq]
theorem maskL_mem {S : Nat} (hS : S < 2 ^ 64) : maskL (memI S) = S := mask_eq fun t => by
  rw [Bool.eq_iff_iff, maskL_bit]
  unfold memI
  constructor
  · rintro ⟨n, hn, h⟩
    obtain ⟨s, hs, rfl⟩ := List.mem_map.1 hn
    have := (mem_iff hS).1 hs
    simp at h
    rw [← h]; exact this
  · intro h
    exact ⟨(t : Int), List.mem_map.2 ⟨t, (mem_iff hS).2 h, rfl⟩, by simp⟩
theorem observeR_ok {x : Lts} (h0 : checkI x = 0) {S : Nat} (hS : S < 2 ^ x.n) : observeR x (memI S) = (obsM x S, 0) := by
  have hg := check_good h0
  unfold observeR
  rw [if_neg (by simpa using h0), badSt_mem hg hS, if_neg (by simp), maskL_mem (hg.mask64 hS)]
/-- Quiet, observed twice. -/
theorem quiet_again {x : Lts} (hg : Good x) {S : Nat} (hS : S < 2 ^ x.n) : aftM x (aftM x S (x.ins + x.outs)) (x.ins + x.outs) = aftM x S (x.ins + x.outs) := by
  have h64 := hg.mask64 hS
  have e : ∀ T, aftM x T (x.ins + x.outs) = aftQ x (mem T) := fun T => by unfold aftM; rw [if_pos rfl]
  have hlt : aftQ x (mem S) < 2 ^ 64 := by rw [← e]; exact hg.mask64 (aftM_lt hg hS _)
  rw [e, e]
  refine mask_eq fun t => ?_
  rw [Bool.eq_iff_iff, aftQ_bit, aftQ_bit, mem_iff hlt, aftQ_bit]
  exact ⟨fun h => h.1, fun h => ⟨h, h.2⟩⟩
theorem tr_again {x : Lts} (hg : Good x) (ts : List Int) : tr x (begM x) (ts ++ [x.ins + x.outs, x.ins + x.outs]) = tr x (begM x) (ts ++ [x.ins + x.outs]) := by
  have h : ts ++ [x.ins + x.outs, x.ins + x.outs] = (ts ++ [x.ins + x.outs]) ++ [x.ins + x.outs] := by simp
  rw [h, tr_snoc, tr_snoc, quiet_again hg (tr_lt hg ts (begM_lt hg))]
theorem trN_ok {x : Lts} (hg : Good x) (ns : List Nat) : ∀ t ∈ (trN x ns).map (fun (s : Nat) => (s : Int)), 0 ≤ t ∧ t ≤ x.ins + x.outs := fun t ht => by
  obtain ⟨n, hn, rfl⟩ := List.mem_map.1 ht
  exact ⟨by omega, trN_lt hg ns n hn⟩
theorem trN_len (x : Lts) (ns : List Nat) : ((trN x ns).map (fun (s : Nat) => (s : Int))).length ≤ 8 := by
  unfold trN
  rw [List.length_map, List.length_map]
  exact List.length_take_le 8 ns
theorem same_self {xs : List Int} {c : Nat} (hc : c = xs.length) : sameB xs xs c 0 = true := by unfold sameB; simp [hc]
end Go.Proofs.YtamodjlifpjaoaaDoor

namespace Go.Proofs.YtamodjlifpjaoaaDoor
open Go.RowKit
set_option linter.unusedVariables false
set_option linter.unusedSimpArgs false
attribute [local go_sem] Oper.quietV quietV Oper.gives givesV ext_refl_iff ext_alloc_iff ext_drew_iff ext_drewN_iff
def AfterC (W : World) (ts : List Int) (e : Ending) (w' : World) : Prop := ∃ rv, e = .returned (.tuple #[rv, .int .i64 0]) ∧ FitC w' rv ts ∧ Ext W w'
set_option maxRecDepth 100000 in
set_option maxHeartbeats 16000000 in
theorem iocosAfter_any (w : World) (bv v : Value) (r : BNum) (ns : List Nat) (cv : Nat) (hb : BV w bv r) (hv : U8sC w v ns cv) (hT : Tab w) :
    Calls Tryd.prog 3 #[bv, v] w fun e w' => e = .returned (.bool true) ∧ Ext w w' := by
  have hof := fun W (e : Ext w W) => bOf_any W bv r (hb.ext e)
  obtain ⟨A, c, rfl, hA, h1, h2, h3, _, hnm⟩ := id hb
  have HX := Lib.hid (And.intro hv hT)
  clear hb hv hT hA
  go_enter Tryd.func3, Tryd.ntmps3
  go_upto_region 1 with fail
  refine wp_named ?_
  intro W1 hW1
  have hE1 : Ext w W1 := by rw [hW1]; exact (Ext.refl _).alloc _
  have k0 : W1.cell? ⟨w.heap.size, 0, none⟩ = some (.int .u8 r.i) := by rw [hW1]; simp [go_sem]
  have k1 : W1.cell? ⟨w.heap.size, 1, none⟩ = some (.int .u8 r.o) := by rw [hW1]; simp [go_sem]
  have k2 : W1.cell? ⟨w.heap.size, 2, none⟩ = some (.int .u8 r.m) := by rw [hW1]; simp [go_sem]
  have k3 : W1.cell? ⟨w.heap.size, 3, none⟩ = some (.slice A r.n c) := by rw [hW1]; simp [go_sem]
  have k4 : W1.cell? ⟨w.heap.size, 4, none⟩ = some (.bool r.f) := by rw [hW1]; simp [go_sem]
  clear hW1
  generalize w.heap.size = b2 at *
  have hof := hof W1 hE1
  go_upto_region 2 with (first
    | ((with_reducible refine hof.mono ?_); rintro e W2 ⟨x, A2, c2, rfl, hL2, hB2, e2⟩)
    | (with_reducible refine wpList_store_blk _ rfl 28 _ _ rfl W2.heap.size 28 _ _ rfl rfl (heap_alloc_new _ _) (by kernel_rfl) (by kernel_rfl) (by kernel_rfl) ?_; intro W3 h3' g3))
  have e3 : Ext W2 W3 := Below.grown (alloc_ext W2 _) g3 (alloc_ext W2 _).size (fun k hk => by cases hk; exact Nat.le_refl _)
  have hE3 := hE1.trans (e2.trans e3)
  have d0 : ∀ w', Ext W3 w' → w'.cell? ⟨W2.heap.size, 0, none⟩ = some (.int .i64 x.ins) := fun w' h => h.cell (cell_of_blk h3' 0 rfl)
  have d1 : ∀ w', Ext W3 w' → w'.cell? ⟨W2.heap.size, 1, none⟩ = some (.int .i64 x.outs) := fun w' h => h.cell (cell_of_blk h3' 1 rfl)
  have d2 : ∀ w', Ext W3 w' → w'.cell? ⟨W2.heap.size, 2, none⟩ = some (.slice A2 x.rows.length c2) := fun w' h => h.cell (cell_of_blk h3' 2 rfl)
  have HE3 := Lib.hid hE3
  have hg := check_good hB2.good
  have hL3 := hL2.ext e3
  have hT3 := HX.out.2.ext hE3
  obtain ⟨ts, hts⟩ : ∃ ts, ts = (trN x ns).map (fun (s : Nat) => (s : Int)) := ⟨_, rfl⟩
  have hok := trN_ok hg ns
  have hlen := trN_len x ns
  have htr : ∀ W, Ext W3 W → Calls Tryd.prog 12 #[v, .agg #[.int .i64 x.ins, .int .i64 x.outs, .slice A2 x.rows.length c2]] W fun e w' => ∃ rv c, e = .returned rv ∧ IntsC w' rv ts c ∧ Ext W w' := fun W e => by
    rw [hts]; exact trace_any W v _ x ns cv (HX.out.1.ext (hE3.trans e)) (hL3.ext e) hg
  rw [← hts] at hok hlen
  have haf : ∀ W tv us ct, Ext W3 W → IntsC W tv us ct → us.length ≤ 256 → (∀ t ∈ us, 0 ≤ t ∧ t ≤ x.ins + x.outs) → Calls Tryd.prog 13 #[.agg #[.int .i64 x.ins, .int .i64 x.outs, .slice A2 x.rows.length c2], tv] W (AfterC W (memI (tr x (begM x) us))) := fun W tv us ct e hi hl ho => by
    have := After_any W _ x tv us ct (hL3.ext e) hi (hT3.ext e)
    rw [afterR_ok hB2.good hl ho] at this
    exact this
  have hrf := fun W tv us ct (e : Ext W3 W) (hi : IntsC W tv us ct) ho => refAfter_any W _ tv x us ct (hL3.ext e) hg hi ho
  have hob : ∀ W tv S ct, Ext W3 W → IntsC W tv (memI S) ct → S < 2 ^ x.n → Calls Tryd.prog 16 #[.agg #[.int .i64 x.ins, .int .i64 x.outs, .slice A2 x.rows.length c2], tv] W (AfterC W (obsM x S)) := fun W tv S ct e hi hS => by
    have := Observe_any W _ x tv (memI S) ct (hL3.ext e) hi (hT3.ext e)
    rw [observeR_ok hB2.good hS] at this
    exact this
  have hro := fun W tv S ct (e : Ext W3 W) (hi : IntsC W tv (memI S) ct) hS => refObserve_any W _ tv x S ct (hL3.ext e) hg hS hi
  have hac : ∀ W, Ext W3 W → Calls Tryd.prog 17 #[.agg #[.int .i64 x.ins, .int .i64 x.outs, .slice A2 x.rows.length c2]] W fun e w' => e = .returned (.tuple #[.bool (accB x), .int .i64 0]) ∧ Ext W w' := fun W e => by
    have := Accepts_any W _ x (hL3.ext e) (hT3.ext e)
    rw [show acceptsR x = (accB x, 0) from if_neg (by simpa using hB2.good)] at this
    exact this
  have hra := fun W (e : Ext W3 W) => refAccepts_any W _ x (hL3.ext e) hg
  have hlv := fun W (e : Ext W3 W) => lives_any W (hT3.ext e)
  have hS := tr_lt hg ts (begM_lt hg)
  have hag := tr_again hg ts
  have hio := Lib.hid (And.intro hg.ins hg.outs)
  have HT := Lib.hid (And.intro hok hlen)
  have HS := Lib.hid hS
  have HAG := Lib.hid hag
  have HF := Lib.hid (And.intro haf (And.intro hob (And.intro hro (And.intro hac (And.intro hra hlv)))))
  clear hof h3' g3 e3 hE3 hE1 e2 hL2 hB2 hg hL3 hT3 hts hok hlen hS hag k0 k1 k2 k3 k4 HX
  generalize W2.heap.size = b5 at *
  have hE0 := Ext.refl W3
  have htr := htr W3 hE0
  go_upto_region 3 with ((with_reducible refine htr.mono ?_); rintro e W4 ⟨tv, ct, rfl, hi4, e4⟩)
  have HI4 := Lib.hid (And.intro hi4 e4)
  have d0 := fun w' (h : Ext W4 w') => d0 w' (e4.trans h)
  have d1 := fun w' (h : Ext W4 w') => d1 w' (e4.trans h)
  have d2 := fun w' (h : Ext W4 w') => d2 w' (e4.trans h)
  have hE4 := Ext.refl W4
  have haf4 := haf W4 tv ts ct e4 hi4 (by have := HT.out.2; omega) HT.out.1
  clear htr hi4 e4 hE0 haf hob hro hac hra hlv
  go_upto_region 4 with ((with_reducible refine haf4.mono ?_); rintro e W5 ⟨s5, rfl, hf5, e5⟩)
  have hrf5 := hrf W5 tv ts ct (HI4.out.2.trans e5) (HI4.out.1.ext e5) HT.out.1
  have HI5 := Lib.hid (And.intro hf5 e5)
  have d0 := fun w' (h : Ext W5 w') => d0 w' (e5.trans h)
  have d1 := fun w' (h : Ext W5 w') => d1 w' (e5.trans h)
  have d2 := fun w' (h : Ext W5 w') => d2 w' (e5.trans h)
  have hE5 := Ext.refl W5
  clear hf5 e5 haf4 hrf hE4
  go_upto_region 5 with ((with_reducible refine hrf5.mono ?_); rintro e W6 ⟨w6, c6, rfl, hi6, e6⟩)
  have hS6 := HS.out
  obtain ⟨S, hSS⟩ : ∃ S, S = tr x (begM x) ts := ⟨_, rfl⟩
  rw [← hSS] at hi6 HI5 hS6
  have HSS := Lib.hid hSS
  have hsm6 := sameE_any W6 s5 w6 (memI S) (memI S) _ c6 0 (HI5.out.1.ext e6) hi6 (by have := memI_len S; omega)
  rw [same_self rfl, show b01 true = 1 from rfl] at hsm6
  have hE36 := HI4.out.2.trans (HI5.out.2.trans e6)
  have d0 := fun w' (h : Ext W6 w') => d0 w' (e6.trans h)
  have d1 := fun w' (h : Ext W6 w') => d1 w' (e6.trans h)
  have d2 := fun w' (h : Ext W6 w') => d2 w' (e6.trans h)
  have HI6 := Lib.hid (And.intro hi6 (And.intro hS6 hE36))
  have HE56 := Lib.hid e6
  have hE6 := Ext.refl W6
  clear hi6 hS6 hSS e6 hE5 hrf5 hE36
  go_upto_region 7 with ((with_reducible refine hsm6.mono ?_); rintro e W7 ⟨rfl, e7⟩)
  have hob7 := HF.out.2.1 W7 w6 S c6 (HI6.out.2.2.trans e7) (HI6.out.1.ext e7) HI6.out.2.1
  have d0 := fun w' (h : Ext W7 w') => d0 w' (e7.trans h)
  have d1 := fun w' (h : Ext W7 w') => d1 w' (e7.trans h)
  have d2 := fun w' (h : Ext W7 w') => d2 w' (e7.trans h)
  have HE7 := Lib.hid e7
  have hE7 := Ext.refl W7
  clear hsm6 e7 hE6
  go_upto_region 8 with ((with_reducible refine hob7.mono ?_); rintro e W8 ⟨o8, rfl, hf8, e8⟩)
  have hac8 := HF.out.2.2.2.1 W8 (HI6.out.2.2.trans (HE7.out.trans e8))
  have d0 := fun w' (h : Ext W8 w') => d0 w' (e8.trans h)
  have d1 := fun w' (h : Ext W8 w') => d1 w' (e8.trans h)
  have d2 := fun w' (h : Ext W8 w') => d2 w' (e8.trans h)
  have HI8 := Lib.hid (And.intro hf8 e8)
  have hE8 := Ext.refl W8
  clear hob7 hf8 e8 hE7
  go_upto_region 9 with ((with_reducible refine hac8.mono ?_); rintro e W9 ⟨rfl, e9⟩)
  have hE39 := HI6.out.2.2.trans (HE7.out.trans (HI8.out.2.trans e9))
  have hro9 := HF.out.2.2.1 W9 w6 S c6 hE39 (HI6.out.1.ext (HE7.out.trans (HI8.out.2.trans e9))) HI6.out.2.1
  have d0 := fun w' (h : Ext W9 w') => d0 w' (e9.trans h)
  have d1 := fun w' (h : Ext W9 w') => d1 w' (e9.trans h)
  have d2 := fun w' (h : Ext W9 w') => d2 w' (e9.trans h)
  have HI9 := Lib.hid (And.intro (HI8.out.1.ext e9) hE39)
  have HE412 := Lib.hid (HI5.out.2.trans (HE56.out.trans (HE7.out.trans (HI8.out.2.trans e9))))
  have hE9 := Ext.refl W9
  clear hac8 e9 hE8 hE39
  have hsm9 : ∀ W v c, Ext W9 W → IntsC W v (obsM x S) c → Calls Tryd.prog 15 #[o8, .int .i64 0, v] W fun r w' => r = .returned (.int .i64 1) ∧ Ext W w' := fun W v c e hi => by
    have := sameE_any W o8 v (obsM x S) (obsM x S) _ c 0 (HI9.out.1.ext e) hi (by have h := obsJ_len x S (x.O + 1); rw [obsJ_all] at h; have h2 := hio.out.2; unfold Lts.O at h; omega)
    rw [same_self rfl] at this
    exact this
  have hra9 := fun W (e : Ext W9 W) => HF.out.2.2.2.2.1 W (HI9.out.2.trans e)
  have hbb : ∀ b : Bool, (b != (b01 b == 1)) = false := by intro b; cases b <;> rfl
  have hbb := hbb (accB x)
  have hbb2 : (!accB x == (b01 (accB x) == 1)) = false := hbb
  go_upto_region 11 with (first
    | ((with_reducible refine hro9.mono ?_); rintro e W10 ⟨v10, c10, rfl, hi10, e10⟩; have hsm10 := hsm9 W10 v10 c10 e10 hi10)
    | ((with_reducible refine hsm10.mono ?_); rintro e W11 ⟨rfl, e11⟩; have hra11 := hra9 W11 (e10.trans e11); have d0' := d0 W11 (e10.trans e11); have d1' := d1 W11 (e10.trans e11); have d2' := d2 W11 (e10.trans e11))
    | ((with_reducible refine hra11.mono ?_); rintro e W12 ⟨rfl, e12⟩))
  have e912 := e10.trans (e11.trans e12)
  have d0 := fun w' (h : Ext W12 w') => d0 w' (e912.trans h)
  have d1 := fun w' (h : Ext W12 w') => d1 w' (e912.trans h)
  have d2 := fun w' (h : Ext W12 w') => d2 w' (e912.trans h)
  have HE12 := Lib.hid (HI9.out.2.trans e912)
  have HTV := Lib.hid (HI4.out.1.ext (HE412.out.trans e912))
  have hE12 := Ext.refl W12
  have b1' := hio.out.1
  have b2' := hio.out.2
  clear hro9 hsm9 hra9 hsm10 hra11 hi10 e10 e11 e12 e912 hbb hbb2 d0' d1' d2' hE9
  go_upto_region 12 with fail
  generalize hq : x.ins + x.outs = q
  have HQ := Lib.hid (And.intro hq (And.intro b1' b2'))
  clear hq b1' b2'
  have hoq : ∀ t ∈ ts ++ [q], 0 ≤ t ∧ t ≤ x.ins + x.outs := fun t ht => by
    rcases List.mem_append.1 ht with h | h
    · exact HT.out.1 t h
    · have := HQ.out; rw [List.mem_singleton.1 h]; omega
  have HOQ := Lib.hid hoq
  clear hoq
  have hoq2 : ∀ t ∈ ts ++ [q, q], 0 ≤ t ∧ t ≤ x.ins + x.outs := fun t ht => by
    rcases List.mem_append.1 ht with h | h
    · exact HT.out.1 t h
    · have := HQ.out; simp at h; rw [h]; omega
  have HOQ2 := Lib.hid hoq2
  clear hoq2
  go_cut [15, 8] (fun av ev wx => ev = .int .i64 0 ∧ FitC wx av (memI (tr x (begM x) (ts ++ [q]))) ∧ Ext W12 wx)
  case first =>
    have hn1 : ((W12.drew.alloc (.cells #[] 3)).alloc (.cells #[.int .i64 q] 3)).heap[W12.heap.size + 1]? = some (.cells #[.int .i64 q] 3) := by have := heap_alloc_new (W12.drew.alloc (.cells #[] 3)) (.cells #[.int .i64 q] 3); simpa using this
    have hn2 : ((W12.drew.alloc (.cells #[.int .i64 q] 3)).alloc (.cells #[] 3)).heap[W12.heap.size]? = some (.cells #[.int .i64 q] 3) := heap_ext (alloc_ext _ _) (heap_alloc_new W12.drew _)
    have hn3 : ((W12.drew.alloc (.cells #[.int .i64 q] 3)).alloc (.cells #[] 3)).heap[W12.heap.size + 1]? = some (.cells #[] 3) := by have := heap_alloc_new (W12.drew.alloc (.cells #[.int .i64 q] 3)) (.cells #[] 3); simpa using this
    have hn4 : ((W12.drew.alloc (.cells #[] 3)).alloc (.cells #[.int .i64 q] 3)).heap[W12.heap.size]? = some (.cells #[] 3) := heap_ext (alloc_ext _ _) (heap_alloc_new W12.drew _)
    go_region_held3 (fun w' => Ext W12 w') ((repeat (first | assumption | exact Ext.refl _ | refine Ext.drew ?_ | refine Ext.alloc ?_ _))) (first
      | (refine step_open (W0 := W12) ts ct _ tv rfl _ _ rfl (by rfl) (by rfl) HTV.out (by have := HT.out.2; omega) (by repeat (first | assumption | exact Ext.refl _ | refine Ext.drew ?_ | refine Ext.alloc ?_ _)) (by first | exact heap_alloc_new _ _ | exact hn3 | exact hn4) (by simp) ?_; intro vA wA hrA eA hpA hsA hkA)
      | (refine step_more (W0 := W12) ts [q] _ vA rfl _ _ rfl (by rfl) (by first | exact hrA | exact World.ownsRow.alloc hrA _) (by rfl) (by first | exact heap_alloc_new _ _ | exact hpA _ _ (by simp) hn1 | exact hpA _ _ (by simp) hn2) (by have := HT.out.2; simp; omega) (by repeat (first | assumption | exact Ext.refl _ | refine Ext.drew ?_ | refine Ext.alloc ?_ _)) ?_; intro vB wB cB hiB eB)
      | ((with_reducible refine (HF.out.1 wB vB (ts ++ [q]) cB (HE12.out.trans eB) hiB (by have := HT.out.2; simp; omega) HOQ.out).mono ?_); rintro e wC ⟨aC, rfl, hfC, eC⟩; have eC' := eB.trans eC))
    all_goals go_wp2
    all_goals go_meet
    all_goals exact ⟨rfl, hfC, eC'⟩
  case rest =>
    obtain ⟨rfl, hfa, e13⟩ := hcut
    obtain ⟨W13, hW13⟩ : ∃ W, W = wc := ⟨_, rfl⟩; subst hW13
    have d0 := fun w' (h : Ext W13 w') => d0 w' (e13.trans h)
    have d1 := fun w' (h : Ext W13 w') => d1 w' (e13.trans h)
    have d2 := fun w' (h : Ext W13 w') => d2 w' (e13.trans h)
    have HE13 := Lib.hid (HE12.out.trans e13)
    have HTV2 := Lib.hid (HTV.out.ext e13)
    have HFA := Lib.hid hfa
    have hE13 := Ext.refl W13
    clear hfa e13 hE12
    go_upto_region 13 with fail
    go_cut [16, 11] (fun av ev wx => ev = .int .i64 0 ∧ FitC wx av (memI (tr x (begM x) (ts ++ [q, q]))) ∧ Ext W13 wx)
    case first =>
      have hn1 : ((W13.drew.alloc (.cells #[] 3)).alloc (.cells #[.int .i64 q, .int .i64 q] 3)).heap[W13.heap.size + 1]? = some (.cells #[.int .i64 q, .int .i64 q] 3) := by have := heap_alloc_new (W13.drew.alloc (.cells #[] 3)) (.cells #[.int .i64 q, .int .i64 q] 3); simpa using this
      have hn2 : ((W13.drew.alloc (.cells #[.int .i64 q, .int .i64 q] 3)).alloc (.cells #[] 3)).heap[W13.heap.size]? = some (.cells #[.int .i64 q, .int .i64 q] 3) := heap_ext (alloc_ext _ _) (heap_alloc_new W13.drew _)
      have hn3 : ((W13.drew.alloc (.cells #[.int .i64 q, .int .i64 q] 3)).alloc (.cells #[] 3)).heap[W13.heap.size + 1]? = some (.cells #[] 3) := by have := heap_alloc_new (W13.drew.alloc (.cells #[.int .i64 q, .int .i64 q] 3)) (.cells #[] 3); simpa using this
      have hn4 : ((W13.drew.alloc (.cells #[] 3)).alloc (.cells #[.int .i64 q, .int .i64 q] 3)).heap[W13.heap.size]? = some (.cells #[] 3) := heap_ext (alloc_ext _ _) (heap_alloc_new W13.drew _)
      go_region_held3 (fun w' => Ext W13 w') ((repeat (first | assumption | exact Ext.refl _ | refine Ext.drew ?_ | refine Ext.alloc ?_ _))) (first
        | (refine step_open (W0 := W13) ts ct _ tv rfl _ _ rfl (by rfl) (by rfl) HTV2.out (by have := HT.out.2; omega) (by repeat (first | assumption | exact Ext.refl _ | refine Ext.drew ?_ | refine Ext.alloc ?_ _)) (by first | exact heap_alloc_new _ _ | exact hn3 | exact hn4) (by simp) ?_; intro vA wA hrA eA hpA hsA hkA)
        | (refine step_more (W0 := W13) ts [q, q] _ vA rfl _ _ rfl (by rfl) (by first | exact hrA | exact World.ownsRow.alloc hrA _) (by rfl) (by first | exact heap_alloc_new _ _ | exact hpA _ _ (by simp) hn1 | exact hpA _ _ (by simp) hn2) (by have := HT.out.2; simp; omega) (by repeat (first | assumption | exact Ext.refl _ | refine Ext.drew ?_ | refine Ext.alloc ?_ _)) ?_; intro vB wB cB hiB eB)
        | ((with_reducible refine (HF.out.1 wB vB (ts ++ [q, q]) cB (HE13.out.trans eB) hiB (by have := HT.out.2; simp; omega) HOQ2.out).mono ?_); rintro e wC ⟨aC, rfl, hfC, eC⟩; have eC' := eB.trans eC))
      all_goals go_wp2
      all_goals go_meet
      all_goals exact ⟨rfl, hfC, eC'⟩
    case rest =>
      obtain ⟨rfl, hfb, e14⟩ := hcut
      obtain ⟨W14, hW14⟩ : ∃ W, W = wc := ⟨_, rfl⟩; subst hW14
      have hag : tr x (begM x) (ts ++ [q, q]) = tr x (begM x) (ts ++ [q]) := by rw [← HQ.out.1]; exact HAG.out
      rw [hag] at hfb
      have hsm14 := sameE_any W14 _ _ _ _ _ _ 0 hfb (HFA.out.ext e14) (by have := memI_len (tr x (begM x) (ts ++ [q])); omega)
      rw [same_self rfl, show b01 true = 1 from rfl] at hsm14
      have hlv := fun W (e : Ext W14 W) => HF.out.2.2.2.2.2 W (HE13.out.trans (e14.trans e))
      have HE14 := Lib.hid e14
      clear hfb hag e14 hE13 d0 d1 d2
      go_wp2_with (first
        | ((with_reducible refine hsm14.mono ?_); rintro e W15 ⟨rfl, e15⟩; have hlv15 := hlv W15 e15)
        | ((with_reducible refine hlv15.mono ?_); rintro e W16 ⟨rfl, e16⟩))
      go_ret
      exact ⟨rfl, HE3.out.trans (HE13.out.trans (HE14.out.trans (e15.trans e16)))⟩
end Go.Proofs.YtamodjlifpjaoaaDoor
