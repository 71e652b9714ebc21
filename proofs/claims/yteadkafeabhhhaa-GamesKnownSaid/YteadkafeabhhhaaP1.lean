/- games.Supervisor, its first part: what is kept. -/
import Derived.Test.YteadkafeabhhhaaP0
import Derived.Test.YteadkafeabhhhaaG2
import Derived.Test.YteadkafeabhhhaaMap2
import Derived.Test.YteadkafeabhhhaaG7
import Derived.Deep.CutBlock
namespace Go.Proofs.Yteadkafeabhhhaa
open Go.RowKit
set_option linter.unusedVariables false
set_option linter.unusedSimpArgs false
attribute [local go_sem] Oper.quietV quietV Oper.gives givesV ext_refl_iff ext_alloc_iff ext_drew_iff ext_drewN_iff

def supE (m : Mach) (th bad : List Bool) : Int :=
  if checkM m ≠ 0 then checkM m else if (th.length : Int) ≠ m.ins ∨ bad.length ≠ m.rows.length then 16 else if (dropL m th bad).getD 0 false then 7 else 0
def supRes (m : Mach) (th bad : List Bool) : Mach := if supE m th bad = 0 then supM m th bad else ⟨0, 0, []⟩
/-- Rows whose memory lies at B or beyond. -/
def RowsN (B : Nat) (w : World) (v : Value) (rows : List (List (Int × Int))) (c : Nat) : Prop := ∀ w' : World, (∀ b, B ≤ b → b < w.heap.size → w'.heap[b]? = w.heap[b]?) → RowsC w' v rows c
theorem RowsN.self {B : Nat} {w : World} {v : Value} {rows : List (List (Int × Int))} {c : Nat} (h : RowsN B w v rows c) : RowsC w v rows c := h w (fun _ _ _ => rfl)
def SupP (m : Mach) (th bad : List Bool) (w : World) (e : Ending) (w' : World) : Prop :=
  (∃ rv, e = .returned (.tuple #[.agg #[.int .i64 (supRes m th bad).ins, .int .i64 (supRes m th bad).outs, rv], .int .i64 (supE m th bad)]) ∧ RowsN w.heap.size w' rv (supRes m th bad).rows (supRes m th bad).rows.length) ∧ Ext w w'
theorem rows_nil (W : World) : RowsC W (.slice none 0 0) [] 0 := ⟨none, [], rfl, Cells.nil _ _, rfl, fun i u es h => by simp at h, Nat.le_refl _, by unfold lenMax; simp⟩

def keepV (d : List Bool) : List Value := d.map (fun b => .bool (!b))
theorem keepV_get {d : List Bool} {s : Nat} (h : s < d.length) : (keepV d)[s]? = some (.bool (!(d.getD s false))) := by unfold keepV; simp [List.getD, h]
theorem keepV_set {d : List Bool} {s : Nat} : (keepV d).set s (.bool false) = keepV (d.set s true) := by unfold keepV; rw [List.map_set]; rfl
theorem keepV_fill (bad : List Bool) {n : Nat} (h : bad.length = n) : fillB (fun i => !(bad.getD i false)) n n = keepV bad := by
  unfold fillB keepV
  apply List.ext_getElem
  · simp [h]
  · intro i h1 h2
    have hi : i < n := by simpa using h1
    simp [List.getD, h, hi]
def keepCnt (g : Nat) (w : World) : Nat := match w.heap[g]? with | some (.cells cs _ _) => cs.toList.countP (fun v => match v with | .bool false => true | _ => false) | _ => 0
theorem keepCnt_eq {w W : World} {L : List Asn} (h : OwnL w W L) (k : Nat) {g n : Nat} {d : List Bool} (hk : L[k]? = some (.row 4 1 (.slice (some ⟨g, 0, none⟩) n n) n (keepV d))) : keepCnt g W = cntD d := by
  have h1 : W.ownsRow w.heap.size 4 1 (.slice (some ⟨g, 0, none⟩) n n) n (keepV d) := h.get k hk
  rcases h1.2 with ⟨h2, _⟩ | ⟨g', cap, cur, hv, _, hg, _, _, hcs, htake⟩
  · cases h2
  · simp only [Value.slice.injEq, Option.some.injEq, Addr.mk.injEq, and_true, true_and] at hv
    obtain ⟨rfl, rfl⟩ := hv
    unfold keepCnt
    rw [hg]
    have hl : cur.toList.take (n * 1) = cur.toList := List.take_of_length_le (by rw [Array.length_toList, hcs]; exact Nat.le_refl _)
    rw [hl] at htake
    show cur.toList.countP _ = _
    rw [htake]
    unfold keepV cntD
    rw [List.countP_map]
    unfold List.count
    congr 1
    funext b
    cases b <;> rfl
def ordV (o : List Nat) : List Value := o.map (fun (s : Nat) => Value.int .i64 (s : Int))
def eRow (es : List (Int × Int)) : Nat × List Value := (es.length, es.flatMap edgeCells)
theorem rows_of_own {W : World} {B : Nat} {A : Option Addr} {c : Nat} {vs : List Value} {rows : List (List (Int × Int))} (h : OwnRows W B 53 52 2 (.slice A rows.length c) vs (rows.map eRow)) (hl : rows.length ≤ 1000) (hr : ∀ r ∈ rows, r.length ≤ 1000) : RowsC W (.slice A rows.length rows.length) rows rows.length := by
  have hlen : vs.length = rows.length := by rw [h.len]; simp
  obtain ⟨A', c', hv, _, hc⟩ := cells_of_owns h.own
  rw [hlen] at hv
  cases hv
  refine ⟨A, vs, rfl, hc, hlen, fun i u es hu hes => ?_, Nat.le_refl _, by unfold lenMax; omega⟩
  have h1 := h.each i u (eRow es) hu (by rw [List.getElem?_map, hes]; rfl)
  obtain ⟨A2, c2, rfl, h3, h4⟩ := cells_of_owns h1
  exact ⟨c2, A2, rfl, h4, h3, by have := hr es (List.mem_of_getElem? hes); unfold lenMax; omega⟩
theorem slice_nil_cap {W : World} {B e s n c : Nat} {xs : List Value} {A : Option Addr} (h : W.ownsRow B e s (.slice A n c) n xs) : A = none → n = 0 ∧ c = 0 := fun hA => by
  subst hA
  rcases h.2 with ⟨h1, h2⟩ | ⟨g, cap, cur, h1, _⟩
  · simp only [Value.slice.injEq] at h1; exact ⟨h1.2.1, h1.2.2⟩
  · simp only [Value.slice.injEq] at h1; cases h1.1
theorem slices_info : (Try.prog.info? 53).map (fun i => (i.zero, i.size, i.bytes)) = some (some (.slice none 0 0), 1, 24) := by kernel_rfl
def mb : Value → Nat | .bool true => 1 | _ => 0
/-- A pass over the edges has come to the pair s, i. -/
def Pass (m : Mach) (th bad d0 : List Bool) (s i : Nat) (d : List Bool) (more : Bool) : Prop :=
  SoundD m th bad d ∧ ((more = false ∧ d = d0 ∧ (∀ s', s' < s → ∀ i', i' < (m.row s').length → OkAt m th d0 s' i') ∧ ∀ i', i' < i → OkAt m th d0 s i') ∨ (more = true ∧ cntD d0 < cntD d))
theorem Pass.next {m : Mach} {th bad d0 d : List Bool} {s : Nat} {more : Bool} (h : Pass m th bad d0 s (m.row s).length d more) : Pass m th bad d0 (s + 1) 0 d more := by
  refine ⟨h.1, h.2.imp (fun ⟨h1, h2, h3, h4⟩ => ⟨h1, h2, fun s' hs' => ?_, fun i' hi' => by omega⟩) id⟩
  by_cases hss : s' = s
  · subst hss; exact h4
  · exact h3 s' (by omega)

theorem sup_fin {m : Mach} {th bad d : List Bool} {w W : World} {B k c : Nat} {A : Option Addr} {vs : List Value} (hV : Valid m) (hs : supE m th bad = 0)
    (hres : supRes m th bad = { ins := m.ins, outs := m.outs, rows := (List.range k).map (supR m d) }) (hk : k ≤ 64) (hE : Ext w W) (hB : w.heap.size ≤ B)
    (h : OwnRows W B 53 52 2 (.slice A k c) vs ((List.range k).map (fun j => eRow (supR m d j)))) :
    SupP m th bad w (.returned (.tuple #[.agg #[.int .i64 m.ins, .int .i64 m.outs, .slice A k k], .int .i64 0])) W := by
  refine ⟨⟨.slice A k k, by rw [hs, hres], ?_⟩, hE⟩
  rw [hres]
  intro w5 hb5
  have h := h.of (w' := w5) (fun b hv => hb5 b (by have := (h.own.lt b hv).1; omega) (h.own.lt b hv).2) (fun u hu b hb => hb5 b (by have := (h.lt hu hb).1; omega) (h.lt hu hb).2)
  have h1 : ((List.range k).map (supR m d)).length = k := by simp
  have h3 : OwnRows w5 B 53 52 2 (.slice A ((List.range k).map (supR m d)).length c) vs (((List.range k).map (supR m d)).map eRow) := by
    rw [h1, List.map_map]; exact h
  have h4 := rows_of_own h3 (by rw [h1]; omega) (fun r hr => by
    obtain ⟨j, _, rfl⟩ := List.mem_map.1 hr
    unfold supR
    split
    · rename_i s hs
      unfold rowN; rw [List.length_map, List.length_range]; have := row_le hV s; omega
    · simp)
  rw [h1] at h4
  show RowsC w5 (.slice A k k) ((List.range k).map (supR m d)) ((List.range k).map (supR m d)).length
  rw [h1]
  exact h4
set_option maxRecDepth 100000 in
set_option maxHeartbeats 4000000 in
theorem Supervisor_any (w : World) (mv tv bv : Value) (m : Mach) (hm : MachV w mv m) (th bad : List Bool) (ct cb : Nat) (ht : BoolsC w tv th ct) (hb : BoolsC w bv bad cb) :
    Calls Try.prog 24 #[mv, tv, bv] w (SupP m th bad w) := by
  have hm0 := hm
  obtain ⟨rv, c, rfl, hr⟩ := hm
  obtain ⟨A, vs0, rfl, _, _, _, _, hrm⟩ := id hr
  obtain ⟨At, rfl, htc, _, htm⟩ := id ht
  obtain ⟨Ab, rfl, hbc, _, hbm⟩ := id hb
  unfold lenMax at hrm htm hbm
  go_enter Try.func24, Try.ntmps24
  go_upto_region 1 with fail
  refine wp_named ?_
  intro W1 hW1
  obtain ⟨Wb, hWb⟩ : ∃ Wb, Wb = w.alloc (.cells #[.int .i64 m.ins, .int .i64 m.outs, .slice A m.rows.length c] 29) := ⟨_, rfl⟩
  rw [← hWb] at hW1
  have hEb : Ext w Wb := by rw [hWb]; exact alloc_ext _ _
  have hbs : Wb.heap.size = w.heap.size + 1 := by rw [hWb]; simp
  have k0 : ∀ w', Ext Wb w' → w'.cell? ⟨w.heap.size, 0, none⟩ = some (.int .i64 m.ins) := fun w' h => h.cell (by rw [hWb]; simp [go_sem])
  have k1 : ∀ w', Ext Wb w' → w'.cell? ⟨w.heap.size, 1, none⟩ = some (.int .i64 m.outs) := fun w' h => h.cell (by rw [hWb]; simp [go_sem])
  have k2 : ∀ w', Ext Wb w' → w'.cell? ⟨w.heap.size, 2, none⟩ = some (.slice A m.rows.length c) := fun w' h => h.cell (by rw [hWb]; simp [go_sem])
  have hO1 : OwnL Wb W1 [.blk (w.heap.size + 1) (.cells #[.int .i64 0, .int .i64 0, .slice none 0 0] 29)] := by
    rw [hW1]; exact (OwnL.nil (Ext.refl Wb)).add (alloc_ext _ _) (A := .blk (w.heap.size + 1) (.cells #[.int .i64 0, .int .i64 0, .slice none 0 0] 29)) ⟨by omega, by rw [← hbs]; exact heap_alloc_new _ _⟩
  clear hW1 hWb hbs
  have hE1 := hO1.ext
  have hck := check_any W1 (.agg #[.int .i64 m.ins, .int .i64 m.outs, .slice A m.rows.length c]) m (hm0.ext (hEb.trans hE1))
  by_cases hz : checkM m = 0
  rotate_left
  · have hz' : (checkM m != 0) = true := by simpa using hz
    have HZ := Lib.hid hz
    clear hz
    go_upto_region 2 with ((with_reducible refine hck.mono ?_); rintro e w2 ⟨rfl, hE2⟩)
    have hO2 := hO1.trans hE2
    have x0 := cell_of_blk (hO2.get 0 rfl).2 0 rfl
    have x1 := cell_of_blk (hO2.get 0 rfl).2 1 rfl
    have x2 := cell_of_blk (hO2.get 0 rfl).2 2 rfl
    have y0 := free_of_blk (hO2.get 0 rfl).2
    have hO3 := ((hO2.put 0 rfl 0 (.int .i64 0)).put 0 rfl 1 (.int .i64 0)).put 0 rfl 2 (.slice none 0 0)
    have z0 := cell_of_blk (hO3.get 0 rfl).2 0 rfl
    have z1 := cell_of_blk (hO3.get 0 rfl).2 1 rfl
    have z2 := cell_of_blk (hO3.get 0 rfl).2 2 rfl
    have he : supE m th bad = (checkM m) := if_pos HZ.out
    have HE := Lib.hid he
    have HO3 := Lib.hid hO3
    clear hO3 he
    go_wp2
    refine bodyPost_ret (v := .tuple #[.agg #[.int .i64 0, .int .i64 0, .slice none 0 0], .int .i64 (checkM m)]) (by simp [results, Try.f24, go_sem, z0, z1, z2]) rfl ?_
    have hr : supRes m th bad = ⟨0, 0, []⟩ := if_neg (by rw [HE.out]; first | exact HZ.out | decide)
    refine ⟨⟨.slice none 0 0, ?_, ?_⟩, hEb.trans HO3.out.ext⟩
    · rw [HE.out, hr]
    · rw [hr]; exact fun _ _ => rows_nil _
  rw [hz] at hck
  have hV := (valid_iff m).1 hz
  have HZ0 := Lib.hid hz
  clear hz
  go_upto_region 2 with ((with_reducible refine hck.mono ?_); rintro e w2 ⟨rfl, hE2⟩)
  have hO2 := hO1.trans hE2
  clear hck hO1 hE1 hE2
  have HZ : Hid (¬ (0 : Int) = 1) := by show ¬ _; decide
  have hE2 := hO2.ext
  by_cases hl : (th.length : Int) ≠ m.ins ∨ bad.length ≠ m.rows.length
  · have hsup : supE m th bad = 16 := by unfold supE; rw [if_neg (fun h => h HZ0.out), if_pos hl]
    have HSUP := Lib.hid hsup
    clear hsup
    by_cases hl1 : (th.length : Int) = m.ins
    · have hb1 : ((th.length : Int) != m.ins) = false := by simp [hl1]
      have hl2 := hl.resolve_left (fun h => h hl1)
      have hb2 : ((bad.length : Int) != (m.rows.length : Int)) = true := by rw [bne_iff_ne]; omega
      clear hl hl1 hl2
      have x0 := cell_of_blk (hO2.get 0 rfl).2 0 rfl
      have x1 := cell_of_blk (hO2.get 0 rfl).2 1 rfl
      have x2 := cell_of_blk (hO2.get 0 rfl).2 2 rfl
      have y0 := free_of_blk (hO2.get 0 rfl).2
      have hO3 := ((hO2.put 0 rfl 0 (.int .i64 0)).put 0 rfl 1 (.int .i64 0)).put 0 rfl 2 (.slice none 0 0)
      have z0 := cell_of_blk (hO3.get 0 rfl).2 0 rfl
      have z1 := cell_of_blk (hO3.get 0 rfl).2 1 rfl
      have z2 := cell_of_blk (hO3.get 0 rfl).2 2 rfl
      have he : supE m th bad = 16 := HSUP.out
      have HE := Lib.hid he
      have HO3 := Lib.hid hO3
      clear hO3 he
      go_wp2
      refine bodyPost_ret (v := .tuple #[.agg #[.int .i64 0, .int .i64 0, .slice none 0 0], .int .i64 16]) (by simp [results, Try.f24, go_sem, z0, z1, z2]) rfl ?_
      have hr : supRes m th bad = ⟨0, 0, []⟩ := if_neg (by rw [HE.out]; first | exact HZ.out | decide)
      refine ⟨⟨.slice none 0 0, ?_, ?_⟩, hEb.trans HO3.out.ext⟩
      · rw [HE.out, hr]
      · rw [hr]; exact fun _ _ => rows_nil _
    · have hb1 : ((th.length : Int) != m.ins) = true := by rw [bne_iff_ne]; exact hl1
      clear hl hl1
      have x0 := cell_of_blk (hO2.get 0 rfl).2 0 rfl
      have x1 := cell_of_blk (hO2.get 0 rfl).2 1 rfl
      have x2 := cell_of_blk (hO2.get 0 rfl).2 2 rfl
      have y0 := free_of_blk (hO2.get 0 rfl).2
      have hO3 := ((hO2.put 0 rfl 0 (.int .i64 0)).put 0 rfl 1 (.int .i64 0)).put 0 rfl 2 (.slice none 0 0)
      have z0 := cell_of_blk (hO3.get 0 rfl).2 0 rfl
      have z1 := cell_of_blk (hO3.get 0 rfl).2 1 rfl
      have z2 := cell_of_blk (hO3.get 0 rfl).2 2 rfl
      have he : supE m th bad = 16 := HSUP.out
      have HE := Lib.hid he
      have HO3 := Lib.hid hO3
      clear hO3 he
      go_wp2
      refine bodyPost_ret (v := .tuple #[.agg #[.int .i64 0, .int .i64 0, .slice none 0 0], .int .i64 16]) (by simp [results, Try.f24, go_sem, z0, z1, z2]) rfl ?_
      have hr : supRes m th bad = ⟨0, 0, []⟩ := if_neg (by rw [HE.out]; first | exact HZ.out | decide)
      refine ⟨⟨.slice none 0 0, ?_, ?_⟩, hEb.trans HO3.out.ext⟩
      · rw [HE.out, hr]
      · rw [hr]; exact fun _ _ => rows_nil _
  have hl1 : (th.length : Int) = m.ins := Classical.byContradiction fun h => hl (.inl h)
  have hl2 : bad.length = m.rows.length := Classical.byContradiction fun h => hl (.inr h)
  have hb1 : ((th.length : Int) != m.ins) = false := by simp [hl1]
  have HLL := Lib.hid (And.intro hl1 hl2)
  have hins := hV.ins
  have hsz := hV.size
  have HV := Lib.hid hV
  have HL := Lib.hid hl
  clear hl hl1 hV
  obtain ⟨n, hn⟩ : ∃ n, n = m.rows.length := ⟨_, rfl⟩
  rw [← hn] at hl2 k2 hr hsz hrm
  rw [← hn, hl2]
  have hn64 : n ≤ 64 := hsz.2
  have hn1 : 1 ≤ n := hsz.1
  have hb2 : ((n : Int) != (n : Int)) = false := by simp
  have HN := Lib.hid (And.intro hn hl2)
  have hbb : ∀ j, j < n → ∃ b o, Ab = some ⟨b, o, none⟩ ∧ ∀ w', Ext Wb w' → w'.cell? ⟨b, o + j, none⟩ = some (.bool (bad.getD j false)) := fun j hj => by
    have hj2 : j < bad.length := by omega
    obtain ⟨b, o, rfl, _, h⟩ := (hbc.ext hEb).at_bool hj2
    exact ⟨b, o, rfl, fun w' hw => by rw [hw.cell h]; simp [List.getD, hj2]⟩
  have htb : ∀ j, j < th.length → ∃ b o, At = some ⟨b, o, none⟩ ∧ ∀ w', Ext Wb w' → w'.cell? ⟨b, o + j, none⟩ = some (.bool (th.getD j false)) := fun j hj => by
    obtain ⟨b, o, rfl, _, h⟩ := (htc.ext hEb).at_bool hj
    exact ⟨b, o, rfl, fun w' hw => by rw [hw.cell h]; simp [List.getD, hj]⟩
  have HBB := Lib.hid hbb
  have HTB := Lib.hid htb
  clear hn hl2 hbb htb hbc htc hb ht hm0
  have hmb := mk_bools n (by omega)
  have hb0 := Lib.hid (sound_bad (m := m) (th := th) (bad := bad) (by rw [HN.out.2, HN.out.1]))
  go_upto_region 7 with fail
  refine wp_named ?_
  intro W3 hW3
  have hO3 : OwnL Wb W3 [.row 4 1 (.slice (some ⟨w2.heap.size, 0, none⟩) n n) n (fillB (fun i => !(bad.getD i false)) n 0), .blk (w.heap.size + 1) (.cells #[.int .i64 0, .int .i64 0, .slice none 0 0] 29)] := by
    rw [hW3, ← fillB_zero]
    exact hO2.add (alloc_ext _ _) (A := .row 4 1 _ n _) (own_new w2 (.bool false) 4 n (by omega))
  clear hW3 hO2 hE2 hb1 hb2
  generalize w2.heap.size = gk at *
  have hE3 := hO3.ext
  go_upto_block 0 with fail
  go_cut [] (fun wx => OwnL Wb wx [.row 4 1 (.slice (some ⟨gk, 0, none⟩) n n) n (keepV bad), .blk (w.heap.size + 1) (.cells #[.int .i64 0, .int .i64 0, .slice none 0 0] 29)])
  case first =>
    --[p1
    go_wp2
    go_loopw [51] (fun i wr => ∃ k : Nat, k ≤ n ∧ i = .int .i64 k ∧ Ext Wb wr ∧ OwnL Wb wr [.row 4 1 (.slice (some ⟨gk, 0, none⟩) n n) n (fillB (fun i => !(bad.getD i false)) n k), .blk (w.heap.size + 1) (.cells #[.int .i64 0, .int .i64 0, .slice none 0 0] 29)]) (fun i _ => n - (intOf i).toNat)
    case atStart => exact ⟨0, by omega, rfl, hE3, hO3⟩
    case round =>
      clear hO3 hE3
      obtain ⟨k, hk, rfl, hE, hO⟩ := hrel
      obtain ⟨W4, hW4⟩ : ∃ W, W = wr := ⟨_, rfl⟩; subst hW4
      by_cases hlt : k < n
      · obtain ⟨b, o, rfl, c0⟩ := HBB.out k hlt
        have c1 := c0 W4 hE
        clear c0
        have c2 := cell_own hO 0 rfl (fillB_get _ hlt)
        have c3 := free_own (e := 4) hO 0 rfl k
        have hst := hO.store 0 rfl k (.bool (!(bad.getD k false)))
        have hOn : OwnL Wb (W4.setCell ⟨gk, k, none⟩ (.bool (!(bad.getD k false)))) [.row 4 1 (.slice (some ⟨gk, 0, none⟩) n n) n (fillB (fun i => !(bad.getD i false)) n (k + 1)), .blk (w.heap.size + 1) (.cells #[.int .i64 0, .int .i64 0, .slice none 0 0] 29)] := by
          rw [← fillB_set]; exact hst
        have HON := Lib.hid hOn
        clear hst hOn
        generalize bad.getD k false = x at *
        go_wp2
        go_roundw
        case rel => exact ⟨k + 1, by omega, by go_num, HON.out.ext, HON.out⟩
        case measure => simp [intOf]; omega
      · have hke : k = n := by omega
        subst hke
        go_wp2
        go_meet
        rw [← keepV_fill bad HN.out.2]
        exact hO
    --]p1
  case rest =>
    clear hO3 hE3
    have hO := hcut
    clear hcut
    have hE := hO.ext
    go_upto_block 2 with fail
    go_cut [] (fun wx => OwnL Wb wx [.row 4 1 (.slice (some ⟨gk, 0, none⟩) n n) n (keepV (dropL m th bad)), .blk (w.heap.size + 1) (.cells #[.int .i64 0, .int .i64 0, .slice none 0 0] 29)])
    case first =>
      --[p2
      go_wp2
      go_loopw [12] (fun mv wr => ∃ (more : Bool) (d : List Bool), mv = .bool more ∧ Hid (SoundD m th bad d ∧ (more = false → ClosedD m th bad d)) ∧ Ext Wb wr ∧ OwnL Wb wr [.row 4 1 (.slice (some ⟨gk, 0, none⟩) n n) n (keepV d), .blk (w.heap.size + 1) (.cells #[.int .i64 0, .int .i64 0, .slice none 0 0] 29)]) (fun mv wr => n - keepCnt gk wr + mb mv)
      case atStart => exact ⟨true, bad, rfl, ⟨hb0.out, fun h => by cases h⟩, hE, hO⟩
      case round =>
        clear hO hE
        obtain ⟨more, d0, rfl, hH, hE, hO⟩ := hrel
        obtain ⟨W4, hW4⟩ : ∃ W, W = wr := ⟨_, rfl⟩; subst hW4
        have HK0 := Lib.hid (keepCnt_eq hO 0 rfl)
        cases more with
        | false =>
          have hd : d0 = dropL m th bad := eq_of_both hH.out.1 (hH.out.2 rfl) (drop_both HV.out (by rw [HN.out.2, HN.out.1])).1 (drop_both HV.out (by rw [HN.out.2, HN.out.1])).2
          rw [hd] at hO
          clear hd
          go_wp2
          go_meet
          exact hO
        | true =>
          go_wp2
          go_loopw [66, 12] (fun iv mv wr => ∃ (s : Nat) (d : List Bool) (more : Bool), iv = .int .i64 s ∧ s ≤ n ∧ mv = .bool more ∧ Hid (Pass m th bad d0 s 0 d more) ∧ Ext Wb wr ∧ OwnL Wb wr [.row 4 1 (.slice (some ⟨gk, 0, none⟩) n n) n (keepV d), .blk (w.heap.size + 1) (.cells #[.int .i64 0, .int .i64 0, .slice none 0 0] 29)]) (fun iv _ _ => n - (intOf iv).toNat)
          case atStart => exact ⟨0, d0, false, rfl, by omega, rfl, ⟨hH.out.1, .inl ⟨rfl, rfl, (fun s' h => by omega), fun i' h => by omega⟩⟩, hE, hO⟩
          case round =>
            clear hO hE
            obtain ⟨s, d, more, rfl, hs, rfl, hP, hE, hO⟩ := hrel
            obtain ⟨W5, hW5⟩ : ∃ W, W = wr := ⟨_, rfl⟩; subst hW5
            by_cases hsn : s < n
            · have hsm : s < m.rows.length := by rw [← HN.out.1]; exact hsn
              obtain ⟨b, o, us, cu, hv, hb, c0, hes⟩ := (hr.ext hEb).at_ hsm
              obtain rfl : A = some ⟨b, o, none⟩ := by injection hv
              clear hv
              have hre := row_eq hsm
              obtain ⟨Ae, rfl, hce, _, hme⟩ := hes
              unfold lenMax at hme
              rw [← hre] at hce hme c0
              have hfit : ∀ e ∈ m.row s, fitsB m e = true := fun e he => HV.out.fit _ (List.getElem_mem hsm) e (hre ▸ he)
              have hlen : ((m.row s).length : Int) = m.ins := by rw [hre]; exact HV.out.len _ (List.getElem_mem hsm)
              have HF := Lib.hid hfit
              have g0 : ∀ w', Ext Wb w' → w'.cell? ⟨b, o + s, none⟩ = some (.slice Ae (m.row s).length cu) := fun w' h => h.cell c0
              obtain ⟨el, hel⟩ : ∃ el, el = (m.row s).length := ⟨_, rfl⟩
              rw [← hel] at g0 hme hlen
              have helt : el = th.length := by have := HLL.out.1; omega
              have HEL := Lib.hid (And.intro hel helt)
              have hel16 : el ≤ 16 := by omega
              clear c0 hre hfit hel hlen helt
              go_wp2
              go_loopw [73, 12] (fun iv mv wr => ∃ (i : Nat) (d : List Bool) (more : Bool), iv = .int .i64 i ∧ i ≤ el ∧ mv = .bool more ∧ Hid (Pass m th bad d0 s i d more) ∧ Ext Wb wr ∧ OwnL Wb wr [.row 4 1 (.slice (some ⟨gk, 0, none⟩) n n) n (keepV d), .blk (w.heap.size + 1) (.cells #[.int .i64 0, .int .i64 0, .slice none 0 0] 29)]) (fun iv _ _ => el - (intOf iv).toNat)
              case atStart => exact ⟨0, d, more, rfl, by omega, rfl, hP, hE, hO⟩
              case round =>
                clear hO hE hP
                obtain ⟨i, d, more, rfl, hi, rfl, hP, hE, hO⟩ := hrel
                obtain ⟨W6, hW6⟩ : ∃ W, W = wr := ⟨_, rfl⟩; subst hW6
                by_cases hie : i < el
                · have hir : i < (m.row s).length := by rw [← HEL.out.1]; exact hie
                  obtain ⟨be, oe, rfl, _, d0', d1'⟩ := (hce.ext hE).at_edge hir
                  have hfx := fit_to (HF.out _ (List.getElem_mem hir))
                  have hge : (m.row s).getD i (0, 0) = (m.row s)[i] := by simp [List.getD, hir]
                  have hdl : d.length = n := by rw [hP.out.1.len, HN.out.1]
                  have ck := cell_own hO 0 rfl (keepV_get (s := s) (by omega))
                  have fk := free_own (e := 4) hO 0 rfl s
                  obtain ⟨bt, ot, rfl, cth⟩ := HTB.out i (by rw [← HEL.out.2]; exact hie)
                  have cth := cth W6 hE
                  have hiT : (i : Int) < (th.length : Int) := by have := HEL.out.2; omega
                  have hiI : (i : Int) < (el : Int) := by omega
                  have hsI : (s : Int) < (n : Int) := by omega
                  rcases hxe : (m.row s)[i] with ⟨x, y⟩
                  rw [hxe] at d0' d1' hfx hge
                  simp only at d0' d1' hfx
                  obtain ⟨C, hC⟩ : ∃ C : Bool, C = (!(d.getD s false) && (th.getD i false && (decide (x ≠ -1) && d.getD x.toNat false))) := ⟨_, rfl⟩
                  have HC := Lib.hid hC
                  have HGE := Lib.hid hge
                  clear hC hxe hge
                  go_upto_region 21 with fail
                  refine wp_named ?_
                  intro W7 hW7
                  have hO7 : OwnL Wb W7 [.row 4 1 (.slice (some ⟨gk, 0, none⟩) n n) n (keepV d), .blk (w.heap.size + 1) (.cells #[.int .i64 0, .int .i64 0, .slice none 0 0] 29)] := by rw [hW7]; exact hO.trans (alloc_ext _ _)
                  have hq : W7.heap[W6.heap.size]? = some (.cells #[.int .i64 x, .int .i64 y] 52) := by rw [hW7]; exact heap_alloc_new _ _
                  have cth7 : W7.cell? ⟨bt, ot + i, none⟩ = some (.bool (th.getD i false)) := by rw [hW7]; exact (alloc_ext _ _).cell cth
                  clear hW7 d0' d1' hO cth ck fk
                  have hE7 := hO7.ext
                  generalize W6.heap.size = bq at *
                  have q0 := cell_of_blk hq 0 rfl
                  have ck := cell_own hO7 0 rfl (keepV_get (s := s) (by omega))
                  have fk := free_own (e := 4) hO7 0 rfl s
                  go_cut [100] (fun v wx => v = .bool C ∧ W7 = wx)
                  case first =>
                    --[p3
                    generalize th.getD i false = T at *
                    cases hds : d.getD s false with
                    | true =>
                      rw [hds] at ck
                      go_wp2
                      go_meet
                      exact ⟨by rw [HC.out, hds]; rfl, rfl⟩
                    | false =>
                      rw [hds] at ck
                      cases T with
                      | false =>
                        go_wp2
                        go_meet
                        exact ⟨by rw [HC.out, hds]; rfl, rfl⟩
                      | true =>
                        by_cases hx : x = -1
                        · have hx' : (x != -1) = false := by simp [hx]
                          have HX := Lib.hid hx
                          clear hx
                          go_wp2
                          go_meet
                          exact ⟨by rw [HC.out, hds, HX.out]; rfl, rfl⟩
                        · have hx' : (x != -1) = true := by simpa using hx
                          obtain ⟨u, rfl⟩ := Int.eq_ofNat_of_zero_le (show 0 ≤ x by omega)
                          have hun : u < n := by have := HN.out.1; omega
                          have hunI : (u : Int) < (n : Int) := by omega
                          have cu := cell_own hO7 0 rfl (keepV_get (s := u) (by omega))
                          have HC2 : Hid (C = d.getD u false) := by show _ = _; rw [HC.out, hds]; simp
                          generalize d.getD u false = z at *
                          clear hx
                          cases z <;>
                          · go_wp2
                            go_meet
                            exact ⟨by rw [HC2.out], rfl⟩
                    --]p3
                  case rest =>
                    obtain ⟨rfl, rfl⟩ := hcut
                    clear cth7 q0
                    cases C with
                    | false =>
                      have hPn : Hid (Pass m th bad d0 s (i + 1) d more) := by
                        refine ⟨hP.out.1, hP.out.2.imp (fun ⟨h1, h2, h3, h4⟩ => ⟨h1, h2, h3, fun i' hi' => ?_⟩) id⟩
                        by_cases hii : i' = i
                        · subst hii
                          intro a1 a2 a3
                          rw [HGE.out] at a2 a3
                          have hc := HC.out
                          rw [← h2] at a3 ⊢
                          cases hds : d.getD s false
                          · rw [hds, a1, a3] at hc
                            simp at hc
                            exact absurd hc a2
                          · rfl
                        · exact h4 i' (by omega)
                      go_wp2
                      go_roundw
                      case rel => exact ⟨i + 1, d, more, by go_num, by omega, rfl, hPn, hE7, hO7⟩
                      case measure => simp [intOf]; omega
                    | true =>
                      have hc := HC.out
                      have hsl : s < d.length := by omega
                      have hcc : d.getD s false = false ∧ th.getD i false = true ∧ x ≠ -1 ∧ d.getD x.toNat false = true := by
                        have := hc.symm
                        simp only [Bool.and_eq_true, Bool.not_eq_true', decide_eq_true_eq] at this
                        exact this
                      have hPn : Hid (Pass m th bad d0 s (i + 1) (d.set s true) true) := by
                        refine ⟨sound_set hP.out.1 hsm hir hcc.2.1 (by rw [HGE.out]; exact hcc.2.2.1) (by rw [HGE.out]; show x.toNat < _; have := hcc.2.2.1; omega) (by rw [HGE.out]; exact hcc.2.2.2), .inr ⟨rfl, ?_⟩⟩
                        have h1 := (cntD_set hsl).2.1 hcc.1
                        rcases hP.out.2 with ⟨_, h2, _⟩ | ⟨_, h2⟩
                        · rw [← h2]; exact h1
                        · omega
                      have hst := hO7.store 0 rfl s (.bool false)
                      have hO8 : OwnL Wb (W7.setCell ⟨gk, s, none⟩ (.bool false)) [.row 4 1 (.slice (some ⟨gk, 0, none⟩) n n) n (keepV (d.set s true)), .blk (w.heap.size + 1) (.cells #[.int .i64 0, .int .i64 0, .slice none 0 0] 29)] := by
                        rw [← keepV_set]; exact hst
                      have HO8 := Lib.hid hO8
                      clear hc hcc hst hO8
                      go_wp2
                      go_roundw
                      case rel => exact ⟨i + 1, d.set s true, true, by go_num, by omega, rfl, hPn, HO8.out.ext, HO8.out⟩
                      case measure => simp [intOf]; omega
                · have hie2 : i = (m.row s).length := by rw [← HEL.out.1]; omega
                  have hPn : Hid (Pass m th bad d0 (s + 1) 0 d more) := by
                    have := hP.out; rw [hie2] at this; exact this.next
                  clear hie2
                  go_wp2
                  go_roundw
                  case rel => exact ⟨s + 1, d, more, by go_num, by omega, rfl, hPn, hE, hO⟩
                  case measure => simp [intOf]; omega
            · have HK1 := Lib.hid (keepCnt_eq hO 0 rfl)
              have hse : s = n := by omega
              have hcl : SoundD m th bad d ∧ (more = false → ClosedD m th bad d) := by
                refine ⟨hP.out.1, fun hmf => ?_⟩
                rcases hP.out.2 with ⟨_, h2, h3, _⟩ | ⟨h1, _⟩
                · rw [h2]; exact ⟨hH.out.1.len, hH.out.1.inc, fun s' hs' i' hi' => h3 s' (by have := HN.out.1; omega) i' hi'⟩
                · rw [h1] at hmf; cases hmf
              have HCL := Lib.hid hcl
              clear hcl
              go_wp2
              go_roundw
              case rel => exact ⟨more, d, rfl, HCL.out, hE, hO⟩
              case measure =>
                rw [HK1.out, HK0.out]
                have h1 := cntD_le d
                have h2 := HCL.out.1.len
                have h3 := HN.out.1
                rcases hP.out.2 with ⟨h4, h5, _⟩ | ⟨h4, h5⟩
                · rw [h4, h5]; show _ + 0 < _ + 1; omega
                · rw [h4]; show _ + 1 < _ + 1; omega
      --]p2
    case rest =>
      clear hO hE
      have hO := hcut
      clear hcut
      have hdb := drop_both (th := th) (bad := bad) HV.out (by rw [HN.out.2, HN.out.1])
      obtain ⟨D, hD⟩ : ∃ D, D = dropL m th bad := ⟨_, rfl⟩
      rw [← hD] at hO hdb
      have hDl : D.length = n := by rw [hdb.1.len, HN.out.1]
      have HD := Lib.hid hD
      have HDL := Lib.hid hDl
      clear hD hdb
      have ck0 := cell_own hO 0 rfl (keepV_get (d := D) (s := 0) (by omega))
      have hE := hO.ext
      clear hDl
      cases hd0 : D.getD 0 false with
      | true =>
        rw [hd0] at ck0
        have hs7 : supE m th bad = 7 := by unfold supE; rw [if_neg (fun h => h HZ0.out), if_neg HL.out, ← HD.out, hd0]; rfl
        have HS7 := Lib.hid hs7
        clear hs7 hd0
        --[q0
        have x0 := cell_of_blk (hO.get 1 rfl).2 0 rfl
        have x1 := cell_of_blk (hO.get 1 rfl).2 1 rfl
        have x2 := cell_of_blk (hO.get 1 rfl).2 2 rfl
        have y0 := free_of_blk (hO.get 1 rfl).2
        have hO3 := ((hO.put 1 rfl 0 (.int .i64 0)).put 1 rfl 1 (.int .i64 0)).put 1 rfl 2 (.slice none 0 0)
        have z0 := cell_of_blk (hO3.get 1 rfl).2 0 rfl
        have z1 := cell_of_blk (hO3.get 1 rfl).2 1 rfl
        have z2 := cell_of_blk (hO3.get 1 rfl).2 2 rfl
        have he : supE m th bad = 7 := HS7.out
        have HE := Lib.hid he
        have HO3 := Lib.hid hO3
        clear hO3 he
        go_wp2
        refine bodyPost_ret (v := .tuple #[.agg #[.int .i64 0, .int .i64 0, .slice none 0 0], .int .i64 7]) (by simp [results, Try.f24, go_sem, z0, z1, z2]) rfl ?_
        have hr : supRes m th bad = ⟨0, 0, []⟩ := if_neg (by rw [HE.out]; first | exact HZ.out | decide)
        refine ⟨⟨.slice none 0 0, ?_, ?_⟩, hEb.trans HO3.out.ext⟩
        · rw [HE.out, hr]
        · rw [hr]; exact fun _ _ => rows_nil _
        --]q0
      | false =>
        rw [hd0] at ck0
        have hs0 : supE m th bad = 0 := by unfold supE; rw [if_neg (fun h => h HZ0.out), if_neg HL.out, ← HD.out, hd0]; rfl
        have hsr : supRes m th bad = { ins := m.ins, outs := m.outs, rows := (List.range (supEnd m D (m.rows.length + 1) 0)).map (supR m D) } := by
          unfold supRes; rw [if_pos hs0]; unfold supM; rw [← HD.out]
        have HS0 := Lib.hid (And.intro hs0 hsr)
        clear hs0 hsr hd0
        obtain ⟨i3, hi3, hz3, hs3, hb3⟩ := info_parts int_info
        obtain ⟨i53, hi53, hz53, hs53, hb53⟩ := info_parts slices_info
        have hOm := hO.add (alloc_ext wc (.map #[] 0)) (A := .blk wc.heap.size (.map #[] 0)) ⟨Nat.le_refl _, heap_alloc_new _ _⟩
        obtain ⟨W6, om, hrun, hm, hO6⟩ := hOm.mapPut 0 rfl MapOf.made Try.underlying86 Try.underlying3 (x := 0) (wfI_of (by omega)) rfl (.int .i64 0)
        have hmm := @run_makeMap Try.prog
        go_upto_region 28 with fail
        refine wp_named ?_
        intro W7 hW7
        have hO7 : OwnL Wb W7 [.row 3 1 (.slice (some ⟨W6.heap.size, 0, none⟩) 1 1) 1 (ordV (supO m D 0)), .blk wc.heap.size om, .row 4 1 (.slice (some ⟨gk, 0, none⟩) n n) n (keepV D), .blk (w.heap.size + 1) (.cells #[.int .i64 0, .int .i64 0, .slice none 0 0] 29)] := by
          rw [hW7]
          refine hO6.add (alloc_ext W6 _) (A := .row 3 1 (.slice (some ⟨W6.heap.size, 0, none⟩) 1 1) 1 (ordV (supO m D 0))) ?_
          exact World.ownsRow_lit (base := W6.heap.size) (e := 3) (size := 1) W6 #[.int .i64 0] 1 (Nat.le_refl _) (by unfold maxLen; omega) rfl
        have hm7 : MapOf om (numE (supO m D 0)) := hm
        clear hW7 hrun hm hO6 hOm hO ck0 hmm hE
        generalize wc.heap.size = bm at *
        generalize W6.heap.size = go at *
        have hE7 := hO7.ext
        go_upto_region 29 with fail
        refine wp_named ?_
        intro W8 hW8
        have hO8 : OwnL Wb W8 [.rows 53 52 2 (.slice none 0 0) [] [], .blk W7.heap.size (.cells #[.int .i64 m.ins, .int .i64 m.outs, .slice none 0 0] 29), .row 3 1 (.slice (some ⟨go, 0, none⟩) 1 1) 1 (ordV (supO m D 0)), .blk bm om, .row 4 1 (.slice (some ⟨gk, 0, none⟩) n n) n (keepV D), .blk (w.heap.size + 1) (.cells #[.int .i64 0, .int .i64 0, .slice none 0 0] 29)] := by
          rw [hW8]
          refine (hO7.add (alloc_ext _ _) (A := .blk W7.heap.size (.cells #[.int .i64 m.ins, .int .i64 m.outs, .slice none 0 0] 29)) ⟨Nat.le_refl _, heap_alloc_new _ _⟩).add (Ext.refl _) (A := .rows 53 52 2 (.slice none 0 0) [] []) ?_
          exact ⟨World.ownsRow_nil _ _ _ _, rfl, fun j u r h => by simp at h, fun i j u u' h => by simp at h, fun j u h => by simp at h⟩
        clear hW8 hO7 hE7
        generalize W7.heap.size = bo at *
        have hE8 := hO8.ext
        go_wp2
        go_loopw [20, 18] (fun i v wr => ∃ (k : Nat) (om : Obj) (gv cv : Nat) (rv : Value) (vs : List Value), i = .int .i64 k ∧ k ≤ (supO m D k).length ∧ v = .slice (some ⟨gv, 0, none⟩) (supO m D k).length cv ∧ Hid (supEnd m D (m.rows.length + 1) 0 = supEnd m D (m.rows.length + 1 - k) k) ∧ MapOf om (numE (supO m D k)) ∧ Ext Wb wr ∧ OwnL Wb wr [.rows 53 52 2 rv vs ((List.range k).map (fun j => eRow (supR m D j))), .blk bo (.cells #[.int .i64 m.ins, .int .i64 m.outs, rv] 29), .row 3 1 v (supO m D k).length (ordV (supO m D k)), .blk bm om, .row 4 1 (.slice (some ⟨gk, 0, none⟩) n n) n (keepV D), .blk (w.heap.size + 1) (.cells #[.int .i64 0, .int .i64 0, .slice none 0 0] 29)]) (fun i _ _ => 65 - (intOf i).toNat)
        case atStart => exact ⟨0, om, go, 1, _, _, rfl, by simp [supO], rfl, rfl, hm7, hE8, hO8⟩
        case round =>
          clear hO8 hm7 hE8
          obtain ⟨k, om, gv, cv, rv, vs, rfl, hk, rfl, hC, hmo, hE, hO⟩ := hrel
          obtain ⟨W8, hW8⟩ : ∃ W, W = wr := ⟨_, rfl⟩; subst hW8
          have hI := oinv_sup HV.out D k
          have hle := oinv_len hI
          rw [← HN.out.1] at hle
          have hOR : OwnRows W8 Wb.heap.size 53 52 2 rv vs ((List.range k).map (fun j => eRow (supR m D j))) := hO.get 0 rfl
          have hvs : vs.length = k := by rw [hOR.len]; simp
          obtain ⟨Arv, crv, rfl, hcr, _⟩ := cells_of_owns hOR.own
          have hnilc := slice_nil_cap hOR.own
          rw [hvs] at hO hcr hnilc
          have HVS := Lib.hid (And.intro hvs hnilc)
          clear hvs hOR hnilc
          by_cases hkl : k < (supO m D k).length
          ·
            --[r1
            obtain ⟨s, hs⟩ : ∃ s, (supO m D k)[k]? = some s := ⟨_, List.getElem?_eq_getElem hkl⟩
            have hce2 := supEnd_step HV.out (d := D) hkl
            have hsu : supO m D (k + 1) = ordAt D (m.row s) (supO m D k) (m.row s).length := by
              conv => lhs; unfold supO
              rw [hs]
            have hsR : supR m D k = rowN D (m.row s) (supO m D k) (m.row s).length := by unfold supR; rw [hs]
            have hmem := List.mem_of_getElem? hs
            have hsm := hI.lt s hmem
            generalize hob : supO m D k = ob at *
            have hsn : s < n := by rw [HN.out.1]; exact hsm
            have hog : (ordV ob)[k]? = some (.int .i64 (s : Int)) := by unfold ordV; rw [List.getElem?_map, hs]; rfl
            have hCn : Hid (supEnd m D (m.rows.length + 1) 0 = supEnd m D (m.rows.length + 1 - (k + 1)) (k + 1)) := by show _ = _; rw [hC.out, hce2]
            obtain ⟨b, o, us, cu, hv, hb, c0, hes⟩ := (hr.ext hEb).at_ hsm
            obtain rfl : A = some ⟨b, o, none⟩ := by injection hv
            clear hv
            have hre := row_eq hsm
            obtain ⟨Ae, rfl, hce, _, hme⟩ := hes
            unfold lenMax at hme
            rw [← hre] at hce hme c0
            have hfit : ∀ e ∈ m.row s, fitsB m e = true := fun e he => HV.out.fit _ (List.getElem_mem hsm) e (hre ▸ he)
            have hlen : ((m.row s).length : Int) = m.ins := by rw [hre]; exact HV.out.len _ (List.getElem_mem hsm)
            have HF := Lib.hid hfit
            have g0 : ∀ w', Ext Wb w' → w'.cell? ⟨b, o + s, none⟩ = some (.slice Ae (m.row s).length cu) := fun w' h => h.cell c0
            obtain ⟨el, hel⟩ : ∃ el, el = (m.row s).length := ⟨_, rfl⟩
            rw [← hel] at g0 hme hlen hsu hsR
            obtain ⟨F, hFd⟩ : ∃ F : Nat → Int × Int, F = fun i => edgeN D (ordAt D (m.row s) ob i) ((m.row s).getD i (0, 0)) := ⟨_, rfl⟩
            have hrow : eRow (supR m D k) = (el, (fillE F el el).flatMap edgeCells) := by
              rw [hsR, fillE_end, hFd]; unfold eRow rowN; simp
            have HEL := Lib.hid (And.intro hel hlen)
            have HSU := Lib.hid (And.intro hsu hrow)
            have HFD := Lib.hid hFd
            have HSS := Lib.hid (And.intro hs hmem)
            have hel16 : el ≤ 16 := by omega
            have k0e : W8.cell? ⟨w.heap.size, 0, none⟩ = some (.int .i64 (el : Int)) := by rw [hlen]; exact k0 W8 hE
            have hmk := mk_edges el (by omega)
            have hsI : (s : Int) < (n : Int) := by omega
            have hkI : (k : Int) < (ob.length : Int) := by omega
            clear c0 hre hfit hel hlen hsu hsR hrow hFd hs hmem hce2 hob k0
            go_upto_region 33 with fail
            refine wp_named ?_
            intro W9 hW9
            have hO9 : OwnL Wb W9 [.row 52 2 (.slice (some ⟨W8.heap.size, 0, none⟩) el el) el ((fillE F el 0).flatMap edgeCells), .rows 53 52 2 (.slice Arv k crv) vs ((List.range k).map (fun j => eRow (supR m D j))), .blk bo (.cells #[.int .i64 m.ins, .int .i64 m.outs, .slice Arv k crv] 29), .row 3 1 (.slice (some ⟨gv, 0, none⟩) ob.length cv) ob.length (ordV ob), .blk bm om, .row 4 1 (.slice (some ⟨gk, 0, none⟩) n n) n (keepV D), .blk (w.heap.size + 1) (.cells #[.int .i64 0, .int .i64 0, .slice none 0 0] 29)] := by
              rw [hW9]
              exact hO.add (alloc_ext _ _) (A := .row 52 2 (.slice (some ⟨W8.heap.size, 0, none⟩) el el) el ((fillE F el 0).flatMap edgeCells)) (own_edges W8 el (by omega) F)
            clear hW9 hO hE k0e hmk
            generalize W8.heap.size = gr at *
            have hE9 := hO9.ext
            have k29 := k2 W9 hE9
            have g09 := g0 W9 hE9
            have co9 := cell_own hO9 3 rfl hog
            go_quiet (fail)
            go_upto_block 10 with fail
            refine wp_named ?_
            intro WA hWA
            have hOA : OwnL Wb WA [.row 52 2 (.slice (some ⟨gr, 0, none⟩) el el) el ((fillE F el 0).flatMap edgeCells), .rows 53 52 2 (.slice Arv k crv) vs ((List.range k).map (fun j => eRow (supR m D j))), .blk bo (.cells #[.int .i64 m.ins, .int .i64 m.outs, .slice Arv k crv] 29), .row 3 1 (.slice (some ⟨gv, 0, none⟩) ob.length cv) ob.length (ordV ob), .blk bm om, .row 4 1 (.slice (some ⟨gk, 0, none⟩) n n) n (keepV D), .blk (w.heap.size + 1) (.cells #[.int .i64 0, .int .i64 0, .slice none 0 0] 29)] := by
              rw [hWA]; exact hO9.trans ((Ext.refl W9).drewN _)
            clear hWA hO9 hE9 k29 g09 co9
            have hEA := hOA.ext
            have hEA := hOA.ext
            go_wp2
            go_loopw [137, 18] (fun iv v wr => ∃ (i : Nat) (om : Obj) (gv cv : Nat), iv = .int .i64 i ∧ i ≤ el ∧ v = .slice (some ⟨gv, 0, none⟩) (ordAt D (m.row s) ob i).length cv ∧ MapOf om (numE (ordAt D (m.row s) ob i)) ∧ Ext Wb wr ∧ OwnL Wb wr [.row 52 2 (.slice (some ⟨gr, 0, none⟩) el el) el ((fillE F el i).flatMap edgeCells), .rows 53 52 2 (.slice Arv k crv) vs ((List.range k).map (fun j => eRow (supR m D j))), .blk bo (.cells #[.int .i64 m.ins, .int .i64 m.outs, .slice Arv k crv] 29), .row 3 1 v (ordAt D (m.row s) ob i).length (ordV (ordAt D (m.row s) ob i)), .blk bm om, .row 4 1 (.slice (some ⟨gk, 0, none⟩) n n) n (keepV D), .blk (w.heap.size + 1) (.cells #[.int .i64 0, .int .i64 0, .slice none 0 0] 29)]) (fun iv _ _ => el - (intOf iv).toNat)
            case atStart => exact ⟨0, om, gv, cv, rfl, by omega, rfl, hmo, hEA, hOA⟩
            case round =>
              clear hOA hEA hmo
              obtain ⟨i, om, gv, cv, rfl, hi, rfl, hmo, hE, hO⟩ := hrel
              obtain ⟨WB, hWB⟩ : ∃ W, W = wr := ⟨_, rfl⟩; subst hWB
              by_cases hie : i < el
              · have hir : i < (m.row s).length := by rw [← HEL.out.1]; exact hie
                obtain ⟨be, oe, rfl, _, d0', d1'⟩ := hce.at_edge hir
                have d0' := hE.cell d0'
                have d1' := hE.cell d1'
                have hfx := fit_to (HF.out _ (List.getElem_mem hir))
                have hge : (m.row s).getD i (0, 0) = (m.row s)[i] := by simp [List.getD, hir]
                have hIi := oinv_at HV.out (d := D) hsm hI i (by omega)
                have hli := oinv_len hIi
                have hIi2 := oinv_len (oinv_at HV.out (d := D) hsm hI (i + 1) (by omega))
                rw [← HN.out.1] at hli hIi2
                have hoS : ordAt D (m.row s) ob (i + 1) = ordN D (ordAt D (m.row s) ob i) (m.row s)[i] := by show ordN D _ ((m.row s).getD i (0, 0)) = _; rw [hge]
                have hFi : F i = edgeN D (ordAt D (m.row s) ob i) (m.row s)[i] := by rw [HFD.out]; show edgeN D _ ((m.row s).getD i (0, 0)) = _; rw [hge]
                have hnd := hIi.nd
                generalize hoi : ordAt D (m.row s) ob i = oi at *
                have hiI : (i : Int) < (el : Int) := by omega
                rcases hxe : (m.row s)[i] with ⟨x, y⟩
                rw [hxe] at d0' d1' hfx hoS hFi
                simp only at d0' d1' hfx
                have HOS := Lib.hid (And.intro hoS hFi)
                have HIO := Lib.hid (And.intro hIi hnd)
                have HOI := Lib.hid hoi
                clear hoS hFi hxe hge hIi hnd hoi
                go_upto_region 36 with fail
                refine wp_named ?_
                intro WC hWC
                have hOC : OwnL Wb WC [.blk WB.heap.size (.cells #[.int .i64 x, .int .i64 y] 52), .row 52 2 (.slice (some ⟨gr, 0, none⟩) el el) el ((fillE F el i).flatMap edgeCells), .rows 53 52 2 (.slice Arv k crv) vs ((List.range k).map (fun j => eRow (supR m D j))), .blk bo (.cells #[.int .i64 m.ins, .int .i64 m.outs, .slice Arv k crv] 29), .row 3 1 (.slice (some ⟨gv, 0, none⟩) oi.length cv) oi.length (ordV oi), .blk bm om, .row 4 1 (.slice (some ⟨gk, 0, none⟩) n n) n (keepV D), .blk (w.heap.size + 1) (.cells #[.int .i64 0, .int .i64 0, .slice none 0 0] 29)] := by
                  rw [hWC]; exact hO.add (alloc_ext _ _) (A := .blk WB.heap.size (.cells #[.int .i64 x, .int .i64 y] 52)) ⟨Nat.le_refl _, heap_alloc_new _ _⟩
                clear hWC d0' d1' hO hE
                generalize WB.heap.size = bq at *
                have hlF : i < (fillE F el i).length := by rw [fillE_len]; exact hie
                have rw0 : WC.ownsRow Wb.heap.size 52 2 (.slice (some ⟨gr, 0, none⟩) el el) el ((fillE F el i).flatMap edgeCells) := hOC.get 1 rfl
                have hat := Cells.at_edge (w := WC) (A := some ⟨gr, 0, none⟩) (xs := fillE F el i) (by
                  obtain ⟨A', c', hv, _, hc⟩ := cells_of_owns rw0
                  cases hv; exact hc) hlF
                obtain ⟨b', o', hA, _, e0, e1⟩ := hat
                simp only [Option.some.injEq, Addr.mk.injEq, and_true] at hA
                obtain ⟨rfl, rfl⟩ := hA
                rw [Nat.zero_add] at e0 e1
                have f0 := rw0.frozenAt (i * 2)
                have f1 := rw0.frozenAt (i * 2 + 1)
                have hst := hOC.edge 1 rfl hlF (-1) (-1)
                have HST := Lib.hid hst
                clear hst rw0
                go_upto_region 37 with fail
                refine wp_named ?_
                intro WD hWD
                have hOD : OwnL Wb WD [.blk bq (.cells #[.int .i64 x, .int .i64 y] 52), .row 52 2 (.slice (some ⟨gr, 0, none⟩) el el) el (((fillE F el i).set i (-1, -1)).flatMap edgeCells), .rows 53 52 2 (.slice Arv k crv) vs ((List.range k).map (fun j => eRow (supR m D j))), .blk bo (.cells #[.int .i64 m.ins, .int .i64 m.outs, .slice Arv k crv] 29), .row 3 1 (.slice (some ⟨gv, 0, none⟩) oi.length cv) oi.length (ordV oi), .blk bm om, .row 4 1 (.slice (some ⟨gk, 0, none⟩) n n) n (keepV D), .blk (w.heap.size + 1) (.cells #[.int .i64 0, .int .i64 0, .slice none 0 0] 29)] := by
                  rw [hWD]; exact HST.out
                clear hWD e0 e1 f0 f1 HST hOC
                have q0 := cell_of_blk (hOD.get 0 rfl).2 0 rfl
                have q1 := cell_of_blk (hOD.get 0 rfl).2 1 rfl
                obtain ⟨K, hK⟩ : ∃ K, K = keepE D (x, y) := ⟨_, rfl⟩
                have HK := Lib.hid hK
                clear hK
                have hED := hOD.ext
                go_cut [156] (fun v wx => v = .bool (!K) ∧ WD = wx)
                case first =>
                  --[q1
                  by_cases hx : x = -1
                  · have hx' : (x == -1) = true := by simp [hx]
                    have HX := Lib.hid hx
                    clear hx
                    go_wp2
                    go_meet
                    exact ⟨by rw [HK.out, HX.out]; rfl, rfl⟩
                  · have hx' : (x == -1) = false := by simpa using hx
                    obtain ⟨u, rfl⟩ := Int.eq_ofNat_of_zero_le (show 0 ≤ x by omega)
                    have hun : u < n := by have := HN.out.1; omega
                    have hunI : (u : Int) < (n : Int) := by omega
                    have cu := cell_own hOD 6 rfl (keepV_get (d := D) (s := u) (by rw [HDL.out]; exact hun))
                    have HK2 : Hid (K = !(D.getD u false)) := by
                      show _ = _
                      rw [HK.out]; unfold keepE
                      have : decide ((u : Int) ≠ -1) = true := by simp
                      show (decide ((u : Int) ≠ -1) && !(D.getD ((u : Int)).toNat false)) = _
                      rw [this]; simp
                    generalize D.getD u false = z at *
                    clear hx
                    cases z <;>
                    · go_wp2
                      go_meet
                      exact ⟨by rw [HK2.out]; rfl, rfl⟩
                  --]q1
                case rest =>
                  obtain ⟨rfl, rfl⟩ := hcut
                  cases K with
                  | false =>
                    have h1 : ordAt D (m.row s) ob (i + 1) = oi := by rw [HOS.out.1]; unfold ordN; rw [← HK.out]; rfl
                    have h2 : F i = (-1, -1) := by rw [HOS.out.2]; unfold edgeN; rw [← HK.out]; rfl
                    have h3 := fillE_set F el i
                    rw [h2] at h3
                    rw [h3] at hOD
                    have H1 := Lib.hid h1
                    have HOD := Lib.hid hOD.drop
                    clear h1 h2 h3 q0 q1 hOD
                    go_wp2
                    go_roundw
                    case rel => exact ⟨i + 1, om, gv, cv, by go_num, by omega, by rw [H1.out], by rw [H1.out]; exact hmo, HOD.out.ext, by rw [H1.out]; exact HOD.out⟩
                    case measure => simp [intOf]; omega
                  | true =>
                    have hx : x ≠ -1 := by
                      intro h
                      have := HK.out
                      unfold keepE at this
                      rw [h] at this; simp at this
                    obtain ⟨u, rfl⟩ := Int.eq_ofNat_of_zero_le (show 0 ≤ x by omega)
                    have hun : u < n := by have := HN.out.1; omega
                    have hwf : wfI (u : Int) := wfI_of (by omega)
                    have hlk := map_lookup Try.underlying86 Try.underlying3 (zero_int WD) (hOD.get 5 rfl).2 hmo hwf true
                    simp only [if_true] at hlk
                    have hke : keepE D ((u : Int), y) = true := HK.out.symm
                    have hlF : i < ((fillE F el i).set i (-1, -1)).length := by rw [List.length_set, fillE_len]; exact hie
                    by_cases hu : u ∈ oi
                    · --[q2
                      rw [numE_mem HIO.out.2 hu] at hlk
                      have h1 : ordAt D (m.row s) ob (i + 1) = oi := by
                        rw [HOS.out.1]; unfold ordN
                        rw [hke, if_pos rfl, if_pos (List.contains_iff_mem.2 (by simpa using hu))]
                      have h2 : F i = ((oi.idxOf u : Int), y) := by
                        rw [HOS.out.2]; unfold edgeN
                        have : ordN D oi ((u : Int), y) = oi := by
                          unfold ordN
                          rw [hke, if_pos rfl, if_pos (List.contains_iff_mem.2 (by simpa using hu))]
                        rw [hke, if_pos rfl, this]; rfl
                      have hidx : oi.idxOf u ≤ 64 := by have := List.idxOf_lt_length_of_mem hu; omega
                      generalize oi.idxOf u = ix at *
                      have hlk2 : (Instr.lookup 86 (.map (some bm)) (.int .i64 (u : Int)) true).run Try.prog WD = .ok (.tuple #[.int .i64 (ix : Int), .bool true]) WD := hlk
                      have rw0 : WD.ownsRow Wb.heap.size 52 2 (.slice (some ⟨gr, 0, none⟩) el el) el (((fillE F el i).set i (-1, -1)).flatMap edgeCells) := hOD.get 1 rfl
                      have hat := Cells.at_edge (w := WD) (A := some ⟨gr, 0, none⟩) (xs := (fillE F el i).set i (-1, -1)) (by
                        obtain ⟨A', c', hv, _, hc⟩ := cells_of_owns rw0
                        cases hv; exact hc) hlF
                      obtain ⟨b', o', hA, _, e0, e1⟩ := hat
                      simp only [Option.some.injEq, Addr.mk.injEq, and_true] at hA
                      obtain ⟨rfl, rfl⟩ := hA
                      rw [Nat.zero_add] at e0 e1
                      have f0 := rw0.frozenAt (i * 2)
                      have f1 := rw0.frozenAt (i * 2 + 1)
                      have hst := hOD.edge 1 rfl hlF (ix : Int) y
                      rw [List.set_set, ← h2, fillE_set] at hst
                      have HST := Lib.hid hst.drop
                      have H1 := Lib.hid h1
                      clear h1 h2 hst rw0 hlk hke hx hu
                      go_wp2
                      go_roundw
                      case rel => exact ⟨i + 1, om, gv, cv, by go_num, by omega, by rw [H1.out], by rw [H1.out]; exact hmo, HST.out.ext, by rw [H1.out]; exact HST.out⟩
                      case measure => simp [intOf]; omega
                      --]q2
                    · rw [numE_none hu] at hlk
                      have hlk2 : (Instr.lookup 86 (.map (some bm)) (.int .i64 (u : Int)) true).run Try.prog WD = .ok (.tuple #[.int .i64 0, .bool false]) WD := hlk
                      have hor : ordN D oi ((u : Int), y) = oi ++ [u] := by
                        unfold ordN
                        rw [hke, if_pos rfl, if_neg (fun h => hu (by simpa using List.contains_iff_mem.1 h))]; rfl
                      have h1 : ordAt D (m.row s) ob (i + 1) = oi ++ [u] := by rw [HOS.out.1, hor]
                      have h2 : F i = ((oi.length : Int), y) := by
                        rw [HOS.out.2]; unfold edgeN
                        rw [hke, if_pos rfl, hor]
                        have : (oi ++ [u]).idxOf ((u : Int)).toNat = oi.length := by
                          rw [Int.toNat_natCast, List.idxOf_append, if_neg hu]; simp
                        rw [this]
                      have hol : oi.length + 1 ≤ n := by
                        have h3 := hIi2
                        rw [h1] at h3
                        simpa using h3
                      have hgn := numE_none hu
                      have HGN2 := Lib.hid hgn
                      have H1 := Lib.hid (And.intro h1 h2)
                      have HOV : Hid (ordV (oi ++ [u]) = ordV oi ++ [.int .i64 (u : Int)]) := by show _ = _; unfold ordV; rw [List.map_append]; rfl
                      clear hlk hor h1 h2 hgn hu hke hx hIi2
                      go_upto_if 165 with fail
                      go_cut [18, 24] (fun v kk wx => ∃ (g6 c6 : Nat) (om' : Obj), v = .slice (some ⟨g6, 0, none⟩) (oi.length + 1) c6 ∧ kk = .int .i64 (oi.length : Int) ∧ MapOf om' (numE (oi ++ [u])) ∧ OwnL Wb wx [.blk bq (.cells #[.int .i64 (u : Int), .int .i64 y] 52), .row 52 2 (.slice (some ⟨gr, 0, none⟩) el el) el (((fillE F el i).set i (-1, -1)).flatMap edgeCells), .rows 53 52 2 (.slice Arv k crv) vs ((List.range k).map (fun j => eRow (supR m D j))), .blk bo (.cells #[.int .i64 m.ins, .int .i64 m.outs, .slice Arv k crv] 29), .row 3 1 (.slice (some ⟨g6, 0, none⟩) (oi.length + 1) c6) (oi.length + 1) (ordV (oi ++ [u])), .blk bm om', .row 4 1 (.slice (some ⟨gk, 0, none⟩) n n) n (keepV D), .blk (w.heap.size + 1) (.cells #[.int .i64 0, .int .i64 0, .slice none 0 0] 29)])
                      case first =>
                        --[q3
                        go_upto_region 41 with fail
                        have hown : WD.ownsRow Wb.heap.size 3 1 (.slice (some ⟨gv, 0, none⟩) oi.length cv) oi.length (ordV oi) := hOD.get 4 rfl
                        have hqx : some bq ≠ (Value.slice (some ⟨gv, 0, none⟩) oi.length cv).ownBlock := fun e => by
                          have := (List.pairwise_cons.1 hOD.apart).1 (.row 3 1 (.slice (some ⟨gv, 0, none⟩) oi.length cv) oi.length (ordV oi)) (by simp) bq rfl
                          exact this e.symm
                        have hsD := hED.size
                        have q0a := (alloc_ext WD (.cells #[.int .i64 (u : Int)] 3)).cell q0
                        go_region_law (refine step_append_own2 rfl _ _ 37 rfl Wb.heap.size 3 i3 (.int .i64 0) 1 8 Try.underlying37 hi3 hz3 hs3 hb3 rfl (by decide) (.slice (some ⟨gv, 0, none⟩) oi.length cv) oi.length _ rfl (World.ownsRow.alloc hown _) ⟨WD.heap.size, 0, none⟩ 1 1 [.int .i64 (u : Int)] rfl rfl (cells_new _ #[.int .i64 (u : Int)] _) (one_int _) (by unfold maxLen; omega) (by omega) (by simp; omega) ?_; intro v6 w6 hown6 hg6 hb6; obtain ⟨g6, c6, rfl⟩ := ownsRow_pos hown6 (by omega); have q06 := hg6.cell q0a hqx; obtain ⟨w7, om', hrun, hm', hO7⟩ := ((hOD.trans ((Ext.refl WD).alloc _).drew).app 4 rfl hg6 hown6 hb6).mapPut 5 rfl hmo Try.underlying86 Try.underlying3 hwf HGN2.out (.int .i64 (oi.length : Int)))
                        all_goals
                          rw [← numE_push] at hm'
                          have hO8 : OwnL Wb w7 [.blk bq (.cells #[.int .i64 (u : Int), .int .i64 y] 52), .row 52 2 (.slice (some ⟨gr, 0, none⟩) el el) el (((fillE F el i).set i (-1, -1)).flatMap edgeCells), .rows 53 52 2 (.slice Arv k crv) vs ((List.range k).map (fun j => eRow (supR m D j))), .blk bo (.cells #[.int .i64 m.ins, .int .i64 m.outs, .slice Arv k crv] 29), .row 3 1 (.slice (some ⟨g6, 0, none⟩) (oi.length + 1) c6) (oi.length + 1) (ordV (oi ++ [u])), .blk bm om', .row 4 1 (.slice (some ⟨gk, 0, none⟩) n n) n (keepV D), .blk (w.heap.size + 1) (.cells #[.int .i64 0, .int .i64 0, .slice none 0 0] 29)] := by rw [HOV.out]; exact hO7
                          have HO8 := Lib.hid (And.intro hm' hO8)
                          clear hO7 hrun hO8 hm' q06 hown6 hg6 hb6
                          go_wp2
                          go_meet
                          exact ⟨g6, c6, om', rfl, rfl, HO8.out.1, HO8.out.2⟩
                        --]q3
                      case rest =>
                        obtain ⟨g6, c6, om', rfl, rfl, hm', hO8⟩ := hcut
                        have q0 := cell_of_blk (hO8.get 0 rfl).2 0 rfl
                        have q1 := cell_of_blk (hO8.get 0 rfl).2 1 rfl
                        have rw0 := hO8.get 1 rfl
                        have rw0 : wc.ownsRow Wb.heap.size 52 2 (.slice (some ⟨gr, 0, none⟩) el el) el (((fillE F el i).set i (-1, -1)).flatMap edgeCells) := rw0
                        have hat := Cells.at_edge (w := wc) (A := some ⟨gr, 0, none⟩) (xs := (fillE F el i).set i (-1, -1)) (by
                          obtain ⟨A', c', hv, _, hc⟩ := cells_of_owns rw0
                          cases hv; exact hc) hlF
                        obtain ⟨b', o', hA, _, e0, e1⟩ := hat
                        simp only [Option.some.injEq, Addr.mk.injEq, and_true] at hA
                        obtain ⟨rfl, rfl⟩ := hA
                        rw [Nat.zero_add] at e0 e1
                        have f0 := rw0.frozenAt (i * 2)
                        have f1 := rw0.frozenAt (i * 2 + 1)
                        have hst := hO8.edge 1 rfl hlF (oi.length : Int) y
                        rw [List.set_set, ← H1.out.2, fillE_set] at hst
                        have HST := Lib.hid hst.drop
                        clear hst rw0 hO8
                        go_wp2
                        go_roundw
                        case rel => exact ⟨i + 1, om', g6, c6, by go_num, by omega, by rw [H1.out.1, List.length_append]; rfl, by rw [H1.out.1]; exact hm', HST.out.ext, by rw [H1.out.1, List.length_append]; exact HST.out⟩
                        case measure => simp [intOf]; omega
              · have hie2 : i = el := by omega
                --[q4
                have hoN : ordAt D (m.row s) ob i = supO m D (k + 1) := by rw [hie2]; exact HSU.out.1.symm
                have hkl2 : k + 1 ≤ (supO m D (k + 1)).length := by
                  have h1 := ordAt_len D (m.row s) ob i
                  rw [← hoN]; omega
                have hO : OwnL Wb WB [.row 52 2 (.slice (some ⟨gr, 0, none⟩) el el) el ((fillE F el el).flatMap edgeCells), .rows 53 52 2 (.slice Arv k crv) vs ((List.range k).map (fun j => eRow (supR m D j))), .blk bo (.cells #[.int .i64 m.ins, .int .i64 m.outs, .slice Arv k crv] 29), .row 3 1 (.slice (some ⟨gv, 0, none⟩) (ordAt D (m.row s) ob i).length cv) (ordAt D (m.row s) ob i).length (ordV (ordAt D (m.row s) ob i)), .blk bm om, .row 4 1 (.slice (some ⟨gk, 0, none⟩) n n) n (keepV D), .blk (w.heap.size + 1) (.cells #[.int .i64 0, .int .i64 0, .slice none 0 0] 29)] := by
                  have := hO; rw [show fillE F el i = fillE F el el by rw [hie2]] at this; exact this
                have HON := Lib.hid hoN
                have HKL := Lib.hid hkl2
                clear hie2
                have hOR : OwnRows WB Wb.heap.size 53 52 2 (.slice Arv k crv) vs ((List.range k).map (fun j => eRow (supR m D j))) := hO.get 1 rfl
                have hown := hOR.own
                rw [HVS.out.1] at hown
                have b2 := cell_of_blk (hO.get 2 rfl).2 2 rfl
                have hsB := hE.size
                clear hoN hkl2 hOR hi
                go_wp2_with (at_builtin; refine wpList_append_own2 rfl _ _ 27 rfl Wb.heap.size 53 i53 (.slice none 0 0) 1 24 Try.underlying27 hi53 hz53 hs53 hb53 rfl (by decide) (.slice Arv k crv) k vs rfl (World.ownsRow.alloc hown _) ⟨WB.heap.size, 0, none⟩ 1 1 [.slice (some ⟨gr, 0, none⟩) el el] rfl rfl (cells_new _ #[.slice (some ⟨gr, 0, none⟩) el el] _) (one_slice _ _ _) (by unfold maxLen; omega) (by omega) (by simp; omega) ?_; intro v6 w6 hown6 hg6 hb6; obtain ⟨g6, c6, rfl⟩ := ownsRow_pos hown6 (by omega); have hp := (hO.trans (alloc_ext WB _)).push hg6 (by rw [HVS.out.1]; exact hown6) hb6; have p2 := cell_of_blk (hp.get 1 rfl).2 2 rfl; have pf := free_of_blk (hp.get 1 rfl).2 2)
                go_roundw
                case rel =>
                  have h5 := hp.put 1 rfl 2 (.slice (some ⟨g6, 0, none⟩) (k + 1) c6)
                  have h6 : ((List.range k).map (fun j => eRow (supR m D j))) ++ [(el, (fillE F el el).flatMap edgeCells)] = (List.range (k + 1)).map (fun j => eRow (supR m D j)) := by
                    rw [List.range_succ, List.map_append, ← HSU.out.2]; rfl
                  rw [h6] at h5
                  have hm2 := hmo
                  rw [HON.out] at hm2
                  have hv2 : Value.slice (some ⟨gv, 0, none⟩) (ordAt D (m.row s) ob i).length cv = .slice (some ⟨gv, 0, none⟩) (supO m D (k + 1)).length cv := by rw [HON.out]
                  have h7 : OwnL Wb (w6.setCell ⟨bo, 2, none⟩ (.slice (some ⟨g6, 0, none⟩) (k + 1) c6)) [.rows 53 52 2 (.slice (some ⟨g6, 0, none⟩) (k + 1) c6) (vs ++ [Value.slice (some ⟨gr, 0, none⟩) el el]) ((List.range (k + 1)).map (fun j => eRow (supR m D j))), .blk bo (.cells #[.int .i64 m.ins, .int .i64 m.outs, .slice (some ⟨g6, 0, none⟩) (k + 1) c6] 29), .row 3 1 (.slice (some ⟨gv, 0, none⟩) (ordAt D (m.row s) ob i).length cv) (supO m D (k + 1)).length (ordV (supO m D (k + 1))), .blk bm om, .row 4 1 (.slice (some ⟨gk, 0, none⟩) n n) n (keepV D), .blk (w.heap.size + 1) (.cells #[.int .i64 0, .int .i64 0, .slice none 0 0] 29)] := by
                    rw [← HON.out]; exact h5
                  have h8 := h7.ext
                  exact ⟨k + 1, om, gv, cv, _, _, by go_num, HKL.out, hv2, hCn, hm2, h8, h7⟩
                case measure => simp [intOf]; omega
                --]q4
            --]r1
          · have hke : (supO m D k).length = k := by omega
            --[q5
            have hend : supEnd m D (m.rows.length + 1) 0 = k := by rw [hC.out]; exact supEnd_end (by omega) _
            have hres : supRes m th bad = { ins := m.ins, outs := m.outs, rows := (List.range k).map (supR m D) } := by rw [HS0.out.2, hend]
            have HRES := Lib.hid hres
            have hkI : ¬ (k : Int) < ((supO m D k).length : Int) := by omega
            have b2 := cell_of_blk (hO.get 1 rfl).2 2 rfl
            have hcl := fun W => clip2_any W Arv k crv hcr HVS.out.2 (by omega)
            have hk64 : k ≤ 64 := by omega
            clear hend hres hke
            go_upto_region 45 with fail
            go_upto_region 46 with ((with_reducible refine (hcl _).mono ?_); rintro e w9 ⟨rfl, hE9⟩; have hO9 := hO.trans hE9; have b29 := cell_of_blk (hO9.get 1 rfl).2 2 rfl; have bf9 := free_of_blk (hO9.get 1 rfl).2 2)
            refine wp_named ?_
            intro WZ hWZ
            have hOZ := hO9.put 1 rfl 2 (.slice Arv k k)
            rw [← hWZ] at hOZ
            clear hWZ b29 bf9 hO9 hO b2 hE
            have b0 := cell_of_blk (hOZ.get 1 rfl).2 0 rfl
            have b1 := cell_of_blk (hOZ.get 1 rfl).2 1 rfl
            have b2 := cell_of_blk (hOZ.get 1 rfl).2 2 rfl
            have x0 := cell_of_blk (hOZ.get 5 rfl).2 0 rfl
            have x1 := cell_of_blk (hOZ.get 5 rfl).2 1 rfl
            have x2 := cell_of_blk (hOZ.get 5 rfl).2 2 rfl
            have y0 := free_of_blk (hOZ.get 5 rfl).2
            have hO3 := ((hOZ.put 5 rfl 0 (.int .i64 m.ins)).put 5 rfl 1 (.int .i64 m.outs)).put 5 rfl 2 (.slice Arv k k)
            have z0 := cell_of_blk (hO3.get 5 rfl).2 0 rfl
            have z1 := cell_of_blk (hO3.get 5 rfl).2 1 rfl
            have z2 := cell_of_blk (hO3.get 5 rfl).2 2 rfl
            have HO3 := Lib.hid hO3
            clear hO3
            go_wp2
            refine bodyPost_ret (v := .tuple #[.agg #[.int .i64 m.ins, .int .i64 m.outs, .slice Arv k k], .int .i64 0]) (by simp [results, Try.f24, go_sem, z0, z1, z2]) rfl ?_
            have hEF := HO3.out.ext
            have hEG := hEb.trans hEF
            have hRF := HO3.out.get 0 rfl
            exact sup_fin HV.out HS0.out.1 HRES.out hk64 hEG hEb.size hRF
            --]q5
#print axioms Supervisor_any
end Go.Proofs.Yteadkafeabhhhaa
