/- Sends and receives of one goroutine that never waits, for the walk: laws of a region that holds one. -/
import Derived.Test.YteadkafeabhhhaaBase
import Derived.Conc.LoneCalls
import Derived.Conc.LoneSelectN
namespace Go.Proofs.Yteadkafeabhhhaa
open Go.RowKit Go.Conc
set_option linter.unusedVariables false
set_option linter.unusedSimpArgs false

section
variable {P : Program} {ops : Array Oper} {Q : Exit → Act → World → Prop} {a : Act} {w w' : World} {l : List Nat} {i : Nat} {o : Oper}

/-- From the operations l of a region on. -/
def opsTo (P : Program) (ops : Array Oper) (Q : Exit → Act → World → Prop) (l : List Nat) (a : Act) (w : World) : Prop :=
  ∀ (b : Frame) (k : List Item) (cs : List Frame), ∃ e a' w', Q e a' w' ∧ Arrives P (lone (b.at a (.inRegion ops l :: k)) cs w) b k cs e a' w'

theorem wp_region_to {id : Nat} (h : opsTo P ops Q (List.range ops.size) a w) : (Code.region id ops false).wp P Q a w :=
  fun b k cs => let ⟨e, a', w', q, r⟩ := h b k cs; ⟨e, a', w', q, .of_steps (.one step_region) r⟩
theorem opsTo_nil (h : Q .normal a w) : opsTo P ops Q [] a w := fun b k cs => ⟨.normal, a, w, h, .one step_region_end⟩

theorem at_finish (ho : ops[i]? = some o) (b : Frame) (k : List Item) (v : Value) : (b.at a (.inRegion ops (i :: l) :: k)).finish v = b.at (a.put o.dst v) (.inRegion ops l :: k) := by
  rw [Frame.finish_at, ho]; rfl
theorem opsTo_val {v : Value} (ho : ops[i]? = some o) (hw : Region.wanted o (yielded ops a.tmps) = true) (hr : (execOp a.eval o).run P w = .ok (.value v) w')
    (h : opsTo P ops Q l (a.put o.dst v) w') : opsTo P ops Q (i :: l) a w := fun b k cs => by
  obtain ⟨e, a', w₂, hq, harr⟩ := h b k cs
  refine ⟨e, a', w₂, hq, .of_steps (.one (step_lone_go ?_)) harr⟩
  rw [stepG_op ho hw, ← at_finish ho]
  simp [stepG.apply, hr]

theorem stepG_comm_any {b : Frame} {k : List Item} {cs : List Frame} {cases : Array CommCase} {blocking : Bool} {shape : CommShape} (ho : ops[i]? = some o) (hw : Region.wanted o (yielded ops a.tmps) = true)
    (hr : (execOp a.eval o).run P w = .ok (.comm cases blocking shape) w') :
    ∃ es, stepG P true (G (b.at a (.inRegion ops (i :: l) :: k)) cs) w = .comm (G (b.at a (.inRegion ops (i :: l) :: k)) cs) cases blocking shape w' es := by
  rw [stepG_oper ho hw]
  simp [stepG.apply, hr, G, Frame.at, GStep.after]

variable {c cap s r : Nat} {buf : Array Value} {z z' v : Value} {tm closed : Bool}
theorem opsTo_send (ho : ops[i]? = some o) (hw : Region.wanted o (yielded ops a.tmps) = true) (hr : (execOp a.eval o).run P w = .ok (.comm #[scase c v z'] true .send) w')
    (hc : w'.heap[c]? = some (.chan cap buf false s r tm)) (hroom : buf.size < cap) (h : opsTo P ops Q l (a.put o.dst undef) (w'.setChan c cap (buf.push v) false (s + 1) r tm)) : opsTo P ops Q (i :: l) a w := fun b k cs => by
  obtain ⟨e, a', w₂, hq, harr⟩ := h b k cs
  obtain ⟨es, hs⟩ := stepG_comm_any (P := P) (b := b) (k := k) (cs := cs) (l := l) ho hw hr
  have h1 := step_lone_send_room hs hc hroom
  rw [at_finish ho] at h1
  exact ⟨e, a', w₂, hq, .of_steps (.one h1) harr⟩
theorem opsTo_recv (ok : Bool) (ho : ops[i]? = some o) (hw : Region.wanted o (yielded ops a.tmps) = true) (hr : (execOp a.eval o).run P w = .ok (.comm #[rcase c z] true (.recv ok)) w')
    (hc : w'.heap[c]? = some (.chan cap buf closed s r tm)) (hsome : 0 < buf.size) (h : opsTo P ops Q l (a.put o.dst (got ok (buf.getD 0 undef) true)) (w'.setChan c cap (buf.extract 1 buf.size) closed s (r + 1) tm)) : opsTo P ops Q (i :: l) a w := fun b k cs => by
  obtain ⟨e, a', w₂, hq, harr⟩ := h b k cs
  obtain ⟨es, hs⟩ := stepG_comm_any (P := P) (b := b) (k := k) (cs := cs) (l := l) ho hw hr
  have h1 := step_lone_recv_buf ok hs hc hsome
  rw [at_finish ho] at h1
  exact ⟨e, a', w₂, hq, .of_steps (.one h1) harr⟩
theorem opsTo_recv_shut (ok : Bool) (ho : ops[i]? = some o) (hw : Region.wanted o (yielded ops a.tmps) = true) (hr : (execOp a.eval o).run P w = .ok (.comm #[rcase c z] true (.recv ok)) w')
    (hc : w'.heap[c]? = some (.chan cap #[] true s r tm)) (h : opsTo P ops Q l (a.put o.dst (got ok z false)) w') : opsTo P ops Q (i :: l) a w := fun b k cs => by
  obtain ⟨e, a', w₂, hq, harr⟩ := h b k cs
  obtain ⟨es, hs⟩ := stepG_comm_any (P := P) (b := b) (k := k) (cs := cs) (l := l) ho hw hr
  have h1 := step_lone_recv_shut ok hs hc
  rw [at_finish ho] at h1
  exact ⟨e, a', w₂, hq, .of_steps (.one h1) harr⟩
end
end Go.Proofs.Yteadkafeabhhhaa
