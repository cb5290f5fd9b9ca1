/- A communication inside a region, for the walk of one goroutine: of no program. -/
import Derived.Conc.LoneSelect
import Derived.WalkKit
namespace Go.Proofs.Ytfffkfcemajcpaa.Kit
open Go.RowKit Go.Conc
set_option linter.unusedVariables false

section
variable {P : Program} {ops : Array Oper} {Q : Exit → Act → World → Prop} {a : Act} {w : World} {i : Nat} {rest : List Nat} {o : Oper}

/-- From within a region, its operations l being left, the walk arrives where Q holds. -/
def RegTo (P : Program) (ops : Array Oper) (Q : Exit → Act → World → Prop) (l : List Nat) (a : Act) (w : World) : Prop :=
  ∀ (b : Frame) (k : List Item) (cs : List Frame), ∃ e a' w', Q e a' w' ∧ Arrives P (lone (b.at a (.inRegion ops l :: k)) cs w) b k cs e a' w'
theorem RegTo.nil (h : Q .normal a w) : RegTo P ops Q [] a w := fun b k cs => ⟨.normal, a, w, h, .one step_region_end⟩
theorem RegTo.step {l l' : List Nat} {a' : Act} {w' : World} (h : ∀ (b : Frame) (k : List Item) (cs : List Frame), Go.step P (lone (b.at a (.inRegion ops l :: k)) cs w) = .next (lone (b.at a' (.inRegion ops l' :: k)) cs w')) (h' : RegTo P ops Q l' a' w') : RegTo P ops Q l a w :=
  fun b k cs => let ⟨e, a₂, w₂, q, r⟩ := h' b k cs; ⟨e, a₂, w₂, q, .of_steps (.one (h b k cs)) r⟩
theorem wp_of_reg {id : Nat} (h : RegTo P ops Q (List.range ops.size) a w) : (Code.region id ops false).wp P Q a w :=
  fun b k cs => let ⟨e, a', w', q, r⟩ := h b k cs; ⟨e, a', w', q, .of_steps (.one step_region) r⟩

def uponV (o : Oper) (a : Act) (K : Act → World → Prop) : Result Next → Prop
  | .ok (.value v) w' => K (a.put o.dst v) w'
  | _ => False
@[simp] theorem uponV_value (o : Oper) (a : Act) (K : Act → World → Prop) (v : Value) (w' : World) : uponV o a K (.ok (.value v) w') = K (a.put o.dst v) w' := rfl
/-- An operation that yields a value. -/
theorem RegTo.oper (ho : ops[i]? = some o) (hw : Region.wanted o (yielded ops a.tmps) = true) (h : ∀ K : Act → World → Prop, (∀ a' w', RegTo P ops Q rest a' w' → K a' w') → uponV o a K ((execOp a.eval o).run P w)) : RegTo P ops Q (i :: rest) a w := by
  have h1 := h (fun a' w' => RegTo P ops Q rest a' w') (fun _ _ h => h)
  generalize hr : (execOp a.eval o).run P w = r at h1
  match r, h1 with
  | .ok (.value v) w', h1 =>
    refine RegTo.step (a' := a.put o.dst v) (w' := w') (l' := rest) (fun b k cs => step_lone_go ?_) h1
    have hg := stepG_op (P := P) (b := b) (k := k) (cs := cs) (w := w) (rest := rest) ho hw
    have hfin : (b.at a (.inRegion ops (i :: rest) :: k)).finish v = b.at (a.put o.dst v) (.inRegion ops rest :: k) := by rw [Frame.finish_at, ho]; rfl
    rw [hg, ← hfin]; simp [stepG.apply, hr]

/-- An operation that communicates is handed up, whatever the frame. -/
theorem stepG_comm_any {b : Frame} {k : List Item} {cs : List Frame} {main : Bool} {cases : Array CommCase} {blocking : Bool} {shape : CommShape} {w' : World} (ho : ops[i]? = some o) (hw : Region.wanted o (yielded ops a.tmps) = true)
    (hr : (execOp a.eval o).run P w = .ok (.comm cases blocking shape) w') :
    ∃ es, stepG P main (G (b.at a (.inRegion ops (i :: rest) :: k)) cs) w = .comm (G (b.at a (.inRegion ops (i :: rest) :: k)) cs) cases blocking shape w' es := by
  rw [Conc.stepG_oper ho hw]
  simp [stepG.apply, hr, G, Frame.at, GStep.after]

theorem RegTo.send {c cap s r : Nat} {buf : Array Value} {v z : Value} {tm : Bool} (ho : ops[i]? = some o) (hw : Region.wanted o (yielded ops a.tmps) = true) (hr : (execOp a.eval o).run P w = .ok (.comm #[scase c v z] true .send) w)
    (hc : w.heap[c]? = some (.chan cap buf false s r tm)) (hroom : buf.size < cap) (h : RegTo P ops Q rest (a.put o.dst undef) (w.setChan c cap (buf.push v) false (s + 1) r tm)) : RegTo P ops Q (i :: rest) a w := by
  refine RegTo.step (fun b k cs => ?_) h
  obtain ⟨es, he⟩ := stepG_comm_any (P := P) (b := b) (k := k) (cs := cs) (main := true) (rest := rest) ho hw hr
  have := step_lone_send_room (P := P) he hc hroom
  rw [Frame.finish_at, ho] at this
  exact this
theorem RegTo.recv {c cap s r : Nat} {buf : Array Value} {z : Value} {tm closed : Bool} (ho : ops[i]? = some o) (hw : Region.wanted o (yielded ops a.tmps) = true) (hr : (execOp a.eval o).run P w = .ok (.comm #[rcase c z] false .select) w)
    (hc : w.heap[c]? = some (.chan cap buf closed s r tm)) (hsome : 0 < buf.size) (h : RegTo P ops Q rest (a.put o.dst (.tuple #[goInt 0, .bool true, buf.getD 0 undef])) (w.setChan c cap (buf.extract 1 buf.size) closed s (r + 1) tm)) : RegTo P ops Q (i :: rest) a w := by
  refine RegTo.step (fun b k cs => ?_) h
  obtain ⟨es, he⟩ := stepG_comm_any (P := P) (b := b) (k := k) (cs := cs) (main := true) (rest := rest) ho hw hr
  have := step_lone_select_recv_buf (P := P) he hc hsome
  rw [Frame.finish_at, ho] at this
  exact this
theorem RegTo.default {c cap s r : Nat} {z : Value} {tm : Bool} (ho : ops[i]? = some o) (hw : Region.wanted o (yielded ops a.tmps) = true) (hr : (execOp a.eval o).run P w = .ok (.comm #[rcase c z] false .select) w)
    (hc : w.heap[c]? = some (.chan cap #[] false s r tm)) (h : RegTo P ops Q rest (a.put o.dst (.tuple #[goInt (-1), .bool false, z])) w) : RegTo P ops Q (i :: rest) a w := by
  refine RegTo.step (fun b k cs => ?_) h
  obtain ⟨es, he⟩ := stepG_comm_any (P := P) (b := b) (k := k) (cs := cs) (main := true) (rest := rest) ho hw hr
  have := step_lone_select_default (P := P) he hc
  rw [Frame.finish_at, ho] at this
  exact this
end
end Go.Proofs.Ytfffkfcemajcpaa.Kit
