/- Regions whose order is drawn, and whose operations read and whose callees make memory but yield one value: one walk, in the class of the worlds that are as w0 below B. Of no program. -/
import Derived.WalkKit
import Derived.Below
import Derived.Lib.Hide
import Derived.Deep.QuietTactic
import Derived.BigQuiet
namespace Go.Proofs.YtfafdkbnmfpbmaaGreatDoor.Kit
open Go.RowKit
set_option linter.unusedVariables false

theorem wp_region_class {P : Program} (C : World → Prop) {id : Nat} {Q : Exit → Act → World → Prop} {a : Act} {w : World} {l : List Oper} (hm : P.follows .mixedOrders = true) (hB : Region.lexB .any l.toArray = true) (hC : C { w with drawn := w.drawn + 1 })
    (h : wpQuiet P l.toArray C (fun a' => ∀ w', C w' → Q .normal a' w') l a) : (Code.region id l.toArray true).wp P Q a w :=
  wp_region_quiet (C := C) hm hB hC (by simpa using h)
theorem callB {P : Program} {f : FuncId} {args : Array Value} {B : Nat} {w0 W' : World} {v : Value} (h : Calls P f args W' fun e w'' => e = .returned v ∧ Below W'.heap.size W' w'') (hb : Below B w0 W') (hB : B ≤ w0.heap.size) :
    Calls P f args W' fun e w'' => e = .returned v ∧ Below B w0 w'' :=
  h.mono fun e w'' ⟨he, hw⟩ => ⟨he, hb.trans (hw.mono (Nat.le_trans hB hb.size))⟩
theorem callS {P : Program} {f : FuncId} {args : Array Value} {B : Nat} {w0 W' : World} {v : Value} (h : Calls P f args W' fun e w'' => e = .returned v ∧ W' = w'') (hb : Below B w0 W') :
    Calls P f args W' fun e w'' => e = .returned v ∧ Below B w0 w'' :=
  h.mono fun e w'' ⟨he, hw⟩ => ⟨he, hw ▸ hb⟩
end Go.Proofs.YtfafdkbnmfpbmaaGreatDoor.Kit
