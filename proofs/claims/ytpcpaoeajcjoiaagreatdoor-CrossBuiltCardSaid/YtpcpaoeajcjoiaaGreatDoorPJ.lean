/- Texts joined, what is not reached left out. -/
import Derived.Test.YtpcpaoeajcjoiaaGreatDoorPH
import Derived.Test.YtpcpaoeajcjoiaaGreatDoorNP
import Derived.Test.YtpcpaoeajcjoiaaGreatDoorPG
import Derived.Deep.RegionLaw
import Derived.Test.YtpcpaoeajcjoiaaGreatDoorKX
set_option linter.unusedVariables false
set_option linter.unusedSimpArgs false
namespace Go.Proofs.YtpcpaoeajcjoiaaGreatDoor
end Go.Proofs.YtpcpaoeajcjoiaaGreatDoor
namespace Go.Proofs.YtpcpaoeajcjoiaaGreatDoor
open Go.RowKit Kit
theorem Im.wrap_u32 (n : Nat) (h : n < 4294967296) : IntKind.u32.wrap (n : Int) = n:=by rw [IntKind.wrap_u32];omega
theorem Im.wrap_u64 (n : Nat) (h : n < 18446744073709551616) : IntKind.u64.wrap (n : Int) = n:=by rw [IntKind.wrap_u64];omega
structure Im.Raw where
 name : List UInt8
 f : Int
 n : Int
 l : Int
def Im.I64 (x : Int) : Prop:=-9223372036854775808 ≤ x ∧ x ≤ 9223372036854775807
def Im.Raw.ok (r : Im.Raw) : Prop:=Im.I64 r.f ∧ Im.I64 r.n ∧ Im.I64 r.l
def Im.pre (ws : List Im.W) : List UInt8:=L6.text (Im.nop :: ws.flatMap Im.srcW)
end Go.Proofs.YtpcpaoeajcjoiaaGreatDoor
