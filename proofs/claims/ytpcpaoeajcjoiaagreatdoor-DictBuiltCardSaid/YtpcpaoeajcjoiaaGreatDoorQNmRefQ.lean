/- Texts joined, what is not reached left out. -/
import Derived.Test.YtpcpaoeajcjoiaaGreatDoorDE
import Derived.Deep.RegionHeld3
import Derived.Deep.AppendLies
import Derived.IntWalk
import Derived.Outline
import Derived.StillTailTactics
import Derived.Deep.DeepCutAuto
import Derived.WalkLawsBesides
import Derived.WalkSpells
import Derived.Lib.Hide
import Derived.Lib.ConvBytes
set_option linter.unusedVariables false
set_option linter.unusedSimpArgs false
namespace Go.Proofs.YtpcpaoeajcjoiaaGreatDoor
open Go.RowKit Kit
structure RG (w:World) (g off cap n k f:Nat) (nm:List UInt8) (x0 x4 x8:Nat) (v2:Value) (E:Int) (L T:List UInt8) (vL:Value):Prop where
 c13:∀ W',Below w.heap.size w W'→W'.cell? ⟨g,off+13,none⟩ = some (.int .u8 k)
 c12:∀ W',Below w.heap.size w W'→W'.cell? ⟨g,off+12,none⟩ = some (.int .u8 f)
 cv:∀ W',Below w.heap.size w W'→(convert 26 9 v2).run Tryz.prog W' = .ok (.string ⟨nm.toArray⟩) W'
 s2:∀ W',(Instr.slice 26 (.slice (some ⟨g,off,none⟩) n cap) (some (.int .i64 14)) (some (.int .i64 (14+(k:Int)))) none).run Tryz.prog W' = .ok v2 W'
 sL:L.length≤n→∀ W',(Instr.slice 26 (.slice (some ⟨g,off,none⟩) n cap) none (some (.int .i64 (L.length:Nat))) none).run Tryz.prog W' = .ok vL W'
 cvL:L.length≤n→∀ W',Below w.heap.size w W'→(convert 26 9 vL).run Tryz.prog W' = .ok (.string ⟨T.toArray⟩) W'
 w0:∀ W',Below w.heap.size w W'→Calls Tryz.prog 205 #[.slice (some ⟨g,off,none⟩) n cap,.int .i64 0] W' fun e w'=>e = .returned (.int .u32 x0)∧w' = W'.drew
 w4:∀ W',Below w.heap.size w W'→Calls Tryz.prog 205 #[.slice (some ⟨g,off,none⟩) n cap,.int .i64 4] W' fun e w'=>e = .returned (.int .u32 x4)∧w' = W'.drew
 w8:∀ W',Below w.heap.size w W'→Calls Tryz.prog 205 #[.slice (some ⟨g,off,none⟩) n cap,.int .i64 8] W' fun e w'=>e = .returned (.int .u32 x8)∧w' = W'.drew
 bytes:∀ W',Calls Tryz.prog 206 #[.agg #[.string ⟨nm.toArray⟩,.int .i64 f,.int .u32 x0,.int .u32 x4,.int .u32 x8]] W' fun e w'=>∃ v,e = .returned (.tuple #[v,.int .i64 E])∧OwnB 5 W'.heap.size w' v L∧Below W'.heap.size W' w'
def RGPost (w:World) (n f:Nat) (nm:List UInt8) (x0 x4 x8:Nat) (E:Int) (L T:List UInt8) (e:Ending) (w':World):Prop:=
 ((E ≠ 0 ∨ n < L.length ∨ T ≠ L)→e = .returned (.tuple #[hv0,.int .i64 0,.int .i64 45])) ∧
  ((E = 0∧L.length≤n∧T = L)→e = .returned (.tuple #[hv ⟨nm.toArray⟩ f x0 x4 x8,.int .i64 (L.length:Nat),.int .i64 0]))∧Below w.heap.size w w'
theorem RGPost.bad {w:World} {n f:Nat} {nm:List UInt8} {x0 x4 x8:Nat} {E:Int} {L T:List UInt8} {w':World} (h:E ≠ 0 ∨ n < L.length ∨ T ≠ L) (hb:Below w.heap.size w w') :
  RGPost w n f nm x0 x4 x8 E L T (.returned (.tuple #[hv0,.int .i64 0,.int .i64 45])) w':=⟨fun _=>rfl,fun h2=>by
   rcases h with h | h | h
   ·exact absurd h2.1 h
   ·omega
   ·exact absurd h2.2.2 h,hb⟩
theorem RGPost.good {w:World} {n f:Nat} {nm:List UInt8} {x0 x4 x8:Nat} {E:Int} {L T:List UInt8} {w':World} (h:E = 0∧L.length≤n∧T = L) (hb:Below w.heap.size w w') :
  RGPost w n f nm x0 x4 x8 E L T (.returned (.tuple #[hv ⟨nm.toArray⟩ f x0 x4 x8,.int .i64 (L.length:Nat),.int .i64 0])) w':=⟨fun h2=>by
   rcases h2 with h2 | h2 | h2
   ·exact absurd h.1 h2
   ·omega
   ·exact absurd h.2.2 h2,fun _=>rfl,hb⟩
end Go.Proofs.YtpcpaoeajcjoiaaGreatDoor
