/- Texts joined, what is not reached left out. -/
import Derived.Test.YtpcpaoeajcjoiaaGreatDoorMS
import Derived.Test.YtpcpaoeajcjoiaaGreatDoorLT
import Derived.Test.YtpcpaoeajcjoiaaGreatDoorKC
import Derived.Test.YtpcpaoeajcjoiaaGreatDoorPA
set_option linter.unusedVariables false
set_option linter.unusedSimpArgs false
namespace Go.Proofs.YtpcpaoeajcjoiaaGreatDoor
end Go.Proofs.YtpcpaoeajcjoiaaGreatDoor
namespace Go.Proofs.YtpcpaoeajcjoiaaGreatDoor
open Go.RowKit Kit
structure L6.Wd (w : List UInt8) : Prop where
 ne : w ≠ []
 head : ∀ r, L6.bare (w ++ r) = w ++ r
 next : ∀ r, L6.free r = true → L6.next (w ++ r) = (w, r, true)
 note : L6.note w = false
end Go.Proofs.YtpcpaoeajcjoiaaGreatDoor
namespace Go.Proofs.YtpcpaoeajcjoiaaGreatDoor
end Go.Proofs.YtpcpaoeajcjoiaaGreatDoor
namespace Go.Proofs.YtpcpaoeajcjoiaaGreatDoor
def Im.nopB : List UInt8 := [19, 0, 0, 0]
def Im.nop : L6.Line := ⟨[], As.tNop, []⟩
end Go.Proofs.YtpcpaoeajcjoiaaGreatDoor
namespace Go.Proofs.YtpcpaoeajcjoiaaGreatDoor
structure Im.W where
 name : List UInt8
 fl : Nat
 n : Nat
 l : Nat
def Im.own (x : Im.W) : List UInt8 := Im.label x.l x.name
def Im.hd (x : Im.W) : List UInt8 := Im.head x.l x.name
def Im.key (x : Im.W) : Nat := x.l * 16 + Im.bucket x.name
def Im.hsz (x : Im.W) : Nat := Nm.lengthN x.name.length + 4
def Im.pd (x : Im.W) : Nat := Nm.lengthN x.name.length - (14 + x.name.length)
def Im.Mark (s : List UInt8) : Prop := ∃ c t, s = c :: t ∧ (c = 61 ∨ c = 94)
theorem Im.mark_ne {s : List UInt8} (h : Im.Mark s) : s ≠ [] := by
 obtain ⟨c, t, rfl, hc⟩ := h
 simp
abbrev Im.Bl := List (L6.Line × List UInt8)
def Im.ends (prev : List UInt8) : Im.Bl := if prev = [] then [] else [(⟨[prev ++ [36]], [], []⟩, [])]
def Im.ns (x : Im.W) : List Nat := x.fl :: x.name.length :: x.name.map fun c => c.toNat
def Im.body (pos : Nat) (link : List UInt8) (la : Nat) (x : Im.W) : Im.Bl :=
  [(⟨[], As.tAlign, []⟩, List.replicate 0 0), (⟨[Im.hd x], As.tWord, [Im.either link]⟩, As.four la), (⟨[], As.tWord, [Im.own x]⟩, As.four (pos + Im.hsz x)), (⟨[], As.tSpan, [Im.own x, Im.own x ++ [36]]⟩, As.four (4 * x.n)),
   (⟨[], As.tByte, (Im.ns x).map Lib.decDigits⟩, (Im.ns x).map UInt8.ofNat), (⟨[], As.tAlign, []⟩, List.replicate (Im.pd x) 0), (⟨[], As.tWord, [Im.hd x]⟩, As.four pos), (⟨[Im.own x], [], []⟩, [])]
def Im.layW (pos : Nat) (prev link : List UInt8) (la : Nat) (x : Im.W) : Im.Bl :=
 (⟨[], [], []⟩, []) :: (Im.ends prev ++ (Im.body pos link la x ++ List.replicate x.n (Im.nop, Im.nopB)))
def Im.Fine (x : Im.W) : Prop := x.name.length ≤ 31 ∧ x.fl ≤ 15 ∧ x.n ≤ 3 ∧ x.l ≤ 1
def Im.Lk (s : List UInt8) : Prop := s = [] ∨ Im.Mark s
theorem Im.Lk.either {s : List UInt8} (h : Im.Lk s) : Im.either s = [48] ∨ Im.Mark (Im.either s) := by
 unfold Im.either
 rcases h with rfl | h
 ·exact .inl rfl
 ·rw [if_neg (Im.mark_ne h)]; exact .inr h
end Go.Proofs.YtpcpaoeajcjoiaaGreatDoor
namespace Go.Proofs.YtpcpaoeajcjoiaaGreatDoor
end Go.Proofs.YtpcpaoeajcjoiaaGreatDoor
namespace Go.Proofs.YtpcpaoeajcjoiaaGreatDoor
def Im.srcW (x : Im.W) : List L6.Line := ⟨[], Im.tList, [Lib.decDigits x.l]⟩ :: ⟨[], Im.tDef, [x.name, Lib.decDigits x.fl]⟩ :: List.replicate x.n Im.nop
def Im.hds : L6.Line := ⟨[[104]], Im.tHeads, []⟩
def Im.src (ws : List Im.W) : List L6.Line := Im.nop :: (ws.flatMap Im.srcW ++ [Im.hds])
def Im.next (pos la : Nat) (S : Im.St) (x : Im.W) : Im.St := ⟨S.out ++ (Im.layW pos S.opn (S.last.getD (Im.key x) []) la x).map (fun p => p.1), x.l, S.last.set (Im.key x) (Im.hd x), Im.own x, S.asks⟩
end Go.Proofs.YtpcpaoeajcjoiaaGreatDoor
namespace Go.Proofs.YtpcpaoeajcjoiaaGreatDoor
structure Im.Ok (x : Im.W) : Prop where
 right : Nm.right x.name = true
 whole : L6.whole x.name = true
 fine : Im.Fine x
structure Im.LineOk (x : L6.Line) : Prop where
 kind : F8.kind x.word = none
 made : x.labels.any F8.made = false
 labels : x.labels.length ≤ 1
 args : x.args.length ≤ 40
 ls : ∀ s ∈ x.labels, s.length ≤ 40
 ars : ∀ s ∈ x.args, s.length ≤ 40
 word : x.word.length ≤ 10
end Go.Proofs.YtpcpaoeajcjoiaaGreatDoor
