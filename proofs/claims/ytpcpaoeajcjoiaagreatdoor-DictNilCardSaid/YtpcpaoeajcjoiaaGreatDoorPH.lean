/- Texts joined, what is not reached left out. -/
import Derived.Test.YtpcpaoeajcjoiaaGreatDoorMS
import Derived.Test.YtpcpaoeajcjoiaaGreatDoorLT
import Derived.Test.YtpcpaoeajcjoiaaGreatDoorKC
import Derived.Test.YtpcpaoeajcjoiaaGreatDoorPA
/- Layer 7: what lines come to whose pieces and bytes are known. Plain. -/
namespace Go.Proofs.YtpcpaoeajcjoiaaGreatDoor
set_option linter.unusedVariables false
set_option linter.unusedSimpArgs false

end Go.Proofs.YtpcpaoeajcjoiaaGreatDoor
/- What is printed is parsed as it was: plain; without the document's side (XL6BackP's own lines; never import both). -/
namespace Go.Proofs.YtpcpaoeajcjoiaaGreatDoor
open Go.RowKit Kit
set_option linter.unusedVariables false
set_option linter.unusedSimpArgs false

/-- A word, whatever blank is behind it. -/
structure L6.Wd (w : List UInt8) : Prop where
  ne : w ≠ []
  head : ∀ r, L6.bare (w ++ r) = w ++ r
  next : ∀ r, L6.free r = true → L6.next (w ++ r) = (w, r, true)
  note : L6.note w = false
end Go.Proofs.YtpcpaoeajcjoiaaGreatDoor
/- Layer 7: digits are read back; words that are one word; symbols' names. Plain. -/
namespace Go.Proofs.YtpcpaoeajcjoiaaGreatDoor
set_option linter.unusedVariables false
set_option linter.unusedSimpArgs false

end Go.Proofs.YtpcpaoeajcjoiaaGreatDoor
/- Layer 10: the pieces of an image's lines, their bytes. Plain. -/
namespace Go.Proofs.YtpcpaoeajcjoiaaGreatDoor
set_option linter.unusedVariables false
set_option linter.unusedSimpArgs false

def Im.nopB : List UInt8 := [19, 0, 0, 0]
def Im.nop : L6.Line := ⟨[], As.tNop, []⟩
end Go.Proofs.YtpcpaoeajcjoiaaGreatDoor
/- Layer 10: words with heads, in chains: where all lies in their image. Plain. -/
namespace Go.Proofs.YtpcpaoeajcjoiaaGreatDoor
set_option linter.unusedVariables false
set_option linter.unusedSimpArgs false

/-- A word: its name, flags, how many instructions, its list. -/
structure Im.W where
  name : List UInt8
  fl : Nat
  n : Nat
  l : Nat
def Im.own (x : Im.W) : List UInt8 := Im.label x.l x.name
def Im.hd (x : Im.W) : List UInt8 := Im.head x.l x.name
def Im.key (x : Im.W) : Nat := x.l * 16 + Im.bucket x.name
def Im.hsz (x : Im.W) : Nat := Nm.lengthN x.name.length + 4
def Im.wsz (x : Im.W) : Nat := Im.hsz x + 4 * x.n
def Im.pd (x : Im.W) : Nat := Nm.lengthN x.name.length - (14 + x.name.length)
/-- A symbol's name. -/
def Im.Mark (s : List UInt8) : Prop := ∃ c t, s = c :: t ∧ (c = 61 ∨ c = 94)
theorem Im.mark_ne {s : List UInt8} (h : Im.Mark s) : s ≠ [] := by
  obtain ⟨c, t, rfl, hc⟩ := h
  simp
abbrev Im.Bl := List (L6.Line × List UInt8)
/-- A word's lines with their bytes. -/
def Im.ends (prev : List UInt8) : Im.Bl := if prev = [] then [] else [(⟨[prev ++ [36]], [], []⟩, [])]
def Im.ns (x : Im.W) : List Nat := x.fl :: x.name.length :: x.name.map fun c => c.toNat
def Im.body (pos : Nat) (link : List UInt8) (la : Nat) (x : Im.W) : Im.Bl :=
  [(⟨[], As.tAlign, []⟩, List.replicate 0 0), (⟨[Im.hd x], As.tWord, [Im.either link]⟩, As.four la), (⟨[], As.tWord, [Im.own x]⟩, As.four (pos + Im.hsz x)), (⟨[], As.tSpan, [Im.own x, Im.own x ++ [36]]⟩, As.four (4 * x.n)),
   (⟨[], As.tByte, (Im.ns x).map Lib.decDigits⟩, (Im.ns x).map UInt8.ofNat), (⟨[], As.tAlign, []⟩, List.replicate (Im.pd x) 0), (⟨[], As.tWord, [Im.hd x]⟩, As.four pos), (⟨[Im.own x], [], []⟩, [])]
def Im.layW (pos : Nat) (prev link : List UInt8) (la : Nat) (x : Im.W) : Im.Bl :=
  (⟨[], [], []⟩, []) :: (Im.ends prev ++ (Im.body pos link la x ++ List.replicate x.n (Im.nop, Im.nopB)))
def Im.Fine (x : Im.W) : Prop := x.name.length ≤ 31 ∧ x.fl ≤ 15 ∧ x.n ≤ 3 ∧ x.l ≤ 1
theorem Im.Fine.ns {x : Im.W} (h : Im.Fine x) : ∀ n ∈ Im.ns x, n ≤ 255 := fun n hn => by
  obtain ⟨h1, h2, _, _⟩ := h
  unfold Im.ns at hn
  rcases List.mem_cons.1 hn with rfl | hn
  · omega
  · rcases List.mem_cons.1 hn with rfl | hn
    · omega
    · obtain ⟨c, _, rfl⟩ := List.mem_map.1 hn
      have := c.toNat_lt
      omega
/-- A link: none, or a head's name. -/
def Im.Lk (s : List UInt8) : Prop := s = [] ∨ Im.Mark s
theorem Im.Lk.either {s : List UInt8} (h : Im.Lk s) : Im.either s = [48] ∨ Im.Mark (Im.either s) := by
  unfold Im.either
  rcases h with rfl | h
  · exact .inl rfl
  · rw [if_neg (Im.mark_ne h)]; exact .inr h
end Go.Proofs.YtpcpaoeajcjoiaaGreatDoor
/- Layer 10: all words and the heads behind them: sizes, symbols, bytes. Plain. -/
namespace Go.Proofs.YtpcpaoeajcjoiaaGreatDoor
set_option linter.unusedVariables false
set_option linter.unusedSimpArgs false

/-- The slots of the heads. -/
def Im.slot (last : List (List UInt8)) (la : List Nat) (k : Nat) : L6.Line × List UInt8 := (⟨if k = 0 then [[104]] else [], As.tWord, [Im.either (last.getD k [])]⟩, As.four (la.getD k 0))
def Im.slots (last : List (List UInt8)) (la : List Nat) : Im.Bl := (List.range 32).map (Im.slot last la)
def Im.layL : Nat → List UInt8 → List (List UInt8) → List Nat → List Im.W → Im.Bl
  | pos, prev, last, la, [] => Im.ends prev ++ Im.slots last la
  | pos, prev, last, la, x :: r => Im.layW pos prev (last.getD (Im.key x) []) (la.getD (Im.key x) 0) x ++ Im.layL (pos + Im.wsz x) (Im.own x) (last.set (Im.key x) (Im.hd x)) (la.set (Im.key x) pos) r
end Go.Proofs.YtpcpaoeajcjoiaaGreatDoor
/- Layer 10: words in a source: what the image's maker makes of their lines. Plain. -/
namespace Go.Proofs.YtpcpaoeajcjoiaaGreatDoor
set_option linter.unusedVariables false
set_option linter.unusedSimpArgs false

def Im.srcW (x : Im.W) : List L6.Line := ⟨[], Im.tList, [Lib.decDigits x.l]⟩ :: ⟨[], Im.tDef, [x.name, Lib.decDigits x.fl]⟩ :: List.replicate x.n Im.nop
def Im.hds : L6.Line := ⟨[[104]], Im.tHeads, []⟩
def Im.src (ws : List Im.W) : List L6.Line := Im.nop :: (ws.flatMap Im.srcW ++ [Im.hds])
/-- Behind a word. -/
def Im.next (pos la : Nat) (S : Im.St) (x : Im.W) : Im.St := ⟨S.out ++ (Im.layW pos S.opn (S.last.getD (Im.key x) []) la x).map (fun p => p.1), x.l, S.last.set (Im.key x) (Im.hd x), Im.own x, S.asks⟩
/-- A source's lines, as lines with their bytes. -/
def Im.lay (ws : List Im.W) : Im.Bl := (Im.nop, Im.nopB) :: Im.layL 4 [] (List.replicate 32 []) (List.replicate 32 0) ws
end Go.Proofs.YtpcpaoeajcjoiaaGreatDoor
/- Layer 10: a source of words: its text is read as its lines; nothing of flow is in it. Plain. -/
namespace Go.Proofs.YtpcpaoeajcjoiaaGreatDoor
set_option linter.unusedVariables false
set_option linter.unusedSimpArgs false

/-- A word that may be. -/
structure Im.Ok (x : Im.W) : Prop where
  right : Nm.right x.name = true
  whole : L6.whole x.name = true
  fine : Im.Fine x
/-- The image's lines. -/
structure Im.LineOk (x : L6.Line) : Prop where
  kind : F8.kind x.word = none
  made : x.labels.any F8.made = false
  labels : x.labels.length ≤ 1
  args : x.args.length ≤ 40
  ls : ∀ s ∈ x.labels, s.length ≤ 40
  ars : ∀ s ∈ x.args, s.length ≤ 40
  word : x.word.length ≤ 10
end Go.Proofs.YtpcpaoeajcjoiaaGreatDoor
