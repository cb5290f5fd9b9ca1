/- Texts joined: AsPlain, AsLoop, AsParts, AsOk, AsMem, AsPut, AsNext, AsRead, AsNum, AsInst. -/
import Derived.Test.YtfafdkbnmfpbmaaGreatDoorL6Num3
import Derived.Test.YtfafdkbnmfpbmaaGreatDoorIsEncode
import Derived.Test.YtfafdkbnmfpbmaaGreatDoorIsByName
import Derived.Test.YtfafdkbnmfpbmaaGreatDoorKitH
import Derived.Test.YtfafdkbnmfpbmaaGreatDoorL6Base
import Derived.Test.YtfafdkbnmfpbmaaGreatDoorF8Base
import Derived.Deep.RegionLaw
import Derived.StillTailTactics
/- Layer 7: what the assembler computes. Plain. -/
namespace Go.Proofs.YtfafdkbnmfpbmaaGreatDoor
set_option linter.unusedVariables false
set_option linter.unusedSimpArgs false

/-- A piece: an instruction or bytes; what it asks of symbols: 0 nothing, 1 goal, 2 upper, 3 lower, 4 place, 5 behind. -/
structure As.P where
  code : Bool
  inst : Is.Inst
  bytes : List UInt8
  kind : Nat
  name : List UInt8
  src : List UInt8
def As.no : Is.Inst := ⟨0, 0, 0, 0, 0⟩
/-- What is left of a line's words, is it right, the pieces. -/
structure As.L where
  l : List (List UInt8)
  ok : Bool
  p : List As.P
def As.next (x : As.L) : List UInt8 × As.L := match x.l with
  | [] => ([], ⟨[], false, x.p⟩)
  | s :: t => (s, ⟨t, x.ok, x.p⟩)
def As.sat (b : Bool) (x : As.L) : As.L := ⟨x.l, x.ok && b, x.p⟩
def As.put (p : As.P) (x : As.L) : As.L := ⟨x.l, x.ok, x.p ++ [p]⟩
def As.reg (x : As.L) : Nat × As.L := ((L6.regV (As.next x).1).1, As.sat (L6.regV (As.next x).1).2 (As.next x).2)
def As.num (x : As.L) : Int × As.L := ((L6.number (As.next x).1).1, As.sat (L6.number (As.next x).1).2 (As.next x).2)
/-- May a word be a symbol? -/
def As.symbol (s : List UInt8) : Bool := !(L6.number s).2 && (!(L6.regV s).2 && (!s.isEmpty && s.headD 0 != 34))
def As.name (x : As.L) : List UInt8 × As.L := ((As.next x).1, As.sat (As.symbol (As.next x).1) (As.next x).2)
def As.either (x : As.L) : (Int × List UInt8) × As.L := match x.l with
  | [] => ((0, (As.name x).1), (As.name x).2)
  | s :: t => if (L6.number s).2 = true then (((L6.number s).1, []), ⟨t, x.ok, x.p⟩) else ((0, (As.name x).1), (As.name x).2)
def As.code (i : Is.Inst) (x : As.L) : As.L := As.put ⟨true, i, [], 0, [], []⟩ x
def As.imm (i : Is.Inst) (n : Int) : Is.Inst := ⟨i.op, i.rd, i.rs1, i.rs2, n⟩
def As.to (i : Is.Inst) (x : As.L) : As.L :=
  As.put ⟨true, As.imm i (As.either x).1.1, [], if (As.either x).1.2 = [] then 0 else 1, (As.either x).1.2, []⟩ (As.either x).2
/-- The lower and the upper part of a number. -/
def As.lo (n : Int) : Int := (n + 2048) % 4096 - 2048
def As.hi (n : Int) : Int := (n - As.lo n) / 4096 % 1048576
/-- An instruction by its Op. -/
def As.inst (op : Int) (x : As.L) : As.L :=
  if Is.shape op = 0 then As.code ⟨op, (As.reg x).1, 0, 0, (As.num (As.reg x).2).1⟩ (As.num (As.reg x).2).2
  else if Is.shape op = 1 then As.to ⟨op, (As.reg x).1, 0, 0, 0⟩ (As.reg x).2
  else if Is.shape op = 3 then As.to ⟨op, 0, (As.reg x).1, (As.reg (As.reg x).2).1, 0⟩ (As.reg (As.reg x).2).2
  else if Is.shape op = 4 then As.code ⟨op, 0, (As.reg (As.num (As.reg x).2).2).1, (As.reg x).1, (As.num (As.reg x).2).1⟩ (As.reg (As.num (As.reg x).2).2).2
  else if Is.shape op = 6 then As.code ⟨op, (As.reg x).1, (As.reg (As.reg x).2).1, (As.reg (As.reg (As.reg x).2).2).1, 0⟩ (As.reg (As.reg (As.reg x).2).2).2
  else if Is.shape op = 8 then As.code ⟨op, 0, 0, 0, (As.num x).1⟩ (As.num x).2
  else if Is.shape op = 7 then As.code ⟨op, 0, 0, 0, 0⟩ x
  else if op ≤ 14 then As.code ⟨op, (As.reg x).1, (As.reg (As.num (As.reg x).2).2).1, 0, (As.num (As.reg x).2).1⟩ (As.reg (As.num (As.reg x).2).2).2
  else As.code ⟨op, (As.reg x).1, (As.reg (As.reg x).2).1, 0, (As.num (As.reg (As.reg x).2).2).1⟩ (As.num (As.reg (As.reg x).2).2).2
/-- A number into a register. -/
def As.number (d : Int) (n : Int) (x : As.L) : As.L :=
  if -2048 ≤ n ∧ n < 2048 then As.code ⟨18, d, 0, 0, n⟩ x
  else As.code ⟨18, d, d, 0, As.lo n⟩ (As.code ⟨0, d, 0, 0, As.hi n⟩ x)
def As.tLi : List UInt8 := [108, 105]
def As.tLa : List UInt8 := [108, 97]
def As.tMv : List UInt8 := [109, 118]
def As.tNop : List UInt8 := [110, 111, 112]
def As.tRet : List UInt8 := [114, 101, 116]
def As.tCall : List UInt8 := [99, 97, 108, 108]
def As.tJ : List UInt8 := [106]
def As.tNot : List UInt8 := [110, 111, 116]
def As.tNeg : List UInt8 := [110, 101, 103]
def As.tBeqz : List UInt8 := [98, 101, 113, 122]
def As.tBnez : List UInt8 := [98, 110, 101, 122]
def As.tWord : List UInt8 := [119, 111, 114, 100]
def As.tByte : List UInt8 := [98, 121, 116, 101]
def As.tText : List UInt8 := [116, 101, 120, 116]
def As.tSpace : List UInt8 := [115, 112, 97, 99, 101]
def As.tAlign : List UInt8 := [97, 108, 105, 103, 110]
def As.tSpan : List UInt8 := [115, 112, 97, 110]
/-- What stands for instructions. -/
def As.pseudo (w : List UInt8) (x : As.L) : Option As.L :=
  if w = As.tLi then some (As.number (As.reg x).1 (As.num (As.reg x).2).1 (As.num (As.reg x).2).2)
  else if w = As.tLa then some (As.put ⟨true, ⟨18, (As.reg x).1, (As.reg x).1, 0, 0⟩, [], 3, (As.name (As.reg x).2).1, []⟩ (As.put ⟨true, ⟨0, (As.reg x).1, 0, 0, 0⟩, [], 2, (As.name (As.reg x).2).1, []⟩ (As.name (As.reg x).2).2))
  else if w = As.tMv then some (As.code ⟨18, (As.reg x).1, (As.reg (As.reg x).2).1, 0, 0⟩ (As.reg (As.reg x).2).2)
  else if w = As.tNop then some (As.code ⟨18, 0, 0, 0, 0⟩ x)
  else if w = As.tRet then some (As.code ⟨3, 0, 1, 0, 0⟩ x)
  else if w = As.tCall then some (As.to ⟨2, 1, 0, 0, 0⟩ x)
  else if w = As.tJ then some (As.to ⟨2, 0, 0, 0, 0⟩ x)
  else if w = As.tNot then some (As.code ⟨21, (As.reg x).1, (As.reg (As.reg x).2).1, 0, -1⟩ (As.reg (As.reg x).2).2)
  else if w = As.tNeg then some (As.code ⟨28, (As.reg x).1, 0, (As.reg (As.reg x).2).1, 0⟩ (As.reg (As.reg x).2).2)
  else if w = As.tBeqz then some (As.to ⟨4, 0, (As.reg x).1, 0, 0⟩ (As.reg x).2)
  else if w = As.tBnez then some (As.to ⟨5, 0, (As.reg x).1, 0, 0⟩ (As.reg x).2)
  else none
/-- A word's bytes. -/
def As.four (v : Nat) : List UInt8 := [UInt8.ofNat v, UInt8.ofNat (v / 256), UInt8.ofNat (v / 65536), UInt8.ofNat (v / 16777216)]
def As.bits (n : Int) : Nat := (n % 4294967296).toNat
/-- One word, one byte. -/
def As.word1 (x : As.L) : As.L := As.put ⟨false, As.no, As.four (As.bits (As.either x).1.1), if (As.either x).1.2 = [] then 0 else 4, (As.either x).1.2, []⟩ (As.either x).2
def As.byte1 (x : As.L) : As.L :=
  As.put ⟨false, As.no, [UInt8.ofNat ((As.num x).1 % 256).toNat], 0, [], []⟩ (As.sat (decide (-128 ≤ (As.num x).1) && decide ((As.num x).1 ≤ 255)) (As.num x).2)
/-- Once, and on while something is left. -/
def As.loop (f : As.L → As.L) : Nat → As.L → As.L
  | 0, x => x
  | n + 1, x => if (f x).l = [] then f x else As.loop f n (f x)
def As.raw (b : List UInt8) : As.P := ⟨false, As.no, b, 0, [], []⟩
def As.textOk (s : List UInt8) : Bool := decide (1 < s.length) && s.headD 0 == 34
def As.spaceOk (n : Int) : Bool := decide (0 ≤ n) && decide (n ≤ 131072)
def As.data (w : List UInt8) (at_ : Nat) (x : As.L) : Option As.L :=
  if w = As.tWord then some (As.loop As.word1 (x.l.length + 1) x)
  else if w = As.tByte then some (As.loop As.byte1 (x.l.length + 1) x)
  else if w = As.tText then some (if (As.next x).2.ok && As.textOk (As.next x).1 then As.put (As.raw (((As.next x).1.take ((As.next x).1.length - 1)).drop 1)) (As.sat (As.textOk (As.next x).1) (As.next x).2) else As.sat (As.textOk (As.next x).1) (As.next x).2)
  else if w = As.tSpace then some (if (As.num x).2.ok && As.spaceOk (As.num x).1 then As.put (As.raw (List.replicate (As.num x).1.toNat 0)) (As.sat (As.spaceOk (As.num x).1) (As.num x).2) else As.sat (As.spaceOk (As.num x).1) (As.num x).2)
  else if w = As.tAlign then some (As.put (As.raw (List.replicate ((4 - at_ % 4) % 4) 0)) x)
  else if w = As.tSpan then some (As.put ⟨false, As.no, [0, 0, 0, 0], 5, (As.name (As.name x).2).1, (As.name x).1⟩ (As.name (As.name x).2).2)
  else none
def As.read (w : List UInt8) (at_ : Nat) (x : As.L) : Option As.L :=
  if Is.isName ⟨w.toArray⟩ = true then some (As.inst (Is.found ⟨w.toArray⟩) x)
  else match As.pseudo w x with
    | some y => some y
    | none => As.data w at_ x
def As.done (x : As.L) : Option (List As.P) := if x.ok = true ∧ x.l = [] then some x.p else none
/-- Of a line at a place. -/
def As.pieces (l : L6.Line) (at_ : Nat) : Option (List As.P) :=
  if l.word = [] then some []
  else match As.read l.word at_ ⟨l.args, true, []⟩ with
    | none => none
    | some y => As.done y
def As.size1 (p : As.P) : Nat := p.bytes.length + (if p.code then 4 else 0)
def As.size (l : List As.P) : Nat := (l.map As.size1).sum
/-- Labels at a place; none: one is there already. -/
def As.labels (at_ : Nat) : List (List UInt8) → List (List UInt8 × Nat) → Option (List (List UInt8 × Nat))
  | [], sy => some sy
  | s :: t, sy => if (sy.any fun p => p.1 == s) = true then none else As.labels at_ t (sy ++ [(s, at_)])
inductive As.R (α : Type) where
  | bad (n e : Nat)
  | ok (v : α)
def As.lead (p : List As.P) : Bool := match p with | [] => false | x :: _ => x.code
def As.at32 (a : Nat) : Nat := a % 4294967296
def As.first (at_ : Nat) : Nat → Nat → List (List UInt8 × Nat) → List L6.Line → As.R (List (List UInt8 × Nat))
  | _, _, sy, [] => .ok sy
  | i, here, sy, l :: r =>
    match As.labels (As.at32 (at_ + here)) l.labels sy with
    | none => .bad (i + 1) 42
    | some sy1 => match As.pieces l (As.at32 (at_ + here)) with
      | none => .bad (i + 1) 40
      | some p =>
        if As.lead p = true ∧ As.at32 (at_ + here) % 4 ≠ 0 then .bad (i + 1) 30
        else if 131072 < here + As.size p then .bad (i + 1) 6
        else As.first at_ (i + 1) (here + As.size p) sy1 r
def As.look (sy : List (List UInt8 × Nat)) (s : List UInt8) : Option Nat := (sy.find? fun p => p.1 == s).map fun p => p.2
def As.s32 (v : Nat) : Int := if v < 2147483648 then (v : Int) else (v : Int) - 4294967296
/-- The instruction with its goal; the error's number, if it may not be. -/
def As.aim (p : As.P) (v at_ : Nat) : Is.Inst × Nat :=
  if p.kind = 1 then (As.imm p.inst (As.s32 (As.bits ((v : Int) - (at_ : Int)))), 43)
  else if p.kind = 2 then (As.imm p.inst (As.hi (As.s32 v)), 20)
  else if p.kind = 3 then (As.imm p.inst (As.lo (As.s32 v)), 20)
  else (p.inst, 20)
/-- A piece's bytes at a place, or the error's number. -/
def As.piece (sy : List (List UInt8 × Nat)) (p : As.P) (at_ : Nat) : List UInt8 × Nat :=
  if p.kind = 0 ∧ p.code = false then (p.bytes, 0)
  else if p.kind ≠ 0 ∧ As.look sy p.name = none then ([], 41)
  else if p.kind = 5 then (match As.look sy p.src with
    | none => ([], 41)
    | some w => (As.four (As.bits (((As.look sy p.name).getD 0 : Int) - (w : Int))), 0))
  else if p.kind = 4 then (As.four ((As.look sy p.name).getD 0), 0)
  else if (Is.enc (As.aim p ((As.look sy p.name).getD 0) at_).1).2 = 0 then (As.four (Is.enc (As.aim p ((As.look sy p.name).getD 0) at_).1).1.toNat, 0)
  else ([], (As.aim p ((As.look sy p.name).getD 0) at_).2)
/-- Pieces' bytes behind others. -/
def As.puts (sy : List (List UInt8 × Nat)) (at_ : Nat) : List As.P → List UInt8 → List UInt8 × Nat
  | [], b => (b, 0)
  | p :: r, b =>
    if (As.piece sy p (As.at32 (at_ + b.length))).2 = 0 then As.puts sy at_ r (b ++ (As.piece sy p (As.at32 (at_ + b.length))).1)
    else (b, (As.piece sy p (As.at32 (at_ + b.length))).2)
def As.second (sy : List (List UInt8 × Nat)) (at_ : Nat) : Nat → List UInt8 → List L6.Line → As.R (List UInt8)
  | _, b, [] => .ok b
  | i, b, l :: r =>
    if (As.puts sy at_ ((As.pieces l (As.at32 (at_ + b.length))).getD []) b).2 = 0 then As.second sy at_ (i + 1) (As.puts sy at_ ((As.pieces l (As.at32 (at_ + b.length))).getD []) b).1 r
    else .bad (i + 1) (As.puts sy at_ ((As.pieces l (As.at32 (at_ + b.length))).getD []) b).2
structure As.O where
  bytes : List UInt8
  syms : List (List UInt8 × Nat)
  line : Nat
  err : Nat
def As.passes (l : List L6.Line) (at_ : Nat) : As.O := match As.first at_ 0 0 [] l with
  | .bad n e => ⟨[], [], n, e⟩
  | .ok sy => match As.second sy at_ 0 [] l with
    | .bad n e => ⟨[], [], n, e⟩
    | .ok b => ⟨b, sy, 0, 0⟩
def As.assemble (l : List L6.Line) (at_ : Nat) : As.O := if 32768 < l.length ∨ at_ % 4 ≠ 0 then ⟨[], [], 0, 6⟩ else As.passes l at_
end Go.Proofs.YtfafdkbnmfpbmaaGreatDoor
/- Layer 7: once, and on while something is left. Plain. -/
namespace Go.Proofs.YtfafdkbnmfpbmaaGreatDoor
set_option linter.unusedVariables false
set_option linter.unusedSimpArgs false

theorem As.next_l (x : As.L) : (As.next x).2.l = x.l.tail := by
  unfold As.next
  split
  · rename_i e; rw [e]; rfl
  · rename_i e; rw [e]; rfl
theorem As.either_l (x : As.L) : (As.either x).2.l = x.l.tail := by
  unfold As.either
  split
  · exact As.next_l x
  · rename_i s t e
    split
    · rw [e]; rfl
    · exact As.next_l x
theorem As.word1_l (x : As.L) : (As.word1 x).l = x.l.tail := As.either_l x
theorem As.byte1_l (x : As.L) : (As.byte1 x).l = x.l.tail := As.next_l x
theorem As.loop_one {f : As.L → As.L} (n : Nat) (x : As.L) : As.loop f (n + 1) x = if (f x).l = [] then f x else As.loop f n (f x) := rfl
theorem As.loop_enough {f : As.L → As.L} (hf : ∀ x, (f x).l = x.l.tail) : ∀ (n : Nat) (x : As.L), x.l.length < n → As.loop f n x = As.loop f (x.l.length + 1) x
  | 0, x, h => by omega
  | n + 1, x, h => by
    rw [As.loop_one, As.loop_one]
    split
    · rfl
    · rename_i he
      have hl : (f x).l.length = x.l.length - 1 := by rw [hf, List.length_tail]
      have hp : 0 < (f x).l.length := List.length_pos_iff.2 he
      rw [As.loop_enough hf n (f x) (by omega), As.loop_enough hf x.l.length (f x) (by omega)]
/-- What is still to do behind a round. -/
def As.more (f : As.L → As.L) (y : As.L) : As.L := if y.l = [] then y else As.loop f (y.l.length + 1) y
theorem As.loop_more {f : As.L → As.L} (hf : ∀ x, (f x).l = x.l.tail) (x : As.L) : As.loop f (x.l.length + 1) x = As.more f (f x) := by
  unfold As.more
  rw [As.loop_one]
  split
  · rfl
  · rename_i he
    have hl : (f x).l.length = x.l.length - 1 := by rw [hf, List.length_tail]
    have hp : 0 < (f x).l.length := List.length_pos_iff.2 he
    rw [As.loop_enough hf x.l.length (f x) (by omega)]
theorem As.more_some {f : As.L → As.L} (hf : ∀ x, (f x).l = x.l.tail) {y : As.L} (h : y.l ≠ []) : As.more f y = As.more f (f y) := by
  rw [← As.loop_more hf]
  unfold As.more
  rw [if_neg h]
theorem As.more_nil {f : As.L → As.L} {y : As.L} (h : y.l = []) : As.more f y = y := by unfold As.more; rw [if_pos h]
theorem As.put_len (p : As.P) (x : As.L) : (As.put p x).p.length = x.p.length + 1 := by simp [As.put]
theorem As.next_len (x : As.L) : (As.next x).2.p = x.p := by unfold As.next; split <;> rfl
theorem As.bits_int (n : Int) : ((As.bits n : Nat) : Int) = n % 4294967296 := by unfold As.bits; omega
theorem As.bits_lt (n : Int) : As.bits n < 4294967296 := by unfold As.bits; omega
end Go.Proofs.YtfafdkbnmfpbmaaGreatDoor
/- Layer 7: lines behind others are the same bytes. Plain. -/
namespace Go.Proofs.YtfafdkbnmfpbmaaGreatDoor
set_option linter.unusedVariables false
set_option linter.unusedSimpArgs false

/-- What a piece may be. -/
structure As.Wf (p : As.P) : Prop where
  code : p.code = true → p.bytes = [] ∧ p.kind ≤ 3
  data : p.code = false → p.kind = 0 ∨ ((p.kind = 4 ∨ p.kind = 5) ∧ p.bytes.length = 4)
def As.WfL (l : List As.P) : Prop := ∀ p ∈ l, As.Wf p
theorem As.WfL.snoc {l : List As.P} {p : As.P} (h : As.WfL l) (hp : As.Wf p) : As.WfL (l ++ [p]) := fun q hq => by
  rcases List.mem_append.1 hq with hq | hq
  · exact h q hq
  · rw [List.mem_singleton.1 hq]; exact hp
theorem As.next_p (x : As.L) : (As.next x).2.p = x.p := by unfold As.next; split <;> rfl
theorem As.reg_p (x : As.L) : (As.reg x).2.p = x.p := As.next_p x
theorem As.num_p (x : As.L) : (As.num x).2.p = x.p := As.next_p x
theorem As.name_p (x : As.L) : (As.name x).2.p = x.p := As.next_p x
theorem As.either_p (x : As.L) : (As.either x).2.p = x.p := by
  unfold As.either
  split
  · exact As.name_p x
  · split
    · rfl
    · exact As.name_p x
theorem As.sat_p (b : Bool) (x : As.L) : (As.sat b x).p = x.p := rfl
theorem As.Wf.code' (i : Is.Inst) (k : Nat) (n : List UInt8) (hk : k ≤ 3) : As.Wf ⟨true, i, [], k, n, []⟩ := ⟨fun _ => ⟨rfl, hk⟩, fun h => (by cases h)⟩
theorem As.Wf.raw (b : List UInt8) : As.Wf (As.raw b) := ⟨fun h => (by cases h), fun _ => .inl rfl⟩
theorem As.code_wf {i : Is.Inst} {x : As.L} (h : As.WfL x.p) : As.WfL (As.code i x).p := h.snoc (As.Wf.code' i 0 [] (by decide))
theorem As.to_wf {i : Is.Inst} {x : As.L} (h : As.WfL x.p) : As.WfL (As.to i x).p := by
  have : As.WfL (As.either x).2.p := by rw [As.either_p]; exact h
  exact this.snoc (As.Wf.code' _ _ _ (by split <;> decide))
theorem As.reg_wf {x : As.L} (h : As.WfL x.p) : As.WfL (As.reg x).2.p := by rw [As.reg_p]; exact h
theorem As.num_wf {x : As.L} (h : As.WfL x.p) : As.WfL (As.num x).2.p := by rw [As.num_p]; exact h
theorem As.name_wf {x : As.L} (h : As.WfL x.p) : As.WfL (As.name x).2.p := by rw [As.name_p]; exact h
theorem As.inst_wf (op : Int) {x : As.L} (h : As.WfL x.p) : As.WfL (As.inst op x).p := by
  unfold As.inst
  (repeat' split) <;> first
    | exact As.code_wf (As.num_wf (As.reg_wf (As.reg_wf h)))
    | exact As.code_wf (As.reg_wf (As.num_wf (As.reg_wf h)))
    | exact As.code_wf (As.reg_wf (As.reg_wf (As.reg_wf h)))
    | exact As.code_wf (As.num_wf (As.reg_wf h))
    | exact As.code_wf (As.num_wf h)
    | exact As.code_wf h
    | exact As.to_wf (As.reg_wf (As.reg_wf h))
    | exact As.to_wf (As.reg_wf h)
theorem As.number_wf (d n : Int) {x : As.L} (h : As.WfL x.p) : As.WfL (As.number d n x).p := by
  unfold As.number
  split
  · exact As.code_wf h
  · exact As.code_wf (As.code_wf h)
theorem As.pseudo_wf (w : List UInt8) {x y : As.L} (h : As.WfL x.p) (e : As.pseudo w x = some y) : As.WfL y.p := by
  unfold As.pseudo at e
  (repeat' split at e) <;> first
    | (injection e with e; subst e; first
        | exact As.number_wf _ _ (As.num_wf (As.reg_wf h))
        | exact ((As.name_wf (As.reg_wf h)).snoc (As.Wf.code' _ 2 _ (by decide))).snoc (As.Wf.code' _ 3 _ (by decide))
        | exact As.code_wf (As.reg_wf (As.reg_wf h))
        | exact As.to_wf (As.reg_wf h)
        | exact As.code_wf h
        | exact As.to_wf h)
    | cases e
theorem As.word1_wf {x : As.L} (h : As.WfL x.p) : As.WfL (As.word1 x).p := by
  have h1 : As.WfL (As.either x).2.p := by rw [As.either_p]; exact h
  refine h1.snoc ⟨fun h => (by cases h), fun _ => ?_⟩
  show (if _ then 0 else 4) = 0 ∨ _
  split
  · exact .inl rfl
  · exact .inr ⟨.inl rfl, rfl⟩
theorem As.byte1_wf {x : As.L} (h : As.WfL x.p) : As.WfL (As.byte1 x).p := by
  have h1 : As.WfL (As.num x).2.p := by rw [As.num_p]; exact h
  exact h1.snoc (As.Wf.raw _)
theorem As.loop_wf {f : As.L → As.L} (hf : ∀ {x : As.L}, As.WfL x.p → As.WfL (f x).p) : ∀ (n : Nat) {x : As.L}, As.WfL x.p → As.WfL (As.loop f n x).p
  | 0, x, h => h
  | n + 1, x, h => by
    unfold As.loop
    split
    · exact hf h
    · exact As.loop_wf hf n (hf h)
theorem As.data_wf (w : List UInt8) (a : Nat) {x y : As.L} (h : As.WfL x.p) (e : As.data w a x = some y) : As.WfL y.p := by
  have hn : As.WfL (As.next x).2.p := by rw [As.next_p]; exact h
  have hm := As.num_wf h
  have hs : As.WfL (As.name (As.name x).2).2.p := As.name_wf (As.name_wf h)
  unfold As.data at e
  split at e
  · injection e with e; subst e; exact As.loop_wf As.word1_wf _ h
  split at e
  · injection e with e; subst e; exact As.loop_wf As.byte1_wf _ h
  split at e
  · injection e with e; subst e
    split
    · exact hn.snoc (As.Wf.raw _)
    · exact hn
  split at e
  · injection e with e; subst e
    split
    · exact hm.snoc (As.Wf.raw _)
    · exact hm
  split at e
  · injection e with e; subst e; exact h.snoc (As.Wf.raw _)
  split at e
  · injection e with e; subst e
    exact hs.snoc ⟨fun h => (by cases h), fun _ => .inr ⟨.inr rfl, rfl⟩⟩
  · cases e
theorem As.pieces_wf {l : L6.Line} {a : Nat} {p : List As.P} (e : As.pieces l a = some p) : As.WfL p := by
  have h0 : As.WfL (⟨l.args, true, []⟩ : As.L).p := fun q hq => by cases hq
  unfold As.pieces at e
  split at e
  · injection e with e; subst e; exact fun q hq => by cases hq
  · split at e
    · cases e
    · rename_i y hy
      have hd : p = y.p := by
        unfold As.done at e
        split at e
        · injection e with e; exact e.symm
        · cases e
      subst hd
      unfold As.read at hy
      split at hy
      · injection hy with hy; subst hy; exact As.inst_wf _ h0
      · split at hy
        · rename_i z hz
          injection hy with hy; subst hy; exact As.pseudo_wf _ h0 hz
        · exact As.data_wf _ _ h0 hy
theorem As.four_len (v : Nat) : (As.four v).length = 4 := rfl
theorem As.piece_len {sy : List (List UInt8 × Nat)} {p : As.P} {a : Nat} (hw : As.Wf p) (h : (As.piece sy p a).2 = 0) : (As.piece sy p a).1.length = As.size1 p := by
  unfold As.piece at h ⊢
  unfold As.size1
  by_cases h1 : p.kind = 0 ∧ p.code = false
  · rw [if_pos h1, h1.2]; simp
  rw [if_neg h1] at h ⊢
  by_cases h2 : p.kind ≠ 0 ∧ As.look sy p.name = none
  · rw [if_pos h2] at h; cases h
  rw [if_neg h2] at h ⊢
  by_cases h5 : p.kind = 5
  · rw [if_pos h5] at h ⊢
    have hc : p.code = false := by
      cases hc : p.code
      · rfl
      · have := (hw.code hc).2; omega
    rw [hc]
    split at h
    · cases h
    · have hd := hw.data hc
      rcases hd with hd | hd
      · omega
      · simp [hd.2, As.four_len]
  rw [if_neg h5] at h ⊢
  by_cases h4 : p.kind = 4
  · rw [if_pos h4] at h ⊢
    have hc : p.code = false := by
      cases hc : p.code
      · rfl
      · have := (hw.code hc).2; omega
    rw [hc]
    rcases hw.data hc with hd | hd
    · omega
    · simp [hd.2, As.four_len]
  rw [if_neg h4] at h ⊢
  have hc : p.code = true := by
    cases hc : p.code
    · rcases hw.data hc with hd | ⟨hd | hd, _⟩
      · exact absurd ⟨hd, hc⟩ h1
      · exact absurd hd h4
      · exact absurd hd h5
    · rfl
  rw [(hw.code hc).1, hc]
  split at h
  · rename_i h3; rw [if_pos h3]; rfl
  · rename_i h3
    exfalso
    have : (As.aim p ((As.look sy p.name).getD 0) a).2 = 43 ∨ (As.aim p ((As.look sy p.name).getD 0) a).2 = 20 := by
      unfold As.aim
      (repeat' split) <;> simp
    rcases this with e | e <;> (rw [e] at h; cases h)
theorem As.size_cons (p : As.P) (r : List As.P) : As.size (p :: r) = As.size1 p + As.size r := by simp [As.size]
theorem As.puts_len {sy : List (List UInt8 × Nat)} {a : Nat} : ∀ {ps : List As.P} {b : List UInt8}, As.WfL ps → (As.puts sy a ps b).2 = 0 → (As.puts sy a ps b).1.length = b.length + As.size ps
  | [], b, _, _ => by simp [As.puts, As.size]
  | p :: r, b, hw, h => by
    unfold As.puts at h ⊢
    split at h
    · rename_i h1
      rw [if_pos h1]
      have := As.puts_len (ps := r) (fun q hq => hw q (by simp [hq])) h
      rw [this, List.length_append, As.piece_len (hw p (by simp)) h1, As.size_cons]
      omega
    · rename_i h1
      exact absurd h h1
/-- Where the lines end, counted from the place. -/
def As.upto (a : Nat) : Nat → List L6.Line → Nat
  | here, [] => here
  | here, l :: r => As.upto a (here + As.size ((As.pieces l (As.at32 (a + here))).getD [])) r
theorem As.second_len {sy : List (List UInt8 × Nat)} {a : Nat} : ∀ {l : List L6.Line} {i : Nat} {b b' : List UInt8}, As.second sy a i b l = .ok b' → b'.length = As.upto a b.length l
  | [], i, b, b', h => by
    unfold As.second at h
    injection h with h
    subst h
    rfl
  | x :: r, i, b, b', h => by
    unfold As.second at h
    split at h
    · rename_i h1
      have hw : As.WfL ((As.pieces x (As.at32 (a + b.length))).getD []) := by
        cases hp : As.pieces x (As.at32 (a + b.length)) with
        | none => exact fun q hq => by cases hq
        | some p => exact As.pieces_wf hp
      have := As.second_len h
      rw [this, As.puts_len hw h1]
      rfl
    · cases h
def As.keys (sy : List (List UInt8 × Nat)) : List (List UInt8) := sy.map fun p => p.1
theorem As.any_mem (sy : List (List UInt8 × Nat)) (s : List UInt8) : (sy.any fun p => p.1 == s) = true ↔ s ∈ As.keys sy := by
  unfold As.keys
  rw [List.any_eq_true, List.mem_map]
  constructor
  · rintro ⟨p, hp, e⟩; exact ⟨p, hp, by simpa using e⟩
  · rintro ⟨p, hp, e⟩; exact ⟨p, hp, by simpa using e⟩
theorem As.labels_nodup {a : Nat} : ∀ {t : List (List UInt8)} {sy sy1 : List (List UInt8 × Nat)}, (As.keys sy).Nodup → As.labels a t sy = some sy1 → (As.keys sy1).Nodup
  | [], sy, sy1, hn, h => by injection h with h; subst h; exact hn
  | s :: t, sy, sy1, hn, h => by
    unfold As.labels at h
    split at h
    · cases h
    · rename_i h1
      refine As.labels_nodup (t := t) ?_ h
      have hm : s ∉ As.keys sy := fun e => h1 ((As.any_mem sy s).2 e)
      unfold As.keys at hm hn ⊢
      rw [List.map_append, List.nodup_append]
      exact ⟨hn, by simp, fun x hx y hy e => hm (by
        have : y = s := by simpa using hy
        rw [← this, ← e]; exact hx)⟩
theorem As.labels_pre {a : Nat} (pre : List (List UInt8 × Nat)) : ∀ {t : List (List UInt8)} {sy sy1 : List (List UInt8 × Nat)}, As.labels a t sy = some sy1 → As.labels a t (pre ++ sy) = none ∨ As.labels a t (pre ++ sy) = some (pre ++ sy1)
  | [], sy, sy1, h => by injection h with h; subst h; exact .inr rfl
  | s :: t, sy, sy1, h => by
    unfold As.labels at h ⊢
    split at h
    · cases h
    · split
      · exact .inl rfl
      · rw [List.append_assoc]
        exact As.labels_pre pre h
theorem As.first_app {a : Nat} (m : List L6.Line) : ∀ {l : List L6.Line} {i here : Nat} {sy sy1 : List (List UInt8 × Nat)}, As.first a i here sy l = .ok sy1 → As.first a i here sy (l ++ m) = As.first a (i + l.length) (As.upto a here l) sy1 m
  | [], i, here, sy, sy1, h => by
    unfold As.first at h
    injection h with h
    subst h
    rfl
  | x :: r, i, here, sy, sy1, h => by
    rw [List.cons_append]
    unfold As.first at h
    rw [As.first]
    cases hl : As.labels (As.at32 (a + here)) x.labels sy with
    | none => rw [hl] at h; cases h
    | some sy2 =>
      rw [hl] at h
      dsimp only at h ⊢
      cases hp : As.pieces x (As.at32 (a + here)) with
      | none => rw [hp] at h; cases h
      | some p =>
        rw [hp] at h
        dsimp only at h ⊢
        split at h
        · cases h
        rename_i h1
        rw [if_neg h1]
        split at h
        · cases h
        rename_i h2
        rw [if_neg h2, As.first_app m h, As.upto, hp, List.length_cons]
        congr 1
        omega
theorem As.first_nodup {a : Nat} : ∀ {l : List L6.Line} {i here : Nat} {sy sy1 : List (List UInt8 × Nat)}, (As.keys sy).Nodup → As.first a i here sy l = .ok sy1 → (As.keys sy1).Nodup
  | [], i, here, sy, sy1, hn, h => by
    unfold As.first at h
    injection h with h
    subst h
    exact hn
  | x :: r, i, here, sy, sy1, hn, h => by
    unfold As.first at h
    cases hl : As.labels (As.at32 (a + here)) x.labels sy with
    | none => rw [hl] at h; cases h
    | some sy2 =>
      rw [hl] at h
      dsimp only at h
      cases hp : As.pieces x (As.at32 (a + here)) with
      | none => rw [hp] at h; cases h
      | some p =>
        rw [hp] at h
        dsimp only at h
        split at h
        · cases h
        split at h
        · cases h
        exact As.first_nodup (As.labels_nodup hn hl) h
/-- The first pass, with lines ahead. -/
theorem As.first_pre {a b : Nat} (pre : List (List UInt8 × Nat)) : ∀ {l : List L6.Line} {i j here : Nat} {sy sy1 : List (List UInt8 × Nat)}, As.first (a + b) j here sy l = .ok sy1 →
    (∃ n, As.first a i (b + here) (pre ++ sy) l = .bad n 42) ∨ (∃ n, As.first a i (b + here) (pre ++ sy) l = .bad n 6) ∨ As.first a i (b + here) (pre ++ sy) l = .ok (pre ++ sy1)
  | [], i, j, here, sy, sy1, h => by
    unfold As.first at h
    injection h with h
    subst h
    exact .inr (.inr rfl)
  | x :: r, i, j, here, sy, sy1, h => by
    unfold As.first at h
    rw [As.first]
    rw [show a + (b + here) = a + b + here by omega]
    cases hl : As.labels (As.at32 (a + b + here)) x.labels sy with
    | none => rw [hl] at h; cases h
    | some sy2 =>
      rw [hl] at h
      dsimp only at h
      rcases As.labels_pre pre hl with e | e
      · rw [e]; exact .inl ⟨_, rfl⟩
      rw [e]
      dsimp only
      cases hp : As.pieces x (As.at32 (a + b + here)) with
      | none => rw [hp] at h; cases h
      | some p =>
        rw [hp] at h
        dsimp only at h ⊢
        split at h
        · cases h
        rename_i h1
        rw [if_neg h1]
        split at h
        · cases h
        split
        · exact .inr (.inl ⟨_, rfl⟩)
        · rw [show b + here + As.size p = b + (here + As.size p) by omega]
          exact As.first_pre pre h
theorem As.look_app {sy ext : List (List UInt8 × Nat)} {s : List UInt8} {v : Nat} (h : As.look sy s = some v) : As.look (sy ++ ext) s = some v := by
  unfold As.look at h ⊢
  rw [List.find?_append]
  cases hf : sy.find? fun p => p.1 == s with
  | none => rw [hf] at h; cases h
  | some p => rw [hf] at h; exact h
theorem As.look_pre {pre sy : List (List UInt8 × Nat)} (hn : (As.keys (pre ++ sy)).Nodup) {s : List UInt8} {v : Nat} (h : As.look sy s = some v) : As.look (pre ++ sy) s = some v := by
  have hm : s ∈ As.keys sy := by
    unfold As.look at h
    cases hf : sy.find? fun p => p.1 == s with
    | none => rw [hf] at h; cases h
    | some p =>
      have h1 := List.mem_of_find?_eq_some hf
      have h2 := List.find?_some hf
      exact List.mem_map.2 ⟨p, h1, by simpa using h2⟩
  unfold As.look at h ⊢
  rw [List.find?_append]
  have h0 : pre.find? (fun p => p.1 == s) = none := by
    rw [List.find?_eq_none]
    intro p hp e
    have e : p.1 = s := by simpa using e
    unfold As.keys at hn hm
    rw [List.map_append, List.nodup_append] at hn
    exact hn.2.2 p.1 (List.mem_map.2 ⟨p, hp, rfl⟩) s hm e
  rw [h0]
  exact h
/-- A piece asks of symbols no more than that these are there. -/
theorem As.piece_more {sy sy' : List (List UInt8 × Nat)} (hs : ∀ s v, As.look sy s = some v → As.look sy' s = some v) {p : As.P} {a : Nat} (h : (As.piece sy p a).2 = 0) : As.piece sy' p a = As.piece sy p a := by
  unfold As.piece at h ⊢
  by_cases h1 : p.kind = 0 ∧ p.code = false
  · rw [if_pos h1, if_pos h1]
  rw [if_neg h1] at h ⊢
  rw [if_neg h1]
  by_cases h0 : p.kind = 0
  · have e1 : ∀ y, ¬ (p.kind ≠ 0 ∧ As.look y p.name = none) := fun y e => e.1 h0
    have e5 : ¬ p.kind = 5 := by omega
    have e4 : ¬ p.kind = 4 := by omega
    have ea : ∀ v, As.aim p v a = (p.inst, 20) := fun v => by unfold As.aim; rw [if_neg (by omega), if_neg (by omega), if_neg (by omega)]
    rw [if_neg (e1 _), if_neg (e1 _), if_neg e5, if_neg e5, if_neg e4, if_neg e4, ea, ea]
  · cases hl : As.look sy p.name with
    | none => rw [if_pos ⟨h0, hl⟩] at h; cases h
    | some v =>
      have hl' := hs _ _ hl
      have e1 : ¬ (p.kind ≠ 0 ∧ As.look sy p.name = none) := fun e => by rw [hl] at e; cases e.2
      have e2 : ¬ (p.kind ≠ 0 ∧ As.look sy' p.name = none) := fun e => by rw [hl'] at e; cases e.2
      rw [if_neg e1] at h
      rw [hl] at e1 h
      rw [hl'] at e2
      rw [if_neg e1, hl', if_neg e2]
      by_cases h5 : p.kind = 5
      · rw [if_pos h5] at h ⊢
        rw [if_pos h5]
        cases hw : As.look sy p.src with
        | none => rw [hw] at h; cases h
        | some w => rw [hs _ _ hw]
      · rw [if_neg h5, if_neg h5]
theorem As.puts_more {sy sy' : List (List UInt8 × Nat)} (hs : ∀ s v, As.look sy s = some v → As.look sy' s = some v) {a : Nat} : ∀ {ps : List As.P} {b : List UInt8}, (As.puts sy a ps b).2 = 0 → As.puts sy' a ps b = As.puts sy a ps b
  | [], b, _ => rfl
  | p :: r, b, h => by
    unfold As.puts at h ⊢
    split at h
    · rename_i h1
      rw [if_pos h1, As.piece_more hs h1, if_pos h1]
      exact As.puts_more hs h
    · rename_i h1
      exact absurd h h1
/-- Pieces behind other bytes. -/
theorem As.puts_pre {sy : List (List UInt8 × Nat)} {a : Nat} (pre : List UInt8) : ∀ (ps : List As.P) (b : List UInt8), As.puts sy a ps (pre ++ b) = (pre ++ (As.puts sy (a + pre.length) ps b).1, (As.puts sy (a + pre.length) ps b).2)
  | [], b => rfl
  | p :: r, b => by
    rw [As.puts, As.puts, List.length_append, ← Nat.add_assoc]
    split
    · rw [List.append_assoc]
      exact As.puts_pre pre r _
    · rfl
theorem As.second_more {sy sy' : List (List UInt8 × Nat)} (hs : ∀ s v, As.look sy s = some v → As.look sy' s = some v) {a : Nat} (pre : List UInt8) : ∀ {l : List L6.Line} {i j : Nat} {b b' : List UInt8}, As.second sy (a + pre.length) j b l = .ok b' → As.second sy' a i (pre ++ b) l = .ok (pre ++ b')
  | [], i, j, b, b', h => by
    unfold As.second at h
    injection h with h
    subst h
    rfl
  | x :: r, i, j, b, b', h => by
    unfold As.second at h
    rw [As.second, List.length_append, ← Nat.add_assoc, As.puts_pre]
    split at h
    · rename_i h1
      rw [As.puts_more hs h1, if_pos h1]
      exact As.second_more hs pre h
    · cases h
theorem As.second_app {sy : List (List UInt8 × Nat)} {a : Nat} (m : List L6.Line) : ∀ {l : List L6.Line} {i : Nat} {b b' : List UInt8}, As.second sy a i b l = .ok b' → As.second sy a i b (l ++ m) = As.second sy a (i + l.length) b' m
  | [], i, b, b', h => by
    unfold As.second at h
    injection h with h
    subst h
    rfl
  | x :: r, i, b, b', h => by
    unfold As.second at h
    rw [List.cons_append, As.second]
    split at h
    · rename_i h1
      rw [if_pos h1, As.second_app m h, List.length_cons]
      congr 1
      omega
    · cases h
theorem As.first_err {a : Nat} : ∀ {l : List L6.Line} {i here n : Nat} {sy : List (List UInt8 × Nat)}, As.first a i here sy l = .bad n 0 → False
  | [], i, here, n, sy, h => by unfold As.first at h; cases h
  | x :: r, i, here, n, sy, h => by
    unfold As.first at h
    split at h
    · cases h
    split at h
    · cases h
    split at h
    · cases h
    split at h
    · cases h
    exact As.first_err h
theorem As.second_err {a : Nat} {sy : List (List UInt8 × Nat)} : ∀ {l : List L6.Line} {i n : Nat} {b : List UInt8}, As.second sy a i b l = .bad n 0 → False
  | [], i, n, b, h => by unfold As.second at h; cases h
  | x :: r, i, n, b, h => by
    unfold As.second at h
    split at h
    · exact As.second_err h
    · rename_i h1
      injection h with _ h
      exact h1 h
/-- What is assembled. -/
theorem As.assemble_ok {l : List L6.Line} {a : Nat} (h : (As.assemble l a).err = 0) : a % 4 = 0 ∧ l.length ≤ 32768 ∧ ∃ sy b, As.first a 0 0 [] l = .ok sy ∧ As.second sy a 0 [] l = .ok b ∧ As.assemble l a = ⟨b, sy, 0, 0⟩ := by
  unfold As.assemble at h ⊢
  split at h
  · cases h
  rename_i h1
  rw [if_neg h1]
  refine ⟨by omega, by omega, ?_⟩
  unfold As.passes at h ⊢
  cases hf : As.first a 0 0 [] l with
  | bad n e =>
    rw [hf] at h
    have h : e = 0 := h
    subst h
    exfalso
    exact As.first_err hf
  | ok sy =>
    rw [hf] at h
    dsimp only at h ⊢
    cases hs : As.second sy a 0 [] l with
    | bad n e =>
      rw [hs] at h
      have h : e = 0 := h
      subst h
      exfalso
      exact As.second_err hs
    | ok b => exact ⟨sy, b, rfl, hs, rfl⟩
theorem As.parts_law {l m : List L6.Line} {a : Nat} (hx : (As.assemble l a).err = 0) (hy : (As.assemble m (a + (As.assemble l a).bytes.length)).err = 0) :
    (As.assemble (l ++ m) a).err = 42 ∨ (As.assemble (l ++ m) a).err = 6 ∨ As.assemble (l ++ m) a = ⟨(As.assemble l a).bytes ++ (As.assemble m (a + (As.assemble l a).bytes.length)).bytes, (As.assemble l a).syms ++ (As.assemble m (a + (As.assemble l a).bytes.length)).syms, 0, 0⟩ := by
  obtain ⟨ha, hl, sy, b, h1, h2, h3⟩ := As.assemble_ok hx
  rw [h3] at hy ⊢
  dsimp only at hy ⊢
  obtain ⟨hb, hm, sy2, b2, k1, k2, k3⟩ := As.assemble_ok hy
  rw [k3]
  dsimp only
  unfold As.assemble
  split
  · exact .inr (.inl rfl)
  unfold As.passes
  have hlen := As.second_len h2
  have hf := As.first_app m h1
  rw [show ([] : List UInt8).length = 0 from rfl] at hlen
  rw [← hlen] at hf
  have hp := As.first_pre (a := a) (b := b.length) sy (i := 0 + l.length) k1
  rw [Nat.add_zero, List.append_nil, ← hf] at hp
  rcases hp with ⟨n, e⟩ | ⟨n, e⟩ | e
  · rw [e]; exact .inl rfl
  · rw [e]; exact .inr (.inl rfl)
  · refine .inr (.inr ?_)
    have hn : (As.keys (sy ++ sy2)).Nodup := As.first_nodup (by unfold As.keys; exact List.nodup_nil) e
    rw [e]
    dsimp only
    have e1 := As.second_more (a := a) (sy' := sy ++ sy2) (fun s v hv => As.look_app hv) [] (i := 0) (b := []) (show As.second sy (a + ([] : List UInt8).length) 0 [] l = .ok b from h2)
    rw [List.nil_append, List.nil_append] at e1
    have e2 := As.second_more (a := a) (sy' := sy ++ sy2) (fun s v hv => As.look_pre hn hv) b (i := 0 + l.length) (b := []) k2
    rw [List.append_nil] at e2
    rw [As.second_app m e1, e2]
end Go.Proofs.YtfafdkbnmfpbmaaGreatDoor
/- Layer 7: what pieces may hold. Plain. -/
namespace Go.Proofs.YtfafdkbnmfpbmaaGreatDoor
set_option linter.unusedVariables false
set_option linter.unusedSimpArgs false

structure As.Ok (p : As.P) : Prop where
  inst : p.inst.ok
  bytes : p.bytes.length ≤ 2000000000
  name : p.name.length ≤ 1000000000
  src : p.src.length ≤ 1000000000
def As.OkL (l : List As.P) : Prop := ∀ p ∈ l, As.Ok p
def As.Lo (l : List (List UInt8)) : Prop := ∀ s ∈ l, s.length ≤ 1000000000
structure As.Fine (x : As.L) : Prop where
  p : As.OkL x.p
  l : As.Lo x.l
theorem As.OkL.snoc {l : List As.P} {p : As.P} (h : As.OkL l) (hp : As.Ok p) : As.OkL (l ++ [p]) := fun q hq => by
  rcases List.mem_append.1 hq with hq | hq
  · exact h q hq
  · rw [List.mem_singleton.1 hq]; exact hp
theorem As.Fine.put {x : As.L} (h : As.Fine x) {p : As.P} (hp : As.Ok p) : As.Fine (As.put p x) := ⟨h.p.snoc hp, h.l⟩
theorem As.Fine.sat {x : As.L} (h : As.Fine x) (b : Bool) : As.Fine (As.sat b x) := ⟨h.p, h.l⟩
theorem As.Fine.next {x : As.L} (h : As.Fine x) : As.Fine (As.next x).2 := ⟨by rw [As.next_p]; exact h.p, by rw [As.next_l]; exact fun s hs => h.l s (List.mem_of_mem_tail hs)⟩
theorem As.Fine.reg {x : As.L} (h : As.Fine x) : As.Fine (As.reg x).2 := h.next.sat _
theorem As.Fine.num {x : As.L} (h : As.Fine x) : As.Fine (As.num x).2 := h.next.sat _
theorem As.Fine.name {x : As.L} (h : As.Fine x) : As.Fine (As.name x).2 := h.next.sat _
theorem As.Fine.either {x : As.L} (h : As.Fine x) : As.Fine (As.either x).2 := ⟨by rw [As.either_p]; exact h.p, by rw [As.either_l]; exact fun s hs => h.l s (List.mem_of_mem_tail hs)⟩
theorem L6.number_range (s : List UInt8) : -2147483648 ≤ (L6.number s).1 ∧ (L6.number s).1 ≤ 4294967295 := by
  unfold L6.number
  split
  · have := (s.getD 1 0).toNat_lt
    dsimp only
    omega
  · split
    · rename_i h
      simp only [Bool.and_eq_true, decide_eq_true_eq] at h
      exact h.2
    · decide
theorem As.num_rng (x : As.L) : -2147483648 ≤ (As.num x).1 ∧ (As.num x).1 ≤ 4294967295 := L6.number_range _
theorem As.either_rng (x : As.L) : -2147483648 ≤ (As.either x).1.1 ∧ (As.either x).1.1 ≤ 4294967295 := by
  unfold As.either
  split
  · dsimp only; omega
  · split
    · exact L6.number_range _
    · dsimp only; omega
theorem L6.rows_le2 (c : UInt8) (n : Nat) : (L6.rowsV c n).1 ≤ 100 := by
  unfold L6.rowsV
  repeat' split
  all_goals (dsimp only; omega)
theorem L6.regV_le (s : List UInt8) : (L6.regV s).1 ≤ 100 := by
  unfold L6.regV
  split
  · decide
  split
  · decide
  split
  · decide
  split
  · decide
  split
  · decide
  split
  · decide
  cases (L6.countedV s.tail).2
  · exact Nat.zero_le _
  · exact L6.rows_le2 _ _
theorem As.reg_le (x : As.L) : ((As.reg x).1 : Int) ≤ 100 := by have := L6.regV_le (As.next x).1; show (((L6.regV (As.next x).1).1 : Nat) : Int) ≤ 100; omega
theorem As.ok_inst {op rd rs1 rs2 imm : Int} (h0 : -100 ≤ op ∧ op ≤ 100) (h1 : 0 ≤ rd ∧ rd ≤ 100) (h2 : 0 ≤ rs1 ∧ rs1 ≤ 100) (h3 : 0 ≤ rs2 ∧ rs2 ≤ 100) (h4 : -4294967296 ≤ imm ∧ imm ≤ 4294967296) : Is.Inst.ok ⟨op, rd, rs1, rs2, imm⟩ := by
  constructor <;> unfold Is.in64 <;> dsimp only <;> omega
theorem As.reg_rng (x : As.L) : 0 ≤ ((As.reg x).1 : Int) ∧ ((As.reg x).1 : Int) ≤ 100 := ⟨by omega, As.reg_le x⟩
theorem As.lo_rng (n : Int) : -4294967296 ≤ As.lo n ∧ As.lo n ≤ 4294967296 := by unfold As.lo; omega
theorem As.hi_rng (n : Int) : -4294967296 ≤ As.hi n ∧ As.hi n ≤ 4294967296 := by unfold As.hi; omega
theorem As.rng {n : Int} (h : -2147483648 ≤ n ∧ n ≤ 4294967295) : -4294967296 ≤ n ∧ n ≤ 4294967296 := by omega
theorem As.z_rng : (0 : Int) ≤ 0 ∧ (0 : Int) ≤ 100 := by decide
theorem As.i_rng : (-4294967296 : Int) ≤ 0 ∧ (0 : Int) ≤ 4294967296 := by decide
theorem As.Ok.code {i : Is.Inst} (h : i.ok) (k : Nat) {n : List UInt8} (hn : n.length ≤ 1000000000) : As.Ok ⟨true, i, [], k, n, []⟩ := ⟨h, Nat.zero_le _, hn, Nat.zero_le _⟩
theorem As.no_ok : As.no.ok := by constructor <;> decide
theorem As.Ok.data {b : List UInt8} (h : b.length ≤ 2000000000) (k : Nat) {n s : List UInt8} (hn : n.length ≤ 1000000000) (hs : s.length ≤ 1000000000) : As.Ok ⟨false, As.no, b, k, n, s⟩ := ⟨As.no_ok, h, hn, hs⟩
theorem As.next_lo {x : As.L} (h : As.Fine x) : (As.next x).1.length ≤ 1000000000 := by
  unfold As.next
  split
  · exact Nat.zero_le _
  · rename_i s t e
    exact h.l s (by rw [e]; simp)
theorem As.name_lo {x : As.L} (h : As.Fine x) : (As.name x).1.length ≤ 1000000000 := As.next_lo h
theorem As.either_lo {x : As.L} (h : As.Fine x) : (As.either x).1.2.length ≤ 1000000000 := by
  unfold As.either
  split
  · exact As.name_lo h
  · split
    · exact Nat.zero_le _
    · exact As.name_lo h
theorem As.Fine.code {x : As.L} (h : As.Fine x) {i : Is.Inst} (hi : i.ok) : As.Fine (As.code i x) := h.put (As.Ok.code hi _ (Nat.zero_le _))
theorem As.Fine.to {x : As.L} (h : As.Fine x) {i : Is.Inst} (hi : i.ok) : As.Fine (As.to i x) := by
  refine h.either.put ⟨?_, Nat.zero_le _, As.either_lo h, Nat.zero_le _⟩
  have := As.either_rng x
  exact ⟨hi.op, hi.rd, hi.rs1, hi.rs2, by show Is.in64 (As.either x).1.1; unfold Is.in64; omega⟩
theorem As.inst_fine {op : Int} (ho : -100 ≤ op ∧ op ≤ 100) {x : As.L} (h : As.Fine x) : As.Fine (As.inst op x) := by
  unfold As.inst
  (repeat' split) <;> first
    | exact (h.reg.reg.num).code (As.ok_inst ho (As.reg_rng _) (As.reg_rng _) As.z_rng (As.rng (As.num_rng _)))
    | exact (h.reg.num.reg).code (As.ok_inst ho (As.reg_rng _) (As.reg_rng _) As.z_rng (As.rng (As.num_rng _)))
    | exact (h.reg.num.reg).code (As.ok_inst ho As.z_rng (As.reg_rng _) (As.reg_rng _) (As.rng (As.num_rng _)))
    | exact (h.reg.reg.reg).code (As.ok_inst ho (As.reg_rng _) (As.reg_rng _) (As.reg_rng _) As.i_rng)
    | exact (h.reg.num).code (As.ok_inst ho (As.reg_rng _) As.z_rng As.z_rng (As.rng (As.num_rng _)))
    | exact (h.num).code (As.ok_inst ho As.z_rng As.z_rng As.z_rng (As.rng (As.num_rng _)))
    | exact h.code (As.ok_inst ho As.z_rng As.z_rng As.z_rng As.i_rng)
    | exact (h.reg.reg).to (As.ok_inst ho As.z_rng (As.reg_rng _) (As.reg_rng _) As.i_rng)
    | exact (h.reg).to (As.ok_inst ho (As.reg_rng _) As.z_rng As.z_rng As.i_rng)
theorem As.number_fine (d : Int) (n : Int) (hd : 0 ≤ d ∧ d ≤ 100) {x : As.L} (h : As.Fine x) : As.Fine (As.number d n x) := by
  unfold As.number
  split
  · exact h.code (As.ok_inst (by decide) hd As.z_rng As.z_rng (by omega))
  · exact (h.code (As.ok_inst (by decide) hd As.z_rng As.z_rng (As.hi_rng n))).code (As.ok_inst (by decide) hd hd As.z_rng (As.lo_rng n))
theorem As.pseudo_fine (w : List UInt8) {x y : As.L} (h : As.Fine x) (e : As.pseudo w x = some y) : As.Fine y := by
  unfold As.pseudo at e
  (repeat' split at e) <;> first
    | (injection e with e; subst e; first
        | exact As.number_fine _ _ (As.reg_rng _) h.reg.num
        | exact (h.reg.name.put (As.Ok.code (As.ok_inst (by decide) (As.reg_rng _) As.z_rng As.z_rng As.i_rng) _ (As.name_lo h.reg))).put (As.Ok.code (As.ok_inst (by decide) (As.reg_rng _) (As.reg_rng _) As.z_rng As.i_rng) _ (As.name_lo h.reg))
        | exact h.reg.reg.code (As.ok_inst (by decide) (As.reg_rng _) (As.reg_rng _) As.z_rng (by decide))
        | exact h.reg.reg.code (As.ok_inst (by decide) (As.reg_rng _) As.z_rng (As.reg_rng _) (by decide))
        | exact h.reg.to (As.ok_inst (by decide) As.z_rng (As.reg_rng _) As.z_rng As.i_rng)
        | exact h.code (As.ok_inst (by decide) As.z_rng (by decide) As.z_rng As.i_rng)
        | exact h.to (As.ok_inst (by decide) (by decide) As.z_rng As.z_rng As.i_rng))
    | cases e
theorem As.word1_fine {x : As.L} (h : As.Fine x) : As.Fine (As.word1 x) := h.either.put (As.Ok.data (by rw [As.four_len]; decide) _ (As.either_lo h) (Nat.zero_le _))
theorem As.byte1_fine {x : As.L} (h : As.Fine x) : As.Fine (As.byte1 x) := (h.num.sat _).put (As.Ok.data (by show 1 ≤ _; decide) _ (Nat.zero_le _) (Nat.zero_le _))
theorem As.loop_fine {f : As.L → As.L} (hf : ∀ {x : As.L}, As.Fine x → As.Fine (f x)) : ∀ (n : Nat) {x : As.L}, As.Fine x → As.Fine (As.loop f n x)
  | 0, x, h => h
  | n + 1, x, h => by
    unfold As.loop
    split
    · exact hf h
    · exact As.loop_fine hf n (hf h)
theorem As.data_fine (w : List UInt8) (a : Nat) {x y : As.L} (h : As.Fine x) (e : As.data w a x = some y) : As.Fine y := by
  unfold As.data at e
  split at e
  · injection e with e; subst e; exact As.loop_fine As.word1_fine _ h
  split at e
  · injection e with e; subst e; exact As.loop_fine As.byte1_fine _ h
  split at e
  · injection e with e; subst e
    split
    · refine (h.next.sat _).put (As.Ok.data ?_ _ (Nat.zero_le _) (Nat.zero_le _))
      have := As.next_lo h
      simp only [List.length_drop, List.length_take]
      omega
    · exact h.next.sat _
  split at e
  · injection e with e; subst e
    split
    · rename_i hc
      refine (h.num.sat _).put (As.Ok.data ?_ _ (Nat.zero_le _) (Nat.zero_le _))
      unfold As.spaceOk at hc
      simp only [Bool.and_eq_true, decide_eq_true_eq] at hc
      rw [List.length_replicate]
      omega
    · exact h.num.sat _
  split at e
  · injection e with e; subst e
    exact h.put (As.Ok.data (by rw [List.length_replicate]; omega) _ (Nat.zero_le _) (Nat.zero_le _))
  split at e
  · injection e with e; subst e
    exact h.name.name.put (As.Ok.data (by decide) _ (As.name_lo h.name) (As.name_lo h))
  · cases e
theorem As.found_rng (s : ByteArray) : -100 ≤ Is.found s ∧ Is.found s ≤ 100 := by
  unfold Is.found
  split <;> omega
theorem As.pieces_ok {l : L6.Line} {a : Nat} {p : List As.P} (hl : As.Lo l.args) (e : As.pieces l a = some p) : As.OkL p := by
  have h0 : As.Fine ⟨l.args, true, []⟩ := ⟨(fun q hq => (by cases hq)), hl⟩
  unfold As.pieces at e
  split at e
  · injection e with e; subst e; exact fun q hq => by cases hq
  · split at e
    · cases e
    · rename_i y hy
      have hd : p = y.p := by
        unfold As.done at e
        split at e
        · injection e with e; exact e.symm
        · cases e
      subst hd
      unfold As.read at hy
      split at hy
      · injection hy with hy; subst hy; exact (As.inst_fine (As.found_rng _) h0).p
      · split at hy
        · rename_i z hz
          injection hy with hy; subst hy; exact (As.pseudo_fine _ h0 hz).p
        · exact (As.data_fine _ _ h0 hy).p
/-- How many pieces. -/
theorem As.to_cnt (i : Is.Inst) (x : As.L) : (As.to i x).p.length = x.p.length + 1 := by unfold As.to; rw [As.put_len, As.either_p]
theorem As.code_cnt (i : Is.Inst) (x : As.L) : (As.code i x).p.length = x.p.length + 1 := As.put_len _ _
theorem As.inst_cnt (op : Int) (x : As.L) : (As.inst op x).p.length = x.p.length + 1 := by
  unfold As.inst
  (repeat' split) <;> simp only [As.to_cnt, As.code_cnt, As.reg_p, As.num_p]
theorem As.number_cnt (d n : Int) (x : As.L) : (As.number d n x).p.length ≤ x.p.length + 2 := by
  unfold As.number
  split
  · rw [As.code_cnt]; omega
  · rw [As.code_cnt, As.code_cnt]; omega
theorem As.pseudo_cnt (w : List UInt8) {x y : As.L} (e : As.pseudo w x = some y) : y.p.length ≤ x.p.length + 2 := by
  unfold As.pseudo at e
  (repeat' split at e) <;> first
    | (injection e with e; subst e; first
        | (refine Nat.le_trans (As.number_cnt _ _ _) ?_; rw [As.num_p, As.reg_p]; omega)
        | (simp only [As.put_len, As.to_cnt, As.code_cnt, As.reg_p, As.num_p, As.name_p]; omega))
    | cases e
theorem As.loop_cnt {f : As.L → As.L} (hf : ∀ x, (f x).p.length = x.p.length + 1) (hl : ∀ x, (f x).l = x.l.tail) : ∀ (n : Nat) (x : As.L), (As.loop f n x).p.length ≤ x.p.length + x.l.length + 1
  | 0, x => by unfold As.loop; omega
  | n + 1, x => by
    rw [As.loop_one]
    split
    · rw [hf]; omega
    · rename_i he
      have h1 := As.loop_cnt hf hl n (f x)
      rw [hf, hl, List.length_tail] at h1
      have h2 : 0 < (f x).l.length := List.length_pos_iff.2 he
      rw [hl, List.length_tail] at h2
      omega
theorem As.data_cnt (w : List UInt8) (a : Nat) {x y : As.L} (e : As.data w a x = some y) : y.p.length ≤ x.p.length + x.l.length + 1 := by
  unfold As.data at e
  split at e
  · injection e with e; subst e; exact As.loop_cnt (fun x => by unfold As.word1; rw [As.put_len, As.either_p]) As.word1_l _ _
  split at e
  · injection e with e; subst e; exact As.loop_cnt (fun x => by unfold As.byte1; rw [As.put_len]; show (As.num x).2.p.length + 1 = _; rw [As.num_p]) As.byte1_l _ _
  split at e
  · injection e with e; subst e
    split
    · rw [As.put_len]; show (As.next x).2.p.length + 1 ≤ _; rw [As.next_p]; omega
    · show (As.next x).2.p.length ≤ _; rw [As.next_p]; omega
  split at e
  · injection e with e; subst e
    split
    · rw [As.put_len]; show (As.num x).2.p.length + 1 ≤ _; rw [As.num_p]; omega
    · show (As.num x).2.p.length ≤ _; rw [As.num_p]; omega
  split at e
  · injection e with e; subst e; rw [As.put_len]; omega
  split at e
  · injection e with e; subst e; rw [As.put_len, As.name_p, As.name_p]; omega
  · cases e
theorem As.pieces_cnt {l : L6.Line} {a : Nat} {p : List As.P} (e : As.pieces l a = some p) : p.length ≤ l.args.length + 2 := by
  unfold As.pieces at e
  split at e
  · injection e with e; subst e; exact Nat.zero_le _
  · split at e
    · cases e
    · rename_i y hy
      have hd : p = y.p := by
        unfold As.done at e
        split at e
        · injection e with e; exact e.symm
        · cases e
      subst hd
      unfold As.read at hy
      split at hy
      · injection hy with hy; subst hy; rw [As.inst_cnt]; simp
      · split at hy
        · rename_i z hz
          injection hy with hy; subst hy; have := As.pseudo_cnt _ hz; simp at this; omega
        · have := As.data_cnt _ _ hy; simp at this; omega
theorem As.size_le : ∀ {l : List As.P}, As.OkL l → As.size l ≤ l.length * 2000000004
  | [], _ => by simp [As.size]
  | p :: t, h => by
    have h1 := (h p (by simp)).bytes
    have h2 := As.size_le (fun q hq => h q (by simp [hq]) : As.OkL t)
    rw [As.size_cons, List.length_cons]
    unfold As.size1
    split <;> omega
/-- All places fit. -/
def As.Low (sy : List (List UInt8 × Nat)) : Prop := ∀ p ∈ sy, p.2 < 4294967296
theorem As.Low.look {sy : List (List UInt8 × Nat)} (h : As.Low sy) {s : List UInt8} {v : Nat} (e : As.look sy s = some v) : v < 4294967296 := by
  unfold As.look at e
  cases hf : sy.find? (fun p => p.1 == s) with
  | none => rw [hf] at e; cases e
  | some p =>
    rw [hf] at e
    injection e with e
    rw [← e]
    exact h p (List.mem_of_find?_eq_some hf)
theorem As.labels_low {a : Nat} (ha : a < 4294967296) : ∀ {t : List (List UInt8)} {sy sy1 : List (List UInt8 × Nat)}, As.Low sy → As.labels a t sy = some sy1 → As.Low sy1
  | [], sy, sy1, h, e => by injection e with e; subst e; exact h
  | s :: t, sy, sy1, h, e => by
    unfold As.labels at e
    split at e
    · cases e
    · refine As.labels_low ha ?_ e
      intro p hp
      rcases List.mem_append.1 hp with hp | hp
      · exact h p hp
      · rw [List.mem_singleton.1 hp]; exact ha
theorem As.first_step {a i here : Nat} {sy sy2 : List (List UInt8 × Nat)} {l : L6.Line} {r : List L6.Line} (e : As.first a i here sy (l :: r) = .ok sy2) :
    ∃ sy1 p, As.labels (As.at32 (a + here)) l.labels sy = some sy1 ∧ As.pieces l (As.at32 (a + here)) = some p ∧ here + As.size p ≤ 131072 ∧ As.first a (i + 1) (here + As.size p) sy1 r = .ok sy2 := by
  unfold As.first at e
  cases hl : As.labels (As.at32 (a + here)) l.labels sy with
  | none => rw [hl] at e; cases e
  | some sy1 =>
    rw [hl] at e
    dsimp only at e
    cases hp : As.pieces l (As.at32 (a + here)) with
    | none => rw [hp] at e; cases e
    | some p =>
      rw [hp] at e
      dsimp only at e
      split at e
      · cases e
      · split at e
        · cases e
        · exact ⟨sy1, p, rfl, rfl, by omega, e⟩
theorem As.first_low {a : Nat} : ∀ {l : List L6.Line} {i here : Nat} {sy sy2 : List (List UInt8 × Nat)}, As.Low sy → As.first a i here sy l = .ok sy2 → As.Low sy2
  | [], i, here, sy, sy2, h, e => by injection e with e; subst e; exact h
  | x :: r, i, here, sy, sy2, h, e => by
    obtain ⟨sy1, p, h1, _, _, h2⟩ := As.first_step e
    exact As.first_low (As.labels_low (by unfold As.at32; omega) h h1) h2
end Go.Proofs.YtfafdkbnmfpbmaaGreatDoor
/- Layer 7: a line that is read, in memory. -/
namespace Go.Proofs.YtfafdkbnmfpbmaaGreatDoor
open Go.RowKit Kit
set_option linter.unusedVariables false
set_option linter.unusedSimpArgs false

theorem aprt : RowTy Tryz.prog 199 203 10 112 :=
  ⟨Tryz.underlying199, by
    have h : (Tryz.prog.info? 203).map (fun i => (i.zero, i.size, i.bytes)) = some (some (.agg #[.bool false, .int .i64 0, .int .i64 0, .int .i64 0, .int .i64 0, .int .i64 0, .slice none 0 0, .int .i64 0, .string ByteArray.empty, .string ByteArray.empty]), 10, 112) := by kernel_rfl
    obtain ⟨i, h1, h2, h3, h4⟩ := info_parts h
    exact ⟨i, _, h1, h2, h3, h4, by kernel_rfl⟩⟩
/-- A piece's cells. -/
def As.cellsP (p : As.P) (vb : Value) : List Value := [.bool p.code, .int .i64 p.inst.op, .int .i64 p.inst.rd, .int .i64 p.inst.rs1, .int .i64 p.inst.rs2, .int .i64 p.inst.imm, vb, .int .i64 (p.kind : Int), .string ⟨p.name.toArray⟩, .string ⟨p.src.toArray⟩]
/-- These cells are these pieces; R: of their bytes. -/
def As.Ps (R : Value → List UInt8 → Prop) : List As.P → List Value → Prop
  | [], cs => cs = []
  | p :: t, cs => ∃ vb r, cs = As.cellsP p vb ++ r ∧ R vb p.bytes ∧ As.Ps R t r
theorem As.Ps.len {R : Value → List UInt8 → Prop} : ∀ {ps : List As.P} {cs : List Value}, As.Ps R ps cs → cs.length = ps.length * 10
  | [], cs, e => by have e : cs = [] := e; subst e; rfl
  | p :: t, cs, ⟨vb, r, e, h1, h2⟩ => by subst e; have := h2.len; simp only [List.length_append, As.cellsP, List.length_cons, List.length_nil, this]; omega
theorem As.Ps.map {R R' : Value → List UInt8 → Prop} (h : ∀ u l, R u l → R' u l) : ∀ {ps : List As.P} {cs : List Value}, As.Ps R ps cs → As.Ps R' ps cs
  | [], _, e => e
  | p :: t, _, ⟨vb, r, e, h1, h2⟩ => ⟨vb, r, e, h _ _ h1, As.Ps.map h h2⟩
theorem As.Ps.snoc {R : Value → List UInt8 → Prop} {p : As.P} {vb : Value} (h1 : R vb p.bytes) : ∀ {ps : List As.P} {cs : List Value}, As.Ps R ps cs → As.Ps R (ps ++ [p]) (cs ++ As.cellsP p vb)
  | [], cs, e => by have e : cs = [] := e; subst e; exact ⟨vb, [], by simp, h1, rfl⟩
  | _ :: _, _, ⟨vb', r, e, g1, g2⟩ => by subst e; exact ⟨vb', _, by rw [List.append_assoc], g1, As.Ps.snoc h1 g2⟩
/-- The k-th piece's cells. -/
theorem As.Ps.at {R : Value → List UInt8 → Prop} : ∀ {ps : List As.P} {cs : List Value} {k : Nat} (h : As.Ps R ps cs) (hk : k < ps.length), ∃ vb, R vb ps[k].bytes ∧ ∀ i, i < 10 → cs[k * 10 + i]? = (As.cellsP ps[k] vb)[i]?
  | [], _, k, _, hk => by simp at hk
  | p :: t, cs, 0, ⟨vb, r, e, h1, h2⟩, hk => by
    subst e
    refine ⟨vb, h1, fun i hi => ?_⟩
    rw [List.getElem?_append_left (by simp [As.cellsP]; omega)]
    simp
  | p :: t, cs, k + 1, ⟨vb, r, e, h1, h2⟩, hk => by
    subst e
    obtain ⟨vb2, g1, g2⟩ := As.Ps.at (k := k) h2 (by simpa using hk)
    refine ⟨vb2, g1, fun i hi => ?_⟩
    rw [List.getElem?_append_right (by simp [As.cellsP]; omega)]
    rw [show (k + 1) * 10 + i - (As.cellsP p vb).length = k * 10 + i by simp [As.cellsP]; omega]
    exact g2 i hi
/-- A slice lies in none of F's blocks. -/
def As.Clear (F : Nat → Prop) (v : Value) : Prop := ∀ g off n c, v = .slice (some ⟨g, off, none⟩) n c → 0 < n → ¬ F g
def As.Rb (F : Nat → Prop) (W : World) (v : Value) (b : List UInt8) : Prop := Rd W 1 v b.length (bv b) ∧ As.Clear F v
def As.Rs (F : Nat → Prop) (W : World) (v : Value) (l : List (List UInt8)) : Prop := RdS W v l ∧ As.Clear F v
theorem As.Rb.fr {F G : Nat → Prop} {W W' : World} {v : Value} {b : List UInt8} (h : As.Rb F W v b) (hf : Fr F W W') (hG : ∀ g, g < W.heap.size → G g → F g) : As.Rb G W' v b := by
  refine ⟨hf.rd h.1 (fun g off c e hn => h.2 g off _ c e hn), fun g off n c e hn hg => ?_⟩
  obtain ⟨_, A, c', e', _, _, h4⟩ := h.1
  rw [e] at e'
  injection e' with e1 e2 e3
  obtain ⟨g', off', e4, hlt, _⟩ := h4 (by omega)
  rw [← e1] at e4
  injection e4 with e4
  injection e4 with e4 _
  subst e4
  exact h.2 g off n c e hn (hG g hlt hg)
theorem As.Rs.fr {F G : Nat → Prop} {W W' : World} {v : Value} {l : List (List UInt8)} (h : As.Rs F W v l) (hf : Fr F W W') (hG : ∀ g, g < W.heap.size → G g → F g) : As.Rs G W' v l := by
  refine ⟨hf.rd h.1 (fun g off c e hn => h.2 g off _ c e hn), fun g off n c e hn hg => ?_⟩
  obtain ⟨_, A, c', e', _, _, h4⟩ := h.1
  rw [e] at e'
  injection e' with e1 e2 e3
  obtain ⟨g', off', e4, hlt, _⟩ := h4 (by omega)
  rw [← e1] at e4
  injection e4 with e4
  injection e4 with e4 _
  subst e4
  exact h.2 g off n c e hn (hG g hlt hg)
/-- It lies behind the line's own block. -/
def As.Hi (gx : Nat) (v : Value) : Prop := ∀ g off n c, v = .slice (some ⟨g, off, none⟩) n c → 0 < n → gx < g
theorem As.Hi.nil (gx : Nat) : As.Hi gx (.slice none 0 0) := fun g off n c e hn => by cases e
/-- The line in block gx; F: its blocks. -/
structure As.Mk (F : Nat → Prop) (W : World) (gx : Nat) (x : As.L) : Prop where
  obj : ∃ vl vp cs, Bk W gx 271 #[vl, .bool x.ok, vp] ∧ As.Rs F W vl x.l ∧ W.ownsRow 0 203 10 vp x.p.length cs ∧ As.Ps (fun u b => As.Rb F W u b ∧ As.Hi gx u) x.p cs ∧ ∀ k, vp.ownBlock = some k → F k
  gx : F gx
  lt : ∀ k, F k → k < W.heap.size
/-- The line goes on. -/
def As.To (F : Nat → Prop) (w : World) (gx : Nat) (x : As.L) (w' : World) : Prop := ∃ F', As.Mk F' w' gx x ∧ Step F w F' w'
theorem As.Mk.kept {F : Nat → Prop} {W W' : World} {gx : Nat} {x : As.L} (h : As.Mk F W gx x) (hb : Below W.heap.size W W') : As.Mk F W' gx x := by
  obtain ⟨vl, vp, cs, h1, h2, h3, h4, h5⟩ := h.obj
  have hf : Fr F W W' := Fr.of_below hb
  exact ⟨⟨vl, vp, cs, h1.kept hb, h2.fr hf (fun _ _ h => h), own_kept h3 hb, h4.map fun u l hu => ⟨hu.1.fr hf (fun _ _ h => h), hu.2⟩, h5⟩, h.gx, fun k hk => Nat.lt_of_lt_of_le (h.lt k hk) hb.size⟩
theorem As.To.refl {F : Nat → Prop} {w : World} {gx : Nat} {x : As.L} (h : As.Mk F w gx x) : As.To F w gx x w := ⟨F, h, Step.refl F w⟩
theorem As.To.after {F F1 : Nat → Prop} {w w1 w2 : World} {gx : Nat} {x : As.L} (h : As.To F1 w1 gx x w2) (a : Step F w F1 w1) : As.To F w gx x w2 := by
  obtain ⟨F2, h1, h2⟩ := h
  exact ⟨F2, h1, a.trans h2⟩
theorem As.To.kept {F : Nat → Prop} {w w1 w2 : World} {gx : Nat} {x : As.L} (h : As.To F w gx x w1) (hb : Below w1.heap.size w1 w2) : As.To F w gx x w2 := by
  obtain ⟨F1, h1, h2⟩ := h
  exact ⟨F1, h1.kept hb, h2.trans (Step.of_below hb)⟩
/-- The line goes on, in its own block alone. -/
def As.Go (F : Nat → Prop) (w : World) (gx : Nat) (x : As.L) (w' : World) : Prop := As.Mk F w' gx x ∧ Fr (fun k => k = gx) w w'
theorem As.Go.to {F : Nat → Prop} {w w' : World} {gx : Nat} {x : As.L} (h : As.Go F w gx x w') : As.To F w gx x w' := ⟨F, h.1, h.2.mono (fun k e => e ▸ h.1.gx), fun k hk => .inl hk⟩
theorem As.Go.kept {F : Nat → Prop} {w w1 w2 : World} {gx : Nat} {x : As.L} (h : As.Go F w gx x w1) (hb : Below w1.heap.size w1 w2) : As.Go F w gx x w2 := ⟨h.1.kept hb, h.2.trans (Fr.of_below (F := fun _ => False) hb) (fun _ e => e.elim)⟩
theorem As.Go.after {F : Nat → Prop} {w w1 w2 : World} {gx : Nat} {x : As.L} (h : As.Go F w1 gx x w2) (a : Fr (fun k => k = gx) w w1) : As.Go F w gx x w2 := ⟨h.1, a.trans h.2 (fun _ e => .inl e)⟩
/-- More blocks are set apart. -/
theorem As.Mk.grow {F N : Nat → Prop} {W W' : World} {gx : Nat} {x : As.L} (h : As.Mk F W gx x) (hb : Below W.heap.size W W') (hN : ∀ k, N k → W.heap.size ≤ k ∧ k < W'.heap.size) : As.Mk (fun k => F k ∨ N k) W' gx x := by
  obtain ⟨vl, vp, cs, h1, h2, h3, h4, h5⟩ := h.obj
  have hf : Fr F W W' := Fr.of_below hb
  have hG : ∀ g, g < W.heap.size → (F g ∨ N g) → F g := fun g hg e => e.elim id (fun e => absurd hg (by have := (hN g e).1; omega))
  exact ⟨⟨vl, vp, cs, h1.kept hb, h2.fr hf hG, own_kept h3 hb, h4.map fun u l hu => ⟨hu.1.fr hf hG, hu.2⟩, fun k hk => .inl (h5 k hk)⟩, .inl h.gx, fun k hk => hk.elim (fun hk => Nat.lt_of_lt_of_le (h.lt k hk) hb.size) (fun hk => (hN k hk).2)⟩
/-- A block that is set apart, and no row nor the line's own, changes. -/
theorem As.Mk.other {F : Nat → Prop} {W W' : World} {gx g : Nat} {x : As.L} {t : TypeId} {cs : Array Value} (h : As.Mk F W gx x) (hg : F g) (hk : Bk W g t cs) (h1 : t ≠ 271) (h2 : t ≠ 203) (hb : But g W W') : As.Mk F W' gx x := by
  obtain ⟨vl, vp, cs', k1, k2, k3, k4, k5⟩ := h.obj
  have hf : Fr F W W' := Fr.of_but hb hg
  exact ⟨⟨vl, vp, cs', hb.bk k1 (k1.ne hk (fun e => h1 e.symm)), k2.fr hf (fun _ _ h => h), own_but k3 hk h2 hb, k4.map fun u l hu => ⟨hu.1.fr hf (fun _ _ h => h), hu.2⟩, k5⟩, h.gx, fun k hk' => Nat.lt_of_lt_of_le (h.lt k hk') hb.size⟩
/-- What the walks see. -/
structure As.Seen (W : World) (gx : Nat) (x : As.L) (vl : Value) : Prop where
  c0 : W.cell? ⟨gx, 0, none⟩ = some vl
  c1 : W.cell? ⟨gx, 1, none⟩ = some (.bool x.ok)
  f : ∀ i, W.frozen? ⟨gx, i, none⟩ = false
  lt : gx < W.heap.size
  rd : RdS W vl x.l
theorem As.Mk.seen {F : Nat → Prop} {W : World} {gx : Nat} {x : As.L} (h : As.Mk F W gx x) : ∃ vl, As.Seen W gx x vl := by
  obtain ⟨vl, vp, cs, h1, h2, _⟩ := h.obj
  exact ⟨vl, h1.cell 0, h1.cell 1, fun i => h1.free i, h1.lt, h2.1⟩
/-- The flag is set. -/
theorem As.Mk.flag {F : Nat → Prop} {W : World} {gx : Nat} {x : As.L} (h : As.Mk F W gx x) (b : Bool) : As.Go F W gx ⟨x.l, b, x.p⟩ (W.setCell ⟨gx, 1, none⟩ (.bool b)) := by
  obtain ⟨vl, vp, cs, h1, h2, h3, h4, h5⟩ := h.obj
  have hs := But.setCell W gx 1 (.bool b)
  have hf : Fr F W (W.setCell ⟨gx, 1, none⟩ (.bool b)) := Fr.of_but hs h.gx
  refine ⟨⟨⟨vl, vp, cs, h1.set 1 _, h2.fr hf (fun _ _ h => h), own_but h3 h1 (by decide) hs, h4.map fun u l hu => ⟨hu.1.fr hf (fun _ _ h => h), hu.2⟩, h5⟩, h.gx, fun k hk => ?_⟩, Fr.of_but hs rfl⟩
  have := h.lt k hk; simpa [World.setCell] using this
/-- The words that are left are cut. -/
theorem As.Mk.left {F : Nat → Prop} {W : World} {gx : Nat} {x : As.L} (h : As.Mk F W gx x) {v : Value} {l : List (List UInt8)} (hv : As.Rs F W v l) : As.Go F W gx ⟨l, x.ok, x.p⟩ (W.setCell ⟨gx, 0, none⟩ v) := by
  obtain ⟨vl, vp, cs, h1, h2, h3, h4, h5⟩ := h.obj
  have hs := But.setCell W gx 0 v
  have hf : Fr F W (W.setCell ⟨gx, 0, none⟩ v) := Fr.of_but hs h.gx
  refine ⟨⟨⟨v, vp, cs, h1.set 0 _, hv.fr hf (fun _ _ h => h), own_but h3 h1 (by decide) hs, h4.map fun u l hu => ⟨hu.1.fr hf (fun _ _ h => h), hu.2⟩, h5⟩, h.gx, fun k hk => ?_⟩, Fr.of_but hs rfl⟩
  have := h.lt k hk; simpa [World.setCell] using this
/-- What the walk of next meets. -/
theorem As.Mk.next {F : Nat → Prop} {W : World} {gx : Nat} {x : As.L} {s : List UInt8} {t : List (List UInt8)} (h : As.Mk F W gx x) (hx : x.l = s :: t) :
    ∃ g off c A2, W.cell? ⟨gx, 0, none⟩ = some (.slice (some ⟨g, off, none⟩) (t.length + 1) c) ∧ t.length + 1 ≤ c ∧ c ≤ maxLen ∧ g < W.heap.size ∧ W.cell? ⟨g, off, none⟩ = some (.string ⟨s.toArray⟩) ∧
      (∀ (k1 k2 k3 : IntKind) W', (Instr.slice 47 (.slice (some ⟨g, off, none⟩) (t.length + 1) c) (some (.int k1 1)) (some (.int k2 ((t.length : Int) + 1))) (some (.int k3 ((t.length : Int) + 1)))).run Tryz.prog W' = .ok (.slice A2 t.length t.length) W') ∧
      As.Go F W gx (As.next x).2 (W.setCell ⟨gx, 0, none⟩ (.slice A2 t.length t.length)) := by
  obtain ⟨vl, vp, cs, h1, h2, h3, h4, h5⟩ := h.obj
  have hr := h2.1
  rw [hx] at hr
  obtain ⟨hl, A, c, rfl, k2, k3, k4⟩ := hr
  simp only [List.length_cons] at k2 k4 ⊢
  obtain ⟨g, off, rfl, hg, hc⟩ := k4 (by simp)
  have helem : Tryz.prog.elem 47 = 9 := by simp [Program.elem, Tryz.underlying47]
  have ht : Tryz.prog.underlying 47 = some (.slice (Tryz.prog.elem 47)) := by rw [helem]; exact Tryz.underlying47
  obtain ⟨i, z, hi, hz, hs, hb, hzs⟩ := lsrt.info
  have hsz : ∀ W', (sizeOf (Tryz.prog.elem 47)).run Tryz.prog W' = .ok 1 W' := fun W' => by rw [helem]; simp [sizeOf, typeInfo, hi, hs]
  have hv2 : As.Rs F W (sliced (some ⟨g, off, none⟩) 1 (t.length + 1) (t.length + 1) 1) t := by
    unfold sliced
    refine ⟨⟨by simp [L6.sv], ?_⟩, ?_⟩
    · by_cases ht : t.length + 1 = 1
      · have h0 : t = [] := List.eq_nil_of_length_eq_zero (by omega)
        subst h0
        exact ⟨some ⟨g, off, none⟩, 0, rfl, Nat.le_refl _, Nat.zero_le _, fun hn => absurd hn (by simp)⟩
      · refine ⟨some ⟨g, off + 1, none⟩, t.length, by rw [if_neg ht]; simp [addr_add], Nat.le_refl _, by omega, fun hn => ⟨g, off + 1, rfl, hg, fun j u hu => ?_⟩⟩
        have := hc (j + 1) u (by simpa [L6.sv] using hu)
        rw [show off + 1 + j = off + (j + 1) by omega]
        exact this
    · intro g' off' n' c' e hn
      have key : ∀ (A : Option Addr) (n1 c1 : Nat), Value.slice A n1 c1 = .slice (some ⟨g', off', none⟩) n' c' → A = some ⟨g', off', none⟩ := fun A n1 c1 e => by injection e
      have ea := key _ _ _ e
      have this : g' = g := by
        by_cases ht : t.length + 1 = 1
        · rw [if_pos ht] at ea
          exact (congrArg Addr.block (Option.some.inj ea)).symm
        · rw [if_neg ht] at ea
          simp only [Option.map_some, addr_add] at ea
          exact (congrArg Addr.block (Option.some.inj ea)).symm
      rw [this]
      exact h2.2 g off _ c rfl (by simp)
  have esl : sliced (some ⟨g, off, none⟩) 1 (t.length + 1) (t.length + 1) 1 = .slice (if t.length + 1 = 1 then some ⟨g, off, none⟩ else (some (⟨g, off, none⟩ : Addr)).map (·.add (1 * 1))) t.length t.length := by unfold sliced; simp
  rw [esl] at hv2
  refine ⟨g, off, c, if t.length + 1 = 1 then some ⟨g, off, none⟩ else (some (⟨g, off, none⟩ : Addr)).map (·.add (1 * 1)), by simpa using h1.cell 0, k2, k3, hg, by simpa [L6.sv] using hc 0 _ rfl, fun k1 k2' k3' W' => ?_, ?_⟩
  · rw [run_slice_lhm (w := W') 47 _ _ _ ht k1 k2' k3' 1 ((t.length : Int) + 1) ((t.length : Int) + 1) (by omega) (by omega) (by omega) (by omega), hsz]
    rw [← esl]
    simp
  · have := h.left hv2
    unfold As.next
    rw [hx]
    exact this
/-- One more piece. -/
theorem As.Mk.put {F : Nat → Prop} {W : World} {gx : Nat} {x : As.L} (h : As.Mk F W gx x) (p : As.P) :
    ∃ vl vp cs, Bk W gx 271 #[vl, .bool x.ok, vp] ∧ W.ownsRow 0 203 10 vp x.p.length cs ∧
      ∀ Wa vb v' w1, Below W.heap.size W Wa → As.Rb F Wa vb p.bytes ∧ As.Hi gx vb → w1.ownsRow 0 203 10 v' (x.p.length + 1) (cs ++ As.cellsP p vb) → Wa.grownBy w1 vp.ownBlock → (∀ k, v'.ownBlock = some k → vp.ownBlock = some k ∨ Wa.heap.size ≤ k) →
        w1.cell? ⟨gx, 2, none⟩ = some vp ∧ w1.frozen? ⟨gx, 2, none⟩ = false ∧ Hid (As.To F W gx (As.put p x) (w1.setCell ⟨gx, 2, none⟩ v')) := by
  obtain ⟨vl, vp, cs, h1, h2, h3, h4, h5⟩ := h.obj
  refine ⟨vl, vp, cs, h1, h3, fun Wa vb v' w1 hb hbb ho hg hv => ?_⟩
  have h1a := h1.kept hb
  have h3a := own_kept h3 hb
  have hgx1 : Bk w1 gx 271 _ := (hg.block gx h1a.lt (fun e => own_bk_ne h3a h1a (by decide) e.symm)).trans h1a
  have hs := But.setCell w1 gx 2 v'
  have f1 : Fr F W Wa := Fr.of_below hb
  have f2 : Fr F Wa w1 := Fr.of_grown hg h5
  have f3 : Fr F w1 (w1.setCell ⟨gx, 2, none⟩ v') := Fr.of_but hs h.gx
  have f23 : Fr F Wa (w1.setCell ⟨gx, 2, none⟩ v') := f2.trans f3 (fun k hk => .inl hk)
  have hG : ∀ g, g < Wa.heap.size → (F g ∨ v'.ownBlock = some g) → F g := fun g hl hg' => hg'.elim id (fun e => (hv g e).elim (h5 g) (fun e => absurd hl (by omega)))
  refine ⟨hgx1.cell 2, hgx1.free 2, Lib.hid ⟨fun k => F k ∨ v'.ownBlock = some k, ⟨⟨vl, v', cs ++ As.cellsP p vb, hgx1.set 2 _, ?_, ?_, ?_, fun k hk => .inr hk⟩, .inl h.gx, fun k hk => ?_⟩, ?_, fun k hk => ?_⟩⟩
  · exact (h2.fr f1 (G := F) (fun _ _ h => h)).fr f23 hG
  · show World.ownsRow _ 0 _ 10 _ (x.p ++ [p]).length _
    rw [List.length_append, List.length_cons, List.length_nil, Nat.zero_add]
    exact own_but ho hgx1 (by decide) hs
  · exact As.Ps.snoc ⟨hbb.1.fr f23 hG, hbb.2⟩ (h4.map fun u l hu => ⟨(hu.1.fr f1 (G := F) (fun _ _ h => h)).fr f23 hG, hu.2⟩)
  · have e : (w1.setCell ⟨gx, 2, none⟩ v').heap.size = w1.heap.size := by simp [World.setCell]
    rw [e]
    rcases hk with hk | hk
    · exact Nat.lt_of_lt_of_le (h.lt k hk) (Nat.le_trans hb.size hg.size)
    · exact own_lt' ho hk
  · exact f1.trans f23 (fun k hk => .inl hk)
  · rcases hk with hk | hk
    · exact .inl hk
    · rcases hv k hk with e | e
      · exact .inl (h5 k e)
      · exact .inr (Nat.le_trans hb.size e)
/-- Pieces that are read; all of it lies from block B on. -/
def RdP (B : Nat) (W : World) (v : Value) (ps : List As.P) : Prop := ∃ cs, Rd W 10 v ps.length cs ∧ (∀ g off n c, v = .slice (some ⟨g, off, none⟩) n c → 0 < n → B ≤ g) ∧ As.Ps (fun u b => Rd W 1 u b.length (bv b) ∧ ∀ g off n c, u = .slice (some ⟨g, off, none⟩) n c → 0 < n → B ≤ g) ps cs
theorem RdP.kept {B : Nat} {W W' : World} {v : Value} {ps : List As.P} (h : RdP B W v ps) (hb : Below W.heap.size W W') : RdP B W' v ps := by
  obtain ⟨cs, h1, h2, h3⟩ := h
  exact ⟨cs, h1.kept hb, h2, h3.map fun u b hu => ⟨hu.1.kept hb, hu.2⟩⟩
theorem RdP.fr {F : Nat → Prop} {B : Nat} {W W' : World} {v : Value} {ps : List As.P} (h : RdP B W v ps) (hf : Fr F W W') (hF : ∀ k, F k → B ≤ k → W.heap.size ≤ k) : RdP B W' v ps := by
  obtain ⟨cs, h1, h2, h3⟩ := h
  have key : ∀ {size : Nat} {u : Value} {n : Nat} {xs : List Value}, Rd W size u n xs → (∀ g off n c, u = .slice (some ⟨g, off, none⟩) n c → 0 < n → B ≤ g) → Rd W' size u n xs := fun hr hu => by
    refine hf.rd hr fun g off c e hn hg => ?_
    have hB := hu g off _ c e hn
    obtain ⟨_, A, c', e', _, _, h4⟩ := hr
    rw [e] at e'
    injection e' with e1 e2 e3
    obtain ⟨g', off', e4, hlt, _⟩ := h4 (by omega)
    rw [← e1] at e4
    injection e4 with e4
    injection e4 with e4 _
    subst e4
    have := hF g hg hB
    omega
  exact ⟨cs, key h1 h2, h2, h3.map fun u b hu => ⟨key hu.1 hu.2, hu.2⟩⟩
theorem RdP.nil (B : Nat) (W : World) : RdP B W (.slice none 0 0) [] := ⟨[], Rd.nil _ _, fun g off n c e => (by cases e), rfl⟩
theorem RdP.form {B : Nat} {W : World} {v : Value} {ps : List As.P} (h : RdP B W v ps) : ∃ A c, v = .slice A ps.length c := by
  obtain ⟨cs, h1, _⟩ := h
  exact h1.form
theorem As.Mk.out {F : Nat → Prop} {W : World} {gx : Nat} {x : As.L} (h : As.Mk F W gx x) (hF : ∀ k, F k → gx ≤ k) : ∃ vl vp, Bk W gx 271 #[vl, .bool x.ok, vp] ∧ RdS W vl x.l ∧ RdP gx W vp x.p := by
  obtain ⟨vl, vp, cs, h1, h2, h3, h4, h5⟩ := h.obj
  refine ⟨vl, vp, h1, h2.1, cs, Rd.of_own h3, fun g off n c e hn => ?_, h4.map fun u b hu => ⟨hu.1.1, fun g off n c e hn => Nat.le_of_lt (hu.2 g off n c e hn)⟩⟩
  subst e
  have h3' := h3.2
  rcases h3' with ⟨e, _⟩ | ⟨g', cap, cur, e, _⟩
  · cases e
  · injection e with e1 e2 e3
    injection e1 with e1
    injection e1 with e1 e4
    subst e1 e4
    exact hF _ (h5 _ rfl)
end Go.Proofs.YtfafdkbnmfpbmaaGreatDoor
/- Layer 7: a piece more: code, put. -/
namespace Go.Proofs.YtfafdkbnmfpbmaaGreatDoor
open Go.RowKit Kit
set_option linter.unusedVariables false
set_option linter.unusedSimpArgs false

theorem As.cells_one {p : As.P} {vb : Value} (h : vb.oneCell' = true) : ∀ u ∈ As.cellsP p vb, u.oneCell' = true := by
  intro u hu
  simp only [As.cellsP, List.mem_cons, List.not_mem_nil, or_false] at hu
  rcases hu with rfl | rfl | rfl | rfl | rfl | rfl | rfl | rfl | rfl | rfl <;> first | rfl | exact h
theorem As.Rb.form {F : Nat → Prop} {W : World} {v : Value} {b : List UInt8} (h : As.Rb F W v b) : ∃ A c, v = .slice A b.length c := h.1.form
theorem As.Rb.nil (F : Nat → Prop) (W : World) : As.Rb F W (.slice none 0 0) [] := ⟨Rd.nil _ _, fun g off n c e hn => by cases e⟩
/-- What a drawn region with an append of one piece meets. -/
theorem As.Mk.room {F : Nat → Prop} {W : World} {gx : Nat} {x : As.L} (h : As.Mk F W gx x) (p : As.P) {vb : Value} (hb : As.Rb F W vb p.bytes) (hh : As.Hi gx vb) :
    ∃ A c cs, W.cell? ⟨gx, 2, none⟩ = some (.slice A x.p.length c) ∧ W.frozen? ⟨gx, 2, none⟩ = false ∧ (∀ W', Below W.heap.size W W' → W'.cell? ⟨gx, 2, none⟩ = some (.slice A x.p.length c)) ∧
      (W.drew.alloc (.cells (As.cellsP p vb).toArray 203)).ownsRow 0 203 10 (.slice A x.p.length c) x.p.length cs ∧
      Src Tryz.prog 10 199 (.slice (some ⟨W.heap.size, 0, none⟩) 1 1) 1 (As.cellsP p vb) (W.drew.alloc (.cells (As.cellsP p vb).toArray 203)) ∧
      ∀ v' w', w'.ownsRow 0 203 10 v' (x.p.length + 1) (cs ++ As.cellsP p vb) → (W.drew.alloc (.cells (As.cellsP p vb).toArray 203)).grownBy w' (Value.slice A x.p.length c).ownBlock → F8.Where (Value.slice A x.p.length c) v' (W.drew.alloc (.cells (As.cellsP p vb).toArray 203)).heap.size →
        (∃ A' c', v' = .slice A' (x.p.length + 1) c') ∧ w'.cell? ⟨gx, 2, none⟩ = some (.slice A x.p.length c) ∧ w'.frozen? ⟨gx, 2, none⟩ = false ∧ Hid (As.To F W gx (As.put p x) (w'.setCell ⟨gx, 2, none⟩ v')) := by
  obtain ⟨vl, vp, cs, h1, h3, hput⟩ := h.put p
  obtain ⟨A, c, rfl⟩ := (Rd.of_own h3).form
  obtain ⟨B, d, rfl⟩ := hb.form
  have hal : Below W.heap.size W (W.drew.alloc (.cells (As.cellsP p (.slice B p.bytes.length d)).toArray 203)) := (Below.refl _ _).drew.alloc (Nat.le_refl _) _
  refine ⟨A, c, cs, h1.cell 2, h1.free 2, fun W' hb' => (h1.kept hb').cell 2, own_kept h3 hal, ?_, fun v' w' ho hg hv => ?_⟩
  · have hn := Rd.built (size := 10) (Bk.fresh W.drew 203 (As.cellsP p (.slice B p.bytes.length d)).toArray) (by simp [As.cellsP])
    have := Rd.src aprt (by simpa using hn) (As.cells_one rfl)
    simpa using this
  · obtain ⟨d1, d2, d3⟩ := hput _ _ v' w' hal ⟨hb.fr (Fr.of_below hal) (fun _ _ h => h), hh⟩ ho hg hv
    exact ⟨(Rd.of_own ho).form, d1, d2, d3⟩
set_option maxRecDepth 100000 in
set_option maxHeartbeats 2000000 in
theorem acode_any {F : Nat → Prop} {w : World} {gx : Nat} {x : As.L} (h : As.Mk F w gx x) (i : Is.Inst) (hl : x.p.length ≤ 1000000000) :
    Calls Tryz.prog 237 #[.pointer (some ⟨gx, 0, none⟩), i.v] w fun e w' => e = .returned (.tuple #[]) ∧ As.To F w gx (As.code i x) w' := by
  obtain ⟨op, rd, rs1, rs2, imm⟩ := i
  have hal : Below w.heap.size w (w.alloc (.cells #[.int .i64 op, .int .i64 rd, .int .i64 rs1, .int .i64 rs2, .int .i64 imm] 54)) := (Below.refl _ _).alloc (Nat.le_refl _) _
  have hbk := Bk.fresh w 54 #[.int .i64 op, .int .i64 rd, .int .i64 rs1, .int .i64 rs2, .int .i64 imm]
  have hm := h.kept hal
  obtain ⟨A, c, cs, k0, f0, hkk, ho1, hs1, hput⟩ := hm.room ⟨true, ⟨op, rd, rs1, rs2, imm⟩, [], 0, [], []⟩ (As.Rb.nil F _) (As.Hi.nil _)
  have b0 := hbk.cell 0
  have b1 := hbk.cell 1
  have b2 := hbk.cell 2
  have b3 := hbk.cell 3
  have b4 := hbk.cell 4
  dsimp only [As.cellsP] at ho1 hs1 hput
  have HAL := Lib.hid hal
  have HO1 := Lib.hid ho1
  have HS1 := Lib.hid hs1
  have HPUT := Lib.hid hput
  have HL1 := Lib.hid (show (x.p.length + 1) * 112 ≤ 140737488355328 by omega)
  have HL2 := Lib.hid (show x.p.length + 1 ≤ maxLen by unfold maxLen; omega)
  clear hal hbk hm h ho1 hs1 hput hl
  go_enter Tryz.func237, Tryz.ntmps237
  go_wp2_with fail
  obtain ⟨W3, hW3⟩ : ∃ W3, w.alloc (.cells #[.int .i64 op, .int .i64 rd, .int .i64 rs1, .int .i64 rs2, .int .i64 imm] 54) = W3 := ⟨_, rfl⟩
  rw [hW3] at k0 f0 hkk b0 b1 b2 b3 b4 HO1 HS1 HPUT HAL ⊢
  have ka := hkk _ ((Below.refl _ _).alloc (Nat.le_refl _) (.cells #[.bool true, .int .i64 op, .int .i64 rd, .int .i64 rs1, .int .i64 rs2, .int .i64 imm, .slice none 0 0, .int .i64 0, .string ⟨#[]⟩, .string ⟨#[]⟩] 203))
  clear hkk hW3
  go_region_law (refine step_appendRB (by rfl) _ _ _ _ (by rfl) aprt (by decide) 0 (.slice A x.p.length c) (by rfl) x.p.length cs HO1.out _ (by rfl) 1 [.bool true, .int .i64 op, .int .i64 rd, .int .i64 rs1, .int .i64 rs2, .int .i64 imm, .slice none 0 0, .int .i64 0, .string ⟨#[]⟩, .string ⟨#[]⟩] HS1.out HL1.out HL2.out (Nat.zero_le _) ?_; intro v3 w3 ho3 hb3 hg3 hv3; obtain ⟨⟨A3, c3, rfl⟩, k3, f3, HM⟩ := HPUT.out v3 w3 ho3 hg3 hv3)
  all_goals go_wp2_with fail
  all_goals go_end0
  all_goals exact ⟨rfl, HM.out.after (Step.of_below HAL.out)⟩
set_option maxRecDepth 100000 in
set_option maxHeartbeats 2000000 in
theorem aput_any {F : Nat → Prop} {w : World} {gx : Nat} {x : As.L} (h : As.Mk F w gx x) (p : As.P) (vb : Value) (hb : As.Rb F w vb p.bytes) (hh : As.Hi gx vb) (hl : x.p.length ≤ 1000000000) :
    Calls Tryz.prog 241 #[.pointer (some ⟨gx, 0, none⟩), .agg #[.bool p.code, .int .i64 p.inst.op, .int .i64 p.inst.rd, .int .i64 p.inst.rs1, .int .i64 p.inst.rs2, .int .i64 p.inst.imm, vb, .int .i64 (p.kind : Int), .string ⟨p.name.toArray⟩, .string ⟨p.src.toArray⟩]] w fun e w' => e = .returned (.tuple #[]) ∧ As.To F w gx (As.put p x) w' := by
  obtain ⟨pc, ⟨op, rd, rs1, rs2, imm⟩, pb, pk, pn, ps⟩ := p
  obtain ⟨B, d, rfl⟩ := hb.form
  dsimp only at hb hh ⊢
  have hal : Below w.heap.size w (w.alloc (.cells #[.bool pc, .int .i64 op, .int .i64 rd, .int .i64 rs1, .int .i64 rs2, .int .i64 imm, .slice B pb.length d, .int .i64 (pk : Int), .string ⟨pn.toArray⟩, .string ⟨ps.toArray⟩] 203)) := (Below.refl _ _).alloc (Nat.le_refl _) _
  have hbk := Bk.fresh w 203 #[.bool pc, .int .i64 op, .int .i64 rd, .int .i64 rs1, .int .i64 rs2, .int .i64 imm, .slice B pb.length d, .int .i64 (pk : Int), .string ⟨pn.toArray⟩, .string ⟨ps.toArray⟩]
  have hm := h.kept hal
  obtain ⟨A, c, cs, k0, f0, hkk, ho1, hs1, hput⟩ := hm.room ⟨pc, ⟨op, rd, rs1, rs2, imm⟩, pb, pk, pn, ps⟩ (hb.fr (Fr.of_below hal) (fun _ _ h => h)) hh
  have b0 := hbk.cell 0
  have b1 := hbk.cell 1
  have b2 := hbk.cell 2
  have b3 := hbk.cell 3
  have b4 := hbk.cell 4
  have b5 := hbk.cell 5
  have b6 := hbk.cell 6
  have b7 := hbk.cell 7
  have b8 := hbk.cell 8
  have b9 := hbk.cell 9
  dsimp only [As.cellsP] at ho1 hs1 hput
  have HAL := Lib.hid hal
  have HO1 := Lib.hid ho1
  have HS1 := Lib.hid hs1
  have HPUT := Lib.hid hput
  have HL1 := Lib.hid (show (x.p.length + 1) * 112 ≤ 140737488355328 by omega)
  have HL2 := Lib.hid (show x.p.length + 1 ≤ maxLen by unfold maxLen; omega)
  clear hal hbk hm h hb hh ho1 hs1 hput hl
  go_enter Tryz.func241, Tryz.ntmps241
  go_wp2_with fail
  obtain ⟨W3, hW3⟩ : ∃ W3, w.alloc (.cells #[.bool pc, .int .i64 op, .int .i64 rd, .int .i64 rs1, .int .i64 rs2, .int .i64 imm, .slice B pb.length d, .int .i64 (pk : Int), .string ⟨pn.toArray⟩, .string ⟨ps.toArray⟩] 203) = W3 := ⟨_, rfl⟩
  rw [hW3] at k0 f0 hkk b0 b1 b2 b3 b4 b5 b6 b7 b8 b9 HO1 HS1 HPUT HAL ⊢
  have ka := hkk _ ((Below.refl _ _).alloc (Nat.le_refl _) (.cells #[.bool pc, .int .i64 op, .int .i64 rd, .int .i64 rs1, .int .i64 rs2, .int .i64 imm, .slice B pb.length d, .int .i64 (pk : Int), .string ⟨pn.toArray⟩, .string ⟨ps.toArray⟩] 203))
  clear hkk hW3
  go_region_law (refine step_appendRB (by rfl) _ _ _ _ (by rfl) aprt (by decide) 0 (.slice A x.p.length c) (by rfl) x.p.length cs HO1.out _ (by rfl) 1 [.bool pc, .int .i64 op, .int .i64 rd, .int .i64 rs1, .int .i64 rs2, .int .i64 imm, .slice B pb.length d, .int .i64 (pk : Int), .string ⟨pn.toArray⟩, .string ⟨ps.toArray⟩] HS1.out HL1.out HL2.out (Nat.zero_le _) ?_; intro v3 w3 ho3 hb3 hg3 hv3; obtain ⟨⟨A3, c3, rfl⟩, k3, f3, HM⟩ := HPUT.out v3 w3 ho3 hg3 hv3)
  all_goals go_wp2_with fail
  all_goals go_end0
  all_goals exact ⟨rfl, HM.out.after (Step.of_below HAL.out)⟩
end Go.Proofs.YtfafdkbnmfpbmaaGreatDoor
/- Layer 7: the words of a line, one by one. -/
namespace Go.Proofs.YtfafdkbnmfpbmaaGreatDoor
open Go.RowKit Kit
set_option linter.unusedVariables false
set_option linter.unusedSimpArgs false

set_option maxRecDepth 100000 in
set_option maxHeartbeats 1000000 in
theorem anext_any {F : Nat → Prop} {w : World} {gx : Nat} {x : As.L} (h : As.Mk F w gx x) :
    Calls Tryz.prog 242 #[.pointer (some ⟨gx, 0, none⟩)] w fun e w' => e = .returned (.string ⟨(As.next x).1.toArray⟩) ∧ As.Go F w gx (As.next x).2 w' := by
  obtain ⟨vl, hs⟩ := h.seen
  have c0 := hs.c0
  have c1 := hs.c1
  have f0 := hs.f 0
  have f1 := hs.f 1
  cases hx : x.l with
  | nil =>
    have hr := hs.rd
    rw [hx] at hr
    obtain ⟨A, c, rfl⟩ := hr.nil_form
    have HP := Lib.hid (show As.Go F w gx (As.next x).2 (w.setCell ⟨gx, 1, none⟩ (.bool false)) from by
      have := h.flag false
      unfold As.next
      rw [hx] at this ⊢
      exact this)
    have HV := Lib.hid (show (As.next x).1 = [] from by unfold As.next; rw [hx])
    clear h hs hx hr
    go_enter Tryz.func242, Tryz.ntmps242
    go_wp2_with fail
    go_ret
    exact ⟨by rw [HV.out]; rfl, HP.out⟩
  | cons s t =>
    obtain ⟨g, off, c, A2, k0, hc1, hc2, hg, hc, hsl, hto⟩ := h.next hx
    have HP := Lib.hid hto
    have HV := Lib.hid (show (As.next x).1 = s from by unfold As.next; rw [hx])
    have HSL := Lib.hid hsl
    have hpos : (0 : Int) < (t.length : Int) + 1 := by omega
    have hne : ((t.length : Int) + 1 == 0) = false := by simp; omega
    rw [k0] at c0
    clear h hs hx hto hsl c0
    go_enter Tryz.func242, Tryz.ntmps242
    go_wp2_with fail
    refine wp_region_still_tail 18 (by kernel_rfl) (by kernel_rfl) ?_
    have hd : ∀ W : World, {W with drawn := W.drawn + 1} = W.drew := fun _ => rfl
    rw [hd]
    clear hd
    have hsl := HSL.out
    simp only [List.take_succ_cons, List.take_zero, List.drop_succ_cons, List.drop_zero]
    repeat ((with_reducible refine wpStill_step (fun K hK => ?_)); go_simp; (try go_bits); (with_reducible refine hK _ ?_); clear hK K)
    refine wpStill_nil ?_
    go_wp2_with fail
    go_ret
    exact ⟨by rw [HV.out]; rfl, HP.out.kept ((Below.refl _ _).drew)⟩
end Go.Proofs.YtfafdkbnmfpbmaaGreatDoor
/- Layer 7: registers, numbers, names of a line. -/
namespace Go.Proofs.YtfafdkbnmfpbmaaGreatDoor
open Go.RowKit Kit
set_option linter.unusedVariables false
set_option linter.unusedSimpArgs false

/-- The table of tens is none of these blocks. -/
def As.Tb (F : Nat → Prop) (w : World) : Prop := L6.Tab w ∧ ¬ F 1
theorem As.tab_fr {F : Nat → Prop} {w w' : World} (h : L6.Tab w) (hf : Fr F w w') (hn : ¬ F 1) : L6.Tab w' := by
  have hlt := F8.tab_lt h
  unfold L6.Tab Lib.TabIs at *
  unfold World.var? at *
  rw [L6.tab_named] at *
  simp only [Option.bind_some] at *
  rw [hf.block _ hlt hn]
  exact h
theorem As.Tb.step {F F' : Nat → Prop} {w w' : World} (h : As.Tb F w) (hs : Step F w F' w') : As.Tb F' w' :=
  ⟨As.tab_fr h.1 hs.fr h.2, fun e => (hs.new _ e).elim h.2 (fun e => absurd (F8.tab_lt h.1) (by omega))⟩
theorem As.Tb.go {F : Nat → Prop} {w w' : World} {gx : Nat} (h : As.Tb F w) (hg : F gx) (hf : Fr (fun k => k = gx) w w') : As.Tb F w' := ⟨As.tab_fr h.1 hf (fun e => h.2 (e ▸ hg)), h.2⟩
theorem As.Tb.kept {F : Nat → Prop} {w w' : World} (h : As.Tb F w) (hb : Below w.heap.size w w') : As.Tb F w' := h.step (Step.of_below hb)
theorem asret_bool {a b : Bool} (h : a = b) : Ending.returned (.bool a) = .returned (.bool b) := by rw [h]
/-- No word is too long. -/
def As.Short (l : List (List UInt8)) : Prop := ∀ s ∈ l, s.length ≤ maxLen
theorem As.Short.next {x : As.L} (h : As.Short x.l) : (As.next x).1.length ≤ maxLen ∧ As.Short (As.next x).2.l := by
  unfold As.next
  split
  · exact ⟨Nat.zero_le _, fun s hs => by cases hs⟩
  · rename_i s t e
    rw [e] at h
    exact ⟨h s (by simp), fun y hy => h y (by simp [hy])⟩
theorem As.Short.reg {x : As.L} (h : As.Short x.l) : As.Short (As.reg x).2.l := h.next.2
theorem As.Short.num {x : As.L} (h : As.Short x.l) : As.Short (As.num x).2.l := h.next.2
theorem As.Short.name {x : As.L} (h : As.Short x.l) : As.Short (As.name x).2.l := h.next.2
theorem As.Short.either {x : As.L} (h : As.Short x.l) : As.Short (As.either x).2.l := by
  unfold As.either
  split
  · exact h.name
  · rename_i s t e
    split
    · rw [e] at h; exact fun y hy => h y (by simp [hy])
    · exact h.name
set_option maxRecDepth 20000 in
set_option maxHeartbeats 1000000 in
theorem asymbol_any (s : List UInt8) (w : World) (hl : s.length ≤ maxLen) (hT : L6.Tab w) :
    Calls Tryz.prog 277 #[.string ⟨s.toArray⟩] w fun e w' => e = .returned (.bool (As.symbol s)) ∧ Below w.heap.size w w' := by
  have CN := Lib.hid (fun W => lnumber_any s W hl)
  have CR := Lib.hid (lreg_any s w hl (.inr hT))
  have HV := Lib.hid (show As.symbol s = (!(L6.number s).2 && (!(L6.regV s).2 && (!s.isEmpty && s.headD 0 != 34))) from rfl)
  clear hT hl
  generalize L6.number s = n at *
  generalize L6.regV s = r at *
  obtain ⟨n1, n2⟩ := n
  obtain ⟨r1, r2⟩ := r
  dsimp only at CN CR HV
  cases n2 <;> cases r2
  · by_cases he : s = []
    · subst he
      go_enter Tryz.func277, Tryz.ntmps277
      go_wp2_with (first | (go_at_call 195; refine (CN.out _).mono ?_; rintro e w' ⟨rfl, rfl⟩) | (go_at_call 276; refine CR.out.mono ?_; rintro e w1 ⟨rfl, hb1⟩))
      go_ret
      exact ⟨asret_bool (by rw [HV.out]; rfl), hb1⟩
    · have h0 : 0 < s.length := List.length_pos_iff.2 he
      have hne : (s != ([] : List UInt8)) = true := by simpa using he
      have hne2 : (!s == ([] : List UInt8)) = true := by simpa using he
      have hpos : (0 : Int) < s.length := by omega
      have HC := Lib.hid (show (s.headD 0 != 34) = (((((⟨s.toArray⟩ : ByteArray)[0]'h0).toNat : Int)) != 34) by
        rw [L6.get_data s 0 h0, Bool.eq_iff_iff, bne_iff_ne, bne_iff_ne]
        cases s with
        | nil => simp at h0
        | cons a b =>
          simp only [List.headD_cons, List.getD_cons_zero]
          refine not_congr ⟨fun h => by rw [h]; rfl, fun h => UInt8.toNat_inj.1 ?_⟩
          have : a.toNat = 34 := by omega
          exact this)
      have he2 : s.isEmpty = false := by cases s with | nil => exact absurd rfl he | cons a b => rfl
      have HE := Lib.hid he2
      clear he
      go_enter Tryz.func277, Tryz.ntmps277
      go_wp2_with (first | (go_at_call 195; refine (CN.out _).mono ?_; rintro e w' ⟨rfl, rfl⟩) | (go_at_call 276; refine CR.out.mono ?_; rintro e w1 ⟨rfl, hb1⟩))
      go_ret
      exact ⟨asret_bool (by rw [HV.out, HC.out, HE.out]; rfl), hb1⟩
  · go_enter Tryz.func277, Tryz.ntmps277
    go_wp2_with (first | (go_at_call 195; refine (CN.out _).mono ?_; rintro e w' ⟨rfl, rfl⟩) | (go_at_call 276; refine CR.out.mono ?_; rintro e w1 ⟨rfl, hb1⟩))
    go_ret
    exact ⟨asret_bool (by rw [HV.out]; rfl), hb1⟩
  · go_enter Tryz.func277, Tryz.ntmps277
    go_wp2_with (first | (go_at_call 195; refine (CN.out _).mono ?_; rintro e w' ⟨rfl, rfl⟩) | (go_at_call 276; refine CR.out.mono ?_; rintro e w1 ⟨rfl, hb1⟩))
    go_ret
    exact ⟨asret_bool (by rw [HV.out]; rfl), hb1⟩
  · go_enter Tryz.func277, Tryz.ntmps277
    go_wp2_with (first | (go_at_call 195; refine (CN.out _).mono ?_; rintro e w' ⟨rfl, rfl⟩) | (go_at_call 276; refine CR.out.mono ?_; rintro e w1 ⟨rfl, hb1⟩))
    go_ret
    exact ⟨asret_bool (by rw [HV.out]; rfl), hb1⟩
set_option maxRecDepth 20000 in
set_option maxHeartbeats 1000000 in
theorem areg_any {F : Nat → Prop} {w : World} {gx : Nat} {x : As.L} (h : As.Mk F w gx x) (hT : As.Tb F w) (hsh : As.Short x.l) :
    Calls Tryz.prog 234 #[.pointer (some ⟨gx, 0, none⟩)] w fun e w' => e = .returned (.int .i64 ((As.reg x).1 : Nat)) ∧ As.Go F w gx (As.reg x).2 w' := by
  have CN := Lib.hid (anext_any h)
  have CR := Lib.hid (fun W (hT : L6.Tab W) => lreg_any (As.next x).1 W hsh.next.1 (.inr hT))
  have HT := Lib.hid hT
  have HV := Lib.hid (show As.reg x = ((L6.regV (As.next x).1).1, As.sat (L6.regV (As.next x).1).2 (As.next x).2) from rfl)
  clear h hT hsh
  generalize As.reg x = R at *
  generalize As.next x = nx at *
  obtain ⟨s, l1, ok1, p1⟩ := nx
  dsimp only at CN CR HV
  generalize L6.regV s = r at *
  obtain ⟨r1, r2⟩ := r
  dsimp only at CR HV
  cases ok1
  all_goals
    go_enter Tryz.func234, Tryz.ntmps234
    go_wp2_with (go_at_call 242; refine CN.out.mono ?_; rintro e w1 ⟨rfl, hm1, st1⟩; have HM1 := Lib.hid hm1; have ST1 := Lib.hid st1; clear hm1 st1)
    go_wp2_with (go_at_call 276; refine (CR.out _ (HT.out.go HM1.out.gx ST1.out).1).mono ?_; rintro e w2 ⟨rfl, hb2⟩; have HM2 := Lib.hid (HM1.out.kept hb2); have ST2 := Lib.hid (ST1.out.trans (Fr.of_below (F := fun k => k = gx) hb2) (fun _ e => .inl e)); obtain ⟨vl, hs2⟩ := HM2.out.seen; have c1 := hs2.c1; have f1 := hs2.f 1; clear hb2 hs2)
    go_ret
    refine ⟨by rw [HV.out]; rfl, ?_⟩
    rw [HV.out]
    have hfl := HM2.out.flag
    exact (hfl _).after ST2.out
set_option maxRecDepth 20000 in
set_option maxHeartbeats 1000000 in
theorem anum_any {F : Nat → Prop} {w : World} {gx : Nat} {x : As.L} (h : As.Mk F w gx x) (hT : As.Tb F w) (hsh : As.Short x.l) :
    Calls Tryz.prog 235 #[.pointer (some ⟨gx, 0, none⟩)] w fun e w' => e = .returned (.int .i64 (As.num x).1) ∧ As.Go F w gx (As.num x).2 w' := by
  have CN := Lib.hid (anext_any h)
  have CR := Lib.hid (fun W (hT : L6.Tab W) => (lnumber_any (As.next x).1 W hsh.next.1).mono (R' := fun e w' => e = .returned (.tuple #[.int .i64 (L6.number (As.next x).1).1, .bool (L6.number (As.next x).1).2]) ∧ Below W.heap.size W w') (fun e w' h => ⟨h.1, h.2 ▸ Below.refl _ _⟩))
  have HT := Lib.hid hT
  have HV := Lib.hid (show As.num x = ((L6.number (As.next x).1).1, As.sat (L6.number (As.next x).1).2 (As.next x).2) from rfl)
  clear h hT hsh
  generalize As.num x = R at *
  generalize As.next x = nx at *
  obtain ⟨s, l1, ok1, p1⟩ := nx
  dsimp only at CN CR HV
  generalize L6.number s = r at *
  obtain ⟨r1, r2⟩ := r
  dsimp only at CR HV
  cases ok1
  all_goals
    go_enter Tryz.func235, Tryz.ntmps235
    go_wp2_with (go_at_call 242; refine CN.out.mono ?_; rintro e w1 ⟨rfl, hm1, st1⟩; have HM1 := Lib.hid hm1; have ST1 := Lib.hid st1; clear hm1 st1)
    go_wp2_with (go_at_call 195; refine (CR.out _ (HT.out.go HM1.out.gx ST1.out).1).mono ?_; rintro e w2 ⟨rfl, hb2⟩; have HM2 := Lib.hid (HM1.out.kept hb2); have ST2 := Lib.hid (ST1.out.trans (Fr.of_below (F := fun k => k = gx) hb2) (fun _ e => .inl e)); obtain ⟨vl, hs2⟩ := HM2.out.seen; have c1 := hs2.c1; have f1 := hs2.f 1; clear hb2 hs2)
    go_ret
    refine ⟨by rw [HV.out]; rfl, ?_⟩
    rw [HV.out]
    have hfl := HM2.out.flag
    exact (hfl _).after ST2.out
set_option maxRecDepth 20000 in
set_option maxHeartbeats 1000000 in
theorem aname_any {F : Nat → Prop} {w : World} {gx : Nat} {x : As.L} (h : As.Mk F w gx x) (hT : As.Tb F w) (hsh : As.Short x.l) :
    Calls Tryz.prog 239 #[.pointer (some ⟨gx, 0, none⟩)] w fun e w' => e = .returned (.string ⟨(As.name x).1.toArray⟩) ∧ As.Go F w gx (As.name x).2 w' := by
  have CN := Lib.hid (anext_any h)
  have CR := Lib.hid (fun W (hT : L6.Tab W) => asymbol_any (As.next x).1 W hsh.next.1 hT)
  have HT := Lib.hid hT
  have HV := Lib.hid (show As.name x = ((As.next x).1, As.sat (As.symbol (As.next x).1) (As.next x).2) from rfl)
  clear h hT hsh
  generalize As.name x = R at *
  generalize As.next x = nx at *
  obtain ⟨s, l1, ok1, p1⟩ := nx
  dsimp only at CN CR HV
  generalize As.symbol s = r at *
  cases ok1
  · go_enter Tryz.func239, Tryz.ntmps239
    go_wp2_with (go_at_call 242; refine CN.out.mono ?_; rintro e w1 ⟨rfl, hm1, st1⟩; have HM1 := Lib.hid hm1; have ST1 := Lib.hid st1; obtain ⟨vl, hs2⟩ := hm1.seen; have c1 := hs2.c1; have f1 := hs2.f 1; clear hm1 st1 hs2)
    go_ret
    refine ⟨by rw [HV.out]; rfl, ?_⟩
    rw [HV.out]
    have hfl := HM1.out.flag
    exact (hfl _).after ST1.out
  · go_enter Tryz.func239, Tryz.ntmps239
    go_wp2_with (go_at_call 242; refine CN.out.mono ?_; rintro e w1 ⟨rfl, hm1, st1⟩; have HM1 := Lib.hid hm1; have ST1 := Lib.hid st1; obtain ⟨vl, hs2⟩ := hm1.seen; have c1 := hs2.c1; have f1 := hs2.f 1; clear hm1 st1 hs2)
    go_wp2_with (go_at_call 277; refine (CR.out _ (HT.out.go HM1.out.gx ST1.out).1).mono ?_; rintro e w2 ⟨rfl, hb2⟩; have HM2 := Lib.hid (HM1.out.kept hb2); have ST2 := Lib.hid (ST1.out.trans (Fr.of_below (F := fun k => k = gx) hb2) (fun _ e => .inl e)); obtain ⟨vl, hs2⟩ := HM2.out.seen; have c1 := hs2.c1; have f1 := hs2.f 1; clear hb2 hs2)
    go_ret
    refine ⟨by rw [HV.out]; rfl, ?_⟩
    rw [HV.out]
    have hfl := HM2.out.flag
    exact (hfl _).after ST2.out
set_option maxRecDepth 20000 in
set_option maxHeartbeats 1000000 in
theorem aeither_any {F : Nat → Prop} {w : World} {gx : Nat} {x : As.L} (h : As.Mk F w gx x) (hT : As.Tb F w) (hsh : As.Short x.l) :
    Calls Tryz.prog 240 #[.pointer (some ⟨gx, 0, none⟩)] w fun e w' => e = .returned (.tuple #[.int .i64 (As.either x).1.1, .string ⟨(As.either x).1.2.toArray⟩]) ∧ As.Go F w gx (As.either x).2 w' := by
  have CM := Lib.hid (aname_any h hT hsh)
  have CX := Lib.hid (anext_any h)
  obtain ⟨vl, hs⟩ := h.seen
  have c0 := hs.c0
  have hrd := hs.rd
  cases hx : x.l with
  | nil =>
    rw [hx] at hrd
    obtain ⟨A, c, rfl⟩ := hrd.nil_form
    have HV := Lib.hid (show As.either x = ((0, (As.name x).1), (As.name x).2) from by unfold As.either; rw [hx])
    clear h hT hsh hs hrd hx CX
    go_enter Tryz.func240, Tryz.ntmps240
    go_wp2_with (go_at_call 239; refine CM.out.mono ?_; rintro e w1 ⟨rfl, h1⟩)
    go_ret2
    rw [HV.out]
    exact ⟨rfl, h1⟩
  | cons s t =>
    rw [hx] at hrd hsh
    obtain ⟨g, off, c, rfl, hc1, hc2, hg, hc, _⟩ := hrd.cons
    have CR := Lib.hid (fun W => lnumber_any s W (hsh s (by simp)))
    have hpos : (0 : Int) < (t.length : Int) + 1 := by omega
    by_cases hn : (L6.number s).2 = true
    · have HV := Lib.hid (show As.either x = (((L6.number s).1, []), (As.next x).2) from by unfold As.either As.next; rw [hx]; dsimp only; rw [if_pos hn])
      have CR := Lib.hid (fun W => (CR.out W).mono (R' := fun e w' => e = .returned (.tuple #[.int .i64 (L6.number s).1, .bool true]) ∧ W = w') (fun e w' h => ⟨by rw [h.1, hn], h.2⟩))
      clear h hT hsh hs hrd hx CM hn
      go_enter Tryz.func240, Tryz.ntmps240
      go_wp2_with (first | (go_at_call 195; refine (CR.out _).mono ?_; rintro e w' ⟨rfl, rfl⟩) | (go_at_call 242; refine CX.out.mono ?_; rintro e w1 ⟨rfl, h1⟩))
      go_ret2
      rw [HV.out]
      exact ⟨rfl, h1⟩
    · have hn : (L6.number s).2 = false := by simpa using hn
      have HV := Lib.hid (show As.either x = ((0, (As.name x).1), (As.name x).2) from by unfold As.either; rw [hx]; dsimp only; rw [if_neg (by rw [hn]; decide)])
      have CR := Lib.hid (fun W => (CR.out W).mono (R' := fun e w' => e = .returned (.tuple #[.int .i64 (L6.number s).1, .bool false]) ∧ W = w') (fun e w' h => ⟨by rw [h.1, hn], h.2⟩))
      clear h hT hsh hs hrd hx CX hn
      go_enter Tryz.func240, Tryz.ntmps240
      go_wp2_with (first | (go_at_call 195; refine (CR.out _).mono ?_; rintro e w' ⟨rfl, rfl⟩) | (go_at_call 239; refine CM.out.mono ?_; rintro e w1 ⟨rfl, h1⟩))
      go_ret2
      rw [HV.out]
      exact ⟨rfl, h1⟩
end Go.Proofs.YtfafdkbnmfpbmaaGreatDoor
/- Layer 7: halves of a number, a word's bytes, a goal. -/
namespace Go.Proofs.YtfafdkbnmfpbmaaGreatDoor
open Go.RowKit Kit
set_option linter.unusedVariables false
set_option linter.unusedSimpArgs false

theorem As.and12 (n : Int) (h : Is.in64 n) : Go.bits .and .i64 n 4095 = n % 4096 := by
  show IntKind.i64.wrap ((BitVec.ofInt 64 n &&& BitVec.ofInt 64 4095).toNat : Int) = _
  have h1 : (BitVec.ofInt 64 4095).toNat = 2 ^ 12 - 1 := by decide
  have h2 : (BitVec.ofInt 64 n).toNat = (n % 18446744073709551616).toNat := by rw [BitVec.toNat_ofInt]; rfl
  rw [BitVec.toNat_and, h1, h2, Nat.and_two_pow_sub_one_eq_mod, IntKind.wrap_i64]
  omega
theorem As.and20 (n : Int) (h : Is.in64 n) : Go.bits .and .i64 n 1048575 = n % 1048576 := by
  show IntKind.i64.wrap ((BitVec.ofInt 64 n &&& BitVec.ofInt 64 1048575).toNat : Int) = _
  have h1 : (BitVec.ofInt 64 1048575).toNat = 2 ^ 20 - 1 := by decide
  have h2 : (BitVec.ofInt 64 n).toNat = (n % 18446744073709551616).toNat := by rw [BitVec.toNat_ofInt]; rfl
  rw [BitVec.toNat_and, h1, h2, Nat.and_two_pow_sub_one_eq_mod, IntKind.wrap_i64]
  omega
set_option maxRecDepth 20000 in
theorem ahalves_any (n : Int) (w : World) (h1 : -2147483648 ≤ n) (h2 : n ≤ 4294967295) :
    Calls Tryz.prog 167 #[.int .i64 n] w fun e w' => e = .returned (.tuple #[.int .i64 (As.hi n), .int .i64 (As.lo n)]) ∧ w = w' := by
  have w1 : IntKind.i64.wrap (n + 2048) = n + 2048 := by rw [IntKind.wrap_i64]; omega
  have a1 := As.and12 (n + 2048) (by unfold Is.in64; omega)
  have w2 : IntKind.i64.wrap ((n + 2048) % 4096 - 2048) = As.lo n := by unfold As.lo; rw [IntKind.wrap_i64]; omega
  have hlo : -2048 ≤ As.lo n ∧ As.lo n < 2048 := by unfold As.lo; omega
  have w3 : IntKind.i64.wrap (n - As.lo n) = n - As.lo n := by rw [IntKind.wrap_i64]; omega
  have a2 := As.and20 ((n - As.lo n) / 4096) (by unfold Is.in64; omega)
  have HV := Lib.hid (show As.hi n = (n - As.lo n) / 4096 % 1048576 from rfl)
  generalize As.lo n = lo at *
  clear h1 h2 hlo
  go_enter Tryz.func167, Tryz.ntmps167
  go_wp2_with fail
  go_ret2
  exact ⟨by rw [HV.out]; rfl, rfl⟩
set_option maxRecDepth 20000 in
theorem afour_any (v : Nat) (w : World) (hv : v < 4294967296) :
    Calls Tryz.prog 168 #[.int .u32 (v : Int)] w fun e w' => e = .returned (.slice (some ⟨w.heap.size, 0, none⟩) 4 4) ∧ w' = w.alloc (.cells (bv (As.four v)).toArray 5) := by
  have HV := Lib.hid (show (bv (As.four v)).toArray = #[.int .u8 ((v : Int) % 256), .int .u8 ((v : Int) / 256 % 256), .int .u8 ((v : Int) / 65536 % 256), .int .u8 ((v : Int) / 16777216)] from by
    have h4 : v / 16777216 % 256 = v / 16777216 := by omega
    simp [bv, As.four, UInt8.toNat_ofNat', h4])
  go_enter Tryz.func168, Tryz.ntmps168
  go_wp2_with fail
  go_ret
  exact ⟨rfl, by rw [HV.out]⟩
theorem As.To.lift {F F3 : Nat → Prop} {w W w' : World} {gx : Nat} {x : As.L} (h : As.To F3 W gx x w') (hF3 : ∀ k, F3 k → F k ∨ w.heap.size ≤ k) (hf : Fr F w W) : As.To F w gx x w' := by
  obtain ⟨F2, m, st⟩ := h
  exact ⟨F2, m, ⟨hf.trans st.fr hF3, fun k hk => (st.new k hk).elim (hF3 k) (fun e => .inr (Nat.le_trans hf.size e))⟩⟩
theorem As.either_len (x : As.L) : (As.either x).2.p = x.p := by
  unfold As.either As.name As.next As.sat
  (repeat' split) <;> rfl
set_option maxRecDepth 100000 in
set_option maxHeartbeats 2000000 in
theorem ato_any {F : Nat → Prop} {w : World} {gx : Nat} {x : As.L} (h : As.Mk F w gx x) (hT : As.Tb F w) (hsh : As.Short x.l) (i : Is.Inst) (hl : x.p.length ≤ 1000000000) :
    Calls Tryz.prog 236 #[.pointer (some ⟨gx, 0, none⟩), i.v] w fun e w' => e = .returned (.tuple #[]) ∧ As.To F w gx (As.to i x) w' := by
  have HP0 := show As.to i x = As.put ⟨true, As.imm i (As.either x).1.1, [], if (As.either x).1.2 = [] then 0 else 1, (As.either x).1.2, []⟩ (As.either x).2 from rfl
  have hel : (As.either x).2.p.length ≤ 1000000000 := by rw [As.either_len]; exact hl
  obtain ⟨op, rd, rs1, rs2, imm⟩ := i
  have hal : Below w.heap.size w (w.alloc (.cells #[.int .i64 op, .int .i64 rd, .int .i64 rs1, .int .i64 rs2, .int .i64 imm] 54)) := (Below.refl _ _).alloc (Nat.le_refl _) _
  have hbk := Bk.fresh w 54 #[.int .i64 op, .int .i64 rd, .int .i64 rs1, .int .i64 rs2, .int .i64 imm]
  have hlt := F8.tab_lt hT.1
  have hm3 := h.grow (N := fun k => k = w.heap.size) hal (fun k e => by subst e; exact ⟨Nat.le_refl _, hbk.lt⟩)
  have CE := Lib.hid (aeither_any hm3 ⟨(hT.kept hal).1, fun e => e.elim hT.2 (fun e => by omega)⟩ hsh)
  have HG := Lib.hid (show w.heap.size ≠ gx from fun e => absurd (h.lt _ h.gx) (by omega))
  have HGX := Lib.hid h.gx
  have HAL := Lib.hid hal
  have HBK := Lib.hid hbk
  have HP1 := Lib.hid HP0
  clear hal hbk h hT hsh hl hm3 HP0 hlt
  generalize As.either x = E at *
  obtain ⟨⟨n, nm⟩, x1⟩ := E
  dsimp only at CE HP1 hel
  have HL1 := Lib.hid (show (x1.p.length + 1) * 112 ≤ 140737488355328 by omega)
  have HL2 := Lib.hid (show x1.p.length + 1 ≤ maxLen by unfold maxLen; omega)
  clear hel
  go_enter Tryz.func236, Tryz.ntmps236
  go_wp2_with fail
  obtain ⟨W3, hW3⟩ : ∃ W3, w.alloc (.cells #[.int .i64 op, .int .i64 rd, .int .i64 rs1, .int .i64 rs2, .int .i64 imm] 54) = W3 := ⟨_, rfl⟩
  rw [hW3] at CE HAL HBK ⊢
  clear hW3
  go_at_call 240
  refine CE.out.mono ?_
  rintro e w1 ⟨rfl, hm1, fr1⟩
  have hbk1 : Bk w1 w.heap.size 54 _ := fr1.bk HBK.out HG.out
  have hbut := But.setCell w1 w.heap.size 4 (.int .i64 n)
  have HM4 := Lib.hid (hm1.other (.inr rfl) hbk1 (by decide) (by decide) hbut)
  have hbk4 : Bk (w1.setCell ⟨w.heap.size, 4, none⟩ (.int .i64 n)) w.heap.size 54 #[.int .i64 op, .int .i64 rd, .int .i64 rs1, .int .i64 rs2, .int .i64 n] := by
    have := hbk1.set 4 (.int .i64 n)
    simpa using this
  have HFR := Lib.hid (show Fr F w (w1.setCell ⟨w.heap.size, 4, none⟩ (.int .i64 n)) from ((Fr.of_below HAL.out).trans fr1 (fun j e => .inl (e ▸ HGX.out))).trans (Fr.of_but (F := fun k => k = w.heap.size) hbut rfl) (fun j e => .inr (by omega)))
  have c4 := hbk1.cell 4
  have f4 := hbk1.free 4
  have b0 := hbk4.cell 0
  have b1 := hbk4.cell 1
  have b2 := hbk4.cell 2
  have b3 := hbk4.cell 3
  have b4 := hbk4.cell 4
  clear hm1 fr1 hbk1 hbut hbk4
  by_cases hnm : nm = []
  · subst hnm
    have HP := Lib.hid (show As.to ⟨op, rd, rs1, rs2, imm⟩ x = As.put ⟨true, ⟨op, rd, rs1, rs2, n⟩, [], 0, [], []⟩ x1 from by rw [HP1.out, if_pos rfl]; rfl)
    go_wp2_with fail
    obtain ⟨W4, hW4⟩ : ∃ W4, w1.setCell ⟨w.heap.size, 4, none⟩ (.int .i64 n) = W4 := ⟨_, rfl⟩
    rw [hW4] at HM4 HFR b0 b1 b2 b3 b4 ⊢
    clear hW4 c4 f4
    obtain ⟨A, c, cs, k0, f0, hkk, ho1, hs1, hput⟩ := HM4.out.room ⟨true, ⟨op, rd, rs1, rs2, n⟩, [], 0, [], []⟩ (As.Rb.nil _ _) (As.Hi.nil _)
    dsimp only [As.cellsP] at ho1 hs1 hput
    have HO1 := Lib.hid ho1
    have HS1 := Lib.hid hs1
    have HPUT := Lib.hid hput
    have ka := hkk _ ((Below.refl _ _).alloc (Nat.le_refl _) (.cells #[.bool true, .int .i64 op, .int .i64 rd, .int .i64 rs1, .int .i64 rs2, .int .i64 n, .slice none 0 0, .int .i64 0, .string ⟨#[]⟩, .string ⟨#[]⟩] 203))
    clear hkk ho1 hs1 hput
    go_region_law (refine step_appendRB (by rfl) _ _ _ _ (by rfl) aprt (by decide) 0 (.slice A x1.p.length c) (by rfl) x1.p.length cs HO1.out _ (by rfl) 1 [.bool true, .int .i64 op, .int .i64 rd, .int .i64 rs1, .int .i64 rs2, .int .i64 n, .slice none 0 0, .int .i64 0, .string ⟨#[]⟩, .string ⟨#[]⟩] HS1.out HL1.out HL2.out (Nat.zero_le _) ?_; intro v3 w3 ho3 hb3 hg3 hv3; obtain ⟨⟨A3, c3, rfl⟩, k3, f3, HQ⟩ := HPUT.out v3 w3 ho3 hg3 hv3)
    all_goals go_wp2_with fail
    all_goals go_end0
    all_goals exact ⟨rfl, by rw [HP.out]; exact HQ.out.lift (fun k hk => hk.imp id (fun e => by omega)) HFR.out⟩
  · have hne : (nm != ([] : List UInt8)) = true := by simpa using hnm
    have hne2 : (!nm == ([] : List UInt8)) = true := by simpa using hnm
    have he2 : nm.isEmpty = false := by simpa using hnm
    have HP := Lib.hid (show As.to ⟨op, rd, rs1, rs2, imm⟩ x = As.put ⟨true, ⟨op, rd, rs1, rs2, n⟩, [], 1, nm, []⟩ x1 from by rw [HP1.out, if_neg hnm]; rfl)
    clear hnm
    go_wp2_with fail
    obtain ⟨W4, hW4⟩ : ∃ W4, w1.setCell ⟨w.heap.size, 4, none⟩ (.int .i64 n) = W4 := ⟨_, rfl⟩
    rw [hW4] at HM4 HFR b0 b1 b2 b3 b4 ⊢
    clear hW4 c4 f4
    obtain ⟨A, c, cs, k0, f0, hkk, ho1, hs1, hput⟩ := HM4.out.room ⟨true, ⟨op, rd, rs1, rs2, n⟩, [], 1, nm, []⟩ (As.Rb.nil _ _) (As.Hi.nil _)
    dsimp only [As.cellsP] at ho1 hs1 hput
    have HO1 := Lib.hid ho1
    have HS1 := Lib.hid hs1
    have HPUT := Lib.hid hput
    have ka := hkk _ ((Below.refl _ _).alloc (Nat.le_refl _) (.cells #[.bool true, .int .i64 op, .int .i64 rd, .int .i64 rs1, .int .i64 rs2, .int .i64 n, .slice none 0 0, .int .i64 1, .string ⟨nm.toArray⟩, .string ⟨#[]⟩] 203))
    clear hkk ho1 hs1 hput
    go_region_law (refine step_appendRB (by rfl) _ _ _ _ (by rfl) aprt (by decide) 0 (.slice A x1.p.length c) (by rfl) x1.p.length cs HO1.out _ (by rfl) 1 [.bool true, .int .i64 op, .int .i64 rd, .int .i64 rs1, .int .i64 rs2, .int .i64 n, .slice none 0 0, .int .i64 1, .string ⟨nm.toArray⟩, .string ⟨#[]⟩] HS1.out HL1.out HL2.out (Nat.zero_le _) ?_; intro v3 w3 ho3 hb3 hg3 hv3; obtain ⟨⟨A3, c3, rfl⟩, k3, f3, HQ⟩ := HPUT.out v3 w3 ho3 hg3 hv3)
    all_goals go_wp2_with fail
    all_goals go_end0
    all_goals exact ⟨rfl, by rw [HP.out]; exact HQ.out.lift (fun k hk => hk.imp id (fun e => by omega)) HFR.out⟩
end Go.Proofs.YtfafdkbnmfpbmaaGreatDoor
/- Layer 7: instructions by their names' numbers. -/
namespace Go.Proofs.YtfafdkbnmfpbmaaGreatDoor
open Go.RowKit Kit
set_option linter.unusedVariables false
set_option linter.unusedSimpArgs false

theorem As.Tb.fr {F : Nat → Prop} {w w' : World} (h : As.Tb F w) (hf : Fr F w w') : As.Tb F w' := ⟨As.tab_fr h.1 hf h.2, h.2⟩
theorem As.code_len (i : Is.Inst) (x : As.L) : (As.code i x).p.length = x.p.length + 1 := by simp [As.code, As.put]
theorem As.reg_len (x : As.L) : (As.reg x).2.p = x.p := by unfold As.reg As.next As.sat; dsimp only; split <;> rfl
theorem As.num_len (x : As.L) : (As.num x).2.p = x.p := by unfold As.num As.next As.sat; dsimp only; split <;> rfl
theorem As.name_len (x : As.L) : (As.name x).2.p = x.p := by unfold As.name As.next As.sat; dsimp only; split <;> rfl
set_option maxRecDepth 20000 in
theorem anumber_any {F : Nat → Prop} {w : World} {gx : Nat} {x : As.L} (h : As.Mk F w gx x) (d n : Int) (h1 : -2147483648 ≤ n) (h2 : n ≤ 4294967295) (hl : x.p.length ≤ 900000000) :
    Calls Tryz.prog 238 #[.pointer (some ⟨gx, 0, none⟩), .int .i64 d, .int .i64 n] w fun e w' => e = .returned (.tuple #[]) ∧ As.To F w gx (As.number d n x) w' := by
  have CA := Lib.hid (acode_any h ⟨18, d, 0, 0, n⟩ (by omega))
  have CB := Lib.hid (acode_any h ⟨0, d, 0, 0, As.hi n⟩ (by omega))
  have CC := Lib.hid (fun F1 w1 (h1 : As.Mk F1 w1 gx (As.code ⟨0, d, 0, 0, As.hi n⟩ x)) => acode_any h1 ⟨18, d, d, 0, As.lo n⟩ (by rw [As.code_len]; omega))
  have CH := Lib.hid (fun W => ahalves_any n W h1 h2)
  by_cases hb : -2048 ≤ n
  · by_cases hc : n < 2048
    · have HP := Lib.hid (show As.number d n x = As.code ⟨18, d, 0, 0, n⟩ x from by unfold As.number; rw [if_pos ⟨hb, hc⟩])
      clear h h1 h2 hl
      go_enter Tryz.func238, Tryz.ntmps238
      go_wp2_with (go_at_call 237; refine CA.out.mono ?_; rintro e w1 ⟨rfl, k1⟩)
      first | go_end0 | refine bodyPost_ret (results_none rfl _ _ _) rfl ?_
      exact ⟨rfl, by rw [HP.out]; exact k1⟩
    · have HP := Lib.hid (show As.number d n x = As.code ⟨18, d, d, 0, As.lo n⟩ (As.code ⟨0, d, 0, 0, As.hi n⟩ x) from by unfold As.number; rw [if_neg (fun e => hc e.2)])
      have hc' : ¬ n < 2048 := hc
      clear h h1 h2 hl
      go_enter Tryz.func238, Tryz.ntmps238
      go_wp2_with (go_at_call 167; refine (CH.out _).mono ?_; rintro e w' ⟨rfl, rfl⟩)
      go_at_call 237
      refine CB.out.mono ?_
      rintro e w1 ⟨rfl, F1, m1, s1⟩
      go_wp2_with fail
      go_at_call 237
      refine (CC.out _ _ m1).mono ?_
      rintro e w2 ⟨rfl, k2⟩
      go_wp2_with fail
      first | go_end0 | refine bodyPost_ret (results_none rfl _ _ _) rfl ?_
      exact ⟨rfl, by rw [HP.out]; exact k2.after s1⟩
  · have HP := Lib.hid (show As.number d n x = As.code ⟨18, d, d, 0, As.lo n⟩ (As.code ⟨0, d, 0, 0, As.hi n⟩ x) from by unfold As.number; rw [if_neg (fun e => hb e.1)])
    have hb' : ¬ -2048 ≤ n := hb
    clear h h1 h2 hl
    go_enter Tryz.func238, Tryz.ntmps238
    go_wp2_with (go_at_call 167; refine (CH.out _).mono ?_; rintro e w' ⟨rfl, rfl⟩)
    go_at_call 237
    refine CB.out.mono ?_
    rintro e w1 ⟨rfl, F1, m1, s1⟩
    go_wp2_with fail
    go_at_call 237
    refine (CC.out _ _ m1).mono ?_
    rintro e w2 ⟨rfl, k2⟩
    go_wp2_with fail
    first | go_end0 | refine bodyPost_ret (results_none rfl _ _ _) rfl ?_
    exact ⟨rfl, by rw [HP.out]; exact k2.after s1⟩
/-- A record in a box that is set apart, beside the line. -/
structure As.Bx (F F3 : Nat → Prop) (w : World) (gx : Nat) (W : World) (x : As.L) (cs : Array Value) : Prop where
  m : As.Mk F3 W gx x
  bk : Bk W w.heap.size 54 cs
  tb : As.Tb F3 W
  fr : Fr F w W
  ne : w.heap.size ≠ gx
  ap : F3 w.heap.size
  f3 : ∀ k, F3 k → F k ∨ w.heap.size ≤ k
  gx : F gx
theorem As.Bx.start {F : Nat → Prop} {w : World} {gx : Nat} {x : As.L} (h : As.Mk F w gx x) (hT : As.Tb F w) (cs : Array Value) : As.Bx F (fun k => F k ∨ k = w.heap.size) w gx (w.alloc (.cells cs 54)) x cs := by
  have hal : Below w.heap.size w (w.alloc (.cells cs 54)) := (Below.refl _ _).alloc (Nat.le_refl _) _
  have hbk := Bk.fresh w 54 cs
  have hlt := F8.tab_lt hT.1
  exact ⟨h.grow (N := fun k => k = w.heap.size) hal (fun k e => by subst e; exact ⟨Nat.le_refl _, hbk.lt⟩), hbk, ⟨(hT.kept hal).1, fun e => e.elim hT.2 (fun e => by omega)⟩, Fr.of_below hal, fun e => absurd (h.lt _ h.gx) (by omega), .inr rfl, fun k hk => hk.imp id (fun e => by omega), h.gx⟩
/-- A word is read, a field is set. -/
theorem As.Bx.step {F F3 : Nat → Prop} {w W w' : World} {gx : Nat} {x x' : As.L} {cs : Array Value} (b : As.Bx F F3 w gx W x cs) (g : As.Go F3 W gx x' w') (k : Nat) (u : Value) :
    w'.cell? ⟨w.heap.size, k, none⟩ = cs[k]? ∧ w'.frozen? ⟨w.heap.size, k, none⟩ = false ∧ Hid (As.Bx F F3 w gx (w'.setCell ⟨w.heap.size, k, none⟩ u) x' (cs.setIfInBounds k u)) := by
  have hbk : Bk w' w.heap.size 54 cs := g.2.bk b.bk b.ne
  have hbut := But.setCell w' w.heap.size k u
  have h1 : Fr F3 W w' := g.2.mono (fun j e => e ▸ b.m.gx)
  have h2 : Fr F3 w' (w'.setCell ⟨w.heap.size, k, none⟩ u) := Fr.of_but hbut b.ap
  exact ⟨hbk.cell k, hbk.free k, Lib.hid ⟨g.1.other b.ap hbk (by decide) (by decide) hbut, hbk.set k u, (b.tb.fr h1).fr h2, (b.fr.trans g.2 (fun j e => .inl (e ▸ b.gx))).trans (Fr.of_but (F := fun j => j = w.heap.size) hbut rfl) (fun j e => .inr (by omega)), b.ne, b.ap, b.f3, b.gx⟩⟩
theorem As.Bx.done {F F3 : Nat → Prop} {w W w' : World} {gx : Nat} {x x' : As.L} {cs : Array Value} (b : As.Bx F F3 w gx W x cs) (h : As.To F3 W gx x' w') : As.To F w gx x' w' := h.lift b.f3 b.fr
set_option maxRecDepth 100000 in
set_option maxHeartbeats 8000000 in
theorem ainst_any {F : Nat → Prop} {w : World} {gx : Nat} {x : As.L} (h : As.Mk F w gx x) (hT : As.Tb F w) (hsh : As.Short x.l) (op : Int) (hl : x.p.length ≤ 900000000) :
    Calls Tryz.prog 164 #[.pointer (some ⟨gx, 0, none⟩), .int .i64 op] w fun e w' => e = .returned (.tuple #[]) ∧ As.To F w gx (As.inst op x) w' := by
  have HB0 := Lib.hid (As.Bx.start h hT #[.int .i64 op, .int .i64 0, .int .i64 0, .int .i64 0, .int .i64 0])
  have HSH := Lib.hid hsh
  have HL := Lib.hid hl
  have CS := Lib.hid (fun W => shape_own op W)
  rcases Is.shape_cases op with hs | hs | hs | hs | hs | hs | hs | hs | hs | hs
  · by_cases ho : op ≤ 14
    · have HP := Lib.hid (show As.inst op x = As.code ⟨op, ((As.reg x).1), ((As.reg (As.num (As.reg x).2).2).1), 0, (As.num (As.reg x).2).1⟩ (As.reg (As.num (As.reg x).2).2).2 from by unfold As.inst; rw [if_neg (by rw [hs]; decide), if_neg (by rw [hs]; decide), if_neg (by rw [hs]; decide), if_neg (by rw [hs]; decide), if_neg (by rw [hs]; decide), if_neg (by rw [hs]; decide), if_neg (by rw [hs]; decide), if_pos ho])
      rw [hs] at CS
      clear h hT hsh hl hs
      go_enter Tryz.func164, Tryz.ntmps164
      go_wp2_with (go_at_call 68; refine (CS.out _).mono ?_; rintro e w' ⟨rfl, rfl⟩)
      obtain ⟨W0, hW0⟩ : ∃ W0, w.alloc (.cells #[.int .i64 op, .int .i64 0, .int .i64 0, .int .i64 0, .int .i64 0] 54) = W0 := ⟨_, rfl⟩
      rw [hW0] at HB0 ⊢
      clear hW0
      go_at_call 234
      refine (areg_any HB0.out.m HB0.out.tb HSH.out).mono ?_
      rintro e w1 ⟨rfl, hg1⟩
      obtain ⟨c1, f1, hb1⟩ := HB0.out.step hg1 1 (.int .i64 ((As.reg x).1 : Nat))
      have HSH1 := Lib.hid (show As.Short (As.reg x).2.l from HSH.out.reg)
      simp only [List.getElem?_toArray, List.getElem?_cons_zero, List.getElem?_cons_succ] at c1
      replace hb1 := Lib.hid (show As.Bx F _ w gx (w1.setCell ⟨w.heap.size, 1, none⟩ (.int .i64 ((As.reg x).1 : Nat))) (As.reg x).2 #[.int .i64 op, .int .i64 ((As.reg x).1 : Nat), .int .i64 0, .int .i64 0, .int .i64 0] from by simpa using hb1.out)
      clear hg1
      go_wp2_with fail
      obtain ⟨W1, hW1⟩ : ∃ W1, w1.setCell ⟨w.heap.size, 1, none⟩ (.int .i64 ((As.reg x).1 : Nat)) = W1 := ⟨_, rfl⟩
      rw [hW1] at hb1 ⊢
      have HB1 := Lib.hid hb1.out
      clear hW1 hb1 c1 f1
      go_at_call 235
      refine (anum_any HB1.out.m HB1.out.tb HSH1.out).mono ?_
      rintro e w2 ⟨rfl, hg2⟩
      obtain ⟨c2, f2, hb2⟩ := HB1.out.step hg2 4 (.int .i64 (As.num (As.reg x).2).1)
      have HSH2 := Lib.hid (show As.Short (As.num (As.reg x).2).2.l from HSH1.out.num)
      simp only [List.getElem?_toArray, List.getElem?_cons_zero, List.getElem?_cons_succ] at c2
      replace hb2 := Lib.hid (show As.Bx F _ w gx (w2.setCell ⟨w.heap.size, 4, none⟩ (.int .i64 (As.num (As.reg x).2).1)) (As.num (As.reg x).2).2 #[.int .i64 op, .int .i64 ((As.reg x).1 : Nat), .int .i64 0, .int .i64 0, .int .i64 (As.num (As.reg x).2).1] from by simpa using hb2.out)
      clear hg2
      go_wp2_with fail
      obtain ⟨W2, hW2⟩ : ∃ W2, w2.setCell ⟨w.heap.size, 4, none⟩ (.int .i64 (As.num (As.reg x).2).1) = W2 := ⟨_, rfl⟩
      rw [hW2] at hb2 ⊢
      have HB2 := Lib.hid hb2.out
      clear hW2 hb2 c2 f2
      go_at_call 234
      refine (areg_any HB2.out.m HB2.out.tb HSH2.out).mono ?_
      rintro e w3 ⟨rfl, hg3⟩
      obtain ⟨c3, f3, hb3⟩ := HB2.out.step hg3 2 (.int .i64 ((As.reg (As.num (As.reg x).2).2).1 : Nat))
      have HSH3 := Lib.hid (show As.Short (As.reg (As.num (As.reg x).2).2).2.l from HSH2.out.reg)
      simp only [List.getElem?_toArray, List.getElem?_cons_zero, List.getElem?_cons_succ] at c3
      replace hb3 := Lib.hid (show As.Bx F _ w gx (w3.setCell ⟨w.heap.size, 2, none⟩ (.int .i64 ((As.reg (As.num (As.reg x).2).2).1 : Nat))) (As.reg (As.num (As.reg x).2).2).2 #[.int .i64 op, .int .i64 ((As.reg x).1 : Nat), .int .i64 ((As.reg (As.num (As.reg x).2).2).1 : Nat), .int .i64 0, .int .i64 (As.num (As.reg x).2).1] from by simpa using hb3.out)
      have b0 := hb3.out.bk.cell 0
      have b1 := hb3.out.bk.cell 1
      have b2 := hb3.out.bk.cell 2
      have b3 := hb3.out.bk.cell 3
      have b4 := hb3.out.bk.cell 4
      simp only [List.getElem?_toArray, List.getElem?_cons_zero, List.getElem?_cons_succ] at b0 b1 b2 b3 b4
      clear hg3
      go_wp2_with fail
      obtain ⟨W3, hW3⟩ : ∃ W3, w3.setCell ⟨w.heap.size, 2, none⟩ (.int .i64 ((As.reg (As.num (As.reg x).2).2).1 : Nat)) = W3 := ⟨_, rfl⟩
      rw [hW3] at hb3 ⊢
      have HB3 := Lib.hid hb3.out
      clear hW3 hb3 c3 f3 b0 b1 b2 b3 b4
      go_at_call 237
      refine (acode_any HB3.out.m ⟨op, ((As.reg x).1), ((As.reg (As.num (As.reg x).2).2).1), 0, (As.num (As.reg x).2).1⟩ (by simp only [As.reg_len, As.num_len]; have := HL.out; omega)).mono ?_
      rintro e wz ⟨rfl, hto⟩
      go_wp2_with fail
      first | go_end0 | refine bodyPost_ret (results_none rfl _ _ _) rfl ?_
      exact ⟨rfl, by rw [HP.out]; exact HB3.out.done hto⟩
    · have HP := Lib.hid (show As.inst op x = As.code ⟨op, ((As.reg x).1), ((As.reg (As.reg x).2).1), 0, (As.num (As.reg (As.reg x).2).2).1⟩ (As.num (As.reg (As.reg x).2).2).2 from by unfold As.inst; rw [if_neg (by rw [hs]; decide), if_neg (by rw [hs]; decide), if_neg (by rw [hs]; decide), if_neg (by rw [hs]; decide), if_neg (by rw [hs]; decide), if_neg (by rw [hs]; decide), if_neg (by rw [hs]; decide), if_neg ho])
      rw [hs] at CS
      clear h hT hsh hl hs
      go_enter Tryz.func164, Tryz.ntmps164
      go_wp2_with (go_at_call 68; refine (CS.out _).mono ?_; rintro e w' ⟨rfl, rfl⟩)
      obtain ⟨W0, hW0⟩ : ∃ W0, w.alloc (.cells #[.int .i64 op, .int .i64 0, .int .i64 0, .int .i64 0, .int .i64 0] 54) = W0 := ⟨_, rfl⟩
      rw [hW0] at HB0 ⊢
      clear hW0
      go_at_call 234
      refine (areg_any HB0.out.m HB0.out.tb HSH.out).mono ?_
      rintro e w1 ⟨rfl, hg1⟩
      obtain ⟨c1, f1, hb1⟩ := HB0.out.step hg1 1 (.int .i64 ((As.reg x).1 : Nat))
      have HSH1 := Lib.hid (show As.Short (As.reg x).2.l from HSH.out.reg)
      simp only [List.getElem?_toArray, List.getElem?_cons_zero, List.getElem?_cons_succ] at c1
      replace hb1 := Lib.hid (show As.Bx F _ w gx (w1.setCell ⟨w.heap.size, 1, none⟩ (.int .i64 ((As.reg x).1 : Nat))) (As.reg x).2 #[.int .i64 op, .int .i64 ((As.reg x).1 : Nat), .int .i64 0, .int .i64 0, .int .i64 0] from by simpa using hb1.out)
      clear hg1
      go_wp2_with fail
      obtain ⟨W1, hW1⟩ : ∃ W1, w1.setCell ⟨w.heap.size, 1, none⟩ (.int .i64 ((As.reg x).1 : Nat)) = W1 := ⟨_, rfl⟩
      rw [hW1] at hb1 ⊢
      have HB1 := Lib.hid hb1.out
      clear hW1 hb1 c1 f1
      go_at_call 234
      refine (areg_any HB1.out.m HB1.out.tb HSH1.out).mono ?_
      rintro e w2 ⟨rfl, hg2⟩
      obtain ⟨c2, f2, hb2⟩ := HB1.out.step hg2 2 (.int .i64 ((As.reg (As.reg x).2).1 : Nat))
      have HSH2 := Lib.hid (show As.Short (As.reg (As.reg x).2).2.l from HSH1.out.reg)
      simp only [List.getElem?_toArray, List.getElem?_cons_zero, List.getElem?_cons_succ] at c2
      replace hb2 := Lib.hid (show As.Bx F _ w gx (w2.setCell ⟨w.heap.size, 2, none⟩ (.int .i64 ((As.reg (As.reg x).2).1 : Nat))) (As.reg (As.reg x).2).2 #[.int .i64 op, .int .i64 ((As.reg x).1 : Nat), .int .i64 ((As.reg (As.reg x).2).1 : Nat), .int .i64 0, .int .i64 0] from by simpa using hb2.out)
      clear hg2
      go_wp2_with fail
      obtain ⟨W2, hW2⟩ : ∃ W2, w2.setCell ⟨w.heap.size, 2, none⟩ (.int .i64 ((As.reg (As.reg x).2).1 : Nat)) = W2 := ⟨_, rfl⟩
      rw [hW2] at hb2 ⊢
      have HB2 := Lib.hid hb2.out
      clear hW2 hb2 c2 f2
      go_at_call 235
      refine (anum_any HB2.out.m HB2.out.tb HSH2.out).mono ?_
      rintro e w3 ⟨rfl, hg3⟩
      obtain ⟨c3, f3, hb3⟩ := HB2.out.step hg3 4 (.int .i64 (As.num (As.reg (As.reg x).2).2).1)
      have HSH3 := Lib.hid (show As.Short (As.num (As.reg (As.reg x).2).2).2.l from HSH2.out.num)
      simp only [List.getElem?_toArray, List.getElem?_cons_zero, List.getElem?_cons_succ] at c3
      replace hb3 := Lib.hid (show As.Bx F _ w gx (w3.setCell ⟨w.heap.size, 4, none⟩ (.int .i64 (As.num (As.reg (As.reg x).2).2).1)) (As.num (As.reg (As.reg x).2).2).2 #[.int .i64 op, .int .i64 ((As.reg x).1 : Nat), .int .i64 ((As.reg (As.reg x).2).1 : Nat), .int .i64 0, .int .i64 (As.num (As.reg (As.reg x).2).2).1] from by simpa using hb3.out)
      have b0 := hb3.out.bk.cell 0
      have b1 := hb3.out.bk.cell 1
      have b2 := hb3.out.bk.cell 2
      have b3 := hb3.out.bk.cell 3
      have b4 := hb3.out.bk.cell 4
      simp only [List.getElem?_toArray, List.getElem?_cons_zero, List.getElem?_cons_succ] at b0 b1 b2 b3 b4
      clear hg3
      go_wp2_with fail
      obtain ⟨W3, hW3⟩ : ∃ W3, w3.setCell ⟨w.heap.size, 4, none⟩ (.int .i64 (As.num (As.reg (As.reg x).2).2).1) = W3 := ⟨_, rfl⟩
      rw [hW3] at hb3 ⊢
      have HB3 := Lib.hid hb3.out
      clear hW3 hb3 c3 f3 b0 b1 b2 b3 b4
      go_at_call 237
      refine (acode_any HB3.out.m ⟨op, ((As.reg x).1), ((As.reg (As.reg x).2).1), 0, (As.num (As.reg (As.reg x).2).2).1⟩ (by simp only [As.reg_len, As.num_len]; have := HL.out; omega)).mono ?_
      rintro e wz ⟨rfl, hto⟩
      go_wp2_with fail
      first | go_end0 | refine bodyPost_ret (results_none rfl _ _ _) rfl ?_
      exact ⟨rfl, by rw [HP.out]; exact HB3.out.done hto⟩
  · have HP := Lib.hid (show As.inst op x = As.code ⟨op, ((As.reg x).1), 0, 0, (As.num (As.reg x).2).1⟩ (As.num (As.reg x).2).2 from by unfold As.inst; rw [if_pos hs])
    rw [hs] at CS
    clear h hT hsh hl hs
    go_enter Tryz.func164, Tryz.ntmps164
    go_wp2_with (go_at_call 68; refine (CS.out _).mono ?_; rintro e w' ⟨rfl, rfl⟩)
    obtain ⟨W0, hW0⟩ : ∃ W0, w.alloc (.cells #[.int .i64 op, .int .i64 0, .int .i64 0, .int .i64 0, .int .i64 0] 54) = W0 := ⟨_, rfl⟩
    rw [hW0] at HB0 ⊢
    clear hW0
    go_at_call 234
    refine (areg_any HB0.out.m HB0.out.tb HSH.out).mono ?_
    rintro e w1 ⟨rfl, hg1⟩
    obtain ⟨c1, f1, hb1⟩ := HB0.out.step hg1 1 (.int .i64 ((As.reg x).1 : Nat))
    have HSH1 := Lib.hid (show As.Short (As.reg x).2.l from HSH.out.reg)
    simp only [List.getElem?_toArray, List.getElem?_cons_zero, List.getElem?_cons_succ] at c1
    replace hb1 := Lib.hid (show As.Bx F _ w gx (w1.setCell ⟨w.heap.size, 1, none⟩ (.int .i64 ((As.reg x).1 : Nat))) (As.reg x).2 #[.int .i64 op, .int .i64 ((As.reg x).1 : Nat), .int .i64 0, .int .i64 0, .int .i64 0] from by simpa using hb1.out)
    clear hg1
    go_wp2_with fail
    obtain ⟨W1, hW1⟩ : ∃ W1, w1.setCell ⟨w.heap.size, 1, none⟩ (.int .i64 ((As.reg x).1 : Nat)) = W1 := ⟨_, rfl⟩
    rw [hW1] at hb1 ⊢
    have HB1 := Lib.hid hb1.out
    clear hW1 hb1 c1 f1
    go_at_call 235
    refine (anum_any HB1.out.m HB1.out.tb HSH1.out).mono ?_
    rintro e w2 ⟨rfl, hg2⟩
    obtain ⟨c2, f2, hb2⟩ := HB1.out.step hg2 4 (.int .i64 (As.num (As.reg x).2).1)
    have HSH2 := Lib.hid (show As.Short (As.num (As.reg x).2).2.l from HSH1.out.num)
    simp only [List.getElem?_toArray, List.getElem?_cons_zero, List.getElem?_cons_succ] at c2
    replace hb2 := Lib.hid (show As.Bx F _ w gx (w2.setCell ⟨w.heap.size, 4, none⟩ (.int .i64 (As.num (As.reg x).2).1)) (As.num (As.reg x).2).2 #[.int .i64 op, .int .i64 ((As.reg x).1 : Nat), .int .i64 0, .int .i64 0, .int .i64 (As.num (As.reg x).2).1] from by simpa using hb2.out)
    have b0 := hb2.out.bk.cell 0
    have b1 := hb2.out.bk.cell 1
    have b2 := hb2.out.bk.cell 2
    have b3 := hb2.out.bk.cell 3
    have b4 := hb2.out.bk.cell 4
    simp only [List.getElem?_toArray, List.getElem?_cons_zero, List.getElem?_cons_succ] at b0 b1 b2 b3 b4
    clear hg2
    go_wp2_with fail
    obtain ⟨W2, hW2⟩ : ∃ W2, w2.setCell ⟨w.heap.size, 4, none⟩ (.int .i64 (As.num (As.reg x).2).1) = W2 := ⟨_, rfl⟩
    rw [hW2] at hb2 ⊢
    have HB2 := Lib.hid hb2.out
    clear hW2 hb2 c2 f2 b0 b1 b2 b3 b4
    go_at_call 237
    refine (acode_any HB2.out.m ⟨op, ((As.reg x).1), 0, 0, (As.num (As.reg x).2).1⟩ (by simp only [As.reg_len, As.num_len]; have := HL.out; omega)).mono ?_
    rintro e wz ⟨rfl, hto⟩
    go_wp2_with fail
    first | go_end0 | refine bodyPost_ret (results_none rfl _ _ _) rfl ?_
    exact ⟨rfl, by rw [HP.out]; exact HB2.out.done hto⟩
  · have HP := Lib.hid (show As.inst op x = As.to ⟨op, ((As.reg x).1), 0, 0, 0⟩ (As.reg x).2 from by unfold As.inst; rw [if_neg (by rw [hs]; decide), if_pos hs])
    rw [hs] at CS
    clear h hT hsh hl hs
    go_enter Tryz.func164, Tryz.ntmps164
    go_wp2_with (go_at_call 68; refine (CS.out _).mono ?_; rintro e w' ⟨rfl, rfl⟩)
    obtain ⟨W0, hW0⟩ : ∃ W0, w.alloc (.cells #[.int .i64 op, .int .i64 0, .int .i64 0, .int .i64 0, .int .i64 0] 54) = W0 := ⟨_, rfl⟩
    rw [hW0] at HB0 ⊢
    clear hW0
    go_at_call 234
    refine (areg_any HB0.out.m HB0.out.tb HSH.out).mono ?_
    rintro e w1 ⟨rfl, hg1⟩
    obtain ⟨c1, f1, hb1⟩ := HB0.out.step hg1 1 (.int .i64 ((As.reg x).1 : Nat))
    have HSH1 := Lib.hid (show As.Short (As.reg x).2.l from HSH.out.reg)
    simp only [List.getElem?_toArray, List.getElem?_cons_zero, List.getElem?_cons_succ] at c1
    replace hb1 := Lib.hid (show As.Bx F _ w gx (w1.setCell ⟨w.heap.size, 1, none⟩ (.int .i64 ((As.reg x).1 : Nat))) (As.reg x).2 #[.int .i64 op, .int .i64 ((As.reg x).1 : Nat), .int .i64 0, .int .i64 0, .int .i64 0] from by simpa using hb1.out)
    have b0 := hb1.out.bk.cell 0
    have b1 := hb1.out.bk.cell 1
    have b2 := hb1.out.bk.cell 2
    have b3 := hb1.out.bk.cell 3
    have b4 := hb1.out.bk.cell 4
    simp only [List.getElem?_toArray, List.getElem?_cons_zero, List.getElem?_cons_succ] at b0 b1 b2 b3 b4
    clear hg1
    go_wp2_with fail
    obtain ⟨W1, hW1⟩ : ∃ W1, w1.setCell ⟨w.heap.size, 1, none⟩ (.int .i64 ((As.reg x).1 : Nat)) = W1 := ⟨_, rfl⟩
    rw [hW1] at hb1 ⊢
    have HB1 := Lib.hid hb1.out
    clear hW1 hb1 c1 f1 b0 b1 b2 b3 b4
    go_at_call 236
    refine (ato_any HB1.out.m HB1.out.tb HSH1.out ⟨op, ((As.reg x).1), 0, 0, 0⟩ (by simp only [As.reg_len, As.num_len]; have := HL.out; omega)).mono ?_
    rintro e wz ⟨rfl, hto⟩
    go_wp2_with fail
    first | go_end0 | refine bodyPost_ret (results_none rfl _ _ _) rfl ?_
    exact ⟨rfl, by rw [HP.out]; exact HB1.out.done hto⟩
  · by_cases ho : op ≤ 14
    · have HP := Lib.hid (show As.inst op x = As.code ⟨op, ((As.reg x).1), ((As.reg (As.num (As.reg x).2).2).1), 0, (As.num (As.reg x).2).1⟩ (As.reg (As.num (As.reg x).2).2).2 from by unfold As.inst; rw [if_neg (by rw [hs]; decide), if_neg (by rw [hs]; decide), if_neg (by rw [hs]; decide), if_neg (by rw [hs]; decide), if_neg (by rw [hs]; decide), if_neg (by rw [hs]; decide), if_neg (by rw [hs]; decide), if_pos ho])
      rw [hs] at CS
      clear h hT hsh hl hs
      go_enter Tryz.func164, Tryz.ntmps164
      go_wp2_with (go_at_call 68; refine (CS.out _).mono ?_; rintro e w' ⟨rfl, rfl⟩)
      obtain ⟨W0, hW0⟩ : ∃ W0, w.alloc (.cells #[.int .i64 op, .int .i64 0, .int .i64 0, .int .i64 0, .int .i64 0] 54) = W0 := ⟨_, rfl⟩
      rw [hW0] at HB0 ⊢
      clear hW0
      go_at_call 234
      refine (areg_any HB0.out.m HB0.out.tb HSH.out).mono ?_
      rintro e w1 ⟨rfl, hg1⟩
      obtain ⟨c1, f1, hb1⟩ := HB0.out.step hg1 1 (.int .i64 ((As.reg x).1 : Nat))
      have HSH1 := Lib.hid (show As.Short (As.reg x).2.l from HSH.out.reg)
      simp only [List.getElem?_toArray, List.getElem?_cons_zero, List.getElem?_cons_succ] at c1
      replace hb1 := Lib.hid (show As.Bx F _ w gx (w1.setCell ⟨w.heap.size, 1, none⟩ (.int .i64 ((As.reg x).1 : Nat))) (As.reg x).2 #[.int .i64 op, .int .i64 ((As.reg x).1 : Nat), .int .i64 0, .int .i64 0, .int .i64 0] from by simpa using hb1.out)
      clear hg1
      go_wp2_with fail
      obtain ⟨W1, hW1⟩ : ∃ W1, w1.setCell ⟨w.heap.size, 1, none⟩ (.int .i64 ((As.reg x).1 : Nat)) = W1 := ⟨_, rfl⟩
      rw [hW1] at hb1 ⊢
      have HB1 := Lib.hid hb1.out
      clear hW1 hb1 c1 f1
      go_at_call 235
      refine (anum_any HB1.out.m HB1.out.tb HSH1.out).mono ?_
      rintro e w2 ⟨rfl, hg2⟩
      obtain ⟨c2, f2, hb2⟩ := HB1.out.step hg2 4 (.int .i64 (As.num (As.reg x).2).1)
      have HSH2 := Lib.hid (show As.Short (As.num (As.reg x).2).2.l from HSH1.out.num)
      simp only [List.getElem?_toArray, List.getElem?_cons_zero, List.getElem?_cons_succ] at c2
      replace hb2 := Lib.hid (show As.Bx F _ w gx (w2.setCell ⟨w.heap.size, 4, none⟩ (.int .i64 (As.num (As.reg x).2).1)) (As.num (As.reg x).2).2 #[.int .i64 op, .int .i64 ((As.reg x).1 : Nat), .int .i64 0, .int .i64 0, .int .i64 (As.num (As.reg x).2).1] from by simpa using hb2.out)
      clear hg2
      go_wp2_with fail
      obtain ⟨W2, hW2⟩ : ∃ W2, w2.setCell ⟨w.heap.size, 4, none⟩ (.int .i64 (As.num (As.reg x).2).1) = W2 := ⟨_, rfl⟩
      rw [hW2] at hb2 ⊢
      have HB2 := Lib.hid hb2.out
      clear hW2 hb2 c2 f2
      go_at_call 234
      refine (areg_any HB2.out.m HB2.out.tb HSH2.out).mono ?_
      rintro e w3 ⟨rfl, hg3⟩
      obtain ⟨c3, f3, hb3⟩ := HB2.out.step hg3 2 (.int .i64 ((As.reg (As.num (As.reg x).2).2).1 : Nat))
      have HSH3 := Lib.hid (show As.Short (As.reg (As.num (As.reg x).2).2).2.l from HSH2.out.reg)
      simp only [List.getElem?_toArray, List.getElem?_cons_zero, List.getElem?_cons_succ] at c3
      replace hb3 := Lib.hid (show As.Bx F _ w gx (w3.setCell ⟨w.heap.size, 2, none⟩ (.int .i64 ((As.reg (As.num (As.reg x).2).2).1 : Nat))) (As.reg (As.num (As.reg x).2).2).2 #[.int .i64 op, .int .i64 ((As.reg x).1 : Nat), .int .i64 ((As.reg (As.num (As.reg x).2).2).1 : Nat), .int .i64 0, .int .i64 (As.num (As.reg x).2).1] from by simpa using hb3.out)
      have b0 := hb3.out.bk.cell 0
      have b1 := hb3.out.bk.cell 1
      have b2 := hb3.out.bk.cell 2
      have b3 := hb3.out.bk.cell 3
      have b4 := hb3.out.bk.cell 4
      simp only [List.getElem?_toArray, List.getElem?_cons_zero, List.getElem?_cons_succ] at b0 b1 b2 b3 b4
      clear hg3
      go_wp2_with fail
      obtain ⟨W3, hW3⟩ : ∃ W3, w3.setCell ⟨w.heap.size, 2, none⟩ (.int .i64 ((As.reg (As.num (As.reg x).2).2).1 : Nat)) = W3 := ⟨_, rfl⟩
      rw [hW3] at hb3 ⊢
      have HB3 := Lib.hid hb3.out
      clear hW3 hb3 c3 f3 b0 b1 b2 b3 b4
      go_at_call 237
      refine (acode_any HB3.out.m ⟨op, ((As.reg x).1), ((As.reg (As.num (As.reg x).2).2).1), 0, (As.num (As.reg x).2).1⟩ (by simp only [As.reg_len, As.num_len]; have := HL.out; omega)).mono ?_
      rintro e wz ⟨rfl, hto⟩
      go_wp2_with fail
      first | go_end0 | refine bodyPost_ret (results_none rfl _ _ _) rfl ?_
      exact ⟨rfl, by rw [HP.out]; exact HB3.out.done hto⟩
    · have HP := Lib.hid (show As.inst op x = As.code ⟨op, ((As.reg x).1), ((As.reg (As.reg x).2).1), 0, (As.num (As.reg (As.reg x).2).2).1⟩ (As.num (As.reg (As.reg x).2).2).2 from by unfold As.inst; rw [if_neg (by rw [hs]; decide), if_neg (by rw [hs]; decide), if_neg (by rw [hs]; decide), if_neg (by rw [hs]; decide), if_neg (by rw [hs]; decide), if_neg (by rw [hs]; decide), if_neg (by rw [hs]; decide), if_neg ho])
      rw [hs] at CS
      clear h hT hsh hl hs
      go_enter Tryz.func164, Tryz.ntmps164
      go_wp2_with (go_at_call 68; refine (CS.out _).mono ?_; rintro e w' ⟨rfl, rfl⟩)
      obtain ⟨W0, hW0⟩ : ∃ W0, w.alloc (.cells #[.int .i64 op, .int .i64 0, .int .i64 0, .int .i64 0, .int .i64 0] 54) = W0 := ⟨_, rfl⟩
      rw [hW0] at HB0 ⊢
      clear hW0
      go_at_call 234
      refine (areg_any HB0.out.m HB0.out.tb HSH.out).mono ?_
      rintro e w1 ⟨rfl, hg1⟩
      obtain ⟨c1, f1, hb1⟩ := HB0.out.step hg1 1 (.int .i64 ((As.reg x).1 : Nat))
      have HSH1 := Lib.hid (show As.Short (As.reg x).2.l from HSH.out.reg)
      simp only [List.getElem?_toArray, List.getElem?_cons_zero, List.getElem?_cons_succ] at c1
      replace hb1 := Lib.hid (show As.Bx F _ w gx (w1.setCell ⟨w.heap.size, 1, none⟩ (.int .i64 ((As.reg x).1 : Nat))) (As.reg x).2 #[.int .i64 op, .int .i64 ((As.reg x).1 : Nat), .int .i64 0, .int .i64 0, .int .i64 0] from by simpa using hb1.out)
      clear hg1
      go_wp2_with fail
      obtain ⟨W1, hW1⟩ : ∃ W1, w1.setCell ⟨w.heap.size, 1, none⟩ (.int .i64 ((As.reg x).1 : Nat)) = W1 := ⟨_, rfl⟩
      rw [hW1] at hb1 ⊢
      have HB1 := Lib.hid hb1.out
      clear hW1 hb1 c1 f1
      go_at_call 234
      refine (areg_any HB1.out.m HB1.out.tb HSH1.out).mono ?_
      rintro e w2 ⟨rfl, hg2⟩
      obtain ⟨c2, f2, hb2⟩ := HB1.out.step hg2 2 (.int .i64 ((As.reg (As.reg x).2).1 : Nat))
      have HSH2 := Lib.hid (show As.Short (As.reg (As.reg x).2).2.l from HSH1.out.reg)
      simp only [List.getElem?_toArray, List.getElem?_cons_zero, List.getElem?_cons_succ] at c2
      replace hb2 := Lib.hid (show As.Bx F _ w gx (w2.setCell ⟨w.heap.size, 2, none⟩ (.int .i64 ((As.reg (As.reg x).2).1 : Nat))) (As.reg (As.reg x).2).2 #[.int .i64 op, .int .i64 ((As.reg x).1 : Nat), .int .i64 ((As.reg (As.reg x).2).1 : Nat), .int .i64 0, .int .i64 0] from by simpa using hb2.out)
      clear hg2
      go_wp2_with fail
      obtain ⟨W2, hW2⟩ : ∃ W2, w2.setCell ⟨w.heap.size, 2, none⟩ (.int .i64 ((As.reg (As.reg x).2).1 : Nat)) = W2 := ⟨_, rfl⟩
      rw [hW2] at hb2 ⊢
      have HB2 := Lib.hid hb2.out
      clear hW2 hb2 c2 f2
      go_at_call 235
      refine (anum_any HB2.out.m HB2.out.tb HSH2.out).mono ?_
      rintro e w3 ⟨rfl, hg3⟩
      obtain ⟨c3, f3, hb3⟩ := HB2.out.step hg3 4 (.int .i64 (As.num (As.reg (As.reg x).2).2).1)
      have HSH3 := Lib.hid (show As.Short (As.num (As.reg (As.reg x).2).2).2.l from HSH2.out.num)
      simp only [List.getElem?_toArray, List.getElem?_cons_zero, List.getElem?_cons_succ] at c3
      replace hb3 := Lib.hid (show As.Bx F _ w gx (w3.setCell ⟨w.heap.size, 4, none⟩ (.int .i64 (As.num (As.reg (As.reg x).2).2).1)) (As.num (As.reg (As.reg x).2).2).2 #[.int .i64 op, .int .i64 ((As.reg x).1 : Nat), .int .i64 ((As.reg (As.reg x).2).1 : Nat), .int .i64 0, .int .i64 (As.num (As.reg (As.reg x).2).2).1] from by simpa using hb3.out)
      have b0 := hb3.out.bk.cell 0
      have b1 := hb3.out.bk.cell 1
      have b2 := hb3.out.bk.cell 2
      have b3 := hb3.out.bk.cell 3
      have b4 := hb3.out.bk.cell 4
      simp only [List.getElem?_toArray, List.getElem?_cons_zero, List.getElem?_cons_succ] at b0 b1 b2 b3 b4
      clear hg3
      go_wp2_with fail
      obtain ⟨W3, hW3⟩ : ∃ W3, w3.setCell ⟨w.heap.size, 4, none⟩ (.int .i64 (As.num (As.reg (As.reg x).2).2).1) = W3 := ⟨_, rfl⟩
      rw [hW3] at hb3 ⊢
      have HB3 := Lib.hid hb3.out
      clear hW3 hb3 c3 f3 b0 b1 b2 b3 b4
      go_at_call 237
      refine (acode_any HB3.out.m ⟨op, ((As.reg x).1), ((As.reg (As.reg x).2).1), 0, (As.num (As.reg (As.reg x).2).2).1⟩ (by simp only [As.reg_len, As.num_len]; have := HL.out; omega)).mono ?_
      rintro e wz ⟨rfl, hto⟩
      go_wp2_with fail
      first | go_end0 | refine bodyPost_ret (results_none rfl _ _ _) rfl ?_
      exact ⟨rfl, by rw [HP.out]; exact HB3.out.done hto⟩
  · have HP := Lib.hid (show As.inst op x = As.to ⟨op, 0, ((As.reg x).1), ((As.reg (As.reg x).2).1), 0⟩ (As.reg (As.reg x).2).2 from by unfold As.inst; rw [if_neg (by rw [hs]; decide), if_neg (by rw [hs]; decide), if_pos hs])
    rw [hs] at CS
    clear h hT hsh hl hs
    go_enter Tryz.func164, Tryz.ntmps164
    go_wp2_with (go_at_call 68; refine (CS.out _).mono ?_; rintro e w' ⟨rfl, rfl⟩)
    obtain ⟨W0, hW0⟩ : ∃ W0, w.alloc (.cells #[.int .i64 op, .int .i64 0, .int .i64 0, .int .i64 0, .int .i64 0] 54) = W0 := ⟨_, rfl⟩
    rw [hW0] at HB0 ⊢
    clear hW0
    go_at_call 234
    refine (areg_any HB0.out.m HB0.out.tb HSH.out).mono ?_
    rintro e w1 ⟨rfl, hg1⟩
    obtain ⟨c1, f1, hb1⟩ := HB0.out.step hg1 2 (.int .i64 ((As.reg x).1 : Nat))
    have HSH1 := Lib.hid (show As.Short (As.reg x).2.l from HSH.out.reg)
    simp only [List.getElem?_toArray, List.getElem?_cons_zero, List.getElem?_cons_succ] at c1
    replace hb1 := Lib.hid (show As.Bx F _ w gx (w1.setCell ⟨w.heap.size, 2, none⟩ (.int .i64 ((As.reg x).1 : Nat))) (As.reg x).2 #[.int .i64 op, .int .i64 0, .int .i64 ((As.reg x).1 : Nat), .int .i64 0, .int .i64 0] from by simpa using hb1.out)
    clear hg1
    go_wp2_with fail
    obtain ⟨W1, hW1⟩ : ∃ W1, w1.setCell ⟨w.heap.size, 2, none⟩ (.int .i64 ((As.reg x).1 : Nat)) = W1 := ⟨_, rfl⟩
    rw [hW1] at hb1 ⊢
    have HB1 := Lib.hid hb1.out
    clear hW1 hb1 c1 f1
    go_at_call 234
    refine (areg_any HB1.out.m HB1.out.tb HSH1.out).mono ?_
    rintro e w2 ⟨rfl, hg2⟩
    obtain ⟨c2, f2, hb2⟩ := HB1.out.step hg2 3 (.int .i64 ((As.reg (As.reg x).2).1 : Nat))
    have HSH2 := Lib.hid (show As.Short (As.reg (As.reg x).2).2.l from HSH1.out.reg)
    simp only [List.getElem?_toArray, List.getElem?_cons_zero, List.getElem?_cons_succ] at c2
    replace hb2 := Lib.hid (show As.Bx F _ w gx (w2.setCell ⟨w.heap.size, 3, none⟩ (.int .i64 ((As.reg (As.reg x).2).1 : Nat))) (As.reg (As.reg x).2).2 #[.int .i64 op, .int .i64 0, .int .i64 ((As.reg x).1 : Nat), .int .i64 ((As.reg (As.reg x).2).1 : Nat), .int .i64 0] from by simpa using hb2.out)
    have b0 := hb2.out.bk.cell 0
    have b1 := hb2.out.bk.cell 1
    have b2 := hb2.out.bk.cell 2
    have b3 := hb2.out.bk.cell 3
    have b4 := hb2.out.bk.cell 4
    simp only [List.getElem?_toArray, List.getElem?_cons_zero, List.getElem?_cons_succ] at b0 b1 b2 b3 b4
    clear hg2
    go_wp2_with fail
    obtain ⟨W2, hW2⟩ : ∃ W2, w2.setCell ⟨w.heap.size, 3, none⟩ (.int .i64 ((As.reg (As.reg x).2).1 : Nat)) = W2 := ⟨_, rfl⟩
    rw [hW2] at hb2 ⊢
    have HB2 := Lib.hid hb2.out
    clear hW2 hb2 c2 f2 b0 b1 b2 b3 b4
    go_at_call 236
    refine (ato_any HB2.out.m HB2.out.tb HSH2.out ⟨op, 0, ((As.reg x).1), ((As.reg (As.reg x).2).1), 0⟩ (by simp only [As.reg_len, As.num_len]; have := HL.out; omega)).mono ?_
    rintro e wz ⟨rfl, hto⟩
    go_wp2_with fail
    first | go_end0 | refine bodyPost_ret (results_none rfl _ _ _) rfl ?_
    exact ⟨rfl, by rw [HP.out]; exact HB2.out.done hto⟩
  · have HP := Lib.hid (show As.inst op x = As.code ⟨op, 0, ((As.reg (As.num (As.reg x).2).2).1), ((As.reg x).1), (As.num (As.reg x).2).1⟩ (As.reg (As.num (As.reg x).2).2).2 from by unfold As.inst; rw [if_neg (by rw [hs]; decide), if_neg (by rw [hs]; decide), if_neg (by rw [hs]; decide), if_pos hs])
    rw [hs] at CS
    clear h hT hsh hl hs
    go_enter Tryz.func164, Tryz.ntmps164
    go_wp2_with (go_at_call 68; refine (CS.out _).mono ?_; rintro e w' ⟨rfl, rfl⟩)
    obtain ⟨W0, hW0⟩ : ∃ W0, w.alloc (.cells #[.int .i64 op, .int .i64 0, .int .i64 0, .int .i64 0, .int .i64 0] 54) = W0 := ⟨_, rfl⟩
    rw [hW0] at HB0 ⊢
    clear hW0
    go_at_call 234
    refine (areg_any HB0.out.m HB0.out.tb HSH.out).mono ?_
    rintro e w1 ⟨rfl, hg1⟩
    obtain ⟨c1, f1, hb1⟩ := HB0.out.step hg1 3 (.int .i64 ((As.reg x).1 : Nat))
    have HSH1 := Lib.hid (show As.Short (As.reg x).2.l from HSH.out.reg)
    simp only [List.getElem?_toArray, List.getElem?_cons_zero, List.getElem?_cons_succ] at c1
    replace hb1 := Lib.hid (show As.Bx F _ w gx (w1.setCell ⟨w.heap.size, 3, none⟩ (.int .i64 ((As.reg x).1 : Nat))) (As.reg x).2 #[.int .i64 op, .int .i64 0, .int .i64 0, .int .i64 ((As.reg x).1 : Nat), .int .i64 0] from by simpa using hb1.out)
    clear hg1
    go_wp2_with fail
    obtain ⟨W1, hW1⟩ : ∃ W1, w1.setCell ⟨w.heap.size, 3, none⟩ (.int .i64 ((As.reg x).1 : Nat)) = W1 := ⟨_, rfl⟩
    rw [hW1] at hb1 ⊢
    have HB1 := Lib.hid hb1.out
    clear hW1 hb1 c1 f1
    go_at_call 235
    refine (anum_any HB1.out.m HB1.out.tb HSH1.out).mono ?_
    rintro e w2 ⟨rfl, hg2⟩
    obtain ⟨c2, f2, hb2⟩ := HB1.out.step hg2 4 (.int .i64 (As.num (As.reg x).2).1)
    have HSH2 := Lib.hid (show As.Short (As.num (As.reg x).2).2.l from HSH1.out.num)
    simp only [List.getElem?_toArray, List.getElem?_cons_zero, List.getElem?_cons_succ] at c2
    replace hb2 := Lib.hid (show As.Bx F _ w gx (w2.setCell ⟨w.heap.size, 4, none⟩ (.int .i64 (As.num (As.reg x).2).1)) (As.num (As.reg x).2).2 #[.int .i64 op, .int .i64 0, .int .i64 0, .int .i64 ((As.reg x).1 : Nat), .int .i64 (As.num (As.reg x).2).1] from by simpa using hb2.out)
    clear hg2
    go_wp2_with fail
    obtain ⟨W2, hW2⟩ : ∃ W2, w2.setCell ⟨w.heap.size, 4, none⟩ (.int .i64 (As.num (As.reg x).2).1) = W2 := ⟨_, rfl⟩
    rw [hW2] at hb2 ⊢
    have HB2 := Lib.hid hb2.out
    clear hW2 hb2 c2 f2
    go_at_call 234
    refine (areg_any HB2.out.m HB2.out.tb HSH2.out).mono ?_
    rintro e w3 ⟨rfl, hg3⟩
    obtain ⟨c3, f3, hb3⟩ := HB2.out.step hg3 2 (.int .i64 ((As.reg (As.num (As.reg x).2).2).1 : Nat))
    have HSH3 := Lib.hid (show As.Short (As.reg (As.num (As.reg x).2).2).2.l from HSH2.out.reg)
    simp only [List.getElem?_toArray, List.getElem?_cons_zero, List.getElem?_cons_succ] at c3
    replace hb3 := Lib.hid (show As.Bx F _ w gx (w3.setCell ⟨w.heap.size, 2, none⟩ (.int .i64 ((As.reg (As.num (As.reg x).2).2).1 : Nat))) (As.reg (As.num (As.reg x).2).2).2 #[.int .i64 op, .int .i64 0, .int .i64 ((As.reg (As.num (As.reg x).2).2).1 : Nat), .int .i64 ((As.reg x).1 : Nat), .int .i64 (As.num (As.reg x).2).1] from by simpa using hb3.out)
    have b0 := hb3.out.bk.cell 0
    have b1 := hb3.out.bk.cell 1
    have b2 := hb3.out.bk.cell 2
    have b3 := hb3.out.bk.cell 3
    have b4 := hb3.out.bk.cell 4
    simp only [List.getElem?_toArray, List.getElem?_cons_zero, List.getElem?_cons_succ] at b0 b1 b2 b3 b4
    clear hg3
    go_wp2_with fail
    obtain ⟨W3, hW3⟩ : ∃ W3, w3.setCell ⟨w.heap.size, 2, none⟩ (.int .i64 ((As.reg (As.num (As.reg x).2).2).1 : Nat)) = W3 := ⟨_, rfl⟩
    rw [hW3] at hb3 ⊢
    have HB3 := Lib.hid hb3.out
    clear hW3 hb3 c3 f3 b0 b1 b2 b3 b4
    go_at_call 237
    refine (acode_any HB3.out.m ⟨op, 0, ((As.reg (As.num (As.reg x).2).2).1), ((As.reg x).1), (As.num (As.reg x).2).1⟩ (by simp only [As.reg_len, As.num_len]; have := HL.out; omega)).mono ?_
    rintro e wz ⟨rfl, hto⟩
    go_wp2_with fail
    first | go_end0 | refine bodyPost_ret (results_none rfl _ _ _) rfl ?_
    exact ⟨rfl, by rw [HP.out]; exact HB3.out.done hto⟩
  · by_cases ho : op ≤ 14
    · have HP := Lib.hid (show As.inst op x = As.code ⟨op, ((As.reg x).1), ((As.reg (As.num (As.reg x).2).2).1), 0, (As.num (As.reg x).2).1⟩ (As.reg (As.num (As.reg x).2).2).2 from by unfold As.inst; rw [if_neg (by rw [hs]; decide), if_neg (by rw [hs]; decide), if_neg (by rw [hs]; decide), if_neg (by rw [hs]; decide), if_neg (by rw [hs]; decide), if_neg (by rw [hs]; decide), if_neg (by rw [hs]; decide), if_pos ho])
      rw [hs] at CS
      clear h hT hsh hl hs
      go_enter Tryz.func164, Tryz.ntmps164
      go_wp2_with (go_at_call 68; refine (CS.out _).mono ?_; rintro e w' ⟨rfl, rfl⟩)
      obtain ⟨W0, hW0⟩ : ∃ W0, w.alloc (.cells #[.int .i64 op, .int .i64 0, .int .i64 0, .int .i64 0, .int .i64 0] 54) = W0 := ⟨_, rfl⟩
      rw [hW0] at HB0 ⊢
      clear hW0
      go_at_call 234
      refine (areg_any HB0.out.m HB0.out.tb HSH.out).mono ?_
      rintro e w1 ⟨rfl, hg1⟩
      obtain ⟨c1, f1, hb1⟩ := HB0.out.step hg1 1 (.int .i64 ((As.reg x).1 : Nat))
      have HSH1 := Lib.hid (show As.Short (As.reg x).2.l from HSH.out.reg)
      simp only [List.getElem?_toArray, List.getElem?_cons_zero, List.getElem?_cons_succ] at c1
      replace hb1 := Lib.hid (show As.Bx F _ w gx (w1.setCell ⟨w.heap.size, 1, none⟩ (.int .i64 ((As.reg x).1 : Nat))) (As.reg x).2 #[.int .i64 op, .int .i64 ((As.reg x).1 : Nat), .int .i64 0, .int .i64 0, .int .i64 0] from by simpa using hb1.out)
      clear hg1
      go_wp2_with fail
      obtain ⟨W1, hW1⟩ : ∃ W1, w1.setCell ⟨w.heap.size, 1, none⟩ (.int .i64 ((As.reg x).1 : Nat)) = W1 := ⟨_, rfl⟩
      rw [hW1] at hb1 ⊢
      have HB1 := Lib.hid hb1.out
      clear hW1 hb1 c1 f1
      go_at_call 235
      refine (anum_any HB1.out.m HB1.out.tb HSH1.out).mono ?_
      rintro e w2 ⟨rfl, hg2⟩
      obtain ⟨c2, f2, hb2⟩ := HB1.out.step hg2 4 (.int .i64 (As.num (As.reg x).2).1)
      have HSH2 := Lib.hid (show As.Short (As.num (As.reg x).2).2.l from HSH1.out.num)
      simp only [List.getElem?_toArray, List.getElem?_cons_zero, List.getElem?_cons_succ] at c2
      replace hb2 := Lib.hid (show As.Bx F _ w gx (w2.setCell ⟨w.heap.size, 4, none⟩ (.int .i64 (As.num (As.reg x).2).1)) (As.num (As.reg x).2).2 #[.int .i64 op, .int .i64 ((As.reg x).1 : Nat), .int .i64 0, .int .i64 0, .int .i64 (As.num (As.reg x).2).1] from by simpa using hb2.out)
      clear hg2
      go_wp2_with fail
      obtain ⟨W2, hW2⟩ : ∃ W2, w2.setCell ⟨w.heap.size, 4, none⟩ (.int .i64 (As.num (As.reg x).2).1) = W2 := ⟨_, rfl⟩
      rw [hW2] at hb2 ⊢
      have HB2 := Lib.hid hb2.out
      clear hW2 hb2 c2 f2
      go_at_call 234
      refine (areg_any HB2.out.m HB2.out.tb HSH2.out).mono ?_
      rintro e w3 ⟨rfl, hg3⟩
      obtain ⟨c3, f3, hb3⟩ := HB2.out.step hg3 2 (.int .i64 ((As.reg (As.num (As.reg x).2).2).1 : Nat))
      have HSH3 := Lib.hid (show As.Short (As.reg (As.num (As.reg x).2).2).2.l from HSH2.out.reg)
      simp only [List.getElem?_toArray, List.getElem?_cons_zero, List.getElem?_cons_succ] at c3
      replace hb3 := Lib.hid (show As.Bx F _ w gx (w3.setCell ⟨w.heap.size, 2, none⟩ (.int .i64 ((As.reg (As.num (As.reg x).2).2).1 : Nat))) (As.reg (As.num (As.reg x).2).2).2 #[.int .i64 op, .int .i64 ((As.reg x).1 : Nat), .int .i64 ((As.reg (As.num (As.reg x).2).2).1 : Nat), .int .i64 0, .int .i64 (As.num (As.reg x).2).1] from by simpa using hb3.out)
      have b0 := hb3.out.bk.cell 0
      have b1 := hb3.out.bk.cell 1
      have b2 := hb3.out.bk.cell 2
      have b3 := hb3.out.bk.cell 3
      have b4 := hb3.out.bk.cell 4
      simp only [List.getElem?_toArray, List.getElem?_cons_zero, List.getElem?_cons_succ] at b0 b1 b2 b3 b4
      clear hg3
      go_wp2_with fail
      obtain ⟨W3, hW3⟩ : ∃ W3, w3.setCell ⟨w.heap.size, 2, none⟩ (.int .i64 ((As.reg (As.num (As.reg x).2).2).1 : Nat)) = W3 := ⟨_, rfl⟩
      rw [hW3] at hb3 ⊢
      have HB3 := Lib.hid hb3.out
      clear hW3 hb3 c3 f3 b0 b1 b2 b3 b4
      go_at_call 237
      refine (acode_any HB3.out.m ⟨op, ((As.reg x).1), ((As.reg (As.num (As.reg x).2).2).1), 0, (As.num (As.reg x).2).1⟩ (by simp only [As.reg_len, As.num_len]; have := HL.out; omega)).mono ?_
      rintro e wz ⟨rfl, hto⟩
      go_wp2_with fail
      first | go_end0 | refine bodyPost_ret (results_none rfl _ _ _) rfl ?_
      exact ⟨rfl, by rw [HP.out]; exact HB3.out.done hto⟩
    · have HP := Lib.hid (show As.inst op x = As.code ⟨op, ((As.reg x).1), ((As.reg (As.reg x).2).1), 0, (As.num (As.reg (As.reg x).2).2).1⟩ (As.num (As.reg (As.reg x).2).2).2 from by unfold As.inst; rw [if_neg (by rw [hs]; decide), if_neg (by rw [hs]; decide), if_neg (by rw [hs]; decide), if_neg (by rw [hs]; decide), if_neg (by rw [hs]; decide), if_neg (by rw [hs]; decide), if_neg (by rw [hs]; decide), if_neg ho])
      rw [hs] at CS
      clear h hT hsh hl hs
      go_enter Tryz.func164, Tryz.ntmps164
      go_wp2_with (go_at_call 68; refine (CS.out _).mono ?_; rintro e w' ⟨rfl, rfl⟩)
      obtain ⟨W0, hW0⟩ : ∃ W0, w.alloc (.cells #[.int .i64 op, .int .i64 0, .int .i64 0, .int .i64 0, .int .i64 0] 54) = W0 := ⟨_, rfl⟩
      rw [hW0] at HB0 ⊢
      clear hW0
      go_at_call 234
      refine (areg_any HB0.out.m HB0.out.tb HSH.out).mono ?_
      rintro e w1 ⟨rfl, hg1⟩
      obtain ⟨c1, f1, hb1⟩ := HB0.out.step hg1 1 (.int .i64 ((As.reg x).1 : Nat))
      have HSH1 := Lib.hid (show As.Short (As.reg x).2.l from HSH.out.reg)
      simp only [List.getElem?_toArray, List.getElem?_cons_zero, List.getElem?_cons_succ] at c1
      replace hb1 := Lib.hid (show As.Bx F _ w gx (w1.setCell ⟨w.heap.size, 1, none⟩ (.int .i64 ((As.reg x).1 : Nat))) (As.reg x).2 #[.int .i64 op, .int .i64 ((As.reg x).1 : Nat), .int .i64 0, .int .i64 0, .int .i64 0] from by simpa using hb1.out)
      clear hg1
      go_wp2_with fail
      obtain ⟨W1, hW1⟩ : ∃ W1, w1.setCell ⟨w.heap.size, 1, none⟩ (.int .i64 ((As.reg x).1 : Nat)) = W1 := ⟨_, rfl⟩
      rw [hW1] at hb1 ⊢
      have HB1 := Lib.hid hb1.out
      clear hW1 hb1 c1 f1
      go_at_call 234
      refine (areg_any HB1.out.m HB1.out.tb HSH1.out).mono ?_
      rintro e w2 ⟨rfl, hg2⟩
      obtain ⟨c2, f2, hb2⟩ := HB1.out.step hg2 2 (.int .i64 ((As.reg (As.reg x).2).1 : Nat))
      have HSH2 := Lib.hid (show As.Short (As.reg (As.reg x).2).2.l from HSH1.out.reg)
      simp only [List.getElem?_toArray, List.getElem?_cons_zero, List.getElem?_cons_succ] at c2
      replace hb2 := Lib.hid (show As.Bx F _ w gx (w2.setCell ⟨w.heap.size, 2, none⟩ (.int .i64 ((As.reg (As.reg x).2).1 : Nat))) (As.reg (As.reg x).2).2 #[.int .i64 op, .int .i64 ((As.reg x).1 : Nat), .int .i64 ((As.reg (As.reg x).2).1 : Nat), .int .i64 0, .int .i64 0] from by simpa using hb2.out)
      clear hg2
      go_wp2_with fail
      obtain ⟨W2, hW2⟩ : ∃ W2, w2.setCell ⟨w.heap.size, 2, none⟩ (.int .i64 ((As.reg (As.reg x).2).1 : Nat)) = W2 := ⟨_, rfl⟩
      rw [hW2] at hb2 ⊢
      have HB2 := Lib.hid hb2.out
      clear hW2 hb2 c2 f2
      go_at_call 235
      refine (anum_any HB2.out.m HB2.out.tb HSH2.out).mono ?_
      rintro e w3 ⟨rfl, hg3⟩
      obtain ⟨c3, f3, hb3⟩ := HB2.out.step hg3 4 (.int .i64 (As.num (As.reg (As.reg x).2).2).1)
      have HSH3 := Lib.hid (show As.Short (As.num (As.reg (As.reg x).2).2).2.l from HSH2.out.num)
      simp only [List.getElem?_toArray, List.getElem?_cons_zero, List.getElem?_cons_succ] at c3
      replace hb3 := Lib.hid (show As.Bx F _ w gx (w3.setCell ⟨w.heap.size, 4, none⟩ (.int .i64 (As.num (As.reg (As.reg x).2).2).1)) (As.num (As.reg (As.reg x).2).2).2 #[.int .i64 op, .int .i64 ((As.reg x).1 : Nat), .int .i64 ((As.reg (As.reg x).2).1 : Nat), .int .i64 0, .int .i64 (As.num (As.reg (As.reg x).2).2).1] from by simpa using hb3.out)
      have b0 := hb3.out.bk.cell 0
      have b1 := hb3.out.bk.cell 1
      have b2 := hb3.out.bk.cell 2
      have b3 := hb3.out.bk.cell 3
      have b4 := hb3.out.bk.cell 4
      simp only [List.getElem?_toArray, List.getElem?_cons_zero, List.getElem?_cons_succ] at b0 b1 b2 b3 b4
      clear hg3
      go_wp2_with fail
      obtain ⟨W3, hW3⟩ : ∃ W3, w3.setCell ⟨w.heap.size, 4, none⟩ (.int .i64 (As.num (As.reg (As.reg x).2).2).1) = W3 := ⟨_, rfl⟩
      rw [hW3] at hb3 ⊢
      have HB3 := Lib.hid hb3.out
      clear hW3 hb3 c3 f3 b0 b1 b2 b3 b4
      go_at_call 237
      refine (acode_any HB3.out.m ⟨op, ((As.reg x).1), ((As.reg (As.reg x).2).1), 0, (As.num (As.reg (As.reg x).2).2).1⟩ (by simp only [As.reg_len, As.num_len]; have := HL.out; omega)).mono ?_
      rintro e wz ⟨rfl, hto⟩
      go_wp2_with fail
      first | go_end0 | refine bodyPost_ret (results_none rfl _ _ _) rfl ?_
      exact ⟨rfl, by rw [HP.out]; exact HB3.out.done hto⟩
  · have HP := Lib.hid (show As.inst op x = As.code ⟨op, ((As.reg x).1), ((As.reg (As.reg x).2).1), ((As.reg (As.reg (As.reg x).2).2).1), 0⟩ (As.reg (As.reg (As.reg x).2).2).2 from by unfold As.inst; rw [if_neg (by rw [hs]; decide), if_neg (by rw [hs]; decide), if_neg (by rw [hs]; decide), if_neg (by rw [hs]; decide), if_pos hs])
    rw [hs] at CS
    clear h hT hsh hl hs
    go_enter Tryz.func164, Tryz.ntmps164
    go_wp2_with (go_at_call 68; refine (CS.out _).mono ?_; rintro e w' ⟨rfl, rfl⟩)
    obtain ⟨W0, hW0⟩ : ∃ W0, w.alloc (.cells #[.int .i64 op, .int .i64 0, .int .i64 0, .int .i64 0, .int .i64 0] 54) = W0 := ⟨_, rfl⟩
    rw [hW0] at HB0 ⊢
    clear hW0
    go_at_call 234
    refine (areg_any HB0.out.m HB0.out.tb HSH.out).mono ?_
    rintro e w1 ⟨rfl, hg1⟩
    obtain ⟨c1, f1, hb1⟩ := HB0.out.step hg1 1 (.int .i64 ((As.reg x).1 : Nat))
    have HSH1 := Lib.hid (show As.Short (As.reg x).2.l from HSH.out.reg)
    simp only [List.getElem?_toArray, List.getElem?_cons_zero, List.getElem?_cons_succ] at c1
    replace hb1 := Lib.hid (show As.Bx F _ w gx (w1.setCell ⟨w.heap.size, 1, none⟩ (.int .i64 ((As.reg x).1 : Nat))) (As.reg x).2 #[.int .i64 op, .int .i64 ((As.reg x).1 : Nat), .int .i64 0, .int .i64 0, .int .i64 0] from by simpa using hb1.out)
    clear hg1
    go_wp2_with fail
    obtain ⟨W1, hW1⟩ : ∃ W1, w1.setCell ⟨w.heap.size, 1, none⟩ (.int .i64 ((As.reg x).1 : Nat)) = W1 := ⟨_, rfl⟩
    rw [hW1] at hb1 ⊢
    have HB1 := Lib.hid hb1.out
    clear hW1 hb1 c1 f1
    go_at_call 234
    refine (areg_any HB1.out.m HB1.out.tb HSH1.out).mono ?_
    rintro e w2 ⟨rfl, hg2⟩
    obtain ⟨c2, f2, hb2⟩ := HB1.out.step hg2 2 (.int .i64 ((As.reg (As.reg x).2).1 : Nat))
    have HSH2 := Lib.hid (show As.Short (As.reg (As.reg x).2).2.l from HSH1.out.reg)
    simp only [List.getElem?_toArray, List.getElem?_cons_zero, List.getElem?_cons_succ] at c2
    replace hb2 := Lib.hid (show As.Bx F _ w gx (w2.setCell ⟨w.heap.size, 2, none⟩ (.int .i64 ((As.reg (As.reg x).2).1 : Nat))) (As.reg (As.reg x).2).2 #[.int .i64 op, .int .i64 ((As.reg x).1 : Nat), .int .i64 ((As.reg (As.reg x).2).1 : Nat), .int .i64 0, .int .i64 0] from by simpa using hb2.out)
    clear hg2
    go_wp2_with fail
    obtain ⟨W2, hW2⟩ : ∃ W2, w2.setCell ⟨w.heap.size, 2, none⟩ (.int .i64 ((As.reg (As.reg x).2).1 : Nat)) = W2 := ⟨_, rfl⟩
    rw [hW2] at hb2 ⊢
    have HB2 := Lib.hid hb2.out
    clear hW2 hb2 c2 f2
    go_at_call 234
    refine (areg_any HB2.out.m HB2.out.tb HSH2.out).mono ?_
    rintro e w3 ⟨rfl, hg3⟩
    obtain ⟨c3, f3, hb3⟩ := HB2.out.step hg3 3 (.int .i64 ((As.reg (As.reg (As.reg x).2).2).1 : Nat))
    have HSH3 := Lib.hid (show As.Short (As.reg (As.reg (As.reg x).2).2).2.l from HSH2.out.reg)
    simp only [List.getElem?_toArray, List.getElem?_cons_zero, List.getElem?_cons_succ] at c3
    replace hb3 := Lib.hid (show As.Bx F _ w gx (w3.setCell ⟨w.heap.size, 3, none⟩ (.int .i64 ((As.reg (As.reg (As.reg x).2).2).1 : Nat))) (As.reg (As.reg (As.reg x).2).2).2 #[.int .i64 op, .int .i64 ((As.reg x).1 : Nat), .int .i64 ((As.reg (As.reg x).2).1 : Nat), .int .i64 ((As.reg (As.reg (As.reg x).2).2).1 : Nat), .int .i64 0] from by simpa using hb3.out)
    have b0 := hb3.out.bk.cell 0
    have b1 := hb3.out.bk.cell 1
    have b2 := hb3.out.bk.cell 2
    have b3 := hb3.out.bk.cell 3
    have b4 := hb3.out.bk.cell 4
    simp only [List.getElem?_toArray, List.getElem?_cons_zero, List.getElem?_cons_succ] at b0 b1 b2 b3 b4
    clear hg3
    go_wp2_with fail
    obtain ⟨W3, hW3⟩ : ∃ W3, w3.setCell ⟨w.heap.size, 3, none⟩ (.int .i64 ((As.reg (As.reg (As.reg x).2).2).1 : Nat)) = W3 := ⟨_, rfl⟩
    rw [hW3] at hb3 ⊢
    have HB3 := Lib.hid hb3.out
    clear hW3 hb3 c3 f3 b0 b1 b2 b3 b4
    go_at_call 237
    refine (acode_any HB3.out.m ⟨op, ((As.reg x).1), ((As.reg (As.reg x).2).1), ((As.reg (As.reg (As.reg x).2).2).1), 0⟩ (by simp only [As.reg_len, As.num_len]; have := HL.out; omega)).mono ?_
    rintro e wz ⟨rfl, hto⟩
    go_wp2_with fail
    first | go_end0 | refine bodyPost_ret (results_none rfl _ _ _) rfl ?_
    exact ⟨rfl, by rw [HP.out]; exact HB3.out.done hto⟩
  · have HP := Lib.hid (show As.inst op x = As.code ⟨op, 0, 0, 0, 0⟩ x from by unfold As.inst; rw [if_neg (by rw [hs]; decide), if_neg (by rw [hs]; decide), if_neg (by rw [hs]; decide), if_neg (by rw [hs]; decide), if_neg (by rw [hs]; decide), if_neg (by rw [hs]; decide), if_pos hs])
    rw [hs] at CS
    clear h hT hsh hl hs
    have b0 := HB0.out.bk.cell 0
    have b1 := HB0.out.bk.cell 1
    have b2 := HB0.out.bk.cell 2
    have b3 := HB0.out.bk.cell 3
    have b4 := HB0.out.bk.cell 4
    simp only [List.getElem?_toArray, List.getElem?_cons_zero, List.getElem?_cons_succ] at b0 b1 b2 b3 b4
    go_enter Tryz.func164, Tryz.ntmps164
    go_wp2_with (go_at_call 68; refine (CS.out _).mono ?_; rintro e w' ⟨rfl, rfl⟩)
    obtain ⟨W0, hW0⟩ : ∃ W0, w.alloc (.cells #[.int .i64 op, .int .i64 0, .int .i64 0, .int .i64 0, .int .i64 0] 54) = W0 := ⟨_, rfl⟩
    rw [hW0] at HB0 ⊢
    clear hW0
    go_at_call 237
    refine (acode_any HB0.out.m ⟨op, 0, 0, 0, 0⟩ (by have := HL.out; omega)).mono ?_
    rintro e wz ⟨rfl, hto⟩
    go_wp2_with fail
    first | go_end0 | refine bodyPost_ret (results_none rfl _ _ _) rfl ?_
    exact ⟨rfl, by rw [HP.out]; exact HB0.out.done hto⟩
  · have HP := Lib.hid (show As.inst op x = As.code ⟨op, 0, 0, 0, (As.num x).1⟩ (As.num x).2 from by unfold As.inst; rw [if_neg (by rw [hs]; decide), if_neg (by rw [hs]; decide), if_neg (by rw [hs]; decide), if_neg (by rw [hs]; decide), if_neg (by rw [hs]; decide), if_pos hs])
    rw [hs] at CS
    clear h hT hsh hl hs
    go_enter Tryz.func164, Tryz.ntmps164
    go_wp2_with (go_at_call 68; refine (CS.out _).mono ?_; rintro e w' ⟨rfl, rfl⟩)
    obtain ⟨W0, hW0⟩ : ∃ W0, w.alloc (.cells #[.int .i64 op, .int .i64 0, .int .i64 0, .int .i64 0, .int .i64 0] 54) = W0 := ⟨_, rfl⟩
    rw [hW0] at HB0 ⊢
    clear hW0
    go_at_call 235
    refine (anum_any HB0.out.m HB0.out.tb HSH.out).mono ?_
    rintro e w1 ⟨rfl, hg1⟩
    obtain ⟨c1, f1, hb1⟩ := HB0.out.step hg1 4 (.int .i64 (As.num x).1)
    have HSH1 := Lib.hid (show As.Short (As.num x).2.l from HSH.out.num)
    simp only [List.getElem?_toArray, List.getElem?_cons_zero, List.getElem?_cons_succ] at c1
    replace hb1 := Lib.hid (show As.Bx F _ w gx (w1.setCell ⟨w.heap.size, 4, none⟩ (.int .i64 (As.num x).1)) (As.num x).2 #[.int .i64 op, .int .i64 0, .int .i64 0, .int .i64 0, .int .i64 (As.num x).1] from by simpa using hb1.out)
    have b0 := hb1.out.bk.cell 0
    have b1 := hb1.out.bk.cell 1
    have b2 := hb1.out.bk.cell 2
    have b3 := hb1.out.bk.cell 3
    have b4 := hb1.out.bk.cell 4
    simp only [List.getElem?_toArray, List.getElem?_cons_zero, List.getElem?_cons_succ] at b0 b1 b2 b3 b4
    clear hg1
    go_wp2_with fail
    obtain ⟨W1, hW1⟩ : ∃ W1, w1.setCell ⟨w.heap.size, 4, none⟩ (.int .i64 (As.num x).1) = W1 := ⟨_, rfl⟩
    rw [hW1] at hb1 ⊢
    have HB1 := Lib.hid hb1.out
    clear hW1 hb1 c1 f1 b0 b1 b2 b3 b4
    go_at_call 237
    refine (acode_any HB1.out.m ⟨op, 0, 0, 0, (As.num x).1⟩ (by simp only [As.reg_len, As.num_len]; have := HL.out; omega)).mono ?_
    rintro e wz ⟨rfl, hto⟩
    go_wp2_with fail
    first | go_end0 | refine bodyPost_ret (results_none rfl _ _ _) rfl ?_
    exact ⟨rfl, by rw [HP.out]; exact HB1.out.done hto⟩
end Go.Proofs.YtfafdkbnmfpbmaaGreatDoor
