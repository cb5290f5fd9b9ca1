/- Texts joined: AsPlain, AsLoop, AsParts, AsOk. -/
import Derived.Test.YtfafdkbnmfpbmaaDoorL6Num3
import Derived.Test.YtfafdkbnmfpbmaaDoorIsEncode
import Derived.Test.YtfafdkbnmfpbmaaDoorIsByName
/- Layer 7: what the assembler computes. Plain. -/
namespace Go.Proofs.YtfafdkbnmfpbmaaDoor
set_option linter.unusedVariables false
set_option linter.unusedSimpArgs false

/-- A piece: an instruction or bytes; what it asks of symbols: 0 nothing, 1 goal, 2 upper, 3 lower, 4 place, 5 behind. -/
structure As.P where
  code : Bool
  inst : Is.Inst
  bytes : List UInt8
  kind : Nat
  name : List UInt8
  src : List UInt8
def As.no : Is.Inst := ⟨0, 0, 0, 0, 0⟩
/-- What is left of a line's words, is it right, the pieces. -/
structure As.L where
  l : List (List UInt8)
  ok : Bool
  p : List As.P
def As.next (x : As.L) : List UInt8 × As.L := match x.l with
  | [] => ([], ⟨[], false, x.p⟩)
  | s :: t => (s, ⟨t, x.ok, x.p⟩)
def As.sat (b : Bool) (x : As.L) : As.L := ⟨x.l, x.ok && b, x.p⟩
def As.put (p : As.P) (x : As.L) : As.L := ⟨x.l, x.ok, x.p ++ [p]⟩
def As.reg (x : As.L) : Nat × As.L := ((L6.regV (As.next x).1).1, As.sat (L6.regV (As.next x).1).2 (As.next x).2)
def As.num (x : As.L) : Int × As.L := ((L6.number (As.next x).1).1, As.sat (L6.number (As.next x).1).2 (As.next x).2)
/-- May a word be a symbol? -/
def As.symbol (s : List UInt8) : Bool := !(L6.number s).2 && (!(L6.regV s).2 && (!s.isEmpty && s.headD 0 != 34))
def As.name (x : As.L) : List UInt8 × As.L := ((As.next x).1, As.sat (As.symbol (As.next x).1) (As.next x).2)
def As.either (x : As.L) : (Int × List UInt8) × As.L := match x.l with
  | [] => ((0, (As.name x).1), (As.name x).2)
  | s :: t => if (L6.number s).2 = true then (((L6.number s).1, []), ⟨t, x.ok, x.p⟩) else ((0, (As.name x).1), (As.name x).2)
def As.code (i : Is.Inst) (x : As.L) : As.L := As.put ⟨true, i, [], 0, [], []⟩ x
def As.imm (i : Is.Inst) (n : Int) : Is.Inst := ⟨i.op, i.rd, i.rs1, i.rs2, n⟩
def As.to (i : Is.Inst) (x : As.L) : As.L :=
  As.put ⟨true, As.imm i (As.either x).1.1, [], if (As.either x).1.2 = [] then 0 else 1, (As.either x).1.2, []⟩ (As.either x).2
/-- The lower and the upper part of a number. -/
def As.lo (n : Int) : Int := (n + 2048) % 4096 - 2048
def As.hi (n : Int) : Int := (n - As.lo n) / 4096 % 1048576
/-- An instruction by its Op. -/
def As.inst (op : Int) (x : As.L) : As.L :=
  if Is.shape op = 0 then As.code ⟨op, (As.reg x).1, 0, 0, (As.num (As.reg x).2).1⟩ (As.num (As.reg x).2).2
  else if Is.shape op = 1 then As.to ⟨op, (As.reg x).1, 0, 0, 0⟩ (As.reg x).2
  else if Is.shape op = 3 then As.to ⟨op, 0, (As.reg x).1, (As.reg (As.reg x).2).1, 0⟩ (As.reg (As.reg x).2).2
  else if Is.shape op = 4 then As.code ⟨op, 0, (As.reg (As.num (As.reg x).2).2).1, (As.reg x).1, (As.num (As.reg x).2).1⟩ (As.reg (As.num (As.reg x).2).2).2
  else if Is.shape op = 6 then As.code ⟨op, (As.reg x).1, (As.reg (As.reg x).2).1, (As.reg (As.reg (As.reg x).2).2).1, 0⟩ (As.reg (As.reg (As.reg x).2).2).2
  else if Is.shape op = 8 then As.code ⟨op, 0, 0, 0, (As.num x).1⟩ (As.num x).2
  else if Is.shape op = 7 then As.code ⟨op, 0, 0, 0, 0⟩ x
  else if op ≤ 14 then As.code ⟨op, (As.reg x).1, (As.reg (As.num (As.reg x).2).2).1, 0, (As.num (As.reg x).2).1⟩ (As.reg (As.num (As.reg x).2).2).2
  else As.code ⟨op, (As.reg x).1, (As.reg (As.reg x).2).1, 0, (As.num (As.reg (As.reg x).2).2).1⟩ (As.num (As.reg (As.reg x).2).2).2
/-- A number into a register. -/
def As.number (d : Int) (n : Int) (x : As.L) : As.L :=
  if -2048 ≤ n ∧ n < 2048 then As.code ⟨18, d, 0, 0, n⟩ x
  else As.code ⟨18, d, d, 0, As.lo n⟩ (As.code ⟨0, d, 0, 0, As.hi n⟩ x)
def As.tLi : List UInt8 := [108, 105]
def As.tLa : List UInt8 := [108, 97]
def As.tMv : List UInt8 := [109, 118]
def As.tNop : List UInt8 := [110, 111, 112]
def As.tRet : List UInt8 := [114, 101, 116]
def As.tCall : List UInt8 := [99, 97, 108, 108]
def As.tJ : List UInt8 := [106]
def As.tNot : List UInt8 := [110, 111, 116]
def As.tNeg : List UInt8 := [110, 101, 103]
def As.tBeqz : List UInt8 := [98, 101, 113, 122]
def As.tBnez : List UInt8 := [98, 110, 101, 122]
def As.tWord : List UInt8 := [119, 111, 114, 100]
def As.tByte : List UInt8 := [98, 121, 116, 101]
def As.tText : List UInt8 := [116, 101, 120, 116]
def As.tSpace : List UInt8 := [115, 112, 97, 99, 101]
def As.tAlign : List UInt8 := [97, 108, 105, 103, 110]
def As.tSpan : List UInt8 := [115, 112, 97, 110]
/-- What stands for instructions. -/
def As.pseudo (w : List UInt8) (x : As.L) : Option As.L :=
  if w = As.tLi then some (As.number (As.reg x).1 (As.num (As.reg x).2).1 (As.num (As.reg x).2).2)
  else if w = As.tLa then some (As.put ⟨true, ⟨18, (As.reg x).1, (As.reg x).1, 0, 0⟩, [], 3, (As.name (As.reg x).2).1, []⟩ (As.put ⟨true, ⟨0, (As.reg x).1, 0, 0, 0⟩, [], 2, (As.name (As.reg x).2).1, []⟩ (As.name (As.reg x).2).2))
  else if w = As.tMv then some (As.code ⟨18, (As.reg x).1, (As.reg (As.reg x).2).1, 0, 0⟩ (As.reg (As.reg x).2).2)
  else if w = As.tNop then some (As.code ⟨18, 0, 0, 0, 0⟩ x)
  else if w = As.tRet then some (As.code ⟨3, 0, 1, 0, 0⟩ x)
  else if w = As.tCall then some (As.to ⟨2, 1, 0, 0, 0⟩ x)
  else if w = As.tJ then some (As.to ⟨2, 0, 0, 0, 0⟩ x)
  else if w = As.tNot then some (As.code ⟨21, (As.reg x).1, (As.reg (As.reg x).2).1, 0, -1⟩ (As.reg (As.reg x).2).2)
  else if w = As.tNeg then some (As.code ⟨28, (As.reg x).1, 0, (As.reg (As.reg x).2).1, 0⟩ (As.reg (As.reg x).2).2)
  else if w = As.tBeqz then some (As.to ⟨4, 0, (As.reg x).1, 0, 0⟩ (As.reg x).2)
  else if w = As.tBnez then some (As.to ⟨5, 0, (As.reg x).1, 0, 0⟩ (As.reg x).2)
  else none
/-- A word's bytes. -/
def As.four (v : Nat) : List UInt8 := [UInt8.ofNat v, UInt8.ofNat (v / 256), UInt8.ofNat (v / 65536), UInt8.ofNat (v / 16777216)]
def As.bits (n : Int) : Nat := (n % 4294967296).toNat
/-- One word, one byte. -/
def As.word1 (x : As.L) : As.L := As.put ⟨false, As.no, As.four (As.bits (As.either x).1.1), if (As.either x).1.2 = [] then 0 else 4, (As.either x).1.2, []⟩ (As.either x).2
def As.byte1 (x : As.L) : As.L :=
  As.put ⟨false, As.no, [UInt8.ofNat ((As.num x).1 % 256).toNat], 0, [], []⟩ (As.sat (decide (-128 ≤ (As.num x).1) && decide ((As.num x).1 ≤ 255)) (As.num x).2)
/-- Once, and on while something is left. -/
def As.loop (f : As.L → As.L) : Nat → As.L → As.L
  | 0, x => x
  | n + 1, x => if (f x).l = [] then f x else As.loop f n (f x)
def As.raw (b : List UInt8) : As.P := ⟨false, As.no, b, 0, [], []⟩
def As.textOk (s : List UInt8) : Bool := decide (1 < s.length) && s.headD 0 == 34
def As.spaceOk (n : Int) : Bool := decide (0 ≤ n) && decide (n ≤ 131072)
def As.data (w : List UInt8) (at_ : Nat) (x : As.L) : Option As.L :=
  if w = As.tWord then some (As.loop As.word1 (x.l.length + 1) x)
  else if w = As.tByte then some (As.loop As.byte1 (x.l.length + 1) x)
  else if w = As.tText then some (if (As.next x).2.ok && As.textOk (As.next x).1 then As.put (As.raw (((As.next x).1.take ((As.next x).1.length - 1)).drop 1)) (As.sat (As.textOk (As.next x).1) (As.next x).2) else As.sat (As.textOk (As.next x).1) (As.next x).2)
  else if w = As.tSpace then some (if (As.num x).2.ok && As.spaceOk (As.num x).1 then As.put (As.raw (List.replicate (As.num x).1.toNat 0)) (As.sat (As.spaceOk (As.num x).1) (As.num x).2) else As.sat (As.spaceOk (As.num x).1) (As.num x).2)
  else if w = As.tAlign then some (As.put (As.raw (List.replicate ((4 - at_ % 4) % 4) 0)) x)
  else if w = As.tSpan then some (As.put ⟨false, As.no, [0, 0, 0, 0], 5, (As.name (As.name x).2).1, (As.name x).1⟩ (As.name (As.name x).2).2)
  else none
def As.read (w : List UInt8) (at_ : Nat) (x : As.L) : Option As.L :=
  if Is.isName ⟨w.toArray⟩ = true then some (As.inst (Is.found ⟨w.toArray⟩) x)
  else match As.pseudo w x with
    | some y => some y
    | none => As.data w at_ x
def As.done (x : As.L) : Option (List As.P) := if x.ok = true ∧ x.l = [] then some x.p else none
/-- Of a line at a place. -/
def As.pieces (l : L6.Line) (at_ : Nat) : Option (List As.P) :=
  if l.word = [] then some []
  else match As.read l.word at_ ⟨l.args, true, []⟩ with
    | none => none
    | some y => As.done y
def As.size1 (p : As.P) : Nat := p.bytes.length + (if p.code then 4 else 0)
def As.size (l : List As.P) : Nat := (l.map As.size1).sum
/-- Labels at a place; none: one is there already. -/
def As.labels (at_ : Nat) : List (List UInt8) → List (List UInt8 × Nat) → Option (List (List UInt8 × Nat))
  | [], sy => some sy
  | s :: t, sy => if (sy.any fun p => p.1 == s) = true then none else As.labels at_ t (sy ++ [(s, at_)])
inductive As.R (α : Type) where
  | bad (n e : Nat)
  | ok (v : α)
def As.lead (p : List As.P) : Bool := match p with | [] => false | x :: _ => x.code
def As.at32 (a : Nat) : Nat := a % 4294967296
def As.first (at_ : Nat) : Nat → Nat → List (List UInt8 × Nat) → List L6.Line → As.R (List (List UInt8 × Nat))
  | _, _, sy, [] => .ok sy
  | i, here, sy, l :: r =>
    match As.labels (As.at32 (at_ + here)) l.labels sy with
    | none => .bad (i + 1) 42
    | some sy1 => match As.pieces l (As.at32 (at_ + here)) with
      | none => .bad (i + 1) 40
      | some p =>
        if As.lead p = true ∧ As.at32 (at_ + here) % 4 ≠ 0 then .bad (i + 1) 30
        else if 131072 < here + As.size p then .bad (i + 1) 6
        else As.first at_ (i + 1) (here + As.size p) sy1 r
def As.look (sy : List (List UInt8 × Nat)) (s : List UInt8) : Option Nat := (sy.find? fun p => p.1 == s).map fun p => p.2
def As.s32 (v : Nat) : Int := if v < 2147483648 then (v : Int) else (v : Int) - 4294967296
/-- The instruction with its goal; the error's number, if it may not be. -/
def As.aim (p : As.P) (v at_ : Nat) : Is.Inst × Nat :=
  if p.kind = 1 then (As.imm p.inst (As.s32 (As.bits ((v : Int) - (at_ : Int)))), 43)
  else if p.kind = 2 then (As.imm p.inst (As.hi (As.s32 v)), 20)
  else if p.kind = 3 then (As.imm p.inst (As.lo (As.s32 v)), 20)
  else (p.inst, 20)
/-- A piece's bytes at a place, or the error's number. -/
def As.piece (sy : List (List UInt8 × Nat)) (p : As.P) (at_ : Nat) : List UInt8 × Nat :=
  if p.kind = 0 ∧ p.code = false then (p.bytes, 0)
  else if p.kind ≠ 0 ∧ As.look sy p.name = none then ([], 41)
  else if p.kind = 5 then (match As.look sy p.src with
    | none => ([], 41)
    | some w => (As.four (As.bits (((As.look sy p.name).getD 0 : Int) - (w : Int))), 0))
  else if p.kind = 4 then (As.four ((As.look sy p.name).getD 0), 0)
  else if (Is.enc (As.aim p ((As.look sy p.name).getD 0) at_).1).2 = 0 then (As.four (Is.enc (As.aim p ((As.look sy p.name).getD 0) at_).1).1.toNat, 0)
  else ([], (As.aim p ((As.look sy p.name).getD 0) at_).2)
/-- Pieces' bytes behind others. -/
def As.puts (sy : List (List UInt8 × Nat)) (at_ : Nat) : List As.P → List UInt8 → List UInt8 × Nat
  | [], b => (b, 0)
  | p :: r, b =>
    if (As.piece sy p (As.at32 (at_ + b.length))).2 = 0 then As.puts sy at_ r (b ++ (As.piece sy p (As.at32 (at_ + b.length))).1)
    else (b, (As.piece sy p (As.at32 (at_ + b.length))).2)
def As.second (sy : List (List UInt8 × Nat)) (at_ : Nat) : Nat → List UInt8 → List L6.Line → As.R (List UInt8)
  | _, b, [] => .ok b
  | i, b, l :: r =>
    if (As.puts sy at_ ((As.pieces l (As.at32 (at_ + b.length))).getD []) b).2 = 0 then As.second sy at_ (i + 1) (As.puts sy at_ ((As.pieces l (As.at32 (at_ + b.length))).getD []) b).1 r
    else .bad (i + 1) (As.puts sy at_ ((As.pieces l (As.at32 (at_ + b.length))).getD []) b).2
structure As.O where
  bytes : List UInt8
  syms : List (List UInt8 × Nat)
  line : Nat
  err : Nat
def As.passes (l : List L6.Line) (at_ : Nat) : As.O := match As.first at_ 0 0 [] l with
  | .bad n e => ⟨[], [], n, e⟩
  | .ok sy => match As.second sy at_ 0 [] l with
    | .bad n e => ⟨[], [], n, e⟩
    | .ok b => ⟨b, sy, 0, 0⟩
def As.assemble (l : List L6.Line) (at_ : Nat) : As.O := if 32768 < l.length ∨ at_ % 4 ≠ 0 then ⟨[], [], 0, 6⟩ else As.passes l at_
end Go.Proofs.YtfafdkbnmfpbmaaDoor
/- Layer 7: once, and on while something is left. Plain. -/
namespace Go.Proofs.YtfafdkbnmfpbmaaDoor
set_option linter.unusedVariables false
set_option linter.unusedSimpArgs false

theorem As.next_l (x : As.L) : (As.next x).2.l = x.l.tail := by
  unfold As.next
  split
  · rename_i e; rw [e]; rfl
  · rename_i e; rw [e]; rfl
theorem As.either_l (x : As.L) : (As.either x).2.l = x.l.tail := by
  unfold As.either
  split
  · exact As.next_l x
  · rename_i s t e
    split
    · rw [e]; rfl
    · exact As.next_l x
theorem As.word1_l (x : As.L) : (As.word1 x).l = x.l.tail := As.either_l x
theorem As.byte1_l (x : As.L) : (As.byte1 x).l = x.l.tail := As.next_l x
theorem As.loop_one {f : As.L → As.L} (n : Nat) (x : As.L) : As.loop f (n + 1) x = if (f x).l = [] then f x else As.loop f n (f x) := rfl
theorem As.loop_enough {f : As.L → As.L} (hf : ∀ x, (f x).l = x.l.tail) : ∀ (n : Nat) (x : As.L), x.l.length < n → As.loop f n x = As.loop f (x.l.length + 1) x
  | 0, x, h => by omega
  | n + 1, x, h => by
    rw [As.loop_one, As.loop_one]
    split
    · rfl
    · rename_i he
      have hl : (f x).l.length = x.l.length - 1 := by rw [hf, List.length_tail]
      have hp : 0 < (f x).l.length := List.length_pos_iff.2 he
      rw [As.loop_enough hf n (f x) (by omega), As.loop_enough hf x.l.length (f x) (by omega)]
/-- What is still to do behind a round. -/
def As.more (f : As.L → As.L) (y : As.L) : As.L := if y.l = [] then y else As.loop f (y.l.length + 1) y
theorem As.loop_more {f : As.L → As.L} (hf : ∀ x, (f x).l = x.l.tail) (x : As.L) : As.loop f (x.l.length + 1) x = As.more f (f x) := by
  unfold As.more
  rw [As.loop_one]
  split
  · rfl
  · rename_i he
    have hl : (f x).l.length = x.l.length - 1 := by rw [hf, List.length_tail]
    have hp : 0 < (f x).l.length := List.length_pos_iff.2 he
    rw [As.loop_enough hf x.l.length (f x) (by omega)]
theorem As.more_some {f : As.L → As.L} (hf : ∀ x, (f x).l = x.l.tail) {y : As.L} (h : y.l ≠ []) : As.more f y = As.more f (f y) := by
  rw [← As.loop_more hf]
  unfold As.more
  rw [if_neg h]
theorem As.more_nil {f : As.L → As.L} {y : As.L} (h : y.l = []) : As.more f y = y := by unfold As.more; rw [if_pos h]
theorem As.put_len (p : As.P) (x : As.L) : (As.put p x).p.length = x.p.length + 1 := by simp [As.put]
theorem As.next_len (x : As.L) : (As.next x).2.p = x.p := by unfold As.next; split <;> rfl
theorem As.bits_int (n : Int) : ((As.bits n : Nat) : Int) = n % 4294967296 := by unfold As.bits; omega
theorem As.bits_lt (n : Int) : As.bits n < 4294967296 := by unfold As.bits; omega
end Go.Proofs.YtfafdkbnmfpbmaaDoor
/- Layer 7: lines behind others are the same bytes. Plain. -/
namespace Go.Proofs.YtfafdkbnmfpbmaaDoor
set_option linter.unusedVariables false
set_option linter.unusedSimpArgs false

/-- What a piece may be. -/
structure As.Wf (p : As.P) : Prop where
  code : p.code = true → p.bytes = [] ∧ p.kind ≤ 3
  data : p.code = false → p.kind = 0 ∨ ((p.kind = 4 ∨ p.kind = 5) ∧ p.bytes.length = 4)
def As.WfL (l : List As.P) : Prop := ∀ p ∈ l, As.Wf p
theorem As.WfL.snoc {l : List As.P} {p : As.P} (h : As.WfL l) (hp : As.Wf p) : As.WfL (l ++ [p]) := fun q hq => by
  rcases List.mem_append.1 hq with hq | hq
  · exact h q hq
  · rw [List.mem_singleton.1 hq]; exact hp
theorem As.next_p (x : As.L) : (As.next x).2.p = x.p := by unfold As.next; split <;> rfl
theorem As.reg_p (x : As.L) : (As.reg x).2.p = x.p := As.next_p x
theorem As.num_p (x : As.L) : (As.num x).2.p = x.p := As.next_p x
theorem As.name_p (x : As.L) : (As.name x).2.p = x.p := As.next_p x
theorem As.either_p (x : As.L) : (As.either x).2.p = x.p := by
  unfold As.either
  split
  · exact As.name_p x
  · split
    · rfl
    · exact As.name_p x
theorem As.sat_p (b : Bool) (x : As.L) : (As.sat b x).p = x.p := rfl
theorem As.Wf.code' (i : Is.Inst) (k : Nat) (n : List UInt8) (hk : k ≤ 3) : As.Wf ⟨true, i, [], k, n, []⟩ := ⟨fun _ => ⟨rfl, hk⟩, fun h => (by cases h)⟩
theorem As.Wf.raw (b : List UInt8) : As.Wf (As.raw b) := ⟨fun h => (by cases h), fun _ => .inl rfl⟩
theorem As.code_wf {i : Is.Inst} {x : As.L} (h : As.WfL x.p) : As.WfL (As.code i x).p := h.snoc (As.Wf.code' i 0 [] (by decide))
theorem As.to_wf {i : Is.Inst} {x : As.L} (h : As.WfL x.p) : As.WfL (As.to i x).p := by
  have : As.WfL (As.either x).2.p := by rw [As.either_p]; exact h
  exact this.snoc (As.Wf.code' _ _ _ (by split <;> decide))
theorem As.reg_wf {x : As.L} (h : As.WfL x.p) : As.WfL (As.reg x).2.p := by rw [As.reg_p]; exact h
theorem As.num_wf {x : As.L} (h : As.WfL x.p) : As.WfL (As.num x).2.p := by rw [As.num_p]; exact h
theorem As.name_wf {x : As.L} (h : As.WfL x.p) : As.WfL (As.name x).2.p := by rw [As.name_p]; exact h
theorem As.inst_wf (op : Int) {x : As.L} (h : As.WfL x.p) : As.WfL (As.inst op x).p := by
  unfold As.inst
  (repeat' split) <;> first
    | exact As.code_wf (As.num_wf (As.reg_wf (As.reg_wf h)))
    | exact As.code_wf (As.reg_wf (As.num_wf (As.reg_wf h)))
    | exact As.code_wf (As.reg_wf (As.reg_wf (As.reg_wf h)))
    | exact As.code_wf (As.num_wf (As.reg_wf h))
    | exact As.code_wf (As.num_wf h)
    | exact As.code_wf h
    | exact As.to_wf (As.reg_wf (As.reg_wf h))
    | exact As.to_wf (As.reg_wf h)
theorem As.number_wf (d n : Int) {x : As.L} (h : As.WfL x.p) : As.WfL (As.number d n x).p := by
  unfold As.number
  split
  · exact As.code_wf h
  · exact As.code_wf (As.code_wf h)
theorem As.pseudo_wf (w : List UInt8) {x y : As.L} (h : As.WfL x.p) (e : As.pseudo w x = some y) : As.WfL y.p := by
  unfold As.pseudo at e
  (repeat' split at e) <;> first
    | (injection e with e; subst e; first
        | exact As.number_wf _ _ (As.num_wf (As.reg_wf h))
        | exact ((As.name_wf (As.reg_wf h)).snoc (As.Wf.code' _ 2 _ (by decide))).snoc (As.Wf.code' _ 3 _ (by decide))
        | exact As.code_wf (As.reg_wf (As.reg_wf h))
        | exact As.to_wf (As.reg_wf h)
        | exact As.code_wf h
        | exact As.to_wf h)
    | cases e
theorem As.word1_wf {x : As.L} (h : As.WfL x.p) : As.WfL (As.word1 x).p := by
  have h1 : As.WfL (As.either x).2.p := by rw [As.either_p]; exact h
  refine h1.snoc ⟨fun h => (by cases h), fun _ => ?_⟩
  show (if _ then 0 else 4) = 0 ∨ _
  split
  · exact .inl rfl
  · exact .inr ⟨.inl rfl, rfl⟩
theorem As.byte1_wf {x : As.L} (h : As.WfL x.p) : As.WfL (As.byte1 x).p := by
  have h1 : As.WfL (As.num x).2.p := by rw [As.num_p]; exact h
  exact h1.snoc (As.Wf.raw _)
theorem As.loop_wf {f : As.L → As.L} (hf : ∀ {x : As.L}, As.WfL x.p → As.WfL (f x).p) : ∀ (n : Nat) {x : As.L}, As.WfL x.p → As.WfL (As.loop f n x).p
  | 0, x, h => h
  | n + 1, x, h => by
    unfold As.loop
    split
    · exact hf h
    · exact As.loop_wf hf n (hf h)
theorem As.data_wf (w : List UInt8) (a : Nat) {x y : As.L} (h : As.WfL x.p) (e : As.data w a x = some y) : As.WfL y.p := by
  have hn : As.WfL (As.next x).2.p := by rw [As.next_p]; exact h
  have hm := As.num_wf h
  have hs : As.WfL (As.name (As.name x).2).2.p := As.name_wf (As.name_wf h)
  unfold As.data at e
  split at e
  · injection e with e; subst e; exact As.loop_wf As.word1_wf _ h
  split at e
  · injection e with e; subst e; exact As.loop_wf As.byte1_wf _ h
  split at e
  · injection e with e; subst e
    split
    · exact hn.snoc (As.Wf.raw _)
    · exact hn
  split at e
  · injection e with e; subst e
    split
    · exact hm.snoc (As.Wf.raw _)
    · exact hm
  split at e
  · injection e with e; subst e; exact h.snoc (As.Wf.raw _)
  split at e
  · injection e with e; subst e
    exact hs.snoc ⟨fun h => (by cases h), fun _ => .inr ⟨.inr rfl, rfl⟩⟩
  · cases e
theorem As.pieces_wf {l : L6.Line} {a : Nat} {p : List As.P} (e : As.pieces l a = some p) : As.WfL p := by
  have h0 : As.WfL (⟨l.args, true, []⟩ : As.L).p := fun q hq => by cases hq
  unfold As.pieces at e
  split at e
  · injection e with e; subst e; exact fun q hq => by cases hq
  · split at e
    · cases e
    · rename_i y hy
      have hd : p = y.p := by
        unfold As.done at e
        split at e
        · injection e with e; exact e.symm
        · cases e
      subst hd
      unfold As.read at hy
      split at hy
      · injection hy with hy; subst hy; exact As.inst_wf _ h0
      · split at hy
        · rename_i z hz
          injection hy with hy; subst hy; exact As.pseudo_wf _ h0 hz
        · exact As.data_wf _ _ h0 hy
theorem As.four_len (v : Nat) : (As.four v).length = 4 := rfl
theorem As.piece_len {sy : List (List UInt8 × Nat)} {p : As.P} {a : Nat} (hw : As.Wf p) (h : (As.piece sy p a).2 = 0) : (As.piece sy p a).1.length = As.size1 p := by
  unfold As.piece at h ⊢
  unfold As.size1
  by_cases h1 : p.kind = 0 ∧ p.code = false
  · rw [if_pos h1, h1.2]; simp
  rw [if_neg h1] at h ⊢
  by_cases h2 : p.kind ≠ 0 ∧ As.look sy p.name = none
  · rw [if_pos h2] at h; cases h
  rw [if_neg h2] at h ⊢
  by_cases h5 : p.kind = 5
  · rw [if_pos h5] at h ⊢
    have hc : p.code = false := by
      cases hc : p.code
      · rfl
      · have := (hw.code hc).2; omega
    rw [hc]
    split at h
    · cases h
    · have hd := hw.data hc
      rcases hd with hd | hd
      · omega
      · simp [hd.2, As.four_len]
  rw [if_neg h5] at h ⊢
  by_cases h4 : p.kind = 4
  · rw [if_pos h4] at h ⊢
    have hc : p.code = false := by
      cases hc : p.code
      · rfl
      · have := (hw.code hc).2; omega
    rw [hc]
    rcases hw.data hc with hd | hd
    · omega
    · simp [hd.2, As.four_len]
  rw [if_neg h4] at h ⊢
  have hc : p.code = true := by
    cases hc : p.code
    · rcases hw.data hc with hd | ⟨hd | hd, _⟩
      · exact absurd ⟨hd, hc⟩ h1
      · exact absurd hd h4
      · exact absurd hd h5
    · rfl
  rw [(hw.code hc).1, hc]
  split at h
  · rename_i h3; rw [if_pos h3]; rfl
  · rename_i h3
    exfalso
    have : (As.aim p ((As.look sy p.name).getD 0) a).2 = 43 ∨ (As.aim p ((As.look sy p.name).getD 0) a).2 = 20 := by
      unfold As.aim
      (repeat' split) <;> simp
    rcases this with e | e <;> (rw [e] at h; cases h)
theorem As.size_cons (p : As.P) (r : List As.P) : As.size (p :: r) = As.size1 p + As.size r := by simp [As.size]
theorem As.puts_len {sy : List (List UInt8 × Nat)} {a : Nat} : ∀ {ps : List As.P} {b : List UInt8}, As.WfL ps → (As.puts sy a ps b).2 = 0 → (As.puts sy a ps b).1.length = b.length + As.size ps
  | [], b, _, _ => by simp [As.puts, As.size]
  | p :: r, b, hw, h => by
    unfold As.puts at h ⊢
    split at h
    · rename_i h1
      rw [if_pos h1]
      have := As.puts_len (ps := r) (fun q hq => hw q (by simp [hq])) h
      rw [this, List.length_append, As.piece_len (hw p (by simp)) h1, As.size_cons]
      omega
    · rename_i h1
      exact absurd h h1
/-- Where the lines end, counted from the place. -/
def As.upto (a : Nat) : Nat → List L6.Line → Nat
  | here, [] => here
  | here, l :: r => As.upto a (here + As.size ((As.pieces l (As.at32 (a + here))).getD [])) r
theorem As.second_len {sy : List (List UInt8 × Nat)} {a : Nat} : ∀ {l : List L6.Line} {i : Nat} {b b' : List UInt8}, As.second sy a i b l = .ok b' → b'.length = As.upto a b.length l
  | [], i, b, b', h => by
    unfold As.second at h
    injection h with h
    subst h
    rfl
  | x :: r, i, b, b', h => by
    unfold As.second at h
    split at h
    · rename_i h1
      have hw : As.WfL ((As.pieces x (As.at32 (a + b.length))).getD []) := by
        cases hp : As.pieces x (As.at32 (a + b.length)) with
        | none => exact fun q hq => by cases hq
        | some p => exact As.pieces_wf hp
      have := As.second_len h
      rw [this, As.puts_len hw h1]
      rfl
    · cases h
def As.keys (sy : List (List UInt8 × Nat)) : List (List UInt8) := sy.map fun p => p.1
theorem As.any_mem (sy : List (List UInt8 × Nat)) (s : List UInt8) : (sy.any fun p => p.1 == s) = true ↔ s ∈ As.keys sy := by
  unfold As.keys
  rw [List.any_eq_true, List.mem_map]
  constructor
  · rintro ⟨p, hp, e⟩; exact ⟨p, hp, by simpa using e⟩
  · rintro ⟨p, hp, e⟩; exact ⟨p, hp, by simpa using e⟩
theorem As.labels_nodup {a : Nat} : ∀ {t : List (List UInt8)} {sy sy1 : List (List UInt8 × Nat)}, (As.keys sy).Nodup → As.labels a t sy = some sy1 → (As.keys sy1).Nodup
  | [], sy, sy1, hn, h => by injection h with h; subst h; exact hn
  | s :: t, sy, sy1, hn, h => by
    unfold As.labels at h
    split at h
    · cases h
    · rename_i h1
      refine As.labels_nodup (t := t) ?_ h
      have hm : s ∉ As.keys sy := fun e => h1 ((As.any_mem sy s).2 e)
      unfold As.keys at hm hn ⊢
      rw [List.map_append, List.nodup_append]
      exact ⟨hn, by simp, fun x hx y hy e => hm (by
        have : y = s := by simpa using hy
        rw [← this, ← e]; exact hx)⟩
theorem As.labels_pre {a : Nat} (pre : List (List UInt8 × Nat)) : ∀ {t : List (List UInt8)} {sy sy1 : List (List UInt8 × Nat)}, As.labels a t sy = some sy1 → As.labels a t (pre ++ sy) = none ∨ As.labels a t (pre ++ sy) = some (pre ++ sy1)
  | [], sy, sy1, h => by injection h with h; subst h; exact .inr rfl
  | s :: t, sy, sy1, h => by
    unfold As.labels at h ⊢
    split at h
    · cases h
    · split
      · exact .inl rfl
      · rw [List.append_assoc]
        exact As.labels_pre pre h
theorem As.first_app {a : Nat} (m : List L6.Line) : ∀ {l : List L6.Line} {i here : Nat} {sy sy1 : List (List UInt8 × Nat)}, As.first a i here sy l = .ok sy1 → As.first a i here sy (l ++ m) = As.first a (i + l.length) (As.upto a here l) sy1 m
  | [], i, here, sy, sy1, h => by
    unfold As.first at h
    injection h with h
    subst h
    rfl
  | x :: r, i, here, sy, sy1, h => by
    rw [List.cons_append]
    unfold As.first at h
    rw [As.first]
    cases hl : As.labels (As.at32 (a + here)) x.labels sy with
    | none => rw [hl] at h; cases h
    | some sy2 =>
      rw [hl] at h
      dsimp only at h ⊢
      cases hp : As.pieces x (As.at32 (a + here)) with
      | none => rw [hp] at h; cases h
      | some p =>
        rw [hp] at h
        dsimp only at h ⊢
        split at h
        · cases h
        rename_i h1
        rw [if_neg h1]
        split at h
        · cases h
        rename_i h2
        rw [if_neg h2, As.first_app m h, As.upto, hp, List.length_cons]
        congr 1
        omega
theorem As.first_nodup {a : Nat} : ∀ {l : List L6.Line} {i here : Nat} {sy sy1 : List (List UInt8 × Nat)}, (As.keys sy).Nodup → As.first a i here sy l = .ok sy1 → (As.keys sy1).Nodup
  | [], i, here, sy, sy1, hn, h => by
    unfold As.first at h
    injection h with h
    subst h
    exact hn
  | x :: r, i, here, sy, sy1, hn, h => by
    unfold As.first at h
    cases hl : As.labels (As.at32 (a + here)) x.labels sy with
    | none => rw [hl] at h; cases h
    | some sy2 =>
      rw [hl] at h
      dsimp only at h
      cases hp : As.pieces x (As.at32 (a + here)) with
      | none => rw [hp] at h; cases h
      | some p =>
        rw [hp] at h
        dsimp only at h
        split at h
        · cases h
        split at h
        · cases h
        exact As.first_nodup (As.labels_nodup hn hl) h
/-- The first pass, with lines ahead. -/
theorem As.first_pre {a b : Nat} (pre : List (List UInt8 × Nat)) : ∀ {l : List L6.Line} {i j here : Nat} {sy sy1 : List (List UInt8 × Nat)}, As.first (a + b) j here sy l = .ok sy1 →
    (∃ n, As.first a i (b + here) (pre ++ sy) l = .bad n 42) ∨ (∃ n, As.first a i (b + here) (pre ++ sy) l = .bad n 6) ∨ As.first a i (b + here) (pre ++ sy) l = .ok (pre ++ sy1)
  | [], i, j, here, sy, sy1, h => by
    unfold As.first at h
    injection h with h
    subst h
    exact .inr (.inr rfl)
  | x :: r, i, j, here, sy, sy1, h => by
    unfold As.first at h
    rw [As.first]
    rw [show a + (b + here) = a + b + here by omega]
    cases hl : As.labels (As.at32 (a + b + here)) x.labels sy with
    | none => rw [hl] at h; cases h
    | some sy2 =>
      rw [hl] at h
      dsimp only at h
      rcases As.labels_pre pre hl with e | e
      · rw [e]; exact .inl ⟨_, rfl⟩
      rw [e]
      dsimp only
      cases hp : As.pieces x (As.at32 (a + b + here)) with
      | none => rw [hp] at h; cases h
      | some p =>
        rw [hp] at h
        dsimp only at h ⊢
        split at h
        · cases h
        rename_i h1
        rw [if_neg h1]
        split at h
        · cases h
        split
        · exact .inr (.inl ⟨_, rfl⟩)
        · rw [show b + here + As.size p = b + (here + As.size p) by omega]
          exact As.first_pre pre h
theorem As.look_app {sy ext : List (List UInt8 × Nat)} {s : List UInt8} {v : Nat} (h : As.look sy s = some v) : As.look (sy ++ ext) s = some v := by
  unfold As.look at h ⊢
  rw [List.find?_append]
  cases hf : sy.find? fun p => p.1 == s with
  | none => rw [hf] at h; cases h
  | some p => rw [hf] at h; exact h
theorem As.look_pre {pre sy : List (List UInt8 × Nat)} (hn : (As.keys (pre ++ sy)).Nodup) {s : List UInt8} {v : Nat} (h : As.look sy s = some v) : As.look (pre ++ sy) s = some v := by
  have hm : s ∈ As.keys sy := by
    unfold As.look at h
    cases hf : sy.find? fun p => p.1 == s with
    | none => rw [hf] at h; cases h
    | some p =>
      have h1 := List.mem_of_find?_eq_some hf
      have h2 := List.find?_some hf
      exact List.mem_map.2 ⟨p, h1, by simpa using h2⟩
  unfold As.look at h ⊢
  rw [List.find?_append]
  have h0 : pre.find? (fun p => p.1 == s) = none := by
    rw [List.find?_eq_none]
    intro p hp e
    have e : p.1 = s := by simpa using e
    unfold As.keys at hn hm
    rw [List.map_append, List.nodup_append] at hn
    exact hn.2.2 p.1 (List.mem_map.2 ⟨p, hp, rfl⟩) s hm e
  rw [h0]
  exact h
/-- A piece asks of symbols no more than that these are there. -/
theorem As.piece_more {sy sy' : List (List UInt8 × Nat)} (hs : ∀ s v, As.look sy s = some v → As.look sy' s = some v) {p : As.P} {a : Nat} (h : (As.piece sy p a).2 = 0) : As.piece sy' p a = As.piece sy p a := by
  unfold As.piece at h ⊢
  by_cases h1 : p.kind = 0 ∧ p.code = false
  · rw [if_pos h1, if_pos h1]
  rw [if_neg h1] at h ⊢
  rw [if_neg h1]
  by_cases h0 : p.kind = 0
  · have e1 : ∀ y, ¬ (p.kind ≠ 0 ∧ As.look y p.name = none) := fun y e => e.1 h0
    have e5 : ¬ p.kind = 5 := by omega
    have e4 : ¬ p.kind = 4 := by omega
    have ea : ∀ v, As.aim p v a = (p.inst, 20) := fun v => by unfold As.aim; rw [if_neg (by omega), if_neg (by omega), if_neg (by omega)]
    rw [if_neg (e1 _), if_neg (e1 _), if_neg e5, if_neg e5, if_neg e4, if_neg e4, ea, ea]
  · cases hl : As.look sy p.name with
    | none => rw [if_pos ⟨h0, hl⟩] at h; cases h
    | some v =>
      have hl' := hs _ _ hl
      have e1 : ¬ (p.kind ≠ 0 ∧ As.look sy p.name = none) := fun e => by rw [hl] at e; cases e.2
      have e2 : ¬ (p.kind ≠ 0 ∧ As.look sy' p.name = none) := fun e => by rw [hl'] at e; cases e.2
      rw [if_neg e1] at h
      rw [hl] at e1 h
      rw [hl'] at e2
      rw [if_neg e1, hl', if_neg e2]
      by_cases h5 : p.kind = 5
      · rw [if_pos h5] at h ⊢
        rw [if_pos h5]
        cases hw : As.look sy p.src with
        | none => rw [hw] at h; cases h
        | some w => rw [hs _ _ hw]
      · rw [if_neg h5, if_neg h5]
theorem As.puts_more {sy sy' : List (List UInt8 × Nat)} (hs : ∀ s v, As.look sy s = some v → As.look sy' s = some v) {a : Nat} : ∀ {ps : List As.P} {b : List UInt8}, (As.puts sy a ps b).2 = 0 → As.puts sy' a ps b = As.puts sy a ps b
  | [], b, _ => rfl
  | p :: r, b, h => by
    unfold As.puts at h ⊢
    split at h
    · rename_i h1
      rw [if_pos h1, As.piece_more hs h1, if_pos h1]
      exact As.puts_more hs h
    · rename_i h1
      exact absurd h h1
/-- Pieces behind other bytes. -/
theorem As.puts_pre {sy : List (List UInt8 × Nat)} {a : Nat} (pre : List UInt8) : ∀ (ps : List As.P) (b : List UInt8), As.puts sy a ps (pre ++ b) = (pre ++ (As.puts sy (a + pre.length) ps b).1, (As.puts sy (a + pre.length) ps b).2)
  | [], b => rfl
  | p :: r, b => by
    rw [As.puts, As.puts, List.length_append, ← Nat.add_assoc]
    split
    · rw [List.append_assoc]
      exact As.puts_pre pre r _
    · rfl
theorem As.second_more {sy sy' : List (List UInt8 × Nat)} (hs : ∀ s v, As.look sy s = some v → As.look sy' s = some v) {a : Nat} (pre : List UInt8) : ∀ {l : List L6.Line} {i j : Nat} {b b' : List UInt8}, As.second sy (a + pre.length) j b l = .ok b' → As.second sy' a i (pre ++ b) l = .ok (pre ++ b')
  | [], i, j, b, b', h => by
    unfold As.second at h
    injection h with h
    subst h
    rfl
  | x :: r, i, j, b, b', h => by
    unfold As.second at h
    rw [As.second, List.length_append, ← Nat.add_assoc, As.puts_pre]
    split at h
    · rename_i h1
      rw [As.puts_more hs h1, if_pos h1]
      exact As.second_more hs pre h
    · cases h
theorem As.second_app {sy : List (List UInt8 × Nat)} {a : Nat} (m : List L6.Line) : ∀ {l : List L6.Line} {i : Nat} {b b' : List UInt8}, As.second sy a i b l = .ok b' → As.second sy a i b (l ++ m) = As.second sy a (i + l.length) b' m
  | [], i, b, b', h => by
    unfold As.second at h
    injection h with h
    subst h
    rfl
  | x :: r, i, b, b', h => by
    unfold As.second at h
    rw [List.cons_append, As.second]
    split at h
    · rename_i h1
      rw [if_pos h1, As.second_app m h, List.length_cons]
      congr 1
      omega
    · cases h
theorem As.first_err {a : Nat} : ∀ {l : List L6.Line} {i here n : Nat} {sy : List (List UInt8 × Nat)}, As.first a i here sy l = .bad n 0 → False
  | [], i, here, n, sy, h => by unfold As.first at h; cases h
  | x :: r, i, here, n, sy, h => by
    unfold As.first at h
    split at h
    · cases h
    split at h
    · cases h
    split at h
    · cases h
    split at h
    · cases h
    exact As.first_err h
theorem As.second_err {a : Nat} {sy : List (List UInt8 × Nat)} : ∀ {l : List L6.Line} {i n : Nat} {b : List UInt8}, As.second sy a i b l = .bad n 0 → False
  | [], i, n, b, h => by unfold As.second at h; cases h
  | x :: r, i, n, b, h => by
    unfold As.second at h
    split at h
    · exact As.second_err h
    · rename_i h1
      injection h with _ h
      exact h1 h
/-- What is assembled. -/
theorem As.assemble_ok {l : List L6.Line} {a : Nat} (h : (As.assemble l a).err = 0) : a % 4 = 0 ∧ l.length ≤ 32768 ∧ ∃ sy b, As.first a 0 0 [] l = .ok sy ∧ As.second sy a 0 [] l = .ok b ∧ As.assemble l a = ⟨b, sy, 0, 0⟩ := by
  unfold As.assemble at h ⊢
  split at h
  · cases h
  rename_i h1
  rw [if_neg h1]
  refine ⟨by omega, by omega, ?_⟩
  unfold As.passes at h ⊢
  cases hf : As.first a 0 0 [] l with
  | bad n e =>
    rw [hf] at h
    have h : e = 0 := h
    subst h
    exfalso
    exact As.first_err hf
  | ok sy =>
    rw [hf] at h
    dsimp only at h ⊢
    cases hs : As.second sy a 0 [] l with
    | bad n e =>
      rw [hs] at h
      have h : e = 0 := h
      subst h
      exfalso
      exact As.second_err hs
    | ok b => exact ⟨sy, b, rfl, hs, rfl⟩
theorem As.parts_law {l m : List L6.Line} {a : Nat} (hx : (As.assemble l a).err = 0) (hy : (As.assemble m (a + (As.assemble l a).bytes.length)).err = 0) :
    (As.assemble (l ++ m) a).err = 42 ∨ (As.assemble (l ++ m) a).err = 6 ∨ As.assemble (l ++ m) a = ⟨(As.assemble l a).bytes ++ (As.assemble m (a + (As.assemble l a).bytes.length)).bytes, (As.assemble l a).syms ++ (As.assemble m (a + (As.assemble l a).bytes.length)).syms, 0, 0⟩ := by
  obtain ⟨ha, hl, sy, b, h1, h2, h3⟩ := As.assemble_ok hx
  rw [h3] at hy ⊢
  dsimp only at hy ⊢
  obtain ⟨hb, hm, sy2, b2, k1, k2, k3⟩ := As.assemble_ok hy
  rw [k3]
  dsimp only
  unfold As.assemble
  split
  · exact .inr (.inl rfl)
  unfold As.passes
  have hlen := As.second_len h2
  have hf := As.first_app m h1
  rw [show ([] : List UInt8).length = 0 from rfl] at hlen
  rw [← hlen] at hf
  have hp := As.first_pre (a := a) (b := b.length) sy (i := 0 + l.length) k1
  rw [Nat.add_zero, List.append_nil, ← hf] at hp
  rcases hp with ⟨n, e⟩ | ⟨n, e⟩ | e
  · rw [e]; exact .inl rfl
  · rw [e]; exact .inr (.inl rfl)
  · refine .inr (.inr ?_)
    have hn : (As.keys (sy ++ sy2)).Nodup := As.first_nodup (by unfold As.keys; exact List.nodup_nil) e
    rw [e]
    dsimp only
    have e1 := As.second_more (a := a) (sy' := sy ++ sy2) (fun s v hv => As.look_app hv) [] (i := 0) (b := []) (show As.second sy (a + ([] : List UInt8).length) 0 [] l = .ok b from h2)
    rw [List.nil_append, List.nil_append] at e1
    have e2 := As.second_more (a := a) (sy' := sy ++ sy2) (fun s v hv => As.look_pre hn hv) b (i := 0 + l.length) (b := []) k2
    rw [List.append_nil] at e2
    rw [As.second_app m e1, e2]
end Go.Proofs.YtfafdkbnmfpbmaaDoor
/- Layer 7: what pieces may hold. Plain. -/
namespace Go.Proofs.YtfafdkbnmfpbmaaDoor
set_option linter.unusedVariables false
set_option linter.unusedSimpArgs false

structure As.Ok (p : As.P) : Prop where
  inst : p.inst.ok
  bytes : p.bytes.length ≤ 2000000000
  name : p.name.length ≤ 1000000000
  src : p.src.length ≤ 1000000000
def As.OkL (l : List As.P) : Prop := ∀ p ∈ l, As.Ok p
def As.Lo (l : List (List UInt8)) : Prop := ∀ s ∈ l, s.length ≤ 1000000000
structure As.Fine (x : As.L) : Prop where
  p : As.OkL x.p
  l : As.Lo x.l
theorem As.OkL.snoc {l : List As.P} {p : As.P} (h : As.OkL l) (hp : As.Ok p) : As.OkL (l ++ [p]) := fun q hq => by
  rcases List.mem_append.1 hq with hq | hq
  · exact h q hq
  · rw [List.mem_singleton.1 hq]; exact hp
theorem As.Fine.put {x : As.L} (h : As.Fine x) {p : As.P} (hp : As.Ok p) : As.Fine (As.put p x) := ⟨h.p.snoc hp, h.l⟩
theorem As.Fine.sat {x : As.L} (h : As.Fine x) (b : Bool) : As.Fine (As.sat b x) := ⟨h.p, h.l⟩
theorem As.Fine.next {x : As.L} (h : As.Fine x) : As.Fine (As.next x).2 := ⟨by rw [As.next_p]; exact h.p, by rw [As.next_l]; exact fun s hs => h.l s (List.mem_of_mem_tail hs)⟩
theorem As.Fine.reg {x : As.L} (h : As.Fine x) : As.Fine (As.reg x).2 := h.next.sat _
theorem As.Fine.num {x : As.L} (h : As.Fine x) : As.Fine (As.num x).2 := h.next.sat _
theorem As.Fine.name {x : As.L} (h : As.Fine x) : As.Fine (As.name x).2 := h.next.sat _
theorem As.Fine.either {x : As.L} (h : As.Fine x) : As.Fine (As.either x).2 := ⟨by rw [As.either_p]; exact h.p, by rw [As.either_l]; exact fun s hs => h.l s (List.mem_of_mem_tail hs)⟩
theorem L6.number_range (s : List UInt8) : -2147483648 ≤ (L6.number s).1 ∧ (L6.number s).1 ≤ 4294967295 := by
  unfold L6.number
  split
  · have := (s.getD 1 0).toNat_lt
    dsimp only
    omega
  · split
    · rename_i h
      simp only [Bool.and_eq_true, decide_eq_true_eq] at h
      exact h.2
    · decide
theorem As.num_rng (x : As.L) : -2147483648 ≤ (As.num x).1 ∧ (As.num x).1 ≤ 4294967295 := L6.number_range _
theorem As.either_rng (x : As.L) : -2147483648 ≤ (As.either x).1.1 ∧ (As.either x).1.1 ≤ 4294967295 := by
  unfold As.either
  split
  · dsimp only; omega
  · split
    · exact L6.number_range _
    · dsimp only; omega
theorem L6.rows_le2 (c : UInt8) (n : Nat) : (L6.rowsV c n).1 ≤ 100 := by
  unfold L6.rowsV
  repeat' split
  all_goals (dsimp only; omega)
theorem L6.regV_le (s : List UInt8) : (L6.regV s).1 ≤ 100 := by
  unfold L6.regV
  split
  · decide
  split
  · decide
  split
  · decide
  split
  · decide
  split
  · decide
  split
  · decide
  cases (L6.countedV s.tail).2
  · exact Nat.zero_le _
  · exact L6.rows_le2 _ _
theorem As.reg_le (x : As.L) : ((As.reg x).1 : Int) ≤ 100 := by have := L6.regV_le (As.next x).1; show (((L6.regV (As.next x).1).1 : Nat) : Int) ≤ 100; omega
theorem As.ok_inst {op rd rs1 rs2 imm : Int} (h0 : -100 ≤ op ∧ op ≤ 100) (h1 : 0 ≤ rd ∧ rd ≤ 100) (h2 : 0 ≤ rs1 ∧ rs1 ≤ 100) (h3 : 0 ≤ rs2 ∧ rs2 ≤ 100) (h4 : -4294967296 ≤ imm ∧ imm ≤ 4294967296) : Is.Inst.ok ⟨op, rd, rs1, rs2, imm⟩ := by
  constructor <;> unfold Is.in64 <;> dsimp only <;> omega
theorem As.reg_rng (x : As.L) : 0 ≤ ((As.reg x).1 : Int) ∧ ((As.reg x).1 : Int) ≤ 100 := ⟨by omega, As.reg_le x⟩
theorem As.lo_rng (n : Int) : -4294967296 ≤ As.lo n ∧ As.lo n ≤ 4294967296 := by unfold As.lo; omega
theorem As.hi_rng (n : Int) : -4294967296 ≤ As.hi n ∧ As.hi n ≤ 4294967296 := by unfold As.hi; omega
theorem As.rng {n : Int} (h : -2147483648 ≤ n ∧ n ≤ 4294967295) : -4294967296 ≤ n ∧ n ≤ 4294967296 := by omega
theorem As.z_rng : (0 : Int) ≤ 0 ∧ (0 : Int) ≤ 100 := by decide
theorem As.i_rng : (-4294967296 : Int) ≤ 0 ∧ (0 : Int) ≤ 4294967296 := by decide
theorem As.Ok.code {i : Is.Inst} (h : i.ok) (k : Nat) {n : List UInt8} (hn : n.length ≤ 1000000000) : As.Ok ⟨true, i, [], k, n, []⟩ := ⟨h, Nat.zero_le _, hn, Nat.zero_le _⟩
theorem As.no_ok : As.no.ok := by constructor <;> decide
theorem As.Ok.data {b : List UInt8} (h : b.length ≤ 2000000000) (k : Nat) {n s : List UInt8} (hn : n.length ≤ 1000000000) (hs : s.length ≤ 1000000000) : As.Ok ⟨false, As.no, b, k, n, s⟩ := ⟨As.no_ok, h, hn, hs⟩
theorem As.next_lo {x : As.L} (h : As.Fine x) : (As.next x).1.length ≤ 1000000000 := by
  unfold As.next
  split
  · exact Nat.zero_le _
  · rename_i s t e
    exact h.l s (by rw [e]; simp)
theorem As.name_lo {x : As.L} (h : As.Fine x) : (As.name x).1.length ≤ 1000000000 := As.next_lo h
theorem As.either_lo {x : As.L} (h : As.Fine x) : (As.either x).1.2.length ≤ 1000000000 := by
  unfold As.either
  split
  · exact As.name_lo h
  · split
    · exact Nat.zero_le _
    · exact As.name_lo h
theorem As.Fine.code {x : As.L} (h : As.Fine x) {i : Is.Inst} (hi : i.ok) : As.Fine (As.code i x) := h.put (As.Ok.code hi _ (Nat.zero_le _))
theorem As.Fine.to {x : As.L} (h : As.Fine x) {i : Is.Inst} (hi : i.ok) : As.Fine (As.to i x) := by
  refine h.either.put ⟨?_, Nat.zero_le _, As.either_lo h, Nat.zero_le _⟩
  have := As.either_rng x
  exact ⟨hi.op, hi.rd, hi.rs1, hi.rs2, by show Is.in64 (As.either x).1.1; unfold Is.in64; omega⟩
theorem As.inst_fine {op : Int} (ho : -100 ≤ op ∧ op ≤ 100) {x : As.L} (h : As.Fine x) : As.Fine (As.inst op x) := by
  unfold As.inst
  (repeat' split) <;> first
    | exact (h.reg.reg.num).code (As.ok_inst ho (As.reg_rng _) (As.reg_rng _) As.z_rng (As.rng (As.num_rng _)))
    | exact (h.reg.num.reg).code (As.ok_inst ho (As.reg_rng _) (As.reg_rng _) As.z_rng (As.rng (As.num_rng _)))
    | exact (h.reg.num.reg).code (As.ok_inst ho As.z_rng (As.reg_rng _) (As.reg_rng _) (As.rng (As.num_rng _)))
    | exact (h.reg.reg.reg).code (As.ok_inst ho (As.reg_rng _) (As.reg_rng _) (As.reg_rng _) As.i_rng)
    | exact (h.reg.num).code (As.ok_inst ho (As.reg_rng _) As.z_rng As.z_rng (As.rng (As.num_rng _)))
    | exact (h.num).code (As.ok_inst ho As.z_rng As.z_rng As.z_rng (As.rng (As.num_rng _)))
    | exact h.code (As.ok_inst ho As.z_rng As.z_rng As.z_rng As.i_rng)
    | exact (h.reg.reg).to (As.ok_inst ho As.z_rng (As.reg_rng _) (As.reg_rng _) As.i_rng)
    | exact (h.reg).to (As.ok_inst ho (As.reg_rng _) As.z_rng As.z_rng As.i_rng)
theorem As.number_fine (d : Int) (n : Int) (hd : 0 ≤ d ∧ d ≤ 100) {x : As.L} (h : As.Fine x) : As.Fine (As.number d n x) := by
  unfold As.number
  split
  · exact h.code (As.ok_inst (by decide) hd As.z_rng As.z_rng (by omega))
  · exact (h.code (As.ok_inst (by decide) hd As.z_rng As.z_rng (As.hi_rng n))).code (As.ok_inst (by decide) hd hd As.z_rng (As.lo_rng n))
theorem As.pseudo_fine (w : List UInt8) {x y : As.L} (h : As.Fine x) (e : As.pseudo w x = some y) : As.Fine y := by
  unfold As.pseudo at e
  (repeat' split at e) <;> first
    | (injection e with e; subst e; first
        | exact As.number_fine _ _ (As.reg_rng _) h.reg.num
        | exact (h.reg.name.put (As.Ok.code (As.ok_inst (by decide) (As.reg_rng _) As.z_rng As.z_rng As.i_rng) _ (As.name_lo h.reg))).put (As.Ok.code (As.ok_inst (by decide) (As.reg_rng _) (As.reg_rng _) As.z_rng As.i_rng) _ (As.name_lo h.reg))
        | exact h.reg.reg.code (As.ok_inst (by decide) (As.reg_rng _) (As.reg_rng _) As.z_rng (by decide))
        | exact h.reg.reg.code (As.ok_inst (by decide) (As.reg_rng _) As.z_rng (As.reg_rng _) (by decide))
        | exact h.reg.to (As.ok_inst (by decide) As.z_rng (As.reg_rng _) As.z_rng As.i_rng)
        | exact h.code (As.ok_inst (by decide) As.z_rng (by decide) As.z_rng As.i_rng)
        | exact h.to (As.ok_inst (by decide) (by decide) As.z_rng As.z_rng As.i_rng))
    | cases e
theorem As.word1_fine {x : As.L} (h : As.Fine x) : As.Fine (As.word1 x) := h.either.put (As.Ok.data (by rw [As.four_len]; decide) _ (As.either_lo h) (Nat.zero_le _))
theorem As.byte1_fine {x : As.L} (h : As.Fine x) : As.Fine (As.byte1 x) := (h.num.sat _).put (As.Ok.data (by show 1 ≤ _; decide) _ (Nat.zero_le _) (Nat.zero_le _))
theorem As.loop_fine {f : As.L → As.L} (hf : ∀ {x : As.L}, As.Fine x → As.Fine (f x)) : ∀ (n : Nat) {x : As.L}, As.Fine x → As.Fine (As.loop f n x)
  | 0, x, h => h
  | n + 1, x, h => by
    unfold As.loop
    split
    · exact hf h
    · exact As.loop_fine hf n (hf h)
theorem As.data_fine (w : List UInt8) (a : Nat) {x y : As.L} (h : As.Fine x) (e : As.data w a x = some y) : As.Fine y := by
  unfold As.data at e
  split at e
  · injection e with e; subst e; exact As.loop_fine As.word1_fine _ h
  split at e
  · injection e with e; subst e; exact As.loop_fine As.byte1_fine _ h
  split at e
  · injection e with e; subst e
    split
    · refine (h.next.sat _).put (As.Ok.data ?_ _ (Nat.zero_le _) (Nat.zero_le _))
      have := As.next_lo h
      simp only [List.length_drop, List.length_take]
      omega
    · exact h.next.sat _
  split at e
  · injection e with e; subst e
    split
    · rename_i hc
      refine (h.num.sat _).put (As.Ok.data ?_ _ (Nat.zero_le _) (Nat.zero_le _))
      unfold As.spaceOk at hc
      simp only [Bool.and_eq_true, decide_eq_true_eq] at hc
      rw [List.length_replicate]
      omega
    · exact h.num.sat _
  split at e
  · injection e with e; subst e
    exact h.put (As.Ok.data (by rw [List.length_replicate]; omega) _ (Nat.zero_le _) (Nat.zero_le _))
  split at e
  · injection e with e; subst e
    exact h.name.name.put (As.Ok.data (by decide) _ (As.name_lo h.name) (As.name_lo h))
  · cases e
theorem As.found_rng (s : ByteArray) : -100 ≤ Is.found s ∧ Is.found s ≤ 100 := by
  unfold Is.found
  split <;> omega
theorem As.pieces_ok {l : L6.Line} {a : Nat} {p : List As.P} (hl : As.Lo l.args) (e : As.pieces l a = some p) : As.OkL p := by
  have h0 : As.Fine ⟨l.args, true, []⟩ := ⟨(fun q hq => (by cases hq)), hl⟩
  unfold As.pieces at e
  split at e
  · injection e with e; subst e; exact fun q hq => by cases hq
  · split at e
    · cases e
    · rename_i y hy
      have hd : p = y.p := by
        unfold As.done at e
        split at e
        · injection e with e; exact e.symm
        · cases e
      subst hd
      unfold As.read at hy
      split at hy
      · injection hy with hy; subst hy; exact (As.inst_fine (As.found_rng _) h0).p
      · split at hy
        · rename_i z hz
          injection hy with hy; subst hy; exact (As.pseudo_fine _ h0 hz).p
        · exact (As.data_fine _ _ h0 hy).p
/-- How many pieces. -/
theorem As.to_cnt (i : Is.Inst) (x : As.L) : (As.to i x).p.length = x.p.length + 1 := by unfold As.to; rw [As.put_len, As.either_p]
theorem As.code_cnt (i : Is.Inst) (x : As.L) : (As.code i x).p.length = x.p.length + 1 := As.put_len _ _
theorem As.inst_cnt (op : Int) (x : As.L) : (As.inst op x).p.length = x.p.length + 1 := by
  unfold As.inst
  (repeat' split) <;> simp only [As.to_cnt, As.code_cnt, As.reg_p, As.num_p]
theorem As.number_cnt (d n : Int) (x : As.L) : (As.number d n x).p.length ≤ x.p.length + 2 := by
  unfold As.number
  split
  · rw [As.code_cnt]; omega
  · rw [As.code_cnt, As.code_cnt]; omega
theorem As.pseudo_cnt (w : List UInt8) {x y : As.L} (e : As.pseudo w x = some y) : y.p.length ≤ x.p.length + 2 := by
  unfold As.pseudo at e
  (repeat' split at e) <;> first
    | (injection e with e; subst e; first
        | (refine Nat.le_trans (As.number_cnt _ _ _) ?_; rw [As.num_p, As.reg_p]; omega)
        | (simp only [As.put_len, As.to_cnt, As.code_cnt, As.reg_p, As.num_p, As.name_p]; omega))
    | cases e
theorem As.loop_cnt {f : As.L → As.L} (hf : ∀ x, (f x).p.length = x.p.length + 1) (hl : ∀ x, (f x).l = x.l.tail) : ∀ (n : Nat) (x : As.L), (As.loop f n x).p.length ≤ x.p.length + x.l.length + 1
  | 0, x => by unfold As.loop; omega
  | n + 1, x => by
    rw [As.loop_one]
    split
    · rw [hf]; omega
    · rename_i he
      have h1 := As.loop_cnt hf hl n (f x)
      rw [hf, hl, List.length_tail] at h1
      have h2 : 0 < (f x).l.length := List.length_pos_iff.2 he
      rw [hl, List.length_tail] at h2
      omega
theorem As.data_cnt (w : List UInt8) (a : Nat) {x y : As.L} (e : As.data w a x = some y) : y.p.length ≤ x.p.length + x.l.length + 1 := by
  unfold As.data at e
  split at e
  · injection e with e; subst e; exact As.loop_cnt (fun x => by unfold As.word1; rw [As.put_len, As.either_p]) As.word1_l _ _
  split at e
  · injection e with e; subst e; exact As.loop_cnt (fun x => by unfold As.byte1; rw [As.put_len]; show (As.num x).2.p.length + 1 = _; rw [As.num_p]) As.byte1_l _ _
  split at e
  · injection e with e; subst e
    split
    · rw [As.put_len]; show (As.next x).2.p.length + 1 ≤ _; rw [As.next_p]; omega
    · show (As.next x).2.p.length ≤ _; rw [As.next_p]; omega
  split at e
  · injection e with e; subst e
    split
    · rw [As.put_len]; show (As.num x).2.p.length + 1 ≤ _; rw [As.num_p]; omega
    · show (As.num x).2.p.length ≤ _; rw [As.num_p]; omega
  split at e
  · injection e with e; subst e; rw [As.put_len]; omega
  split at e
  · injection e with e; subst e; rw [As.put_len, As.name_p, As.name_p]; omega
  · cases e
theorem As.pieces_cnt {l : L6.Line} {a : Nat} {p : List As.P} (e : As.pieces l a = some p) : p.length ≤ l.args.length + 2 := by
  unfold As.pieces at e
  split at e
  · injection e with e; subst e; exact Nat.zero_le _
  · split at e
    · cases e
    · rename_i y hy
      have hd : p = y.p := by
        unfold As.done at e
        split at e
        · injection e with e; exact e.symm
        · cases e
      subst hd
      unfold As.read at hy
      split at hy
      · injection hy with hy; subst hy; rw [As.inst_cnt]; simp
      · split at hy
        · rename_i z hz
          injection hy with hy; subst hy; have := As.pseudo_cnt _ hz; simp at this; omega
        · have := As.data_cnt _ _ hy; simp at this; omega
theorem As.size_le : ∀ {l : List As.P}, As.OkL l → As.size l ≤ l.length * 2000000004
  | [], _ => by simp [As.size]
  | p :: t, h => by
    have h1 := (h p (by simp)).bytes
    have h2 := As.size_le (fun q hq => h q (by simp [hq]) : As.OkL t)
    rw [As.size_cons, List.length_cons]
    unfold As.size1
    split <;> omega
/-- All places fit. -/
def As.Low (sy : List (List UInt8 × Nat)) : Prop := ∀ p ∈ sy, p.2 < 4294967296
theorem As.Low.look {sy : List (List UInt8 × Nat)} (h : As.Low sy) {s : List UInt8} {v : Nat} (e : As.look sy s = some v) : v < 4294967296 := by
  unfold As.look at e
  cases hf : sy.find? (fun p => p.1 == s) with
  | none => rw [hf] at e; cases e
  | some p =>
    rw [hf] at e
    injection e with e
    rw [← e]
    exact h p (List.mem_of_find?_eq_some hf)
theorem As.labels_low {a : Nat} (ha : a < 4294967296) : ∀ {t : List (List UInt8)} {sy sy1 : List (List UInt8 × Nat)}, As.Low sy → As.labels a t sy = some sy1 → As.Low sy1
  | [], sy, sy1, h, e => by injection e with e; subst e; exact h
  | s :: t, sy, sy1, h, e => by
    unfold As.labels at e
    split at e
    · cases e
    · refine As.labels_low ha ?_ e
      intro p hp
      rcases List.mem_append.1 hp with hp | hp
      · exact h p hp
      · rw [List.mem_singleton.1 hp]; exact ha
theorem As.first_step {a i here : Nat} {sy sy2 : List (List UInt8 × Nat)} {l : L6.Line} {r : List L6.Line} (e : As.first a i here sy (l :: r) = .ok sy2) :
    ∃ sy1 p, As.labels (As.at32 (a + here)) l.labels sy = some sy1 ∧ As.pieces l (As.at32 (a + here)) = some p ∧ here + As.size p ≤ 131072 ∧ As.first a (i + 1) (here + As.size p) sy1 r = .ok sy2 := by
  unfold As.first at e
  cases hl : As.labels (As.at32 (a + here)) l.labels sy with
  | none => rw [hl] at e; cases e
  | some sy1 =>
    rw [hl] at e
    dsimp only at e
    cases hp : As.pieces l (As.at32 (a + here)) with
    | none => rw [hp] at e; cases e
    | some p =>
      rw [hp] at e
      dsimp only at e
      split at e
      · cases e
      · split at e
        · cases e
        · exact ⟨sy1, p, rfl, rfl, by omega, e⟩
theorem As.first_low {a : Nat} : ∀ {l : List L6.Line} {i here : Nat} {sy sy2 : List (List UInt8 × Nat)}, As.Low sy → As.first a i here sy l = .ok sy2 → As.Low sy2
  | [], i, here, sy, sy2, h, e => by injection e with e; subst e; exact h
  | x :: r, i, here, sy, sy2, h, e => by
    obtain ⟨sy1, p, h1, _, _, h2⟩ := As.first_step e
    exact As.first_low (As.labels_low (by unfold As.at32; omega) h h1) h2
end Go.Proofs.YtfafdkbnmfpbmaaDoor
