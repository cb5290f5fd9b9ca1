/- Layer 12: what the compiler computes; bounds; notes behind words change nothing. Plain. -/
import Derived.Test.YtfafdkbnmfpbmaaDoorL6Num2
import Derived.Test.YtfafdkbnmfpbmaaDoorNmPlain
namespace Go.Proofs.YtfafdkbnmfpbmaaDoor
set_option linter.unusedVariables false
set_option linter.unusedSimpArgs false

def Xc.tColon : List UInt8 := [58]
def Xc.tColons : List UInt8 := [58, 58]
def Xc.tVar : List UInt8 := [86, 65, 82, 73, 65, 66, 76, 69]
def Xc.tVars : List UInt8 := [58, 58, 86, 65, 82, 73, 65, 66, 76, 69]
def Xc.tCon : List UInt8 := [67, 79, 78, 83, 84, 65, 78, 84]
def Xc.tCons : List UInt8 := [58, 58, 67, 79, 78, 83, 84, 65, 78, 84]
def Xc.tImm : List UInt8 := [73, 77, 77, 69, 68, 73, 65, 84, 69]
def Xc.tInl : List UInt8 := [73, 78, 76, 73, 78, 69]
def Xc.tNot : List UInt8 := [78, 79, 84, 65, 73, 76]
def Xc.tBegin : List UInt8 := [66, 69, 71, 73, 78]
def Xc.tWhile : List UInt8 := [87, 72, 73, 76, 69]
def Xc.tIf : List UInt8 := [73, 70]
def Xc.tElse : List UInt8 := [69, 76, 83, 69]
def Xc.tThen : List UInt8 := [84, 72, 69, 78]
def Xc.tAgain : List UInt8 := [65, 71, 65, 73, 78]
def Xc.tUntil : List UInt8 := [85, 78, 84, 73, 76]
def Xc.tRepeat : List UInt8 := [82, 69, 80, 69, 65, 84]
def Xc.tSemi : List UInt8 := [59]
def Xc.tExit : List UInt8 := [69, 88, 73, 84]
def Xc.tRec : List UInt8 := [82, 69, 67, 85, 82, 83, 69]
def Xc.tText : List UInt8 := [83, 34]
def Xc.tTick : List UInt8 := [91, 39, 93]
def Xc.tChar : List UInt8 := [91, 67, 72, 65, 82, 93]
def Xc.tNote : List UInt8 := [92]
def Xc.tOpen : List UInt8 := [40]
def Xc.tAsm : List UInt8 := [65, 83, 77]
def Xc.lAddi : List UInt8 := [97, 100, 100, 105, 32, 115, 48, 32, 115, 48, 32, 45, 52]
def Xc.lSw : List UInt8 := [115, 119, 32, 116, 48, 32, 48, 32, 115, 48]
def Xc.lLw : List UInt8 := [108, 119, 32, 116, 48, 32, 48, 32, 115, 48]
def Xc.lPop : List UInt8 := [97, 100, 100, 105, 32, 115, 48, 32, 115, 48, 32, 52]
def Xc.lBnez : List UInt8 := [98, 110, 101, 122, 32, 116, 48, 32, 56]
def Xc.lJ : List UInt8 := [106, 32]
def Xc.lRa : List UInt8 := [108, 119, 32, 114, 97, 32, 48, 32, 115, 112]
def Xc.lSp : List UInt8 := [97, 100, 100, 105, 32, 115, 112, 32, 115, 112, 32, 52]
def Xc.lRet : List UInt8 := [114, 101, 116]
def Xc.lDown : List UInt8 := [97, 100, 100, 105, 32, 115, 112, 32, 115, 112, 32, 45, 52]
def Xc.lSave : List UInt8 := [115, 119, 32, 114, 97, 32, 48, 32, 115, 112]
def Xc.lLa : List UInt8 := [108, 97, 32, 116, 48, 32]
def Xc.lLaA : List UInt8 := [108, 97, 32, 116, 48, 32, 38]
def Xc.lLi : List UInt8 := [108, 105, 32, 116, 48, 32]
def Xc.lWord : List UInt8 := [58, 32, 119, 111, 114, 100, 32, 48]
def Xc.lCall : List UInt8 := [99, 97, 108, 108, 32]
def Xc.lDef : List UInt8 := [100, 101, 102, 32]
def Xc.lPart : List UInt8 := [112, 97, 114, 116, 32]
def Xc.lZero : List UInt8 := [61, 48]

/-- A word: its first line without flags, flags, the others. -/
structure Xc.W where
  first : List UInt8
  flags : Nat
  lines : List (List UInt8)
/-- The compiler: a line's rest; words; is one made; its name; what is open, the last one first; how many labels were made; a number that waits. -/
structure Xc.S where
  s : List UInt8
  words : List Xc.W
  within : Bool
  name : List UInt8
  opens : List (List UInt8 × List UInt8)
  made : Nat
  number : List UInt8
inductive Xc.R where
  | bad (e : Nat)
  | ok (S : Xc.S)
  | stuck
def Xc.gap (c : UInt8) : Bool := decide (c.toNat ≤ 32)
def Xc.skip (s : List UInt8) : List UInt8 := s.dropWhile Xc.gap
def Xc.word (s : List UInt8) : List UInt8 := (Xc.skip s).takeWhile fun c => !Xc.gap c
def Xc.rest (s : List UInt8) : List UInt8 := (Xc.skip s).dropWhile fun c => !Xc.gap c
def Xc.upTo (c : UInt8) (s : List UInt8) : List UInt8 := (s.dropWhile fun x => x != c).drop 1
def Xc.upd (f : Xc.W → Xc.W) : List Xc.W → List Xc.W
  | [] => []
  | [w] => [f w]
  | w :: x :: t => w :: Xc.upd f (x :: t)
def Xc.add (ls : List (List UInt8)) (w : Xc.W) : Xc.W := ⟨w.first, w.flags, w.lines ++ ls⟩
def Xc.put (ls : List (List UInt8)) (S : Xc.S) : Xc.S := ⟨S.s, Xc.upd (Xc.add ls) S.words, S.within, S.name, S.opens, S.made, S.number⟩
def Xc.push (how : List UInt8) (S : Xc.S) : Xc.S := Xc.put [how, Xc.lAddi, Xc.lSw] S
def Xc.unless (k : List UInt8) (S : Xc.S) : Xc.S := Xc.put [Xc.lLw, Xc.lPop, Xc.lBnez, Xc.lJ ++ k] S
def Xc.leave (S : Xc.S) : Xc.S := Xc.put [Xc.lRa, Xc.lSp, Xc.lRet] S
def Xc.here (k : List UInt8) (S : Xc.S) : Xc.S := Xc.put [k ++ [58]] S
def Xc.lab (tag : List UInt8) (n : Nat) : List UInt8 := tag ++ Lib.decDigits n
def Xc.more (S : Xc.S) : Xc.S := ⟨S.s, S.words, S.within, S.name, S.opens, S.made + 1, S.number⟩
def Xc.wait (kind k : List UInt8) (S : Xc.S) : Xc.S := ⟨S.s, S.words, S.within, S.name, (kind, k) :: S.opens, S.made, S.number⟩
def Xc.atRest (s : List UInt8) (S : Xc.S) : Xc.S := ⟨s, S.words, S.within, S.name, S.opens, S.made, S.number⟩
def Xc.shut (l : List (List UInt8 × List UInt8)) (S : Xc.S) : Xc.S := ⟨S.s, S.words, S.within, S.name, l, S.made, S.number⟩
def Xc.inIt (b : Bool) (S : Xc.S) : Xc.S := ⟨S.s, S.words, b, S.name, S.opens, S.made, S.number⟩
def Xc.num (n : List UInt8) (S : Xc.S) : Xc.S := ⟨S.s, S.words, S.within, S.name, S.opens, S.made, n⟩
def Xc.named (S : Xc.S) : Xc.S := ⟨Xc.rest S.s, S.words, S.within, Xc.word S.s, S.opens, S.made, S.number⟩
def Xc.addW (f : List UInt8) (S : Xc.S) : Xc.S := ⟨S.s, S.words ++ [⟨f, 0, []⟩], S.within, S.name, S.opens, S.made, S.number⟩
/-- What was opened last, if it is one of these. -/
def Xc.close (kinds : List (List UInt8)) (S : Xc.S) : Option (List UInt8 × Xc.S) :=
  match S.opens with
  | [] => none
  | (w, k) :: r => if w ∈ kinds then some (k, Xc.shut r S) else none
def Xc.label0 (n : List UInt8) : List UInt8 := Xc.lZero ++ n
def Xc.begin (w : List UInt8) (S : Xc.S) : Xc.R :=
  if Xc.word S.s = [] then .bad 40
  else if Nm.right (Xc.word S.s) = false then .bad 41
  else .ok (Xc.addW ((if Lib.hasPrefix w Xc.tColons then Xc.lPart else Xc.lDef) ++ Xc.word S.s) (Xc.named S))
def Xc.flagW (n : Nat) (w : Xc.W) : Xc.W := ⟨w.first, w.flags ||| n, w.lines⟩
def Xc.flag (n : Nat) (S : Xc.S) : Xc.R :=
  match S.words.getLast? with
  | none => .bad 40
  | some w => if w.first = [] then .bad 40 else .ok ⟨S.s, Xc.upd (Xc.flagW n) S.words, S.within, S.name, S.opens, S.made, S.number⟩
def Xc.makes (w : List UInt8) : Option (List UInt8) :=
  if w = Xc.tColon ∨ w = Xc.tColons then some Xc.tColon
  else if w = Xc.tVar ∨ w = Xc.tVars then some Xc.tVar
  else if w = Xc.tCon ∨ w = Xc.tCons then some Xc.tCon
  else none
/-- What a word's kind says first. -/
def Xc.made_ (kind number : List UInt8) (S : Xc.S) : Xc.S :=
  if kind = Xc.tColon then Xc.put [Xc.lDown, Xc.lSave] (Xc.inIt true S)
  else if kind = Xc.tVar then Xc.put [Xc.lRet, 38 :: (S.name ++ Xc.lWord)] (Xc.push (Xc.lLaA ++ S.name) S)
  else Xc.put [Xc.lRet] (Xc.push (Xc.lLi ++ number) S)
def Xc.make (w kind number : List UInt8) (S : Xc.S) : Xc.R :=
  if decide (kind = Xc.tCon) != (!number.isEmpty) then .bad 40
  else match Xc.begin w S with
    | .ok S1 => .ok (Xc.made_ kind number S1)
    | r => r
def Xc.top (w : List UInt8) (S : Xc.S) : Xc.R :=
  match Xc.makes w with
  | some kind => Xc.make w kind S.number (Xc.num [] S)
  | none =>
    if S.number ≠ [] then .bad 40
    else if w = Xc.tImm then Xc.flag 1 (Xc.num [] S)
    else if w = Xc.tInl then Xc.flag 2 (Xc.num [] S)
    else if w = Xc.tNot then Xc.flag 4 (Xc.num [] S)
    else if (L6.number w).2 = false then .bad 40
    else .ok (Xc.num w S)
def Xc.begins (tag w : List UInt8) (S : Xc.S) : Option Xc.R :=
  if w = Xc.tBegin then some (.ok (Xc.wait w (Xc.lab tag S.made) (Xc.here (Xc.lab tag S.made) (Xc.more S))))
  else if w = Xc.tWhile ∧ (S.opens.head?.map fun p => p.1) ≠ some Xc.tBegin then some (.bad 44)
  else if w = Xc.tWhile ∨ w = Xc.tIf then some (.ok (Xc.wait w (Xc.lab tag S.made) (Xc.unless (Xc.lab tag S.made) (Xc.more S))))
  else none
def Xc.back (S : Xc.S) : List UInt8 × Xc.S := match Xc.close [Xc.tBegin] S with | none => ([], S) | some p => p
/-- What closes: none: it is none of these; some none: it fits to nothing. -/
def Xc.ends (tag w : List UInt8) (S : Xc.S) : Option (Option Xc.S) :=
  if w = Xc.tElse then some (match Xc.close [Xc.tIf] S with
    | none => none
    | some (k, S1) => some (Xc.wait w (Xc.lab tag S1.made) (Xc.put [Xc.lJ ++ Xc.lab tag S1.made, k ++ [58]] (Xc.more S1))))
  else if w = Xc.tThen then some (match Xc.close [Xc.tIf, Xc.tElse] S with
    | none => none
    | some (k, S1) => some (Xc.here k S1))
  else if w = Xc.tAgain then some (match Xc.close [Xc.tBegin] S with
    | none => none
    | some (k, S1) => some (Xc.put [Xc.lJ ++ k] S1))
  else if w = Xc.tUntil then some (match Xc.close [Xc.tBegin] S with
    | none => none
    | some (k, S1) => some (Xc.unless k S1))
  else if w = Xc.tRepeat then some (match Xc.close [Xc.tWhile] S with
    | none => none
    | some (k, S1) => some (Xc.put [Xc.lJ ++ (Xc.back S1).1, k ++ [58]] (Xc.back S1).2))
  else none
def Xc.quoted (w : List UInt8) (S : Xc.S) : Xc.R :=
  if Xc.word S.s = [] then .bad 40
  else if w = Xc.tTick then .ok (Xc.push (Xc.lLa ++ Xc.label0 (Xc.word S.s)) (Xc.atRest (Xc.rest S.s) S))
  else .ok (Xc.push (Xc.lLi ++ Lib.decDigits ((Xc.word S.s).getD 0 0).toNat) (Xc.atRest (Xc.rest S.s) S))
/-- A word that is none of the others. -/
def Xc.other (w : List UInt8) (S : Xc.S) : Xc.S :=
  if (L6.number w).2 = true then Xc.push (Xc.lLi ++ w) S
  else if 1 < w.length ∧ w.getD 0 0 = 38 then Xc.push (Xc.lLa ++ w) S
  else Xc.put [Xc.lCall ++ Xc.label0 w] S
def Xc.inside2 (w : List UInt8) (S : Xc.S) : Xc.R :=
  if w = Xc.tSemi then (if S.opens ≠ [] then .bad 44 else .ok (Xc.leave (Xc.inIt false S)))
  else if w = Xc.tExit then .ok (Xc.leave S)
  else if w = Xc.tRec then .ok (Xc.put [Xc.lCall ++ Xc.label0 S.name] S)
  else if w = Xc.tText then .stuck
  else if w = Xc.tTick ∨ w = Xc.tChar then Xc.quoted w S
  else .ok (Xc.other w S)
def Xc.inside (tag w : List UInt8) (S : Xc.S) : Xc.R :=
  match Xc.begins tag w S with
  | some r => r
  | none => match Xc.ends tag w S with
    | some none => .bad 44
    | some (some S1) => .ok S1
    | none => match Xc.makes w with
      | some _ => .bad 44
      | none => Xc.inside2 w S
def Xc.one (tag w : List UInt8) (S : Xc.S) : Xc.R := if S.within then Xc.inside tag w S else Xc.top w S
def Xc.line (tag : List UInt8) : Nat → Xc.S → Xc.R
  | 0, _ => .stuck
  | n + 1, S =>
    if Xc.word S.s = [] ∨ Xc.word S.s = Xc.tNote then .ok (Xc.atRest (Xc.rest S.s) S)
    else if Xc.word S.s = Xc.tOpen then Xc.line tag n (Xc.atRest (Xc.upTo 41 (Xc.rest S.s)) S)
    else match Xc.one tag (Xc.word S.s) (Xc.atRest (Xc.rest S.s) S) with
      | .ok S1 => Xc.line tag n S1
      | r => r
def Xc.alone (s word : List UInt8) : Bool := decide (Xc.word s = word) && (Xc.word (Xc.rest s)).isEmpty
/-- The lines: an error's number and line, or all. -/
inductive Xc.E where
  | bad (n e : Nat)
  | ok (S : Xc.S)
  | stuck
def Xc.comp (tag : List UInt8) : Nat → Xc.S → List (List UInt8) → Xc.E
  | n, S, [] => if S.within then .bad (n + 1) 44 else if S.number ≠ [] then .bad (n + 1) 40 else .ok S
  | n, S, t :: r =>
    if S.within = false ∧ S.number = [] ∧ Xc.alone t Xc.tAsm = true then .stuck
    else match Xc.line tag (t.length + 1) (Xc.atRest t S) with
      | .ok S1 => Xc.comp tag (n + 1) S1 r
      | .bad e => .bad (n + 1) e
      | .stuck => .stuck
def Xc.start : Xc.S := ⟨[], [], false, [], [], 0, []⟩
def Xc.textW (w : Xc.W) : List UInt8 :=
  (if w.first = [] then [] else w.first ++ ((if Lib.hasPrefix w.first Xc.lDef then 32 :: Lib.decDigits w.flags else []) ++ [10])) ++ w.lines.flatMap fun l => l ++ [10]
def Xc.text (l : List Xc.W) : List UInt8 := l.flatMap Xc.textW
def Xc.rightTag (tag : List UInt8) : Bool := Nm.right tag && !(decide (48 ≤ (tag.getD (tag.length - 1) 0).toNat) && decide ((tag.getD (tag.length - 1) 0).toNat ≤ 57))
/-- The text, the line, the error; none: no word of this file's. -/
def Xc.compile (tag s : List UInt8) : Option (List UInt8 × Nat × Nat) :=
  match Xc.comp tag 0 Xc.start (L6.split s) with
  | .bad n e => some ([], n, e)
  | .ok S => some (Xc.text S.words, 0, 0)
  | .stuck => none
end Go.Proofs.YtfafdkbnmfpbmaaDoor

namespace Go.Proofs.YtfafdkbnmfpbmaaDoor
set_option linter.unusedVariables false
set_option linter.unusedSimpArgs false

def Xc.lsum (l : List (List UInt8)) : Nat := (l.map fun x => x.length + 1).sum
def Xc.wt (w : Xc.W) : Nat := w.first.length + 40 + Xc.lsum w.lines
def Xc.weight (ws : List Xc.W) : Nat := (ws.map Xc.wt).sum
theorem Xc.lsum_app (a b : List (List UInt8)) : Xc.lsum (a ++ b) = Xc.lsum a + Xc.lsum b := by simp [Xc.lsum]
theorem Xc.lsum_cons (x : List UInt8) (t : List (List UInt8)) : Xc.lsum (x :: t) = x.length + 1 + Xc.lsum t := by simp [Xc.lsum]
theorem Xc.lsum_nil : Xc.lsum [] = 0 := rfl
theorem Xc.lsum_len (l : List (List UInt8)) : l.length ≤ Xc.lsum l := by
  induction l with
  | nil => simp [Xc.lsum]
  | cons x t ih => rw [Xc.lsum_cons, List.length_cons]; omega
theorem Xc.lsum_mem {l : List (List UInt8)} {x : List UInt8} (h : x ∈ l) : x.length ≤ Xc.lsum l := by
  induction l with
  | nil => simp at h
  | cons y t ih =>
    rw [Xc.lsum_cons]
    rcases List.mem_cons.1 h with rfl | h
    · omega
    · have := ih h; omega
theorem Xc.weight_app (a b : List Xc.W) : Xc.weight (a ++ b) = Xc.weight a + Xc.weight b := by simp [Xc.weight]
theorem Xc.weight_one (w : Xc.W) : Xc.weight [w] = Xc.wt w := by simp [Xc.weight]
theorem Xc.weight_len (l : List Xc.W) : l.length ≤ Xc.weight l := by
  induction l with
  | nil => simp [Xc.weight]
  | cons x t ih =>
    have : Xc.weight (x :: t) = Xc.wt x + Xc.weight t := by simp [Xc.weight]
    rw [this, List.length_cons]
    unfold Xc.wt
    omega
theorem Xc.weight_mem {l : List Xc.W} {x : Xc.W} (h : x ∈ l) : Xc.wt x ≤ Xc.weight l := by
  induction l with
  | nil => simp at h
  | cons y t ih =>
    have : Xc.weight (y :: t) = Xc.wt y + Xc.weight t := by simp [Xc.weight]
    rw [this]
    rcases List.mem_cons.1 h with rfl | h
    · omega
    · have := ih h; omega
theorem Xc.weight_put (ls : List (List UInt8)) : ∀ (ws : List Xc.W), Xc.weight (Xc.upd (Xc.add ls) ws) ≤ Xc.weight ws + Xc.lsum ls
  | [] => Nat.zero_le _
  | [w] => by
    show Xc.weight [Xc.add ls w] ≤ _
    rw [Xc.weight_one, Xc.weight_one]
    unfold Xc.wt Xc.add
    dsimp only
    rw [Xc.lsum_app]
    omega
  | w :: x :: t => by
    have h := Xc.weight_put ls (x :: t)
    have e1 : ∀ l, Xc.weight (w :: l) = Xc.wt w + Xc.weight l := fun l => by simp [Xc.weight]
    rw [Xc.upd, e1, e1]
    omega
theorem Xc.weight_flag (n : Nat) : ∀ (ws : List Xc.W), Xc.weight (Xc.upd (Xc.flagW n) ws) = Xc.weight ws
  | [] => rfl
  | [w] => by
    show Xc.weight [Xc.flagW n w] = _
    rw [Xc.weight_one, Xc.weight_one]
    rfl
  | w :: x :: t => by
    have h := Xc.weight_flag n (x :: t)
    have e1 : ∀ l, Xc.weight (w :: l) = Xc.wt w + Xc.weight l := fun l => by simp [Xc.weight]
    rw [Xc.upd, e1, e1, h]
theorem Xc.upd_ne (f : Xc.W → Xc.W) : ∀ (ws : List Xc.W), ws ≠ [] → Xc.upd f ws ≠ []
  | [], h => h
  | [w], _ => by simp [Xc.upd]
  | w :: x :: t, _ => by simp [Xc.upd]
theorem Xc.dec_len10 : ∀ (k n : Nat), n < 10 ^ (k + 1) → (Lib.decDigits n).length ≤ k + 1
  | 0, n, h => by
    unfold Lib.decDigits
    rw [dif_pos (by simpa using h)]
    simp
  | k + 1, n, h => by
    unfold Lib.decDigits
    split
    · simp
    · have := Xc.dec_len10 k (n / 10) (by rw [Nat.pow_succ] at h; omega)
      simp only [List.length_append, List.length_cons, List.length_nil]
      omega
/-- Bounds that the walks ask for. -/
structure Xc.Ok (c : Nat) (S : Xc.S) : Prop where
  weight : Xc.weight S.words ≤ 1000000000 + 1000000 * c
  opens : S.opens.length ≤ 1000000 + c
  made : S.made ≤ 1000000 + c
  name : S.name.length ≤ 100000
  number : S.number.length ≤ 100000
  labs : ∀ p ∈ S.opens, p.2.length ≤ 1000
  s : S.s.length ≤ 100000
theorem Xc.Ok.mono {c d : Nat} {S : Xc.S} (h : Xc.Ok c S) (hd : c ≤ d) : Xc.Ok d S := ⟨by have := h.weight; omega, by have := h.opens; omega, by have := h.made; omega, h.name, h.number, h.labs, h.s⟩
theorem Xc.Ok.put {c : Nat} {S : Xc.S} (h : Xc.Ok c S) (ls : List (List UInt8)) (hl : Xc.lsum ls ≤ 1000000) : Xc.Ok (c + 1) (Xc.put ls S) :=
  ⟨by have := h.weight; have := Xc.weight_put ls S.words; show Xc.weight (Xc.upd _ S.words) ≤ _; omega, by have := h.opens; show S.opens.length ≤ _; omega, by have := h.made; show S.made ≤ _; omega, h.name, h.number, h.labs, h.s⟩
theorem Xc.Ok.more {c : Nat} {S : Xc.S} (h : Xc.Ok c S) : Xc.Ok (c + 1) (Xc.more S) :=
  ⟨by have := h.weight; show Xc.weight S.words ≤ _; omega, by have := h.opens; show S.opens.length ≤ _; omega, by have := h.made; show S.made + 1 ≤ _; omega, h.name, h.number, h.labs, h.s⟩
theorem Xc.Ok.wait {c : Nat} {S : Xc.S} (h : Xc.Ok c S) (w k : List UInt8) (hk : k.length ≤ 1000) : Xc.Ok (c + 1) (Xc.wait w k S) :=
  ⟨by have := h.weight; show Xc.weight S.words ≤ _; omega, by have := h.opens; show (_ :: S.opens).length ≤ _; simp only [List.length_cons]; omega, by have := h.made; show S.made ≤ _; omega, h.name, h.number, fun p hp => by
    rcases List.mem_cons.1 hp with rfl | hp
    · exact hk
    · exact h.labs p hp, h.s⟩
theorem Xc.Ok.atRest {c : Nat} {S : Xc.S} (h : Xc.Ok c S) (s : List UInt8) (hs : s.length ≤ 100000) : Xc.Ok c (Xc.atRest s S) := ⟨h.weight, h.opens, h.made, h.name, h.number, h.labs, hs⟩
theorem Xc.Ok.num {c : Nat} {S : Xc.S} (h : Xc.Ok c S) (s : List UInt8) (hs : s.length ≤ 100000) : Xc.Ok c (Xc.num s S) := ⟨h.weight, h.opens, h.made, h.name, hs, h.labs, h.s⟩
theorem Xc.Ok.inIt {c : Nat} {S : Xc.S} (h : Xc.Ok c S) (b : Bool) : Xc.Ok c (Xc.inIt b S) := ⟨h.weight, h.opens, h.made, h.name, h.number, h.labs, h.s⟩
theorem Xc.Ok.addW {c : Nat} {S : Xc.S} (h : Xc.Ok c S) (f : List UInt8) (hf : f.length ≤ 500000) : Xc.Ok (c + 1) (Xc.addW f S) :=
  ⟨by have := h.weight; show Xc.weight (S.words ++ [_]) ≤ _; rw [Xc.weight_app, Xc.weight_one]; unfold Xc.wt; dsimp only; rw [Xc.lsum_nil]; omega, by have := h.opens; show S.opens.length ≤ _; omega, by have := h.made; show S.made ≤ _; omega, h.name, h.number, h.labs, h.s⟩
theorem Xc.close_some {kinds : List (List UInt8)} {S S1 : Xc.S} {k : List UInt8} (h : Xc.close kinds S = some (k, S1)) : ∃ w r, S.opens = (w, k) :: r ∧ w ∈ kinds ∧ S1 = Xc.shut r S := by
  unfold Xc.close at h
  split at h
  · cases h
  · rename_i w k' r e
    split at h
    · rename_i hm
      injection h with h
      injection h with h1 h2
      subst h1
      exact ⟨w, r, e, hm, h2.symm⟩
    · cases h
theorem Xc.Ok.close {c : Nat} {S S1 : Xc.S} {kinds : List (List UInt8)} {k : List UInt8} (h : Xc.Ok c S) (hc : Xc.close kinds S = some (k, S1)) : Xc.Ok c S1 ∧ k.length ≤ 1000 := by
  obtain ⟨w, r, e, _, rfl⟩ := Xc.close_some hc
  have h1 := h.opens
  have h2 := h.labs
  rw [e] at h1 h2
  rw [List.length_cons] at h1
  exact ⟨⟨h.weight, by show r.length ≤ _; omega, h.made, h.name, h.number, fun p hp => h2 p (List.mem_cons_of_mem _ hp), h.s⟩, h2 (w, k) (by simp)⟩
/-- Bounds that hold from word to word: j bytes are taken that nothing has been made of. -/
structure Xc.Lim (j N : Nat) (S : Xc.S) : Prop where
  weight : Xc.weight S.words + 1000 * (S.s.length + j) + 1000 * S.number.length ≤ 1000 * N
  opens : S.opens.length + S.s.length + j ≤ N
  made : S.made + S.s.length + j ≤ N
  name : S.name.length ≤ 31
  labs : ∀ p ∈ S.opens, p.2.length ≤ 50
  has : S.within = true → S.words ≠ []
theorem Xc.Lim.ok {j N : Nat} {S : Xc.S} (h : Xc.Lim j N S) (hN : N ≤ 50000) : Xc.Ok 0 S :=
  ⟨by have := h.weight; omega, by have := h.opens; omega, by have := h.made; omega, by have := h.name; omega, by have := h.weight; omega, fun p hp => by have := h.labs p hp; omega, by have := h.opens; omega⟩
theorem Xc.word_rest (s : List UInt8) : (Xc.word s).length + (Xc.rest s).length ≤ s.length := by
  have h1 : (Xc.skip s).length ≤ s.length := (List.dropWhile_sublist _).length_le
  have h2 : ((Xc.skip s).takeWhile (fun c => !Xc.gap c)).length + ((Xc.skip s).dropWhile (fun c => !Xc.gap c)).length = (Xc.skip s).length := by
    rw [← List.length_append, List.takeWhile_append_dropWhile]
  show ((Xc.skip s).takeWhile _).length + ((Xc.skip s).dropWhile _).length ≤ _
  omega
theorem Xc.Lim.take {N : Nat} {S : Xc.S} (h : Xc.Lim 0 N S) : Xc.Lim (Xc.word S.s).length N (Xc.atRest (Xc.rest S.s) S) := by
  have := Xc.word_rest S.s
  exact ⟨by have := h.weight; show Xc.weight S.words + 1000 * ((Xc.rest S.s).length + _) + 1000 * S.number.length ≤ _; omega, by have := h.opens; show S.opens.length + (Xc.rest S.s).length + _ ≤ _; omega, by have := h.made; show S.made + (Xc.rest S.s).length + _ ≤ _; omega, h.name, h.labs, h.has⟩
theorem Xc.Lim.less {j N : Nat} {S : Xc.S} (h : Xc.Lim j N S) : Xc.Lim 0 N S := ⟨by have := h.weight; omega, by have := h.opens; omega, by have := h.made; omega, h.name, h.labs, h.has⟩
theorem Xc.Lim.shrink {N : Nat} {S : Xc.S} (h : Xc.Lim 0 N S) (s : List UInt8) (hs : s.length ≤ S.s.length) : Xc.Lim 0 N (Xc.atRest s S) :=
  ⟨by have := h.weight; show Xc.weight S.words + 1000 * (s.length + 0) + 1000 * S.number.length ≤ _; omega, by have := h.opens; show S.opens.length + s.length + 0 ≤ _; omega, by have := h.made; show S.made + s.length + 0 ≤ _; omega, h.name, h.labs, h.has⟩
theorem Xc.Lim.line {N : Nat} {S : Xc.S} (h : Xc.Lim 0 N S) (t : List UInt8) : Xc.Lim 0 (N + t.length) (Xc.atRest t S) :=
  ⟨by have := h.weight; show Xc.weight S.words + 1000 * (t.length + 0) + 1000 * S.number.length ≤ _; omega, by have := h.opens; show S.opens.length + t.length + 0 ≤ _; omega, by have := h.made; show S.made + t.length + 0 ≤ _; omega, h.name, h.labs, h.has⟩
/-- What a step from j bytes may leave. -/
theorem Xc.Lim.step {j N : Nat} {S S1 : Xc.S} (h : Xc.Lim j N S) (hs : S1.s.length ≤ S.s.length) (hn : S1.number.length ≤ S.number.length) (hw : Xc.weight S1.words ≤ Xc.weight S.words + 1000 * j + 1000 * (S.number.length - S1.number.length) + 1000 * (S.s.length - S1.s.length))
    (ho : S1.opens.length ≤ S.opens.length + j) (hm : S1.made ≤ S.made + j) (hname : S1.name.length ≤ 31) (hl : ∀ p ∈ S1.opens, p.2.length ≤ 50) (hh : S1.within = true → S1.words ≠ []) : Xc.Lim 0 N S1 :=
  ⟨by have := h.weight; omega, by have := h.opens; omega, by have := h.made; omega, hname, hl, hh⟩
theorem Xc.lab_len {tag : List UInt8} (ht : tag.length ≤ 31) {n : Nat} (hn : n < 1000000) : (Xc.lab tag n).length ≤ 37 := by
  have := Xc.dec_len10 5 n hn
  unfold Xc.lab
  rw [List.length_append]
  omega
theorem Xc.Lim.begins {tag w : List UInt8} (ht : tag.length ≤ 31) {j N : Nat} (hj : 1 ≤ j) (hN : N ≤ 50000) {S S1 : Xc.S} (h : Xc.Lim j N S) (hb : Xc.begins tag w S = some (.ok S1)) : Xc.Lim 0 N S1 := by
  have hl := Xc.lab_len ht (n := S.made) (by have := h.made; omega)
  have hlabs : ∀ p ∈ (w, Xc.lab tag S.made) :: S.opens, p.2.length ≤ 50 := fun p hp => by
    rcases List.mem_cons.1 hp with rfl | hp
    · show (Xc.lab tag S.made).length ≤ 50; omega
    · exact h.labs p hp
  unfold Xc.begins at hb
  split at hb
  · injection hb with hb; injection hb with hb; subst hb
    refine h.step (Nat.le_refl _) (Nat.le_refl _) ?_ ?_ ?_ h.name hlabs (fun e => Xc.upd_ne _ _ (h.has e))
    · have := Xc.weight_put [Xc.lab tag S.made ++ [58]] S.words
      show Xc.weight (Xc.upd _ S.words) ≤ _
      have u : Xc.lsum [Xc.lab tag S.made ++ [58]] ≤ 200 := by (simp only [Xc.lsum_cons, Xc.lsum_nil, List.length_append, List.length_cons, List.length_nil]; omega)
      omega
    · show (_ :: S.opens).length ≤ _; rw [List.length_cons]; omega
    · show S.made + 1 ≤ _; omega
  · split at hb
    · cases hb
    · split at hb
      · injection hb with hb; injection hb with hb; subst hb
        refine h.step (Nat.le_refl _) (Nat.le_refl _) ?_ ?_ ?_ h.name hlabs (fun e => Xc.upd_ne _ _ (h.has e))
        · have := Xc.weight_put [Xc.lLw, Xc.lPop, Xc.lBnez, Xc.lJ ++ Xc.lab tag S.made] S.words
          show Xc.weight (Xc.upd _ S.words) ≤ _
          have u : Xc.lsum [Xc.lLw, Xc.lPop, Xc.lBnez, Xc.lJ ++ Xc.lab tag S.made] ≤ 200 := by (simp only [Xc.lsum_cons, Xc.lsum_nil, List.length_append, Xc.lLw, Xc.lPop, Xc.lBnez, Xc.lJ, List.length_cons, List.length_nil]; omega)
          omega
        · show (_ :: S.opens).length ≤ _; rw [List.length_cons]; omega
        · show S.made + 1 ≤ _; omega
      · cases hb
theorem Xc.Lim.ends {tag w : List UInt8} (ht : tag.length ≤ 31) {j N : Nat} (hj : 1 ≤ j) (hN : N ≤ 50000) {S S1 : Xc.S} (h : Xc.Lim j N S) (hb : Xc.ends tag w S = some (some S1)) : Xc.Lim 0 N S1 := by
  have hl := Xc.lab_len ht (n := S.made) (by have := h.made; omega)
  have hclose : ∀ {kinds : List (List UInt8)} {k : List UInt8} {D : Xc.S}, Xc.close kinds S = some (k, D) → ∃ w r, S.opens = (w, k) :: r ∧ D = Xc.shut r S ∧ k.length ≤ 50 ∧ (∀ p ∈ r, p.2.length ≤ 50) ∧ r.length + 1 = S.opens.length := fun hc => by
    obtain ⟨w, r, e, _, e2⟩ := Xc.close_some hc
    have h2 := h.labs
    rw [e] at h2
    exact ⟨w, r, e, e2, h2 (w, _) (by simp), fun p hp => h2 p (by simp [hp]), by rw [e]; rfl⟩
  unfold Xc.ends at hb
  split at hb
  · injection hb with hb
    split at hb
    · cases hb
    · rename_i k D hc
      obtain ⟨w', r, e, rfl, k1, k2, k3⟩ := hclose hc
      injection hb with hb; subst hb
      refine h.step (Nat.le_refl _) (Nat.le_refl _) ?_ ?_ ?_ h.name (fun p hp => ?_) (fun e => Xc.upd_ne _ _ (h.has e))
      · have := Xc.weight_put [Xc.lJ ++ Xc.lab tag S.made, k ++ [58]] S.words
        show Xc.weight (Xc.upd _ S.words) ≤ _
        have u : Xc.lsum [Xc.lJ ++ Xc.lab tag S.made, k ++ [58]] ≤ 200 := by (simp only [Xc.lsum_cons, Xc.lsum_nil, List.length_append, Xc.lJ, List.length_cons, List.length_nil]; omega)
        show Xc.weight (Xc.upd (Xc.add [Xc.lJ ++ Xc.lab tag S.made, k ++ [58]]) S.words) ≤ _
        omega
      · show (_ :: r).length ≤ _; rw [List.length_cons]; omega
      · show S.made + 1 ≤ _; omega
      · rcases List.mem_cons.1 hp with rfl | hp
        · show (Xc.lab tag S.made).length ≤ 50; omega
        · exact k2 p hp
  split at hb
  · injection hb with hb
    split at hb
    · cases hb
    · rename_i k D hc
      obtain ⟨w', r, e, rfl, k1, k2, k3⟩ := hclose hc
      injection hb with hb; subst hb
      refine h.step (Nat.le_refl _) (Nat.le_refl _) ?_ (by show r.length ≤ _; omega) (by show S.made ≤ _; omega) h.name k2 (fun e => Xc.upd_ne _ _ (h.has e))
      have := Xc.weight_put [k ++ [58]] S.words
      have u : Xc.lsum [k ++ [58]] ≤ 200 := by (simp only [Xc.lsum_cons, Xc.lsum_nil, List.length_append, List.length_cons, List.length_nil]; omega)
      show Xc.weight (Xc.upd (Xc.add [k ++ [58]]) S.words) ≤ _
      omega
  split at hb
  · injection hb with hb
    split at hb
    · cases hb
    · rename_i k D hc
      obtain ⟨w', r, e, rfl, k1, k2, k3⟩ := hclose hc
      injection hb with hb; subst hb
      refine h.step (Nat.le_refl _) (Nat.le_refl _) ?_ (by show r.length ≤ _; omega) (by show S.made ≤ _; omega) h.name k2 (fun e => Xc.upd_ne _ _ (h.has e))
      have := Xc.weight_put [Xc.lJ ++ k] S.words
      have u : Xc.lsum [Xc.lJ ++ k] ≤ 200 := by (simp only [Xc.lsum_cons, Xc.lsum_nil, List.length_append, Xc.lJ, List.length_cons, List.length_nil]; omega)
      show Xc.weight (Xc.upd (Xc.add [Xc.lJ ++ k]) S.words) ≤ _
      omega
  split at hb
  · injection hb with hb
    split at hb
    · cases hb
    · rename_i k D hc
      obtain ⟨w', r, e, rfl, k1, k2, k3⟩ := hclose hc
      injection hb with hb; subst hb
      refine h.step (Nat.le_refl _) (Nat.le_refl _) ?_ (by show r.length ≤ _; omega) (by show S.made ≤ _; omega) h.name k2 (fun e => Xc.upd_ne _ _ (h.has e))
      have := Xc.weight_put [Xc.lLw, Xc.lPop, Xc.lBnez, Xc.lJ ++ k] S.words
      have u : Xc.lsum [Xc.lLw, Xc.lPop, Xc.lBnez, Xc.lJ ++ k] ≤ 200 := by (simp only [Xc.lsum_cons, Xc.lsum_nil, List.length_append, Xc.lLw, Xc.lPop, Xc.lBnez, Xc.lJ, List.length_cons, List.length_nil]; omega)
      show Xc.weight (Xc.upd (Xc.add [Xc.lLw, Xc.lPop, Xc.lBnez, Xc.lJ ++ k]) S.words) ≤ _
      omega
  split at hb
  · injection hb with hb
    split at hb
    · cases hb
    · rename_i k D hc
      obtain ⟨w', r, e, rfl, k1, k2, k3⟩ := hclose hc
      injection hb with hb; subst hb
      have hback : (Xc.back (Xc.shut r S)).1.length ≤ 50 ∧ (Xc.back (Xc.shut r S)).2.words = S.words ∧ (Xc.back (Xc.shut r S)).2.s = S.s ∧ (Xc.back (Xc.shut r S)).2.number = S.number ∧ (Xc.back (Xc.shut r S)).2.opens.length ≤ r.length ∧ (Xc.back (Xc.shut r S)).2.made = S.made ∧ (Xc.back (Xc.shut r S)).2.name = S.name ∧ (∀ p ∈ (Xc.back (Xc.shut r S)).2.opens, p.2.length ≤ 50) ∧ (Xc.back (Xc.shut r S)).2.within = S.within := by
        unfold Xc.back
        cases hc2 : Xc.close [Xc.tBegin] (Xc.shut r S) with
        | none => exact ⟨Nat.zero_le _, rfl, rfl, rfl, Nat.le_refl _, rfl, rfl, k2, rfl⟩
        | some p =>
          obtain ⟨k', D'⟩ := p
          obtain ⟨w2, r2, e2, _, rfl⟩ := Xc.close_some hc2
          have e2 : r = (w2, k') :: r2 := e2
          rw [e2] at k2
          exact ⟨k2 (w2, k') (by simp), rfl, rfl, rfl, by show r2.length ≤ _; rw [e2]; simp, rfl, rfl, fun p hp => k2 p (List.mem_cons_of_mem _ hp), rfl⟩
      obtain ⟨b1, b2, b3, b4, b5, b6, b7, b8, b9⟩ := hback
      generalize Xc.back (Xc.shut r S) = Bk at *
      obtain ⟨bk, BS⟩ := Bk
      dsimp only at *
      refine h.step (by show BS.s.length ≤ _; rw [b3]; exact Nat.le_refl _) (by show BS.number.length ≤ _; rw [b4]; exact Nat.le_refl _) ?_ (by show BS.opens.length ≤ _; omega) (by show BS.made ≤ _; omega) (by show BS.name.length ≤ _; rw [b7]; exact h.name) b8 (fun e => Xc.upd_ne _ _ (by rw [b2]; exact h.has (by rw [← b9]; exact e)))
      have := Xc.weight_put [Xc.lJ ++ bk, k ++ [58]] BS.words
      have u : Xc.lsum [Xc.lJ ++ bk, k ++ [58]] ≤ 200 := by (simp only [Xc.lsum_cons, Xc.lsum_nil, List.length_append, Xc.lJ, List.length_cons, List.length_nil]; omega)
      show Xc.weight (Xc.upd (Xc.add [Xc.lJ ++ bk, k ++ [58]]) BS.words) ≤ _
      rw [b2] at this ⊢
      omega
  · cases hb
theorem Xc.right_len {l : List UInt8} (h : Nm.right l ≠ false) : l.length ≤ 31 ∧ l ≠ [] := by
  have h : Nm.right l = true := by simpa using h
  unfold Nm.right at h
  simp only [Bool.and_eq_true, decide_eq_true_eq] at h
  refine ⟨h.2.2, fun e => ?_⟩
  subst e
  exact absurd h.2.1 (by decide)
theorem Xc.Lim.top {w : List UInt8} {N : Nat} {S S1 : Xc.S} (hw : w ≠ []) (h : Xc.Lim w.length N S) (hb : Xc.top w S = .ok S1) : Xc.Lim 0 N S1 := by
  have hj : 1 ≤ w.length := List.length_pos_iff.2 hw
  unfold Xc.top at hb
  split at hb
  · rename_i kind hk
    unfold Xc.make at hb
    split at hb
    · cases hb
    rename_i hcond
    have hnum : kind ≠ Xc.tCon → S.number = [] := fun hne => by
      rw [decide_eq_false hne] at hcond
      cases hn : S.number with
      | nil => rfl
      | cons c t => rw [hn] at hcond; simp at hcond
    unfold Xc.begin at hb
    have es : (Xc.num [] S).s = S.s := rfl
    rw [es] at hb
    by_cases h1 : Xc.word S.s = []
    · rw [if_pos h1] at hb; cases hb
    rw [if_neg h1] at hb
    by_cases h2 : Nm.right (Xc.word S.s) = false
    · rw [if_pos h2] at hb; cases hb
    rw [if_neg h2] at hb
    obtain ⟨hwl, _⟩ := Xc.right_len h2
    have hwr := Xc.word_rest S.s
    have hw1 : 1 ≤ (Xc.word S.s).length := List.length_pos_iff.2 h1
    injection hb with hb
    subst hb
    generalize hf : (if Lib.hasPrefix w Xc.tColons = true then Xc.lPart else Xc.lDef) ++ Xc.word S.s = f
    have hfl : f.length ≤ 36 := by
      subst hf
      rw [List.length_append]
      split
      · simp only [Xc.lPart, List.length_cons, List.length_nil]; omega
      · simp only [Xc.lDef, List.length_cons, List.length_nil]; omega
    have hwt : Xc.weight (S.words ++ [(⟨f, 0, []⟩ : Xc.W)]) ≤ Xc.weight S.words + 76 := by
      rw [Xc.weight_app, Xc.weight_one]
      unfold Xc.wt
      dsimp only
      rw [Xc.lsum_nil]
      omega
    unfold Xc.made_
    split
    · refine h.step (by show (Xc.rest S.s).length ≤ _; omega) (Nat.zero_le _) ?_ (by show S.opens.length ≤ _; omega) (by show S.made ≤ _; omega) hwl h.labs (fun _ => Xc.upd_ne _ _ (fun e => by cases (List.append_eq_nil_iff.1 e).2))
      have := Xc.weight_put [Xc.lDown, Xc.lSave] (S.words ++ [(⟨f, 0, []⟩ : Xc.W)])
      have u : Xc.lsum [Xc.lDown, Xc.lSave] ≤ 200 := by (simp only [Xc.lsum_cons, Xc.lsum_nil, Xc.lDown, Xc.lSave, List.length_cons, List.length_nil]; omega)
      show Xc.weight (Xc.upd (Xc.add [Xc.lDown, Xc.lSave]) (S.words ++ [(⟨f, 0, []⟩ : Xc.W)])) ≤ _
      omega
    split
    · refine h.step (by show (Xc.rest S.s).length ≤ _; omega) (Nat.zero_le _) ?_ (by show S.opens.length ≤ _; omega) (by show S.made ≤ _; omega) hwl h.labs (fun _ => Xc.upd_ne _ _ (Xc.upd_ne _ _ (fun e => by cases (List.append_eq_nil_iff.1 e).2)))
      have t1 := Xc.weight_put [Xc.lLaA ++ Xc.word S.s, Xc.lAddi, Xc.lSw] (S.words ++ [(⟨f, 0, []⟩ : Xc.W)])
      have t2 := Xc.weight_put [Xc.lRet, 38 :: (Xc.word S.s ++ Xc.lWord)] (Xc.upd (Xc.add [Xc.lLaA ++ Xc.word S.s, Xc.lAddi, Xc.lSw]) (S.words ++ [(⟨f, 0, []⟩ : Xc.W)]))
      show Xc.weight (Xc.upd (Xc.add [Xc.lRet, 38 :: (Xc.word S.s ++ Xc.lWord)]) (Xc.upd (Xc.add [Xc.lLaA ++ Xc.word S.s, Xc.lAddi, Xc.lSw]) (S.words ++ [(⟨f, 0, []⟩ : Xc.W)]))) ≤ _
      have u1 : Xc.lsum [Xc.lLaA ++ Xc.word S.s, Xc.lAddi, Xc.lSw] ≤ 100 := by
        simp only [Xc.lsum_cons, Xc.lsum_nil, List.length_append, Xc.lLaA, Xc.lAddi, Xc.lSw, List.length_cons, List.length_nil]; omega
      have u2 : Xc.lsum [Xc.lRet, 38 :: (Xc.word S.s ++ Xc.lWord)] ≤ 100 := by
        simp only [Xc.lsum_cons, Xc.lsum_nil, List.length_append, Xc.lRet, Xc.lWord, List.length_cons, List.length_nil]; omega
      omega
    · refine h.step (by show (Xc.rest S.s).length ≤ _; omega) (Nat.zero_le _) ?_ (by show S.opens.length ≤ _; omega) (by show S.made ≤ _; omega) hwl h.labs (fun _ => Xc.upd_ne _ _ (Xc.upd_ne _ _ (fun e => by cases (List.append_eq_nil_iff.1 e).2)))
      have t1 := Xc.weight_put [Xc.lLi ++ S.number, Xc.lAddi, Xc.lSw] (S.words ++ [(⟨f, 0, []⟩ : Xc.W)])
      have t2 := Xc.weight_put [Xc.lRet] (Xc.upd (Xc.add [Xc.lLi ++ S.number, Xc.lAddi, Xc.lSw]) (S.words ++ [(⟨f, 0, []⟩ : Xc.W)]))
      show Xc.weight (Xc.upd (Xc.add [Xc.lRet]) (Xc.upd (Xc.add [Xc.lLi ++ S.number, Xc.lAddi, Xc.lSw]) (S.words ++ [(⟨f, 0, []⟩ : Xc.W)]))) ≤ Xc.weight S.words + 1000 * w.length + 1000 * (S.number.length - 0) + 1000 * (S.s.length - (Xc.rest S.s).length)
      have u1 : Xc.lsum [Xc.lLi ++ S.number, Xc.lAddi, Xc.lSw] ≤ 100 + S.number.length := by
        simp only [Xc.lsum_cons, Xc.lsum_nil, List.length_append, Xc.lLi, Xc.lAddi, Xc.lSw, List.length_cons, List.length_nil]; omega
      have u2 : Xc.lsum [Xc.lRet] ≤ 100 := by
        simp only [Xc.lsum_cons, Xc.lsum_nil, List.length_append, Xc.lRet, List.length_cons, List.length_nil]; omega
      omega
  · have hf : ∀ n, Xc.flag n (Xc.num [] S) = .ok S1 → Xc.Lim 0 N S1 := fun n e => by
      unfold Xc.flag at e
      split at e
      · cases e
      split at e
      · cases e
      injection e with e
      subst e
      refine h.step (Nat.le_refl _) (Nat.zero_le _) ?_ (by show S.opens.length ≤ _; omega) (by show S.made ≤ _; omega) h.name h.labs (fun e => Xc.upd_ne _ _ (h.has e))
      show Xc.weight (Xc.upd (Xc.flagW n) S.words) ≤ _
      rw [Xc.weight_flag]
      omega
    split at hb
    · cases hb
    rename_i hnum
    have hnum : S.number = [] := by
      cases hn : S.number with
      | nil => rfl
      | cons c t => exact absurd (by rw [hn]; simp) hnum
    split at hb
    · exact hf 1 hb
    split at hb
    · exact hf 2 hb
    split at hb
    · exact hf 4 hb
    split at hb
    · cases hb
    · injection hb with hb
      subst hb
      have hwg := h.weight
      rw [hnum, List.length_nil] at hwg
      exact ⟨by show Xc.weight S.words + 1000 * (S.s.length + 0) + 1000 * w.length ≤ _; omega, by have := h.opens; show S.opens.length + S.s.length + 0 ≤ _; omega, by have := h.made; show S.made + S.s.length + 0 ≤ _; omega, h.name, h.labs, h.has⟩
theorem Xc.Lim.inside {tag w : List UInt8} (ht : tag.length ≤ 31) {N : Nat} (hN : N ≤ 50000) {S S1 : Xc.S} (hw : w ≠ []) (h : Xc.Lim w.length N S) (hb : Xc.inside tag w S = .ok S1) : Xc.Lim 0 N S1 := by
  have hj : 1 ≤ w.length := List.length_pos_iff.2 hw
  unfold Xc.inside at hb
  cases h1 : Xc.begins tag w S with
  | some r => rw [h1] at hb; have hb : r = _ := hb; subst hb; exact h.begins ht hj hN h1
  | none =>
    rw [h1] at hb
    dsimp only at hb
    cases h2 : Xc.ends tag w S with
    | some o =>
      rw [h2] at hb
      cases o with
      | none => cases hb
      | some D => injection hb with hb; subst hb; exact h.ends ht hj hN h2
    | none =>
      rw [h2] at hb
      dsimp only at hb
      cases h3 : Xc.makes w with
      | some k => rw [h3] at hb; cases hb
      | none =>
        rw [h3] at hb
        dsimp only at hb
        have hput : ∀ ls, Xc.lsum ls ≤ 200 + 3 * w.length → Xc.Lim 0 N (Xc.put ls S) := fun ls hl => by
          refine h.step (Nat.le_refl _) (Nat.le_refl _) ?_ (by show S.opens.length ≤ _; omega) (by show S.made ≤ _; omega) h.name h.labs (fun e => Xc.upd_ne _ _ (h.has e))
          have := Xc.weight_put ls S.words
          show Xc.weight (Xc.upd (Xc.add ls) S.words) ≤ _
          omega
        have hname := h.name
        unfold Xc.inside2 at hb
        split at hb
        · split at hb
          · cases hb
          · injection hb with hb
            subst hb
            refine h.step (Nat.le_refl _) (Nat.le_refl _) ?_ (by show S.opens.length ≤ _; omega) (by show S.made ≤ _; omega) h.name h.labs (fun e => by cases e)
            have := Xc.weight_put [Xc.lRa, Xc.lSp, Xc.lRet] S.words
            have u : Xc.lsum [Xc.lRa, Xc.lSp, Xc.lRet] ≤ 200 := by (simp only [Xc.lsum_cons, Xc.lsum_nil, Xc.lRa, Xc.lSp, Xc.lRet, List.length_cons, List.length_nil]; omega)
            show Xc.weight (Xc.upd (Xc.add [Xc.lRa, Xc.lSp, Xc.lRet]) S.words) ≤ _
            omega
        split at hb
        · injection hb with hb; subst hb
          exact hput _ (by simp only [Xc.lsum_cons, Xc.lsum_nil, Xc.lRa, Xc.lSp, Xc.lRet, List.length_cons, List.length_nil]; omega)
        split at hb
        · injection hb with hb; subst hb
          exact hput _ (by simp only [Xc.lsum_cons, Xc.lsum_nil, Xc.lCall, Xc.label0, Xc.lZero, List.length_append, List.length_cons, List.length_nil]; omega)
        split at hb
        · cases hb
        split at hb
        · unfold Xc.quoted at hb
          split at hb
          · cases hb
          rename_i h0
          have hwr := Xc.word_rest S.s
          have hw1 : 1 ≤ (Xc.word S.s).length := List.length_pos_iff.2 h0
          have hq : ∀ ls, Xc.lsum ls ≤ 200 + 3 * (Xc.word S.s).length → Xc.Lim 0 N (Xc.put ls (Xc.atRest (Xc.rest S.s) S)) := fun ls hl => by
            refine h.step (by show (Xc.rest S.s).length ≤ _; omega) (Nat.le_refl _) ?_ (by show S.opens.length ≤ _; omega) (by show S.made ≤ _; omega) h.name h.labs (fun e => Xc.upd_ne _ _ (h.has e))
            have := Xc.weight_put ls S.words
            show Xc.weight (Xc.upd (Xc.add ls) S.words) ≤ Xc.weight S.words + 1000 * w.length + 1000 * (S.number.length - S.number.length) + 1000 * (S.s.length - (Xc.rest S.s).length)
            omega
          split at hb
          · injection hb with hb; subst hb
            exact hq _ (by simp only [Xc.lsum_cons, Xc.lsum_nil, Xc.lLa, Xc.label0, Xc.lZero, Xc.lAddi, Xc.lSw, List.length_append, List.length_cons, List.length_nil]; omega)
          · injection hb with hb; subst hb
            have hd := Xc.dec_len10 2 ((Xc.word S.s).getD 0 0).toNat (by have := ((Xc.word S.s).getD 0 0).toNat_lt; omega)
            exact hq _ (by simp only [Xc.lsum_cons, Xc.lsum_nil, Xc.lLi, Xc.lAddi, Xc.lSw, List.length_append, List.length_cons, List.length_nil]; omega)
        · injection hb with hb
          subst hb
          unfold Xc.other
          split
          · exact hput _ (by simp only [Xc.lsum_cons, Xc.lsum_nil, Xc.lLi, Xc.lAddi, Xc.lSw, List.length_append, List.length_cons, List.length_nil]; omega)
          split
          · exact hput _ (by simp only [Xc.lsum_cons, Xc.lsum_nil, Xc.lLa, Xc.lAddi, Xc.lSw, List.length_append, List.length_cons, List.length_nil]; omega)
          · exact hput _ (by simp only [Xc.lsum_cons, Xc.lsum_nil, Xc.lCall, Xc.label0, Xc.lZero, List.length_append, List.length_cons, List.length_nil]; omega)
theorem Xc.Lim.one {tag w : List UInt8} (ht : tag.length ≤ 31) {N : Nat} (hN : N ≤ 50000) {S S1 : Xc.S} (hw : w ≠ []) (h : Xc.Lim w.length N S) (hb : Xc.one tag w S = .ok S1) : Xc.Lim 0 N S1 := by
  unfold Xc.one at hb
  split at hb
  · exact h.inside ht hN hw hb
  · exact h.top hw hb
theorem Xc.upTo_len (c : UInt8) (s : List UInt8) : (Xc.upTo c s).length ≤ s.length := by
  unfold Xc.upTo
  have := (List.dropWhile_sublist (l := s) (fun x => x != c)).length_le
  rw [List.length_drop]
  omega
end Go.Proofs.YtfafdkbnmfpbmaaDoor

namespace Go.Proofs.YtfafdkbnmfpbmaaDoor
set_option linter.unusedVariables false
set_option linter.unusedSimpArgs false

theorem Xc.gap32 : Xc.gap 32 = true := rfl
theorem Xc.tail_word (t : List UInt8) : (32 :: t).takeWhile (fun c => !Xc.gap c) = [] := rfl
theorem Xc.tail_rest (t : List UInt8) : (32 :: t).dropWhile (fun c => !Xc.gap c) = 32 :: t := rfl
theorem Xc.word_app {r t : List UInt8} (h : Xc.word r ≠ []) : Xc.word (r ++ 32 :: t) = Xc.word r ∧ Xc.rest (r ++ 32 :: t) = Xc.rest r ++ 32 :: t := by
  have hs : Xc.skip r ≠ [] := fun e => h (by unfold Xc.word; rw [e]; rfl)
  have e1 : Xc.skip (r ++ 32 :: t) = Xc.skip r ++ 32 :: t := by
    unfold Xc.skip at hs ⊢
    rw [List.dropWhile_append, if_neg (by simpa using hs)]
  constructor
  · unfold Xc.word
    rw [e1, List.takeWhile_append]
    split
    · rename_i hl
      rw [Xc.tail_word, List.append_nil]
      exact (List.Sublist.eq_of_length (List.takeWhile_sublist _) hl).symm
    · rfl
  · unfold Xc.rest
    rw [e1, List.dropWhile_append]
    split
    · rename_i h0
      rw [List.isEmpty_iff.1 h0, Xc.tail_rest, List.nil_append]
    · rfl
def Xc.taker (w : List UInt8) : Bool := decide (w = Xc.tColon) || (decide (w = Xc.tColons) || (decide (w = Xc.tVar) || (decide (w = Xc.tVars) || (decide (w = Xc.tCon) || (decide (w = Xc.tCons) || (decide (w = Xc.tTick) || decide (w = Xc.tChar)))))))
def Xc.Like (tail : List UInt8) : Xc.R → Xc.R → Prop
  | .bad e, b => b = .bad e
  | .ok S, b => b = .ok (Xc.atRest (S.s ++ tail) S)
  | .stuck, _ => False
theorem Xc.makes_taker {w kind : List UInt8} (h : Xc.makes w = some kind) : Xc.taker w = true := by
  unfold Xc.makes at h
  unfold Xc.taker
  repeat' split at h
  all_goals first
    | (rename_i h1; rcases h1 with h1 | h1 <;> (rw [h1]; decide))
    | cases h
theorem Xc.begins_tail (tag w ρ ρ' : List UInt8) (S : Xc.S) : (Xc.begins tag w (Xc.atRest ρ S) = none ∧ Xc.begins tag w (Xc.atRest ρ' S) = none) ∨ (∃ e, Xc.begins tag w (Xc.atRest ρ S) = some (.bad e) ∧ Xc.begins tag w (Xc.atRest ρ' S) = some (.bad e)) ∨
    ∃ D, Xc.begins tag w (Xc.atRest ρ S) = some (.ok D) ∧ Xc.begins tag w (Xc.atRest ρ' S) = some (.ok (Xc.atRest ρ' D)) ∧ D.s = ρ := by
  unfold Xc.begins
  by_cases h1 : w = Xc.tBegin
  · rw [if_pos h1, if_pos h1]
    exact .inr (.inr ⟨_, rfl, rfl, rfl⟩)
  rw [if_neg h1, if_neg h1]
  by_cases h2 : w = Xc.tWhile ∧ (S.opens.head?.map fun p => p.1) ≠ some Xc.tBegin
  · rw [if_pos (show w = Xc.tWhile ∧ ((Xc.atRest ρ S).opens.head?.map fun p => p.1) ≠ some Xc.tBegin from h2), if_pos (show w = Xc.tWhile ∧ ((Xc.atRest ρ' S).opens.head?.map fun p => p.1) ≠ some Xc.tBegin from h2)]
    exact .inr (.inl ⟨_, rfl, rfl⟩)
  rw [if_neg (show ¬ (w = Xc.tWhile ∧ ((Xc.atRest ρ S).opens.head?.map fun p => p.1) ≠ some Xc.tBegin) from h2), if_neg (show ¬ (w = Xc.tWhile ∧ ((Xc.atRest ρ' S).opens.head?.map fun p => p.1) ≠ some Xc.tBegin) from h2)]
  by_cases h3 : w = Xc.tWhile ∨ w = Xc.tIf
  · rw [if_pos h3, if_pos h3]
    exact .inr (.inr ⟨_, rfl, rfl, rfl⟩)
  rw [if_neg h3, if_neg h3]
  exact .inl ⟨rfl, rfl⟩
theorem Xc.close_tail (kinds : List (List UInt8)) (ρ ρ' : List UInt8) (S : Xc.S) : (Xc.close kinds (Xc.atRest ρ S) = none ∧ Xc.close kinds (Xc.atRest ρ' S) = none) ∨ ∃ k D, Xc.close kinds (Xc.atRest ρ S) = some (k, D) ∧ Xc.close kinds (Xc.atRest ρ' S) = some (k, Xc.atRest ρ' D) ∧ D.s = ρ := by
  obtain ⟨s, ws, wi, nm, op, md, nb⟩ := S
  unfold Xc.close
  simp only [Xc.atRest]
  cases op with
  | nil => exact .inl ⟨rfl, rfl⟩
  | cons p r =>
    obtain ⟨x, k⟩ := p
    dsimp only
    by_cases h : x ∈ kinds
    · rw [if_pos h, if_pos h]; exact .inr ⟨_, _, rfl, rfl, rfl⟩
    · rw [if_neg h, if_neg h]; exact .inl ⟨rfl, rfl⟩
theorem Xc.back_tail (ρ' : List UInt8) (D : Xc.S) : (Xc.back (Xc.atRest ρ' D)).1 = (Xc.back D).1 ∧ (Xc.back (Xc.atRest ρ' D)).2 = Xc.atRest ρ' (Xc.back D).2 ∧ (Xc.back D).2.s = D.s := by
  have e : Xc.atRest D.s D = D := rfl
  have h := Xc.close_tail [Xc.tBegin] D.s ρ' D
  rw [e] at h
  unfold Xc.back
  rcases h with ⟨h1, h2⟩ | ⟨k, E, h1, h2, h3⟩
  · rw [h1, h2]; exact ⟨rfl, rfl, rfl⟩
  · rw [h1, h2]; exact ⟨rfl, rfl, h3⟩
theorem Xc.ends_tail (tag w ρ ρ' : List UInt8) (S : Xc.S) : (Xc.ends tag w (Xc.atRest ρ S) = none ∧ Xc.ends tag w (Xc.atRest ρ' S) = none) ∨ (Xc.ends tag w (Xc.atRest ρ S) = some none ∧ Xc.ends tag w (Xc.atRest ρ' S) = some none) ∨
    ∃ D, Xc.ends tag w (Xc.atRest ρ S) = some (some D) ∧ Xc.ends tag w (Xc.atRest ρ' S) = some (some (Xc.atRest ρ' D)) ∧ D.s = ρ := by
  unfold Xc.ends
  have c1 := Xc.close_tail [Xc.tIf] ρ ρ' S
  have c2 := Xc.close_tail [Xc.tIf, Xc.tElse] ρ ρ' S
  have c3 := Xc.close_tail [Xc.tBegin] ρ ρ' S
  have c4 := Xc.close_tail [Xc.tWhile] ρ ρ' S
  by_cases h1 : w = Xc.tElse
  · rw [if_pos h1, if_pos h1]
    rcases c1 with ⟨a, b⟩ | ⟨k, D, a, b, e⟩
    · rw [a, b]; exact .inr (.inl ⟨rfl, rfl⟩)
    · rw [a, b]; exact .inr (.inr ⟨_, rfl, rfl, e⟩)
  rw [if_neg h1, if_neg h1]
  by_cases h2 : w = Xc.tThen
  · rw [if_pos h2, if_pos h2]
    rcases c2 with ⟨a, b⟩ | ⟨k, D, a, b, e⟩
    · rw [a, b]; exact .inr (.inl ⟨rfl, rfl⟩)
    · rw [a, b]; exact .inr (.inr ⟨_, rfl, rfl, e⟩)
  rw [if_neg h2, if_neg h2]
  by_cases h3 : w = Xc.tAgain
  · rw [if_pos h3, if_pos h3]
    rcases c3 with ⟨a, b⟩ | ⟨k, D, a, b, e⟩
    · rw [a, b]; exact .inr (.inl ⟨rfl, rfl⟩)
    · rw [a, b]; exact .inr (.inr ⟨_, rfl, rfl, e⟩)
  rw [if_neg h3, if_neg h3]
  by_cases h4 : w = Xc.tUntil
  · rw [if_pos h4, if_pos h4]
    rcases c3 with ⟨a, b⟩ | ⟨k, D, a, b, e⟩
    · rw [a, b]; exact .inr (.inl ⟨rfl, rfl⟩)
    · rw [a, b]; exact .inr (.inr ⟨_, rfl, rfl, e⟩)
  rw [if_neg h4, if_neg h4]
  by_cases h5 : w = Xc.tRepeat
  · rw [if_pos h5, if_pos h5]
    rcases c4 with ⟨a, b⟩ | ⟨k, D, a, b, e⟩
    · rw [a, b]; exact .inr (.inl ⟨rfl, rfl⟩)
    · rw [a, b]
      obtain ⟨b1, b2, b3⟩ := Xc.back_tail ρ' D
      refine .inr (.inr ⟨_, rfl, ?_, b3.trans e⟩)
      dsimp only
      rw [b1, b2]
      rfl
  rw [if_neg h5, if_neg h5]
  exact .inl ⟨rfl, rfl⟩
theorem Xc.begin_tail (w ρ t : List UInt8) (S : Xc.S) (h : Xc.word ρ ≠ []) : Xc.Like (32 :: t) (Xc.begin w (Xc.atRest ρ S)) (Xc.begin w (Xc.atRest (ρ ++ 32 :: t) S)) := by
  obtain ⟨e1, e2⟩ := Xc.word_app (t := t) h
  have es : ∀ x, (Xc.atRest x S).s = x := fun _ => rfl
  unfold Xc.begin
  rw [es, es, e1, if_neg h, if_neg h]
  by_cases hr : Nm.right (Xc.word ρ) = false
  · rw [if_pos hr, if_pos hr]
    rfl
  rw [if_neg hr, if_neg hr]
  show Xc.R.ok (⟨Xc.rest (ρ ++ 32 :: t), _, _, Xc.word (ρ ++ 32 :: t), _, _, _⟩ : Xc.S) = Xc.R.ok _
  rw [e1, e2]
  rfl
theorem Xc.made_tail (kind number ρ : List UInt8) (S : Xc.S) : Xc.made_ kind number (Xc.atRest ρ S) = Xc.atRest ρ (Xc.made_ kind number S) ∧ (Xc.made_ kind number S).s = S.s := by
  unfold Xc.made_
  by_cases h1 : kind = Xc.tColon
  · rw [if_pos h1, if_pos h1]; exact ⟨rfl, rfl⟩
  rw [if_neg h1, if_neg h1]
  by_cases h2 : kind = Xc.tVar
  · rw [if_pos h2, if_pos h2]; exact ⟨rfl, rfl⟩
  rw [if_neg h2, if_neg h2]
  exact ⟨rfl, rfl⟩
theorem Xc.top_tail (w ρ t : List UInt8) (S : Xc.S) (h : Xc.taker w = true → Xc.word ρ ≠ []) : Xc.Like (32 :: t) (Xc.top w (Xc.atRest ρ S)) (Xc.top w (Xc.atRest (ρ ++ 32 :: t) S)) ∧ ∀ D, Xc.top w (Xc.atRest ρ S) = .ok D → D.s = ρ ∨ (Xc.word ρ ≠ [] ∧ D.s = Xc.rest ρ) := by
  unfold Xc.top
  cases hm : Xc.makes w with
  | some kind =>
    have hw := h (Xc.makes_taker hm)
    dsimp only
    unfold Xc.make
    have en : (Xc.atRest (ρ ++ 32 :: t) S).number = (Xc.atRest ρ S).number := rfl
    rw [en]
    split
    · exact ⟨rfl, fun D e => by cases e⟩
    have hb := Xc.begin_tail w ρ t (Xc.num [] S) hw
    have ea : ∀ x, Xc.num [] (Xc.atRest x S) = Xc.atRest x (Xc.num [] S) := fun _ => rfl
    rw [ea, ea]
    have hrest : ∀ D, Xc.begin w (Xc.atRest ρ (Xc.num [] S)) = .ok D → D.s = Xc.rest ρ := fun D e => by
      unfold Xc.begin at e
      split at e
      · cases e
      split at e
      · cases e
      · cases e; rfl
    cases hB : Xc.begin w (Xc.atRest ρ (Xc.num [] S)) with
    | bad e => rw [hB] at hb; have hb : _ = _ := hb; rw [hb]; exact ⟨rfl, fun D e => by cases e⟩
    | stuck => rw [hB] at hb; exact hb.elim
    | ok D =>
      rw [hB] at hb
      have hb : _ = _ := hb
      rw [hb]
      have hs := hrest D hB
      dsimp only
      obtain ⟨m1, m2⟩ := Xc.made_tail kind (Xc.atRest ρ S).number (D.s ++ 32 :: t) D
      rw [m1]
      refine ⟨?_, fun E e => ?_⟩
      · show Xc.R.ok _ = Xc.R.ok _
        rw [m2]
      · cases e; exact .inr ⟨hw, m2.trans hs⟩
  | none =>
    dsimp only
    have en : (Xc.atRest (ρ ++ 32 :: t) S).number = (Xc.atRest ρ S).number := rfl
    have ea : ∀ n x, Xc.num n (Xc.atRest x S) = Xc.atRest x (Xc.num n S) := fun _ _ => rfl
    have hf : ∀ n, Xc.Like (32 :: t) (Xc.flag n (Xc.num [] (Xc.atRest ρ S))) (Xc.flag n (Xc.num [] (Xc.atRest (ρ ++ 32 :: t) S))) ∧ ∀ D, Xc.flag n (Xc.num [] (Xc.atRest ρ S)) = .ok D → D.s = ρ ∨ (Xc.word ρ ≠ [] ∧ D.s = Xc.rest ρ) := fun n => by
      unfold Xc.flag
      have ew : ∀ x, (Xc.num [] (Xc.atRest x S)).words = S.words := fun _ => rfl
      rw [ew, ew]
      cases S.words.getLast? with
      | none => exact ⟨rfl, fun D e => by cases e⟩
      | some x =>
        dsimp only
        split
        · exact ⟨rfl, fun D e => by cases e⟩
        · exact ⟨rfl, fun D e => by cases e; exact .inl rfl⟩
    rw [en]
    split
    · exact ⟨rfl, fun D e => by cases e⟩
    split
    · exact hf 1
    split
    · exact hf 2
    split
    · exact hf 4
    split
    · exact ⟨rfl, fun D e => by cases e⟩
    · exact ⟨rfl, fun D e => by cases e; exact .inl rfl⟩
theorem Xc.inside_tail (tag w ρ t : List UInt8) (S : Xc.S) (h : Xc.taker w = true → Xc.word ρ ≠ []) (ht : w ≠ Xc.tText) : Xc.Like (32 :: t) (Xc.inside tag w (Xc.atRest ρ S)) (Xc.inside tag w (Xc.atRest (ρ ++ 32 :: t) S)) ∧ ∀ D, Xc.inside tag w (Xc.atRest ρ S) = .ok D → D.s = ρ ∨ (Xc.word ρ ≠ [] ∧ D.s = Xc.rest ρ) := by
  unfold Xc.inside
  rcases Xc.begins_tail tag w ρ (ρ ++ 32 :: t) S with ⟨a, b⟩ | ⟨e, a, b⟩ | ⟨D, a, b, hs⟩
  rotate_left
  · rw [a, b]; exact ⟨rfl, fun D e => by cases e⟩
  · rw [a, b]
    refine ⟨?_, fun E e => by cases e; exact .inl hs⟩
    show Xc.R.ok _ = Xc.R.ok _
    rw [hs]
  rw [a, b]
  dsimp only
  rcases Xc.ends_tail tag w ρ (ρ ++ 32 :: t) S with ⟨a, b⟩ | ⟨a, b⟩ | ⟨D, a, b, hs⟩
  rotate_left
  · rw [a, b]; exact ⟨rfl, fun D e => by cases e⟩
  · rw [a, b]
    refine ⟨?_, fun E e => by cases e; exact .inl hs⟩
    show Xc.R.ok _ = Xc.R.ok _
    rw [hs]
  rw [a, b]
  dsimp only
  cases hm : Xc.makes w with
  | some kind => exact ⟨rfl, fun D e => by cases e⟩
  | none =>
    dsimp only
    unfold Xc.inside2
    by_cases h1 : w = Xc.tSemi
    · rw [if_pos h1, if_pos h1]
      have eo : (Xc.atRest (ρ ++ 32 :: t) S).opens = (Xc.atRest ρ S).opens := rfl
      rw [eo]
      split
      · exact ⟨rfl, fun D e => by cases e⟩
      · exact ⟨rfl, fun D e => by cases e; exact .inl rfl⟩
    rw [if_neg h1, if_neg h1]
    by_cases h2 : w = Xc.tExit
    · rw [if_pos h2, if_pos h2]; exact ⟨rfl, fun D e => by cases e; exact .inl rfl⟩
    rw [if_neg h2, if_neg h2]
    by_cases h3 : w = Xc.tRec
    · rw [if_pos h3, if_pos h3]; exact ⟨rfl, fun D e => by cases e; exact .inl rfl⟩
    rw [if_neg h3, if_neg h3, if_neg ht, if_neg ht]
    by_cases h4 : w = Xc.tTick ∨ w = Xc.tChar
    · rw [if_pos h4, if_pos h4]
      have hw : Xc.word ρ ≠ [] := h (by unfold Xc.taker; rcases h4 with h4 | h4 <;> (rw [h4]; decide))
      obtain ⟨e1, e2⟩ := Xc.word_app (t := t) hw
      unfold Xc.quoted
      have es : ∀ x, (Xc.atRest x S).s = x := fun _ => rfl
      rw [es, es, e1, e2, if_neg hw, if_neg hw]
      split
      · exact ⟨rfl, fun D e => by cases e; exact .inr ⟨hw, rfl⟩⟩
      · exact ⟨rfl, fun D e => by cases e; exact .inr ⟨hw, rfl⟩⟩
    rw [if_neg h4, if_neg h4]
    unfold Xc.other
    split
    · exact ⟨rfl, fun D e => by cases e; exact .inl rfl⟩
    split
    · exact ⟨rfl, fun D e => by cases e; exact .inl rfl⟩
    · exact ⟨rfl, fun D e => by cases e; exact .inl rfl⟩
theorem Xc.one_tail (tag w ρ t : List UInt8) (S : Xc.S) (h : Xc.taker w = true → Xc.word ρ ≠ []) (ht : w ≠ Xc.tText) : Xc.Like (32 :: t) (Xc.one tag w (Xc.atRest ρ S)) (Xc.one tag w (Xc.atRest (ρ ++ 32 :: t) S)) ∧ ∀ D, Xc.one tag w (Xc.atRest ρ S) = .ok D → D.s = ρ ∨ (Xc.word ρ ≠ [] ∧ D.s = Xc.rest ρ) := by
  unfold Xc.one
  have e : ∀ x, (Xc.atRest x S).within = S.within := fun _ => rfl
  rw [e, e]
  split
  · exact Xc.inside_tail tag w ρ t S h ht
  · exact Xc.top_tail w ρ t S h
theorem Xc.while_all (p : UInt8 → Bool) : ∀ (l : List UInt8), (∀ c ∈ l, p c = true) → l.takeWhile p = l ∧ l.dropWhile p = []
  | [], _ => ⟨rfl, rfl⟩
  | c :: t, h => by
    obtain ⟨a, b⟩ := Xc.while_all p t (fun x hx => h x (by simp [hx]))
    rw [List.takeWhile_cons, if_pos (h c (by simp)), List.dropWhile_cons, if_pos (h c (by simp)), a, b]
    exact ⟨rfl, rfl⟩
/-- A word as the law asks for. -/
structure Xc.Fine (w : List UInt8) : Prop where
  ne : w ≠ []
  all : ∀ c ∈ w, Xc.gap c = false
  note : w ≠ Xc.tNote
  opn : w ≠ Xc.tOpen
  text : w ≠ Xc.tText
  asm : w ≠ Xc.tAsm
theorem Xc.skip_of {w : List UInt8} (r : List UInt8) (h : w ≠ []) (ha : ∀ c ∈ w, Xc.gap c = false) : Xc.skip (w ++ r) = w ++ r := by
  cases w with
  | nil => exact absurd rfl h
  | cons c t =>
    unfold Xc.skip
    rw [List.cons_append, List.dropWhile_cons, if_neg (by rw [ha c (by simp)]; decide)]
theorem Xc.word_of {w : List UInt8} (r : List UInt8) (h : w ≠ []) (ha : ∀ c ∈ w, Xc.gap c = false) (hr : r = [] ∨ r.headD 0 = 32) : Xc.word (w ++ r) = w ∧ Xc.rest (w ++ r) = r := by
  have e := Xc.skip_of r h ha
  have hr2 : r.takeWhile (fun c => !Xc.gap c) = [] ∧ r.dropWhile (fun c => !Xc.gap c) = r := by
    cases r with
    | nil => exact ⟨rfl, rfl⟩
    | cons c t =>
      rcases hr with hr | hr
      · cases hr
      · have hr : c = 32 := hr
        subst hr
        exact ⟨rfl, rfl⟩
  obtain ⟨h1, h2⟩ := Xc.while_all (fun c => !Xc.gap c) w (fun c hc => by rw [ha c hc]; rfl)
  unfold Xc.word Xc.rest
  rw [e]
  refine ⟨?_, ?_⟩
  · rw [List.takeWhile_append, h1, if_pos rfl, hr2.1, List.append_nil]
  · rw [List.dropWhile_append, h2, if_pos (show ([] : List UInt8).isEmpty = true from rfl), hr2.2]
def Xc.tName : List UInt8 := [78, 65, 77, 69]
theorem Xc.name_fine : Xc.Fine Xc.tName := ⟨by decide, by decide, by decide, by decide, by decide, by decide⟩
/-- The lines of a word. -/
def Xc.plainL (w : List UInt8) : List UInt8 := if Xc.taker w then w ++ 32 :: Xc.tName else w
def Xc.tailL (note : List UInt8) : List UInt8 := 40 :: 32 :: (note ++ 41 :: 32 :: 92 :: 32 :: note)
def Xc.fullL (note w : List UInt8) : List UInt8 := 9 :: (Xc.plainL w ++ 32 :: Xc.tailL note)
/-- Behind the words: a note, and one to the line's end. -/
theorem Xc.line_tail (tag note : List UInt8) (hn : 41 ∉ note) (n : Nat) (S : Xc.S) : ∃ x, Xc.line tag (n + 2) (Xc.atRest (32 :: Xc.tailL note) S) = .ok (Xc.atRest x S) := by
  have e1 : Xc.word (32 :: Xc.tailL note) = Xc.tOpen := rfl
  have e2 : Xc.rest (32 :: Xc.tailL note) = 32 :: (note ++ 41 :: 32 :: 92 :: 32 :: note) := rfl
  have e3 : Xc.upTo 41 (32 :: (note ++ 41 :: 32 :: 92 :: 32 :: note)) = 32 :: 92 :: 32 :: note := by
    unfold Xc.upTo
    rw [List.dropWhile_cons, if_pos (by decide), List.dropWhile_append]
    have h0 : note.dropWhile (fun x => x != 41) = [] := (Xc.while_all _ note (fun c hc => by
      rw [bne_iff_ne]
      rintro rfl
      exact hn hc)).2
    rw [h0]
    rfl
  have es : ∀ x, (Xc.atRest x S).s = x := fun _ => rfl
  have ea : ∀ x y, Xc.atRest x (Xc.atRest y S) = Xc.atRest x S := fun _ _ => rfl
  refine ⟨32 :: note, ?_⟩
  rw [show n + 2 = (n + 1) + 1 from rfl, Xc.line, es, e1, if_neg (by decide), if_pos rfl, e2, ea, e3, Xc.line, es]
  have e4 : Xc.word (32 :: 92 :: 32 :: note) = Xc.tNote := rfl
  have e5 : Xc.rest (32 :: 92 :: 32 :: note) = 32 :: note := rfl
  rw [e4, if_pos (.inr rfl), e5, ea]
theorem Xc.line_end (tag : List UInt8) (n : Nat) (S : Xc.S) : Xc.line tag (n + 1) (Xc.atRest [] S) = .ok (Xc.atRest [] S) := by
  have es : (Xc.atRest [] S).s = [] := rfl
  have e1 : Xc.word [] = [] := rfl
  rw [Xc.line, es, e1, if_pos (.inl rfl)]
  rfl
/-- Two lines' ends: the same error, or the same but for what is left. -/
def Xc.Twin (a b : Xc.R) : Prop := (∃ e, a = .bad e ∧ b = .bad e) ∨ ∃ S x y, a = .ok (Xc.atRest x S) ∧ b = .ok (Xc.atRest y S)
theorem Xc.line_step {tag w ρ : List UInt8} (hw : Xc.Fine w) (hr : ρ = [] ∨ ρ.headD 0 = 32) (n : Nat) (S : Xc.S) : Xc.line tag (n + 1) (Xc.atRest (w ++ ρ) S) = match Xc.one tag w (Xc.atRest ρ S) with | .ok S1 => Xc.line tag n S1 | r => r := by
  obtain ⟨e1, e2⟩ := Xc.word_of ρ hw.ne hw.all hr
  have es : (Xc.atRest (w ++ ρ) S).s = w ++ ρ := rfl
  have ea : ∀ x y, Xc.atRest x (Xc.atRest y S) = Xc.atRest x S := fun _ _ => rfl
  rw [Xc.line, es, e1, e2, if_neg (fun h => h.elim hw.ne hw.note), if_neg hw.opn, ea]
theorem Xc.line_skip {tag : List UInt8} {c : UInt8} (hc : Xc.gap c = true) (s : List UInt8) (n : Nat) (S : Xc.S) : Xc.line tag (n + 1) (Xc.atRest (c :: s) S) = Xc.line tag (n + 1) (Xc.atRest s S) := by
  have es : ∀ x, (Xc.atRest x S).s = x := fun _ => rfl
  have ea : ∀ x y, Xc.atRest x (Xc.atRest y S) = Xc.atRest x S := fun _ _ => rfl
  have k : Xc.skip (c :: s) = Xc.skip s := by unfold Xc.skip; rw [List.dropWhile_cons, if_pos hc]
  have e1 : Xc.word (c :: s) = Xc.word s := by unfold Xc.word; rw [k]
  have e2 : Xc.rest (c :: s) = Xc.rest s := by unfold Xc.rest; rw [k]
  rw [Xc.line, Xc.line, es, es, e1, e2, ea, ea, ea, ea]
/-- A word with nothing behind it. -/
theorem Xc.line_one {tag w note : List UInt8} (hw : Xc.Fine w) (ht : Xc.taker w = false) (hn : 41 ∉ note) (n m : Nat) (S : Xc.S) : Xc.Twin (Xc.line tag (n + 2) (Xc.atRest w S)) (Xc.line tag (m + 3) (Xc.atRest (w ++ 32 :: Xc.tailL note) S)) := by
  obtain ⟨h1, h2⟩ := Xc.one_tail tag w [] (Xc.tailL note) S (fun h => by rw [ht] at h; cases h) hw.text
  have e1 := Xc.line_step (tag := tag) hw (.inl rfl) (n + 1) S
  rw [List.append_nil] at e1
  rw [e1, Xc.line_step (tag := tag) hw (.inr rfl) (m + 2) S]
  rw [List.nil_append] at h1
  cases ho : Xc.one tag w (Xc.atRest [] S) with
  | bad e => rw [ho] at h1; have h1 : _ = _ := h1; rw [h1]; exact .inl ⟨e, rfl, rfl⟩
  | stuck => rw [ho] at h1; exact h1.elim
  | ok D =>
    rw [ho] at h1
    have h1 : _ = _ := h1
    rw [h1]
    dsimp only
    have hs : D.s = [] := by
      rcases h2 D ho with h | ⟨h, _⟩
      · exact h
      · exact absurd rfl h
    rw [hs, List.nil_append]
    obtain ⟨x, hx⟩ := Xc.line_tail tag note hn m D
    have e : D = Xc.atRest [] D := by
      obtain ⟨a, b, c, d, e, f, g⟩ := D
      have hs : a = [] := hs
      subst hs
      rfl
    rw [hx]
    have := Xc.line_end tag n D
    rw [← e] at this
    rw [this]
    exact .inr ⟨D, [], x, by rw [← e], rfl⟩
theorem Xc.line_pair {tag w note : List UInt8} (hw : Xc.Fine w) (hn : 41 ∉ note) (n m : Nat) (S : Xc.S) : Xc.Twin (Xc.line tag (n + 3) (Xc.atRest (Xc.plainL w) S)) (Xc.line tag (m + 4) (Xc.atRest (Xc.fullL note w) S)) := by
  unfold Xc.fullL
  rw [Xc.line_skip (by decide)]
  unfold Xc.plainL
  by_cases ht : Xc.taker w = true
  · rw [if_pos ht]
    obtain ⟨h1, h2⟩ := Xc.one_tail tag w (32 :: Xc.tName) (Xc.tailL note) S (fun _ => by decide) hw.text
    rw [List.append_assoc, Xc.line_step (tag := tag) hw (.inr rfl) (n + 2) S, Xc.line_step (tag := tag) hw (.inr rfl) (m + 3) S]
    cases ho : Xc.one tag w (Xc.atRest (32 :: Xc.tName) S) with
    | bad e => rw [ho] at h1; have h1 : _ = _ := h1; rw [h1]; exact .inl ⟨e, rfl, rfl⟩
    | stuck => rw [ho] at h1; exact h1.elim
    | ok D =>
      rw [ho] at h1
      have h1 : _ = _ := h1
      rw [h1]
      dsimp only
      have hs := h2 D ho
      obtain ⟨a, b, c, d, e, f, g⟩ := D
      rcases hs with hs | ⟨_, hs⟩
      · have hs : a = 32 :: Xc.tName := hs
        subst hs
        have k1 := Xc.line_skip (tag := tag) (c := 32) (by decide) Xc.tName (n + 1) ⟨[], b, c, d, e, f, g⟩
        have k2 := Xc.line_skip (tag := tag) (c := 32) (by decide) (Xc.tName ++ 32 :: Xc.tailL note) (m + 2) ⟨[], b, c, d, e, f, g⟩
        have k3 := Xc.line_one (tag := tag) (note := note) Xc.name_fine (by decide) hn n m ⟨[], b, c, d, e, f, g⟩
        rw [← k1, ← k2] at k3
        exact k3
      · have hs : a = Xc.rest (32 :: Xc.tName) := hs
        have er : Xc.rest (32 :: Xc.tName) = [] := by decide
        rw [er] at hs
        subst hs
        obtain ⟨x, hx⟩ := Xc.line_tail tag note hn (m + 1) ⟨[], b, c, d, e, f, g⟩
        have k1 := Xc.line_end tag (n + 1) ⟨[], b, c, d, e, f, g⟩
        refine .inr ⟨⟨[], b, c, d, e, f, g⟩, [], x, k1, hx⟩
  · have ht : Xc.taker w = false := by simpa using ht
    rw [if_neg (by rw [ht]; decide)]
    exact Xc.line_one hw ht hn (n + 1) (m + 1) S
theorem Xc.alone_no {w : List UInt8} (hw : Xc.Fine w) (r : List UInt8) (hr : r = [] ∨ r.headD 0 = 32) : Xc.alone (w ++ r) Xc.tAsm = false := by
  obtain ⟨e1, _⟩ := Xc.word_of r hw.ne hw.all hr
  unfold Xc.alone
  rw [e1, decide_eq_false hw.asm]
  rfl
theorem Xc.alone_plain {w : List UInt8} (hw : Xc.Fine w) : Xc.alone (Xc.plainL w) Xc.tAsm = false := by
  unfold Xc.plainL
  split
  · exact Xc.alone_no hw _ (.inr rfl)
  · have := Xc.alone_no hw [] (.inl rfl)
    rw [List.append_nil] at this
    exact this
theorem Xc.alone_full {w : List UInt8} (hw : Xc.Fine w) (note : List UInt8) : Xc.alone (Xc.fullL note w) Xc.tAsm = false := by
  have k : ∀ s, Xc.alone (9 :: s) Xc.tAsm = Xc.alone s Xc.tAsm := fun s => by
    have k : Xc.skip (9 :: s) = Xc.skip s := by unfold Xc.skip; rw [List.dropWhile_cons, if_pos (by decide)]
    unfold Xc.alone Xc.word Xc.rest
    rw [k]
  unfold Xc.fullL
  rw [k]
  unfold Xc.plainL
  split
  · rw [List.append_assoc]; exact Xc.alone_no hw _ (.inr rfl)
  · exact Xc.alone_no hw _ (.inr rfl)
theorem Xc.comp_rest (tag x : List UInt8) (n : Nat) (S : Xc.S) (l : List (List UInt8)) : Xc.comp tag n (Xc.atRest x S) l = match l with | [] => (match Xc.comp tag n S [] with | .ok D => .ok (Xc.atRest x D) | e => e) | _ => Xc.comp tag n S l := by
  cases l with
  | nil =>
    unfold Xc.comp
    have h1 : (Xc.atRest x S).within = S.within := rfl
    have h2 : (Xc.atRest x S).number = S.number := rfl
    rw [h1, h2]
    dsimp only
    split
    · rfl
    split
    · rfl
    · rfl
  | cons t r => rfl
/-- What is told of a source. -/
def Xc.tell : Xc.E → Option (List UInt8 × Nat × Nat)
  | .bad n e => some ([], n, e)
  | .ok S => some (Xc.text S.words, 0, 0)
  | .stuck => none
theorem Xc.compile_tell (tag s : List UInt8) : Xc.compile tag s = Xc.tell (Xc.comp tag 0 Xc.start (L6.split s)) := by
  unfold Xc.compile Xc.tell
  rfl
theorem Xc.tell_rest (tag x : List UInt8) (n : Nat) (S : Xc.S) (l : List (List UInt8)) : Xc.tell (Xc.comp tag n (Xc.atRest x S) l) = Xc.tell (Xc.comp tag n S l) := by
  rw [Xc.comp_rest]
  cases l with
  | nil => dsimp only; cases Xc.comp tag n S [] <;> rfl
  | cons t r => rfl
theorem Xc.comp_pair {tag note : List UInt8} (hn : 41 ∉ note) (l : List (List UInt8)) (hl : ∀ w ∈ l, Xc.Fine w) : ∀ (n : Nat) (S : Xc.S), Xc.tell (Xc.comp tag n S (l.map (Xc.fullL note))) = Xc.tell (Xc.comp tag n S (l.map Xc.plainL)) ∧ (Xc.tell (Xc.comp tag n S (l.map Xc.plainL))).isSome = true := by
  induction l with
  | nil =>
    intro n S
    refine ⟨rfl, ?_⟩
    show (Xc.tell (Xc.comp tag n S [])).isSome = true
    unfold Xc.comp
    split
    · rfl
    split
    · rfl
    · rfl
  | cons w t ih =>
    intro n S
    have hw := hl w (by simp)
    have ih := ih (fun x hx => hl x (by simp [hx]))
    rw [List.map_cons, List.map_cons]
    have hlen : ∃ k, (Xc.plainL w).length + 1 = k + 2 := by
      have : 0 < (Xc.plainL w).length := by
        have := List.length_pos_iff.2 hw.ne
        unfold Xc.plainL
        split <;> simp <;> omega
      exact ⟨(Xc.plainL w).length - 1, by omega⟩
    have hlen2 : ∃ m, (Xc.fullL note w).length + 1 = m + 4 := ⟨(Xc.fullL note w).length - 3, by
      have : 3 ≤ (Xc.fullL note w).length := by unfold Xc.fullL Xc.tailL; simp <;> omega
      omega⟩
    have hpair : Xc.Twin (Xc.line tag ((Xc.plainL w).length + 1) (Xc.atRest (Xc.plainL w) S)) (Xc.line tag ((Xc.fullL note w).length + 1) (Xc.atRest (Xc.fullL note w) S)) := by
      obtain ⟨m, hm⟩ := hlen2
      rw [hm]
      by_cases ht : Xc.taker w = true
      · have : ∃ k, (Xc.plainL w).length + 1 = k + 3 := ⟨(Xc.plainL w).length - 2, by
          have : 5 ≤ (Xc.plainL w).length := by unfold Xc.plainL; rw [if_pos ht]; simp [Xc.tName] <;> omega
          omega⟩
        obtain ⟨k, hk⟩ := this
        rw [hk]
        exact Xc.line_pair hw hn k m S
      · have ht : Xc.taker w = false := by simpa using ht
        obtain ⟨k, hk⟩ := hlen
        rw [hk]
        have e1 : Xc.plainL w = w := by unfold Xc.plainL; rw [if_neg (by rw [ht]; decide)]
        unfold Xc.fullL
        rw [Xc.line_skip (by decide), e1]
        exact Xc.line_one hw ht hn k (m + 1) S
    rw [Xc.comp, Xc.comp, if_neg (by rw [Xc.alone_full hw]; rintro ⟨_, _, h⟩; cases h), if_neg (by rw [Xc.alone_plain hw]; rintro ⟨_, _, h⟩; cases h)]
    rcases hpair with ⟨e, a, b⟩ | ⟨D, x, y, a, b⟩
    · rw [a, b]; exact ⟨rfl, rfl⟩
    · rw [a, b]
      dsimp only
      rw [Xc.tell_rest, Xc.tell_rest]
      exact ih (n + 1) D
/-- The two sources. -/
def Xc.plainT (l : List (List UInt8)) : List UInt8 := l.flatMap fun w => Xc.plainL w ++ [10]
def Xc.fullT (note : List UInt8) (l : List (List UInt8)) : List UInt8 := l.flatMap fun w => Xc.fullL note w ++ [10]
theorem Xc.split_line (a r : List UInt8) (h : 10 ∉ a) : L6.split (a ++ 10 :: r) = a :: L6.split r := by
  induction a with
  | nil => rfl
  | cons c t ih =>
    have hc : c ≠ 10 := fun e => h (by simp [e])
    rw [List.cons_append]
    show (if c = 10 then _ else _) = _
    rw [if_neg hc, ih (fun e => h (by simp [e]))]
theorem Xc.split_all (f : List UInt8 → List UInt8) (l : List (List UInt8)) (h : ∀ w ∈ l, 10 ∉ f w) : L6.split (l.flatMap fun w => f w ++ [10]) = l.map f := by
  induction l with
  | nil => rfl
  | cons w t ih =>
    have e : ∀ R : List UInt8, [10] ++ R = 10 :: R := fun _ => rfl
    rw [List.flatMap_cons, List.append_assoc, List.map_cons, e, Xc.split_line _ _ (h w (by simp)), ih (fun x hx => h x (by simp [hx]))]
theorem Xc.notes_law {tag note : List UInt8} (hn : 41 ∉ note) (hn2 : 10 ∉ note) (l : List (List UInt8)) (hl : ∀ w ∈ l, Xc.Fine w) : Xc.compile tag (Xc.fullT note l) = Xc.compile tag (Xc.plainT l) ∧ (Xc.compile tag (Xc.plainT l)).isSome = true := by
  have h1 : ∀ w ∈ l, 10 ∉ Xc.plainL w := fun w hw h => by
    have hf := hl w hw
    unfold Xc.plainL at h
    have : 10 ∉ w := fun e => by have := hf.all 10 e; cases this
    split at h
    · rcases List.mem_append.1 h with h | h
      · exact this h
      · revert h; decide
    · exact this h
  have h2 : ∀ w ∈ l, 10 ∉ Xc.fullL note w := fun w hw h => by
    unfold Xc.fullL Xc.tailL at h
    simp only [List.mem_cons, List.mem_append] at h
    rcases h with h | h | h | h | h | h | h | h | h | h | h
    all_goals first
      | exact h1 w hw h
      | exact hn2 h
      | (cases h; done)
      | (revert h; decide)
  rw [Xc.compile_tell, Xc.compile_tell]
  unfold Xc.fullT Xc.plainT
  rw [Xc.split_all _ _ h1, Xc.split_all _ _ h2]
  exact Xc.comp_pair hn l hl 0 Xc.start
end Go.Proofs.YtfafdkbnmfpbmaaDoor
