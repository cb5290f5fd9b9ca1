/- Flow: plain. -/
import Derived.Test.YtfafdkbnmfpbmaaDoorL6Light
import Derived.Test.YtfafdkbnmfpbmaaDoorL6Print
import Derived.Test.YtfafdkbnmfpbmaaDoorL6Tab
namespace Go.Proofs.YtfafdkbnmfpbmaaDoor
open Go.RowKit Kit
set_option linter.unusedVariables false
set_option linter.unusedSimpArgs false

def F8.opp (c : List UInt8) : Option (List UInt8) :=
  if c = [101, 113] then some [110, 101] else if c = [110, 101] then some [101, 113] else if c = [108, 116] then some [103, 101] else if c = [103, 101] then some [108, 116] else if c = [108, 116, 117] then some [103, 101, 117] else if c = [103, 101, 117] then some [108, 116, 117] else none
/-- The words of flow. -/
inductive F8.K
  | ifK | elseK | thenK | beginK | whileK | repeatK | untilK | againK
  deriving DecidableEq
def F8.wIf : List UInt8 := [105, 102]
def F8.wElse : List UInt8 := [101, 108, 115, 101]
def F8.wThen : List UInt8 := [116, 104, 101, 110]
def F8.wBegin : List UInt8 := [98, 101, 103, 105, 110]
def F8.wWhile : List UInt8 := [119, 104, 105, 108, 101]
def F8.wRepeat : List UInt8 := [114, 101, 112, 101, 97, 116]
def F8.wUntil : List UInt8 := [117, 110, 116, 105, 108]
def F8.wAgain : List UInt8 := [97, 103, 97, 105, 110]
def F8.wBegun : List UInt8 := [98, 101, 103, 117, 110]
def F8.word : F8.K → List UInt8
  | .ifK => F8.wIf | .elseK => F8.wElse | .thenK => F8.wThen | .beginK => F8.wBegin | .whileK => F8.wWhile | .repeatK => F8.wRepeat | .untilK => F8.wUntil | .againK => F8.wAgain
def F8.kind (s : List UInt8) : Option F8.K :=
  if s = F8.wIf then some .ifK else if s = F8.wElse then some .elseK else if s = F8.wThen then some .thenK else if s = F8.wBegin then some .beginK else if s = F8.wWhile then some .whileK
  else if s = F8.wRepeat then some .repeatK else if s = F8.wUntil then some .untilK else if s = F8.wAgain then some .againK else none
theorem F8.kind_word (k : F8.K) : F8.kind (F8.word k) = some k := by cases k <;> decide
theorem F8.word_kind {s : List UInt8} {k : F8.K} (h : F8.kind s = some k) : s = F8.word k := by
  unfold F8.kind at h
  repeat' split at h
  all_goals first | cases h; assumption | cases h
/-- Does it ask for a condition? -/
def F8.cond : F8.K → Bool
  | .ifK => true | .whileK => true | .untilK => true | _ => false
/-- Has a line of flow the Args that its word asks for? -/
def F8.fine (k : F8.K) (x : L6.Line) : Bool := if F8.cond k then decide (x.args.length = 3) && (F8.opp (x.args.getD 1 [])).isSome else decide (x.args.length = 0)
abbrev F8.Opn := List (List UInt8 × List UInt8)
/-- The maker's state; what is open: the last one ahead. -/
structure F8.St where
  out : List L6.Line
  opn : F8.Opn
  made : Nat
def F8.lab (n : Nat) : List UInt8 := 64 :: Lib.decDigits n
def F8.br (x : L6.Line) (t : List UInt8) : L6.Line := ⟨x.labels, 98 :: (F8.opp (x.args.getD 1 [])).getD [], [x.args.getD 0 [], x.args.getD 2 [], t]⟩
def F8.jmp (ls : List (List UInt8)) (t : List UInt8) : L6.Line := ⟨ls, [106], [t]⟩
def F8.at_ (ls : List (List UInt8)) (k : List UInt8) : L6.Line := ⟨ls ++ [k], [], []⟩
/-- What the program does at a word of flow. -/
def F8.own (k : F8.K) (S : F8.St) (x : L6.Line) : Option F8.St :=
  match k with
  | .ifK => some ⟨S.out ++ [F8.br x (F8.lab S.made)], (F8.wIf, F8.lab S.made) :: S.opn, S.made + 1⟩
  | .beginK => some ⟨S.out ++ [F8.at_ x.labels (F8.lab S.made)], (F8.wBegin, F8.lab S.made) :: S.opn, S.made + 1⟩
  | .elseK => match S.opn with
    | [] => none
    | (w, k) :: r => if w = F8.wIf then some ⟨S.out ++ [F8.jmp x.labels (F8.lab S.made)] ++ [F8.at_ [] k], (F8.wElse, F8.lab S.made) :: r, S.made + 1⟩ else none
  | .thenK => match S.opn with
    | [] => none
    | (w, k) :: r => if w = F8.wIf ∨ w = F8.wElse then some ⟨S.out ++ [F8.at_ x.labels k], r, S.made⟩ else none
  | .whileK => match S.opn with
    | [] => none
    | (w, k) :: r => if w = F8.wBegin then some ⟨S.out ++ [F8.br x (F8.lab S.made)], (F8.wWhile, F8.lab S.made) :: (F8.wBegun, k) :: r, S.made + 1⟩ else none
  | .repeatK => match S.opn with
    | [] => none
    | (w, n) :: r => if w = F8.wWhile then (match r with
      | [] => some ⟨S.out ++ [F8.jmp x.labels []] ++ [F8.at_ [] n], [], S.made⟩
      | (w', k) :: r' => if w' = F8.wBegun then some ⟨S.out ++ [F8.jmp x.labels k] ++ [F8.at_ [] n], r', S.made⟩ else some ⟨S.out ++ [F8.jmp x.labels []] ++ [F8.at_ [] n], r, S.made⟩) else none
  | .untilK => match S.opn with
    | [] => none
    | (w, k) :: r => if w = F8.wBegin then some ⟨S.out ++ [F8.br x k], r, S.made⟩ else none
  | .againK => match S.opn with
    | [] => none
    | (w, k) :: r => if w = F8.wBegin then some ⟨S.out ++ [F8.jmp x.labels k], r, S.made⟩ else none
/-- What the document does there. -/
def F8.doc (k : F8.K) (S : F8.St) (x : L6.Line) : Option F8.St :=
  match k with
  | .whileK => match S.opn with
    | [] => none
    | (w, k) :: r => if w = F8.wBegin then some ⟨S.out ++ [F8.br x (F8.lab S.made)], (F8.wWhile, F8.lab S.made) :: (w, k) :: r, S.made + 1⟩ else none
  | .repeatK => match S.opn with
    | [] => none
    | (w, n) :: r => if w = F8.wWhile then (match r with
      | [] => none
      | (w', k) :: r' => some ⟨S.out ++ [F8.jmp x.labels k] ++ [F8.at_ [] n], r', S.made⟩) else none
  | k => F8.own k S x
/-- What is open, the program's and the document's. -/
inductive F8.Rel : F8.Opn → F8.Opn → Prop
  | nil : F8.Rel [] []
  | push {a b : F8.Opn} (w k : List UInt8) (hw : w = F8.wIf ∨ w = F8.wElse ∨ w = F8.wBegin) (h : F8.Rel a b) : F8.Rel ((w, k) :: a) ((w, k) :: b)
  | loop {a b : F8.Opn} (n k : List UInt8) (h : F8.Rel a b) : F8.Rel ((F8.wWhile, n) :: (F8.wBegun, k) :: a) ((F8.wWhile, n) :: (F8.wBegin, k) :: b)
def F8.Twin (S D : F8.St) : Prop := S.out = D.out ∧ S.made = D.made ∧ F8.Rel S.opn D.opn
theorem F8.ne1 : F8.wWhile ≠ F8.wIf ∧ F8.wWhile ≠ F8.wElse ∧ F8.wWhile ≠ F8.wBegin ∧ F8.wBegun ≠ F8.wIf ∧ F8.wBegun ≠ F8.wElse ∧ F8.wIf ≠ F8.wElse ∧ F8.wIf ≠ F8.wBegin ∧ F8.wElse ≠ F8.wBegin := by decide
theorem F8.twin_step (k : F8.K) (S D : F8.St) (x : L6.Line) (h : F8.Twin S D) : (F8.own k S x = none ∧ F8.doc k D x = none) ∨ ∃ S' D', F8.own k S x = some S' ∧ F8.doc k D x = some D' ∧ F8.Twin S' D' := by
  obtain ⟨so, sp, sm⟩ := S
  obtain ⟨d1, dp, dm⟩ := D
  obtain ⟨h1, h2, h3⟩ := h
  dsimp only at h1 h2 h3
  subst h1 h2
  have hi : F8.wIf = F8.wIf ∨ F8.wIf = F8.wElse ∨ F8.wIf = F8.wBegin := .inl rfl
  have he : F8.wElse = F8.wIf ∨ F8.wElse = F8.wElse ∨ F8.wElse = F8.wBegin := .inr (.inl rfl)
  have hb : F8.wBegin = F8.wIf ∨ F8.wBegin = F8.wElse ∨ F8.wBegin = F8.wBegin := .inr (.inr rfl)
  cases k
  case ifK => exact .inr ⟨_, _, rfl, rfl, rfl, rfl, .push _ _ hi h3⟩
  case beginK => exact .inr ⟨_, _, rfl, rfl, rfl, rfl, .push _ _ hb h3⟩
  all_goals
    cases h3 with
    | nil => exact .inl ⟨rfl, rfl⟩
    | push w k hw h =>
      rcases hw with rfl | rfl | rfl
      all_goals first
        | exact .inl ⟨rfl, rfl⟩
        | exact .inr ⟨_, _, rfl, rfl, rfl, rfl, h⟩
        | exact .inr ⟨_, _, rfl, rfl, rfl, rfl, .push _ _ he h⟩
        | exact .inr ⟨_, _, rfl, rfl, rfl, rfl, .loop _ _ h⟩
    | loop n k h =>
      first
        | exact .inl ⟨rfl, rfl⟩
        | exact .inr ⟨_, _, rfl, rfl, rfl, rfl, h⟩
/-- One line more. -/
def F8.made (s : List UInt8) : Bool := s.headD 0 == 64
inductive F8.R
  | bad (e : Nat)
  | ok (S : F8.St)
def F8.step (f : F8.K → F8.St → L6.Line → Option F8.St) (S : F8.St) (x : L6.Line) : F8.R :=
  if x.labels.any F8.made then .bad 41 else
    match F8.kind x.word with
    | none => .ok ⟨S.out ++ [x], S.opn, S.made⟩
    | some k => if F8.fine k x then (match f k S x with | some S' => .ok S' | none => .bad 44) else .bad 40
/-- All lines: the state, or the line's number and the error. -/
def F8.run (f : F8.K → F8.St → L6.Line → Option F8.St) : Nat → F8.St → List L6.Line → Sum (Nat × Nat) F8.St
  | _, S, [] => .inr S
  | n, S, x :: t => match F8.step f S x with
    | .bad e => .inl (n + 1, e)
    | .ok S' => F8.run f (n + 1) S' t
def F8.start : F8.St := ⟨[], [], 0⟩
/-- What is told. -/
def F8.tell (len : Nat) : Sum (Nat × Nat) F8.St → List L6.Line × Nat × Nat
  | .inl (n, e) => ([], n, e)
  | .inr S => if S.opn = [] then (S.out, 0, 0) else ([], len + 1, 44)
def F8.plain (l : List L6.Line) : List L6.Line × Nat × Nat := F8.tell l.length (F8.run F8.own 0 F8.start l)
def F8.docs (l : List L6.Line) : List L6.Line × Nat × Nat := F8.tell l.length (F8.run F8.doc 0 F8.start l)
theorem F8.step_twin (S D : F8.St) (x : L6.Line) (h : F8.Twin S D) : (∃ e, F8.step F8.own S x = .bad e ∧ F8.step F8.doc D x = .bad e) ∨ ∃ S' D', F8.step F8.own S x = .ok S' ∧ F8.step F8.doc D x = .ok D' ∧ F8.Twin S' D' := by
  unfold F8.step
  by_cases h1 : x.labels.any F8.made
  · rw [if_pos h1, if_pos h1]
    exact .inl ⟨_, rfl, rfl⟩
  · rw [if_neg h1, if_neg h1]
    cases hk : F8.kind x.word with
    | none => exact .inr ⟨_, _, rfl, rfl, by show S.out ++ [x] = D.out ++ [x]; rw [h.1], h.2.1, h.2.2⟩
    | some k =>
      dsimp only
      by_cases h2 : F8.fine k x
      · rw [if_pos h2, if_pos h2]
        rcases F8.twin_step k S D x h with ⟨e1, e2⟩ | ⟨S', D', e1, e2, e3⟩
        · rw [e1, e2]; exact .inl ⟨_, rfl, rfl⟩
        · rw [e1, e2]; exact .inr ⟨_, _, rfl, rfl, e3⟩
      · rw [if_neg h2, if_neg h2]
        exact .inl ⟨_, rfl, rfl⟩
theorem F8.run_twin (l : List L6.Line) : ∀ (n : Nat) (S D : F8.St), F8.Twin S D → (∃ p, F8.run F8.own n S l = .inl p ∧ F8.run F8.doc n D l = .inl p) ∨ ∃ S' D', F8.run F8.own n S l = .inr S' ∧ F8.run F8.doc n D l = .inr D' ∧ F8.Twin S' D' := by
  induction l with
  | nil => exact fun n S D h => .inr ⟨S, D, rfl, rfl, h⟩
  | cons x t ih =>
    intro n S D h
    unfold F8.run
    rcases F8.step_twin S D x h with ⟨e, e1, e2⟩ | ⟨S', D', e1, e2, e3⟩
    · rw [e1, e2]; exact .inl ⟨_, rfl, rfl⟩
    · rw [e1, e2]; exact ih (n + 1) S' D' e3
theorem F8.start_twin : F8.Twin F8.start F8.start := ⟨rfl, rfl, .nil⟩
theorem F8.plain_docs (l : List L6.Line) : F8.plain l = F8.docs l := by
  unfold F8.plain F8.docs
  rcases F8.run_twin l 0 F8.start F8.start F8.start_twin with ⟨p, e1, e2⟩ | ⟨S', D', e1, e2, h1, h2, h3⟩
  · rw [e1, e2]
  · rw [e1, e2]
    unfold F8.tell
    dsimp only
    rw [h1]
    generalize S'.opn = a at h3
    generalize D'.opn = b at h3
    cases h3 with
    | nil => rfl
    | push w k hw h => rfl
    | loop n k h => rfl
/-- The run up to a line. -/
theorem F8.run_take (f : F8.K → F8.St → L6.Line → Option F8.St) (l : List L6.Line) {k : Nat} (hk : k < l.length) (n : Nat) (S S' : F8.St) (h : F8.run f n S (l.take k) = .inr S') :
    F8.run f n S (l.take (k + 1)) = (match F8.step f S' l[k] with | .bad e => .inl (n + k + 1, e) | .ok S2 => .inr S2) ∧ (∀ e, F8.step f S' l[k] = .bad e → F8.run f n S l = .inl (n + k + 1, e)) := by
  induction l generalizing k n S with
  | nil => simp at hk
  | cons x t ih =>
    cases k with
    | zero =>
      simp only [List.take_zero, F8.run] at h
      cases h
      rw [List.take_succ_cons, List.take_zero, List.getElem_cons_zero]
      unfold F8.run
      generalize F8.step f S' x = r
      cases r with
      | bad e => exact ⟨rfl, fun e' h' => by cases h'; rfl⟩
      | ok S2 => exact ⟨rfl, fun e' h' => by cases h'⟩
    | succ k =>
      rw [List.take_succ_cons] at h ⊢
      rw [List.getElem_cons_succ]
      unfold F8.run at h ⊢
      cases he : F8.step f S x with
      | bad e => rw [he] at h; cases h
      | ok S2 =>
        rw [he] at h
        have := ih (k := k) (by simpa using hk) (n + 1) S2 h
        rw [show n + (k + 1) + 1 = n + 1 + k + 1 by omega]
        exact this
end Go.Proofs.YtfafdkbnmfpbmaaDoor
