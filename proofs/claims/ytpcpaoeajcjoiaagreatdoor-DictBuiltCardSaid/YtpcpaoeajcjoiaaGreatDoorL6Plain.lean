/- Lines of words: plain. -/
namespace Go.Proofs.YtpcpaoeajcjoiaaGreatDoor
set_option linter.unusedVariables false

def L6.blank (c : UInt8) : Bool := c == 32 || c == 9
def L6.bare : List UInt8 → List UInt8
  | [] => []
  | c :: t => if L6.blank c then L6.bare t else c :: t
def L6.note : List UInt8 → Bool
  | 47 :: 47 :: _ => true
  | _ => false
/-- The word ahead, without blanks. -/
def L6.word : List UInt8 → List UInt8
  | [] => []
  | c :: t => if L6.blank c then [] else c :: L6.word t
def L6.behind : List UInt8 → List UInt8
  | [] => []
  | c :: t => if L6.blank c then c :: t else L6.behind t
theorem L6.word_behind (l : List UInt8) : L6.word l ++ L6.behind l = l := by
  induction l with
  | nil => rfl
  | cons c t ih => by_cases h : L6.blank c <;> simp [L6.word, L6.behind, h, ih]
/-- The text up to a closing quote, and what is behind it. -/
def L6.quote : List UInt8 → Option (List UInt8 × List UInt8)
  | [] => none
  | c :: t => if c = 34 then some ([c], t) else (L6.quote t).map fun p => (c :: p.1, p.2)
def L6.free : List UInt8 → Bool
  | [] => true
  | c :: _ => L6.blank c
/-- A line's first word, what is left, and whether it is right. -/
def L6.next : List UInt8 → List UInt8 × List UInt8 × Bool
  | [] => ([], [], true)
  | c :: t => if c = 34 then (match L6.quote t with
      | none => ([], [], false)
      | some (a, b) => (34 :: a, b, L6.free b)) else (L6.word (c :: t), L6.behind (c :: t), true)
theorem L6.quote_len : ∀ (l : List UInt8) (p : List UInt8 × List UInt8), L6.quote l = some p → p.1 ++ p.2 = l
  | [], p, h => by simp [L6.quote] at h
  | c :: t, p, h => by
    unfold L6.quote at h
    split at h
    · cases h; rfl
    · cases hq : L6.quote t with
      | none => rw [hq] at h; cases h
      | some q =>
        rw [hq] at h
        cases h
        simp [L6.quote_len t q hq]
theorem L6.quote_pos : ∀ (l : List UInt8) (p : List UInt8 × List UInt8), L6.quote l = some p → 0 < p.1.length
  | [], p, h => by simp [L6.quote] at h
  | c :: t, p, h => by
    unfold L6.quote at h
    split at h
    · cases h; simp
    · cases hq : L6.quote t with
      | none => rw [hq] at h; cases h
      | some q =>
        rw [hq] at h
        cases h
        simp
theorem L6.behind_len (l : List UInt8) : (L6.behind l).length ≤ l.length := by
  have := congrArg List.length (L6.word_behind l)
  simp at this; omega
theorem L6.next_quote {c : UInt8} {t : List UInt8} (h : c = 34) : L6.next (c :: t) = match L6.quote t with | none => ([], [], false) | some (a, b) => (34 :: a, b, L6.free b) := if_pos h
theorem L6.next_plain {c : UInt8} {t : List UInt8} (h : c ≠ 34) : L6.next (c :: t) = (L6.word (c :: t), L6.behind (c :: t), true) := if_neg h
theorem L6.next_len (c : UInt8) (t : List UInt8) (hb : L6.blank c = false) : (L6.next (c :: t)).2.1.length < (c :: t).length := by
  by_cases h34 : c = 34
  · rw [L6.next_quote h34]
    cases hq : L6.quote t with
    | none => simp
    | some p =>
      have := congrArg List.length (L6.quote_len t p hq)
      simp only [List.length_append, List.length_cons] at this ⊢
      have hp : 0 < p.1.length := L6.quote_pos t p hq
      omega
  · have := L6.behind_len t
    rw [L6.next_plain h34]
    show (L6.behind (c :: t)).length < (c :: t).length
    rw [L6.behind, if_neg (by simp [hb]), List.length_cons]
    omega
theorem L6.bare_len (l : List UInt8) : (L6.bare l).length ≤ l.length := by
  induction l with
  | nil => simp [L6.bare]
  | cons c t ih => unfold L6.bare; split <;> simp <;> omega
theorem L6.bare_head {l : List UInt8} {c : UInt8} {t : List UInt8} (h : L6.bare l = c :: t) : L6.blank c = false := by
  induction l with
  | nil => simp [L6.bare] at h
  | cons d u ih =>
    unfold L6.bare at h
    split at h
    · exact ih h
    · rename_i hb
      cases h
      simpa using hb
/-- The words of a line; none: it is none. -/
def L6.words : Nat → List UInt8 → Option (List (List UInt8))
  | 0, _ => some []
  | n + 1, l => match L6.bare l with
    | [] => some []
    | c :: t => if L6.note (L6.next (c :: t)).1 then some [] else if (L6.next (c :: t)).2.2 then (L6.words n (L6.next (c :: t)).2.1).map ((L6.next (c :: t)).1 :: ·) else none
theorem L6.words_more : ∀ (n m : Nat) (l : List UInt8), l.length < n → l.length < m → L6.words n l = L6.words m l
  | 0, _, l, h, _ => by omega
  | _, 0, l, _, h => by omega
  | n + 1, m + 1, l, hn, hm => by
    unfold L6.words
    cases hb : L6.bare l with
    | nil => rfl
    | cons c t =>
      have h1 := L6.bare_len l
      have h2 := L6.next_len c t (L6.bare_head hb)
      rw [hb] at h1
      simp only
      rw [L6.words_more n m (L6.next (c :: t)).2.1 (by omega) (by omega)]
def L6.wordsOf (l : List UInt8) : Option (List (List UInt8)) := L6.words (l.length + 1) l
theorem L6.wordsOf_bare (l : List UInt8) (h : L6.bare l = []) : L6.wordsOf l = some [] := by
  unfold L6.wordsOf L6.words; rw [h]
theorem L6.wordsOf_next (l : List UInt8) (c : UInt8) (t : List UInt8) (h : L6.bare l = c :: t) :
    L6.wordsOf l = if L6.note (L6.next (c :: t)).1 then some [] else if (L6.next (c :: t)).2.2 then (L6.wordsOf (L6.next (c :: t)).2.1).map ((L6.next (c :: t)).1 :: ·) else none := by
  have h1 := L6.bare_len l
  have h2 := L6.next_len c t (L6.bare_head h)
  rw [h] at h1
  conv => lhs; unfold L6.wordsOf L6.words
  rw [h]
  simp only
  unfold L6.wordsOf
  rw [L6.words_more l.length ((L6.next (c :: t)).2.1.length + 1) _ (by omega) (by omega)]
/-- Is a word a label? -/
def L6.label (l : List UInt8) : Bool := decide (1 < l.length) && (l.getLastD 0 == 58 && l.headD 0 != 34)
/-- A line of words. -/
structure L6.Line where
  labels : List (List UInt8)
  word : List UInt8
  args : List (List UInt8)
  deriving DecidableEq
def L6.labels : List (List UInt8) → List (List UInt8)
  | [] => []
  | w :: t => if L6.label w then w.dropLast :: L6.labels t else []
def L6.rest : List (List UInt8) → List (List UInt8)
  | [] => []
  | w :: t => if L6.label w then L6.rest t else w :: t
def L6.line (l : List (List UInt8)) : L6.Line := ⟨L6.labels l, (L6.rest l).headD [], (L6.rest l).tail⟩
/-- A text's lines. -/
def L6.split : List UInt8 → List (List UInt8)
  | [] => []
  | c :: t => if c = 10 then [] :: L6.split t else match L6.split t with
    | [] => [[c]]
    | a :: r => (c :: a) :: r
end Go.Proofs.YtpcpaoeajcjoiaaGreatDoor
