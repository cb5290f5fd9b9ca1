/- Texts joined: L6BackQ, IsBackP, IsOpenQ, AsKnow, AsDec1, AsDecP, AsDecL, AsDecW, AsDecV. -/
import Derived.Test.YtfafdkbnmfpbmaaGreatDoorL6Print
import Derived.Test.YtfafdkbnmfpbmaaGreatDoorL6Cut
import Derived.Test.YtfafdkbnmfpbmaaGreatDoorMK
import Derived.Test.YtfafdkbnmfpbmaaGreatDoorMR
import Derived.Laws.StructEq
import Derived.Lib.SmallJoins
import Derived.ProofKit
import Derived.OpenShut
import Derived.ChangeOld
import Derived.Test.YtfafdkbnmfpbmaaGreatDoorMFG
import Derived.Test.YtfafdkbnmfpbmaaGreatDoorL6Parse
import Derived.Test.YtfafdkbnmfpbmaaGreatDoorL6Rd
import Derived.Deep.RegionHeld3
import Derived.Deep.DeepCutAuto
import Derived.Test.YtfafdkbnmfpbmaaGreatDoorL6Tab
/- What is printed is parsed as it was: plain; without the document's side (XL6BackP's own lines; never import both). -/
namespace Go.Proofs.YtfafdkbnmfpbmaaGreatDoor
open Go.RowKit Kit
set_option linter.unusedVariables false
set_option linter.unusedSimpArgs false

theorem L6.note_two (l : List UInt8) : L6.note l = (decide (1 < l.length) && (l.getD 0 0 == 47) && (l.getD 1 0 == 47)) := by
  match l with
  | [] => rfl
  | [a] => by_cases h : a = 47 <;> simp [L6.note, h]
  | a :: b :: t =>
    by_cases h : a = 47
    · by_cases h' : b = 47
      · subst h h'; rfl
      · subst h; simp [L6.note, h']
    · simp [L6.note, h]
theorem L6.label_at (l : List UInt8) (h : 1 < l.length) : L6.label l = ((l.getD (l.length - 1) 0 == 58) && (l.getD 0 0 != 34)) := by
  unfold L6.label
  rw [decide_eq_true h, Bool.true_and]
  have e1 : l.getLastD 0 = l.getD (l.length - 1) 0 := by
    rcases List.eq_nil_or_concat l with rfl | ⟨t, d, rfl⟩
    · simp at h
    · rw [List.concat_eq_append]; simp [List.getD]
  have e2 : l.headD 0 = l.getD 0 0 := by cases l <;> simp [List.getD]
  rw [e1, e2]
theorem L6.whole_ne {s : List UInt8} (h : L6.whole s = true) : s ≠ [] := by
  rintro rfl
  revert h
  decide
theorem L6.split_free : ∀ {p t : List UInt8}, 10 ∉ p → L6.split (p ++ 10 :: t) = p :: L6.split t
  | [], t, _ => by simp [L6.split_cons]
  | c :: p, t, h => by
    have hc : c ≠ 10 := fun e => h (by simp [e])
    have hp : 10 ∉ p := fun e => h (by simp [e])
    rw [List.cons_append, L6.split_cons, if_neg hc, L6.split_free hp]
theorem L6.quote_app : ∀ {t a b : List UInt8} (r : List UInt8), L6.quote t = some (a, b) → L6.quote (t ++ r) = some (a, b ++ r)
  | [], a, b, r, h => by simp [L6.quote] at h
  | c :: t, a, b, r, h => by
    unfold L6.quote at h
    rw [List.cons_append]
    unfold L6.quote
    by_cases hc : c = 34
    · rw [if_pos hc] at h ⊢
      cases h
      rfl
    · rw [if_neg hc] at h ⊢
      cases hq : L6.quote t with
      | none => rw [hq] at h; cases h
      | some p =>
        obtain ⟨a', b'⟩ := p
        rw [hq] at h
        rw [L6.quote_app r hq]
        cases h
        rfl
theorem L6.word_app : ∀ {w r : List UInt8}, (∀ c ∈ w, L6.blank c = false) → L6.free r = true → L6.word (w ++ r) = w ∧ L6.behind (w ++ r) = r
  | [], r, _, hr => by
    cases r with
    | nil => exact ⟨rfl, rfl⟩
    | cons c t =>
      have hc : L6.blank c = true := hr
      simp [L6.word, L6.behind, hc]
  | c :: w, r, h, hr => by
    have hc := h c (by simp)
    obtain ⟨h1, h2⟩ := L6.word_app (w := w) (r := r) (fun d hd => h d (by simp [hd])) hr
    rw [List.cons_append]
    simp [L6.word, L6.behind, hc, h1, h2]
theorem L6.word_all : ∀ {w : List UInt8}, L6.word w = w → ∀ c ∈ w, L6.blank c = false
  | [], _, c, hc => by simp at hc
  | d :: w, h, c, hc => by
    unfold L6.word at h
    cases hb : L6.blank d
    · rw [hb] at h
      simp only [Bool.false_eq_true, if_false, List.cons.injEq, true_and] at h
      rcases List.mem_cons.1 hc with rfl | hc
      · exact hb
      · exact L6.word_all h c hc
    · rw [hb] at h
      simp at h
/-- A word, whatever blank is behind it. -/
structure L6.Wd (w : List UInt8) : Prop where
  ne : w ≠ []
  head : ∀ r, L6.bare (w ++ r) = w ++ r
  next : ∀ r, L6.free r = true → L6.next (w ++ r) = (w, r, true)
  note : L6.note w = false
theorem L6.bare_suffix : ∀ (l : List UInt8), (L6.bare l).length = l.length → L6.bare l = l
  | [], _ => rfl
  | c :: t, h => by
    unfold L6.bare at h ⊢
    split
    · rename_i hb
      rw [if_pos hb] at h
      have := L6.bare_len t
      simp at h
      omega
    · rfl
theorem L6.next_prefix (c : UInt8) (t : List UInt8) : (L6.next (c :: t)).2.2 = true → (L6.next (c :: t)).1 ++ (L6.next (c :: t)).2.1 = c :: t := by
  intro h
  by_cases hc : c = 34
  · rw [L6.next_quote hc] at h ⊢
    cases hq : L6.quote t with
    | none => rw [hq] at h; simp at h
    | some p =>
      rw [hc]
      show 34 :: p.1 ++ p.2 = _
      rw [List.cons_append, L6.quote_len t p hq]
  · rw [L6.next_plain hc]
    exact L6.word_behind _
/-- A text that is one word. -/
theorem L6.one_word {w : List UInt8} (h : L6.wordsOf w = some [w]) : L6.next w = (w, [], true) ∧ L6.bare w = w ∧ w ≠ [] ∧ L6.note w = false := by
  cases hb : L6.bare w with
  | nil => rw [L6.wordsOf_bare w hb] at h; simp at h
  | cons c t =>
    rw [L6.wordsOf_next w c t hb] at h
    split at h
    · simp at h
    · rename_i hn
      split at h
      · rename_i hok
        cases hr : L6.wordsOf (L6.next (c :: t)).2.1 with
        | none => rw [hr] at h; cases h
        | some r =>
          rw [hr] at h
          simp only [Option.map_some, Option.some.injEq, List.cons.injEq] at h
          obtain ⟨h1, rfl⟩ := h
          have hp := L6.next_prefix c t hok
          have hl := congrArg List.length hp
          rw [h1, List.length_append] at hl
          have hbl := L6.bare_len w
          rw [hb] at hbl
          have h0 : (L6.next (c :: t)).2.1.length = 0 := by omega
          have h2 : (L6.next (c :: t)).2.1 = [] := List.eq_nil_of_length_eq_zero h0
          have hbw : L6.bare w = w := L6.bare_suffix w (by rw [hb]; omega)
          have hw : w = c :: t := hbw.symm.trans hb
          have e : L6.next (c :: t) = (w, [], true) := by
            rw [show L6.next (c :: t) = ((L6.next (c :: t)).1, (L6.next (c :: t)).2.1, (L6.next (c :: t)).2.2) from rfl, h1, h2, hok]
          refine ⟨by rw [← hw] at e; exact e, hw.symm, by rw [hw]; simp, ?_⟩
          rw [h1] at hn
          simpa using hn
      · cases h
theorem L6.head_plain {w : List UInt8} {c : UInt8} {t : List UInt8} (hw : w = c :: t) (hb : L6.blank c = false) (r : List UInt8) : L6.bare (w ++ r) = w ++ r := by
  rw [hw, List.cons_append]
  unfold L6.bare
  rw [if_neg (by simp [hb])]
theorem L6.wd_of {w : List UInt8} (h : L6.wordsOf w = some [w]) : L6.Wd w := by
  obtain ⟨hn, hb, hne, hnt⟩ := L6.one_word h
  cases w with
  | nil => exact absurd rfl hne
  | cons c t =>
    have hbl : L6.blank c = false := L6.bare_head hb
    refine ⟨hne, L6.head_plain rfl hbl, fun r hr => ?_, hnt⟩
    by_cases hc : c = 34
    · rw [L6.next_quote hc] at hn
      cases hq : L6.quote t with
      | none => rw [hq] at hn; simp at hn
      | some p =>
        obtain ⟨a, b⟩ := p
        rw [hq] at hn
        simp only [Prod.mk.injEq, List.cons.injEq] at hn
        obtain ⟨⟨_, rfl⟩, rfl, _⟩ := hn
        rw [List.cons_append, L6.next_quote hc, L6.quote_app r hq]
        simp [hc, hr]
    · rw [L6.next_plain hc] at hn
      simp only [Prod.mk.injEq] at hn
      obtain ⟨h1, h2⟩ := L6.word_app (r := r) (L6.word_all hn.1) hr
      rw [List.cons_append, L6.next_plain hc, ← List.cons_append, h1, h2]
theorem L6.note_app {l : List UInt8} (h : L6.note l = false) (hne : l ≠ []) : L6.note (l ++ [58]) = false := by
  match l, h, hne with
  | [], _, hne => exact absurd rfl hne
  | [a], h, _ =>
    by_cases ha : a = 47
    · subst ha; rfl
    · unfold L6.note; split
      · rename_i heq; simp at heq
      · rfl
  | a :: b :: t, h, _ =>
    rw [L6.note_two] at h ⊢
    simpa using h
theorem L6.wd_label {l : List UInt8} (h : L6.wordsOf l = some [l]) (hq : L6.quoted l = false) : L6.Wd (l ++ [58]) := by
  obtain ⟨hn, hb, hne, hnt⟩ := L6.one_word h
  cases l with
  | nil => exact absurd rfl hne
  | cons c t =>
    have hbl : L6.blank c = false := L6.bare_head hb
    have hc : c ≠ 34 := by
      rintro rfl
      unfold L6.quoted Lib.hasPrefix at hq
      simp [List.isPrefixOf] at hq
    rw [L6.next_plain hc] at hn
    simp only [Prod.mk.injEq] at hn
    have hall : ∀ d ∈ c :: t ++ [58], L6.blank d = false := by
      intro d hd
      rcases List.mem_append.1 hd with hd | hd
      · exact L6.word_all hn.1 d hd
      · simp at hd; subst hd; rfl
    refine ⟨by simp, L6.head_plain (w := c :: t ++ [58]) (c := c) (t := t ++ [58]) rfl hbl, fun r hr => ?_, L6.note_app hnt (by simp)⟩
    obtain ⟨h1, h2⟩ := L6.word_app (r := r) hall hr
    have e : c :: t ++ [58] ++ r = c :: (t ++ [58] ++ r) := by simp
    rw [e, L6.next_plain hc, ← e, h1, h2]
theorem L6.wordsOf_skip (c : UInt8) (l : List UInt8) (hc : L6.blank c = true) : L6.wordsOf (c :: l) = L6.wordsOf l := by
  have e : L6.bare (c :: l) = L6.bare l := by
    conv => lhs; unfold L6.bare
    rw [if_pos hc]
  cases hb : L6.bare l with
  | nil => rw [L6.wordsOf_bare l hb, L6.wordsOf_bare (c :: l) (e.trans hb)]
  | cons d t => rw [L6.wordsOf_next l d t hb, L6.wordsOf_next (c :: l) d t (e.trans hb)]
theorem L6.wordsOf_wd {x r : List UInt8} (h : L6.Wd x) (hr : L6.free r = true) : L6.wordsOf (x ++ r) = (L6.wordsOf r).map (x :: ·) := by
  have hb := h.head r
  cases hx : x ++ r with
  | nil => exact absurd (List.append_eq_nil_iff.1 hx).1 h.ne
  | cons c t =>
    have hn := h.next r hr
    rw [hx] at hb hn
    rw [L6.wordsOf_next (c :: t) c t hb, hn]
    simp [h.note]
theorem L6.joinTail_free (t : List (List UInt8)) : L6.free (Lib.joinTail [32] t) = true := by
  cases t with
  | nil => rfl
  | cons x r => simp [Lib.joinTail, L6.free, L6.blank]
theorem L6.wordsOf_joinTail : ∀ {ws : List (List UInt8)}, (∀ x ∈ ws, L6.Wd x) → L6.wordsOf (Lib.joinTail [32] ws) = some ws
  | [], _ => by rw [show Lib.joinTail [32] [] = [] from rfl]; exact L6.wordsOf_bare [] rfl
  | x :: t, h => by
    have e : Lib.joinTail [32] (x :: t) = 32 :: (x ++ Lib.joinTail [32] t) := by simp [Lib.joinTail]
    rw [e, L6.wordsOf_skip 32 _ rfl, L6.wordsOf_wd (h x (by simp)) (L6.joinTail_free t), L6.wordsOf_joinTail fun y hy => h y (by simp [hy])]
    rfl
theorem L6.wordsOf_join {ws : List (List UInt8)} (h : ∀ x ∈ ws, L6.Wd x) : L6.wordsOf (Lib.join ws [32]) = some ws := by
  cases ws with
  | nil => exact L6.wordsOf_bare [] rfl
  | cons x t =>
    rw [Lib.join_cons, L6.wordsOf_wd (h x (by simp)) (L6.joinTail_free t), L6.wordsOf_joinTail fun y hy => h y (by simp [hy])]
    rfl
/-- What a right line holds. -/
theorem L6.right_parts {x : L6.Line} (h : L6.right x = true) : (∀ s ∈ x.labels, L6.whole s = true ∧ L6.quoted s = false) ∧ (∀ s ∈ x.args, L6.whole s = true) ∧ (x.word = [] → x.args = []) ∧ (x.word ≠ [] → L6.whole x.word = true ∧ L6.label x.word = false) := by
  have h1 : x.labels.any (fun s => !L6.whole s) = false := by
    cases hh : x.labels.any (fun s => !L6.whole s)
    · rfl
    · rw [L6.right_labels hh] at h; cases h
  have h2 : x.labels.any L6.quoted = false := by
    cases hh : x.labels.any L6.quoted
    · rfl
    · rw [L6.right_quoted hh] at h; cases h
  have h3 : x.args.any (fun s => !L6.whole s) = false := by
    cases hh : x.args.any (fun s => !L6.whole s)
    · rfl
    · rw [L6.right_args hh] at h; cases h
  have hr := L6.right_rest h1 h2 h3
  rw [List.any_eq_false] at h1 h2 h3
  refine ⟨fun s hs => ⟨by simpa using h1 s hs, by simpa using h2 s hs⟩, fun s hs => by simpa using h3 s hs, fun hw => ?_, fun hw => ?_⟩
  · rw [h, if_pos hw] at hr
    simpa using hr.symm
  · rw [h, if_neg hw] at hr
    have := hr.symm
    simp only [Bool.and_eq_true, Bool.not_eq_true'] at this
    exact ⟨this.1, this.2.2⟩
theorem L6.whole_parts {s : List UInt8} (h : L6.whole s = true) : L6.wordsOf s = some [s] ∧ 10 ∉ s := by
  unfold L6.whole at h
  simpa using h
theorem L6.line_wd {x : L6.Line} (h : L6.right x = true) : ∀ y ∈ L6.lineWords x, L6.Wd y ∧ 10 ∉ y := by
  obtain ⟨h1, h2, h3, h4⟩ := L6.right_parts h
  intro y hy
  unfold L6.lineWords at hy
  rcases List.mem_append.1 hy with hy | hy
  · rcases List.mem_append.1 hy with hy | hy
    · unfold L6.marked at hy
      obtain ⟨s, hs, rfl⟩ := List.mem_map.1 hy
      obtain ⟨a, b⟩ := h1 s hs
      obtain ⟨w1, w2⟩ := L6.whole_parts a
      exact ⟨L6.wd_label w1 b, by simpa using w2⟩
    · split at hy
      · simp at hy
      · rename_i hw
        simp at hy
        subst hy
        obtain ⟨w1, w2⟩ := L6.whole_parts (h4 hw).1
        exact ⟨L6.wd_of w1, w2⟩
  · obtain ⟨w1, w2⟩ := L6.whole_parts (h2 y hy)
    exact ⟨L6.wd_of w1, w2⟩
theorem L6.mark_label {s : List UInt8} (hne : s ≠ []) (hq : L6.quoted s = false) : L6.label (s ++ [58]) = true ∧ (s ++ [58]).dropLast = s := by
  refine ⟨?_, by simp⟩
  cases s with
  | nil => exact absurd rfl hne
  | cons c t =>
    have hc : c ≠ 34 := by
      rintro rfl
      unfold L6.quoted Lib.hasPrefix at hq
      simp [List.isPrefixOf] at hq
    rw [L6.label_at _ (by simp)]
    simp [List.getD, hc]
theorem L6.labels_marked : ∀ {l r : List (List UInt8)}, (∀ s ∈ l, s ≠ [] ∧ L6.quoted s = false) → L6.labels (L6.marked l ++ r) = l ++ L6.labels r ∧ L6.rest (L6.marked l ++ r) = L6.rest r
  | [], r, _ => ⟨rfl, rfl⟩
  | s :: l, r, h => by
    obtain ⟨h1, h2⟩ := L6.labels_marked (l := l) (r := r) fun y hy => h y (by simp [hy])
    obtain ⟨a, b⟩ := L6.mark_label (h s (by simp)).1 (h s (by simp)).2
    have e : L6.marked (s :: l) ++ r = (s ++ [58]) :: (L6.marked l ++ r) := rfl
    rw [e]
    constructor
    · conv => lhs; unfold L6.labels
      rw [if_pos a, h1, b]
      rfl
    · conv => lhs; unfold L6.rest
      rw [if_pos a, h2]
theorem L6.line_back {x : L6.Line} (h : L6.right x = true) : L6.line (L6.lineWords x) = x := by
  obtain ⟨h1, h2, h3, h4⟩ := L6.right_parts h
  obtain ⟨xl, xw, xa⟩ := x
  simp only at h1 h2 h3 h4
  have hl : ∀ s ∈ xl, s ≠ [] ∧ L6.quoted s = false := fun s hs => ⟨L6.whole_ne (h1 s hs).1, (h1 s hs).2⟩
  unfold L6.line L6.lineWords
  simp only
  rw [List.append_assoc]
  obtain ⟨e1, e2⟩ := L6.labels_marked (r := (if xw = [] then [] else [xw]) ++ xa) hl
  rw [e1, e2]
  by_cases hw : xw = []
  · rw [if_pos hw, h3 hw, hw]
    simp [L6.labels, L6.rest]
  · rw [if_neg hw]
    have hlab := (h4 hw).2
    simp [L6.labels, L6.rest, hlab]
theorem L6.join_free {ws : List (List UInt8)} (h : ∀ y ∈ ws, 10 ∉ y) : 10 ∉ Lib.join ws [32] := by
  have ht : ∀ r : List (List UInt8), (∀ y ∈ r, 10 ∉ y) → 10 ∉ Lib.joinTail [32] r := by
    intro r hr hm
    unfold Lib.joinTail at hm
    obtain ⟨l, hl, hx⟩ := List.mem_flatten.1 hm
    obtain ⟨y, hy, rfl⟩ := List.mem_map.1 hl
    rcases List.mem_append.1 hx with hx | hx
    · simp at hx
    · exact hr y hy hx
  cases ws with
  | nil => simp [Lib.join_nil]
  | cons x t =>
    rw [Lib.join_cons]
    intro hm
    rcases List.mem_append.1 hm with hm | hm
    · exact h x (by simp) hm
    · exact ht t (fun y hy => h y (by simp [hy])) hm
theorem L6.split_text : ∀ {ls : List L6.Line}, (∀ x ∈ ls, L6.right x = true) → L6.split (L6.text ls) = ls.map fun x => Lib.join (L6.lineWords x) [32]
  | [], _ => rfl
  | x :: t, h => by
    have e : L6.text (x :: t) = Lib.join (L6.lineWords x) [32] ++ 10 :: L6.text t := by
      show L6.lineText x ++ L6.text t = _
      unfold L6.lineText
      simp
    rw [e, L6.split_free (L6.join_free fun y hy => (L6.line_wd (h x (by simp)) y hy).2), L6.split_text fun y hy => h y (by simp [hy])]
    rfl
theorem L6.parseL_back : ∀ {ls : List L6.Line} (n : Nat) (acc : List L6.Line), (∀ x ∈ ls, L6.right x = true) →
    (∃ m, L6.parseL n acc (ls.map fun x => Lib.join (L6.lineWords x) [32]) = ([], m + 1, 6)) ∨ L6.parseL n acc (ls.map fun x => Lib.join (L6.lineWords x) [32]) = (acc ++ ls, 0, 0)
  | [], n, acc, _ => .inr (by simp [L6.parseL])
  | x :: t, n, acc, h => by
    rw [List.map_cons]
    unfold L6.parseL
    split
    · exact .inl ⟨n, rfl⟩
    · rw [L6.wordsOf_join fun y hy => (L6.line_wd (h x (by simp)) y hy).1]
      simp only
      rw [L6.line_back (h x (by simp))]
      rcases L6.parseL_back (ls := t) (n + 1) (acc ++ [x]) fun y hy => h y (by simp [hy]) with h' | h'
      · exact .inl h'
      · exact .inr (by rw [h']; simp)
/-- What is printed is parsed as it was, where no line is too long. -/
theorem L6.parse_back {ls : List L6.Line} (h : ∀ x ∈ ls, L6.right x = true) (hl : ls.length ≤ 32768) : (∃ m, L6.parse (L6.text ls) = ([], m + 1, 6)) ∨ L6.parse (L6.text ls) = (ls, 0, 0) := by
  unfold L6.parse
  rw [L6.split_text h, if_neg (by rw [List.length_map]; omega)]
  simpa using L6.parseL_back (ls := ls) 0 [] h
end Go.Proofs.YtfafdkbnmfpbmaaGreatDoor
/- Of words and records, without a law of instructions. -/
namespace Go.Proofs.YtfafdkbnmfpbmaaGreatDoor
open Go.RowKit
set_option linter.unusedVariables false
set_option linter.unusedSimpArgs false

theorem As.uses_bd (s : Nat) (h : s ≤ 8) : -1048576 ≤ (Is.uses (s : Int)).least ∧ (Is.uses (s : Int)).most ≤ 1048575 := by
  have : s = 0 ∨ s = 1 ∨ s = 2 ∨ s = 3 ∨ s = 4 ∨ s = 5 ∨ s = 6 ∨ s = 7 ∨ s = 8 := by omega
  rcases this with rfl | rfl | rfl | rfl | rfl | rfl | rfl | rfl | rfl <;> decide
theorem As.good_ok {n rd rs1 rs2 : Nat} {imm : Int} (g : Is.Good n rd rs1 rs2 imm) : (⟨n, rd, rs1, rs2, imm⟩ : Is.Inst).ok := by
  have h1 := As.uses_bd (Is.form n).shape (Is.form_bd n g.hn).1
  have h2 := g.least; have h3 := g.most
  have b0 := g.hn; have b1 := g.hrd; have b2 := g.hrs1; have b3 := g.hrs2
  exact ⟨by constructor <;> (show _ ≤ _; simp only; omega), by constructor <;> (show _ ≤ _; simp only; omega), by constructor <;> (show _ ≤ _; simp only; omega), by constructor <;> (show _ ≤ _; simp only; omega), by constructor <;> (show _ ≤ _; simp only; omega)⟩
theorem As.enc_back (i : Is.Inst) (h : (Is.enc i).2 = 0) : ∃ x : Nat, (Is.enc i).1 = (x : Int) ∧ x < 4294967296 ∧ Is.dec x = (i, 0) := by
  have li : Is.legal i = true := by
    cases hl : Is.legal i
    · rw [Is.enc, if_neg (by simp [hl])] at h; cases h
    · rfl
  obtain ⟨n, rd, rs1, rs2, ei, gi⟩ := Is.legal_good li
  obtain ⟨k1, k2, _⟩ := Is.back gi
  refine ⟨Is.word n rd rs1 rs2 i.imm, ?_, k2, ?_⟩
  · conv => lhs; rw [ei]
    rw [Is.enc_word gi]
  · rw [k1]; exact congrArg (fun j => (j, (0 : Int))) ei.symm
theorem As.iown_any (i : Is.Inst) (w : World) : Calls Tryz.prog 23 #[i.v] w fun e w' => e = .returned i.v ∧ Below w.heap.size w w' := by
  go_enter Tryz.func23, Tryz.ntmps23
  go_wp2
  exact bodyPost_ret (v := i.v) (by simp [results, Tryz.results23, go_sem]) rfl ⟨rfl, ((Below.refl _ _).alloc (Nat.le_refl _) _).alloc (by simp) _⟩
theorem As.oinst_eql (i j : Is.Inst) (w : World) : (binOp .eql 54 i.v j.v).run Tryz.prog w = .ok (.bool (decide (i = j))) w := by
  have hS : Tryz.prog.underlying 54 = some (.struct (Tryz.prog.fieldsOf 54)) := by kernel_rfl
  have hP : Tryz.prog.stoodInHeld 54 = false := by kernel_rfl
  have u3 := Tryz.underlying3
  rw [run_eql_struct, show (10000 : Nat) = 9999 + 1 from rfl, run_equalIn_agg w 9999 54 _ _ hS hP]
  simp only [Program.fieldsOf, Tryz.underlying54]
  obtain ⟨a, b, c, d, e⟩ := i
  obtain ⟨a', b', c', d', e'⟩ := j
  go_simp
  by_cases h1 : a = a' <;> by_cases h2 : b = b' <;> by_cases h3 : c = c' <;> by_cases h4 : d = d' <;> by_cases h5 : e = e' <;> simp [h1, h2, h3, h4, h5]
end Go.Proofs.YtfafdkbnmfpbmaaGreatDoor
/- Records that come in, opened (without a law of instructions). -/
namespace Go.Proofs.YtfafdkbnmfpbmaaGreatDoor
open Go.RowKit
set_option linter.unusedVariables false
set_option linter.unusedSimpArgs false

section
open Go.Joins Go.ChangeShapes Go.WideShapes Go.Deep
variable {H : Type} {enc : TypeId × Value → H} {P : Program} {w : World} {base : Nat} {spare : Nat → Bool} {held : Bool}
theorem open_agg5 {r : Reach} {b0 : Nat} {t : TypeId} {f0 f1 f2 f3 f4 : Field} {v : Value} {d : DataW H} {p : List MemPlace} (hs : P.underlying t = some (.struct #[f0, f1, f2, f3, f4])) (hone : oneCellFields P #[f0, f1, f2, f3, f4] = true) (hC : P.cellsOf t = 5)
    (hv : Value.okWide P w r b0 t v) (h : DataW.Trod enc P w base spare held t v d p) :
    ∃ (v0 v1 v2 v3 v4 : Value) (y0 y1 y2 y3 y4 : DataW H × List MemPlace) (n : Nat), v = .agg #[v0, v1, v2, v3, v4] ∧
      DataW.trod enc P w base spare held n f0.type [v0] = some y0 ∧ DataW.trod enc P w base spare held n f1.type [v1] = some y1 ∧ DataW.trod enc P w base spare held n f2.type [v2] = some y2 ∧ DataW.trod enc P w base spare held n f3.type [v3] = some y3 ∧ DataW.trod enc P w base spare held n f4.type [v4] = some y4 := by
  obtain ⟨cs, rfl, hsz⟩ := okWide_struct hs hv
  obtain ⟨l⟩ := cs
  match l, hsz.trans hC with
  | [c0, c1, c2, c3, c4], _ =>
    obtain ⟨fuel, hf⟩ := h
    obtain ⟨xs, n, _, hx, _, hlen, hg⟩ := DataW.trod_struct hs hf
    obtain ⟨o0, k0⟩ := hone_of hone 0 f0 rfl
    obtain ⟨o1, k1⟩ := hone_of hone 1 f1 rfl
    obtain ⟨o2, k2⟩ := hone_of hone 2 f2 rfl
    obtain ⟨o3, k3⟩ := hone_of hone 3 f3 rfl
    obtain ⟨o4, k4⟩ := hone_of hone 4 f4 rfl
    match xs, hlen with
    | [y0, y1, y2, y3, y4], _ =>
      exact ⟨c0, c1, c2, c3, c4, y0, y1, y2, y3, y4, n, rfl, by simpa [Value.cells, o0, k0] using hg 0 f0 rfl, by simpa [Value.cells, o1, k1] using hg 1 f1 rfl, by simpa [Value.cells, o2, k2] using hg 2 f2 rfl, by simpa [Value.cells, o3, k3] using hg 3 f3 rfl, by simpa [Value.cells, o4, k4] using hg 4 f4 rfl⟩
end


section
open Go.ChangeShapes Go.WideShapes
set_option maxRecDepth 100000 in
theorem open_inst {H : Type} {enc : TypeId × Value → H} {w : World} {r : Reach} {b0 : Nat} {v : Value} {d : DataW H} {p : List MemPlace}
    (hv0 : Value.okWide Tryz.prog w r b0 42 v) (h : DataW.Trod enc Tryz.prog w 0 (fun _ => true) true 42 v d p) : ∃ x : Is.Inst, v = x.v ∧ x.ok := by
  obtain ⟨v0, v1, v2, v3, v4, y0, y1, y2, y3, y4, n, rfl, h0, h1, h2, h3, h4⟩ := open_agg5 Tryz.underlying42 (by kernel_rfl) (by kernel_rfl) hv0 h
  obtain ⟨a, e0, _, w0⟩ := DataW.trod_int Tryz.underlying3 h0
  obtain ⟨b, e1, _, w1⟩ := DataW.trod_int Tryz.underlying3 h1
  obtain ⟨c, e2, _, w2⟩ := DataW.trod_int Tryz.underlying3 h2
  obtain ⟨d, e3, _, w3⟩ := DataW.trod_int Tryz.underlying3 h3
  obtain ⟨e, e4, _, w4⟩ := DataW.trod_int Tryz.underlying3 h4
  simp only [List.cons.injEq, and_true] at e0 e1 e2 e3 e4
  subst e0 e1 e2 e3 e4
  exact ⟨⟨a, b, c, d, e⟩, rfl, ⟨bounds_i64 w0, bounds_i64 w1, bounds_i64 w2, bounds_i64 w3, bounds_i64 w4⟩⟩
end
end Go.Proofs.YtfafdkbnmfpbmaaGreatDoor
/- Layer 7: a text assembled; what must come. -/
namespace Go.Proofs.YtfafdkbnmfpbmaaGreatDoor
open Go.RowKit Kit
set_option linter.unusedVariables false
set_option linter.unusedSimpArgs false

theorem anum7_any (n : Int) (w : World) : Calls Tryz.prog 16 #[.int .i64 n] w fun e w' => e = .returned (.int .i64 n) ∧ w = w' := by
  go_enter Tryz.func16, Tryz.ntmps16
  go_wp2
  go_ret
  exact ⟨rfl, rfl⟩
/-- Bytes that are read, as a text. -/
theorem As.str_of {w : World} {v : Value} {b : List UInt8} (h : Rd w 1 v b.length (bv b)) : (convert 26 9 v).run Tryz.prog w = .ok (.string ⟨b.toArray⟩) w := by
  obtain ⟨_, A, c, rfl, _, _, h4⟩ := h
  cases b with
  | nil =>
    cases A with
    | none => exact run_convert_bytes_nil (w := w) 26 5 Tryz.underlying26 Tryz.underlying5 0 c 9 Tryz.underlying9
    | some a => exact run_convert_bytes_back w 26 9 5 a c [] Tryz.underlying26 Tryz.underlying5 Tryz.underlying9 fun j hj => by simp at hj
  | cons x t =>
    obtain ⟨g, off, rfl, hg, hc⟩ := h4 (by simp)
    refine run_convert_bytes_back w 26 9 5 ⟨g, off, none⟩ c (x :: t) Tryz.underlying26 Tryz.underlying5 Tryz.underlying9 fun j hj => ?_
    rw [addr_add]
    exact hc j _ (by simp only [bv, List.getElem?_map, List.getElem?_eq_getElem hj, Option.map_some])
/-- What Source hands back. -/
def As.SrcPost (w : World) (r : As.O) (e : Ending) (w' : World) : Prop :=
  ∃ vb vs, e = .returned (.tuple #[.agg #[vb, vs], .bool (decide (r.err = 0))]) ∧ Rd w' 1 vb r.bytes.length (bv r.bytes) ∧ Rd w' 2 vs r.syms.length (As.symC r.syms) ∧ As.From w.heap.size vb ∧ As.From w.heap.size vs ∧ Below w.heap.size w w'
set_option maxRecDepth 100000 in
set_option maxHeartbeats 8000000 in
theorem asource_any {w : World} (s : List UInt8) (a : Nat) (ls : List L6.Line) (hT : L6.Tab w) (hs : s.length ≤ 1000000000) (hp : L6.parse s = (ls, 0, 0)) (hls : ls.length ≤ 1000000000) (hx : ∀ x ∈ ls, As.LOk x) (ha : a < 4294967296) :
    Calls Tryz.prog 21 #[.string ⟨s.toArray⟩, .int .u32 (a : Int)] w (As.SrcPost w (As.assemble ls a)) := by
  have hbk := Bk.fresh w 29 #[.slice none 0 0, .slice none 0 0]
  have hal : Below w.heap.size w (w.alloc (.cells #[.slice none 0 0, .slice none 0 0] 29)) := (Below.refl _ _).alloc (Nat.le_refl _) _
  obtain ⟨w1, hw1⟩ : ∃ w1, w.alloc (.cells #[.slice none 0 0, .slice none 0 0] 29) = w1 := ⟨_, rfl⟩
  rw [hw1] at hbk hal
  have hT1 := hT.kept hal
  have CP := lparse_any s w1 hs
  unfold ParsePost at CP
  rw [hp] at CP
  have CP := Lib.hid CP
  have HT1 := Lib.hid hT1
  have HAL := Lib.hid hal
  have HBK := Lib.hid hbk
  have CA := Lib.hid (fun v W (h : RdL W v ls) (hT : L6.Tab W) => aassemble_any v ls a h hT hls hx ha)
  clear hbk hal hT hT1 hs hp hls hx ha
  generalize As.assemble ls a = O at *
  go_enter Tryz.func21, Tryz.ntmps21
  go_wp2_with fail
  go_at_call 66
  refine CP.out.mono ?_
  rintro e w2 ⟨v2, rfl, hv2, hb2⟩
  have HB2 := Lib.hid (HAL.out.trans (hb2.mono HAL.out.size))
  have HK2 := Lib.hid (HBK.out.kept hb2)
  have HV2 := Lib.hid hv2.rd
  have HT2 := Lib.hid (HT1.out.kept hb2)
  obtain ⟨A2, c2, rfl⟩ := hv2.rd.form
  clear hv2 hb2 hw1
  go_wp2_with fail
  go_at_call 12
  refine (CA.out _ _ HV2.out HT2.out).mono ?_
  rintro e w3 ⟨vb, vs, rfl, hrb, hrs, hfb, hfs, hb3⟩
  have HB3 := Lib.hid (HB2.out.trans (hb3.mono HB2.out.size))
  have HK3 := Lib.hid (HK2.out.kept hb3)
  have HRB := Lib.hid hrb
  have HRS := Lib.hid hrs
  obtain ⟨Ab, cb, rfl⟩ := hrb.form
  obtain ⟨As_, cs, rfl⟩ := hrs.form
  have HFB := Lib.hid (hfb.mono (show w.heap.size + 1 ≤ w2.heap.size from HK2.out.lt))
  have HFS := Lib.hid (hfs.mono (show w.heap.size + 1 ≤ w2.heap.size from HK2.out.lt))
  clear hrb hrs hfb hfs hb3
  have hbx := Bk.fresh w3 29 #[.slice Ab O.bytes.length cb, .slice As_ O.syms.length cs]
  have hk4 : Bk (w3.alloc (.cells #[.slice Ab O.bytes.length cb, .slice As_ O.syms.length cs] 29)) w.heap.size 29 _ := HK3.out.kept ((Below.refl _ _).alloc (Nat.le_refl _) _)
  have x0 := hbx.cell 0
  have x1 := hbx.cell 1
  have HX := Lib.hid hbx
  have HK4 := Lib.hid hk4
  have HB4 := Lib.hid (HB3.out.alloc HB3.out.size (.cells #[.slice Ab O.bytes.length cb, .slice As_ O.syms.length cs] 29))
  have HRB4 := Lib.hid (HRB.out.kept ((Below.refl _ _).alloc (Nat.le_refl _) (.cells #[.slice Ab O.bytes.length cb, .slice As_ O.syms.length cs] 29)))
  have HRS4 := Lib.hid (HRS.out.kept ((Below.refl _ _).alloc (Nat.le_refl _) (.cells #[.slice Ab O.bytes.length cb, .slice As_ O.syms.length cs] 29)))
  have hne : w3.heap.size ≠ w.heap.size := by have := HK3.out.lt; omega
  go_wp2_with fail
  obtain ⟨w4, hw4⟩ : ∃ w4, w3.alloc (.cells #[.slice Ab O.bytes.length cb, .slice As_ O.syms.length cs] 29) = w4 := ⟨_, rfl⟩
  rw [hw4] at HX HK4 HB4 HRB4 HRS4 x0 x1 ⊢
  have y0 := HK4.out.cell 0
  have y1 := HK4.out.cell 1
  have z0 := HK4.out.free 0
  have z1 := HK4.out.free 1
  clear hbx hk4 hw4
  generalize w3.heap.size = g3 at *
  go_region_held3 (fun W' => W'.cell? ⟨g3, 0, none⟩ = some (.slice Ab O.bytes.length cb) ∧ W'.cell? ⟨g3, 1, none⟩ = some (.slice As_ O.syms.length cs)) (first | exact ⟨x0, x1⟩ | (constructor <;> (go_simp; first | done | assumption)) | go_keep)
    ((go_at_call 16; refine (anum7_any _ _).mono ?_; rintro e w' ⟨rfl, rfl⟩))
  go_wp2_with fail
  have hkk := (HK4.out.set 0 (.slice Ab O.bytes.length cb)).set 1 (.slice As_ O.syms.length cs)
  have p0 := hkk.cell 0
  have p1 := hkk.cell 1
  have he : ((O.err : Int) == 0) = decide (O.err = 0) := by rw [Bool.eq_iff_iff, beq_iff_eq, decide_eq_true_eq]; omega
  refine bodyPost_ret (v := .tuple #[.agg #[.slice Ab O.bytes.length cb, .slice As_ O.syms.length cs], .bool (decide (O.err = 0))]) (by simp [results, Tryz.results21, go_sem, p0, p1, he]) rfl ?_
  have t1 := But.setCell w4 w.heap.size 0 (.slice Ab O.bytes.length cb)
  have t2 := But.setCell (w4.setCell ⟨w.heap.size, 0, none⟩ (.slice Ab O.bytes.length cb)) w.heap.size 1 (.slice As_ O.syms.length cs)
  refine ⟨_, _, rfl, ?_, ?_, HFB.out.mono (Nat.le_succ _), HFS.out.mono (Nat.le_succ _), ((HB4.out.setCell (Nat.le_refl _) _).setCell (Nat.le_refl _) _).drew⟩
  · exact (((HRB4.out.but t1 (HFB.out.off (Nat.lt_succ_self _))).but t2 (HFB.out.off (Nat.lt_succ_self _)))).kept (Below.refl _ _).drew
  · exact (((HRS4.out.but t1 (HFS.out.off (Nat.lt_succ_self _))).but t2 (HFS.out.off (Nat.lt_succ_self _)))).kept (Below.refl _ _).drew
/-- What must come: a jump to itself. -/
def As.known : List UInt8 := [97, 58, 32, 106, 32, 97, 10, 98, 58, 32, 119, 111, 114, 100, 32, 97, 32, 98]
def As.knownL : List L6.Line := [⟨[[97]], [106], [[97]]⟩, ⟨[[98]], [119, 111, 114, 100], [[97], [98]]⟩]
def As.knownB : List UInt8 := [111, 0, 0, 0, 8, 0, 0, 0, 12, 0, 0, 0]
theorem As.known_parse : L6.parse As.known = (As.knownL, 0, 0) := by decide +kernel
theorem As.known_asm : As.assemble As.knownL 8 = ⟨As.knownB, [([97], 8), ([98], 12)], 0, 0⟩ := by kernel_rfl
set_option maxRecDepth 100000 in
set_option maxHeartbeats 4000000 in
theorem aknows_any (w : World) (hT : L6.Tab w) : Calls Tryz.prog 11 #[] w fun e w' => e = .returned (.bool true) ∧ Below w.heap.size w w' := by
  have CS := asource_any As.known 8 As.knownL hT (by decide) As.known_parse (by decide) (fun x hx => by
    unfold As.knownL at hx
    simp only [List.mem_cons, List.not_mem_nil, or_false] at hx
    rcases hx with rfl | rfl <;> exact ⟨by decide, by decide, by unfold As.Lo; decide, by unfold As.Lo; decide⟩) (by decide)
  rw [As.known_asm] at CS
  have CS := Lib.hid CS
  clear hT
  go_enter Tryz.func11, Tryz.ntmps11
  go_wp2_with fail
  go_at_call 21
  refine CS.out.mono ?_
  rintro e w2 ⟨vb, vs, rfl, hrb, hrs, hfb, hfs, hb2⟩
  dsimp only at hrb hrs ⊢
  have HB2 := Lib.hid hb2
  have hconv := fun W (hW : Below w2.heap.size w2 W) => As.str_of (hrb.kept hW)
  obtain ⟨Ab, cb, rfl⟩ := hrb.form
  obtain ⟨_, A, c, rfl, _, _, h4⟩ := hrs
  obtain ⟨g, off, rfl, hg, hc⟩ := h4 (by decide)
  have hc3 := hc 3 (.int .u32 12) rfl
  have hx := Bk.fresh w2 29 #[.slice Ab As.knownB.length cb, .slice (some ⟨g, off, none⟩) 2 c]
  have x0 := hx.cell 0
  have x1 := hx.cell 1
  have hal : Below w2.heap.size w2 (w2.alloc (.cells #[.slice Ab As.knownB.length cb, .slice (some ⟨g, off, none⟩) 2 c] 29)) := (Below.refl _ _).alloc (Nat.le_refl _) _
  have hcv := hconv _ hal
  have hc4 := (hal.cell (p := ⟨g, off + 3, none⟩) hg).trans hc3
  have HAL := Lib.hid hal
  clear hconv hc hal hx
  go_wp2_with fail
  go_ret
  exact ⟨rfl, HB2.out.trans (HAL.out.mono HB2.out.size)⟩
end Go.Proofs.YtfafdkbnmfpbmaaGreatDoor
/- Layer 7: numbers and Args as the law AsmDecoded writes them. -/
namespace Go.Proofs.YtfafdkbnmfpbmaaGreatDoor
open Go.RowKit Kit
set_option linter.unusedVariables false
set_option linter.unusedSimpArgs false

theorem As.byte_str (w : World) (n : Nat) (hn : n < 10) : (convert 26 9 (.slice (some ⟨w.heap.size, 0, none⟩) 1 1)).run Tryz.prog (w.alloc (.cells #[.int .u8 (48 + (n : Int))] 5)) = .ok (.string ⟨[UInt8.ofNat (48 + n)].toArray⟩) (w.alloc (.cells #[.int .u8 (48 + (n : Int))] 5)) := by
  have hbk := Bk.fresh w 5 #[.int .u8 (48 + (n : Int))]
  have e : (UInt8.ofNat (48 + n)).toNat = 48 + n := by rw [UInt8.toNat_ofNat']; omega
  refine As.str_of (b := [UInt8.ofNat (48 + n)]) ⟨rfl, some ⟨w.heap.size, 0, none⟩, 1, rfl, Nat.le_refl _, by unfold maxLen; omega, fun _ => ⟨_, 0, rfl, hbk.lt, fun j u hu => ?_⟩⟩
  rw [Nat.zero_add, hbk.cell j]
  simp only [bv, List.map_cons, List.map_nil, e] at hu
  rw [← hu]
  simp
set_option maxRecDepth 100000 in
set_option maxHeartbeats 1000000 in
theorem adigits_nat : ∀ (n : Nat) (w : World), n ≤ 4294967296 → Calls Tryz.prog 65 #[.int .i64 (n : Int)] w fun e w' => e = .returned (.string ⟨(Lib.decDigits n).toArray⟩) ∧ Below w.heap.size w w' := by
  intro n
  induction n using Nat.strongRecOn with
  | ind n ih =>
    intro w hn
    have h0 : ¬ (n : Int) < 0 := by omega
    by_cases h10 : n < 10
    · have hlt : (n : Int) < 10 := by omega
      have hw1 : IntKind.i64.wrap (48 + (n : Int)) = 48 + (n : Int) := by rw [IntKind.wrap_i64]; omega
      have hw2 : IntKind.u8.wrap (48 + (n : Int)) = 48 + (n : Int) := by rw [IntKind.wrap_u8]; omega
      have HD := Lib.hid (show Lib.decDigits n = [UInt8.ofNat (48 + n)] from by unfold Lib.decDigits; rw [dif_pos h10])
      have hcv := As.byte_str w n h10
      generalize UInt8.ofNat (48 + n) = ch at HD hcv
      have HAL := Lib.hid ((Below.refl w.heap.size w).alloc (Nat.le_refl _) (.cells #[.int .u8 (48 + (n : Int))] 5))
      clear ih
      go_enter Tryz.func65, Tryz.ntmps65
      go_wp2_with fail
      go_ret
      exact ⟨by rw [HD.out]; rfl, HAL.out⟩
    · have hge : ¬ (n : Int) < 10 := by omega
      obtain ⟨q, hq⟩ : ∃ q, n / 10 = q := ⟨_, rfl⟩
      obtain ⟨r, hr⟩ : ∃ r, n % 10 = r := ⟨_, rfl⟩
      have C1 := Lib.hid (fun W => ih q (by omega) W (by omega))
      have C2 := Lib.hid (fun W => ih r (by omega) W (by omega))
      have t1 : (n : Int).tdiv 10 = (q : Int) := by rw [Int.tdiv_eq_ediv_of_nonneg (by omega)]; omega
      have t2 : (n : Int).tmod 10 = (r : Int) := by rw [Int.tmod_eq_emod_of_nonneg (by omega)]; omega
      have hw1 : IntKind.i64.wrap (q : Int) = (q : Int) := by rw [IntKind.wrap_i64]; omega
      have hw2 : IntKind.i64.wrap (r : Int) = (r : Int) := by rw [IntKind.wrap_i64]; omega
      have HD := Lib.hid (show Lib.decDigits n = Lib.decDigits q ++ Lib.decDigits r from by
        conv => lhs; unfold Lib.decDigits
        rw [dif_neg h10, hq, hr]
        congr 1
        unfold Lib.decDigits
        rw [dif_pos (by omega)])
      have hl1 := F8.dec_len q
      have hl2 := F8.dec_len r
      have hlen : ¬ 9223372036854775807 < (Lib.decDigits q).length + (Lib.decDigits r).length := by omega
      clear ih hq hr hl1 hl2 hn
      go_enter Tryz.func65, Tryz.ntmps65
      go_wp2_with (first | (go_at_call 65; with_reducible refine (C1.out _).mono ?_; rintro e w1 ⟨rfl, hb1⟩) | (go_at_call 65; with_reducible refine (C2.out _).mono ?_; rintro e w2 ⟨rfl, hb2⟩))
      go_ret
      exact ⟨by rw [HD.out]; exact congrArg (fun x => Ending.returned (.string x)) (app_eq _ _), hb1.trans (hb2.mono hb1.size)⟩
/-- A number as text. -/
def As.dig (n : Int) : List UInt8 := if n < 0 then 45 :: Lib.decDigits (-n).toNat else Lib.decDigits n.toNat
set_option maxRecDepth 100000 in
theorem adigits_any (n : Int) (w : World) (h1 : -4294967296 ≤ n) (h2 : n ≤ 4294967296) : Calls Tryz.prog 65 #[.int .i64 n] w fun e w' => e = .returned (.string ⟨(As.dig n).toArray⟩) ∧ Below w.heap.size w w' := by
  by_cases h0 : n < 0
  · obtain ⟨k, hk⟩ : ∃ k : Nat, -n = (k : Int) := ⟨(-n).toNat, by omega⟩
    have HD := Lib.hid (show As.dig n = 45 :: Lib.decDigits k from by unfold As.dig; rw [if_pos h0]; rw [show (-n).toNat = k by omega])
    have C := Lib.hid (fun W => adigits_nat k W (by omega))
    have hw : IntKind.i64.wrap (-n) = (k : Int) := by rw [IntKind.wrap_i64]; omega
    have hl := F8.dec_len k
    have hlen : ¬ 9223372036854775807 < 1 + (Lib.decDigits k).length := by omega
    clear hk h1 h2 hl
    go_enter Tryz.func65, Tryz.ntmps65
    go_wp2_with (go_at_call 65; refine (C.out _).mono ?_; rintro e w1 ⟨rfl, hb1⟩)
    go_ret
    exact ⟨by rw [HD.out]; exact congrArg (fun x => Ending.returned (.string x)) (app_eq [45] _), hb1⟩
  · obtain ⟨k, rfl⟩ := Int.eq_ofNat_of_zero_le (show 0 ≤ n by omega)
    have := adigits_nat k w (by omega)
    have e : As.dig (k : Int) = Lib.decDigits k := by unfold As.dig; rw [if_neg h0]; rfl
    rw [e]
    exact this
def As.xr (n : Int) : List UInt8 := 120 :: As.dig n
/-- An instruction's Args. -/
def As.shownP (i : Is.Inst) : List (List UInt8) :=
  if Is.shape i.op = 0 then [As.xr i.rd, As.dig i.imm] else if Is.shape i.op = 1 then [As.xr i.rd, As.dig i.imm]
  else if Is.shape i.op = 3 then [As.xr i.rs1, As.xr i.rs2, As.dig i.imm] else if Is.shape i.op = 4 then [As.xr i.rs2, As.dig i.imm, As.xr i.rs1]
  else if Is.shape i.op = 6 then [As.xr i.rd, As.xr i.rs1, As.xr i.rs2] else if Is.shape i.op = 8 then [As.dig i.imm] else if Is.shape i.op = 7 then []
  else if i.op < 18 then [As.xr i.rd, As.dig i.imm, As.xr i.rs1] else [As.xr i.rd, As.xr i.rs1, As.dig i.imm]
theorem As.rds_new (w : World) (l : List (List UInt8)) (hl : l.length ≤ 1000) (cs : Array Value) (hc : cs = (L6.sv l).toArray) (n : Nat) (hn : n = l.length) : RdS (w.alloc (.cells cs 9)) (.slice (some ⟨w.heap.size, 0, none⟩) n n) l := by
  subst hc hn
  have hbk := Bk.fresh w 9 (L6.sv l).toArray
  exact ⟨by rw [L6.sv_length, Nat.mul_one], some ⟨w.heap.size, 0, none⟩, l.length, rfl, Nat.le_refl _, by unfold maxLen; omega, fun _ => ⟨_, 0, rfl, hbk.lt, fun j u hu => by rw [Nat.zero_add, hbk.cell j]; simpa using hu⟩⟩
/-- What shown hands back. -/
def As.ShowPost (w : World) (l : List (List UInt8)) (e : Ending) (w' : World) : Prop := ∃ v, e = .returned v ∧ RdS w' v l ∧ Below w.heap.size w w'
set_option maxRecDepth 100000 in
set_option maxHeartbeats 8000000 in
theorem ashown_any (i : Is.Inst) (w : World) (hd : 0 ≤ i.rd ∧ i.rd ≤ 100) (ha : 0 ≤ i.rs1 ∧ i.rs1 ≤ 100) (hb : 0 ≤ i.rs2 ∧ i.rs2 ≤ 100) (hi : -4294967296 ≤ i.imm ∧ i.imm ≤ 4294967296) :
    Calls Tryz.prog 20 #[i.v] w (As.ShowPost w (As.shownP i)) := by
  obtain ⟨op, rd, rs1, rs2, imm⟩ := i
  dsimp only at hd ha hb hi
  have C1 := Lib.hid (fun W => adigits_any rd W (by omega) (by omega))
  have C2 := Lib.hid (fun W => adigits_any rs1 W (by omega) (by omega))
  have C3 := Lib.hid (fun W => adigits_any rs2 W (by omega) (by omega))
  have C4 := Lib.hid (fun W => adigits_any imm W (by omega) (by omega))
  have CS := Lib.hid (fun W => shape_ref op W)
  have hlen : ∀ n : Int, (0 ≤ n ∧ n ≤ 100) → ¬ 9223372036854775807 < 1 + (As.dig n).length := fun n hn => by
    have e : As.dig n = Lib.decDigits n.toNat := by unfold As.dig; rw [if_neg (by omega)]
    rw [e]
    have := F8.dec_len n.toNat
    omega
  have l1 := hlen rd hd
  have l2 := hlen rs1 ha
  have l3 := hlen rs2 hb
  have x1 : (⟨#[120]⟩ : ByteArray) ++ ⟨(As.dig rd).toArray⟩ = ⟨(As.xr rd).toArray⟩ := app_eq [120] _
  have x2 : (⟨#[120]⟩ : ByteArray) ++ ⟨(As.dig rs1).toArray⟩ = ⟨(As.xr rs1).toArray⟩ := app_eq [120] _
  have x3 : (⟨#[120]⟩ : ByteArray) ++ ⟨(As.dig rs2).toArray⟩ = ⟨(As.xr rs2).toArray⟩ := app_eq [120] _
  have HSP := Lib.hid (show As.shownP ⟨op, rd, rs1, rs2, imm⟩ = (if Is.shape op = 0 then [As.xr rd, As.dig imm] else if Is.shape op = 1 then [As.xr rd, As.dig imm]
    else if Is.shape op = 3 then [As.xr rs1, As.xr rs2, As.dig imm] else if Is.shape op = 4 then [As.xr rs2, As.dig imm, As.xr rs1]
    else if Is.shape op = 6 then [As.xr rd, As.xr rs1, As.xr rs2] else if Is.shape op = 8 then [As.dig imm] else if Is.shape op = 7 then []
    else if op < 18 then [As.xr rd, As.dig imm, As.xr rs1] else [As.xr rd, As.xr rs1, As.dig imm]) from rfl)
  generalize As.shownP ⟨op, rd, rs1, rs2, imm⟩ = SP at *
  generalize As.dig rd = D1 at *
  generalize As.dig rs1 = D2 at *
  generalize As.dig rs2 = D3 at *
  generalize As.dig imm = D4 at *
  generalize As.xr rd = X1 at *
  generalize As.xr rs1 = X2 at *
  generalize As.xr rs2 = X3 at *
  clear hlen hd ha hb hi
  have hbk := Bk.fresh w 42 #[.int .i64 op, .int .i64 rd, .int .i64 rs1, .int .i64 rs2, .int .i64 imm]
  have hal : Below w.heap.size w (w.alloc (.cells #[.int .i64 op, .int .i64 rd, .int .i64 rs1, .int .i64 rs2, .int .i64 imm] 42)) := (Below.refl _ _).alloc (Nat.le_refl _) _
  have HBK := Lib.hid hbk
  have HAL := Lib.hid hal
  have b1 := hbk.cell 1
  clear hbk hal
  rcases Is.shape_cases op with hs | hs | hs | hs | hs | hs | hs | hs | hs | hs
  · by_cases ho : op < 18
    · have HV := Lib.hid (show SP = [X1, D4, X2] from by rw [HSP.out]; rw [if_neg (by rw [hs]; decide), if_neg (by rw [hs]; decide), if_neg (by rw [hs]; decide), if_neg (by rw [hs]; decide), if_neg (by rw [hs]; decide), if_neg (by rw [hs]; decide), if_neg (by rw [hs]; decide), if_pos ho])
      rw [hs] at CS
      clear hs HSP
      go_enter Tryz.func20, Tryz.ntmps20
      go_wp2_with fail
      go_at_call 65
      refine (C1.out _).mono ?_
      rintro e w1 ⟨rfl, hb1⟩
      have HB1 := Lib.hid (HAL.out.trans (hb1.mono HAL.out.size))
      have HK1 := Lib.hid (HBK.out.kept hb1)
      have d1 := HK1.out.cell 2
      clear hb1
      go_wp2_with fail
      go_at_call 65
      refine (C2.out _).mono ?_
      rintro e w2 ⟨rfl, hb2⟩
      have HB2 := Lib.hid (HB1.out.trans (hb2.mono HB1.out.size))
      have HK2 := Lib.hid (HK1.out.kept hb2)
      have d2 := HK2.out.cell 3
      clear hb2
      go_wp2_with fail
      go_at_call 65
      refine (C3.out _).mono ?_
      rintro e w3 ⟨rfl, hb3⟩
      have HB3 := Lib.hid (HB2.out.trans (hb3.mono HB2.out.size))
      have HK3 := Lib.hid (HK2.out.kept hb3)
      have d3 := HK3.out.cell 4
      clear hb3
      go_wp2_with fail
      go_at_call 65
      refine (C4.out _).mono ?_
      rintro e w4 ⟨rfl, hb4⟩
      have HB4 := Lib.hid (HB3.out.trans (hb4.mono HB3.out.size))
      have HK4 := Lib.hid (HK3.out.kept hb4)
      have d4 := HK4.out.cell 0
      have d0 := HK4.out.cell 0
      clear hb4
      go_wp2_with fail
      go_at_call 58
      refine (CS.out _).mono ?_
      rintro e w' ⟨rfl, rfl⟩
      go_wp2_with fail
      go_ret
      rw [HV.out]
      exact ⟨_, rfl, As.rds_new _ [X1, D4, X2] (by simp) _ rfl 3 rfl, HB4.out.alloc HB4.out.size _⟩
    · have HV := Lib.hid (show SP = [X1, X2, D4] from by rw [HSP.out]; rw [if_neg (by rw [hs]; decide), if_neg (by rw [hs]; decide), if_neg (by rw [hs]; decide), if_neg (by rw [hs]; decide), if_neg (by rw [hs]; decide), if_neg (by rw [hs]; decide), if_neg (by rw [hs]; decide), if_neg ho])
      rw [hs] at CS
      clear hs HSP
      go_enter Tryz.func20, Tryz.ntmps20
      go_wp2_with fail
      go_at_call 65
      refine (C1.out _).mono ?_
      rintro e w1 ⟨rfl, hb1⟩
      have HB1 := Lib.hid (HAL.out.trans (hb1.mono HAL.out.size))
      have HK1 := Lib.hid (HBK.out.kept hb1)
      have d1 := HK1.out.cell 2
      clear hb1
      go_wp2_with fail
      go_at_call 65
      refine (C2.out _).mono ?_
      rintro e w2 ⟨rfl, hb2⟩
      have HB2 := Lib.hid (HB1.out.trans (hb2.mono HB1.out.size))
      have HK2 := Lib.hid (HK1.out.kept hb2)
      have d2 := HK2.out.cell 3
      clear hb2
      go_wp2_with fail
      go_at_call 65
      refine (C3.out _).mono ?_
      rintro e w3 ⟨rfl, hb3⟩
      have HB3 := Lib.hid (HB2.out.trans (hb3.mono HB2.out.size))
      have HK3 := Lib.hid (HK2.out.kept hb3)
      have d3 := HK3.out.cell 4
      clear hb3
      go_wp2_with fail
      go_at_call 65
      refine (C4.out _).mono ?_
      rintro e w4 ⟨rfl, hb4⟩
      have HB4 := Lib.hid (HB3.out.trans (hb4.mono HB3.out.size))
      have HK4 := Lib.hid (HK3.out.kept hb4)
      have d4 := HK4.out.cell 0
      have d0 := HK4.out.cell 0
      clear hb4
      go_wp2_with fail
      go_at_call 58
      refine (CS.out _).mono ?_
      rintro e w' ⟨rfl, rfl⟩
      go_wp2_with fail
      go_ret
      rw [HV.out]
      exact ⟨_, rfl, As.rds_new _ [X1, X2, D4] (by simp) _ rfl 3 rfl, HB4.out.alloc HB4.out.size _⟩
  · have HV := Lib.hid (show SP = [X1, D4] from by rw [HSP.out]; rw [if_pos hs])
    rw [hs] at CS
    clear hs HSP
    go_enter Tryz.func20, Tryz.ntmps20
    go_wp2_with fail
    go_at_call 65
    refine (C1.out _).mono ?_
    rintro e w1 ⟨rfl, hb1⟩
    have HB1 := Lib.hid (HAL.out.trans (hb1.mono HAL.out.size))
    have HK1 := Lib.hid (HBK.out.kept hb1)
    have d1 := HK1.out.cell 2
    clear hb1
    go_wp2_with fail
    go_at_call 65
    refine (C2.out _).mono ?_
    rintro e w2 ⟨rfl, hb2⟩
    have HB2 := Lib.hid (HB1.out.trans (hb2.mono HB1.out.size))
    have HK2 := Lib.hid (HK1.out.kept hb2)
    have d2 := HK2.out.cell 3
    clear hb2
    go_wp2_with fail
    go_at_call 65
    refine (C3.out _).mono ?_
    rintro e w3 ⟨rfl, hb3⟩
    have HB3 := Lib.hid (HB2.out.trans (hb3.mono HB2.out.size))
    have HK3 := Lib.hid (HK2.out.kept hb3)
    have d3 := HK3.out.cell 4
    clear hb3
    go_wp2_with fail
    go_at_call 65
    refine (C4.out _).mono ?_
    rintro e w4 ⟨rfl, hb4⟩
    have HB4 := Lib.hid (HB3.out.trans (hb4.mono HB3.out.size))
    have HK4 := Lib.hid (HK3.out.kept hb4)
    have d4 := HK4.out.cell 0
    have d0 := HK4.out.cell 0
    clear hb4
    go_wp2_with fail
    go_at_call 58
    refine (CS.out _).mono ?_
    rintro e w' ⟨rfl, rfl⟩
    go_wp2_with fail
    go_ret
    rw [HV.out]
    exact ⟨_, rfl, As.rds_new _ [X1, D4] (by simp) _ rfl 2 rfl, HB4.out.alloc HB4.out.size _⟩
  · have HV := Lib.hid (show SP = [X1, D4] from by rw [HSP.out]; rw [if_neg (by rw [hs]; decide), if_pos hs])
    rw [hs] at CS
    clear hs HSP
    go_enter Tryz.func20, Tryz.ntmps20
    go_wp2_with fail
    go_at_call 65
    refine (C1.out _).mono ?_
    rintro e w1 ⟨rfl, hb1⟩
    have HB1 := Lib.hid (HAL.out.trans (hb1.mono HAL.out.size))
    have HK1 := Lib.hid (HBK.out.kept hb1)
    have d1 := HK1.out.cell 2
    clear hb1
    go_wp2_with fail
    go_at_call 65
    refine (C2.out _).mono ?_
    rintro e w2 ⟨rfl, hb2⟩
    have HB2 := Lib.hid (HB1.out.trans (hb2.mono HB1.out.size))
    have HK2 := Lib.hid (HK1.out.kept hb2)
    have d2 := HK2.out.cell 3
    clear hb2
    go_wp2_with fail
    go_at_call 65
    refine (C3.out _).mono ?_
    rintro e w3 ⟨rfl, hb3⟩
    have HB3 := Lib.hid (HB2.out.trans (hb3.mono HB2.out.size))
    have HK3 := Lib.hid (HK2.out.kept hb3)
    have d3 := HK3.out.cell 4
    clear hb3
    go_wp2_with fail
    go_at_call 65
    refine (C4.out _).mono ?_
    rintro e w4 ⟨rfl, hb4⟩
    have HB4 := Lib.hid (HB3.out.trans (hb4.mono HB3.out.size))
    have HK4 := Lib.hid (HK3.out.kept hb4)
    have d4 := HK4.out.cell 0
    have d0 := HK4.out.cell 0
    clear hb4
    go_wp2_with fail
    go_at_call 58
    refine (CS.out _).mono ?_
    rintro e w' ⟨rfl, rfl⟩
    go_wp2_with fail
    go_ret
    rw [HV.out]
    exact ⟨_, rfl, As.rds_new _ [X1, D4] (by simp) _ rfl 2 rfl, HB4.out.alloc HB4.out.size _⟩
  · by_cases ho : op < 18
    · have HV := Lib.hid (show SP = [X1, D4, X2] from by rw [HSP.out]; rw [if_neg (by rw [hs]; decide), if_neg (by rw [hs]; decide), if_neg (by rw [hs]; decide), if_neg (by rw [hs]; decide), if_neg (by rw [hs]; decide), if_neg (by rw [hs]; decide), if_neg (by rw [hs]; decide), if_pos ho])
      rw [hs] at CS
      clear hs HSP
      go_enter Tryz.func20, Tryz.ntmps20
      go_wp2_with fail
      go_at_call 65
      refine (C1.out _).mono ?_
      rintro e w1 ⟨rfl, hb1⟩
      have HB1 := Lib.hid (HAL.out.trans (hb1.mono HAL.out.size))
      have HK1 := Lib.hid (HBK.out.kept hb1)
      have d1 := HK1.out.cell 2
      clear hb1
      go_wp2_with fail
      go_at_call 65
      refine (C2.out _).mono ?_
      rintro e w2 ⟨rfl, hb2⟩
      have HB2 := Lib.hid (HB1.out.trans (hb2.mono HB1.out.size))
      have HK2 := Lib.hid (HK1.out.kept hb2)
      have d2 := HK2.out.cell 3
      clear hb2
      go_wp2_with fail
      go_at_call 65
      refine (C3.out _).mono ?_
      rintro e w3 ⟨rfl, hb3⟩
      have HB3 := Lib.hid (HB2.out.trans (hb3.mono HB2.out.size))
      have HK3 := Lib.hid (HK2.out.kept hb3)
      have d3 := HK3.out.cell 4
      clear hb3
      go_wp2_with fail
      go_at_call 65
      refine (C4.out _).mono ?_
      rintro e w4 ⟨rfl, hb4⟩
      have HB4 := Lib.hid (HB3.out.trans (hb4.mono HB3.out.size))
      have HK4 := Lib.hid (HK3.out.kept hb4)
      have d4 := HK4.out.cell 0
      have d0 := HK4.out.cell 0
      clear hb4
      go_wp2_with fail
      go_at_call 58
      refine (CS.out _).mono ?_
      rintro e w' ⟨rfl, rfl⟩
      go_wp2_with fail
      go_ret
      rw [HV.out]
      exact ⟨_, rfl, As.rds_new _ [X1, D4, X2] (by simp) _ rfl 3 rfl, HB4.out.alloc HB4.out.size _⟩
    · have HV := Lib.hid (show SP = [X1, X2, D4] from by rw [HSP.out]; rw [if_neg (by rw [hs]; decide), if_neg (by rw [hs]; decide), if_neg (by rw [hs]; decide), if_neg (by rw [hs]; decide), if_neg (by rw [hs]; decide), if_neg (by rw [hs]; decide), if_neg (by rw [hs]; decide), if_neg ho])
      rw [hs] at CS
      clear hs HSP
      go_enter Tryz.func20, Tryz.ntmps20
      go_wp2_with fail
      go_at_call 65
      refine (C1.out _).mono ?_
      rintro e w1 ⟨rfl, hb1⟩
      have HB1 := Lib.hid (HAL.out.trans (hb1.mono HAL.out.size))
      have HK1 := Lib.hid (HBK.out.kept hb1)
      have d1 := HK1.out.cell 2
      clear hb1
      go_wp2_with fail
      go_at_call 65
      refine (C2.out _).mono ?_
      rintro e w2 ⟨rfl, hb2⟩
      have HB2 := Lib.hid (HB1.out.trans (hb2.mono HB1.out.size))
      have HK2 := Lib.hid (HK1.out.kept hb2)
      have d2 := HK2.out.cell 3
      clear hb2
      go_wp2_with fail
      go_at_call 65
      refine (C3.out _).mono ?_
      rintro e w3 ⟨rfl, hb3⟩
      have HB3 := Lib.hid (HB2.out.trans (hb3.mono HB2.out.size))
      have HK3 := Lib.hid (HK2.out.kept hb3)
      have d3 := HK3.out.cell 4
      clear hb3
      go_wp2_with fail
      go_at_call 65
      refine (C4.out _).mono ?_
      rintro e w4 ⟨rfl, hb4⟩
      have HB4 := Lib.hid (HB3.out.trans (hb4.mono HB3.out.size))
      have HK4 := Lib.hid (HK3.out.kept hb4)
      have d4 := HK4.out.cell 0
      have d0 := HK4.out.cell 0
      clear hb4
      go_wp2_with fail
      go_at_call 58
      refine (CS.out _).mono ?_
      rintro e w' ⟨rfl, rfl⟩
      go_wp2_with fail
      go_ret
      rw [HV.out]
      exact ⟨_, rfl, As.rds_new _ [X1, X2, D4] (by simp) _ rfl 3 rfl, HB4.out.alloc HB4.out.size _⟩
  · have HV := Lib.hid (show SP = [X2, X3, D4] from by rw [HSP.out]; rw [if_neg (by rw [hs]; decide), if_neg (by rw [hs]; decide), if_pos hs])
    rw [hs] at CS
    clear hs HSP
    go_enter Tryz.func20, Tryz.ntmps20
    go_wp2_with fail
    go_at_call 65
    refine (C1.out _).mono ?_
    rintro e w1 ⟨rfl, hb1⟩
    have HB1 := Lib.hid (HAL.out.trans (hb1.mono HAL.out.size))
    have HK1 := Lib.hid (HBK.out.kept hb1)
    have d1 := HK1.out.cell 2
    clear hb1
    go_wp2_with fail
    go_at_call 65
    refine (C2.out _).mono ?_
    rintro e w2 ⟨rfl, hb2⟩
    have HB2 := Lib.hid (HB1.out.trans (hb2.mono HB1.out.size))
    have HK2 := Lib.hid (HK1.out.kept hb2)
    have d2 := HK2.out.cell 3
    clear hb2
    go_wp2_with fail
    go_at_call 65
    refine (C3.out _).mono ?_
    rintro e w3 ⟨rfl, hb3⟩
    have HB3 := Lib.hid (HB2.out.trans (hb3.mono HB2.out.size))
    have HK3 := Lib.hid (HK2.out.kept hb3)
    have d3 := HK3.out.cell 4
    clear hb3
    go_wp2_with fail
    go_at_call 65
    refine (C4.out _).mono ?_
    rintro e w4 ⟨rfl, hb4⟩
    have HB4 := Lib.hid (HB3.out.trans (hb4.mono HB3.out.size))
    have HK4 := Lib.hid (HK3.out.kept hb4)
    have d4 := HK4.out.cell 0
    have d0 := HK4.out.cell 0
    clear hb4
    go_wp2_with fail
    go_at_call 58
    refine (CS.out _).mono ?_
    rintro e w' ⟨rfl, rfl⟩
    go_wp2_with fail
    go_ret
    rw [HV.out]
    exact ⟨_, rfl, As.rds_new _ [X2, X3, D4] (by simp) _ rfl 3 rfl, HB4.out.alloc HB4.out.size _⟩
  · have HV := Lib.hid (show SP = [X3, D4, X2] from by rw [HSP.out]; rw [if_neg (by rw [hs]; decide), if_neg (by rw [hs]; decide), if_neg (by rw [hs]; decide), if_pos hs])
    rw [hs] at CS
    clear hs HSP
    go_enter Tryz.func20, Tryz.ntmps20
    go_wp2_with fail
    go_at_call 65
    refine (C1.out _).mono ?_
    rintro e w1 ⟨rfl, hb1⟩
    have HB1 := Lib.hid (HAL.out.trans (hb1.mono HAL.out.size))
    have HK1 := Lib.hid (HBK.out.kept hb1)
    have d1 := HK1.out.cell 2
    clear hb1
    go_wp2_with fail
    go_at_call 65
    refine (C2.out _).mono ?_
    rintro e w2 ⟨rfl, hb2⟩
    have HB2 := Lib.hid (HB1.out.trans (hb2.mono HB1.out.size))
    have HK2 := Lib.hid (HK1.out.kept hb2)
    have d2 := HK2.out.cell 3
    clear hb2
    go_wp2_with fail
    go_at_call 65
    refine (C3.out _).mono ?_
    rintro e w3 ⟨rfl, hb3⟩
    have HB3 := Lib.hid (HB2.out.trans (hb3.mono HB2.out.size))
    have HK3 := Lib.hid (HK2.out.kept hb3)
    have d3 := HK3.out.cell 4
    clear hb3
    go_wp2_with fail
    go_at_call 65
    refine (C4.out _).mono ?_
    rintro e w4 ⟨rfl, hb4⟩
    have HB4 := Lib.hid (HB3.out.trans (hb4.mono HB3.out.size))
    have HK4 := Lib.hid (HK3.out.kept hb4)
    have d4 := HK4.out.cell 0
    have d0 := HK4.out.cell 0
    clear hb4
    go_wp2_with fail
    go_at_call 58
    refine (CS.out _).mono ?_
    rintro e w' ⟨rfl, rfl⟩
    go_wp2_with fail
    go_ret
    rw [HV.out]
    exact ⟨_, rfl, As.rds_new _ [X3, D4, X2] (by simp) _ rfl 3 rfl, HB4.out.alloc HB4.out.size _⟩
  · by_cases ho : op < 18
    · have HV := Lib.hid (show SP = [X1, D4, X2] from by rw [HSP.out]; rw [if_neg (by rw [hs]; decide), if_neg (by rw [hs]; decide), if_neg (by rw [hs]; decide), if_neg (by rw [hs]; decide), if_neg (by rw [hs]; decide), if_neg (by rw [hs]; decide), if_neg (by rw [hs]; decide), if_pos ho])
      rw [hs] at CS
      clear hs HSP
      go_enter Tryz.func20, Tryz.ntmps20
      go_wp2_with fail
      go_at_call 65
      refine (C1.out _).mono ?_
      rintro e w1 ⟨rfl, hb1⟩
      have HB1 := Lib.hid (HAL.out.trans (hb1.mono HAL.out.size))
      have HK1 := Lib.hid (HBK.out.kept hb1)
      have d1 := HK1.out.cell 2
      clear hb1
      go_wp2_with fail
      go_at_call 65
      refine (C2.out _).mono ?_
      rintro e w2 ⟨rfl, hb2⟩
      have HB2 := Lib.hid (HB1.out.trans (hb2.mono HB1.out.size))
      have HK2 := Lib.hid (HK1.out.kept hb2)
      have d2 := HK2.out.cell 3
      clear hb2
      go_wp2_with fail
      go_at_call 65
      refine (C3.out _).mono ?_
      rintro e w3 ⟨rfl, hb3⟩
      have HB3 := Lib.hid (HB2.out.trans (hb3.mono HB2.out.size))
      have HK3 := Lib.hid (HK2.out.kept hb3)
      have d3 := HK3.out.cell 4
      clear hb3
      go_wp2_with fail
      go_at_call 65
      refine (C4.out _).mono ?_
      rintro e w4 ⟨rfl, hb4⟩
      have HB4 := Lib.hid (HB3.out.trans (hb4.mono HB3.out.size))
      have HK4 := Lib.hid (HK3.out.kept hb4)
      have d4 := HK4.out.cell 0
      have d0 := HK4.out.cell 0
      clear hb4
      go_wp2_with fail
      go_at_call 58
      refine (CS.out _).mono ?_
      rintro e w' ⟨rfl, rfl⟩
      go_wp2_with fail
      go_ret
      rw [HV.out]
      exact ⟨_, rfl, As.rds_new _ [X1, D4, X2] (by simp) _ rfl 3 rfl, HB4.out.alloc HB4.out.size _⟩
    · have HV := Lib.hid (show SP = [X1, X2, D4] from by rw [HSP.out]; rw [if_neg (by rw [hs]; decide), if_neg (by rw [hs]; decide), if_neg (by rw [hs]; decide), if_neg (by rw [hs]; decide), if_neg (by rw [hs]; decide), if_neg (by rw [hs]; decide), if_neg (by rw [hs]; decide), if_neg ho])
      rw [hs] at CS
      clear hs HSP
      go_enter Tryz.func20, Tryz.ntmps20
      go_wp2_with fail
      go_at_call 65
      refine (C1.out _).mono ?_
      rintro e w1 ⟨rfl, hb1⟩
      have HB1 := Lib.hid (HAL.out.trans (hb1.mono HAL.out.size))
      have HK1 := Lib.hid (HBK.out.kept hb1)
      have d1 := HK1.out.cell 2
      clear hb1
      go_wp2_with fail
      go_at_call 65
      refine (C2.out _).mono ?_
      rintro e w2 ⟨rfl, hb2⟩
      have HB2 := Lib.hid (HB1.out.trans (hb2.mono HB1.out.size))
      have HK2 := Lib.hid (HK1.out.kept hb2)
      have d2 := HK2.out.cell 3
      clear hb2
      go_wp2_with fail
      go_at_call 65
      refine (C3.out _).mono ?_
      rintro e w3 ⟨rfl, hb3⟩
      have HB3 := Lib.hid (HB2.out.trans (hb3.mono HB2.out.size))
      have HK3 := Lib.hid (HK2.out.kept hb3)
      have d3 := HK3.out.cell 4
      clear hb3
      go_wp2_with fail
      go_at_call 65
      refine (C4.out _).mono ?_
      rintro e w4 ⟨rfl, hb4⟩
      have HB4 := Lib.hid (HB3.out.trans (hb4.mono HB3.out.size))
      have HK4 := Lib.hid (HK3.out.kept hb4)
      have d4 := HK4.out.cell 0
      have d0 := HK4.out.cell 0
      clear hb4
      go_wp2_with fail
      go_at_call 58
      refine (CS.out _).mono ?_
      rintro e w' ⟨rfl, rfl⟩
      go_wp2_with fail
      go_ret
      rw [HV.out]
      exact ⟨_, rfl, As.rds_new _ [X1, X2, D4] (by simp) _ rfl 3 rfl, HB4.out.alloc HB4.out.size _⟩
  · have HV := Lib.hid (show SP = [X1, X2, X3] from by rw [HSP.out]; rw [if_neg (by rw [hs]; decide), if_neg (by rw [hs]; decide), if_neg (by rw [hs]; decide), if_neg (by rw [hs]; decide), if_pos hs])
    rw [hs] at CS
    clear hs HSP
    go_enter Tryz.func20, Tryz.ntmps20
    go_wp2_with fail
    go_at_call 65
    refine (C1.out _).mono ?_
    rintro e w1 ⟨rfl, hb1⟩
    have HB1 := Lib.hid (HAL.out.trans (hb1.mono HAL.out.size))
    have HK1 := Lib.hid (HBK.out.kept hb1)
    have d1 := HK1.out.cell 2
    clear hb1
    go_wp2_with fail
    go_at_call 65
    refine (C2.out _).mono ?_
    rintro e w2 ⟨rfl, hb2⟩
    have HB2 := Lib.hid (HB1.out.trans (hb2.mono HB1.out.size))
    have HK2 := Lib.hid (HK1.out.kept hb2)
    have d2 := HK2.out.cell 3
    clear hb2
    go_wp2_with fail
    go_at_call 65
    refine (C3.out _).mono ?_
    rintro e w3 ⟨rfl, hb3⟩
    have HB3 := Lib.hid (HB2.out.trans (hb3.mono HB2.out.size))
    have HK3 := Lib.hid (HK2.out.kept hb3)
    have d3 := HK3.out.cell 4
    clear hb3
    go_wp2_with fail
    go_at_call 65
    refine (C4.out _).mono ?_
    rintro e w4 ⟨rfl, hb4⟩
    have HB4 := Lib.hid (HB3.out.trans (hb4.mono HB3.out.size))
    have HK4 := Lib.hid (HK3.out.kept hb4)
    have d4 := HK4.out.cell 0
    have d0 := HK4.out.cell 0
    clear hb4
    go_wp2_with fail
    go_at_call 58
    refine (CS.out _).mono ?_
    rintro e w' ⟨rfl, rfl⟩
    go_wp2_with fail
    go_ret
    rw [HV.out]
    exact ⟨_, rfl, As.rds_new _ [X1, X2, X3] (by simp) _ rfl 3 rfl, HB4.out.alloc HB4.out.size _⟩
  · have HV := Lib.hid (show SP = [] from by rw [HSP.out]; rw [if_neg (by rw [hs]; decide), if_neg (by rw [hs]; decide), if_neg (by rw [hs]; decide), if_neg (by rw [hs]; decide), if_neg (by rw [hs]; decide), if_neg (by rw [hs]; decide), if_pos hs])
    rw [hs] at CS
    clear hs HSP
    go_enter Tryz.func20, Tryz.ntmps20
    go_wp2_with fail
    go_at_call 65
    refine (C1.out _).mono ?_
    rintro e w1 ⟨rfl, hb1⟩
    have HB1 := Lib.hid (HAL.out.trans (hb1.mono HAL.out.size))
    have HK1 := Lib.hid (HBK.out.kept hb1)
    have d1 := HK1.out.cell 2
    clear hb1
    go_wp2_with fail
    go_at_call 65
    refine (C2.out _).mono ?_
    rintro e w2 ⟨rfl, hb2⟩
    have HB2 := Lib.hid (HB1.out.trans (hb2.mono HB1.out.size))
    have HK2 := Lib.hid (HK1.out.kept hb2)
    have d2 := HK2.out.cell 3
    clear hb2
    go_wp2_with fail
    go_at_call 65
    refine (C3.out _).mono ?_
    rintro e w3 ⟨rfl, hb3⟩
    have HB3 := Lib.hid (HB2.out.trans (hb3.mono HB2.out.size))
    have HK3 := Lib.hid (HK2.out.kept hb3)
    have d3 := HK3.out.cell 4
    clear hb3
    go_wp2_with fail
    go_at_call 65
    refine (C4.out _).mono ?_
    rintro e w4 ⟨rfl, hb4⟩
    have HB4 := Lib.hid (HB3.out.trans (hb4.mono HB3.out.size))
    have HK4 := Lib.hid (HK3.out.kept hb4)
    have d4 := HK4.out.cell 0
    have d0 := HK4.out.cell 0
    clear hb4
    go_wp2_with fail
    go_at_call 58
    refine (CS.out _).mono ?_
    rintro e w' ⟨rfl, rfl⟩
    go_wp2_with fail
    go_ret
    rw [HV.out]
    exact ⟨_, rfl, (OwnS.nil 0 _).rd, HB4.out⟩
  · have HV := Lib.hid (show SP = [D4] from by rw [HSP.out]; rw [if_neg (by rw [hs]; decide), if_neg (by rw [hs]; decide), if_neg (by rw [hs]; decide), if_neg (by rw [hs]; decide), if_neg (by rw [hs]; decide), if_pos hs])
    rw [hs] at CS
    clear hs HSP
    go_enter Tryz.func20, Tryz.ntmps20
    go_wp2_with fail
    go_at_call 65
    refine (C1.out _).mono ?_
    rintro e w1 ⟨rfl, hb1⟩
    have HB1 := Lib.hid (HAL.out.trans (hb1.mono HAL.out.size))
    have HK1 := Lib.hid (HBK.out.kept hb1)
    have d1 := HK1.out.cell 2
    clear hb1
    go_wp2_with fail
    go_at_call 65
    refine (C2.out _).mono ?_
    rintro e w2 ⟨rfl, hb2⟩
    have HB2 := Lib.hid (HB1.out.trans (hb2.mono HB1.out.size))
    have HK2 := Lib.hid (HK1.out.kept hb2)
    have d2 := HK2.out.cell 3
    clear hb2
    go_wp2_with fail
    go_at_call 65
    refine (C3.out _).mono ?_
    rintro e w3 ⟨rfl, hb3⟩
    have HB3 := Lib.hid (HB2.out.trans (hb3.mono HB2.out.size))
    have HK3 := Lib.hid (HK2.out.kept hb3)
    have d3 := HK3.out.cell 4
    clear hb3
    go_wp2_with fail
    go_at_call 65
    refine (C4.out _).mono ?_
    rintro e w4 ⟨rfl, hb4⟩
    have HB4 := Lib.hid (HB3.out.trans (hb4.mono HB3.out.size))
    have HK4 := Lib.hid (HK3.out.kept hb4)
    have d4 := HK4.out.cell 0
    have d0 := HK4.out.cell 0
    clear hb4
    go_wp2_with fail
    go_at_call 58
    refine (CS.out _).mono ?_
    rintro e w' ⟨rfl, rfl⟩
    go_wp2_with fail
    go_ret
    rw [HV.out]
    exact ⟨_, rfl, As.rds_new _ [D4] (by simp) _ rfl 1 rfl, HB4.out.alloc HB4.out.size _⟩
end Go.Proofs.YtfafdkbnmfpbmaaGreatDoor
/- Layer 7: the words of a shown instruction are read back. Plain. -/
namespace Go.Proofs.YtfafdkbnmfpbmaaGreatDoor
set_option linter.unusedVariables false
set_option linter.unusedSimpArgs false

/-- A byte of a shown word. -/
def As.okB (c : UInt8) : Bool := decide (45 ≤ c.toNat) && (decide (c.toNat ≤ 122) && (decide (c.toNat ≠ 47) && decide (c.toNat ≠ 58)))
def As.dgB (c : UInt8) : Bool := decide (48 ≤ c.toNat) && decide (c.toNat ≤ 57)
theorem As.okB_ne {c d : UInt8} (h : As.okB c = true) (hd : As.okB d = false) : c ≠ d := fun e => by rw [e, hd] at h; cases h
theorem As.dgB_ne {c d : UInt8} (h : As.dgB c = true) (hd : As.dgB d = false) : c ≠ d := fun e => by rw [e, hd] at h; cases h
theorem As.dg_ok {c : UInt8} (h : As.dgB c = true) : As.okB c = true := by
  unfold As.dgB at h
  unfold As.okB
  simp only [Bool.and_eq_true, decide_eq_true_eq] at h ⊢
  omega
theorem As.dg_digit (r : Nat) (h : r < 10) : As.dgB (UInt8.ofNat (48 + r)) = true ∧ L6.dig (UInt8.ofNat (48 + r)) = some r := by
  have : ∀ r : Fin 10, As.dgB (UInt8.ofNat (48 + r.val)) = true ∧ L6.dig (UInt8.ofNat (48 + r.val)) = some r.val := by decide
  exact this ⟨r, h⟩
theorem As.dec_dg : ∀ (n : Nat), ∀ c ∈ Lib.decDigits n, As.dgB c = true := by
  intro n
  induction n using Nat.strongRecOn with
  | ind n ih =>
    intro c hc
    unfold Lib.decDigits at hc
    split at hc
    · rename_i h
      rw [List.mem_singleton] at hc
      rw [hc]
      exact (As.dg_digit n h).1
    · rename_i h
      rcases List.mem_append.1 hc with hc | hc
      · exact ih (n / 10) (by omega) c hc
      · rw [List.mem_singleton] at hc
        rw [hc]
        exact (As.dg_digit _ (by omega)).1
theorem As.dec_ne (n : Nat) : Lib.decDigits n ≠ [] := by
  unfold Lib.decDigits
  split <;> simp
theorem As.digits_app : ∀ (l : List UInt8) (n m : Nat) (t : List UInt8), L6.digits 10 n l = some m → L6.digits 10 n (l ++ t) = L6.digits 10 m t
  | [], n, m, t, h => by
    have h : some n = some m := h
    cases h
    rfl
  | c :: l, n, m, t, h => by
    rw [List.cons_append]
    unfold L6.digits at h
    conv => lhs; unfold L6.digits
    cases hd : L6.dig c with
    | none => rw [hd] at h; cases h
    | some d =>
      rw [hd] at h
      dsimp only at h ⊢
      split at h
      · cases h
      · rename_i h1
        split at h
        · cases h
        · rename_i h2
          rw [if_neg h1, if_neg h2]
          exact As.digits_app l _ m t h
theorem As.digits_dec : ∀ (n : Nat), n ≤ 4294967295 → L6.digits 10 0 (Lib.decDigits n) = some n := by
  intro n
  induction n using Nat.strongRecOn with
  | ind n ih =>
    intro hn
    unfold Lib.decDigits
    split
    · rename_i h
      unfold L6.digits
      rw [(As.dg_digit n h).2]
      dsimp only
      rw [if_neg (by omega), if_neg (by omega)]
      unfold L6.digits
      rw [Nat.zero_mul, Nat.zero_add]
    · rename_i h
      rw [As.digits_app _ 0 (n / 10) _ (ih (n / 10) (by omega) (by omega))]
      unfold L6.digits
      rw [(As.dg_digit (n % 10) (by omega)).2]
      dsimp only
      rw [if_neg (by omega), if_neg (by omega)]
      unfold L6.digits
      rw [show n / 10 * 10 + n % 10 = n by omega]
theorem As.digitsV_dec (n : Nat) (hn : n ≤ 4294967295) : L6.digitsV 10 (Lib.decDigits n) = (n, true) := by
  unfold L6.digitsV
  rw [As.digits_dec n hn]
  have := As.dec_ne n
  cases h : Lib.decDigits n with
  | nil => exact absurd h this
  | cons c t => rfl
theorem As.no_prefix {l p : List UInt8} {d : UInt8} (hl : d ∉ l) (hp : d ∈ p) : Lib.hasPrefix l p = false := by
  cases h : Lib.hasPrefix l p with
  | false => rfl
  | true =>
    unfold Lib.hasPrefix at h
    obtain ⟨t, rfl⟩ := List.isPrefixOf_iff_prefix.1 h
    exact absurd (List.mem_append_left t hp) hl
theorem As.no_quote3 {l : List UInt8} (hl : (39 : UInt8) ∉ l) : L6.quoted3 l = false := by
  unfold L6.quoted3
  cases l with
  | nil => rfl
  | cons c t =>
    have : c ≠ 39 := fun e => hl (by simp [e])
    simp [this]
theorem As.dec_free (n : Nat) (d : UInt8) (h : As.dgB d = false) : d ∉ Lib.decDigits n := fun e => by rw [As.dec_dg n d e] at h; cases h
theorem As.num_dig (n : Int) (h1 : -2147483648 ≤ n) (h2 : n ≤ 4294967295) : L6.number (As.dig n) = (n, true) := by
  unfold As.dig
  split
  · rename_i h0
    obtain ⟨k, hk⟩ : ∃ k : Nat, (-n).toNat = k := ⟨_, rfl⟩
    rw [hk]
    have hq : L6.quoted3 (45 :: Lib.decDigits k) = false := As.no_quote3 fun e => by
      rcases List.mem_cons.1 e with e | e
      · exact absurd e (by decide)
      · exact As.dec_free k 39 (by decide) e
    have hh : Lib.hasPrefix (45 :: Lib.decDigits k) [48, 120] = false := by simp [Lib.hasPrefix, List.isPrefixOf]
    have hm : Lib.hasPrefix (45 :: Lib.decDigits k) [45] = true := by simp [Lib.hasPrefix, List.isPrefixOf]
    have ht : Lib.trimPrefix (45 :: Lib.decDigits k) [45] = Lib.decDigits k := by unfold Lib.trimPrefix; rw [hm]; rfl
    have hr : L6.rawV (45 :: Lib.decDigits k) = (n, true) := by
      unfold L6.rawV
      rw [hh, hm, ht, As.digitsV_dec k (by omega)]
      simp only [Bool.false_and, Bool.false_eq_true, if_false, if_true]
      rw [show -(k : Int) = n by omega]
    unfold L6.number
    rw [hq, hr]
    have a1 : decide (-2147483648 ≤ n) = true := decide_eq_true h1
    have a2 : decide (n ≤ 4294967295) = true := decide_eq_true h2
    simp only [a1, a2, Bool.false_eq_true, if_false, Bool.and_true, if_true]
  · rename_i h0
    obtain ⟨k, hk⟩ : ∃ k : Nat, n.toNat = k := ⟨_, rfl⟩
    rw [hk]
    have hq : L6.quoted3 (Lib.decDigits k) = false := As.no_quote3 (As.dec_free k 39 (by decide))
    have hh : Lib.hasPrefix (Lib.decDigits k) [48, 120] = false := As.no_prefix (As.dec_free k 120 (by decide)) (by decide)
    have hm : Lib.hasPrefix (Lib.decDigits k) [45] = false := As.no_prefix (As.dec_free k 45 (by decide)) (by decide)
    have hr : L6.rawV (Lib.decDigits k) = (n, true) := by
      unfold L6.rawV
      rw [hh, hm, As.digitsV_dec k (by omega)]
      simp only [Bool.false_and, Bool.false_eq_true, if_false]
      rw [show (k : Int) = n by omega]
    unfold L6.number
    rw [hq, hr]
    have a1 : decide (-2147483648 ≤ n) = true := decide_eq_true h1
    have a2 : decide (n ≤ 4294967295) = true := decide_eq_true h2
    simp only [a1, a2, Bool.false_eq_true, if_false, Bool.and_true, if_true]
theorem As.reg_xr (r : Nat) (h : r < 32) : L6.regV (As.xr (r : Int)) = (r, true) := by
  have e : As.xr (r : Int) = 120 :: Lib.decDigits r := by
    unfold As.xr As.dig
    rw [if_neg (by omega)]
    rfl
  have hc : L6.countedV (Lib.decDigits r) = (r, true) := by
    unfold L6.countedV
    rw [As.digitsV_dec r (by omega)]
    simp
  rw [e]
  unfold L6.regV
  rw [if_neg (by simp), if_neg (by simp), if_neg (by simp), if_neg (by simp), if_neg (by simp), if_neg (by simp), List.tail_cons, hc]
  show L6.rowsV 120 r = _
  unfold L6.rowsV
  rw [if_pos ⟨rfl, h⟩]
theorem As.ok_wd {s : List UInt8} (hne : s ≠ []) (h : ∀ c ∈ s, As.okB c = true) : L6.Wd s := by
  cases s with
  | nil => exact absurd rfl hne
  | cons c t =>
    have hb : ∀ d ∈ c :: t, L6.blank d = false := fun d hd => by
      have h1 := As.okB_ne (d := 32) (h d hd) (by decide)
      have h2 := As.okB_ne (d := 9) (h d hd) (by decide)
      unfold L6.blank
      simp [h1, h2]
    have hc : c ≠ 34 := As.okB_ne (h c (by simp)) (by decide)
    refine ⟨hne, L6.head_plain rfl (hb c (by simp)), fun r hr => ?_, ?_⟩
    · obtain ⟨h1, h2⟩ := L6.word_app (r := r) hb hr
      rw [List.cons_append, L6.next_plain hc, ← List.cons_append, h1, h2]
    · have h47 : c ≠ 47 := As.okB_ne (h c (by simp)) (by decide)
      unfold L6.note
      split
      · rename_i heq
        exact absurd (List.cons.inj heq).1 h47
      · rfl
theorem As.ok_whole {s : List UInt8} (hne : s ≠ []) (h : ∀ c ∈ s, As.okB c = true) : L6.whole s = true := by
  unfold L6.whole
  have h1 := L6.wordsOf_join (ws := [s]) (fun x hx => by rw [List.mem_singleton.1 hx]; exact As.ok_wd hne h)
  have h2 : Lib.join [s] [32] = s := by simp [Lib.join]
  rw [h2] at h1
  rw [h1]
  have h3 : (10 : UInt8) ∉ s := fun e => absurd (h 10 e) (by decide)
  simp [h3]
theorem As.dig_ok (n : Int) : As.dig n ≠ [] ∧ ∀ c ∈ As.dig n, As.okB c = true := by
  unfold As.dig
  split
  · refine ⟨by simp, fun c hc => ?_⟩
    rcases List.mem_cons.1 hc with rfl | hc
    · decide
    · exact As.dg_ok (As.dec_dg _ c hc)
  · exact ⟨As.dec_ne _, fun c hc => As.dg_ok (As.dec_dg _ c hc)⟩
theorem As.xr_ok (n : Int) : As.xr n ≠ [] ∧ ∀ c ∈ As.xr n, As.okB c = true := by
  unfold As.xr
  refine ⟨by simp, fun c hc => ?_⟩
  rcases List.mem_cons.1 hc with rfl | hc
  · decide
  · exact (As.dig_ok n).2 c hc
theorem As.shown_ok (i : Is.Inst) : ∀ s ∈ As.shownP i, s ≠ [] ∧ ∀ c ∈ s, As.okB c = true := by
  have x := As.xr_ok
  have d := As.dig_ok
  intro s hs
  unfold As.shownP at hs
  (repeat' split at hs) <;> simp only [List.mem_cons, List.not_mem_nil, or_false] at hs
  all_goals first | (rcases hs with rfl | rfl | rfl) | (rcases hs with rfl | rfl) | subst hs | cases hs
  all_goals first | exact x _ | exact d _
/-- The names. -/
theorem As.name_ok (k : Nat) (h : k < 48) : (Is.nameAt k).toList ≠ [] ∧ (∀ c ∈ (Is.nameAt k).toList, As.okB c = true) ∧ (Is.nameAt k).toList.length ≤ 10 := by
  have : ∀ i : Fin 48, (Is.forms.getD i.val default).name ≠ [] ∧ (∀ c ∈ (Is.forms.getD i.val default).name, As.okB c = true) ∧ (Is.forms.getD i.val default).name.length ≤ 10 := by decide +kernel
  have e : (Is.nameAt k).toList = (Is.forms.getD k default).name := by unfold Is.nameAt; rw [ByteArray.toList_mk]
  rw [e]
  exact this ⟨k, h⟩
theorem As.name_found (k : Nat) (h : k < 48) : Is.found (Is.nameAt k) = k ∧ Is.isName (Is.nameAt k) = true := by
  have hd : ∀ i j : Fin 48, j.val < i.val → (Is.forms.getD j.val default).name ≠ (Is.forms.getD i.val default).name := by decide +kernel
  refine Is.found_yes h rfl fun j hj e => hd ⟨k, h⟩ ⟨j, by omega⟩ hj ?_
  have h1 : (Is.nameAt j).data.toList = (Is.nameAt k).data.toList := by rw [e]
  simpa [Is.nameAt] using h1
end Go.Proofs.YtfafdkbnmfpbmaaGreatDoor
/- Layer 7: one instruction's line, assembled. Plain. -/
namespace Go.Proofs.YtfafdkbnmfpbmaaGreatDoor
set_option linter.unusedVariables false
set_option linter.unusedSimpArgs false

/-- An instruction's line. -/
def As.dL (i : Is.Inst) : L6.Line := ⟨[], (Is.forms.getD i.op.toNat default).name, As.shownP i⟩
theorem As.dec_short : ∀ (k n : Nat), n < 10 ^ (k + 1) → (Lib.decDigits n).length ≤ k + 1
  | 0, n, h => by unfold Lib.decDigits; rw [dif_pos (by omega)]; exact Nat.le_refl _
  | k + 1, n, h => by
    unfold Lib.decDigits
    split
    · simp
    · have := As.dec_short k (n / 10) (by rw [Nat.pow_succ] at h; omega)
      rw [List.length_append]
      simp only [List.length_singleton]
      omega
theorem As.dig_short (n : Int) (h1 : -1048576 ≤ n) (h2 : n ≤ 1048575) : (As.dig n).length ≤ 8 := by
  unfold As.dig
  split
  · have := As.dec_short 6 (-n).toNat (by omega)
    simp only [List.length_cons]
    omega
  · have := As.dec_short 6 n.toNat (by omega)
    omega
theorem As.xr_short (n : Nat) (h : n < 32) : (As.xr (n : Int)).length ≤ 9 := by
  have := As.dig_short n (by omega) (by omega)
  unfold As.xr
  simp only [List.length_cons]
  omega
theorem As.word_ok (k : Nat) (h : k < 48) : (Is.forms.getD k default).name ≠ [] ∧ (∀ c ∈ (Is.forms.getD k default).name, As.okB c = true) ∧ (Is.forms.getD k default).name.length ≤ 10 := by
  have := As.name_ok k h
  unfold Is.nameAt at this
  rw [ByteArray.toList_mk] at this
  exact this
theorem As.dL_right {n rd rs1 rs2 : Nat} {imm : Int} (g : Is.Good n rd rs1 rs2 imm) : L6.right (As.dL ⟨n, rd, rs1, rs2, imm⟩) = true := by
  obtain ⟨h1, h2, h3⟩ := As.word_ok n g.hn
  have hs := As.shown_ok ⟨n, rd, rs1, rs2, imm⟩
  have ha : (As.shownP ⟨n, rd, rs1, rs2, imm⟩).any (fun s => !L6.whole s) = false := by
    rw [List.any_eq_false]
    intro s hm
    rw [As.ok_whole (hs s hm).1 (hs s hm).2]
    decide
  unfold L6.right As.dL
  simp only [Int.toNat_natCast, List.any_nil, Bool.false_or, ha, Bool.not_false, Bool.true_and, if_neg h1, As.ok_whole h1 h2]
  cases hw : (Is.forms.getD n default).name with
  | nil => exact absurd hw h1
  | cons c t =>
    rw [hw] at h2
    have hc : c ≠ 34 := As.okB_ne (h2 c (by simp)) (by decide)
    have hq : L6.quoted (c :: t) = false := by unfold L6.quoted Lib.hasPrefix; simp [List.isPrefixOf]; exact fun e => hc e.symm
    have hl : L6.label (c :: t) = false := by
      have hlast : (c :: t).getLastD 0 ≠ 58 := by
        have hm : (c :: t).getLastD 0 ∈ c :: t := by
          rw [List.getLastD_cons]
          cases t with
          | nil => simp
          | cons d r => exact List.mem_cons_of_mem _ (by rw [List.getLastD_cons]; exact List.getLastD_mem_cons)
        exact As.okB_ne (h2 _ hm) (by decide)
      unfold L6.label
      rw [show ((c :: t).getLastD 0 == 58) = false from by rw [Bool.eq_false_iff]; exact fun e => hlast (by simpa using e)]
      simp
    rw [hq, hl]
    rfl
theorem As.dL_len {n rd rs1 rs2 : Nat} {imm : Int} (g : Is.Good n rd rs1 rs2 imm) : (Lib.join (L6.lineWords (As.dL ⟨n, rd, rs1, rs2, imm⟩)) [32]).length ≤ 256 ∧ L6.weight [As.dL ⟨n, rd, rs1, rs2, imm⟩] ≤ 100000000 ∧ As.LOk (As.dL ⟨n, rd, rs1, rs2, imm⟩) := by
  obtain ⟨h1, h2, h3⟩ := As.word_ok n g.hn
  have b := As.uses_bd (Is.form n).shape (Is.form_bd n g.hn).1
  have k0 := As.dig_short imm (by have := g.least; omega) (by have := g.most; omega)
  have k1 := As.xr_short rd g.hrd
  have k2 := As.xr_short rs1 g.hrs1
  have k3 := As.xr_short rs2 g.hrs2
  have ks : (As.shownP ⟨n, rd, rs1, rs2, imm⟩).length ≤ 3 ∧ ∀ s ∈ As.shownP ⟨n, rd, rs1, rs2, imm⟩, s.length ≤ 9 := by
    unfold As.shownP
    (repeat' split) <;> refine ⟨by simp, fun s hs => ?_⟩ <;> simp only [List.mem_cons, List.not_mem_nil, or_false] at hs
    all_goals first | (rcases hs with rfl | rfl | rfl) | (rcases hs with rfl | rfl) | subst hs | cases hs
    all_goals omega
  have kt : L6.tsum (As.shownP ⟨n, rd, rs1, rs2, imm⟩) ≤ 27 := by
    have : ∀ (l : List (List UInt8)), (∀ s ∈ l, s.length ≤ 9) → L6.tsum l ≤ 9 * l.length := by
      intro l
      induction l with
      | nil => intro _; exact Nat.le_refl _
      | cons x t ih =>
        intro h
        rw [L6.tsum_cons, List.length_cons]
        have := ih fun s hs => h s (by simp [hs])
        have := h x (by simp)
        omega
    have := this _ ks.2
    omega
  refine ⟨?_, ?_, ?_⟩
  · have e : L6.lineWords (As.dL ⟨n, rd, rs1, rs2, imm⟩) = (Is.forms.getD n default).name :: As.shownP ⟨n, rd, rs1, rs2, imm⟩ := by
      unfold L6.lineWords As.dL
      dsimp only
      rw [Int.toNat_natCast, if_neg h1]
      rfl
    rw [e, Lib.join_cons, List.length_append, L6.joinTail_len]
    omega
  · have e : L6.weight [As.dL ⟨n, rd, rs1, rs2, imm⟩] = L6.lweight (As.dL ⟨n, rd, rs1, rs2, imm⟩) := by unfold L6.weight; simp
    rw [e]
    unfold L6.lweight As.dL
    dsimp only
    rw [Int.toNat_natCast]
    have hz : L6.tsum [] = 0 := rfl
    have := ks.1
    simp only [hz, List.length_nil]
    omega
  · exact ⟨Nat.zero_le _, by have := ks.1; exact Nat.le_trans this (by decide), fun s hs => (by cases hs), fun s hs => Nat.le_trans (ks.2 s hs) (by decide)⟩
theorem As.dL_parse {n rd rs1 rs2 : Nat} {imm : Int} (g : Is.Good n rd rs1 rs2 imm) : L6.parse (L6.text [As.dL ⟨n, rd, rs1, rs2, imm⟩]) = ([As.dL ⟨n, rd, rs1, rs2, imm⟩], 0, 0) := by
  have hr := As.dL_right g
  have hl := (As.dL_len g).1
  generalize As.dL ⟨n, rd, rs1, rs2, imm⟩ = x at *
  have hp : ∀ y ∈ [x], L6.right y = true := fun y hy => by rw [List.mem_singleton.1 hy]; exact hr
  rcases L6.parse_back hp (show 1 ≤ 32768 by omega) with ⟨m, h⟩ | h
  · exfalso
    unfold L6.parse at h
    rw [L6.split_text hp] at h
    rw [List.map_cons, List.map_nil, List.length_singleton, if_neg (by omega)] at h
    unfold L6.parseL at h
    rw [if_neg (by omega)] at h
    split at h
    · have h4 : (40 : Nat) = 6 := congrArg (fun z => z.2.2) h
      exact absurd h4 (by decide)
    · have h4 : (0 : Nat) = 6 := congrArg (fun z => z.2.2) h
      exact absurd h4 (by decide)
  · exact h
def As.pc (i : Is.Inst) : As.P := ⟨true, i, [], 0, [], []⟩
theorem As.inst_shown {n rd rs1 rs2 : Nat} {imm : Int} (g : Is.Good n rd rs1 rs2 imm) : As.inst (n : Int) ⟨As.shownP ⟨n, rd, rs1, rs2, imm⟩, true, []⟩ = ⟨[], true, [As.pc ⟨n, rd, rs1, rs2, imm⟩]⟩ := by
  have b := As.uses_bd (Is.form n).shape (Is.form_bd n g.hn).1
  have kn := As.num_dig imm (by have := g.least; omega) (by have := g.most; omega)
  have k1 := As.reg_xr rd g.hrd
  have k2 := As.reg_xr rs1 g.hrs1
  have k3 := As.reg_xr rs2 g.hrs2
  have hf := Is.shape_form n g.hn
  have e1 := g.erd; have e2 := g.ers1; have e3 := g.ers2
  have h4 := g.least; have h5 := g.most
  rw [← hf] at e1 e2 e3 h4 h5
  have hop : Is.shape (n : Int) = 2 → ((n : Int) ≤ 14 ↔ (n : Int) < 18) := by
    have : ∀ k : Fin 48, Is.shape (k.val : Int) = 2 → ((k.val : Int) ≤ 14 ↔ (k.val : Int) < 18) := by decide
    exact this ⟨n, g.hn⟩
  have hop5 : Is.shape (n : Int) = 5 → ¬ (n : Int) ≤ 14 ∧ ¬ (n : Int) < 18 := by
    have : ∀ k : Fin 48, Is.shape (k.val : Int) = 5 → ¬ (k.val : Int) ≤ 14 ∧ ¬ (k.val : Int) < 18 := by decide
    exact this ⟨n, g.hn⟩
  have hneg : Is.shape (n : Int) ≠ -1 := by
    have : ∀ k : Fin 48, Is.shape (k.val : Int) ≠ -1 := by decide
    exact this ⟨n, g.hn⟩
  unfold As.inst As.shownP
  rcases Is.shape_cases n with hs | hs | hs | hs | hs | hs | hs | hs | hs | hs
  · exact absurd hs hneg
  · rw [hs] at e1 e2 e3 h4 h5 ⊢
    have u2 := e2 rfl; have u3 := e3 rfl
    subst u2 u3
    simp [As.code, As.put, As.reg, As.num, As.next, As.sat, kn, k1, As.pc]
  · rw [hs] at e1 e2 e3 h4 h5 ⊢
    have u2 := e2 rfl; have u3 := e3 rfl
    subst u2 u3
    simp [As.to, As.either, As.imm, As.put, As.reg, As.num, As.next, As.sat, kn, k1, As.pc]
  · by_cases h14 : (n : Int) ≤ 14
    · have h18 := (hop hs).1 h14
      rw [hs] at e1 e2 e3 h4 h5 ⊢
      have u3 := e3 rfl
      subst u3
      simp only [h14, h18, if_true]
      simp [As.code, As.put, As.reg, As.num, As.next, As.sat, kn, k1, k2, As.pc]
    · have h18 : ¬ (n : Int) < 18 := fun h => h14 ((hop hs).2 h)
      rw [hs] at e1 e2 e3 h4 h5 ⊢
      have u3 := e3 rfl
      subst u3
      simp only [h14, h18, if_false]
      simp [As.code, As.put, As.reg, As.num, As.next, As.sat, kn, k1, k2, As.pc]
  · rw [hs] at e1 e2 e3 h4 h5 ⊢
    have u1 := e1 rfl
    subst u1
    simp [As.to, As.either, As.imm, As.put, As.reg, As.num, As.next, As.sat, kn, k2, k3, As.pc]
  · rw [hs] at e1 e2 e3 h4 h5 ⊢
    have u1 := e1 rfl
    subst u1
    simp [As.code, As.put, As.reg, As.num, As.next, As.sat, kn, k2, k3, As.pc]
  · obtain ⟨h14, h18⟩ := hop5 hs
    rw [hs] at e1 e2 e3 h4 h5 ⊢
    have u3 := e3 rfl
    subst u3
    simp only [h14, h18, if_false]
    simp [As.code, As.put, As.reg, As.num, As.next, As.sat, kn, k1, k2, As.pc]
  · rw [hs] at e1 e2 e3 h4 h5 ⊢
    have u : imm = 0 := Int.le_antisymm h5 h4
    subst u
    simp [As.code, As.put, As.reg, As.num, As.next, As.sat, k1, k2, k3, As.pc]
  · rw [hs] at e1 e2 e3 h4 h5 ⊢
    have u1 := e1 rfl; have u2 := e2 rfl; have u3 := e3 rfl
    have u : imm = 0 := Int.le_antisymm h5 h4
    subst u u1 u2 u3
    simp [As.code, As.put, As.reg, As.num, As.next, As.sat, As.pc]
  · rw [hs] at e1 e2 e3 h4 h5 ⊢
    have u1 := e1 rfl; have u2 := e2 rfl; have u3 := e3 rfl
    subst u1 u2 u3
    simp [As.code, As.put, As.reg, As.num, As.next, As.sat, kn, As.pc]
theorem As.pieces_dL {n rd rs1 rs2 : Nat} {imm : Int} (g : Is.Good n rd rs1 rs2 imm) (a : Nat) : As.pieces (As.dL ⟨n, rd, rs1, rs2, imm⟩) a = some [As.pc ⟨n, rd, rs1, rs2, imm⟩] := by
  obtain ⟨h1, h2, h3⟩ := As.word_ok n g.hn
  obtain ⟨f1, f2⟩ := As.name_found n g.hn
  unfold As.pieces As.dL
  simp only [Int.toNat_natCast, if_neg h1]
  unfold As.read
  have e : (⟨((Is.forms.getD n default).name).toArray⟩ : ByteArray) = Is.nameAt n := rfl
  rw [e, f2, if_pos rfl, f1, As.inst_shown g]
  rfl
theorem As.assemble_dL {n rd rs1 rs2 : Nat} {imm : Int} (g : Is.Good n rd rs1 rs2 imm) (a : Nat) (ha : a % 4 = 0) : As.assemble [As.dL ⟨n, rd, rs1, rs2, imm⟩] a = ⟨As.four (Is.enc ⟨n, rd, rs1, rs2, imm⟩).1.toNat, [], 0, 0⟩ := by
  have hp := As.pieces_dL g
  have he : (Is.enc ⟨n, rd, rs1, rs2, imm⟩).2 = 0 := by rw [Is.enc_word g]
  have hl : (As.dL ⟨n, rd, rs1, rs2, imm⟩).labels = [] := rfl
  generalize As.dL ⟨n, rd, rs1, rs2, imm⟩ = x at *
  unfold As.assemble
  rw [if_neg (by rintro (h | h); exact absurd h (by show ¬ 32768 < 1; omega); exact h ha)]
  unfold As.passes
  have h1 : As.first a 0 0 [] [x] = .ok [] := by
    unfold As.first
    rw [hl, hp]
    show (if As.lead [As.pc ⟨n, rd, rs1, rs2, imm⟩] = true ∧ _ then _ else if 131072 < 0 + As.size [As.pc ⟨n, rd, rs1, rs2, imm⟩] then _ else As.first a 1 _ [] []) = _
    have hz : As.size [As.pc ⟨n, rd, rs1, rs2, imm⟩] = 4 := rfl
    rw [if_neg (fun e => e.2 (by unfold As.at32; omega)), if_neg (by rw [hz]; omega)]
    rfl
  rw [h1]
  dsimp only
  have h2 : ∀ b, As.piece [] (As.pc ⟨n, rd, rs1, rs2, imm⟩) b = (As.four (Is.enc ⟨n, rd, rs1, rs2, imm⟩).1.toNat, 0) := fun b => by
    unfold As.piece
    rw [if_neg (fun e => by cases e.2), if_neg (fun e => e.1 rfl), if_neg (fun e => by cases (show (0 : Nat) = 5 from e)), if_neg (fun e => by cases (show (0 : Nat) = 4 from e))]
    show (if (Is.enc ⟨n, rd, rs1, rs2, imm⟩).2 = 0 then _ else _) = _
    rw [if_pos he]
    rfl
  have h3 : As.second [] a 0 [] [x] = .ok (As.four (Is.enc ⟨n, rd, rs1, rs2, imm⟩).1.toNat) := by
    unfold As.second
    rw [hp]
    have h4 : As.puts [] a ((some [As.pc ⟨n, rd, rs1, rs2, imm⟩]).getD []) [] = (As.four (Is.enc ⟨n, rd, rs1, rs2, imm⟩).1.toNat, 0) := by
      show As.puts [] a [As.pc ⟨n, rd, rs1, rs2, imm⟩] [] = _
      unfold As.puts
      rw [h2, if_pos rfl]
      rfl
    rw [h4, if_pos rfl]
    rfl
  rw [h3]
end Go.Proofs.YtfafdkbnmfpbmaaGreatDoor
/- Layer 7: the walk of the law AsmDecoded. -/
namespace Go.Proofs.YtfafdkbnmfpbmaaGreatDoor
open Go.RowKit Kit
set_option linter.unusedVariables false
set_option linter.unusedSimpArgs false

/-- One line that was just made. -/
theorem As.rdl_one (w : World) (T : TypeId) (va : Value) (nm : List UInt8) (sh : List (List UInt8)) (h : RdS w va sh) : RdL (w.alloc (.cells #[.slice none 0 0, .string ⟨nm.toArray⟩, va] T)) (.slice (some ⟨w.heap.size, 0, none⟩) 1 1) [⟨[], nm, sh⟩] := by
  have hbk := Bk.fresh w T #[.slice none 0 0, .string ⟨nm.toArray⟩, va]
  exact ⟨[.slice none 0 0, .string ⟨nm.toArray⟩, va], ⟨rfl, some ⟨w.heap.size, 0, none⟩, 1, rfl, Nat.le_refl _, by unfold maxLen; omega, fun _ => ⟨_, 0, rfl, hbk.lt, fun j u hu => by rw [Nat.zero_add, hbk.cell j]; simpa using hu⟩⟩, ⟨.slice none 0 0, va, [], rfl, (OwnS.nil 0 _).rd, h.kept ((Below.refl _ _).alloc (Nat.le_refl _) _), rfl⟩⟩
set_option maxRecDepth 100000 in
set_option maxHeartbeats 16000000 in
theorem core_asmDecoded (i : Is.Inst) (at_ : Nat) (w : World) (oi : i.ok) (hat : at_ < 4294967296) (hT : L6.Tab w) :
    Calls Tryz.prog 4 #[i.v, .int .u32 (at_ : Int)] w fun e w' => e = .returned (.bool true) ∧ Below w.heap.size w w' := by
  have CK := Lib.hid (fun W (hT : L6.Tab W) => aknows_any W hT)
  have CL := Lib.hid (fun W => legal_ref i W)
  have HT := Lib.hid hT
  cases hl : Is.legal i
  · rw [hl] at CL
    clear hl oi
    obtain ⟨op, rd, rs1, rs2, imm⟩ := i
    go_enter Tryz.func4, Tryz.ntmps4
    go_wp2_with fail
    go_at_call 17
    refine (CL.out _).mono ?_
    rintro e w1 ⟨rfl, hb1⟩
    have HB1 := Lib.hid (show Below w.heap.size w w1 from ((Below.refl _ _).alloc (Nat.le_refl _) _).trans (hb1.mono (by simp)))
    clear hb1
    go_wp2_with (go_at_call 11; refine (CK.out _ (HT.out.kept HB1.out)).mono ?_; rintro e w2 ⟨rfl, hb2⟩)
    go_ret
    exact ⟨rfl, HB1.out.trans (hb2.mono HB1.out.size)⟩
  obtain ⟨n, rd, rs1, rs2, ei, g⟩ := Is.legal_good hl
  obtain ⟨op, rd', rs1', rs2', imm⟩ := i
  dsimp only at ei g
  injection ei with e1 e2 e3 e4 e5
  subst e1 e2 e3 e4
  rw [hl] at CL
  obtain ⟨x, hx1, hx2, hx3⟩ := As.enc_back ⟨n, rd, rs1, rs2, imm⟩ (by rw [Is.enc_word g])
  have CD := Lib.hid (fun W => dec_own x W hx2)
  rw [hx3] at CD
  have CO := Lib.hid (fun W => As.iown_any ⟨n, rd, rs1, rs2, imm⟩ W)
  have CQ := Lib.hid (fun W => As.oinst_eql ⟨n, rd, rs1, rs2, imm⟩ ⟨n, rd, rs1, rs2, imm⟩ W)
  rw [decide_eq_true (rfl : (⟨n, rd, rs1, rs2, imm⟩ : Is.Inst) = ⟨n, rd, rs1, rs2, imm⟩)] at CQ
  have hok := oi
  have CS := Lib.hid (fun W => ashown_any ⟨n, rd, rs1, rs2, imm⟩ W (by have := g.hrd; dsimp only; omega) (by have := g.hrs1; dsimp only; omega) (by have := g.hrs2; dsimp only; omega) (by have b := As.uses_bd (Is.form n).shape (Is.form_bd n g.hn).1; have := g.least; have := g.most; dsimp only; omega))
  have CN := Lib.hid (fun W => name_own (n : Int) W)
  rw [show Is.nameOf (n : Int) = ⟨(Is.forms.getD n default).name.toArray⟩ from by have := g.hn; unfold Is.nameOf; rw [if_neg (by omega), Int.toNat_natCast]] at CN
  obtain ⟨hlen, hwt, hlok⟩ := As.dL_len g
  have CP := Lib.hid (fun v W (h : RdL W v [As.dL ⟨n, rd, rs1, rs2, imm⟩]) => lprint_any v [As.dL ⟨n, rd, rs1, rs2, imm⟩] W h hwt)
  have hpr : L6.print [As.dL ⟨n, rd, rs1, rs2, imm⟩] = (L6.text [As.dL ⟨n, rd, rs1, rs2, imm⟩], 0) := by unfold L6.print; rw [if_pos (by simp [As.dL_right g])]
  rw [hpr] at CP
  obtain ⟨r, hr⟩ : ∃ r : Nat, at_ % 65536 = r := ⟨_, rfl⟩
  obtain ⟨a, ha⟩ : ∃ a : Nat, r * 4 = a := ⟨_, rfl⟩
  have hrem : Int.tmod (at_ : Int) 65536 = (r : Int) := by rw [Int.tmod_eq_emod_of_nonneg (by omega)]; omega
  have hrem2 : (at_ : Int) % 65536 = (r : Int) := by omega
  have hmul : IntKind.u32.wrap ((r : Int) * 4) = (a : Int) := by rw [IntKind.wrap_u32]; omega
  have htl : (L6.text [As.dL ⟨n, rd, rs1, rs2, imm⟩]).length ≤ 1000000000 := by
    have e : L6.text [As.dL ⟨n, rd, rs1, rs2, imm⟩] = Lib.join (L6.lineWords (As.dL ⟨n, rd, rs1, rs2, imm⟩)) [32] ++ [10] := by simp [L6.text, L6.lineText]
    rw [e, List.length_append, List.length_singleton]
    omega
  have CA := Lib.hid (fun W (hT : L6.Tab W) => asource_any (w := W) (L6.text [As.dL ⟨n, rd, rs1, rs2, imm⟩]) a [As.dL ⟨n, rd, rs1, rs2, imm⟩] hT htl (As.dL_parse g) (show 1 ≤ 1000000000 by omega) (fun y hy => by rw [List.mem_singleton.1 hy]; exact hlok) (by omega))
  rw [As.assemble_dL g a (by omega), hx1, Int.toNat_natCast] at CA
  have HDL := Lib.hid (show As.dL ⟨n, rd, rs1, rs2, imm⟩ = ⟨[], (Is.forms.getD n default).name, As.shownP ⟨n, rd, rs1, rs2, imm⟩⟩ from by unfold As.dL; rw [Int.toNat_natCast])
  have HX := Lib.hid hx2
  clear hr ha hat hpr htl hlen hwt hlok hx1 hx2 hx3 hok oi hl e5 hT
  generalize As.shownP ⟨n, rd, rs1, rs2, imm⟩ = sh at *
  generalize (Is.forms.getD n default).name = nm at *
  generalize L6.text [As.dL ⟨n, rd, rs1, rs2, imm⟩] = tx at *
  generalize As.dL ⟨n, rd, rs1, rs2, imm⟩ = dl at *
  rw [HDL.out] at CP
  clear HDL g
  go_enter Tryz.func4, Tryz.ntmps4
  go_wp2_with fail
  go_at_call 17
  refine (CL.out _).mono ?_
  rintro e w1 ⟨rfl, hb1⟩
  have hk0 := Bk.fresh w 42 #[.int .i64 (n : Int), .int .i64 (rd : Int), .int .i64 (rs1 : Int), .int .i64 (rs2 : Int), .int .i64 imm]
  have HK1 := Lib.hid (hk0.kept hb1)
  have HB1 := Lib.hid (show Below w.heap.size w w1 from ((Below.refl _ _).alloc (Nat.le_refl _) _).trans (hb1.mono (by simp)))
  have x0 := HK1.out.cell 0
  clear hb1 hk0
  go_wp2_with fail
  have H1 := Lib.hid (show ∀ W', Below w1.heap.size w1 W' → W'.cell? ⟨w.heap.size, 0, none⟩ = some (.int .i64 (n : Int)) ∧ W'.cell? ⟨w.heap.size, 1, none⟩ = some (.int .i64 (rd : Int)) ∧ W'.cell? ⟨w.heap.size, 2, none⟩ = some (.int .i64 (rs1 : Int)) ∧ W'.cell? ⟨w.heap.size, 3, none⟩ = some (.int .i64 (rs2 : Int)) ∧ W'.cell? ⟨w.heap.size, 4, none⟩ = some (.int .i64 imm) from fun W' hb => ⟨(HK1.out.kept hb).cell 0, (HK1.out.kept hb).cell 1, (HK1.out.kept hb).cell 2, (HK1.out.kept hb).cell 3, (HK1.out.kept hb).cell 4⟩)
  go_region_held3 (fun W' => W'.cell? ⟨w.heap.size, 0, none⟩ = some (.int .i64 (n : Int)) ∧ W'.cell? ⟨w.heap.size, 1, none⟩ = some (.int .i64 (rd : Int)) ∧ W'.cell? ⟨w.heap.size, 2, none⟩ = some (.int .i64 (rs1 : Int)) ∧ W'.cell? ⟨w.heap.size, 3, none⟩ = some (.int .i64 (rs2 : Int)) ∧ W'.cell? ⟨w.heap.size, 4, none⟩ = some (.int .i64 imm))
    (first | with_reducible exact H1.out _ hb5 | with_reducible exact H1.out _ hb4 | with_reducible exact H1.out _ hb3 | with_reducible exact H1.out _ hb2 | with_reducible exact H1.out _ (Below.refl _ _).drew)
    (first
      | (go_at_call 19; refine (CN.out _).mono ?_; rintro e w2 ⟨rfl, hb2'⟩; have hb2 := (Below.refl w1.heap.size w1).drew.trans hb2'; clear hb2')
      | (go_at_call 20; refine (CS.out _).mono ?_; rintro e w3 ⟨v3, rfl, hv3, hb3'⟩; have hb3 := hb2.trans (hb3'.mono hb2.size); have hb4 := hb3.alloc hb3.size (.cells #[.slice none 0 0, .string ⟨nm.toArray⟩, v3] 50); have HL4 := Lib.hid (As.rdl_one w3 50 v3 nm sh hv3); obtain ⟨A3, c3, rfl⟩ := hv3.form; clear hb3' hv3)
      | (go_at_call 18; refine (CP.out _ _ HL4.out).mono ?_; rintro e w5 ⟨rfl, hb5'⟩; have hb5 := hb4.trans (hb5'.mono hb4.size); clear hb5'))
  have HB5 := Lib.hid (HB1.out.trans (hb5.mono HB1.out.size))
  have HK5 := Lib.hid (HK1.out.kept hb5)
  clear hb2 hb3 hb4 hb5 x0
  go_wp2_with fail
  go_at_call 21
  refine (CA.out _ (HT.out.kept HB5.out)).mono ?_
  rintro e w6 ⟨vb, vs, rfl, hrb, hrs, hfb, hfs, hb6⟩
  dsimp only at hrb hrs ⊢
  have HB6 := Lib.hid (HB5.out.trans (hb6.mono HB5.out.size))
  have HK6 := Lib.hid (HK5.out.kept hb6)
  have h4 : (As.four x).length = 4 := rfl
  obtain ⟨_, Ab, cb, rfl, _, hcm, hcc⟩ := hrb
  obtain ⟨g, off, rfl, hg, hc⟩ := hcc (by rw [h4]; omega)
  obtain ⟨As_, cs_, rfl⟩ : ∃ A c, vs = .slice A 0 c := hrs.form
  rw [h4]
  have hx4 : x < 4294967296 := HX.out
  obtain ⟨b0, hb0⟩ : ∃ b, x % 256 = b := ⟨_, rfl⟩
  obtain ⟨b1, hb1⟩ : ∃ b, x / 256 % 256 = b := ⟨_, rfl⟩
  obtain ⟨b2, hb2⟩ : ∃ b, x / 65536 % 256 = b := ⟨_, rfl⟩
  obtain ⟨b3, hb3⟩ : ∃ b, x / 16777216 % 256 = b := ⟨_, rfl⟩
  have hc0 : w6.cell? ⟨g, off, none⟩ = some (.int .u8 (b0 : Int)) := by
    have := hc 0 (.int .u8 (b0 : Int)) (by unfold As.four; simp [bv, UInt8.toNat_ofNat']; omega)
    exact this
  have hc1 : w6.cell? ⟨g, off + 1, none⟩ = some (.int .u8 (b1 : Int)) := by
    have := hc 1 (.int .u8 (b1 : Int)) (by unfold As.four; simp [bv, UInt8.toNat_ofNat']; omega)
    exact this
  have hc2 : w6.cell? ⟨g, off + 2, none⟩ = some (.int .u8 (b2 : Int)) := by
    have := hc 2 (.int .u8 (b2 : Int)) (by unfold As.four; simp [bv, UInt8.toNat_ofNat']; omega)
    exact this
  have hc3 : w6.cell? ⟨g, off + 3, none⟩ = some (.int .u8 (b3 : Int)) := by
    have := hc 3 (.int .u8 (b3 : Int)) (by unfold As.four; simp [bv, UInt8.toNat_ofNat']; omega)
    exact this
  have HSUM := Lib.hid (show b0 < 256 ∧ b1 < 256 ∧ b2 < 256 ∧ b3 < 256 ∧ x = b0 + b1 * 2 ^ 8 + b2 * 2 ^ 16 + b3 * 2 ^ 24 from by omega)
  clear hb0 hb1 hb2 hb3 hc hrs hfb hfs hcm hcc hx4 h4 CS CN CP CA CL hrem hrem2 hmul
  have hbx := Bk.fresh w6 29 #[.slice (some ⟨g, off, none⟩) 4 cb, .slice As_ 0 cs_]
  have hal : Below w6.heap.size w6 (w6.alloc (.cells #[.slice (some ⟨g, off, none⟩) 4 cb, .slice As_ 0 cs_] 29)) := (Below.refl _ _).alloc (Nat.le_refl _) _
  have hc0 := (hal.cell (p := ⟨g, off, none⟩) hg).trans hc0
  have hc1 := (hal.cell (p := ⟨g, off + 1, none⟩) hg).trans hc1
  have hc2 := (hal.cell (p := ⟨g, off + 2, none⟩) hg).trans hc2
  have hc3 := (hal.cell (p := ⟨g, off + 3, none⟩) hg).trans hc3
  have x0 := hbx.cell 0
  have HK7 := Lib.hid (HK6.out.kept hal)
  have HB7 := Lib.hid (HB6.out.alloc HB6.out.size (.cells #[.slice (some ⟨g, off, none⟩) 4 cb, .slice As_ 0 cs_] 29))
  clear hal
  go_wp2_with (go_at_call 16; refine (anum7_any _ _).mono ?_; rintro e w' ⟨rfl, rfl⟩)
  obtain ⟨w7, hw7⟩ : ∃ w7, w6.alloc (.cells #[.slice (some ⟨g, off, none⟩) 4 cb, .slice As_ 0 cs_] 29) = w7 := ⟨_, rfl⟩
  have hg7 : g < w7.heap.size := by rw [← hw7, World.size_alloc]; omega
  rw [hw7] at HK7 HB7 hc0 hc1 hc2 hc3 ⊢
  clear hw7 x0 hbx HK6 HB6 hb6
  generalize w6.heap.size = g6 at *
  have H7 := Lib.hid (show ∀ W', Below w7.heap.size w7 W' → W'.cell? ⟨g, off, none⟩ = some (.int .u8 (b0 : Int)) ∧ W'.cell? ⟨g, off + 1, none⟩ = some (.int .u8 (b1 : Int)) ∧ W'.cell? ⟨g, off + 2, none⟩ = some (.int .u8 (b2 : Int)) ∧ W'.cell? ⟨g, off + 3, none⟩ = some (.int .u8 (b3 : Int)) from fun W' hb => ⟨(hb.cell (p := ⟨g, off, none⟩) hg7).trans hc0, (hb.cell (p := ⟨g, off + 1, none⟩) hg7).trans hc1, (hb.cell (p := ⟨g, off + 2, none⟩) hg7).trans hc2, (hb.cell (p := ⟨g, off + 3, none⟩) hg7).trans hc3⟩)
  have wb0 : IntKind.u32.wrap (b0 : Int) = (b0 : Int) := by have := HSUM.out; rw [IntKind.wrap_u32]; omega
  have wb1 : IntKind.u32.wrap (b1 : Int) = (b1 : Int) := by have := HSUM.out; rw [IntKind.wrap_u32]; omega
  have wb2 : IntKind.u32.wrap (b2 : Int) = (b2 : Int) := by have := HSUM.out; rw [IntKind.wrap_u32]; omega
  have wb3 : IntKind.u32.wrap (b3 : Int) = (b3 : Int) := by have := HSUM.out; rw [IntKind.wrap_u32]; omega
  go_region_held3 (fun W' => W'.cell? ⟨g, off, none⟩ = some (.int .u8 (b0 : Int)) ∧ W'.cell? ⟨g, off + 1, none⟩ = some (.int .u8 (b1 : Int)) ∧ W'.cell? ⟨g, off + 2, none⟩ = some (.int .u8 (b2 : Int)) ∧ W'.cell? ⟨g, off + 3, none⟩ = some (.int .u8 (b3 : Int))) (with_reducible exact H7.out _ (Below.refl _ _).drew) (fail)
  have hbits : bits .or .u32 (bits .or .u32 (bits .or .u32 (b0 : Int) (IntKind.u32.wrap ((b1 : Int) * 256))) (IntKind.u32.wrap ((b2 : Int) * 65536))) (IntKind.u32.wrap ((b3 : Int) * 16777216)) = (x : Int) := by
    have h := HSUM.out
    have hx := HX.out
    have e1 : IntKind.u32.wrap ((b1 : Int) * 256) = ((b1 * 2 ^ 8 : Nat) : Int) := by rw [IntKind.wrap_u32]; omega
    have e2 : IntKind.u32.wrap ((b2 : Int) * 65536) = ((b2 * 2 ^ 16 : Nat) : Int) := by rw [IntKind.wrap_u32]; omega
    have e3 : IntKind.u32.wrap ((b3 : Int) * 16777216) = ((b3 * 2 ^ 24 : Nat) : Int) := by rw [IntKind.wrap_u32]; omega
    rw [e1, e2, e3, Is.or_u32 b0 b1 8 (by omega) (by omega), Is.or_u32 (b0 + b1 * 2 ^ 8) b2 16 (by omega) (by omega), Is.or_u32 (b0 + b1 * 2 ^ 8 + b2 * 2 ^ 16) b3 24 (by omega) (by omega)]
    omega
  rw [hbits]
  have HB7 := Lib.hid HB7.out.drew
  have HK7 := Lib.hid (HK7.out.kept (Below.refl _ _).drew)
  clear hbits wb0 wb1 wb2 wb3 H7 HSUM HX hc0 hc1 hc2 hc3 hg7 HB5 HK5
  obtain ⟨w8, hw8⟩ : ∃ w8, w7.drew = w8 := ⟨_, rfl⟩
  rw [hw8] at HB7 HK7 ⊢
  clear hw8
  go_wp2_with fail
  go_at_call 22
  refine (CD.out _).mono ?_
  rintro e w9 ⟨rfl, hb9⟩
  have HB9 := Lib.hid (HB7.out.trans (hb9.mono HB7.out.size))
  have HK9 := Lib.hid (HK7.out.kept hb9)
  clear hb9
  go_wp2_with fail
  have hk10 := Bk.fresh w9 54 #[.int .i64 (n : Int), .int .i64 (rd : Int), .int .i64 (rs1 : Int), .int .i64 (rs2 : Int), .int .i64 imm]
  have hi10 : Bk (w9.alloc (.cells #[.int .i64 (n : Int), .int .i64 (rd : Int), .int .i64 (rs1 : Int), .int .i64 (rs2 : Int), .int .i64 imm] 54)) w.heap.size 42 _ := HK9.out.kept ((Below.refl _ _).alloc (Nat.le_refl _) _)
  have HB10 := Lib.hid (HB9.out.alloc HB9.out.size (.cells #[.int .i64 (n : Int), .int .i64 (rd : Int), .int .i64 (rs1 : Int), .int .i64 (rs2 : Int), .int .i64 imm] 54))
  obtain ⟨wa, hwa⟩ : ∃ wa, w9.alloc (.cells #[.int .i64 (n : Int), .int .i64 (rd : Int), .int .i64 (rs1 : Int), .int .i64 (rs2 : Int), .int .i64 imm] 54) = wa := ⟨_, rfl⟩
  rw [hwa] at hk10 hi10 HB10 ⊢
  clear hwa
  generalize w9.heap.size = g9 at *
  have HF := Lib.hid (show ∀ W', Below wa.heap.size wa W' → (W'.cell? ⟨g9, 0, none⟩ = some (.int .i64 (n : Int)) ∧ W'.cell? ⟨g9, 1, none⟩ = some (.int .i64 (rd : Int)) ∧ W'.cell? ⟨g9, 2, none⟩ = some (.int .i64 (rs1 : Int)) ∧ W'.cell? ⟨g9, 3, none⟩ = some (.int .i64 (rs2 : Int)) ∧ W'.cell? ⟨g9, 4, none⟩ = some (.int .i64 imm)) ∧ (W'.cell? ⟨w.heap.size, 0, none⟩ = some (.int .i64 (n : Int)) ∧ W'.cell? ⟨w.heap.size, 1, none⟩ = some (.int .i64 (rd : Int)) ∧ W'.cell? ⟨w.heap.size, 2, none⟩ = some (.int .i64 (rs1 : Int)) ∧ W'.cell? ⟨w.heap.size, 3, none⟩ = some (.int .i64 (rs2 : Int)) ∧ W'.cell? ⟨w.heap.size, 4, none⟩ = some (.int .i64 imm)) from fun W' hb =>
    ⟨⟨(hk10.kept hb).cell 0, (hk10.kept hb).cell 1, (hk10.kept hb).cell 2, (hk10.kept hb).cell 3, (hk10.kept hb).cell 4⟩, ⟨(hi10.kept hb).cell 0, (hi10.kept hb).cell 1, (hi10.kept hb).cell 2, (hi10.kept hb).cell 3, (hi10.kept hb).cell 4⟩⟩)
  have hqq := CQ.out
  clear hk10 hi10
  go_region_held3 (fun W' => (W'.cell? ⟨g9, 0, none⟩ = some (.int .i64 (n : Int)) ∧ W'.cell? ⟨g9, 1, none⟩ = some (.int .i64 (rd : Int)) ∧ W'.cell? ⟨g9, 2, none⟩ = some (.int .i64 (rs1 : Int)) ∧ W'.cell? ⟨g9, 3, none⟩ = some (.int .i64 (rs2 : Int)) ∧ W'.cell? ⟨g9, 4, none⟩ = some (.int .i64 imm)) ∧ (W'.cell? ⟨w.heap.size, 0, none⟩ = some (.int .i64 (n : Int)) ∧ W'.cell? ⟨w.heap.size, 1, none⟩ = some (.int .i64 (rd : Int)) ∧ W'.cell? ⟨w.heap.size, 2, none⟩ = some (.int .i64 (rs1 : Int)) ∧ W'.cell? ⟨w.heap.size, 3, none⟩ = some (.int .i64 (rs2 : Int)) ∧ W'.cell? ⟨w.heap.size, 4, none⟩ = some (.int .i64 imm)))
    (first | with_reducible exact HF.out _ hb12 | with_reducible exact HF.out _ hb11 | with_reducible exact HF.out _ (Below.refl _ _).drew)
    (first
      | (go_at_call 16; refine (anum7_any _ _).mono ?_; rintro e w' ⟨rfl, rfl⟩)
      | (go_at_call 23; refine (CO.out _).mono ?_; rintro e w11 ⟨rfl, hb11'⟩; have hb11 : Below wa.heap.size wa w11 := (Below.refl _ _).drew.trans hb11')
      | (go_at_call 11; refine (CK.out _ (HT.out.kept (HB10.out.trans (hb11.mono HB10.out.size)))).mono ?_; rintro e w12 ⟨rfl, hb12'⟩; have hb12 := hb11.trans (hb12'.mono hb11.size)))
  go_wp2_with fail
  go_ret
  exact ⟨rfl, HB10.out.trans (hb12.mono HB10.out.size)⟩
end Go.Proofs.YtfafdkbnmfpbmaaGreatDoor
/- Layer 7: the law AsmDecoded, as its row asks. -/
namespace Go.Proofs.YtfafdkbnmfpbmaaGreatDoor
open Go.RowKit Kit
set_option linter.unusedVariables false
set_option linter.unusedSimpArgs false

theorem walk_asmDecoded (v : Value) (i : Is.Inst) (n : Int) (w : World) (h1 : v = i.v ∧ i.ok) (hn : 0 ≤ n ∧ n ≤ 4294967295) (hL : laidMetH Tryz.prog Rows.asmDecodedRow.laid w) :
    Calls Tryz.prog 4 #[v, .int .u32 n] w fun e w' => e = .returned (.bool true) ∧ Below w.heap.size w w' := by
  obtain ⟨k, rfl⟩ := Int.eq_ofNat_of_zero_le hn.1
  obtain ⟨rfl, ok⟩ := h1
  exact core_asmDecoded i k w ok (by omega) (L6.tab_of hL)
end Go.Proofs.YtfafdkbnmfpbmaaGreatDoor
