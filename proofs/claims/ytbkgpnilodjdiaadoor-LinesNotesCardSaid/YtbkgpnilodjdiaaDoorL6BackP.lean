/- What is printed is parsed as it was: plain. -/
import Derived.Test.YtbkgpnilodjdiaaDoorL6Light
namespace Go.Proofs.YtbkgpnilodjdiaaDoor
open Go.RowKit Kit
set_option linter.unusedVariables false
set_option linter.unusedSimpArgs false

theorem L6.quote_app : ∀ {t a b : List UInt8} (r : List UInt8), L6.quote t = some (a, b) → L6.quote (t ++ r) = some (a, b ++ r)
  | [], a, b, r, h => by simp [L6.quote] at h
  | c :: t, a, b, r, h => by
    unfold L6.quote at h
    rw [List.cons_append]
    unfold L6.quote
    by_cases hc : c = 34
    · rw [if_pos hc] at h ⊢
      cases h
      rfl
    · rw [if_neg hc] at h ⊢
      cases hq : L6.quote t with
      | none => rw [hq] at h; cases h
      | some p =>
        obtain ⟨a', b'⟩ := p
        rw [hq] at h
        rw [L6.quote_app r hq]
        cases h
        rfl
theorem L6.word_app : ∀ {w r : List UInt8}, (∀ c ∈ w, L6.blank c = false) → L6.free r = true → L6.word (w ++ r) = w ∧ L6.behind (w ++ r) = r
  | [], r, _, hr => by
    cases r with
    | nil => exact ⟨rfl, rfl⟩
    | cons c t =>
      have hc : L6.blank c = true := hr
      simp [L6.word, L6.behind, hc]
  | c :: w, r, h, hr => by
    have hc := h c (by simp)
    obtain ⟨h1, h2⟩ := L6.word_app (w := w) (r := r) (fun d hd => h d (by simp [hd])) hr
    rw [List.cons_append]
    simp [L6.word, L6.behind, hc, h1, h2]
theorem L6.word_all : ∀ {w : List UInt8}, L6.word w = w → ∀ c ∈ w, L6.blank c = false
  | [], _, c, hc => by simp at hc
  | d :: w, h, c, hc => by
    unfold L6.word at h
    cases hb : L6.blank d
    · rw [hb] at h
      simp only [Bool.false_eq_true, if_false, List.cons.injEq, true_and] at h
      rcases List.mem_cons.1 hc with rfl | hc
      · exact hb
      · exact L6.word_all h c hc
    · rw [hb] at h
      simp at h
/-- A word, whatever blank is behind it. -/
structure L6.Wd (w : List UInt8) : Prop where
  ne : w ≠ []
  head : ∀ r, L6.bare (w ++ r) = w ++ r
  next : ∀ r, L6.free r = true → L6.next (w ++ r) = (w, r, true)
  note : L6.note w = false
theorem L6.bare_suffix : ∀ (l : List UInt8), (L6.bare l).length = l.length → L6.bare l = l
  | [], _ => rfl
  | c :: t, h => by
    unfold L6.bare at h ⊢
    split
    · rename_i hb
      rw [if_pos hb] at h
      have := L6.bare_len t
      simp at h
      omega
    · rfl
theorem L6.next_prefix (c : UInt8) (t : List UInt8) : (L6.next (c :: t)).2.2 = true → (L6.next (c :: t)).1 ++ (L6.next (c :: t)).2.1 = c :: t := by
  intro h
  by_cases hc : c = 34
  · rw [L6.next_quote hc] at h ⊢
    cases hq : L6.quote t with
    | none => rw [hq] at h; simp at h
    | some p =>
      rw [hc]
      show 34 :: p.1 ++ p.2 = _
      rw [List.cons_append, L6.quote_len t p hq]
  · rw [L6.next_plain hc]
    exact L6.word_behind _
/-- A text that is one word. -/
theorem L6.one_word {w : List UInt8} (h : L6.wordsOf w = some [w]) : L6.next w = (w, [], true) ∧ L6.bare w = w ∧ w ≠ [] ∧ L6.note w = false := by
  cases hb : L6.bare w with
  | nil => rw [L6.wordsOf_bare w hb] at h; simp at h
  | cons c t =>
    rw [L6.wordsOf_next w c t hb] at h
    split at h
    · simp at h
    · rename_i hn
      split at h
      · rename_i hok
        cases hr : L6.wordsOf (L6.next (c :: t)).2.1 with
        | none => rw [hr] at h; cases h
        | some r =>
          rw [hr] at h
          simp only [Option.map_some, Option.some.injEq, List.cons.injEq] at h
          obtain ⟨h1, rfl⟩ := h
          have hp := L6.next_prefix c t hok
          have hl := congrArg List.length hp
          rw [h1, List.length_append] at hl
          have hbl := L6.bare_len w
          rw [hb] at hbl
          have h0 : (L6.next (c :: t)).2.1.length = 0 := by omega
          have h2 : (L6.next (c :: t)).2.1 = [] := List.eq_nil_of_length_eq_zero h0
          have hbw : L6.bare w = w := L6.bare_suffix w (by rw [hb]; omega)
          have hw : w = c :: t := hbw.symm.trans hb
          have e : L6.next (c :: t) = (w, [], true) := by
            rw [show L6.next (c :: t) = ((L6.next (c :: t)).1, (L6.next (c :: t)).2.1, (L6.next (c :: t)).2.2) from rfl, h1, h2, hok]
          refine ⟨by rw [← hw] at e; exact e, hw.symm, by rw [hw]; simp, ?_⟩
          rw [h1] at hn
          simpa using hn
      · cases h
theorem L6.head_plain {w : List UInt8} {c : UInt8} {t : List UInt8} (hw : w = c :: t) (hb : L6.blank c = false) (r : List UInt8) : L6.bare (w ++ r) = w ++ r := by
  rw [hw, List.cons_append]
  unfold L6.bare
  rw [if_neg (by simp [hb])]
theorem L6.wd_of {w : List UInt8} (h : L6.wordsOf w = some [w]) : L6.Wd w := by
  obtain ⟨hn, hb, hne, hnt⟩ := L6.one_word h
  cases w with
  | nil => exact absurd rfl hne
  | cons c t =>
    have hbl : L6.blank c = false := L6.bare_head hb
    refine ⟨hne, L6.head_plain rfl hbl, fun r hr => ?_, hnt⟩
    by_cases hc : c = 34
    · rw [L6.next_quote hc] at hn
      cases hq : L6.quote t with
      | none => rw [hq] at hn; simp at hn
      | some p =>
        obtain ⟨a, b⟩ := p
        rw [hq] at hn
        simp only [Prod.mk.injEq, List.cons.injEq] at hn
        obtain ⟨⟨_, rfl⟩, rfl, _⟩ := hn
        rw [List.cons_append, L6.next_quote hc, L6.quote_app r hq]
        simp [hc, hr]
    · rw [L6.next_plain hc] at hn
      simp only [Prod.mk.injEq] at hn
      obtain ⟨h1, h2⟩ := L6.word_app (r := r) (L6.word_all hn.1) hr
      rw [List.cons_append, L6.next_plain hc, ← List.cons_append, h1, h2]
theorem L6.note_app {l : List UInt8} (h : L6.note l = false) (hne : l ≠ []) : L6.note (l ++ [58]) = false := by
  match l, h, hne with
  | [], _, hne => exact absurd rfl hne
  | [a], h, _ =>
    by_cases ha : a = 47
    · subst ha; rfl
    · unfold L6.note; split
      · rename_i heq; simp at heq
      · rfl
  | a :: b :: t, h, _ =>
    rw [L6.note_two] at h ⊢
    simpa using h
theorem L6.wd_label {l : List UInt8} (h : L6.wordsOf l = some [l]) (hq : L6.quoted l = false) : L6.Wd (l ++ [58]) := by
  obtain ⟨hn, hb, hne, hnt⟩ := L6.one_word h
  cases l with
  | nil => exact absurd rfl hne
  | cons c t =>
    have hbl : L6.blank c = false := L6.bare_head hb
    have hc : c ≠ 34 := by
      rintro rfl
      unfold L6.quoted Lib.hasPrefix at hq
      simp [List.isPrefixOf] at hq
    rw [L6.next_plain hc] at hn
    simp only [Prod.mk.injEq] at hn
    have hall : ∀ d ∈ c :: t ++ [58], L6.blank d = false := by
      intro d hd
      rcases List.mem_append.1 hd with hd | hd
      · exact L6.word_all hn.1 d hd
      · simp at hd; subst hd; rfl
    refine ⟨by simp, L6.head_plain (w := c :: t ++ [58]) (c := c) (t := t ++ [58]) rfl hbl, fun r hr => ?_, L6.note_app hnt (by simp)⟩
    obtain ⟨h1, h2⟩ := L6.word_app (r := r) hall hr
    have e : c :: t ++ [58] ++ r = c :: (t ++ [58] ++ r) := by simp
    rw [e, L6.next_plain hc, ← e, h1, h2]
theorem L6.wordsOf_skip (c : UInt8) (l : List UInt8) (hc : L6.blank c = true) : L6.wordsOf (c :: l) = L6.wordsOf l := by
  have e : L6.bare (c :: l) = L6.bare l := by
    conv => lhs; unfold L6.bare
    rw [if_pos hc]
  cases hb : L6.bare l with
  | nil => rw [L6.wordsOf_bare l hb, L6.wordsOf_bare (c :: l) (e.trans hb)]
  | cons d t => rw [L6.wordsOf_next l d t hb, L6.wordsOf_next (c :: l) d t (e.trans hb)]
theorem L6.wordsOf_wd {x r : List UInt8} (h : L6.Wd x) (hr : L6.free r = true) : L6.wordsOf (x ++ r) = (L6.wordsOf r).map (x :: ·) := by
  have hb := h.head r
  cases hx : x ++ r with
  | nil => exact absurd (List.append_eq_nil_iff.1 hx).1 h.ne
  | cons c t =>
    have hn := h.next r hr
    rw [hx] at hb hn
    rw [L6.wordsOf_next (c :: t) c t hb, hn]
    simp [h.note]
theorem L6.joinTail_free (t : List (List UInt8)) : L6.free (Lib.joinTail [32] t) = true := by
  cases t with
  | nil => rfl
  | cons x r => simp [Lib.joinTail, L6.free, L6.blank]
theorem L6.wordsOf_joinTail : ∀ {ws : List (List UInt8)}, (∀ x ∈ ws, L6.Wd x) → L6.wordsOf (Lib.joinTail [32] ws) = some ws
  | [], _ => by rw [show Lib.joinTail [32] [] = [] from rfl]; exact L6.wordsOf_bare [] rfl
  | x :: t, h => by
    have e : Lib.joinTail [32] (x :: t) = 32 :: (x ++ Lib.joinTail [32] t) := by simp [Lib.joinTail]
    rw [e, L6.wordsOf_skip 32 _ rfl, L6.wordsOf_wd (h x (by simp)) (L6.joinTail_free t), L6.wordsOf_joinTail fun y hy => h y (by simp [hy])]
    rfl
theorem L6.wordsOf_join {ws : List (List UInt8)} (h : ∀ x ∈ ws, L6.Wd x) : L6.wordsOf (Lib.join ws [32]) = some ws := by
  cases ws with
  | nil => exact L6.wordsOf_bare [] rfl
  | cons x t =>
    rw [Lib.join_cons, L6.wordsOf_wd (h x (by simp)) (L6.joinTail_free t), L6.wordsOf_joinTail fun y hy => h y (by simp [hy])]
    rfl
/-- What a right line holds. -/
theorem L6.right_parts {x : L6.Line} (h : L6.right x = true) : (∀ s ∈ x.labels, L6.whole s = true ∧ L6.quoted s = false) ∧ (∀ s ∈ x.args, L6.whole s = true) ∧ (x.word = [] → x.args = []) ∧ (x.word ≠ [] → L6.whole x.word = true ∧ L6.label x.word = false) := by
  have h1 : x.labels.any (fun s => !L6.whole s) = false := by
    cases hh : x.labels.any (fun s => !L6.whole s)
    · rfl
    · rw [L6.right_labels hh] at h; cases h
  have h2 : x.labels.any L6.quoted = false := by
    cases hh : x.labels.any L6.quoted
    · rfl
    · rw [L6.right_quoted hh] at h; cases h
  have h3 : x.args.any (fun s => !L6.whole s) = false := by
    cases hh : x.args.any (fun s => !L6.whole s)
    · rfl
    · rw [L6.right_args hh] at h; cases h
  have hr := L6.right_rest h1 h2 h3
  rw [List.any_eq_false] at h1 h2 h3
  refine ⟨fun s hs => ⟨by simpa using h1 s hs, by simpa using h2 s hs⟩, fun s hs => by simpa using h3 s hs, fun hw => ?_, fun hw => ?_⟩
  · rw [h, if_pos hw] at hr
    simpa using hr.symm
  · rw [h, if_neg hw] at hr
    have := hr.symm
    simp only [Bool.and_eq_true, Bool.not_eq_true'] at this
    exact ⟨this.1, this.2.2⟩
theorem L6.whole_parts {s : List UInt8} (h : L6.whole s = true) : L6.wordsOf s = some [s] ∧ 10 ∉ s := by
  unfold L6.whole at h
  simpa using h
theorem L6.line_wd {x : L6.Line} (h : L6.right x = true) : ∀ y ∈ L6.lineWords x, L6.Wd y ∧ 10 ∉ y := by
  obtain ⟨h1, h2, h3, h4⟩ := L6.right_parts h
  intro y hy
  unfold L6.lineWords at hy
  rcases List.mem_append.1 hy with hy | hy
  · rcases List.mem_append.1 hy with hy | hy
    · unfold L6.marked at hy
      obtain ⟨s, hs, rfl⟩ := List.mem_map.1 hy
      obtain ⟨a, b⟩ := h1 s hs
      obtain ⟨w1, w2⟩ := L6.whole_parts a
      exact ⟨L6.wd_label w1 b, by simpa using w2⟩
    · split at hy
      · simp at hy
      · rename_i hw
        simp at hy
        subst hy
        obtain ⟨w1, w2⟩ := L6.whole_parts (h4 hw).1
        exact ⟨L6.wd_of w1, w2⟩
  · obtain ⟨w1, w2⟩ := L6.whole_parts (h2 y hy)
    exact ⟨L6.wd_of w1, w2⟩
theorem L6.mark_label {s : List UInt8} (hne : s ≠ []) (hq : L6.quoted s = false) : L6.label (s ++ [58]) = true ∧ (s ++ [58]).dropLast = s := by
  refine ⟨?_, by simp⟩
  cases s with
  | nil => exact absurd rfl hne
  | cons c t =>
    have hc : c ≠ 34 := by
      rintro rfl
      unfold L6.quoted Lib.hasPrefix at hq
      simp [List.isPrefixOf] at hq
    rw [L6.label_at _ (by simp)]
    simp [List.getD, hc]
theorem L6.labels_marked : ∀ {l r : List (List UInt8)}, (∀ s ∈ l, s ≠ [] ∧ L6.quoted s = false) → L6.labels (L6.marked l ++ r) = l ++ L6.labels r ∧ L6.rest (L6.marked l ++ r) = L6.rest r
  | [], r, _ => ⟨rfl, rfl⟩
  | s :: l, r, h => by
    obtain ⟨h1, h2⟩ := L6.labels_marked (l := l) (r := r) fun y hy => h y (by simp [hy])
    obtain ⟨a, b⟩ := L6.mark_label (h s (by simp)).1 (h s (by simp)).2
    have e : L6.marked (s :: l) ++ r = (s ++ [58]) :: (L6.marked l ++ r) := rfl
    rw [e]
    constructor
    · conv => lhs; unfold L6.labels
      rw [if_pos a, h1, b]
      rfl
    · conv => lhs; unfold L6.rest
      rw [if_pos a, h2]
theorem L6.line_back {x : L6.Line} (h : L6.right x = true) : L6.line (L6.lineWords x) = x := by
  obtain ⟨h1, h2, h3, h4⟩ := L6.right_parts h
  obtain ⟨xl, xw, xa⟩ := x
  simp only at h1 h2 h3 h4
  have hl : ∀ s ∈ xl, s ≠ [] ∧ L6.quoted s = false := fun s hs => ⟨L6.whole_ne (h1 s hs).1, (h1 s hs).2⟩
  unfold L6.line L6.lineWords
  simp only
  rw [List.append_assoc]
  obtain ⟨e1, e2⟩ := L6.labels_marked (r := (if xw = [] then [] else [xw]) ++ xa) hl
  rw [e1, e2]
  by_cases hw : xw = []
  · rw [if_pos hw, h3 hw, hw]
    simp [L6.labels, L6.rest]
  · rw [if_neg hw]
    have hlab := (h4 hw).2
    simp [L6.labels, L6.rest, hlab]
theorem L6.join_free {ws : List (List UInt8)} (h : ∀ y ∈ ws, 10 ∉ y) : 10 ∉ Lib.join ws [32] := by
  have ht : ∀ r : List (List UInt8), (∀ y ∈ r, 10 ∉ y) → 10 ∉ Lib.joinTail [32] r := by
    intro r hr hm
    unfold Lib.joinTail at hm
    obtain ⟨l, hl, hx⟩ := List.mem_flatten.1 hm
    obtain ⟨y, hy, rfl⟩ := List.mem_map.1 hl
    rcases List.mem_append.1 hx with hx | hx
    · simp at hx
    · exact hr y hy hx
  cases ws with
  | nil => simp [Lib.join_nil]
  | cons x t =>
    rw [Lib.join_cons]
    intro hm
    rcases List.mem_append.1 hm with hm | hm
    · exact h x (by simp) hm
    · exact ht t (fun y hy => h y (by simp [hy])) hm
theorem L6.split_text : ∀ {ls : List L6.Line}, (∀ x ∈ ls, L6.right x = true) → L6.split (L6.text ls) = ls.map fun x => Lib.join (L6.lineWords x) [32]
  | [], _ => rfl
  | x :: t, h => by
    have e : L6.text (x :: t) = Lib.join (L6.lineWords x) [32] ++ 10 :: L6.text t := by
      show L6.lineText x ++ L6.text t = _
      unfold L6.lineText
      simp
    rw [e, L6.split_free (L6.join_free fun y hy => (L6.line_wd (h x (by simp)) y hy).2), L6.split_text fun y hy => h y (by simp [hy])]
    rfl
theorem L6.parseL_back : ∀ {ls : List L6.Line} (n : Nat) (acc : List L6.Line), (∀ x ∈ ls, L6.right x = true) →
    (∃ m, L6.parseL n acc (ls.map fun x => Lib.join (L6.lineWords x) [32]) = ([], m + 1, 6)) ∨ L6.parseL n acc (ls.map fun x => Lib.join (L6.lineWords x) [32]) = (acc ++ ls, 0, 0)
  | [], n, acc, _ => .inr (by simp [L6.parseL])
  | x :: t, n, acc, h => by
    rw [List.map_cons]
    unfold L6.parseL
    split
    · exact .inl ⟨n, rfl⟩
    · rw [L6.wordsOf_join fun y hy => (L6.line_wd (h x (by simp)) y hy).1]
      simp only
      rw [L6.line_back (h x (by simp))]
      rcases L6.parseL_back (ls := t) (n + 1) (acc ++ [x]) fun y hy => h y (by simp [hy]) with h' | h'
      · exact .inl h'
      · exact .inr (by rw [h']; simp)
/-- What is printed is parsed as it was, where no line is too long. -/
theorem L6.parse_back {ls : List L6.Line} (h : ∀ x ∈ ls, L6.right x = true) (hl : ls.length ≤ 32768) : (∃ m, L6.parse (L6.text ls) = ([], m + 1, 6)) ∨ L6.parse (L6.text ls) = (ls, 0, 0) := by
  unfold L6.parse
  rw [L6.split_text h, if_neg (by rw [List.length_map]; omega)]
  simpa using L6.parseL_back (ls := ls) 0 [] h
end Go.Proofs.YtbkgpnilodjdiaaDoor
