/- The document's side: blank, note, words. -/
import Derived.Test.YtbkgpnilodjdiaaDoorL6Own
namespace Go.Proofs.YtbkgpnilodjdiaaDoor
open Go.RowKit Kit
set_option linter.unusedVariables false
set_option linter.unusedSimpArgs false

theorem rblank_any (c : UInt8) (w : World) : Calls Tryd.prog 77 #[.int .u8 c.toNat] w fun e w' => e = .returned (.bool (L6.blank c)) ∧ w = w' := by
  by_cases h1 : c = 32
  · subst h1
    go_enter Tryd.func77, Tryd.ntmps77
    go_wp2
    go_ret
    exact ⟨rfl, rfl⟩
  · have g1 : ((c.toNat : Int) == 32) = false := by
      rw [beq_eq_false_iff_ne]; intro h; apply h1
      have : c.toNat = 32 := by omega
      exact UInt8.toNat_inj.1 this
    by_cases h2 : c = 9
    · subst h2
      go_enter Tryd.func77, Tryd.ntmps77
      go_wp2
      go_ret
      exact ⟨rfl, rfl⟩
    · have g2 : ((c.toNat : Int) == 9) = false := by
        rw [beq_eq_false_iff_ne]; intro h; apply h2
        have : c.toNat = 9 := by omega
        exact UInt8.toNat_inj.1 this
      have HR := Lib.hid (show L6.blank c = false by simp [L6.blank, h1, h2])
      clear h1 h2
      go_enter Tryd.func77, Tryd.ntmps77
      go_wp2
      go_ret
      exact ⟨lret_bool HR.out.symm, rfl⟩
theorem byte_eq (c d : UInt8) : ((c.toNat : Int) == (d.toNat : Int)) = (c == d) := by
  rw [Bool.eq_iff_iff, beq_iff_eq, beq_iff_eq]
  exact ⟨fun h => UInt8.toNat_inj.1 (by omega), fun h => by rw [h]⟩
theorem L6.note_two (l : List UInt8) : L6.note l = (decide (1 < l.length) && (l.getD 0 0 == 47) && (l.getD 1 0 == 47)) := by
  match l with
  | [] => rfl
  | [a] => by_cases h : a = 47 <;> simp [L6.note, h]
  | a :: b :: t =>
    by_cases h : a = 47
    · by_cases h' : b = 47
      · subst h h'; rfl
      · subst h; simp [L6.note, h']
    · simp [L6.note, h]
theorem rnote_any (l : List UInt8) (w : World) (hm : l.length ≤ maxLen) : Calls Tryd.prog 78 #[.string ⟨l.toArray⟩] w fun e w' => e = .returned (.bool (L6.note l)) ∧ w = w' := by
  unfold maxLen at hm
  by_cases h1 : 1 < l.length
  · have g1 : (1 : Int) < l.length := by omega
    have h0 : 0 < l.length := by omega
    have e0 : (((((⟨l.toArray⟩ : ByteArray)[0]'h0).toNat : Int)) == 47) = (l.getD 0 0 == 47) := by rw [L6.get_data l 0 h0]; exact byte_eq _ 47
    have e1 : (((((⟨l.toArray⟩ : ByteArray)[1]'h1).toNat : Int)) == 47) = (l.getD 1 0 == 47) := by rw [L6.get_data l 1 h1]; exact byte_eq _ 47
    have HR := Lib.hid (L6.note_two l)
    have HD := Lib.hid (decide_eq_true h1)
    cases c0 : (l.getD 0 0 == 47)
    · rw [c0] at e0
      have C0 := Lib.hid c0
      clear h1 e1 c0
      go_enter Tryd.func78, Tryd.ntmps78
      go_wp2
      go_ret
      exact ⟨lret_bool (by rw [HR.out, C0.out]; simp), rfl⟩
    · rw [c0] at e0
      have C0 := Lib.hid c0
      clear c0
      go_enter Tryd.func78, Tryd.ntmps78
      go_wp2
      go_ret
      exact ⟨lret_bool (by rw [HR.out, C0.out, HD.out]; simp [List.getD, List.getElem?_eq_getElem h1]), rfl⟩
  · have g1 : ¬ (1 : Int) < l.length := by omega
    have HR := Lib.hid (show L6.note l = false by rw [L6.note_two]; simp [h1])
    clear h1
    go_enter Tryd.func78, Tryd.ntmps78
    go_wp2
    go_ret
    exact ⟨lret_bool HR.out.symm, rfl⟩
/-- How many bytes lie ahead of a closing quote; of a blank. -/
def L6.upq : List UInt8 → Nat
  | [] => 0
  | c :: t => if c = 34 then 0 else L6.upq t + 1
def L6.upb : List UInt8 → Nat
  | [] => 0
  | c :: t => if L6.blank c = true then 0 else L6.upb t + 1
theorem L6.upq_le : ∀ l, L6.upq l ≤ l.length
  | [] => Nat.le_refl _
  | c :: t => by unfold L6.upq; have := L6.upq_le t; split <;> simp <;> omega
theorem L6.upb_le : ∀ l, L6.upb l ≤ l.length
  | [] => Nat.le_refl _
  | c :: t => by unfold L6.upb; have := L6.upb_le t; split <;> simp <;> omega
theorem L6.quote_upq : ∀ l, L6.quote l = if L6.upq l < l.length then some (l.take (L6.upq l + 1), l.drop (L6.upq l + 1)) else none
  | [] => rfl
  | c :: t => by
    unfold L6.quote L6.upq
    by_cases h : c = 34
    · subst h; simp
    · rw [if_neg h, if_neg h, L6.quote_upq t]
      by_cases h2 : L6.upq t < t.length
      · rw [if_pos h2, if_pos (by simp; omega)]; simp
      · rw [if_neg h2, if_neg (by simp; omega)]; rfl
theorem L6.word_upb : ∀ l, L6.word l = l.take (L6.upb l) ∧ L6.behind l = l.drop (L6.upb l)
  | [] => by simp [L6.word, L6.behind, L6.upb]
  | c :: t => by
    have := L6.word_upb t
    unfold L6.word L6.behind L6.upb
    by_cases h : L6.blank c = true
    · simp [h]
    · simp [h, this.1, this.2]
theorem L6.wordsOf_of_bare {l l' : List UInt8} (h : L6.bare l = L6.bare l') : L6.wordsOf l = L6.wordsOf l' := by
  cases hb : L6.bare l with
  | nil => rw [L6.wordsOf_bare l hb, L6.wordsOf_bare l' (h ▸ hb)]
  | cons c t => rw [L6.wordsOf_next l c t hb, L6.wordsOf_next l' c t (h ▸ hb)]
theorem L6.drop_cons {s : List UInt8} {a : Nat} (h : a < s.length) : s.drop a = s.getD a 0 :: s.drop (a + 1) := by
  rw [List.drop_eq_getElem_cons h]; simp [List.getD, h]
/-- A blank at a. -/
theorem L6.wordsOf_blank {s : List UInt8} {a : Nat} (h : a < s.length) (hb : L6.blank (s.getD a 0) = true) : L6.wordsOf (s.drop a) = L6.wordsOf (s.drop (a + 1)) := by
  rw [L6.drop_cons h]
  exact L6.wordsOf_of_bare (by conv => lhs; unfold L6.bare; rw [if_pos hb])
theorem L6.wordsOf_end {s : List UInt8} {a : Nat} (h : s.length ≤ a) : L6.wordsOf (s.drop a) = some [] := by
  rw [List.drop_of_length_le h]; rfl
/-- A word that begins at a, from a to b. -/
theorem L6.wordsOf_word {s : List UInt8} {a b : Nat} (h : a < s.length) (hb : L6.blank (s.getD a 0) = false) (hn : L6.next (s.drop a) = ((s.drop a).take (b - a), s.drop b, true)) :
    L6.wordsOf (s.drop a) = if L6.note ((s.drop a).take (b - a)) then some [] else (L6.wordsOf (s.drop b)).map ((s.drop a).take (b - a) :: ·) := by
  have hbare : L6.bare (s.drop a) = s.drop a := by
    rw [L6.drop_cons h]; unfold L6.bare; rw [if_neg (by rw [hb]; decide)]
  have hc := L6.drop_cons h
  rw [hc] at hbare hn ⊢
  rw [L6.wordsOf_next _ _ _ hbare, hn]
  simp
theorem L6.wordsOf_open {s : List UInt8} {a : Nat} (h : a < s.length) (hb : L6.blank (s.getD a 0) = false) (x y : List UInt8) (hn : L6.next (s.drop a) = (x, y, false)) (hx : L6.note x = false) : L6.wordsOf (s.drop a) = none := by
  have hbare : L6.bare (s.drop a) = s.drop a := by
    rw [L6.drop_cons h]; unfold L6.bare; rw [if_neg (by rw [hb]; decide)]
  have hc := L6.drop_cons h
  rw [hc] at hbare hn ⊢
  rw [L6.wordsOf_next _ _ _ hbare, hn]
  simp [hx]
theorem L6.next_at_plain {s : List UInt8} {a : Nat} (h : a < s.length) (h34 : s.getD a 0 ≠ 34) : L6.next (s.drop a) = ((s.drop a).take (L6.upb (s.drop a)), s.drop (a + L6.upb (s.drop a)), true) := by
  have hc := L6.drop_cons h
  have hw := L6.word_upb (s.drop a)
  rw [List.drop_drop] at hw
  rw [← hw.1, ← hw.2, hc]
  exact L6.next_plain h34
theorem L6.next_at_quote {s : List UInt8} {a : Nat} (h : a < s.length) (h34 : s.getD a 0 = 34) (hq : a + 1 + L6.upq (s.drop (a + 1)) < s.length) :
    L6.next (s.drop a) = ((s.drop a).take (L6.upq (s.drop (a + 1)) + 2), s.drop (a + 1 + L6.upq (s.drop (a + 1)) + 1), L6.free (s.drop (a + 1 + L6.upq (s.drop (a + 1)) + 1))) := by
  rw [L6.drop_cons h, h34, L6.next_quote rfl, L6.quote_upq, if_pos (by simp; omega)]
  simp only [List.drop_drop, List.take_succ_cons]
  rw [show a + 1 + (L6.upq (s.drop (a + 1)) + 1) = a + 1 + L6.upq (s.drop (a + 1)) + 1 by omega]
theorem L6.next_at_open {s : List UInt8} {a : Nat} (h : a < s.length) (h34 : s.getD a 0 = 34) (hq : s.length ≤ a + 1 + L6.upq (s.drop (a + 1))) : L6.next (s.drop a) = ([], [], false) := by
  rw [L6.drop_cons h, h34, L6.next_quote rfl, L6.quote_upq, if_neg (by simp; omega)]
theorem L6.upq_step {s : List UInt8} {b : Nat} (h : b < s.length) (hc : s.getD b 0 ≠ 34) : L6.upq (s.drop b) = L6.upq (s.drop (b + 1)) + 1 := by
  rw [L6.drop_cons h]; show (if _ then _ else _) = _; rw [if_neg hc]
theorem L6.upq_stop {s : List UInt8} {b : Nat} (h : s.length ≤ b ∨ s.getD b 0 = 34) : L6.upq (s.drop b) = 0 := by
  by_cases hb : b < s.length
  · rw [L6.drop_cons hb]; show (if _ then _ else _) = _; rw [if_pos (by rcases h with h | h; omega; exact h)]
  · rw [List.drop_of_length_le (by omega)]; rfl
theorem L6.upb_step {s : List UInt8} {b : Nat} (h : b < s.length) (hc : L6.blank (s.getD b 0) = false) : L6.upb (s.drop b) = L6.upb (s.drop (b + 1)) + 1 := by
  rw [L6.drop_cons h]; show (if _ then _ else _) = _; rw [if_neg (by rw [hc]; decide)]
theorem L6.upb_stop {s : List UInt8} {b : Nat} (h : s.length ≤ b ∨ L6.blank (s.getD b 0) = true) : L6.upb (s.drop b) = 0 := by
  by_cases hb : b < s.length
  · rw [L6.drop_cons hb]; show (if _ then _ else _) = _; rw [if_pos (by rcases h with h | h; omega; exact h)]
  · rw [List.drop_of_length_le (by omega)]; rfl
set_option maxRecDepth 100000 in
set_option maxHeartbeats 2000000 in
theorem rwords_any (s : List UInt8) (w : World) (hl : s.length ≤ 1000000000) : Calls Tryd.prog 41 #[.string ⟨s.toArray⟩] w (WordsPost w.heap.size w (L6.wordsOf s)) := by
  have HLL := Lib.hid (show s.length ≤ 1000000000 from hl)
  have CB := Lib.hid (fun (k : Nat) (hk : k < s.length) W => rblank_any ((⟨s.toArray⟩ : ByteArray)[k]'hk) W)
  have HG := Lib.hid (fun k (hk : k < s.length) => L6.get_data s k hk)
  clear hl
  go_enter Tryd.func41, Tryd.ntmps41
  go_wp2_with fail
  go_loopw [4, 5] (fun v i wr => ∃ (acc : List (List UInt8)) (a : Nat), i = .int .i64 (a : Int) ∧ a ≤ s.length ∧ OwnS w.heap.size wr v acc ∧ L6.wordsOf s = (L6.wordsOf (s.drop a)).map (acc ++ ·) ∧ acc.length ≤ a ∧ Below w.heap.size w wr) (fun _ i _ => match i with | .int _ n => s.length - n.toNat | _ => 0)
  case atStart => exact ⟨[], 0, rfl, by simp, OwnS.nil _ _, by simp, by simp, Below.refl _ _⟩
  case round =>
    obtain ⟨acc, a, rfl, has, hown, hw, hacc, hbr⟩ := hrel
    have HW := Lib.hid hw
    have HOW := Lib.hid hown
    have HAC := Lib.hid hacc
    have HBR := Lib.hid hbr
    have HAS := Lib.hid has
    obtain ⟨A, cap, rfl⟩ := hown.form
    clear hw hacc hbr hown
    by_cases hlt : a < s.length
    · have hlt' : (a : Int) < (s.length : Int) := by omega
      have hw1 : IntKind.i64.wrap ((a : Int) + 1) = (a : Int) + 1 := by have := HLL.out; go_bits; exact trivial
      have CBA := Lib.hid (CB.out a hlt)
      have HGA := Lib.hid (HG.out a hlt)
      cases hb : L6.blank ((⟨s.toArray⟩ : ByteArray)[a]'hlt)
      -- no blank at a
      · have HBL := Lib.hid (show L6.blank (s.getD a 0) = false from by rw [← HGA.out]; exact hb)
        rw [hb] at CBA
        clear hb
        by_cases h34 : s.getD a 0 = 34
        · have g34 : (((((⟨s.toArray⟩ : ByteArray)[a]'hlt).toNat : Int)) == 34) = true := by
            rw [HGA.out, h34]; rfl
          have H34 := Lib.hid h34
          clear h34
          go_wp2_with (go_at_call 77; refine (CBA.out _).mono ?_; rintro e w' ⟨rfl, rfl⟩)
          clear g34
          go_loop [5] (fun i => ∃ c : Nat, i = .int .i64 (c : Int) ∧ a + 1 ≤ c ∧ c ≤ s.length ∧ c + L6.upq (s.drop c) = a + 1 + L6.upq (s.drop (a + 1))) (fun i => s.length - (intOf i).toNat)
          case atStart => exact ⟨a + 1, by simp, Nat.le_refl _, hlt, rfl⟩
          case round =>
            obtain ⟨c, rfl, hac, hcs, huq⟩ := hrel
            have HACC := Lib.hid hac
            have HCS := Lib.hid hcs
            have HUQ := Lib.hid huq
            clear hac hcs huq
            by_cases hcl : c < s.length
            · have hcl' : (c : Int) < (s.length : Int) := by omega
              obtain ⟨b, hb⟩ : ∃ b, b = c + 1 := ⟨_, rfl⟩
              have hwb : IntKind.i64.wrap ((c : Int) + 1) = (b : Int) := by
                have e : (b : Int) = (c : Int) + 1 := by omega
                rw [e]
                have := HLL.out
                go_bits
                exact trivial
              by_cases hc34 : s.getD c 0 = 34
              · have gc : (((((⟨s.toArray⟩ : ByteArray)[c]'hcl).toNat : Int)) != 34) = false := by
                  rw [bne, HG.out c hcl, show ((s.getD c 0).toNat : Int) = ((34 : UInt8).toNat : Int) from by rw [hc34]]; rfl
                have HQE := Lib.hid (show c = a + 1 + L6.upq (s.drop (a + 1)) from by have := HUQ.out; have := L6.upq_stop (s := s) (b := c) (.inr hc34); omega)
                have HNQ := Lib.hid (L6.next_at_quote hlt H34.out (by have := HQE.out; omega))
                have HAB := Lib.hid (show a < b from by have := HACC.out; omega)
                have HBS := Lib.hid (show b ≤ s.length from by omega)
                have HBQ := Lib.hid (show b = a + 1 + L6.upq (s.drop (a + 1)) + 1 from by have := HQE.out; omega)
                clear hc34 hb
                have hbs' : (b : Int) ≤ (s.length : Int) := by have := HBS.out; omega
                by_cases hbl : b < s.length
                · have hbl' : (b : Int) < (s.length : Int) := by omega
                  have CBB := Lib.hid (CB.out b hbl)
                  cases hbb : L6.blank ((⟨s.toArray⟩ : ByteArray)[b]'hbl)
                  · have HB0 := Lib.hid (show L6.blank (s.getD b 0) = false from by rw [← HG.out b hbl]; exact hbb)
                    rw [hbb] at CBB
                    clear hbb
                    have HR := Lib.hid (show L6.wordsOf s = none from by
                      rw [HW.out, L6.wordsOf_open hlt HBL.out _ _ (HNQ.out.trans (by rw [← HBQ.out, show L6.free (s.drop b) = false from by rw [L6.drop_cons hbl]; exact HB0.out])) (by rw [L6.drop_cons hlt, H34.out, L6.note_two]; simp)]; rfl)
                    go_wp2_with (first | (go_at_call 77; refine (CBB.out _).mono ?_; rintro e w' ⟨rfl, rfl⟩))
                    go_ret2
                    rw [HR.out]
                    exact ⟨rfl, HBR.out⟩
                  · have HB0 := Lib.hid (show L6.blank (s.getD b 0) = true from by rw [← HG.out b hbl]; exact hbb)
                    rw [hbb] at CBB
                    clear hbb
                    have HNX := Lib.hid (L6.wordsOf_word (b := b) hlt HBL.out (HNQ.out.trans (by rw [← HBQ.out, show L6.free (s.drop b) = true from by rw [L6.drop_cons hbl]; exact HB0.out, show L6.upq (s.drop (a + 1)) + 2 = b - a from by have := HBQ.out; omega])))
                    have hx : (⟨s.toArray⟩ : ByteArray).extract a b = ⟨((s.drop a).take (b - a)).toArray⟩ := ext_eq s a b
                    have HX := Lib.hid hx
                    have CN := Lib.hid (show ∀ W, Calls Tryd.prog 78 #[.string ((⟨s.toArray⟩ : ByteArray).extract a b)] W fun e w' => e = .returned (.bool (L6.note ((s.drop a).take (b - a)))) ∧ W = w' from fun W => by rw [hx]; exact rnote_any _ W (by have := HLL.out; unfold maxLen; simp; omega))
                    clear hx
                    have hab' : (a : Int) ≤ (b : Int) := by have := HAB.out; omega
                    have hbs' : (b : Int) ≤ (s.length : Int) := by have := HBS.out; omega
                    cases hn : L6.note ((s.drop a).take (b - a))
                    · rw [hn] at CN
                      have HWN := Lib.hid (show L6.wordsOf s = (L6.wordsOf (s.drop b)).map ((acc ++ [(s.drop a).take (b - a)]) ++ ·) from by rw [HW.out, HNX.out, hn, if_neg (by decide)]; exact L6.map_app acc _ _)
                      have HOWA := Lib.hid (show (wr.alloc (.cells #[.string ((⟨s.toArray⟩ : ByteArray).extract a b)] 9)).ownsRow w.heap.size 9 1 (.slice A acc.length cap) acc.length (L6.sv acc) from HOW.out.kept ((Below.refl _ _).alloc (Nat.le_refl _) _))
                      have HSA := Lib.hid (show Src Tryd.prog 1 43 (.slice (some ⟨wr.heap.size, 0, none⟩) 1 1) 1 [.string ((⟨s.toArray⟩ : ByteArray).extract a b)] (wr.alloc (.cells #[.string ((⟨s.toArray⟩ : ByteArray).extract a b)] 9)) by rw [HX.out]; exact src_one wr ((s.drop a).take (b - a)))
                      have HBA := Lib.hid (show Below w.heap.size w (wr.alloc (.cells #[.string ((⟨s.toArray⟩ : ByteArray).extract a b)] 9)) from HBR.out.alloc HBR.out.size _)
                      have HL1 := Lib.hid (show (acc.length + 1) * 16 ≤ 140737488355328 by have := HAC.out; have := HAS.out; have := HLL.out; omega)
                      have HL2 := Lib.hid (show acc.length + 1 ≤ maxLen by have := HAC.out; have := HAS.out; have := HLL.out; unfold maxLen; omega)
                      have HZ := Lib.hid HBA.out.size
                      clear hn
                      go_wp2_with (first | (go_at_call 77; refine (CBB.out _).mono ?_; rintro e w' ⟨rfl, rfl⟩) | (go_at_call 78; refine (CN.out _).mono ?_; rintro e w' ⟨rfl, rfl⟩) | (at_builtin; refine wpList_appendRB rfl _ _ _ _ rfl lsrt (by decide) w.heap.size _ rfl acc.length (L6.sv acc) HOWA.out _ rfl 1 [.string ((⟨s.toArray⟩ : ByteArray).extract a b)] HSA.out HL1.out HL2.out HZ.out ?_; intro v3 w3 ho3 hb3 _ _; have HO3 := Lib.hid ho3; have HB3 := Lib.hid (HBA.out.trans hb3); obtain ⟨A3, c3, rfl⟩ := (Rd.of_own ho3).form; clear ho3 hb3))
                      go_roundw
                      case rel =>
                        refine ⟨acc ++ [(s.drop a).take (b - a)], b, rfl, HBS.out, ?_, HWN.out, by have := HAC.out; have := HAB.out; simp; omega, HB3.out⟩
                        have := HO3.out
                        rw [HX.out] at this
                        unfold OwnS
                        rw [L6.sv_append, List.length_append]
                        exact this
                      case measure => have := HAB.out; have := HBS.out; simp; omega
                    · rw [hn] at CN
                      have HR := Lib.hid (show L6.wordsOf s = some acc from by rw [HW.out, HNX.out, hn, if_pos rfl]; simp)
                      clear hn
                      go_wp2_with (first | (go_at_call 77; refine (CBB.out _).mono ?_; rintro e w' ⟨rfl, rfl⟩) | (go_at_call 78; refine (CN.out _).mono ?_; rintro e w' ⟨rfl, rfl⟩))
                      go_ret2
                      rw [HR.out]
                      exact ⟨_, rfl, HOW.out, HBR.out⟩
                · have hbl' : (s.length : Int) ≤ (b : Int) := by omega
                  have HNX := Lib.hid (L6.wordsOf_word (b := b) hlt HBL.out (HNQ.out.trans (by rw [← HBQ.out, show L6.free (s.drop b) = true from by rw [List.drop_of_length_le (by omega)]; rfl, show L6.upq (s.drop (a + 1)) + 2 = b - a from by have := HBQ.out; omega])))
                  have hx : (⟨s.toArray⟩ : ByteArray).extract a b = ⟨((s.drop a).take (b - a)).toArray⟩ := ext_eq s a b
                  have HX := Lib.hid hx
                  have CN := Lib.hid (show ∀ W, Calls Tryd.prog 78 #[.string ((⟨s.toArray⟩ : ByteArray).extract a b)] W fun e w' => e = .returned (.bool (L6.note ((s.drop a).take (b - a)))) ∧ W = w' from fun W => by rw [hx]; exact rnote_any _ W (by have := HLL.out; unfold maxLen; simp; omega))
                  clear hx
                  have hab' : (a : Int) ≤ (b : Int) := by have := HAB.out; omega
                  have hbs' : (b : Int) ≤ (s.length : Int) := by have := HBS.out; omega
                  cases hn : L6.note ((s.drop a).take (b - a))
                  · rw [hn] at CN
                    have HWN := Lib.hid (show L6.wordsOf s = (L6.wordsOf (s.drop b)).map ((acc ++ [(s.drop a).take (b - a)]) ++ ·) from by rw [HW.out, HNX.out, hn, if_neg (by decide)]; exact L6.map_app acc _ _)
                    have HOWA := Lib.hid (show (wr.alloc (.cells #[.string ((⟨s.toArray⟩ : ByteArray).extract a b)] 9)).ownsRow w.heap.size 9 1 (.slice A acc.length cap) acc.length (L6.sv acc) from HOW.out.kept ((Below.refl _ _).alloc (Nat.le_refl _) _))
                    have HSA := Lib.hid (show Src Tryd.prog 1 43 (.slice (some ⟨wr.heap.size, 0, none⟩) 1 1) 1 [.string ((⟨s.toArray⟩ : ByteArray).extract a b)] (wr.alloc (.cells #[.string ((⟨s.toArray⟩ : ByteArray).extract a b)] 9)) by rw [HX.out]; exact src_one wr ((s.drop a).take (b - a)))
                    have HBA := Lib.hid (show Below w.heap.size w (wr.alloc (.cells #[.string ((⟨s.toArray⟩ : ByteArray).extract a b)] 9)) from HBR.out.alloc HBR.out.size _)
                    have HL1 := Lib.hid (show (acc.length + 1) * 16 ≤ 140737488355328 by have := HAC.out; have := HAS.out; have := HLL.out; omega)
                    have HL2 := Lib.hid (show acc.length + 1 ≤ maxLen by have := HAC.out; have := HAS.out; have := HLL.out; unfold maxLen; omega)
                    have HZ := Lib.hid HBA.out.size
                    clear hn
                    go_wp2_with (first | (go_at_call 78; refine (CN.out _).mono ?_; rintro e w' ⟨rfl, rfl⟩) | (at_builtin; refine wpList_appendRB rfl _ _ _ _ rfl lsrt (by decide) w.heap.size _ rfl acc.length (L6.sv acc) HOWA.out _ rfl 1 [.string ((⟨s.toArray⟩ : ByteArray).extract a b)] HSA.out HL1.out HL2.out HZ.out ?_; intro v3 w3 ho3 hb3 _ _; have HO3 := Lib.hid ho3; have HB3 := Lib.hid (HBA.out.trans hb3); obtain ⟨A3, c3, rfl⟩ := (Rd.of_own ho3).form; clear ho3 hb3))
                    go_roundw
                    case rel =>
                      refine ⟨acc ++ [(s.drop a).take (b - a)], b, rfl, HBS.out, ?_, HWN.out, by have := HAC.out; have := HAB.out; simp; omega, HB3.out⟩
                      have := HO3.out
                      rw [HX.out] at this
                      unfold OwnS
                      rw [L6.sv_append, List.length_append]
                      exact this
                    case measure => have := HAB.out; have := HBS.out; simp; omega
                  · rw [hn] at CN
                    have HR := Lib.hid (show L6.wordsOf s = some acc from by rw [HW.out, HNX.out, hn, if_pos rfl]; simp)
                    clear hn
                    go_wp2_with (first | (go_at_call 78; refine (CN.out _).mono ?_; rintro e w' ⟨rfl, rfl⟩))
                    go_ret2
                    rw [HR.out]
                    exact ⟨_, rfl, HOW.out, HBR.out⟩
              · have gc : (((((⟨s.toArray⟩ : ByteArray)[c]'hcl).toNat : Int)) != 34) = true := by
                  rw [bne_iff_ne, HG.out c hcl]
                  intro e
                  exact hc34 (UInt8.toNat_inj.1 (by have e' : (s.getD c 0).toNat = 34 := by omega
                                                    exact e'))
                have HUS := Lib.hid (L6.upq_step hcl hc34)
                clear hc34
                go_wp2_with fail
                go_round
                case rel => exact ⟨c + 1, by simp, by have := HACC.out; omega, hcl, by have := HUQ.out; have := HUS.out; omega⟩
                case measure => simp [intOf]; omega
            · have hcl' : (s.length : Int) ≤ (c : Int) := by omega
              have hwc : IntKind.i64.wrap ((c : Int) + 1) = (c : Int) + 1 := by have := HLL.out; have := HCS.out; go_bits; exact trivial
              have hgt : (s.length : Int) < (c : Int) + 1 := by omega
              have HR := Lib.hid (show L6.wordsOf s = none from by
                rw [HW.out, L6.wordsOf_open hlt HBL.out _ _ (L6.next_at_open hlt H34.out (by have := HUQ.out; have := L6.upq_stop (s := s) (b := c) (.inl (by omega)); omega)) rfl]; rfl)
              go_wp2_with fail
              go_ret2
              rw [HR.out]
              exact ⟨rfl, HBR.out⟩
        · have g34 : (((((⟨s.toArray⟩ : ByteArray)[a]'hlt).toNat : Int)) == 34) = false := by
            rw [HGA.out]; refine (byte_eq _ 34).trans ?_; simpa using h34
          have HNP := Lib.hid (L6.next_at_plain hlt h34)
          have HU1 := Lib.hid (L6.upb_step hlt HBL.out)
          clear h34
          go_wp2_with (go_at_call 77; refine (CBA.out _).mono ?_; rintro e w' ⟨rfl, rfl⟩)
          go_loop [5] (fun i => ∃ b : Nat, i = .int .i64 (b : Int) ∧ a ≤ b ∧ b ≤ s.length ∧ b + L6.upb (s.drop b) = a + L6.upb (s.drop a)) (fun i => s.length - (intOf i).toNat)
          case atStart => exact ⟨a, rfl, Nat.le_refl _, by omega, rfl⟩
          case round =>
            obtain ⟨b, rfl, hab, hbs, hub⟩ := hrel
            have HAB0 := Lib.hid hab
            have HBS := Lib.hid hbs
            have HUB := Lib.hid hub
            clear hub hab hbs
            by_cases hbl : b < s.length
            · have hbl' : (b : Int) < (s.length : Int) := by omega
              have CBB := Lib.hid (CB.out b hbl)
              have hwb : IntKind.i64.wrap ((b : Int) + 1) = (b : Int) + 1 := by have := HLL.out; go_bits; exact trivial
              cases hbb : L6.blank ((⟨s.toArray⟩ : ByteArray)[b]'hbl)
              · have HB0 := Lib.hid (show L6.blank (s.getD b 0) = false from by rw [← HG.out b hbl]; exact hbb)
                rw [hbb] at CBB
                clear hbb
                go_wp2_with (go_at_call 77; refine (CBB.out _).mono ?_; rintro e w' ⟨rfl, rfl⟩)
                go_round
                case rel => exact ⟨b + 1, by simp, by have := HAB0.out; omega, hbl, by have := HUB.out; have := L6.upb_step hbl HB0.out; omega⟩
                case measure => simp [intOf]; omega
              · have HB0 := Lib.hid (show L6.blank (s.getD b 0) = true from by rw [← HG.out b hbl]; exact hbb)
                rw [hbb] at CBB
                clear hbb
                have HBE := Lib.hid (show b = a + L6.upb (s.drop a) from by have := HUB.out; have := L6.upb_stop (s := s) (b := b) (.inr HB0.out); omega)
                have HAB := Lib.hid (show a < b from by have := HBE.out; have := HU1.out; omega)
                have HNX := Lib.hid (L6.wordsOf_word (b := b) hlt HBL.out (by rw [HNP.out, HBE.out, Nat.add_sub_cancel_left]))
                have hx : (⟨s.toArray⟩ : ByteArray).extract a b = ⟨((s.drop a).take (b - a)).toArray⟩ := ext_eq s a b
                have HX := Lib.hid hx
                have CN := Lib.hid (show ∀ W, Calls Tryd.prog 78 #[.string ((⟨s.toArray⟩ : ByteArray).extract a b)] W fun e w' => e = .returned (.bool (L6.note ((s.drop a).take (b - a)))) ∧ W = w' from fun W => by rw [hx]; exact rnote_any _ W (by have := HLL.out; unfold maxLen; simp; omega))
                clear hx
                have hab' : (a : Int) ≤ (b : Int) := by have := HAB.out; omega
                have hbs' : (b : Int) ≤ (s.length : Int) := by have := HBS.out; omega
                cases hn : L6.note ((s.drop a).take (b - a))
                · rw [hn] at CN
                  have HWN := Lib.hid (show L6.wordsOf s = (L6.wordsOf (s.drop b)).map ((acc ++ [(s.drop a).take (b - a)]) ++ ·) from by rw [HW.out, HNX.out, hn, if_neg (by decide)]; exact L6.map_app acc _ _)
                  have HOWA := Lib.hid (show (wr.alloc (.cells #[.string ((⟨s.toArray⟩ : ByteArray).extract a b)] 9)).ownsRow w.heap.size 9 1 (.slice A acc.length cap) acc.length (L6.sv acc) from HOW.out.kept ((Below.refl _ _).alloc (Nat.le_refl _) _))
                  have HSA := Lib.hid (show Src Tryd.prog 1 43 (.slice (some ⟨wr.heap.size, 0, none⟩) 1 1) 1 [.string ((⟨s.toArray⟩ : ByteArray).extract a b)] (wr.alloc (.cells #[.string ((⟨s.toArray⟩ : ByteArray).extract a b)] 9)) by rw [HX.out]; exact src_one wr ((s.drop a).take (b - a)))
                  have HBA := Lib.hid (show Below w.heap.size w (wr.alloc (.cells #[.string ((⟨s.toArray⟩ : ByteArray).extract a b)] 9)) from HBR.out.alloc HBR.out.size _)
                  have HL1 := Lib.hid (show (acc.length + 1) * 16 ≤ 140737488355328 by have := HAC.out; have := HAS.out; have := HLL.out; omega)
                  have HL2 := Lib.hid (show acc.length + 1 ≤ maxLen by have := HAC.out; have := HAS.out; have := HLL.out; unfold maxLen; omega)
                  have HZ := Lib.hid HBA.out.size
                  clear hn
                  go_wp2_with (first | (go_at_call 77; refine (CBB.out _).mono ?_; rintro e w' ⟨rfl, rfl⟩) | (go_at_call 78; refine (CN.out _).mono ?_; rintro e w' ⟨rfl, rfl⟩) | (at_builtin; refine wpList_appendRB rfl _ _ _ _ rfl lsrt (by decide) w.heap.size _ rfl acc.length (L6.sv acc) HOWA.out _ rfl 1 [.string ((⟨s.toArray⟩ : ByteArray).extract a b)] HSA.out HL1.out HL2.out HZ.out ?_; intro v3 w3 ho3 hb3 _ _; have HO3 := Lib.hid ho3; have HB3 := Lib.hid (HBA.out.trans hb3); obtain ⟨A3, c3, rfl⟩ := (Rd.of_own ho3).form; clear ho3 hb3))
                  go_roundw
                  case rel =>
                    refine ⟨acc ++ [(s.drop a).take (b - a)], b, rfl, HBS.out, ?_, HWN.out, by have := HAC.out; have := HAB.out; simp; omega, HB3.out⟩
                    have := HO3.out
                    rw [HX.out] at this
                    unfold OwnS
                    rw [L6.sv_append, List.length_append]
                    exact this
                  case measure => have := HAB.out; have := HBS.out; simp; omega
                · rw [hn] at CN
                  have HR := Lib.hid (show L6.wordsOf s = some acc from by rw [HW.out, HNX.out, hn, if_pos rfl]; simp)
                  clear hn
                  go_wp2_with (first | (go_at_call 77; refine (CBB.out _).mono ?_; rintro e w' ⟨rfl, rfl⟩) | (go_at_call 78; refine (CN.out _).mono ?_; rintro e w' ⟨rfl, rfl⟩))
                  go_ret2
                  rw [HR.out]
                  exact ⟨_, rfl, HOW.out, HBR.out⟩
            · have hbl' : (s.length : Int) ≤ (b : Int) := by omega
              have HBE := Lib.hid (show b = a + L6.upb (s.drop a) from by have := HUB.out; have := L6.upb_stop (s := s) (b := b) (.inl (by omega)); omega)
              have HAB := Lib.hid (show a < b from by have := HBE.out; have := HU1.out; omega)
              have HNX := Lib.hid (L6.wordsOf_word (b := b) hlt HBL.out (by rw [HNP.out, HBE.out, Nat.add_sub_cancel_left]))
              have hx : (⟨s.toArray⟩ : ByteArray).extract a b = ⟨((s.drop a).take (b - a)).toArray⟩ := ext_eq s a b
              have HX := Lib.hid hx
              have CN := Lib.hid (show ∀ W, Calls Tryd.prog 78 #[.string ((⟨s.toArray⟩ : ByteArray).extract a b)] W fun e w' => e = .returned (.bool (L6.note ((s.drop a).take (b - a)))) ∧ W = w' from fun W => by rw [hx]; exact rnote_any _ W (by have := HLL.out; unfold maxLen; simp; omega))
              clear hx
              have hab' : (a : Int) ≤ (b : Int) := by have := HAB.out; omega
              have hbs' : (b : Int) ≤ (s.length : Int) := by have := HBS.out; omega
              cases hn : L6.note ((s.drop a).take (b - a))
              · rw [hn] at CN
                have HWN := Lib.hid (show L6.wordsOf s = (L6.wordsOf (s.drop b)).map ((acc ++ [(s.drop a).take (b - a)]) ++ ·) from by rw [HW.out, HNX.out, hn, if_neg (by decide)]; exact L6.map_app acc _ _)
                have HOWA := Lib.hid (show (wr.alloc (.cells #[.string ((⟨s.toArray⟩ : ByteArray).extract a b)] 9)).ownsRow w.heap.size 9 1 (.slice A acc.length cap) acc.length (L6.sv acc) from HOW.out.kept ((Below.refl _ _).alloc (Nat.le_refl _) _))
                have HSA := Lib.hid (show Src Tryd.prog 1 43 (.slice (some ⟨wr.heap.size, 0, none⟩) 1 1) 1 [.string ((⟨s.toArray⟩ : ByteArray).extract a b)] (wr.alloc (.cells #[.string ((⟨s.toArray⟩ : ByteArray).extract a b)] 9)) by rw [HX.out]; exact src_one wr ((s.drop a).take (b - a)))
                have HBA := Lib.hid (show Below w.heap.size w (wr.alloc (.cells #[.string ((⟨s.toArray⟩ : ByteArray).extract a b)] 9)) from HBR.out.alloc HBR.out.size _)
                have HL1 := Lib.hid (show (acc.length + 1) * 16 ≤ 140737488355328 by have := HAC.out; have := HAS.out; have := HLL.out; omega)
                have HL2 := Lib.hid (show acc.length + 1 ≤ maxLen by have := HAC.out; have := HAS.out; have := HLL.out; unfold maxLen; omega)
                have HZ := Lib.hid HBA.out.size
                clear hn
                go_wp2_with (first | (go_at_call 78; refine (CN.out _).mono ?_; rintro e w' ⟨rfl, rfl⟩) | (at_builtin; refine wpList_appendRB rfl _ _ _ _ rfl lsrt (by decide) w.heap.size _ rfl acc.length (L6.sv acc) HOWA.out _ rfl 1 [.string ((⟨s.toArray⟩ : ByteArray).extract a b)] HSA.out HL1.out HL2.out HZ.out ?_; intro v3 w3 ho3 hb3 _ _; have HO3 := Lib.hid ho3; have HB3 := Lib.hid (HBA.out.trans hb3); obtain ⟨A3, c3, rfl⟩ := (Rd.of_own ho3).form; clear ho3 hb3))
                go_roundw
                case rel =>
                  refine ⟨acc ++ [(s.drop a).take (b - a)], b, rfl, HBS.out, ?_, HWN.out, by have := HAC.out; have := HAB.out; simp; omega, HB3.out⟩
                  have := HO3.out
                  rw [HX.out] at this
                  unfold OwnS
                  rw [L6.sv_append, List.length_append]
                  exact this
                case measure => have := HAB.out; have := HBS.out; simp; omega
              · rw [hn] at CN
                have HR := Lib.hid (show L6.wordsOf s = some acc from by rw [HW.out, HNX.out, hn, if_pos rfl]; simp)
                clear hn
                go_wp2_with (first | (go_at_call 78; refine (CN.out _).mono ?_; rintro e w' ⟨rfl, rfl⟩))
                go_ret2
                rw [HR.out]
                exact ⟨_, rfl, HOW.out, HBR.out⟩
      -- a blank at a
      · have HBL := Lib.hid (show L6.blank (s.getD a 0) = true from by rw [← HGA.out]; exact hb)
        rw [hb] at CBA
        have HWN := Lib.hid (show L6.wordsOf s = (L6.wordsOf (s.drop (a + 1))).map (acc ++ ·) from by rw [HW.out, L6.wordsOf_blank hlt HBL.out])
        clear hb
        go_wp2_with (go_at_call 77; refine (CBA.out _).mono ?_; rintro e w' ⟨rfl, rfl⟩)
        go_roundw
        case rel => exact ⟨acc, a + 1, by simp, hlt, HOW.out, HWN.out, by have := HAC.out; omega, HBR.out⟩
        case measure => simp; omega
    · have hge : (s.length : Int) ≤ (a : Int) := by omega
      have HR := Lib.hid (show L6.wordsOf s = some acc from by rw [HW.out, L6.wordsOf_end (by omega)]; simp)
      go_wp2_with fail
      go_ret2
      rw [HR.out]
      exact ⟨_, rfl, HOW.out, HBR.out⟩
end Go.Proofs.YtbkgpnilodjdiaaDoor
