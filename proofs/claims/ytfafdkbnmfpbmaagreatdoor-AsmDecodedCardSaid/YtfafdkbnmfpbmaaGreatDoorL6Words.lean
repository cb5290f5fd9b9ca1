/- The walk of words. -/
import Derived.Test.YtfafdkbnmfpbmaaGreatDoorL6NextW
namespace Go.Proofs.YtfafdkbnmfpbmaaGreatDoor
open Go.RowKit Kit
set_option linter.unusedVariables false
set_option linter.unusedSimpArgs false

theorem lsrt : RowTy Tryz.prog 47 9 1 16 :=
  ⟨Tryz.underlying47, by
    have h : (Tryz.prog.info? 9).map (fun i => (i.zero, i.size, i.bytes)) = some (some (.string ByteArray.empty), 1, 16) := by kernel_rfl
    obtain ⟨i, h1, h2, h3, h4⟩ := info_parts h
    exact ⟨i, _, h1, h2, h3, h4, rfl⟩⟩
/-- Texts as cells. -/
def L6.sv (l : List (List UInt8)) : List Value := l.map fun x => Value.string ⟨x.toArray⟩
theorem L6.sv_length (l : List (List UInt8)) : (L6.sv l).length = l.length := by simp [L6.sv]
theorem L6.sv_append (a b : List (List UInt8)) : L6.sv (a ++ b) = L6.sv a ++ L6.sv b := by simp [L6.sv]
theorem L6.sv_one (l : List (List UInt8)) : ∀ u ∈ L6.sv l, u.oneCell' = true := by
  intro u hu; simp only [L6.sv, List.mem_map] at hu; obtain ⟨_, _, rfl⟩ := hu; rfl
/-- v is a slice of texts of the call's own. -/
def OwnS (base : Nat) (w : World) (v : Value) (l : List (List UInt8)) : Prop := w.ownsRow base 9 1 v l.length (L6.sv l)
theorem OwnS.nil (base : Nat) (w : World) : OwnS base w (.slice none 0 0) [] := World.ownsRow_nil w base 9 1
theorem OwnS.kept {base : Nat} {w w' : World} {v : Value} {l : List (List UInt8)} (h : OwnS base w v l) (hb : Below w.heap.size w w') : OwnS base w' v l := own_kept h hb
theorem OwnS.rebase {base base' : Nat} {w : World} {v : Value} {l : List (List UInt8)} (h : OwnS base w v l) (hb : base' ≤ base) : OwnS base' w v l := own_rebase h hb
theorem OwnS.form {base : Nat} {w : World} {v : Value} {l : List (List UInt8)} (h : OwnS base w v l) : ∃ A c, v = .slice A l.length c := (Rd.of_own h).form
theorem src_one (w : World) (x : List UInt8) : Src Tryz.prog 1 47 (.slice (some ⟨w.heap.size, 0, none⟩) 1 1) 1 [.string ⟨x.toArray⟩] (w.alloc (.cells #[.string ⟨x.toArray⟩] 9)) :=
  Rd.src lsrt (Rd.built (Bk.fresh w _ #[.string ⟨x.toArray⟩]) rfl) (by intro u hu; simp at hu; subst hu; rfl)
theorem L6.note_prefix (l : List UInt8) : Lib.hasPrefix l [47, 47] = L6.note l := by
  unfold L6.note
  match l with
  | [] => rfl
  | [a] => by_cases h : a = 47 <;> simp [Lib.hasPrefix, List.isPrefixOf, h]
  | a :: b :: t =>
    by_cases h : a = 47
    · by_cases h' : b = 47
      · subst h h'; simp [Lib.hasPrefix, List.isPrefixOf]
      · subst h; simp [Lib.hasPrefix, List.isPrefixOf, h', Ne.symm h']
    · simp [Lib.hasPrefix, List.isPrefixOf, h, Ne.symm h]

theorem isDrewN6 {B : Nat} {a w : World} (h : Below B a w) (n : Nat) : Below B a (w.drewN n) := ⟨h.os, h.tape, h.output, h.size, h.block⟩
theorem lret_vb {v v' : Value} {x y : Bool} (h1 : v = v') (h2 : x = y) : Ending.returned (.tuple #[v, .bool x]) = .returned (.tuple #[v', .bool y]) := by rw [h1, h2]
/-- What words hands back. -/
def WordsPost (base : Nat) (w : World) (r : Option (List (List UInt8))) (e : Ending) (w' : World) : Prop :=
  match r with
  | none => e = .returned (.tuple #[.slice none 0 0, .bool false]) ∧ Below base w w'
  | some ws => ∃ v, e = .returned (.tuple #[v, .bool true]) ∧ OwnS base w' v ws ∧ Below base w w'
theorem L6.map_app (acc : List (List UInt8)) (x : List UInt8) (r : Option (List (List UInt8))) : (r.map (x :: ·)).map (acc ++ ·) = r.map ((acc ++ [x]) ++ ·) := by
  cases r <;> simp
set_option maxHeartbeats 1000000 in
theorem lwords_any (l : List UInt8) (w : World) (hl : l.length ≤ 1000000000) : Calls Tryz.prog 127 #[.string ⟨l.toArray⟩] w (WordsPost w.heap.size w (L6.wordsOf l)) := by
  have HLL := Lib.hid (show l.length ≤ 1000000000 from hl)
  go_enter Tryz.func127, Tryz.ntmps127
  go_wp2_with fail
  go_step3
  go_wp2_with fail
  go_step3
  go_wp2_with fail
  go_loopw [0, 4] (fun s v wr => ∃ (m : List UInt8) (acc : List (List UInt8)), s = .string ⟨m.toArray⟩ ∧ OwnS w.heap.size wr v acc ∧ L6.wordsOf l = (L6.wordsOf m).map (acc ++ ·) ∧ m.length + acc.length ≤ l.length ∧ Below w.heap.size w wr) (fun s _ _ => match s with | .string t => t.size | _ => 0)
  case atStart => exact ⟨l, [], rfl, OwnS.nil _ _, by cases L6.wordsOf l <;> simp, by simp, Below.refl _ _⟩
  case round =>
    obtain ⟨m, acc, rfl, hown, hw, hml, hbr⟩ := hrel
    have HOW := Lib.hid hown
    have HW := Lib.hid hw
    have HML := Lib.hid hml
    have HBR := Lib.hid hbr
    clear hw hml hbr
    have HB := Lib.hid (lbare_any m wr (by have := HML.out; have := HLL.out; unfold maxLen; omega))
    have hbl := L6.bare_len m
    cases hb : L6.bare m with
    | nil =>
      rw [hb] at HB
      have HR := Lib.hid (show L6.wordsOf l = some acc by rw [HW.out, L6.wordsOf_bare m hb]; simp)
      obtain ⟨A, c, rfl⟩ := hown.form
      clear hb hown
      go_wp2_with (go_at_call 191; refine HB.out.mono ?_; rintro e w' ⟨rfl, rfl⟩)
      rw [Exit.noGoto_ret]
      go_ret2
      rw [HR.out]
      exact ⟨_, rfl, HOW.out, HBR.out⟩
    | cons c t =>
      rw [hb] at HB hbl
      have HN := Lib.hid (fun W => lnext_any c t W (by have := HML.out; have := HLL.out; unfold maxLen; omega))
      have HWN := Lib.hid (L6.wordsOf_next m c t hb)
      have HLT := Lib.hid (L6.next_len c t (L6.bare_head hb))
      have HBL := Lib.hid hbl
      clear hb hbl
      generalize L6.next (c :: t) = N at *
      obtain ⟨x, r, ok⟩ := N
      dsimp only at HN HWN HLT
      have HP := Lib.hid (fun W => Tryz.strings_HasPrefix ⟨x.toArray⟩ ⟨#[47, 47]⟩ W)
      rw [show Lib.hasPrefix (⟨x.toArray⟩ : ByteArray).data.toList (⟨#[47, 47]⟩ : ByteArray).data.toList = L6.note x from L6.note_prefix x] at HP
      obtain ⟨A, cap, hv⟩ := hown.form
      cases hn : L6.note x
      · rw [hn] at HP HWN
        cases ok
        · have HR := Lib.hid (show L6.wordsOf l = none by rw [HW.out, HWN.out]; simp)
          subst hv
          clear hown hn
          go_wp2_with (first | (go_at_call 191; refine HB.out.mono ?_; rintro e w' ⟨rfl, rfl⟩) | (go_at_call 192; refine (HN.out _).mono ?_; rintro e w' ⟨rfl, k, rfl⟩) | (go_at_call 119; refine (HP.out _).mono ?_; rintro e w' ⟨rfl, rfl⟩))
          rw [Exit.noGoto_ret]
          go_ret2
          rw [HR.out]
          exact ⟨rfl, isDrewN6 HBR.out _⟩
        · have HWL := Lib.hid (show L6.wordsOf l = (L6.wordsOf r).map ((acc ++ [x]) ++ ·) by
            rw [HW.out, HWN.out, if_neg (by decide), if_pos rfl]; exact L6.map_app acc x _)
          subst hv
          have HOWK := Lib.hid (show ∀ k : Nat, ((wr.drewN k).alloc (.cells #[.string ⟨x.toArray⟩] 9)).ownsRow w.heap.size 9 1 (.slice A acc.length cap) acc.length (L6.sv acc) from fun k =>
            (HOW.out.kept (isDrewN6 (Below.refl _ _) k)).kept ((Below.refl _ _).alloc (Nat.le_refl _) _))
          have HSK := Lib.hid (show ∀ k : Nat, Src Tryz.prog 1 47 (.slice (some ⟨wr.heap.size, 0, none⟩) 1 1) 1 [.string ⟨x.toArray⟩] ((wr.drewN k).alloc (.cells #[.string ⟨x.toArray⟩] 9)) from fun k => src_one (wr.drewN k) x)
          have HL1 := Lib.hid (show (acc.length + 1) * 16 ≤ 140737488355328 by have := HML.out; have := HLL.out; omega)
          have HL2 := Lib.hid (show acc.length + 1 ≤ maxLen by have := HML.out; have := HLL.out; unfold maxLen; omega)
          have HZ := Lib.hid (show ∀ k : Nat, w.heap.size ≤ ((wr.drewN k).alloc (.cells #[.string ⟨x.toArray⟩] 9)).heap.size from fun k => by
            have h1 := HBR.out.size
            have h2 : ((wr.drewN k).alloc (.cells #[.string ⟨x.toArray⟩] 9)).heap.size = wr.heap.size + 1 := by rw [World.size_alloc]; rfl
            omega)
          have HBK := Lib.hid (show ∀ k : Nat, Below w.heap.size w ((wr.drewN k).alloc (.cells #[.string ⟨x.toArray⟩] 9)) from fun k => (isDrewN6 HBR.out k).alloc HBR.out.size _)
          clear hown hn
          go_wp2_with (first | (go_at_call 191; refine HB.out.mono ?_; rintro e w' ⟨rfl, rfl⟩) | (go_at_call 192; refine (HN.out _).mono ?_; rintro e w' ⟨rfl, k, rfl⟩) | (go_at_call 119; refine (HP.out _).mono ?_; rintro e w' ⟨rfl, rfl⟩) | (at_builtin; refine wpList_appendRB rfl _ _ _ _ rfl lsrt (by decide) w.heap.size _ rfl acc.length (L6.sv acc) (HOWK.out _) _ rfl 1 [.string ⟨x.toArray⟩] (HSK.out _) HL1.out HL2.out (HZ.out _) ?_; intro v3 w3 ho3 hb3 _ _; have HO3 := Lib.hid ho3; have HB3 := Lib.hid ((HBK.out _).trans hb3); obtain ⟨A3, c3, rfl⟩ := (Rd.of_own ho3).form; clear ho3 hb3))
          go_roundw
          case rel =>
            refine ⟨r, acc ++ [x], rfl, ?_, HWL.out, ?_, HB3.out⟩
            · unfold OwnS
              rw [L6.sv_append, List.length_append]
              exact HO3.out
            · have := HML.out; have := HLT.out; have := HBL.out; simp at *; omega
          case measure => have := HLT.out; have := HBL.out; simp [ByteArray.size] at *; omega
      · rw [hn] at HP HWN
        have HR := Lib.hid (show L6.wordsOf l = some acc by rw [HW.out, HWN.out]; simp)
        subst hv
        clear hown hn
        go_wp2_with (first | (go_at_call 191; refine HB.out.mono ?_; rintro e w' ⟨rfl, rfl⟩) | (go_at_call 192; refine (HN.out _).mono ?_; rintro e w' ⟨rfl, k, rfl⟩) | (go_at_call 119; refine (HP.out _).mono ?_; rintro e w' ⟨rfl, rfl⟩))
        rw [Exit.noGoto_ret]
        go_ret2
        rw [HR.out]
        exact ⟨_, rfl, HOW.out.kept (isDrewN6 (Below.refl _ _) _), isDrewN6 HBR.out _⟩
end Go.Proofs.YtfafdkbnmfpbmaaGreatDoor
