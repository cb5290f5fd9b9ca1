/- The document's side: split. -/
import Derived.Test.YtbkgpnilodjdiaaDoorL6Cut
namespace Go.Proofs.YtbkgpnilodjdiaaDoor
open Go.RowKit Kit
set_option linter.unusedVariables false
set_option linter.unusedSimpArgs false

theorem L6.split_free : ∀ {p t : List UInt8}, 10 ∉ p → L6.split (p ++ 10 :: t) = p :: L6.split t
  | [], t, _ => by simp [L6.split_cons]
  | c :: p, t, h => by
    have hc : c ≠ 10 := fun e => h (by simp [e])
    have hp : 10 ∉ p := fun e => h (by simp [e])
    rw [List.cons_append, L6.split_cons, if_neg hc, L6.split_free hp]
theorem L6.split_last : ∀ {p : List UInt8}, 10 ∉ p → p ≠ [] → L6.split p = [p]
  | [], _, h => absurd rfl h
  | c :: p, h, _ => by
    have hc : c ≠ 10 := fun e => h (by simp [e])
    have hp : 10 ∉ p := fun e => h (by simp [e])
    rw [L6.split_cons, if_neg hc]
    cases p with
    | nil => rfl
    | cons d q => rw [L6.split_last hp (by simp)]
/-- The piece from a on up to b holds no end of line; at b there is one. -/
theorem L6.split_step {s : List UInt8} {a b : Nat} (hab : a ≤ b) (hb : b < s.length) (h : 10 ∉ (s.drop a).take (b - a)) (h10 : s.getD b 0 = 10) : L6.split (s.drop a) = (s.drop a).take (b - a) :: L6.split (s.drop (b + 1)) := by
  have e : s.drop a = (s.drop a).take (b - a) ++ 10 :: s.drop (b + 1) := by
    have h1 : s.drop b = 10 :: s.drop (b + 1) := by
      rw [List.drop_eq_getElem_cons hb]
      congr 1
      rw [← h10]
      simp [List.getD, hb]
    have h2 : s.drop b = (s.drop a).drop (b - a) := by rw [List.drop_drop]; congr 1; omega
    rw [← h1, h2, List.take_append_drop]
  conv => lhs; rw [e]
  exact L6.split_free h
theorem L6.free_more {s : List UInt8} {a b : Nat} (hab : a ≤ b) (hb : b < s.length) (h : 10 ∉ (s.drop a).take (b - a)) (h10 : s.getD b 0 ≠ 10) : 10 ∉ (s.drop a).take (b + 1 - a) := by
  have e : (s.drop a).take (b + 1 - a) = (s.drop a).take (b - a) ++ [s.getD b 0] := by
    rw [show b + 1 - a = (b - a) + 1 by omega, List.take_add_one]
    congr 1
    rw [List.getElem?_drop, show a + (b - a) = b by omega, List.getElem?_eq_getElem hb]
    simp [List.getD, hb]
  rw [e]
  intro hm
  rcases List.mem_append.1 hm with hm | hm
  · exact h hm
  · simp at hm; exact h10 hm.symm
set_option maxHeartbeats 1000000 in
theorem rsplit_any (s : List UInt8) (w : World) (hs : s.length ≤ 1000000000) : Calls Tryd.prog 40 #[.string ⟨s.toArray⟩] w fun e w' => ∃ v, e = .returned v ∧ OwnS w.heap.size w' v (L6.split s) ∧ Below w.heap.size w w' := by
  have HS := Lib.hid hs
  go_enter Tryd.func40, Tryd.ntmps40
  go_wp2_with fail
  go_loopw [3, 4, 5] (fun v f i wr => ∃ (acc : List (List UInt8)) (a b : Nat), f = .int .i64 (a : Int) ∧ i = .int .i64 (b : Int) ∧ a ≤ s.length ∧ a ≤ b ∧ b ≤ s.length ∧ OwnS w.heap.size wr v acc ∧ L6.split s = acc ++ L6.split (s.drop a) ∧ 10 ∉ (s.drop a).take (b - a) ∧ acc.length ≤ a ∧ Below w.heap.size w wr) (fun _ _ i _ => match i with | .int _ n => s.length - n.toNat | _ => 0)
  case atStart => exact ⟨[], 0, 0, rfl, rfl, by simp, by simp, by simp, OwnS.nil _ _, by simp, by simp, by simp, Below.refl _ _⟩
  case round =>
    obtain ⟨acc, a, b, rfl, rfl, has, hab, hbs, hown, hsp, hfr, hacc, hbr⟩ := hrel
    have HSP := Lib.hid hsp
    have HFR := Lib.hid hfr
    have HOW := Lib.hid hown
    have HBR := Lib.hid hbr
    have HAC := Lib.hid hacc
    have HAB := Lib.hid hab
    have HAS := Lib.hid has
    clear hsp hfr hbr hacc hs
    obtain ⟨A, cap, rfl⟩ := hown.form
    clear hown
    by_cases hlt : b < s.length
    · have hlt' : (b : Int) < (s.length : Int) := by omega
      have hg := L6.get_data s b hlt
      have hw : IntKind.i64.wrap ((b : Int) + 1) = (b : Int) + 1 := by have := HS.out; go_bits; exact trivial
      have hab' : (a : Int) ≤ (b : Int) := by omega
      by_cases h10 : s.getD b 0 = 10
      · have g10 : (((((⟨s.toArray⟩ : ByteArray)[b]'hlt).toNat : Int)) == 10) = true := by rw [hg, h10]; rfl
        have hx : (⟨s.toArray⟩ : ByteArray).extract a b = ⟨((s.drop a).take (b - a)).toArray⟩ := ext_eq s a b
        have HX := Lib.hid hx
        have HOWA := Lib.hid (show (wr.alloc (.cells #[.string ((⟨s.toArray⟩ : ByteArray).extract a b)] 9)).ownsRow w.heap.size 9 1 (.slice A acc.length cap) acc.length (L6.sv acc) from HOW.out.kept ((Below.refl _ _).alloc (Nat.le_refl _) _))
        have HSA := Lib.hid (show Src Tryd.prog 1 43 (.slice (some ⟨wr.heap.size, 0, none⟩) 1 1) 1 [.string ((⟨s.toArray⟩ : ByteArray).extract a b)] (wr.alloc (.cells #[.string ((⟨s.toArray⟩ : ByteArray).extract a b)] 9)) by rw [hx]; exact src_one wr ((s.drop a).take (b - a)))
        have HBA := Lib.hid (show Below w.heap.size w (wr.alloc (.cells #[.string ((⟨s.toArray⟩ : ByteArray).extract a b)] 9)) from HBR.out.alloc HBR.out.size _)
        clear hx
        have HL1 := Lib.hid (show (acc.length + 1) * 16 ≤ 140737488355328 by have := HAC.out; have := HAS.out; have := HS.out; omega)
        have HL2 := Lib.hid (show acc.length + 1 ≤ maxLen by have := HAC.out; have := HAS.out; have := HS.out; unfold maxLen; omega)
        have HZ := Lib.hid HBA.out.size
        have HB := Lib.hid (L6.split_step hab hlt HFR.out h10)
        clear hg
        go_wp2_with (at_builtin; refine wpList_appendRB rfl _ _ _ _ rfl lsrt (by decide) w.heap.size _ rfl acc.length (L6.sv acc) HOWA.out _ rfl 1 [.string ((⟨s.toArray⟩ : ByteArray).extract a b)] HSA.out HL1.out HL2.out HZ.out ?_; intro v3 w3 ho3 hb3 _ _; have HO3 := Lib.hid ho3; have HB3 := Lib.hid (HBA.out.trans hb3); obtain ⟨A3, c3, rfl⟩ := (Rd.of_own ho3).form; clear ho3 hb3)
        go_roundw
        case rel =>
          refine ⟨acc ++ [(s.drop a).take (b - a)], b + 1, b + 1, by simp, by simp, hlt, Nat.le_refl _, hlt, ?_, ?_, by simp, ?_, HB3.out⟩
          · have := HO3.out
            rw [HX.out] at this
            unfold OwnS
            rw [L6.sv_append, List.length_append]
            exact this
          · rw [HSP.out, HB.out]; simp
          · have := HAC.out; simp; omega
        case measure => simp; omega
      · have g10 : (((((⟨s.toArray⟩ : ByteArray)[b]'hlt).toNat : Int)) == 10) = false := by
          rw [hg, beq_eq_false_iff_ne]
          intro e
          exact h10 (UInt8.toNat_inj.1 (by have : (s.getD b 0).toNat = 10 := by omega
                                           exact this))
        have HFM := Lib.hid (L6.free_more hab hlt HFR.out h10)
        clear hg h10
        go_wp2_with fail
        go_roundw
        case rel => exact ⟨acc, a, b + 1, rfl, by simp, HAS.out, by have := HAB.out; omega, hlt, HOW.out, HSP.out, HFM.out, HAC.out, HBR.out⟩
        case measure => simp; omega
    · have hle : (s.length : Int) ≤ (b : Int) := by omega
      have hbe : b = s.length := by omega
      have HT := Lib.hid (show (s.drop a).take (b - a) = s.drop a from List.take_of_length_le (by simp; omega))
      by_cases ha : a < s.length
      · have ha' : (a : Int) < (s.length : Int) := by omega
        have hx : (⟨s.toArray⟩ : ByteArray).extract a s.length = ⟨(s.drop a).toArray⟩ := by rw [ext_eq, List.take_of_length_le (by simp)]
        have HX := Lib.hid hx
        have HOWA := Lib.hid (show (wr.alloc (.cells #[.string ((⟨s.toArray⟩ : ByteArray).extract a s.length)] 9)).ownsRow w.heap.size 9 1 (.slice A acc.length cap) acc.length (L6.sv acc) from HOW.out.kept ((Below.refl _ _).alloc (Nat.le_refl _) _))
        have HSA := Lib.hid (show Src Tryd.prog 1 43 (.slice (some ⟨wr.heap.size, 0, none⟩) 1 1) 1 [.string ((⟨s.toArray⟩ : ByteArray).extract a s.length)] (wr.alloc (.cells #[.string ((⟨s.toArray⟩ : ByteArray).extract a s.length)] 9)) by rw [hx]; exact src_one wr (s.drop a))
        have HBA := Lib.hid (show Below w.heap.size w (wr.alloc (.cells #[.string ((⟨s.toArray⟩ : ByteArray).extract a s.length)] 9)) from HBR.out.alloc HBR.out.size _)
        have HL1 := Lib.hid (show (acc.length + 1) * 16 ≤ 140737488355328 by have := HAC.out; have := HAS.out; have := HS.out; omega)
        have HL2 := Lib.hid (show acc.length + 1 ≤ maxLen by have := HAC.out; have := HAS.out; have := HS.out; unfold maxLen; omega)
        have HZ := Lib.hid HBA.out.size
        have HR := Lib.hid (show L6.split s = acc ++ [s.drop a] from by
          have h1 := HFR.out
          rw [HT.out] at h1
          rw [HSP.out, L6.split_last h1 (fun e => by have := congrArg List.length e; simp at this; omega)])
        clear hx hbe
        go_wp2_with (at_builtin; refine wpList_appendRB rfl _ _ _ _ rfl lsrt (by decide) w.heap.size _ rfl acc.length (L6.sv acc) HOWA.out _ rfl 1 [.string ((⟨s.toArray⟩ : ByteArray).extract a s.length)] HSA.out HL1.out HL2.out HZ.out ?_; intro v3 w3 ho3 hb3 _ _; have HO3 := Lib.hid ho3; have HB3 := Lib.hid (HBA.out.trans hb3); obtain ⟨A3, c3, rfl⟩ := (Rd.of_own ho3).form; clear ho3 hb3)
        go_ret
        refine ⟨_, rfl, ?_, HB3.out⟩
        have := HO3.out
        rw [HX.out] at this
        rw [HR.out]
        unfold OwnS
        rw [L6.sv_append, List.length_append]
        exact this
      · have ha' : (s.length : Int) ≤ (a : Int) := by omega
        have HR := Lib.hid (show L6.split s = acc from by
          rw [HSP.out, List.drop_of_length_le (by omega)]; simp [L6.split])
        clear hbe
        go_wp2_with fail
        go_ret
        refine ⟨_, rfl, ?_, HBR.out⟩
        rw [HR.out]
        exact HOW.out
end Go.Proofs.YtbkgpnilodjdiaaDoor
