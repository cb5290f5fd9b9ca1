/- Texts joined, what is not reached left out. -/
import Derived.Test.YtpcpaoeajcjoiaaGreatDoorIC
import Derived.Test.YtpcpaoeajcjoiaaGreatDoorQBtRField
import Derived.Test.YtpcpaoeajcjoiaaGreatDoorQIsRefW
import Derived.Deep.DeepCutAuto
/- Walks of the document's functs, opcode, bits. -/
namespace Go.Proofs.YtpcpaoeajcjoiaaGreatDoor
open Go.RowKit
set_option linter.unusedVariables false
set_option linter.unusedSimpArgs false

theorem rbits_any (z f m : Int) (w : World) : Calls Tryz.prog 156 #[.int .i64 z, .int .i64 f, .int .i64 m] w fun e w' => e = .returned (.int .u32 (Bt.fieldV (z % 4294967296).toNat f m)) ∧ w = w' := by
  obtain ⟨A, hA⟩ : ∃ A : Nat, z % 4294967296 = A := ⟨(z % 4294967296).toNat, by omega⟩
  have hlt : A < 4294967296 := by omega
  have HC := Lib.hid (fun W => rfield_v A f m W hlt)
  rw [hA, Int.toNat_natCast]
  clear hlt
  go_enter Tryz.func156, Tryz.ntmps156
  go_wp2_with (go_at_call 227; refine (HC.out _).mono ?_; rintro e w' ⟨rfl, rfl⟩)
  go_ret
  exact ⟨rfl, rfl⟩
/-- The opcode as the document's function tells it. -/
def Is.rcode (n : Nat) : Nat := if (Is.forms.getD n default).shape = 7 then 19 else (Is.forms.getD n default).code
def Is.threes : Array Value := #[.int .u32 0, .int .u32 0, .int .u32 0, .int .u32 0, .int .u32 0, .int .u32 1, .int .u32 4, .int .u32 5, .int .u32 6, .int .u32 7, .int .u32 0, .int .u32 1, .int .u32 2, .int .u32 4, .int .u32 5, .int .u32 0, .int .u32 1, .int .u32 2, .int .u32 0, .int .u32 2, .int .u32 3, .int .u32 4, .int .u32 6, .int .u32 7, .int .u32 1, .int .u32 5, .int .u32 5, .int .u32 0, .int .u32 0, .int .u32 1, .int .u32 2, .int .u32 3, .int .u32 4, .int .u32 5, .int .u32 5, .int .u32 6, .int .u32 7, .int .u32 0, .int .u32 0, .int .u32 0, .int .u32 0, .int .u32 1, .int .u32 2, .int .u32 3, .int .u32 4, .int .u32 5, .int .u32 6, .int .u32 7]
theorem Is.threes_at (n : Nat) (hn : n < 48) : Is.threes[n]? = some (.int .u32 (Is.forms.getD n default).three) :=
  match n, hn with
  | 0, _ => rfl
  | 1, _ => rfl
  | 2, _ => rfl
  | 3, _ => rfl
  | 4, _ => rfl
  | 5, _ => rfl
  | 6, _ => rfl
  | 7, _ => rfl
  | 8, _ => rfl
  | 9, _ => rfl
  | 10, _ => rfl
  | 11, _ => rfl
  | 12, _ => rfl
  | 13, _ => rfl
  | 14, _ => rfl
  | 15, _ => rfl
  | 16, _ => rfl
  | 17, _ => rfl
  | 18, _ => rfl
  | 19, _ => rfl
  | 20, _ => rfl
  | 21, _ => rfl
  | 22, _ => rfl
  | 23, _ => rfl
  | 24, _ => rfl
  | 25, _ => rfl
  | 26, _ => rfl
  | 27, _ => rfl
  | 28, _ => rfl
  | 29, _ => rfl
  | 30, _ => rfl
  | 31, _ => rfl
  | 32, _ => rfl
  | 33, _ => rfl
  | 34, _ => rfl
  | 35, _ => rfl
  | 36, _ => rfl
  | 37, _ => rfl
  | 38, _ => rfl
  | 39, _ => rfl
  | 40, _ => rfl
  | 41, _ => rfl
  | 42, _ => rfl
  | 43, _ => rfl
  | 44, _ => rfl
  | 45, _ => rfl
  | 46, _ => rfl
  | 47, _ => rfl
  | n + 48, h => absurd h (by omega)
theorem Is.seven_of (n : Nat) (hn : n < 48) : (Is.forms.getD n default).seven = if n = 26 ∨ n = 28 ∨ n = 34 then 32 else if 40 ≤ n then 1 else 0 := by
  have : ∀ k : Fin 48, (Is.forms.getD k.val default).seven = if k.val = 26 ∨ k.val = 28 ∨ k.val = 34 then 32 else if 40 ≤ k.val then 1 else 0 := by decide
  exact this ⟨n, hn⟩
theorem ret2u {a a' b b' : Int} (h : a = a') (h' : b = b') : Ending.returned (.tuple #[.int .u32 a, .int .u32 b]) = .returned (.tuple #[.int .u32 a', .int .u32 b']) := by rw [h, h']
set_option maxHeartbeats 2000000 in
theorem rfuncts_any (n : Nat) (hn : n < 48) (w : World) : Calls Tryz.prog 154 #[.int .i64 (n : Int)] w fun e w' => e = .returned (.tuple #[.int .u32 (Is.forms.getD n default).three, .int .u32 (Is.forms.getD n default).seven]) ∧ Below w.heap.size w w' := by
  have HT := Lib.hid (Is.threes_at n hn)
  have HV := Lib.hid (Is.seven_of n hn)
  generalize (Is.forms.getD n default).three = t3 at *
  generalize (Is.forms.getD n default).seven = t7 at *
  have hni : (n : Int) < 48 := by omega
  go_enter Tryz.func154, Tryz.ntmps154
  go_upto_region 1 with fail
  go_cut [4] (fun s4 wx => ∃ g, s4 = .slice (some ⟨g, 0, none⟩) 48 48 ∧ wx.cell? ⟨g, n, none⟩ = some (.int .u32 t3) ∧ Below w.heap.size w wx)
  case first =>
    go_wp2_with fail
    go_meet
    refine ⟨_, rfl, ?_, (Below.refl _ _).alloc (Nat.le_refl _) _⟩
    rw [World.cell?_alloc_at _ _ _ _ rfl]
    exact HT.out
  case rest =>
    obtain ⟨g, rfl, hc, hb⟩ := hcut
    have HB := Lib.hid hb
    clear hb HT
    by_cases h26 : n = 26
    · subst h26
      go_wp2_with fail
      go_ret2
      exact ⟨ret2u rfl (by rw [HV.out]; rfl), HB.out⟩
    · by_cases h28 : n = 28
      · subst h28
        go_wp2_with fail
        go_ret2
        exact ⟨ret2u rfl (by rw [HV.out]; rfl), HB.out⟩
      · by_cases h34 : n = 34
        · subst h34
          go_wp2_with fail
          go_ret2
          exact ⟨ret2u rfl (by rw [HV.out]; rfl), HB.out⟩
        · have g1 : ((n : Int) == 26) = false := by rw [beq_eq_false_iff_ne]; omega
          have g2 : ((n : Int) == 28) = false := by rw [beq_eq_false_iff_ne]; omega
          have g3 : ((n : Int) == 34) = false := by rw [beq_eq_false_iff_ne]; omega
          have hno : ¬ (n = 26 ∨ n = 28 ∨ n = 34) := by omega
          by_cases h40 : 40 ≤ n
          · have HW := Lib.hid (show t7 = 1 by rw [HV.out, if_neg hno, if_pos h40])
            have g4 : (40 : Int) ≤ n := by omega
            clear HV h26 h28 h34 hno h40
            go_wp2_with fail
            go_ret2
            exact ⟨ret2u rfl (by rw [HW.out]; rfl), HB.out⟩
          · have HW := Lib.hid (show t7 = 0 by rw [HV.out, if_neg hno, if_neg h40])
            have g4 : ¬ (40 : Int) ≤ n := by omega
            clear HV h26 h28 h34 hno h40
            go_wp2_with fail
            go_ret2
            exact ⟨ret2u rfl (by rw [HW.out]; rfl), HB.out⟩
theorem Is.rcode_of (n : Nat) (hn : n < 48) : (Is.shape (n : Int) = 0 → Is.rcode n = if n = 0 then 55 else 23) ∧ (Is.shape (n : Int) = 1 → Is.rcode n = 111) ∧ (Is.shape (n : Int) = 3 → Is.rcode n = 99) ∧ (Is.shape (n : Int) = 4 → Is.rcode n = 35) ∧ (Is.shape (n : Int) = 5 → Is.rcode n = 19) ∧
    (Is.shape (n : Int) = 6 → Is.rcode n = 51) ∧ (Is.shape (n : Int) = 8 → Is.rcode n = 15) ∧ (Is.shape (n : Int) = 7 → Is.rcode n = 19 ∧ 15 ≤ n) ∧ (Is.shape (n : Int) = 2 → Is.rcode n = if n = 3 then 103 else if n < 15 then 3 else 19) ∧ Is.shape (n : Int) ≠ -1 ∧ (Is.shape (n : Int) = 0 → n = 0 ∨ n = 1) := by
  have : ∀ k : Fin 48, (Is.shape (k.val : Int) = 0 → Is.rcode k.val = if k.val = 0 then 55 else 23) ∧ (Is.shape (k.val : Int) = 1 → Is.rcode k.val = 111) ∧ (Is.shape (k.val : Int) = 3 → Is.rcode k.val = 99) ∧ (Is.shape (k.val : Int) = 4 → Is.rcode k.val = 35) ∧ (Is.shape (k.val : Int) = 5 → Is.rcode k.val = 19) ∧
    (Is.shape (k.val : Int) = 6 → Is.rcode k.val = 51) ∧ (Is.shape (k.val : Int) = 8 → Is.rcode k.val = 15) ∧ (Is.shape (k.val : Int) = 7 → Is.rcode k.val = 19 ∧ 15 ≤ k.val) ∧ (Is.shape (k.val : Int) = 2 → Is.rcode k.val = if k.val = 3 then 103 else if k.val < 15 then 3 else 19) ∧ Is.shape (k.val : Int) ≠ -1 ∧ (Is.shape (k.val : Int) = 0 → k.val = 0 ∨ k.val = 1) := by decide
  exact this ⟨n, hn⟩
theorem ret_u32 {a a' : Int} (h : a = a') : Ending.returned (.int .u32 a) = .returned (.int .u32 a') := by rw [h]
set_option maxHeartbeats 4000000 in
theorem ropcode_any (n : Nat) (hn : n < 48) (w : World) : Calls Tryz.prog 155 #[.int .i64 (n : Int)] w fun e w' => e = .returned (.int .u32 (Is.rcode n)) ∧ Below w.heap.size w w' := by
  have c := Lib.hid (fun W => shape_ref (n : Int) W)
  have H := Lib.hid (Is.rcode_of n hn)
  rcases Is.shape_cases (n : Int) with h | h | h | h | h | h | h | h | h | h
  · exact absurd h H.out.2.2.2.2.2.2.2.2.2.1
  · have h01 := H.out.2.2.2.2.2.2.2.2.2.2 h
    have HS := Lib.hid (H.out.1 h)
    rw [h] at c
    clear h
    rcases h01 with rfl | rfl
    · clear H hn
      go_enter Tryz.func155, Tryz.ntmps155
      go_wp2_with (go_at_call 145; refine (c.out _).mono ?_; rintro e w' ⟨rfl, rfl⟩)
      go_ret
      exact ⟨ret_u32 (by rw [HS.out]; rfl), (Below.refl _ _).alloc (Nat.le_refl _) _⟩
    · clear H hn
      go_enter Tryz.func155, Tryz.ntmps155
      go_wp2_with (go_at_call 145; refine (c.out _).mono ?_; rintro e w' ⟨rfl, rfl⟩)
      go_ret
      exact ⟨ret_u32 (by rw [HS.out]; rfl), (Below.refl _ _).alloc (Nat.le_refl _) _⟩
  · have HR := Lib.hid (show Is.rcode n = 111 from H.out.2.1 h)
    rw [h] at c
    clear h hn
    clear H
    go_enter Tryz.func155, Tryz.ntmps155
    go_wp2_with (go_at_call 145; refine (c.out _).mono ?_; rintro e w' ⟨rfl, rfl⟩)
    go_ret
    exact ⟨ret_u32 (by rw [HR.out]; rfl), Below.refl _ _⟩
  · have HS := Lib.hid (H.out.2.2.2.2.2.2.2.2.1 h)
    rw [h] at c
    clear h
    by_cases h3 : n = 3
    · subst h3
      have HR := Lib.hid (show Is.rcode 3 = 103 from HS.out)
      clear H
      go_enter Tryz.func155, Tryz.ntmps155
      go_wp2_with (go_at_call 145; refine (c.out _).mono ?_; rintro e w' ⟨rfl, rfl⟩)
      go_ret
      exact ⟨ret_u32 (by rw [HR.out]; rfl), Below.refl _ _⟩
    · have g3 : ((n : Int) == 3) = false := by rw [beq_eq_false_iff_ne]; omega
      by_cases h15 : n < 15
      · have g15 : (n : Int) < 15 := by omega
        have HR := Lib.hid (show Is.rcode n = 3 from by rw [HS.out, if_neg h3, if_pos h15])
        clear HS h3 h15 hn
        clear H
        go_enter Tryz.func155, Tryz.ntmps155
        go_wp2_with (go_at_call 145; refine (c.out _).mono ?_; rintro e w' ⟨rfl, rfl⟩)
        go_ret
        exact ⟨ret_u32 (by rw [HR.out]; rfl), Below.refl _ _⟩
      · have g15 : ¬ (n : Int) < 15 := by omega
        have HR := Lib.hid (show Is.rcode n = 19 from by rw [HS.out, if_neg h3, if_neg h15])
        clear HS h3 h15 hn
        clear H
        go_enter Tryz.func155, Tryz.ntmps155
        go_wp2_with (go_at_call 145; refine (c.out _).mono ?_; rintro e w' ⟨rfl, rfl⟩)
        go_ret
        exact ⟨ret_u32 (by rw [HR.out]; rfl), Below.refl _ _⟩
  · have HR := Lib.hid (show Is.rcode n = 99 from H.out.2.2.1 h)
    rw [h] at c
    clear h hn
    clear H
    go_enter Tryz.func155, Tryz.ntmps155
    go_wp2_with (go_at_call 145; refine (c.out _).mono ?_; rintro e w' ⟨rfl, rfl⟩)
    go_ret
    exact ⟨ret_u32 (by rw [HR.out]; rfl), Below.refl _ _⟩
  · have HR := Lib.hid (show Is.rcode n = 35 from H.out.2.2.2.1 h)
    rw [h] at c
    clear h hn
    clear H
    go_enter Tryz.func155, Tryz.ntmps155
    go_wp2_with (go_at_call 145; refine (c.out _).mono ?_; rintro e w' ⟨rfl, rfl⟩)
    go_ret
    exact ⟨ret_u32 (by rw [HR.out]; rfl), Below.refl _ _⟩
  · have HR := Lib.hid (show Is.rcode n = 19 from H.out.2.2.2.2.1 h)
    rw [h] at c
    clear h hn
    clear H
    go_enter Tryz.func155, Tryz.ntmps155
    go_wp2_with (go_at_call 145; refine (c.out _).mono ?_; rintro e w' ⟨rfl, rfl⟩)
    go_ret
    exact ⟨ret_u32 (by rw [HR.out]; rfl), Below.refl _ _⟩
  · have HR := Lib.hid (show Is.rcode n = 51 from H.out.2.2.2.2.2.1 h)
    rw [h] at c
    clear h hn
    clear H
    go_enter Tryz.func155, Tryz.ntmps155
    go_wp2_with (go_at_call 145; refine (c.out _).mono ?_; rintro e w' ⟨rfl, rfl⟩)
    go_ret
    exact ⟨ret_u32 (by rw [HR.out]; rfl), Below.refl _ _⟩
  · have h15 := (H.out.2.2.2.2.2.2.2.1 h).2
    have g15 : ¬ (n : Int) < 15 := by omega
    have g3 : ((n : Int) == 3) = false := by rw [beq_eq_false_iff_ne]; omega
    have HR := Lib.hid (show Is.rcode n = 19 from (H.out.2.2.2.2.2.2.2.1 h).1)
    rw [h] at c
    clear h hn h15
    clear H
    go_enter Tryz.func155, Tryz.ntmps155
    go_wp2_with (go_at_call 145; refine (c.out _).mono ?_; rintro e w' ⟨rfl, rfl⟩)
    go_ret
    exact ⟨ret_u32 (by rw [HR.out]; rfl), Below.refl _ _⟩
  · have HR := Lib.hid (show Is.rcode n = 15 from H.out.2.2.2.2.2.2.1 h)
    rw [h] at c
    clear h hn
    clear H
    go_enter Tryz.func155, Tryz.ntmps155
    go_wp2_with (go_at_call 145; refine (c.out _).mono ?_; rintro e w' ⟨rfl, rfl⟩)
    go_ret
    exact ⟨ret_u32 (by rw [HR.out]; rfl), Below.refl _ _⟩
end Go.Proofs.YtpcpaoeajcjoiaaGreatDoor
