/- Plain: what is decoded is encoded as the word; what follows for the laws. -/
import Derived.Test.YtijekhdndegdaaaIsBack
namespace Go.Proofs.Ytijekhdndegdaaa
open Go.RowKit
set_option linter.unusedVariables false
set_option linter.unusedSimpArgs false

theorem Is.back {n rd rs1 rs2 : Nat} {imm : Int} (g : Is.Good n rd rs1 rs2 imm) : Is.dec (Is.word n rd rs1 rs2 imm) = (⟨n, rd, rs1, rs2, imm⟩, 0) ∧ Is.word n rd rs1 rs2 imm < 4294967296 ∧ Is.word n rd rs1 rs2 imm % 128 = (Is.form n).code := by
  have hb := Is.form_bd n g.hn
  by_cases h38 : n = 38
  · subst h38
    obtain rfl := g.erd rfl; obtain rfl := g.ers1 rfl; obtain rfl := g.ers2 rfl
    have h1 : (0 : Int) ≤ imm := g.least; have h2 : imm ≤ 0 := g.most
    obtain rfl : imm = 0 := by omega
    decide
  by_cases h39 : n = 39
  · subst h39
    obtain rfl := g.erd rfl; obtain rfl := g.ers1 rfl; obtain rfl := g.ers2 rfl
    have h1 : (0 : Int) ≤ imm := g.least; have h2 : imm ≤ 0 := g.most
    obtain rfl : imm = 0 := by omega
    decide
  have h7 : (Is.form n).shape ≠ 7 := fun k => by rcases (Is.form_empty n g.hn).2.2.1.1 k with k | k <;> omega
  have e : Is.word n rd rs1 rs2 imm = Is.wordS (Is.form n).shape (Is.form n).code (Is.form n).three (Is.form n).seven rd rs1 rs2 (imm % 4294967296).toNat := by rw [Is.word, if_neg h38, if_neg h39]
  obtain ⟨w1, w2, w3, w4, w5, w6⟩ := Is.decS_word (Is.form n).shape (Is.form n).code (Is.form n).three (Is.form n).seven n rd rs1 rs2 imm hb.2.1 hb.2.2.1 hb.2.2.2 g.hrd g.hrs1 g.hrs2 (by have hs8 : (Is.form n).shape ≤ 8 := hb.1; omega) g.least g.most g.even g.empty
  rw [e]
  refine ⟨?_, w3, w2⟩
  have hf := Is.find_form n _ g.hn h38 h39 w2 w4 w5 (fun h => by rw [w6 h]; have := (Is.form_empty n g.hn).2.2.2.1 h; subst this; decide)
  rw [Is.dec, hf, Is.shape_form n g.hn]
  exact w1

/-- What an Op's word has. -/
structure Is.Has (n x : Nat) : Prop where
  hn : n < 48
  code : x % 128 = (Is.form n).code
  three : (Is.form n).shape = 2 ∨ (Is.form n).shape = 3 ∨ (Is.form n).shape = 4 ∨ (Is.form n).shape = 5 ∨ (Is.form n).shape = 6 → x / 4096 % 8 = (Is.form n).three
  seven : (Is.form n).shape = 5 ∨ (Is.form n).shape = 6 → x / 33554432 = (Is.form n).seven
  fence : (Is.form n).shape = 8 → x % 1048576 = 15
  ecall : n = 38 → x = 115
  stop : n = 39 → x = 1048691
theorem Is.find_inv (x : Nat) : Is.find x = -1 ∨ ∃ n : Nat, Is.find x = (n : Int) ∧ Is.Has n x := by
  unfold Is.find
  have ht : x / 4096 % 8 = 0 ∨ x / 4096 % 8 = 1 ∨ x / 4096 % 8 = 2 ∨ x / 4096 % 8 = 3 ∨ x / 4096 % 8 = 4 ∨ x / 4096 % 8 = 5 ∨ x / 4096 % 8 = 6 ∨ x / 4096 % 8 = 7 := by omega
  by_cases h : x % 128 = 55
  · rw [if_pos h]; exact .inr ⟨0, rfl, ⟨by decide, h, fun h => absurd h (by decide), fun h => absurd h (by decide), fun h => absurd h (by decide), fun h => absurd h (by decide), fun h => absurd h (by decide)⟩⟩
  rw [if_neg h]; clear h
  by_cases h : x % 128 = 23
  · rw [if_pos h]; exact .inr ⟨1, rfl, ⟨by decide, h, fun h => absurd h (by decide), fun h => absurd h (by decide), fun h => absurd h (by decide), fun h => absurd h (by decide), fun h => absurd h (by decide)⟩⟩
  rw [if_neg h]; clear h
  by_cases h : x % 128 = 111
  · rw [if_pos h]; exact .inr ⟨2, rfl, ⟨by decide, h, fun h => absurd h (by decide), fun h => absurd h (by decide), fun h => absurd h (by decide), fun h => absurd h (by decide), fun h => absurd h (by decide)⟩⟩
  rw [if_neg h]; clear h
  by_cases h : x % 128 = 103
  · rw [if_pos h]
    rcases ht with t | t | t | t | t | t | t | t <;> rw [t]
    · exact .inr ⟨3, rfl, ⟨by decide, h, fun _ => t, fun h => absurd h (by decide), fun h => absurd h (by decide), fun h => absurd h (by decide), fun h => absurd h (by decide)⟩⟩
    · exact .inl (by decide)
    · exact .inl (by decide)
    · exact .inl (by decide)
    · exact .inl (by decide)
    · exact .inl (by decide)
    · exact .inl (by decide)
    · exact .inl (by decide)
  rw [if_neg h]; clear h
  by_cases h : x % 128 = 99
  · rw [if_pos h]
    rcases ht with t | t | t | t | t | t | t | t <;> rw [t]
    · exact .inr ⟨4, rfl, ⟨by decide, h, fun _ => t, fun h => absurd h (by decide), fun h => absurd h (by decide), fun h => absurd h (by decide), fun h => absurd h (by decide)⟩⟩
    · exact .inr ⟨5, rfl, ⟨by decide, h, fun _ => t, fun h => absurd h (by decide), fun h => absurd h (by decide), fun h => absurd h (by decide), fun h => absurd h (by decide)⟩⟩
    · exact .inl (by decide)
    · exact .inl (by decide)
    · exact .inr ⟨6, rfl, ⟨by decide, h, fun _ => t, fun h => absurd h (by decide), fun h => absurd h (by decide), fun h => absurd h (by decide), fun h => absurd h (by decide)⟩⟩
    · exact .inr ⟨7, rfl, ⟨by decide, h, fun _ => t, fun h => absurd h (by decide), fun h => absurd h (by decide), fun h => absurd h (by decide), fun h => absurd h (by decide)⟩⟩
    · exact .inr ⟨8, rfl, ⟨by decide, h, fun _ => t, fun h => absurd h (by decide), fun h => absurd h (by decide), fun h => absurd h (by decide), fun h => absurd h (by decide)⟩⟩
    · exact .inr ⟨9, rfl, ⟨by decide, h, fun _ => t, fun h => absurd h (by decide), fun h => absurd h (by decide), fun h => absurd h (by decide), fun h => absurd h (by decide)⟩⟩
  rw [if_neg h]; clear h
  by_cases h : x % 128 = 3
  · rw [if_pos h]
    rcases ht with t | t | t | t | t | t | t | t <;> rw [t]
    · exact .inr ⟨10, rfl, ⟨by decide, h, fun _ => t, fun h => absurd h (by decide), fun h => absurd h (by decide), fun h => absurd h (by decide), fun h => absurd h (by decide)⟩⟩
    · exact .inr ⟨11, rfl, ⟨by decide, h, fun _ => t, fun h => absurd h (by decide), fun h => absurd h (by decide), fun h => absurd h (by decide), fun h => absurd h (by decide)⟩⟩
    · exact .inr ⟨12, rfl, ⟨by decide, h, fun _ => t, fun h => absurd h (by decide), fun h => absurd h (by decide), fun h => absurd h (by decide), fun h => absurd h (by decide)⟩⟩
    · exact .inl (by decide)
    · exact .inr ⟨13, rfl, ⟨by decide, h, fun _ => t, fun h => absurd h (by decide), fun h => absurd h (by decide), fun h => absurd h (by decide), fun h => absurd h (by decide)⟩⟩
    · exact .inr ⟨14, rfl, ⟨by decide, h, fun _ => t, fun h => absurd h (by decide), fun h => absurd h (by decide), fun h => absurd h (by decide), fun h => absurd h (by decide)⟩⟩
    · exact .inl (by decide)
    · exact .inl (by decide)
  rw [if_neg h]; clear h
  by_cases h : x % 128 = 35
  · rw [if_pos h]
    rcases ht with t | t | t | t | t | t | t | t <;> rw [t]
    · exact .inr ⟨15, rfl, ⟨by decide, h, fun _ => t, fun h => absurd h (by decide), fun h => absurd h (by decide), fun h => absurd h (by decide), fun h => absurd h (by decide)⟩⟩
    · exact .inr ⟨16, rfl, ⟨by decide, h, fun _ => t, fun h => absurd h (by decide), fun h => absurd h (by decide), fun h => absurd h (by decide), fun h => absurd h (by decide)⟩⟩
    · exact .inr ⟨17, rfl, ⟨by decide, h, fun _ => t, fun h => absurd h (by decide), fun h => absurd h (by decide), fun h => absurd h (by decide), fun h => absurd h (by decide)⟩⟩
    · exact .inl (by decide)
    · exact .inl (by decide)
    · exact .inl (by decide)
    · exact .inl (by decide)
    · exact .inl (by decide)
  rw [if_neg h]; clear h
  by_cases h : x % 128 = 19
  · rw [if_pos h]
    rcases ht with t | t | t | t | t | t | t | t <;> rw [t]
    · refine .inr ⟨18, ?_, ⟨by decide, h, fun _ => t, fun h => absurd h (by decide), fun h => absurd h (by decide), fun h => absurd h (by decide), fun h => absurd h (by decide)⟩⟩; simp [Is.small, Is.one, Is.row_imm]
    · by_cases s0 : x / 33554432 = 0
      · rw [s0]; exact .inr ⟨24, rfl, ⟨by decide, h, fun _ => t, fun _ => s0, fun h => absurd h (by decide), fun h => absurd h (by decide), fun h => absurd h (by decide)⟩⟩
      · left; simp [Is.small, s0, Is.one, Is.row_imm]
    · refine .inr ⟨19, ?_, ⟨by decide, h, fun _ => t, fun h => absurd h (by decide), fun h => absurd h (by decide), fun h => absurd h (by decide), fun h => absurd h (by decide)⟩⟩; simp [Is.small, Is.one, Is.row_imm]
    · refine .inr ⟨20, ?_, ⟨by decide, h, fun _ => t, fun h => absurd h (by decide), fun h => absurd h (by decide), fun h => absurd h (by decide), fun h => absurd h (by decide)⟩⟩; simp [Is.small, Is.one, Is.row_imm]
    · refine .inr ⟨21, ?_, ⟨by decide, h, fun _ => t, fun h => absurd h (by decide), fun h => absurd h (by decide), fun h => absurd h (by decide), fun h => absurd h (by decide)⟩⟩; simp [Is.small, Is.one, Is.row_imm]
    · by_cases s0 : x / 33554432 = 0
      · rw [s0]; exact .inr ⟨25, rfl, ⟨by decide, h, fun _ => t, fun _ => s0, fun h => absurd h (by decide), fun h => absurd h (by decide), fun h => absurd h (by decide)⟩⟩
      · by_cases s2 : x / 33554432 = 32
        · rw [s2]; exact .inr ⟨26, rfl, ⟨by decide, h, fun _ => t, fun _ => s2, fun h => absurd h (by decide), fun h => absurd h (by decide), fun h => absurd h (by decide)⟩⟩
        · left; simp [Is.small, s0, s2, Is.one, Is.row_imm]
    · refine .inr ⟨22, ?_, ⟨by decide, h, fun _ => t, fun h => absurd h (by decide), fun h => absurd h (by decide), fun h => absurd h (by decide), fun h => absurd h (by decide)⟩⟩; simp [Is.small, Is.one, Is.row_imm]
    · refine .inr ⟨23, ?_, ⟨by decide, h, fun _ => t, fun h => absurd h (by decide), fun h => absurd h (by decide), fun h => absurd h (by decide), fun h => absurd h (by decide)⟩⟩; simp [Is.small, Is.one, Is.row_imm]
  rw [if_neg h]; clear h
  by_cases h : x % 128 = 51
  · rw [if_pos h]
    by_cases s0 : x / 33554432 = 0
    · rw [s0]; rcases ht with t | t | t | t | t | t | t | t <;> rw [t]
      · exact .inr ⟨27, rfl, ⟨by decide, h, fun _ => t, fun _ => s0, fun h => absurd h (by decide), fun h => absurd h (by decide), fun h => absurd h (by decide)⟩⟩
      · exact .inr ⟨29, rfl, ⟨by decide, h, fun _ => t, fun _ => s0, fun h => absurd h (by decide), fun h => absurd h (by decide), fun h => absurd h (by decide)⟩⟩
      · exact .inr ⟨30, rfl, ⟨by decide, h, fun _ => t, fun _ => s0, fun h => absurd h (by decide), fun h => absurd h (by decide), fun h => absurd h (by decide)⟩⟩
      · exact .inr ⟨31, rfl, ⟨by decide, h, fun _ => t, fun _ => s0, fun h => absurd h (by decide), fun h => absurd h (by decide), fun h => absurd h (by decide)⟩⟩
      · exact .inr ⟨32, rfl, ⟨by decide, h, fun _ => t, fun _ => s0, fun h => absurd h (by decide), fun h => absurd h (by decide), fun h => absurd h (by decide)⟩⟩
      · exact .inr ⟨33, rfl, ⟨by decide, h, fun _ => t, fun _ => s0, fun h => absurd h (by decide), fun h => absurd h (by decide), fun h => absurd h (by decide)⟩⟩
      · exact .inr ⟨35, rfl, ⟨by decide, h, fun _ => t, fun _ => s0, fun h => absurd h (by decide), fun h => absurd h (by decide), fun h => absurd h (by decide)⟩⟩
      · exact .inr ⟨36, rfl, ⟨by decide, h, fun _ => t, fun _ => s0, fun h => absurd h (by decide), fun h => absurd h (by decide), fun h => absurd h (by decide)⟩⟩
    by_cases s1 : x / 33554432 = 1
    · rw [s1]; rcases ht with t | t | t | t | t | t | t | t <;> rw [t]
      · exact .inr ⟨40, rfl, ⟨by decide, h, fun _ => t, fun _ => s1, fun h => absurd h (by decide), fun h => absurd h (by decide), fun h => absurd h (by decide)⟩⟩
      · exact .inr ⟨41, rfl, ⟨by decide, h, fun _ => t, fun _ => s1, fun h => absurd h (by decide), fun h => absurd h (by decide), fun h => absurd h (by decide)⟩⟩
      · exact .inr ⟨42, rfl, ⟨by decide, h, fun _ => t, fun _ => s1, fun h => absurd h (by decide), fun h => absurd h (by decide), fun h => absurd h (by decide)⟩⟩
      · exact .inr ⟨43, rfl, ⟨by decide, h, fun _ => t, fun _ => s1, fun h => absurd h (by decide), fun h => absurd h (by decide), fun h => absurd h (by decide)⟩⟩
      · exact .inr ⟨44, rfl, ⟨by decide, h, fun _ => t, fun _ => s1, fun h => absurd h (by decide), fun h => absurd h (by decide), fun h => absurd h (by decide)⟩⟩
      · exact .inr ⟨45, rfl, ⟨by decide, h, fun _ => t, fun _ => s1, fun h => absurd h (by decide), fun h => absurd h (by decide), fun h => absurd h (by decide)⟩⟩
      · exact .inr ⟨46, rfl, ⟨by decide, h, fun _ => t, fun _ => s1, fun h => absurd h (by decide), fun h => absurd h (by decide), fun h => absurd h (by decide)⟩⟩
      · exact .inr ⟨47, rfl, ⟨by decide, h, fun _ => t, fun _ => s1, fun h => absurd h (by decide), fun h => absurd h (by decide), fun h => absurd h (by decide)⟩⟩
    by_cases s2 : x / 33554432 = 32
    · rw [s2]; rcases ht with t | t | t | t | t | t | t | t <;> rw [t]
      · exact .inr ⟨28, rfl, ⟨by decide, h, fun _ => t, fun _ => s2, fun h => absurd h (by decide), fun h => absurd h (by decide), fun h => absurd h (by decide)⟩⟩
      · exact .inl (by decide)
      · exact .inl (by decide)
      · exact .inl (by decide)
      · exact .inl (by decide)
      · exact .inr ⟨34, rfl, ⟨by decide, h, fun _ => t, fun _ => s2, fun h => absurd h (by decide), fun h => absurd h (by decide), fun h => absurd h (by decide)⟩⟩
      · exact .inl (by decide)
      · exact .inl (by decide)
    left; simp [Is.alu, s0, s1, s2]
  rw [if_neg h]; clear h
  by_cases h : x % 128 = 15
  · rw [if_pos h]
    by_cases y : x % 1048576 = 15
    · rw [if_pos y]; exact .inr ⟨37, rfl, ⟨by decide, h, fun h => absurd h (by decide), fun h => absurd h (by decide), fun _ => y, fun h => absurd h (by decide), fun h => absurd h (by decide)⟩⟩
    · rw [if_neg y]; exact .inl rfl
  rw [if_neg h]; clear h
  by_cases h : x % 128 = 115
  · rw [if_pos h]
    by_cases y : x = 115
    · rw [if_pos y]; exact .inr ⟨38, rfl, ⟨by decide, h, fun h => absurd h (by decide), fun h => absurd h (by decide), fun h => absurd h (by decide), fun _ => y, fun h => absurd h (by decide)⟩⟩
    rw [if_neg y]
    by_cases z : x = 1048691
    · rw [if_pos z]; exact .inr ⟨39, rfl, ⟨by decide, h, fun h => absurd h (by decide), fun h => absurd h (by decide), fun h => absurd h (by decide), fun h => absurd h (by decide), fun _ => z⟩⟩
    · rw [if_neg z]; exact .inl rfl
  rw [if_neg h]; exact .inl rfl

theorem Is.signed_bits (J k : Nat) (hk : k = 12 ∨ k = 13 ∨ k = 21) (hJ : J < 2 ^ k) : -(2 ^ (k - 1) : Nat) ≤ Bt.sgn (Bt.sext J k) ∧ Bt.sgn (Bt.sext J k) < (2 ^ (k - 1) : Nat) ∧ (Bt.sgn (Bt.sext J k) % 4294967296).toNat % 2 ^ k = J := by
  rcases hk with rfl | rfl | rfl <;>
    (simp only [Nat.reduceSub, Nat.reducePow] at *; unfold Bt.sext Bt.sgn; simp only [Nat.reduceSub, Nat.reducePow]; (repeat' split) <;> omega)
theorem Is.even_bits (z : Int) (k J : Nat) (hk : k = 13 ∨ k = 21) (h : (z % 4294967296).toNat % 2 ^ k = J) (hJ : J % 2 = 0) : z % 2 = 0 := by
  rcases hk with rfl | rfl <;> (simp only [Nat.reducePow] at h; omega)
theorem Is.rebuild1 (x A code : Nat) (hx : x < 4294967296) (hc : x % 128 = code) (hA : A % 2097152 = Is.jv x) : code + x / 128 % 32 * 128 + A / 4096 % 256 * 4096 + A / 2048 % 2 * 1048576 + A / 2 % 1024 * 2097152 + A / 1048576 % 2 * 2147483648 = x := by
  unfold Is.jv at hA
  have d1 : x / 128 = x / 128 % 32 + 32 * (x / 4096) := by omega
  have d2 : x / 4096 = x / 4096 % 256 + 256 * (x / 1048576) := by omega
  have d3 : x / 1048576 = x / 1048576 % 2 + 2 * (x / 2097152) := by omega
  have d4 : x / 2097152 = x / 2097152 % 1024 + 1024 * (x / 2147483648) := by omega
  have d0 : x = code + 128 * (x / 128) := by omega
  have b1 : x / 2097152 % 1024 < 1024 := Nat.mod_lt _ (by omega)
  have b2 : x / 1048576 % 2 < 2 := Nat.mod_lt _ (by omega)
  have b3 : x / 4096 % 256 < 256 := Nat.mod_lt _ (by omega)
  have b4 : x / 2147483648 < 2 := by omega
  generalize x / 2097152 % 1024 = R at *
  generalize x / 1048576 % 2 = Q at *
  generalize x / 4096 % 256 = P at *
  generalize x / 2147483648 = S at *
  generalize x / 128 % 32 = rd at *
  generalize x / 128 = y1 at *
  generalize x / 4096 = y2 at *
  generalize x / 1048576 = y3 at *
  generalize x / 2097152 = y4 at *
  clear hc hx
  have k1 : A % 2097152 = A / 1048576 % 2 * 1048576 + A % 1048576 := by omega
  have k2 : A % 1048576 = A / 4096 % 256 * 4096 + A % 4096 := by omega
  have k3 : A % 4096 = A / 2048 % 2 * 2048 + A % 2048 := by omega
  have k4 : A % 2048 = A / 2 % 1024 * 2 + A % 2 := by omega
  have l1 : A / 1048576 % 2 < 2 := Nat.mod_lt _ (by omega)
  have l2 : A / 4096 % 256 < 256 := Nat.mod_lt _ (by omega)
  have l3 : A / 2048 % 2 < 2 := Nat.mod_lt _ (by omega)
  have l4 : A / 2 % 1024 < 1024 := Nat.mod_lt _ (by omega)
  have l5 : A % 2 < 2 := Nat.mod_lt _ (by omega)
  rw [k1, k2, k3, k4] at hA
  clear k1 k2 k3 k4
  generalize A / 1048576 % 2 = a1 at *
  generalize A / 4096 % 256 = a2 at *
  generalize A / 2048 % 2 = a3 at *
  generalize A / 2 % 1024 = a4 at *
  generalize A % 2 = a5 at *
  have e1 : a1 = S := by omega
  have e2 : a2 = P := by omega
  have e3 : a3 = Q := by omega
  have e4 : a4 = R := by omega
  subst e1 e2 e3 e4
  omega
theorem Is.rebuild3 (x A code three : Nat) (hx : x < 4294967296) (hc : x % 128 = code) (h3 : x / 4096 % 8 = three) (hA : A % 8192 = Is.bv x) :
    code + A / 2048 % 2 * 128 + A / 2 % 16 * 256 + three * 4096 + x / 32768 % 32 * 32768 + x / 1048576 % 32 * 1048576 + A / 32 % 64 * 33554432 + A / 4096 % 2 * 2147483648 = x := by
  unfold Is.bv at hA
  have d0 : x = code + 128 * (x / 128) := by omega
  have d1 : x / 128 = x / 128 % 2 + 2 * (x / 256) := by omega
  have d2 : x / 256 = x / 256 % 16 + 16 * (x / 4096) := by omega
  have d3 : x / 4096 = x / 4096 % 8 + 8 * (x / 32768) := by omega
  have d4 : x / 32768 = x / 32768 % 32 + 32 * (x / 1048576) := by omega
  have d5 : x / 1048576 = x / 1048576 % 32 + 32 * (x / 33554432) := by omega
  have d6 : x / 33554432 = x / 33554432 % 64 + 64 * (x / 2147483648) := by omega
  have b1 : x / 256 % 16 < 16 := Nat.mod_lt _ (by omega)
  have b2 : x / 33554432 % 64 < 64 := Nat.mod_lt _ (by omega)
  have b3 : x / 128 % 2 < 2 := Nat.mod_lt _ (by omega)
  have b4 : x / 2147483648 < 2 := by omega
  rw [h3] at d3
  clear h3
  generalize x / 256 % 16 = Q at *
  generalize x / 33554432 % 64 = R at *
  generalize x / 128 % 2 = P at *
  generalize x / 2147483648 = S at *
  generalize x / 32768 % 32 = r1 at *
  generalize x / 1048576 % 32 = r2 at *
  generalize x / 128 = y1 at *
  generalize x / 256 = y2 at *
  generalize x / 4096 = y3 at *
  generalize x / 32768 = y4 at *
  generalize x / 1048576 = y5 at *
  generalize x / 33554432 = y6 at *
  clear hc hx
  have k1 : A % 8192 = A / 4096 % 2 * 4096 + A % 4096 := by omega
  have k2 : A % 4096 = A / 2048 % 2 * 2048 + A % 2048 := by omega
  have k3 : A % 2048 = A / 32 % 64 * 32 + A % 32 := by omega
  have k4 : A % 32 = A / 2 % 16 * 2 + A % 2 := by omega
  have l1 : A / 4096 % 2 < 2 := Nat.mod_lt _ (by omega)
  have l2 : A / 2048 % 2 < 2 := Nat.mod_lt _ (by omega)
  have l3 : A / 32 % 64 < 64 := Nat.mod_lt _ (by omega)
  have l4 : A / 2 % 16 < 16 := Nat.mod_lt _ (by omega)
  have l5 : A % 2 < 2 := Nat.mod_lt _ (by omega)
  rw [k1, k2, k3, k4] at hA
  clear k1 k2 k3 k4
  generalize A / 4096 % 2 = a1 at *
  generalize A / 2048 % 2 = a2 at *
  generalize A / 32 % 64 = a3 at *
  generalize A / 2 % 16 = a4 at *
  generalize A % 2 = a5 at *
  have e1 : a1 = S := by omega
  have e2 : a2 = P := by omega
  have e3 : a3 = R := by omega
  have e4 : a4 = Q := by omega
  subst e1 e2 e3 e4
  omega
theorem Is.rebuild4 (x code three : Nat) (hc : x % 128 = code) (h3 : x / 4096 % 8 = three) :
    code + x / 128 % 32 * 128 + three * 4096 + x / 32768 % 32 * 32768 + x / 1048576 % 32 * 1048576 + x / 33554432 * 33554432 = x := by
  have d0 : x = code + 128 * (x / 128) := by omega
  have d1 : x / 128 = x / 128 % 32 + 32 * (x / 4096) := by omega
  have d3 : x / 4096 = x / 4096 % 8 + 8 * (x / 32768) := by omega
  have d4 : x / 32768 = x / 32768 % 32 + 32 * (x / 1048576) := by omega
  have d5 : x / 1048576 = x / 1048576 % 32 + 32 * (x / 33554432) := by omega
  rw [h3] at d3
  clear h3 hc
  generalize x / 128 % 32 = P at *
  generalize x / 32768 % 32 = r1 at *
  generalize x / 1048576 % 32 = r2 at *
  generalize x / 128 = y1 at *
  generalize x / 4096 = y3 at *
  generalize x / 32768 = y4 at *
  generalize x / 1048576 = y5 at *
  generalize x / 33554432 = y6 at *
  omega
theorem Is.fwd (n x : Nat) (hx : x < 4294967296) (hf : Is.find x = (n : Int)) (h : Is.Has n x) : ∃ (rd rs1 rs2 : Nat) (imm : Int), Is.dec x = (⟨n, rd, rs1, rs2, imm⟩, 0) ∧ Is.Good n rd rs1 rs2 imm ∧ Is.word n rd rs1 rs2 imm = x := by
  have hb := Is.form_bd n h.hn
  have hs8 : (Is.form n).shape ≤ 8 := hb.1
  have emp := Is.form_empty n h.hn
  by_cases h38 : n = 38
  · subst h38
    obtain rfl := h.ecall rfl
    exact ⟨0, 0, 0, 0, by decide, ⟨by decide, by decide, by decide, by decide, by decide, by decide, fun h => absurd h (by decide), fun _ => rfl, fun _ => rfl, fun _ => rfl⟩, by decide⟩
  by_cases h39 : n = 39
  · subst h39
    obtain rfl := h.stop rfl
    exact ⟨0, 0, 0, 0, by decide, ⟨by decide, by decide, by decide, by decide, by decide, by decide, fun h => absurd h (by decide), fun _ => rfl, fun _ => rfl, fun _ => rfl⟩, by decide⟩
  have h7 : (Is.form n).shape ≠ 7 := fun k => by rcases emp.2.2.1.1 k with k | k <;> omega
  have hd : Is.dec x = Is.decS x n ((Is.form n).shape : Int) := by rw [Is.dec, hf, Is.shape_form n h.hn]
  have ew : ∀ rd rs1 rs2 imm, Is.word n rd rs1 rs2 imm = Is.wordS (Is.form n).shape (Is.form n).code (Is.form n).three (Is.form n).seven rd rs1 rs2 (imm % 4294967296).toNat := fun rd rs1 rs2 imm => by rw [Is.word, if_neg h38, if_neg h39]
  have hc := h.code; have ht := h.three; have h7' := h.seven; have hfn := h.fence
  have mk := fun (rd rs1 rs2 : Nat) (imm : Int) => @Is.Good.mk n rd rs1 rs2 imm h.hn
  have m1 : x / 128 % 32 < 32 := Nat.mod_lt _ (by omega)
  have m2 : x / 32768 % 32 < 32 := Nat.mod_lt _ (by omega)
  have m3 : x / 1048576 % 32 < 32 := Nat.mod_lt _ (by omega)
  have e0 := emp.1; have e7 := emp.2.1
  have hs : (Is.form n).shape = 0 ∨ (Is.form n).shape = 1 ∨ (Is.form n).shape = 2 ∨ (Is.form n).shape = 3 ∨ (Is.form n).shape = 4 ∨ (Is.form n).shape = 5 ∨ (Is.form n).shape = 6 ∨ (Is.form n).shape = 8 := by omega
  clear emp h hf hs8 hb
  generalize (Is.form n).shape = s at *
  generalize (Is.form n).code = code at *
  generalize (Is.form n).three = three at *
  generalize (Is.form n).seven = seven at *
  rcases hs with rfl | rfl | rfl | rfl | rfl | rfl | rfl | rfl
  · refine ⟨x / 128 % 32, 0, 0, (x / 4096 : Nat), hd, mk _ _ _ _ m1 (by omega) (by omega) (show (0 : Int) ≤ _ by omega) (show _ ≤ (1048575 : Int) by omega) (fun h => by cases h) (fun h => by cases h) (fun _ => rfl) (fun _ => rfl), ?_⟩
    rw [ew]; simp only [Is.wordS]; omega
  · have hJ : Is.jv x < 2 ^ 21 := by unfold Is.jv; omega
    have hJ2 : Is.jv x % 2 = 0 := by unfold Is.jv; omega
    obtain ⟨a1, a2, a3⟩ := Is.signed_bits (Is.jv x) 21 (by omega) hJ
    have a4 := Is.even_bits _ 21 _ (by omega) a3 hJ2
    refine ⟨x / 128 % 32, 0, 0, Bt.sgn (Bt.sext (Is.jv x) 21), hd, ?_, ?_⟩
    · generalize Bt.sgn (Bt.sext (Is.jv x) 21) = z at *
      simp only [Nat.reduceSub, Nat.reducePow] at a1 a2
      exact mk _ _ _ _ m1 (by omega) (by omega) (show (-1048576 : Int) ≤ _ by omega) (show _ ≤ (1048574 : Int) by omega) (fun _ => a4) (fun h => by cases h) (fun _ => rfl) (fun _ => rfl)
    · rw [ew]; simp only [Is.wordS]; exact Is.rebuild1 x _ code hx hc a3
  · have hJ : x / 1048576 < 2 ^ 12 := by simp only [Nat.reducePow]; omega
    obtain ⟨a1, a2, a3⟩ := Is.signed_bits (x / 1048576) 12 (by omega) hJ
    have t3 := ht (by omega)
    refine ⟨x / 128 % 32, x / 32768 % 32, 0, Bt.sgn (Bt.sext (x / 1048576) 12), hd, ?_, ?_⟩
    · generalize Bt.sgn (Bt.sext (x / 1048576) 12) = z at *
      simp only [Nat.reduceSub, Nat.reducePow] at a1 a2
      exact mk _ _ _ _ m1 m2 (by omega) (show (-2048 : Int) ≤ _ by omega) (show _ ≤ (2047 : Int) by omega) (fun h => by cases h) (fun h => by cases h) (fun h => by cases h) (fun _ => rfl)
    · rw [ew]; simp only [Is.wordS]; simp only [Nat.reducePow] at a3; rw [a3]; omega
  · have hJ : Is.bv x < 2 ^ 13 := by unfold Is.bv; omega
    have hJ2 : Is.bv x % 2 = 0 := by unfold Is.bv; omega
    obtain ⟨a1, a2, a3⟩ := Is.signed_bits (Is.bv x) 13 (by omega) hJ
    have a4 := Is.even_bits _ 13 _ (by omega) a3 hJ2
    have t3 := ht (by omega)
    refine ⟨0, x / 32768 % 32, x / 1048576 % 32, Bt.sgn (Bt.sext (Is.bv x) 13), hd, ?_, ?_⟩
    · generalize Bt.sgn (Bt.sext (Is.bv x) 13) = z at *
      simp only [Nat.reduceSub, Nat.reducePow] at a1 a2
      exact mk _ _ _ _ (by omega) m2 m3 (show (-4096 : Int) ≤ _ by omega) (show _ ≤ (4094 : Int) by omega) (fun _ => a4) (fun _ => rfl) (fun h => by cases h) (fun h => by cases h)
    · rw [ew]; simp only [Is.wordS]; exact Is.rebuild3 x _ code three hx hc t3 a3
  · have hJ : Is.sv x < 2 ^ 12 := by unfold Is.sv; simp only [Nat.reducePow]; omega
    obtain ⟨a1, a2, a3⟩ := Is.signed_bits (Is.sv x) 12 (by omega) hJ
    have t3 := ht (by omega)
    refine ⟨0, x / 32768 % 32, x / 1048576 % 32, Bt.sgn (Bt.sext (Is.sv x) 12), hd, ?_, ?_⟩
    · generalize Bt.sgn (Bt.sext (Is.sv x) 12) = z at *
      simp only [Nat.reduceSub, Nat.reducePow] at a1 a2
      exact mk _ _ _ _ (by omega) m2 m3 (show (-2048 : Int) ≤ _ by omega) (show _ ≤ (2047 : Int) by omega) (fun h => by cases h) (fun _ => rfl) (fun h => by cases h) (fun h => by cases h)
    · rw [ew]; simp only [Is.wordS]; simp only [Nat.reducePow] at a3
      generalize (Bt.sgn (Bt.sext (Is.sv x) 12) % 4294967296).toNat = A at *
      unfold Is.sv at a3
      have e1 : A % 32 = x / 128 % 32 := by omega
      have e2 : A / 32 % 128 = x / 33554432 := by omega
      rw [e1, e2]; exact Is.rebuild4 x code three hc t3
  · have t3 := ht (by omega); have t7 := h7' (by omega)
    refine ⟨x / 128 % 32, x / 32768 % 32, 0, (x / 1048576 % 32 : Nat), hd, mk _ _ _ _ m1 m2 (by omega) (show (0 : Int) ≤ _ by omega) (show _ ≤ (31 : Int) by omega) (fun h => by cases h) (fun h => by cases h) (fun h => by cases h) (fun _ => rfl), ?_⟩
    rw [ew]; simp only [Is.wordS]; omega
  · have t3 := ht (by omega); have t7 := h7' (by omega)
    refine ⟨x / 128 % 32, x / 32768 % 32, x / 1048576 % 32, 0, hd, mk _ _ _ _ m1 m2 m3 (show (0 : Int) ≤ 0 by omega) (show 0 ≤ (0 : Int) by omega) (fun h => by cases h) (fun h => by cases h) (fun h => by cases h) (fun h => by cases h), ?_⟩
    rw [ew]; simp only [Is.wordS]; omega
  · have hJ : x / 1048576 < 2 ^ 12 := by simp only [Nat.reducePow]; omega
    obtain ⟨a1, a2, a3⟩ := Is.signed_bits (x / 1048576) 12 (by omega) hJ
    have hff := hfn rfl
    refine ⟨0, 0, 0, Bt.sgn (Bt.sext (x / 1048576) 12), hd, ?_, ?_⟩
    · generalize Bt.sgn (Bt.sext (x / 1048576) 12) = z at *
      simp only [Nat.reduceSub, Nat.reducePow] at a1 a2
      exact mk _ _ _ _ (by omega) (by omega) (by omega) (show (-2048 : Int) ≤ _ by omega) (show _ ≤ (2047 : Int) by omega) (fun h => by cases h) (fun _ => rfl) (fun _ => rfl) (fun _ => rfl)
    · rw [ew]; simp only [Is.wordS]; simp only [Nat.reducePow] at a3; rw [a3]; omega

end Go.Proofs.Ytijekhdndegdaaa
