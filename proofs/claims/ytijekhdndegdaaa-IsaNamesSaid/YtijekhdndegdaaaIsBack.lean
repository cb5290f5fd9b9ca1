/- Plain: a legal record is decoded as it was; a decoded word is encoded as it was. -/
import Derived.Test.YtijekhdndegdaaaIsPlain
namespace Go.Proofs.Ytijekhdndegdaaa
open Go.RowKit
set_option linter.unusedVariables false
set_option linter.unusedSimpArgs false

abbrev Is.form (n : Nat) : Is.Form := Is.forms.getD n default
theorem Is.shape_form (n : Nat) (h : n < 48) : Is.shape (n : Int) = (Is.form n).shape := by
  have : ∀ k : Fin 48, Is.shape (k.val : Int) = (Is.form k.val).shape := by decide
  exact this ⟨n, h⟩
theorem Is.form_empty (n : Nat) (h : n < 48) : ((Is.form n).shape = 0 ∨ (Is.form n).shape = 1 ∨ (Is.form n).shape = 7 ∨ (Is.form n).shape = 8 → (Is.form n).three = 0) ∧
    ((Is.form n).shape = 0 ∨ (Is.form n).shape = 1 ∨ (Is.form n).shape = 2 ∨ (Is.form n).shape = 3 ∨ (Is.form n).shape = 4 ∨ (Is.form n).shape = 7 ∨ (Is.form n).shape = 8 → (Is.form n).seven = 0) ∧ ((Is.form n).shape = 7 ↔ n = 38 ∨ n = 39) ∧ ((Is.form n).shape = 8 ↔ n = 37) := by
  have : ∀ k : Fin 48, ((Is.form k.val).shape = 0 ∨ (Is.form k.val).shape = 1 ∨ (Is.form k.val).shape = 7 ∨ (Is.form k.val).shape = 8 → (Is.form k.val).three = 0) ∧
    ((Is.form k.val).shape = 0 ∨ (Is.form k.val).shape = 1 ∨ (Is.form k.val).shape = 2 ∨ (Is.form k.val).shape = 3 ∨ (Is.form k.val).shape = 4 ∨ (Is.form k.val).shape = 7 ∨ (Is.form k.val).shape = 8 → (Is.form k.val).seven = 0) ∧ ((Is.form k.val).shape = 7 ↔ k.val = 38 ∨ k.val = 39) ∧ ((Is.form k.val).shape = 8 ↔ k.val = 37) := by decide
  exact this ⟨n, h⟩
theorem Is.regB_true {n : Int} {b : Bool} (h : Is.regB n b = true) : 0 ≤ n ∧ n < 32 ∧ (b = false → n = 0) := by
  simp only [Is.regB, Bool.or_eq_true, decide_eq_true_eq, Bool.and_eq_true] at h
  rcases h with h | ⟨h1, h2, h3⟩
  · exact ⟨by omega, by omega, fun _ => h⟩
  · exact ⟨by omega, by omega, fun k => by rw [k] at h1; cases h1⟩
/-- What a legal record is. -/
structure Is.Good (n rd rs1 rs2 : Nat) (imm : Int) : Prop where
  hn : n < 48
  hrd : rd < 32
  hrs1 : rs1 < 32
  hrs2 : rs2 < 32
  least : (Is.uses ((Is.form n).shape : Int)).least ≤ imm
  most : imm ≤ (Is.uses ((Is.form n).shape : Int)).most
  even : (Is.uses ((Is.form n).shape : Int)).even = true → imm % 2 = 0
  erd : (Is.uses ((Is.form n).shape : Int)).rd = false → rd = 0
  ers1 : (Is.uses ((Is.form n).shape : Int)).rs1 = false → rs1 = 0
  ers2 : (Is.uses ((Is.form n).shape : Int)).rs2 = false → rs2 = 0
theorem Is.legal_good {i : Is.Inst} (h : Is.legal i = true) : ∃ n rd rs1 rs2 : Nat, i = ⟨n, rd, rs1, rs2, i.imm⟩ ∧ Is.Good n rd rs1 rs2 i.imm := by
  have hop := Is.legal_op h
  obtain ⟨op, rd, rs1, rs2, imm⟩ := i
  obtain ⟨n, rfl⟩ := Int.eq_ofNat_of_zero_le hop.1
  have hn : n < 48 := by have h48 : (n : Int) < 48 := hop.2; omega
  simp only [Is.legal, Bool.and_eq_true, decide_eq_true_eq, Bool.or_eq_true, Bool.not_eq_true'] at h
  obtain ⟨h0, h1, h2, h3, h4, h5, h6⟩ := h
  rw [Is.shape_form n hn] at h0 h1 h2 h3 h4 h5 h6
  obtain ⟨a1, a2, a3⟩ := Is.regB_true h1
  obtain ⟨b1, b2, b3⟩ := Is.regB_true h2
  obtain ⟨c1, c2, c3⟩ := Is.regB_true h3
  obtain ⟨rd, rfl⟩ := Int.eq_ofNat_of_zero_le a1
  obtain ⟨rs1, rfl⟩ := Int.eq_ofNat_of_zero_le b1
  obtain ⟨rs2, rfl⟩ := Int.eq_ofNat_of_zero_le c1
  refine ⟨n, rd, rs1, rs2, rfl, hn, by omega, by omega, by omega, h4, h5, fun k => ?_, fun k => by have := a3 k; omega, fun k => by have := b3 k; omega, fun k => by have := c3 k; omega⟩
  rcases h6 with h6 | h6
  · rw [k] at h6; cases h6
  · exact h6
theorem Is.good_legal {n rd rs1 rs2 : Nat} {imm : Int} (g : Is.Good n rd rs1 rs2 imm) : Is.legal ⟨n, rd, rs1, rs2, imm⟩ = true := by
  simp only [Is.legal, Bool.and_eq_true, decide_eq_true_eq, Bool.or_eq_true, Bool.not_eq_true', Is.shape_form n g.hn]
  have r : ∀ (m : Nat) (b : Bool), m < 32 → (b = false → m = 0) → Is.regB (m : Int) b = true := by
    intro m b h1 h2
    simp only [Is.regB, Bool.or_eq_true, decide_eq_true_eq, Bool.and_eq_true]
    cases b
    · left; have := h2 rfl; omega
    · by_cases m = 0
      · left; omega
      · right; exact ⟨rfl, by omega, by omega⟩
  refine ⟨by omega, r _ _ g.hrd g.erd, r _ _ g.hrs1 g.ers1, r _ _ g.hrs2 g.ers2, g.least, g.most, ?_⟩
  cases he : (Is.uses ((Is.form n).shape : Int)).even
  · exact .inl rfl
  · exact .inr (g.even he)
theorem Is.form_shapes (n : Nat) (h : n < 48) : (Is.form n).shape ≤ 8 := (Is.form_bd n h).1
theorem Is.Good.empty {n rd rs1 rs2 : Nat} {imm : Int} (g : Is.Good n rd rs1 rs2 imm) : Is.Empty (Is.form n).shape (Is.form n).three (Is.form n).seven rd rs1 rs2 := by
  have e := Is.form_empty n g.hn
  have a := g.erd; have b := g.ers1; have c := g.ers2
  generalize (Is.form n).shape = s at *
  refine ⟨fun h => a ?_, fun h => b ?_, fun h => c ?_, e.1, e.2.1⟩
  · rcases h with rfl | rfl | rfl | rfl <;> rfl
  · rcases h with rfl | rfl | rfl | rfl <;> rfl
  · rcases h with rfl | rfl | rfl | rfl | rfl | rfl <;> rfl
/-- A record's word. -/
def Is.word (n rd rs1 rs2 : Nat) (imm : Int) : Nat :=
  if n = 38 then 115 else if n = 39 then 1048691 else Is.wordS (Is.form n).shape (Is.form n).code (Is.form n).three (Is.form n).seven rd rs1 rs2 (imm % 4294967296).toNat
theorem Is.enc_word {n rd rs1 rs2 : Nat} {imm : Int} (g : Is.Good n rd rs1 rs2 imm) : Is.enc ⟨n, rd, rs1, rs2, imm⟩ = (((Is.word n rd rs1 rs2 imm : Nat) : Int), (0 : Int)) := by
  rw [Is.enc, if_pos (Is.good_legal g)]
  simp only [Int.toNat_natCast]
  unfold Is.encV Is.word
  by_cases h38 : n = 38
  · rw [if_pos h38, if_pos h38]; rfl
  · by_cases h39 : n = 39
    · rw [if_neg h38, if_neg h38, if_pos h39, if_pos h39]; rfl
    · rw [if_neg h38, if_neg h38, if_neg h39, if_neg h39]
      have hb := Is.form_bd n g.hn
      have h7 : (Is.form n).shape ≠ 7 := fun k => by rcases (Is.form_empty n g.hn).2.2.1.1 k with k | k <;> omega
      rw [Is.acc_sum (Is.form n) rd rs1 rs2 (imm % 4294967296).toNat hb.2.1 hb.2.2.1 hb.2.2.2 g.hrd g.hrs1 g.hrs2 (by omega) hb.1 h7 g.empty]

/-- A form is found by its bits. -/
theorem Is.find_form (n x : Nat) (hn : n < 48) (h38 : n ≠ 38) (h39 : n ≠ 39) (h1 : x % 128 = (Is.form n).code) (h2 : (Is.form n).shape = 2 ∨ (Is.form n).shape = 3 ∨ (Is.form n).shape = 4 ∨ (Is.form n).shape = 5 ∨ (Is.form n).shape = 6 → x / 4096 % 8 = (Is.form n).three)
    (h3 : (Is.form n).shape = 5 ∨ (Is.form n).shape = 6 → x / 33554432 = (Is.form n).seven) (h4 : (Is.form n).shape = 8 → x % 1048576 = 15) : Is.find x = n := by
  unfold Is.find
  match n, hn with
  | 0, _ => first | (have h1 : x % 128 = _ := h1; simp [h1, Is.form, Is.forms]; done) | (have h2' := h2 (by decide); simp [h1, h2', Is.form, Is.forms, Is.one, Is.small, Is.row_jalr, Is.row_branch, Is.row_load, Is.row_store, Is.row_imm]; done) | (have h2' := h2 (by decide); have h3' := h3 (by decide); simp [h1, h2', h3', Is.form, Is.forms, Is.one, Is.small, Is.alu, Is.row_imm, Is.row_reg0, Is.row_reg32]; done) | (have h4' := h4 (by decide); simp [h1, h4', Is.form, Is.forms]; done)
  | 1, _ => first | (have h1 : x % 128 = _ := h1; simp [h1, Is.form, Is.forms]; done) | (have h2' := h2 (by decide); simp [h1, h2', Is.form, Is.forms, Is.one, Is.small, Is.row_jalr, Is.row_branch, Is.row_load, Is.row_store, Is.row_imm]; done) | (have h2' := h2 (by decide); have h3' := h3 (by decide); simp [h1, h2', h3', Is.form, Is.forms, Is.one, Is.small, Is.alu, Is.row_imm, Is.row_reg0, Is.row_reg32]; done) | (have h4' := h4 (by decide); simp [h1, h4', Is.form, Is.forms]; done)
  | 2, _ => first | (have h1 : x % 128 = _ := h1; simp [h1, Is.form, Is.forms]; done) | (have h2' := h2 (by decide); simp [h1, h2', Is.form, Is.forms, Is.one, Is.small, Is.row_jalr, Is.row_branch, Is.row_load, Is.row_store, Is.row_imm]; done) | (have h2' := h2 (by decide); have h3' := h3 (by decide); simp [h1, h2', h3', Is.form, Is.forms, Is.one, Is.small, Is.alu, Is.row_imm, Is.row_reg0, Is.row_reg32]; done) | (have h4' := h4 (by decide); simp [h1, h4', Is.form, Is.forms]; done)
  | 3, _ => first | (have h1 : x % 128 = _ := h1; simp [h1, Is.form, Is.forms]; done) | (have h2' := h2 (by decide); simp [h1, h2', Is.form, Is.forms, Is.one, Is.small, Is.row_jalr, Is.row_branch, Is.row_load, Is.row_store, Is.row_imm]; done) | (have h2' := h2 (by decide); have h3' := h3 (by decide); simp [h1, h2', h3', Is.form, Is.forms, Is.one, Is.small, Is.alu, Is.row_imm, Is.row_reg0, Is.row_reg32]; done) | (have h4' := h4 (by decide); simp [h1, h4', Is.form, Is.forms]; done)
  | 4, _ => first | (have h1 : x % 128 = _ := h1; simp [h1, Is.form, Is.forms]; done) | (have h2' := h2 (by decide); simp [h1, h2', Is.form, Is.forms, Is.one, Is.small, Is.row_jalr, Is.row_branch, Is.row_load, Is.row_store, Is.row_imm]; done) | (have h2' := h2 (by decide); have h3' := h3 (by decide); simp [h1, h2', h3', Is.form, Is.forms, Is.one, Is.small, Is.alu, Is.row_imm, Is.row_reg0, Is.row_reg32]; done) | (have h4' := h4 (by decide); simp [h1, h4', Is.form, Is.forms]; done)
  | 5, _ => first | (have h1 : x % 128 = _ := h1; simp [h1, Is.form, Is.forms]; done) | (have h2' := h2 (by decide); simp [h1, h2', Is.form, Is.forms, Is.one, Is.small, Is.row_jalr, Is.row_branch, Is.row_load, Is.row_store, Is.row_imm]; done) | (have h2' := h2 (by decide); have h3' := h3 (by decide); simp [h1, h2', h3', Is.form, Is.forms, Is.one, Is.small, Is.alu, Is.row_imm, Is.row_reg0, Is.row_reg32]; done) | (have h4' := h4 (by decide); simp [h1, h4', Is.form, Is.forms]; done)
  | 6, _ => first | (have h1 : x % 128 = _ := h1; simp [h1, Is.form, Is.forms]; done) | (have h2' := h2 (by decide); simp [h1, h2', Is.form, Is.forms, Is.one, Is.small, Is.row_jalr, Is.row_branch, Is.row_load, Is.row_store, Is.row_imm]; done) | (have h2' := h2 (by decide); have h3' := h3 (by decide); simp [h1, h2', h3', Is.form, Is.forms, Is.one, Is.small, Is.alu, Is.row_imm, Is.row_reg0, Is.row_reg32]; done) | (have h4' := h4 (by decide); simp [h1, h4', Is.form, Is.forms]; done)
  | 7, _ => first | (have h1 : x % 128 = _ := h1; simp [h1, Is.form, Is.forms]; done) | (have h2' := h2 (by decide); simp [h1, h2', Is.form, Is.forms, Is.one, Is.small, Is.row_jalr, Is.row_branch, Is.row_load, Is.row_store, Is.row_imm]; done) | (have h2' := h2 (by decide); have h3' := h3 (by decide); simp [h1, h2', h3', Is.form, Is.forms, Is.one, Is.small, Is.alu, Is.row_imm, Is.row_reg0, Is.row_reg32]; done) | (have h4' := h4 (by decide); simp [h1, h4', Is.form, Is.forms]; done)
  | 8, _ => first | (have h1 : x % 128 = _ := h1; simp [h1, Is.form, Is.forms]; done) | (have h2' := h2 (by decide); simp [h1, h2', Is.form, Is.forms, Is.one, Is.small, Is.row_jalr, Is.row_branch, Is.row_load, Is.row_store, Is.row_imm]; done) | (have h2' := h2 (by decide); have h3' := h3 (by decide); simp [h1, h2', h3', Is.form, Is.forms, Is.one, Is.small, Is.alu, Is.row_imm, Is.row_reg0, Is.row_reg32]; done) | (have h4' := h4 (by decide); simp [h1, h4', Is.form, Is.forms]; done)
  | 9, _ => first | (have h1 : x % 128 = _ := h1; simp [h1, Is.form, Is.forms]; done) | (have h2' := h2 (by decide); simp [h1, h2', Is.form, Is.forms, Is.one, Is.small, Is.row_jalr, Is.row_branch, Is.row_load, Is.row_store, Is.row_imm]; done) | (have h2' := h2 (by decide); have h3' := h3 (by decide); simp [h1, h2', h3', Is.form, Is.forms, Is.one, Is.small, Is.alu, Is.row_imm, Is.row_reg0, Is.row_reg32]; done) | (have h4' := h4 (by decide); simp [h1, h4', Is.form, Is.forms]; done)
  | 10, _ => first | (have h1 : x % 128 = _ := h1; simp [h1, Is.form, Is.forms]; done) | (have h2' := h2 (by decide); simp [h1, h2', Is.form, Is.forms, Is.one, Is.small, Is.row_jalr, Is.row_branch, Is.row_load, Is.row_store, Is.row_imm]; done) | (have h2' := h2 (by decide); have h3' := h3 (by decide); simp [h1, h2', h3', Is.form, Is.forms, Is.one, Is.small, Is.alu, Is.row_imm, Is.row_reg0, Is.row_reg32]; done) | (have h4' := h4 (by decide); simp [h1, h4', Is.form, Is.forms]; done)
  | 11, _ => first | (have h1 : x % 128 = _ := h1; simp [h1, Is.form, Is.forms]; done) | (have h2' := h2 (by decide); simp [h1, h2', Is.form, Is.forms, Is.one, Is.small, Is.row_jalr, Is.row_branch, Is.row_load, Is.row_store, Is.row_imm]; done) | (have h2' := h2 (by decide); have h3' := h3 (by decide); simp [h1, h2', h3', Is.form, Is.forms, Is.one, Is.small, Is.alu, Is.row_imm, Is.row_reg0, Is.row_reg32]; done) | (have h4' := h4 (by decide); simp [h1, h4', Is.form, Is.forms]; done)
  | 12, _ => first | (have h1 : x % 128 = _ := h1; simp [h1, Is.form, Is.forms]; done) | (have h2' := h2 (by decide); simp [h1, h2', Is.form, Is.forms, Is.one, Is.small, Is.row_jalr, Is.row_branch, Is.row_load, Is.row_store, Is.row_imm]; done) | (have h2' := h2 (by decide); have h3' := h3 (by decide); simp [h1, h2', h3', Is.form, Is.forms, Is.one, Is.small, Is.alu, Is.row_imm, Is.row_reg0, Is.row_reg32]; done) | (have h4' := h4 (by decide); simp [h1, h4', Is.form, Is.forms]; done)
  | 13, _ => first | (have h1 : x % 128 = _ := h1; simp [h1, Is.form, Is.forms]; done) | (have h2' := h2 (by decide); simp [h1, h2', Is.form, Is.forms, Is.one, Is.small, Is.row_jalr, Is.row_branch, Is.row_load, Is.row_store, Is.row_imm]; done) | (have h2' := h2 (by decide); have h3' := h3 (by decide); simp [h1, h2', h3', Is.form, Is.forms, Is.one, Is.small, Is.alu, Is.row_imm, Is.row_reg0, Is.row_reg32]; done) | (have h4' := h4 (by decide); simp [h1, h4', Is.form, Is.forms]; done)
  | 14, _ => first | (have h1 : x % 128 = _ := h1; simp [h1, Is.form, Is.forms]; done) | (have h2' := h2 (by decide); simp [h1, h2', Is.form, Is.forms, Is.one, Is.small, Is.row_jalr, Is.row_branch, Is.row_load, Is.row_store, Is.row_imm]; done) | (have h2' := h2 (by decide); have h3' := h3 (by decide); simp [h1, h2', h3', Is.form, Is.forms, Is.one, Is.small, Is.alu, Is.row_imm, Is.row_reg0, Is.row_reg32]; done) | (have h4' := h4 (by decide); simp [h1, h4', Is.form, Is.forms]; done)
  | 15, _ => first | (have h1 : x % 128 = _ := h1; simp [h1, Is.form, Is.forms]; done) | (have h2' := h2 (by decide); simp [h1, h2', Is.form, Is.forms, Is.one, Is.small, Is.row_jalr, Is.row_branch, Is.row_load, Is.row_store, Is.row_imm]; done) | (have h2' := h2 (by decide); have h3' := h3 (by decide); simp [h1, h2', h3', Is.form, Is.forms, Is.one, Is.small, Is.alu, Is.row_imm, Is.row_reg0, Is.row_reg32]; done) | (have h4' := h4 (by decide); simp [h1, h4', Is.form, Is.forms]; done)
  | 16, _ => first | (have h1 : x % 128 = _ := h1; simp [h1, Is.form, Is.forms]; done) | (have h2' := h2 (by decide); simp [h1, h2', Is.form, Is.forms, Is.one, Is.small, Is.row_jalr, Is.row_branch, Is.row_load, Is.row_store, Is.row_imm]; done) | (have h2' := h2 (by decide); have h3' := h3 (by decide); simp [h1, h2', h3', Is.form, Is.forms, Is.one, Is.small, Is.alu, Is.row_imm, Is.row_reg0, Is.row_reg32]; done) | (have h4' := h4 (by decide); simp [h1, h4', Is.form, Is.forms]; done)
  | 17, _ => first | (have h1 : x % 128 = _ := h1; simp [h1, Is.form, Is.forms]; done) | (have h2' := h2 (by decide); simp [h1, h2', Is.form, Is.forms, Is.one, Is.small, Is.row_jalr, Is.row_branch, Is.row_load, Is.row_store, Is.row_imm]; done) | (have h2' := h2 (by decide); have h3' := h3 (by decide); simp [h1, h2', h3', Is.form, Is.forms, Is.one, Is.small, Is.alu, Is.row_imm, Is.row_reg0, Is.row_reg32]; done) | (have h4' := h4 (by decide); simp [h1, h4', Is.form, Is.forms]; done)
  | 18, _ => first | (have h1 : x % 128 = _ := h1; simp [h1, Is.form, Is.forms]; done) | (have h2' := h2 (by decide); simp [h1, h2', Is.form, Is.forms, Is.one, Is.small, Is.row_jalr, Is.row_branch, Is.row_load, Is.row_store, Is.row_imm]; done) | (have h2' := h2 (by decide); have h3' := h3 (by decide); simp [h1, h2', h3', Is.form, Is.forms, Is.one, Is.small, Is.alu, Is.row_imm, Is.row_reg0, Is.row_reg32]; done) | (have h4' := h4 (by decide); simp [h1, h4', Is.form, Is.forms]; done)
  | 19, _ => first | (have h1 : x % 128 = _ := h1; simp [h1, Is.form, Is.forms]; done) | (have h2' := h2 (by decide); simp [h1, h2', Is.form, Is.forms, Is.one, Is.small, Is.row_jalr, Is.row_branch, Is.row_load, Is.row_store, Is.row_imm]; done) | (have h2' := h2 (by decide); have h3' := h3 (by decide); simp [h1, h2', h3', Is.form, Is.forms, Is.one, Is.small, Is.alu, Is.row_imm, Is.row_reg0, Is.row_reg32]; done) | (have h4' := h4 (by decide); simp [h1, h4', Is.form, Is.forms]; done)
  | 20, _ => first | (have h1 : x % 128 = _ := h1; simp [h1, Is.form, Is.forms]; done) | (have h2' := h2 (by decide); simp [h1, h2', Is.form, Is.forms, Is.one, Is.small, Is.row_jalr, Is.row_branch, Is.row_load, Is.row_store, Is.row_imm]; done) | (have h2' := h2 (by decide); have h3' := h3 (by decide); simp [h1, h2', h3', Is.form, Is.forms, Is.one, Is.small, Is.alu, Is.row_imm, Is.row_reg0, Is.row_reg32]; done) | (have h4' := h4 (by decide); simp [h1, h4', Is.form, Is.forms]; done)
  | 21, _ => first | (have h1 : x % 128 = _ := h1; simp [h1, Is.form, Is.forms]; done) | (have h2' := h2 (by decide); simp [h1, h2', Is.form, Is.forms, Is.one, Is.small, Is.row_jalr, Is.row_branch, Is.row_load, Is.row_store, Is.row_imm]; done) | (have h2' := h2 (by decide); have h3' := h3 (by decide); simp [h1, h2', h3', Is.form, Is.forms, Is.one, Is.small, Is.alu, Is.row_imm, Is.row_reg0, Is.row_reg32]; done) | (have h4' := h4 (by decide); simp [h1, h4', Is.form, Is.forms]; done)
  | 22, _ => first | (have h1 : x % 128 = _ := h1; simp [h1, Is.form, Is.forms]; done) | (have h2' := h2 (by decide); simp [h1, h2', Is.form, Is.forms, Is.one, Is.small, Is.row_jalr, Is.row_branch, Is.row_load, Is.row_store, Is.row_imm]; done) | (have h2' := h2 (by decide); have h3' := h3 (by decide); simp [h1, h2', h3', Is.form, Is.forms, Is.one, Is.small, Is.alu, Is.row_imm, Is.row_reg0, Is.row_reg32]; done) | (have h4' := h4 (by decide); simp [h1, h4', Is.form, Is.forms]; done)
  | 23, _ => first | (have h1 : x % 128 = _ := h1; simp [h1, Is.form, Is.forms]; done) | (have h2' := h2 (by decide); simp [h1, h2', Is.form, Is.forms, Is.one, Is.small, Is.row_jalr, Is.row_branch, Is.row_load, Is.row_store, Is.row_imm]; done) | (have h2' := h2 (by decide); have h3' := h3 (by decide); simp [h1, h2', h3', Is.form, Is.forms, Is.one, Is.small, Is.alu, Is.row_imm, Is.row_reg0, Is.row_reg32]; done) | (have h4' := h4 (by decide); simp [h1, h4', Is.form, Is.forms]; done)
  | 24, _ => first | (have h1 : x % 128 = _ := h1; simp [h1, Is.form, Is.forms]; done) | (have h2' := h2 (by decide); simp [h1, h2', Is.form, Is.forms, Is.one, Is.small, Is.row_jalr, Is.row_branch, Is.row_load, Is.row_store, Is.row_imm]; done) | (have h2' := h2 (by decide); have h3' := h3 (by decide); simp [h1, h2', h3', Is.form, Is.forms, Is.one, Is.small, Is.alu, Is.row_imm, Is.row_reg0, Is.row_reg32]; done) | (have h4' := h4 (by decide); simp [h1, h4', Is.form, Is.forms]; done)
  | 25, _ => first | (have h1 : x % 128 = _ := h1; simp [h1, Is.form, Is.forms]; done) | (have h2' := h2 (by decide); simp [h1, h2', Is.form, Is.forms, Is.one, Is.small, Is.row_jalr, Is.row_branch, Is.row_load, Is.row_store, Is.row_imm]; done) | (have h2' := h2 (by decide); have h3' := h3 (by decide); simp [h1, h2', h3', Is.form, Is.forms, Is.one, Is.small, Is.alu, Is.row_imm, Is.row_reg0, Is.row_reg32]; done) | (have h4' := h4 (by decide); simp [h1, h4', Is.form, Is.forms]; done)
  | 26, _ => first | (have h1 : x % 128 = _ := h1; simp [h1, Is.form, Is.forms]; done) | (have h2' := h2 (by decide); simp [h1, h2', Is.form, Is.forms, Is.one, Is.small, Is.row_jalr, Is.row_branch, Is.row_load, Is.row_store, Is.row_imm]; done) | (have h2' := h2 (by decide); have h3' := h3 (by decide); simp [h1, h2', h3', Is.form, Is.forms, Is.one, Is.small, Is.alu, Is.row_imm, Is.row_reg0, Is.row_reg32]; done) | (have h4' := h4 (by decide); simp [h1, h4', Is.form, Is.forms]; done)
  | 27, _ => first | (have h1 : x % 128 = _ := h1; simp [h1, Is.form, Is.forms]; done) | (have h2' := h2 (by decide); simp [h1, h2', Is.form, Is.forms, Is.one, Is.small, Is.row_jalr, Is.row_branch, Is.row_load, Is.row_store, Is.row_imm]; done) | (have h2' := h2 (by decide); have h3' := h3 (by decide); simp [h1, h2', h3', Is.form, Is.forms, Is.one, Is.small, Is.alu, Is.row_imm, Is.row_reg0, Is.row_reg32]; done) | (have h4' := h4 (by decide); simp [h1, h4', Is.form, Is.forms]; done)
  | 28, _ => first | (have h1 : x % 128 = _ := h1; simp [h1, Is.form, Is.forms]; done) | (have h2' := h2 (by decide); simp [h1, h2', Is.form, Is.forms, Is.one, Is.small, Is.row_jalr, Is.row_branch, Is.row_load, Is.row_store, Is.row_imm]; done) | (have h2' := h2 (by decide); have h3' := h3 (by decide); simp [h1, h2', h3', Is.form, Is.forms, Is.one, Is.small, Is.alu, Is.row_imm, Is.row_reg0, Is.row_reg32]; done) | (have h4' := h4 (by decide); simp [h1, h4', Is.form, Is.forms]; done)
  | 29, _ => first | (have h1 : x % 128 = _ := h1; simp [h1, Is.form, Is.forms]; done) | (have h2' := h2 (by decide); simp [h1, h2', Is.form, Is.forms, Is.one, Is.small, Is.row_jalr, Is.row_branch, Is.row_load, Is.row_store, Is.row_imm]; done) | (have h2' := h2 (by decide); have h3' := h3 (by decide); simp [h1, h2', h3', Is.form, Is.forms, Is.one, Is.small, Is.alu, Is.row_imm, Is.row_reg0, Is.row_reg32]; done) | (have h4' := h4 (by decide); simp [h1, h4', Is.form, Is.forms]; done)
  | 30, _ => first | (have h1 : x % 128 = _ := h1; simp [h1, Is.form, Is.forms]; done) | (have h2' := h2 (by decide); simp [h1, h2', Is.form, Is.forms, Is.one, Is.small, Is.row_jalr, Is.row_branch, Is.row_load, Is.row_store, Is.row_imm]; done) | (have h2' := h2 (by decide); have h3' := h3 (by decide); simp [h1, h2', h3', Is.form, Is.forms, Is.one, Is.small, Is.alu, Is.row_imm, Is.row_reg0, Is.row_reg32]; done) | (have h4' := h4 (by decide); simp [h1, h4', Is.form, Is.forms]; done)
  | 31, _ => first | (have h1 : x % 128 = _ := h1; simp [h1, Is.form, Is.forms]; done) | (have h2' := h2 (by decide); simp [h1, h2', Is.form, Is.forms, Is.one, Is.small, Is.row_jalr, Is.row_branch, Is.row_load, Is.row_store, Is.row_imm]; done) | (have h2' := h2 (by decide); have h3' := h3 (by decide); simp [h1, h2', h3', Is.form, Is.forms, Is.one, Is.small, Is.alu, Is.row_imm, Is.row_reg0, Is.row_reg32]; done) | (have h4' := h4 (by decide); simp [h1, h4', Is.form, Is.forms]; done)
  | 32, _ => first | (have h1 : x % 128 = _ := h1; simp [h1, Is.form, Is.forms]; done) | (have h2' := h2 (by decide); simp [h1, h2', Is.form, Is.forms, Is.one, Is.small, Is.row_jalr, Is.row_branch, Is.row_load, Is.row_store, Is.row_imm]; done) | (have h2' := h2 (by decide); have h3' := h3 (by decide); simp [h1, h2', h3', Is.form, Is.forms, Is.one, Is.small, Is.alu, Is.row_imm, Is.row_reg0, Is.row_reg32]; done) | (have h4' := h4 (by decide); simp [h1, h4', Is.form, Is.forms]; done)
  | 33, _ => first | (have h1 : x % 128 = _ := h1; simp [h1, Is.form, Is.forms]; done) | (have h2' := h2 (by decide); simp [h1, h2', Is.form, Is.forms, Is.one, Is.small, Is.row_jalr, Is.row_branch, Is.row_load, Is.row_store, Is.row_imm]; done) | (have h2' := h2 (by decide); have h3' := h3 (by decide); simp [h1, h2', h3', Is.form, Is.forms, Is.one, Is.small, Is.alu, Is.row_imm, Is.row_reg0, Is.row_reg32]; done) | (have h4' := h4 (by decide); simp [h1, h4', Is.form, Is.forms]; done)
  | 34, _ => first | (have h1 : x % 128 = _ := h1; simp [h1, Is.form, Is.forms]; done) | (have h2' := h2 (by decide); simp [h1, h2', Is.form, Is.forms, Is.one, Is.small, Is.row_jalr, Is.row_branch, Is.row_load, Is.row_store, Is.row_imm]; done) | (have h2' := h2 (by decide); have h3' := h3 (by decide); simp [h1, h2', h3', Is.form, Is.forms, Is.one, Is.small, Is.alu, Is.row_imm, Is.row_reg0, Is.row_reg32]; done) | (have h4' := h4 (by decide); simp [h1, h4', Is.form, Is.forms]; done)
  | 35, _ => first | (have h1 : x % 128 = _ := h1; simp [h1, Is.form, Is.forms]; done) | (have h2' := h2 (by decide); simp [h1, h2', Is.form, Is.forms, Is.one, Is.small, Is.row_jalr, Is.row_branch, Is.row_load, Is.row_store, Is.row_imm]; done) | (have h2' := h2 (by decide); have h3' := h3 (by decide); simp [h1, h2', h3', Is.form, Is.forms, Is.one, Is.small, Is.alu, Is.row_imm, Is.row_reg0, Is.row_reg32]; done) | (have h4' := h4 (by decide); simp [h1, h4', Is.form, Is.forms]; done)
  | 36, _ => first | (have h1 : x % 128 = _ := h1; simp [h1, Is.form, Is.forms]; done) | (have h2' := h2 (by decide); simp [h1, h2', Is.form, Is.forms, Is.one, Is.small, Is.row_jalr, Is.row_branch, Is.row_load, Is.row_store, Is.row_imm]; done) | (have h2' := h2 (by decide); have h3' := h3 (by decide); simp [h1, h2', h3', Is.form, Is.forms, Is.one, Is.small, Is.alu, Is.row_imm, Is.row_reg0, Is.row_reg32]; done) | (have h4' := h4 (by decide); simp [h1, h4', Is.form, Is.forms]; done)
  | 37, _ => first | (have h1 : x % 128 = _ := h1; simp [h1, Is.form, Is.forms]; done) | (have h2' := h2 (by decide); simp [h1, h2', Is.form, Is.forms, Is.one, Is.small, Is.row_jalr, Is.row_branch, Is.row_load, Is.row_store, Is.row_imm]; done) | (have h2' := h2 (by decide); have h3' := h3 (by decide); simp [h1, h2', h3', Is.form, Is.forms, Is.one, Is.small, Is.alu, Is.row_imm, Is.row_reg0, Is.row_reg32]; done) | (have h4' := h4 (by decide); simp [h1, h4', Is.form, Is.forms]; done)
  | 38, _ => exact absurd rfl h38
  | 39, _ => exact absurd rfl h39
  | 40, _ => first | (have h1 : x % 128 = _ := h1; simp [h1, Is.form, Is.forms]; done) | (have h2' := h2 (by decide); simp [h1, h2', Is.form, Is.forms, Is.one, Is.small, Is.row_jalr, Is.row_branch, Is.row_load, Is.row_store, Is.row_imm]; done) | (have h2' := h2 (by decide); have h3' := h3 (by decide); simp [h1, h2', h3', Is.form, Is.forms, Is.one, Is.small, Is.alu, Is.row_imm, Is.row_reg0, Is.row_reg32]; done) | (have h4' := h4 (by decide); simp [h1, h4', Is.form, Is.forms]; done)
  | 41, _ => first | (have h1 : x % 128 = _ := h1; simp [h1, Is.form, Is.forms]; done) | (have h2' := h2 (by decide); simp [h1, h2', Is.form, Is.forms, Is.one, Is.small, Is.row_jalr, Is.row_branch, Is.row_load, Is.row_store, Is.row_imm]; done) | (have h2' := h2 (by decide); have h3' := h3 (by decide); simp [h1, h2', h3', Is.form, Is.forms, Is.one, Is.small, Is.alu, Is.row_imm, Is.row_reg0, Is.row_reg32]; done) | (have h4' := h4 (by decide); simp [h1, h4', Is.form, Is.forms]; done)
  | 42, _ => first | (have h1 : x % 128 = _ := h1; simp [h1, Is.form, Is.forms]; done) | (have h2' := h2 (by decide); simp [h1, h2', Is.form, Is.forms, Is.one, Is.small, Is.row_jalr, Is.row_branch, Is.row_load, Is.row_store, Is.row_imm]; done) | (have h2' := h2 (by decide); have h3' := h3 (by decide); simp [h1, h2', h3', Is.form, Is.forms, Is.one, Is.small, Is.alu, Is.row_imm, Is.row_reg0, Is.row_reg32]; done) | (have h4' := h4 (by decide); simp [h1, h4', Is.form, Is.forms]; done)
  | 43, _ => first | (have h1 : x % 128 = _ := h1; simp [h1, Is.form, Is.forms]; done) | (have h2' := h2 (by decide); simp [h1, h2', Is.form, Is.forms, Is.one, Is.small, Is.row_jalr, Is.row_branch, Is.row_load, Is.row_store, Is.row_imm]; done) | (have h2' := h2 (by decide); have h3' := h3 (by decide); simp [h1, h2', h3', Is.form, Is.forms, Is.one, Is.small, Is.alu, Is.row_imm, Is.row_reg0, Is.row_reg32]; done) | (have h4' := h4 (by decide); simp [h1, h4', Is.form, Is.forms]; done)
  | 44, _ => first | (have h1 : x % 128 = _ := h1; simp [h1, Is.form, Is.forms]; done) | (have h2' := h2 (by decide); simp [h1, h2', Is.form, Is.forms, Is.one, Is.small, Is.row_jalr, Is.row_branch, Is.row_load, Is.row_store, Is.row_imm]; done) | (have h2' := h2 (by decide); have h3' := h3 (by decide); simp [h1, h2', h3', Is.form, Is.forms, Is.one, Is.small, Is.alu, Is.row_imm, Is.row_reg0, Is.row_reg32]; done) | (have h4' := h4 (by decide); simp [h1, h4', Is.form, Is.forms]; done)
  | 45, _ => first | (have h1 : x % 128 = _ := h1; simp [h1, Is.form, Is.forms]; done) | (have h2' := h2 (by decide); simp [h1, h2', Is.form, Is.forms, Is.one, Is.small, Is.row_jalr, Is.row_branch, Is.row_load, Is.row_store, Is.row_imm]; done) | (have h2' := h2 (by decide); have h3' := h3 (by decide); simp [h1, h2', h3', Is.form, Is.forms, Is.one, Is.small, Is.alu, Is.row_imm, Is.row_reg0, Is.row_reg32]; done) | (have h4' := h4 (by decide); simp [h1, h4', Is.form, Is.forms]; done)
  | 46, _ => first | (have h1 : x % 128 = _ := h1; simp [h1, Is.form, Is.forms]; done) | (have h2' := h2 (by decide); simp [h1, h2', Is.form, Is.forms, Is.one, Is.small, Is.row_jalr, Is.row_branch, Is.row_load, Is.row_store, Is.row_imm]; done) | (have h2' := h2 (by decide); have h3' := h3 (by decide); simp [h1, h2', h3', Is.form, Is.forms, Is.one, Is.small, Is.alu, Is.row_imm, Is.row_reg0, Is.row_reg32]; done) | (have h4' := h4 (by decide); simp [h1, h4', Is.form, Is.forms]; done)
  | 47, _ => first | (have h1 : x % 128 = _ := h1; simp [h1, Is.form, Is.forms]; done) | (have h2' := h2 (by decide); simp [h1, h2', Is.form, Is.forms, Is.one, Is.small, Is.row_jalr, Is.row_branch, Is.row_load, Is.row_store, Is.row_imm]; done) | (have h2' := h2 (by decide); have h3' := h3 (by decide); simp [h1, h2', h3', Is.form, Is.forms, Is.one, Is.small, Is.alu, Is.row_imm, Is.row_reg0, Is.row_reg32]; done) | (have h4' := h4 (by decide); simp [h1, h4', Is.form, Is.forms]; done)
  | n + 48, h => exact absurd h (by omega)
/-- Signed bits of so many, again. -/
theorem Is.back_signed (imm : Int) (k : Nat) (h1 : 1 ≤ k) (h2 : k ≤ 31) (hl : -(2 ^ (k - 1) : Nat) ≤ imm) (hm : imm < (2 ^ (k - 1) : Nat)) (J : Nat) (hJ : J = (imm % 4294967296).toNat % 2 ^ k) : Bt.sgn (Bt.sext J k) = imm := by
  have hk : k = 1 ∨ k = 2 ∨ k = 3 ∨ k = 4 ∨ k = 5 ∨ k = 6 ∨ k = 7 ∨ k = 8 ∨ k = 9 ∨ k = 10 ∨ k = 11 ∨ k = 12 ∨ k = 13 ∨ k = 14 ∨ k = 15 ∨ k = 16 ∨ k = 17 ∨ k = 18 ∨ k = 19 ∨ k = 20 ∨ k = 21 ∨ k = 22 ∨ k = 23 ∨ k = 24 ∨ k = 25 ∨ k = 26 ∨ k = 27 ∨ k = 28 ∨ k = 29 ∨ k = 30 ∨ k = 31 := by omega
  rcases hk with rfl | rfl | rfl | rfl | rfl | rfl | rfl | rfl | rfl | rfl | rfl | rfl | rfl | rfl | rfl | rfl | rfl | rfl | rfl | rfl | rfl | rfl | rfl | rfl | rfl | rfl | rfl | rfl | rfl | rfl | rfl <;>
    (simp only [Nat.reduceSub, Nat.reducePow, Nat.sub_self, Nat.pow_zero, Nat.pow_one] at *; unfold Bt.sext Bt.sgn; simp only [Nat.reduceSub, Nat.reducePow, Nat.sub_self, Nat.pow_zero, Nat.pow_one]; (repeat' split) <;> omega)
theorem Is.jv_word (code rd P Q R S : Nat) (hc : code < 128) (hd : rd < 32) (hP : P < 256) (hQ : Q < 2) (hR : R < 1024) (hS : S < 2) : Is.jv (code + rd * 128 + P * 4096 + Q * 1048576 + R * 2097152 + S * 2147483648) = R * 2 + Q * 2048 + P * 4096 + S * 1048576 := by
  have h1 : (code + rd * 128 + P * 4096 + Q * 1048576 + R * 2097152 + S * 2147483648) / 2097152 = R + S * 1024 := by omega
  have h2 : (code + rd * 128 + P * 4096 + Q * 1048576 + R * 2097152 + S * 2147483648) / 1048576 = Q + R * 2 + S * 2048 := by omega
  have h3 : (code + rd * 128 + P * 4096 + Q * 1048576 + R * 2097152 + S * 2147483648) / 4096 = P + (Q + R * 2 + S * 2048) * 256 := by omega
  have h4 : (code + rd * 128 + P * 4096 + Q * 1048576 + R * 2097152 + S * 2147483648) / 2147483648 = S := by omega
  unfold Is.jv
  rw [h1, h2, h3, h4]
  omega
theorem Is.jv_imm (A : Nat) (h : A % 2 = 0) : A / 2 % 1024 * 2 + A / 2048 % 2 * 2048 + A / 4096 % 256 * 4096 + A / 1048576 % 2 * 1048576 = A % 2097152 := by omega
theorem Is.b_word (code P Q three rs1 rs2 R S : Nat) (hc : code < 128) (hP : P < 2) (hQ : Q < 16) (h3 : three < 8) (ha : rs1 < 32) (hb : rs2 < 32) (hR : R < 64) (hS : S < 2) :
    Is.bv (code + P * 128 + Q * 256 + three * 4096 + rs1 * 32768 + rs2 * 1048576 + R * 33554432 + S * 2147483648) = Q * 2 + R * 32 + P * 2048 + S * 4096 ∧
    (code + P * 128 + Q * 256 + three * 4096 + rs1 * 32768 + rs2 * 1048576 + R * 33554432 + S * 2147483648) / 32768 % 32 = rs1 ∧ (code + P * 128 + Q * 256 + three * 4096 + rs1 * 32768 + rs2 * 1048576 + R * 33554432 + S * 2147483648) / 1048576 % 32 = rs2 ∧
    (code + P * 128 + Q * 256 + three * 4096 + rs1 * 32768 + rs2 * 1048576 + R * 33554432 + S * 2147483648) / 4096 % 8 = three ∧ code + P * 128 + Q * 256 + three * 4096 + rs1 * 32768 + rs2 * 1048576 + R * 33554432 + S * 2147483648 < 4294967296 := by
  have e1 : (code + P * 128 + Q * 256 + three * 4096 + rs1 * 32768 + rs2 * 1048576 + R * 33554432 + S * 2147483648) / 128 = P + (Q * 2 + three * 32 + rs1 * 256 + rs2 * 8192 + R * 262144 + S * 16777216) := by omega
  have e2 : (code + P * 128 + Q * 256 + three * 4096 + rs1 * 32768 + rs2 * 1048576 + R * 33554432 + S * 2147483648) / 256 = Q + (three * 16 + rs1 * 128 + rs2 * 4096 + R * 131072 + S * 8388608) := by omega
  have e3 : (code + P * 128 + Q * 256 + three * 4096 + rs1 * 32768 + rs2 * 1048576 + R * 33554432 + S * 2147483648) / 4096 = three + (rs1 * 8 + rs2 * 256 + R * 8192 + S * 524288) := by omega
  have e4 : (code + P * 128 + Q * 256 + three * 4096 + rs1 * 32768 + rs2 * 1048576 + R * 33554432 + S * 2147483648) / 32768 = rs1 + (rs2 * 32 + R * 1024 + S * 65536) := by omega
  have e5 : (code + P * 128 + Q * 256 + three * 4096 + rs1 * 32768 + rs2 * 1048576 + R * 33554432 + S * 2147483648) / 1048576 = rs2 + (R * 32 + S * 2048) := by omega
  have e6 : (code + P * 128 + Q * 256 + three * 4096 + rs1 * 32768 + rs2 * 1048576 + R * 33554432 + S * 2147483648) / 33554432 = R + S * 64 := by omega
  have e7 : (code + P * 128 + Q * 256 + three * 4096 + rs1 * 32768 + rs2 * 1048576 + R * 33554432 + S * 2147483648) / 2147483648 = S := by omega
  unfold Is.bv
  rw [e1, e2, e3, e4, e5, e6, e7]
  refine ⟨by omega, by omega, by omega, by omega, by omega⟩
theorem Is.bv_imm (A : Nat) (h : A % 2 = 0) : A / 2 % 16 * 2 + A / 32 % 64 * 32 + A / 2048 % 2 * 2048 + A / 4096 % 2 * 4096 = A % 8192 := by omega
theorem Is.s_word (code P three rs1 rs2 R : Nat) (hc : code < 128) (hP : P < 32) (h3 : three < 8) (ha : rs1 < 32) (hb : rs2 < 32) (hR : R < 128) :
    Is.sv (code + P * 128 + three * 4096 + rs1 * 32768 + rs2 * 1048576 + R * 33554432) = P + R * 32 ∧ (code + P * 128 + three * 4096 + rs1 * 32768 + rs2 * 1048576 + R * 33554432) / 32768 % 32 = rs1 ∧
    (code + P * 128 + three * 4096 + rs1 * 32768 + rs2 * 1048576 + R * 33554432) / 1048576 % 32 = rs2 ∧ (code + P * 128 + three * 4096 + rs1 * 32768 + rs2 * 1048576 + R * 33554432) / 4096 % 8 = three ∧ code + P * 128 + three * 4096 + rs1 * 32768 + rs2 * 1048576 + R * 33554432 < 4294967296 := by
  have e1 : (code + P * 128 + three * 4096 + rs1 * 32768 + rs2 * 1048576 + R * 33554432) / 128 = P + (three * 32 + rs1 * 256 + rs2 * 8192 + R * 262144) := by omega
  have e3 : (code + P * 128 + three * 4096 + rs1 * 32768 + rs2 * 1048576 + R * 33554432) / 4096 = three + (rs1 * 8 + rs2 * 256 + R * 8192) := by omega
  have e4 : (code + P * 128 + three * 4096 + rs1 * 32768 + rs2 * 1048576 + R * 33554432) / 32768 = rs1 + (rs2 * 32 + R * 1024) := by omega
  have e5 : (code + P * 128 + three * 4096 + rs1 * 32768 + rs2 * 1048576 + R * 33554432) / 1048576 = rs2 + R * 32 := by omega
  have e6 : (code + P * 128 + three * 4096 + rs1 * 32768 + rs2 * 1048576 + R * 33554432) / 33554432 = R := by omega
  unfold Is.sv
  rw [e1, e3, e4, e5, e6]
  refine ⟨by omega, by omega, by omega, by omega, by omega⟩
theorem Is.decS_word (s code three seven n rd rs1 rs2 : Nat) (imm : Int) (hc : code < 128) (h3 : three < 8) (h7 : seven < 128) (hd : rd < 32) (ha : rs1 < 32) (hb : rs2 < 32) (hs : s = 0 ∨ s = 1 ∨ s = 2 ∨ s = 3 ∨ s = 4 ∨ s = 5 ∨ s = 6 ∨ s = 8)
    (hl : (Is.uses (s : Int)).least ≤ imm) (hm : imm ≤ (Is.uses (s : Int)).most) (he : (Is.uses (s : Int)).even = true → imm % 2 = 0)
    (e : Is.Empty s three seven rd rs1 rs2) :
    Is.decS (Is.wordS s code three seven rd rs1 rs2 (imm % 4294967296).toNat) n s = (⟨n, rd, rs1, rs2, imm⟩, 0) ∧ Is.wordS s code three seven rd rs1 rs2 (imm % 4294967296).toNat % 128 = code ∧ Is.wordS s code three seven rd rs1 rs2 (imm % 4294967296).toNat < 4294967296 ∧
    (s = 2 ∨ s = 3 ∨ s = 4 ∨ s = 5 ∨ s = 6 → Is.wordS s code three seven rd rs1 rs2 (imm % 4294967296).toNat / 4096 % 8 = three) ∧ (s = 5 ∨ s = 6 → Is.wordS s code three seven rd rs1 rs2 (imm % 4294967296).toNat / 33554432 = seven) ∧ (s = 8 → Is.wordS s code three seven rd rs1 rs2 (imm % 4294967296).toNat % 1048576 = code) := by
  have hp : ∀ {i j : Is.Inst}, i.op = j.op → i.rd = j.rd → i.rs1 = j.rs1 → i.rs2 = j.rs2 → i.imm = j.imm → (i, (0 : Int)) = (j, 0) := by
    rintro ⟨⟩ ⟨⟩ h1 h2 h3 h4 h5; simp only at h1 h2 h3 h4 h5; subst h1 h2 h3 h4 h5; rfl
  have hA : (imm % 4294967296).toNat < 4294967296 := by omega
  have bs := fun k h1 h2 => Is.back_signed imm k h1 h2
  have hAe : (((imm % 4294967296).toNat : Nat) : Int) = imm % 4294967296 := by omega
  rcases hs with rfl | rfl | rfl | rfl | rfl | rfl | rfl | rfl
  · obtain rfl := e.rs1 (by simp); obtain rfl := e.rs2 (by simp); obtain rfl := e.three (by simp); obtain rfl := e.seven (by simp); have hl' : (0 : Int) ≤ imm := hl; have hm' : imm ≤ (1048575 : Int) := hm
    clear hl hm he
    generalize (imm % 4294967296).toNat = A at *
    simp only [Is.wordS, Is.decS]
    refine ⟨hp rfl ?_ rfl rfl ?_, by omega, by omega, fun _ => by omega, fun h => by first | (exfalso; omega) | omega, fun h => by first | (exfalso; omega) | omega⟩
    · show (((code + rd * 128 + A % 1048576 * 4096) / 128 % 32 : Nat) : Int) = rd; omega
    · show (((code + rd * 128 + A % 1048576 * 4096) / 4096 : Nat) : Int) = imm; omega
  · obtain rfl := e.rs1 (by simp); obtain rfl := e.rs2 (by simp); obtain rfl := e.three (by simp); obtain rfl := e.seven (by simp); have hl' : (-1048576 : Int) ≤ imm := hl; have hm' : imm ≤ (1048574 : Int) := hm
    have he' : imm % 2 = 0 := he rfl
    clear hl hm he
    generalize (imm % 4294967296).toNat = A at *
    simp only [Is.wordS, Is.decS]
    refine ⟨hp rfl ?_ rfl rfl ?_, by omega, by omega, fun _ => by omega, fun h => by first | (exfalso; omega) | omega, fun h => by first | (exfalso; omega) | omega⟩
    · show (((code + rd * 128 + A / 4096 % 256 * 4096 + A / 2048 % 2 * 1048576 + A / 2 % 1024 * 2097152 + A / 1048576 % 2 * 2147483648) / 128 % 32 : Nat) : Int) = rd; omega
    · have hA2 : A % 2 = 0 := by omega
      exact bs 21 (by omega) (by omega) (by simp; omega) (by simp; omega) _ (by
        rw [Is.jv_word code rd _ _ _ _ hc hd (Nat.mod_lt _ (by omega)) (Nat.mod_lt _ (by omega)) (Nat.mod_lt _ (by omega)) (Nat.mod_lt _ (by omega)), Is.jv_imm A hA2])
  · obtain rfl := e.rs2 (by simp); obtain rfl := e.seven (by simp); have hl' : (-2048 : Int) ≤ imm := hl; have hm' : imm ≤ (2047 : Int) := hm
    clear hl hm he
    generalize (imm % 4294967296).toNat = A at *
    simp only [Is.wordS, Is.decS]
    refine ⟨hp rfl ?_ ?_ rfl ?_, by omega, by omega, fun _ => by omega, fun h => by first | (exfalso; omega) | omega, fun h => by first | (exfalso; omega) | omega⟩
    · show (((code + rd * 128 + three * 4096 + rs1 * 32768 + A % 4096 * 1048576) / 128 % 32 : Nat) : Int) = rd; omega
    · show (((code + rd * 128 + three * 4096 + rs1 * 32768 + A % 4096 * 1048576) / 32768 % 32 : Nat) : Int) = rs1; omega
    · exact bs 12 (by omega) (by omega) (by simp; omega) (by simp; omega) ((code + rd * 128 + three * 4096 + rs1 * 32768 + A % 4096 * 1048576) / 1048576) (by simp only [Nat.reducePow]; omega)
  · obtain rfl := e.rd (by simp); obtain rfl := e.seven (by simp); have hl' : (-4096 : Int) ≤ imm := hl; have hm' : imm ≤ (4094 : Int) := hm
    have he' : imm % 2 = 0 := he rfl
    clear hl hm he
    generalize (imm % 4294967296).toNat = A at *
    have hA2 : A % 2 = 0 := by omega
    have hbi := Is.bv_imm A hA2
    obtain ⟨w1, w2, w3, w4, w5⟩ := Is.b_word code (A / 2048 % 2) (A / 2 % 16) three rs1 rs2 (A / 32 % 64) (A / 4096 % 2) hc (Nat.mod_lt _ (by omega)) (Nat.mod_lt _ (by omega)) h3 ha hb (Nat.mod_lt _ (by omega)) (Nat.mod_lt _ (by omega))
    rw [hbi] at w1
    simp only [Is.wordS, Is.decS]
    refine ⟨hp rfl rfl ?_ ?_ ?_, by omega, w5, fun _ => w4, fun h => by exfalso; omega, fun h => by exfalso; omega⟩
    · exact congrArg (fun n : Nat => (n : Int)) w2
    · exact congrArg (fun n : Nat => (n : Int)) w3
    · exact bs 13 (by omega) (by omega) (by simp; omega) (by simp; omega) _ w1
  · obtain rfl := e.rd (by simp); obtain rfl := e.seven (by simp); have hl' : (-2048 : Int) ≤ imm := hl; have hm' : imm ≤ (2047 : Int) := hm
    clear hl hm he
    generalize (imm % 4294967296).toNat = A at *
    obtain ⟨w1, w2, w3, w4, w5⟩ := Is.s_word code (A % 32) three rs1 rs2 (A / 32 % 128) hc (Nat.mod_lt _ (by omega)) h3 ha hb (Nat.mod_lt _ (by omega))
    rw [show A % 32 + A / 32 % 128 * 32 = A % 4096 by omega] at w1
    simp only [Is.wordS, Is.decS]
    refine ⟨hp rfl rfl ?_ ?_ ?_, by omega, w5, fun _ => w4, fun h => by exfalso; omega, fun h => by exfalso; omega⟩
    · exact congrArg (fun n : Nat => (n : Int)) w2
    · exact congrArg (fun n : Nat => (n : Int)) w3
    · exact bs 12 (by omega) (by omega) (by simp; omega) (by simp; omega) _ w1
  · obtain rfl := e.rs2 (by simp); have hl' : (0 : Int) ≤ imm := hl; have hm' : imm ≤ (31 : Int) := hm
    clear hl hm he
    generalize (imm % 4294967296).toNat = A at *
    simp only [Is.wordS, Is.decS]
    refine ⟨hp rfl ?_ ?_ rfl ?_, by omega, by omega, fun _ => by omega, fun h => by first | (exfalso; omega) | omega, fun h => by first | (exfalso; omega) | omega⟩
    · show (((code + rd * 128 + three * 4096 + rs1 * 32768 + A % 32 * 1048576 + seven * 33554432) / 128 % 32 : Nat) : Int) = rd; omega
    · show (((code + rd * 128 + three * 4096 + rs1 * 32768 + A % 32 * 1048576 + seven * 33554432) / 32768 % 32 : Nat) : Int) = rs1; omega
    · show (((code + rd * 128 + three * 4096 + rs1 * 32768 + A % 32 * 1048576 + seven * 33554432) / 1048576 % 32 : Nat) : Int) = imm; omega
  · have hl' : (0 : Int) ≤ imm := hl; have hm' : imm ≤ (0 : Int) := hm
    clear hl hm he
    generalize (imm % 4294967296).toNat = A at *
    simp only [Is.wordS, Is.decS]
    refine ⟨hp rfl ?_ ?_ ?_ ?_, by omega, by omega, fun _ => by omega, fun h => by first | (exfalso; omega) | omega, fun h => by first | (exfalso; omega) | omega⟩
    · show (((code + rd * 128 + three * 4096 + rs1 * 32768 + rs2 * 1048576 + seven * 33554432) / 128 % 32 : Nat) : Int) = rd; omega
    · show (((code + rd * 128 + three * 4096 + rs1 * 32768 + rs2 * 1048576 + seven * 33554432) / 32768 % 32 : Nat) : Int) = rs1; omega
    · show (((code + rd * 128 + three * 4096 + rs1 * 32768 + rs2 * 1048576 + seven * 33554432) / 1048576 % 32 : Nat) : Int) = rs2; omega
    · show (0 : Int) = imm; omega
  · obtain rfl := e.rd (by simp); obtain rfl := e.rs1 (by simp); obtain rfl := e.rs2 (by simp); obtain rfl := e.three (by simp); obtain rfl := e.seven (by simp); have hl' : (-2048 : Int) ≤ imm := hl; have hm' : imm ≤ (2047 : Int) := hm
    clear hl hm he
    generalize (imm % 4294967296).toNat = A at *
    simp only [Is.wordS, Is.decS]
    refine ⟨hp rfl rfl rfl rfl ?_, by omega, by omega, fun _ => by omega, fun h => by first | (exfalso; omega) | omega, fun h => by first | (exfalso; omega) | omega⟩
    · exact bs 12 (by omega) (by omega) (by simp; omega) (by simp; omega) ((code + A % 4096 * 1048576) / 1048576) (by simp only [Nat.reducePow]; omega)
end Go.Proofs.Ytijekhdndegdaaa
