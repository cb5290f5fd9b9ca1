/- Plain: what is read of a head's bytes, with anything behind; what bytes the head has that is read. -/
import Derived.Test.YtfffkfcemajcpaaNmRefRead2
namespace Go.Proofs.Ytfffkfcemajcpaa
open Go.RowKit Kit
set_option linter.unusedVariables false
set_option linter.unusedSimpArgs false

theorem Nm.word_le4 {a : Nat} (ha : a < 4294967296) : Nm.wordN (UInt8.ofNat a).toNat (UInt8.ofNat (a / 256)).toNat (UInt8.ofNat (a / 65536)).toNat (UInt8.ofNat (a / 16777216)).toNat = a := by
  simp only [Nm.wordN, UInt8.toNat_ofNat']; omega
theorem Nm.head_open (l : List UInt8) (fl a b c : Nat) (more : List UInt8) :
    Nm.headB l fl a b c ++ more = Nm.les [a, b, c] ++ [UInt8.ofNat fl, UInt8.ofNat l.length] ++ (l ++ (List.replicate (Nm.lengthN l.length - (14 + l.length)) 0 ++ more)) := by
  simp only [Nm.headB, List.append_assoc]
theorem Nm.back1 (l : List UInt8) (fl a b c : Nat) (more : List UInt8) (hr : Nm.right l = true) (hl : l.length ≤ 31) (hf : fl ≤ 15) (ha : a < 4294967296) (hb : b < 4294967296) (hc : c < 4294967296) :
    Nm.readV (Nm.headB l fl a b c ++ more) = .tuple #[hv ⟨l.toArray⟩ fl a b c, .int .i64 (Nm.lengthN l.length : Nat), .int .i64 0] := by
  have hln : 14 + l.length ≤ Nm.lengthN l.length ∧ Nm.lengthN l.length ≤ 14 + l.length + 3 := by unfold Nm.lengthN; rw [if_neg (by omega)]; omega
  have hlen : (Nm.headB l fl a b c ++ more).length = Nm.lengthN l.length + more.length := by rw [List.length_append, Nm.headB_length hl]
  rw [Nm.head_open] at hlen ⊢
  generalize hT : l ++ (List.replicate (Nm.lengthN l.length - (14 + l.length)) 0 ++ more) = T at hlen ⊢
  have e13 : Nm.nl (Nm.les [a, b, c] ++ [UInt8.ofNat fl, UInt8.ofNat l.length] ++ T) = l.length := by
    show (UInt8.ofNat l.length).toNat = _
    rw [UInt8.toNat_ofNat']; omega
  have e12 : Nm.flg (Nm.les [a, b, c] ++ [UInt8.ofNat fl, UInt8.ofNat l.length] ++ T) = fl := by
    show (UInt8.ofNat fl).toNat = _
    rw [UInt8.toNat_ofNat']; omega
  have w0 : Nm.wat (Nm.les [a, b, c] ++ [UInt8.ofNat fl, UInt8.ofNat l.length] ++ T) 0 = a := Nm.word_le4 ha
  have w4 : Nm.wat (Nm.les [a, b, c] ++ [UInt8.ofNat fl, UInt8.ofNat l.length] ++ T) 4 = b := Nm.word_le4 hb
  have w8 : Nm.wat (Nm.les [a, b, c] ++ [UInt8.ofNat fl, UInt8.ofNat l.length] ++ T) 8 = c := Nm.word_le4 hc
  have d14 : (Nm.les [a, b, c] ++ [UInt8.ofNat fl, UInt8.ofNat l.length] ++ T).drop 14 = T := rfl
  have hname : Nm.name (Nm.les [a, b, c] ++ [UInt8.ofNat fl, UInt8.ofNat l.length] ++ T) = l := by
    rw [Nm.name, d14, e13, ← hT]; exact List.take_left' rfl
  have hpad : (Nm.pad (Nm.les [a, b, c] ++ [UInt8.ofNat fl, UInt8.ofNat l.length] ++ T)).all (· == 0) = true := by
    rw [Nm.pad, e13, ← List.drop_drop, d14, ← hT, List.drop_left' rfl, List.take_left' (by simp)]
    simp
  have hg : Nm.goodB (Nm.les [a, b, c] ++ [UInt8.ofNat fl, UInt8.ofNat l.length] ++ T) = true := by
    rw [Nm.goodB, e13, e12, hname, hlen, hpad, hr]
    simp; omega
  rw [Nm.readV_good hg, hname, e12, w0, w4, w8, e13]
theorem Nm.back2 (b : List UInt8) (hg : Nm.goodB b = true) : Nm.errN (Nm.name b) (Nm.flg b) = 0 ∧ Nm.outB (Nm.name b) (Nm.flg b) (Nm.wat b 0) (Nm.wat b 4) (Nm.wat b 8) = b.take (Nm.lengthN (Nm.nl b)) ∧ Nm.lengthN (Nm.nl b) ≤ b.length := by
  have h := hg
  simp only [Nm.goodB, Bool.and_eq_true, decide_eq_true_eq] at h
  obtain ⟨h1, h2, h3, h4, h5, h6, h7⟩ := h
  have h0 : Nm.errN (Nm.name b) (Nm.flg b) = 0 := Nm.errN_nat.2 ⟨h4, h5⟩
  refine ⟨h0, ?_, h6⟩
  rw [Nm.outB, if_pos h0, Int.toNat_natCast]
  exact ((Nm.take_head b h3 h2 h6).2 h7).symm

end Go.Proofs.Ytfffkfcemajcpaa
