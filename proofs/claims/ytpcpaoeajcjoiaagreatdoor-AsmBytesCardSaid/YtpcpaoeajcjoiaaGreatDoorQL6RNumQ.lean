/- Texts joined, what is not reached left out. -/
import Derived.Test.YtpcpaoeajcjoiaaGreatDoorKU
/- The document's side: digit, Number (XL6RNum without the document's words; never import both). -/
namespace Go.Proofs.YtpcpaoeajcjoiaaGreatDoor
open Go.RowKit Kit
set_option linter.unusedVariables false
set_option linter.unusedSimpArgs false

def L6.digB (base : Nat) (c : UInt8) : Int := match L6.dig c with | none => -1 | some d => if base ≤ d then -1 else d
theorem lret_i {a b : Int} (h : a = b) : Ending.returned (.int .i64 a) = .returned (.int .i64 b) := by rw [h]
theorem rdigit_any (c : UInt8) (base : Nat) (w : World) (hb0 : 2 ≤ base) (hb1 : base ≤ 16) : Calls Tryz.prog 259 #[.int .u8 c.toNat, .int .i64 (base : Int)] w fun e w' => e = .returned (.int .i64 (L6.digB base c)) ∧ w = w' := by
  have hc := c.toNat_lt
  by_cases h1 : 48 ≤ c.toNat ∧ c.toNat ≤ 57
  · have a1 : (48 : Int) ≤ c.toNat := by omega
    have a2 : (c.toNat : Int) ≤ 57 := by omega
    have a3 : ¬ (97 : Int) ≤ c.toNat := by omega
    have w1 : IntKind.u8.wrap ((c.toNat : Int) - 48) = (c.toNat : Int) - 48 := by rw [IntKind.wrap_u8]; omega
    have w2 : wrap64 ((c.toNat : Int) - 48) = (c.toNat : Int) - 48 := by unfold wrap64; omega
    have HD := Lib.hid (show L6.dig c = some (c.toNat - 48) from by unfold L6.dig; rw [if_pos h1])
    by_cases hb : base ≤ c.toNat - 48
    · have b1 : (base : Int) ≤ (c.toNat : Int) - 48 := by omega
      have HR := Lib.hid (show L6.digB base c = -1 from by unfold L6.digB; rw [HD.out]; simp only; rw [if_pos hb])
      clear h1 hb hc
      go_enter Tryz.func259, Tryz.ntmps259
      go_wp2_with fail
      go_ret
      exact ⟨lret_i HR.out.symm, rfl⟩
    · have b1 : ¬ (base : Int) ≤ (c.toNat : Int) - 48 := by omega
      have HR := Lib.hid (show L6.digB base c = (c.toNat : Int) - 48 from by unfold L6.digB; rw [HD.out]; simp only; rw [if_neg hb]; omega)
      clear h1 hb hc
      go_enter Tryz.func259, Tryz.ntmps259
      go_wp2_with fail
      go_ret
      exact ⟨lret_i HR.out.symm, rfl⟩
  · by_cases h2 : 97 ≤ c.toNat ∧ c.toNat ≤ 102
    · have a1 : (48 : Int) ≤ c.toNat := by omega
      have a2 : ¬ (c.toNat : Int) ≤ 57 := by omega
      have a3 : (97 : Int) ≤ c.toNat := by omega
      have a4 : (c.toNat : Int) ≤ 102 := by omega
      have w1 : IntKind.u8.wrap ((c.toNat : Int) - 97) = (c.toNat : Int) - 97 := by rw [IntKind.wrap_u8]; omega
      have w2 : wrap64 ((c.toNat : Int) - 97) = (c.toNat : Int) - 97 := by unfold wrap64; omega
      have w3 : IntKind.i64.wrap ((c.toNat : Int) - 97 + 10) = (c.toNat : Int) - 97 + 10 := by rw [IntKind.wrap_i64]; omega
      have HD := Lib.hid (show L6.dig c = some (c.toNat - 87) from by unfold L6.dig; rw [if_neg h1, if_pos h2])
      by_cases hb : base ≤ c.toNat - 87
      · have b1 : (base : Int) ≤ (c.toNat : Int) - 97 + 10 := by omega
        have HR := Lib.hid (show L6.digB base c = -1 from by unfold L6.digB; rw [HD.out]; simp only; rw [if_pos hb])
        clear h1 h2 hb hc
        go_enter Tryz.func259, Tryz.ntmps259
        go_wp2_with fail
        go_ret
        exact ⟨lret_i HR.out.symm, rfl⟩
      · have b1 : ¬ (base : Int) ≤ (c.toNat : Int) - 97 + 10 := by omega
        have HR := Lib.hid (show L6.digB base c = (c.toNat : Int) - 97 + 10 from by unfold L6.digB; rw [HD.out]; simp only; rw [if_neg hb]; omega)
        clear h1 h2 hb hc
        go_enter Tryz.func259, Tryz.ntmps259
        go_wp2_with fail
        go_ret
        exact ⟨lret_i HR.out.symm, rfl⟩
    · have HR := Lib.hid (show L6.digB base c = -1 from by unfold L6.digB L6.dig; rw [if_neg h1, if_neg h2])
      have b1 : ¬ (base : Int) ≤ -1 := by omega
      by_cases k1 : 48 ≤ c.toNat
      · have a1 : (48 : Int) ≤ c.toNat := by omega
        have a2 : ¬ (c.toNat : Int) ≤ 57 := by omega
        by_cases k2 : 97 ≤ c.toNat
        · have a3 : (97 : Int) ≤ c.toNat := by omega
          have a4 : ¬ (c.toNat : Int) ≤ 102 := by omega
          clear h1 h2 k1 k2 hc
          go_enter Tryz.func259, Tryz.ntmps259
          go_wp2_with fail
          go_ret
          exact ⟨lret_i HR.out.symm, rfl⟩
        · have a3 : ¬ (97 : Int) ≤ c.toNat := by omega
          clear h1 h2 k1 k2 hc
          go_enter Tryz.func259, Tryz.ntmps259
          go_wp2_with fail
          go_ret
          exact ⟨lret_i HR.out.symm, rfl⟩
      · have a1 : ¬ (48 : Int) ≤ c.toNat := by omega
        have a3 : ¬ (97 : Int) ≤ c.toNat := by omega
        clear h1 h2 k1 hc
        go_enter Tryz.func259, Tryz.ntmps259
        go_wp2_with fail
        go_ret
        exact ⟨lret_i HR.out.symm, rfl⟩
/-- The number of digits to a base, with a sign. -/
def L6.signed (base : Nat) (neg : Bool) (t : List UInt8) : Int × Bool := match L6.digits base 0 t with
  | none => (0, false)
  | some n => if t ≠ [] ∧ -2147483648 ≤ (if neg then -(n : Int) else n) ∧ (if neg then -(n : Int) else n) ≤ 4294967295 then ((if neg then -(n : Int) else n), true) else (0, false)
def L6.isHex (l : List UInt8) : Bool := decide (2 < l.length) && (l.getD 0 0 == 48 && l.getD 1 0 == 120)
def L6.isNeg (l : List UInt8) : Bool := decide (0 < l.length) && (l.getD 0 0 == 45)
def L6.numT (l : List UInt8) : List UInt8 := if L6.isHex l then l.drop 2 else if L6.isNeg l then l.drop 1 else l
def L6.numB (l : List UInt8) : Nat := if L6.isHex l then 16 else 10
def L6.numS (l : List UInt8) : Bool := if L6.isHex l then false else L6.isNeg l
theorem bcomm (a b : UInt8) : (a == b) = (b == a) := by rw [Bool.eq_iff_iff, beq_iff_eq, beq_iff_eq]; exact eq_comm
theorem L6.isHex_prefix (l : List UInt8) : L6.isHex l = (Lib.hasPrefix l [48, 120] && !(Lib.trimPrefix l [48, 120]).isEmpty) := by
  match l with
  | [] => rfl
  | [a] => simp [L6.isHex, Lib.hasPrefix, List.isPrefixOf]
  | [a, b] =>
    by_cases h1 : a = 48
    · subst h1
      by_cases h2 : b = 120
      · subst h2; simp [L6.isHex, Lib.hasPrefix, Lib.trimPrefix, List.isPrefixOf]
      · have h2' : ¬ 120 = b := fun e => h2 e.symm
        simp [L6.isHex, Lib.hasPrefix, Lib.trimPrefix, List.isPrefixOf, h2, h2', bcomm 120 b]
    · have h1' : ¬ 48 = a := fun e => h1 e.symm
      simp [L6.isHex, Lib.hasPrefix, Lib.trimPrefix, List.isPrefixOf, h1, h1', bcomm 48 a, bcomm 120 b]
  | a :: b :: c :: t =>
    by_cases h1 : a = 48
    · subst h1
      by_cases h2 : b = 120
      · subst h2; simp [L6.isHex, Lib.hasPrefix, Lib.trimPrefix, List.isPrefixOf]
      · have h2' : ¬ 120 = b := fun e => h2 e.symm
        simp [L6.isHex, Lib.hasPrefix, Lib.trimPrefix, List.isPrefixOf, h2, h2', bcomm 120 b]
    · have h1' : ¬ 48 = a := fun e => h1 e.symm
      simp [L6.isHex, Lib.hasPrefix, Lib.trimPrefix, List.isPrefixOf, h1, h1', bcomm 48 a, bcomm 120 b]
theorem L6.isNeg_prefix (l : List UInt8) : L6.isNeg l = Lib.hasPrefix l [45] := by
  cases l with
  | nil => rfl
  | cons a t =>
    by_cases h : a = 45
    · subst h; simp [L6.isNeg, Lib.hasPrefix, List.isPrefixOf]
    · have h' : ¬ 45 = a := fun e => h e.symm
      simp [L6.isNeg, Lib.hasPrefix, List.isPrefixOf, h, h', bcomm 45 a]
theorem L6.isHex_trim {l : List UInt8} (h : L6.isHex l = true) : Lib.trimPrefix l [48, 120] = l.drop 2 := by
  rw [L6.isHex_prefix, Bool.and_eq_true] at h
  unfold Lib.trimPrefix
  rw [if_pos h.1]
  rfl
theorem L6.isNeg_trim {l : List UInt8} (h : L6.isNeg l = true) : Lib.trimPrefix l [45] = l.drop 1 := by
  rw [L6.isNeg_prefix] at h
  unfold Lib.trimPrefix
  rw [if_pos h]
  rfl
theorem L6.signed_raw (base : Nat) (neg : Bool) (t : List UInt8) (N : Int) (O : Bool) (hN : N = if neg then -((L6.digitsV base t).1 : Int) else ((L6.digitsV base t).1 : Int)) (hO : O = (L6.digitsV base t).2) :
    (if O && (decide (-2147483648 ≤ N) && decide (N ≤ 4294967295)) then (N, true) else (0, false)) = L6.signed base neg t := by
  unfold L6.signed
  unfold L6.digitsV at hN hO
  cases h : L6.digits base 0 t with
  | none => rw [h] at hO; simp only at hO; rw [hO]; rfl
  | some n =>
    rw [h] at hN hO
    simp only at hN hO
    subst hN
    rw [hO]
    cases t with
    | nil => simp
    | cons c u => simp
/-- The program's number is the document's. -/
theorem L6.number_signed {l : List UInt8} (hq : L6.quoted3 l = false) : L6.number l = L6.signed (L6.numB l) (L6.numS l) (L6.numT l) := by
  rw [L6.number_raw hq]
  unfold L6.numB L6.numS L6.numT
  cases hx : L6.isHex l
  · cases hn : L6.isNeg l
    · have e : L6.rawV l = ((((L6.digitsV 10 l).1 : Nat) : Int), (L6.digitsV 10 l).2) := by
        unfold L6.rawV
        rw [← L6.isHex_prefix, hx, ← L6.isNeg_prefix, hn]; rfl
      simp only [Bool.false_eq_true, if_false]
      rw [e]
      exact L6.signed_raw 10 false l _ _ rfl rfl
    · have e : L6.rawV l = (-(((L6.digitsV 10 (l.drop 1)).1 : Nat) : Int), (L6.digitsV 10 (l.drop 1)).2) := by
        unfold L6.rawV
        rw [← L6.isHex_prefix, hx, ← L6.isNeg_prefix, hn, L6.isNeg_trim hn]; rfl
      simp only [Bool.false_eq_true, if_false, if_true]
      rw [e]
      exact L6.signed_raw 10 true (l.drop 1) _ _ rfl rfl
  · have e : L6.rawV l = ((((L6.digitsV 16 (l.drop 2)).1 : Nat) : Int), (L6.digitsV 16 (l.drop 2)).2) := by
      unfold L6.rawV
      rw [← L6.isHex_prefix, hx, L6.isHex_trim hx]; rfl
    simp only [if_true]
    rw [e]
    exact L6.signed_raw 16 false (l.drop 2) _ _ rfl rfl
theorem L6.drop_str (l : List UInt8) (k : Nat) : (⟨l.toArray⟩ : ByteArray).extract k l.length = ⟨(l.drop k).toArray⟩ := by rw [ext_eq, List.take_of_length_le (by simp)]
set_option maxRecDepth 20000 in
set_option maxHeartbeats 1000000 in
theorem rnumber_any (l : List UInt8) (w : World) (hl : l.length ≤ maxLen) : Calls Tryz.prog 224 #[.string ⟨l.toArray⟩] w fun e w' => e = .returned (.tuple #[.int .i64 (L6.number l).1, .bool (L6.number l).2]) ∧ w = w' := by
  have HL := Lib.hid hl
  have cD := Lib.hid (fun (c : UInt8) (b : Nat) (h0 : 2 ≤ b) (h1 : b ≤ 16) W => rdigit_any c b W h0 h1)
  have HNQ := Lib.hid (show L6.quoted3 l = true → L6.number l = ((((l.getD 1 0).toNat : Nat) : Int), true) from fun h => by unfold L6.number; rw [if_pos h])
  by_cases hq : L6.quoted3 l = true
  · have hn := HNQ.out hq
    have HNV := Lib.hid hn
    unfold L6.quoted3 at hq
    simp only [Bool.and_eq_true, decide_eq_true_eq, beq_iff_eq] at hq
    obtain ⟨h3, q0, q2⟩ := hq
    have g0 : 0 < l.length := by omega
    have g1 : 1 < l.length := by omega
    have g2 : 2 < l.length := by omega
    have k3 : (l.length : Int) = 3 := by omega
    have e0 : (((⟨l.toArray⟩ : ByteArray)[0]'g0).toNat : Int) = 39 := by rw [L6.get_data l 0 g0, q0]; rfl
    have e2 : (((⟨l.toArray⟩ : ByteArray)[2]'g2).toNat : Int) = 39 := by rw [L6.get_data l 2 g2, q2]; rfl
    have E1 := Lib.hid (L6.get_data l 1 g1)
    have hw := wrap64_byte ((⟨l.toArray⟩ : ByteArray)[1]'g1)
    clear hn q0 q2 h3
    go_enter Tryz.func224, Tryz.ntmps224
    go_wp2_with fail
    go_ret2
    exact ⟨lret_ib (by rw [HNV.out, ← E1.out]; exact wrap64_byte _) (by rw [HNV.out]), rfl⟩
  · have HNV := Lib.hid (L6.number_signed (l := l) (by simpa using hq))
    have HQF := Lib.hid (show L6.quoted3 l = false by simpa using hq)
    clear hq HNQ
    go_enter Tryz.func224, Tryz.ntmps224
    go_upto_region 1 with fail
    go_cut [22] (fun s22 wx => s22 = .bool false ∧ wx = w)
    case first =>
      by_cases h3 : l.length = 3
      · have k3 : (l.length : Int) = 3 := by omega
        have g0 : 0 < l.length := by omega
        have g2 : 2 < l.length := by omega
        have e0 : ((((⟨l.toArray⟩ : ByteArray)[0]'g0).toNat : Int) == 39) = (l.getD 0 0 == 39) := by rw [L6.get_data l 0 g0]; exact byte_eq _ 39
        have e2 : ((((⟨l.toArray⟩ : ByteArray)[2]'g2).toNat : Int) == 39) = (l.getD 2 0 == 39) := by rw [L6.get_data l 2 g2]; exact byte_eq _ 39
        have hq := HQF.out
        unfold L6.quoted3 at hq
        rw [decide_eq_true h3, Bool.true_and] at hq
        cases c0 : (l.getD 0 0 == 39)
        · rw [c0] at e0
          clear e2 hq c0 h3
          go_wp2_with fail
          go_meet
          exact ⟨rfl, rfl⟩
        · rw [c0, Bool.true_and] at hq
          rw [c0] at e0
          rw [hq] at e2
          clear hq c0 h3
          go_wp2_with fail
          go_meet
          exact ⟨rfl, rfl⟩
      · have k3 : ((l.length : Int) == 3) = false := by rw [beq_eq_false_iff_ne]; omega
        clear h3
        go_wp2_with fail
        go_meet
        exact ⟨rfl, rfl⟩
    case rest =>
      obtain ⟨rfl, rfl⟩ := hcut
      go_upto_region 6 with fail
      go_cut [39] (fun s wx => s = .bool (L6.isHex l) ∧ wx = wc)
      case first =>
        have HX := Lib.hid (show L6.isHex l = (decide (2 < l.length) && (l.getD 0 0 == 48 && l.getD 1 0 == 120)) from rfl)
        by_cases h2 : 2 < l.length
        · have k2 : (2 : Int) < (l.length : Int) := by omega
          have g0 : 0 < l.length := by omega
          have g1 : 1 < l.length := by omega
          have e0 : ((((⟨l.toArray⟩ : ByteArray)[0]'g0).toNat : Int) == 48) = (l.getD 0 0 == 48) := by rw [L6.get_data l 0 g0]; exact byte_eq _ 48
          have e1 : ((((⟨l.toArray⟩ : ByteArray)[1]'g1).toNat : Int) == 120) = (l.getD 1 0 == 120) := by rw [L6.get_data l 1 g1]; exact byte_eq _ 120
          rw [decide_eq_true h2, Bool.true_and] at HX
          generalize (l.getD 1 0 == 120) = b1 at *
          cases c0 : (l.getD 0 0 == 48)
          · rw [c0] at e0 HX
            clear e1 c0 h2
            go_wp2_with fail
            go_meet
            exact ⟨by rw [HX.out]; rfl, rfl⟩
          · rw [c0] at e0 HX
            clear c0 h2
            go_wp2_with fail
            go_meet
            exact ⟨by rw [HX.out]; rfl, rfl⟩
        · have k2 : ¬ (2 : Int) < (l.length : Int) := by omega
          rw [decide_eq_false h2, Bool.false_and] at HX
          clear h2
          go_wp2_with fail
          go_meet
          exact ⟨by rw [HX.out], rfl⟩
      case rest =>
        obtain ⟨rfl, rfl⟩ := hcut
        have HT := Lib.hid (show L6.numT l = if L6.isHex l then l.drop 2 else if L6.isNeg l then l.drop 1 else l from rfl)
        have HB := Lib.hid (show L6.numB l = if L6.isHex l then 16 else 10 from rfl)
        have HS := Lib.hid (show L6.numS l = if L6.isHex l then false else L6.isNeg l from rfl)
        have HTL := Lib.hid (show (L6.numT l).length ≤ maxLen from by
          have : (L6.numT l).length ≤ l.length := by unfold L6.numT; split <;> (try split) <;> simp
          exact Nat.le_trans this HL.out)
        have HBB := Lib.hid (show 2 ≤ L6.numB l ∧ L6.numB l ≤ 16 from by unfold L6.numB; split <;> omega)
        have H2L := Lib.hid (show L6.isHex l = true → 2 < l.length from fun h => by unfold L6.isHex at h; simp at h; exact h.1)
        have HXN := Lib.hid (show L6.isNeg l = (decide (0 < l.length) && (l.getD 0 0 == 45)) from rfl)
        generalize L6.isHex l = hx at *
        go_upto_if 39 with fail
        go_cut [4, 5, 6] (fun s4 s5 s6 wx => s4 = .string ⟨(L6.numT l).toArray⟩ ∧ s5 = .int .i64 (L6.numB l : Int) ∧ s6 = .int .i64 (if L6.numS l then -1 else 1) ∧ wx = wc)
        case first =>
          cases hx
          · go_upto_region 9 with fail
            go_cut [49] (fun s wx => s = .bool (L6.isNeg l) ∧ wx = wc)
            case first =>
              by_cases h0 : 0 < l.length
              · have k0 : (0 : Int) < (l.length : Int) := by omega
                have e0 : ((((⟨l.toArray⟩ : ByteArray)[0]'h0).toNat : Int) == 45) = (l.getD 0 0 == 45) := by rw [L6.get_data l 0 h0]; exact byte_eq _ 45
                rw [decide_eq_true h0, Bool.true_and] at HXN
                generalize (l.getD 0 0 == 45) = b0 at *
                clear HT HB HS
                go_wp2_with fail
                go_meet
                exact ⟨by rw [HXN.out], rfl⟩
              · have k0 : ¬ (0 : Int) < (l.length : Int) := by omega
                rw [decide_eq_false h0, Bool.false_and] at HXN
                clear h0 HT HB HS
                go_wp2_with fail
                go_meet
                exact ⟨by rw [HXN.out], rfl⟩
            case rest =>
              obtain ⟨rfl, rfl⟩ := hcut
              have H0L := Lib.hid (show L6.isNeg l = true → 0 < l.length from fun h => by unfold L6.isNeg at h; simp at h; cases l with | nil => simp at h | cons => simp)
              clear HXN
              generalize L6.isNeg l = ng at *
              cases ng
              · go_wp2_with fail
                go_meet
                exact ⟨by rw [HT.out]; rfl, by rw [HB.out]; rfl, by rw [HS.out]; rfl, rfl⟩
              · have h1 : 1 ≤ l.length := H0L.out rfl
                have k1 : (1 : Int) ≤ (l.length : Int) := by omega
                have hd := L6.drop_str l 1
                go_wp2_with fail
                go_meet
                exact ⟨by rw [HT.out]; first | exact congrArg Value.string hd | simp, by rw [HB.out]; rfl, by rw [HS.out]; rfl, rfl⟩
          · have h1 := H2L.out rfl
            have k1 : (2 : Int) ≤ (l.length : Int) := by omega
            have hd := L6.drop_str l 2
            go_wp2_with fail
            go_meet
            exact ⟨by rw [HT.out]; first | exact congrArg Value.string hd | simp, by rw [HB.out]; rfl, by rw [HS.out]; rfl, rfl⟩
        case rest =>
          obtain ⟨rfl, rfl, rfl, rfl⟩ := hcut
          clear HT HB HS H2L HXN HQF HL hl
          generalize L6.numT l = t at *
          generalize L6.numB l = base at *
          generalize L6.numS l = neg at *
          have HG := Lib.hid (fun k (hk : k < t.length) => L6.get_data t k hk)
          obtain ⟨S, hS⟩ : ∃ S : Int, (if neg then -1 else 1) = S := ⟨_, rfl⟩
          rw [hS]
          have HSS := Lib.hid hS
          clear hS
          have HBL := Lib.hid (show t.length ≤ 9223372036854775807 from by have := HTL.out; unfold maxLen at this; exact this)
          go_wp2_with fail
          go_loop [7, 8] (fun a i => ∃ n k : Nat, a = .int .i64 (n : Int) ∧ i = .int .i64 (k : Int) ∧ k ≤ t.length ∧ n ≤ 4294967296 ∧ L6.digits base 0 t = L6.digits base n (t.drop k)) (fun _ i => t.length - (intOf i).toNat)
          case atStart => exact ⟨0, 0, rfl, rfl, Nat.zero_le _, by omega, rfl⟩
          case round =>
            obtain ⟨n, k, rfl, rfl, hk, hn, hd⟩ := hrel
            have HD := Lib.hid hd
            have HN := Lib.hid hn
            clear hd hn
            by_cases hlt : k < t.length
            · have hlt' : (k : Int) < t.length := by omega
              have hw1 : IntKind.i64.wrap ((k : Int) + 1) = (k : Int) + 1 := by have := HBL.out; rw [IntKind.wrap_i64]; omega
              have ci : ∀ W, Calls Tryz.prog 259 #[.int .u8 ((⟨t.toArray⟩ : ByteArray)[k]'hlt).toNat, .int .i64 (base : Int)] W fun e w' => e = .returned (.int .i64 (L6.digB base (t.getD k 0))) ∧ W = w' := fun W => by
                rw [← HG.out k hlt]
                exact cD.out ((⟨t.toArray⟩ : ByteArray)[k]'hlt) base HBB.out.1 HBB.out.2 W
              have CI := Lib.hid ci
              have HDK := Lib.hid (HD.out.trans (by rw [List.drop_eq_getElem_cons hlt, show t[k] = t.getD k 0 from by simp [List.getD, hlt]]))
              have HLT := Lib.hid hlt
              clear ci
              generalize t.getD k 0 = c at CI HDK
              by_cases hneg : L6.digB base c = -1
              · have HR := Lib.hid (show L6.number l = (0, false) from by
                  rw [HNV.out]; unfold L6.signed; rw [HDK.out]; unfold L6.digits
                  unfold L6.digB at hneg
                  cases hdc : L6.dig c with
                  | none => rfl
                  | some d =>
                    rw [hdc] at hneg
                    simp only at hneg ⊢
                    by_cases hb : base ≤ d
                    · rw [if_pos hb]
                    · rw [if_neg hb] at hneg; omega)
                rw [hneg] at CI
                clear hneg HNV HDK
                go_wp2_with (go_at_call 259; refine (CI.out _).mono ?_; rintro e w' ⟨rfl, rfl⟩)
                go_ret2
                exact ⟨lret_ib (by rw [HR.out]) (by rw [HR.out]), rfl⟩
              · obtain ⟨d, hdc, hbd⟩ : ∃ d, L6.dig c = some d ∧ ¬ base ≤ d := by
                  unfold L6.digB at hneg
                  cases hdc : L6.dig c with
                  | none => rw [hdc] at hneg; simp at hneg
                  | some d =>
                    rw [hdc] at hneg
                    simp only at hneg
                    by_cases hb : base ≤ d
                    · rw [if_pos hb] at hneg; simp at hneg
                    · exact ⟨d, rfl, hb⟩
                have hdv : L6.digB base c = (d : Int) := by unfold L6.digB; rw [hdc]; simp only; rw [if_neg hbd]
                rw [hdv] at CI
                have hd16 := L6.dig_lt hdc
                have hneg' : ¬ ((d : Int) < 0) := by omega
                have hmul := Nat.mul_le_mul HN.out HBB.out.2
                obtain ⟨p, hp⟩ : ∃ p, n * base = p := ⟨_, rfl⟩
                rw [hp] at hmul
                have hwm : IntKind.i64.wrap ((n : Int) * (base : Int)) = (p : Int) := by
                  rw [show (n : Int) * (base : Int) = ((n * base : Nat) : Int) from by simp, hp, IntKind.wrap_i64]; omega
                have hws : IntKind.i64.wrap ((p : Int) + (d : Int)) = (p : Int) + (d : Int) := by rw [IntKind.wrap_i64]; omega
                have HDS := Lib.hid (HDK.out.trans (show L6.digits base n (c :: List.drop (k + 1) t) = if 4294967296 < p + d then none else L6.digits base (p + d) (t.drop (k + 1)) from by conv => lhs; unfold L6.digits; rw [hdc]; simp only; rw [if_neg hbd, hp]))
                clear hmul hneg hdv
                by_cases hbig : 4294967296 < p + d
                · have hbig' : (4294967296 : Int) < (p : Int) + (d : Int) := by omega
                  have HR := Lib.hid (show L6.number l = (0, false) from by rw [HNV.out]; unfold L6.signed; rw [HDS.out, if_pos hbig])
                  clear hdc hbd hd16 hbig hp HNV HDS HDK
                  go_wp2_with (go_at_call 259; refine (CI.out _).mono ?_; rintro e w' ⟨rfl, rfl⟩)
                  go_ret2
                  exact ⟨lret_ib (by rw [HR.out]) (by rw [HR.out]), rfl⟩
                · have hbig' : ¬ (4294967296 : Int) < (p : Int) + (d : Int) := by omega
                  have HDN := Lib.hid (show L6.digits base 0 t = L6.digits base (p + d) (t.drop (k + 1)) from by rw [HDS.out, if_neg hbig])
                  have HBG := Lib.hid (show p + d ≤ 4294967296 from by omega)
                  clear hdc hbd hd16 hbig hp HDS HDK
                  go_wp2_with (go_at_call 259; refine (CI.out _).mono ?_; rintro e w' ⟨rfl, rfl⟩)
                  go_round
                  case rel => exact ⟨p + d, k + 1, by simp, by simp, HLT.out, HBG.out, HDN.out⟩
                  case measure => simp [intOf]; omega
            · have hle : (t.length : Int) ≤ (k : Int) := by omega
              have HSG := Lib.hid (show L6.signed base neg t = if t ≠ [] ∧ -2147483648 ≤ (if neg then -(n : Int) else n) ∧ (if neg then -(n : Int) else n) ≤ 4294967295 then ((if neg then -(n : Int) else n), true) else (0, false) from by
                unfold L6.signed; rw [HD.out, List.drop_of_length_le (by omega)]; rfl)
              have hn := HN.out
              have hw0 : IntKind.i64.wrap (n : Int) = (n : Int) := by rw [IntKind.wrap_i64]; omega
              have hwn : IntKind.i64.wrap (-(n : Int)) = -(n : Int) := by rw [IntKind.wrap_i64]; omega
              cases neg
              · have hS : S = 1 := by have := HSS.out; simpa using this.symm
                subst hS
                by_cases ht : t = []
                · subst ht
                  have HR := Lib.hid (show L6.number l = (0, false) from by rw [HNV.out, HSG.out]; rfl)
                  clear HNV HSG HD
                  go_wp2_with fail
                  go_ret2
                  exact ⟨lret_ib (by rw [HR.out]; try rfl) (by rw [HR.out]), rfl⟩
                · have hne : (t == ([] : List UInt8)) = false := by simpa using ht
                  have HT := Lib.hid ht
                  clear ht
                  by_cases hlo : (n : Int) < -2147483648
                  · exact absurd hlo (by omega)
                  · by_cases hhi : 4294967295 < (n : Int)
                    · have HR := Lib.hid (show L6.number l = (0, false) from by rw [HNV.out, HSG.out, if_neg (by rintro ⟨_, h1, h2⟩; simp at h1 h2; omega)])
                      clear HNV HSG HD
                      go_wp2_with fail
                      go_ret2
                      exact ⟨lret_ib (by rw [HR.out]; try rfl) (by rw [HR.out]), rfl⟩
                    · have HR := Lib.hid (show L6.number l = ((n : Int), true) from by rw [HNV.out, HSG.out, if_pos (by refine ⟨HT.out, ?_, ?_⟩ <;> simp <;> omega)]; rfl)
                      clear HNV HSG HD
                      go_wp2_with fail
                      go_ret2
                      exact ⟨lret_ib (by rw [HR.out]) (by rw [HR.out]), rfl⟩
              · have hS : S = -1 := by have := HSS.out; simpa using this.symm
                subst hS
                by_cases ht : t = []
                · subst ht
                  have HR := Lib.hid (show L6.number l = (0, false) from by rw [HNV.out, HSG.out]; rfl)
                  clear HNV HSG HD
                  go_wp2_with fail
                  go_ret2
                  exact ⟨lret_ib (by rw [HR.out]; try rfl) (by rw [HR.out]), rfl⟩
                · have hne : (t == ([] : List UInt8)) = false := by simpa using ht
                  have HT := Lib.hid ht
                  clear ht
                  by_cases hlo : -(n : Int) < -2147483648
                  · have HR := Lib.hid (show L6.number l = (0, false) from by rw [HNV.out, HSG.out, if_neg (by rintro ⟨_, h1, h2⟩; simp at h1 h2; omega)])
                    clear HNV HSG HD
                    go_wp2_with fail
                    go_ret2
                    exact ⟨lret_ib (by rw [HR.out]; try rfl) (by rw [HR.out]), rfl⟩
                  · by_cases hhi : 4294967295 < -(n : Int)
                    · exact absurd hhi (by omega)
                    · have HR := Lib.hid (show L6.number l = (-(n : Int), true) from by rw [HNV.out, HSG.out, if_pos (by refine ⟨HT.out, ?_, ?_⟩ <;> simp <;> omega)]; rfl)
                      clear HNV HSG HD
                      go_wp2_with fail
                      go_ret2
                      exact ⟨lret_ib (by rw [HR.out]) (by rw [HR.out]), rfl⟩
end Go.Proofs.YtpcpaoeajcjoiaaGreatDoor
