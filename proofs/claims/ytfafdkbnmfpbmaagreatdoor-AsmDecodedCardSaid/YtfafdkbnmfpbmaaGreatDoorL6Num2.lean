/- The walks of Number, counted, rows, Register. -/
import Derived.Test.YtfafdkbnmfpbmaaGreatDoorL6Num
import Derived.Test.YtfafdkbnmfpbmaaGreatDoorL6Base
namespace Go.Proofs.YtfafdkbnmfpbmaaGreatDoor
open Go.RowKit Kit
set_option linter.unusedVariables false
set_option linter.unusedSimpArgs false

def L6.quoted3 (l : List UInt8) : Bool := decide (l.length = 3) && (l.getD 0 0 == 39 && l.getD 2 0 == 39)
/-- A number, before its bounds are asked. -/
def L6.rawV (l : List UInt8) : Int × Bool :=
  if Lib.hasPrefix l [48, 120] && !(Lib.trimPrefix l [48, 120]).isEmpty then (((L6.digitsV 16 (Lib.trimPrefix l [48, 120])).1 : Nat), (L6.digitsV 16 (Lib.trimPrefix l [48, 120])).2)
  else if Lib.hasPrefix l [45] then (-((L6.digitsV 10 (Lib.trimPrefix l [45])).1 : Nat), (L6.digitsV 10 (Lib.trimPrefix l [45])).2)
  else (((L6.digitsV 10 l).1 : Nat), (L6.digitsV 10 l).2)
def L6.number (l : List UInt8) : Int × Bool :=
  if L6.quoted3 l then ((((l.getD 1 0).toNat : Nat) : Int), true)
  else if (L6.rawV l).2 && (decide (-2147483648 ≤ (L6.rawV l).1) && decide ((L6.rawV l).1 ≤ 4294967295)) then ((L6.rawV l).1, true) else (0, false)
theorem L6.trimP_len (l p : List UInt8) : (Lib.trimPrefix l p).length ≤ l.length := by
  unfold Lib.trimPrefix
  split
  · simp
  · exact Nat.le_refl _
theorem wrap64_byte (c : UInt8) : wrap64 (c.toNat : Int) = (c.toNat : Int) := by
  have := c.toNat_lt
  unfold wrap64
  omega
/-- The number ahead of its bounds: what stands in the slots. -/
theorem L6.number_raw {l : List UInt8} (hq : L6.quoted3 l = false) : L6.number l = if (L6.rawV l).2 && (decide (-2147483648 ≤ (L6.rawV l).1) && decide ((L6.rawV l).1 ≤ 4294967295)) then ((L6.rawV l).1, true) else (0, false) := by
  unfold L6.number; rw [hq]; rfl
set_option maxRecDepth 20000 in
set_option maxHeartbeats 1000000 in
theorem lnumber_any (l : List UInt8) (w : World) (hl : l.length ≤ maxLen) : Calls Tryz.prog 195 #[.string ⟨l.toArray⟩] w fun e w' => e = .returned (.tuple #[.int .i64 (L6.number l).1, .bool (L6.number l).2]) ∧ w = w' := by
  have HL := Lib.hid hl
  have cD := Lib.hid (fun (t : List UInt8) (ht : t.length ≤ maxLen) (b : Nat) (h0 : 2 ≤ b) (h1 : b ≤ 16) W => ldigits_any t b W ht h0 h1)
  have cX := Lib.hid (fun W => Tryz.strings_CutPrefix ⟨l.toArray⟩ ⟨#[48, 120]⟩ W)
  have cM := Lib.hid (fun W => Tryz.strings_CutPrefix ⟨l.toArray⟩ ⟨#[45]⟩ W)
  have HN := Lib.hid (L6.number_raw (l := l))
  have HT := Lib.hid (L6.trimP_len l)
  have HQ := Lib.hid (show L6.quoted3 l = (decide (l.length = 3) && (l.getD 0 0 == 39 && l.getD 2 0 == 39)) from rfl)
  have HNQ := Lib.hid (show L6.quoted3 l = true → L6.number l = ((((l.getD 1 0).toNat : Nat) : Int), true) from fun h => by unfold L6.number; rw [if_pos h])
  by_cases hq : L6.quoted3 l = true
  · have hn := HNQ.out hq
    have HNV := Lib.hid hn
    unfold L6.quoted3 at hq
    simp only [Bool.and_eq_true, decide_eq_true_eq, beq_iff_eq] at hq
    obtain ⟨h3, q0, q2⟩ := hq
    have g0 : 0 < l.length := by omega
    have g1 : 1 < l.length := by omega
    have g2 : 2 < l.length := by omega
    have k3 : (l.length : Int) = 3 := by omega
    have e0 : (((⟨l.toArray⟩ : ByteArray)[0]'g0).toNat : Int) = 39 := by rw [L6.get_data l 0 g0, q0]; rfl
    have e2 : (((⟨l.toArray⟩ : ByteArray)[2]'g2).toNat : Int) = 39 := by rw [L6.get_data l 2 g2, q2]; rfl
    have E1 := Lib.hid (L6.get_data l 1 g1)
    have hw := wrap64_byte ((⟨l.toArray⟩ : ByteArray)[1]'g1)
    clear hn q0 q2 h3
    go_enter Tryz.func195, Tryz.ntmps195
    go_wp2_with fail
    go_ret2
    exact ⟨lret_ib (by rw [HNV.out, ← E1.out]) (by rw [HNV.out]), rfl⟩
  · have HNV := Lib.hid (HN.out (by simpa using hq))
    have HQF := Lib.hid (show L6.quoted3 l = false by simpa using hq)
    clear hq
    go_enter Tryz.func195, Tryz.ntmps195
    go_upto_region 1 with fail
    go_cut [22] (fun s22 wx => s22 = .bool false ∧ wx = w)
    case first =>
      by_cases h3 : l.length = 3
      · have k3 : (l.length : Int) = 3 := by omega
        have g0 : 0 < l.length := by omega
        have g2 : 2 < l.length := by omega
        have e0 : ((((⟨l.toArray⟩ : ByteArray)[0]'g0).toNat : Int) == 39) = (l.getD 0 0 == 39) := by rw [L6.get_data l 0 g0]; exact byte_eq _ 39
        have e2 : ((((⟨l.toArray⟩ : ByteArray)[2]'g2).toNat : Int) == 39) = (l.getD 2 0 == 39) := by rw [L6.get_data l 2 g2]; exact byte_eq _ 39
        have hq := HQF.out
        unfold L6.quoted3 at hq
        rw [decide_eq_true h3, Bool.true_and] at hq
        cases c0 : (l.getD 0 0 == 39)
        · rw [c0] at e0
          clear e2 hq c0 h3
          go_wp2_with fail
          go_meet
          exact ⟨rfl, rfl⟩
        · rw [c0, Bool.true_and] at hq
          rw [c0] at e0
          rw [hq] at e2
          clear hq c0 h3
          go_wp2_with fail
          go_meet
          exact ⟨rfl, rfl⟩
      · have k3 : ((l.length : Int) == 3) = false := by rw [beq_eq_false_iff_ne]; omega
        clear h3
        go_wp2_with fail
        go_meet
        exact ⟨rfl, rfl⟩
    case rest =>
      obtain ⟨rfl, rfl⟩ := hcut
      have HRD : Hid (L6.rawV l = if Lib.hasPrefix l [48, 120] && !(Lib.trimPrefix l [48, 120]).isEmpty then ((((L6.digitsV 16 (Lib.trimPrefix l [48, 120])).1 : Nat) : Int), (L6.digitsV 16 (Lib.trimPrefix l [48, 120])).2)
        else if Lib.hasPrefix l [45] then (-((L6.digitsV 10 (Lib.trimPrefix l [45])).1 : Nat), (L6.digitsV 10 (Lib.trimPrefix l [45])).2) else (((L6.digitsV 10 l).1 : Nat), (L6.digitsV 10 l).2)) := Lib.hid rfl
      have cX' := Lib.hid (fun W => (cX.out W).mono (R' := fun e w' => e = .returned (.tuple #[.string ⟨(Lib.trimPrefix l [48, 120]).toArray⟩, .bool (Lib.hasPrefix l [48, 120])]) ∧ W = w') (fun _ _ h => ⟨h.1, h.2.symm⟩))
      have cM' := Lib.hid (fun W => (cM.out W).mono (R' := fun e w' => e = .returned (.tuple #[.string ⟨(Lib.trimPrefix l [45]).toArray⟩, .bool (Lib.hasPrefix l [45])]) ∧ W = w') (fun _ _ h => ⟨h.1, h.2.symm⟩))
      have HT1 := Lib.hid (Nat.le_trans (HT.out [48, 120]) HL.out)
      have HT2 := Lib.hid (Nat.le_trans (HT.out [45]) HL.out)
      clear HQ HNQ HN cX cM HT
      generalize Lib.trimPrefix l [48, 120] = tx at *
      generalize Lib.trimPrefix l [45] = tm at *
      generalize Lib.hasPrefix l [48, 120] = bx at *
      generalize Lib.hasPrefix l [45] = bm at *
      generalize L6.rawV l = R at *
      obtain ⟨N, O⟩ := R
      dsimp only at HNV
      have HALL := Lib.hid HRD.out
      have hneg : IntKind.i64.wrap (-((L6.digitsV 10 tm).1 : Int)) = -((L6.digitsV 10 tm).1 : Int) := by have := L6.digitsV_le 10 tm; rw [IntKind.wrap_i64]; omega
      have HNEG := Lib.hid hneg
      clear hneg HRD
      cases bx
      · have HL1 := Lib.hid HL.out
        cases bm
        · have HL0 := Lib.hid HL.out
          have CD := Lib.hid (show ∀ W, Calls Tryz.prog 254 #[.string ⟨l.toArray⟩, .int .i64 10] W fun e w' => e = .returned (.tuple #[.int .i64 (L6.digitsV 10 l).1, .bool (L6.digitsV 10 l).2]) ∧ W = w' from fun W => cD.out l HL.out 10 (by decide) (by decide) W)
          have hN : N = (L6.digitsV 10 l).1 := by have := HALL.out; simpa using congrArg Prod.fst this
          have hO : O = (L6.digitsV 10 l).2 := by have := HALL.out; simpa using congrArg Prod.snd this
          clear HALL cD
          generalize (L6.digitsV 10 l).1 = n at *
          generalize (L6.digitsV 10 l).2 = o at *
          subst hN hO
          cases O
          · have HR := Lib.hid (show L6.number l = (0, false) from by rw [HNV.out]; rfl)
            clear HNV
            go_wp2_with (first | (go_at_call 253; with_reducible refine (cX'.out _).mono ?_; rintro e w' ⟨rfl, rfl⟩) | (go_at_call 253; with_reducible refine (cM'.out _).mono ?_; rintro e w' ⟨rfl, rfl⟩) | (go_at_call 254; refine (CD.out _).mono ?_; rintro e w' ⟨rfl, rfl⟩))
            go_ret2
            exact ⟨lret_ib (by rw [HR.out]; try rfl) (by rw [HR.out]), rfl⟩
          · by_cases hlo : (n : Int) < -2147483648
            · have HR := Lib.hid (show L6.number l = (0, false) from by rw [HNV.out, decide_eq_false (by omega : ¬ (-2147483648 ≤ (n : Int)))]; rfl)
              clear HNV
              go_wp2_with (first | (go_at_call 253; with_reducible refine (cX'.out _).mono ?_; rintro e w' ⟨rfl, rfl⟩) | (go_at_call 253; with_reducible refine (cM'.out _).mono ?_; rintro e w' ⟨rfl, rfl⟩) | (go_at_call 254; refine (CD.out _).mono ?_; rintro e w' ⟨rfl, rfl⟩))
              go_ret2
              exact ⟨lret_ib (by rw [HR.out]; try rfl) (by rw [HR.out]), rfl⟩
            · by_cases hhi : 4294967295 < (n : Int)
              · have HR := Lib.hid (show L6.number l = (0, false) from by rw [HNV.out, decide_eq_false (by omega : ¬ ((n : Int) ≤ 4294967295)), Bool.and_false, Bool.and_false]; rfl)
                clear HNV
                go_wp2_with (first | (go_at_call 253; with_reducible refine (cX'.out _).mono ?_; rintro e w' ⟨rfl, rfl⟩) | (go_at_call 253; with_reducible refine (cM'.out _).mono ?_; rintro e w' ⟨rfl, rfl⟩) | (go_at_call 254; refine (CD.out _).mono ?_; rintro e w' ⟨rfl, rfl⟩))
                go_ret2
                exact ⟨lret_ib (by rw [HR.out]; try rfl) (by rw [HR.out]), rfl⟩
              · have HR := Lib.hid (show L6.number l = ((n : Int), true) from by rw [HNV.out, decide_eq_true (by omega : (n : Int) ≤ 4294967295), decide_eq_true (by omega : -2147483648 ≤ (n : Int))]; rfl)
                clear HNV
                go_wp2_with (first | (go_at_call 253; with_reducible refine (cX'.out _).mono ?_; rintro e w' ⟨rfl, rfl⟩) | (go_at_call 253; with_reducible refine (cM'.out _).mono ?_; rintro e w' ⟨rfl, rfl⟩) | (go_at_call 254; refine (CD.out _).mono ?_; rintro e w' ⟨rfl, rfl⟩))
                go_ret2
                exact ⟨lret_ib (by rw [HR.out]) (by rw [HR.out]), rfl⟩
        · have HL0 := Lib.hid HL.out
          have CD := Lib.hid (show ∀ W, Calls Tryz.prog 254 #[.string ⟨tm.toArray⟩, .int .i64 10] W fun e w' => e = .returned (.tuple #[.int .i64 (L6.digitsV 10 tm).1, .bool (L6.digitsV 10 tm).2]) ∧ W = w' from fun W => cD.out tm HT2.out 10 (by decide) (by decide) W)
          have hneg := HNEG.out
          have hN : N = -(L6.digitsV 10 tm).1 := by have := HALL.out; simpa using congrArg Prod.fst this
          have hO : O = (L6.digitsV 10 tm).2 := by have := HALL.out; simpa using congrArg Prod.snd this
          clear HALL cD
          generalize (L6.digitsV 10 tm).1 = n at *
          generalize (L6.digitsV 10 tm).2 = o at *
          subst hN hO
          cases O
          · have HR := Lib.hid (show L6.number l = (0, false) from by rw [HNV.out]; rfl)
            clear HNV
            go_wp2_with (first | (go_at_call 253; with_reducible refine (cX'.out _).mono ?_; rintro e w' ⟨rfl, rfl⟩) | (go_at_call 253; with_reducible refine (cM'.out _).mono ?_; rintro e w' ⟨rfl, rfl⟩) | (go_at_call 254; refine (CD.out _).mono ?_; rintro e w' ⟨rfl, rfl⟩))
            go_ret2
            exact ⟨lret_ib (by rw [HR.out]; try rfl) (by rw [HR.out]), rfl⟩
          · by_cases hlo : -(n : Int) < -2147483648
            · have HR := Lib.hid (show L6.number l = (0, false) from by rw [HNV.out, decide_eq_false (by omega : ¬ (-2147483648 ≤ -(n : Int)))]; rfl)
              clear HNV
              go_wp2_with (first | (go_at_call 253; with_reducible refine (cX'.out _).mono ?_; rintro e w' ⟨rfl, rfl⟩) | (go_at_call 253; with_reducible refine (cM'.out _).mono ?_; rintro e w' ⟨rfl, rfl⟩) | (go_at_call 254; refine (CD.out _).mono ?_; rintro e w' ⟨rfl, rfl⟩))
              go_ret2
              exact ⟨lret_ib (by rw [HR.out]; try rfl) (by rw [HR.out]), rfl⟩
            · by_cases hhi : 4294967295 < -(n : Int)
              · exact absurd hhi (by omega)
              · have HR := Lib.hid (show L6.number l = (-(n : Int), true) from by rw [HNV.out, decide_eq_true (by omega : -(n : Int) ≤ 4294967295), decide_eq_true (by omega : -2147483648 ≤ -(n : Int))]; rfl)
                clear HNV
                go_wp2_with (first | (go_at_call 253; with_reducible refine (cX'.out _).mono ?_; rintro e w' ⟨rfl, rfl⟩) | (go_at_call 253; with_reducible refine (cM'.out _).mono ?_; rintro e w' ⟨rfl, rfl⟩) | (go_at_call 254; refine (CD.out _).mono ?_; rintro e w' ⟨rfl, rfl⟩))
                go_ret2
                exact ⟨lret_ib (by rw [HR.out]) (by rw [HR.out]), rfl⟩
      · cases tx with
        | nil =>
          cases bm
          · have HL0 := Lib.hid HL.out
            have CD := Lib.hid (show ∀ W, Calls Tryz.prog 254 #[.string ⟨l.toArray⟩, .int .i64 10] W fun e w' => e = .returned (.tuple #[.int .i64 (L6.digitsV 10 l).1, .bool (L6.digitsV 10 l).2]) ∧ W = w' from fun W => cD.out l HL.out 10 (by decide) (by decide) W)
            have hN : N = (L6.digitsV 10 l).1 := by have := HALL.out; simpa using congrArg Prod.fst this
            have hO : O = (L6.digitsV 10 l).2 := by have := HALL.out; simpa using congrArg Prod.snd this
            clear HALL cD
            generalize (L6.digitsV 10 l).1 = n at *
            generalize (L6.digitsV 10 l).2 = o at *
            subst hN hO
            cases O
            · have HR := Lib.hid (show L6.number l = (0, false) from by rw [HNV.out]; rfl)
              clear HNV
              go_wp2_with (first | (go_at_call 253; with_reducible refine (cX'.out _).mono ?_; rintro e w' ⟨rfl, rfl⟩) | (go_at_call 253; with_reducible refine (cM'.out _).mono ?_; rintro e w' ⟨rfl, rfl⟩) | (go_at_call 254; refine (CD.out _).mono ?_; rintro e w' ⟨rfl, rfl⟩))
              go_ret2
              exact ⟨lret_ib (by rw [HR.out]; try rfl) (by rw [HR.out]), rfl⟩
            · by_cases hlo : (n : Int) < -2147483648
              · have HR := Lib.hid (show L6.number l = (0, false) from by rw [HNV.out, decide_eq_false (by omega : ¬ (-2147483648 ≤ (n : Int)))]; rfl)
                clear HNV
                go_wp2_with (first | (go_at_call 253; with_reducible refine (cX'.out _).mono ?_; rintro e w' ⟨rfl, rfl⟩) | (go_at_call 253; with_reducible refine (cM'.out _).mono ?_; rintro e w' ⟨rfl, rfl⟩) | (go_at_call 254; refine (CD.out _).mono ?_; rintro e w' ⟨rfl, rfl⟩))
                go_ret2
                exact ⟨lret_ib (by rw [HR.out]; try rfl) (by rw [HR.out]), rfl⟩
              · by_cases hhi : 4294967295 < (n : Int)
                · have HR := Lib.hid (show L6.number l = (0, false) from by rw [HNV.out, decide_eq_false (by omega : ¬ ((n : Int) ≤ 4294967295)), Bool.and_false, Bool.and_false]; rfl)
                  clear HNV
                  go_wp2_with (first | (go_at_call 253; with_reducible refine (cX'.out _).mono ?_; rintro e w' ⟨rfl, rfl⟩) | (go_at_call 253; with_reducible refine (cM'.out _).mono ?_; rintro e w' ⟨rfl, rfl⟩) | (go_at_call 254; refine (CD.out _).mono ?_; rintro e w' ⟨rfl, rfl⟩))
                  go_ret2
                  exact ⟨lret_ib (by rw [HR.out]; try rfl) (by rw [HR.out]), rfl⟩
                · have HR := Lib.hid (show L6.number l = ((n : Int), true) from by rw [HNV.out, decide_eq_true (by omega : (n : Int) ≤ 4294967295), decide_eq_true (by omega : -2147483648 ≤ (n : Int))]; rfl)
                  clear HNV
                  go_wp2_with (first | (go_at_call 253; with_reducible refine (cX'.out _).mono ?_; rintro e w' ⟨rfl, rfl⟩) | (go_at_call 253; with_reducible refine (cM'.out _).mono ?_; rintro e w' ⟨rfl, rfl⟩) | (go_at_call 254; refine (CD.out _).mono ?_; rintro e w' ⟨rfl, rfl⟩))
                  go_ret2
                  exact ⟨lret_ib (by rw [HR.out]) (by rw [HR.out]), rfl⟩
          · have HL0 := Lib.hid HL.out
            have CD := Lib.hid (show ∀ W, Calls Tryz.prog 254 #[.string ⟨tm.toArray⟩, .int .i64 10] W fun e w' => e = .returned (.tuple #[.int .i64 (L6.digitsV 10 tm).1, .bool (L6.digitsV 10 tm).2]) ∧ W = w' from fun W => cD.out tm HT2.out 10 (by decide) (by decide) W)
            have hneg := HNEG.out
            have hN : N = -(L6.digitsV 10 tm).1 := by have := HALL.out; simpa using congrArg Prod.fst this
            have hO : O = (L6.digitsV 10 tm).2 := by have := HALL.out; simpa using congrArg Prod.snd this
            clear HALL cD
            generalize (L6.digitsV 10 tm).1 = n at *
            generalize (L6.digitsV 10 tm).2 = o at *
            subst hN hO
            cases O
            · have HR := Lib.hid (show L6.number l = (0, false) from by rw [HNV.out]; rfl)
              clear HNV
              go_wp2_with (first | (go_at_call 253; with_reducible refine (cX'.out _).mono ?_; rintro e w' ⟨rfl, rfl⟩) | (go_at_call 253; with_reducible refine (cM'.out _).mono ?_; rintro e w' ⟨rfl, rfl⟩) | (go_at_call 254; refine (CD.out _).mono ?_; rintro e w' ⟨rfl, rfl⟩))
              go_ret2
              exact ⟨lret_ib (by rw [HR.out]; try rfl) (by rw [HR.out]), rfl⟩
            · by_cases hlo : -(n : Int) < -2147483648
              · have HR := Lib.hid (show L6.number l = (0, false) from by rw [HNV.out, decide_eq_false (by omega : ¬ (-2147483648 ≤ -(n : Int)))]; rfl)
                clear HNV
                go_wp2_with (first | (go_at_call 253; with_reducible refine (cX'.out _).mono ?_; rintro e w' ⟨rfl, rfl⟩) | (go_at_call 253; with_reducible refine (cM'.out _).mono ?_; rintro e w' ⟨rfl, rfl⟩) | (go_at_call 254; refine (CD.out _).mono ?_; rintro e w' ⟨rfl, rfl⟩))
                go_ret2
                exact ⟨lret_ib (by rw [HR.out]; try rfl) (by rw [HR.out]), rfl⟩
              · by_cases hhi : 4294967295 < -(n : Int)
                · exact absurd hhi (by omega)
                · have HR := Lib.hid (show L6.number l = (-(n : Int), true) from by rw [HNV.out, decide_eq_true (by omega : -(n : Int) ≤ 4294967295), decide_eq_true (by omega : -2147483648 ≤ -(n : Int))]; rfl)
                  clear HNV
                  go_wp2_with (first | (go_at_call 253; with_reducible refine (cX'.out _).mono ?_; rintro e w' ⟨rfl, rfl⟩) | (go_at_call 253; with_reducible refine (cM'.out _).mono ?_; rintro e w' ⟨rfl, rfl⟩) | (go_at_call 254; refine (CD.out _).mono ?_; rintro e w' ⟨rfl, rfl⟩))
                  go_ret2
                  exact ⟨lret_ib (by rw [HR.out]) (by rw [HR.out]), rfl⟩
        | cons c tx =>
          have CD := Lib.hid (show ∀ W, Calls Tryz.prog 254 #[.string ⟨(c :: tx).toArray⟩, .int .i64 16] W fun e w' => e = .returned (.tuple #[.int .i64 (L6.digitsV 16 (c :: tx)).1, .bool (L6.digitsV 16 (c :: tx)).2]) ∧ W = w' from fun W => cD.out (c :: tx) HT1.out 16 (by decide) (by decide) W)
          have hN : N = (L6.digitsV 16 (c :: tx)).1 := by have := HALL.out; simpa using congrArg Prod.fst this
          have hO : O = (L6.digitsV 16 (c :: tx)).2 := by have := HALL.out; simpa using congrArg Prod.snd this
          clear HALL cD
          generalize (L6.digitsV 16 (c :: tx)).1 = n at *
          generalize (L6.digitsV 16 (c :: tx)).2 = o at *
          subst hN hO
          cases O
          · have HR := Lib.hid (show L6.number l = (0, false) from by rw [HNV.out]; rfl)
            clear HNV
            go_wp2_with (first | (go_at_call 253; with_reducible refine (cX'.out _).mono ?_; rintro e w' ⟨rfl, rfl⟩) | (go_at_call 253; with_reducible refine (cM'.out _).mono ?_; rintro e w' ⟨rfl, rfl⟩) | (go_at_call 254; refine (CD.out _).mono ?_; rintro e w' ⟨rfl, rfl⟩))
            go_ret2
            exact ⟨lret_ib (by rw [HR.out]; try rfl) (by rw [HR.out]), rfl⟩
          · by_cases hlo : (n : Int) < -2147483648
            · have HR := Lib.hid (show L6.number l = (0, false) from by rw [HNV.out, decide_eq_false (by omega : ¬ (-2147483648 ≤ (n : Int)))]; rfl)
              clear HNV
              go_wp2_with (first | (go_at_call 253; with_reducible refine (cX'.out _).mono ?_; rintro e w' ⟨rfl, rfl⟩) | (go_at_call 253; with_reducible refine (cM'.out _).mono ?_; rintro e w' ⟨rfl, rfl⟩) | (go_at_call 254; refine (CD.out _).mono ?_; rintro e w' ⟨rfl, rfl⟩))
              go_ret2
              exact ⟨lret_ib (by rw [HR.out]; try rfl) (by rw [HR.out]), rfl⟩
            · by_cases hhi : 4294967295 < (n : Int)
              · have HR := Lib.hid (show L6.number l = (0, false) from by rw [HNV.out, decide_eq_false (by omega : ¬ ((n : Int) ≤ 4294967295)), Bool.and_false, Bool.and_false]; rfl)
                clear HNV
                go_wp2_with (first | (go_at_call 253; with_reducible refine (cX'.out _).mono ?_; rintro e w' ⟨rfl, rfl⟩) | (go_at_call 253; with_reducible refine (cM'.out _).mono ?_; rintro e w' ⟨rfl, rfl⟩) | (go_at_call 254; refine (CD.out _).mono ?_; rintro e w' ⟨rfl, rfl⟩))
                go_ret2
                exact ⟨lret_ib (by rw [HR.out]; try rfl) (by rw [HR.out]), rfl⟩
              · have HR := Lib.hid (show L6.number l = ((n : Int), true) from by rw [HNV.out, decide_eq_true (by omega : (n : Int) ≤ 4294967295), decide_eq_true (by omega : -2147483648 ≤ (n : Int))]; rfl)
                clear HNV
                go_wp2_with (first | (go_at_call 253; with_reducible refine (cX'.out _).mono ?_; rintro e w' ⟨rfl, rfl⟩) | (go_at_call 253; with_reducible refine (cM'.out _).mono ?_; rintro e w' ⟨rfl, rfl⟩) | (go_at_call 254; refine (CD.out _).mono ?_; rintro e w' ⟨rfl, rfl⟩))
                go_ret2
                exact ⟨lret_ib (by rw [HR.out]) (by rw [HR.out]), rfl⟩
end Go.Proofs.YtfafdkbnmfpbmaaGreatDoor
