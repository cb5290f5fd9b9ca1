/- The walks of counted, rows, Register. -/
import Derived.Test.YtfafdkbnmfpbmaaGreatDoorL6Num2
namespace Go.Proofs.YtfafdkbnmfpbmaaGreatDoor
open Go.RowKit Kit
set_option linter.unusedVariables false
set_option linter.unusedSimpArgs false

def L6.Tab (w : World) : Prop := Lib.TabIs Tryz.prog w "internal/strconv.uint64pow10" .u64 Lib.pow10Tab
theorem below_grew (w : World) (k : Nat) (os : Array Obj) : Below w.heap.size w (Sort.grow (w.drewN k) os) :=
  ⟨rfl, rfl, rfl, by simp [Sort.grow, World.drewN], fun i hi => by simp only [Sort.grow, World.drewN, Array.getElem?_append]; rw [if_pos hi]⟩
theorem litoa_any (n : Nat) (w : World) (hn : n ≤ 4294967296) (h : n < 100 ∨ L6.Tab w) : Calls Tryz.prog 80 #[.int .i64 (n : Int)] w fun e w' => e = .returned (.string ⟨(Lib.decDigits n).toArray⟩) ∧ Below w.heap.size w w' := by
  rcases h with h | h
  · exact (Tryz.strconv_Itoa_small n h w).mono fun e w' hh => ⟨hh.1, by rw [hh.2]; exact Below.refl _ _⟩
  · refine (Tryz.strconv_Itoa n (by omega) (by omega) w h).mono ?_
    rintro e w' ⟨rfl, k, os, rfl⟩
    exact ⟨by rw [Lib.itoa_nonneg], below_grew w k os⟩
def L6.rowsV (c : UInt8) (n : Nat) : Nat × Bool :=
  if c = 120 ∧ n < 32 then (n, true) else if c = 116 ∧ n < 3 then (5 + n, true) else if c = 116 ∧ n < 7 then (25 + n, true)
  else if c = 115 ∧ n < 2 then (8 + n, true) else if c = 115 ∧ n < 12 then (16 + n, true) else if c = 97 ∧ n < 8 then (10 + n, true) else (0, false)
theorem byte_ne {c : UInt8} (d : UInt8) (h : c ≠ d) : ((c.toNat : Int) == (d.toNat : Int)) = false := by rw [byte_eq]; simpa using h
set_option maxRecDepth 20000 in
theorem lrows_any (c : UInt8) (n : Nat) (w : World) (hn : n ≤ 4294967296) : Calls Tryz.prog 292 #[.int .u8 c.toNat, .int .i64 (n : Int)] w fun e w' => e = .returned (.tuple #[.int .i64 (L6.rowsV c n).1, .bool (L6.rowsV c n).2]) ∧ w = w' := by
  by_cases h1 : c = 120
  · subst h1
    by_cases a1 : n < 32
    · have b1 : (n : Int) < 32 := by omega
      have HR := Lib.hid (show L6.rowsV 120 n = (n, true) from by unfold L6.rowsV; simp [a1])
      go_enter Tryz.func292, Tryz.ntmps292
      go_wp2_with fail
      go_ret2
      exact ⟨lret_ib (by rw [HR.out]) (by rw [HR.out]), rfl⟩
    · have b1 : ¬ (n : Int) < 32 := by omega
      have HR := Lib.hid (show L6.rowsV 120 n = (0, false) from by unfold L6.rowsV; simp [a1])
      go_enter Tryz.func292, Tryz.ntmps292
      go_wp2_with fail
      go_ret2
      exact ⟨lret_ib (by rw [HR.out]; rfl) (by rw [HR.out]), rfl⟩
  have f1 : ((c.toNat : Int) == 120) = false := byte_ne 120 h1
  by_cases h2 : c = 116
  · subst h2
    by_cases a1 : n < 3
    · have b1 : (n : Int) < 3 := by omega
      have hw : IntKind.i64.wrap (5 + (n : Int)) = 5 + (n : Int) := by rw [IntKind.wrap_i64]; omega
      have HR := Lib.hid (show L6.rowsV 116 n = (5 + n, true) from by unfold L6.rowsV; simp [a1])
      clear f1 h1
      go_enter Tryz.func292, Tryz.ntmps292
      go_wp2_with fail
      go_ret2
      exact ⟨lret_ib (by rw [HR.out]; simp) (by rw [HR.out]), rfl⟩
    · have b1 : ¬ (n : Int) < 3 := by omega
      by_cases a2 : n < 7
      · have b2 : (n : Int) < 7 := by omega
        have hw : IntKind.i64.wrap (25 + (n : Int)) = 25 + (n : Int) := by rw [IntKind.wrap_i64]; omega
        have HR := Lib.hid (show L6.rowsV 116 n = (25 + n, true) from by unfold L6.rowsV; simp [a1, a2])
        clear f1 h1
        go_enter Tryz.func292, Tryz.ntmps292
        go_wp2_with fail
        go_ret2
        exact ⟨lret_ib (by rw [HR.out]; simp) (by rw [HR.out]), rfl⟩
      · have b2 : ¬ (n : Int) < 7 := by omega
        have HR := Lib.hid (show L6.rowsV 116 n = (0, false) from by unfold L6.rowsV; simp [a1, a2])
        clear f1 h1
        go_enter Tryz.func292, Tryz.ntmps292
        go_wp2_with fail
        go_ret2
        exact ⟨lret_ib (by rw [HR.out]; rfl) (by rw [HR.out]), rfl⟩
  have f2 : ((c.toNat : Int) == 116) = false := byte_ne 116 h2
  by_cases h3 : c = 115
  · subst h3
    by_cases a1 : n < 2
    · have b1 : (n : Int) < 2 := by omega
      have hw : IntKind.i64.wrap (8 + (n : Int)) = 8 + (n : Int) := by rw [IntKind.wrap_i64]; omega
      have HR := Lib.hid (show L6.rowsV 115 n = (8 + n, true) from by unfold L6.rowsV; simp [a1])
      clear f1 h1 f2 h2
      go_enter Tryz.func292, Tryz.ntmps292
      go_wp2_with fail
      go_ret2
      exact ⟨lret_ib (by rw [HR.out]; simp) (by rw [HR.out]), rfl⟩
    · have b1 : ¬ (n : Int) < 2 := by omega
      by_cases a2 : n < 12
      · have b2 : (n : Int) < 12 := by omega
        have hw : IntKind.i64.wrap (16 + (n : Int)) = 16 + (n : Int) := by rw [IntKind.wrap_i64]; omega
        have HR := Lib.hid (show L6.rowsV 115 n = (16 + n, true) from by unfold L6.rowsV; simp [a1, a2])
        clear f1 h1 f2 h2
        go_enter Tryz.func292, Tryz.ntmps292
        go_wp2_with fail
        go_ret2
        exact ⟨lret_ib (by rw [HR.out]; simp) (by rw [HR.out]), rfl⟩
      · have b2 : ¬ (n : Int) < 12 := by omega
        have HR := Lib.hid (show L6.rowsV 115 n = (0, false) from by unfold L6.rowsV; simp [a1, a2])
        clear f1 h1 f2 h2
        go_enter Tryz.func292, Tryz.ntmps292
        go_wp2_with fail
        go_ret2
        exact ⟨lret_ib (by rw [HR.out]; rfl) (by rw [HR.out]), rfl⟩
  have f3 : ((c.toNat : Int) == 115) = false := byte_ne 115 h3
  by_cases h4 : c = 97
  · subst h4
    by_cases a1 : n < 8
    · have b1 : (n : Int) < 8 := by omega
      have hw : IntKind.i64.wrap (10 + (n : Int)) = 10 + (n : Int) := by rw [IntKind.wrap_i64]; omega
      have HR := Lib.hid (show L6.rowsV 97 n = (10 + n, true) from by unfold L6.rowsV; simp [a1])
      clear f1 h1 f2 h2 f3 h3
      go_enter Tryz.func292, Tryz.ntmps292
      go_wp2_with fail
      go_ret2
      exact ⟨lret_ib (by rw [HR.out]; simp) (by rw [HR.out]), rfl⟩
    · have b1 : ¬ (n : Int) < 8 := by omega
      have HR := Lib.hid (show L6.rowsV 97 n = (0, false) from by unfold L6.rowsV; simp [a1])
      clear f1 h1 f2 h2 f3 h3
      go_enter Tryz.func292, Tryz.ntmps292
      go_wp2_with fail
      go_ret2
      exact ⟨lret_ib (by rw [HR.out]; rfl) (by rw [HR.out]), rfl⟩
  have f4 : ((c.toNat : Int) == 97) = false := byte_ne 97 h4
  have HR := Lib.hid (show L6.rowsV c n = (0, false) from by unfold L6.rowsV; simp [h1, h2, h3, h4])
  clear h1 h2 h3 h4
  go_enter Tryz.func292, Tryz.ntmps292
  go_wp2_with fail
  go_ret2
  exact ⟨lret_ib (by rw [HR.out]; rfl) (by rw [HR.out]), rfl⟩
def L6.countedV (l : List UInt8) : Nat × Bool := ((L6.digitsV 10 l).1, (L6.digitsV 10 l).2 && (Lib.decDigits (L6.digitsV 10 l).1 == l))
/-- Where the table of tens is wanted. -/
def L6.Few (l : List UInt8) (w : World) : Prop := (L6.digitsV 10 l).1 < 100 ∨ L6.Tab w
theorem lcounted_any (l : List UInt8) (w : World) (hl : l.length ≤ maxLen) (hf : L6.Few l w) : Calls Tryz.prog 291 #[.string ⟨l.toArray⟩] w fun e w' => e = .returned (.tuple #[.int .i64 (L6.countedV l).1, .bool (L6.countedV l).2]) ∧ Below w.heap.size w w' := by
  have CD := Lib.hid (show ∀ W, Calls Tryz.prog 254 #[.string ⟨l.toArray⟩, .int .i64 10] W fun e w' => e = .returned (.tuple #[.int .i64 (L6.digitsV 10 l).1, .bool (L6.digitsV 10 l).2]) ∧ W = w' from fun W => ldigits_any l 10 W hl (by decide) (by decide))
  have CI := Lib.hid (litoa_any (L6.digitsV 10 l).1 w (L6.digitsV_le 10 l) hf)
  have HV := Lib.hid (show L6.countedV l = ((L6.digitsV 10 l).1, (L6.digitsV 10 l).2 && (Lib.decDigits (L6.digitsV 10 l).1 == l)) from rfl)
  clear hf
  generalize (L6.digitsV 10 l).1 = n at *
  generalize (L6.digitsV 10 l).2 = o at *
  cases o
  · go_enter Tryz.func291, Tryz.ntmps291
    go_wp2_with (go_at_call 254; refine (CD.out _).mono ?_; rintro e w' ⟨rfl, rfl⟩)
    go_ret2
    exact ⟨lret_ib (by rw [HV.out]) (by rw [HV.out]; rfl), Below.refl _ _⟩
  · cases hx : (Lib.decDigits n == l)
    · rw [hx] at HV
      go_enter Tryz.func291, Tryz.ntmps291
      go_wp2_with (first | (go_at_call 254; refine (CD.out _).mono ?_; rintro e w' ⟨rfl, rfl⟩) | (go_at_call 80; refine CI.out.mono ?_; rintro e w' ⟨rfl, hb⟩))
      go_ret2
      exact ⟨lret_ib (by rw [HV.out]) (by rw [HV.out]; rfl), hb⟩
    · rw [hx] at HV
      go_enter Tryz.func291, Tryz.ntmps291
      go_wp2_with (first | (go_at_call 254; refine (CD.out _).mono ?_; rintro e w' ⟨rfl, rfl⟩) | (go_at_call 80; refine CI.out.mono ?_; rintro e w' ⟨rfl, hb⟩))
      go_ret2
      exact ⟨lret_ib (by rw [HV.out]) (by rw [HV.out]; rfl), hb⟩
def L6.zero : List UInt8 := [122, 101, 114, 111]
def L6.regV (l : List UInt8) : Nat × Bool :=
  if l = [] then (0, false) else if l = [122, 101, 114, 111] then (0, true) else if l = [114, 97] then (1, true) else if l = [115, 112] then (2, true) else if l = [103, 112] then (3, true) else if l = [116, 112] then (4, true)
  else cond (L6.countedV l.tail).2 (L6.rowsV (l.headD 0) (L6.countedV l.tail).1) (0, false)
theorem L6.rows_le (c : UInt8) (n : Nat) : True := trivial
set_option maxRecDepth 20000 in
theorem lreg_any (l : List UInt8) (w : World) (hl : l.length ≤ maxLen) (hf : L6.Few l.tail w) : Calls Tryz.prog 276 #[.string ⟨l.toArray⟩] w fun e w' => e = .returned (.tuple #[.int .i64 (L6.regV l).1, .bool (L6.regV l).2]) ∧ Below w.heap.size w w' := by
  by_cases h1 : l = []
  · subst h1
    go_enter Tryz.func276, Tryz.ntmps276
    go_wp2_with fail
    go_ret2
    exact ⟨rfl, Below.refl _ _⟩
  by_cases h2 : l = [122, 101, 114, 111]
  · subst h2
    go_enter Tryz.func276, Tryz.ntmps276
    go_wp2_with fail
    go_ret2
    exact ⟨rfl, Below.refl _ _⟩
  by_cases h3 : l = [114, 97]
  · subst h3
    go_enter Tryz.func276, Tryz.ntmps276
    go_wp2_with fail
    go_ret2
    exact ⟨rfl, Below.refl _ _⟩
  by_cases h4 : l = [115, 112]
  · subst h4
    go_enter Tryz.func276, Tryz.ntmps276
    go_wp2_with fail
    go_ret2
    exact ⟨rfl, Below.refl _ _⟩
  by_cases h5 : l = [103, 112]
  · subst h5
    go_enter Tryz.func276, Tryz.ntmps276
    go_wp2_with fail
    go_ret2
    exact ⟨rfl, Below.refl _ _⟩
  by_cases h6 : l = [116, 112]
  · subst h6
    go_enter Tryz.func276, Tryz.ntmps276
    go_wp2_with fail
    go_ret2
    exact ⟨rfl, Below.refl _ _⟩
  have HV := Lib.hid (show L6.regV l = cond (L6.countedV l.tail).2 (L6.rowsV (l.headD 0) (L6.countedV l.tail).1) (0, false) from by unfold L6.regV; simp only [h1, h2, h3, h4, h5, h6, if_false])
  cases l with
  | nil => exact absurd rfl h1
  | cons c t =>
    have ht : t.length ≤ maxLen := by simp only [List.length_cons] at hl; omega
    have CC := Lib.hid (lcounted_any t w ht hf)
    have hx1 : (⟨(c :: t).toArray⟩ : ByteArray).extract 1 (t.length + 1) = ⟨t.toArray⟩ := by rw [ext_eq]; simp
    have hle : t.length + 1 ≤ 9223372036854775807 := by unfold maxLen at hl; simpa using hl
    have g2 : ((c :: t) == [122, 101, 114, 111]) = false := by simpa using h2
    have g3 : ((c :: t) == [114, 97]) = false := by simpa using h3
    have g4 : ((c :: t) == [115, 112]) = false := by simpa using h4
    have g5 : ((c :: t) == [103, 112]) = false := by simpa using h5
    have g6 : ((c :: t) == [116, 112]) = false := by simpa using h6
    have HT := Lib.hid (show (L6.countedV t).1 ≤ 4294967296 from L6.digitsV_le 10 t)
    have CR := Lib.hid (fun W => lrows_any c (L6.countedV t).1 W HT.out)
    clear h1 h2 h3 h4 h5 h6 hl ht hf HT
    dsimp only [List.tail_cons, List.headD_cons] at HV
    obtain ⟨n, o, hR⟩ : ∃ n o, L6.countedV t = (n, o) := ⟨_, _, rfl⟩
    rw [hR] at HV CC CR
    clear hR
    cases o
    · go_enter Tryz.func276, Tryz.ntmps276
      go_wp2_with (go_at_call 291; refine CC.out.mono ?_; rintro e w' ⟨rfl, hb⟩)
      go_ret2
      exact ⟨lret_ib (by rw [HV.out]; rfl) (by rw [HV.out]; rfl), hb⟩
    · go_enter Tryz.func276, Tryz.ntmps276
      go_wp2_with (first | (go_at_call 291; refine CC.out.mono ?_; rintro e w' ⟨rfl, hb⟩) | (go_at_call 292; refine (CR.out _).mono ?_; rintro e w2 ⟨rfl, rfl⟩))
      go_ret2
      exact ⟨lret_ib (by rw [HV.out]; rfl) (by rw [HV.out]; rfl), hb⟩
end Go.Proofs.YtfafdkbnmfpbmaaGreatDoor
