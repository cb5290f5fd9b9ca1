/- Texts joined, what is not reached left out. -/
import Derived.Test.YtpcpaoeajcjoiaaGreatDoorPH
import Derived.Test.YtpcpaoeajcjoiaaGreatDoorNP
import Derived.Test.YtpcpaoeajcjoiaaGreatDoorPG
import Derived.Deep.RegionLaw
import Derived.Test.YtpcpaoeajcjoiaaGreatDoorKX
/- Layer 10: what is read of the image's bytes. Plain. -/
namespace Go.Proofs.YtpcpaoeajcjoiaaGreatDoor
set_option linter.unusedVariables false
set_option linter.unusedSimpArgs false

end Go.Proofs.YtpcpaoeajcjoiaaGreatDoor
/- Layer 10, the law's side: digits, a word of bytes, the source of words. -/
namespace Go.Proofs.YtpcpaoeajcjoiaaGreatDoor
open Go.RowKit Kit
set_option linter.unusedVariables false
set_option linter.unusedSimpArgs false

theorem Im.byte_str (w : World) (n : Nat) (hn : n < 10) : (convert 26 9 (.slice (some ⟨w.heap.size, 0, none⟩) 1 1)).run Tryz.prog (w.alloc (.cells #[.int .u8 (48 + (n : Int))] 5)) = .ok (.string ⟨[UInt8.ofNat (48 + n)].toArray⟩) (w.alloc (.cells #[.int .u8 (48 + (n : Int))] 5)) := by
  have hbk := Bk.fresh w 5 #[.int .u8 (48 + (n : Int))]
  have e : (UInt8.ofNat (48 + n)).toNat = 48 + n := by rw [UInt8.toNat_ofNat']; omega
  refine As.str_of (b := [UInt8.ofNat (48 + n)]) ⟨rfl, some ⟨w.heap.size, 0, none⟩, 1, rfl, Nat.le_refl _, by unfold maxLen; omega, fun _ => ⟨_, 0, rfl, hbk.lt, fun j u hu => ?_⟩⟩
  rw [Nat.zero_add, hbk.cell j]
  simp only [bv, List.map_cons, List.map_nil, e] at hu
  rw [← hu]
  simp
set_option maxRecDepth 100000 in
set_option maxHeartbeats 1000000 in
theorem idigits_nat : ∀ (n : Nat) (w : World), n ≤ 4294967296 → Calls Tryz.prog 55 #[.int .i64 (n : Int)] w fun e w' => e = .returned (.string ⟨(Lib.decDigits n).toArray⟩) ∧ Below w.heap.size w w' := by
  intro n
  induction n using Nat.strongRecOn with
  | ind n ih =>
    intro w hn
    by_cases h10 : n < 10
    · have hlt : (n : Int) < 10 := by omega
      have hw1 : IntKind.i64.wrap (48 + (n : Int)) = 48 + (n : Int) := by rw [IntKind.wrap_i64]; omega
      have hw2 : IntKind.u8.wrap (48 + (n : Int)) = 48 + (n : Int) := by rw [IntKind.wrap_u8]; omega
      have HD := Lib.hid (show Lib.decDigits n = [UInt8.ofNat (48 + n)] from by unfold Lib.decDigits; rw [dif_pos h10])
      have hcv := Im.byte_str w n h10
      generalize UInt8.ofNat (48 + n) = ch at HD hcv
      have HAL := Lib.hid ((Below.refl w.heap.size w).alloc (Nat.le_refl _) (.cells #[.int .u8 (48 + (n : Int))] 5))
      clear ih
      go_enter Tryz.func55, Tryz.ntmps55
      go_wp2_with fail
      go_ret
      exact ⟨by rw [HD.out]; rfl, HAL.out⟩
    · have hge : ¬ (n : Int) < 10 := by omega
      obtain ⟨q, hq⟩ : ∃ q, n / 10 = q := ⟨_, rfl⟩
      obtain ⟨r, hr⟩ : ∃ r, n % 10 = r := ⟨_, rfl⟩
      have C1 := Lib.hid (fun W => ih q (by omega) W (by omega))
      have C2 := Lib.hid (fun W => ih r (by omega) W (by omega))
      have t1 : (n : Int).tdiv 10 = (q : Int) := by rw [Int.tdiv_eq_ediv_of_nonneg (by omega)]; omega
      have t2 : (n : Int).tmod 10 = (r : Int) := by rw [Int.tmod_eq_emod_of_nonneg (by omega)]; omega
      have hw1 : IntKind.i64.wrap (q : Int) = (q : Int) := by rw [IntKind.wrap_i64]; omega
      have hw2 : IntKind.i64.wrap (r : Int) = (r : Int) := by rw [IntKind.wrap_i64]; omega
      have HD := Lib.hid (show Lib.decDigits n = Lib.decDigits q ++ Lib.decDigits r from by
        conv => lhs; unfold Lib.decDigits
        rw [dif_neg h10, hq, hr]
        congr 1
        unfold Lib.decDigits
        rw [dif_pos (by omega)])
      have hl1 := F8.dec_len q
      have hl2 := F8.dec_len r
      have hlen : ¬ 9223372036854775807 < (Lib.decDigits q).length + (Lib.decDigits r).length := by omega
      clear ih hq hr hl1 hl2 hn
      go_enter Tryz.func55, Tryz.ntmps55
      go_wp2_with (first | (go_at_call 55; with_reducible refine (C1.out _).mono ?_; rintro e w1 ⟨rfl, hb1⟩) | (go_at_call 55; with_reducible refine (C2.out _).mono ?_; rintro e w2 ⟨rfl, hb2⟩))
      go_ret
      exact ⟨by rw [HD.out]; exact congrArg (fun x => Ending.returned (.string x)) (app_eq _ _), hb1.trans (hb2.mono hb1.size)⟩
theorem Im.wrap_u32 (n : Nat) (h : n < 4294967296) : IntKind.u32.wrap (n : Int) = n := by rw [IntKind.wrap_u32]; omega
theorem Im.wrap_u64 (n : Nat) (h : n < 18446744073709551616) : IntKind.u64.wrap (n : Int) = n := by rw [IntKind.wrap_u64]; omega
end Go.Proofs.YtpcpaoeajcjoiaaGreatDoor
/- Layer 10, the law's side: the source of words. -/
namespace Go.Proofs.YtpcpaoeajcjoiaaGreatDoor
open Go.RowKit Kit
set_option linter.unusedVariables false
set_option linter.unusedSimpArgs false

/-- A word as it comes in. -/
structure Im.Raw where
  name : List UInt8
  f : Int
  n : Int
  l : Int
def Im.Raw.w (r : Im.Raw) : Im.W := ⟨r.name, (r.f % 16).toNat, (r.n % 4).toNat, (r.l % 2).toNat⟩
def Im.I64 (x : Int) : Prop := -9223372036854775808 ≤ x ∧ x ≤ 9223372036854775807
def Im.Raw.ok (r : Im.Raw) : Prop := Im.I64 r.f ∧ Im.I64 r.n ∧ Im.I64 r.l
/-- The text so far. -/
def Im.pre (ws : List Im.W) : List UInt8 := L6.text (Im.nop :: ws.flatMap Im.srcW)
end Go.Proofs.YtpcpaoeajcjoiaaGreatDoor
/- Layer 10, the law's side: the source of words, written. -/
namespace Go.Proofs.YtpcpaoeajcjoiaaGreatDoor
open Go.RowKit Kit
set_option linter.unusedVariables false
set_option linter.unusedSimpArgs false

end Go.Proofs.YtpcpaoeajcjoiaaGreatDoor
/- Layer 10, the law's side: what must come. -/
namespace Go.Proofs.YtpcpaoeajcjoiaaGreatDoor
open Go.RowKit Kit
set_option linter.unusedVariables false
set_option linter.unusedSimpArgs false

def Im.knS : List UInt8 := [100, 101, 102, 32, 65, 32, 49, 10, 114, 101, 116, 10, 104, 58, 32, 104, 101, 97, 100, 115]
def Im.knL : List L6.Line := [⟨[], Im.tDef, [[65], [49]]⟩, ⟨[], As.tRet, []⟩, ⟨[[104]], Im.tHeads, []⟩]
def Im.stOf : Im.R → Im.St
  | .ok S => S
  | .bad _ => Im.start
def Im.knM : Im.St := Im.stOf (Im.run Im.start Im.knL)
def Im.knP : List L6.Line := Im.fill (Im.end_ Im.knM)
theorem Im.kn_parse : L6.parse Im.knS = (Im.knL, 0, 0) := by decide +kernel
theorem Im.kn_run : Im.run Im.start Im.knL = .ok Im.knM := by kernel_rfl
theorem Im.kn_plain : F8.plain Im.knP = (Im.knP, 0, 0) := by kernel_rfl
theorem Im.kn_len : Im.knP.length ≤ 1000 := by decide +kernel
theorem Im.kn_fit : ∀ x ∈ Im.knP, x.labels.length ≤ 100 ∧ x.args.length ≤ 100 ∧ (∀ s ∈ x.labels, s.length ≤ 100) ∧ (∀ s ∈ x.args, s.length ≤ 100) := by decide +kernel
theorem Im.kn_lok : ∀ x ∈ Im.knL, (x.labels.length ≤ 100 ∧ x.args.length ≤ 100) ∧ ∀ a ∈ x.args, a.length ≤ 100 := by decide +kernel
def Im.knO : As.O := As.assemble Im.knP 0
theorem Im.kn_err : Im.knO.err = 0 := by kernel_rfl
theorem Im.kn_bytes : Im.knO.bytes.length = 152 ∧ Im.knO.bytes.getD 44 0 = 0 ∧ Im.knO.bytes.getD 4 0 = 20 := by decide +kernel
end Go.Proofs.YtpcpaoeajcjoiaaGreatDoor
