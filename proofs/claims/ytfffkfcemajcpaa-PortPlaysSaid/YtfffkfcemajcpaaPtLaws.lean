/- Walks: what the laws of layer 4 call: num, knows; In whole; what no port answers. -/
import Derived.Test.YtfffkfcemajcpaaPtNew
import Derived.Lib.SlBytesConst
namespace Go.Proofs.Ytfffkfcemajcpaa
open Go.RowKit Kit
set_option linter.unusedVariables false
set_option linter.unusedSimpArgs false

theorem pnum_any (n : Int) (w : World) : Calls Try.prog 12 #[.int .i64 n] w fun e w' => e = .returned (.int .i64 n) ∧ w = w' := by
  go_enter Try.func12, Try.ntmps12
  go_wp2
  go_ret
  exact ⟨rfl, rfl⟩

theorem PStep.refl (w : World) (gp gc : Nat) : PStep w w gp gc := ⟨Only.refl _ _, fun k hk => .inl hk⟩
theorem PStep.of_below {w w' : World} {base gp gc : Nat} {ahead put : List UInt8} {h : Bool} {code : Nat} (H : OwnP w base gp gc ahead put h code) (hb : Below w.heap.size w w') : PStep w w' gp gc :=
  ⟨Only.of_below hb, fun k hk => .inl ((H.other (Only.of_below (S := fun _ => False) hb) (fun _ _ h => h)).2 k hk)⟩
theorem PStep.below {w w' : World} {base gp gc : Nat} {ahead put : List UInt8} {h : Bool} {code : Nat} (H : OwnP w base gp gc ahead put h code) (hs : PStep w w' gp gc) : Below base w w' :=
  hs.only.below (by have := H.lt gp (.inl rfl); omega) (fun k hk => (H.lt k hk).1)

def Pt.inV (ahead : List UInt8) : Nat := match ahead with | [] => 4294967295 | c :: _ => c.toNat
theorem in_port (w : World) (base gp gc : Nat) (ahead put : List UInt8) (h : Bool) (code : Nat) (H : OwnP w base gp gc ahead put h code) :
    Calls Try.prog 13 #[.pointer (some ⟨gp, 0, none⟩)] w fun e w' => e = .returned (.int .u32 (Pt.inV ahead)) ∧ OwnP w' base gp gc ahead.tail put h code ∧ PStep w w' gp gc := by
  obtain ⟨v, hb, _⟩ := H.obj
  have c0 : w.cell? ⟨gp, 0, none⟩ = some (.chan (some gc)) := hb.cell 0
  obtain ⟨cap, s, r, hc⟩ := H.ch
  cases ahead with
  | nil =>
    refine (in_none w gp gc cap s r c0 hc).mono ?_
    rintro e w' ⟨rfl, rfl⟩
    exact ⟨rfl, H, PStep.refl _ _ _⟩
  | cons c l =>
    refine (in_some w gp gc cap s r c l c0 hc).mono ?_
    rintro e w' ⟨rfl, rfl⟩
    obtain ⟨h1, h2⟩ := H.took (cap := cap) (s := s) (r := r) s (r + 1)
    exact ⟨rfl, h1, h2⟩
theorem left_own (w : World) (base gp gc : Nat) (ahead put : List UInt8) (h : Bool) (code : Nat) (H : OwnP w base gp gc ahead put h code) :
    Calls Try.prog 14 #[.pointer (some ⟨gp, 0, none⟩)] w fun e w' => e = .returned (.int .i64 ahead.length) ∧ w = w' := by
  obtain ⟨v, hb, _⟩ := H.obj
  obtain ⟨cap, s, r, hc⟩ := H.ch
  exact left_port w gp gc cap s r ahead (hb.cell 0) hc

/-- What no port answers. -/
structure Pt.No (w : World) (p : Value) (v : Nat) : Prop where
  out : Calls Try.prog 15 #[p, .int .u32 v] w fun e w' => e = .returned (.tuple #[]) ∧ w = w'
  halt : Calls Try.prog 30 #[p, .int .u32 v] w fun e w' => e = .returned (.tuple #[]) ∧ w = w'
  halted : Calls Try.prog 33 #[p] w fun e w' => e = .returned (.tuple #[.int .u32 0, .bool false]) ∧ w = w'
  in_ : Calls Try.prog 13 #[p] w fun e w' => e = .returned (.int .u32 0) ∧ w = w'
  output : Calls Try.prog 16 #[p] w fun e w' => e = .returned (.slice none 0 0) ∧ w = w'
  left : Calls Try.prog 14 #[p] w fun e w' => e = .returned (.int .i64 0) ∧ w = w'
theorem no_out (w : World) (p : Value) (v : Nat) (hn : Calls Try.prog 38 #[p] w fun e w' => e = .returned (.bool true) ∧ w = w') : Calls Try.prog 15 #[p, .int .u32 v] w fun e w' => e = .returned (.tuple #[]) ∧ w = w' := by
  have H := Lib.hid hn; clear hn
  go_enter Try.func15, Try.ntmps15
  go_wp2_with (go_at_call 38; refine H.out.mono ?_; rintro e w' ⟨rfl, rfl⟩)
  go_end0
  exact ⟨rfl, rfl⟩
theorem no_halt (w : World) (p : Value) (v : Nat) (hn : Calls Try.prog 38 #[p] w fun e w' => e = .returned (.bool true) ∧ w = w') : Calls Try.prog 30 #[p, .int .u32 v] w fun e w' => e = .returned (.tuple #[]) ∧ w = w' := by
  have H := Lib.hid hn; clear hn
  go_enter Try.func30, Try.ntmps30
  go_wp2_with (go_at_call 38; refine H.out.mono ?_; rintro e w' ⟨rfl, rfl⟩)
  go_end0
  exact ⟨rfl, rfl⟩
theorem no_halted (w : World) (p : Value) (hn : Calls Try.prog 38 #[p] w fun e w' => e = .returned (.bool true) ∧ w = w') : Calls Try.prog 33 #[p] w fun e w' => e = .returned (.tuple #[.int .u32 0, .bool false]) ∧ w = w' := by
  have H := Lib.hid hn; clear hn
  go_enter Try.func33, Try.ntmps33
  go_wp2_with (go_at_call 38; refine H.out.mono ?_; rintro e w' ⟨rfl, rfl⟩)
  go_ret2
  exact ⟨rfl, rfl⟩
theorem no_in (w : World) (p : Value) (hn : Calls Try.prog 38 #[p] w fun e w' => e = .returned (.bool true) ∧ w = w') : Calls Try.prog 13 #[p] w fun e w' => e = .returned (.int .u32 0) ∧ w = w' := by
  have H := Lib.hid hn; clear hn
  go_enter Try.func13, Try.ntmps13
  go_wp2_with (go_at_call 38; refine H.out.mono ?_; rintro e w' ⟨rfl, rfl⟩)
  go_ret
  exact ⟨rfl, rfl⟩
theorem no_output (w : World) (p : Value) (hn : Calls Try.prog 38 #[p] w fun e w' => e = .returned (.bool true) ∧ w = w') : Calls Try.prog 16 #[p] w fun e w' => e = .returned (.slice none 0 0) ∧ w = w' := by
  have H := Lib.hid hn; clear hn
  go_enter Try.func16, Try.ntmps16
  go_wp2_with (go_at_call 38; refine H.out.mono ?_; rintro e w' ⟨rfl, rfl⟩)
  go_ret
  exact ⟨rfl, rfl⟩
theorem no_left (w : World) (p : Value) (hn : Calls Try.prog 38 #[p] w fun e w' => e = .returned (.bool true) ∧ w = w') : Calls Try.prog 14 #[p] w fun e w' => e = .returned (.int .i64 0) ∧ w = w' := by
  have H := Lib.hid hn; clear hn
  go_enter Try.func14, Try.ntmps14
  go_wp2_with (go_at_call 38; refine H.out.mono ?_; rintro e w' ⟨rfl, rfl⟩)
  go_ret
  exact ⟨rfl, rfl⟩
theorem Pt.no_of (w : World) (p : Value) (v : Nat) (hn : Calls Try.prog 38 #[p] w fun e w' => e = .returned (.bool true) ∧ w = w') : Pt.No w p v :=
  ⟨no_out w p v hn, no_halt w p v hn, no_halted w p hn, no_in w p hn, no_output w p hn, no_left w p hn⟩

set_option maxRecDepth 20000 in
theorem pknows_any (w : World) : Calls Try.prog 10 #[] w fun e w' => e = .returned (.bool true) ∧ Below w.heap.size w w' := by
  have hs : RdB (w.alloc (.cells #[.int .u8 97] 5 (1, 2))) (.slice (some ⟨w.heap.size, 0, none⟩) 1 1) [97] := by
    refine .inr ⟨w.heap.size, 0, 1, rfl, by simp, by simp, by unfold maxLen; omega, fun j hj => ?_⟩
    obtain rfl : j = 0 := by simpa using hj
    have := heap_alloc_new w (.cells #[.int .u8 97] 5 (1, 2))
    simp only [World.cell?, this]
    rfl
  have HN := Lib.hid (new_port (w.alloc (.cells #[.int .u8 97] 5 (1, 2))) _ [97] hs (by decide))
  have HB0 := Lib.hid ((Below.refl w.heap.size w).alloc (Nat.le_refl _) (.cells #[.int .u8 97] 5 (1, 2)))
  clear hs
  have kc := fun (w : World) (C : Array Value) (n c : Nat) => Lib.run_convert_bytes_const (P := Try.prog) w 22 5 C n c Try.underlying22 Try.underlying5
  go_enter Try.func10, Try.ntmps10
  go_wp2_with fail
  refine HN.out.mono ?_
  rintro e w1 ⟨gp, gc, rfl, hp, hb1⟩
  have HB1 := Lib.hid (HB0.out.trans (hb1.mono (by simp)))
  have HP := Lib.hid hp
  clear hp hb1
  go_wp2_with fail
  have C := in_port w1 _ gp gc _ _ _ _ HP.out
  rw [show Pt.inV [97] = 97 from rfl, show ([97] : List UInt8).tail = [] from rfl] at C
  refine C.mono ?_
  clear C
  rintro e w2 ⟨rfl, hp2, hs2⟩
  have HB2 := Lib.hid (HB1.out.trans ((hs2.below HP.out).mono (by simp)))
  have HP2 := Lib.hid hp2
  clear hp2 hs2
  go_wp2_with fail
  have C := in_port w2 _ gp gc _ _ _ _ HP2.out
  rw [show Pt.inV [] = 4294967295 from rfl, show ([] : List UInt8).tail = [] from rfl] at C
  refine C.mono ?_
  clear C
  rintro e w3 ⟨rfl, hp3, hs3⟩
  have HB3 := Lib.hid (HB2.out.trans ((hs3.below HP2.out).mono (by simp)))
  have HP3 := Lib.hid hp3
  clear hp3 hs3
  go_wp2_with fail
  refine (out_port w3 _ gp gc _ _ _ _ 353 (by decide) HP3.out).mono ?_
  rintro e w4 ⟨rfl, hp4, hs4⟩
  have HB4 := Lib.hid (HB3.out.trans ((hs4.below HP3.out).mono (by simp)))
  have e4 : Pt.out [] 353 = [97] := by decide
  rw [e4] at hp4
  have HP4 := Lib.hid hp4
  clear hp4 hs4 e4
  go_wp2_with (go_at_call 12; refine (pnum_any _ _).mono ?_; rintro e w' ⟨rfl, rfl⟩)
  refine (out_put w4 _ gp gc _ _ _ _ HP4.out).mono ?_
  rintro e w5 ⟨v5, rfl, ho5, hb5⟩
  have hcv := run_string_of pbt Try.underlying9 ho5.rd
  have HB5 := Lib.hid (HB4.out.trans (hb5.mono HB4.out.size))
  have C := left_own w5 _ gp gc _ _ _ _ (HP4.out.kept hb5)
  have CC := Lib.hid C
  clear C ho5 hb5
  go_wp2_with (go_at_call 14; refine CC.out.mono ?_; rintro e w' ⟨rfl, rfl⟩)
  go_ret
  exact ⟨rfl, HB5.out⟩

set_option maxRecDepth 20000 in
set_option maxHeartbeats 1000000 in
theorem core_portNil (v : Nat) (hv : v < 4294967296) (w : World) : Calls Try.prog 7 #[.int .u32 v] w fun e w' => e = .returned (.bool true) ∧ Below w.heap.size w w' := by
  have hvi : (v : Int) < 4294967296 := by omega
  clear hv
  go_enter Try.func7, Try.ntmps7
  go_wp2_with fail
  go_loopw [3, 4] (fun m i wr => ∃ (k : Nat) (p : Option Addr), i = .int .i64 k ∧ k ≤ 2 ∧ m = .pointer p ∧ (k = 0 → p = none) ∧ (0 < k → ∃ gm, p = some ⟨gm, 0, none⟩ ∧ wr.cell? ⟨gm, 0, none⟩ = some (.chan none)) ∧ Below w.heap.size w wr) (fun _ i _ => 2 - (intOf i).toNat)
  case atStart => exact ⟨0, none, rfl, by omega, rfl, fun _ => rfl, fun h => absurd h (by omega), Below.refl _ _⟩
  case round =>
    obtain ⟨k, p, rfl, hk, rfl, hp0, hp1, hbr⟩ := hrel
    have HBR := Lib.hid hbr
    have HP1 := Lib.hid hp1
    have HP0 := Lib.hid hp0
    have hzr := hbr.size
    clear hbr hp1 hp0
    by_cases hlt : k < 2
    · have HNO := Lib.hid (show Pt.No wr (.pointer p) v from by
        by_cases h0 : k = 0
        · rw [HP0.out h0]
          exact Pt.no_of wr _ v (none_nil wr)
        · obtain ⟨gm, rfl, hc⟩ := HP1.out (by omega)
          exact Pt.no_of wr _ v (none_raw wr gm hc))
      have hlt' : (k : Int) < 2 := by omega
      go_wp2_with (first | (go_at_call 15; refine HNO.out.out.mono ?_; rintro e w' ⟨rfl, rfl⟩) | (go_at_call 30; refine HNO.out.halt.mono ?_; rintro e w' ⟨rfl, rfl⟩) | (go_at_call 33; refine HNO.out.halted.mono ?_; rintro e w' ⟨rfl, rfl⟩) | (go_at_call 13; refine HNO.out.in_.mono ?_; rintro e w' ⟨rfl, rfl⟩) | (go_at_call 16; refine HNO.out.output.mono ?_; rintro e w' ⟨rfl, rfl⟩) | (go_at_call 14; refine HNO.out.left.mono ?_; rintro e w' ⟨rfl, rfl⟩))
      go_roundw
      case rel =>
        exact ⟨k + 1, some ⟨wr.heap.size, 0, none⟩, by go_num, by omega, rfl, fun h => absurd h (by omega), fun _ => ⟨wr.heap.size, rfl, (Bk.fresh wr 56 #[.chan none, .slice none 0 0, .bool false, .int .u32 0]).cell 0⟩, HBR.out.alloc hzr _⟩
      case measure => simp [intOf]; omega
    · obtain rfl : k = 2 := by omega
      go_wp2_with (go_at_call 10; refine (pknows_any _).mono ?_; rintro e w9 ⟨rfl, hb9⟩)
      go_ret
      exact ⟨rfl, HBR.out.trans (hb9.mono HBR.out.size)⟩
end Go.Proofs.Ytfffkfcemajcpaa
