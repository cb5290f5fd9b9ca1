/- Texts joined, what is not reached left out. -/
import Derived.Test.YtpcpaoeajcjoiaaGreatDoorDE
import Derived.Deep.RegionHeld3
import Derived.Deep.AppendLies
import Derived.IntWalk
import Derived.Outline
import Derived.StillTailTactics
import Derived.Deep.DeepCutAuto
import Derived.WalkLawsBesides
import Derived.WalkSpells
import Derived.Lib.Hide
import Derived.Lib.ConvBytes
set_option linter.unusedVariables false
set_option linter.unusedSimpArgs false
namespace Go.Proofs.YtpcpaoeajcjoiaaGreatDoor
open Go.RowKit Kit
set_option maxHeartbeats 400000 in
theorem right_ref (s : ByteArray) (w : World) (hs : s.size ≤ maxLen) :
  Calls Tryz.prog 17 #[.string s] w fun e w' => e = .returned (.bool (Nm.right s.data.toList)) ∧ w = w' := by
 unfold maxLen at hs
 go_enter Tryz.func17, Tryz.ntmps17
 go_wp2
 go_loop [3] (fun i => ∃ k : Nat, k ≤ s.size ∧ i = .int .i64 k ∧ (s.data.toList.take k).all Nm.okc = true) (fun i => s.size - (intOf i).toNat)
 case atStart => exact ⟨0, Nat.zero_le _, rfl, by simp⟩
 case round =>
  obtain ⟨k, hk, rfl, hall⟩ := hrel
  have HA := Lib.hid hall; clear hall
  by_cases hlt : k < s.size
  ·by_cases h1 : (s[k].toNat : Int) ≤ 32
   ·have HF := Lib.hid (Nm.right_no s k hlt (Nm.okc_low h1))
    go_wp2
    go_ret
    exact ⟨ret_bool HF.out.symm, rfl⟩
   ·by_cases h2 : 127 ≤ (s[k].toNat : Int)
    ·have HF := Lib.hid (Nm.right_no s k hlt (Nm.okc_high (by omega)))
     go_wp2
     go_ret
     exact ⟨ret_bool HF.out.symm, rfl⟩
    ·have HN := Lib.hid (Nm.all_step s k hlt HA.out (Nm.okc_ok h1 (by omega)))
     go_wp2
     go_round
     case rel => exact ⟨k + 1, by omega, by go_num, HN.out⟩
     case measure => simp [intOf]; omega
  ·have HF := Lib.hid (Nm.right_end s k hlt HA.out)
   by_cases h0 : 0 < s.size
   ·have h1 := Nm.nonempty_of s h0
    go_wp2
    go_ret
    exact ⟨ret_bool (by rw [HF.out, Nm.isEmpty_of h1]; simp; omega), rfl⟩
   ·have h1 := Lib.hid (Nm.empty_of s h0)
    go_wp2
    go_ret
    exact ⟨ret_bool (by rw [HF.out, h1.out]; rfl), rfl⟩
def Nm.errN (l : List UInt8) (fl : Int) : Int := if Nm.right l = false then 41 else if fl < 0 ∨ 15 < fl then 1 else 0
theorem Nm.errN_zero {l : List UInt8} {fl : Int} (h : Nm.errN l fl = 0) : l.length ≤ 31 ∧ 0 ≤ fl ∧ fl ≤ 15 := by
 unfold Nm.errN at h
 split at h
 ·cases h
 ·rename_i hr
  split at h
  ·cases h
  ·refine ⟨?_, by omega, by omega⟩
   have hr' : Nm.right l = true := by simpa using hr
   simp [Nm.right] at hr'
   omega
theorem right_size {s : ByteArray} (hr : Nm.right s.data.toList = true) : s.size ≤ 31 := by
 have : s.data.toList.length = s.size := rfl
 simp [Nm.right] at hr
 omega
def Nm.outB (l : List UInt8) (fl : Int) (a b c : Nat) : List UInt8 := if Nm.errN l fl = 0 then Nm.headB l fl.toNat a b c else []
theorem Nm.le4_bv' (z : Nat) (hz : z < 4294967296) : #[Value.int .u8 ((z : Int) % 256), .int .u8 ((z : Int) / 256 % 256), .int .u8 ((z : Int) / 65536 % 256), .int .u8 ((z : Int) / 16777216)].toList = bv (Nm.le4 z) := by
 rw [← Nm.le4_bv z, show (z : Int) / 16777216 % 256 = (z : Int) / 16777216 by omega]
theorem two_bv' (fl n : Nat) : #[Value.int .u8 (IntKind.u8.wrap (fl : Int)), .int .u8 (IntKind.u8.wrap (n : Int))].toList = bv [UInt8.ofNat fl, UInt8.ofNat n] := by
 simp [bv, UInt8.toNat_ofNat, IntKind.wrap_u8]
theorem four_any (z : Nat) (w : World) (hz : z < 4294967296) : Calls Tryz.prog 254 #[.int .u32 z] w fun e w' => ∃ v, e = .returned v ∧ OwnB 5 w.heap.size w' v (Nm.le4 z) ∧ Below w.heap.size w w' := by
 go_enter Tryz.func254, Tryz.ntmps254
 go_wp2
 go_ret
 exact ⟨_, rfl, OwnB.built w 5 _ (Nm.le4 z) (Nm.le4_bv' z hz) (show 4 ≤ maxLen by decide) (Nat.le_refl _), (Below.refl _ _).alloc (Nat.le_refl _) _⟩
set_option maxHeartbeats 800000 in
theorem refBytes_ok (s : ByteArray) (fl a b c : Nat) (w : World) (hr : Nm.right s.data.toList = true) (hf : fl ≤ 15) (ha : a < 4294967296) (hb : b < 4294967296) (hc : c < 4294967296) :
  Calls Tryz.prog 206 #[hv s fl a b c] w fun e w' => ∃ v, e = .returned (.tuple #[v, .int .i64 0]) ∧ OwnB 5 w.heap.size w' v (Nm.headB s.data.toList fl a b c) ∧ Below w.heap.size w w' := by
 have hsz := right_size hr
 have hs : s.size ≤ maxLen := by unfold maxLen; omega
 go_enter Tryz.func206, Tryz.ntmps206
 go_wp2_with (go_at_call 17; refine (right_ref s _ hs).mono ?_; rintro e w' ⟨rfl, rfl⟩)
 clear hr
 have hd0 : Below w.heap.size w (w.alloc (.cells #[.string s, .int .i64 fl, .int .u32 a, .int .u32 b, .int .u32 c] 78)) := (Below.refl _ _).alloc (Nat.le_refl _) _
 go_region_held3 (fun w' => w'.cell? ⟨w.heap.size, 2, none⟩ = some (.int .u32 a) ∧ w'.cell? ⟨w.heap.size, 3, none⟩ = some (.int .u32 b) ∧ w'.cell? ⟨w.heap.size, 4, none⟩ = some (.int .u32 c))
  (first | go_keep | exact keep3 hb5 (by omega) ‹_› | exact keep3 hb4 (by omega) ‹_› | exact keep3 hb3 (by omega) ‹_› | exact keep3 hb2 (by omega) ‹_› | exact keep3 hb1 (by simp) ‹_›)
  (first
   | (go_simp; go_at_call 254; first | ((with_reducible refine (four_any a _ ha).mono ?_); rintro e w1 ⟨v1, rfl, ho1, hb1⟩; have z1 : w.heap.size < w1.heap.size := (by have := hb1.size; simp at this; omega)) | ((with_reducible refine (four_any b _ hb).mono ?_); rintro e w2 ⟨v2, rfl, ho2, hb2⟩; have z2 : w.heap.size < w2.heap.size := (by have := hb2.size; omega)) | ((with_reducible refine (four_any c _ hc).mono ?_); rintro e w4 ⟨v4, rfl, ho4, hb4⟩; have z4 : w.heap.size < w4.heap.size := (by have := hb4.size; omega)))
   | (refine step_appendB (by rfl) _ _ _ _ (by rfl) bt (w.heap.size + 1) v1 (by rfl) (Nm.le4 a) (OwnB.kept (by simpa using ho1) hb2) v2 (by rfl) (Nm.le4 b) (src_of_rd bt ho2.rd) (show 4 + 4 ≤ 140737488355328 by decide) (by omega) ?_; intro v3 w3 ho3 hb3 _; have z3 : w.heap.size < w3.heap.size := (by have := hb3.size; omega))
   | (refine step_appendB (by rfl) _ _ _ _ (by rfl) bt (w.heap.size + 1) v3 (by rfl) (Nm.le4 a ++ Nm.le4 b) (ho3.kept hb4) v4 (by rfl) (Nm.le4 c) (src_of_rd bt ho4.rd) (show 4 + 4 + 4 ≤ 140737488355328 by decide) (by omega) ?_; intro v5 w5 ho5 hb5 _; have z5 : w.heap.size < w5.heap.size := (by have := hb5.size; omega)))
 have hB5 : Below (w.heap.size + 1) (w.alloc (.cells #[.string s, .int .i64 fl, .int .u32 a, .int .u32 b, .int .u32 c] 78)) w5 := by
  have k1 := hb1.mono (show w.heap.size + 1 ≤ _ by simp)
  have e1 := hb1.size
  simp only [World.size_alloc, World.size_drew] at e1
  exact ((((Below.refl _ _).drew.trans k1).trans (hb2.mono (by omega))).trans hb3).trans ((hb4.mono (by omega)).trans hb5)
 have g0 : (w.alloc (.cells #[.string s, .int .i64 fl, .int .u32 a, .int .u32 b, .int .u32 c] 78)).cell? ⟨w.heap.size, 0, none⟩ = some (.string s) := by go_simp
 have g1 : (w.alloc (.cells #[.string s, .int .i64 fl, .int .u32 a, .int .u32 b, .int .u32 c] 78)).cell? ⟨w.heap.size, 1, none⟩ = some (.int .i64 fl) := by go_simp
 have c0 := (hB5.cell (p := ⟨w.heap.size, 0, none⟩) (by show w.heap.size < _; omega)).trans g0
 have c1 := (hB5.cell (p := ⟨w.heap.size, 1, none⟩) (by show w.heap.size < _; omega)).trans g1
 have HW := Lib.hid (hd0.trans (hB5.mono (by omega)))
 have HO := Lib.hid ho5
 clear hb1 hb2 hb3 hb4 hb5 ho1 ho2 ho3 ho4 ho5 hB5 g0 g1 hd0
 go_wp2_with fail
 go_region_held3 (fun w' => w'.cell? ⟨w.heap.size, 0, none⟩ = some (.string s) ∧ w'.cell? ⟨w.heap.size, 1, none⟩ = some (.int .i64 fl))
  (first | go_keep | exact keep2 hb7 (by omega) ‹_› | exact keep2 hb6 (by omega) ‹_›)
  (first
   | (refine step_appendB (by rfl) _ _ _ _ (by rfl) bt (w.heap.size + 1) v5 (by rfl) (Nm.les [a, b, c]) ((OwnB.kept HO.out (Below.refl _ _).drew).alloc _) _ (by rfl) [UInt8.ofNat fl, UInt8.ofNat s.size] (src_of_built bt w5.drew _ _ [UInt8.ofNat fl, UInt8.ofNat s.size] 2 (two_bv' fl s.size)) (by rw [Nm.les_length]; show 4 * 3 + 2 ≤ 140737488355328; decide) (by simp; omega) ?_; intro v6 w6 ho6 hb6 _; have z6 : w.heap.size < w6.heap.size := (by have := hb6.size; simp at this; omega))
   | (refine step_appendB (by rfl) _ _ _ _ (by rfl) bt (w.heap.size + 1) v6 (by rfl) (Nm.les [a, b, c] ++ [UInt8.ofNat fl, UInt8.ofNat s.size]) ho6 _ (by rfl) s.data.toList (src_of_string Tryz.underlying9 _ s) (by rw [List.length_append, Nm.les_length]; show 4 * 3 + 2 + s.size ≤ 140737488355328; omega) (by omega) ?_; intro v7 w7 ho7 hb7 _; have z7 : w.heap.size < w7.heap.size := (by have := hb7.size; omega)))
 have HW7 := Lib.hid (show Below w.heap.size w w7 from ((HW.out.drew.alloc (by simp; omega) _).trans (hb6.mono (by omega))).trans (hb7.mono (by omega)))
 have HO7 := Lib.hid ho7
 clear hb6 hb7 ho6 ho7 HW HO c0 c1 z1 z2 z3 z4 z5 z6
 have e : s.data.toList.length = s.size := rfl
 have hln : 14 + s.size ≤ Nm.lengthN s.size ∧ Nm.lengthN s.size ≤ 14 + s.size + 3 ∧ Nm.lengthN s.size % 4 = 0 := by unfold Nm.lengthN; rw [if_neg (by omega)]; omega
 have HX := Lib.hid (show ∀ j, (Nm.les [a, b, c] ++ [UInt8.ofNat fl, UInt8.ofNat s.size] ++ s.data.toList ++ List.replicate j 0).length = 14 + s.size + j from fun j => by
  simp only [List.length_append, Nm.les_length, List.length_replicate, e, List.length_cons, List.length_nil])
 have HH := Lib.hid (show Nm.headB s.data.toList fl a b c = Nm.les [a, b, c] ++ [UInt8.ofNat fl, UInt8.ofNat s.size] ++ s.data.toList ++ List.replicate (Nm.lengthN s.size - (14 + s.size)) 0 from rfl)
 generalize Nm.les [a, b, c] ++ [UInt8.ofNat fl, UInt8.ofNat s.size] ++ s.data.toList = X at *
 generalize Nm.lengthN s.size = N at *
 go_wp2_with fail
 go_loopw [4] (fun v wr => ∃ j : Nat, 14 + s.size + j ≤ N ∧ OwnB 5 (w.heap.size + 1) wr v (X ++ List.replicate j 0) ∧ Below w.heap.size w wr ∧ w.heap.size < wr.heap.size) (fun v _ => N - lenOf v)
 case atStart => exact ⟨0, by omega, by simpa using HO7.out, HW7.out, z7⟩
 case round =>
  obtain ⟨j, hj, ho, hb, hz⟩ := hrel
  obtain ⟨m, hm⟩ : ∃ m : Nat, m = 14 + s.size + j := ⟨_, rfl⟩
  obtain ⟨ad, cap, rfl⟩ := ho.len (n := m) (by rw [HX.out j, hm])
  have hmN : m ≤ N := by omega
  have hm50 : m ≤ 60 := by omega
  have hmlo : 14 + s.size ≤ m := by omega
  have HJ := Lib.hid hm
  clear hm hj
  by_cases hlt : m < N
  ·have h1 : ((m : Int) % 4 != 0) = true := by simp; omega
   have hl := HX.out j
   go_wp2_with (at_builtin; refine wpList_appendB rfl _ _ _ _ rfl bt (w.heap.size + 1) _ rfl _ (ho.alloc _) _ rfl [0] ?hsrc ?hl ?hb ?_)
   case hsrc => exact src_of_built bt wr _ _ [0] 1 rfl
   case hl => have := HJ.out; rw [hl]; simp; omega
   case hb => simp; omega
   intro v8 w8 ho8 hb8 _
   have hb9 : Below w.heap.size w w8 := (hb.alloc (by omega) _).trans (hb8.mono (by omega))
   have hz9 : w.heap.size < w8.heap.size := by have := hb8.size; simp at this; omega
   rw [show List.replicate j (0 : UInt8) ++ [0] = List.replicate (j + 1) 0 from (List.replicate_succ' ..).symm] at ho8
   obtain ⟨ad', cap', rfl⟩ := ho8.len (n := m + 1) (by rw [HX.out, HJ.out]; omega)
   clear hl
   go_wp2
   go_roundw
   case rel => exact ⟨j + 1, by have := HJ.out; omega, ho8, hb9, hz9⟩
   case measure => simp [lenOf]; omega
  ·have h1 : ((m : Int) % 4 != 0) = false := by simp; omega
   have hl := HJ.out
   rw [show j = N - (14 + s.size) by omega, ← HH.out] at ho
   clear hl
   go_wp2
   go_ret2
   exact ⟨_, rfl, ho.rebase (by omega), hb⟩
theorem refBytes_any (s : ByteArray) (fl : Int) (a b c : Nat) (w : World) (hs : s.size ≤ maxLen) (ha : a < 4294967296) (hb : b < 4294967296) (hc : c < 4294967296) :
  Calls Tryz.prog 206 #[hv s fl a b c] w fun e w' => ∃ v, e = .returned (.tuple #[v, .int .i64 (Nm.errN s.data.toList fl)]) ∧ OwnB 5 w.heap.size w' v (Nm.outB s.data.toList fl a b c) ∧ Below w.heap.size w w' := by
 by_cases hr : Nm.right s.data.toList = false
 ·have e1 : Nm.errN s.data.toList fl = 41 := by rw [Nm.errN, if_pos hr]
  have e2 : Nm.outB s.data.toList fl a b c = [] := by rw [Nm.outB, e1]; rfl
  rw [e1, e2]
  clear e1 e2
  go_enter Tryz.func206, Tryz.ntmps206
  go_wp2_with (go_at_call 17; refine (right_ref s _ hs).mono ?_; rintro e w' ⟨rfl, rfl⟩)
  go_ret2
  exact ⟨_, rfl, OwnB.nil _ _ _, (Below.refl _ _).alloc (Nat.le_refl _) _⟩
 ·have hr' : Nm.right s.data.toList = true := by simpa using hr
  by_cases hf : fl < 0 ∨ 15 < fl
  ·have e1 : Nm.errN s.data.toList fl = 1 := by rw [Nm.errN, if_neg hr, if_pos hf]
   have e2 : Nm.outB s.data.toList fl a b c = [] := by rw [Nm.outB, e1]; rfl
   rw [e1, e2]
   clear e1 e2 hr
   rcases hf with h0 | h0
   ·go_enter Tryz.func206, Tryz.ntmps206
    go_wp2_with (go_at_call 17; refine (right_ref s _ hs).mono ?_; rintro e w' ⟨rfl, rfl⟩)
    go_ret2
    exact ⟨_, rfl, OwnB.nil _ _ _, (Below.refl _ _).alloc (Nat.le_refl _) _⟩
   ·have h1 : ¬ fl < 0 := by omega
    go_enter Tryz.func206, Tryz.ntmps206
    go_wp2_with (go_at_call 17; refine (right_ref s _ hs).mono ?_; rintro e w' ⟨rfl, rfl⟩)
    go_ret2
    exact ⟨_, rfl, OwnB.nil _ _ _, (Below.refl _ _).alloc (Nat.le_refl _) _⟩
  ·have e1 : Nm.errN s.data.toList fl = 0 := by rw [Nm.errN, if_neg hr, if_neg hf]
   have e2 : Nm.outB s.data.toList fl a b c = Nm.headB s.data.toList fl.toNat a b c := by rw [Nm.outB, if_pos e1]
   obtain ⟨n, rfl⟩ := Int.eq_ofNat_of_zero_le (show 0 ≤ fl by omega)
   rw [e1, e2]
   exact refBytes_ok s n a b c w hr' (by omega) ha hb hc
theorem word_ref (g off at' len cap : Nat) (b0 b1 b2 b3 : UInt8) (w : World) (hat : at' ≤ 100) (hl : at' + 4 ≤ len) (c0 : w.cell? ⟨g, off + at', none⟩ = some (.int .u8 b0.toNat)) (c1 : w.cell? ⟨g, off + (at' + 1), none⟩ = some (.int .u8 b1.toNat))
  (c2 : w.cell? ⟨g, off + (at' + 2), none⟩ = some (.int .u8 b2.toNat)) (c3 : w.cell? ⟨g, off + (at' + 3), none⟩ = some (.int .u8 b3.toNat)) :
  Calls Tryz.prog 205 #[.slice (some ⟨g, off, none⟩) len cap, .int .i64 at'] w fun e w' => e = .returned (.int .u32 (Nm.wordN b0.toNat b1.toNat b2.toNat b3.toNat : Int)) ∧ w' = w.drew := by
 have h0 : b0.toNat < 256 := b0.toNat_lt
 have h1 : b1.toNat < 256 := b1.toNat_lt
 have h2 : b2.toNat < 256 := b2.toNat_lt
 have h3 : b3.toNat < 256 := b3.toNat_lt
 have n0 : at' < len := by omega
 have n1 : at' + 1 < len := by omega
 have n2 : at' + 2 < len := by omega
 have n3 : at' + 3 < len := by omega
 have m1 : (0 : Int) ≤ (at' : Int) + 1 := by omega
 have m2 : (0 : Int) ≤ (at' : Int) + 2 := by omega
 have m3 : (0 : Int) ≤ (at' : Int) + 3 := by omega
 have k1 : (at' : Int) + 1 < len := by omega
 have k2 : (at' : Int) + 2 < len := by omega
 have k3 : (at' : Int) + 3 < len := by omega
 generalize b0.toNat = x0 at *
 generalize b1.toNat = x1 at *
 generalize b2.toNat = x2 at *
 generalize b3.toNat = x3 at *
 go_enter Tryz.func205, Tryz.ntmps205
 go_wp2
 refine wp_region_still_lit (by kernel_rfl) (by kernel_rfl) ?_
 repeat ((with_reducible refine wpStill_step (fun K hK => ?_)); go_simp; (try go_bits); (with_reducible refine hK _ ?_); clear hK K)
 refine wpStill_nil ?_
 go_wp2
 go_ret
 exact ⟨ret_int (by simp [Nm.wordN]), rfl⟩
theorem slice_run_h (g off len cap hi : Nat) (h2 : hi ≤ cap) (h : Int) (hh : h = hi) (W : World) :
  (Instr.slice 26 (.slice (some ⟨g, off, none⟩) len cap) none (some (.int .i64 h)) none).run Tryz.prog W = .ok (sliced (some ⟨g, off, none⟩) 0 hi cap 1) W := by
 obtain ⟨i, hi', hz, hs1, hb1⟩ := bt.info
 have helem : Tryz.prog.elem 26 = 5 := by simp [Program.elem, bt.slice]
 have ht : Tryz.prog.underlying 26 = some (.slice (Tryz.prog.elem 26)) := by rw [helem]; exact bt.slice
 have hsz : (sizeOf (Tryz.prog.elem 26)).run Tryz.prog W = .ok 1 W := by rw [helem]; simp [sizeOf, typeInfo, hi', hs1]
 subst hh
 rw [run_slice_h (w := W) 26 _ _ _ ht .i64 hi (by omega) (by omega), hsz]
 simp
structure RG (w : World) (g off cap n k f : Nat) (nm : List UInt8) (x0 x4 x8 : Nat) (v2 : Value) (E : Int) (L T : List UInt8) (vL : Value) : Prop where
 c13 : ∀ W', Below w.heap.size w W' → W'.cell? ⟨g, off + 13, none⟩ = some (.int .u8 k)
 c12 : ∀ W', Below w.heap.size w W' → W'.cell? ⟨g, off + 12, none⟩ = some (.int .u8 f)
 cv : ∀ W', Below w.heap.size w W' → (convert 26 9 v2).run Tryz.prog W' = .ok (.string ⟨nm.toArray⟩) W'
 s2 : ∀ W', (Instr.slice 26 (.slice (some ⟨g, off, none⟩) n cap) (some (.int .i64 14)) (some (.int .i64 (14 + (k : Int)))) none).run Tryz.prog W' = .ok v2 W'
 sL : L.length ≤ n → ∀ W', (Instr.slice 26 (.slice (some ⟨g, off, none⟩) n cap) none (some (.int .i64 (L.length : Nat))) none).run Tryz.prog W' = .ok vL W'
 cvL : L.length ≤ n → ∀ W', Below w.heap.size w W' → (convert 26 9 vL).run Tryz.prog W' = .ok (.string ⟨T.toArray⟩) W'
 w0 : ∀ W', Below w.heap.size w W' → Calls Tryz.prog 205 #[.slice (some ⟨g, off, none⟩) n cap, .int .i64 0] W' fun e w' => e = .returned (.int .u32 x0) ∧ w' = W'.drew
 w4 : ∀ W', Below w.heap.size w W' → Calls Tryz.prog 205 #[.slice (some ⟨g, off, none⟩) n cap, .int .i64 4] W' fun e w' => e = .returned (.int .u32 x4) ∧ w' = W'.drew
 w8 : ∀ W', Below w.heap.size w W' → Calls Tryz.prog 205 #[.slice (some ⟨g, off, none⟩) n cap, .int .i64 8] W' fun e w' => e = .returned (.int .u32 x8) ∧ w' = W'.drew
 bytes : ∀ W', Calls Tryz.prog 206 #[.agg #[.string ⟨nm.toArray⟩, .int .i64 f, .int .u32 x0, .int .u32 x4, .int .u32 x8]] W' fun e w' => ∃ v, e = .returned (.tuple #[v, .int .i64 E]) ∧ OwnB 5 W'.heap.size w' v L ∧ Below W'.heap.size W' w'
def RGPost (w : World) (n f : Nat) (nm : List UInt8) (x0 x4 x8 : Nat) (E : Int) (L T : List UInt8) (e : Ending) (w' : World) : Prop :=
 ((E ≠ 0 ∨ n < L.length ∨ T ≠ L) → e = .returned (.tuple #[hv0, .int .i64 0, .int .i64 45])) ∧
  ((E = 0 ∧ L.length ≤ n ∧ T = L) → e = .returned (.tuple #[hv ⟨nm.toArray⟩ f x0 x4 x8, .int .i64 (L.length : Nat), .int .i64 0])) ∧ Below w.heap.size w w'
theorem RGPost.bad {w : World} {n f : Nat} {nm : List UInt8} {x0 x4 x8 : Nat} {E : Int} {L T : List UInt8} {w' : World} (h : E ≠ 0 ∨ n < L.length ∨ T ≠ L) (hb : Below w.heap.size w w') :
  RGPost w n f nm x0 x4 x8 E L T (.returned (.tuple #[hv0, .int .i64 0, .int .i64 45])) w' := ⟨fun _ => rfl, fun h2 => by
   rcases h with h | h | h
   ·exact absurd h2.1 h
   ·omega
   ·exact absurd h2.2.2 h, hb⟩
theorem RGPost.good {w : World} {n f : Nat} {nm : List UInt8} {x0 x4 x8 : Nat} {E : Int} {L T : List UInt8} {w' : World} (h : E = 0 ∧ L.length ≤ n ∧ T = L) (hb : Below w.heap.size w w') :
  RGPost w n f nm x0 x4 x8 E L T (.returned (.tuple #[hv ⟨nm.toArray⟩ f x0 x4 x8, .int .i64 (L.length : Nat), .int .i64 0])) w' := ⟨fun h2 => by
   rcases h2 with h2 | h2 | h2
   ·exact absurd h.1 h2
   ·omega
   ·exact absurd h.2.2 h2, fun _ => rfl, hb⟩
set_option maxHeartbeats 8000000 in
theorem refRead_core (w : World) (g off cap n k f : Nat) (nm : List UInt8) (x0 x4 x8 : Nat) (v2 : Value) (E : Int) (L T : List UInt8) (vL : Value) (F : RG w g off cap n k f nm x0 x4 x8 v2 E L T vL)
  (hg : g < w.heap.size) (hcap : n ≤ cap) (h14 : 14 ≤ n) (h4000 : n ≤ 4000) (hk : k < 256) (hl2 : 14 + k ≤ n) (hf : f < 256) (hL : L.length ≤ 60) :
  Calls Tryz.prog 135 #[.slice (some ⟨g, off, none⟩) n cap] w (RGPost w n f nm x0 x4 x8 E L T) := by
 have HB0 := Lib.hid (show Below w.heap.size w (w.alloc (.cells #[.string ⟨#[]⟩, .int .i64 0, .int .u32 0, .int .u32 0, .int .u32 0] 78)) from (Below.refl _ _).alloc (Nat.le_refl _) _)
 have c13 : (w.alloc (.cells #[.string ⟨#[]⟩, .int .i64 0, .int .u32 0, .int .u32 0, .int .u32 0] 78)).cell? ⟨g, off + 13, none⟩ = some (.int .u8 k) := F.c13 _ HB0.out
 have hsl := F.s2
 have n13 : 13 < n := by omega
 have n12 : 12 < n := by omega
 have m13 : (13 : Int) < n := by omega
 have m12 : (12 : Int) < n := by omega
 have s0 : (0 : Int) ≤ k := by omega
 have s1 : (14 : Int) + k ≤ cap := by omega
 have s2 : (14 : Int) ≤ 14 + k := by omega
 have s3 : 14 + k ≤ cap := by omega
 have s4 : (0 : Int) ≤ 14 + k := by omega
 have s6 : 14 ≤ 14 + k := by omega
 have s7 : IntKind.i64.wrap (14 + (k : Int)) = 14 + k := IntWalk.i64_in _ (by omega)
 have s8 : IntKind.i64.wrap (k : Int) = k := IntWalk.i64_in _ (by omega)
 have s9 : IntKind.i64.wrap (f : Int) = f := IntWalk.i64_in _ (by omega)
 have HF := Lib.hid F; clear F
 have HS := Lib.hid (show ∀ W', Below w.heap.size w W' → W'.cell? ⟨g, off + 13, none⟩ = some (.int .u8 k) ∧ W'.cell? ⟨g, off + 12, none⟩ = some (.int .u8 f) ∧ (convert 26 9 v2).run Tryz.prog W' = .ok (.string ⟨nm.toArray⟩) W' from fun W' hb =>
  ⟨HF.out.c13 W' hb, HF.out.c12 W' hb, HF.out.cv W' hb⟩)
 go_enter Tryz.func135, Tryz.ntmps135
 go_upto_region 3 with fail
 go_cut [5] (fun s5 wx => s5 = .pointer (some ⟨w.heap.size + 1, 0, none⟩) ∧ wx = ((w.alloc (.cells #[.string ⟨#[]⟩, .int .i64 0, .int .u32 0, .int .u32 0, .int .u32 0] 78)).alloc (.cells #[.string ⟨nm.toArray⟩, .int .i64 f, .int .u32 x0, .int .u32 x4, .int .u32 x8] 78)).drew.drew.drew.drew)
 case first =>
  go_region_held3 (fun w' => w'.cell? ⟨g, off + 13, none⟩ = some (.int .u8 k) ∧ w'.cell? ⟨g, off + 12, none⟩ = some (.int .u8 f) ∧ (convert 26 9 v2).run Tryz.prog w' = .ok (.string ⟨nm.toArray⟩) w')
   (first | exact HS.out _ (by repeat (first | exact Below.refl _ _ | apply Below.drew | refine Below.alloc ?_ (by simp) _ | refine Below.setCell ?_ (by simp) _)) | (go_keep; done))
   (first
    | (go_at_call 205; first | ((with_reducible refine (HF.out.w0 _ ?_).mono ?_); (repeat (first | exact Below.refl _ _ | apply Below.drew | refine Below.alloc ?_ (by simp) _ | refine Below.setCell ?_ (by simp) _)); rintro e w' ⟨rfl, rfl⟩) | ((with_reducible refine (HF.out.w4 _ ?_).mono ?_); (repeat (first | exact Below.refl _ _ | apply Below.drew | refine Below.alloc ?_ (by simp) _ | refine Below.setCell ?_ (by simp) _)); rintro e w' ⟨rfl, rfl⟩) | ((with_reducible refine (HF.out.w8 _ ?_).mono ?_); (repeat (first | exact Below.refl _ _ | apply Below.drew | refine Below.alloc ?_ (by simp) _ | refine Below.setCell ?_ (by simp) _)); rintro e w' ⟨rfl, rfl⟩)))
  all_goals (go_wp2_with fail; go_meet; exact ⟨rfl, rfl⟩)
 obtain ⟨rfl, rfl⟩ := hcut
 clear hsl s7 s8 s9 c13 HS
 have HBY := HF.out.bytes
 go_wp2_with fail
 refine (HBY _).mono ?_
 rintro e w1 ⟨v, rfl, ho, hb⟩
 clear HBY
 have q0 : w1.cell? ⟨w.heap.size + 1, 0, none⟩ = some (.string ⟨nm.toArray⟩) := (hb.cell (p := ⟨w.heap.size + 1, 0, none⟩) (by simp; try omega)).trans (by go_simp)
 have z0 : w1.cell? ⟨w.heap.size, 0, none⟩ = some (.string ⟨#[]⟩) := (hb.cell (p := ⟨w.heap.size, 0, none⟩) (by simp; try omega)).trans (by go_simp)
 have r0 : w1.frozen? ⟨w.heap.size, 0, none⟩ = false := (hb.frozen (p := ⟨w.heap.size, 0, none⟩) (by simp; try omega)).trans (by go_simp)
 have q1 : w1.cell? ⟨w.heap.size + 1, 1, none⟩ = some (.int .i64 f) := (hb.cell (p := ⟨w.heap.size + 1, 1, none⟩) (by simp; try omega)).trans (by go_simp)
 have z1 : w1.cell? ⟨w.heap.size, 1, none⟩ = some (.int .i64 0) := (hb.cell (p := ⟨w.heap.size, 1, none⟩) (by simp; try omega)).trans (by go_simp)
 have r1 : w1.frozen? ⟨w.heap.size, 1, none⟩ = false := (hb.frozen (p := ⟨w.heap.size, 1, none⟩) (by simp; try omega)).trans (by go_simp)
 have q2 : w1.cell? ⟨w.heap.size + 1, 2, none⟩ = some (.int .u32 x0) := (hb.cell (p := ⟨w.heap.size + 1, 2, none⟩) (by simp; try omega)).trans (by go_simp)
 have z2 : w1.cell? ⟨w.heap.size, 2, none⟩ = some (.int .u32 0) := (hb.cell (p := ⟨w.heap.size, 2, none⟩) (by simp; try omega)).trans (by go_simp)
 have r2 : w1.frozen? ⟨w.heap.size, 2, none⟩ = false := (hb.frozen (p := ⟨w.heap.size, 2, none⟩) (by simp; try omega)).trans (by go_simp)
 have q3 : w1.cell? ⟨w.heap.size + 1, 3, none⟩ = some (.int .u32 x4) := (hb.cell (p := ⟨w.heap.size + 1, 3, none⟩) (by simp; try omega)).trans (by go_simp)
 have z3 : w1.cell? ⟨w.heap.size, 3, none⟩ = some (.int .u32 0) := (hb.cell (p := ⟨w.heap.size, 3, none⟩) (by simp; try omega)).trans (by go_simp)
 have r3 : w1.frozen? ⟨w.heap.size, 3, none⟩ = false := (hb.frozen (p := ⟨w.heap.size, 3, none⟩) (by simp; try omega)).trans (by go_simp)
 have q4 : w1.cell? ⟨w.heap.size + 1, 4, none⟩ = some (.int .u32 x8) := (hb.cell (p := ⟨w.heap.size + 1, 4, none⟩) (by simp; try omega)).trans (by go_simp)
 have z4 : w1.cell? ⟨w.heap.size, 4, none⟩ = some (.int .u32 0) := (hb.cell (p := ⟨w.heap.size, 4, none⟩) (by simp; try omega)).trans (by go_simp)
 have r4 : w1.frozen? ⟨w.heap.size, 4, none⟩ = false := (hb.frozen (p := ⟨w.heap.size, 4, none⟩) (by simp; try omega)).trans (by go_simp)
 have hsz : w.heap.size + 1 < w1.heap.size := by have := hb.size; simp at this; omega
 have HB1 := Lib.hid (show Below w.heap.size w w1 from (show Below w.heap.size w _ by repeat (first | exact Below.refl _ _ | apply Below.drew | refine Below.alloc ?_ (by simp) _ | refine Below.setCell ?_ (by simp) _)).trans (hb.mono (by simp; omega)))
 have HO := Lib.hid ho.rd
 clear hb ho HB0
 obtain ⟨av, cv, rfl⟩ := HO.out.length
 by_cases hE : E = 0
 ·subst hE
  by_cases hlen : n < L.length
  ·have h1 : (n : Int) < (L.length : Int) := by omega
   have HL := Lib.hid (show (0 : Int) ≠ 0 ∨ n < L.length ∨ T ≠ L from .inr (.inl hlen))
   go_wp2_with fail
   refine wp_region_still_lit (by kernel_rfl) (by kernel_rfl) ?_
   repeat ((with_reducible refine wpStill_step (fun K hK => ?_)); go_simp; (with_reducible refine hK _ ?_); clear hK K)
   refine wpStill_nil ?_
   rw [show ({ w1 with drawn := w1.drawn + 1 } : World) = w1.drew from rfl]
   go_wp2
   refine bodyPost_ret (v := .tuple #[hv0, .int .i64 0, .int .i64 45]) (by simp [results, Tryz.results135, go_sem, z0, z1, z2, z3, z4]) rfl (RGPost.bad HL.out ?_)
   refine HB1.out.trans (Below.mono (B := w.heap.size) ?_ (Nat.le_refl _))
   repeat (first | exact (Below.refl _ _) | apply Below.drew | refine Below.setCell ?_ (by simp) _)
  ·have h1 : (L.length : Int) ≤ (n : Int) := by omega
   have hlen' : L.length ≤ n := by omega
   have hsl := HF.out.sL hlen'
   have hcL := HF.out.cvL hlen' w1.drew HB1.out.drew
   have hcC := run_string_of bt Tryz.underlying9 (HO.out.below (Below.drew (Below.refl _ _)))
   have HL := Lib.hid hlen'
   have h2 : L.length ≤ cap := by omega
   by_cases hT : T = L
   ·have hne : (T == L) = true := by simp [hT]
    have hn2 : decide (n < L.length) = false := by rw [decide_eq_false_iff_not]; omega
    have HT := Lib.hid hT
    clear hT hlen
    go_wp2_with fail
    refine wp_region_still_lit (by kernel_rfl) (by kernel_rfl) ?_
    repeat ((with_reducible refine wpStill_step (fun K hK => ?_)); go_simp; (with_reducible refine hK _ ?_); clear hK K)
    refine wpStill_nil ?_
    rw [show ({ w1 with drawn := w1.drawn + 1 } : World) = w1.drew from rfl]
    go_wp2
    refine bodyPost_ret (v := .tuple #[hv ⟨nm.toArray⟩ f x0 x4 x8, .int .i64 (L.length : Nat), .int .i64 0]) (by simp [results, Tryz.results135, go_sem, z0, z1, z2, z3, z4]) rfl (RGPost.good ⟨rfl, HL.out, HT.out⟩ ?_)
    refine HB1.out.trans (Below.mono (B := w.heap.size) ?_ (Nat.le_refl _))
    repeat (first | exact (Below.refl _ _) | apply Below.drew | refine Below.setCell ?_ (by simp) _)
   ·have hne : (T == L) = false := by simp [hT]
    have hn2 : decide (n < L.length) = false := by rw [decide_eq_false_iff_not]; omega
    have HT := Lib.hid (show (0 : Int) ≠ 0 ∨ n < L.length ∨ T ≠ L from .inr (.inr hT))
    clear hT hlen
    go_wp2_with fail
    refine wp_region_still_lit (by kernel_rfl) (by kernel_rfl) ?_
    repeat ((with_reducible refine wpStill_step (fun K hK => ?_)); go_simp; (with_reducible refine hK _ ?_); clear hK K)
    refine wpStill_nil ?_
    rw [show ({ w1 with drawn := w1.drawn + 1 } : World) = w1.drew from rfl]
    go_wp2
    refine bodyPost_ret (v := .tuple #[hv0, .int .i64 0, .int .i64 45]) (by simp [results, Tryz.results135, go_sem, z0, z1, z2, z3, z4]) rfl (RGPost.bad HT.out ?_)
    refine HB1.out.trans (Below.mono (B := w.heap.size) ?_ (Nat.le_refl _))
    repeat (first | exact (Below.refl _ _) | apply Below.drew | refine Below.setCell ?_ (by simp) _)
 ·have h1 : (E != 0) = true := by simpa using hE
  have HE := Lib.hid (show E ≠ 0 ∨ n < L.length ∨ T ≠ L from .inl hE)
  clear hE
  go_wp2_with fail
  refine wp_region_still_lit (by kernel_rfl) (by kernel_rfl) ?_
  repeat ((with_reducible refine wpStill_step (fun K hK => ?_)); go_simp; (with_reducible refine hK _ ?_); clear hK K)
  refine wpStill_nil ?_
  rw [show ({ w1 with drawn := w1.drawn + 1 } : World) = w1.drew from rfl]
  go_wp2
  refine bodyPost_ret (v := .tuple #[hv0, .int .i64 0, .int .i64 45]) (by simp [results, Tryz.results135, go_sem, z0, z1, z2, z3, z4]) rfl (RGPost.bad HE.out ?_)
  refine HB1.out.trans (Below.mono (B := w.heap.size) ?_ (Nat.le_refl _))
  repeat (first | exact (Below.refl _ _) | apply Below.drew | refine Below.setCell ?_ (by simp) _)
theorem Nm.errN_nat {l : List UInt8} {f : Nat} : Nm.errN l f = 0 ↔ Nm.right l = true ∧ f ≤ 15 := by
 unfold Nm.errN
 cases Nm.right l <;> simp
 omega
theorem Nm.le4_word {b0 b1 b2 b3 : UInt8} : Nm.le4 (Nm.wordN b0.toNat b1.toNat b2.toNat b3.toNat) = [b0, b1, b2, b3] := by
 have h0 := b0.toNat_lt; have h1 := b1.toNat_lt; have h2 := b2.toNat_lt; have h3 := b3.toNat_lt
 simp only [Nm.le4, Nm.wordN, List.cons.injEq, ← UInt8.toNat_inj, UInt8.toNat_ofNat', and_true]
 omega
theorem Nm.wordN_lt (b0 b1 b2 b3 : UInt8) : Nm.wordN b0.toNat b1.toNat b2.toNat b3.toNat < 4294967296 := by
 have h0 := b0.toNat_lt; have h1 := b1.toNat_lt; have h2 := b2.toNat_lt; have h3 := b3.toNat_lt
 unfold Nm.wordN; omega
theorem Nm.split14 (l : List UInt8) (h : 14 + Nm.nl l ≤ l.length) : l = Nm.les [Nm.wat l 0, Nm.wat l 4, Nm.wat l 8] ++ ([UInt8.ofNat (Nm.flg l), UInt8.ofNat (Nm.nl l)] ++ (Nm.name l ++ l.drop (14 + Nm.nl l))) := by
 have e : ∀ i, i < l.length → l[i]? = some (l.getD i 0) := fun i hi => by simp [List.getD, List.getElem?_eq_getElem hi]
 have hd : l.drop 14 = Nm.name l ++ l.drop (14 + Nm.nl l) := by
  rw [Nm.name, ← List.drop_drop, List.take_append_drop]
 have ht : l.take 14 = Nm.les [Nm.wat l 0, Nm.wat l 4, Nm.wat l 8] ++ [UInt8.ofNat (Nm.flg l), UInt8.ofNat (Nm.nl l)] := by
  simp only [Nm.les, List.flatMap_cons, List.flatMap_nil, List.append_nil, Nm.wat, Nm.le4_word, Nm.flg, Nm.nl, UInt8.ofNat_toNat]
  apply List.ext_getElem?
  intro i
  by_cases hi : i < 14
  ·rw [List.getElem?_take, if_pos hi, e i (by omega)]
   have : i = 0 ∨ i = 1 ∨ i = 2 ∨ i = 3 ∨ i = 4 ∨ i = 5 ∨ i = 6 ∨ i = 7 ∨ i = 8 ∨ i = 9 ∨ i = 10 ∨ i = 11 ∨ i = 12 ∨ i = 13 := by omega
   rcases this with h | h | h | h | h | h | h | h | h | h | h | h | h | h <;> subst h <;> rfl
  ·rw [List.getElem?_take, if_neg hi]
   symm
   apply List.getElem?_eq_none
   simp; omega
 rw [← List.append_assoc, ← ht, ← hd, List.take_append_drop]
theorem Nm.take_head (l : List UInt8) (h : 14 + Nm.nl l ≤ l.length) (h31 : Nm.nl l ≤ 31) (hN : Nm.lengthN (Nm.nl l) ≤ l.length) :
  l.take (Nm.lengthN (Nm.nl l)) = Nm.headB (Nm.name l) (Nm.flg l) (Nm.wat l 0) (Nm.wat l 4) (Nm.wat l 8) ↔ (Nm.pad l).all (· == 0) = true := by
 have hname : (Nm.name l).length = Nm.nl l := by simp [Nm.name]; omega
 have hln : 14 + Nm.nl l ≤ Nm.lengthN (Nm.nl l) := by unfold Nm.lengthN; rw [if_neg (by omega)]; omega
 have e : l.take (Nm.lengthN (Nm.nl l)) = Nm.les [Nm.wat l 0, Nm.wat l 4, Nm.wat l 8] ++ ([UInt8.ofNat (Nm.flg l), UInt8.ofNat (Nm.nl l)] ++ (Nm.name l ++ Nm.pad l)) := by
  have hP : Nm.pad l = (l.drop (14 + Nm.nl l)).take (Nm.lengthN (Nm.nl l) - (14 + Nm.nl l)) := rfl
  rw [hP]
  generalize Nm.lengthN (Nm.nl l) = N at *
  refine (congrArg (List.take N) (Nm.split14 l h)).trans ?_
  generalize l.drop (14 + Nm.nl l) = D
  rw [List.take_append, List.take_of_length_le (by rw [Nm.les_length]; simp; omega), List.take_append, List.take_of_length_le (by rw [Nm.les_length]; simp; omega), List.take_append, List.take_of_length_le (by rw [Nm.les_length, hname]; simp; omega)]
  congr 4
  rw [Nm.les_length, hname]
  simp; omega
 rw [e, Nm.headB, hname]
 simp only [List.append_assoc]
 rw [List.append_cancel_left_eq, List.append_cancel_left_eq, List.append_cancel_left_eq]
 constructor
 ·intro hp
  rw [hp]; simp
 ·intro hp
  apply List.eq_replicate_iff.2
  refine ⟨by simp [Nm.pad]; omega, fun c hc => ?_⟩
  have := List.all_eq_true.1 hp c hc
  simpa using this
theorem read_ref (g off cap : Nat) (l : List UInt8) (w : World) (hc : ∀ j, j < l.length → w.cell? ⟨g, off + j, none⟩ = some (.int .u8 (l.getD j 0).toNat)) (hg : g < w.heap.size) (hcap : l.length ≤ cap) (hcm : cap ≤ maxLen) (h4000 : l.length ≤ 4000) :
  Calls Tryz.prog 135 #[.slice (some ⟨g, off, none⟩) l.length cap] w fun e w' => e = .returned (Nm.readV l) ∧ Below w.heap.size w w' := by
 by_cases h14 : 14 ≤ l.length ∧ 14 + Nm.nl l ≤ l.length
 ·obtain ⟨h14, hl2⟩ := h14
  have hname : (Nm.name l).length = Nm.nl l := by simp [Nm.name]; omega
  have hsz : (⟨(Nm.name l).toArray⟩ : ByteArray).size = Nm.nl l := by rw [← hname]; rfl
  have hmax : (⟨(Nm.name l).toArray⟩ : ByteArray).size ≤ maxLen := by rw [hsz]; unfold maxLen; omega
  obtain ⟨v2, hsl, hrd2⟩ := slice_rd bt g off l.length cap 14 (14 + Nm.nl l) (by omega) (by omega)
  have hcW : ∀ W', Below w.heap.size w W' → ∀ j, j < l.length → W'.cell? ⟨g, off + j, none⟩ = some (.int .u8 (l.getD j 0).toNat) := fun W' hb j hj => (hb.cell (p := ⟨g, off + j, none⟩) hg).trans (hc j hj)
  have hL : (Nm.outB (Nm.name l) (Nm.flg l) (Nm.wat l 0) (Nm.wat l 4) (Nm.wat l 8)).length ≤ 60 := by
   unfold Nm.outB
   split
   ·rename_i h0
    have h1 := (Nm.errN_zero h0).1
    rw [Int.toNat_natCast, Nm.headB_length h1]; unfold Nm.lengthN; split <;> omega
   ·simp
  obtain ⟨vL, hslL, hrdL⟩ : ∃ vL, ((Nm.outB (Nm.name l) (Nm.flg l) (Nm.wat l 0) (Nm.wat l 4) (Nm.wat l 8)).length ≤ l.length → ∀ W', (Instr.slice 26 (.slice (some ⟨g, off, none⟩) l.length cap) none (some (.int .i64 ((Nm.outB (Nm.name l) (Nm.flg l) (Nm.wat l 0) (Nm.wat l 4) (Nm.wat l 8)).length : Nat))) none).run Tryz.prog W' = .ok vL W') ∧
    ((Nm.outB (Nm.name l) (Nm.flg l) (Nm.wat l 0) (Nm.wat l 4) (Nm.wat l 8)).length ≤ l.length → ∀ W', Below w.heap.size w W' → (convert 26 9 vL).run Tryz.prog W' = .ok (.string ⟨(l.take (Nm.outB (Nm.name l) (Nm.flg l) (Nm.wat l 0) (Nm.wat l 4) (Nm.wat l 8)).length).toArray⟩) W') := by
   generalize (Nm.outB (Nm.name l) (Nm.flg l) (Nm.wat l 0) (Nm.wat l 4) (Nm.wat l 8)).length = N
   by_cases hN : N ≤ l.length
   ·refine ⟨sliced (some ⟨g, off, none⟩) 0 N cap 1, fun _ W' => slice_run_h g off l.length cap N (by omega) _ rfl W', fun _ W' hb => ?_⟩
    obtain ⟨v3, h3, r3⟩ := slice_rd bt g off l.length cap 0 N (by omega) (by omega)
    have e3 := h3 0 N rfl rfl w
    rw [slice_run g off l.length cap 0 N (by omega) (by omega) 0 N rfl rfl w] at e3
    obtain rfl : sliced (some ⟨g, off, none⟩) 0 N cap 1 = v3 := by injection e3
    have := run_string_of bt Tryz.underlying9 (r3 W' l rfl hN hcap hcm (Nat.lt_of_lt_of_le hg hb.size) (hcW W' hb))
    simpa using this
   ·exact ⟨.bool false, fun h => absurd h hN, fun h => absurd h hN⟩
  have key := refRead_core w g off cap l.length (Nm.nl l) (Nm.flg l) (Nm.name l) (Nm.wat l 0) (Nm.wat l 4) (Nm.wat l 8) v2 (Nm.errN (Nm.name l) (Nm.flg l)) (Nm.outB (Nm.name l) (Nm.flg l) (Nm.wat l 0) (Nm.wat l 4) (Nm.wat l 8)) (l.take (Nm.outB (Nm.name l) (Nm.flg l) (Nm.wat l 0) (Nm.wat l 4) (Nm.wat l 8)).length) vL
   {c13 := fun W' hb => hcW W' hb 13 (by omega)
    c12 := fun W' hb => hcW W' hb 12 (by omega)
    cv := fun W' hb => by
     have := run_string_of bt Tryz.underlying9 (hrd2 W' l rfl hl2 hcap hcm (Nat.lt_of_lt_of_le hg hb.size) (hcW W' hb))
     rw [show 14 + Nm.nl l - 14 = Nm.nl l by omega] at this
     exact this
    s2 := fun W' => hsl 14 (14 + (Nm.nl l : Int)) rfl (by omega) W'
    sL := hslL
    cvL := hrdL
    w0 := fun W' hb => word_ref g off 0 l.length cap _ _ _ _ W' (by omega) (by omega) (hcW W' hb 0 (by omega)) (hcW W' hb 1 (by omega)) (hcW W' hb 2 (by omega)) (hcW W' hb 3 (by omega))
    w4 := fun W' hb => word_ref g off 4 l.length cap _ _ _ _ W' (by omega) (by omega) (hcW W' hb 4 (by omega)) (hcW W' hb 5 (by omega)) (hcW W' hb 6 (by omega)) (hcW W' hb 7 (by omega))
    w8 := fun W' hb => word_ref g off 8 l.length cap _ _ _ _ W' (by omega) (by omega) (hcW W' hb 8 (by omega)) (hcW W' hb 9 (by omega)) (hcW W' hb 10 (by omega)) (hcW W' hb 11 (by omega))
    bytes := fun W' => refBytes_any ⟨(Nm.name l).toArray⟩ (Nm.flg l) (Nm.wat l 0) (Nm.wat l 4) (Nm.wat l 8) W' hmax (Nm.wordN_lt _ _ _ _) (Nm.wordN_lt _ _ _ _) (Nm.wordN_lt _ _ _ _) }
   hg hcap h14 h4000 (l.getD 13 0).toNat_lt hl2 (l.getD 12 0).toNat_lt hL
  refine key.mono ?_
  rintro e w' ⟨hbad, hgood, hb⟩
  refine ⟨?_, hb⟩
  by_cases h0 : Nm.errN (Nm.name l) (Nm.flg l) = 0
  ·have eL : Nm.outB (Nm.name l) (Nm.flg l) (Nm.wat l 0) (Nm.wat l 4) (Nm.wat l 8) = Nm.headB (Nm.name l) (Nm.flg l) (Nm.wat l 0) (Nm.wat l 4) (Nm.wat l 8) := by rw [Nm.outB, if_pos h0, Int.toNat_natCast]
   have h31 : Nm.nl l ≤ 31 := by have := (Nm.errN_zero h0).1; omega
   have hlen : (Nm.headB (Nm.name l) (Nm.flg l) (Nm.wat l 0) (Nm.wat l 4) (Nm.wat l 8)).length = Nm.lengthN (Nm.nl l) := by rw [Nm.headB_length (by omega), hname]
   rw [eL, hlen] at hbad hgood
   obtain ⟨hr, hf⟩ := Nm.errN_nat.1 h0
   by_cases hN : Nm.lengthN (Nm.nl l) ≤ l.length
   ·have e1 : decide (14 ≤ l.length) = true := by simp; omega
    have e2 : decide (Nm.nl l ≤ 31) = true := by simp; omega
    have e3 : decide (14 + Nm.nl l ≤ l.length) = true := by simp; omega
    have e5 : decide (Nm.flg l ≤ 15) = true := by simp; omega
    have e6 : decide (Nm.lengthN (Nm.nl l) ≤ l.length) = true := by simp; omega
    have eg : Nm.goodB l = (Nm.pad l).all (· == 0) := by rw [Nm.goodB, e1, e2, e3, hr, e5, e6]; simp only [Bool.true_and]
    cases hp : (Nm.pad l).all (· == 0)
    ·rw [hp] at eg
     rw [Nm.readV_bad eg]
     refine hbad (.inr (.inr fun h => ?_))
     rw [Nm.take_head l hl2 h31 hN, hp] at h
     cases h
    ·rw [hp] at eg
     rw [Nm.readV_good eg]
     exact hgood ⟨h0, hN, (Nm.take_head l hl2 h31 hN).2 hp⟩
   ·have eg : Nm.goodB l = false := by
     have : decide (Nm.lengthN (Nm.nl l) ≤ l.length) = false := by simp; omega
     simp [Nm.goodB, this]
    rw [Nm.readV_bad eg]
    exact hbad (.inr (.inl (by omega)))
  ·have eg : Nm.goodB l = false := by
    cases hg : Nm.goodB l
    ·rfl
    ·have := Nm.goodB_true hg
     exact absurd (Nm.errN_nat.2 ⟨this.1, this.2.1⟩) h0
   rw [Nm.readV_bad eg]
   exact hbad (.inl h0)
 ·have e : Nm.goodB l = false := by
   by_cases h : 14 ≤ l.length
   ·have : decide (14 + Nm.nl l ≤ l.length) = false := by simp; omega
    simp [Nm.goodB, this]
   ·have : decide (14 ≤ l.length) = false := by simp; omega
    simp [Nm.goodB, this]
  rw [Nm.readV_bad e]
  by_cases h : 14 ≤ l.length
  ·have c13 : (w.alloc (.cells #[.string ⟨#[]⟩, .int .i64 0, .int .u32 0, .int .u32 0, .int .u32 0] 78)).cell? ⟨g, off + 13, none⟩ = some (.int .u8 (Nm.nl l)) := by
    rw [World.cell?_alloc_past _ _ _ (by simpa using hg)]; exact hc 13 (by omega)
   clear hc
   have h13 : Nm.nl l < 256 := (l.getD 13 0).toNat_lt
   have n13 : 13 < l.length := by omega
   have n13' : (13 : Int) < l.length := by omega
   generalize Nm.nl l = k at *
   generalize l.length = n at *
   have h2 : n < 14 + k := by omega
   clear h14
   go_enter Tryz.func135, Tryz.ntmps135
   go_wp2
   exact bodyPost_ret (v := .tuple #[hv0, .int .i64 0, .int .i64 45]) (by simp [results, Tryz.results135, go_sem]) rfl ⟨rfl, (Below.refl _ _).alloc (Nat.le_refl _) _⟩
  ·have h1 : l.length < 14 := by omega
   clear h14 h hc
   generalize l.length = n at *
   go_enter Tryz.func135, Tryz.ntmps135
   go_wp2
   exact bodyPost_ret (v := .tuple #[hv0, .int .i64 0, .int .i64 45]) (by simp [results, Tryz.results135, go_sem]) rfl ⟨rfl, (Below.refl _ _).alloc (Nat.le_refl _) _⟩
end Go.Proofs.YtpcpaoeajcjoiaaGreatDoor
