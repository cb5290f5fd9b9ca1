/- Walks: the document's four, Bytes, word, Read. -/
import Derived.Test.YtfffkfcemajcpaaNmMem
import Derived.Test.YtfffkfcemajcpaaNmApart
import Derived.Deep.RegionHeld3
import Derived.Deep.AppendLies
namespace Go.Proofs.Ytfffkfcemajcpaa
open Go.RowKit Kit
set_option linter.unusedVariables false
set_option linter.unusedSimpArgs false

theorem keep3 {B : Nat} {w w' : World} (h : Below B w w') {g i j k : Nat} (hg : g < B) {x y z : Option Value} (q : w.cell? ⟨g, i, none⟩ = x ∧ w.cell? ⟨g, j, none⟩ = y ∧ w.cell? ⟨g, k, none⟩ = z) :
    w'.cell? ⟨g, i, none⟩ = x ∧ w'.cell? ⟨g, j, none⟩ = y ∧ w'.cell? ⟨g, k, none⟩ = z :=
  ⟨(h.cell (p := ⟨g, i, none⟩) hg).trans q.1, (h.cell (p := ⟨g, j, none⟩) hg).trans q.2.1, (h.cell (p := ⟨g, k, none⟩) hg).trans q.2.2⟩
theorem keep2 {B : Nat} {w w' : World} (h : Below B w w') {g i j : Nat} (hg : g < B) {x y : Option Value} (q : w.cell? ⟨g, i, none⟩ = x ∧ w.cell? ⟨g, j, none⟩ = y) :
    w'.cell? ⟨g, i, none⟩ = x ∧ w'.cell? ⟨g, j, none⟩ = y :=
  ⟨(h.cell (p := ⟨g, i, none⟩) hg).trans q.1, (h.cell (p := ⟨g, j, none⟩) hg).trans q.2⟩
theorem Nm.le4_bv' (z : Nat) (hz : z < 4294967296) : #[Value.int .u8 ((z : Int) % 256), .int .u8 ((z : Int) / 256 % 256), .int .u8 ((z : Int) / 65536 % 256), .int .u8 ((z : Int) / 16777216)].toList = bv (Nm.le4 z) := by
  rw [← Nm.le4_bv z, show (z : Int) / 16777216 % 256 = (z : Int) / 16777216 by omega]
theorem two_bv' (fl n : Nat) : #[Value.int .u8 (IntKind.u8.wrap (fl : Int)), .int .u8 (IntKind.u8.wrap (n : Int))].toList = bv [UInt8.ofNat fl, UInt8.ofNat n] := by
  simp [bv, UInt8.toNat_ofNat, IntKind.wrap_u8]
/-- A slice's length. -/
def lenOf : Value → Nat | .slice _ n _ => n | _ => 0
theorem four_any (z : Nat) (w : World) (hz : z < 4294967296) : Calls Try.prog 42 #[.int .u32 z] w fun e w' => ∃ v, e = .returned v ∧ OwnB 5 w.heap.size w' v (Nm.le4 z) ∧ Below w.heap.size w w' := by
  go_enter Try.func42, Try.ntmps42
  go_wp2
  go_ret
  exact ⟨_, rfl, OwnB.built w 5 _ (Nm.le4 z) (Nm.le4_bv' z hz) (show 4 ≤ maxLen by decide) (Nat.le_refl _), (Below.refl _ _).alloc (Nat.le_refl _) _⟩

set_option maxHeartbeats 800000 in
theorem refBytes_ok (s : ByteArray) (fl a b c : Nat) (w : World) (hr : Nm.right s.data.toList = true) (hf : fl ≤ 15) (ha : a < 4294967296) (hb : b < 4294967296) (hc : c < 4294967296) :
    Calls Try.prog 34 #[hv s fl a b c] w fun e w' => ∃ v, e = .returned (.tuple #[v, .int .i64 0]) ∧ OwnB 5 w.heap.size w' v (Nm.headB s.data.toList fl a b c) ∧ Below w.heap.size w w' := by
  have hsz := right_size hr
  have hs : s.size ≤ maxLen := by unfold maxLen; omega
  go_enter Try.func34, Try.ntmps34
  go_wp2_with (go_at_call 19; refine (right_ref s _ hs).mono ?_; rintro e w' ⟨rfl, rfl⟩)
  clear hr
  have hd0 : Below w.heap.size w (w.alloc (.cells #[.string s, .int .i64 fl, .int .u32 a, .int .u32 b, .int .u32 c] 38)) := (Below.refl _ _).alloc (Nat.le_refl _) _
  go_region_held3 (fun w' => w'.cell? ⟨w.heap.size, 2, none⟩ = some (.int .u32 a) ∧ w'.cell? ⟨w.heap.size, 3, none⟩ = some (.int .u32 b) ∧ w'.cell? ⟨w.heap.size, 4, none⟩ = some (.int .u32 c))
    (first | go_keep | exact keep3 hb5 (by omega) ‹_› | exact keep3 hb4 (by omega) ‹_› | exact keep3 hb3 (by omega) ‹_› | exact keep3 hb2 (by omega) ‹_› | exact keep3 hb1 (by simp) ‹_›)
    (first
      | (go_simp; go_at_call 42; first | ((with_reducible refine (four_any a _ ha).mono ?_); rintro e w1 ⟨v1, rfl, ho1, hb1⟩; have z1 : w.heap.size < w1.heap.size := (by have := hb1.size; simp at this; omega)) | ((with_reducible refine (four_any b _ hb).mono ?_); rintro e w2 ⟨v2, rfl, ho2, hb2⟩; have z2 : w.heap.size < w2.heap.size := (by have := hb2.size; omega)) | ((with_reducible refine (four_any c _ hc).mono ?_); rintro e w4 ⟨v4, rfl, ho4, hb4⟩; have z4 : w.heap.size < w4.heap.size := (by have := hb4.size; omega)))
      | (refine step_appendB (by rfl) _ _ _ _ (by rfl) bt (w.heap.size + 1) v1 (by rfl) (Nm.le4 a) (OwnB.kept (by simpa using ho1) hb2) v2 (by rfl) (Nm.le4 b) (src_of_rd bt ho2.rd) (show 4 + 4 ≤ 140737488355328 by decide) (by omega) ?_; intro v3 w3 ho3 hb3 _; have z3 : w.heap.size < w3.heap.size := (by have := hb3.size; omega))
      | (refine step_appendB (by rfl) _ _ _ _ (by rfl) bt (w.heap.size + 1) v3 (by rfl) (Nm.le4 a ++ Nm.le4 b) (ho3.kept hb4) v4 (by rfl) (Nm.le4 c) (src_of_rd bt ho4.rd) (show 4 + 4 + 4 ≤ 140737488355328 by decide) (by omega) ?_; intro v5 w5 ho5 hb5 _; have z5 : w.heap.size < w5.heap.size := (by have := hb5.size; omega)))
  have hB5 : Below (w.heap.size + 1) (w.alloc (.cells #[.string s, .int .i64 fl, .int .u32 a, .int .u32 b, .int .u32 c] 38)) w5 := by
    have k1 := hb1.mono (show w.heap.size + 1 ≤ _ by simp)
    have e1 := hb1.size
    simp only [World.size_alloc, World.size_drew] at e1
    exact ((((Below.refl _ _).drew.trans k1).trans (hb2.mono (by omega))).trans hb3).trans ((hb4.mono (by omega)).trans hb5)
  have g0 : (w.alloc (.cells #[.string s, .int .i64 fl, .int .u32 a, .int .u32 b, .int .u32 c] 38)).cell? ⟨w.heap.size, 0, none⟩ = some (.string s) := by go_simp
  have g1 : (w.alloc (.cells #[.string s, .int .i64 fl, .int .u32 a, .int .u32 b, .int .u32 c] 38)).cell? ⟨w.heap.size, 1, none⟩ = some (.int .i64 fl) := by go_simp
  have c0 := (hB5.cell (p := ⟨w.heap.size, 0, none⟩) (by show w.heap.size < _; omega)).trans g0
  have c1 := (hB5.cell (p := ⟨w.heap.size, 1, none⟩) (by show w.heap.size < _; omega)).trans g1
  have HW := Lib.hid (hd0.trans (hB5.mono (by omega)))
  have HO := Lib.hid ho5
  clear hb1 hb2 hb3 hb4 hb5 ho1 ho2 ho3 ho4 ho5 hB5 g0 g1 hd0
  go_wp2_with fail
  go_region_held3 (fun w' => w'.cell? ⟨w.heap.size, 0, none⟩ = some (.string s) ∧ w'.cell? ⟨w.heap.size, 1, none⟩ = some (.int .i64 fl))
    (first | go_keep | exact keep2 hb7 (by omega) ‹_› | exact keep2 hb6 (by omega) ‹_›)
    (first
      | (refine step_appendB (by rfl) _ _ _ _ (by rfl) bt (w.heap.size + 1) v5 (by rfl) (Nm.les [a, b, c]) ((OwnB.kept HO.out (Below.refl _ _).drew).alloc _) _ (by rfl) [UInt8.ofNat fl, UInt8.ofNat s.size] (src_of_built bt w5.drew _ _ [UInt8.ofNat fl, UInt8.ofNat s.size] 2 (two_bv' fl s.size)) (by rw [Nm.les_length]; show 4 * 3 + 2 ≤ 140737488355328; decide) (by simp; omega) ?_; intro v6 w6 ho6 hb6 _; have z6 : w.heap.size < w6.heap.size := (by have := hb6.size; simp at this; omega))
      | (refine step_appendB (by rfl) _ _ _ _ (by rfl) bt (w.heap.size + 1) v6 (by rfl) (Nm.les [a, b, c] ++ [UInt8.ofNat fl, UInt8.ofNat s.size]) ho6 _ (by rfl) s.data.toList (src_of_string Try.underlying9 _ s) (by rw [List.length_append, Nm.les_length]; show 4 * 3 + 2 + s.size ≤ 140737488355328; omega) (by omega) ?_; intro v7 w7 ho7 hb7 _; have z7 : w.heap.size < w7.heap.size := (by have := hb7.size; omega)))
  have HW7 := Lib.hid (show Below w.heap.size w w7 from ((HW.out.drew.alloc (by simp; omega) _).trans (hb6.mono (by omega))).trans (hb7.mono (by omega)))
  have HO7 := Lib.hid ho7
  clear hb6 hb7 ho6 ho7 HW HO c0 c1 z1 z2 z3 z4 z5 z6
  have e : s.data.toList.length = s.size := rfl
  have hln : 14 + s.size ≤ Nm.lengthN s.size ∧ Nm.lengthN s.size ≤ 14 + s.size + 3 ∧ Nm.lengthN s.size % 4 = 0 := by unfold Nm.lengthN; rw [if_neg (by omega)]; omega
  have HX := Lib.hid (show ∀ j, (Nm.les [a, b, c] ++ [UInt8.ofNat fl, UInt8.ofNat s.size] ++ s.data.toList ++ List.replicate j 0).length = 14 + s.size + j from fun j => by
    simp only [List.length_append, Nm.les_length, List.length_replicate, e, List.length_cons, List.length_nil])
  have HH := Lib.hid (show Nm.headB s.data.toList fl a b c = Nm.les [a, b, c] ++ [UInt8.ofNat fl, UInt8.ofNat s.size] ++ s.data.toList ++ List.replicate (Nm.lengthN s.size - (14 + s.size)) 0 from rfl)
  generalize Nm.les [a, b, c] ++ [UInt8.ofNat fl, UInt8.ofNat s.size] ++ s.data.toList = X at *
  generalize Nm.lengthN s.size = N at *
  go_wp2_with fail
  go_loopw [4] (fun v wr => ∃ j : Nat, 14 + s.size + j ≤ N ∧ OwnB 5 (w.heap.size + 1) wr v (X ++ List.replicate j 0) ∧ Below w.heap.size w wr ∧ w.heap.size < wr.heap.size) (fun v _ => N - lenOf v)
  case atStart => exact ⟨0, by omega, by simpa using HO7.out, HW7.out, z7⟩
  case round =>
    obtain ⟨j, hj, ho, hb, hz⟩ := hrel
    obtain ⟨m, hm⟩ : ∃ m : Nat, m = 14 + s.size + j := ⟨_, rfl⟩
    obtain ⟨ad, cap, rfl⟩ := ho.len (n := m) (by rw [HX.out j, hm])
    have hmN : m ≤ N := by omega
    have hm50 : m ≤ 60 := by omega
    have hmlo : 14 + s.size ≤ m := by omega
    have HJ := Lib.hid hm
    clear hm hj
    by_cases hlt : m < N
    · have h1 : ((m : Int) % 4 != 0) = true := by simp; omega
      have hl := HX.out j
      go_wp2_with (at_builtin; refine wpList_appendB rfl _ _ _ _ rfl bt (w.heap.size + 1) _ rfl _ (ho.alloc _) _ rfl [0] ?hsrc ?hl ?hb ?_)
      case hsrc => exact src_of_built bt wr _ _ [0] 1 rfl
      case hl => have := HJ.out; rw [hl]; simp; omega
      case hb => simp; omega
      intro v8 w8 ho8 hb8 _
      have hb9 : Below w.heap.size w w8 := (hb.alloc (by omega) _).trans (hb8.mono (by omega))
      have hz9 : w.heap.size < w8.heap.size := by have := hb8.size; simp at this; omega
      rw [show List.replicate j (0 : UInt8) ++ [0] = List.replicate (j + 1) 0 from (List.replicate_succ' ..).symm] at ho8
      obtain ⟨ad', cap', rfl⟩ := ho8.len (n := m + 1) (by rw [HX.out, HJ.out]; omega)
      clear hl
      go_wp2
      go_roundw
      case rel => exact ⟨j + 1, by have := HJ.out; omega, ho8, hb9, hz9⟩
      case measure => simp [lenOf]; omega
    · have h1 : ((m : Int) % 4 != 0) = false := by simp; omega
      have hl := HJ.out
      rw [show j = N - (14 + s.size) by omega, ← HH.out] at ho
      clear hl
      go_wp2
      go_ret2
      exact ⟨_, rfl, ho.rebase (by omega), hb⟩

theorem refBytes_any (s : ByteArray) (fl : Int) (a b c : Nat) (w : World) (hs : s.size ≤ maxLen) (ha : a < 4294967296) (hb : b < 4294967296) (hc : c < 4294967296) :
    Calls Try.prog 34 #[hv s fl a b c] w fun e w' => ∃ v, e = .returned (.tuple #[v, .int .i64 (Nm.errN s.data.toList fl)]) ∧ OwnB 5 w.heap.size w' v (Nm.outB s.data.toList fl a b c) ∧ Below w.heap.size w w' := by
  by_cases hr : Nm.right s.data.toList = false
  · have e1 : Nm.errN s.data.toList fl = 41 := by rw [Nm.errN, if_pos hr]
    have e2 : Nm.outB s.data.toList fl a b c = [] := by rw [Nm.outB, e1]; rfl
    rw [e1, e2]
    clear e1 e2
    go_enter Try.func34, Try.ntmps34
    go_wp2_with (go_at_call 19; refine (right_ref s _ hs).mono ?_; rintro e w' ⟨rfl, rfl⟩)
    go_ret2
    exact ⟨_, rfl, OwnB.nil _ _ _, (Below.refl _ _).alloc (Nat.le_refl _) _⟩
  · have hr' : Nm.right s.data.toList = true := by simpa using hr
    by_cases hf : fl < 0 ∨ 15 < fl
    · have e1 : Nm.errN s.data.toList fl = 1 := by rw [Nm.errN, if_neg hr, if_pos hf]
      have e2 : Nm.outB s.data.toList fl a b c = [] := by rw [Nm.outB, e1]; rfl
      rw [e1, e2]
      clear e1 e2 hr
      rcases hf with h0 | h0
      · go_enter Try.func34, Try.ntmps34
        go_wp2_with (go_at_call 19; refine (right_ref s _ hs).mono ?_; rintro e w' ⟨rfl, rfl⟩)
        go_ret2
        exact ⟨_, rfl, OwnB.nil _ _ _, (Below.refl _ _).alloc (Nat.le_refl _) _⟩
      · have h1 : ¬ fl < 0 := by omega
        go_enter Try.func34, Try.ntmps34
        go_wp2_with (go_at_call 19; refine (right_ref s _ hs).mono ?_; rintro e w' ⟨rfl, rfl⟩)
        go_ret2
        exact ⟨_, rfl, OwnB.nil _ _ _, (Below.refl _ _).alloc (Nat.le_refl _) _⟩
    · have e1 : Nm.errN s.data.toList fl = 0 := by rw [Nm.errN, if_neg hr, if_neg hf]
      have e2 : Nm.outB s.data.toList fl a b c = Nm.headB s.data.toList fl.toNat a b c := by rw [Nm.outB, if_pos e1]
      obtain ⟨n, rfl⟩ := Int.eq_ofNat_of_zero_le (show 0 ≤ fl by omega)
      rw [e1, e2]
      exact refBytes_ok s n a b c w hr' (by omega) ha hb hc

theorem refOf_any (s : ByteArray) (fl : Int) (a b c : Nat) (w : World) : Calls Try.prog 37 #[hv s fl a b c] w fun e w' => e = .returned (hv s fl a b c) ∧ Below w.heap.size w w' := by
  go_enter Try.func37, Try.ntmps37
  go_wp2
  exact bodyPost_ret (v := hv s fl a b c) (by simp [results, Try.results37, go_sem]) rfl ⟨rfl, ((Below.refl _ _).alloc (Nat.le_refl _) _).alloc (by simp) _⟩

end Go.Proofs.Ytfffkfcemajcpaa
