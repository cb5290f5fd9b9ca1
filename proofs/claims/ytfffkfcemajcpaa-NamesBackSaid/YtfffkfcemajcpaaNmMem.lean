/- Walks: names.words, Bytes, what must be known: they make memory of their own. -/
import Derived.Test.YtfffkfcemajcpaaKitB
import Derived.Test.YtfffkfcemajcpaaNmWalks
namespace Go.Proofs.Ytfffkfcemajcpaa
open Go.RowKit Kit
set_option linter.unusedVariables false
set_option linter.unusedSimpArgs false

theorem bt : ByteTy Try.prog 22 5 :=
  ⟨Try.underlying22, Try.underlying5, by
    have h : (Try.prog.info? 5).map (fun i => (i.zero, i.size, i.bytes)) = some (some (.int .u8 0), 1, 1) := by kernel_rfl
    obtain ⟨i, hi, h0, h1, h2⟩ := info_parts h
    exact ⟨i, hi, h0, h1, h2⟩⟩

/-- A word's four bytes, the lowest first. -/
def Nm.le4 (z : Nat) : List UInt8 := [UInt8.ofNat z, UInt8.ofNat (z / 256), UInt8.ofNat (z / 65536), UInt8.ofNat (z / 16777216)]
def Nm.les (zs : List Nat) : List UInt8 := zs.flatMap Nm.le4
theorem Nm.les_snoc (zs : List Nat) (z : Nat) : Nm.les (zs ++ [z]) = Nm.les zs ++ Nm.le4 z := by simp [Nm.les]
theorem Nm.les_length (zs : List Nat) : (Nm.les zs).length = 4 * zs.length := by
  induction zs with
  | nil => rfl
  | cons z zs ih => simp only [Nm.les, List.flatMap_cons, List.length_append, List.length_cons] at ih ⊢; rw [ih]; simp [Nm.le4]; omega
theorem Nm.le4_bv (z : Nat) : #[Value.int .u8 ((z : Int) % 256), .int .u8 ((z : Int) / 256 % 256), .int .u8 ((z : Int) / 65536 % 256), .int .u8 ((z : Int) / 16777216 % 256)].toList = bv (Nm.le4 z) := by
  simp [bv, Nm.le4, UInt8.toNat_ofNat]

set_option maxHeartbeats 400000 in
theorem words_any (zs : List Nat) (hz : ∀ z ∈ zs, z < 4294967296) (hn : zs.length ≤ 100) (g cap : Nat) (w : World) (hg : g < w.heap.size)
    (hc : ∀ j, j < zs.length → w.cell? ⟨g, j, none⟩ = some (.int .u32 (zs.getD j 0 : Nat))) :
    Calls Try.prog 41 #[.slice (some ⟨g, 0, none⟩) zs.length cap] w fun e w' => ∃ v, e = .returned v ∧ OwnB 5 w.heap.size w' v (Nm.les zs) ∧ Below w.heap.size w w' := by
  have HC := Lib.hid hc; clear hc
  go_enter Try.func41, Try.ntmps41
  go_wp2
  go_loopw [3, 8] (fun v i wr => ∃ k : Nat, k ≤ zs.length ∧ i = .int .i64 k ∧ OwnB 5 w.heap.size wr v (Nm.les (zs.take k)) ∧ Below w.heap.size w wr) (fun _ i _ => zs.length - (intOf i).toNat)
  case atStart => exact ⟨0, Nat.zero_le _, rfl, OwnB.nil _ _ _, Below.refl _ _⟩
  case round =>
    obtain ⟨k, hk, rfl, hown, hbel⟩ := hrel
    by_cases hlt : k < zs.length
    · have hcell : wr.cell? ⟨g, k, none⟩ = some (.int .u32 (zs.getD k 0 : Nat)) := by rw [hbel.cell (p := ⟨g, k, none⟩) hg]; exact HC.out k hlt
      have hsz := hbel.size
      have hlen := Nm.les_length (zs.take k)
      have htk : (zs.take k).length ≤ k := List.length_take_le _ _
      have HT := Lib.hid (show Nm.les (zs.take (k + 1)) = Nm.les (zs.take k) ++ Nm.le4 (zs.getD k 0) by
        rw [List.take_succ_eq_append_getElem hlt, Nm.les_snoc]; simp [List.getD, List.getElem?_eq_getElem hlt])
      generalize zs.getD k 0 = z at *
      have hl4 : (Nm.le4 z).length = 4 := rfl
      go_wp2_with (at_builtin; refine wpList_appendB rfl _ _ _ _ rfl bt w.heap.size _ rfl _ (hown.alloc _) _ rfl (Nm.le4 z) ?hsrc ?hl ?hb ?_)
      case hsrc => exact src_of_built bt wr _ _ (Nm.le4 z) 4 (Nm.le4_bv z)
      case hl => omega
      case hb => simp; omega
      intro v' w1 hown1 hbel1 _
      have hbel2 : Below w.heap.size w w1 := (hbel.alloc hsz _).trans hbel1
      rw [← HT.out] at hown1
      go_wp2
      go_roundw
      case rel => exact ⟨k + 1, by omega, by go_num, hown1, hbel2⟩
      case measure => simp [intOf]; omega
    · rw [List.take_of_length_le (by omega)] at hown
      go_wp2
      go_ret
      exact ⟨_, rfl, hown, hbel⟩

/-- What Bytes answers: an error's number, and the bytes. -/
def Nm.errN (l : List UInt8) (fl : Int) : Int := if Nm.right l = false then 41 else if fl < 0 ∨ 15 < fl then 1 else 0
/-- A head as the walk meets it. -/
abbrev hv (s : ByteArray) (fl : Int) (a b c : Nat) : Value := .agg #[.string s, .int .i64 fl, .int .u32 a, .int .u32 b, .int .u32 c]
/-- A head's bytes. -/
def Nm.headB (s : List UInt8) (fl a b c : Nat) : List UInt8 := Nm.les [a, b, c] ++ [UInt8.ofNat fl, UInt8.ofNat s.length] ++ s ++ List.replicate (Nm.lengthN s.length - (14 + s.length)) 0

theorem bytes_name (s : ByteArray) (fl : Int) (a b c : Nat) (w : World) (hs : s.size ≤ maxLen) (hr : Nm.right s.data.toList = false) :
    Calls Try.prog 24 #[hv s fl a b c] w fun e w' => e = .returned (.tuple #[.slice none 0 0, .int .i64 41]) ∧ Below w.heap.size w w' := by
  go_enter Try.func24, Try.ntmps24
  go_wp2_with (go_at_call 18; refine (right_own s _ hs).mono ?_; rintro e w' ⟨rfl, rfl⟩)
  go_ret2
  exact ⟨rfl, (Below.refl _ _).alloc (Nat.le_refl _) _⟩

theorem bytes_flags (s : ByteArray) (fl : Int) (a b c : Nat) (w : World) (hs : s.size ≤ maxLen) (hr : Nm.right s.data.toList = true) (hf : fl < 0 ∨ 15 < fl) :
    Calls Try.prog 24 #[hv s fl a b c] w fun e w' => e = .returned (.tuple #[.slice none 0 0, .int .i64 1]) ∧ Below w.heap.size w w' := by
  by_cases h0 : fl < 0
  · clear hf
    go_enter Try.func24, Try.ntmps24
    go_wp2_with (go_at_call 18; refine (right_own s _ hs).mono ?_; rintro e w' ⟨rfl, rfl⟩)
    go_ret2
    exact ⟨rfl, (Below.refl _ _).alloc (Nat.le_refl _) _⟩
  · have h1 : 15 < fl := by omega
    clear hf
    go_enter Try.func24, Try.ntmps24
    go_wp2_with (go_at_call 18; refine (right_own s _ hs).mono ?_; rintro e w' ⟨rfl, rfl⟩)
    go_ret2
    exact ⟨rfl, (Below.refl _ _).alloc (Nat.le_refl _) _⟩

theorem right_size {s : ByteArray} (hr : Nm.right s.data.toList = true) : s.size ≤ 31 := by
  have : s.data.toList.length = s.size := rfl
  simp [Nm.right] at hr
  omega
theorem getD3 (a b c j : Nat) (hj : j < 3) (w : World) (g : Nat) (h0 : w.cell? ⟨g, 0, none⟩ = some (.int .u32 a)) (h1 : w.cell? ⟨g, 1, none⟩ = some (.int .u32 b)) (h2 : w.cell? ⟨g, 2, none⟩ = some (.int .u32 c)) :
    w.cell? ⟨g, j, none⟩ = some (.int .u32 (([a, b, c] : List Nat).getD j 0 : Nat)) := by
  have : j = 0 ∨ j = 1 ∨ j = 2 := by omega
  rcases this with rfl | rfl | rfl
  · exact h0
  · exact h1
  · exact h2
theorem two_bv (fl n : Nat) (hf : fl ≤ 15) (hn : n ≤ 31) : #[Value.int .u8 (fl : Int), .int .u8 (n : Int)].toList = bv [UInt8.ofNat fl, UInt8.ofNat n] := by
  simp [bv, UInt8.toNat_ofNat]; omega

set_option maxHeartbeats 400000 in
theorem bytes_ok (s : ByteArray) (fl a b c : Nat) (w : World) (hr : Nm.right s.data.toList = true) (hf : fl ≤ 15) (ha : a < 4294967296) (hb : b < 4294967296) (hc : c < 4294967296) :
    Calls Try.prog 24 #[hv s fl a b c] w fun e w' => ∃ v, e = .returned (.tuple #[v, .int .i64 0]) ∧ OwnB 5 w.heap.size w' v (Nm.headB s.data.toList fl a b c) ∧ Below w.heap.size w w' := by
  have hsz := right_size hr
  have hs : s.size ≤ maxLen := by unfold maxLen; omega
  go_enter Try.func24, Try.ntmps24
  go_wp2_with (go_at_call 18; refine (right_own s _ hs).mono ?_; rintro e w' ⟨rfl, rfl⟩)
  clear hr
  have H0 := Lib.hid (show ((w.alloc (.cells #[.string s, .int .i64 fl, .int .u32 a, .int .u32 b, .int .u32 c] 41)).alloc (.cells #[.int .u32 a, .int .u32 b, .int .u32 c] 29)).cell? ⟨w.heap.size, 0, none⟩ = some (.string s) by go_simp)
  have H1 := Lib.hid (show ((w.alloc (.cells #[.string s, .int .i64 fl, .int .u32 a, .int .u32 b, .int .u32 c] 41)).alloc (.cells #[.int .u32 a, .int .u32 b, .int .u32 c] 29)).cell? ⟨w.heap.size, 1, none⟩ = some (.int .i64 fl) by go_simp)
  refine (words_any [a, b, c] (by simp; omega) (by simp) (w.heap.size + 1) 3 _ (by simp) (fun j hj => getD3 a b c j hj _ _ (by go_simp) (by go_simp) (by go_simp))).mono ?_
  rintro e w1 ⟨v1, rfl, hown1, hbel1⟩
  simp only [World.size_alloc] at hown1 hbel1
  have hw1 : w.heap.size + 2 ≤ w1.heap.size := by have := hbel1.size; simpa using this
  have c0 := (hbel1.cell (p := ⟨w.heap.size, 0, none⟩) (by show w.heap.size < _; omega)).trans H0.out
  have c1 := (hbel1.cell (p := ⟨w.heap.size, 1, none⟩) (by show w.heap.size < _; omega)).trans H1.out
  have HB := Lib.hid (show Below w.heap.size w w1 from (((Below.refl _ _).alloc (Nat.le_refl _) _).alloc (by simp) _).trans (hbel1.mono (by omega)))
  clear hbel1 H0 H1
  go_wp2_with (at_builtin; refine wpList_appendB rfl _ _ _ _ rfl bt (w.heap.size + 1 + 1) _ rfl _ (hown1.alloc _) _ rfl [UInt8.ofNat fl, UInt8.ofNat s.size] ?hsrc ?hl ?hb ?_)
  case hsrc => exact src_of_built bt w1 _ _ [UInt8.ofNat fl, UInt8.ofNat s.size] 2 (two_bv fl s.size hf hsz)
  case hl => rw [Nm.les_length]; simp
  case hb => simp; omega
  intro v2 w2 hown2 hbel2 _
  have c0' := (hbel2.cell (p := ⟨w.heap.size, 0, none⟩) (by show w.heap.size < _; omega)).trans ((World.cell?_alloc_past _ _ _ (by show w.heap.size < _; omega)).trans c0)
  have HB2 := Lib.hid (show Below w.heap.size w w2 from (HB.out.alloc (by omega) _).trans (hbel2.mono (by omega)))
  have hw2 : w.heap.size + 2 ≤ w2.heap.size := by have := hbel2.size; simp at this; omega
  clear hbel2 hown1 c0 c1 HB
  go_wp2_with (at_builtin; refine wpList_appendB rfl _ _ _ _ rfl bt (w.heap.size + 1 + 1) _ rfl _ hown2 _ rfl s.data.toList ?hsrc ?hl ?hb ?_)
  case hsrc => exact src_of_string Try.underlying9 _ s
  case hl => rw [List.length_append, Nm.les_length]; show 4 * 3 + 2 + s.size ≤ _; omega
  case hb => omega
  intro v3 w3 hown3 hbel3 _
  have c0 := (hbel3.cell (p := ⟨w.heap.size, 0, none⟩) (by show w.heap.size < _; omega)).trans c0'
  have HB3 := Lib.hid (show Below w.heap.size w w3 from HB2.out.trans (hbel3.mono (by omega)))
  have hw3 : w.heap.size + 2 ≤ w3.heap.size := by have := hbel3.size; omega
  clear hbel3 hown2 c0' HB2
  obtain ⟨a3, cap3, rfl⟩ := hown3.len (n := 14 + s.size) (by have e : s.data.size = s.size := rfl; simp [Nm.les_length, e]; omega)
  have hln : 14 + s.size ≤ Nm.lengthN s.size ∧ Nm.lengthN s.size ≤ 14 + s.size + 3 := by unfold Nm.lengthN; rw [if_neg (by omega)]; omega
  go_wp2_with (first | (go_at_call 22; refine (len_own s _ hs).mono ?_; rintro e w' ⟨rfl, rfl⟩) | (at_builtin; refine wpList_appendZ rfl _ _ _ _ rfl bt Try.underlying3 (w.heap.size + 1 + 1) _ rfl _ hown3 (Nm.lengthN s.size - (14 + s.size)) ?hx ?hk ?hl ?hb ?_))
  case hx => show Value.int .i64 _ = _; congr 1; omega
  case hk => omega
  case hl => have e : s.data.size = s.size := rfl; simp [Nm.les_length, e]; omega
  case hb => omega
  intro v4 w4 hown4 hbel4 _
  have HB4 := Lib.hid (show Below w.heap.size w w4 from HB3.out.trans (hbel4.mono (by omega)))
  have HO := Lib.hid (hown4.rebase (show w.heap.size ≤ w.heap.size + 1 + 1 by omega))
  clear hbel4 hown3 hown4 c0 HB3
  go_wp2
  go_ret2
  refine ⟨v4, rfl, ?_, HB4.out⟩
  have h := HO.out
  have e : s.data.toList.length = s.size := rfl
  have e2 : Nm.headB s.data.toList fl a b c = Nm.les [a, b, c] ++ UInt8.ofNat fl :: UInt8.ofNat s.size :: (s.data.toList ++ List.replicate (Nm.lengthN s.size - (14 + s.size)) 0) := by
    simp only [Nm.headB, e, List.append_assoc, List.cons_append, List.nil_append]
  rw [e2]; exact h

def Nm.outB (l : List UInt8) (fl : Int) (a b c : Nat) : List UInt8 := if Nm.errN l fl = 0 then Nm.headB l fl.toNat a b c else []
theorem bytes_any (s : ByteArray) (fl : Int) (a b c : Nat) (w : World) (hs : s.size ≤ maxLen) (ha : a < 4294967296) (hb : b < 4294967296) (hc : c < 4294967296) :
    Calls Try.prog 24 #[hv s fl a b c] w fun e w' => ∃ v, e = .returned (.tuple #[v, .int .i64 (Nm.errN s.data.toList fl)]) ∧ OwnB 5 w.heap.size w' v (Nm.outB s.data.toList fl a b c) ∧ Below w.heap.size w w' := by
  by_cases hr : Nm.right s.data.toList = false
  · have e1 : Nm.errN s.data.toList fl = 41 := by rw [Nm.errN, if_pos hr]
    have e2 : Nm.outB s.data.toList fl a b c = [] := by rw [Nm.outB, e1]; rfl
    rw [e1, e2]
    refine (bytes_name s fl a b c w hs hr).mono ?_
    rintro e w' ⟨rfl, hb⟩
    exact ⟨_, rfl, OwnB.nil _ _ _, hb⟩
  · have hr' : Nm.right s.data.toList = true := by simpa using hr
    by_cases hf : fl < 0 ∨ 15 < fl
    · have e1 : Nm.errN s.data.toList fl = 1 := by rw [Nm.errN, if_neg hr, if_pos hf]
      have e2 : Nm.outB s.data.toList fl a b c = [] := by rw [Nm.outB, e1]; rfl
      rw [e1, e2]
      refine (bytes_flags s fl a b c w hs hr' hf).mono ?_
      rintro e w' ⟨rfl, hb⟩
      exact ⟨_, rfl, OwnB.nil _ _ _, hb⟩
    · have e1 : Nm.errN s.data.toList fl = 0 := by rw [Nm.errN, if_neg hr, if_neg hf]
      have e2 : Nm.outB s.data.toList fl a b c = Nm.headB s.data.toList fl.toNat a b c := by rw [Nm.outB, if_pos e1]
      obtain ⟨n, rfl⟩ := Int.eq_ofNat_of_zero_le (show 0 ≤ fl by omega)
      rw [e1, e2]
      exact bytes_ok s n a b c w hr' (by omega) ha hb hc

theorem own_any (s : ByteArray) (fl : Int) (a b c : Nat) (w : World) : Calls Try.prog 25 #[hv s fl a b c] w fun e w' => e = .returned (hv s fl a b c) ∧ Below w.heap.size w w' := by
  go_enter Try.func25, Try.ntmps25
  go_wp2
  exact bodyPost_ret (v := hv s fl a b c) (by simp [results, Try.results25, go_sem]) rfl ⟨rfl, ((Below.refl _ _).alloc (Nat.le_refl _) _).alloc (by simp) _⟩

def dup : ByteArray := ⟨#[68, 85, 80]⟩
theorem dup_right : Nm.right dup.data.toList = true := by decide
theorem dup_head : Nm.headB dup.data.toList 0 0 8 0 = [0, 0, 0, 0, 8, 0, 0, 0, 0, 0, 0, 0, 0, 3, 68, 85, 80, 0, 0, 0] := by decide
theorem bytes_dup (w : World) : Calls Try.prog 24 #[.agg #[.string ⟨#[68, 85, 80]⟩, .int .i64 0, .int .u32 0, .int .u32 8, .int .u32 0]] w fun e w' =>
    ∃ v, e = .returned (.tuple #[v, .int .i64 0]) ∧ (∃ g cap, v = .slice (some ⟨g, 0, none⟩) 20 cap ∧ w'.cell? ⟨g, 13, none⟩ = some (.int .u8 3)) ∧ Below w.heap.size w w' := by
  refine (bytes_ok dup 0 0 8 0 w dup_right (by decide) (by decide) (by decide) (by decide)).mono ?_
  rintro e w' ⟨v, rfl, ho, hb⟩
  rw [dup_head] at ho
  rcases ho.shape with ⟨_, h⟩ | ⟨g, cap, rfl, _, _, _, _, hc, _⟩
  · cases h
  · exact ⟨_, rfl, ⟨g, cap, rfl, hc 13 (by decide)⟩, hb⟩

theorem num_any (n : Int) (w : World) : Calls Try.prog 26 #[.int .i64 n] w fun e w' => e = .returned (.int .i64 n) ∧ w = w' := by
  go_enter Try.func26, Try.ntmps26
  go_wp2
  go_ret
  exact ⟨rfl, rfl⟩

set_option maxHeartbeats 400000 in
theorem knows_any (w : World) : Calls Try.prog 17 #[] w fun e w' => e = .returned (.bool true) ∧ Below w.heap.size w w' := by
  have h1 : Nm.fold8 (Nm.hashN [65]) = 5 := by decide
  have h2 : Nm.lengthN 3 = 20 := by decide
  have h3 : Nm.right [68, 85, 80] = true := by decide
  have hm1 : (⟨#[65]⟩ : ByteArray).size ≤ maxLen := by decide
  have hm3 : (⟨#[68, 85, 80]⟩ : ByteArray).size ≤ maxLen := by decide
  go_enter Try.func17, Try.ntmps17
  go_wp2_with fail
  refine (bytes_dup w).mono ?_
  rintro e w1 ⟨v, rfl, ⟨g, cap, rfl, hc⟩, hb1⟩
  go_wp2_with (first | (go_at_call 26; refine (num_any _ _).mono ?_; rintro e w' ⟨rfl, rfl⟩) | (go_at_call 20; refine (hash_own ⟨#[65]⟩ _ hm1).mono ?_; rintro e w2 ⟨rfl, hb2⟩) | (go_at_call 22; refine (len_own ⟨#[68, 85, 80]⟩ _ hm3).mono ?_; rintro e w' ⟨rfl, rfl⟩) | (go_at_call 18; refine (right_own ⟨#[68, 85, 80]⟩ _ hm3).mono ?_; rintro e w' ⟨rfl, rfl⟩))
  go_ret
  exact ⟨rfl, hb1.trans (hb2.mono hb1.size)⟩

end Go.Proofs.Ytfffkfcemajcpaa
