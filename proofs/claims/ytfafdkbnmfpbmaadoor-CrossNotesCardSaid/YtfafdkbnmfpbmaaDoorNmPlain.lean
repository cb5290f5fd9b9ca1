/- Plain facts on names, hashes and bytes: no program in sight. -/
import Derived.Lib.Strings
namespace Go.Proofs.YtfafdkbnmfpbmaaDoor.Nm

def okc (c : UInt8) : Bool := decide (33 ≤ c.toNat) && decide (c.toNat ≤ 126)
def right (l : List UInt8) : Bool := l.all okc && (!l.isEmpty && decide (l.length ≤ 31))
def hashN (l : List UInt8) : Nat := l.foldl (fun h c => (h * 31 + c.toNat) % 4294967296) 0
def lengthN (n : Nat) : Nat := if 31 < n then 0 else (14 + n + 3) / 4 * 4
/-- The eight nibbles of a word, xored. -/
def fold8 (h : Nat) : Nat := (h % 16) ^^^ (h / 16 % 16) ^^^ (h / 256 % 16) ^^^ (h / 4096 % 16) ^^^ (h / 65536 % 16) ^^^ (h / 1048576 % 16) ^^^ (h / 16777216 % 16) ^^^ (h / 268435456 % 16)

theorem hashN_lt (l : List UInt8) : hashN l < 4294967296 := by
  unfold hashN
  rcases List.eq_nil_or_concat l with rfl | ⟨m, c, rfl⟩
  · simp
  · simp; omega

theorem hashN_snoc (l : List UInt8) (c : UInt8) : hashN (l ++ [c]) = (hashN l * 31 + c.toNat) % 4294967296 := by
  simp [hashN]

theorem take_snoc (s : ByteArray) (k : Nat) (h : k < s.size) : s.data.toList.take (k + 1) = s.data.toList.take k ++ [s[k]] := by
  rw [List.take_succ_eq_append_getElem (by simpa using h)]; rfl

theorem all_snoc (l : List UInt8) (c : UInt8) : (l ++ [c]).all okc = (l.all okc && okc c) := by simp

theorem all_false_of_take (l : List UInt8) (k : Nat) (h : (l.take k).all okc = false) : l.all okc = false := by
  rw [List.all_eq_false] at h ⊢
  obtain ⟨x, hx, hn⟩ := h
  exact ⟨x, List.mem_of_mem_take hx, hn⟩

theorem mem_getElem (s : ByteArray) (k : Nat) (h : k < s.size) : s[k] ∈ s.data.toList :=
  Array.mem_toList_iff.2 (Array.getElem_mem (xs := s.data) h)

theorem right_no (s : ByteArray) (k : Nat) (h : k < s.size) (hc : okc s[k] = false) : right s.data.toList = false := by
  have : s.data.toList.all okc = false := List.all_eq_false.2 ⟨s[k], mem_getElem s k h, by simp [hc]⟩
  simp [right, this]

theorem right_end (s : ByteArray) (k : Nat) (h : ¬ k < s.size) (ha : (s.data.toList.take k).all okc = true) : right s.data.toList = (!s.data.toList.isEmpty && decide (s.size ≤ 31)) := by
  rw [List.take_of_length_le (by simp; have : s.data.size = s.size := rfl; omega)] at ha
  have : s.data.toList.length = s.size := rfl
  simp only [right, ha, this, Bool.true_and]

theorem okc_low {c : UInt8} (h : (c.toNat : Int) ≤ 32) : okc c = false := by simp [okc]; omega
theorem okc_high {c : UInt8} (h : 126 < (c.toNat : Int)) : okc c = false := by simp [okc]; omega
theorem okc_ok {c : UInt8} (h : ¬ (c.toNat : Int) ≤ 32) (h2 : ¬ 126 < (c.toNat : Int)) : okc c = true := by simp [okc]; omega
theorem all_step (s : ByteArray) (k : Nat) (h : k < s.size) (ha : (s.data.toList.take k).all okc = true) (hc : okc s[k] = true) : (s.data.toList.take (k + 1)).all okc = true := by
  rw [take_snoc s k h, all_snoc, ha, hc]; rfl

theorem toList_nil (s : ByteArray) : s.toList = s.data.toList := Lib.toList_data s

theorem isEmpty_of {l : List UInt8} (h : ¬ l = []) : l.isEmpty = false := by cases l <;> simp_all

theorem nonempty_of (s : ByteArray) (h : 0 < s.size) : ¬ s.data.toList = [] := by
  intro e; have : s.data.toList.length = s.size := rfl; rw [e] at this; simp at this; omega
theorem empty_of (s : ByteArray) (h : ¬ 0 < s.size) : s.data.toList = [] :=
  List.eq_nil_of_length_eq_zero (by have : s.data.toList.length = s.size := rfl; omega)

theorem hash_step (s : ByteArray) (k : Nat) (h : k < s.size) : ((hashN (s.data.toList.take k) : Int) * 31 % 4294967296 + (s[k].toNat : Int) % 4294967296) % 4294967296 = (hashN (s.data.toList.take (k + 1)) : Int) := by
  rw [take_snoc s k h, hashN_snoc]; omega

/-- The first j nibbles, xored. -/
def foldN (h : Nat) : Nat → Nat
  | 0 => 0
  | j + 1 => foldN h j ^^^ (h / 16 ^ j % 16)

theorem foldN_8 (h : Nat) : foldN h 8 = fold8 h := by simp [foldN, fold8]

theorem foldN_lt (h : Nat) : ∀ j, foldN h j < 16
  | 0 => by simp [foldN]
  | j + 1 => by
    have := foldN_lt h j
    exact Nat.xor_lt_two_pow (n := 4) this (Nat.mod_lt _ (by decide))

/-- What is left of a word behind j nibbles. -/
def leftN (h j : Nat) : Nat := h / 16 ^ j
theorem leftN_0 (h : Nat) : leftN h 0 = h := by simp [leftN]
theorem leftN_lt {h : Nat} (hl : h < 4294967296) (j : Nat) : leftN h j < 4294967296 := Nat.lt_of_le_of_lt (Nat.div_le_self _ _) hl
theorem leftN_succ (h j : Nat) : leftN h (j + 1) = leftN h j / 16 := by rw [leftN, leftN, Nat.pow_succ, Nat.div_div_eq_div_mul]
theorem foldN_succ (h j : Nat) : foldN h (j + 1) = foldN h j ^^^ (leftN h j % 16) := rfl

/-- A word, rotated. -/
def rotN (x k : Nat) : Nat := (x * 2 ^ k % 4294967296) ||| (x / 2 ^ (32 - k))
theorem rotN_lt {x k : Nat} (hx : x < 4294967296) : rotN x k < 4294967296 :=
  Nat.or_lt_two_pow (n := 32) (Nat.mod_lt _ (by decide)) (Nat.lt_of_le_of_lt (Nat.div_le_self _ _) hx)
theorem xor_lt {x y : Nat} (hx : x < 4294967296) (hy : y < 4294967296) : x ^^^ y < 4294967296 := Nat.xor_lt_two_pow (n := 32) hx hy

theorem take_all (s : ByteArray) (k : Nat) (h : ¬ k < s.size) : s.data.toList.take k = s.data.toList :=
  List.take_of_length_le (by have : s.data.toList.length = s.size := rfl; omega)

/-- A word, xored with itself rotated. -/
def mixN (x k : Nat) : Nat := x ^^^ rotN x k
theorem mixN_lt {x : Nat} (k : Nat) (hx : x < 4294967296) : mixN x k < 4294967296 := xor_lt hx (rotN_lt hx)
theorem testBit_rot (x k j : Nat) : (rotN x k).testBit j = ((decide (j < 32) && (decide (k ≤ j) && x.testBit (j - k))) || x.testBit (32 - k + j)) := by
  rw [rotN, Nat.testBit_or, show 4294967296 = 2 ^ 32 from rfl, Nat.testBit_mod_two_pow, Nat.testBit_mul_two_pow, Nat.testBit_div_two_pow, Nat.add_comm j]
theorem testBit_high {x : Nat} (hx : x < 4294967296) (j : Nat) (hj : 32 ≤ j) : x.testBit j = false :=
  Nat.testBit_lt_two_pow (Nat.lt_of_lt_of_le (show x < 2 ^ 32 from hx) (Nat.pow_le_pow_right (by decide) hj))
theorem xor7 : ∀ a b c d e f g : Bool, (a != (b != (c != (d != (e != (f != g)))))) = (g != (c != (e != (a != (f != (b != d)))))) := by decide
theorem mix_fold (x : Nat) (hx : x < 4294967296) : mixN (mixN (mixN x 16) 8) 4 % 16 = fold8 x := by
  have hb := testBit_high hx
  apply Nat.eq_of_testBit_eq
  intro j
  simp only [fold8, mixN, show (16 : Nat) = 2 ^ 4 from rfl, show (256 : Nat) = 2 ^ 8 from rfl, show (4096 : Nat) = 2 ^ 12 from rfl, show (65536 : Nat) = 2 ^ 16 from rfl, show (1048576 : Nat) = 2 ^ 20 from rfl,
    show (16777216 : Nat) = 2 ^ 24 from rfl, show (268435456 : Nat) = 2 ^ 28 from rfl, Nat.testBit_mod_two_pow, Nat.testBit_xor, testBit_rot, Nat.testBit_div_two_pow]
  by_cases h : j < 4
  · have hc : j = 0 ∨ j = 1 ∨ j = 2 ∨ j = 3 := by omega
    rcases hc with rfl | rfl | rfl | rfl <;> simp [hb] <;> exact xor7 _ _ _ _ _ _ _
  · simp [h]

end Go.Proofs.YtfafdkbnmfpbmaaDoor.Nm
