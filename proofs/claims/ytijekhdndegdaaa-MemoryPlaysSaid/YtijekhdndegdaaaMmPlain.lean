/- Plain facts on a memory: bytes, holes, numbers of bytes. No program in sight. -/
import Derived.Lib.Strings
namespace Go.Proofs.Ytijekhdndegdaaa.Mm

/-- Does a hole shut one of the n places from a on? -/
def hits (hs : List (Nat × Nat)) (a n : Nat) : Bool := hs.any fun h => decide (h.1 < h.2) && (decide (h.1 ≤ a + n - 1) && decide (a < h.2))
/-- May n bytes be asked at a? -/
def ask (len : Nat) (hs : List (Nat × Nat)) (a : Nat) (n : Int) : Int :=
  if ¬(n = 1 ∨ n = 2 ∨ n = 4) then 1 else if a % n.toNat ≠ 0 then 31 else if len < a + n.toNat then 30 else if hits hs a n.toNat = true then 30 else 0
/-- Bytes as a number, the lowest first. -/
def val : List UInt8 → Nat
  | [] => 0
  | c :: t => c.toNat + 256 * val t
/-- The n lowest bytes of a number. -/
def bytesOf (v : Nat) : Nat → List UInt8
  | 0 => []
  | n + 1 => UInt8.ofNat v :: bytesOf (v / 256) n
/-- b with l from a on. -/
def put (b : List UInt8) (a : Nat) (l : List UInt8) : List UInt8 := b.take a ++ (l ++ b.drop (a + l.length))
def get (b : List UInt8) (a n : Nat) : List UInt8 := (b.drop a).take n

theorem bytesOf_length (v n : Nat) : (bytesOf v n).length = n := by
  induction n generalizing v with
  | zero => rfl
  | succ n ih => simp [bytesOf, ih]
theorem put_length (b : List UInt8) (a : Nat) (l : List UInt8) (h : a + l.length ≤ b.length) : (put b a l).length = b.length := by
  simp [put]; omega
theorem get_length (b : List UInt8) (a n : Nat) (h : a + n ≤ b.length) : (get b a n).length = n := by
  simp [get]; omega

/-- The j-th byte of a number. -/
theorem bytesOf_getD (v n j : Nat) (h : j < n) : (bytesOf v n).getD j 0 = UInt8.ofNat (v / 256 ^ j) := by
  induction n generalizing v j with
  | zero => omega
  | succ n ih =>
    cases j with
    | zero => simp [bytesOf]
    | succ j =>
      have := ih (v / 256) j (by omega)
      rw [bytesOf, List.getD_cons_succ, this, Nat.div_div_eq_div_mul, Nat.pow_succ, Nat.mul_comm]
theorem bytesOf_succ (v n : Nat) : bytesOf v (n + 1) = bytesOf v n ++ [UInt8.ofNat (v / 256 ^ n)] := by
  induction n generalizing v with
  | zero => simp [bytesOf]
  | succ n ih =>
    rw [bytesOf, ih (v / 256), bytesOf, List.cons_append, Nat.div_div_eq_div_mul, Nat.pow_succ, Nat.mul_comm 256]
theorem bytesOf_take (v n m : Nat) (h : n ≤ m) : (bytesOf v m).take n = bytesOf v n := by
  induction n generalizing v m with
  | zero => rfl
  | succ n ih =>
    cases m with
    | zero => omega
    | succ m => rw [bytesOf, bytesOf, List.take_succ_cons, ih _ _ (by omega)]

theorem val_lt (l : List UInt8) : val l < 256 ^ l.length := by
  induction l with
  | nil => simp [val]
  | cons c t ih =>
    have := c.toNat_lt
    rw [val, List.length_cons, Nat.pow_succ]; omega
theorem val_append (l r : List UInt8) : val (l ++ r) = val l + 256 ^ l.length * val r := by
  induction l with
  | nil => simp [val]
  | cons c t ih => rw [List.cons_append, val, val, ih, List.length_cons, Nat.pow_succ, Nat.mul_add, Nat.add_assoc, Nat.mul_comm (256 ^ t.length) 256, Nat.mul_assoc]
theorem val_zeros (n : Nat) : val (List.replicate n 0) = 0 := by
  induction n with
  | zero => rfl
  | succ n ih => simp [List.replicate_succ, val, ih]
theorem val_bytesOf (v n : Nat) : val (bytesOf v n) = v % 256 ^ n := by
  induction n generalizing v with
  | zero => simp [bytesOf, val, Nat.mod_one]
  | succ n ih =>
    rw [bytesOf, val, ih, UInt8.toNat_ofNat', show 256 ^ (n + 1) = 256 * 256 ^ n by rw [Nat.pow_succ, Nat.mul_comm], Nat.mod_mul]

/-- The bytes behind a 'put'. -/
theorem get_put (b : List UInt8) (a : Nat) (l : List UInt8) (h : a + l.length ≤ b.length) : get (put b a l) a l.length = l := by
  have ha : (b.take a).length = a := by simp; omega
  rw [get, put, List.drop_append_of_le_length (by omega), List.drop_of_length_le (by omega), List.nil_append, List.take_append_of_le_length (Nat.le_refl _), List.take_of_length_le (Nat.le_refl _)]
theorem getD_put_far (b : List UInt8) (a : Nat) (l : List UInt8) (i : Nat) (h : a + l.length ≤ b.length) (hi : i < a ∨ a + l.length ≤ i) : (put b a l).getD i 0 = b.getD i 0 := by
  have ha : (b.take a).length = a := by simp; omega
  simp only [put, List.getD]
  rcases hi with hi | hi
  · rw [List.getElem?_append_left (by omega), List.getElem?_take_of_lt hi]
  · rw [List.getElem?_append_right (by omega), ha, List.getElem?_append_right (by omega), List.getElem?_drop]
    congr 2; omega
/-- One byte more. -/
theorem put_snoc (b : List UInt8) (a : Nat) (l : List UInt8) (c : UInt8) (h : a + l.length < b.length) : put b a (l ++ [c]) = (put b a l).set (a + l.length) c := by
  have ha : (b.take a).length = a := by simp; omega
  rw [put, put, List.set_append_right _ _ (by omega), ha, show a + l.length - a = l.length by omega, List.set_append_right _ _ (Nat.le_refl _), Nat.sub_self,
    List.drop_eq_getElem_cons h, List.set_cons_zero]
  simp [Nat.add_assoc]
theorem put_nil (b : List UInt8) (a : Nat) : put b a [] = b := by simp [put]

theorem get_one (b : List UInt8) (a : Nat) (h : a < b.length) : get b a 1 = [b.getD a 0] := by
  rw [get, List.drop_eq_getElem_cons h, List.take_succ_cons, List.take_zero]
  simp [List.getD, List.getElem?_eq_getElem h]
theorem get_succ (b : List UInt8) (a n : Nat) (h : a + n < b.length) : get b a (n + 1) = get b a n ++ [b.getD (a + n) 0] := by
  rw [get, get, List.take_succ_eq_append_getElem (by simp; omega)]
  simp [List.getD, List.getElem?_eq_getElem h]
theorem get_getD (b : List UInt8) (a n j : Nat) (h : j < n) : (get b a n).getD j 0 = b.getD (a + j) 0 := by
  simp only [get, List.getD, List.getElem?_take, h, if_true, List.getElem?_drop]
/-- The number as the reference reads it: the last byte first. -/
theorem val_cons (b : List UInt8) (a n : Nat) (h : a + n < b.length) : val (get b a (n + 1)) = (b.getD a 0).toNat + 256 * val (get b (a + 1) n) := by
  rw [get, List.drop_eq_getElem_cons (show a < b.length by omega), List.take_succ_cons, val, get]
  simp [List.getD, List.getElem?_eq_getElem (show a < b.length by omega)]
theorem val_snoc (l : List UInt8) (c : UInt8) : val (l ++ [c]) = val l + 256 ^ l.length * c.toNat := by
  rw [val_append]; simp [val]
theorem or_add (x c j : Nat) (hx : x < 256 ^ j) : x ||| c * 256 ^ j = x + 256 ^ j * c := by
  rw [show (256 : Nat) = 2 ^ 8 from rfl, ← Nat.pow_mul] at *
  rw [Nat.or_comm, Nat.mul_comm c, Nat.add_comm, Nat.two_pow_add_eq_or_of_lt hx]

/-- The holes, place by place. -/
theorem hits_iff (hs : List (Nat × Nat)) (a n : Nat) (hn : 0 < n) : hits hs a n = true ↔ ∃ i, a ≤ i ∧ i < a + n ∧ ∃ h ∈ hs, h.1 ≤ i ∧ i < h.2 := by
  simp only [hits, List.any_eq_true, Bool.and_eq_true, decide_eq_true_eq]
  constructor
  · rintro ⟨h, hm, h1, h2, h3⟩
    by_cases hc : a ≤ h.1
    · exact ⟨h.1, hc, by omega, h, hm, Nat.le_refl _, h1⟩
    · exact ⟨a, Nat.le_refl _, by omega, h, hm, by omega, h3⟩
  · rintro ⟨i, h1, h2, h, hm, h3, h4⟩
    exact ⟨h, hm, by omega, by omega, by omega⟩

end Go.Proofs.Ytijekhdndegdaaa.Mm
