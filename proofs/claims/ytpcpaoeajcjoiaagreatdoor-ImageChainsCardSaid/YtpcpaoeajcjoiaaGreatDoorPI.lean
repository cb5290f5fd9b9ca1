/- Texts joined, what is not reached left out. -/
import Derived.Test.YtpcpaoeajcjoiaaGreatDoorQKitB
import Derived.Test.YtpcpaoeajcjoiaaGreatDoorNP
import Derived.Deep.RegionHeld3
import Derived.Deep.AppendLies
import Derived.IntWalk
import Derived.Outline
/- A head as a value, a head's bytes. -/
namespace Go.Proofs.YtpcpaoeajcjoiaaGreatDoor
open Go.RowKit Kit
set_option linter.unusedVariables false
set_option linter.unusedSimpArgs false

theorem bt : ByteTy Tryz.prog 26 5 :=
  ⟨Tryz.underlying26, Tryz.underlying5, by
    have h : (Tryz.prog.info? 5).map (fun i => (i.zero, i.size, i.bytes)) = some (some (.int .u8 0), 1, 1) := by kernel_rfl
    obtain ⟨i, hi, h0, h1, h2⟩ := info_parts h
    exact ⟨i, hi, h0, h1, h2⟩⟩
/-- A word's four bytes, the lowest first. -/
def Nm.le4 (z : Nat) : List UInt8 := [UInt8.ofNat z, UInt8.ofNat (z / 256), UInt8.ofNat (z / 65536), UInt8.ofNat (z / 16777216)]
def Nm.les (zs : List Nat) : List UInt8 := zs.flatMap Nm.le4
theorem Nm.les_length (zs : List Nat) : (Nm.les zs).length = 4 * zs.length := by
  induction zs with
  | nil => rfl
  | cons z zs ih => simp only [Nm.les, List.flatMap_cons, List.length_append, List.length_cons] at ih ⊢; rw [ih]; simp [Nm.le4]; omega
/-- A head as the walk meets it. -/
abbrev hv (s : ByteArray) (fl : Int) (a b c : Nat) : Value := .agg #[.string s, .int .i64 fl, .int .u32 a, .int .u32 b, .int .u32 c]
/-- A head's bytes. -/
def Nm.headB (s : List UInt8) (fl a b c : Nat) : List UInt8 := Nm.les [a, b, c] ++ [UInt8.ofNat fl, UInt8.ofNat s.length] ++ s ++ List.replicate (Nm.lengthN s.length - (14 + s.length)) 0
/-- A slice's length. -/
def lenOf : Value → Nat | .slice _ n _ => n | _ => 0
end Go.Proofs.YtpcpaoeajcjoiaaGreatDoor
/- Walks: word and Read of names. -/
namespace Go.Proofs.YtpcpaoeajcjoiaaGreatDoor
open Go.RowKit Kit
set_option linter.unusedVariables false
set_option linter.unusedSimpArgs false

/-- Four bytes as a word, the lowest first. -/
def Nm.wordN (b0 b1 b2 b3 : Nat) : Nat := b0 + b1 * 256 + b2 * 65536 + b3 * 16777216
theorem Nm.or_add (a b k : Nat) (ha : a < 2 ^ k) : a ||| (b * 2 ^ k) = a + b * 2 ^ k := by
  have h := Nat.two_pow_add_eq_or_of_lt (i := k) ha b
  rw [Nat.or_comm, Nat.mul_comm b, ← h, Nat.add_comm]
theorem Nm.word_or (b0 b1 b2 b3 : Nat) (h0 : b0 < 256) (h1 : b1 < 256) (h2 : b2 < 256) (h3 : b3 < 256) :
    bits .or .u32 (bits .or .u32 (bits .or .u32 (b0 : Int) ((b1 : Int) * 256)) ((b2 : Int) * 65536)) ((b3 : Int) * 16777216) = (Nm.wordN b0 b1 b2 b3 : Int) := by
  have e1 := bits_or_u32 b0 (b1 * 256) (by omega) (by omega)
  rw [show b0 ||| b1 * 256 = b0 + b1 * 256 from Nm.or_add b0 b1 8 (by omega), Int.natCast_mul] at e1
  have e2 := bits_or_u32 (b0 + b1 * 256) (b2 * 65536) (by omega) (by omega)
  rw [show (b0 + b1 * 256) ||| b2 * 65536 = b0 + b1 * 256 + b2 * 65536 from Nm.or_add _ b2 16 (by omega), Int.natCast_mul] at e2
  have e3 := bits_or_u32 (b0 + b1 * 256 + b2 * 65536) (b3 * 16777216) (by omega) (by omega)
  rw [show (b0 + b1 * 256 + b2 * 65536) ||| b3 * 16777216 = b0 + b1 * 256 + b2 * 65536 + b3 * 16777216 from Nm.or_add _ b3 24 (by omega), Int.natCast_mul] at e3
  have e1' : bits .or .u32 (b0 : Int) ((b1 : Int) * 256) = ((b0 + b1 * 256 : Nat) : Int) := e1
  have e2' : bits .or .u32 ((b0 + b1 * 256 : Nat) : Int) ((b2 : Int) * 65536) = ((b0 + b1 * 256 + b2 * 65536 : Nat) : Int) := e2
  rw [e1', e2']
  exact e3
theorem word_own (g off len cap : Nat) (b0 b1 b2 b3 : UInt8) (w : World) (hl : 4 ≤ len) (c0 : w.cell? ⟨g, off, none⟩ = some (.int .u8 b0.toNat)) (c1 : w.cell? ⟨g, off + 1, none⟩ = some (.int .u8 b1.toNat))
    (c2 : w.cell? ⟨g, off + 2, none⟩ = some (.int .u8 b2.toNat)) (c3 : w.cell? ⟨g, off + 3, none⟩ = some (.int .u8 b3.toNat)) :
    Calls Tryz.prog 60 #[.slice (some ⟨g, off, none⟩) len cap] w fun e w' => e = .returned (.int .u32 (Nm.wordN b0.toNat b1.toNat b2.toNat b3.toNat : Int)) ∧ w' = w.drew := by
  have h0 : b0.toNat < 256 := b0.toNat_lt
  have h1 : b1.toNat < 256 := b1.toNat_lt
  have h2 : b2.toNat < 256 := b2.toNat_lt
  have h3 : b3.toNat < 256 := b3.toNat_lt
  have HV := Lib.hid (Nm.word_or b0.toNat b1.toNat b2.toNat b3.toNat h0 h1 h2 h3)
  have n0 : 0 < len := by omega
  have n1 : 1 < len := by omega
  have n2 : 2 < len := by omega
  have n3 : 3 < len := by omega
  have l0 : (0 : Int) < len := by omega
  have l1 : (1 : Int) < len := by omega
  have l2 : (2 : Int) < len := by omega
  have l3 : (3 : Int) < len := by omega
  generalize b0.toNat = x0 at *
  generalize b1.toNat = x1 at *
  generalize b2.toNat = x2 at *
  generalize b3.toNat = x3 at *
  go_enter Tryz.func60, Tryz.ntmps60
  go_wp2
  refine wp_region_still_lit (by kernel_rfl) (by kernel_rfl) ?_
  repeat ((with_reducible refine wpStill_step (fun K hK => ?_)); go_simp; (try go_bits); (with_reducible refine hK _ ?_); clear hK K)
  refine wpStill_nil ?_
  go_wp2
  go_ret
  exact ⟨ret_int HV.out, rfl⟩
/-- What Read sees. -/
def Nm.nl (l : List UInt8) : Nat := (l.getD 13 0).toNat
def Nm.name (l : List UInt8) : List UInt8 := (l.drop 14).take (Nm.nl l)
def Nm.flg (l : List UInt8) : Nat := (l.getD 12 0).toNat
def Nm.wat (l : List UInt8) (k : Nat) : Nat := Nm.wordN (l.getD k 0).toNat (l.getD (k + 1) 0).toNat (l.getD (k + 2) 0).toNat (l.getD (k + 3) 0).toNat
def Nm.pad (l : List UInt8) : List UInt8 := (l.drop (14 + Nm.nl l)).take (Nm.lengthN (Nm.nl l) - (14 + Nm.nl l))
/-- Is there a head at the beginning? -/
def Nm.goodB (l : List UInt8) : Bool := decide (14 ≤ l.length) && (decide (Nm.nl l ≤ 31) && (decide (14 + Nm.nl l ≤ l.length) && (Nm.right (Nm.name l) && (decide (Nm.flg l ≤ 15) && (decide (Nm.lengthN (Nm.nl l) ≤ l.length) && (Nm.pad l).all (· == 0))))))
theorem Nm.pad_all (l : List UInt8) (h : Nm.lengthN (Nm.nl l) ≤ l.length) : (Nm.pad l).all (· == 0) = true ↔ ∀ j, j < Nm.lengthN (Nm.nl l) - (14 + Nm.nl l) → (l.getD (14 + Nm.nl l + j) 0).toNat = 0 := by
  rw [List.all_eq_true]
  constructor
  · intro ha j hj
    have hm : l.getD (14 + Nm.nl l + j) 0 ∈ Nm.pad l := by
      rw [List.mem_iff_getElem?]
      refine ⟨j, ?_⟩
      rw [Nm.pad, List.getElem?_take, if_pos hj, List.getElem?_drop, List.getD, List.getElem?_eq_getElem (by omega)]
      rfl
    have := ha _ hm
    simp only [beq_iff_eq] at this
    rw [this]; rfl
  · intro ha c hc
    rw [List.mem_iff_getElem?] at hc
    obtain ⟨j, hj⟩ := hc
    rw [Nm.pad, List.getElem?_take] at hj
    split at hj
    · rename_i hlt
      rw [List.getElem?_drop] at hj
      have := ha j hlt
      rw [List.getD, hj] at this
      rw [beq_iff_eq, ← UInt8.toNat_inj]
      exact this
    · cases hj
theorem Nm.goodB_true {l : List UInt8} (h : Nm.goodB l = true) : Nm.right (Nm.name l) = true ∧ Nm.flg l ≤ 15 ∧ Nm.lengthN (Nm.nl l) ≤ l.length ∧ ∀ j, j < Nm.lengthN (Nm.nl l) - (14 + Nm.nl l) → (l.getD (14 + Nm.nl l + j) 0).toNat = 0 := by
  simp only [Nm.goodB, Bool.and_eq_true, decide_eq_true_eq] at h
  obtain ⟨h1, h2, h3, h4, h5, h6, h7⟩ := h
  exact ⟨h4, h5, h6, (Nm.pad_all l h6).1 h7⟩
theorem Nm.goodB_false {l : List UInt8} (h : Nm.goodB l = false) : l.length < 14 ∨ 31 < Nm.nl l ∨ l.length < 14 + Nm.nl l ∨ Nm.right (Nm.name l) = false ∨ 15 < Nm.flg l ∨ l.length < Nm.lengthN (Nm.nl l) ∨ ∃ j, j < Nm.lengthN (Nm.nl l) - (14 + Nm.nl l) ∧ (l.getD (14 + Nm.nl l + j) 0).toNat ≠ 0 := by
  by_cases h1 : l.length < 14
  · exact .inl h1
  by_cases h2 : 31 < Nm.nl l
  · exact .inr (.inl h2)
  by_cases h3 : l.length < 14 + Nm.nl l
  · exact .inr (.inr (.inl h3))
  by_cases h4 : Nm.right (Nm.name l) = false
  · exact .inr (.inr (.inr (.inl h4)))
  by_cases h5 : 15 < Nm.flg l
  · exact .inr (.inr (.inr (.inr (.inl h5))))
  by_cases h6 : l.length < Nm.lengthN (Nm.nl l)
  · exact .inr (.inr (.inr (.inr (.inr (.inl h6)))))
  refine .inr (.inr (.inr (.inr (.inr (.inr ?_)))))
  have h4' : Nm.right (Nm.name l) = true := by simpa using h4
  have e1 : decide (14 ≤ l.length) = true := by simp; omega
  have e2 : decide (Nm.nl l ≤ 31) = true := by simp; omega
  have e3 : decide (14 + Nm.nl l ≤ l.length) = true := by simp; omega
  have e5 : decide (Nm.flg l ≤ 15) = true := by simp; omega
  have e6 : decide (Nm.lengthN (Nm.nl l) ≤ l.length) = true := by simp; omega
  rw [Nm.goodB, e1, e2, e3, h4', e5, e6] at h
  simp only [Bool.true_and] at h
  apply Classical.byContradiction
  intro hn
  have : (Nm.pad l).all (· == 0) = true := (Nm.pad_all l (by omega)).2 fun j hj => Classical.byContradiction fun hne => hn ⟨j, hj, hne⟩
  rw [this] at h
  cases h
abbrev hv0 : Value := .agg #[.string ⟨#[]⟩, .int .i64 0, .int .u32 0, .int .u32 0, .int .u32 0]
theorem rd_len {w : World} {v : Value} {l : List UInt8} (h : RdB w v l) : ∃ a cap, v = .slice a l.length cap := by
  rcases h with ⟨a, c, rfl, rfl⟩ | ⟨g, off, cap, rfl, _⟩
  · exact ⟨a, c, rfl⟩
  · exact ⟨_, cap, rfl⟩
theorem read_short (v : Value) (l : List UInt8) (w : World) (hv : RdB w v l) (h : l.length < 14) :
    Calls Tryz.prog 24 #[v] w fun e w' => e = .returned (.tuple #[hv0, .int .i64 0, .int .i64 45]) ∧ Below w.heap.size w w' := by
  obtain ⟨a, cap, rfl⟩ := rd_len hv
  generalize l.length = n at *
  go_enter Tryz.func24, Tryz.ntmps24
  go_wp2
  exact bodyPost_ret (v := .tuple #[hv0, .int .i64 0, .int .i64 45]) (by simp [results, Tryz.results24, go_sem]) rfl ⟨rfl, (Below.refl _ _).alloc (Nat.le_refl _) _⟩
theorem read_long (g off cap : Nat) (l : List UInt8) (w : World) (hc : ∀ j, j < l.length → w.cell? ⟨g, off + j, none⟩ = some (.int .u8 (l.getD j 0).toNat)) (hg : g < w.heap.size) (h14 : 14 ≤ l.length) (h2000 : l.length ≤ 2000) (h : 31 < Nm.nl l ∨ l.length < 14 + Nm.nl l) :
    Calls Tryz.prog 24 #[.slice (some ⟨g, off, none⟩) l.length cap] w fun e w' => e = .returned (.tuple #[hv0, .int .i64 0, .int .i64 45]) ∧ Below w.heap.size w w' := by
  have c13 : (w.alloc (.cells #[.string ⟨#[]⟩, .int .i64 0, .int .u32 0, .int .u32 0, .int .u32 0] 55)).cell? ⟨g, off + 13, none⟩ = some (.int .u8 (Nm.nl l)) := by
    rw [World.cell?_alloc_past _ _ _ (by simpa using hg)]; exact hc 13 (by omega)
  clear hc
  have h13 : Nm.nl l < 256 := (l.getD 13 0).toNat_lt
  have n13 : 13 < l.length := by omega
  generalize Nm.nl l = k at *
  generalize l.length = n at *
  by_cases h1 : 31 < k
  · clear h
    go_enter Tryz.func24, Tryz.ntmps24
    go_wp2
    exact bodyPost_ret (v := .tuple #[hv0, .int .i64 0, .int .i64 45]) (by simp [results, Tryz.results24, go_sem]) rfl ⟨rfl, (Below.refl _ _).alloc (Nat.le_refl _) _⟩
  · have h2 : n < 14 + k := by omega
    clear h
    go_enter Tryz.func24, Tryz.ntmps24
    go_wp2
    exact bodyPost_ret (v := .tuple #[hv0, .int .i64 0, .int .i64 45]) (by simp [results, Tryz.results24, go_sem]) rfl ⟨rfl, (Below.refl _ _).alloc (Nat.le_refl _) _⟩
abbrev w0 (w : World) : World := w.alloc (.cells #[.string ⟨#[]⟩, .int .i64 0, .int .u32 0, .int .u32 0, .int .u32 0] 55)
/-- What Read answers. -/
def Nm.readV (l : List UInt8) : Value := if Nm.goodB l then .tuple #[hv ⟨(Nm.name l).toArray⟩ (Nm.flg l) (Nm.wat l 0) (Nm.wat l 4) (Nm.wat l 8), .int .i64 (Nm.lengthN (Nm.nl l) : Nat), .int .i64 0] else .tuple #[hv0, .int .i64 0, .int .i64 45]
theorem Nm.readV_bad {l : List UInt8} (h : Nm.goodB l = false) : Nm.readV l = .tuple #[hv0, .int .i64 0, .int .i64 45] := by rw [Nm.readV, if_neg (by simp [h])]
theorem Nm.readV_good {l : List UInt8} (h : Nm.goodB l = true) : Nm.readV l = .tuple #[hv ⟨(Nm.name l).toArray⟩ (Nm.flg l) (Nm.wat l 0) (Nm.wat l 4) (Nm.wat l 8), .int .i64 (Nm.lengthN (Nm.nl l) : Nat), .int .i64 0] := by rw [Nm.readV, if_pos h]
/-- What the walk of Read is told of the bytes, in any later world. -/
structure RF (w : World) (g off cap n k f N : Nat) (nm : List UInt8) (R : Bool) (pv : Nat → Nat) (x0 x4 x8 : Nat) (v2 : Value) (a3 : Option Addr) (m c3 : Nat) : Prop where
  c13 : ∀ W', Below w.heap.size w W' → W'.cell? ⟨g, off + 13, none⟩ = some (.int .u8 k)
  c12 : ∀ W', Below w.heap.size w W' → W'.cell? ⟨g, off + 12, none⟩ = some (.int .u8 f)
  cv : ∀ W', Below w.heap.size w W' → (convert 26 9 v2).run Tryz.prog W' = .ok (.string ⟨nm.toArray⟩) W'
  s2 : ∀ W', (Instr.slice 26 (.slice (some ⟨g, off, none⟩) n cap) (some (.int .i64 14)) (some (.int .i64 (14 + (k : Int)))) none).run Tryz.prog W' = .ok v2 W'
  s3 : N ≤ n → ∀ W', (Instr.slice 26 (.slice (some ⟨g, off, none⟩) n cap) (some (.int .i64 (14 + (k : Int)))) (some (.int .i64 (N : Int))) none).run Tryz.prog W' = .ok (.slice a3 m c3) W'
  s4 : ∀ W', (Instr.slice 26 (.slice (some ⟨g, off, none⟩) n cap) (some (.int .i64 4)) none none).run Tryz.prog W' = .ok (.slice (some ⟨g, off + 4, none⟩) (n - 4) (cap - 4)) W'
  s8 : ∀ W', (Instr.slice 26 (.slice (some ⟨g, off, none⟩) n cap) (some (.int .i64 8)) none none).run Tryz.prog W' = .ok (.slice (some ⟨g, off + 8, none⟩) (n - 8) (cap - 8)) W'
  hm : N ≤ n → m + (14 + k) = N
  ha : N ≤ n → 0 < m → a3 = some ⟨g, off + (14 + k), none⟩
  pad : N ≤ n → ∀ j, j < m → ∀ W', Below w.heap.size w W' → W'.cell? ⟨g, off + (14 + k) + j, none⟩ = some (.int .u8 (pv j))
  len : ∀ W', Calls Tryz.prog 58 #[.string ⟨nm.toArray⟩] W' fun e w' => e = .returned (.int .i64 N) ∧ W' = w'
  right : ∀ W', Calls Tryz.prog 59 #[.string ⟨nm.toArray⟩] W' fun e w' => e = .returned (.bool R) ∧ W' = w'
  w0 : ∀ W', Below w.heap.size w W' → Calls Tryz.prog 60 #[.slice (some ⟨g, off, none⟩) n cap] W' fun e w' => e = .returned (.int .u32 x0) ∧ w' = W'.drew
  w4 : ∀ W', Below w.heap.size w W' → Calls Tryz.prog 60 #[.slice (some ⟨g, off + 4, none⟩) (n - 4) (cap - 4)] W' fun e w' => e = .returned (.int .u32 x4) ∧ w' = W'.drew
  w8 : ∀ W', Below w.heap.size w W' → Calls Tryz.prog 60 #[.slice (some ⟨g, off + 8, none⟩) (n - 8) (cap - 8)] W' fun e w' => e = .returned (.int .u32 x8) ∧ w' = W'.drew
/-- What Read's core answers. -/
def RPost (w : World) (n f N : Nat) (nm : List UInt8) (R : Bool) (pv : Nat → Nat) (x0 x4 x8 m : Nat) (e : Ending) (w' : World) : Prop :=
  ((R = false ∨ 15 < f ∨ n < N ∨ ∃ j, j < m ∧ pv j ≠ 0) → e = .returned (.tuple #[hv0, .int .i64 0, .int .i64 45])) ∧
      ((R = true ∧ f ≤ 15 ∧ N ≤ n ∧ ∀ j, j < m → pv j = 0) → e = .returned (.tuple #[hv ⟨nm.toArray⟩ f x0 x4 x8, .int .i64 N, .int .i64 0])) ∧ Below w.heap.size w w'
theorem RPost.bad {w : World} {n f N : Nat} {nm : List UInt8} {R : Bool} {pv : Nat → Nat} {x0 x4 x8 m : Nat} {w' : World} (h : R = false ∨ 15 < f ∨ n < N ∨ ∃ j, j < m ∧ pv j ≠ 0) (hb : Below w.heap.size w w') :
    RPost w n f N nm R pv x0 x4 x8 m (.returned (.tuple #[hv0, .int .i64 0, .int .i64 45])) w' := ⟨fun _ => rfl, fun h2 => by
      rcases h with h | h | h | ⟨j, h, h'⟩
      · rw [h] at h2; cases h2.1
      · omega
      · omega
      · exact absurd (h2.2.2.2 j h) h', hb⟩
theorem RPost.good {w : World} {n f N : Nat} {nm : List UInt8} {R : Bool} {pv : Nat → Nat} {x0 x4 x8 m : Nat} {w' : World} (h : R = true ∧ f ≤ 15 ∧ N ≤ n ∧ ∀ j, j < m → pv j = 0) (hb : Below w.heap.size w w') :
    RPost w n f N nm R pv x0 x4 x8 m (.returned (.tuple #[hv ⟨nm.toArray⟩ f x0 x4 x8, .int .i64 N, .int .i64 0])) w' := ⟨fun h2 => by
      rcases h2 with h2 | h2 | h2 | ⟨j, h2, h'⟩
      · rw [h2] at h; cases h.1
      · omega
      · omega
      · exact absurd (h.2.2.2 j h2) h', fun _ => rfl, hb⟩
set_option maxHeartbeats 2000000 in
theorem read_core (w : World) (g off cap n k f N : Nat) (nm : List UInt8) (R : Bool) (pv : Nat → Nat) (x0 x4 x8 : Nat) (v2 : Value) (a3 : Option Addr) (m c3 : Nat) (F : RF w g off cap n k f N nm R pv x0 x4 x8 v2 a3 m c3)
    (hg : g < w.heap.size) (hcap : n ≤ cap) (h14 : 14 ≤ n) (h2000 : n ≤ 2000) (h31 : k ≤ 31) (hl2 : 14 + k ≤ n) (hf : f < 256) (hN : N ≤ 60) (hkN : 14 + k ≤ N) :
    Calls Tryz.prog 24 #[.slice (some ⟨g, off, none⟩) n cap] w (RPost w n f N nm R pv x0 x4 x8 m) := by
  have HB0 := Lib.hid (show Below w.heap.size w (w0 w) from (Below.refl _ _).alloc (Nat.le_refl _) _)
  have c13 : (w0 w).cell? ⟨g, off + 13, none⟩ = some (.int .u8 k) := F.c13 _ HB0.out
  have hsl := F.s2
  have n13 : 13 < n := by omega
  have n12 : 12 < n := by omega
  have s0 : (0 : Int) ≤ k := by omega
  have s1 : (14 : Int) + k ≤ cap := by omega
  have s2 : (14 : Int) ≤ 14 + k := by omega
  have s3 : 14 + k ≤ cap := by omega
  have s4 : (0 : Int) ≤ 14 + k := by omega
  have s5 : (12 : Int) < n := by omega
  have s6 : 14 ≤ 14 + k := by omega
  have s7 : IntKind.i64.wrap (14 + (k : Int)) = 14 + k := IntWalk.i64_in _ (by omega)
  have HS := Lib.hid (show ∀ W', Below (w.heap.size + 1) (w0 w) W' → W'.cell? ⟨g, off + 12, none⟩ = some (.int .u8 f) ∧ (convert 26 9 v2).run Tryz.prog W' = .ok (.string ⟨nm.toArray⟩) W' from fun W' hb =>
    ⟨F.c12 W' (HB0.out.trans (hb.mono (by omega))), F.cv W' (HB0.out.trans (hb.mono (by omega)))⟩)
  have HF := Lib.hid F; clear F
  go_enter Tryz.func24, Tryz.ntmps24
  go_wp2_with fail
  go_region_held3 (fun w' => w'.cell? ⟨g, off + 12, none⟩ = some (.int .u8 f) ∧ (convert 26 9 v2).run Tryz.prog w' = .ok (.string ⟨nm.toArray⟩) w')
    (first | exact HS.out _ (by repeat (first | exact Below.refl _ _ | apply Below.drew | refine Below.alloc ?_ (by simp) _ | refine Below.setCell ?_ (by simp) _)) | (go_keep; done))
    (first | fail)
  clear hsl s7 c13 HS
  have HL := HF.out.len
  have HR := HF.out.right
  go_wp2_with fail
  refine (HL _).mono ?_
  rintro e w' ⟨rfl, rfl⟩
  go_wp2_with fail
  refine (HR _).mono ?_
  rintro e w' ⟨rfl, rfl⟩
  clear HL HR
  cases R
  · go_wp2
    refine bodyPost_ret (v := .tuple #[hv0, .int .i64 0, .int .i64 45]) (by simp [results, Tryz.results24, go_sem]) rfl (RPost.bad (.inl rfl) ?_)
    repeat (first | exact Below.refl _ _ | apply Below.drew | refine Below.alloc ?_ (by simp) _ | refine Below.setCell ?_ (by simp) _)
  by_cases h15 : 15 < f
  · have h15' : (15 : Int) < f := by omega
    go_wp2
    refine bodyPost_ret (v := .tuple #[hv0, .int .i64 0, .int .i64 45]) (by simp [results, Tryz.results24, go_sem]) rfl (RPost.bad (.inr (.inl h15)) ?_)
    repeat (first | exact Below.refl _ _ | apply Below.drew | refine Below.alloc ?_ (by simp) _ | refine Below.setCell ?_ (by simp) _)
  by_cases hnN : n < N
  · have h15' : (f : Int) ≤ 15 := by omega
    go_wp2
    refine bodyPost_ret (v := .tuple #[hv0, .int .i64 0, .int .i64 45]) (by simp [results, Tryz.results24, go_sem]) rfl (RPost.bad (.inr (.inr (.inl hnN))) ?_)
    repeat (first | exact Below.refl _ _ | apply Below.drew | refine Below.alloc ?_ (by simp) _ | refine Below.setCell ?_ (by simp) _)
  have h15' : (f : Int) ≤ 15 := by omega
  have hNn : N ≤ n := by omega
  have hsl3 := HF.out.s3 hNn
  have hm := HF.out.hm hNn
  have HM := Lib.hid hm
  have hm50 : m ≤ 60 := by omega
  clear hm
  go_wp2_with fail
  clear hsl3
  go_loop [63] (fun i => ∃ j : Nat, j ≤ m ∧ i = .int .i64 j ∧ ∀ i, i < j → pv i = 0) (fun i => m - (intOf i).toNat)
  case atStart => exact ⟨0, Nat.zero_le _, rfl, fun i hi => by omega⟩
  case round =>
    obtain ⟨j, hj, rfl, hall⟩ := hrel
    have HA := Lib.hid hall; clear hall
    by_cases hlt : j < m
    · have ha := HF.out.ha hNn (by omega)
      have HC := Lib.hid (HF.out.pad hNn j hlt)
      subst ha
      have hcell := HC.out ((w.alloc (.cells #[.string ⟨#[]⟩, .int .i64 0, .int .u32 0, .int .u32 0, .int .u32 0] 55)).alloc (.cells #[.string ⟨nm.toArray⟩, .int .i64 f, .int .u32 0, .int .u32 0, .int .u32 0] 55)).drew (by repeat (first | exact Below.refl _ _ | apply Below.drew | refine Below.alloc ?_ (by simp) _ | refine Below.setCell ?_ (by simp) _))
      by_cases hz : pv j = 0
      · have hz' : ((pv j : Int) != 0) = false := by simp [hz]
        have HN := Lib.hid (show ∀ i, i < j + 1 → pv i = 0 from fun i hi => by
          by_cases e : i = j
          · rw [e]; exact hz
          · exact HA.out i (by omega))
        clear hz
        go_wp2
        go_round
        case rel => exact ⟨j + 1, by omega, by go_num, HN.out⟩
        case measure => simp [intOf]; omega
      · have hz' : ((pv j : Int) != 0) = true := by simp [hz]
        go_wp2
        refine bodyPost_ret (v := .tuple #[hv0, .int .i64 0, .int .i64 45]) (by simp [results, Tryz.results24, go_sem]) rfl (RPost.bad (.inr (.inr (.inr ⟨j, hlt, hz⟩))) ?_)
        repeat (first | exact Below.refl _ _ | apply Below.drew | refine Below.alloc ?_ (by simp) _ | refine Below.setCell ?_ (by simp) _)
    · have HG := Lib.hid (show f ≤ 15 ∧ N ≤ n ∧ ∀ j, j < m → pv j = 0 from ⟨by omega, hNn, fun i hi => HA.out i (by omega)⟩)
      have h4 := HF.out.s4
      have h8 := HF.out.s8
      go_wp2_with fail
      go_region_held3 (fun w' => True) (trivial)
        (first
          | (go_at_call 60; first | ((with_reducible refine (HF.out.w0 _ ?_).mono ?_); (repeat (first | exact Below.refl _ _ | apply Below.drew | refine Below.alloc ?_ (by simp) _ | refine Below.setCell ?_ (by simp) _)); rintro e w' ⟨rfl, rfl⟩) | ((with_reducible refine (HF.out.w4 _ ?_).mono ?_); (repeat (first | exact Below.refl _ _ | apply Below.drew | refine Below.alloc ?_ (by simp) _ | refine Below.setCell ?_ (by simp) _)); rintro e w' ⟨rfl, rfl⟩) | ((with_reducible refine (HF.out.w8 _ ?_).mono ?_); (repeat (first | exact Below.refl _ _ | apply Below.drew | refine Below.alloc ?_ (by simp) _ | refine Below.setCell ?_ (by simp) _)); rintro e w' ⟨rfl, rfl⟩)))
      clear h4 h8
      go_wp2
      refine bodyPost_ret (v := .tuple #[hv ⟨nm.toArray⟩ f x0 x4 x8, .int .i64 N, .int .i64 0]) (by simp [results, Tryz.results24, go_sem]) rfl (RPost.good ⟨rfl, HG.out⟩ ?_)
      repeat (first | exact Below.refl _ _ | apply Below.drew | refine Below.alloc ?_ (by simp) _ | refine Below.setCell ?_ (by simp) _)
theorem slice_run (g off len cap lo hi : Nat) (h1 : lo ≤ hi) (h2 : hi ≤ cap) (l h : Int) (hl : l = lo) (hh : h = hi) (W : World) :
    (Instr.slice 26 (.slice (some ⟨g, off, none⟩) len cap) (some (.int .i64 l)) (some (.int .i64 h)) none).run Tryz.prog W = .ok (sliced (some ⟨g, off, none⟩) lo hi cap 1) W := by
  obtain ⟨i, hi', hz, hs1, hb1⟩ := bt.info
  have helem : Tryz.prog.elem 26 = 5 := by simp [Program.elem, bt.slice]
  have ht : Tryz.prog.underlying 26 = some (.slice (Tryz.prog.elem 26)) := by rw [helem]; exact bt.slice
  have hsz : (sizeOf (Tryz.prog.elem 26)).run Tryz.prog W = .ok 1 W := by rw [helem]; simp [sizeOf, typeInfo, hi', hs1]
  subst hl hh
  rw [run_slice_lh (w := W) 26 _ _ _ ht .i64 .i64 lo hi (by omega) (by omega) (by omega), hsz]
  simp
theorem slice_run_lo (g off len cap lo : Nat) (h1 : lo ≤ len) (h2 : lo < cap) (l : Int) (hl : l = lo) (W : World) :
    (Instr.slice 26 (.slice (some ⟨g, off, none⟩) len cap) (some (.int .i64 l)) none none).run Tryz.prog W = .ok (.slice (some ⟨g, off + lo, none⟩) (len - lo) (cap - lo)) W := by
  obtain ⟨i, hi', hz, hs1, hb1⟩ := bt.info
  have helem : Tryz.prog.elem 26 = 5 := by simp [Program.elem, bt.slice]
  have ht : Tryz.prog.underlying 26 = some (.slice (Tryz.prog.elem 26)) := by rw [helem]; exact bt.slice
  have hsz : (sizeOf (Tryz.prog.elem 26)).run Tryz.prog W = .ok 1 W := by rw [helem]; simp [sizeOf, typeInfo, hi', hs1]
  subst hl
  rw [run_slice_l (w := W) 26 _ _ _ ht .i64 lo (by omega) (by omega), hsz]
  simp only [Result.andThen_ok, sliced, Int.toNat_natCast, Nat.mul_one]
  rw [if_neg (by omega)]
  simp [addr_add]
theorem read_own (g off cap : Nat) (l : List UInt8) (w : World) (hc : ∀ j, j < l.length → w.cell? ⟨g, off + j, none⟩ = some (.int .u8 (l.getD j 0).toNat)) (hg : g < w.heap.size) (hcap : l.length ≤ cap) (hcm : cap ≤ maxLen) (h2000 : l.length ≤ 2000) :
    Calls Tryz.prog 24 #[.slice (some ⟨g, off, none⟩) l.length cap] w fun e w' => e = .returned (Nm.readV l) ∧ Below w.heap.size w w' := by
  by_cases h14 : 14 ≤ l.length
  · by_cases hlong : 31 < Nm.nl l ∨ l.length < 14 + Nm.nl l
    · have e : Nm.goodB l = false := by
        rcases hlong with h | h
        · have : decide (Nm.nl l ≤ 31) = false := by simp; omega
          simp [Nm.goodB, this]
        · have : decide (14 + Nm.nl l ≤ l.length) = false := by simp; omega
          simp [Nm.goodB, this]
      rw [Nm.readV_bad e]
      exact read_long g off cap l w hc hg h14 h2000 hlong
    · have h31 : Nm.nl l ≤ 31 := by omega
      have hl2 : 14 + Nm.nl l ≤ l.length := by omega
      have hln : 14 + Nm.nl l ≤ Nm.lengthN (Nm.nl l) ∧ Nm.lengthN (Nm.nl l) ≤ 14 + Nm.nl l + 3 := by unfold Nm.lengthN; rw [if_neg (by omega)]; omega
      have hname : (Nm.name l).length = Nm.nl l := by simp [Nm.name]; omega
      have hsz : (⟨(Nm.name l).toArray⟩ : ByteArray).size = Nm.nl l := by rw [← hname]; rfl
      have hmax : (⟨(Nm.name l).toArray⟩ : ByteArray).size ≤ maxLen := by rw [hsz]; unfold maxLen; omega
      obtain ⟨v2, hsl, hrd2⟩ := slice_rd bt g off l.length cap 14 (14 + Nm.nl l) (by omega) (by omega)
      have hcW : ∀ W', Below w.heap.size w W' → ∀ j, j < l.length → W'.cell? ⟨g, off + j, none⟩ = some (.int .u8 (l.getD j 0).toNat) := fun W' hb j hj => (hb.cell (p := ⟨g, off + j, none⟩) hg).trans (hc j hj)
      have key := read_core w g off cap l.length (Nm.nl l) (Nm.flg l) (Nm.lengthN (Nm.nl l)) (Nm.name l) (Nm.right (Nm.name l)) (fun j => (l.getD (14 + Nm.nl l + j) 0).toNat) (Nm.wat l 0) (Nm.wat l 4) (Nm.wat l 8) v2
        (if cap = 14 + Nm.nl l then some ⟨g, off, none⟩ else some ⟨g, off + (14 + Nm.nl l), none⟩) (Nm.lengthN (Nm.nl l) - (14 + Nm.nl l)) (cap - (14 + Nm.nl l))
        { c13 := fun W' hb => hcW W' hb 13 (by omega)
          c12 := fun W' hb => hcW W' hb 12 (by omega)
          cv := fun W' hb => by
            have := run_string_of bt Tryz.underlying9 (hrd2 W' l rfl hl2 hcap hcm (Nat.lt_of_lt_of_le hg hb.size) (hcW W' hb))
            rw [show 14 + Nm.nl l - 14 = Nm.nl l by omega] at this
            exact this
          s2 := fun W' => hsl 14 (14 + (Nm.nl l : Int)) rfl (by omega) W'
          s3 := fun h W' => by
            rw [slice_run g off l.length cap (14 + Nm.nl l) (Nm.lengthN (Nm.nl l)) hln.1 (by omega) _ _ (by simp) rfl W']
            unfold sliced
            split
            · rfl
            · simp [addr_add]
          s4 := fun W' => slice_run_lo g off l.length cap 4 (by omega) (by omega) 4 rfl W'
          s8 := fun W' => slice_run_lo g off l.length cap 8 (by omega) (by omega) 8 rfl W'
          hm := fun h => by omega
          ha := fun h h0 => by rw [if_neg (by omega)]
          pad := fun h j hj W' hb => by rw [Nat.add_assoc]; exact hcW W' hb (14 + Nm.nl l + j) (by omega)
          len := fun W' => by have := len_own ⟨(Nm.name l).toArray⟩ W' hmax; rw [hsz] at this; exact this
          right := fun W' => xright_own ⟨(Nm.name l).toArray⟩ W' hmax
          w0 := fun W' hb => word_own g off l.length cap _ _ _ _ W' (by omega) (hcW W' hb 0 (by omega)) (hcW W' hb 1 (by omega)) (hcW W' hb 2 (by omega)) (hcW W' hb 3 (by omega))
          w4 := fun W' hb => word_own g (off + 4) (l.length - 4) (cap - 4) _ _ _ _ W' (by omega) (hcW W' hb 4 (by omega)) (hcW W' hb 5 (by omega)) (hcW W' hb 6 (by omega)) (hcW W' hb 7 (by omega))
          w8 := fun W' hb => word_own g (off + 8) (l.length - 8) (cap - 8) _ _ _ _ W' (by omega) (hcW W' hb 8 (by omega)) (hcW W' hb 9 (by omega)) (hcW W' hb 10 (by omega)) (hcW W' hb 11 (by omega)) }
        hg hcap h14 h2000 h31 hl2 (l.getD 12 0).toNat_lt (by omega) hln.1
      refine key.mono ?_
      rintro e w' ⟨hbad, hgood, hb⟩
      cases hgb : Nm.goodB l
      · rw [Nm.readV_bad hgb]
        refine ⟨hbad ?_, hb⟩
        rcases Nm.goodB_false hgb with h | h | h | h | h | h | h
        · omega
        · omega
        · omega
        · exact .inl h
        · exact .inr (.inl h)
        · exact .inr (.inr (.inl h))
        · exact .inr (.inr (.inr h))
      · rw [Nm.readV_good hgb]
        exact ⟨hgood (Nm.goodB_true hgb), hb⟩
  · have e : Nm.goodB l = false := by
      have : decide (14 ≤ l.length) = false := by simp; omega
      simp [Nm.goodB, this]
    rw [Nm.readV_bad e]
    exact read_short _ l w (.inr ⟨g, off, cap, rfl, hg, hcap, hcm, hc⟩) (by omega)
theorem Nm.headB_length {s : List UInt8} {fl a b c : Nat} (h : s.length ≤ 31) : (Nm.headB s fl a b c).length = Nm.lengthN s.length := by
  simp only [Nm.headB, List.length_append, Nm.les_length, List.length_cons, List.length_nil, List.length_replicate]
  unfold Nm.lengthN; rw [if_neg (by omega)]; omega
theorem Nm.word_le4 {a : Nat} (ha : a < 4294967296) : Nm.wordN (UInt8.ofNat a).toNat (UInt8.ofNat (a / 256)).toNat (UInt8.ofNat (a / 65536)).toNat (UInt8.ofNat (a / 16777216)).toNat = a := by
  simp only [Nm.wordN, UInt8.toNat_ofNat']; omega
theorem Nm.head_open (l : List UInt8) (fl a b c : Nat) (more : List UInt8) :
    Nm.headB l fl a b c ++ more = Nm.les [a, b, c] ++ [UInt8.ofNat fl, UInt8.ofNat l.length] ++ (l ++ (List.replicate (Nm.lengthN l.length - (14 + l.length)) 0 ++ more)) := by
  simp only [Nm.headB, List.append_assoc]
theorem Nm.back1 (l : List UInt8) (fl a b c : Nat) (more : List UInt8) (hr : Nm.right l = true) (hl : l.length ≤ 31) (hf : fl ≤ 15) (ha : a < 4294967296) (hb : b < 4294967296) (hc : c < 4294967296) :
    Nm.readV (Nm.headB l fl a b c ++ more) = .tuple #[hv ⟨l.toArray⟩ fl a b c, .int .i64 (Nm.lengthN l.length : Nat), .int .i64 0] := by
  have hln : 14 + l.length ≤ Nm.lengthN l.length ∧ Nm.lengthN l.length ≤ 14 + l.length + 3 := by unfold Nm.lengthN; rw [if_neg (by omega)]; omega
  have hlen : (Nm.headB l fl a b c ++ more).length = Nm.lengthN l.length + more.length := by rw [List.length_append, Nm.headB_length hl]
  rw [Nm.head_open] at hlen ⊢
  generalize hT : l ++ (List.replicate (Nm.lengthN l.length - (14 + l.length)) 0 ++ more) = T at hlen ⊢
  have e13 : Nm.nl (Nm.les [a, b, c] ++ [UInt8.ofNat fl, UInt8.ofNat l.length] ++ T) = l.length := by
    show (UInt8.ofNat l.length).toNat = _
    rw [UInt8.toNat_ofNat']; omega
  have e12 : Nm.flg (Nm.les [a, b, c] ++ [UInt8.ofNat fl, UInt8.ofNat l.length] ++ T) = fl := by
    show (UInt8.ofNat fl).toNat = _
    rw [UInt8.toNat_ofNat']; omega
  have w0 : Nm.wat (Nm.les [a, b, c] ++ [UInt8.ofNat fl, UInt8.ofNat l.length] ++ T) 0 = a := Nm.word_le4 ha
  have w4 : Nm.wat (Nm.les [a, b, c] ++ [UInt8.ofNat fl, UInt8.ofNat l.length] ++ T) 4 = b := Nm.word_le4 hb
  have w8 : Nm.wat (Nm.les [a, b, c] ++ [UInt8.ofNat fl, UInt8.ofNat l.length] ++ T) 8 = c := Nm.word_le4 hc
  have d14 : (Nm.les [a, b, c] ++ [UInt8.ofNat fl, UInt8.ofNat l.length] ++ T).drop 14 = T := rfl
  have hname : Nm.name (Nm.les [a, b, c] ++ [UInt8.ofNat fl, UInt8.ofNat l.length] ++ T) = l := by
    rw [Nm.name, d14, e13, ← hT]; exact List.take_left' rfl
  have hpad : (Nm.pad (Nm.les [a, b, c] ++ [UInt8.ofNat fl, UInt8.ofNat l.length] ++ T)).all (· == 0) = true := by
    rw [Nm.pad, e13, ← List.drop_drop, d14, ← hT, List.drop_left' rfl, List.take_left' (by simp)]
    simp
  have hg : Nm.goodB (Nm.les [a, b, c] ++ [UInt8.ofNat fl, UInt8.ofNat l.length] ++ T) = true := by
    rw [Nm.goodB, e13, e12, hname, hlen, hpad, hr]
    simp; omega
  rw [Nm.readV_good hg, hname, e12, w0, w4, w8, e13]
end Go.Proofs.YtpcpaoeajcjoiaaGreatDoor
