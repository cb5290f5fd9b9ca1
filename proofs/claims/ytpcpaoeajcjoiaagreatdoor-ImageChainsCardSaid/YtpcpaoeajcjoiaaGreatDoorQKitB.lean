/- Texts joined, what is not reached left out. -/
import Derived.WalkKit
import Derived.WalkLawsBesides
import Derived.WalkSpells
import Derived.Lib.Hide
import Derived.Lib.Strings
import Derived.Lib.ConvBytes
import Derived.Lib.AppendStr
import Derived.Deep.AppendSrc
import Derived.Lib.AppendZeros
import Derived.Lib.AppendZerosOnto
/- Bytes in memory: slices of bytes of the call's own, appended to from whatever source. Of no program. -/
namespace Go.Proofs.YtpcpaoeajcjoiaaGreatDoor.Kit
open Go.RowKit
set_option linter.unusedVariables false
set_option linter.unusedSimpArgs false

/-- Bytes as cells. -/
def bv (l : List UInt8) : List Value := l.map fun c => Value.int .u8 c.toNat
theorem bv_length (l : List UInt8) : (bv l).length = l.length := by simp [bv]
theorem bv_append (a b : List UInt8) : bv (a ++ b) = bv a ++ bv b := by simp [bv]
theorem bv_one (l : List UInt8) : ∀ u ∈ bv l, u.oneCell' = true := by
  intro u hu; simp only [bv, List.mem_map] at hu; obtain ⟨_, _, rfl⟩ := hu; rfl

/-- What the walk must know of '[]byte' and its element type. -/
structure ByteTy (P : Program) (t e : TypeId) : Prop where
  slice : P.underlying t = some (.slice e)
  elem : P.underlying e = some (.int .u8)
  info : ∃ i, P.info? e = some i ∧ i.zero = some (.int .u8 0) ∧ i.size = 1 ∧ i.bytes = 1

/-- v is a slice of the call's own (a block from 'base' on) whose elements are the bytes l. -/
def OwnB (e : TypeId) (base : Nat) (w : World) (v : Value) (l : List UInt8) : Prop := w.ownsRow base e 1 v l.length (bv l)

theorem OwnB.nil (e : TypeId) (base : Nat) (w : World) : OwnB e base w (.slice none 0 0) [] := World.ownsRow_nil w base e 1
theorem OwnB.shape {e : TypeId} {base : Nat} {w : World} {v : Value} {l : List UInt8} (h : OwnB e base w v l) :
    (v = .slice none 0 0 ∧ l = []) ∨ ∃ g cap, v = .slice (some ⟨g, 0, none⟩) l.length cap ∧ base ≤ g ∧ g < w.heap.size ∧ l.length ≤ cap ∧ cap ≤ maxLen ∧
      (∀ j, j < l.length → w.cell? ⟨g, j, none⟩ = some (.int .u8 (l.getD j 0).toNat)) ∧ ∀ j, j < cap → w.frozen? ⟨g, j, none⟩ = false ∧ (w.cell? ⟨g, j, none⟩).isSome = true := by
  obtain ⟨h1, h2⟩ := h
  rcases h2 with ⟨rfl, hn⟩ | ⟨g, cap, cur, rfl, hb, hh, hnc, hcm, hcs, htake⟩
  · exact .inl ⟨rfl, List.eq_nil_of_length_eq_zero hn⟩
  · refine .inr ⟨g, cap, rfl, hb, (Array.getElem?_eq_some_iff.1 hh).1, hnc, hcm, fun j hj => ?_, fun j hj => ?_⟩
    · simp only [Nat.mul_one] at htake
      have h3 : (bv l)[j]? = some (.int .u8 (l.getD j 0).toNat) := by
        simp [bv, List.getD, List.getElem?_eq_getElem hj]
      rw [← htake, List.getElem?_take, if_pos hj] at h3
      simp only [World.cell?, hh]
      simpa using h3
    · simp only [Nat.mul_one] at hcs
      refine ⟨by simp [World.frozen?, hh], ?_⟩
      simp only [World.cell?, hh]
      simp [hcs, hj]
theorem OwnB.len {e : TypeId} {base : Nat} {w : World} {v : Value} {l : List UInt8} (h : OwnB e base w v l) {n : Nat} (hn : l.length = n) : ∃ a cap, v = .slice a n cap := by
  rcases h.shape with ⟨rfl, rfl⟩ | ⟨g, cap, rfl, _⟩
  · exact ⟨none, 0, by rw [← hn]; rfl⟩
  · exact ⟨_, cap, by rw [hn]⟩
theorem OwnB.alloc {e : TypeId} {base : Nat} {w : World} {v : Value} {l : List UInt8} (h : OwnB e base w v l) (o : Obj) : OwnB e base (w.alloc o) v l := World.ownsRow.alloc h o
/-- What lies below B lies there still. -/
theorem OwnB.below {e : TypeId} {base B : Nat} {w w' : World} {v : Value} {l : List UInt8} (h : OwnB e base w v l) (hb : Below B w w') (hB : ∀ g, v.ownBlock = some g → g < B) : OwnB e base w' v l := by
  obtain ⟨h1, h2⟩ := h
  refine ⟨h1, ?_⟩
  rcases h2 with h2 | ⟨g, cap, cur, rfl, hb', hh, rest⟩
  · exact .inl h2
  · exact .inr ⟨g, cap, cur, rfl, hb', by rw [hb.block g (hB g rfl)]; exact hh, rest⟩
/-- A world whose heap is as that of w. -/
theorem OwnB.kept {e : TypeId} {base : Nat} {w w' : World} {v : Value} {l : List UInt8} (h : OwnB e base w v l) (hb : Below w.heap.size w w') : OwnB e base w' v l :=
  h.below hb fun g hg => (h.lt g hg).2
theorem OwnB.rebase {e : TypeId} {base base' : Nat} {w : World} {v : Value} {l : List UInt8} (h : OwnB e base w v l) (hb : base' ≤ base) : OwnB e base' w v l := by
  obtain ⟨h1, h2⟩ := h
  refine ⟨h1, ?_⟩
  rcases h2 with h2 | ⟨g, cap, cur, rfl, hb', rest⟩
  · exact .inl h2
  · exact .inr ⟨g, cap, cur, rfl, Nat.le_trans hb hb', rest⟩

/-- A slice that was built just now is the call's own. -/
theorem OwnB.built (w : World) (e : TypeId) (arr : Array Value) (l : List UInt8) (h : arr.toList = bv l) (hm : l.length ≤ maxLen) {base : Nat} (hb : base ≤ w.heap.size) :
    OwnB e base (w.alloc (.cells arr e)) (.slice (some ⟨w.heap.size, 0, none⟩) l.length l.length) l := by
  have hs : arr.size = l.length := by rw [← Array.length_toList, h, bv_length]
  exact ⟨by simp [bv_length], .inr ⟨w.heap.size, l.length, arr, rfl, hb, heap_alloc_new w _, Nat.le_refl _, hm, by omega, by rw [h, Nat.mul_one, ← bv_length, List.take_length]⟩⟩

/-- v reads as the bytes l. -/
def RdB (w : World) (v : Value) (l : List UInt8) : Prop :=
  (∃ a c, v = .slice a 0 c ∧ l = []) ∨ ∃ g off cap, v = .slice (some ⟨g, off, none⟩) l.length cap ∧ g < w.heap.size ∧ l.length ≤ cap ∧ cap ≤ maxLen ∧ ∀ j, j < l.length → w.cell? ⟨g, off + j, none⟩ = some (.int .u8 (l.getD j 0).toNat)
theorem OwnB.rd {e : TypeId} {base : Nat} {w : World} {v : Value} {l : List UInt8} (h : OwnB e base w v l) : RdB w v l := by
  rcases h.shape with ⟨rfl, rfl⟩ | ⟨g, cap, rfl, _, hg, hlc, hcm, hc, _⟩
  · exact .inl ⟨none, 0, rfl, rfl⟩
  · exact .inr ⟨g, 0, cap, rfl, hg, hlc, hcm, by simpa using hc⟩
theorem RdB.below {w w' : World} {v : Value} {l : List UInt8} (h : RdB w v l) (hb : Below w.heap.size w w') : RdB w' v l := by
  rcases h with h | ⟨g, off, cap, rfl, hg, hlc, hcm, hc⟩
  · exact .inl h
  · exact .inr ⟨g, off, cap, rfl, Nat.lt_of_lt_of_le hg hb.size, hlc, hcm, fun j hj => by rw [hb.cell (p := ⟨g, off + j, none⟩) hg]; exact hc j hj⟩

theorem addr_add (g off j : Nat) : (⟨g, off, none⟩ : Addr).add j = ⟨g, off + j, none⟩ := by unfold Addr.add; split <;> simp_all

/-- 'string(b)'. -/
theorem run_string_of {P : Program} {t e dst : TypeId} (bt : ByteTy P t e) (hd : P.underlying dst = some .string) {w : World} {v : Value} {l : List UInt8} (h : RdB w v l) :
    (convert t dst v).run P w = .ok (.string ⟨l.toArray⟩) w := by
  rcases h with ⟨a, c, rfl, rfl⟩ | ⟨g, off, cap, rfl, hg, _, _, hc⟩
  · cases a with
    | none => exact run_convert_bytes_nil (w := w) t e bt.slice bt.elem 0 c dst hd
    | some a => exact run_convert_bytes_back w t dst e a c [] bt.slice bt.elem hd fun j hj => by simp at hj
  · refine run_convert_bytes_back w t dst e ⟨g, off, none⟩ cap l bt.slice bt.elem hd fun j hj => ?_
    rw [addr_add, hc j hj]
    simp [List.getD, List.getElem?_eq_getElem hj]

theorem RdB.length {w : World} {v : Value} {l : List UInt8} (h : RdB w v l) : ∃ a cap, v = .slice a l.length cap := by
  rcases h with ⟨a, c, rfl, rfl⟩ | ⟨g, off, cap, rfl, _⟩
  · exact ⟨a, c, rfl⟩
  · exact ⟨_, cap, rfl⟩

/-- 'b[lo:hi]': what it yields, and how that reads. -/
theorem slice_rd {P : Program} {t e : TypeId} (bt : ByteTy P t e) (g off len cap lo hi : Nat) (h1 : lo ≤ hi) (h2 : hi ≤ cap) :
    ∃ v2, (∀ (l h : Int), l = lo → h = hi → ∀ W, (Instr.slice t (.slice (some ⟨g, off, none⟩) len cap) (some (.int .i64 l)) (some (.int .i64 h)) none).run P W = .ok v2 W) ∧
      ∀ W (L : List UInt8), L.length = len → hi ≤ len → len ≤ cap → cap ≤ maxLen → g < W.heap.size → (∀ j, j < L.length → W.cell? ⟨g, off + j, none⟩ = some (.int .u8 (L.getD j 0).toNat)) → RdB W v2 ((L.drop lo).take (hi - lo)) := by
  have helem : P.elem t = e := by simp [Program.elem, bt.slice]
  have ht : P.underlying t = some (.slice (P.elem t)) := by rw [helem]; exact bt.slice
  obtain ⟨i, hi', hz, hs1, hb1⟩ := bt.info
  refine ⟨sliced (some ⟨g, off, none⟩) lo hi cap 1, ?_, ?_⟩
  · rintro l h rfl rfl W
    have hsz : (sizeOf (P.elem t)).run P W = .ok 1 W := by rw [helem]; simp [sizeOf, typeInfo, hi', hs1]
    rw [run_slice_lh (w := W) t _ _ _ ht .i64 .i64 lo hi (by omega) (by omega) (by omega), hsz]
    simp
  · intro W L hL hhi hlc hcm hg hc
    have hlen : ((L.drop lo).take (hi - lo)).length = hi - lo := by simp; omega
    unfold sliced
    by_cases hcl : cap = lo
    · refine .inr ⟨g, off, cap - lo, by rw [if_pos hcl, hlen], hg, by rw [hlen]; omega, by omega, fun j hj => ?_⟩
      rw [hlen] at hj; omega
    · refine .inr ⟨g, off + lo, cap - lo, by rw [if_neg hcl, hlen]; simp [addr_add], hg, by rw [hlen]; omega, by omega, fun j hj => ?_⟩
      rw [hlen] at hj
      rw [Nat.add_assoc, hc (lo + j) (by omega)]
      congr 3
      simp [List.getD, List.getElem?_take, hj]

end Go.Proofs.YtpcpaoeajcjoiaaGreatDoor.Kit
