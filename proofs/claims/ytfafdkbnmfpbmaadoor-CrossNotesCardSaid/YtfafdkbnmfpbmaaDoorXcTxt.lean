/- The text: what it reads and writes. -/
import Derived.Test.YtfafdkbnmfpbmaaDoorBdF
import Derived.Test.YtfafdkbnmfpbmaaDoorXcMem
import Derived.Test.YtfafdkbnmfpbmaaDoorXcPlain
namespace Go.Proofs.YtfafdkbnmfpbmaaDoor
open Go.RowKit Kit
set_option linter.unusedVariables false
set_option linter.unusedSimpArgs false

/-- The text so far, between two words. -/
def TxO (w : World) (b : Nat) (l : List UInt8) (W : World) : Prop := (∃ F, BdF F b l W ∧ ∀ k, F k → w.heap.size ≤ k) ∧ Below w.heap.size w W
/-- The text so far, in a round whose word's box is g. -/
structure TxG (w : World) (b g : Nat) (cs : Array Value) (l : List UInt8) (W : World) : Prop where
  has : ∃ F, BdF F b l W ∧ ¬ F g ∧ ∀ k, F k → w.heap.size ≤ k
  box : Bk W g 89 cs
  blo : Below w.heap.size w W
theorem TxG.out {w W : World} {b g : Nat} {cs : Array Value} {l : List UInt8} (h : TxG w b g cs l W) : TxO w b l W := by
  obtain ⟨F, h1, h2, h3⟩ := h.has
  exact ⟨⟨F, h1, h3⟩, h.blo⟩
theorem TxG.bd {w W : World} {b g : Nat} {cs : Array Value} {l : List UInt8} (h : TxG w b g cs l W) : Bd 0 b l W := by
  obtain ⟨F, h1, h2, h3⟩ := h.has
  exact h1.bd
theorem TxO.bd {w W : World} {b : Nat} {l : List UInt8} (h : TxO w b l W) : Bd 0 b l W := by
  obtain ⟨⟨F, h1, h3⟩, _⟩ := h
  exact h1.bd
theorem TxO.start (w : World) : TxO w w.heap.size [] (w.alloc (.cells #[.pointer none, .slice none 0 0] 112)) :=
  ⟨⟨fun k => k = w.heap.size, BdF.fresh _ w rfl (fun k e => by subst e; exact Nat.lt_succ_self _), fun k e => by rw [e]; exact Nat.le_refl _⟩, (Below.refl _ _).alloc (Nat.le_refl _) _⟩
theorem TxO.enter {w W : World} {b : Nat} {l : List UInt8} (h : TxO w b l W) (cs : Array Value) : TxG w b W.heap.size cs l (W.alloc (.cells cs 89)) := by
  obtain ⟨⟨F, h1, h3⟩, h4⟩ := h
  have hal : Below W.heap.size W (W.alloc (.cells cs 89)) := (Below.refl _ _).alloc (Nat.le_refl _) _
  exact ⟨⟨F, h1.kept hal, fun e => absurd (h1.2.2 _ e) (Nat.lt_irrefl _), h3⟩, Bk.fresh W _ cs, h4.trans (hal.mono h4.size)⟩
theorem TxG.kept {w W W' : World} {b g : Nat} {cs : Array Value} {l : List UInt8} (h : TxG w b g cs l W) (hb : Below W.heap.size W W') : TxG w b g cs l W' := by
  obtain ⟨F, h1, h2, h3⟩ := h.has
  exact ⟨⟨F, h1.kept hb, h2, h3⟩, h.box.kept hb, h.blo.trans (hb.mono h.blo.size)⟩
theorem TxG.go {w W W' : World} {b g : Nat} {cs : Array Value} {l l' : List UInt8} {F F' : Nat → Prop} (h : TxG w b g cs l W) (h2 : ¬ F g) (h3 : ∀ k, F k → w.heap.size ≤ k) (k1 : BdF F' b l' W') (k2 : Step F W F' W') : TxG w b g cs l' W' :=
  ⟨⟨F', k1, fun e => (k2.new g e).elim h2 (fun q => absurd h.box.lt (by omega)), k2.later h3 h.blo.size⟩, k2.fr.bk h.box h2, h.blo.trans (k2.below h3 h.blo.size)⟩
theorem TxG.write {w W : World} {b g : Nat} {cs : Array Value} {l : List UInt8} (h : TxG w b g cs l W) (s : List UInt8) (hlen : l.length + s.length ≤ 140737488355328) :
    Calls Tryd.prog 57 #[.pointer (some ⟨b, 0, none⟩), .string ⟨s.toArray⟩] W fun e w' => e = .returned (.tuple #[.int .i64 s.length, .nilIface]) ∧ TxG w b g cs (l ++ s) w' := by
  obtain ⟨F, h1, h2, h3⟩ := h.has
  refine (bfwrite_any h1 s hlen).mono ?_
  rintro e w' ⟨he, F', k1, k2⟩
  exact ⟨he, h.go h2 h3 k1 k2⟩
theorem TxG.byte {w W : World} {b g : Nat} {cs : Array Value} {l : List UInt8} (h : TxG w b g cs l W) (x : UInt8) (hlen : l.length + 1 ≤ 140737488355328) :
    Calls Tryd.prog 59 #[.pointer (some ⟨b, 0, none⟩), .int .u8 x.toNat] W fun e w' => e = .returned .nilIface ∧ TxG w b g cs (l ++ [x]) w' := by
  obtain ⟨F, h1, h2, h3⟩ := h.has
  refine (bfbyte_any h1 x hlen).mono ?_
  rintro e w' ⟨he, F', k1, k2⟩
  exact ⟨he, h.go h2 h3 k1 k2⟩
theorem Xc.lines_len (ls : List (List UInt8)) : (ls.flatMap fun l => l ++ [10]).length = Xc.lsum ls := by
  induction ls with
  | nil => rfl
  | cons x t ih => rw [List.flatMap_cons, List.length_append, ih, Xc.lsum_cons, List.length_append]; rfl
theorem Xc.text_cons (x : Xc.W) (t : List Xc.W) : Xc.text (x :: t) = Xc.textW x ++ Xc.text t := List.flatMap_cons
theorem Xc.text_snoc (t : List Xc.W) (x : Xc.W) : Xc.text (t ++ [x]) = Xc.text t ++ Xc.textW x := by simp [Xc.text]
theorem Xc.flags_one {n : Nat} (h : n < 8) : (Lib.decDigits n).length = 1 := by
  rw [Lib.decDigits, dif_pos (by omega)]; rfl
theorem Xc.textW_len {x : Xc.W} (h : x.flags < 8) : (Xc.textW x).length ≤ Xc.wt x := by
  have h1 := Xc.lines_len x.lines
  have h2 := Xc.flags_one h
  unfold Xc.textW Xc.wt
  rw [List.length_append, h1]
  by_cases e : x.first = []
  · rw [if_pos e]; simp
  · rw [if_neg e]
    cases Lib.hasPrefix x.first Xc.lDef
    · simp <;> omega
    · simp [h2] <;> omega
theorem Xc.text_len : ∀ {ws : List Xc.W}, (∀ x ∈ ws, x.flags < 8) → (Xc.text ws).length ≤ Xc.weight ws
  | [], _ => Nat.zero_le _
  | x :: t, h => by
    have h1 := Xc.textW_len (h x (by simp))
    have h2 := Xc.text_len (ws := t) fun y hy => h y (by simp [hy])
    have : Xc.weight (x :: t) = Xc.wt x + Xc.weight t := by simp [Xc.weight]
    rw [Xc.text_cons, List.length_append, this]
    omega
end Go.Proofs.YtfafdkbnmfpbmaaDoor
