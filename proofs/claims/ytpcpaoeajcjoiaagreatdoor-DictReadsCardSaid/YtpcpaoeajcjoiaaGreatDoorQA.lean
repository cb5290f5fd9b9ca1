/- Texts joined, what is not reached left out. -/
import Derived.Lib.Strings
import Derived.Test.YtpcpaoeajcjoiaaGreatDoorRows
import Derived.Test.YtpcpaoeajcjoiaaGreatDoorKA
import Derived.StillTailTactics
import Derived.BigQuiet
import Derived.Laws.BitsAllLaws
import Derived.Deep.RegionLaw
import Derived.Deep.RegionHeld3
import Derived.Outline
import Derived.Deep.RegionWith
import Derived.Laws.MakeOwn
set_option linter.unusedVariables false
set_option linter.unusedSimpArgs false
namespace Go.Proofs.YtpcpaoeajcjoiaaGreatDoor.Mm
def hits (hs : List (Nat × Nat)) (a n : Nat) : Bool := hs.any fun h => decide (h.1 < h.2) && (decide (h.1 ≤ a + n - 1) && decide (a < h.2))
def ask (len : Nat) (hs : List (Nat × Nat)) (a : Nat) (n : Int) : Int :=
 if ¬(n = 1 ∨ n = 2 ∨ n = 4) then 1 else if a % n.toNat ≠ 0 then 31 else if len < a + n.toNat then 30 else if hits hs a n.toNat = true then 30 else 0
def val : List UInt8 → Nat
 | [] => 0
 | c :: t => c.toNat + 256 * val t
def put (b : List UInt8) (a : Nat) (l : List UInt8) : List UInt8 := b.take a ++ (l ++ b.drop (a + l.length))
def get (b : List UInt8) (a n : Nat) : List UInt8 := (b.drop a).take n
theorem put_length (b : List UInt8) (a : Nat) (l : List UInt8) (h : a + l.length ≤ b.length) : (put b a l).length = b.length := by
 simp [put]; omega
theorem get_length (b : List UInt8) (a n : Nat) (h : a + n ≤ b.length) : (get b a n).length = n := by
 simp [get]; omega
theorem put_nil (b : List UInt8) (a : Nat) : put b a [] = b := by simp [put]
theorem get_getD (b : List UInt8) (a n j : Nat) (h : j < n) : (get b a n).getD j 0 = b.getD (a + j) 0 := by
 simp only [get, List.getD, List.getElem?_take, h, if_true, List.getElem?_drop]
end Go.Proofs.YtpcpaoeajcjoiaaGreatDoor.Mm
namespace Go.Proofs.YtpcpaoeajcjoiaaGreatDoor
open Go.RowKit Kit
theorem mret_bool {a b : Bool} (h : a = b) : Ending.returned (.bool a) = .returned (.bool b) := by rw [h]
theorem mbt : ByteTy Tryz.prog 26 5 :=
 ⟨Tryz.underlying26, Tryz.underlying5, by
  have h : (Tryz.prog.info? 5).map (fun i => (i.zero, i.size, i.bytes)) = some (some (.int .u8 0), 1, 1) := by kernel_rfl
  obtain ⟨i, h1, h2, h3, h4⟩ := info_parts h
  exact ⟨i, h1, h2, h3, h4⟩⟩
def Mm.hc (hs : List (Nat × Nat)) : List Value := hs.flatMap fun h => [.int .u32 h.1, .int .u32 h.2]
theorem Mm.hc_one (hs : List (Nat × Nat)) : ∀ u ∈ Mm.hc hs, u.oneCell' = true := by
 intro u hu
 simp only [Mm.hc, List.mem_flatMap, List.mem_cons, List.not_mem_nil, or_false] at hu
 obtain ⟨h, _, rfl | rfl⟩ := hu <;> rfl
theorem Mm.hc_at (hs : List (Nat × Nat)) (j : Nat) (hj : j < hs.length) : (Mm.hc hs)[j * 2]? = some (.int .u32 (hs.getD j (0, 0)).1) ∧ (Mm.hc hs)[j * 2 + 1]? = some (.int .u32 (hs.getD j (0, 0)).2) := by
 induction hs generalizing j with
 | nil => simp at hj
 | cons h t ih =>
  cases j with
  | zero => simp [Mm.hc]
  | succ j =>
   have := ih j (by simpa using hj)
   simp only [Mm.hc, List.flatMap_cons, List.getD_cons_succ] at this ⊢
   rw [show (j + 1) * 2 = j * 2 + 2 by omega, show j * 2 + 2 + 1 = (j * 2 + 1) + 2 by omega, List.getElem?_append_right (by simp), List.getElem?_append_right (by simp)]
   simpa using this
structure OwnM (w : World) (gm gb : Nat) (b : List UInt8) (hs : List (Nat × Nat)) : Prop where
 obj : ∃ hv cap, Bk w gm 86 #[.slice (some ⟨gb, 0, none⟩) b.length cap, hv] ∧ Rw w gb 5 cap b ∧ cap ≤ maxLen ∧ Rd w 2 hv hs.length (Mm.hc hs) ∧ Off hv gb
 lo : 4 ≤ b.length
 hi : b.length ≤ 1048576
 few : hs.length ≤ 16
 small : ∀ j, j < hs.length → (hs.getD j (0, 0)).1 < 4294967296 ∧ (hs.getD j (0, 0)).2 < 4294967296
theorem OwnM.cells {w : World} {gm gb : Nat} {b : List UInt8} {hs : List (Nat × Nat)} (h : OwnM w gm gb b hs) :
  ∃ A c cap, w.cell? ⟨gm, 0, none⟩ = some (.slice (some ⟨gb, 0, none⟩) b.length cap) ∧ w.cell? ⟨gm, 1, none⟩ = some (.slice A hs.length c) ∧ Rw w gb 5 cap b ∧ cap ≤ maxLen ∧ gm < w.heap.size ∧ gm ≠ gb := by
 obtain ⟨hv, cap, h1, h2, h3, h4, _⟩ := h.obj
 obtain ⟨A, c, rfl⟩ := h4.form
 exact ⟨A, c, cap, h1.cell 0, h1.cell 1, h2, h3, h1.lt, h2.ne h1 (by decide)⟩
theorem mq34 (w : World) (a : Option Addr) (n c : Nat) : (binOp .eql 26 (.slice a n c) (.slice none 0 0)).run Tryz.prog w = .ok (.bool a.isNone) w := Lib.run_eql_slice_nil w _ _ a n c 0 0 Tryz.underlying26
theorem none_own (w : World) (gm gb n c : Nat) (h : w.cell? ⟨gm, 0, none⟩ = some (.slice (some ⟨gb, 0, none⟩) n c)) :
  Calls Tryz.prog 79 #[.pointer (some ⟨gm, 0, none⟩)] w fun e w' => e = .returned (.bool false) ∧ w = w' := by
 have hq := mq34
 go_enter Tryz.func79, Tryz.ntmps79
 go_wp2
 go_ret
 exact ⟨rfl, rfl⟩
def Mm.thereB (len a : Nat) (n : Int) : Bool := decide (0 ≤ n ∧ n ≤ len ∧ (a : Int) ≤ len - n)
theorem there_own (w : World) (gm gb len c a : Nat) (n : Int) (hl : len ≤ 1048576) (ha : a < 4294967296) (h : w.cell? ⟨gm, 0, none⟩ = some (.slice (some ⟨gb, 0, none⟩) len c)) :
  Calls Tryz.prog 80 #[.pointer (some ⟨gm, 0, none⟩), .int .u32 a, .int .i64 n] w fun e w' => e = .returned (.bool (Mm.thereB len a n)) ∧ w = w' := by
 by_cases h1 : 0 ≤ n
 ·by_cases h2 : n ≤ len
  ·have HT : Hid (Mm.thereB len a n = decide ((a : Int) ≤ len - n)) := by simp [Hid, Mm.thereB, h1, h2]
   go_enter Tryz.func80, Tryz.ntmps80
   go_wp2
   go_ret
   refine ⟨mret_bool ?_, rfl⟩
   rw [HT.out]
  ·have HT : Hid (Mm.thereB len a n = false) := by simp [Hid, Mm.thereB, h1, h2]
   go_enter Tryz.func80, Tryz.ntmps80
   go_wp2
   go_ret
   exact ⟨mret_bool HT.out.symm, rfl⟩
 ·have HT : Hid (Mm.thereB len a n = false) := by simp [Hid, Mm.thereB, h1]
  go_enter Tryz.func80, Tryz.ntmps80
  go_wp2
  go_ret
  exact ⟨mret_bool HT.out.symm, rfl⟩
end Go.Proofs.YtpcpaoeajcjoiaaGreatDoor
namespace Go.Proofs.YtpcpaoeajcjoiaaGreatDoor
open Go.RowKit Kit
theorem OwnM.kept {w w' : World} {gm gb : Nat} {b : List UInt8} {hs : List (Nat × Nat)} (h : OwnM w gm gb b hs) (hb : Below w.heap.size w w') : OwnM w' gm gb b hs := by
 obtain ⟨hv, cap, h1, h2, h3, h4, h5⟩ := h.obj
 exact ⟨⟨hv, cap, h1.kept hb, h2.kept hb, h3, h4.kept hb, h5⟩, h.lo, h.hi, h.few, h.small⟩
def OffM (w : World) (t : TypeId) (gm g : Nat) : Prop := ∀ x hv, Bk w gm t #[x, hv] → Off hv g
theorem OffM.same {w w' : World} {t : TypeId} {gm g : Nat} (h : OffM w t gm g) (e : w'.heap[gm]? = w.heap[gm]?) : OffM w' t gm g := fun x hv hb => h x hv (e.symm.trans hb)
theorem OwnM.but {w w' : World} {gm gb g : Nat} {b : List UInt8} {hs : List (Nat × Nat)} (h : OwnM w gm gb b hs) (hb : But g w w') (h1 : gm ≠ g) (h2 : gb ≠ g) (h3 : OffM w 86 gm g) : OwnM w' gm gb b hs := by
 obtain ⟨hv, cap, k1, k2, k3, k4, k5⟩ := h.obj
 exact ⟨⟨hv, cap, hb.bk k1 h1, k2.but hb h2, k3, k4.but hb (h3 _ hv k1), k5⟩, h.lo, h.hi, h.few, h.small⟩
theorem OwnM.wrote {w w' : World} {gm gb : Nat} {b b' : List UInt8} {hs : List (Nat × Nat)} (h : OwnM w gm gb b hs) (hb : But gb w w') (hl : b'.length = b.length) (hd : ∀ cap, Rw w gb 5 cap b → Rw w' gb 5 cap b') : OwnM w' gm gb b' hs := by
 obtain ⟨hv, cap, k1, k2, k3, k4, k5⟩ := h.obj
 have hne : gm ≠ gb := k2.ne k1 (by decide)
 exact ⟨⟨hv, cap, by rw [hl]; exact hb.bk k1 hne, hd cap k2, k3, k4.but hb k5, k5⟩, by rw [hl]; exact h.lo, by rw [hl]; exact h.hi, h.few, h.small⟩
theorem Rw.uniq {w : World} {g cap cap' : Nat} {t : TypeId} {b b' : List UInt8} (h : Rw w g t cap b) (h' : Rw w g t cap' b') : cap = cap' := by
 obtain ⟨cur, h1, h2, _⟩ := h
 obtain ⟨cur', h1', h2', _⟩ := h'
 have := (h1.uniq h1').2
 have e : cur = cur' := by simpa using this
 rw [← h2, ← h2', e]
end Go.Proofs.YtpcpaoeajcjoiaaGreatDoor
namespace Go.Proofs.YtpcpaoeajcjoiaaGreatDoor
open Go.RowKit Kit
end Go.Proofs.YtpcpaoeajcjoiaaGreatDoor
namespace Go.Proofs.YtpcpaoeajcjoiaaGreatDoor
open Go.RowKit Kit
theorem mrt : RowTy Tryz.prog 84 234 2 8 :=
 ⟨Tryz.underlying84, by
  have h : (Tryz.prog.info? 234).map (fun i => (i.zero, i.size, i.bytes)) = some (some (.agg #[.int .u32 0, .int .u32 0]), 2, 8) := by kernel_rfl
  obtain ⟨i, h1, h2, h3, h4⟩ := info_parts h
  exact ⟨i, _, h1, h2, h3, h4, rfl⟩⟩
theorem mq29 (w : World) (a : Option Addr) (n c : Nat) : (binOp .eql 84 (.slice a n c) (.slice none 0 0)).run Tryz.prog w = .ok (.bool a.isNone) w := Lib.run_eql_slice_nil w _ _ a n c 0 0 Tryz.underlying84
theorem cloneB (w : World) (a : Addr) (n c : Nat) (l : List UInt8) (h : RdB w (.slice (some a) n c) l) (hl : l.length ≤ 140737488355328) :
  Calls Tryz.prog 81 #[.slice (some a) n c] w fun e w' => ∃ v', e = .returned v' ∧ OwnB 5 w.heap.size w' v' l ∧ Below w.heap.size w w' := by
 have hq := mq34
 go_enter Tryz.func81, Tryz.ntmps81
 go_wp2_with (at_builtin; refine wpList_appendB rfl _ _ _ _ rfl mbt w.heap.size _ rfl [] (OwnB.built w 5 #[] [] rfl (Nat.zero_le _) (Nat.le_refl _)) _ rfl l (src_of_rd mbt (h.below ((Below.refl w.heap.size w).alloc (Nat.le_refl _) _))) (by simpa using hl) (by simp) ?_; intro v3 w3 ho3 hb3 _)
 go_ret
 exact ⟨v3, rfl, by simpa using ho3, ((Below.refl w.heap.size w).alloc (Nat.le_refl _) _).trans hb3⟩
theorem cloneH (w : World) (v : Value) (n : Nat) (xs : List Value) (h : Rd w 2 v n xs) (hn : n ≤ 16) (h1 : ∀ u ∈ xs, u.oneCell' = true) :
  Calls Tryz.prog 129 #[v] w fun e w' => ∃ v', e = .returned v' ∧ Rd w' 2 v' n xs ∧ (∀ g, g < w.heap.size → Off v' g) ∧ Below w.heap.size w w' := by
 have hq := mq29
 obtain ⟨A, c, rfl⟩ := h.form
 cases A with
 | none =>
  have h0 : n = 0 := by
   obtain ⟨_, A, c, e, _, _, h4⟩ := h
   rcases Nat.eq_zero_or_pos n with h0 | h0
   ·exact h0
   ·obtain ⟨g, off, hA, _⟩ := h4 h0
    injection e with e; subst e; cases hA
  obtain ⟨hl, _⟩ := h
  subst h0
  obtain rfl : xs = [] := List.eq_nil_of_length_eq_zero (by simpa using hl)
  go_enter Tryz.func129, Tryz.ntmps129
  go_wp2
  go_ret
  exact ⟨_, rfl, Rd.nil _ _, fun g _ k off n c e => by simp at e, Below.refl _ _⟩
 | some a =>
  have hs := Lib.hid (fun W hb => Rd.src mrt (Rd.kept h (w' := W) hb) h1)
  have hb1 := Lib.hid ((Below.refl w.heap.size w).alloc (Nat.le_refl _) (.cells #[] 234))
  clear h h1
  go_enter Tryz.func129, Tryz.ntmps129
  go_wp2_with (at_builtin; refine wpList_append_new rfl _ _ _ _ rfl mrt (by decide) _ rfl _ rfl n xs (hs.out _ hb1.out) (by unfold maxLen; omega) (by omega) ?_; intro v3 w3 hr3 hb3 ho3 h03)
  go_ret
  refine ⟨v3, rfl, hr3, fun g hg => ?_, hb1.out.trans (hb3.mono (by simp))⟩
  intro k off n' c' e hn'
  by_cases h0 : 0 < n
  ·have := ho3 h0
   rcases this.2 with ⟨_, hn0⟩ | ⟨g', cap, cur, e', hge, _⟩
   ·omega
   ·rw [e'] at e
    simp at e
    simp at hge
    omega
  ·have := (h03 (by omega)).1
   rw [this] at e
   simp at e
   omega
theorem size_own (w : World) (gm gb : Nat) (b : List UInt8) (hs : List (Nat × Nat)) (h : OwnM w gm gb b hs) :
  Calls Tryz.prog 70 #[.pointer (some ⟨gm, 0, none⟩)] w fun e w' => e = .returned (.int .i64 b.length) ∧ w = w' := by
 obtain ⟨A, c, cap, c0, c1, -⟩ := h.cells
 have hN := Lib.hid (none_own w gm gb _ _ c0)
 clear c1 h
 generalize b.length = len at *
 go_enter Tryz.func70, Tryz.ntmps70
 go_wp2_with (go_at_call 79; refine hN.out.mono ?_; rintro e w' ⟨rfl, rfl⟩)
 go_ret
 exact ⟨rfl, rfl⟩
def Mm.putE (len a n : Nat) : Int := if a + n ≤ len then 0 else 30
def Mm.putB (b : List UInt8) (a : Nat) (l : List UInt8) : List UInt8 := if a + l.length ≤ b.length then Mm.put b a l else b
theorem Mm.thereB_nat (len a n : Nat) : Mm.thereB len a n = decide (a + n ≤ len) := by
 unfold Mm.thereB; rw [Bool.eq_iff_iff]; simp; omega
set_option maxRecDepth 20000 in
theorem put_own (w : World) (gm gb : Nat) (b : List UInt8) (hs : List (Nat × Nat)) (a : Nat) (v : Value) (l : List UInt8) (ha : a < 4294967296) (h : OwnM w gm gb b hs) (hv : RdB w v l) (hvm : l.length ≤ maxLen) :
  Calls Tryz.prog 69 #[.pointer (some ⟨gm, 0, none⟩), .int .u32 a, v] w fun e w' => e = .returned (.int .i64 (Mm.putE b.length a l.length)) ∧ OwnM w' gm gb (Mm.putB b a l) hs ∧ But gb w w' := by
 obtain ⟨A, c, cap, c0, c1, hrw, hcm, hgm, hne⟩ := h.cells
 have hcap := hrw.le
 have HRW := Lib.hid hrw
 have hhi := h.hi
 have hN := Lib.hid (none_own w gm gb _ _ c0)
 have hT := there_own w gm gb _ _ a l.length h.hi ha c0
 rw [Mm.thereB_nat] at hT
 unfold maxLen at hvm
 obtain ⟨Al, cl, rfl⟩ := hv.length
 have HV := Lib.hid hv
 have HM := Lib.hid h
 clear c1 h hv hrw
 by_cases hin : a + l.length ≤ b.length
 ·have e1 : Mm.putE b.length a l.length = 0 := by unfold Mm.putE; rw [if_pos hin]
  have e2 : Mm.putB b a l = Mm.put b a l := by unfold Mm.putB; rw [if_pos hin]
  rw [e1, e2]
  rw [show decide (a + l.length ≤ b.length) = true by simpa using hin] at hT
  have HT := Lib.hid hT
  have hab : (a : Int) ≤ b.length := by omega
  have hbi : (b.length : Int) ≤ 1048576 := by omega
  clear hT e1 e2
  have HPL := Lib.hid (show (Mm.put b a l).length = b.length from Mm.put_length _ _ _ hin)
  by_cases hl0 : cap = a
  ·have hl : l = [] := List.eq_nil_of_length_eq_zero (by omega)
   have hba : b.length = a := by omega
   subst hl
   have HP := Lib.hid (show Mm.put b a [] = b from Mm.put_nil b a)
   have hcn := fun W => run_copy_none (P := Tryz.prog) W 26 26 3 5 (some ⟨gb, 0, none⟩) Al 0 0 0 cl mbt.slice (by kernel_rfl) rfl
   simp only [List.length_nil] at HV HT
   generalize b.length = len at *
   subst hl0 hba
   go_enter Tryz.func69, Tryz.ntmps69
   go_wp2_with (first | (go_at_call 79; refine hN.out.mono ?_; rintro e w' ⟨rfl, rfl⟩) | (go_at_call 80; refine HT.out.mono ?_; rintro e w' ⟨rfl, rfl⟩))
   go_ret
   exact ⟨rfl, by rw [HP.out]; exact HM.out, But.of_below (Below.refl _ _)⟩
  ·have HF := Lib.hid (show a + min l.length (b.length - a) ≤ b.length by omega)
   have HP := Lib.hid (show lay b a (l.take (b.length - a)) = Mm.put b a l by
    rw [List.take_of_length_le (by omega)]; rfl)
   generalize hbl : b.length = len at *
   have HBL := Lib.hid hbl
   clear hbl
   generalize hll : l.length = ll at *
   have HLL := Lib.hid hll
   clear hll
   go_enter Tryz.func69, Tryz.ntmps69
   go_wp2_with (first | (go_at_call 79; refine hN.out.mono ?_; rintro e w' ⟨rfl, rfl⟩) | (go_at_call 80; refine HT.out.mono ?_; rintro e w' ⟨rfl, rfl⟩) | (refine wpList_copyB rfl (.tmp 22) (.tmp 23) 26 26 rfl mbt gb a (len - a) (cap - a) cap rfl _ rfl b l 5 HRW.out HV.out (by have h1 := HF.out; have h2 := HBL.out; have h3 := HLL.out; omega) ?_; intro w2 hg2 hbut2))
   go_ret
   rw [HP.out] at hg2
   exact ⟨rfl, HM.out.wrote hbut2 (by rw [HPL.out, HBL.out]) (fun cap' hc => by rw [Rw.uniq hc HRW.out]; exact hg2), hbut2⟩
 ·have e1 : Mm.putE b.length a l.length = 30 := by unfold Mm.putE; rw [if_neg hin]
  have e2 : Mm.putB b a l = b := by unfold Mm.putB; rw [if_neg hin]
  rw [e1, e2]
  rw [show decide (a + l.length ≤ b.length) = false by simpa using hin] at hT
  have HT := Lib.hid hT
  clear hT e1 e2
  generalize b.length = len at *
  generalize l.length = ll at *
  go_enter Tryz.func69, Tryz.ntmps69
  go_wp2_with (first | (go_at_call 79; refine hN.out.mono ?_; rintro e w' ⟨rfl, rfl⟩) | (go_at_call 80; refine HT.out.mono ?_; rintro e w' ⟨rfl, rfl⟩))
  go_ret
  exact ⟨rfl, HM.out, But.of_below (Below.refl _ _)⟩
end Go.Proofs.YtpcpaoeajcjoiaaGreatDoor
namespace Go.Proofs.YtpcpaoeajcjoiaaGreatDoor
open Go.RowKit Kit
def Mm.bytesL (b : List UInt8) (a : Nat) (n : Int) : List UInt8 := if 0 ≤ n ∧ (a : Int) + n ≤ b.length then Mm.get b a n.toNat else []
theorem bytes_own (w : World) (gm gb : Nat) (b : List UInt8) (hs : List (Nat × Nat)) (a : Nat) (n : Int) (ha : a < 4294967296) (h : OwnM w gm gb b hs) :
  Calls Tryz.prog 37 #[.pointer (some ⟨gm, 0, none⟩), .int .u32 a, .int .i64 n] w fun e w' => ∃ v', e = .returned v' ∧ OwnB 5 w.heap.size w' v' (Mm.bytesL b a n) ∧ Below w.heap.size w w' := by
 obtain ⟨A, c, cap, c0, c1, hrw, hcm, hgm, hne⟩ := h.cells
 have hcap := hrw.le
 have HRW := Lib.hid hrw
 have hhi := h.hi
 have hN := Lib.hid (none_own w gm gb _ _ c0)
 have hT := there_own w gm gb _ _ a n h.hi ha c0
 have HM := Lib.hid h
 clear c1 h hrw
 by_cases hin : 0 ≤ n ∧ (a : Int) + n ≤ b.length
 ·obtain ⟨h0, h1⟩ := hin
  obtain ⟨k, rfl⟩ := Int.eq_ofNat_of_zero_le h0
  have e2 : Mm.bytesL b a k = Mm.get b a k := by unfold Mm.bytesL; rw [if_pos ⟨h0, h1⟩, Int.toNat_natCast]
  rw [e2]
  rw [Mm.thereB_nat, show decide (a + k ≤ b.length) = true by simp; omega] at hT
  have HT := Lib.hid hT
  have hbi : (b.length : Int) ≤ 1048576 := by omega
  have hai : (a : Int) ≤ b.length := by omega
  have hak : (a : Int) ≤ (a : Int) + k := by omega
  clear hT e2
  have hlen : (Mm.get b a k).length = k := Mm.get_length b a k (by omega)
  by_cases hl0 : cap = a
  ·have hk : k = 0 := by omega
   subst hk
   have HG := Lib.hid (show Mm.get b a 0 = [] by simp [Mm.get])
   have HC := Lib.hid (fun W => cloneB W ⟨gb, 0, none⟩ 0 0 [] (.inl ⟨_, _, rfl, rfl⟩) (by simp))
   have hba : b.length = a := by omega
   generalize b.length = len at *
   clear hlen
   subst hl0 hba
   go_enter Tryz.func37, Tryz.ntmps37
   go_wp2_with (first | (go_at_call 79; refine hN.out.mono ?_; rintro e w' ⟨rfl, rfl⟩) | (go_at_call 80; refine HT.out.mono ?_; rintro e w' ⟨rfl, rfl⟩) | (go_at_call 81; refine (HC.out _).mono ?_; rintro e w' ⟨v', rfl, ho, hb⟩))
   go_ret
   exact ⟨v', rfl, by rw [HG.out]; exact ho, hb⟩
  ·have HR := Lib.hid (show RdB w (.slice (some ⟨gb, a, none⟩) k (cap - a)) (Mm.get b a k) from HRW.out.part a k (cap - a) (by omega) (by omega) (by omega))
   have HC := Lib.hid (cloneB w ⟨gb, a, none⟩ k (cap - a) (Mm.get b a k) HR.out (by rw [hlen]; omega))
   generalize b.length = len at *
   clear hlen
   go_enter Tryz.func37, Tryz.ntmps37
   go_wp2_with (first | (go_at_call 79; refine hN.out.mono ?_; rintro e w' ⟨rfl, rfl⟩) | (go_at_call 80; refine HT.out.mono ?_; rintro e w' ⟨rfl, rfl⟩) | (go_at_call 81; refine HC.out.mono ?_; rintro e w' ⟨v', rfl, ho, hb⟩))
   go_ret
   exact ⟨v', rfl, ho, hb⟩
 ·have e2 : Mm.bytesL b a n = [] := by unfold Mm.bytesL; rw [if_neg hin]
  rw [e2]
  rw [show Mm.thereB b.length a n = false by unfold Mm.thereB; simp; omega] at hT
  have HT := Lib.hid hT
  clear hT e2
  generalize b.length = len at *
  go_enter Tryz.func37, Tryz.ntmps37
  go_wp2_with (first | (go_at_call 79; refine hN.out.mono ?_; rintro e w' ⟨rfl, rfl⟩) | (go_at_call 80; refine HT.out.mono ?_; rintro e w' ⟨rfl, rfl⟩))
  go_ret
  exact ⟨_, rfl, OwnB.nil _ _ _, Below.refl _ _⟩
end Go.Proofs.YtpcpaoeajcjoiaaGreatDoor
namespace Go.Proofs.YtpcpaoeajcjoiaaGreatDoor
open Go.RowKit Kit
theorem OwnM.make {w : World} {g cap : Nat} {b : List UInt8} {hs : List (Nat × Nat)} {hv : Value} (B : Nat) (hrw : Rw w g 5 cap b) (hcm : cap ≤ maxLen) (hrd : Rd w 2 hv hs.length (Mm.hc hs)) (hoff : Off hv g)
  (lo : 4 ≤ b.length) (hi : b.length ≤ 1048576) (few : hs.length ≤ 16) (small : ∀ j, j < hs.length → (hs.getD j (0, 0)).1 < 4294967296 ∧ (hs.getD j (0, 0)).2 < 4294967296) :
  OwnM (w.alloc (.cells #[.slice (some ⟨g, 0, none⟩) b.length cap, hv] 86)) w.heap.size g b hs :=
 have hb := (Below.refl w.heap.size w).alloc (Nat.le_refl _) (.cells #[.slice (some ⟨g, 0, none⟩) b.length cap, hv] 86)
 ⟨⟨hv, cap, Bk.fresh _ _ _, hrw.kept hb, hcm, hrd.kept hb, hoff⟩, lo, hi, few, small⟩
def Mm.Made (b : List UInt8) (hs : List (Nat × Nat)) (w : World) (v : Value) (w' : World) : Prop := ∃ gm gb, v = .pointer (some ⟨gm, 0, none⟩) ∧ OwnM w' gm gb b hs ∧ w.heap.size ≤ gm ∧ w.heap.size ≤ gb ∧ Below w.heap.size w w' ∧
 (∀ g, g < w.heap.size → OffM w' 86 gm g)
theorem Rd.off {w : World} {size n g : Nat} {v : Value} {xs : List Value} (h : Rd w size v n xs) (hg : w.heap.size ≤ g) : Off v g := by
 obtain ⟨_, A, c, rfl, _, _, h4⟩ := h
 intro k off n' c' e hn e2
 injection e with e1 e3
 subst e3
 obtain ⟨g', off', hA, hlt, _⟩ := h4 hn
 rw [hA] at e1
 injection e1 with e1
 injection e1 with e1
 omega
theorem Mm.made {w w' : World} {g cap : Nat} {b : List UInt8} {hs : List (Nat × Nat)} {hv : Value} (hrw : Rw w' g 5 cap b) (hcm : cap ≤ maxLen) (hrd : Rd w' 2 hv hs.length (Mm.hc hs)) (hoff : Off hv g)
  (lo : 4 ≤ b.length) (hi : b.length ≤ 1048576) (few : hs.length ≤ 16) (small : ∀ j, j < hs.length → (hs.getD j (0, 0)).1 < 4294967296 ∧ (hs.getD j (0, 0)).2 < 4294967296)
  (hg : w.heap.size ≤ g) (ho : ∀ g', g' < w.heap.size → Off hv g') (hb : Below w.heap.size w w') :
  Mm.Made b hs w (.pointer (some ⟨w'.heap.size, 0, none⟩)) (w'.alloc (.cells #[.slice (some ⟨g, 0, none⟩) b.length cap, hv] 86)) := by
 refine ⟨w'.heap.size, g, rfl, OwnM.make 0 hrw hcm hrd hoff lo hi few small, hb.size, hg, hb.alloc hb.size _, fun g' hg' x' hv' hbk => ?_⟩
 have := (hbk.uniq (Bk.fresh w' _ _)).2
 simp at this
 rw [this.2]
 exact ho g' hg'
end Go.Proofs.YtpcpaoeajcjoiaaGreatDoor
namespace Go.Proofs.YtpcpaoeajcjoiaaGreatDoor
open Go.RowKit Kit
def Mm.bad (h : Nat × Nat) : Bool := decide (h.2 < h.1)
theorem bad_own (w : World) (p q : Nat) (hp : p < 4294967296) (hq : q < 4294967296) :
  Calls Tryz.prog 128 #[.agg #[.int .u32 p, .int .u32 q]] w fun e w' => e = .returned (.bool (Mm.bad (p, q))) ∧ Below w.heap.size w w' := by
 go_enter Tryz.func128, Tryz.ntmps128
 go_wp2
 go_ret
 exact ⟨mret_bool (by unfold Mm.bad; rw [Bool.eq_iff_iff]), (Below.refl _ _).alloc (Nat.le_refl _) _⟩
def Mm.SomeIdx (b : Bool) (w : World) (e : Ending) (w' : World) : Prop := ∃ r : Int, e = .returned (.int .i64 r) ∧ -1 ≤ r ∧ r ≤ 100 ∧ decide (0 ≤ r) = b ∧ Below w.heap.size w w'
theorem Rd.pair {w : World} {A : Option Addr} {c : Nat} {hs : List (Nat × Nat)} (h : Rd w 2 (.slice A hs.length c) hs.length (Mm.hc hs)) {j : Nat} (hj : j < hs.length) :
  ∃ g off, A = some ⟨g, off, none⟩ ∧ w.cell? ⟨g, off + j * 2, none⟩ = some (.int .u32 (hs.getD j (0, 0)).1) ∧ w.cell? ⟨g, off + j * 2 + 1, none⟩ = some (.int .u32 (hs.getD j (0, 0)).2) := by
 obtain ⟨_, A', c', e, _, _, h4⟩ := h
 obtain ⟨g, off, rfl, hg, hc⟩ := h4 (by omega)
 injection e with e
 exact ⟨g, off, e, hc _ _ (Mm.hc_at hs j hj).1, by have := hc _ _ (Mm.hc_at hs j hj).2; rwa [← Nat.add_assoc] at this⟩
theorem index_own (w : World) (A : Option Addr) (c : Nat) (hs : List (Nat × Nat)) (h : Rd w 2 (.slice A hs.length c) hs.length (Mm.hc hs)) (few : hs.length ≤ 16)
  (small : ∀ j, j < hs.length → (hs.getD j (0, 0)).1 < 4294967296 ∧ (hs.getD j (0, 0)).2 < 4294967296) :
  Calls Tryz.prog 192 #[.slice A hs.length c, .func (.func 128) #[] #[]] w (Mm.SomeIdx (hs.any Mm.bad) w) := by
 have HH := Lib.hid (fun W (hb : Below w.heap.size w W) (j : Nat) (hj : j < hs.length) => Rd.pair (h.kept hb) hj)
 have HS := Lib.hid small
 have few' : (hs.length : Int) ≤ 16 := by omega
 clear h small
 go_enter Tryz.func192, Tryz.ntmps192
 go_wp2_with fail
 go_loopw [8] (fun i wr => ∃ j : Nat, j ≤ hs.length ∧ i = .int .i64 j ∧ (∀ t, t < j → Mm.bad (hs.getD t (0, 0)) = false) ∧ Below w.heap.size w wr) (fun i _ => hs.length - (intOf i).toNat)
 case atStart => exact ⟨0, Nat.zero_le _, rfl, fun t ht => absurd ht (by omega), Below.refl _ _⟩
 case round =>
  obtain ⟨j, hj, rfl, hno, hbr⟩ := hrel
  by_cases hlt : j < hs.length
  ·obtain ⟨g, off, hA, c0, c1⟩ := HH.out wr hbr j hlt
   obtain ⟨s1, s2⟩ := HS.out j hlt
   have HB := Lib.hid hbr
   have HO := Lib.hid hno
   subst hA
   clear hbr hno
   have HP := Lib.hid (show hs.getD j (0, 0) ∈ hs by rw [List.getD_eq_getElem?_getD, List.getElem?_eq_getElem hlt]; simp)
   generalize hh : hs.getD j (0, 0) = h at *
   have hh' := Lib.hid hh
   clear hh
   obtain ⟨p, q⟩ := h
   dsimp only at c0 c1 s1 s2
   have hc := Lib.hid (fun W => bad_own W p q s1 s2)
   go_wp2_with fail
   refine (hc.out _).mono ?_
   rintro e w2 ⟨rfl, hb2⟩
   have HB2 := Lib.hid (HB.out.trans (hb2.mono HB.out.size))
   clear hb2
   cases hb : Mm.bad (p, q)
   ·have hb' := Lib.hid hb
    clear hb
    go_wp2_with fail
    go_roundw
    case rel => exact ⟨j + 1, by omega, by go_num, fun t ht => by
     by_cases e : t = j
     ·subst e; rw [hh'.out, hb'.out]
     ·exact HO.out t (by omega), HB2.out⟩
    case measure => simp [intOf]; omega
   ·have hb' := Lib.hid hb
    clear hb
    go_wp2_with fail
    go_ret
    refine ⟨j, rfl, by omega, by omega, ?_, HB2.out⟩
    rw [List.any_eq_true.2 ⟨(p, q), HP.out, hb'.out⟩]
    simp
  ·obtain rfl : j = hs.length := by omega
   have HN := Lib.hid (show hs.any Mm.bad = false by
    rw [List.any_eq_false]
    intro x hx
    obtain ⟨i, hi, rfl⟩ := List.mem_iff_getElem.1 hx
    simpa [List.getD, List.getElem?_eq_getElem hi] using hno i hi)
   have HB := Lib.hid hbr
   clear hbr hno
   go_wp2_with fail
   go_ret
   exact ⟨-1, rfl, by omega, by omega, by rw [HN.out]; rfl, HB.out⟩
theorem contains_own (w : World) (A : Option Addr) (c : Nat) (hs : List (Nat × Nat)) (h : Rd w 2 (.slice A hs.length c) hs.length (Mm.hc hs)) (few : hs.length ≤ 16)
  (small : ∀ j, j < hs.length → (hs.getD j (0, 0)).1 < 4294967296 ∧ (hs.getD j (0, 0)).2 < 4294967296) :
  Calls Tryz.prog 127 #[.slice A hs.length c, .func (.func 128) #[] #[]] w fun e w' => e = .returned (.bool (hs.any Mm.bad)) ∧ Below w.heap.size w w' := by
 have H := Lib.hid (index_own w A c hs h few small)
 generalize hs.any Mm.bad = B at *
 clear h small
 go_enter Tryz.func127, Tryz.ntmps127
 go_wp2_with fail
 refine H.out.mono ?_
 rintro e w1 ⟨r, rfl, h1, h2, h3, hb⟩
 have H3 := Lib.hid h3
 clear h3
 go_wp2_with fail
 go_ret
 exact ⟨mret_bool H3.out, hb⟩
def Mm.newOk (size : Int) (hs : List (Nat × Nat)) : Bool := decide (4 ≤ size) && (decide (size ≤ 1048576) && (decide (size % 4 = 0) && (decide (hs.length ≤ 16) && !hs.any Mm.bad)))
set_option maxRecDepth 20000 in
theorem zeros_make (n : Nat) (hn : n ≤ 1048576) (W : World) : (Instr.makeSlice 26 (.int .i64 (n : Int)) (.int .i64 (n : Int))).run Tryz.prog W = .ok (.slice (some ⟨W.heap.size, 0, none⟩) n n) (W.alloc (.cells (bv (List.replicate n 0)).toArray 5)) := by
 obtain ⟨i, hi, hz, hs1, hb1⟩ := mbt.info
 have hb : (i.bytes : Int) * (n : Int) ≤ 281474976710656 := by rw [hb1]; omega
 have hr := run_make (P := Tryz.prog) W 26 5 i _ mbt.slice hi hz .i64 .i64 n n (by omega) (by omega) hb (by omega)
 rw [hr]
 simp only [Int.toNat_natCast]
 congr 3
 apply Array.ext'
 apply List.ext_getElem
 ·simp [madeCells, hs1, bv, Value.cells]
 ·intro j h1 h2
  simp [madeCells, bv, Value.cells, Nat.mod_one]
set_option maxRecDepth 20000 in
theorem new_ok (w : World) (n : Nat) (A : Option Addr) (c : Nat) (hs : List (Nat × Nat)) (h : Rd w 2 (.slice A hs.length c) hs.length (Mm.hc hs))
  (small : ∀ j, j < hs.length → (hs.getD j (0, 0)).1 < 4294967296 ∧ (hs.getD j (0, 0)).2 < 4294967296) (hyes : Mm.newOk n hs = true) :
  Calls Tryz.prog 68 #[.int .i64 n, .slice A hs.length c] w fun e w' => ∃ v, e = .returned (.tuple #[v, .int .i64 0]) ∧ Mm.Made (List.replicate n 0) hs w v w' := by
 simp only [Mm.newOk, Bool.and_eq_true, decide_eq_true_eq, Bool.not_eq_true'] at hyes
 obtain ⟨h1, h2, h3, h4, h5⟩ := hyes
 have g3 : ((n : Int) % 4 != 0) = false := by simpa using h3
 have H := contains_own w A c hs h h4 small
 rw [h5] at H
 have HH := Lib.hid H
 have h4i : (hs.length : Int) ≤ 16 := by omega
 have HC := Lib.hid (show ∀ W, Below w.heap.size w W → Calls Tryz.prog 129 #[.slice A hs.length c] W fun e w' => ∃ A' c', e = .returned (.slice A' hs.length c') ∧ Rd w' 2 (.slice A' hs.length c') hs.length (Mm.hc hs) ∧ (∀ g, g < W.heap.size → Off (.slice A' hs.length c') g) ∧ Below W.heap.size W w' ∧ Below w.heap.size w w' from fun W hb =>
  (cloneH W _ hs.length (Mm.hc hs) (h.kept hb) h4 (Mm.hc_one hs)).mono fun e w' ⟨v', k1, k2, k3, k4⟩ => by
   obtain ⟨A', c', rfl⟩ := k2.form
   exact ⟨A', c', k1, k2, k3, k4, hb.trans (k4.mono hb.size)⟩)
 have hmk := zeros_make n (by omega)
 have HZ := Lib.hid (show (List.replicate n (0 : UInt8)).length = n by simp)
 have HRW := Lib.hid (fun W => Rw.of (Bk.fresh W 5 (bv (List.replicate n (0 : UInt8))).toArray))
 have HS := Lib.hid small
 have HL := Lib.hid h4
 clear h small H h5 h3
 generalize hz : List.replicate n (0 : UInt8) = Z at *
 have HZZ := Lib.hid hz
 clear hz
 generalize hhl : hs.length = hl at *
 have HHL := Lib.hid hhl
 clear hhl
 generalize hzz : (bv Z).toArray = ZZ at *
 have HZZZ := Lib.hid hzz
 clear hzz
 go_enter Tryz.func68, Tryz.ntmps68
 go_wp2_with (go_at_call 127; refine HH.out.mono ?_; rintro e w1 ⟨rfl, hb1⟩)
 go_region_with (first | (go_at_call 129; refine (HC.out _ (by first | exact hb1 | exact hb1.drew | exact hb1.alloc hb1.size _ | exact hb1.drew.alloc hb1.size _ | exact (hb1.alloc hb1.size _).drew)).mono ?_; rintro e wy ⟨A', c', rfl, hr3, ho3, hb4, hb4'⟩))
 all_goals
  go_wp2
  go_ret2
 all_goals
  have hzl : Z.length = n := HZ.out
  have hhl := HHL.out
  have hz := HZZ.out
  have hzz := HZZZ.out
  have hlo : 4 ≤ Z.length := by omega
  have hhi : Z.length ≤ 1048576 := by omega
  have hfew : hs.length ≤ 16 := by rw [hhl]; exact HL.out
  rw [← hhl] at hr3 ho3
  have hrw := fun W => HRW.out W
  simp only [hzz, hz, hzl] at hrw
  have hcm : n ≤ maxLen := by unfold maxLen; omega
 ·refine ⟨_, rfl, ?_⟩
  show Mm.Made Z hs w (.pointer (some ⟨wy.heap.size, 0, none⟩)) (wy.alloc (.cells #[.slice (some ⟨w1.heap.size, 0, none⟩) n n, .slice A' hl c'] 86))
  rw [← hhl]
  have := Mm.made (w := w) (w' := wy) (g := w1.heap.size) (cap := n) (b := Z) (Rw.kept (w := (w1.alloc (.cells ZZ 5)).drew) (hrw w1) hb4) hcm hr3 (ho3 _ (by simp)) hlo hhi hfew (fun j hj => HS.out j (by omega)) hb1.size (fun g' hg' => ho3 g' (by have := hb1.size; simp; omega)) hb4'
  rw [hzl] at this
  exact this
 ·refine ⟨_, rfl, ?_⟩
  have e : (wy.alloc (.cells ZZ 5)).heap.size = wy.heap.size + 1 := by simp
  show Mm.Made Z hs w (.pointer (some ⟨wy.heap.size + 1, 0, none⟩)) ((wy.alloc (.cells ZZ 5)).alloc (.cells #[.slice (some ⟨wy.heap.size, 0, none⟩) n n, .slice A' hl c'] 86))
  rw [← hhl, ← e]
  have := Mm.made (w := w) (w' := wy.alloc (.cells ZZ 5)) (g := wy.heap.size) (cap := n) (b := Z) (hrw wy) hcm (Rd.kept hr3 ((Below.refl _ _).alloc (Nat.le_refl _) _)) (Rd.off hr3 (Nat.le_refl _)) hlo hhi hfew (fun j hj => HS.out j (by omega)) hb4'.size (fun g' hg' => ho3 g' (by have := hb1.size; simp; omega)) (hb4'.alloc hb4'.size _)
  rw [hzl] at this
  exact this
end Go.Proofs.YtpcpaoeajcjoiaaGreatDoor
