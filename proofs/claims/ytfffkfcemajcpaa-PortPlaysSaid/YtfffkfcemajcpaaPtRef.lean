/- The document's port. -/
import Derived.Test.YtfffkfcemajcpaaPtLaws
namespace Go.Proofs.Ytfffkfcemajcpaa
open Go.RowKit Kit
set_option linter.unusedVariables false
set_option linter.unusedSimpArgs false

/-- The object at block gr is the document's port. -/
structure RefP (w : World) (base gr : Nat) (ahead put : List UInt8) (st : Bool) (code : Nat) : Prop where
  obj : ∃ va vp, Bk w gr 71 #[va, vp, .bool st, .int .u32 code] ∧ RdB w va ahead ∧ OwnB 5 base w vp put ∧ (∀ g off n c, va = .slice (some ⟨g, off, none⟩) n c → base ≤ g ∧ g ≠ gr ∧ vp.ownBlock ≠ some g ∧ g < w.heap.size)
  bp : base ≤ gr
  few : put.length ≤ 65536
  len : ahead.length ≤ 65536
  small : code < 4294967296

/-- Blocks that only are read by the document's port: what is ahead. -/
def RAhead (w : World) (gr k : Nat) : Prop := ∃ x v y z off n c, Bk w gr 71 #[x, v, y, z] ∧ x = .slice (some ⟨k, off, none⟩) n c
/-- The block of what was put out, by the document. -/
def ROutIn (w : World) (gr k : Nat) : Prop := ∃ x v y z, Bk w gr 71 #[x, v, y, z] ∧ v.ownBlock = some k
/-- The blocks of a document's port that are written. -/
def rmine (w : World) (gr k : Nat) : Prop := k = gr ∨ ROutIn w gr k
structure RStep (w w' : World) (gr : Nat) : Prop where
  only : Only (rmine w gr) w w'
  new : ∀ k, rmine w' gr k → rmine w gr k ∨ w.heap.size ≤ k
  ahead : ∀ k, RAhead w' gr k → RAhead w gr k

theorem rnew_many (w : World) (A : Option Addr) (n c : Nat) (hn : 65536 < n) (hm : n ≤ maxLen) :
    Calls Try.prog 27 #[.slice A n c] w fun e w' => e = .returned (.tuple #[.pointer none, .int .i64 1]) ∧ w = w' := by
  unfold maxLen at hm
  have hg : decide (65536 < (n : Int)) = true := by simp; omega
  clear hn
  go_enter Try.func27, Try.ntmps27
  go_wp2
  go_ret2
  exact ⟨rfl, rfl⟩

set_option maxRecDepth 20000 in
theorem rnew_port (w : World) (v : Value) (l : List UInt8) (h : RdB w v l) (hl : l.length ≤ 65536) :
    Calls Try.prog 27 #[v] w fun e w' => ∃ gr, e = .returned (.tuple #[.pointer (some ⟨gr, 0, none⟩), .int .i64 0]) ∧ RefP w' w.heap.size gr l [] false 0 ∧ Below w.heap.size w w' := by
  obtain ⟨A, c, rfl⟩ := h.length
  have hg : decide (65536 < (l.length : Int)) = false := by simp; omega
  have HOWN := Lib.hid (show OwnB 5 w.heap.size (w.alloc (.cells #[] 5)) (.slice (some ⟨w.heap.size, 0, none⟩) 0 0) [] from by
    have := OwnB.built w 5 #[] [] rfl (Nat.zero_le _) (Nat.le_refl _)
    simpa only [List.length_nil] using this)
  have HSR := Lib.hid (src_of_rd pbt (h.below ((Below.refl w.heap.size w).alloc (Nat.le_refl _) (.cells #[] 5))))
  have HLM := Lib.hid (show ([] : List UInt8).length + l.length ≤ 140737488355328 by simp; omega)
  have HB0 := Lib.hid ((Below.refl w.heap.size w).alloc (Nat.le_refl _) (.cells #[] 5))
  have HL := Lib.hid hl
  clear hl h
  go_enter Try.func27, Try.ntmps27
  go_wp2_with (at_builtin; refine wpList_appendB rfl _ _ _ _ rfl pbt w.heap.size _ rfl [] HOWN.out _ rfl l HSR.out HLM.out (by simp) ?_; intro v3 w3 ho3 hb3 _; rw [List.nil_append] at ho3; have HO3 := Lib.hid ho3; have HB3 := Lib.hid hb3; obtain ⟨a3, c3, rfl⟩ := OwnB.len ho3 rfl; clear ho3 hb3)
  go_ret2
  refine ⟨w3.heap.size, rfl, ⟨⟨_, _, Bk.fresh w3 _ _, (OwnB.rd HO3.out).below ((Below.refl _ _).alloc (Nat.le_refl _) _), OwnB.nil _ _ _, ?_⟩, ?_, by simp, HL.out, by omega⟩, ?_⟩
  · intro g off n c' e
    rcases OwnB.shape HO3.out with ⟨he, -⟩ | ⟨g', cap, he, hg', hg2, -⟩
    · rw [e] at he; cases he
    · rw [e] at he; cases he; exact ⟨hg', Nat.ne_of_lt hg2, by simp [Value.ownBlock], by simp; omega⟩
  · exact (HB0.out.trans HB3.out).size
  · exact (HB0.out.trans HB3.out).alloc (HB0.out.trans HB3.out).size _
end Go.Proofs.Ytfffkfcemajcpaa
