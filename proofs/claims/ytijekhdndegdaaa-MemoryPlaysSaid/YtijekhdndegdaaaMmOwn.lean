/- A memory of the program's: what it is in memory; walks of none, there, ask. -/
import Derived.Test.YtijekhdndegdaaaRows
import Derived.Test.YtijekhdndegdaaaKitR
import Derived.Test.YtijekhdndegdaaaMmPlain
import Derived.StillTailTactics
import Derived.BigQuiet
namespace Go.Proofs.Ytijekhdndegdaaa
open Go.RowKit Kit
set_option linter.unusedVariables false
set_option linter.unusedSimpArgs false

theorem mret_int {k : IntKind} {a b : Int} (h : a = b) : Ending.returned (.int k a) = .returned (.int k b) := by rw [h]
theorem mret_bool {a b : Bool} (h : a = b) : Ending.returned (.bool a) = .returned (.bool b) := by rw [h]

theorem mbt : ByteTy Try.prog 34 5 :=
  ⟨Try.underlying34, Try.underlying5, by
    have h : (Try.prog.info? 5).map (fun i => (i.zero, i.size, i.bytes)) = some (some (.int .u8 0), 1, 1) := by kernel_rfl
    obtain ⟨i, h1, h2, h3, h4⟩ := info_parts h
    exact ⟨i, h1, h2, h3, h4⟩⟩

/-- Holes as cells. -/
def Mm.hc (hs : List (Nat × Nat)) : List Value := hs.flatMap fun h => [.int .u32 h.1, .int .u32 h.2]
theorem Mm.hc_length (hs : List (Nat × Nat)) : (Mm.hc hs).length = hs.length * 2 := by
  induction hs with
  | nil => rfl
  | cons h t ih => simp only [Mm.hc, List.flatMap_cons, List.length_append, List.length_cons, List.length_nil] at ih ⊢; omega
theorem Mm.hc_one (hs : List (Nat × Nat)) : ∀ u ∈ Mm.hc hs, u.oneCell' = true := by
  intro u hu
  simp only [Mm.hc, List.mem_flatMap, List.mem_cons, List.not_mem_nil, or_false] at hu
  obtain ⟨h, _, rfl | rfl⟩ := hu <;> rfl
theorem Mm.hc_at (hs : List (Nat × Nat)) (j : Nat) (hj : j < hs.length) : (Mm.hc hs)[j * 2]? = some (.int .u32 (hs.getD j (0, 0)).1) ∧ (Mm.hc hs)[j * 2 + 1]? = some (.int .u32 (hs.getD j (0, 0)).2) := by
  induction hs generalizing j with
  | nil => simp at hj
  | cons h t ih =>
    cases j with
    | zero => simp [Mm.hc]
    | succ j =>
      have := ih j (by simpa using hj)
      simp only [Mm.hc, List.flatMap_cons, List.getD_cons_succ] at this ⊢
      rw [show (j + 1) * 2 = j * 2 + 2 by omega, show j * 2 + 2 + 1 = (j * 2 + 1) + 2 by omega, List.getElem?_append_right (by simp), List.getElem?_append_right (by simp)]
      simpa using this

/-- The object at block gm is a memory of these bytes (in block gb) and holes. -/
structure OwnM (w : World) (gm gb : Nat) (b : List UInt8) (hs : List (Nat × Nat)) : Prop where
  obj : ∃ hv cap, Bk w gm 68 #[.slice (some ⟨gb, 0, none⟩) b.length cap, hv] ∧ Rw w gb 5 cap b ∧ cap ≤ maxLen ∧ Rd w 2 hv hs.length (Mm.hc hs) ∧ Off hv gb
  lo : 4 ≤ b.length
  hi : b.length ≤ 1048576
  few : hs.length ≤ 16
  small : ∀ j, j < hs.length → (hs.getD j (0, 0)).1 < 4294967296 ∧ (hs.getD j (0, 0)).2 < 4294967296

/-- The two cells of the object, for the walk. -/
theorem OwnM.cells {w : World} {gm gb : Nat} {b : List UInt8} {hs : List (Nat × Nat)} (h : OwnM w gm gb b hs) :
    ∃ A c cap, w.cell? ⟨gm, 0, none⟩ = some (.slice (some ⟨gb, 0, none⟩) b.length cap) ∧ w.cell? ⟨gm, 1, none⟩ = some (.slice A hs.length c) ∧ Rw w gb 5 cap b ∧ cap ≤ maxLen ∧ gm < w.heap.size ∧ gm ≠ gb := by
  obtain ⟨hv, cap, h1, h2, h3, h4, _⟩ := h.obj
  obtain ⟨A, c, rfl⟩ := h4.form
  exact ⟨A, c, cap, h1.cell 0, h1.cell 1, h2, h3, h1.lt, h2.ne h1 (by decide)⟩

theorem mq34 (w : World) (a : Option Addr) (n c : Nat) : (binOp .eql 34 (.slice a n c) (.slice none 0 0)).run Try.prog w = .ok (.bool a.isNone) w := Lib.run_eql_slice_nil w _ _ a n c 0 0 Try.underlying34
theorem none_own (w : World) (gm gb n c : Nat) (h : w.cell? ⟨gm, 0, none⟩ = some (.slice (some ⟨gb, 0, none⟩) n c)) :
    Calls Try.prog 70 #[.pointer (some ⟨gm, 0, none⟩)] w fun e w' => e = .returned (.bool false) ∧ w = w' := by
  have hq := mq34
  go_enter Try.func70, Try.ntmps70
  go_wp2
  go_ret
  exact ⟨rfl, rfl⟩
theorem none_nil (w : World) : Calls Try.prog 70 #[.pointer none] w fun e w' => e = .returned (.bool true) ∧ w = w' := by
  have hq := mq34
  go_enter Try.func70, Try.ntmps70
  go_wp2
  go_ret
  exact ⟨rfl, rfl⟩
theorem none_raw (w : World) (gm : Nat) (h : w.cell? ⟨gm, 0, none⟩ = some (.slice none 0 0)) :
    Calls Try.prog 70 #[.pointer (some ⟨gm, 0, none⟩)] w fun e w' => e = .returned (.bool true) ∧ w = w' := by
  have hq := mq34
  go_enter Try.func70, Try.ntmps70
  go_wp2
  go_ret
  exact ⟨rfl, rfl⟩

/-- Are n places there from a on? -/
def Mm.thereB (len a : Nat) (n : Int) : Bool := decide (0 ≤ n ∧ n ≤ len ∧ (a : Int) ≤ len - n)
theorem there_own (w : World) (gm gb len c a : Nat) (n : Int) (hl : len ≤ 1048576) (ha : a < 4294967296) (h : w.cell? ⟨gm, 0, none⟩ = some (.slice (some ⟨gb, 0, none⟩) len c)) :
    Calls Try.prog 71 #[.pointer (some ⟨gm, 0, none⟩), .int .u32 a, .int .i64 n] w fun e w' => e = .returned (.bool (Mm.thereB len a n)) ∧ w = w' := by
  by_cases h1 : 0 ≤ n
  · by_cases h2 : n ≤ len
    · have HT : Hid (Mm.thereB len a n = decide ((a : Int) ≤ len - n)) := by simp [Hid, Mm.thereB, h1, h2]
      go_enter Try.func71, Try.ntmps71
      go_wp2
      go_ret
      refine ⟨mret_bool ?_, rfl⟩
      rw [HT.out]
    · have HT : Hid (Mm.thereB len a n = false) := by simp [Hid, Mm.thereB, h1, h2]
      go_enter Try.func71, Try.ntmps71
      go_wp2
      go_ret
      exact ⟨mret_bool HT.out.symm, rfl⟩
  · have HT : Hid (Mm.thereB len a n = false) := by simp [Hid, Mm.thereB, h1]
    go_enter Try.func71, Try.ntmps71
    go_wp2
    go_ret
    exact ⟨mret_bool HT.out.symm, rfl⟩
end Go.Proofs.Ytijekhdndegdaaa
