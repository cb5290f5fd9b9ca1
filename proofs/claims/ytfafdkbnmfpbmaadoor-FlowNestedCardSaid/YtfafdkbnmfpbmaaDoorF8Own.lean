/- Flow, the program's side: Opposite, label, close, wait. -/
import Derived.Test.YtfafdkbnmfpbmaaDoorF8Mem
namespace Go.Proofs.YtfafdkbnmfpbmaaDoor
open Go.RowKit Kit
set_option linter.unusedVariables false
set_option linter.unusedSimpArgs false

abbrev F8.MkO (B : Nat) (W : World) (gm H : Nat) (S : F8.St) : Prop := F8.Mk true 62 42 152 B W gm H S
theorem F8.uo : F8.Unlike 62 42 152 := by constructor <;> decide
theorem fort : RowTy Tryd.prog 60 152 2 32 :=
  ⟨Tryd.underlying60, by
    have h : (Tryd.prog.info? 152).map (fun i => (i.zero, i.size, i.bytes)) = some (some (.agg #[.string ByteArray.empty, .string ByteArray.empty]), 2, 32) := by kernel_rfl
    obtain ⟨i, h1, h2, h3, h4⟩ := info_parts h
    exact ⟨i, _, h1, h2, h3, h4, by kernel_rfl⟩⟩
theorem fret_sb {a a' : List UInt8} {x y : Bool} (h1 : a = a') (h2 : x = y) : Ending.returned (.tuple #[.string ⟨a.toArray⟩, .bool x]) = .returned (.tuple #[.string ⟨a'.toArray⟩, .bool y]) := by rw [h1, h2]
theorem fret_s {a a' : List UInt8} (h1 : a = a') : Ending.returned (.string ⟨a.toArray⟩) = .returned (.string ⟨a'.toArray⟩) := by rw [h1]
theorem fopp_any (c : List UInt8) (w : World) : Calls Tryd.prog 14 #[.string ⟨c.toArray⟩] w fun e w' => e = .returned (.tuple #[.string ⟨((F8.opp c).getD []).toArray⟩, .bool (F8.opp c).isSome]) ∧ w = w' := by
  by_cases h1 : c = [101, 113]
  · subst h1
    go_enter Tryd.func14, Tryd.ntmps14
    go_wp2
    go_ret2
    exact ⟨rfl, rfl⟩
  by_cases h2 : c = [110, 101]
  · subst h2
    go_enter Tryd.func14, Tryd.ntmps14
    go_wp2
    go_ret2
    exact ⟨rfl, rfl⟩
  by_cases h3 : c = [108, 116]
  · subst h3
    go_enter Tryd.func14, Tryd.ntmps14
    go_wp2
    go_ret2
    exact ⟨rfl, rfl⟩
  by_cases h4 : c = [103, 101]
  · subst h4
    go_enter Tryd.func14, Tryd.ntmps14
    go_wp2
    go_ret2
    exact ⟨rfl, rfl⟩
  by_cases h5 : c = [108, 116, 117]
  · subst h5
    go_enter Tryd.func14, Tryd.ntmps14
    go_wp2
    go_ret2
    exact ⟨rfl, rfl⟩
  by_cases h6 : c = [103, 101, 117]
  · subst h6
    go_enter Tryd.func14, Tryd.ntmps14
    go_wp2
    go_ret2
    exact ⟨rfl, rfl⟩
  have HR := Lib.hid (show F8.opp c = none by unfold F8.opp; rw [if_neg h1, if_neg h2, if_neg h3, if_neg h4, if_neg h5, if_neg h6])
  have e1 : (c == [101, 113]) = false := by simpa using h1
  have e2 : (c == [110, 101]) = false := by simpa using h2
  have e3 : (c == [108, 116]) = false := by simpa using h3
  have e4 : (c == [103, 101]) = false := by simpa using h4
  have e5 : (c == [108, 116, 117]) = false := by simpa using h5
  have e6 : (c == [103, 101, 117]) = false := by simpa using h6
  clear h1 h2 h3 h4 h5 h6
  go_enter Tryd.func14, Tryd.ntmps14
  go_wp2
  go_ret2
  exact ⟨fret_sb (by rw [HR.out]; rfl) (by rw [HR.out]; rfl), rfl⟩
/-- The table of tens lies below B. -/
def F8.TabB (B : Nat) (w : World) : Prop := L6.Tab w ∧ 1 < B
theorem F8.TabB.below {B : Nat} {w w' : World} (h : F8.TabB B w) (hb : Below B w w') : F8.TabB B w' := by
  obtain ⟨h, hB⟩ := h
  refine ⟨?_, hB⟩
  unfold L6.Tab Lib.TabIs at *
  unfold World.var? at *
  rw [L6.tab_named] at *
  simp only [Option.bind_some] at *
  rw [hb.block _ hB]
  exact h
theorem F8.tab_lt {w : World} (h : L6.Tab w) : 1 < w.heap.size := by
  unfold L6.Tab Lib.TabIs at h
  unfold World.var? at h
  rw [L6.tab_named] at h
  simp only [Option.bind_some] at h
  cases hg : w.heap[1]? with
  | none => rw [hg] at h; cases h
  | some o => exact (Array.getElem?_eq_some_iff.1 hg).1
theorem F8.dec_len (n : Nat) : (Lib.decDigits n).length ≤ n + 1 := by
  induction n using Nat.strongRecOn with
  | ind n ih =>
    unfold Lib.decDigits
    split
    · simp
    · have := ih (n / 10) (by omega)
      simp only [List.length_append, List.length_cons, List.length_nil]
      omega
theorem F8.lab_app (n : Nat) : (⟨#[64]⟩ : ByteArray) ++ ⟨(Lib.decDigits n).toArray⟩ = ⟨(F8.lab n).toArray⟩ := app_eq [64] (Lib.decDigits n)
set_option maxRecDepth 100000 in
set_option maxHeartbeats 1000000 in
theorem flabel_any {B gm H : Nat} {S : F8.St} (w : World) (h : F8.MkO B w gm H S) (hn : S.made ≤ 100000) (hT : S.made < 100 ∨ F8.TabB B w) :
    Calls Tryd.prog 65 #[.pointer (some ⟨gm, 0, none⟩)] w fun e w' => e = .returned (.string ⟨(F8.lab S.made).toArray⟩) ∧ F8.MkO B w' gm H ⟨S.out, S.opn, S.made + 1⟩ ∧ F8.Stay gm B w w' := by
  obtain ⟨so, sp, sm⟩ := S
  dsimp only at *
  obtain ⟨vo, vp, cs, h1, h2, h3, h4, h5⟩ := h.obj
  dsimp only at h1 h2 h3 h4
  have hms := F8.Mk.set F8.uo (S := ⟨so, sp, sm⟩) (S' := ⟨so, sp, sm + 1⟩) (vp' := vp) h.ge h.size h.le h1 h2 h3 h5 2 (.int .i64 ((sm : Int) + 1)) rfl (by simp) h4 (fun _ h => h)
  have c2 := h1.cell 2
  have f2 := h1.free 2
  have hw1 : IntKind.i64.wrap ((sm : Int) + 1) = (sm : Int) + 1 := by rw [IntKind.wrap_i64]; omega
  have hw2 : IntKind.i64.wrap (sm : Int) = (sm : Int) := by rw [IntKind.wrap_i64]; omega
  have hlen : ¬ 9223372036854775807 < 1 + (Lib.decDigits sm).length := by have := F8.dec_len sm; omega
  have HMS := Lib.hid hms
  have CI := Lib.hid (litoa_any sm (w.setCell ⟨gm, 2, none⟩ (.int .i64 ((sm : Int) + 1))) (by omega) (hT.imp id fun hT => (hT.below hms.2.below).1))
  have HSZ := Lib.hid h.size
  clear h h1 h2 h3 h4 h5 hms hT hn
  go_enter Tryd.func65, Tryd.ntmps65
  go_wp2_with (go_at_call 83; refine CI.out.mono ?_; rintro e w2 ⟨rfl, hb2⟩)
  go_ret
  exact ⟨congrArg (fun x => Ending.returned (.string x)) (F8.lab_app sm), HMS.out.1.kept hb2, HMS.out.2.trans (F8.Stay.of hb2 HMS.out.1.size HMS.out.1.lt)⟩
end Go.Proofs.YtfafdkbnmfpbmaaDoor
