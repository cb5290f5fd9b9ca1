/- Flow, the program's side: jump, branch, here. -/
import Derived.Test.YtfafdkbnmfpbmaaDoorF8Own2
namespace Go.Proofs.YtfafdkbnmfpbmaaDoor
open Go.RowKit Kit
set_option linter.unusedVariables false
set_option linter.unusedSimpArgs false

theorem F8.own_of_bk {w : World} {g B : Nat} {l : List (List UInt8)} (h : Bk w g 9 (L6.sv l).toArray) (hB : B ≤ g) (hm : l.length ≤ maxLen) : OwnS B w (.slice (some ⟨g, 0, none⟩) l.length l.length) l :=
  ⟨by rw [L6.sv_length, Nat.mul_one], .inr ⟨g, l.length, _, rfl, hB, h, Nat.le_refl _, hm, by simp [L6.sv_length], by simp only [List.toList_toArray, Nat.mul_one]; rw [← L6.sv_length l, List.take_length]⟩⟩
/-- Where a line's slices lie before another one's. -/
theorem F8.new_of {w w' : World} {B H : Nat} {vl va : Value} {ls la : List (List UInt8)} (hl : OwnZ B w vl ls) (hn : ∀ k, F8.blk vl = some k → H ≤ k) (ha : OwnZ w.heap.size w' va la) (hH : H ≤ w.heap.size) (hs : w.heap.size ≤ w'.heap.size) : F8.New H w'.heap.size vl va :=
  ⟨fun k hk => ⟨hn k hk, Nat.lt_of_lt_of_le (hl.blk_lt hk).2 hs⟩, fun k hk => ⟨Nat.le_trans hH (ha.blk_lt hk).1, (ha.blk_lt hk).2⟩, fun k hk e => by have := (hl.blk_lt hk).2; have := (ha.blk_lt e).1; omega⟩
set_option maxRecDepth 100000 in
set_option maxHeartbeats 2000000 in
theorem fjump_any {B gm H : Nat} {S : F8.St} (w : World) (h : F8.MkO B w gm H S) (vl va : Value) (s : ByteArray) (ls : List (List UInt8)) (tt : List UInt8) (hl : OwnZ B w vl ls) (hn : ∀ k, F8.blk vl = some k → H ≤ k) (hva : ∃ A n c, va = .slice A n c) (ho : S.out.length ≤ 100000) :
    Calls Tryd.prog 68 #[.pointer (some ⟨gm, 0, none⟩), .agg #[vl, .string s, va], .string ⟨tt.toArray⟩] w fun e w' => e = .returned (.tuple #[]) ∧ F8.MkO B w' gm w'.heap.size ⟨S.out ++ [F8.jmp ls tt], S.opn, S.made⟩ ∧ F8.Stay gm B w w' := by
  obtain ⟨A0, n0, c0, rfl⟩ := hva
  have HH := Lib.hid h
  have HL := Lib.hid hl
  have HN := Lib.hid hn
  have HO := Lib.hid ho
  obtain ⟨A1, c1, rfl⟩ := hl.form
  clear h hl hn ho
  go_enter Tryd.func68, Tryd.ntmps68
  go_wp2_with fail
  obtain ⟨W3, hW3⟩ : ∃ W3, (w.alloc (.cells #[.slice A1 ls.length c1, .string ⟨#[106]⟩, .slice (some ⟨w.heap.size + 1, 0, none⟩) 1 1] 42)).alloc (.cells #[.string ⟨tt.toArray⟩] 9) = W3 := ⟨_, rfl⟩
  rw [hW3]
  have hbe : Below w.heap.size w W3 := by rw [← hW3]; exact ((Below.refl _ _).alloc (Nat.le_refl _) _).alloc (by simp) _
  have hsz : W3.heap.size = w.heap.size + 2 := by rw [← hW3]; simp
  have hbs : Bk W3 (w.heap.size + 1) 9 (L6.sv [tt]).toArray := by rw [← hW3]; have := Bk.fresh (w.alloc (.cells #[.slice A1 ls.length c1, .string ⟨#[106]⟩, .slice (some ⟨w.heap.size + 1, 0, none⟩) 1 1] 42)) 9 #[.string ⟨tt.toArray⟩]; simpa [L6.sv] using this
  have hbl : Bk W3 w.heap.size 42 #[.slice A1 ls.length c1, .string ⟨#[106]⟩, .slice (some ⟨w.heap.size + 1, 0, none⟩) 1 1] := by rw [← hW3]; exact (Bk.fresh w _ _).kept ((Below.refl _ _).alloc (Nat.le_refl _) _)
  have hza : OwnZ w.heap.size W3 (.slice (some ⟨w.heap.size + 1, 0, none⟩) 1 1) [tt] := .inl (F8.own_of_bk hbs (Nat.le_succ _) (by unfold maxLen; simp))
  have hst := F8.Stay.of hbe HH.out.size HH.out.lt
  have hzl := HL.out.stay hst
  have hnew := F8.new_of HL.out HN.out hza HH.out.le hbe.size
  obtain ⟨A, c, cs, k0, f0, hkk, ho1, hs1, hz1, hput⟩ := F8.Mk.room F8.uo llrt (HH.out.kept hbe) ⟨ls, [106], [tt]⟩ (.inl hzl) (.inl (hza.rebase HH.out.size)) (fun _ => hnew)
  have b0 := hbl.cell 0
  have b1 := hbl.cell 1
  have b2 := hbl.cell 2
  have ka : (W3.alloc (.cells #[.slice A1 ls.length c1, .string ⟨#[106]⟩, .slice (some ⟨w.heap.size + 1, 0, none⟩) 1 1] 42)).cell? ⟨gm, 0, none⟩ = some (.slice A S.out.length c) := hkk _ ((Below.refl _ _).alloc (Nat.le_refl _) _)
  clear hkk
  have HO1 := Lib.hid ho1
  have HS1 := Lib.hid hs1
  have HZ1 := Lib.hid hz1
  have HPUT := Lib.hid hput
  have HST := Lib.hid hst
  have HL1 := Lib.hid (show (S.out.length + 1) * 64 ≤ 140737488355328 by have := HO.out; omega)
  have HL2 := Lib.hid (show S.out.length + 1 ≤ maxLen by have := HO.out; unfold maxLen; omega)
  clear hbe hsz hbs hbl hza hst hzl hnew ho1 hs1 hz1 hput hW3
  go_region_law (refine step_appendRB (by rfl) _ _ _ _ (by rfl) llrt (by decide) B (.slice A S.out.length c) (by rfl) S.out.length cs HO1.out _ (by rfl) 1 [.slice A1 ls.length c1, .string ⟨#[106]⟩, .slice (some ⟨w.heap.size + 1, 0, none⟩) 1 1] HS1.out HL1.out HL2.out HZ1.out ?_; intro v3 w3 ho3 hb3 hg3 hv3; obtain ⟨⟨A3, c3, rfl⟩, k3, f3, HM⟩ := HPUT.out v3 w3 ho3 hb3 hg3 hv3)
  all_goals go_wp2_with fail
  all_goals go_end0
  all_goals exact ⟨rfl, HM.out.1.later HM.out.1.le (Nat.le_refl _), HST.out.trans HM.out.2⟩
end Go.Proofs.YtfafdkbnmfpbmaaDoor
