/- The document's port: In. -/
import Derived.Test.YtfffkfcemajcpaaPtRefA
namespace Go.Proofs.Ytfffkfcemajcpaa
open Go.RowKit Kit
set_option linter.unusedVariables false
set_option linter.unusedSimpArgs false

theorem rin_port (w : World) (base gr : Nat) (ahead put : List UInt8) (st : Bool) (code : Nat) (H : RefP w base gr ahead put st code) :
    Calls Try.prog 28 #[.pointer (some ⟨gr, 0, none⟩)] w fun e w' => e = .returned (.int .u32 (Pt.inV ahead)) ∧ RefP w' base gr ahead.tail put st code ∧ RStep w w' gr := by
  obtain ⟨va, vp, hb, hr, ho, hg⟩ := H.obj
  have c0 : w.cell? ⟨gr, 0, none⟩ = some va := hb.cell 0
  have f0 := hb.free 0
  have HH := Lib.hid H
  have HO := Lib.hid ho
  have HR := Lib.hid hr
  have HG := Lib.hid hg
  have HBK := Lib.hid hb
  clear H hb ho hg
  obtain ⟨A, c, rfl⟩ := hr.length
  cases ahead with
  | nil =>
    go_enter Try.func28, Try.ntmps28
    go_wp2
    go_ret
    exact ⟨rfl, HH.out, RStep.of_but HBK.out HBK.out (But.of_below (Below.refl _ _)) (fun k off n c e => ⟨_, _, _, e⟩)⟩
  | cons x t =>
    rcases hr with ⟨_, _, _, h0⟩ | ⟨g, off, cap, e1, hlt, hlc, hcm, hc⟩
    · cases h0
    · obtain ⟨rfl, rfl⟩ : A = some ⟨g, off, none⟩ ∧ c = cap := by injection e1 with e1 _ e3; exact ⟨e1, e3⟩
      have q0 := hc 0 (by simp)
      simp only [Nat.add_zero, List.getD_cons_zero] at q0
      have HC := Lib.hid hc
      have HLC := Lib.hid hlc
      have hll := HH.out.len
      have hx := x.toNat_lt
      have hcap : t.length + 1 ≤ c := by simpa using hlc
      clear hc e1 hlc
      simp only [List.length_cons] at *
      unfold maxLen at hcm
      go_enter Try.func28, Try.ntmps28
      go_wp2
      · go_ret
        obtain rfl : t = [] := List.eq_nil_of_length_eq_zero (by omega)
        have hs : Bk (w.setCell ⟨gr, 0, none⟩ (.slice (some ⟨g, off, none⟩) ([] : List UInt8).length 0)) gr 71 #[.slice (some ⟨g, off, none⟩) 0 0, vp, .bool st, .int .u32 code] := HBK.out.set 0 _
        exact ⟨rfl, ⟨⟨_, vp, hs, .inl ⟨_, _, rfl, rfl⟩, own_setCell HO.out (ob_ne HO.out HBK.out (by decide)), fun g' off' n' c' e => by cases e; have m := HG.out _ _ _ _ rfl; exact ⟨m.1, m.2.1, m.2.2.1, by simpa [World.setCell] using m.2.2.2⟩⟩, HH.out.bp, HH.out.few, Nat.zero_le _, HH.out.small⟩, RStep.of_but HBK.out hs (But.setCell _ _ _ _) (fun k off n c e => by cases e; exact ⟨_, _, _, rfl⟩)⟩
      go_ret
      have hs : Bk (w.setCell ⟨gr, 0, none⟩ (.slice (some ⟨g, off + 1, none⟩) t.length (c - 1))) gr 71 #[.slice (some ⟨g, off + 1, none⟩) t.length (c - 1), vp, .bool st, .int .u32 code] := HBK.out.set 0 _
      have hbt : But gr w (w.setCell ⟨gr, 0, none⟩ (.slice (some ⟨g, off + 1, none⟩) t.length (c - 1))) := But.setCell _ _ _ _
      have hne := ob_ne HO.out HBK.out (by decide)
      refine ⟨rfl, ⟨⟨_, vp, hs, .inr ⟨g, off + 1, c - 1, rfl, Nat.lt_of_lt_of_le hlt hbt.size, by omega, by unfold maxLen; omega, fun j hj => ?_⟩, own_setCell HO.out hne, ?_⟩, HH.out.bp, HH.out.few, by show t.length ≤ _; omega, HH.out.small⟩, RStep.of_but HBK.out hs hbt (fun k off n c e => by cases e; exact ⟨_, _, _, rfl⟩)⟩
      · have := HC.out (j + 1) (by omega)
        rw [List.getD_cons_succ] at this
        refine (World.cell?_of_block (a := ⟨g, off + 1 + j, none⟩) (hbt.block hlt (HG.out _ _ _ _ rfl).2.1)).trans ?_
        rw [show off + 1 + j = off + (j + 1) by omega]
        exact this
      · intro g' off' n' c' e
        cases e
        have m := HG.out _ _ _ _ rfl
        exact ⟨m.1, m.2.1, m.2.2.1, by simpa [World.setCell] using m.2.2.2⟩
end Go.Proofs.Ytfffkfcemajcpaa
