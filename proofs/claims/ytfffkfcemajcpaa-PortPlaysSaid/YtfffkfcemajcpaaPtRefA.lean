/- The document's port: Halt, In. -/
import Derived.Test.YtfffkfcemajcpaaPtRef
namespace Go.Proofs.Ytfffkfcemajcpaa
open Go.RowKit Kit
set_option linter.unusedVariables false
set_option linter.unusedSimpArgs false

theorem RStep.of_but {w w' : World} {gr : Nat} {va vp b c va' b' c' : Value} (hb : Bk w gr 71 #[va, vp, b, c]) (hb' : Bk w' gr 71 #[va', vp, b', c']) (hbt : But gr w w')
    (hv : ∀ k off n c, va' = .slice (some ⟨k, off, none⟩) n c → ∃ off n c, va = .slice (some ⟨k, off, none⟩) n c) : RStep w w' gr := by
  refine ⟨⟨hbt.os, hbt.tape, hbt.output, hbt.size, fun k hk hn => hbt.block hk (fun e => hn (.inl e))⟩, ?_, ?_⟩
  · rintro k (rfl | ⟨x, v, y, z, h1, h2⟩)
    · exact .inl (.inl rfl)
    · have := (h1.uniq hb').2
      simp at this
      obtain ⟨_, rfl, _⟩ := this
      exact .inl (.inr ⟨_, _, _, _, hb, h2⟩)
  · rintro k ⟨x, v, y, z, off, n, c2, h1, e⟩
    have := (h1.uniq hb').2
    simp at this
    obtain ⟨rfl, _⟩ := this
    obtain ⟨o2, n2, c3, e2⟩ := hv _ _ _ _ e
    exact ⟨_, _, _, _, o2, n2, c3, hb, e2⟩
theorem rhalt_port (w : World) (base gr : Nat) (ahead put : List UInt8) (h : Bool) (code v : Nat) (hv : v < 4294967296) (H : RefP w base gr ahead put h code) :
    Calls Try.prog 31 #[.pointer (some ⟨gr, 0, none⟩), .int .u32 v] w fun e w' => e = .returned (.tuple #[]) ∧ RefP w' base gr ahead put true (if h then code else v) ∧ RStep w w' gr := by
  obtain ⟨va, vp, hb, hr, ho, hg⟩ := H.obj
  have c2 : w.cell? ⟨gr, 2, none⟩ = some (.bool h) := hb.cell 2
  have c3 : w.cell? ⟨gr, 3, none⟩ = some (.int .u32 code) := hb.cell 3
  have f2 := hb.free 2
  have f3 := hb.free 3
  have HH := Lib.hid H
  have HO := Lib.hid ho
  have HR := Lib.hid hr
  have HG := Lib.hid hg
  have HBK := Lib.hid hb
  have HV := Lib.hid hv
  clear H hb ho hr hg hv
  cases h
  · go_enter Try.func31, Try.ntmps31
    go_wp2
    go_end0
    have hs : Bk ((w.setCell ⟨gr, 2, none⟩ (.bool true)).setCell ⟨gr, 3, none⟩ (.int .u32 (v : Int))) gr 71 #[va, vp, .bool true, .int .u32 v] := (HBK.out.set 2 _).set 3 _
    have hne := ob_ne HO.out HBK.out (by decide)
    have hbt : But gr w ((w.setCell ⟨gr, 2, none⟩ (.bool true)).setCell ⟨gr, 3, none⟩ (.int .u32 (v : Int))) := (But.setCell _ _ _ _).trans (But.setCell _ _ _ _)
    have hrd : RdB ((w.setCell ⟨gr, 2, none⟩ (.bool true)).setCell ⟨gr, 3, none⟩ (.int .u32 (v : Int))) va ahead := by
      rcases HR.out with h | ⟨g, off, cap, rfl, hlt, hlc, hcm, hc⟩
      · exact .inl h
      · exact .inr ⟨g, off, cap, rfl, Nat.lt_of_lt_of_le hlt hbt.size, hlc, hcm, fun j hj => (World.cell?_of_block (a := ⟨g, off + j, none⟩) (hbt.block hlt (HG.out _ _ _ _ rfl).2.1)).trans (hc j hj)⟩
    exact ⟨rfl, ⟨⟨va, vp, hs, hrd, own_setCell (own_setCell HO.out hne) hne, fun g off n c e => ⟨(HG.out g off n c e).1, (HG.out g off n c e).2.1, (HG.out g off n c e).2.2.1, Nat.lt_of_lt_of_le (HG.out g off n c e).2.2.2 hbt.size⟩⟩, HH.out.bp, HH.out.few, HH.out.len, by simpa using HV.out⟩, RStep.of_but HBK.out hs hbt (fun k off n c e => ⟨_, _, _, e⟩)⟩
  · go_enter Try.func31, Try.ntmps31
    go_wp2
    go_end0
    exact ⟨rfl, HH.out, RStep.of_but HBK.out HBK.out (But.of_below (Below.refl _ _)) (fun k off n c e => ⟨_, _, _, e⟩)⟩
end Go.Proofs.Ytfffkfcemajcpaa
