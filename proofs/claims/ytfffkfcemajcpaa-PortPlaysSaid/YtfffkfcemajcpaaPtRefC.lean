/- The document's port: Out. -/
import Derived.Test.YtfffkfcemajcpaaPtRefB
namespace Go.Proofs.Ytfffkfcemajcpaa
open Go.RowKit Kit
set_option linter.unusedVariables false
set_option linter.unusedSimpArgs false

set_option maxRecDepth 20000 in
theorem rout_port (w : World) (base gr : Nat) (ahead put : List UInt8) (h : Bool) (code v : Nat) (hv : v < 4294967296) (H : RefP w base gr ahead put h code) :
    Calls Try.prog 29 #[.pointer (some ⟨gr, 0, none⟩), .int .u32 v] w fun e w' => e = .returned (.tuple #[]) ∧ RefP w' base gr ahead (Pt.out put v) h code ∧ RStep w w' gr := by
  obtain ⟨va, ov, hb, hr, ho, hg⟩ := H.obj
  obtain ⟨a, c, rfl⟩ := ho.len rfl
  have c1 : w.cell? ⟨gr, 1, none⟩ = some (.slice a put.length c) := hb.cell 1
  have hfew := H.few
  have HH := Lib.hid H
  have HO := Lib.hid ho
  have HR := Lib.hid hr
  have HG := Lib.hid hg
  have HBK := Lib.hid hb
  have hbase : base ≤ w.heap.size := by have := H.bp; have := hb.lt; omega
  have hvi : (v : Int) < 4294967296 := by omega
  clear H hb ho hr hg
  by_cases hl : put.length < 65536
  · have HP := Lib.hid (show Pt.out put v = put ++ [UInt8.ofNat v] by unfold Pt.out; rw [if_pos hl])
    have hli : decide ((put.length : Int) < 65536) = true := by simp; omega
    have HL := Lib.hid hl
    clear hl hfew
    generalize hn : put.length = n at *
    have HN := Lib.hid hn
    clear hn
    have hbv : #[Value.int .u8 ((v : Int) % 256)].toList = bv [UInt8.ofNat v] := by
      simp [bv, UInt8.toNat_ofNat']
    go_enter Try.func29, Try.ntmps29
    have HB1 := Lib.hid ((Below.refl w.heap.size w).alloc (Nat.le_refl _) (.cells #[.int .u8 ((v : Int) % 256)] 5))
    have HS := Lib.hid (src_of_built pbt w 5 _ [UInt8.ofNat v] 1 hbv)
    have HLN := Lib.hid (show (put ++ [UInt8.ofNat v]).length = n + 1 by simp; have := HN.out; omega)
    have hne := Lib.hid (ob_ne HO.out HBK.out (by decide))
    have hgs := Lib.hid HBK.out.lt
    clear hbv
    have HL1 := Lib.hid (show (n + 1) * 1 ≤ 140737488355328 by have := HL.out; omega)
    have HL2 := Lib.hid (show n + 1 ≤ maxLen by have := HL.out; unfold maxLen; omega)
    have HOO := Lib.hid (show (w.alloc (.cells #[.int .u8 ((v : Int) % 256)] 5)).ownsRow base 5 1 (.slice a n c) n (bv put) from by
      have := HO.out.kept HB1.out
      unfold OwnB at this
      rwa [HN.out] at this)
    go_upto_region 1 with fail
    go_wp2_with (at_builtin; refine wpList_appendRB rfl _ _ _ _ rfl prt (by decide) base _ rfl n (bv put) HOO.out _ rfl 1 (bv [UInt8.ofNat v]) HS.out HL1.out HL2.out (by simp; omega) ?_; intro v3 w3 ho3 hb3 hg3 hk3; obtain ⟨a3, c3, rfl⟩ := (Rd.of_own ho3).form; have hbk3 : Bk w3 gr 71 #[va, .slice a n c, .bool h, .int .u32 code] := (hg3.block gr (by have := hgs.out; simp; omega) (fun e => hne.out e.symm)).trans (HBK.out.kept HB1.out); have q1 := hbk3.cell 1; have q2 := hbk3.free 1)
    go_end0
    have hO3 : OwnB 5 base w3 (.slice a3 (n + 1) c3) (put ++ [UInt8.ofNat v]) := by
      unfold OwnB
      rw [HLN.out, bv_append]
      exact ho3
    have hne3 := ob_ne hO3 hbk3 (by decide)
    have hobs : ∀ k, Value.ownBlock (.slice a n c) = some k → ROutIn w gr k := fun k hk => ⟨_, _, _, _, HBK.out, hk⟩
    have hs4 : Bk (w3.setCell ⟨gr, 1, none⟩ (.slice a3 (n + 1) c3)) gr 71 #[va, .slice a3 (n + 1) c3, .bool h, .int .u32 code] := hbk3.set 1 _
    have hfar : ∀ k, k < w.heap.size → k ≠ gr → (∀ g, Value.ownBlock (.slice a n c) = some g → k ≠ g) → (w3.setCell ⟨gr, 1, none⟩ (.slice a3 (n + 1) c3)).heap[k]? = w.heap[k]? := fun k hk h1 h2 =>
      ((Below.heap_setCell w3 ⟨gr, 1, none⟩ _ k h1).trans (hg3.block k (by simp; omega) (fun e => h2 k e.symm rfl))).trans (HB1.out.block k hk)
    have hsz : w.heap.size ≤ (w3.setCell ⟨gr, 1, none⟩ (.slice a3 (n + 1) c3)).heap.size := by
      have := hg3.size
      simp [World.setCell] at this ⊢
      omega
    have hrd : RdB (w3.setCell ⟨gr, 1, none⟩ (.slice a3 (n + 1) c3)) va ahead := by
      rcases HR.out with h | ⟨g, off, cap, rfl, hlt, hlc, hcm, hc⟩
      · exact .inl h
      · obtain ⟨_, m2, m3, _⟩ := HG.out _ _ _ _ rfl
        exact .inr ⟨g, off, cap, rfl, Nat.lt_of_lt_of_le hlt hsz, hlc, hcm, fun j hj => (World.cell?_of_block (a := ⟨g, off + j, none⟩) (hfar g hlt m2 (fun k hk e => m3 (by rw [hk, e])))).trans (hc j hj)⟩
    refine ⟨rfl, ⟨⟨_, _, hs4, hrd, own_setCell (by rw [HP.out]; exact hO3) hne3, fun g off n' c' e => ?_⟩, HH.out.bp, by rw [HP.out, HLN.out]; have := HL.out; omega, HH.out.len, HH.out.small⟩, ⟨⟨hg3.os, hg3.tape, hg3.output, hsz, ?_⟩, ?_, ?_⟩⟩
    · obtain ⟨m1, m2, m3, m4⟩ := HG.out _ _ _ _ e
      refine ⟨m1, m2, fun e2 => ?_, Nat.lt_of_lt_of_le m4 hsz⟩
      rcases hk3 g e2 with h | h
      · exact m3 h
      · simp at h; omega
    · intro k hk hn
      exact hfar k hk (fun e => hn (.inl e)) (fun g hg e => hn (.inr (by rw [e]; exact hobs g hg)))
    · rintro k (rfl | hk)
      · exact .inl (.inl rfl)
      · obtain ⟨x, v', y, z, h1, h2⟩ := hk
        have := (h1.uniq hs4).2
        simp at this
        obtain ⟨_, rfl, _⟩ := this
        rcases hk3 k h2 with h | h
        · exact .inl (.inr (hobs k h))
        · exact .inr (by simp at h; omega)
    · rintro k ⟨x, v', y, z, o', n', c', h1, e⟩
      have := (h1.uniq hs4).2
      simp at this
      obtain ⟨rfl, _⟩ := this
      exact ⟨_, _, _, _, _, _, _, HBK.out, e⟩
  · have HP := Lib.hid (show Pt.out put v = put by unfold Pt.out; rw [if_neg hl])
    have hli : decide ((put.length : Int) < 65536) = false := by simp; omega
    clear hl hfew
    generalize put.length = n at *
    go_enter Try.func29, Try.ntmps29
    go_wp2_with fail
    go_end0
    exact ⟨rfl, by rw [HP.out]; exact HH.out, ⟨Only.refl _ _, fun k hk => .inl hk, fun k hk => hk⟩⟩
end Go.Proofs.Ytfffkfcemajcpaa
