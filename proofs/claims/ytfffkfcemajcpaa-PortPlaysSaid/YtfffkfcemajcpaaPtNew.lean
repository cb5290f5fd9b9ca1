/- Walks: Halt, New. -/
import Derived.Test.YtfffkfcemajcpaaPtActs
import Derived.Test.YtfffkfcemajcpaaKitOpen
namespace Go.Proofs.Ytfffkfcemajcpaa
open Go.RowKit Kit
set_option linter.unusedVariables false
set_option linter.unusedSimpArgs false

set_option maxRecDepth 20000 in
theorem halt_port (w : World) (base gp gc : Nat) (ahead put : List UInt8) (h : Bool) (code v : Nat) (hv : v < 4294967296) (H : OwnP w base gp gc ahead put h code) :
    Calls Try.prog 30 #[.pointer (some ⟨gp, 0, none⟩), .int .u32 v] w fun e w' => e = .returned (.tuple #[]) ∧ OwnP w' base gp gc ahead put true (if h then code else v) ∧ PStep w w' gp gc := by
  obtain ⟨ov, hb, ho⟩ := H.obj
  have c0 : w.cell? ⟨gp, 0, none⟩ = some (.chan (some gc)) := hb.cell 0
  have c2 : w.cell? ⟨gp, 2, none⟩ = some (.bool h) := hb.cell 2
  have c3 : w.cell? ⟨gp, 3, none⟩ = some (.int .u32 code) := hb.cell 3
  have f2 := hb.free 2
  have f3 := hb.free 3
  have HH := Lib.hid H
  have HO := Lib.hid ho
  have HBK := Lib.hid hb
  have HV := Lib.hid hv
  clear H hb ho hv
  cases h
  · go_enter Try.func30, Try.ntmps30
    go_wp2_with (go_at_call 38; refine (none_port _ gp gc c0).mono ?_; rintro e w' ⟨rfl, rfl⟩)
    go_end0
    obtain ⟨n1, n2, n3⟩ := HH.out.gc_ne
    obtain ⟨cap, s, r, hc⟩ := HH.out.ch
    have hs : Bk ((w.setCell ⟨gp, 2, none⟩ (.bool true)).setCell ⟨gp, 3, none⟩ (.int .u32 (v : Int))) gp 56 #[.chan (some gc), ov, .bool true, .int .u32 v] := (HBK.out.set 2 _).set 3 _
    have hne := ob_ne HO.out HBK.out (by decide)
    have hfar : ∀ k, k ≠ gp → ((w.setCell ⟨gp, 2, none⟩ (.bool true)).setCell ⟨gp, 3, none⟩ (.int .u32 (v : Int))).heap[k]? = w.heap[k]? := fun k hk => (Below.heap_setCell _ ⟨gp, 3, none⟩ _ k hk).trans (Below.heap_setCell _ ⟨gp, 2, none⟩ _ k hk)
    refine ⟨rfl, ⟨⟨ov, hs, own_setCell (own_setCell HO.out hne) hne⟩, ⟨cap, s, r, (hfar gc n1).trans hc⟩, HH.out.bp, HH.out.bc, HH.out.few, by simpa using HV.out⟩, ⟨⟨rfl, rfl, rfl, by simp [World.setCell], fun k _ hn => hfar k (fun e => hn (.inl e))⟩, ?_⟩⟩
    rintro k (rfl | rfl | hk)
    · exact .inl (.inl rfl)
    · exact .inl (.inr (.inl rfl))
    · obtain ⟨x, v', y, z, h1, h2⟩ := hk
      have := (h1.uniq hs).2
      simp at this
      obtain ⟨_, rfl, _⟩ := this
      exact .inl (.inr (.inr ⟨_, _, _, _, HBK.out, h2⟩))
  · go_enter Try.func30, Try.ntmps30
    go_wp2_with (go_at_call 38; refine (none_port _ gp gc c0).mono ?_; rintro e w' ⟨rfl, rfl⟩)
    go_end0
    exact ⟨rfl, HH.out, ⟨Only.refl _ _, fun k hk => .inl hk⟩⟩

set_option maxRecDepth 20000 in
theorem new_many (w : World) (A : Option Addr) (n c : Nat) (hn : 65536 < n) (hm : n ≤ maxLen) :
    Calls Try.prog 11 #[.slice A n c] w fun e w' => e = .returned (.tuple #[.pointer none, .int .i64 1]) ∧ w = w' := by
  unfold maxLen at hm
  have hg : decide (65536 < (n : Int)) = true := by simp; omega
  clear hn
  go_enter Try.func11, Try.ntmps11
  go_wp2
  go_ret2
  exact ⟨rfl, rfl⟩
theorem mk_chan (n : Nat) (hn : n ≤ 65536) (W : World) : (Instr.makeChan 54 (.int .i64 (n : Int))).run Try.prog W = .ok (.chan (some W.heap.size)) (W.alloc (.chan n #[] false 0 0 false)) := by
  have h : (Try.prog.info? 5).map (·.bytes) = some 1 := by kernel_rfl
  obtain ⟨i, hi, hb⟩ := Option.map_eq_some_iff.1 h
  simpa using Conc.run_makeChan (P := Try.prog) (w := W) Try.underlying54 hi .i64 n (by omega) (by rw [hb]; omega)

set_option maxRecDepth 20000 in
set_option maxHeartbeats 1000000 in
theorem new_port (w : World) (v : Value) (l : List UInt8) (h : RdB w v l) (hl : l.length ≤ 65536) :
    Calls Try.prog 11 #[v] w fun e w' => ∃ gp gc, e = .returned (.tuple #[.pointer (some ⟨gp, 0, none⟩), .int .i64 0]) ∧ OwnP w' w.heap.size gp gc l [] false 0 ∧ Below w.heap.size w w' := by
  obtain ⟨A, c, rfl⟩ := h.length
  have hg : decide (65536 < (l.length : Int)) = false := by simp; omega
  have hli : (l.length : Int) ≤ 65536 := by omega
  have hmk := mk_chan l.length hl
  have HC := Lib.hid (show ∀ j, j < l.length → ∀ W, Below w.heap.size w W → ∃ g off, A = some ⟨g, off, none⟩ ∧ W.cell? ⟨g, off + j, none⟩ = some (.int .u8 (l.getD j 0).toNat) from fun j hj W hb => by
    rcases h.below hb with ⟨_, _, _, rfl⟩ | ⟨g, off, cap, e, _, _, _, hc⟩
    · simp at hj
    · injection e with e
      exact ⟨g, off, e, hc j hj⟩)
  have HT := Lib.hid (show ∀ j, j < l.length → bv (l.take (j + 1)) = bv (l.take j) ++ [.int .u8 (l.getD j 0).toNat] from fun j hj => by
    rw [List.take_succ_eq_append_getElem hj, bv_append]
    simp [bv, List.getD, List.getElem?_eq_getElem hj])
  have HL := Lib.hid hl
  have HBV := Lib.hid (show ∀ j, j ≤ l.length → (bv (l.take j)).length = j from fun j hj => by rw [bv_length, List.length_take]; omega)
  have HALL := Lib.hid (show bv (l.take l.length) = bv l by rw [List.take_of_length_le (Nat.le_refl _)])
  clear h
  generalize hn : l.length = n at *
  clear hn
  go_enter Try.func11, Try.ntmps11
  go_wp2_with fail
  have HB1 := Lib.hid (show Below w.heap.size w ((w.alloc (.chan n #[] false 0 0 false)).alloc (.cells #[.chan (some w.heap.size), .slice none 0 0, .bool false, .int .u32 0] 56)) from ((Below.refl w.heap.size w).alloc (Nat.le_refl _) _).alloc (by simp) _)
  go_loopw [17] (fun i wr => ∃ j : Nat, j ≤ n ∧ i = .int .i64 j ∧ Bk wr (w.heap.size + 1) 56 #[.chan (some w.heap.size), .slice none 0 0, .bool false, .int .u32 0] ∧ wr.heap[w.heap.size]? = some (.chan n (bv (l.take j)).toArray false j 0 false) ∧ Below w.heap.size w wr) (fun i _ => n - (intOf i).toNat)
  case atStart =>
    refine ⟨0, Nat.zero_le _, rfl, ?_, ?_, HB1.out⟩
    · have := Bk.fresh (w.alloc (.chan n #[] false 0 0 false)) 56 #[.chan (some w.heap.size), .slice none 0 0, .bool false, .int .u32 0]
      simpa only [World.size_alloc] using this
    · rw [Below.heap_alloc _ _ _ (by simp)]
      exact heap_alloc_new w _
  case round =>
    obtain ⟨j, hj, rfl, hbk, hch, hbr⟩ := hrel
    by_cases hlt : j < n
    · obtain ⟨g, off, hA, c0⟩ := HC.out j hlt wr hbr
      subst hA
      have q0 := hbk.cell 0
      have HBK := Lib.hid hbk
      have HCH := Lib.hid hch
      have HBR := Lib.hid hbr
      have HTJ := Lib.hid (HT.out j hlt)
      have HBJ := Lib.hid (HBV.out j hj)
      clear hbk hch hbr
      generalize hx : l.getD j 0 = x at *
      clear hx
      generalize hbx : bv (l.take j) = bs at *
      have HBX := Lib.hid hbx
      clear hbx
      go_upto_region 7 with fail
      refine wp_of_reg ?_
      show RegTo _ _ _ [0, 1, 2, 3, 4, 5] _ _
      iterate 5
        (refine RegTo.oper rfl (by simp [Region.wanted]) (fun K hK => ?_)
         go_simp
         refine hK _ _ ?_
         clear hK K)
      refine RegTo.send (c := w.heap.size) (v := .int .u8 x.toNat) (z := .tuple #[]) rfl (by simp [Region.wanted]) (by simp [go_sem, execOp, Conc.scase, Act.eval]) HCH.out (by simp; have := HBJ.out; omega) ?_
      refine RegTo.nil ?_
      have hp : bs.toArray.push (.int .u8 (x.toNat : Int)) = (bv (l.take (j + 1))).toArray := by
        rw [HTJ.out]; simp
      go_wp2
      go_roundw
      case rel => exact ⟨j + 1, by omega, by go_num, (heap_setChan_ne wr w.heap.size (w.heap.size + 1) _ _ _ _ _ _ (by omega)).trans HBK.out, by rw [← hp]; exact Conc.heap_setChan wr w.heap.size _ _ _ _ _ _ (Array.getElem?_eq_some_iff.1 HCH.out).1, Conc.below_setChan HBR.out (Nat.le_refl _) _ _ _ _ _ _⟩
      case measure => simp [intOf]; omega
    · obtain rfl : j = n := by omega
      go_wp2
      go_ret2
      refine ⟨w.heap.size + 1, w.heap.size, rfl, ⟨⟨_, hbk, OwnB.nil _ _ _⟩, ⟨_, _, _, by rw [← HALL.out]; exact hch⟩, by omega, by omega, by simp, by decide⟩, hbr⟩
end Go.Proofs.Ytfffkfcemajcpaa
