/- The walk of strings.Lines: its iterator writes the box that it has captured. -/
import Derived.Test.YtfafdkbnmfpbmaaGreatDoorKitF
import Derived.Test.YtfafdkbnmfpbmaaGreatDoorL6Cut
namespace Go.Proofs.YtfafdkbnmfpbmaaGreatDoor
open Go.RowKit Go.Shelf Kit
set_option linter.unusedVariables false
set_option linter.unusedSimpArgs false
attribute [local go_sem] Oper.semAt_some

def L6.bx (s : List UInt8) : Array Value := #[.string ⟨s.toArray⟩]
theorem lines1_measure {w w' : World} {bs : Nat} {a b : List UInt8} (h : w.cell? ⟨bs, 0, none⟩ = some (.string ⟨a.toArray⟩)) (h' : w'.cell? ⟨bs, 0, none⟩ = (L6.bx b)[0]?) (hl : b.length < a.length) :
    (match w'.cell? ⟨bs, 0, none⟩ with | some (.string t) => t.size | _ => 0) < (match w.cell? ⟨bs, 0, none⟩ with | some (.string t) => t.size | _ => 0) := by
  rw [h', h]
  simpa [L6.bx, ByteArray.size] using hl
set_option maxRecDepth 100000 in
set_option maxHeartbeats 1000000 in
theorem lines1_in (n l bs : Nat) (hn : 1 ≤ n) (J : List UInt8 → World → Prop) (Jx : World → Prop)
    (hJs : ∀ s W u, J s W → J s (W.setCell ⟨bs, 0, none⟩ u)) (hJd : ∀ s W, J s W → J s W.drew)
    (s0 : List UInt8) (hs0 : s0.length ≤ 1000000000) (hY : ∀ s W, s ≠ [] → s.length ≤ s0.length → J s W → Bk W bs 9 (L6.bx (L6.piece s).2) → YieldAt Fence.wide (n - 1) Tryz.prog l #[.string ⟨(L6.piece s).1.toArray⟩] W fun e W' =>
      (e = .returned (.bool true) ∧ J (L6.piece s).2 W' ∧ Bk W' bs 9 (L6.bx (L6.piece s).2)) ∨ (e = .returned (.bool false) ∧ Jx W'))
    (W : World) (h0 : J s0 W) (hb : Bk W bs 9 (L6.bx s0)) :
    CallsIn Fence.wide n Tryz.prog 146 #[.func (.yield l) #[] #[], .pointer (some ⟨bs, 0, none⟩)] W fun e W' => (∃ v, e = .returned v) ∧ (J [] W' ∨ Jx W') := by
  have HS0 := Lib.hid hs0
  clear hs0
  refine callsIn_of_wp Tryz.func146 rfl trivial ?_ rfl
  simp only [Tryz.ntmps146, List.size_toArray, List.length_cons, List.length_nil, Nat.reduceAdd, Nat.reduceSub, Array.replicate_succ, Array.replicate_zero, List.push_toArray, List.append_toArray, List.nil_append, List.cons_append]
  have HJ0 := Lib.hid h0
  have HB0 := Lib.hid hb
  have HY := Lib.hid hY
  have HJS := Lib.hid hJs
  have HJD := Lib.hid hJd
  clear h0 hb hY hJs hJd
  gi_wp2
  gi_loopw [] (fun wr => ∃ s, J s wr ∧ Bk wr bs 9 (L6.bx s) ∧ s.length ≤ s0.length) (fun wr => match wr.cell? ⟨bs, 0, none⟩ with | some (.string t) => t.size | _ => 0)
  case atStart => exact ⟨s0, HJ0.out, HB0.out, Nat.le_refl _⟩
  case round =>
    obtain ⟨s, hJ, hbk, hle⟩ := hrel
    have HJ := Lib.hid hJ
    have HBK := Lib.hid hbk
    have HLE := Lib.hid hle
    clear hJ hle
    have hc := hbk.cell 0
    have hf := hbk.free 0
    simp only [L6.bx, List.getElem?_toArray, List.getElem?_cons_zero] at hc
    clear hbk
    by_cases he : s = []
    · subst he
      gi_wp2
      go_end0
      exact ⟨⟨_, rfl⟩, .inl HJ.out⟩
    · have HE := Lib.hid he
      have hpos : 0 < s.length := List.length_pos_iff.2 he
      have hpos' : (0 : Int) < s.length := by omega
      have CI := fun W => Tryz.strings_IndexByte ⟨s.toArray⟩ 10 W
      rw [show Int.toNat 10 = 10 from rfl] at CI
      simp only [Nat.toUInt8_eq] at CI
      have hleft := L6.piece_left he
      by_cases hi : Lib.indexByte s 10 = -1
      · have hp := L6.piece_none hi
        have CI := Lib.hid (fun W => (CI W).mono (R' := fun e w' => e = .returned (.int .i64 (-1)) ∧ W = w') (fun e w' h => ⟨by rw [h.1]; exact congrArg (fun z => Ending.returned (.int .i64 z)) hi, h.2.symm⟩))
        obtain ⟨fn, tmps, assign, body, hy, hR⟩ := HY.out s (wr.setCell ⟨bs, 0, none⟩ (.string ⟨#[]⟩)) he HLE.out (HJS.out _ _ _ HJ.out) (by have := HBK.out.set 0 (.string ⟨#[]⟩); rw [hp]; simpa [L6.bx] using this)
        rw [hp] at hy hR
        have HI := Lib.hid hi
        have HP := Lib.hid hp
        clear he hi hp
        gi_wp2_with (refine ⟨trivial, ?_⟩; gi_at_call 147; refine (callsIn_wide.2 (CI.out _)).mono ?_; rintro e w' ⟨rfl, rfl⟩)
        refine hR.mono ?_
        rintro e W3 (⟨rfl, hJ3, hk3⟩ | ⟨rfl, hJx3⟩)
        · gi_wp2
          go_roundw
          case rel => exact ⟨[], hJ3, hk3, by simp⟩
          case measure => exact lines1_measure hc (hk3.cell 0) (by simpa using hpos)
        · gi_wp2
          refine bodyPost_ret (results_none rfl _ _ _) rfl ?_
          exact ⟨⟨_, rfl⟩, .inr hJx3⟩
      · obtain ⟨k, hk⟩ : ∃ k : Nat, Lib.indexByte s 10 = (k : Int) := ⟨(Lib.indexByte s 10).toNat, by have := Lib.indexByte_ge s 10; omega⟩
        obtain ⟨hk1, hp⟩ := L6.piece_some k hk
        have CI := Lib.hid (fun W => (CI W).mono (R' := fun e w' => e = .returned (.int .i64 (k : Int)) ∧ W = w') (fun e w' h => ⟨by rw [h.1]; exact congrArg (fun z => Ending.returned (.int .i64 z)) hk, h.2.symm⟩))
        obtain ⟨fn, tmps, assign, body, hy, hR⟩ := HY.out s (wr.setCell ⟨bs, 0, none⟩ (.string ⟨(s.drop (k + 1)).toArray⟩)).drew he HLE.out (HJD.out _ _ (HJS.out _ _ _ HJ.out)) (by have := (HBK.out.set 0 (.string ⟨(s.drop (k + 1)).toArray⟩)).kept (Below.refl _ _).drew; rw [hp]; simpa [L6.bx] using this)
        rw [hp] at hy hR
        have HI := Lib.hid hk
        have HP := Lib.hid hp
        clear he hi hp hk
        have mixed : Tryz.prog.follows .mixedOrders = true := by kernel_rfl
        have hsl := HLE.out
        have hsl0 := HS0.out
        have hw : IntKind.i64.wrap ((k : Int) + 1) = (k : Int) + 1 := by go_bits; exact trivial
        have hi0 : (0 : Int) ≤ (k : Int) + 1 := by omega
        have hi1 : (k : Int) + 1 ≤ (s.length : Int) := by omega
        have hi2 : k + 1 ≤ s.length := by omega
        have hi3 : ((k : Int) + 1).toNat = k + 1 := by omega
        clear hsl hsl0
        have HX1 := Lib.hid (show (⟨s.toArray⟩ : ByteArray).extract 0 (k + 1) = ⟨(s.take (k + 1)).toArray⟩ by rw [ext_eq]; simp)
        have HX2 := Lib.hid (show (⟨s.toArray⟩ : ByteArray).extract (k + 1) s.length = ⟨(s.drop (k + 1)).toArray⟩ by rw [ext_eq, List.take_of_length_le (by simp)])
        gi_wp2_with (refine ⟨trivial, ?_⟩; gi_at_call 147; refine (callsIn_wide.2 (CI.out _)).mono ?_; rintro e w' ⟨rfl, rfl⟩)
        gi_region_with_o (fail)
        all_goals rw [HX1.out, HX2.out]
        all_goals gi_wp2
        all_goals refine hR.mono ?_
        all_goals rintro e W3 (⟨rfl, hJ3, hk3⟩ | ⟨rfl, hJx3⟩)
        all_goals gi_wp2
        all_goals first
          | (refine bodyPost_ret (results_none rfl _ _ _) rfl ?_; exact ⟨⟨_, rfl⟩, .inr hJx3⟩)
          | (go_roundw
             case rel => exact ⟨_, hJ3, hk3, by have := HLE.out; simp; omega⟩
             case measure => exact lines1_measure hc (hk3.cell 0) (by simp; omega))
end Go.Proofs.YtfafdkbnmfpbmaaGreatDoor
