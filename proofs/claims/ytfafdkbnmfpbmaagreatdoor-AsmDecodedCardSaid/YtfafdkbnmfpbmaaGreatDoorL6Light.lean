/- Are lines light? What that bounds. -/
import Derived.Test.YtfafdkbnmfpbmaaGreatDoorL6Print
import Derived.Test.YtfafdkbnmfpbmaaGreatDoorL6Open
namespace Go.Proofs.YtfafdkbnmfpbmaaGreatDoor
open Go.RowKit Kit
set_option linter.unusedVariables false
set_option linter.unusedSimpArgs false

theorem L6.weight_snoc {ls : List L6.Line} {k : Nat} (hk : k < ls.length) : L6.weight (ls.take (k + 1)) = L6.weight (ls.take k) + L6.lweight ls[k] := by
  rw [lines_take hk]
  simp only [L6.weight, List.map_append, List.sum_append, List.map_cons, List.map_nil, List.sum_cons, List.sum_nil, Nat.add_zero]
def LightPost (w : World) (ls : List L6.Line) (e : Ending) (w' : World) : Prop := ∃ b : Bool, e = .returned (.bool b) ∧ (b = true → L6.weight ls ≤ 3000) ∧ Below w.heap.size w w'
set_option maxRecDepth 100000 in
set_option maxHeartbeats 4000000 in
theorem llight_any (v : Value) (ls : List L6.Line) (w : World) (h : RdL w v ls) (hs : L6.Small ls) :
    Calls Tryz.prog 10 #[v] w (LightPost w ls) := by
  have HH := Lib.hid h
  have HS := Lib.hid hs
  have HLL := Lib.hid hs.1
  obtain ⟨A, c, rfl⟩ := h.form
  clear h hs
  go_enter Tryz.func10, Tryz.ntmps10
  go_wp2_with fail
  go_loopw [3, 4] (fun a i wr => ∃ (L : Int) (k n : Nat), a = .int .i64 L ∧ i = .int .i64 (k : Int) ∧ wr = w.drewN n ∧ k ≤ ls.length ∧ -1000000000000000 ≤ L ∧ L ≤ 3000 ∧ (0 ≤ L → L = 3000 - (L6.weight (ls.take k) : Nat))) (fun _ i _ => match i with | .int _ n => ls.length - n.toNat | _ => 0)
  case atStart => exact ⟨3000, 0, 0, rfl, rfl, rfl, Nat.zero_le _, by omega, by omega, fun _ => by simp [L6.weight]⟩
  case round =>
    obtain ⟨L, k, n, rfl, rfl, rfl, hk, hLlo, hLhi, hL⟩ := hrel
    have HL0 := Lib.hid hL
    clear hL
    by_cases hz : 0 ≤ L
    · by_cases hlt : k < ls.length
      · have hlt' : (k : Int) < (ls.length : Int) := by omega
        have hw1 : IntKind.i64.wrap ((k : Int) + 1) = (k : Int) + 1 := by have := HLL.out; rw [IntKind.wrap_i64]; omega
        obtain ⟨g, off, c', vl, va, e, hg, c0, c1, c2, r1, r2⟩ := HH.out.at hlt
        injection e with e1 e2 e3
        subst e1 e3
        have HWS := Lib.hid (L6.weight_snoc hlt)
        have HSM := Lib.hid (HS.out.2 _ (List.getElem_mem hlt))
        have HLE := Lib.hid (HL0.out hz)
        have HLT := Lib.hid hlt
        have HR1 := Lib.hid r1
        have HR2 := Lib.hid r2
        clear r1 r2 HL0
        generalize hX : ls[k] = X at *
        clear hX hlt
        obtain ⟨xl, xw, xa⟩ := X
        dsimp only at HR1 HR2 c1
        unfold L6.Line.Small at HSM
        dsimp only at HSM
        obtain ⟨B1, cc1, rfl⟩ := HR1.out.form
        obtain ⟨B2, cc2, rfl⟩ := HR2.out.form
        have s1 := HSM.out.1.1
        have s2 := HSM.out.2.1
        have s3 := HSM.out.2.2.1
        have w1 : IntKind.i64.wrap (L - 4) = L - 4 := by rw [IntKind.wrap_i64]; omega
        have w2 : IntKind.i64.wrap (L - 4 - (xw.length : Int)) = L - 4 - (xw.length : Int) := by rw [IntKind.wrap_i64]; omega
        have w3 : IntKind.i64.wrap (L - 4 - (xw.length : Int) - (xl.length : Int)) = L - 4 - (xw.length : Int) - (xl.length : Int) := by rw [IntKind.wrap_i64]; omega
        obtain ⟨M, hM⟩ : ∃ M : Int, M = L - 4 - (xw.length : Int) - (xl.length : Int) - (xa.length : Int) := ⟨_, rfl⟩
        have w4 : IntKind.i64.wrap (L - 4 - (xw.length : Int) - (xl.length : Int) - (xa.length : Int)) = M := by rw [IntKind.wrap_i64]; omega
        have hMlo : -1000000000000000 ≤ M := by omega
        have hMhi : M ≤ 3000 := by omega
        have HM := Lib.hid (show M = 3000 - ((L6.weight (ls.take k) : Nat) : Int) - 4 - (xw.length : Int) - (xl.length : Int) - (xa.length : Int) from by have := HLE.out; omega)
        have HWX := Lib.hid (show (L6.weight (ls.take (k + 1)) : Nat) = L6.weight (ls.take k) + (4 + xw.length + xl.length + xa.length + L6.tsum xl + L6.tsum xa) from HWS.out)
        clear hM s1 s2 s3
        go_wp2_with fail
        go_quiet (fail)
        go_wp2_with fail
        clear w1 w2 w3 w4
        go_loopw [3, 5] (fun a i wr => ∃ (L : Int) (j n : Nat), a = .int .i64 L ∧ i = .int .i64 (j : Int) ∧ wr = w.drewN n ∧ j ≤ xl.length ∧ -1000000000000000 ≤ L ∧ L ≤ 3000 ∧ (0 ≤ L → L = M - (L6.tsum (xl.take j) : Nat))) (fun _ i _ => match i with | .int _ n => xl.length - n.toNat | _ => 0)
        case atStart => exact ⟨_, 0, n + nq, rfl, rfl, by rw [World.drewN_drewN], Nat.zero_le _, by exact hMlo, by exact hMhi, fun hz => by simp [L6.tsum]⟩
        case round =>
          obtain ⟨L, j, n, rfl, rfl, rfl, hj, hLlo, hLhi, hL⟩ := hrel
          have HL := Lib.hid hL
          clear hL
          by_cases hjl : j < xl.length
          · have hjl' : (j : Int) < (xl.length : Int) := by omega
            by_cases hz : 0 ≤ L
            · obtain ⟨gl, ofl, cl, e, hgl, hcl⟩ := HR1.out.at hjl
              injection e with e1 e2 e3
              subst e1 e3
              have hmem : xl.getD j [] ∈ xl := by rw [List.getD, List.getElem?_eq_getElem hjl]; exact List.getElem_mem hjl
              have hyl := HSM.out.1.2 _ hmem
              have hfl := HSM.out.1.1
              have hwj : IntKind.i64.wrap ((j : Int) + 1) = (j : Int) + 1 := by rw [IntKind.wrap_i64]; omega
              have HJ := Lib.hid (show L6.tsum (xl.take (j + 1)) = L6.tsum (xl.take j) + (xl.getD j []).length from by rw [L6.take_snoc hjl, L6.tsum_app]; simp [L6.tsum])
              have HJL := Lib.hid hjl
              clear hmem hjl
              generalize xl.getD j [] = y at *
              have hwl : IntKind.i64.wrap (L - (y.length : Int)) = L - (y.length : Int) := by rw [IntKind.wrap_i64]; omega
              have HLE := Lib.hid (HL.out hz)
              go_wp2_with fail
              go_roundw
              case rel => exact ⟨L - (y.length : Int), j + 1, n, rfl, by simp, rfl, HJL.out, by omega, by omega, fun _ => by have := HLE.out; have := HJ.out; omega⟩
              case measure => have := HJL.out; simp; omega
            · have hz' : ¬ (0 : Int) ≤ L := hz
              go_wp2_with fail
              obtain ⟨P, hP⟩ : ∃ P : Int, P = 3000 - ((L6.weight (ls.take k) : Nat) : Int) - 4 - (xw.length : Int) - (xl.length : Int) - (xa.length : Int) - (L6.tsum xl : Nat) := ⟨_, rfl⟩
              have HPP : Hid (P = 3000 - ((L6.weight (ls.take k) : Nat) : Int) - 4 - (xw.length : Int) - (xl.length : Int) - (xa.length : Int) - (L6.tsum xl : Nat)) := Lib.hid hP
              clear hP
              go_loopw [3, 6] (fun a i wr => ∃ (L : Int) (j n : Nat), a = .int .i64 L ∧ i = .int .i64 (j : Int) ∧ wr = w.drewN n ∧ j ≤ xa.length ∧ -1000000000000000 ≤ L ∧ L ≤ 3000 ∧ (0 ≤ L → L = (P : Int) - (L6.tsum (xa.take j) : Nat))) (fun _ i _ => match i with | .int _ n => xa.length - n.toNat | _ => 0)
              case atStart => exact ⟨_, 0, _, rfl, rfl, rfl, Nat.zero_le _, by omega, by omega, fun hz0 => by omega⟩
              case round =>
                obtain ⟨L, j, n, rfl, rfl, rfl, hj, hLlo, hLhi, hL⟩ := hrel
                have HL := Lib.hid hL
                clear hL
                by_cases hjl : j < xa.length
                · have hjl' : (j : Int) < (xa.length : Int) := by omega
                  by_cases hz : 0 ≤ L
                  · obtain ⟨gl, ofl, cl, e, hgl, hcl⟩ := HR2.out.at hjl
                    injection e with e1 e2 e3
                    subst e1 e3
                    have hmem : xa.getD j [] ∈ xa := by rw [List.getD, List.getElem?_eq_getElem hjl]; exact List.getElem_mem hjl
                    have hyl := HSM.out.2.2.2 _ hmem
                    have hfl := HSM.out.2.2.1
                    have hwj : IntKind.i64.wrap ((j : Int) + 1) = (j : Int) + 1 := by rw [IntKind.wrap_i64]; omega
                    have HJ := Lib.hid (show L6.tsum (xa.take (j + 1)) = L6.tsum (xa.take j) + (xa.getD j []).length from by rw [L6.take_snoc hjl, L6.tsum_app]; simp [L6.tsum])
                    have HJL := Lib.hid hjl
                    clear hmem hjl
                    generalize xa.getD j [] = y at *
                    have hwl : IntKind.i64.wrap (L - (y.length : Int)) = L - (y.length : Int) := by rw [IntKind.wrap_i64]; omega
                    have HLE := Lib.hid (HL.out hz)
                    go_wp2_with fail
                    go_roundw
                    case rel => exact ⟨L - (y.length : Int), j + 1, n, rfl, by simp, rfl, HJL.out, by omega, by omega, fun _ => by have := HLE.out; have := HJ.out; omega⟩
                    case measure => have := HJL.out; simp; omega
                  · have hz' : ¬ (0 : Int) ≤ L := hz
                    go_wp2_with fail
                    go_roundw
                    case rel => exact ⟨L, k + 1, n, rfl, by simp, rfl, HLT.out, hLlo, hLhi, fun hh => by omega⟩
                    case measure => have := HLT.out; simp; omega
                · have hle : (xa.length : Int) ≤ (j : Int) := by omega
                  obtain rfl : j = xa.length := by omega
                  have HT := Lib.hid (show xa.take xa.length = xa from List.take_of_length_le (Nat.le_refl _))
                  go_wp2_with fail
                  go_roundw
                  case rel => exact ⟨L, k + 1, n, rfl, by simp, rfl, HLT.out, hLlo, hLhi, fun hh => by have := HL.out hh; rw [HT.out] at this; have := HPP.out; have := HWX.out; omega⟩
                  case measure => have := HLT.out; simp; omega
          · have hle : (xl.length : Int) ≤ (j : Int) := by omega
            obtain rfl : j = xl.length := by omega
            have HT := Lib.hid (show xl.take xl.length = xl from List.take_of_length_le (Nat.le_refl _))
            go_wp2_with fail
            have HLL2 := Lib.hid (fun hz => (HL.out hz).trans (by rw [HT.out, HM.out]))
            obtain ⟨P, hP⟩ : ∃ P : Int, P = 3000 - ((L6.weight (ls.take k) : Nat) : Int) - 4 - (xw.length : Int) - (xl.length : Int) - (xa.length : Int) - (L6.tsum xl : Nat) := ⟨_, rfl⟩
            have HPP : Hid (P = 3000 - ((L6.weight (ls.take k) : Nat) : Int) - 4 - (xw.length : Int) - (xl.length : Int) - (xa.length : Int) - (L6.tsum xl : Nat)) := Lib.hid hP
            rw [← hP] at HLL2
            clear hP
            go_loopw [3, 6] (fun a i wr => ∃ (L : Int) (j n : Nat), a = .int .i64 L ∧ i = .int .i64 (j : Int) ∧ wr = w.drewN n ∧ j ≤ xa.length ∧ -1000000000000000 ≤ L ∧ L ≤ 3000 ∧ (0 ≤ L → L = (P : Int) - (L6.tsum (xa.take j) : Nat))) (fun _ i _ => match i with | .int _ n => xa.length - n.toNat | _ => 0)
            case atStart => exact ⟨_, 0, _, rfl, rfl, rfl, Nat.zero_le _, by omega, by omega, fun hz => by have := HLL2.out hz; simp [L6.tsum]; omega⟩
            case round =>
              obtain ⟨L, j, n, rfl, rfl, rfl, hj, hLlo, hLhi, hL⟩ := hrel
              have HL := Lib.hid hL
              clear hL
              by_cases hjl : j < xa.length
              · have hjl' : (j : Int) < (xa.length : Int) := by omega
                by_cases hz : 0 ≤ L
                · obtain ⟨gl, ofl, cl, e, hgl, hcl⟩ := HR2.out.at hjl
                  injection e with e1 e2 e3
                  subst e1 e3
                  have hmem : xa.getD j [] ∈ xa := by rw [List.getD, List.getElem?_eq_getElem hjl]; exact List.getElem_mem hjl
                  have hyl := HSM.out.2.2.2 _ hmem
                  have hfl := HSM.out.2.2.1
                  have hwj : IntKind.i64.wrap ((j : Int) + 1) = (j : Int) + 1 := by rw [IntKind.wrap_i64]; omega
                  have HJ := Lib.hid (show L6.tsum (xa.take (j + 1)) = L6.tsum (xa.take j) + (xa.getD j []).length from by rw [L6.take_snoc hjl, L6.tsum_app]; simp [L6.tsum])
                  have HJL := Lib.hid hjl
                  clear hmem hjl
                  generalize xa.getD j [] = y at *
                  have hwl : IntKind.i64.wrap (L - (y.length : Int)) = L - (y.length : Int) := by rw [IntKind.wrap_i64]; omega
                  have HLE := Lib.hid (HL.out hz)
                  go_wp2_with fail
                  go_roundw
                  case rel => exact ⟨L - (y.length : Int), j + 1, n, rfl, by simp, rfl, HJL.out, by omega, by omega, fun _ => by have := HLE.out; have := HJ.out; omega⟩
                  case measure => have := HJL.out; simp; omega
                · have hz' : ¬ (0 : Int) ≤ L := hz
                  go_wp2_with fail
                  go_roundw
                  case rel => exact ⟨L, k + 1, n, rfl, by simp, rfl, HLT.out, hLlo, hLhi, fun hh => by omega⟩
                  case measure => have := HLT.out; simp; omega
              · have hle : (xa.length : Int) ≤ (j : Int) := by omega
                obtain rfl : j = xa.length := by omega
                have HT := Lib.hid (show xa.take xa.length = xa from List.take_of_length_le (Nat.le_refl _))
                go_wp2_with fail
                go_roundw
                case rel => exact ⟨L, k + 1, n, rfl, by simp, rfl, HLT.out, hLlo, hLhi, fun hh => by have := HL.out hh; rw [HT.out] at this; have := HPP.out; have := HWX.out; omega⟩
                case measure => have := HLT.out; simp; omega
      · have hle : (ls.length : Int) ≤ (k : Int) := by omega
        obtain rfl : k = ls.length := by omega
        have HT := Lib.hid (show L = 3000 - ((L6.weight ls : Nat) : Int) from by have := HL0.out hz; rwa [List.take_of_length_le (Nat.le_refl _)] at this)
        go_wp2_with fail
        go_ret
        exact ⟨true, rfl, fun _ => by have := HT.out; omega, isDrewN6 (Below.refl _ _) _⟩
    · have hz' : ¬ (0 : Int) ≤ L := hz
      by_cases hlt : k < ls.length
      · have hlt' : (k : Int) < (ls.length : Int) := by omega
        go_wp2_with fail
        go_ret
        exact ⟨false, rfl, fun hh => by simp at hh, isDrewN6 (Below.refl _ _) _⟩
      · have hle : (ls.length : Int) ≤ (k : Int) := by omega
        go_wp2_with fail
        go_ret
        exact ⟨false, rfl, fun hh => by simp at hh, isDrewN6 (Below.refl _ _) _⟩
end Go.Proofs.YtfafdkbnmfpbmaaGreatDoor
