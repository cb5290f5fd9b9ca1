/- The walk of the law MemoryPlays. -/
import Derived.Test.YtijekhdndegdaaaMmDo4
import Derived.Test.YtijekhdndegdaaaMmHoles
import Derived.Test.YtijekhdndegdaaaMmBackW
import Derived.Deep.DeepCutAuto
namespace Go.Proofs.Ytijekhdndegdaaa
open Go.RowKit Kit
set_option linter.unusedVariables false
set_option linter.unusedSimpArgs false


set_option maxRecDepth 100000 in
set_option maxHeartbeats 4000000 in
theorem core_memoryPlays (s : Int) (A : Option Addr) (c : Nat) (hs : List (Nat × Nat)) (B : Option Addr) (d : Nat) (l : List Mm.Act) (w : World) (hs1 : -9223372036854775808 ≤ s) (hs2 : s ≤ 9223372036854775807)
    (h : Rd w 2 (.slice A hs.length c) hs.length (Mm.hc hs)) (hsm : hs.length ≤ maxLen) (small : ∀ j, j < hs.length → (hs.getD j (0, 0)).1 < 4294967296 ∧ (hs.getD j (0, 0)).2 < 4294967296)
    (ha : Rd w 5 (.slice B l.length d) l.length (l.flatMap Mm.Act.cells)) (hok : ∀ x ∈ l, x.ok w) (hm : l.length ≤ maxLen) :
    Calls Try.prog 10 #[.int .i64 s, .slice A hs.length c, .slice B l.length d] w fun e w' => e = .returned (.bool true) ∧ Below w.heap.size w w' := by
  have HLI := Lib.hid (light_any w B d l ha hok hm)
  have HLA := Lib.hid (fun hlb : Mm.lightB l = true => Mm.light_act hlb)
  have HOK := Lib.hid hok
  have HC := Lib.hid (fun W (hb : Below w.heap.size w W) j hj => Mm.act_cell (ha.kept hb) (j := j) hj)
  have HSM := Lib.hid small
  have HHO := Lib.hid (fun W (hb : Below w.heap.size w W) few => holes_any W A c hs (h.kept hb) few)
  have HRN := Lib.hid (fun W (hb : Below w.heap.size w W) => rnew_any W s A c hs (h.kept hb) hsm small)
  have HNA := Lib.hid (fun W A2 c2 (hr : Rd W 2 (.slice A2 hs.length c2) hs.length (Mm.hc hs)) => new_arg W s A2 c2 hs hr hsm small)
  clear h ha hok small
  unfold maxLen at hsm hm
  generalize hll : l.length = ll at *
  have HLL := Lib.hid hll
  clear hll
  cases hlb : Mm.lightB l
  · rw [hlb] at HLI
    go_enter Try.func10, Try.ntmps10
    go_wp2_with fail
    refine HLI.out.mono ?_
    rintro e w1 ⟨rfl, hb1⟩
    go_wp2_with (go_at_call 18; refine (mknows_any _).mono ?_; rintro e w9 ⟨rfl, hb9⟩)
    go_ret
    exact ⟨rfl, hb1.trans (hb9.mono hb1.size)⟩
  rw [hlb] at HLI
  obtain ⟨hl50, h400⟩ := HLA.out hlb
  have H400 := Lib.hid h400
  clear h400 HLA hm hlb
  by_cases few : hs.length ≤ 30
  · by_cases hbad : 4096 < s ∧ s ≤ 1048576
    · obtain ⟨g1, g2⟩ := hbad
      have few' : (hs.length : Int) ≤ 30 := by omega
      clear hs1 hs2
      go_enter Try.func10, Try.ntmps10
      go_wp2_with fail
      refine HLI.out.mono ?_
      rintro e w1 ⟨rfl, hb1⟩
      go_wp2_with (go_at_call 18; refine (mknows_any _).mono ?_; rintro e w9 ⟨rfl, hb9⟩)
      go_ret
      exact ⟨rfl, hb1.trans (hb9.mono hb1.size)⟩
    · have few' : (hs.length : Int) ≤ 30 := by omega
      have HBAD := Lib.hid hbad
      have HFEW := Lib.hid few
      clear hbad few
      cases hno : Mm.newOk s hs
      · have HNO := Lib.hid hno
        clear hno
        by_cases hsz : s ≤ 4096
        all_goals
          first
          | (have hsx : s ≤ 4096 := hsz; clear hs1 hs2 hsz)
          | (have hsx : 1048576 < s := by have := HBAD.out; omega
             have hsy : 4096 < s := by omega
             clear hs1 hs2 hsz)
          go_enter Try.func10, Try.ntmps10
          go_wp2_with fail
          refine HLI.out.mono ?_
          rintro e w1 ⟨rfl, hb1⟩
          have HB1 := Lib.hid hb1
          clear hb1
          go_wp2_with fail
          refine (HHO.out _ HB1.out HFEW.out).mono ?_
          rintro e w2 ⟨v2, rfl, hown, hb2⟩
          have HB2 := Lib.hid (HB1.out.trans (hb2.mono HB1.out.size))
          obtain ⟨A2, c2, rfl⟩ := (Rd.of_own hown).form
          have HRD := Lib.hid (Rd.of_own hown)
          clear hown hb2
          go_wp2_with fail
          refine (HNA.out w2 A2 c2 HRD.out HNO.out).mono ?_
          rintro e w3 ⟨rfl, hb3⟩
          have HB3 := Lib.hid (HB2.out.trans (hb3.mono HB2.out.size))
          clear hb3
          go_wp2_with fail
          refine ((HRN.out w3 HB3.out).1 HNO.out).mono ?_
          rintro e w4 ⟨rfl, hb4⟩
          have HB4 := Lib.hid (HB3.out.trans (hb4.mono HB3.out.size))
          clear hb4
          go_wp2_with (go_at_call 21; refine (mnum_any _ _).mono ?_; rintro e w' ⟨rfl, rfl⟩)
          go_loopw [11] (fun i wr => i = .int .i64 0 ∧ wr = w4) (fun _ _ => 0)
          case atStart => exact ⟨rfl, rfl⟩
          case round =>
            obtain ⟨rfl, rfl⟩ := hrel
            by_cases hz : 0 < ll
            · have hz' : (0 : Int) < ll := by omega
              go_wp2_with fail
              refine wp_region_held_drew (S := fun _ => True) (by kernel_rfl) trivial (fun hHeld => ?_)
              refine wpAnyH_take (i := 0) (v := ?_) rfl (by kernel_rfl) (by kernel_rfl) (by kernel_rfl) (fun _ _ _ h => h) (Or.inl ⟨by rfl, ?_⟩) (by assumption) ?_
              rotate_left
              · (intro w hSw; (try dsimp only at hSw); simp only [List.getElem_toArray, List.getElem_cons_zero, List.getElem_cons_succ]; go_simp; (try with_reducible rfl))
              try simp only [Act.put, List.getElem_toArray, List.getElem_cons_zero, List.getElem_cons_succ, List.setIfInBounds_toArray, List.set_cons_zero, List.set_cons_succ]
              refine wpAnyH_take (i := 1) (v := ?_) rfl (by kernel_rfl) (by kernel_rfl) (by kernel_rfl) (fun _ _ _ h => h) (Or.inl ⟨by rfl, ?_⟩) (by assumption) ?_
              rotate_left
              · (intro w hSw; (try dsimp only at hSw); simp only [List.getElem_toArray, List.getElem_cons_zero, List.getElem_cons_succ]; go_simp; (try with_reducible rfl))
              try simp only [Act.put, List.getElem_toArray, List.getElem_cons_zero, List.getElem_cons_succ, List.setIfInBounds_toArray, List.set_cons_zero, List.set_cons_succ]
              refine wpAnyH_take (i := 2) (v := ?_) rfl (by kernel_rfl) (by kernel_rfl) (by kernel_rfl) (fun _ _ _ h => h) (Or.inl ⟨by rfl, ?_⟩) (by assumption) ?_
              rotate_left
              · (intro w hSw; (try dsimp only at hSw); simp only [List.getElem_toArray, List.getElem_cons_zero, List.getElem_cons_succ]; go_simp; (try with_reducible rfl))
              try simp only [Act.put, List.getElem_toArray, List.getElem_cons_zero, List.getElem_cons_succ, List.setIfInBounds_toArray, List.set_cons_zero, List.set_cons_succ]
              refine wpAnyH_take (i := 3) (v := undef) rfl (by kernel_rfl) (by kernel_rfl) (by kernel_rfl) (fun _ _ _ h => h) (Or.inr ⟨by rfl, rfl⟩) (by assumption) ?_
              try simp only [Act.put, List.getElem_toArray, List.getElem_cons_zero, List.getElem_cons_succ, List.setIfInBounds_toArray, List.set_cons_zero, List.set_cons_succ]
              refine wpAnyH_take (i := 4) (v := undef) rfl (by kernel_rfl) (by kernel_rfl) (by kernel_rfl) (fun _ _ _ h => h) (Or.inr ⟨by rfl, rfl⟩) (by assumption) ?_
              try simp only [Act.put, List.getElem_toArray, List.getElem_cons_zero, List.getElem_cons_succ, List.setIfInBounds_toArray, List.set_cons_zero, List.set_cons_succ]
              refine wpAnyH_take (i := 5) (v := undef) rfl (by kernel_rfl) (by kernel_rfl) (by kernel_rfl) (fun _ _ _ h => h) (Or.inr ⟨by rfl, rfl⟩) (by assumption) ?_
              try simp only [Act.put, List.getElem_toArray, List.getElem_cons_zero, List.getElem_cons_succ, List.setIfInBounds_toArray, List.set_cons_zero, List.set_cons_succ]
              refine wpAnyH_take (i := 6) (v := undef) rfl (by kernel_rfl) (by kernel_rfl) (by kernel_rfl) (fun _ _ _ h => h) (Or.inr ⟨by rfl, rfl⟩) (by assumption) ?_
              try simp only [Act.put, List.getElem_toArray, List.getElem_cons_zero, List.getElem_cons_succ, List.setIfInBounds_toArray, List.set_cons_zero, List.set_cons_succ]
              refine wpAnyH_take (i := 7) (v := undef) rfl (by kernel_rfl) (by kernel_rfl) (by kernel_rfl) (fun _ _ _ h => h) (Or.inr ⟨by rfl, rfl⟩) (by assumption) ?_
              try simp only [Act.put, List.getElem_toArray, List.getElem_cons_zero, List.getElem_cons_succ, List.setIfInBounds_toArray, List.set_cons_zero, List.set_cons_succ]
              refine wpAnyH_take (i := 8) (v := undef) rfl (by kernel_rfl) (by kernel_rfl) (by kernel_rfl) (fun _ _ _ h => h) (Or.inr ⟨by rfl, rfl⟩) (by assumption) ?_
              try simp only [Act.put, List.getElem_toArray, List.getElem_cons_zero, List.getElem_cons_succ, List.setIfInBounds_toArray, List.set_cons_zero, List.set_cons_succ]
              refine wpAnyH_take (i := 9) (v := undef) rfl (by kernel_rfl) (by kernel_rfl) (by kernel_rfl) (fun _ _ _ h => h) (Or.inr ⟨by rfl, rfl⟩) (by assumption) ?_
              try simp only [Act.put, List.getElem_toArray, List.getElem_cons_zero, List.getElem_cons_succ, List.setIfInBounds_toArray, List.set_cons_zero, List.set_cons_succ]
              refine wpAnyH_take (i := 10) (v := undef) rfl (by kernel_rfl) (by kernel_rfl) (by kernel_rfl) (fun _ _ _ h => h) (Or.inr ⟨by rfl, rfl⟩) (by assumption) ?_
              try simp only [Act.put, List.getElem_toArray, List.getElem_cons_zero, List.getElem_cons_succ, List.setIfInBounds_toArray, List.set_cons_zero, List.set_cons_succ]
              refine wpAnyH_take (i := 11) (v := undef) rfl (by kernel_rfl) (by kernel_rfl) (by kernel_rfl) (fun _ _ _ h => h) (Or.inr ⟨by rfl, rfl⟩) (by assumption) ?_
              try simp only [Act.put, List.getElem_toArray, List.getElem_cons_zero, List.getElem_cons_succ, List.setIfInBounds_toArray, List.set_cons_zero, List.set_cons_succ]
              refine wpAnyH_take (i := 12) (v := undef) rfl (by kernel_rfl) (by kernel_rfl) (by kernel_rfl) (fun _ _ _ h => h) (Or.inr ⟨by rfl, rfl⟩) (by assumption) ?_
              try simp only [Act.put, List.getElem_toArray, List.getElem_cons_zero, List.getElem_cons_succ, List.setIfInBounds_toArray, List.set_cons_zero, List.set_cons_succ]
              refine wpAnyH_take (i := 13) (v := ?_) rfl (by kernel_rfl) (by kernel_rfl) (by kernel_rfl) (fun _ _ _ h => h) (Or.inl ⟨by rfl, ?_⟩) (by assumption) ?_
              rotate_left
              · (intro w hSw; (try dsimp only at hSw); simp only [List.getElem_toArray, List.getElem_cons_zero, List.getElem_cons_succ]; go_simp; (try with_reducible rfl))
              try simp only [Act.put, List.getElem_toArray, List.getElem_cons_zero, List.getElem_cons_succ, List.setIfInBounds_toArray, List.set_cons_zero, List.set_cons_succ]
              refine wpAnyH_take (i := 14) (v := ?_) rfl (by kernel_rfl) (by kernel_rfl) (by kernel_rfl) (fun _ _ _ h => h) (Or.inl ⟨by rfl, ?_⟩) (by assumption) ?_
              rotate_left
              · (intro w hSw; (try dsimp only at hSw); simp only [List.getElem_toArray, List.getElem_cons_zero, List.getElem_cons_succ]; go_simp; (try with_reducible rfl))
              try simp only [Act.put, List.getElem_toArray, List.getElem_cons_zero, List.getElem_cons_succ, List.setIfInBounds_toArray, List.set_cons_zero, List.set_cons_succ]
              refine wpAnyH_ready (rs := [15]) (by kernel_rfl) (by simp) ?_
              refine AllReadyH.cons rfl (fun K hK => ?_) AllReadyH.nil
              simp only [List.getElem_toArray, List.getElem_cons_zero, List.getElem_cons_succ]
              rw [if_pos (by rfl)]
              go_simp
              go_at_call 18
              refine (mknows_any _).mono ?_
              rintro e w9 ⟨rfl, hb9⟩
              go_simp
              refine hK.out _ _ (trivial) (fun hHeld => ?_)
              clear hK K
              try simp only [Act.put, List.getElem_toArray, List.getElem_cons_zero, List.getElem_cons_succ, List.setIfInBounds_toArray, List.set_cons_zero, List.set_cons_succ]
              refine wpAnyH_take (i := 16) (v := ?_) rfl (by kernel_rfl) (by kernel_rfl) (by kernel_rfl) (fun _ _ _ h => h) (Or.inl ⟨by rfl, ?_⟩) (by assumption) ?_
              rotate_left
              · (intro w hSw; (try dsimp only at hSw); simp only [List.getElem_toArray, List.getElem_cons_zero, List.getElem_cons_succ]; go_simp; (try with_reducible rfl))
              try simp only [Act.put, List.getElem_toArray, List.getElem_cons_zero, List.getElem_cons_succ, List.setIfInBounds_toArray, List.set_cons_zero, List.set_cons_succ]
              refine wpAnyH_take (i := 17) (v := ?_) rfl (by kernel_rfl) (by kernel_rfl) (by kernel_rfl) (fun _ _ _ h => h) (Or.inl ⟨by rfl, ?_⟩) (by assumption) ?_
              rotate_left
              · (intro w hSw; (try dsimp only at hSw); simp only [List.getElem_toArray, List.getElem_cons_zero, List.getElem_cons_succ]; go_simp; (try with_reducible rfl))
              try simp only [Act.put, List.getElem_toArray, List.getElem_cons_zero, List.getElem_cons_succ, List.setIfInBounds_toArray, List.set_cons_zero, List.set_cons_succ]
              refine wpAnyH_done (by kernel_rfl) ?_ _
              go_wp2_with fail
              go_ret
              exact ⟨rfl, HB4.out.drew.trans (hb9.mono HB4.out.drew.size)⟩
            · obtain rfl : ll = 0 := by omega
              go_wp2_with fail
              refine wp_region_held_drew (S := fun _ => True) (by kernel_rfl) trivial (fun hHeld => ?_)
              refine wpAnyH_take (i := 0) (v := ?_) rfl (by kernel_rfl) (by kernel_rfl) (by kernel_rfl) (fun _ _ _ h => h) (Or.inl ⟨by rfl, ?_⟩) (by assumption) ?_
              rotate_left
              · (intro w hSw; (try dsimp only at hSw); simp only [List.getElem_toArray, List.getElem_cons_zero, List.getElem_cons_succ]; go_simp; (try with_reducible rfl))
              try simp only [Act.put, List.getElem_toArray, List.getElem_cons_zero, List.getElem_cons_succ, List.setIfInBounds_toArray, List.set_cons_zero, List.set_cons_succ]
              refine wpAnyH_take (i := 1) (v := ?_) rfl (by kernel_rfl) (by kernel_rfl) (by kernel_rfl) (fun _ _ _ h => h) (Or.inl ⟨by rfl, ?_⟩) (by assumption) ?_
              rotate_left
              · (intro w hSw; (try dsimp only at hSw); simp only [List.getElem_toArray, List.getElem_cons_zero, List.getElem_cons_succ]; go_simp; (try with_reducible rfl))
              try simp only [Act.put, List.getElem_toArray, List.getElem_cons_zero, List.getElem_cons_succ, List.setIfInBounds_toArray, List.set_cons_zero, List.set_cons_succ]
              refine wpAnyH_take (i := 2) (v := ?_) rfl (by kernel_rfl) (by kernel_rfl) (by kernel_rfl) (fun _ _ _ h => h) (Or.inl ⟨by rfl, ?_⟩) (by assumption) ?_
              rotate_left
              · (intro w hSw; (try dsimp only at hSw); simp only [List.getElem_toArray, List.getElem_cons_zero, List.getElem_cons_succ]; go_simp; (try with_reducible rfl))
              try simp only [Act.put, List.getElem_toArray, List.getElem_cons_zero, List.getElem_cons_succ, List.setIfInBounds_toArray, List.set_cons_zero, List.set_cons_succ]
              refine wpAnyH_take (i := 3) (v := undef) rfl (by kernel_rfl) (by kernel_rfl) (by kernel_rfl) (fun _ _ _ h => h) (Or.inr ⟨by rfl, rfl⟩) (by assumption) ?_
              try simp only [Act.put, List.getElem_toArray, List.getElem_cons_zero, List.getElem_cons_succ, List.setIfInBounds_toArray, List.set_cons_zero, List.set_cons_succ]
              refine wpAnyH_take (i := 4) (v := undef) rfl (by kernel_rfl) (by kernel_rfl) (by kernel_rfl) (fun _ _ _ h => h) (Or.inr ⟨by rfl, rfl⟩) (by assumption) ?_
              try simp only [Act.put, List.getElem_toArray, List.getElem_cons_zero, List.getElem_cons_succ, List.setIfInBounds_toArray, List.set_cons_zero, List.set_cons_succ]
              refine wpAnyH_take (i := 5) (v := undef) rfl (by kernel_rfl) (by kernel_rfl) (by kernel_rfl) (fun _ _ _ h => h) (Or.inr ⟨by rfl, rfl⟩) (by assumption) ?_
              try simp only [Act.put, List.getElem_toArray, List.getElem_cons_zero, List.getElem_cons_succ, List.setIfInBounds_toArray, List.set_cons_zero, List.set_cons_succ]
              refine wpAnyH_take (i := 6) (v := undef) rfl (by kernel_rfl) (by kernel_rfl) (by kernel_rfl) (fun _ _ _ h => h) (Or.inr ⟨by rfl, rfl⟩) (by assumption) ?_
              try simp only [Act.put, List.getElem_toArray, List.getElem_cons_zero, List.getElem_cons_succ, List.setIfInBounds_toArray, List.set_cons_zero, List.set_cons_succ]
              refine wpAnyH_take (i := 7) (v := undef) rfl (by kernel_rfl) (by kernel_rfl) (by kernel_rfl) (fun _ _ _ h => h) (Or.inr ⟨by rfl, rfl⟩) (by assumption) ?_
              try simp only [Act.put, List.getElem_toArray, List.getElem_cons_zero, List.getElem_cons_succ, List.setIfInBounds_toArray, List.set_cons_zero, List.set_cons_succ]
              refine wpAnyH_take (i := 8) (v := undef) rfl (by kernel_rfl) (by kernel_rfl) (by kernel_rfl) (fun _ _ _ h => h) (Or.inr ⟨by rfl, rfl⟩) (by assumption) ?_
              try simp only [Act.put, List.getElem_toArray, List.getElem_cons_zero, List.getElem_cons_succ, List.setIfInBounds_toArray, List.set_cons_zero, List.set_cons_succ]
              refine wpAnyH_take (i := 9) (v := undef) rfl (by kernel_rfl) (by kernel_rfl) (by kernel_rfl) (fun _ _ _ h => h) (Or.inr ⟨by rfl, rfl⟩) (by assumption) ?_
              try simp only [Act.put, List.getElem_toArray, List.getElem_cons_zero, List.getElem_cons_succ, List.setIfInBounds_toArray, List.set_cons_zero, List.set_cons_succ]
              refine wpAnyH_take (i := 10) (v := undef) rfl (by kernel_rfl) (by kernel_rfl) (by kernel_rfl) (fun _ _ _ h => h) (Or.inr ⟨by rfl, rfl⟩) (by assumption) ?_
              try simp only [Act.put, List.getElem_toArray, List.getElem_cons_zero, List.getElem_cons_succ, List.setIfInBounds_toArray, List.set_cons_zero, List.set_cons_succ]
              refine wpAnyH_take (i := 11) (v := undef) rfl (by kernel_rfl) (by kernel_rfl) (by kernel_rfl) (fun _ _ _ h => h) (Or.inr ⟨by rfl, rfl⟩) (by assumption) ?_
              try simp only [Act.put, List.getElem_toArray, List.getElem_cons_zero, List.getElem_cons_succ, List.setIfInBounds_toArray, List.set_cons_zero, List.set_cons_succ]
              refine wpAnyH_take (i := 12) (v := undef) rfl (by kernel_rfl) (by kernel_rfl) (by kernel_rfl) (fun _ _ _ h => h) (Or.inr ⟨by rfl, rfl⟩) (by assumption) ?_
              try simp only [Act.put, List.getElem_toArray, List.getElem_cons_zero, List.getElem_cons_succ, List.setIfInBounds_toArray, List.set_cons_zero, List.set_cons_succ]
              refine wpAnyH_take (i := 13) (v := ?_) rfl (by kernel_rfl) (by kernel_rfl) (by kernel_rfl) (fun _ _ _ h => h) (Or.inl ⟨by rfl, ?_⟩) (by assumption) ?_
              rotate_left
              · (intro w hSw; (try dsimp only at hSw); simp only [List.getElem_toArray, List.getElem_cons_zero, List.getElem_cons_succ]; go_simp; (try with_reducible rfl))
              try simp only [Act.put, List.getElem_toArray, List.getElem_cons_zero, List.getElem_cons_succ, List.setIfInBounds_toArray, List.set_cons_zero, List.set_cons_succ]
              refine wpAnyH_take (i := 14) (v := ?_) rfl (by kernel_rfl) (by kernel_rfl) (by kernel_rfl) (fun _ _ _ h => h) (Or.inl ⟨by rfl, ?_⟩) (by assumption) ?_
              rotate_left
              · (intro w hSw; (try dsimp only at hSw); simp only [List.getElem_toArray, List.getElem_cons_zero, List.getElem_cons_succ]; go_simp; (try with_reducible rfl))
              try simp only [Act.put, List.getElem_toArray, List.getElem_cons_zero, List.getElem_cons_succ, List.setIfInBounds_toArray, List.set_cons_zero, List.set_cons_succ]
              refine wpAnyH_ready (rs := [15]) (by kernel_rfl) (by simp) ?_
              refine AllReadyH.cons rfl (fun K hK => ?_) AllReadyH.nil
              simp only [List.getElem_toArray, List.getElem_cons_zero, List.getElem_cons_succ]
              rw [if_pos (by rfl)]
              go_simp
              go_at_call 18
              refine (mknows_any _).mono ?_
              rintro e w9 ⟨rfl, hb9⟩
              go_simp
              refine hK.out _ _ (trivial) (fun hHeld => ?_)
              clear hK K
              try simp only [Act.put, List.getElem_toArray, List.getElem_cons_zero, List.getElem_cons_succ, List.setIfInBounds_toArray, List.set_cons_zero, List.set_cons_succ]
              refine wpAnyH_take (i := 16) (v := ?_) rfl (by kernel_rfl) (by kernel_rfl) (by kernel_rfl) (fun _ _ _ h => h) (Or.inl ⟨by rfl, ?_⟩) (by assumption) ?_
              rotate_left
              · (intro w hSw; (try dsimp only at hSw); simp only [List.getElem_toArray, List.getElem_cons_zero, List.getElem_cons_succ]; go_simp; (try with_reducible rfl))
              try simp only [Act.put, List.getElem_toArray, List.getElem_cons_zero, List.getElem_cons_succ, List.setIfInBounds_toArray, List.set_cons_zero, List.set_cons_succ]
              refine wpAnyH_take (i := 17) (v := ?_) rfl (by kernel_rfl) (by kernel_rfl) (by kernel_rfl) (fun _ _ _ h => h) (Or.inl ⟨by rfl, ?_⟩) (by assumption) ?_
              rotate_left
              · (intro w hSw; (try dsimp only at hSw); simp only [List.getElem_toArray, List.getElem_cons_zero, List.getElem_cons_succ]; go_simp; (try with_reducible rfl))
              try simp only [Act.put, List.getElem_toArray, List.getElem_cons_zero, List.getElem_cons_succ, List.setIfInBounds_toArray, List.set_cons_zero, List.set_cons_succ]
              refine wpAnyH_done (by kernel_rfl) ?_ _
              go_wp2_with fail
              go_ret
              exact ⟨rfl, HB4.out.drew.trans (hb9.mono HB4.out.drew.size)⟩
      · obtain ⟨N, rfl⟩ : ∃ N : Nat, s = N := Int.eq_ofNat_of_zero_le (by simp only [Mm.newOk, Bool.and_eq_true, decide_eq_true_eq] at hno; omega)
        have hsx : (N : Int) ≤ 4096 := by
          have h2 : (N : Int) ≤ 1048576 := by simp only [Mm.newOk, Bool.and_eq_true, decide_eq_true_eq] at hno; omega
          have := HBAD.out
          omega
        have HYES := Lib.hid hno
        clear hno hs1 hs2
        go_enter Try.func10, Try.ntmps10
        go_wp2_with fail
        refine HLI.out.mono ?_
        rintro e w1 ⟨rfl, hb1⟩
        have HB1 := Lib.hid hb1
        clear hb1
        go_wp2_with fail
        refine (HHO.out _ HB1.out HFEW.out).mono ?_
        rintro e w2 ⟨v2, rfl, hown, hb2⟩
        have HB2 := Lib.hid (HB1.out.trans (hb2.mono HB1.out.size))
        obtain ⟨A2, c2, rfl⟩ := (Rd.of_own hown).form
        have HRD := Lib.hid (Rd.of_own hown)
        clear hown hb2
        go_wp2_with fail
        refine (new_ok w2 N A2 c2 hs HRD.out HSM.out HYES.out).mono ?_
        rintro e w3 ⟨v3, rfl, hmade⟩
        have HM3 := Lib.hid hmade
        obtain ⟨gm0, gb0, rfl, _, _, _, hb3, _⟩ := hmade
        have HB3 := Lib.hid (HB2.out.trans (hb3.mono HB2.out.size))
        clear hb3
        go_wp2_with fail
        refine ((HRN.out w3 HB3.out).2 HYES.out).mono ?_
        rintro e w4 ⟨v4, rfl, hmade4⟩
        rw [Int.toNat_natCast] at hmade4
        obtain ⟨gm1, gb1, gr, gc, e1, rfl, hp4, hb4⟩ := PairM.made HM3.out hmade4 HB2.out.size
        obtain rfl : gm0 = gm1 := by injection e1 with e1; injection e1 with e1; injection e1
        have HP4 := Lib.hid hp4
        have HB4 := Lib.hid (HB2.out.trans (hb4.mono HB2.out.size))
        clear hp4 hb4 hmade4 HM3 e1
        go_wp2_with (go_at_call 21; refine (mnum_any _ _).mono ?_; rintro e w' ⟨rfl, rfl⟩)
        go_loopw [7, 11] (fun m i wr => ∃ (j gm gb : Nat) (b : List UInt8), j ≤ ll ∧ i = .int .i64 j ∧ m = .pointer (some ⟨gm, 0, none⟩) ∧ b.length = N ∧ PairM wr w.heap.size gm gb gr gc b hs ∧ Below w.heap.size w wr) (fun _ i _ => ll - (intOf i).toNat)
        case atStart => exact ⟨0, gm0, gb1, List.replicate N 0, Nat.zero_le _, rfl, rfl, by simp, HP4.out, HB4.out⟩
        case round =>
          obtain ⟨j, gm, gb, b, hj, rfl, rfl, hln, hp, hbr⟩ := hrel
          have HLN := Lib.hid hln
          have HP := Lib.hid hp
          have HBR := Lib.hid hbr
          clear hln hp hbr
          by_cases hlt : j < ll
          · obtain ⟨g, off, hA, -⟩ := HC.out wr HBR.out j hlt
            subst hA
            have H5 := Lib.hid (show ∀ W, Below w.heap.size w W → ∀ i u, i < 5 → (Mm.Act.cells (l.getD j ⟨0, 0, 0, 0, .pointer none, []⟩))[i]? = some u → W.cell? ⟨g, off + j * 5 + i, none⟩ = some u from fun W hb => by
              obtain ⟨g2, off2, e, hc⟩ := HC.out W hb j hlt
              cases e
              exact hc)
            have hin : l.getD j ⟨0, 0, 0, 0, .pointer none, []⟩ ∈ l := by rw [List.getD_eq_getElem?_getD, List.getElem?_eq_getElem (by rw [HLL.out]; exact hlt)]; simp
            have HX := Lib.hid (HOK.out _ hin)
            have H4 := Lib.hid (H400.out _ hin)
            clear hin
            generalize l.getD j ⟨0, 0, 0, 0, .pointer none, []⟩ = x at *
            obtain ⟨kind, n, a, v, bvv, bb⟩ := x
            have H5 := Lib.hid (show ∀ W, Below w.heap.size w W → W.cell? ⟨g, off + j * 5, none⟩ = some (.int .i64 kind) ∧ W.cell? ⟨g, off + j * 5 + 1, none⟩ = some (.int .i64 n) ∧ W.cell? ⟨g, off + j * 5 + 2, none⟩ = some (.int .u32 a) ∧ W.cell? ⟨g, off + j * 5 + 3, none⟩ = some (.int .u32 v) ∧ W.cell? ⟨g, off + j * 5 + 4, none⟩ = some bvv from fun W hb => ⟨H5.out W hb 0 _ (by omega) rfl, H5.out W hb 1 _ (by omega) rfl, H5.out W hb 2 _ (by omega) rfl, H5.out W hb 3 _ (by omega) rfl, H5.out W hb 4 _ (by omega) rfl⟩)
            have hlt' : (j : Int) < ll := by omega
            by_cases hk4 : kind = 4
            · obtain rfl : kind = 4 := hk4
              obtain ⟨q0, -⟩ := H5.out wr HBR.out
              go_wp2_with fail
              refine (clone_own wr gm gb b hs HP.out.a).mono ?_
              rintro e w5 ⟨v5, rfl, hmade⟩
              obtain ⟨gm', gb', rfl, hp5⟩ := PairM.clone HP.out hmade HBR.out.size
              obtain ⟨_, _, _, _, _, _, hb5, _⟩ := hmade
              have HP5 := Lib.hid hp5
              have HB5 := Lib.hid (HBR.out.trans (hb5.mono HBR.out.size))
              clear hp5 hb5 q0
              obtain ⟨q0, q1, q2, q3, q4⟩ := H5.out w5 HB5.out
              go_wp2_with (go_at_call 48; refine (do_any ⟨4, n, a, v, bvv, bb⟩ w w5 gm' _ gr gc b hs HX.out H4.out HP5.out HB5.out).mono ?_; rintro e w6 ⟨rfl, b6, hl6, hp6, hb6⟩)
              have HP6 := Lib.hid hp6
              have HB6 := Lib.hid (HB5.out.trans hb6)
              have HL6 := Lib.hid (hl6.trans HLN.out)
              clear q0 q1 q2 q3 q4 hl6 hp6 hb6
              have HSZ := Lib.hid (show Calls Try.prog 49 #[.pointer (some ⟨gm', 0, none⟩)] w6 fun e w' => e = .returned (.int .i64 N) ∧ w6 = w' from by rw [← HL6.out]; exact size_own w6 _ _ b6 hs HP6.out.a)
              go_wp2_with (go_at_call 49; refine HSZ.out.mono ?_; rintro e w' ⟨rfl, rfl⟩)
              go_roundw
              case rel => exact ⟨j + 1, gm', _, b6, by omega, by go_num, rfl, HL6.out, HP6.out, HB6.out⟩
              case measure => simp [intOf]; omega
            · have hg : (kind == 4) = false := by simpa using hk4
              obtain ⟨q0, q1, q2, q3, q4⟩ := H5.out wr HBR.out
              go_wp2_with (go_at_call 48; refine (do_any ⟨kind, n, a, v, bvv, bb⟩ w wr gm _ gr gc b hs HX.out H4.out HP.out HBR.out).mono ?_; rintro e w6 ⟨rfl, b6, hl6, hp6, hb6⟩)
              have HP6 := Lib.hid hp6
              have HB6 := Lib.hid (HBR.out.trans hb6)
              have HL6 := Lib.hid (hl6.trans HLN.out)
              clear q0 q1 q2 q3 q4 hl6 hp6 hb6
              have HSZ := Lib.hid (show Calls Try.prog 49 #[.pointer (some ⟨gm, 0, none⟩)] w6 fun e w' => e = .returned (.int .i64 N) ∧ w6 = w' from by rw [← HL6.out]; exact size_own w6 _ _ b6 hs HP6.out.a)
              go_wp2_with (go_at_call 49; refine HSZ.out.mono ?_; rintro e w' ⟨rfl, rfl⟩)
              go_roundw
              case rel => exact ⟨j + 1, gm, _, b6, by omega, by go_num, rfl, HL6.out, HP6.out, HB6.out⟩
              case measure => simp [intOf]; omega
          · obtain rfl : j = ll := by omega
            go_wp2_with fail
            obtain ⟨Ah, ch, cap, c0, -, hrw, hcm, hgr, -, -⟩ := HP.out.r.cells
            have hcap := hrw.le
            have HS := Lib.hid (show ∀ W', Below wr.heap.size wr W' → W'.cell? ⟨gr, 0, none⟩ = some (.slice (some ⟨gc, 0, none⟩) b.length cap) ∧ (convert 34 9 (.slice (some ⟨gc, 0, none⟩) b.length cap)).run Try.prog W' = .ok (.string ⟨b.toArray⟩) W' from fun W' hb => by
              obtain ⟨cap', x0, k1, k2⟩ := HP.out.r.ob
              have k3 : Rw W' gc 5 cap b := hrw.kept hb
              have hr := k3.part 0 b.length cap (by omega) hcap hcm
              rw [List.drop_zero, List.take_of_length_le (Nat.le_refl _)] at hr
              exact ⟨(World.cell?_of_block (a := ⟨gr, 0, none⟩) (hb.block gr hgr)).trans c0, run_string_of mbt Try.underlying9 hr⟩)
            have HBY := Lib.hid (show ∀ W', Below wr.heap.size wr W' → Calls Try.prog 23 #[.pointer (some ⟨gm, 0, none⟩), .int .u32 0, .int .i64 N] W' fun e w' => ∃ v', e = .returned v' ∧ (convert 34 9 v').run Try.prog w' = .ok (.string ⟨b.toArray⟩) w' ∧ Below wr.heap.size wr w' from fun W' hb =>
              (bytesStr W' gm gb N b hs (HP.out.kept hb).a HLN.out).mono fun e w' ⟨v', k1, k2, k3⟩ => ⟨v', k1, k2, hb.trans (k3.mono hb.size)⟩)
            clear c0 hrw hcap hcm hgr
            rw [HLN.out] at HS
            refine wp_region_held_drew (S := fun W' => W'.cell? ⟨gr, 0, none⟩ = some (.slice (some ⟨gc, 0, none⟩) N cap) ∧ (convert 34 9 (.slice (some ⟨gc, 0, none⟩) N cap)).run Try.prog W' = .ok (.string ⟨b.toArray⟩) W') (by kernel_rfl) (HS.out _ (Below.refl _ _).drew) (fun hHeld => ?_)
            refine wpAnyH_take (i := 0) (v := ?_) rfl (by kernel_rfl) (by kernel_rfl) (by kernel_rfl) (fun _ _ _ h => h) (Or.inl ⟨by rfl, ?_⟩) (by assumption) ?_
            rotate_left
            · (intro w hSw; (try dsimp only at hSw); simp only [List.getElem_toArray, List.getElem_cons_zero, List.getElem_cons_succ]; go_simp; (try with_reducible rfl))
            try simp only [Act.put, List.getElem_toArray, List.getElem_cons_zero, List.getElem_cons_succ, List.setIfInBounds_toArray, List.set_cons_zero, List.set_cons_succ]
            refine wpAnyH_take (i := 1) (v := ?_) rfl (by kernel_rfl) (by kernel_rfl) (by kernel_rfl) (fun _ _ _ h => h) (Or.inl ⟨by rfl, ?_⟩) (by assumption) ?_
            rotate_left
            · (intro w hSw; (try dsimp only at hSw); simp only [List.getElem_toArray, List.getElem_cons_zero, List.getElem_cons_succ]; go_simp; (try with_reducible rfl))
            try simp only [Act.put, List.getElem_toArray, List.getElem_cons_zero, List.getElem_cons_succ, List.setIfInBounds_toArray, List.set_cons_zero, List.set_cons_succ]
            refine wpAnyH_take (i := 2) (v := ?_) rfl (by kernel_rfl) (by kernel_rfl) (by kernel_rfl) (fun _ _ _ h => h) (Or.inl ⟨by rfl, ?_⟩) (by assumption) ?_
            rotate_left
            · (intro w hSw; (try dsimp only at hSw); simp only [List.getElem_toArray, List.getElem_cons_zero, List.getElem_cons_succ]; go_simp; (try with_reducible rfl))
            try simp only [Act.put, List.getElem_toArray, List.getElem_cons_zero, List.getElem_cons_succ, List.setIfInBounds_toArray, List.set_cons_zero, List.set_cons_succ]
            refine wpAnyH_take (i := 3) (v := ?_) rfl (by kernel_rfl) (by kernel_rfl) (by kernel_rfl) (fun _ _ _ h => h) (Or.inl ⟨by rfl, ?_⟩) (by assumption) ?_
            rotate_left
            · (intro w hSw; (try dsimp only at hSw); simp only [List.getElem_toArray, List.getElem_cons_zero, List.getElem_cons_succ]; go_simp; (try with_reducible rfl))
            try simp only [Act.put, List.getElem_toArray, List.getElem_cons_zero, List.getElem_cons_succ, List.setIfInBounds_toArray, List.set_cons_zero, List.set_cons_succ]
            refine wpAnyH_take (i := 4) (v := ?_) rfl (by kernel_rfl) (by kernel_rfl) (by kernel_rfl) (fun _ _ _ h => h) (Or.inl ⟨by rfl, ?_⟩) (by assumption) ?_
            rotate_left
            · (intro w hSw; (try dsimp only at hSw); simp only [List.getElem_toArray, List.getElem_cons_zero, List.getElem_cons_succ]; go_simp; (try with_reducible rfl))
            try simp only [Act.put, List.getElem_toArray, List.getElem_cons_zero, List.getElem_cons_succ, List.setIfInBounds_toArray, List.set_cons_zero, List.set_cons_succ]
            refine wpAnyH_take (i := 7) (v := ?_) rfl (by kernel_rfl) (by kernel_rfl) (by kernel_rfl) (fun _ _ _ h => h) (Or.inl ⟨by rfl, ?_⟩) (by assumption) ?_
            rotate_left
            · (intro w hSw; (try dsimp only at hSw); simp only [List.getElem_toArray, List.getElem_cons_zero, List.getElem_cons_succ]; go_simp; (try with_reducible rfl))
            try simp only [Act.put, List.getElem_toArray, List.getElem_cons_zero, List.getElem_cons_succ, List.setIfInBounds_toArray, List.set_cons_zero, List.set_cons_succ]
            refine wpAnyH_take (i := 8) (v := ?_) rfl (by kernel_rfl) (by kernel_rfl) (by kernel_rfl) (fun _ _ _ h => h) (Or.inl ⟨by rfl, ?_⟩) (by assumption) ?_
            rotate_left
            · (intro w hSw; (try dsimp only at hSw); simp only [List.getElem_toArray, List.getElem_cons_zero, List.getElem_cons_succ]; go_simp; (try with_reducible rfl))
            try simp only [Act.put, List.getElem_toArray, List.getElem_cons_zero, List.getElem_cons_succ, List.setIfInBounds_toArray, List.set_cons_zero, List.set_cons_succ]
            refine wpAnyH_take (i := 9) (v := ?_) rfl (by kernel_rfl) (by kernel_rfl) (by kernel_rfl) (fun _ _ _ h => h) (Or.inl ⟨by rfl, ?_⟩) (by assumption) ?_
            rotate_left
            · (intro w hSw; (try dsimp only at hSw); simp only [List.getElem_toArray, List.getElem_cons_zero, List.getElem_cons_succ]; go_simp; (try with_reducible rfl))
            try simp only [Act.put, List.getElem_toArray, List.getElem_cons_zero, List.getElem_cons_succ, List.setIfInBounds_toArray, List.set_cons_zero, List.set_cons_succ]
            refine wpAnyH_take (i := 10) (v := ?_) rfl (by kernel_rfl) (by kernel_rfl) (by kernel_rfl) (fun _ _ _ h => h) (Or.inl ⟨by rfl, ?_⟩) (by assumption) ?_
            rotate_left
            · (intro w hSw; (try dsimp only at hSw); simp only [List.getElem_toArray, List.getElem_cons_zero, List.getElem_cons_succ]; go_simp; (try with_reducible rfl))
            try simp only [Act.put, List.getElem_toArray, List.getElem_cons_zero, List.getElem_cons_succ, List.setIfInBounds_toArray, List.set_cons_zero, List.set_cons_succ]
            refine wpAnyH_take (i := 11) (v := ?_) rfl (by kernel_rfl) (by kernel_rfl) (by kernel_rfl) (fun _ _ _ h => h) (Or.inl ⟨by rfl, ?_⟩) (by assumption) ?_
            rotate_left
            · (intro w hSw; (try dsimp only at hSw); simp only [List.getElem_toArray, List.getElem_cons_zero, List.getElem_cons_succ]; go_simp; (try with_reducible rfl))
            try simp only [Act.put, List.getElem_toArray, List.getElem_cons_zero, List.getElem_cons_succ, List.setIfInBounds_toArray, List.set_cons_zero, List.set_cons_succ]
            refine wpAnyH_ready (rs := [5]) (by kernel_rfl) (by simp) ?_
            refine AllReadyH.cons rfl (fun K hK => ?_) AllReadyH.nil
            simp only [List.getElem_toArray, List.getElem_cons_zero, List.getElem_cons_succ]
            rw [if_pos (by rfl)]
            go_simp
            go_at_call 23
            refine (HBY.out _ (Below.refl _ _).drew).mono ?_
            rintro e w5 ⟨v5, rfl, hcv, hb5⟩
            go_simp
            refine hK.out _ _ (HS.out _ hb5) (fun hHeld => ?_)
            clear hK K
            try simp only [Act.put, List.getElem_toArray, List.getElem_cons_zero, List.getElem_cons_succ, List.setIfInBounds_toArray, List.set_cons_zero, List.set_cons_succ]
            refine wpAnyH_ready (rs := [6]) (by kernel_rfl) (by simp) ?_
            refine AllReadyH.cons rfl (fun K hK => ?_) AllReadyH.nil
            simp only [List.getElem_toArray, List.getElem_cons_zero, List.getElem_cons_succ]
            rw [if_pos (by rfl)]
            go_simp
            refine hK.out _ _ (HS.out _ hb5) (fun hHeld => ?_)
            clear hK K
            try simp only [Act.put, List.getElem_toArray, List.getElem_cons_zero, List.getElem_cons_succ, List.setIfInBounds_toArray, List.set_cons_zero, List.set_cons_succ]
            refine wpAnyH_take (i := 12) (v := ?_) rfl (by kernel_rfl) (by kernel_rfl) (by kernel_rfl) (fun _ _ _ h => h) (Or.inl ⟨by rfl, ?_⟩) (by assumption) ?_
            rotate_left
            · (intro w hSw; (try dsimp only at hSw); simp only [List.getElem_toArray, List.getElem_cons_zero, List.getElem_cons_succ]; go_simp; (try with_reducible rfl))
            try simp only [Act.put, List.getElem_toArray, List.getElem_cons_zero, List.getElem_cons_succ, List.setIfInBounds_toArray, List.set_cons_zero, List.set_cons_succ]
            refine wpAnyH_take (i := 13) (v := ?_) rfl (by kernel_rfl) (by kernel_rfl) (by kernel_rfl) (fun _ _ _ h => h) (Or.inl ⟨by rfl, ?_⟩) (by assumption) ?_
            rotate_left
            · (intro w hSw; (try dsimp only at hSw); simp only [List.getElem_toArray, List.getElem_cons_zero, List.getElem_cons_succ]; go_simp; (try with_reducible rfl))
            try simp only [Act.put, List.getElem_toArray, List.getElem_cons_zero, List.getElem_cons_succ, List.setIfInBounds_toArray, List.set_cons_zero, List.set_cons_succ]
            refine wpAnyH_take (i := 14) (v := ?_) rfl (by kernel_rfl) (by kernel_rfl) (by kernel_rfl) (fun _ _ _ h => h) (Or.inl ⟨by rfl, ?_⟩) (by assumption) ?_
            rotate_left
            · (intro w hSw; (try dsimp only at hSw); simp only [List.getElem_toArray, List.getElem_cons_zero, List.getElem_cons_succ]; go_simp; (try with_reducible rfl))
            try simp only [Act.put, List.getElem_toArray, List.getElem_cons_zero, List.getElem_cons_succ, List.setIfInBounds_toArray, List.set_cons_zero, List.set_cons_succ]
            refine wpAnyH_ready (rs := [15]) (by kernel_rfl) (by simp) ?_
            refine AllReadyH.cons rfl (fun K hK => ?_) AllReadyH.nil
            simp only [List.getElem_toArray, List.getElem_cons_zero, List.getElem_cons_succ]
            rw [if_pos (by rfl)]
            go_simp
            go_at_call 18
            refine (mknows_any _).mono ?_
            rintro e w9 ⟨rfl, hb9⟩
            go_simp
            refine hK.out _ _ (HS.out _ (hb5.trans (hb9.mono hb5.size))) (fun hHeld => ?_)
            clear hK K
            try simp only [Act.put, List.getElem_toArray, List.getElem_cons_zero, List.getElem_cons_succ, List.setIfInBounds_toArray, List.set_cons_zero, List.set_cons_succ]
            refine wpAnyH_take (i := 16) (v := ?_) rfl (by kernel_rfl) (by kernel_rfl) (by kernel_rfl) (fun _ _ _ h => h) (Or.inl ⟨by rfl, ?_⟩) (by assumption) ?_
            rotate_left
            · (intro w hSw; (try dsimp only at hSw); simp only [List.getElem_toArray, List.getElem_cons_zero, List.getElem_cons_succ]; go_simp; (try with_reducible rfl))
            try simp only [Act.put, List.getElem_toArray, List.getElem_cons_zero, List.getElem_cons_succ, List.setIfInBounds_toArray, List.set_cons_zero, List.set_cons_succ]
            refine wpAnyH_take (i := 17) (v := ?_) rfl (by kernel_rfl) (by kernel_rfl) (by kernel_rfl) (fun _ _ _ h => h) (Or.inl ⟨by rfl, ?_⟩) (by assumption) ?_
            rotate_left
            · (intro w hSw; (try dsimp only at hSw); simp only [List.getElem_toArray, List.getElem_cons_zero, List.getElem_cons_succ]; go_simp; (try with_reducible rfl))
            try simp only [Act.put, List.getElem_toArray, List.getElem_cons_zero, List.getElem_cons_succ, List.setIfInBounds_toArray, List.set_cons_zero, List.set_cons_succ]
            refine wpAnyH_done (by kernel_rfl) ?_ _
            go_wp2_with fail
            go_ret
            exact ⟨rfl, HBR.out.trans ((hb5.trans (hb9.mono hb5.size)).mono HBR.out.size)⟩
  · have many : (30 : Int) < hs.length := by omega
    have hsm' : (hs.length : Int) ≤ 9223372036854775807 := by omega
    clear hs1 hs2
    go_enter Try.func10, Try.ntmps10
    go_wp2_with fail
    refine HLI.out.mono ?_
    rintro e w1 ⟨rfl, hb1⟩
    go_wp2_with (go_at_call 18; refine (mknows_any _).mono ?_; rintro e w9 ⟨rfl, hb9⟩)
    go_ret
    exact ⟨rfl, hb1.trans (hb9.mono hb1.size)⟩
end Go.Proofs.Ytijekhdndegdaaa
