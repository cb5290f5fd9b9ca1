/- Texts joined, what is not reached left out. -/
import Derived.Test.YtpcpaoeajcjoiaaGreatDoorLZ
import Derived.Deep.RegionHeld3
/- The walk of Own of the law. -/
namespace Go.Proofs.YtpcpaoeajcjoiaaGreatDoor
open Go.RowKit Kit
set_option linter.unusedVariables false
set_option linter.unusedSimpArgs false

set_option maxRecDepth 100000 in
set_option maxHeartbeats 8000000 in
theorem lown_cop (v : Value) (ls : List L6.Line) (w : World) (h : RdL w v ls) (hl : ls.length ≤ 1000000000) (hs : ∀ x ∈ ls, x.fits) :
    Calls Tryz.prog 12 #[v] w fun e w' => ∃ v' cs, e = .returned v' ∧ Cop 105 w w' v' ls cs := by
  have HH := Lib.hid h
  have HS := Lib.hid hs
  have HLL := Lib.hid hl
  obtain ⟨A, c, rfl⟩ := h.form
  clear h hs hl
  go_enter Tryz.func12, Tryz.ntmps12
  go_wp2_with fail
  go_loopw [3, 4] (fun o i wr => ∃ (k : Nat) (cs : List Value), i = .int .i64 (k : Int) ∧ k ≤ ls.length ∧ Cop 105 w wr o (ls.take k) cs) (fun _ i _ => match i with | .int _ n => ls.length - n.toNat | _ => 0)
  case atStart => exact ⟨0, [], rfl, Nat.zero_le _, ⟨Below.refl _ _, World.ownsRow_nil w _ _ _, rfl⟩⟩
  case round =>
    obtain ⟨k, cs, rfl, hk, hcop⟩ := hrel
    obtain ⟨AO, cO, hv⟩ := hcop.rd.form
    have HTK := Lib.hid (show (ls.take k).length = k from by rw [List.length_take]; omega)
    rw [HTK.out] at hv
    subst hv
    have HCOP := Lib.hid hcop
    clear hcop
    by_cases hlt : k < ls.length
    · have hlt' : (k : Int) < (ls.length : Int) := by omega
      have hw1 : IntKind.i64.wrap ((k : Int) + 1) = (k : Int) + 1 := by have := HLL.out; go_bits; exact trivial
      obtain ⟨g, off, c', va1, va2, e, hg, c0, c1, c2, r1, r2⟩ := HH.out.at hlt
      injection e with e1 e2 e3
      subst e1 e3
      have HC : Hid (∀ W', Below w.heap.size w W' → W'.cell? ⟨g, off + k * 3, none⟩ = some va1 ∧ W'.cell? ⟨g, off + k * 3 + 1, none⟩ = some (.string ⟨(ls[k]).word.toArray⟩) ∧ W'.cell? ⟨g, off + k * 3 + 2, none⟩ = some va2) :=
        Lib.hid fun W' hb => ⟨(hb.cell (p := ⟨g, _, none⟩) hg).trans c0, (hb.cell (p := ⟨g, _, none⟩) hg).trans c1, (hb.cell (p := ⟨g, _, none⟩) hg).trans c2⟩
      have f1 := HS.out _ (List.getElem_mem hlt)
      have HR1 := Lib.hid r1
      have HR2 := Lib.hid r2
      have HTS := Lib.hid (lines_take hlt)
      have HLT := Lib.hid (show k + 1 ≤ ls.length from hlt)
      have HFza := Lib.hid (show (ls[k]).labels.length ≤ maxLen ∧ (ls[k]).labels.length * 16 ≤ 140737488355328 from by have := f1.1; unfold maxLen; omega)
      have HFzb := Lib.hid (show (ls[k]).args.length ≤ maxLen ∧ (ls[k]).args.length * 16 ≤ 140737488355328 from by have := f1.2; unfold maxLen; omega)
      have HL1 := Lib.hid (show (k + 1) * 64 ≤ 140737488355328 from by have := HLL.out; omega)
      have HL2 := Lib.hid (show k + 1 ≤ maxLen from by have := HLL.out; unfold maxLen; omega)
      clear c0 c1 c2 r1 r2 f1
      generalize hX : ls[k] = X at *
      clear hX
      obtain ⟨xl, xw, xa⟩ := X
      dsimp only at HC HR1 HR2 HFza HFzb HTS
      obtain ⟨B1, cc1, rfl⟩ := HR1.out.form
      obtain ⟨B2, cc2, rfl⟩ := HR2.out.form
      go_wp2_with fail
      have hdr : Below wr.heap.size wr wr.drew := (Below.refl _ _).drew
      have st0 := HCOP.out.kept hdr
      clear hdr
      refine wp_region_held_drew (S := fun W' => W'.cell? ⟨g, off + k * 3, none⟩ = some (.slice B1 xl.length cc1) ∧ W'.cell? ⟨g, off + k * 3 + 1, none⟩ = some (.string ⟨xw.toArray⟩) ∧ W'.cell? ⟨g, off + k * 3 + 2, none⟩ = some (.slice B2 xa.length cc2)) (by kernel_rfl) (HC.out _ st0.below) (fun hHeld => ?_)
      refine wpAnyH_take (i := 0) (v := ?_) rfl (by kernel_rfl) (by kernel_rfl) (by kernel_rfl) (fun _ _ _ h => h) (Or.inl ⟨by rfl, ?_⟩) (by assumption) ?_
      rotate_left
      · (intro w hSw; (try dsimp only at hSw); simp only [List.getElem_toArray, List.getElem_cons_zero, List.getElem_cons_succ]; go_simp; (try with_reducible rfl))
      try simp only [Act.put, List.getElem_toArray, List.getElem_cons_zero, List.getElem_cons_succ, List.setIfInBounds_toArray, List.set_cons_zero, List.set_cons_succ]
      refine wpAnyH_take (i := 2) (v := ?_) rfl (by kernel_rfl) (by kernel_rfl) (by kernel_rfl) (fun _ _ _ h => h) (Or.inl ⟨by rfl, ?_⟩) (by assumption) ?_
      rotate_left
      · (intro w hSw; (try dsimp only at hSw); simp only [List.getElem_toArray, List.getElem_cons_zero, List.getElem_cons_succ]; go_simp; (try with_reducible rfl))
      try simp only [Act.put, List.getElem_toArray, List.getElem_cons_zero, List.getElem_cons_succ, List.setIfInBounds_toArray, List.set_cons_zero, List.set_cons_succ]
      refine wpAnyH_take (i := 3) (v := ?_) rfl (by kernel_rfl) (by kernel_rfl) (by kernel_rfl) (fun _ _ _ h => h) (Or.inl ⟨by rfl, ?_⟩) (by assumption) ?_
      rotate_left
      · (intro w hSw; (try dsimp only at hSw); simp only [List.getElem_toArray, List.getElem_cons_zero, List.getElem_cons_succ]; go_simp; (try with_reducible rfl))
      try simp only [Act.put, List.getElem_toArray, List.getElem_cons_zero, List.getElem_cons_succ, List.setIfInBounds_toArray, List.set_cons_zero, List.set_cons_succ]
      refine wpAnyH_take (i := 4) (v := ?_) rfl (by kernel_rfl) (by kernel_rfl) (by kernel_rfl) (fun _ _ _ h => h) (Or.inl ⟨by rfl, ?_⟩) (by assumption) ?_
      rotate_left
      · (intro w hSw; (try dsimp only at hSw); simp only [List.getElem_toArray, List.getElem_cons_zero, List.getElem_cons_succ]; go_simp; (try with_reducible rfl))
      try simp only [Act.put, List.getElem_toArray, List.getElem_cons_zero, List.getElem_cons_succ, List.setIfInBounds_toArray, List.set_cons_zero, List.set_cons_succ]
      refine wpAnyH_take (i := 5) (v := ?_) rfl (by kernel_rfl) (by kernel_rfl) (by kernel_rfl) (fun _ _ _ h => h) (Or.inl ⟨by rfl, ?_⟩) (by assumption) ?_
      rotate_left
      · (intro w hSw; (try dsimp only at hSw); simp only [List.getElem_toArray, List.getElem_cons_zero, List.getElem_cons_succ]; go_simp; (try with_reducible rfl))
      try simp only [Act.put, List.getElem_toArray, List.getElem_cons_zero, List.getElem_cons_succ, List.setIfInBounds_toArray, List.set_cons_zero, List.set_cons_succ]
      refine wpAnyH_take (i := 6) (v := ?_) rfl (by kernel_rfl) (by kernel_rfl) (by kernel_rfl) (fun _ _ _ h => h) (Or.inl ⟨by rfl, ?_⟩) (by assumption) ?_
      rotate_left
      · (intro w hSw; (try dsimp only at hSw); simp only [List.getElem_toArray, List.getElem_cons_zero, List.getElem_cons_succ]; go_simp; (try with_reducible rfl))
      try simp only [Act.put, List.getElem_toArray, List.getElem_cons_zero, List.getElem_cons_succ, List.setIfInBounds_toArray, List.set_cons_zero, List.set_cons_succ]
      refine wpAnyH_take (i := 8) (v := ?_) rfl (by kernel_rfl) (by kernel_rfl) (by kernel_rfl) (fun _ _ _ h => h) (Or.inl ⟨by rfl, ?_⟩) (by assumption) ?_
      rotate_left
      · (intro w hSw; (try dsimp only at hSw); simp only [List.getElem_toArray, List.getElem_cons_zero, List.getElem_cons_succ]; go_simp; (try with_reducible rfl))
      try simp only [Act.put, List.getElem_toArray, List.getElem_cons_zero, List.getElem_cons_succ, List.setIfInBounds_toArray, List.set_cons_zero, List.set_cons_succ]
      refine wpAnyH_take (i := 9) (v := ?_) rfl (by kernel_rfl) (by kernel_rfl) (by kernel_rfl) (fun _ _ _ h => h) (Or.inl ⟨by rfl, ?_⟩) (by assumption) ?_
      rotate_left
      · (intro w hSw; (try dsimp only at hSw); simp only [List.getElem_toArray, List.getElem_cons_zero, List.getElem_cons_succ]; go_simp; (try with_reducible rfl))
      try simp only [Act.put, List.getElem_toArray, List.getElem_cons_zero, List.getElem_cons_succ, List.setIfInBounds_toArray, List.set_cons_zero, List.set_cons_succ]
      refine wpAnyH_take (i := 10) (v := ?_) rfl (by kernel_rfl) (by kernel_rfl) (by kernel_rfl) (fun _ _ _ h => h) (Or.inl ⟨by rfl, ?_⟩) (by assumption) ?_
      rotate_left
      · (intro w hSw; (try dsimp only at hSw); simp only [List.getElem_toArray, List.getElem_cons_zero, List.getElem_cons_succ]; go_simp; (try with_reducible rfl))
      try simp only [Act.put, List.getElem_toArray, List.getElem_cons_zero, List.getElem_cons_succ, List.setIfInBounds_toArray, List.set_cons_zero, List.set_cons_succ]
      refine wpAnyH_take (i := 11) (v := ?_) rfl (by kernel_rfl) (by kernel_rfl) (by kernel_rfl) (fun _ _ _ h => h) (Or.inl ⟨by rfl, ?_⟩) (by assumption) ?_
      rotate_left
      · (intro w hSw; (try dsimp only at hSw); simp only [List.getElem_toArray, List.getElem_cons_zero, List.getElem_cons_succ]; go_simp; (try with_reducible rfl))
      try simp only [Act.put, List.getElem_toArray, List.getElem_cons_zero, List.getElem_cons_succ, List.setIfInBounds_toArray, List.set_cons_zero, List.set_cons_succ]
      refine wpAnyH_take (i := 12) (v := ?_) rfl (by kernel_rfl) (by kernel_rfl) (by kernel_rfl) (fun _ _ _ h => h) (Or.inl ⟨by rfl, ?_⟩) (by assumption) ?_
      rotate_left
      · (intro w hSw; (try dsimp only at hSw); simp only [List.getElem_toArray, List.getElem_cons_zero, List.getElem_cons_succ]; go_simp; (try with_reducible rfl))
      try simp only [Act.put, List.getElem_toArray, List.getElem_cons_zero, List.getElem_cons_succ, List.setIfInBounds_toArray, List.set_cons_zero, List.set_cons_succ]
      refine wpAnyH_take (i := 14) (v := ?_) rfl (by kernel_rfl) (by kernel_rfl) (by kernel_rfl) (fun _ _ _ h => h) (Or.inl ⟨by rfl, ?_⟩) (by assumption) ?_
      rotate_left
      · (intro w hSw; (try dsimp only at hSw); simp only [List.getElem_toArray, List.getElem_cons_zero, List.getElem_cons_succ]; go_simp; (try with_reducible rfl))
      try simp only [Act.put, List.getElem_toArray, List.getElem_cons_zero, List.getElem_cons_succ, List.setIfInBounds_toArray, List.set_cons_zero, List.set_cons_succ]
      refine wpAnyH_take (i := 15) (v := ?_) rfl (by kernel_rfl) (by kernel_rfl) (by kernel_rfl) (fun _ _ _ h => h) (Or.inl ⟨by rfl, ?_⟩) (by assumption) ?_
      rotate_left
      · (intro w hSw; (try dsimp only at hSw); simp only [List.getElem_toArray, List.getElem_cons_zero, List.getElem_cons_succ]; go_simp; (try with_reducible rfl))
      try simp only [Act.put, List.getElem_toArray, List.getElem_cons_zero, List.getElem_cons_succ, List.setIfInBounds_toArray, List.set_cons_zero, List.set_cons_succ]
      refine wpAnyH_take (i := 16) (v := ?_) rfl (by kernel_rfl) (by kernel_rfl) (by kernel_rfl) (fun _ _ _ h => h) (Or.inl ⟨by rfl, ?_⟩) (by assumption) ?_
      rotate_left
      · (intro w hSw; (try dsimp only at hSw); simp only [List.getElem_toArray, List.getElem_cons_zero, List.getElem_cons_succ]; go_simp; (try with_reducible rfl))
      try simp only [Act.put, List.getElem_toArray, List.getElem_cons_zero, List.getElem_cons_succ, List.setIfInBounds_toArray, List.set_cons_zero, List.set_cons_succ]
      refine wpAnyH_take (i := 17) (v := ?_) rfl (by kernel_rfl) (by kernel_rfl) (by kernel_rfl) (fun _ _ _ h => h) (Or.inl ⟨by rfl, ?_⟩) (by assumption) ?_
      rotate_left
      · (intro w hSw; (try dsimp only at hSw); simp only [List.getElem_toArray, List.getElem_cons_zero, List.getElem_cons_succ]; go_simp; (try with_reducible rfl))
      try simp only [Act.put, List.getElem_toArray, List.getElem_cons_zero, List.getElem_cons_succ, List.setIfInBounds_toArray, List.set_cons_zero, List.set_cons_succ]
      refine wpAnyH_take (i := 18) (v := ?_) rfl (by kernel_rfl) (by kernel_rfl) (by kernel_rfl) (fun _ _ _ h => h) (Or.inl ⟨by rfl, ?_⟩) (by assumption) ?_
      rotate_left
      · (intro w hSw; (try dsimp only at hSw); simp only [List.getElem_toArray, List.getElem_cons_zero, List.getElem_cons_succ]; go_simp; (try with_reducible rfl))
      try simp only [Act.put, List.getElem_toArray, List.getElem_cons_zero, List.getElem_cons_succ, List.setIfInBounds_toArray, List.set_cons_zero, List.set_cons_succ]
      generalize wr.drew = W0 at *
      refine wpAnyH_ready (rs := [1, 13]) (by kernel_rfl) (by simp) ?_
      refine AllReadyH.cons rfl (fun K hK => ?_) ?_
      · simp only [List.getElem_toArray, List.getElem_cons_zero, List.getElem_cons_succ]
        rw [if_pos (by rfl)]
        go_simp
        have hal : Below W0.heap.size W0 (W0.alloc (.cells #[] 9)) := (Below.refl _ _).alloc (Nat.le_refl _) _
        have st1 := st0.kept hal
        refine hK.out _ _ (HC.out _ st1.below) (fun hHeld => ?_)
        clear hK K hal
        generalize W0.alloc (.cells #[] 9) = W1 at *
        try simp only [Act.put, List.getElem_toArray, List.getElem_cons_zero, List.getElem_cons_succ, List.setIfInBounds_toArray, List.set_cons_zero, List.set_cons_succ]
        refine wpAnyH_ready (rs := [7, 13]) (by kernel_rfl) (by simp) ?_
        refine AllReadyH.cons rfl (fun K hK => ?_) ?_
        · simp only [List.getElem_toArray, List.getElem_cons_zero, List.getElem_cons_succ]
          rw [if_pos (by rfl)]
          refine wp_append_new _ _ _ _ (by rfl) lsrt (by decide) _ (by rfl) (.slice B1 xl.length cc1) (by rfl) xl.length (L6.sv xl) (Rd.src lsrt (HR1.out.kept st1.below) (L6.sv_one _)) HFza.out.1 HFza.out.2 ?_
          intro vza W2 _ hal ho hz
          have za2 := OwnZ.of_new ho hz st1.below.size
          have st2 := st1.kept hal
          obtain ⟨Aza, cza, rfl⟩ := za2.form
          refine hK.out _ _ (HC.out _ st2.below) (fun hHeld => ?_)
          clear hK K hal ho hz
          try simp only [Act.put, List.getElem_toArray, List.getElem_cons_zero, List.getElem_cons_succ, List.setIfInBounds_toArray, List.set_cons_zero, List.set_cons_succ]
          refine wpAnyH_ready (rs := [13]) (by kernel_rfl) (by simp) ?_
          refine AllReadyH.cons rfl (fun K hK => ?_) AllReadyH.nil
          simp only [List.getElem_toArray, List.getElem_cons_zero, List.getElem_cons_succ]
          rw [if_pos (by rfl)]
          go_simp
          have hal : Below W2.heap.size W2 (W2.alloc (.cells #[] 9)) := (Below.refl _ _).alloc (Nat.le_refl _) _
          have st3 := st2.kept hal
          have za3 := za2.kept hal
          refine hK.out _ _ (HC.out _ st3.below) (fun hHeld => ?_)
          clear hK K hal
          generalize W2.alloc (.cells #[] 9) = W3 at *
          try simp only [Act.put, List.getElem_toArray, List.getElem_cons_zero, List.getElem_cons_succ, List.setIfInBounds_toArray, List.set_cons_zero, List.set_cons_succ]
          refine wpAnyH_ready (rs := [19]) (by kernel_rfl) (by simp) ?_
          refine AllReadyH.cons rfl (fun K hK => ?_) AllReadyH.nil
          simp only [List.getElem_toArray, List.getElem_cons_zero, List.getElem_cons_succ]
          rw [if_pos (by rfl)]
          refine wp_append_new _ _ _ _ (by rfl) lsrt (by decide) _ (by rfl) (.slice B2 xa.length cc2) (by rfl) xa.length (L6.sv xa) (Rd.src lsrt (HR2.out.kept st3.below) (L6.sv_one _)) HFzb.out.1 HFzb.out.2 ?_
          intro vzb W4 _ hal ho hz
          have zb4 := OwnZ.of_new ho hz st3.below.size
          have st4 := st3.kept hal
          have za4 := za3.kept hal
          obtain ⟨Azb, czb, rfl⟩ := zb4.form
          refine hK.out _ _ (HC.out _ st4.below) (fun hHeld => ?_)
          clear hK K hal ho hz
          try simp only [Act.put, List.getElem_toArray, List.getElem_cons_zero, List.getElem_cons_succ, List.setIfInBounds_toArray, List.set_cons_zero, List.set_cons_succ]
          refine wpAnyH_take (i := 20) (v := ?_) rfl (by kernel_rfl) (by kernel_rfl) (by kernel_rfl) (fun _ _ _ h => h) (Or.inl ⟨by rfl, ?_⟩) (by assumption) ?_
          rotate_left
          · (intro w hSw; (try dsimp only at hSw); simp only [List.getElem_toArray, List.getElem_cons_zero, List.getElem_cons_succ]; go_simp; (try with_reducible rfl))
          try simp only [Act.put, List.getElem_toArray, List.getElem_cons_zero, List.getElem_cons_succ, List.setIfInBounds_toArray, List.set_cons_zero, List.set_cons_succ]
          refine wpAnyH_ready (rs := [21]) (by kernel_rfl) (by simp) ?_
          refine AllReadyH.cons rfl (fun K hK => ?_) AllReadyH.nil
          simp only [List.getElem_toArray, List.getElem_cons_zero, List.getElem_cons_succ]
          rw [if_pos (by rfl)]
          go_simp
          have hal : Below W4.heap.size W4 (W4.alloc (.cells #[.slice Aza xl.length cza, .string ⟨xw.toArray⟩, .slice Azb xa.length czb] 105)) := (Below.refl _ _).alloc (Nat.le_refl _) _
          have st9 := st4.kept hal
          have za9 := za4.kept hal
          have zb9 := zb4.kept hal
          have hsrc : Src Tryz.prog 3 33 (.slice (some ⟨W4.heap.size, 0, none⟩) 1 1) 1 [.slice Aza xl.length cza, .string ⟨xw.toArray⟩, .slice Azb xa.length czb] (W4.alloc (.cells #[.slice Aza xl.length cza, .string ⟨xw.toArray⟩, .slice Azb xa.length czb] 105)) := Rd.src llrt (Rd.built (Bk.fresh _ _ _) rfl) (zone3 za9 zb9)
          refine hK.out _ _ (HC.out _ st9.below) (fun hHeld => ?_)
          clear hK K hal
          try simp only [Act.put, List.getElem_toArray, List.getElem_cons_zero, List.getElem_cons_succ, List.setIfInBounds_toArray, List.set_cons_zero, List.set_cons_succ]
          refine wpAnyH_ready (rs := [22]) (by kernel_rfl) (by simp) ?_
          refine AllReadyH.cons rfl (fun K hK => ?_) AllReadyH.nil
          simp only [List.getElem_toArray, List.getElem_cons_zero, List.getElem_cons_succ]
          rw [if_pos (by rfl)]
          refine wp_appendR _ _ _ _ (by rfl) llrt (by decide) w.heap.size (.slice AO k cO) (by rfl) k cs (by have := st9.own; rw [HTK.out] at this; exact this) _ (by rfl) 1 _ hsrc HL1.out HL2.out st9.below.size ?_
          intro v3 w3 ho3 hb3 hg3
          have st10 : Cop 105 w w3 v3 (ls.take k ++ [⟨xl, xw, xa⟩]) _ := st9.grown (by decide) za9 zb9 (by rw [HTK.out]; exact ho3) hb3 hg3
          refine hK.out _ _ (HC.out _ st10.below) (fun hHeld => ?_)
          clear hK K
          try simp only [Act.put, List.getElem_toArray, List.getElem_cons_zero, List.getElem_cons_succ, List.setIfInBounds_toArray, List.set_cons_zero, List.set_cons_succ]
          refine wpAnyH_take (i := 23) (v := ?_) rfl (by kernel_rfl) (by kernel_rfl) (by kernel_rfl) (fun _ _ _ h => h) (Or.inl ⟨by rfl, ?_⟩) (by assumption) ?_
          rotate_left
          · (intro w hSw; (try dsimp only at hSw); simp only [List.getElem_toArray, List.getElem_cons_zero, List.getElem_cons_succ]; go_simp; (try with_reducible rfl))
          try simp only [Act.put, List.getElem_toArray, List.getElem_cons_zero, List.getElem_cons_succ, List.setIfInBounds_toArray, List.set_cons_zero, List.set_cons_succ]
          refine wpAnyH_done (by kernel_rfl) ?_ _
          obtain ⟨AF, cF, rfl⟩ := st10.rd.form
          go_wp2_with fail
          exact ⟨⟨k + 1, _, by simp, HLT.out, by rw [HTS.out]; exact st10⟩, by have := HLT.out; simp; omega⟩
        refine AllReadyH.cons rfl (fun K hK => ?_) AllReadyH.nil
        simp only [List.getElem_toArray, List.getElem_cons_zero, List.getElem_cons_succ]
        rw [if_pos (by rfl)]
        go_simp
        have hal : Below W1.heap.size W1 (W1.alloc (.cells #[] 9)) := (Below.refl _ _).alloc (Nat.le_refl _) _
        have st2 := st1.kept hal
        refine hK.out _ _ (HC.out _ st2.below) (fun hHeld => ?_)
        clear hK K hal
        generalize W1.alloc (.cells #[] 9) = W2 at *
        try simp only [Act.put, List.getElem_toArray, List.getElem_cons_zero, List.getElem_cons_succ, List.setIfInBounds_toArray, List.set_cons_zero, List.set_cons_succ]
        refine wpAnyH_ready (rs := [7]) (by kernel_rfl) (by simp) ?_
        refine AllReadyH.cons rfl (fun K hK => ?_) AllReadyH.nil
        simp only [List.getElem_toArray, List.getElem_cons_zero, List.getElem_cons_succ]
        rw [if_pos (by rfl)]
        refine wp_append_new _ _ _ _ (by rfl) lsrt (by decide) _ (by rfl) (.slice B1 xl.length cc1) (by rfl) xl.length (L6.sv xl) (Rd.src lsrt (HR1.out.kept st2.below) (L6.sv_one _)) HFza.out.1 HFza.out.2 ?_
        intro vza W3 _ hal ho hz
        have za3 := OwnZ.of_new ho hz st2.below.size
        have st3 := st2.kept hal
        obtain ⟨Aza, cza, rfl⟩ := za3.form
        refine hK.out _ _ (HC.out _ st3.below) (fun hHeld => ?_)
        clear hK K hal ho hz
        try simp only [Act.put, List.getElem_toArray, List.getElem_cons_zero, List.getElem_cons_succ, List.setIfInBounds_toArray, List.set_cons_zero, List.set_cons_succ]
        refine wpAnyH_ready (rs := [19]) (by kernel_rfl) (by simp) ?_
        refine AllReadyH.cons rfl (fun K hK => ?_) AllReadyH.nil
        simp only [List.getElem_toArray, List.getElem_cons_zero, List.getElem_cons_succ]
        rw [if_pos (by rfl)]
        refine wp_append_new _ _ _ _ (by rfl) lsrt (by decide) _ (by rfl) (.slice B2 xa.length cc2) (by rfl) xa.length (L6.sv xa) (Rd.src lsrt (HR2.out.kept st3.below) (L6.sv_one _)) HFzb.out.1 HFzb.out.2 ?_
        intro vzb W4 _ hal ho hz
        have zb4 := OwnZ.of_new ho hz st3.below.size
        have st4 := st3.kept hal
        have za4 := za3.kept hal
        obtain ⟨Azb, czb, rfl⟩ := zb4.form
        refine hK.out _ _ (HC.out _ st4.below) (fun hHeld => ?_)
        clear hK K hal ho hz
        try simp only [Act.put, List.getElem_toArray, List.getElem_cons_zero, List.getElem_cons_succ, List.setIfInBounds_toArray, List.set_cons_zero, List.set_cons_succ]
        refine wpAnyH_take (i := 20) (v := ?_) rfl (by kernel_rfl) (by kernel_rfl) (by kernel_rfl) (fun _ _ _ h => h) (Or.inl ⟨by rfl, ?_⟩) (by assumption) ?_
        rotate_left
        · (intro w hSw; (try dsimp only at hSw); simp only [List.getElem_toArray, List.getElem_cons_zero, List.getElem_cons_succ]; go_simp; (try with_reducible rfl))
        try simp only [Act.put, List.getElem_toArray, List.getElem_cons_zero, List.getElem_cons_succ, List.setIfInBounds_toArray, List.set_cons_zero, List.set_cons_succ]
        refine wpAnyH_ready (rs := [21]) (by kernel_rfl) (by simp) ?_
        refine AllReadyH.cons rfl (fun K hK => ?_) AllReadyH.nil
        simp only [List.getElem_toArray, List.getElem_cons_zero, List.getElem_cons_succ]
        rw [if_pos (by rfl)]
        go_simp
        have hal : Below W4.heap.size W4 (W4.alloc (.cells #[.slice Aza xl.length cza, .string ⟨xw.toArray⟩, .slice Azb xa.length czb] 105)) := (Below.refl _ _).alloc (Nat.le_refl _) _
        have st9 := st4.kept hal
        have za9 := za4.kept hal
        have zb9 := zb4.kept hal
        have hsrc : Src Tryz.prog 3 33 (.slice (some ⟨W4.heap.size, 0, none⟩) 1 1) 1 [.slice Aza xl.length cza, .string ⟨xw.toArray⟩, .slice Azb xa.length czb] (W4.alloc (.cells #[.slice Aza xl.length cza, .string ⟨xw.toArray⟩, .slice Azb xa.length czb] 105)) := Rd.src llrt (Rd.built (Bk.fresh _ _ _) rfl) (zone3 za9 zb9)
        refine hK.out _ _ (HC.out _ st9.below) (fun hHeld => ?_)
        clear hK K hal
        try simp only [Act.put, List.getElem_toArray, List.getElem_cons_zero, List.getElem_cons_succ, List.setIfInBounds_toArray, List.set_cons_zero, List.set_cons_succ]
        refine wpAnyH_ready (rs := [22]) (by kernel_rfl) (by simp) ?_
        refine AllReadyH.cons rfl (fun K hK => ?_) AllReadyH.nil
        simp only [List.getElem_toArray, List.getElem_cons_zero, List.getElem_cons_succ]
        rw [if_pos (by rfl)]
        refine wp_appendR _ _ _ _ (by rfl) llrt (by decide) w.heap.size (.slice AO k cO) (by rfl) k cs (by have := st9.own; rw [HTK.out] at this; exact this) _ (by rfl) 1 _ hsrc HL1.out HL2.out st9.below.size ?_
        intro v3 w3 ho3 hb3 hg3
        have st10 : Cop 105 w w3 v3 (ls.take k ++ [⟨xl, xw, xa⟩]) _ := st9.grown (by decide) za9 zb9 (by rw [HTK.out]; exact ho3) hb3 hg3
        refine hK.out _ _ (HC.out _ st10.below) (fun hHeld => ?_)
        clear hK K
        try simp only [Act.put, List.getElem_toArray, List.getElem_cons_zero, List.getElem_cons_succ, List.setIfInBounds_toArray, List.set_cons_zero, List.set_cons_succ]
        refine wpAnyH_take (i := 23) (v := ?_) rfl (by kernel_rfl) (by kernel_rfl) (by kernel_rfl) (fun _ _ _ h => h) (Or.inl ⟨by rfl, ?_⟩) (by assumption) ?_
        rotate_left
        · (intro w hSw; (try dsimp only at hSw); simp only [List.getElem_toArray, List.getElem_cons_zero, List.getElem_cons_succ]; go_simp; (try with_reducible rfl))
        try simp only [Act.put, List.getElem_toArray, List.getElem_cons_zero, List.getElem_cons_succ, List.setIfInBounds_toArray, List.set_cons_zero, List.set_cons_succ]
        refine wpAnyH_done (by kernel_rfl) ?_ _
        obtain ⟨AF, cF, rfl⟩ := st10.rd.form
        go_wp2_with fail
        exact ⟨⟨k + 1, _, by simp, HLT.out, by rw [HTS.out]; exact st10⟩, by have := HLT.out; simp; omega⟩
      refine AllReadyH.cons rfl (fun K hK => ?_) AllReadyH.nil
      simp only [List.getElem_toArray, List.getElem_cons_zero, List.getElem_cons_succ]
      rw [if_pos (by rfl)]
      go_simp
      have hal : Below W0.heap.size W0 (W0.alloc (.cells #[] 9)) := (Below.refl _ _).alloc (Nat.le_refl _) _
      have st1 := st0.kept hal
      refine hK.out _ _ (HC.out _ st1.below) (fun hHeld => ?_)
      clear hK K hal
      generalize W0.alloc (.cells #[] 9) = W1 at *
      try simp only [Act.put, List.getElem_toArray, List.getElem_cons_zero, List.getElem_cons_succ, List.setIfInBounds_toArray, List.set_cons_zero, List.set_cons_succ]
      refine wpAnyH_ready (rs := [1]) (by kernel_rfl) (by simp) ?_
      refine AllReadyH.cons rfl (fun K hK => ?_) AllReadyH.nil
      simp only [List.getElem_toArray, List.getElem_cons_zero, List.getElem_cons_succ]
      rw [if_pos (by rfl)]
      go_simp
      have hal : Below W1.heap.size W1 (W1.alloc (.cells #[] 9)) := (Below.refl _ _).alloc (Nat.le_refl _) _
      have st2 := st1.kept hal
      refine hK.out _ _ (HC.out _ st2.below) (fun hHeld => ?_)
      clear hK K hal
      generalize W1.alloc (.cells #[] 9) = W2 at *
      try simp only [Act.put, List.getElem_toArray, List.getElem_cons_zero, List.getElem_cons_succ, List.setIfInBounds_toArray, List.set_cons_zero, List.set_cons_succ]
      refine wpAnyH_ready (rs := [7]) (by kernel_rfl) (by simp) ?_
      refine AllReadyH.cons rfl (fun K hK => ?_) AllReadyH.nil
      simp only [List.getElem_toArray, List.getElem_cons_zero, List.getElem_cons_succ]
      rw [if_pos (by rfl)]
      refine wp_append_new _ _ _ _ (by rfl) lsrt (by decide) _ (by rfl) (.slice B1 xl.length cc1) (by rfl) xl.length (L6.sv xl) (Rd.src lsrt (HR1.out.kept st2.below) (L6.sv_one _)) HFza.out.1 HFza.out.2 ?_
      intro vza W3 _ hal ho hz
      have za3 := OwnZ.of_new ho hz st2.below.size
      have st3 := st2.kept hal
      obtain ⟨Aza, cza, rfl⟩ := za3.form
      refine hK.out _ _ (HC.out _ st3.below) (fun hHeld => ?_)
      clear hK K hal ho hz
      try simp only [Act.put, List.getElem_toArray, List.getElem_cons_zero, List.getElem_cons_succ, List.setIfInBounds_toArray, List.set_cons_zero, List.set_cons_succ]
      refine wpAnyH_ready (rs := [19]) (by kernel_rfl) (by simp) ?_
      refine AllReadyH.cons rfl (fun K hK => ?_) AllReadyH.nil
      simp only [List.getElem_toArray, List.getElem_cons_zero, List.getElem_cons_succ]
      rw [if_pos (by rfl)]
      refine wp_append_new _ _ _ _ (by rfl) lsrt (by decide) _ (by rfl) (.slice B2 xa.length cc2) (by rfl) xa.length (L6.sv xa) (Rd.src lsrt (HR2.out.kept st3.below) (L6.sv_one _)) HFzb.out.1 HFzb.out.2 ?_
      intro vzb W4 _ hal ho hz
      have zb4 := OwnZ.of_new ho hz st3.below.size
      have st4 := st3.kept hal
      have za4 := za3.kept hal
      obtain ⟨Azb, czb, rfl⟩ := zb4.form
      refine hK.out _ _ (HC.out _ st4.below) (fun hHeld => ?_)
      clear hK K hal ho hz
      try simp only [Act.put, List.getElem_toArray, List.getElem_cons_zero, List.getElem_cons_succ, List.setIfInBounds_toArray, List.set_cons_zero, List.set_cons_succ]
      refine wpAnyH_take (i := 20) (v := ?_) rfl (by kernel_rfl) (by kernel_rfl) (by kernel_rfl) (fun _ _ _ h => h) (Or.inl ⟨by rfl, ?_⟩) (by assumption) ?_
      rotate_left
      · (intro w hSw; (try dsimp only at hSw); simp only [List.getElem_toArray, List.getElem_cons_zero, List.getElem_cons_succ]; go_simp; (try with_reducible rfl))
      try simp only [Act.put, List.getElem_toArray, List.getElem_cons_zero, List.getElem_cons_succ, List.setIfInBounds_toArray, List.set_cons_zero, List.set_cons_succ]
      refine wpAnyH_ready (rs := [21]) (by kernel_rfl) (by simp) ?_
      refine AllReadyH.cons rfl (fun K hK => ?_) AllReadyH.nil
      simp only [List.getElem_toArray, List.getElem_cons_zero, List.getElem_cons_succ]
      rw [if_pos (by rfl)]
      go_simp
      have hal : Below W4.heap.size W4 (W4.alloc (.cells #[.slice Aza xl.length cza, .string ⟨xw.toArray⟩, .slice Azb xa.length czb] 105)) := (Below.refl _ _).alloc (Nat.le_refl _) _
      have st9 := st4.kept hal
      have za9 := za4.kept hal
      have zb9 := zb4.kept hal
      have hsrc : Src Tryz.prog 3 33 (.slice (some ⟨W4.heap.size, 0, none⟩) 1 1) 1 [.slice Aza xl.length cza, .string ⟨xw.toArray⟩, .slice Azb xa.length czb] (W4.alloc (.cells #[.slice Aza xl.length cza, .string ⟨xw.toArray⟩, .slice Azb xa.length czb] 105)) := Rd.src llrt (Rd.built (Bk.fresh _ _ _) rfl) (zone3 za9 zb9)
      refine hK.out _ _ (HC.out _ st9.below) (fun hHeld => ?_)
      clear hK K hal
      try simp only [Act.put, List.getElem_toArray, List.getElem_cons_zero, List.getElem_cons_succ, List.setIfInBounds_toArray, List.set_cons_zero, List.set_cons_succ]
      refine wpAnyH_ready (rs := [22]) (by kernel_rfl) (by simp) ?_
      refine AllReadyH.cons rfl (fun K hK => ?_) AllReadyH.nil
      simp only [List.getElem_toArray, List.getElem_cons_zero, List.getElem_cons_succ]
      rw [if_pos (by rfl)]
      refine wp_appendR _ _ _ _ (by rfl) llrt (by decide) w.heap.size (.slice AO k cO) (by rfl) k cs (by have := st9.own; rw [HTK.out] at this; exact this) _ (by rfl) 1 _ hsrc HL1.out HL2.out st9.below.size ?_
      intro v3 w3 ho3 hb3 hg3
      have st10 : Cop 105 w w3 v3 (ls.take k ++ [⟨xl, xw, xa⟩]) _ := st9.grown (by decide) za9 zb9 (by rw [HTK.out]; exact ho3) hb3 hg3
      refine hK.out _ _ (HC.out _ st10.below) (fun hHeld => ?_)
      clear hK K
      try simp only [Act.put, List.getElem_toArray, List.getElem_cons_zero, List.getElem_cons_succ, List.setIfInBounds_toArray, List.set_cons_zero, List.set_cons_succ]
      refine wpAnyH_take (i := 23) (v := ?_) rfl (by kernel_rfl) (by kernel_rfl) (by kernel_rfl) (fun _ _ _ h => h) (Or.inl ⟨by rfl, ?_⟩) (by assumption) ?_
      rotate_left
      · (intro w hSw; (try dsimp only at hSw); simp only [List.getElem_toArray, List.getElem_cons_zero, List.getElem_cons_succ]; go_simp; (try with_reducible rfl))
      try simp only [Act.put, List.getElem_toArray, List.getElem_cons_zero, List.getElem_cons_succ, List.setIfInBounds_toArray, List.set_cons_zero, List.set_cons_succ]
      refine wpAnyH_done (by kernel_rfl) ?_ _
      obtain ⟨AF, cF, rfl⟩ := st10.rd.form
      go_wp2_with fail
      exact ⟨⟨k + 1, _, by simp, HLT.out, by rw [HTS.out]; exact st10⟩, by have := HLT.out; simp; omega⟩
    · have hge : (ls.length : Int) ≤ (k : Int) := by omega
      have HR := Lib.hid (show ls.take k = ls from List.take_of_length_le (by omega))
      go_wp2_with fail
      go_ret
      have hc := HCOP.out
      rw [HR.out] at hc
      exact ⟨_, _, rfl, hc⟩
theorem lown_any (v : Value) (ls : List L6.Line) (w : World) (h : RdL w v ls) (hl : ls.length ≤ 1000000000) (hs : ∀ x ∈ ls, x.fits) :
    Calls Tryz.prog 12 #[v] w fun e w' => ∃ v', e = .returned v' ∧ RdL w' v' ls ∧ Below w.heap.size w w' := by
  refine (lown_cop v ls w h hl hs).mono ?_
  rintro e w' ⟨v', cs, rfl, hc⟩
  exact ⟨v', rfl, hc.rd, hc.below⟩
end Go.Proofs.YtpcpaoeajcjoiaaGreatDoor
