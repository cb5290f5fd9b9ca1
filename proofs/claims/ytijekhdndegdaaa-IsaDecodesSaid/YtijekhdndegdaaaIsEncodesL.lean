/- The walk of the law IsaEncodes. -/
import Derived.Test.YtijekhdndegdaaaIsRefEncode
import Derived.Test.YtijekhdndegdaaaKitQ
namespace Go.Proofs.Ytijekhdndegdaaa
open Go.RowKit
set_option linter.unusedVariables false
set_option linter.unusedSimpArgs false

/-- The cells of a record that lies in a block of its own. -/
theorem Is.boxed (i : Is.Inst) (w : World) : ∃ w0, w.alloc (.cells #[.int .i64 i.op, .int .i64 i.rd, .int .i64 i.rs1, .int .i64 i.rs2, .int .i64 i.imm] 71) = w0 ∧ Below w.heap.size w w0 ∧ w.heap.size + 1 ≤ w0.heap.size ∧
    ∀ W', Below (w.heap.size + 1) w0 W' → (W'.cell? ⟨w.heap.size, 0, none⟩ = some (.int .i64 i.op) ∧ W'.cell? ⟨w.heap.size, 1, none⟩ = some (.int .i64 i.rd) ∧ W'.cell? ⟨w.heap.size, 2, none⟩ = some (.int .i64 i.rs1) ∧ W'.cell? ⟨w.heap.size, 3, none⟩ = some (.int .i64 i.rs2) ∧ W'.cell? ⟨w.heap.size, 4, none⟩ = some (.int .i64 i.imm)) := by
  refine ⟨_, rfl, (Below.refl _ _).alloc (Nat.le_refl _) _, by simp, fun W' hb => ?_⟩
  exact ⟨(hb.cell (p := ⟨w.heap.size, 0, none⟩) (by simp)).trans (by go_simp), (hb.cell (p := ⟨w.heap.size, 1, none⟩) (by simp)).trans (by go_simp), (hb.cell (p := ⟨w.heap.size, 2, none⟩) (by simp)).trans (by go_simp), (hb.cell (p := ⟨w.heap.size, 3, none⟩) (by simp)).trans (by go_simp), (hb.cell (p := ⟨w.heap.size, 4, none⟩) (by simp)).trans (by go_simp)⟩

set_option maxRecDepth 20000 in
set_option maxHeartbeats 4000000 in
theorem core_isaEncodes (i : Is.Inst) (w : World) (oi : i.ok) : Calls Try.prog 12 #[i.v] w fun e w' => e = .returned (.bool true) ∧ Below w.heap.size w w' := by
  obtain ⟨w0, hw0, hb0, hz0, hcells⟩ := Is.boxed i w
  have HC := Lib.hid hcells
  have HB0 := Lib.hid hb0
  have HZ0 := Lib.hid hz0
  have cO := Lib.hid (fun W => iown_any i W)
  have cE := Lib.hid (fun W => enc_own i W oi)
  have cR := Lib.hid (fun W => enc_ref i W)
  have cL := Lib.hid (fun W => legal_own i W oi)
  have cM := Lib.hid (fun W => legal_ref i W)
  generalize Is.enc i = E1 at *
  generalize Is.legal i = L1 at *
  obtain ⟨X1, e1⟩ := E1
  dsimp only at cE cR
  obtain ⟨op, rd, rs1, rs2, imm⟩ := i
  dsimp only at hw0 HC
  clear hb0 hz0 hcells oi
  go_enter Try.func12, Try.ntmps12
  obtain ⟨q0, q1, q2, q3, q4⟩ := HC.out _ (Below.refl _ _)
  go_wp2_with fail
  clear hw0 q0 q1 q2 q3 q4
  refine (cO.out _).mono ?_
  rintro e w1 ⟨rfl, hb1⟩
  have HB1 := Lib.hid (hb1.mono HZ0.out)
  clear hb1
  go_wp2_with fail
  refine (cE.out _).mono ?_
  rintro e w2 ⟨rfl, hb2⟩
  have HB2 := Lib.hid (HB1.out.trans (hb2.mono (Nat.le_trans HZ0.out HB1.out.size)))
  clear hb2
  obtain ⟨q0, q1, q2, q3, q4⟩ := HC.out _ HB2.out
  go_wp2_with fail
  refine (cR.out _).mono ?_
  rintro e w3 ⟨rfl, hb3⟩
  have HB3 := Lib.hid (HB2.out.trans (hb3.mono (Nat.le_trans HZ0.out HB2.out.size)))
  clear hb3 q0 q1 q2 q3 q4
  go_wp2_with fail
  refine Kit.wp_region_class (fun W' => Below (w.heap.size + 1) w0 W') (by kernel_rfl) (by kernel_rfl) (HB3.out.drew) ?_
  repeat (first | (refine BigFrame.wpQuiet_skip (by rfl) ?_; (try simp only [Act.put, List.getElem_toArray, List.getElem_cons_zero, List.getElem_cons_succ, List.setIfInBounds_toArray, List.set_cons_zero, List.set_cons_succ])) | (refine BigFrame.wpQuiet_want (by rfl) (fun K hK => ?_); first | (refine BigFrame.quiet_move _ rfl (hK _ ?_); clear hK K; (try simp only [Act.put, List.getElem_toArray, List.getElem_cons_zero, List.getElem_cons_succ, List.setIfInBounds_toArray, List.set_cons_zero, List.set_cons_succ])) | (refine BigFrame.quiet_assign _ rfl (hK _ ?_); clear hK K; (try simp only [Act.put, List.getElem_toArray, List.getElem_cons_zero, List.getElem_cons_succ, List.setIfInBounds_toArray, List.set_cons_zero, List.set_cons_succ])) | (apply Exists.intro; refine ⟨fun W' hW' => ?_, hK _ ?_⟩; (obtain ⟨q0, q1, q2, q3, q4⟩ := HC.out W' hW'; unfold Oper.quietAt; go_simp; (first | done | (with_reducible rfl) | (exact ⟨rfl, rfl⟩) | (first | (go_at_call 53; exact Kit.callS (inum_any _ _) hW') | (go_at_call 51; exact Kit.callB (cO.out _) hW' HZ0.out) | (go_at_call 54; exact Kit.callB (cL.out _) hW' HZ0.out) | (go_at_call 55; exact Kit.callB (cM.out _) hW' HZ0.out) | (go_at_call 56; exact Kit.callB (iknows_any _) hW' HZ0.out) | (refine ⟨rfl, ?_⟩; (first | (go_at_call 53; exact Kit.callS (inum_any _ _) hW') | (go_at_call 51; exact Kit.callB (cO.out _) hW' HZ0.out) | (go_at_call 54; exact Kit.callB (cL.out _) hW' HZ0.out) | (go_at_call 55; exact Kit.callB (cM.out _) hW' HZ0.out) | (go_at_call 56; exact Kit.callB (iknows_any _) hW' HZ0.out)))))); clear hK K; (try simp only [Act.put, List.getElem_toArray, List.getElem_cons_zero, List.getElem_cons_succ, List.setIfInBounds_toArray, List.set_cons_zero, List.set_cons_succ]))))
  refine wpQuiet_nil ?_
  intro W9 hW9
  go_wp2_with fail
  go_ret
  exact ⟨rfl, HB0.out.trans (hW9.mono (by omega))⟩
end Go.Proofs.Ytijekhdndegdaaa
