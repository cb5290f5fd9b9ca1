/- Texts joined: AsPiece, AsFirst. -/
import Derived.Test.YtfafdkbnmfpbmaaDoorJ12
import Derived.Test.YtfafdkbnmfpbmaaDoorJ13
import Derived.Test.YtfafdkbnmfpbmaaDoorJ11
import Derived.StillTailTactics
/- Layer 7: a piece's bytes. -/
namespace Go.Proofs.YtfafdkbnmfpbmaaDoor
open Go.RowKit Kit Go.Maps
set_option linter.unusedVariables false
set_option linter.unusedSimpArgs false

set_option maxRecDepth 20000 in
theorem As.MapIs.run {w : World} {b : Nat} {sy : List (List UInt8 × Nat)} (h : As.MapIs w b sy) (s : List UInt8) (hs : s.length ≤ maxLen) :
    (Instr.lookup 93 (.map (some b)) (.string ⟨s.toArray⟩) true).run Tryd.prog w = .ok (.tuple #[.int .u32 (((As.look sy s).getD 0 : Nat) : Int), .bool (As.look sy s).isSome]) w := by
  obtain ⟨D, hown, hD⟩ := h
  obtain ⟨v, ps, hrun, hv⟩ := hown.look_ok As.law Tryd.underlying93 (As.zeroE _) (plainElem_int Tryd.underlying53 (by decide)) (WideMaps.keyOf_string_mk (s := ⟨s.toArray⟩) Tryd.underlying9 (by simpa [ByteArray.size] using hs))
  obtain ⟨c, rfl, hat, _⟩ := plainElem_int_inv Tryd.underlying53 hv
  have hat := congrArg Prod.fst hat
  rw [hrun]
  have e : (⟨s.toArray⟩ : ByteArray).data.toList = s := by simp
  rw [e] at hat ⊢
  have hc : c = (((As.look sy s).getD 0 : Nat) : Int) := by
    cases hl : As.look sy s with
    | none =>
      have h1 := (hD s).1
      rw [hl] at h1
      rw [atKey_of_not_has h1] at hat
      injection hat with hat
      injection hat with _ hat
      exact hat.symm
    | some v =>
      have h2 := (hD s).2 v hl
      dsimp only at hat
      rw [h2] at hat
      injection hat with hat
      injection hat with _ hat
      exact hat.symm
  rw [hc, (hD s).1]
theorem As.or_rng (x y : Int) : 0 ≤ Go.bits .or .u32 x y ∧ Go.bits .or .u32 x y < 4294967296 := by
  show 0 ≤ IntKind.u32.wrap _ ∧ IntKind.u32.wrap _ < _
  rw [IntKind.wrap_u32]
  omega
theorem As.acc_rng (A : Nat) : ∀ (ps : List (Int × Int × Int)) (x : Int), (0 ≤ x ∧ x < 4294967296) → 0 ≤ Is.acc A x ps ∧ Is.acc A x ps < 4294967296
  | [], x, h => h
  | p :: t, x, h => As.acc_rng A t _ (As.or_rng _ _)
theorem As.enc_rng (i : Is.Inst) : 0 ≤ (Is.enc i).1 ∧ (Is.enc i).1 < 4294967296 := by
  unfold Is.enc
  split
  · dsimp only
    unfold Is.encV
    split
    · decide
    split
    · decide
    · exact As.acc_rng _ _ _ (As.or_rng _ _)
  · decide
/-- What piece hands back. -/
def As.PiecePost (w : World) (r : List UInt8 × Nat) (e : Ending) (w' : World) : Prop := ∃ vb, e = .returned (.tuple #[vb, .int .i64 (r.2 : Int)]) ∧ Rd w' 1 vb r.1.length (bv r.1) ∧ Below w.heap.size w w'
theorem As.s32_rng (v : Nat) (hv : v < 4294967296) : -2147483648 ≤ As.s32 v ∧ As.s32 v ≤ 4294967295 := by unfold As.s32; split <;> omega
theorem As.s32_wrap (v : Nat) (hv : v < 4294967296) : IntKind.i32.wrap (v : Int) = As.s32 v := by unfold As.s32; rw [IntKind.wrap_i32]; split <;> omega
theorem As.rd_four (w : World) (v : Nat) : Rd (w.alloc (.cells (bv (As.four v)).toArray 5)) 1 (.slice (some ⟨w.heap.size, 0, none⟩) 4 4) (As.four v).length (bv (As.four v)) := by
  have hbk := Bk.fresh w 5 (bv (As.four v)).toArray
  exact ⟨by rw [bv_length, Nat.mul_one], some ⟨w.heap.size, 0, none⟩, 4, rfl, Nat.le_refl _, by unfold maxLen; omega, fun _ => ⟨_, 0, rfl, hbk.lt, fun j u hu => by rw [Nat.zero_add, hbk.cell j]; simpa using hu⟩⟩
/-- What the walk has in hand. -/
structure As.PIn (B : Nat) (w : World) (gp b : Nat) (vl vb0 vs : Value) (a : Nat) (bs : List UInt8) (sm sy : List (List UInt8 × Nat)) (p : As.P) (vb : Value) : Prop where
  at_ : As.MsAt B w gp b vl vb0 vs a bs sm sy
  rd : Rd w 1 vb p.bytes.length (bv p.bytes)
  ok : p.inst.ok
  a : a < 4294967296
  bs : bs.length ≤ 2000000000
  n : p.name.length ≤ maxLen
  f : p.src.length ≤ maxLen
  sm : ∀ s v, As.look sm s = some v → v < 4294967296
set_option maxRecDepth 100000 in
set_option maxHeartbeats 8000000 in
theorem apiece_raw {B : Nat} {w : World} {gp b : Nat} {vl vb0 vs : Value} {a : Nat} {bs : List UInt8} {sm sy : List (List UInt8 × Nat)} (op rd rs1 rs2 imm : Int) (pb pn pf : List UInt8) (vb : Value) (h : As.PIn B w gp b vl vb0 vs a bs sm sy ⟨false, ⟨op, rd, rs1, rs2, imm⟩, pb, 0, pn, pf⟩ vb) :
    Calls Tryd.prog 86 #[.pointer (some ⟨gp, 0, none⟩), .agg #[.bool false, .int .i64 op, .int .i64 rd, .int .i64 rs1, .int .i64 rs2, .int .i64 imm, vb, .int .i64 0, .string ⟨pn.toArray⟩, .string ⟨pf.toArray⟩]] w (As.PiecePost w (As.piece sm ⟨false, ⟨op, rd, rs1, rs2, imm⟩, pb, 0, pn, pf⟩ (As.at32 (a + bs.length)))) := by
  have HI := Lib.hid h
  obtain ⟨BB, cb, rfl⟩ := h.rd.form
  dsimp only
  have hal : Below w.heap.size w (w.alloc (.cells #[.bool false, .int .i64 op, .int .i64 rd, .int .i64 rs1, .int .i64 rs2, .int .i64 imm, .slice BB pb.length cb, .int .i64 0, .string ⟨pn.toArray⟩, .string ⟨pf.toArray⟩] 141)) := (Below.refl _ _).alloc (Nat.le_refl _) _
  have hbk := Bk.fresh w 141 #[.bool false, .int .i64 op, .int .i64 rd, .int .i64 rs1, .int .i64 rs2, .int .i64 imm, .slice BB pb.length cb, .int .i64 0, .string ⟨pn.toArray⟩, .string ⟨pf.toArray⟩]
  have HAT := Lib.hid (h.at_.kept hal)
  have HRD := Lib.hid (h.rd.kept hal)
  have HAL := Lib.hid hal
  have HBK := Lib.hid hbk
  clear h hal hbk
  obtain ⟨W1, hW1⟩ : ∃ W1, w.alloc (.cells #[.bool false, .int .i64 op, .int .i64 rd, .int .i64 rs1, .int .i64 rs2, .int .i64 imm, .slice BB pb.length cb, .int .i64 0, .string ⟨pn.toArray⟩, .string ⟨pf.toArray⟩] 141) = W1 := ⟨_, rfl⟩
  rw [hW1] at HAT HRD HAL HBK
  have b0 := HBK.out.cell 0
  have b6 := HBK.out.cell 6
  have b7 := HBK.out.cell 7
  have fz := HBK.out.free 5
  simp only [List.getElem?_toArray, List.getElem?_cons_zero, List.getElem?_cons_succ] at b0 b6 b7
  have HP := Lib.hid (show As.piece sm ⟨false, ⟨op, rd, rs1, rs2, imm⟩, pb, 0, pn, pf⟩ (As.at32 (a + bs.length)) = (pb, 0) from by unfold As.piece; rw [if_pos ⟨rfl, rfl⟩])
  go_enter Tryd.func86, Tryd.ntmps86
  go_wp2_with fail
  clear hW1
  go_wp2_with fail
  go_ret2
  rw [HP.out]
  exact ⟨_, rfl, HRD.out, HAL.out⟩
set_option maxRecDepth 100000 in
set_option maxHeartbeats 8000000 in
theorem apiece_code {B : Nat} {w : World} {gp b : Nat} {vl vb0 vs : Value} {a : Nat} {bs : List UInt8} {sm sy : List (List UInt8 × Nat)} (op rd rs1 rs2 imm : Int) (pb pn pf : List UInt8) (vb : Value) (h : As.PIn B w gp b vl vb0 vs a bs sm sy ⟨true, ⟨op, rd, rs1, rs2, imm⟩, pb, 0, pn, pf⟩ vb) :
    Calls Tryd.prog 86 #[.pointer (some ⟨gp, 0, none⟩), .agg #[.bool true, .int .i64 op, .int .i64 rd, .int .i64 rs1, .int .i64 rs2, .int .i64 imm, vb, .int .i64 0, .string ⟨pn.toArray⟩, .string ⟨pf.toArray⟩]] w (As.PiecePost w (As.piece sm ⟨true, ⟨op, rd, rs1, rs2, imm⟩, pb, 0, pn, pf⟩ (As.at32 (a + bs.length)))) := by
  have HI := Lib.hid h
  obtain ⟨BB, cb, rfl⟩ := h.rd.form
  dsimp only
  have hal : Below w.heap.size w (w.alloc (.cells #[.bool true, .int .i64 op, .int .i64 rd, .int .i64 rs1, .int .i64 rs2, .int .i64 imm, .slice BB pb.length cb, .int .i64 0, .string ⟨pn.toArray⟩, .string ⟨pf.toArray⟩] 141)) := (Below.refl _ _).alloc (Nat.le_refl _) _
  have hbk := Bk.fresh w 141 #[.bool true, .int .i64 op, .int .i64 rd, .int .i64 rs1, .int .i64 rs2, .int .i64 imm, .slice BB pb.length cb, .int .i64 0, .string ⟨pn.toArray⟩, .string ⟨pf.toArray⟩]
  have HAT := Lib.hid (h.at_.kept hal)
  have HRD := Lib.hid (h.rd.kept hal)
  have HAL := Lib.hid hal
  have HBK := Lib.hid hbk
  clear h hal hbk
  obtain ⟨W1, hW1⟩ : ∃ W1, w.alloc (.cells #[.bool true, .int .i64 op, .int .i64 rd, .int .i64 rs1, .int .i64 rs2, .int .i64 imm, .slice BB pb.length cb, .int .i64 0, .string ⟨pn.toArray⟩, .string ⟨pf.toArray⟩] 141) = W1 := ⟨_, rfl⟩
  rw [hW1] at HAT HRD HAL HBK
  have b0 := HBK.out.cell 0
  have b1 := HBK.out.cell 1
  have b2 := HBK.out.cell 2
  have b3 := HBK.out.cell 3
  have b4 := HBK.out.cell 4
  have b5 := HBK.out.cell 5
  have b6 := HBK.out.cell 6
  have b7 := HBK.out.cell 7
  have b8 := HBK.out.cell 8
  have b9 := HBK.out.cell 9
  have fz := HBK.out.free 5
  simp only [List.getElem?_toArray, List.getElem?_cons_zero, List.getElem?_cons_succ] at b0 b1 b2 b3 b4 b5 b6 b7 b8 b9
  obtain ⟨Ab, cbs, hvb⟩ := (Rd.of_own HAT.out.by_).form
  subst hvb
  have c1 := HAT.out.seen.c1
  have c2 := HAT.out.seen.c2
  have c3 := HAT.out.seen.c3
  have hl32 : IntKind.u32.wrap (bs.length : Int) = (bs.length : Int) := by have := HI.out.bs; rw [IntKind.wrap_u32]; omega
  have hat : IntKind.u32.wrap ((a : Int) + (bs.length : Int)) = ((As.at32 (a + bs.length) : Nat) : Int) := by unfold As.at32; rw [IntKind.wrap_u32]; omega
  have HAL32 := Lib.hid (show As.at32 (a + bs.length) < 4294967296 from by unfold As.at32; omega)
  have hlk := HAT.out.map.run pn HI.out.n
  have hlk1 : (Instr.lookup 93 (.map (some b)) (.string ⟨pn.toArray⟩) true).run Tryd.prog W1.drew = .ok (.tuple #[.int .u32 (((As.look sm pn).getD 0 : Nat) : Int), .bool (As.look sm pn).isSome]) W1.drew := (show As.MapIs W1.drew b sm from HAT.out.map).run pn HI.out.n
  have hlk2 : (Instr.lookup 93 (.map (some b)) (.string ⟨pn.toArray⟩) true).run Tryd.prog W1.drew.drew = .ok (.tuple #[.int .u32 (((As.look sm pn).getD 0 : Nat) : Int), .bool (As.look sm pn).isSome]) W1.drew.drew := (show As.MapIs W1.drew.drew b sm from HAT.out.map).run pn HI.out.n
  generalize hAt : As.at32 (a + bs.length) = T at *
  cases hlook : As.look sm pn with
  | none =>
    rw [hlook] at hlk hlk1 hlk2
    simp only [Option.getD_none, Option.isSome_none] at hlk hlk1 hlk2
    have hv32 : 0 < 4294967296 := by decide
    have hs32 := As.s32_wrap 0 hv32
    have hsr := As.s32_rng 0 hv32
    have hs64 : IntKind.i64.wrap (As.s32 0) = As.s32 0 := by rw [IntKind.wrap_i64]; omega
    have CH := Lib.hid (fun W => ahalves_any (As.s32 0) W hsr.1 hsr.2)
    have hj : As.aim ⟨true, ⟨op, rd, rs1, rs2, imm⟩, pb, 0, pn, pf⟩ 0 T = (⟨op, rd, rs1, rs2, imm⟩, 20) := rfl
    have HP := Lib.hid (show As.piece sm ⟨true, ⟨op, rd, rs1, rs2, imm⟩, pb, 0, pn, pf⟩ T = if (Is.enc ⟨op, rd, rs1, rs2, imm⟩).2 = 0 then (As.four (Is.enc ⟨op, rd, rs1, rs2, imm⟩).1.toNat, 0) else ([], 20) from by
      unfold As.piece
      rw [if_neg (fun e => by cases e.2), if_neg (fun e => by exact e.1 rfl), if_neg (fun e => by cases e), if_neg (fun e => by cases e), hlook, Option.getD_none, hj])
    have hok : Is.Inst.ok ⟨op, rd, rs1, rs2, imm⟩ := ⟨HI.out.ok.op, HI.out.ok.rd, HI.out.ok.rs1, HI.out.ok.rs2, HI.out.ok.imm⟩
    have CE := Lib.hid (fun W => enc_own ⟨op, rd, rs1, rs2, imm⟩ W hok)
    have HER := Lib.hid (As.enc_rng ⟨op, rd, rs1, rs2, imm⟩)
    clear hok hlook
    go_enter Tryd.func86, Tryd.ntmps86
    go_wp2_with fail
    clear hW1
    go_wp2_with fail
    refine wp_region_still_lit (by kernel_rfl) (by kernel_rfl) ?_
    rw [show ∀ W : World, {W with drawn := W.drawn + 1} = W.drew from fun _ => rfl]
    repeat ((with_reducible refine wpStill_step (fun K hK => ?_)); go_simp; (try go_bits); (with_reducible refine hK _ ?_); clear hK K)
    refine wpStill_nil ?_
    go_wp2_with fail
    refine wp_region_still_lit (by kernel_rfl) (by kernel_rfl) ?_
    rw [show ∀ W : World, {W with drawn := W.drawn + 1} = W.drew from fun _ => rfl]
    repeat ((with_reducible refine wpStill_step (fun K hK => ?_)); go_simp; (try go_bits); (with_reducible refine hK _ ?_); clear hK K)
    refine wpStill_nil ?_
    go_wp2_with fail
    go_at_call 120
    refine (CH.out _).mono ?_
    rintro e w' ⟨rfl, rfl⟩
    go_wp2_with fail
    go_at_call 122
    refine (CE.out _).mono ?_
    rintro e w5 ⟨rfl, hb5⟩
    have HB5 := Lib.hid (show Below w.heap.size w w5 from (HAL.out.drew.drew).trans (hb5.mono (by have := HAL.out.size; simpa using this)))
    clear hb5
    obtain ⟨ew, ee, hE⟩ : ∃ x y, Is.enc ⟨op, rd, rs1, rs2, imm⟩ = (x, y) := ⟨_, _, rfl⟩
    have HP2 := HP.out
    have her := HER.out
    rw [hE] at HP2 her ⊢
    dsimp only at HP2 her ⊢
    by_cases h0 : ee = 0
    · subst h0
      rw [if_pos rfl] at HP2
      have CF := Lib.hid (fun W => afour_any ew.toNat W (by omega))
      rw [show ((ew.toNat : Nat) : Int) = ew by omega] at CF
      go_wp2_with fail
      go_at_call 121
      refine (CF.out _).mono ?_
      rintro e w6 ⟨rfl, rfl⟩
      go_wp2_with fail
      go_ret2
      rw [HP2]
      exact ⟨_, rfl, As.rd_four _ _, HB5.out.alloc HB5.out.size _⟩
    · have hne : (ee == (0 : Int)) = false := by simpa using h0
      have hne2 : (!ee == (0 : Int)) = true := by simpa using h0
      rw [if_neg h0] at HP2
      go_wp2_with fail
      go_ret2
      rw [HP2]
      exact ⟨_, rfl, Rd.nil _ _, HB5.out⟩
  | some u =>
    have hu := HI.out.sm pn u hlook
    rw [hlook] at hlk hlk1 hlk2
    simp only [Option.getD_some, Option.isSome_some] at hlk hlk1 hlk2
    have hv32 : u < 4294967296 := hu
    have hs32 := As.s32_wrap u hv32
    have hsr := As.s32_rng u hv32
    have hs64 : IntKind.i64.wrap (As.s32 u) = As.s32 u := by rw [IntKind.wrap_i64]; omega
    have CH := Lib.hid (fun W => ahalves_any (As.s32 u) W hsr.1 hsr.2)
    have hj : As.aim ⟨true, ⟨op, rd, rs1, rs2, imm⟩, pb, 0, pn, pf⟩ u T = (⟨op, rd, rs1, rs2, imm⟩, 20) := rfl
    have HP := Lib.hid (show As.piece sm ⟨true, ⟨op, rd, rs1, rs2, imm⟩, pb, 0, pn, pf⟩ T = if (Is.enc ⟨op, rd, rs1, rs2, imm⟩).2 = 0 then (As.four (Is.enc ⟨op, rd, rs1, rs2, imm⟩).1.toNat, 0) else ([], 20) from by
      unfold As.piece
      rw [if_neg (fun e => by cases e.2), if_neg (fun e => by exact e.1 rfl), if_neg (fun e => by cases e), if_neg (fun e => by cases e), hlook, Option.getD_some, hj])
    have hok : Is.Inst.ok ⟨op, rd, rs1, rs2, imm⟩ := ⟨HI.out.ok.op, HI.out.ok.rd, HI.out.ok.rs1, HI.out.ok.rs2, HI.out.ok.imm⟩
    have CE := Lib.hid (fun W => enc_own ⟨op, rd, rs1, rs2, imm⟩ W hok)
    have HER := Lib.hid (As.enc_rng ⟨op, rd, rs1, rs2, imm⟩)
    clear hok hlook
    go_enter Tryd.func86, Tryd.ntmps86
    go_wp2_with fail
    clear hW1
    go_wp2_with fail
    refine wp_region_still_lit (by kernel_rfl) (by kernel_rfl) ?_
    rw [show ∀ W : World, {W with drawn := W.drawn + 1} = W.drew from fun _ => rfl]
    repeat ((with_reducible refine wpStill_step (fun K hK => ?_)); go_simp; (try go_bits); (with_reducible refine hK _ ?_); clear hK K)
    refine wpStill_nil ?_
    go_wp2_with fail
    refine wp_region_still_lit (by kernel_rfl) (by kernel_rfl) ?_
    rw [show ∀ W : World, {W with drawn := W.drawn + 1} = W.drew from fun _ => rfl]
    repeat ((with_reducible refine wpStill_step (fun K hK => ?_)); go_simp; (try go_bits); (with_reducible refine hK _ ?_); clear hK K)
    refine wpStill_nil ?_
    go_wp2_with fail
    go_at_call 120
    refine (CH.out _).mono ?_
    rintro e w' ⟨rfl, rfl⟩
    go_wp2_with fail
    go_at_call 122
    refine (CE.out _).mono ?_
    rintro e w5 ⟨rfl, hb5⟩
    have HB5 := Lib.hid (show Below w.heap.size w w5 from (HAL.out.drew.drew).trans (hb5.mono (by have := HAL.out.size; simpa using this)))
    clear hb5
    obtain ⟨ew, ee, hE⟩ : ∃ x y, Is.enc ⟨op, rd, rs1, rs2, imm⟩ = (x, y) := ⟨_, _, rfl⟩
    have HP2 := HP.out
    have her := HER.out
    rw [hE] at HP2 her ⊢
    dsimp only at HP2 her ⊢
    by_cases h0 : ee = 0
    · subst h0
      rw [if_pos rfl] at HP2
      have CF := Lib.hid (fun W => afour_any ew.toNat W (by omega))
      rw [show ((ew.toNat : Nat) : Int) = ew by omega] at CF
      go_wp2_with fail
      go_at_call 121
      refine (CF.out _).mono ?_
      rintro e w6 ⟨rfl, rfl⟩
      go_wp2_with fail
      go_ret2
      rw [HP2]
      exact ⟨_, rfl, As.rd_four _ _, HB5.out.alloc HB5.out.size _⟩
    · have hne : (ee == (0 : Int)) = false := by simpa using h0
      have hne2 : (!ee == (0 : Int)) = true := by simpa using h0
      rw [if_neg h0] at HP2
      go_wp2_with fail
      go_ret2
      rw [HP2]
      exact ⟨_, rfl, Rd.nil _ _, HB5.out⟩
set_option maxRecDepth 100000 in
set_option maxHeartbeats 8000000 in
theorem apiece_goal {B : Nat} {w : World} {gp b : Nat} {vl vb0 vs : Value} {a : Nat} {bs : List UInt8} {sm sy : List (List UInt8 × Nat)} (op rd rs1 rs2 imm : Int) (pb pn pf : List UInt8) (vb : Value) (h : As.PIn B w gp b vl vb0 vs a bs sm sy ⟨true, ⟨op, rd, rs1, rs2, imm⟩, pb, 1, pn, pf⟩ vb) :
    Calls Tryd.prog 86 #[.pointer (some ⟨gp, 0, none⟩), .agg #[.bool true, .int .i64 op, .int .i64 rd, .int .i64 rs1, .int .i64 rs2, .int .i64 imm, vb, .int .i64 1, .string ⟨pn.toArray⟩, .string ⟨pf.toArray⟩]] w (As.PiecePost w (As.piece sm ⟨true, ⟨op, rd, rs1, rs2, imm⟩, pb, 1, pn, pf⟩ (As.at32 (a + bs.length)))) := by
  have HI := Lib.hid h
  obtain ⟨BB, cb, rfl⟩ := h.rd.form
  dsimp only
  have hal : Below w.heap.size w (w.alloc (.cells #[.bool true, .int .i64 op, .int .i64 rd, .int .i64 rs1, .int .i64 rs2, .int .i64 imm, .slice BB pb.length cb, .int .i64 1, .string ⟨pn.toArray⟩, .string ⟨pf.toArray⟩] 141)) := (Below.refl _ _).alloc (Nat.le_refl _) _
  have hbk := Bk.fresh w 141 #[.bool true, .int .i64 op, .int .i64 rd, .int .i64 rs1, .int .i64 rs2, .int .i64 imm, .slice BB pb.length cb, .int .i64 1, .string ⟨pn.toArray⟩, .string ⟨pf.toArray⟩]
  have HAT := Lib.hid (h.at_.kept hal)
  have HRD := Lib.hid (h.rd.kept hal)
  have HAL := Lib.hid hal
  have HBK := Lib.hid hbk
  clear h hal hbk
  obtain ⟨W1, hW1⟩ : ∃ W1, w.alloc (.cells #[.bool true, .int .i64 op, .int .i64 rd, .int .i64 rs1, .int .i64 rs2, .int .i64 imm, .slice BB pb.length cb, .int .i64 1, .string ⟨pn.toArray⟩, .string ⟨pf.toArray⟩] 141) = W1 := ⟨_, rfl⟩
  rw [hW1] at HAT HRD HAL HBK
  have b0 := HBK.out.cell 0
  have b1 := HBK.out.cell 1
  have b2 := HBK.out.cell 2
  have b3 := HBK.out.cell 3
  have b4 := HBK.out.cell 4
  have b5 := HBK.out.cell 5
  have b6 := HBK.out.cell 6
  have b7 := HBK.out.cell 7
  have b8 := HBK.out.cell 8
  have b9 := HBK.out.cell 9
  have fz := HBK.out.free 5
  simp only [List.getElem?_toArray, List.getElem?_cons_zero, List.getElem?_cons_succ] at b0 b1 b2 b3 b4 b5 b6 b7 b8 b9
  obtain ⟨Ab, cbs, hvb⟩ := (Rd.of_own HAT.out.by_).form
  subst hvb
  have c1 := HAT.out.seen.c1
  have c2 := HAT.out.seen.c2
  have c3 := HAT.out.seen.c3
  have hl32 : IntKind.u32.wrap (bs.length : Int) = (bs.length : Int) := by have := HI.out.bs; rw [IntKind.wrap_u32]; omega
  have hat : IntKind.u32.wrap ((a : Int) + (bs.length : Int)) = ((As.at32 (a + bs.length) : Nat) : Int) := by unfold As.at32; rw [IntKind.wrap_u32]; omega
  have HAL32 := Lib.hid (show As.at32 (a + bs.length) < 4294967296 from by unfold As.at32; omega)
  have hlk := HAT.out.map.run pn HI.out.n
  have hlk1 : (Instr.lookup 93 (.map (some b)) (.string ⟨pn.toArray⟩) true).run Tryd.prog W1.drew = .ok (.tuple #[.int .u32 (((As.look sm pn).getD 0 : Nat) : Int), .bool (As.look sm pn).isSome]) W1.drew := (show As.MapIs W1.drew b sm from HAT.out.map).run pn HI.out.n
  have hlk2 : (Instr.lookup 93 (.map (some b)) (.string ⟨pn.toArray⟩) true).run Tryd.prog W1.drew.drew = .ok (.tuple #[.int .u32 (((As.look sm pn).getD 0 : Nat) : Int), .bool (As.look sm pn).isSome]) W1.drew.drew := (show As.MapIs W1.drew.drew b sm from HAT.out.map).run pn HI.out.n
  generalize hAt : As.at32 (a + bs.length) = T at *
  cases hlook : As.look sm pn with
  | none =>
    rw [hlook] at hlk hlk1 hlk2
    simp only [Option.getD_none, Option.isSome_none] at hlk hlk1 hlk2
    have HP := Lib.hid (show As.piece sm ⟨true, ⟨op, rd, rs1, rs2, imm⟩, pb, 1, pn, pf⟩ T = ([], 41) from by unfold As.piece; rw [if_neg (fun e => by cases e.1), if_pos ⟨fun e => (by cases e), hlook⟩])
    clear hlook
    go_enter Tryd.func86, Tryd.ntmps86
    go_wp2_with fail
    clear hW1
    go_wp2_with fail
    refine wp_region_still_lit (by kernel_rfl) (by kernel_rfl) ?_
    rw [show ∀ W : World, {W with drawn := W.drawn + 1} = W.drew from fun _ => rfl]
    repeat ((with_reducible refine wpStill_step (fun K hK => ?_)); go_simp; (try go_bits); (with_reducible refine hK _ ?_); clear hK K)
    refine wpStill_nil ?_
    go_wp2_with fail
    refine wp_region_still_lit (by kernel_rfl) (by kernel_rfl) ?_
    rw [show ∀ W : World, {W with drawn := W.drawn + 1} = W.drew from fun _ => rfl]
    repeat ((with_reducible refine wpStill_step (fun K hK => ?_)); go_simp; (try go_bits); (with_reducible refine hK _ ?_); clear hK K)
    refine wpStill_nil ?_
    go_wp2_with fail
    go_ret2
    rw [HP.out]
    exact ⟨_, rfl, Rd.nil _ _, HAL.out.drew.drew⟩
  | some u =>
    have hu := HI.out.sm pn u hlook
    rw [hlook] at hlk hlk1 hlk2
    simp only [Option.getD_some, Option.isSome_some] at hlk hlk1 hlk2
    have hv32 : u < 4294967296 := hu
    have hs32 := As.s32_wrap u hv32
    have hsr := As.s32_rng u hv32
    have hs64 : IntKind.i64.wrap (As.s32 u) = As.s32 u := by rw [IntKind.wrap_i64]; omega
    have CH := Lib.hid (fun W => ahalves_any (As.s32 u) W hsr.1 hsr.2)
    have hj : As.aim ⟨true, ⟨op, rd, rs1, rs2, imm⟩, pb, 1, pn, pf⟩ u T = (⟨op, rd, rs1, rs2, As.s32 (As.bits ((u : Int) - (T : Int)))⟩, 43) := rfl
    have HP := Lib.hid (show As.piece sm ⟨true, ⟨op, rd, rs1, rs2, imm⟩, pb, 1, pn, pf⟩ T = if (Is.enc ⟨op, rd, rs1, rs2, As.s32 (As.bits ((u : Int) - (T : Int)))⟩).2 = 0 then (As.four (Is.enc ⟨op, rd, rs1, rs2, As.s32 (As.bits ((u : Int) - (T : Int)))⟩).1.toNat, 0) else ([], 43) from by
      unfold As.piece
      rw [if_neg (fun e => by cases e.2), if_neg (fun e => by rw [hlook] at e; cases e.2), if_neg (fun e => by cases e), if_neg (fun e => by cases e), hlook, Option.getD_some, hj])
    have hsub : IntKind.u32.wrap ((u : Int) - (T : Int)) = ((As.bits ((u : Int) - (T : Int)) : Nat) : Int) := by rw [As.bits_int, IntKind.wrap_u32]
    have hbl := As.bits_lt ((u : Int) - (T : Int))
    have hs2 := As.s32_wrap _ hbl
    have hsr2 := As.s32_rng _ hbl
    have hs64b : IntKind.i64.wrap (As.s32 (As.bits ((u : Int) - (T : Int)))) = As.s32 (As.bits ((u : Int) - (T : Int))) := by rw [IntKind.wrap_i64]; omega
    generalize hBT : As.bits ((u : Int) - (T : Int)) = BT at *
    have hok : Is.Inst.ok ⟨op, rd, rs1, rs2, As.s32 BT⟩ := ⟨HI.out.ok.op, HI.out.ok.rd, HI.out.ok.rs1, HI.out.ok.rs2, by show Is.in64 (As.s32 BT); unfold Is.in64; omega⟩
    have CE := Lib.hid (fun W => enc_own ⟨op, rd, rs1, rs2, As.s32 BT⟩ W hok)
    have HER := Lib.hid (As.enc_rng ⟨op, rd, rs1, rs2, As.s32 BT⟩)
    clear hok hlook
    go_enter Tryd.func86, Tryd.ntmps86
    go_wp2_with fail
    clear hW1
    go_wp2_with fail
    refine wp_region_still_lit (by kernel_rfl) (by kernel_rfl) ?_
    rw [show ∀ W : World, {W with drawn := W.drawn + 1} = W.drew from fun _ => rfl]
    repeat ((with_reducible refine wpStill_step (fun K hK => ?_)); go_simp; (try go_bits); (with_reducible refine hK _ ?_); clear hK K)
    refine wpStill_nil ?_
    go_wp2_with fail
    refine wp_region_still_lit (by kernel_rfl) (by kernel_rfl) ?_
    rw [show ∀ W : World, {W with drawn := W.drawn + 1} = W.drew from fun _ => rfl]
    repeat ((with_reducible refine wpStill_step (fun K hK => ?_)); go_simp; (try go_bits); (with_reducible refine hK _ ?_); clear hK K)
    refine wpStill_nil ?_
    go_wp2_with fail
    go_at_call 120
    refine (CH.out _).mono ?_
    rintro e w' ⟨rfl, rfl⟩
    go_wp2_with fail
    go_at_call 122
    refine (CE.out _).mono ?_
    rintro e w5 ⟨rfl, hb5⟩
    have HB5 := Lib.hid (show Below w.heap.size w w5 from ((HAL.out.drew.drew).setCell (Nat.le_refl _) _).trans (hb5.mono (by have := HAL.out.size; simp [World.setCell]; exact this)))
    clear hb5
    obtain ⟨ew, ee, hE⟩ : ∃ x y, Is.enc ⟨op, rd, rs1, rs2, As.s32 BT⟩ = (x, y) := ⟨_, _, rfl⟩
    have HP2 := HP.out
    have her := HER.out
    rw [hE] at HP2 her ⊢
    dsimp only at HP2 her ⊢
    by_cases h0 : ee = 0
    · subst h0
      rw [if_pos rfl] at HP2
      have CF := Lib.hid (fun W => afour_any ew.toNat W (by omega))
      rw [show ((ew.toNat : Nat) : Int) = ew by omega] at CF
      go_wp2_with fail
      go_at_call 121
      refine (CF.out _).mono ?_
      rintro e w6 ⟨rfl, rfl⟩
      go_wp2_with fail
      go_ret2
      rw [HP2]
      exact ⟨_, rfl, As.rd_four _ _, HB5.out.alloc HB5.out.size _⟩
    · have hne : (ee == (0 : Int)) = false := by simpa using h0
      have hne2 : (!ee == (0 : Int)) = true := by simpa using h0
      rw [if_neg h0] at HP2
      go_wp2_with fail
      go_ret2
      rw [HP2]
      exact ⟨_, rfl, Rd.nil _ _, HB5.out⟩
set_option maxRecDepth 100000 in
set_option maxHeartbeats 8000000 in
theorem apiece_upper {B : Nat} {w : World} {gp b : Nat} {vl vb0 vs : Value} {a : Nat} {bs : List UInt8} {sm sy : List (List UInt8 × Nat)} (op rd rs1 rs2 imm : Int) (pb pn pf : List UInt8) (vb : Value) (h : As.PIn B w gp b vl vb0 vs a bs sm sy ⟨true, ⟨op, rd, rs1, rs2, imm⟩, pb, 2, pn, pf⟩ vb) :
    Calls Tryd.prog 86 #[.pointer (some ⟨gp, 0, none⟩), .agg #[.bool true, .int .i64 op, .int .i64 rd, .int .i64 rs1, .int .i64 rs2, .int .i64 imm, vb, .int .i64 2, .string ⟨pn.toArray⟩, .string ⟨pf.toArray⟩]] w (As.PiecePost w (As.piece sm ⟨true, ⟨op, rd, rs1, rs2, imm⟩, pb, 2, pn, pf⟩ (As.at32 (a + bs.length)))) := by
  have HI := Lib.hid h
  obtain ⟨BB, cb, rfl⟩ := h.rd.form
  dsimp only
  have hal : Below w.heap.size w (w.alloc (.cells #[.bool true, .int .i64 op, .int .i64 rd, .int .i64 rs1, .int .i64 rs2, .int .i64 imm, .slice BB pb.length cb, .int .i64 2, .string ⟨pn.toArray⟩, .string ⟨pf.toArray⟩] 141)) := (Below.refl _ _).alloc (Nat.le_refl _) _
  have hbk := Bk.fresh w 141 #[.bool true, .int .i64 op, .int .i64 rd, .int .i64 rs1, .int .i64 rs2, .int .i64 imm, .slice BB pb.length cb, .int .i64 2, .string ⟨pn.toArray⟩, .string ⟨pf.toArray⟩]
  have HAT := Lib.hid (h.at_.kept hal)
  have HRD := Lib.hid (h.rd.kept hal)
  have HAL := Lib.hid hal
  have HBK := Lib.hid hbk
  clear h hal hbk
  obtain ⟨W1, hW1⟩ : ∃ W1, w.alloc (.cells #[.bool true, .int .i64 op, .int .i64 rd, .int .i64 rs1, .int .i64 rs2, .int .i64 imm, .slice BB pb.length cb, .int .i64 2, .string ⟨pn.toArray⟩, .string ⟨pf.toArray⟩] 141) = W1 := ⟨_, rfl⟩
  rw [hW1] at HAT HRD HAL HBK
  have b0 := HBK.out.cell 0
  have b1 := HBK.out.cell 1
  have b2 := HBK.out.cell 2
  have b3 := HBK.out.cell 3
  have b4 := HBK.out.cell 4
  have b5 := HBK.out.cell 5
  have b6 := HBK.out.cell 6
  have b7 := HBK.out.cell 7
  have b8 := HBK.out.cell 8
  have b9 := HBK.out.cell 9
  have fz := HBK.out.free 5
  simp only [List.getElem?_toArray, List.getElem?_cons_zero, List.getElem?_cons_succ] at b0 b1 b2 b3 b4 b5 b6 b7 b8 b9
  obtain ⟨Ab, cbs, hvb⟩ := (Rd.of_own HAT.out.by_).form
  subst hvb
  have c1 := HAT.out.seen.c1
  have c2 := HAT.out.seen.c2
  have c3 := HAT.out.seen.c3
  have hl32 : IntKind.u32.wrap (bs.length : Int) = (bs.length : Int) := by have := HI.out.bs; rw [IntKind.wrap_u32]; omega
  have hat : IntKind.u32.wrap ((a : Int) + (bs.length : Int)) = ((As.at32 (a + bs.length) : Nat) : Int) := by unfold As.at32; rw [IntKind.wrap_u32]; omega
  have HAL32 := Lib.hid (show As.at32 (a + bs.length) < 4294967296 from by unfold As.at32; omega)
  have hlk := HAT.out.map.run pn HI.out.n
  have hlk1 : (Instr.lookup 93 (.map (some b)) (.string ⟨pn.toArray⟩) true).run Tryd.prog W1.drew = .ok (.tuple #[.int .u32 (((As.look sm pn).getD 0 : Nat) : Int), .bool (As.look sm pn).isSome]) W1.drew := (show As.MapIs W1.drew b sm from HAT.out.map).run pn HI.out.n
  have hlk2 : (Instr.lookup 93 (.map (some b)) (.string ⟨pn.toArray⟩) true).run Tryd.prog W1.drew.drew = .ok (.tuple #[.int .u32 (((As.look sm pn).getD 0 : Nat) : Int), .bool (As.look sm pn).isSome]) W1.drew.drew := (show As.MapIs W1.drew.drew b sm from HAT.out.map).run pn HI.out.n
  generalize hAt : As.at32 (a + bs.length) = T at *
  cases hlook : As.look sm pn with
  | none =>
    rw [hlook] at hlk hlk1 hlk2
    simp only [Option.getD_none, Option.isSome_none] at hlk hlk1 hlk2
    have HP := Lib.hid (show As.piece sm ⟨true, ⟨op, rd, rs1, rs2, imm⟩, pb, 2, pn, pf⟩ T = ([], 41) from by unfold As.piece; rw [if_neg (fun e => by cases e.1), if_pos ⟨fun e => (by cases e), hlook⟩])
    clear hlook
    go_enter Tryd.func86, Tryd.ntmps86
    go_wp2_with fail
    clear hW1
    go_wp2_with fail
    refine wp_region_still_lit (by kernel_rfl) (by kernel_rfl) ?_
    rw [show ∀ W : World, {W with drawn := W.drawn + 1} = W.drew from fun _ => rfl]
    repeat ((with_reducible refine wpStill_step (fun K hK => ?_)); go_simp; (try go_bits); (with_reducible refine hK _ ?_); clear hK K)
    refine wpStill_nil ?_
    go_wp2_with fail
    refine wp_region_still_lit (by kernel_rfl) (by kernel_rfl) ?_
    rw [show ∀ W : World, {W with drawn := W.drawn + 1} = W.drew from fun _ => rfl]
    repeat ((with_reducible refine wpStill_step (fun K hK => ?_)); go_simp; (try go_bits); (with_reducible refine hK _ ?_); clear hK K)
    refine wpStill_nil ?_
    go_wp2_with fail
    go_ret2
    rw [HP.out]
    exact ⟨_, rfl, Rd.nil _ _, HAL.out.drew.drew⟩
  | some u =>
    have hu := HI.out.sm pn u hlook
    rw [hlook] at hlk hlk1 hlk2
    simp only [Option.getD_some, Option.isSome_some] at hlk hlk1 hlk2
    have hv32 : u < 4294967296 := hu
    have hs32 := As.s32_wrap u hv32
    have hsr := As.s32_rng u hv32
    have hs64 : IntKind.i64.wrap (As.s32 u) = As.s32 u := by rw [IntKind.wrap_i64]; omega
    have CH := Lib.hid (fun W => ahalves_any (As.s32 u) W hsr.1 hsr.2)
    have hj : As.aim ⟨true, ⟨op, rd, rs1, rs2, imm⟩, pb, 2, pn, pf⟩ u T = (⟨op, rd, rs1, rs2, As.hi (As.s32 u)⟩, 20) := rfl
    have HP := Lib.hid (show As.piece sm ⟨true, ⟨op, rd, rs1, rs2, imm⟩, pb, 2, pn, pf⟩ T = if (Is.enc ⟨op, rd, rs1, rs2, As.hi (As.s32 u)⟩).2 = 0 then (As.four (Is.enc ⟨op, rd, rs1, rs2, As.hi (As.s32 u)⟩).1.toNat, 0) else ([], 20) from by
      unfold As.piece
      rw [if_neg (fun e => by cases e.2), if_neg (fun e => by rw [hlook] at e; cases e.2), if_neg (fun e => by cases e), if_neg (fun e => by cases e), hlook, Option.getD_some, hj])
    have hok : Is.Inst.ok ⟨op, rd, rs1, rs2, As.hi (As.s32 u)⟩ := ⟨HI.out.ok.op, HI.out.ok.rd, HI.out.ok.rs1, HI.out.ok.rs2, by have := As.hi_rng (As.s32 u); show Is.in64 (As.hi (As.s32 u)); unfold Is.in64; omega⟩
    have CE := Lib.hid (fun W => enc_own ⟨op, rd, rs1, rs2, As.hi (As.s32 u)⟩ W hok)
    have HER := Lib.hid (As.enc_rng ⟨op, rd, rs1, rs2, As.hi (As.s32 u)⟩)
    clear hok hlook
    go_enter Tryd.func86, Tryd.ntmps86
    go_wp2_with fail
    clear hW1
    go_wp2_with fail
    refine wp_region_still_lit (by kernel_rfl) (by kernel_rfl) ?_
    rw [show ∀ W : World, {W with drawn := W.drawn + 1} = W.drew from fun _ => rfl]
    repeat ((with_reducible refine wpStill_step (fun K hK => ?_)); go_simp; (try go_bits); (with_reducible refine hK _ ?_); clear hK K)
    refine wpStill_nil ?_
    go_wp2_with fail
    refine wp_region_still_lit (by kernel_rfl) (by kernel_rfl) ?_
    rw [show ∀ W : World, {W with drawn := W.drawn + 1} = W.drew from fun _ => rfl]
    repeat ((with_reducible refine wpStill_step (fun K hK => ?_)); go_simp; (try go_bits); (with_reducible refine hK _ ?_); clear hK K)
    refine wpStill_nil ?_
    go_wp2_with fail
    go_at_call 120
    refine (CH.out _).mono ?_
    rintro e w' ⟨rfl, rfl⟩
    go_wp2_with fail
    go_at_call 122
    refine (CE.out _).mono ?_
    rintro e w5 ⟨rfl, hb5⟩
    have HB5 := Lib.hid (show Below w.heap.size w w5 from ((HAL.out.drew.drew).setCell (Nat.le_refl _) _).trans (hb5.mono (by have := HAL.out.size; simp [World.setCell]; exact this)))
    clear hb5
    obtain ⟨ew, ee, hE⟩ : ∃ x y, Is.enc ⟨op, rd, rs1, rs2, As.hi (As.s32 u)⟩ = (x, y) := ⟨_, _, rfl⟩
    have HP2 := HP.out
    have her := HER.out
    rw [hE] at HP2 her ⊢
    dsimp only at HP2 her ⊢
    by_cases h0 : ee = 0
    · subst h0
      rw [if_pos rfl] at HP2
      have CF := Lib.hid (fun W => afour_any ew.toNat W (by omega))
      rw [show ((ew.toNat : Nat) : Int) = ew by omega] at CF
      go_wp2_with fail
      go_at_call 121
      refine (CF.out _).mono ?_
      rintro e w6 ⟨rfl, rfl⟩
      go_wp2_with fail
      go_ret2
      rw [HP2]
      exact ⟨_, rfl, As.rd_four _ _, HB5.out.alloc HB5.out.size _⟩
    · have hne : (ee == (0 : Int)) = false := by simpa using h0
      have hne2 : (!ee == (0 : Int)) = true := by simpa using h0
      rw [if_neg h0] at HP2
      go_wp2_with fail
      go_ret2
      rw [HP2]
      exact ⟨_, rfl, Rd.nil _ _, HB5.out⟩
set_option maxRecDepth 100000 in
set_option maxHeartbeats 8000000 in
theorem apiece_lower {B : Nat} {w : World} {gp b : Nat} {vl vb0 vs : Value} {a : Nat} {bs : List UInt8} {sm sy : List (List UInt8 × Nat)} (op rd rs1 rs2 imm : Int) (pb pn pf : List UInt8) (vb : Value) (h : As.PIn B w gp b vl vb0 vs a bs sm sy ⟨true, ⟨op, rd, rs1, rs2, imm⟩, pb, 3, pn, pf⟩ vb) :
    Calls Tryd.prog 86 #[.pointer (some ⟨gp, 0, none⟩), .agg #[.bool true, .int .i64 op, .int .i64 rd, .int .i64 rs1, .int .i64 rs2, .int .i64 imm, vb, .int .i64 3, .string ⟨pn.toArray⟩, .string ⟨pf.toArray⟩]] w (As.PiecePost w (As.piece sm ⟨true, ⟨op, rd, rs1, rs2, imm⟩, pb, 3, pn, pf⟩ (As.at32 (a + bs.length)))) := by
  have HI := Lib.hid h
  obtain ⟨BB, cb, rfl⟩ := h.rd.form
  dsimp only
  have hal : Below w.heap.size w (w.alloc (.cells #[.bool true, .int .i64 op, .int .i64 rd, .int .i64 rs1, .int .i64 rs2, .int .i64 imm, .slice BB pb.length cb, .int .i64 3, .string ⟨pn.toArray⟩, .string ⟨pf.toArray⟩] 141)) := (Below.refl _ _).alloc (Nat.le_refl _) _
  have hbk := Bk.fresh w 141 #[.bool true, .int .i64 op, .int .i64 rd, .int .i64 rs1, .int .i64 rs2, .int .i64 imm, .slice BB pb.length cb, .int .i64 3, .string ⟨pn.toArray⟩, .string ⟨pf.toArray⟩]
  have HAT := Lib.hid (h.at_.kept hal)
  have HRD := Lib.hid (h.rd.kept hal)
  have HAL := Lib.hid hal
  have HBK := Lib.hid hbk
  clear h hal hbk
  obtain ⟨W1, hW1⟩ : ∃ W1, w.alloc (.cells #[.bool true, .int .i64 op, .int .i64 rd, .int .i64 rs1, .int .i64 rs2, .int .i64 imm, .slice BB pb.length cb, .int .i64 3, .string ⟨pn.toArray⟩, .string ⟨pf.toArray⟩] 141) = W1 := ⟨_, rfl⟩
  rw [hW1] at HAT HRD HAL HBK
  have b0 := HBK.out.cell 0
  have b1 := HBK.out.cell 1
  have b2 := HBK.out.cell 2
  have b3 := HBK.out.cell 3
  have b4 := HBK.out.cell 4
  have b5 := HBK.out.cell 5
  have b6 := HBK.out.cell 6
  have b7 := HBK.out.cell 7
  have b8 := HBK.out.cell 8
  have b9 := HBK.out.cell 9
  have fz := HBK.out.free 5
  simp only [List.getElem?_toArray, List.getElem?_cons_zero, List.getElem?_cons_succ] at b0 b1 b2 b3 b4 b5 b6 b7 b8 b9
  obtain ⟨Ab, cbs, hvb⟩ := (Rd.of_own HAT.out.by_).form
  subst hvb
  have c1 := HAT.out.seen.c1
  have c2 := HAT.out.seen.c2
  have c3 := HAT.out.seen.c3
  have hl32 : IntKind.u32.wrap (bs.length : Int) = (bs.length : Int) := by have := HI.out.bs; rw [IntKind.wrap_u32]; omega
  have hat : IntKind.u32.wrap ((a : Int) + (bs.length : Int)) = ((As.at32 (a + bs.length) : Nat) : Int) := by unfold As.at32; rw [IntKind.wrap_u32]; omega
  have HAL32 := Lib.hid (show As.at32 (a + bs.length) < 4294967296 from by unfold As.at32; omega)
  have hlk := HAT.out.map.run pn HI.out.n
  have hlk1 : (Instr.lookup 93 (.map (some b)) (.string ⟨pn.toArray⟩) true).run Tryd.prog W1.drew = .ok (.tuple #[.int .u32 (((As.look sm pn).getD 0 : Nat) : Int), .bool (As.look sm pn).isSome]) W1.drew := (show As.MapIs W1.drew b sm from HAT.out.map).run pn HI.out.n
  have hlk2 : (Instr.lookup 93 (.map (some b)) (.string ⟨pn.toArray⟩) true).run Tryd.prog W1.drew.drew = .ok (.tuple #[.int .u32 (((As.look sm pn).getD 0 : Nat) : Int), .bool (As.look sm pn).isSome]) W1.drew.drew := (show As.MapIs W1.drew.drew b sm from HAT.out.map).run pn HI.out.n
  generalize hAt : As.at32 (a + bs.length) = T at *
  cases hlook : As.look sm pn with
  | none =>
    rw [hlook] at hlk hlk1 hlk2
    simp only [Option.getD_none, Option.isSome_none] at hlk hlk1 hlk2
    have HP := Lib.hid (show As.piece sm ⟨true, ⟨op, rd, rs1, rs2, imm⟩, pb, 3, pn, pf⟩ T = ([], 41) from by unfold As.piece; rw [if_neg (fun e => by cases e.1), if_pos ⟨fun e => (by cases e), hlook⟩])
    clear hlook
    go_enter Tryd.func86, Tryd.ntmps86
    go_wp2_with fail
    clear hW1
    go_wp2_with fail
    refine wp_region_still_lit (by kernel_rfl) (by kernel_rfl) ?_
    rw [show ∀ W : World, {W with drawn := W.drawn + 1} = W.drew from fun _ => rfl]
    repeat ((with_reducible refine wpStill_step (fun K hK => ?_)); go_simp; (try go_bits); (with_reducible refine hK _ ?_); clear hK K)
    refine wpStill_nil ?_
    go_wp2_with fail
    refine wp_region_still_lit (by kernel_rfl) (by kernel_rfl) ?_
    rw [show ∀ W : World, {W with drawn := W.drawn + 1} = W.drew from fun _ => rfl]
    repeat ((with_reducible refine wpStill_step (fun K hK => ?_)); go_simp; (try go_bits); (with_reducible refine hK _ ?_); clear hK K)
    refine wpStill_nil ?_
    go_wp2_with fail
    go_ret2
    rw [HP.out]
    exact ⟨_, rfl, Rd.nil _ _, HAL.out.drew.drew⟩
  | some u =>
    have hu := HI.out.sm pn u hlook
    rw [hlook] at hlk hlk1 hlk2
    simp only [Option.getD_some, Option.isSome_some] at hlk hlk1 hlk2
    have hv32 : u < 4294967296 := hu
    have hs32 := As.s32_wrap u hv32
    have hsr := As.s32_rng u hv32
    have hs64 : IntKind.i64.wrap (As.s32 u) = As.s32 u := by rw [IntKind.wrap_i64]; omega
    have CH := Lib.hid (fun W => ahalves_any (As.s32 u) W hsr.1 hsr.2)
    have hj : As.aim ⟨true, ⟨op, rd, rs1, rs2, imm⟩, pb, 3, pn, pf⟩ u T = (⟨op, rd, rs1, rs2, As.lo (As.s32 u)⟩, 20) := rfl
    have HP := Lib.hid (show As.piece sm ⟨true, ⟨op, rd, rs1, rs2, imm⟩, pb, 3, pn, pf⟩ T = if (Is.enc ⟨op, rd, rs1, rs2, As.lo (As.s32 u)⟩).2 = 0 then (As.four (Is.enc ⟨op, rd, rs1, rs2, As.lo (As.s32 u)⟩).1.toNat, 0) else ([], 20) from by
      unfold As.piece
      rw [if_neg (fun e => by cases e.2), if_neg (fun e => by rw [hlook] at e; cases e.2), if_neg (fun e => by cases e), if_neg (fun e => by cases e), hlook, Option.getD_some, hj])
    have hok : Is.Inst.ok ⟨op, rd, rs1, rs2, As.lo (As.s32 u)⟩ := ⟨HI.out.ok.op, HI.out.ok.rd, HI.out.ok.rs1, HI.out.ok.rs2, by have := As.lo_rng (As.s32 u); show Is.in64 (As.lo (As.s32 u)); unfold Is.in64; omega⟩
    have CE := Lib.hid (fun W => enc_own ⟨op, rd, rs1, rs2, As.lo (As.s32 u)⟩ W hok)
    have HER := Lib.hid (As.enc_rng ⟨op, rd, rs1, rs2, As.lo (As.s32 u)⟩)
    clear hok hlook
    go_enter Tryd.func86, Tryd.ntmps86
    go_wp2_with fail
    clear hW1
    go_wp2_with fail
    refine wp_region_still_lit (by kernel_rfl) (by kernel_rfl) ?_
    rw [show ∀ W : World, {W with drawn := W.drawn + 1} = W.drew from fun _ => rfl]
    repeat ((with_reducible refine wpStill_step (fun K hK => ?_)); go_simp; (try go_bits); (with_reducible refine hK _ ?_); clear hK K)
    refine wpStill_nil ?_
    go_wp2_with fail
    refine wp_region_still_lit (by kernel_rfl) (by kernel_rfl) ?_
    rw [show ∀ W : World, {W with drawn := W.drawn + 1} = W.drew from fun _ => rfl]
    repeat ((with_reducible refine wpStill_step (fun K hK => ?_)); go_simp; (try go_bits); (with_reducible refine hK _ ?_); clear hK K)
    refine wpStill_nil ?_
    go_wp2_with fail
    go_at_call 120
    refine (CH.out _).mono ?_
    rintro e w' ⟨rfl, rfl⟩
    go_wp2_with fail
    go_at_call 122
    refine (CE.out _).mono ?_
    rintro e w5 ⟨rfl, hb5⟩
    have HB5 := Lib.hid (show Below w.heap.size w w5 from ((HAL.out.drew.drew).setCell (Nat.le_refl _) _).trans (hb5.mono (by have := HAL.out.size; simp [World.setCell]; exact this)))
    clear hb5
    obtain ⟨ew, ee, hE⟩ : ∃ x y, Is.enc ⟨op, rd, rs1, rs2, As.lo (As.s32 u)⟩ = (x, y) := ⟨_, _, rfl⟩
    have HP2 := HP.out
    have her := HER.out
    rw [hE] at HP2 her ⊢
    dsimp only at HP2 her ⊢
    by_cases h0 : ee = 0
    · subst h0
      rw [if_pos rfl] at HP2
      have CF := Lib.hid (fun W => afour_any ew.toNat W (by omega))
      rw [show ((ew.toNat : Nat) : Int) = ew by omega] at CF
      go_wp2_with fail
      go_at_call 121
      refine (CF.out _).mono ?_
      rintro e w6 ⟨rfl, rfl⟩
      go_wp2_with fail
      go_ret2
      rw [HP2]
      exact ⟨_, rfl, As.rd_four _ _, HB5.out.alloc HB5.out.size _⟩
    · have hne : (ee == (0 : Int)) = false := by simpa using h0
      have hne2 : (!ee == (0 : Int)) = true := by simpa using h0
      rw [if_neg h0] at HP2
      go_wp2_with fail
      go_ret2
      rw [HP2]
      exact ⟨_, rfl, Rd.nil _ _, HB5.out⟩
set_option maxRecDepth 100000 in
set_option maxHeartbeats 8000000 in
theorem apiece_place {B : Nat} {w : World} {gp b : Nat} {vl vb0 vs : Value} {a : Nat} {bs : List UInt8} {sm sy : List (List UInt8 × Nat)} (op rd rs1 rs2 imm : Int) (pb pn pf : List UInt8) (vb : Value) (h : As.PIn B w gp b vl vb0 vs a bs sm sy ⟨false, ⟨op, rd, rs1, rs2, imm⟩, pb, 4, pn, pf⟩ vb) :
    Calls Tryd.prog 86 #[.pointer (some ⟨gp, 0, none⟩), .agg #[.bool false, .int .i64 op, .int .i64 rd, .int .i64 rs1, .int .i64 rs2, .int .i64 imm, vb, .int .i64 4, .string ⟨pn.toArray⟩, .string ⟨pf.toArray⟩]] w (As.PiecePost w (As.piece sm ⟨false, ⟨op, rd, rs1, rs2, imm⟩, pb, 4, pn, pf⟩ (As.at32 (a + bs.length)))) := by
  have HI := Lib.hid h
  obtain ⟨BB, cb, rfl⟩ := h.rd.form
  dsimp only
  have hal : Below w.heap.size w (w.alloc (.cells #[.bool false, .int .i64 op, .int .i64 rd, .int .i64 rs1, .int .i64 rs2, .int .i64 imm, .slice BB pb.length cb, .int .i64 4, .string ⟨pn.toArray⟩, .string ⟨pf.toArray⟩] 141)) := (Below.refl _ _).alloc (Nat.le_refl _) _
  have hbk := Bk.fresh w 141 #[.bool false, .int .i64 op, .int .i64 rd, .int .i64 rs1, .int .i64 rs2, .int .i64 imm, .slice BB pb.length cb, .int .i64 4, .string ⟨pn.toArray⟩, .string ⟨pf.toArray⟩]
  have HAT := Lib.hid (h.at_.kept hal)
  have HRD := Lib.hid (h.rd.kept hal)
  have HAL := Lib.hid hal
  have HBK := Lib.hid hbk
  clear h hal hbk
  obtain ⟨W1, hW1⟩ : ∃ W1, w.alloc (.cells #[.bool false, .int .i64 op, .int .i64 rd, .int .i64 rs1, .int .i64 rs2, .int .i64 imm, .slice BB pb.length cb, .int .i64 4, .string ⟨pn.toArray⟩, .string ⟨pf.toArray⟩] 141) = W1 := ⟨_, rfl⟩
  rw [hW1] at HAT HRD HAL HBK
  have b0 := HBK.out.cell 0
  have b1 := HBK.out.cell 1
  have b2 := HBK.out.cell 2
  have b3 := HBK.out.cell 3
  have b4 := HBK.out.cell 4
  have b5 := HBK.out.cell 5
  have b6 := HBK.out.cell 6
  have b7 := HBK.out.cell 7
  have b8 := HBK.out.cell 8
  have b9 := HBK.out.cell 9
  have fz := HBK.out.free 5
  simp only [List.getElem?_toArray, List.getElem?_cons_zero, List.getElem?_cons_succ] at b0 b1 b2 b3 b4 b5 b6 b7 b8 b9
  obtain ⟨Ab, cbs, hvb⟩ := (Rd.of_own HAT.out.by_).form
  subst hvb
  have c1 := HAT.out.seen.c1
  have c2 := HAT.out.seen.c2
  have c3 := HAT.out.seen.c3
  have hl32 : IntKind.u32.wrap (bs.length : Int) = (bs.length : Int) := by have := HI.out.bs; rw [IntKind.wrap_u32]; omega
  have hat : IntKind.u32.wrap ((a : Int) + (bs.length : Int)) = ((As.at32 (a + bs.length) : Nat) : Int) := by unfold As.at32; rw [IntKind.wrap_u32]; omega
  have HAL32 := Lib.hid (show As.at32 (a + bs.length) < 4294967296 from by unfold As.at32; omega)
  have hlk := HAT.out.map.run pn HI.out.n
  have hlk1 : (Instr.lookup 93 (.map (some b)) (.string ⟨pn.toArray⟩) true).run Tryd.prog W1.drew = .ok (.tuple #[.int .u32 (((As.look sm pn).getD 0 : Nat) : Int), .bool (As.look sm pn).isSome]) W1.drew := (show As.MapIs W1.drew b sm from HAT.out.map).run pn HI.out.n
  have hlk2 : (Instr.lookup 93 (.map (some b)) (.string ⟨pn.toArray⟩) true).run Tryd.prog W1.drew.drew = .ok (.tuple #[.int .u32 (((As.look sm pn).getD 0 : Nat) : Int), .bool (As.look sm pn).isSome]) W1.drew.drew := (show As.MapIs W1.drew.drew b sm from HAT.out.map).run pn HI.out.n
  generalize hAt : As.at32 (a + bs.length) = T at *
  cases hlook : As.look sm pn with
  | none =>
    rw [hlook] at hlk hlk1 hlk2
    simp only [Option.getD_none, Option.isSome_none] at hlk hlk1 hlk2
    have HP := Lib.hid (show As.piece sm ⟨false, ⟨op, rd, rs1, rs2, imm⟩, pb, 4, pn, pf⟩ T = ([], 41) from by unfold As.piece; rw [if_neg (fun e => by cases e.1), if_pos ⟨fun e => (by cases e), hlook⟩])
    clear hlook
    go_enter Tryd.func86, Tryd.ntmps86
    go_wp2_with fail
    clear hW1
    go_wp2_with fail
    refine wp_region_still_lit (by kernel_rfl) (by kernel_rfl) ?_
    rw [show ∀ W : World, {W with drawn := W.drawn + 1} = W.drew from fun _ => rfl]
    repeat ((with_reducible refine wpStill_step (fun K hK => ?_)); go_simp; (try go_bits); (with_reducible refine hK _ ?_); clear hK K)
    refine wpStill_nil ?_
    go_wp2_with fail
    refine wp_region_still_lit (by kernel_rfl) (by kernel_rfl) ?_
    rw [show ∀ W : World, {W with drawn := W.drawn + 1} = W.drew from fun _ => rfl]
    repeat ((with_reducible refine wpStill_step (fun K hK => ?_)); go_simp; (try go_bits); (with_reducible refine hK _ ?_); clear hK K)
    refine wpStill_nil ?_
    go_wp2_with fail
    go_ret2
    rw [HP.out]
    exact ⟨_, rfl, Rd.nil _ _, HAL.out.drew.drew⟩
  | some u =>
    have hu := HI.out.sm pn u hlook
    rw [hlook] at hlk hlk1 hlk2
    simp only [Option.getD_some, Option.isSome_some] at hlk hlk1 hlk2
    have hv32 : u < 4294967296 := hu
    have hs32 := As.s32_wrap u hv32
    have hsr := As.s32_rng u hv32
    have hs64 : IntKind.i64.wrap (As.s32 u) = As.s32 u := by rw [IntKind.wrap_i64]; omega
    have CH := Lib.hid (fun W => ahalves_any (As.s32 u) W hsr.1 hsr.2)
    have HP := Lib.hid (show As.piece sm ⟨false, ⟨op, rd, rs1, rs2, imm⟩, pb, 4, pn, pf⟩ T = (As.four u, 0) from by
      unfold As.piece
      rw [if_neg (fun e => by cases e.1), if_neg (fun e => by rw [hlook] at e; cases e.2), if_neg (fun e => by cases e), if_pos rfl, hlook]
      rfl)
    have CF := Lib.hid (fun W => afour_any u W hv32)
    clear hlook
    go_enter Tryd.func86, Tryd.ntmps86
    go_wp2_with fail
    clear hW1
    go_wp2_with fail
    refine wp_region_still_lit (by kernel_rfl) (by kernel_rfl) ?_
    rw [show ∀ W : World, {W with drawn := W.drawn + 1} = W.drew from fun _ => rfl]
    repeat ((with_reducible refine wpStill_step (fun K hK => ?_)); go_simp; (try go_bits); (with_reducible refine hK _ ?_); clear hK K)
    refine wpStill_nil ?_
    go_wp2_with fail
    refine wp_region_still_lit (by kernel_rfl) (by kernel_rfl) ?_
    rw [show ∀ W : World, {W with drawn := W.drawn + 1} = W.drew from fun _ => rfl]
    repeat ((with_reducible refine wpStill_step (fun K hK => ?_)); go_simp; (try go_bits); (with_reducible refine hK _ ?_); clear hK K)
    refine wpStill_nil ?_
    go_wp2_with fail
    go_at_call 120
    refine (CH.out _).mono ?_
    rintro e w' ⟨rfl, rfl⟩
    go_wp2_with fail
    go_at_call 121
    refine (CF.out _).mono ?_
    rintro e w6 ⟨rfl, rfl⟩
    go_wp2_with fail
    go_ret2
    rw [HP.out]
    exact ⟨_, rfl, As.rd_four _ _, (HAL.out.drew.drew).alloc (by have := HAL.out.size; simpa using this) _⟩
set_option maxRecDepth 100000 in
set_option maxHeartbeats 8000000 in
theorem apiece_behind {B : Nat} {w : World} {gp b : Nat} {vl vb0 vs : Value} {a : Nat} {bs : List UInt8} {sm sy : List (List UInt8 × Nat)} (op rd rs1 rs2 imm : Int) (pb pn pf : List UInt8) (vb : Value) (h : As.PIn B w gp b vl vb0 vs a bs sm sy ⟨false, ⟨op, rd, rs1, rs2, imm⟩, pb, 5, pn, pf⟩ vb) :
    Calls Tryd.prog 86 #[.pointer (some ⟨gp, 0, none⟩), .agg #[.bool false, .int .i64 op, .int .i64 rd, .int .i64 rs1, .int .i64 rs2, .int .i64 imm, vb, .int .i64 5, .string ⟨pn.toArray⟩, .string ⟨pf.toArray⟩]] w (As.PiecePost w (As.piece sm ⟨false, ⟨op, rd, rs1, rs2, imm⟩, pb, 5, pn, pf⟩ (As.at32 (a + bs.length)))) := by
  have HI := Lib.hid h
  obtain ⟨BB, cb, rfl⟩ := h.rd.form
  dsimp only
  have hal : Below w.heap.size w (w.alloc (.cells #[.bool false, .int .i64 op, .int .i64 rd, .int .i64 rs1, .int .i64 rs2, .int .i64 imm, .slice BB pb.length cb, .int .i64 5, .string ⟨pn.toArray⟩, .string ⟨pf.toArray⟩] 141)) := (Below.refl _ _).alloc (Nat.le_refl _) _
  have hbk := Bk.fresh w 141 #[.bool false, .int .i64 op, .int .i64 rd, .int .i64 rs1, .int .i64 rs2, .int .i64 imm, .slice BB pb.length cb, .int .i64 5, .string ⟨pn.toArray⟩, .string ⟨pf.toArray⟩]
  have HAT := Lib.hid (h.at_.kept hal)
  have HRD := Lib.hid (h.rd.kept hal)
  have HAL := Lib.hid hal
  have HBK := Lib.hid hbk
  clear h hal hbk
  obtain ⟨W1, hW1⟩ : ∃ W1, w.alloc (.cells #[.bool false, .int .i64 op, .int .i64 rd, .int .i64 rs1, .int .i64 rs2, .int .i64 imm, .slice BB pb.length cb, .int .i64 5, .string ⟨pn.toArray⟩, .string ⟨pf.toArray⟩] 141) = W1 := ⟨_, rfl⟩
  rw [hW1] at HAT HRD HAL HBK
  have b0 := HBK.out.cell 0
  have b1 := HBK.out.cell 1
  have b2 := HBK.out.cell 2
  have b3 := HBK.out.cell 3
  have b4 := HBK.out.cell 4
  have b5 := HBK.out.cell 5
  have b6 := HBK.out.cell 6
  have b7 := HBK.out.cell 7
  have b8 := HBK.out.cell 8
  have b9 := HBK.out.cell 9
  have fz := HBK.out.free 5
  simp only [List.getElem?_toArray, List.getElem?_cons_zero, List.getElem?_cons_succ] at b0 b1 b2 b3 b4 b5 b6 b7 b8 b9
  obtain ⟨Ab, cbs, hvb⟩ := (Rd.of_own HAT.out.by_).form
  subst hvb
  have c1 := HAT.out.seen.c1
  have c2 := HAT.out.seen.c2
  have c3 := HAT.out.seen.c3
  have hl32 : IntKind.u32.wrap (bs.length : Int) = (bs.length : Int) := by have := HI.out.bs; rw [IntKind.wrap_u32]; omega
  have hat : IntKind.u32.wrap ((a : Int) + (bs.length : Int)) = ((As.at32 (a + bs.length) : Nat) : Int) := by unfold As.at32; rw [IntKind.wrap_u32]; omega
  have HAL32 := Lib.hid (show As.at32 (a + bs.length) < 4294967296 from by unfold As.at32; omega)
  have hlk := HAT.out.map.run pn HI.out.n
  have hlk1 : (Instr.lookup 93 (.map (some b)) (.string ⟨pn.toArray⟩) true).run Tryd.prog W1.drew = .ok (.tuple #[.int .u32 (((As.look sm pn).getD 0 : Nat) : Int), .bool (As.look sm pn).isSome]) W1.drew := (show As.MapIs W1.drew b sm from HAT.out.map).run pn HI.out.n
  have hlk2 : (Instr.lookup 93 (.map (some b)) (.string ⟨pn.toArray⟩) true).run Tryd.prog W1.drew.drew = .ok (.tuple #[.int .u32 (((As.look sm pn).getD 0 : Nat) : Int), .bool (As.look sm pn).isSome]) W1.drew.drew := (show As.MapIs W1.drew.drew b sm from HAT.out.map).run pn HI.out.n
  generalize hAt : As.at32 (a + bs.length) = T at *
  cases hlook : As.look sm pn with
  | none =>
    rw [hlook] at hlk hlk1 hlk2
    simp only [Option.getD_none, Option.isSome_none] at hlk hlk1 hlk2
    have HP := Lib.hid (show As.piece sm ⟨false, ⟨op, rd, rs1, rs2, imm⟩, pb, 5, pn, pf⟩ T = ([], 41) from by unfold As.piece; rw [if_neg (fun e => by cases e.1), if_pos ⟨fun e => (by cases e), hlook⟩])
    clear hlook
    go_enter Tryd.func86, Tryd.ntmps86
    go_wp2_with fail
    clear hW1
    go_wp2_with fail
    refine wp_region_still_lit (by kernel_rfl) (by kernel_rfl) ?_
    rw [show ∀ W : World, {W with drawn := W.drawn + 1} = W.drew from fun _ => rfl]
    repeat ((with_reducible refine wpStill_step (fun K hK => ?_)); go_simp; (try go_bits); (with_reducible refine hK _ ?_); clear hK K)
    refine wpStill_nil ?_
    go_wp2_with fail
    refine wp_region_still_lit (by kernel_rfl) (by kernel_rfl) ?_
    rw [show ∀ W : World, {W with drawn := W.drawn + 1} = W.drew from fun _ => rfl]
    repeat ((with_reducible refine wpStill_step (fun K hK => ?_)); go_simp; (try go_bits); (with_reducible refine hK _ ?_); clear hK K)
    refine wpStill_nil ?_
    go_wp2_with fail
    go_ret2
    rw [HP.out]
    exact ⟨_, rfl, Rd.nil _ _, HAL.out.drew.drew⟩
  | some u =>
    have hu := HI.out.sm pn u hlook
    rw [hlook] at hlk hlk1 hlk2
    simp only [Option.getD_some, Option.isSome_some] at hlk hlk1 hlk2
    have hv32 : u < 4294967296 := hu
    have hs32 := As.s32_wrap u hv32
    have hsr := As.s32_rng u hv32
    have hs64 : IntKind.i64.wrap (As.s32 u) = As.s32 u := by rw [IntKind.wrap_i64]; omega
    have CH := Lib.hid (fun W => ahalves_any (As.s32 u) W hsr.1 hsr.2)
    have hlk3 : (Instr.lookup 93 (.map (some b)) (.string ⟨pf.toArray⟩) true).run Tryd.prog W1.drew.drew.drew = .ok (.tuple #[.int .u32 (((As.look sm pf).getD 0 : Nat) : Int), .bool (As.look sm pf).isSome]) W1.drew.drew.drew := (show As.MapIs W1.drew.drew.drew b sm from HAT.out.map).run pf HI.out.f
    cases hlook2 : As.look sm pf with
    | none =>
      rw [hlook2] at hlk3
      simp only [Option.getD_none, Option.isSome_none] at hlk3
      have HP := Lib.hid (show As.piece sm ⟨false, ⟨op, rd, rs1, rs2, imm⟩, pb, 5, pn, pf⟩ T = ([], 41) from by
        unfold As.piece
        rw [if_neg (fun e => by cases e.1), if_neg (fun e => by rw [hlook] at e; cases e.2), if_pos rfl, hlook2])
      clear hlook hlook2
      go_enter Tryd.func86, Tryd.ntmps86
      go_wp2_with fail
      clear hW1
      go_wp2_with fail
      refine wp_region_still_lit (by kernel_rfl) (by kernel_rfl) ?_
      rw [show ∀ W : World, {W with drawn := W.drawn + 1} = W.drew from fun _ => rfl]
      repeat ((with_reducible refine wpStill_step (fun K hK => ?_)); go_simp; (try go_bits); (with_reducible refine hK _ ?_); clear hK K)
      refine wpStill_nil ?_
      go_wp2_with fail
      refine wp_region_still_lit (by kernel_rfl) (by kernel_rfl) ?_
      rw [show ∀ W : World, {W with drawn := W.drawn + 1} = W.drew from fun _ => rfl]
      repeat ((with_reducible refine wpStill_step (fun K hK => ?_)); go_simp; (try go_bits); (with_reducible refine hK _ ?_); clear hK K)
      refine wpStill_nil ?_
      go_wp2_with fail
      go_at_call 120
      refine (CH.out _).mono ?_
      rintro e w' ⟨rfl, rfl⟩
      go_wp2_with fail
      refine wp_region_still_lit (by kernel_rfl) (by kernel_rfl) ?_
      rw [show ∀ W : World, {W with drawn := W.drawn + 1} = W.drew from fun _ => rfl]
      repeat ((with_reducible refine wpStill_step (fun K hK => ?_)); go_simp; (try go_bits); (with_reducible refine hK _ ?_); clear hK K)
      refine wpStill_nil ?_
      go_wp2_with fail
      go_ret2
      rw [HP.out]
      exact ⟨_, rfl, Rd.nil _ _, HAL.out.drew.drew.drew⟩
    | some u2 =>
      have hu2 := HI.out.sm pf u2 hlook2
      rw [hlook2] at hlk3
      simp only [Option.getD_some, Option.isSome_some] at hlk3
      have HP := Lib.hid (show As.piece sm ⟨false, ⟨op, rd, rs1, rs2, imm⟩, pb, 5, pn, pf⟩ T = (As.four (As.bits ((u : Int) - (u2 : Int))), 0) from by
        unfold As.piece
        rw [if_neg (fun e => by cases e.1), if_neg (fun e => by rw [hlook] at e; cases e.2), if_pos rfl, hlook2, hlook]
        rfl)
      have hsub : IntKind.u32.wrap ((u : Int) - (u2 : Int)) = ((As.bits ((u : Int) - (u2 : Int)) : Nat) : Int) := by rw [As.bits_int, IntKind.wrap_u32]
      have CF := Lib.hid (fun W => afour_any (As.bits ((u : Int) - (u2 : Int))) W (As.bits_lt _))
      clear hlook hlook2
      go_enter Tryd.func86, Tryd.ntmps86
      go_wp2_with fail
      clear hW1
      go_wp2_with fail
      refine wp_region_still_lit (by kernel_rfl) (by kernel_rfl) ?_
      rw [show ∀ W : World, {W with drawn := W.drawn + 1} = W.drew from fun _ => rfl]
      repeat ((with_reducible refine wpStill_step (fun K hK => ?_)); go_simp; (try go_bits); (with_reducible refine hK _ ?_); clear hK K)
      refine wpStill_nil ?_
      go_wp2_with fail
      refine wp_region_still_lit (by kernel_rfl) (by kernel_rfl) ?_
      rw [show ∀ W : World, {W with drawn := W.drawn + 1} = W.drew from fun _ => rfl]
      repeat ((with_reducible refine wpStill_step (fun K hK => ?_)); go_simp; (try go_bits); (with_reducible refine hK _ ?_); clear hK K)
      refine wpStill_nil ?_
      go_wp2_with fail
      go_at_call 120
      refine (CH.out _).mono ?_
      rintro e w' ⟨rfl, rfl⟩
      go_wp2_with fail
      refine wp_region_still_lit (by kernel_rfl) (by kernel_rfl) ?_
      rw [show ∀ W : World, {W with drawn := W.drawn + 1} = W.drew from fun _ => rfl]
      repeat ((with_reducible refine wpStill_step (fun K hK => ?_)); go_simp; (try go_bits); (with_reducible refine hK _ ?_); clear hK K)
      refine wpStill_nil ?_
      go_wp2_with fail
      go_at_call 121
      refine (CF.out _).mono ?_
      rintro e w6 ⟨rfl, rfl⟩
      go_wp2_with fail
      go_ret2
      rw [HP.out]
      exact ⟨_, rfl, As.rd_four _ _, (HAL.out.drew.drew.drew).alloc (by have := HAL.out.size; simpa using this) _⟩
theorem apiece_any {B : Nat} {w : World} {gp b : Nat} {vl vb0 vs : Value} {a : Nat} {bs : List UInt8} {sm sy : List (List UInt8 × Nat)} (p : As.P) (vb : Value) (h : As.PIn B w gp b vl vb0 vs a bs sm sy p vb) (hw : As.Wf p) :
    Calls Tryd.prog 86 #[.pointer (some ⟨gp, 0, none⟩), .agg #[.bool p.code, .int .i64 p.inst.op, .int .i64 p.inst.rd, .int .i64 p.inst.rs1, .int .i64 p.inst.rs2, .int .i64 p.inst.imm, vb, .int .i64 (p.kind : Int), .string ⟨p.name.toArray⟩, .string ⟨p.src.toArray⟩]] w (As.PiecePost w (As.piece sm p (As.at32 (a + bs.length)))) := by
  obtain ⟨pc, ⟨op, rd, rs1, rs2, imm⟩, pb, pk, pn, pf⟩ := p
  cases pc
  · rcases hw.data rfl with hk | ⟨hk | hk, _⟩
    · have hk : pk = 0 := hk
      subst hk; exact apiece_raw op rd rs1 rs2 imm pb pn pf vb h
    · have hk : pk = 4 := hk
      subst hk; exact apiece_place op rd rs1 rs2 imm pb pn pf vb h
    · have hk : pk = 5 := hk
      subst hk; exact apiece_behind op rd rs1 rs2 imm pb pn pf vb h
  · have hk : pk ≤ 3 := (hw.code rfl).2
    have hk : pk = 0 ∨ pk = 1 ∨ pk = 2 ∨ pk = 3 := by omega
    rcases hk with hk | hk | hk | hk <;> subst hk
    · exact apiece_code op rd rs1 rs2 imm pb pn pf vb h
    · exact apiece_goal op rd rs1 rs2 imm pb pn pf vb h
    · exact apiece_upper op rd rs1 rs2 imm pb pn pf vb h
    · exact apiece_lower op rd rs1 rs2 imm pb pn pf vb h
end Go.Proofs.YtfafdkbnmfpbmaaDoor

/- Layer 7: the first pass. -/
namespace Go.Proofs.YtfafdkbnmfpbmaaDoor
open Go.RowKit Kit
set_option linter.unusedVariables false
set_option linter.unusedSimpArgs false

/-- What a line may hold here. -/
structure As.LOk (x : L6.Line) : Prop where
  ll : x.labels.length ≤ 100000
  al : x.args.length ≤ 1000000
  ls : As.Lo x.labels
  sa : As.Lo x.args
/-- What first hands back. -/
def As.FirstPost (w0 : World) (gp : Nat) (vl : Value) (a : Nat) (r : As.R (List (List UInt8 × Nat))) (e : Ending) (w' : World) : Prop :=
  match r with
  | .bad n er => e = .returned (.tuple #[.int .i64 (n : Int), .int .i64 (er : Int)]) ∧ Below w0.heap.size w0 w'
  | .ok sy => e = .returned (.tuple #[.int .i64 0, .int .i64 0]) ∧ As.Ms w0.heap.size w' gp vl a [] sy sy ∧ Below w0.heap.size w0 w'
theorem As.FirstPost.bad {w0 w' : World} {gp : Nat} {vl : Value} {a : Nat} {r : As.R (List (List UInt8 × Nat))} {n er : Nat} {i j : Int} (h : r = .bad n er) (hi : i = n) (hj : j = er) (hb : Below w0.heap.size w0 w') : As.FirstPost w0 gp vl a r (.returned (.tuple #[.int .i64 i, .int .i64 j])) w' := by
  subst h hi hj
  exact ⟨rfl, hb⟩
theorem As.labels_len {a : Nat} : ∀ {t : List (List UInt8)} {sy sy1 : List (List UInt8 × Nat)}, As.labels a t sy = some sy1 → sy1.length = sy.length + t.length
  | [], sy, sy1, h => by injection h with h; subst h; rfl
  | s :: t, sy, sy1, h => by
    unfold As.labels at h
    split at h
    · cases h
    · rw [As.labels_len h]; simp; omega
theorem As.drop_cons {α : Type} {l : List α} {k : Nat} (h : k < l.length) : l.drop k = l[k] :: l.drop (k + 1) := (List.drop_eq_getElem_cons h)
set_option maxRecDepth 100000 in
set_option maxHeartbeats 16000000 in
theorem afirst_any {w0 w : World} {gp : Nat} {vl : Value} {ls : List L6.Line} {a : Nat} (hL : RdL w0 vl ls) (hT : L6.Tab w0) (hm : As.Ms w0.heap.size w gp vl a [] [] []) (hb : Below w0.heap.size w0 w) (hls : ls.length ≤ 40000) (hx : ∀ x ∈ ls, As.LOk x) (ha : a < 4294967296) :
    Calls Tryd.prog 47 #[.pointer (some ⟨gp, 0, none⟩)] w (As.FirstPost w0 gp vl a (As.first a 0 0 [] ls)) := by
  have HL := Lib.hid hL
  have HT := Lib.hid hT
  have HM := Lib.hid hm
  have HB := Lib.hid hb
  have HLL := Lib.hid hls
  have HX := Lib.hid hx
  obtain ⟨b, vb, vs, hat⟩ := hm.at
  have c0 := hat.seen.c0
  obtain ⟨A, c, rfl⟩ := hL.form
  clear hL hT hm hb hls hx hat
  go_enter Tryd.func47, Tryd.ntmps47
  go_wp2_with fail
  go_loopw [4, 19] (fun acc i wr => ∃ (k here : Nat) (sy : List (List UInt8 × Nat)), acc = .int .i64 (here : Int) ∧ i = .int .i64 (k : Int) ∧ k ≤ ls.length ∧ here ≤ 131072 ∧ sy.length ≤ k * 100000 ∧ As.first a 0 0 [] ls = As.first a k here sy (ls.drop k) ∧ As.Ms w0.heap.size wr gp (.slice A ls.length c) a [] sy sy ∧ Below w0.heap.size w0 wr) (fun _ i _ => ls.length - (intOf i).toNat)
  case atStart => exact ⟨0, 0, [], rfl, rfl, Nat.zero_le _, Nat.zero_le _, Nat.zero_le _, rfl, HM.out, HB.out⟩
  case round =>
    obtain ⟨k, here, sy, rfl, rfl, hk, hh, hsl, hfi, hm, hb⟩ := hrel
    have HF := Lib.hid hfi
    have HM := Lib.hid hm
    have HB := Lib.hid hb
    have HSL := Lib.hid hsl
    clear hfi hm hb hsl
    by_cases hlt : k < ls.length
    · have hlt' : (k : Int) < (ls.length : Int) := by omega
      have hw1 : IntKind.i64.wrap ((k : Int) + 1) = (k : Int) + 1 := by have := HLL.out; rw [IntKind.wrap_i64]; omega
      have HDR := Lib.hid (show As.first a 0 0 [] ls = As.first a k here sy (ls[k] :: ls.drop (k + 1)) from by rw [HF.out, As.drop_cons hlt])
      have HK := Lib.hid (show k + 1 ≤ 40000 from by have := HLL.out; omega)
      obtain ⟨g, off, c', va1, va2, e, hg, d0, d1, d2, r1, r2⟩ := HL.out.at hlt
      injection e with e1 e2 e3
      subst e1 e3
      have HLT := Lib.hid (show k + 1 ≤ ls.length from hlt)
      have HXK := Lib.hid (HX.out _ (List.getElem_mem hlt))
      generalize ls[k] = X at *
      obtain ⟨xl, xw, xa⟩ := X
      obtain ⟨B1, cc1, rfl⟩ := r1.form
      obtain ⟨B2, cc2, rfl⟩ := r2.form
      dsimp only at d0 d1 d2 r1 r2
      have q0 : wr.cell? ⟨g, off + k * 3, none⟩ = some (.slice B1 xl.length cc1) := (HB.out.cell (p := ⟨g, _, none⟩) hg).trans d0
      have q1 : wr.cell? ⟨g, off + k * 3 + 1, none⟩ = some (.string ⟨xw.toArray⟩) := (HB.out.cell (p := ⟨g, _, none⟩) hg).trans d1
      have q2 : wr.cell? ⟨g, off + k * 3 + 2, none⟩ = some (.slice B2 xa.length cc2) := (HB.out.cell (p := ⟨g, _, none⟩) hg).trans d2
      have HR1 := Lib.hid r1
      have HR2 := Lib.hid r2
      have hbk := Bk.fresh wr 42 #[.slice B1 xl.length cc1, .string ⟨xw.toArray⟩, .slice B2 xa.length cc2]
      have hal : Below wr.heap.size wr (wr.alloc (.cells #[.slice B1 xl.length cc1, .string ⟨xw.toArray⟩, .slice B2 xa.length cc2] 42)) := (Below.refl _ _).alloc (Nat.le_refl _) _
      have HBK := Lib.hid hbk
      have HM1 := Lib.hid (HM.out.kept hal)
      have HB1 := Lib.hid (show Below w0.heap.size w0 (wr.alloc (.cells #[.slice B1 xl.length cc1, .string ⟨xw.toArray⟩, .slice B2 xa.length cc2] 42)) from HB.out.alloc HB.out.size _)
      have b0 := hbk.cell 0
      have h32 : IntKind.u32.wrap (here : Int) = (here : Int) := by rw [IntKind.wrap_u32]; omega
      have hat32 : IntKind.u32.wrap ((a : Int) + (here : Int)) = ((As.at32 (a + here) : Nat) : Int) := by unfold As.at32; rw [IntKind.wrap_u32]; omega
      have HT32 := Lib.hid (show As.at32 (a + here) < 4294967296 from by unfold As.at32; omega)
      have HFU := Lib.hid (show As.first a k here sy (⟨xl, xw, xa⟩ :: ls.drop (k + 1)) = (match As.labels (As.at32 (a + here)) xl sy with
        | none => .bad (k + 1) 42
        | some sy1 => match As.pieces ⟨xl, xw, xa⟩ (As.at32 (a + here)) with
          | none => .bad (k + 1) 40
          | some p => if As.lead p = true ∧ As.at32 (a + here) % 4 ≠ 0 then .bad (k + 1) 30 else if 131072 < here + As.size p then .bad (k + 1) 6 else As.first a (k + 1) (here + As.size p) sy1 (ls.drop (k + 1))) from rfl)
      clear d0 d1 d2 r1 r2 hbk hal
      generalize As.at32 (a + here) = T at *
      obtain ⟨b, vb, vs, hat⟩ := HM1.out.at
      have c1 := hat.seen.c1
      clear hat
      go_wp2_with fail
      obtain ⟨W1, hW1⟩ : ∃ W1, wr.alloc (.cells #[.slice B1 xl.length cc1, .string ⟨xw.toArray⟩, .slice B2 xa.length cc2] 42) = W1 := ⟨_, rfl⟩
      rw [hW1] at HBK HM1 HB1 b0 c1 ⊢
      have HW1S := Lib.hid (show wr.heap.size < W1.heap.size from by rw [← hW1]; simp)
      clear hW1 q0 q1 q2 c1
      generalize wr.heap.size = NB at *
      go_loopw [34] (fun j wr => ∃ (m : Nat) (sy1 : List (List UInt8 × Nat)), j = .int .i64 (m : Int) ∧ m ≤ xl.length ∧ sy1.length ≤ sy.length + m ∧ As.labels T xl sy = As.labels T (xl.drop m) sy1 ∧ As.Ms w0.heap.size wr gp (.slice (some ⟨g, off, none⟩) ls.length c) a [] sy1 sy1 ∧ Below w0.heap.size w0 wr ∧ Bk wr NB 42 #[.slice B1 xl.length cc1, .string ⟨xw.toArray⟩, .slice B2 xa.length cc2]) (fun j _ => xl.length - (intOf j).toNat)
      case atStart => exact ⟨0, sy, rfl, Nat.zero_le _, Nat.le_refl _, rfl, HM1.out, HB1.out, HBK.out⟩
      case round =>
        obtain ⟨m, sy1, rfl, hm, hsl1, hla, hms, hb, hbk⟩ := hrel
        have HSL1 := Lib.hid hsl1
        have HLA := Lib.hid hla
        have HMS := Lib.hid hms
        have HBY := Lib.hid hb
        have HKY := Lib.hid hbk
        clear hsl1 hla hms hb hbk
        by_cases hlm : m < xl.length
        · have hlm' : (m : Int) < (xl.length : Int) := by omega
          have hw2 : IntKind.i64.wrap ((m : Int) + 1) = (m : Int) + 1 := by have := HXK.out.ll; dsimp only at this; rw [IntKind.wrap_i64]; omega
          have HLM := Lib.hid (show m + 1 ≤ xl.length from hlm)
          obtain ⟨gl, ol, cl, el, hgl, hcl⟩ := HR1.out.at hlm
          injection el with el1 el2 el3
          subst el1 el3
          have p0 : wr.cell? ⟨gl, ol + m, none⟩ = some (.string ⟨(xl.getD m []).toArray⟩) := (HBY.out.cell (p := ⟨gl, _, none⟩) hgl).trans hcl
          have HSS := Lib.hid (show (xl.getD m []).length ≤ maxLen from by
            have := HXK.out.ls (xl.getD m []) (by rw [List.getD_eq_getElem?_getD, List.getElem?_eq_getElem hlm]; exact List.getElem_mem hlm)
            unfold maxLen; omega)
          have HDM := Lib.hid (show As.labels T xl sy = As.labels T (xl.getD m [] :: xl.drop (m + 1)) sy1 from by
            rw [HLA.out, As.drop_cons hlm]
            congr 1
            rw [List.getD_eq_getElem?_getD, List.getElem?_eq_getElem hlm]; rfl)
          clear hcl
          generalize xl.getD m [] = s at *
          obtain ⟨b, vb, vs, hat⟩ := HMS.out.at
          have HAT := Lib.hid hat
          have c2 := hat.seen.c2
          have hlk := hat.map.run s HSS.out
          clear hat
          cases hlook : As.look sy1 s with
          | some u =>
            rw [hlook] at hlk
            simp only [Option.getD_some, Option.isSome_some] at hlk
            have HBAD := Lib.hid (show As.first a 0 0 [] ls = .bad (k + 1) 42 from by
              rw [HDR.out, HFU.out, HDM.out]
              unfold As.labels
              rw [if_pos (by rw [As.look_any, hlook]; rfl)])
            clear hlook
            go_wp2_with fail
            go_ret2
            exact As.FirstPost.bad HBAD.out (by simp) rfl HBY.out
          | none =>
            rw [hlook] at hlk
            simp only [Option.getD_none, Option.isSome_none] at hlk
            have HNX := Lib.hid (show As.labels T xl sy = As.labels T (xl.drop (m + 1)) (sy1 ++ [(s, T)]) from by
              rw [HDM.out]
              conv => lhs; unfold As.labels
              rw [if_neg (by rw [As.look_any, hlook]; decide)])
            have HLK := Lib.hid hlook
            have HSN := Lib.hid (show sy1.length ≤ 4100000000 from by have h1 := HSL1.out; have h2 := HSL.out; have h3 := HK.out; have h4 := HXK.out.ll; dsimp only at h4; omega)
            clear hlook
            have HSA := Lib.hid (show (sy1.length + 1) * 24 ≤ 140737488355328 ∧ sy1.length + 1 ≤ maxLen from by have := HSN.out; unfold maxLen; omega)
            go_wp2_with (first
              | (at_mapUpdate; refine wpList_store_as rfl _ _ _ rfl b sy1 rfl HAT.out.map (by have := HSN.out; unfold maxLen; omega) s HSS.out HLK.out rfl T HT32.out rfl ?_; intro w2 hm2 hg2; obtain ⟨hat2, hfr2⟩ := HAT.out.mapped hm2 hg2; have HBW := Lib.hid (show Below w0.heap.size w0 w2 from HBY.out.trans (hfr2.below (fun k hk => by rw [hk]; exact HAT.out.b) HAT.out.size)); have HK2 := Lib.hid (show Bk w2 NB 42 _ from hfr2.bk HKY.out (fun e => HAT.out.map.bk_ne HKY.out e.symm)); obtain ⟨A4, c4', hvs, hkk, ho1, hs1, hz1, hput⟩ := hat2.symroom (s, T); have e4 := hat2.seen.c4; rw [hvs] at e4; dsimp only at ho1 hs1 hput hz1; have HO1 := Lib.hid ho1; have HS1 := Lib.hid hs1; have HZ1 := Lib.hid hz1; have HPUT := Lib.hid hput; clear hat2 hfr2 ho1 hs1 hz1 hput hkk c2 hlk p0 hm2 hg2)
              | (at_builtin; refine wpList_appendRB rfl _ _ _ _ rfl asyt (by decide) w0.heap.size (.slice A4 sy1.length c4') rfl sy1.length (As.symC sy1) HO1.out _ rfl 1 [.string ⟨s.toArray⟩, .int .u32 (T : Int)] HS1.out HSA.out.1 HSA.out.2 HZ1.out ?_; intro v3 w3 ho3 hb3 hg3 hv3; obtain ⟨⟨A3, c3, rfl⟩, k3, f3, HQ⟩ := HPUT.out v3 w3 ho3 hg3))
            go_roundw
            case rel => exact ⟨m + 1, sy1 ++ [(s, T)], by simp, HLM.out, by have := HSL1.out; rw [List.length_append]; simp; omega, HNX.out, HQ.out.1.ms, HBW.out.trans HQ.out.2.1, HQ.out.2.2 _ _ _ HK2.out (by decide) (by decide)⟩
            case measure => have := HLM.out; simp [intOf]; omega
        · obtain rfl : m = xl.length := by omega
          have HLS := Lib.hid (show As.labels T xl sy = some sy1 from by rw [HLA.out, List.drop_length]; rfl)
          have HFV := Lib.hid (show As.first a 0 0 [] ls = (match As.pieces ⟨xl, xw, xa⟩ T with
            | none => .bad (k + 1) 40
            | some p => if As.lead p = true ∧ T % 4 ≠ 0 then .bad (k + 1) 30 else if 131072 < here + As.size p then .bad (k + 1) 6 else As.first a (k + 1) (here + As.size p) sy1 (ls.drop (k + 1))) from by rw [HDR.out, HFU.out, HLS.out])
          have CP := Lib.hid (apieces_any (.slice B1 xl.length cc1) (.slice B2 xa.length cc2) ⟨xl, xw, xa⟩ T wr (HR2.out.kept HBY.out) (HT.out.kept HBY.out) ⟨_, _, _, rfl⟩ (by have := HXK.out.al; dsimp only at this ⊢; omega) HXK.out.sa HT32.out)
          have y0 := HKY.out.cell 0
          have y1 := HKY.out.cell 1
          have y2 := HKY.out.cell 2
          clear b0
          cases hp : As.pieces ⟨xl, xw, xa⟩ T with
          | none =>
            rw [hp] at CP
            have HBAD := Lib.hid (show As.first a 0 0 [] ls = .bad (k + 1) 40 from by rw [HFV.out, hp])
            clear hp
            go_wp2_with fail
            go_at_call 84
            refine CP.out.mono ?_
            rintro e w5 ⟨rfl, hb5⟩
            have HB5 := Lib.hid (show Below w0.heap.size w0 w5 from HBY.out.trans (hb5.mono HBY.out.size))
            clear hb5
            go_wp2_with fail
            go_ret2
            exact As.FirstPost.bad HBAD.out (by simp) rfl HB5.out
          | some ps =>
            rw [hp] at CP
            have HFW := Lib.hid (show As.first a 0 0 [] ls = (if As.lead ps = true ∧ T % 4 ≠ 0 then .bad (k + 1) 30 else if 131072 < here + As.size ps then .bad (k + 1) 6 else As.first a (k + 1) (here + As.size ps) sy1 (ls.drop (k + 1))) from by rw [HFV.out, hp])
            have HOK := Lib.hid (As.pieces_ok HXK.out.sa hp)
            have HCN := Lib.hid (show ps.length ≤ 1000002 from by have := As.pieces_cnt hp; have h2 := HXK.out.al; dsimp only at this h2; omega)
            have HSZ := Lib.hid (show As.size ps ≤ 3000000000000000 from by have h1 := As.size_le HOK.out; have h2 := HCN.out; omega)
            clear hp
            go_wp2_with fail
            go_at_call 84
            refine CP.out.mono ?_
            rintro e w5 ⟨v5, rfl, hr5, hb5⟩
            have HB5 := Lib.hid (show Below w0.heap.size w0 w5 from HBY.out.trans (hb5.mono HBY.out.size))
            have HM5 := Lib.hid (HMS.out.kept hb5)
            have CS := Lib.hid (asize_any v5 ps w5 hr5 HOK.out (by have := HCN.out; omega))
            have HSY := Lib.hid (show sy1.length ≤ (k + 1) * 100000 from by have h1 := HSL1.out; have h2 := HSL.out; have h4 := HXK.out.ll; dsimp only at h4; omega)
            have hadd : IntKind.i64.wrap ((here : Int) + ((As.size ps : Nat) : Int)) = ((here + As.size ps : Nat) : Int) := by have := HSZ.out; rw [IntKind.wrap_i64]; omega
            clear hb5 y0 y1 y2
            cases hps : ps with
            | nil =>
              have HLD := Lib.hid (show ¬ (As.lead ps = true ∧ T % 4 ≠ 0) from fun e => by rw [hps] at e; exact absurd e.1 (by decide))
              obtain ⟨A5, c5, h5⟩ := hr5.form
              have hn0 : (ps.length : Int) = 0 := by rw [hps]; rfl
              clear hr5 hps
              subst h5
              generalize ps.length = np at *
              obtain rfl : np = 0 := by omega
              go_wp2_with fail
              go_at_call 85
              refine CS.out.mono ?_
              rintro e w6 ⟨rfl, hb6⟩
              have HB6 := Lib.hid (show Below w0.heap.size w0 w6 from HB5.out.trans (hb6.mono HB5.out.size))
              have HM6 := Lib.hid (HM5.out.kept hb6)
              clear hb6
              by_cases hbig : 131072 < here + As.size ps
              · have HBAD := Lib.hid (show As.first a 0 0 [] ls = .bad (k + 1) 6 from by rw [HFW.out, if_neg HLD.out, if_pos hbig])
                have hbig' : (131072 : Int) < ((here + As.size ps : Nat) : Int) := by omega
                go_wp2_with fail
                go_ret2
                exact As.FirstPost.bad HBAD.out (by simp) rfl HB6.out
              · have HGO := Lib.hid (show As.first a 0 0 [] ls = As.first a (k + 1) (here + As.size ps) sy1 (ls.drop (k + 1)) from by rw [HFW.out, if_neg HLD.out, if_neg hbig])
                have hbig' : ¬ (131072 : Int) < ((here + As.size ps : Nat) : Int) := by omega
                have HNB := Lib.hid hbig
                go_wp2_with fail
                go_roundw
                case rel => exact ⟨k + 1, here + As.size ps, sy1, rfl, by simp, HLT.out, by have := HNB.out; omega, HSY.out, HGO.out, HM6.out, HB6.out⟩
                case measure => have := HLT.out; simp [intOf]; omega
            | cons p0 pr =>
              obtain ⟨g5, o5, c5, vb5, h5, hx1, hx2, hcs, hx3, hx4⟩ := hr5.at (k := 0) (by rw [hps]; simp)
              have z0 := hcs 0 (by decide)
              have hnp : (0 : Int) < (ps.length : Int) := by rw [hps, List.length_cons]; omega
              have hp0 : ps[0]'(by rw [hps]; simp) = p0 := by simp [hps]
              rw [hp0] at z0
              simp only [As.cellsP, List.getElem?_cons_zero, Nat.zero_mul, Nat.add_zero] at z0
              have HLDP := Lib.hid (show As.lead ps = p0.code from by rw [hps]; rfl)
              clear hcs hx1 hx2 hx3 hx4 hp0 hr5 hps
              subst h5
              generalize ps.length = np at *
              obtain ⟨pc, pi, pb, pk, pn, pf⟩ := p0
              dsimp only at z0 HLDP
              cases pc
              · have HLD := Lib.hid (show ¬ (As.lead ps = true ∧ T % 4 ≠ 0) from fun e => by rw [HLDP.out] at e; cases e.1)
                go_wp2_with fail
                go_at_call 85
                refine CS.out.mono ?_
                rintro e w6 ⟨rfl, hb6⟩
                have HB6 := Lib.hid (show Below w0.heap.size w0 w6 from HB5.out.trans (hb6.mono HB5.out.size))
                have HM6 := Lib.hid (HM5.out.kept hb6)
                clear hb6
                by_cases hbig : 131072 < here + As.size ps
                · have HBAD := Lib.hid (show As.first a 0 0 [] ls = .bad (k + 1) 6 from by rw [HFW.out, if_neg HLD.out, if_pos hbig])
                  have hbig' : (131072 : Int) < ((here + As.size ps : Nat) : Int) := by omega
                  go_wp2_with fail
                  go_ret2
                  exact As.FirstPost.bad HBAD.out (by simp) rfl HB6.out
                · have HGO := Lib.hid (show As.first a 0 0 [] ls = As.first a (k + 1) (here + As.size ps) sy1 (ls.drop (k + 1)) from by rw [HFW.out, if_neg HLD.out, if_neg hbig])
                  have hbig' : ¬ (131072 : Int) < ((here + As.size ps : Nat) : Int) := by omega
                  have HNB := Lib.hid hbig
                  go_wp2_with fail
                  go_roundw
                  case rel => exact ⟨k + 1, here + As.size ps, sy1, rfl, by simp, HLT.out, by have := HNB.out; omega, HSY.out, HGO.out, HM6.out, HB6.out⟩
                  case measure => have := HLT.out; simp [intOf]; omega
              · by_cases hal : T % 4 = 0
                · have HLD := Lib.hid (show ¬ (As.lead ps = true ∧ T % 4 ≠ 0) from fun e => e.2 hal)
                  have hrem : Int.tmod (T : Int) 4 = 0 := by rw [Int.tmod_eq_emod_of_nonneg (by omega)]; omega
                  have hrem2 : (T : Int) % 4 = 0 := by omega
                  go_wp2_with fail
                  go_at_call 85
                  refine CS.out.mono ?_
                  rintro e w6 ⟨rfl, hb6⟩
                  have HB6 := Lib.hid (show Below w0.heap.size w0 w6 from HB5.out.trans (hb6.mono HB5.out.size))
                  have HM6 := Lib.hid (HM5.out.kept hb6)
                  clear hb6
                  by_cases hbig : 131072 < here + As.size ps
                  · have HBAD := Lib.hid (show As.first a 0 0 [] ls = .bad (k + 1) 6 from by rw [HFW.out, if_neg HLD.out, if_pos hbig])
                    have hbig' : (131072 : Int) < ((here + As.size ps : Nat) : Int) := by omega
                    go_wp2_with fail
                    go_ret2
                    exact As.FirstPost.bad HBAD.out (by simp) rfl HB6.out
                  · have HGO := Lib.hid (show As.first a 0 0 [] ls = As.first a (k + 1) (here + As.size ps) sy1 (ls.drop (k + 1)) from by rw [HFW.out, if_neg HLD.out, if_neg hbig])
                    have hbig' : ¬ (131072 : Int) < ((here + As.size ps : Nat) : Int) := by omega
                    have HNB := Lib.hid hbig
                    go_wp2_with fail
                    go_roundw
                    case rel => exact ⟨k + 1, here + As.size ps, sy1, rfl, by simp, HLT.out, by have := HNB.out; omega, HSY.out, HGO.out, HM6.out, HB6.out⟩
                    case measure => have := HLT.out; simp [intOf]; omega
                · have HBAD := Lib.hid (show As.first a 0 0 [] ls = .bad (k + 1) 30 from by rw [HFW.out, if_pos ⟨HLDP.out, hal⟩])
                  have hrem : (Int.tmod (T : Int) 4 != 0) = true := by rw [bne_iff_ne, Int.tmod_eq_emod_of_nonneg (by omega)]; omega
                  have hrem2 : ((T : Int) % 4 != 0) = true := by rw [bne_iff_ne]; omega
                  go_wp2_with fail
                  go_ret2
                  exact As.FirstPost.bad HBAD.out (by simp) rfl HB5.out
    · obtain rfl : k = ls.length := by omega
      have HEND := Lib.hid (show As.first a 0 0 [] ls = .ok sy from by rw [HF.out, List.drop_length]; rfl)
      go_wp2_with fail
      go_ret2
      rw [HEND.out]
      exact ⟨rfl, HM.out, HB.out⟩
end Go.Proofs.YtfafdkbnmfpbmaaDoor
