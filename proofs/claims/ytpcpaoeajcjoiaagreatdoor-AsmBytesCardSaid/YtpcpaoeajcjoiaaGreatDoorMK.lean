/- Texts joined, what is not reached left out. -/
import Derived.Test.YtpcpaoeajcjoiaaGreatDoorMH
import Derived.Test.YtpcpaoeajcjoiaaGreatDoorQIsRefEncodeQ
/- Layer 7: the document's bytes of a piece at a place. -/
namespace Go.Proofs.YtpcpaoeajcjoiaaGreatDoor
open Go.RowKit Kit
set_option linter.unusedVariables false
set_option linter.unusedSimpArgs false

/-- What the document's word hands back. -/
def As.RWPost (B : Nat) (w : World) (r : List UInt8 × Nat) (e : Ending) (w' : World) : Prop := ∃ A n c, e = .returned (.tuple #[.slice A n c, .int .i64 (r.2 : Int)]) ∧ (r.2 = 0 → As.RdB1 B w' (.slice A n c) r.1) ∧ Below w.heap.size w w'
/-- What the walk has in hand. -/
structure As.RWIn (B : Nat) (w : World) (vs : Value) (sy : List (List UInt8 × Nat)) (p : As.P) (vb : Value) (a : Nat) : Prop where
  rd : Rd w 2 vs sy.length (As.symC sy)
  n : sy.length ≤ 5000000000
  low : As.Low sy
  vb : As.RdB1 B w vb p.bytes
  B : B ≤ w.heap.size
  ok : p.inst.ok
  nm : p.name.length ≤ 1000000000
  sr : p.src.length ≤ 1000000000
  a : a < 4294967296
theorem As.RWIn.lk {B : Nat} {w : World} {vs : Value} {sy : List (List UInt8 × Nat)} {p : As.P} {vb : Value} {a : Nat} (h : As.RWIn B w vs sy p vb a) (s : List UInt8) : (As.look sy s).getD 0 < 4294967296 := by
  cases hl : As.look sy s with
  | none => decide
  | some v => exact h.low.look hl
theorem As.cat_nil (s : List UInt8) : (⟨s.toArray⟩ : ByteArray) ++ (⟨#[]⟩ : ByteArray) = ⟨s.toArray⟩ := by
  have := app_eq s []
  simpa using this
theorem As.nil_cat (s : List UInt8) : (⟨#[]⟩ : ByteArray) ++ (⟨s.toArray⟩ : ByteArray) = ⟨s.toArray⟩ := by
  have := app_eq [] s
  simpa using this
theorem As.nil_nil : (⟨#[]⟩ : ByteArray) ++ (⟨#[]⟩ : ByteArray) = ⟨#[]⟩ := As.cat_nil []
theorem As.enc_err (i : Is.Inst) : (Is.enc i).2 = 0 ∨ (Is.enc i).2 = 20 := by
  unfold Is.enc
  split
  · exact .inl rfl
  · exact .inr rfl
theorem World.lt_of_cell {w : World} {g i : Nat} {v : Value} (h : w.cell? ⟨g, i, none⟩ = some v) : g < w.heap.size := by
  rcases Nat.lt_or_ge g w.heap.size with h1 | h1
  · exact h1
  · unfold World.cell? at h
    rw [Array.getElem?_eq_none h1] at h
    cases h
set_option maxRecDepth 100000 in
set_option maxHeartbeats 8000000 in
theorem rword_0_0 {B : Nat} {w : World} {vs : Value} {sy : List (List UInt8 × Nat)} (op rd rs1 rs2 imm : Int) (pb : List UInt8) (BB : Option Addr) (cb : Nat) (a : Nat) (h : As.RWIn B w vs sy (⟨false, ⟨op, rd, rs1, rs2, imm⟩, pb, 0, [], []⟩ : As.P) (.slice BB pb.length cb) a) :
    Calls Tryz.prog 49 #[.agg #[.int .i64 op, .int .i64 rd, .int .i64 rs1, .int .i64 rs2, .int .i64 imm, .string ⟨#[]⟩, .string ⟨#[]⟩, .string ⟨#[]⟩, .string ⟨#[]⟩, .string ⟨#[]⟩, .slice BB pb.length cb, .bool false], .int .u32 (a : Int), vs] w (As.RWPost B w (As.rword sy ⟨false, ⟨op, rd, rs1, rs2, imm⟩, pb, 0, [], []⟩ a)) := by
  have HI := Lib.hid h
  have hal : Below w.heap.size w (w.alloc (.cells #[.int .i64 op, .int .i64 rd, .int .i64 rs1, .int .i64 rs2, .int .i64 imm, .string ⟨#[]⟩, .string ⟨#[]⟩, .string ⟨#[]⟩, .string ⟨#[]⟩, .string ⟨#[]⟩, .slice BB pb.length cb, .bool false] 116)) := (Below.refl _ _).alloc (Nat.le_refl _) _
  have HBK := Lib.hid (Bk.fresh w 116 #[.int .i64 op, .int .i64 rd, .int .i64 rs1, .int .i64 rs2, .int .i64 imm, .string ⟨#[]⟩, .string ⟨#[]⟩, .string ⟨#[]⟩, .string ⟨#[]⟩, .string ⟨#[]⟩, .slice BB pb.length cb, .bool false])
  have HAL := Lib.hid hal
  obtain ⟨Av, cv, rfl⟩ := h.rd.form
  have CF1 := Lib.hid (fun W (hW : Below w.heap.size w W) => rfind_any _ sy [] W (HI.out.rd.kept hW) HI.out.n)
  have CF2 := Lib.hid (fun W (hW : Below w.heap.size w W) => rfind_any _ sy [] W (HI.out.rd.kept hW) HI.out.n)
  have hN0 := As.nil_nil
  have hv32 := h.lk []
  have HR := Lib.hid (show As.rword sy ⟨false, ⟨op, rd, rs1, rs2, imm⟩, pb, 0, [], []⟩ a = (pb, 0) from by
    unfold As.rword
    simp)
  have ha32 := h.a
  clear h hal
  generalize As.look sy [] = V at *
  obtain ⟨W1, hW1⟩ : ∃ W1, w.alloc (.cells #[.int .i64 op, .int .i64 rd, .int .i64 rs1, .int .i64 rs2, .int .i64 imm, .string ⟨#[]⟩, .string ⟨#[]⟩, .string ⟨#[]⟩, .string ⟨#[]⟩, .string ⟨#[]⟩, .slice BB pb.length cb, .bool false] 116) = W1 := ⟨_, rfl⟩
  rw [hW1] at HBK HAL
  have b5 := HBK.out.cell 5
  have b6 := HBK.out.cell 6
  have b7 := HBK.out.cell 7
  have b8 := HBK.out.cell 8
  simp only [List.getElem?_toArray, List.getElem?_cons_zero, List.getElem?_cons_succ] at b5 b6 b7 b8
  go_enter Tryz.func49, Tryz.ntmps49
  go_wp2_with fail
  go_at_call 87
  refine (CF1.out _ HAL.out).mono ?_
  rintro e w2 ⟨rfl, hb2⟩
  have HB2 := Lib.hid (HAL.out.trans (hb2.mono HAL.out.size))
  have HK2 := Lib.hid (HBK.out.kept hb2)
  clear hb2 hW1 b5 b6 b7 b8
  have b9 := HK2.out.cell 9
  simp only [List.getElem?_toArray, List.getElem?_cons_zero, List.getElem?_cons_succ] at b9
  go_wp2_with fail
  go_at_call 87
  refine (CF2.out _ HB2.out).mono ?_
  rintro e w3 ⟨rfl, hb3⟩
  have HB3 := Lib.hid (HB2.out.trans (hb3.mono HB2.out.size))
  have HK3 := Lib.hid (HK2.out.kept hb3)
  clear hb3 b9
  have b0 := HK3.out.cell 0
  have b1 := HK3.out.cell 1
  have b2 := HK3.out.cell 2
  have b3 := HK3.out.cell 3
  have b4 := HK3.out.cell 4
  have b5 := HK3.out.cell 5
  have b6 := HK3.out.cell 6
  have b7 := HK3.out.cell 7
  have b8 := HK3.out.cell 8
  have b9 := HK3.out.cell 9
  have b10 := HK3.out.cell 10
  have b11 := HK3.out.cell 11
  simp only [List.getElem?_toArray, List.getElem?_cons_zero, List.getElem?_cons_succ] at b0 b1 b2 b3 b4 b5 b6 b7 b8 b9 b10 b11
  go_wp2_with fail
  go_ret2
  rw [HR.out]
  exact ⟨_, _, _, rfl, fun _ => HI.out.vb.kept HB3.out, HB3.out⟩
set_option maxRecDepth 100000 in
set_option maxHeartbeats 8000000 in
theorem rword_0_4 {B : Nat} {w : World} {vs : Value} {sy : List (List UInt8 × Nat)} (op rd rs1 rs2 imm : Int) (pb : List UInt8) (nm : List UInt8) (BB : Option Addr) (cb : Nat) (a : Nat) (h : As.RWIn B w vs sy (⟨false, ⟨op, rd, rs1, rs2, imm⟩, pb, 4, nm, []⟩ : As.P) (.slice BB pb.length cb) a) (hnm : nm ≠ []) :
    Calls Tryz.prog 49 #[.agg #[.int .i64 op, .int .i64 rd, .int .i64 rs1, .int .i64 rs2, .int .i64 imm, .string ⟨#[]⟩, .string ⟨#[]⟩, .string ⟨#[]⟩, .string ⟨nm.toArray⟩, .string ⟨#[]⟩, .slice BB pb.length cb, .bool false], .int .u32 (a : Int), vs] w (As.RWPost B w (As.rword sy ⟨false, ⟨op, rd, rs1, rs2, imm⟩, pb, 4, nm, []⟩ a)) := by
  have HI := Lib.hid h
  have hal : Below w.heap.size w (w.alloc (.cells #[.int .i64 op, .int .i64 rd, .int .i64 rs1, .int .i64 rs2, .int .i64 imm, .string ⟨#[]⟩, .string ⟨#[]⟩, .string ⟨#[]⟩, .string ⟨nm.toArray⟩, .string ⟨#[]⟩, .slice BB pb.length cb, .bool false] 116)) := (Below.refl _ _).alloc (Nat.le_refl _) _
  have HBK := Lib.hid (Bk.fresh w 116 #[.int .i64 op, .int .i64 rd, .int .i64 rs1, .int .i64 rs2, .int .i64 imm, .string ⟨#[]⟩, .string ⟨#[]⟩, .string ⟨#[]⟩, .string ⟨nm.toArray⟩, .string ⟨#[]⟩, .slice BB pb.length cb, .bool false])
  have HAL := Lib.hid hal
  obtain ⟨Av, cv, rfl⟩ := h.rd.form
  have CF1 := Lib.hid (fun W (hW : Below w.heap.size w W) => rfind_any _ sy nm W (HI.out.rd.kept hW) HI.out.n)
  have CF2 := Lib.hid (fun W (hW : Below w.heap.size w W) => rfind_any _ sy [] W (HI.out.rd.kept hW) HI.out.n)
  have hN0 := As.nil_nil
  have hN1 := As.cat_nil nm
  have hN2 := As.nil_cat nm
  have hlen : ¬ 9223372036854775807 < nm.length := by have : nm.length ≤ 1000000000 := h.nm; omega
  have hne : (nm != ([] : List UInt8)) = true := by simpa using hnm
  have hne2 : (!nm == ([] : List UInt8)) = true := by simpa using hnm
  have he2 : nm.isEmpty = false := by simpa using hnm
  have hv32 := h.lk nm
  have HR := Lib.hid (show ∀ V, As.look sy nm = V → As.rword sy ⟨false, ⟨op, rd, rs1, rs2, imm⟩, pb, 4, nm, []⟩ a = (match V with | none => ([], 41) | some v => (As.four v, 0)) from fun V hV => by
    unfold As.rword
    cases V <;> simp [hV, hnm])
  have ha32 := h.a
  clear h hal hnm
  replace HR := Lib.hid (HR.out _ rfl)
  generalize As.look sy nm = V at *
  generalize As.look sy [] = U at *
  obtain ⟨W1, hW1⟩ : ∃ W1, w.alloc (.cells #[.int .i64 op, .int .i64 rd, .int .i64 rs1, .int .i64 rs2, .int .i64 imm, .string ⟨#[]⟩, .string ⟨#[]⟩, .string ⟨#[]⟩, .string ⟨nm.toArray⟩, .string ⟨#[]⟩, .slice BB pb.length cb, .bool false] 116) = W1 := ⟨_, rfl⟩
  rw [hW1] at HBK HAL
  have b5 := HBK.out.cell 5
  have b6 := HBK.out.cell 6
  have b7 := HBK.out.cell 7
  have b8 := HBK.out.cell 8
  simp only [List.getElem?_toArray, List.getElem?_cons_zero, List.getElem?_cons_succ] at b5 b6 b7 b8
  go_enter Tryz.func49, Tryz.ntmps49
  go_wp2_with fail
  go_at_call 87
  refine (CF1.out _ HAL.out).mono ?_
  rintro e w2 ⟨rfl, hb2⟩
  have HB2 := Lib.hid (HAL.out.trans (hb2.mono HAL.out.size))
  have HK2 := Lib.hid (HBK.out.kept hb2)
  clear hb2 hW1 b5 b6 b7 b8
  have b9 := HK2.out.cell 9
  simp only [List.getElem?_toArray, List.getElem?_cons_zero, List.getElem?_cons_succ] at b9
  go_wp2_with fail
  go_at_call 87
  refine (CF2.out _ HB2.out).mono ?_
  rintro e w3 ⟨rfl, hb3⟩
  have HB3 := Lib.hid (HB2.out.trans (hb3.mono HB2.out.size))
  have HK3 := Lib.hid (HK2.out.kept hb3)
  clear hb3 b9
  have b0 := HK3.out.cell 0
  have b1 := HK3.out.cell 1
  have b2 := HK3.out.cell 2
  have b3 := HK3.out.cell 3
  have b4 := HK3.out.cell 4
  have b5 := HK3.out.cell 5
  have b6 := HK3.out.cell 6
  have b7 := HK3.out.cell 7
  have b8 := HK3.out.cell 8
  have b9 := HK3.out.cell 9
  have b10 := HK3.out.cell 10
  have b11 := HK3.out.cell 11
  simp only [List.getElem?_toArray, List.getElem?_cons_zero, List.getElem?_cons_succ] at b0 b1 b2 b3 b4 b5 b6 b7 b8 b9 b10 b11
  cases V with
  | none =>
    simp only [Option.getD_none, Option.isSome_none] at *
    have HRE := Lib.hid (show As.rword sy ⟨false, ⟨op, rd, rs1, rs2, imm⟩, pb, 4, nm, []⟩ a = ([], 41) from HR.out)
    go_wp2_with fail
    go_ret2
    rw [HRE.out]
    exact ⟨_, _, _, rfl, fun e => absurd e (by decide), HB3.out⟩
  | some v =>
    simp only [Option.getD_some, Option.isSome_some] at *
    have hvn : ((v : Nat) : Int).toNat = v := by omega
    go_wp2_with fail
    go_at_call 94
    refine (As.rfour_int w3 _ (by omega) (by omega)).mono ?_
    rintro e w9 ⟨rfl, hw9⟩
    have hr9 : As.RdB1 B w9 (.slice (some ⟨w3.heap.size, 0, none⟩) 4 4) (As.four (((v : Nat) : Int).toNat)) := by rw [hw9]; exact As.RdB1.fresh w3 _ (by unfold maxLen; simp [As.four]) _ (Nat.le_trans HI.out.B HB3.out.size)
    have hb9 : Below w.heap.size w w9 := by rw [hw9]; exact HB3.out.alloc HB3.out.size _
    have HR9 := Lib.hid hr9
    have HB9 := Lib.hid hb9
    clear hw9 hr9 hb9
    go_wp2_with fail
    go_ret2
    rw [HR.out]
    exact ⟨_, _, _, rfl, fun _ => by rw [← hvn]; exact HR9.out, HB9.out⟩
set_option maxRecDepth 100000 in
set_option maxHeartbeats 8000000 in
theorem rword_0_5 {B : Nat} {w : World} {vs : Value} {sy : List (List UInt8 × Nat)} (op rd rs1 rs2 imm : Int) (pb : List UInt8) (nm : List UInt8) (sr : List UInt8) (BB : Option Addr) (cb : Nat) (a : Nat) (h : As.RWIn B w vs sy (⟨false, ⟨op, rd, rs1, rs2, imm⟩, pb, 5, nm, sr⟩ : As.P) (.slice BB pb.length cb) a) (hnm : nm ≠ []) (hsr : sr ≠ []) :
    Calls Tryz.prog 49 #[.agg #[.int .i64 op, .int .i64 rd, .int .i64 rs1, .int .i64 rs2, .int .i64 imm, .string ⟨#[]⟩, .string ⟨#[]⟩, .string ⟨#[]⟩, .string ⟨nm.toArray⟩, .string ⟨sr.toArray⟩, .slice BB pb.length cb, .bool false], .int .u32 (a : Int), vs] w (As.RWPost B w (As.rword sy ⟨false, ⟨op, rd, rs1, rs2, imm⟩, pb, 5, nm, sr⟩ a)) := by
  have HI := Lib.hid h
  have hal : Below w.heap.size w (w.alloc (.cells #[.int .i64 op, .int .i64 rd, .int .i64 rs1, .int .i64 rs2, .int .i64 imm, .string ⟨#[]⟩, .string ⟨#[]⟩, .string ⟨#[]⟩, .string ⟨nm.toArray⟩, .string ⟨sr.toArray⟩, .slice BB pb.length cb, .bool false] 116)) := (Below.refl _ _).alloc (Nat.le_refl _) _
  have HBK := Lib.hid (Bk.fresh w 116 #[.int .i64 op, .int .i64 rd, .int .i64 rs1, .int .i64 rs2, .int .i64 imm, .string ⟨#[]⟩, .string ⟨#[]⟩, .string ⟨#[]⟩, .string ⟨nm.toArray⟩, .string ⟨sr.toArray⟩, .slice BB pb.length cb, .bool false])
  have HAL := Lib.hid hal
  obtain ⟨Av, cv, rfl⟩ := h.rd.form
  have CF1 := Lib.hid (fun W (hW : Below w.heap.size w W) => rfind_any _ sy nm W (HI.out.rd.kept hW) HI.out.n)
  have CF2 := Lib.hid (fun W (hW : Below w.heap.size w W) => rfind_any _ sy sr W (HI.out.rd.kept hW) HI.out.n)
  have hN0 := As.nil_nil
  have hN1 := As.cat_nil nm
  have hN2 := As.nil_cat nm
  have hlen : ¬ 9223372036854775807 < nm.length := by have : nm.length ≤ 1000000000 := h.nm; omega
  have hne : (nm != ([] : List UInt8)) = true := by simpa using hnm
  have hne2 : (!nm == ([] : List UInt8)) = true := by simpa using hnm
  have he2 : nm.isEmpty = false := by simpa using hnm
  have sne : (sr != ([] : List UInt8)) = true := by simpa using hsr
  have sne2 : (!sr == ([] : List UInt8)) = true := by simpa using hsr
  have se2 : sr.isEmpty = false := by simpa using hsr
  have hv32 := h.lk nm
  have hu32 := h.lk sr
  have HR := Lib.hid (show ∀ V, As.look sy nm = V → ∀ U, As.look sy sr = U → As.rword sy ⟨false, ⟨op, rd, rs1, rs2, imm⟩, pb, 5, nm, sr⟩ a = (match V with | none => ([], 41) | some v => match U with | none => ([], 41) | some u => (As.four (As.bits ((v : Int) - (u : Int))), 0)) from fun V hV U hU => by
    unfold As.rword
    cases V <;> cases U <;> simp [hV, hU, hnm, hsr])
  have ha32 := h.a
  clear h hal hnm hsr
  replace HR := Lib.hid (HR.out _ rfl _ rfl)
  generalize As.look sy nm = V at *
  generalize As.look sy sr = U at *
  obtain ⟨W1, hW1⟩ : ∃ W1, w.alloc (.cells #[.int .i64 op, .int .i64 rd, .int .i64 rs1, .int .i64 rs2, .int .i64 imm, .string ⟨#[]⟩, .string ⟨#[]⟩, .string ⟨#[]⟩, .string ⟨nm.toArray⟩, .string ⟨sr.toArray⟩, .slice BB pb.length cb, .bool false] 116) = W1 := ⟨_, rfl⟩
  rw [hW1] at HBK HAL
  have b5 := HBK.out.cell 5
  have b6 := HBK.out.cell 6
  have b7 := HBK.out.cell 7
  have b8 := HBK.out.cell 8
  simp only [List.getElem?_toArray, List.getElem?_cons_zero, List.getElem?_cons_succ] at b5 b6 b7 b8
  go_enter Tryz.func49, Tryz.ntmps49
  go_wp2_with fail
  go_at_call 87
  refine (CF1.out _ HAL.out).mono ?_
  rintro e w2 ⟨rfl, hb2⟩
  have HB2 := Lib.hid (HAL.out.trans (hb2.mono HAL.out.size))
  have HK2 := Lib.hid (HBK.out.kept hb2)
  clear hb2 hW1 b5 b6 b7 b8
  have b9 := HK2.out.cell 9
  simp only [List.getElem?_toArray, List.getElem?_cons_zero, List.getElem?_cons_succ] at b9
  go_wp2_with fail
  go_at_call 87
  refine (CF2.out _ HB2.out).mono ?_
  rintro e w3 ⟨rfl, hb3⟩
  have HB3 := Lib.hid (HB2.out.trans (hb3.mono HB2.out.size))
  have HK3 := Lib.hid (HK2.out.kept hb3)
  clear hb3 b9
  have b0 := HK3.out.cell 0
  have b1 := HK3.out.cell 1
  have b2 := HK3.out.cell 2
  have b3 := HK3.out.cell 3
  have b4 := HK3.out.cell 4
  have b5 := HK3.out.cell 5
  have b6 := HK3.out.cell 6
  have b7 := HK3.out.cell 7
  have b8 := HK3.out.cell 8
  have b9 := HK3.out.cell 9
  have b10 := HK3.out.cell 10
  have b11 := HK3.out.cell 11
  simp only [List.getElem?_toArray, List.getElem?_cons_zero, List.getElem?_cons_succ] at b0 b1 b2 b3 b4 b5 b6 b7 b8 b9 b10 b11
  cases V with
  | none =>
    simp only [Option.getD_none, Option.isSome_none] at *
    cases U with
    | none =>
      simp only [Option.getD_none, Option.isSome_none] at *
      have HRE := Lib.hid (show As.rword sy ⟨false, ⟨op, rd, rs1, rs2, imm⟩, pb, 5, nm, sr⟩ a = ([], 41) from HR.out)
      go_wp2_with fail
      go_ret2
      rw [HRE.out]
      exact ⟨_, _, _, rfl, fun e => absurd e (by decide), HB3.out⟩
    | some u =>
      simp only [Option.getD_some, Option.isSome_some] at *
      have HRE := Lib.hid (show As.rword sy ⟨false, ⟨op, rd, rs1, rs2, imm⟩, pb, 5, nm, sr⟩ a = ([], 41) from HR.out)
      go_wp2_with fail
      go_ret2
      rw [HRE.out]
      exact ⟨_, _, _, rfl, fun e => absurd e (by decide), HB3.out⟩
  | some v =>
    simp only [Option.getD_some, Option.isSome_some] at *
    cases U with
    | none =>
      simp only [Option.getD_none, Option.isSome_none] at *
      have HRE := Lib.hid (show As.rword sy ⟨false, ⟨op, rd, rs1, rs2, imm⟩, pb, 5, nm, sr⟩ a = ([], 41) from HR.out)
      go_wp2_with fail
      go_ret2
      rw [HRE.out]
      exact ⟨_, _, _, rfl, fun e => absurd e (by decide), HB3.out⟩
    | some u =>
      simp only [Option.getD_some, Option.isSome_some] at *
      have hsub : IntKind.u32.wrap ((v : Int) - (u : Int)) = ((As.bits ((v : Int) - (u : Int)) : Nat) : Int) := by rw [As.bits_int, IntKind.wrap_u32]
      have hsub2 : ((v : Int) - (u : Int)) % 4294967296 = ((As.bits ((v : Int) - (u : Int)) : Nat) : Int) := (As.bits_int _).symm
      have hbl := As.bits_lt ((v : Int) - (u : Int))
      generalize As.bits ((v : Int) - (u : Int)) = D at *
      have hvn : ((D : Nat) : Int).toNat = D := by omega
      go_wp2_with fail
      go_at_call 94
      refine (As.rfour_int w3 _ (by omega) (by omega)).mono ?_
      rintro e w9 ⟨rfl, hw9⟩
      have hr9 : As.RdB1 B w9 (.slice (some ⟨w3.heap.size, 0, none⟩) 4 4) (As.four (((D : Nat) : Int).toNat)) := by rw [hw9]; exact As.RdB1.fresh w3 _ (by unfold maxLen; simp [As.four]) _ (Nat.le_trans HI.out.B HB3.out.size)
      have hb9 : Below w.heap.size w w9 := by rw [hw9]; exact HB3.out.alloc HB3.out.size _
      have HR9 := Lib.hid hr9
      have HB9 := Lib.hid hb9
      clear hw9 hr9 hb9
      go_wp2_with fail
      go_ret2
      rw [HR.out]
      exact ⟨_, _, _, rfl, fun _ => by rw [← hvn]; exact HR9.out, HB9.out⟩
set_option maxRecDepth 100000 in
set_option maxHeartbeats 8000000 in
theorem rword_1_0 {B : Nat} {w : World} {vs : Value} {sy : List (List UInt8 × Nat)} (op rd rs1 rs2 imm : Int) (pb : List UInt8) (BB : Option Addr) (cb : Nat) (a : Nat) (h : As.RWIn B w vs sy (⟨true, ⟨op, rd, rs1, rs2, imm⟩, pb, 0, [], []⟩ : As.P) (.slice BB pb.length cb) a) :
    Calls Tryz.prog 49 #[.agg #[.int .i64 op, .int .i64 rd, .int .i64 rs1, .int .i64 rs2, .int .i64 imm, .string ⟨#[]⟩, .string ⟨#[]⟩, .string ⟨#[]⟩, .string ⟨#[]⟩, .string ⟨#[]⟩, .slice BB pb.length cb, .bool true], .int .u32 (a : Int), vs] w (As.RWPost B w (As.rword sy ⟨true, ⟨op, rd, rs1, rs2, imm⟩, pb, 0, [], []⟩ a)) := by
  have HI := Lib.hid h
  have hal : Below w.heap.size w (w.alloc (.cells #[.int .i64 op, .int .i64 rd, .int .i64 rs1, .int .i64 rs2, .int .i64 imm, .string ⟨#[]⟩, .string ⟨#[]⟩, .string ⟨#[]⟩, .string ⟨#[]⟩, .string ⟨#[]⟩, .slice BB pb.length cb, .bool true] 116)) := (Below.refl _ _).alloc (Nat.le_refl _) _
  have HBK := Lib.hid (Bk.fresh w 116 #[.int .i64 op, .int .i64 rd, .int .i64 rs1, .int .i64 rs2, .int .i64 imm, .string ⟨#[]⟩, .string ⟨#[]⟩, .string ⟨#[]⟩, .string ⟨#[]⟩, .string ⟨#[]⟩, .slice BB pb.length cb, .bool true])
  have HAL := Lib.hid hal
  obtain ⟨Av, cv, rfl⟩ := h.rd.form
  have CF1 := Lib.hid (fun W (hW : Below w.heap.size w W) => rfind_any _ sy [] W (HI.out.rd.kept hW) HI.out.n)
  have CF2 := Lib.hid (fun W (hW : Below w.heap.size w W) => rfind_any _ sy [] W (HI.out.rd.kept hW) HI.out.n)
  have hN0 := As.nil_nil
  have hv32 := h.lk []
  have HR := Lib.hid (show As.rword sy ⟨true, ⟨op, rd, rs1, rs2, imm⟩, pb, 0, [], []⟩ a = (if (Is.enc ⟨op, rd, rs1, rs2, imm⟩).2 = 0 then (As.four (Is.enc ⟨op, rd, rs1, rs2, imm⟩).1.toNat, 0) else ([], 20)) from by
    unfold As.rword
    simp [As.aim])
  have ha32 := h.a
  clear h hal
  generalize As.look sy [] = V at *
  obtain ⟨W1, hW1⟩ : ∃ W1, w.alloc (.cells #[.int .i64 op, .int .i64 rd, .int .i64 rs1, .int .i64 rs2, .int .i64 imm, .string ⟨#[]⟩, .string ⟨#[]⟩, .string ⟨#[]⟩, .string ⟨#[]⟩, .string ⟨#[]⟩, .slice BB pb.length cb, .bool true] 116) = W1 := ⟨_, rfl⟩
  rw [hW1] at HBK HAL
  have b5 := HBK.out.cell 5
  have b6 := HBK.out.cell 6
  have b7 := HBK.out.cell 7
  have b8 := HBK.out.cell 8
  simp only [List.getElem?_toArray, List.getElem?_cons_zero, List.getElem?_cons_succ] at b5 b6 b7 b8
  go_enter Tryz.func49, Tryz.ntmps49
  go_wp2_with fail
  go_at_call 87
  refine (CF1.out _ HAL.out).mono ?_
  rintro e w2 ⟨rfl, hb2⟩
  have HB2 := Lib.hid (HAL.out.trans (hb2.mono HAL.out.size))
  have HK2 := Lib.hid (HBK.out.kept hb2)
  clear hb2 hW1 b5 b6 b7 b8
  have b9 := HK2.out.cell 9
  simp only [List.getElem?_toArray, List.getElem?_cons_zero, List.getElem?_cons_succ] at b9
  go_wp2_with fail
  go_at_call 87
  refine (CF2.out _ HB2.out).mono ?_
  rintro e w3 ⟨rfl, hb3⟩
  have HB3 := Lib.hid (HB2.out.trans (hb3.mono HB2.out.size))
  have HK3 := Lib.hid (HK2.out.kept hb3)
  clear hb3 b9
  have b0 := HK3.out.cell 0
  have b1 := HK3.out.cell 1
  have b2 := HK3.out.cell 2
  have b3 := HK3.out.cell 3
  have b4 := HK3.out.cell 4
  have b5 := HK3.out.cell 5
  have b6 := HK3.out.cell 6
  have b7 := HK3.out.cell 7
  have b8 := HK3.out.cell 8
  have b9 := HK3.out.cell 9
  have b10 := HK3.out.cell 10
  have b11 := HK3.out.cell 11
  simp only [List.getElem?_toArray, List.getElem?_cons_zero, List.getElem?_cons_succ] at b0 b1 b2 b3 b4 b5 b6 b7 b8 b9 b10 b11
  generalize V.getD 0 = v at *
  have hs32 := As.s32_wrap v (by omega)
  have hsr := As.s32_rng v (by omega)
  have hs64 : IntKind.i64.wrap (As.s32 v) = As.s32 v := by rw [IntKind.wrap_i64]; omega
  have CH := Lib.hid (fun W => rhalves_any (As.s32 v) W (by omega) (by omega))
  have hbi := Bk.fresh w3 114 #[.int .i64 op, .int .i64 rd, .int .i64 rs1, .int .i64 rs2, .int .i64 imm]
  have hali : Below w3.heap.size w3 (w3.alloc (.cells #[.int .i64 op, .int .i64 rd, .int .i64 rs1, .int .i64 rs2, .int .i64 imm] 114)) := (Below.refl _ _).alloc (Nat.le_refl _) _
  have hk4 := HK3.out.kept hali
  have HB4 := Lib.hid (HB3.out.trans (hali.mono HB3.out.size))
  have hsz := HB3.out.size
  have hne9 : w3.heap.size ≠ w.heap.size := by have := HK3.out.lt; omega
  go_wp2_with fail
  obtain ⟨w4, hw4⟩ : ∃ w4, w3.alloc (.cells #[.int .i64 op, .int .i64 rd, .int .i64 rs1, .int .i64 rs2, .int .i64 imm] 114) = w4 := ⟨_, rfl⟩
  rw [hw4] at hbi hk4 HB4 ⊢
  clear hw4 hali b0 b1 b2 b3 b4 b5 b6 b7 b8 b9 b10 b11
  generalize w3.heap.size = gi at *
  have i0 := hbi.cell 0
  have i1 := hbi.cell 1
  have i2 := hbi.cell 2
  have i3 := hbi.cell 3
  have i4 := hbi.cell 4
  have fi := hbi.free 4
  have b5 := hk4.cell 5
  have b6 := hk4.cell 6
  have b7 := hk4.cell 7
  simp only [List.getElem?_toArray, List.getElem?_cons_zero, List.getElem?_cons_succ] at i0 i1 i2 i3 i4 b5 b6 b7
  have HBI := Lib.hid hbi
  have HK4 := Lib.hid hk4
  clear hbi hk4
  go_at_call 95
  refine (CH.out _).mono ?_
  rintro e w' ⟨rfl, rfl⟩
  have HB5 := Lib.hid HB4.out
  go_upto_region 20 with fail
  obtain ⟨w5, hw5⟩ : ∃ w5, w4 = w5 := ⟨_, rfl⟩
  rw [hw5] at HB5 i0 i1 i2 i3 i4 b5 b6 b7 HK4 ⊢
  have q5 := b5
  clear hw5
  have CE := Lib.hid (fun W => enc_ref ⟨op, rd, rs1, rs2, imm⟩ W)
  have HER := Lib.hid (As.enc_rng ⟨op, rd, rs1, rs2, imm⟩)
  have HE2 := Lib.hid (As.enc_err ⟨op, rd, rs1, rs2, imm⟩)
  generalize Is.enc ⟨op, rd, rs1, rs2, imm⟩ = EE at *
  obtain ⟨ex, ee⟩ := EE
  dsimp only at *
  have HWL := Lib.hid (show w.heap.size < w5.heap.size from World.lt_of_cell q5)
  go_wp2_with fail
  go_at_call 96
  refine (CE.out _).mono ?_
  rintro e w6 ⟨rfl, hb6⟩
  have HB6 := Lib.hid (HB5.out.trans (hb6.mono HB5.out.size))
  have r5 := (hb6.cell (p := ⟨w.heap.size, 5, none⟩) HWL.out).trans q5
  clear hb6 q5 i0 i1 i2 i3 i4 b5 b6 b7
  rcases HE2.out with he | he
  · subst he
    have HR := Lib.hid (HR.out.trans (if_pos rfl))
    go_wp2_with fail
    go_at_call 94
    refine (As.rfour_int w6 _ HER.out.1 HER.out.2).mono ?_
    rintro e w9 ⟨rfl, hw9⟩
    have hr9 : As.RdB1 B w9 (.slice (some ⟨w6.heap.size, 0, none⟩) 4 4) (As.four (ex.toNat)) := by rw [hw9]; exact As.RdB1.fresh w6 _ (by unfold maxLen; simp [As.four]) _ (Nat.le_trans HI.out.B HB6.out.size)
    have hb9 : Below w.heap.size w w9 := by rw [hw9]; exact HB6.out.alloc HB6.out.size _
    have HR9 := Lib.hid hr9
    have HB9 := Lib.hid hb9
    clear hw9 hr9 hb9
    go_wp2_with fail
    go_ret2
    rw [HR.out]
    exact ⟨_, _, _, rfl, fun _ => HR9.out, HB9.out⟩
  · subst he
    have HR := Lib.hid (show As.rword sy ⟨true, ⟨op, rd, rs1, rs2, imm⟩, pb, 0, [], []⟩ a = ([], 20) from by have h := HR.out; (try dsimp only at h); rw [if_neg (by decide)] at h; exact h)
    go_wp2_with fail
    go_at_call 94
    refine (As.rfour_int w6 _ HER.out.1 HER.out.2).mono ?_
    rintro e w9 ⟨rfl, hw9⟩
    have hr9 : As.RdB1 B w9 (.slice (some ⟨w6.heap.size, 0, none⟩) 4 4) (As.four (ex.toNat)) := by rw [hw9]; exact As.RdB1.fresh w6 _ (by unfold maxLen; simp [As.four]) _ (Nat.le_trans HI.out.B HB6.out.size)
    have hb9 : Below w.heap.size w w9 := by rw [hw9]; exact HB6.out.alloc HB6.out.size _
    have HR9 := Lib.hid hr9
    have HB9 := Lib.hid hb9
    clear hw9 hr9 hb9
    go_wp2_with fail
    go_ret2
    rw [HR.out]
    exact ⟨_, _, _, rfl, fun e => absurd e (by decide), HB9.out⟩
set_option maxRecDepth 100000 in
set_option maxHeartbeats 8000000 in
theorem rword_1_1 {B : Nat} {w : World} {vs : Value} {sy : List (List UInt8 × Nat)} (op rd rs1 rs2 imm : Int) (pb : List UInt8) (nm : List UInt8) (BB : Option Addr) (cb : Nat) (a : Nat) (h : As.RWIn B w vs sy (⟨true, ⟨op, rd, rs1, rs2, imm⟩, pb, 1, nm, []⟩ : As.P) (.slice BB pb.length cb) a) (hnm : nm ≠ []) :
    Calls Tryz.prog 49 #[.agg #[.int .i64 op, .int .i64 rd, .int .i64 rs1, .int .i64 rs2, .int .i64 imm, .string ⟨nm.toArray⟩, .string ⟨#[]⟩, .string ⟨#[]⟩, .string ⟨#[]⟩, .string ⟨#[]⟩, .slice BB pb.length cb, .bool true], .int .u32 (a : Int), vs] w (As.RWPost B w (As.rword sy ⟨true, ⟨op, rd, rs1, rs2, imm⟩, pb, 1, nm, []⟩ a)) := by
  have HI := Lib.hid h
  have hal : Below w.heap.size w (w.alloc (.cells #[.int .i64 op, .int .i64 rd, .int .i64 rs1, .int .i64 rs2, .int .i64 imm, .string ⟨nm.toArray⟩, .string ⟨#[]⟩, .string ⟨#[]⟩, .string ⟨#[]⟩, .string ⟨#[]⟩, .slice BB pb.length cb, .bool true] 116)) := (Below.refl _ _).alloc (Nat.le_refl _) _
  have HBK := Lib.hid (Bk.fresh w 116 #[.int .i64 op, .int .i64 rd, .int .i64 rs1, .int .i64 rs2, .int .i64 imm, .string ⟨nm.toArray⟩, .string ⟨#[]⟩, .string ⟨#[]⟩, .string ⟨#[]⟩, .string ⟨#[]⟩, .slice BB pb.length cb, .bool true])
  have HAL := Lib.hid hal
  obtain ⟨Av, cv, rfl⟩ := h.rd.form
  have CF1 := Lib.hid (fun W (hW : Below w.heap.size w W) => rfind_any _ sy nm W (HI.out.rd.kept hW) HI.out.n)
  have CF2 := Lib.hid (fun W (hW : Below w.heap.size w W) => rfind_any _ sy [] W (HI.out.rd.kept hW) HI.out.n)
  have hN0 := As.nil_nil
  have hN1 := As.cat_nil nm
  have hN2 := As.nil_cat nm
  have hlen : ¬ 9223372036854775807 < nm.length := by have : nm.length ≤ 1000000000 := h.nm; omega
  have hne : (nm != ([] : List UInt8)) = true := by simpa using hnm
  have hne2 : (!nm == ([] : List UInt8)) = true := by simpa using hnm
  have he2 : nm.isEmpty = false := by simpa using hnm
  have hv32 := h.lk nm
  have HR := Lib.hid (show ∀ V, As.look sy nm = V → As.rword sy ⟨true, ⟨op, rd, rs1, rs2, imm⟩, pb, 1, nm, []⟩ a = (match V with | none => ([], 41) | some v => if (Is.enc ⟨op, rd, rs1, rs2, As.s32 (As.bits ((v : Int) - (a : Int)))⟩).2 = 0 then (As.four (Is.enc ⟨op, rd, rs1, rs2, As.s32 (As.bits ((v : Int) - (a : Int)))⟩).1.toNat, 0) else ([], 43)) from fun V hV => by
    unfold As.rword
    cases V <;> simp [hV, hnm, As.aim, As.imm])
  have ha32 := h.a
  clear h hal hnm
  replace HR := Lib.hid (HR.out _ rfl)
  generalize As.look sy nm = V at *
  generalize As.look sy [] = U at *
  obtain ⟨W1, hW1⟩ : ∃ W1, w.alloc (.cells #[.int .i64 op, .int .i64 rd, .int .i64 rs1, .int .i64 rs2, .int .i64 imm, .string ⟨nm.toArray⟩, .string ⟨#[]⟩, .string ⟨#[]⟩, .string ⟨#[]⟩, .string ⟨#[]⟩, .slice BB pb.length cb, .bool true] 116) = W1 := ⟨_, rfl⟩
  rw [hW1] at HBK HAL
  have b5 := HBK.out.cell 5
  have b6 := HBK.out.cell 6
  have b7 := HBK.out.cell 7
  have b8 := HBK.out.cell 8
  simp only [List.getElem?_toArray, List.getElem?_cons_zero, List.getElem?_cons_succ] at b5 b6 b7 b8
  go_enter Tryz.func49, Tryz.ntmps49
  go_wp2_with fail
  go_at_call 87
  refine (CF1.out _ HAL.out).mono ?_
  rintro e w2 ⟨rfl, hb2⟩
  have HB2 := Lib.hid (HAL.out.trans (hb2.mono HAL.out.size))
  have HK2 := Lib.hid (HBK.out.kept hb2)
  clear hb2 hW1 b5 b6 b7 b8
  have b9 := HK2.out.cell 9
  simp only [List.getElem?_toArray, List.getElem?_cons_zero, List.getElem?_cons_succ] at b9
  go_wp2_with fail
  go_at_call 87
  refine (CF2.out _ HB2.out).mono ?_
  rintro e w3 ⟨rfl, hb3⟩
  have HB3 := Lib.hid (HB2.out.trans (hb3.mono HB2.out.size))
  have HK3 := Lib.hid (HK2.out.kept hb3)
  clear hb3 b9
  have b0 := HK3.out.cell 0
  have b1 := HK3.out.cell 1
  have b2 := HK3.out.cell 2
  have b3 := HK3.out.cell 3
  have b4 := HK3.out.cell 4
  have b5 := HK3.out.cell 5
  have b6 := HK3.out.cell 6
  have b7 := HK3.out.cell 7
  have b8 := HK3.out.cell 8
  have b9 := HK3.out.cell 9
  have b10 := HK3.out.cell 10
  have b11 := HK3.out.cell 11
  simp only [List.getElem?_toArray, List.getElem?_cons_zero, List.getElem?_cons_succ] at b0 b1 b2 b3 b4 b5 b6 b7 b8 b9 b10 b11
  cases V with
  | none =>
    simp only [Option.getD_none, Option.isSome_none] at *
    have HRE := Lib.hid (show As.rword sy ⟨true, ⟨op, rd, rs1, rs2, imm⟩, pb, 1, nm, []⟩ a = ([], 41) from HR.out)
    go_wp2_with fail
    go_ret2
    rw [HRE.out]
    exact ⟨_, _, _, rfl, fun e => absurd e (by decide), HB3.out⟩
  | some v =>
    simp only [Option.getD_some, Option.isSome_some] at *
    have hs32 := As.s32_wrap v (by omega)
    have hsr := As.s32_rng v (by omega)
    have hs64 : IntKind.i64.wrap (As.s32 v) = As.s32 v := by rw [IntKind.wrap_i64]; omega
    have CH := Lib.hid (fun W => rhalves_any (As.s32 v) W (by omega) (by omega))
    have hsub : IntKind.u32.wrap ((v : Int) - (a : Int)) = ((As.bits ((v : Int) - (a : Int)) : Nat) : Int) := by rw [As.bits_int, IntKind.wrap_u32]
    have hsub2 : ((v : Int) - (a : Int)) % 4294967296 = ((As.bits ((v : Int) - (a : Int)) : Nat) : Int) := (As.bits_int _).symm
    have hbl := As.bits_lt ((v : Int) - (a : Int))
    generalize As.bits ((v : Int) - (a : Int)) = D at *
    have hd32 := As.s32_wrap D hbl
    have hdr := As.s32_rng D hbl
    have hd64 : IntKind.i64.wrap (As.s32 D) = As.s32 D := by rw [IntKind.wrap_i64]; omega
    have hbi := Bk.fresh w3 114 #[.int .i64 op, .int .i64 rd, .int .i64 rs1, .int .i64 rs2, .int .i64 imm]
    have hali : Below w3.heap.size w3 (w3.alloc (.cells #[.int .i64 op, .int .i64 rd, .int .i64 rs1, .int .i64 rs2, .int .i64 imm] 114)) := (Below.refl _ _).alloc (Nat.le_refl _) _
    have hk4 := HK3.out.kept hali
    have HB4 := Lib.hid (HB3.out.trans (hali.mono HB3.out.size))
    have hsz := HB3.out.size
    have hne9 : w3.heap.size ≠ w.heap.size := by have := HK3.out.lt; omega
    go_wp2_with fail
    obtain ⟨w4, hw4⟩ : ∃ w4, w3.alloc (.cells #[.int .i64 op, .int .i64 rd, .int .i64 rs1, .int .i64 rs2, .int .i64 imm] 114) = w4 := ⟨_, rfl⟩
    rw [hw4] at hbi hk4 HB4 ⊢
    clear hw4 hali b0 b1 b2 b3 b4 b5 b6 b7 b8 b9 b10 b11
    generalize w3.heap.size = gi at *
    have i0 := hbi.cell 0
    have i1 := hbi.cell 1
    have i2 := hbi.cell 2
    have i3 := hbi.cell 3
    have i4 := hbi.cell 4
    have fi := hbi.free 4
    have b5 := hk4.cell 5
    have b6 := hk4.cell 6
    have b7 := hk4.cell 7
    simp only [List.getElem?_toArray, List.getElem?_cons_zero, List.getElem?_cons_succ] at i0 i1 i2 i3 i4 b5 b6 b7
    have HBI := Lib.hid hbi
    have HK4 := Lib.hid hk4
    clear hbi hk4
    go_at_call 95
    refine (CH.out _).mono ?_
    rintro e w' ⟨rfl, rfl⟩
    have hk5 := HBI.out.set 4 (.int .i64 (As.s32 D))
    have hp5 := (But.setCell w4 gi 4 (.int .i64 (As.s32 D))).bk HK4.out (Ne.symm hne9)
    have HB5 := Lib.hid (show Below w.heap.size w (w4.setCell ⟨gi, 4, none⟩ (.int .i64 (As.s32 D))) from HB4.out.trans ((But.setCell w4 gi 4 (.int .i64 (As.s32 D))).below hsz HB4.out.size))
    have j0 := hk5.cell 0
    have j1 := hk5.cell 1
    have j2 := hk5.cell 2
    have j3 := hk5.cell 3
    have j4 := hk5.cell 4
    have q5 := hp5.cell 5
    have q6 := hp5.cell 6
    have q7 := hp5.cell 7
    simp at j0 j1 j2 j3 j4
    simp only [List.getElem?_toArray, List.getElem?_cons_zero, List.getElem?_cons_succ] at q5 q6 q7
    clear hk5 hp5
    go_upto_region 20 with fail
    obtain ⟨w5, hw5⟩ : ∃ w5, w4.setCell ⟨gi, 4, none⟩ (.int .i64 (As.s32 D)) = w5 := ⟨_, rfl⟩
    rw [hw5] at HB5 j0 j1 j2 j3 j4 q5 q6 q7 ⊢
    clear hw5 i0 i1 i2 i3 i4 b5 b6 b7 HB4
    have CE := Lib.hid (fun W => enc_ref ⟨op, rd, rs1, rs2, As.s32 D⟩ W)
    have HER := Lib.hid (As.enc_rng ⟨op, rd, rs1, rs2, As.s32 D⟩)
    have HE2 := Lib.hid (As.enc_err ⟨op, rd, rs1, rs2, As.s32 D⟩)
    generalize Is.enc ⟨op, rd, rs1, rs2, As.s32 D⟩ = EE at *
    obtain ⟨ex, ee⟩ := EE
    dsimp only at *
    have HWL := Lib.hid (show w.heap.size < w5.heap.size from World.lt_of_cell q5)
    go_wp2_with fail
    go_at_call 96
    refine (CE.out _).mono ?_
    rintro e w6 ⟨rfl, hb6⟩
    have HB6 := Lib.hid (HB5.out.trans (hb6.mono HB5.out.size))
    have r5 := (hb6.cell (p := ⟨w.heap.size, 5, none⟩) HWL.out).trans q5
    clear hb6 q5 j0 j1 j2 j3 j4 q6 q7
    rcases HE2.out with he | he
    · subst he
      have HR := Lib.hid (HR.out.trans (if_pos rfl))
      go_wp2_with fail
      go_at_call 94
      refine (As.rfour_int w6 _ HER.out.1 HER.out.2).mono ?_
      rintro e w9 ⟨rfl, hw9⟩
      have hr9 : As.RdB1 B w9 (.slice (some ⟨w6.heap.size, 0, none⟩) 4 4) (As.four (ex.toNat)) := by rw [hw9]; exact As.RdB1.fresh w6 _ (by unfold maxLen; simp [As.four]) _ (Nat.le_trans HI.out.B HB6.out.size)
      have hb9 : Below w.heap.size w w9 := by rw [hw9]; exact HB6.out.alloc HB6.out.size _
      have HR9 := Lib.hid hr9
      have HB9 := Lib.hid hb9
      clear hw9 hr9 hb9
      go_wp2_with fail
      go_ret2
      rw [HR.out]
      exact ⟨_, _, _, rfl, fun _ => HR9.out, HB9.out⟩
    · subst he
      have HR := Lib.hid (show As.rword sy ⟨true, ⟨op, rd, rs1, rs2, imm⟩, pb, 1, nm, []⟩ a = ([], 43) from by have h := HR.out; (try dsimp only at h); rw [if_neg (by decide)] at h; exact h)
      go_wp2_with fail
      go_ret2
      rw [HR.out]
      exact ⟨_, _, _, rfl, fun e => absurd e (by decide), HB6.out⟩
set_option maxRecDepth 100000 in
set_option maxHeartbeats 8000000 in
theorem rword_1_2 {B : Nat} {w : World} {vs : Value} {sy : List (List UInt8 × Nat)} (op rd rs1 rs2 imm : Int) (pb : List UInt8) (nm : List UInt8) (BB : Option Addr) (cb : Nat) (a : Nat) (h : As.RWIn B w vs sy (⟨true, ⟨op, rd, rs1, rs2, imm⟩, pb, 2, nm, []⟩ : As.P) (.slice BB pb.length cb) a) (hnm : nm ≠ []) :
    Calls Tryz.prog 49 #[.agg #[.int .i64 op, .int .i64 rd, .int .i64 rs1, .int .i64 rs2, .int .i64 imm, .string ⟨#[]⟩, .string ⟨nm.toArray⟩, .string ⟨#[]⟩, .string ⟨#[]⟩, .string ⟨#[]⟩, .slice BB pb.length cb, .bool true], .int .u32 (a : Int), vs] w (As.RWPost B w (As.rword sy ⟨true, ⟨op, rd, rs1, rs2, imm⟩, pb, 2, nm, []⟩ a)) := by
  have HI := Lib.hid h
  have hal : Below w.heap.size w (w.alloc (.cells #[.int .i64 op, .int .i64 rd, .int .i64 rs1, .int .i64 rs2, .int .i64 imm, .string ⟨#[]⟩, .string ⟨nm.toArray⟩, .string ⟨#[]⟩, .string ⟨#[]⟩, .string ⟨#[]⟩, .slice BB pb.length cb, .bool true] 116)) := (Below.refl _ _).alloc (Nat.le_refl _) _
  have HBK := Lib.hid (Bk.fresh w 116 #[.int .i64 op, .int .i64 rd, .int .i64 rs1, .int .i64 rs2, .int .i64 imm, .string ⟨#[]⟩, .string ⟨nm.toArray⟩, .string ⟨#[]⟩, .string ⟨#[]⟩, .string ⟨#[]⟩, .slice BB pb.length cb, .bool true])
  have HAL := Lib.hid hal
  obtain ⟨Av, cv, rfl⟩ := h.rd.form
  have CF1 := Lib.hid (fun W (hW : Below w.heap.size w W) => rfind_any _ sy nm W (HI.out.rd.kept hW) HI.out.n)
  have CF2 := Lib.hid (fun W (hW : Below w.heap.size w W) => rfind_any _ sy [] W (HI.out.rd.kept hW) HI.out.n)
  have hN0 := As.nil_nil
  have hN1 := As.cat_nil nm
  have hN2 := As.nil_cat nm
  have hlen : ¬ 9223372036854775807 < nm.length := by have : nm.length ≤ 1000000000 := h.nm; omega
  have hne : (nm != ([] : List UInt8)) = true := by simpa using hnm
  have hne2 : (!nm == ([] : List UInt8)) = true := by simpa using hnm
  have he2 : nm.isEmpty = false := by simpa using hnm
  have hv32 := h.lk nm
  have HR := Lib.hid (show ∀ V, As.look sy nm = V → As.rword sy ⟨true, ⟨op, rd, rs1, rs2, imm⟩, pb, 2, nm, []⟩ a = (match V with | none => ([], 41) | some v => if (Is.enc ⟨op, rd, rs1, rs2, As.hi (As.s32 v)⟩).2 = 0 then (As.four (Is.enc ⟨op, rd, rs1, rs2, As.hi (As.s32 v)⟩).1.toNat, 0) else ([], 20)) from fun V hV => by
    unfold As.rword
    cases V <;> simp [hV, hnm, As.aim, As.imm])
  have ha32 := h.a
  clear h hal hnm
  replace HR := Lib.hid (HR.out _ rfl)
  generalize As.look sy nm = V at *
  generalize As.look sy [] = U at *
  obtain ⟨W1, hW1⟩ : ∃ W1, w.alloc (.cells #[.int .i64 op, .int .i64 rd, .int .i64 rs1, .int .i64 rs2, .int .i64 imm, .string ⟨#[]⟩, .string ⟨nm.toArray⟩, .string ⟨#[]⟩, .string ⟨#[]⟩, .string ⟨#[]⟩, .slice BB pb.length cb, .bool true] 116) = W1 := ⟨_, rfl⟩
  rw [hW1] at HBK HAL
  have b5 := HBK.out.cell 5
  have b6 := HBK.out.cell 6
  have b7 := HBK.out.cell 7
  have b8 := HBK.out.cell 8
  simp only [List.getElem?_toArray, List.getElem?_cons_zero, List.getElem?_cons_succ] at b5 b6 b7 b8
  go_enter Tryz.func49, Tryz.ntmps49
  go_wp2_with fail
  go_at_call 87
  refine (CF1.out _ HAL.out).mono ?_
  rintro e w2 ⟨rfl, hb2⟩
  have HB2 := Lib.hid (HAL.out.trans (hb2.mono HAL.out.size))
  have HK2 := Lib.hid (HBK.out.kept hb2)
  clear hb2 hW1 b5 b6 b7 b8
  have b9 := HK2.out.cell 9
  simp only [List.getElem?_toArray, List.getElem?_cons_zero, List.getElem?_cons_succ] at b9
  go_wp2_with fail
  go_at_call 87
  refine (CF2.out _ HB2.out).mono ?_
  rintro e w3 ⟨rfl, hb3⟩
  have HB3 := Lib.hid (HB2.out.trans (hb3.mono HB2.out.size))
  have HK3 := Lib.hid (HK2.out.kept hb3)
  clear hb3 b9
  have b0 := HK3.out.cell 0
  have b1 := HK3.out.cell 1
  have b2 := HK3.out.cell 2
  have b3 := HK3.out.cell 3
  have b4 := HK3.out.cell 4
  have b5 := HK3.out.cell 5
  have b6 := HK3.out.cell 6
  have b7 := HK3.out.cell 7
  have b8 := HK3.out.cell 8
  have b9 := HK3.out.cell 9
  have b10 := HK3.out.cell 10
  have b11 := HK3.out.cell 11
  simp only [List.getElem?_toArray, List.getElem?_cons_zero, List.getElem?_cons_succ] at b0 b1 b2 b3 b4 b5 b6 b7 b8 b9 b10 b11
  cases V with
  | none =>
    simp only [Option.getD_none, Option.isSome_none] at *
    have HRE := Lib.hid (show As.rword sy ⟨true, ⟨op, rd, rs1, rs2, imm⟩, pb, 2, nm, []⟩ a = ([], 41) from HR.out)
    go_wp2_with fail
    go_ret2
    rw [HRE.out]
    exact ⟨_, _, _, rfl, fun e => absurd e (by decide), HB3.out⟩
  | some v =>
    simp only [Option.getD_some, Option.isSome_some] at *
    have hs32 := As.s32_wrap v (by omega)
    have hsr := As.s32_rng v (by omega)
    have hs64 : IntKind.i64.wrap (As.s32 v) = As.s32 v := by rw [IntKind.wrap_i64]; omega
    have CH := Lib.hid (fun W => rhalves_any (As.s32 v) W (by omega) (by omega))
    have hbi := Bk.fresh w3 114 #[.int .i64 op, .int .i64 rd, .int .i64 rs1, .int .i64 rs2, .int .i64 imm]
    have hali : Below w3.heap.size w3 (w3.alloc (.cells #[.int .i64 op, .int .i64 rd, .int .i64 rs1, .int .i64 rs2, .int .i64 imm] 114)) := (Below.refl _ _).alloc (Nat.le_refl _) _
    have hk4 := HK3.out.kept hali
    have HB4 := Lib.hid (HB3.out.trans (hali.mono HB3.out.size))
    have hsz := HB3.out.size
    have hne9 : w3.heap.size ≠ w.heap.size := by have := HK3.out.lt; omega
    go_wp2_with fail
    obtain ⟨w4, hw4⟩ : ∃ w4, w3.alloc (.cells #[.int .i64 op, .int .i64 rd, .int .i64 rs1, .int .i64 rs2, .int .i64 imm] 114) = w4 := ⟨_, rfl⟩
    rw [hw4] at hbi hk4 HB4 ⊢
    clear hw4 hali b0 b1 b2 b3 b4 b5 b6 b7 b8 b9 b10 b11
    generalize w3.heap.size = gi at *
    have i0 := hbi.cell 0
    have i1 := hbi.cell 1
    have i2 := hbi.cell 2
    have i3 := hbi.cell 3
    have i4 := hbi.cell 4
    have fi := hbi.free 4
    have b5 := hk4.cell 5
    have b6 := hk4.cell 6
    have b7 := hk4.cell 7
    simp only [List.getElem?_toArray, List.getElem?_cons_zero, List.getElem?_cons_succ] at i0 i1 i2 i3 i4 b5 b6 b7
    have HBI := Lib.hid hbi
    have HK4 := Lib.hid hk4
    clear hbi hk4
    go_at_call 95
    refine (CH.out _).mono ?_
    rintro e w' ⟨rfl, rfl⟩
    have hk5 := HBI.out.set 4 (.int .i64 (As.hi (As.s32 v)))
    have hp5 := (But.setCell w4 gi 4 (.int .i64 (As.hi (As.s32 v)))).bk HK4.out (Ne.symm hne9)
    have HB5 := Lib.hid (show Below w.heap.size w (w4.setCell ⟨gi, 4, none⟩ (.int .i64 (As.hi (As.s32 v)))) from HB4.out.trans ((But.setCell w4 gi 4 (.int .i64 (As.hi (As.s32 v)))).below hsz HB4.out.size))
    have j0 := hk5.cell 0
    have j1 := hk5.cell 1
    have j2 := hk5.cell 2
    have j3 := hk5.cell 3
    have j4 := hk5.cell 4
    have q5 := hp5.cell 5
    have q6 := hp5.cell 6
    have q7 := hp5.cell 7
    simp at j0 j1 j2 j3 j4
    simp only [List.getElem?_toArray, List.getElem?_cons_zero, List.getElem?_cons_succ] at q5 q6 q7
    clear hk5 hp5
    go_upto_region 20 with fail
    obtain ⟨w5, hw5⟩ : ∃ w5, w4.setCell ⟨gi, 4, none⟩ (.int .i64 (As.hi (As.s32 v))) = w5 := ⟨_, rfl⟩
    rw [hw5] at HB5 j0 j1 j2 j3 j4 q5 q6 q7 ⊢
    clear hw5 i0 i1 i2 i3 i4 b5 b6 b7 HB4
    have CE := Lib.hid (fun W => enc_ref ⟨op, rd, rs1, rs2, As.hi (As.s32 v)⟩ W)
    have HER := Lib.hid (As.enc_rng ⟨op, rd, rs1, rs2, As.hi (As.s32 v)⟩)
    have HE2 := Lib.hid (As.enc_err ⟨op, rd, rs1, rs2, As.hi (As.s32 v)⟩)
    generalize Is.enc ⟨op, rd, rs1, rs2, As.hi (As.s32 v)⟩ = EE at *
    obtain ⟨ex, ee⟩ := EE
    dsimp only at *
    have HWL := Lib.hid (show w.heap.size < w5.heap.size from World.lt_of_cell q5)
    go_wp2_with fail
    go_at_call 96
    refine (CE.out _).mono ?_
    rintro e w6 ⟨rfl, hb6⟩
    have HB6 := Lib.hid (HB5.out.trans (hb6.mono HB5.out.size))
    have r5 := (hb6.cell (p := ⟨w.heap.size, 5, none⟩) HWL.out).trans q5
    clear hb6 q5 j0 j1 j2 j3 j4 q6 q7
    rcases HE2.out with he | he
    · subst he
      have HR := Lib.hid (HR.out.trans (if_pos rfl))
      go_wp2_with fail
      go_at_call 94
      refine (As.rfour_int w6 _ HER.out.1 HER.out.2).mono ?_
      rintro e w9 ⟨rfl, hw9⟩
      have hr9 : As.RdB1 B w9 (.slice (some ⟨w6.heap.size, 0, none⟩) 4 4) (As.four (ex.toNat)) := by rw [hw9]; exact As.RdB1.fresh w6 _ (by unfold maxLen; simp [As.four]) _ (Nat.le_trans HI.out.B HB6.out.size)
      have hb9 : Below w.heap.size w w9 := by rw [hw9]; exact HB6.out.alloc HB6.out.size _
      have HR9 := Lib.hid hr9
      have HB9 := Lib.hid hb9
      clear hw9 hr9 hb9
      go_wp2_with fail
      go_ret2
      rw [HR.out]
      exact ⟨_, _, _, rfl, fun _ => HR9.out, HB9.out⟩
    · subst he
      have HR := Lib.hid (show As.rword sy ⟨true, ⟨op, rd, rs1, rs2, imm⟩, pb, 2, nm, []⟩ a = ([], 20) from by have h := HR.out; (try dsimp only at h); rw [if_neg (by decide)] at h; exact h)
      go_wp2_with fail
      go_at_call 94
      refine (As.rfour_int w6 _ HER.out.1 HER.out.2).mono ?_
      rintro e w9 ⟨rfl, hw9⟩
      have hr9 : As.RdB1 B w9 (.slice (some ⟨w6.heap.size, 0, none⟩) 4 4) (As.four (ex.toNat)) := by rw [hw9]; exact As.RdB1.fresh w6 _ (by unfold maxLen; simp [As.four]) _ (Nat.le_trans HI.out.B HB6.out.size)
      have hb9 : Below w.heap.size w w9 := by rw [hw9]; exact HB6.out.alloc HB6.out.size _
      have HR9 := Lib.hid hr9
      have HB9 := Lib.hid hb9
      clear hw9 hr9 hb9
      go_wp2_with fail
      go_ret2
      rw [HR.out]
      exact ⟨_, _, _, rfl, fun e => absurd e (by decide), HB9.out⟩
set_option maxRecDepth 100000 in
set_option maxHeartbeats 8000000 in
theorem rword_1_3 {B : Nat} {w : World} {vs : Value} {sy : List (List UInt8 × Nat)} (op rd rs1 rs2 imm : Int) (pb : List UInt8) (nm : List UInt8) (BB : Option Addr) (cb : Nat) (a : Nat) (h : As.RWIn B w vs sy (⟨true, ⟨op, rd, rs1, rs2, imm⟩, pb, 3, nm, []⟩ : As.P) (.slice BB pb.length cb) a) (hnm : nm ≠ []) :
    Calls Tryz.prog 49 #[.agg #[.int .i64 op, .int .i64 rd, .int .i64 rs1, .int .i64 rs2, .int .i64 imm, .string ⟨#[]⟩, .string ⟨#[]⟩, .string ⟨nm.toArray⟩, .string ⟨#[]⟩, .string ⟨#[]⟩, .slice BB pb.length cb, .bool true], .int .u32 (a : Int), vs] w (As.RWPost B w (As.rword sy ⟨true, ⟨op, rd, rs1, rs2, imm⟩, pb, 3, nm, []⟩ a)) := by
  have HI := Lib.hid h
  have hal : Below w.heap.size w (w.alloc (.cells #[.int .i64 op, .int .i64 rd, .int .i64 rs1, .int .i64 rs2, .int .i64 imm, .string ⟨#[]⟩, .string ⟨#[]⟩, .string ⟨nm.toArray⟩, .string ⟨#[]⟩, .string ⟨#[]⟩, .slice BB pb.length cb, .bool true] 116)) := (Below.refl _ _).alloc (Nat.le_refl _) _
  have HBK := Lib.hid (Bk.fresh w 116 #[.int .i64 op, .int .i64 rd, .int .i64 rs1, .int .i64 rs2, .int .i64 imm, .string ⟨#[]⟩, .string ⟨#[]⟩, .string ⟨nm.toArray⟩, .string ⟨#[]⟩, .string ⟨#[]⟩, .slice BB pb.length cb, .bool true])
  have HAL := Lib.hid hal
  obtain ⟨Av, cv, rfl⟩ := h.rd.form
  have CF1 := Lib.hid (fun W (hW : Below w.heap.size w W) => rfind_any _ sy nm W (HI.out.rd.kept hW) HI.out.n)
  have CF2 := Lib.hid (fun W (hW : Below w.heap.size w W) => rfind_any _ sy [] W (HI.out.rd.kept hW) HI.out.n)
  have hN0 := As.nil_nil
  have hN1 := As.cat_nil nm
  have hN2 := As.nil_cat nm
  have hlen : ¬ 9223372036854775807 < nm.length := by have : nm.length ≤ 1000000000 := h.nm; omega
  have hne : (nm != ([] : List UInt8)) = true := by simpa using hnm
  have hne2 : (!nm == ([] : List UInt8)) = true := by simpa using hnm
  have he2 : nm.isEmpty = false := by simpa using hnm
  have hv32 := h.lk nm
  have HR := Lib.hid (show ∀ V, As.look sy nm = V → As.rword sy ⟨true, ⟨op, rd, rs1, rs2, imm⟩, pb, 3, nm, []⟩ a = (match V with | none => ([], 41) | some v => if (Is.enc ⟨op, rd, rs1, rs2, As.lo (As.s32 v)⟩).2 = 0 then (As.four (Is.enc ⟨op, rd, rs1, rs2, As.lo (As.s32 v)⟩).1.toNat, 0) else ([], 20)) from fun V hV => by
    unfold As.rword
    cases V <;> simp [hV, hnm, As.aim, As.imm])
  have ha32 := h.a
  clear h hal hnm
  replace HR := Lib.hid (HR.out _ rfl)
  generalize As.look sy nm = V at *
  generalize As.look sy [] = U at *
  obtain ⟨W1, hW1⟩ : ∃ W1, w.alloc (.cells #[.int .i64 op, .int .i64 rd, .int .i64 rs1, .int .i64 rs2, .int .i64 imm, .string ⟨#[]⟩, .string ⟨#[]⟩, .string ⟨nm.toArray⟩, .string ⟨#[]⟩, .string ⟨#[]⟩, .slice BB pb.length cb, .bool true] 116) = W1 := ⟨_, rfl⟩
  rw [hW1] at HBK HAL
  have b5 := HBK.out.cell 5
  have b6 := HBK.out.cell 6
  have b7 := HBK.out.cell 7
  have b8 := HBK.out.cell 8
  simp only [List.getElem?_toArray, List.getElem?_cons_zero, List.getElem?_cons_succ] at b5 b6 b7 b8
  go_enter Tryz.func49, Tryz.ntmps49
  go_wp2_with fail
  go_at_call 87
  refine (CF1.out _ HAL.out).mono ?_
  rintro e w2 ⟨rfl, hb2⟩
  have HB2 := Lib.hid (HAL.out.trans (hb2.mono HAL.out.size))
  have HK2 := Lib.hid (HBK.out.kept hb2)
  clear hb2 hW1 b5 b6 b7 b8
  have b9 := HK2.out.cell 9
  simp only [List.getElem?_toArray, List.getElem?_cons_zero, List.getElem?_cons_succ] at b9
  go_wp2_with fail
  go_at_call 87
  refine (CF2.out _ HB2.out).mono ?_
  rintro e w3 ⟨rfl, hb3⟩
  have HB3 := Lib.hid (HB2.out.trans (hb3.mono HB2.out.size))
  have HK3 := Lib.hid (HK2.out.kept hb3)
  clear hb3 b9
  have b0 := HK3.out.cell 0
  have b1 := HK3.out.cell 1
  have b2 := HK3.out.cell 2
  have b3 := HK3.out.cell 3
  have b4 := HK3.out.cell 4
  have b5 := HK3.out.cell 5
  have b6 := HK3.out.cell 6
  have b7 := HK3.out.cell 7
  have b8 := HK3.out.cell 8
  have b9 := HK3.out.cell 9
  have b10 := HK3.out.cell 10
  have b11 := HK3.out.cell 11
  simp only [List.getElem?_toArray, List.getElem?_cons_zero, List.getElem?_cons_succ] at b0 b1 b2 b3 b4 b5 b6 b7 b8 b9 b10 b11
  cases V with
  | none =>
    simp only [Option.getD_none, Option.isSome_none] at *
    have HRE := Lib.hid (show As.rword sy ⟨true, ⟨op, rd, rs1, rs2, imm⟩, pb, 3, nm, []⟩ a = ([], 41) from HR.out)
    go_wp2_with fail
    go_ret2
    rw [HRE.out]
    exact ⟨_, _, _, rfl, fun e => absurd e (by decide), HB3.out⟩
  | some v =>
    simp only [Option.getD_some, Option.isSome_some] at *
    have hs32 := As.s32_wrap v (by omega)
    have hsr := As.s32_rng v (by omega)
    have hs64 : IntKind.i64.wrap (As.s32 v) = As.s32 v := by rw [IntKind.wrap_i64]; omega
    have CH := Lib.hid (fun W => rhalves_any (As.s32 v) W (by omega) (by omega))
    have hbi := Bk.fresh w3 114 #[.int .i64 op, .int .i64 rd, .int .i64 rs1, .int .i64 rs2, .int .i64 imm]
    have hali : Below w3.heap.size w3 (w3.alloc (.cells #[.int .i64 op, .int .i64 rd, .int .i64 rs1, .int .i64 rs2, .int .i64 imm] 114)) := (Below.refl _ _).alloc (Nat.le_refl _) _
    have hk4 := HK3.out.kept hali
    have HB4 := Lib.hid (HB3.out.trans (hali.mono HB3.out.size))
    have hsz := HB3.out.size
    have hne9 : w3.heap.size ≠ w.heap.size := by have := HK3.out.lt; omega
    go_wp2_with fail
    obtain ⟨w4, hw4⟩ : ∃ w4, w3.alloc (.cells #[.int .i64 op, .int .i64 rd, .int .i64 rs1, .int .i64 rs2, .int .i64 imm] 114) = w4 := ⟨_, rfl⟩
    rw [hw4] at hbi hk4 HB4 ⊢
    clear hw4 hali b0 b1 b2 b3 b4 b5 b6 b7 b8 b9 b10 b11
    generalize w3.heap.size = gi at *
    have i0 := hbi.cell 0
    have i1 := hbi.cell 1
    have i2 := hbi.cell 2
    have i3 := hbi.cell 3
    have i4 := hbi.cell 4
    have fi := hbi.free 4
    have b5 := hk4.cell 5
    have b6 := hk4.cell 6
    have b7 := hk4.cell 7
    simp only [List.getElem?_toArray, List.getElem?_cons_zero, List.getElem?_cons_succ] at i0 i1 i2 i3 i4 b5 b6 b7
    have HBI := Lib.hid hbi
    have HK4 := Lib.hid hk4
    clear hbi hk4
    go_at_call 95
    refine (CH.out _).mono ?_
    rintro e w' ⟨rfl, rfl⟩
    have hk5 := HBI.out.set 4 (.int .i64 (As.lo (As.s32 v)))
    have hp5 := (But.setCell w4 gi 4 (.int .i64 (As.lo (As.s32 v)))).bk HK4.out (Ne.symm hne9)
    have HB5 := Lib.hid (show Below w.heap.size w (w4.setCell ⟨gi, 4, none⟩ (.int .i64 (As.lo (As.s32 v)))) from HB4.out.trans ((But.setCell w4 gi 4 (.int .i64 (As.lo (As.s32 v)))).below hsz HB4.out.size))
    have j0 := hk5.cell 0
    have j1 := hk5.cell 1
    have j2 := hk5.cell 2
    have j3 := hk5.cell 3
    have j4 := hk5.cell 4
    have q5 := hp5.cell 5
    have q6 := hp5.cell 6
    have q7 := hp5.cell 7
    simp at j0 j1 j2 j3 j4
    simp only [List.getElem?_toArray, List.getElem?_cons_zero, List.getElem?_cons_succ] at q5 q6 q7
    clear hk5 hp5
    go_upto_region 20 with fail
    obtain ⟨w5, hw5⟩ : ∃ w5, w4.setCell ⟨gi, 4, none⟩ (.int .i64 (As.lo (As.s32 v))) = w5 := ⟨_, rfl⟩
    rw [hw5] at HB5 j0 j1 j2 j3 j4 q5 q6 q7 ⊢
    clear hw5 i0 i1 i2 i3 i4 b5 b6 b7 HB4
    have CE := Lib.hid (fun W => enc_ref ⟨op, rd, rs1, rs2, As.lo (As.s32 v)⟩ W)
    have HER := Lib.hid (As.enc_rng ⟨op, rd, rs1, rs2, As.lo (As.s32 v)⟩)
    have HE2 := Lib.hid (As.enc_err ⟨op, rd, rs1, rs2, As.lo (As.s32 v)⟩)
    generalize Is.enc ⟨op, rd, rs1, rs2, As.lo (As.s32 v)⟩ = EE at *
    obtain ⟨ex, ee⟩ := EE
    dsimp only at *
    have HWL := Lib.hid (show w.heap.size < w5.heap.size from World.lt_of_cell q5)
    go_wp2_with fail
    go_at_call 96
    refine (CE.out _).mono ?_
    rintro e w6 ⟨rfl, hb6⟩
    have HB6 := Lib.hid (HB5.out.trans (hb6.mono HB5.out.size))
    have r5 := (hb6.cell (p := ⟨w.heap.size, 5, none⟩) HWL.out).trans q5
    clear hb6 q5 j0 j1 j2 j3 j4 q6 q7
    rcases HE2.out with he | he
    · subst he
      have HR := Lib.hid (HR.out.trans (if_pos rfl))
      go_wp2_with fail
      go_at_call 94
      refine (As.rfour_int w6 _ HER.out.1 HER.out.2).mono ?_
      rintro e w9 ⟨rfl, hw9⟩
      have hr9 : As.RdB1 B w9 (.slice (some ⟨w6.heap.size, 0, none⟩) 4 4) (As.four (ex.toNat)) := by rw [hw9]; exact As.RdB1.fresh w6 _ (by unfold maxLen; simp [As.four]) _ (Nat.le_trans HI.out.B HB6.out.size)
      have hb9 : Below w.heap.size w w9 := by rw [hw9]; exact HB6.out.alloc HB6.out.size _
      have HR9 := Lib.hid hr9
      have HB9 := Lib.hid hb9
      clear hw9 hr9 hb9
      go_wp2_with fail
      go_ret2
      rw [HR.out]
      exact ⟨_, _, _, rfl, fun _ => HR9.out, HB9.out⟩
    · subst he
      have HR := Lib.hid (show As.rword sy ⟨true, ⟨op, rd, rs1, rs2, imm⟩, pb, 3, nm, []⟩ a = ([], 20) from by have h := HR.out; (try dsimp only at h); rw [if_neg (by decide)] at h; exact h)
      go_wp2_with fail
      go_at_call 94
      refine (As.rfour_int w6 _ HER.out.1 HER.out.2).mono ?_
      rintro e w9 ⟨rfl, hw9⟩
      have hr9 : As.RdB1 B w9 (.slice (some ⟨w6.heap.size, 0, none⟩) 4 4) (As.four (ex.toNat)) := by rw [hw9]; exact As.RdB1.fresh w6 _ (by unfold maxLen; simp [As.four]) _ (Nat.le_trans HI.out.B HB6.out.size)
      have hb9 : Below w.heap.size w w9 := by rw [hw9]; exact HB6.out.alloc HB6.out.size _
      have HR9 := Lib.hid hr9
      have HB9 := Lib.hid hb9
      clear hw9 hr9 hb9
      go_wp2_with fail
      go_ret2
      rw [HR.out]
      exact ⟨_, _, _, rfl, fun e => absurd e (by decide), HB9.out⟩
end Go.Proofs.YtpcpaoeajcjoiaaGreatDoor
/- Layer 7: the document's Assemble. -/
namespace Go.Proofs.YtpcpaoeajcjoiaaGreatDoor
open Go.RowKit Kit
set_option linter.unusedVariables false
set_option linter.unusedSimpArgs false

theorem rword_any {B : Nat} {w : World} {vs : Value} {sy : List (List UInt8 × Nat)} (p : As.P) (vb : Value) (a : Nat) (h : As.RWIn B w vs sy p vb a) (hk : As.Kd p) :
    Calls Tryz.prog 49 #[.agg (As.rcells p vb).toArray, .int .u32 (a : Int), vs] w (As.RWPost B w (As.rword sy p a)) := by
  obtain ⟨BB, cb, rfl⟩ := h.vb.1.form
  obtain ⟨code, ⟨op, rd, rs1, rs2, imm⟩, pb, k, nm, sr⟩ := p
  obtain ⟨h1, h2, h3, h4, h5, h6⟩ := hk
  dsimp only at h1 h2 h3 h4 h5 h6 h ⊢
  cases code
  · rcases h6 rfl with hk | hk | hk
    · subst hk
      have e1 := h1 rfl
      have e2 := h4 (by decide)
      subst e1 e2
      exact rword_0_0 op rd rs1 rs2 imm pb BB cb a h
    · subst hk
      have e1 := h2 (by decide)
      have e2 := h4 (by decide)
      subst e2
      exact rword_0_4 op rd rs1 rs2 imm pb nm BB cb a h e1
    · subst hk
      exact rword_0_5 op rd rs1 rs2 imm pb nm sr BB cb a h (h2 (by decide)) (h3 rfl)
  · obtain ⟨hk3, hb⟩ := h5 rfl
    have hk : k = 0 ∨ k = 1 ∨ k = 2 ∨ k = 3 := by omega
    rcases hk with hk | hk | hk | hk
    · subst hk
      have e1 := h1 rfl
      have e2 := h4 (by decide)
      subst e1 e2
      exact rword_1_0 op rd rs1 rs2 imm pb BB cb a h
    · subst hk
      have e1 := h2 (by decide)
      have e2 := h4 (by decide)
      subst e2
      exact rword_1_1 op rd rs1 rs2 imm pb nm BB cb a h e1
    · subst hk
      have e1 := h2 (by decide)
      have e2 := h4 (by decide)
      subst e2
      exact rword_1_2 op rd rs1 rs2 imm pb nm BB cb a h e1
    · subst hk
      have e1 := h2 (by decide)
      have e2 := h4 (by decide)
      subst e2
      exact rword_1_3 op rd rs1 rs2 imm pb nm BB cb a h e1
theorem results_tmp4 {fn : Func} {t u v x : Tmp} (h : fn.results = #[.tmp t, .tmp u, .tmp v, .tmp x]) (tmps : Array Value) (P : Program) (w : World) :
    (results fn tmps).run P w = .ok (.tuple #[tmps.getD t undef, tmps.getD u undef, tmps.getD v undef, tmps.getD x undef]) w := by
  simp [results, h]
theorem As.rpieces_wf {l : L6.Line} {a : Nat} {p : List As.P} (e : As.rpieces l a = some p) : As.WfL p := by
  unfold As.rpieces at e
  cases hp : As.pieces l a with
  | none => rw [hp] at e; cases e
  | some r =>
    rw [hp] at e
    dsimp only at e
    injection e with e
    subst e
    split
    · exact As.pieces_wf hp
    · unfold As.join
      split
      · exact fun q hq => by rw [List.mem_singleton.1 hq]; exact As.Wf.raw _
      · exact As.pieces_wf hp
/-- What the document's Assemble hands back. -/
def As.RAsmPost (w : World) (r : As.O) (e : Ending) (w' : World) : Prop :=
  ∃ vb vs, e = .returned (.tuple #[vb, vs, .int .i64 (r.line : Int), .int .i64 (r.err : Int)]) ∧ Rd w' 1 vb r.bytes.length (bv r.bytes) ∧ Rd w' 2 vs r.syms.length (As.symC r.syms) ∧ Below w.heap.size w w'
theorem As.RAsmPost.bad {w w' : World} {r : As.O} {n er : Nat} {i j : Int} (h : r = ⟨[], [], n, er⟩) (hi : i = n) (hj : j = er) (hb : Below w.heap.size w w') : As.RAsmPost w r (.returned (.tuple #[.slice none 0 0, .slice none 0 0, .int .i64 i, .int .i64 j])) w' := by
  subst h hi hj
  exact ⟨_, _, rfl, Rd.nil _ _, Rd.nil _ _, hb⟩
/-- Where the inner loop stands. -/
structure As.RIn2 (w w5 wr : World) (NB : Nat) (out vs : Value) (a : Nat) (sy : List (List UInt8 × Nat)) (ps : List As.P) (bs : List UInt8) (m : Nat) (bm : List UInt8) : Prop where
  le : m ≤ ps.length
  puts : As.puts sy a ps bs = As.puts sy a (ps.drop m) bm
  len : bm.length = bs.length + As.size (ps.take m)
  row : wr.ownsRow w.heap.size 5 1 out bm.length (bv bm)
  blk : ∀ k, out.ownBlock = some k → k < NB ∨ w5.heap.size ≤ k
  sym : wr.ownsRow w.heap.size 117 2 vs sy.length (As.symC sy)
  below : Below w.heap.size w wr
  fr : Fr (fun k => k < NB) w5 wr
theorem As.rass_first {ls : List L6.Line} {a : Nat} {sy : List (List UInt8 × Nat)} (h : (if 32768 < ls.length ∨ a % 4 ≠ 0 then (.bad 0 6 : As.R (List (List UInt8 × Nat))) else As.rfirst a 0 0 [] ls) = .ok sy) :
    ls.length ≤ 32768 ∧ As.first a 0 0 [] ls = .ok sy ∧ As.rassemble ls a = (match As.rsecond sy a 0 [] ls with | .bad n e => ⟨[], [], n, e⟩ | .ok b => ⟨b, sy, 0, 0⟩) := by
  by_cases hc : 32768 < ls.length ∨ a % 4 ≠ 0
  · rw [if_pos hc] at h; cases h
  · rw [if_neg hc] at h
    refine ⟨by omega, by rw [← As.rfirst_eq]; exact h, ?_⟩
    unfold As.rassemble
    rw [if_neg hc, h]
    rfl
theorem As.rass_bad {ls : List L6.Line} {a n er : Nat} (h : (if 32768 < ls.length ∨ a % 4 ≠ 0 then (.bad 0 6 : As.R (List (List UInt8 × Nat))) else As.rfirst a 0 0 [] ls) = .bad n er) : As.rassemble ls a = ⟨[], [], n, er⟩ ∧ er ≠ 0 := by
  by_cases hc : 32768 < ls.length ∨ a % 4 ≠ 0
  · rw [if_pos hc] at h
    injection h with h1 h2
    subst h1 h2
    unfold As.rassemble
    rw [if_pos hc]
    exact ⟨rfl, by decide⟩
  · rw [if_neg hc] at h
    unfold As.rassemble
    rw [if_neg hc, h]
    refine ⟨rfl, fun e => ?_⟩
    subst e
    rw [As.rfirst_eq] at h
    exact As.first_err h
set_option maxRecDepth 100000 in
set_option maxHeartbeats 16000000 in
theorem rassemble_any {w : World} {vl : Value} {ls : List L6.Line} {a : Nat} (hL : RdL w vl ls) (hls : ls.length ≤ 1000000000) (hx : ∀ x ∈ ls, As.RLOk x) (ha : a < 4294967296) :
    Calls Tryz.prog 13 #[vl, .int .u32 (a : Int)] w (As.RAsmPost w (As.rassemble ls a)) := by
  have CFI := rfirst_any hL hls hx ha
  have HL := Lib.hid hL
  have HX := Lib.hid hx
  obtain ⟨A, c, rfl⟩ := hL.form
  cases hfr : (if 32768 < ls.length ∨ a % 4 ≠ 0 then (.bad 0 6 : As.R (List (List UInt8 × Nat))) else As.rfirst a 0 0 [] ls) with
  | bad n er =>
    rw [hfr] at CFI
    have HF := Lib.hid CFI
    have HP := Lib.hid (As.rass_bad hfr).1
    have hne : (((er : Nat) : Int) != 0) = true := by have := (As.rass_bad hfr).2; rw [bne_iff_ne]; omega
    clear CFI hL hls hx hfr
    go_enter Tryz.func13, Tryz.ntmps13
    go_wp2_with fail
    go_at_call 47
    refine HF.out.mono ?_
    rintro e w1 ⟨rfl, hb1⟩
    have HB1 := Lib.hid hb1
    clear hb1
    go_wp2_with fail
    (try simp only [Exit.inBlock, Exit.then]); refine bodyPost_ret (results_tmp4 rfl _ _ _) rfl ?_
    exact As.RAsmPost.bad HP.out rfl rfl HB1.out
  | ok sy =>
    rw [hfr] at CFI
    have HF := Lib.hid CFI
    obtain ⟨hl1, hfi, hra⟩ := As.rass_first hfr
    have HLOW := Lib.hid (As.first_low (fun p hp => by cases hp) hfi)
    have HCN := Lib.hid (show sy.length ≤ 5000000000 from by have h1 := As.first_cnt (fun x h => (HX.out x h).l.ll) hfi; simp at h1; omega)
    have HFI := Lib.hid hfi
    have HRA := Lib.hid hra
    have HLL := Lib.hid hl1
    clear CFI hL hls hx hfr hl1 hfi hra
    go_enter Tryz.func13, Tryz.ntmps13
    go_wp2_with fail
    go_at_call 47
    refine HF.out.mono ?_
    rintro e w1 ⟨vs, rfl, hs1, hb1⟩
    have HS1 := Lib.hid hs1
    have HB1 := Lib.hid hb1
    have HAA := Lib.hid (show ((a : Nat) : Int) = ((As.at32 (a + 0) : Nat) : Int) from by unfold As.at32; omega)
    obtain ⟨As1, cs1, rfl⟩ := (Rd.of_own hs1).form
    clear hs1 hb1
    go_wp2_with fail
    go_loopw [11, 12, 13] (fun out pl i wr => ∃ (k : Nat) (bs : List UInt8) (syk : List (List UInt8 × Nat)), i = .int .i64 (k : Int) ∧ pl = .int .u32 ((As.at32 (a + bs.length) : Nat) : Int) ∧ k ≤ ls.length ∧ bs.length ≤ 131072 ∧ As.first a k bs.length syk (ls.drop k) = .ok sy ∧ As.rsecond sy a 0 [] ls = As.rsecond sy a k bs (ls.drop k) ∧ wr.ownsRow w.heap.size 5 1 out bs.length (bv bs) ∧ wr.ownsRow w.heap.size 117 2 (.slice As1 sy.length cs1) sy.length (As.symC sy) ∧ Below w.heap.size w wr) (fun _ _ i _ => ls.length - (intOf i).toNat)
    case atStart => exact ⟨0, [], [], rfl, by rw [HAA.out]; rfl, Nat.zero_le _, Nat.zero_le _, HFI.out, rfl, World.ownsRow_nil _ _ _ _, HS1.out, HB1.out⟩
    case round =>
      obtain ⟨k, bs, syk, rfl, rfl, hk, hbs, hfk, hsk, ho, hsym, hb⟩ := hrel
      have HFK := Lib.hid hfk
      have HS := Lib.hid hsk
      have HO := Lib.hid ho
      have HSYM := Lib.hid hsym
      have HB := Lib.hid hb
      have HBS := Lib.hid hbs
      obtain ⟨Ao, co, rfl⟩ := (Rd.of_own ho).form
      clear hfk hsk ho hsym hb hbs
      by_cases hlt : k < ls.length
      · have hlt' : (k : Int) < (ls.length : Int) := by omega
        have hw1 : IntKind.i64.wrap ((k : Int) + 1) = (k : Int) + 1 := by have := HLL.out; rw [IntKind.wrap_i64]; omega
        have HDR := Lib.hid (show As.rsecond sy a 0 [] ls = As.rsecond sy a k bs (ls[k] :: ls.drop (k + 1)) from by rw [HS.out, As.drop_cons hlt])
        have hf := HFK.out
        rw [As.drop_cons hlt] at hf
        obtain ⟨sy1, ps0, hla, hps0, hsz0, hfn0⟩ := As.first_step hf
        obtain ⟨hr0, hrp⟩ := As.rpieces_of (l := ls[k]) (a := As.at32 (a + bs.length))
        obtain ⟨ps, hps, hsz1, hr1, hr2⟩ := hrp ps0 hps0
        have HSZ := Lib.hid (show bs.length + As.size ps ≤ 131072 from by rw [hsz1]; exact hsz0)
        have HFN := Lib.hid (show As.first a (k + 1) (bs.length + As.size ps) sy1 (ls.drop (k + 1)) = .ok sy from by rw [hsz1]; exact hfn0)
        obtain ⟨g, off, c', va1, va2, e, hg, d0, d1, d2, r1, r2⟩ := HL.out.at hlt
        injection e with e1 e2 e3
        subst e1 e3
        have HLT := Lib.hid (show k + 1 ≤ ls.length from hlt)
        have HXK := Lib.hid (HX.out _ (List.getElem_mem hlt))
        clear hf hla hsz0 hfn0 hrp hps0 hsz1 hr0 hr1 hr2
        clear ps0
        generalize ls[k] = X at *
        clear hlt hk
        obtain ⟨xl, xw, xa⟩ := X
        obtain ⟨B1, cc1, rfl⟩ := r1.form
        obtain ⟨B2, cc2, rfl⟩ := r2.form
        dsimp only at d0 d1 d2 r1 r2
        have HSE := Lib.hid (show As.rsecond sy a k bs (⟨xl, xw, xa⟩ :: ls.drop (k + 1)) = if (As.puts sy a ps bs).2 = 0 then As.rsecond sy a (k + 1) (As.puts sy a ps bs).1 (ls.drop (k + 1)) else .bad (k + 1) (As.puts sy a ps bs).2 from by
          conv => lhs; unfold As.rsecond
          rw [hps]
          rfl)
        have q0 : wr.cell? ⟨g, off + k * 3, none⟩ = some (.slice B1 xl.length cc1) := (HB.out.cell (p := ⟨g, _, none⟩) hg).trans d0
        have q1 : wr.cell? ⟨g, off + k * 3 + 1, none⟩ = some (.string ⟨xw.toArray⟩) := (HB.out.cell (p := ⟨g, _, none⟩) hg).trans d1
        have q2 : wr.cell? ⟨g, off + k * 3 + 2, none⟩ = some (.slice B2 xa.length cc2) := (HB.out.cell (p := ⟨g, _, none⟩) hg).trans d2
        have HR2 := Lib.hid r2
        have HT32 := Lib.hid (show As.at32 (a + bs.length) < 4294967296 from by unfold As.at32; omega)
        have HOK := Lib.hid (As.rpieces_ok HXK.out.l.sa HXK.out.l.al hps)
        have HWF := Lib.hid (As.rpieces_wf hps)
        have HKD := Lib.hid (As.rpieces_kd hps)
        have HCN2 := Lib.hid (show ps.length ≤ 1000002 from by have := HOK.out.2; have h2 := HXK.out.l.al; dsimp only at this h2; omega)
        have CP := Lib.hid (rpieces_any (.slice B1 xl.length cc1) (.slice B2 xa.length cc2) ⟨xl, xw, xa⟩ (As.at32 (a + bs.length)) wr (r2.kept HB.out) ⟨_, _, _, rfl⟩ (by have := HXK.out.l.al; dsimp only at this ⊢; omega) HXK.out.l.sa (by have := HXK.out.w; dsimp only at this ⊢; unfold maxLen; omega) HT32.out)
        rw [hps] at CP
        clear d0 d1 d2 r1 r2 hps
        generalize hT32 : As.at32 (a + bs.length) = T at *
        go_wp2_with fail
        go_at_call 48
        refine CP.out.mono ?_
        rintro e w5 ⟨v5, rfl, hr5, hb5⟩
        have HR5 := Lib.hid hr5
        have HB5 := Lib.hid (show Below w.heap.size w w5 from HB.out.trans (hb5.mono HB.out.size))
        have HO5 := Lib.hid (own_kept HO.out hb5)
        have HSY5 := Lib.hid (own_kept HSYM.out hb5)
        have HNB := Lib.hid (show wr.heap.size ≤ w5.heap.size from hb5.size)
        have HNB0 := Lib.hid (show w.heap.size ≤ wr.heap.size from HB.out.size)
        have HVB := Lib.hid (fun k (hk : (Value.slice Ao bs.length co).ownBlock = some k) => own_lt' HO.out hk)
        obtain ⟨A5, c5, rfl⟩ := hr5.form
        have HT := Lib.hid hT32
        clear hr5 hb5 q0 q1 q2 hT32
        generalize wr.heap.size = NB at *
        go_wp2_with fail
        go_loopw [11, 12, 16] (fun out pl j wr => ∃ (m : Nat) (bm : List UInt8), j = .int .i64 (m : Int) ∧ pl = .int .u32 ((As.at32 (a + bm.length) : Nat) : Int) ∧ As.RIn2 w w5 wr NB out (.slice As1 sy.length cs1) a sy ps bs m bm) (fun _ _ j _ => ps.length - (intOf j).toNat)
        case atStart => exact ⟨0, bs, rfl, by rw [HT.out], ⟨Nat.zero_le _, rfl, by simp [As.size], HO5.out, fun k hk => .inl (HVB.out k hk), HSY5.out, HB5.out, Fr.refl _ _⟩⟩
        case round =>
          obtain ⟨m, bm, rfl, rfl, hin⟩ := hrel
          have HIN := Lib.hid hin
          obtain ⟨Ab, cb, rfl⟩ := (Rd.of_own hin.row).form
          have hmle := hin.le
          clear hin
          by_cases hlm : m < ps.length
          · have hlm' : (m : Int) < (ps.length : Int) := by omega
            have hw2 : IntKind.i64.wrap ((m : Int) + 1) = (m : Int) + 1 := by have := HCN2.out; rw [IntKind.wrap_i64]; omega
            have HLM := Lib.hid (show m + 1 ≤ ps.length from hlm)
            have hrp : As.RdQ NB wr (.slice A5 ps.length c5) ps := HR5.out.fr HIN.out.fr (fun k h1 h2 => by omega)
            obtain ⟨g5, o5, c5', vbp, h5, hg5, hx2, hcs, hrd⟩ := hrp.at hlm
            injection h5 with h51 h52 h53
            subst h51 h53
            have HOKP := Lib.hid (HOK.out.1 _ (List.getElem_mem hlm))
            have HWFP := Lib.hid (HWF.out _ (List.getElem_mem hlm))
            have HKDP := Lib.hid (HKD.out _ (List.getElem_mem hlm))
            have HTAKE := Lib.hid (As.size_take hlm)
            have HBML := Lib.hid (show bm.length ≤ 2000000000 from by
              have h1 := HIN.out.len
              have h2 := As.size_take_le ps m
              have h3 := HSZ.out
              omega)
            have HPUTS := Lib.hid (show As.puts sy a ps bs = As.puts sy a (ps[m] :: ps.drop (m + 1)) bm from HIN.out.puts.trans (congrArg (fun l => As.puts sy a l bm) (As.drop_cons hlm)))
            obtain ⟨BB, cbb, rfl⟩ := hrd.1.form
            have HCS := Lib.hid hcs
            clear hcs hx2 hrp
            generalize ps[m] = p at *
            clear hlm hmle
            have HPL := Lib.hid (fun (h : (As.piece sy p (As.at32 (a + bm.length))).2 = 0) => As.piece_len HWFP.out h)
            have HPU := Lib.hid (show As.puts sy a (p :: ps.drop (m + 1)) bm = if (As.piece sy p (As.at32 (a + bm.length))).2 = 0 then As.puts sy a (ps.drop (m + 1)) (bm ++ (As.piece sy p (As.at32 (a + bm.length))).1) else (bm, (As.piece sy p (As.at32 (a + bm.length))).2) from rfl)
            have CPC := rword_any p (.slice BB p.bytes.length cbb) (As.at32 (a + bm.length)) (show As.RWIn w.heap.size wr (.slice As1 sy.length cs1) sy p (.slice BB p.bytes.length cbb) (As.at32 (a + bm.length)) from ⟨Rd.of_own HIN.out.sym, HCN.out, HLOW.out, ⟨hrd.1, fun g off n c e hn => Nat.le_trans HNB0.out (hrd.2 g off n c e hn)⟩, HIN.out.below.size, HOKP.out.inst, HOKP.out.name, HOKP.out.src, by unfold As.at32; omega⟩) HKDP.out
            rw [As.rword_eq sy p _ HKDP.out] at CPC
            unfold As.rcells at CPC
            have CPC := Lib.hid CPC
            clear hrd
            have HPLA := Lib.hid (show ∀ n : Nat, IntKind.u32.wrap (((As.at32 (a + bm.length) : Nat) : Int) + IntKind.u32.wrap (n : Int)) = ((As.at32 (a + (bm.length + n)) : Nat) : Int) ∧ IntKind.u32.wrap (((As.at32 (a + bm.length) : Nat) : Int) + (n : Int) % 4294967296) = ((As.at32 (a + (bm.length + n)) : Nat) : Int) from fun n => by unfold As.at32; simp only [IntKind.wrap_u32]; omega)
            obtain ⟨pc, ⟨op, rd, rs1, rs2, imm⟩, pb, pk, pn, pf⟩ := p
            dsimp only at CPC
            have q0 := HCS.out 0 (by decide)
            have q1 := HCS.out 1 (by decide)
            have q2 := HCS.out 2 (by decide)
            have q3 := HCS.out 3 (by decide)
            have q4 := HCS.out 4 (by decide)
            have q5 := HCS.out 5 (by decide)
            have q6 := HCS.out 6 (by decide)
            have q7 := HCS.out 7 (by decide)
            have q8 := HCS.out 8 (by decide)
            have q9 := HCS.out 9 (by decide)
            have q10 := HCS.out 10 (by decide)
            have q11 := HCS.out 11 (by decide)
            simp only [As.rcells, List.getElem?_cons_zero, List.getElem?_cons_succ, Nat.add_zero] at q0 q1 q2 q3 q4 q5 q6 q7 q8 q9 q10 q11
            generalize hP : As.piece sy ⟨pc, ⟨op, rd, rs1, rs2, imm⟩, pb, pk, pn, pf⟩ (As.at32 (a + bm.length)) = PR at *
            generalize hTB : As.at32 (a + bm.length) = TB at *
            obtain ⟨nb, er⟩ := PR
            dsimp only at HPL HPU
            go_wp2_with fail
            go_at_call 49
            refine CPC.out.mono ?_
            rintro e w6 ⟨An, nn, cn, rfl, hrn, hb6⟩
            have HB6 := Lib.hid (show Below wr.heap.size wr w6 from hb6)
            have HRN := Lib.hid hrn
            clear hrn hb6 q0 q1 q2 q3 q4 q5 q6 q7 q8 q9 q10 q11
            dsimp only
            by_cases her : er = 0
            · subst her
              have HNX := Lib.hid (show As.puts sy a ps bs = As.puts sy a (ps.drop (m + 1)) (bm ++ nb) from by rw [HPUTS.out, HPU.out, if_pos rfl])
              have HNL := Lib.hid (HPL.out rfl)
              have hrd9 := HRN.out rfl
              obtain ⟨An', cn', hvn⟩ := hrd9.1.form
              injection hvn with hv1 hv2 hv3
              subst hv1 hv2 hv3
              have HZ1 := Lib.hid (own_kept HIN.out.row HB6.out)
              have HS1 := Lib.hid (Rd.src abyt hrd9.1 (bv_one nb))
              have HLA1 := Lib.hid (show (bm.length + nb.length) * 1 ≤ 140737488355328 ∧ bm.length + nb.length ≤ maxLen from by
                have h1 := HBML.out
                have h2 := HNL.out
                have h3 := HOKP.out.bytes
                unfold As.size1 at h2
                dsimp only at h2 h3
                unfold maxLen
                split at h2 <;> omega)
              have HBW := Lib.hid (show Below w.heap.size w w6 from HIN.out.below.trans (HB6.out.mono HIN.out.below.size))
              have HSY6 := Lib.hid (own_kept HIN.out.sym HB6.out)
              have hpl1 := (HPLA.out nb.length).1
              have hpl2 := (HPLA.out nb.length).2
              clear hrd9
              go_wp2_with (at_builtin; refine wpList_appendRB rfl _ _ _ _ rfl abyt (by decide) w.heap.size (.slice Ab bm.length cb) rfl bm.length (bv bm) HZ1.out _ rfl nb.length (bv nb) HS1.out HLA1.out.1 HLA1.out.2 HBW.out.size ?_; intro v7 w7 ho7 hb7 hg7 hv7; obtain ⟨A7, c7, rfl⟩ := (Rd.of_own ho7).form; have HO7 := Lib.hid ho7; have HB7 := Lib.hid hb7; have HG7 := Lib.hid hg7; have HV7 := Lib.hid hv7; clear ho7 hb7 hg7 hv7)
              go_roundw
              case rel =>
                refine ⟨m + 1, bm ++ nb, by simp, by rw [List.length_append], ⟨HLM.out, HNX.out, ?_, by rw [List.length_append, bv_snoc]; exact HO7.out, fun k hk => ?_, own_other (by decide) HZ1.out HG7.out HSY6.out, HBW.out.trans HB7.out, ?_⟩⟩
                · rw [List.length_append, HTAKE.out, HIN.out.len, HNL.out]; omega
                · rcases HV7.out k hk with h | h
                  · exact HIN.out.blk k h
                  · exact .inr (Nat.le_trans (Nat.le_trans HIN.out.fr.size HB6.out.size) h)
                · refine (HIN.out.fr.trans (Fr.of_below (F := fun _ => False) HB6.out) (fun k hk => hk.elim)).trans (Fr.of_grown (F := fun k => (Value.slice Ab bm.length cb).ownBlock = some k) HG7.out (fun k e => e)) (fun k hk => ?_)
                  exact HIN.out.blk k hk
              case measure => have := HLM.out; simp [intOf]; omega
            · have hne : (((er : Nat) : Int) != 0) = true := by rw [bne_iff_ne]; omega
              have HBAD := Lib.hid (show As.rassemble ls a = ⟨[], [], k + 1, er⟩ from by
                rw [HRA.out, HDR.out, HSE.out, HPUTS.out, HPU.out, if_neg her]
                dsimp only
                rw [if_neg her])
              go_wp2_with fail
              (try simp only [Exit.inBlock, Exit.then]); refine bodyPost_ret (results_tmp4 rfl _ _ _) rfl ?_
              exact As.RAsmPost.bad HBAD.out (by simp) rfl (HIN.out.below.trans (HB6.out.mono HIN.out.below.size))
          · obtain rfl : m = ps.length := by omega
            have hpu := HIN.out.puts
            rw [List.drop_length] at hpu
            have HPE := Lib.hid (show As.puts sy a ps bs = (bm, 0) from hpu)
            have hln := HIN.out.len
            rw [List.take_length] at hln
            have HLN := Lib.hid hln
            have HGO := Lib.hid (show As.rsecond sy a 0 [] ls = As.rsecond sy a (k + 1) bm (ls.drop (k + 1)) from by rw [HDR.out, HSE.out, HPE.out, if_pos rfl])
            clear hpu hln
            go_wp2_with fail
            go_roundw
            case rel => exact ⟨k + 1, bm, sy1, by simp, rfl, HLT.out, by rw [HLN.out]; exact HSZ.out, by rw [HLN.out]; exact HFN.out, HGO.out, HIN.out.row, HIN.out.sym, HIN.out.below⟩
            case measure => have := HLT.out; simp [intOf]; omega
      · obtain rfl : k = ls.length := by omega
        have HEND := Lib.hid (show As.rassemble ls a = ⟨bs, sy, 0, 0⟩ from by rw [HRA.out, HS.out, List.drop_length]; rfl)
        go_wp2_with fail
        (try simp only [Exit.inBlock, Exit.then]); refine bodyPost_ret (results_tmp4 rfl _ _ _) rfl ?_
        rw [HEND.out]
        exact ⟨_, _, rfl, Rd.of_own HO.out, Rd.of_own HSYM.out, HB.out⟩
end Go.Proofs.YtpcpaoeajcjoiaaGreatDoor
