/- Texts joined, what is not reached left out. -/
import Derived.Test.YtpcpaoeajcjoiaaGreatDoorMF
import Derived.Test.YtpcpaoeajcjoiaaGreatDoorQL6Parse
import Derived.Test.YtpcpaoeajcjoiaaGreatDoorLZ
import Derived.Test.YtpcpaoeajcjoiaaGreatDoorMK
import Derived.Test.YtpcpaoeajcjoiaaGreatDoorQL6OwnC
import Derived.Test.YtpcpaoeajcjoiaaGreatDoorLT
import Derived.Test.YtpcpaoeajcjoiaaGreatDoorQL6Tab
/- Layer 7: a text assembled; what must come. -/
namespace Go.Proofs.YtpcpaoeajcjoiaaGreatDoor
open Go.RowKit Kit
set_option linter.unusedVariables false
set_option linter.unusedSimpArgs false

theorem anum7_any (n : Int) (w : World) : Calls Tryz.prog 15 #[.int .i64 n] w fun e w' => e = .returned (.int .i64 n) ∧ w = w' := by
  go_enter Tryz.func15, Tryz.ntmps15
  go_wp2
  go_ret
  exact ⟨rfl, rfl⟩
/-- Bytes that are read, as a text. -/
theorem As.str_of {w : World} {v : Value} {b : List UInt8} (h : Rd w 1 v b.length (bv b)) : (convert 26 9 v).run Tryz.prog w = .ok (.string ⟨b.toArray⟩) w := by
  obtain ⟨_, A, c, rfl, _, _, h4⟩ := h
  cases b with
  | nil =>
    cases A with
    | none => exact run_convert_bytes_nil (w := w) 26 5 Tryz.underlying26 Tryz.underlying5 0 c 9 Tryz.underlying9
    | some a => exact run_convert_bytes_back w 26 9 5 a c [] Tryz.underlying26 Tryz.underlying5 Tryz.underlying9 fun j hj => by simp at hj
  | cons x t =>
    obtain ⟨g, off, rfl, hg, hc⟩ := h4 (by simp)
    refine run_convert_bytes_back w 26 9 5 ⟨g, off, none⟩ c (x :: t) Tryz.underlying26 Tryz.underlying5 Tryz.underlying9 fun j hj => ?_
    rw [addr_add]
    exact hc j _ (by simp only [bv, List.getElem?_map, List.getElem?_eq_getElem hj, Option.map_some])
/-- What Source hands back. -/
def As.SrcPost (w : World) (r : As.O) (e : Ending) (w' : World) : Prop :=
  ∃ vb vs, e = .returned (.tuple #[.agg #[vb, vs], .bool (decide (r.err = 0))]) ∧ Rd w' 1 vb r.bytes.length (bv r.bytes) ∧ Rd w' 2 vs r.syms.length (As.symC r.syms) ∧ As.From w.heap.size vb ∧ As.From w.heap.size vs ∧ Below w.heap.size w w'
set_option maxRecDepth 100000 in
set_option maxHeartbeats 8000000 in
theorem asource_any {w : World} (s : List UInt8) (a : Nat) (ls : List L6.Line) (hT : L6.Tab w) (hs : s.length ≤ 1000000000) (hp : L6.parse s = (ls, 0, 0)) (hls : ls.length ≤ 1000000000) (hx : ∀ x ∈ ls, As.LOk x) (ha : a < 4294967296) :
    Calls Tryz.prog 43 #[.string ⟨s.toArray⟩, .int .u32 (a : Int)] w (As.SrcPost w (As.assemble ls a)) := by
  have hbk := Bk.fresh w 29 #[.slice none 0 0, .slice none 0 0]
  have hal : Below w.heap.size w (w.alloc (.cells #[.slice none 0 0, .slice none 0 0] 29)) := (Below.refl _ _).alloc (Nat.le_refl _) _
  obtain ⟨w1, hw1⟩ : ∃ w1, w.alloc (.cells #[.slice none 0 0, .slice none 0 0] 29) = w1 := ⟨_, rfl⟩
  rw [hw1] at hbk hal
  have hT1 := hT.kept hal
  have CP := lparse_any s w1 hs
  unfold ParsePost at CP
  rw [hp] at CP
  have CP := Lib.hid CP
  have HT1 := Lib.hid hT1
  have HAL := Lib.hid hal
  have HBK := Lib.hid hbk
  have CA := Lib.hid (fun v W (h : RdL W v ls) (hT : L6.Tab W) => aassemble_any v ls a h hT hls hx ha)
  clear hbk hal hT hT1 hs hp hls hx ha
  generalize As.assemble ls a = O at *
  go_enter Tryz.func43, Tryz.ntmps43
  go_wp2_with fail
  go_at_call 50
  refine CP.out.mono ?_
  rintro e w2 ⟨v2, rfl, hv2, hb2⟩
  have HB2 := Lib.hid (HAL.out.trans (hb2.mono HAL.out.size))
  have HK2 := Lib.hid (HBK.out.kept hb2)
  have HV2 := Lib.hid hv2.rd
  have HT2 := Lib.hid (HT1.out.kept hb2)
  obtain ⟨A2, c2, rfl⟩ := hv2.rd.form
  clear hv2 hb2 hw1
  go_wp2_with fail
  go_at_call 11
  refine (CA.out _ _ HV2.out HT2.out).mono ?_
  rintro e w3 ⟨vb, vs, rfl, hrb, hrs, hfb, hfs, hb3⟩
  have HB3 := Lib.hid (HB2.out.trans (hb3.mono HB2.out.size))
  have HK3 := Lib.hid (HK2.out.kept hb3)
  have HRB := Lib.hid hrb
  have HRS := Lib.hid hrs
  obtain ⟨Ab, cb, rfl⟩ := hrb.form
  obtain ⟨As_, cs, rfl⟩ := hrs.form
  have HFB := Lib.hid (hfb.mono (show w.heap.size + 1 ≤ w2.heap.size from HK2.out.lt))
  have HFS := Lib.hid (hfs.mono (show w.heap.size + 1 ≤ w2.heap.size from HK2.out.lt))
  clear hrb hrs hfb hfs hb3
  have hbx := Bk.fresh w3 29 #[.slice Ab O.bytes.length cb, .slice As_ O.syms.length cs]
  have hk4 : Bk (w3.alloc (.cells #[.slice Ab O.bytes.length cb, .slice As_ O.syms.length cs] 29)) w.heap.size 29 _ := HK3.out.kept ((Below.refl _ _).alloc (Nat.le_refl _) _)
  have x0 := hbx.cell 0
  have x1 := hbx.cell 1
  have HX := Lib.hid hbx
  have HK4 := Lib.hid hk4
  have HB4 := Lib.hid (HB3.out.alloc HB3.out.size (.cells #[.slice Ab O.bytes.length cb, .slice As_ O.syms.length cs] 29))
  have HRB4 := Lib.hid (HRB.out.kept ((Below.refl _ _).alloc (Nat.le_refl _) (.cells #[.slice Ab O.bytes.length cb, .slice As_ O.syms.length cs] 29)))
  have HRS4 := Lib.hid (HRS.out.kept ((Below.refl _ _).alloc (Nat.le_refl _) (.cells #[.slice Ab O.bytes.length cb, .slice As_ O.syms.length cs] 29)))
  have hne : w3.heap.size ≠ w.heap.size := by have := HK3.out.lt; omega
  go_wp2_with fail
  obtain ⟨w4, hw4⟩ : ∃ w4, w3.alloc (.cells #[.slice Ab O.bytes.length cb, .slice As_ O.syms.length cs] 29) = w4 := ⟨_, rfl⟩
  rw [hw4] at HX HK4 HB4 HRB4 HRS4 x0 x1 ⊢
  have y0 := HK4.out.cell 0
  have y1 := HK4.out.cell 1
  have z0 := HK4.out.free 0
  have z1 := HK4.out.free 1
  clear hbx hk4 hw4
  generalize w3.heap.size = g3 at *
  go_region_held3 (fun W' => W'.cell? ⟨g3, 0, none⟩ = some (.slice Ab O.bytes.length cb) ∧ W'.cell? ⟨g3, 1, none⟩ = some (.slice As_ O.syms.length cs)) (first | exact ⟨x0, x1⟩ | (constructor <;> (go_simp; first | done | assumption)) | go_keep)
    ((go_at_call 15; refine (anum7_any _ _).mono ?_; rintro e w' ⟨rfl, rfl⟩))
  go_wp2_with fail
  have hkk := (HK4.out.set 0 (.slice Ab O.bytes.length cb)).set 1 (.slice As_ O.syms.length cs)
  have p0 := hkk.cell 0
  have p1 := hkk.cell 1
  have he : ((O.err : Int) == 0) = decide (O.err = 0) := by rw [Bool.eq_iff_iff, beq_iff_eq, decide_eq_true_eq]; omega
  refine bodyPost_ret (v := .tuple #[.agg #[.slice Ab O.bytes.length cb, .slice As_ O.syms.length cs], .bool (decide (O.err = 0))]) (by simp [results, Tryz.results43, go_sem, p0, p1, he]) rfl ?_
  have t1 := But.setCell w4 w.heap.size 0 (.slice Ab O.bytes.length cb)
  have t2 := But.setCell (w4.setCell ⟨w.heap.size, 0, none⟩ (.slice Ab O.bytes.length cb)) w.heap.size 1 (.slice As_ O.syms.length cs)
  refine ⟨_, _, rfl, ?_, ?_, HFB.out.mono (Nat.le_succ _), HFS.out.mono (Nat.le_succ _), ((HB4.out.setCell (Nat.le_refl _) _).setCell (Nat.le_refl _) _).drew⟩
  · exact (((HRB4.out.but t1 (HFB.out.off (Nat.lt_succ_self _))).but t2 (HFB.out.off (Nat.lt_succ_self _)))).kept (Below.refl _ _).drew
  · exact (((HRS4.out.but t1 (HFS.out.off (Nat.lt_succ_self _))).but t2 (HFS.out.off (Nat.lt_succ_self _)))).kept (Below.refl _ _).drew
/-- What must come: a jump to itself. -/
def As.known : List UInt8 := [97, 58, 32, 106, 32, 97, 10, 98, 58, 32, 119, 111, 114, 100, 32, 97, 32, 98]
def As.knownL : List L6.Line := [⟨[[97]], [106], [[97]]⟩, ⟨[[98]], [119, 111, 114, 100], [[97], [98]]⟩]
def As.knownB : List UInt8 := [111, 0, 0, 0, 8, 0, 0, 0, 12, 0, 0, 0]
theorem As.known_parse : L6.parse As.known = (As.knownL, 0, 0) := by decide +kernel
theorem As.known_asm : As.assemble As.knownL 8 = ⟨As.knownB, [([97], 8), ([98], 12)], 0, 0⟩ := by kernel_rfl
set_option maxRecDepth 100000 in
set_option maxHeartbeats 4000000 in
theorem aknows_any (w : World) (hT : L6.Tab w) : Calls Tryz.prog 10 #[] w fun e w' => e = .returned (.bool true) ∧ Below w.heap.size w w' := by
  have CS := asource_any As.known 8 As.knownL hT (by decide) As.known_parse (by decide) (fun x hx => by
    unfold As.knownL at hx
    simp only [List.mem_cons, List.not_mem_nil, or_false] at hx
    rcases hx with rfl | rfl <;> exact ⟨by decide, by decide, by unfold As.Lo; decide, by unfold As.Lo; decide⟩) (by decide)
  rw [As.known_asm] at CS
  have CS := Lib.hid CS
  clear hT
  go_enter Tryz.func10, Tryz.ntmps10
  go_wp2_with fail
  go_at_call 43
  refine CS.out.mono ?_
  rintro e w2 ⟨vb, vs, rfl, hrb, hrs, hfb, hfs, hb2⟩
  dsimp only at hrb hrs ⊢
  have HB2 := Lib.hid hb2
  have hconv := fun W (hW : Below w2.heap.size w2 W) => As.str_of (hrb.kept hW)
  obtain ⟨Ab, cb, rfl⟩ := hrb.form
  obtain ⟨_, A, c, rfl, _, _, h4⟩ := hrs
  obtain ⟨g, off, rfl, hg, hc⟩ := h4 (by decide)
  have hc3 := hc 3 (.int .u32 12) rfl
  have hx := Bk.fresh w2 29 #[.slice Ab As.knownB.length cb, .slice (some ⟨g, off, none⟩) 2 c]
  have x0 := hx.cell 0
  have x1 := hx.cell 1
  have hal : Below w2.heap.size w2 (w2.alloc (.cells #[.slice Ab As.knownB.length cb, .slice (some ⟨g, off, none⟩) 2 c] 29)) := (Below.refl _ _).alloc (Nat.le_refl _) _
  have hcv := hconv _ hal
  have hc4 := (hal.cell (p := ⟨g, off + 3, none⟩) hg).trans hc3
  have HAL := Lib.hid hal
  clear hconv hc hal hx
  go_wp2_with fail
  go_ret
  exact ⟨rfl, HB2.out.trans (HAL.out.mono HB2.out.size)⟩
end Go.Proofs.YtpcpaoeajcjoiaaGreatDoor
/- Layer 7: the walk of the law AsmBytes. -/
namespace Go.Proofs.YtpcpaoeajcjoiaaGreatDoor
open Go.RowKit Kit
set_option linter.unusedVariables false
set_option linter.unusedSimpArgs false

theorem As.light_of {ls : List L6.Line} (h : L6.weight ls ≤ 3000) : ls.length ≤ 750 ∧ (∀ x ∈ ls, As.RLOk x) ∧ ∀ x ∈ ls, x.fits := by
  have hl := L6.weight_len ls
  have key : ∀ x ∈ ls, x.labels.length ≤ 3000 ∧ x.args.length ≤ 3000 ∧ (∀ s ∈ x.labels, s.length ≤ 3000) ∧ (∀ s ∈ x.args, s.length ≤ 3000) ∧ x.word.length ≤ 3000 := fun x hx => by
    have hw := L6.weight_mem hx
    unfold L6.lweight at hw
    refine ⟨by omega, by omega, fun s hs => ?_, fun s hs => ?_, by omega⟩
    · have := L6.tsum_mem hs
      omega
    · have := L6.tsum_mem hs
      omega
  refine ⟨by omega, fun x hx => ?_, fun x hx => ?_⟩
  · have k := key x hx
    exact ⟨⟨by omega, by omega, fun s hs => Nat.le_trans (k.2.2.1 s hs) (by decide), fun s hs => Nat.le_trans (k.2.2.2.1 s hs) (by decide)⟩, Nat.le_trans k.2.2.2.2 (by decide)⟩
  · have k := key x hx
    exact ⟨Nat.le_trans k.1 (by decide), Nat.le_trans k.2.1 (by decide)⟩
set_option maxRecDepth 100000 in
set_option maxHeartbeats 4000000 in
theorem asymbols_any (v u : Value) (sy : List (List UInt8 × Nat)) (w : World) (h1 : Rd w 2 v sy.length (As.symC sy)) (h2 : Rd w 2 u sy.length (As.symC sy)) (hn : sy.length ≤ 5000000000) :
    Calls Tryz.prog 14 #[v, u] w fun e w' => e = .returned (.bool true) ∧ Below w.heap.size w w' := by
  have H1 := Lib.hid h1
  have H2 := Lib.hid h2
  have HL := Lib.hid hn
  obtain ⟨A1, c1, rfl⟩ := h1.form
  obtain ⟨A2, c2, rfl⟩ := h2.form
  clear h1 h2 hn
  go_enter Tryz.func14, Tryz.ntmps14
  go_wp2_with fail
  go_loopw [5] (fun i wr => ∃ (k n : Nat), i = .int .i64 (k : Int) ∧ k ≤ sy.length ∧ wr = w.drewN n) (fun i _ => sy.length - (intOf i).toNat)
  case atStart => exact ⟨0, 0, rfl, Nat.zero_le _, rfl⟩
  case round =>
    obtain ⟨k, n, rfl, hk, rfl⟩ := hrel
    by_cases hlt : k < sy.length
    · have hlt' : (k : Int) < (sy.length : Int) := by omega
      have hw1 : IntKind.i64.wrap ((k : Int) + 1) = (k : Int) + 1 := by have := HL.out; rw [IntKind.wrap_i64]; omega
      obtain ⟨g, off, c', e, hg, p0, p1⟩ := As.symC_rd H1.out hlt
      injection e with e1 e2 e3
      subst e1 e3
      obtain ⟨g', off', c2', e, hg', q0, q1⟩ := As.symC_rd H2.out hlt
      injection e with e1 e2 e3
      subst e1 e3
      have HLT := Lib.hid (show k + 1 ≤ sy.length from hlt)
      generalize sy[k] = P at *
      obtain ⟨nm, x⟩ := P
      dsimp only at p0 p1 q0 q1
      go_wp2_with fail
      go_quiet (fail)
      go_wp2_with fail
      go_roundw
      case rel => exact ⟨k + 1, n + nq, by simp, HLT.out, by first | rfl | rw [World.drewN_drewN]⟩
      case measure => have := HLT.out; simp [intOf]; omega
    · obtain rfl : k = sy.length := by omega
      go_wp2_with fail
      go_ret
      exact ⟨rfl, isDrewN6 (Below.refl _ _) _⟩
set_option maxRecDepth 100000 in
set_option maxHeartbeats 16000000 in
theorem core_asmBytes (v : Value) (l : List L6.Line) (a : Nat) (w : World) (h : RdL w v l) (hs : L6.Small l) (ha : a < 4294967296) (hT : L6.Tab w) :
    Calls Tryz.prog 3 #[v, .int .u32 (a : Int)] w fun e w' => e = .returned (.bool true) ∧ Below w.heap.size w w' := by
  have CK := Lib.hid (fun W (hT : L6.Tab W) => aknows_any W hT)
  have CL := Lib.hid (llight_any v l w h hs)
  have H1 := Lib.hid h
  have HT := Lib.hid hT
  have HA := Lib.hid ha
  obtain ⟨A1, c1, rfl⟩ := h.form
  clear h hs hT ha
  go_enter Tryz.func3, Tryz.ntmps3
  go_wp2_with fail
  go_at_call 9
  refine CL.out.mono ?_
  rintro e w0 ⟨b1, rfl, hwt1, hb0⟩
  have HB0 := Lib.hid hb0
  have HW1 := Lib.hid hwt1
  clear hb0 hwt1
  cases b1
  · go_wp2_with (go_at_call 10; refine (CK.out _ (HT.out.kept HB0.out)).mono ?_; rintro e w1 ⟨rfl, hb1⟩)
    go_ret
    exact ⟨rfl, HB0.out.trans (hb1.mono HB0.out.size)⟩
  have HS1 := Lib.hid (As.light_of (HW1.out (by first | rfl | trivial)))
  have CO1 := Lib.hid (lown_any (.slice A1 l.length c1) l w0 (H1.out.kept HB0.out) (by have := HS1.out.1; omega) HS1.out.2.2)
  have CA1 := Lib.hid (fun v W (h : RdL W v l) (hT : L6.Tab W) => aassemble_any v l a h hT (by have := HS1.out.1; omega) (fun x hx => (HS1.out.2.1 x hx).l) HA.out)
  have CR := Lib.hid (fun W (hb : Below w.heap.size w W) => rassemble_any (H1.out.kept hb) (by have := HS1.out.1; omega) HS1.out.2.1 HA.out)
  rw [As.rassemble_eq] at CR
  have HSN := Lib.hid (show (As.assemble l a).syms.length ≤ 5000000000 from by
    unfold As.assemble As.passes
    split
    · exact Nat.zero_le _
    · split
      · exact Nat.zero_le _
      · rename_i sy hf
        have hc := As.first_cnt (fun x hx => (HS1.out.2.1 x hx).l.ll) hf
        have := HS1.out.1
        split
        · exact Nat.zero_le _
        · dsimp only
          simp at hc
          omega)
  generalize As.assemble l a = O at *
  go_wp2_with fail
  go_at_call 12
  refine CO1.out.mono ?_
  rintro e w2 ⟨v2, rfl, hv2, hb2⟩
  have HB2 := Lib.hid (HB0.out.trans (hb2.mono HB0.out.size))
  have HV2 := Lib.hid hv2
  obtain ⟨A3, c3, rfl⟩ := hv2.form
  clear hv2 hb2
  go_wp2_with fail
  go_at_call 11
  refine (CA1.out _ _ HV2.out (HT.out.kept HB2.out)).mono ?_
  rintro e w3 ⟨vb1, vs1, rfl, hrb, hrs, hfb, hfs, hb3⟩
  obtain ⟨Ab1, cb1, rfl⟩ := hrb.form
  obtain ⟨As1, cs1, rfl⟩ := hrs.form
  have hbx := Bk.fresh w3 29 #[.slice Ab1 O.bytes.length cb1, .slice As1 O.syms.length cs1]
  have hal : Below w3.heap.size w3 (w3.alloc (.cells #[.slice Ab1 O.bytes.length cb1, .slice As1 O.syms.length cs1] 29)) := (Below.refl _ _).alloc (Nat.le_refl _) _
  have HX1 := Lib.hid hbx
  have HRB1 := Lib.hid (hrb.kept hal)
  have HRS1 := Lib.hid (hrs.kept hal)
  have HB4 := Lib.hid (show Below w.heap.size w (w3.alloc (.cells #[.slice Ab1 O.bytes.length cb1, .slice As1 O.syms.length cs1] 29)) from (HB2.out.trans (hb3.mono HB2.out.size)).alloc (Nat.le_trans HB2.out.size hb3.size) _)
  clear hrb hrs hfb hfs hb3 hbx hal
  go_wp2_with fail
  obtain ⟨w4, hw4⟩ : ∃ w4, w3.alloc (.cells #[.slice Ab1 O.bytes.length cb1, .slice As1 O.syms.length cs1] 29) = w4 := ⟨_, rfl⟩
  rw [hw4] at HX1 HRB1 HRS1 HB4 ⊢
  clear hw4
  generalize w3.heap.size = g1 at *
  go_at_call 13
  refine (CR.out _ HB4.out).mono ?_
  rintro e w5 ⟨vb2, vs2, rfl, hrb2, hrs2, hb5⟩
  have HB5 := Lib.hid (HB4.out.trans (hb5.mono HB4.out.size))
  have hx5 := HX1.out.kept hb5
  have x0 := hx5.cell 0
  have x1 := hx5.cell 1
  have HX5 := Lib.hid hx5
  have hcv1 := fun W (hW : Below w5.heap.size w5 W) => As.str_of ((HRB1.out.kept hb5).kept hW)
  have hcv2 := fun W (hW : Below w5.heap.size w5 W) => As.str_of (hrb2.kept hW)
  have hc1 := hcv1 _ (Below.refl _ _)
  have hc2 := hcv2 _ (Below.refl _ _)
  have CS := Lib.hid (asymbols_any _ _ O.syms w5 (HRS1.out.kept hb5) hrs2 HSN.out)
  obtain ⟨Ab2, cb2, rfl⟩ := hrb2.form
  obtain ⟨As2, cs2, rfl⟩ := hrs2.form
  clear hb5 hx5 hcv1 hcv2 hrb2 hrs2
  go_wp2_with (first
    | (go_at_call 14; refine CS.out.mono ?_; rintro e w6 ⟨rfl, hb6⟩; have HB6 := Lib.hid (HB5.out.trans (hb6.mono HB5.out.size)); clear hb6)
    | (go_at_call 15; refine (anum7_any _ _).mono ?_; rintro e w' ⟨rfl, rfl⟩)
    | (go_at_call 10; refine (CK.out _ (HT.out.kept HB6.out)).mono ?_; rintro e w7 ⟨rfl, hb7⟩))
  go_ret
  exact ⟨rfl, HB6.out.trans (hb7.mono HB6.out.size)⟩
theorem walk_asmBytes (v : Value) (l : List L6.Line) (n : Int) (w : World) (h : RdL w v l ∧ L6.Small l) (hn : 0 ≤ n ∧ n ≤ 4294967295) (hL : laidMetH Tryz.prog Rows.asmBytesRow.laid w) :
    Calls Tryz.prog 3 #[v, .int .u32 n] w fun e w' => e = .returned (.bool true) ∧ Below w.heap.size w w' := by
  obtain ⟨k, rfl⟩ := Int.eq_ofNat_of_zero_le hn.1
  exact core_asmBytes v l k w h.1 h.2 (by omega) (L6.tab_of hL)
end Go.Proofs.YtpcpaoeajcjoiaaGreatDoor
