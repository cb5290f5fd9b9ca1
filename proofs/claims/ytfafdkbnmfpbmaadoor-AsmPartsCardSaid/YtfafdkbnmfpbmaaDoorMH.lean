/- Texts joined: AsKnow, AsPartsW, AsPartsV. -/
import Derived.Test.YtfafdkbnmfpbmaaDoorMG
import Derived.Test.YtfafdkbnmfpbmaaDoorL6Parse
import Derived.Test.YtfafdkbnmfpbmaaDoorL6Rd
import Derived.Test.YtfafdkbnmfpbmaaDoorL6OwnC
import Derived.Test.YtfafdkbnmfpbmaaDoorL6Light
import Derived.Test.YtfafdkbnmfpbmaaDoorL6Tab
import Derived.Test.YtfafdkbnmfpbmaaDoorL6Open
/- Layer 7: a text assembled; what must come. -/
namespace Go.Proofs.YtfafdkbnmfpbmaaDoor
open Go.RowKit Kit
set_option linter.unusedVariables false
set_option linter.unusedSimpArgs false

theorem anum7_any (n : Int) (w : World) : Calls Tryd.prog 27 #[.int .i64 n] w fun e w' => e = .returned (.int .i64 n) ∧ w = w' := by
  go_enter Tryd.func27, Tryd.ntmps27
  go_wp2
  go_ret
  exact ⟨rfl, rfl⟩
/-- Bytes that are read, as a text. -/
theorem As.str_of {w : World} {v : Value} {b : List UInt8} (h : Rd w 1 v b.length (bv b)) : (convert 47 9 v).run Tryd.prog w = .ok (.string ⟨b.toArray⟩) w := by
  obtain ⟨_, A, c, rfl, _, _, h4⟩ := h
  cases b with
  | nil =>
    cases A with
    | none => exact run_convert_bytes_nil (w := w) 47 5 Tryd.underlying47 Tryd.underlying5 0 c 9 Tryd.underlying9
    | some a => exact run_convert_bytes_back w 47 9 5 a c [] Tryd.underlying47 Tryd.underlying5 Tryd.underlying9 fun j hj => by simp at hj
  | cons x t =>
    obtain ⟨g, off, rfl, hg, hc⟩ := h4 (by simp)
    refine run_convert_bytes_back w 47 9 5 ⟨g, off, none⟩ c (x :: t) Tryd.underlying47 Tryd.underlying5 Tryd.underlying9 fun j hj => ?_
    rw [addr_add]
    exact hc j _ (by simp only [bv, List.getElem?_map, List.getElem?_eq_getElem hj, Option.map_some])
/-- What Source hands back. -/
def As.SrcPost (w : World) (r : As.O) (e : Ending) (w' : World) : Prop :=
  ∃ vb vs, e = .returned (.tuple #[.agg #[vb, vs], .bool (decide (r.err = 0))]) ∧ Rd w' 1 vb r.bytes.length (bv r.bytes) ∧ Rd w' 2 vs r.syms.length (As.symC r.syms) ∧ As.From w.heap.size vb ∧ As.From w.heap.size vs ∧ Below w.heap.size w w'
set_option maxRecDepth 100000 in
set_option maxHeartbeats 8000000 in
theorem asource_any {w : World} (s : List UInt8) (a : Nat) (ls : List L6.Line) (hT : L6.Tab w) (hs : s.length ≤ 1000000000) (hp : L6.parse s = (ls, 0, 0)) (hls : ls.length ≤ 1000000000) (hx : ∀ x ∈ ls, As.LOk x) (ha : a < 4294967296) :
    Calls Tryd.prog 50 #[.string ⟨s.toArray⟩, .int .u32 (a : Int)] w (As.SrcPost w (As.assemble ls a)) := by
  have hbk := Bk.fresh w 50 #[.slice none 0 0, .slice none 0 0]
  have hal : Below w.heap.size w (w.alloc (.cells #[.slice none 0 0, .slice none 0 0] 50)) := (Below.refl _ _).alloc (Nat.le_refl _) _
  obtain ⟨w1, hw1⟩ : ∃ w1, w.alloc (.cells #[.slice none 0 0, .slice none 0 0] 50) = w1 := ⟨_, rfl⟩
  rw [hw1] at hbk hal
  have hT1 := hT.kept hal
  have CP := lparse_any s w1 hs
  unfold ParsePost at CP
  rw [hp] at CP
  have CP := Lib.hid CP
  have HT1 := Lib.hid hT1
  have HAL := Lib.hid hal
  have HBK := Lib.hid hbk
  have CA := Lib.hid (fun v W (h : RdL W v ls) (hT : L6.Tab W) => aassemble_any v ls a h hT hls hx ha)
  clear hbk hal hT hT1 hs hp hls hx ha
  generalize As.assemble ls a = O at *
  go_enter Tryd.func50, Tryd.ntmps50
  go_wp2_with fail
  go_at_call 29
  refine CP.out.mono ?_
  rintro e w2 ⟨v2, rfl, hv2, hb2⟩
  have HB2 := Lib.hid (HAL.out.trans (hb2.mono HAL.out.size))
  have HK2 := Lib.hid (HBK.out.kept hb2)
  have HV2 := Lib.hid hv2.rd
  have HT2 := Lib.hid (HT1.out.kept hb2)
  obtain ⟨A2, c2, rfl⟩ := hv2.rd.form
  clear hv2 hb2 hw1
  go_wp2_with fail
  go_at_call 26
  refine (CA.out _ _ HV2.out HT2.out).mono ?_
  rintro e w3 ⟨vb, vs, rfl, hrb, hrs, hfb, hfs, hb3⟩
  have HB3 := Lib.hid (HB2.out.trans (hb3.mono HB2.out.size))
  have HK3 := Lib.hid (HK2.out.kept hb3)
  have HRB := Lib.hid hrb
  have HRS := Lib.hid hrs
  obtain ⟨Ab, cb, rfl⟩ := hrb.form
  obtain ⟨As_, cs, rfl⟩ := hrs.form
  have HFB := Lib.hid (hfb.mono (show w.heap.size + 1 ≤ w2.heap.size from HK2.out.lt))
  have HFS := Lib.hid (hfs.mono (show w.heap.size + 1 ≤ w2.heap.size from HK2.out.lt))
  clear hrb hrs hfb hfs hb3
  have hbx := Bk.fresh w3 50 #[.slice Ab O.bytes.length cb, .slice As_ O.syms.length cs]
  have hk4 : Bk (w3.alloc (.cells #[.slice Ab O.bytes.length cb, .slice As_ O.syms.length cs] 50)) w.heap.size 50 _ := HK3.out.kept ((Below.refl _ _).alloc (Nat.le_refl _) _)
  have x0 := hbx.cell 0
  have x1 := hbx.cell 1
  have HX := Lib.hid hbx
  have HK4 := Lib.hid hk4
  have HB4 := Lib.hid (HB3.out.alloc HB3.out.size (.cells #[.slice Ab O.bytes.length cb, .slice As_ O.syms.length cs] 50))
  have HRB4 := Lib.hid (HRB.out.kept ((Below.refl _ _).alloc (Nat.le_refl _) (.cells #[.slice Ab O.bytes.length cb, .slice As_ O.syms.length cs] 50)))
  have HRS4 := Lib.hid (HRS.out.kept ((Below.refl _ _).alloc (Nat.le_refl _) (.cells #[.slice Ab O.bytes.length cb, .slice As_ O.syms.length cs] 50)))
  have hne : w3.heap.size ≠ w.heap.size := by have := HK3.out.lt; omega
  go_wp2_with fail
  obtain ⟨w4, hw4⟩ : ∃ w4, w3.alloc (.cells #[.slice Ab O.bytes.length cb, .slice As_ O.syms.length cs] 50) = w4 := ⟨_, rfl⟩
  rw [hw4] at HX HK4 HB4 HRB4 HRS4 x0 x1 ⊢
  have y0 := HK4.out.cell 0
  have y1 := HK4.out.cell 1
  have z0 := HK4.out.free 0
  have z1 := HK4.out.free 1
  clear hbx hk4 hw4
  generalize w3.heap.size = g3 at *
  go_region_held3 (fun W' => W'.cell? ⟨g3, 0, none⟩ = some (.slice Ab O.bytes.length cb) ∧ W'.cell? ⟨g3, 1, none⟩ = some (.slice As_ O.syms.length cs)) (first | exact ⟨x0, x1⟩ | (constructor <;> (go_simp; first | done | assumption)) | go_keep)
    ((go_at_call 27; refine (anum7_any _ _).mono ?_; rintro e w' ⟨rfl, rfl⟩))
  go_wp2_with fail
  have hkk := (HK4.out.set 0 (.slice Ab O.bytes.length cb)).set 1 (.slice As_ O.syms.length cs)
  have p0 := hkk.cell 0
  have p1 := hkk.cell 1
  have he : ((O.err : Int) == 0) = decide (O.err = 0) := by rw [Bool.eq_iff_iff, beq_iff_eq, decide_eq_true_eq]; omega
  refine bodyPost_ret (v := .tuple #[.agg #[.slice Ab O.bytes.length cb, .slice As_ O.syms.length cs], .bool (decide (O.err = 0))]) (by simp [results, Tryd.results50, go_sem, p0, p1, he]) rfl ?_
  have t1 := But.setCell w4 w.heap.size 0 (.slice Ab O.bytes.length cb)
  have t2 := But.setCell (w4.setCell ⟨w.heap.size, 0, none⟩ (.slice Ab O.bytes.length cb)) w.heap.size 1 (.slice As_ O.syms.length cs)
  refine ⟨_, _, rfl, ?_, ?_, HFB.out.mono (Nat.le_succ _), HFS.out.mono (Nat.le_succ _), ((HB4.out.setCell (Nat.le_refl _) _).setCell (Nat.le_refl _) _).drew⟩
  · exact (((HRB4.out.but t1 (HFB.out.off (Nat.lt_succ_self _))).but t2 (HFB.out.off (Nat.lt_succ_self _)))).kept (Below.refl _ _).drew
  · exact (((HRS4.out.but t1 (HFS.out.off (Nat.lt_succ_self _))).but t2 (HFS.out.off (Nat.lt_succ_self _)))).kept (Below.refl _ _).drew
/-- What must come: a jump to itself. -/
def As.known : List UInt8 := [97, 58, 32, 106, 32, 97, 10, 98, 58, 32, 119, 111, 114, 100, 32, 97, 32, 98]
def As.knownL : List L6.Line := [⟨[[97]], [106], [[97]]⟩, ⟨[[98]], [119, 111, 114, 100], [[97], [98]]⟩]
def As.knownB : List UInt8 := [111, 0, 0, 0, 8, 0, 0, 0, 12, 0, 0, 0]
theorem As.known_parse : L6.parse As.known = (As.knownL, 0, 0) := by decide +kernel
theorem As.known_asm : As.assemble As.knownL 8 = ⟨As.knownB, [([97], 8), ([98], 12)], 0, 0⟩ := by kernel_rfl
set_option maxRecDepth 100000 in
set_option maxHeartbeats 4000000 in
theorem aknows_any (w : World) (hT : L6.Tab w) : Calls Tryd.prog 28 #[] w fun e w' => e = .returned (.bool true) ∧ Below w.heap.size w w' := by
  have CS := asource_any As.known 8 As.knownL hT (by decide) As.known_parse (by decide) (fun x hx => by
    unfold As.knownL at hx
    simp only [List.mem_cons, List.not_mem_nil, or_false] at hx
    rcases hx with rfl | rfl <;> exact ⟨by decide, by decide, by unfold As.Lo; decide, by unfold As.Lo; decide⟩) (by decide)
  rw [As.known_asm] at CS
  have CS := Lib.hid CS
  clear hT
  go_enter Tryd.func28, Tryd.ntmps28
  go_wp2_with fail
  go_at_call 50
  refine CS.out.mono ?_
  rintro e w2 ⟨vb, vs, rfl, hrb, hrs, hfb, hfs, hb2⟩
  dsimp only at hrb hrs ⊢
  have HB2 := Lib.hid hb2
  have hconv := fun W (hW : Below w2.heap.size w2 W) => As.str_of (hrb.kept hW)
  obtain ⟨Ab, cb, rfl⟩ := hrb.form
  obtain ⟨_, A, c, rfl, _, _, h4⟩ := hrs
  obtain ⟨g, off, rfl, hg, hc⟩ := h4 (by decide)
  have hc3 := hc 3 (.int .u32 12) rfl
  have hx := Bk.fresh w2 50 #[.slice Ab As.knownB.length cb, .slice (some ⟨g, off, none⟩) 2 c]
  have x0 := hx.cell 0
  have x1 := hx.cell 1
  have hal : Below w2.heap.size w2 (w2.alloc (.cells #[.slice Ab As.knownB.length cb, .slice (some ⟨g, off, none⟩) 2 c] 50)) := (Below.refl _ _).alloc (Nat.le_refl _) _
  have hcv := hconv _ hal
  have hc4 := (hal.cell (p := ⟨g, off + 3, none⟩) hg).trans hc3
  have HAL := Lib.hid hal
  clear hconv hc hal hx
  go_wp2_with fail
  go_ret
  exact ⟨rfl, HB2.out.trans (HAL.out.mono HB2.out.size)⟩
end Go.Proofs.YtfafdkbnmfpbmaaDoor
/- Layer 7: the walk of the law AsmParts. -/
namespace Go.Proofs.YtfafdkbnmfpbmaaDoor
open Go.RowKit Kit
set_option linter.unusedVariables false
set_option linter.unusedSimpArgs false

theorem As.small_of {ls : List L6.Line} (h : L6.weight ls ≤ 3000) : ls.length ≤ 750 ∧ (∀ x ∈ ls, As.LOk x) ∧ ∀ x ∈ ls, x.fits := by
  have hl := L6.weight_len ls
  have key : ∀ x ∈ ls, x.labels.length ≤ 3000 ∧ x.args.length ≤ 3000 ∧ (∀ s ∈ x.labels, s.length ≤ 3000) ∧ ∀ s ∈ x.args, s.length ≤ 3000 := fun x hx => by
    have hw := L6.weight_mem hx
    unfold L6.lweight at hw
    refine ⟨by omega, by omega, fun s hs => ?_, fun s hs => ?_⟩
    · have := L6.tsum_mem hs
      omega
    · have := L6.tsum_mem hs
      omega
  refine ⟨by omega, fun x hx => ?_, fun x hx => ?_⟩
  · have k := key x hx
    exact ⟨by omega, by omega, fun s hs => Nat.le_trans (k.2.2.1 s hs) (by decide), fun s hs => Nat.le_trans (k.2.2.2 s hs) (by decide)⟩
  · have k := key x hx
    exact ⟨Nat.le_trans k.1 (by decide), Nat.le_trans k.2.1 (by decide)⟩
theorem As.first_upto {a : Nat} : ∀ {l : List L6.Line} {i here : Nat} {sy sy2 : List (List UInt8 × Nat)}, here ≤ 131072 → As.first a i here sy l = .ok sy2 → As.upto a here l ≤ 131072
  | [], i, here, sy, sy2, h, e => h
  | x :: r, i, here, sy, sy2, h, e => by
    obtain ⟨sy1, p, _, h2, h3, h4⟩ := As.first_step e
    have := As.first_upto h3 h4
    unfold As.upto
    rw [h2]
    exact this
theorem As.asm_len {l : List L6.Line} {a : Nat} (h : (As.assemble l a).err = 0) : (As.assemble l a).bytes.length ≤ 131072 := by
  obtain ⟨_, _, sy, b, h1, h2, h3⟩ := As.assemble_ok h
  rw [h3]
  have := As.second_len h2
  dsimp only
  rw [this]
  exact As.first_upto (Nat.zero_le _) h1
theorem As.lines_one {B : Nat} {w : World} : ∀ {a : List L6.Line} {ca : List Value}, LinesZ B w a ca → ∀ u ∈ ca, u.oneCell' = true
  | [], _, h, u, hu => by
    have h : _ = [] := h
    subst h
    simp at hu
  | _ :: _, _, ⟨vl, va, r, e, h1, h2, h3⟩, u, hu => by
    subst e
    obtain ⟨A1, c1, rfl⟩ := h1.form
    obtain ⟨A2, c2, rfl⟩ := h2.form
    simp only [List.mem_cons] at hu
    rcases hu with rfl | rfl | rfl | hu
    · rfl
    · rfl
    · rfl
    · exact As.lines_one h3 u hu
theorem As.lines_app {w : World} : ∀ {a b : List L6.Line} {ca cb : List Value}, LinesRd w a ca → LinesRd w b cb → LinesRd w (a ++ b) (ca ++ cb)
  | [], _, _, _, h, h' => by
    have h : _ = [] := h
    subst h
    exact h'
  | _ :: _, _, _, _, ⟨vl, va, r, e, h1, h2, h3⟩, h' => by subst e; exact ⟨vl, va, _, rfl, h1, h2, As.lines_app h3 h'⟩
/-- What is made stands in a box. -/
def As.Box (w4 : World) (O : As.O) (s1 s2 s3 : Value) (wx : World) : Prop :=
  ∃ g vb vs, s1 = .pointer (some ⟨g, 0, none⟩) ∧ s2 = .int .i64 (O.line : Int) ∧ s3 = .int .i64 (O.err : Int) ∧ Bk wx g 50 #[vb, vs] ∧ Rd wx 1 vb O.bytes.length (bv O.bytes) ∧ Rd wx 2 vs O.syms.length (As.symC O.syms) ∧ Below w4.heap.size w4 wx
theorem As.Box.last {w4 w6 : World} {O : As.O} {vb vs : Value} (h1 : Rd w6 1 vb O.bytes.length (bv O.bytes)) (h2 : Rd w6 2 vs O.syms.length (As.symC O.syms)) (hb : Below w4.heap.size w4 w6) :
    As.Box w4 O (.pointer (some ⟨w6.heap.size, 0, none⟩)) (.int .i64 (O.line : Int)) (.int .i64 (O.err : Int)) (w6.alloc (.cells #[vb, vs] 50)) :=
  have hal : Below w6.heap.size w6 (w6.alloc (.cells #[vb, vs] 50)) := (Below.refl _ _).alloc (Nat.le_refl _) _
  ⟨_, vb, vs, rfl, rfl, rfl, Bk.fresh w6 _ _, h1.kept hal, h2.kept hal, hb.alloc hb.size _⟩
theorem As.Box.set {w4 w6 : World} {O : As.O} {vb vs u1 u2 : Value} {g B : Nat} (hk : Bk w6 g 50 #[u1, u2]) (hg : g < B) (hg4 : w4.heap.size ≤ g) (f1 : As.From B vb) (f2 : As.From B vs) (h1 : Rd w6 1 vb O.bytes.length (bv O.bytes)) (h2 : Rd w6 2 vs O.syms.length (As.symC O.syms)) (hb : Below w4.heap.size w4 w6) :
    As.Box w4 O (.pointer (some ⟨g, 0, none⟩)) (.int .i64 (O.line : Int)) (.int .i64 (O.err : Int)) ((w6.setCell ⟨g, 0, none⟩ vb).setCell ⟨g, 1, none⟩ vs) := by
  have t1 := But.setCell w6 g 0 vb
  have t2 := But.setCell (w6.setCell ⟨g, 0, none⟩ vb) g 1 vs
  have hkk := (hk.set 0 vb).set 1 vs
  exact ⟨g, vb, vs, rfl, rfl, rfl, by simpa using hkk, (h1.but t1 (f1.off hg)).but t2 (f1.off hg), (h2.but t1 (f2.off hg)).but t2 (f2.off hg), (hb.setCell hg4 _).setCell hg4 _⟩
set_option maxRecDepth 100000 in
set_option maxHeartbeats 16000000 in
theorem core_asmParts (v1 v2 : Value) (l m : List L6.Line) (at_ : Nat) (w : World) (h1 : RdL w v1 l) (h2 : RdL w v2 m) (hs1 : L6.Small l) (hs2 : L6.Small m) (hat : at_ < 4294967296) (hT : L6.Tab w) :
    Calls Tryd.prog 8 #[v1, v2, .int .u32 (at_ : Int)] w fun e w' => e = .returned (.bool true) ∧ Below w.heap.size w w' := by
  have CK := Lib.hid (fun W (hT : L6.Tab W) => aknows_any W hT)
  have CL1 := Lib.hid (llight_any v1 l w h1 hs1)
  have CL2 := Lib.hid (fun W (hb : Below w.heap.size w W) => llight_any v2 m W (h2.kept hb) hs2)
  have H1 := Lib.hid h1
  have H2 := Lib.hid h2
  have HT := Lib.hid hT
  obtain ⟨A1, c1, rfl⟩ := h1.form
  obtain ⟨A2, c2, rfl⟩ := h2.form
  clear h1 h2 hs1 hs2 hT
  go_enter Tryd.func8, Tryd.ntmps8
  go_wp2_with fail
  go_at_call 9
  refine CL1.out.mono ?_
  rintro e w0 ⟨b1, rfl, hwt1, hb0⟩
  have HB0 := Lib.hid hb0
  have HW1 := Lib.hid hwt1
  clear hb0 hwt1
  cases b1
  · go_wp2_with (go_at_call 28; refine (CK.out _ (HT.out.kept HB0.out)).mono ?_; rintro e w1 ⟨rfl, hb1⟩)
    go_ret
    exact ⟨rfl, HB0.out.trans (hb1.mono HB0.out.size)⟩
  go_wp2_with fail
  go_at_call 9
  refine (CL2.out _ HB0.out).mono ?_
  rintro e w1 ⟨b2, rfl, hwt2, hb1⟩
  have HB1 := Lib.hid (HB0.out.trans (hb1.mono HB0.out.size))
  have HW2 := Lib.hid hwt2
  clear hb1 hwt2
  cases b2
  · go_wp2_with (go_at_call 28; refine (CK.out _ (HT.out.kept HB1.out)).mono ?_; rintro e w2 ⟨rfl, hb2⟩)
    go_ret
    exact ⟨rfl, HB1.out.trans (hb2.mono HB1.out.size)⟩
  have hS1 := As.small_of (HW1.out (by first | rfl | trivial))
  have hS2 := As.small_of (HW2.out (by first | rfl | trivial))
  have HS1 := Lib.hid hS1
  have HS2 := Lib.hid hS2
  obtain ⟨r, hr⟩ : ∃ r : Nat, at_ % 65536 = r := ⟨_, rfl⟩
  obtain ⟨a, ha⟩ : ∃ a : Nat, r * 4 = a := ⟨_, rfl⟩
  have ha1 : a ≤ 262140 := by omega
  have HA := Lib.hid (show a < 4294967296 from by omega)
  have HA1 := Lib.hid ha1
  have hrem : Int.tmod (at_ : Int) 65536 = (r : Int) := by rw [Int.tmod_eq_emod_of_nonneg (by omega)]; omega
  have hrem2 : (at_ : Int) % 65536 = (r : Int) := by omega
  have hmul : IntKind.u32.wrap ((r : Int) * 4) = (a : Int) := by rw [IntKind.wrap_u32]; omega
  clear hr ha ha1
  have CO1 := Lib.hid (fun W (hb : Below w.heap.size w W) => lown_cop (.slice A1 l.length c1) l W (H1.out.kept hb) (by have := HS1.out.1; omega) HS1.out.2.2)
  have CO2 := Lib.hid (fun W (hb : Below w.heap.size w W) => lown_cop (.slice A2 m.length c2) m W (H2.out.kept hb) (by have := HS2.out.1; omega) HS2.out.2.2)
  have CA1 := Lib.hid (fun v W (h : RdL W v l) (hT : L6.Tab W) => aassemble_any v l a h hT (by have := HS1.out.1; omega) HS1.out.2.1 HA.out)
  have CA2 := Lib.hid (fun v W n (h : RdL W v m) (hT : L6.Tab W) (hn : n < 4294967296) => aassemble_any v m n h hT (by have := HS2.out.1; omega) HS2.out.2.1 hn)
  have CA3 := Lib.hid (fun v W (h : RdL W v (l ++ m)) (hT : L6.Tab W) => aassemble_any v (l ++ m) a h hT (by have := HS1.out.1; have := HS2.out.1; rw [List.length_append]; omega) (fun x hx => (List.mem_append.1 hx).elim (HS1.out.2.1 x) (HS2.out.2.1 x)) HA.out)
  have HLAW := Lib.hid (@As.parts_law l m a)
  have HLEN := Lib.hid (@As.asm_len l a)
  clear hS1 hS2
  generalize hO1 : As.assemble l a = O1 at *
  generalize hO3 : As.assemble (l ++ m) a = O3 at *
  clear hO1 hO3
  go_wp2_with fail
  go_at_call 11
  refine (CO1.out _ HB1.out).mono ?_
  rintro e w2 ⟨v3, cs3, rfl, hc3⟩
  have HB2 := Lib.hid (HB1.out.trans (hc3.below.mono HB1.out.size))
  have HV3 := Lib.hid hc3.rd
  obtain ⟨A3, c3, rfl⟩ := hc3.rd.form
  clear hc3
  go_wp2_with fail
  go_at_call 26
  refine (CA1.out _ _ HV3.out (HT.out.kept HB2.out)).mono ?_
  rintro e w3 ⟨vb1, vs1, rfl, hrb, hrs, hfb, hfs, hb3⟩
  obtain ⟨Ab1, cb1, rfl⟩ := hrb.form
  obtain ⟨As1, cs1, rfl⟩ := hrs.form
  have hbx := Bk.fresh w3 50 #[.slice Ab1 O1.bytes.length cb1, .slice As1 O1.syms.length cs1]
  have hal : Below w3.heap.size w3 (w3.alloc (.cells #[.slice Ab1 O1.bytes.length cb1, .slice As1 O1.syms.length cs1] 50)) := (Below.refl _ _).alloc (Nat.le_refl _) _
  have HX1 := Lib.hid hbx
  have x0 := hbx.cell 0
  have HRB1 := Lib.hid (hrb.kept hal)
  have HRS1 := Lib.hid (hrs.kept hal)
  have HB4 := Lib.hid (show Below w.heap.size w (w3.alloc (.cells #[.slice Ab1 O1.bytes.length cb1, .slice As1 O1.syms.length cs1] 50)) from (HB2.out.trans (hb3.mono HB2.out.size)).alloc (Nat.le_trans HB2.out.size hb3.size) _)
  clear hrb hrs hfb hfs hb3 hbx hal
  by_cases he1 : O1.err = 0
  rotate_left
  · have hne : ((O1.err : Int) != 0) = true := by rw [bne_iff_ne]; omega
    go_wp2_with (first | (go_at_call 27; refine (anum7_any _ _).mono ?_; rintro e w' ⟨rfl, rfl⟩) | (go_at_call 28; refine (CK.out _ (HT.out.kept HB4.out)).mono ?_; rintro e w5 ⟨rfl, hb5⟩))
    go_ret
    exact ⟨rfl, HB4.out.trans (hb5.mono HB4.out.size)⟩
  have hne1 : ((O1.err : Int) != 0) = false := by rw [he1]; rfl
  by_cases hl4 : O1.bytes.length % 4 = 0
  rotate_left
  · obtain ⟨q, hq⟩ : ∃ q, O1.bytes.length % 4 = q := ⟨_, rfl⟩
    have hq1 : Int.tmod (O1.bytes.length : Int) 4 = (q : Int) := by rw [Int.tmod_eq_emod_of_nonneg (by omega)]; omega
    have hq2 : (O1.bytes.length : Int) % 4 = (q : Int) := by omega
    have hq3 : ((q : Int) != 0) = true := by rw [bne_iff_ne]; omega
    clear hq hl4
    go_wp2_with (first | (go_at_call 27; refine (anum7_any _ _).mono ?_; rintro e w' ⟨rfl, rfl⟩) | (go_at_call 28; refine (CK.out _ (HT.out.kept HB4.out)).mono ?_; rintro e w5 ⟨rfl, hb5⟩))
    go_ret
    exact ⟨rfl, HB4.out.trans (hb5.mono HB4.out.size)⟩
  have hq1 : Int.tmod (O1.bytes.length : Int) 4 = 0 := by rw [Int.tmod_eq_emod_of_nonneg (by omega)]; omega
  have hq2 : (O1.bytes.length : Int) % 4 = 0 := by omega
  go_upto_region 7 with (go_at_call 27; refine (anum7_any _ _).mono ?_; rintro e w' ⟨rfl, rfl⟩)
  obtain ⟨w4, hw4⟩ : ∃ w4, w3.alloc (.cells #[.slice Ab1 O1.bytes.length cb1, .slice As1 O1.syms.length cs1] 50) = w4 := ⟨_, rfl⟩
  rw [hw4] at HX1 HRB1 HRS1 HB4 x0 ⊢
  clear hw4 hq1 hq2 hl4
  generalize w3.heap.size = g1 at *
  have hlen := HLEN.out he1
  have hl32 : IntKind.u32.wrap (O1.bytes.length : Int) = (O1.bytes.length : Int) := by rw [IntKind.wrap_u32]; omega
  have hadd : IntKind.u32.wrap ((a : Int) + (O1.bytes.length : Int)) = ((a + O1.bytes.length : Nat) : Int) := by have := HA1.out; rw [IntKind.wrap_u32]; omega
  have HN := Lib.hid (show a + O1.bytes.length < 4294967296 from by have := HA1.out; omega)
  have HL1 := Lib.hid (show O1.bytes.length ≤ 131072 from hlen)
  have HE1 := Lib.hid he1
  generalize hN : a + O1.bytes.length = N at *
  generalize hO2 : As.assemble m N = O2 at *
  have CAN := Lib.hid (show ∀ v W (h : RdL W v m) (hT : L6.Tab W), Calls Tryd.prog 26 #[v, .int .u32 (N : Int)] W (As.AsmPost W O2) from fun v W h hT => by rw [← hO2]; exact CA2.out v W N h hT HN.out)
  clear hlen
  go_cut [10, 11, 12] (fun s10 s11 s12 wx => As.Box w4 O2 s10 s11 s12 wx)
  case first =>
    have x0a := (HX1.out.kept ((Below.refl _ _).alloc (Nat.le_refl _) (.cells #[.slice none 0 0, .slice none 0 0] 50))).cell 0
    go_region_with (first
      | (go_at_call 11; refine (CO2.out _ (by first | exact HB4.out | exact HB4.out.drew | exact HB4.out.alloc HB4.out.size _ | exact HB4.out.drew.alloc HB4.out.size _ | exact (HB4.out.alloc HB4.out.size _).drew)).mono ?_; rintro e w5 ⟨v5, cs5, rfl, hc5⟩; have hb45 : Below w4.heap.size w4 w5 := (by first | exact (Below.refl _ _).drew.trans hc5.below | exact ((Below.refl w4.heap.size w4).drew.alloc (Nat.le_refl _) _).trans (hc5.below.mono (by simp)) | exact ((Below.refl w4.heap.size w4).alloc (Nat.le_refl _) _).drew.trans (hc5.below.mono (by simp))); have x5 := (HX1.out.kept hb45).cell 0; have x5a := ((HX1.out.kept hb45).kept ((Below.refl _ _).alloc (Nat.le_refl _) (.cells #[.slice none 0 0, .slice none 0 0] 50))).cell 0; have HV5 := Lib.hid hc5.rd; have HB45 := Lib.hid hb45; obtain ⟨A5, c5, rfl⟩ := hc5.rd.form; (first | (have HZ := Lib.hid (show Bk w5 w4.heap.size 50 #[.slice none 0 0, .slice none 0 0] from Bk.kept (w := (w4.alloc (.cells #[.slice none 0 0, .slice none 0 0] 50)).drew) (Bk.fresh w4 50 #[.slice none 0 0, .slice none 0 0]) hc5.below)) | (have HZ := Lib.hid (show Bk w5 w4.heap.size 50 #[.slice none 0 0, .slice none 0 0] from Bk.kept (w := w4.drew.alloc (.cells #[.slice none 0 0, .slice none 0 0] 50)) (Bk.fresh w4.drew 50 #[.slice none 0 0, .slice none 0 0]) hc5.below)) | skip); clear hb45 hc5)
      | (go_at_call 26
         have HW5 := Lib.hid (HB4.out.trans (HB45.out.mono HB4.out.size))
         refine (CAN.out _ _ (by first | exact HV5.out | exact HV5.out.kept ((Below.refl _ _).alloc (Nat.le_refl _) _)) (by first | exact HT.out.kept HW5.out | exact HT.out.kept (HW5.out.alloc HW5.out.size _))).mono ?_
         rintro e w6 ⟨vb2, vs2, rfl, hrb2, hrs2, hfb2, hfs2, hb6⟩
         have HRB2 := Lib.hid hrb2
         have HRS2 := Lib.hid hrs2
         have HFB2 := Lib.hid hfb2
         have HFS2 := Lib.hid hfs2
         have HB46 := Lib.hid (show Below w4.heap.size w4 w6 from by first | exact HB45.out.trans (hb6.mono HB45.out.size) | exact (HB45.out.alloc HB45.out.size _).trans (hb6.mono (by have := HB45.out.size; simp; omega)))
         have x6 := (HX1.out.kept HB46.out).cell 0
         obtain ⟨Ab2, cb2, rfl⟩ := hrb2.form
         obtain ⟨As2, cs2, rfl⟩ := hrs2.form
         first
           | (have hz6 := HZ.out.kept hb6
              have HZ6 := Lib.hid hz6
              have HLT := Lib.hid HZ.out.lt
              have y0 := hz6.cell 0
              have y1 := hz6.cell 1
              have f0 := hz6.free 0
              have f1 := hz6.free 1
              clear hz6)
           | (have hz6 := Bk.kept (w := w5.alloc (.cells #[.slice none 0 0, .slice none 0 0] 50)) (Bk.fresh w5 50 #[.slice none 0 0, .slice none 0 0]) hb6
              have HZ6 := Lib.hid hz6
              have HLT := Lib.hid (show w5.heap.size < (w5.alloc (.cells #[.slice none 0 0, .slice none 0 0] 50)).heap.size from by simp)
              have y0 := hz6.cell 0
              have y1 := hz6.cell 1
              have f0 := hz6.free 0
              have f1 := hz6.free 1
              clear hz6)
           | skip
         clear hrb2 hrs2 hfb2 hfs2 hb6))
    all_goals go_wp2_with fail
    all_goals go_meet
    all_goals first
      | exact As.Box.last HRB2.out HRS2.out HB46.out
      | exact As.Box.set HZ6.out HLT.out (Nat.le_refl _) HFB2.out HFS2.out HRB2.out HRS2.out HB46.out
      | exact As.Box.set HZ6.out HLT.out HB45.out.size HFB2.out HFS2.out HRB2.out HRS2.out HB46.out
  case rest =>
  obtain ⟨g2, vb2, vs2, rfl, rfl, rfl, hk2, hrb2, hrs2, hbc⟩ := hcut
  have HBC := Lib.hid (show Below w.heap.size w wc from HB4.out.trans (hbc.mono HB4.out.size))
  have HX1C := Lib.hid (HX1.out.kept hbc)
  have HRB1C := Lib.hid (HRB1.out.kept hbc)
  have HRS1C := Lib.hid (HRS1.out.kept hbc)
  have HX2C := Lib.hid hk2
  have HRB2C := Lib.hid hrb2
  have HRS2C := Lib.hid hrs2
  obtain ⟨Ab2, cb2, rfl⟩ := hrb2.form
  obtain ⟨As2, cs2, rfl⟩ := hrs2.form
  clear hrem hrem2 hmul hat hk2 hrb2 hrs2 hbc x0 HX1 HRB1 HRS1 HB4 hl32 hadd
  go_wp2_with fail
  go_at_call 11
  refine (CO1.out _ HBC.out).mono ?_
  rintro e w7 ⟨v7, cs7, rfl, hc7⟩
  have HC7 := Lib.hid hc7
  have HB7 := Lib.hid (HBC.out.trans (hc7.below.mono HBC.out.size))
  obtain ⟨A7, c7, rfl⟩ := hc7.rd.form
  clear hc7
  go_wp2_with fail
  go_at_call 11
  refine (CO2.out _ HB7.out).mono ?_
  rintro e w8 ⟨v8, cs8, rfl, hc8⟩
  have HC8 := Lib.hid hc8
  have HB8 := Lib.hid (HB7.out.trans (hc8.below.mono HB7.out.size))
  have HO1 := Lib.hid (HC7.out.kept hc8.below).own
  have HLN1 := Lib.hid (HC7.out.kept hc8.below).lines
  have HS8 := Lib.hid (Rd.src llrt (Rd.of_own hc8.own) (As.lines_one hc8.lines))
  have HLL := Lib.hid (show (l.length + m.length) * 64 ≤ 140737488355328 ∧ l.length + m.length ≤ maxLen from by have := HS1.out.1; have := HS2.out.1; unfold maxLen; omega)
  have HZ8 := Lib.hid (show wc.heap.size ≤ w8.heap.size from Nat.le_trans HC7.out.below.size hc8.below.size)
  have HBC8 := Lib.hid (show Below wc.heap.size wc w8 from HC7.out.below.trans (hc8.below.mono HC7.out.below.size))
  obtain ⟨A8, c8, rfl⟩ := hc8.rd.form
  clear hc8
  go_wp2_with (at_builtin; refine wpList_appendRB rfl _ _ _ _ rfl llrt (by decide) wc.heap.size (.slice A7 l.length c7) rfl l.length cs7 HO1.out _ rfl m.length cs8 HS8.out HLL.out.1 HLL.out.2 HZ8.out ?_; intro v9 w9 ho9 hb9 hg9 hv9; have HO9 := Lib.hid ho9; have HB9 := Lib.hid hb9; have HG9 := Lib.hid hg9; obtain ⟨A9, c9, rfl⟩ := (Rd.of_own ho9).form; clear ho9 hb9 hg9 hv9)
  have HRL9 := Lib.hid (show RdL w9 (.slice A9 (l.length + m.length) c9) (l ++ m) from ⟨cs7 ++ cs8, by rw [List.length_append]; exact Rd.of_own HO9.out, As.lines_app (LinesZ.rd (HLN1.out.map fun _ _ hz => OwnZ.grown (by decide) HO1.out HG9.out hz)) (LinesZ.rd (HC8.out.lines.map fun _ _ hz => OwnZ.grown (by decide) HO1.out HG9.out hz))⟩)
  have HBC9 := Lib.hid (show Below wc.heap.size wc w9 from HBC8.out.trans HB9.out)
  have HW9 := Lib.hid (HBC.out.trans (HBC9.out.mono HBC.out.size))
  go_at_call 26
  refine (CA3.out _ _ HRL9.out (HT.out.kept HW9.out)).mono ?_
  rintro e w10 ⟨vb3, vs3, rfl, hrb3, hrs3, _, _, hb10⟩
  obtain ⟨Ab3, cb3, rfl⟩ := hrb3.form
  obtain ⟨As3, cs3_, rfl⟩ := hrs3.form
  have hbx := Bk.fresh w10 50 #[.slice Ab3 O3.bytes.length cb3, .slice As3 O3.syms.length cs3_]
  have hal : Below w10.heap.size w10 (w10.alloc (.cells #[.slice Ab3 O3.bytes.length cb3, .slice As3 O3.syms.length cs3_] 50)) := (Below.refl _ _).alloc (Nat.le_refl _) _
  obtain ⟨w11, hw11⟩ : ∃ w11, w10.alloc (.cells #[.slice Ab3 O3.bytes.length cb3, .slice As3 O3.syms.length cs3_] 50) = w11 := ⟨_, rfl⟩
  rw [hw11] at hbx hal
  have hbc11 : Below wc.heap.size wc w11 := HBC9.out.trans ((hb10.trans (hal.mono hb10.size)).mono HBC9.out.size)
  have HX3 := Lib.hid hbx
  have HRB3 := Lib.hid (hrb3.kept hal)
  have HRS3 := Lib.hid (hrs3.kept hal)
  have HX1 := Lib.hid (HX1C.out.kept hbc11)
  have HX2 := Lib.hid (HX2C.out.kept hbc11)
  have HRB1 := Lib.hid (HRB1C.out.kept hbc11)
  have HRB2 := Lib.hid (HRB2C.out.kept hbc11)
  have HB11 := Lib.hid (show Below w.heap.size w w11 from HBC.out.trans (hbc11.mono HBC.out.size))
  clear hrb3 hrs3 hb10 hbx hal hbc11
  go_wp2_with fail
  clear hw11
  generalize w10.heap.size = g3 at *
  by_cases he2 : O2.err = 0
  rotate_left
  · have hne2 : ((O2.err : Int) != 0) = true := by rw [bne_iff_ne]; omega
    go_wp2_with (first | (go_at_call 27; refine (anum7_any _ _).mono ?_; rintro e w' ⟨rfl, rfl⟩) | (go_at_call 28; refine (CK.out _ (HT.out.kept HB11.out)).mono ?_; rintro e w12 ⟨rfl, hb12⟩))
    go_ret
    exact ⟨rfl, HB11.out.trans (hb12.mono HB11.out.size)⟩
  have hz2 : (O2.err : Int) = 0 := by omega
  have hlaw := HLAW.out HE1.out he2
  by_cases he3 : O3.err = 0
  rotate_left
  · have h46 : (O3.err : Int) = 42 ∨ (O3.err : Int) = 6 := by
      rcases hlaw with h | h | h
      · left; omega
      · right; omega
      · exact absurd (by rw [h]) he3
    have he31 : ((O3.err : Int) != 0) = true := by rw [bne_iff_ne]; omega
    clear hlaw he3
    rcases h46 with h46 | h46
    · go_wp2_with (first | (go_at_call 27; refine (anum7_any _ _).mono ?_; rintro e w' ⟨rfl, rfl⟩) | (go_at_call 28; refine (CK.out _ (HT.out.kept HB11.out)).mono ?_; rintro e w12 ⟨rfl, hb12⟩))
      go_ret
      exact ⟨rfl, HB11.out.trans (hb12.mono HB11.out.size)⟩
    · go_wp2_with (first | (go_at_call 27; refine (anum7_any _ _).mono ?_; rintro e w' ⟨rfl, rfl⟩) | (go_at_call 28; refine (CK.out _ (HT.out.kept HB11.out)).mono ?_; rintro e w12 ⟨rfl, hb12⟩))
      go_ret
      exact ⟨rfl, HB11.out.trans (hb12.mono HB11.out.size)⟩
  have hO3 : O3 = ⟨O1.bytes ++ O2.bytes, O1.syms ++ O2.syms, 0, 0⟩ := by
    rcases hlaw with h | h | h
    · omega
    · omega
    · exact h
  have hz3 : (O3.err : Int) = 0 := by omega
  have hb3 : O3.bytes = O1.bytes ++ O2.bytes := by rw [hO3]
  have hs3 : (O3.syms.length : Int) = (O1.syms.length : Int) + (O2.syms.length : Int) := by rw [hO3, List.length_append]; omega
  have k1 := As.str_of HRB1.out
  have k2 := As.str_of HRB2.out
  have k3 := As.str_of HRB3.out
  have x1 := HX1.out.cell 0
  have x2 := HX2.out.cell 0
  have x3 := HX3.out.cell 0
  have y1 := HX1.out.cell 1
  have y2 := HX2.out.cell 1
  have y3 := HX3.out.cell 1
  have hsum : ¬ 9223372036854775807 < O1.bytes.length + O2.bytes.length := by
    have h1 := HL1.out
    obtain ⟨_, A, c, e, h2, h3, _⟩ := HRB3.out
    rw [hb3, List.length_append] at e h2
    unfold maxLen at h3
    omega
  have hcmp : (O3.bytes == O1.bytes ++ O2.bytes) = true := by rw [hb3]; simp
  have hs4 : IntKind.i64.wrap ((O1.syms.length : Int) + (O2.syms.length : Int)) = (O3.syms.length : Int) := by
    obtain ⟨_, A, c, e, h2, h3, _⟩ := HRS3.out
    unfold maxLen at h3
    rw [IntKind.wrap_i64]
    omega
  have hcat : ((⟨O1.bytes.toArray⟩ : ByteArray) ++ (⟨O2.bytes.toArray⟩ : ByteArray)).toList = O1.bytes ++ O2.bytes := by rw [app_eq, ByteArray.toList_mk]
  clear hO3 hlaw he3 he2 hb3 hs3
  go_wp2_with (first | (go_at_call 27; refine (anum7_any _ _).mono ?_; rintro e w' ⟨rfl, rfl⟩) | (go_at_call 28; refine (CK.out _ (HT.out.kept HB11.out)).mono ?_; rintro e w12 ⟨rfl, hb12⟩))
  go_ret
  exact ⟨rfl, HB11.out.trans (hb12.mono HB11.out.size)⟩
end Go.Proofs.YtfafdkbnmfpbmaaDoor
/- Layer 7: the law AsmParts, as its row asks. -/
namespace Go.Proofs.YtfafdkbnmfpbmaaDoor
open Go.RowKit Kit
set_option linter.unusedVariables false
set_option linter.unusedSimpArgs false

theorem walk_asmParts (v1 : Value) (l : List L6.Line) (v2 : Value) (m : List L6.Line) (n : Int) (w : World) (h1 : RdL w v1 l ∧ L6.Small l) (h2 : RdL w v2 m ∧ L6.Small m) (hn : 0 ≤ n ∧ n ≤ 4294967295) (hL : laidMetH Tryd.prog Rows.asmPartsRow.laid w) :
    Calls Tryd.prog 8 #[v1, v2, .int .u32 n] w fun e w' => e = .returned (.bool true) ∧ Below w.heap.size w w' := by
  obtain ⟨k, rfl⟩ := Int.eq_ofNat_of_zero_le hn.1
  exact core_asmParts v1 v2 l m k w h1.1 h2.1 h1.2 h2.2 (by omega) (L6.tab_of hL)
end Go.Proofs.YtfafdkbnmfpbmaaDoor
