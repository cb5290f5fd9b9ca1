/- Texts joined: AsKnow, AsManyP, AsManyW, AsManyV. -/
import Derived.Test.YtfafdkbnmfpbmaaDoorMG
import Derived.Test.YtfafdkbnmfpbmaaDoorL6Parse
import Derived.Test.YtfafdkbnmfpbmaaDoorL6Rd
import Derived.Laws.MakeOwn
import Derived.Test.YtfafdkbnmfpbmaaDoorL6Tab
import Derived.Test.YtfafdkbnmfpbmaaDoorL6Open
/- Layer 7: a text assembled; what must come. -/
namespace Go.Proofs.YtfafdkbnmfpbmaaDoor
open Go.RowKit Kit
set_option linter.unusedVariables false
set_option linter.unusedSimpArgs false

theorem anum7_any (n : Int) (w : World) : Calls Tryd.prog 27 #[.int .i64 n] w fun e w' => e = .returned (.int .i64 n) ∧ w = w' := by
  go_enter Tryd.func27, Tryd.ntmps27
  go_wp2
  go_ret
  exact ⟨rfl, rfl⟩
/-- Bytes that are read, as a text. -/
theorem As.str_of {w : World} {v : Value} {b : List UInt8} (h : Rd w 1 v b.length (bv b)) : (convert 47 9 v).run Tryd.prog w = .ok (.string ⟨b.toArray⟩) w := by
  obtain ⟨_, A, c, rfl, _, _, h4⟩ := h
  cases b with
  | nil =>
    cases A with
    | none => exact run_convert_bytes_nil (w := w) 47 5 Tryd.underlying47 Tryd.underlying5 0 c 9 Tryd.underlying9
    | some a => exact run_convert_bytes_back w 47 9 5 a c [] Tryd.underlying47 Tryd.underlying5 Tryd.underlying9 fun j hj => by simp at hj
  | cons x t =>
    obtain ⟨g, off, rfl, hg, hc⟩ := h4 (by simp)
    refine run_convert_bytes_back w 47 9 5 ⟨g, off, none⟩ c (x :: t) Tryd.underlying47 Tryd.underlying5 Tryd.underlying9 fun j hj => ?_
    rw [addr_add]
    exact hc j _ (by simp only [bv, List.getElem?_map, List.getElem?_eq_getElem hj, Option.map_some])
/-- What Source hands back. -/
def As.SrcPost (w : World) (r : As.O) (e : Ending) (w' : World) : Prop :=
  ∃ vb vs, e = .returned (.tuple #[.agg #[vb, vs], .bool (decide (r.err = 0))]) ∧ Rd w' 1 vb r.bytes.length (bv r.bytes) ∧ Rd w' 2 vs r.syms.length (As.symC r.syms) ∧ As.From w.heap.size vb ∧ As.From w.heap.size vs ∧ Below w.heap.size w w'
set_option maxRecDepth 100000 in
set_option maxHeartbeats 8000000 in
theorem asource_any {w : World} (s : List UInt8) (a : Nat) (ls : List L6.Line) (hT : L6.Tab w) (hs : s.length ≤ 1000000000) (hp : L6.parse s = (ls, 0, 0)) (hls : ls.length ≤ 1000000000) (hx : ∀ x ∈ ls, As.LOk x) (ha : a < 4294967296) :
    Calls Tryd.prog 50 #[.string ⟨s.toArray⟩, .int .u32 (a : Int)] w (As.SrcPost w (As.assemble ls a)) := by
  have hbk := Bk.fresh w 50 #[.slice none 0 0, .slice none 0 0]
  have hal : Below w.heap.size w (w.alloc (.cells #[.slice none 0 0, .slice none 0 0] 50)) := (Below.refl _ _).alloc (Nat.le_refl _) _
  obtain ⟨w1, hw1⟩ : ∃ w1, w.alloc (.cells #[.slice none 0 0, .slice none 0 0] 50) = w1 := ⟨_, rfl⟩
  rw [hw1] at hbk hal
  have hT1 := hT.kept hal
  have CP := lparse_any s w1 hs
  unfold ParsePost at CP
  rw [hp] at CP
  have CP := Lib.hid CP
  have HT1 := Lib.hid hT1
  have HAL := Lib.hid hal
  have HBK := Lib.hid hbk
  have CA := Lib.hid (fun v W (h : RdL W v ls) (hT : L6.Tab W) => aassemble_any v ls a h hT hls hx ha)
  clear hbk hal hT hT1 hs hp hls hx ha
  generalize As.assemble ls a = O at *
  go_enter Tryd.func50, Tryd.ntmps50
  go_wp2_with fail
  go_at_call 29
  refine CP.out.mono ?_
  rintro e w2 ⟨v2, rfl, hv2, hb2⟩
  have HB2 := Lib.hid (HAL.out.trans (hb2.mono HAL.out.size))
  have HK2 := Lib.hid (HBK.out.kept hb2)
  have HV2 := Lib.hid hv2.rd
  have HT2 := Lib.hid (HT1.out.kept hb2)
  obtain ⟨A2, c2, rfl⟩ := hv2.rd.form
  clear hv2 hb2 hw1
  go_wp2_with fail
  go_at_call 26
  refine (CA.out _ _ HV2.out HT2.out).mono ?_
  rintro e w3 ⟨vb, vs, rfl, hrb, hrs, hfb, hfs, hb3⟩
  have HB3 := Lib.hid (HB2.out.trans (hb3.mono HB2.out.size))
  have HK3 := Lib.hid (HK2.out.kept hb3)
  have HRB := Lib.hid hrb
  have HRS := Lib.hid hrs
  obtain ⟨Ab, cb, rfl⟩ := hrb.form
  obtain ⟨As_, cs, rfl⟩ := hrs.form
  have HFB := Lib.hid (hfb.mono (show w.heap.size + 1 ≤ w2.heap.size from HK2.out.lt))
  have HFS := Lib.hid (hfs.mono (show w.heap.size + 1 ≤ w2.heap.size from HK2.out.lt))
  clear hrb hrs hfb hfs hb3
  have hbx := Bk.fresh w3 50 #[.slice Ab O.bytes.length cb, .slice As_ O.syms.length cs]
  have hk4 : Bk (w3.alloc (.cells #[.slice Ab O.bytes.length cb, .slice As_ O.syms.length cs] 50)) w.heap.size 50 _ := HK3.out.kept ((Below.refl _ _).alloc (Nat.le_refl _) _)
  have x0 := hbx.cell 0
  have x1 := hbx.cell 1
  have HX := Lib.hid hbx
  have HK4 := Lib.hid hk4
  have HB4 := Lib.hid (HB3.out.alloc HB3.out.size (.cells #[.slice Ab O.bytes.length cb, .slice As_ O.syms.length cs] 50))
  have HRB4 := Lib.hid (HRB.out.kept ((Below.refl _ _).alloc (Nat.le_refl _) (.cells #[.slice Ab O.bytes.length cb, .slice As_ O.syms.length cs] 50)))
  have HRS4 := Lib.hid (HRS.out.kept ((Below.refl _ _).alloc (Nat.le_refl _) (.cells #[.slice Ab O.bytes.length cb, .slice As_ O.syms.length cs] 50)))
  have hne : w3.heap.size ≠ w.heap.size := by have := HK3.out.lt; omega
  go_wp2_with fail
  obtain ⟨w4, hw4⟩ : ∃ w4, w3.alloc (.cells #[.slice Ab O.bytes.length cb, .slice As_ O.syms.length cs] 50) = w4 := ⟨_, rfl⟩
  rw [hw4] at HX HK4 HB4 HRB4 HRS4 x0 x1 ⊢
  have y0 := HK4.out.cell 0
  have y1 := HK4.out.cell 1
  have z0 := HK4.out.free 0
  have z1 := HK4.out.free 1
  clear hbx hk4 hw4
  generalize w3.heap.size = g3 at *
  go_region_held3 (fun W' => W'.cell? ⟨g3, 0, none⟩ = some (.slice Ab O.bytes.length cb) ∧ W'.cell? ⟨g3, 1, none⟩ = some (.slice As_ O.syms.length cs)) (first | exact ⟨x0, x1⟩ | (constructor <;> (go_simp; first | done | assumption)) | go_keep)
    ((go_at_call 27; refine (anum7_any _ _).mono ?_; rintro e w' ⟨rfl, rfl⟩))
  go_wp2_with fail
  have hkk := (HK4.out.set 0 (.slice Ab O.bytes.length cb)).set 1 (.slice As_ O.syms.length cs)
  have p0 := hkk.cell 0
  have p1 := hkk.cell 1
  have he : ((O.err : Int) == 0) = decide (O.err = 0) := by rw [Bool.eq_iff_iff, beq_iff_eq, decide_eq_true_eq]; omega
  refine bodyPost_ret (v := .tuple #[.agg #[.slice Ab O.bytes.length cb, .slice As_ O.syms.length cs], .bool (decide (O.err = 0))]) (by simp [results, Tryd.results50, go_sem, p0, p1, he]) rfl ?_
  have t1 := But.setCell w4 w.heap.size 0 (.slice Ab O.bytes.length cb)
  have t2 := But.setCell (w4.setCell ⟨w.heap.size, 0, none⟩ (.slice Ab O.bytes.length cb)) w.heap.size 1 (.slice As_ O.syms.length cs)
  refine ⟨_, _, rfl, ?_, ?_, HFB.out.mono (Nat.le_succ _), HFS.out.mono (Nat.le_succ _), ((HB4.out.setCell (Nat.le_refl _) _).setCell (Nat.le_refl _) _).drew⟩
  · exact (((HRB4.out.but t1 (HFB.out.off (Nat.lt_succ_self _))).but t2 (HFB.out.off (Nat.lt_succ_self _)))).kept (Below.refl _ _).drew
  · exact (((HRS4.out.but t1 (HFS.out.off (Nat.lt_succ_self _))).but t2 (HFS.out.off (Nat.lt_succ_self _)))).kept (Below.refl _ _).drew
/-- What must come: a jump to itself. -/
def As.known : List UInt8 := [97, 58, 32, 106, 32, 97, 10, 98, 58, 32, 119, 111, 114, 100, 32, 97, 32, 98]
def As.knownL : List L6.Line := [⟨[[97]], [106], [[97]]⟩, ⟨[[98]], [119, 111, 114, 100], [[97], [98]]⟩]
def As.knownB : List UInt8 := [111, 0, 0, 0, 8, 0, 0, 0, 12, 0, 0, 0]
theorem As.known_parse : L6.parse As.known = (As.knownL, 0, 0) := by decide +kernel
theorem As.known_asm : As.assemble As.knownL 8 = ⟨As.knownB, [([97], 8), ([98], 12)], 0, 0⟩ := by kernel_rfl
set_option maxRecDepth 100000 in
set_option maxHeartbeats 4000000 in
theorem aknows_any (w : World) (hT : L6.Tab w) : Calls Tryd.prog 28 #[] w fun e w' => e = .returned (.bool true) ∧ Below w.heap.size w w' := by
  have CS := asource_any As.known 8 As.knownL hT (by decide) As.known_parse (by decide) (fun x hx => by
    unfold As.knownL at hx
    simp only [List.mem_cons, List.not_mem_nil, or_false] at hx
    rcases hx with rfl | rfl <;> exact ⟨by decide, by decide, by unfold As.Lo; decide, by unfold As.Lo; decide⟩) (by decide)
  rw [As.known_asm] at CS
  have CS := Lib.hid CS
  clear hT
  go_enter Tryd.func28, Tryd.ntmps28
  go_wp2_with fail
  go_at_call 50
  refine CS.out.mono ?_
  rintro e w2 ⟨vb, vs, rfl, hrb, hrs, hfb, hfs, hb2⟩
  dsimp only at hrb hrs ⊢
  have HB2 := Lib.hid hb2
  have hconv := fun W (hW : Below w2.heap.size w2 W) => As.str_of (hrb.kept hW)
  obtain ⟨Ab, cb, rfl⟩ := hrb.form
  obtain ⟨_, A, c, rfl, _, _, h4⟩ := hrs
  obtain ⟨g, off, rfl, hg, hc⟩ := h4 (by decide)
  have hc3 := hc 3 (.int .u32 12) rfl
  have hx := Bk.fresh w2 50 #[.slice Ab As.knownB.length cb, .slice (some ⟨g, off, none⟩) 2 c]
  have x0 := hx.cell 0
  have x1 := hx.cell 1
  have hal : Below w2.heap.size w2 (w2.alloc (.cells #[.slice Ab As.knownB.length cb, .slice (some ⟨g, off, none⟩) 2 c] 50)) := (Below.refl _ _).alloc (Nat.le_refl _) _
  have hcv := hconv _ hal
  have hc4 := (hal.cell (p := ⟨g, off + 3, none⟩) hg).trans hc3
  have HAL := Lib.hid hal
  clear hconv hc hal hx
  go_wp2_with fail
  go_ret
  exact ⟨rfl, HB2.out.trans (HAL.out.mono HB2.out.size)⟩
end Go.Proofs.YtfafdkbnmfpbmaaDoor
/- Layer 7: the lines of the law AsmMany. Plain, and in memory. -/
namespace Go.Proofs.YtfafdkbnmfpbmaaDoor
open Go.RowKit Kit
set_option linter.unusedVariables false
set_option linter.unusedSimpArgs false

def As.none_ : L6.Line := ⟨[], [], []⟩
theorem As.pieces_none (a : Nat) : As.pieces As.none_ a = some [] := by unfold As.pieces; rw [if_pos (show As.none_.word = [] from rfl)]
theorem As.first_none (a : Nat) (sy : List (List UInt8 × Nat)) : ∀ (n i here : Nat), here ≤ 131072 → As.first a i here sy (List.replicate n As.none_) = .ok sy
  | 0, i, here, h => rfl
  | n + 1, i, here, h => by
    rw [List.replicate_succ]
    unfold As.first
    rw [As.pieces_none]
    show (if As.lead [] = true ∧ _ then _ else if 131072 < here + As.size [] then _ else _) = _
    rw [if_neg (fun e => by cases e.1), if_neg (by show ¬ 131072 < here + 0; omega)]
    exact As.first_none a sy n (i + 1) (here + 0) (by omega)
theorem As.second_none (a : Nat) (sy : List (List UInt8 × Nat)) (b : List UInt8) : ∀ (n i : Nat), As.second sy a i b (List.replicate n As.none_) = .ok b
  | 0, i => rfl
  | n + 1, i => by
    rw [List.replicate_succ]
    unfold As.second
    rw [As.pieces_none]
    have h : As.puts sy a ((some ([] : List As.P)).getD []) b = (b, 0) := rfl
    rw [h]
    dsimp only
    rw [if_pos rfl]
    exact As.second_none a sy b n (i + 1)
theorem As.assemble_none (n : Nat) (h : n ≤ 32768) : As.assemble (List.replicate n As.none_) 0 = ⟨[], [], 0, 0⟩ := by
  unfold As.assemble
  rw [if_neg (by rw [List.length_replicate]; omega)]
  unfold As.passes
  rw [As.first_none 0 [] n 0 0 (by omega)]
  dsimp only
  rw [As.second_none 0 [] [] n 0]
theorem As.assemble_many (n : Nat) (h : 32768 < n) : As.assemble (List.replicate n As.none_) 0 = ⟨[], [], 0, 6⟩ := by
  unfold As.assemble
  rw [if_pos (by rw [List.length_replicate]; exact .inl h)]
def As.spaceL : L6.Line := ⟨[], As.tSpace, [[49, 51, 49, 48, 55, 50]]⟩
def As.byteL : L6.Line := ⟨[], As.tByte, [[49]]⟩
theorem As.num_space : L6.number [49, 51, 49, 48, 55, 50] = (131072, true) := by decide +kernel
theorem As.pieces_space (a : Nat) : As.pieces As.spaceL a = some [As.raw (List.replicate 131072 0)] := by
  unfold As.pieces As.spaceL
  rw [if_neg (by decide)]
  have h1 : Is.isName ⟨As.tSpace.toArray⟩ = false := by decide
  have h2 : ∀ x, As.pseudo As.tSpace x = none := fun x => by
    unfold As.pseudo
    rw [if_neg (by decide), if_neg (by decide), if_neg (by decide), if_neg (by decide), if_neg (by decide), if_neg (by decide), if_neg (by decide), if_neg (by decide), if_neg (by decide), if_neg (by decide), if_neg (by decide)]
  have h3 : As.num ⟨[[49, 51, 49, 48, 55, 50]], true, []⟩ = (131072, ⟨[], true, []⟩) := by
    unfold As.num As.next As.sat
    dsimp only
    rw [As.num_space]
    rfl
  have h4 : As.read As.tSpace a ⟨[[49, 51, 49, 48, 55, 50]], true, []⟩ = some (As.put (As.raw (List.replicate 131072 0)) ⟨[], true, []⟩) := by
    unfold As.read
    rw [if_neg (by rw [h1]; decide), h2]
    dsimp only
    unfold As.data
    rw [if_neg (by decide), if_neg (by decide), if_neg (by decide), if_pos rfl, h3]
    have h5 : As.spaceOk 131072 = true := by decide
    dsimp only
    rw [h5, if_pos (show (true && true) = true from rfl)]
    rfl
  dsimp only
  rw [h4]
  rfl
theorem As.size_space : As.size [As.raw (List.replicate 131072 0)] = 131072 := by
  unfold As.size
  rw [List.map_cons, List.map_nil, List.sum_cons, List.sum_nil]
  unfold As.size1 As.raw
  dsimp only
  rw [List.length_replicate]
  rfl
theorem As.first_space (i : Nat) (sy : List (List UInt8 × Nat)) (r : List L6.Line) : As.first 4 i 0 sy (As.spaceL :: r) = As.first 4 (i + 1) 131072 sy r := by
  conv => lhs; unfold As.first
  rw [As.pieces_space]
  show (if As.lead [As.raw _] = true ∧ _ then _ else if 131072 < 0 + As.size _ then _ else As.first 4 (i + 1) (0 + As.size _) sy r) = _
  rw [As.size_space, if_neg (fun e => by cases e.1), if_neg (by omega)]
theorem As.pieces_byte (a : Nat) : ∃ p, As.pieces As.byteL a = some [p] ∧ p.code = false ∧ p.bytes.length = 1 := ⟨As.raw [1], by rfl, rfl, rfl⟩
theorem As.assemble_big : As.assemble [As.spaceL, As.byteL] 4 = ⟨[], [], 2, 6⟩ := by
  unfold As.assemble
  rw [if_neg (by decide)]
  unfold As.passes
  rw [As.first_space]
  obtain ⟨p, h1, h2, h3⟩ := As.pieces_byte (As.at32 (4 + 131072))
  have h : As.first 4 (0 + 1) 131072 [] [As.byteL] = .bad 2 6 := by
    unfold As.first
    rw [h1]
    show (if As.lead [p] = true ∧ _ then _ else if 131072 < 131072 + As.size [p] then _ else _) = _
    have h4 : As.size [p] = 1 := by
      unfold As.size
      rw [List.map_cons, List.map_nil, List.sum_cons, List.sum_nil]
      unfold As.size1
      rw [h2, h3]
      rfl
    rw [if_neg (fun e => by have e1 : p.code = true := e.1; rw [h2] at e1; cases e1), h4, if_pos (by omega)]
  rw [h]
theorem As.assemble_space : (As.assemble [As.spaceL] 4).line = 0 ∧ (As.assemble [As.spaceL] 4).err = 0 := by
  have h : As.assemble [As.spaceL] 4 = ⟨List.replicate 131072 0, [], 0, 0⟩ := by
    unfold As.assemble
    rw [if_neg (by decide)]
    unfold As.passes
    rw [As.first_space]
    have h1 : As.first 4 (0 + 1) 131072 [] [] = .ok [] := rfl
    rw [h1]
    dsimp only
    have h2 : As.second [] 4 0 [] [As.spaceL] = .ok (List.replicate 131072 0) := by
      unfold As.second
      rw [As.pieces_space]
      have h3 : As.puts [] 4 ((some [As.raw (List.replicate 131072 0)]).getD []) [] = (List.replicate 131072 0, 0) := by
        show As.puts [] 4 [As.raw (List.replicate 131072 0)] [] = _
        unfold As.puts
        have h4 : ∀ a, As.piece [] (As.raw (List.replicate 131072 0)) a = (List.replicate 131072 0, 0) := fun a => by unfold As.piece; rw [if_pos ⟨rfl, rfl⟩]; rfl
        rw [h4, if_pos rfl]
        rfl
      rw [h3, if_pos rfl]
      rfl
    rw [h2]
  rw [h]
  exact ⟨rfl, rfl⟩
theorem As.no_lines (a : Nat) (h : a % 4 = 0) : As.assemble [] a = ⟨[], [], 0, 0⟩ := by
  unfold As.assemble
  rw [if_neg (by show ¬ (32768 < 0 ∨ a % 4 ≠ 0); omega)]
  rfl
theorem As.no_lines_bad (a : Nat) (h : a % 4 ≠ 0) : As.assemble [] a = ⟨[], [], 0, 6⟩ := by
  unfold As.assemble
  rw [if_pos (.inr h)]
/-- Lines that were just made. -/
theorem As.make_lines (n : Nat) (hn : n ≤ 40000) (W : World) : ∃ cs, (Instr.makeSlice 25 (.int .i64 (n : Int)) (.int .i64 (n : Int))).run Tryd.prog W = .ok (.slice (some ⟨W.heap.size, 0, none⟩) n n) (W.alloc (.cells cs 42)) ∧ RdL (W.alloc (.cells cs 42)) (.slice (some ⟨W.heap.size, 0, none⟩) n n) (List.replicate n As.none_) := by
  have h : (Tryd.prog.info? 42).map (fun i => (i.zero, i.size, i.bytes)) = some (some (.agg #[.slice none 0 0, .string ByteArray.empty, .slice none 0 0]), 3, 64) := by kernel_rfl
  obtain ⟨i, hi, hz, hs1, hb1⟩ := info_parts h
  have hb : (i.bytes : Int) * (n : Int) ≤ 281474976710656 := by rw [hb1]; omega
  have hr := run_make (P := Tryd.prog) W 25 42 i _ Tryd.underlying25 hi hz .i64 .i64 n n (by omega) (by omega) hb (by omega)
  simp only [Int.toNat_natCast] at hr
  refine ⟨_, hr, ?_⟩
  have hbk := Bk.fresh W 42 (madeCells (Value.agg #[.slice none 0 0, .string ByteArray.empty, .slice none 0 0]).cells (n * i.size))
  rw [hs1] at hbk ⊢
  let f : L6.Line → List Value := fun _ => [.slice none 0 0, .string ⟨#[]⟩, .slice none 0 0]
  have hf : ∀ x, (f x).length = 3 := fun _ => rfl
  refine ⟨(List.replicate n As.none_).flatMap f, ⟨by rw [flat_length f 3 hf], some ⟨W.heap.size, 0, none⟩, n, by rw [List.length_replicate], by rw [List.length_replicate]; exact Nat.le_refl _, by unfold maxLen; omega, fun _ => ⟨_, 0, rfl, hbk.lt, fun j u hu => ?_⟩⟩, ?_⟩
  · rw [Nat.zero_add, hbk.cell j]
    have hj : j < n * 3 := by
      have := (List.getElem?_eq_some_iff.1 hu).1
      rw [flat_length f 3 hf, List.length_replicate] at this
      exact this
    have hfl := flat_at f 3 hf (List.replicate n As.none_) (j / 3) (j % 3) As.none_ (by rw [List.length_replicate]; omega) (by omega)
    rw [show j / 3 * 3 + j % 3 = j by omega] at hfl
    rw [hfl] at hu
    have hm : (madeCells (Value.agg #[.slice none 0 0, .string ByteArray.empty, .slice none 0 0]).cells (n * 3))[j]? = (f As.none_)[j % 3]? := by
      have h3 : j % 3 = 0 ∨ j % 3 = 1 ∨ j % 3 = 2 := by omega
      simp only [madeCells, Value.cells]
      rcases h3 with h3 | h3 | h3 <;> simp [hj, h3, f] <;> rfl
    rw [hm]
    exact hu
  · have key : ∀ k, LinesRd (W.alloc (.cells (madeCells (Value.agg #[.slice none 0 0, .string ByteArray.empty, .slice none 0 0]).cells (n * 3)) 42)) (List.replicate k As.none_) ((List.replicate k As.none_).flatMap f) := by
      intro k
      induction k with
      | zero => rfl
      | succ k ih =>
        rw [List.replicate_succ, List.flatMap_cons]
        exact ⟨.slice none 0 0, .slice none 0 0, _, rfl, (OwnS.nil 0 _).rd, (OwnS.nil 0 _).rd, ih⟩
    exact key n
end Go.Proofs.YtfafdkbnmfpbmaaDoor
/- Layer 7: the walk of the law AsmMany. -/
namespace Go.Proofs.YtfafdkbnmfpbmaaDoor
open Go.RowKit Kit
set_option linter.unusedVariables false
set_option linter.unusedSimpArgs false

theorem As.lok_none (n : Nat) : ∀ x ∈ List.replicate n As.none_, As.LOk x := fun x hx => by
  rw [List.eq_of_mem_replicate hx]
  exact ⟨by decide, by decide, fun s hs => (by cases hs), fun s hs => (by cases hs)⟩
theorem As.lok_space : As.LOk As.spaceL := ⟨by decide, by decide, fun s hs => (by cases hs), by unfold As.Lo As.spaceL; decide⟩
theorem As.lok_byte : As.LOk As.byteL := ⟨by decide, by decide, fun s hs => (by cases hs), by unfold As.Lo As.byteL; decide⟩
theorem As.rds_built {w : World} {g : Nat} {t : TypeId} {cs : Array Value} {l : List (List UInt8)} {c : Nat} (h : Bk w g t cs) (hc : l.length ≤ c) (hm : c ≤ maxLen) (hcs : ∀ (j : Nat) (u : Value), (L6.sv l)[j]? = some u → cs[j]? = some u) : RdS w (.slice (some ⟨g, 0, none⟩) l.length c) l :=
  ⟨by rw [L6.sv_length, Nat.mul_one], some ⟨g, 0, none⟩, c, rfl, hc, hm, fun _ => ⟨g, 0, rfl, h.lt, fun j u hu => by rw [Nat.zero_add, h.cell j]; exact hcs j u hu⟩⟩
theorem As.bl {w W : World} {o : Obj} (h : Below w.heap.size w W) : Below w.heap.size w (W.alloc o) := h.alloc h.size o
theorem As.sv_one {x : List UInt8} {cs : Array Value} (h : cs[0]? = some (.string ⟨x.toArray⟩)) : ∀ (j : Nat) (u : Value), (L6.sv [x])[j]? = some u → cs[j]? = some u
  | 0, u, hu => by
    have hu : some (Value.string ⟨x.toArray⟩) = some u := hu
    rw [h, hu]
  | j + 1, u, hu => by
    have hu : none = some u := hu
    cases hu
theorem As.rdl_nil (W : World) : RdL W (.slice none 0 0) [] := ⟨[], ⟨rfl, none, 0, rfl, Nat.le_refl _, by unfold maxLen; omega, fun h => absurd h (Nat.lt_irrefl 0)⟩, rfl⟩
theorem As.rdl_space (W : World) (T T2 : TypeId) (g1 g2 : Nat) (h1 : g1 = W.heap.size) (h2 : g2 = W.heap.size + 1) :
    RdL ((W.alloc (.cells #[.string ⟨#[49, 51, 49, 48, 55, 50]⟩] T)).alloc (.cells #[.slice none 0 0, .string ⟨#[115, 112, 97, 99, 101]⟩, .slice (some ⟨g1, 0, none⟩) 1 1] T2)) (.slice (some ⟨g2, 0, none⟩) 1 1) [As.spaceL] := by
  subst h1
  have hA := Bk.fresh W T #[.string ⟨#[49, 51, 49, 48, 55, 50]⟩]
  have hbk := Bk.fresh (W.alloc (.cells #[.string ⟨#[49, 51, 49, 48, 55, 50]⟩] T)) T2 #[.slice none 0 0, .string ⟨#[115, 112, 97, 99, 101]⟩, .slice (some ⟨W.heap.size, 0, none⟩) 1 1]
  have hA' := hA.kept ((Below.refl (W.alloc (.cells #[.string ⟨#[49, 51, 49, 48, 55, 50]⟩] T)).heap.size _).alloc (Nat.le_refl _) (.cells #[.slice none 0 0, .string ⟨#[115, 112, 97, 99, 101]⟩, .slice (some ⟨W.heap.size, 0, none⟩) 1 1] T2))
  have e : (W.alloc (.cells #[.string ⟨#[49, 51, 49, 48, 55, 50]⟩] T)).heap.size = g2 := by rw [World.size_alloc, h2]
  rw [e] at hbk
  exact ⟨[.slice none 0 0, .string ⟨#[115, 112, 97, 99, 101]⟩, .slice (some ⟨W.heap.size, 0, none⟩) 1 1], ⟨rfl, some ⟨g2, 0, none⟩, 1, rfl, Nat.le_refl _, by unfold maxLen; omega, fun _ => ⟨_, 0, rfl, hbk.lt, fun j u hu => by rw [Nat.zero_add, hbk.cell j]; simpa using hu⟩⟩, ⟨.slice none 0 0, _, [], rfl, (OwnS.nil 0 _).rd, As.rds_built hA' (l := [[49, 51, 49, 48, 55, 50]]) (Nat.le_refl _) (by unfold maxLen; omega) (As.sv_one rfl), rfl⟩⟩
theorem As.rdl_pair (W : World) (T T1 T2 : TypeId) (g1 g2 g3 : Nat) (h1 : g1 = W.heap.size) (h2 : g2 = W.heap.size + 1) (h3 : g3 = W.heap.size + 1 + 1) :
    RdL (((W.alloc (.cells #[.string ⟨#[49, 51, 49, 48, 55, 50]⟩] T)).alloc (.cells #[.string ⟨#[49]⟩, .string ⟨#[50]⟩] T1)).alloc (.cells #[.slice none 0 0, .string ⟨#[115, 112, 97, 99, 101]⟩, .slice (some ⟨g1, 0, none⟩) 1 1, .slice none 0 0, .string ⟨#[98, 121, 116, 101]⟩, .slice (some ⟨g2, 0, none⟩) 1 2] T2)) (.slice (some ⟨g3, 0, none⟩) 2 2) [As.spaceL, As.byteL] := by
  obtain ⟨W1, hW1⟩ : ∃ W1, W.alloc (.cells #[.string ⟨#[49, 51, 49, 48, 55, 50]⟩] T) = W1 := ⟨_, rfl⟩
  have hA := Bk.fresh W T #[.string ⟨#[49, 51, 49, 48, 55, 50]⟩]
  have s1 : W1.heap.size = W.heap.size + 1 := by rw [← hW1, World.size_alloc]
  rw [hW1] at hA ⊢
  obtain ⟨W2, hW2⟩ : ∃ W2, W1.alloc (.cells #[.string ⟨#[49]⟩, .string ⟨#[50]⟩] T1) = W2 := ⟨_, rfl⟩
  have hB := Bk.fresh W1 T1 #[.string ⟨#[49]⟩, .string ⟨#[50]⟩]
  have s2 : W2.heap.size = W.heap.size + 1 + 1 := by rw [← hW2, World.size_alloc, s1]
  have b2 : Below W1.heap.size W1 W2 := by rw [← hW2]; exact (Below.refl _ _).alloc (Nat.le_refl _) _
  rw [hW2] at hB ⊢
  obtain ⟨W3, hW3⟩ : ∃ W3, W2.alloc (.cells #[.slice none 0 0, .string ⟨#[115, 112, 97, 99, 101]⟩, .slice (some ⟨g1, 0, none⟩) 1 1, .slice none 0 0, .string ⟨#[98, 121, 116, 101]⟩, .slice (some ⟨g2, 0, none⟩) 1 2] T2) = W3 := ⟨_, rfl⟩
  have hbk := Bk.fresh W2 T2 #[.slice none 0 0, .string ⟨#[115, 112, 97, 99, 101]⟩, .slice (some ⟨g1, 0, none⟩) 1 1, .slice none 0 0, .string ⟨#[98, 121, 116, 101]⟩, .slice (some ⟨g2, 0, none⟩) 1 2]
  have b3 : Below W2.heap.size W2 W3 := by rw [← hW3]; exact (Below.refl _ _).alloc (Nat.le_refl _) _
  rw [hW3] at hbk ⊢
  rw [show W2.heap.size = g3 by rw [s2, h3]] at hbk
  have hA' := (hA.kept b2).kept b3
  have hB' := hB.kept b3
  rw [show W.heap.size = g1 from h1.symm] at hA'
  rw [show W1.heap.size = g2 by rw [s1, h2]] at hB'
  exact ⟨[.slice none 0 0, .string ⟨#[115, 112, 97, 99, 101]⟩, .slice (some ⟨g1, 0, none⟩) 1 1, .slice none 0 0, .string ⟨#[98, 121, 116, 101]⟩, .slice (some ⟨g2, 0, none⟩) 1 2], ⟨rfl, some ⟨g3, 0, none⟩, 2, rfl, Nat.le_refl _, by unfold maxLen; omega, fun _ => ⟨_, 0, rfl, hbk.lt, fun j u hu => by rw [Nat.zero_add, hbk.cell j]; simpa using hu⟩⟩, ⟨.slice none 0 0, _, [.slice none 0 0, .string ⟨#[98, 121, 116, 101]⟩, .slice (some ⟨g2, 0, none⟩) 1 2], rfl, (OwnS.nil 0 _).rd, As.rds_built hA' (l := [[49, 51, 49, 48, 55, 50]]) (Nat.le_refl _) (by unfold maxLen; omega) (As.sv_one rfl), ⟨.slice none 0 0, _, [], rfl, (OwnS.nil 0 _).rd, As.rds_built hB' (l := [[49]]) (by decide) (by unfold maxLen; omega) (As.sv_one rfl), rfl⟩⟩⟩
set_option maxRecDepth 100000 in
set_option maxHeartbeats 16000000 in
theorem core_many0 (more q : Int) (w : World) (hT : L6.Tab w) (hq2 : wrap64 (Int.tmod more 3) = q) (hw1 : IntKind.i64.wrap (q + 3) = q + 3) (hr : Int.tmod (q + 3) 3 = 0) (hq : Int.tmod more 3 = q) (hqw : IntKind.i64.wrap q = q) :
    Calls Tryd.prog 7 #[.int .i64 more] w fun e w' => e = .returned (.bool true) ∧ Below w.heap.size w w' := by
  have CK := Lib.hid (fun W (hT : L6.Tab W) => aknows_any W hT)
  have CA1 := Lib.hid (fun v W (h : RdL W v (List.replicate 32767 As.none_)) (hT : L6.Tab W) => aassemble_any v (List.replicate 32767 As.none_) 0 h hT (by rw [List.length_replicate]; omega) (As.lok_none 32767) (by omega))
  rw [As.assemble_none 32767 (by decide)] at CA1
  have CA2 := Lib.hid (fun v W (h : RdL W v [As.spaceL, As.byteL]) (hT : L6.Tab W) => aassemble_any v [As.spaceL, As.byteL] 4 h hT (by decide) (fun x hx => by rcases List.mem_cons.1 hx with rfl | hx; exact As.lok_space; rw [List.mem_singleton.1 hx]; exact As.lok_byte) (by omega))
  rw [As.assemble_big] at CA2
  have CA3 := Lib.hid (fun v W (h : RdL W v []) (hT : L6.Tab W) => aassemble_any v [] 0 h hT (by decide) (fun x hx => by cases hx) (by omega))
  rw [As.no_lines 0 (by decide)] at CA3
  have CA4 := Lib.hid (fun v W (h : RdL W v [As.spaceL]) (hT : L6.Tab W) => aassemble_any v [As.spaceL] 4 h hT (by decide) (fun x hx => by rw [List.mem_singleton.1 hx]; exact As.lok_space) (by omega))
  have HO4 := Lib.hid As.assemble_space
  generalize As.assemble [As.spaceL] 4 = O4 at CA4 HO4
  obtain ⟨b4, s4, l4, e4⟩ := O4
  obtain ⟨rfl, rfl⟩ : l4 = 0 ∧ e4 = 0 := HO4.out
  have HT := Lib.hid hT
  have HMK := Lib.hid (fun W => As.make_lines 32767 (by decide) W)
  clear hT HO4
  obtain ⟨cs, hrun, hrd⟩ := HMK.out w
  have hrun : (Instr.makeSlice 25 (.int .i64 32767) (.int .i64 32767)).run Tryd.prog w = .ok (.slice (some ⟨w.heap.size, 0, none⟩) 32767 32767) (w.alloc (.cells cs 42)) := hrun
  have HRD := Lib.hid hrd
  have HAL := Lib.hid (show Below w.heap.size w (w.alloc (.cells cs 42)) from (Below.refl _ _).alloc (Nat.le_refl _) _)
  clear hrd HMK
  go_enter Tryd.func7, Tryd.ntmps7
  go_wp2_with fail
  go_at_call 26
  refine (CA1.out _ _ HRD.out (HT.out.kept HAL.out)).mono ?_
  rintro e w2 ⟨vb1, vs1, rfl, hrb1, hrs1, _, _, hb2⟩
  obtain ⟨Ab1, cb1, rfl⟩ := hrb1.form
  obtain ⟨As1, cs1, rfl⟩ := hrs1.form
  have HB2 := Lib.hid (HAL.out.trans (hb2.mono HAL.out.size))
  clear hrb1 hrs1 hb2 hrun
  dsimp only
  go_wp2_with fail
  go_at_call 26
  have HB2' := Lib.hid (As.bl (o := .cells #[.slice none 0 0, .string ⟨#[115, 112, 97, 99, 101]⟩, .slice (some ⟨w2.heap.size + 1, 0, none⟩) 1 1, .slice none 0 0, .string ⟨#[98, 121, 116, 101]⟩, .slice (some ⟨w2.heap.size + 1 + 1, 0, none⟩) 1 2] 42) (As.bl (o := .cells #[.string ⟨#[49]⟩, .string ⟨#[50]⟩] 9) (As.bl (o := .cells #[.string ⟨#[49, 51, 49, 48, 55, 50]⟩] 9) (As.bl (o := .cells #[.slice Ab1 0 cb1, .slice As1 0 cs1] 50) HB2.out))))
  refine (CA2.out _ _ (As.rdl_pair _ _ _ _ _ _ _ (by rw [World.size_alloc]) (by rw [World.size_alloc]) (by rw [World.size_alloc])) (HT.out.kept HB2'.out)).mono ?_
  rintro e w3 ⟨vb2, vs2, rfl, hrb2, hrs2, _, _, hb3⟩
  obtain ⟨Ab2, cb2, rfl⟩ := hrb2.form
  obtain ⟨As2, cs2, rfl⟩ := hrs2.form
  have HB3 := Lib.hid (HB2'.out.trans (hb3.mono HB2'.out.size))
  clear hrb2 hrs2 hb3 HB2 HB2'
  dsimp only
  generalize w2.heap.size = g2 at *
  go_wp2_with fail
  go_at_call 26
  have HB3' := Lib.hid (As.bl (o := .cells #[.slice Ab2 0 cb2, .slice As2 0 cs2] 50) HB3.out)
  refine (CA3.out _ _ (As.rdl_nil _) (HT.out.kept HB3'.out)).mono ?_
  rintro e w4 ⟨vb3, vs3, rfl, hrb3, hrs3, _, _, hb4⟩
  obtain ⟨Ab3, cb3, rfl⟩ := hrb3.form
  obtain ⟨As3, cs3, rfl⟩ := hrs3.form
  have HB4 := Lib.hid (HB3'.out.trans (hb4.mono HB3'.out.size))
  clear hrb3 hrs3 hb4 HB3 HB3'
  dsimp only
  generalize w3.heap.size = g3 at *
  go_wp2_with fail
  go_at_call 26
  have HB4' := Lib.hid (As.bl (o := .cells #[.slice none 0 0, .string ⟨#[115, 112, 97, 99, 101]⟩, .slice (some ⟨w4.heap.size + 1, 0, none⟩) 1 1] 42) (As.bl (o := .cells #[.string ⟨#[49, 51, 49, 48, 55, 50]⟩] 9) (As.bl (o := .cells #[.slice Ab3 0 cb3, .slice As3 0 cs3] 50) HB4.out)))
  refine (CA4.out _ _ (As.rdl_space _ _ _ _ _ (by rw [World.size_alloc]) (by rw [World.size_alloc])) (HT.out.kept HB4'.out)).mono ?_
  rintro e w5 ⟨vb4, vs4, rfl, hrb4, hrs4, _, _, hb5⟩
  obtain ⟨Ab4, cb4, rfl⟩ := hrb4.form
  obtain ⟨As4, cs4, rfl⟩ := hrs4.form
  have HB5 := Lib.hid (HB4'.out.trans (hb5.mono HB4'.out.size))
  clear hrb4 hrs4 hb5 HB4 HB4'
  dsimp only
  generalize w4.heap.size = g4 at *
  have HB6 := Lib.hid (As.bl (o := .cells #[.slice Ab4 b4.length cb4, .slice As4 s4.length cs4] 50) HB5.out)
  go_wp2_with (first | (go_at_call 27; refine (anum7_any _ _).mono ?_; rintro e w' ⟨rfl, rfl⟩) | (go_at_call 28; refine (CK.out _ (HT.out.kept HB6.out)).mono ?_; rintro e w7 ⟨rfl, hb7⟩))
  go_ret
  exact ⟨rfl, HB6.out.trans (hb7.mono HB6.out.size)⟩
set_option maxRecDepth 100000 in
set_option maxHeartbeats 16000000 in
theorem core_many1 (more q : Int) (w : World) (hT : L6.Tab w) (hq2 : wrap64 (Int.tmod more 3) = q) (hw1 : IntKind.i64.wrap (q + 3) = q + 3) (hr : Int.tmod (q + 3) 3 = 1) (hq : Int.tmod more 3 = q) (hqw : IntKind.i64.wrap q = q) :
    Calls Tryd.prog 7 #[.int .i64 more] w fun e w' => e = .returned (.bool true) ∧ Below w.heap.size w w' := by
  have CK := Lib.hid (fun W (hT : L6.Tab W) => aknows_any W hT)
  have CA1 := Lib.hid (fun v W (h : RdL W v (List.replicate 32768 As.none_)) (hT : L6.Tab W) => aassemble_any v (List.replicate 32768 As.none_) 0 h hT (by rw [List.length_replicate]; omega) (As.lok_none 32768) (by omega))
  rw [As.assemble_none 32768 (by decide)] at CA1
  have CA2 := Lib.hid (fun v W (h : RdL W v [As.spaceL, As.byteL]) (hT : L6.Tab W) => aassemble_any v [As.spaceL, As.byteL] 4 h hT (by decide) (fun x hx => by rcases List.mem_cons.1 hx with rfl | hx; exact As.lok_space; rw [List.mem_singleton.1 hx]; exact As.lok_byte) (by omega))
  rw [As.assemble_big] at CA2
  have CA3 := Lib.hid (fun v W (h : RdL W v []) (hT : L6.Tab W) => aassemble_any v [] 1 h hT (by decide) (fun x hx => by cases hx) (by omega))
  rw [As.no_lines_bad 1 (by decide)] at CA3
  have CA4 := Lib.hid (fun v W (h : RdL W v [As.spaceL]) (hT : L6.Tab W) => aassemble_any v [As.spaceL] 4 h hT (by decide) (fun x hx => by rw [List.mem_singleton.1 hx]; exact As.lok_space) (by omega))
  have HO4 := Lib.hid As.assemble_space
  generalize As.assemble [As.spaceL] 4 = O4 at CA4 HO4
  obtain ⟨b4, s4, l4, e4⟩ := O4
  obtain ⟨rfl, rfl⟩ : l4 = 0 ∧ e4 = 0 := HO4.out
  have HT := Lib.hid hT
  have HMK := Lib.hid (fun W => As.make_lines 32768 (by decide) W)
  clear hT HO4
  obtain ⟨cs, hrun, hrd⟩ := HMK.out w
  have hrun : (Instr.makeSlice 25 (.int .i64 32768) (.int .i64 32768)).run Tryd.prog w = .ok (.slice (some ⟨w.heap.size, 0, none⟩) 32768 32768) (w.alloc (.cells cs 42)) := hrun
  have HRD := Lib.hid hrd
  have HAL := Lib.hid (show Below w.heap.size w (w.alloc (.cells cs 42)) from (Below.refl _ _).alloc (Nat.le_refl _) _)
  clear hrd HMK
  go_enter Tryd.func7, Tryd.ntmps7
  go_wp2_with fail
  go_at_call 26
  refine (CA1.out _ _ HRD.out (HT.out.kept HAL.out)).mono ?_
  rintro e w2 ⟨vb1, vs1, rfl, hrb1, hrs1, _, _, hb2⟩
  obtain ⟨Ab1, cb1, rfl⟩ := hrb1.form
  obtain ⟨As1, cs1, rfl⟩ := hrs1.form
  have HB2 := Lib.hid (HAL.out.trans (hb2.mono HAL.out.size))
  clear hrb1 hrs1 hb2 hrun
  dsimp only
  go_wp2_with fail
  go_at_call 26
  have HB2' := Lib.hid (As.bl (o := .cells #[.slice none 0 0, .string ⟨#[115, 112, 97, 99, 101]⟩, .slice (some ⟨w2.heap.size + 1, 0, none⟩) 1 1, .slice none 0 0, .string ⟨#[98, 121, 116, 101]⟩, .slice (some ⟨w2.heap.size + 1 + 1, 0, none⟩) 1 2] 42) (As.bl (o := .cells #[.string ⟨#[49]⟩, .string ⟨#[50]⟩] 9) (As.bl (o := .cells #[.string ⟨#[49, 51, 49, 48, 55, 50]⟩] 9) (As.bl (o := .cells #[.slice Ab1 0 cb1, .slice As1 0 cs1] 50) HB2.out))))
  refine (CA2.out _ _ (As.rdl_pair _ _ _ _ _ _ _ (by rw [World.size_alloc]) (by rw [World.size_alloc]) (by rw [World.size_alloc])) (HT.out.kept HB2'.out)).mono ?_
  rintro e w3 ⟨vb2, vs2, rfl, hrb2, hrs2, _, _, hb3⟩
  obtain ⟨Ab2, cb2, rfl⟩ := hrb2.form
  obtain ⟨As2, cs2, rfl⟩ := hrs2.form
  have HB3 := Lib.hid (HB2'.out.trans (hb3.mono HB2'.out.size))
  clear hrb2 hrs2 hb3 HB2 HB2'
  dsimp only
  generalize w2.heap.size = g2 at *
  go_wp2_with fail
  go_at_call 26
  have HB3' := Lib.hid (As.bl (o := .cells #[.slice Ab2 0 cb2, .slice As2 0 cs2] 50) HB3.out)
  refine (CA3.out _ _ (As.rdl_nil _) (HT.out.kept HB3'.out)).mono ?_
  rintro e w4 ⟨vb3, vs3, rfl, hrb3, hrs3, _, _, hb4⟩
  obtain ⟨Ab3, cb3, rfl⟩ := hrb3.form
  obtain ⟨As3, cs3, rfl⟩ := hrs3.form
  have HB4 := Lib.hid (HB3'.out.trans (hb4.mono HB3'.out.size))
  clear hrb3 hrs3 hb4 HB3 HB3'
  dsimp only
  generalize w3.heap.size = g3 at *
  go_wp2_with fail
  go_at_call 26
  have HB4' := Lib.hid (As.bl (o := .cells #[.slice none 0 0, .string ⟨#[115, 112, 97, 99, 101]⟩, .slice (some ⟨w4.heap.size + 1, 0, none⟩) 1 1] 42) (As.bl (o := .cells #[.string ⟨#[49, 51, 49, 48, 55, 50]⟩] 9) (As.bl (o := .cells #[.slice Ab3 0 cb3, .slice As3 0 cs3] 50) HB4.out)))
  refine (CA4.out _ _ (As.rdl_space _ _ _ _ _ (by rw [World.size_alloc]) (by rw [World.size_alloc])) (HT.out.kept HB4'.out)).mono ?_
  rintro e w5 ⟨vb4, vs4, rfl, hrb4, hrs4, _, _, hb5⟩
  obtain ⟨Ab4, cb4, rfl⟩ := hrb4.form
  obtain ⟨As4, cs4, rfl⟩ := hrs4.form
  have HB5 := Lib.hid (HB4'.out.trans (hb5.mono HB4'.out.size))
  clear hrb4 hrs4 hb5 HB4 HB4'
  dsimp only
  generalize w4.heap.size = g4 at *
  have HB6 := Lib.hid (As.bl (o := .cells #[.slice Ab4 b4.length cb4, .slice As4 s4.length cs4] 50) HB5.out)
  go_wp2_with (first | (go_at_call 27; refine (anum7_any _ _).mono ?_; rintro e w' ⟨rfl, rfl⟩) | (go_at_call 28; refine (CK.out _ (HT.out.kept HB6.out)).mono ?_; rintro e w7 ⟨rfl, hb7⟩))
  go_ret
  exact ⟨rfl, HB6.out.trans (hb7.mono HB6.out.size)⟩
set_option maxRecDepth 100000 in
set_option maxHeartbeats 16000000 in
theorem core_many2 (more q : Int) (w : World) (hT : L6.Tab w) (hq2 : wrap64 (Int.tmod more 3) = q) (hw1 : IntKind.i64.wrap (q + 3) = q + 3) (hr : Int.tmod (q + 3) 3 = 2) (hq : Int.tmod more 3 = q) (hqw : IntKind.i64.wrap q = q) :
    Calls Tryd.prog 7 #[.int .i64 more] w fun e w' => e = .returned (.bool true) ∧ Below w.heap.size w w' := by
  have CK := Lib.hid (fun W (hT : L6.Tab W) => aknows_any W hT)
  have CA1 := Lib.hid (fun v W (h : RdL W v (List.replicate 32769 As.none_)) (hT : L6.Tab W) => aassemble_any v (List.replicate 32769 As.none_) 0 h hT (by rw [List.length_replicate]; omega) (As.lok_none 32769) (by omega))
  rw [As.assemble_many 32769 (by decide)] at CA1
  have CA2 := Lib.hid (fun v W (h : RdL W v [As.spaceL, As.byteL]) (hT : L6.Tab W) => aassemble_any v [As.spaceL, As.byteL] 4 h hT (by decide) (fun x hx => by rcases List.mem_cons.1 hx with rfl | hx; exact As.lok_space; rw [List.mem_singleton.1 hx]; exact As.lok_byte) (by omega))
  rw [As.assemble_big] at CA2
  have CA3 := Lib.hid (fun v W (h : RdL W v []) (hT : L6.Tab W) => aassemble_any v [] 2 h hT (by decide) (fun x hx => by cases hx) (by omega))
  rw [As.no_lines_bad 2 (by decide)] at CA3
  have CA4 := Lib.hid (fun v W (h : RdL W v [As.spaceL]) (hT : L6.Tab W) => aassemble_any v [As.spaceL] 4 h hT (by decide) (fun x hx => by rw [List.mem_singleton.1 hx]; exact As.lok_space) (by omega))
  have HO4 := Lib.hid As.assemble_space
  generalize As.assemble [As.spaceL] 4 = O4 at CA4 HO4
  obtain ⟨b4, s4, l4, e4⟩ := O4
  obtain ⟨rfl, rfl⟩ : l4 = 0 ∧ e4 = 0 := HO4.out
  have HT := Lib.hid hT
  have HMK := Lib.hid (fun W => As.make_lines 32769 (by decide) W)
  clear hT HO4
  obtain ⟨cs, hrun, hrd⟩ := HMK.out w
  have hrun : (Instr.makeSlice 25 (.int .i64 32769) (.int .i64 32769)).run Tryd.prog w = .ok (.slice (some ⟨w.heap.size, 0, none⟩) 32769 32769) (w.alloc (.cells cs 42)) := hrun
  have HRD := Lib.hid hrd
  have HAL := Lib.hid (show Below w.heap.size w (w.alloc (.cells cs 42)) from (Below.refl _ _).alloc (Nat.le_refl _) _)
  clear hrd HMK
  go_enter Tryd.func7, Tryd.ntmps7
  go_wp2_with fail
  go_at_call 26
  refine (CA1.out _ _ HRD.out (HT.out.kept HAL.out)).mono ?_
  rintro e w2 ⟨vb1, vs1, rfl, hrb1, hrs1, _, _, hb2⟩
  obtain ⟨Ab1, cb1, rfl⟩ := hrb1.form
  obtain ⟨As1, cs1, rfl⟩ := hrs1.form
  have HB2 := Lib.hid (HAL.out.trans (hb2.mono HAL.out.size))
  clear hrb1 hrs1 hb2 hrun
  dsimp only
  go_wp2_with fail
  go_at_call 26
  have HB2' := Lib.hid (As.bl (o := .cells #[.slice none 0 0, .string ⟨#[115, 112, 97, 99, 101]⟩, .slice (some ⟨w2.heap.size + 1, 0, none⟩) 1 1, .slice none 0 0, .string ⟨#[98, 121, 116, 101]⟩, .slice (some ⟨w2.heap.size + 1 + 1, 0, none⟩) 1 2] 42) (As.bl (o := .cells #[.string ⟨#[49]⟩, .string ⟨#[50]⟩] 9) (As.bl (o := .cells #[.string ⟨#[49, 51, 49, 48, 55, 50]⟩] 9) (As.bl (o := .cells #[.slice Ab1 0 cb1, .slice As1 0 cs1] 50) HB2.out))))
  refine (CA2.out _ _ (As.rdl_pair _ _ _ _ _ _ _ (by rw [World.size_alloc]) (by rw [World.size_alloc]) (by rw [World.size_alloc])) (HT.out.kept HB2'.out)).mono ?_
  rintro e w3 ⟨vb2, vs2, rfl, hrb2, hrs2, _, _, hb3⟩
  obtain ⟨Ab2, cb2, rfl⟩ := hrb2.form
  obtain ⟨As2, cs2, rfl⟩ := hrs2.form
  have HB3 := Lib.hid (HB2'.out.trans (hb3.mono HB2'.out.size))
  clear hrb2 hrs2 hb3 HB2 HB2'
  dsimp only
  generalize w2.heap.size = g2 at *
  go_wp2_with fail
  go_at_call 26
  have HB3' := Lib.hid (As.bl (o := .cells #[.slice Ab2 0 cb2, .slice As2 0 cs2] 50) HB3.out)
  refine (CA3.out _ _ (As.rdl_nil _) (HT.out.kept HB3'.out)).mono ?_
  rintro e w4 ⟨vb3, vs3, rfl, hrb3, hrs3, _, _, hb4⟩
  obtain ⟨Ab3, cb3, rfl⟩ := hrb3.form
  obtain ⟨As3, cs3, rfl⟩ := hrs3.form
  have HB4 := Lib.hid (HB3'.out.trans (hb4.mono HB3'.out.size))
  clear hrb3 hrs3 hb4 HB3 HB3'
  dsimp only
  generalize w3.heap.size = g3 at *
  go_wp2_with fail
  go_at_call 26
  have HB4' := Lib.hid (As.bl (o := .cells #[.slice none 0 0, .string ⟨#[115, 112, 97, 99, 101]⟩, .slice (some ⟨w4.heap.size + 1, 0, none⟩) 1 1] 42) (As.bl (o := .cells #[.string ⟨#[49, 51, 49, 48, 55, 50]⟩] 9) (As.bl (o := .cells #[.slice Ab3 0 cb3, .slice As3 0 cs3] 50) HB4.out)))
  refine (CA4.out _ _ (As.rdl_space _ _ _ _ _ (by rw [World.size_alloc]) (by rw [World.size_alloc])) (HT.out.kept HB4'.out)).mono ?_
  rintro e w5 ⟨vb4, vs4, rfl, hrb4, hrs4, _, _, hb5⟩
  obtain ⟨Ab4, cb4, rfl⟩ := hrb4.form
  obtain ⟨As4, cs4, rfl⟩ := hrs4.form
  have HB5 := Lib.hid (HB4'.out.trans (hb5.mono HB4'.out.size))
  clear hrb4 hrs4 hb5 HB4 HB4'
  dsimp only
  generalize w4.heap.size = g4 at *
  have HB6 := Lib.hid (As.bl (o := .cells #[.slice Ab4 b4.length cb4, .slice As4 s4.length cs4] 50) HB5.out)
  go_wp2_with (first | (go_at_call 27; refine (anum7_any _ _).mono ?_; rintro e w' ⟨rfl, rfl⟩) | (go_at_call 28; refine (CK.out _ (HT.out.kept HB6.out)).mono ?_; rintro e w7 ⟨rfl, hb7⟩))
  go_ret
  exact ⟨rfl, HB6.out.trans (hb7.mono HB6.out.size)⟩
theorem core_asmMany (more : Int) (w : World) (hm : -9223372036854775808 ≤ more ∧ more ≤ 9223372036854775807) (hT : L6.Tab w) :
    Calls Tryd.prog 7 #[.int .i64 more] w fun e w' => e = .returned (.bool true) ∧ Below w.heap.size w w' := by
  obtain ⟨q, hq⟩ : ∃ q, Int.tmod more 3 = q := ⟨_, rfl⟩
  have hqr : -2 ≤ q ∧ q ≤ 2 := by
    rcases Int.le_total 0 more with h | h
    · rw [Int.tmod_eq_emod_of_nonneg h] at hq; omega
    · have h2 : Int.tmod more 3 = -(Int.tmod (-more) 3) := by rw [Int.neg_tmod]; omega
      rw [h2, Int.tmod_eq_emod_of_nonneg (by omega)] at hq; omega
  have hw1 : IntKind.i64.wrap (q + 3) = q + 3 := by rw [IntKind.wrap_i64]; omega
  have hw0 : IntKind.i64.wrap q = q := by rw [IntKind.wrap_i64]; omega
  obtain ⟨r, hr⟩ : ∃ r, Int.tmod (q + 3) 3 = r := ⟨_, rfl⟩
  have hrr : r = 0 ∨ r = 1 ∨ r = 2 := by rw [Int.tmod_eq_emod_of_nonneg (by omega)] at hr; omega
  have hq2 : wrap64 (Int.tmod more 3) = q := by rw [hq]; unfold wrap64; omega
  rcases hrr with rfl | rfl | rfl
  · exact core_many0 more q w hT hq2 hw1 hr hq hw0
  · exact core_many1 more q w hT hq2 hw1 hr hq hw0
  · exact core_many2 more q w hT hq2 hw1 hr hq hw0
end Go.Proofs.YtfafdkbnmfpbmaaDoor
/- Layer 7: the law AsmMany, as its row asks. -/
namespace Go.Proofs.YtfafdkbnmfpbmaaDoor
open Go.RowKit Kit
set_option linter.unusedVariables false
set_option linter.unusedSimpArgs false

theorem walk_asmMany (n : Int) (w : World) (hn : -9223372036854775808 ≤ n ∧ n ≤ 9223372036854775807) (hL : laidMetH Tryd.prog Rows.asmManyRow.laid w) :
    Calls Tryd.prog 7 #[.int .i64 n] w fun e w' => e = .returned (.bool true) ∧ Below w.heap.size w w' :=
  core_asmMany n w hn (L6.tab_of hL)
end Go.Proofs.YtfafdkbnmfpbmaaDoor
