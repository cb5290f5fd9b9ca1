/- Texts joined: IsPos, IsByName, AsPlain, KitH, KitQ, L6Rd, L6Zone. -/
import Derived.Test.YtfafdkbnmfpbmaaDoorJ5
import Derived.Test.YtfafdkbnmfpbmaaDoorJ3
import Derived.WalkKit
import Derived.Below
import Derived.Lib.Hide
import Derived.Deep.QuietTactic
import Derived.BigQuiet
import Derived.Deep.RegionHeld3
/- Where a name stands in the table. -/
namespace Go.Proofs.YtfafdkbnmfpbmaaDoor
open Go.RowKit
set_option linter.unusedVariables false
set_option linter.unusedSimpArgs false

def Is.nameAt (k : Nat) : ByteArray := ⟨(Is.forms.getD k default).name.toArray⟩
/-- Where a name stands; 48: nowhere. -/
def Is.pos (s : ByteArray) : Nat := (List.range 48).findIdx (fun k => decide (Is.nameAt k = s))
theorem Is.pos_yes {s : ByteArray} {k : Nat} (hk : k < 48) (h : Is.nameAt k = s) (hno : ∀ j, j < k → Is.nameAt j ≠ s) : Is.pos s = k := by
  unfold Is.pos
  rw [List.findIdx_eq (by simpa using hk)]
  refine ⟨by simpa using h, fun j hj => by simpa using hno j hj⟩
theorem Is.pos_no {s : ByteArray} (hno : ∀ j, j < 48 → Is.nameAt j ≠ s) : Is.pos s = 48 := by
  unfold Is.pos
  rw [List.findIdx_eq_length_of_false]
  · simp
  · intro x hx
    have := hno x (by simpa using hx)
    simpa using this
theorem Is.pos_name (k : Nat) (hk : k < 48) : Is.pos (Is.nameAt k) = k := by
  refine Is.pos_yes hk rfl ?_
  have : ∀ i : Fin 48, ∀ j : Fin 48, j.val < i.val → (Is.forms.getD j.val default).name ≠ (Is.forms.getD i.val default).name := by decide +kernel
  intro j hj h
  refine this ⟨k, hk⟩ ⟨j, by omega⟩ hj ?_
  have h1 : (Is.nameAt j).data.toList = (Is.nameAt k).data.toList := by rw [h]
  simpa [Is.nameAt] using h1
theorem Is.name_ne (k : Nat) (hk : k < 48) : Is.nameAt k ≠ ByteArray.empty := by
  have : ∀ i : Fin 48, (Is.forms.getD i.val default).name ≠ [] := by decide +kernel
  intro h
  refine this ⟨k, hk⟩ ?_
  have h1 : (Is.nameAt k).data.toList = ByteArray.empty.data.toList := by rw [h]
  simpa [Is.nameAt] using h1
/-- What ByName tells. -/
def Is.found (s : ByteArray) : Int := if Is.pos s < 48 then Is.pos s else 0
def Is.isName (s : ByteArray) : Bool := decide (Is.pos s < 48)
theorem Is.found_yes {s : ByteArray} {k : Nat} (hk : k < 48) (h : Is.nameAt k = s) (hno : ∀ j, j < k → Is.nameAt j ≠ s) : Is.found s = k ∧ Is.isName s = true := by
  have := Is.pos_yes hk h hno
  unfold Is.found Is.isName
  rw [this, if_pos hk]
  exact ⟨rfl, by simpa using hk⟩
theorem Is.found_no {s : ByteArray} (hno : ∀ j, j < 48 → Is.nameAt j ≠ s) : Is.found s = 0 ∧ Is.isName s = false := by
  have := Is.pos_no hno
  unfold Is.found Is.isName
  rw [this]
  exact ⟨rfl, by decide⟩
theorem beq_str (a b : ByteArray) : (a.toList == b.toList) = decide (a = b) := by
  rw [Bool.eq_iff_iff]
  simp only [beq_iff_eq, decide_eq_true_eq, ByteArray.toList_eq]
  constructor
  · intro h
    cases a; cases b
    simp only [ByteArray.mk.injEq]
    exact Array.toList_inj.1 h
  · rintro rfl; rfl
theorem ret_ib {a a' : Int} {b b' : Bool} (h : a = a') (h' : b = b') : Ending.returned (.tuple #[.int .i64 a, .bool b]) = .returned (.tuple #[.int .i64 a', .bool b']) := by rw [h, h']
end Go.Proofs.YtfafdkbnmfpbmaaDoor

/- Walks: slices.IndexFunc at the program's forms, ByName. -/
namespace Go.Proofs.YtfafdkbnmfpbmaaDoor
open Go.RowKit Kit
set_option linter.unusedVariables false
set_option linter.unusedSimpArgs false

theorem beq_str2 (l : List UInt8) (s : ByteArray) : (l == s.toList) = decide ((⟨l.toArray⟩ : ByteArray) = s) := by
  rw [← beq_str, ByteArray.toList_mk l]
theorem clo_any (f : Is.Form) (s : ByteArray) (gs : Nat) (W : World) (hs : W.cell? ⟨gs, 0, none⟩ = some (.string s)) :
    Calls Tryd.prog 143 #[Is.fvv f, .pointer (some ⟨gs, 0, none⟩)] W fun e w' => e = .returned (.bool (f.name == s.toList)) ∧ Below W.heap.size W w' := by
  obtain ⟨nm, sh, co, th, se⟩ := f
  dsimp only at *
  have hlt : gs < W.heap.size := World.block_lt_of_cell? W _ hs
  have hc : (W.alloc (.cells #[.string ⟨nm.toArray⟩, .int .i64 sh, .int .u32 co, .int .u32 th, .int .u32 se] 185)).cell? ⟨gs, 0, none⟩ = some (.string s) := (World.cell?_alloc_past _ _ _ hlt).trans hs
  go_enter Tryd.func143, Tryd.ntmps143
  go_wp2
  go_ret
  exact ⟨rfl, (Below.refl _ _).alloc (Nat.le_refl _) _⟩

/-- The index that IndexFunc tells. -/
def Is.idx (s : ByteArray) : Int := if Is.pos s < 48 then Is.pos s else -1
theorem ret_idx {a b : Int} (h : a = b) : Ending.returned (.int .i64 a) = .returned (.int .i64 b) := by rw [h]
set_option maxRecDepth 20000 in
theorem idxfunc_any (g gs : Nat) (t : TypeId) (s : ByteArray) (W : World) (hg : Bk W g t Is.cells) (hs : W.cell? ⟨gs, 0, none⟩ = some (.string s)) :
    Calls Tryd.prog 142 #[.slice (some ⟨g, 0, none⟩) 48 48, .func (.func 143) #[] #[.pointer (some ⟨gs, 0, none⟩)]] W fun e w' => e = .returned (.int .i64 (Is.idx s)) ∧ Below W.heap.size W w' := by
  have HY := Lib.hid (fun (k : Nat) (hk : k < 48) (h : Is.nameAt k = s) (hno : ∀ j, j < k → Is.nameAt j ≠ s) => show Is.idx s = k by
    unfold Is.idx; rw [Is.pos_yes hk h hno, if_pos hk])
  have HN := Lib.hid (fun (hno : ∀ j, j < 48 → Is.nameAt j ≠ s) => show Is.idx s = -1 by
    unfold Is.idx; rw [Is.pos_no hno, if_neg (by omega)])
  have HC := Lib.hid (show ∀ W', Below W.heap.size W W' → W'.cell? ⟨gs, 0, none⟩ = some (.string s) ∧ ∀ k, k < 48 → ∃ f : Is.Form, (⟨f.name.toArray⟩ : ByteArray) = Is.nameAt k ∧
      (W'.cell? ⟨g, k * 5, none⟩ = some (.string ⟨f.name.toArray⟩) ∧ W'.cell? ⟨g, k * 5 + 1, none⟩ = some (.int .i64 f.shape) ∧ W'.cell? ⟨g, k * 5 + 2, none⟩ = some (.int .u32 f.code) ∧ W'.cell? ⟨g, k * 5 + 3, none⟩ = some (.int .u32 f.three) ∧ W'.cell? ⟨g, k * 5 + 4, none⟩ = some (.int .u32 f.seven)) from fun W' hb => by
    refine ⟨(hb.cell (p := ⟨gs, 0, none⟩) (World.block_lt_of_cell? W _ hs)).trans hs, fun k hk => ⟨Is.forms.getD k default, rfl, ?_⟩⟩
    have hg' := hg.kept hb
    have hat := fun i (hi : i < 5) => (flat_at Is.fv 5 (fun _ => rfl) Is.forms k i default hk hi)
    refine ⟨(hg'.cell _).trans ?_, (hg'.cell _).trans ?_, (hg'.cell _).trans ?_, (hg'.cell _).trans ?_, (hg'.cell _).trans ?_⟩
    · have := hat 0 (by omega); simpa [Is.cells, Is.fv] using this
    · have := hat 1 (by omega); simpa [Is.cells, Is.fv] using this
    · have := hat 2 (by omega); simpa [Is.cells, Is.fv] using this
    · have := hat 3 (by omega); simpa [Is.cells, Is.fv] using this
    · have := hat 4 (by omega); simpa [Is.cells, Is.fv] using this)
  clear hg hs
  go_enter Tryd.func142, Tryd.ntmps142
  go_wp2_with fail
  go_loopw [8] (fun i wr => ∃ k : Nat, k ≤ 48 ∧ i = .int .i64 k ∧ (∀ j, j < k → Is.nameAt j ≠ s) ∧ Below W.heap.size W wr) (fun i _ => 48 - (intOf i).toNat)
  case atStart => exact ⟨0, Nat.zero_le _, rfl, fun j hj => absurd hj (by omega), Below.refl _ _⟩
  case round =>
    obtain ⟨k, hk, rfl, hall, hbr⟩ := hrel
    have HALL := Lib.hid hall
    have HBR := Lib.hid hbr
    clear hall hbr
    by_cases hlt : k < 48
    · obtain ⟨qs, hq⟩ := HC.out _ HBR.out
      obtain ⟨f, hnm, q0, q1, q2, q3, q4⟩ := hq k hlt
      have HNM := Lib.hid hnm
      have HCL := Lib.hid (clo_any f s gs wr qs)
      have hlt' : (k : Int) < 48 := by omega
      clear hq hnm
      go_wp2_with fail
      refine HCL.out.mono ?_
      rintro e w1 ⟨rfl, hb1⟩
      have HB1 := Lib.hid (HBR.out.trans (hb1.mono HBR.out.size))
      clear hb1
      by_cases he : (⟨f.name.toArray⟩ : ByteArray) = s
      · have ge : (f.name == s.toList) = true := by rw [beq_str2]; simpa using he
        rw [ge]
        have HR := Lib.hid (HY.out k hlt (HNM.out.symm.trans he) HALL.out)
        clear he ge
        go_wp2_with fail
        go_ret
        exact ⟨ret_idx HR.out.symm, HB1.out⟩
      · have ge : (f.name == s.toList) = false := by rw [beq_str2]; simpa using he
        rw [ge]
        have HE := Lib.hid he
        clear he ge
        go_wp2_with fail
        go_roundw
        case rel =>
          refine ⟨k + 1, by omega, by go_num, fun j hj => ?_, HB1.out⟩
          by_cases hjk : j = k
          · subst hjk; rw [← HNM.out]; exact HE.out
          · exact HALL.out j (by omega)
        case measure => simp [intOf]; omega
    · obtain rfl : k = 48 := by omega
      have HR := Lib.hid (HN.out HALL.out)
      go_wp2_with fail
      go_ret
      exact ⟨ret_idx HR.out.symm, HBR.out⟩

set_option maxRecDepth 100000 in
theorem byname_own (s : ByteArray) (w : World) : Calls Tryd.prog 116 #[.string s] w fun e w' => e = .returned (.tuple #[.int .i64 (Is.found s), .bool (Is.isName s)]) ∧ Below w.heap.size w w' := by
  have HF := Lib.hid (fun W => forms_any W)
  go_enter Tryd.func116, Tryd.ntmps116
  go_wp2_with fail
  refine (HF.out _).mono ?_
  rintro e w1 ⟨rfl, hb1⟩
  rw [World.size_alloc] at hb1
  have hs : w1.cell? ⟨w.heap.size, 0, none⟩ = some (.string s) := (hb1.cell (p := ⟨w.heap.size, 0, none⟩) (by simp)).trans (by go_simp)
  have HB1 := Lib.hid (((Below.refl w.heap.size w).alloc (Nat.le_refl _) (.cells #[.string s] 9)).trans (hb1.mono (by omega)))
  have hz1 : w.heap.size + 1 ≤ w1.heap.size := by have := hb1.size; rw [World.size_alloc] at this; exact this
  clear hb1
  go_wp2_with (first | (refine wpList_run (o := ⟨_, .alloc _, _, _, _, _⟩) (v := .pointer (some ⟨w1.heap.size, 0, none⟩)) (w' := w1.alloc (.cells Is.zero 186)) rfl (by kernel_rfl) ?_) | (refine wpList_store_row rfl 186 (.tmp 4) (.tmp 6) rfl w1.heap.size Is.cells rfl rfl 186 Is.zero (heap_alloc_last w1 _) (by kernel_rfl) (by kernel_rfl) (by kernel_rfl) ?_; rw [World.setRow_alloc_new]))
  have hs2 : (w1.alloc (.cells Is.cells 186)).cell? ⟨w.heap.size, 0, none⟩ = some (.string s) := (World.cell?_alloc_past _ _ _ (World.block_lt_of_cell? _ _ hs)).trans hs
  refine (idxfunc_any _ _ 186 s _ (Bk.fresh w1 _ _) hs2).mono ?_
  rintro e w2 ⟨rfl, hb2⟩
  have HB2 := Lib.hid ((HB1.out.alloc (by omega) (.cells Is.cells 186)).trans (hb2.mono (by simp; omega)))
  clear hb2 hs hs2 HB1
  have HF1 := Lib.hid (show Is.found s = if Is.pos s < 48 then (Is.pos s : Int) else (0 : Int) from rfl)
  have HF2 := Lib.hid (show Is.isName s = decide (Is.pos s < 48) from rfl)
  unfold Is.idx
  generalize Is.pos s = p at *
  by_cases hp : p < 48
  · rw [if_pos hp]
    have HP := Lib.hid hp
    have hp0 : (0 : Int) ≤ p := by omega
    clear hp
    go_wp2_with fail
    go_ret2
    exact ⟨ret_ib (by rw [HF1.out, if_pos HP.out]) (by rw [HF2.out]; simp [HP.out]), HB2.out⟩
  · rw [if_neg hp]
    have HP := Lib.hid hp
    clear hp
    go_wp2_with fail
    go_ret2
    exact ⟨ret_ib (by rw [HF1.out, if_neg HP.out]) (by rw [HF2.out]; simp [HP.out]), HB2.out⟩
end Go.Proofs.YtfafdkbnmfpbmaaDoor

/- Layer 7: what the assembler computes. Plain. -/
namespace Go.Proofs.YtfafdkbnmfpbmaaDoor
set_option linter.unusedVariables false
set_option linter.unusedSimpArgs false

/-- A piece: an instruction or bytes; what it asks of symbols: 0 nothing, 1 goal, 2 upper, 3 lower, 4 place, 5 behind. -/
structure As.P where
  code : Bool
  inst : Is.Inst
  bytes : List UInt8
  kind : Nat
  name : List UInt8
  src : List UInt8
def As.no : Is.Inst := ⟨0, 0, 0, 0, 0⟩
/-- What is left of a line's words, is it right, the pieces. -/
structure As.L where
  l : List (List UInt8)
  ok : Bool
  p : List As.P
def As.next (x : As.L) : List UInt8 × As.L := match x.l with
  | [] => ([], ⟨[], false, x.p⟩)
  | s :: t => (s, ⟨t, x.ok, x.p⟩)
def As.sat (b : Bool) (x : As.L) : As.L := ⟨x.l, x.ok && b, x.p⟩
def As.put (p : As.P) (x : As.L) : As.L := ⟨x.l, x.ok, x.p ++ [p]⟩
def As.reg (x : As.L) : Nat × As.L := ((L6.regV (As.next x).1).1, As.sat (L6.regV (As.next x).1).2 (As.next x).2)
def As.num (x : As.L) : Int × As.L := ((L6.number (As.next x).1).1, As.sat (L6.number (As.next x).1).2 (As.next x).2)
/-- May a word be a symbol? -/
def As.symbol (s : List UInt8) : Bool := !(L6.number s).2 && (!(L6.regV s).2 && (!s.isEmpty && s.headD 0 != 34))
def As.name (x : As.L) : List UInt8 × As.L := ((As.next x).1, As.sat (As.symbol (As.next x).1) (As.next x).2)
def As.either (x : As.L) : (Int × List UInt8) × As.L := match x.l with
  | [] => ((0, (As.name x).1), (As.name x).2)
  | s :: t => if (L6.number s).2 = true then (((L6.number s).1, []), ⟨t, x.ok, x.p⟩) else ((0, (As.name x).1), (As.name x).2)
def As.code (i : Is.Inst) (x : As.L) : As.L := As.put ⟨true, i, [], 0, [], []⟩ x
def As.imm (i : Is.Inst) (n : Int) : Is.Inst := ⟨i.op, i.rd, i.rs1, i.rs2, n⟩
def As.to (i : Is.Inst) (x : As.L) : As.L :=
  As.put ⟨true, As.imm i (As.either x).1.1, [], if (As.either x).1.2 = [] then 0 else 1, (As.either x).1.2, []⟩ (As.either x).2
/-- The lower and the upper part of a number. -/
def As.lo (n : Int) : Int := (n + 2048) % 4096 - 2048
def As.hi (n : Int) : Int := (n - As.lo n) / 4096 % 1048576
/-- An instruction by its Op. -/
def As.inst (op : Int) (x : As.L) : As.L :=
  if Is.shape op = 0 then As.code ⟨op, (As.reg x).1, 0, 0, (As.num (As.reg x).2).1⟩ (As.num (As.reg x).2).2
  else if Is.shape op = 1 then As.to ⟨op, (As.reg x).1, 0, 0, 0⟩ (As.reg x).2
  else if Is.shape op = 3 then As.to ⟨op, 0, (As.reg x).1, (As.reg (As.reg x).2).1, 0⟩ (As.reg (As.reg x).2).2
  else if Is.shape op = 4 then As.code ⟨op, 0, (As.reg (As.num (As.reg x).2).2).1, (As.reg x).1, (As.num (As.reg x).2).1⟩ (As.reg (As.num (As.reg x).2).2).2
  else if Is.shape op = 6 then As.code ⟨op, (As.reg x).1, (As.reg (As.reg x).2).1, (As.reg (As.reg (As.reg x).2).2).1, 0⟩ (As.reg (As.reg (As.reg x).2).2).2
  else if Is.shape op = 8 then As.code ⟨op, 0, 0, 0, (As.num x).1⟩ (As.num x).2
  else if Is.shape op = 7 then As.code ⟨op, 0, 0, 0, 0⟩ x
  else if op ≤ 14 then As.code ⟨op, (As.reg x).1, (As.reg (As.num (As.reg x).2).2).1, 0, (As.num (As.reg x).2).1⟩ (As.reg (As.num (As.reg x).2).2).2
  else As.code ⟨op, (As.reg x).1, (As.reg (As.reg x).2).1, 0, (As.num (As.reg (As.reg x).2).2).1⟩ (As.num (As.reg (As.reg x).2).2).2
/-- A number into a register. -/
def As.number (d : Int) (n : Int) (x : As.L) : As.L :=
  if -2048 ≤ n ∧ n < 2048 then As.code ⟨18, d, 0, 0, n⟩ x
  else As.code ⟨18, d, d, 0, As.lo n⟩ (As.code ⟨0, d, 0, 0, As.hi n⟩ x)
def As.tLi : List UInt8 := [108, 105]
def As.tLa : List UInt8 := [108, 97]
def As.tMv : List UInt8 := [109, 118]
def As.tNop : List UInt8 := [110, 111, 112]
def As.tRet : List UInt8 := [114, 101, 116]
def As.tCall : List UInt8 := [99, 97, 108, 108]
def As.tJ : List UInt8 := [106]
def As.tNot : List UInt8 := [110, 111, 116]
def As.tNeg : List UInt8 := [110, 101, 103]
def As.tBeqz : List UInt8 := [98, 101, 113, 122]
def As.tBnez : List UInt8 := [98, 110, 101, 122]
def As.tWord : List UInt8 := [119, 111, 114, 100]
def As.tByte : List UInt8 := [98, 121, 116, 101]
def As.tText : List UInt8 := [116, 101, 120, 116]
def As.tSpace : List UInt8 := [115, 112, 97, 99, 101]
def As.tAlign : List UInt8 := [97, 108, 105, 103, 110]
def As.tSpan : List UInt8 := [115, 112, 97, 110]
/-- What stands for instructions. -/
def As.pseudo (w : List UInt8) (x : As.L) : Option As.L :=
  if w = As.tLi then some (As.number (As.reg x).1 (As.num (As.reg x).2).1 (As.num (As.reg x).2).2)
  else if w = As.tLa then some (As.put ⟨true, ⟨18, (As.reg x).1, (As.reg x).1, 0, 0⟩, [], 3, (As.name (As.reg x).2).1, []⟩ (As.put ⟨true, ⟨0, (As.reg x).1, 0, 0, 0⟩, [], 2, (As.name (As.reg x).2).1, []⟩ (As.name (As.reg x).2).2))
  else if w = As.tMv then some (As.code ⟨18, (As.reg x).1, (As.reg (As.reg x).2).1, 0, 0⟩ (As.reg (As.reg x).2).2)
  else if w = As.tNop then some (As.code ⟨18, 0, 0, 0, 0⟩ x)
  else if w = As.tRet then some (As.code ⟨3, 0, 1, 0, 0⟩ x)
  else if w = As.tCall then some (As.to ⟨2, 1, 0, 0, 0⟩ x)
  else if w = As.tJ then some (As.to ⟨2, 0, 0, 0, 0⟩ x)
  else if w = As.tNot then some (As.code ⟨21, (As.reg x).1, (As.reg (As.reg x).2).1, 0, -1⟩ (As.reg (As.reg x).2).2)
  else if w = As.tNeg then some (As.code ⟨28, (As.reg x).1, 0, (As.reg (As.reg x).2).1, 0⟩ (As.reg (As.reg x).2).2)
  else if w = As.tBeqz then some (As.to ⟨4, 0, (As.reg x).1, 0, 0⟩ (As.reg x).2)
  else if w = As.tBnez then some (As.to ⟨5, 0, (As.reg x).1, 0, 0⟩ (As.reg x).2)
  else none
/-- A word's bytes. -/
def As.four (v : Nat) : List UInt8 := [UInt8.ofNat v, UInt8.ofNat (v / 256), UInt8.ofNat (v / 65536), UInt8.ofNat (v / 16777216)]
def As.bits (n : Int) : Nat := (n % 4294967296).toNat
/-- One word, one byte. -/
def As.word1 (x : As.L) : As.L := As.put ⟨false, As.no, As.four (As.bits (As.either x).1.1), if (As.either x).1.2 = [] then 0 else 4, (As.either x).1.2, []⟩ (As.either x).2
def As.byte1 (x : As.L) : As.L :=
  As.put ⟨false, As.no, [UInt8.ofNat ((As.num x).1 % 256).toNat], 0, [], []⟩ (As.sat (decide (-128 ≤ (As.num x).1) && decide ((As.num x).1 ≤ 255)) (As.num x).2)
/-- Once, and on while something is left. -/
def As.loop (f : As.L → As.L) : Nat → As.L → As.L
  | 0, x => x
  | n + 1, x => if (f x).l = [] then f x else As.loop f n (f x)
def As.raw (b : List UInt8) : As.P := ⟨false, As.no, b, 0, [], []⟩
def As.textOk (s : List UInt8) : Bool := decide (1 < s.length) && s.headD 0 == 34
def As.spaceOk (n : Int) : Bool := decide (0 ≤ n) && decide (n ≤ 131072)
def As.data (w : List UInt8) (at_ : Nat) (x : As.L) : Option As.L :=
  if w = As.tWord then some (As.loop As.word1 (x.l.length + 1) x)
  else if w = As.tByte then some (As.loop As.byte1 (x.l.length + 1) x)
  else if w = As.tText then some (if (As.next x).2.ok && As.textOk (As.next x).1 then As.put (As.raw (((As.next x).1.take ((As.next x).1.length - 1)).drop 1)) (As.sat (As.textOk (As.next x).1) (As.next x).2) else As.sat (As.textOk (As.next x).1) (As.next x).2)
  else if w = As.tSpace then some (if (As.num x).2.ok && As.spaceOk (As.num x).1 then As.put (As.raw (List.replicate (As.num x).1.toNat 0)) (As.sat (As.spaceOk (As.num x).1) (As.num x).2) else As.sat (As.spaceOk (As.num x).1) (As.num x).2)
  else if w = As.tAlign then some (As.put (As.raw (List.replicate ((4 - at_ % 4) % 4) 0)) x)
  else if w = As.tSpan then some (As.put ⟨false, As.no, [0, 0, 0, 0], 5, (As.name (As.name x).2).1, (As.name x).1⟩ (As.name (As.name x).2).2)
  else none
def As.read (w : List UInt8) (at_ : Nat) (x : As.L) : Option As.L :=
  if Is.isName ⟨w.toArray⟩ = true then some (As.inst (Is.found ⟨w.toArray⟩) x)
  else match As.pseudo w x with
    | some y => some y
    | none => As.data w at_ x
def As.done (x : As.L) : Option (List As.P) := if x.ok = true ∧ x.l = [] then some x.p else none
/-- Of a line at a place. -/
def As.pieces (l : L6.Line) (at_ : Nat) : Option (List As.P) :=
  if l.word = [] then some []
  else match As.read l.word at_ ⟨l.args, true, []⟩ with
    | none => none
    | some y => As.done y
def As.size1 (p : As.P) : Nat := p.bytes.length + (if p.code then 4 else 0)
def As.size (l : List As.P) : Nat := (l.map As.size1).sum
/-- Labels at a place; none: one is there already. -/
def As.labels (at_ : Nat) : List (List UInt8) → List (List UInt8 × Nat) → Option (List (List UInt8 × Nat))
  | [], sy => some sy
  | s :: t, sy => if (sy.any fun p => p.1 == s) = true then none else As.labels at_ t (sy ++ [(s, at_)])
inductive As.R (α : Type) where
  | bad (n e : Nat)
  | ok (v : α)
def As.lead (p : List As.P) : Bool := match p with | [] => false | x :: _ => x.code
def As.at32 (a : Nat) : Nat := a % 4294967296
def As.first (at_ : Nat) : Nat → Nat → List (List UInt8 × Nat) → List L6.Line → As.R (List (List UInt8 × Nat))
  | _, _, sy, [] => .ok sy
  | i, here, sy, l :: r =>
    match As.labels (As.at32 (at_ + here)) l.labels sy with
    | none => .bad (i + 1) 42
    | some sy1 => match As.pieces l (As.at32 (at_ + here)) with
      | none => .bad (i + 1) 40
      | some p =>
        if As.lead p = true ∧ As.at32 (at_ + here) % 4 ≠ 0 then .bad (i + 1) 30
        else if 131072 < here + As.size p then .bad (i + 1) 6
        else As.first at_ (i + 1) (here + As.size p) sy1 r
def As.look (sy : List (List UInt8 × Nat)) (s : List UInt8) : Option Nat := (sy.find? fun p => p.1 == s).map fun p => p.2
def As.s32 (v : Nat) : Int := if v < 2147483648 then (v : Int) else (v : Int) - 4294967296
/-- The instruction with its goal; the error's number, if it may not be. -/
def As.aim (p : As.P) (v at_ : Nat) : Is.Inst × Nat :=
  if p.kind = 1 then (As.imm p.inst (As.s32 (As.bits ((v : Int) - (at_ : Int)))), 43)
  else if p.kind = 2 then (As.imm p.inst (As.hi (As.s32 v)), 20)
  else if p.kind = 3 then (As.imm p.inst (As.lo (As.s32 v)), 20)
  else (p.inst, 20)
/-- A piece's bytes at a place, or the error's number. -/
def As.piece (sy : List (List UInt8 × Nat)) (p : As.P) (at_ : Nat) : List UInt8 × Nat :=
  if p.kind = 0 ∧ p.code = false then (p.bytes, 0)
  else if p.kind ≠ 0 ∧ As.look sy p.name = none then ([], 41)
  else if p.kind = 5 then (match As.look sy p.src with
    | none => ([], 41)
    | some w => (As.four (As.bits (((As.look sy p.name).getD 0 : Int) - (w : Int))), 0))
  else if p.kind = 4 then (As.four ((As.look sy p.name).getD 0), 0)
  else if (Is.enc (As.aim p ((As.look sy p.name).getD 0) at_).1).2 = 0 then (As.four (Is.enc (As.aim p ((As.look sy p.name).getD 0) at_).1).1.toNat, 0)
  else ([], (As.aim p ((As.look sy p.name).getD 0) at_).2)
/-- Pieces' bytes behind others. -/
def As.puts (sy : List (List UInt8 × Nat)) (at_ : Nat) : List As.P → List UInt8 → List UInt8 × Nat
  | [], b => (b, 0)
  | p :: r, b =>
    if (As.piece sy p (As.at32 (at_ + b.length))).2 = 0 then As.puts sy at_ r (b ++ (As.piece sy p (As.at32 (at_ + b.length))).1)
    else (b, (As.piece sy p (As.at32 (at_ + b.length))).2)
def As.second (sy : List (List UInt8 × Nat)) (at_ : Nat) : Nat → List UInt8 → List L6.Line → As.R (List UInt8)
  | _, b, [] => .ok b
  | i, b, l :: r =>
    if (As.puts sy at_ ((As.pieces l (As.at32 (at_ + b.length))).getD []) b).2 = 0 then As.second sy at_ (i + 1) (As.puts sy at_ ((As.pieces l (As.at32 (at_ + b.length))).getD []) b).1 r
    else .bad (i + 1) (As.puts sy at_ ((As.pieces l (As.at32 (at_ + b.length))).getD []) b).2
structure As.O where
  bytes : List UInt8
  syms : List (List UInt8 × Nat)
  line : Nat
  err : Nat
def As.passes (l : List L6.Line) (at_ : Nat) : As.O := match As.first at_ 0 0 [] l with
  | .bad n e => ⟨[], [], n, e⟩
  | .ok sy => match As.second sy at_ 0 [] l with
    | .bad n e => ⟨[], [], n, e⟩
    | .ok b => ⟨b, sy, 0, 0⟩
def As.assemble (l : List L6.Line) (at_ : Nat) : As.O := if 32768 < l.length ∨ at_ % 4 ≠ 0 then ⟨[], [], 0, 6⟩ else As.passes l at_
end Go.Proofs.YtfafdkbnmfpbmaaDoor

/- Frames: which blocks may change, and what is a call's own. Of no program. -/
namespace Go.Proofs.YtfafdkbnmfpbmaaDoor.Kit
open Go.RowKit
set_option linter.unusedVariables false
set_option linter.unusedSimpArgs false

/-- Of the blocks that are there, none but those of F change. -/
structure Fr (F : Nat → Prop) (w w' : World) : Prop where
  os : w'.os = w.os
  tape : w'.tape = w.tape
  output : w'.output = w.output
  size : w.heap.size ≤ w'.heap.size
  block : ∀ k, k < w.heap.size → ¬ F k → w'.heap[k]? = w.heap[k]?
theorem Fr.refl (F : Nat → Prop) (w : World) : Fr F w w := ⟨rfl, rfl, rfl, Nat.le_refl _, fun _ _ _ => rfl⟩
theorem Fr.of_below {F : Nat → Prop} {w w' : World} (h : Below w.heap.size w w') : Fr F w w' := ⟨h.os, h.tape, h.output, h.size, fun k hk _ => h.block k hk⟩
theorem Fr.of_grown {F : Nat → Prop} {w w' : World} {row : Option Nat} (h : w.grownBy w' row) (hr : ∀ k, row = some k → F k) : Fr F w w' :=
  ⟨h.os, h.tape, h.output, h.size, fun k hk hn => h.block k hk (fun e => hn (hr k e.symm))⟩
theorem Fr.of_but {F : Nat → Prop} {w w' : World} {g : Nat} (h : But g w w') (hg : F g) : Fr F w w' := Fr.of_grown h fun k e => by injection e with e; subst e; exact hg
theorem Fr.setCell {F : Nat → Prop} (w : World) (g i : Nat) (u : Value) (hg : F g) : Fr F w (w.setCell ⟨g, i, none⟩ u) := Fr.of_but (But.setCell w g i u) hg
theorem Fr.drew {F : Nat → Prop} {w w' : World} (h : Fr F w w') : Fr F w w'.drew := ⟨h.os, h.tape, h.output, h.size, h.block⟩
theorem Fr.mono {F G : Nat → Prop} {w w' : World} (h : Fr F w w') (hs : ∀ k, F k → G k) : Fr G w w' := ⟨h.os, h.tape, h.output, h.size, fun k hk hn => h.block k hk (fun e => hn (hs k e))⟩
theorem Fr.trans {F F' : Nat → Prop} {a b c : World} (h : Fr F a b) (k : Fr F' b c) (hs : ∀ j, F' j → F j ∨ a.heap.size ≤ j) : Fr F a c :=
  ⟨k.os.trans h.os, k.tape.trans h.tape, k.output.trans h.output, Nat.le_trans h.size k.size, fun j hj hn =>
    (k.block j (Nat.lt_of_lt_of_le hj h.size) (fun e => (hs j e).elim hn (fun e => absurd hj (by omega)))).trans (h.block j hj hn)⟩
theorem Fr.below {F : Nat → Prop} {B : Nat} {w w' : World} (h : Fr F w w') (hF : ∀ k, F k → B ≤ k) (hB : B ≤ w.heap.size) : Below B w w' :=
  ⟨h.os, h.tape, h.output, h.size, fun k hk => h.block k (Nat.lt_of_lt_of_le hk hB) (fun e => by have := hF k e; omega)⟩
theorem Fr.bk {F : Nat → Prop} {w w' : World} (h : Fr F w w') {g : Nat} {t : TypeId} {cs : Array Value} (hb : Bk w g t cs) (hg : ¬ F g) : Bk w' g t cs := (h.block g hb.lt hg).trans hb
theorem Fr.own {F : Nat → Prop} {w w' : World} (h : Fr F w w') {base : Nat} {e : TypeId} {size : Nat} {v : Value} {n : Nat} {xs : List Value} (ho : w.ownsRow base e size v n xs) (hg : ∀ k, v.ownBlock = some k → ¬ F k) : w'.ownsRow base e size v n xs := by
  obtain ⟨h1, h2⟩ := ho
  refine ⟨h1, ?_⟩
  rcases h2 with h2 | ⟨g, cap, cur, rfl, hb', hh, rest⟩
  · exact .inl h2
  · exact .inr ⟨g, cap, cur, rfl, hb', (h.block g (Array.getElem?_eq_some_iff.1 hh).1 (hg g rfl)).trans hh, rest⟩
theorem Fr.rd {F : Nat → Prop} {w w' : World} (h : Fr F w w') {size : Nat} {v : Value} {n : Nat} {xs : List Value} (hr : Rd w size v n xs) (hg : ∀ g off c, v = .slice (some ⟨g, off, none⟩) n c → 0 < n → ¬ F g) : Rd w' size v n xs :=
  hr.keep h.size fun g off c e hn hk => h.block g hk (hg g off c e hn)
/-- A step: of F's blocks and new ones alone; what is of F' behind it. -/
structure Step (F : Nat → Prop) (w : World) (F' : Nat → Prop) (w' : World) : Prop where
  fr : Fr F w w'
  new : ∀ k, F' k → F k ∨ w.heap.size ≤ k
theorem Step.refl (F : Nat → Prop) (w : World) : Step F w F w := ⟨Fr.refl F w, fun _ h => .inl h⟩
theorem Step.of_below {F : Nat → Prop} {w w' : World} (h : Below w.heap.size w w') : Step F w F w' := ⟨Fr.of_below h, fun _ h => .inl h⟩
theorem Step.trans {F F1 F2 : Nat → Prop} {w w1 w2 : World} (a : Step F w F1 w1) (b : Step F1 w1 F2 w2) : Step F w F2 w2 :=
  ⟨a.fr.trans b.fr a.new, fun k hk => (b.new k hk).elim (a.new k) (fun h => .inr (Nat.le_trans a.fr.size h))⟩
theorem Step.below {F F' : Nat → Prop} {B : Nat} {w w' : World} (h : Step F w F' w') (hF : ∀ k, F k → B ≤ k) (hB : B ≤ w.heap.size) : Below B w w' := h.fr.below hF hB
theorem Step.later {F F' : Nat → Prop} {B : Nat} {w w' : World} (h : Step F w F' w') (hF : ∀ k, F k → B ≤ k) (hB : B ≤ w.heap.size) : ∀ k, F' k → B ≤ k := fun k hk => (h.new k hk).elim (hF k) (fun e => Nat.le_trans hB e)
theorem own_uniq {w : World} {base base' : Nat} {e e' : TypeId} {size size' : Nat} {v v' : Value} {n n' : Nat} {xs xs' : List Value} (h : w.ownsRow base e size v n xs) (h' : w.ownsRow base' e' size' v' n' xs') (hne : e ≠ e') {k : Nat} (hk : v.ownBlock = some k) : v'.ownBlock ≠ some k := by
  intro hk'
  rcases h.2 with ⟨rfl, _⟩ | ⟨g, cap, cur, rfl, _, hh, _⟩
  · cases hk
  · rcases h'.2 with ⟨rfl, _⟩ | ⟨g', cap', cur', rfl, _, hh', _⟩
    · cases hk'
    · simp [Value.ownBlock] at hk hk'
      subst hk hk'
      exact hne (Bk.uniq (t := e) (t' := e') hh hh').1
theorem own_lt' {w : World} {base : Nat} {e : TypeId} {size : Nat} {v : Value} {n : Nat} {xs : List Value} (h : w.ownsRow base e size v n xs) {k : Nat} (hk : v.ownBlock = some k) : k < w.heap.size := by
  rcases h.2 with ⟨rfl, _⟩ | ⟨g, cap, cur, rfl, hb', hh, rest⟩
  · cases hk
  · simp [Value.ownBlock] at hk
    subst hk
    exact (Array.getElem?_eq_some_iff.1 hh).1
theorem own_bk_ne {w : World} {base : Nat} {e t : TypeId} {size : Nat} {v : Value} {n g : Nat} {xs : List Value} {cs : Array Value} (h : w.ownsRow base e size v n xs) (hb : Bk w g t cs) (hne : t ≠ e) : v.ownBlock ≠ some g := by
  intro hk
  rcases h.2 with ⟨rfl, _⟩ | ⟨g', cap, cur, rfl, hb', hh, rest⟩
  · cases hk
  · simp [Value.ownBlock] at hk
    subst hk
    exact hne (Bk.uniq (t := t) (t' := e) hb hh).1
end Go.Proofs.YtfafdkbnmfpbmaaDoor.Kit

/- Regions whose order is drawn, and whose operations read and whose callees make memory but yield one value: one walk, in the class of the worlds that are as w0 below B. Of no program. -/
namespace Go.Proofs.YtfafdkbnmfpbmaaDoor.Kit
open Go.RowKit
set_option linter.unusedVariables false

theorem wp_region_class {P : Program} (C : World → Prop) {id : Nat} {Q : Exit → Act → World → Prop} {a : Act} {w : World} {l : List Oper} (hm : P.follows .mixedOrders = true) (hB : Region.lexB .any l.toArray = true) (hC : C { w with drawn := w.drawn + 1 })
    (h : wpQuiet P l.toArray C (fun a' => ∀ w', C w' → Q .normal a' w') l a) : (Code.region id l.toArray true).wp P Q a w :=
  wp_region_quiet (C := C) hm hB hC (by simpa using h)
theorem callB {P : Program} {f : FuncId} {args : Array Value} {B : Nat} {w0 W' : World} {v : Value} (h : Calls P f args W' fun e w'' => e = .returned v ∧ Below W'.heap.size W' w'') (hb : Below B w0 W') (hB : B ≤ w0.heap.size) :
    Calls P f args W' fun e w'' => e = .returned v ∧ Below B w0 w'' :=
  h.mono fun e w'' ⟨he, hw⟩ => ⟨he, hb.trans (hw.mono (Nat.le_trans hB hb.size))⟩
theorem callS {P : Program} {f : FuncId} {args : Array Value} {B : Nat} {w0 W' : World} {v : Value} (h : Calls P f args W' fun e w'' => e = .returned v ∧ W' = w'') (hb : Below B w0 W') :
    Calls P f args W' fun e w'' => e = .returned v ∧ Below B w0 w'' :=
  h.mono fun e w'' ⟨he, hw⟩ => ⟨he, hw ▸ hb⟩
end Go.Proofs.YtfafdkbnmfpbmaaDoor.Kit

/- Lines that are read. -/
namespace Go.Proofs.YtfafdkbnmfpbmaaDoor
open Go.RowKit Kit
set_option linter.unusedVariables false
set_option linter.unusedSimpArgs false

/-- These cells read as these lines. -/
def LinesRd (w : World) : List L6.Line → List Value → Prop
  | [], cs => cs = []
  | x :: t, cs => ∃ vl va r, cs = vl :: .string ⟨x.word.toArray⟩ :: va :: r ∧ RdS w vl x.labels ∧ RdS w va x.args ∧ LinesRd w t r
theorem LinesV.rd {base : Nat} {w : World} : ∀ {ls : List L6.Line} {cs : List Value}, LinesV base w ls cs → LinesRd w ls cs
  | [], _, e => e
  | _ :: _, _, ⟨vl, va, r, e, h1, h2, h3⟩ => ⟨vl, va, r, e, h1.rd, h2.rd, LinesV.rd h3⟩
theorem LinesRd.kept {w w' : World} (hb : Below w.heap.size w w') : ∀ {ls : List L6.Line} {cs : List Value}, LinesRd w ls cs → LinesRd w' ls cs
  | [], _, e => e
  | _ :: _, _, ⟨vl, va, r, e, h1, h2, h3⟩ => ⟨vl, va, r, e, h1.kept hb, h2.kept hb, LinesRd.kept hb h3⟩
theorem LinesRd.at {w : World} : ∀ {ls : List L6.Line} {cs : List Value} (k : Nat) (hk : k < ls.length), LinesRd w ls cs → ∃ vl va, cs[k * 3]? = some vl ∧ cs[k * 3 + 1]? = some (.string ⟨ls[k].word.toArray⟩) ∧ cs[k * 3 + 2]? = some va ∧ RdS w vl ls[k].labels ∧ RdS w va ls[k].args
  | [], _, k, hk, _ => by simp at hk
  | x :: t, _, 0, _, ⟨vl, va, r, e, h1, h2, h3⟩ => by subst e; exact ⟨vl, va, rfl, rfl, rfl, h1, h2⟩
  | x :: t, _, k + 1, hk, ⟨vl, va, r, e, h1, h2, h3⟩ => by
    subst e
    obtain ⟨ul, ua, g1, g2, g3, g4, g5⟩ := LinesRd.at k (by simpa using hk) h3
    refine ⟨ul, ua, ?_, ?_, ?_, by simpa using g4, by simpa using g5⟩
    · rw [show (k + 1) * 3 = k * 3 + 3 by omega]; simpa using g1
    · rw [show (k + 1) * 3 + 1 = k * 3 + 1 + 3 by omega]; simpa using g2
    · rw [show (k + 1) * 3 + 2 = k * 3 + 2 + 3 by omega]; simpa using g3
def RdL (w : World) (v : Value) (ls : List L6.Line) : Prop := ∃ cs, Rd w 3 v ls.length cs ∧ LinesRd w ls cs
theorem ROwnL.rd {base : Nat} {w : World} {v : Value} {ls : List L6.Line} (h : ROwnL base w v ls) : RdL w v ls := by
  obtain ⟨cs, h1, h2⟩ := h
  exact ⟨cs, Rd.of_own h1, h2.rd⟩
theorem OwnL.rd {base : Nat} {w : World} {v : Value} {ls : List L6.Line} (h : OwnL base w v ls) : RdL w v ls := by
  obtain ⟨cs, h1, h2⟩ := h
  exact ⟨cs, Rd.of_own h1, h2.rd⟩
theorem RdL.kept {w w' : World} {v : Value} {ls : List L6.Line} (h : RdL w v ls) (hb : Below w.heap.size w w') : RdL w' v ls := by
  obtain ⟨cs, h1, h2⟩ := h
  exact ⟨cs, h1.kept hb, h2.kept hb⟩
theorem RdL.form {w : World} {v : Value} {ls : List L6.Line} (h : RdL w v ls) : ∃ A c, v = .slice A ls.length c := by
  obtain ⟨cs, h1, _⟩ := h
  exact h1.form
/-- The k-th line. -/
theorem RdL.at {w : World} {v : Value} {ls : List L6.Line} (h : RdL w v ls) {k : Nat} (hk : k < ls.length) : ∃ g off c vl va, v = .slice (some ⟨g, off, none⟩) ls.length c ∧ g < w.heap.size ∧
    w.cell? ⟨g, off + k * 3, none⟩ = some vl ∧ w.cell? ⟨g, off + k * 3 + 1, none⟩ = some (.string ⟨ls[k].word.toArray⟩) ∧ w.cell? ⟨g, off + k * 3 + 2, none⟩ = some va ∧ RdS w vl ls[k].labels ∧ RdS w va ls[k].args := by
  obtain ⟨cs, ⟨hl, A, c, rfl, h2, h3, h4⟩, hr⟩ := h
  obtain ⟨g, off, rfl, hg, hc⟩ := h4 (by omega)
  obtain ⟨vl, va, e0, e1, e2, r1, r2⟩ := hr.at k hk
  exact ⟨g, off, c, vl, va, rfl, hg, hc _ _ e0, hc _ _ e1, hc _ _ e2, r1, r2⟩
theorem lines_step {l l' : List L6.Line} {k : Nat} (hl : l.length = l'.length) (h : ∀ j (h1 : j < l.length) (h2 : j < l'.length), j < k → l[j] = l'[j]) (hk : l.length ≤ k) : l = l' :=
  List.ext_getElem hl fun j h1 h2 => h j h1 h2 (by omega)
def L6.Line.fits (x : L6.Line) : Prop := x.labels.length ≤ 1000000000 ∧ x.args.length ≤ 1000000000
theorem L6.line_ne_word {x y : L6.Line} (h : x.word ≠ y.word) : x ≠ y := fun e => h (by rw [e])
theorem L6.line_ne_labels {x y : L6.Line} (h : x.labels ≠ y.labels) : x ≠ y := fun e => h (by rw [e])
theorem L6.line_ne_args {x y : L6.Line} (h : x.args ≠ y.args) : x ≠ y := fun e => h (by rw [e])
theorem lines_ne {l l' : List L6.Line} {k : Nat} (h1 : k < l.length) (h2 : k < l'.length) (h : l[k] ≠ l'[k]) : decide (l = l') = false := by
  rw [decide_eq_false_iff_not]; intro e; subst e; exact h rfl
end Go.Proofs.YtfafdkbnmfpbmaaDoor

/- Lines that are copied: what lies where. -/
namespace Go.Proofs.YtfafdkbnmfpbmaaDoor
open Go.RowKit Kit
set_option linter.unusedVariables false
set_option linter.unusedSimpArgs false

theorem wp_append_new {P : Program} {w : World} {o : Oper} {a : Act} {K : Act → World → Prop} {Q : Exit → Act → World → Prop} (d s : Operand) (t tx : TypeId)
    (ho : o.op = .call { callee := .builtin .append, args := #[d, s], argTypes := #[t, tx] }) {e : TypeId} {size bytes : Nat} (rt : RowTy P t e size bytes) (hsz : 0 < size) (A : Option Addr) (hd : a.eval d = .slice A 0 0)
    (x : Value) (hx : a.eval s = x) (n : Nat) (xs : List Value) (hsrc : Src P size tx x n xs w) (h63 : n ≤ maxLen) (hby : n * bytes ≤ 140737488355328)
    (h : ∀ v' w', Rd w' size v' n xs → Below w.heap.size w w' → (0 < n → w'.ownsRow w.heap.size e size v' n xs) → (n = 0 → v' = .slice A 0 0 ∧ w' = w) → K (a.put o.dst v') w') :
    Oper.wp P o a w K Q := by
  obtain ⟨v', w', hrun, h2, h3, h4, h5⟩ := run_append_new (P := P) w tx o.type rt hsz A x n xs hsrc h63 hby
  unfold Oper.wp execOp
  simp only [ho, resolve, invoke, builtin, Sem.run_bind, Sem.run_pure, Result.andThen_ok, List.map_toArray, List.map_cons, List.map_nil, hd, hx, hrun]
  exact h v' w' h2 h3 h4 h5
/-- A slice of texts of the call's own; or it has none. -/
def OwnZ (base : Nat) (w : World) (v : Value) (l : List (List UInt8)) : Prop := OwnS base w v l ∨ (l = [] ∧ ∃ A, v = .slice A 0 0)
theorem OwnZ.form {base : Nat} {w : World} {v : Value} {l : List (List UInt8)} (h : OwnZ base w v l) : ∃ A c, v = .slice A l.length c := by
  rcases h with h | ⟨rfl, A, rfl⟩
  · exact h.form
  · exact ⟨A, 0, rfl⟩
theorem OwnZ.rd {base : Nat} {w : World} {v : Value} {l : List (List UInt8)} (h : OwnZ base w v l) : RdS w v l := by
  rcases h with h | ⟨rfl, A, rfl⟩
  · exact h.rd
  · exact ⟨by simp [L6.sv], A, 0, rfl, Nat.le_refl _, Nat.zero_le _, fun hn => absurd hn (by simp)⟩
theorem OwnZ.kept {base : Nat} {w w' : World} {v : Value} {l : List (List UInt8)} (h : OwnZ base w v l) (hb : Below w.heap.size w w') : OwnZ base w' v l := by
  rcases h with h | h
  · exact .inl (h.kept hb)
  · exact .inr h
theorem OwnZ.rebase {base base' : Nat} {w : World} {v : Value} {l : List (List UInt8)} (h : OwnZ base w v l) (hb : base' ≤ base) : OwnZ base' w v l := by
  rcases h with h | h
  · exact .inl (h.rebase hb)
  · exact .inr h
theorem OwnZ.of_new {w w' : World} {v : Value} {l : List (List UInt8)} {A : Option Addr} (h1 : 0 < l.length → w'.ownsRow w.heap.size 9 1 v l.length (L6.sv l)) (h2 : l.length = 0 → v = .slice A 0 0 ∧ w' = w) {base : Nat} (hb : base ≤ w.heap.size) : OwnZ base w' v l := by
  cases l with
  | nil => exact .inr ⟨rfl, A, (h2 rfl).1⟩
  | cons x t => exact .inl (OwnS.rebase (h1 (by simp)) hb)
/-- Another row that grows leaves slices of texts alone. -/
theorem OwnS.grownT {T : TypeId} (hT : T ≠ 9) {base base' : Nat} {w1 w' : World} {v u : Value} {size n : Nat} {cs : List Value} {l : List (List UInt8)} (hv : w1.ownsRow base' T size v n cs) (hg : w1.grownBy w' v.ownBlock) (hu : OwnS base w1 u l) : OwnS base w' u l := by
  obtain ⟨e1, e2⟩ := hu
  refine ⟨e1, ?_⟩
  rcases e2 with e2 | ⟨g', cap, cur, rfl, hb', hh, rest⟩
  · exact .inl e2
  · refine .inr ⟨g', cap, cur, rfl, hb', (hg.block g' (Array.getElem?_eq_some_iff.1 hh).1 (fun e => ?_)).trans hh, rest⟩
    obtain ⟨_, q⟩ := hv
    rcases q with ⟨rfl, _⟩ | ⟨g2, cap2, cur2, rfl, _, hh2, _⟩
    · simp [Value.ownBlock] at e
    · simp [Value.ownBlock] at e
      subst e
      rw [hh] at hh2
      simp at hh2
      exact hT hh2.2.symm
theorem OwnZ.grown {T : TypeId} (hT : T ≠ 9) {base base' : Nat} {w1 w' : World} {v u : Value} {size n : Nat} {cs : List Value} {l : List (List UInt8)} (hv : w1.ownsRow base' T size v n cs) (hg : w1.grownBy w' v.ownBlock) (hu : OwnZ base w1 u l) : OwnZ base w' u l := by
  rcases hu with h | h
  · exact .inl (OwnS.grownT hT hv hg h)
  · exact .inr h
def LinesZ (base : Nat) (w : World) : List L6.Line → List Value → Prop
  | [], cs => cs = []
  | x :: t, cs => ∃ vl va r, cs = vl :: .string ⟨x.word.toArray⟩ :: va :: r ∧ OwnZ base w vl x.labels ∧ OwnZ base w va x.args ∧ LinesZ base w t r
theorem LinesZ.map {base : Nat} {w w' : World} (h : ∀ v l, OwnZ base w v l → OwnZ base w' v l) : ∀ {ls : List L6.Line} {cs : List Value}, LinesZ base w ls cs → LinesZ base w' ls cs
  | [], _, e => e
  | _ :: _, _, ⟨vl, va, r, e, h1, h2, h3⟩ => ⟨vl, va, r, e, h _ _ h1, h _ _ h2, LinesZ.map h h3⟩
theorem LinesZ.snoc {base : Nat} {w : World} {x : L6.Line} {vl va : Value} (h1 : OwnZ base w vl x.labels) (h2 : OwnZ base w va x.args) : ∀ {ls : List L6.Line} {cs : List Value}, LinesZ base w ls cs → LinesZ base w (ls ++ [x]) (cs ++ [vl, .string ⟨x.word.toArray⟩, va])
  | [], _, e => by
    have e : _ = [] := e
    subst e
    exact ⟨vl, va, [], rfl, h1, h2, rfl⟩
  | _ :: _, _, ⟨vl', va', r, e, g1, g2, g3⟩ => by subst e; exact ⟨vl', va', _, rfl, g1, g2, LinesZ.snoc h1 h2 g3⟩
theorem LinesZ.rd {base : Nat} {w : World} : ∀ {ls : List L6.Line} {cs : List Value}, LinesZ base w ls cs → LinesRd w ls cs
  | [], _, e => e
  | _ :: _, _, ⟨vl, va, r, e, h1, h2, h3⟩ => ⟨vl, va, r, e, h1.rd, h2.rd, LinesZ.rd h3⟩
/-- The row of copies so far. -/
structure Cop (T : TypeId) (w W : World) (v : Value) (ls : List L6.Line) (cs : List Value) : Prop where
  below : Below w.heap.size w W
  own : W.ownsRow w.heap.size T 3 v ls.length cs
  lines : LinesZ w.heap.size W ls cs
theorem Cop.kept {T : TypeId} {w W W' : World} {v : Value} {ls : List L6.Line} {cs : List Value} (h : Cop T w W v ls cs) (hb : Below W.heap.size W W') : Cop T w W' v ls cs :=
  ⟨h.below.trans (hb.mono h.below.size), own_kept h.own hb, h.lines.map fun _ _ hz => hz.kept hb⟩
theorem Cop.rd {T : TypeId} {w W : World} {v : Value} {ls : List L6.Line} {cs : List Value} (h : Cop T w W v ls cs) : RdL W v ls := ⟨cs, Rd.of_own h.own, h.lines.rd⟩
theorem Cop.grown {T : TypeId} (hT : T ≠ 9) {w W W' : World} {v v' vl va : Value} {ls : List L6.Line} {x : L6.Line} {cs : List Value} (h : Cop T w W v ls cs) (h1 : OwnZ w.heap.size W vl x.labels) (h2 : OwnZ w.heap.size W va x.args)
    (ho : W'.ownsRow w.heap.size T 3 v' (ls.length + 1) (cs ++ [vl, .string ⟨x.word.toArray⟩, va])) (hb : Below w.heap.size W W') (hg : W.grownBy W' v.ownBlock) : Cop T w W' v' (ls ++ [x]) (cs ++ [vl, .string ⟨x.word.toArray⟩, va]) :=
  ⟨h.below.trans hb, by simpa using ho, LinesZ.snoc (OwnZ.grown hT h.own hg h1) (OwnZ.grown hT h.own hg h2) (h.lines.map fun _ _ hz => OwnZ.grown hT h.own hg hz)⟩
theorem zone3 {a b : Nat} {w : World} {vl va : Value} {x y : List (List UInt8)} {u : ByteArray} (h1 : OwnZ a w vl x) (h2 : OwnZ b w va y) : ∀ z ∈ [vl, .string u, va], z.oneCell' = true := by
  obtain ⟨A1, c1, rfl⟩ := h1.form
  obtain ⟨A2, c2, rfl⟩ := h2.form
  intro z hz
  simp only [List.mem_cons, List.not_mem_nil, or_false] at hz
  rcases hz with rfl | rfl | rfl <;> rfl
theorem lines_take {ls : List L6.Line} {k : Nat} (hk : k < ls.length) : ls.take (k + 1) = ls.take k ++ [ls[k]] := by rw [List.take_add_one, List.getElem?_eq_getElem hk]; rfl
end Go.Proofs.YtfafdkbnmfpbmaaDoor
