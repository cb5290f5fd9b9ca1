/- The walk of do: an act on both memories. -/
import Derived.Test.YtijekhdndegdaaaMmRefN
import Derived.Deep.RegionHeld3
import Derived.Deep.RegionWith
namespace Go.Proofs.Ytijekhdndegdaaa
open Go.RowKit Kit
set_option linter.unusedVariables false
set_option linter.unusedSimpArgs false

/-- The program's memory and the document's, alike; they share nothing, and lie above base. -/
structure PairM (w : World) (base gm gb gr gc : Nat) (b : List UInt8) (hs : List (Nat × Nat)) : Prop where
  a : OwnM w gm gb b hs
  r : RefM w gr gc b hs
  ne : gb ≠ gc
  offa : OffM w 68 gm gc
  offr : OffM w 65 gr gb
  lb : base ≤ gb
  lc : base ≤ gc
theorem RefM.ob {w : World} {gm gb : Nat} {b : List UInt8} {hs : List (Nat × Nat)} (h : RefM w gm gb b hs) : ∃ cap x, Rw w gb 5 cap b ∧ Bk w gm 65 x := by
  obtain ⟨hv, cap, k1, k2, _⟩ := h.obj; exact ⟨cap, _, k2, k1⟩
theorem OwnM.ob2 {w : World} {gm gb : Nat} {b : List UInt8} {hs : List (Nat × Nat)} (h : OwnM w gm gb b hs) : ∃ cap x, Rw w gb 5 cap b ∧ Bk w gm 68 x := by
  obtain ⟨hv, cap, k1, k2, _⟩ := h.obj; exact ⟨cap, _, k2, k1⟩
theorem PairM.kept {w w' : World} {base gm gb gr gc : Nat} {b : List UInt8} {hs : List (Nat × Nat)} (h : PairM w base gm gb gr gc b hs) (hb : Below w.heap.size w w') : PairM w' base gm gb gr gc b hs := by
  obtain ⟨_, _, _, k2⟩ := h.a.ob2
  obtain ⟨_, _, _, k2'⟩ := h.r.ob
  exact ⟨h.a.kept hb, h.r.kept hb, h.ne, h.offa.same (hb.block gm k2.lt), h.offr.same (hb.block gr k2'.lt), h.lb, h.lc⟩
/-- First the program's was written, then the document's. -/
theorem PairM.both {w w1 w2 : World} {base gm gb gr gc : Nat} {b b' : List UInt8} {hs : List (Nat × Nat)} (h : PairM w base gm gb gr gc b hs) (h1 : But gb w w1) (o1 : OwnM w1 gm gb b' hs) (h2 : But gc w1 w2) (o2 : RefM w2 gr gc b' hs) : PairM w2 base gm gb gr gc b' hs := by
  obtain ⟨_, _, ka, kb⟩ := h.a.ob2
  obtain ⟨_, _, kc, kd⟩ := h.r.ob
  have n1 := ka.ne kd (by decide)
  have n2 := kc.ne kd (by decide)
  have n3 := kc.ne kb (by decide)
  have n4 := ka.ne kb (by decide)
  have e1 := h1.block kb.lt n4
  have e2 := h2.block (Nat.lt_of_lt_of_le kb.lt h1.size) n3
  have e3 := h1.block kd.lt n1
  have e4 := h2.block (Nat.lt_of_lt_of_le kd.lt h1.size) n2
  exact ⟨o1.but h2 n3 h.ne (h.offa.same e1), o2, h.ne, h.offa.same (e2.trans e1), h.offr.same (e4.trans e3), h.lb, h.lc⟩
/-- The document's, when the program's alone was written. -/
theorem PairM.ref1 {w w1 : World} {base gm gb gr gc : Nat} {b : List UInt8} {hs : List (Nat × Nat)} (h : PairM w base gm gb gr gc b hs) (h1 : But gb w w1) : RefM w1 gr gc b hs := by
  obtain ⟨_, _, ka, kb⟩ := h.a.ob2
  obtain ⟨_, _, kc, kd⟩ := h.r.ob
  exact h.r.but h1 (ka.ne kd (by decide)) h.ne.symm h.offr

def Mm.Act.arr (x : Mm.Act) : Array Value := #[.int .i64 x.kind, .int .i64 x.n, .int .u32 x.at_, .int .u32 x.v, x.bv]
def Mm.DoPost (base gm gb gr gc : Nat) (hs : List (Nat × Nat)) (b : List UInt8) (w : World) (e : Ending) (w' : World) : Prop := e = .returned (.bool true) ∧ ∃ b', b'.length = b.length ∧ PairM w' base gm gb gr gc b' hs ∧ Below base w w'

set_option maxRecDepth 20000 in
set_option maxHeartbeats 2000000 in
theorem do_read (kind n : Int) (a v : Nat) (A : Option Addr) (bl c : Nat) (hk : kind = 0) (ha : a < 4294967296) (w : World) (base gm gb gr gc : Nat) (b : List UInt8) (hs : List (Nat × Nat)) (hp : PairM w base gm gb gr gc b hs) (hB : base ≤ w.heap.size) :
    Calls Try.prog 48 #[.pointer (some ⟨gm, 0, none⟩), .pointer (some ⟨gr, 0, none⟩), .agg #[.int .i64 kind, .int .i64 n, .int .u32 a, .int .u32 v, .slice A bl c]] w (Mm.DoPost base gm gb gr gc hs b w) := by
  have HX := Lib.hid (show ∀ W, Below (w.heap.size + 1) (w.alloc (.cells #[.int .i64 kind, .int .i64 n, .int .u32 a, .int .u32 v, .slice A bl c] 61)) W → W.cell? ⟨w.heap.size, 1, none⟩ = some (.int .i64 n) ∧ W.cell? ⟨w.heap.size, 2, none⟩ = some (.int .u32 a) from fun W hbl => by
    have hk := (Bk.fresh w 61 #[.int .i64 kind, .int .i64 n, .int .u32 a, .int .u32 v, .slice A bl c]).below hbl (by omega)
    exact ⟨hk.cell 1, hk.cell 2⟩)
  have HB0 := Lib.hid ((Below.refl w.heap.size w).alloc (Nat.le_refl _) (.cells #[.int .i64 kind, .int .i64 n, .int .u32 a, .int .u32 v, .slice A bl c] 61))
  have HP := Lib.hid hp
  have hg : (kind == 0) = true := by simpa using hk
  clear hp hk
  go_enter Try.func48, Try.ntmps48
  go_wp2_with fail
  have HP1 := Lib.hid (HP.out.kept HB0.out)
  refine (read_own _ gm gb b hs a n ha HP1.out.a).mono ?_
  rintro e w1 ⟨rfl, hb1⟩
  have HP2 := Lib.hid (HP1.out.kept hb1)
  have HB1 := Lib.hid (HB0.out.trans (hb1.mono (by simp)))
  obtain ⟨q1, q2⟩ := HX.out w1 (by have := hb1; rw [World.size_alloc] at this; exact this)
  clear hb1
  have hrr := Lib.hid (rread_own w1 gr gc b hs a n ha HP2.out.r)
  generalize Mm.readV b hs a n = V at *
  generalize Mm.ask b.length hs a n = E at *
  go_wp2_with fail
  refine hrr.out.mono ?_
  rintro e w2 ⟨rfl, rfl⟩
  clear hrr
  go_wp2_with (go_at_call 21; refine (mnum_any _ _).mono ?_; rintro e w' ⟨rfl, rfl⟩)
  go_ret
  exact ⟨rfl, b, rfl, HP2.out, HB1.out.mono hB⟩

set_option maxRecDepth 20000 in
set_option maxHeartbeats 2000000 in
theorem do_write (kind n : Int) (a v : Nat) (A : Option Addr) (bl c : Nat) (hk : kind = 1) (ha : a < 4294967296) (hv : v < 4294967296) (w : World) (base gm gb gr gc : Nat) (b : List UInt8) (hs : List (Nat × Nat)) (hp : PairM w base gm gb gr gc b hs) (hB : base ≤ w.heap.size) :
    Calls Try.prog 48 #[.pointer (some ⟨gm, 0, none⟩), .pointer (some ⟨gr, 0, none⟩), .agg #[.int .i64 kind, .int .i64 n, .int .u32 a, .int .u32 v, .slice A bl c]] w (Mm.DoPost base gm gb gr gc hs b w) := by
  have HX := Lib.hid (show ∀ W, (∃ W1, But gb (w.alloc (.cells #[.int .i64 kind, .int .i64 n, .int .u32 a, .int .u32 v, .slice A bl c] 61)) W1 ∧ But gc W1 W) → W.cell? ⟨w.heap.size, 1, none⟩ = some (.int .i64 n) ∧ W.cell? ⟨w.heap.size, 2, none⟩ = some (.int .u32 a) ∧ W.cell? ⟨w.heap.size, 3, none⟩ = some (.int .u32 v) from fun W ⟨W1, h1, h2⟩ => by
    obtain ⟨_, _, ka, kb⟩ := hp.a.ob2
    obtain ⟨_, _, kc, kd⟩ := hp.r.ob
    have l1 := ka.lt
    have l2 := kc.lt
    have hk := h2.bk (h1.bk (Bk.fresh w 61 #[.int .i64 kind, .int .i64 n, .int .u32 a, .int .u32 v, .slice A bl c]) (by omega)) (by omega)
    exact ⟨hk.cell 1, hk.cell 2, hk.cell 3⟩)
  have HB0 := Lib.hid ((Below.refl w.heap.size w).alloc (Nat.le_refl _) (.cells #[.int .i64 kind, .int .i64 n, .int .u32 a, .int .u32 v, .slice A bl c] 61))
  have HP := Lib.hid hp
  have hg0 : (kind == 0) = false := by simp; omega
  have hg : (kind == 1) = true := by simpa using hk
  clear hp hk
  go_enter Try.func48, Try.ntmps48
  go_wp2_with fail
  have HP1 := Lib.hid (HP.out.kept HB0.out)
  have HO := Lib.hid (show ∀ W, But gb (w.alloc (.cells #[.int .i64 kind, .int .i64 n, .int .u32 a, .int .u32 v, .slice A bl c] 61)) W ∧ Below (w.heap.size + 1) (w.alloc (.cells #[.int .i64 kind, .int .i64 n, .int .u32 a, .int .u32 v, .slice A bl c] 61)) W → Calls Try.prog 24 #[.pointer (some ⟨gm, 0, none⟩), .int .u32 a, .int .i64 n, .int .u32 v] W fun e w' => e = .returned (.int .i64 (Mm.ask b.length hs a n)) ∧ OwnM w' gm gb (Mm.writeB b hs a n v) hs ∧ But gb (w.alloc (.cells #[.int .i64 kind, .int .i64 n, .int .u32 a, .int .u32 v, .slice A bl c] 61)) w' from fun W ⟨h1, h2⟩ =>
    (write_own W gm gb b hs a v n ha hv (HP1.out.kept (by rw [World.size_alloc]; exact h2)).a).mono fun e w' ⟨k1, k2, k3⟩ => ⟨k1, k2, h1.trans k3⟩)
  have HR := Lib.hid (show ∀ W, But gb (w.alloc (.cells #[.int .i64 kind, .int .i64 n, .int .u32 a, .int .u32 v, .slice A bl c] 61)) W → Calls Try.prog 78 #[.pointer (some ⟨gr, 0, none⟩), .int .u32 a, .int .i64 n, .int .u32 v] W fun e w' => e = .returned (.int .i64 (Mm.ask b.length hs a n)) ∧ RefM w' gr gc (Mm.writeB b hs a n v) hs ∧ But gc W w' from fun W h1 =>
    rwrite_own W gr gc b hs a v n ha hv (HP1.out.ref1 h1))
  obtain ⟨q1, q2, q3⟩ := HX.out _ ⟨_, But.of_below (Below.refl _ _), But.of_below (Below.refl _ _)⟩
  have HWL := Lib.hid (Mm.writeB_length b hs a n v)
  generalize Mm.writeB b hs a n v = b' at *
  generalize Mm.ask b.length hs a n = E at *
  go_region_held3 (fun W' => W'.cell? ⟨w.heap.size, 1, none⟩ = some (.int .i64 n) ∧ W'.cell? ⟨w.heap.size, 2, none⟩ = some (.int .u32 a) ∧ W'.cell? ⟨w.heap.size, 3, none⟩ = some (.int .u32 v))
    (first | exact HX.out _ ⟨_, hbut1, hbut2⟩ | exact HX.out _ ⟨_, hbut1, But.of_below (Below.refl _ _)⟩ | go_keep)
    (first | (go_at_call 21; refine (mnum_any _ _).mono ?_; rintro e w' ⟨rfl, rfl⟩) | (go_at_call 24; refine (HO.out _ ⟨But.of_below (Below.refl _ _).drew, (Below.refl _ _).drew⟩).mono ?_; rintro e w1 ⟨rfl, ho1, hbut1⟩) | (go_at_call 78; refine (HR.out _ hbut1).mono ?_; rintro e w2 ⟨rfl, ho2, hbut2⟩))
  go_wp2
  go_ret
  have z1 := hbut1.size
  simp at z1
  exact ⟨rfl, b', HWL.out, HP1.out.both hbut1 ho1 hbut2 ho2, ((HB0.out.mono hB).trans (hbut1.below HP.out.lb (by simp; omega))).trans (hbut2.below HP.out.lc (by omega))⟩

set_option maxRecDepth 20000 in
theorem do_none (kind n : Int) (a v : Nat) (A : Option Addr) (bl c : Nat) (h0 : kind ≠ 0) (h1 : kind ≠ 1) (h2 : kind ≠ 2) (h3 : kind ≠ 3) (w : World) (base gm gb gr gc : Nat) (b : List UInt8) (hs : List (Nat × Nat)) (hp : PairM w base gm gb gr gc b hs) (hB : base ≤ w.heap.size) :
    Calls Try.prog 48 #[.pointer (some ⟨gm, 0, none⟩), .pointer (some ⟨gr, 0, none⟩), .agg #[.int .i64 kind, .int .i64 n, .int .u32 a, .int .u32 v, .slice A bl c]] w (Mm.DoPost base gm gb gr gc hs b w) := by
  have HB0 := Lib.hid ((Below.refl w.heap.size w).alloc (Nat.le_refl _) (.cells #[.int .i64 kind, .int .i64 n, .int .u32 a, .int .u32 v, .slice A bl c] 61))
  have HP := Lib.hid hp
  have g0 : (kind == 0) = false := by simpa using h0
  have g1 : (kind == 1) = false := by simpa using h1
  have g2 : (kind == 2) = false := by simpa using h2
  have g3 : (kind == 3) = false := by simpa using h3
  clear hp h0 h1 h2 h3
  go_enter Try.func48, Try.ntmps48
  go_wp2
  go_ret
  exact ⟨rfl, b, rfl, HP.out.kept HB0.out, HB0.out.mono hB⟩
end Go.Proofs.Ytijekhdndegdaaa
