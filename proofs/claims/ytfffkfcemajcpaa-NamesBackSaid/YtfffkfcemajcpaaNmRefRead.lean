/- The walk of the document's Read. -/
import Derived.Test.YtfffkfcemajcpaaNmRead
import Derived.StillTailTactics
import Derived.Deep.DeepCutAuto
namespace Go.Proofs.Ytfffkfcemajcpaa
open Go.RowKit Kit
set_option linter.unusedVariables false
set_option linter.unusedSimpArgs false

theorem slice_run_h (g off len cap hi : Nat) (h2 : hi ≤ cap) (h : Int) (hh : h = hi) (W : World) :
    (Instr.slice 22 (.slice (some ⟨g, off, none⟩) len cap) none (some (.int .i64 h)) none).run Try.prog W = .ok (sliced (some ⟨g, off, none⟩) 0 hi cap 1) W := by
  obtain ⟨i, hi', hz, hs1, hb1⟩ := bt.info
  have helem : Try.prog.elem 22 = 5 := by simp [Program.elem, bt.slice]
  have ht : Try.prog.underlying 22 = some (.slice (Try.prog.elem 22)) := by rw [helem]; exact bt.slice
  have hsz : (sizeOf (Try.prog.elem 22)).run Try.prog W = .ok 1 W := by rw [helem]; simp [sizeOf, typeInfo, hi', hs1]
  subst hh
  rw [run_slice_h (w := W) 22 _ _ _ ht .i64 hi (by omega) (by omega), hsz]
  simp

/-- What the walk of the document's Read is told of the bytes, in any later world. -/
structure RG (w : World) (g off cap n k f : Nat) (nm : List UInt8) (x0 x4 x8 : Nat) (v2 : Value) (E : Int) (L T : List UInt8) (vL : Value) : Prop where
  c13 : ∀ W', Below w.heap.size w W' → W'.cell? ⟨g, off + 13, none⟩ = some (.int .u8 k)
  c12 : ∀ W', Below w.heap.size w W' → W'.cell? ⟨g, off + 12, none⟩ = some (.int .u8 f)
  cv : ∀ W', Below w.heap.size w W' → (convert 22 9 v2).run Try.prog W' = .ok (.string ⟨nm.toArray⟩) W'
  s2 : ∀ W', (Instr.slice 22 (.slice (some ⟨g, off, none⟩) n cap) (some (.int .i64 14)) (some (.int .i64 (14 + (k : Int)))) none).run Try.prog W' = .ok v2 W'
  sL : L.length ≤ n → ∀ W', (Instr.slice 22 (.slice (some ⟨g, off, none⟩) n cap) none (some (.int .i64 (L.length : Nat))) none).run Try.prog W' = .ok vL W'
  cvL : L.length ≤ n → ∀ W', Below w.heap.size w W' → (convert 22 9 vL).run Try.prog W' = .ok (.string ⟨T.toArray⟩) W'
  w0 : ∀ W', Below w.heap.size w W' → Calls Try.prog 44 #[.slice (some ⟨g, off, none⟩) n cap, .int .i64 0] W' fun e w' => e = .returned (.int .u32 x0) ∧ w' = W'.drew
  w4 : ∀ W', Below w.heap.size w W' → Calls Try.prog 44 #[.slice (some ⟨g, off, none⟩) n cap, .int .i64 4] W' fun e w' => e = .returned (.int .u32 x4) ∧ w' = W'.drew
  w8 : ∀ W', Below w.heap.size w W' → Calls Try.prog 44 #[.slice (some ⟨g, off, none⟩) n cap, .int .i64 8] W' fun e w' => e = .returned (.int .u32 x8) ∧ w' = W'.drew
  bytes : ∀ W', Calls Try.prog 34 #[.agg #[.string ⟨nm.toArray⟩, .int .i64 f, .int .u32 x0, .int .u32 x4, .int .u32 x8]] W' fun e w' => ∃ v, e = .returned (.tuple #[v, .int .i64 E]) ∧ OwnB 5 W'.heap.size w' v L ∧ Below W'.heap.size W' w'

def RGPost (w : World) (n f : Nat) (nm : List UInt8) (x0 x4 x8 : Nat) (E : Int) (L T : List UInt8) (e : Ending) (w' : World) : Prop :=
  ((E ≠ 0 ∨ n < L.length ∨ T ≠ L) → e = .returned (.tuple #[hv0, .int .i64 0, .int .i64 45])) ∧
    ((E = 0 ∧ L.length ≤ n ∧ T = L) → e = .returned (.tuple #[hv ⟨nm.toArray⟩ f x0 x4 x8, .int .i64 (L.length : Nat), .int .i64 0])) ∧ Below w.heap.size w w'
theorem RGPost.bad {w : World} {n f : Nat} {nm : List UInt8} {x0 x4 x8 : Nat} {E : Int} {L T : List UInt8} {w' : World} (h : E ≠ 0 ∨ n < L.length ∨ T ≠ L) (hb : Below w.heap.size w w') :
    RGPost w n f nm x0 x4 x8 E L T (.returned (.tuple #[hv0, .int .i64 0, .int .i64 45])) w' := ⟨fun _ => rfl, fun h2 => by
      rcases h with h | h | h
      · exact absurd h2.1 h
      · omega
      · exact absurd h2.2.2 h, hb⟩
theorem RGPost.good {w : World} {n f : Nat} {nm : List UInt8} {x0 x4 x8 : Nat} {E : Int} {L T : List UInt8} {w' : World} (h : E = 0 ∧ L.length ≤ n ∧ T = L) (hb : Below w.heap.size w w') :
    RGPost w n f nm x0 x4 x8 E L T (.returned (.tuple #[hv ⟨nm.toArray⟩ f x0 x4 x8, .int .i64 (L.length : Nat), .int .i64 0])) w' := ⟨fun h2 => by
      rcases h2 with h2 | h2 | h2
      · exact absurd h.1 h2
      · omega
      · exact absurd h.2.2 h2, fun _ => rfl, hb⟩

set_option maxHeartbeats 8000000 in
theorem refRead_core (w : World) (g off cap n k f : Nat) (nm : List UInt8) (x0 x4 x8 : Nat) (v2 : Value) (E : Int) (L T : List UInt8) (vL : Value) (F : RG w g off cap n k f nm x0 x4 x8 v2 E L T vL)
    (hg : g < w.heap.size) (hcap : n ≤ cap) (h14 : 14 ≤ n) (h2000 : n ≤ 2000) (hk : k < 256) (hl2 : 14 + k ≤ n) (hf : f < 256) (hL : L.length ≤ 60) :
    Calls Try.prog 36 #[.slice (some ⟨g, off, none⟩) n cap] w (RGPost w n f nm x0 x4 x8 E L T) := by
  have HB0 := Lib.hid (show Below w.heap.size w (w.alloc (.cells #[.string ⟨#[]⟩, .int .i64 0, .int .u32 0, .int .u32 0, .int .u32 0] 38)) from (Below.refl _ _).alloc (Nat.le_refl _) _)
  have c13 : (w.alloc (.cells #[.string ⟨#[]⟩, .int .i64 0, .int .u32 0, .int .u32 0, .int .u32 0] 38)).cell? ⟨g, off + 13, none⟩ = some (.int .u8 k) := F.c13 _ HB0.out
  have hsl := F.s2
  have n13 : 13 < n := by omega
  have n12 : 12 < n := by omega
  have m13 : (13 : Int) < n := by omega
  have m12 : (12 : Int) < n := by omega
  have s0 : (0 : Int) ≤ k := by omega
  have s1 : (14 : Int) + k ≤ cap := by omega
  have s2 : (14 : Int) ≤ 14 + k := by omega
  have s3 : 14 + k ≤ cap := by omega
  have s4 : (0 : Int) ≤ 14 + k := by omega
  have s6 : 14 ≤ 14 + k := by omega
  have s7 : IntKind.i64.wrap (14 + (k : Int)) = 14 + k := IntWalk.i64_in _ (by omega)
  have s8 : IntKind.i64.wrap (k : Int) = k := IntWalk.i64_in _ (by omega)
  have s9 : IntKind.i64.wrap (f : Int) = f := IntWalk.i64_in _ (by omega)
  have HF := Lib.hid F; clear F
  have HS := Lib.hid (show ∀ W', Below w.heap.size w W' → W'.cell? ⟨g, off + 13, none⟩ = some (.int .u8 k) ∧ W'.cell? ⟨g, off + 12, none⟩ = some (.int .u8 f) ∧ (convert 22 9 v2).run Try.prog W' = .ok (.string ⟨nm.toArray⟩) W' from fun W' hb =>
    ⟨HF.out.c13 W' hb, HF.out.c12 W' hb, HF.out.cv W' hb⟩)
  go_enter Try.func36, Try.ntmps36
  go_upto_region 3 with fail
  go_cut [5] (fun s5 wx => s5 = .pointer (some ⟨w.heap.size + 1, 0, none⟩) ∧ wx = ((w.alloc (.cells #[.string ⟨#[]⟩, .int .i64 0, .int .u32 0, .int .u32 0, .int .u32 0] 38)).alloc (.cells #[.string ⟨nm.toArray⟩, .int .i64 f, .int .u32 x0, .int .u32 x4, .int .u32 x8] 38)).drew.drew.drew.drew)
  case first =>
    go_region_held3 (fun w' => w'.cell? ⟨g, off + 13, none⟩ = some (.int .u8 k) ∧ w'.cell? ⟨g, off + 12, none⟩ = some (.int .u8 f) ∧ (convert 22 9 v2).run Try.prog w' = .ok (.string ⟨nm.toArray⟩) w')
      (first | exact HS.out _ (by repeat (first | exact Below.refl _ _ | apply Below.drew | refine Below.alloc ?_ (by simp) _ | refine Below.setCell ?_ (by simp) _)) | (go_keep; done))
      (first
        | (go_at_call 44; first | ((with_reducible refine (HF.out.w0 _ ?_).mono ?_); (repeat (first | exact Below.refl _ _ | apply Below.drew | refine Below.alloc ?_ (by simp) _ | refine Below.setCell ?_ (by simp) _)); rintro e w' ⟨rfl, rfl⟩) | ((with_reducible refine (HF.out.w4 _ ?_).mono ?_); (repeat (first | exact Below.refl _ _ | apply Below.drew | refine Below.alloc ?_ (by simp) _ | refine Below.setCell ?_ (by simp) _)); rintro e w' ⟨rfl, rfl⟩) | ((with_reducible refine (HF.out.w8 _ ?_).mono ?_); (repeat (first | exact Below.refl _ _ | apply Below.drew | refine Below.alloc ?_ (by simp) _ | refine Below.setCell ?_ (by simp) _)); rintro e w' ⟨rfl, rfl⟩)))
    all_goals (go_wp2_with fail; go_meet; exact ⟨rfl, rfl⟩)
  obtain ⟨rfl, rfl⟩ := hcut
  clear hsl s7 s8 s9 c13 HS
  have HBY := HF.out.bytes
  go_wp2_with fail
  refine (HBY _).mono ?_
  rintro e w1 ⟨v, rfl, ho, hb⟩
  clear HBY
  have q0 : w1.cell? ⟨w.heap.size + 1, 0, none⟩ = some (.string ⟨nm.toArray⟩) := (hb.cell (p := ⟨w.heap.size + 1, 0, none⟩) (by simp; try omega)).trans (by go_simp)
  have z0 : w1.cell? ⟨w.heap.size, 0, none⟩ = some (.string ⟨#[]⟩) := (hb.cell (p := ⟨w.heap.size, 0, none⟩) (by simp; try omega)).trans (by go_simp)
  have r0 : w1.frozen? ⟨w.heap.size, 0, none⟩ = false := (hb.frozen (p := ⟨w.heap.size, 0, none⟩) (by simp; try omega)).trans (by go_simp)
  have q1 : w1.cell? ⟨w.heap.size + 1, 1, none⟩ = some (.int .i64 f) := (hb.cell (p := ⟨w.heap.size + 1, 1, none⟩) (by simp; try omega)).trans (by go_simp)
  have z1 : w1.cell? ⟨w.heap.size, 1, none⟩ = some (.int .i64 0) := (hb.cell (p := ⟨w.heap.size, 1, none⟩) (by simp; try omega)).trans (by go_simp)
  have r1 : w1.frozen? ⟨w.heap.size, 1, none⟩ = false := (hb.frozen (p := ⟨w.heap.size, 1, none⟩) (by simp; try omega)).trans (by go_simp)
  have q2 : w1.cell? ⟨w.heap.size + 1, 2, none⟩ = some (.int .u32 x0) := (hb.cell (p := ⟨w.heap.size + 1, 2, none⟩) (by simp; try omega)).trans (by go_simp)
  have z2 : w1.cell? ⟨w.heap.size, 2, none⟩ = some (.int .u32 0) := (hb.cell (p := ⟨w.heap.size, 2, none⟩) (by simp; try omega)).trans (by go_simp)
  have r2 : w1.frozen? ⟨w.heap.size, 2, none⟩ = false := (hb.frozen (p := ⟨w.heap.size, 2, none⟩) (by simp; try omega)).trans (by go_simp)
  have q3 : w1.cell? ⟨w.heap.size + 1, 3, none⟩ = some (.int .u32 x4) := (hb.cell (p := ⟨w.heap.size + 1, 3, none⟩) (by simp; try omega)).trans (by go_simp)
  have z3 : w1.cell? ⟨w.heap.size, 3, none⟩ = some (.int .u32 0) := (hb.cell (p := ⟨w.heap.size, 3, none⟩) (by simp; try omega)).trans (by go_simp)
  have r3 : w1.frozen? ⟨w.heap.size, 3, none⟩ = false := (hb.frozen (p := ⟨w.heap.size, 3, none⟩) (by simp; try omega)).trans (by go_simp)
  have q4 : w1.cell? ⟨w.heap.size + 1, 4, none⟩ = some (.int .u32 x8) := (hb.cell (p := ⟨w.heap.size + 1, 4, none⟩) (by simp; try omega)).trans (by go_simp)
  have z4 : w1.cell? ⟨w.heap.size, 4, none⟩ = some (.int .u32 0) := (hb.cell (p := ⟨w.heap.size, 4, none⟩) (by simp; try omega)).trans (by go_simp)
  have r4 : w1.frozen? ⟨w.heap.size, 4, none⟩ = false := (hb.frozen (p := ⟨w.heap.size, 4, none⟩) (by simp; try omega)).trans (by go_simp)
  have hsz : w.heap.size + 1 < w1.heap.size := by have := hb.size; simp at this; omega
  have HB1 := Lib.hid (show Below w.heap.size w w1 from (show Below w.heap.size w _ by repeat (first | exact Below.refl _ _ | apply Below.drew | refine Below.alloc ?_ (by simp) _ | refine Below.setCell ?_ (by simp) _)).trans (hb.mono (by simp; omega)))
  have HO := Lib.hid ho.rd
  clear hb ho HB0
  obtain ⟨av, cv, rfl⟩ := HO.out.length
  by_cases hE : E = 0
  · subst hE
    by_cases hlen : n < L.length
    · have h1 : (n : Int) < (L.length : Int) := by omega
      have HL := Lib.hid (show (0 : Int) ≠ 0 ∨ n < L.length ∨ T ≠ L from .inr (.inl hlen))
      go_wp2_with fail
      refine wp_region_still_lit (by kernel_rfl) (by kernel_rfl) ?_
      repeat ((with_reducible refine wpStill_step (fun K hK => ?_)); go_simp; (with_reducible refine hK _ ?_); clear hK K)
      refine wpStill_nil ?_
      rw [show ({ w1 with drawn := w1.drawn + 1 } : World) = w1.drew from rfl]
      go_wp2
      refine bodyPost_ret (v := .tuple #[hv0, .int .i64 0, .int .i64 45]) (by simp [results, Try.results36, go_sem, z0, z1, z2, z3, z4]) rfl (RGPost.bad HL.out ?_)
      refine HB1.out.trans (Below.mono (B := w.heap.size) ?_ (Nat.le_refl _))
      repeat (first | exact (Below.refl _ _) | apply Below.drew | refine Below.setCell ?_ (by simp) _)
    · have h1 : (L.length : Int) ≤ (n : Int) := by omega
      have hlen' : L.length ≤ n := by omega
      have hsl := HF.out.sL hlen'
      have hcL := HF.out.cvL hlen' w1.drew HB1.out.drew
      have hcC := run_string_of bt Try.underlying9 (HO.out.below (Below.drew (Below.refl _ _)))
      have HL := Lib.hid hlen'
      have h2 : L.length ≤ cap := by omega
      by_cases hT : T = L
      · have hne : (T == L) = true := by simp [hT]
        have hn2 : decide (n < L.length) = false := by rw [decide_eq_false_iff_not]; omega
        have HT := Lib.hid hT
        clear hT hlen
        go_wp2_with fail
        refine wp_region_still_lit (by kernel_rfl) (by kernel_rfl) ?_
        repeat ((with_reducible refine wpStill_step (fun K hK => ?_)); go_simp; (with_reducible refine hK _ ?_); clear hK K)
        refine wpStill_nil ?_
        rw [show ({ w1 with drawn := w1.drawn + 1 } : World) = w1.drew from rfl]
        go_wp2
        refine bodyPost_ret (v := .tuple #[hv ⟨nm.toArray⟩ f x0 x4 x8, .int .i64 (L.length : Nat), .int .i64 0]) (by simp [results, Try.results36, go_sem, z0, z1, z2, z3, z4]) rfl (RGPost.good ⟨rfl, HL.out, HT.out⟩ ?_)
        refine HB1.out.trans (Below.mono (B := w.heap.size) ?_ (Nat.le_refl _))
        repeat (first | exact (Below.refl _ _) | apply Below.drew | refine Below.setCell ?_ (by simp) _)
      · have hne : (T == L) = false := by simp [hT]
        have hn2 : decide (n < L.length) = false := by rw [decide_eq_false_iff_not]; omega
        have HT := Lib.hid (show (0 : Int) ≠ 0 ∨ n < L.length ∨ T ≠ L from .inr (.inr hT))
        clear hT hlen
        go_wp2_with fail
        refine wp_region_still_lit (by kernel_rfl) (by kernel_rfl) ?_
        repeat ((with_reducible refine wpStill_step (fun K hK => ?_)); go_simp; (with_reducible refine hK _ ?_); clear hK K)
        refine wpStill_nil ?_
        rw [show ({ w1 with drawn := w1.drawn + 1 } : World) = w1.drew from rfl]
        go_wp2
        refine bodyPost_ret (v := .tuple #[hv0, .int .i64 0, .int .i64 45]) (by simp [results, Try.results36, go_sem, z0, z1, z2, z3, z4]) rfl (RGPost.bad HT.out ?_)
        refine HB1.out.trans (Below.mono (B := w.heap.size) ?_ (Nat.le_refl _))
        repeat (first | exact (Below.refl _ _) | apply Below.drew | refine Below.setCell ?_ (by simp) _)
  · have h1 : (E != 0) = true := by simpa using hE
    have HE := Lib.hid (show E ≠ 0 ∨ n < L.length ∨ T ≠ L from .inl hE)
    clear hE
    go_wp2_with fail
    refine wp_region_still_lit (by kernel_rfl) (by kernel_rfl) ?_
    repeat ((with_reducible refine wpStill_step (fun K hK => ?_)); go_simp; (with_reducible refine hK _ ?_); clear hK K)
    refine wpStill_nil ?_
    rw [show ({ w1 with drawn := w1.drawn + 1 } : World) = w1.drew from rfl]
    go_wp2
    refine bodyPost_ret (v := .tuple #[hv0, .int .i64 0, .int .i64 45]) (by simp [results, Try.results36, go_sem, z0, z1, z2, z3, z4]) rfl (RGPost.bad HE.out ?_)
    refine HB1.out.trans (Below.mono (B := w.heap.size) ?_ (Nat.le_refl _))
    repeat (first | exact (Below.refl _ _) | apply Below.drew | refine Below.setCell ?_ (by simp) _)

end Go.Proofs.Ytfffkfcemajcpaa
