/- The walk of the law MemoryNil; light. -/
import Derived.Test.YtijekhdndegdaaaMmOpen
namespace Go.Proofs.Ytijekhdndegdaaa
open Go.RowKit Kit
set_option linter.unusedVariables false
set_option linter.unusedSimpArgs false

/-- Are acts few, and their bytes? -/
def Mm.lightB (l : List Mm.Act) : Bool := (l.take 60).all (fun a => decide (a.b.length ≤ 400)) && decide (l.length ≤ 50)
theorem Mm.act_cell {w : World} {A : Option Addr} {c : Nat} {l : List Mm.Act} (h : Rd w 5 (.slice A l.length c) l.length (l.flatMap Mm.Act.cells)) {j : Nat} (hj : j < l.length) :
    ∃ g off, A = some ⟨g, off, none⟩ ∧ ∀ i u, i < 5 → (Mm.Act.cells (l.getD j ⟨0, 0, 0, 0, .pointer none, []⟩))[i]? = some u → w.cell? ⟨g, off + j * 5 + i, none⟩ = some u := by
  obtain ⟨_, A', c', e, _, _, h4⟩ := h
  obtain ⟨g, off, rfl, hg, hc⟩ := h4 (by omega)
  injection e with e
  refine ⟨g, off, e, fun i u hi hu => ?_⟩
  have := hc (j * 5 + i) u (by rw [flat_at Mm.Act.cells 5 (fun _ => rfl) l j i _ hj hi]; exact hu)
  rwa [← Nat.add_assoc] at this
theorem light_any (w : World) (A : Option Addr) (c : Nat) (l : List Mm.Act) (h : Rd w 5 (.slice A l.length c) l.length (l.flatMap Mm.Act.cells)) (hok : ∀ x ∈ l, x.ok w) (hm : l.length ≤ maxLen) :
    Calls Try.prog 46 #[.slice A l.length c] w fun e w' => e = .returned (.bool (Mm.lightB l)) ∧ Below w.heap.size w w' := by
  unfold maxLen at hm
  have HC := Lib.hid (fun j hj => Mm.act_cell h (j := j) hj)
  have HOK := Lib.hid hok
  have hmi : (l.length : Int) ≤ 9223372036854775807 := by omega
  clear h hok
  go_enter Try.func46, Try.ntmps46
  go_wp2_with fail
  go_loopw [3] (fun i wr => ∃ j : Nat, j ≤ l.length ∧ j ≤ 60 ∧ i = .int .i64 j ∧ (∀ t, t < j → (l.getD t ⟨0, 0, 0, 0, .pointer none, []⟩).b.length ≤ 400) ∧ w = wr) (fun i _ => l.length - (intOf i).toNat)
  case atStart => exact ⟨0, Nat.zero_le _, by omega, rfl, fun t ht => absurd ht (by omega), rfl⟩
  case round =>
    obtain ⟨j, hj, h60, rfl, hall, rfl⟩ := hrel
    have HA := Lib.hid hall
    clear hall
    by_cases hlt : j < l.length
    · by_cases h6 : j < 60
      · obtain ⟨g, off, hA, hc⟩ := HC.out j hlt
        subst hA
        have hin : l.getD j ⟨0, 0, 0, 0, .pointer none, []⟩ ∈ l := by rw [List.getD_eq_getElem?_getD, List.getElem?_eq_getElem hlt]; simp
        obtain ⟨k1, k2, k3, k4, -⟩ := HOK.out _ hin
        obtain ⟨Ab, cb, hbv⟩ := k3.length
        have c4 := hc 4 _ (by omega) rfl
        rw [hbv] at c4
        clear hc hbv k1 k2 k3
        unfold maxLen at k4
        by_cases hb : (l.getD j ⟨0, 0, 0, 0, .pointer none, []⟩).b.length ≤ 400
        · have HB := Lib.hid hb
          have hb' : ((l.getD j ⟨0, 0, 0, 0, .pointer none, []⟩).b.length : Int) ≤ 400 := by omega
          clear hb
          generalize hgd : (l.getD j ⟨0, 0, 0, 0, .pointer none, []⟩).b.length = bl at *
          have HGD := Lib.hid hgd
          clear hgd hin
          go_wp2
          go_roundw
          case rel => exact ⟨j + 1, by omega, by omega, by go_num, fun t ht => by
            by_cases e : t = j
            · subst e; rw [HGD.out]; exact HB.out
            · exact HA.out t (by omega), trivial⟩
          case measure => simp [intOf]; omega
        · have HB := Lib.hid (show Mm.lightB l = false by
            unfold Mm.lightB
            rw [Bool.and_eq_false_iff]
            left
            rw [List.all_eq_false]
            refine ⟨l.getD j ⟨0, 0, 0, 0, .pointer none, []⟩, ?_, by simpa using hb⟩
            rw [List.mem_iff_getElem?]
            exact ⟨j, by rw [List.getElem?_take, if_pos h6, List.getD_eq_getElem?_getD, List.getElem?_eq_getElem hlt]; simp⟩)
          have hb' : 400 < ((l.getD j ⟨0, 0, 0, 0, .pointer none, []⟩).b.length : Int) := by omega
          clear hb
          generalize (l.getD j ⟨0, 0, 0, 0, .pointer none, []⟩).b.length = bl at *
          clear hin
          go_wp2
          go_ret
          exact ⟨mret_bool HB.out.symm, Below.refl _ _⟩
      · have HB := Lib.hid (show Mm.lightB l = false by
          unfold Mm.lightB
          rw [Bool.and_eq_false_iff]
          right; simp; omega)
        have h5 : 50 < (l.length : Int) := by omega
        obtain rfl : j = 60 := by omega
        go_wp2
        go_ret
        exact ⟨mret_bool (by rw [HB.out]; simp; omega), Below.refl _ _⟩
    · obtain rfl : j = l.length := by omega
      have HB := Lib.hid (show Mm.lightB l = decide (l.length ≤ 50) by
        unfold Mm.lightB
        have : (l.take 60).all (fun a => decide (a.b.length ≤ 400)) = true := by
          rw [List.all_eq_true]
          intro x hx
          have hx := List.mem_of_mem_take hx
          obtain ⟨i, hi, rfl⟩ := List.mem_iff_getElem.1 hx
          have := HA.out i hi
          rw [List.getD_eq_getElem?_getD, List.getElem?_eq_getElem hi] at this
          simpa using this
        rw [this, Bool.true_and])
      clear h60
      go_wp2
      go_ret
      exact ⟨mret_bool (by rw [HB.out, Bool.eq_iff_iff]; simp; omega), Below.refl _ _⟩

theorem read_arg (w : World) (p : Value) (a : Nat) (n : Int) (hp : Calls Try.prog 69 #[p, .int .u32 a, .int .i64 n] w fun e w' => e = .returned (.int .i64 1) ∧ w = w') :
    Calls Try.prog 22 #[p, .int .u32 a, .int .i64 n] w fun e w' => e = .returned (.tuple #[.int .u32 0, .int .i64 1]) ∧ w = w' := by
  have H := Lib.hid hp
  clear hp
  go_enter Try.func22, Try.ntmps22
  go_wp2_with fail
  refine H.out.mono ?_
  rintro e w1 ⟨rfl, rfl⟩
  go_wp2_with fail
  go_ret2
  exact ⟨rfl, rfl⟩
theorem write_arg (w : World) (p : Value) (a v : Nat) (n : Int) (hp : Calls Try.prog 69 #[p, .int .u32 a, .int .i64 n] w fun e w' => e = .returned (.int .i64 1) ∧ w = w') :
    Calls Try.prog 24 #[p, .int .u32 a, .int .i64 n, .int .u32 v] w fun e w' => e = .returned (.int .i64 1) ∧ w = w' := by
  have H := Lib.hid hp
  clear hp
  go_enter Try.func24, Try.ntmps24
  go_wp2_with fail
  refine H.out.mono ?_
  rintro e w1 ⟨rfl, rfl⟩
  go_wp2_with fail
  go_ret
  exact ⟨rfl, rfl⟩
/-- What no memory answers. -/
structure Mm.No (w : World) (p : Value) (a v : Nat) (n : Int) (b : Value) : Prop where
  read : Calls Try.prog 22 #[p, .int .u32 a, .int .i64 n] w fun e w' => e = .returned (.tuple #[.int .u32 0, .int .i64 1]) ∧ w = w'
  write : Calls Try.prog 24 #[p, .int .u32 a, .int .i64 n, .int .u32 v] w fun e w' => e = .returned (.int .i64 1) ∧ w = w'
  bytes : Calls Try.prog 23 #[p, .int .u32 a, .int .i64 n] w fun e w' => e = .returned (.slice none 0 0) ∧ w = w'
  put : Calls Try.prog 44 #[p, .int .u32 a, b] w fun e w' => e = .returned (.int .i64 1) ∧ w = w'
  size : Calls Try.prog 49 #[p] w fun e w' => e = .returned (.int .i64 0) ∧ w = w'
  clone : Calls Try.prog 45 #[p] w fun e w' => e = .returned (.pointer none) ∧ w = w'
theorem Mm.no_of (w : World) (p : Value) (a v : Nat) (n : Int) (b : Value) (hn : Calls Try.prog 70 #[p] w fun e w' => e = .returned (.bool true) ∧ w = w')
    (ha : Calls Try.prog 69 #[p, .int .u32 a, .int .i64 n] w fun e w' => e = .returned (.int .i64 1) ∧ w = w') : Mm.No w p a v n b :=
  ⟨read_arg w p a n ha, write_arg w p a v n ha, bytes_arg w p a n hn, put_arg w p b a hn, size_arg w p hn, clone_arg w p hn⟩

set_option maxRecDepth 20000 in
set_option maxHeartbeats 1000000 in
theorem core_memoryNil (x : Mm.Act) (w : World) (ho : x.ok w) :
    Calls Try.prog 11 #[.agg x.cells.toArray] w fun e w' => e = .returned (.bool true) ∧ Below w.heap.size w w' := by
  obtain ⟨kind, n, a, v, bvv, b⟩ := x
  obtain ⟨ha, hv, hb, hbm, hn1, hn2⟩ := ho
  dsimp only at ha hv hb hbm hn1 hn2
  obtain ⟨Ab, cb, rfl⟩ := hb.length
  show Calls Try.prog 11 #[.agg #[.int .i64 kind, .int .i64 n, .int .u32 a, .int .u32 v, .slice Ab b.length cb]] w fun e w' => e = .returned (.bool true) ∧ Below w.heap.size w w'
  have HL := Lib.hid (fun W (hbl : Below w.heap.size w W) g (hk : Bk W g 61 #[.int .i64 kind, .int .i64 n, .int .u32 a, .int .u32 v, .slice Ab b.length cb]) =>
    light_any W (some ⟨g, 0, none⟩) 1 [⟨kind, n, a, v, .slice Ab b.length cb, b⟩] (Rd.built (size := 5) hk rfl) (by intro y hy; simp at hy; subst hy; exact ⟨ha, hv, hb.below hbl, hbm, hn1, hn2⟩) (by simp [maxLen]))
  have HX := Lib.hid (show ∀ W, Below (w.heap.size + 1) (w.alloc (.cells #[.int .i64 kind, .int .i64 n, .int .u32 a, .int .u32 v, .slice Ab b.length cb] 61)) W →
      W.cell? ⟨w.heap.size, 0, none⟩ = some (.int .i64 kind) ∧ W.cell? ⟨w.heap.size, 1, none⟩ = some (.int .i64 n) ∧ W.cell? ⟨w.heap.size, 2, none⟩ = some (.int .u32 a) ∧ W.cell? ⟨w.heap.size, 3, none⟩ = some (.int .u32 v) ∧ W.cell? ⟨w.heap.size, 4, none⟩ = some (.slice Ab b.length cb) from fun W hbl => by
    have hk := (Bk.fresh w 61 #[.int .i64 kind, .int .i64 n, .int .u32 a, .int .u32 v, .slice Ab b.length cb]).below hbl (by omega)
    exact ⟨hk.cell 0, hk.cell 1, hk.cell 2, hk.cell 3, hk.cell 4⟩)
  have HB1 := Lib.hid ((Below.refl w.heap.size w).alloc (Nat.le_refl _) (.cells #[.int .i64 kind, .int .i64 n, .int .u32 a, .int .u32 v, .slice Ab b.length cb] 61))
  have hna : (a : Int) < 4294967296 := by omega
  have hnv : (v : Int) < 4294967296 := by omega
  generalize Mm.lightB [⟨kind, n, a, v, .slice Ab b.length cb, b⟩] = LB at *
  clear hb hbm
  generalize b.length = bl at *
  go_enter Try.func11, Try.ntmps11
  go_wp2_with fail
  have hk2 : Bk ((w.alloc (.cells #[.int .i64 kind, .int .i64 n, .int .u32 a, .int .u32 v, .slice Ab bl cb] 61)).alloc (.cells #[.int .i64 kind, .int .i64 n, .int .u32 a, .int .u32 v, .slice Ab bl cb] 61)) (w.heap.size + 1) 61 #[.int .i64 kind, .int .i64 n, .int .u32 a, .int .u32 v, .slice Ab bl cb] := by
    have := Bk.fresh (w.alloc (.cells #[.int .i64 kind, .int .i64 n, .int .u32 a, .int .u32 v, .slice Ab bl cb] 61)) 61 #[.int .i64 kind, .int .i64 n, .int .u32 a, .int .u32 v, .slice Ab bl cb]
    simpa only [World.size_alloc] using this
  have hb2 : Below w.heap.size w ((w.alloc (.cells #[.int .i64 kind, .int .i64 n, .int .u32 a, .int .u32 v, .slice Ab bl cb] 61)).alloc (.cells #[.int .i64 kind, .int .i64 n, .int .u32 a, .int .u32 v, .slice Ab bl cb] 61)) := HB1.out.alloc (by simp) _
  refine (HL.out _ hb2 _ hk2).mono ?_
  rintro e w2 ⟨rfl, hb3⟩
  have hb4 : Below (w.heap.size + 1) (w.alloc (.cells #[.int .i64 kind, .int .i64 n, .int .u32 a, .int .u32 v, .slice Ab bl cb] 61)) w2 := ((Below.refl _ _).alloc (by simp) _).trans (hb3.mono (by simp))
  have HB4 := Lib.hid hb4
  have HB2 := Lib.hid (hb2.trans (hb3.mono hb2.size))
  have z2 : w.heap.size + 1 ≤ w2.heap.size := by have := hb4.size; simpa using this
  clear hk2 hb2 hb3 hb4
  cases LB
  · go_wp2_with (go_at_call 18; refine (mknows_any _).mono ?_; rintro e w9 ⟨rfl, hb9⟩)
    go_ret
    exact ⟨rfl, HB2.out.trans (hb9.mono HB2.out.size)⟩
  go_wp2_with fail
  go_loopw [3, 4] (fun m i wr => ∃ (k : Nat) (p : Option Addr), i = .int .i64 k ∧ k ≤ 2 ∧ m = .pointer p ∧ (k = 0 → p = none) ∧ (0 < k → ∃ gm, p = some ⟨gm, 0, none⟩ ∧ wr.cell? ⟨gm, 0, none⟩ = some (.slice none 0 0)) ∧ Below w2.heap.size w2 wr) (fun _ i _ => 2 - (intOf i).toNat)
  case atStart => exact ⟨0, none, rfl, by omega, rfl, fun _ => rfl, fun h => absurd h (by omega), Below.refl _ _⟩
  case round =>
    obtain ⟨k, p, rfl, hk, rfl, hp0, hp1, hbr⟩ := hrel
    have HBR := Lib.hid hbr
    have HP1 := Lib.hid hp1
    have HP0 := Lib.hid hp0
    have hzr := hbr.size
    clear hbr hp1 hp0
    by_cases hlt : k < 2
    · have HNO := Lib.hid (show Mm.No wr (.pointer p) a v n (.slice Ab bl cb) from by
        by_cases h0 : k = 0
        · rw [HP0.out h0]
          exact Mm.no_of wr _ a v n _ (none_nil wr) (ask_nil wr a n ha)
        · obtain ⟨gm, rfl, hc⟩ := HP1.out (by omega)
          exact Mm.no_of wr _ a v n _ (none_raw wr gm hc) (ask_raw wr gm a n ha hc))
      obtain ⟨q0, q1, q2, q3, q4⟩ := HX.out wr (HB4.out.trans (HBR.out.mono z2))
      have hlt' : (k : Int) < 2 := by omega
      go_wp2_with (first | (go_at_call 21; refine (mnum_any _ _).mono ?_; rintro e w' ⟨rfl, rfl⟩) | (go_at_call 22; refine HNO.out.read.mono ?_; rintro e w' ⟨rfl, rfl⟩) | (go_at_call 24; refine HNO.out.write.mono ?_; rintro e w' ⟨rfl, rfl⟩) | (go_at_call 23; refine HNO.out.bytes.mono ?_; rintro e w' ⟨rfl, rfl⟩) | (go_at_call 44; refine HNO.out.put.mono ?_; rintro e w' ⟨rfl, rfl⟩) | (go_at_call 49; refine HNO.out.size.mono ?_; rintro e w' ⟨rfl, rfl⟩) | (go_at_call 45; refine HNO.out.clone.mono ?_; rintro e w' ⟨rfl, rfl⟩) | (go_at_call 18; refine (mknows_any _).mono ?_; rintro e w9 ⟨rfl, hb9⟩))
      go_roundw
      case rel =>
        exact ⟨k + 1, some ⟨wr.heap.size, 0, none⟩, by go_num, by omega, rfl, fun h => absurd h (by omega), fun _ => ⟨wr.heap.size, rfl, (Bk.fresh wr 68 #[.slice none 0 0, .slice none 0 0]).cell 0⟩, HBR.out.alloc hzr _⟩
      case measure => simp [intOf]; omega
    · obtain rfl : k = 2 := by omega
      go_wp2_with (first | (go_at_call 21; refine (mnum_any _ _).mono ?_; rintro e w' ⟨rfl, rfl⟩) | (go_at_call 22; refine HNO.out.read.mono ?_; rintro e w' ⟨rfl, rfl⟩) | (go_at_call 24; refine HNO.out.write.mono ?_; rintro e w' ⟨rfl, rfl⟩) | (go_at_call 23; refine HNO.out.bytes.mono ?_; rintro e w' ⟨rfl, rfl⟩) | (go_at_call 44; refine HNO.out.put.mono ?_; rintro e w' ⟨rfl, rfl⟩) | (go_at_call 49; refine HNO.out.size.mono ?_; rintro e w' ⟨rfl, rfl⟩) | (go_at_call 45; refine HNO.out.clone.mono ?_; rintro e w' ⟨rfl, rfl⟩) | (go_at_call 18; refine (mknows_any _).mono ?_; rintro e w9 ⟨rfl, hb9⟩))
      go_ret
      have hb := HB2.out.trans (HBR.out.mono HB2.out.size)
      exact ⟨rfl, hb.trans (hb9.mono hb.size)⟩
end Go.Proofs.Ytijekhdndegdaaa
