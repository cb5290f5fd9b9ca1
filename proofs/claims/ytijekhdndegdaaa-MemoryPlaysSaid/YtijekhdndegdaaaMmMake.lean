/- Walks: New. -/
import Derived.Test.YtijekhdndegdaaaMmNew
import Derived.Laws.MakeOwn
import Derived.Outline
namespace Go.Proofs.Ytijekhdndegdaaa
open Go.RowKit Kit
set_option linter.unusedVariables false
set_option linter.unusedSimpArgs false

def Mm.bad (h : Nat × Nat) : Bool := decide (h.2 < h.1)
theorem bad_own (w : World) (p q : Nat) (hp : p < 4294967296) (hq : q < 4294967296) :
    Calls Try.prog 67 #[.agg #[.int .u32 p, .int .u32 q]] w fun e w' => e = .returned (.bool (Mm.bad (p, q))) ∧ Below w.heap.size w w' := by
  go_enter Try.func67, Try.ntmps67
  go_wp2
  go_ret
  exact ⟨mret_bool (by unfold Mm.bad; rw [Bool.eq_iff_iff]), (Below.refl _ _).alloc (Nat.le_refl _) _⟩

def Mm.SomeIdx (b : Bool) (w : World) (e : Ending) (w' : World) : Prop := ∃ r : Int, e = .returned (.int .i64 r) ∧ -1 ≤ r ∧ r ≤ 100 ∧ decide (0 ≤ r) = b ∧ Below w.heap.size w w'
theorem Rd.pair {w : World} {A : Option Addr} {c : Nat} {hs : List (Nat × Nat)} (h : Rd w 2 (.slice A hs.length c) hs.length (Mm.hc hs)) {j : Nat} (hj : j < hs.length) :
    ∃ g off, A = some ⟨g, off, none⟩ ∧ w.cell? ⟨g, off + j * 2, none⟩ = some (.int .u32 (hs.getD j (0, 0)).1) ∧ w.cell? ⟨g, off + j * 2 + 1, none⟩ = some (.int .u32 (hs.getD j (0, 0)).2) := by
  obtain ⟨_, A', c', e, _, _, h4⟩ := h
  obtain ⟨g, off, rfl, hg, hc⟩ := h4 (by omega)
  injection e with e
  exact ⟨g, off, e, hc _ _ (Mm.hc_at hs j hj).1, by have := hc _ _ (Mm.hc_at hs j hj).2; rwa [← Nat.add_assoc] at this⟩

theorem index_own (w : World) (A : Option Addr) (c : Nat) (hs : List (Nat × Nat)) (h : Rd w 2 (.slice A hs.length c) hs.length (Mm.hc hs)) (few : hs.length ≤ 16)
    (small : ∀ j, j < hs.length → (hs.getD j (0, 0)).1 < 4294967296 ∧ (hs.getD j (0, 0)).2 < 4294967296) :
    Calls Try.prog 95 #[.slice A hs.length c, .func (.func 67) #[] #[]] w (Mm.SomeIdx (hs.any Mm.bad) w) := by
  have HH := Lib.hid (fun W (hb : Below w.heap.size w W) (j : Nat) (hj : j < hs.length) => Rd.pair (h.kept hb) hj)
  have HS := Lib.hid small
  have few' : (hs.length : Int) ≤ 16 := by omega
  clear h small
  go_enter Try.func95, Try.ntmps95
  go_wp2_with fail
  go_loopw [8] (fun i wr => ∃ j : Nat, j ≤ hs.length ∧ i = .int .i64 j ∧ (∀ t, t < j → Mm.bad (hs.getD t (0, 0)) = false) ∧ Below w.heap.size w wr) (fun i _ => hs.length - (intOf i).toNat)
  case atStart => exact ⟨0, Nat.zero_le _, rfl, fun t ht => absurd ht (by omega), Below.refl _ _⟩
  case round =>
    obtain ⟨j, hj, rfl, hno, hbr⟩ := hrel
    by_cases hlt : j < hs.length
    · obtain ⟨g, off, hA, c0, c1⟩ := HH.out wr hbr j hlt
      obtain ⟨s1, s2⟩ := HS.out j hlt
      have HB := Lib.hid hbr
      have HO := Lib.hid hno
      subst hA
      clear hbr hno
      have HP := Lib.hid (show hs.getD j (0, 0) ∈ hs by rw [List.getD_eq_getElem?_getD, List.getElem?_eq_getElem hlt]; simp)
      generalize hh : hs.getD j (0, 0) = h at *
      have hh' := Lib.hid hh
      clear hh
      obtain ⟨p, q⟩ := h
      dsimp only at c0 c1 s1 s2
      have hc := Lib.hid (fun W => bad_own W p q s1 s2)
      go_wp2_with fail
      refine (hc.out _).mono ?_
      rintro e w2 ⟨rfl, hb2⟩
      have HB2 := Lib.hid (HB.out.trans (hb2.mono HB.out.size))
      clear hb2
      cases hb : Mm.bad (p, q)
      · have hb' := Lib.hid hb
        clear hb
        go_wp2_with fail
        go_roundw
        case rel => exact ⟨j + 1, by omega, by go_num, fun t ht => by
          by_cases e : t = j
          · subst e; rw [hh'.out, hb'.out]
          · exact HO.out t (by omega), HB2.out⟩
        case measure => simp [intOf]; omega
      · have hb' := Lib.hid hb
        clear hb
        go_wp2_with fail
        go_ret
        refine ⟨j, rfl, by omega, by omega, ?_, HB2.out⟩
        rw [List.any_eq_true.2 ⟨(p, q), HP.out, hb'.out⟩]
        simp
    · obtain rfl : j = hs.length := by omega
      have HN := Lib.hid (show hs.any Mm.bad = false by
        rw [List.any_eq_false]
        intro x hx
        obtain ⟨i, hi, rfl⟩ := List.mem_iff_getElem.1 hx
        simpa [List.getD, List.getElem?_eq_getElem hi] using hno i hi)
      have HB := Lib.hid hbr
      clear hbr hno
      go_wp2_with fail
      go_ret
      exact ⟨-1, rfl, by omega, by omega, by rw [HN.out]; rfl, HB.out⟩
theorem contains_own (w : World) (A : Option Addr) (c : Nat) (hs : List (Nat × Nat)) (h : Rd w 2 (.slice A hs.length c) hs.length (Mm.hc hs)) (few : hs.length ≤ 16)
    (small : ∀ j, j < hs.length → (hs.getD j (0, 0)).1 < 4294967296 ∧ (hs.getD j (0, 0)).2 < 4294967296) :
    Calls Try.prog 66 #[.slice A hs.length c, .func (.func 67) #[] #[]] w fun e w' => e = .returned (.bool (hs.any Mm.bad)) ∧ Below w.heap.size w w' := by
  have H := Lib.hid (index_own w A c hs h few small)
  generalize hs.any Mm.bad = B at *
  clear h small
  go_enter Try.func66, Try.ntmps66
  go_wp2_with fail
  refine H.out.mono ?_
  rintro e w1 ⟨r, rfl, h1, h2, h3, hb⟩
  have H3 := Lib.hid h3
  clear h3
  go_wp2_with fail
  go_ret
  exact ⟨mret_bool H3.out, hb⟩


/-- May a memory be made? -/
def Mm.newOk (size : Int) (hs : List (Nat × Nat)) : Bool := decide (4 ≤ size) && (decide (size ≤ 1048576) && (decide (size % 4 = 0) && (decide (hs.length ≤ 16) && !hs.any Mm.bad)))

theorem new_arg (w : World) (size : Int) (A : Option Addr) (c : Nat) (hs : List (Nat × Nat)) (h : Rd w 2 (.slice A hs.length c) hs.length (Mm.hc hs)) (hsm : hs.length ≤ maxLen)
    (small : ∀ j, j < hs.length → (hs.getD j (0, 0)).1 < 4294967296 ∧ (hs.getD j (0, 0)).2 < 4294967296) (hno : Mm.newOk size hs = false) :
    Calls Try.prog 19 #[.int .i64 size, .slice A hs.length c] w fun e w' => e = .returned (.tuple #[.pointer none, .int .i64 1]) ∧ Below w.heap.size w w' := by
  unfold maxLen at hsm
  by_cases h1 : size < 4
  · clear hno h small
    generalize hs.length = n at *
    go_enter Try.func19, Try.ntmps19
    go_wp2
    go_ret2
    exact ⟨rfl, Below.refl _ _⟩
  by_cases h2 : 1048576 < size
  · clear hno h small
    generalize hs.length = n at *
    go_enter Try.func19, Try.ntmps19
    go_wp2
    go_ret2
    exact ⟨rfl, Below.refl _ _⟩
  by_cases h3 : size % 4 = 0
  · have g3 : (size % 4 != 0) = false := by simpa using h3
    have g0 : (4 : Int) ≤ size := by omega
    have g2 : size ≤ 1048576 := by omega
    by_cases h4 : 16 < hs.length
    · clear hno h small h3
      generalize hs.length = n at *
      go_enter Try.func19, Try.ntmps19
      go_wp2
      go_ret2
      exact ⟨rfl, Below.refl _ _⟩
    · have h5 : hs.any Mm.bad = true := by
        have h4' : hs.length ≤ 16 := by omega
        simp [Mm.newOk, g0, g2, h3, h4'] at hno
        simpa using hno
      have H := contains_own w A c hs h (by omega) small
      rw [h5] at H
      have HH := Lib.hid H
      clear hno h small h3 h5 H
      generalize hs.length = n at *
      go_enter Try.func19, Try.ntmps19
      go_wp2_with (go_at_call 66; refine HH.out.mono ?_; rintro e w' ⟨rfl, hb⟩)
      go_ret2
      exact ⟨rfl, hb⟩
  · have g3 : (size % 4 != 0) = true := by simpa using h3
    have g0 : (4 : Int) ≤ size := by omega
    clear hno h small h3
    generalize hs.length = n at *
    go_enter Try.func19, Try.ntmps19
    go_wp2
    go_ret2
    exact ⟨rfl, Below.refl _ _⟩

set_option maxRecDepth 20000 in
theorem zeros_make (n : Nat) (hn : n ≤ 1048576) (W : World) : (Instr.makeSlice 34 (.int .i64 (n : Int)) (.int .i64 (n : Int))).run Try.prog W = .ok (.slice (some ⟨W.heap.size, 0, none⟩) n n) (W.alloc (.cells (bv (List.replicate n 0)).toArray 5)) := by
  obtain ⟨i, hi, hz, hs1, hb1⟩ := mbt.info
  have hb : (i.bytes : Int) * (n : Int) ≤ 281474976710656 := by rw [hb1]; omega
  have hr := run_make (P := Try.prog) W 34 5 i _ mbt.slice hi hz .i64 .i64 n n (by omega) (by omega) hb (by omega)
  rw [hr]
  simp only [Int.toNat_natCast]
  congr 3
  apply Array.ext'
  apply List.ext_getElem
  · simp [madeCells, hs1, bv, Value.cells]
  · intro j h1 h2
    simp [madeCells, bv, Value.cells, Nat.mod_one]

set_option maxRecDepth 20000 in
theorem new_ok (w : World) (n : Nat) (A : Option Addr) (c : Nat) (hs : List (Nat × Nat)) (h : Rd w 2 (.slice A hs.length c) hs.length (Mm.hc hs))
    (small : ∀ j, j < hs.length → (hs.getD j (0, 0)).1 < 4294967296 ∧ (hs.getD j (0, 0)).2 < 4294967296) (hyes : Mm.newOk n hs = true) :
    Calls Try.prog 19 #[.int .i64 n, .slice A hs.length c] w fun e w' => ∃ v, e = .returned (.tuple #[v, .int .i64 0]) ∧ Mm.Made (List.replicate n 0) hs w v w' := by
  simp only [Mm.newOk, Bool.and_eq_true, decide_eq_true_eq, Bool.not_eq_true'] at hyes
  obtain ⟨h1, h2, h3, h4, h5⟩ := hyes
  have g3 : ((n : Int) % 4 != 0) = false := by simpa using h3
  have H := contains_own w A c hs h h4 small
  rw [h5] at H
  have HH := Lib.hid H
  have h4i : (hs.length : Int) ≤ 16 := by omega
  have HC := Lib.hid (show ∀ W, Below w.heap.size w W → Calls Try.prog 68 #[.slice A hs.length c] W fun e w' => ∃ A' c', e = .returned (.slice A' hs.length c') ∧ Rd w' 2 (.slice A' hs.length c') hs.length (Mm.hc hs) ∧ (∀ g, g < W.heap.size → Off (.slice A' hs.length c') g) ∧ Below W.heap.size W w' ∧ Below w.heap.size w w' from fun W hb =>
    (cloneH W _ hs.length (Mm.hc hs) (h.kept hb) h4 (Mm.hc_one hs)).mono fun e w' ⟨v', k1, k2, k3, k4⟩ => by
      obtain ⟨A', c', rfl⟩ := k2.form
      exact ⟨A', c', k1, k2, k3, k4, hb.trans (k4.mono hb.size)⟩)
  have hmk := zeros_make n (by omega)
  have HZ := Lib.hid (show (List.replicate n (0 : UInt8)).length = n by simp)
  have HRW := Lib.hid (fun W => Rw.of (Bk.fresh W 5 (bv (List.replicate n (0 : UInt8))).toArray))
  have HS := Lib.hid small
  have HL := Lib.hid h4
  clear h small H h5 h3
  generalize hz : List.replicate n (0 : UInt8) = Z at *
  have HZZ := Lib.hid hz
  clear hz
  generalize hhl : hs.length = hl at *
  have HHL := Lib.hid hhl
  clear hhl
  generalize hzz : (bv Z).toArray = ZZ at *
  have HZZZ := Lib.hid hzz
  clear hzz
  go_enter Try.func19, Try.ntmps19
  go_wp2_with (go_at_call 66; refine HH.out.mono ?_; rintro e w1 ⟨rfl, hb1⟩)
  go_region_with (first | (go_at_call 68; refine (HC.out _ (by first | exact hb1 | exact hb1.drew | exact hb1.alloc hb1.size _ | exact hb1.drew.alloc hb1.size _ | exact (hb1.alloc hb1.size _).drew)).mono ?_; rintro e wy ⟨A', c', rfl, hr3, ho3, hb4, hb4'⟩))
  all_goals
    go_wp2
    go_ret2
  all_goals
    have hzl : Z.length = n := HZ.out
    have hhl := HHL.out
    have hz := HZZ.out
    have hzz := HZZZ.out
    have hlo : 4 ≤ Z.length := by omega
    have hhi : Z.length ≤ 1048576 := by omega
    have hfew : hs.length ≤ 16 := by rw [hhl]; exact HL.out
    rw [← hhl] at hr3 ho3
    have hrw := fun W => HRW.out W
    simp only [hzz, hz, hzl] at hrw
    have hcm : n ≤ maxLen := by unfold maxLen; omega
  · refine ⟨_, rfl, ?_⟩
    show Mm.Made Z hs w (.pointer (some ⟨wy.heap.size, 0, none⟩)) (wy.alloc (.cells #[.slice (some ⟨w1.heap.size, 0, none⟩) n n, .slice A' hl c'] 68))
    rw [← hhl]
    have := Mm.made (w := w) (w' := wy) (g := w1.heap.size) (cap := n) (b := Z) (Rw.kept (w := (w1.alloc (.cells ZZ 5)).drew) (hrw w1) hb4) hcm hr3 (ho3 _ (by simp)) hlo hhi hfew (fun j hj => HS.out j (by omega)) hb1.size (fun g' hg' => ho3 g' (by have := hb1.size; simp; omega)) hb4'
    rw [hzl] at this
    exact this
  · refine ⟨_, rfl, ?_⟩
    have e : (wy.alloc (.cells ZZ 5)).heap.size = wy.heap.size + 1 := by simp
    show Mm.Made Z hs w (.pointer (some ⟨wy.heap.size + 1, 0, none⟩)) ((wy.alloc (.cells ZZ 5)).alloc (.cells #[.slice (some ⟨wy.heap.size, 0, none⟩) n n, .slice A' hl c'] 68))
    rw [← hhl, ← e]
    have := Mm.made (w := w) (w' := wy.alloc (.cells ZZ 5)) (g := wy.heap.size) (cap := n) (b := Z) (hrw wy) hcm (Rd.kept hr3 ((Below.refl _ _).alloc (Nat.le_refl _) _)) (Rd.off hr3 (Nat.le_refl _)) hlo hhi hfew (fun j hj => HS.out j (by omega)) hb4'.size (fun g' hg' => ho3 g' (by have := hb1.size; simp; omega)) (hb4'.alloc hb4'.size _)
    rw [hzl] at this
    exact this
end Go.Proofs.Ytijekhdndegdaaa
