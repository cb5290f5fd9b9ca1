/- The walk of the document's Decode: the first Op whose record has the word. -/
import Derived.Test.YtijekhdndegdaaaIsRefDec
import Derived.Test.YtijekhdndegdaaaIsEncodesL
namespace Go.Proofs.Ytijekhdndegdaaa
open Go.RowKit
set_option linter.unusedVariables false
set_option linter.unusedSimpArgs false

theorem Is.decS_op (x : Nat) (op s : Int) (h : (Is.decS x op s).2 = 0) : (Is.decS x op s).1.op = op := by
  unfold Is.decS at *
  repeat' split
  all_goals first | rfl | (simp_all)
/-- The first Op that answers is the right one. -/
theorem Is.fld_yes (x : Nat) (i : Is.Inst) (h : Is.enc i = ((x : Int), 0)) : Is.dec x = (i, 0) := by
  obtain ⟨y, h1, _, h2⟩ := Is.enc_back i (by rw [h])
  rw [h] at h1
  have : y = x := by have h1' : (x : Int) = y := h1; omega
  subst this
  exact h2
/-- If none answers there is none. -/
theorem Is.fld_no (x : Nat) (hx : x < 4294967296) (h : ∀ k : Nat, k < 48 → Is.enc (Is.fld x k) ≠ ((x : Int), 0)) : Is.dec x = (⟨0, 0, 0, 0, 0⟩, 21) := by
  rcases Is.round x hx with h1 | ⟨j, h1, h2, h3, _⟩
  · exact h1
  · exfalso
    have hop := Is.legal_op h3
    have hd : Is.decS x (Is.find x) (Is.shape (Is.find x)) = (j, 0) := h1
    have ho := Is.decS_op x (Is.find x) (Is.shape (Is.find x)) (by rw [hd])
    rw [hd] at ho
    have ho' : j.op = Is.find x := ho
    obtain ⟨n, hn⟩ := Int.eq_ofNat_of_zero_le hop.1
    have hn48 : n < 48 := by have := hop.2; omega
    refine h n hn48 ?_
    rw [show Is.fld x (n : Int) = j by
      unfold Is.fld
      rw [← hn, ho', hd]]
    exact h2

def W2cells (g : Nat) (W : World) (a b c d f : Int) : Prop := W.cell? ⟨g, 0, none⟩ = some (.int .i64 a) ∧ W.cell? ⟨g, 1, none⟩ = some (.int .i64 b) ∧ W.cell? ⟨g, 2, none⟩ = some (.int .i64 c) ∧ W.cell? ⟨g, 3, none⟩ = some (.int .i64 d) ∧ W.cell? ⟨g, 4, none⟩ = some (.int .i64 f)
set_option maxRecDepth 100000 in
set_option maxHeartbeats 4000000 in
theorem dec_ref (x : Nat) (w : World) (hx : x < 4294967296) : Calls Try.prog 58 #[.int .u32 x] w fun e w' => e = .returned (.tuple #[(Is.dec x).1.v, .int .i64 (Is.dec x).2]) ∧ Below w.heap.size w w' := by
  have HNO := Lib.hid (Is.fld_no x hx)
  have HYES := Lib.hid (fun i h => Is.fld_yes x i h)
  have cF := Lib.hid (fun (op : Int) W h => fields_ref x op W hx h)
  have cE := Lib.hid (fun i W => enc_ref i W)
  have HZ := Lib.hid (show ∀ W', Below (w.heap.size + 1) (w.alloc (.cells #[.int .i64 0, .int .i64 0, .int .i64 0, .int .i64 0, .int .i64 0] 71)) W' →
      (W'.cell? ⟨w.heap.size, 0, none⟩ = some (.int .i64 0) ∧ W'.cell? ⟨w.heap.size, 1, none⟩ = some (.int .i64 0) ∧ W'.cell? ⟨w.heap.size, 2, none⟩ = some (.int .i64 0) ∧ W'.cell? ⟨w.heap.size, 3, none⟩ = some (.int .i64 0) ∧ W'.cell? ⟨w.heap.size, 4, none⟩ = some (.int .i64 0)) ∧
      (W'.frozen? ⟨w.heap.size, 0, none⟩ = false ∧ W'.frozen? ⟨w.heap.size, 1, none⟩ = false ∧ W'.frozen? ⟨w.heap.size, 2, none⟩ = false ∧ W'.frozen? ⟨w.heap.size, 3, none⟩ = false ∧ W'.frozen? ⟨w.heap.size, 4, none⟩ = false) from fun W' hb =>
    ⟨⟨(hb.cell (p := ⟨w.heap.size, 0, none⟩) (by simp)).trans (by go_simp), (hb.cell (p := ⟨w.heap.size, 1, none⟩) (by simp)).trans (by go_simp), (hb.cell (p := ⟨w.heap.size, 2, none⟩) (by simp)).trans (by go_simp), (hb.cell (p := ⟨w.heap.size, 3, none⟩) (by simp)).trans (by go_simp), (hb.cell (p := ⟨w.heap.size, 4, none⟩) (by simp)).trans (by go_simp)⟩,
      ⟨(hb.frozen (p := ⟨w.heap.size, 0, none⟩) (by simp)).trans (by go_simp), (hb.frozen (p := ⟨w.heap.size, 1, none⟩) (by simp)).trans (by go_simp), (hb.frozen (p := ⟨w.heap.size, 2, none⟩) (by simp)).trans (by go_simp), (hb.frozen (p := ⟨w.heap.size, 3, none⟩) (by simp)).trans (by go_simp), (hb.frozen (p := ⟨w.heap.size, 4, none⟩) (by simp)).trans (by go_simp)⟩⟩)
  have HB0 := Lib.hid ((Below.refl w.heap.size w).alloc (Nat.le_refl _) (.cells #[.int .i64 0, .int .i64 0, .int .i64 0, .int .i64 0, .int .i64 0] 71))
  clear hx
  go_enter Try.func58, Try.ntmps58
  go_wp2_with fail
  go_loopw [4] (fun i wr => ∃ k : Nat, k ≤ 48 ∧ i = .int .i64 k ∧ (∀ j : Nat, j < k → Is.enc (Is.fld x j) ≠ ((x : Int), 0)) ∧ Below (w.heap.size + 1) (w.alloc (.cells #[.int .i64 0, .int .i64 0, .int .i64 0, .int .i64 0, .int .i64 0] 71)) wr) (fun i _ => 48 - (intOf i).toNat)
  case atStart => exact ⟨0, Nat.zero_le _, rfl, fun j hj => absurd hj (by omega), Below.refl _ _⟩
  case round =>
    obtain ⟨k, hk, rfl, hall, hbr⟩ := hrel
    have HALL := Lib.hid hall
    have HBR := Lib.hid hbr
    have hzr : w.heap.size + 1 ≤ wr.heap.size := by have := hbr.size; simpa using this
    clear hall hbr
    by_cases hlt : k < 48
    · have HSH := Lib.hid (show Is.shape (k : Int) ≠ -1 by rw [Is.shape_form k hlt]; omega)
      go_wp2_with fail
      refine (cF.out _ _ HSH.out).mono ?_
      rintro e w1 ⟨rfl, hb1⟩
      have HB1 := Lib.hid (HBR.out.trans (hb1.mono hzr))
      have hz1 : w.heap.size + 1 ≤ w1.heap.size := by have := hb1.size; omega
      clear hb1
      obtain ⟨i, hi⟩ : ∃ i, Is.fld x (k : Int) = i := ⟨_, rfl⟩
      rw [hi]
      have HI := Lib.hid hi
      clear hi
      obtain ⟨a, b, c, d, f⟩ := i
      go_wp2_with fail
      refine (cE.out ⟨a, b, c, d, f⟩ _).mono ?_
      rintro e w2 ⟨rfl, hb2⟩
      rw [World.size_alloc] at hb2
      obtain ⟨q0, q1, q2, q3, q4⟩ : W2cells w1.heap.size w2 a b c d f := ⟨(hb2.cell (p := ⟨w1.heap.size, 0, none⟩) (by simp)).trans (by go_simp), (hb2.cell (p := ⟨w1.heap.size, 1, none⟩) (by simp)).trans (by go_simp), (hb2.cell (p := ⟨w1.heap.size, 2, none⟩) (by simp)).trans (by go_simp), (hb2.cell (p := ⟨w1.heap.size, 3, none⟩) (by simp)).trans (by go_simp), (hb2.cell (p := ⟨w1.heap.size, 4, none⟩) (by simp)).trans (by go_simp)⟩
      have HB2 := Lib.hid (HB1.out.trans ((((Below.refl w1.heap.size w1).alloc (Nat.le_refl _) (.cells #[.int .i64 a, .int .i64 b, .int .i64 c, .int .i64 d, .int .i64 f] 71)).trans (hb2.mono (by omega))).mono hz1))
      obtain ⟨E, hE⟩ : ∃ E, Is.enc ⟨a, b, c, d, f⟩ = E := ⟨_, rfl⟩
      rw [hE]
      have HE := Lib.hid hE
      clear hE hb2
      obtain ⟨X, e⟩ := E
      dsimp only
      by_cases he : e = 0
      · subst he
        by_cases hX : X = x
        · subst hX
          have HD := Lib.hid (HYES.out _ HE.out)
          obtain ⟨⟨z0, z1, z2, z3, z4⟩, y0, y1, y2, y3, y4⟩ := HZ.out _ HB2.out
          go_wp2_with fail
          refine bodyPost_ret (v := .tuple #[(⟨a, b, c, d, f⟩ : Is.Inst).v, .int .i64 0]) (by simp [results, Try.results58, go_sem, z0, z1, z2, z3, z4]) rfl ⟨ret_dec (by rw [HD.out]), ?_⟩
          have hfin : Below w.heap.size w w2 := HB0.out.trans (HB2.out.mono (by omega))
          repeat (first | exact hfin | apply Below.drew | refine Below.setCell ?_ (by simp) _)
        · have gX : (X == (x : Int)) = false := by rw [beq_eq_false_iff_ne]; exact hX
          have HX := Lib.hid hX
          clear hX
          go_wp2_with fail
          go_roundw
          case rel =>
            refine ⟨k + 1, by omega, by go_num, fun j hj => ?_, HB2.out⟩
            by_cases hjk : j = k
            · subst hjk
              rw [HI.out, HE.out]
              intro h
              exact HX.out (congrArg Prod.fst h)
            · exact HALL.out j (by omega)
          case measure => simp [intOf]; omega
      · have ge : (e == 0) = false := by rw [beq_eq_false_iff_ne]; exact he
        have HX := Lib.hid he
        clear he
        go_wp2_with fail
        go_roundw
        case rel =>
          refine ⟨k + 1, by omega, by go_num, fun j hj => ?_, HB2.out⟩
          by_cases hjk : j = k
          · subst hjk
            rw [HI.out, HE.out]
            intro h
            exact HX.out (congrArg Prod.snd h)
          · exact HALL.out j (by omega)
        case measure => simp [intOf]; omega
    · obtain rfl : k = 48 := by omega
      have HD := Lib.hid (HNO.out HALL.out)
      obtain ⟨⟨z0, z1, z2, z3, z4⟩, y0, y1, y2, y3, y4⟩ := HZ.out _ HBR.out
      go_wp2_with fail
      refine bodyPost_ret (v := .tuple #[(⟨0, 0, 0, 0, 0⟩ : Is.Inst).v, .int .i64 21]) (by simp [results, Try.results58, go_sem, z0, z1, z2, z3, z4]) rfl ⟨ret_dec (by rw [HD.out]), ?_⟩
      have hfin : Below w.heap.size w wr := HB0.out.trans (HBR.out.mono (by omega))
      repeat (first | exact hfin | apply Below.drew | refine Below.setCell ?_ (by simp) _)
end Go.Proofs.Ytijekhdndegdaaa
