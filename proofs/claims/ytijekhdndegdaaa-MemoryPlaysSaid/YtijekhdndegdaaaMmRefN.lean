/- Walks: New of the document's memory. -/
import Derived.Test.YtijekhdndegdaaaMmRefP
import Derived.Deep.RegionLaw
namespace Go.Proofs.Ytijekhdndegdaaa
open Go.RowKit Kit
set_option linter.unusedVariables false
set_option linter.unusedSimpArgs false

theorem mrtR : RowTy Try.prog 22 99 2 8 :=
  ⟨Try.underlying22, by
    have h : (Try.prog.info? 99).map (fun i => (i.zero, i.size, i.bytes)) = some (some (.agg #[.int .u32 0, .int .u32 0]), 2, 8) := by kernel_rfl
    obtain ⟨i, h1, h2, h3, h4⟩ := info_parts h
    exact ⟨i, _, h1, h2, h3, h4, rfl⟩⟩

theorem step_append_new {P : Program} {w : World} {ops : Array Oper} {o : Oper} {a : Act} {K : Act → World → Prop} {Q : Exit → Act → World → Prop} {E : Prop} (hgd : o.guard = none) (d s : Operand) (t tx : TypeId)
    (ho : o.op = .call { callee := .builtin .append, args := #[d, s], argTypes := #[t, tx] }) {e : TypeId} {size bytes : Nat} (rt : RowTy P t e size bytes) (hsz : 0 < size) (A : Option Addr) (hd : a.eval d = .slice A 0 0)
    (x : Value) (hx : a.eval s = x) (n : Nat) (xs : List Value) (hsrc : Src P size tx x n xs w) (h63 : n ≤ maxLen) (hby : n * bytes ≤ 140737488355328)
    (h : ∀ v' w', Rd w' size v' n xs → Below w.heap.size w w' → (∀ g, g < w.heap.size → Off v' g) → K (a.put o.dst v') w') :
    if Region.wanted o (yielded ops a.tmps) = true then Oper.wp P o a w K Q else E := by
  have hw : Region.wanted o (yielded ops a.tmps) = true := by simp [Region.wanted, hgd]
  rw [if_pos hw]
  obtain ⟨v', w', hrun, h2, h3, h4, h5⟩ := run_append_new (P := P) w tx o.type rt hsz A x n xs hsrc h63 hby
  unfold Oper.wp execOp
  simp only [ho, resolve, invoke, builtin, Sem.run_bind, Sem.run_pure, Result.andThen_ok, List.map_toArray, List.map_cons, List.map_nil, hd, hx, hrun]
  refine h v' w' h2 h3 (fun g hg k off n' c' e hn' => ?_)
  by_cases h0 : 0 < n
  · rcases (h4 h0).2 with ⟨_, hn0⟩ | ⟨g', cap, cur, e', hge, _⟩
    · omega
    · rw [e'] at e
      simp at e
      omega
  · have := (h5 (by omega)).1
    rw [this] at e
    injection e with e1 e2
    omega
set_option maxRecDepth 20000 in
set_option maxHeartbeats 1000000 in
theorem rnew_any (w : World) (size : Int) (A : Option Addr) (c : Nat) (hs : List (Nat × Nat)) (h : Rd w 2 (.slice A hs.length c) hs.length (Mm.hc hs)) (hsm : hs.length ≤ maxLen)
    (small : ∀ j, j < hs.length → (hs.getD j (0, 0)).1 < 4294967296 ∧ (hs.getD j (0, 0)).2 < 4294967296) :
    (Mm.newOk size hs = false → Calls Try.prog 47 #[.int .i64 size, .slice A hs.length c] w fun e w' => e = .returned (.tuple #[.pointer none, .int .i64 1]) ∧ Below w.heap.size w w') ∧
    (Mm.newOk size hs = true → Calls Try.prog 47 #[.int .i64 size, .slice A hs.length c] w fun e w' => ∃ v, e = .returned (.tuple #[v, .int .i64 0]) ∧ Mm.MadeR (List.replicate size.toNat 0) hs w v w') := by
  unfold maxLen at hsm
  by_cases h1 : size < 4
  · have hno : Mm.newOk size hs = false := by unfold Mm.newOk; simp; omega
    refine ⟨fun _ => ?_, fun hy => absurd hy (by rw [hno]; decide)⟩
    clear hno h small
    generalize hs.length = n at *
    go_enter Try.func47, Try.ntmps47
    go_wp2
    go_ret2
    exact ⟨rfl, Below.refl _ _⟩
  by_cases h2 : 1048576 < size
  · have hno : Mm.newOk size hs = false := by unfold Mm.newOk; simp; omega
    refine ⟨fun _ => ?_, fun hy => absurd hy (by rw [hno]; decide)⟩
    clear hno h small
    generalize hs.length = n at *
    go_enter Try.func47, Try.ntmps47
    go_wp2
    go_ret2
    exact ⟨rfl, Below.refl _ _⟩
  have g0 : (4 : Int) ≤ size := by omega
  have g2 : size ≤ 1048576 := by omega
  by_cases h3 : size % 4 = 0
  · have g3 : (size % 4 != 0) = false := by simpa using h3
    by_cases h4 : 16 < hs.length
    · have hno : Mm.newOk size hs = false := by unfold Mm.newOk; simp; omega
      refine ⟨fun _ => ?_, fun hy => absurd hy (by rw [hno]; decide)⟩
      clear hno h small h3
      generalize hs.length = n at *
      go_enter Try.func47, Try.ntmps47
      go_wp2
      go_ret2
      exact ⟨rfl, Below.refl _ _⟩
    have h4i : (hs.length : Int) ≤ 16 := by omega
    have HF := Lib.hid (show hs.length ≤ 16 by omega)
    have HN0 := Lib.hid (show Mm.newOk size hs = !hs.any Mm.bad by unfold Mm.newOk; simp [g0, g2, h3, HF.out])
    have HH := Lib.hid (fun W (hb : Below w.heap.size w W) (j : Nat) (hj : j < hs.length) => Rd.pair (h.kept hb) hj)
    have HS := Lib.hid small
    have HRD := Lib.hid h
    clear h small hsm h3 h4 h1 h2
    constructor
    · intro hno
      rw [HN0.out] at hno
      have hbad := Lib.hid hno
      clear hno
      go_enter Try.func47, Try.ntmps47
      go_wp2_with fail
      go_loopw [6] (fun i wr => ∃ j : Nat, j ≤ hs.length ∧ i = .int .i64 j ∧ (∀ t, t < j → Mm.bad (hs.getD t (0, 0)) = false) ∧ Below w.heap.size w wr) (fun i _ => hs.length - (intOf i).toNat)
      case atStart => exact ⟨0, Nat.zero_le _, rfl, fun t ht => absurd ht (by omega), Below.refl _ _⟩
      case round =>
        obtain ⟨j, hj, rfl, hno, hbr⟩ := hrel
        by_cases hlt : j < hs.length
        · obtain ⟨g, off, hA, c0, c1⟩ := HH.out wr hbr j hlt
          obtain ⟨s1, s2⟩ := HS.out j hlt
          have HB := Lib.hid hbr
          have HO := Lib.hid hno
          subst hA
          clear hbr hno
          generalize hh : hs.getD j (0, 0) = h at *
          have hh' := Lib.hid hh
          clear hh
          obtain ⟨p, q⟩ := h
          dsimp only at c0 c1 s1 s2
          have hj0 : (0 : Int) ≤ (j : Int) := by omega
          have hj1 : (j : Int) < (hs.length : Int) := by omega
          go_wp2_with fail
          go_quiet (fail)
          by_cases hb : q < p
          · have hbi : (q : Int) < p := by omega
            go_wp2
            go_ret2
            exact ⟨rfl, HB.out.trans ⟨rfl, rfl, rfl, Nat.le_refl _, fun _ _ => rfl⟩⟩
          · have hbi : ¬ (q : Int) < p := by omega
            have HBB := Lib.hid (show Mm.bad (p, q) = false by simp [Mm.bad]; omega)
            go_wp2
            go_roundw
            case rel => exact ⟨j + 1, by omega, by go_num, fun t ht => by
              by_cases e : t = j
              · subst e; rw [hh'.out]; exact HBB.out
              · exact HO.out t (by omega), HB.out.trans ⟨rfl, rfl, rfl, Nat.le_refl _, fun _ _ => rfl⟩⟩
            case measure => simp [intOf]; omega
        · exfalso
          have hall : hs.any Mm.bad = false := by
            rw [List.any_eq_false]
            intro x hx
            obtain ⟨i, hi, rfl⟩ := List.mem_iff_getElem.1 hx
            simpa [List.getD, List.getElem?_eq_getElem hi] using hno i (by omega)
          have := hbad.out
          rw [hall] at this
          cases this
    · intro hyes
      rw [HN0.out] at hyes
      have hgood := Lib.hid (show ∀ j, j < hs.length → Mm.bad (hs.getD j (0, 0)) = false from fun j hj => by
        have : hs.any Mm.bad = false := by simpa using hyes
        rw [List.any_eq_false] at this
        have := this (hs.getD j (0, 0)) (by rw [List.getD_eq_getElem?_getD, List.getElem?_eq_getElem hj]; simp)
        simpa using this)
      clear hyes
      obtain ⟨n, rfl⟩ := Int.eq_ofNat_of_zero_le (show 0 ≤ size by omega)
      rw [Int.toNat_natCast]
      have hmk := zeros_make n (by omega)
      have HZ := Lib.hid (show (List.replicate n (0 : UInt8)).length = n by simp)
      have HRW := Lib.hid (fun W => Rw.of (Bk.fresh W 5 (bv (List.replicate n (0 : UInt8))).toArray))
      have HG0 := Lib.hid (show 4 ≤ n ∧ n ≤ 1048576 by omega)
      have HSRC := Lib.hid (show ∀ W, Below w.heap.size w W → Src Try.prog 2 22 (.slice A hs.length c) hs.length (Mm.hc hs) W from fun W hb => (HRD.out.kept hb).src mrtR (Mm.hc_one hs))
      have HL1 := Lib.hid (show hs.length ≤ maxLen by have := HF.out; unfold maxLen; omega)
      have HL2 := Lib.hid (show hs.length * 8 ≤ 140737488355328 by have := HF.out; omega)
      generalize hz : List.replicate n (0 : UInt8) = Z at *
      have HZZ := Lib.hid hz
      clear hz
      generalize hzz : (bv Z).toArray = ZZ at *
      have HZZZ := Lib.hid hzz
      clear hzz
      go_enter Try.func47, Try.ntmps47
      go_wp2_with fail
      go_loopw [6] (fun i wr => ∃ j : Nat, j ≤ hs.length ∧ i = .int .i64 j ∧ Below w.heap.size w wr) (fun i _ => hs.length - (intOf i).toNat)
      case atStart => exact ⟨0, Nat.zero_le _, rfl, Below.refl _ _⟩
      case round =>
        obtain ⟨j, hj, rfl, hbr⟩ := hrel
        by_cases hlt : j < hs.length
        · obtain ⟨g, off, hA, c0, c1⟩ := HH.out wr hbr j hlt
          obtain ⟨s1, s2⟩ := HS.out j hlt
          have HB := Lib.hid hbr
          subst hA
          have hgj := hgood.out j hlt
          clear hbr
          generalize hs.getD j (0, 0) = h at *
          obtain ⟨p, q⟩ := h
          dsimp only at c0 c1 s1 s2
          have hj0 : (0 : Int) ≤ (j : Int) := by omega
          have hj1 : (j : Int) < (hs.length : Int) := by omega
          have hb : ¬ q < p := by simpa [Mm.bad] using hgj
          have hbi : ¬ (q : Int) < p := by omega
          clear hgj
          go_wp2_with fail
          go_quiet (fail)
          go_wp2
          go_roundw
          case rel => exact ⟨j + 1, by omega, by go_num, HB.out.trans ⟨rfl, rfl, rfl, Nat.le_refl _, fun _ _ => rfl⟩⟩
          case measure => simp [intOf]; omega
        · obtain rfl : j = hs.length := by omega
          have HB := Lib.hid hbr
          have hzr := hbr.size
          clear hbr
          go_wp2_with fail
          have HBa := Lib.hid (show Below w.heap.size w ((wr.alloc (.cells ZZ 5)).alloc (.cells #[] 99)).drew from ((HB.out.alloc hzr _).alloc (by simp; omega) _).drew)
          have HBb := Lib.hid (show Below w.heap.size w ((wr.alloc (.cells #[] 99)).alloc (.cells ZZ 5)).drew from ((HB.out.alloc hzr _).alloc (by simp; omega) _).drew)
          have HBc := Lib.hid (show Below w.heap.size w (wr.alloc (.cells #[] 99)).drew from (HB.out.alloc hzr _).drew)
          go_region_law ((refine step_append_new (by rfl) (.tmp 42) (.tmp 43) 22 22 (by rfl) mrtR (by decide) _ (by rfl) _ (by rfl) hs.length (Mm.hc hs) (HSRC.out _ (by first | exact HBa.out | exact HBb.out | exact HBc.out)) HL1.out HL2.out ?_; intro v3 w3 hr3 hb3 ho3; obtain ⟨A', c', rfl⟩ := hr3.form))
          all_goals
            go_wp2
            go_ret2
            have hz := HZZ.out
            have hzz := HZZZ.out
            have hzl : Z.length = n := HZ.out
            obtain ⟨q1, q2⟩ := HG0.out
            have hrw := fun W => HRW.out W
            simp only [hzz, hzl] at hrw
            have hcm : n ≤ maxLen := by unfold maxLen; omega
          · refine ⟨_, rfl, ?_⟩
            show Mm.MadeR Z hs w (.pointer (some ⟨w3.heap.size, 0, none⟩)) (w3.alloc (.cells #[.slice (some ⟨wr.heap.size, 0, none⟩) n n, .slice A' hs.length c'] 65))
            have k1 : Rw w3 wr.heap.size 5 n Z := Rw.kept (w := ((wr.alloc (.cells ZZ 5)).alloc (.cells #[] 99)).drew) (Rw.kept (hrw wr) (((Below.refl _ _).alloc (Nat.le_refl _) _).drew)) hb3
            have := Mm.madeR (w := w) (w' := w3) (g := wr.heap.size) (cap := n) (b := Z) k1 hcm hr3 (ho3 _ (by simp; omega)) (by omega) (by omega) HF.out (fun j hj => HS.out j hj) hzr (fun g' hg' => ho3 g' (by simp; omega)) (HBa.out.trans (hb3.mono HBa.out.size))
            rw [hzl] at this
            exact this
          · refine ⟨_, rfl, ?_⟩
            show Mm.MadeR Z hs w (.pointer (some ⟨w3.heap.size, 0, none⟩)) (w3.alloc (.cells #[.slice (some ⟨wr.heap.size + 1, 0, none⟩) n n, .slice A' hs.length c'] 65))
            have k0 := hrw (wr.alloc (.cells #[] 99))
            rw [World.size_alloc] at k0
            have k1 : Rw w3 (wr.heap.size + 1) 5 n Z := Rw.kept (w := ((wr.alloc (.cells #[] 99)).alloc (.cells ZZ 5)).drew) k0 hb3
            have := Mm.madeR (w := w) (w' := w3) (g := wr.heap.size + 1) (cap := n) (b := Z) k1 hcm hr3 (ho3 _ (by simp)) (by omega) (by omega) HF.out (fun j hj => HS.out j hj) (by omega) (fun g' hg' => ho3 g' (by simp; omega)) (HBb.out.trans (hb3.mono HBb.out.size))
            rw [hzl] at this
            exact this
          · refine ⟨_, rfl, ?_⟩
            have e : (w3.alloc (.cells ZZ 5)).heap.size = w3.heap.size + 1 := by simp
            have hb5 : Below w.heap.size w w3 := HBc.out.trans (hb3.mono HBc.out.size)
            show Mm.MadeR Z hs w (.pointer (some ⟨w3.heap.size + 1, 0, none⟩)) ((w3.alloc (.cells ZZ 5)).alloc (.cells #[.slice (some ⟨w3.heap.size, 0, none⟩) n n, .slice A' hs.length c'] 65))
            rw [← e]
            have := Mm.madeR (w := w) (w' := w3.alloc (.cells ZZ 5)) (g := w3.heap.size) (cap := n) (b := Z) (hrw w3) hcm (Rd.kept hr3 ((Below.refl _ _).alloc (Nat.le_refl _) _)) (Rd.off hr3 (Nat.le_refl _)) (by omega) (by omega) HF.out (fun j hj => HS.out j hj) hb5.size (fun g' hg' => ho3 g' (by simp; omega)) (hb5.alloc hb5.size _)
            rw [hzl] at this
            exact this
  · have g3 : (size % 4 != 0) = true := by simpa using h3
    have hno : Mm.newOk size hs = false := by unfold Mm.newOk; simp; omega
    refine ⟨fun _ => ?_, fun hy => absurd hy (by rw [hno]; decide)⟩
    clear hno h small h3
    generalize hs.length = n at *
    go_enter Try.func47, Try.ntmps47
    go_wp2
    go_ret2
    exact ⟨rfl, Below.refl _ _⟩
end Go.Proofs.Ytijekhdndegdaaa
