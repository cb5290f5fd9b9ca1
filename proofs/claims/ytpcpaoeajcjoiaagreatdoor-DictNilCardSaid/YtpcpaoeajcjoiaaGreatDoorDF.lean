/- Texts joined, what is not reached left out. -/
import Derived.Test.YtpcpaoeajcjoiaaGreatDoorDE
import Derived.Test.YtpcpaoeajcjoiaaGreatDoorQL6Tab
import Derived.Lib.SmallJoins
import Derived.ProofKit
import Derived.OpenShut
import Derived.ShutString
import Derived.ChangeOld
/- Layer 11: the law DictNil, walked. -/
namespace Go.Proofs.YtpcpaoeajcjoiaaGreatDoor
open Go.RowKit Kit
set_option linter.unusedVariables false
set_option linter.unusedSimpArgs false

theorem dlab_any (w : World) : Calls Tryz.prog 39 #[.int .i64 0, .string ⟨#[]⟩] w fun e w' => e = .returned (.string ⟨#[61, 48]⟩) ∧ Below w.heap.size w w' := by
  have CD := Lib.hid (fun W => show Calls Tryz.prog 55 #[.int .i64 0] W fun e w' => e = .returned (.string ⟨#[48]⟩) ∧ Below W.heap.size W w' from by
    have h := idigits_nat 0 W (by decide)
    rw [show Lib.decDigits 0 = [48] from by decide +kernel] at h
    exact h)
  have hc1 : (⟨#[61]⟩ : ByteArray) ++ ⟨#[48]⟩ = ⟨#[61, 48]⟩ := app_eq [61] [48]
  have hc2 : (⟨#[61, 48]⟩ : ByteArray) ++ ⟨#[]⟩ = ⟨#[61, 48]⟩ := app_eq [61, 48] []
  have hc3 : (⟨#[61]⟩ : ByteArray) ++ ⟨#[48]⟩ ++ ⟨#[]⟩ = ⟨#[61, 48]⟩ := by rw [hc1, hc2]
  go_enter Tryz.func39, Tryz.ntmps39
  go_wp2_with (go_at_call 55; refine (CD.out _).mono ?_; rintro e w1 ⟨rfl, hb1⟩)
  go_ret
  exact ⟨by first | rfl | (simp only [hc1, hc2, hc3]), hb1⟩
/-- A word that came in. -/
structure DWordV where
  L : Int
  at_ : Nat
  nm : ByteArray
  fl : Int
  lk : Nat
  xt : Nat
  sz : Nat
abbrev DWordV.v (x : DWordV) : Value := Dc.wv x.L x.at_ x.nm x.fl x.lk x.xt x.sz
structure DWordV.ok (x : DWordV) : Prop where
  xt : x.xt < 4294967296
  sz : x.sz < 4294967296
set_option maxRecDepth 100000 in
set_option maxHeartbeats 4000000 in
theorem core_dictNil (L fl : Int) (nm : ByteArray) (at_ lk xt sz : Nat) (hxt : xt < 4294967296) (hsz : sz < 4294967296) (w : World) (hT : L6.Tab w) :
    Calls Tryz.prog 7 #[Dc.wv L at_ nm fl lk xt sz] w fun e w' => e = .returned (.bool true) ∧ Below w.heap.size w w' := by
  have hal : Below w.heap.size w (w.alloc (.cells #[.int .i64 L, .int .u32 (at_ : Int), .string nm, .int .i64 fl, .int .u32 (lk : Int), .int .u32 (xt : Int), .int .u32 (sz : Int)] 80)) := (Below.refl _ _).alloc (Nat.le_refl _) _
  have hbk := Bk.fresh w 80 #[.int .i64 L, .int .u32 (at_ : Int), .string nm, .int .i64 fl, .int .u32 (lk : Int), .int .u32 (xt : Int), .int .u32 (sz : Int)]
  obtain ⟨w1, hw1⟩ : ∃ w1, w.alloc (.cells #[.int .i64 L, .int .u32 (at_ : Int), .string nm, .int .i64 fl, .int .u32 (lk : Int), .int .u32 (xt : Int), .int .u32 (sz : Int)] 80) = w1 := ⟨_, rfl⟩
  rw [hw1] at hal hbk
  have HAL := Lib.hid hal
  have HBK := Lib.hid hbk
  have HT := Lib.hid hT
  have HS := Lib.hid (And.intro hxt hsz)
  clear hal hbk hT hxt hsz
  go_enter Tryz.func7, Tryz.ntmps7
  go_wp2_with fail
  go_loopw [3, 4] (fun m i wr => ∃ k : Nat, k ≤ 2 ∧ i = .int .i64 (k : Int) ∧ Dc.none_ m wr ∧ Below w1.heap.size w1 wr) (fun _ i _ => 2 - (intOf i).toNat)
  case atStart => exact ⟨0, by decide, rfl, Dc.no_nil _, Below.refl _ _⟩
  case round =>
    obtain ⟨k, hk, rfl, hno, hbw⟩ := hrel
    by_cases hlt : k < 2
    · have hlt' : (k : Int) < 2 := by omega
      have hbk := HBK.out.kept hbw
      have HNO := Lib.hid hno
      have HBW := Lib.hid hbw
      have CR := Lib.hid (dread_nil wr u3 at_ hno)
      have e1 : IntKind.i64.wrap ((k : Int) + 1) = (k : Int) + 1 := Dc.k1 (by omega)
      have HBW2 := Lib.hid hbk
      have x1 := hbk.cell 1
      have HLT := Lib.hid hlt
      clear hno hbw hbk hlt hk
      go_wp2_with fail
      go_at_call 31
      refine CR.out.mono ?_
      rintro e w2 ⟨rfl, hb2⟩
      have HB2 := Lib.hid hb2
      have hk2 := HBW2.out.kept hb2
      have y0 := hk2.cell 0
      have y1 := hk2.cell 1
      have y2 := hk2.cell 2
      have y3 := hk2.cell 3
      have y4 := hk2.cell 4
      have y5 := hk2.cell 5
      have y6 := hk2.cell 6
      have CO := Lib.hid (down_any w2 L fl nm at_ lk xt sz)
      have CC := Lib.hid (fun W (hW : Below w2.heap.size w2 W) => dcode_nil W u3 L fl nm at_ lk xt (sz : Int) HS.out.1 (by omega) (by have := HS.out.2; omega) (fun W' hW' => HNO.out W' (HB2.out.trans ((hW.trans (hW'.mono hW.size)).mono HB2.out.size))))
      clear hb2 hk2 x1
      go_wp2_with (first | (go_at_call 34; refine (dnum_any _ _).mono ?_; rintro e w' ⟨rfl, rfl⟩) | (go_at_call 38; refine CO.out.mono ?_; rintro e w3 ⟨rfl, hb3⟩) | (go_at_call 35; refine (CC.out _ hb3).mono ?_; rintro e w4 ⟨rfl, hb4⟩))
      go_roundw
      case rel =>
        have hb5 : Below w4.heap.size w4 (w4.alloc (.cells #[.slice none 0 0, .slice none 0 0] 86)) := (Below.refl _ _).alloc (Nat.le_refl _) _
        have hbk := Bk.fresh w4 86 #[.slice none 0 0, .slice none 0 0]
        refine ⟨k + 1, by have := HLT.out; omega, by push_cast; rfl, Dc.no_raw (hbk.cell 0) hbk.lt, ?_⟩
        have h24 := hb3.trans (hb4.mono hb3.size)
        exact HBW.out.trans ((HB2.out.trans ((h24.trans (hb5.mono h24.size)).mono HB2.out.size)).mono HBW.out.size)
      case measure =>
        have := HLT.out
        simp only [intOf]
        omega
    · have hlt' : ¬ (k : Int) < 2 := by omega
      have HBW := Lib.hid hbw
      have CL := Lib.hid (dlab_any wr)
      have CK := Lib.hid (fun W (hW : Below wr.heap.size wr W) => dknows_any W ((HT.out.kept HAL.out).kept (hbw.trans (hW.mono hbw.size))))
      clear hno hbw hk hlt
      go_wp2_with (first | (go_at_call 39; refine CL.out.mono ?_; rintro e w2 ⟨rfl, hb2⟩) | (go_at_call 29; refine (CK.out _ hb2).mono ?_; rintro e w3 ⟨rfl, hb3⟩))
      go_ret
      exact ⟨rfl, HAL.out.trans ((HBW.out.trans ((hb2.trans (hb3.mono hb2.size)).mono HBW.out.size)).mono HAL.out.size)⟩
end Go.Proofs.YtpcpaoeajcjoiaaGreatDoor
/- Layer 11: a word that comes in, opened. -/
namespace Go.Proofs.YtpcpaoeajcjoiaaGreatDoor
open Go.RowKit Kit
open Go.Joins Go.ChangeShapes Go.WideShapes Go.Deep
set_option linter.unusedVariables false
set_option linter.unusedSimpArgs false

theorem Dc.u32_nat {n : Int} (h : (Lit.int .u32 n).wf = true) : ∃ m : Nat, n = m ∧ m < 4294967296 := by
  have := bounds_u32 h
  exact ⟨n.toNat, by omega, by omega⟩
set_option maxRecDepth 100000 in
theorem open_rword {H : Type} {enc : TypeId × Value → H} {w : World} {r : Reach} {b0 : Nat} {v : Value} {d : DataW H} {p : List MemPlace}
    (hv0 : Value.okWide Tryz.prog w r b0 80 v) (h : DataW.Trod enc Tryz.prog w 0 (fun _ => true) true 80 v d p) : ∃ x : DWordV, v = x.v ∧ x.ok := by
  obtain ⟨cs, rfl, hsz⟩ := okWide_struct Tryz.underlying80 hv0
  obtain ⟨l⟩ := cs
  have hC : Tryz.prog.cellsOf 80 = 7 := by kernel_rfl
  have hI : Tryz.prog.cellsOf 3 = 1 := by kernel_rfl
  have hU : Tryz.prog.cellsOf 23 = 1 := by kernel_rfl
  have hD : Tryz.prog.cellsOf 78 = 5 := by kernel_rfl
  match l, hsz.trans hC with
  | [c0, c1, c2, c3, c4, c5, c6], _ =>
    obtain ⟨fuel, hf⟩ := h
    obtain ⟨xs, n, _, hx, _, hlen, hg⟩ := DataW.trod_struct Tryz.underlying80 hf
    have g0 := hg 0 _ rfl
    have g1 := hg 1 _ rfl
    have g2 := hg 2 _ rfl
    match xs, hlen with
    | [y0, y1, y2], _ =>
      have h0 : DataW.trod enc Tryz.prog w 0 (fun _ => true) true n 3 [c0] = some y0 := by simpa [Value.cells, hI] using g0
      have h1 : DataW.trod enc Tryz.prog w 0 (fun _ => true) true n 23 [c1] = some y1 := by simpa [Value.cells, hU] using g1
      have h2 : DataW.trod enc Tryz.prog w 0 (fun _ => true) true n 78 [c2, c3, c4, c5, c6] = some y2 := by simpa [Value.cells, hD] using g2
      obtain ⟨m, hh⟩ := struct_fields Tryz.underlying78 (by kernel_rfl) (by kernel_rfl) h2 rfl
      obtain ⟨v0, z0, e0, k0⟩ := hh 0 _ rfl
      obtain ⟨v1, z1, e1, k1⟩ := hh 1 _ rfl
      obtain ⟨v2, z2, e2, k2⟩ := hh 2 _ rfl
      obtain ⟨v3, z3, e3, k3⟩ := hh 3 _ rfl
      obtain ⟨v4, z4, e4, k4⟩ := hh 4 _ rfl
      obtain ⟨L, j0, _, _⟩ := DataW.trod_int Tryz.underlying3 h0
      obtain ⟨at_, j1, _, w1⟩ := DataW.trod_int Tryz.underlying23 h1
      obtain ⟨s, q0, _, ws⟩ := DataW.trod_string Tryz.underlying9 k0
      obtain ⟨fl, q1, _, wf⟩ := DataW.trod_int Tryz.underlying3 k1
      obtain ⟨a, q2, _, w2⟩ := DataW.trod_int Tryz.underlying23 k2
      obtain ⟨b, q3, _, w3⟩ := DataW.trod_int Tryz.underlying23 k3
      obtain ⟨c, q4, _, w4⟩ := DataW.trod_int Tryz.underlying23 k4
      simp only [List.cons.injEq, and_true] at j0 j1 q0 q1 q2 q3 q4
      obtain ⟨at', rfl, ha'⟩ := Dc.u32_nat w1
      obtain ⟨a', rfl, ha⟩ := Dc.u32_nat w2
      obtain ⟨b', rfl, hb⟩ := Dc.u32_nat w3
      obtain ⟨c', rfl, hc⟩ := Dc.u32_nat w4
      simp at e0 e1 e2 e3 e4
      subst j0 j1 e0 e1 e2 e3 e4 q0 q1 q2 q3 q4
      exact ⟨⟨L, at', s, fl, a', b', c'⟩, rfl, ⟨hb, hc⟩⟩
theorem walk_dictNil (v : Value) (x : DWordV) (w : World) (h : v = x.v ∧ x.ok) (hL : laidMetH Tryz.prog Rows.dictNilRow.laid w) :
    Calls Tryz.prog 7 #[v] w fun e w' => e = .returned (.bool true) ∧ Below w.heap.size w w' := by
  obtain ⟨rfl, hx, hs⟩ := h
  exact core_dictNil x.L x.fl x.nm x.at_ x.lk x.xt x.sz hx hs w (L6.tab_of hL)
end Go.Proofs.YtpcpaoeajcjoiaaGreatDoor
