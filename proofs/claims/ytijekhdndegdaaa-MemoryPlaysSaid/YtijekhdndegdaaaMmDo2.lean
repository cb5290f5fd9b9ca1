/- The walk of do: Bytes and Put. -/
import Derived.Test.YtijekhdndegdaaaMmDo
import Derived.Deep.DeepCutAuto
namespace Go.Proofs.Ytijekhdndegdaaa
open Go.RowKit Kit
set_option linter.unusedVariables false
set_option linter.unusedSimpArgs false

theorem own_store {e : TypeId} {base g n cap j : Nat} {w : World} {l : List UInt8} (h : OwnB e base w (.slice (some ⟨g, 0, none⟩) n cap) l) (c : UInt8) : OwnB e base (w.setCell ⟨g, j, none⟩ (.int .u8 c.toNat)) (.slice (some ⟨g, 0, none⟩) n cap) (l.set j c) := by
  rcases h.2 with ⟨e1, _⟩ | ⟨g', cap', cur, e1, hb, hh, hnc, hcm, hcs, htake⟩
  · cases e1
  · injection e1 with e1 e2 e3
    injection e1 with e1
    injection e1 with e1
    subst e1
    subst e2
    subst e3
    refine ⟨by simp [bv_length], .inr ⟨g, cap, cur.setIfInBounds j (.int .u8 c.toNat), by simp, hb, Bk.set (t := e) hh j _, by simpa using hnc, hcm, by simpa using hcs, ?_⟩⟩
    rw [Array.toList_setIfInBounds, List.length_set, List.take_set, htake]
    simp [bv]
theorem RdB.but {w w' : World} {k : Nat} {v : Value} {l : List UInt8} (h : RdB w v l) (hb : But k w w') (ho : ∀ g off c, v = .slice (some ⟨g, off, none⟩) l.length c → 0 < l.length → g ≠ k) : RdB w' v l := by
  rcases h with h | ⟨g, off, cap, rfl, hg, hlc, hcm, hc⟩
  · exact .inl h
  · by_cases h0 : 0 < l.length
    · exact .inr ⟨g, off, cap, rfl, Nat.lt_of_lt_of_le hg hb.size, hlc, hcm, fun j hj => (World.cell?_of_block (a := ⟨g, off + j, none⟩) (hb.block hg (ho g off cap rfl h0))).trans (hc j hj)⟩
    · have hl : l = [] := List.eq_nil_of_length_eq_zero (by omega)
      subst hl
      exact .inl ⟨_, _, rfl, rfl⟩

set_option maxRecDepth 20000 in
set_option maxHeartbeats 2000000 in
theorem do_bytes (kind n : Int) (a v : Nat) (A : Option Addr) (bl c : Nat) (hk : kind = 2) (ha : a < 4294967296) (hn1 : -9223372036854775808 ≤ n) (hn2 : n ≤ 9223372036854775807) (w : World) (base gm gb gr gc : Nat) (b : List UInt8) (hs : List (Nat × Nat)) (hp : PairM w base gm gb gr gc b hs) (hB : base ≤ w.heap.size) :
    Calls Try.prog 48 #[.pointer (some ⟨gm, 0, none⟩), .pointer (some ⟨gr, 0, none⟩), .agg #[.int .i64 kind, .int .i64 n, .int .u32 a, .int .u32 v, .slice A bl c]] w (Mm.DoPost base gm gb gr gc hs b w) := by
  have HX := Lib.hid (show ∀ W, Below (w.heap.size + 1) (w.alloc (.cells #[.int .i64 kind, .int .i64 n, .int .u32 a, .int .u32 v, .slice A bl c] 61)) W → W.cell? ⟨w.heap.size, 1, none⟩ = some (.int .i64 n) ∧ W.cell? ⟨w.heap.size, 2, none⟩ = some (.int .u32 a) from fun W hbl => by
    have hk := (Bk.fresh w 61 #[.int .i64 kind, .int .i64 n, .int .u32 a, .int .u32 v, .slice A bl c]).below hbl (by omega)
    exact ⟨hk.cell 1, hk.cell 2⟩)
  have HB0 := Lib.hid ((Below.refl w.heap.size w).alloc (Nat.le_refl _) (.cells #[.int .i64 kind, .int .i64 n, .int .u32 a, .int .u32 v, .slice A bl c] 61))
  have HP1 := Lib.hid (hp.kept HB0.out)
  have hg0 : (kind == 0) = false := by simp; omega
  have hg1 : (kind == 1) = false := by simp; omega
  have hg : (kind == 2) = true := by simpa using hk
  have HLL := Lib.hid (show (Mm.bytesL b a n).length ≤ 1048576 by
    have := hp.a.hi
    unfold Mm.bytesL Mm.get
    split
    · simp; omega
    · simp)
  clear hp hk
  go_enter Try.func48, Try.ntmps48
  go_wp2_with fail
  refine (bytes_own _ gm gb b hs a n ha HP1.out.a).mono ?_
  rintro e w1 ⟨v1, rfl, ho1, hb1⟩
  have HB1 := Lib.hid hb1
  have HX1 := Lib.hid (show ∀ W, Below w1.heap.size w1 W → W.cell? ⟨w.heap.size, 1, none⟩ = some (.int .i64 n) ∧ W.cell? ⟨w.heap.size, 2, none⟩ = some (.int .u32 a) from fun W hb => HX.out W (by
    have := hb1; rw [World.size_alloc] at this
    exact this.trans (hb.mono (by have h2 := this.size; rw [World.size_alloc] at h2; exact h2))))
  have HO1 := Lib.hid ho1
  have HR := Lib.hid (show ∀ W, Below w1.heap.size w1 W → Calls Try.prog 79 #[.pointer (some ⟨gr, 0, none⟩), .int .u32 a, .int .i64 n] W fun e w' => ∃ v', e = .returned v' ∧ (convert 34 9 v').run Try.prog w' = .ok (.string ⟨(Mm.bytesL b a n).toArray⟩) w' ∧ Below w1.heap.size w1 w' from fun W hb =>
    (rbytes_own W gr gc b hs a n ha hn1 hn2 ((HP1.out.kept hb1).kept hb).r).mono fun e w' ⟨v', k1, k2, k3⟩ => ⟨v', k1, run_string_of mbt Try.underlying9 k2.rd, hb.trans (k3.mono hb.size)⟩)
  have HCV := Lib.hid (show ∀ W, Below w1.heap.size w1 W → (convert 34 9 v1).run Try.prog W = .ok (.string ⟨(Mm.bytesL b a n).toArray⟩) W from fun W hb => run_string_of mbt Try.underlying9 (HO1.out.rd.below hb))
  clear ho1 hb1
  generalize Mm.bytesL b a n = L at *
  go_upto_region 10 with fail
  go_cut [83] (fun s83 wx => s83 = .bool false ∧ Below w1.heap.size w1 wx)
  case first =>
    obtain ⟨q1, q2⟩ := HX1.out _ (Below.refl _ _)
    have hcv0 := HCV.out _ (Below.refl w1.heap.size w1).drew
    go_region_with (first | (go_at_call 79; refine (HR.out _ (by first | exact (Below.refl _ _).drew | exact Below.refl _ _)).mono ?_; rintro e w5 ⟨v5, rfl, hcv5, hb5⟩; have hcv6 := HCV.out _ hb5))
    all_goals
      go_wp2_with fail
      go_meet
      exact ⟨rfl, hb5⟩
  case rest =>
    obtain ⟨rfl, hbc⟩ := hcut
    have HBC := Lib.hid hbc
    have HOC := Lib.hid (HO1.out.kept hbc)
    clear hbc
    obtain ⟨a1, c1, rfl⟩ := HO1.out.len rfl
    generalize hll : L.length = ll at *
    have HLE := Lib.hid hll
    clear hll
    have hlli : (ll : Int) ≤ 1048576 := by have := HLL.out; omega
    go_wp2_with fail
    go_loopw [12] (fun i wr => ∃ (j : Nat) (lst : List UInt8), j ≤ ll ∧ j ≤ 50 ∧ i = .int .i64 j ∧ lst.length = ll ∧ OwnB 5 (w.alloc (.cells #[.int .i64 kind, .int .i64 n, .int .u32 a, .int .u32 v, .slice A bl c] 61)).heap.size wr (.slice a1 ll c1) lst ∧ Below (w.alloc (.cells #[.int .i64 kind, .int .i64 n, .int .u32 a, .int .u32 v, .slice A bl c] 61)).heap.size (w.alloc (.cells #[.int .i64 kind, .int .i64 n, .int .u32 a, .int .u32 v, .slice A bl c] 61)) wr) (fun i _ => ll - (intOf i).toNat)
    case atStart => exact ⟨0, L, Nat.zero_le _, by omega, rfl, HLE.out, HOC.out, HB1.out.trans (HBC.out.mono HB1.out.size)⟩
    case round =>
      obtain ⟨j, lst, hj, h50, rfl, hln, hown, hbr⟩ := hrel
      have HBR := Lib.hid hbr
      have HLN := Lib.hid hln
      have HOW := Lib.hid hown
      clear hbr hln hown
      by_cases hlt : j < ll
      · by_cases h5 : j < 50
        · rcases HOW.out.shape with ⟨_, hnil⟩ | ⟨g, cap, e1, hg, hgl, hlc, hcm, hcell, hfr⟩
          · have := HLN.out; rw [hnil] at this; simp at this; omega
          · have q := hcell j (by have := HLN.out; omega)
            have hf := (hfr j (by have := HLN.out; omega)).1
            obtain ⟨rfl, rfl⟩ : a1 = some ⟨g, 0, none⟩ ∧ c1 = cap := by injection e1 with e1 _ e3; exact ⟨e1, e3⟩
            clear hcell hfr e1
            generalize lst.getD j 0 = x at *
            have hx := x.toNat_lt
            have hxi : (x.toNat : Int) < 256 := by omega
            have hv1 : ((x.toNat : Int) + 1) % 256 = ((UInt8.ofNat (x.toNat + 1)).toNat : Int) := by rw [UInt8.toNat_ofNat']; omega
            have HV1 := Lib.hid hv1
            clear hv1
            have hlt' : (j : Int) < ll := by omega
            have h5' : (j : Int) < 50 := by omega
            go_wp2
            go_roundw
            case rel => exact ⟨j + 1, lst.set j (UInt8.ofNat (x.toNat + 1)), by omega, by omega, by go_num, by rw [List.length_set]; exact HLN.out, by rw [HV1.out]; exact own_store HOW.out _, HBR.out.setCell hg _⟩
            case measure => simp [intOf]; omega
        · obtain rfl : j = 50 := by omega
          go_wp2
          go_ret
          exact ⟨rfl, b, rfl, HP1.out.kept HBR.out, (HB0.out.mono hB).trans (HBR.out.mono (by simp; omega))⟩
      · obtain rfl : j = ll := by omega
        go_wp2
        go_ret
        exact ⟨rfl, b, rfl, HP1.out.kept HBR.out, (HB0.out.mono hB).trans (HBR.out.mono (by simp; omega))⟩
end Go.Proofs.Ytijekhdndegdaaa
