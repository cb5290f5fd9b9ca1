/- Texts joined, what is not reached left out. -/
import Derived.Test.YtpcpaoeajcjoiaaGreatDoorQDcRead
import Derived.Test.YtpcpaoeajcjoiaaGreatDoorDE
set_option linter.unusedVariables false
set_option linter.unusedSimpArgs false
namespace Go.Proofs.YtpcpaoeajcjoiaaGreatDoor
open Go.RowKit Kit
theorem Dc.getD_take (l : List UInt8) (n k : Nat) (h : k < n) : (l.take n).getD k 0 = l.getD k 0 := by
 simp only [List.getD, List.getElem?_take, if_pos h]
theorem Dc.nl_take (l : List UInt8) : Nm.nl (l.take 48) = Nm.nl l := by unfold Nm.nl; rw [Dc.getD_take l 48 13 (by decide)]
theorem Dc.flg_take (l : List UInt8) : Nm.flg (l.take 48) = Nm.flg l := by unfold Nm.flg; rw [Dc.getD_take l 48 12 (by decide)]
theorem Dc.wat_take (l : List UInt8) (k : Nat) (h : k + 3 < 48) : Nm.wat (l.take 48) k = Nm.wat l k := by
 unfold Nm.wat; rw [Dc.getD_take l 48 k (by omega), Dc.getD_take l 48 (k + 1) (by omega), Dc.getD_take l 48 (k + 2) (by omega), Dc.getD_take l 48 (k + 3) (by omega)]
theorem Dc.sub_take {α : Type} (l : List α) (o n N : Nat) (h : o + n ≤ N) : ((l.take N).drop o).take n = (l.drop o).take n := by
 rw [List.drop_take, List.take_take, Nat.min_eq_left (by omega)]
theorem Dc.lengthN_le (n : Nat) : Nm.lengthN n ≤ 48 := by unfold Nm.lengthN; split <;> omega
theorem Dc.name_take (l : List UInt8) (h : Nm.nl l ≤ 31) : Nm.name (l.take 48) = Nm.name l := by
 unfold Nm.name; rw [Dc.nl_take, Dc.sub_take _ _ _ _ (by omega)]
theorem Dc.goodB_take (l : List UInt8) : Nm.goodB (l.take 48) = Nm.goodB l := by
 have hL := Dc.lengthN_le (Nm.nl l)
 unfold Nm.goodB
 rw [Dc.nl_take, Dc.flg_take, List.length_take]
 by_cases h : Nm.nl l ≤ 31
 ·rw [Dc.name_take l h]
  have hp : Nm.pad (l.take 48) = Nm.pad l := by
   unfold Nm.pad
   rw [Dc.nl_take, Dc.sub_take _ _ _ _ (by unfold Nm.lengthN at hL ⊢; split <;> omega)]
  rw [hp]
  have e1 : decide (14 ≤ min 48 l.length) = decide (14 ≤ l.length) := decide_eq_decide.2 (by omega)
  have e2 : decide (14 + Nm.nl l ≤ min 48 l.length) = decide (14 + Nm.nl l ≤ l.length) := decide_eq_decide.2 (by omega)
  have e3 : decide (Nm.lengthN (Nm.nl l) ≤ min 48 l.length) = decide (Nm.lengthN (Nm.nl l) ≤ l.length) := decide_eq_decide.2 (by omega)
  rw [e1, e2, e3]
 ·have e : decide (Nm.nl l ≤ 31) = false := decide_eq_false h
  simp only [e, Bool.false_and, Bool.and_false]
theorem Dc.good_nl {l : List UInt8} (h : Nm.goodB l = true) : Nm.nl l ≤ 31 := by
 unfold Nm.goodB at h
 simp only [Bool.and_eq_true, decide_eq_true_eq] at h
 exact h.2.1
theorem Dc.hd_take (l : List UInt8) : Dc.hd (l.take 48) = Dc.hd l := by
 unfold Dc.hd
 rw [Dc.goodB_take]
 split
 ·rename_i h
  rw [Dc.name_take l (Dc.good_nl h), Dc.flg_take, Dc.wat_take l 0 (by decide), Dc.wat_take l 4 (by decide), Dc.wat_take l 8 (by decide)]
 ·rfl
theorem Dc.long_take (l : List UInt8) : Dc.long (l.take 48) = Dc.long l := by
 unfold Dc.long
 rw [Dc.goodB_take, Dc.nl_take]
theorem Dc.long_le (l : List UInt8) : Dc.long l ≤ 48 := by
 unfold Dc.long
 split
 ·exact Dc.lengthN_le _
 ·omega
theorem Dc.aft_small {x : Nat} (h : x ≤ 2000000) : (x + 4) % 4294967296 = x + 4 ∧ (x + 4 + 4294967292) % 4294967296 = x := by omega
theorem Dc.wd_is (b : List UInt8) (x y z : Nat) (r : Bool) : ((Dc.wd b x).isSome && (decide ((Dc.wd b x).getD 0 = y) && r)) = (decide (x + 4 ≤ b.length) && (decide (Nm.wat b x = y) && r)) := by
 unfold Dc.wd
 by_cases h : x + 4 ≤ b.length
 ·rw [if_pos h, decide_eq_true h, Option.isSome_some, Option.getD_some]
 ·rw [if_neg h, decide_eq_false h, Option.isSome_none, Bool.false_and, Bool.false_and]
theorem Dc.okR_eq (b : List UInt8) (a k : Nat) (hb : b.length ≤ 1000000) (ha : a < b.length) (L : List UInt8) (hL : L = b.drop a) (n : Nat) (hn : n = Dc.long L) :
  Dc.okR b a k = (Nm.goodB L && (decide (a % 4 = 0) && (decide (Im.bucket (Dc.hd L).name = k) && (decide ((Dc.hd L).xt = a + n + 4) && (decide (a + n + 4 ≤ b.length) && (decide (Nm.wat b (a + n) = a) && decide (a + n + 4 + (Dc.hd L).size ≤ b.length))))))) := by
 have hl := Dc.long_le L
 have hw : Dc.win b a = L.take 48 := by rw [hL]; rfl
 have haf : Dc.aft b a = a + n + 4 := by unfold Dc.aft; rw [hw, Dc.long_take, ← hn]; exact (Dc.aft_small (x := a + n) (by omega)).1
 have hbk : Dc.back b a = Dc.wd b (a + n) := by unfold Dc.back; rw [haf, (Dc.aft_small (x := a + n) (by omega)).2]
 unfold Dc.okR Dc.okH
 rw [hbk, haf, hw, Dc.goodB_take, Dc.hd_take, Dc.wd_is b (a + n) a 0, Bool.and_assoc]
theorem Dc.okR_out (b : List UInt8) (a k : Nat) (h : b.length ≤ a) : Dc.okR b a k = false := by
 unfold Dc.okR Dc.okH Dc.win
 rw [List.drop_of_length_le h]
 rfl
theorem Dc.okR_askew (b : List UInt8) (a k : Nat) (h : a % 4 ≠ 0) : Dc.okR b a k = false := by
 unfold Dc.okR Dc.okH
 rw [decide_eq_false h, Bool.and_false, Bool.false_and]
def Dc.ins (l : List Dc.Wd) (k : Nat) (x : Dc.Wd) : List Dc.Wd := l.take k ++ [x] ++ l.drop k
theorem Dc.ins_perm (l : List Dc.Wd) (k : Nat) (x : Dc.Wd) : (Dc.ins l k x).Perm (x :: l) := by
 unfold Dc.ins
 have := @List.perm_middle _ x (l.take k) (l.drop k)
 rw [List.take_append_drop] at this
 simpa using this
theorem Dc.ins_len (l : List Dc.Wd) (k : Nat) (x : Dc.Wd) : (Dc.ins l k x).length = l.length + 1 := by
 have := (Dc.ins_perm l k x).length_eq
 simpa using this
theorem Dc.ins_sorted {l : List Dc.Wd} {k : Nat} {x : Dc.Wd} (h : l.Pairwise (fun x y => x.at_ < y.at_)) (h1 : ∀ j, j < k → j < l.length → (l.getD j Dc.w0).at_ < x.at_) (h2 : k < l.length → x.at_ < (l.getD k Dc.w0).at_) :
  (Dc.ins l k x).Pairwise (fun x y => x.at_ < y.at_) := by
 have key : ∀ y ∈ l.drop k, x.at_ < y.at_ := by
  intro y hy
  obtain ⟨i, hi, rfl⟩ := List.getElem_of_mem hy
  rw [List.length_drop] at hi
  have hk := h2 (by omega)
  rw [List.getElem_drop]
  have e : l.getD k Dc.w0 = l[k] := by simp [List.getD, List.getElem?_eq_getElem (show k < l.length by omega)]
  rw [e] at hk
  by_cases h0 : i = 0
  ·subst h0; simpa using hk
  ·exact Nat.lt_trans hk (List.pairwise_iff_getElem.1 h k (k + i) (by omega) (by omega) (by omega))
 have key1 : ∀ y ∈ l.take k, y.at_ < x.at_ := by
  intro y hy
  obtain ⟨i, hi, rfl⟩ := List.getElem_of_mem hy
  rw [List.length_take] at hi
  have := h1 i (by omega) (by omega)
  rw [List.getElem_take]
  have e : l.getD i Dc.w0 = l[i] := by simp [List.getD, List.getElem?_eq_getElem (show i < l.length by omega)]
  rwa [e] at this
 unfold Dc.ins
 rw [List.append_assoc, List.pairwise_append]
 refine ⟨h.sublist (List.take_sublist _ _), ?_, ?_⟩
 ·rw [List.singleton_append, List.pairwise_cons]
  exact ⟨key, h.sublist (List.drop_sublist _ _)⟩
 ·intro y hy z hz
  rcases List.mem_append.1 hz with hz | hz
  ·obtain rfl := List.mem_singleton.1 hz
   exact key1 y hy
  ·exact Nat.lt_trans (key1 y hy) (key z hz)
theorem Dc.sorted_eq {l l' : List Dc.Wd} (hp : l.Perm l') (h : l.Pairwise (fun x y => x.at_ < y.at_)) (h' : l'.Pairwise (fun x y => x.at_ < y.at_)) : l = l' :=
 hp.eq_of_pairwise (fun _ _ _ _ h1 h2 => absurd (Nat.lt_trans h1 h2) (Nat.lt_irrefl _)) h h'
end Go.Proofs.YtpcpaoeajcjoiaaGreatDoor
namespace Go.Proofs.YtpcpaoeajcjoiaaGreatDoor
open Go.RowKit Kit
theorem Dc.rd_at {w : World} {v : Value} {l : List UInt8} (h : RdB w v l) (hl : 0 < l.length) : ∃ g off c, v = .slice (some ⟨g, off, none⟩) l.length c ∧ g < w.heap.size ∧ l.length ≤ c ∧ c ≤ maxLen ∧ ∀ j, j < l.length → w.cell? ⟨g, off + j, none⟩ = some (.int .u8 (l.getD j 0).toNat) := by
 rcases h with ⟨a, c, rfl, rfl⟩ | ⟨g, off, cap, rfl, hg, h1, h2, hc⟩
 ·exact absurd hl (by decide)
 ·exact ⟨g, off, cap, rfl, hg, h1, h2, hc⟩
theorem Dc.idx_facts {a n : Nat} (h : a + 4 ≤ n) (hn : n ≤ 1000000) : IntKind.i64.wrap ((a : Int) + 1) = (a : Int) + 1 ∧ IntKind.i64.wrap ((a : Int) + 2) = (a : Int) + 2 ∧ IntKind.i64.wrap ((a : Int) + 3) = (a : Int) + 3 := by
 rw [IntKind.wrap_i64, IntKind.wrap_i64, IntKind.wrap_i64]
 omega
set_option maxRecDepth 100000 in
theorem rword11 (w : World) (v : Value) (b : List UInt8) (a : Nat) (hv : RdB w v b) (ha : a + 4 ≤ b.length) (hb : b.length ≤ 1000000) :
  Calls Tryz.prog 75 #[v, .int .i64 (a : Int)] w fun e w' => e = .returned (.int .u32 (Nm.wat b a : Int)) ∧ w' = w.drew := by
 obtain ⟨g, off, cap, rfl, hg, _, _, hc⟩ := Dc.rd_at hv (by omega)
 have c0 := hc a (by omega)
 have c1 := hc (a + 1) (by omega)
 have c2 := hc (a + 2) (by omega)
 have c3 := hc (a + 3) (by omega)
 have h0 := (b.getD a 0).toNat_lt
 have h1 := (b.getD (a + 1) 0).toNat_lt
 have h2 := (b.getD (a + 2) 0).toNat_lt
 have h3 := (b.getD (a + 3) 0).toNat_lt
 have HW := Lib.hid (show Nm.wat b a = Nm.wordN (b.getD a 0).toNat (b.getD (a + 1) 0).toNat (b.getD (a + 2) 0).toNat (b.getD (a + 3) 0).toNat from rfl)
 generalize (b.getD a 0).toNat = x0 at *
 generalize (b.getD (a + 1) 0).toNat = x1 at *
 generalize (b.getD (a + 2) 0).toNat = x2 at *
 generalize (b.getD (a + 3) 0).toNat = x3 at *
 obtain ⟨i1, i2, i3⟩ := Dc.idx_facts ha hb
 rw [HW.out]
 clear HW hv hc
 generalize b.length = len at *
 have n0 : a < len := by omega
 have n1 : a + 1 < len := by omega
 have n2 : a + 2 < len := by omega
 have n3 : a + 3 < len := by omega
 have m1 : (0 : Int) ≤ (a : Int) + 1 := by omega
 have m2 : (0 : Int) ≤ (a : Int) + 2 := by omega
 have m3 : (0 : Int) ≤ (a : Int) + 3 := by omega
 have k1 : (a : Int) + 1 < len := by omega
 have k2 : (a : Int) + 2 < len := by omega
 have k3 : (a : Int) + 3 < len := by omega
 clear ha hb hg
 go_enter Tryz.func75, Tryz.ntmps75
 go_wp2
 refine wp_region_still_lit (by kernel_rfl) (by kernel_rfl) ?_
 repeat ((with_reducible refine wpStill_step (fun K hK => ?_)); go_simp; (try go_bits); (with_reducible refine hK _ ?_); clear hK K)
 refine wpStill_nil ?_
 go_wp2
 go_ret
 exact ⟨ret_int (by simp [Nm.wordN]), rfl⟩
def Dc.rcode (b : List UInt8) (xt sz : Nat) : List UInt8 := if b.length < xt + sz then [] else (b.drop xt).take sz
theorem Dc.own0 (w : World) : OwnB 5 w.heap.size (w.alloc (.cells #[] 5)) (.slice (some ⟨w.heap.size, 0, none⟩) 0 0) [] := OwnB.built w 5 #[] [] rfl (Nat.zero_le _) (Nat.le_refl _)
theorem Dc.cut_rd {w : World} {A : Option Addr} {c : Nat} {b : List UInt8} (h : RdB w (.slice A b.length c) b) (lo hi : Nat) (h1 : lo ≤ hi) (h2 : hi ≤ b.length) :
  ∃ v2, (∀ (kl kh : IntKind) (l u : Int), l = (lo : Nat) → u = (hi : Nat) → ∀ W, (Instr.slice 26 (.slice A b.length c) (some (.int kl l)) (some (.int kh u)) none).run Tryz.prog W = .ok v2 W) ∧ RdB w v2 ((b.drop lo).take (hi - lo)) := by
 obtain ⟨i, hi', hz, hs1, hb1⟩ := bt.info
 have helem : Tryz.prog.elem 26 = 5 := by simp [Program.elem, bt.slice]
 have ht : Tryz.prog.underlying 26 = some (.slice (Tryz.prog.elem 26)) := by rw [helem]; exact bt.slice
 have hc : b.length ≤ c := by
  rcases h with ⟨a', c', e, hl⟩ | ⟨g, off, cap, e, _, hlc, _, _⟩
  ·rw [hl]; exact Nat.zero_le _
  ·injection e with _ _ e; omega
 have hlen : ((b.drop lo).take (hi - lo)).length = hi - lo := by rw [List.length_take, List.length_drop]; omega
 refine ⟨sliced A lo hi c 1, ?_, ?_⟩
 ·rintro kl kh l u rfl rfl W
  have hsz : (sizeOf (Tryz.prog.elem 26)).run Tryz.prog W = .ok 1 W := by rw [helem]; simp [sizeOf, typeInfo, hi', hs1]
  rw [run_slice_lh (w := W) 26 _ _ _ ht kl kh lo hi (by omega) (by omega) (by omega), hsz]
  simp
 ·unfold sliced
  by_cases h0 : hi - lo = 0
  ·refine .inl ⟨_, _, by rw [h0], List.eq_nil_of_length_eq_zero (by omega)⟩
  ·rcases h with ⟨a', c', e, hl⟩ | ⟨g, off, cap, e, hg, hlc, hcm, hcell⟩
   ·rw [hl] at h2; simp at h2; omega
   ·injection e with e1 _ e3
    subst e1 e3
    rw [if_neg (by omega)]
    refine .inr ⟨g, off + lo, c - lo, by rw [hlen]; simp [addr_add], hg, by rw [hlen]; omega, by omega, fun j hj => ?_⟩
    rw [hlen] at hj
    have e4 : ((b.drop lo).take (hi - lo)).getD j 0 = b.getD (lo + j) 0 := by simp [List.getD, List.getElem?_take, hj]
    rw [Nat.add_assoc, hcell (lo + j) (by omega), e4]
set_option maxRecDepth 100000 in
theorem rcode11 (w : World) (v : Value) (b : List UInt8) (L fl : Int) (nm : ByteArray) (at_ lk xt sz : Nat) (hxt : xt < 4294967296) (hsz : sz < 4294967296) (hv : RdB w v b) (hb : b.length ≤ 1000000) :
  Calls Tryz.prog 36 #[v, Dc.wv L at_ nm fl lk xt sz] w fun e w' => ∃ v', e = .returned v' ∧ RdB w' v' (Dc.rcode b xt sz) ∧ Below w.heap.size w w' := by
 have hal : Below w.heap.size w (w.alloc (.cells #[.int .i64 L, .int .u32 (at_ : Int), .string nm, .int .i64 fl, .int .u32 (lk : Int), .int .u32 (xt : Int), .int .u32 (sz : Int)] 80)) := (Below.refl _ _).alloc (Nat.le_refl _) _
 have hbk := Bk.fresh w 80 #[.int .i64 L, .int .u32 (at_ : Int), .string nm, .int .i64 fl, .int .u32 (lk : Int), .int .u32 (xt : Int), .int .u32 (sz : Int)]
 obtain ⟨w1, hw1⟩ : ∃ w1, w.alloc (.cells #[.int .i64 L, .int .u32 (at_ : Int), .string nm, .int .i64 fl, .int .u32 (lk : Int), .int .u32 (xt : Int), .int .u32 (sz : Int)] 80) = w1 := ⟨_, rfl⟩
 rw [hw1] at hal hbk
 have hv1 := hv.below hal
 have HAL := Lib.hid hal
 have x3 := hbk.cell 5
 have x4 := hbk.cell 6
 have s3 : IntKind.i64.wrap ((xt : Int) + (sz : Int)) = (xt : Int) + (sz : Int) := by rw [IntKind.wrap_i64]; omega
 have s1 : IntKind.i64.wrap (xt : Int) = (xt : Int) := by rw [IntKind.wrap_i64]; omega
 have s2 : IntKind.i64.wrap (sz : Int) = (sz : Int) := by rw [IntKind.wrap_i64]; omega
 have HC := Lib.hid (show Dc.rcode b xt sz = if b.length < xt + sz then [] else (b.drop xt).take sz from rfl)
 obtain ⟨A, c, hvf⟩ := hv1.length
 subst hvf
 by_cases hlt : b.length < xt + sz
 ·have hlt' : ((b.length : Int) < (xt : Int) + (sz : Int)) := by omega
  have HCE := Lib.hid (show Dc.rcode b xt sz = [] from by rw [HC.out, if_pos hlt])
  clear hal hv hv1 hbk hlt HC
  go_enter Tryz.func36, Tryz.ntmps36
  go_wp2_with fail
  go_ret
  exact ⟨_, rfl, by rw [HCE.out]; exact .inl ⟨none, 0, rfl, rfl⟩, HAL.out⟩
 ·have hlt' : ¬ ((b.length : Int) < (xt : Int) + (sz : Int)) := by omega
  have HCE := Lib.hid (show Dc.rcode b xt sz = (b.drop xt).take sz from by rw [HC.out, if_neg hlt])
  have hal2 : Below w1.heap.size w1 (w1.alloc (.cells #[] 5)) := (Below.refl _ _).alloc (Nat.le_refl _) _
  have hv2 := hv1.below hal2
  have HO := Lib.hid (Dc.own0 w1)
  have z3 := (hbk.kept hal2).cell 5
  have z4 := (hbk.kept hal2).cell 6
  have HAL2 := Lib.hid (HAL.out.trans (hal2.mono HAL.out.size))
  obtain ⟨v2, hsl, hrd⟩ := Dc.cut_rd hv2 xt (xt + sz) (by omega) (by omega)
  rw [show xt + sz - xt = sz by omega] at hrd
  have hsl' := hsl .u32 .i64 (xt : Int) ((xt : Int) + (sz : Int)) rfl (by push_cast; rfl)
  have hln : ((b.drop xt).take sz).length ≤ 1000000 := by rw [List.length_take, List.length_drop]; omega
  clear hal hv hv1 hv2 hbk hlt HC hal2 hsl
  go_enter Tryz.func36, Tryz.ntmps36
  go_wp2_with (at_builtin; refine wpList_appendB rfl _ _ _ _ rfl bt w1.heap.size _ rfl [] HO.out v2 rfl ((b.drop xt).take sz) (src_of_rd bt hrd) (by simp only [List.length_nil]; omega) (by simp) ?_; intro v3 w3 ho3 hb3 _)
  go_ret
  refine ⟨_, rfl, by rw [HCE.out]; simpa using ho3.rd, HAL2.out.trans (hb3.mono ?_)⟩
  exact HAL.out.size
end Go.Proofs.YtpcpaoeajcjoiaaGreatDoor
