/- The walk of the law MemoryApart. -/
import Derived.Test.YtijekhdndegdaaaMmLaws
import Derived.Test.YtijekhdndegdaaaKitOpen
namespace Go.Proofs.Ytijekhdndegdaaa
open Go.RowKit Kit
set_option linter.unusedVariables false
set_option linter.unusedSimpArgs false

/-- Two memories that share nothing. -/
structure TwoM (w : World) (gm gb : Nat) (b : List UInt8) (hs : List (Nat × Nat)) (gc gd : Nat) (b' : List UInt8) (hs' : List (Nat × Nat)) : Prop where
  a : OwnM w gm gb b hs
  b : OwnM w gc gd b' hs'
  ne : gb ≠ gd
  offa : OffM w 68 gm gd
  offb : OffM w 68 gc gb
theorem OwnM.ob {w : World} {gm gb : Nat} {b : List UInt8} {hs : List (Nat × Nat)} (h : OwnM w gm gb b hs) : ∃ cap x, Rw w gb 5 cap b ∧ Bk w gm 68 x := by
  obtain ⟨hv, cap, k1, k2, _⟩ := h.obj; exact ⟨cap, _, k2, k1⟩
theorem OwnM.off_new {w : World} {gm gb g : Nat} {b : List UInt8} {hs : List (Nat × Nat)} (h : OwnM w gm gb b hs) (hg : w.heap.size ≤ g) : OffM w 68 gm g := by
  intro x hv hb
  obtain ⟨hv', cap, k1, _, _, k4, _⟩ := h.obj
  have := (hb.uniq k1).2
  simp at this
  rw [this.2]
  exact Rd.off k4 hg
theorem TwoM.make {w w' : World} {gm gb : Nat} {b : List UInt8} {hs : List (Nat × Nat)} {b' : List UInt8} {hs' : List (Nat × Nat)} {v : Value} (h : OwnM w gm gb b hs) (hm : Mm.Made b' hs' w v w') :
    ∃ gc gd, v = .pointer (some ⟨gc, 0, none⟩) ∧ TwoM w' gm gb b hs gc gd b' hs' ∧ w.heap.size ≤ gc ∧ w.heap.size ≤ gd ∧ Below w.heap.size w w' := by
  obtain ⟨gc, gd, rfl, ho, h1, h2, hb, hoff⟩ := hm
  obtain ⟨cap, x, k1, k2⟩ := h.ob
  exact ⟨gc, gd, rfl, ⟨h.kept hb, ho, by have := k1.lt; omega, (h.off_new h2).same (hb.block gm k2.lt), hoff gb k1.lt⟩, h1, h2, hb⟩
theorem TwoM.kept {w w' : World} {gm gb gc gd : Nat} {b b' : List UInt8} {hs hs' : List (Nat × Nat)} (h : TwoM w gm gb b hs gc gd b' hs') (hb : Below w.heap.size w w') : TwoM w' gm gb b hs gc gd b' hs' := by
  obtain ⟨_, _, _, k2⟩ := h.a.ob
  obtain ⟨_, _, _, k2'⟩ := h.b.ob
  exact ⟨h.a.kept hb, h.b.kept hb, h.ne, h.offa.same (hb.block gm k2.lt), h.offb.same (hb.block gc k2'.lt)⟩
/-- The second one was written. -/
theorem TwoM.right {w w' : World} {gm gb gc gd : Nat} {b b' b2 : List UInt8} {hs hs' : List (Nat × Nat)} (h : TwoM w gm gb b hs gc gd b' hs') (hb : But gd w w') (h2 : OwnM w' gc gd b2 hs') : TwoM w' gm gb b hs gc gd b2 hs' := by
  obtain ⟨_, _, k1, k2⟩ := h.a.ob
  obtain ⟨_, _, k1', k2'⟩ := h.b.ob
  exact ⟨h.a.but hb (k1'.ne k2 (by decide)) h.ne h.offa, h2, h.ne, h.offa.same (hb.block k2.lt (k1'.ne k2 (by decide))), h.offb.same (hb.block k2'.lt (k1'.ne k2' (by decide)))⟩
theorem TwoM.left {w w' : World} {gm gb gc gd : Nat} {b b' b2 : List UInt8} {hs hs' : List (Nat × Nat)} (h : TwoM w gm gb b hs gc gd b' hs') (hb : But gb w w') (h2 : OwnM w' gm gb b2 hs) : TwoM w' gm gb b2 hs gc gd b' hs' := by
  obtain ⟨_, _, k1, k2⟩ := h.a.ob
  obtain ⟨_, _, k1', k2'⟩ := h.b.ob
  exact ⟨h2, h.b.but hb (k1.ne k2' (by decide)) h.ne.symm h.offb, h.ne, h.offa.same (hb.block k2.lt (k1.ne k2 (by decide))), h.offb.same (hb.block k2'.lt (k1.ne k2' (by decide)))⟩

theorem Mm.ask_free {len a : Nat} (ha : a % 4 = 0) (hl : a + 4 ≤ len) : Mm.ask len [] a 4 = 0 := by
  unfold Mm.ask
  rw [if_neg (by simp), if_neg (by simpa using ha), if_neg (by simpa using hl), if_neg (by simp [Mm.hits])]
theorem Mm.bytesL_all (b : List UInt8) (n : Nat) (h : b.length = n) : Mm.bytesL b 0 n = b := by
  unfold Mm.bytesL
  rw [if_pos ⟨by omega, by omega⟩]
  simp [Mm.get, ← h]

theorem all64 (W : World) (gm gb : Nat) (B : List UInt8) (hs : List (Nat × Nat)) (h : OwnM W gm gb B hs) (hB : B.length = 64) :
    Calls Try.prog 23 #[.pointer (some ⟨gm, 0, none⟩), .int .u32 0, .int .i64 64] W fun e w' => ∃ v', e = .returned v' ∧ (convert 34 9 v').run Try.prog w' = .ok (.string ⟨B.toArray⟩) w' ∧ Below W.heap.size W w' := by
  have := bytes_own W gm gb B hs 0 64 (by decide) h
  rw [show (64 : Int) = ((64 : Nat) : Int) from rfl, Mm.bytesL_all B 64 hB] at this
  refine this.mono ?_
  rintro e w' ⟨v', rfl, ho, hb⟩
  exact ⟨v', rfl, run_string_of mbt Try.underlying9 ho.rd, hb⟩
set_option maxRecDepth 20000 in
set_option maxHeartbeats 1000000 in
theorem core_memoryApart (vb : Value) (l : List UInt8) (a v : Nat) (w : World) (hl : RdB w vb l) (hlm : l.length ≤ maxLen) (ha : a < 4294967296) (hv : v < 4294967296) :
    Calls Try.prog 9 #[vb, .int .u32 a, .int .u32 v] w fun e w' => e = .returned (.bool true) ∧ Below w.heap.size w w' := by
  obtain ⟨A, c, rfl⟩ := hl.length
  have HL := Lib.hid hl
  have hlm' := hlm
  unfold maxLen at hlm
  by_cases h60 : 60 < l.length
  · clear hl HL
    generalize l.length = n at *
    go_enter Try.func9, Try.ntmps9
    go_wp2_with (go_at_call 18; refine (mknows_any _).mono ?_; rintro e w' ⟨rfl, hb⟩)
    go_ret
    exact ⟨rfl, hb⟩
  have HN := Lib.hid (fun W => new_ok W 64 none 0 [] (Rd.nil W 2) (fun j hj => absurd hj (by simp)) (by decide))
  have HL60 := Lib.hid (show l.length ≤ 60 by omega)
  clear hl
  generalize hll : l.length = n at *
  have HLL := Lib.hid hll
  clear hll
  go_enter Try.func9, Try.ntmps9
  go_wp2_with (go_at_call 18; refine (mknows_any _).mono ?_; rintro e w1 ⟨rfl, hb1⟩)
  have HB1 := Lib.hid hb1
  clear hb1
  refine (HN.out _).mono ?_
  rintro e w2 ⟨v2, rfl, gm, gb, rfl, hm, hgm, hgb, hb2, -⟩
  have HB2 := Lib.hid (HB1.out.trans (hb2.mono HB1.out.size))
  have HGB := Lib.hid (Nat.le_trans HB1.out.size hgb)
  have z0 : (List.replicate 64 (0 : UInt8)).length = 64 := by simp
  generalize List.replicate 64 (0 : UInt8) = Z at *
  have HP := put_own w2 gm gb Z [] 0 _ l (by decide) hm (HL.out.below HB2.out) (by unfold maxLen; have := HL60.out; have := HLL.out; omega)
  have e0 : Mm.putE Z.length 0 l.length = 0 := by unfold Mm.putE; rw [if_pos (by have := HL60.out; have := HLL.out; omega)]
  have z1 : (Mm.putB Z 0 l).length = 64 := by
    unfold Mm.putB; rw [if_pos (by have := HL60.out; have := HLL.out; omega), Mm.put_length _ _ _ (by have := HL60.out; have := HLL.out; omega)]; exact z0
  rw [e0] at HP
  have HPP := Lib.hid HP
  clear HP e0 z0 hm hgm hgb hb2
  generalize Mm.putB Z 0 l = B0 at *
  go_wp2_with (go_at_call 21; refine (mnum_any _ _).mono ?_; rintro e w' ⟨rfl, rfl⟩)
  refine HPP.out.mono ?_
  rintro e w3 ⟨rfl, hm3, hbut3⟩
  have HB3 := Lib.hid (HB2.out.trans ((hbut3.below HGB.out (by have := HB2.out.size; omega)).mono (Nat.le_refl _)))
  have HM3 := Lib.hid hm3
  have ha1 : a % 16 * 4 % 4294967296 = a % 16 * 4 := by omega
  clear hm3 hbut3 HPP HB2
  clear HN
  go_wp2_with (go_at_call 21; refine (mnum_any _ _).mono ?_; rintro e w' ⟨rfl, rfl⟩)
  refine ((all64 _ gm gb B0 [] HM3.out z1)).mono ?_
  rintro e w4 ⟨v4, rfl, hcv, hb4⟩
  have HM4 := Lib.hid (HM3.out.kept hb4)
  have HB4 := Lib.hid (HB3.out.trans (hb4.mono HB3.out.size))
  clear hb4
  go_wp2_with (go_at_call 21; refine (mnum_any _ _).mono ?_; rintro e w' ⟨rfl, rfl⟩)
  clear hcv
  refine (clone_own _ gm gb B0 [] HM4.out).mono ?_
  rintro e w5 ⟨v5, rfl, hmade⟩
  obtain ⟨gc, gd, rfl, ht, hgc, hgd, hb5⟩ := TwoM.make HM4.out hmade
  have HB5 := Lib.hid (HB4.out.trans (hb5.mono HB4.out.size))
  have HGD := Lib.hid (Nat.le_trans HB4.out.size hgd)
  have HW := write_own w5 gc gd B0 [] (a % 16 * 4) v 4 (by omega) hv ht.b
  rw [Mm.ask_free (by omega) (by rw [z1]; omega)] at HW
  have HWW := Lib.hid HW
  have HT5 := Lib.hid ht
  have HV := Lib.hid (show Mm.readV (Mm.writeB B0 [] (a % 16 * 4) 4 v) [] (a % 16 * 4) 4 = v by
    have e1 := Mm.ask_free (len := B0.length) (a := a % 16 * 4) (by omega) (by rw [z1]; omega)
    unfold Mm.readV
    rw [Mm.writeB_length, if_pos e1]
    unfold Mm.writeB
    rw [if_pos e1]
    have := Mm.get_put B0 (a % 16 * 4) (Mm.bytesOf v 4) (by rw [Mm.bytesOf_length, z1]; omega)
    rw [Mm.bytesOf_length] at this
    rw [show (4 : Int).toNat = 4 from rfl, this, Mm.val_bytesOf]
    omega)
  have z2 : (Mm.writeB B0 [] (a % 16 * 4) 4 v).length = 64 := by rw [Mm.writeB_length]; exact z1
  have HA := Lib.hid (show Mm.ask 64 [] (a % 16 * 4) 4 = 0 from Mm.ask_free (by omega) (by omega))
  have h4 : a % 16 * 4 < 4294967296 := by omega
  clear ht hgc hgd hb5 hmade HW
  generalize Mm.writeB B0 [] (a % 16 * 4) 4 v = B1 at *
  generalize hq : a % 16 * 4 = q at *
  have hqi : (a : Int) % 16 * 4 = q := by omega
  clear hq
  go_wp2_with (go_at_call 21; refine (mnum_any _ _).mono ?_; rintro e w' ⟨rfl, rfl⟩)
  refine HWW.out.mono ?_
  rintro e w6 ⟨rfl, hc6, hbut6⟩
  have HT6 := Lib.hid (HT5.out.right hbut6 hc6)
  have HB6 := Lib.hid (HB5.out.trans (hbut6.below HGD.out (by have := HB5.out.size; omega)))
  clear hc6 hbut6
  go_wp2_with (go_at_call 21; refine (mnum_any _ _).mono ?_; rintro e w' ⟨rfl, rfl⟩)
  refine (all64 _ gm gb B0 [] HT6.out.a z1).mono ?_
  rintro e w7 ⟨v7, rfl, hcv, hb7⟩
  have HT7 := Lib.hid (HT6.out.kept hb7)
  have HB7 := Lib.hid (HB6.out.trans (hb7.mono HB6.out.size))
  clear hb7
  go_wp2_with (go_at_call 21; refine (mnum_any _ _).mono ?_; rintro e w' ⟨rfl, rfl⟩)
  clear hcv
  refine (all64 _ gc gd B1 [] HT7.out.b z2).mono ?_
  rintro e w8 ⟨v8, rfl, hcv, hb8⟩
  have HT8 := Lib.hid (HT7.out.kept hb8)
  have HB8 := Lib.hid (HB7.out.trans (hb8.mono HB7.out.size))
  clear hb8
  go_wp2_with (go_at_call 21; refine (mnum_any _ _).mono ?_; rintro e w' ⟨rfl, rfl⟩)
  clear hcv
  obtain ⟨u, hu, hul⟩ : ∃ u : Nat, ((v : Int) + 1) % 4294967296 = u ∧ u < 4294967296 := ⟨(v + 1) % 4294967296, by omega, by omega⟩
  rw [hu]
  clear hu
  have HW := write_own w8 gm gb B0 [] q u 4 h4 hul HT8.out.a
  refine HW.mono ?_
  rintro e w9 ⟨rfl, hc9, hbut9⟩
  clear HW
  have HT9 := Lib.hid (HT8.out.left hbut9 hc9)
  have HB9 := Lib.hid (HB8.out.trans (hbut9.below HGB.out (by have := HB8.out.size; omega)))
  clear hc9 hbut9
  have HR := read_own w9 gc gd B1 [] q 4 h4 HT9.out.b
  rw [HV.out, z2, HA.out] at HR
  have HRR := Lib.hid HR
  clear HR
  go_wp2_with (go_at_call 21; refine (mnum_any _ _).mono ?_; rintro e w' ⟨rfl, rfl⟩)
  refine HRR.out.mono ?_
  rintro e w10 ⟨rfl, hb10⟩
  have HT10 := Lib.hid (HT9.out.kept hb10)
  have HB10 := Lib.hid (HB9.out.trans (hb10.mono HB9.out.size))
  clear hb10
  go_wp2_with (go_at_call 21; refine (mnum_any _ _).mono ?_; rintro e w' ⟨rfl, rfl⟩)
  refine (all64 _ gc gd B1 [] HT10.out.b z2).mono ?_
  rintro e w11 ⟨v11, rfl, hcv, hb11⟩
  go_wp2_with (go_at_call 21; refine (mnum_any _ _).mono ?_; rintro e w' ⟨rfl, rfl⟩)
  go_ret
  exact ⟨rfl, HB10.out.trans (hb11.mono HB10.out.size)⟩
end Go.Proofs.Ytijekhdndegdaaa
