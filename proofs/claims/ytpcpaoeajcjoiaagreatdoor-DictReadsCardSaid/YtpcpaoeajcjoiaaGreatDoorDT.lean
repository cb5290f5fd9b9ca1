/- Texts joined, what is not reached left out. -/
import Derived.Test.YtpcpaoeajcjoiaaGreatDoorDS
import Derived.Test.YtpcpaoeajcjoiaaGreatDoorKX
import Derived.Test.YtpcpaoeajcjoiaaGreatDoorQL6Tab
set_option linter.unusedVariables false
set_option linter.unusedSimpArgs false
namespace Go.Proofs.YtpcpaoeajcjoiaaGreatDoor
open Go.RowKit Kit
theorem Dc.eq_head (s : ByteArray) (fl a b c : Int) (w : World) : (Op.equalIn 9999 78 (.agg #[.string s, .int .i64 fl, .int .u32 a, .int .u32 b, .int .u32 c]) (.agg #[.string s, .int .i64 fl, .int .u32 a, .int .u32 b, .int .u32 c])).run Tryz.prog w = .ok true w := by
 have hS : Tryz.prog.underlying 78 = some (.struct (Tryz.prog.fieldsOf 78)) := by kernel_rfl
 have hP : Tryz.prog.stoodInHeld 78 = false := by kernel_rfl
 have u9 := Tryz.underlying9
 have u3 := Tryz.underlying3
 have u29 := Tryz.underlying23
 rw [show (9999 : Nat) = 9998 + 1 from rfl, run_equalIn_agg w 9998 78 _ _ hS hP]
 simp only [Program.fieldsOf, Tryz.underlying78]
 go_simp
theorem Dc.neq_word (x : Dc.Wd) (w : World) : (binOp .neq 80 (.agg #[.int .i64 (x.list : Int), .int .u32 (x.at_ : Int), .string ⟨x.h.name.toArray⟩, .int .i64 (x.h.fl : Int), .int .u32 (x.h.link : Int), .int .u32 (x.h.xt : Int), .int .u32 (x.h.size : Int)]) (.agg #[.int .i64 (x.list : Int), .int .u32 (x.at_ : Int), .string ⟨x.h.name.toArray⟩, .int .i64 (x.h.fl : Int), .int .u32 (x.h.link : Int), .int .u32 (x.h.xt : Int), .int .u32 (x.h.size : Int)])).run Tryz.prog w = .ok (.bool false) w := by
 have hS : Tryz.prog.underlying 80 = some (.struct (Tryz.prog.fieldsOf 80)) := by kernel_rfl
 have hP : Tryz.prog.stoodInHeld 80 = false := by kernel_rfl
 have hE := fun W => Dc.eq_head ⟨x.h.name.toArray⟩ x.h.fl x.h.link x.h.xt x.h.size W
 have hG : ∀ W, (part 78 #[.int .i64 (x.list : Int), .int .u32 (x.at_ : Int), .string ⟨x.h.name.toArray⟩, .int .i64 (x.h.fl : Int), .int .u32 (x.h.link : Int), .int .u32 (x.h.xt : Int), .int .u32 (x.h.size : Int)] 2).run Tryz.prog W = .ok (.agg #[.string ⟨x.h.name.toArray⟩, .int .i64 (x.h.fl : Int), .int .u32 (x.h.link : Int), .int .u32 (x.h.xt : Int), .int .u32 (x.h.size : Int)]) W := fun W => by go_simp
 have u3 := Tryz.underlying3
 have u29 := Tryz.underlying23
 rw [run_neq_struct, show (10000 : Nat) = 9999 + 1 from rfl, run_equalIn_agg w 9999 80 _ _ hS hP]
 simp only [Program.fieldsOf, Tryz.underlying80]
 clear hS hP
 go_simp
def Dc.Cells (W : World) (g off : Nat) (x : Dc.Wd) : Prop := W.cell? ⟨g, off, none⟩ = some (.int .i64 (x.list : Int)) ∧ W.cell? ⟨g, off + 1, none⟩ = some (.int .u32 (x.at_ : Int)) ∧ W.cell? ⟨g, off + 2, none⟩ = some (.string ⟨x.h.name.toArray⟩) ∧ W.cell? ⟨g, off + 3, none⟩ = some (.int .i64 (x.h.fl : Int)) ∧ W.cell? ⟨g, off + 4, none⟩ = some (.int .u32 (x.h.link : Int)) ∧ W.cell? ⟨g, off + 5, none⟩ = some (.int .u32 (x.h.xt : Int)) ∧ W.cell? ⟨g, off + 6, none⟩ = some (.int .u32 (x.h.size : Int))
theorem RdD.cells {W : World} {v : Value} {l : List Dc.Wd} (h : RdD W v l) {j : Nat} (hj : j < l.length) : ∃ g off c, v = .slice (some ⟨g, off, none⟩) l.length c ∧ ∀ W', Below W.heap.size W W' → Dc.Cells W' g (off + j * 7) (l.getD j Dc.w0) := by
 obtain ⟨A, c, rfl⟩ := Rd.form h
 obtain ⟨_, g, off, rfl, hg, hc⟩ := RdD.word h hj
 have k := hc j hj
 refine ⟨g, off, c, rfl, fun W' hb => ?_⟩
 have q : ∀ i u, (Dc.wenc (l.getD j Dc.w0))[i]? = some u → W'.cell? ⟨g, off + j * 7 + i, none⟩ = some u := fun i u hu => (hb.cell (p := ⟨g, off + j * 7 + i, none⟩) hg).trans (k i u hu)
 exact ⟨q 0 _ rfl, q 1 _ rfl, q 2 _ rfl, q 3 _ rfl, q 4 _ rfl, q 5 _ rfl, q 6 _ rfl⟩
set_option maxRecDepth 100000 in
set_option maxHeartbeats 4000000 in
theorem dsame_any (w : World) (va vb : Value) (l : List Dc.Wd) (ha : RdD w va l) (hb : RdD w vb l) (hl : l.length ≤ 5000) :
  Calls Tryz.prog 33 #[va, vb] w fun e w' => e = .returned (.bool true) ∧ Below w.heap.size w w' := by
 have HA := Lib.hid ha
 have HB := Lib.hid hb
 have HL := Lib.hid hl
 obtain ⟨A1, c1, rfl⟩ := Rd.form ha
 obtain ⟨A2, c2, rfl⟩ := Rd.form hb
 clear ha hb hl
 go_enter Tryz.func33, Tryz.ntmps33
 go_wp2_with fail
 go_loopw [5] (fun i wr => ∃ k : Nat, k ≤ l.length ∧ i = .int .i64 (k : Int) ∧ Below w.heap.size w wr) (fun i _ => l.length - (intOf i).toNat)
 case atStart => exact ⟨0, Nat.zero_le _, rfl, Below.refl _ _⟩
 case round =>
  obtain ⟨k, hk, rfl, hbr⟩ := hrel
  have HBR := Lib.hid hbr
  by_cases hlt : k < l.length
  ·have hlt' : (k : Int) < (l.length : Int) := by omega
   have hk0 : (0 : Int) ≤ (k : Int) := by omega
   obtain ⟨g1, o1, d1, e1, h1⟩ := RdD.cells (Rd.kept HA.out hbr) hlt
   obtain ⟨g2, o2, d2, e2, h2⟩ := RdD.cells (Rd.kept HB.out hbr) hlt
   injection e1 with e1 _ e3
   injection e2 with e2 _ e4
   subst e1 e2 e3 e4
   obtain ⟨x, hx⟩ : ∃ x, l.getD k Dc.w0 = x := ⟨_, rfl⟩
   rw [hx] at h1 h2
   have HC := Lib.hid (fun W' hW' => And.intro (h1 W' hW') (h2 W' hW'))
   have CR := Lib.hid (fun W => dref_any W x.list x.h.fl ⟨x.h.name.toArray⟩ x.at_ x.h.link x.h.xt x.h.size)
   have NQ := Dc.neq_word x
   have wk := Dc.k_next hlt HL.out
   clear h1 h2 hbr hx hk
   go_wp2_with fail
   refine Kit.wp_region_class (fun W' => Below wr.heap.size wr W') (by kernel_rfl) (by kernel_rfl) ((Below.refl _ _).drew) ?_
   repeat (first | go_big_quiet_skip | (refine BigFrame.wpQuiet_want (by rfl) (fun K hK => ?_); first | ((fail_if_success (fail_if_success (first | (refine BigFrame.quiet_move _ rfl ?_) | (refine BigFrame.quiet_assign _ rfl ?_)))); go_big_quiet_op; refine hK _ ?_; clear hK K) | (apply Exists.intro; refine ⟨fun W' hW' => ?_, hK _ ?_⟩; (obtain ⟨⟨q0, q1, q2, q3, q4, q5, q6⟩, p0, p1, p2, p3, p4, p5, p6⟩ := HC.out W' hW'; unfold Oper.quietAt; go_simp; (first | done | (with_reducible rfl) | (exact ⟨rfl, rfl⟩) | (first | (go_at_call 78; exact callB (CR.out _) hW' (Nat.le_refl _)) | (refine ⟨rfl, ?_⟩; (first | (go_at_call 78; exact callB (CR.out _) hW' (Nat.le_refl _))))))); clear hK K; (try simp only [Act.put, List.getElem_toArray, List.getElem_cons_zero, List.getElem_cons_succ, List.setIfInBounds_toArray, List.set_cons_zero, List.set_cons_succ]))))
   refine wpQuiet_nil ?_
   intro W9 hB9
   have HB9 := Lib.hid (HBR.out.trans (hB9.mono HBR.out.size))
   clear hB9
   go_wp2_with fail
   go_roundw
   case rel => exact ⟨k + 1, by omega, by push_cast; rfl, HB9.out⟩
   case measure =>
    simp only [intOf]
    omega
  ·have hlt' : ¬ (k : Int) < (l.length : Int) := by omega
   clear hbr
   go_wp2_with fail
   go_ret
   exact ⟨rfl, HBR.out⟩
end Go.Proofs.YtpcpaoeajcjoiaaGreatDoor
namespace Go.Proofs.YtpcpaoeajcjoiaaGreatDoor
open Go.RowKit Kit
theorem Dc.chain_mem {b : List UInt8} {k list : Nat} : ∀ (last a : Nat) (c : List Dc.Wd), Dc.chain b k list a last = some c → ∀ x ∈ c, ∃ a', x.h = Dc.here b a' := by
 intro last
 induction last using Nat.strongRecOn with
 | ind last ih =>
  intro a c h x hx
  by_cases ha : a = 0
  ·subst ha
   rw [Dc.chain_zero] at h
   cases h
   cases hx
  ·by_cases hok : Dc.ok b k a last = true
   ·rw [Dc.chain_ok list ha hok] at h
    obtain ⟨c', hc', rfl⟩ := Option.map_eq_some_iff.1 h
    rcases List.mem_cons.1 hx with rfl | hx
    ·exact ⟨a, rfl⟩
    ·exact ih a (Dc.ok_lt hok) _ c' hc' x hx
   ·rw [Dc.chain_bad list ha (by simpa using hok)] at h
    cases h
theorem Dc.tail_mem {b : List UInt8} {heads : Nat} : ∀ (n : Nat) (l : List Dc.Wd), Dc.tail b heads n = some l → ∀ x ∈ l, ∃ a', x.h = Dc.here b a'
 | 0, l, h, x, hx => by cases h; cases hx
 | n + 1, l, h, x, hx => by
  rw [Dc.tail] at h
  obtain ⟨c, hc, h2⟩ := Option.bind_eq_some_iff.1 h
  obtain ⟨t, ht, rfl⟩ := Option.map_eq_some_iff.1 h2
  rcases List.mem_append.1 hx with hx | hx
  ·exact Dc.chain_mem _ _ c hc x hx
  ·exact Dc.tail_mem n t ht x hx
theorem Dc.good_small {b : List UInt8} {heads : Nat} {l : List Dc.Wd} (h : Dc.Good b heads l) {x : Dc.Wd} (hx : x ∈ l) : x.h.xt < 4294967296 ∧ x.h.size < 4294967296 := by
 obtain ⟨a, ha⟩ := Dc.tail_mem 32 l h.all x hx
 have h1 := Dc.sz_lt b a
 rw [ha]
 exact ⟨h1.2.1, h1.1⟩
theorem Dc.code_same (b : List UInt8) (xt sz : Nat) : Dc.code b xt sz = Dc.rcode b xt sz := by
 unfold Dc.code Dc.rcode Mm.bytesL Mm.get
 by_cases h : b.length < xt + sz
 ·rw [if_pos h]
  by_cases h2 : b.length < sz
  ·rw [if_pos h2]
  ·rw [if_neg h2, if_neg (by omega)]
 ·rw [if_neg h, if_neg (by omega), if_pos (by omega)]
  rfl
theorem Dc.mod50 (x : Int) : ∃ (a b : Int) (m : Nat), Int.tmod x 50 = a ∧ IntKind.i64.wrap a = a ∧ IntKind.i64.wrap (a + 50) = b ∧ Int.tmod b 50 = (m : Int) ∧ IntKind.i64.wrap (m : Int) = (m : Int) ∧ m < 50 := by
 have h1 := Int.tmod_lt_of_pos x (show (0 : Int) < 50 by decide)
 have h2 := Int.lt_tmod_of_pos x (show (0 : Int) < 50 by decide)
 have e : ∃ m : Nat, Int.tmod (Int.tmod x 50 + 50) 50 = (m : Int) ∧ m < 50 := by
  rw [Int.tmod_eq_emod_of_nonneg (by omega)]
  have h3 := Int.emod_nonneg (Int.tmod x 50 + 50) (show (50 : Int) ≠ 0 by decide)
  have h4 := Int.emod_lt_of_pos (Int.tmod x 50 + 50) (show (0 : Int) < 50 by decide)
  exact ⟨((Int.tmod x 50 + 50) % 50).toNat, by omega, by omega⟩
 obtain ⟨m, hm, hm2⟩ := e
 exact ⟨Int.tmod x 50, Int.tmod x 50 + 50, m, rfl, by rw [IntKind.wrap_i64]; omega, by rw [IntKind.wrap_i64]; omega, hm, by rw [IntKind.wrap_i64]; omega, hm2⟩
theorem Dc.size_facts {len m : Nat} (hl : len ≤ 3000) (hm : m < 50) : ∃ q n : Nat, IntKind.i64.wrap ((len : Int) + 3) = (len : Int) + 3 ∧ IntKind.i64.wrap (((len : Int) + 3) / 4) = ((len : Int) + 3) / 4 ∧ IntKind.i64.wrap (((len : Int) + 3) / 4 * 4) = (q : Int) ∧ IntKind.i64.wrap (4 * (m : Int)) = 4 * (m : Int) ∧
  IntKind.i64.wrap ((q : Int) + 4 * (m : Int)) = (q : Int) + 4 * (m : Int) ∧ IntKind.i64.wrap ((q : Int) + 4 * (m : Int) + 4) = (n : Int) ∧ IntKind.i64.wrap ((n : Int) - (len : Int)) = ((n - len : Nat) : Int) ∧ len ≤ n ∧ 4 ≤ n ∧ n ≤ 3300 ∧ n % 4 = 0 := by
 refine ⟨(len + 3) / 4 * 4, (len + 3) / 4 * 4 + 4 * m + 4, ?_⟩
 simp only [IntKind.wrap_i64]
 omega
structure Dc.Both (W : World) (vo vr : Value) (c : Int) (L : List Dc.Wd) : Prop where
 own : RdD W vo L
 ref : RdD W vr L
 small : ∀ x ∈ L, x.h.xt < 4294967296 ∧ x.h.size < 4294967296
 most : L.length ≤ 5000
theorem Dc.both {w w2 w3 : World} {b : List UInt8} {heads : Nat} {e e' : Ending} (h : Dc.Post w b heads e w2) (h' : Dc.RPost w2 b heads e' w3) : ∃ vo vr c L, e = .returned (.tuple #[vo, .int .i64 c]) ∧ e' = .returned (.tuple #[vr, .int .i64 c]) ∧ Dc.Both w3 vo vr c L := by
 obtain ⟨_, h⟩ := h
 obtain ⟨hb, h'⟩ := h'
 rcases h with ⟨hf, rfl⟩ | ⟨hf, hn, rfl⟩ | ⟨hf, l, l', v, hg, hp, hs, rfl, hr⟩
 ·rcases h' with ⟨_, rfl⟩ | ⟨hf', _⟩ | ⟨hf', _⟩
  ·exact ⟨_, _, 1, [], rfl, rfl, Rd.nil _ _, Rd.nil _ _, fun x hx => (by cases hx), by simp⟩
  ·exact absurd hf' hf
  ·exact absurd hf' hf
 ·rcases h' with ⟨hf', _⟩ | ⟨_, _, rfl⟩ | ⟨_, l, _, _, hg, _⟩
  ·exact absurd hf hf'
  ·exact ⟨_, _, 45, [], rfl, rfl, Rd.nil _ _, Rd.nil _ _, fun x hx => (by cases hx), by simp⟩
  ·exact absurd hg (hn l)
 ·rcases h' with ⟨hf', _⟩ | ⟨_, hn, _⟩ | ⟨_, m, m', v', hg', hp', hs', rfl, hr'⟩
  ·exact absurd hf hf'
  ·exact absurd hg (hn l)
  ·have e1 : l = m := Option.some.inj (hg.all.symm.trans hg'.all)
   subst e1
   have e2 : l' = m' := Dc.sorted_eq (hp.trans hp'.symm) hs hs'
   subst e2
   refine ⟨v, v', 0, l', rfl, rfl, Rd.kept hr hb, hr', fun x hx => Dc.good_small hg (hp.mem_iff.1 hx), ?_⟩
   rw [hp.length_eq]
   have := hg.most
   omega
theorem Dc.Post.shape {w w' : World} {b : List UInt8} {heads : Nat} {e : Ending} (h : Dc.Post w b heads e w') : ∃ vo c, e = .returned (.tuple #[vo, .int .i64 c]) := by
 rcases h.2 with ⟨_, rfl⟩ | ⟨_, _, rfl⟩ | ⟨_, _, _, v, _, _, _, rfl, _⟩
 ·exact ⟨_, _, rfl⟩
 ·exact ⟨_, _, rfl⟩
 ·exact ⟨_, _, rfl⟩
theorem first_of {w w' : World} {v : Value} {l : List UInt8} (h : RdB w v l) (hb : Below w.heap.size w w') : RdB w' v l := h.below hb
theorem Dc.mem_self (c : List UInt8) : Dc.mem c c.length = c := by unfold Dc.mem; rw [Nat.sub_self]; simp
set_option maxRecDepth 100000 in
set_option maxHeartbeats 4000000 in
theorem core_dictReads (v : Value) (b : List UInt8) (heads : Nat) (more : Int) (w : World) (hv : RdB w v b) (hbm : b.length ≤ maxLen) (hh : heads < 4294967296) (hT : L6.Tab w) :
  Calls Tryz.prog 6 #[v, .int .u32 (heads : Int), .int .i64 more] w fun e w' => e = .returned (.bool true) ∧ Below w.heap.size w w' := by
 obtain ⟨A, c, hvf⟩ := hv.length
 subst hvf
 have HV := Lib.hid hv
 have HT := Lib.hid hT
 have CK := Lib.hid (fun W (hW : Below w.heap.size w W) => dknows_any W (hT.kept hW))
 clear hv hT hbm
 by_cases hl : 3000 < b.length
 ·have hl' : (3000 : Int) < (b.length : Int) := by omega
  clear hl
  go_enter Tryz.func6, Tryz.ntmps6
  go_wp2_with (go_at_call 29; refine (CK.out _ (Below.refl _ _)).mono ?_; rintro e w1 ⟨rfl, hb1⟩)
  go_ret
  exact ⟨rfl, hb1⟩
 ·have hl' : ¬ (3000 : Int) < (b.length : Int) := by omega
  obtain ⟨ma, mb, m, m1, m2, m3, m4, m5, m6⟩ := Dc.mod50 more
  obtain ⟨q, n, s1, s0, s2, s3, s4, s5, s6, s7, s8, s9, s10⟩ := Dc.size_facts (len := b.length) (by omega) m6
  have HN := Lib.hid (show b.length ≤ n ∧ 4 ≤ n ∧ n ≤ 3300 ∧ n % 4 = 0 from ⟨s7, s8, s9, s10⟩)
  have HL := Lib.hid (show b.length ≤ 3000 by omega)
  have HH := Lib.hid hh
  have hal : Below w.heap.size w (w.alloc (.cells #[] 5)) := (Below.refl _ _).alloc (Nat.le_refl _) _
  have HO0 := Lib.hid (Dc.own0 w)
  have HS0 := Lib.hid (src_of_rd bt (HV.out.below hal))
  have HA0 := Lib.hid hal
  clear hal s7 s8 s9 s10 m6 hl hh
  go_enter Tryz.func6, Tryz.ntmps6
  go_wp2_with (first
   | (at_builtin; refine wpList_appendB rfl _ _ _ _ rfl bt w.heap.size _ rfl [] HO0.out _ rfl b HS0.out (by have := HL.out; simp only [List.length_nil]; omega) (by simp) ?_; intro v1 w1 ho1 hb1 _; have HO1 := Lib.hid ho1; have HB1 := Lib.hid (HA0.out.trans hb1); have hln1 := ho1.len (n := b.length) (by simp); clear ho1 hb1)
   | (at_builtin; refine wpList_appendZ rfl _ _ _ _ rfl bt Tryz.underlying3 w.heap.size _ rfl _ HO1.out (n - b.length) (by rfl) (by have := HN.out; omega) (by have := HL.out; simp; omega) HB1.out.size ?_; intro v2 w2 ho2 hb2 _; have HO2 := Lib.hid ho2; have HB2 := Lib.hid (HB1.out.trans hb2); clear ho2 hb2))
  obtain ⟨cc, hcc⟩ : ∃ cc, [] ++ b ++ List.replicate (n - b.length) 0 = cc := ⟨_, rfl⟩
  rw [hcc] at HO2
  have hcl : cc.length = n := by
   rw [← hcc]
   have := HN.out
   simp only [List.nil_append, List.length_append, List.length_replicate]
   omega
  have HCL := Lib.hid hcl
  have CM := Lib.hid (dmem_any w2 v2 cc n HO2.out.rd (by omega) (by have := HN.out; omega) (by have := HN.out; omega) (by have := HN.out; omega))
  clear hcc hcl
  go_at_call 30
  refine CM.out.mono ?_
  rintro e w3 ⟨gm, gb, rfl, hM, hgm, hgb, hb3⟩
  rw [← HCL.out, Dc.mem_self] at hM
  have HM := Lib.hid hM
  have HB3 := Lib.hid (HB2.out.trans (hb3.mono HB2.out.size))
  have HV2 := Lib.hid (HO2.out.rd.below hb3)
  have CR := Lib.hid (dread_any w3 gm gb cc [] heads HH.out hM)
  obtain ⟨A2, c2, rfl⟩ := HO2.out.len HCL.out
  clear hM hgm hgb hb3
  go_wp2_with fail
  go_at_call 31
  refine CR.out.mono ?_
  rintro e w4 hp4
  have HP4 := Lib.hid hp4
  obtain ⟨vo, co, rfl⟩ := hp4.shape
  have HB4 := Lib.hid hp4.1
  have CF := Lib.hid (rread11 w4 _ cc heads HH.out (HV2.out.below hp4.1) (by have := HCL.out; have := HN.out; omega))
  clear hp4
  go_wp2_with fail
  go_at_call 32
  refine CF.out.mono ?_
  rintro e w5 hp5
  obtain ⟨vo', vr, co', L, e1, rfl, hbo⟩ := Dc.both HP4.out hp5
  injection e1 with e1
  injection e1 with e1
  simp only [Array.mk.injEq, List.cons.injEq, and_true, Value.int.injEq, true_and] at e1
  obtain ⟨e1, e2⟩ := e1
  subst e1 e2
  have HBO := Lib.hid hbo
  have HB5 := Lib.hid (HB4.out.trans (hp5.1.mono HB4.out.size))
  have CS := Lib.hid (dsame_any w5 vo vr L hbo.own hbo.ref hbo.most)
  obtain ⟨Ao, d1, rfl⟩ := Rd.form hbo.own
  obtain ⟨Ar, d2, rfl⟩ := Rd.form hbo.ref
  clear hbo hp5
  go_wp2_with (first | (go_at_call 33; refine CS.out.mono ?_; rintro e w6 ⟨rfl, hb6⟩) | (go_at_call 34; refine (dnum_any _ _).mono ?_; rintro e w' ⟨rfl, rfl⟩))
  have HB6 := Lib.hid (HB5.out.trans (hb6.mono HB5.out.size))
  have HL6 := Lib.hid hb6
  clear hb6
  go_loopw [14] (fun i wr => ∃ k : Nat, k ≤ L.length ∧ i = .int .i64 (k : Int) ∧ Below w6.heap.size w6 wr) (fun i _ => L.length - (intOf i).toNat)
  case atStart => exact ⟨0, Nat.zero_le _, rfl, Below.refl _ _⟩
  case round =>
   obtain ⟨k, hk, rfl, hbr⟩ := hrel
   have HBR := Lib.hid hbr
   have hb3r : Below w3.heap.size w3 wr := HB6.out.trans (hbr.mono HB6.out.size)
   have hb5r : Below w5.heap.size w5 wr := HL6.out.trans (hbr.mono HL6.out.size)
   by_cases hlt : k < L.length
   ·have hlt' : (k : Int) < (L.length : Int) := by omega
    have hk0 : (0 : Int) ≤ (k : Int) := by omega
    obtain ⟨g1, o1, f1, e1, h1⟩ := RdD.cells (Rd.kept HBO.out.own hb5r) hlt
    obtain ⟨g2, o2, f2, e2, h2⟩ := RdD.cells (Rd.kept HBO.out.ref hb5r) hlt
    injection e1 with e1 _ e3
    injection e2 with e2 _ e4
    subst e1 e2 e3 e4
    have hmem : L.getD k Dc.w0 ∈ L := by
     rw [List.getD, List.getElem?_eq_getElem hlt]
     exact List.getElem_mem hlt
    obtain ⟨z1, z2⟩ := HBO.out.small _ hmem
    obtain ⟨x, hx⟩ : ∃ x, L.getD k Dc.w0 = x := ⟨_, rfl⟩
    rw [hx] at h1 h2 z1 z2
    have HS := Lib.hid (show ∀ W', Below wr.heap.size wr W' → W'.cell? ⟨g1, o1 + k * 7, none⟩ = some (.int .i64 (x.list : Int)) ∧ W'.cell? ⟨g1, o1 + k * 7 + 1, none⟩ = some (.int .u32 (x.at_ : Int)) ∧ W'.cell? ⟨g1, o1 + k * 7 + 2, none⟩ = some (.string ⟨x.h.name.toArray⟩) ∧ W'.cell? ⟨g1, o1 + k * 7 + 3, none⟩ = some (.int .i64 (x.h.fl : Int)) ∧ W'.cell? ⟨g1, o1 + k * 7 + 4, none⟩ = some (.int .u32 (x.h.link : Int)) ∧ W'.cell? ⟨g1, o1 + k * 7 + 5, none⟩ = some (.int .u32 (x.h.xt : Int)) ∧ W'.cell? ⟨g1, o1 + k * 7 + 6, none⟩ = some (.int .u32 (x.h.size : Int)) ∧ W'.cell? ⟨g2, o2 + k * 7, none⟩ = some (.int .i64 (x.list : Int)) ∧ W'.cell? ⟨g2, o2 + k * 7 + 1, none⟩ = some (.int .u32 (x.at_ : Int)) ∧ W'.cell? ⟨g2, o2 + k * 7 + 2, none⟩ = some (.string ⟨x.h.name.toArray⟩) ∧ W'.cell? ⟨g2, o2 + k * 7 + 3, none⟩ = some (.int .i64 (x.h.fl : Int)) ∧ W'.cell? ⟨g2, o2 + k * 7 + 4, none⟩ = some (.int .u32 (x.h.link : Int)) ∧ W'.cell? ⟨g2, o2 + k * 7 + 5, none⟩ = some (.int .u32 (x.h.xt : Int)) ∧ W'.cell? ⟨g2, o2 + k * 7 + 6, none⟩ = some (.int .u32 (x.h.size : Int)) from fun W' hW' => by
     have p := h1 W' hW'
     have q := h2 W' hW'
     unfold Dc.Cells at p q
     exact ⟨p.1, p.2.1, p.2.2.1, p.2.2.2.1, p.2.2.2.2.1, p.2.2.2.2.2.1, p.2.2.2.2.2.2, q⟩)
    have hbb : b.length ≤ 3000 := HL.out
    have hcn : cc.length ≤ 1000000 := by have := HCL.out; have := HN.out; omega
    have CO := Lib.hid (show ∀ W, Below wr.heap.size wr W → Calls Tryz.prog 35 #[.pointer (some ⟨gm, 0, none⟩), .agg #[.int .i64 (x.list : Int), .int .u32 (x.at_ : Int), .string ⟨x.h.name.toArray⟩, .int .i64 (x.h.fl : Int), .int .u32 (x.h.link : Int), .int .u32 (x.h.xt : Int), .int .u32 (x.h.size : Int)]] W fun e w' => ∃ v', e = .returned v' ∧ RdB w' v' (Dc.rcode cc x.h.xt x.h.size) ∧ Below W.heap.size W w' from fun W hW => by
     rw [← Dc.code_same]
     exact dcode_any W gm gb cc [] x.list x.h.fl ⟨x.h.name.toArray⟩ x.at_ x.h.link x.h.xt x.h.size z1 z2 ((HM.out.kept hb3r).kept hW))
    have CF := Lib.hid (show ∀ W, Below wr.heap.size wr W → Calls Tryz.prog 36 #[.slice A2 n c2, .agg #[.int .i64 (x.list : Int), .int .u32 (x.at_ : Int), .string ⟨x.h.name.toArray⟩, .int .i64 (x.h.fl : Int), .int .u32 (x.h.link : Int), .int .u32 (x.h.xt : Int), .int .u32 (x.h.size : Int)]] W fun e w' => ∃ v', e = .returned v' ∧ RdB w' v' (Dc.rcode cc x.h.xt x.h.size) ∧ Below W.heap.size W w' from fun W hW =>
     rcode11 W _ cc x.list x.h.fl ⟨x.h.name.toArray⟩ x.at_ x.h.link x.h.xt x.h.size z1 z2 ((HV2.out.below hb3r).below hW) hcn)
    generalize Dc.rcode cc x.h.xt x.h.size = cd at *
    have HK := Lib.hid hlt
    have wk := Dc.k_next hlt HBO.out.most
    clear h1 h2 hmem z1 z2 hx hbr hb3r hb5r hk hbb hcn hlt CK CR CS
    go_wp2_with fail
    refine wp_region_held_drew (S := fun W' => W'.cell? ⟨g1, o1 + k * 7, none⟩ = some (.int .i64 (x.list : Int)) ∧ W'.cell? ⟨g1, o1 + k * 7 + 1, none⟩ = some (.int .u32 (x.at_ : Int)) ∧ W'.cell? ⟨g1, o1 + k * 7 + 2, none⟩ = some (.string ⟨x.h.name.toArray⟩) ∧ W'.cell? ⟨g1, o1 + k * 7 + 3, none⟩ = some (.int .i64 (x.h.fl : Int)) ∧ W'.cell? ⟨g1, o1 + k * 7 + 4, none⟩ = some (.int .u32 (x.h.link : Int)) ∧ W'.cell? ⟨g1, o1 + k * 7 + 5, none⟩ = some (.int .u32 (x.h.xt : Int)) ∧ W'.cell? ⟨g1, o1 + k * 7 + 6, none⟩ = some (.int .u32 (x.h.size : Int)) ∧ W'.cell? ⟨g2, o2 + k * 7, none⟩ = some (.int .i64 (x.list : Int)) ∧ W'.cell? ⟨g2, o2 + k * 7 + 1, none⟩ = some (.int .u32 (x.at_ : Int)) ∧ W'.cell? ⟨g2, o2 + k * 7 + 2, none⟩ = some (.string ⟨x.h.name.toArray⟩) ∧ W'.cell? ⟨g2, o2 + k * 7 + 3, none⟩ = some (.int .i64 (x.h.fl : Int)) ∧ W'.cell? ⟨g2, o2 + k * 7 + 4, none⟩ = some (.int .u32 (x.h.link : Int)) ∧ W'.cell? ⟨g2, o2 + k * 7 + 5, none⟩ = some (.int .u32 (x.h.xt : Int)) ∧ W'.cell? ⟨g2, o2 + k * 7 + 6, none⟩ = some (.int .u32 (x.h.size : Int))) (by kernel_rfl) (HS.out _ (Below.refl _ _).drew) (fun hHeld => ?_)
    refine wpAnyH_take (i := 0) (v := ?_) rfl (by kernel_rfl) (by kernel_rfl) (by kernel_rfl) (fun _ _ _ h => h) (Or.inl ⟨by rfl, ?_⟩) (by assumption) ?_
    rotate_left
    ·(intro w hSw; (try dsimp only at hSw); simp only [List.getElem_toArray, List.getElem_cons_zero, List.getElem_cons_succ]; go_simp; (try with_reducible rfl))
    try simp only [Act.put, List.getElem_toArray, List.getElem_cons_zero, List.getElem_cons_succ, List.setIfInBounds_toArray, List.set_cons_zero, List.set_cons_succ]
    refine wpAnyH_take (i := 1) (v := ?_) rfl (by kernel_rfl) (by kernel_rfl) (by kernel_rfl) (fun _ _ _ h => h) (Or.inl ⟨by rfl, ?_⟩) (by assumption) ?_
    rotate_left
    ·(intro w hSw; (try dsimp only at hSw); simp only [List.getElem_toArray, List.getElem_cons_zero, List.getElem_cons_succ]; go_simp; (try with_reducible rfl))
    try simp only [Act.put, List.getElem_toArray, List.getElem_cons_zero, List.getElem_cons_succ, List.setIfInBounds_toArray, List.set_cons_zero, List.set_cons_succ]
    refine wpAnyH_take (i := 2) (v := ?_) rfl (by kernel_rfl) (by kernel_rfl) (by kernel_rfl) (fun _ _ _ h => h) (Or.inl ⟨by rfl, ?_⟩) (by assumption) ?_
    rotate_left
    ·(intro w hSw; (try dsimp only at hSw); simp only [List.getElem_toArray, List.getElem_cons_zero, List.getElem_cons_succ]; go_simp; (try with_reducible rfl))
    try simp only [Act.put, List.getElem_toArray, List.getElem_cons_zero, List.getElem_cons_succ, List.setIfInBounds_toArray, List.set_cons_zero, List.set_cons_succ]
    refine wpAnyH_take (i := 3) (v := ?_) rfl (by kernel_rfl) (by kernel_rfl) (by kernel_rfl) (fun _ _ _ h => h) (Or.inl ⟨by rfl, ?_⟩) (by assumption) ?_
    rotate_left
    ·(intro w hSw; (try dsimp only at hSw); simp only [List.getElem_toArray, List.getElem_cons_zero, List.getElem_cons_succ]; go_simp; (try with_reducible rfl))
    try simp only [Act.put, List.getElem_toArray, List.getElem_cons_zero, List.getElem_cons_succ, List.setIfInBounds_toArray, List.set_cons_zero, List.set_cons_succ]
    refine wpAnyH_take (i := 4) (v := ?_) rfl (by kernel_rfl) (by kernel_rfl) (by kernel_rfl) (fun _ _ _ h => h) (Or.inl ⟨by rfl, ?_⟩) (by assumption) ?_
    rotate_left
    ·(intro w hSw; (try dsimp only at hSw); simp only [List.getElem_toArray, List.getElem_cons_zero, List.getElem_cons_succ]; go_simp; (try with_reducible rfl))
    try simp only [Act.put, List.getElem_toArray, List.getElem_cons_zero, List.getElem_cons_succ, List.setIfInBounds_toArray, List.set_cons_zero, List.set_cons_succ]
    refine wpAnyH_take (i := 7) (v := ?_) rfl (by kernel_rfl) (by kernel_rfl) (by kernel_rfl) (fun _ _ _ h => h) (Or.inl ⟨by rfl, ?_⟩) (by assumption) ?_
    rotate_left
    ·(intro w hSw; (try dsimp only at hSw); simp only [List.getElem_toArray, List.getElem_cons_zero, List.getElem_cons_succ]; go_simp; (try with_reducible rfl))
    try simp only [Act.put, List.getElem_toArray, List.getElem_cons_zero, List.getElem_cons_succ, List.setIfInBounds_toArray, List.set_cons_zero, List.set_cons_succ]
    refine wpAnyH_take (i := 8) (v := ?_) rfl (by kernel_rfl) (by kernel_rfl) (by kernel_rfl) (fun _ _ _ h => h) (Or.inl ⟨by rfl, ?_⟩) (by assumption) ?_
    rotate_left
    ·(intro w hSw; (try dsimp only at hSw); simp only [List.getElem_toArray, List.getElem_cons_zero, List.getElem_cons_succ]; go_simp; (try with_reducible rfl))
    try simp only [Act.put, List.getElem_toArray, List.getElem_cons_zero, List.getElem_cons_succ, List.setIfInBounds_toArray, List.set_cons_zero, List.set_cons_succ]
    refine wpAnyH_take (i := 9) (v := ?_) rfl (by kernel_rfl) (by kernel_rfl) (by kernel_rfl) (fun _ _ _ h => h) (Or.inl ⟨by rfl, ?_⟩) (by assumption) ?_
    rotate_left
    ·(intro w hSw; (try dsimp only at hSw); simp only [List.getElem_toArray, List.getElem_cons_zero, List.getElem_cons_succ]; go_simp; (try with_reducible rfl))
    try simp only [Act.put, List.getElem_toArray, List.getElem_cons_zero, List.getElem_cons_succ, List.setIfInBounds_toArray, List.set_cons_zero, List.set_cons_succ]
    refine wpAnyH_take (i := 10) (v := ?_) rfl (by kernel_rfl) (by kernel_rfl) (by kernel_rfl) (fun _ _ _ h => h) (Or.inl ⟨by rfl, ?_⟩) (by assumption) ?_
    rotate_left
    ·(intro w hSw; (try dsimp only at hSw); simp only [List.getElem_toArray, List.getElem_cons_zero, List.getElem_cons_succ]; go_simp; (try with_reducible rfl))
    try simp only [Act.put, List.getElem_toArray, List.getElem_cons_zero, List.getElem_cons_succ, List.setIfInBounds_toArray, List.set_cons_zero, List.set_cons_succ]
    refine wpAnyH_take (i := 11) (v := ?_) rfl (by kernel_rfl) (by kernel_rfl) (by kernel_rfl) (fun _ _ _ h => h) (Or.inl ⟨by rfl, ?_⟩) (by assumption) ?_
    rotate_left
    ·(intro w hSw; (try dsimp only at hSw); simp only [List.getElem_toArray, List.getElem_cons_zero, List.getElem_cons_succ]; go_simp; (try with_reducible rfl))
    try simp only [Act.put, List.getElem_toArray, List.getElem_cons_zero, List.getElem_cons_succ, List.setIfInBounds_toArray, List.set_cons_zero, List.set_cons_succ]
    refine wpAnyH_ready (rs := [5]) (by kernel_rfl) (by simp) ?_
    refine AllReadyH.cons rfl (fun K hK => ?_) AllReadyH.nil
    simp only [List.getElem_toArray, List.getElem_cons_zero, List.getElem_cons_succ]
    rw [if_pos (by rfl)]
    go_simp
    go_at_call 35
    refine (CO.out _ ((Below.refl wr.heap.size wr).drew)).mono ?_
    rintro e wo ⟨vo, rfl, hro, hbo⟩
    have HRo := Lib.hid hro
    have HBo := Lib.hid (Below.trans ((Below.refl wr.heap.size wr).drew) (hbo.mono (Below.size ((Below.refl wr.heap.size wr).drew))))
    have HLo := Lib.hid hbo
    clear hro hbo
    go_simp
    refine hK.out _ _ (HS.out _ (HBo.out)) (fun hHeld => ?_)
    clear hK K
    try simp only [Act.put, List.getElem_toArray, List.getElem_cons_zero, List.getElem_cons_succ, List.setIfInBounds_toArray, List.set_cons_zero, List.set_cons_succ]
    refine wpAnyH_ready (rs := [6, 12]) (by kernel_rfl) (by simp) ?_
    refine AllReadyH.cons rfl (fun K hK => ?_) (AllReadyH.cons rfl (fun K hK => ?_) AllReadyH.nil)
    ·simp only [List.getElem_toArray, List.getElem_cons_zero, List.getElem_cons_succ]
     rw [if_pos (by rfl)]
     go_simp
     have qo := run_string_of bt Tryz.underlying9 (first_of (w' := wo) HRo.out (Below.refl _ _))
     go_simp
     refine hK.out _ _ (HS.out _ (HBo.out)) (fun hHeld => ?_)
     clear hK K
     try simp only [Act.put, List.getElem_toArray, List.getElem_cons_zero, List.getElem_cons_succ, List.setIfInBounds_toArray, List.set_cons_zero, List.set_cons_succ]
     refine wpAnyH_ready (rs := [12]) (by kernel_rfl) (by simp) ?_
     refine AllReadyH.cons rfl (fun K hK => ?_) AllReadyH.nil
     simp only [List.getElem_toArray, List.getElem_cons_zero, List.getElem_cons_succ]
     rw [if_pos (by rfl)]
     go_simp
     go_at_call 36
     refine (CF.out _ (HBo.out)).mono ?_
     rintro e wf ⟨vf, rfl, hrf, hbf⟩
     have HRf := Lib.hid hrf
     have HBf := Lib.hid (Below.trans (HBo.out) (hbf.mono (Below.size (HBo.out))))
     have HLf := Lib.hid hbf
     clear hrf hbf
     go_simp
     refine hK.out _ _ (HS.out _ (HBf.out)) (fun hHeld => ?_)
     clear hK K
     try simp only [Act.put, List.getElem_toArray, List.getElem_cons_zero, List.getElem_cons_succ, List.setIfInBounds_toArray, List.set_cons_zero, List.set_cons_succ]
     refine wpAnyH_ready (rs := [13]) (by kernel_rfl) (by simp) ?_
     refine AllReadyH.cons rfl (fun K hK => ?_) AllReadyH.nil
     simp only [List.getElem_toArray, List.getElem_cons_zero, List.getElem_cons_succ]
     rw [if_pos (by rfl)]
     go_simp
     have qf := run_string_of bt Tryz.underlying9 (first_of (w' := wf) HRf.out (Below.refl _ _))
     go_simp
     refine hK.out _ _ (HS.out _ (HBf.out)) (fun hHeld => ?_)
     clear hK K
     try simp only [Act.put, List.getElem_toArray, List.getElem_cons_zero, List.getElem_cons_succ, List.setIfInBounds_toArray, List.set_cons_zero, List.set_cons_succ]
     refine wpAnyH_take (i := 14) (v := ?_) rfl (by kernel_rfl) (by kernel_rfl) (by kernel_rfl) (fun _ _ _ h => h) (Or.inl ⟨by rfl, ?_⟩) (by assumption) ?_
     rotate_left
     ·(intro w hSw; (try dsimp only at hSw); simp only [List.getElem_toArray, List.getElem_cons_zero, List.getElem_cons_succ]; go_simp; (try with_reducible rfl))
     try simp only [Act.put, List.getElem_toArray, List.getElem_cons_zero, List.getElem_cons_succ, List.setIfInBounds_toArray, List.set_cons_zero, List.set_cons_succ]
     refine wpAnyH_done (by kernel_rfl) ?_ _
     have HB9 := Lib.hid (HBR.out.trans (Below.mono (HBf.out) HBR.out.size))
     go_wp2_with fail
     go_roundw
     case rel => exact ⟨k + 1, by have := HK.out; omega, by push_cast; rfl, HB9.out⟩
     case measure =>
      have := HK.out
      simp only [intOf]
      omega
    ·simp only [List.getElem_toArray, List.getElem_cons_zero, List.getElem_cons_succ]
     rw [if_pos (by rfl)]
     go_simp
     go_at_call 36
     refine (CF.out _ (HBo.out)).mono ?_
     rintro e wf ⟨vf, rfl, hrf, hbf⟩
     have HRf := Lib.hid hrf
     have HBf := Lib.hid (Below.trans (HBo.out) (hbf.mono (Below.size (HBo.out))))
     have HLf := Lib.hid hbf
     clear hrf hbf
     go_simp
     refine hK.out _ _ (HS.out _ (HBf.out)) (fun hHeld => ?_)
     clear hK K
     try simp only [Act.put, List.getElem_toArray, List.getElem_cons_zero, List.getElem_cons_succ, List.setIfInBounds_toArray, List.set_cons_zero, List.set_cons_succ]
     refine wpAnyH_ready (rs := [6, 13]) (by kernel_rfl) (by simp) ?_
     refine AllReadyH.cons rfl (fun K hK => ?_) (AllReadyH.cons rfl (fun K hK => ?_) AllReadyH.nil)
     ·simp only [List.getElem_toArray, List.getElem_cons_zero, List.getElem_cons_succ]
      rw [if_pos (by rfl)]
      go_simp
      have qo := run_string_of bt Tryz.underlying9 (first_of (w' := wf) HRo.out (HLf.out))
      go_simp
      refine hK.out _ _ (HS.out _ (HBf.out)) (fun hHeld => ?_)
      clear hK K
      try simp only [Act.put, List.getElem_toArray, List.getElem_cons_zero, List.getElem_cons_succ, List.setIfInBounds_toArray, List.set_cons_zero, List.set_cons_succ]
      refine wpAnyH_ready (rs := [13]) (by kernel_rfl) (by simp) ?_
      refine AllReadyH.cons rfl (fun K hK => ?_) AllReadyH.nil
      simp only [List.getElem_toArray, List.getElem_cons_zero, List.getElem_cons_succ]
      rw [if_pos (by rfl)]
      go_simp
      have qf := run_string_of bt Tryz.underlying9 (first_of (w' := wf) HRf.out (Below.refl _ _))
      go_simp
      refine hK.out _ _ (HS.out _ (HBf.out)) (fun hHeld => ?_)
      clear hK K
      try simp only [Act.put, List.getElem_toArray, List.getElem_cons_zero, List.getElem_cons_succ, List.setIfInBounds_toArray, List.set_cons_zero, List.set_cons_succ]
      refine wpAnyH_take (i := 14) (v := ?_) rfl (by kernel_rfl) (by kernel_rfl) (by kernel_rfl) (fun _ _ _ h => h) (Or.inl ⟨by rfl, ?_⟩) (by assumption) ?_
      rotate_left
      ·(intro w hSw; (try dsimp only at hSw); simp only [List.getElem_toArray, List.getElem_cons_zero, List.getElem_cons_succ]; go_simp; (try with_reducible rfl))
      try simp only [Act.put, List.getElem_toArray, List.getElem_cons_zero, List.getElem_cons_succ, List.setIfInBounds_toArray, List.set_cons_zero, List.set_cons_succ]
      refine wpAnyH_done (by kernel_rfl) ?_ _
      have HB9 := Lib.hid (HBR.out.trans (Below.mono (HBf.out) HBR.out.size))
      go_wp2_with fail
      go_roundw
      case rel => exact ⟨k + 1, by have := HK.out; omega, by push_cast; rfl, HB9.out⟩
      case measure =>
       have := HK.out
       simp only [intOf]
       omega
     ·simp only [List.getElem_toArray, List.getElem_cons_zero, List.getElem_cons_succ]
      rw [if_pos (by rfl)]
      go_simp
      have qf := run_string_of bt Tryz.underlying9 (first_of (w' := wf) HRf.out (Below.refl _ _))
      go_simp
      refine hK.out _ _ (HS.out _ (HBf.out)) (fun hHeld => ?_)
      clear hK K
      try simp only [Act.put, List.getElem_toArray, List.getElem_cons_zero, List.getElem_cons_succ, List.setIfInBounds_toArray, List.set_cons_zero, List.set_cons_succ]
      refine wpAnyH_ready (rs := [6]) (by kernel_rfl) (by simp) ?_
      refine AllReadyH.cons rfl (fun K hK => ?_) AllReadyH.nil
      simp only [List.getElem_toArray, List.getElem_cons_zero, List.getElem_cons_succ]
      rw [if_pos (by rfl)]
      go_simp
      have qo := run_string_of bt Tryz.underlying9 (first_of (w' := wf) HRo.out (HLf.out))
      go_simp
      refine hK.out _ _ (HS.out _ (HBf.out)) (fun hHeld => ?_)
      clear hK K
      try simp only [Act.put, List.getElem_toArray, List.getElem_cons_zero, List.getElem_cons_succ, List.setIfInBounds_toArray, List.set_cons_zero, List.set_cons_succ]
      refine wpAnyH_take (i := 14) (v := ?_) rfl (by kernel_rfl) (by kernel_rfl) (by kernel_rfl) (fun _ _ _ h => h) (Or.inl ⟨by rfl, ?_⟩) (by assumption) ?_
      rotate_left
      ·(intro w hSw; (try dsimp only at hSw); simp only [List.getElem_toArray, List.getElem_cons_zero, List.getElem_cons_succ]; go_simp; (try with_reducible rfl))
      try simp only [Act.put, List.getElem_toArray, List.getElem_cons_zero, List.getElem_cons_succ, List.setIfInBounds_toArray, List.set_cons_zero, List.set_cons_succ]
      refine wpAnyH_done (by kernel_rfl) ?_ _
      have HB9 := Lib.hid (HBR.out.trans (Below.mono (HBf.out) HBR.out.size))
      go_wp2_with fail
      go_roundw
      case rel => exact ⟨k + 1, by have := HK.out; omega, by push_cast; rfl, HB9.out⟩
      case measure =>
       have := HK.out
       simp only [intOf]
       omega
   ·have hlt' : ¬ (k : Int) < (L.length : Int) := by omega
    have hmr := HM.out.kept hb3r
    have hvr := HV2.out.below hb3r
    have HS2 := Lib.hid (show ∀ W', Below wr.heap.size wr W' → (convert 26 9 (.slice A2 n c2)).run Tryz.prog W' = .ok (.string ⟨cc.toArray⟩) W' from fun W' hW' => run_string_of bt Tryz.underlying9 (hvr.below hW'))
    have CB := Lib.hid (show ∀ W, Below wr.heap.size wr W → Calls Tryz.prog 37 #[.pointer (some ⟨gm, 0, none⟩), .int .u32 0, .int .i64 (n : Int)] W fun e w' => ∃ v', e = .returned v' ∧ RdB w' v' cc ∧ Below W.heap.size W w' from fun W hW => by
     have h := bytes_own W gm gb cc [] 0 (n : Int) (by decide) (hmr.kept hW)
     rw [show Mm.bytesL cc 0 (n : Int) = cc from by
      unfold Mm.bytesL Mm.get
      have := HCL.out
      rw [if_pos (by omega), List.drop_zero, List.take_of_length_le (by omega)]] at h
     exact h.mono fun e w' ⟨v', k1, k2, k3⟩ => ⟨v', k1, k2.rd, k3⟩)
    have HBW := Lib.hid (HB3.out.trans (hb3r.mono HB3.out.size))
    clear hmr hvr hb3r hb5r hbr hk hlt CR CS
    go_wp2_with fail
    refine wp_region_held_drew (S := fun W' => (convert 26 9 (.slice A2 n c2)).run Tryz.prog W' = .ok (.string ⟨cc.toArray⟩) W') (by kernel_rfl) (HS2.out _ (Below.refl _ _).drew) (fun hHeld => ?_)
    refine wpAnyH_take (i := 0) (v := ?_) rfl (by kernel_rfl) (by kernel_rfl) (by kernel_rfl) (fun _ _ _ h => h) (Or.inl ⟨by rfl, ?_⟩) (by assumption) ?_
    rotate_left
    ·(intro w hSw; (try dsimp only at hSw); simp only [List.getElem_toArray, List.getElem_cons_zero, List.getElem_cons_succ]; go_simp; (try with_reducible rfl))
    try simp only [Act.put, List.getElem_toArray, List.getElem_cons_zero, List.getElem_cons_succ, List.setIfInBounds_toArray, List.set_cons_zero, List.set_cons_succ]
    refine wpAnyH_take (i := 1) (v := ?_) rfl (by kernel_rfl) (by kernel_rfl) (by kernel_rfl) (fun _ _ _ h => h) (Or.inl ⟨by rfl, ?_⟩) (by assumption) ?_
    rotate_left
    ·(intro w hSw; (try dsimp only at hSw); simp only [List.getElem_toArray, List.getElem_cons_zero, List.getElem_cons_succ]; go_simp; (try with_reducible rfl))
    try simp only [Act.put, List.getElem_toArray, List.getElem_cons_zero, List.getElem_cons_succ, List.setIfInBounds_toArray, List.set_cons_zero, List.set_cons_succ]
    refine wpAnyH_take (i := 4) (v := ?_) rfl (by kernel_rfl) (by kernel_rfl) (by kernel_rfl) (fun _ _ _ h => h) (Or.inl ⟨by rfl, ?_⟩) (by assumption) ?_
    rotate_left
    ·(intro w hSw; (try dsimp only at hSw); simp only [List.getElem_toArray, List.getElem_cons_zero, List.getElem_cons_succ]; go_simp; (try with_reducible rfl))
    try simp only [Act.put, List.getElem_toArray, List.getElem_cons_zero, List.getElem_cons_succ, List.setIfInBounds_toArray, List.set_cons_zero, List.set_cons_succ]
    refine wpAnyH_take (i := 5) (v := ?_) rfl (by kernel_rfl) (by kernel_rfl) (by kernel_rfl) (fun _ _ _ h => h) (Or.inl ⟨by rfl, ?_⟩) (by assumption) ?_
    rotate_left
    ·(intro w hSw; (try dsimp only at hSw); simp only [List.getElem_toArray, List.getElem_cons_zero, List.getElem_cons_succ]; go_simp; (try with_reducible rfl))
    try simp only [Act.put, List.getElem_toArray, List.getElem_cons_zero, List.getElem_cons_succ, List.setIfInBounds_toArray, List.set_cons_zero, List.set_cons_succ]
    refine wpAnyH_ready (rs := [2]) (by kernel_rfl) (by simp) ?_
    refine AllReadyH.cons rfl (fun K hK => ?_) AllReadyH.nil
    simp only [List.getElem_toArray, List.getElem_cons_zero, List.getElem_cons_succ]
    rw [if_pos (by rfl)]
    go_simp
    go_at_call 37
    refine (CB.out _ (Below.refl _ _).drew).mono ?_
    rintro e wy ⟨vy, rfl, hry, hby0⟩
    have hby : Below wr.heap.size wr wy := (Below.refl _ _).drew.trans hby0
    have HRY := Lib.hid hry
    clear hry hby0
    go_simp
    refine hK.out _ _ (HS2.out _ hby) (fun hHeld => ?_)
    clear hK K
    try simp only [Act.put, List.getElem_toArray, List.getElem_cons_zero, List.getElem_cons_succ, List.setIfInBounds_toArray, List.set_cons_zero, List.set_cons_succ]
    refine wpAnyH_ready (rs := [3]) (by kernel_rfl) (by simp) ?_
    refine AllReadyH.cons rfl (fun K hK => ?_) AllReadyH.nil
    simp only [List.getElem_toArray, List.getElem_cons_zero, List.getElem_cons_succ]
    rw [if_pos (by rfl)]
    go_simp
    have qy := run_string_of bt Tryz.underlying9 HRY.out
    go_simp
    refine hK.out _ _ (HS2.out _ hby) (fun hHeld => ?_)
    clear hK K
    try simp only [Act.put, List.getElem_toArray, List.getElem_cons_zero, List.getElem_cons_succ, List.setIfInBounds_toArray, List.set_cons_zero, List.set_cons_succ]
    refine wpAnyH_take (i := 6) (v := ?_) rfl (by kernel_rfl) (by kernel_rfl) (by kernel_rfl) (fun _ _ _ h => h) (Or.inl ⟨by rfl, ?_⟩) (by assumption) ?_
    rotate_left
    ·(intro w hSw; (try dsimp only at hSw); simp only [List.getElem_toArray, List.getElem_cons_zero, List.getElem_cons_succ]; go_simp; (try with_reducible rfl))
    try simp only [Act.put, List.getElem_toArray, List.getElem_cons_zero, List.getElem_cons_succ, List.setIfInBounds_toArray, List.set_cons_zero, List.set_cons_succ]
    refine wpAnyH_take (i := 7) (v := ?_) rfl (by kernel_rfl) (by kernel_rfl) (by kernel_rfl) (fun _ _ _ h => h) (Or.inl ⟨by rfl, ?_⟩) (by assumption) ?_
    rotate_left
    ·(intro w hSw; (try dsimp only at hSw); simp only [List.getElem_toArray, List.getElem_cons_zero, List.getElem_cons_succ]; go_simp; (try with_reducible rfl))
    try simp only [Act.put, List.getElem_toArray, List.getElem_cons_zero, List.getElem_cons_succ, List.setIfInBounds_toArray, List.set_cons_zero, List.set_cons_succ]
    refine wpAnyH_ready (rs := [8]) (by kernel_rfl) (by simp) ?_
    refine AllReadyH.cons rfl (fun K hK => ?_) AllReadyH.nil
    simp only [List.getElem_toArray, List.getElem_cons_zero, List.getElem_cons_succ]
    rw [if_pos (by rfl)]
    go_simp
    go_at_call 29
    refine (CK.out _ (HBW.out.trans (hby.mono HBW.out.size))).mono ?_
    rintro e wz ⟨rfl, hbz⟩
    go_simp
    refine hK.out _ _ (HS2.out _ (hby.trans (hbz.mono hby.size))) (fun hHeld => ?_)
    clear hK K
    try simp only [Act.put, List.getElem_toArray, List.getElem_cons_zero, List.getElem_cons_succ, List.setIfInBounds_toArray, List.set_cons_zero, List.set_cons_succ]
    refine wpAnyH_take (i := 9) (v := ?_) rfl (by kernel_rfl) (by kernel_rfl) (by kernel_rfl) (fun _ _ _ h => h) (Or.inl ⟨by rfl, ?_⟩) (by assumption) ?_
    rotate_left
    ·(intro w hSw; (try dsimp only at hSw); simp only [List.getElem_toArray, List.getElem_cons_zero, List.getElem_cons_succ]; go_simp; (try with_reducible rfl))
    try simp only [Act.put, List.getElem_toArray, List.getElem_cons_zero, List.getElem_cons_succ, List.setIfInBounds_toArray, List.set_cons_zero, List.set_cons_succ]
    refine wpAnyH_take (i := 10) (v := ?_) rfl (by kernel_rfl) (by kernel_rfl) (by kernel_rfl) (fun _ _ _ h => h) (Or.inl ⟨by rfl, ?_⟩) (by assumption) ?_
    rotate_left
    ·(intro w hSw; (try dsimp only at hSw); simp only [List.getElem_toArray, List.getElem_cons_zero, List.getElem_cons_succ]; go_simp; (try with_reducible rfl))
    try simp only [Act.put, List.getElem_toArray, List.getElem_cons_zero, List.getElem_cons_succ, List.setIfInBounds_toArray, List.set_cons_zero, List.set_cons_succ]
    refine wpAnyH_done (by kernel_rfl) ?_ _
    go_wp2_with fail
    go_ret
    exact ⟨rfl, HBW.out.trans ((hby.trans (hbz.mono hby.size)).mono HBW.out.size)⟩
end Go.Proofs.YtpcpaoeajcjoiaaGreatDoor
namespace Go.Proofs.YtpcpaoeajcjoiaaGreatDoor
open Go.RowKit Kit
theorem walk_dictReads (v : Value) (b : List UInt8) (heads more : Int) (w : World) (f : RdB w v b ∧ b.length ≤ maxLen) (g : 0 ≤ heads ∧ heads ≤ 4294967295) (h : -9223372036854775808 ≤ more ∧ more ≤ 9223372036854775807) (hL : laidMetH Tryz.prog Rows.dictReadsRow.laid w) :
  Calls Tryz.prog 6 #[v, .int .u32 heads, .int .i64 more] w fun e w' => e = .returned (.bool true) ∧ Below w.heap.size w w' := by
 obtain ⟨m, rfl⟩ := Int.eq_ofNat_of_zero_le g.1
 exact core_dictReads v b m more w f.1 f.2 (by omega) (L6.tab_of hL)
end Go.Proofs.YtpcpaoeajcjoiaaGreatDoor
