/- The walk of do: Put; do whole. -/
import Derived.Test.YtijekhdndegdaaaMmDo2
namespace Go.Proofs.Ytijekhdndegdaaa
open Go.RowKit Kit
set_option linter.unusedVariables false
set_option linter.unusedSimpArgs false

theorem OwnB.but {e : TypeId} {base k : Nat} {w w' : World} {v : Value} {l : List UInt8} (h : OwnB e base w v l) (hb : But k w w') (hk : k < base) : OwnB e base w' v l := by
  refine ⟨h.1, ?_⟩
  rcases h.2 with he | ⟨g', cap', cur, e1, hg, hh, hr⟩
  · exact .inl he
  · exact .inr ⟨g', cap', cur, e1, hg, But.bk (t := e) hb hh (by omega), hr⟩

theorem RefM.off_new3 {w : World} {gm gb g : Nat} {b : List UInt8} {hs : List (Nat × Nat)} (h : RefM w gm gb b hs) (hg : w.heap.size ≤ g) : OffM w 65 gm g := by
  intro x hv hb
  obtain ⟨hv', cap, k1, _, _, k4, _⟩ := h.obj
  have := (hb.uniq k1).2
  simp at this
  rw [this.2]
  exact Rd.off k4 hg
theorem OwnM.off_new3 {w : World} {gm gb g : Nat} {b : List UInt8} {hs : List (Nat × Nat)} (h : OwnM w gm gb b hs) (hg : w.heap.size ≤ g) : OffM w 68 gm g := by
  intro x hv hb
  obtain ⟨hv', cap, k1, _, _, k4, _⟩ := h.obj
  have := (hb.uniq k1).2
  simp at this
  rw [this.2]
  exact Rd.off k4 hg
theorem PairM.but3 {w0 w w' : World} {base gm gb gr gc g : Nat} {b0 b : List UInt8} {hs : List (Nat × Nat)} (h : PairM w base gm gb gr gc b hs) (h0 : PairM w0 base gm gb gr gc b0 hs) (hg : w0.heap.size ≤ g) (em : w.heap[gm]? = w0.heap[gm]?) (er : w.heap[gr]? = w0.heap[gr]?) (hb : But g w w') : PairM w' base gm gb gr gc b hs := by
  obtain ⟨_, _, ka, kb⟩ := h0.a.ob2
  obtain ⟨_, _, kc, kd⟩ := h0.r.ob
  obtain ⟨_, _, _, kb'⟩ := h.a.ob2
  obtain ⟨_, _, _, kd'⟩ := h.r.ob
  have l1 := ka.lt
  have l2 := kb.lt
  have l3 := kc.lt
  have l4 := kd.lt
  exact ⟨h.a.but hb (by omega) (by omega) ((h0.a.off_new3 hg).same em), h.r.but hb (by omega) (by omega) ((h0.r.off_new3 hg).same er), h.ne, h.offa.same (hb.block kb'.lt (by omega)), h.offr.same (hb.block kd'.lt (by omega)), h.lb, h.lc⟩

set_option maxRecDepth 20000 in
set_option maxHeartbeats 2000000 in
theorem do_put (kind n : Int) (a v : Nat) (A : Option Addr) (l : List UInt8) (c : Nat) (hk : kind = 3) (ha : a < 4294967296) (w0 w : World) (gm gb gr gc : Nat) (b : List UInt8) (hs : List (Nat × Nat)) (hp : PairM w w0.heap.size gm gb gr gc b hs) (hB : Below w0.heap.size w0 w)
    (hl : RdB w0 (.slice A l.length c) l) (hl400 : l.length ≤ 400) :
    Calls Try.prog 48 #[.pointer (some ⟨gm, 0, none⟩), .pointer (some ⟨gr, 0, none⟩), .agg #[.int .i64 kind, .int .i64 n, .int .u32 a, .int .u32 v, .slice A l.length c]] w (Mm.DoPost w0.heap.size gm gb gr gc hs b w) := by
  have hBs := hB.size
  have HB0 := Lib.hid ((Below.refl w.heap.size w).alloc (Nat.le_refl _) (.cells #[.int .i64 kind, .int .i64 n, .int .u32 a, .int .u32 v, .slice A l.length c] 61))
  have HB0' := Lib.hid (hB.trans (HB0.out.mono hBs))
  have HP1 := Lib.hid (hp.kept HB0.out)
  have hg0 : (kind == 0) = false := by simp; omega
  have hg1 : (kind == 1) = false := by simp; omega
  have hg2 : (kind == 2) = false := by simp; omega
  have hg : (kind == 3) = true := by simpa using hk
  have lgb : gb < w.heap.size := by obtain ⟨_, _, ka, _⟩ := hp.a.ob2; exact ka.lt
  have lgc : gc < w.heap.size := by obtain ⟨_, _, ka, _⟩ := hp.r.ob; exact ka.lt
  have HLb := Lib.hid hp.lb
  have HLBx := Lib.hid lgb
  have HLCx := Lib.hid lgc
  have HLc := Lib.hid hp.lc
  have HLR := Lib.hid (show ∀ W, Below w0.heap.size w0 W → RdB W (.slice A l.length c) l from fun W hb => hl.below hb)
  have HA := Lib.hid (show ∀ g off c', Value.slice A l.length c = .slice (some ⟨g, off, none⟩) l.length c' → 0 < l.length → g < w0.heap.size from fun g off c' e h0 => by
    rcases hl with ⟨_, _, _, rfl⟩ | ⟨g', off', cap', e', hg', _, _, _⟩
    · simp at h0
    · rw [e'] at e
      simp at e
      omega)
  have HL4 := Lib.hid hl400
  have HBK := Lib.hid (Bk.fresh w 61 #[.int .i64 kind, .int .i64 n, .int .u32 a, .int .u32 v, .slice A l.length c])
  clear hp hk hl
  generalize hll : l.length = ll at *
  have HLL := Lib.hid hll
  clear hll
  have hlli : (ll : Int) ≤ 400 := by omega
  go_enter Try.func48, Try.ntmps48
  have HOWN := Lib.hid (show OwnB 5 (w.heap.size + 1) ((w.alloc (.cells #[.int .i64 kind, .int .i64 n, .int .u32 a, .int .u32 v, .slice A ll c] 61)).alloc (.cells #[] 5)) (.slice (some ⟨w.heap.size + 1, 0, none⟩) 0 0) [] from by
    have := OwnB.built (w.alloc (.cells #[.int .i64 kind, .int .i64 n, .int .u32 a, .int .u32 v, .slice A ll c] 61)) 5 #[] [] rfl (Nat.zero_le _) (Nat.le_refl _)
    simpa only [World.size_alloc, List.length_nil] using this)
  have HSR := Lib.hid (src_of_rd mbt (HLR.out ((w.alloc (.cells #[.int .i64 kind, .int .i64 n, .int .u32 a, .int .u32 v, .slice A ll c] 61)).alloc (.cells #[] 5)) (HB0'.out.alloc (by simp; omega) _)))
  have HLM := Lib.hid (show ([] : List UInt8).length + l.length ≤ 140737488355328 by have := HLL.out; simp; omega)
  have HB1 := Lib.hid (show Below (w.heap.size + 1) (w.alloc (.cells #[.int .i64 kind, .int .i64 n, .int .u32 a, .int .u32 v, .slice A ll c] 61)) ((w.alloc (.cells #[.int .i64 kind, .int .i64 n, .int .u32 a, .int .u32 v, .slice A ll c] 61)).alloc (.cells #[] 5)) from (Below.refl _ _).alloc (by simp) _)
  go_upto_region 18 with (at_builtin; refine wpList_appendB rfl _ _ _ _ rfl mbt (w.heap.size + 1) _ rfl [] HOWN.out _ rfl l HSR.out HLM.out (by simp) ?_; intro v3 w3 ho3 hb3 _)
  have HB3 := Lib.hid (HB1.out.trans hb3)
  rw [List.nil_append] at ho3
  have HO3 := Lib.hid ho3
  clear ho3 hb3
  have HP3 := Lib.hid (HP1.out.kept (by rw [World.size_alloc]; exact HB3.out))
  have HA3 := Lib.hid (HO3.out.rd)
  have HLR3 := Lib.hid (HLR.out w3 (HB0'.out.trans (HB3.out.mono (by omega))))
  have hs3 := HB3.out.size
  rw [World.size_alloc] at hs3
  have HX := Lib.hid (show ∀ W, (∃ W1, But gb w3 W1 ∧ But gc W1 W) → W.cell? ⟨w.heap.size, 2, none⟩ = some (.int .u32 a) ∧ W.cell? ⟨w.heap.size, 4, none⟩ = some (.slice A ll c) ∧ (convert 34 9 v3).run Try.prog W = .ok (.string ⟨l.toArray⟩) W ∧ (convert 34 9 (.slice A ll c)).run Try.prog W = .ok (.string ⟨l.toArray⟩) W from fun W ⟨W1, h1, h2⟩ => by
    have hk := h2.bk (h1.bk (HBK.out.below HB3.out (by omega)) (by omega)) (by omega)
    have o1 := OwnB.but (OwnB.but HO3.out h1 (by have := hBs; have := HLBx.out; omega)) h2 (by have := HLCx.out; omega)
    have o2 : RdB W (.slice A ll c) l := by
      refine RdB.but (RdB.but HLR3.out h1 ?_) h2 ?_
      · intro g off c' e h0
        have := HA.out g off c' (by rw [e, HLL.out]) (by have := HLL.out; omega)
        have := HLb.out
        omega
      · intro g off c' e h0
        have := HA.out g off c' (by rw [e, HLL.out]) (by have := HLL.out; omega)
        have := HLc.out
        omega
    exact ⟨hk.cell 2, hk.cell 4, run_string_of mbt Try.underlying9 o1.rd, run_string_of mbt Try.underlying9 o2⟩)
  have HO := Lib.hid (show ∀ W, Below w3.heap.size w3 W → Calls Try.prog 44 #[.pointer (some ⟨gm, 0, none⟩), .int .u32 a, v3] W fun e w' => e = .returned (.int .i64 (Mm.putE b.length a l.length)) ∧ OwnM w' gm gb (Mm.putB b a l) hs ∧ But gb w3 w' from fun W h2 =>
    (put_own W gm gb b hs a v3 l ha (HP3.out.kept h2).a (HO3.out.kept h2).rd (by have := HLL.out; unfold maxLen; omega)).mono fun e w' ⟨k1, k2, k3⟩ => ⟨k1, k2, (But.of_below h2).trans k3⟩)
  have HR := Lib.hid (show ∀ W, But gb w3 W → Calls Try.prog 80 #[.pointer (some ⟨gr, 0, none⟩), .int .u32 a, .slice A ll c] W fun e w' => e = .returned (.int .i64 (Mm.putE b.length a l.length)) ∧ RefM w' gr gc (Mm.putB b a l) hs ∧ But gc W w' from fun W h1 =>
    rput_own W gr gc b hs a (.slice A ll c) l ha (HP3.out.ref1 h1) (RdB.but HLR3.out h1 (by
        intro g off c' e h0
        have := HA.out g off c' (by rw [e, HLL.out]) (by have := HLL.out; omega)
        have := HLb.out
        omega)) (by have := HLL.out; unfold maxLen; omega) (by
        intro g off c' e h0
        have := HA.out g off c' (by rw [e, HLL.out]) (by have := HLL.out; omega)
        have := HLc.out
        omega))
  have HWL := Lib.hid (show (Mm.putB b a l).length = b.length from by unfold Mm.putB; split <;> simp_all [Mm.put_length])
  obtain ⟨q1, q2, q3, q4⟩ := HX.out _ ⟨_, But.of_below (Below.refl _ _), But.of_below (Below.refl _ _)⟩
  generalize Mm.putB b a l = b' at *
  generalize Mm.putE b.length a l.length = E at *
  go_region_held3 (fun W' => W'.cell? ⟨w.heap.size, 2, none⟩ = some (.int .u32 a) ∧ W'.cell? ⟨w.heap.size, 4, none⟩ = some (.slice A ll c) ∧ (convert 34 9 v3).run Try.prog W' = .ok (.string ⟨l.toArray⟩) W' ∧ (convert 34 9 (.slice A ll c)).run Try.prog W' = .ok (.string ⟨l.toArray⟩) W')
    (first | exact HX.out _ ⟨_, hbut1, hbut2⟩ | exact HX.out _ ⟨_, hbut1, But.of_below (Below.refl _ _)⟩ | exact HX.out _ ⟨w3, But.of_below (Below.refl _ _), But.of_below (Below.refl _ _).drew⟩ | go_keep)
    (first | (go_at_call 21; refine (mnum_any _ _).mono ?_; rintro e w' ⟨rfl, rfl⟩) | (go_at_call 44; refine (HO.out _ (Below.refl _ _).drew).mono ?_; rintro e w1 ⟨rfl, ho1, hbut1⟩) | (go_at_call 80; refine (HR.out _ hbut1).mono ?_; rintro e w2 ⟨rfl, ho2, hbut2⟩))
  have HOC := Lib.hid (OwnB.but (OwnB.but HO3.out hbut1 (by have := hBs; have := HLBx.out; omega)) hbut2 (by have := HLCx.out; omega))
  have HFIN := Lib.hid (show ∀ W, (W = w2 ∨ ∃ g, w.heap.size + 1 ≤ g ∧ But g w2 W) → Mm.DoPost w0.heap.size gm gb gr gc hs b w (.returned (.bool true)) W from fun W hW => by
    have hp2 := HP3.out.both hbut1 ho1 hbut2 ho2
    have hbl : Below w0.heap.size w w2 := ((HB0.out.mono hBs).trans ((HB3.out.mono (by omega)).trans (hbut1.below HLb.out (by omega)))).trans (hbut2.below HLc.out (by have := hbut1.size; omega))
    rcases hW with rfl | ⟨g, hg, hbg⟩
    · exact ⟨rfl, b', HWL.out, hp2, hbl⟩
    · obtain ⟨_, _, ka, kb⟩ := HP3.out.a.ob2
      obtain ⟨_, _, kc, kd⟩ := HP3.out.r.ob
      have n1 := ka.ne kd (by decide)
      have n2 := kc.ne kd (by decide)
      have n3 := kc.ne kb (by decide)
      have n4 := ka.ne kb (by decide)
      obtain ⟨_, _, _, jb⟩ := HP1.out.a.ob2
      obtain ⟨_, _, _, jd⟩ := HP1.out.r.ob
      have em := (hbut2.block (Nat.lt_of_lt_of_le kb.lt hbut1.size) n3).trans ((hbut1.block kb.lt n4).trans (HB3.out.block gm (by have := jb.lt; rw [World.size_alloc] at this; exact this)))
      have er := (hbut2.block (Nat.lt_of_lt_of_le kd.lt hbut1.size) n2).trans ((hbut1.block kd.lt n1).trans (HB3.out.block gr (by have := jd.lt; rw [World.size_alloc] at this; exact this)))
      exact ⟨rfl, b', HWL.out, hp2.but3 HP1.out (by rw [World.size_alloc]; exact hg) em er hbg, hbl.trans (hbg.below (by omega) (by have := hbut1.size; have := hbut2.size; omega))⟩)
  obtain ⟨a1, c1, rfl⟩ := OwnB.len HO3.out HLL.out
  clear q1 q2 q3 q4 hbut1 hbut2 ho1 ho2 hs3
  go_wp2_with fail
  go_loopw [14] (fun i wr => ∃ (j : Nat) (lst : List UInt8), j ≤ ll ∧ i = .int .i64 j ∧ lst.length = ll ∧ OwnB 5 (w.heap.size + 1) wr (.slice a1 ll c1) lst ∧ (wr = w2 ∨ ∃ g c', Value.slice a1 ll c1 = .slice (some ⟨g, 0, none⟩) ll c' ∧ w.heap.size + 1 ≤ g ∧ But g w2 wr)) (fun i _ => ll - (intOf i).toNat)
  case atStart => exact ⟨0, l, Nat.zero_le _, rfl, HLL.out, HOC.out, .inl rfl⟩
  case round =>
    obtain ⟨j, lst, hj, rfl, hln, hown, hor⟩ := hrel
    have HLN := Lib.hid hln
    have HOW := Lib.hid hown
    have HOR := Lib.hid hor
    clear hln hown hor
    by_cases hlt : j < ll
    · rcases OwnB.shape HOW.out with ⟨_, hnil⟩ | ⟨g, cap, e1, hg, hgl, hlc, hcm, hcell, hfr⟩
      · have := HLN.out; rw [hnil] at this; simp at this; omega
      · have q := hcell j (by have := HLN.out; omega)
        have hf := (hfr j (by have := HLN.out; omega)).1
        obtain ⟨rfl, rfl⟩ : a1 = some ⟨g, 0, none⟩ ∧ c1 = cap := by injection e1 with e1 _ e3; exact ⟨e1, e3⟩
        clear hcell hfr e1
        generalize lst.getD j 0 = x at *
        have hx := x.toNat_lt
        have hxi : (x.toNat : Int) < 256 := by omega
        have hv1 : ((x.toNat : Int) + 1) % 256 = ((UInt8.ofNat (x.toNat + 1)).toNat : Int) := by rw [UInt8.toNat_ofNat']; omega
        have HV1 := Lib.hid hv1
        clear hv1
        have hlt' : (j : Int) < ll := by omega
        go_wp2
        go_roundw
        case rel =>
          refine ⟨j + 1, lst.set j (UInt8.ofNat (x.toNat + 1)), by omega, by go_num, by rw [List.length_set]; exact HLN.out, by rw [HV1.out]; exact own_store HOW.out _, .inr ?_⟩
          rcases HOR.out with rfl | ⟨g2, c2, e2, hg2, hb2⟩
          · exact ⟨g, _, rfl, hg, But.setCell _ _ _ _⟩
          · obtain rfl : g = g2 := by injection e2 with e2; injection e2 with e2; injection e2
            exact ⟨g, _, rfl, hg, hb2.trans (But.setCell _ _ _ _)⟩
        case measure => simp [intOf]; omega
    · obtain rfl : j = ll := by omega
      go_wp2
      go_ret
      exact HFIN.out _ (HOR.out.imp id fun ⟨g, _, _, h1, h2⟩ => ⟨g, h1, h2⟩)
end Go.Proofs.Ytijekhdndegdaaa
