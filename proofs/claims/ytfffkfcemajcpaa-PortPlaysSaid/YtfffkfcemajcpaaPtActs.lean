/- Walks: Clone of bytes, Out, Halt. -/
import Derived.Test.YtfffkfcemajcpaaPtOut
import Derived.Test.YtfffkfcemajcpaaKitS
namespace Go.Proofs.Ytfffkfcemajcpaa
open Go.RowKit Kit
set_option linter.unusedVariables false
set_option linter.unusedSimpArgs false

theorem prt : RowTy Try.prog 22 5 1 1 :=
  ⟨Try.underlying22, by
    obtain ⟨i, h1, h2, h3, h4⟩ := pbt.info
    exact ⟨i, _, h1, h2, h3, h4, rfl⟩⟩
theorem pq22 (w : World) (a : Option Addr) (n c : Nat) : (binOp .eql 22 (.slice a n c) (.slice none 0 0)).run Try.prog w = .ok (.bool a.isNone) w := Lib.run_eql_slice_nil w _ _ a n c 0 0 Try.underlying22
theorem clone_own (w : World) (base : Nat) (v : Value) (l : List UInt8) (ho : OwnB 5 base w v l) (hl : l.length ≤ 65536) :
    Calls Try.prog 39 #[v] w fun e w' => ∃ v', e = .returned v' ∧ OwnB 5 w.heap.size w' v' l ∧ Below w.heap.size w w' := by
  have hq := pq22
  rcases ho.shape with ⟨rfl, rfl⟩ | ⟨g, cap, rfl, _, hg, hlc, hcm, hcell, _⟩
  · go_enter Try.func39, Try.ntmps39
    go_wp2
    go_ret
    exact ⟨_, rfl, OwnB.nil _ _ _, Below.refl _ _⟩
  · have hr := ho.rd
    go_enter Try.func39, Try.ntmps39
    go_wp2_with (at_builtin; refine wpList_appendB rfl _ _ _ _ rfl pbt w.heap.size _ rfl [] (OwnB.built w 5 #[] [] rfl (Nat.zero_le _) (Nat.le_refl _)) _ rfl l (src_of_rd pbt (hr.below ((Below.refl w.heap.size w).alloc (Nat.le_refl _) _))) (by simp; omega) (by simp) ?_; intro v3 w3 ho3 hb3 _)
    go_ret
    exact ⟨v3, rfl, by simpa using ho3, ((Below.refl w.heap.size w).alloc (Nat.le_refl _) _).trans hb3⟩
theorem out_put (w : World) (base gp gc : Nat) (ahead put : List UInt8) (h : Bool) (code : Nat) (H : OwnP w base gp gc ahead put h code) :
    Calls Try.prog 16 #[.pointer (some ⟨gp, 0, none⟩)] w fun e w' => ∃ v', e = .returned v' ∧ OwnB 5 w.heap.size w' v' put ∧ Below w.heap.size w w' :=
  output_port w base gp gc ahead put h code H fun v ho => clone_own w base v put ho H.few

/-- What is put out behind one more byte. -/
def Pt.out (put : List UInt8) (v : Nat) : List UInt8 := if put.length < 65536 then put ++ [UInt8.ofNat v] else put
theorem own_setCell {w : World} {base : Nat} {v : Value} {l : List UInt8} {g i : Nat} {u : Value} (h : OwnB 5 base w v l) (hg : v.ownBlock ≠ some g) : OwnB 5 base (w.setCell ⟨g, i, none⟩ u) v l := by
  obtain ⟨k1, k2⟩ := h
  refine ⟨k1, ?_⟩
  rcases k2 with k2 | ⟨g', cap, cur, rfl, hb', hh, rest⟩
  · exact .inl k2
  · exact .inr ⟨g', cap, cur, rfl, hb', (Below.heap_setCell w _ u g' (fun e => hg (by rw [e]; rfl))).trans hh, rest⟩
theorem ob_ne {w : World} {base g : Nat} {v : Value} {l : List UInt8} {t : TypeId} {cs : Array Value} (h : OwnB 5 base w v l) (hb : Bk w g t cs) (ht : t ≠ 5) : v.ownBlock ≠ some g := by
  rcases h.2 with ⟨rfl, _⟩ | ⟨g', cap, cur, rfl, _, hh, _⟩
  · simp [Value.ownBlock]
  · intro e
    simp [Value.ownBlock] at e
    subst e
    exact ht (hb.uniq (t' := 5) hh).1

set_option maxRecDepth 20000 in
theorem out_port (w : World) (base gp gc : Nat) (ahead put : List UInt8) (h : Bool) (code v : Nat) (hv : v < 4294967296) (H : OwnP w base gp gc ahead put h code) :
    Calls Try.prog 15 #[.pointer (some ⟨gp, 0, none⟩), .int .u32 v] w fun e w' => e = .returned (.tuple #[]) ∧ OwnP w' base gp gc ahead (Pt.out put v) h code ∧ PStep w w' gp gc := by
  obtain ⟨ov, hb, ho⟩ := H.obj
  have c0 : w.cell? ⟨gp, 0, none⟩ = some (.chan (some gc)) := hb.cell 0
  obtain ⟨a, c, rfl⟩ := ho.len rfl
  have c1 : w.cell? ⟨gp, 1, none⟩ = some (.slice a put.length c) := hb.cell 1
  have hfew := H.few
  have HH := Lib.hid H
  have HO := Lib.hid ho
  have HBK := Lib.hid hb
  have hbase : base ≤ w.heap.size := by have := H.bp; have := hb.lt; omega
  have hvi : (v : Int) < 4294967296 := by omega
  clear H hb ho
  by_cases hl : put.length < 65536
  · have HP := Lib.hid (show Pt.out put v = put ++ [UInt8.ofNat v] by unfold Pt.out; rw [if_pos hl])
    have hli : decide ((put.length : Int) < 65536) = true := by simp; omega
    have HL := Lib.hid hl
    clear hl hfew
    generalize hn : put.length = n at *
    have HN := Lib.hid hn
    clear hn
    have hbv : #[Value.int .u8 ((v : Int) % 256)].toList = bv [UInt8.ofNat v] := by
      simp [bv, UInt8.toNat_ofNat']
    go_enter Try.func15, Try.ntmps15
    have HB1 := Lib.hid ((Below.refl w.heap.size w).alloc (Nat.le_refl _) (.cells #[.int .u8 ((v : Int) % 256)] 5))
    have HS := Lib.hid (src_of_built pbt w 5 _ [UInt8.ofNat v] 1 hbv)
    have HLL := Lib.hid (show put.length + [UInt8.ofNat v].length ≤ 140737488355328 by simp; have := HN.out; have := HL.out; omega)
    have HLN := Lib.hid (show (put ++ [UInt8.ofNat v]).length = n + 1 by simp; have := HN.out; omega)
    have hne := Lib.hid (ob_ne HO.out HBK.out (by decide))
    have hgs := Lib.hid HBK.out.lt
    clear hbv
    have hb0 : 0 + 1 ≤ maxLen := by unfold maxLen; omega
    have HL1 := Lib.hid (show (n + 1) * 1 ≤ 140737488355328 by have := HL.out; omega)
    have HL2 := Lib.hid (show n + 1 ≤ maxLen by have := HL.out; unfold maxLen; omega)
    have HOO := Lib.hid (show (w.alloc (.cells #[.int .u8 ((v : Int) % 256)] 5)).ownsRow base 5 1 (.slice a n c) n (bv put) from by
      have := HO.out.kept HB1.out
      unfold OwnB at this
      rwa [HN.out] at this)
    clear hb0
    go_upto_region 1 with (go_at_call 38; refine (none_port _ gp gc c0).mono ?_; rintro e w' ⟨rfl, rfl⟩)
    go_wp2_with (at_builtin; refine wpList_appendRB rfl _ _ _ _ rfl prt (by decide) base _ rfl n (bv put) HOO.out _ rfl 1 (bv [UInt8.ofNat v]) HS.out HL1.out HL2.out (by simp; omega) ?_; intro v3 w3 ho3 hb3 hg3 hk3; obtain ⟨a3, c3, rfl⟩ := (Rd.of_own ho3).form; have hbk3 : Bk w3 gp 56 #[.chan (some gc), .slice a n c, .bool h, .int .u32 code] := (hg3.block gp (by have := hgs.out; simp; omega) (fun e => hne.out e.symm)).trans (HBK.out.kept HB1.out); have q1 := hbk3.cell 1; have q2 := hbk3.free 1)
    go_end0
    have hO3 : OwnB 5 base w3 (.slice a3 (n + 1) c3) (put ++ [UInt8.ofNat v]) := by
      unfold OwnB
      rw [HLN.out, bv_append]
      exact ho3
    have hne3 := ob_ne hO3 hbk3 (by decide)
    obtain ⟨n1, n2, n3⟩ := HH.out.gc_ne
    obtain ⟨cap, s, r, hc⟩ := HH.out.ch
    have hgc := (Array.getElem?_eq_some_iff.1 hc).1
    have hobs : ∀ k, Value.ownBlock (.slice a n c) = some k → OutIn w gp k := fun k hk => ⟨_, _, _, _, HBK.out, hk⟩
    have hs4 : Bk (w3.setCell ⟨gp, 1, none⟩ (.slice a3 (n + 1) c3)) gp 56 #[.chan (some gc), .slice a3 (n + 1) c3, .bool h, .int .u32 code] := hbk3.set 1 _
    have hfar : ∀ k, k < w.heap.size → k ≠ gp → (∀ g, Value.ownBlock (.slice a n c) = some g → k ≠ g) → (w3.setCell ⟨gp, 1, none⟩ (.slice a3 (n + 1) c3)).heap[k]? = w.heap[k]? := fun k hk h1 h2 =>
      ((Below.heap_setCell w3 ⟨gp, 1, none⟩ _ k h1).trans (hg3.block k (by simp; omega) (fun e => h2 k e.symm rfl))).trans (HB1.out.block k hk)
    refine ⟨rfl, ⟨⟨_, hs4, own_setCell (by rw [HP.out]; exact hO3) hne3⟩, ⟨cap, s, r, (hfar gc hgc n1 (fun g hg e => n2 (by rw [e]; exact hobs g hg))).trans hc⟩, HH.out.bp, HH.out.bc, by rw [HP.out, HLN.out]; have := HL.out; omega, HH.out.small⟩, ⟨⟨hg3.os, hg3.tape, hg3.output, ?_, ?_⟩, ?_⟩⟩
    · have := hg3.size
      simp [World.setCell] at this ⊢
      omega
    · intro k hk hn
      exact hfar k hk (fun e => hn (.inl e)) (fun g hg e => hn (.inr (.inr (by rw [e]; exact hobs g hg))))
    · rintro k (rfl | rfl | hk)
      · exact .inl (.inl rfl)
      · exact .inl (.inr (.inl rfl))
      · obtain ⟨x, v', y, z, h1, h2⟩ := hk
        have := (h1.uniq hs4).2
        simp at this
        obtain ⟨_, rfl, _⟩ := this
        rcases hk3 k h2 with h | h
        · exact .inl (.inr (.inr (hobs k h)))
        · exact .inr (by simp at h; omega)
  · have HP := Lib.hid (show Pt.out put v = put by unfold Pt.out; rw [if_neg hl])
    have hli : decide ((put.length : Int) < 65536) = false := by simp; omega
    clear hl hfew
    generalize put.length = n at *
    go_enter Try.func15, Try.ntmps15
    go_wp2_with (go_at_call 38; refine (none_port _ gp gc c0).mono ?_; rintro e w' ⟨rfl, rfl⟩)
    go_end0
    exact ⟨rfl, by rw [HP.out]; exact HH.out, ⟨Only.refl _ _, fun k hk => .inl hk⟩⟩
end Go.Proofs.Ytfffkfcemajcpaa
