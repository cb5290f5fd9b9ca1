/- A builder of the call's own: WriteString, WriteByte. -/
import Derived.Test.YtfafdkbnmfpbmaaGreatDoorL6RightW
namespace Go.Proofs.YtfafdkbnmfpbmaaGreatDoor
open Go.RowKit Kit
set_option linter.unusedVariables false
set_option linter.unusedSimpArgs false

/-- A builder in block b that holds the bytes l. -/
def Bd (base b : Nat) (l : List UInt8) (w : World) : Prop := Lib.IsBuilder 132 5 base b (bv l) w
def BdAt (base b : Nat) (l : List UInt8) (w : World) : Prop := Lib.BuilderAt 132 5 base b (.pointer (some ⟨b, 0, none⟩)) (bv l) w
theorem BdAt.bd {base b : Nat} {l : List UInt8} {w : World} (h : BdAt base b l w) : Bd base b l w := .inr h
theorem bd_info : ∃ j, Tryz.prog.info? 132 = some j ∧ j.size = 2 := by
  have h : (Tryz.prog.info? 132).map (·.size) = some 2 := by kernel_rfl
  exact Option.map_eq_some_iff.1 h
theorem Bd.fresh (w : World) : Bd w.heap.size w.heap.size [] (w.alloc (.cells #[.pointer none, .slice none 0 0] 132)) :=
  .inl ⟨Nat.le_refl _, .slice none 0 0, heap_alloc_new w _, World.ownsRow_nil _ _ _ _, by simp [Value.ownBlock]⟩
theorem BdAt.kept {base b : Nat} {l : List UInt8} {w w' : World} (h : BdAt base b l w) (hb : Below w.heap.size w w') : BdAt base b l w' := by
  obtain ⟨h1, v, h2, h3, h4⟩ := h
  exact ⟨h1, v, (hb.block _ (Array.getElem?_eq_some_iff.1 h2).1).trans h2, own_kept h3 hb, h4⟩
theorem Bd.kept {base b : Nat} {l : List UInt8} {w w' : World} (h : Bd base b l w) (hb : Below w.heap.size w w') : Bd base b l w' := by
  rcases h with ⟨h1, v, h2, h3, h4⟩ | h
  · exact .inl ⟨h1, v, (hb.block _ (Array.getElem?_eq_some_iff.1 h2).1).trans h2, own_kept h3 hb, h4⟩
  · exact .inr (BdAt.kept h hb)
set_option maxRecDepth 100000 in
theorem bcheck_used (b : Nat) (w : World) (h0 : w.cell? ⟨b, 0, none⟩ = some (.pointer (some ⟨b, 0, none⟩))) :
    Calls Tryz.prog 122 #[.pointer (some ⟨b, 0, none⟩)] w fun e w' => e = .returned (.tuple #[]) ∧ w' = w := by
  obtain ⟨j, hj, _⟩ := bd_info
  go_enter Tryz.func122, Tryz.ntmps122
  go_wp2
  rw [Lib.run_neq_ptr_same w _ Tryz.underlying130 hj]
  go_wp2
  go_end0
  exact ⟨rfl, rfl⟩
set_option maxRecDepth 100000 in
theorem bcheck_fresh (b : Nat) (w : World) (h0 : w.cell? ⟨b, 0, none⟩ = some (.pointer none)) (hsh : w.shape? b = some (132, 2)) (hfz : w.frozen? ⟨b, 0, none⟩ = false) :
    Calls Tryz.prog 122 #[.pointer (some ⟨b, 0, none⟩)] w fun e w' => e = .returned (.tuple #[]) ∧ w' = w.setCell ⟨b, 0, none⟩ (.pointer (some ⟨b, 0, none⟩)) := by
  obtain ⟨j, hj, hjs⟩ := bd_info
  go_enter Tryz.func122, Tryz.ntmps122
  go_wp2
  rw [Lib.run_to_unsafe w ⟨b, 0, none⟩ Tryz.underlying130 Tryz.underlying284 hj (by rw [hjs]; decide) hsh (Nat.zero_lt_succ 1)]
  simp only [Result.andThen]
  rw [Oper.upon_value]
  go_wp2
  rw [run_callFunc_extern Tryz.func184 (by kernel_rfl) (by kernel_rfl) (by kernel_rfl) (e := Extern.AbiNoEscape.same) (by kernel_rfl)]
  rw [Lib.run_noEscape]
  simp only [Result.andThen]
  rw [Oper.upon_value]
  go_wp2
  rw [Lib.run_from_unsafe w ⟨b, 0, none⟩ Tryz.underlying284 Tryz.underlying130 hj hsh (by kernel_rfl)]
  simp only [Result.andThen]
  rw [Oper.upon_value]
  go_wp2
  go_end0
  exact ⟨rfl, rfl⟩
theorem bcheck_any (base b : Nat) (l : List UInt8) (w : World) (h : Bd base b l w) : Calls Tryz.prog 122 #[.pointer (some ⟨b, 0, none⟩)] w fun e w' => e = .returned (.tuple #[]) ∧ BdAt base b l w' ∧ Below base w w' := by
  rcases h with h | h
  · refine (bcheck_fresh b w h.cell0 h.shape h.frozen0).mono ?_
    rintro e w' ⟨rfl, rfl⟩
    exact ⟨rfl, h.used _, (Below.refl base w).setCell (p := ⟨b, 0, none⟩) h.1 _⟩
  · refine (bcheck_used b w h.cell0).mono ?_
    rintro e w' ⟨rfl, rfl⟩
    exact ⟨rfl, h, Below.refl base _⟩
theorem lbt : ByteTy Tryz.prog 26 5 :=
  ⟨Tryz.underlying26, Tryz.underlying5, by
    have h : (Tryz.prog.info? 5).map (fun i => (i.zero, i.size, i.bytes)) = some (some (.int .u8 0), 1, 1) := by kernel_rfl
    exact info_parts h⟩
/-- What a builder's write leaves. -/
theorem BdAt.wrote {base b : Nat} {l news : List UInt8} {w w2 : World} {v : Value} {A : Option Addr} {n c : Nat} (hB : base ≤ b) (hbk : w.heap[b]? = some (.cells #[.pointer (some ⟨b, 0, none⟩), v] 132 (0, 0))) (hown : OwnB 5 base w v l) (hne : v.ownBlock ≠ some b)
    (ho : OwnB 5 base w2 (.slice A n c) (l ++ news)) (hg : w.grownBy w2 v.ownBlock) :
    w2.cell? ⟨b, 0, none⟩ = some (.pointer (some ⟨b, 0, none⟩)) ∧ w2.cell? ⟨b, 1, none⟩ = some v ∧ w2.frozen? ⟨b, 1, none⟩ = false ∧ Hid (BdAt base b (l ++ news) (w2.setCell ⟨b, 1, none⟩ (.slice A n c))) := by
  have hb2 : w2.heap[b]? = some (.cells #[.pointer (some ⟨b, 0, none⟩), v] 132 (0, 0)) := by
    rw [hg.block b (Array.getElem?_eq_some_iff.1 hbk).1 (fun e => hne e.symm)]; exact hbk
  refine ⟨by rw [Lib.cell_of_heap hb2]; rfl, by rw [Lib.cell_of_heap hb2]; rfl, Lib.frozen_of_heap hb2 1, ?_⟩
  exact Lib.BuilderAt.put (T := 132) (e := 5) hB hb2 (bs' := bv (l ++ news)) (by rw [bv_length]; exact ho) (by decide)
theorem len_two (l s : List UInt8) : (l ++ s).length = l.length + s.length := by simp
theorem len_one (l : List UInt8) (x : UInt8) : (l ++ [x]).length = l.length + 1 := by simp
set_option maxRecDepth 100000 in
set_option maxHeartbeats 1000000 in
theorem bwrite_any (base b : Nat) (l s : List UInt8) (w : World) (h : Bd base b l w) (hlen : l.length + s.length ≤ 140737488355328) (hbw : base ≤ w.heap.size) :
    Calls Tryz.prog 60 #[.pointer (some ⟨b, 0, none⟩), .string ⟨s.toArray⟩] w fun e w' => e = .returned (.tuple #[.int .i64 s.length, .nilIface]) ∧ BdAt base b (l ++ s) w' ∧ Below base w w' := by
  have CC := Lib.hid (bcheck_any base b l w h)
  have HLEN := Lib.hid hlen
  go_enter Tryz.func60, Tryz.ntmps60
  go_wp2_with (go_at_call 122; refine CC.out.mono ?_)
  rintro e w1 ⟨rfl, h1, hb1⟩
  obtain ⟨hB, v, hbk, hown0, hne⟩ := h1
  rw [bv_length] at hown0
  have hown : OwnB 5 base w1 v l := hown0
  obtain ⟨A, cap, rfl⟩ := hown.len rfl
  have c0 : w1.cell? ⟨b, 0, none⟩ = some (.pointer (some ⟨b, 0, none⟩)) := by rw [Lib.cell_of_heap hbk]; rfl
  have c1 : w1.cell? ⟨b, 1, none⟩ = some (.slice A l.length cap) := by rw [Lib.cell_of_heap hbk]; rfl
  have HZ := Lib.hid (show base ≤ w1.heap.size from Nat.le_trans hbw hb1.size)
  have HOW := Lib.hid hown
  have HSR := Lib.hid (src_of_string (P := Tryz.prog) Tryz.underlying9 w1 ⟨s.toArray⟩)
  have HBK := Lib.hid hbk
  have HNE := Lib.hid hne
  have HB1 := Lib.hid hb1
  clear hown0 hown hbk hne hb1 h
  go_wp2_with (at_builtin; refine wpList_appendB rfl _ _ _ _ rfl lbt base _ rfl l HOW.out _ rfl s HSR.out HLEN.out HZ.out ?_; intro v' w2 ho hbb hg; obtain ⟨A2, c2, rfl⟩ := ho.len (len_two l s); obtain ⟨d0, d1, f1, HW⟩ := BdAt.wrote hB HBK.out HOW.out HNE.out ho hg; clear ho hg)
  go_ret2
  exact ⟨rfl, HW.out, (HB1.out.trans hbb).setCell (p := ⟨b, 1, none⟩) hB _⟩
set_option maxRecDepth 100000 in
set_option maxHeartbeats 1000000 in
theorem bbyte_any (base b : Nat) (l : List UInt8) (x : UInt8) (w : World) (h : Bd base b l w) (hlen : l.length + 1 ≤ 140737488355328) (hbw : base ≤ w.heap.size) :
    Calls Tryz.prog 62 #[.pointer (some ⟨b, 0, none⟩), .int .u8 x.toNat] w fun e w' => e = .returned .nilIface ∧ BdAt base b (l ++ [x]) w' ∧ Below base w w' := by
  have CC := Lib.hid (bcheck_any base b l w h)
  have HLEN := Lib.hid hlen
  go_enter Tryz.func62, Tryz.ntmps62
  go_wp2_with (go_at_call 122; refine CC.out.mono ?_)
  rintro e w1 ⟨rfl, h1, hb1⟩
  obtain ⟨hB, v, hbk, hown0, hne⟩ := h1
  rw [bv_length] at hown0
  have hown : OwnB 5 base w1 v l := hown0
  obtain ⟨A, cap, rfl⟩ := hown.len rfl
  have c0 : w1.cell? ⟨b, 0, none⟩ = some (.pointer (some ⟨b, 0, none⟩)) := by rw [Lib.cell_of_heap hbk]; rfl
  have c1 : w1.cell? ⟨b, 1, none⟩ = some (.slice A l.length cap) := by rw [Lib.cell_of_heap hbk]; rfl
  have hal : Below w1.heap.size w1 (w1.alloc (.cells #[.int .u8 x.toNat] 5)) := (Below.refl _ _).alloc (Nat.le_refl _) _
  have HZ := Lib.hid (show base ≤ (w1.alloc (.cells #[.int .u8 x.toNat] 5)).heap.size from Nat.le_trans (Nat.le_trans hbw hb1.size) hal.size)
  have HOW := Lib.hid (hown.kept hal)
  have HSR := Lib.hid (src_of_built (P := Tryz.prog) lbt w1 5 #[.int .u8 x.toNat] [x] 1 rfl)
  have HBK := Lib.hid (show (w1.alloc (.cells #[.int .u8 x.toNat] 5)).heap[b]? = some (.cells #[.pointer (some ⟨b, 0, none⟩), .slice A l.length cap] 132 (0, 0)) from (hal.block _ (Array.getElem?_eq_some_iff.1 hbk).1).trans hbk)
  have HNE := Lib.hid hne
  have HB1 := Lib.hid (hb1.trans (hal.mono (Nat.le_trans hbw hb1.size)))
  clear hown0 hown hbk hne hb1 h hal
  go_wp2_with (at_builtin; refine wpList_appendB rfl _ _ _ _ rfl lbt base _ rfl l HOW.out _ rfl [x] HSR.out HLEN.out HZ.out ?_; intro v' w2 ho hbb hg; obtain ⟨A2, c2, rfl⟩ := ho.len (len_one l x); obtain ⟨d0, d1, f1, HW⟩ := BdAt.wrote hB HBK.out HOW.out HNE.out ho hg; clear ho hg)
  go_ret
  exact ⟨rfl, HW.out, (HB1.out.trans hbb).setCell (p := ⟨b, 1, none⟩) hB _⟩
end Go.Proofs.YtfafdkbnmfpbmaaGreatDoor
