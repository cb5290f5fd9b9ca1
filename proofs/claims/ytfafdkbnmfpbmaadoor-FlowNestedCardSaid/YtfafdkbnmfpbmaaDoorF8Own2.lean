/- Flow, the program's side: close, wait. -/
import Derived.Test.YtfafdkbnmfpbmaaDoorF8Own
namespace Go.Proofs.YtfafdkbnmfpbmaaDoor
open Go.RowKit Kit
set_option linter.unusedVariables false
set_option linter.unusedSimpArgs false

theorem fcontains_any (v : Value) (ws : List (List UInt8)) (x : List UInt8) (w : World) (h : RdS w v ws) (hl : ws.length ≤ 1000000000) :
    Calls Tryd.prog 100 #[v, .string ⟨x.toArray⟩] w fun e w' => e = .returned (.bool (decide (x ∈ ws))) ∧ w = w' := by
  cases ws with
  | nil =>
    obtain ⟨A, c, rfl⟩ := h.nil_form
    exact (Tryd.slices_Contains_string_empty A c ⟨x.toArray⟩ w).mono fun e w' hh => ⟨by rw [hh.1]; simp, hh.2.symm⟩
  | cons y t =>
    have hpos : 0 < (y :: t).length := by simp
    generalize y :: t = ys at *
    obtain ⟨hl1, A, c, rfl, h2, h3, h4⟩ := h
    obtain ⟨g, off, rfl, hg, hc⟩ := h4 hpos
    have := Tryd.slices_Contains_string g off ys.length c (ys.map fun y => (⟨y.toArray⟩ : ByteArray)) ⟨x.toArray⟩ w (by simp) (by omega) (fun j hj => by
      have hj' : j < ys.length := by simpa using hj
      rw [hc j (.string ⟨(ys[j]).toArray⟩) (by simp [L6.sv, hj'])]
      simp [List.getD, hj'])
    refine this.mono fun e w' hh => ⟨?_, hh.2.symm⟩
    rw [hh.1, List.take_of_length_le (by simp)]
    congr 2
    rw [Bool.eq_iff_iff, Lib.containsS_iff, decide_eq_true_iff, List.mem_map]
    constructor
    · rintro ⟨a, ha, e⟩
      have : a = x := by injection e with e; simpa using congrArg Array.toList e
      rwa [← this]
    · exact fun hx => ⟨x, hx, rfl⟩
/-- The last one that waits. -/
theorem F8.top_cells {w : World} {base : Nat} {e : TypeId} {v : Value} {p : List UInt8 × List UInt8} {r : F8.Opn} (h : w.ownsRow base e 2 v (p :: r).length (F8.opc (p :: r))) :
    ∃ g c, v = .slice (some ⟨g, 0, none⟩) (r.length + 1) c ∧ g < w.heap.size ∧ w.cell? ⟨g, r.length * 2, none⟩ = some (.string ⟨p.1.toArray⟩) ∧ w.cell? ⟨g, r.length * 2 + 1, none⟩ = some (.string ⟨p.2.toArray⟩) ∧ r.length + 1 ≤ c ∧ c ≤ maxLen := by
  obtain ⟨h1, h2⟩ := h
  rcases h2 with ⟨_, h0⟩ | ⟨g, cap, cur, rfl, hb, hh, hnc, hcm, hcs, htake⟩
  · simp at h0
  · refine ⟨g, cap, by simp, (Array.getElem?_eq_some_iff.1 hh).1, ?_, ?_, by simpa using hnc, hcm⟩
    all_goals
      simp only [World.cell?, hh]
      rw [F8.opc_cons] at htake
      have hl := F8.opc_len r
    · have : (cur.toList.take ((p :: r).length * 2))[r.length * 2]? = some (.string ⟨p.1.toArray⟩) := by
        rw [htake, List.getElem?_append_right (by omega), hl]; simp
      rw [List.getElem?_take, if_pos (by rw [List.length_cons]; omega)] at this
      simpa using this
    · have : (cur.toList.take ((p :: r).length * 2))[r.length * 2 + 1]? = some (.string ⟨p.2.toArray⟩) := by
        rw [htake, List.getElem?_append_right (by omega), hl]; simp
      rw [List.getElem?_take, if_pos (by rw [List.length_cons]; omega)] at this
      simpa using this
set_option maxRecDepth 100000 in
set_option maxHeartbeats 1000000 in
theorem fclose_none {B gm H : Nat} {S : F8.St} (w : World) (h : F8.MkO B w gm H S) (v : Value) (ws : List (List UInt8)) (hv : RdS w v ws) (hl : ws.length ≤ 1000) (ho : S.opn.length ≤ 100000) (hno : ∀ x k r, S.opn = (x, k) :: r → x ∉ ws) :
    Calls Tryd.prog 67 #[.pointer (some ⟨gm, 0, none⟩), v] w fun e w' => e = .returned (.tuple #[.string ⟨#[]⟩, .bool false]) ∧ w = w' := by
  obtain ⟨so, sp, sm⟩ := S
  dsimp only at *
  obtain ⟨vo, vp, cs, h1, h2, h3, h4, h5⟩ := h.obj
  dsimp only at h1 h2 h3 h4
  have c1 := h1.cell 1
  obtain ⟨A, c, rfl⟩ := hv.form
  cases sp with
  | nil =>
    obtain ⟨A2, c2, rfl⟩ := (Rd.of_own h4).form
    clear h h1 h2 h3 h4 h5 hv hno
    go_enter Tryd.func67, Tryd.ntmps67
    go_wp2_with fail
    go_ret2
    exact ⟨rfl, rfl⟩
  | cons p r =>
    obtain ⟨x, k⟩ := p
    obtain ⟨g, c2, rfl, hg, d0, d1, hc2, hc3⟩ := F8.top_cells h4
    have hx : decide (x ∈ ws) = false := by simpa using hno x k r rfl
    have CC := Lib.hid (fcontains_any _ ws x w hv (by omega))
    rw [hx] at CC
    have hw1 : IntKind.i64.wrap (r.length : Int) = (r.length : Int) := by simp at ho; rw [IntKind.wrap_i64]; omega
    have hlt : ¬ ((r.length : Int) < 0) := by omega
    have hr0 : (0 : Int) ≤ (r.length : Int) := by omega
    have hr1 : (r.length : Int) < ((r.length + 1 : Nat) : Int) := by omega
    clear h h1 h2 h3 h4 h5 hv hno hx
    go_enter Tryd.func67, Tryd.ntmps67
    go_wp2_with (go_at_call 100; refine CC.out.mono ?_; rintro e w' ⟨rfl, rfl⟩)
    go_ret2
    exact ⟨rfl, rfl⟩
set_option maxRecDepth 100000 in
set_option maxHeartbeats 1000000 in
theorem fclose_some {B gm H : Nat} {so : List L6.Line} {r : F8.Opn} {sm : Nat} {x k : List UInt8} (w : World) (h : F8.MkO B w gm H ⟨so, (x, k) :: r, sm⟩) (v : Value) (ws : List (List UInt8)) (hv : RdS w v ws) (hl : ws.length ≤ 1000) (ho : r.length ≤ 100000) (hx : x ∈ ws) :
    Calls Tryd.prog 67 #[.pointer (some ⟨gm, 0, none⟩), v] w fun e w' => e = .returned (.tuple #[.string ⟨k.toArray⟩, .bool true]) ∧ F8.MkO B w' gm H ⟨so, r, sm⟩ ∧ F8.Stay gm B w w' := by
  obtain ⟨vo, vp, cs, h1, h2, h3, h4, h5⟩ := h.obj
  dsimp only at h1 h2 h3 h4
  have c1 := h1.cell 1
  have f1 := h1.free 1
  obtain ⟨A, c, rfl⟩ := hv.form
  obtain ⟨g, c2, rfl, hg, d0, d1, hc2, hc3⟩ := F8.top_cells h4
  have HMS := Lib.hid (F8.Mk.set F8.uo (S := ⟨so, (x, k) :: r, sm⟩) (S' := ⟨so, r, sm⟩) (vp' := .slice (some ⟨g, 0, none⟩) r.length c2) h.ge h.size h.le h1 h2 h3 h5 1 (.slice (some ⟨g, 0, none⟩) r.length c2) rfl (by simp) (F8.own_pop h4 rfl) (fun _ h => h))
  have hxd : decide (x ∈ ws) = true := by simpa using hx
  have CC := Lib.hid (fcontains_any _ ws x w hv (by omega))
  rw [hxd] at CC
  have hw1 : IntKind.i64.wrap (r.length : Int) = (r.length : Int) := by rw [IntKind.wrap_i64]; omega
  have hlt : ¬ ((r.length : Int) < 0) := by omega
  have hr0 : (0 : Int) ≤ (r.length : Int) := by omega
  have hr1 : (r.length : Int) < ((r.length + 1 : Nat) : Int) := by omega
  have hr2 : (r.length : Int) ≤ (c2 : Int) := by omega
  clear h h1 h2 h3 h4 h5 hv hx hxd
  go_enter Tryd.func67, Tryd.ntmps67
  go_wp2_with (go_at_call 100; refine CC.out.mono ?_; rintro e w' ⟨rfl, rfl⟩)
  go_ret2
  exact ⟨rfl, HMS.out.1, HMS.out.2⟩
set_option maxRecDepth 100000 in
set_option maxHeartbeats 1000000 in
theorem fwait_any {B gm H : Nat} {S : F8.St} (w : World) (h : F8.MkO B w gm H S) (x k : List UInt8) (ho : S.opn.length ≤ 100000) :
    Calls Tryd.prog 66 #[.pointer (some ⟨gm, 0, none⟩), .string ⟨x.toArray⟩, .string ⟨k.toArray⟩] w fun e w' => e = .returned (.tuple #[]) ∧ F8.MkO B w' gm H ⟨S.out, (x, k) :: S.opn, S.made⟩ ∧ F8.Stay gm B w w' := by
  obtain ⟨so, sp, sm⟩ := S
  dsimp only at *
  obtain ⟨vo, vp, cs, h1, h2, h3, h4, h5⟩ := h.obj
  dsimp only at h1 h2 h3 h4
  have c1 := h1.cell 1
  obtain ⟨A, c, rfl⟩ := (Rd.of_own h4).form
  have hal : Below w.heap.size w (w.alloc (.cells #[.string ⟨x.toArray⟩, .string ⟨k.toArray⟩] 152)) := (Below.refl _ _).alloc (Nat.le_refl _) _
  have hst := F8.Stay.of hal h.size h.lt
  have HOW := Lib.hid (own_kept h4 hal)
  have HSR := Lib.hid (show Src Tryd.prog 2 60 (.slice (some ⟨w.heap.size, 0, none⟩) 1 1) 1 [.string ⟨x.toArray⟩, .string ⟨k.toArray⟩] (w.alloc (.cells #[.string ⟨x.toArray⟩, .string ⟨k.toArray⟩] 152)) from
    Rd.src fort (Rd.built (Bk.fresh w _ #[.string ⟨x.toArray⟩, .string ⟨k.toArray⟩]) rfl) (by intro u hu; simp at hu; rcases hu with rfl | rfl <;> rfl))
  have HL1 := Lib.hid (show (sp.length + 1) * 32 ≤ 140737488355328 by omega)
  have HL2 := Lib.hid (show sp.length + 1 ≤ maxLen by unfold maxLen; omega)
  have HZ := Lib.hid (show B ≤ (w.alloc (.cells #[.string ⟨x.toArray⟩, .string ⟨k.toArray⟩] 152)).heap.size from Nat.le_trans h.size hal.size)
  have HP := Lib.hid (fun v' w' ho hb hg hv => F8.Mk.push F8.uo (own := true) (S := ⟨so, sp, sm⟩) (p := (x, k)) (W' := w') (v' := v') h.ge HZ.out (Nat.le_trans h.le hal.size) (h1.kept hal) (own_kept h2 hal) (h3.map fun _ _ hz => hz.stay hst) (own_kept h4 hal) h5 ho hb hg hv)
  have HST := Lib.hid hst
  clear h h1 h2 h3 h4 h5 hal hst
  go_enter Tryd.func66, Tryd.ntmps66
  go_wp2_with (at_builtin; refine wpList_appendRB rfl _ _ _ _ rfl fort (by decide) B _ rfl sp.length (F8.opc sp) HOW.out _ rfl 1 [.string ⟨x.toArray⟩, .string ⟨k.toArray⟩] HSR.out HL1.out HL2.out HZ.out ?_; intro v' w2 ho2 hb2 hg2 hv2; obtain ⟨A2, c2, rfl⟩ := (Rd.of_own ho2).form; obtain ⟨hk, hm⟩ := HP.out _ _ ho2 hb2 hg2 hv2; have d1 := hk.cell 1; have f1 := hk.free 1; have HM := Lib.hid hm; clear ho2 hb2 hg2 hv2 hk hm)
  go_end0
  exact ⟨rfl, HM.out.1, HST.out.trans HM.out.2⟩
end Go.Proofs.YtfafdkbnmfpbmaaDoor
