/- Flow, the document's side: Opposite, asks, digits, label, top, pop, put, func1. -/
import Derived.Test.YtfafdkbnmfpbmaaDoorF8Own
namespace Go.Proofs.YtfafdkbnmfpbmaaDoor
open Go.RowKit Kit
set_option linter.unusedVariables false
set_option linter.unusedSimpArgs false

abbrev F8.MkR (B : Nat) (W : World) (gm H : Nat) (S : F8.St) : Prop := F8.Mk false 72 41 128 B W gm H S
theorem F8.ur : F8.Unlike 72 41 128 := by constructor <;> decide
theorem frort : RowTy Tryd.prog 70 128 2 32 :=
  ⟨Tryd.underlying70, by
    have h : (Tryd.prog.info? 128).map (fun i => (i.zero, i.size, i.bytes)) = some (some (.agg #[.string ByteArray.empty, .string ByteArray.empty]), 2, 32) := by kernel_rfl
    obtain ⟨i, h1, h2, h3, h4⟩ := info_parts h
    exact ⟨i, _, h1, h2, h3, h4, by kernel_rfl⟩⟩
theorem F8.byte_str (w : World) (n : Nat) (hn : n < 10) : (convert 47 9 (.slice (some ⟨w.heap.size, 0, none⟩) 1 1)).run Tryd.prog (w.alloc (.cells #[.int .u8 (48 + (n : Int))] 5)) = .ok (.string ⟨[UInt8.ofNat (48 + n)].toArray⟩) (w.alloc (.cells #[.int .u8 (48 + (n : Int))] 5)) := by
  have hb := OwnB.built w 5 #[.int .u8 (48 + (n : Int))] [UInt8.ofNat (48 + n)] (by
    have e : (UInt8.ofNat (48 + n)).toNat = 48 + n := by rw [UInt8.toNat_ofNat']; omega
    show [Value.int .u8 (48 + (n : Int))] = [Value.int .u8 (((UInt8.ofNat (48 + n)).toNat : Nat) : Int)]
    rw [e]; simp) (by unfold maxLen; simp) (Nat.le_refl w.heap.size)
  exact run_string_of lbt Tryd.underlying9 hb.rd
set_option maxRecDepth 100000 in
set_option maxHeartbeats 1000000 in
theorem rdigits_any : ∀ (n : Nat) (w : World), n ≤ 100000000 → Calls Tryd.prog 101 #[.int .i64 (n : Int)] w fun e w' => e = .returned (.string ⟨(Lib.decDigits n).toArray⟩) ∧ Below w.heap.size w w' := by
  intro n
  induction n using Nat.strongRecOn with
  | ind n ih =>
    intro w hn
    by_cases h10 : n < 10
    · have hlt : (n : Int) < 10 := by omega
      have hw1 : IntKind.i64.wrap (48 + (n : Int)) = 48 + (n : Int) := by rw [IntKind.wrap_i64]; omega
      have hw2 : IntKind.u8.wrap (48 + (n : Int)) = 48 + (n : Int) := by rw [IntKind.wrap_u8]; omega
      have HD := Lib.hid (show Lib.decDigits n = [UInt8.ofNat (48 + n)] from by unfold Lib.decDigits; rw [dif_pos h10])
      have hcv := F8.byte_str w n h10
      generalize UInt8.ofNat (48 + n) = ch at HD hcv
      have HAL := Lib.hid ((Below.refl w.heap.size w).alloc (Nat.le_refl _) (.cells #[.int .u8 (48 + (n : Int))] 5))
      clear ih
      go_enter Tryd.func101, Tryd.ntmps101
      go_wp2_with fail
      go_ret
      exact ⟨by rw [HD.out]; rfl, HAL.out⟩
    · have hge : ¬ (n : Int) < 10 := by omega
      obtain ⟨q, hq⟩ : ∃ q, n / 10 = q := ⟨_, rfl⟩
      obtain ⟨r, hr⟩ : ∃ r, n % 10 = r := ⟨_, rfl⟩
      have C1 := Lib.hid (fun W => ih q (by omega) W (by omega))
      have C2 := Lib.hid (fun W => ih r (by omega) W (by omega))
      have t1 : (n : Int).tdiv 10 = (q : Int) := by rw [Int.tdiv_eq_ediv_of_nonneg (by omega)]; omega
      have t2 : (n : Int).tmod 10 = (r : Int) := by rw [Int.tmod_eq_emod_of_nonneg (by omega)]; omega
      have hw1 : IntKind.i64.wrap (q : Int) = (q : Int) := by rw [IntKind.wrap_i64]; omega
      have hw2 : IntKind.i64.wrap (r : Int) = (r : Int) := by rw [IntKind.wrap_i64]; omega
      have HD := Lib.hid (show Lib.decDigits n = Lib.decDigits q ++ Lib.decDigits r from by
        conv => lhs; unfold Lib.decDigits
        rw [dif_neg h10, hq, hr]
        congr 1
        unfold Lib.decDigits
        rw [dif_pos (by omega)])
      have hl1 := F8.dec_len q
      have hl2 := F8.dec_len r
      have hlen : ¬ 9223372036854775807 < (Lib.decDigits q).length + (Lib.decDigits r).length := by omega
      clear ih hq hr hl1 hl2
      go_enter Tryd.func101, Tryd.ntmps101
      go_wp2_with (first | (go_at_call 101; with_reducible refine (C1.out _).mono ?_; rintro e w1 ⟨rfl, hb1⟩) | (go_at_call 101; with_reducible refine (C2.out _).mono ?_; rintro e w2 ⟨rfl, hb2⟩))
      go_ret
      exact ⟨by rw [HD.out]; exact congrArg (fun x => Ending.returned (.string x)) (app_eq _ _), hb1.trans (hb2.mono hb1.size)⟩
set_option maxRecDepth 100000 in
set_option maxHeartbeats 1000000 in
theorem rlabel8_any {B gm H : Nat} {S : F8.St} (w : World) (h : F8.MkR B w gm H S) (hn : S.made ≤ 100000) :
    Calls Tryd.prog 71 #[.pointer (some ⟨gm, 0, none⟩)] w fun e w' => e = .returned (.string ⟨(F8.lab S.made).toArray⟩) ∧ F8.MkR B w' gm H ⟨S.out, S.opn, S.made + 1⟩ ∧ F8.Stay gm B w w' := by
  obtain ⟨so, sp, sm⟩ := S
  dsimp only at *
  obtain ⟨vo, vp, cs, h1, h2, h3, h4, h5⟩ := h.obj
  dsimp only at h1 h2 h3 h4
  have hms := F8.Mk.set F8.ur (S := ⟨so, sp, sm⟩) (S' := ⟨so, sp, sm + 1⟩) (vp' := vp) h.ge h.size h.le h1 h2 h3 h5 2 (.int .i64 ((sm : Int) + 1)) rfl (by simp) h4 (fun _ h => h)
  have c2 := h1.cell 2
  have f2 := h1.free 2
  have hw1 : IntKind.i64.wrap ((sm : Int) + 1) = (sm : Int) + 1 := by rw [IntKind.wrap_i64]; omega
  have hw2 : IntKind.i64.wrap (sm : Int) = (sm : Int) := by rw [IntKind.wrap_i64]; omega
  have hlen : ¬ 9223372036854775807 < 1 + (Lib.decDigits sm).length := by have := F8.dec_len sm; omega
  have HMS := Lib.hid hms
  have CI := Lib.hid (rdigits_any sm (w.setCell ⟨gm, 2, none⟩ (.int .i64 ((sm : Int) + 1))) (by omega))
  clear h h1 h2 h3 h4 h5 hms hn
  go_enter Tryd.func71, Tryd.ntmps71
  go_wp2_with (go_at_call 101; refine CI.out.mono ?_; rintro e w2 ⟨rfl, hb2⟩)
  go_ret
  exact ⟨congrArg (fun x => Ending.returned (.string x)) (F8.lab_app sm), HMS.out.1.kept hb2, HMS.out.2.trans (F8.Stay.of hb2 HMS.out.1.size HMS.out.1.lt)⟩
/-- The word that was opened last. -/
def F8.topw : F8.Opn → List UInt8
  | [] => []
  | (x, _) :: _ => x
theorem F8.top_cells' {w : World} {base : Nat} {e : TypeId} {v : Value} {p : List UInt8 × List UInt8} {r : F8.Opn} (h : w.ownsRow base e 2 v (p :: r).length (F8.opc (p :: r))) :
    ∃ g c, v = .slice (some ⟨g, 0, none⟩) (r.length + 1) c ∧ g < w.heap.size ∧ w.cell? ⟨g, r.length * 2, none⟩ = some (.string ⟨p.1.toArray⟩) ∧ w.cell? ⟨g, r.length * 2 + 1, none⟩ = some (.string ⟨p.2.toArray⟩) ∧ r.length + 1 ≤ c ∧ c ≤ maxLen := by
  obtain ⟨h1, h2⟩ := h
  rcases h2 with ⟨_, h0⟩ | ⟨g, cap, cur, rfl, hb, hh, hnc, hcm, hcs, htake⟩
  · simp at h0
  · refine ⟨g, cap, by simp, (Array.getElem?_eq_some_iff.1 hh).1, ?_, ?_, by simpa using hnc, hcm⟩
    all_goals
      simp only [World.cell?, hh]
      rw [F8.opc_cons] at htake
      have hl := F8.opc_len r
    · have : (cur.toList.take ((p :: r).length * 2))[r.length * 2]? = some (.string ⟨p.1.toArray⟩) := by
        rw [htake, List.getElem?_append_right (by omega), hl]; simp
      rw [List.getElem?_take, if_pos (by rw [List.length_cons]; omega)] at this
      simpa using this
    · have : (cur.toList.take ((p :: r).length * 2))[r.length * 2 + 1]? = some (.string ⟨p.2.toArray⟩) := by
        rw [htake, List.getElem?_append_right (by omega), hl]; simp
      rw [List.getElem?_take, if_pos (by rw [List.length_cons]; omega)] at this
      simpa using this
set_option maxRecDepth 100000 in
set_option maxHeartbeats 1000000 in
theorem rtop_any {B gm H : Nat} {S : F8.St} (w : World) (h : F8.MkR B w gm H S) (ho : S.opn.length ≤ 100000) :
    Calls Tryd.prog 73 #[.pointer (some ⟨gm, 0, none⟩)] w fun e w' => e = .returned (.string ⟨(F8.topw S.opn).toArray⟩) ∧ Below w.heap.size w w' := by
  obtain ⟨so, sp, sm⟩ := S
  dsimp only at *
  obtain ⟨vo, vp, cs, h1, h2, h3, h4, h5⟩ := h.obj
  dsimp only at h1 h2 h3 h4
  have c1 := h1.cell 1
  cases sp with
  | nil =>
    obtain ⟨A2, c2, rfl⟩ := (Rd.of_own h4).form
    clear h h1 h2 h3 h4 h5
    go_enter Tryd.func73, Tryd.ntmps73
    go_wp2_with fail
    go_ret
    exact ⟨rfl, Below.refl _ _⟩
  | cons p r =>
    obtain ⟨x, k⟩ := p
    obtain ⟨g, c2, rfl, hg, d0, d1, hc2, hc3⟩ := F8.top_cells' h4
    simp only [List.length_cons] at ho
    generalize r.length = n at *
    have hw1 : IntKind.i64.wrap (n : Int) = (n : Int) := by rw [IntKind.wrap_i64]; omega
    have hr0 : (0 : Int) ≤ (n : Int) := by omega
    have hr1 : (n : Int) < (n : Int) + 1 := by omega
    have hz : ((n : Int) + 1 == 0) = false := by rw [beq_eq_false_iff_ne]; omega
    clear h h1 h2 h3 h4 h5
    go_enter Tryd.func73, Tryd.ntmps73
    go_wp2_with fail
    go_region
    all_goals go_wp2_with fail
    all_goals go_ret
    all_goals exact ⟨rfl, (Below.refl _ _).drew⟩
set_option maxRecDepth 100000 in
set_option maxHeartbeats 2000000 in
theorem rpop_any {B gm H : Nat} {so : List L6.Line} {r : F8.Opn} {sm : Nat} {x k : List UInt8} (w : World) (h : F8.MkR B w gm H ⟨so, (x, k) :: r, sm⟩) (ho : r.length ≤ 100000) :
    Calls Tryd.prog 74 #[.pointer (some ⟨gm, 0, none⟩)] w fun e w' => e = .returned (.string ⟨k.toArray⟩) ∧ F8.MkR B w' gm H ⟨so, r, sm⟩ ∧ F8.Stay gm B w w' := by
  obtain ⟨vo, vp, cs, h1, h2, h3, h4, h5⟩ := h.obj
  dsimp only at h1 h2 h3 h4
  have c1 := h1.cell 1
  have f1 := h1.free 1
  obtain ⟨g, c2, rfl, hg, d0, d1, hc2, hc3⟩ := F8.top_cells' h4
  have hw1 : IntKind.i64.wrap (r.length : Int) = (r.length : Int) := by rw [IntKind.wrap_i64]; omega
  have hr0 : (0 : Int) ≤ (r.length : Int) := by omega
  have hr1 : (r.length : Int) < ((r.length + 1 : Nat) : Int) := by omega
  have hr2 : (r.length : Int) ≤ (c2 : Int) := by omega
  have HH := Lib.hid h
  have hal := (Below.refl w.heap.size w).alloc (Nat.le_refl _) (.cells #[.string ⟨#[]⟩, .string ⟨#[]⟩] 128)
  have ja : (w.alloc (.cells #[.string ⟨#[]⟩, .string ⟨#[]⟩] 128)).cell? ⟨gm, 1, none⟩ = some (.slice (some ⟨g, 0, none⟩) (r.length + 1) c2) := (h1.kept hal).cell 1
  clear hal
  clear h h1 h2 h3 h4 h5
  go_enter Tryd.func74, Tryd.ntmps74
  go_wp2_with fail
  go_region
  obtain ⟨W1, hW1⟩ : ∃ W1, (w.alloc (.cells #[.string ⟨x.toArray⟩, .string ⟨k.toArray⟩] 128)).drew = W1 := ⟨_, rfl⟩
  rw [hW1]
  have hbe : Below w.heap.size w W1 := by rw [← hW1]; exact ((Below.refl _ _).alloc (Nat.le_refl _) _).drew
  have hbk : Bk W1 w.heap.size 128 #[.string ⟨x.toArray⟩, .string ⟨k.toArray⟩] := by rw [← hW1]; exact Bk.fresh w _ _
  have hm1 := HH.out.kept hbe
  have hst := F8.Stay.of hbe HH.out.size HH.out.lt
  have hfr := HH.out.free hbe (Nat.le_refl w.heap.size)
  obtain ⟨vo, vp, cs, h1, h2, h3, h4, h5⟩ := hm1.obj
  dsimp only at h1 h2 h3 h4
  have e1 : W1.cell? ⟨gm, 1, none⟩ = some vp := h1.cell 1
  have e2 : W1.cell? ⟨gm, 1, none⟩ = some (.slice (some ⟨g, 0, none⟩) (r.length + 1) c2) := (World.cell?_of_block (a := ⟨gm, 1, none⟩) (hbe.block gm HH.out.lt)).trans c1
  obtain rfl : vp = .slice (some ⟨g, 0, none⟩) (r.length + 1) c2 := by rw [e1] at e2; injection e2
  have HMS := Lib.hid (F8.Mk.set F8.ur (S := ⟨so, (x, k) :: r, sm⟩) (S' := ⟨so, r, sm⟩) (vp' := .slice (some ⟨g, 0, none⟩) r.length c2) hm1.ge hm1.size hm1.le h1 h2 h3 h5 1 (.slice (some ⟨g, 0, none⟩) r.length c2) rfl (by simp) (F8.own_pop h4 rfl) (fun _ h => h))
  have f1' := h1.free 1
  have b1 : (W1.setCell ⟨gm, 1, none⟩ (.slice (some ⟨g, 0, none⟩) r.length c2)).cell? ⟨w.heap.size, 1, none⟩ = some (.string ⟨k.toArray⟩) := ((But.setCell W1 gm 1 _).bk hbk hfr.1).cell 1
  have HST := Lib.hid hst
  clear c1 f1 ja h1 h2 h3 h4 h5 hst hm1 hbe hbk hfr hW1 d0 d1 hg e1
  go_wp2_with fail
  go_region
  all_goals go_wp2_with fail
  all_goals go_ret
  all_goals exact ⟨rfl, HMS.out.1.kept (Below.refl _ _).drew, HST.out.trans (HMS.out.2.trans (F8.Stay.of (Below.refl _ _).drew HMS.out.1.size HMS.out.1.lt))⟩
set_option maxRecDepth 100000 in
set_option maxHeartbeats 2000000 in
theorem rput_any {B gm H : Nat} {S : F8.St} (w : World) (h : F8.MkR B w gm H S) (vl va : Value) (x : L6.Line) (hl : F8.Z false B w vl x.labels) (ha : F8.Z false B w va x.args) (ho : S.out.length ≤ 100000) :
    Calls Tryd.prog 75 #[.pointer (some ⟨gm, 0, none⟩), vl, .string ⟨x.word.toArray⟩, va] w fun e w' => e = .returned (.tuple #[]) ∧ F8.MkR B w' gm w'.heap.size ⟨S.out ++ [x], S.opn, S.made⟩ ∧ F8.Stay gm B w w' := by
  obtain ⟨xl, xw, xa⟩ := x
  dsimp only at hl ha ⊢
  obtain ⟨A, c, cs, k0, f0, hkk, ho1, hs1, hz1, hput⟩ := F8.Mk.room0 F8.ur rlrt h ⟨xl, xw, xa⟩ hl ha (fun e => by cases e)
  obtain ⟨A1, c1, rfl⟩ := hl.form
  obtain ⟨A2, c2, rfl⟩ := ha.form
  have ka : (w.alloc (.cells #[.slice A1 xl.length c1, .string ⟨xw.toArray⟩, .slice A2 xa.length c2] 41)).cell? ⟨gm, 0, none⟩ = some (.slice A S.out.length c) := hkk _ ((Below.refl _ _).alloc (Nat.le_refl _) _)
  have HO1 := Lib.hid ho1
  have HS1 := Lib.hid hs1
  have HZ1 := Lib.hid hz1
  have HPUT := Lib.hid hput
  have HL1 := Lib.hid (show (S.out.length + 1) * 64 ≤ 140737488355328 by omega)
  have HL2 := Lib.hid (show S.out.length + 1 ≤ maxLen by unfold maxLen; omega)
  clear h hl ha ho hkk ho1 hs1 hz1 hput
  go_enter Tryd.func75, Tryd.ntmps75
  go_wp2_with (at_builtin; refine wpList_appendRB rfl _ _ _ _ rfl rlrt (by decide) B _ rfl S.out.length cs HO1.out _ rfl 1 [.slice A1 xl.length c1, .string ⟨xw.toArray⟩, .slice A2 xa.length c2] HS1.out HL1.out HL2.out HZ1.out ?_; intro v3 w3 ho3 hb3 hg3 hv3; obtain ⟨⟨A3, c3, rfl⟩, k3, f3, HM⟩ := HPUT.out v3 w3 ho3 hb3 hg3 hv3; clear ho3 hb3 hg3 hv3)
  go_end0
  exact ⟨rfl, HM.out.1.later HM.out.1.le (Nat.le_refl _), HM.out.2⟩
theorem F8.own_of_bk0 (w : World) : (w.alloc (.cells #[] 9)).ownsRow w.heap.size 9 1 (.slice (some ⟨w.heap.size, 0, none⟩) 0 0) 0 [] :=
  ⟨rfl, .inr ⟨w.heap.size, 0, #[], rfl, Nat.le_refl _, heap_alloc_new w _, Nat.le_refl _, Nat.zero_le _, rfl, rfl⟩⟩
/-- A list apart. -/
def F8.CopyPost (w : World) (l : List (List UInt8)) (e : Ending) (w' : World) : Prop := ∃ v', e = .returned v' ∧ OwnS w.heap.size w' v' l ∧ Below w.heap.size w w'
theorem rfunc1_any (v : Value) (l : List (List UInt8)) (w : World) (h : RdS w v l) (hl : l.length ≤ 1000000) :
    Calls Tryd.prog 70 #[v] w (F8.CopyPost w l) := by
  obtain ⟨A, c, rfl⟩ := h.form
  have hal := (Below.refl w.heap.size w).alloc (Nat.le_refl _) (.cells #[] 9)
  have HO1 := Lib.hid (show (w.alloc (.cells #[] 9)).ownsRow w.heap.size 9 1 (.slice (some ⟨w.heap.size, 0, none⟩) 0 0) 0 [] from F8.own_of_bk0 w)
  have HS1 := Lib.hid (Rd.src lsrt (h.kept hal) (L6.sv_one l))
  have HZ1 := Lib.hid (show w.heap.size ≤ (w.alloc (.cells #[] 9)).heap.size from hal.size)
  have HAL := Lib.hid hal
  have HL1 := Lib.hid (show (0 + l.length) * 16 ≤ 140737488355328 by omega)
  have HL2 := Lib.hid (show 0 + l.length ≤ maxLen by unfold maxLen; omega)
  clear h hl hal
  go_enter Tryd.func70, Tryd.ntmps70
  go_wp2_with (at_builtin; refine wpList_appendRB rfl _ _ _ _ rfl lsrt (by decide) w.heap.size _ rfl 0 [] HO1.out _ rfl l.length (L6.sv l) HS1.out HL1.out HL2.out HZ1.out ?_; intro v3 w3 ho3 hb3 hg3 hv3)
  go_ret
  exact ⟨_, rfl, by unfold OwnS; simpa using ho3, HAL.out.trans hb3⟩
/-- Which words ask for a condition. -/
def F8.asksV (s : List UInt8) : Bool × Bool := match F8.kind s with | none => (false, false) | some k => (F8.cond k, true)
end Go.Proofs.YtfafdkbnmfpbmaaDoor
