/- Texts joined, what is not reached left out. -/
import Derived.Test.YtpcpaoeajcjoiaaGreatDoorMB
import Derived.Test.YtpcpaoeajcjoiaaGreatDoorQL6RRegQ
import Derived.Deep.RegionHeld3
/- Layer 7: the document's reader, in memory. -/
namespace Go.Proofs.YtpcpaoeajcjoiaaGreatDoor
open Go.RowKit Kit
set_option linter.unusedVariables false
set_option linter.unusedSimpArgs false

/-- A slice lies in blocks below g. -/
def As.Und (v : Value) (g : Nat) : Prop := ∀ k off n c, v = .slice (some ⟨k, off, none⟩) n c → 0 < n → k < g
theorem As.Und.off {v : Value} {g : Nat} (h : As.Und v g) : Off v g := fun k off n c e hn => Nat.ne_of_lt (h k off n c e hn)
theorem As.Und.mono {v : Value} {g g' : Nat} (h : As.Und v g) (hg : g ≤ g') : As.Und v g' := fun k off n c e hn => Nat.lt_of_lt_of_le (h k off n c e hn) hg
/-- The document's reader in block g: of x the words that are left, and is it right. -/
structure As.Rk (w : World) (g : Nat) (x : As.L) : Prop where
  obj : ∃ vl L k, Bk w g 184 #[vl, .int .i64 ((k : Nat) : Int), .bool x.ok] ∧ RdS w vl L ∧ k ≤ L.length ∧ x.l = L.drop k ∧ As.Und vl g
def As.RGo (w : World) (g : Nat) (x : As.L) (w' : World) : Prop := As.Rk w' g x ∧ Fr (fun k => k = g) w w'
theorem As.Rk.kept {w w' : World} {g : Nat} {x : As.L} (h : As.Rk w g x) (hb : Below w.heap.size w w') : As.Rk w' g x := by
  obtain ⟨vl, L, k, h1, h2, h3, h4, h5⟩ := h.obj
  exact ⟨⟨vl, L, k, h1.kept hb, h2.kept hb, h3, h4, h5⟩⟩
theorem As.Rk.flag {w : World} {g : Nat} {x : As.L} (h : As.Rk w g x) (b : Bool) : As.RGo w g ⟨x.l, b, x.p⟩ (w.setCell ⟨g, 2, none⟩ (.bool b)) := by
  obtain ⟨vl, L, k, h1, h2, h3, h4, h5⟩ := h.obj
  have hs := But.setCell w g 2 (.bool b)
  exact ⟨⟨⟨vl, L, k, h1.set 2 _, h2.but hs h5.off, h3, h4, h5⟩⟩, Fr.of_but hs rfl⟩
theorem As.Rk.step {w : World} {g : Nat} {x : As.L} {vl : Value} {L : List (List UInt8)} {k : Nat} (h1 : Bk w g 184 #[vl, .int .i64 ((k : Nat) : Int), .bool x.ok]) (h2 : RdS w vl L) (h3 : k < L.length) (h4 : x.l = L.drop k) (h5 : As.Und vl g) :
    As.RGo w g (As.next x).2 (w.setCell ⟨g, 1, none⟩ (.int .i64 ((k + 1 : Nat) : Int))) ∧ (As.next x).1 = L[k] := by
  have hs := But.setCell w g 1 (.int .i64 ((k + 1 : Nat) : Int))
  have hd : L.drop k = L[k] :: L.drop (k + 1) := List.drop_eq_getElem_cons h3
  have hn : As.next x = (L[k], ⟨L.drop (k + 1), x.ok, x.p⟩) := by
    unfold As.next
    rw [h4, hd]
  rw [hn]
  exact ⟨⟨⟨⟨vl, L, k + 1, h1.set 1 _, h2.but hs h5.off, h3, rfl, h5⟩⟩, Fr.of_but hs rfl⟩, rfl⟩
theorem As.RGo.after {w w1 w2 : World} {g : Nat} {x : As.L} (h : As.RGo w1 g x w2) (a : Fr (fun k => k = g) w w1) : As.RGo w g x w2 := ⟨h.1, a.trans h.2 (fun _ e => .inl e)⟩
theorem As.RGo.kept {w w1 w2 : World} {g : Nat} {x : As.L} (h : As.RGo w g x w1) (hb : Below w1.heap.size w1 w2) : As.RGo w g x w2 := ⟨h.1.kept hb, h.2.trans (Fr.of_below (F := fun _ => False) hb) (fun _ e => e.elim)⟩
theorem As.Rk.lt {w : World} {g : Nat} {x : As.L} (h : As.Rk w g x) : g < w.heap.size := by obtain ⟨vl, L, k, h1, _⟩ := h.obj; exact h1.lt
/-- A block behind the reader's changes. -/
theorem As.Rk.other {w w' : World} {g j : Nat} {x : As.L} (h : As.Rk w g x) (hb : But j w w') (hj : g < j) : As.Rk w' g x := by
  obtain ⟨vl, L, k, h1, h2, h3, h4, h5⟩ := h.obj
  exact ⟨⟨vl, L, k, hb.bk h1 (Nat.ne_of_lt hj), h2.but hb (h5.mono (Nat.le_of_lt hj)).off, h3, h4, h5⟩⟩
set_option maxRecDepth 100000 in
set_option maxHeartbeats 1000000 in
theorem rnext_any {w : World} {g : Nat} {x : As.L} (h : As.Rk w g x) :
    Calls Tryz.prog 152 #[.pointer (some ⟨g, 0, none⟩)] w fun e w' => e = .returned (.string ⟨(As.next x).1.toArray⟩) ∧ As.RGo w g (As.next x).2 w' := by
  obtain ⟨vl, L, k, h1, h2, h3, h4, h5⟩ := h.obj
  have HC := Lib.hid (show ∀ W', Below w.heap.size w W' → W'.cell? ⟨g, 0, none⟩ = some vl ∧ W'.cell? ⟨g, 1, none⟩ = some (.int .i64 (k : Int)) from fun W' hb => ⟨(h1.kept hb).cell 0, (h1.kept hb).cell 1⟩)
  have bd : Below w.heap.size w w.drew := (Below.refl _ _).drew
  obtain ⟨wd, hwd⟩ : ∃ wd, w.drew = wd := ⟨_, rfl⟩
  have bd' : Below w.heap.size w wd := hwd ▸ bd
  have hfr : Fr (fun k => k = g) w wd := Fr.of_below bd'
  have hd := h.kept bd'
  have h1 := h1.kept bd'
  have h2 := h2.kept bd'
  have c0 := h1.cell 0
  have c1 := h1.cell 1
  have c2 := h1.cell 2
  have f1 := h1.free 1
  have f2 := h1.free 2
  by_cases hk : k < L.length
  · obtain ⟨hgo, hv⟩ := As.Rk.step h1 h2 hk h4 h5
    rw [show ((k + 1 : Nat) : Int) = (k : Int) + 1 by omega] at hgo
    have hlt : ¬ (L.length : Int) ≤ (k : Int) := by omega
    have hstr := h2.but (But.setCell wd g 1 (.int .i64 ((k : Int) + 1))) h5.off
    obtain ⟨_, A, c, rfl, hc1, hc2, hcc⟩ := hstr
    obtain ⟨g', off, rfl, hg', hc⟩ := hcc (by omega)
    have hcell := hc k (.string ⟨(L[k]).toArray⟩) (by simp [L6.sv])
    have hw1 : IntKind.i64.wrap ((k : Int) + 1) = ((k : Int) + 1) := by unfold maxLen at hc2; rw [IntKind.wrap_i64]; omega
    have hw2 : IntKind.i64.wrap (((k : Int) + 1) - 1) = (k : Int) := by unfold maxLen at hc2; rw [IntKind.wrap_i64]; omega
    have hw3 : IntKind.i64.wrap (k : Int) = (k : Int) := by unfold maxLen at hc2; rw [IntKind.wrap_i64]; omega
    have hk0 : (0 : Int) ≤ (k : Int) := by omega
    have HP := Lib.hid (hgo.after hfr)
    have HV := Lib.hid hv
    have hkl : (k : Int) < (L.length : Int) := by omega
    have hk2 := h1.set 1 (.int .i64 ((k : Int) + 1))
    have HC2 := Lib.hid (show ∀ W', Below wd.heap.size (wd.setCell ⟨g, 1, none⟩ (.int .i64 ((k : Int) + 1))) W' → W'.cell? ⟨g, 0, none⟩ = some (.slice (some ⟨g', off, none⟩) L.length c) ∧ W'.cell? ⟨g, 1, none⟩ = some (.int .i64 ((k : Int) + 1)) ∧ W'.cell? ⟨g', off + k, none⟩ = some (.string ⟨(L[k]).toArray⟩) from fun W' hb => ⟨by have := (hk2.below hb h1.lt).cell 0; simpa using this, by have := (hk2.below hb h1.lt).cell 1; simpa using this, (hb.cell (p := ⟨g', off + k, none⟩) (by simpa [World.setCell] using hg')).trans hcell⟩)
    have HB2 := Lib.hid (show Below (wd.setCell ⟨g, 1, none⟩ (.int .i64 ((k : Int) + 1))).heap.size (wd.setCell ⟨g, 1, none⟩ (.int .i64 ((k : Int) + 1))) (wd.setCell ⟨g, 1, none⟩ (.int .i64 ((k : Int) + 1))).drew from (Below.refl _ _).drew)
    clear h h1 h2 h3 h4 h5 hcc hc hgo hv hd hk2 bd bd' hfr hcell
    generalize L[k] = s at *
    go_enter Tryz.func152, Tryz.ntmps152
    go_wp2_with fail
    go_region_held3 (fun W' => W'.cell? ⟨g, 0, none⟩ = some (.slice (some ⟨g', off, none⟩) L.length c) ∧ W'.cell? ⟨g, 1, none⟩ = some (.int .i64 (k : Int))) (with_reducible exact HC.out _ (Below.refl _ _).drew) (fail)
    rw [hwd]
    go_wp2_with fail
    go_region_held3 (fun W' => W'.cell? ⟨g, 0, none⟩ = some (.slice (some ⟨g', off, none⟩) L.length c) ∧ W'.cell? ⟨g, 1, none⟩ = some (.int .i64 ((k : Int) + 1)) ∧ W'.cell? ⟨g', off + k, none⟩ = some (.string ⟨s.toArray⟩)) (with_reducible exact HC2.out _ ((Below.refl _ _).drew)) (fail)
    go_wp2_with fail
    go_ret
    exact ⟨by rw [HV.out]; rfl, HP.out.kept HB2.out⟩
  · have hx : x.l = [] := by rw [h4]; exact List.drop_eq_nil_of_le (by omega)
    have hge : (L.length : Int) ≤ (k : Int) := by omega
    have hn : As.next x = ([], ⟨[], false, x.p⟩) := by unfold As.next; rw [hx]
    have HP := Lib.hid (show As.RGo w g (As.next x).2 (wd.setCell ⟨g, 2, none⟩ (.bool false)) from by
      have := hd.flag false
      rw [hn]
      rw [hx] at this
      exact this.after hfr)
    have HV := Lib.hid (show (As.next x).1 = [] from by rw [hn])
    obtain ⟨_, A, c, rfl, hc1, hc2, hcc⟩ := h2
    clear h h1 h3 h4 h5 hcc hx hn hd bd bd' hfr
    go_enter Tryz.func152, Tryz.ntmps152
    go_wp2_with fail
    go_region_held3 (fun W' => W'.cell? ⟨g, 0, none⟩ = some (.slice A L.length c) ∧ W'.cell? ⟨g, 1, none⟩ = some (.int .i64 (k : Int))) (with_reducible exact HC.out _ (Below.refl _ _).drew) (fail)
    rw [hwd]
    go_wp2_with fail
    go_ret
    exact ⟨by rw [HV.out]; rfl, HP.out⟩
set_option maxRecDepth 100000 in
set_option maxHeartbeats 1000000 in
theorem rrdreg_any {w : World} {g : Nat} {x : As.L} (h : As.Rk w g x) :
    Calls Tryz.prog 146 #[.pointer (some ⟨g, 0, none⟩)] w fun e w' => e = .returned (.int .i64 (As.reg x).1) ∧ As.RGo w g (As.reg x).2 w' := by
  have CN := Lib.hid (rnext_any h)
  have CR := Lib.hid (fun W => rreg_any (As.next x).1 W)
  simp only [L6.reg_same] at CR
  have HS := Lib.hid (show As.reg x = ((L6.regV (As.next x).1).1, As.sat (L6.regV (As.next x).1).2 (As.next x).2) from rfl)
  clear h
  generalize As.reg x = X at *
  generalize L6.regV (As.next x).1 = V at *
  generalize As.next x = Y at *
  obtain ⟨s, y⟩ := Y
  obtain ⟨v, b⟩ := V
  dsimp only at *
  go_enter Tryz.func146, Tryz.ntmps146
  go_wp2_with fail
  go_at_call 152
  refine CN.out.mono ?_
  rintro e w1 ⟨rfl, h1, hf1⟩
  go_wp2_with fail
  go_at_call 223
  refine (CR.out _).mono ?_
  rintro e w2 ⟨rfl, hb2⟩
  have hk := h1.kept hb2
  have HF := Lib.hid (show Fr (fun k => k = g) w w2 from hf1.trans (Fr.of_below (F := fun _ => False) hb2) (fun _ e => e.elim))
  have HP := Lib.hid (hk.flag (y.ok && b))
  obtain ⟨vl, L, k, k1, _, _, _, _⟩ := hk.obj
  have c2 := k1.cell 2
  have f2 := k1.free 2
  clear h1 hf1 hk k1
  obtain ⟨yl, yo, yp⟩ := y
  dsimp only at *
  cases yo <;> cases b
  all_goals
    go_wp2_with fail
    go_ret
    exact ⟨by rw [HS.out]; rfl, by rw [HS.out]; exact HP.out.after HF.out⟩
set_option maxRecDepth 100000 in
set_option maxHeartbeats 1000000 in
theorem rrdnum_any {w : World} {g : Nat} {x : As.L} (h : As.Rk w g x) (hs : As.Short x.l) :
    Calls Tryz.prog 147 #[.pointer (some ⟨g, 0, none⟩)] w fun e w' => e = .returned (.int .i64 (As.num x).1) ∧ As.RGo w g (As.num x).2 w' := by
  have CN := Lib.hid (rnext_any h)
  have CR := Lib.hid (fun W => rnumber_any (As.next x).1 W hs.next.1)
  have HS := Lib.hid (show As.num x = ((L6.number (As.next x).1).1, As.sat (L6.number (As.next x).1).2 (As.next x).2) from rfl)
  clear h
  generalize As.num x = X at *
  generalize L6.number (As.next x).1 = V at *
  generalize As.next x = Y at *
  obtain ⟨s, y⟩ := Y
  obtain ⟨v, b⟩ := V
  dsimp only at *
  go_enter Tryz.func147, Tryz.ntmps147
  go_wp2_with fail
  go_at_call 152
  refine CN.out.mono ?_
  rintro e w1 ⟨rfl, h1, hf1⟩
  go_wp2_with fail
  go_at_call 224
  refine (CR.out _).mono ?_
  rintro e w' ⟨rfl, rfl⟩
  have hk := h1
  have HF := Lib.hid (show Fr (fun k => k = g) w w1 from hf1)
  have HP := Lib.hid (hk.flag (y.ok && b))
  obtain ⟨vl, L, k, k1, _, _, _, _⟩ := hk.obj
  have c2 := k1.cell 2
  have f2 := k1.free 2
  clear h1 hf1 hk k1
  obtain ⟨yl, yo, yp⟩ := y
  dsimp only at *
  cases yo <;> cases b
  all_goals
    go_wp2_with fail
    go_ret
    exact ⟨by rw [HS.out]; rfl, by rw [HS.out]; exact HP.out.after HF.out⟩
end Go.Proofs.YtpcpaoeajcjoiaaGreatDoor
/- Layer 7: the document's reader: names, goals. -/
namespace Go.Proofs.YtpcpaoeajcjoiaaGreatDoor
open Go.RowKit Kit
set_option linter.unusedVariables false
set_option linter.unusedSimpArgs false

set_option maxRecDepth 100000 in
set_option maxHeartbeats 1000000 in
theorem rsymbol_any (s : List UInt8) (w : World) (hl : s.length ≤ maxLen) :
    Calls Tryz.prog 225 #[.string ⟨s.toArray⟩] w fun e w' => e = .returned (.bool (As.symbol s)) ∧ Below w.heap.size w w' := by
  have CN := Lib.hid (fun W => rnumber_any s W hl)
  have CR := Lib.hid (rreg_any s w)
  simp only [L6.reg_same] at CR
  have HV := Lib.hid (show As.symbol s = (!(L6.number s).2 && (!(L6.regV s).2 && (!s.isEmpty && s.headD 0 != 34))) from rfl)
  generalize L6.number s = n at *
  generalize L6.regV s = r at *
  obtain ⟨n1, n2⟩ := n
  obtain ⟨r1, r2⟩ := r
  dsimp only at CN CR HV
  unfold maxLen at hl
  cases n2 <;> cases r2
  · by_cases he : s = []
    · subst he
      go_enter Tryz.func225, Tryz.ntmps225
      go_wp2_with (first | (go_at_call 224; refine (CN.out _).mono ?_; rintro e w' ⟨rfl, rfl⟩) | (go_at_call 223; refine CR.out.mono ?_; rintro e w1 ⟨rfl, hb1⟩))
      go_ret
      exact ⟨asret_bool (by rw [HV.out]; rfl), hb1⟩
    · have h0 : 0 < s.length := List.length_pos_iff.2 he
      have hne : (s != ([] : List UInt8)) = true := by simpa using he
      have hne2 : (!s == ([] : List UInt8)) = true := by simpa using he
      have hpos : (0 : Int) < s.length := by omega
      have HC := Lib.hid (show (s.headD 0 != 34) = (((((⟨s.toArray⟩ : ByteArray)[0]'h0).toNat : Int)) != 34) by
        rw [L6.get_data s 0 h0, Bool.eq_iff_iff, bne_iff_ne, bne_iff_ne]
        cases s with
        | nil => exact absurd rfl he
        | cons c t =>
          show (c ≠ 34) ↔ ((c.toNat : Int) ≠ 34)
          constructor
          · intro h e
            exact h (UInt8.toNat.inj (by show c.toNat = 34; omega))
          · rintro h rfl
            exact h rfl)
      have HE := Lib.hid (show s.isEmpty = false from by simpa using he)
      go_enter Tryz.func225, Tryz.ntmps225
      go_wp2_with (first | (go_at_call 224; refine (CN.out _).mono ?_; rintro e w' ⟨rfl, rfl⟩) | (go_at_call 223; refine CR.out.mono ?_; rintro e w1 ⟨rfl, hb1⟩))
      all_goals
        go_ret
        exact ⟨asret_bool (by rw [HV.out, HE.out, HC.out]; simp_all), hb1⟩
  all_goals
    go_enter Tryz.func225, Tryz.ntmps225
    go_wp2_with (first | (go_at_call 224; refine (CN.out _).mono ?_; rintro e w' ⟨rfl, rfl⟩) | (go_at_call 223; refine CR.out.mono ?_; rintro e w1 ⟨rfl, hb1⟩))
    go_ret
    exact ⟨asret_bool (by rw [HV.out]; rfl), hb1⟩
theorem As.either_next (x : As.L) : As.either x = if (L6.number (As.next x).1).2 = true then (((L6.number (As.next x).1).1, []), (As.next x).2) else ((0, (As.name x).1), (As.name x).2) := by
  obtain ⟨l, o, p⟩ := x
  cases l with
  | nil => rfl
  | cons s t => rfl
set_option maxRecDepth 100000 in
set_option maxHeartbeats 1000000 in
theorem rrdname_any {w : World} {g : Nat} {x : As.L} (h : As.Rk w g x) (hs : As.Short x.l) :
    Calls Tryz.prog 151 #[.pointer (some ⟨g, 0, none⟩)] w fun e w' => e = .returned (.string ⟨(As.name x).1.toArray⟩) ∧ As.RGo w g (As.name x).2 w' := by
  have CN := Lib.hid (rnext_any h)
  have CS := Lib.hid (fun W => rsymbol_any (As.next x).1 W hs.next.1)
  have HS := Lib.hid (show As.name x = ((As.next x).1, As.sat (As.symbol (As.next x).1) (As.next x).2) from rfl)
  clear h hs
  generalize As.name x = X at *
  generalize As.next x = Y at *
  obtain ⟨s, y⟩ := Y
  dsimp only at *
  generalize As.symbol s = b at *
  go_enter Tryz.func151, Tryz.ntmps151
  go_wp2_with fail
  go_at_call 152
  refine CN.out.mono ?_
  rintro e w1 ⟨rfl, h1, hf1⟩
  have HK := Lib.hid h1
  have HF := Lib.hid hf1
  obtain ⟨vl, L, k, k1, _, _, _, _⟩ := h1.obj
  have c2 := k1.cell 2
  have f2 := k1.free 2
  clear h1 hf1 k1
  obtain ⟨yl, yo, yp⟩ := y
  dsimp only at *
  cases yo
  · have HP := Lib.hid (HK.out.flag false)
    go_wp2_with fail
    go_ret
    exact ⟨by rw [HS.out]; rfl, by rw [HS.out]; exact HP.out.after HF.out⟩
  · go_wp2_with fail
    go_at_call 225
    refine (CS.out _).mono ?_
    rintro e w2 ⟨rfl, hb2⟩
    have hk := HK.out.kept hb2
    have HF2 := Lib.hid (show Fr (fun k => k = g) w w2 from HF.out.trans (Fr.of_below (F := fun _ => False) hb2) (fun _ e => e.elim))
    have HP := Lib.hid (hk.flag b)
    obtain ⟨vl2, L2, k2, k3, _, _, _, _⟩ := hk.obj
    have c22 := k3.cell 2
    have f22 := k3.free 2
    clear hk k3 c2 f2
    cases b
    all_goals
      go_wp2_with fail
      go_ret
      exact ⟨by rw [HS.out]; rfl, by rw [HS.out]; exact HP.out.after HF2.out⟩
set_option maxRecDepth 100000 in
set_option maxHeartbeats 1000000 in
theorem rrdgoal_any {w : World} {g : Nat} {x : As.L} (h : As.Rk w g x) (hs : As.Short x.l) :
    Calls Tryz.prog 148 #[.pointer (some ⟨g, 0, none⟩)] w fun e w' => e = .returned (.tuple #[.int .i64 (As.either x).1.1, .string ⟨(As.either x).1.2.toArray⟩]) ∧ As.RGo w g (As.either x).2 w' := by
  have CN := Lib.hid (rnext_any h)
  have CS := Lib.hid (fun W => rsymbol_any (As.next x).1 W hs.next.1)
  have CM := Lib.hid (fun W => rnumber_any (As.next x).1 W hs.next.1)
  have HE := Lib.hid (As.either_next x)
  have HS := Lib.hid (show As.name x = ((As.next x).1, As.sat (As.symbol (As.next x).1) (As.next x).2) from rfl)
  clear h hs
  generalize As.either x = E at *
  generalize As.name x = X at *
  generalize As.next x = Y at *
  obtain ⟨s, y⟩ := Y
  dsimp only at *
  generalize As.symbol s = b at *
  generalize L6.number s = M at *
  obtain ⟨m, mo⟩ := M
  dsimp only at *
  go_enter Tryz.func148, Tryz.ntmps148
  go_wp2_with fail
  go_at_call 152
  refine CN.out.mono ?_
  rintro e w1 ⟨rfl, h1, hf1⟩
  have HK := Lib.hid h1
  have HF := Lib.hid hf1
  obtain ⟨vl, L, k, k1, _, _, _, _⟩ := h1.obj
  have c2 := k1.cell 2
  have f2 := k1.free 2
  clear h1 hf1 k1
  cases mo
  rotate_left
  · go_wp2_with (go_at_call 224; refine (CM.out _).mono ?_; rintro e w' ⟨rfl, rfl⟩)
    go_ret2
    exact ⟨by rw [HE.out]; rfl, by rw [HE.out]; exact ⟨HK.out, HF.out⟩⟩
  obtain ⟨yl, yo, yp⟩ := y
  dsimp only at *
  cases yo
  · have HP := Lib.hid (HK.out.flag false)
    go_wp2_with (go_at_call 224; refine (CM.out _).mono ?_; rintro e w' ⟨rfl, rfl⟩)
    go_ret2
    exact ⟨by rw [HE.out, HS.out]; rfl, by rw [HE.out, HS.out]; exact HP.out.after HF.out⟩
  · go_wp2_with (first | (go_at_call 224; refine (CM.out _).mono ?_; rintro e w' ⟨rfl, rfl⟩) | fail)
    go_at_call 225
    refine (CS.out _).mono ?_
    rintro e w2 ⟨rfl, hb2⟩
    have hk := HK.out.kept hb2
    have HF2 := Lib.hid (show Fr (fun k => k = g) w w2 from HF.out.trans (Fr.of_below (F := fun _ => False) hb2) (fun _ e => e.elim))
    have HP := Lib.hid (hk.flag b)
    obtain ⟨vl2, L2, k2, k3, _, _, _, _⟩ := hk.obj
    have c22 := k3.cell 2
    have f22 := k3.free 2
    clear hk k3 c2 f2
    cases b
    all_goals
      go_wp2_with fail
      go_ret2
      exact ⟨by rw [HE.out, HS.out]; rfl, by rw [HE.out, HS.out]; exact HP.out.after HF2.out⟩
end Go.Proofs.YtpcpaoeajcjoiaaGreatDoor
