/- The document's side: label, line. -/
import Derived.Test.YtbkgpnilodjdiaaDoorL6RefW
import Derived.Deep.RegionLaw
namespace Go.Proofs.YtbkgpnilodjdiaaDoor
open Go.RowKit Kit
set_option linter.unusedVariables false
set_option linter.unusedSimpArgs false

theorem L6.label_at (l : List UInt8) (h : 1 < l.length) : L6.label l = ((l.getD (l.length - 1) 0 == 58) && (l.getD 0 0 != 34)) := by
  unfold L6.label
  rw [decide_eq_true h, Bool.true_and]
  have e1 : l.getLastD 0 = l.getD (l.length - 1) 0 := by
    rcases List.eq_nil_or_concat l with rfl | ⟨t, d, rfl⟩
    · simp at h
    · rw [List.concat_eq_append]; simp [List.getD]
  have e2 : l.headD 0 = l.getD 0 0 := by cases l <;> simp [List.getD]
  rw [e1, e2]
theorem rlabel_any (l : List UInt8) (w : World) (hm : l.length ≤ 1000000000) : Calls Tryd.prog 60 #[.string ⟨l.toArray⟩] w fun e w' => e = .returned (.bool (L6.label l)) ∧ w = w' := by
  by_cases h1 : 1 < l.length
  · have g1 : (1 : Int) < l.length := by omega
    have h0 : 0 < l.length := by omega
    have hw : IntKind.i64.wrap ((l.length : Int) - 1) = (l.length : Int) - 1 := by go_bits; exact trivial
    have hn : ((l.length : Int) - 1).toNat = l.length - 1 := by omega
    have hn0 : (0 : Int) ≤ (l.length : Int) - 1 := by omega
    have hn1 : (l.length : Int) - 1 < (l.length : Int) := by omega
    have hlt : l.length - 1 < l.length := by omega
    have e0 : (((((⟨l.toArray⟩ : ByteArray)[0]'h0).toNat : Int)) != 34) = (l.getD 0 0 != 34) := by rw [L6.get_data l 0 h0]; simp only [bne]; rw [← byte_eq]; rfl
    have e1 : (((((⟨l.toArray⟩ : ByteArray)[l.length - 1]'hlt).toNat : Int)) == 58) = (l.getD (l.length - 1) 0 == 58) := by rw [L6.get_data l _ hlt]; exact byte_eq _ 58
    have HR := Lib.hid (L6.label_at l h1)
    cases c0 : (l.getD (l.length - 1) 0 == 58)
    · rw [c0] at e1
      have C0 := Lib.hid c0
      clear e0 c0
      go_enter Tryd.func60, Tryd.ntmps60
      go_wp2
      go_ret
      exact ⟨lret_bool (by rw [HR.out, C0.out]; rfl), rfl⟩
    · rw [c0] at e1
      have C0 := Lib.hid c0
      have E0 := Lib.hid e0
      clear c0 e0
      go_enter Tryd.func60, Tryd.ntmps60
      go_wp2
      go_ret
      exact ⟨lret_bool (by rw [HR.out, C0.out, ← E0.out]; rfl), rfl⟩
  · have g1 : ¬ (1 : Int) < l.length := by omega
    have HR := Lib.hid (show L6.label l = false by unfold L6.label; simp [h1])
    clear h1
    go_enter Tryd.func60, Tryd.ntmps60
    go_wp2
    go_ret
    exact ⟨lret_bool HR.out.symm, rfl⟩
structure RLineAt (w : World) (base gx : Nat) (vl : Value) (labs : List (List UInt8)) : Prop where
  bk : Bk w gx 47 #[vl, .string ⟨#[]⟩, .slice none 0 0]
  own : OwnS base w vl labs
  ge : base ≤ gx
structure RFin2 (s : Nat) (vl va : Value) (labs args : List (List UInt8)) (w w1 : World) : Prop where
  one : OwnS s w1 vl labs
  two : OwnS s w1 va args
  low : ∃ cs, Bk w1 s 47 cs
  high : ∃ cs, Bk w1 (s + 1) 47 cs
  below : Below s w w1
theorem RFin2.set {s : Nat} {vl va : Value} {labs args : List (List UInt8)} {w w1 : World} (h : RFin2 s vl va labs args w w1) (g i : Nat) (hg : g = s ∨ g = s + 1) (u : Value) : RFin2 s vl va labs args w (w1.setCell ⟨g, i, none⟩ u) := by
  obtain ⟨h1, h2, ⟨c1, h3⟩, ⟨c2, h4⟩, h5⟩ := h
  have hb : But g w1 (w1.setCell ⟨g, i, none⟩ u) := But.setCell _ _ _ _
  rcases hg with rfl | rfl
  · exact ⟨h1.but hb (own_ne h1 h3 (by decide)), h2.but hb (own_ne h2 h3 (by decide)), ⟨_, h3.set i u⟩, ⟨_, hb.bk h4 (by omega)⟩, h5.setCell (Nat.le_refl _) u⟩
  · exact ⟨h1.but hb (own_ne h1 h4 (by decide)), h2.but hb (own_ne h2 h4 (by decide)), ⟨_, hb.bk h3 (by omega)⟩, ⟨_, h4.set i u⟩, h5.setCell (by simp) u⟩
/-- The k-th text of a slice. -/
theorem RdS.at {w : World} {v : Value} {l : List (List UInt8)} (h : RdS w v l) {k : Nat} (hk : k < l.length) : ∃ g off c, v = .slice (some ⟨g, off, none⟩) l.length c ∧ g < w.heap.size ∧ w.cell? ⟨g, off + k, none⟩ = some (.string ⟨(l.getD k []).toArray⟩) := by
  obtain ⟨hl, A, c, rfl, h2, h3, h4⟩ := h
  obtain ⟨g, off, rfl, hg, hc⟩ := h4 (by omega)
  refine ⟨g, off, c, rfl, hg, ?_⟩
  refine hc k _ ?_
  simp [L6.sv, List.getD, List.getElem?_eq_getElem hk]
/-- A slice of texts from k on. -/
theorem RdS.drop {w : World} {v : Value} {l : List (List UInt8)} (h : RdS w v l) {k : Nat} (hk : k ≤ l.length) :
    ∃ v2, (∀ (K : IntKind) W, (Instr.slice 43 v (some (.int K (k : Int))) none none).run Tryd.prog W = .ok v2 W) ∧ RdS w v2 (l.drop k) ∧ ∀ A c, v = .slice A l.length c → v2 = sliced A k l.length c 1 := by
  obtain ⟨hl, A, c, rfl, h2, h3, h4⟩ := h
  refine ⟨sliced A k l.length c 1, ?_, ?_, fun A' c' e => by injection e with e1 e2 e3; rw [e1, e3]⟩
  · intro K W
    have h3' := h3
    unfold maxLen at h3'
    have helem : Tryd.prog.elem 43 = 9 := by simp [Program.elem, Tryd.underlying43]
    have ht : Tryd.prog.underlying 43 = some (.slice (Tryd.prog.elem 43)) := by rw [helem]; exact Tryd.underlying43
    obtain ⟨i, z, hi, hz, hs, hb, hzs⟩ := lsrt.info
    have hsz : (sizeOf (Tryd.prog.elem 43)).run Tryd.prog W = .ok 1 W := by rw [helem]; simp [sizeOf, typeInfo, hi, hs]
    rw [run_slice_l (w := W) 43 _ _ _ ht K k (by omega) (by simp <;> omega), hsz]
    simp
  · refine ⟨by simp [L6.sv], ?_⟩
    unfold sliced
    by_cases hkl : k = l.length
    · subst hkl
      have hd : l.drop l.length = [] := List.drop_of_length_le (Nat.le_refl _)
      rw [hd]
      by_cases hcl : c = l.length
      · exact ⟨A, c - l.length, by rw [if_pos hcl]; simp, by simp, by omega, fun hn => by simp at hn⟩
      · exact ⟨A.map (·.add (l.length * 1)), c - l.length, by rw [if_neg hcl]; simp, by simp, by omega, fun hn => by simp at hn⟩
    · obtain ⟨g, off, rfl, hg, hc⟩ := h4 (by omega)
      have hcl : c ≠ k := by omega
      refine ⟨some ⟨g, off + k, none⟩, c - k, by rw [if_neg hcl]; simp [addr_add], by simp; omega, by omega, fun _ => ⟨g, off + k, rfl, hg, fun j u hu => ?_⟩⟩
      have := hc (k + j) u (by simpa [L6.sv, List.getElem?_drop] using hu)
      rw [show off + k + j = off + (k + j) by omega]
      exact this
theorem L6.labels_drop {ws : List (List UInt8)} {k : Nat} (hk : k < ws.length) (h : L6.label (ws.getD k []) = true) : L6.labels (ws.drop k) = (ws.getD k []).dropLast :: L6.labels (ws.drop (k + 1)) ∧ L6.rest (ws.drop k) = L6.rest (ws.drop (k + 1)) := by
  have e : ws.drop k = ws.getD k [] :: ws.drop (k + 1) := by rw [List.drop_eq_getElem_cons hk]; simp [List.getD, hk]
  rw [e]
  generalize ws.getD k [] = x at h ⊢
  simp [L6.labels, L6.rest, h]
theorem L6.labels_stop {ws : List (List UInt8)} {k : Nat} (hk : k < ws.length) (h : L6.label (ws.getD k []) = false) : L6.labels (ws.drop k) = [] ∧ L6.rest (ws.drop k) = ws.getD k [] :: ws.drop (k + 1) := by
  have e : ws.drop k = ws.getD k [] :: ws.drop (k + 1) := by rw [List.drop_eq_getElem_cons hk]; simp [List.getD, hk]
  rw [e]
  generalize ws.getD k [] = x at h ⊢
  simp [L6.labels, L6.rest, h]
theorem L6.rline_round {ws : List (List UInt8)} {w wr W1 w3 : World} {labs : List (List UInt8)} {x : List UInt8} {vl v3 : Value}
    (HLA : RLineAt wr w.heap.size (w.heap.size + 1) vl labs) (HB : Below w.heap.size w wr) (h1 : Below wr.heap.size wr W1) (hk : labs.length < ws.length) (hxx : ws.getD labs.length [] = x)
    (HLB : L6.labels ws = labs ++ L6.labels (ws.drop labs.length)) (HRE : L6.rest ws = L6.rest (ws.drop labs.length))
    (hb : L6.label x = true) (HRB : Bk wr w.heap.size 47 #[.slice none 0 0, .string ⟨#[]⟩, .slice none 0 0])
    (ho3 : w3.ownsRow w.heap.size 9 1 v3 (labs.length + 1) (L6.sv labs ++ [.string ⟨x.dropLast.toArray⟩])) (hb3 : Below w.heap.size W1 w3) (hg3 : W1.grownBy w3 vl.ownBlock)
    (hk3 : Bk w3 (w.heap.size + 1) 47 #[vl, .string ⟨#[]⟩, .slice none 0 0]) :
    ∃ (labs' : List (List UInt8)) (vl' : Value), Value.int .i64 ((labs.length : Int) + 1) = .int .i64 (labs'.length : Int) ∧ labs'.length ≤ ws.length ∧ RLineAt (w3.setCell ⟨w.heap.size + 1, 0, none⟩ v3) w.heap.size (w.heap.size + 1) vl' labs' ∧ L6.labels ws = labs' ++ L6.labels (ws.drop labs'.length) ∧ L6.rest ws = L6.rest (ws.drop labs'.length) ∧ Bk (w3.setCell ⟨w.heap.size + 1, 0, none⟩ v3) w.heap.size 47 #[.slice none 0 0, .string ⟨#[]⟩, .slice none 0 0] ∧ Below w.heap.size w (w3.setCell ⟨w.heap.size + 1, 0, none⟩ v3) := by
  have hs0 := HB.size
  have hbut : But (w.heap.size + 1) w3 (w3.setCell ⟨w.heap.size + 1, 0, none⟩ v3) := But.setCell _ _ _ _
  have hw3 : Below w.heap.size wr w3 := (h1.mono hs0).trans hb3
  have hfin : Below w.heap.size wr (w3.setCell ⟨w.heap.size + 1, 0, none⟩ v3) := hw3.setCell (by simp) _
  have hown3 : OwnS w.heap.size w3 v3 (labs ++ [x.dropLast]) := by
    unfold OwnS
    simpa [L6.sv] using ho3
  have hR1 : Bk W1 w.heap.size 47 #[.slice none 0 0, .string ⟨#[]⟩, .slice none 0 0] := HRB.kept h1
  have hR3 : Bk w3 w.heap.size 47 #[.slice none 0 0, .string ⟨#[]⟩, .slice none 0 0] :=
    (hg3.block _ hR1.lt (fun e => own_ne (HLA.own.kept h1) hR1 (by decide) e.symm)).trans hR1
  obtain ⟨g1, g2⟩ := L6.labels_drop hk (by rw [hxx]; exact hb)
  rw [hxx] at g1
  refine ⟨labs ++ [x.dropLast], v3, by simp, by simp; omega, ⟨?_, hown3.but hbut (own_ne hown3 hk3 (by decide)), by omega⟩, ?_, ?_, hbut.bk hR3 (by omega), HB.trans hfin⟩
  · have := hk3.set 0 v3
    simpa using this
  · rw [HLB, g1]; simp
  · rw [HRE, g2]; simp
set_option maxRecDepth 20000 in
set_option maxHeartbeats 2000000 in
theorem rline_any (v : Value) (ws : List (List UInt8)) (w : World) (h : RdS w v ws) (hl : ws.length ≤ 1000000000) (hs : ∀ x ∈ ws, x.length ≤ 1000000000) :
    Calls Tryd.prog 42 #[v] w fun e w' => ∃ vl va, e = .returned (.agg #[vl, .string ⟨(L6.line ws).word.toArray⟩, va]) ∧ OwnS w.heap.size w' vl (L6.line ws).labels ∧ OwnS w.heap.size w' va (L6.line ws).args ∧ Below w.heap.size w w' := by
  have HH := Lib.hid h
  have HLL := Lib.hid (show ws.length ≤ 1000000000 from hl)
  have HS := Lib.hid hs
  obtain ⟨A, c, rfl⟩ := h.form
  clear h hs
  go_enter Tryd.func42, Tryd.ntmps42
  go_wp2_with fail
  have HB0 := Lib.hid (show Below w.heap.size w ((w.alloc (.cells #[.slice none 0 0, .string ⟨#[]⟩, .slice none 0 0] 47)).alloc (.cells #[.slice none 0 0, .string ⟨#[]⟩, .slice none 0 0] 47)) from ((Below.refl _ _).alloc (Nat.le_refl _) _).alloc (by simp) _)
  have HK0 := Lib.hid (show Bk ((w.alloc (.cells #[.slice none 0 0, .string ⟨#[]⟩, .slice none 0 0] 47)).alloc (.cells #[.slice none 0 0, .string ⟨#[]⟩, .slice none 0 0] 47)) (w.heap.size + 1) 47 #[.slice none 0 0, .string ⟨#[]⟩, .slice none 0 0] from by
    have := Bk.fresh (w.alloc (.cells #[.slice none 0 0, .string ⟨#[]⟩, .slice none 0 0] 47)) 47 #[.slice none 0 0, .string ⟨#[]⟩, .slice none 0 0]
    rwa [World.size_alloc] at this)
  have HR0 := Lib.hid (show Bk ((w.alloc (.cells #[.slice none 0 0, .string ⟨#[]⟩, .slice none 0 0] 47)).alloc (.cells #[.slice none 0 0, .string ⟨#[]⟩, .slice none 0 0] 47)) w.heap.size 47 #[.slice none 0 0, .string ⟨#[]⟩, .slice none 0 0] from
    (Bk.fresh w _ _).kept ((Below.refl _ _).alloc (Nat.le_refl _) _))
  go_loopw [4] (fun i wr => ∃ (labs : List (List UInt8)) (vl : Value), i = .int .i64 (labs.length : Int) ∧ labs.length ≤ ws.length ∧ RLineAt wr w.heap.size (w.heap.size + 1) vl labs ∧ L6.labels ws = labs ++ L6.labels (ws.drop labs.length) ∧ L6.rest ws = L6.rest (ws.drop labs.length) ∧ Bk wr w.heap.size 47 #[.slice none 0 0, .string ⟨#[]⟩, .slice none 0 0] ∧ Below w.heap.size w wr) (fun i _ => match i with | .int _ n => ws.length - n.toNat | _ => 0)
  case atStart => exact ⟨[], .slice none 0 0, rfl, by simp, ⟨HK0.out, OwnS.nil _ _, by omega⟩, rfl, rfl, HR0.out, HB0.out⟩
  case round =>
    obtain ⟨labs, vl, rfl, hle, hla, hlb, hre, hrb, hbr⟩ := hrel
    have HLA := Lib.hid hla
    have HLB := Lib.hid hlb
    have HRE := Lib.hid hre
    have HRB := Lib.hid hrb
    have HBR := Lib.hid hbr
    have HLE := Lib.hid hle
    clear hlb hre hrb hbr hl
    obtain ⟨AV, cV, rfl⟩ := hla.own.form
    clear hla
    have k0 : wr.cell? ⟨w.heap.size + 1, 0, none⟩ = some (.slice AV labs.length cV) := HLA.out.bk.cell 0
    have k1 : wr.cell? ⟨w.heap.size + 1, 1, none⟩ = some (.string ⟨#[]⟩) := HLA.out.bk.cell 1
    have k2 : wr.cell? ⟨w.heap.size + 1, 2, none⟩ = some (.slice none 0 0) := HLA.out.bk.cell 2
    have x0 := HLA.out.bk.free 0
    have x1 := HLA.out.bk.free 1
    have x2 := HLA.out.bk.free 2
    have z0 : wr.cell? ⟨w.heap.size, 0, none⟩ = some (.slice none 0 0) := HRB.out.cell 0
    have z1 : wr.cell? ⟨w.heap.size, 1, none⟩ = some (.string ⟨#[]⟩) := HRB.out.cell 1
    have z2 : wr.cell? ⟨w.heap.size, 2, none⟩ = some (.slice none 0 0) := HRB.out.cell 2
    have y0 := HRB.out.free 0
    have y1 := HRB.out.free 1
    have y2 := HRB.out.free 2
    by_cases hk : labs.length < ws.length
    · have hk' : (labs.length : Int) < (ws.length : Int) := by omega
      obtain ⟨g, off, c', e, hg, hcell⟩ := HH.out.at hk
      injection e with e1 e2 e3
      subst e1 e3
      have hcr : wr.cell? ⟨g, off + labs.length, none⟩ = some (.string ⟨(ws.getD labs.length []).toArray⟩) := (HBR.out.cell (p := ⟨g, off + labs.length, none⟩) hg).trans hcell
      have hxl : (ws.getD labs.length []).length ≤ 1000000000 := HS.out _ (by rw [List.getD, List.getElem?_eq_getElem hk]; exact List.getElem_mem hk)
      have HGW := Lib.hid hg
      have HCELL := Lib.hid hcell
      clear hcell hle
      generalize hxx : ws.getD labs.length [] = x at hcr hxl
      have HXX := Lib.hid hxx
      clear hxx
      have CL := Lib.hid (fun W => rlabel_any x W hxl)
      have HXL := Lib.hid hxl
      clear hxl
      cases hb : L6.label x
      · rw [hb] at CL
        have HX := Lib.hid hb
        clear hb
        go_wp2_with (go_at_call 60; refine (CL.out _).mono ?_; rintro e w' ⟨rfl, rfl⟩)
        have hne : w.heap.size + 1 ≠ g := by have := HGW.out; omega
        have hw1 : IntKind.i64.wrap ((labs.length : Int) + 1) = ((labs.length + 1 : Nat) : Int) := by
          have e : ((labs.length + 1 : Nat) : Int) = (labs.length : Int) + 1 := by omega
          rw [e]
          have := HLL.out
          go_bits
          exact trivial
        have hbw : Below wr.heap.size wr (wr.setCell ⟨w.heap.size + 1, 1, none⟩ (.string ⟨x.toArray⟩)).drew → True := fun _ => trivial
        clear hbw
        have hb1 := HLA.out.bk.set 1 (.string ⟨x.toArray⟩)
        have hb0 := (But.setCell wr (w.heap.size + 1) 1 (.string ⟨x.toArray⟩)).bk HRB.out (by omega)
        have hbb : Below w.heap.size w (wr.setCell ⟨w.heap.size + 1, 1, none⟩ (.string ⟨x.toArray⟩)) := HBR.out.setCell (by simp) _
        have hob := HLA.out.own.but (But.setCell wr (w.heap.size + 1) 1 (.string ⟨x.toArray⟩)) (own_ne HLA.out.own HLA.out.bk (by decide))
        simp only [List.setIfInBounds_toArray, List.set_cons_zero, List.set_cons_succ] at hb1
        generalize wr.setCell ⟨w.heap.size + 1, 1, none⟩ (.string ⟨x.toArray⟩) = w1 at hb1 hb0 hbb hob ⊢
        clear k0 k1 k2 x0 x1 x2 z0 z1 z2 y0 y1 y2 hcr
        have HB1 := Lib.hid hb1
        have HB00 := Lib.hid hb0
        have HBB := Lib.hid hbb
        have HOB := Lib.hid hob
        have k2 : w1.cell? ⟨w.heap.size + 1, 2, none⟩ = some (.slice none 0 0) := hb1.cell 2
        have x2 := hb1.free 2
        have kd2 : w1.drew.cell? ⟨w.heap.size + 1, 2, none⟩ = some (.slice none 0 0) := k2
        have hrd : RdS w1 (.slice (some ⟨g, off, none⟩) ws.length c) ws := Rd.below HH.out hbb (fun kk o cc e _ => by injection e with e1 e2 e3; injection e1 with e1; injection e1 with e1 e2; have := HGW.out; omega)
        obtain ⟨v2, hsl, hr2, hv2⟩ := hrd.drop (k := labs.length + 1) hk
        have hv2 := hv2 _ _ rfl
        simp only [sliced, Nat.mul_one, Option.map_some, addr_add] at hv2
        subst hv2
        clear hsl
        have hq0 : (0 : Int) ≤ (labs.length : Int) + 1 := by omega
        have hq1 : (labs.length : Int) + 1 ≤ (ws.length : Int) := by omega
        have HS1 := Lib.hid (show Src Tryd.prog 1 43 (.slice (if c = labs.length + 1 then some ⟨g, off, none⟩ else some ⟨g, off + (labs.length + 1), none⟩) (ws.length - (labs.length + 1)) (c - (labs.length + 1))) (ws.drop (labs.length + 1)).length (L6.sv (ws.drop (labs.length + 1))) w1.drew from Rd.src lsrt (hr2.kept (Below.refl _ _).drew) (L6.sv_one _))
        have HL1 := Lib.hid (show (0 + (ws.drop (labs.length + 1)).length) * 16 ≤ 140737488355328 by have := HLL.out; simp; omega)
        have HL2 := Lib.hid (show 0 + (ws.drop (labs.length + 1)).length ≤ maxLen by have := HLL.out; unfold maxLen; simp; omega)
        have HZ1 := Lib.hid (show w.heap.size ≤ w1.drew.heap.size from HBB.out.size)
        have KEEP := Lib.hid (show ∀ w3, w1.drew.grownBy w3 none → Bk w3 (w.heap.size + 1) 47 #[.slice AV labs.length cV, .string ⟨x.toArray⟩, .slice none 0 0] ∧ Bk w3 w.heap.size 47 #[.slice none 0 0, .string ⟨#[]⟩, .slice none 0 0] from fun w3 hg3 =>
          ⟨(hg3.block _ HB1.out.lt (by simp)).trans HB1.out, (hg3.block _ HB00.out.lt (by simp)).trans HB00.out⟩)
        clear hr2 hrd hb1 hb0 hbb hob
        have e1 : L6.line ws = ⟨labs, x, ws.drop (labs.length + 1)⟩ := by
          have h1 := HLB.out
          have h2 := HRE.out
          have h3 := L6.labels_stop hk (by rw [HXX.out]; exact HX.out)
          rw [h3.1, List.append_nil] at h1
          rw [h3.2, HXX.out] at h2
          unfold L6.line
          rw [h1, h2]
          rfl
        have E1 := Lib.hid e1
        clear e1
        go_region_law (refine step_appendR (by rfl) _ _ _ _ (by rfl) lsrt (by decide) w.heap.size (.slice none 0 0) (by rfl) 0 [] (World.ownsRow_nil _ _ _ _) _ (by rfl) (ws.drop (labs.length + 1)).length (L6.sv (ws.drop (labs.length + 1))) HS1.out HL1.out HL2.out HZ1.out ?_; intro v3 w3 ho3 hb3 hg3; obtain ⟨A3, c3, rfl⟩ := (Rd.of_own ho3).form; obtain ⟨hk3, hr3⟩ := KEEP.out w3 hg3; have q0 := hk3.cell 0; have q1 := hk3.cell 1; have q2 := hk3.cell 2; have p2 := hk3.free 2; have z0 := hr3.cell 0; have z1 := hr3.cell 1; have z2 := hr3.cell 2; have y0 := hr3.free 0; have y1 := hr3.free 1; have y2 := hr3.free 2)
        all_goals go_wp2_with fail
        all_goals refine bodyPost_ret (v := .agg #[.slice AV labs.length cV, .string ⟨x.toArray⟩, .slice A3 (ws.length - (labs.length + 1)) c3]) (by simp [results, Tryd.results42, go_sem, z0, z1, z2]) rfl ?_
        all_goals have ho4 : OwnS w.heap.size w3 (.slice A3 (ws.length - (labs.length + 1)) c3) (ws.drop (labs.length + 1)) := by unfold OwnS; simpa using ho3
        all_goals have hol : OwnS w.heap.size w3 (.slice AV labs.length cV) labs := own_up HOB.out (fun g' _ hg' => hg3.block g' hg' (by simp [Value.ownBlock]))
        all_goals have hF : RFin2 w.heap.size (.slice AV labs.length cV) (.slice A3 (ws.length - (labs.length + 1)) c3) labs (ws.drop (labs.length + 1)) w w3 := ⟨hol, ho4, ⟨_, hr3⟩, ⟨_, hk3⟩, HBB.out.drew.trans hb3⟩
        all_goals have hF := (((hF.set (w.heap.size + 1) 2 (.inr rfl) (.slice A3 (ws.length - (labs.length + 1)) c3)).set w.heap.size 0 (.inl rfl) (.slice AV labs.length cV)).set w.heap.size 1 (.inl rfl) (.string ⟨x.toArray⟩)).set w.heap.size 2 (.inl rfl) (.slice A3 (ws.length - (labs.length + 1)) c3)
        all_goals rw [E1.out]
        all_goals exact ⟨_, _, rfl, hF.one, hF.two, hF.below⟩
      · rw [hb] at CL
        have HX := Lib.hid hb
        have hx2 : 1 < x.length := by unfold L6.label at hb; simp at hb; exact hb.1
        have hxl := HXL.out
        have hw : IntKind.i64.wrap ((x.length : Int) - 1) = (x.length : Int) - 1 := by go_bits; exact trivial
        have hn0 : (0 : Int) ≤ (x.length : Int) - 1 := by omega
        have hn1 : (x.length : Int) - 1 ≤ (x.length : Int) := by omega
        have hn2 : (1 : Int) ≤ (x.length : Int) := by omega
        have hn : ((x.length : Int) - 1).toNat = x.length - 1 := by omega
        have hw1 : IntKind.i64.wrap ((labs.length : Int) + 1) = (labs.length : Int) + 1 := by have := HLL.out; go_bits; exact trivial
        have hxe : (⟨x.toArray⟩ : ByteArray).extract 0 (x.length - 1) = ⟨x.dropLast.toArray⟩ := by rw [ext_eq, List.dropLast_eq_take]; simp
        have HXE := Lib.hid hxe
        have ka : (wr.alloc (.cells #[.string ((⟨x.toArray⟩ : ByteArray).extract 0 (x.length - 1))] 9)).cell? ⟨w.heap.size + 1, 0, none⟩ = some (.slice AV labs.length cV) := (HLA.out.bk.kept ((Below.refl _ _).alloc (Nat.le_refl _) _)).cell 0
        have HO1 := Lib.hid (show (wr.drew.alloc (.cells #[.string ((⟨x.toArray⟩ : ByteArray).extract 0 (x.length - 1))] 9)).ownsRow w.heap.size 9 1 (.slice AV labs.length cV) labs.length (L6.sv labs) from
          (HLA.out.own.kept (Below.refl _ _).drew).kept ((Below.refl _ _).alloc (Nat.le_refl _) _))
        have HS1 := Lib.hid (show Src Tryd.prog 1 43 (.slice (some ⟨wr.heap.size, 0, none⟩) 1 1) 1 [.string ((⟨x.toArray⟩ : ByteArray).extract 0 (x.length - 1))] (wr.drew.alloc (.cells #[.string ((⟨x.toArray⟩ : ByteArray).extract 0 (x.length - 1))] 9)) by rw [hxe]; exact src_one wr.drew x.dropLast)
        have HL1 := Lib.hid (show (labs.length + 1) * 16 ≤ 140737488355328 by have := HLL.out; omega)
        have HL2 := Lib.hid (show labs.length + 1 ≤ maxLen by have := HLL.out; unfold maxLen; omega)
        have HZ1 := Lib.hid (show w.heap.size ≤ (wr.drew.alloc (.cells #[.string ((⟨x.toArray⟩ : ByteArray).extract 0 (x.length - 1))] 9)).heap.size from by have := HBR.out.size; simp; omega)
        have KEEP := Lib.hid (show ∀ w3, (wr.drew.alloc (.cells #[.string ((⟨x.toArray⟩ : ByteArray).extract 0 (x.length - 1))] 9)).grownBy w3 (Value.slice AV labs.length cV).ownBlock → Bk w3 (w.heap.size + 1) 47 #[.slice AV labs.length cV, .string ⟨#[]⟩, .slice none 0 0] from fun w3 hg3 => by
          have hb : Bk (wr.drew.alloc (.cells #[.string ((⟨x.toArray⟩ : ByteArray).extract 0 (x.length - 1))] 9)) (w.heap.size + 1) 47 #[.slice AV labs.length cV, .string ⟨#[]⟩, .slice none 0 0] := (HLA.out.bk.kept (Below.refl _ _).drew).kept ((Below.refl _ _).alloc (Nat.le_refl _) _)
          exact (hg3.block _ hb.lt (fun e => own_ne HO1.out hb (by decide) e.symm)).trans hb)
        clear hb hxe
        go_wp2_with (go_at_call 60; refine (CL.out _).mono ?_; rintro e w' ⟨rfl, rfl⟩)
        go_region_law (refine step_appendR (by rfl) _ _ _ _ (by rfl) lsrt (by decide) w.heap.size (.slice AV labs.length cV) (by rfl) labs.length (L6.sv labs) HO1.out _ (by rfl) 1 [.string ((⟨x.toArray⟩ : ByteArray).extract 0 (x.length - 1))] HS1.out HL1.out HL2.out HZ1.out ?_; intro v3 w3 ho3 hb3 hg3; obtain ⟨A3, c3, rfl⟩ := (Rd.of_own ho3).form; have hk3 := KEEP.out w3 hg3; have k3 := hk3.cell 0; have f3 := hk3.free 0)
        all_goals go_wp2_with fail
        all_goals go_roundw
        all_goals first
          | (case rel => exact L6.rline_round HLA.out HBR.out ((Below.refl _ _).drew.alloc (Nat.le_refl _) _) hk HXX.out HLB.out HRE.out HX.out HRB.out (by rw [HXE.out] at ho3; exact ho3) hb3 hg3 hk3)
          | (case measure => simp; omega)
    · have hge : (ws.length : Int) ≤ (labs.length : Int) := by omega
      have heq : labs.length = ws.length := by omega
      have e1 : L6.line ws = ⟨labs, [], []⟩ := by
        have h1 := HLB.out
        have h2 := HRE.out
        rw [List.drop_of_length_le (by omega)] at h1 h2
        unfold L6.line
        rw [h1, h2]
        simp [L6.labels, L6.rest]
      have E1 := Lib.hid e1
      clear e1 heq hk hle
      go_wp2_with fail
      refine bodyPost_ret (v := .agg #[.slice AV labs.length cV, .string ⟨#[]⟩, .slice none 0 0]) (by simp [results, Tryd.results42, go_sem, z0, z1, z2]) rfl ?_
      rw [E1.out]
      have hF : RFin2 w.heap.size (.slice AV labs.length cV) (.slice none 0 0) labs [] w wr := ⟨HLA.out.own, OwnS.nil _ _, ⟨_, HRB.out⟩, ⟨_, HLA.out.bk⟩, HBR.out⟩
      have hF := ((hF.set w.heap.size 0 (.inl rfl) (.slice AV labs.length cV)).set w.heap.size 1 (.inl rfl) (.string ⟨#[]⟩)).set w.heap.size 2 (.inl rfl) (.slice none 0 0)
      exact ⟨_, _, rfl, hF.one, hF.two, hF.below⟩
end Go.Proofs.YtbkgpnilodjdiaaDoor
