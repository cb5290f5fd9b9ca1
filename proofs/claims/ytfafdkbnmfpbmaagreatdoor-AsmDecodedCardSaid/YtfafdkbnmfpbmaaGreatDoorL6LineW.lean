/- The walk of line. -/
import Derived.Test.YtfafdkbnmfpbmaaGreatDoorL6Line
import Derived.Deep.RegionLaw
namespace Go.Proofs.YtfafdkbnmfpbmaaGreatDoor
open Go.RowKit Kit
set_option linter.unusedVariables false
set_option linter.unusedSimpArgs false

theorem lclone_any (v : Value) (l : List (List UInt8)) (w : World) (h : RdS w v l) (hl : l.length ≤ 1000000000) :
    Calls Tryz.prog 193 #[v] w fun e w' => ∃ v', e = .returned v' ∧ OwnS w.heap.size w' v' l ∧ Below w.heap.size w w' := by
  cases l with
  | nil =>
    obtain ⟨A, c, rfl⟩ := h.nil_form
    cases A with
    | none =>
      refine (Tryz.slices_Clone_string_nil 0 c w).mono ?_
      rintro e w' ⟨rfl, rfl⟩
      exact ⟨_, rfl, OwnS.nil _ _, Below.refl _ _⟩
    | some a =>
      refine (Tryz.slices_Clone_string_zero a c w).mono ?_
      rintro e w' ⟨v', rfl, h1, _, h3⟩
      exact ⟨_, rfl, h1, h3⟩
  | cons x t =>
    have hpos : 0 < (x :: t).length := by simp
    generalize x :: t = ys at *
    obtain ⟨hl1, A, c, rfl, h2, h3, h4⟩ := h
    obtain ⟨g, off, rfl, hg, hc⟩ := h4 hpos
    refine (Tryz.slices_Clone_string g off ys.length c (ys.map fun y => ⟨y.toArray⟩) w (by simp) (by omega) (fun j hj => ?_)).mono ?_
    · simp only [List.length_map] at hj
      refine (hc j _ (by simp only [L6.sv]; rw [List.getElem?_map, List.getElem?_eq_getElem hj]; rfl)).trans ?_
      simp only [List.getD, List.getElem?_map, List.getElem?_eq_getElem hj, Option.map_some, Option.getD_some]
    · rintro e w' ⟨v', rfl, h1, _, h5⟩
      refine ⟨_, rfl, ?_, h5⟩
      unfold OwnS
      have e1 : ((ys.map fun y => (⟨y.toArray⟩ : ByteArray)).take ys.length).map Value.string = L6.sv ys := by
        rw [List.take_of_length_le (by simp)]; simp [L6.sv]
      rw [e1] at h1
      exact h1
theorem L6.trim_label (x : List UInt8) (h : L6.label x = true) : Lib.trimSuffix x [58] = x.dropLast := by
  unfold L6.label at h
  simp only [Bool.and_eq_true, decide_eq_true_eq] at h
  unfold Lib.trimSuffix
  have hne : x.isEmpty = false := by cases x with | nil => simp at h | cons a b => rfl
  rw [L6.suffix_one, hne, h.2.1, List.dropLast_eq_take]
  simp
/-- x's block while its labels are gathered. -/
theorem own_ne {w : World} {base : Nat} {t : TypeId} {size : Nat} {v : Value} {n : Nat} {xs : List Value} (h : w.ownsRow base t size v n xs) {g : Nat} {t' : TypeId} {cs : Array Value} (hb : Bk w g t' cs) (ht : t' ≠ t) : v.ownBlock ≠ some g := by
  rcases h.2 with ⟨rfl, _⟩ | ⟨g', cap, cur, rfl, _, hh, _⟩
  · simp [Value.ownBlock]
  · intro e
    simp [Value.ownBlock] at e
    subst e
    exact ht (hb.uniq (t' := t) hh).1
structure LineAt (w : World) (base gx : Nat) (vl : Value) (labs : List (List UInt8)) : Prop where
  bk : Bk w gx 50 #[vl, .string ⟨#[]⟩, .slice none 0 0]
  own : OwnS base w vl labs
  ge : base ≤ gx
theorem OwnS.but {base g : Nat} {w w' : World} {v : Value} {l : List (List UInt8)} (h : OwnS base w v l) (hb : But g w w') (hne : v.ownBlock ≠ some g) : OwnS base w' v l := by
  obtain ⟨h1, h2⟩ := h
  refine ⟨h1, ?_⟩
  rcases h2 with h2 | ⟨g', cap, cur, rfl, hb', hh, rest⟩
  · exact .inl h2
  · exact .inr ⟨g', cap, cur, rfl, hb', (hb.block (Array.getElem?_eq_some_iff.1 hh).1 (fun e => hne (by simp [Value.ownBlock, e]))).trans hh, rest⟩
theorem slice_length {v2 : Value} {w : World} {t : List (List UInt8)} (h : RdS w v2 t) : (match v2 with | .slice _ n _ => n | _ => 0) = t.length := by
  obtain ⟨A, c, rfl⟩ := h.form
  rfl
theorem L6.line_round {ws : List (List UInt8)} {w wr W1 w3 : World} {labs t : List (List UInt8)} {x : List UInt8} {vl v2 v3 : Value} {g off c1 : Nat}
    (HLA : LineAt wr w.heap.size (w.heap.size + 1) vl labs) (HB : Below w.heap.size w wr) (h1 : Below wr.heap.size wr W1)
    (HLB : L6.labels ws = labs ++ L6.labels (x :: t)) (HRE : L6.rest ws = L6.rest (x :: t)) (HIN : ∀ y ∈ x :: t, y ∈ ws) (HLEN : labs.length + (x :: t).length ≤ ws.length)
    (hb : L6.label x = true) (HRB : Bk wr w.heap.size 50 #[.slice none 0 0, .string ⟨#[]⟩, .slice none 0 0]) (hgw : g < w.heap.size)
    (HV2 : ∀ g' off' n' c', v2 = .slice (some ⟨g', off', none⟩) n' c' → g' = g) (HR2 : RdS wr v2 t)
    (ho3 : w3.ownsRow w.heap.size 9 1 v3 (labs.length + 1) (L6.sv labs ++ [.string ⟨x.dropLast.toArray⟩])) (hb3 : Below w.heap.size W1 w3) (hg3 : W1.grownBy w3 vl.ownBlock)
    (hk3 : Bk w3 (w.heap.size + 1) 50 #[vl, .string ⟨#[]⟩, .slice none 0 0]) :
    (∃ (labs' rest' : List (List UInt8)) (vl' : Value), RdS (w3.setCell ⟨w.heap.size + 1, 0, none⟩ v3) v2 rest' ∧ LineAt (w3.setCell ⟨w.heap.size + 1, 0, none⟩ v3) w.heap.size (w.heap.size + 1) vl' labs' ∧ L6.labels ws = labs' ++ L6.labels rest' ∧ L6.rest ws = L6.rest rest' ∧ (∀ x ∈ rest', x ∈ ws) ∧ labs'.length + rest'.length ≤ ws.length ∧ Bk (w3.setCell ⟨w.heap.size + 1, 0, none⟩ v3) w.heap.size 50 #[.slice none 0 0, .string ⟨#[]⟩, .slice none 0 0] ∧ Below w.heap.size w (w3.setCell ⟨w.heap.size + 1, 0, none⟩ v3) ∧ ∀ g off n c, v2 = .slice (some ⟨g, off, none⟩) n c → 0 < n → g < w.heap.size) ∧
      (match v2 with | .slice _ n _ => n | _ => 0) < (match (Value.slice (some ⟨g, off, none⟩) (t.length + 1) c1) with | .slice _ n _ => n | _ => 0) := by
  have hs0 := HB.size
  have hbut : But (w.heap.size + 1) w3 (w3.setCell ⟨w.heap.size + 1, 0, none⟩ v3) := But.setCell _ _ _ _
  have hw3 : Below w.heap.size wr w3 := (h1.mono hs0).trans hb3
  have hfin : Below w.heap.size wr (w3.setCell ⟨w.heap.size + 1, 0, none⟩ v3) := hw3.setCell (by simp) _
  have hown3 : OwnS w.heap.size w3 v3 (labs ++ [x.dropLast]) := by
    unfold OwnS
    simpa [L6.sv] using ho3
  have hR1 : Bk W1 w.heap.size 50 #[.slice none 0 0, .string ⟨#[]⟩, .slice none 0 0] := HRB.kept h1
  have hR3 : Bk w3 w.heap.size 50 #[.slice none 0 0, .string ⟨#[]⟩, .slice none 0 0] :=
    (hg3.block _ hR1.lt (fun e => own_ne (HLA.own.kept h1) hR1 (by decide) e.symm)).trans hR1
  have hlb : L6.labels ws = (labs ++ [x.dropLast]) ++ L6.labels t := by rw [HLB]; simp [L6.labels, hb]
  have hre : L6.rest ws = L6.rest t := by rw [HRE]; simp [L6.rest, hb]
  refine ⟨⟨labs ++ [x.dropLast], t, v3, ?_, ⟨?_, ?_, by omega⟩, hlb, hre, fun y hy => HIN y (by simp [hy]), ?_, ?_, HB.trans hfin, fun g' off' n c e _ => by rw [HV2 g' off' n c e]; exact hgw⟩, ?_⟩
  · exact Rd.below HR2 hfin (fun k off' c e _ => by rw [HV2 k off' _ c e]; exact hgw)
  · have := hk3.set 0 v3
    simpa using this
  · exact hown3.but hbut (own_ne hown3 hk3 (by decide))
  · simp only [List.length_append, List.length_cons, List.length_nil] at HLEN ⊢; omega
  · exact hbut.bk hR3 (by omega)
  · obtain ⟨A2, c2, rfl⟩ := HR2.form; exact Nat.lt_succ_self _
structure Fin2 (s : Nat) (vl va : Value) (labs args : List (List UInt8)) (w w1 : World) : Prop where
  one : OwnS s w1 vl labs
  two : OwnS s w1 va args
  low : ∃ cs, Bk w1 s 50 cs
  high : ∃ cs, Bk w1 (s + 1) 50 cs
  below : Below s w w1
theorem Fin2.set {s : Nat} {vl va : Value} {labs args : List (List UInt8)} {w w1 : World} (h : Fin2 s vl va labs args w w1) (g i : Nat) (hg : g = s ∨ g = s + 1) (u : Value) : Fin2 s vl va labs args w (w1.setCell ⟨g, i, none⟩ u) := by
  obtain ⟨h1, h2, ⟨c1, h3⟩, ⟨c2, h4⟩, h5⟩ := h
  have hb : But g w1 (w1.setCell ⟨g, i, none⟩ u) := But.setCell _ _ _ _
  rcases hg with rfl | rfl
  · exact ⟨h1.but hb (own_ne h1 h3 (by decide)), h2.but hb (own_ne h2 h3 (by decide)), ⟨_, h3.set i u⟩, ⟨_, hb.bk h4 (by omega)⟩, h5.setCell (Nat.le_refl _) u⟩
  · exact ⟨h1.but hb (own_ne h1 h4 (by decide)), h2.but hb (own_ne h2 h4 (by decide)), ⟨_, hb.bk h3 (by omega)⟩, ⟨_, h4.set i u⟩, h5.setCell (by simp) u⟩
set_option maxRecDepth 20000 in
set_option maxHeartbeats 2000000 in
theorem lline_any (v : Value) (ws : List (List UInt8)) (w : World) (h : RdS w v ws) (hl : ws.length ≤ 1000000000) (hs : ∀ x ∈ ws, x.length ≤ 1000000000) :
    Calls Tryz.prog 128 #[v] w fun e w' => ∃ vl va, e = .returned (.agg #[vl, .string ⟨(L6.line ws).word.toArray⟩, va]) ∧ OwnS w.heap.size w' vl (L6.line ws).labels ∧ OwnS w.heap.size w' va (L6.line ws).args ∧ Below w.heap.size w w' := by
  have HH := Lib.hid h
  have HLL := Lib.hid (show ws.length ≤ 1000000000 from hl)
  have HS := Lib.hid hs
  have HLT := Lib.hid (show ∀ g off n c, v = .slice (some ⟨g, off, none⟩) n c → 0 < n → g < w.heap.size from fun g off n c e hn => by
    obtain ⟨_, A', c', e', _, _, h4⟩ := HH.out
    rw [e] at e'
    injection e' with e1 e2 e3
    obtain ⟨g', off', e4, hg', _⟩ := h4 (by omega)
    rw [e4] at e1
    injection e1 with e1
    injection e1 with e1
    omega)
  obtain ⟨A, c, rfl⟩ := h.form
  clear h hs
  go_enter Tryz.func128, Tryz.ntmps128
  go_wp2_with fail
  have HB0 := Lib.hid (show Below w.heap.size w ((w.alloc (.cells #[.slice none 0 0, .string ⟨#[]⟩, .slice none 0 0] 50)).alloc (.cells #[.slice none 0 0, .string ⟨#[]⟩, .slice none 0 0] 50)) from ((Below.refl _ _).alloc (Nat.le_refl _) _).alloc (by simp) _)
  have HK0 := Lib.hid (show Bk ((w.alloc (.cells #[.slice none 0 0, .string ⟨#[]⟩, .slice none 0 0] 50)).alloc (.cells #[.slice none 0 0, .string ⟨#[]⟩, .slice none 0 0] 50)) (w.heap.size + 1) 50 #[.slice none 0 0, .string ⟨#[]⟩, .slice none 0 0] from by
    have := Bk.fresh (w.alloc (.cells #[.slice none 0 0, .string ⟨#[]⟩, .slice none 0 0] 50)) 50 #[.slice none 0 0, .string ⟨#[]⟩, .slice none 0 0]
    rwa [World.size_alloc] at this)
  have HR0 := Lib.hid (show Bk ((w.alloc (.cells #[.slice none 0 0, .string ⟨#[]⟩, .slice none 0 0] 50)).alloc (.cells #[.slice none 0 0, .string ⟨#[]⟩, .slice none 0 0] 50)) w.heap.size 50 #[.slice none 0 0, .string ⟨#[]⟩, .slice none 0 0] from
    (Bk.fresh w _ _).kept ((Below.refl _ _).alloc (Nat.le_refl _) _))
  go_loopw [0] (fun s wr => ∃ (labs rest : List (List UInt8)) (vl : Value), RdS wr s rest ∧ LineAt wr w.heap.size (w.heap.size + 1) vl labs ∧ L6.labels ws = labs ++ L6.labels rest ∧ L6.rest ws = L6.rest rest ∧ (∀ x ∈ rest, x ∈ ws) ∧ labs.length + rest.length ≤ ws.length ∧ Bk wr w.heap.size 50 #[.slice none 0 0, .string ⟨#[]⟩, .slice none 0 0] ∧ Below w.heap.size w wr ∧ ∀ g off n c, s = .slice (some ⟨g, off, none⟩) n c → 0 < n → g < w.heap.size) (fun s _ => match s with | .slice _ n _ => n | _ => 0)
  case atStart => exact ⟨[], ws, .slice none 0 0, HH.out.kept HB0.out, ⟨HK0.out, OwnS.nil _ _, by omega⟩, rfl, rfl, fun x hx => hx, by simp, HR0.out, HB0.out, HLT.out⟩
  case round =>
    obtain ⟨labs, rest, vl, hrd, hla, hlb, hre, hin, hlen, hrb, hbr, hgl⟩ := hrel
    have HGL := Lib.hid hgl
    clear hgl
    have HRD := Lib.hid hrd
    have HLA := Lib.hid hla
    have HLB := Lib.hid hlb
    have HRE := Lib.hid hre
    have HIN := Lib.hid hin
    have HLEN := Lib.hid hlen
    have HRB := Lib.hid hrb
    have HBR := Lib.hid hbr
    clear hla hlb hre hin hlen hrb hbr
    cases rest with
    | nil =>
      obtain ⟨A1, c1, rfl⟩ := hrd.nil_form
      clear hrd
      obtain ⟨AV, cV, rfl⟩ := HLA.out.own.form
      have k0 : wr.cell? ⟨w.heap.size + 1, 0, none⟩ = some (.slice AV labs.length cV) := HLA.out.bk.cell 0
      have k1 : wr.cell? ⟨w.heap.size + 1, 1, none⟩ = some (.string ⟨#[]⟩) := HLA.out.bk.cell 1
      have k2 : wr.cell? ⟨w.heap.size + 1, 2, none⟩ = some (.slice none 0 0) := HLA.out.bk.cell 2
      have z0 : wr.cell? ⟨w.heap.size, 0, none⟩ = some (.slice none 0 0) := HRB.out.cell 0
      have z1 : wr.cell? ⟨w.heap.size, 1, none⟩ = some (.string ⟨#[]⟩) := HRB.out.cell 1
      have z2 : wr.cell? ⟨w.heap.size, 2, none⟩ = some (.slice none 0 0) := HRB.out.cell 2
      have y0 := HRB.out.free 0
      have y1 := HRB.out.free 1
      have y2 := HRB.out.free 2
      go_wp2_with fail
      refine bodyPost_ret (v := .agg #[.slice AV labs.length cV, .string ⟨#[]⟩, .slice none 0 0]) (by simp [results, Tryz.results128, go_sem, z0, z1, z2]) rfl ?_
      have e1 : L6.line ws = ⟨labs, [], []⟩ := by unfold L6.line; rw [HLB.out, HRE.out]; simp [L6.labels, L6.rest]
      rw [e1]
      have hF : Fin2 w.heap.size (.slice AV labs.length cV) (.slice none 0 0) labs [] w wr := ⟨HLA.out.own, OwnS.nil _ _, ⟨_, HRB.out⟩, ⟨_, HLA.out.bk⟩, HBR.out⟩
      have hF := ((hF.set w.heap.size 0 (.inl rfl) (.slice AV labs.length cV)).set w.heap.size 1 (.inl rfl) (.string ⟨#[]⟩)).set w.heap.size 2 (.inl rfl) (.slice none 0 0)
      exact ⟨_, _, rfl, hF.one, hF.two, hF.below⟩
    | cons x t =>
      obtain ⟨g, off, c1, rfl, hc1, hc2, hg, hcell, v2, hsl, hr2, hv2⟩ := hrd.cons
      have hgw : g < w.heap.size := HGL.out g off _ c1 rfl (by omega)
      have HV2 := Lib.hid hv2
      clear hv2
      have HR2 := Lib.hid hr2
      clear hrd hr2
      unfold maxLen at hc2
      have hx := HS.out x (HIN.out x (by simp))
      have CL := Lib.hid (fun W => llabel_any x W (by unfold maxLen; omega))
      cases hb : L6.label x
      · rw [hb] at CL
        have HX := Lib.hid hb
        clear hb
        have hcap := hc2
        obtain ⟨AV, cV, rfl⟩ := HLA.out.own.form
        have CC := Lib.hid (fun W (hW : Below wr.heap.size wr W) => lclone_any v2 t W (HR2.out.kept hW) (by have h1 := HLEN.out; have h2 := HLL.out; simp only [List.length_cons] at h1; omega))
        have KB := Lib.hid (show ∀ W, Below wr.heap.size wr W → Bk W (w.heap.size + 1) 50 #[.slice AV labs.length cV, .string ⟨#[]⟩, .slice none 0 0] ∧ Bk W w.heap.size 50 #[.slice none 0 0, .string ⟨#[]⟩, .slice none 0 0] from fun W hW => ⟨HLA.out.bk.kept hW, HRB.out.kept hW⟩)
        have e1 : L6.line ws = ⟨labs, x, t⟩ := by unfold L6.line; rw [HLB.out, HRE.out]; simp [L6.labels, L6.rest, HX.out]
        have E1 := Lib.hid e1
        clear e1
        have hne : w.heap.size + 1 ≠ g := by omega
        go_wp2_with (go_at_call 121; refine (CL.out _).mono ?_; rintro e w' ⟨rfl, rfl⟩)
        go_region_held3 (fun W' => W'.cell? ⟨g, off, none⟩ = some (.string ⟨x.toArray⟩)) (go_keep)
          ((go_at_call 193; refine (CC.out _ (Below.refl _ _).drew).mono ?_; rintro e w2 ⟨va, rfl, ho2, hb2⟩; have q2 := (hb2.cell (p := ⟨g, off, none⟩) hg).trans hcell; obtain ⟨hx1, hx0⟩ := KB.out w2 ((Below.refl _ _).drew.trans hb2); have k0 := hx1.cell 0; have k1 := hx1.cell 1; have k2 := hx1.cell 2; have f1 := hx1.free 1; have f2 := hx1.free 2; have z0 := hx0.cell 0; have z1 := hx0.cell 1; have z2 := hx0.cell 2; have y0 := hx0.free 0; have y1 := hx0.free 1; have y2 := hx0.free 2; obtain ⟨AA, cA, rfl⟩ := ho2.form))
        go_wp2_with fail
        refine bodyPost_ret (v := .agg #[.slice AV labs.length cV, .string ⟨x.toArray⟩, .slice AA t.length cA]) (by simp [results, Tryz.results128, go_sem, z0, z1, z2]) rfl ?_
        have hb3 := (Below.refl wr.heap.size wr).drew.trans hb2
        have hF : Fin2 w.heap.size (.slice AV labs.length cV) (.slice AA t.length cA) labs t w w2 := ⟨HLA.out.own.kept hb3, own_rebase ho2 HBR.out.size, ⟨_, hx0⟩, ⟨_, hx1⟩, HBR.out.trans (hb3.mono HBR.out.size)⟩
        have hF := ((((hF.set (w.heap.size + 1) 1 (.inr rfl) (.string ⟨x.toArray⟩)).set (w.heap.size + 1) 2 (.inr rfl) (.slice AA t.length cA)).set w.heap.size 0 (.inl rfl) (.slice AV labs.length cV)).set w.heap.size 1 (.inl rfl) (.string ⟨x.toArray⟩)).set w.heap.size 2 (.inl rfl) (.slice AA t.length cA)
        rw [E1.out]
        exact ⟨_, _, rfl, hF.one, hF.two, hF.below⟩
      · rw [hb] at CL
        have HX := Lib.hid hb
        have CT := Lib.hid (fun W => Tryz.strings_TrimSuffix ⟨x.toArray⟩ ⟨#[58]⟩ W (by simp [ByteArray.size]; omega))
        rw [show Lib.trimSuffix (⟨x.toArray⟩ : ByteArray).data.toList (⟨#[58]⟩ : ByteArray).data.toList = x.dropLast from L6.trim_label x hb] at CT
        clear hb
        have k0 : wr.cell? ⟨w.heap.size + 1, 0, none⟩ = some vl := HLA.out.bk.cell 0
        have f0 := HLA.out.bk.free 0
        have HO1 := Lib.hid (show (wr.drew.alloc (.cells #[.string ⟨x.dropLast.toArray⟩] 9)).ownsRow w.heap.size 9 1 vl labs.length (L6.sv labs) from
          (HLA.out.own.kept (Below.refl _ _).drew).kept ((Below.refl _ _).alloc (Nat.le_refl _) _))
        have HS1 := Lib.hid (show Src Tryz.prog 1 47 (.slice (some ⟨wr.heap.size, 0, none⟩) 1 1) 1 [.string ⟨x.dropLast.toArray⟩] (wr.drew.alloc (.cells #[.string ⟨x.dropLast.toArray⟩] 9)) from src_one wr.drew x.dropLast)
        have HL1 := Lib.hid (show (labs.length + 1) * 16 ≤ 140737488355328 by have := HLEN.out; have := HLL.out; simp at *; omega)
        have HL2 := Lib.hid (show labs.length + 1 ≤ maxLen by have := HLEN.out; have := HLL.out; unfold maxLen; simp at *; omega)
        have HZ1 := Lib.hid (show w.heap.size ≤ (wr.drew.alloc (.cells #[.string ⟨x.dropLast.toArray⟩] 9)).heap.size from by have := HBR.out.size; simp; omega)
        have KEEP := Lib.hid (show ∀ w3, (wr.drew.alloc (.cells #[.string ⟨x.dropLast.toArray⟩] 9)).grownBy w3 vl.ownBlock → Bk w3 (w.heap.size + 1) 50 #[vl, .string ⟨#[]⟩, .slice none 0 0] from fun w3 hg3 => by
          have hb : Bk (wr.drew.alloc (.cells #[.string ⟨x.dropLast.toArray⟩] 9)) (w.heap.size + 1) 50 #[vl, .string ⟨#[]⟩, .slice none 0 0] := (HLA.out.bk.kept (Below.refl _ _).drew).kept ((Below.refl _ _).alloc (Nat.le_refl _) _)
          exact (hg3.block _ hb.lt (fun e => own_ne HO1.out hb (by decide) e.symm)).trans hb)
        have KEEP2 := Lib.hid (show ∀ w3, Below w.heap.size (wr.drew.alloc (.cells #[.string ⟨x.dropLast.toArray⟩] 9)) w3 → w3.cell? ⟨g, off, none⟩ = some (.string ⟨x.toArray⟩) from fun w3 hb3 =>
          (hb3.cell (p := ⟨g, off, none⟩) hgw).trans ((((Below.refl wr.heap.size wr).drew.alloc (Nat.le_refl _) _).cell (p := ⟨g, off, none⟩) hg).trans hcell))
        go_wp2_with (go_at_call 121; refine (CL.out _).mono ?_; rintro e w' ⟨rfl, rfl⟩)
        have ka : (wr.alloc (.cells #[.string ⟨x.dropLast.toArray⟩] 9)).cell? ⟨w.heap.size + 1, 0, none⟩ = some vl := (HLA.out.bk.kept ((Below.refl _ _).alloc (Nat.le_refl _) _)).cell 0
        go_region_law (first
            | (refine step_appendR (by rfl) _ _ _ _ (by rfl) lsrt (by decide) w.heap.size vl (by rfl) labs.length (L6.sv labs) HO1.out _ (by rfl) 1 [.string ⟨x.dropLast.toArray⟩] HS1.out HL1.out HL2.out HZ1.out ?_; intro v3 w3 ho3 hb3 hg3; obtain ⟨A3, c3, rfl⟩ := (Rd.of_own ho3).form; have hk3 := KEEP.out w3 hg3; have k3 := hk3.cell 0; have f3 := hk3.free 0; have q3 := KEEP2.out w3 hb3)
            | (rw [if_pos (by rfl)]; go_simp; go_at_call 82; refine (CT.out _).mono ?_; rintro e w' ⟨rfl, rfl⟩))
        all_goals go_wp2_with fail
        all_goals exact L6.line_round (off := off) (c1 := c1) HLA.out HBR.out ((Below.refl _ _).drew.alloc (Nat.le_refl _) _) HLB.out HRE.out HIN.out HLEN.out HX.out HRB.out hgw HV2.out HR2.out ho3 hb3 hg3 hk3
end Go.Proofs.YtfafdkbnmfpbmaaGreatDoor
