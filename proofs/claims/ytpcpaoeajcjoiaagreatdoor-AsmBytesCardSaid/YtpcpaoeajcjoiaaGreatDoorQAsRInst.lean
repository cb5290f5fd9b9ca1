/- Texts joined, what is not reached left out. -/
import Derived.Test.YtpcpaoeajcjoiaaGreatDoorMR
import Derived.Test.YtpcpaoeajcjoiaaGreatDoorQIsRefW
import Derived.Test.YtpcpaoeajcjoiaaGreatDoorQAsParts
/- Layer 7: the document's instruction by its Op. -/
namespace Go.Proofs.YtpcpaoeajcjoiaaGreatDoor
open Go.RowKit Kit
set_option linter.unusedVariables false
set_option linter.unusedSimpArgs false

/-- A goal's kind. -/
def As.gk (s : List UInt8) : Nat := if s = [] then 0 else 1
/-- A piece of the document, by its parts. -/
def As.rgoal (k : Nat) (p : As.P) : List UInt8 := if p.kind = k then p.name else []
def As.rplace (p : As.P) : List UInt8 := if p.kind = 4 ∨ p.kind = 5 then p.name else []
def As.rcells (p : As.P) (vb : Value) : List Value := [.int .i64 p.inst.op, .int .i64 p.inst.rd, .int .i64 p.inst.rs1, .int .i64 p.inst.rs2, .int .i64 p.inst.imm, .string ⟨(As.rgoal 1 p).toArray⟩, .string ⟨(As.rgoal 2 p).toArray⟩, .string ⟨(As.rgoal 3 p).toArray⟩, .string ⟨(As.rplace p).toArray⟩, .string ⟨p.src.toArray⟩, vb, .bool p.code]
/-- The reader goes on beside blocks that are new since w. -/
structure As.Rz (w : World) (g : Nat) (W : World) (x : As.L) : Prop where
  rk : As.Rk W g x
  fr : Fr (fun k => k = g) w W
  lt : g < w.heap.size
theorem As.Rz.set {w W : World} {g : Nat} {x : As.L} (h : As.Rz w g W x) (j i : Nat) (u : Value) (hj : w.heap.size ≤ j) : As.Rz w g (W.setCell ⟨j, i, none⟩ u) x :=
  ⟨h.rk.other (But.setCell W j i u) (Nat.lt_of_lt_of_le h.lt hj), h.fr.trans (Fr.of_but (F := fun k => k = j) (But.setCell W j i u) rfl) (fun _ e => .inr (e ▸ hj)), h.lt⟩
theorem As.Rz.go {w W : World} {g : Nat} {x : As.L} (h : As.Rz w g W x) : As.RGo w g x W := ⟨h.rk, h.fr⟩
theorem As.Rz.step {w W W' : World} {g : Nat} {x y : As.L} (h : As.Rz w g W x) (s : As.RGo W g y W') : As.Rz w g W' y := ⟨s.1, h.fr.trans s.2 (fun _ e => .inl e), h.lt⟩
theorem As.Rz.kept {w W W' : World} {g : Nat} {x : As.L} (h : As.Rz w g W x) (hb : Below W.heap.size W W') : As.Rz w g W' x := ⟨h.rk.kept hb, h.fr.trans (Fr.of_below (F := fun _ => False) hb) (fun _ e => e.elim), h.lt⟩
theorem As.Rz.start {w : World} {g : Nat} {x : As.L} (h : As.Rk w g x) : As.Rz w g w x := ⟨h, Fr.refl _ _, h.lt⟩
/-- Two records in boxes of their own, beside the reader. -/
structure As.Rx (w : World) (g : Nat) (W : World) (x : As.L) (ci cp : Array Value) : Prop where
  z : As.Rz w g W x
  bi : Bk W (w.heap.size + 1) 114 ci
  bp : Bk W (w.heap.size + 1 + 1) 116 cp
  br : Bk W w.heap.size 116 #[.int .i64 0, .int .i64 0, .int .i64 0, .int .i64 0, .int .i64 0, .string ⟨#[]⟩, .string ⟨#[]⟩, .string ⟨#[]⟩, .string ⟨#[]⟩, .string ⟨#[]⟩, .slice none 0 0, .bool false]
theorem As.Rx.start {w : World} {g : Nat} {x : As.L} (h : As.Rk w g x) (ci cp : Array Value) :
    As.Rx w g (((w.alloc (.cells #[.int .i64 0, .int .i64 0, .int .i64 0, .int .i64 0, .int .i64 0, .string ⟨#[]⟩, .string ⟨#[]⟩, .string ⟨#[]⟩, .string ⟨#[]⟩, .string ⟨#[]⟩, .slice none 0 0, .bool false] 116)).alloc (.cells ci 114)).alloc (.cells cp 116)) x ci cp := by
  have b0 := Bk.fresh w 116 #[.int .i64 0, .int .i64 0, .int .i64 0, .int .i64 0, .int .i64 0, .string ⟨#[]⟩, .string ⟨#[]⟩, .string ⟨#[]⟩, .string ⟨#[]⟩, .string ⟨#[]⟩, .slice none 0 0, .bool false]
  have h0 : Below w.heap.size w (w.alloc (.cells #[.int .i64 0, .int .i64 0, .int .i64 0, .int .i64 0, .int .i64 0, .string ⟨#[]⟩, .string ⟨#[]⟩, .string ⟨#[]⟩, .string ⟨#[]⟩, .string ⟨#[]⟩, .slice none 0 0, .bool false] 116)) := (Below.refl _ _).alloc (Nat.le_refl _) _
  have s0 : (w.alloc (.cells #[.int .i64 0, .int .i64 0, .int .i64 0, .int .i64 0, .int .i64 0, .string ⟨#[]⟩, .string ⟨#[]⟩, .string ⟨#[]⟩, .string ⟨#[]⟩, .string ⟨#[]⟩, .slice none 0 0, .bool false] 116)).heap.size = w.heap.size + 1 := by simp
  generalize w.alloc (.cells #[.int .i64 0, .int .i64 0, .int .i64 0, .int .i64 0, .int .i64 0, .string ⟨#[]⟩, .string ⟨#[]⟩, .string ⟨#[]⟩, .string ⟨#[]⟩, .string ⟨#[]⟩, .slice none 0 0, .bool false] 116) = w1 at *
  have b1 := Bk.fresh w1 114 ci
  have h1 : Below w1.heap.size w1 (w1.alloc (.cells ci 114)) := (Below.refl _ _).alloc (Nat.le_refl _) _
  have s1 : (w1.alloc (.cells ci 114)).heap.size = w.heap.size + 1 + 1 := by rw [← s0]; simp
  rw [s0] at b1
  generalize w1.alloc (.cells ci 114) = w2 at *
  have b2 := Bk.fresh w2 116 cp
  have h2 : Below w2.heap.size w2 (w2.alloc (.cells cp 116)) := (Below.refl _ _).alloc (Nat.le_refl _) _
  rw [s1] at b2
  exact ⟨(((As.Rz.start h).kept h0).kept h1).kept h2, b1.kept h2, b2, (b0.kept h1).kept h2⟩
/-- A field of the instruction is set. -/
theorem As.Rx.setI {w W : World} {g : Nat} {x : As.L} {ci cp : Array Value} (b : As.Rx w g W x ci cp) (k : Nat) (u : Value) : As.Rx w g (W.setCell ⟨w.heap.size + 1, k, none⟩ u) x (ci.setIfInBounds k u) cp :=
  have hs := But.setCell W (w.heap.size + 1) k u
  ⟨b.z.set _ k u (by omega), b.bi.set k u, hs.bk b.bp (by omega), hs.bk b.br (by omega)⟩
theorem As.Rx.setP {w W : World} {g : Nat} {x : As.L} {ci cp : Array Value} (b : As.Rx w g W x ci cp) (k : Nat) (u : Value) : As.Rx w g (W.setCell ⟨w.heap.size + 1 + 1, k, none⟩ u) x ci (cp.setIfInBounds k u) :=
  have hs := But.setCell W (w.heap.size + 1 + 1) k u
  ⟨b.z.set _ k u (by omega), hs.bk b.bi (by omega), b.bp.set k u, hs.bk b.br (by omega)⟩
theorem As.Rx.step {w W W' : World} {g : Nat} {x y : As.L} {ci cp : Array Value} (b : As.Rx w g W x ci cp) (s : As.RGo W g y W') : As.Rx w g W' y ci cp :=
  have hg := b.z.lt
  ⟨b.z.step s, s.2.bk b.bi (fun e => by omega), s.2.bk b.bp (fun e => by omega), s.2.bk b.br (fun e => by omega)⟩
theorem As.rz_ret {w W : World} {g : Nat} {x : As.L} (h : As.Rz w g W x) (u0 u1 u2 u3 u4 u5 u6 u7 u8 u9 u10 u11 : Value) :
    As.RGo w g x ((((((((((((W.setCell ⟨w.heap.size, 0, none⟩ u0).setCell ⟨w.heap.size, 1, none⟩ u1).setCell ⟨w.heap.size, 2, none⟩ u2).setCell ⟨w.heap.size, 3, none⟩ u3).setCell ⟨w.heap.size, 4, none⟩ u4).setCell ⟨w.heap.size, 5, none⟩ u5).setCell ⟨w.heap.size, 6, none⟩ u6).setCell ⟨w.heap.size, 7, none⟩ u7).setCell ⟨w.heap.size, 8, none⟩ u8).setCell ⟨w.heap.size, 9, none⟩ u9).setCell ⟨w.heap.size, 10, none⟩ u10).setCell ⟨w.heap.size, 11, none⟩ u11) := by
  have l := Nat.le_refl w.heap.size
  exact ((((((((((((h.set _ 0 u0 l).set _ 1 u1 l).set _ 2 u2 l).set _ 3 u3 l).set _ 4 u4 l).set _ 5 u5 l).set _ 6 u6 l).set _ 7 u7 l).set _ 8 u8 l).set _ 9 u9 l).set _ 10 u10 l).set _ 11 u11 l).go
/-- What the last steps meet. -/
def As.RIPost (w : World) (g : Nat) (p : As.P) (y : As.L) (e : Ending) (w' : World) : Prop := e = .returned (.agg (As.rcells p (.slice none 0 0)).toArray) ∧ As.RGo w g y w'
set_option maxRecDepth 100000 in
set_option maxHeartbeats 8000000 in
theorem rinst_0 {w : World} {g : Nat} {x : As.L} (h : As.Rk w g x) (hsh : As.Short x.l) (op : Int) (hs : Is.shape op = 0) :
    Calls Tryz.prog 90 #[.int .i64 op, .pointer (some ⟨g, 0, none⟩)] w (As.RIPost w g (⟨true, ⟨op, ((As.reg x).1), 0, 0, (As.num (As.reg x).2).1⟩, [], 0, [], []⟩ : As.P) (As.num (As.reg x).2).2) := by
  have HB0 := Lib.hid (As.Rx.start h #[.int .i64 op, .int .i64 0, .int .i64 0, .int .i64 0, .int .i64 0] #[.int .i64 0, .int .i64 0, .int .i64 0, .int .i64 0, .int .i64 0, .string ⟨#[]⟩, .string ⟨#[]⟩, .string ⟨#[]⟩, .string ⟨#[]⟩, .string ⟨#[]⟩, .slice none 0 0, .bool true])
  have HSH := Lib.hid hsh
  have CS := Lib.hid (fun W => shape_ref op W)
  rw [hs] at CS
  clear h hsh hs
  go_enter Tryz.func90, Tryz.ntmps90
  go_wp2_with (go_at_call 145; refine (CS.out _).mono ?_; rintro e w' ⟨rfl, rfl⟩)
  obtain ⟨W0, hW0⟩ : ∃ W0, ((w.alloc (.cells #[.int .i64 0, .int .i64 0, .int .i64 0, .int .i64 0, .int .i64 0, .string ⟨#[]⟩, .string ⟨#[]⟩, .string ⟨#[]⟩, .string ⟨#[]⟩, .string ⟨#[]⟩, .slice none 0 0, .bool false] 116)).alloc (.cells #[.int .i64 op, .int .i64 0, .int .i64 0, .int .i64 0, .int .i64 0] 114)).alloc (.cells #[.int .i64 0, .int .i64 0, .int .i64 0, .int .i64 0, .int .i64 0, .string ⟨#[]⟩, .string ⟨#[]⟩, .string ⟨#[]⟩, .string ⟨#[]⟩, .string ⟨#[]⟩, .slice none 0 0, .bool true] 116) = W0 := ⟨_, rfl⟩
  rw [hW0] at HB0 ⊢
  clear hW0
  go_at_call 146
  refine (rrdreg_any HB0.out.z.rk).mono ?_
  rintro e w1 ⟨rfl, hg1⟩
  have hb1 := HB0.out.step hg1
  have HSH1 := Lib.hid (show As.Short (As.reg x).2.l from HSH.out.reg)
  have c1 := hb1.bi.cell 1
  have f1 := hb1.bi.free 1
  simp only [List.getElem?_toArray, List.getElem?_cons_zero, List.getElem?_cons_succ] at c1
  have HB1 := Lib.hid (show As.Rx w g (w1.setCell ⟨w.heap.size + 1, 1, none⟩ (.int .i64 ((As.reg x).1 : Nat))) (As.reg x).2 #[.int .i64 op, .int .i64 ((As.reg x).1 : Nat), .int .i64 0, .int .i64 0, .int .i64 0] #[.int .i64 0, .int .i64 0, .int .i64 0, .int .i64 0, .int .i64 0, .string ⟨#[]⟩, .string ⟨#[]⟩, .string ⟨#[]⟩, .string ⟨#[]⟩, .string ⟨#[]⟩, .slice none 0 0, .bool true] from by simpa using hb1.setI 1 (.int .i64 ((As.reg x).1 : Nat)))
  clear hb1 hg1
  go_wp2_with fail
  obtain ⟨W1, hW1⟩ : ∃ W1, w1.setCell ⟨w.heap.size + 1, 1, none⟩ (.int .i64 ((As.reg x).1 : Nat)) = W1 := ⟨_, rfl⟩
  rw [hW1] at HB1 ⊢
  clear hW1 c1 f1
  go_at_call 147
  refine (rrdnum_any HB1.out.z.rk HSH1.out).mono ?_
  rintro e w2 ⟨rfl, hg2⟩
  have hb2 := HB1.out.step hg2
  have HSH2 := Lib.hid (show As.Short (As.num (As.reg x).2).2.l from HSH1.out.num)
  have c2 := hb2.bi.cell 4
  have f2 := hb2.bi.free 4
  simp only [List.getElem?_toArray, List.getElem?_cons_zero, List.getElem?_cons_succ] at c2
  have HB2 := Lib.hid (show As.Rx w g (w2.setCell ⟨w.heap.size + 1, 4, none⟩ (.int .i64 (As.num (As.reg x).2).1)) (As.num (As.reg x).2).2 #[.int .i64 op, .int .i64 ((As.reg x).1 : Nat), .int .i64 0, .int .i64 0, .int .i64 (As.num (As.reg x).2).1] #[.int .i64 0, .int .i64 0, .int .i64 0, .int .i64 0, .int .i64 0, .string ⟨#[]⟩, .string ⟨#[]⟩, .string ⟨#[]⟩, .string ⟨#[]⟩, .string ⟨#[]⟩, .slice none 0 0, .bool true] from by simpa using hb2.setI 4 (.int .i64 (As.num (As.reg x).2).1))
  clear hb2 hg2
  go_upto_region 31 with fail
  obtain ⟨WZ, hWZ⟩ : ∃ WZ, w2.setCell ⟨w.heap.size + 1, 4, none⟩ (.int .i64 (As.num (As.reg x).2).1) = WZ := ⟨_, rfl⟩
  rw [hWZ] at HB2 ⊢
  clear hWZ c2 f2
  have hz := HB2.out
  have i0 := hz.bi.cell 0
  have i1 := hz.bi.cell 1
  have i2 := hz.bi.cell 2
  have i3 := hz.bi.cell 3
  have i4 := hz.bi.cell 4
  have p0 := hz.bp.cell 0
  have p1 := hz.bp.cell 1
  have p2 := hz.bp.cell 2
  have p3 := hz.bp.cell 3
  have p4 := hz.bp.cell 4
  have p5 := hz.bp.cell 5
  have p6 := hz.bp.cell 6
  have p7 := hz.bp.cell 7
  have p8 := hz.bp.cell 8
  have p9 := hz.bp.cell 9
  have p10 := hz.bp.cell 10
  have p11 := hz.bp.cell 11
  have q0 := hz.bp.free 0
  have q1 := hz.bp.free 1
  have q2 := hz.bp.free 2
  have q3 := hz.bp.free 3
  have q4 := hz.bp.free 4
  have q5 := hz.bp.free 5
  have q6 := hz.bp.free 6
  have q7 := hz.bp.free 7
  have q8 := hz.bp.free 8
  have q9 := hz.bp.free 9
  have q10 := hz.bp.free 10
  have q11 := hz.bp.free 11
  have r0 := hz.br.cell 0
  have r1 := hz.br.cell 1
  have r2 := hz.br.cell 2
  have r3 := hz.br.cell 3
  have r4 := hz.br.cell 4
  have r5 := hz.br.cell 5
  have r6 := hz.br.cell 6
  have r7 := hz.br.cell 7
  have r8 := hz.br.cell 8
  have r9 := hz.br.cell 9
  have r10 := hz.br.cell 10
  have r11 := hz.br.cell 11
  have s0 := hz.br.free 0
  have s1 := hz.br.free 1
  have s2 := hz.br.free 2
  have s3 := hz.br.free 3
  have s4 := hz.br.free 4
  have s5 := hz.br.free 5
  have s6 := hz.br.free 6
  have s7 := hz.br.free 7
  have s8 := hz.br.free 8
  have s9 := hz.br.free 9
  have s10 := hz.br.free 10
  have s11 := hz.br.free 11
  simp only [List.getElem?_toArray, List.getElem?_cons_zero, List.getElem?_cons_succ] at i0 i1 i2 i3 i4 p0 p1 p2 p3 p4 p5 p6 p7 p8 p9 p10 p11 r0 r1 r2 r3 r4 r5 r6 r7 r8 r9 r10 r11
  have HZ := Lib.hid (show As.Rz w g _ (As.num (As.reg x).2).2 from ((((hz.z.set (w.heap.size + 1 + 1) 0 (.int .i64 op) (by omega)).set (w.heap.size + 1 + 1) 1 (.int .i64 ((As.reg x).1 : Nat)) (by omega)).set (w.heap.size + 1 + 1) 2 (.int .i64 0) (by omega)).set (w.heap.size + 1 + 1) 3 (.int .i64 0) (by omega)).set (w.heap.size + 1 + 1) 4 (.int .i64 (As.num (As.reg x).2).1) (by omega))
  clear hz
  go_wp2_with fail
  refine bodyPost_ret (v := .agg #[.int .i64 op, .int .i64 ((As.reg x).1 : Nat), .int .i64 0, .int .i64 0, .int .i64 (As.num (As.reg x).2).1, .string ⟨#[]⟩, .string ⟨#[]⟩, .string ⟨#[]⟩, .string ⟨#[]⟩, .string ⟨#[]⟩, .slice none 0 0, .bool true]) (by simp [results, Tryz.results90, go_sem, r0, r1, r2, r3, r4, r5, r6, r7, r8, r9, r10, r11]) rfl ?_
  exact ⟨rfl, As.rz_ret HZ.out _ _ _ _ _ _ _ _ _ _ _ _⟩
set_option maxRecDepth 100000 in
set_option maxHeartbeats 8000000 in
theorem rinst_1 {w : World} {g : Nat} {x : As.L} (h : As.Rk w g x) (hsh : As.Short x.l) (op : Int) (hs : Is.shape op = 1) :
    Calls Tryz.prog 90 #[.int .i64 op, .pointer (some ⟨g, 0, none⟩)] w (As.RIPost w g (⟨true, ⟨op, ((As.reg x).1), 0, 0, (As.either (As.reg x).2).1.1⟩, [], As.gk (As.either (As.reg x).2).1.2, (As.either (As.reg x).2).1.2, []⟩ : As.P) (As.either (As.reg x).2).2) := by
  have HB0 := Lib.hid (As.Rx.start h #[.int .i64 op, .int .i64 0, .int .i64 0, .int .i64 0, .int .i64 0] #[.int .i64 0, .int .i64 0, .int .i64 0, .int .i64 0, .int .i64 0, .string ⟨#[]⟩, .string ⟨#[]⟩, .string ⟨#[]⟩, .string ⟨#[]⟩, .string ⟨#[]⟩, .slice none 0 0, .bool true])
  have HSH := Lib.hid hsh
  have CS := Lib.hid (fun W => shape_ref op W)
  rw [hs] at CS
  clear h hsh hs
  go_enter Tryz.func90, Tryz.ntmps90
  go_wp2_with (go_at_call 145; refine (CS.out _).mono ?_; rintro e w' ⟨rfl, rfl⟩)
  obtain ⟨W0, hW0⟩ : ∃ W0, ((w.alloc (.cells #[.int .i64 0, .int .i64 0, .int .i64 0, .int .i64 0, .int .i64 0, .string ⟨#[]⟩, .string ⟨#[]⟩, .string ⟨#[]⟩, .string ⟨#[]⟩, .string ⟨#[]⟩, .slice none 0 0, .bool false] 116)).alloc (.cells #[.int .i64 op, .int .i64 0, .int .i64 0, .int .i64 0, .int .i64 0] 114)).alloc (.cells #[.int .i64 0, .int .i64 0, .int .i64 0, .int .i64 0, .int .i64 0, .string ⟨#[]⟩, .string ⟨#[]⟩, .string ⟨#[]⟩, .string ⟨#[]⟩, .string ⟨#[]⟩, .slice none 0 0, .bool true] 116) = W0 := ⟨_, rfl⟩
  rw [hW0] at HB0 ⊢
  clear hW0
  go_at_call 146
  refine (rrdreg_any HB0.out.z.rk).mono ?_
  rintro e w1 ⟨rfl, hg1⟩
  have hb1 := HB0.out.step hg1
  have HSH1 := Lib.hid (show As.Short (As.reg x).2.l from HSH.out.reg)
  have c1 := hb1.bi.cell 1
  have f1 := hb1.bi.free 1
  simp only [List.getElem?_toArray, List.getElem?_cons_zero, List.getElem?_cons_succ] at c1
  have HB1 := Lib.hid (show As.Rx w g (w1.setCell ⟨w.heap.size + 1, 1, none⟩ (.int .i64 ((As.reg x).1 : Nat))) (As.reg x).2 #[.int .i64 op, .int .i64 ((As.reg x).1 : Nat), .int .i64 0, .int .i64 0, .int .i64 0] #[.int .i64 0, .int .i64 0, .int .i64 0, .int .i64 0, .int .i64 0, .string ⟨#[]⟩, .string ⟨#[]⟩, .string ⟨#[]⟩, .string ⟨#[]⟩, .string ⟨#[]⟩, .slice none 0 0, .bool true] from by simpa using hb1.setI 1 (.int .i64 ((As.reg x).1 : Nat)))
  clear hb1 hg1
  go_wp2_with fail
  obtain ⟨W1, hW1⟩ : ∃ W1, w1.setCell ⟨w.heap.size + 1, 1, none⟩ (.int .i64 ((As.reg x).1 : Nat)) = W1 := ⟨_, rfl⟩
  rw [hW1] at HB1 ⊢
  clear hW1 c1 f1
  go_at_call 148
  refine (rrdgoal_any HB1.out.z.rk HSH1.out).mono ?_
  rintro e w2 ⟨rfl, hg2⟩
  have hb2 := HB1.out.step hg2
  have HSH2 := Lib.hid (show As.Short (As.either (As.reg x).2).2.l from HSH1.out.either)
  have c2 := hb2.bi.cell 4
  have f2 := hb2.bi.free 4
  have d2 := hb2.bp.cell 5
  have e2 := hb2.bp.free 5
  simp only [List.getElem?_toArray, List.getElem?_cons_zero, List.getElem?_cons_succ] at c2 d2
  have HB2 := Lib.hid (show As.Rx w g ((w2.setCell ⟨w.heap.size + 1, 4, none⟩ (.int .i64 (As.either (As.reg x).2).1.1)).setCell ⟨w.heap.size + 1 + 1, 5, none⟩ (.string ⟨(As.either (As.reg x).2).1.2.toArray⟩)) (As.either (As.reg x).2).2 #[.int .i64 op, .int .i64 ((As.reg x).1 : Nat), .int .i64 0, .int .i64 0, .int .i64 (As.either (As.reg x).2).1.1] #[.int .i64 0, .int .i64 0, .int .i64 0, .int .i64 0, .int .i64 0, .string ⟨(As.either (As.reg x).2).1.2.toArray⟩, .string ⟨#[]⟩, .string ⟨#[]⟩, .string ⟨#[]⟩, .string ⟨#[]⟩, .slice none 0 0, .bool true] from by simpa using (hb2.setI 4 (.int .i64 (As.either (As.reg x).2).1.1)).setP 5 (.string ⟨(As.either (As.reg x).2).1.2.toArray⟩))
  clear hb2 hg2
  go_upto_region 31 with fail
  obtain ⟨WZ, hWZ⟩ : ∃ WZ, (w2.setCell ⟨w.heap.size + 1, 4, none⟩ (.int .i64 (As.either (As.reg x).2).1.1)).setCell ⟨w.heap.size + 1 + 1, 5, none⟩ (.string ⟨(As.either (As.reg x).2).1.2.toArray⟩) = WZ := ⟨_, rfl⟩
  rw [hWZ] at HB2 ⊢
  clear hWZ c2 f2 d2 e2
  have hz := HB2.out
  have i0 := hz.bi.cell 0
  have i1 := hz.bi.cell 1
  have i2 := hz.bi.cell 2
  have i3 := hz.bi.cell 3
  have i4 := hz.bi.cell 4
  have p0 := hz.bp.cell 0
  have p1 := hz.bp.cell 1
  have p2 := hz.bp.cell 2
  have p3 := hz.bp.cell 3
  have p4 := hz.bp.cell 4
  have p5 := hz.bp.cell 5
  have p6 := hz.bp.cell 6
  have p7 := hz.bp.cell 7
  have p8 := hz.bp.cell 8
  have p9 := hz.bp.cell 9
  have p10 := hz.bp.cell 10
  have p11 := hz.bp.cell 11
  have q0 := hz.bp.free 0
  have q1 := hz.bp.free 1
  have q2 := hz.bp.free 2
  have q3 := hz.bp.free 3
  have q4 := hz.bp.free 4
  have q5 := hz.bp.free 5
  have q6 := hz.bp.free 6
  have q7 := hz.bp.free 7
  have q8 := hz.bp.free 8
  have q9 := hz.bp.free 9
  have q10 := hz.bp.free 10
  have q11 := hz.bp.free 11
  have r0 := hz.br.cell 0
  have r1 := hz.br.cell 1
  have r2 := hz.br.cell 2
  have r3 := hz.br.cell 3
  have r4 := hz.br.cell 4
  have r5 := hz.br.cell 5
  have r6 := hz.br.cell 6
  have r7 := hz.br.cell 7
  have r8 := hz.br.cell 8
  have r9 := hz.br.cell 9
  have r10 := hz.br.cell 10
  have r11 := hz.br.cell 11
  have s0 := hz.br.free 0
  have s1 := hz.br.free 1
  have s2 := hz.br.free 2
  have s3 := hz.br.free 3
  have s4 := hz.br.free 4
  have s5 := hz.br.free 5
  have s6 := hz.br.free 6
  have s7 := hz.br.free 7
  have s8 := hz.br.free 8
  have s9 := hz.br.free 9
  have s10 := hz.br.free 10
  have s11 := hz.br.free 11
  simp only [List.getElem?_toArray, List.getElem?_cons_zero, List.getElem?_cons_succ] at i0 i1 i2 i3 i4 p0 p1 p2 p3 p4 p5 p6 p7 p8 p9 p10 p11 r0 r1 r2 r3 r4 r5 r6 r7 r8 r9 r10 r11
  have HZ := Lib.hid (show As.Rz w g _ (As.either (As.reg x).2).2 from ((((hz.z.set (w.heap.size + 1 + 1) 0 (.int .i64 op) (by omega)).set (w.heap.size + 1 + 1) 1 (.int .i64 ((As.reg x).1 : Nat)) (by omega)).set (w.heap.size + 1 + 1) 2 (.int .i64 0) (by omega)).set (w.heap.size + 1 + 1) 3 (.int .i64 0) (by omega)).set (w.heap.size + 1 + 1) 4 (.int .i64 (As.either (As.reg x).2).1.1) (by omega))
  clear hz
  go_wp2_with fail
  refine bodyPost_ret (v := .agg #[.int .i64 op, .int .i64 ((As.reg x).1 : Nat), .int .i64 0, .int .i64 0, .int .i64 (As.either (As.reg x).2).1.1, .string ⟨(As.either (As.reg x).2).1.2.toArray⟩, .string ⟨#[]⟩, .string ⟨#[]⟩, .string ⟨#[]⟩, .string ⟨#[]⟩, .slice none 0 0, .bool true]) (by simp [results, Tryz.results90, go_sem, r0, r1, r2, r3, r4, r5, r6, r7, r8, r9, r10, r11]) rfl ?_
  refine ⟨?_, As.rz_ret HZ.out _ _ _ _ _ _ _ _ _ _ _ _⟩
  by_cases hn : (As.either (As.reg x).2).1.2 = []
  · simp [As.rcells, As.rgoal, As.rplace, As.gk, hn]
  · simp [As.rcells, As.rgoal, As.rplace, As.gk, hn]
set_option maxRecDepth 100000 in
set_option maxHeartbeats 8000000 in
theorem rinst_3 {w : World} {g : Nat} {x : As.L} (h : As.Rk w g x) (hsh : As.Short x.l) (op : Int) (hs : Is.shape op = 3) :
    Calls Tryz.prog 90 #[.int .i64 op, .pointer (some ⟨g, 0, none⟩)] w (As.RIPost w g (⟨true, ⟨op, 0, ((As.reg x).1), ((As.reg (As.reg x).2).1), (As.either (As.reg (As.reg x).2).2).1.1⟩, [], As.gk (As.either (As.reg (As.reg x).2).2).1.2, (As.either (As.reg (As.reg x).2).2).1.2, []⟩ : As.P) (As.either (As.reg (As.reg x).2).2).2) := by
  have HB0 := Lib.hid (As.Rx.start h #[.int .i64 op, .int .i64 0, .int .i64 0, .int .i64 0, .int .i64 0] #[.int .i64 0, .int .i64 0, .int .i64 0, .int .i64 0, .int .i64 0, .string ⟨#[]⟩, .string ⟨#[]⟩, .string ⟨#[]⟩, .string ⟨#[]⟩, .string ⟨#[]⟩, .slice none 0 0, .bool true])
  have HSH := Lib.hid hsh
  have CS := Lib.hid (fun W => shape_ref op W)
  rw [hs] at CS
  clear h hsh hs
  go_enter Tryz.func90, Tryz.ntmps90
  go_wp2_with (go_at_call 145; refine (CS.out _).mono ?_; rintro e w' ⟨rfl, rfl⟩)
  obtain ⟨W0, hW0⟩ : ∃ W0, ((w.alloc (.cells #[.int .i64 0, .int .i64 0, .int .i64 0, .int .i64 0, .int .i64 0, .string ⟨#[]⟩, .string ⟨#[]⟩, .string ⟨#[]⟩, .string ⟨#[]⟩, .string ⟨#[]⟩, .slice none 0 0, .bool false] 116)).alloc (.cells #[.int .i64 op, .int .i64 0, .int .i64 0, .int .i64 0, .int .i64 0] 114)).alloc (.cells #[.int .i64 0, .int .i64 0, .int .i64 0, .int .i64 0, .int .i64 0, .string ⟨#[]⟩, .string ⟨#[]⟩, .string ⟨#[]⟩, .string ⟨#[]⟩, .string ⟨#[]⟩, .slice none 0 0, .bool true] 116) = W0 := ⟨_, rfl⟩
  rw [hW0] at HB0 ⊢
  clear hW0
  go_at_call 146
  refine (rrdreg_any HB0.out.z.rk).mono ?_
  rintro e w1 ⟨rfl, hg1⟩
  have hb1 := HB0.out.step hg1
  have HSH1 := Lib.hid (show As.Short (As.reg x).2.l from HSH.out.reg)
  have c1 := hb1.bi.cell 2
  have f1 := hb1.bi.free 2
  simp only [List.getElem?_toArray, List.getElem?_cons_zero, List.getElem?_cons_succ] at c1
  have HB1 := Lib.hid (show As.Rx w g (w1.setCell ⟨w.heap.size + 1, 2, none⟩ (.int .i64 ((As.reg x).1 : Nat))) (As.reg x).2 #[.int .i64 op, .int .i64 0, .int .i64 ((As.reg x).1 : Nat), .int .i64 0, .int .i64 0] #[.int .i64 0, .int .i64 0, .int .i64 0, .int .i64 0, .int .i64 0, .string ⟨#[]⟩, .string ⟨#[]⟩, .string ⟨#[]⟩, .string ⟨#[]⟩, .string ⟨#[]⟩, .slice none 0 0, .bool true] from by simpa using hb1.setI 2 (.int .i64 ((As.reg x).1 : Nat)))
  clear hb1 hg1
  go_wp2_with fail
  obtain ⟨W1, hW1⟩ : ∃ W1, w1.setCell ⟨w.heap.size + 1, 2, none⟩ (.int .i64 ((As.reg x).1 : Nat)) = W1 := ⟨_, rfl⟩
  rw [hW1] at HB1 ⊢
  clear hW1 c1 f1
  go_at_call 146
  refine (rrdreg_any HB1.out.z.rk).mono ?_
  rintro e w2 ⟨rfl, hg2⟩
  have hb2 := HB1.out.step hg2
  have HSH2 := Lib.hid (show As.Short (As.reg (As.reg x).2).2.l from HSH1.out.reg)
  have c2 := hb2.bi.cell 3
  have f2 := hb2.bi.free 3
  simp only [List.getElem?_toArray, List.getElem?_cons_zero, List.getElem?_cons_succ] at c2
  have HB2 := Lib.hid (show As.Rx w g (w2.setCell ⟨w.heap.size + 1, 3, none⟩ (.int .i64 ((As.reg (As.reg x).2).1 : Nat))) (As.reg (As.reg x).2).2 #[.int .i64 op, .int .i64 0, .int .i64 ((As.reg x).1 : Nat), .int .i64 ((As.reg (As.reg x).2).1 : Nat), .int .i64 0] #[.int .i64 0, .int .i64 0, .int .i64 0, .int .i64 0, .int .i64 0, .string ⟨#[]⟩, .string ⟨#[]⟩, .string ⟨#[]⟩, .string ⟨#[]⟩, .string ⟨#[]⟩, .slice none 0 0, .bool true] from by simpa using hb2.setI 3 (.int .i64 ((As.reg (As.reg x).2).1 : Nat)))
  clear hb2 hg2
  go_wp2_with fail
  obtain ⟨W2, hW2⟩ : ∃ W2, w2.setCell ⟨w.heap.size + 1, 3, none⟩ (.int .i64 ((As.reg (As.reg x).2).1 : Nat)) = W2 := ⟨_, rfl⟩
  rw [hW2] at HB2 ⊢
  clear hW2 c2 f2
  go_at_call 148
  refine (rrdgoal_any HB2.out.z.rk HSH2.out).mono ?_
  rintro e w3 ⟨rfl, hg3⟩
  have hb3 := HB2.out.step hg3
  have HSH3 := Lib.hid (show As.Short (As.either (As.reg (As.reg x).2).2).2.l from HSH2.out.either)
  have c3 := hb3.bi.cell 4
  have f3 := hb3.bi.free 4
  have d3 := hb3.bp.cell 5
  have e3 := hb3.bp.free 5
  simp only [List.getElem?_toArray, List.getElem?_cons_zero, List.getElem?_cons_succ] at c3 d3
  have HB3 := Lib.hid (show As.Rx w g ((w3.setCell ⟨w.heap.size + 1, 4, none⟩ (.int .i64 (As.either (As.reg (As.reg x).2).2).1.1)).setCell ⟨w.heap.size + 1 + 1, 5, none⟩ (.string ⟨(As.either (As.reg (As.reg x).2).2).1.2.toArray⟩)) (As.either (As.reg (As.reg x).2).2).2 #[.int .i64 op, .int .i64 0, .int .i64 ((As.reg x).1 : Nat), .int .i64 ((As.reg (As.reg x).2).1 : Nat), .int .i64 (As.either (As.reg (As.reg x).2).2).1.1] #[.int .i64 0, .int .i64 0, .int .i64 0, .int .i64 0, .int .i64 0, .string ⟨(As.either (As.reg (As.reg x).2).2).1.2.toArray⟩, .string ⟨#[]⟩, .string ⟨#[]⟩, .string ⟨#[]⟩, .string ⟨#[]⟩, .slice none 0 0, .bool true] from by simpa using (hb3.setI 4 (.int .i64 (As.either (As.reg (As.reg x).2).2).1.1)).setP 5 (.string ⟨(As.either (As.reg (As.reg x).2).2).1.2.toArray⟩))
  clear hb3 hg3
  go_upto_region 31 with fail
  obtain ⟨WZ, hWZ⟩ : ∃ WZ, (w3.setCell ⟨w.heap.size + 1, 4, none⟩ (.int .i64 (As.either (As.reg (As.reg x).2).2).1.1)).setCell ⟨w.heap.size + 1 + 1, 5, none⟩ (.string ⟨(As.either (As.reg (As.reg x).2).2).1.2.toArray⟩) = WZ := ⟨_, rfl⟩
  rw [hWZ] at HB3 ⊢
  clear hWZ c3 f3 d3 e3
  have hz := HB3.out
  have i0 := hz.bi.cell 0
  have i1 := hz.bi.cell 1
  have i2 := hz.bi.cell 2
  have i3 := hz.bi.cell 3
  have i4 := hz.bi.cell 4
  have p0 := hz.bp.cell 0
  have p1 := hz.bp.cell 1
  have p2 := hz.bp.cell 2
  have p3 := hz.bp.cell 3
  have p4 := hz.bp.cell 4
  have p5 := hz.bp.cell 5
  have p6 := hz.bp.cell 6
  have p7 := hz.bp.cell 7
  have p8 := hz.bp.cell 8
  have p9 := hz.bp.cell 9
  have p10 := hz.bp.cell 10
  have p11 := hz.bp.cell 11
  have q0 := hz.bp.free 0
  have q1 := hz.bp.free 1
  have q2 := hz.bp.free 2
  have q3 := hz.bp.free 3
  have q4 := hz.bp.free 4
  have q5 := hz.bp.free 5
  have q6 := hz.bp.free 6
  have q7 := hz.bp.free 7
  have q8 := hz.bp.free 8
  have q9 := hz.bp.free 9
  have q10 := hz.bp.free 10
  have q11 := hz.bp.free 11
  have r0 := hz.br.cell 0
  have r1 := hz.br.cell 1
  have r2 := hz.br.cell 2
  have r3 := hz.br.cell 3
  have r4 := hz.br.cell 4
  have r5 := hz.br.cell 5
  have r6 := hz.br.cell 6
  have r7 := hz.br.cell 7
  have r8 := hz.br.cell 8
  have r9 := hz.br.cell 9
  have r10 := hz.br.cell 10
  have r11 := hz.br.cell 11
  have s0 := hz.br.free 0
  have s1 := hz.br.free 1
  have s2 := hz.br.free 2
  have s3 := hz.br.free 3
  have s4 := hz.br.free 4
  have s5 := hz.br.free 5
  have s6 := hz.br.free 6
  have s7 := hz.br.free 7
  have s8 := hz.br.free 8
  have s9 := hz.br.free 9
  have s10 := hz.br.free 10
  have s11 := hz.br.free 11
  simp only [List.getElem?_toArray, List.getElem?_cons_zero, List.getElem?_cons_succ] at i0 i1 i2 i3 i4 p0 p1 p2 p3 p4 p5 p6 p7 p8 p9 p10 p11 r0 r1 r2 r3 r4 r5 r6 r7 r8 r9 r10 r11
  have HZ := Lib.hid (show As.Rz w g _ (As.either (As.reg (As.reg x).2).2).2 from ((((hz.z.set (w.heap.size + 1 + 1) 0 (.int .i64 op) (by omega)).set (w.heap.size + 1 + 1) 1 (.int .i64 0) (by omega)).set (w.heap.size + 1 + 1) 2 (.int .i64 ((As.reg x).1 : Nat)) (by omega)).set (w.heap.size + 1 + 1) 3 (.int .i64 ((As.reg (As.reg x).2).1 : Nat)) (by omega)).set (w.heap.size + 1 + 1) 4 (.int .i64 (As.either (As.reg (As.reg x).2).2).1.1) (by omega))
  clear hz
  go_wp2_with fail
  refine bodyPost_ret (v := .agg #[.int .i64 op, .int .i64 0, .int .i64 ((As.reg x).1 : Nat), .int .i64 ((As.reg (As.reg x).2).1 : Nat), .int .i64 (As.either (As.reg (As.reg x).2).2).1.1, .string ⟨(As.either (As.reg (As.reg x).2).2).1.2.toArray⟩, .string ⟨#[]⟩, .string ⟨#[]⟩, .string ⟨#[]⟩, .string ⟨#[]⟩, .slice none 0 0, .bool true]) (by simp [results, Tryz.results90, go_sem, r0, r1, r2, r3, r4, r5, r6, r7, r8, r9, r10, r11]) rfl ?_
  refine ⟨?_, As.rz_ret HZ.out _ _ _ _ _ _ _ _ _ _ _ _⟩
  by_cases hn : (As.either (As.reg (As.reg x).2).2).1.2 = []
  · simp [As.rcells, As.rgoal, As.rplace, As.gk, hn]
  · simp [As.rcells, As.rgoal, As.rplace, As.gk, hn]
set_option maxRecDepth 100000 in
set_option maxHeartbeats 8000000 in
theorem rinst_4 {w : World} {g : Nat} {x : As.L} (h : As.Rk w g x) (hsh : As.Short x.l) (op : Int) (hs : Is.shape op = 4) :
    Calls Tryz.prog 90 #[.int .i64 op, .pointer (some ⟨g, 0, none⟩)] w (As.RIPost w g (⟨true, ⟨op, 0, ((As.reg (As.num (As.reg x).2).2).1), ((As.reg x).1), (As.num (As.reg x).2).1⟩, [], 0, [], []⟩ : As.P) (As.reg (As.num (As.reg x).2).2).2) := by
  have HB0 := Lib.hid (As.Rx.start h #[.int .i64 op, .int .i64 0, .int .i64 0, .int .i64 0, .int .i64 0] #[.int .i64 0, .int .i64 0, .int .i64 0, .int .i64 0, .int .i64 0, .string ⟨#[]⟩, .string ⟨#[]⟩, .string ⟨#[]⟩, .string ⟨#[]⟩, .string ⟨#[]⟩, .slice none 0 0, .bool true])
  have HSH := Lib.hid hsh
  have CS := Lib.hid (fun W => shape_ref op W)
  rw [hs] at CS
  clear h hsh hs
  go_enter Tryz.func90, Tryz.ntmps90
  go_wp2_with (go_at_call 145; refine (CS.out _).mono ?_; rintro e w' ⟨rfl, rfl⟩)
  obtain ⟨W0, hW0⟩ : ∃ W0, ((w.alloc (.cells #[.int .i64 0, .int .i64 0, .int .i64 0, .int .i64 0, .int .i64 0, .string ⟨#[]⟩, .string ⟨#[]⟩, .string ⟨#[]⟩, .string ⟨#[]⟩, .string ⟨#[]⟩, .slice none 0 0, .bool false] 116)).alloc (.cells #[.int .i64 op, .int .i64 0, .int .i64 0, .int .i64 0, .int .i64 0] 114)).alloc (.cells #[.int .i64 0, .int .i64 0, .int .i64 0, .int .i64 0, .int .i64 0, .string ⟨#[]⟩, .string ⟨#[]⟩, .string ⟨#[]⟩, .string ⟨#[]⟩, .string ⟨#[]⟩, .slice none 0 0, .bool true] 116) = W0 := ⟨_, rfl⟩
  rw [hW0] at HB0 ⊢
  clear hW0
  go_at_call 146
  refine (rrdreg_any HB0.out.z.rk).mono ?_
  rintro e w1 ⟨rfl, hg1⟩
  have hb1 := HB0.out.step hg1
  have HSH1 := Lib.hid (show As.Short (As.reg x).2.l from HSH.out.reg)
  have c1 := hb1.bi.cell 3
  have f1 := hb1.bi.free 3
  simp only [List.getElem?_toArray, List.getElem?_cons_zero, List.getElem?_cons_succ] at c1
  have HB1 := Lib.hid (show As.Rx w g (w1.setCell ⟨w.heap.size + 1, 3, none⟩ (.int .i64 ((As.reg x).1 : Nat))) (As.reg x).2 #[.int .i64 op, .int .i64 0, .int .i64 0, .int .i64 ((As.reg x).1 : Nat), .int .i64 0] #[.int .i64 0, .int .i64 0, .int .i64 0, .int .i64 0, .int .i64 0, .string ⟨#[]⟩, .string ⟨#[]⟩, .string ⟨#[]⟩, .string ⟨#[]⟩, .string ⟨#[]⟩, .slice none 0 0, .bool true] from by simpa using hb1.setI 3 (.int .i64 ((As.reg x).1 : Nat)))
  clear hb1 hg1
  go_wp2_with fail
  obtain ⟨W1, hW1⟩ : ∃ W1, w1.setCell ⟨w.heap.size + 1, 3, none⟩ (.int .i64 ((As.reg x).1 : Nat)) = W1 := ⟨_, rfl⟩
  rw [hW1] at HB1 ⊢
  clear hW1 c1 f1
  go_at_call 147
  refine (rrdnum_any HB1.out.z.rk HSH1.out).mono ?_
  rintro e w2 ⟨rfl, hg2⟩
  have hb2 := HB1.out.step hg2
  have HSH2 := Lib.hid (show As.Short (As.num (As.reg x).2).2.l from HSH1.out.num)
  have c2 := hb2.bi.cell 4
  have f2 := hb2.bi.free 4
  simp only [List.getElem?_toArray, List.getElem?_cons_zero, List.getElem?_cons_succ] at c2
  have HB2 := Lib.hid (show As.Rx w g (w2.setCell ⟨w.heap.size + 1, 4, none⟩ (.int .i64 (As.num (As.reg x).2).1)) (As.num (As.reg x).2).2 #[.int .i64 op, .int .i64 0, .int .i64 0, .int .i64 ((As.reg x).1 : Nat), .int .i64 (As.num (As.reg x).2).1] #[.int .i64 0, .int .i64 0, .int .i64 0, .int .i64 0, .int .i64 0, .string ⟨#[]⟩, .string ⟨#[]⟩, .string ⟨#[]⟩, .string ⟨#[]⟩, .string ⟨#[]⟩, .slice none 0 0, .bool true] from by simpa using hb2.setI 4 (.int .i64 (As.num (As.reg x).2).1))
  clear hb2 hg2
  go_wp2_with fail
  obtain ⟨W2, hW2⟩ : ∃ W2, w2.setCell ⟨w.heap.size + 1, 4, none⟩ (.int .i64 (As.num (As.reg x).2).1) = W2 := ⟨_, rfl⟩
  rw [hW2] at HB2 ⊢
  clear hW2 c2 f2
  go_at_call 146
  refine (rrdreg_any HB2.out.z.rk).mono ?_
  rintro e w3 ⟨rfl, hg3⟩
  have hb3 := HB2.out.step hg3
  have HSH3 := Lib.hid (show As.Short (As.reg (As.num (As.reg x).2).2).2.l from HSH2.out.reg)
  have c3 := hb3.bi.cell 2
  have f3 := hb3.bi.free 2
  simp only [List.getElem?_toArray, List.getElem?_cons_zero, List.getElem?_cons_succ] at c3
  have HB3 := Lib.hid (show As.Rx w g (w3.setCell ⟨w.heap.size + 1, 2, none⟩ (.int .i64 ((As.reg (As.num (As.reg x).2).2).1 : Nat))) (As.reg (As.num (As.reg x).2).2).2 #[.int .i64 op, .int .i64 0, .int .i64 ((As.reg (As.num (As.reg x).2).2).1 : Nat), .int .i64 ((As.reg x).1 : Nat), .int .i64 (As.num (As.reg x).2).1] #[.int .i64 0, .int .i64 0, .int .i64 0, .int .i64 0, .int .i64 0, .string ⟨#[]⟩, .string ⟨#[]⟩, .string ⟨#[]⟩, .string ⟨#[]⟩, .string ⟨#[]⟩, .slice none 0 0, .bool true] from by simpa using hb3.setI 2 (.int .i64 ((As.reg (As.num (As.reg x).2).2).1 : Nat)))
  clear hb3 hg3
  go_upto_region 31 with fail
  obtain ⟨WZ, hWZ⟩ : ∃ WZ, w3.setCell ⟨w.heap.size + 1, 2, none⟩ (.int .i64 ((As.reg (As.num (As.reg x).2).2).1 : Nat)) = WZ := ⟨_, rfl⟩
  rw [hWZ] at HB3 ⊢
  clear hWZ c3 f3
  have hz := HB3.out
  have i0 := hz.bi.cell 0
  have i1 := hz.bi.cell 1
  have i2 := hz.bi.cell 2
  have i3 := hz.bi.cell 3
  have i4 := hz.bi.cell 4
  have p0 := hz.bp.cell 0
  have p1 := hz.bp.cell 1
  have p2 := hz.bp.cell 2
  have p3 := hz.bp.cell 3
  have p4 := hz.bp.cell 4
  have p5 := hz.bp.cell 5
  have p6 := hz.bp.cell 6
  have p7 := hz.bp.cell 7
  have p8 := hz.bp.cell 8
  have p9 := hz.bp.cell 9
  have p10 := hz.bp.cell 10
  have p11 := hz.bp.cell 11
  have q0 := hz.bp.free 0
  have q1 := hz.bp.free 1
  have q2 := hz.bp.free 2
  have q3 := hz.bp.free 3
  have q4 := hz.bp.free 4
  have q5 := hz.bp.free 5
  have q6 := hz.bp.free 6
  have q7 := hz.bp.free 7
  have q8 := hz.bp.free 8
  have q9 := hz.bp.free 9
  have q10 := hz.bp.free 10
  have q11 := hz.bp.free 11
  have r0 := hz.br.cell 0
  have r1 := hz.br.cell 1
  have r2 := hz.br.cell 2
  have r3 := hz.br.cell 3
  have r4 := hz.br.cell 4
  have r5 := hz.br.cell 5
  have r6 := hz.br.cell 6
  have r7 := hz.br.cell 7
  have r8 := hz.br.cell 8
  have r9 := hz.br.cell 9
  have r10 := hz.br.cell 10
  have r11 := hz.br.cell 11
  have s0 := hz.br.free 0
  have s1 := hz.br.free 1
  have s2 := hz.br.free 2
  have s3 := hz.br.free 3
  have s4 := hz.br.free 4
  have s5 := hz.br.free 5
  have s6 := hz.br.free 6
  have s7 := hz.br.free 7
  have s8 := hz.br.free 8
  have s9 := hz.br.free 9
  have s10 := hz.br.free 10
  have s11 := hz.br.free 11
  simp only [List.getElem?_toArray, List.getElem?_cons_zero, List.getElem?_cons_succ] at i0 i1 i2 i3 i4 p0 p1 p2 p3 p4 p5 p6 p7 p8 p9 p10 p11 r0 r1 r2 r3 r4 r5 r6 r7 r8 r9 r10 r11
  have HZ := Lib.hid (show As.Rz w g _ (As.reg (As.num (As.reg x).2).2).2 from ((((hz.z.set (w.heap.size + 1 + 1) 0 (.int .i64 op) (by omega)).set (w.heap.size + 1 + 1) 1 (.int .i64 0) (by omega)).set (w.heap.size + 1 + 1) 2 (.int .i64 ((As.reg (As.num (As.reg x).2).2).1 : Nat)) (by omega)).set (w.heap.size + 1 + 1) 3 (.int .i64 ((As.reg x).1 : Nat)) (by omega)).set (w.heap.size + 1 + 1) 4 (.int .i64 (As.num (As.reg x).2).1) (by omega))
  clear hz
  go_wp2_with fail
  refine bodyPost_ret (v := .agg #[.int .i64 op, .int .i64 0, .int .i64 ((As.reg (As.num (As.reg x).2).2).1 : Nat), .int .i64 ((As.reg x).1 : Nat), .int .i64 (As.num (As.reg x).2).1, .string ⟨#[]⟩, .string ⟨#[]⟩, .string ⟨#[]⟩, .string ⟨#[]⟩, .string ⟨#[]⟩, .slice none 0 0, .bool true]) (by simp [results, Tryz.results90, go_sem, r0, r1, r2, r3, r4, r5, r6, r7, r8, r9, r10, r11]) rfl ?_
  exact ⟨rfl, As.rz_ret HZ.out _ _ _ _ _ _ _ _ _ _ _ _⟩
set_option maxRecDepth 100000 in
set_option maxHeartbeats 8000000 in
theorem rinst_6 {w : World} {g : Nat} {x : As.L} (h : As.Rk w g x) (hsh : As.Short x.l) (op : Int) (hs : Is.shape op = 6) :
    Calls Tryz.prog 90 #[.int .i64 op, .pointer (some ⟨g, 0, none⟩)] w (As.RIPost w g (⟨true, ⟨op, ((As.reg x).1), ((As.reg (As.reg x).2).1), ((As.reg (As.reg (As.reg x).2).2).1), 0⟩, [], 0, [], []⟩ : As.P) (As.reg (As.reg (As.reg x).2).2).2) := by
  have HB0 := Lib.hid (As.Rx.start h #[.int .i64 op, .int .i64 0, .int .i64 0, .int .i64 0, .int .i64 0] #[.int .i64 0, .int .i64 0, .int .i64 0, .int .i64 0, .int .i64 0, .string ⟨#[]⟩, .string ⟨#[]⟩, .string ⟨#[]⟩, .string ⟨#[]⟩, .string ⟨#[]⟩, .slice none 0 0, .bool true])
  have HSH := Lib.hid hsh
  have CS := Lib.hid (fun W => shape_ref op W)
  rw [hs] at CS
  clear h hsh hs
  go_enter Tryz.func90, Tryz.ntmps90
  go_wp2_with (go_at_call 145; refine (CS.out _).mono ?_; rintro e w' ⟨rfl, rfl⟩)
  obtain ⟨W0, hW0⟩ : ∃ W0, ((w.alloc (.cells #[.int .i64 0, .int .i64 0, .int .i64 0, .int .i64 0, .int .i64 0, .string ⟨#[]⟩, .string ⟨#[]⟩, .string ⟨#[]⟩, .string ⟨#[]⟩, .string ⟨#[]⟩, .slice none 0 0, .bool false] 116)).alloc (.cells #[.int .i64 op, .int .i64 0, .int .i64 0, .int .i64 0, .int .i64 0] 114)).alloc (.cells #[.int .i64 0, .int .i64 0, .int .i64 0, .int .i64 0, .int .i64 0, .string ⟨#[]⟩, .string ⟨#[]⟩, .string ⟨#[]⟩, .string ⟨#[]⟩, .string ⟨#[]⟩, .slice none 0 0, .bool true] 116) = W0 := ⟨_, rfl⟩
  rw [hW0] at HB0 ⊢
  clear hW0
  go_at_call 146
  refine (rrdreg_any HB0.out.z.rk).mono ?_
  rintro e w1 ⟨rfl, hg1⟩
  have hb1 := HB0.out.step hg1
  have HSH1 := Lib.hid (show As.Short (As.reg x).2.l from HSH.out.reg)
  have c1 := hb1.bi.cell 1
  have f1 := hb1.bi.free 1
  simp only [List.getElem?_toArray, List.getElem?_cons_zero, List.getElem?_cons_succ] at c1
  have HB1 := Lib.hid (show As.Rx w g (w1.setCell ⟨w.heap.size + 1, 1, none⟩ (.int .i64 ((As.reg x).1 : Nat))) (As.reg x).2 #[.int .i64 op, .int .i64 ((As.reg x).1 : Nat), .int .i64 0, .int .i64 0, .int .i64 0] #[.int .i64 0, .int .i64 0, .int .i64 0, .int .i64 0, .int .i64 0, .string ⟨#[]⟩, .string ⟨#[]⟩, .string ⟨#[]⟩, .string ⟨#[]⟩, .string ⟨#[]⟩, .slice none 0 0, .bool true] from by simpa using hb1.setI 1 (.int .i64 ((As.reg x).1 : Nat)))
  clear hb1 hg1
  go_wp2_with fail
  obtain ⟨W1, hW1⟩ : ∃ W1, w1.setCell ⟨w.heap.size + 1, 1, none⟩ (.int .i64 ((As.reg x).1 : Nat)) = W1 := ⟨_, rfl⟩
  rw [hW1] at HB1 ⊢
  clear hW1 c1 f1
  go_at_call 146
  refine (rrdreg_any HB1.out.z.rk).mono ?_
  rintro e w2 ⟨rfl, hg2⟩
  have hb2 := HB1.out.step hg2
  have HSH2 := Lib.hid (show As.Short (As.reg (As.reg x).2).2.l from HSH1.out.reg)
  have c2 := hb2.bi.cell 2
  have f2 := hb2.bi.free 2
  simp only [List.getElem?_toArray, List.getElem?_cons_zero, List.getElem?_cons_succ] at c2
  have HB2 := Lib.hid (show As.Rx w g (w2.setCell ⟨w.heap.size + 1, 2, none⟩ (.int .i64 ((As.reg (As.reg x).2).1 : Nat))) (As.reg (As.reg x).2).2 #[.int .i64 op, .int .i64 ((As.reg x).1 : Nat), .int .i64 ((As.reg (As.reg x).2).1 : Nat), .int .i64 0, .int .i64 0] #[.int .i64 0, .int .i64 0, .int .i64 0, .int .i64 0, .int .i64 0, .string ⟨#[]⟩, .string ⟨#[]⟩, .string ⟨#[]⟩, .string ⟨#[]⟩, .string ⟨#[]⟩, .slice none 0 0, .bool true] from by simpa using hb2.setI 2 (.int .i64 ((As.reg (As.reg x).2).1 : Nat)))
  clear hb2 hg2
  go_wp2_with fail
  obtain ⟨W2, hW2⟩ : ∃ W2, w2.setCell ⟨w.heap.size + 1, 2, none⟩ (.int .i64 ((As.reg (As.reg x).2).1 : Nat)) = W2 := ⟨_, rfl⟩
  rw [hW2] at HB2 ⊢
  clear hW2 c2 f2
  go_at_call 146
  refine (rrdreg_any HB2.out.z.rk).mono ?_
  rintro e w3 ⟨rfl, hg3⟩
  have hb3 := HB2.out.step hg3
  have HSH3 := Lib.hid (show As.Short (As.reg (As.reg (As.reg x).2).2).2.l from HSH2.out.reg)
  have c3 := hb3.bi.cell 3
  have f3 := hb3.bi.free 3
  simp only [List.getElem?_toArray, List.getElem?_cons_zero, List.getElem?_cons_succ] at c3
  have HB3 := Lib.hid (show As.Rx w g (w3.setCell ⟨w.heap.size + 1, 3, none⟩ (.int .i64 ((As.reg (As.reg (As.reg x).2).2).1 : Nat))) (As.reg (As.reg (As.reg x).2).2).2 #[.int .i64 op, .int .i64 ((As.reg x).1 : Nat), .int .i64 ((As.reg (As.reg x).2).1 : Nat), .int .i64 ((As.reg (As.reg (As.reg x).2).2).1 : Nat), .int .i64 0] #[.int .i64 0, .int .i64 0, .int .i64 0, .int .i64 0, .int .i64 0, .string ⟨#[]⟩, .string ⟨#[]⟩, .string ⟨#[]⟩, .string ⟨#[]⟩, .string ⟨#[]⟩, .slice none 0 0, .bool true] from by simpa using hb3.setI 3 (.int .i64 ((As.reg (As.reg (As.reg x).2).2).1 : Nat)))
  clear hb3 hg3
  go_upto_region 31 with fail
  obtain ⟨WZ, hWZ⟩ : ∃ WZ, w3.setCell ⟨w.heap.size + 1, 3, none⟩ (.int .i64 ((As.reg (As.reg (As.reg x).2).2).1 : Nat)) = WZ := ⟨_, rfl⟩
  rw [hWZ] at HB3 ⊢
  clear hWZ c3 f3
  have hz := HB3.out
  have i0 := hz.bi.cell 0
  have i1 := hz.bi.cell 1
  have i2 := hz.bi.cell 2
  have i3 := hz.bi.cell 3
  have i4 := hz.bi.cell 4
  have p0 := hz.bp.cell 0
  have p1 := hz.bp.cell 1
  have p2 := hz.bp.cell 2
  have p3 := hz.bp.cell 3
  have p4 := hz.bp.cell 4
  have p5 := hz.bp.cell 5
  have p6 := hz.bp.cell 6
  have p7 := hz.bp.cell 7
  have p8 := hz.bp.cell 8
  have p9 := hz.bp.cell 9
  have p10 := hz.bp.cell 10
  have p11 := hz.bp.cell 11
  have q0 := hz.bp.free 0
  have q1 := hz.bp.free 1
  have q2 := hz.bp.free 2
  have q3 := hz.bp.free 3
  have q4 := hz.bp.free 4
  have q5 := hz.bp.free 5
  have q6 := hz.bp.free 6
  have q7 := hz.bp.free 7
  have q8 := hz.bp.free 8
  have q9 := hz.bp.free 9
  have q10 := hz.bp.free 10
  have q11 := hz.bp.free 11
  have r0 := hz.br.cell 0
  have r1 := hz.br.cell 1
  have r2 := hz.br.cell 2
  have r3 := hz.br.cell 3
  have r4 := hz.br.cell 4
  have r5 := hz.br.cell 5
  have r6 := hz.br.cell 6
  have r7 := hz.br.cell 7
  have r8 := hz.br.cell 8
  have r9 := hz.br.cell 9
  have r10 := hz.br.cell 10
  have r11 := hz.br.cell 11
  have s0 := hz.br.free 0
  have s1 := hz.br.free 1
  have s2 := hz.br.free 2
  have s3 := hz.br.free 3
  have s4 := hz.br.free 4
  have s5 := hz.br.free 5
  have s6 := hz.br.free 6
  have s7 := hz.br.free 7
  have s8 := hz.br.free 8
  have s9 := hz.br.free 9
  have s10 := hz.br.free 10
  have s11 := hz.br.free 11
  simp only [List.getElem?_toArray, List.getElem?_cons_zero, List.getElem?_cons_succ] at i0 i1 i2 i3 i4 p0 p1 p2 p3 p4 p5 p6 p7 p8 p9 p10 p11 r0 r1 r2 r3 r4 r5 r6 r7 r8 r9 r10 r11
  have HZ := Lib.hid (show As.Rz w g _ (As.reg (As.reg (As.reg x).2).2).2 from ((((hz.z.set (w.heap.size + 1 + 1) 0 (.int .i64 op) (by omega)).set (w.heap.size + 1 + 1) 1 (.int .i64 ((As.reg x).1 : Nat)) (by omega)).set (w.heap.size + 1 + 1) 2 (.int .i64 ((As.reg (As.reg x).2).1 : Nat)) (by omega)).set (w.heap.size + 1 + 1) 3 (.int .i64 ((As.reg (As.reg (As.reg x).2).2).1 : Nat)) (by omega)).set (w.heap.size + 1 + 1) 4 (.int .i64 0) (by omega))
  clear hz
  go_wp2_with fail
  refine bodyPost_ret (v := .agg #[.int .i64 op, .int .i64 ((As.reg x).1 : Nat), .int .i64 ((As.reg (As.reg x).2).1 : Nat), .int .i64 ((As.reg (As.reg (As.reg x).2).2).1 : Nat), .int .i64 0, .string ⟨#[]⟩, .string ⟨#[]⟩, .string ⟨#[]⟩, .string ⟨#[]⟩, .string ⟨#[]⟩, .slice none 0 0, .bool true]) (by simp [results, Tryz.results90, go_sem, r0, r1, r2, r3, r4, r5, r6, r7, r8, r9, r10, r11]) rfl ?_
  exact ⟨rfl, As.rz_ret HZ.out _ _ _ _ _ _ _ _ _ _ _ _⟩
set_option maxRecDepth 100000 in
set_option maxHeartbeats 8000000 in
theorem rinst_8 {w : World} {g : Nat} {x : As.L} (h : As.Rk w g x) (hsh : As.Short x.l) (op : Int) (hs : Is.shape op = 8) :
    Calls Tryz.prog 90 #[.int .i64 op, .pointer (some ⟨g, 0, none⟩)] w (As.RIPost w g (⟨true, ⟨op, 0, 0, 0, (As.num x).1⟩, [], 0, [], []⟩ : As.P) (As.num x).2) := by
  have HB0 := Lib.hid (As.Rx.start h #[.int .i64 op, .int .i64 0, .int .i64 0, .int .i64 0, .int .i64 0] #[.int .i64 0, .int .i64 0, .int .i64 0, .int .i64 0, .int .i64 0, .string ⟨#[]⟩, .string ⟨#[]⟩, .string ⟨#[]⟩, .string ⟨#[]⟩, .string ⟨#[]⟩, .slice none 0 0, .bool true])
  have HSH := Lib.hid hsh
  have CS := Lib.hid (fun W => shape_ref op W)
  rw [hs] at CS
  clear h hsh hs
  go_enter Tryz.func90, Tryz.ntmps90
  go_wp2_with (go_at_call 145; refine (CS.out _).mono ?_; rintro e w' ⟨rfl, rfl⟩)
  obtain ⟨W0, hW0⟩ : ∃ W0, ((w.alloc (.cells #[.int .i64 0, .int .i64 0, .int .i64 0, .int .i64 0, .int .i64 0, .string ⟨#[]⟩, .string ⟨#[]⟩, .string ⟨#[]⟩, .string ⟨#[]⟩, .string ⟨#[]⟩, .slice none 0 0, .bool false] 116)).alloc (.cells #[.int .i64 op, .int .i64 0, .int .i64 0, .int .i64 0, .int .i64 0] 114)).alloc (.cells #[.int .i64 0, .int .i64 0, .int .i64 0, .int .i64 0, .int .i64 0, .string ⟨#[]⟩, .string ⟨#[]⟩, .string ⟨#[]⟩, .string ⟨#[]⟩, .string ⟨#[]⟩, .slice none 0 0, .bool true] 116) = W0 := ⟨_, rfl⟩
  rw [hW0] at HB0 ⊢
  clear hW0
  go_at_call 147
  refine (rrdnum_any HB0.out.z.rk HSH.out).mono ?_
  rintro e w1 ⟨rfl, hg1⟩
  have hb1 := HB0.out.step hg1
  have HSH1 := Lib.hid (show As.Short (As.num x).2.l from HSH.out.num)
  have c1 := hb1.bi.cell 4
  have f1 := hb1.bi.free 4
  simp only [List.getElem?_toArray, List.getElem?_cons_zero, List.getElem?_cons_succ] at c1
  have HB1 := Lib.hid (show As.Rx w g (w1.setCell ⟨w.heap.size + 1, 4, none⟩ (.int .i64 (As.num x).1)) (As.num x).2 #[.int .i64 op, .int .i64 0, .int .i64 0, .int .i64 0, .int .i64 (As.num x).1] #[.int .i64 0, .int .i64 0, .int .i64 0, .int .i64 0, .int .i64 0, .string ⟨#[]⟩, .string ⟨#[]⟩, .string ⟨#[]⟩, .string ⟨#[]⟩, .string ⟨#[]⟩, .slice none 0 0, .bool true] from by simpa using hb1.setI 4 (.int .i64 (As.num x).1))
  clear hb1 hg1
  go_upto_region 31 with fail
  obtain ⟨WZ, hWZ⟩ : ∃ WZ, w1.setCell ⟨w.heap.size + 1, 4, none⟩ (.int .i64 (As.num x).1) = WZ := ⟨_, rfl⟩
  rw [hWZ] at HB1 ⊢
  clear hWZ c1 f1
  have hz := HB1.out
  have i0 := hz.bi.cell 0
  have i1 := hz.bi.cell 1
  have i2 := hz.bi.cell 2
  have i3 := hz.bi.cell 3
  have i4 := hz.bi.cell 4
  have p0 := hz.bp.cell 0
  have p1 := hz.bp.cell 1
  have p2 := hz.bp.cell 2
  have p3 := hz.bp.cell 3
  have p4 := hz.bp.cell 4
  have p5 := hz.bp.cell 5
  have p6 := hz.bp.cell 6
  have p7 := hz.bp.cell 7
  have p8 := hz.bp.cell 8
  have p9 := hz.bp.cell 9
  have p10 := hz.bp.cell 10
  have p11 := hz.bp.cell 11
  have q0 := hz.bp.free 0
  have q1 := hz.bp.free 1
  have q2 := hz.bp.free 2
  have q3 := hz.bp.free 3
  have q4 := hz.bp.free 4
  have q5 := hz.bp.free 5
  have q6 := hz.bp.free 6
  have q7 := hz.bp.free 7
  have q8 := hz.bp.free 8
  have q9 := hz.bp.free 9
  have q10 := hz.bp.free 10
  have q11 := hz.bp.free 11
  have r0 := hz.br.cell 0
  have r1 := hz.br.cell 1
  have r2 := hz.br.cell 2
  have r3 := hz.br.cell 3
  have r4 := hz.br.cell 4
  have r5 := hz.br.cell 5
  have r6 := hz.br.cell 6
  have r7 := hz.br.cell 7
  have r8 := hz.br.cell 8
  have r9 := hz.br.cell 9
  have r10 := hz.br.cell 10
  have r11 := hz.br.cell 11
  have s0 := hz.br.free 0
  have s1 := hz.br.free 1
  have s2 := hz.br.free 2
  have s3 := hz.br.free 3
  have s4 := hz.br.free 4
  have s5 := hz.br.free 5
  have s6 := hz.br.free 6
  have s7 := hz.br.free 7
  have s8 := hz.br.free 8
  have s9 := hz.br.free 9
  have s10 := hz.br.free 10
  have s11 := hz.br.free 11
  simp only [List.getElem?_toArray, List.getElem?_cons_zero, List.getElem?_cons_succ] at i0 i1 i2 i3 i4 p0 p1 p2 p3 p4 p5 p6 p7 p8 p9 p10 p11 r0 r1 r2 r3 r4 r5 r6 r7 r8 r9 r10 r11
  have HZ := Lib.hid (show As.Rz w g _ (As.num x).2 from ((((hz.z.set (w.heap.size + 1 + 1) 0 (.int .i64 op) (by omega)).set (w.heap.size + 1 + 1) 1 (.int .i64 0) (by omega)).set (w.heap.size + 1 + 1) 2 (.int .i64 0) (by omega)).set (w.heap.size + 1 + 1) 3 (.int .i64 0) (by omega)).set (w.heap.size + 1 + 1) 4 (.int .i64 (As.num x).1) (by omega))
  clear hz
  go_wp2_with fail
  refine bodyPost_ret (v := .agg #[.int .i64 op, .int .i64 0, .int .i64 0, .int .i64 0, .int .i64 (As.num x).1, .string ⟨#[]⟩, .string ⟨#[]⟩, .string ⟨#[]⟩, .string ⟨#[]⟩, .string ⟨#[]⟩, .slice none 0 0, .bool true]) (by simp [results, Tryz.results90, go_sem, r0, r1, r2, r3, r4, r5, r6, r7, r8, r9, r10, r11]) rfl ?_
  exact ⟨rfl, As.rz_ret HZ.out _ _ _ _ _ _ _ _ _ _ _ _⟩
set_option maxRecDepth 100000 in
set_option maxHeartbeats 8000000 in
theorem rinst_7 {w : World} {g : Nat} {x : As.L} (h : As.Rk w g x) (hsh : As.Short x.l) (op : Int) (hs : Is.shape op = 7) :
    Calls Tryz.prog 90 #[.int .i64 op, .pointer (some ⟨g, 0, none⟩)] w (As.RIPost w g (⟨true, ⟨op, 0, 0, 0, 0⟩, [], 0, [], []⟩ : As.P) x) := by
  have HK := Lib.hid h
  have CS := Lib.hid (fun W => shape_ref op W)
  rw [hs] at CS
  clear h hsh hs
  go_enter Tryz.func90, Tryz.ntmps90
  go_wp2_with (go_at_call 145; refine (CS.out _).mono ?_; rintro e w' ⟨rfl, rfl⟩)
  exact bodyPost_ret (v := .agg (As.rcells (⟨true, ⟨op, 0, 0, 0, 0⟩, [], 0, [], []⟩ : As.P) (.slice none 0 0)).toArray) (by simp [results, Tryz.results90, go_sem, As.rcells, As.rgoal, As.rplace]) rfl ⟨rfl, ((As.Rz.start HK.out).kept ((((Below.refl _ _).alloc (Nat.le_refl _) _).alloc (by simp) _).alloc (by simp; omega) _)).go⟩
set_option maxRecDepth 100000 in
set_option maxHeartbeats 8000000 in
theorem rinst_lo {w : World} {g : Nat} {x : As.L} (h : As.Rk w g x) (hsh : As.Short x.l) (op : Int) (hs : Is.shape op = -1 ∨ Is.shape op = 2 ∨ Is.shape op = 5) (ho : op < 18) :
    Calls Tryz.prog 90 #[.int .i64 op, .pointer (some ⟨g, 0, none⟩)] w (As.RIPost w g (⟨true, ⟨op, ((As.reg x).1), ((As.reg (As.num (As.reg x).2).2).1), 0, (As.num (As.reg x).2).1⟩, [], 0, [], []⟩ : As.P) (As.reg (As.num (As.reg x).2).2).2) := by
  have HB0 := Lib.hid (As.Rx.start h #[.int .i64 op, .int .i64 0, .int .i64 0, .int .i64 0, .int .i64 0] #[.int .i64 0, .int .i64 0, .int .i64 0, .int .i64 0, .int .i64 0, .string ⟨#[]⟩, .string ⟨#[]⟩, .string ⟨#[]⟩, .string ⟨#[]⟩, .string ⟨#[]⟩, .slice none 0 0, .bool true])
  have HSH := Lib.hid hsh
  have CS := Lib.hid (fun W => shape_ref op W)
  clear h hsh
  rcases hs with hs | hs | hs
  all_goals
    rw [hs] at CS
    clear hs
    go_enter Tryz.func90, Tryz.ntmps90
    go_wp2_with (go_at_call 145; refine (CS.out _).mono ?_; rintro e w' ⟨rfl, rfl⟩)
    obtain ⟨W0, hW0⟩ : ∃ W0, ((w.alloc (.cells #[.int .i64 0, .int .i64 0, .int .i64 0, .int .i64 0, .int .i64 0, .string ⟨#[]⟩, .string ⟨#[]⟩, .string ⟨#[]⟩, .string ⟨#[]⟩, .string ⟨#[]⟩, .slice none 0 0, .bool false] 116)).alloc (.cells #[.int .i64 op, .int .i64 0, .int .i64 0, .int .i64 0, .int .i64 0] 114)).alloc (.cells #[.int .i64 0, .int .i64 0, .int .i64 0, .int .i64 0, .int .i64 0, .string ⟨#[]⟩, .string ⟨#[]⟩, .string ⟨#[]⟩, .string ⟨#[]⟩, .string ⟨#[]⟩, .slice none 0 0, .bool true] 116) = W0 := ⟨_, rfl⟩
    rw [hW0] at HB0 ⊢
    clear hW0
    go_at_call 146
    refine (rrdreg_any HB0.out.z.rk).mono ?_
    rintro e w1 ⟨rfl, hg1⟩
    have hb1 := HB0.out.step hg1
    have HSH1 := Lib.hid (show As.Short (As.reg x).2.l from HSH.out.reg)
    have c1 := hb1.bi.cell 1
    have f1 := hb1.bi.free 1
    simp only [List.getElem?_toArray, List.getElem?_cons_zero, List.getElem?_cons_succ] at c1
    have HB1 := Lib.hid (show As.Rx w g (w1.setCell ⟨w.heap.size + 1, 1, none⟩ (.int .i64 ((As.reg x).1 : Nat))) (As.reg x).2 #[.int .i64 op, .int .i64 ((As.reg x).1 : Nat), .int .i64 0, .int .i64 0, .int .i64 0] #[.int .i64 0, .int .i64 0, .int .i64 0, .int .i64 0, .int .i64 0, .string ⟨#[]⟩, .string ⟨#[]⟩, .string ⟨#[]⟩, .string ⟨#[]⟩, .string ⟨#[]⟩, .slice none 0 0, .bool true] from by simpa using hb1.setI 1 (.int .i64 ((As.reg x).1 : Nat)))
    clear hb1 hg1
    go_wp2_with fail
    obtain ⟨W1, hW1⟩ : ∃ W1, w1.setCell ⟨w.heap.size + 1, 1, none⟩ (.int .i64 ((As.reg x).1 : Nat)) = W1 := ⟨_, rfl⟩
    rw [hW1] at HB1 ⊢
    clear hW1 c1 f1
    go_at_call 147
    refine (rrdnum_any HB1.out.z.rk HSH1.out).mono ?_
    rintro e w2 ⟨rfl, hg2⟩
    have hb2 := HB1.out.step hg2
    have HSH2 := Lib.hid (show As.Short (As.num (As.reg x).2).2.l from HSH1.out.num)
    have c2 := hb2.bi.cell 4
    have f2 := hb2.bi.free 4
    simp only [List.getElem?_toArray, List.getElem?_cons_zero, List.getElem?_cons_succ] at c2
    have HB2 := Lib.hid (show As.Rx w g (w2.setCell ⟨w.heap.size + 1, 4, none⟩ (.int .i64 (As.num (As.reg x).2).1)) (As.num (As.reg x).2).2 #[.int .i64 op, .int .i64 ((As.reg x).1 : Nat), .int .i64 0, .int .i64 0, .int .i64 (As.num (As.reg x).2).1] #[.int .i64 0, .int .i64 0, .int .i64 0, .int .i64 0, .int .i64 0, .string ⟨#[]⟩, .string ⟨#[]⟩, .string ⟨#[]⟩, .string ⟨#[]⟩, .string ⟨#[]⟩, .slice none 0 0, .bool true] from by simpa using hb2.setI 4 (.int .i64 (As.num (As.reg x).2).1))
    clear hb2 hg2
    go_wp2_with fail
    obtain ⟨W2, hW2⟩ : ∃ W2, w2.setCell ⟨w.heap.size + 1, 4, none⟩ (.int .i64 (As.num (As.reg x).2).1) = W2 := ⟨_, rfl⟩
    rw [hW2] at HB2 ⊢
    clear hW2 c2 f2
    go_at_call 146
    refine (rrdreg_any HB2.out.z.rk).mono ?_
    rintro e w3 ⟨rfl, hg3⟩
    have hb3 := HB2.out.step hg3
    have HSH3 := Lib.hid (show As.Short (As.reg (As.num (As.reg x).2).2).2.l from HSH2.out.reg)
    have c3 := hb3.bi.cell 2
    have f3 := hb3.bi.free 2
    simp only [List.getElem?_toArray, List.getElem?_cons_zero, List.getElem?_cons_succ] at c3
    have HB3 := Lib.hid (show As.Rx w g (w3.setCell ⟨w.heap.size + 1, 2, none⟩ (.int .i64 ((As.reg (As.num (As.reg x).2).2).1 : Nat))) (As.reg (As.num (As.reg x).2).2).2 #[.int .i64 op, .int .i64 ((As.reg x).1 : Nat), .int .i64 ((As.reg (As.num (As.reg x).2).2).1 : Nat), .int .i64 0, .int .i64 (As.num (As.reg x).2).1] #[.int .i64 0, .int .i64 0, .int .i64 0, .int .i64 0, .int .i64 0, .string ⟨#[]⟩, .string ⟨#[]⟩, .string ⟨#[]⟩, .string ⟨#[]⟩, .string ⟨#[]⟩, .slice none 0 0, .bool true] from by simpa using hb3.setI 2 (.int .i64 ((As.reg (As.num (As.reg x).2).2).1 : Nat)))
    clear hb3 hg3
    go_upto_region 31 with fail
    obtain ⟨WZ, hWZ⟩ : ∃ WZ, w3.setCell ⟨w.heap.size + 1, 2, none⟩ (.int .i64 ((As.reg (As.num (As.reg x).2).2).1 : Nat)) = WZ := ⟨_, rfl⟩
    rw [hWZ] at HB3 ⊢
    clear hWZ c3 f3
    have hz := HB3.out
    have i0 := hz.bi.cell 0
    have i1 := hz.bi.cell 1
    have i2 := hz.bi.cell 2
    have i3 := hz.bi.cell 3
    have i4 := hz.bi.cell 4
    have p0 := hz.bp.cell 0
    have p1 := hz.bp.cell 1
    have p2 := hz.bp.cell 2
    have p3 := hz.bp.cell 3
    have p4 := hz.bp.cell 4
    have p5 := hz.bp.cell 5
    have p6 := hz.bp.cell 6
    have p7 := hz.bp.cell 7
    have p8 := hz.bp.cell 8
    have p9 := hz.bp.cell 9
    have p10 := hz.bp.cell 10
    have p11 := hz.bp.cell 11
    have q0 := hz.bp.free 0
    have q1 := hz.bp.free 1
    have q2 := hz.bp.free 2
    have q3 := hz.bp.free 3
    have q4 := hz.bp.free 4
    have q5 := hz.bp.free 5
    have q6 := hz.bp.free 6
    have q7 := hz.bp.free 7
    have q8 := hz.bp.free 8
    have q9 := hz.bp.free 9
    have q10 := hz.bp.free 10
    have q11 := hz.bp.free 11
    have r0 := hz.br.cell 0
    have r1 := hz.br.cell 1
    have r2 := hz.br.cell 2
    have r3 := hz.br.cell 3
    have r4 := hz.br.cell 4
    have r5 := hz.br.cell 5
    have r6 := hz.br.cell 6
    have r7 := hz.br.cell 7
    have r8 := hz.br.cell 8
    have r9 := hz.br.cell 9
    have r10 := hz.br.cell 10
    have r11 := hz.br.cell 11
    have s0 := hz.br.free 0
    have s1 := hz.br.free 1
    have s2 := hz.br.free 2
    have s3 := hz.br.free 3
    have s4 := hz.br.free 4
    have s5 := hz.br.free 5
    have s6 := hz.br.free 6
    have s7 := hz.br.free 7
    have s8 := hz.br.free 8
    have s9 := hz.br.free 9
    have s10 := hz.br.free 10
    have s11 := hz.br.free 11
    simp only [List.getElem?_toArray, List.getElem?_cons_zero, List.getElem?_cons_succ] at i0 i1 i2 i3 i4 p0 p1 p2 p3 p4 p5 p6 p7 p8 p9 p10 p11 r0 r1 r2 r3 r4 r5 r6 r7 r8 r9 r10 r11
    have HZ := Lib.hid (show As.Rz w g _ (As.reg (As.num (As.reg x).2).2).2 from ((((hz.z.set (w.heap.size + 1 + 1) 0 (.int .i64 op) (by omega)).set (w.heap.size + 1 + 1) 1 (.int .i64 ((As.reg x).1 : Nat)) (by omega)).set (w.heap.size + 1 + 1) 2 (.int .i64 ((As.reg (As.num (As.reg x).2).2).1 : Nat)) (by omega)).set (w.heap.size + 1 + 1) 3 (.int .i64 0) (by omega)).set (w.heap.size + 1 + 1) 4 (.int .i64 (As.num (As.reg x).2).1) (by omega))
    clear hz
    go_wp2_with fail
    refine bodyPost_ret (v := .agg #[.int .i64 op, .int .i64 ((As.reg x).1 : Nat), .int .i64 ((As.reg (As.num (As.reg x).2).2).1 : Nat), .int .i64 0, .int .i64 (As.num (As.reg x).2).1, .string ⟨#[]⟩, .string ⟨#[]⟩, .string ⟨#[]⟩, .string ⟨#[]⟩, .string ⟨#[]⟩, .slice none 0 0, .bool true]) (by simp [results, Tryz.results90, go_sem, r0, r1, r2, r3, r4, r5, r6, r7, r8, r9, r10, r11]) rfl ?_
    exact ⟨rfl, As.rz_ret HZ.out _ _ _ _ _ _ _ _ _ _ _ _⟩
set_option maxRecDepth 100000 in
set_option maxHeartbeats 8000000 in
theorem rinst_hi {w : World} {g : Nat} {x : As.L} (h : As.Rk w g x) (hsh : As.Short x.l) (op : Int) (hs : Is.shape op = -1 ∨ Is.shape op = 2 ∨ Is.shape op = 5) (ho : ¬ op < 18) :
    Calls Tryz.prog 90 #[.int .i64 op, .pointer (some ⟨g, 0, none⟩)] w (As.RIPost w g (⟨true, ⟨op, ((As.reg x).1), ((As.reg (As.reg x).2).1), 0, (As.num (As.reg (As.reg x).2).2).1⟩, [], 0, [], []⟩ : As.P) (As.num (As.reg (As.reg x).2).2).2) := by
  have HB0 := Lib.hid (As.Rx.start h #[.int .i64 op, .int .i64 0, .int .i64 0, .int .i64 0, .int .i64 0] #[.int .i64 0, .int .i64 0, .int .i64 0, .int .i64 0, .int .i64 0, .string ⟨#[]⟩, .string ⟨#[]⟩, .string ⟨#[]⟩, .string ⟨#[]⟩, .string ⟨#[]⟩, .slice none 0 0, .bool true])
  have HSH := Lib.hid hsh
  have CS := Lib.hid (fun W => shape_ref op W)
  clear h hsh
  rcases hs with hs | hs | hs
  all_goals
    rw [hs] at CS
    clear hs
    go_enter Tryz.func90, Tryz.ntmps90
    go_wp2_with (go_at_call 145; refine (CS.out _).mono ?_; rintro e w' ⟨rfl, rfl⟩)
    obtain ⟨W0, hW0⟩ : ∃ W0, ((w.alloc (.cells #[.int .i64 0, .int .i64 0, .int .i64 0, .int .i64 0, .int .i64 0, .string ⟨#[]⟩, .string ⟨#[]⟩, .string ⟨#[]⟩, .string ⟨#[]⟩, .string ⟨#[]⟩, .slice none 0 0, .bool false] 116)).alloc (.cells #[.int .i64 op, .int .i64 0, .int .i64 0, .int .i64 0, .int .i64 0] 114)).alloc (.cells #[.int .i64 0, .int .i64 0, .int .i64 0, .int .i64 0, .int .i64 0, .string ⟨#[]⟩, .string ⟨#[]⟩, .string ⟨#[]⟩, .string ⟨#[]⟩, .string ⟨#[]⟩, .slice none 0 0, .bool true] 116) = W0 := ⟨_, rfl⟩
    rw [hW0] at HB0 ⊢
    clear hW0
    go_at_call 146
    refine (rrdreg_any HB0.out.z.rk).mono ?_
    rintro e w1 ⟨rfl, hg1⟩
    have hb1 := HB0.out.step hg1
    have HSH1 := Lib.hid (show As.Short (As.reg x).2.l from HSH.out.reg)
    have c1 := hb1.bi.cell 1
    have f1 := hb1.bi.free 1
    simp only [List.getElem?_toArray, List.getElem?_cons_zero, List.getElem?_cons_succ] at c1
    have HB1 := Lib.hid (show As.Rx w g (w1.setCell ⟨w.heap.size + 1, 1, none⟩ (.int .i64 ((As.reg x).1 : Nat))) (As.reg x).2 #[.int .i64 op, .int .i64 ((As.reg x).1 : Nat), .int .i64 0, .int .i64 0, .int .i64 0] #[.int .i64 0, .int .i64 0, .int .i64 0, .int .i64 0, .int .i64 0, .string ⟨#[]⟩, .string ⟨#[]⟩, .string ⟨#[]⟩, .string ⟨#[]⟩, .string ⟨#[]⟩, .slice none 0 0, .bool true] from by simpa using hb1.setI 1 (.int .i64 ((As.reg x).1 : Nat)))
    clear hb1 hg1
    go_wp2_with fail
    obtain ⟨W1, hW1⟩ : ∃ W1, w1.setCell ⟨w.heap.size + 1, 1, none⟩ (.int .i64 ((As.reg x).1 : Nat)) = W1 := ⟨_, rfl⟩
    rw [hW1] at HB1 ⊢
    clear hW1 c1 f1
    go_at_call 146
    refine (rrdreg_any HB1.out.z.rk).mono ?_
    rintro e w2 ⟨rfl, hg2⟩
    have hb2 := HB1.out.step hg2
    have HSH2 := Lib.hid (show As.Short (As.reg (As.reg x).2).2.l from HSH1.out.reg)
    have c2 := hb2.bi.cell 2
    have f2 := hb2.bi.free 2
    simp only [List.getElem?_toArray, List.getElem?_cons_zero, List.getElem?_cons_succ] at c2
    have HB2 := Lib.hid (show As.Rx w g (w2.setCell ⟨w.heap.size + 1, 2, none⟩ (.int .i64 ((As.reg (As.reg x).2).1 : Nat))) (As.reg (As.reg x).2).2 #[.int .i64 op, .int .i64 ((As.reg x).1 : Nat), .int .i64 ((As.reg (As.reg x).2).1 : Nat), .int .i64 0, .int .i64 0] #[.int .i64 0, .int .i64 0, .int .i64 0, .int .i64 0, .int .i64 0, .string ⟨#[]⟩, .string ⟨#[]⟩, .string ⟨#[]⟩, .string ⟨#[]⟩, .string ⟨#[]⟩, .slice none 0 0, .bool true] from by simpa using hb2.setI 2 (.int .i64 ((As.reg (As.reg x).2).1 : Nat)))
    clear hb2 hg2
    go_wp2_with fail
    obtain ⟨W2, hW2⟩ : ∃ W2, w2.setCell ⟨w.heap.size + 1, 2, none⟩ (.int .i64 ((As.reg (As.reg x).2).1 : Nat)) = W2 := ⟨_, rfl⟩
    rw [hW2] at HB2 ⊢
    clear hW2 c2 f2
    go_at_call 147
    refine (rrdnum_any HB2.out.z.rk HSH2.out).mono ?_
    rintro e w3 ⟨rfl, hg3⟩
    have hb3 := HB2.out.step hg3
    have HSH3 := Lib.hid (show As.Short (As.num (As.reg (As.reg x).2).2).2.l from HSH2.out.num)
    have c3 := hb3.bi.cell 4
    have f3 := hb3.bi.free 4
    simp only [List.getElem?_toArray, List.getElem?_cons_zero, List.getElem?_cons_succ] at c3
    have HB3 := Lib.hid (show As.Rx w g (w3.setCell ⟨w.heap.size + 1, 4, none⟩ (.int .i64 (As.num (As.reg (As.reg x).2).2).1)) (As.num (As.reg (As.reg x).2).2).2 #[.int .i64 op, .int .i64 ((As.reg x).1 : Nat), .int .i64 ((As.reg (As.reg x).2).1 : Nat), .int .i64 0, .int .i64 (As.num (As.reg (As.reg x).2).2).1] #[.int .i64 0, .int .i64 0, .int .i64 0, .int .i64 0, .int .i64 0, .string ⟨#[]⟩, .string ⟨#[]⟩, .string ⟨#[]⟩, .string ⟨#[]⟩, .string ⟨#[]⟩, .slice none 0 0, .bool true] from by simpa using hb3.setI 4 (.int .i64 (As.num (As.reg (As.reg x).2).2).1))
    clear hb3 hg3
    go_upto_region 31 with fail
    obtain ⟨WZ, hWZ⟩ : ∃ WZ, w3.setCell ⟨w.heap.size + 1, 4, none⟩ (.int .i64 (As.num (As.reg (As.reg x).2).2).1) = WZ := ⟨_, rfl⟩
    rw [hWZ] at HB3 ⊢
    clear hWZ c3 f3
    have hz := HB3.out
    have i0 := hz.bi.cell 0
    have i1 := hz.bi.cell 1
    have i2 := hz.bi.cell 2
    have i3 := hz.bi.cell 3
    have i4 := hz.bi.cell 4
    have p0 := hz.bp.cell 0
    have p1 := hz.bp.cell 1
    have p2 := hz.bp.cell 2
    have p3 := hz.bp.cell 3
    have p4 := hz.bp.cell 4
    have p5 := hz.bp.cell 5
    have p6 := hz.bp.cell 6
    have p7 := hz.bp.cell 7
    have p8 := hz.bp.cell 8
    have p9 := hz.bp.cell 9
    have p10 := hz.bp.cell 10
    have p11 := hz.bp.cell 11
    have q0 := hz.bp.free 0
    have q1 := hz.bp.free 1
    have q2 := hz.bp.free 2
    have q3 := hz.bp.free 3
    have q4 := hz.bp.free 4
    have q5 := hz.bp.free 5
    have q6 := hz.bp.free 6
    have q7 := hz.bp.free 7
    have q8 := hz.bp.free 8
    have q9 := hz.bp.free 9
    have q10 := hz.bp.free 10
    have q11 := hz.bp.free 11
    have r0 := hz.br.cell 0
    have r1 := hz.br.cell 1
    have r2 := hz.br.cell 2
    have r3 := hz.br.cell 3
    have r4 := hz.br.cell 4
    have r5 := hz.br.cell 5
    have r6 := hz.br.cell 6
    have r7 := hz.br.cell 7
    have r8 := hz.br.cell 8
    have r9 := hz.br.cell 9
    have r10 := hz.br.cell 10
    have r11 := hz.br.cell 11
    have s0 := hz.br.free 0
    have s1 := hz.br.free 1
    have s2 := hz.br.free 2
    have s3 := hz.br.free 3
    have s4 := hz.br.free 4
    have s5 := hz.br.free 5
    have s6 := hz.br.free 6
    have s7 := hz.br.free 7
    have s8 := hz.br.free 8
    have s9 := hz.br.free 9
    have s10 := hz.br.free 10
    have s11 := hz.br.free 11
    simp only [List.getElem?_toArray, List.getElem?_cons_zero, List.getElem?_cons_succ] at i0 i1 i2 i3 i4 p0 p1 p2 p3 p4 p5 p6 p7 p8 p9 p10 p11 r0 r1 r2 r3 r4 r5 r6 r7 r8 r9 r10 r11
    have HZ := Lib.hid (show As.Rz w g _ (As.num (As.reg (As.reg x).2).2).2 from ((((hz.z.set (w.heap.size + 1 + 1) 0 (.int .i64 op) (by omega)).set (w.heap.size + 1 + 1) 1 (.int .i64 ((As.reg x).1 : Nat)) (by omega)).set (w.heap.size + 1 + 1) 2 (.int .i64 ((As.reg (As.reg x).2).1 : Nat)) (by omega)).set (w.heap.size + 1 + 1) 3 (.int .i64 0) (by omega)).set (w.heap.size + 1 + 1) 4 (.int .i64 (As.num (As.reg (As.reg x).2).2).1) (by omega))
    clear hz
    go_wp2_with fail
    refine bodyPost_ret (v := .agg #[.int .i64 op, .int .i64 ((As.reg x).1 : Nat), .int .i64 ((As.reg (As.reg x).2).1 : Nat), .int .i64 0, .int .i64 (As.num (As.reg (As.reg x).2).2).1, .string ⟨#[]⟩, .string ⟨#[]⟩, .string ⟨#[]⟩, .string ⟨#[]⟩, .string ⟨#[]⟩, .slice none 0 0, .bool true]) (by simp [results, Tryz.results90, go_sem, r0, r1, r2, r3, r4, r5, r6, r7, r8, r9, r10, r11]) rfl ?_
    exact ⟨rfl, As.rz_ret HZ.out _ _ _ _ _ _ _ _ _ _ _ _⟩
theorem As.high_shape {op : Int} (h1 : 15 ≤ op) (h2 : op < 18) : Is.shape op = 4 := by
  have : op = 15 ∨ op = 16 ∨ op = 17 := by omega
  rcases this with rfl | rfl | rfl <;> decide
/-- The document's instruction is the program's. -/
theorem rinst_any {w : World} {g : Nat} {x : As.L} (h : As.Rk w g x) (hsh : As.Short x.l) (op : Int) :
    ∃ p y, As.inst op x = As.put p y ∧ y.p = x.p ∧ Calls Tryz.prog 90 #[.int .i64 op, .pointer (some ⟨g, 0, none⟩)] w (As.RIPost w g p y) := by
  rcases Is.shape_cases op with hs | hs | hs | hs | hs | hs | hs | hs | hs | hs
  · by_cases ho : op < 18
    · have h14 : op ≤ 14 := by
        rcases Int.lt_or_le 14 op with h | h
        · rw [As.high_shape (by omega) ho] at hs; exact absurd hs (by decide)
        · exact h
      exact ⟨_, _, by unfold As.inst; rw [if_neg (by rw [hs]; decide), if_neg (by rw [hs]; decide), if_neg (by rw [hs]; decide), if_neg (by rw [hs]; decide), if_neg (by rw [hs]; decide), if_neg (by rw [hs]; decide), if_neg (by rw [hs]; decide), if_pos h14]; rfl, by simp only [As.reg_p, As.num_p, As.either_p], rinst_lo h hsh op (.inl hs) ho⟩
    · exact ⟨_, _, by unfold As.inst; rw [if_neg (by rw [hs]; decide), if_neg (by rw [hs]; decide), if_neg (by rw [hs]; decide), if_neg (by rw [hs]; decide), if_neg (by rw [hs]; decide), if_neg (by rw [hs]; decide), if_neg (by rw [hs]; decide), if_neg (by omega)]; rfl, by simp only [As.reg_p, As.num_p, As.either_p], rinst_hi h hsh op (.inl hs) ho⟩
  · exact ⟨_, _, by unfold As.inst; rw [if_pos hs]; rfl, by simp only [As.reg_p, As.num_p, As.either_p], rinst_0 h hsh op hs⟩
  · exact ⟨_, _, by unfold As.inst; rw [if_neg (by rw [hs]; decide), if_pos hs]; rfl, by simp only [As.reg_p, As.num_p, As.either_p], rinst_1 h hsh op hs⟩
  · by_cases ho : op < 18
    · have h14 : op ≤ 14 := by
        rcases Int.lt_or_le 14 op with h | h
        · rw [As.high_shape (by omega) ho] at hs; exact absurd hs (by decide)
        · exact h
      exact ⟨_, _, by unfold As.inst; rw [if_neg (by rw [hs]; decide), if_neg (by rw [hs]; decide), if_neg (by rw [hs]; decide), if_neg (by rw [hs]; decide), if_neg (by rw [hs]; decide), if_neg (by rw [hs]; decide), if_neg (by rw [hs]; decide), if_pos h14]; rfl, by simp only [As.reg_p, As.num_p, As.either_p], rinst_lo h hsh op (.inr (.inl hs)) ho⟩
    · exact ⟨_, _, by unfold As.inst; rw [if_neg (by rw [hs]; decide), if_neg (by rw [hs]; decide), if_neg (by rw [hs]; decide), if_neg (by rw [hs]; decide), if_neg (by rw [hs]; decide), if_neg (by rw [hs]; decide), if_neg (by rw [hs]; decide), if_neg (by omega)]; rfl, by simp only [As.reg_p, As.num_p, As.either_p], rinst_hi h hsh op (.inr (.inl hs)) ho⟩
  · exact ⟨_, _, by unfold As.inst; rw [if_neg (by rw [hs]; decide), if_neg (by rw [hs]; decide), if_pos hs]; rfl, by simp only [As.reg_p, As.num_p, As.either_p], rinst_3 h hsh op hs⟩
  · exact ⟨_, _, by unfold As.inst; rw [if_neg (by rw [hs]; decide), if_neg (by rw [hs]; decide), if_neg (by rw [hs]; decide), if_pos hs]; rfl, by simp only [As.reg_p, As.num_p, As.either_p], rinst_4 h hsh op hs⟩
  · by_cases ho : op < 18
    · have h14 : op ≤ 14 := by
        rcases Int.lt_or_le 14 op with h | h
        · rw [As.high_shape (by omega) ho] at hs; exact absurd hs (by decide)
        · exact h
      exact ⟨_, _, by unfold As.inst; rw [if_neg (by rw [hs]; decide), if_neg (by rw [hs]; decide), if_neg (by rw [hs]; decide), if_neg (by rw [hs]; decide), if_neg (by rw [hs]; decide), if_neg (by rw [hs]; decide), if_neg (by rw [hs]; decide), if_pos h14]; rfl, by simp only [As.reg_p, As.num_p, As.either_p], rinst_lo h hsh op (.inr (.inr hs)) ho⟩
    · exact ⟨_, _, by unfold As.inst; rw [if_neg (by rw [hs]; decide), if_neg (by rw [hs]; decide), if_neg (by rw [hs]; decide), if_neg (by rw [hs]; decide), if_neg (by rw [hs]; decide), if_neg (by rw [hs]; decide), if_neg (by rw [hs]; decide), if_neg (by omega)]; rfl, by simp only [As.reg_p, As.num_p, As.either_p], rinst_hi h hsh op (.inr (.inr hs)) ho⟩
  · exact ⟨_, _, by unfold As.inst; rw [if_neg (by rw [hs]; decide), if_neg (by rw [hs]; decide), if_neg (by rw [hs]; decide), if_neg (by rw [hs]; decide), if_pos hs]; rfl, by simp only [As.reg_p, As.num_p, As.either_p], rinst_6 h hsh op hs⟩
  · exact ⟨_, _, by unfold As.inst; rw [if_neg (by rw [hs]; decide), if_neg (by rw [hs]; decide), if_neg (by rw [hs]; decide), if_neg (by rw [hs]; decide), if_neg (by rw [hs]; decide), if_neg (by rw [hs]; decide), if_pos hs]; rfl, by simp only [As.reg_p, As.num_p, As.either_p], rinst_7 h hsh op hs⟩
  · exact ⟨_, _, by unfold As.inst; rw [if_neg (by rw [hs]; decide), if_neg (by rw [hs]; decide), if_neg (by rw [hs]; decide), if_neg (by rw [hs]; decide), if_neg (by rw [hs]; decide), if_pos hs]; rfl, by simp only [As.reg_p, As.num_p, As.either_p], rinst_8 h hsh op hs⟩
end Go.Proofs.YtpcpaoeajcjoiaaGreatDoor
