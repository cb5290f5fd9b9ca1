/- Texts joined, what is not reached left out. -/
import Derived.Test.YtpcpaoeajcjoiaaGreatDoorQAsRPs
import Derived.Test.YtpcpaoeajcjoiaaGreatDoorMM
import Derived.Laws.MakeOwn
import Derived.Deep.RegionHeld3
/- Layer 7: the document's pieces, one behind the other. -/
namespace Go.Proofs.YtpcpaoeajcjoiaaGreatDoor
open Go.RowKit Kit
set_option linter.unusedVariables false
set_option linter.unusedSimpArgs false

theorem As.RdB1.clear_grown {B : Nat} {W W' : World} {u v : Value} {b : List UInt8} (h : As.RdB1 B W u b) (hc : As.Clear (fun k => v.ownBlock = some k) u) (hg : W.grownBy W' v.ownBlock) : As.RdB1 B W' u b :=
  ⟨(Fr.of_grown (F := fun k => v.ownBlock = some k) hg (fun k e => e)).rd h.1 (fun g off c e hn => hc g off _ c e hn), h.2⟩
theorem As.RdB1.lt {B : Nat} {W : World} {u : Value} {b : List UInt8} (h : As.RdB1 B W u b) {g off n c : Nat} (e : u = .slice (some ⟨g, off, none⟩) n c) (hn : 0 < n) : g < W.heap.size := by
  obtain ⟨_, A, c', e', _, _, h4⟩ := h.1
  rw [e] at e'
  injection e' with e1 e2 e3
  obtain ⟨g', off', e4, hlt, _⟩ := h4 (by omega)
  rw [← e1] at e4
  injection e4 with e4
  injection e4 with e4 _
  subst e4
  exact hlt
/-- A row of pieces of the call's own. -/
def As.Out (B : Nat) (W : World) (v : Value) (ps : List As.P) : Prop := ∃ cs, W.ownsRow B 116 12 v ps.length cs ∧ As.Qs (fun u b => As.RdB1 B W u b ∧ As.Clear (fun k => v.ownBlock = some k) u) ps cs
theorem As.Out.nil (B : Nat) (W : World) : As.Out B W (.slice none 0 0) [] := ⟨[], World.ownsRow_nil _ _ _ _, rfl⟩
theorem As.Out.kept {B : Nat} {W W' : World} {v : Value} {ps : List As.P} (h : As.Out B W v ps) (hb : Below W.heap.size W W') : As.Out B W' v ps := by
  obtain ⟨cs, h1, h2⟩ := h
  exact ⟨cs, own_kept h1 hb, h2.map fun u b hu => ⟨hu.1.kept hb, hu.2⟩⟩
/-- A block below changes. -/
theorem As.Out.fr {F : Nat → Prop} {B : Nat} {W W' : World} {v : Value} {ps : List As.P} (h : As.Out B W v ps) (hf : Fr F W W') (hF : ∀ k, F k → k < B) : As.Out B W' v ps := by
  obtain ⟨cs, h1, h2⟩ := h
  refine ⟨cs, hf.own h1 (fun k hk hFk => ?_), h2.map fun u b hu => ⟨⟨hf.rd hu.1.1 (fun g off c e hn hFk => ?_), hu.1.2⟩, hu.2⟩⟩
  · rcases h1.2 with ⟨rfl, _⟩ | ⟨g', cap, cur, rfl, hB, _⟩
    · cases hk
    · simp [Value.ownBlock] at hk
      subst hk
      have := hF _ hFk
      omega
  · have := hu.1.2 g off _ c e hn
    have := hF _ hFk
    omega
theorem As.Out.rdq {B : Nat} {W : World} {v : Value} {ps : List As.P} (h : As.Out B W v ps) : As.RdQ B W v ps := by
  obtain ⟨cs, h1, h2⟩ := h
  exact As.RdQ.of_own h1 (h2.map fun u b hu => hu.1)
theorem As.Out.form {B : Nat} {W : World} {v : Value} {ps : List As.P} (h : As.Out B W v ps) : ∃ A c, v = .slice A ps.length c := h.rdq.form
/-- What an append of one piece meets: W, the piece's bytes are read in Wa; the piece lies in a block of its own. -/
theorem As.Out.room {B : Nat} {W Wa : World} {v vb : Value} {ps : List As.P} (h : As.Out B W v ps) (p : As.P) (hb : Below W.heap.size W Wa) (hBW : B ≤ W.heap.size) (hvb : As.RdB1 B Wa vb p.bytes) (hfr : ∀ g off n c, vb = .slice (some ⟨g, off, none⟩) n c → 0 < n → W.heap.size ≤ g ∨ As.Clear (fun k => v.ownBlock = some k) vb) :
    ∃ A c cs, v = .slice A ps.length c ∧ (Wa.alloc (.cells (As.rcells p vb).toArray 116)).ownsRow B 116 12 v ps.length cs ∧
      Src Tryz.prog 12 108 (.slice (some ⟨Wa.heap.size, 0, none⟩) 1 1) 1 (As.rcells p vb) (Wa.alloc (.cells (As.rcells p vb).toArray 116)) ∧
      ∀ v' w', w'.ownsRow B 116 12 v' (ps.length + 1) (cs ++ As.rcells p vb) → (Wa.alloc (.cells (As.rcells p vb).toArray 116)).grownBy w' v.ownBlock → F8.Where v v' (Wa.alloc (.cells (As.rcells p vb).toArray 116)).heap.size →
        (∃ A' c', v' = .slice A' (ps.length + 1) c') ∧ Hid (As.Out B w' v' (ps ++ [p])) := by
  obtain ⟨A, c, ev⟩ := h.form
  obtain ⟨cs, h1, h2⟩ := h
  have hal : Below Wa.heap.size Wa (Wa.alloc (.cells (As.rcells p vb).toArray 116)) := (Below.refl _ _).alloc (Nat.le_refl _) _
  have hal2 : Below W.heap.size W (Wa.alloc (.cells (As.rcells p vb).toArray 116)) := hb.trans (hal.mono hb.size)
  have hvo : vb.oneCell' = true := by obtain ⟨A, c, e⟩ := hvb.1.form; subst e; rfl
  have hclr : As.Clear (fun k => v.ownBlock = some k) vb := fun g off n c e hn hk => by
    rcases hfr g off n c e hn with h | h
    · have := own_lt' h1 hk; omega
    · exact h g off n c e hn hk
  refine ⟨A, c, cs, ev, own_kept h1 hal2, ?_, fun v' w' ho hg hv => ?_⟩
  · have hbk := Bk.fresh Wa 116 (As.rcells p vb).toArray
    have hn : Rd (Wa.alloc (.cells (As.rcells p vb).toArray 116)) 12 (.slice (some ⟨Wa.heap.size, 0, none⟩) 1 1) 1 (As.rcells p vb) := by
      refine ⟨rfl, some ⟨Wa.heap.size, 0, none⟩, 1, rfl, Nat.le_refl _, by unfold maxLen; omega, fun _ => ⟨_, 0, rfl, hbk.lt, fun j u hu => ?_⟩⟩
      rw [Nat.zero_add, hbk.cell j]
      simpa using hu
    exact Rd.src aqrt hn (As.rcells_one hvo)
  · have key : ∀ u b, As.RdB1 B (Wa.alloc (.cells (As.rcells p vb).toArray 116)) u b → As.Clear (fun k => v.ownBlock = some k) u → As.RdB1 B w' u b ∧ As.Clear (fun k => v'.ownBlock = some k) u := fun u b hu hc => by
      refine ⟨hu.clear_grown hc hg, fun g off n c e hn hk => ?_⟩
      rcases hv g hk with h | h
      · exact hc g off n c e hn h
      · have := hu.lt e hn; omega
    refine ⟨(Rd.of_own ho).form, Lib.hid ⟨cs ++ As.rcells p vb, by rw [List.length_append, List.length_cons, List.length_nil, Nat.zero_add]; exact ho, ?_⟩⟩
    have k1 := key vb p.bytes (hvb.kept hal) hclr
    have k2 : As.Qs (fun u b => As.RdB1 B w' u b ∧ As.Clear (fun k => v'.ownBlock = some k) u) ps cs := h2.map fun u b hu => key u b (hu.1.kept hal2) hu.2
    exact As.Qs.snoc (p := p) (vb := vb) k1 k2
theorem As.Rz.grown {w W W' : World} {g : Nat} {x : As.L} (h : As.Rz w g W x) (hb : Below w.heap.size W W') : As.Rz w g W' x := by
  obtain ⟨⟨vl, L, k, h1, h2, h3, h4, h5⟩⟩ := h.rk
  refine ⟨⟨⟨vl, L, k, h1.below hb h.lt, ?_, h3, h4, h5⟩⟩, ⟨hb.os.trans h.fr.os, hb.tape.trans h.fr.tape, hb.output.trans h.fr.output, Nat.le_trans h.fr.size hb.size, fun k hk hn => (hb.block k hk).trans (h.fr.block k hk hn)⟩, h.lt⟩
  exact Rd.below h2 hb (fun k off c e hn => Nat.lt_trans (h5 k off _ c e hn) h.lt)
/-- Bytes in a new block. -/
theorem As.RdB1.fresh (W : World) (b : List UInt8) (hb : b.length ≤ maxLen) (B : Nat) (hB : B ≤ W.heap.size) : As.RdB1 B (W.alloc (.cells (bv b).toArray 5)) (.slice (some ⟨W.heap.size, 0, none⟩) b.length b.length) b := by
  have hbk := Bk.fresh W 5 (bv b).toArray
  refine ⟨⟨by rw [bv_length, Nat.mul_one], some ⟨W.heap.size, 0, none⟩, b.length, rfl, Nat.le_refl _, hb, fun _ => ⟨_, 0, rfl, hbk.lt, fun j u hu => ?_⟩⟩, fun g off n c e hn => ?_⟩
  · rw [Nat.zero_add, hbk.cell j]; simpa using hu
  · injection e with e _ _
    injection e with e
    injection e with e _
    omega
/-- How much is left to do. -/
def As.rmeas (g : Nat) (f : Value) (wr : World) : Nat := (match f with | .bool true => 1 | _ => 0) + (match wr.cell? ⟨g, 0, none⟩, wr.cell? ⟨g, 1, none⟩ with | some (.slice _ n _), some (.int _ k) => n - k.toNat | _, _ => 0)
theorem As.rmeas_is {W : World} {g : Nat} {y : As.L} (h : As.Rk W g y) (b : Bool) : As.rmeas g (.bool b) W = (if b = true then 1 else 0) + y.l.length := by
  obtain ⟨vl, L, k, h1, h2, h3, h4, h5⟩ := h.obj
  obtain ⟨A, c, rfl⟩ := Rd.form h2
  unfold As.rmeas
  rw [h1.cell 0, h1.cell 1, h4]
  cases b <;> simp
/-- What the test of the loops reads. -/
structure As.RSee (W : World) (g : Nat) (A : Option Addr) (n c k : Nat) (y : As.L) : Prop where
  c0 : W.cell? ⟨g, 0, none⟩ = some (.slice A n c)
  c1 : W.cell? ⟨g, 1, none⟩ = some (.int .i64 (k : Int))
  c2 : W.cell? ⟨g, 2, none⟩ = some (.bool y.ok)
  f2 : W.frozen? ⟨g, 2, none⟩ = false
  le : k ≤ n
  len : y.l.length = n - k
theorem As.Rk.see {W : World} {g : Nat} {y : As.L} (h : As.Rk W g y) : ∃ A n c k, As.RSee W g A n c k y := by
  obtain ⟨vl, L, k, h1, h2, h3, h4, h5⟩ := h.obj
  obtain ⟨A, c, rfl⟩ := Rd.form h2
  exact ⟨A, L.length, c, k, h1.cell 0, h1.cell 1, h1.cell 2, h1.free 2, h3, by rw [h4, List.length_drop]⟩
end Go.Proofs.YtpcpaoeajcjoiaaGreatDoor
/- Layer 7: the document's bytes: word. -/
namespace Go.Proofs.YtpcpaoeajcjoiaaGreatDoor
open Go.RowKit Kit
set_option linter.unusedVariables false
set_option linter.unusedSimpArgs false

/-- A word of bytes, or none. -/
def As.RDPost (w : World) (g : Nat) (s : List UInt8) (r : Option As.L) (e : Ending) (w' : World) : Prop :=
  match r with
  | none => e = .returned (.tuple #[.slice none 0 0, .bool false]) ∧ w = w'
  | some y => ∃ v, e = .returned (.tuple #[v, .bool true]) ∧ As.RdQ w.heap.size w' v (As.join s y.p) ∧ As.RGo w g y w'
def As.pk (s : List UInt8) : Nat := if s = [] then 0 else 4
theorem As.rcells_word (b nm : List UInt8) (vb : Value) : As.rcells ⟨false, As.no, b, As.pk nm, nm, []⟩ vb = [.int .i64 0, .int .i64 0, .int .i64 0, .int .i64 0, .int .i64 0, .string ⟨#[]⟩, .string ⟨#[]⟩, .string ⟨#[]⟩, .string ⟨nm.toArray⟩, .string ⟨#[]⟩, vb, .bool false] := by
  by_cases hn : nm = []
  · simp [As.rcells, As.rgoal, As.rplace, As.pk, As.no, hn]
  · simp [As.rcells, As.rgoal, As.rplace, As.pk, As.no, hn]
/-- One piece of bytes alone. -/
theorem As.RDPost.raw {w W : World} {g N : Nat} {y : As.L} {s b : List UInt8} {vb : Value} (hz : As.Rz w g W y) (hvb : As.RdB1 w.heap.size W vb b) (hj : As.join s y.p = [As.raw b]) (hN : N = W.heap.size) :
    As.RDPost w g s (some y) (.returned (.tuple #[.slice (some ⟨N, 0, none⟩) 1 1, .bool true])) (W.alloc (.cells #[.int .i64 0, .int .i64 0, .int .i64 0, .int .i64 0, .int .i64 0, .string ⟨#[]⟩, .string ⟨#[]⟩, .string ⟨#[]⟩, .string ⟨#[]⟩, .string ⟨#[]⟩, vb, .bool false] 116)) := by
  subst hN
  have hal : Below W.heap.size W (W.alloc (.cells #[.int .i64 0, .int .i64 0, .int .i64 0, .int .i64 0, .int .i64 0, .string ⟨#[]⟩, .string ⟨#[]⟩, .string ⟨#[]⟩, .string ⟨#[]⟩, .string ⟨#[]⟩, vb, .bool false] 116)) := (Below.refl _ _).alloc (Nat.le_refl _) _
  refine ⟨_, rfl, ?_, (hz.kept hal).go⟩
  rw [hj]
  exact As.RdQ.made (ps := [As.raw b]) (cs := As.rcells (As.raw b) vb) hz.size ⟨vb, [], by simp, hvb, rfl⟩ (by simp)
theorem As.rfour_int (w : World) (n : Int) (hn : 0 ≤ n) (hn2 : n < 4294967296) : Calls Tryz.prog 94 #[.int .u32 n] w fun e w' => e = .returned (.slice (some ⟨w.heap.size, 0, none⟩) 4 4) ∧ w' = w.alloc (.cells (bv (As.four n.toNat)).toArray 5) := by
  have hc := rfour_any n.toNat w (by omega)
  rw [show ((n.toNat : Nat) : Int) = n by omega] at hc
  exact hc
set_option maxRecDepth 100000 in
set_option maxHeartbeats 8000000 in
theorem rdata_word {w : World} {g : Nat} {x : As.L} (h : As.Rk w g x) (hp : x.p = []) (hsh : As.Short x.l) (hl : x.l.length ≤ 10000000) (a : Nat) (ha : a < 4294967296) :
    Calls Tryz.prog 92 #[.string ⟨#[119, 111, 114, 100]⟩, .pointer (some ⟨g, 0, none⟩), .int .u32 (a : Int)] w (As.RDPost w g As.tWord (As.data As.tWord a x)) := by
  have HP := Lib.hid (show As.data As.tWord a x = some (As.loop As.word1 (x.l.length + 1) x) from by unfold As.data; rw [if_pos rfl])
  have HZ0 := Lib.hid (As.Rz.start h)
  have HS0 := Lib.hid hsh
  have HL := Lib.hid hl
  have HY0 := Lib.hid hp
  clear h hsh hl hp
  rw [HP.out]
  clear HP
  go_enter Tryz.func92, Tryz.ntmps92
  go_wp2_with fail
  go_loopw [8, 9] (fun out f wr => ∃ (b : Bool) (y : As.L), f = .bool b ∧ As.Rz w g wr y ∧ As.Out w.heap.size wr out y.p ∧ As.Short y.l ∧ y.p.length + y.l.length ≤ x.l.length + (if b = true then 0 else 1) ∧ As.Now As.word1 x b y) (fun _ f wr => As.rmeas g f wr)
  case atStart => exact ⟨true, x, rfl, HZ0.out, by rw [HY0.out]; exact As.Out.nil _ _, HS0.out, by rw [HY0.out]; simp, by unfold As.Now; rw [if_pos rfl]⟩
  case round =>
    obtain ⟨b, y, rfl, hz, hout, hsh, hlen, hnow⟩ := hrel
    have HZ := Lib.hid hz
    have HO := Lib.hid hout
    have HS := Lib.hid hsh
    have HN := Lib.hid hnow
    have HLN := Lib.hid (show y.p.length ≤ 10000001 ∧ (As.B1 b y → y.p.length + 1 + y.l.tail.length ≤ x.l.length + 1) from by
      have := HL.out
      refine ⟨by split at hlen <;> omega, fun hb => ?_⟩
      rw [List.length_tail]
      unfold As.B1 at hb
      rcases hb with hb | hb
      · subst hb; rw [if_pos rfl] at hlen; omega
      · have := List.length_pos_iff.2 hb; split at hlen <;> omega)
    obtain ⟨A0, n0, cc0, k0, hsee⟩ := hz.rk.see
    have c0 := hsee.c0
    have c1 := hsee.c1
    have HSE := Lib.hid hsee
    clear hz hout hsh hnow hlen hsee
    cases b
    · by_cases hy : y.l = []
      · have HY := Lib.hid (HN.out.done hy)
        have hge : ¬ (k0 : Int) < (n0 : Int) := by have := HSE.out.len; rw [hy] at this; simp at this; omega
        clear hy
        go_wp2_with fail
        go_quiet (fail)
        go_wp2_with fail
        obtain ⟨A9, c9, rfl⟩ := HO.out.form
        go_wp2_with fail
        go_ret2
        rw [← HY.out]
        refine ⟨_, rfl, ?_, (HZ.out.kept (isDrewN6 (Below.refl _ _) nq)).go⟩
        unfold As.join
        rw [if_neg (by decide)]
        exact (HO.out.kept (isDrewN6 (Below.refl _ _) nq)).rdq
      · have HB := Lib.hid (show As.B1 false y from .inr hy)
        have hlt : (k0 : Int) < (n0 : Int) := by have h1 := HSE.out.len; have h2 := List.length_pos_iff.2 hy; omega
        have HMS := Lib.hid (show y.l.tail.length < As.rmeas g (.bool false) wr from by rw [As.rmeas_is HZ.out.rk false, List.length_tail]; have := List.length_pos_iff.2 hy; simp; omega)
        clear hy
        go_wp2_with fail
        go_quiet (fail)
        go_wp2_with fail
        have HBQ := Lib.hid (isDrewN6 (Below.refl wr.heap.size wr) nq)
        obtain ⟨wq, hwq⟩ : ∃ wq, wr.drewN nq = wq := ⟨_, rfl⟩
        rw [hwq] at HBQ ⊢
        clear hwq
        have HZQ := Lib.hid (HZ.out.kept HBQ.out)
        have HOQ := Lib.hid (HO.out.kept HBQ.out)
        go_at_call 148
        refine (rrdgoal_any HZQ.out.rk HS.out).mono ?_
        rintro e w1 ⟨rfl, g1⟩
        have HZ1 := Lib.hid (HZQ.out.step g1)
        have HO1 := Lib.hid (HOQ.out.fr g1.2 (fun k e => e ▸ HZ.out.lt))
        have HS1 := Lib.hid HS.out.either
        have HE1 := Lib.hid (As.either_l y)
        have HE2 := Lib.hid (As.either_p y)
        have HW := Lib.hid (show As.word1 y = As.put ⟨false, As.no, As.four (As.bits (As.either y).1.1), As.pk (As.either y).1.2, (As.either y).1.2, []⟩ (As.either y).2 from rfl)
        clear g1
        generalize As.either y = E at *
        obtain ⟨⟨n, nm⟩, y1⟩ := E
        dsimp only at HZ1 HS1 HE1 HE2 HW ⊢
        have HBT := Lib.hid (show 0 ≤ n % 4294967296 ∧ n % 4294967296 < 4294967296 ∧ (n % 4294967296).toNat = As.bits n from ⟨by omega, by omega, rfl⟩)
        go_wp2_with fail
        go_at_call 94
        refine (As.rfour_int w1 _ HBT.out.1 HBT.out.2.1).mono ?_
        rintro e w2 ⟨rfl, hw2⟩
        have hvb : As.RdB1 w.heap.size w2 (.slice (some ⟨w1.heap.size, 0, none⟩) 4 4) (As.four (As.bits n)) := by rw [hw2, ← HBT.out.2.2]; exact As.RdB1.fresh w1 _ (by unfold maxLen; simp [As.four]) _ HZ1.out.size
        have hb2 : Below w1.heap.size w1 w2 := by rw [hw2]; exact (Below.refl _ _).alloc (Nat.le_refl _) _
        clear hw2
        obtain ⟨A, c, cs, rfl, ho1, hs1, hput⟩ := HO1.out.room ⟨false, As.no, As.four (As.bits n), As.pk nm, nm, []⟩ hb2 HZ1.out.size hvb (fun g off n c e hn => .inl (by injection e with e _ _; injection e with e; injection e with e _; omega))
        rw [As.rcells_word] at ho1 hs1 hput
        have HB2 := Lib.hid hb2
        have HO2 := Lib.hid ho1
        have HS2 := Lib.hid hs1
        have HPUT := Lib.hid hput
        have HL1 := Lib.hid (show (y.p.length + 1) * 152 ≤ 140737488355328 by have := HLN.out.1; omega)
        have HL2 := Lib.hid (show y.p.length + 1 ≤ maxLen by have := HLN.out.1; unfold maxLen; omega)
        clear ho1 hs1 hput hb2 hvb
        have HBS := Lib.hid (show w.heap.size ≤ w2.heap.size from Nat.le_trans HZ1.out.size HB2.out.size)
        go_wp2_with (at_builtin; refine wpList_appendRB rfl _ _ _ _ rfl aqrt (by decide) w.heap.size (.slice A y.p.length c) rfl y.p.length cs HO2.out _ rfl 1 [.int .i64 0, .int .i64 0, .int .i64 0, .int .i64 0, .int .i64 0, .string ⟨#[]⟩, .string ⟨#[]⟩, .string ⟨#[]⟩, .string ⟨nm.toArray⟩, .string ⟨#[]⟩, .slice (some ⟨w1.heap.size, 0, none⟩) 4 4, .bool false] HS2.out HL1.out HL2.out (by have := HBS.out; simp; omega) ?_; intro v3 w3 ho3 hb3 hg3 hv3; obtain ⟨⟨A3, c3, rfl⟩, HM⟩ := HPUT.out v3 w3 ho3 hg3 hv3; have HB3 := Lib.hid hb3; clear ho3 hb3 hg3 hv3)
        have HZ3 := Lib.hid (show As.Rz w g w3 (As.word1 y) from by
          have h2 := ((HZ1.out.kept HB2.out).kept ((Below.refl _ _).alloc (Nat.le_refl _) _)).grown HB3.out
          rw [HW.out]
          exact ⟨⟨h2.rk.obj⟩, h2.fr, h2.lt⟩)
        have HO3 := Lib.hid (show As.Out w.heap.size w3 (.slice A3 (y.p.length + 1) c3) (As.word1 y).p from by rw [HW.out]; show As.Out _ _ _ (y1.p ++ [_]); rw [HE2.out]; exact HM.out)
        have hl3 : (As.word1 y).l = y.l.tail := As.word1_l y
        have hp3 : (As.word1 y).p.length = y.p.length + 1 := by rw [HW.out, As.put_len, HE2.out]
        have HL3 := Lib.hid hl3
        have HP3 := Lib.hid hp3
        have HS3 := Lib.hid (show As.Short (As.word1 y).l from by rw [hl3, ← HE1.out]; exact HS1.out)
        have HNX := Lib.hid (HN.out.next As.word1_l HB.out)
        clear hl3 hp3
        go_roundw
        case rel => exact ⟨false, As.word1 y, rfl, HZ3.out, HO3.out, HS3.out, by rw [HP3.out, HL3.out, if_neg (by decide)]; exact HLN.out.2 HB.out, HNX.out⟩
        case measure => have e := As.rmeas_is HZ3.out.rk false; rw [HL3.out, if_neg (by decide), Nat.zero_add] at e; rw [e]; exact HMS.out
    · have HB := Lib.hid (show As.B1 true y from .inl rfl)
      have HMS := Lib.hid (show y.l.tail.length < As.rmeas g (.bool true) wr from by rw [As.rmeas_is HZ.out.rk true, List.length_tail]; simp; omega)
      clear c0 c1
      go_wp2_with fail
      go_quiet (fail)
      go_wp2_with fail
      have HBQ := Lib.hid (isDrewN6 (Below.refl wr.heap.size wr) nq)
      obtain ⟨wq, hwq⟩ : ∃ wq, wr.drewN nq = wq := ⟨_, rfl⟩
      rw [hwq] at HBQ ⊢
      clear hwq
      have HZQ := Lib.hid (HZ.out.kept HBQ.out)
      have HOQ := Lib.hid (HO.out.kept HBQ.out)
      go_at_call 148
      refine (rrdgoal_any HZQ.out.rk HS.out).mono ?_
      rintro e w1 ⟨rfl, g1⟩
      have HZ1 := Lib.hid (HZQ.out.step g1)
      have HO1 := Lib.hid (HOQ.out.fr g1.2 (fun k e => e ▸ HZ.out.lt))
      have HS1 := Lib.hid HS.out.either
      have HE1 := Lib.hid (As.either_l y)
      have HE2 := Lib.hid (As.either_p y)
      have HW := Lib.hid (show As.word1 y = As.put ⟨false, As.no, As.four (As.bits (As.either y).1.1), As.pk (As.either y).1.2, (As.either y).1.2, []⟩ (As.either y).2 from rfl)
      clear g1
      generalize As.either y = E at *
      obtain ⟨⟨n, nm⟩, y1⟩ := E
      dsimp only at HZ1 HS1 HE1 HE2 HW ⊢
      have HBT := Lib.hid (show 0 ≤ n % 4294967296 ∧ n % 4294967296 < 4294967296 ∧ (n % 4294967296).toNat = As.bits n from ⟨by omega, by omega, rfl⟩)
      go_wp2_with fail
      go_at_call 94
      refine (As.rfour_int w1 _ HBT.out.1 HBT.out.2.1).mono ?_
      rintro e w2 ⟨rfl, hw2⟩
      have hvb : As.RdB1 w.heap.size w2 (.slice (some ⟨w1.heap.size, 0, none⟩) 4 4) (As.four (As.bits n)) := by rw [hw2, ← HBT.out.2.2]; exact As.RdB1.fresh w1 _ (by unfold maxLen; simp [As.four]) _ HZ1.out.size
      have hb2 : Below w1.heap.size w1 w2 := by rw [hw2]; exact (Below.refl _ _).alloc (Nat.le_refl _) _
      clear hw2
      obtain ⟨A, c, cs, rfl, ho1, hs1, hput⟩ := HO1.out.room ⟨false, As.no, As.four (As.bits n), As.pk nm, nm, []⟩ hb2 HZ1.out.size hvb (fun g off n c e hn => .inl (by injection e with e _ _; injection e with e; injection e with e _; omega))
      rw [As.rcells_word] at ho1 hs1 hput
      have HB2 := Lib.hid hb2
      have HO2 := Lib.hid ho1
      have HS2 := Lib.hid hs1
      have HPUT := Lib.hid hput
      have HL1 := Lib.hid (show (y.p.length + 1) * 152 ≤ 140737488355328 by have := HLN.out.1; omega)
      have HL2 := Lib.hid (show y.p.length + 1 ≤ maxLen by have := HLN.out.1; unfold maxLen; omega)
      clear ho1 hs1 hput hb2 hvb
      have HBS := Lib.hid (show w.heap.size ≤ w2.heap.size from Nat.le_trans HZ1.out.size HB2.out.size)
      go_wp2_with (at_builtin; refine wpList_appendRB rfl _ _ _ _ rfl aqrt (by decide) w.heap.size (.slice A y.p.length c) rfl y.p.length cs HO2.out _ rfl 1 [.int .i64 0, .int .i64 0, .int .i64 0, .int .i64 0, .int .i64 0, .string ⟨#[]⟩, .string ⟨#[]⟩, .string ⟨#[]⟩, .string ⟨nm.toArray⟩, .string ⟨#[]⟩, .slice (some ⟨w1.heap.size, 0, none⟩) 4 4, .bool false] HS2.out HL1.out HL2.out (by have := HBS.out; simp; omega) ?_; intro v3 w3 ho3 hb3 hg3 hv3; obtain ⟨⟨A3, c3, rfl⟩, HM⟩ := HPUT.out v3 w3 ho3 hg3 hv3; have HB3 := Lib.hid hb3; clear ho3 hb3 hg3 hv3)
      have HZ3 := Lib.hid (show As.Rz w g w3 (As.word1 y) from by
        have h2 := ((HZ1.out.kept HB2.out).kept ((Below.refl _ _).alloc (Nat.le_refl _) _)).grown HB3.out
        rw [HW.out]
        exact ⟨⟨h2.rk.obj⟩, h2.fr, h2.lt⟩)
      have HO3 := Lib.hid (show As.Out w.heap.size w3 (.slice A3 (y.p.length + 1) c3) (As.word1 y).p from by rw [HW.out]; show As.Out _ _ _ (y1.p ++ [_]); rw [HE2.out]; exact HM.out)
      have hl3 : (As.word1 y).l = y.l.tail := As.word1_l y
      have hp3 : (As.word1 y).p.length = y.p.length + 1 := by rw [HW.out, As.put_len, HE2.out]
      have HL3 := Lib.hid hl3
      have HP3 := Lib.hid hp3
      have HS3 := Lib.hid (show As.Short (As.word1 y).l from by rw [hl3, ← HE1.out]; exact HS1.out)
      have HNX := Lib.hid (HN.out.next As.word1_l HB.out)
      clear hl3 hp3
      go_roundw
      case rel => exact ⟨false, As.word1 y, rfl, HZ3.out, HO3.out, HS3.out, by rw [HP3.out, HL3.out, if_neg (by decide)]; exact HLN.out.2 HB.out, HNX.out⟩
      case measure => have e := As.rmeas_is HZ3.out.rk false; rw [HL3.out, if_neg (by decide), Nat.zero_add] at e; rw [e]; exact HMS.out
end Go.Proofs.YtpcpaoeajcjoiaaGreatDoor
