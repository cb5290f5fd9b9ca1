/- Texts joined: AsPseudo. -/
import Derived.Test.YtfafdkbnmfpbmaaGreatDoorMAB
/- Layer 7: what stands for instructions. -/
namespace Go.Proofs.YtfafdkbnmfpbmaaGreatDoor
open Go.RowKit Kit
set_option linter.unusedVariables false
set_option linter.unusedSimpArgs false

/-- A line at work; only its own block has changed. -/
structure As.At (F : Nat → Prop) (w : World) (gx : Nat) (W : World) (x : As.L) : Prop where
  m : As.Mk F W gx x
  tb : As.Tb F W
  sh : As.Short x.l
  fr : Fr (fun k => k = gx) w W
theorem As.At.start {F : Nat → Prop} {w : World} {gx : Nat} {x : As.L} (h : As.Mk F w gx x) (hT : As.Tb F w) (hsh : As.Short x.l) : As.At F w gx w x := ⟨h, hT, hsh, Fr.refl _ _⟩
theorem As.At.go {F : Nat → Prop} {w W w' : World} {gx : Nat} {x y : As.L} (a : As.At F w gx W x) (g : As.Go F W gx y w') (hs : As.Short y.l) : As.At F w gx w' y := ⟨g.1, a.tb.go a.m.gx g.2, hs, a.fr.trans g.2 (fun _ e => .inl e)⟩
theorem As.At.to {F : Nat → Prop} {w W w' : World} {gx : Nat} {x y : As.L} (a : As.At F w gx W x) (t : As.To F W gx y w') : As.To F w gx y w' := t.after ⟨a.fr.mono (fun k e => e ▸ a.m.gx), fun k hk => .inl hk⟩
theorem As.num_range (x : As.L) : -2147483648 ≤ (As.num x).1 ∧ (As.num x).1 ≤ 4294967295 := by
  unfold As.num
  dsimp only
  unfold L6.number
  split
  · have := ((As.next x).1.getD 1 0).toNat_lt
    dsimp only
    omega
  · split
    · rename_i h
      simp only [Bool.and_eq_true, decide_eq_true_eq] at h
      exact h.2
    · decide
/-- A word that is one of these, or none. -/
def As.OptPost (F : Nat → Prop) (w : World) (gx : Nat) (r : Option As.L) (e : Ending) (w' : World) : Prop :=
  match r with
  | none => e = .returned (.bool false) ∧ w = w'
  | some y => e = .returned (.bool true) ∧ As.To F w gx y w'
theorem As.Ps.app {R : Value → List UInt8 → Prop} {qs : List As.P} {ds : List Value} (h1 : As.Ps R qs ds) : ∀ {ps : List As.P} {cs : List Value}, As.Ps R ps cs → As.Ps R (ps ++ qs) (cs ++ ds)
  | [], cs, e => by have e : cs = [] := e; subst e; exact h1
  | _ :: _, _, ⟨vb', r, e, g1, g2⟩ => by subst e; exact ⟨vb', _, by rw [List.append_assoc], g1, As.Ps.app h1 g2⟩
/-- More pieces. -/
theorem As.Mk.puts {F : Nat → Prop} {W : World} {gx : Nat} {x : As.L} (h : As.Mk F W gx x) (qs : List As.P) :
    ∃ vl vp cs, Bk W gx 271 #[vl, .bool x.ok, vp] ∧ W.ownsRow 0 203 10 vp x.p.length cs ∧
      ∀ Wa ds v' w1, Below W.heap.size W Wa → As.Ps (fun u b => As.Rb F Wa u b ∧ As.Hi gx u) qs ds → w1.ownsRow 0 203 10 v' (x.p.length + qs.length) (cs ++ ds) → Wa.grownBy w1 vp.ownBlock → (∀ k, v'.ownBlock = some k → vp.ownBlock = some k ∨ Wa.heap.size ≤ k) →
        w1.cell? ⟨gx, 2, none⟩ = some vp ∧ w1.frozen? ⟨gx, 2, none⟩ = false ∧ Hid (As.To F W gx ⟨x.l, x.ok, x.p ++ qs⟩ (w1.setCell ⟨gx, 2, none⟩ v')) := by
  obtain ⟨vl, vp, cs, h1, h2, h3, h4, h5⟩ := h.obj
  refine ⟨vl, vp, cs, h1, h3, fun Wa ds v' w1 hb hbb ho hg hv => ?_⟩
  have h1a := h1.kept hb
  have h3a := own_kept h3 hb
  have hgx1 : Bk w1 gx 271 _ := (hg.block gx h1a.lt (fun e => own_bk_ne h3a h1a (by decide) e.symm)).trans h1a
  have hs := But.setCell w1 gx 2 v'
  have f1 : Fr F W Wa := Fr.of_below hb
  have f2 : Fr F Wa w1 := Fr.of_grown hg h5
  have f3 : Fr F w1 (w1.setCell ⟨gx, 2, none⟩ v') := Fr.of_but hs h.gx
  have f23 : Fr F Wa (w1.setCell ⟨gx, 2, none⟩ v') := f2.trans f3 (fun k hk => .inl hk)
  have hG : ∀ g, g < Wa.heap.size → (F g ∨ v'.ownBlock = some g) → F g := fun g hl hg' => hg'.elim id (fun e => (hv g e).elim (h5 g) (fun e => absurd hl (by omega)))
  refine ⟨hgx1.cell 2, hgx1.free 2, Lib.hid ⟨fun k => F k ∨ v'.ownBlock = some k, ⟨⟨vl, v', cs ++ ds, hgx1.set 2 _, ?_, ?_, ?_, fun k hk => .inr hk⟩, .inl h.gx, fun k hk => ?_⟩, ?_, fun k hk => ?_⟩⟩
  · exact (h2.fr f1 (G := F) (fun _ _ h => h)).fr f23 hG
  · show World.ownsRow _ 0 _ 10 _ (x.p ++ qs).length _
    rw [List.length_append]
    exact own_but ho hgx1 (by decide) hs
  · exact As.Ps.app (hbb.map fun u l hu => ⟨hu.1.fr f23 hG, hu.2⟩) (h4.map fun u l hu => ⟨(hu.1.fr f1 (G := F) (fun _ _ h => h)).fr f23 hG, hu.2⟩)
  · have e : (w1.setCell ⟨gx, 2, none⟩ v').heap.size = w1.heap.size := by simp [World.setCell]
    rw [e]
    rcases hk with hk | hk
    · exact Nat.lt_of_lt_of_le (h.lt k hk) (Nat.le_trans hb.size hg.size)
    · exact own_lt' ho hk
  · exact f1.trans f23 (fun k hk => .inl hk)
  · rcases hk with hk | hk
    · exact .inl hk
    · rcases hv k hk with e | e
      · exact .inl (h5 k e)
      · exact .inr (Nat.le_trans hb.size e)
/-- What a drawn region with an append of two pieces meets. -/
theorem As.Mk.room2 {F : Nat → Prop} {W : World} {gx : Nat} {x : As.L} (h : As.Mk F W gx x) (p q : As.P) (hp : p.bytes = []) (hq : q.bytes = []) :
    ∃ A c cs, W.cell? ⟨gx, 2, none⟩ = some (.slice A x.p.length c) ∧ W.frozen? ⟨gx, 2, none⟩ = false ∧ (∀ W', Below W.heap.size W W' → W'.cell? ⟨gx, 2, none⟩ = some (.slice A x.p.length c)) ∧
      (W.alloc (.cells (As.cellsP p (.slice none 0 0) ++ As.cellsP q (.slice none 0 0)).toArray 203)).ownsRow 0 203 10 (.slice A x.p.length c) x.p.length cs ∧
      Src Tryz.prog 10 199 (.slice (some ⟨W.heap.size, 0, none⟩) 2 2) 2 (As.cellsP p (.slice none 0 0) ++ As.cellsP q (.slice none 0 0)) (W.alloc (.cells (As.cellsP p (.slice none 0 0) ++ As.cellsP q (.slice none 0 0)).toArray 203)) ∧
      ∀ v' w', w'.ownsRow 0 203 10 v' (x.p.length + 2) (cs ++ (As.cellsP p (.slice none 0 0) ++ As.cellsP q (.slice none 0 0))) → (W.alloc (.cells (As.cellsP p (.slice none 0 0) ++ As.cellsP q (.slice none 0 0)).toArray 203)).grownBy w' (Value.slice A x.p.length c).ownBlock → F8.Where (Value.slice A x.p.length c) v' (W.alloc (.cells (As.cellsP p (.slice none 0 0) ++ As.cellsP q (.slice none 0 0)).toArray 203)).heap.size →
        (∃ A' c', v' = .slice A' (x.p.length + 2) c') ∧ w'.cell? ⟨gx, 2, none⟩ = some (.slice A x.p.length c) ∧ w'.frozen? ⟨gx, 2, none⟩ = false ∧ Hid (As.To F W gx (As.put q (As.put p x)) (w'.setCell ⟨gx, 2, none⟩ v')) := by
  obtain ⟨vl, vp, cs, h1, h3, hput⟩ := h.puts [p, q]
  obtain ⟨A, c, rfl⟩ := (Rd.of_own h3).form
  have hal : Below W.heap.size W (W.alloc (.cells (As.cellsP p (.slice none 0 0) ++ As.cellsP q (.slice none 0 0)).toArray 203)) := (Below.refl _ _).alloc (Nat.le_refl _) _
  have h1s : ∀ u ∈ As.cellsP p (.slice none 0 0) ++ As.cellsP q (.slice none 0 0), u.oneCell' = true := by
    intro u hu
    rcases List.mem_append.1 hu with hu | hu
    · exact As.cells_one rfl u hu
    · exact As.cells_one rfl u hu
  refine ⟨A, c, cs, h1.cell 2, h1.free 2, fun W' hb' => (h1.kept hb').cell 2, own_kept h3 hal, ?_, fun v' w' ho hg hv => ?_⟩
  · have hn : Rd (W.alloc (.cells (As.cellsP p (.slice none 0 0) ++ As.cellsP q (.slice none 0 0)).toArray 203)) 10 (.slice (some ⟨W.heap.size, 0, none⟩) 2 2) 2 (As.cellsP p (.slice none 0 0) ++ As.cellsP q (.slice none 0 0)) := by
      have hbk := Bk.fresh W 203 (As.cellsP p (.slice none 0 0) ++ As.cellsP q (.slice none 0 0)).toArray
      refine ⟨rfl, some ⟨W.heap.size, 0, none⟩, 2, rfl, Nat.le_refl _, by unfold maxLen; omega, fun _ => ⟨_, 0, rfl, hbk.lt, fun j u hu => ?_⟩⟩
      rw [Nat.zero_add, hbk.cell j]
      simpa using hu
    exact Rd.src aprt hn h1s
  · have hps : As.Ps (fun u b => As.Rb F (W.alloc (.cells (As.cellsP p (.slice none 0 0) ++ As.cellsP q (.slice none 0 0)).toArray 203)) u b ∧ As.Hi gx u) [p, q] (As.cellsP p (.slice none 0 0) ++ As.cellsP q (.slice none 0 0)) :=
      ⟨.slice none 0 0, _, rfl, by rw [hp]; exact ⟨As.Rb.nil _ _, As.Hi.nil _⟩, .slice none 0 0, [], by simp, by rw [hq]; exact ⟨As.Rb.nil _ _, As.Hi.nil _⟩, rfl⟩
    obtain ⟨d1, d2, d3⟩ := hput _ _ v' w' hal hps ho hg hv
    refine ⟨(Rd.of_own ho).form, d1, d2, ?_⟩
    have e : As.put q (As.put p x) = ⟨x.l, x.ok, x.p ++ [p, q]⟩ := by simp [As.put]
    rw [e]
    exact d3
set_option maxRecDepth 100000 in
set_option maxHeartbeats 4000000 in
theorem apseudo_li {F : Nat → Prop} {w : World} {gx : Nat} {x : As.L} (h : As.Mk F w gx x) (hT : As.Tb F w) (hsh : As.Short x.l) (hl : x.p.length ≤ 800000000) :
    Calls Tryz.prog 165 #[.pointer (some ⟨gx, 0, none⟩), .string ⟨#[108, 105]⟩] w (As.OptPost F w gx (As.pseudo As.tLi x)) := by
  have HP := Lib.hid (show As.pseudo As.tLi x = some (As.number ((As.reg x).1 : Nat) (As.num (As.reg x).2).1 (As.num (As.reg x).2).2) from by unfold As.pseudo; rw [if_pos rfl])
  have HA0 := Lib.hid (As.At.start h hT hsh)
  have HL := Lib.hid hl
  have HR := Lib.hid (fun y => As.num_range y)
  clear h hT hsh hl
  rw [HP.out]
  clear HP
  go_enter Tryz.func165, Tryz.ntmps165
  go_wp2_with fail
  go_at_call 234
  refine (areg_any HA0.out.m HA0.out.tb HA0.out.sh).mono ?_
  rintro e w1 ⟨rfl, g1⟩
  have HA1 := Lib.hid (HA0.out.go g1 HA0.out.sh.reg)
  clear g1
  go_wp2_with fail
  go_at_call 235
  refine (anum_any HA1.out.m HA1.out.tb HA1.out.sh).mono ?_
  rintro e w2 ⟨rfl, g2⟩
  have HA2 := Lib.hid (HA1.out.go g2 HA1.out.sh.num)
  clear g2
  go_wp2_with fail
  go_at_call 238
  refine (anumber_any HA2.out.m _ _ (HR.out _).1 (HR.out _).2 (by simp only [As.reg_len, As.num_len, As.name_len]; have := HL.out; omega)).mono ?_
  rintro e wz ⟨rfl, hto⟩
  go_wp2_with fail
  go_ret
  exact ⟨rfl, HA2.out.to hto⟩
set_option maxRecDepth 100000 in
set_option maxHeartbeats 4000000 in
theorem apseudo_la {F : Nat → Prop} {w : World} {gx : Nat} {x : As.L} (h : As.Mk F w gx x) (hT : As.Tb F w) (hsh : As.Short x.l) (hl : x.p.length ≤ 800000000) :
    Calls Tryz.prog 165 #[.pointer (some ⟨gx, 0, none⟩), .string ⟨#[108, 97]⟩] w (As.OptPost F w gx (As.pseudo As.tLa x)) := by
  have HP := Lib.hid (show As.pseudo As.tLa x = some (As.put ⟨true, ⟨18, (As.reg x).1, (As.reg x).1, 0, 0⟩, [], 3, (As.name (As.reg x).2).1, []⟩ (As.put ⟨true, ⟨0, (As.reg x).1, 0, 0, 0⟩, [], 2, (As.name (As.reg x).2).1, []⟩ (As.name (As.reg x).2).2)) from by unfold As.pseudo; rw [if_neg (by decide), if_pos rfl])
  have HA0 := Lib.hid (As.At.start h hT hsh)
  have HL := Lib.hid hl
  have HR := Lib.hid (fun y => As.num_range y)
  clear h hT hsh hl
  rw [HP.out]
  clear HP
  go_enter Tryz.func165, Tryz.ntmps165
  go_wp2_with fail
  go_at_call 234
  refine (areg_any HA0.out.m HA0.out.tb HA0.out.sh).mono ?_
  rintro e w1 ⟨rfl, g1⟩
  have HA1 := Lib.hid (HA0.out.go g1 HA0.out.sh.reg)
  clear g1
  go_wp2_with fail
  go_at_call 239
  refine (aname_any HA1.out.m HA1.out.tb HA1.out.sh).mono ?_
  rintro e w2 ⟨rfl, g2⟩
  have HA2 := Lib.hid (HA1.out.go g2 HA1.out.sh.name)
  clear g2
  have HL2 : (As.name (As.reg x).2).2.p.length ≤ 800000000 := by simp only [As.reg_len, As.num_len, As.name_len]; exact HL.out
  generalize (As.name (As.reg x).2).2 = x2 at *
  generalize (As.name (As.reg x).2).1 = nm at *
  generalize (As.reg x).1 = d at *
  obtain ⟨A, c, cs, k0, f0, hkk, ho1, hs1, hput⟩ := HA2.out.m.room2 ⟨true, ⟨0, d, 0, 0, 0⟩, [], 2, nm, []⟩ ⟨true, ⟨18, d, d, 0, 0⟩, [], 3, nm, []⟩ rfl rfl
  simp only [As.cellsP, List.cons_append, List.nil_append] at ho1 hs1 hput
  have HO1 := Lib.hid ho1
  have HS1 := Lib.hid hs1
  have HPUT := Lib.hid hput
  have HLA := Lib.hid (show (x2.p.length + 2) * 112 ≤ 140737488355328 by omega)
  have HLB := Lib.hid (show x2.p.length + 2 ≤ maxLen by unfold maxLen; omega)
  have CELLS := 0
  clear CELLS ho1 hs1 hput HL2
  clear hkk
  go_wp2_with (at_builtin; refine wpList_appendRB rfl _ _ _ _ rfl aprt (by decide) 0 (.slice A x2.p.length c) rfl x2.p.length cs HO1.out _ rfl 2 [.bool true, .int .i64 0, .int .i64 (d : Int), .int .i64 0, .int .i64 0, .int .i64 0, .slice none 0 0, .int .i64 2, .string ⟨nm.toArray⟩, .string ⟨#[]⟩, .bool true, .int .i64 18, .int .i64 (d : Int), .int .i64 (d : Int), .int .i64 0, .int .i64 0, .slice none 0 0, .int .i64 3, .string ⟨nm.toArray⟩, .string ⟨#[]⟩] HS1.out HLA.out HLB.out (Nat.zero_le _) ?_; intro v3 w3 ho3 hb3 hg3 hv3; obtain ⟨⟨A3, c3, rfl⟩, k3, f3, HM⟩ := HPUT.out v3 w3 ho3 hg3 hv3)
  go_ret
  exact ⟨rfl, HA2.out.to HM.out⟩
set_option maxRecDepth 100000 in
set_option maxHeartbeats 4000000 in
theorem apseudo_mv {F : Nat → Prop} {w : World} {gx : Nat} {x : As.L} (h : As.Mk F w gx x) (hT : As.Tb F w) (hsh : As.Short x.l) (hl : x.p.length ≤ 800000000) :
    Calls Tryz.prog 165 #[.pointer (some ⟨gx, 0, none⟩), .string ⟨#[109, 118]⟩] w (As.OptPost F w gx (As.pseudo As.tMv x)) := by
  have HP := Lib.hid (show As.pseudo As.tMv x = some (As.code ⟨18, ((As.reg x).1 : Nat), ((As.reg (As.reg x).2).1 : Nat), 0, 0⟩ (As.reg (As.reg x).2).2) from by unfold As.pseudo; rw [if_neg (by decide), if_neg (by decide), if_pos rfl])
  have HA0 := Lib.hid (As.At.start h hT hsh)
  have HL := Lib.hid hl
  have HR := Lib.hid (fun y => As.num_range y)
  clear h hT hsh hl
  rw [HP.out]
  clear HP
  go_enter Tryz.func165, Tryz.ntmps165
  go_wp2_with fail
  go_at_call 234
  refine (areg_any HA0.out.m HA0.out.tb HA0.out.sh).mono ?_
  rintro e w1 ⟨rfl, g1⟩
  have HA1 := Lib.hid (HA0.out.go g1 HA0.out.sh.reg)
  clear g1
  go_wp2_with fail
  go_at_call 234
  refine (areg_any HA1.out.m HA1.out.tb HA1.out.sh).mono ?_
  rintro e w2 ⟨rfl, g2⟩
  have HA2 := Lib.hid (HA1.out.go g2 HA1.out.sh.reg)
  clear g2
  go_wp2_with fail
  go_at_call 237
  refine (acode_any HA2.out.m ⟨18, ((As.reg x).1 : Nat), ((As.reg (As.reg x).2).1 : Nat), 0, 0⟩ (by simp only [As.reg_len, As.num_len, As.name_len]; have := HL.out; omega)).mono ?_
  rintro e wz ⟨rfl, hto⟩
  go_wp2_with fail
  go_ret
  exact ⟨rfl, HA2.out.to hto⟩
set_option maxRecDepth 100000 in
set_option maxHeartbeats 4000000 in
theorem apseudo_nop {F : Nat → Prop} {w : World} {gx : Nat} {x : As.L} (h : As.Mk F w gx x) (hT : As.Tb F w) (hsh : As.Short x.l) (hl : x.p.length ≤ 800000000) :
    Calls Tryz.prog 165 #[.pointer (some ⟨gx, 0, none⟩), .string ⟨#[110, 111, 112]⟩] w (As.OptPost F w gx (As.pseudo As.tNop x)) := by
  have HP := Lib.hid (show As.pseudo As.tNop x = some (As.code ⟨18, 0, 0, 0, 0⟩ x) from by unfold As.pseudo; rw [if_neg (by decide), if_neg (by decide), if_neg (by decide), if_pos rfl])
  have HA0 := Lib.hid (As.At.start h hT hsh)
  have HL := Lib.hid hl
  have HR := Lib.hid (fun y => As.num_range y)
  clear h hT hsh hl
  rw [HP.out]
  clear HP
  go_enter Tryz.func165, Tryz.ntmps165
  go_wp2_with fail
  go_at_call 237
  refine (acode_any HA0.out.m ⟨18, 0, 0, 0, 0⟩ (by have := HL.out; omega)).mono ?_
  rintro e wz ⟨rfl, hto⟩
  go_wp2_with fail
  go_ret
  exact ⟨rfl, HA0.out.to hto⟩
set_option maxRecDepth 100000 in
set_option maxHeartbeats 4000000 in
theorem apseudo_ret {F : Nat → Prop} {w : World} {gx : Nat} {x : As.L} (h : As.Mk F w gx x) (hT : As.Tb F w) (hsh : As.Short x.l) (hl : x.p.length ≤ 800000000) :
    Calls Tryz.prog 165 #[.pointer (some ⟨gx, 0, none⟩), .string ⟨#[114, 101, 116]⟩] w (As.OptPost F w gx (As.pseudo As.tRet x)) := by
  have HP := Lib.hid (show As.pseudo As.tRet x = some (As.code ⟨3, 0, 1, 0, 0⟩ x) from by unfold As.pseudo; rw [if_neg (by decide), if_neg (by decide), if_neg (by decide), if_neg (by decide), if_pos rfl])
  have HA0 := Lib.hid (As.At.start h hT hsh)
  have HL := Lib.hid hl
  have HR := Lib.hid (fun y => As.num_range y)
  clear h hT hsh hl
  rw [HP.out]
  clear HP
  go_enter Tryz.func165, Tryz.ntmps165
  go_wp2_with fail
  go_at_call 237
  refine (acode_any HA0.out.m ⟨3, 0, 1, 0, 0⟩ (by have := HL.out; omega)).mono ?_
  rintro e wz ⟨rfl, hto⟩
  go_wp2_with fail
  go_ret
  exact ⟨rfl, HA0.out.to hto⟩
set_option maxRecDepth 100000 in
set_option maxHeartbeats 4000000 in
theorem apseudo_call {F : Nat → Prop} {w : World} {gx : Nat} {x : As.L} (h : As.Mk F w gx x) (hT : As.Tb F w) (hsh : As.Short x.l) (hl : x.p.length ≤ 800000000) :
    Calls Tryz.prog 165 #[.pointer (some ⟨gx, 0, none⟩), .string ⟨#[99, 97, 108, 108]⟩] w (As.OptPost F w gx (As.pseudo As.tCall x)) := by
  have HP := Lib.hid (show As.pseudo As.tCall x = some (As.to ⟨2, 1, 0, 0, 0⟩ x) from by unfold As.pseudo; rw [if_neg (by decide), if_neg (by decide), if_neg (by decide), if_neg (by decide), if_neg (by decide), if_pos rfl])
  have HA0 := Lib.hid (As.At.start h hT hsh)
  have HL := Lib.hid hl
  have HR := Lib.hid (fun y => As.num_range y)
  clear h hT hsh hl
  rw [HP.out]
  clear HP
  go_enter Tryz.func165, Tryz.ntmps165
  go_wp2_with fail
  go_at_call 236
  refine (ato_any HA0.out.m HA0.out.tb HA0.out.sh ⟨2, 1, 0, 0, 0⟩ (by have := HL.out; omega)).mono ?_
  rintro e wz ⟨rfl, hto⟩
  go_wp2_with fail
  go_ret
  exact ⟨rfl, HA0.out.to hto⟩
set_option maxRecDepth 100000 in
set_option maxHeartbeats 4000000 in
theorem apseudo_j {F : Nat → Prop} {w : World} {gx : Nat} {x : As.L} (h : As.Mk F w gx x) (hT : As.Tb F w) (hsh : As.Short x.l) (hl : x.p.length ≤ 800000000) :
    Calls Tryz.prog 165 #[.pointer (some ⟨gx, 0, none⟩), .string ⟨#[106]⟩] w (As.OptPost F w gx (As.pseudo As.tJ x)) := by
  have HP := Lib.hid (show As.pseudo As.tJ x = some (As.to ⟨2, 0, 0, 0, 0⟩ x) from by unfold As.pseudo; rw [if_neg (by decide), if_neg (by decide), if_neg (by decide), if_neg (by decide), if_neg (by decide), if_neg (by decide), if_pos rfl])
  have HA0 := Lib.hid (As.At.start h hT hsh)
  have HL := Lib.hid hl
  have HR := Lib.hid (fun y => As.num_range y)
  clear h hT hsh hl
  rw [HP.out]
  clear HP
  go_enter Tryz.func165, Tryz.ntmps165
  go_wp2_with fail
  go_at_call 236
  refine (ato_any HA0.out.m HA0.out.tb HA0.out.sh ⟨2, 0, 0, 0, 0⟩ (by have := HL.out; omega)).mono ?_
  rintro e wz ⟨rfl, hto⟩
  go_wp2_with fail
  go_ret
  exact ⟨rfl, HA0.out.to hto⟩
set_option maxRecDepth 100000 in
set_option maxHeartbeats 4000000 in
theorem apseudo_not {F : Nat → Prop} {w : World} {gx : Nat} {x : As.L} (h : As.Mk F w gx x) (hT : As.Tb F w) (hsh : As.Short x.l) (hl : x.p.length ≤ 800000000) :
    Calls Tryz.prog 165 #[.pointer (some ⟨gx, 0, none⟩), .string ⟨#[110, 111, 116]⟩] w (As.OptPost F w gx (As.pseudo As.tNot x)) := by
  have HP := Lib.hid (show As.pseudo As.tNot x = some (As.code ⟨21, ((As.reg x).1 : Nat), ((As.reg (As.reg x).2).1 : Nat), 0, -1⟩ (As.reg (As.reg x).2).2) from by unfold As.pseudo; rw [if_neg (by decide), if_neg (by decide), if_neg (by decide), if_neg (by decide), if_neg (by decide), if_neg (by decide), if_neg (by decide), if_pos rfl])
  have HA0 := Lib.hid (As.At.start h hT hsh)
  have HL := Lib.hid hl
  have HR := Lib.hid (fun y => As.num_range y)
  clear h hT hsh hl
  rw [HP.out]
  clear HP
  go_enter Tryz.func165, Tryz.ntmps165
  go_wp2_with fail
  go_at_call 234
  refine (areg_any HA0.out.m HA0.out.tb HA0.out.sh).mono ?_
  rintro e w1 ⟨rfl, g1⟩
  have HA1 := Lib.hid (HA0.out.go g1 HA0.out.sh.reg)
  clear g1
  go_wp2_with fail
  go_at_call 234
  refine (areg_any HA1.out.m HA1.out.tb HA1.out.sh).mono ?_
  rintro e w2 ⟨rfl, g2⟩
  have HA2 := Lib.hid (HA1.out.go g2 HA1.out.sh.reg)
  clear g2
  go_wp2_with fail
  go_at_call 237
  refine (acode_any HA2.out.m ⟨21, ((As.reg x).1 : Nat), ((As.reg (As.reg x).2).1 : Nat), 0, -1⟩ (by simp only [As.reg_len, As.num_len, As.name_len]; have := HL.out; omega)).mono ?_
  rintro e wz ⟨rfl, hto⟩
  go_wp2_with fail
  go_ret
  exact ⟨rfl, HA2.out.to hto⟩
set_option maxRecDepth 100000 in
set_option maxHeartbeats 4000000 in
theorem apseudo_neg {F : Nat → Prop} {w : World} {gx : Nat} {x : As.L} (h : As.Mk F w gx x) (hT : As.Tb F w) (hsh : As.Short x.l) (hl : x.p.length ≤ 800000000) :
    Calls Tryz.prog 165 #[.pointer (some ⟨gx, 0, none⟩), .string ⟨#[110, 101, 103]⟩] w (As.OptPost F w gx (As.pseudo As.tNeg x)) := by
  have HP := Lib.hid (show As.pseudo As.tNeg x = some (As.code ⟨28, ((As.reg x).1 : Nat), 0, ((As.reg (As.reg x).2).1 : Nat), 0⟩ (As.reg (As.reg x).2).2) from by unfold As.pseudo; rw [if_neg (by decide), if_neg (by decide), if_neg (by decide), if_neg (by decide), if_neg (by decide), if_neg (by decide), if_neg (by decide), if_neg (by decide), if_pos rfl])
  have HA0 := Lib.hid (As.At.start h hT hsh)
  have HL := Lib.hid hl
  have HR := Lib.hid (fun y => As.num_range y)
  clear h hT hsh hl
  rw [HP.out]
  clear HP
  go_enter Tryz.func165, Tryz.ntmps165
  go_wp2_with fail
  go_at_call 234
  refine (areg_any HA0.out.m HA0.out.tb HA0.out.sh).mono ?_
  rintro e w1 ⟨rfl, g1⟩
  have HA1 := Lib.hid (HA0.out.go g1 HA0.out.sh.reg)
  clear g1
  go_wp2_with fail
  go_at_call 234
  refine (areg_any HA1.out.m HA1.out.tb HA1.out.sh).mono ?_
  rintro e w2 ⟨rfl, g2⟩
  have HA2 := Lib.hid (HA1.out.go g2 HA1.out.sh.reg)
  clear g2
  go_wp2_with fail
  go_at_call 237
  refine (acode_any HA2.out.m ⟨28, ((As.reg x).1 : Nat), 0, ((As.reg (As.reg x).2).1 : Nat), 0⟩ (by simp only [As.reg_len, As.num_len, As.name_len]; have := HL.out; omega)).mono ?_
  rintro e wz ⟨rfl, hto⟩
  go_wp2_with fail
  go_ret
  exact ⟨rfl, HA2.out.to hto⟩
set_option maxRecDepth 100000 in
set_option maxHeartbeats 4000000 in
theorem apseudo_beqz {F : Nat → Prop} {w : World} {gx : Nat} {x : As.L} (h : As.Mk F w gx x) (hT : As.Tb F w) (hsh : As.Short x.l) (hl : x.p.length ≤ 800000000) :
    Calls Tryz.prog 165 #[.pointer (some ⟨gx, 0, none⟩), .string ⟨#[98, 101, 113, 122]⟩] w (As.OptPost F w gx (As.pseudo As.tBeqz x)) := by
  have HP := Lib.hid (show As.pseudo As.tBeqz x = some (As.to ⟨4, 0, ((As.reg x).1 : Nat), 0, 0⟩ (As.reg x).2) from by unfold As.pseudo; rw [if_neg (by decide), if_neg (by decide), if_neg (by decide), if_neg (by decide), if_neg (by decide), if_neg (by decide), if_neg (by decide), if_neg (by decide), if_neg (by decide), if_pos rfl])
  have HA0 := Lib.hid (As.At.start h hT hsh)
  have HL := Lib.hid hl
  have HR := Lib.hid (fun y => As.num_range y)
  clear h hT hsh hl
  rw [HP.out]
  clear HP
  go_enter Tryz.func165, Tryz.ntmps165
  go_wp2_with fail
  go_at_call 234
  refine (areg_any HA0.out.m HA0.out.tb HA0.out.sh).mono ?_
  rintro e w1 ⟨rfl, g1⟩
  have HA1 := Lib.hid (HA0.out.go g1 HA0.out.sh.reg)
  clear g1
  go_wp2_with fail
  go_at_call 236
  refine (ato_any HA1.out.m HA1.out.tb HA1.out.sh ⟨4, 0, ((As.reg x).1 : Nat), 0, 0⟩ (by simp only [As.reg_len, As.num_len, As.name_len]; have := HL.out; omega)).mono ?_
  rintro e wz ⟨rfl, hto⟩
  go_wp2_with fail
  go_ret
  exact ⟨rfl, HA1.out.to hto⟩
set_option maxRecDepth 100000 in
set_option maxHeartbeats 4000000 in
theorem apseudo_bnez {F : Nat → Prop} {w : World} {gx : Nat} {x : As.L} (h : As.Mk F w gx x) (hT : As.Tb F w) (hsh : As.Short x.l) (hl : x.p.length ≤ 800000000) :
    Calls Tryz.prog 165 #[.pointer (some ⟨gx, 0, none⟩), .string ⟨#[98, 110, 101, 122]⟩] w (As.OptPost F w gx (As.pseudo As.tBnez x)) := by
  have HP := Lib.hid (show As.pseudo As.tBnez x = some (As.to ⟨5, 0, ((As.reg x).1 : Nat), 0, 0⟩ (As.reg x).2) from by unfold As.pseudo; rw [if_neg (by decide), if_neg (by decide), if_neg (by decide), if_neg (by decide), if_neg (by decide), if_neg (by decide), if_neg (by decide), if_neg (by decide), if_neg (by decide), if_neg (by decide), if_pos rfl])
  have HA0 := Lib.hid (As.At.start h hT hsh)
  have HL := Lib.hid hl
  have HR := Lib.hid (fun y => As.num_range y)
  clear h hT hsh hl
  rw [HP.out]
  clear HP
  go_enter Tryz.func165, Tryz.ntmps165
  go_wp2_with fail
  go_at_call 234
  refine (areg_any HA0.out.m HA0.out.tb HA0.out.sh).mono ?_
  rintro e w1 ⟨rfl, g1⟩
  have HA1 := Lib.hid (HA0.out.go g1 HA0.out.sh.reg)
  clear g1
  go_wp2_with fail
  go_at_call 236
  refine (ato_any HA1.out.m HA1.out.tb HA1.out.sh ⟨5, 0, ((As.reg x).1 : Nat), 0, 0⟩ (by simp only [As.reg_len, As.num_len, As.name_len]; have := HL.out; omega)).mono ?_
  rintro e wz ⟨rfl, hto⟩
  go_wp2_with fail
  go_ret
  exact ⟨rfl, HA1.out.to hto⟩
set_option maxRecDepth 100000 in
set_option maxHeartbeats 4000000 in
theorem apseudo_none {F : Nat → Prop} {w : World} {gx : Nat} {x : As.L} (s : List UInt8) (hs : As.pseudo s x = none) :
    Calls Tryz.prog 165 #[.pointer (some ⟨gx, 0, none⟩), .string ⟨s.toArray⟩] w (As.OptPost F w gx none) := by
  have n0 : s ≠ As.tLi := fun e => by subst e; exact absurd hs (by unfold As.pseudo; rw [if_pos rfl]; exact Option.some_ne_none _)
  have n1 : s ≠ As.tLa := fun e => by subst e; exact absurd hs (by unfold As.pseudo; rw [if_neg (by decide), if_pos rfl]; exact Option.some_ne_none _)
  have n2 : s ≠ As.tMv := fun e => by subst e; exact absurd hs (by unfold As.pseudo; rw [if_neg (by decide), if_neg (by decide), if_pos rfl]; exact Option.some_ne_none _)
  have n3 : s ≠ As.tNop := fun e => by subst e; exact absurd hs (by unfold As.pseudo; rw [if_neg (by decide), if_neg (by decide), if_neg (by decide), if_pos rfl]; exact Option.some_ne_none _)
  have n4 : s ≠ As.tRet := fun e => by subst e; exact absurd hs (by unfold As.pseudo; rw [if_neg (by decide), if_neg (by decide), if_neg (by decide), if_neg (by decide), if_pos rfl]; exact Option.some_ne_none _)
  have n5 : s ≠ As.tCall := fun e => by subst e; exact absurd hs (by unfold As.pseudo; rw [if_neg (by decide), if_neg (by decide), if_neg (by decide), if_neg (by decide), if_neg (by decide), if_pos rfl]; exact Option.some_ne_none _)
  have n6 : s ≠ As.tJ := fun e => by subst e; exact absurd hs (by unfold As.pseudo; rw [if_neg (by decide), if_neg (by decide), if_neg (by decide), if_neg (by decide), if_neg (by decide), if_neg (by decide), if_pos rfl]; exact Option.some_ne_none _)
  have n7 : s ≠ As.tNot := fun e => by subst e; exact absurd hs (by unfold As.pseudo; rw [if_neg (by decide), if_neg (by decide), if_neg (by decide), if_neg (by decide), if_neg (by decide), if_neg (by decide), if_neg (by decide), if_pos rfl]; exact Option.some_ne_none _)
  have n8 : s ≠ As.tNeg := fun e => by subst e; exact absurd hs (by unfold As.pseudo; rw [if_neg (by decide), if_neg (by decide), if_neg (by decide), if_neg (by decide), if_neg (by decide), if_neg (by decide), if_neg (by decide), if_neg (by decide), if_pos rfl]; exact Option.some_ne_none _)
  have n9 : s ≠ As.tBeqz := fun e => by subst e; exact absurd hs (by unfold As.pseudo; rw [if_neg (by decide), if_neg (by decide), if_neg (by decide), if_neg (by decide), if_neg (by decide), if_neg (by decide), if_neg (by decide), if_neg (by decide), if_neg (by decide), if_pos rfl]; exact Option.some_ne_none _)
  have n10 : s ≠ As.tBnez := fun e => by subst e; exact absurd hs (by unfold As.pseudo; rw [if_neg (by decide), if_neg (by decide), if_neg (by decide), if_neg (by decide), if_neg (by decide), if_neg (by decide), if_neg (by decide), if_neg (by decide), if_neg (by decide), if_neg (by decide), if_pos rfl]; exact Option.some_ne_none _)
  have a0 : (s == [108, 105]) = false := (show (s == As.tLi) = false from by simpa using n0)
  have b0 : (!s == [108, 105]) = true := (show (!s == As.tLi) = true from by simpa using n0)
  have a1 : (s == [108, 97]) = false := (show (s == As.tLa) = false from by simpa using n1)
  have b1 : (!s == [108, 97]) = true := (show (!s == As.tLa) = true from by simpa using n1)
  have a2 : (s == [109, 118]) = false := (show (s == As.tMv) = false from by simpa using n2)
  have b2 : (!s == [109, 118]) = true := (show (!s == As.tMv) = true from by simpa using n2)
  have a3 : (s == [110, 111, 112]) = false := (show (s == As.tNop) = false from by simpa using n3)
  have b3 : (!s == [110, 111, 112]) = true := (show (!s == As.tNop) = true from by simpa using n3)
  have a4 : (s == [114, 101, 116]) = false := (show (s == As.tRet) = false from by simpa using n4)
  have b4 : (!s == [114, 101, 116]) = true := (show (!s == As.tRet) = true from by simpa using n4)
  have a5 : (s == [99, 97, 108, 108]) = false := (show (s == As.tCall) = false from by simpa using n5)
  have b5 : (!s == [99, 97, 108, 108]) = true := (show (!s == As.tCall) = true from by simpa using n5)
  have a6 : (s == [106]) = false := (show (s == As.tJ) = false from by simpa using n6)
  have b6 : (!s == [106]) = true := (show (!s == As.tJ) = true from by simpa using n6)
  have a7 : (s == [110, 111, 116]) = false := (show (s == As.tNot) = false from by simpa using n7)
  have b7 : (!s == [110, 111, 116]) = true := (show (!s == As.tNot) = true from by simpa using n7)
  have a8 : (s == [110, 101, 103]) = false := (show (s == As.tNeg) = false from by simpa using n8)
  have b8 : (!s == [110, 101, 103]) = true := (show (!s == As.tNeg) = true from by simpa using n8)
  have a9 : (s == [98, 101, 113, 122]) = false := (show (s == As.tBeqz) = false from by simpa using n9)
  have b9 : (!s == [98, 101, 113, 122]) = true := (show (!s == As.tBeqz) = true from by simpa using n9)
  have a10 : (s == [98, 110, 101, 122]) = false := (show (s == As.tBnez) = false from by simpa using n10)
  have b10 : (!s == [98, 110, 101, 122]) = true := (show (!s == As.tBnez) = true from by simpa using n10)
  clear hs n0 n1 n2 n3 n4 n5 n6 n7 n8 n9 n10
  go_enter Tryz.func165, Tryz.ntmps165
  go_wp2_with fail
  go_ret
  exact ⟨rfl, rfl⟩
theorem apseudo_any {F : Nat → Prop} {w : World} {gx : Nat} {x : As.L} (h : As.Mk F w gx x) (hT : As.Tb F w) (hsh : As.Short x.l) (hl : x.p.length ≤ 800000000) (s : List UInt8) :
    Calls Tryz.prog 165 #[.pointer (some ⟨gx, 0, none⟩), .string ⟨s.toArray⟩] w (As.OptPost F w gx (As.pseudo s x)) := by
  by_cases n0 : s = As.tLi
  · subst n0; exact apseudo_li h hT hsh hl
  by_cases n1 : s = As.tLa
  · subst n1; exact apseudo_la h hT hsh hl
  by_cases n2 : s = As.tMv
  · subst n2; exact apseudo_mv h hT hsh hl
  by_cases n3 : s = As.tNop
  · subst n3; exact apseudo_nop h hT hsh hl
  by_cases n4 : s = As.tRet
  · subst n4; exact apseudo_ret h hT hsh hl
  by_cases n5 : s = As.tCall
  · subst n5; exact apseudo_call h hT hsh hl
  by_cases n6 : s = As.tJ
  · subst n6; exact apseudo_j h hT hsh hl
  by_cases n7 : s = As.tNot
  · subst n7; exact apseudo_not h hT hsh hl
  by_cases n8 : s = As.tNeg
  · subst n8; exact apseudo_neg h hT hsh hl
  by_cases n9 : s = As.tBeqz
  · subst n9; exact apseudo_beqz h hT hsh hl
  by_cases n10 : s = As.tBnez
  · subst n10; exact apseudo_bnez h hT hsh hl
  have e : As.pseudo s x = none := by unfold As.pseudo; rw [if_neg n0, if_neg n1, if_neg n2, if_neg n3, if_neg n4, if_neg n5, if_neg n6, if_neg n7, if_neg n8, if_neg n9, if_neg n10]
  rw [e]
  exact apseudo_none s e
end Go.Proofs.YtfafdkbnmfpbmaaGreatDoor
