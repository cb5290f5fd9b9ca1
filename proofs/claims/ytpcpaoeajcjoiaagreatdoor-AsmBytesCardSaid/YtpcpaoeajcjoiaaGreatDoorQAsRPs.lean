/- Texts joined, what is not reached left out. -/
import Derived.Test.YtpcpaoeajcjoiaaGreatDoorMS
import Derived.Deep.RegionHeld3
/- Layer 7: the document's words that stand for instructions. -/
namespace Go.Proofs.YtpcpaoeajcjoiaaGreatDoor
open Go.RowKit Kit
set_option linter.unusedVariables false
set_option linter.unusedSimpArgs false

theorem As.rcells_goal (i : Is.Inst) (s : List UInt8) : As.rcells ⟨true, i, [], As.gk s, s, []⟩ (.slice none 0 0) = [.int .i64 i.op, .int .i64 i.rd, .int .i64 i.rs1, .int .i64 i.rs2, .int .i64 i.imm, .string ⟨s.toArray⟩, .string ⟨#[]⟩, .string ⟨#[]⟩, .string ⟨#[]⟩, .string ⟨#[]⟩, .slice none 0 0, .bool true] := by
  by_cases hn : s = []
  · simp [As.rcells, As.rgoal, As.rplace, As.gk, hn]
  · simp [As.rcells, As.rgoal, As.rplace, As.gk, hn]
theorem As.RPPost.goal {w W W' : World} {g N : Nat} {y : As.L} {i : Is.Inst} {s : List UInt8} (hz : As.Rz w g W y) (hb : Below W.heap.size W W') (hB : w.heap.size ≤ W'.heap.size) (hy : y.p = []) (hN : N = W'.heap.size) :
    As.RPPost w g (some (As.put ⟨true, i, [], As.gk s, s, []⟩ y)) (.returned (.tuple #[.slice (some ⟨N, 0, none⟩) 1 1, .bool true])) (W'.alloc (.cells #[.int .i64 i.op, .int .i64 i.rd, .int .i64 i.rs1, .int .i64 i.rs2, .int .i64 i.imm, .string ⟨s.toArray⟩, .string ⟨#[]⟩, .string ⟨#[]⟩, .string ⟨#[]⟩, .string ⟨#[]⟩, .slice none 0 0, .bool true] 116)) := by
  have := As.RPPost.one (p := ⟨true, i, [], As.gk s, s, []⟩) hz hb hB hy rfl
  rw [As.rcells_goal] at this
  rw [hN]
  exact this
set_option maxRecDepth 100000 in
set_option maxHeartbeats 8000000 in
theorem rpseudo_li {w : World} {g : Nat} {x : As.L} (h : As.Rk w g x) (hp : x.p = []) (hsh : As.Short x.l) :
    Calls Tryz.prog 91 #[.string ⟨#[108, 105]⟩, .pointer (some ⟨g, 0, none⟩)] w (As.RPPost w g (As.pseudo As.tLi x)) := by
  have HP := Lib.hid (show As.pseudo As.tLi x = some (As.number ((As.reg x).1 : Nat) (As.num (As.reg x).2).1 (As.num (As.reg x).2).2) from by unfold As.pseudo; rw [if_pos rfl])
  have HA0 := Lib.hid (As.Rz.start h)
  have HSH0 := Lib.hid hsh
  have HY := Lib.hid hp
  have C_lui := Lib.hid (fun W => rop_any ⟨#[108, 117, 105]⟩ W (by decide))
  rw [show Is.found ⟨#[108, 117, 105]⟩ = 0 from by decide] at C_lui
  have C_addi := Lib.hid (fun W => rop_any ⟨#[97, 100, 100, 105]⟩ W (by decide))
  rw [show Is.found ⟨#[97, 100, 100, 105]⟩ = 18 from by decide] at C_addi
  have CW := Lib.hid (fun op rd rs1 rs2 imm W => rwhole_any op rd rs1 rs2 imm W)
  clear h hsh hp
  rw [HP.out]
  clear HP
  have HR := Lib.hid (As.num_rng (As.reg x).2)
  have CH := Lib.hid (fun W => rhalves_any (As.num (As.reg x).2).1 W (by have := HR.out.1; omega) (by have := HR.out.2; omega))
  go_enter Tryz.func91, Tryz.ntmps91
  go_wp2_with fail
  go_at_call 146
  refine (rrdreg_any HA0.out.rk).mono ?_
  rintro e w1 ⟨rfl, g1⟩
  have HA1 := Lib.hid (HA0.out.step g1)
  have HSH1 := Lib.hid (HSH0.out.reg)
  clear g1
  go_wp2_with fail
  go_at_call 147
  refine (rrdnum_any HA1.out.rk HSH1.out).mono ?_
  rintro e w2 ⟨rfl, g2⟩
  have HA2 := Lib.hid (HA1.out.step g2)
  have HSH2 := Lib.hid (HSH1.out.num)
  clear g2
  generalize (As.num (As.reg x).2).1 = n at *
  generalize (As.reg x).1 = d at *
  by_cases hb : -2048 ≤ n
  · by_cases hc : n ≤ 2047
    · have HN := Lib.hid (show As.number (d : Int) n (As.num (As.reg x).2).2 = As.code ⟨18, (d : Int), 0, 0, n⟩ (As.num (As.reg x).2).2 from by unfold As.number; rw [if_pos ⟨hb, by omega⟩])
      go_wp2_with fail
      go_at_call 150
      refine (C_addi.out _).mono ?_
      rintro e u1 ⟨rfl, hu1⟩
      go_wp2_with fail
      go_at_call 149
      refine (CW.out _ _ _ _ _ _).mono ?_
      rintro e u2 ⟨rfl, hu2⟩
      go_wp2_with fail
      go_ret2
      rw [HN.out]
      exact As.RPPost.one (p := ⟨true, ⟨18, (d : Int), 0, 0, n⟩, [], 0, [], []⟩) HA2.out (hu1.trans (hu2.mono hu1.size)) (Nat.le_trans HA2.out.size (Nat.le_trans hu1.size hu2.size)) (by simp only [As.reg_p, As.num_p, As.name_p, As.either_p]; exact HY.out) rfl
    · have HN := Lib.hid (show As.number (d : Int) n (As.num (As.reg x).2).2 = As.code ⟨18, (d : Int), (d : Int), 0, As.lo n⟩ (As.code ⟨0, (d : Int), 0, 0, As.hi n⟩ (As.num (As.reg x).2).2) from by unfold As.number; rw [if_neg (fun e => hc (by omega))])
      go_wp2_with fail
      go_at_call 95
      refine (CH.out _).mono ?_
      rintro e w' ⟨rfl, rfl⟩
      go_wp2_with fail
      go_at_call 150
      refine (C_lui.out _).mono ?_
      rintro e u1 ⟨rfl, hu1⟩
      go_wp2_with fail
      go_at_call 149
      refine (CW.out _ _ _ _ _ _).mono ?_
      rintro e u2 ⟨rfl, hu2⟩
      go_wp2_with fail
      go_at_call 150
      refine (C_addi.out _).mono ?_
      rintro e u3 ⟨rfl, hu3⟩
      go_wp2_with fail
      go_at_call 149
      refine (CW.out _ _ _ _ _ _).mono ?_
      rintro e u4 ⟨rfl, hu4⟩
      go_wp2_with fail
      go_ret2
      rw [HN.out]
      exact As.RPPost.two (p := ⟨true, ⟨0, (d : Int), 0, 0, As.hi n⟩, [], 0, [], []⟩) (q := ⟨true, ⟨18, (d : Int), (d : Int), 0, As.lo n⟩, [], 0, [], []⟩) HA2.out (hu1.trans ((hu2.trans ((hu3.trans (hu4.mono hu3.size)).mono hu2.size)).mono hu1.size)) (Nat.le_trans HA2.out.size (Nat.le_trans hu1.size (Nat.le_trans hu2.size (Nat.le_trans hu3.size hu4.size)))) (by simp only [As.reg_p, As.num_p, As.name_p, As.either_p]; exact HY.out) rfl rfl
  · have HN := Lib.hid (show As.number (d : Int) n (As.num (As.reg x).2).2 = As.code ⟨18, (d : Int), (d : Int), 0, As.lo n⟩ (As.code ⟨0, (d : Int), 0, 0, As.hi n⟩ (As.num (As.reg x).2).2) from by unfold As.number; rw [if_neg (fun e => hb e.1)])
    go_wp2_with fail
    go_at_call 95
    refine (CH.out _).mono ?_
    rintro e w' ⟨rfl, rfl⟩
    go_wp2_with fail
    go_at_call 150
    refine (C_lui.out _).mono ?_
    rintro e u1 ⟨rfl, hu1⟩
    go_wp2_with fail
    go_at_call 149
    refine (CW.out _ _ _ _ _ _).mono ?_
    rintro e u2 ⟨rfl, hu2⟩
    go_wp2_with fail
    go_at_call 150
    refine (C_addi.out _).mono ?_
    rintro e u3 ⟨rfl, hu3⟩
    go_wp2_with fail
    go_at_call 149
    refine (CW.out _ _ _ _ _ _).mono ?_
    rintro e u4 ⟨rfl, hu4⟩
    go_wp2_with fail
    go_ret2
    rw [HN.out]
    exact As.RPPost.two (p := ⟨true, ⟨0, (d : Int), 0, 0, As.hi n⟩, [], 0, [], []⟩) (q := ⟨true, ⟨18, (d : Int), (d : Int), 0, As.lo n⟩, [], 0, [], []⟩) HA2.out (hu1.trans ((hu2.trans ((hu3.trans (hu4.mono hu3.size)).mono hu2.size)).mono hu1.size)) (Nat.le_trans HA2.out.size (Nat.le_trans hu1.size (Nat.le_trans hu2.size (Nat.le_trans hu3.size hu4.size)))) (by simp only [As.reg_p, As.num_p, As.name_p, As.either_p]; exact HY.out) rfl rfl
set_option maxRecDepth 100000 in
set_option maxHeartbeats 8000000 in
theorem rpseudo_la {w : World} {g : Nat} {x : As.L} (h : As.Rk w g x) (hp : x.p = []) (hsh : As.Short x.l) :
    Calls Tryz.prog 91 #[.string ⟨#[108, 97]⟩, .pointer (some ⟨g, 0, none⟩)] w (As.RPPost w g (As.pseudo As.tLa x)) := by
  have HP := Lib.hid (show As.pseudo As.tLa x = some (As.put ⟨true, ⟨18, ((As.reg x).1 : Nat), ((As.reg x).1 : Nat), 0, 0⟩, [], 3, (As.name (As.reg x).2).1, []⟩ (As.put ⟨true, ⟨0, ((As.reg x).1 : Nat), 0, 0, 0⟩, [], 2, (As.name (As.reg x).2).1, []⟩ (As.name (As.reg x).2).2)) from by unfold As.pseudo; rw [if_neg (by decide), if_pos rfl])
  have HA0 := Lib.hid (As.Rz.start h)
  have HSH0 := Lib.hid hsh
  have HY := Lib.hid hp
  have C_lui := Lib.hid (fun W => rop_any ⟨#[108, 117, 105]⟩ W (by decide))
  rw [show Is.found ⟨#[108, 117, 105]⟩ = 0 from by decide] at C_lui
  have C_addi := Lib.hid (fun W => rop_any ⟨#[97, 100, 100, 105]⟩ W (by decide))
  rw [show Is.found ⟨#[97, 100, 100, 105]⟩ = 18 from by decide] at C_addi
  have CW := Lib.hid (fun op rd rs1 rs2 imm W => rwhole_any op rd rs1 rs2 imm W)
  clear h hsh hp
  rw [HP.out]
  clear HP
  go_enter Tryz.func91, Tryz.ntmps91
  go_wp2_with fail
  go_at_call 146
  refine (rrdreg_any HA0.out.rk).mono ?_
  rintro e w1 ⟨rfl, g1⟩
  have HA1 := Lib.hid (HA0.out.step g1)
  have HSH1 := Lib.hid (HSH0.out.reg)
  clear g1
  go_wp2_with fail
  go_at_call 151
  refine (rrdname_any HA1.out.rk HSH1.out).mono ?_
  rintro e w2 ⟨rfl, g2⟩
  have HA2 := Lib.hid (HA1.out.step g2)
  have HSH2 := Lib.hid (HSH1.out.name)
  clear g2
  go_wp2_with fail
  go_at_call 150
  refine (C_lui.out _).mono ?_
  rintro e u1 ⟨rfl, hu1⟩
  go_wp2_with fail
  go_at_call 150
  refine (C_addi.out _).mono ?_
  rintro e u2 ⟨rfl, hu2⟩
  go_wp2_with fail
  go_ret2
  exact As.RPPost.two (p := ⟨true, ⟨0, ((As.reg x).1 : Nat), 0, 0, 0⟩, [], 2, (As.name (As.reg x).2).1, []⟩) (q := ⟨true, ⟨18, ((As.reg x).1 : Nat), ((As.reg x).1 : Nat), 0, 0⟩, [], 3, (As.name (As.reg x).2).1, []⟩) HA2.out (hu1.trans (hu2.mono hu1.size)) (Nat.le_trans HA2.out.size (Nat.le_trans hu1.size hu2.size)) (by simp only [As.reg_p, As.num_p, As.name_p, As.either_p]; exact HY.out) rfl rfl
set_option maxRecDepth 100000 in
set_option maxHeartbeats 8000000 in
theorem rpseudo_mv {w : World} {g : Nat} {x : As.L} (h : As.Rk w g x) (hp : x.p = []) (hsh : As.Short x.l) :
    Calls Tryz.prog 91 #[.string ⟨#[109, 118]⟩, .pointer (some ⟨g, 0, none⟩)] w (As.RPPost w g (As.pseudo As.tMv x)) := by
  have HP := Lib.hid (show As.pseudo As.tMv x = some (As.code ⟨18, ((As.reg x).1 : Nat), ((As.reg (As.reg x).2).1 : Nat), 0, 0⟩ (As.reg (As.reg x).2).2) from by unfold As.pseudo; rw [if_neg (by decide), if_neg (by decide), if_pos rfl])
  have HA0 := Lib.hid (As.Rz.start h)
  have HSH0 := Lib.hid hsh
  have HY := Lib.hid hp
  have C_addi := Lib.hid (fun W => rop_any ⟨#[97, 100, 100, 105]⟩ W (by decide))
  rw [show Is.found ⟨#[97, 100, 100, 105]⟩ = 18 from by decide] at C_addi
  have CW := Lib.hid (fun op rd rs1 rs2 imm W => rwhole_any op rd rs1 rs2 imm W)
  clear h hsh hp
  rw [HP.out]
  clear HP
  go_enter Tryz.func91, Tryz.ntmps91
  go_wp2_with fail
  go_at_call 146
  refine (rrdreg_any HA0.out.rk).mono ?_
  rintro e w1 ⟨rfl, g1⟩
  have HA1 := Lib.hid (HA0.out.step g1)
  have HSH1 := Lib.hid (HSH0.out.reg)
  clear g1
  go_wp2_with fail
  go_at_call 150
  refine (C_addi.out _).mono ?_
  rintro e u1 ⟨rfl, hu1⟩
  have HB1 := Lib.hid (HA1.out.kept hu1)
  go_wp2_with fail
  go_at_call 146
  refine (rrdreg_any HB1.out.rk).mono ?_
  rintro e w2 ⟨rfl, g2⟩
  have HA2 := Lib.hid (HB1.out.step g2)
  go_wp2_with fail
  go_at_call 149
  refine (CW.out _ _ _ _ _ _).mono ?_
  rintro e u2 ⟨rfl, hu2⟩
  go_wp2_with fail
  go_ret2
  exact As.RPPost.one (p := ⟨true, ⟨18, ((As.reg x).1 : Nat), ((As.reg (As.reg x).2).1 : Nat), 0, 0⟩, [], 0, [], []⟩) HA2.out hu2 (Nat.le_trans HA2.out.size hu2.size) (by simp only [As.reg_p, As.num_p, As.name_p, As.either_p]; exact HY.out) rfl
set_option maxRecDepth 100000 in
set_option maxHeartbeats 8000000 in
theorem rpseudo_nop {w : World} {g : Nat} {x : As.L} (h : As.Rk w g x) (hp : x.p = []) (hsh : As.Short x.l) :
    Calls Tryz.prog 91 #[.string ⟨#[110, 111, 112]⟩, .pointer (some ⟨g, 0, none⟩)] w (As.RPPost w g (As.pseudo As.tNop x)) := by
  have HP := Lib.hid (show As.pseudo As.tNop x = some (As.code ⟨18, 0, 0, 0, 0⟩ x) from by unfold As.pseudo; rw [if_neg (by decide), if_neg (by decide), if_neg (by decide), if_pos rfl])
  have HA0 := Lib.hid (As.Rz.start h)
  have HSH0 := Lib.hid hsh
  have HY := Lib.hid hp
  have C_addi := Lib.hid (fun W => rop_any ⟨#[97, 100, 100, 105]⟩ W (by decide))
  rw [show Is.found ⟨#[97, 100, 100, 105]⟩ = 18 from by decide] at C_addi
  have CW := Lib.hid (fun op rd rs1 rs2 imm W => rwhole_any op rd rs1 rs2 imm W)
  clear h hsh hp
  rw [HP.out]
  clear HP
  go_enter Tryz.func91, Tryz.ntmps91
  go_wp2_with fail
  go_at_call 150
  refine (C_addi.out _).mono ?_
  rintro e u1 ⟨rfl, hu1⟩
  go_wp2_with fail
  go_at_call 149
  refine (CW.out _ _ _ _ _ _).mono ?_
  rintro e u2 ⟨rfl, hu2⟩
  go_wp2_with fail
  go_ret2
  exact As.RPPost.one (p := ⟨true, ⟨18, 0, 0, 0, 0⟩, [], 0, [], []⟩) HA0.out (hu1.trans (hu2.mono hu1.size)) (Nat.le_trans hu1.size hu2.size) HY.out rfl
set_option maxRecDepth 100000 in
set_option maxHeartbeats 8000000 in
theorem rpseudo_ret {w : World} {g : Nat} {x : As.L} (h : As.Rk w g x) (hp : x.p = []) (hsh : As.Short x.l) :
    Calls Tryz.prog 91 #[.string ⟨#[114, 101, 116]⟩, .pointer (some ⟨g, 0, none⟩)] w (As.RPPost w g (As.pseudo As.tRet x)) := by
  have HP := Lib.hid (show As.pseudo As.tRet x = some (As.code ⟨3, 0, 1, 0, 0⟩ x) from by unfold As.pseudo; rw [if_neg (by decide), if_neg (by decide), if_neg (by decide), if_neg (by decide), if_pos rfl])
  have HA0 := Lib.hid (As.Rz.start h)
  have HSH0 := Lib.hid hsh
  have HY := Lib.hid hp
  have C_jalr := Lib.hid (fun W => rop_any ⟨#[106, 97, 108, 114]⟩ W (by decide))
  rw [show Is.found ⟨#[106, 97, 108, 114]⟩ = 3 from by decide] at C_jalr
  have CW := Lib.hid (fun op rd rs1 rs2 imm W => rwhole_any op rd rs1 rs2 imm W)
  clear h hsh hp
  rw [HP.out]
  clear HP
  go_enter Tryz.func91, Tryz.ntmps91
  go_wp2_with fail
  go_at_call 150
  refine (C_jalr.out _).mono ?_
  rintro e u1 ⟨rfl, hu1⟩
  go_wp2_with fail
  go_at_call 149
  refine (CW.out _ _ _ _ _ _).mono ?_
  rintro e u2 ⟨rfl, hu2⟩
  go_wp2_with fail
  go_ret2
  exact As.RPPost.one (p := ⟨true, ⟨3, 0, 1, 0, 0⟩, [], 0, [], []⟩) HA0.out (hu1.trans (hu2.mono hu1.size)) (Nat.le_trans hu1.size hu2.size) HY.out rfl
set_option maxRecDepth 100000 in
set_option maxHeartbeats 8000000 in
theorem rpseudo_call {w : World} {g : Nat} {x : As.L} (h : As.Rk w g x) (hp : x.p = []) (hsh : As.Short x.l) :
    Calls Tryz.prog 91 #[.string ⟨#[99, 97, 108, 108]⟩, .pointer (some ⟨g, 0, none⟩)] w (As.RPPost w g (As.pseudo As.tCall x)) := by
  have HP := Lib.hid (show As.pseudo As.tCall x = some (As.to ⟨2, 1, 0, 0, 0⟩ x) from by unfold As.pseudo; rw [if_neg (by decide), if_neg (by decide), if_neg (by decide), if_neg (by decide), if_neg (by decide), if_pos rfl])
  have HA0 := Lib.hid (As.Rz.start h)
  have HSH0 := Lib.hid hsh
  have HY := Lib.hid hp
  have C_jal := Lib.hid (fun W => rop_any ⟨#[106, 97, 108]⟩ W (by decide))
  rw [show Is.found ⟨#[106, 97, 108]⟩ = 2 from by decide] at C_jal
  have CW := Lib.hid (fun op rd rs1 rs2 imm W => rwhole_any op rd rs1 rs2 imm W)
  clear h hsh hp
  rw [HP.out]
  clear HP
  go_enter Tryz.func91, Tryz.ntmps91
  go_wp2_with fail
  go_at_call 150
  refine (C_jal.out _).mono ?_
  rintro e u1 ⟨rfl, hu1⟩
  have HB1 := Lib.hid (HA0.out.kept hu1)
  have hbk := Bk.fresh u1 114 #[.int .i64 2, .int .i64 1, .int .i64 0, .int .i64 0, .int .i64 0]
  have hal : Below u1.heap.size u1 (u1.alloc (.cells #[.int .i64 2, .int .i64 1, .int .i64 0, .int .i64 0, .int .i64 0] 114)) := (Below.refl _ _).alloc (Nat.le_refl _) _
  have HBB := Lib.hid (HB1.out.kept hal)
  have HBK := Lib.hid hbk
  have HSZ := Lib.hid HB1.out.size
  clear hbk hal
  go_wp2_with fail
  go_at_call 148
  refine (rrdgoal_any HBB.out.rk HSH0.out).mono ?_
  rintro e w9 ⟨rfl, g9⟩
  have hk9 := g9.2.bk HBK.out (fun e => by have := HBB.out.lt; have := HSZ.out; omega)
  have HB9 := Lib.hid ((HBB.out.step g9).set u1.heap.size 4 (.int .i64 (As.either x).1.1) HSZ.out)
  have hk10 := hk9.set 4 (.int .i64 (As.either x).1.1)
  have c9 := hk9.cell 4
  have f9 := hk9.free 4
  have b0 := hk10.cell 0
  have b1 := hk10.cell 1
  have b2 := hk10.cell 2
  have b3 := hk10.cell 3
  have b4 := hk10.cell 4
  simp at b0 b1 b2 b3 b4
  simp only [List.getElem?_toArray, List.getElem?_cons_zero, List.getElem?_cons_succ] at c9
  clear hk9 hk10 g9
  go_wp2_with fail
  go_ret2
  exact As.RPPost.goal (i := ⟨2, 1, 0, 0, (As.either x).1.1⟩) (s := (As.either x).1.2) HB9.out (Below.refl _ _) HB9.out.size (by simp only [As.reg_p, As.num_p, As.name_p, As.either_p]; exact HY.out) (by simp [World.setCell])
set_option maxRecDepth 100000 in
set_option maxHeartbeats 8000000 in
theorem rpseudo_j {w : World} {g : Nat} {x : As.L} (h : As.Rk w g x) (hp : x.p = []) (hsh : As.Short x.l) :
    Calls Tryz.prog 91 #[.string ⟨#[106]⟩, .pointer (some ⟨g, 0, none⟩)] w (As.RPPost w g (As.pseudo As.tJ x)) := by
  have HP := Lib.hid (show As.pseudo As.tJ x = some (As.to ⟨2, 0, 0, 0, 0⟩ x) from by unfold As.pseudo; rw [if_neg (by decide), if_neg (by decide), if_neg (by decide), if_neg (by decide), if_neg (by decide), if_neg (by decide), if_pos rfl])
  have HA0 := Lib.hid (As.Rz.start h)
  have HSH0 := Lib.hid hsh
  have HY := Lib.hid hp
  have C_jal := Lib.hid (fun W => rop_any ⟨#[106, 97, 108]⟩ W (by decide))
  rw [show Is.found ⟨#[106, 97, 108]⟩ = 2 from by decide] at C_jal
  have CW := Lib.hid (fun op rd rs1 rs2 imm W => rwhole_any op rd rs1 rs2 imm W)
  clear h hsh hp
  rw [HP.out]
  clear HP
  go_enter Tryz.func91, Tryz.ntmps91
  go_wp2_with fail
  go_at_call 150
  refine (C_jal.out _).mono ?_
  rintro e u1 ⟨rfl, hu1⟩
  have HB1 := Lib.hid (HA0.out.kept hu1)
  have hbk := Bk.fresh u1 114 #[.int .i64 2, .int .i64 0, .int .i64 0, .int .i64 0, .int .i64 0]
  have hal : Below u1.heap.size u1 (u1.alloc (.cells #[.int .i64 2, .int .i64 0, .int .i64 0, .int .i64 0, .int .i64 0] 114)) := (Below.refl _ _).alloc (Nat.le_refl _) _
  have HBB := Lib.hid (HB1.out.kept hal)
  have HBK := Lib.hid hbk
  have HSZ := Lib.hid HB1.out.size
  clear hbk hal
  go_wp2_with fail
  go_at_call 148
  refine (rrdgoal_any HBB.out.rk HSH0.out).mono ?_
  rintro e w9 ⟨rfl, g9⟩
  have hk9 := g9.2.bk HBK.out (fun e => by have := HBB.out.lt; have := HSZ.out; omega)
  have HB9 := Lib.hid ((HBB.out.step g9).set u1.heap.size 4 (.int .i64 (As.either x).1.1) HSZ.out)
  have hk10 := hk9.set 4 (.int .i64 (As.either x).1.1)
  have c9 := hk9.cell 4
  have f9 := hk9.free 4
  have b0 := hk10.cell 0
  have b1 := hk10.cell 1
  have b2 := hk10.cell 2
  have b3 := hk10.cell 3
  have b4 := hk10.cell 4
  simp at b0 b1 b2 b3 b4
  simp only [List.getElem?_toArray, List.getElem?_cons_zero, List.getElem?_cons_succ] at c9
  clear hk9 hk10 g9
  go_wp2_with fail
  go_ret2
  exact As.RPPost.goal (i := ⟨2, 0, 0, 0, (As.either x).1.1⟩) (s := (As.either x).1.2) HB9.out (Below.refl _ _) HB9.out.size (by simp only [As.reg_p, As.num_p, As.name_p, As.either_p]; exact HY.out) (by simp [World.setCell])
set_option maxRecDepth 100000 in
set_option maxHeartbeats 8000000 in
theorem rpseudo_not {w : World} {g : Nat} {x : As.L} (h : As.Rk w g x) (hp : x.p = []) (hsh : As.Short x.l) :
    Calls Tryz.prog 91 #[.string ⟨#[110, 111, 116]⟩, .pointer (some ⟨g, 0, none⟩)] w (As.RPPost w g (As.pseudo As.tNot x)) := by
  have HP := Lib.hid (show As.pseudo As.tNot x = some (As.code ⟨21, ((As.reg x).1 : Nat), ((As.reg (As.reg x).2).1 : Nat), 0, -1⟩ (As.reg (As.reg x).2).2) from by unfold As.pseudo; rw [if_neg (by decide), if_neg (by decide), if_neg (by decide), if_neg (by decide), if_neg (by decide), if_neg (by decide), if_neg (by decide), if_pos rfl])
  have HA0 := Lib.hid (As.Rz.start h)
  have HSH0 := Lib.hid hsh
  have HY := Lib.hid hp
  have C_xori := Lib.hid (fun W => rop_any ⟨#[120, 111, 114, 105]⟩ W (by decide))
  rw [show Is.found ⟨#[120, 111, 114, 105]⟩ = 21 from by decide] at C_xori
  have CW := Lib.hid (fun op rd rs1 rs2 imm W => rwhole_any op rd rs1 rs2 imm W)
  clear h hsh hp
  rw [HP.out]
  clear HP
  go_enter Tryz.func91, Tryz.ntmps91
  go_wp2_with fail
  go_at_call 146
  refine (rrdreg_any HA0.out.rk).mono ?_
  rintro e w1 ⟨rfl, g1⟩
  have HA1 := Lib.hid (HA0.out.step g1)
  have HSH1 := Lib.hid (HSH0.out.reg)
  clear g1
  go_wp2_with fail
  go_at_call 150
  refine (C_xori.out _).mono ?_
  rintro e u1 ⟨rfl, hu1⟩
  have HB1 := Lib.hid (HA1.out.kept hu1)
  go_wp2_with fail
  go_at_call 146
  refine (rrdreg_any HB1.out.rk).mono ?_
  rintro e w2 ⟨rfl, g2⟩
  have HA2 := Lib.hid (HB1.out.step g2)
  go_wp2_with fail
  go_at_call 149
  refine (CW.out _ _ _ _ _ _).mono ?_
  rintro e u2 ⟨rfl, hu2⟩
  go_wp2_with fail
  go_ret2
  exact As.RPPost.one (p := ⟨true, ⟨21, ((As.reg x).1 : Nat), ((As.reg (As.reg x).2).1 : Nat), 0, -1⟩, [], 0, [], []⟩) HA2.out hu2 (Nat.le_trans HA2.out.size hu2.size) (by simp only [As.reg_p, As.num_p, As.name_p, As.either_p]; exact HY.out) rfl
set_option maxRecDepth 100000 in
set_option maxHeartbeats 8000000 in
theorem rpseudo_neg {w : World} {g : Nat} {x : As.L} (h : As.Rk w g x) (hp : x.p = []) (hsh : As.Short x.l) :
    Calls Tryz.prog 91 #[.string ⟨#[110, 101, 103]⟩, .pointer (some ⟨g, 0, none⟩)] w (As.RPPost w g (As.pseudo As.tNeg x)) := by
  have HP := Lib.hid (show As.pseudo As.tNeg x = some (As.code ⟨28, ((As.reg x).1 : Nat), 0, ((As.reg (As.reg x).2).1 : Nat), 0⟩ (As.reg (As.reg x).2).2) from by unfold As.pseudo; rw [if_neg (by decide), if_neg (by decide), if_neg (by decide), if_neg (by decide), if_neg (by decide), if_neg (by decide), if_neg (by decide), if_neg (by decide), if_pos rfl])
  have HA0 := Lib.hid (As.Rz.start h)
  have HSH0 := Lib.hid hsh
  have HY := Lib.hid hp
  have C_sub := Lib.hid (fun W => rop_any ⟨#[115, 117, 98]⟩ W (by decide))
  rw [show Is.found ⟨#[115, 117, 98]⟩ = 28 from by decide] at C_sub
  have CW := Lib.hid (fun op rd rs1 rs2 imm W => rwhole_any op rd rs1 rs2 imm W)
  clear h hsh hp
  rw [HP.out]
  clear HP
  go_enter Tryz.func91, Tryz.ntmps91
  go_wp2_with fail
  go_at_call 146
  refine (rrdreg_any HA0.out.rk).mono ?_
  rintro e w1 ⟨rfl, g1⟩
  have HA1 := Lib.hid (HA0.out.step g1)
  have HSH1 := Lib.hid (HSH0.out.reg)
  clear g1
  go_wp2_with fail
  go_at_call 150
  refine (C_sub.out _).mono ?_
  rintro e u1 ⟨rfl, hu1⟩
  have HB1 := Lib.hid (HA1.out.kept hu1)
  go_wp2_with fail
  go_at_call 146
  refine (rrdreg_any HB1.out.rk).mono ?_
  rintro e w2 ⟨rfl, g2⟩
  have HA2 := Lib.hid (HB1.out.step g2)
  go_wp2_with fail
  go_at_call 149
  refine (CW.out _ _ _ _ _ _).mono ?_
  rintro e u2 ⟨rfl, hu2⟩
  go_wp2_with fail
  go_ret2
  exact As.RPPost.one (p := ⟨true, ⟨28, ((As.reg x).1 : Nat), 0, ((As.reg (As.reg x).2).1 : Nat), 0⟩, [], 0, [], []⟩) HA2.out hu2 (Nat.le_trans HA2.out.size hu2.size) (by simp only [As.reg_p, As.num_p, As.name_p, As.either_p]; exact HY.out) rfl
set_option maxRecDepth 100000 in
set_option maxHeartbeats 8000000 in
theorem rpseudo_beqz {w : World} {g : Nat} {x : As.L} (h : As.Rk w g x) (hp : x.p = []) (hsh : As.Short x.l) :
    Calls Tryz.prog 91 #[.string ⟨#[98, 101, 113, 122]⟩, .pointer (some ⟨g, 0, none⟩)] w (As.RPPost w g (As.pseudo As.tBeqz x)) := by
  have HP := Lib.hid (show As.pseudo As.tBeqz x = some (As.to ⟨4, 0, ((As.reg x).1 : Nat), 0, 0⟩ (As.reg x).2) from by unfold As.pseudo; rw [if_neg (by decide), if_neg (by decide), if_neg (by decide), if_neg (by decide), if_neg (by decide), if_neg (by decide), if_neg (by decide), if_neg (by decide), if_neg (by decide), if_pos rfl])
  have HA0 := Lib.hid (As.Rz.start h)
  have HSH0 := Lib.hid hsh
  have HY := Lib.hid hp
  have C_beq := Lib.hid (fun W => rop_any ⟨#[98, 101, 113]⟩ W (by decide))
  rw [show Is.found ⟨#[98, 101, 113]⟩ = 4 from by decide] at C_beq
  have CW := Lib.hid (fun op rd rs1 rs2 imm W => rwhole_any op rd rs1 rs2 imm W)
  clear h hsh hp
  rw [HP.out]
  clear HP
  go_enter Tryz.func91, Tryz.ntmps91
  go_wp2_with fail
  go_at_call 150
  refine (C_beq.out _).mono ?_
  rintro e u1 ⟨rfl, hu1⟩
  have HB1 := Lib.hid (HA0.out.kept hu1)
  go_wp2_with fail
  go_at_call 146
  refine (rrdreg_any HB1.out.rk).mono ?_
  rintro e w2 ⟨rfl, g2⟩
  have HB2 := Lib.hid (HB1.out.step g2)
  have HSH1 := Lib.hid (show As.Short (As.reg x).2.l from HSH0.out.reg)
  clear g2
  have hbk := Bk.fresh w2 114 #[.int .i64 4, .int .i64 0, .int .i64 ((As.reg x).1 : Nat), .int .i64 0, .int .i64 0]
  have hal : Below w2.heap.size w2 (w2.alloc (.cells #[.int .i64 4, .int .i64 0, .int .i64 ((As.reg x).1 : Nat), .int .i64 0, .int .i64 0] 114)) := (Below.refl _ _).alloc (Nat.le_refl _) _
  have HBB := Lib.hid (HB2.out.kept hal)
  have HBK := Lib.hid hbk
  have HSZ := Lib.hid HB2.out.size
  clear hbk hal
  go_wp2_with fail
  go_at_call 148
  refine (rrdgoal_any HBB.out.rk HSH1.out).mono ?_
  rintro e w9 ⟨rfl, g9⟩
  have hk9 := g9.2.bk HBK.out (fun e => by have := HBB.out.lt; have := HSZ.out; omega)
  have HB9 := Lib.hid ((HBB.out.step g9).set w2.heap.size 4 (.int .i64 (As.either (As.reg x).2).1.1) HSZ.out)
  have hk10 := hk9.set 4 (.int .i64 (As.either (As.reg x).2).1.1)
  have c9 := hk9.cell 4
  have f9 := hk9.free 4
  have b0 := hk10.cell 0
  have b1 := hk10.cell 1
  have b2 := hk10.cell 2
  have b3 := hk10.cell 3
  have b4 := hk10.cell 4
  simp at b0 b1 b2 b3 b4
  simp only [List.getElem?_toArray, List.getElem?_cons_zero, List.getElem?_cons_succ] at c9
  clear hk9 hk10 g9
  go_wp2_with fail
  go_ret2
  exact As.RPPost.goal (i := ⟨4, 0, ((As.reg x).1 : Nat), 0, (As.either (As.reg x).2).1.1⟩) (s := (As.either (As.reg x).2).1.2) HB9.out (Below.refl _ _) HB9.out.size (by simp only [As.reg_p, As.num_p, As.name_p, As.either_p]; exact HY.out) (by simp [World.setCell])
set_option maxRecDepth 100000 in
set_option maxHeartbeats 8000000 in
theorem rpseudo_bnez {w : World} {g : Nat} {x : As.L} (h : As.Rk w g x) (hp : x.p = []) (hsh : As.Short x.l) :
    Calls Tryz.prog 91 #[.string ⟨#[98, 110, 101, 122]⟩, .pointer (some ⟨g, 0, none⟩)] w (As.RPPost w g (As.pseudo As.tBnez x)) := by
  have HP := Lib.hid (show As.pseudo As.tBnez x = some (As.to ⟨5, 0, ((As.reg x).1 : Nat), 0, 0⟩ (As.reg x).2) from by unfold As.pseudo; rw [if_neg (by decide), if_neg (by decide), if_neg (by decide), if_neg (by decide), if_neg (by decide), if_neg (by decide), if_neg (by decide), if_neg (by decide), if_neg (by decide), if_neg (by decide), if_pos rfl])
  have HA0 := Lib.hid (As.Rz.start h)
  have HSH0 := Lib.hid hsh
  have HY := Lib.hid hp
  have C_bne := Lib.hid (fun W => rop_any ⟨#[98, 110, 101]⟩ W (by decide))
  rw [show Is.found ⟨#[98, 110, 101]⟩ = 5 from by decide] at C_bne
  have CW := Lib.hid (fun op rd rs1 rs2 imm W => rwhole_any op rd rs1 rs2 imm W)
  clear h hsh hp
  rw [HP.out]
  clear HP
  go_enter Tryz.func91, Tryz.ntmps91
  go_wp2_with fail
  go_at_call 150
  refine (C_bne.out _).mono ?_
  rintro e u1 ⟨rfl, hu1⟩
  have HB1 := Lib.hid (HA0.out.kept hu1)
  go_wp2_with fail
  go_at_call 146
  refine (rrdreg_any HB1.out.rk).mono ?_
  rintro e w2 ⟨rfl, g2⟩
  have HB2 := Lib.hid (HB1.out.step g2)
  have HSH1 := Lib.hid (show As.Short (As.reg x).2.l from HSH0.out.reg)
  clear g2
  have hbk := Bk.fresh w2 114 #[.int .i64 5, .int .i64 0, .int .i64 ((As.reg x).1 : Nat), .int .i64 0, .int .i64 0]
  have hal : Below w2.heap.size w2 (w2.alloc (.cells #[.int .i64 5, .int .i64 0, .int .i64 ((As.reg x).1 : Nat), .int .i64 0, .int .i64 0] 114)) := (Below.refl _ _).alloc (Nat.le_refl _) _
  have HBB := Lib.hid (HB2.out.kept hal)
  have HBK := Lib.hid hbk
  have HSZ := Lib.hid HB2.out.size
  clear hbk hal
  go_wp2_with fail
  go_at_call 148
  refine (rrdgoal_any HBB.out.rk HSH1.out).mono ?_
  rintro e w9 ⟨rfl, g9⟩
  have hk9 := g9.2.bk HBK.out (fun e => by have := HBB.out.lt; have := HSZ.out; omega)
  have HB9 := Lib.hid ((HBB.out.step g9).set w2.heap.size 4 (.int .i64 (As.either (As.reg x).2).1.1) HSZ.out)
  have hk10 := hk9.set 4 (.int .i64 (As.either (As.reg x).2).1.1)
  have c9 := hk9.cell 4
  have f9 := hk9.free 4
  have b0 := hk10.cell 0
  have b1 := hk10.cell 1
  have b2 := hk10.cell 2
  have b3 := hk10.cell 3
  have b4 := hk10.cell 4
  simp at b0 b1 b2 b3 b4
  simp only [List.getElem?_toArray, List.getElem?_cons_zero, List.getElem?_cons_succ] at c9
  clear hk9 hk10 g9
  go_wp2_with fail
  go_ret2
  exact As.RPPost.goal (i := ⟨5, 0, ((As.reg x).1 : Nat), 0, (As.either (As.reg x).2).1.1⟩) (s := (As.either (As.reg x).2).1.2) HB9.out (Below.refl _ _) HB9.out.size (by simp only [As.reg_p, As.num_p, As.name_p, As.either_p]; exact HY.out) (by simp [World.setCell])
set_option maxRecDepth 100000 in
set_option maxHeartbeats 4000000 in
theorem rpseudo_none {w : World} {g : Nat} {x : As.L} (s : List UInt8) (hs : As.pseudo s x = none) :
    Calls Tryz.prog 91 #[.string ⟨s.toArray⟩, .pointer (some ⟨g, 0, none⟩)] w (As.RPPost w g none) := by
  have n0 : s ≠ As.tLi := fun e => by subst e; exact absurd hs (by unfold As.pseudo; rw [if_pos rfl]; exact Option.some_ne_none _)
  have n1 : s ≠ As.tLa := fun e => by subst e; exact absurd hs (by unfold As.pseudo; rw [if_neg (by decide), if_pos rfl]; exact Option.some_ne_none _)
  have n2 : s ≠ As.tMv := fun e => by subst e; exact absurd hs (by unfold As.pseudo; rw [if_neg (by decide), if_neg (by decide), if_pos rfl]; exact Option.some_ne_none _)
  have n3 : s ≠ As.tNop := fun e => by subst e; exact absurd hs (by unfold As.pseudo; rw [if_neg (by decide), if_neg (by decide), if_neg (by decide), if_pos rfl]; exact Option.some_ne_none _)
  have n4 : s ≠ As.tRet := fun e => by subst e; exact absurd hs (by unfold As.pseudo; rw [if_neg (by decide), if_neg (by decide), if_neg (by decide), if_neg (by decide), if_pos rfl]; exact Option.some_ne_none _)
  have n5 : s ≠ As.tCall := fun e => by subst e; exact absurd hs (by unfold As.pseudo; rw [if_neg (by decide), if_neg (by decide), if_neg (by decide), if_neg (by decide), if_neg (by decide), if_pos rfl]; exact Option.some_ne_none _)
  have n6 : s ≠ As.tJ := fun e => by subst e; exact absurd hs (by unfold As.pseudo; rw [if_neg (by decide), if_neg (by decide), if_neg (by decide), if_neg (by decide), if_neg (by decide), if_neg (by decide), if_pos rfl]; exact Option.some_ne_none _)
  have n7 : s ≠ As.tNot := fun e => by subst e; exact absurd hs (by unfold As.pseudo; rw [if_neg (by decide), if_neg (by decide), if_neg (by decide), if_neg (by decide), if_neg (by decide), if_neg (by decide), if_neg (by decide), if_pos rfl]; exact Option.some_ne_none _)
  have n8 : s ≠ As.tNeg := fun e => by subst e; exact absurd hs (by unfold As.pseudo; rw [if_neg (by decide), if_neg (by decide), if_neg (by decide), if_neg (by decide), if_neg (by decide), if_neg (by decide), if_neg (by decide), if_neg (by decide), if_pos rfl]; exact Option.some_ne_none _)
  have n9 : s ≠ As.tBeqz := fun e => by subst e; exact absurd hs (by unfold As.pseudo; rw [if_neg (by decide), if_neg (by decide), if_neg (by decide), if_neg (by decide), if_neg (by decide), if_neg (by decide), if_neg (by decide), if_neg (by decide), if_neg (by decide), if_pos rfl]; exact Option.some_ne_none _)
  have n10 : s ≠ As.tBnez := fun e => by subst e; exact absurd hs (by unfold As.pseudo; rw [if_neg (by decide), if_neg (by decide), if_neg (by decide), if_neg (by decide), if_neg (by decide), if_neg (by decide), if_neg (by decide), if_neg (by decide), if_neg (by decide), if_neg (by decide), if_pos rfl]; exact Option.some_ne_none _)
  have a0 : (s == [108, 105]) = false := (show (s == As.tLi) = false from by simpa using n0)
  have b0 : (!s == [108, 105]) = true := (show (!s == As.tLi) = true from by simpa using n0)
  have a1 : (s == [108, 97]) = false := (show (s == As.tLa) = false from by simpa using n1)
  have b1 : (!s == [108, 97]) = true := (show (!s == As.tLa) = true from by simpa using n1)
  have a2 : (s == [109, 118]) = false := (show (s == As.tMv) = false from by simpa using n2)
  have b2 : (!s == [109, 118]) = true := (show (!s == As.tMv) = true from by simpa using n2)
  have a3 : (s == [110, 111, 112]) = false := (show (s == As.tNop) = false from by simpa using n3)
  have b3 : (!s == [110, 111, 112]) = true := (show (!s == As.tNop) = true from by simpa using n3)
  have a4 : (s == [114, 101, 116]) = false := (show (s == As.tRet) = false from by simpa using n4)
  have b4 : (!s == [114, 101, 116]) = true := (show (!s == As.tRet) = true from by simpa using n4)
  have a5 : (s == [99, 97, 108, 108]) = false := (show (s == As.tCall) = false from by simpa using n5)
  have b5 : (!s == [99, 97, 108, 108]) = true := (show (!s == As.tCall) = true from by simpa using n5)
  have a6 : (s == [106]) = false := (show (s == As.tJ) = false from by simpa using n6)
  have b6 : (!s == [106]) = true := (show (!s == As.tJ) = true from by simpa using n6)
  have a7 : (s == [110, 111, 116]) = false := (show (s == As.tNot) = false from by simpa using n7)
  have b7 : (!s == [110, 111, 116]) = true := (show (!s == As.tNot) = true from by simpa using n7)
  have a8 : (s == [110, 101, 103]) = false := (show (s == As.tNeg) = false from by simpa using n8)
  have b8 : (!s == [110, 101, 103]) = true := (show (!s == As.tNeg) = true from by simpa using n8)
  have a9 : (s == [98, 101, 113, 122]) = false := (show (s == As.tBeqz) = false from by simpa using n9)
  have b9 : (!s == [98, 101, 113, 122]) = true := (show (!s == As.tBeqz) = true from by simpa using n9)
  have a10 : (s == [98, 110, 101, 122]) = false := (show (s == As.tBnez) = false from by simpa using n10)
  have b10 : (!s == [98, 110, 101, 122]) = true := (show (!s == As.tBnez) = true from by simpa using n10)
  clear hs n0 n1 n2 n3 n4 n5 n6 n7 n8 n9 n10
  go_enter Tryz.func91, Tryz.ntmps91
  go_wp2_with fail
  go_ret2
  exact ⟨rfl, rfl⟩
theorem rpseudo_any {w : World} {g : Nat} {x : As.L} (h : As.Rk w g x) (hp : x.p = []) (hsh : As.Short x.l) (s : List UInt8) :
    Calls Tryz.prog 91 #[.string ⟨s.toArray⟩, .pointer (some ⟨g, 0, none⟩)] w (As.RPPost w g (As.pseudo s x)) := by
  by_cases n0 : s = As.tLi
  · subst n0; exact rpseudo_li h hp hsh
  by_cases n1 : s = As.tLa
  · subst n1; exact rpseudo_la h hp hsh
  by_cases n2 : s = As.tMv
  · subst n2; exact rpseudo_mv h hp hsh
  by_cases n3 : s = As.tNop
  · subst n3; exact rpseudo_nop h hp hsh
  by_cases n4 : s = As.tRet
  · subst n4; exact rpseudo_ret h hp hsh
  by_cases n5 : s = As.tCall
  · subst n5; exact rpseudo_call h hp hsh
  by_cases n6 : s = As.tJ
  · subst n6; exact rpseudo_j h hp hsh
  by_cases n7 : s = As.tNot
  · subst n7; exact rpseudo_not h hp hsh
  by_cases n8 : s = As.tNeg
  · subst n8; exact rpseudo_neg h hp hsh
  by_cases n9 : s = As.tBeqz
  · subst n9; exact rpseudo_beqz h hp hsh
  by_cases n10 : s = As.tBnez
  · subst n10; exact rpseudo_bnez h hp hsh
  have e : As.pseudo s x = none := by unfold As.pseudo; rw [if_neg n0, if_neg n1, if_neg n2, if_neg n3, if_neg n4, if_neg n5, if_neg n6, if_neg n7, if_neg n8, if_neg n9, if_neg n10]
  rw [e]
  exact rpseudo_none s e
end Go.Proofs.YtpcpaoeajcjoiaaGreatDoor
