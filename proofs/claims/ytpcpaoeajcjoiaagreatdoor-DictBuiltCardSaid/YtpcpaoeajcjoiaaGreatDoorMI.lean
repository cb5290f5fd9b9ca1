/- Texts joined, what is not reached left out. -/
import Derived.Test.YtpcpaoeajcjoiaaGreatDoorMS
set_option linter.unusedVariables false
set_option linter.unusedSimpArgs false
namespace Go.Proofs.YtpcpaoeajcjoiaaGreatDoor
open Go.RowKit Kit
theorem As.Tb.fr {F:Nat→Prop} {w w':World} (h:As.Tb F w) (hf:Fr F w w'):As.Tb F w':=⟨As.tab_fr h.1 hf h.2,h.2⟩
theorem As.code_len (i:Is.Inst) (x:As.L):(As.code i x).p.length = x.p.length+1:=by simp [As.code,As.put]
theorem As.reg_len (x:As.L):(As.reg x).2.p = x.p:=by unfold As.reg As.next As.sat;dsimp only;split <;> rfl
theorem As.num_len (x:As.L):(As.num x).2.p = x.p:=by unfold As.num As.next As.sat;dsimp only;split <;> rfl
theorem As.name_len (x:As.L):(As.name x).2.p = x.p:=by unfold As.name As.next As.sat;dsimp only;split <;> rfl
set_option maxRecDepth 20000 in
theorem anumber_any {F:Nat→Prop} {w:World} {gx:Nat} {x:As.L} (h:As.Mk F w gx x) (d n:Int) (h1:-2147483648≤n) (h2:n≤4294967295) (hl:x.p.length≤900000000) :
  Calls Tryz.prog 215 #[.pointer (some ⟨gx,0,none⟩),.int .i64 d,.int .i64 n] w fun e w'=>e = .returned (.tuple #[])∧As.To F w gx (As.number d n x) w':=by
 have CA:=Lib.hid (acode_any h ⟨18,d,0,0,n⟩ (by omega))
 have CB:=Lib.hid (acode_any h ⟨0,d,0,0,As.hi n⟩ (by omega))
 have CC:=Lib.hid (fun F1 w1 (h1:As.Mk F1 w1 gx (As.code ⟨0,d,0,0,As.hi n⟩ x))=>acode_any h1 ⟨18,d,d,0,As.lo n⟩ (by rw [As.code_len];omega))
 have CH:=Lib.hid (fun W=>ahalves_any n W h1 h2)
 by_cases hb:-2048≤n
 ·by_cases hc:n < 2048
  ·have HP:=Lib.hid (show As.number d n x = As.code ⟨18,d,0,0,n⟩ x from by unfold As.number;rw [if_pos ⟨hb,hc⟩])
   clear h h1 h2 hl
   go_enter Tryz.func215,Tryz.ntmps215
   go_wp2_with (go_at_call 214;refine CA.out.mono ?_;rintro e w1 ⟨rfl,k1⟩)
   first | go_end0 | refine bodyPost_ret (results_none rfl _ _ _) rfl ?_
   exact ⟨rfl,by rw [HP.out];exact k1⟩
  ·have HP:=Lib.hid (show As.number d n x = As.code ⟨18,d,d,0,As.lo n⟩ (As.code ⟨0,d,0,0,As.hi n⟩ x) from by unfold As.number;rw [if_neg (fun e=>hc e.2)])
   have hc':¬ n < 2048:=hc
   clear h h1 h2 hl
   go_enter Tryz.func215,Tryz.ntmps215
   go_wp2_with (go_at_call 141;refine (CH.out _).mono ?_;rintro e w' ⟨rfl,rfl⟩)
   go_at_call 214
   refine CB.out.mono ?_
   rintro e w1 ⟨rfl,F1,m1,s1⟩
   go_wp2_with fail
   go_at_call 214
   refine (CC.out _ _ m1).mono ?_
   rintro e w2 ⟨rfl,k2⟩
   go_wp2_with fail
   first | go_end0 | refine bodyPost_ret (results_none rfl _ _ _) rfl ?_
   exact ⟨rfl,by rw [HP.out];exact k2.after s1⟩
 ·have HP:=Lib.hid (show As.number d n x = As.code ⟨18,d,d,0,As.lo n⟩ (As.code ⟨0,d,0,0,As.hi n⟩ x) from by unfold As.number;rw [if_neg (fun e=>hb e.1)])
  have hb':¬ -2048≤n:=hb
  clear h h1 h2 hl
  go_enter Tryz.func215,Tryz.ntmps215
  go_wp2_with (go_at_call 141;refine (CH.out _).mono ?_;rintro e w' ⟨rfl,rfl⟩)
  go_at_call 214
  refine CB.out.mono ?_
  rintro e w1 ⟨rfl,F1,m1,s1⟩
  go_wp2_with fail
  go_at_call 214
  refine (CC.out _ _ m1).mono ?_
  rintro e w2 ⟨rfl,k2⟩
  go_wp2_with fail
  first | go_end0 | refine bodyPost_ret (results_none rfl _ _ _) rfl ?_
  exact ⟨rfl,by rw [HP.out];exact k2.after s1⟩
structure As.Bx (F F3:Nat→Prop) (w:World) (gx:Nat) (W:World) (x:As.L) (cs:Array Value):Prop where
 m:As.Mk F3 W gx x
 bk:Bk W w.heap.size 174 cs
 tb:As.Tb F3 W
 fr:Fr F w W
 ne:w.heap.size ≠ gx
 ap:F3 w.heap.size
 f3:∀ k,F3 k→F k ∨ w.heap.size≤k
 gx:F gx
theorem As.Bx.start {F:Nat→Prop} {w:World} {gx:Nat} {x:As.L} (h:As.Mk F w gx x) (hT:As.Tb F w) (cs:Array Value):As.Bx F (fun k=>F k ∨ k = w.heap.size) w gx (w.alloc (.cells cs 174)) x cs:=by
 have hal:Below w.heap.size w (w.alloc (.cells cs 174)):=(Below.refl _ _).alloc (Nat.le_refl _) _
 have hbk:=Bk.fresh w 174 cs
 have hlt:=F8.tab_lt hT.1
 exact ⟨h.grow (N:=fun k=>k = w.heap.size) hal (fun k e=>by subst e;exact ⟨Nat.le_refl _,hbk.lt⟩),hbk,⟨(hT.kept hal).1,fun e=>e.elim hT.2 (fun e=>by omega)⟩,Fr.of_below hal,fun e=>absurd (h.lt _ h.gx) (by omega),.inr rfl,fun k hk=>hk.imp id (fun e=>by omega),h.gx⟩
theorem As.Bx.step {F F3:Nat→Prop} {w W w':World} {gx:Nat} {x x':As.L} {cs:Array Value} (b:As.Bx F F3 w gx W x cs) (g:As.Go F3 W gx x' w') (k:Nat) (u:Value) :
  w'.cell? ⟨w.heap.size,k,none⟩ = cs[k]?∧w'.frozen? ⟨w.heap.size,k,none⟩ = false∧Hid (As.Bx F F3 w gx (w'.setCell ⟨w.heap.size,k,none⟩ u) x' (cs.setIfInBounds k u)):=by
 have hbk:Bk w' w.heap.size 174 cs:=g.2.bk b.bk b.ne
 have hbut:=But.setCell w' w.heap.size k u
 have h1:Fr F3 W w':=g.2.mono (fun j e=>e ▸ b.m.gx)
 have h2:Fr F3 w' (w'.setCell ⟨w.heap.size,k,none⟩ u):=Fr.of_but hbut b.ap
 exact ⟨hbk.cell k,hbk.free k,Lib.hid ⟨g.1.other b.ap hbk (by decide) (by decide) hbut,hbk.set k u,(b.tb.fr h1).fr h2,(b.fr.trans g.2 (fun j e=>.inl (e ▸ b.gx))).trans (Fr.of_but (F:=fun j=>j = w.heap.size) hbut rfl) (fun j e=>.inr (by omega)),b.ne,b.ap,b.f3,b.gx⟩⟩
theorem As.Bx.done {F F3:Nat→Prop} {w W w':World} {gx:Nat} {x x':As.L} {cs:Array Value} (b:As.Bx F F3 w gx W x cs) (h:As.To F3 W gx x' w'):As.To F w gx x' w':=h.lift b.f3 b.fr
set_option maxRecDepth 100000 in
set_option maxHeartbeats 8000000 in
theorem ainst_any {F:Nat→Prop} {w:World} {gx:Nat} {x:As.L} (h:As.Mk F w gx x) (hT:As.Tb F w) (hsh:As.Short x.l) (op:Int) (hl:x.p.length≤900000000) :
  Calls Tryz.prog 138 #[.pointer (some ⟨gx,0,none⟩),.int .i64 op] w fun e w'=>e = .returned (.tuple #[])∧As.To F w gx (As.inst op x) w':=by
 have HB0:=Lib.hid (As.Bx.start h hT #[.int .i64 op,.int .i64 0,.int .i64 0,.int .i64 0,.int .i64 0])
 have HSH:=Lib.hid hsh
 have HL:=Lib.hid hl
 have CS:=Lib.hid (fun W=>shape_own op W)
 rcases Is.shape_cases op with hs | hs | hs | hs | hs | hs | hs | hs | hs | hs
 ·by_cases ho:op≤14
  ·have HP:=Lib.hid (show As.inst op x = As.code ⟨op,((As.reg x).1),((As.reg (As.num (As.reg x).2).2).1),0,(As.num (As.reg x).2).1⟩ (As.reg (As.num (As.reg x).2).2).2 from by unfold As.inst;rw [if_neg (by rw [hs];decide),if_neg (by rw [hs];decide),if_neg (by rw [hs];decide),if_neg (by rw [hs];decide),if_neg (by rw [hs];decide),if_neg (by rw [hs];decide),if_neg (by rw [hs];decide),if_pos ho])
   rw [hs] at CS
   clear h hT hsh hl hs
   go_enter Tryz.func138,Tryz.ntmps138
   go_wp2_with (go_at_call 210;refine (CS.out _).mono ?_;rintro e w' ⟨rfl,rfl⟩)
   obtain ⟨W0,hW0⟩:∃ W0,w.alloc (.cells #[.int .i64 op,.int .i64 0,.int .i64 0,.int .i64 0,.int .i64 0] 174) = W0:=⟨_,rfl⟩
   rw [hW0] at HB0 ⊢
   clear hW0
   go_at_call 211
   refine (areg_any HB0.out.m HB0.out.tb HSH.out).mono ?_
   rintro e w1 ⟨rfl,hg1⟩
   obtain ⟨c1,f1,hb1⟩:=HB0.out.step hg1 1 (.int .i64 ((As.reg x).1:Nat))
   have HSH1:=Lib.hid (show As.Short (As.reg x).2.l from HSH.out.reg)
   simp only [List.getElem?_toArray,List.getElem?_cons_zero,List.getElem?_cons_succ] at c1
   replace hb1:=Lib.hid (show As.Bx F _ w gx (w1.setCell ⟨w.heap.size,1,none⟩ (.int .i64 ((As.reg x).1:Nat))) (As.reg x).2 #[.int .i64 op,.int .i64 ((As.reg x).1:Nat),.int .i64 0,.int .i64 0,.int .i64 0] from by simpa using hb1.out)
   clear hg1
   go_wp2_with fail
   obtain ⟨W1,hW1⟩:∃ W1,w1.setCell ⟨w.heap.size,1,none⟩ (.int .i64 ((As.reg x).1:Nat)) = W1:=⟨_,rfl⟩
   rw [hW1] at hb1 ⊢
   have HB1:=Lib.hid hb1.out
   clear hW1 hb1 c1 f1
   go_at_call 212
   refine (anum_any HB1.out.m HB1.out.tb HSH1.out).mono ?_
   rintro e w2 ⟨rfl,hg2⟩
   obtain ⟨c2,f2,hb2⟩:=HB1.out.step hg2 4 (.int .i64 (As.num (As.reg x).2).1)
   have HSH2:=Lib.hid (show As.Short (As.num (As.reg x).2).2.l from HSH1.out.num)
   simp only [List.getElem?_toArray,List.getElem?_cons_zero,List.getElem?_cons_succ] at c2
   replace hb2:=Lib.hid (show As.Bx F _ w gx (w2.setCell ⟨w.heap.size,4,none⟩ (.int .i64 (As.num (As.reg x).2).1)) (As.num (As.reg x).2).2 #[.int .i64 op,.int .i64 ((As.reg x).1:Nat),.int .i64 0,.int .i64 0,.int .i64 (As.num (As.reg x).2).1] from by simpa using hb2.out)
   clear hg2
   go_wp2_with fail
   obtain ⟨W2,hW2⟩:∃ W2,w2.setCell ⟨w.heap.size,4,none⟩ (.int .i64 (As.num (As.reg x).2).1) = W2:=⟨_,rfl⟩
   rw [hW2] at hb2 ⊢
   have HB2:=Lib.hid hb2.out
   clear hW2 hb2 c2 f2
   go_at_call 211
   refine (areg_any HB2.out.m HB2.out.tb HSH2.out).mono ?_
   rintro e w3 ⟨rfl,hg3⟩
   obtain ⟨c3,f3,hb3⟩:=HB2.out.step hg3 2 (.int .i64 ((As.reg (As.num (As.reg x).2).2).1:Nat))
   have HSH3:=Lib.hid (show As.Short (As.reg (As.num (As.reg x).2).2).2.l from HSH2.out.reg)
   simp only [List.getElem?_toArray,List.getElem?_cons_zero,List.getElem?_cons_succ] at c3
   replace hb3:=Lib.hid (show As.Bx F _ w gx (w3.setCell ⟨w.heap.size,2,none⟩ (.int .i64 ((As.reg (As.num (As.reg x).2).2).1:Nat))) (As.reg (As.num (As.reg x).2).2).2 #[.int .i64 op,.int .i64 ((As.reg x).1:Nat),.int .i64 ((As.reg (As.num (As.reg x).2).2).1:Nat),.int .i64 0,.int .i64 (As.num (As.reg x).2).1] from by simpa using hb3.out)
   have b0:=hb3.out.bk.cell 0
   have b1:=hb3.out.bk.cell 1
   have b2:=hb3.out.bk.cell 2
   have b3:=hb3.out.bk.cell 3
   have b4:=hb3.out.bk.cell 4
   simp only [List.getElem?_toArray,List.getElem?_cons_zero,List.getElem?_cons_succ] at b0 b1 b2 b3 b4
   clear hg3
   go_wp2_with fail
   obtain ⟨W3,hW3⟩:∃ W3,w3.setCell ⟨w.heap.size,2,none⟩ (.int .i64 ((As.reg (As.num (As.reg x).2).2).1:Nat)) = W3:=⟨_,rfl⟩
   rw [hW3] at hb3 ⊢
   have HB3:=Lib.hid hb3.out
   clear hW3 hb3 c3 f3 b0 b1 b2 b3 b4
   go_at_call 214
   refine (acode_any HB3.out.m ⟨op,((As.reg x).1),((As.reg (As.num (As.reg x).2).2).1),0,(As.num (As.reg x).2).1⟩ (by simp only [As.reg_len,As.num_len];have:=HL.out;omega)).mono ?_
   rintro e wz ⟨rfl,hto⟩
   go_wp2_with fail
   first | go_end0 | refine bodyPost_ret (results_none rfl _ _ _) rfl ?_
   exact ⟨rfl,by rw [HP.out];exact HB3.out.done hto⟩
  ·have HP:=Lib.hid (show As.inst op x = As.code ⟨op,((As.reg x).1),((As.reg (As.reg x).2).1),0,(As.num (As.reg (As.reg x).2).2).1⟩ (As.num (As.reg (As.reg x).2).2).2 from by unfold As.inst;rw [if_neg (by rw [hs];decide),if_neg (by rw [hs];decide),if_neg (by rw [hs];decide),if_neg (by rw [hs];decide),if_neg (by rw [hs];decide),if_neg (by rw [hs];decide),if_neg (by rw [hs];decide),if_neg ho])
   rw [hs] at CS
   clear h hT hsh hl hs
   go_enter Tryz.func138,Tryz.ntmps138
   go_wp2_with (go_at_call 210;refine (CS.out _).mono ?_;rintro e w' ⟨rfl,rfl⟩)
   obtain ⟨W0,hW0⟩:∃ W0,w.alloc (.cells #[.int .i64 op,.int .i64 0,.int .i64 0,.int .i64 0,.int .i64 0] 174) = W0:=⟨_,rfl⟩
   rw [hW0] at HB0 ⊢
   clear hW0
   go_at_call 211
   refine (areg_any HB0.out.m HB0.out.tb HSH.out).mono ?_
   rintro e w1 ⟨rfl,hg1⟩
   obtain ⟨c1,f1,hb1⟩:=HB0.out.step hg1 1 (.int .i64 ((As.reg x).1:Nat))
   have HSH1:=Lib.hid (show As.Short (As.reg x).2.l from HSH.out.reg)
   simp only [List.getElem?_toArray,List.getElem?_cons_zero,List.getElem?_cons_succ] at c1
   replace hb1:=Lib.hid (show As.Bx F _ w gx (w1.setCell ⟨w.heap.size,1,none⟩ (.int .i64 ((As.reg x).1:Nat))) (As.reg x).2 #[.int .i64 op,.int .i64 ((As.reg x).1:Nat),.int .i64 0,.int .i64 0,.int .i64 0] from by simpa using hb1.out)
   clear hg1
   go_wp2_with fail
   obtain ⟨W1,hW1⟩:∃ W1,w1.setCell ⟨w.heap.size,1,none⟩ (.int .i64 ((As.reg x).1:Nat)) = W1:=⟨_,rfl⟩
   rw [hW1] at hb1 ⊢
   have HB1:=Lib.hid hb1.out
   clear hW1 hb1 c1 f1
   go_at_call 211
   refine (areg_any HB1.out.m HB1.out.tb HSH1.out).mono ?_
   rintro e w2 ⟨rfl,hg2⟩
   obtain ⟨c2,f2,hb2⟩:=HB1.out.step hg2 2 (.int .i64 ((As.reg (As.reg x).2).1:Nat))
   have HSH2:=Lib.hid (show As.Short (As.reg (As.reg x).2).2.l from HSH1.out.reg)
   simp only [List.getElem?_toArray,List.getElem?_cons_zero,List.getElem?_cons_succ] at c2
   replace hb2:=Lib.hid (show As.Bx F _ w gx (w2.setCell ⟨w.heap.size,2,none⟩ (.int .i64 ((As.reg (As.reg x).2).1:Nat))) (As.reg (As.reg x).2).2 #[.int .i64 op,.int .i64 ((As.reg x).1:Nat),.int .i64 ((As.reg (As.reg x).2).1:Nat),.int .i64 0,.int .i64 0] from by simpa using hb2.out)
   clear hg2
   go_wp2_with fail
   obtain ⟨W2,hW2⟩:∃ W2,w2.setCell ⟨w.heap.size,2,none⟩ (.int .i64 ((As.reg (As.reg x).2).1:Nat)) = W2:=⟨_,rfl⟩
   rw [hW2] at hb2 ⊢
   have HB2:=Lib.hid hb2.out
   clear hW2 hb2 c2 f2
   go_at_call 212
   refine (anum_any HB2.out.m HB2.out.tb HSH2.out).mono ?_
   rintro e w3 ⟨rfl,hg3⟩
   obtain ⟨c3,f3,hb3⟩:=HB2.out.step hg3 4 (.int .i64 (As.num (As.reg (As.reg x).2).2).1)
   have HSH3:=Lib.hid (show As.Short (As.num (As.reg (As.reg x).2).2).2.l from HSH2.out.num)
   simp only [List.getElem?_toArray,List.getElem?_cons_zero,List.getElem?_cons_succ] at c3
   replace hb3:=Lib.hid (show As.Bx F _ w gx (w3.setCell ⟨w.heap.size,4,none⟩ (.int .i64 (As.num (As.reg (As.reg x).2).2).1)) (As.num (As.reg (As.reg x).2).2).2 #[.int .i64 op,.int .i64 ((As.reg x).1:Nat),.int .i64 ((As.reg (As.reg x).2).1:Nat),.int .i64 0,.int .i64 (As.num (As.reg (As.reg x).2).2).1] from by simpa using hb3.out)
   have b0:=hb3.out.bk.cell 0
   have b1:=hb3.out.bk.cell 1
   have b2:=hb3.out.bk.cell 2
   have b3:=hb3.out.bk.cell 3
   have b4:=hb3.out.bk.cell 4
   simp only [List.getElem?_toArray,List.getElem?_cons_zero,List.getElem?_cons_succ] at b0 b1 b2 b3 b4
   clear hg3
   go_wp2_with fail
   obtain ⟨W3,hW3⟩:∃ W3,w3.setCell ⟨w.heap.size,4,none⟩ (.int .i64 (As.num (As.reg (As.reg x).2).2).1) = W3:=⟨_,rfl⟩
   rw [hW3] at hb3 ⊢
   have HB3:=Lib.hid hb3.out
   clear hW3 hb3 c3 f3 b0 b1 b2 b3 b4
   go_at_call 214
   refine (acode_any HB3.out.m ⟨op,((As.reg x).1),((As.reg (As.reg x).2).1),0,(As.num (As.reg (As.reg x).2).2).1⟩ (by simp only [As.reg_len,As.num_len];have:=HL.out;omega)).mono ?_
   rintro e wz ⟨rfl,hto⟩
   go_wp2_with fail
   first | go_end0 | refine bodyPost_ret (results_none rfl _ _ _) rfl ?_
   exact ⟨rfl,by rw [HP.out];exact HB3.out.done hto⟩
 ·have HP:=Lib.hid (show As.inst op x = As.code ⟨op,((As.reg x).1),0,0,(As.num (As.reg x).2).1⟩ (As.num (As.reg x).2).2 from by unfold As.inst;rw [if_pos hs])
  rw [hs] at CS
  clear h hT hsh hl hs
  go_enter Tryz.func138,Tryz.ntmps138
  go_wp2_with (go_at_call 210;refine (CS.out _).mono ?_;rintro e w' ⟨rfl,rfl⟩)
  obtain ⟨W0,hW0⟩:∃ W0,w.alloc (.cells #[.int .i64 op,.int .i64 0,.int .i64 0,.int .i64 0,.int .i64 0] 174) = W0:=⟨_,rfl⟩
  rw [hW0] at HB0 ⊢
  clear hW0
  go_at_call 211
  refine (areg_any HB0.out.m HB0.out.tb HSH.out).mono ?_
  rintro e w1 ⟨rfl,hg1⟩
  obtain ⟨c1,f1,hb1⟩:=HB0.out.step hg1 1 (.int .i64 ((As.reg x).1:Nat))
  have HSH1:=Lib.hid (show As.Short (As.reg x).2.l from HSH.out.reg)
  simp only [List.getElem?_toArray,List.getElem?_cons_zero,List.getElem?_cons_succ] at c1
  replace hb1:=Lib.hid (show As.Bx F _ w gx (w1.setCell ⟨w.heap.size,1,none⟩ (.int .i64 ((As.reg x).1:Nat))) (As.reg x).2 #[.int .i64 op,.int .i64 ((As.reg x).1:Nat),.int .i64 0,.int .i64 0,.int .i64 0] from by simpa using hb1.out)
  clear hg1
  go_wp2_with fail
  obtain ⟨W1,hW1⟩:∃ W1,w1.setCell ⟨w.heap.size,1,none⟩ (.int .i64 ((As.reg x).1:Nat)) = W1:=⟨_,rfl⟩
  rw [hW1] at hb1 ⊢
  have HB1:=Lib.hid hb1.out
  clear hW1 hb1 c1 f1
  go_at_call 212
  refine (anum_any HB1.out.m HB1.out.tb HSH1.out).mono ?_
  rintro e w2 ⟨rfl,hg2⟩
  obtain ⟨c2,f2,hb2⟩:=HB1.out.step hg2 4 (.int .i64 (As.num (As.reg x).2).1)
  have HSH2:=Lib.hid (show As.Short (As.num (As.reg x).2).2.l from HSH1.out.num)
  simp only [List.getElem?_toArray,List.getElem?_cons_zero,List.getElem?_cons_succ] at c2
  replace hb2:=Lib.hid (show As.Bx F _ w gx (w2.setCell ⟨w.heap.size,4,none⟩ (.int .i64 (As.num (As.reg x).2).1)) (As.num (As.reg x).2).2 #[.int .i64 op,.int .i64 ((As.reg x).1:Nat),.int .i64 0,.int .i64 0,.int .i64 (As.num (As.reg x).2).1] from by simpa using hb2.out)
  have b0:=hb2.out.bk.cell 0
  have b1:=hb2.out.bk.cell 1
  have b2:=hb2.out.bk.cell 2
  have b3:=hb2.out.bk.cell 3
  have b4:=hb2.out.bk.cell 4
  simp only [List.getElem?_toArray,List.getElem?_cons_zero,List.getElem?_cons_succ] at b0 b1 b2 b3 b4
  clear hg2
  go_wp2_with fail
  obtain ⟨W2,hW2⟩:∃ W2,w2.setCell ⟨w.heap.size,4,none⟩ (.int .i64 (As.num (As.reg x).2).1) = W2:=⟨_,rfl⟩
  rw [hW2] at hb2 ⊢
  have HB2:=Lib.hid hb2.out
  clear hW2 hb2 c2 f2 b0 b1 b2 b3 b4
  go_at_call 214
  refine (acode_any HB2.out.m ⟨op,((As.reg x).1),0,0,(As.num (As.reg x).2).1⟩ (by simp only [As.reg_len,As.num_len];have:=HL.out;omega)).mono ?_
  rintro e wz ⟨rfl,hto⟩
  go_wp2_with fail
  first | go_end0 | refine bodyPost_ret (results_none rfl _ _ _) rfl ?_
  exact ⟨rfl,by rw [HP.out];exact HB2.out.done hto⟩
 ·have HP:=Lib.hid (show As.inst op x = As.to ⟨op,((As.reg x).1),0,0,0⟩ (As.reg x).2 from by unfold As.inst;rw [if_neg (by rw [hs];decide),if_pos hs])
  rw [hs] at CS
  clear h hT hsh hl hs
  go_enter Tryz.func138,Tryz.ntmps138
  go_wp2_with (go_at_call 210;refine (CS.out _).mono ?_;rintro e w' ⟨rfl,rfl⟩)
  obtain ⟨W0,hW0⟩:∃ W0,w.alloc (.cells #[.int .i64 op,.int .i64 0,.int .i64 0,.int .i64 0,.int .i64 0] 174) = W0:=⟨_,rfl⟩
  rw [hW0] at HB0 ⊢
  clear hW0
  go_at_call 211
  refine (areg_any HB0.out.m HB0.out.tb HSH.out).mono ?_
  rintro e w1 ⟨rfl,hg1⟩
  obtain ⟨c1,f1,hb1⟩:=HB0.out.step hg1 1 (.int .i64 ((As.reg x).1:Nat))
  have HSH1:=Lib.hid (show As.Short (As.reg x).2.l from HSH.out.reg)
  simp only [List.getElem?_toArray,List.getElem?_cons_zero,List.getElem?_cons_succ] at c1
  replace hb1:=Lib.hid (show As.Bx F _ w gx (w1.setCell ⟨w.heap.size,1,none⟩ (.int .i64 ((As.reg x).1:Nat))) (As.reg x).2 #[.int .i64 op,.int .i64 ((As.reg x).1:Nat),.int .i64 0,.int .i64 0,.int .i64 0] from by simpa using hb1.out)
  have b0:=hb1.out.bk.cell 0
  have b1:=hb1.out.bk.cell 1
  have b2:=hb1.out.bk.cell 2
  have b3:=hb1.out.bk.cell 3
  have b4:=hb1.out.bk.cell 4
  simp only [List.getElem?_toArray,List.getElem?_cons_zero,List.getElem?_cons_succ] at b0 b1 b2 b3 b4
  clear hg1
  go_wp2_with fail
  obtain ⟨W1,hW1⟩:∃ W1,w1.setCell ⟨w.heap.size,1,none⟩ (.int .i64 ((As.reg x).1:Nat)) = W1:=⟨_,rfl⟩
  rw [hW1] at hb1 ⊢
  have HB1:=Lib.hid hb1.out
  clear hW1 hb1 c1 f1 b0 b1 b2 b3 b4
  go_at_call 213
  refine (ato_any HB1.out.m HB1.out.tb HSH1.out ⟨op,((As.reg x).1),0,0,0⟩ (by simp only [As.reg_len,As.num_len];have:=HL.out;omega)).mono ?_
  rintro e wz ⟨rfl,hto⟩
  go_wp2_with fail
  first | go_end0 | refine bodyPost_ret (results_none rfl _ _ _) rfl ?_
  exact ⟨rfl,by rw [HP.out];exact HB1.out.done hto⟩
 ·by_cases ho:op≤14
  ·have HP:=Lib.hid (show As.inst op x = As.code ⟨op,((As.reg x).1),((As.reg (As.num (As.reg x).2).2).1),0,(As.num (As.reg x).2).1⟩ (As.reg (As.num (As.reg x).2).2).2 from by unfold As.inst;rw [if_neg (by rw [hs];decide),if_neg (by rw [hs];decide),if_neg (by rw [hs];decide),if_neg (by rw [hs];decide),if_neg (by rw [hs];decide),if_neg (by rw [hs];decide),if_neg (by rw [hs];decide),if_pos ho])
   rw [hs] at CS
   clear h hT hsh hl hs
   go_enter Tryz.func138,Tryz.ntmps138
   go_wp2_with (go_at_call 210;refine (CS.out _).mono ?_;rintro e w' ⟨rfl,rfl⟩)
   obtain ⟨W0,hW0⟩:∃ W0,w.alloc (.cells #[.int .i64 op,.int .i64 0,.int .i64 0,.int .i64 0,.int .i64 0] 174) = W0:=⟨_,rfl⟩
   rw [hW0] at HB0 ⊢
   clear hW0
   go_at_call 211
   refine (areg_any HB0.out.m HB0.out.tb HSH.out).mono ?_
   rintro e w1 ⟨rfl,hg1⟩
   obtain ⟨c1,f1,hb1⟩:=HB0.out.step hg1 1 (.int .i64 ((As.reg x).1:Nat))
   have HSH1:=Lib.hid (show As.Short (As.reg x).2.l from HSH.out.reg)
   simp only [List.getElem?_toArray,List.getElem?_cons_zero,List.getElem?_cons_succ] at c1
   replace hb1:=Lib.hid (show As.Bx F _ w gx (w1.setCell ⟨w.heap.size,1,none⟩ (.int .i64 ((As.reg x).1:Nat))) (As.reg x).2 #[.int .i64 op,.int .i64 ((As.reg x).1:Nat),.int .i64 0,.int .i64 0,.int .i64 0] from by simpa using hb1.out)
   clear hg1
   go_wp2_with fail
   obtain ⟨W1,hW1⟩:∃ W1,w1.setCell ⟨w.heap.size,1,none⟩ (.int .i64 ((As.reg x).1:Nat)) = W1:=⟨_,rfl⟩
   rw [hW1] at hb1 ⊢
   have HB1:=Lib.hid hb1.out
   clear hW1 hb1 c1 f1
   go_at_call 212
   refine (anum_any HB1.out.m HB1.out.tb HSH1.out).mono ?_
   rintro e w2 ⟨rfl,hg2⟩
   obtain ⟨c2,f2,hb2⟩:=HB1.out.step hg2 4 (.int .i64 (As.num (As.reg x).2).1)
   have HSH2:=Lib.hid (show As.Short (As.num (As.reg x).2).2.l from HSH1.out.num)
   simp only [List.getElem?_toArray,List.getElem?_cons_zero,List.getElem?_cons_succ] at c2
   replace hb2:=Lib.hid (show As.Bx F _ w gx (w2.setCell ⟨w.heap.size,4,none⟩ (.int .i64 (As.num (As.reg x).2).1)) (As.num (As.reg x).2).2 #[.int .i64 op,.int .i64 ((As.reg x).1:Nat),.int .i64 0,.int .i64 0,.int .i64 (As.num (As.reg x).2).1] from by simpa using hb2.out)
   clear hg2
   go_wp2_with fail
   obtain ⟨W2,hW2⟩:∃ W2,w2.setCell ⟨w.heap.size,4,none⟩ (.int .i64 (As.num (As.reg x).2).1) = W2:=⟨_,rfl⟩
   rw [hW2] at hb2 ⊢
   have HB2:=Lib.hid hb2.out
   clear hW2 hb2 c2 f2
   go_at_call 211
   refine (areg_any HB2.out.m HB2.out.tb HSH2.out).mono ?_
   rintro e w3 ⟨rfl,hg3⟩
   obtain ⟨c3,f3,hb3⟩:=HB2.out.step hg3 2 (.int .i64 ((As.reg (As.num (As.reg x).2).2).1:Nat))
   have HSH3:=Lib.hid (show As.Short (As.reg (As.num (As.reg x).2).2).2.l from HSH2.out.reg)
   simp only [List.getElem?_toArray,List.getElem?_cons_zero,List.getElem?_cons_succ] at c3
   replace hb3:=Lib.hid (show As.Bx F _ w gx (w3.setCell ⟨w.heap.size,2,none⟩ (.int .i64 ((As.reg (As.num (As.reg x).2).2).1:Nat))) (As.reg (As.num (As.reg x).2).2).2 #[.int .i64 op,.int .i64 ((As.reg x).1:Nat),.int .i64 ((As.reg (As.num (As.reg x).2).2).1:Nat),.int .i64 0,.int .i64 (As.num (As.reg x).2).1] from by simpa using hb3.out)
   have b0:=hb3.out.bk.cell 0
   have b1:=hb3.out.bk.cell 1
   have b2:=hb3.out.bk.cell 2
   have b3:=hb3.out.bk.cell 3
   have b4:=hb3.out.bk.cell 4
   simp only [List.getElem?_toArray,List.getElem?_cons_zero,List.getElem?_cons_succ] at b0 b1 b2 b3 b4
   clear hg3
   go_wp2_with fail
   obtain ⟨W3,hW3⟩:∃ W3,w3.setCell ⟨w.heap.size,2,none⟩ (.int .i64 ((As.reg (As.num (As.reg x).2).2).1:Nat)) = W3:=⟨_,rfl⟩
   rw [hW3] at hb3 ⊢
   have HB3:=Lib.hid hb3.out
   clear hW3 hb3 c3 f3 b0 b1 b2 b3 b4
   go_at_call 214
   refine (acode_any HB3.out.m ⟨op,((As.reg x).1),((As.reg (As.num (As.reg x).2).2).1),0,(As.num (As.reg x).2).1⟩ (by simp only [As.reg_len,As.num_len];have:=HL.out;omega)).mono ?_
   rintro e wz ⟨rfl,hto⟩
   go_wp2_with fail
   first | go_end0 | refine bodyPost_ret (results_none rfl _ _ _) rfl ?_
   exact ⟨rfl,by rw [HP.out];exact HB3.out.done hto⟩
  ·have HP:=Lib.hid (show As.inst op x = As.code ⟨op,((As.reg x).1),((As.reg (As.reg x).2).1),0,(As.num (As.reg (As.reg x).2).2).1⟩ (As.num (As.reg (As.reg x).2).2).2 from by unfold As.inst;rw [if_neg (by rw [hs];decide),if_neg (by rw [hs];decide),if_neg (by rw [hs];decide),if_neg (by rw [hs];decide),if_neg (by rw [hs];decide),if_neg (by rw [hs];decide),if_neg (by rw [hs];decide),if_neg ho])
   rw [hs] at CS
   clear h hT hsh hl hs
   go_enter Tryz.func138,Tryz.ntmps138
   go_wp2_with (go_at_call 210;refine (CS.out _).mono ?_;rintro e w' ⟨rfl,rfl⟩)
   obtain ⟨W0,hW0⟩:∃ W0,w.alloc (.cells #[.int .i64 op,.int .i64 0,.int .i64 0,.int .i64 0,.int .i64 0] 174) = W0:=⟨_,rfl⟩
   rw [hW0] at HB0 ⊢
   clear hW0
   go_at_call 211
   refine (areg_any HB0.out.m HB0.out.tb HSH.out).mono ?_
   rintro e w1 ⟨rfl,hg1⟩
   obtain ⟨c1,f1,hb1⟩:=HB0.out.step hg1 1 (.int .i64 ((As.reg x).1:Nat))
   have HSH1:=Lib.hid (show As.Short (As.reg x).2.l from HSH.out.reg)
   simp only [List.getElem?_toArray,List.getElem?_cons_zero,List.getElem?_cons_succ] at c1
   replace hb1:=Lib.hid (show As.Bx F _ w gx (w1.setCell ⟨w.heap.size,1,none⟩ (.int .i64 ((As.reg x).1:Nat))) (As.reg x).2 #[.int .i64 op,.int .i64 ((As.reg x).1:Nat),.int .i64 0,.int .i64 0,.int .i64 0] from by simpa using hb1.out)
   clear hg1
   go_wp2_with fail
   obtain ⟨W1,hW1⟩:∃ W1,w1.setCell ⟨w.heap.size,1,none⟩ (.int .i64 ((As.reg x).1:Nat)) = W1:=⟨_,rfl⟩
   rw [hW1] at hb1 ⊢
   have HB1:=Lib.hid hb1.out
   clear hW1 hb1 c1 f1
   go_at_call 211
   refine (areg_any HB1.out.m HB1.out.tb HSH1.out).mono ?_
   rintro e w2 ⟨rfl,hg2⟩
   obtain ⟨c2,f2,hb2⟩:=HB1.out.step hg2 2 (.int .i64 ((As.reg (As.reg x).2).1:Nat))
   have HSH2:=Lib.hid (show As.Short (As.reg (As.reg x).2).2.l from HSH1.out.reg)
   simp only [List.getElem?_toArray,List.getElem?_cons_zero,List.getElem?_cons_succ] at c2
   replace hb2:=Lib.hid (show As.Bx F _ w gx (w2.setCell ⟨w.heap.size,2,none⟩ (.int .i64 ((As.reg (As.reg x).2).1:Nat))) (As.reg (As.reg x).2).2 #[.int .i64 op,.int .i64 ((As.reg x).1:Nat),.int .i64 ((As.reg (As.reg x).2).1:Nat),.int .i64 0,.int .i64 0] from by simpa using hb2.out)
   clear hg2
   go_wp2_with fail
   obtain ⟨W2,hW2⟩:∃ W2,w2.setCell ⟨w.heap.size,2,none⟩ (.int .i64 ((As.reg (As.reg x).2).1:Nat)) = W2:=⟨_,rfl⟩
   rw [hW2] at hb2 ⊢
   have HB2:=Lib.hid hb2.out
   clear hW2 hb2 c2 f2
   go_at_call 212
   refine (anum_any HB2.out.m HB2.out.tb HSH2.out).mono ?_
   rintro e w3 ⟨rfl,hg3⟩
   obtain ⟨c3,f3,hb3⟩:=HB2.out.step hg3 4 (.int .i64 (As.num (As.reg (As.reg x).2).2).1)
   have HSH3:=Lib.hid (show As.Short (As.num (As.reg (As.reg x).2).2).2.l from HSH2.out.num)
   simp only [List.getElem?_toArray,List.getElem?_cons_zero,List.getElem?_cons_succ] at c3
   replace hb3:=Lib.hid (show As.Bx F _ w gx (w3.setCell ⟨w.heap.size,4,none⟩ (.int .i64 (As.num (As.reg (As.reg x).2).2).1)) (As.num (As.reg (As.reg x).2).2).2 #[.int .i64 op,.int .i64 ((As.reg x).1:Nat),.int .i64 ((As.reg (As.reg x).2).1:Nat),.int .i64 0,.int .i64 (As.num (As.reg (As.reg x).2).2).1] from by simpa using hb3.out)
   have b0:=hb3.out.bk.cell 0
   have b1:=hb3.out.bk.cell 1
   have b2:=hb3.out.bk.cell 2
   have b3:=hb3.out.bk.cell 3
   have b4:=hb3.out.bk.cell 4
   simp only [List.getElem?_toArray,List.getElem?_cons_zero,List.getElem?_cons_succ] at b0 b1 b2 b3 b4
   clear hg3
   go_wp2_with fail
   obtain ⟨W3,hW3⟩:∃ W3,w3.setCell ⟨w.heap.size,4,none⟩ (.int .i64 (As.num (As.reg (As.reg x).2).2).1) = W3:=⟨_,rfl⟩
   rw [hW3] at hb3 ⊢
   have HB3:=Lib.hid hb3.out
   clear hW3 hb3 c3 f3 b0 b1 b2 b3 b4
   go_at_call 214
   refine (acode_any HB3.out.m ⟨op,((As.reg x).1),((As.reg (As.reg x).2).1),0,(As.num (As.reg (As.reg x).2).2).1⟩ (by simp only [As.reg_len,As.num_len];have:=HL.out;omega)).mono ?_
   rintro e wz ⟨rfl,hto⟩
   go_wp2_with fail
   first | go_end0 | refine bodyPost_ret (results_none rfl _ _ _) rfl ?_
   exact ⟨rfl,by rw [HP.out];exact HB3.out.done hto⟩
 ·have HP:=Lib.hid (show As.inst op x = As.to ⟨op,0,((As.reg x).1),((As.reg (As.reg x).2).1),0⟩ (As.reg (As.reg x).2).2 from by unfold As.inst;rw [if_neg (by rw [hs];decide),if_neg (by rw [hs];decide),if_pos hs])
  rw [hs] at CS
  clear h hT hsh hl hs
  go_enter Tryz.func138,Tryz.ntmps138
  go_wp2_with (go_at_call 210;refine (CS.out _).mono ?_;rintro e w' ⟨rfl,rfl⟩)
  obtain ⟨W0,hW0⟩:∃ W0,w.alloc (.cells #[.int .i64 op,.int .i64 0,.int .i64 0,.int .i64 0,.int .i64 0] 174) = W0:=⟨_,rfl⟩
  rw [hW0] at HB0 ⊢
  clear hW0
  go_at_call 211
  refine (areg_any HB0.out.m HB0.out.tb HSH.out).mono ?_
  rintro e w1 ⟨rfl,hg1⟩
  obtain ⟨c1,f1,hb1⟩:=HB0.out.step hg1 2 (.int .i64 ((As.reg x).1:Nat))
  have HSH1:=Lib.hid (show As.Short (As.reg x).2.l from HSH.out.reg)
  simp only [List.getElem?_toArray,List.getElem?_cons_zero,List.getElem?_cons_succ] at c1
  replace hb1:=Lib.hid (show As.Bx F _ w gx (w1.setCell ⟨w.heap.size,2,none⟩ (.int .i64 ((As.reg x).1:Nat))) (As.reg x).2 #[.int .i64 op,.int .i64 0,.int .i64 ((As.reg x).1:Nat),.int .i64 0,.int .i64 0] from by simpa using hb1.out)
  clear hg1
  go_wp2_with fail
  obtain ⟨W1,hW1⟩:∃ W1,w1.setCell ⟨w.heap.size,2,none⟩ (.int .i64 ((As.reg x).1:Nat)) = W1:=⟨_,rfl⟩
  rw [hW1] at hb1 ⊢
  have HB1:=Lib.hid hb1.out
  clear hW1 hb1 c1 f1
  go_at_call 211
  refine (areg_any HB1.out.m HB1.out.tb HSH1.out).mono ?_
  rintro e w2 ⟨rfl,hg2⟩
  obtain ⟨c2,f2,hb2⟩:=HB1.out.step hg2 3 (.int .i64 ((As.reg (As.reg x).2).1:Nat))
  have HSH2:=Lib.hid (show As.Short (As.reg (As.reg x).2).2.l from HSH1.out.reg)
  simp only [List.getElem?_toArray,List.getElem?_cons_zero,List.getElem?_cons_succ] at c2
  replace hb2:=Lib.hid (show As.Bx F _ w gx (w2.setCell ⟨w.heap.size,3,none⟩ (.int .i64 ((As.reg (As.reg x).2).1:Nat))) (As.reg (As.reg x).2).2 #[.int .i64 op,.int .i64 0,.int .i64 ((As.reg x).1:Nat),.int .i64 ((As.reg (As.reg x).2).1:Nat),.int .i64 0] from by simpa using hb2.out)
  have b0:=hb2.out.bk.cell 0
  have b1:=hb2.out.bk.cell 1
  have b2:=hb2.out.bk.cell 2
  have b3:=hb2.out.bk.cell 3
  have b4:=hb2.out.bk.cell 4
  simp only [List.getElem?_toArray,List.getElem?_cons_zero,List.getElem?_cons_succ] at b0 b1 b2 b3 b4
  clear hg2
  go_wp2_with fail
  obtain ⟨W2,hW2⟩:∃ W2,w2.setCell ⟨w.heap.size,3,none⟩ (.int .i64 ((As.reg (As.reg x).2).1:Nat)) = W2:=⟨_,rfl⟩
  rw [hW2] at hb2 ⊢
  have HB2:=Lib.hid hb2.out
  clear hW2 hb2 c2 f2 b0 b1 b2 b3 b4
  go_at_call 213
  refine (ato_any HB2.out.m HB2.out.tb HSH2.out ⟨op,0,((As.reg x).1),((As.reg (As.reg x).2).1),0⟩ (by simp only [As.reg_len,As.num_len];have:=HL.out;omega)).mono ?_
  rintro e wz ⟨rfl,hto⟩
  go_wp2_with fail
  first | go_end0 | refine bodyPost_ret (results_none rfl _ _ _) rfl ?_
  exact ⟨rfl,by rw [HP.out];exact HB2.out.done hto⟩
 ·have HP:=Lib.hid (show As.inst op x = As.code ⟨op,0,((As.reg (As.num (As.reg x).2).2).1),((As.reg x).1),(As.num (As.reg x).2).1⟩ (As.reg (As.num (As.reg x).2).2).2 from by unfold As.inst;rw [if_neg (by rw [hs];decide),if_neg (by rw [hs];decide),if_neg (by rw [hs];decide),if_pos hs])
  rw [hs] at CS
  clear h hT hsh hl hs
  go_enter Tryz.func138,Tryz.ntmps138
  go_wp2_with (go_at_call 210;refine (CS.out _).mono ?_;rintro e w' ⟨rfl,rfl⟩)
  obtain ⟨W0,hW0⟩:∃ W0,w.alloc (.cells #[.int .i64 op,.int .i64 0,.int .i64 0,.int .i64 0,.int .i64 0] 174) = W0:=⟨_,rfl⟩
  rw [hW0] at HB0 ⊢
  clear hW0
  go_at_call 211
  refine (areg_any HB0.out.m HB0.out.tb HSH.out).mono ?_
  rintro e w1 ⟨rfl,hg1⟩
  obtain ⟨c1,f1,hb1⟩:=HB0.out.step hg1 3 (.int .i64 ((As.reg x).1:Nat))
  have HSH1:=Lib.hid (show As.Short (As.reg x).2.l from HSH.out.reg)
  simp only [List.getElem?_toArray,List.getElem?_cons_zero,List.getElem?_cons_succ] at c1
  replace hb1:=Lib.hid (show As.Bx F _ w gx (w1.setCell ⟨w.heap.size,3,none⟩ (.int .i64 ((As.reg x).1:Nat))) (As.reg x).2 #[.int .i64 op,.int .i64 0,.int .i64 0,.int .i64 ((As.reg x).1:Nat),.int .i64 0] from by simpa using hb1.out)
  clear hg1
  go_wp2_with fail
  obtain ⟨W1,hW1⟩:∃ W1,w1.setCell ⟨w.heap.size,3,none⟩ (.int .i64 ((As.reg x).1:Nat)) = W1:=⟨_,rfl⟩
  rw [hW1] at hb1 ⊢
  have HB1:=Lib.hid hb1.out
  clear hW1 hb1 c1 f1
  go_at_call 212
  refine (anum_any HB1.out.m HB1.out.tb HSH1.out).mono ?_
  rintro e w2 ⟨rfl,hg2⟩
  obtain ⟨c2,f2,hb2⟩:=HB1.out.step hg2 4 (.int .i64 (As.num (As.reg x).2).1)
  have HSH2:=Lib.hid (show As.Short (As.num (As.reg x).2).2.l from HSH1.out.num)
  simp only [List.getElem?_toArray,List.getElem?_cons_zero,List.getElem?_cons_succ] at c2
  replace hb2:=Lib.hid (show As.Bx F _ w gx (w2.setCell ⟨w.heap.size,4,none⟩ (.int .i64 (As.num (As.reg x).2).1)) (As.num (As.reg x).2).2 #[.int .i64 op,.int .i64 0,.int .i64 0,.int .i64 ((As.reg x).1:Nat),.int .i64 (As.num (As.reg x).2).1] from by simpa using hb2.out)
  clear hg2
  go_wp2_with fail
  obtain ⟨W2,hW2⟩:∃ W2,w2.setCell ⟨w.heap.size,4,none⟩ (.int .i64 (As.num (As.reg x).2).1) = W2:=⟨_,rfl⟩
  rw [hW2] at hb2 ⊢
  have HB2:=Lib.hid hb2.out
  clear hW2 hb2 c2 f2
  go_at_call 211
  refine (areg_any HB2.out.m HB2.out.tb HSH2.out).mono ?_
  rintro e w3 ⟨rfl,hg3⟩
  obtain ⟨c3,f3,hb3⟩:=HB2.out.step hg3 2 (.int .i64 ((As.reg (As.num (As.reg x).2).2).1:Nat))
  have HSH3:=Lib.hid (show As.Short (As.reg (As.num (As.reg x).2).2).2.l from HSH2.out.reg)
  simp only [List.getElem?_toArray,List.getElem?_cons_zero,List.getElem?_cons_succ] at c3
  replace hb3:=Lib.hid (show As.Bx F _ w gx (w3.setCell ⟨w.heap.size,2,none⟩ (.int .i64 ((As.reg (As.num (As.reg x).2).2).1:Nat))) (As.reg (As.num (As.reg x).2).2).2 #[.int .i64 op,.int .i64 0,.int .i64 ((As.reg (As.num (As.reg x).2).2).1:Nat),.int .i64 ((As.reg x).1:Nat),.int .i64 (As.num (As.reg x).2).1] from by simpa using hb3.out)
  have b0:=hb3.out.bk.cell 0
  have b1:=hb3.out.bk.cell 1
  have b2:=hb3.out.bk.cell 2
  have b3:=hb3.out.bk.cell 3
  have b4:=hb3.out.bk.cell 4
  simp only [List.getElem?_toArray,List.getElem?_cons_zero,List.getElem?_cons_succ] at b0 b1 b2 b3 b4
  clear hg3
  go_wp2_with fail
  obtain ⟨W3,hW3⟩:∃ W3,w3.setCell ⟨w.heap.size,2,none⟩ (.int .i64 ((As.reg (As.num (As.reg x).2).2).1:Nat)) = W3:=⟨_,rfl⟩
  rw [hW3] at hb3 ⊢
  have HB3:=Lib.hid hb3.out
  clear hW3 hb3 c3 f3 b0 b1 b2 b3 b4
  go_at_call 214
  refine (acode_any HB3.out.m ⟨op,0,((As.reg (As.num (As.reg x).2).2).1),((As.reg x).1),(As.num (As.reg x).2).1⟩ (by simp only [As.reg_len,As.num_len];have:=HL.out;omega)).mono ?_
  rintro e wz ⟨rfl,hto⟩
  go_wp2_with fail
  first | go_end0 | refine bodyPost_ret (results_none rfl _ _ _) rfl ?_
  exact ⟨rfl,by rw [HP.out];exact HB3.out.done hto⟩
 ·by_cases ho:op≤14
  ·have HP:=Lib.hid (show As.inst op x = As.code ⟨op,((As.reg x).1),((As.reg (As.num (As.reg x).2).2).1),0,(As.num (As.reg x).2).1⟩ (As.reg (As.num (As.reg x).2).2).2 from by unfold As.inst;rw [if_neg (by rw [hs];decide),if_neg (by rw [hs];decide),if_neg (by rw [hs];decide),if_neg (by rw [hs];decide),if_neg (by rw [hs];decide),if_neg (by rw [hs];decide),if_neg (by rw [hs];decide),if_pos ho])
   rw [hs] at CS
   clear h hT hsh hl hs
   go_enter Tryz.func138,Tryz.ntmps138
   go_wp2_with (go_at_call 210;refine (CS.out _).mono ?_;rintro e w' ⟨rfl,rfl⟩)
   obtain ⟨W0,hW0⟩:∃ W0,w.alloc (.cells #[.int .i64 op,.int .i64 0,.int .i64 0,.int .i64 0,.int .i64 0] 174) = W0:=⟨_,rfl⟩
   rw [hW0] at HB0 ⊢
   clear hW0
   go_at_call 211
   refine (areg_any HB0.out.m HB0.out.tb HSH.out).mono ?_
   rintro e w1 ⟨rfl,hg1⟩
   obtain ⟨c1,f1,hb1⟩:=HB0.out.step hg1 1 (.int .i64 ((As.reg x).1:Nat))
   have HSH1:=Lib.hid (show As.Short (As.reg x).2.l from HSH.out.reg)
   simp only [List.getElem?_toArray,List.getElem?_cons_zero,List.getElem?_cons_succ] at c1
   replace hb1:=Lib.hid (show As.Bx F _ w gx (w1.setCell ⟨w.heap.size,1,none⟩ (.int .i64 ((As.reg x).1:Nat))) (As.reg x).2 #[.int .i64 op,.int .i64 ((As.reg x).1:Nat),.int .i64 0,.int .i64 0,.int .i64 0] from by simpa using hb1.out)
   clear hg1
   go_wp2_with fail
   obtain ⟨W1,hW1⟩:∃ W1,w1.setCell ⟨w.heap.size,1,none⟩ (.int .i64 ((As.reg x).1:Nat)) = W1:=⟨_,rfl⟩
   rw [hW1] at hb1 ⊢
   have HB1:=Lib.hid hb1.out
   clear hW1 hb1 c1 f1
   go_at_call 212
   refine (anum_any HB1.out.m HB1.out.tb HSH1.out).mono ?_
   rintro e w2 ⟨rfl,hg2⟩
   obtain ⟨c2,f2,hb2⟩:=HB1.out.step hg2 4 (.int .i64 (As.num (As.reg x).2).1)
   have HSH2:=Lib.hid (show As.Short (As.num (As.reg x).2).2.l from HSH1.out.num)
   simp only [List.getElem?_toArray,List.getElem?_cons_zero,List.getElem?_cons_succ] at c2
   replace hb2:=Lib.hid (show As.Bx F _ w gx (w2.setCell ⟨w.heap.size,4,none⟩ (.int .i64 (As.num (As.reg x).2).1)) (As.num (As.reg x).2).2 #[.int .i64 op,.int .i64 ((As.reg x).1:Nat),.int .i64 0,.int .i64 0,.int .i64 (As.num (As.reg x).2).1] from by simpa using hb2.out)
   clear hg2
   go_wp2_with fail
   obtain ⟨W2,hW2⟩:∃ W2,w2.setCell ⟨w.heap.size,4,none⟩ (.int .i64 (As.num (As.reg x).2).1) = W2:=⟨_,rfl⟩
   rw [hW2] at hb2 ⊢
   have HB2:=Lib.hid hb2.out
   clear hW2 hb2 c2 f2
   go_at_call 211
   refine (areg_any HB2.out.m HB2.out.tb HSH2.out).mono ?_
   rintro e w3 ⟨rfl,hg3⟩
   obtain ⟨c3,f3,hb3⟩:=HB2.out.step hg3 2 (.int .i64 ((As.reg (As.num (As.reg x).2).2).1:Nat))
   have HSH3:=Lib.hid (show As.Short (As.reg (As.num (As.reg x).2).2).2.l from HSH2.out.reg)
   simp only [List.getElem?_toArray,List.getElem?_cons_zero,List.getElem?_cons_succ] at c3
   replace hb3:=Lib.hid (show As.Bx F _ w gx (w3.setCell ⟨w.heap.size,2,none⟩ (.int .i64 ((As.reg (As.num (As.reg x).2).2).1:Nat))) (As.reg (As.num (As.reg x).2).2).2 #[.int .i64 op,.int .i64 ((As.reg x).1:Nat),.int .i64 ((As.reg (As.num (As.reg x).2).2).1:Nat),.int .i64 0,.int .i64 (As.num (As.reg x).2).1] from by simpa using hb3.out)
   have b0:=hb3.out.bk.cell 0
   have b1:=hb3.out.bk.cell 1
   have b2:=hb3.out.bk.cell 2
   have b3:=hb3.out.bk.cell 3
   have b4:=hb3.out.bk.cell 4
   simp only [List.getElem?_toArray,List.getElem?_cons_zero,List.getElem?_cons_succ] at b0 b1 b2 b3 b4
   clear hg3
   go_wp2_with fail
   obtain ⟨W3,hW3⟩:∃ W3,w3.setCell ⟨w.heap.size,2,none⟩ (.int .i64 ((As.reg (As.num (As.reg x).2).2).1:Nat)) = W3:=⟨_,rfl⟩
   rw [hW3] at hb3 ⊢
   have HB3:=Lib.hid hb3.out
   clear hW3 hb3 c3 f3 b0 b1 b2 b3 b4
   go_at_call 214
   refine (acode_any HB3.out.m ⟨op,((As.reg x).1),((As.reg (As.num (As.reg x).2).2).1),0,(As.num (As.reg x).2).1⟩ (by simp only [As.reg_len,As.num_len];have:=HL.out;omega)).mono ?_
   rintro e wz ⟨rfl,hto⟩
   go_wp2_with fail
   first | go_end0 | refine bodyPost_ret (results_none rfl _ _ _) rfl ?_
   exact ⟨rfl,by rw [HP.out];exact HB3.out.done hto⟩
  ·have HP:=Lib.hid (show As.inst op x = As.code ⟨op,((As.reg x).1),((As.reg (As.reg x).2).1),0,(As.num (As.reg (As.reg x).2).2).1⟩ (As.num (As.reg (As.reg x).2).2).2 from by unfold As.inst;rw [if_neg (by rw [hs];decide),if_neg (by rw [hs];decide),if_neg (by rw [hs];decide),if_neg (by rw [hs];decide),if_neg (by rw [hs];decide),if_neg (by rw [hs];decide),if_neg (by rw [hs];decide),if_neg ho])
   rw [hs] at CS
   clear h hT hsh hl hs
   go_enter Tryz.func138,Tryz.ntmps138
   go_wp2_with (go_at_call 210;refine (CS.out _).mono ?_;rintro e w' ⟨rfl,rfl⟩)
   obtain ⟨W0,hW0⟩:∃ W0,w.alloc (.cells #[.int .i64 op,.int .i64 0,.int .i64 0,.int .i64 0,.int .i64 0] 174) = W0:=⟨_,rfl⟩
   rw [hW0] at HB0 ⊢
   clear hW0
   go_at_call 211
   refine (areg_any HB0.out.m HB0.out.tb HSH.out).mono ?_
   rintro e w1 ⟨rfl,hg1⟩
   obtain ⟨c1,f1,hb1⟩:=HB0.out.step hg1 1 (.int .i64 ((As.reg x).1:Nat))
   have HSH1:=Lib.hid (show As.Short (As.reg x).2.l from HSH.out.reg)
   simp only [List.getElem?_toArray,List.getElem?_cons_zero,List.getElem?_cons_succ] at c1
   replace hb1:=Lib.hid (show As.Bx F _ w gx (w1.setCell ⟨w.heap.size,1,none⟩ (.int .i64 ((As.reg x).1:Nat))) (As.reg x).2 #[.int .i64 op,.int .i64 ((As.reg x).1:Nat),.int .i64 0,.int .i64 0,.int .i64 0] from by simpa using hb1.out)
   clear hg1
   go_wp2_with fail
   obtain ⟨W1,hW1⟩:∃ W1,w1.setCell ⟨w.heap.size,1,none⟩ (.int .i64 ((As.reg x).1:Nat)) = W1:=⟨_,rfl⟩
   rw [hW1] at hb1 ⊢
   have HB1:=Lib.hid hb1.out
   clear hW1 hb1 c1 f1
   go_at_call 211
   refine (areg_any HB1.out.m HB1.out.tb HSH1.out).mono ?_
   rintro e w2 ⟨rfl,hg2⟩
   obtain ⟨c2,f2,hb2⟩:=HB1.out.step hg2 2 (.int .i64 ((As.reg (As.reg x).2).1:Nat))
   have HSH2:=Lib.hid (show As.Short (As.reg (As.reg x).2).2.l from HSH1.out.reg)
   simp only [List.getElem?_toArray,List.getElem?_cons_zero,List.getElem?_cons_succ] at c2
   replace hb2:=Lib.hid (show As.Bx F _ w gx (w2.setCell ⟨w.heap.size,2,none⟩ (.int .i64 ((As.reg (As.reg x).2).1:Nat))) (As.reg (As.reg x).2).2 #[.int .i64 op,.int .i64 ((As.reg x).1:Nat),.int .i64 ((As.reg (As.reg x).2).1:Nat),.int .i64 0,.int .i64 0] from by simpa using hb2.out)
   clear hg2
   go_wp2_with fail
   obtain ⟨W2,hW2⟩:∃ W2,w2.setCell ⟨w.heap.size,2,none⟩ (.int .i64 ((As.reg (As.reg x).2).1:Nat)) = W2:=⟨_,rfl⟩
   rw [hW2] at hb2 ⊢
   have HB2:=Lib.hid hb2.out
   clear hW2 hb2 c2 f2
   go_at_call 212
   refine (anum_any HB2.out.m HB2.out.tb HSH2.out).mono ?_
   rintro e w3 ⟨rfl,hg3⟩
   obtain ⟨c3,f3,hb3⟩:=HB2.out.step hg3 4 (.int .i64 (As.num (As.reg (As.reg x).2).2).1)
   have HSH3:=Lib.hid (show As.Short (As.num (As.reg (As.reg x).2).2).2.l from HSH2.out.num)
   simp only [List.getElem?_toArray,List.getElem?_cons_zero,List.getElem?_cons_succ] at c3
   replace hb3:=Lib.hid (show As.Bx F _ w gx (w3.setCell ⟨w.heap.size,4,none⟩ (.int .i64 (As.num (As.reg (As.reg x).2).2).1)) (As.num (As.reg (As.reg x).2).2).2 #[.int .i64 op,.int .i64 ((As.reg x).1:Nat),.int .i64 ((As.reg (As.reg x).2).1:Nat),.int .i64 0,.int .i64 (As.num (As.reg (As.reg x).2).2).1] from by simpa using hb3.out)
   have b0:=hb3.out.bk.cell 0
   have b1:=hb3.out.bk.cell 1
   have b2:=hb3.out.bk.cell 2
   have b3:=hb3.out.bk.cell 3
   have b4:=hb3.out.bk.cell 4
   simp only [List.getElem?_toArray,List.getElem?_cons_zero,List.getElem?_cons_succ] at b0 b1 b2 b3 b4
   clear hg3
   go_wp2_with fail
   obtain ⟨W3,hW3⟩:∃ W3,w3.setCell ⟨w.heap.size,4,none⟩ (.int .i64 (As.num (As.reg (As.reg x).2).2).1) = W3:=⟨_,rfl⟩
   rw [hW3] at hb3 ⊢
   have HB3:=Lib.hid hb3.out
   clear hW3 hb3 c3 f3 b0 b1 b2 b3 b4
   go_at_call 214
   refine (acode_any HB3.out.m ⟨op,((As.reg x).1),((As.reg (As.reg x).2).1),0,(As.num (As.reg (As.reg x).2).2).1⟩ (by simp only [As.reg_len,As.num_len];have:=HL.out;omega)).mono ?_
   rintro e wz ⟨rfl,hto⟩
   go_wp2_with fail
   first | go_end0 | refine bodyPost_ret (results_none rfl _ _ _) rfl ?_
   exact ⟨rfl,by rw [HP.out];exact HB3.out.done hto⟩
 ·have HP:=Lib.hid (show As.inst op x = As.code ⟨op,((As.reg x).1),((As.reg (As.reg x).2).1),((As.reg (As.reg (As.reg x).2).2).1),0⟩ (As.reg (As.reg (As.reg x).2).2).2 from by unfold As.inst;rw [if_neg (by rw [hs];decide),if_neg (by rw [hs];decide),if_neg (by rw [hs];decide),if_neg (by rw [hs];decide),if_pos hs])
  rw [hs] at CS
  clear h hT hsh hl hs
  go_enter Tryz.func138,Tryz.ntmps138
  go_wp2_with (go_at_call 210;refine (CS.out _).mono ?_;rintro e w' ⟨rfl,rfl⟩)
  obtain ⟨W0,hW0⟩:∃ W0,w.alloc (.cells #[.int .i64 op,.int .i64 0,.int .i64 0,.int .i64 0,.int .i64 0] 174) = W0:=⟨_,rfl⟩
  rw [hW0] at HB0 ⊢
  clear hW0
  go_at_call 211
  refine (areg_any HB0.out.m HB0.out.tb HSH.out).mono ?_
  rintro e w1 ⟨rfl,hg1⟩
  obtain ⟨c1,f1,hb1⟩:=HB0.out.step hg1 1 (.int .i64 ((As.reg x).1:Nat))
  have HSH1:=Lib.hid (show As.Short (As.reg x).2.l from HSH.out.reg)
  simp only [List.getElem?_toArray,List.getElem?_cons_zero,List.getElem?_cons_succ] at c1
  replace hb1:=Lib.hid (show As.Bx F _ w gx (w1.setCell ⟨w.heap.size,1,none⟩ (.int .i64 ((As.reg x).1:Nat))) (As.reg x).2 #[.int .i64 op,.int .i64 ((As.reg x).1:Nat),.int .i64 0,.int .i64 0,.int .i64 0] from by simpa using hb1.out)
  clear hg1
  go_wp2_with fail
  obtain ⟨W1,hW1⟩:∃ W1,w1.setCell ⟨w.heap.size,1,none⟩ (.int .i64 ((As.reg x).1:Nat)) = W1:=⟨_,rfl⟩
  rw [hW1] at hb1 ⊢
  have HB1:=Lib.hid hb1.out
  clear hW1 hb1 c1 f1
  go_at_call 211
  refine (areg_any HB1.out.m HB1.out.tb HSH1.out).mono ?_
  rintro e w2 ⟨rfl,hg2⟩
  obtain ⟨c2,f2,hb2⟩:=HB1.out.step hg2 2 (.int .i64 ((As.reg (As.reg x).2).1:Nat))
  have HSH2:=Lib.hid (show As.Short (As.reg (As.reg x).2).2.l from HSH1.out.reg)
  simp only [List.getElem?_toArray,List.getElem?_cons_zero,List.getElem?_cons_succ] at c2
  replace hb2:=Lib.hid (show As.Bx F _ w gx (w2.setCell ⟨w.heap.size,2,none⟩ (.int .i64 ((As.reg (As.reg x).2).1:Nat))) (As.reg (As.reg x).2).2 #[.int .i64 op,.int .i64 ((As.reg x).1:Nat),.int .i64 ((As.reg (As.reg x).2).1:Nat),.int .i64 0,.int .i64 0] from by simpa using hb2.out)
  clear hg2
  go_wp2_with fail
  obtain ⟨W2,hW2⟩:∃ W2,w2.setCell ⟨w.heap.size,2,none⟩ (.int .i64 ((As.reg (As.reg x).2).1:Nat)) = W2:=⟨_,rfl⟩
  rw [hW2] at hb2 ⊢
  have HB2:=Lib.hid hb2.out
  clear hW2 hb2 c2 f2
  go_at_call 211
  refine (areg_any HB2.out.m HB2.out.tb HSH2.out).mono ?_
  rintro e w3 ⟨rfl,hg3⟩
  obtain ⟨c3,f3,hb3⟩:=HB2.out.step hg3 3 (.int .i64 ((As.reg (As.reg (As.reg x).2).2).1:Nat))
  have HSH3:=Lib.hid (show As.Short (As.reg (As.reg (As.reg x).2).2).2.l from HSH2.out.reg)
  simp only [List.getElem?_toArray,List.getElem?_cons_zero,List.getElem?_cons_succ] at c3
  replace hb3:=Lib.hid (show As.Bx F _ w gx (w3.setCell ⟨w.heap.size,3,none⟩ (.int .i64 ((As.reg (As.reg (As.reg x).2).2).1:Nat))) (As.reg (As.reg (As.reg x).2).2).2 #[.int .i64 op,.int .i64 ((As.reg x).1:Nat),.int .i64 ((As.reg (As.reg x).2).1:Nat),.int .i64 ((As.reg (As.reg (As.reg x).2).2).1:Nat),.int .i64 0] from by simpa using hb3.out)
  have b0:=hb3.out.bk.cell 0
  have b1:=hb3.out.bk.cell 1
  have b2:=hb3.out.bk.cell 2
  have b3:=hb3.out.bk.cell 3
  have b4:=hb3.out.bk.cell 4
  simp only [List.getElem?_toArray,List.getElem?_cons_zero,List.getElem?_cons_succ] at b0 b1 b2 b3 b4
  clear hg3
  go_wp2_with fail
  obtain ⟨W3,hW3⟩:∃ W3,w3.setCell ⟨w.heap.size,3,none⟩ (.int .i64 ((As.reg (As.reg (As.reg x).2).2).1:Nat)) = W3:=⟨_,rfl⟩
  rw [hW3] at hb3 ⊢
  have HB3:=Lib.hid hb3.out
  clear hW3 hb3 c3 f3 b0 b1 b2 b3 b4
  go_at_call 214
  refine (acode_any HB3.out.m ⟨op,((As.reg x).1),((As.reg (As.reg x).2).1),((As.reg (As.reg (As.reg x).2).2).1),0⟩ (by simp only [As.reg_len,As.num_len];have:=HL.out;omega)).mono ?_
  rintro e wz ⟨rfl,hto⟩
  go_wp2_with fail
  first | go_end0 | refine bodyPost_ret (results_none rfl _ _ _) rfl ?_
  exact ⟨rfl,by rw [HP.out];exact HB3.out.done hto⟩
 ·have HP:=Lib.hid (show As.inst op x = As.code ⟨op,0,0,0,0⟩ x from by unfold As.inst;rw [if_neg (by rw [hs];decide),if_neg (by rw [hs];decide),if_neg (by rw [hs];decide),if_neg (by rw [hs];decide),if_neg (by rw [hs];decide),if_neg (by rw [hs];decide),if_pos hs])
  rw [hs] at CS
  clear h hT hsh hl hs
  have b0:=HB0.out.bk.cell 0
  have b1:=HB0.out.bk.cell 1
  have b2:=HB0.out.bk.cell 2
  have b3:=HB0.out.bk.cell 3
  have b4:=HB0.out.bk.cell 4
  simp only [List.getElem?_toArray,List.getElem?_cons_zero,List.getElem?_cons_succ] at b0 b1 b2 b3 b4
  go_enter Tryz.func138,Tryz.ntmps138
  go_wp2_with (go_at_call 210;refine (CS.out _).mono ?_;rintro e w' ⟨rfl,rfl⟩)
  obtain ⟨W0,hW0⟩:∃ W0,w.alloc (.cells #[.int .i64 op,.int .i64 0,.int .i64 0,.int .i64 0,.int .i64 0] 174) = W0:=⟨_,rfl⟩
  rw [hW0] at HB0 ⊢
  clear hW0
  go_at_call 214
  refine (acode_any HB0.out.m ⟨op,0,0,0,0⟩ (by have:=HL.out;omega)).mono ?_
  rintro e wz ⟨rfl,hto⟩
  go_wp2_with fail
  first | go_end0 | refine bodyPost_ret (results_none rfl _ _ _) rfl ?_
  exact ⟨rfl,by rw [HP.out];exact HB0.out.done hto⟩
 ·have HP:=Lib.hid (show As.inst op x = As.code ⟨op,0,0,0,(As.num x).1⟩ (As.num x).2 from by unfold As.inst;rw [if_neg (by rw [hs];decide),if_neg (by rw [hs];decide),if_neg (by rw [hs];decide),if_neg (by rw [hs];decide),if_neg (by rw [hs];decide),if_pos hs])
  rw [hs] at CS
  clear h hT hsh hl hs
  go_enter Tryz.func138,Tryz.ntmps138
  go_wp2_with (go_at_call 210;refine (CS.out _).mono ?_;rintro e w' ⟨rfl,rfl⟩)
  obtain ⟨W0,hW0⟩:∃ W0,w.alloc (.cells #[.int .i64 op,.int .i64 0,.int .i64 0,.int .i64 0,.int .i64 0] 174) = W0:=⟨_,rfl⟩
  rw [hW0] at HB0 ⊢
  clear hW0
  go_at_call 212
  refine (anum_any HB0.out.m HB0.out.tb HSH.out).mono ?_
  rintro e w1 ⟨rfl,hg1⟩
  obtain ⟨c1,f1,hb1⟩:=HB0.out.step hg1 4 (.int .i64 (As.num x).1)
  have HSH1:=Lib.hid (show As.Short (As.num x).2.l from HSH.out.num)
  simp only [List.getElem?_toArray,List.getElem?_cons_zero,List.getElem?_cons_succ] at c1
  replace hb1:=Lib.hid (show As.Bx F _ w gx (w1.setCell ⟨w.heap.size,4,none⟩ (.int .i64 (As.num x).1)) (As.num x).2 #[.int .i64 op,.int .i64 0,.int .i64 0,.int .i64 0,.int .i64 (As.num x).1] from by simpa using hb1.out)
  have b0:=hb1.out.bk.cell 0
  have b1:=hb1.out.bk.cell 1
  have b2:=hb1.out.bk.cell 2
  have b3:=hb1.out.bk.cell 3
  have b4:=hb1.out.bk.cell 4
  simp only [List.getElem?_toArray,List.getElem?_cons_zero,List.getElem?_cons_succ] at b0 b1 b2 b3 b4
  clear hg1
  go_wp2_with fail
  obtain ⟨W1,hW1⟩:∃ W1,w1.setCell ⟨w.heap.size,4,none⟩ (.int .i64 (As.num x).1) = W1:=⟨_,rfl⟩
  rw [hW1] at hb1 ⊢
  have HB1:=Lib.hid hb1.out
  clear hW1 hb1 c1 f1 b0 b1 b2 b3 b4
  go_at_call 214
  refine (acode_any HB1.out.m ⟨op,0,0,0,(As.num x).1⟩ (by simp only [As.reg_len,As.num_len];have:=HL.out;omega)).mono ?_
  rintro e wz ⟨rfl,hto⟩
  go_wp2_with fail
  first | go_end0 | refine bodyPost_ret (results_none rfl _ _ _) rfl ?_
  exact ⟨rfl,by rw [HP.out];exact HB1.out.done hto⟩
structure As.At (F:Nat→Prop) (w:World) (gx:Nat) (W:World) (x:As.L):Prop where
 m:As.Mk F W gx x
 tb:As.Tb F W
 sh:As.Short x.l
 fr:Fr (fun k=>k = gx) w W
theorem As.At.start {F:Nat→Prop} {w:World} {gx:Nat} {x:As.L} (h:As.Mk F w gx x) (hT:As.Tb F w) (hsh:As.Short x.l):As.At F w gx w x:=⟨h,hT,hsh,Fr.refl _ _⟩
theorem As.At.go {F:Nat→Prop} {w W w':World} {gx:Nat} {x y:As.L} (a:As.At F w gx W x) (g:As.Go F W gx y w') (hs:As.Short y.l):As.At F w gx w' y:=⟨g.1,a.tb.go a.m.gx g.2,hs,a.fr.trans g.2 (fun _ e=>.inl e)⟩
theorem As.At.to {F:Nat→Prop} {w W w':World} {gx:Nat} {x y:As.L} (a:As.At F w gx W x) (t:As.To F W gx y w'):As.To F w gx y w':=t.after ⟨a.fr.mono (fun k e=>e ▸ a.m.gx),fun k hk=>.inl hk⟩
theorem As.num_range (x:As.L):-2147483648≤(As.num x).1∧(As.num x).1≤4294967295:=by
 unfold As.num
 dsimp only
 unfold L6.number
 split
 ·have:=((As.next x).1.getD 1 0).toNat_lt
  dsimp only
  omega
 ·split
  ·rename_i h
   simp only [Bool.and_eq_true,decide_eq_true_eq] at h
   exact h.2
  ·decide
def As.OptPost (F:Nat→Prop) (w:World) (gx:Nat) (r:Option As.L) (e:Ending) (w':World):Prop:=
 match r with
 | none=>e = .returned (.bool false)∧w = w'
 | some y=>e = .returned (.bool true)∧As.To F w gx y w'
theorem As.Ps.app {R:Value→List UInt8→Prop} {qs:List As.P} {ds:List Value} (h1:As.Ps R qs ds):∀ {ps:List As.P} {cs:List Value},As.Ps R ps cs→As.Ps R (ps ++ qs) (cs ++ ds)
 | [],cs,e=>by have e:cs = []:=e;subst e;exact h1
 | _ :: _,_,⟨vb',r,e,g1,g2⟩=>by subst e;exact ⟨vb',_,by rw [List.append_assoc],g1,As.Ps.app h1 g2⟩
theorem As.Mk.puts {F:Nat→Prop} {W:World} {gx:Nat} {x:As.L} (h:As.Mk F W gx x) (qs:List As.P) :
  ∃ vl vp cs,Bk W gx 250 #[vl,.bool x.ok,vp]∧W.ownsRow 0 176 10 vp x.p.length cs ∧
   ∀ Wa ds v' w1,Below W.heap.size W Wa→As.Ps (fun u b=>As.Rb F Wa u b∧As.Hi gx u) qs ds→w1.ownsRow 0 176 10 v' (x.p.length+qs.length) (cs ++ ds)→Wa.grownBy w1 vp.ownBlock→(∀ k,v'.ownBlock = some k→vp.ownBlock = some k ∨ Wa.heap.size≤k) →
    w1.cell? ⟨gx,2,none⟩ = some vp∧w1.frozen? ⟨gx,2,none⟩ = false∧Hid (As.To F W gx ⟨x.l,x.ok,x.p ++ qs⟩ (w1.setCell ⟨gx,2,none⟩ v')):=by
 obtain ⟨vl,vp,cs,h1,h2,h3,h4,h5⟩:=h.obj
 refine ⟨vl,vp,cs,h1,h3,fun Wa ds v' w1 hb hbb ho hg hv=>?_⟩
 have h1a:=h1.kept hb
 have h3a:=own_kept h3 hb
 have hgx1:Bk w1 gx 250 _:=(hg.block gx h1a.lt (fun e=>own_bk_ne h3a h1a (by decide) e.symm)).trans h1a
 have hs:=But.setCell w1 gx 2 v'
 have f1:Fr F W Wa:=Fr.of_below hb
 have f2:Fr F Wa w1:=Fr.of_grown hg h5
 have f3:Fr F w1 (w1.setCell ⟨gx,2,none⟩ v'):=Fr.of_but hs h.gx
 have f23:Fr F Wa (w1.setCell ⟨gx,2,none⟩ v'):=f2.trans f3 (fun k hk=>.inl hk)
 have hG:∀ g,g < Wa.heap.size→(F g ∨ v'.ownBlock = some g)→F g:=fun g hl hg'=>hg'.elim id (fun e=>(hv g e).elim (h5 g) (fun e=>absurd hl (by omega)))
 refine ⟨hgx1.cell 2,hgx1.free 2,Lib.hid ⟨fun k=>F k ∨ v'.ownBlock = some k,⟨⟨vl,v',cs ++ ds,hgx1.set 2 _,?_,?_,?_,fun k hk=>.inr hk⟩,.inl h.gx,fun k hk=>?_⟩,?_,fun k hk=>?_⟩⟩
 ·exact (h2.fr f1 (G:=F) (fun _ _ h=>h)).fr f23 hG
 ·show World.ownsRow _ 0 _ 10 _ (x.p ++ qs).length _
  rw [List.length_append]
  exact own_but ho hgx1 (by decide) hs
 ·exact As.Ps.app (hbb.map fun u l hu=>⟨hu.1.fr f23 hG,hu.2⟩) (h4.map fun u l hu=>⟨(hu.1.fr f1 (G:=F) (fun _ _ h=>h)).fr f23 hG,hu.2⟩)
 ·have e:(w1.setCell ⟨gx,2,none⟩ v').heap.size = w1.heap.size:=by simp [World.setCell]
  rw [e]
  rcases hk with hk | hk
  ·exact Nat.lt_of_lt_of_le (h.lt k hk) (Nat.le_trans hb.size hg.size)
  ·exact own_lt' ho hk
 ·exact f1.trans f23 (fun k hk=>.inl hk)
 ·rcases hk with hk | hk
  ·exact .inl hk
  ·rcases hv k hk with e | e
   ·exact .inl (h5 k e)
   ·exact .inr (Nat.le_trans hb.size e)
theorem As.Mk.room2 {F:Nat→Prop} {W:World} {gx:Nat} {x:As.L} (h:As.Mk F W gx x) (p q:As.P) (hp:p.bytes = []) (hq:q.bytes = []) :
  ∃ A c cs,W.cell? ⟨gx,2,none⟩ = some (.slice A x.p.length c)∧W.frozen? ⟨gx,2,none⟩ = false∧(∀ W',Below W.heap.size W W'→W'.cell? ⟨gx,2,none⟩ = some (.slice A x.p.length c)) ∧
   (W.alloc (.cells (As.cellsP p (.slice none 0 0) ++ As.cellsP q (.slice none 0 0)).toArray 176)).ownsRow 0 176 10 (.slice A x.p.length c) x.p.length cs ∧
   Src Tryz.prog 10 171 (.slice (some ⟨W.heap.size,0,none⟩) 2 2) 2 (As.cellsP p (.slice none 0 0) ++ As.cellsP q (.slice none 0 0)) (W.alloc (.cells (As.cellsP p (.slice none 0 0) ++ As.cellsP q (.slice none 0 0)).toArray 176)) ∧
   ∀ v' w',w'.ownsRow 0 176 10 v' (x.p.length+2) (cs ++ (As.cellsP p (.slice none 0 0) ++ As.cellsP q (.slice none 0 0)))→(W.alloc (.cells (As.cellsP p (.slice none 0 0) ++ As.cellsP q (.slice none 0 0)).toArray 176)).grownBy w' (Value.slice A x.p.length c).ownBlock→F8.Where (Value.slice A x.p.length c) v' (W.alloc (.cells (As.cellsP p (.slice none 0 0) ++ As.cellsP q (.slice none 0 0)).toArray 176)).heap.size →
    (∃ A' c',v' = .slice A' (x.p.length+2) c')∧w'.cell? ⟨gx,2,none⟩ = some (.slice A x.p.length c)∧w'.frozen? ⟨gx,2,none⟩ = false∧Hid (As.To F W gx (As.put q (As.put p x)) (w'.setCell ⟨gx,2,none⟩ v')):=by
 obtain ⟨vl,vp,cs,h1,h3,hput⟩:=h.puts [p,q]
 obtain ⟨A,c,rfl⟩:=(Rd.of_own h3).form
 have hal:Below W.heap.size W (W.alloc (.cells (As.cellsP p (.slice none 0 0) ++ As.cellsP q (.slice none 0 0)).toArray 176)):=(Below.refl _ _).alloc (Nat.le_refl _) _
 have h1s:∀ u ∈ As.cellsP p (.slice none 0 0) ++ As.cellsP q (.slice none 0 0),u.oneCell' = true:=by
  intro u hu
  rcases List.mem_append.1 hu with hu | hu
  ·exact As.cells_one rfl u hu
  ·exact As.cells_one rfl u hu
 refine ⟨A,c,cs,h1.cell 2,h1.free 2,fun W' hb'=>(h1.kept hb').cell 2,own_kept h3 hal,?_,fun v' w' ho hg hv=>?_⟩
 ·have hn:Rd (W.alloc (.cells (As.cellsP p (.slice none 0 0) ++ As.cellsP q (.slice none 0 0)).toArray 176)) 10 (.slice (some ⟨W.heap.size,0,none⟩) 2 2) 2 (As.cellsP p (.slice none 0 0) ++ As.cellsP q (.slice none 0 0)):=by
   have hbk:=Bk.fresh W 176 (As.cellsP p (.slice none 0 0) ++ As.cellsP q (.slice none 0 0)).toArray
   refine ⟨rfl,some ⟨W.heap.size,0,none⟩,2,rfl,Nat.le_refl _,by unfold maxLen;omega,fun _=>⟨_,0,rfl,hbk.lt,fun j u hu=>?_⟩⟩
   rw [Nat.zero_add,hbk.cell j]
   simpa using hu
  exact Rd.src aprt hn h1s
 ·have hps:As.Ps (fun u b=>As.Rb F (W.alloc (.cells (As.cellsP p (.slice none 0 0) ++ As.cellsP q (.slice none 0 0)).toArray 176)) u b∧As.Hi gx u) [p,q] (As.cellsP p (.slice none 0 0) ++ As.cellsP q (.slice none 0 0)):=
   ⟨.slice none 0 0,_,rfl,by rw [hp];exact ⟨As.Rb.nil _ _,As.Hi.nil _⟩,.slice none 0 0,[],by simp,by rw [hq];exact ⟨As.Rb.nil _ _,As.Hi.nil _⟩,rfl⟩
  obtain ⟨d1,d2,d3⟩:=hput _ _ v' w' hal hps ho hg hv
  refine ⟨(Rd.of_own ho).form,d1,d2,?_⟩
  have e:As.put q (As.put p x) = ⟨x.l,x.ok,x.p ++ [p,q]⟩:=by simp [As.put]
  rw [e]
  exact d3
set_option maxRecDepth 100000 in
set_option maxHeartbeats 4000000 in
theorem apseudo_li {F:Nat→Prop} {w:World} {gx:Nat} {x:As.L} (h:As.Mk F w gx x) (hT:As.Tb F w) (hsh:As.Short x.l) (hl:x.p.length≤800000000) :
  Calls Tryz.prog 139 #[.pointer (some ⟨gx,0,none⟩),.string ⟨#[108,105]⟩] w (As.OptPost F w gx (As.pseudo As.tLi x)):=by
 have HP:=Lib.hid (show As.pseudo As.tLi x = some (As.number ((As.reg x).1:Nat) (As.num (As.reg x).2).1 (As.num (As.reg x).2).2) from by unfold As.pseudo;rw [if_pos rfl])
 have HA0:=Lib.hid (As.At.start h hT hsh)
 have HL:=Lib.hid hl
 have HR:=Lib.hid (fun y=>As.num_range y)
 clear h hT hsh hl
 rw [HP.out]
 clear HP
 go_enter Tryz.func139,Tryz.ntmps139
 go_wp2_with fail
 go_at_call 211
 refine (areg_any HA0.out.m HA0.out.tb HA0.out.sh).mono ?_
 rintro e w1 ⟨rfl,g1⟩
 have HA1:=Lib.hid (HA0.out.go g1 HA0.out.sh.reg)
 clear g1
 go_wp2_with fail
 go_at_call 212
 refine (anum_any HA1.out.m HA1.out.tb HA1.out.sh).mono ?_
 rintro e w2 ⟨rfl,g2⟩
 have HA2:=Lib.hid (HA1.out.go g2 HA1.out.sh.num)
 clear g2
 go_wp2_with fail
 go_at_call 215
 refine (anumber_any HA2.out.m _ _ (HR.out _).1 (HR.out _).2 (by simp only [As.reg_len,As.num_len,As.name_len];have:=HL.out;omega)).mono ?_
 rintro e wz ⟨rfl,hto⟩
 go_wp2_with fail
 go_ret
 exact ⟨rfl,HA2.out.to hto⟩
set_option maxRecDepth 100000 in
set_option maxHeartbeats 4000000 in
theorem apseudo_la {F:Nat→Prop} {w:World} {gx:Nat} {x:As.L} (h:As.Mk F w gx x) (hT:As.Tb F w) (hsh:As.Short x.l) (hl:x.p.length≤800000000) :
  Calls Tryz.prog 139 #[.pointer (some ⟨gx,0,none⟩),.string ⟨#[108,97]⟩] w (As.OptPost F w gx (As.pseudo As.tLa x)):=by
 have HP:=Lib.hid (show As.pseudo As.tLa x = some (As.put ⟨true,⟨18,(As.reg x).1,(As.reg x).1,0,0⟩,[],3,(As.name (As.reg x).2).1,[]⟩ (As.put ⟨true,⟨0,(As.reg x).1,0,0,0⟩,[],2,(As.name (As.reg x).2).1,[]⟩ (As.name (As.reg x).2).2)) from by unfold As.pseudo;rw [if_neg (by decide),if_pos rfl])
 have HA0:=Lib.hid (As.At.start h hT hsh)
 have HL:=Lib.hid hl
 have HR:=Lib.hid (fun y=>As.num_range y)
 clear h hT hsh hl
 rw [HP.out]
 clear HP
 go_enter Tryz.func139,Tryz.ntmps139
 go_wp2_with fail
 go_at_call 211
 refine (areg_any HA0.out.m HA0.out.tb HA0.out.sh).mono ?_
 rintro e w1 ⟨rfl,g1⟩
 have HA1:=Lib.hid (HA0.out.go g1 HA0.out.sh.reg)
 clear g1
 go_wp2_with fail
 go_at_call 216
 refine (aname_any HA1.out.m HA1.out.tb HA1.out.sh).mono ?_
 rintro e w2 ⟨rfl,g2⟩
 have HA2:=Lib.hid (HA1.out.go g2 HA1.out.sh.name)
 clear g2
 have HL2:(As.name (As.reg x).2).2.p.length≤800000000:=by simp only [As.reg_len,As.num_len,As.name_len];exact HL.out
 generalize (As.name (As.reg x).2).2 = x2 at *
 generalize (As.name (As.reg x).2).1 = nm at *
 generalize (As.reg x).1 = d at *
 obtain ⟨A,c,cs,k0,f0,hkk,ho1,hs1,hput⟩:=HA2.out.m.room2 ⟨true,⟨0,d,0,0,0⟩,[],2,nm,[]⟩ ⟨true,⟨18,d,d,0,0⟩,[],3,nm,[]⟩ rfl rfl
 simp only [As.cellsP,List.cons_append,List.nil_append] at ho1 hs1 hput
 have HO1:=Lib.hid ho1
 have HS1:=Lib.hid hs1
 have HPUT:=Lib.hid hput
 have HLA:=Lib.hid (show (x2.p.length+2) * 112≤140737488355328 by omega)
 have HLB:=Lib.hid (show x2.p.length+2≤maxLen by unfold maxLen;omega)
 have CELLS:=0
 clear CELLS ho1 hs1 hput HL2
 clear hkk
 go_wp2_with (at_builtin;refine wpList_appendRB rfl _ _ _ _ rfl aprt (by decide) 0 (.slice A x2.p.length c) rfl x2.p.length cs HO1.out _ rfl 2 [.bool true,.int .i64 0,.int .i64 (d:Int),.int .i64 0,.int .i64 0,.int .i64 0,.slice none 0 0,.int .i64 2,.string ⟨nm.toArray⟩,.string ⟨#[]⟩,.bool true,.int .i64 18,.int .i64 (d:Int),.int .i64 (d:Int),.int .i64 0,.int .i64 0,.slice none 0 0,.int .i64 3,.string ⟨nm.toArray⟩,.string ⟨#[]⟩] HS1.out HLA.out HLB.out (Nat.zero_le _) ?_;intro v3 w3 ho3 hb3 hg3 hv3;obtain ⟨⟨A3,c3,rfl⟩,k3,f3,HM⟩:=HPUT.out v3 w3 ho3 hg3 hv3)
 go_ret
 exact ⟨rfl,HA2.out.to HM.out⟩
set_option maxRecDepth 100000 in
set_option maxHeartbeats 4000000 in
theorem apseudo_mv {F:Nat→Prop} {w:World} {gx:Nat} {x:As.L} (h:As.Mk F w gx x) (hT:As.Tb F w) (hsh:As.Short x.l) (hl:x.p.length≤800000000) :
  Calls Tryz.prog 139 #[.pointer (some ⟨gx,0,none⟩),.string ⟨#[109,118]⟩] w (As.OptPost F w gx (As.pseudo As.tMv x)):=by
 have HP:=Lib.hid (show As.pseudo As.tMv x = some (As.code ⟨18,((As.reg x).1:Nat),((As.reg (As.reg x).2).1:Nat),0,0⟩ (As.reg (As.reg x).2).2) from by unfold As.pseudo;rw [if_neg (by decide),if_neg (by decide),if_pos rfl])
 have HA0:=Lib.hid (As.At.start h hT hsh)
 have HL:=Lib.hid hl
 have HR:=Lib.hid (fun y=>As.num_range y)
 clear h hT hsh hl
 rw [HP.out]
 clear HP
 go_enter Tryz.func139,Tryz.ntmps139
 go_wp2_with fail
 go_at_call 211
 refine (areg_any HA0.out.m HA0.out.tb HA0.out.sh).mono ?_
 rintro e w1 ⟨rfl,g1⟩
 have HA1:=Lib.hid (HA0.out.go g1 HA0.out.sh.reg)
 clear g1
 go_wp2_with fail
 go_at_call 211
 refine (areg_any HA1.out.m HA1.out.tb HA1.out.sh).mono ?_
 rintro e w2 ⟨rfl,g2⟩
 have HA2:=Lib.hid (HA1.out.go g2 HA1.out.sh.reg)
 clear g2
 go_wp2_with fail
 go_at_call 214
 refine (acode_any HA2.out.m ⟨18,((As.reg x).1:Nat),((As.reg (As.reg x).2).1:Nat),0,0⟩ (by simp only [As.reg_len,As.num_len,As.name_len];have:=HL.out;omega)).mono ?_
 rintro e wz ⟨rfl,hto⟩
 go_wp2_with fail
 go_ret
 exact ⟨rfl,HA2.out.to hto⟩
set_option maxRecDepth 100000 in
set_option maxHeartbeats 4000000 in
theorem apseudo_nop {F:Nat→Prop} {w:World} {gx:Nat} {x:As.L} (h:As.Mk F w gx x) (hT:As.Tb F w) (hsh:As.Short x.l) (hl:x.p.length≤800000000) :
  Calls Tryz.prog 139 #[.pointer (some ⟨gx,0,none⟩),.string ⟨#[110,111,112]⟩] w (As.OptPost F w gx (As.pseudo As.tNop x)):=by
 have HP:=Lib.hid (show As.pseudo As.tNop x = some (As.code ⟨18,0,0,0,0⟩ x) from by unfold As.pseudo;rw [if_neg (by decide),if_neg (by decide),if_neg (by decide),if_pos rfl])
 have HA0:=Lib.hid (As.At.start h hT hsh)
 have HL:=Lib.hid hl
 have HR:=Lib.hid (fun y=>As.num_range y)
 clear h hT hsh hl
 rw [HP.out]
 clear HP
 go_enter Tryz.func139,Tryz.ntmps139
 go_wp2_with fail
 go_at_call 214
 refine (acode_any HA0.out.m ⟨18,0,0,0,0⟩ (by have:=HL.out;omega)).mono ?_
 rintro e wz ⟨rfl,hto⟩
 go_wp2_with fail
 go_ret
 exact ⟨rfl,HA0.out.to hto⟩
set_option maxRecDepth 100000 in
set_option maxHeartbeats 4000000 in
theorem apseudo_ret {F:Nat→Prop} {w:World} {gx:Nat} {x:As.L} (h:As.Mk F w gx x) (hT:As.Tb F w) (hsh:As.Short x.l) (hl:x.p.length≤800000000) :
  Calls Tryz.prog 139 #[.pointer (some ⟨gx,0,none⟩),.string ⟨#[114,101,116]⟩] w (As.OptPost F w gx (As.pseudo As.tRet x)):=by
 have HP:=Lib.hid (show As.pseudo As.tRet x = some (As.code ⟨3,0,1,0,0⟩ x) from by unfold As.pseudo;rw [if_neg (by decide),if_neg (by decide),if_neg (by decide),if_neg (by decide),if_pos rfl])
 have HA0:=Lib.hid (As.At.start h hT hsh)
 have HL:=Lib.hid hl
 have HR:=Lib.hid (fun y=>As.num_range y)
 clear h hT hsh hl
 rw [HP.out]
 clear HP
 go_enter Tryz.func139,Tryz.ntmps139
 go_wp2_with fail
 go_at_call 214
 refine (acode_any HA0.out.m ⟨3,0,1,0,0⟩ (by have:=HL.out;omega)).mono ?_
 rintro e wz ⟨rfl,hto⟩
 go_wp2_with fail
 go_ret
 exact ⟨rfl,HA0.out.to hto⟩
set_option maxRecDepth 100000 in
set_option maxHeartbeats 4000000 in
theorem apseudo_call {F:Nat→Prop} {w:World} {gx:Nat} {x:As.L} (h:As.Mk F w gx x) (hT:As.Tb F w) (hsh:As.Short x.l) (hl:x.p.length≤800000000) :
  Calls Tryz.prog 139 #[.pointer (some ⟨gx,0,none⟩),.string ⟨#[99,97,108,108]⟩] w (As.OptPost F w gx (As.pseudo As.tCall x)):=by
 have HP:=Lib.hid (show As.pseudo As.tCall x = some (As.to ⟨2,1,0,0,0⟩ x) from by unfold As.pseudo;rw [if_neg (by decide),if_neg (by decide),if_neg (by decide),if_neg (by decide),if_neg (by decide),if_pos rfl])
 have HA0:=Lib.hid (As.At.start h hT hsh)
 have HL:=Lib.hid hl
 have HR:=Lib.hid (fun y=>As.num_range y)
 clear h hT hsh hl
 rw [HP.out]
 clear HP
 go_enter Tryz.func139,Tryz.ntmps139
 go_wp2_with fail
 go_at_call 213
 refine (ato_any HA0.out.m HA0.out.tb HA0.out.sh ⟨2,1,0,0,0⟩ (by have:=HL.out;omega)).mono ?_
 rintro e wz ⟨rfl,hto⟩
 go_wp2_with fail
 go_ret
 exact ⟨rfl,HA0.out.to hto⟩
set_option maxRecDepth 100000 in
set_option maxHeartbeats 4000000 in
theorem apseudo_j {F:Nat→Prop} {w:World} {gx:Nat} {x:As.L} (h:As.Mk F w gx x) (hT:As.Tb F w) (hsh:As.Short x.l) (hl:x.p.length≤800000000) :
  Calls Tryz.prog 139 #[.pointer (some ⟨gx,0,none⟩),.string ⟨#[106]⟩] w (As.OptPost F w gx (As.pseudo As.tJ x)):=by
 have HP:=Lib.hid (show As.pseudo As.tJ x = some (As.to ⟨2,0,0,0,0⟩ x) from by unfold As.pseudo;rw [if_neg (by decide),if_neg (by decide),if_neg (by decide),if_neg (by decide),if_neg (by decide),if_neg (by decide),if_pos rfl])
 have HA0:=Lib.hid (As.At.start h hT hsh)
 have HL:=Lib.hid hl
 have HR:=Lib.hid (fun y=>As.num_range y)
 clear h hT hsh hl
 rw [HP.out]
 clear HP
 go_enter Tryz.func139,Tryz.ntmps139
 go_wp2_with fail
 go_at_call 213
 refine (ato_any HA0.out.m HA0.out.tb HA0.out.sh ⟨2,0,0,0,0⟩ (by have:=HL.out;omega)).mono ?_
 rintro e wz ⟨rfl,hto⟩
 go_wp2_with fail
 go_ret
 exact ⟨rfl,HA0.out.to hto⟩
set_option maxRecDepth 100000 in
set_option maxHeartbeats 4000000 in
theorem apseudo_not {F:Nat→Prop} {w:World} {gx:Nat} {x:As.L} (h:As.Mk F w gx x) (hT:As.Tb F w) (hsh:As.Short x.l) (hl:x.p.length≤800000000) :
  Calls Tryz.prog 139 #[.pointer (some ⟨gx,0,none⟩),.string ⟨#[110,111,116]⟩] w (As.OptPost F w gx (As.pseudo As.tNot x)):=by
 have HP:=Lib.hid (show As.pseudo As.tNot x = some (As.code ⟨21,((As.reg x).1:Nat),((As.reg (As.reg x).2).1:Nat),0,-1⟩ (As.reg (As.reg x).2).2) from by unfold As.pseudo;rw [if_neg (by decide),if_neg (by decide),if_neg (by decide),if_neg (by decide),if_neg (by decide),if_neg (by decide),if_neg (by decide),if_pos rfl])
 have HA0:=Lib.hid (As.At.start h hT hsh)
 have HL:=Lib.hid hl
 have HR:=Lib.hid (fun y=>As.num_range y)
 clear h hT hsh hl
 rw [HP.out]
 clear HP
 go_enter Tryz.func139,Tryz.ntmps139
 go_wp2_with fail
 go_at_call 211
 refine (areg_any HA0.out.m HA0.out.tb HA0.out.sh).mono ?_
 rintro e w1 ⟨rfl,g1⟩
 have HA1:=Lib.hid (HA0.out.go g1 HA0.out.sh.reg)
 clear g1
 go_wp2_with fail
 go_at_call 211
 refine (areg_any HA1.out.m HA1.out.tb HA1.out.sh).mono ?_
 rintro e w2 ⟨rfl,g2⟩
 have HA2:=Lib.hid (HA1.out.go g2 HA1.out.sh.reg)
 clear g2
 go_wp2_with fail
 go_at_call 214
 refine (acode_any HA2.out.m ⟨21,((As.reg x).1:Nat),((As.reg (As.reg x).2).1:Nat),0,-1⟩ (by simp only [As.reg_len,As.num_len,As.name_len];have:=HL.out;omega)).mono ?_
 rintro e wz ⟨rfl,hto⟩
 go_wp2_with fail
 go_ret
 exact ⟨rfl,HA2.out.to hto⟩
set_option maxRecDepth 100000 in
set_option maxHeartbeats 4000000 in
theorem apseudo_neg {F:Nat→Prop} {w:World} {gx:Nat} {x:As.L} (h:As.Mk F w gx x) (hT:As.Tb F w) (hsh:As.Short x.l) (hl:x.p.length≤800000000) :
  Calls Tryz.prog 139 #[.pointer (some ⟨gx,0,none⟩),.string ⟨#[110,101,103]⟩] w (As.OptPost F w gx (As.pseudo As.tNeg x)):=by
 have HP:=Lib.hid (show As.pseudo As.tNeg x = some (As.code ⟨28,((As.reg x).1:Nat),0,((As.reg (As.reg x).2).1:Nat),0⟩ (As.reg (As.reg x).2).2) from by unfold As.pseudo;rw [if_neg (by decide),if_neg (by decide),if_neg (by decide),if_neg (by decide),if_neg (by decide),if_neg (by decide),if_neg (by decide),if_neg (by decide),if_pos rfl])
 have HA0:=Lib.hid (As.At.start h hT hsh)
 have HL:=Lib.hid hl
 have HR:=Lib.hid (fun y=>As.num_range y)
 clear h hT hsh hl
 rw [HP.out]
 clear HP
 go_enter Tryz.func139,Tryz.ntmps139
 go_wp2_with fail
 go_at_call 211
 refine (areg_any HA0.out.m HA0.out.tb HA0.out.sh).mono ?_
 rintro e w1 ⟨rfl,g1⟩
 have HA1:=Lib.hid (HA0.out.go g1 HA0.out.sh.reg)
 clear g1
 go_wp2_with fail
 go_at_call 211
 refine (areg_any HA1.out.m HA1.out.tb HA1.out.sh).mono ?_
 rintro e w2 ⟨rfl,g2⟩
 have HA2:=Lib.hid (HA1.out.go g2 HA1.out.sh.reg)
 clear g2
 go_wp2_with fail
 go_at_call 214
 refine (acode_any HA2.out.m ⟨28,((As.reg x).1:Nat),0,((As.reg (As.reg x).2).1:Nat),0⟩ (by simp only [As.reg_len,As.num_len,As.name_len];have:=HL.out;omega)).mono ?_
 rintro e wz ⟨rfl,hto⟩
 go_wp2_with fail
 go_ret
 exact ⟨rfl,HA2.out.to hto⟩
set_option maxRecDepth 100000 in
set_option maxHeartbeats 4000000 in
theorem apseudo_beqz {F:Nat→Prop} {w:World} {gx:Nat} {x:As.L} (h:As.Mk F w gx x) (hT:As.Tb F w) (hsh:As.Short x.l) (hl:x.p.length≤800000000) :
  Calls Tryz.prog 139 #[.pointer (some ⟨gx,0,none⟩),.string ⟨#[98,101,113,122]⟩] w (As.OptPost F w gx (As.pseudo As.tBeqz x)):=by
 have HP:=Lib.hid (show As.pseudo As.tBeqz x = some (As.to ⟨4,0,((As.reg x).1:Nat),0,0⟩ (As.reg x).2) from by unfold As.pseudo;rw [if_neg (by decide),if_neg (by decide),if_neg (by decide),if_neg (by decide),if_neg (by decide),if_neg (by decide),if_neg (by decide),if_neg (by decide),if_neg (by decide),if_pos rfl])
 have HA0:=Lib.hid (As.At.start h hT hsh)
 have HL:=Lib.hid hl
 have HR:=Lib.hid (fun y=>As.num_range y)
 clear h hT hsh hl
 rw [HP.out]
 clear HP
 go_enter Tryz.func139,Tryz.ntmps139
 go_wp2_with fail
 go_at_call 211
 refine (areg_any HA0.out.m HA0.out.tb HA0.out.sh).mono ?_
 rintro e w1 ⟨rfl,g1⟩
 have HA1:=Lib.hid (HA0.out.go g1 HA0.out.sh.reg)
 clear g1
 go_wp2_with fail
 go_at_call 213
 refine (ato_any HA1.out.m HA1.out.tb HA1.out.sh ⟨4,0,((As.reg x).1:Nat),0,0⟩ (by simp only [As.reg_len,As.num_len,As.name_len];have:=HL.out;omega)).mono ?_
 rintro e wz ⟨rfl,hto⟩
 go_wp2_with fail
 go_ret
 exact ⟨rfl,HA1.out.to hto⟩
set_option maxRecDepth 100000 in
set_option maxHeartbeats 4000000 in
theorem apseudo_bnez {F:Nat→Prop} {w:World} {gx:Nat} {x:As.L} (h:As.Mk F w gx x) (hT:As.Tb F w) (hsh:As.Short x.l) (hl:x.p.length≤800000000) :
  Calls Tryz.prog 139 #[.pointer (some ⟨gx,0,none⟩),.string ⟨#[98,110,101,122]⟩] w (As.OptPost F w gx (As.pseudo As.tBnez x)):=by
 have HP:=Lib.hid (show As.pseudo As.tBnez x = some (As.to ⟨5,0,((As.reg x).1:Nat),0,0⟩ (As.reg x).2) from by unfold As.pseudo;rw [if_neg (by decide),if_neg (by decide),if_neg (by decide),if_neg (by decide),if_neg (by decide),if_neg (by decide),if_neg (by decide),if_neg (by decide),if_neg (by decide),if_neg (by decide),if_pos rfl])
 have HA0:=Lib.hid (As.At.start h hT hsh)
 have HL:=Lib.hid hl
 have HR:=Lib.hid (fun y=>As.num_range y)
 clear h hT hsh hl
 rw [HP.out]
 clear HP
 go_enter Tryz.func139,Tryz.ntmps139
 go_wp2_with fail
 go_at_call 211
 refine (areg_any HA0.out.m HA0.out.tb HA0.out.sh).mono ?_
 rintro e w1 ⟨rfl,g1⟩
 have HA1:=Lib.hid (HA0.out.go g1 HA0.out.sh.reg)
 clear g1
 go_wp2_with fail
 go_at_call 213
 refine (ato_any HA1.out.m HA1.out.tb HA1.out.sh ⟨5,0,((As.reg x).1:Nat),0,0⟩ (by simp only [As.reg_len,As.num_len,As.name_len];have:=HL.out;omega)).mono ?_
 rintro e wz ⟨rfl,hto⟩
 go_wp2_with fail
 go_ret
 exact ⟨rfl,HA1.out.to hto⟩
set_option maxRecDepth 100000 in
set_option maxHeartbeats 4000000 in
theorem apseudo_none {F:Nat→Prop} {w:World} {gx:Nat} {x:As.L} (s:List UInt8) (hs:As.pseudo s x = none) :
  Calls Tryz.prog 139 #[.pointer (some ⟨gx,0,none⟩),.string ⟨s.toArray⟩] w (As.OptPost F w gx none):=by
 have n0:s ≠ As.tLi:=fun e=>by subst e;exact absurd hs (by unfold As.pseudo;rw [if_pos rfl];exact Option.some_ne_none _)
 have n1:s ≠ As.tLa:=fun e=>by subst e;exact absurd hs (by unfold As.pseudo;rw [if_neg (by decide),if_pos rfl];exact Option.some_ne_none _)
 have n2:s ≠ As.tMv:=fun e=>by subst e;exact absurd hs (by unfold As.pseudo;rw [if_neg (by decide),if_neg (by decide),if_pos rfl];exact Option.some_ne_none _)
 have n3:s ≠ As.tNop:=fun e=>by subst e;exact absurd hs (by unfold As.pseudo;rw [if_neg (by decide),if_neg (by decide),if_neg (by decide),if_pos rfl];exact Option.some_ne_none _)
 have n4:s ≠ As.tRet:=fun e=>by subst e;exact absurd hs (by unfold As.pseudo;rw [if_neg (by decide),if_neg (by decide),if_neg (by decide),if_neg (by decide),if_pos rfl];exact Option.some_ne_none _)
 have n5:s ≠ As.tCall:=fun e=>by subst e;exact absurd hs (by unfold As.pseudo;rw [if_neg (by decide),if_neg (by decide),if_neg (by decide),if_neg (by decide),if_neg (by decide),if_pos rfl];exact Option.some_ne_none _)
 have n6:s ≠ As.tJ:=fun e=>by subst e;exact absurd hs (by unfold As.pseudo;rw [if_neg (by decide),if_neg (by decide),if_neg (by decide),if_neg (by decide),if_neg (by decide),if_neg (by decide),if_pos rfl];exact Option.some_ne_none _)
 have n7:s ≠ As.tNot:=fun e=>by subst e;exact absurd hs (by unfold As.pseudo;rw [if_neg (by decide),if_neg (by decide),if_neg (by decide),if_neg (by decide),if_neg (by decide),if_neg (by decide),if_neg (by decide),if_pos rfl];exact Option.some_ne_none _)
 have n8:s ≠ As.tNeg:=fun e=>by subst e;exact absurd hs (by unfold As.pseudo;rw [if_neg (by decide),if_neg (by decide),if_neg (by decide),if_neg (by decide),if_neg (by decide),if_neg (by decide),if_neg (by decide),if_neg (by decide),if_pos rfl];exact Option.some_ne_none _)
 have n9:s ≠ As.tBeqz:=fun e=>by subst e;exact absurd hs (by unfold As.pseudo;rw [if_neg (by decide),if_neg (by decide),if_neg (by decide),if_neg (by decide),if_neg (by decide),if_neg (by decide),if_neg (by decide),if_neg (by decide),if_neg (by decide),if_pos rfl];exact Option.some_ne_none _)
 have n10:s ≠ As.tBnez:=fun e=>by subst e;exact absurd hs (by unfold As.pseudo;rw [if_neg (by decide),if_neg (by decide),if_neg (by decide),if_neg (by decide),if_neg (by decide),if_neg (by decide),if_neg (by decide),if_neg (by decide),if_neg (by decide),if_neg (by decide),if_pos rfl];exact Option.some_ne_none _)
 have a0:(s == [108,105]) = false:=(show (s == As.tLi) = false from by simpa using n0)
 have b0:(!s == [108,105]) = true:=(show (!s == As.tLi) = true from by simpa using n0)
 have a1:(s == [108,97]) = false:=(show (s == As.tLa) = false from by simpa using n1)
 have b1:(!s == [108,97]) = true:=(show (!s == As.tLa) = true from by simpa using n1)
 have a2:(s == [109,118]) = false:=(show (s == As.tMv) = false from by simpa using n2)
 have b2:(!s == [109,118]) = true:=(show (!s == As.tMv) = true from by simpa using n2)
 have a3:(s == [110,111,112]) = false:=(show (s == As.tNop) = false from by simpa using n3)
 have b3:(!s == [110,111,112]) = true:=(show (!s == As.tNop) = true from by simpa using n3)
 have a4:(s == [114,101,116]) = false:=(show (s == As.tRet) = false from by simpa using n4)
 have b4:(!s == [114,101,116]) = true:=(show (!s == As.tRet) = true from by simpa using n4)
 have a5:(s == [99,97,108,108]) = false:=(show (s == As.tCall) = false from by simpa using n5)
 have b5:(!s == [99,97,108,108]) = true:=(show (!s == As.tCall) = true from by simpa using n5)
 have a6:(s == [106]) = false:=(show (s == As.tJ) = false from by simpa using n6)
 have b6:(!s == [106]) = true:=(show (!s == As.tJ) = true from by simpa using n6)
 have a7:(s == [110,111,116]) = false:=(show (s == As.tNot) = false from by simpa using n7)
 have b7:(!s == [110,111,116]) = true:=(show (!s == As.tNot) = true from by simpa using n7)
 have a8:(s == [110,101,103]) = false:=(show (s == As.tNeg) = false from by simpa using n8)
 have b8:(!s == [110,101,103]) = true:=(show (!s == As.tNeg) = true from by simpa using n8)
 have a9:(s == [98,101,113,122]) = false:=(show (s == As.tBeqz) = false from by simpa using n9)
 have b9:(!s == [98,101,113,122]) = true:=(show (!s == As.tBeqz) = true from by simpa using n9)
 have a10:(s == [98,110,101,122]) = false:=(show (s == As.tBnez) = false from by simpa using n10)
 have b10:(!s == [98,110,101,122]) = true:=(show (!s == As.tBnez) = true from by simpa using n10)
 clear hs n0 n1 n2 n3 n4 n5 n6 n7 n8 n9 n10
 go_enter Tryz.func139,Tryz.ntmps139
 go_wp2_with fail
 go_ret
 exact ⟨rfl,rfl⟩
theorem apseudo_any {F:Nat→Prop} {w:World} {gx:Nat} {x:As.L} (h:As.Mk F w gx x) (hT:As.Tb F w) (hsh:As.Short x.l) (hl:x.p.length≤800000000) (s:List UInt8) :
  Calls Tryz.prog 139 #[.pointer (some ⟨gx,0,none⟩),.string ⟨s.toArray⟩] w (As.OptPost F w gx (As.pseudo s x)):=by
 by_cases n0:s = As.tLi
 ·subst n0;exact apseudo_li h hT hsh hl
 by_cases n1:s = As.tLa
 ·subst n1;exact apseudo_la h hT hsh hl
 by_cases n2:s = As.tMv
 ·subst n2;exact apseudo_mv h hT hsh hl
 by_cases n3:s = As.tNop
 ·subst n3;exact apseudo_nop h hT hsh hl
 by_cases n4:s = As.tRet
 ·subst n4;exact apseudo_ret h hT hsh hl
 by_cases n5:s = As.tCall
 ·subst n5;exact apseudo_call h hT hsh hl
 by_cases n6:s = As.tJ
 ·subst n6;exact apseudo_j h hT hsh hl
 by_cases n7:s = As.tNot
 ·subst n7;exact apseudo_not h hT hsh hl
 by_cases n8:s = As.tNeg
 ·subst n8;exact apseudo_neg h hT hsh hl
 by_cases n9:s = As.tBeqz
 ·subst n9;exact apseudo_beqz h hT hsh hl
 by_cases n10:s = As.tBnez
 ·subst n10;exact apseudo_bnez h hT hsh hl
 have e:As.pseudo s x = none:=by unfold As.pseudo;rw [if_neg n0,if_neg n1,if_neg n2,if_neg n3,if_neg n4,if_neg n5,if_neg n6,if_neg n7,if_neg n8,if_neg n9,if_neg n10]
 rw [e]
 exact apseudo_none s e
end Go.Proofs.YtpcpaoeajcjoiaaGreatDoor
