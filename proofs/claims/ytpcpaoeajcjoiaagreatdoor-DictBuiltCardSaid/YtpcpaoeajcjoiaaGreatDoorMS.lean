/- Texts joined, what is not reached left out. -/
import Derived.Test.YtpcpaoeajcjoiaaGreatDoorMB
import Derived.Test.YtpcpaoeajcjoiaaGreatDoorQAsPlain
import Derived.Test.YtpcpaoeajcjoiaaGreatDoorQAsParts
set_option linter.unusedVariables false
set_option linter.unusedSimpArgs false
namespace Go.Proofs.YtpcpaoeajcjoiaaGreatDoor
open Go.RowKit Kit
theorem As.and12 (n:Int) (h:Is.in64 n):Go.bits .and .i64 n 4095 = n % 4096:=by
 show IntKind.i64.wrap ((BitVec.ofInt 64 n &&& BitVec.ofInt 64 4095).toNat:Int) = _
 have h1:(BitVec.ofInt 64 4095).toNat = 2 ^ 12 - 1:=by decide
 have h2:(BitVec.ofInt 64 n).toNat = (n % 18446744073709551616).toNat:=by rw [BitVec.toNat_ofInt];rfl
 rw [BitVec.toNat_and,h1,h2,Nat.and_two_pow_sub_one_eq_mod,IntKind.wrap_i64]
 omega
theorem As.and20 (n:Int) (h:Is.in64 n):Go.bits .and .i64 n 1048575 = n % 1048576:=by
 show IntKind.i64.wrap ((BitVec.ofInt 64 n &&& BitVec.ofInt 64 1048575).toNat:Int) = _
 have h1:(BitVec.ofInt 64 1048575).toNat = 2 ^ 20 - 1:=by decide
 have h2:(BitVec.ofInt 64 n).toNat = (n % 18446744073709551616).toNat:=by rw [BitVec.toNat_ofInt];rfl
 rw [BitVec.toNat_and,h1,h2,Nat.and_two_pow_sub_one_eq_mod,IntKind.wrap_i64]
 omega
set_option maxRecDepth 20000 in
theorem ahalves_any (n:Int) (w:World) (h1:-2147483648≤n) (h2:n≤4294967295) :
  Calls Tryz.prog 141 #[.int .i64 n] w fun e w'=>e = .returned (.tuple #[.int .i64 (As.hi n),.int .i64 (As.lo n)])∧w = w':=by
 have w1:IntKind.i64.wrap (n+2048) = n+2048:=by rw [IntKind.wrap_i64];omega
 have a1:=As.and12 (n+2048) (by unfold Is.in64;omega)
 have w2:IntKind.i64.wrap ((n+2048) % 4096 - 2048) = As.lo n:=by unfold As.lo;rw [IntKind.wrap_i64];omega
 have hlo:-2048≤As.lo n∧As.lo n < 2048:=by unfold As.lo;omega
 have w3:IntKind.i64.wrap (n - As.lo n) = n - As.lo n:=by rw [IntKind.wrap_i64];omega
 have a2:=As.and20 ((n - As.lo n) / 4096) (by unfold Is.in64;omega)
 have HV:=Lib.hid (show As.hi n = (n - As.lo n) / 4096 % 1048576 from rfl)
 generalize As.lo n = lo at *
 clear h1 h2 hlo
 go_enter Tryz.func141,Tryz.ntmps141
 go_wp2_with fail
 go_ret2
 exact ⟨by rw [HV.out];rfl,rfl⟩
set_option maxRecDepth 20000 in
theorem afour_any (v:Nat) (w:World) (hv:v < 4294967296) :
  Calls Tryz.prog 142 #[.int .u32 (v:Int)] w fun e w'=>e = .returned (.slice (some ⟨w.heap.size,0,none⟩) 4 4)∧w' = w.alloc (.cells (bv (As.four v)).toArray 5):=by
 have HV:=Lib.hid (show (bv (As.four v)).toArray = #[.int .u8 ((v:Int) % 256),.int .u8 ((v:Int) / 256 % 256),.int .u8 ((v:Int) / 65536 % 256),.int .u8 ((v:Int) / 16777216)] from by
  have h4:v / 16777216 % 256 = v / 16777216:=by omega
  simp [bv,As.four,UInt8.toNat_ofNat',h4])
 go_enter Tryz.func142,Tryz.ntmps142
 go_wp2_with fail
 go_ret
 exact ⟨rfl,by rw [HV.out]⟩
theorem As.To.lift {F F3:Nat→Prop} {w W w':World} {gx:Nat} {x:As.L} (h:As.To F3 W gx x w') (hF3:∀ k,F3 k→F k ∨ w.heap.size≤k) (hf:Fr F w W):As.To F w gx x w':=by
 obtain ⟨F2,m,st⟩:=h
 exact ⟨F2,m,⟨hf.trans st.fr hF3,fun k hk=>(st.new k hk).elim (hF3 k) (fun e=>.inr (Nat.le_trans hf.size e))⟩⟩
theorem As.either_len (x:As.L):(As.either x).2.p = x.p:=by
 unfold As.either As.name As.next As.sat
 (repeat' split) <;> rfl
set_option maxRecDepth 100000 in
set_option maxHeartbeats 2000000 in
theorem ato_any {F:Nat→Prop} {w:World} {gx:Nat} {x:As.L} (h:As.Mk F w gx x) (hT:As.Tb F w) (hsh:As.Short x.l) (i:Is.Inst) (hl:x.p.length≤1000000000) :
  Calls Tryz.prog 213 #[.pointer (some ⟨gx,0,none⟩),i.v] w fun e w'=>e = .returned (.tuple #[])∧As.To F w gx (As.to i x) w':=by
 have HP0:=show As.to i x = As.put ⟨true,As.imm i (As.either x).1.1,[],if (As.either x).1.2 = [] then 0 else 1,(As.either x).1.2,[]⟩ (As.either x).2 from rfl
 have hel:(As.either x).2.p.length≤1000000000:=by rw [As.either_len];exact hl
 obtain ⟨op,rd,rs1,rs2,imm⟩:=i
 have hal:Below w.heap.size w (w.alloc (.cells #[.int .i64 op,.int .i64 rd,.int .i64 rs1,.int .i64 rs2,.int .i64 imm] 174)):=(Below.refl _ _).alloc (Nat.le_refl _) _
 have hbk:=Bk.fresh w 174 #[.int .i64 op,.int .i64 rd,.int .i64 rs1,.int .i64 rs2,.int .i64 imm]
 have hlt:=F8.tab_lt hT.1
 have hm3:=h.grow (N:=fun k=>k = w.heap.size) hal (fun k e=>by subst e;exact ⟨Nat.le_refl _,hbk.lt⟩)
 have CE:=Lib.hid (aeither_any hm3 ⟨(hT.kept hal).1,fun e=>e.elim hT.2 (fun e=>by omega)⟩ hsh)
 have HG:=Lib.hid (show w.heap.size ≠ gx from fun e=>absurd (h.lt _ h.gx) (by omega))
 have HGX:=Lib.hid h.gx
 have HAL:=Lib.hid hal
 have HBK:=Lib.hid hbk
 have HP1:=Lib.hid HP0
 clear hal hbk h hT hsh hl hm3 HP0 hlt
 generalize As.either x = E at *
 obtain ⟨⟨n,nm⟩,x1⟩:=E
 dsimp only at CE HP1 hel
 have HL1:=Lib.hid (show (x1.p.length+1) * 112≤140737488355328 by omega)
 have HL2:=Lib.hid (show x1.p.length+1≤maxLen by unfold maxLen;omega)
 clear hel
 go_enter Tryz.func213,Tryz.ntmps213
 go_wp2_with fail
 obtain ⟨W3,hW3⟩:∃ W3,w.alloc (.cells #[.int .i64 op,.int .i64 rd,.int .i64 rs1,.int .i64 rs2,.int .i64 imm] 174) = W3:=⟨_,rfl⟩
 rw [hW3] at CE HAL HBK ⊢
 clear hW3
 go_at_call 217
 refine CE.out.mono ?_
 rintro e w1 ⟨rfl,hm1,fr1⟩
 have hbk1:Bk w1 w.heap.size 174 _:=fr1.bk HBK.out HG.out
 have hbut:=But.setCell w1 w.heap.size 4 (.int .i64 n)
 have HM4:=Lib.hid (hm1.other (.inr rfl) hbk1 (by decide) (by decide) hbut)
 have hbk4:Bk (w1.setCell ⟨w.heap.size,4,none⟩ (.int .i64 n)) w.heap.size 174 #[.int .i64 op,.int .i64 rd,.int .i64 rs1,.int .i64 rs2,.int .i64 n]:=by
  have:=hbk1.set 4 (.int .i64 n)
  simpa using this
 have HFR:=Lib.hid (show Fr F w (w1.setCell ⟨w.heap.size,4,none⟩ (.int .i64 n)) from ((Fr.of_below HAL.out).trans fr1 (fun j e=>.inl (e ▸ HGX.out))).trans (Fr.of_but (F:=fun k=>k = w.heap.size) hbut rfl) (fun j e=>.inr (by omega)))
 have c4:=hbk1.cell 4
 have f4:=hbk1.free 4
 have b0:=hbk4.cell 0
 have b1:=hbk4.cell 1
 have b2:=hbk4.cell 2
 have b3:=hbk4.cell 3
 have b4:=hbk4.cell 4
 clear hm1 fr1 hbk1 hbut hbk4
 by_cases hnm:nm = []
 ·subst hnm
  have HP:=Lib.hid (show As.to ⟨op,rd,rs1,rs2,imm⟩ x = As.put ⟨true,⟨op,rd,rs1,rs2,n⟩,[],0,[],[]⟩ x1 from by rw [HP1.out,if_pos rfl];rfl)
  go_wp2_with fail
  obtain ⟨W4,hW4⟩:∃ W4,w1.setCell ⟨w.heap.size,4,none⟩ (.int .i64 n) = W4:=⟨_,rfl⟩
  rw [hW4] at HM4 HFR b0 b1 b2 b3 b4 ⊢
  clear hW4 c4 f4
  obtain ⟨A,c,cs,k0,f0,hkk,ho1,hs1,hput⟩:=HM4.out.room ⟨true,⟨op,rd,rs1,rs2,n⟩,[],0,[],[]⟩ (As.Rb.nil _ _) (As.Hi.nil _)
  dsimp only [As.cellsP] at ho1 hs1 hput
  have HO1:=Lib.hid ho1
  have HS1:=Lib.hid hs1
  have HPUT:=Lib.hid hput
  have ka:=hkk _ ((Below.refl _ _).alloc (Nat.le_refl _) (.cells #[.bool true,.int .i64 op,.int .i64 rd,.int .i64 rs1,.int .i64 rs2,.int .i64 n,.slice none 0 0,.int .i64 0,.string ⟨#[]⟩,.string ⟨#[]⟩] 176))
  clear hkk ho1 hs1 hput
  go_region_law (refine step_appendRB (by rfl) _ _ _ _ (by rfl) aprt (by decide) 0 (.slice A x1.p.length c) (by rfl) x1.p.length cs HO1.out _ (by rfl) 1 [.bool true,.int .i64 op,.int .i64 rd,.int .i64 rs1,.int .i64 rs2,.int .i64 n,.slice none 0 0,.int .i64 0,.string ⟨#[]⟩,.string ⟨#[]⟩] HS1.out HL1.out HL2.out (Nat.zero_le _) ?_;intro v3 w3 ho3 hb3 hg3 hv3;obtain ⟨⟨A3,c3,rfl⟩,k3,f3,HQ⟩:=HPUT.out v3 w3 ho3 hg3 hv3)
  all_goals go_wp2_with fail
  all_goals go_end0
  all_goals exact ⟨rfl,by rw [HP.out];exact HQ.out.lift (fun k hk=>hk.imp id (fun e=>by omega)) HFR.out⟩
 ·have hne:(nm != ([]:List UInt8)) = true:=by simpa using hnm
  have hne2:(!nm == ([]:List UInt8)) = true:=by simpa using hnm
  have he2:nm.isEmpty = false:=by simpa using hnm
  have HP:=Lib.hid (show As.to ⟨op,rd,rs1,rs2,imm⟩ x = As.put ⟨true,⟨op,rd,rs1,rs2,n⟩,[],1,nm,[]⟩ x1 from by rw [HP1.out,if_neg hnm];rfl)
  clear hnm
  go_wp2_with fail
  obtain ⟨W4,hW4⟩:∃ W4,w1.setCell ⟨w.heap.size,4,none⟩ (.int .i64 n) = W4:=⟨_,rfl⟩
  rw [hW4] at HM4 HFR b0 b1 b2 b3 b4 ⊢
  clear hW4 c4 f4
  obtain ⟨A,c,cs,k0,f0,hkk,ho1,hs1,hput⟩:=HM4.out.room ⟨true,⟨op,rd,rs1,rs2,n⟩,[],1,nm,[]⟩ (As.Rb.nil _ _) (As.Hi.nil _)
  dsimp only [As.cellsP] at ho1 hs1 hput
  have HO1:=Lib.hid ho1
  have HS1:=Lib.hid hs1
  have HPUT:=Lib.hid hput
  have ka:=hkk _ ((Below.refl _ _).alloc (Nat.le_refl _) (.cells #[.bool true,.int .i64 op,.int .i64 rd,.int .i64 rs1,.int .i64 rs2,.int .i64 n,.slice none 0 0,.int .i64 1,.string ⟨nm.toArray⟩,.string ⟨#[]⟩] 176))
  clear hkk ho1 hs1 hput
  go_region_law (refine step_appendRB (by rfl) _ _ _ _ (by rfl) aprt (by decide) 0 (.slice A x1.p.length c) (by rfl) x1.p.length cs HO1.out _ (by rfl) 1 [.bool true,.int .i64 op,.int .i64 rd,.int .i64 rs1,.int .i64 rs2,.int .i64 n,.slice none 0 0,.int .i64 1,.string ⟨nm.toArray⟩,.string ⟨#[]⟩] HS1.out HL1.out HL2.out (Nat.zero_le _) ?_;intro v3 w3 ho3 hb3 hg3 hv3;obtain ⟨⟨A3,c3,rfl⟩,k3,f3,HQ⟩:=HPUT.out v3 w3 ho3 hg3 hv3)
  all_goals go_wp2_with fail
  all_goals go_end0
  all_goals exact ⟨rfl,by rw [HP.out];exact HQ.out.lift (fun k hk=>hk.imp id (fun e=>by omega)) HFR.out⟩
end Go.Proofs.YtpcpaoeajcjoiaaGreatDoor
namespace Go.Proofs.YtpcpaoeajcjoiaaGreatDoor
theorem As.next_l (x:As.L):(As.next x).2.l = x.l.tail:=by
 unfold As.next
 split
 ·rename_i e;rw [e];rfl
 ·rename_i e;rw [e];rfl
theorem As.either_l (x:As.L):(As.either x).2.l = x.l.tail:=by
 unfold As.either
 split
 ·exact As.next_l x
 ·rename_i s t e
  split
  ·rw [e];rfl
  ·exact As.next_l x
theorem As.word1_l (x:As.L):(As.word1 x).l = x.l.tail:=As.either_l x
theorem As.byte1_l (x:As.L):(As.byte1 x).l = x.l.tail:=As.next_l x
theorem As.loop_one {f:As.L→As.L} (n:Nat) (x:As.L):As.loop f (n+1) x = if (f x).l = [] then f x else As.loop f n (f x):=rfl
theorem As.loop_enough {f:As.L→As.L} (hf:∀ x,(f x).l = x.l.tail):∀ (n:Nat) (x:As.L),x.l.length < n→As.loop f n x = As.loop f (x.l.length+1) x
 | 0,x,h=>by omega
 | n+1,x,h=>by
  rw [As.loop_one,As.loop_one]
  split
  ·rfl
  ·rename_i he
   have hl:(f x).l.length = x.l.length - 1:=by rw [hf,List.length_tail]
   have hp:0 < (f x).l.length:=List.length_pos_iff.2 he
   rw [As.loop_enough hf n (f x) (by omega),As.loop_enough hf x.l.length (f x) (by omega)]
def As.more (f:As.L→As.L) (y:As.L):As.L:=if y.l = [] then y else As.loop f (y.l.length+1) y
theorem As.loop_more {f:As.L→As.L} (hf:∀ x,(f x).l = x.l.tail) (x:As.L):As.loop f (x.l.length+1) x = As.more f (f x):=by
 unfold As.more
 rw [As.loop_one]
 split
 ·rfl
 ·rename_i he
  have hl:(f x).l.length = x.l.length - 1:=by rw [hf,List.length_tail]
  have hp:0 < (f x).l.length:=List.length_pos_iff.2 he
  rw [As.loop_enough hf x.l.length (f x) (by omega)]
theorem As.more_some {f:As.L→As.L} (hf:∀ x,(f x).l = x.l.tail) {y:As.L} (h:y.l ≠ []):As.more f y = As.more f (f y):=by
 rw [← As.loop_more hf]
 unfold As.more
 rw [if_neg h]
theorem As.more_nil {f:As.L→As.L} {y:As.L} (h:y.l = []):As.more f y = y:=by unfold As.more;rw [if_pos h]
theorem As.put_len (p:As.P) (x:As.L):(As.put p x).p.length = x.p.length+1:=by simp [As.put]
theorem As.next_len (x:As.L):(As.next x).2.p = x.p:=by unfold As.next;split <;> rfl
theorem As.bits_int (n:Int):((As.bits n:Nat):Int) = n % 4294967296:=by unfold As.bits;omega
theorem As.bits_lt (n:Int):As.bits n < 4294967296:=by unfold As.bits;omega
end Go.Proofs.YtpcpaoeajcjoiaaGreatDoor
namespace Go.Proofs.YtpcpaoeajcjoiaaGreatDoor
structure As.Ok (p:As.P):Prop where
 inst:p.inst.ok
 bytes:p.bytes.length≤2000000000
 name:p.name.length≤1000000000
 src:p.src.length≤1000000000
def As.OkL (l:List As.P):Prop:=∀ p ∈ l,As.Ok p
def As.Lo (l:List (List UInt8)):Prop:=∀ s ∈ l,s.length≤1000000000
structure As.Fine (x:As.L):Prop where
 p:As.OkL x.p
 l:As.Lo x.l
theorem As.OkL.snoc {l:List As.P} {p:As.P} (h:As.OkL l) (hp:As.Ok p):As.OkL (l ++ [p]):=fun q hq=>by
 rcases List.mem_append.1 hq with hq | hq
 ·exact h q hq
 ·rw [List.mem_singleton.1 hq];exact hp
theorem As.Fine.put {x:As.L} (h:As.Fine x) {p:As.P} (hp:As.Ok p):As.Fine (As.put p x):=⟨h.p.snoc hp,h.l⟩
theorem As.Fine.sat {x:As.L} (h:As.Fine x) (b:Bool):As.Fine (As.sat b x):=⟨h.p,h.l⟩
theorem As.Fine.next {x:As.L} (h:As.Fine x):As.Fine (As.next x).2:=⟨by rw [As.next_p];exact h.p,by rw [As.next_l];exact fun s hs=>h.l s (List.mem_of_mem_tail hs)⟩
theorem As.Fine.reg {x:As.L} (h:As.Fine x):As.Fine (As.reg x).2:=h.next.sat _
theorem As.Fine.num {x:As.L} (h:As.Fine x):As.Fine (As.num x).2:=h.next.sat _
theorem As.Fine.name {x:As.L} (h:As.Fine x):As.Fine (As.name x).2:=h.next.sat _
theorem As.Fine.either {x:As.L} (h:As.Fine x):As.Fine (As.either x).2:=⟨by rw [As.either_p];exact h.p,by rw [As.either_l];exact fun s hs=>h.l s (List.mem_of_mem_tail hs)⟩
theorem L6.number_range (s:List UInt8):-2147483648≤(L6.number s).1∧(L6.number s).1≤4294967295:=by
 unfold L6.number
 split
 ·have:=(s.getD 1 0).toNat_lt
  dsimp only
  omega
 ·split
  ·rename_i h
   simp only [Bool.and_eq_true,decide_eq_true_eq] at h
   exact h.2
  ·decide
theorem As.num_rng (x:As.L):-2147483648≤(As.num x).1∧(As.num x).1≤4294967295:=L6.number_range _
theorem As.either_rng (x:As.L):-2147483648≤(As.either x).1.1∧(As.either x).1.1≤4294967295:=by
 unfold As.either
 split
 ·dsimp only;omega
 ·split
  ·exact L6.number_range _
  ·dsimp only;omega
theorem L6.rows_le2 (c:UInt8) (n:Nat):(L6.rowsV c n).1≤100:=by
 unfold L6.rowsV
 repeat' split
 all_goals (dsimp only;omega)
theorem L6.regV_le (s:List UInt8):(L6.regV s).1≤100:=by
 unfold L6.regV
 split
 ·decide
 split
 ·decide
 split
 ·decide
 split
 ·decide
 split
 ·decide
 split
 ·decide
 cases (L6.countedV s.tail).2
 ·exact Nat.zero_le _
 ·exact L6.rows_le2 _ _
theorem As.reg_le (x:As.L):((As.reg x).1:Int)≤100:=by have:=L6.regV_le (As.next x).1;show (((L6.regV (As.next x).1).1:Nat):Int)≤100;omega
theorem As.ok_inst {op rd rs1 rs2 imm:Int} (h0:-100≤op∧op≤100) (h1:0≤rd∧rd≤100) (h2:0≤rs1∧rs1≤100) (h3:0≤rs2∧rs2≤100) (h4:-4294967296≤imm∧imm≤4294967296):Is.Inst.ok ⟨op,rd,rs1,rs2,imm⟩:=by
 constructor <;> unfold Is.in64 <;> dsimp only <;> omega
theorem As.reg_rng (x:As.L):0≤((As.reg x).1:Int)∧((As.reg x).1:Int)≤100:=⟨by omega,As.reg_le x⟩
theorem As.lo_rng (n:Int):-4294967296≤As.lo n∧As.lo n≤4294967296:=by unfold As.lo;omega
theorem As.hi_rng (n:Int):-4294967296≤As.hi n∧As.hi n≤4294967296:=by unfold As.hi;omega
theorem As.rng {n:Int} (h:-2147483648≤n∧n≤4294967295):-4294967296≤n∧n≤4294967296:=by omega
theorem As.z_rng:(0:Int)≤0∧(0:Int)≤100:=by decide
theorem As.i_rng:(-4294967296:Int)≤0∧(0:Int)≤4294967296:=by decide
theorem As.Ok.code {i:Is.Inst} (h:i.ok) (k:Nat) {n:List UInt8} (hn:n.length≤1000000000):As.Ok ⟨true,i,[],k,n,[]⟩:=⟨h,Nat.zero_le _,hn,Nat.zero_le _⟩
theorem As.no_ok:As.no.ok:=by constructor <;> decide
theorem As.Ok.data {b:List UInt8} (h:b.length≤2000000000) (k:Nat) {n s:List UInt8} (hn:n.length≤1000000000) (hs:s.length≤1000000000):As.Ok ⟨false,As.no,b,k,n,s⟩:=⟨As.no_ok,h,hn,hs⟩
theorem As.next_lo {x:As.L} (h:As.Fine x):(As.next x).1.length≤1000000000:=by
 unfold As.next
 split
 ·exact Nat.zero_le _
 ·rename_i s t e
  exact h.l s (by rw [e];simp)
theorem As.name_lo {x:As.L} (h:As.Fine x):(As.name x).1.length≤1000000000:=As.next_lo h
theorem As.either_lo {x:As.L} (h:As.Fine x):(As.either x).1.2.length≤1000000000:=by
 unfold As.either
 split
 ·exact As.name_lo h
 ·split
  ·exact Nat.zero_le _
  ·exact As.name_lo h
theorem As.Fine.code {x:As.L} (h:As.Fine x) {i:Is.Inst} (hi:i.ok):As.Fine (As.code i x):=h.put (As.Ok.code hi _ (Nat.zero_le _))
theorem As.Fine.to {x:As.L} (h:As.Fine x) {i:Is.Inst} (hi:i.ok):As.Fine (As.to i x):=by
 refine h.either.put ⟨?_,Nat.zero_le _,As.either_lo h,Nat.zero_le _⟩
 have:=As.either_rng x
 exact ⟨hi.op,hi.rd,hi.rs1,hi.rs2,by show Is.in64 (As.either x).1.1;unfold Is.in64;omega⟩
theorem As.inst_fine {op:Int} (ho:-100≤op∧op≤100) {x:As.L} (h:As.Fine x):As.Fine (As.inst op x):=by
 unfold As.inst
 (repeat' split) <;> first
  | exact (h.reg.reg.num).code (As.ok_inst ho (As.reg_rng _) (As.reg_rng _) As.z_rng (As.rng (As.num_rng _)))
  | exact (h.reg.num.reg).code (As.ok_inst ho (As.reg_rng _) (As.reg_rng _) As.z_rng (As.rng (As.num_rng _)))
  | exact (h.reg.num.reg).code (As.ok_inst ho As.z_rng (As.reg_rng _) (As.reg_rng _) (As.rng (As.num_rng _)))
  | exact (h.reg.reg.reg).code (As.ok_inst ho (As.reg_rng _) (As.reg_rng _) (As.reg_rng _) As.i_rng)
  | exact (h.reg.num).code (As.ok_inst ho (As.reg_rng _) As.z_rng As.z_rng (As.rng (As.num_rng _)))
  | exact (h.num).code (As.ok_inst ho As.z_rng As.z_rng As.z_rng (As.rng (As.num_rng _)))
  | exact h.code (As.ok_inst ho As.z_rng As.z_rng As.z_rng As.i_rng)
  | exact (h.reg.reg).to (As.ok_inst ho As.z_rng (As.reg_rng _) (As.reg_rng _) As.i_rng)
  | exact (h.reg).to (As.ok_inst ho (As.reg_rng _) As.z_rng As.z_rng As.i_rng)
theorem As.number_fine (d:Int) (n:Int) (hd:0≤d∧d≤100) {x:As.L} (h:As.Fine x):As.Fine (As.number d n x):=by
 unfold As.number
 split
 ·exact h.code (As.ok_inst (by decide) hd As.z_rng As.z_rng (by omega))
 ·exact (h.code (As.ok_inst (by decide) hd As.z_rng As.z_rng (As.hi_rng n))).code (As.ok_inst (by decide) hd hd As.z_rng (As.lo_rng n))
theorem As.pseudo_fine (w:List UInt8) {x y:As.L} (h:As.Fine x) (e:As.pseudo w x = some y):As.Fine y:=by
 unfold As.pseudo at e
 (repeat' split at e) <;> first
  | (injection e with e;subst e;first
    | exact As.number_fine _ _ (As.reg_rng _) h.reg.num
    | exact (h.reg.name.put (As.Ok.code (As.ok_inst (by decide) (As.reg_rng _) As.z_rng As.z_rng As.i_rng) _ (As.name_lo h.reg))).put (As.Ok.code (As.ok_inst (by decide) (As.reg_rng _) (As.reg_rng _) As.z_rng As.i_rng) _ (As.name_lo h.reg))
    | exact h.reg.reg.code (As.ok_inst (by decide) (As.reg_rng _) (As.reg_rng _) As.z_rng (by decide))
    | exact h.reg.reg.code (As.ok_inst (by decide) (As.reg_rng _) As.z_rng (As.reg_rng _) (by decide))
    | exact h.reg.to (As.ok_inst (by decide) As.z_rng (As.reg_rng _) As.z_rng As.i_rng)
    | exact h.code (As.ok_inst (by decide) As.z_rng (by decide) As.z_rng As.i_rng)
    | exact h.to (As.ok_inst (by decide) (by decide) As.z_rng As.z_rng As.i_rng))
  | cases e
theorem As.word1_fine {x:As.L} (h:As.Fine x):As.Fine (As.word1 x):=h.either.put (As.Ok.data (by rw [As.four_len];decide) _ (As.either_lo h) (Nat.zero_le _))
theorem As.byte1_fine {x:As.L} (h:As.Fine x):As.Fine (As.byte1 x):=(h.num.sat _).put (As.Ok.data (by show 1≤_;decide) _ (Nat.zero_le _) (Nat.zero_le _))
theorem As.loop_fine {f:As.L→As.L} (hf:∀ {x:As.L},As.Fine x→As.Fine (f x)):∀ (n:Nat) {x:As.L},As.Fine x→As.Fine (As.loop f n x)
 | 0,x,h=>h
 | n+1,x,h=>by
  unfold As.loop
  split
  ·exact hf h
  ·exact As.loop_fine hf n (hf h)
theorem As.data_fine (w:List UInt8) (a:Nat) {x y:As.L} (h:As.Fine x) (e:As.data w a x = some y):As.Fine y:=by
 unfold As.data at e
 split at e
 ·injection e with e;subst e;exact As.loop_fine As.word1_fine _ h
 split at e
 ·injection e with e;subst e;exact As.loop_fine As.byte1_fine _ h
 split at e
 ·injection e with e;subst e
  split
  ·refine (h.next.sat _).put (As.Ok.data ?_ _ (Nat.zero_le _) (Nat.zero_le _))
   have:=As.next_lo h
   simp only [List.length_drop,List.length_take]
   omega
  ·exact h.next.sat _
 split at e
 ·injection e with e;subst e
  split
  ·rename_i hc
   refine (h.num.sat _).put (As.Ok.data ?_ _ (Nat.zero_le _) (Nat.zero_le _))
   unfold As.spaceOk at hc
   simp only [Bool.and_eq_true,decide_eq_true_eq] at hc
   rw [List.length_replicate]
   omega
  ·exact h.num.sat _
 split at e
 ·injection e with e;subst e
  exact h.put (As.Ok.data (by rw [List.length_replicate];omega) _ (Nat.zero_le _) (Nat.zero_le _))
 split at e
 ·injection e with e;subst e
  exact h.name.name.put (As.Ok.data (by decide) _ (As.name_lo h.name) (As.name_lo h))
 ·cases e
theorem As.found_rng (s:ByteArray):-100≤Is.found s∧Is.found s≤100:=by
 unfold Is.found
 split <;> omega
theorem As.pieces_ok {l:L6.Line} {a:Nat} {p:List As.P} (hl:As.Lo l.args) (e:As.pieces l a = some p):As.OkL p:=by
 have h0:As.Fine ⟨l.args,true,[]⟩:=⟨(fun q hq=>(by cases hq)),hl⟩
 unfold As.pieces at e
 split at e
 ·injection e with e;subst e;exact fun q hq=>by cases hq
 ·split at e
  ·cases e
  ·rename_i y hy
   have hd:p = y.p:=by
    unfold As.done at e
    split at e
    ·injection e with e;exact e.symm
    ·cases e
   subst hd
   unfold As.read at hy
   split at hy
   ·injection hy with hy;subst hy;exact (As.inst_fine (As.found_rng _) h0).p
   ·split at hy
    ·rename_i z hz
     injection hy with hy;subst hy;exact (As.pseudo_fine _ h0 hz).p
    ·exact (As.data_fine _ _ h0 hy).p
theorem As.to_cnt (i:Is.Inst) (x:As.L):(As.to i x).p.length = x.p.length+1:=by unfold As.to;rw [As.put_len,As.either_p]
theorem As.code_cnt (i:Is.Inst) (x:As.L):(As.code i x).p.length = x.p.length+1:=As.put_len _ _
theorem As.inst_cnt (op:Int) (x:As.L):(As.inst op x).p.length = x.p.length+1:=by
 unfold As.inst
 (repeat' split) <;> simp only [As.to_cnt,As.code_cnt,As.reg_p,As.num_p]
theorem As.number_cnt (d n:Int) (x:As.L):(As.number d n x).p.length≤x.p.length+2:=by
 unfold As.number
 split
 ·rw [As.code_cnt];omega
 ·rw [As.code_cnt,As.code_cnt];omega
theorem As.pseudo_cnt (w:List UInt8) {x y:As.L} (e:As.pseudo w x = some y):y.p.length≤x.p.length+2:=by
 unfold As.pseudo at e
 (repeat' split at e) <;> first
  | (injection e with e;subst e;first
    | (refine Nat.le_trans (As.number_cnt _ _ _) ?_;rw [As.num_p,As.reg_p];omega)
    | (simp only [As.put_len,As.to_cnt,As.code_cnt,As.reg_p,As.num_p,As.name_p];omega))
  | cases e
theorem As.loop_cnt {f:As.L→As.L} (hf:∀ x,(f x).p.length = x.p.length+1) (hl:∀ x,(f x).l = x.l.tail):∀ (n:Nat) (x:As.L),(As.loop f n x).p.length≤x.p.length+x.l.length+1
 | 0,x=>by unfold As.loop;omega
 | n+1,x=>by
  rw [As.loop_one]
  split
  ·rw [hf];omega
  ·rename_i he
   have h1:=As.loop_cnt hf hl n (f x)
   rw [hf,hl,List.length_tail] at h1
   have h2:0 < (f x).l.length:=List.length_pos_iff.2 he
   rw [hl,List.length_tail] at h2
   omega
theorem As.data_cnt (w:List UInt8) (a:Nat) {x y:As.L} (e:As.data w a x = some y):y.p.length≤x.p.length+x.l.length+1:=by
 unfold As.data at e
 split at e
 ·injection e with e;subst e;exact As.loop_cnt (fun x=>by unfold As.word1;rw [As.put_len,As.either_p]) As.word1_l _ _
 split at e
 ·injection e with e;subst e;exact As.loop_cnt (fun x=>by unfold As.byte1;rw [As.put_len];show (As.num x).2.p.length+1 = _;rw [As.num_p]) As.byte1_l _ _
 split at e
 ·injection e with e;subst e
  split
  ·rw [As.put_len];show (As.next x).2.p.length+1≤_;rw [As.next_p];omega
  ·show (As.next x).2.p.length≤_;rw [As.next_p];omega
 split at e
 ·injection e with e;subst e
  split
  ·rw [As.put_len];show (As.num x).2.p.length+1≤_;rw [As.num_p];omega
  ·show (As.num x).2.p.length≤_;rw [As.num_p];omega
 split at e
 ·injection e with e;subst e;rw [As.put_len];omega
 split at e
 ·injection e with e;subst e;rw [As.put_len,As.name_p,As.name_p];omega
 ·cases e
theorem As.pieces_cnt {l:L6.Line} {a:Nat} {p:List As.P} (e:As.pieces l a = some p):p.length≤l.args.length+2:=by
 unfold As.pieces at e
 split at e
 ·injection e with e;subst e;exact Nat.zero_le _
 ·split at e
  ·cases e
  ·rename_i y hy
   have hd:p = y.p:=by
    unfold As.done at e
    split at e
    ·injection e with e;exact e.symm
    ·cases e
   subst hd
   unfold As.read at hy
   split at hy
   ·injection hy with hy;subst hy;rw [As.inst_cnt];simp
   ·split at hy
    ·rename_i z hz
     injection hy with hy;subst hy;have:=As.pseudo_cnt _ hz;simp at this;omega
    ·have:=As.data_cnt _ _ hy;simp at this;omega
theorem As.size_le:∀ {l:List As.P},As.OkL l→As.size l≤l.length * 2000000004
 | [],_=>by simp [As.size]
 | p :: t,h=>by
  have h1:=(h p (by simp)).bytes
  have h2:=As.size_le (fun q hq=>h q (by simp [hq]):As.OkL t)
  rw [As.size_cons,List.length_cons]
  unfold As.size1
  split <;> omega
def As.Low (sy:List (List UInt8 × Nat)):Prop:=∀ p ∈ sy,p.2 < 4294967296
theorem As.Low.look {sy:List (List UInt8 × Nat)} (h:As.Low sy) {s:List UInt8} {v:Nat} (e:As.look sy s = some v):v < 4294967296:=by
 unfold As.look at e
 cases hf:sy.find? (fun p=>p.1 == s) with
 | none=>rw [hf] at e;cases e
 | some p=>
  rw [hf] at e
  injection e with e
  rw [← e]
  exact h p (List.mem_of_find?_eq_some hf)
theorem As.labels_low {a:Nat} (ha:a < 4294967296):∀ {t:List (List UInt8)} {sy sy1:List (List UInt8 × Nat)},As.Low sy→As.labels a t sy = some sy1→As.Low sy1
 | [],sy,sy1,h,e=>by injection e with e;subst e;exact h
 | s :: t,sy,sy1,h,e=>by
  unfold As.labels at e
  split at e
  ·cases e
  ·refine As.labels_low ha ?_ e
   intro p hp
   rcases List.mem_append.1 hp with hp | hp
   ·exact h p hp
   ·rw [List.mem_singleton.1 hp];exact ha
theorem As.first_step {a i here:Nat} {sy sy2:List (List UInt8 × Nat)} {l:L6.Line} {r:List L6.Line} (e:As.first a i here sy (l :: r) = .ok sy2) :
  ∃ sy1 p,As.labels (As.at32 (a+here)) l.labels sy = some sy1∧As.pieces l (As.at32 (a+here)) = some p∧here+As.size p≤131072∧As.first a (i+1) (here+As.size p) sy1 r = .ok sy2:=by
 unfold As.first at e
 cases hl:As.labels (As.at32 (a+here)) l.labels sy with
 | none=>rw [hl] at e;cases e
 | some sy1=>
  rw [hl] at e
  dsimp only at e
  cases hp:As.pieces l (As.at32 (a+here)) with
  | none=>rw [hp] at e;cases e
  | some p=>
   rw [hp] at e
   dsimp only at e
   split at e
   ·cases e
   ·split at e
    ·cases e
    ·exact ⟨sy1,p,rfl,rfl,by omega,e⟩
theorem As.first_low {a:Nat}:∀ {l:List L6.Line} {i here:Nat} {sy sy2:List (List UInt8 × Nat)},As.Low sy→As.first a i here sy l = .ok sy2→As.Low sy2
 | [],i,here,sy,sy2,h,e=>by injection e with e;subst e;exact h
 | x :: r,i,here,sy,sy2,h,e=>by
  obtain ⟨sy1,p,h1,_,_,h2⟩:=As.first_step e
  exact As.first_low (As.labels_low (by unfold As.at32;omega) h h1) h2
end Go.Proofs.YtpcpaoeajcjoiaaGreatDoor
