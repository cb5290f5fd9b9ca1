/- Texts joined, what is not reached left out. -/
import Derived.Test.YtpcpaoeajcjoiaaGreatDoorMM
import Derived.Test.YtpcpaoeajcjoiaaGreatDoorMS
import Derived.Test.YtpcpaoeajcjoiaaGreatDoorMI
import Derived.StillTailTactics
set_option linter.unusedVariables false
set_option linter.unusedSimpArgs false
namespace Go.Proofs.YtpcpaoeajcjoiaaGreatDoor
open Go.RowKit Kit Go.Maps
set_option maxRecDepth 20000 in
theorem As.MapIs.run {w:World} {b:Nat} {sy:List (List UInt8 × Nat)} (h:As.MapIs w b sy) (s:List UInt8) (hs:s.length≤maxLen) :
  (Instr.lookup 99 (.map (some b)) (.string ⟨s.toArray⟩) true).run Tryz.prog w = .ok (.tuple #[.int .u32 (((As.look sy s).getD 0:Nat):Int),.bool (As.look sy s).isSome]) w:=by
 obtain ⟨D,hown,hD⟩:=h
 obtain ⟨v,ps,hrun,hv⟩:=hown.look_ok As.law Tryz.underlying99 (As.zeroE _) (plainElem_int Tryz.underlying23 (by decide)) (WideMaps.keyOf_string_mk (s:=⟨s.toArray⟩) Tryz.underlying9 (by simpa [ByteArray.size] using hs))
 obtain ⟨c,rfl,hat,_⟩:=plainElem_int_inv Tryz.underlying23 hv
 have hat:=congrArg Prod.fst hat
 rw [hrun]
 have e:(⟨s.toArray⟩:ByteArray).data.toList = s:=by simp
 rw [e] at hat ⊢
 have hc:c = (((As.look sy s).getD 0:Nat):Int):=by
  cases hl:As.look sy s with
  | none=>
   have h1:=(hD s).1
   rw [hl] at h1
   rw [atKey_of_not_has h1] at hat
   injection hat with hat
   injection hat with _ hat
   exact hat.symm
  | some v=>
   have h2:=(hD s).2 v hl
   dsimp only at hat
   rw [h2] at hat
   injection hat with hat
   injection hat with _ hat
   exact hat.symm
 rw [hc,(hD s).1]
theorem As.or_rng (x y:Int):0≤Go.bits .or .u32 x y∧Go.bits .or .u32 x y < 4294967296:=by
 show 0≤IntKind.u32.wrap _∧IntKind.u32.wrap _ < _
 rw [IntKind.wrap_u32]
 omega
theorem As.acc_rng (A:Nat):∀ (ps:List (Int × Int × Int)) (x:Int),(0≤x∧x < 4294967296)→0≤Is.acc A x ps∧Is.acc A x ps < 4294967296
 | [],x,h=>h
 | p :: t,x,h=>As.acc_rng A t _ (As.or_rng _ _)
theorem As.enc_rng (i:Is.Inst):0≤(Is.enc i).1∧(Is.enc i).1 < 4294967296:=by
 unfold Is.enc
 split
 ·dsimp only
  unfold Is.encV
  split
  ·decide
  split
  ·decide
  ·exact As.acc_rng _ _ _ (As.or_rng _ _)
 ·decide
def As.PiecePost (w:World) (r:List UInt8 × Nat) (e:Ending) (w':World):Prop:=∃ vb,e = .returned (.tuple #[vb,.int .i64 (r.2:Int)])∧Rd w' 1 vb r.1.length (bv r.1)∧Below w.heap.size w w'
theorem As.s32_rng (v:Nat) (hv:v < 4294967296):-2147483648≤As.s32 v∧As.s32 v≤4294967295:=by unfold As.s32;split <;> omega
theorem As.s32_wrap (v:Nat) (hv:v < 4294967296):IntKind.i32.wrap (v:Int) = As.s32 v:=by unfold As.s32;rw [IntKind.wrap_i32];split <;> omega
theorem As.rd_four (w:World) (v:Nat):Rd (w.alloc (.cells (bv (As.four v)).toArray 5)) 1 (.slice (some ⟨w.heap.size,0,none⟩) 4 4) (As.four v).length (bv (As.four v)):=by
 have hbk:=Bk.fresh w 5 (bv (As.four v)).toArray
 exact ⟨by rw [bv_length,Nat.mul_one],some ⟨w.heap.size,0,none⟩,4,rfl,Nat.le_refl _,by unfold maxLen;omega,fun _=>⟨_,0,rfl,hbk.lt,fun j u hu=>by rw [Nat.zero_add,hbk.cell j];simpa using hu⟩⟩
structure As.PIn (B:Nat) (w:World) (gp b:Nat) (vl vb0 vs:Value) (a:Nat) (bs:List UInt8) (sm sy:List (List UInt8 × Nat)) (p:As.P) (vb:Value):Prop where
 at_:As.MsAt B w gp b vl vb0 vs a bs sm sy
 rd:Rd w 1 vb p.bytes.length (bv p.bytes)
 ok:p.inst.ok
 a:a < 4294967296
 bs:bs.length≤2000000000
 n:p.name.length≤maxLen
 f:p.src.length≤maxLen
 sm:∀ s v,As.look sm s = some v→v < 4294967296
set_option maxRecDepth 100000 in
set_option maxHeartbeats 8000000 in
theorem apiece_raw {B:Nat} {w:World} {gp b:Nat} {vl vb0 vs:Value} {a:Nat} {bs:List UInt8} {sm sy:List (List UInt8 × Nat)} (op rd rs1 rs2 imm:Int) (pb pn pf:List UInt8) (vb:Value) (h:As.PIn B w gp b vl vb0 vs a bs sm sy ⟨false,⟨op,rd,rs1,rs2,imm⟩,pb,0,pn,pf⟩ vb) :
  Calls Tryz.prog 86 #[.pointer (some ⟨gp,0,none⟩),.agg #[.bool false,.int .i64 op,.int .i64 rd,.int .i64 rs1,.int .i64 rs2,.int .i64 imm,vb,.int .i64 0,.string ⟨pn.toArray⟩,.string ⟨pf.toArray⟩]] w (As.PiecePost w (As.piece sm ⟨false,⟨op,rd,rs1,rs2,imm⟩,pb,0,pn,pf⟩ (As.at32 (a+bs.length)))):=by
 have HI:=Lib.hid h
 obtain ⟨BB,cb,rfl⟩:=h.rd.form
 dsimp only
 have hal:Below w.heap.size w (w.alloc (.cells #[.bool false,.int .i64 op,.int .i64 rd,.int .i64 rs1,.int .i64 rs2,.int .i64 imm,.slice BB pb.length cb,.int .i64 0,.string ⟨pn.toArray⟩,.string ⟨pf.toArray⟩] 176)):=(Below.refl _ _).alloc (Nat.le_refl _) _
 have hbk:=Bk.fresh w 176 #[.bool false,.int .i64 op,.int .i64 rd,.int .i64 rs1,.int .i64 rs2,.int .i64 imm,.slice BB pb.length cb,.int .i64 0,.string ⟨pn.toArray⟩,.string ⟨pf.toArray⟩]
 have HAT:=Lib.hid (h.at_.kept hal)
 have HRD:=Lib.hid (h.rd.kept hal)
 have HAL:=Lib.hid hal
 have HBK:=Lib.hid hbk
 clear h hal hbk
 obtain ⟨W1,hW1⟩:∃ W1,w.alloc (.cells #[.bool false,.int .i64 op,.int .i64 rd,.int .i64 rs1,.int .i64 rs2,.int .i64 imm,.slice BB pb.length cb,.int .i64 0,.string ⟨pn.toArray⟩,.string ⟨pf.toArray⟩] 176) = W1:=⟨_,rfl⟩
 rw [hW1] at HAT HRD HAL HBK
 have b0:=HBK.out.cell 0
 have b6:=HBK.out.cell 6
 have b7:=HBK.out.cell 7
 have fz:=HBK.out.free 5
 simp only [List.getElem?_toArray,List.getElem?_cons_zero,List.getElem?_cons_succ] at b0 b6 b7
 have HP:=Lib.hid (show As.piece sm ⟨false,⟨op,rd,rs1,rs2,imm⟩,pb,0,pn,pf⟩ (As.at32 (a+bs.length)) = (pb,0) from by unfold As.piece;rw [if_pos ⟨rfl,rfl⟩])
 go_enter Tryz.func86,Tryz.ntmps86
 go_wp2_with fail
 clear hW1
 go_wp2_with fail
 go_ret2
 rw [HP.out]
 exact ⟨_,rfl,HRD.out,HAL.out⟩
set_option maxRecDepth 100000 in
set_option maxHeartbeats 8000000 in
theorem apiece_code {B:Nat} {w:World} {gp b:Nat} {vl vb0 vs:Value} {a:Nat} {bs:List UInt8} {sm sy:List (List UInt8 × Nat)} (op rd rs1 rs2 imm:Int) (pb pn pf:List UInt8) (vb:Value) (h:As.PIn B w gp b vl vb0 vs a bs sm sy ⟨true,⟨op,rd,rs1,rs2,imm⟩,pb,0,pn,pf⟩ vb) :
  Calls Tryz.prog 86 #[.pointer (some ⟨gp,0,none⟩),.agg #[.bool true,.int .i64 op,.int .i64 rd,.int .i64 rs1,.int .i64 rs2,.int .i64 imm,vb,.int .i64 0,.string ⟨pn.toArray⟩,.string ⟨pf.toArray⟩]] w (As.PiecePost w (As.piece sm ⟨true,⟨op,rd,rs1,rs2,imm⟩,pb,0,pn,pf⟩ (As.at32 (a+bs.length)))):=by
 have HI:=Lib.hid h
 obtain ⟨BB,cb,rfl⟩:=h.rd.form
 dsimp only
 have hal:Below w.heap.size w (w.alloc (.cells #[.bool true,.int .i64 op,.int .i64 rd,.int .i64 rs1,.int .i64 rs2,.int .i64 imm,.slice BB pb.length cb,.int .i64 0,.string ⟨pn.toArray⟩,.string ⟨pf.toArray⟩] 176)):=(Below.refl _ _).alloc (Nat.le_refl _) _
 have hbk:=Bk.fresh w 176 #[.bool true,.int .i64 op,.int .i64 rd,.int .i64 rs1,.int .i64 rs2,.int .i64 imm,.slice BB pb.length cb,.int .i64 0,.string ⟨pn.toArray⟩,.string ⟨pf.toArray⟩]
 have HAT:=Lib.hid (h.at_.kept hal)
 have HRD:=Lib.hid (h.rd.kept hal)
 have HAL:=Lib.hid hal
 have HBK:=Lib.hid hbk
 clear h hal hbk
 obtain ⟨W1,hW1⟩:∃ W1,w.alloc (.cells #[.bool true,.int .i64 op,.int .i64 rd,.int .i64 rs1,.int .i64 rs2,.int .i64 imm,.slice BB pb.length cb,.int .i64 0,.string ⟨pn.toArray⟩,.string ⟨pf.toArray⟩] 176) = W1:=⟨_,rfl⟩
 rw [hW1] at HAT HRD HAL HBK
 have b0:=HBK.out.cell 0
 have b1:=HBK.out.cell 1
 have b2:=HBK.out.cell 2
 have b3:=HBK.out.cell 3
 have b4:=HBK.out.cell 4
 have b5:=HBK.out.cell 5
 have b6:=HBK.out.cell 6
 have b7:=HBK.out.cell 7
 have b8:=HBK.out.cell 8
 have b9:=HBK.out.cell 9
 have fz:=HBK.out.free 5
 simp only [List.getElem?_toArray,List.getElem?_cons_zero,List.getElem?_cons_succ] at b0 b1 b2 b3 b4 b5 b6 b7 b8 b9
 obtain ⟨Ab,cbs,hvb⟩:=(Rd.of_own HAT.out.by_).form
 subst hvb
 have c1:=HAT.out.seen.c1
 have c2:=HAT.out.seen.c2
 have c3:=HAT.out.seen.c3
 have hl32:IntKind.u32.wrap (bs.length:Int) = (bs.length:Int):=by have:=HI.out.bs;rw [IntKind.wrap_u32];omega
 have hat:IntKind.u32.wrap ((a:Int)+(bs.length:Int)) = ((As.at32 (a+bs.length):Nat):Int):=by unfold As.at32;rw [IntKind.wrap_u32];omega
 have HAL32:=Lib.hid (show As.at32 (a+bs.length) < 4294967296 from by unfold As.at32;omega)
 have hlk:=HAT.out.map.run pn HI.out.n
 have hlk1:(Instr.lookup 99 (.map (some b)) (.string ⟨pn.toArray⟩) true).run Tryz.prog W1.drew = .ok (.tuple #[.int .u32 (((As.look sm pn).getD 0:Nat):Int),.bool (As.look sm pn).isSome]) W1.drew:=(show As.MapIs W1.drew b sm from HAT.out.map).run pn HI.out.n
 have hlk2:(Instr.lookup 99 (.map (some b)) (.string ⟨pn.toArray⟩) true).run Tryz.prog W1.drew.drew = .ok (.tuple #[.int .u32 (((As.look sm pn).getD 0:Nat):Int),.bool (As.look sm pn).isSome]) W1.drew.drew:=(show As.MapIs W1.drew.drew b sm from HAT.out.map).run pn HI.out.n
 generalize hAt:As.at32 (a+bs.length) = T at *
 cases hlook:As.look sm pn with
 | none=>
  rw [hlook] at hlk hlk1 hlk2
  simp only [Option.getD_none,Option.isSome_none] at hlk hlk1 hlk2
  have hv32:0 < 4294967296:=by decide
  have hs32:=As.s32_wrap 0 hv32
  have hsr:=As.s32_rng 0 hv32
  have hs64:IntKind.i64.wrap (As.s32 0) = As.s32 0:=by rw [IntKind.wrap_i64];omega
  have CH:=Lib.hid (fun W=>ahalves_any (As.s32 0) W hsr.1 hsr.2)
  have hj:As.aim ⟨true,⟨op,rd,rs1,rs2,imm⟩,pb,0,pn,pf⟩ 0 T = (⟨op,rd,rs1,rs2,imm⟩,20):=rfl
  have HP:=Lib.hid (show As.piece sm ⟨true,⟨op,rd,rs1,rs2,imm⟩,pb,0,pn,pf⟩ T = if (Is.enc ⟨op,rd,rs1,rs2,imm⟩).2 = 0 then (As.four (Is.enc ⟨op,rd,rs1,rs2,imm⟩).1.toNat,0) else ([],20) from by
   unfold As.piece
   rw [if_neg (fun e=>by cases e.2),if_neg (fun e=>by exact e.1 rfl),if_neg (fun e=>by cases e),if_neg (fun e=>by cases e),hlook,Option.getD_none,hj])
  have hok:Is.Inst.ok ⟨op,rd,rs1,rs2,imm⟩:=⟨HI.out.ok.op,HI.out.ok.rd,HI.out.ok.rs1,HI.out.ok.rs2,HI.out.ok.imm⟩
  have CE:=Lib.hid (fun W=>enc_own ⟨op,rd,rs1,rs2,imm⟩ W hok)
  have HER:=Lib.hid (As.enc_rng ⟨op,rd,rs1,rs2,imm⟩)
  clear hok hlook
  go_enter Tryz.func86,Tryz.ntmps86
  go_wp2_with fail
  clear hW1
  go_wp2_with fail
  refine wp_region_still_lit (by kernel_rfl) (by kernel_rfl) ?_
  rw [show ∀ W:World,{W with drawn:=W.drawn+1} = W.drew from fun _=>rfl]
  repeat ((with_reducible refine wpStill_step (fun K hK=>?_));go_simp;(try go_bits);(with_reducible refine hK _ ?_);clear hK K)
  refine wpStill_nil ?_
  go_wp2_with fail
  refine wp_region_still_lit (by kernel_rfl) (by kernel_rfl) ?_
  rw [show ∀ W:World,{W with drawn:=W.drawn+1} = W.drew from fun _=>rfl]
  repeat ((with_reducible refine wpStill_step (fun K hK=>?_));go_simp;(try go_bits);(with_reducible refine hK _ ?_);clear hK K)
  refine wpStill_nil ?_
  go_wp2_with fail
  go_at_call 141
  refine (CH.out _).mono ?_
  rintro e w' ⟨rfl,rfl⟩
  go_wp2_with fail
  go_at_call 143
  refine (CE.out _).mono ?_
  rintro e w5 ⟨rfl,hb5⟩
  have HB5:=Lib.hid (show Below w.heap.size w w5 from (HAL.out.drew.drew).trans (hb5.mono (by have:=HAL.out.size;simpa using this)))
  clear hb5
  obtain ⟨ew,ee,hE⟩:∃ x y,Is.enc ⟨op,rd,rs1,rs2,imm⟩ = (x,y):=⟨_,_,rfl⟩
  have HP2:=HP.out
  have her:=HER.out
  rw [hE] at HP2 her ⊢
  dsimp only at HP2 her ⊢
  by_cases h0:ee = 0
  ·subst h0
   rw [if_pos rfl] at HP2
   have CF:=Lib.hid (fun W=>afour_any ew.toNat W (by omega))
   rw [show ((ew.toNat:Nat):Int) = ew by omega] at CF
   go_wp2_with fail
   go_at_call 142
   refine (CF.out _).mono ?_
   rintro e w6 ⟨rfl,rfl⟩
   go_wp2_with fail
   go_ret2
   rw [HP2]
   exact ⟨_,rfl,As.rd_four _ _,HB5.out.alloc HB5.out.size _⟩
  ·have hne:(ee == (0:Int)) = false:=by simpa using h0
   have hne2:(!ee == (0:Int)) = true:=by simpa using h0
   rw [if_neg h0] at HP2
   go_wp2_with fail
   go_ret2
   rw [HP2]
   exact ⟨_,rfl,Rd.nil _ _,HB5.out⟩
 | some u=>
  have hu:=HI.out.sm pn u hlook
  rw [hlook] at hlk hlk1 hlk2
  simp only [Option.getD_some,Option.isSome_some] at hlk hlk1 hlk2
  have hv32:u < 4294967296:=hu
  have hs32:=As.s32_wrap u hv32
  have hsr:=As.s32_rng u hv32
  have hs64:IntKind.i64.wrap (As.s32 u) = As.s32 u:=by rw [IntKind.wrap_i64];omega
  have CH:=Lib.hid (fun W=>ahalves_any (As.s32 u) W hsr.1 hsr.2)
  have hj:As.aim ⟨true,⟨op,rd,rs1,rs2,imm⟩,pb,0,pn,pf⟩ u T = (⟨op,rd,rs1,rs2,imm⟩,20):=rfl
  have HP:=Lib.hid (show As.piece sm ⟨true,⟨op,rd,rs1,rs2,imm⟩,pb,0,pn,pf⟩ T = if (Is.enc ⟨op,rd,rs1,rs2,imm⟩).2 = 0 then (As.four (Is.enc ⟨op,rd,rs1,rs2,imm⟩).1.toNat,0) else ([],20) from by
   unfold As.piece
   rw [if_neg (fun e=>by cases e.2),if_neg (fun e=>by exact e.1 rfl),if_neg (fun e=>by cases e),if_neg (fun e=>by cases e),hlook,Option.getD_some,hj])
  have hok:Is.Inst.ok ⟨op,rd,rs1,rs2,imm⟩:=⟨HI.out.ok.op,HI.out.ok.rd,HI.out.ok.rs1,HI.out.ok.rs2,HI.out.ok.imm⟩
  have CE:=Lib.hid (fun W=>enc_own ⟨op,rd,rs1,rs2,imm⟩ W hok)
  have HER:=Lib.hid (As.enc_rng ⟨op,rd,rs1,rs2,imm⟩)
  clear hok hlook
  go_enter Tryz.func86,Tryz.ntmps86
  go_wp2_with fail
  clear hW1
  go_wp2_with fail
  refine wp_region_still_lit (by kernel_rfl) (by kernel_rfl) ?_
  rw [show ∀ W:World,{W with drawn:=W.drawn+1} = W.drew from fun _=>rfl]
  repeat ((with_reducible refine wpStill_step (fun K hK=>?_));go_simp;(try go_bits);(with_reducible refine hK _ ?_);clear hK K)
  refine wpStill_nil ?_
  go_wp2_with fail
  refine wp_region_still_lit (by kernel_rfl) (by kernel_rfl) ?_
  rw [show ∀ W:World,{W with drawn:=W.drawn+1} = W.drew from fun _=>rfl]
  repeat ((with_reducible refine wpStill_step (fun K hK=>?_));go_simp;(try go_bits);(with_reducible refine hK _ ?_);clear hK K)
  refine wpStill_nil ?_
  go_wp2_with fail
  go_at_call 141
  refine (CH.out _).mono ?_
  rintro e w' ⟨rfl,rfl⟩
  go_wp2_with fail
  go_at_call 143
  refine (CE.out _).mono ?_
  rintro e w5 ⟨rfl,hb5⟩
  have HB5:=Lib.hid (show Below w.heap.size w w5 from (HAL.out.drew.drew).trans (hb5.mono (by have:=HAL.out.size;simpa using this)))
  clear hb5
  obtain ⟨ew,ee,hE⟩:∃ x y,Is.enc ⟨op,rd,rs1,rs2,imm⟩ = (x,y):=⟨_,_,rfl⟩
  have HP2:=HP.out
  have her:=HER.out
  rw [hE] at HP2 her ⊢
  dsimp only at HP2 her ⊢
  by_cases h0:ee = 0
  ·subst h0
   rw [if_pos rfl] at HP2
   have CF:=Lib.hid (fun W=>afour_any ew.toNat W (by omega))
   rw [show ((ew.toNat:Nat):Int) = ew by omega] at CF
   go_wp2_with fail
   go_at_call 142
   refine (CF.out _).mono ?_
   rintro e w6 ⟨rfl,rfl⟩
   go_wp2_with fail
   go_ret2
   rw [HP2]
   exact ⟨_,rfl,As.rd_four _ _,HB5.out.alloc HB5.out.size _⟩
  ·have hne:(ee == (0:Int)) = false:=by simpa using h0
   have hne2:(!ee == (0:Int)) = true:=by simpa using h0
   rw [if_neg h0] at HP2
   go_wp2_with fail
   go_ret2
   rw [HP2]
   exact ⟨_,rfl,Rd.nil _ _,HB5.out⟩
set_option maxRecDepth 100000 in
set_option maxHeartbeats 8000000 in
theorem apiece_goal {B:Nat} {w:World} {gp b:Nat} {vl vb0 vs:Value} {a:Nat} {bs:List UInt8} {sm sy:List (List UInt8 × Nat)} (op rd rs1 rs2 imm:Int) (pb pn pf:List UInt8) (vb:Value) (h:As.PIn B w gp b vl vb0 vs a bs sm sy ⟨true,⟨op,rd,rs1,rs2,imm⟩,pb,1,pn,pf⟩ vb) :
  Calls Tryz.prog 86 #[.pointer (some ⟨gp,0,none⟩),.agg #[.bool true,.int .i64 op,.int .i64 rd,.int .i64 rs1,.int .i64 rs2,.int .i64 imm,vb,.int .i64 1,.string ⟨pn.toArray⟩,.string ⟨pf.toArray⟩]] w (As.PiecePost w (As.piece sm ⟨true,⟨op,rd,rs1,rs2,imm⟩,pb,1,pn,pf⟩ (As.at32 (a+bs.length)))):=by
 have HI:=Lib.hid h
 obtain ⟨BB,cb,rfl⟩:=h.rd.form
 dsimp only
 have hal:Below w.heap.size w (w.alloc (.cells #[.bool true,.int .i64 op,.int .i64 rd,.int .i64 rs1,.int .i64 rs2,.int .i64 imm,.slice BB pb.length cb,.int .i64 1,.string ⟨pn.toArray⟩,.string ⟨pf.toArray⟩] 176)):=(Below.refl _ _).alloc (Nat.le_refl _) _
 have hbk:=Bk.fresh w 176 #[.bool true,.int .i64 op,.int .i64 rd,.int .i64 rs1,.int .i64 rs2,.int .i64 imm,.slice BB pb.length cb,.int .i64 1,.string ⟨pn.toArray⟩,.string ⟨pf.toArray⟩]
 have HAT:=Lib.hid (h.at_.kept hal)
 have HRD:=Lib.hid (h.rd.kept hal)
 have HAL:=Lib.hid hal
 have HBK:=Lib.hid hbk
 clear h hal hbk
 obtain ⟨W1,hW1⟩:∃ W1,w.alloc (.cells #[.bool true,.int .i64 op,.int .i64 rd,.int .i64 rs1,.int .i64 rs2,.int .i64 imm,.slice BB pb.length cb,.int .i64 1,.string ⟨pn.toArray⟩,.string ⟨pf.toArray⟩] 176) = W1:=⟨_,rfl⟩
 rw [hW1] at HAT HRD HAL HBK
 have b0:=HBK.out.cell 0
 have b1:=HBK.out.cell 1
 have b2:=HBK.out.cell 2
 have b3:=HBK.out.cell 3
 have b4:=HBK.out.cell 4
 have b5:=HBK.out.cell 5
 have b6:=HBK.out.cell 6
 have b7:=HBK.out.cell 7
 have b8:=HBK.out.cell 8
 have b9:=HBK.out.cell 9
 have fz:=HBK.out.free 5
 simp only [List.getElem?_toArray,List.getElem?_cons_zero,List.getElem?_cons_succ] at b0 b1 b2 b3 b4 b5 b6 b7 b8 b9
 obtain ⟨Ab,cbs,hvb⟩:=(Rd.of_own HAT.out.by_).form
 subst hvb
 have c1:=HAT.out.seen.c1
 have c2:=HAT.out.seen.c2
 have c3:=HAT.out.seen.c3
 have hl32:IntKind.u32.wrap (bs.length:Int) = (bs.length:Int):=by have:=HI.out.bs;rw [IntKind.wrap_u32];omega
 have hat:IntKind.u32.wrap ((a:Int)+(bs.length:Int)) = ((As.at32 (a+bs.length):Nat):Int):=by unfold As.at32;rw [IntKind.wrap_u32];omega
 have HAL32:=Lib.hid (show As.at32 (a+bs.length) < 4294967296 from by unfold As.at32;omega)
 have hlk:=HAT.out.map.run pn HI.out.n
 have hlk1:(Instr.lookup 99 (.map (some b)) (.string ⟨pn.toArray⟩) true).run Tryz.prog W1.drew = .ok (.tuple #[.int .u32 (((As.look sm pn).getD 0:Nat):Int),.bool (As.look sm pn).isSome]) W1.drew:=(show As.MapIs W1.drew b sm from HAT.out.map).run pn HI.out.n
 have hlk2:(Instr.lookup 99 (.map (some b)) (.string ⟨pn.toArray⟩) true).run Tryz.prog W1.drew.drew = .ok (.tuple #[.int .u32 (((As.look sm pn).getD 0:Nat):Int),.bool (As.look sm pn).isSome]) W1.drew.drew:=(show As.MapIs W1.drew.drew b sm from HAT.out.map).run pn HI.out.n
 generalize hAt:As.at32 (a+bs.length) = T at *
 cases hlook:As.look sm pn with
 | none=>
  rw [hlook] at hlk hlk1 hlk2
  simp only [Option.getD_none,Option.isSome_none] at hlk hlk1 hlk2
  have HP:=Lib.hid (show As.piece sm ⟨true,⟨op,rd,rs1,rs2,imm⟩,pb,1,pn,pf⟩ T = ([],41) from by unfold As.piece;rw [if_neg (fun e=>by cases e.1),if_pos ⟨fun e=>(by cases e),hlook⟩])
  clear hlook
  go_enter Tryz.func86,Tryz.ntmps86
  go_wp2_with fail
  clear hW1
  go_wp2_with fail
  refine wp_region_still_lit (by kernel_rfl) (by kernel_rfl) ?_
  rw [show ∀ W:World,{W with drawn:=W.drawn+1} = W.drew from fun _=>rfl]
  repeat ((with_reducible refine wpStill_step (fun K hK=>?_));go_simp;(try go_bits);(with_reducible refine hK _ ?_);clear hK K)
  refine wpStill_nil ?_
  go_wp2_with fail
  refine wp_region_still_lit (by kernel_rfl) (by kernel_rfl) ?_
  rw [show ∀ W:World,{W with drawn:=W.drawn+1} = W.drew from fun _=>rfl]
  repeat ((with_reducible refine wpStill_step (fun K hK=>?_));go_simp;(try go_bits);(with_reducible refine hK _ ?_);clear hK K)
  refine wpStill_nil ?_
  go_wp2_with fail
  go_ret2
  rw [HP.out]
  exact ⟨_,rfl,Rd.nil _ _,HAL.out.drew.drew⟩
 | some u=>
  have hu:=HI.out.sm pn u hlook
  rw [hlook] at hlk hlk1 hlk2
  simp only [Option.getD_some,Option.isSome_some] at hlk hlk1 hlk2
  have hv32:u < 4294967296:=hu
  have hs32:=As.s32_wrap u hv32
  have hsr:=As.s32_rng u hv32
  have hs64:IntKind.i64.wrap (As.s32 u) = As.s32 u:=by rw [IntKind.wrap_i64];omega
  have CH:=Lib.hid (fun W=>ahalves_any (As.s32 u) W hsr.1 hsr.2)
  have hj:As.aim ⟨true,⟨op,rd,rs1,rs2,imm⟩,pb,1,pn,pf⟩ u T = (⟨op,rd,rs1,rs2,As.s32 (As.bits ((u:Int) - (T:Int)))⟩,43):=rfl
  have HP:=Lib.hid (show As.piece sm ⟨true,⟨op,rd,rs1,rs2,imm⟩,pb,1,pn,pf⟩ T = if (Is.enc ⟨op,rd,rs1,rs2,As.s32 (As.bits ((u:Int) - (T:Int)))⟩).2 = 0 then (As.four (Is.enc ⟨op,rd,rs1,rs2,As.s32 (As.bits ((u:Int) - (T:Int)))⟩).1.toNat,0) else ([],43) from by
   unfold As.piece
   rw [if_neg (fun e=>by cases e.2),if_neg (fun e=>by rw [hlook] at e;cases e.2),if_neg (fun e=>by cases e),if_neg (fun e=>by cases e),hlook,Option.getD_some,hj])
  have hsub:IntKind.u32.wrap ((u:Int) - (T:Int)) = ((As.bits ((u:Int) - (T:Int)):Nat):Int):=by rw [As.bits_int,IntKind.wrap_u32]
  have hbl:=As.bits_lt ((u:Int) - (T:Int))
  have hs2:=As.s32_wrap _ hbl
  have hsr2:=As.s32_rng _ hbl
  have hs64b:IntKind.i64.wrap (As.s32 (As.bits ((u:Int) - (T:Int)))) = As.s32 (As.bits ((u:Int) - (T:Int))):=by rw [IntKind.wrap_i64];omega
  generalize hBT:As.bits ((u:Int) - (T:Int)) = BT at *
  have hok:Is.Inst.ok ⟨op,rd,rs1,rs2,As.s32 BT⟩:=⟨HI.out.ok.op,HI.out.ok.rd,HI.out.ok.rs1,HI.out.ok.rs2,by show Is.in64 (As.s32 BT);unfold Is.in64;omega⟩
  have CE:=Lib.hid (fun W=>enc_own ⟨op,rd,rs1,rs2,As.s32 BT⟩ W hok)
  have HER:=Lib.hid (As.enc_rng ⟨op,rd,rs1,rs2,As.s32 BT⟩)
  clear hok hlook
  go_enter Tryz.func86,Tryz.ntmps86
  go_wp2_with fail
  clear hW1
  go_wp2_with fail
  refine wp_region_still_lit (by kernel_rfl) (by kernel_rfl) ?_
  rw [show ∀ W:World,{W with drawn:=W.drawn+1} = W.drew from fun _=>rfl]
  repeat ((with_reducible refine wpStill_step (fun K hK=>?_));go_simp;(try go_bits);(with_reducible refine hK _ ?_);clear hK K)
  refine wpStill_nil ?_
  go_wp2_with fail
  refine wp_region_still_lit (by kernel_rfl) (by kernel_rfl) ?_
  rw [show ∀ W:World,{W with drawn:=W.drawn+1} = W.drew from fun _=>rfl]
  repeat ((with_reducible refine wpStill_step (fun K hK=>?_));go_simp;(try go_bits);(with_reducible refine hK _ ?_);clear hK K)
  refine wpStill_nil ?_
  go_wp2_with fail
  go_at_call 141
  refine (CH.out _).mono ?_
  rintro e w' ⟨rfl,rfl⟩
  go_wp2_with fail
  go_at_call 143
  refine (CE.out _).mono ?_
  rintro e w5 ⟨rfl,hb5⟩
  have HB5:=Lib.hid (show Below w.heap.size w w5 from ((HAL.out.drew.drew).setCell (Nat.le_refl _) _).trans (hb5.mono (by have:=HAL.out.size;simp [World.setCell];exact this)))
  clear hb5
  obtain ⟨ew,ee,hE⟩:∃ x y,Is.enc ⟨op,rd,rs1,rs2,As.s32 BT⟩ = (x,y):=⟨_,_,rfl⟩
  have HP2:=HP.out
  have her:=HER.out
  rw [hE] at HP2 her ⊢
  dsimp only at HP2 her ⊢
  by_cases h0:ee = 0
  ·subst h0
   rw [if_pos rfl] at HP2
   have CF:=Lib.hid (fun W=>afour_any ew.toNat W (by omega))
   rw [show ((ew.toNat:Nat):Int) = ew by omega] at CF
   go_wp2_with fail
   go_at_call 142
   refine (CF.out _).mono ?_
   rintro e w6 ⟨rfl,rfl⟩
   go_wp2_with fail
   go_ret2
   rw [HP2]
   exact ⟨_,rfl,As.rd_four _ _,HB5.out.alloc HB5.out.size _⟩
  ·have hne:(ee == (0:Int)) = false:=by simpa using h0
   have hne2:(!ee == (0:Int)) = true:=by simpa using h0
   rw [if_neg h0] at HP2
   go_wp2_with fail
   go_ret2
   rw [HP2]
   exact ⟨_,rfl,Rd.nil _ _,HB5.out⟩
set_option maxRecDepth 100000 in
set_option maxHeartbeats 8000000 in
theorem apiece_upper {B:Nat} {w:World} {gp b:Nat} {vl vb0 vs:Value} {a:Nat} {bs:List UInt8} {sm sy:List (List UInt8 × Nat)} (op rd rs1 rs2 imm:Int) (pb pn pf:List UInt8) (vb:Value) (h:As.PIn B w gp b vl vb0 vs a bs sm sy ⟨true,⟨op,rd,rs1,rs2,imm⟩,pb,2,pn,pf⟩ vb) :
  Calls Tryz.prog 86 #[.pointer (some ⟨gp,0,none⟩),.agg #[.bool true,.int .i64 op,.int .i64 rd,.int .i64 rs1,.int .i64 rs2,.int .i64 imm,vb,.int .i64 2,.string ⟨pn.toArray⟩,.string ⟨pf.toArray⟩]] w (As.PiecePost w (As.piece sm ⟨true,⟨op,rd,rs1,rs2,imm⟩,pb,2,pn,pf⟩ (As.at32 (a+bs.length)))):=by
 have HI:=Lib.hid h
 obtain ⟨BB,cb,rfl⟩:=h.rd.form
 dsimp only
 have hal:Below w.heap.size w (w.alloc (.cells #[.bool true,.int .i64 op,.int .i64 rd,.int .i64 rs1,.int .i64 rs2,.int .i64 imm,.slice BB pb.length cb,.int .i64 2,.string ⟨pn.toArray⟩,.string ⟨pf.toArray⟩] 176)):=(Below.refl _ _).alloc (Nat.le_refl _) _
 have hbk:=Bk.fresh w 176 #[.bool true,.int .i64 op,.int .i64 rd,.int .i64 rs1,.int .i64 rs2,.int .i64 imm,.slice BB pb.length cb,.int .i64 2,.string ⟨pn.toArray⟩,.string ⟨pf.toArray⟩]
 have HAT:=Lib.hid (h.at_.kept hal)
 have HRD:=Lib.hid (h.rd.kept hal)
 have HAL:=Lib.hid hal
 have HBK:=Lib.hid hbk
 clear h hal hbk
 obtain ⟨W1,hW1⟩:∃ W1,w.alloc (.cells #[.bool true,.int .i64 op,.int .i64 rd,.int .i64 rs1,.int .i64 rs2,.int .i64 imm,.slice BB pb.length cb,.int .i64 2,.string ⟨pn.toArray⟩,.string ⟨pf.toArray⟩] 176) = W1:=⟨_,rfl⟩
 rw [hW1] at HAT HRD HAL HBK
 have b0:=HBK.out.cell 0
 have b1:=HBK.out.cell 1
 have b2:=HBK.out.cell 2
 have b3:=HBK.out.cell 3
 have b4:=HBK.out.cell 4
 have b5:=HBK.out.cell 5
 have b6:=HBK.out.cell 6
 have b7:=HBK.out.cell 7
 have b8:=HBK.out.cell 8
 have b9:=HBK.out.cell 9
 have fz:=HBK.out.free 5
 simp only [List.getElem?_toArray,List.getElem?_cons_zero,List.getElem?_cons_succ] at b0 b1 b2 b3 b4 b5 b6 b7 b8 b9
 obtain ⟨Ab,cbs,hvb⟩:=(Rd.of_own HAT.out.by_).form
 subst hvb
 have c1:=HAT.out.seen.c1
 have c2:=HAT.out.seen.c2
 have c3:=HAT.out.seen.c3
 have hl32:IntKind.u32.wrap (bs.length:Int) = (bs.length:Int):=by have:=HI.out.bs;rw [IntKind.wrap_u32];omega
 have hat:IntKind.u32.wrap ((a:Int)+(bs.length:Int)) = ((As.at32 (a+bs.length):Nat):Int):=by unfold As.at32;rw [IntKind.wrap_u32];omega
 have HAL32:=Lib.hid (show As.at32 (a+bs.length) < 4294967296 from by unfold As.at32;omega)
 have hlk:=HAT.out.map.run pn HI.out.n
 have hlk1:(Instr.lookup 99 (.map (some b)) (.string ⟨pn.toArray⟩) true).run Tryz.prog W1.drew = .ok (.tuple #[.int .u32 (((As.look sm pn).getD 0:Nat):Int),.bool (As.look sm pn).isSome]) W1.drew:=(show As.MapIs W1.drew b sm from HAT.out.map).run pn HI.out.n
 have hlk2:(Instr.lookup 99 (.map (some b)) (.string ⟨pn.toArray⟩) true).run Tryz.prog W1.drew.drew = .ok (.tuple #[.int .u32 (((As.look sm pn).getD 0:Nat):Int),.bool (As.look sm pn).isSome]) W1.drew.drew:=(show As.MapIs W1.drew.drew b sm from HAT.out.map).run pn HI.out.n
 generalize hAt:As.at32 (a+bs.length) = T at *
 cases hlook:As.look sm pn with
 | none=>
  rw [hlook] at hlk hlk1 hlk2
  simp only [Option.getD_none,Option.isSome_none] at hlk hlk1 hlk2
  have HP:=Lib.hid (show As.piece sm ⟨true,⟨op,rd,rs1,rs2,imm⟩,pb,2,pn,pf⟩ T = ([],41) from by unfold As.piece;rw [if_neg (fun e=>by cases e.1),if_pos ⟨fun e=>(by cases e),hlook⟩])
  clear hlook
  go_enter Tryz.func86,Tryz.ntmps86
  go_wp2_with fail
  clear hW1
  go_wp2_with fail
  refine wp_region_still_lit (by kernel_rfl) (by kernel_rfl) ?_
  rw [show ∀ W:World,{W with drawn:=W.drawn+1} = W.drew from fun _=>rfl]
  repeat ((with_reducible refine wpStill_step (fun K hK=>?_));go_simp;(try go_bits);(with_reducible refine hK _ ?_);clear hK K)
  refine wpStill_nil ?_
  go_wp2_with fail
  refine wp_region_still_lit (by kernel_rfl) (by kernel_rfl) ?_
  rw [show ∀ W:World,{W with drawn:=W.drawn+1} = W.drew from fun _=>rfl]
  repeat ((with_reducible refine wpStill_step (fun K hK=>?_));go_simp;(try go_bits);(with_reducible refine hK _ ?_);clear hK K)
  refine wpStill_nil ?_
  go_wp2_with fail
  go_ret2
  rw [HP.out]
  exact ⟨_,rfl,Rd.nil _ _,HAL.out.drew.drew⟩
 | some u=>
  have hu:=HI.out.sm pn u hlook
  rw [hlook] at hlk hlk1 hlk2
  simp only [Option.getD_some,Option.isSome_some] at hlk hlk1 hlk2
  have hv32:u < 4294967296:=hu
  have hs32:=As.s32_wrap u hv32
  have hsr:=As.s32_rng u hv32
  have hs64:IntKind.i64.wrap (As.s32 u) = As.s32 u:=by rw [IntKind.wrap_i64];omega
  have CH:=Lib.hid (fun W=>ahalves_any (As.s32 u) W hsr.1 hsr.2)
  have hj:As.aim ⟨true,⟨op,rd,rs1,rs2,imm⟩,pb,2,pn,pf⟩ u T = (⟨op,rd,rs1,rs2,As.hi (As.s32 u)⟩,20):=rfl
  have HP:=Lib.hid (show As.piece sm ⟨true,⟨op,rd,rs1,rs2,imm⟩,pb,2,pn,pf⟩ T = if (Is.enc ⟨op,rd,rs1,rs2,As.hi (As.s32 u)⟩).2 = 0 then (As.four (Is.enc ⟨op,rd,rs1,rs2,As.hi (As.s32 u)⟩).1.toNat,0) else ([],20) from by
   unfold As.piece
   rw [if_neg (fun e=>by cases e.2),if_neg (fun e=>by rw [hlook] at e;cases e.2),if_neg (fun e=>by cases e),if_neg (fun e=>by cases e),hlook,Option.getD_some,hj])
  have hok:Is.Inst.ok ⟨op,rd,rs1,rs2,As.hi (As.s32 u)⟩:=⟨HI.out.ok.op,HI.out.ok.rd,HI.out.ok.rs1,HI.out.ok.rs2,by have:=As.hi_rng (As.s32 u);show Is.in64 (As.hi (As.s32 u));unfold Is.in64;omega⟩
  have CE:=Lib.hid (fun W=>enc_own ⟨op,rd,rs1,rs2,As.hi (As.s32 u)⟩ W hok)
  have HER:=Lib.hid (As.enc_rng ⟨op,rd,rs1,rs2,As.hi (As.s32 u)⟩)
  clear hok hlook
  go_enter Tryz.func86,Tryz.ntmps86
  go_wp2_with fail
  clear hW1
  go_wp2_with fail
  refine wp_region_still_lit (by kernel_rfl) (by kernel_rfl) ?_
  rw [show ∀ W:World,{W with drawn:=W.drawn+1} = W.drew from fun _=>rfl]
  repeat ((with_reducible refine wpStill_step (fun K hK=>?_));go_simp;(try go_bits);(with_reducible refine hK _ ?_);clear hK K)
  refine wpStill_nil ?_
  go_wp2_with fail
  refine wp_region_still_lit (by kernel_rfl) (by kernel_rfl) ?_
  rw [show ∀ W:World,{W with drawn:=W.drawn+1} = W.drew from fun _=>rfl]
  repeat ((with_reducible refine wpStill_step (fun K hK=>?_));go_simp;(try go_bits);(with_reducible refine hK _ ?_);clear hK K)
  refine wpStill_nil ?_
  go_wp2_with fail
  go_at_call 141
  refine (CH.out _).mono ?_
  rintro e w' ⟨rfl,rfl⟩
  go_wp2_with fail
  go_at_call 143
  refine (CE.out _).mono ?_
  rintro e w5 ⟨rfl,hb5⟩
  have HB5:=Lib.hid (show Below w.heap.size w w5 from ((HAL.out.drew.drew).setCell (Nat.le_refl _) _).trans (hb5.mono (by have:=HAL.out.size;simp [World.setCell];exact this)))
  clear hb5
  obtain ⟨ew,ee,hE⟩:∃ x y,Is.enc ⟨op,rd,rs1,rs2,As.hi (As.s32 u)⟩ = (x,y):=⟨_,_,rfl⟩
  have HP2:=HP.out
  have her:=HER.out
  rw [hE] at HP2 her ⊢
  dsimp only at HP2 her ⊢
  by_cases h0:ee = 0
  ·subst h0
   rw [if_pos rfl] at HP2
   have CF:=Lib.hid (fun W=>afour_any ew.toNat W (by omega))
   rw [show ((ew.toNat:Nat):Int) = ew by omega] at CF
   go_wp2_with fail
   go_at_call 142
   refine (CF.out _).mono ?_
   rintro e w6 ⟨rfl,rfl⟩
   go_wp2_with fail
   go_ret2
   rw [HP2]
   exact ⟨_,rfl,As.rd_four _ _,HB5.out.alloc HB5.out.size _⟩
  ·have hne:(ee == (0:Int)) = false:=by simpa using h0
   have hne2:(!ee == (0:Int)) = true:=by simpa using h0
   rw [if_neg h0] at HP2
   go_wp2_with fail
   go_ret2
   rw [HP2]
   exact ⟨_,rfl,Rd.nil _ _,HB5.out⟩
set_option maxRecDepth 100000 in
set_option maxHeartbeats 8000000 in
theorem apiece_lower {B:Nat} {w:World} {gp b:Nat} {vl vb0 vs:Value} {a:Nat} {bs:List UInt8} {sm sy:List (List UInt8 × Nat)} (op rd rs1 rs2 imm:Int) (pb pn pf:List UInt8) (vb:Value) (h:As.PIn B w gp b vl vb0 vs a bs sm sy ⟨true,⟨op,rd,rs1,rs2,imm⟩,pb,3,pn,pf⟩ vb) :
  Calls Tryz.prog 86 #[.pointer (some ⟨gp,0,none⟩),.agg #[.bool true,.int .i64 op,.int .i64 rd,.int .i64 rs1,.int .i64 rs2,.int .i64 imm,vb,.int .i64 3,.string ⟨pn.toArray⟩,.string ⟨pf.toArray⟩]] w (As.PiecePost w (As.piece sm ⟨true,⟨op,rd,rs1,rs2,imm⟩,pb,3,pn,pf⟩ (As.at32 (a+bs.length)))):=by
 have HI:=Lib.hid h
 obtain ⟨BB,cb,rfl⟩:=h.rd.form
 dsimp only
 have hal:Below w.heap.size w (w.alloc (.cells #[.bool true,.int .i64 op,.int .i64 rd,.int .i64 rs1,.int .i64 rs2,.int .i64 imm,.slice BB pb.length cb,.int .i64 3,.string ⟨pn.toArray⟩,.string ⟨pf.toArray⟩] 176)):=(Below.refl _ _).alloc (Nat.le_refl _) _
 have hbk:=Bk.fresh w 176 #[.bool true,.int .i64 op,.int .i64 rd,.int .i64 rs1,.int .i64 rs2,.int .i64 imm,.slice BB pb.length cb,.int .i64 3,.string ⟨pn.toArray⟩,.string ⟨pf.toArray⟩]
 have HAT:=Lib.hid (h.at_.kept hal)
 have HRD:=Lib.hid (h.rd.kept hal)
 have HAL:=Lib.hid hal
 have HBK:=Lib.hid hbk
 clear h hal hbk
 obtain ⟨W1,hW1⟩:∃ W1,w.alloc (.cells #[.bool true,.int .i64 op,.int .i64 rd,.int .i64 rs1,.int .i64 rs2,.int .i64 imm,.slice BB pb.length cb,.int .i64 3,.string ⟨pn.toArray⟩,.string ⟨pf.toArray⟩] 176) = W1:=⟨_,rfl⟩
 rw [hW1] at HAT HRD HAL HBK
 have b0:=HBK.out.cell 0
 have b1:=HBK.out.cell 1
 have b2:=HBK.out.cell 2
 have b3:=HBK.out.cell 3
 have b4:=HBK.out.cell 4
 have b5:=HBK.out.cell 5
 have b6:=HBK.out.cell 6
 have b7:=HBK.out.cell 7
 have b8:=HBK.out.cell 8
 have b9:=HBK.out.cell 9
 have fz:=HBK.out.free 5
 simp only [List.getElem?_toArray,List.getElem?_cons_zero,List.getElem?_cons_succ] at b0 b1 b2 b3 b4 b5 b6 b7 b8 b9
 obtain ⟨Ab,cbs,hvb⟩:=(Rd.of_own HAT.out.by_).form
 subst hvb
 have c1:=HAT.out.seen.c1
 have c2:=HAT.out.seen.c2
 have c3:=HAT.out.seen.c3
 have hl32:IntKind.u32.wrap (bs.length:Int) = (bs.length:Int):=by have:=HI.out.bs;rw [IntKind.wrap_u32];omega
 have hat:IntKind.u32.wrap ((a:Int)+(bs.length:Int)) = ((As.at32 (a+bs.length):Nat):Int):=by unfold As.at32;rw [IntKind.wrap_u32];omega
 have HAL32:=Lib.hid (show As.at32 (a+bs.length) < 4294967296 from by unfold As.at32;omega)
 have hlk:=HAT.out.map.run pn HI.out.n
 have hlk1:(Instr.lookup 99 (.map (some b)) (.string ⟨pn.toArray⟩) true).run Tryz.prog W1.drew = .ok (.tuple #[.int .u32 (((As.look sm pn).getD 0:Nat):Int),.bool (As.look sm pn).isSome]) W1.drew:=(show As.MapIs W1.drew b sm from HAT.out.map).run pn HI.out.n
 have hlk2:(Instr.lookup 99 (.map (some b)) (.string ⟨pn.toArray⟩) true).run Tryz.prog W1.drew.drew = .ok (.tuple #[.int .u32 (((As.look sm pn).getD 0:Nat):Int),.bool (As.look sm pn).isSome]) W1.drew.drew:=(show As.MapIs W1.drew.drew b sm from HAT.out.map).run pn HI.out.n
 generalize hAt:As.at32 (a+bs.length) = T at *
 cases hlook:As.look sm pn with
 | none=>
  rw [hlook] at hlk hlk1 hlk2
  simp only [Option.getD_none,Option.isSome_none] at hlk hlk1 hlk2
  have HP:=Lib.hid (show As.piece sm ⟨true,⟨op,rd,rs1,rs2,imm⟩,pb,3,pn,pf⟩ T = ([],41) from by unfold As.piece;rw [if_neg (fun e=>by cases e.1),if_pos ⟨fun e=>(by cases e),hlook⟩])
  clear hlook
  go_enter Tryz.func86,Tryz.ntmps86
  go_wp2_with fail
  clear hW1
  go_wp2_with fail
  refine wp_region_still_lit (by kernel_rfl) (by kernel_rfl) ?_
  rw [show ∀ W:World,{W with drawn:=W.drawn+1} = W.drew from fun _=>rfl]
  repeat ((with_reducible refine wpStill_step (fun K hK=>?_));go_simp;(try go_bits);(with_reducible refine hK _ ?_);clear hK K)
  refine wpStill_nil ?_
  go_wp2_with fail
  refine wp_region_still_lit (by kernel_rfl) (by kernel_rfl) ?_
  rw [show ∀ W:World,{W with drawn:=W.drawn+1} = W.drew from fun _=>rfl]
  repeat ((with_reducible refine wpStill_step (fun K hK=>?_));go_simp;(try go_bits);(with_reducible refine hK _ ?_);clear hK K)
  refine wpStill_nil ?_
  go_wp2_with fail
  go_ret2
  rw [HP.out]
  exact ⟨_,rfl,Rd.nil _ _,HAL.out.drew.drew⟩
 | some u=>
  have hu:=HI.out.sm pn u hlook
  rw [hlook] at hlk hlk1 hlk2
  simp only [Option.getD_some,Option.isSome_some] at hlk hlk1 hlk2
  have hv32:u < 4294967296:=hu
  have hs32:=As.s32_wrap u hv32
  have hsr:=As.s32_rng u hv32
  have hs64:IntKind.i64.wrap (As.s32 u) = As.s32 u:=by rw [IntKind.wrap_i64];omega
  have CH:=Lib.hid (fun W=>ahalves_any (As.s32 u) W hsr.1 hsr.2)
  have hj:As.aim ⟨true,⟨op,rd,rs1,rs2,imm⟩,pb,3,pn,pf⟩ u T = (⟨op,rd,rs1,rs2,As.lo (As.s32 u)⟩,20):=rfl
  have HP:=Lib.hid (show As.piece sm ⟨true,⟨op,rd,rs1,rs2,imm⟩,pb,3,pn,pf⟩ T = if (Is.enc ⟨op,rd,rs1,rs2,As.lo (As.s32 u)⟩).2 = 0 then (As.four (Is.enc ⟨op,rd,rs1,rs2,As.lo (As.s32 u)⟩).1.toNat,0) else ([],20) from by
   unfold As.piece
   rw [if_neg (fun e=>by cases e.2),if_neg (fun e=>by rw [hlook] at e;cases e.2),if_neg (fun e=>by cases e),if_neg (fun e=>by cases e),hlook,Option.getD_some,hj])
  have hok:Is.Inst.ok ⟨op,rd,rs1,rs2,As.lo (As.s32 u)⟩:=⟨HI.out.ok.op,HI.out.ok.rd,HI.out.ok.rs1,HI.out.ok.rs2,by have:=As.lo_rng (As.s32 u);show Is.in64 (As.lo (As.s32 u));unfold Is.in64;omega⟩
  have CE:=Lib.hid (fun W=>enc_own ⟨op,rd,rs1,rs2,As.lo (As.s32 u)⟩ W hok)
  have HER:=Lib.hid (As.enc_rng ⟨op,rd,rs1,rs2,As.lo (As.s32 u)⟩)
  clear hok hlook
  go_enter Tryz.func86,Tryz.ntmps86
  go_wp2_with fail
  clear hW1
  go_wp2_with fail
  refine wp_region_still_lit (by kernel_rfl) (by kernel_rfl) ?_
  rw [show ∀ W:World,{W with drawn:=W.drawn+1} = W.drew from fun _=>rfl]
  repeat ((with_reducible refine wpStill_step (fun K hK=>?_));go_simp;(try go_bits);(with_reducible refine hK _ ?_);clear hK K)
  refine wpStill_nil ?_
  go_wp2_with fail
  refine wp_region_still_lit (by kernel_rfl) (by kernel_rfl) ?_
  rw [show ∀ W:World,{W with drawn:=W.drawn+1} = W.drew from fun _=>rfl]
  repeat ((with_reducible refine wpStill_step (fun K hK=>?_));go_simp;(try go_bits);(with_reducible refine hK _ ?_);clear hK K)
  refine wpStill_nil ?_
  go_wp2_with fail
  go_at_call 141
  refine (CH.out _).mono ?_
  rintro e w' ⟨rfl,rfl⟩
  go_wp2_with fail
  go_at_call 143
  refine (CE.out _).mono ?_
  rintro e w5 ⟨rfl,hb5⟩
  have HB5:=Lib.hid (show Below w.heap.size w w5 from ((HAL.out.drew.drew).setCell (Nat.le_refl _) _).trans (hb5.mono (by have:=HAL.out.size;simp [World.setCell];exact this)))
  clear hb5
  obtain ⟨ew,ee,hE⟩:∃ x y,Is.enc ⟨op,rd,rs1,rs2,As.lo (As.s32 u)⟩ = (x,y):=⟨_,_,rfl⟩
  have HP2:=HP.out
  have her:=HER.out
  rw [hE] at HP2 her ⊢
  dsimp only at HP2 her ⊢
  by_cases h0:ee = 0
  ·subst h0
   rw [if_pos rfl] at HP2
   have CF:=Lib.hid (fun W=>afour_any ew.toNat W (by omega))
   rw [show ((ew.toNat:Nat):Int) = ew by omega] at CF
   go_wp2_with fail
   go_at_call 142
   refine (CF.out _).mono ?_
   rintro e w6 ⟨rfl,rfl⟩
   go_wp2_with fail
   go_ret2
   rw [HP2]
   exact ⟨_,rfl,As.rd_four _ _,HB5.out.alloc HB5.out.size _⟩
  ·have hne:(ee == (0:Int)) = false:=by simpa using h0
   have hne2:(!ee == (0:Int)) = true:=by simpa using h0
   rw [if_neg h0] at HP2
   go_wp2_with fail
   go_ret2
   rw [HP2]
   exact ⟨_,rfl,Rd.nil _ _,HB5.out⟩
set_option maxRecDepth 100000 in
set_option maxHeartbeats 8000000 in
theorem apiece_place {B:Nat} {w:World} {gp b:Nat} {vl vb0 vs:Value} {a:Nat} {bs:List UInt8} {sm sy:List (List UInt8 × Nat)} (op rd rs1 rs2 imm:Int) (pb pn pf:List UInt8) (vb:Value) (h:As.PIn B w gp b vl vb0 vs a bs sm sy ⟨false,⟨op,rd,rs1,rs2,imm⟩,pb,4,pn,pf⟩ vb) :
  Calls Tryz.prog 86 #[.pointer (some ⟨gp,0,none⟩),.agg #[.bool false,.int .i64 op,.int .i64 rd,.int .i64 rs1,.int .i64 rs2,.int .i64 imm,vb,.int .i64 4,.string ⟨pn.toArray⟩,.string ⟨pf.toArray⟩]] w (As.PiecePost w (As.piece sm ⟨false,⟨op,rd,rs1,rs2,imm⟩,pb,4,pn,pf⟩ (As.at32 (a+bs.length)))):=by
 have HI:=Lib.hid h
 obtain ⟨BB,cb,rfl⟩:=h.rd.form
 dsimp only
 have hal:Below w.heap.size w (w.alloc (.cells #[.bool false,.int .i64 op,.int .i64 rd,.int .i64 rs1,.int .i64 rs2,.int .i64 imm,.slice BB pb.length cb,.int .i64 4,.string ⟨pn.toArray⟩,.string ⟨pf.toArray⟩] 176)):=(Below.refl _ _).alloc (Nat.le_refl _) _
 have hbk:=Bk.fresh w 176 #[.bool false,.int .i64 op,.int .i64 rd,.int .i64 rs1,.int .i64 rs2,.int .i64 imm,.slice BB pb.length cb,.int .i64 4,.string ⟨pn.toArray⟩,.string ⟨pf.toArray⟩]
 have HAT:=Lib.hid (h.at_.kept hal)
 have HRD:=Lib.hid (h.rd.kept hal)
 have HAL:=Lib.hid hal
 have HBK:=Lib.hid hbk
 clear h hal hbk
 obtain ⟨W1,hW1⟩:∃ W1,w.alloc (.cells #[.bool false,.int .i64 op,.int .i64 rd,.int .i64 rs1,.int .i64 rs2,.int .i64 imm,.slice BB pb.length cb,.int .i64 4,.string ⟨pn.toArray⟩,.string ⟨pf.toArray⟩] 176) = W1:=⟨_,rfl⟩
 rw [hW1] at HAT HRD HAL HBK
 have b0:=HBK.out.cell 0
 have b1:=HBK.out.cell 1
 have b2:=HBK.out.cell 2
 have b3:=HBK.out.cell 3
 have b4:=HBK.out.cell 4
 have b5:=HBK.out.cell 5
 have b6:=HBK.out.cell 6
 have b7:=HBK.out.cell 7
 have b8:=HBK.out.cell 8
 have b9:=HBK.out.cell 9
 have fz:=HBK.out.free 5
 simp only [List.getElem?_toArray,List.getElem?_cons_zero,List.getElem?_cons_succ] at b0 b1 b2 b3 b4 b5 b6 b7 b8 b9
 obtain ⟨Ab,cbs,hvb⟩:=(Rd.of_own HAT.out.by_).form
 subst hvb
 have c1:=HAT.out.seen.c1
 have c2:=HAT.out.seen.c2
 have c3:=HAT.out.seen.c3
 have hl32:IntKind.u32.wrap (bs.length:Int) = (bs.length:Int):=by have:=HI.out.bs;rw [IntKind.wrap_u32];omega
 have hat:IntKind.u32.wrap ((a:Int)+(bs.length:Int)) = ((As.at32 (a+bs.length):Nat):Int):=by unfold As.at32;rw [IntKind.wrap_u32];omega
 have HAL32:=Lib.hid (show As.at32 (a+bs.length) < 4294967296 from by unfold As.at32;omega)
 have hlk:=HAT.out.map.run pn HI.out.n
 have hlk1:(Instr.lookup 99 (.map (some b)) (.string ⟨pn.toArray⟩) true).run Tryz.prog W1.drew = .ok (.tuple #[.int .u32 (((As.look sm pn).getD 0:Nat):Int),.bool (As.look sm pn).isSome]) W1.drew:=(show As.MapIs W1.drew b sm from HAT.out.map).run pn HI.out.n
 have hlk2:(Instr.lookup 99 (.map (some b)) (.string ⟨pn.toArray⟩) true).run Tryz.prog W1.drew.drew = .ok (.tuple #[.int .u32 (((As.look sm pn).getD 0:Nat):Int),.bool (As.look sm pn).isSome]) W1.drew.drew:=(show As.MapIs W1.drew.drew b sm from HAT.out.map).run pn HI.out.n
 generalize hAt:As.at32 (a+bs.length) = T at *
 cases hlook:As.look sm pn with
 | none=>
  rw [hlook] at hlk hlk1 hlk2
  simp only [Option.getD_none,Option.isSome_none] at hlk hlk1 hlk2
  have HP:=Lib.hid (show As.piece sm ⟨false,⟨op,rd,rs1,rs2,imm⟩,pb,4,pn,pf⟩ T = ([],41) from by unfold As.piece;rw [if_neg (fun e=>by cases e.1),if_pos ⟨fun e=>(by cases e),hlook⟩])
  clear hlook
  go_enter Tryz.func86,Tryz.ntmps86
  go_wp2_with fail
  clear hW1
  go_wp2_with fail
  refine wp_region_still_lit (by kernel_rfl) (by kernel_rfl) ?_
  rw [show ∀ W:World,{W with drawn:=W.drawn+1} = W.drew from fun _=>rfl]
  repeat ((with_reducible refine wpStill_step (fun K hK=>?_));go_simp;(try go_bits);(with_reducible refine hK _ ?_);clear hK K)
  refine wpStill_nil ?_
  go_wp2_with fail
  refine wp_region_still_lit (by kernel_rfl) (by kernel_rfl) ?_
  rw [show ∀ W:World,{W with drawn:=W.drawn+1} = W.drew from fun _=>rfl]
  repeat ((with_reducible refine wpStill_step (fun K hK=>?_));go_simp;(try go_bits);(with_reducible refine hK _ ?_);clear hK K)
  refine wpStill_nil ?_
  go_wp2_with fail
  go_ret2
  rw [HP.out]
  exact ⟨_,rfl,Rd.nil _ _,HAL.out.drew.drew⟩
 | some u=>
  have hu:=HI.out.sm pn u hlook
  rw [hlook] at hlk hlk1 hlk2
  simp only [Option.getD_some,Option.isSome_some] at hlk hlk1 hlk2
  have hv32:u < 4294967296:=hu
  have hs32:=As.s32_wrap u hv32
  have hsr:=As.s32_rng u hv32
  have hs64:IntKind.i64.wrap (As.s32 u) = As.s32 u:=by rw [IntKind.wrap_i64];omega
  have CH:=Lib.hid (fun W=>ahalves_any (As.s32 u) W hsr.1 hsr.2)
  have HP:=Lib.hid (show As.piece sm ⟨false,⟨op,rd,rs1,rs2,imm⟩,pb,4,pn,pf⟩ T = (As.four u,0) from by
   unfold As.piece
   rw [if_neg (fun e=>by cases e.1),if_neg (fun e=>by rw [hlook] at e;cases e.2),if_neg (fun e=>by cases e),if_pos rfl,hlook]
   rfl)
  have CF:=Lib.hid (fun W=>afour_any u W hv32)
  clear hlook
  go_enter Tryz.func86,Tryz.ntmps86
  go_wp2_with fail
  clear hW1
  go_wp2_with fail
  refine wp_region_still_lit (by kernel_rfl) (by kernel_rfl) ?_
  rw [show ∀ W:World,{W with drawn:=W.drawn+1} = W.drew from fun _=>rfl]
  repeat ((with_reducible refine wpStill_step (fun K hK=>?_));go_simp;(try go_bits);(with_reducible refine hK _ ?_);clear hK K)
  refine wpStill_nil ?_
  go_wp2_with fail
  refine wp_region_still_lit (by kernel_rfl) (by kernel_rfl) ?_
  rw [show ∀ W:World,{W with drawn:=W.drawn+1} = W.drew from fun _=>rfl]
  repeat ((with_reducible refine wpStill_step (fun K hK=>?_));go_simp;(try go_bits);(with_reducible refine hK _ ?_);clear hK K)
  refine wpStill_nil ?_
  go_wp2_with fail
  go_at_call 141
  refine (CH.out _).mono ?_
  rintro e w' ⟨rfl,rfl⟩
  go_wp2_with fail
  go_at_call 142
  refine (CF.out _).mono ?_
  rintro e w6 ⟨rfl,rfl⟩
  go_wp2_with fail
  go_ret2
  rw [HP.out]
  exact ⟨_,rfl,As.rd_four _ _,(HAL.out.drew.drew).alloc (by have:=HAL.out.size;simpa using this) _⟩
set_option maxRecDepth 100000 in
set_option maxHeartbeats 8000000 in
theorem apiece_behind {B:Nat} {w:World} {gp b:Nat} {vl vb0 vs:Value} {a:Nat} {bs:List UInt8} {sm sy:List (List UInt8 × Nat)} (op rd rs1 rs2 imm:Int) (pb pn pf:List UInt8) (vb:Value) (h:As.PIn B w gp b vl vb0 vs a bs sm sy ⟨false,⟨op,rd,rs1,rs2,imm⟩,pb,5,pn,pf⟩ vb) :
  Calls Tryz.prog 86 #[.pointer (some ⟨gp,0,none⟩),.agg #[.bool false,.int .i64 op,.int .i64 rd,.int .i64 rs1,.int .i64 rs2,.int .i64 imm,vb,.int .i64 5,.string ⟨pn.toArray⟩,.string ⟨pf.toArray⟩]] w (As.PiecePost w (As.piece sm ⟨false,⟨op,rd,rs1,rs2,imm⟩,pb,5,pn,pf⟩ (As.at32 (a+bs.length)))):=by
 have HI:=Lib.hid h
 obtain ⟨BB,cb,rfl⟩:=h.rd.form
 dsimp only
 have hal:Below w.heap.size w (w.alloc (.cells #[.bool false,.int .i64 op,.int .i64 rd,.int .i64 rs1,.int .i64 rs2,.int .i64 imm,.slice BB pb.length cb,.int .i64 5,.string ⟨pn.toArray⟩,.string ⟨pf.toArray⟩] 176)):=(Below.refl _ _).alloc (Nat.le_refl _) _
 have hbk:=Bk.fresh w 176 #[.bool false,.int .i64 op,.int .i64 rd,.int .i64 rs1,.int .i64 rs2,.int .i64 imm,.slice BB pb.length cb,.int .i64 5,.string ⟨pn.toArray⟩,.string ⟨pf.toArray⟩]
 have HAT:=Lib.hid (h.at_.kept hal)
 have HRD:=Lib.hid (h.rd.kept hal)
 have HAL:=Lib.hid hal
 have HBK:=Lib.hid hbk
 clear h hal hbk
 obtain ⟨W1,hW1⟩:∃ W1,w.alloc (.cells #[.bool false,.int .i64 op,.int .i64 rd,.int .i64 rs1,.int .i64 rs2,.int .i64 imm,.slice BB pb.length cb,.int .i64 5,.string ⟨pn.toArray⟩,.string ⟨pf.toArray⟩] 176) = W1:=⟨_,rfl⟩
 rw [hW1] at HAT HRD HAL HBK
 have b0:=HBK.out.cell 0
 have b1:=HBK.out.cell 1
 have b2:=HBK.out.cell 2
 have b3:=HBK.out.cell 3
 have b4:=HBK.out.cell 4
 have b5:=HBK.out.cell 5
 have b6:=HBK.out.cell 6
 have b7:=HBK.out.cell 7
 have b8:=HBK.out.cell 8
 have b9:=HBK.out.cell 9
 have fz:=HBK.out.free 5
 simp only [List.getElem?_toArray,List.getElem?_cons_zero,List.getElem?_cons_succ] at b0 b1 b2 b3 b4 b5 b6 b7 b8 b9
 obtain ⟨Ab,cbs,hvb⟩:=(Rd.of_own HAT.out.by_).form
 subst hvb
 have c1:=HAT.out.seen.c1
 have c2:=HAT.out.seen.c2
 have c3:=HAT.out.seen.c3
 have hl32:IntKind.u32.wrap (bs.length:Int) = (bs.length:Int):=by have:=HI.out.bs;rw [IntKind.wrap_u32];omega
 have hat:IntKind.u32.wrap ((a:Int)+(bs.length:Int)) = ((As.at32 (a+bs.length):Nat):Int):=by unfold As.at32;rw [IntKind.wrap_u32];omega
 have HAL32:=Lib.hid (show As.at32 (a+bs.length) < 4294967296 from by unfold As.at32;omega)
 have hlk:=HAT.out.map.run pn HI.out.n
 have hlk1:(Instr.lookup 99 (.map (some b)) (.string ⟨pn.toArray⟩) true).run Tryz.prog W1.drew = .ok (.tuple #[.int .u32 (((As.look sm pn).getD 0:Nat):Int),.bool (As.look sm pn).isSome]) W1.drew:=(show As.MapIs W1.drew b sm from HAT.out.map).run pn HI.out.n
 have hlk2:(Instr.lookup 99 (.map (some b)) (.string ⟨pn.toArray⟩) true).run Tryz.prog W1.drew.drew = .ok (.tuple #[.int .u32 (((As.look sm pn).getD 0:Nat):Int),.bool (As.look sm pn).isSome]) W1.drew.drew:=(show As.MapIs W1.drew.drew b sm from HAT.out.map).run pn HI.out.n
 generalize hAt:As.at32 (a+bs.length) = T at *
 cases hlook:As.look sm pn with
 | none=>
  rw [hlook] at hlk hlk1 hlk2
  simp only [Option.getD_none,Option.isSome_none] at hlk hlk1 hlk2
  have HP:=Lib.hid (show As.piece sm ⟨false,⟨op,rd,rs1,rs2,imm⟩,pb,5,pn,pf⟩ T = ([],41) from by unfold As.piece;rw [if_neg (fun e=>by cases e.1),if_pos ⟨fun e=>(by cases e),hlook⟩])
  clear hlook
  go_enter Tryz.func86,Tryz.ntmps86
  go_wp2_with fail
  clear hW1
  go_wp2_with fail
  refine wp_region_still_lit (by kernel_rfl) (by kernel_rfl) ?_
  rw [show ∀ W:World,{W with drawn:=W.drawn+1} = W.drew from fun _=>rfl]
  repeat ((with_reducible refine wpStill_step (fun K hK=>?_));go_simp;(try go_bits);(with_reducible refine hK _ ?_);clear hK K)
  refine wpStill_nil ?_
  go_wp2_with fail
  refine wp_region_still_lit (by kernel_rfl) (by kernel_rfl) ?_
  rw [show ∀ W:World,{W with drawn:=W.drawn+1} = W.drew from fun _=>rfl]
  repeat ((with_reducible refine wpStill_step (fun K hK=>?_));go_simp;(try go_bits);(with_reducible refine hK _ ?_);clear hK K)
  refine wpStill_nil ?_
  go_wp2_with fail
  go_ret2
  rw [HP.out]
  exact ⟨_,rfl,Rd.nil _ _,HAL.out.drew.drew⟩
 | some u=>
  have hu:=HI.out.sm pn u hlook
  rw [hlook] at hlk hlk1 hlk2
  simp only [Option.getD_some,Option.isSome_some] at hlk hlk1 hlk2
  have hv32:u < 4294967296:=hu
  have hs32:=As.s32_wrap u hv32
  have hsr:=As.s32_rng u hv32
  have hs64:IntKind.i64.wrap (As.s32 u) = As.s32 u:=by rw [IntKind.wrap_i64];omega
  have CH:=Lib.hid (fun W=>ahalves_any (As.s32 u) W hsr.1 hsr.2)
  have hlk3:(Instr.lookup 99 (.map (some b)) (.string ⟨pf.toArray⟩) true).run Tryz.prog W1.drew.drew.drew = .ok (.tuple #[.int .u32 (((As.look sm pf).getD 0:Nat):Int),.bool (As.look sm pf).isSome]) W1.drew.drew.drew:=(show As.MapIs W1.drew.drew.drew b sm from HAT.out.map).run pf HI.out.f
  cases hlook2:As.look sm pf with
  | none=>
   rw [hlook2] at hlk3
   simp only [Option.getD_none,Option.isSome_none] at hlk3
   have HP:=Lib.hid (show As.piece sm ⟨false,⟨op,rd,rs1,rs2,imm⟩,pb,5,pn,pf⟩ T = ([],41) from by
    unfold As.piece
    rw [if_neg (fun e=>by cases e.1),if_neg (fun e=>by rw [hlook] at e;cases e.2),if_pos rfl,hlook2])
   clear hlook hlook2
   go_enter Tryz.func86,Tryz.ntmps86
   go_wp2_with fail
   clear hW1
   go_wp2_with fail
   refine wp_region_still_lit (by kernel_rfl) (by kernel_rfl) ?_
   rw [show ∀ W:World,{W with drawn:=W.drawn+1} = W.drew from fun _=>rfl]
   repeat ((with_reducible refine wpStill_step (fun K hK=>?_));go_simp;(try go_bits);(with_reducible refine hK _ ?_);clear hK K)
   refine wpStill_nil ?_
   go_wp2_with fail
   refine wp_region_still_lit (by kernel_rfl) (by kernel_rfl) ?_
   rw [show ∀ W:World,{W with drawn:=W.drawn+1} = W.drew from fun _=>rfl]
   repeat ((with_reducible refine wpStill_step (fun K hK=>?_));go_simp;(try go_bits);(with_reducible refine hK _ ?_);clear hK K)
   refine wpStill_nil ?_
   go_wp2_with fail
   go_at_call 141
   refine (CH.out _).mono ?_
   rintro e w' ⟨rfl,rfl⟩
   go_wp2_with fail
   refine wp_region_still_lit (by kernel_rfl) (by kernel_rfl) ?_
   rw [show ∀ W:World,{W with drawn:=W.drawn+1} = W.drew from fun _=>rfl]
   repeat ((with_reducible refine wpStill_step (fun K hK=>?_));go_simp;(try go_bits);(with_reducible refine hK _ ?_);clear hK K)
   refine wpStill_nil ?_
   go_wp2_with fail
   go_ret2
   rw [HP.out]
   exact ⟨_,rfl,Rd.nil _ _,HAL.out.drew.drew.drew⟩
  | some u2=>
   have hu2:=HI.out.sm pf u2 hlook2
   rw [hlook2] at hlk3
   simp only [Option.getD_some,Option.isSome_some] at hlk3
   have HP:=Lib.hid (show As.piece sm ⟨false,⟨op,rd,rs1,rs2,imm⟩,pb,5,pn,pf⟩ T = (As.four (As.bits ((u:Int) - (u2:Int))),0) from by
    unfold As.piece
    rw [if_neg (fun e=>by cases e.1),if_neg (fun e=>by rw [hlook] at e;cases e.2),if_pos rfl,hlook2,hlook]
    rfl)
   have hsub:IntKind.u32.wrap ((u:Int) - (u2:Int)) = ((As.bits ((u:Int) - (u2:Int)):Nat):Int):=by rw [As.bits_int,IntKind.wrap_u32]
   have CF:=Lib.hid (fun W=>afour_any (As.bits ((u:Int) - (u2:Int))) W (As.bits_lt _))
   clear hlook hlook2
   go_enter Tryz.func86,Tryz.ntmps86
   go_wp2_with fail
   clear hW1
   go_wp2_with fail
   refine wp_region_still_lit (by kernel_rfl) (by kernel_rfl) ?_
   rw [show ∀ W:World,{W with drawn:=W.drawn+1} = W.drew from fun _=>rfl]
   repeat ((with_reducible refine wpStill_step (fun K hK=>?_));go_simp;(try go_bits);(with_reducible refine hK _ ?_);clear hK K)
   refine wpStill_nil ?_
   go_wp2_with fail
   refine wp_region_still_lit (by kernel_rfl) (by kernel_rfl) ?_
   rw [show ∀ W:World,{W with drawn:=W.drawn+1} = W.drew from fun _=>rfl]
   repeat ((with_reducible refine wpStill_step (fun K hK=>?_));go_simp;(try go_bits);(with_reducible refine hK _ ?_);clear hK K)
   refine wpStill_nil ?_
   go_wp2_with fail
   go_at_call 141
   refine (CH.out _).mono ?_
   rintro e w' ⟨rfl,rfl⟩
   go_wp2_with fail
   refine wp_region_still_lit (by kernel_rfl) (by kernel_rfl) ?_
   rw [show ∀ W:World,{W with drawn:=W.drawn+1} = W.drew from fun _=>rfl]
   repeat ((with_reducible refine wpStill_step (fun K hK=>?_));go_simp;(try go_bits);(with_reducible refine hK _ ?_);clear hK K)
   refine wpStill_nil ?_
   go_wp2_with fail
   go_at_call 142
   refine (CF.out _).mono ?_
   rintro e w6 ⟨rfl,rfl⟩
   go_wp2_with fail
   go_ret2
   rw [HP.out]
   exact ⟨_,rfl,As.rd_four _ _,(HAL.out.drew.drew.drew).alloc (by have:=HAL.out.size;simpa using this) _⟩
theorem apiece_any {B:Nat} {w:World} {gp b:Nat} {vl vb0 vs:Value} {a:Nat} {bs:List UInt8} {sm sy:List (List UInt8 × Nat)} (p:As.P) (vb:Value) (h:As.PIn B w gp b vl vb0 vs a bs sm sy p vb) (hw:As.Wf p) :
  Calls Tryz.prog 86 #[.pointer (some ⟨gp,0,none⟩),.agg #[.bool p.code,.int .i64 p.inst.op,.int .i64 p.inst.rd,.int .i64 p.inst.rs1,.int .i64 p.inst.rs2,.int .i64 p.inst.imm,vb,.int .i64 (p.kind:Int),.string ⟨p.name.toArray⟩,.string ⟨p.src.toArray⟩]] w (As.PiecePost w (As.piece sm p (As.at32 (a+bs.length)))):=by
 obtain ⟨pc,⟨op,rd,rs1,rs2,imm⟩,pb,pk,pn,pf⟩:=p
 cases pc
 ·rcases hw.data rfl with hk | ⟨hk | hk,_⟩
  ·have hk:pk = 0:=hk
   subst hk;exact apiece_raw op rd rs1 rs2 imm pb pn pf vb h
  ·have hk:pk = 4:=hk
   subst hk;exact apiece_place op rd rs1 rs2 imm pb pn pf vb h
  ·have hk:pk = 5:=hk
   subst hk;exact apiece_behind op rd rs1 rs2 imm pb pn pf vb h
 ·have hk:pk≤3:=(hw.code rfl).2
  have hk:pk = 0 ∨ pk = 1 ∨ pk = 2 ∨ pk = 3:=by omega
  rcases hk with hk | hk | hk | hk <;> subst hk
  ·exact apiece_code op rd rs1 rs2 imm pb pn pf vb h
  ·exact apiece_goal op rd rs1 rs2 imm pb pn pf vb h
  ·exact apiece_upper op rd rs1 rs2 imm pb pn pf vb h
  ·exact apiece_lower op rd rs1 rs2 imm pb pn pf vb h
end Go.Proofs.YtpcpaoeajcjoiaaGreatDoor
