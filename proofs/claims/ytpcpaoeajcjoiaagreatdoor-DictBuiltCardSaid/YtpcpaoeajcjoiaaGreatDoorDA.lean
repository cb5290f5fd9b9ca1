/- Texts joined, what is not reached left out. -/
import Derived.Test.YtpcpaoeajcjoiaaGreatDoorQA
import Derived.Test.YtpcpaoeajcjoiaaGreatDoorNP
import Derived.Test.YtpcpaoeajcjoiaaGreatDoorPJ
set_option linter.unusedVariables false
set_option linter.unusedSimpArgs false
namespace Go.Proofs.YtpcpaoeajcjoiaaGreatDoor
open Go.RowKit Kit
theorem bytes_out (w:World) (gm gb:Nat) (b:List UInt8) (hs:List (Nat × Nat)) (a:Nat) (n:Int) (ha:a < 4294967296) (h:OwnM w gm gb b hs) (hin:¬ (0≤n∧(a:Int)+n≤b.length)) :
  Calls Tryz.prog 37 #[.pointer (some ⟨gm,0,none⟩),.int .u32 a,.int .i64 n] w fun e w'=>e = .returned (.slice none 0 0)∧w = w':=by
 obtain ⟨A,c,cap,c0,c1,hrw,hcm,hgm,hne⟩:=h.cells
 have hhi:=h.hi
 have hN:=Lib.hid (none_own w gm gb _ _ c0)
 have hT:=there_own w gm gb _ _ a n h.hi ha c0
 clear c1 h hrw
 rw [show Mm.thereB b.length a n = false by unfold Mm.thereB;simp;omega] at hT
 have HT:=Lib.hid hT
 clear hT
 generalize b.length = len at *
 go_enter Tryz.func37,Tryz.ntmps37
 go_wp2_with (first | (go_at_call 79;refine hN.out.mono ?_;rintro e w' ⟨rfl,rfl⟩) | (go_at_call 80;refine HT.out.mono ?_;rintro e w' ⟨rfl,rfl⟩))
 go_ret
 exact ⟨rfl,rfl⟩
abbrev Dc.rv (gm:Nat):Value:=.agg #[.pointer (some ⟨gm,0,none⟩)]
def Dc.wd (b:List UInt8) (a:Nat):Option Nat:=if a+4≤b.length then some (Nm.wat b a) else none
theorem Dc.own_at {w:World} {base:Nat} {v:Value} {l:List UInt8} (h:OwnB 5 base w v l) (hl:l ≠ []):∃ g c,v = .slice (some ⟨g,0,none⟩) l.length c∧g < w.heap.size∧∀ j,j < l.length→w.cell? ⟨g,j,none⟩ = some (.int .u8 (l.getD j 0).toNat):=by
 rcases h.shape with ⟨rfl,rfl⟩ | ⟨g,cap,rfl,hb,hg,hlc,hcm,hc,_⟩
 ·exact absurd rfl hl
 ·exact ⟨g,cap,rfl,hg,hc⟩
theorem Dc.word_ret {o:Option Nat} {n:Nat} (h:o = some n):Ending.returned (.tuple #[.int .u32 (n:Int),.bool true]) = .returned (.tuple #[.int .u32 ((o.getD 0:Nat):Int),.bool o.isSome]):=by
 subst h
 rfl
theorem Dc.get4 (b:List UInt8) (a:Nat) (j:Nat) (hj:j < 4):(Mm.get b a 4).getD j 0 = b.getD (a+j) 0:=Mm.get_getD b a 4 j hj
set_option maxRecDepth 20000 in
theorem dword_any (w:World) (gm gb:Nat) (b:List UInt8) (hs:List (Nat × Nat)) (a:Nat) (ha:a < 4294967296) (h:OwnM w gm gb b hs) :
  Calls Tryz.prog 71 #[Dc.rv gm,.int .u32 (a:Int)] w fun e w'=>e = .returned (.tuple #[.int .u32 (((Dc.wd b a).getD 0:Nat):Int),.bool (Dc.wd b a).isSome])∧Below w.heap.size w w':=by
 have hq:=mq34
 have hal:Below w.heap.size w (w.alloc (.cells #[.pointer (some ⟨gm,0,none⟩)] 153)):=(Below.refl _ _).alloc (Nat.le_refl _) _
 have hM:=h.kept hal
 by_cases hx:a+4≤b.length
 ·have HW:=Lib.hid (show Dc.wd b a = some (Nm.wat b a) from by unfold Dc.wd;rw [if_pos hx])
  have CB:=bytes_own _ gm gb b hs a 4 ha hM
  have e1:Mm.bytesL b a 4 = Mm.get b a 4:=by unfold Mm.bytesL;rw [if_pos ⟨by omega,by omega⟩];rfl
  rw [e1] at CB
  have CB:=Lib.hid CB
  have HAL:=Lib.hid hal
  have hln:(Mm.get b a 4).length = 4:=Mm.get_length b a 4 hx
  have HV1:=Lib.hid (show Nm.wat b a = Nm.wordN ((Mm.get b a 4).getD 0 0).toNat ((Mm.get b a 4).getD 1 0).toNat ((Mm.get b a 4).getD 2 0).toNat ((Mm.get b a 4).getD 3 0).toNat from by
   rw [Dc.get4 b a 0 (by decide),Dc.get4 b a 1 (by decide),Dc.get4 b a 2 (by decide),Dc.get4 b a 3 (by decide)]
   rfl)
  clear h hal hM e1
  go_enter Tryz.func71,Tryz.ntmps71
  go_wp2_with fail
  go_at_call 37
  refine CB.out.mono ?_
  rintro e w2 ⟨v,rfl,hv,hb2⟩
  have HB2:=Lib.hid (HAL.out.trans (hb2.mono HAL.out.size))
  obtain ⟨g,c,rfl,hg,hc⟩:=Dc.own_at hv (by intro e;rw [e] at hln;cases hln)
  rw [hln] at hc ⊢
  have c0:=hc 0 (by decide)
  have c1:=hc 1 (by decide)
  have c2:=hc 2 (by decide)
  have c3:=hc 3 (by decide)
  have h0:=((Mm.get b a 4).getD 0 0).toNat_lt
  have h1:=((Mm.get b a 4).getD 1 0).toNat_lt
  have h2:=((Mm.get b a 4).getD 2 0).toNat_lt
  have h3:=((Mm.get b a 4).getD 3 0).toNat_lt
  generalize ((Mm.get b a 4).getD 0 0).toNat = x0 at *
  generalize ((Mm.get b a 4).getD 1 0).toNat = x1 at *
  generalize ((Mm.get b a 4).getD 2 0).toNat = x2 at *
  generalize ((Mm.get b a 4).getD 3 0).toNat = x3 at *
  have HV:=Lib.hid (Nm.word_or x0 x1 x2 x3 h0 h1 h2 h3)
  clear hv hb2 hc hg
  go_wp2_with fail
  refine wp_region_still_lit (by kernel_rfl) (by kernel_rfl) ?_
  repeat ((with_reducible refine wpStill_step (fun K hK=>?_));go_simp;(try go_bits);(with_reducible refine hK _ ?_);clear hK K)
  refine wpStill_nil ?_
  rw [HV.out]
  rw [HV1.out] at HW
  generalize Nm.wordN x0 x1 x2 x3 = w4 at *
  clear HV HV1
  go_wp2_with fail
  have HE:=Lib.hid (Dc.word_ret HW.out)
  refine bodyPost_ret (v:=.tuple #[.int .u32 (w4:Int),.bool true]) (by simp [results,Tryz.results71,go_sem]) rfl ?_
  exact ⟨HE.out,HB2.out.drew⟩
 ·have HW:=Lib.hid (show Dc.wd b a = none from by unfold Dc.wd;rw [if_neg hx])
  have CB:=Lib.hid (bytes_out _ gm gb b hs a 4 ha hM (by omega))
  have HAL:=Lib.hid hal
  clear h hal hM
  go_enter Tryz.func71,Tryz.ntmps71
  go_wp2_with (go_at_call 37;refine CB.out.mono ?_;rintro e w2 ⟨rfl,rfl⟩)
  go_ret2
  refine ⟨?_,HAL.out⟩
  rw [HW.out]
  rfl
theorem nread_rd (v:Value) (l:List UInt8) (w:World) (h:RdB w v l) (h2000:l.length≤2000) :
  Calls Tryz.prog 24 #[v] w fun e w'=>e = .returned (Nm.readV l)∧Below w.heap.size w w':=by
 rcases h with ⟨a,c,rfl,rfl⟩ | ⟨g,off,cap,rfl,hg,hl,hm,hc⟩
 ·rw [Nm.readV_bad (by decide)]
  exact read_short _ [] w (.inl ⟨a,c,rfl,rfl⟩) (by decide)
 ·exact read_own g off cap l w hc hg hl hm h2000
structure Dc.H where
 name:List UInt8
 fl:Nat
 link:Nat
 xt:Nat
 size:Nat
def Dc.hd (l:List UInt8):Dc.H:=if Nm.goodB l then ⟨Nm.name l,Nm.flg l,Nm.wat l 0,Nm.wat l 4,Nm.wat l 8⟩ else ⟨[],0,0,0,0⟩
def Dc.long (l:List UInt8):Nat:=if Nm.goodB l then Nm.lengthN (Nm.nl l) else 0
def Dc.err (l:List UInt8):Nat:=if Nm.goodB l then 0 else 45
abbrev Dc.H.v (h:Dc.H):Value:=hv ⟨h.name.toArray⟩ h.fl h.link h.xt h.size
theorem Dc.readV_eq (l:List UInt8):Nm.readV l = .tuple #[(Dc.hd l).v,.int .i64 (Dc.long l:Nat),.int .i64 (Dc.err l:Nat)]:=by
 unfold Nm.readV Dc.hd Dc.long Dc.err
 cases Nm.goodB l <;> rfl
def Dc.win (b:List UInt8) (a:Nat):List UInt8:=(b.drop a).take 48
theorem Dc.win_len (b:List UInt8) (a:Nat):(Dc.win b a).length≤48:=by unfold Dc.win;rw [List.length_take];omega
theorem Dc.win_eq (b:List UInt8) (a:Nat) (n m:Int) (hb:b.length≤1048576) (hn:n = min 48 ((b.length:Int) - min (a:Int) 1048576)) (hm:m = max n 0):Mm.bytesL b a m = Dc.win b a:=by
 subst hm hn
 unfold Mm.bytesL Dc.win Mm.get
 by_cases h:a≤b.length
 ·rw [if_pos (by omega)]
  by_cases h2:48≤b.length - a
  ·rw [show (max (min 48 ((b.length:Int) - min (a:Int) 1048576)) 0).toNat = 48 by omega]
  ·rw [show (max (min 48 ((b.length:Int) - min (a:Int) 1048576)) 0).toNat = b.length - a by omega]
   rw [List.take_of_length_le (by rw [List.length_drop];omega),List.take_of_length_le (by rw [List.length_drop];omega)]
 ·rw [if_neg (by omega),List.drop_of_length_le (by omega)]
  rfl
def Dc.aft (b:List UInt8) (a:Nat):Nat:=(a+Dc.long (Dc.win b a)+4) % 4294967296
def Dc.okH (b:List UInt8) (a:Nat):Bool:=Nm.goodB (Dc.win b a) && decide (a % 4 = 0)
theorem Dc.head_ret {H:Dc.H} {nm:List UInt8} {fl lk xt sz a a':Nat} {o o':Bool} (h:H = ⟨nm,fl,lk,xt,sz⟩) (h2:a' = a) (h3:o' = o) :
  Ending.returned (.tuple #[.agg #[.string ⟨nm.toArray⟩,.int .i64 (fl:Int),.int .u32 (lk:Int),.int .u32 (xt:Int),.int .u32 (sz:Int)],.int .u32 (a:Int),.bool o]) = .returned (.tuple #[H.v,.int .u32 (a':Int),.bool o']):=by
 subst h h2 h3
 rfl
theorem Dc.aft_facts {a L af:Nat} (ha:a < 4294967296) (hL:L≤48) (h:af = (a+L+4) % 4294967296):IntKind.u32.wrap (L:Int) = (L:Int)∧∃ q:Int,IntKind.u32.wrap ((a:Int)+(L:Int)) = q∧IntKind.u32.wrap (q+4) = (af:Int):=by
 refine ⟨by rw [IntKind.wrap_u32];omega,((a:Int)+L) % 4294967296,by rw [IntKind.wrap_u32],?_⟩
 rw [IntKind.wrap_u32]
 omega
theorem Dc.rem4 (a:Nat):∃ r:Nat,Int.tmod (a:Int) 4 = (r:Int)∧r = a % 4:=⟨a % 4,by rw [Int.tmod_eq_emod_of_nonneg (by omega)];omega,rfl⟩
set_option maxRecDepth 20000 in
theorem dhead_any (w:World) (gm gb:Nat) (b:List UInt8) (hs:List (Nat × Nat)) (a:Nat) (ha:a < 4294967296) (h:OwnM w gm gb b hs) :
  Calls Tryz.prog 193 #[Dc.rv gm,.int .u32 (a:Int)] w fun e w'=>e = .returned (.tuple #[(Dc.hd (Dc.win b a)).v,.int .u32 (Dc.aft b a:Nat),.bool (Dc.okH b a)])∧Below w.heap.size w w':=by
 have hal:Below w.heap.size w ((w.alloc (.cells #[.pointer (some ⟨gm,0,none⟩)] 153)).alloc (.cells #[.string ⟨#[]⟩,.int .i64 0,.int .u32 0,.int .u32 0,.int .u32 0] 55)):=((Below.refl _ _).alloc (Nat.le_refl _) _).alloc (by simp) _
 have hM:=h.kept hal
 have hhi:=h.hi
 obtain ⟨w1,hw1⟩:∃ w1,(w.alloc (.cells #[.pointer (some ⟨gm,0,none⟩)] 153)).alloc (.cells #[.string ⟨#[]⟩,.int .i64 0,.int .u32 0,.int .u32 0,.int .u32 0] 55) = w1:=⟨_,rfl⟩
 rw [hw1] at hal hM
 have CS:=Lib.hid (size_own w1 gm gb b hs hM)
 have CB:=Lib.hid (fun (n:Int)=>bytes_own w1 gm gb b hs a n ha hM)
 have HAL:=Lib.hid hal
 have bx:w1.cell? ⟨w.heap.size,0,none⟩ = some (.pointer (some ⟨gm,0,none⟩)):=by
  rw [← hw1,World.cell?_alloc_past _ _ _ (by simp)]
  exact (Bk.fresh w _ _).cell 0
 have HW:=Lib.hid (fun n m h1 h2=>Dc.win_eq b a n m hhi h1 h2)
 clear h hal hM
 go_enter Tryz.func193,Tryz.ntmps193
 go_wp2_with (go_at_call 70;refine CS.out.mono ?_;rintro e w' ⟨rfl,rfl⟩)
 go_at_call 37
 refine (CB.out _).mono ?_
 rintro e w2 ⟨v,rfl,hv,hb2⟩
 rw [HW.out _ _ rfl rfl] at hv
 have CR:=Lib.hid (nread_rd v (Dc.win b a) w2 hv.rd (Nat.le_trans (Dc.win_len b a) (by decide)))
 rw [Dc.readV_eq] at CR
 have HB2:=Lib.hid (HAL.out.trans (hb2.mono HAL.out.size))
 have bk4:Bk w1 (w.heap.size+1) 55 #[.string ⟨#[]⟩,.int .i64 0,.int .u32 0,.int .u32 0,.int .u32 0]:=by
  rw [← hw1]
  have:=Bk.fresh (w.alloc (.cells #[.pointer (some ⟨gm,0,none⟩)] 153)) 55 #[.string ⟨#[]⟩,.int .i64 0,.int .u32 0,.int .u32 0,.int .u32 0]
  rw [World.size_alloc] at this
  exact this
 have HK2:=Lib.hid (bk4.kept hb2)
 have HAF:=Lib.hid (show Dc.aft b a = (a+Dc.long (Dc.win b a)+4) % 4294967296 from rfl)
 have HOK:=Lib.hid (show Dc.okH b a = (Nm.goodB (Dc.win b a) && decide (a % 4 = 0)) from rfl)
 have hlg:Dc.long (Dc.win b a)≤48:=by
  unfold Dc.long
  split
  ·unfold Nm.lengthN;split <;> omega
  ·omega
 have HER:=Lib.hid (show Dc.err (Dc.win b a) = if Nm.goodB (Dc.win b a) then 0 else 45 from rfl)
 obtain ⟨af,haf⟩:∃ q,Dc.aft b a = q:=⟨_,rfl⟩
 obtain ⟨okh,hokh⟩:∃ q,Dc.okH b a = q:=⟨_,rfl⟩
 obtain ⟨Hd,hHd⟩:∃ q,Dc.hd (Dc.win b a) = q:=⟨_,rfl⟩
 rw [haf] at HAF
 rw [hokh] at HOK
 rw [hHd] at CR
 generalize Dc.long (Dc.win b a) = L at *
 generalize Dc.err (Dc.win b a) = E at *
 generalize Nm.goodB (Dc.win b a) = gd at *
 have HAFE:=Lib.hid haf
 have HOKE:=Lib.hid hokh
 obtain ⟨nm,fl,lk,xt,sz⟩:=Hd
 have HHD:=Lib.hid hHd
 dsimp only [Dc.H.v] at CR
 obtain ⟨f1,q,f2,f3⟩:=Dc.aft_facts ha hlg HAF.out
 obtain ⟨r,r1,r2⟩:=Dc.rem4 a
 clear hv hb2 hw1 bk4 bx hlg HAF haf hokh hHd
 go_wp2_with fail
 go_at_call 24
 refine CR.out.mono ?_
 rintro e w3 ⟨rfl,hb3⟩
 have HB3:=Lib.hid (HB2.out.trans (hb3.mono HB2.out.size))
 have HK3:=Lib.hid (HK2.out.kept hb3)
 have hlt:=HK3.out.lt
 have hal:Below w3.heap.size w3 (w3.alloc (.cells #[.string ⟨nm.toArray⟩,.int .i64 (fl:Int),.int .u32 (lk:Int),.int .u32 (xt:Int),.int .u32 (sz:Int)] 55)):=(Below.refl _ _).alloc (Nat.le_refl _) _
 have hbk:=Bk.fresh w3 55 #[.string ⟨nm.toArray⟩,.int .i64 (fl:Int),.int .u32 (lk:Int),.int .u32 (xt:Int),.int .u32 (sz:Int)]
 have HK4:=Lib.hid (HK3.out.kept hal)
 have HB4:=Lib.hid (HB3.out.trans (hal.mono HB3.out.size))
 obtain ⟨w4,hw4⟩:∃ w4,w3.alloc (.cells #[.string ⟨nm.toArray⟩,.int .i64 (fl:Int),.int .u32 (lk:Int),.int .u32 (xt:Int),.int .u32 (sz:Int)] 55) = w4:=⟨_,rfl⟩
 rw [hw4] at hbk HK4 HB4
 have x0:=hbk.cell 0
 have x1:=hbk.cell 1
 have x2:=hbk.cell 2
 have x3:=hbk.cell 3
 have x4:=hbk.cell 4
 have y0:=HK4.out.free 0
 have y1:=HK4.out.free 1
 have y2:=HK4.out.free 2
 have y3:=HK4.out.free 3
 have y4:=HK4.out.free 4
 have z0:=HK4.out.cell 0
 have z1:=HK4.out.cell 1
 have z2:=HK4.out.cell 2
 have z3:=HK4.out.cell 3
 have z4:=HK4.out.cell 4
 have hne:w3.heap.size ≠ w.heap.size+1:=by omega
 clear hb3 hal hbk hlt
 cases gd
 ·have hE:E = 45:=HER.out
  subst hE
  have HO:=Lib.hid (show okh = false from HOK.out)
  go_wp2_with fail
  have hk5:=((((HK4.out.set 0 (.string ⟨nm.toArray⟩)).set 1 (.int .i64 (fl:Int))).set 2 (.int .u32 (lk:Int))).set 3 (.int .u32 (xt:Int))).set 4 (.int .u32 (sz:Int))
  have p0:=hk5.cell 0
  have p1:=hk5.cell 1
  have p2:=hk5.cell 2
  have p3:=hk5.cell 3
  have p4:=hk5.cell 4
  refine bodyPost_ret (v:=.tuple #[.agg #[.string ⟨nm.toArray⟩,.int .i64 (fl:Int),.int .u32 (lk:Int),.int .u32 (xt:Int),.int .u32 (sz:Int)],.int .u32 (af:Int),.bool false]) (by simp [results,Tryz.results193,go_sem,p0,p1,p2,p3,p4]) rfl ?_
  exact ⟨Dc.head_ret HHD.out HAFE.out (HOKE.out.trans HO.out),((((HB4.out.setCell (Nat.le_succ _) _).setCell (Nat.le_succ _) _).setCell (Nat.le_succ _) _).setCell (Nat.le_succ _) _).setCell (Nat.le_succ _) _⟩
 ·have hE:E = 0:=HER.out
  subst hE
  by_cases hr:r = 0
  ·subst hr
   have HO:=Lib.hid (show okh = true from by rw [HOK.out,← r2];rfl)
   clear r2
   go_wp2_with fail
   have hk5:=((((HK4.out.set 0 (.string ⟨nm.toArray⟩)).set 1 (.int .i64 (fl:Int))).set 2 (.int .u32 (lk:Int))).set 3 (.int .u32 (xt:Int))).set 4 (.int .u32 (sz:Int))
   have p0:=hk5.cell 0
   have p1:=hk5.cell 1
   have p2:=hk5.cell 2
   have p3:=hk5.cell 3
   have p4:=hk5.cell 4
   refine bodyPost_ret (v:=.tuple #[.agg #[.string ⟨nm.toArray⟩,.int .i64 (fl:Int),.int .u32 (lk:Int),.int .u32 (xt:Int),.int .u32 (sz:Int)],.int .u32 (af:Int),.bool true]) (by simp [results,Tryz.results193,go_sem,p0,p1,p2,p3,p4]) rfl ?_
   exact ⟨Dc.head_ret HHD.out HAFE.out (HOKE.out.trans HO.out),((((HB4.out.setCell (Nat.le_succ _) _).setCell (Nat.le_succ _) _).setCell (Nat.le_succ _) _).setCell (Nat.le_succ _) _).setCell (Nat.le_succ _) _⟩
  ·have hr2:((r:Int) == 0) = false:=by rw [beq_eq_false_iff_ne];omega
   have HO:=Lib.hid (show okh = false from by rw [HOK.out,← r2];simp [hr])
   clear r2
   go_wp2_with fail
   have hk5:=((((HK4.out.set 0 (.string ⟨nm.toArray⟩)).set 1 (.int .i64 (fl:Int))).set 2 (.int .u32 (lk:Int))).set 3 (.int .u32 (xt:Int))).set 4 (.int .u32 (sz:Int))
   have p0:=hk5.cell 0
   have p1:=hk5.cell 1
   have p2:=hk5.cell 2
   have p3:=hk5.cell 3
   have p4:=hk5.cell 4
   refine bodyPost_ret (v:=.tuple #[.agg #[.string ⟨nm.toArray⟩,.int .i64 (fl:Int),.int .u32 (lk:Int),.int .u32 (xt:Int),.int .u32 (sz:Int)],.int .u32 (af:Int),.bool false]) (by simp [results,Tryz.results193,go_sem,p0,p1,p2,p3,p4]) rfl ?_
   exact ⟨Dc.head_ret HHD.out HAFE.out (HOKE.out.trans HO.out),((((HB4.out.setCell (Nat.le_succ _) _).setCell (Nat.le_succ _) _).setCell (Nat.le_succ _) _).setCell (Nat.le_succ _) _).setCell (Nat.le_succ _) _⟩
end Go.Proofs.YtpcpaoeajcjoiaaGreatDoor
