/- Texts joined, what is not reached left out. -/
import Derived.Test.YtpcpaoeajcjoiaaGreatDoorMM
import Derived.Lib.ConvBytes
import Derived.Test.YtpcpaoeajcjoiaaGreatDoorMS
import Derived.Test.YtpcpaoeajcjoiaaGreatDoorMB
set_option linter.unusedVariables false
set_option linter.unusedSimpArgs false
namespace Go.Proofs.YtpcpaoeajcjoiaaGreatDoor
open Go.RowKit Kit
set_option maxRecDepth 100000 in
set_option maxHeartbeats 8000000 in
theorem adata_word {F:Nat→Prop} {w:World} {gx:Nat} {x:As.L} (h:As.Mk F w gx x) (hT:As.Tb F w) (hsh:As.Short x.l) (hl:x.p.length+x.l.length≤700000000) (a:Nat) (ha:a < 4294967296) :
  Calls Tryz.prog 140 #[.pointer (some ⟨gx,0,none⟩),.string ⟨#[119,111,114,100]⟩,.int .u32 (a:Int)] w (As.OptPost F w gx (As.data As.tWord a x)):=by
 have HP:=Lib.hid (show As.data As.tWord a x = some (As.loop As.word1 (x.l.length+1) x) from by unfold As.data;rw [if_pos rfl])
 have HM0:=Lib.hid h
 have HT0:=Lib.hid hT
 have HS0:=Lib.hid hsh
 have HL:=Lib.hid hl
 have HR:=Lib.hid (fun y=>As.num_range y)
 clear h hT hsh hl
 rw [HP.out]
 clear HP
 go_enter Tryz.func140,Tryz.ntmps140
 go_wp2_with fail
 go_loopw [7] (fun f wr=>∃ (b:Bool) (y:As.L) (G:Nat→Prop),f = .bool b∧As.Mk G wr gx y∧As.Tb G wr∧As.Short y.l∧Step F w G wr∧y.p.length+y.l.length≤x.p.length+x.l.length+(if b = true then 0 else 1)∧As.Now As.word1 x b y) (fun f wr=>As.meas gx f wr)
 case atStart=>exact ⟨true,x,F,rfl,HM0.out,HT0.out,HS0.out,Step.refl _ _,Nat.le_refl _,by unfold As.Now;rw [if_pos rfl]⟩
 case round=>
  obtain ⟨b,y,G,rfl,hm,hT,hsh,hst,hlen,hnow⟩:=hrel
  have HM:=Lib.hid hm
  have HT:=Lib.hid hT
  have HS:=Lib.hid hsh
  have HST:=Lib.hid hst
  have HN:=Lib.hid hnow
  have HLN:=Lib.hid (show y.p.length≤900000000∧(As.B1 b y→y.p.length+1+y.l.tail.length≤x.p.length+x.l.length+1) from by
   have:=HL.out
   refine ⟨by split at hlen <;> omega,fun hb=>?_⟩
   rw [List.length_tail]
   unfold As.B1 at hb
   rcases hb with hb | hb
   ·subst hb;rw [if_pos rfl] at hlen;omega
   ·have:=List.length_pos_iff.2 hb;split at hlen <;> omega)
  obtain ⟨vl,hs⟩:=hm.seen
  have c0:=hs.c0
  obtain ⟨A0,cc0,rfl⟩:=Rd.form hs.rd
  clear hm hT hsh hst hnow hlen hs
  cases b
  ·by_cases hy:y.l = []
   ·have HY:=Lib.hid (HN.out.done hy)
    have hy0:(y.l.length:Int) = 0:=by rw [hy];rfl
    clear hy
    generalize y.l.length = ny at *
    obtain rfl:ny = 0:=by omega
    go_wp2_with fail
    go_ret
    rw [← HY.out]
    exact ⟨rfl,G,HM.out,HST.out⟩
   ·have HB:=Lib.hid (show As.B1 false y from .inr hy)
    have hpos:(0:Int) < (y.l.length:Int):=by have:=List.length_pos_iff.2 hy;omega
    have HMS:=Lib.hid (show y.l.tail.length < As.meas gx (.bool false) wr from by rw [As.meas_is HM.out false,List.length_tail];have:=List.length_pos_iff.2 hy;simp;omega)
    clear hy
    generalize y.l.length = ny at c0 hpos
    go_wp2_with fail
    go_at_call 217
    refine (aeither_any HM.out HT.out HS.out).mono ?_
    rintro e w1 ⟨rfl,g1⟩
    have HG1:=Lib.hid g1
    have HS1:=Lib.hid HS.out.either
    have HE1:=Lib.hid (As.either_l y)
    have HE2:=Lib.hid (As.either_len y)
    have HW:=Lib.hid (show As.word1 y = As.put ⟨false,As.no,As.four (As.bits (As.either y).1.1),if (As.either y).1.2 = [] then 0 else 4,(As.either y).1.2,[]⟩ (As.either y).2 from rfl)
    clear g1
    generalize As.either y = E at *
    obtain ⟨⟨n,nm⟩,y1⟩:=E
    dsimp only at HG1 HS1 HE1 HE2 HW ⊢
    have hbits:0≤n % 4294967296∧n % 4294967296 < 4294967296∧(n % 4294967296).toNat = As.bits n:=⟨by omega,by omega,rfl⟩
    have HBT:=Lib.hid hbits
    clear hbits
    by_cases hnm:nm = []
    ·subst hnm
     have HV:=Lib.hid (show As.word1 y = As.put ⟨false,As.no,As.four (As.bits n),0,[],[]⟩ y1 from by rw [HW.out,if_pos rfl])
     go_wp2_with fail
     go_at_call 142
     refine (As.four_int HG1.out.1 _ HBT.out.1 HBT.out.2.1).mono ?_
     rintro e w2 ⟨g,rfl,r2,i2,b2⟩
     have HR2:=Lib.hid (show As.Rb G w2 _ (As.four (As.bits n)) from by rw [← HBT.out.2.2];exact r2)
     have HI2:=Lib.hid i2
     have HB2:=Lib.hid b2
     clear r2 i2 b2
     go_wp2_with fail
     go_at_call 218
     refine (aput_any (HG1.out.1.kept HB2.out) ⟨false,As.no,As.four (As.bits n),0,[],[]⟩ (.slice (some ⟨g,0,none⟩) 4 4) HR2.out HI2.out (by rw [HE2.out];have:=HLN.out.1;omega)).mono ?_
     rintro e w3 ⟨rfl,G3,m3,s3⟩
     have hst3:=((HST.out.trans ⟨HG1.out.2.mono (fun k e=>e ▸ HM.out.gx),fun k hk=>.inl hk⟩).trans (Step.of_below HB2.out)).trans s3
     have htb3:As.Tb G3 w3:=(((HT.out.go HM.out.gx HG1.out.2).kept HB2.out)).step s3
     have hnx:=HN.out.next As.word1_l HB.out
     have hl3:(As.word1 y).l = y.l.tail:=As.word1_l y
     have hp3:(As.word1 y).p.length = y.p.length+1:=by rw [HV.out,As.put_len,HE2.out]
     rw [← HV.out] at m3
     have HM3:=Lib.hid m3
     have HST3:=Lib.hid hst3
     have HTB3:=Lib.hid htb3
     have HNX:=Lib.hid hnx
     have HL3:=Lib.hid hl3
     have HP3:=Lib.hid hp3
     have HS3:=Lib.hid (show As.Short (As.word1 y).l from by rw [hl3,← HE1.out];exact HS1.out)
     clear m3 s3 hst3 htb3 hnx hl3 hp3
     go_wp2_with fail
     go_roundw
     case rel=>exact ⟨false,As.word1 y,G3,rfl,HM3.out,HTB3.out,HS3.out,HST3.out,by rw [HP3.out,HL3.out,if_neg (by decide)];exact HLN.out.2 HB.out,HNX.out⟩
     case measure=>have e:=As.meas_is HM3.out false;rw [HL3.out,if_neg (by decide),Nat.zero_add] at e;rw [e];exact HMS.out
    ·have hne:(nm != ([]:List UInt8)) = true:=by simpa using hnm
     have hne2:(!nm == ([]:List UInt8)) = true:=by simpa using hnm
     have he2:nm.isEmpty = false:=by simpa using hnm
     have HV:=Lib.hid (show As.word1 y = As.put ⟨false,As.no,As.four (As.bits n),4,nm,[]⟩ y1 from by rw [HW.out,if_neg hnm])
     clear hnm
     go_wp2_with fail
     go_at_call 142
     refine (As.four_int HG1.out.1 _ HBT.out.1 HBT.out.2.1).mono ?_
     rintro e w2 ⟨g,rfl,r2,i2,b2⟩
     have HR2:=Lib.hid (show As.Rb G w2 _ (As.four (As.bits n)) from by rw [← HBT.out.2.2];exact r2)
     have HI2:=Lib.hid i2
     have HB2:=Lib.hid b2
     clear r2 i2 b2
     go_wp2_with fail
     go_at_call 218
     refine (aput_any (HG1.out.1.kept HB2.out) ⟨false,As.no,As.four (As.bits n),4,nm,[]⟩ (.slice (some ⟨g,0,none⟩) 4 4) HR2.out HI2.out (by rw [HE2.out];have:=HLN.out.1;omega)).mono ?_
     rintro e w3 ⟨rfl,G3,m3,s3⟩
     have hst3:=((HST.out.trans ⟨HG1.out.2.mono (fun k e=>e ▸ HM.out.gx),fun k hk=>.inl hk⟩).trans (Step.of_below HB2.out)).trans s3
     have htb3:As.Tb G3 w3:=(((HT.out.go HM.out.gx HG1.out.2).kept HB2.out)).step s3
     have hnx:=HN.out.next As.word1_l HB.out
     have hl3:(As.word1 y).l = y.l.tail:=As.word1_l y
     have hp3:(As.word1 y).p.length = y.p.length+1:=by rw [HV.out,As.put_len,HE2.out]
     rw [← HV.out] at m3
     have HM3:=Lib.hid m3
     have HST3:=Lib.hid hst3
     have HTB3:=Lib.hid htb3
     have HNX:=Lib.hid hnx
     have HL3:=Lib.hid hl3
     have HP3:=Lib.hid hp3
     have HS3:=Lib.hid (show As.Short (As.word1 y).l from by rw [hl3,← HE1.out];exact HS1.out)
     clear m3 s3 hst3 htb3 hnx hl3 hp3
     go_wp2_with fail
     go_roundw
     case rel=>exact ⟨false,As.word1 y,G3,rfl,HM3.out,HTB3.out,HS3.out,HST3.out,by rw [HP3.out,HL3.out,if_neg (by decide)];exact HLN.out.2 HB.out,HNX.out⟩
     case measure=>have e:=As.meas_is HM3.out false;rw [HL3.out,if_neg (by decide),Nat.zero_add] at e;rw [e];exact HMS.out
  ·have HB:=Lib.hid (show As.B1 true y from .inl rfl)
   have HMS:=Lib.hid (show y.l.tail.length < As.meas gx (.bool true) wr from by rw [As.meas_is HM.out true,List.length_tail];simp;omega)
   clear c0
   go_wp2_with fail
   go_at_call 217
   refine (aeither_any HM.out HT.out HS.out).mono ?_
   rintro e w1 ⟨rfl,g1⟩
   have HG1:=Lib.hid g1
   have HS1:=Lib.hid HS.out.either
   have HE1:=Lib.hid (As.either_l y)
   have HE2:=Lib.hid (As.either_len y)
   have HW:=Lib.hid (show As.word1 y = As.put ⟨false,As.no,As.four (As.bits (As.either y).1.1),if (As.either y).1.2 = [] then 0 else 4,(As.either y).1.2,[]⟩ (As.either y).2 from rfl)
   clear g1
   generalize As.either y = E at *
   obtain ⟨⟨n,nm⟩,y1⟩:=E
   dsimp only at HG1 HS1 HE1 HE2 HW ⊢
   have hbits:0≤n % 4294967296∧n % 4294967296 < 4294967296∧(n % 4294967296).toNat = As.bits n:=⟨by omega,by omega,rfl⟩
   have HBT:=Lib.hid hbits
   clear hbits
   by_cases hnm:nm = []
   ·subst hnm
    have HV:=Lib.hid (show As.word1 y = As.put ⟨false,As.no,As.four (As.bits n),0,[],[]⟩ y1 from by rw [HW.out,if_pos rfl])
    go_wp2_with fail
    go_at_call 142
    refine (As.four_int HG1.out.1 _ HBT.out.1 HBT.out.2.1).mono ?_
    rintro e w2 ⟨g,rfl,r2,i2,b2⟩
    have HR2:=Lib.hid (show As.Rb G w2 _ (As.four (As.bits n)) from by rw [← HBT.out.2.2];exact r2)
    have HI2:=Lib.hid i2
    have HB2:=Lib.hid b2
    clear r2 i2 b2
    go_wp2_with fail
    go_at_call 218
    refine (aput_any (HG1.out.1.kept HB2.out) ⟨false,As.no,As.four (As.bits n),0,[],[]⟩ (.slice (some ⟨g,0,none⟩) 4 4) HR2.out HI2.out (by rw [HE2.out];have:=HLN.out.1;omega)).mono ?_
    rintro e w3 ⟨rfl,G3,m3,s3⟩
    have hst3:=((HST.out.trans ⟨HG1.out.2.mono (fun k e=>e ▸ HM.out.gx),fun k hk=>.inl hk⟩).trans (Step.of_below HB2.out)).trans s3
    have htb3:As.Tb G3 w3:=(((HT.out.go HM.out.gx HG1.out.2).kept HB2.out)).step s3
    have hnx:=HN.out.next As.word1_l HB.out
    have hl3:(As.word1 y).l = y.l.tail:=As.word1_l y
    have hp3:(As.word1 y).p.length = y.p.length+1:=by rw [HV.out,As.put_len,HE2.out]
    rw [← HV.out] at m3
    have HM3:=Lib.hid m3
    have HST3:=Lib.hid hst3
    have HTB3:=Lib.hid htb3
    have HNX:=Lib.hid hnx
    have HL3:=Lib.hid hl3
    have HP3:=Lib.hid hp3
    have HS3:=Lib.hid (show As.Short (As.word1 y).l from by rw [hl3,← HE1.out];exact HS1.out)
    clear m3 s3 hst3 htb3 hnx hl3 hp3
    go_wp2_with fail
    go_roundw
    case rel=>exact ⟨false,As.word1 y,G3,rfl,HM3.out,HTB3.out,HS3.out,HST3.out,by rw [HP3.out,HL3.out,if_neg (by decide)];exact HLN.out.2 HB.out,HNX.out⟩
    case measure=>have e:=As.meas_is HM3.out false;rw [HL3.out,if_neg (by decide),Nat.zero_add] at e;rw [e];exact HMS.out
   ·have hne:(nm != ([]:List UInt8)) = true:=by simpa using hnm
    have hne2:(!nm == ([]:List UInt8)) = true:=by simpa using hnm
    have he2:nm.isEmpty = false:=by simpa using hnm
    have HV:=Lib.hid (show As.word1 y = As.put ⟨false,As.no,As.four (As.bits n),4,nm,[]⟩ y1 from by rw [HW.out,if_neg hnm])
    clear hnm
    go_wp2_with fail
    go_at_call 142
    refine (As.four_int HG1.out.1 _ HBT.out.1 HBT.out.2.1).mono ?_
    rintro e w2 ⟨g,rfl,r2,i2,b2⟩
    have HR2:=Lib.hid (show As.Rb G w2 _ (As.four (As.bits n)) from by rw [← HBT.out.2.2];exact r2)
    have HI2:=Lib.hid i2
    have HB2:=Lib.hid b2
    clear r2 i2 b2
    go_wp2_with fail
    go_at_call 218
    refine (aput_any (HG1.out.1.kept HB2.out) ⟨false,As.no,As.four (As.bits n),4,nm,[]⟩ (.slice (some ⟨g,0,none⟩) 4 4) HR2.out HI2.out (by rw [HE2.out];have:=HLN.out.1;omega)).mono ?_
    rintro e w3 ⟨rfl,G3,m3,s3⟩
    have hst3:=((HST.out.trans ⟨HG1.out.2.mono (fun k e=>e ▸ HM.out.gx),fun k hk=>.inl hk⟩).trans (Step.of_below HB2.out)).trans s3
    have htb3:As.Tb G3 w3:=(((HT.out.go HM.out.gx HG1.out.2).kept HB2.out)).step s3
    have hnx:=HN.out.next As.word1_l HB.out
    have hl3:(As.word1 y).l = y.l.tail:=As.word1_l y
    have hp3:(As.word1 y).p.length = y.p.length+1:=by rw [HV.out,As.put_len,HE2.out]
    rw [← HV.out] at m3
    have HM3:=Lib.hid m3
    have HST3:=Lib.hid hst3
    have HTB3:=Lib.hid htb3
    have HNX:=Lib.hid hnx
    have HL3:=Lib.hid hl3
    have HP3:=Lib.hid hp3
    have HS3:=Lib.hid (show As.Short (As.word1 y).l from by rw [hl3,← HE1.out];exact HS1.out)
    clear m3 s3 hst3 htb3 hnx hl3 hp3
    go_wp2_with fail
    go_roundw
    case rel=>exact ⟨false,As.word1 y,G3,rfl,HM3.out,HTB3.out,HS3.out,HST3.out,by rw [HP3.out,HL3.out,if_neg (by decide)];exact HLN.out.2 HB.out,HNX.out⟩
    case measure=>have e:=As.meas_is HM3.out false;rw [HL3.out,if_neg (by decide),Nat.zero_add] at e;rw [e];exact HMS.out
set_option maxRecDepth 100000 in
set_option maxHeartbeats 8000000 in
theorem adata_byte {F:Nat→Prop} {w:World} {gx:Nat} {x:As.L} (h:As.Mk F w gx x) (hT:As.Tb F w) (hsh:As.Short x.l) (hl:x.p.length+x.l.length≤700000000) (a:Nat) (ha:a < 4294967296) :
  Calls Tryz.prog 140 #[.pointer (some ⟨gx,0,none⟩),.string ⟨#[98,121,116,101]⟩,.int .u32 (a:Int)] w (As.OptPost F w gx (As.data As.tByte a x)):=by
 have HP:=Lib.hid (show As.data As.tByte a x = some (As.loop As.byte1 (x.l.length+1) x) from by unfold As.data;rw [if_neg (by decide),if_pos rfl])
 have HM0:=Lib.hid h
 have HT0:=Lib.hid hT
 have HS0:=Lib.hid hsh
 have HL:=Lib.hid hl
 have HR:=Lib.hid (fun y=>As.num_range y)
 clear h hT hsh hl
 rw [HP.out]
 clear HP
 go_enter Tryz.func140,Tryz.ntmps140
 go_wp2_with fail
 go_loopw [11] (fun f wr=>∃ (b:Bool) (y:As.L) (G:Nat→Prop),f = .bool b∧As.Mk G wr gx y∧As.Tb G wr∧As.Short y.l∧Step F w G wr∧y.p.length+y.l.length≤x.p.length+x.l.length+(if b = true then 0 else 1)∧As.Now As.byte1 x b y) (fun f wr=>As.meas gx f wr)
 case atStart=>exact ⟨true,x,F,rfl,HM0.out,HT0.out,HS0.out,Step.refl _ _,Nat.le_refl _,by unfold As.Now;rw [if_pos rfl]⟩
 case round=>
  obtain ⟨b,y,G,rfl,hm,hT,hsh,hst,hlen,hnow⟩:=hrel
  have HM:=Lib.hid hm
  have HT:=Lib.hid hT
  have HS:=Lib.hid hsh
  have HST:=Lib.hid hst
  have HN:=Lib.hid hnow
  have HLN:=Lib.hid (show y.p.length≤900000000∧(As.B1 b y→y.p.length+1+y.l.tail.length≤x.p.length+x.l.length+1) from by
   have:=HL.out
   refine ⟨by split at hlen <;> omega,fun hb=>?_⟩
   rw [List.length_tail]
   unfold As.B1 at hb
   rcases hb with hb | hb
   ·subst hb;rw [if_pos rfl] at hlen;omega
   ·have:=List.length_pos_iff.2 hb;split at hlen <;> omega)
  obtain ⟨vl,hs⟩:=hm.seen
  have c0:=hs.c0
  obtain ⟨A0,cc0,rfl⟩:=Rd.form hs.rd
  clear hm hT hsh hst hnow hlen hs
  cases b
  ·by_cases hy:y.l = []
   ·have HY:=Lib.hid (HN.out.done hy)
    have hy0:(y.l.length:Int) = 0:=by rw [hy];rfl
    clear hy
    generalize y.l.length = ny at *
    obtain rfl:ny = 0:=by omega
    go_wp2_with fail
    go_ret
    rw [← HY.out]
    exact ⟨rfl,G,HM.out,HST.out⟩
   ·have HB:=Lib.hid (show As.B1 false y from .inr hy)
    have hpos:(0:Int) < (y.l.length:Int):=by have:=List.length_pos_iff.2 hy;omega
    have HMS:=Lib.hid (show y.l.tail.length < As.meas gx (.bool false) wr from by rw [As.meas_is HM.out false,List.length_tail];have:=List.length_pos_iff.2 hy;simp;omega)
    clear hy
    generalize y.l.length = ny at c0 hpos
    go_wp2_with fail
    go_at_call 212
    refine (anum_any HM.out HT.out HS.out).mono ?_
    rintro e w1 ⟨rfl,g1⟩
    have HG1:=Lib.hid g1
    have HS1:=Lib.hid HS.out.num
    have HE1:=Lib.hid (show (As.num y).2.l = y.l.tail from As.next_l y)
    have HE2:=Lib.hid (As.num_len y)
    have hnr:=HR.out y
    have HW:=Lib.hid (show As.byte1 y = As.put ⟨false,As.no,[UInt8.ofNat ((As.num y).1 % 256).toNat],0,[],[]⟩ (As.sat (decide (-128≤(As.num y).1) && decide ((As.num y).1≤255)) (As.num y).2) from rfl)
    clear g1
    generalize As.num y = E at *
    obtain ⟨n,l1,ok1,p1⟩:=E
    dsimp only at HG1 HS1 HE1 HE2 HW hnr ⊢
    have HBV:=Lib.hid (show (bv [UInt8.ofNat (n % 256).toNat]).toArray = #[.int .u8 (n % 256)] from by simp [bv,UInt8.toNat_ofNat'];omega)
    obtain ⟨vl1,hs1⟩:=HG1.out.1.seen
    have k1:=hs1.c1
    have f1:=hs1.f 1
    clear hs1
    cases ok1
    ·have HV:=Lib.hid (show As.byte1 y = As.put ⟨false,As.no,[UInt8.ofNat (n % 256).toNat],0,[],[]⟩ ⟨l1,false,p1⟩ from by rw [HW.out];unfold As.sat;rfl)
     have HF:=Lib.hid (HG1.out.1.flag (false))
     go_wp2_with fail
     have HG2:=Lib.hid (HF.out.after HG1.out.2)
     have hfr:=As.Rb.fresh HF.out.1 [UInt8.ofNat (n % 256).toNat] (by unfold maxLen;simp)
     rw [HBV.out] at hfr
     have hsz:(w1.setCell ⟨gx,1,none⟩ (.bool (false))).heap.size = w1.heap.size:=by simp [World.setCell]
     rw [hsz] at hfr
     have HB2:=Lib.hid ((Below.refl (w1.setCell ⟨gx,1,none⟩ (.bool (false))).heap.size _).alloc (Nat.le_refl _) (.cells #[.int .u8 (n % 256)] 5))
     obtain ⟨W2,hW2⟩:∃ W2,(w1.setCell ⟨gx,1,none⟩ (.bool (false))).alloc (.cells #[.int .u8 (n % 256)] 5) = W2:=⟨_,rfl⟩
     rw [hW2] at hfr HB2 ⊢
     have HR2:=Lib.hid hfr.1
     have HI2:=Lib.hid hfr.2
     clear hfr hW2
     go_at_call 218
     refine (aput_any (HF.out.1.kept HB2.out) ⟨false,As.no,[UInt8.ofNat (n % 256).toNat],0,[],[]⟩ (.slice (some ⟨w1.heap.size,0,none⟩) 1 1) HR2.out HI2.out (by have h1:=HLN.out.1;have h2:=HE2.out;dsimp only at h2 ⊢;rw [h2];omega)).mono ?_
     rintro e w3 ⟨rfl,G3,m3,s3⟩
     have hst3:=((HST.out.trans ⟨HG2.out.2.mono (fun k e=>e ▸ HM.out.gx),fun k hk=>.inl hk⟩).trans (Step.of_below HB2.out)).trans s3
     have htb3:As.Tb G3 w3:=(((HT.out.go HM.out.gx HG2.out.2).kept HB2.out)).step s3
     have hnx:=HN.out.next As.byte1_l HB.out
     have hl3:(As.byte1 y).l = y.l.tail:=As.byte1_l y
     have hp3:(As.byte1 y).p.length = y.p.length+1:=by rw [HV.out,As.put_len,HE2.out]
     rw [← HV.out] at m3
     have HM3:=Lib.hid m3
     have HST3:=Lib.hid hst3
     have HTB3:=Lib.hid htb3
     have HNX:=Lib.hid hnx
     have HL3:=Lib.hid hl3
     have HP3:=Lib.hid hp3
     have HS3:=Lib.hid (show As.Short (As.byte1 y).l from by rw [hl3,← HE1.out];exact HS1.out)
     clear m3 s3 hst3 htb3 hnx hl3 hp3
     go_wp2_with fail
     go_roundw
     case rel=>exact ⟨false,As.byte1 y,G3,rfl,HM3.out,HTB3.out,HS3.out,HST3.out,by rw [HP3.out,HL3.out,if_neg (by decide)];exact HLN.out.2 HB.out,HNX.out⟩
     case measure=>have e:=As.meas_is HM3.out false;rw [HL3.out,if_neg (by decide),Nat.zero_add] at e;rw [e];exact HMS.out
    ·by_cases h1:-128≤n
     ·have HV:=Lib.hid (show As.byte1 y = As.put ⟨false,As.no,[UInt8.ofNat (n % 256).toNat],0,[],[]⟩ ⟨l1,decide (n≤255),p1⟩ from by rw [HW.out];unfold As.sat;simp [h1])
      have HF:=Lib.hid (HG1.out.1.flag (decide (n≤255)))
      go_wp2_with fail
      have HG2:=Lib.hid (HF.out.after HG1.out.2)
      have hfr:=As.Rb.fresh HF.out.1 [UInt8.ofNat (n % 256).toNat] (by unfold maxLen;simp)
      rw [HBV.out] at hfr
      have hsz:(w1.setCell ⟨gx,1,none⟩ (.bool (decide (n≤255)))).heap.size = w1.heap.size:=by simp [World.setCell]
      rw [hsz] at hfr
      have HB2:=Lib.hid ((Below.refl (w1.setCell ⟨gx,1,none⟩ (.bool (decide (n≤255)))).heap.size _).alloc (Nat.le_refl _) (.cells #[.int .u8 (n % 256)] 5))
      obtain ⟨W2,hW2⟩:∃ W2,(w1.setCell ⟨gx,1,none⟩ (.bool (decide (n≤255)))).alloc (.cells #[.int .u8 (n % 256)] 5) = W2:=⟨_,rfl⟩
      rw [hW2] at hfr HB2 ⊢
      have HR2:=Lib.hid hfr.1
      have HI2:=Lib.hid hfr.2
      clear hfr hW2
      go_at_call 218
      refine (aput_any (HF.out.1.kept HB2.out) ⟨false,As.no,[UInt8.ofNat (n % 256).toNat],0,[],[]⟩ (.slice (some ⟨w1.heap.size,0,none⟩) 1 1) HR2.out HI2.out (by have h1:=HLN.out.1;have h2:=HE2.out;dsimp only at h2 ⊢;rw [h2];omega)).mono ?_
      rintro e w3 ⟨rfl,G3,m3,s3⟩
      have hst3:=((HST.out.trans ⟨HG2.out.2.mono (fun k e=>e ▸ HM.out.gx),fun k hk=>.inl hk⟩).trans (Step.of_below HB2.out)).trans s3
      have htb3:As.Tb G3 w3:=(((HT.out.go HM.out.gx HG2.out.2).kept HB2.out)).step s3
      have hnx:=HN.out.next As.byte1_l HB.out
      have hl3:(As.byte1 y).l = y.l.tail:=As.byte1_l y
      have hp3:(As.byte1 y).p.length = y.p.length+1:=by rw [HV.out,As.put_len,HE2.out]
      rw [← HV.out] at m3
      have HM3:=Lib.hid m3
      have HST3:=Lib.hid hst3
      have HTB3:=Lib.hid htb3
      have HNX:=Lib.hid hnx
      have HL3:=Lib.hid hl3
      have HP3:=Lib.hid hp3
      have HS3:=Lib.hid (show As.Short (As.byte1 y).l from by rw [hl3,← HE1.out];exact HS1.out)
      clear m3 s3 hst3 htb3 hnx hl3 hp3
      go_wp2_with fail
      go_roundw
      case rel=>exact ⟨false,As.byte1 y,G3,rfl,HM3.out,HTB3.out,HS3.out,HST3.out,by rw [HP3.out,HL3.out,if_neg (by decide)];exact HLN.out.2 HB.out,HNX.out⟩
      case measure=>have e:=As.meas_is HM3.out false;rw [HL3.out,if_neg (by decide),Nat.zero_add] at e;rw [e];exact HMS.out
     ·have HV:=Lib.hid (show As.byte1 y = As.put ⟨false,As.no,[UInt8.ofNat (n % 256).toNat],0,[],[]⟩ ⟨l1,false,p1⟩ from by rw [HW.out];unfold As.sat;simp [h1])
      have HF:=Lib.hid (HG1.out.1.flag (false))
      go_wp2_with fail
      have HG2:=Lib.hid (HF.out.after HG1.out.2)
      have hfr:=As.Rb.fresh HF.out.1 [UInt8.ofNat (n % 256).toNat] (by unfold maxLen;simp)
      rw [HBV.out] at hfr
      have hsz:(w1.setCell ⟨gx,1,none⟩ (.bool (false))).heap.size = w1.heap.size:=by simp [World.setCell]
      rw [hsz] at hfr
      have HB2:=Lib.hid ((Below.refl (w1.setCell ⟨gx,1,none⟩ (.bool (false))).heap.size _).alloc (Nat.le_refl _) (.cells #[.int .u8 (n % 256)] 5))
      obtain ⟨W2,hW2⟩:∃ W2,(w1.setCell ⟨gx,1,none⟩ (.bool (false))).alloc (.cells #[.int .u8 (n % 256)] 5) = W2:=⟨_,rfl⟩
      rw [hW2] at hfr HB2 ⊢
      have HR2:=Lib.hid hfr.1
      have HI2:=Lib.hid hfr.2
      clear hfr hW2
      go_at_call 218
      refine (aput_any (HF.out.1.kept HB2.out) ⟨false,As.no,[UInt8.ofNat (n % 256).toNat],0,[],[]⟩ (.slice (some ⟨w1.heap.size,0,none⟩) 1 1) HR2.out HI2.out (by have h1:=HLN.out.1;have h2:=HE2.out;dsimp only at h2 ⊢;rw [h2];omega)).mono ?_
      rintro e w3 ⟨rfl,G3,m3,s3⟩
      have hst3:=((HST.out.trans ⟨HG2.out.2.mono (fun k e=>e ▸ HM.out.gx),fun k hk=>.inl hk⟩).trans (Step.of_below HB2.out)).trans s3
      have htb3:As.Tb G3 w3:=(((HT.out.go HM.out.gx HG2.out.2).kept HB2.out)).step s3
      have hnx:=HN.out.next As.byte1_l HB.out
      have hl3:(As.byte1 y).l = y.l.tail:=As.byte1_l y
      have hp3:(As.byte1 y).p.length = y.p.length+1:=by rw [HV.out,As.put_len,HE2.out]
      rw [← HV.out] at m3
      have HM3:=Lib.hid m3
      have HST3:=Lib.hid hst3
      have HTB3:=Lib.hid htb3
      have HNX:=Lib.hid hnx
      have HL3:=Lib.hid hl3
      have HP3:=Lib.hid hp3
      have HS3:=Lib.hid (show As.Short (As.byte1 y).l from by rw [hl3,← HE1.out];exact HS1.out)
      clear m3 s3 hst3 htb3 hnx hl3 hp3
      go_wp2_with fail
      go_roundw
      case rel=>exact ⟨false,As.byte1 y,G3,rfl,HM3.out,HTB3.out,HS3.out,HST3.out,by rw [HP3.out,HL3.out,if_neg (by decide)];exact HLN.out.2 HB.out,HNX.out⟩
      case measure=>have e:=As.meas_is HM3.out false;rw [HL3.out,if_neg (by decide),Nat.zero_add] at e;rw [e];exact HMS.out
  ·have HB:=Lib.hid (show As.B1 true y from .inl rfl)
   have HMS:=Lib.hid (show y.l.tail.length < As.meas gx (.bool true) wr from by rw [As.meas_is HM.out true,List.length_tail];simp;omega)
   clear c0
   go_wp2_with fail
   go_at_call 212
   refine (anum_any HM.out HT.out HS.out).mono ?_
   rintro e w1 ⟨rfl,g1⟩
   have HG1:=Lib.hid g1
   have HS1:=Lib.hid HS.out.num
   have HE1:=Lib.hid (show (As.num y).2.l = y.l.tail from As.next_l y)
   have HE2:=Lib.hid (As.num_len y)
   have hnr:=HR.out y
   have HW:=Lib.hid (show As.byte1 y = As.put ⟨false,As.no,[UInt8.ofNat ((As.num y).1 % 256).toNat],0,[],[]⟩ (As.sat (decide (-128≤(As.num y).1) && decide ((As.num y).1≤255)) (As.num y).2) from rfl)
   clear g1
   generalize As.num y = E at *
   obtain ⟨n,l1,ok1,p1⟩:=E
   dsimp only at HG1 HS1 HE1 HE2 HW hnr ⊢
   have HBV:=Lib.hid (show (bv [UInt8.ofNat (n % 256).toNat]).toArray = #[.int .u8 (n % 256)] from by simp [bv,UInt8.toNat_ofNat'];omega)
   obtain ⟨vl1,hs1⟩:=HG1.out.1.seen
   have k1:=hs1.c1
   have f1:=hs1.f 1
   clear hs1
   cases ok1
   ·have HV:=Lib.hid (show As.byte1 y = As.put ⟨false,As.no,[UInt8.ofNat (n % 256).toNat],0,[],[]⟩ ⟨l1,false,p1⟩ from by rw [HW.out];unfold As.sat;rfl)
    have HF:=Lib.hid (HG1.out.1.flag (false))
    go_wp2_with fail
    have HG2:=Lib.hid (HF.out.after HG1.out.2)
    have hfr:=As.Rb.fresh HF.out.1 [UInt8.ofNat (n % 256).toNat] (by unfold maxLen;simp)
    rw [HBV.out] at hfr
    have hsz:(w1.setCell ⟨gx,1,none⟩ (.bool (false))).heap.size = w1.heap.size:=by simp [World.setCell]
    rw [hsz] at hfr
    have HB2:=Lib.hid ((Below.refl (w1.setCell ⟨gx,1,none⟩ (.bool (false))).heap.size _).alloc (Nat.le_refl _) (.cells #[.int .u8 (n % 256)] 5))
    obtain ⟨W2,hW2⟩:∃ W2,(w1.setCell ⟨gx,1,none⟩ (.bool (false))).alloc (.cells #[.int .u8 (n % 256)] 5) = W2:=⟨_,rfl⟩
    rw [hW2] at hfr HB2 ⊢
    have HR2:=Lib.hid hfr.1
    have HI2:=Lib.hid hfr.2
    clear hfr hW2
    go_at_call 218
    refine (aput_any (HF.out.1.kept HB2.out) ⟨false,As.no,[UInt8.ofNat (n % 256).toNat],0,[],[]⟩ (.slice (some ⟨w1.heap.size,0,none⟩) 1 1) HR2.out HI2.out (by have h1:=HLN.out.1;have h2:=HE2.out;dsimp only at h2 ⊢;rw [h2];omega)).mono ?_
    rintro e w3 ⟨rfl,G3,m3,s3⟩
    have hst3:=((HST.out.trans ⟨HG2.out.2.mono (fun k e=>e ▸ HM.out.gx),fun k hk=>.inl hk⟩).trans (Step.of_below HB2.out)).trans s3
    have htb3:As.Tb G3 w3:=(((HT.out.go HM.out.gx HG2.out.2).kept HB2.out)).step s3
    have hnx:=HN.out.next As.byte1_l HB.out
    have hl3:(As.byte1 y).l = y.l.tail:=As.byte1_l y
    have hp3:(As.byte1 y).p.length = y.p.length+1:=by rw [HV.out,As.put_len,HE2.out]
    rw [← HV.out] at m3
    have HM3:=Lib.hid m3
    have HST3:=Lib.hid hst3
    have HTB3:=Lib.hid htb3
    have HNX:=Lib.hid hnx
    have HL3:=Lib.hid hl3
    have HP3:=Lib.hid hp3
    have HS3:=Lib.hid (show As.Short (As.byte1 y).l from by rw [hl3,← HE1.out];exact HS1.out)
    clear m3 s3 hst3 htb3 hnx hl3 hp3
    go_wp2_with fail
    go_roundw
    case rel=>exact ⟨false,As.byte1 y,G3,rfl,HM3.out,HTB3.out,HS3.out,HST3.out,by rw [HP3.out,HL3.out,if_neg (by decide)];exact HLN.out.2 HB.out,HNX.out⟩
    case measure=>have e:=As.meas_is HM3.out false;rw [HL3.out,if_neg (by decide),Nat.zero_add] at e;rw [e];exact HMS.out
   ·by_cases h1:-128≤n
    ·have HV:=Lib.hid (show As.byte1 y = As.put ⟨false,As.no,[UInt8.ofNat (n % 256).toNat],0,[],[]⟩ ⟨l1,decide (n≤255),p1⟩ from by rw [HW.out];unfold As.sat;simp [h1])
     have HF:=Lib.hid (HG1.out.1.flag (decide (n≤255)))
     go_wp2_with fail
     have HG2:=Lib.hid (HF.out.after HG1.out.2)
     have hfr:=As.Rb.fresh HF.out.1 [UInt8.ofNat (n % 256).toNat] (by unfold maxLen;simp)
     rw [HBV.out] at hfr
     have hsz:(w1.setCell ⟨gx,1,none⟩ (.bool (decide (n≤255)))).heap.size = w1.heap.size:=by simp [World.setCell]
     rw [hsz] at hfr
     have HB2:=Lib.hid ((Below.refl (w1.setCell ⟨gx,1,none⟩ (.bool (decide (n≤255)))).heap.size _).alloc (Nat.le_refl _) (.cells #[.int .u8 (n % 256)] 5))
     obtain ⟨W2,hW2⟩:∃ W2,(w1.setCell ⟨gx,1,none⟩ (.bool (decide (n≤255)))).alloc (.cells #[.int .u8 (n % 256)] 5) = W2:=⟨_,rfl⟩
     rw [hW2] at hfr HB2 ⊢
     have HR2:=Lib.hid hfr.1
     have HI2:=Lib.hid hfr.2
     clear hfr hW2
     go_at_call 218
     refine (aput_any (HF.out.1.kept HB2.out) ⟨false,As.no,[UInt8.ofNat (n % 256).toNat],0,[],[]⟩ (.slice (some ⟨w1.heap.size,0,none⟩) 1 1) HR2.out HI2.out (by have h1:=HLN.out.1;have h2:=HE2.out;dsimp only at h2 ⊢;rw [h2];omega)).mono ?_
     rintro e w3 ⟨rfl,G3,m3,s3⟩
     have hst3:=((HST.out.trans ⟨HG2.out.2.mono (fun k e=>e ▸ HM.out.gx),fun k hk=>.inl hk⟩).trans (Step.of_below HB2.out)).trans s3
     have htb3:As.Tb G3 w3:=(((HT.out.go HM.out.gx HG2.out.2).kept HB2.out)).step s3
     have hnx:=HN.out.next As.byte1_l HB.out
     have hl3:(As.byte1 y).l = y.l.tail:=As.byte1_l y
     have hp3:(As.byte1 y).p.length = y.p.length+1:=by rw [HV.out,As.put_len,HE2.out]
     rw [← HV.out] at m3
     have HM3:=Lib.hid m3
     have HST3:=Lib.hid hst3
     have HTB3:=Lib.hid htb3
     have HNX:=Lib.hid hnx
     have HL3:=Lib.hid hl3
     have HP3:=Lib.hid hp3
     have HS3:=Lib.hid (show As.Short (As.byte1 y).l from by rw [hl3,← HE1.out];exact HS1.out)
     clear m3 s3 hst3 htb3 hnx hl3 hp3
     go_wp2_with fail
     go_roundw
     case rel=>exact ⟨false,As.byte1 y,G3,rfl,HM3.out,HTB3.out,HS3.out,HST3.out,by rw [HP3.out,HL3.out,if_neg (by decide)];exact HLN.out.2 HB.out,HNX.out⟩
     case measure=>have e:=As.meas_is HM3.out false;rw [HL3.out,if_neg (by decide),Nat.zero_add] at e;rw [e];exact HMS.out
    ·have HV:=Lib.hid (show As.byte1 y = As.put ⟨false,As.no,[UInt8.ofNat (n % 256).toNat],0,[],[]⟩ ⟨l1,false,p1⟩ from by rw [HW.out];unfold As.sat;simp [h1])
     have HF:=Lib.hid (HG1.out.1.flag (false))
     go_wp2_with fail
     have HG2:=Lib.hid (HF.out.after HG1.out.2)
     have hfr:=As.Rb.fresh HF.out.1 [UInt8.ofNat (n % 256).toNat] (by unfold maxLen;simp)
     rw [HBV.out] at hfr
     have hsz:(w1.setCell ⟨gx,1,none⟩ (.bool (false))).heap.size = w1.heap.size:=by simp [World.setCell]
     rw [hsz] at hfr
     have HB2:=Lib.hid ((Below.refl (w1.setCell ⟨gx,1,none⟩ (.bool (false))).heap.size _).alloc (Nat.le_refl _) (.cells #[.int .u8 (n % 256)] 5))
     obtain ⟨W2,hW2⟩:∃ W2,(w1.setCell ⟨gx,1,none⟩ (.bool (false))).alloc (.cells #[.int .u8 (n % 256)] 5) = W2:=⟨_,rfl⟩
     rw [hW2] at hfr HB2 ⊢
     have HR2:=Lib.hid hfr.1
     have HI2:=Lib.hid hfr.2
     clear hfr hW2
     go_at_call 218
     refine (aput_any (HF.out.1.kept HB2.out) ⟨false,As.no,[UInt8.ofNat (n % 256).toNat],0,[],[]⟩ (.slice (some ⟨w1.heap.size,0,none⟩) 1 1) HR2.out HI2.out (by have h1:=HLN.out.1;have h2:=HE2.out;dsimp only at h2 ⊢;rw [h2];omega)).mono ?_
     rintro e w3 ⟨rfl,G3,m3,s3⟩
     have hst3:=((HST.out.trans ⟨HG2.out.2.mono (fun k e=>e ▸ HM.out.gx),fun k hk=>.inl hk⟩).trans (Step.of_below HB2.out)).trans s3
     have htb3:As.Tb G3 w3:=(((HT.out.go HM.out.gx HG2.out.2).kept HB2.out)).step s3
     have hnx:=HN.out.next As.byte1_l HB.out
     have hl3:(As.byte1 y).l = y.l.tail:=As.byte1_l y
     have hp3:(As.byte1 y).p.length = y.p.length+1:=by rw [HV.out,As.put_len,HE2.out]
     rw [← HV.out] at m3
     have HM3:=Lib.hid m3
     have HST3:=Lib.hid hst3
     have HTB3:=Lib.hid htb3
     have HNX:=Lib.hid hnx
     have HL3:=Lib.hid hl3
     have HP3:=Lib.hid hp3
     have HS3:=Lib.hid (show As.Short (As.byte1 y).l from by rw [hl3,← HE1.out];exact HS1.out)
     clear m3 s3 hst3 htb3 hnx hl3 hp3
     go_wp2_with fail
     go_roundw
     case rel=>exact ⟨false,As.byte1 y,G3,rfl,HM3.out,HTB3.out,HS3.out,HST3.out,by rw [HP3.out,HL3.out,if_neg (by decide)];exact HLN.out.2 HB.out,HNX.out⟩
     case measure=>have e:=As.meas_is HM3.out false;rw [HL3.out,if_neg (by decide),Nat.zero_add] at e;rw [e];exact HMS.out
set_option maxRecDepth 20000 in
theorem As.zeros_make (k:IntKind) (n:Nat) (hn:n≤131072) (W:World):(Instr.makeSlice 26 (.int k (n:Int)) (.int k (n:Int))).run Tryz.prog W = .ok (.slice (some ⟨W.heap.size,0,none⟩) n n) (W.alloc (.cells (bv (List.replicate n 0)).toArray 5)):=by
 obtain ⟨i,z,hi,hz,hs1,hb1,_⟩:=abyt.info
 have hz':z = .int .u8 0:=by
  have h:(Tryz.prog.info? 5).map (fun i=>i.zero) = some (some (.int .u8 0)):=by kernel_rfl
  rw [hi] at h
  simp at h
  rw [hz] at h
  injection h
 subst hz'
 have hb:(i.bytes:Int) * (n:Int)≤281474976710656:=by rw [hb1];omega
 have hr:=run_make (P:=Tryz.prog) W 26 5 i _ Tryz.underlying26 hi hz k k n n (by omega) (by omega) hb (by omega)
 rw [hr]
 simp only [Int.toNat_natCast]
 congr 3
 apply Array.ext'
 apply List.ext_getElem
 ·simp [madeCells,hs1,bv,Value.cells]
 ·intro j h1 h2
  simp [madeCells,bv,Value.cells,Nat.mod_one]
theorem As.OptPost.put {F:Nat→Prop} {w w1 w2 w3:World} {gx:Nat} {x y:As.L} (g1:As.Go F w gx x w1) (b2:Below w1.heap.size w1 w2) (t:As.To F w2 gx y w3) (hg:F gx):As.To F w gx y w3:=
 (t.after (Step.of_below b2)).after ⟨g1.2.mono (fun k e=>e ▸ hg),fun k hk=>.inl hk⟩
set_option maxRecDepth 100000 in
set_option maxHeartbeats 8000000 in
theorem adata_align {F:Nat→Prop} {w:World} {gx:Nat} {x:As.L} (h:As.Mk F w gx x) (hT:As.Tb F w) (hsh:As.Short x.l) (hl:x.p.length+x.l.length≤700000000) (a:Nat) (ha:a < 4294967296) :
  Calls Tryz.prog 140 #[.pointer (some ⟨gx,0,none⟩),.string ⟨#[97,108,105,103,110]⟩,.int .u32 (a:Int)] w (As.OptPost F w gx (As.data As.tAlign a x)):=by
 have HP:=Lib.hid (show As.data As.tAlign a x = some (As.put (As.raw (List.replicate ((4 - a % 4) % 4) 0)) x) from by unfold As.data;rw [if_neg (by decide),if_neg (by decide),if_neg (by decide),if_neg (by decide),if_pos rfl])
 obtain ⟨m,hm⟩:∃ m,(4 - a % 4) % 4 = m:=⟨_,rfl⟩
 rw [hm] at HP
 obtain ⟨z,hz⟩:∃ z:Nat,(4294967296 - a) % 4294967296 = z:=⟨_,rfl⟩
 have hneg:IntKind.u32.wrap (-(a:Int)) = (z:Int):=by rw [IntKind.wrap_u32];omega
 have hand:Go.bits .and .u32 (z:Int) 3 = (m:Int):=by
  show IntKind.u32.wrap ((BitVec.ofInt 32 (z:Int) &&& BitVec.ofInt 32 3).toNat:Int) = _
  have h1:(BitVec.ofInt 32 3).toNat = 2 ^ 2 - 1:=by decide
  have h2:(BitVec.ofInt 32 (z:Int)).toNat = z:=by rw [BitVec.ofInt_natCast,BitVec.toNat_ofNat];exact Nat.mod_eq_of_lt (by omega)
  rw [BitVec.toNat_and,h1,h2,Nat.and_two_pow_sub_one_eq_mod,IntKind.wrap_u32]
  omega
 have hmk:=fun W=>As.zeros_make .u32 m (by omega) W
 have HM0:=Lib.hid h
 have HFR:=Lib.hid (As.Rb.fresh h (List.replicate m 0) (by rw [List.length_replicate];unfold maxLen;omega))
 have HL:=Lib.hid hl
 clear h hT hsh hl hm hz
 rw [HP.out]
 clear HP
 go_enter Tryz.func140,Tryz.ntmps140
 go_wp2_with fail
 go_at_call 218
 have hfr:=HFR.out
 rw [List.length_replicate] at hfr
 refine (aput_any (HM0.out.kept ((Below.refl _ _).alloc (Nat.le_refl _) _)) (As.raw (List.replicate m 0)) _ hfr.1 hfr.2 (by have:=HL.out;omega)).mono ?_
 rintro e w3 ⟨rfl,t3⟩
 have HT3:=Lib.hid (t3.after (Step.of_below ((Below.refl w.heap.size w).alloc (Nat.le_refl _) _)))
 clear t3
 go_wp2_with fail
 go_ret
 exact ⟨rfl,HT3.out⟩
set_option maxRecDepth 100000 in
set_option maxHeartbeats 8000000 in
theorem adata_span {F:Nat→Prop} {w:World} {gx:Nat} {x:As.L} (h:As.Mk F w gx x) (hT:As.Tb F w) (hsh:As.Short x.l) (hl:x.p.length+x.l.length≤700000000) (a:Nat) (ha:a < 4294967296) :
  Calls Tryz.prog 140 #[.pointer (some ⟨gx,0,none⟩),.string ⟨#[115,112,97,110]⟩,.int .u32 (a:Int)] w (As.OptPost F w gx (As.data As.tSpan a x)):=by
 have HP:=Lib.hid (show As.data As.tSpan a x = some (As.put ⟨false,As.no,[0,0,0,0],5,(As.name (As.name x).2).1,(As.name x).1⟩ (As.name (As.name x).2).2) from by unfold As.data;rw [if_neg (by decide),if_neg (by decide),if_neg (by decide),if_neg (by decide),if_neg (by decide),if_pos rfl])
 have HM0:=Lib.hid h
 have HT0:=Lib.hid hT
 have HS0:=Lib.hid hsh
 have HL:=Lib.hid hl
 clear h hT hsh hl
 rw [HP.out]
 clear HP
 go_enter Tryz.func140,Tryz.ntmps140
 go_wp2_with fail
 go_at_call 216
 refine (aname_any HM0.out HT0.out HS0.out).mono ?_
 rintro e w1 ⟨rfl,g1⟩
 have HG1:=Lib.hid g1
 have HT1:=Lib.hid (HT0.out.go HM0.out.gx g1.2)
 have HS1:=Lib.hid HS0.out.name
 have HE1:=Lib.hid (As.name_len x)
 clear g1
 generalize As.name x = E1 at *
 obtain ⟨na,x1⟩:=E1
 dsimp only at HG1 HT1 HS1 HE1 ⊢
 have F4:=Lib.hid (show As.four (0:Int).toNat = [0,0,0,0] from by decide)
 have HD:=Lib.hid (HG1.out.1.kept (Below.refl w1.heap.size w1).drew)
 have HDT:=Lib.hid (HT1.out.kept (Below.refl w1.heap.size w1).drew)
 go_wp2_with fail
 go_region_with (first
  | (go_at_call 142;refine (As.four_int HD.out 0 (by decide) (by decide)).mono ?_;rintro e w2 ⟨g,rfl,r2,i2,b2⟩;have HR2:=Lib.hid (F4.out ▸ r2);have HI2:=Lib.hid i2;have HB2:=Lib.hid b2;clear r2 i2 b2)
  | (go_at_call 216;refine (aname_any (HD.out.kept HB2.out) (HDT.out.kept HB2.out) HS1.out).mono ?_;rintro e w3 ⟨rfl,g3⟩;have HG3:=Lib.hid g3;clear g3)
  | (go_at_call 218;refine (aput_any HG3.out.1 ⟨false,As.no,[0,0,0,0],5,(As.name x1).1,na⟩ (.slice (some ⟨g,0,none⟩) 4 4) (HR2.out.fr (HG3.out.2.mono (fun k e=>e ▸ HM0.out.gx)) (fun _ _ h=>h)) HI2.out (by rw [As.name_len,HE1.out];have:=HL.out;omega)).mono ?_;rintro e w4 ⟨rfl,t4⟩;have HT4:=Lib.hid t4;clear t4))
 all_goals go_wp2_with fail
 all_goals go_ret
 all_goals exact ⟨rfl,((HT4.out.after ⟨HG3.out.2.mono (fun k e=>e ▸ HM0.out.gx),fun k hk=>.inl hk⟩).after (Step.of_below HB2.out)).after ((Step.of_below (Below.refl w1.heap.size w1).drew)) |>.after ⟨HG1.out.2.mono (fun k e=>e ▸ HM0.out.gx),fun k hk=>.inl hk⟩⟩
set_option maxRecDepth 100000 in
set_option maxHeartbeats 8000000 in
theorem adata_space {F:Nat→Prop} {w:World} {gx:Nat} {x:As.L} (h:As.Mk F w gx x) (hT:As.Tb F w) (hsh:As.Short x.l) (hl:x.p.length+x.l.length≤700000000) (a:Nat) (ha:a < 4294967296) :
  Calls Tryz.prog 140 #[.pointer (some ⟨gx,0,none⟩),.string ⟨#[115,112,97,99,101]⟩,.int .u32 (a:Int)] w (As.OptPost F w gx (As.data As.tSpace a x)):=by
 obtain ⟨R,hR⟩:∃ R,R = (if (As.num x).2.ok && As.spaceOk (As.num x).1 then As.put (As.raw (List.replicate (As.num x).1.toNat 0)) (As.sat (As.spaceOk (As.num x).1) (As.num x).2) else As.sat (As.spaceOk (As.num x).1) (As.num x).2):=⟨_,rfl⟩
 have HP:=Lib.hid (show As.data As.tSpace a x = some R from by rw [hR];unfold As.data;rw [if_neg (by decide),if_neg (by decide),if_neg (by decide),if_pos rfl])
 have HM0:=Lib.hid h
 have HT0:=Lib.hid hT
 have HS0:=Lib.hid hsh
 have HL:=Lib.hid hl
 have HE2:=Lib.hid (As.num_len x)
 have hnr:=As.num_range x
 clear h hT hsh hl
 have HRR:=Lib.hid hR
 clear hR
 rw [HP.out]
 clear HP
 go_enter Tryz.func140,Tryz.ntmps140
 go_wp2_with fail
 go_at_call 212
 refine (anum_any HM0.out HT0.out HS0.out).mono ?_
 rintro e w1 ⟨rfl,g1⟩
 have HG1:=Lib.hid g1
 clear g1
 generalize As.num x = E at *
 obtain ⟨n,l1,ok1,p1⟩:=E
 dsimp only at HG1 HE2 hnr HRR ⊢
 obtain ⟨vl1,hs1⟩:=HG1.out.1.seen
 have k1:=hs1.c1
 have f1:=hs1.f 1
 clear hs1
 cases ok1
 ·have HF:=Lib.hid (HG1.out.1.flag (false))
  have HV:=Lib.hid (show R = ⟨l1,false,p1⟩ from by rw [HRR.out];rfl)
  go_wp2_with fail
  go_ret
  rw [HV.out]
  exact ⟨rfl,(HF.out.after HG1.out.2).to⟩
 ·by_cases h1:0≤n
  ·by_cases h2:n≤131072
   ·obtain ⟨m,rfl⟩:∃ m:Nat,n = (m:Int):=⟨n.toNat,by omega⟩
    have h2':(decide ((m:Int)≤131072)) = true:=by simpa using h2
    have HF:=Lib.hid (HG1.out.1.flag true)
    have HV:=Lib.hid (show R = As.put (As.raw (List.replicate m 0)) ⟨l1,true,p1⟩ from by
     rw [HRR.out]
     have e:As.spaceOk (m:Int) = true:=by unfold As.spaceOk;simp [h2]
     rw [e];rfl)
    have hmk:=fun W=>As.zeros_make .i64 m (by omega) W
    go_wp2_with fail
    have hfr:=As.Rb.fresh HF.out.1 (List.replicate m 0) (by rw [List.length_replicate];unfold maxLen;omega)
    rw [List.length_replicate,show (w1.setCell ⟨gx,1,none⟩ (.bool true)).heap.size = w1.heap.size by simp [World.setCell]] at hfr
    have HB2:=Lib.hid ((Below.refl (w1.setCell ⟨gx,1,none⟩ (.bool true)).heap.size _).alloc (Nat.le_refl _) (.cells (bv (List.replicate m 0)).toArray 5))
    obtain ⟨W2,hW2⟩:∃ W2,(w1.setCell ⟨gx,1,none⟩ (.bool true)).alloc (.cells (bv (List.replicate m 0)).toArray 5) = W2:=⟨_,rfl⟩
    rw [hW2] at hfr HB2 ⊢
    have HFR:=Lib.hid hfr
    clear hfr hW2
    go_at_call 218
    refine (aput_any (HF.out.1.kept HB2.out) (As.raw (List.replicate m 0)) (.slice (some ⟨w1.heap.size,0,none⟩) m m) HFR.out.1 HFR.out.2 (by have:=HL.out;have:=HE2.out;dsimp only at this ⊢;rw [this];omega)).mono ?_
    rintro e w3 ⟨rfl,t3⟩
    have HT3:=Lib.hid (As.OptPost.put (HF.out.after HG1.out.2) HB2.out t3 HM0.out.gx)
    clear t3
    go_wp2_with fail
    go_ret
    rw [HV.out]
    exact ⟨rfl,HT3.out⟩
   ·have h2':(decide (n≤131072)) = false:=by simpa using h2
    have HF:=Lib.hid (HG1.out.1.flag (false))
    have HV:=Lib.hid (show R = ⟨l1,false,p1⟩ from by rw [HRR.out];unfold As.spaceOk As.sat;simp [h1,h2])
    go_wp2_with fail
    go_ret
    rw [HV.out]
    exact ⟨rfl,(HF.out.after HG1.out.2).to⟩
  ·have HF:=Lib.hid (HG1.out.1.flag (false))
   have HV:=Lib.hid (show R = ⟨l1,false,p1⟩ from by rw [HRR.out];unfold As.spaceOk As.sat;simp [h1])
   go_wp2_with fail
   go_ret
   rw [HV.out]
   exact ⟨rfl,(HF.out.after HG1.out.2).to⟩
theorem As.conv_sb (w:World) (s:List UInt8) (hs:s.length≤maxLen) :
  ∃ w1 c,(convert 9 26 (.string ⟨s.toArray⟩)).run Tryz.prog w = .ok (.slice (some ⟨w.heap.size,0,none⟩) s.length c) w1∧s.length≤c∧c≤maxLen ∧
   (∀ j,j < s.length→w1.cell? ⟨w.heap.size,j,none⟩ = some (.int .u8 (s.getD j 0).toNat))∧Below w.heap.size w w1∧w.heap.size < w1.heap.size:=by
 have hsz:(⟨s.toArray⟩:ByteArray).size = s.length:=by simp [ByteArray.size]
 have hr:=Lib.run_convert_string_bytes (P:=Tryz.prog) w 9 26 5 ⟨s.toArray⟩ Tryz.underlying9 Tryz.underlying26 Tryz.underlying5
 rw [hsz] at hr
 refine ⟨_,_,hr,grownCap_ge w s.length 0 5,grownCap_le_maxLen w s.length 0 5 hs,fun j hj=>?_,⟨rfl,rfl,rfl,by rw [Lib.bytesWorld_size];omega,fun k hk=>Lib.bytesWorld_at_old w 5 ⟨s.toArray⟩ k hk⟩,by rw [Lib.bytesWorld_size];omega⟩
 have:=Lib.bytesWorld_cell w 5 ⟨s.toArray⟩ j (by rw [hsz];exact hj)
 simpa using this
theorem As.Rb.fresh2 {F:Nat→Prop} {w w2:World} {gx:Nat} {x:As.L} (h:As.Mk F w gx x) {b:List UInt8} {c:Nat} (h1:b.length≤c) (h2:c≤maxLen) (h3:∀ j,j < b.length→w2.cell? ⟨w.heap.size,j,none⟩ = some (.int .u8 (b.getD j 0).toNat)) (h4:w.heap.size < w2.heap.size) :
  As.Rb F w2 (.slice (some ⟨w.heap.size,0,none⟩) b.length c) b∧As.Hi gx (.slice (some ⟨w.heap.size,0,none⟩) b.length c):=by
 refine ⟨⟨⟨by rw [bv_length,Nat.mul_one],some ⟨w.heap.size,0,none⟩,c,rfl,h1,h2,fun _=>⟨_,0,rfl,h4,fun j u hu=>?_⟩⟩,fun g off n c e hn hg=>?_⟩,fun g off n c e hn=>?_⟩
 ·have hj:j < b.length:=by
   have:=(List.getElem?_eq_some_iff.1 hu).1
   rwa [bv_length] at this
  rw [Nat.zero_add,h3 j hj]
  simp only [bv,List.getElem?_map,List.getElem?_eq_getElem hj,Option.map_some] at hu
  injection hu with hu
  rw [← hu]
  simp [List.getD,List.getElem?_eq_getElem hj]
 ·injection e with e _ _
  injection e with e
  injection e with e _
  have:=h.lt g hg
  omega
 ·injection e with e _ _
  injection e with e
  injection e with e _
  have:=h.lt gx h.gx
  omega
set_option maxRecDepth 100000 in
set_option maxHeartbeats 8000000 in
theorem adata_text {F : Nat → Prop} {w : World} {gx : Nat} {x : As.L} (h : As.Mk F w gx x) (hT : As.Tb F w) (hsh : As.Short x.l) (hl : x.p.length + x.l.length ≤ 700000000) (a : Nat) (ha : a < 4294967296) :
    Calls Tryz.prog 140 #[.pointer (some ⟨gx, 0, none⟩), .string ⟨#[116, 101, 120, 116]⟩, .int .u32 (a : Int)] w (As.OptPost F w gx (As.data As.tText a x)) := by
  obtain ⟨R, hR⟩ : ∃ R, R = (if (As.next x).2.ok && As.textOk (As.next x).1 then As.put (As.raw (((As.next x).1.take ((As.next x).1.length - 1)).drop 1)) (As.sat (As.textOk (As.next x).1) (As.next x).2) else As.sat (As.textOk (As.next x).1) (As.next x).2) := ⟨_, rfl⟩
  have HP := Lib.hid (show As.data As.tText a x = some R from by rw [hR]; unfold As.data; rw [if_neg (by decide), if_neg (by decide), if_pos rfl])
  have HM0 := Lib.hid h
  have HS0 := Lib.hid hsh
  have HSL := Lib.hid hsh.next.1
  have HL := Lib.hid hl
  have HE2 := Lib.hid (As.next_len x)
  clear h hT hsh hl
  have HRR := Lib.hid hR
  clear hR
  rw [HP.out]
  clear HP
  go_enter Tryz.func140, Tryz.ntmps140
  go_wp2_with fail
  go_at_call 219
  refine (anext_any HM0.out).mono ?_
  rintro e w1 ⟨rfl, g1⟩
  have HG1 := Lib.hid g1
  clear g1
  generalize As.next x = E at *
  obtain ⟨s, l1, ok1, p1⟩ := E
  dsimp only at HG1 HE2 HSL HRR ⊢
  obtain ⟨vl1, hs1⟩ := HG1.out.1.seen
  have k1 := hs1.c1
  have f1 := hs1.f 1
  clear hs1
  cases ok1
  · have HF := Lib.hid (HG1.out.1.flag (false))
    have HV := Lib.hid (show R = ⟨l1, false, p1⟩ from by rw [HRR.out]; rfl)
    go_wp2_with fail
    go_ret
    rw [HV.out]
    exact ⟨rfl, (HF.out.after HG1.out.2).to⟩
  · by_cases h1 : 1 < s.length
    · have h1' : (1 : Int) < (s.length : Int) := by omega
      have h0 : 0 < s.length := by omega
      have h0' : (0 : Int) < (s.length : Int) := by omega
      have hsub : IntKind.i64.wrap ((s.length : Int) - 1) = ((s.length - 1 : Nat) : Int) := by have := HSL.out; unfold maxLen at this; rw [IntKind.wrap_i64]; omega
      have hget : (((((⟨s.toArray⟩ : ByteArray)[0]'h0).toNat : Int)) == 34) = (s.headD 0 == 34) := by
        rw [L6.get_data s 0 h0, Bool.eq_iff_iff, beq_iff_eq, beq_iff_eq]
        cases s with
        | nil => simp at h0
        | cons a b =>
          simp only [List.headD_cons, List.getD_cons_zero]
          exact ⟨fun h => UInt8.toNat_inj.1 (by have h' : a.toNat = 34 := by omega
                                                exact h'), fun h => by rw [h]; rfl⟩
      by_cases h2 : s.headD 0 = 34
      · have h2' : (s.headD 0 == 34) = true := by simpa using h2
        rw [h2'] at hget
        have HF := Lib.hid (HG1.out.1.flag true)
        have HV := Lib.hid (show R = As.put (As.raw ((s.take (s.length - 1)).drop 1)) ⟨l1, true, p1⟩ from by
          rw [HRR.out]
          have e : As.textOk s = true := by unfold As.textOk; rw [h2']; simp [h1]
          rw [e]; rfl)
        obtain ⟨B, hB⟩ : ∃ B, (s.take (s.length - 1)).drop 1 = B := ⟨_, rfl⟩
        have hx : (⟨s.toArray⟩ : ByteArray).extract 1 (s.length - 1) = ⟨B.toArray⟩ := by rw [ext_eq, ← hB, List.drop_take]
        have HBL := Lib.hid (show B.length ≤ maxLen from by rw [← hB]; simp only [List.length_drop, List.length_take]; have := HSL.out; omega)
        rw [hB] at HV
        obtain ⟨w2, c2, hrun, hc1, hc2, hcell, hb2, hlt2⟩ := As.conv_sb (w1.setCell ⟨gx, 1, none⟩ (.bool true)) B HBL.out
        have hfr := As.Rb.fresh2 HF.out.1 hc1 hc2 hcell hlt2
        have hsz : (w1.setCell ⟨gx, 1, none⟩ (.bool true)).heap.size = w1.heap.size := by simp [World.setCell]
        rw [hsz] at hfr hrun
        have HFR := Lib.hid hfr
        have HB2 := Lib.hid hb2
        clear hc1 hc2 hcell hlt2 hb2 hB hfr hsz
        go_wp2_with fail
        go_at_call 218
        refine (aput_any (HF.out.1.kept HB2.out) (As.raw B) (.slice (some ⟨w1.heap.size, 0, none⟩) B.length c2) HFR.out.1 HFR.out.2 (by have := HL.out; have := HE2.out; dsimp only at this ⊢; rw [this]; omega)).mono ?_
        rintro e w3 ⟨rfl, t3⟩
        have HT3 := Lib.hid (As.OptPost.put (HF.out.after HG1.out.2) HB2.out t3 HM0.out.gx)
        clear t3
        go_wp2_with fail
        go_ret
        rw [HV.out]
        exact ⟨rfl, HT3.out⟩
      · have h2' : (s.headD 0 == 34) = false := by simpa using h2
        rw [h2'] at hget
        have HF := Lib.hid (HG1.out.1.flag (false))
        have HV := Lib.hid (show R = ⟨l1, false, p1⟩ from by rw [HRR.out]; unfold As.textOk As.sat; rw [h2']; simp)
        go_wp2_with fail
        go_ret
        rw [HV.out]
        exact ⟨rfl, (HF.out.after HG1.out.2).to⟩
    · have h1' : ¬ (1 : Int) < (s.length : Int) := by omega
      have HF := Lib.hid (HG1.out.1.flag (false))
      have HV := Lib.hid (show R = ⟨l1, false, p1⟩ from by rw [HRR.out]; unfold As.textOk As.sat; simp [h1])
      go_wp2_with fail
      go_ret
      rw [HV.out]
      exact ⟨rfl, (HF.out.after HG1.out.2).to⟩
set_option maxRecDepth 100000 in
set_option maxHeartbeats 4000000 in
theorem adata_none {F:Nat→Prop} {w:World} {gx:Nat} {x:As.L} (s:List UInt8) (a:Nat) (hs:As.data s a x = none) :
  Calls Tryz.prog 140 #[.pointer (some ⟨gx,0,none⟩),.string ⟨s.toArray⟩,.int .u32 (a:Int)] w (As.OptPost F w gx none):=by
 have n0:s ≠ As.tWord:=fun e=>by subst e;exact absurd hs (by unfold As.data;rw [if_pos rfl];exact Option.some_ne_none _)
 have n1:s ≠ As.tByte:=fun e=>by subst e;exact absurd hs (by unfold As.data;rw [if_neg (by decide),if_pos rfl];exact Option.some_ne_none _)
 have n2:s ≠ As.tText:=fun e=>by subst e;exact absurd hs (by unfold As.data;rw [if_neg (by decide),if_neg (by decide),if_pos rfl];exact Option.some_ne_none _)
 have n3:s ≠ As.tSpace:=fun e=>by subst e;exact absurd hs (by unfold As.data;rw [if_neg (by decide),if_neg (by decide),if_neg (by decide),if_pos rfl];exact Option.some_ne_none _)
 have n4:s ≠ As.tAlign:=fun e=>by subst e;exact absurd hs (by unfold As.data;rw [if_neg (by decide),if_neg (by decide),if_neg (by decide),if_neg (by decide),if_pos rfl];exact Option.some_ne_none _)
 have n5:s ≠ As.tSpan:=fun e=>by subst e;exact absurd hs (by unfold As.data;rw [if_neg (by decide),if_neg (by decide),if_neg (by decide),if_neg (by decide),if_neg (by decide),if_pos rfl];exact Option.some_ne_none _)
 have a0:(s == [119,111,114,100]) = false:=(show (s == As.tWord) = false from by simpa using n0)
 have b0:(!s == [119,111,114,100]) = true:=(show (!s == As.tWord) = true from by simpa using n0)
 have a1:(s == [98,121,116,101]) = false:=(show (s == As.tByte) = false from by simpa using n1)
 have b1:(!s == [98,121,116,101]) = true:=(show (!s == As.tByte) = true from by simpa using n1)
 have a2:(s == [116,101,120,116]) = false:=(show (s == As.tText) = false from by simpa using n2)
 have b2:(!s == [116,101,120,116]) = true:=(show (!s == As.tText) = true from by simpa using n2)
 have a3:(s == [115,112,97,99,101]) = false:=(show (s == As.tSpace) = false from by simpa using n3)
 have b3:(!s == [115,112,97,99,101]) = true:=(show (!s == As.tSpace) = true from by simpa using n3)
 have a4:(s == [97,108,105,103,110]) = false:=(show (s == As.tAlign) = false from by simpa using n4)
 have b4:(!s == [97,108,105,103,110]) = true:=(show (!s == As.tAlign) = true from by simpa using n4)
 have a5:(s == [115,112,97,110]) = false:=(show (s == As.tSpan) = false from by simpa using n5)
 have b5:(!s == [115,112,97,110]) = true:=(show (!s == As.tSpan) = true from by simpa using n5)
 clear hs n0 n1 n2 n3 n4 n5
 go_enter Tryz.func140,Tryz.ntmps140
 go_wp2_with fail
 go_ret
 exact ⟨rfl,rfl⟩
theorem adata_any {F:Nat→Prop} {w:World} {gx:Nat} {x:As.L} (h:As.Mk F w gx x) (hT:As.Tb F w) (hsh:As.Short x.l) (hl:x.p.length+x.l.length≤700000000) (a:Nat) (ha:a < 4294967296) (s:List UInt8) :
  Calls Tryz.prog 140 #[.pointer (some ⟨gx,0,none⟩),.string ⟨s.toArray⟩,.int .u32 (a:Int)] w (As.OptPost F w gx (As.data s a x)):=by
 by_cases n0:s = As.tWord
 ·subst n0;exact adata_word h hT hsh hl a ha
 by_cases n1:s = As.tByte
 ·subst n1;exact adata_byte h hT hsh hl a ha
 by_cases n2:s = As.tText
 ·subst n2;exact adata_text h hT hsh hl a ha
 by_cases n3:s = As.tSpace
 ·subst n3;exact adata_space h hT hsh hl a ha
 by_cases n4:s = As.tAlign
 ·subst n4;exact adata_align h hT hsh hl a ha
 by_cases n5:s = As.tSpan
 ·subst n5;exact adata_span h hT hsh hl a ha
 have e:As.data s a x = none:=by unfold As.data;rw [if_neg n0,if_neg n1,if_neg n2,if_neg n3,if_neg n4,if_neg n5]
 rw [e]
 exact adata_none s a e
def As.PiecesPost (w:World) (r:Option (List As.P)) (e:Ending) (w':World):Prop:=
 match r with
 | none=>e = .returned (.tuple #[.slice none 0 0,.int .i64 40])∧Below w.heap.size w w'
 | some ps=>∃ v,e = .returned (.tuple #[v,.int .i64 0])∧RdP w.heap.size w' v ps∧Below w.heap.size w w'
theorem As.mk_start (w:World) (t:TypeId) (cs:Array Value) (va:Value) (l:List (List UInt8)) (h:RdS w va l) :
  As.Mk (fun k=>k = w.heap.size+1) ((w.alloc (.cells cs t)).alloc (.cells #[va,.bool true,.slice none 0 0] 250)) (w.heap.size+1) ⟨l,true,[]⟩:=by
 have h0:Below w.heap.size w (w.alloc (.cells cs t)):=(Below.refl _ _).alloc (Nat.le_refl _) _
 have h1:Below w.heap.size w ((w.alloc (.cells cs t)).alloc (.cells #[va,.bool true,.slice none 0 0] 250)):=h0.alloc (by simp) _
 have hbk:=Bk.fresh (w.alloc (.cells cs t)) 250 #[va,.bool true,.slice none 0 0]
 rw [World.size_alloc] at hbk
 refine ⟨⟨va,.slice none 0 0,[],hbk,⟨h.kept h1,fun g off n c e hn hg=>?_⟩,World.ownsRow_nil _ _ _ _,rfl,fun k hk=>by cases hk⟩,rfl,fun k hk=>by subst hk;exact hbk.lt⟩
 obtain ⟨_,A',c',e',_,_,h4⟩:=h
 rw [e] at e'
 injection e' with e1 e2 e3
 obtain ⟨g',off',e4,hlt,_⟩:=h4 (by omega)
 rw [← e1] at e4
 injection e4 with e4
 injection e4 with e4 _
 omega
theorem As.tail_of {w w2 w3:World} {gx:Nat} {y:As.L} (hto:As.To (fun k=>k = gx) w2 gx y w3) (hgx:w.heap.size≤gx) (hlt:gx < w2.heap.size) (hb:Below w.heap.size w w2) :
  ∃ A c Ap cp,w3.cell? ⟨gx,0,none⟩ = some (.slice A y.l.length c)∧w3.cell? ⟨gx,1,none⟩ = some (.bool y.ok)∧w3.cell? ⟨gx,2,none⟩ = some (.slice Ap y.p.length cp)∧Hid (RdP w.heap.size w3 (.slice Ap y.p.length cp) y.p∧Below w.heap.size w w3):=by
 obtain ⟨F',hm,hst⟩:=hto
 have hF:∀ k,F' k→gx≤k:=fun k hk=>(hst.new k hk).elim (fun e=>by omega) (fun e=>by omega)
 obtain ⟨vl,vp,h1,h2,h3⟩:=hm.out hF
 obtain ⟨A,c,rfl⟩:=Rd.form h2
 obtain ⟨Ap,cp,rfl⟩:=h3.form
 have hb3:Below w.heap.size w w3:=hb.trans (hst.below (fun k hk=>by omega) hb.size)
 refine ⟨A,c,Ap,cp,h1.cell 0,h1.cell 1,h1.cell 2,Lib.hid ⟨?_,hb3⟩⟩
 obtain ⟨cs,q1,q2,q3⟩:=h3
 exact ⟨cs,q1,fun g off n c e hn=>Nat.le_trans hgx (q2 g off n c e hn),q3.map fun u b hu=>⟨hu.1,fun g off n c e hn=>Nat.le_trans hgx (hu.2 g off n c e hn)⟩⟩
set_option maxRecDepth 100000 in
set_option maxHeartbeats 8000000 in
theorem apieces_any (vl va:Value) (x:L6.Line) (a:Nat) (w:World) (h:RdS w va x.args) (hT:L6.Tab w) (hvl:∃ A n c,vl = .slice A n c) (hl:x.args.length≤600000000) (hlo:As.Lo x.args) (ha:a < 4294967296) :
  Calls Tryz.prog 84 #[.agg #[vl,.string ⟨x.word.toArray⟩,va],.int .u32 (a:Int)] w (As.PiecesPost w (As.pieces x a)):=by
 obtain ⟨xl,xw,xa⟩:=x
 obtain ⟨A0,n0,c0',rfl⟩:=hvl
 dsimp only at h hl hlo ⊢
 have hlt:=F8.tab_lt hT
 have hal:Below w.heap.size w (w.alloc (.cells #[.slice A0 n0 c0',.string ⟨xw.toArray⟩,va] 105)):=(Below.refl _ _).alloc (Nat.le_refl _) _
 have hbk:=Bk.fresh w 105 #[.slice A0 n0 c0',.string ⟨xw.toArray⟩,va]
 by_cases hw:xw = []
 ·subst hw
  have HP:=Lib.hid (show As.pieces ⟨xl,[],xa⟩ a = some [] from by unfold As.pieces;rw [if_pos rfl])
  have b1:=hbk.cell 1
  have HAL:=Lib.hid hal
  clear h hT hl hlo hal hbk hlt
  go_enter Tryz.func84,Tryz.ntmps84
  go_wp2_with fail
  go_ret2
  rw [HP.out]
  exact ⟨_,rfl,RdP.nil _ _,HAL.out⟩
 ·have e1:(xw == ([]:List UInt8)) = false:=by simpa using hw
  have e2:(!xw == ([]:List UInt8)) = true:=by simpa using hw
  have e3:xw.isEmpty = false:=by simpa using hw
  have HP:=Lib.hid (show As.pieces ⟨xl,xw,xa⟩ a = (match As.read xw a ⟨xa,true,[]⟩ with | none=>none | some y=>As.done y) from by unfold As.pieces;rw [if_neg hw];rfl)
  have hm:=As.mk_start w 105 #[.slice A0 n0 c0',.string ⟨xw.toArray⟩,va] va xa h
  have hal2:Below w.heap.size w ((w.alloc (.cells #[.slice A0 n0 c0',.string ⟨xw.toArray⟩,va] 105)).alloc (.cells #[va,.bool true,.slice none 0 0] 250)):=hal.alloc (by simp) _
  have hbk2:Bk ((w.alloc (.cells #[.slice A0 n0 c0',.string ⟨xw.toArray⟩,va] 105)).alloc (.cells #[va,.bool true,.slice none 0 0] 250)) w.heap.size 105 #[.slice A0 n0 c0',.string ⟨xw.toArray⟩,va]:=hbk.kept ((Below.refl _ _).alloc (Nat.le_refl _) _)
  have htb:As.Tb (fun k=>k = w.heap.size+1) ((w.alloc (.cells #[.slice A0 n0 c0',.string ⟨xw.toArray⟩,va] 105)).alloc (.cells #[va,.bool true,.slice none 0 0] 250)):=⟨hT.kept hal2,fun e=>by omega⟩
  obtain ⟨AA,cA,rfl⟩:=Rd.form h
  have b0:=hbk.cell 0
  have b1:=hbk.cell 1
  have b2:=hbk.cell 2
  have HM:=Lib.hid hm
  have HB2:=Lib.hid hal2
  have HK2:=Lib.hid hbk2
  have HT:=Lib.hid htb
  have HSH:=Lib.hid (show As.Short xa from fun s hs=>Nat.le_trans (hlo s hs) (by decide))
  have HL:=Lib.hid hl
  have CB:=Lib.hid (fun W=>byname_own ⟨xw.toArray⟩ W)
  clear h hT hl hlo hal hal2 hbk hbk2 hm htb hlt hw
  go_enter Tryz.func84,Tryz.ntmps84
  go_wp2_with fail
  obtain ⟨W2,hW2⟩:∃ W2,(w.alloc (.cells #[.slice A0 n0 c0',.string ⟨xw.toArray⟩,.slice AA xa.length cA] 105)).alloc (.cells #[.slice AA xa.length cA,.bool true,.slice none 0 0] 250) = W2:=⟨_,rfl⟩
  rw [hW2] at HM HB2 HK2 HT ⊢
  clear hW2 b0 b1 b2
  have b1:=HK2.out.cell 1
  go_wp2_with fail
  go_at_call 137
  refine (CB.out _).mono ?_
  rintro e w3 ⟨rfl,hb3⟩
  have HM3:=Lib.hid (HM.out.kept hb3)
  have HT3:=Lib.hid (HT.out.kept hb3)
  have HB3:=Lib.hid (show Below w.heap.size w w3 from HB2.out.trans (hb3.mono HB2.out.size))
  have hk3:=HK2.out.kept hb3
  have HK3:=Lib.hid hk3
  have d1:=hk3.cell 1
  clear hb3 hk3
  cases hn:Is.isName ⟨xw.toArray⟩
  ·cases hp:As.pseudo xw ⟨xa,true,[]⟩ with
   | some y=>
    have CP:=Lib.hid (show Calls Tryz.prog 139 #[.pointer (some ⟨w.heap.size+1,0,none⟩),.string ⟨xw.toArray⟩] w3 (As.OptPost _ w3 (w.heap.size+1) (some y)) from by rw [← hp];exact apseudo_any HM3.out HT3.out HSH.out (Nat.zero_le _) xw)
    have HRD:=Lib.hid (show As.read xw a ⟨xa,true,[]⟩ = some y from by unfold As.read;rw [if_neg (by rw [hn];decide),hp])
    clear hn hp
    go_wp2_with fail
    go_at_call 139
    refine CP.out.mono ?_
    rintro e wz ⟨rfl,hto⟩
    obtain ⟨A1,c1,Ap,cp,k0,k1,k2,HZ⟩:=As.tail_of (w:=w) hto (Nat.le_succ _) (HM3.out.lt _ HM3.out.gx) HB3.out
    have HQ:=Lib.hid (show As.pieces ⟨xl,xw,xa⟩ a = As.done (y) from by rw [HP.out,HRD.out])
    generalize y = y at *
    obtain ⟨yl,yo,yp⟩:=y
    dsimp only at k0 k1 k2 HZ HQ
    clear hto
    cases yo
    ·have HR:=Lib.hid (show As.pieces ⟨xl,xw,xa⟩ a = none from by rw [HQ.out];unfold As.done;rw [if_neg (fun e=>by cases e.1)])
     go_wp2_with fail
     go_ret2
     rw [HR.out]
     exact ⟨rfl,HZ.out.2⟩
    ·cases yl with
     | nil=>
      have HR:=Lib.hid (show As.pieces ⟨xl,xw,xa⟩ a = some yp from by rw [HQ.out];unfold As.done;rw [if_pos ⟨rfl,rfl⟩])
      go_wp2_with fail
      go_ret2
      rw [HR.out]
      exact ⟨_,rfl,HZ.out.1,HZ.out.2⟩
     | cons s t=>
      have HR:=Lib.hid (show As.pieces ⟨xl,xw,xa⟩ a = none from by rw [HQ.out];unfold As.done;rw [if_neg (fun e=>by cases e.2)])
      have hpos:(0:Int) < ((s :: t).length:Int):=by rw [List.length_cons];omega
      generalize (s :: t).length = ny at *
      go_wp2_with fail
      go_ret2
      rw [HR.out]
      exact ⟨rfl,HZ.out.2⟩
   | none=>
    have CP:=Lib.hid (show Calls Tryz.prog 139 #[.pointer (some ⟨w.heap.size+1,0,none⟩),.string ⟨xw.toArray⟩] w3 (As.OptPost (fun _=>False) w3 (w.heap.size+1) none) from apseudo_none xw hp)
    cases hd:As.data xw a ⟨xa,true,[]⟩ with
    | some y=>
     have CD:=Lib.hid (show Calls Tryz.prog 140 #[.pointer (some ⟨w.heap.size+1,0,none⟩),.string ⟨xw.toArray⟩,.int .u32 (a:Int)] w3 (As.OptPost _ w3 (w.heap.size+1) (some y)) from by rw [← hd];exact adata_any HM3.out HT3.out HSH.out (by have:=HL.out;simp;omega) a ha xw)
     have HRD:=Lib.hid (show As.read xw a ⟨xa,true,[]⟩ = some y from by unfold As.read;rw [if_neg (by rw [hn];decide),hp];exact hd)
     clear hn hp hd
     go_wp2_with fail
     go_at_call 139
     refine CP.out.mono ?_
     rintro e w' ⟨rfl,rfl⟩
     go_wp2_with fail
     go_at_call 140
     refine CD.out.mono ?_
     rintro e wz ⟨rfl,hto⟩
     obtain ⟨A1,c1,Ap,cp,k0,k1,k2,HZ⟩:=As.tail_of (w:=w) hto (Nat.le_succ _) (HM3.out.lt _ HM3.out.gx) HB3.out
     have HQ:=Lib.hid (show As.pieces ⟨xl,xw,xa⟩ a = As.done (y) from by rw [HP.out,HRD.out])
     generalize y = y at *
     obtain ⟨yl,yo,yp⟩:=y
     dsimp only at k0 k1 k2 HZ HQ
     clear hto
     cases yo
     ·have HR:=Lib.hid (show As.pieces ⟨xl,xw,xa⟩ a = none from by rw [HQ.out];unfold As.done;rw [if_neg (fun e=>by cases e.1)])
      go_wp2_with fail
      go_ret2
      rw [HR.out]
      exact ⟨rfl,HZ.out.2⟩
     ·cases yl with
      | nil=>
       have HR:=Lib.hid (show As.pieces ⟨xl,xw,xa⟩ a = some yp from by rw [HQ.out];unfold As.done;rw [if_pos ⟨rfl,rfl⟩])
       go_wp2_with fail
       go_ret2
       rw [HR.out]
       exact ⟨_,rfl,HZ.out.1,HZ.out.2⟩
      | cons s t=>
       have HR:=Lib.hid (show As.pieces ⟨xl,xw,xa⟩ a = none from by rw [HQ.out];unfold As.done;rw [if_neg (fun e=>by cases e.2)])
       have hpos:(0:Int) < ((s :: t).length:Int):=by rw [List.length_cons];omega
       generalize (s :: t).length = ny at *
       go_wp2_with fail
       go_ret2
       rw [HR.out]
       exact ⟨rfl,HZ.out.2⟩
    | none=>
     have CD:=Lib.hid (show Calls Tryz.prog 140 #[.pointer (some ⟨w.heap.size+1,0,none⟩),.string ⟨xw.toArray⟩,.int .u32 (a:Int)] w3 (As.OptPost (fun _=>False) w3 (w.heap.size+1) none) from adata_none xw a hd)
     have HR:=Lib.hid (show As.pieces ⟨xl,xw,xa⟩ a = none from by rw [HP.out];unfold As.read;rw [if_neg (by rw [hn];decide),hp];dsimp only;rw [hd])
     clear hn hp hd
     go_wp2_with fail
     go_at_call 139
     refine CP.out.mono ?_
     rintro e w' ⟨rfl,rfl⟩
     go_wp2_with fail
     go_at_call 140
     refine CD.out.mono ?_
     rintro e w' ⟨rfl,rfl⟩
     go_wp2_with fail
     go_ret2
     rw [HR.out]
     exact ⟨rfl,HB3.out⟩
  ·have CI:=Lib.hid (ainst_any HM3.out HT3.out HSH.out (Is.found ⟨xw.toArray⟩) (Nat.zero_le _))
   have HRD:=Lib.hid (show As.read xw a ⟨xa,true,[]⟩ = some (As.inst (Is.found ⟨xw.toArray⟩) ⟨xa,true,[]⟩) from by unfold As.read;rw [if_pos hn])
   clear hn
   go_wp2_with fail
   go_at_call 138
   refine CI.out.mono ?_
   rintro e wz ⟨rfl,hto⟩
   obtain ⟨A1,c1,Ap,cp,k0,k1,k2,HZ⟩:=As.tail_of (w:=w) hto (Nat.le_succ _) (HM3.out.lt _ HM3.out.gx) HB3.out
   have HQ:=Lib.hid (show As.pieces ⟨xl,xw,xa⟩ a = As.done (As.inst (Is.found ⟨xw.toArray⟩) ⟨xa,true,[]⟩) from by rw [HP.out,HRD.out])
   generalize As.inst (Is.found ⟨xw.toArray⟩) ⟨xa,true,[]⟩ = y at *
   obtain ⟨yl,yo,yp⟩:=y
   dsimp only at k0 k1 k2 HZ HQ
   clear hto
   cases yo
   ·have HR:=Lib.hid (show As.pieces ⟨xl,xw,xa⟩ a = none from by rw [HQ.out];unfold As.done;rw [if_neg (fun e=>by cases e.1)])
    go_wp2_with fail
    go_ret2
    rw [HR.out]
    exact ⟨rfl,HZ.out.2⟩
   ·cases yl with
    | nil=>
     have HR:=Lib.hid (show As.pieces ⟨xl,xw,xa⟩ a = some yp from by rw [HQ.out];unfold As.done;rw [if_pos ⟨rfl,rfl⟩])
     go_wp2_with fail
     go_ret2
     rw [HR.out]
     exact ⟨_,rfl,HZ.out.1,HZ.out.2⟩
    | cons s t=>
     have HR:=Lib.hid (show As.pieces ⟨xl,xw,xa⟩ a = none from by rw [HQ.out];unfold As.done;rw [if_neg (fun e=>by cases e.2)])
     have hpos:(0:Int) < ((s :: t).length:Int):=by rw [List.length_cons];omega
     generalize (s :: t).length = ny at *
     go_wp2_with fail
     go_ret2
     rw [HR.out]
     exact ⟨rfl,HZ.out.2⟩
theorem RdP.at {B:Nat} {W:World} {v:Value} {ps:List As.P} (h:RdP B W v ps) {k:Nat} (hk:k < ps.length) :
  ∃ g off c vb,v = .slice (some ⟨g,off,none⟩) ps.length c∧g < W.heap.size∧B≤g∧(∀ i,i < 10→W.cell? ⟨g,off+k * 10+i,none⟩ = (As.cellsP ps[k] vb)[i]?)∧Rd W 1 vb ps[k].bytes.length (bv ps[k].bytes)∧(∀ g off n c,vb = .slice (some ⟨g,off,none⟩) n c→0 < n→B≤g):=by
 obtain ⟨cs,⟨hl,A,c,rfl,h2,h3,h4⟩,hB,hp⟩:=h
 obtain ⟨g,off,rfl,hg,hc⟩:=h4 (by omega)
 obtain ⟨vb,q1,q2⟩:=hp.at hk
 refine ⟨g,off,c,vb,rfl,hg,hB g off _ c rfl (by omega),fun i hi=>?_,q1.1,q1.2⟩
 have hq:=q2 i hi
 cases hu:(As.cellsP ps[k] vb)[i]? with
 | none=>
  rw [List.getElem?_eq_none_iff] at hu
  simp only [As.cellsP,List.length_cons,List.length_nil] at hu
  omega
 | some u=>
  rw [hu] at hq
  have:=hc (k * 10+i) u hq
  rwa [← Nat.add_assoc] at this
theorem As.size_take {ps:List As.P} {k:Nat} (hk:k < ps.length):As.size (ps.take (k+1)) = As.size (ps.take k)+As.size1 ps[k]:=by
 unfold As.size
 rw [List.take_add_one,List.getElem?_eq_getElem hk,List.map_append,List.sum_append,Option.toList_some,List.map_cons,List.map_nil,List.sum_cons,List.sum_nil,Nat.add_zero]
theorem As.OkL.take {ps:List As.P} (h:As.OkL ps) (k:Nat):As.OkL (ps.take k):=fun p hp=>h p (List.mem_of_mem_take hp)
set_option maxRecDepth 100000 in
set_option maxHeartbeats 4000000 in
theorem asize_any {B:Nat} (v:Value) (ps:List As.P) (w:World) (h:RdP B w v ps) (hok:As.OkL ps) (hn:ps.length≤2000000000) :
  Calls Tryz.prog 85 #[v] w fun e w'=>e = .returned (.int .i64 ((As.size ps:Nat):Int))∧Below w.heap.size w w':=by
 have HH:=Lib.hid h
 have HOK:=Lib.hid hok
 have HLL:=Lib.hid hn
 obtain ⟨A,c,rfl⟩:=h.form
 clear h hok hn
 go_enter Tryz.func85,Tryz.ntmps85
 go_wp2_with fail
 go_loopw [3,8] (fun acc i wr=>∃ k:Nat,acc = .int .i64 ((As.size (ps.take k):Nat):Int)∧i = .int .i64 (k:Int)∧k≤ps.length∧Below w.heap.size w wr) (fun _ i _=>ps.length - (intOf i).toNat)
 case atStart=>exact ⟨0,rfl,rfl,Nat.zero_le _,Below.refl _ _⟩
 case round=>
  obtain ⟨k,rfl,rfl,hk,hbr⟩:=hrel
  have HBR:=Lib.hid hbr
  clear hbr
  by_cases hlt:k < ps.length
  ·have hlt':(k:Int) < (ps.length:Int):=by omega
   have hw1:IntKind.i64.wrap ((k:Int)+1) = (k:Int)+1:=by have:=HLL.out;rw [IntKind.wrap_i64];omega
   obtain ⟨g,off,c',vb,e,hg,_,hc,hr,_⟩:=HH.out.at hlt
   injection e with e1 e2 e3
   subst e1 e3
   have HLT:=Lib.hid (show k+1≤ps.length from hlt)
   have hsz:=As.size_le (HOK.out.take k)
   have hb:=(HOK.out _ (List.getElem_mem hlt)).bytes
   have HST:=Lib.hid (As.size_take hlt)
   have hkl:(ps.take k).length≤2000000000:=by have:=HLL.out;rw [List.length_take];omega
   have hS:As.size (ps.take k)≤4000000008000000000:=Nat.le_trans hsz (Nat.le_trans (Nat.mul_le_mul_right _ hkl) (by decide))
   have HC:=Lib.hid (fun i (hi:i < 10)=>(HBR.out.cell (p:=⟨g,off+k * 10+i,none⟩) hg).trans (hc i hi))
   clear hc hsz hkl
   generalize As.size (ps.take k) = S at *
   generalize ps[k] = p at *
   obtain ⟨pc,⟨op,rd,rs1,rs2,imm⟩,pb,pk,pn,pf⟩:=p
   obtain ⟨BB,cb,rfl⟩:=hr.form
   dsimp only at hb
   have q0:=HC.out 0 (by decide)
   have q1:=HC.out 1 (by decide)
   have q2:=HC.out 2 (by decide)
   have q3:=HC.out 3 (by decide)
   have q4:=HC.out 4 (by decide)
   have q5:=HC.out 5 (by decide)
   have q6:=HC.out 6 (by decide)
   have q7:=HC.out 7 (by decide)
   have q8:=HC.out 8 (by decide)
   have q9:=HC.out 9 (by decide)
   simp only [As.cellsP,List.getElem?_cons_zero,List.getElem?_cons_succ,Nat.add_zero] at q0 q1 q2 q3 q4 q5 q6 q7 q8 q9
   have hw2:IntKind.i64.wrap ((S:Int)+(pb.length:Int)) = (S:Int)+(pb.length:Int):=by rw [IntKind.wrap_i64];omega
   have hw3:IntKind.i64.wrap ((S:Int)+(pb.length:Int)+4) = (S:Int)+(pb.length:Int)+4:=by rw [IntKind.wrap_i64];omega
   have hbk:=Bk.fresh wr 176 #[.bool pc,.int .i64 op,.int .i64 rd,.int .i64 rs1,.int .i64 rs2,.int .i64 imm,.slice BB pb.length cb,.int .i64 (pk:Int),.string ⟨pn.toArray⟩,.string ⟨pf.toArray⟩]
   have b0:=hbk.cell 0
   have b6:=hbk.cell 6
   have HB2:=Lib.hid (show Below w.heap.size w (wr.alloc (.cells #[.bool pc,.int .i64 op,.int .i64 rd,.int .i64 rs1,.int .i64 rs2,.int .i64 imm,.slice BB pb.length cb,.int .i64 (pk:Int),.string ⟨pn.toArray⟩,.string ⟨pf.toArray⟩] 176)) from HBR.out.alloc HBR.out.size _)
   clear hr hbk
   cases pc
   ·go_wp2_with fail
    go_roundw
    case rel=>exact ⟨k+1,by rw [HST.out];simp [As.size1],by simp,HLT.out,HB2.out⟩
    case measure=>have:=HLT.out;simp [intOf];omega
   ·go_wp2_with fail
    go_roundw
    case rel=>exact ⟨k+1,by rw [HST.out];simp [As.size1];omega,by simp,HLT.out,HB2.out⟩
    case measure=>have:=HLT.out;simp [intOf];omega
  ·obtain rfl:k = ps.length:=by omega
   rw [List.take_length]
   go_wp2_with fail
   go_ret
   exact ⟨rfl,HBR.out⟩
end Go.Proofs.YtpcpaoeajcjoiaaGreatDoor
