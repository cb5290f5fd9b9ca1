/- Texts joined, what is not reached left out. -/
import Derived.Test.YtpcpaoeajcjoiaaGreatDoorMF
import Derived.Test.YtpcpaoeajcjoiaaGreatDoorQL6Parse
import Derived.Test.YtpcpaoeajcjoiaaGreatDoorLZ
import Derived.Test.YtpcpaoeajcjoiaaGreatDoorPF
import Derived.Test.YtpcpaoeajcjoiaaGreatDoorFB
import Derived.Test.YtpcpaoeajcjoiaaGreatDoorIP
set_option linter.unusedVariables false
set_option linter.unusedSimpArgs false
namespace Go.Proofs.YtpcpaoeajcjoiaaGreatDoor
open Go.RowKit Kit
theorem As.str_of {w:World} {v:Value} {b:List UInt8} (h:Rd w 1 v b.length (bv b)):(convert 26 9 v).run Tryz.prog w = .ok (.string ⟨b.toArray⟩) w:=by
 obtain ⟨_,A,c,rfl,_,_,h4⟩:=h
 cases b with
 | nil=>
  cases A with
  | none=>exact run_convert_bytes_nil (w:=w) 26 5 Tryz.underlying26 Tryz.underlying5 0 c 9 Tryz.underlying9
  | some a=>exact run_convert_bytes_back w 26 9 5 a c [] Tryz.underlying26 Tryz.underlying5 Tryz.underlying9 fun j hj=>by simp at hj
 | cons x t=>
  obtain ⟨g,off,rfl,hg,hc⟩:=h4 (by simp)
  refine run_convert_bytes_back w 26 9 5 ⟨g,off,none⟩ c (x :: t) Tryz.underlying26 Tryz.underlying5 Tryz.underlying9 fun j hj=>?_
  rw [addr_add]
  exact hc j _ (by simp only [bv,List.getElem?_map,List.getElem?_eq_getElem hj,Option.map_some])
def As.known:List UInt8:=[97,58,32,106,32,97,10,98,58,32,119,111,114,100,32,97,32,98]
theorem Im.mk_new (W:World):Im.Mk (fun k=>k = W.heap.size) (W.alloc (.cells #[.slice none 0 0,.int .i64 0,.string ⟨#[]⟩,.string ⟨#[]⟩,.string ⟨#[]⟩,.string ⟨#[]⟩,.string ⟨#[]⟩,.string ⟨#[]⟩,.string ⟨#[]⟩,.string ⟨#[]⟩,.string ⟨#[]⟩,.string ⟨#[]⟩,.string ⟨#[]⟩,.string ⟨#[]⟩,.string ⟨#[]⟩,.string ⟨#[]⟩,.string ⟨#[]⟩,.string ⟨#[]⟩,.string ⟨#[]⟩,.string ⟨#[]⟩,.string ⟨#[]⟩,.string ⟨#[]⟩,.string ⟨#[]⟩,.string ⟨#[]⟩,.string ⟨#[]⟩,.string ⟨#[]⟩,.string ⟨#[]⟩,.string ⟨#[]⟩,.string ⟨#[]⟩,.string ⟨#[]⟩,.string ⟨#[]⟩,.string ⟨#[]⟩,.string ⟨#[]⟩,.string ⟨#[]⟩,.string ⟨#[]⟩,.slice none 0 0] 124)) W.heap.size Im.start:=
 ⟨⟨.slice none 0 0,.slice none 0 0,[],Bk.fresh W _ _,World.ownsRow_nil _ _ _ _,rfl,World.ownsRow_nil _ _ _ _,fun k e=>(by cases e),fun k e=>(by cases e)⟩,rfl,Nat.zero_le _,rfl,fun k e=>by subst e;simp⟩
theorem Im.clear_of {F:Nat→Prop} {w:World} {v:Value} {l:List (List UInt8)} (h:RdS w v l) (hF:∀ j,F j→w.heap.size≤j):As.Clear F v:=fun g off n c e hn hg=>by
 obtain ⟨h0,A,c',e',h1,h2,h3⟩:=h
 rw [e] at e'
 injection e' with e1 e2 e3
 obtain ⟨g',off',h4,h5,h6⟩:=h3 (by omega)
 rw [h4] at e1
 injection e1 with e1
 injection e1 with e1 _ _
 have:=hF g hg
 omega
theorem Im.Mk.rdl {F:Nat→Prop} {W:World} {gm:Nat} {S:Im.St} (h:Im.Mk F W gm S):∃ A c,W.cell? ⟨gm,0,none⟩ = some (.slice A S.out.length c)∧RdL W (.slice A S.out.length c) S.out:=by
 obtain ⟨vo,va,cs,h1,h2,h3,h4,h5,h6⟩:=h.obj
 obtain ⟨A,c,rfl⟩:=(Rd.of_own h2).form
 exact ⟨A,c,(h1.cell 0).trans (Im.cell_out S _ va),cs,Rd.of_own h2,F8.Ls.rd (fun _ _ hz=>hz.1) h3⟩
theorem Im.fill_len (S:Im.St):(Im.fill S).length = S.out.length:=Im.fillL_len _ _ _
def Im.BPost (w:World) (r:Im.O) (e:Ending) (w':World):Prop:=
 ∃ vb vs,e = .returned (.tuple #[.agg #[vb,vs],.int .i64 (r.err:Int)])∧Rd w' 1 vb r.bytes.length (bv r.bytes)∧Rd w' 2 vs r.syms.length (As.symC r.syms)∧As.From w.heap.size vb∧As.From w.heap.size vs∧Below w.heap.size w w'
def Im.ofA (A:As.O):Im.O:=if A.err = 0 then ⟨A.bytes,A.syms,0⟩ else ⟨[],[],A.err⟩
theorem Im.BPost.bad {w w':World} {r:Im.O} {n:Nat} {i:Int} (h:r = ⟨[],[],n⟩) (hi:i = n) (hb:Below w.heap.size w w'):Im.BPost w r (.returned (.tuple #[.agg #[.slice none 0 0,.slice none 0 0],.int .i64 i])) w':=by
 subst h hi
 exact ⟨_,_,rfl,Rd.nil _ _,Rd.nil _ _,As.From.nil _,As.From.nil _,hb⟩
set_option maxRecDepth 100000 in
set_option maxHeartbeats 16000000 in
theorem ibuild_any {w:World} (s:List UInt8) (a:Nat) (ls L:List L6.Line) (S:Im.St) (hT:L6.Tab w) (hs:s.length≤1000000000) (hp:L6.parse s = (ls,0,0)) (hr:Im.run Im.start ls = .ok S) (hls:ls.length≤900) (hxl:∀ x ∈ ls,Im.LOk x)
  (hpl:F8.plain (Im.fill (Im.end_ S)) = (L,0,0)) (hfit:∀ x ∈ Im.fill (Im.end_ S),F8.Fit x) (hLl:L.length≤1000000000) (hok:∀ x ∈ L,As.LOk x) (ha:a < 4294967296) :
  Calls Tryz.prog 18 #[.string ⟨s.toArray⟩,.int .u32 (a:Int)] w (Im.BPost w (Im.ofA (As.assemble L a))):=by
 have hbk:=Bk.fresh w 45 #[.slice none 0 0,.slice none 0 0]
 have hal:Below w.heap.size w (w.alloc (.cells #[.slice none 0 0,.slice none 0 0] 45)):=(Below.refl _ _).alloc (Nat.le_refl _) _
 obtain ⟨w1,hw1⟩:∃ w1,w.alloc (.cells #[.slice none 0 0,.slice none 0 0] 45) = w1:=⟨_,rfl⟩
 rw [hw1] at hbk hal
 have hT1:=hT.kept hal
 have CP:=lparse_any s w1 hs
 unfold ParsePost at CP
 rw [hp] at CP
 have CP:=Lib.hid CP
 have HT1:=Lib.hid hT1
 have HAL:=Lib.hid hal
 have HBK:=Lib.hid hbk
 have HR:=Lib.hid hr
 have HLS:=Lib.hid hls
 have HXL:=Lib.hid hxl
 have HK:=Lib.hid (Im.run_room ls Im.room_start hr).end_
 have CA:=Lib.hid (fun v W (h:RdL W v L) (hT:L6.Tab W)=>aassemble_any v L a h hT hLl hok ha)
 have CF:=Lib.hid (fun v W (h:RdL W v (Im.fill (Im.end_ S))) (hl:(Im.fill (Im.end_ S)).length≤40000) (hT:L6.Tab W)=>hpl ▸ fplain_any v (Im.fill (Im.end_ S)) W h hl hfit hT)
 clear hbk hal hT hT1 hs hp hls hxl hr ha hpl hfit hLl hok
 generalize As.assemble L a = O at *
 go_enter Tryz.func18,Tryz.ntmps18
 go_wp2_with fail
 go_at_call 50
 refine CP.out.mono ?_
 rintro e w2 ⟨v2,rfl,hv2,hb2⟩
 have HB2:=Lib.hid (HAL.out.trans (hb2.mono HAL.out.size))
 have HK2:=Lib.hid (HBK.out.kept hb2)
 have HV2:=Lib.hid hv2.rd
 have HT2:=Lib.hid (HT1.out.kept hb2)
 obtain ⟨A2,c2,rfl⟩:=hv2.rd.form
 clear hv2 hb2 hw1
 dsimp only at HV2 ⊢
 have hm0:=Im.mk_new w2
 have hal2:Below w2.heap.size w2 (w2.alloc (.cells #[.slice none 0 0,.int .i64 0,.string ⟨#[]⟩,.string ⟨#[]⟩,.string ⟨#[]⟩,.string ⟨#[]⟩,.string ⟨#[]⟩,.string ⟨#[]⟩,.string ⟨#[]⟩,.string ⟨#[]⟩,.string ⟨#[]⟩,.string ⟨#[]⟩,.string ⟨#[]⟩,.string ⟨#[]⟩,.string ⟨#[]⟩,.string ⟨#[]⟩,.string ⟨#[]⟩,.string ⟨#[]⟩,.string ⟨#[]⟩,.string ⟨#[]⟩,.string ⟨#[]⟩,.string ⟨#[]⟩,.string ⟨#[]⟩,.string ⟨#[]⟩,.string ⟨#[]⟩,.string ⟨#[]⟩,.string ⟨#[]⟩,.string ⟨#[]⟩,.string ⟨#[]⟩,.string ⟨#[]⟩,.string ⟨#[]⟩,.string ⟨#[]⟩,.string ⟨#[]⟩,.string ⟨#[]⟩,.string ⟨#[]⟩,.slice none 0 0] 124)):=(Below.refl _ _).alloc (Nat.le_refl _) _
 obtain ⟨w3,hw3⟩:∃ w3,w2.alloc (.cells #[.slice none 0 0,.int .i64 0,.string ⟨#[]⟩,.string ⟨#[]⟩,.string ⟨#[]⟩,.string ⟨#[]⟩,.string ⟨#[]⟩,.string ⟨#[]⟩,.string ⟨#[]⟩,.string ⟨#[]⟩,.string ⟨#[]⟩,.string ⟨#[]⟩,.string ⟨#[]⟩,.string ⟨#[]⟩,.string ⟨#[]⟩,.string ⟨#[]⟩,.string ⟨#[]⟩,.string ⟨#[]⟩,.string ⟨#[]⟩,.string ⟨#[]⟩,.string ⟨#[]⟩,.string ⟨#[]⟩,.string ⟨#[]⟩,.string ⟨#[]⟩,.string ⟨#[]⟩,.string ⟨#[]⟩,.string ⟨#[]⟩,.string ⟨#[]⟩,.string ⟨#[]⟩,.string ⟨#[]⟩,.string ⟨#[]⟩,.string ⟨#[]⟩,.string ⟨#[]⟩,.string ⟨#[]⟩,.string ⟨#[]⟩,.slice none 0 0] 124) = w3:=⟨_,rfl⟩
 have HM3:=Lib.hid (hw3 ▸ hm0)
 have HB3:=Lib.hid (hw3 ▸ hal2)
 clear hm0 hal2
 have HLT:=Lib.hid HK2.out.lt
 generalize hgm:w2.heap.size = gm at *
 have HTB:=Lib.hid (show As.Tb (fun k=>k = gm) w3 from ⟨HT2.out.kept (by rw [hgm];exact HB3.out),fun e=>by have:=F8.tab_lt HT2.out;omega⟩)
 have HGS:=Lib.hid (show gm < w3.heap.size from HM3.out.lt gm rfl)
 have HGM:=Lib.hid hgm
 go_wp2_with fail
 clear hw3 hgm
 go_loopw [29] (fun i wr=>∃ (k:Nat) (F':Nat→Prop) (S':Im.St),i = .int .i64 (k:Int)∧k≤ls.length∧Im.run Im.start (ls.take k) = .ok S'∧Im.Sm k S'∧Im.Mk F' wr gm S'∧Step (fun k=>k = gm) w3 F' wr) (fun i _=>ls.length - (intOf i).toNat)
 case atStart=>exact ⟨0,_,Im.start,rfl,Nat.zero_le _,rfl,Im.Sm.start,HM3.out,Step.refl _ _⟩
 case round=>
  obtain ⟨k,F1,S1,rfl,hk,hrun,hsm,hm,hst⟩:=hrel
  have HBR:=Lib.hid (show Below gm w2 wr from HB3.out.trans (hst.below (B:=gm) (fun k e=>by omega) (Nat.le_of_lt HGS.out)))
  have HTR:=Lib.hid (HTB.out.step hst)
  have HLA:=Lib.hid (show ∀ j,F1 j→gm≤j from hst.later (fun k e=>by omega) (Nat.le_of_lt HGS.out))
  have HRUN:=Lib.hid hrun
  have HSM:=Lib.hid hsm
  have HM:=Lib.hid hm
  have HST:=Lib.hid hst
  clear hrun hsm hm hst
  by_cases hlt:k < ls.length
  ·have hlt':(k:Int) < (ls.length:Int):=by omega
   have hw1:IntKind.i64.wrap ((k:Int)+1) = (k:Int)+1:=by have:=HLS.out;rw [IntKind.wrap_i64];omega
   obtain ⟨S2,hl,hr2⟩:=Im.run_take hlt HRUN.out HR.out
   obtain ⟨g,off,c',va1,va2,e,hg,c0,c1,c2',r1,r2⟩:=HV2.out.at hlt
   injection e with e1 e2 e3
   subst e1 e3
   have HR2:=Lib.hid hr2
   have HSM2:=Lib.hid (Im.line_sm HSM.out hl)
   have HLT:=Lib.hid (show k+1≤ls.length from hlt)
   have f1:=HXL.out _ (List.getElem_mem hlt)
   have hgl:g < gm:=by rw [← HGM.out];exact hg
   generalize ls[k] = X at *
   obtain ⟨xl,xw,xa⟩:=X
   have k1:=Im.clear_of r1 (F:=F1) (by rw [HGM.out];exact HLA.out)
   have k2:=Im.clear_of r2 (F:=F1) (by rw [HGM.out];exact HLA.out)
   have r1':=r1.kept (w':=wr) (by rw [HGM.out];exact HBR.out)
   have r2':=r2.kept (w':=wr) (by rw [HGM.out];exact HBR.out)
   obtain ⟨B1,cc1,rfl⟩:=r1.form
   obtain ⟨B2,cc2,rfl⟩:=r2.form
   dsimp only at c0 c1 c2' r1' r2' f1 k1 k2
   have q0:wr.cell? ⟨g,off+k * 3,none⟩ = some (.slice B1 xl.length cc1):=(HBR.out.cell (p:=⟨g,_,none⟩) hgl).trans c0
   have q1:wr.cell? ⟨g,off+k * 3+1,none⟩ = some (.string ⟨xw.toArray⟩):=(HBR.out.cell (p:=⟨g,_,none⟩) hgl).trans c1
   have q2:wr.cell? ⟨g,off+k * 3+2,none⟩ = some (.slice B2 xa.length cc2):=(HBR.out.cell (p:=⟨g,_,none⟩) hgl).trans c2'
   obtain ⟨w4,hw4⟩:∃ w4,wr.alloc (.cells #[.slice B1 xl.length cc1,.string ⟨xw.toArray⟩,.slice B2 xa.length cc2] 105) = w4:=⟨_,rfl⟩
   have hal4:Below wr.heap.size wr w4:=by rw [← hw4];exact (Below.refl _ _).alloc (Nat.le_refl _) _
   have hbk4:Bk w4 wr.heap.size 105 #[.slice B1 xl.length cc1,.string ⟨xw.toArray⟩,.slice B2 xa.length cc2]:=by rw [← hw4];exact Bk.fresh wr _ _
   have b0:=hbk4.cell 0
   have b1:=hbk4.cell 1
   have b2:=hbk4.cell 2
   have CL:=iline_any (HM.out.kept hal4) (.slice B1 xl.length cc1) (.slice B2 xa.length cc2) ⟨xl,xw,xa⟩ ⟨r1'.kept hal4,k1⟩ ⟨r2'.kept hal4,k2⟩ (HTR.out.kept hal4) f1 (by have:=HSM.out.1;have:=HLS.out;omega) (by have:=HSM.out.2.2.1;omega) (by have:=HSM.out.2.1;have:=HLS.out;omega)
   rw [hl] at CL
   have CL:=Lib.hid CL
   have HAL4:=Lib.hid hal4
   clear hl hr2 c0 c1 c2' r1 r2 r1' r2' k1 k2 f1 hal4 hbk4 hg hgl
   go_wp2_with fail
   go_at_call 51
   refine CL.out.mono ?_
   rintro e w5 ⟨rfl,F5,m5,s5⟩
   have HM5:=Lib.hid m5
   have HS5:=Lib.hid ((HST.out.trans (Step.of_below HAL4.out)).trans s5)
   clear m5 s5 b0 b1 b2 q0 q1 q2
   go_wp2_with fail
   go_roundw
   case rel=>exact ⟨k+1,F5,S2,by go_num,HLT.out,HR2.out,HSM2.out,HM5.out,HS5.out⟩
   case measure=>simp [intOf];omega
  ·have hlt':¬ (k:Int) < (ls.length:Int):=by omega
   have hS:S1 = S:=by
    have h:=HRUN.out
    rw [List.take_of_length_le (by omega),HR.out] at h
    injection h with h;exact h.symm
   subst hS
   have HCE:=Lib.hid (iend_any HM.out (by have:=HSM.out.1;have:=HLS.out;omega) (by have:=HSM.out.2.2.1;omega))
   have HEO:=Lib.hid (show (Im.end_ S1).out.length≤40000∧(Im.end_ S1).asks.length≤1000000 by
    have h1:=(Im.out_end S1).2.2
    have h2:=HSM.out.1
    have h3:=HSM.out.2.1
    have h4:=HLS.out
    rw [Im.asks_end]
    omega)
   go_wp2_with fail
   go_at_call 52
   refine HCE.out.mono ?_
   rintro e w4 ⟨rfl,F4,m4,s4⟩
   have HCF:=Lib.hid (ifill_any m4 (by have:=HEO.out.1;omega) HK.out HEO.out.2)
   have HS4:=Lib.hid (HST.out.trans s4)
   clear m4 s4
   go_wp2_with fail
   go_at_call 53
   refine HCF.out.mono ?_
   rintro e w5 ⟨rfl,F5,m5,s5⟩
   have hs5:=HS4.out.trans s5
   obtain ⟨A5,c5,q5,hr5⟩:=m5.rdl
   have HB5:=Lib.hid (show Below gm w2 w5 from HB3.out.trans (hs5.below (B:=gm) (fun k e=>by omega) (Nat.le_of_lt HGS.out)))
   have HT5:=Lib.hid (HTB.out.step hs5).1
   have CFF:=Lib.hid (CF.out _ w5 hr5 (by rw [Im.fill_len];exact HEO.out.1) HT5.out)
   dsimp only [Im.withOut] at q5 CFF
   clear m5 s5 hs5 hr5
   go_wp2_with fail
   go_at_call 54
   refine CFF.out.mono ?_
   rintro e w6 ⟨v6,rfl,hd6,hb6⟩
   dsimp only at hd6 ⊢
   have HB6:=Lib.hid (show Below gm w2 w6 from HB5.out.trans (hb6.mono (by have:=HB5.out.size;have:=HGM.out;omega)))
   have HCA:=Lib.hid (CA.out v6 w6 hd6.rd (HT5.out.kept hb6))
   obtain ⟨A6,c6,rfl⟩:=hd6.rd.form
   clear hd6 hb6 q5
   go_wp2_with fail
   go_at_call 11
   refine HCA.out.mono ?_
   rintro e w7 ⟨vb,vs,rfl,hrb,hrs,hfb,hfs,hb7⟩
   have hg6:gm≤w6.heap.size:=by have:=HB6.out.size;have:=HGM.out;omega
   have HB7:=Lib.hid (show Below gm w2 w7 from HB6.out.trans (hb7.mono hg6))
   have HK7:=Lib.hid (HK2.out.below HB7.out HLT.out)
   have HBB:=Lib.hid (show Below w.heap.size w w7 from HB2.out.trans (HB7.out.mono (Nat.le_of_lt HLT.out)))
   have HRB:=Lib.hid hrb
   have HRS:=Lib.hid hrs
   obtain ⟨Ab,cb,rfl⟩:=hrb.form
   obtain ⟨As_,cs,rfl⟩:=hrs.form
   have hlg:w.heap.size+1≤w6.heap.size:=by have:=HLT.out;omega
   have HFB:=Lib.hid (hfb.mono hlg)
   have HFS:=Lib.hid (hfs.mono hlg)
   have hlt7:=HK7.out.lt
   clear hrb hrs hfb hfs hb7 hg6 hlg
   have hbx:=Bk.fresh w7 29 #[.slice Ab O.bytes.length cb,.slice As_ O.syms.length cs]
   have hal7:Below w7.heap.size w7 (w7.alloc (.cells #[.slice Ab O.bytes.length cb,.slice As_ O.syms.length cs] 29)):=(Below.refl _ _).alloc (Nat.le_refl _) _
   have hk8:=HK7.out.kept hal7
   have x0:=hbx.cell 0
   have x1:=hbx.cell 1
   have HX:=Lib.hid hbx
   have HK8:=Lib.hid hk8
   have HB8:=Lib.hid (HBB.out.trans (hal7.mono HBB.out.size))
   have HRB8:=Lib.hid (HRB.out.kept hal7)
   have HRS8:=Lib.hid (HRS.out.kept hal7)
   have hne:w7.heap.size ≠ w.heap.size:=by omega
   have y0:=hk8.cell 0
   have y1:=hk8.cell 1
   have z0:=hk8.free 0
   have z1:=hk8.free 1
   obtain ⟨w8,hw8⟩:∃ w8,w7.alloc (.cells #[.slice Ab O.bytes.length cb,.slice As_ O.syms.length cs] 29) = w8:=⟨_,rfl⟩
   rw [hw8] at HX HK8 HB8 HRB8 HRS8 x0 x1 y0 y1 z0 z1
   clear hbx hal7 hk8
   by_cases he:O.err = 0
   ·have e1:((O.err:Int) != 0) = false:=by rw [he];rfl
    have HO:=Lib.hid (show Im.ofA O = ⟨O.bytes,O.syms,0⟩ from by unfold Im.ofA;rw [if_pos he])
    clear he
    go_wp2_with fail
    have hkk:=(HK8.out.set 0 (.slice Ab O.bytes.length cb)).set 1 (.slice As_ O.syms.length cs)
    have p0:=hkk.cell 0
    have p1:=hkk.cell 1
    refine bodyPost_ret (v:=.tuple #[.agg #[.slice Ab O.bytes.length cb,.slice As_ O.syms.length cs],.int .i64 0]) (by simp [results,Tryz.results18,go_sem,p0,p1]) rfl ?_
    rw [HO.out]
    have t1:=But.setCell w8 w.heap.size 0 (.slice Ab O.bytes.length cb)
    have t2:=But.setCell (w8.setCell ⟨w.heap.size,0,none⟩ (.slice Ab O.bytes.length cb)) w.heap.size 1 (.slice As_ O.syms.length cs)
    refine ⟨_,_,rfl,?_,?_,HFB.out.mono (Nat.le_succ _),HFS.out.mono (Nat.le_succ _),(HB8.out.setCell (Nat.le_refl _) _).setCell (Nat.le_refl _) _⟩
    ·exact (HRB8.out.but t1 (HFB.out.off (Nat.lt_succ_self _))).but t2 (HFB.out.off (Nat.lt_succ_self _))
    ·exact (HRS8.out.but t1 (HFS.out.off (Nat.lt_succ_self _))).but t2 (HFS.out.off (Nat.lt_succ_self _))
   ·have e1:((O.err:Int) != 0) = true:=by rw [bne_iff_ne];omega
    have HO:=Lib.hid (show Im.ofA O = ⟨[],[],O.err⟩ from by unfold Im.ofA;rw [if_neg he])
    clear he
    go_wp2_with fail
    have hkk:=(HK8.out.set 0 (.slice none 0 0)).set 1 (.slice none 0 0)
    have p0:=hkk.cell 0
    have p1:=hkk.cell 1
    refine bodyPost_ret (v:=.tuple #[.agg #[.slice none 0 0,.slice none 0 0],.int .i64 (O.err:Int)]) (by simp [results,Tryz.results18,go_sem,p0,p1]) rfl ?_
    exact Im.BPost.bad HO.out rfl ((HB8.out.setCell (Nat.le_refl _) _).setCell (Nat.le_refl _) _)
theorem Im.sym_rd {w:World} {v:Value} {sy:List (List UInt8 × Nat)} (h:Rd w 2 v sy.length (As.symC sy)) {k:Nat} (hk:k < sy.length) :
  ∃ g off c,v = .slice (some ⟨g,off,none⟩) sy.length c∧g < w.heap.size∧w.cell? ⟨g,off+k * 2,none⟩ = some (.string ⟨sy[k].1.toArray⟩)∧w.cell? ⟨g,off+k * 2+1,none⟩ = some (.int .u32 (sy[k].2:Int)):=by
 obtain ⟨hl,A,c,rfl,h2,h3,h4⟩:=h
 obtain ⟨g,off,rfl,hg,hc⟩:=h4 (by omega)
 have hat:∀ (l:List (List UInt8 × Nat)) (i:Nat) (hi:i < l.length),(As.symC l)[i * 2]? = some (.string ⟨l[i].1.toArray⟩)∧(As.symC l)[i * 2+1]? = some (.int .u32 (l[i].2:Int)):=by
  intro l
  induction l with
  | nil=>intro i hi;simp at hi
  | cons p r ih=>
   intro i hi
   cases i with
   | zero=>exact ⟨rfl,rfl⟩
   | succ i=>
    obtain ⟨e1,e2⟩:=ih i (by simpa using hi)
    refine ⟨?_,?_⟩
    ·rw [show (i+1) * 2 = i * 2+1+1 by omega];exact e1
    ·rw [show (i+1) * 2+1 = i * 2+1+1+1 by omega];exact e2
 obtain ⟨e1,e2⟩:=hat sy k hk
 exact ⟨g,off,c,rfl,hg,hc _ _ e1,hc _ _ e2⟩
theorem isymclo_any (nm:List UInt8) (v:Nat) (s:List UInt8) (gs:Nat) (W:World) (hs:W.cell? ⟨gs,0,none⟩ = some (.string ⟨s.toArray⟩)) :
  Calls Tryz.prog 57 #[.agg #[.string ⟨nm.toArray⟩,.int .u32 (v:Int)],.pointer (some ⟨gs,0,none⟩)] W fun e w'=>e = .returned (.bool (nm == s))∧Below W.heap.size W w':=by
 have hlt:gs < W.heap.size:=World.block_lt_of_cell? W _ hs
 have hc:(W.alloc (.cells #[.string ⟨nm.toArray⟩,.int .u32 (v:Int)] 97)).cell? ⟨gs,0,none⟩ = some (.string ⟨s.toArray⟩):=(World.cell?_alloc_past _ _ _ hlt).trans hs
 have HB:=Lib.hid (show ((⟨nm.toArray⟩:ByteArray).toList == (⟨s.toArray⟩:ByteArray).toList) = (nm == s) by rw [ByteArray.toList_mk,ByteArray.toList_mk])
 go_enter Tryz.func57,Tryz.ntmps57
 go_wp2
 go_ret
 exact ⟨by first | rfl | (rw [← HB.out]),(Below.refl _ _).alloc (Nat.le_refl _) _⟩
def Im.IPost (sy:List (List UInt8 × Nat)) (s:List UInt8) (W:World) (e:Ending) (w':World):Prop:=
 Below W.heap.size W w'∧((∃ (k:Nat) (hk:k < sy.length),e = .returned (.int .i64 (k:Int))∧As.look sy s = some sy[k].2) ∨ (e = .returned (.int .i64 (-1))∧As.look sy s = none))
theorem Im.look_at {sy:List (List UInt8 × Nat)} {s:List UInt8}:∀ {k:Nat} (hk:k < sy.length),sy[k].1 = s→(∀ j (hj:j < sy.length),j < k→sy[j].1 ≠ s)→As.look sy s = some sy[k].2:=by
 induction sy with
 | nil=>intro k hk;simp at hk
 | cons p r ih=>
  intro k hk he hno
  unfold As.look
  rw [List.find?_cons]
  cases k with
  | zero=>
   have he:p.1 = s:=he
   rw [show (p.1 == s) = true by simpa using he]
   rfl
  | succ k=>
   have h0:p.1 ≠ s:=hno 0 (by simp) (by omega)
   rw [show (p.1 == s) = false by simpa using h0]
   exact ih (k:=k) (by simpa using hk) he (fun j hj hjk=>hno (j+1) (by simpa using hj) (by omega))
theorem Im.look_no {sy:List (List UInt8 × Nat)} {s:List UInt8} (hno:∀ j (hj:j < sy.length),sy[j].1 ≠ s):As.look sy s = none:=by
 unfold As.look
 rw [List.find?_eq_none.2]
 ·rfl
 ·intro x hx
  obtain ⟨j,hj,rfl⟩:=List.mem_iff_getElem.1 hx
  simpa using hno j hj
set_option maxRecDepth 20000 in
theorem isymidx_any (v:Value) (gs:Nat) (sy:List (List UInt8 × Nat)) (s:List UInt8) (W:World) (h:Rd W 2 v sy.length (As.symC sy)) (hn:sy.length≤5000000000) (hs:W.cell? ⟨gs,0,none⟩ = some (.string ⟨s.toArray⟩)) :
  Calls Tryz.prog 56 #[v,.func (.func 57) #[] #[.pointer (some ⟨gs,0,none⟩)]] W (Im.IPost sy s W):=by
 have HY:=Lib.hid (fun (k:Nat) (hk:k < sy.length)=>Im.look_at (sy:=sy) (s:=s) hk)
 have HN:=Lib.hid (Im.look_no (sy:=sy) (s:=s))
 have HS:=Lib.hid (show ∀ W',Below W.heap.size W W'→W'.cell? ⟨gs,0,none⟩ = some (.string ⟨s.toArray⟩) from fun W' hb=>(hb.cell (p:=⟨gs,0,none⟩) (World.block_lt_of_cell? W _ hs)).trans hs)
 have HH:=Lib.hid h
 have HNN:=Lib.hid hn
 obtain ⟨A,c,rfl⟩:=h.form
 clear h hs hn
 go_enter Tryz.func56,Tryz.ntmps56
 go_wp2_with fail
 go_loopw [8] (fun i wr=>∃ k:Nat,k≤sy.length∧i = .int .i64 k∧(∀ j (hj:j < sy.length),j < k→sy[j].1 ≠ s)∧Below W.heap.size W wr) (fun i _=>sy.length - (intOf i).toNat)
 case atStart=>exact ⟨0,Nat.zero_le _,rfl,fun j hj hk=>absurd hk (by omega),Below.refl _ _⟩
 case round=>
  obtain ⟨k,hk,rfl,hall,hbr⟩:=hrel
  have HALL:=Lib.hid hall
  have HBR:=Lib.hid hbr
  clear hall hbr
  by_cases hlt:k < sy.length
  ·obtain ⟨g,off,c',e,hg,q0,q1⟩:=Im.sym_rd (HH.out.kept HBR.out) hlt
   injection e with e1 e2 e3
   subst e1 e3
   have HCL:=Lib.hid (isymclo_any sy[k].1 sy[k].2 s gs wr (HS.out _ HBR.out))
   have hlt':(k:Int) < (sy.length:Int):=by omega
   have hw1:IntKind.i64.wrap ((k:Int)+1) = (k:Int)+1:=by have:=HNN.out;rw [IntKind.wrap_i64];omega
   have HP:=Lib.hid (HY.out k hlt)
   have HX:=Lib.hid (show ∃ p:List UInt8 × Nat,p = sy[k] from ⟨_,rfl⟩)
   have HE1:=Lib.hid (show sy[k].1 ≠ s→(∀ j (hj:j < sy.length),j < k+1→sy[j].1 ≠ s) from fun hne j hj hjk=>by
    by_cases e:j = k
    ·subst e;exact hne
    ·exact HALL.out j hj (by omega))
   obtain ⟨nm,hnm⟩:∃ a,sy[k].1 = a:=⟨_,rfl⟩
   obtain ⟨pv,hpv⟩:∃ a,sy[k].2 = a:=⟨_,rfl⟩
   rw [hnm] at HCL q0 HP HE1
   rw [hpv] at HCL q1
   have HPV:=Lib.hid hpv
   clear hnm hpv HX hg
   go_wp2_with fail
   refine HCL.out.mono ?_
   rintro e w1 ⟨rfl,hb1⟩
   have HB1:=Lib.hid (HBR.out.trans (hb1.mono HBR.out.size))
   clear hb1 q0 q1
   by_cases he:nm = s
   ·rw [show (nm == s) = true by simpa using he]
    have HR:=Lib.hid (HP.out he HALL.out)
    clear he
    go_wp2_with fail
    go_ret
    exact ⟨HB1.out,.inl ⟨k,hlt,rfl,HR.out⟩⟩
   ·rw [show (nm == s) = false by simpa using he]
    have HE:=Lib.hid (HE1.out he)
    clear he
    go_wp2_with fail
    go_roundw
    case rel=>exact ⟨k+1,by omega,by go_num,HE.out,HB1.out⟩
    case measure=>simp [intOf];omega
  ·have HR:=Lib.hid (HN.out fun j hj=>HALL.out j hj (by omega))
   have hlt':¬ (k:Int) < (sy.length:Int):=by omega
   go_wp2_with fail
   go_ret
   exact ⟨HBR.out,.inr ⟨rfl,HR.out⟩⟩
set_option maxRecDepth 20000 in
theorem iat_any (vb vs:Value) (sy:List (List UInt8 × Nat)) (s:List UInt8) (w:World) (h:Rd w 2 vs sy.length (As.symC sy)) (hn:sy.length≤5000000000) :
  Calls Tryz.prog 20 #[.agg #[vb,vs],.string ⟨s.toArray⟩] w fun e w'=>e = .returned (.tuple #[.int .u32 (((As.look sy s).getD 0:Nat):Int),.bool (As.look sy s).isSome])∧Below w.heap.size w w':=by
 have hb2:Below w.heap.size w ((w.alloc (.cells #[vb,vs] 45)).alloc (.cells #[.string ⟨s.toArray⟩] 9)):=((Below.refl _ _).alloc (Nat.le_refl _) _).alloc (by simp) _
 have hx:=Bk.fresh w 45 #[vb,vs]
 have hx2:Bk ((w.alloc (.cells #[vb,vs] 45)).alloc (.cells #[.string ⟨s.toArray⟩] 9)) w.heap.size 45 #[vb,vs]:=hx.kept ((Below.refl _ _).alloc (Nat.le_refl _) _)
 have hy:Bk ((w.alloc (.cells #[vb,vs] 45)).alloc (.cells #[.string ⟨s.toArray⟩] 9)) (w.heap.size+1) 9 #[.string ⟨s.toArray⟩]:=by
  have:=Bk.fresh (w.alloc (.cells #[vb,vs] 45)) 9 #[.string ⟨s.toArray⟩]
  rw [World.size_alloc] at this
  exact this
 have HH:=Lib.hid h
 obtain ⟨A,c,rfl⟩:=h.form
 have HBB:=Lib.hid hb2
 have HX:=Lib.hid hx2
 have HIDX:=Lib.hid (isymidx_any _ (w.heap.size+1) sy s _ (h.kept hb2) hn (hy.cell 0))
 have c1:=hx2.cell 1
 clear h hb2 hx hx2 hy
 go_enter Tryz.func20,Tryz.ntmps20
 go_wp2_with fail
 refine HIDX.out.mono ?_
 rintro e w3 ⟨hb3,hp⟩
 have HB3:=Lib.hid (HBB.out.trans (hb3.mono HBB.out.size))
 have HX3:=Lib.hid (HX.out.kept hb3)
 have HR3:=Lib.hid (HH.out.kept HB3.out)
 clear hb3 c1
 have d1:=HX3.out.cell 1
 rcases hp with ⟨k,hk,rfl,hl⟩ | ⟨rfl,hl⟩
 ·obtain ⟨g,off,c',e,hg,q0,q1⟩:=Im.sym_rd HR3.out hk
  injection e with e1 e2 e3
  subst e1 e3
  have hk0:¬ (k:Int) < 0:=by omega
  have hk1:(k:Int) < (sy.length:Int):=by omega
  generalize sy[k].2 = pv at *
  have HL:=Lib.hid hl
  clear hl
  go_wp2_with fail
  go_ret2
  exact ⟨by rw [HL.out];rfl,HB3.out⟩
 ·have HL:=Lib.hid hl
  clear hl
  go_wp2_with fail
  go_ret2
  exact ⟨by rw [HL.out];rfl,HB3.out⟩
end Go.Proofs.YtpcpaoeajcjoiaaGreatDoor
