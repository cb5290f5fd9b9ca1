/- Texts joined, what is not reached left out. -/
import Derived.Test.YtpcpaoeajcjoiaaGreatDoorDL
import Derived.Test.YtpcpaoeajcjoiaaGreatDoorDR
import Derived.Test.YtpcpaoeajcjoiaaGreatDoorDE
import Derived.Test.YtpcpaoeajcjoiaaGreatDoorPJ
import Derived.Test.YtpcpaoeajcjoiaaGreatDoorPG
set_option linter.unusedVariables false
set_option linter.unusedSimpArgs false
namespace Go.Proofs.YtpcpaoeajcjoiaaGreatDoor
open Go.RowKit Kit
theorem Dc.bt_size {L:Nat} (h4:L % 4 = 0) (h:L≤100000):∃ q:Int,IntKind.i64.wrap ((L:Int)+7) = (L:Int)+7∧Int.tdiv ((L:Int)+7) 4 = q∧IntKind.i64.wrap q = q∧IntKind.i64.wrap (q * 4) = ((L+4:Nat):Int):=by
 refine ⟨((L / 4+1:Nat):Int),by rw [IntKind.wrap_i64];omega,?_,by rw [IntKind.wrap_i64];omega,by rw [IntKind.wrap_i64];omega⟩
 rw [Int.tdiv_eq_ediv_of_nonneg (by omega)]
 omega
set_option maxRecDepth 100000 in
set_option maxHeartbeats 16000000 in
theorem core_dictBuilt (v:Value) (rs:List Im.Raw) (k0:Int) (w:World) (h:Rd w 4 v rs.length (Im.rowC rs)) (hnl:rs.length≤maxLen) (hx:∀ r ∈ rs,r.name.length≤maxLen) (hT:L6.Tab w) :
  Calls Tryz.prog 8 #[v,.int .i64 k0] w fun e w'=>e = .returned (.bool true)∧Below w.heap.size w w':=by
 have HH:=Lib.hid h
 have HX:=Lib.hid hx
 have HT:=Lib.hid hT
 have CK:=Lib.hid (fun W (hW:Below w.heap.size w W)=>dknows_any W (hT.kept hW))
 obtain ⟨A,c,rfl⟩:=h.form
 have HNL:=Lib.hid hnl
 clear h hx hT hnl
 by_cases hn:20 < rs.length
 ·have hn':(20:Int) < (rs.length:Int):=by omega
  go_enter Tryz.func8,Tryz.ntmps8
  go_wp2_with (go_at_call 29;refine (CK.out _ (Below.refl _ _)).mono ?_;rintro e w1 ⟨rfl,hb1⟩)
  go_ret
  exact ⟨rfl,hb1⟩
 ·have hn':¬ (20:Int) < (rs.length:Int):=by omega
  go_enter Tryz.func8,Tryz.ntmps8
  go_wp2_with (go_at_call 29;refine (CK.out _ (Below.refl _ _)).mono ?_;rintro e w1 ⟨rfl,hb1⟩)
  have HB1:=Lib.hid hb1
  clear hb1
  go_loopw [5] (fun i wr=>∃ j:Nat,i = .int .i64 (j:Int)∧j≤rs.length∧(∀ m (hm:m < rs.length),m < j→Im.named rs[m].name = true)∧Below w.heap.size w wr) (fun i _=>rs.length - (intOf i).toNat)
  case atStart=>exact ⟨0,rfl,Nat.zero_le _,fun m _ hm=>absurd hm (by omega),HB1.out⟩
  case round=>
   obtain ⟨j,rfl,hj,hall,hbr⟩:=hrel
   have HALL:=Lib.hid hall
   have HBR:=Lib.hid hbr
   clear hall hbr
   by_cases hlt:j < rs.length
   ·have hlt':(j:Int) < (rs.length:Int):=by omega
    have hw1:IntKind.i64.wrap ((j:Int)+1) = (j:Int)+1:=by clear HALL HBR HB1 HX HH CK HT HNL;rw [IntKind.wrap_i64];omega
    obtain ⟨g,off,c',e,hg,q0,q1,q2,q3⟩:=Im.row_rd (HH.out.kept HBR.out) hlt
    injection e with e1 e2 e3
    subst e1 e3
    have HNX:=Lib.hid (Im.named_at hlt HALL.out)
    have hml:=HX.out _ (List.getElem_mem hlt)
    obtain ⟨nm,hnm⟩:∃ a,rs[j].name = a:=⟨_,rfl⟩
    rw [hnm] at q0 hml HNX
    have CR:=Lib.hid (fun W=>xright_ref ⟨nm.toArray⟩ W hml)
    have HND:=Lib.hid (show Im.named nm = (Nm.right nm && (!(nm.headD 0 == 34) && !(L6.note nm))) from rfl)
    clear q1 q2 q3 hnm
    cases hr:Nm.right nm
    ·rw [hr] at CR
     go_wp2_with (go_at_call 17;refine (CR.out _).mono ?_;rintro e w' ⟨rfl,rfl⟩)
     go_ret
     exact ⟨rfl,HBR.out⟩
    ·rw [hr] at CR HND
     cases nm with
     | nil=>exact absurd hr (by decide)
     | cons c0 t=>
      by_cases h34:c0 = 34
      ·subst h34
       go_wp2_with (go_at_call 17;refine (CR.out _).mono ?_;rintro e w' ⟨rfl,rfl⟩)
       go_ret
       exact ⟨rfl,HBR.out⟩
      ·have hb34:¬ (c0.toNat:Int) = 34:=fun e=>h34 (UInt8.toNat_inj.1 (by show c0.toNat = 34;omega))
       have hb35:((c0.toNat:Int) == 34) = false:=byte_ne 34 h34
       cases t with
       | nil=>
        as_aux_lemma=>
         have HD:=Lib.hid (show Im.named [c0] = true by rw [HND.out];simp [h34,L6.note])
         go_wp2_with (go_at_call 17;refine (CR.out _).mono ?_;rintro e w' ⟨rfl,rfl⟩)
         go_roundw
         case rel=>exact ⟨j+1,by go_num,by omega,HNX.out HD.out,HBR.out⟩
         case measure=>simp [intOf];omega
       | cons c1 t2=>
        as_aux_lemma=>
         have hsl:=Im.sl2 c0 c1 t2
         cases hno:L6.note (c0 :: c1 :: t2)
         ·rw [hno] at hsl
          have HD:=Lib.hid (show Im.named (c0 :: c1 :: t2) = true by rw [HND.out,hno];simp [h34])
          go_wp2_with (go_at_call 17;refine (CR.out _).mono ?_;rintro e w' ⟨rfl,rfl⟩)
          go_roundw
          case rel=>exact ⟨j+1,by go_num,by omega,HNX.out HD.out,HBR.out⟩
          case measure=>simp [intOf];omega
         ·rw [hno] at hsl
          go_wp2_with (go_at_call 17;refine (CR.out _).mono ?_;rintro e w' ⟨rfl,rfl⟩)
          go_ret
          exact ⟨rfl,HBR.out⟩
   ·have HALL2:=Lib.hid (show ∀ r ∈ rs,Im.named r.name = true from fun r hr=>by
     obtain ⟨m,hm,rfl⟩:=List.mem_iff_getElem.1 hr
     exact HALL.out m hm (by omega))
    have hlt':¬ (j:Int) < (rs.length:Int):=by omega
    clear HALL
    have hn20:rs.length≤20:=by omega
    have h31:∀ r ∈ rs,r.name.length≤31:=fun r hr=>(Im.named_whole (HALL2.out r hr)).2.2
    have CS:=Lib.hid (isource10_any (.slice A rs.length c) rs wr (HH.out.kept HBR.out) hn20 h31)
    obtain ⟨ws,hws⟩:∃ ws,rs.map Im.Raw.w = ws:=⟨_,rfl⟩
    have hok:∀ x ∈ ws,Im.Ok x:=fun x hx=>by
     rw [← hws] at hx
     obtain ⟨r,hr,rfl⟩:=List.mem_map.1 hx
     exact Im.raw_ok (HALL2.out r hr)
    have hwl:ws.length = rs.length:=by rw [← hws,List.length_map]
    have CB:=Lib.hid (fun W (hW:Below w.heap.size w W)=>ichain_build (HT.out.kept hW) ws hok (by omega))
    have HFI:=Lib.hid (fun x hx=>(hok x hx).fine)
    have HFR:=Lib.hid (show ∀ x ∈ ws,Im.Fine x∧Nm.right x.name = true from fun x hx=>⟨(hok x hx).fine,(hok x hx).right⟩)
    rw [hws] at CS
    have HWS:=Lib.hid hws
    have HWL:=Lib.hid hwl
    have HSL:=Lib.hid (Im.symL_len ws 4 [] (by omega))
    have HRES:=Lib.hid (Im.chO_eq ws (fun x hx=>(hok x hx).fine) (by omega))
    clear hok hws hwl h31
    go_wp2_with fail
    go_at_call 19
    refine CS.out.mono ?_
    rintro e w2 ⟨rfl,hb2⟩
    have HB2:=Lib.hid (HBR.out.trans (hb2.mono HBR.out.size))
    clear hb2
    go_wp2_with fail
    go_at_call 18
    refine (CB.out _ HB2.out).mono ?_
    rintro e w3 ⟨vb,vs,rfl,hrb,hrs,hfb,hfs,hb3⟩
    have HB3:=Lib.hid (HB2.out.trans (hb3.mono HB2.out.size))
    rcases HRES.out with e42 | ⟨hky,eok⟩
    ·as_aux_lemma=>
      rw [e42] at hrb hrs ⊢
      dsimp only at hrb hrs ⊢
      obtain ⟨Ab,cb,rfl⟩:=hrb.form
      obtain ⟨As_,cs,rfl⟩:=hrs.form
      have hal:Below w3.heap.size w3 (w3.alloc (.cells #[.slice Ab ([]:List UInt8).length cb,.slice As_ ([]:List (List UInt8 × Nat)).length cs] 45)):=(Below.refl _ _).alloc (Nat.le_refl _) _
      have hbk:=Bk.fresh w3 45 #[.slice Ab ([]:List UInt8).length cb,.slice As_ ([]:List (List UInt8 × Nat)).length cs]
      dsimp only [List.length_nil] at hal hbk ⊢
      obtain ⟨w4,hw4⟩:∃ w4,w3.alloc (.cells #[.slice Ab 0 cb,.slice As_ 0 cs] 45) = w4:=⟨_,rfl⟩
      rw [hw4] at hal hbk
      have x0:=hbk.cell 0
      have x1:=hbk.cell 1
      have CA:=Lib.hid (iat_any (.slice Ab 0 cb) (.slice As_ 0 cs) [] [104] w4 (hrs.kept hal) (by decide))
      have HB4:=Lib.hid (HB3.out.trans (hal.mono HB3.out.size))
      clear hrb hrs hfb hfs hb3 hal hbk
      go_wp2_with fail
      go_at_call 20
      refine CA.out.mono ?_
      rintro e w5 ⟨rfl,hb5⟩
      go_wp2_with (go_at_call 34;refine (dnum_any _ _).mono ?_;rintro e w' ⟨rfl,rfl⟩)
      go_ret
      exact ⟨rfl,HB4.out.trans (hb5.mono HB4.out.size)⟩
    ·rw [eok] at hrb hrs ⊢
     dsimp only at hrb hrs ⊢
     have HIL:=Lib.hid (Im.img_len ws HFI.out)
     have HSZ:=Lib.hid (Im.szs_le ws HFI.out)
     have HLH:=Lib.hid (As.look_of hky (Im.sym_h ws 4 []))
     have hsl:(Im.symL 4 [] ws).length≤5000000000:=HSL.out
     generalize Im.symL 4 [] ws = sy at *
     obtain ⟨Ab,cb,rfl⟩:=hrb.form
     obtain ⟨As_,cs,rfl⟩:=hrs.form
     have HMI:=Lib.hid (Dc.mem_img ws)
     obtain ⟨ib,hib⟩:∃ ib,Im.img ws = ib:=⟨_,rfl⟩
     rw [hib] at hrb HIL HMI ⊢
     have hal:Below w3.heap.size w3 (w3.alloc (.cells #[.slice Ab ib.length cb,.slice As_ sy.length cs] 45)):=(Below.refl _ _).alloc (Nat.le_refl _) _
     have hbk:=Bk.fresh w3 45 #[.slice Ab ib.length cb,.slice As_ sy.length cs]
     obtain ⟨w4,hw4⟩:∃ w4,w3.alloc (.cells #[.slice Ab ib.length cb,.slice As_ sy.length cs] 45) = w4:=⟨_,rfl⟩
     rw [hw4] at hal hbk
     have hrb4:=hrb.kept hal
     have HRB:=Lib.hid hrb4
     have x0:=hbk.cell 0
     have x1:=hbk.cell 1
     have HBX:=Lib.hid (show ∀ W,Below w4.heap.size w4 W→W.cell? ⟨w3.heap.size,0,none⟩ = some (.slice Ab ib.length cb)∧W.cell? ⟨w3.heap.size,1,none⟩ = some (.slice As_ sy.length cs) from fun W hW=>⟨(hbk.kept hW).cell 0,(hbk.kept hW).cell 1⟩)
     have CA:=Lib.hid (fun W (hW:Below w4.heap.size w4 W) nm=>iat_any (.slice Ab ib.length cb) (.slice As_ sy.length cs) sy nm W ((hrs.kept hal).kept hW) hsl)
     have hlen6:ib.length≤2000:=by rw [HIL.out];have:=HSZ.out;have:=HWL.out;omega
     have HSB:=Lib.hid (show Im.szs ws≤100000 by have:=HSZ.out;have:=HWL.out;omega)
     have hm4:ib.length % 4 = 0:=by rw [HIL.out];have:=Im.szs_mod ws;omega
     have HB4:=Lib.hid (HB3.out.trans (hal.mono HB3.out.size))
     have HLN:=Lib.hid hlen6
     have HM4:=Lib.hid hm4
     clear hrb hrs hfb hfs hb3 hal hbk hrb4 hlen6 hsl hky hm4 hib
     go_wp2_with fail
     go_at_call 20
     refine (CA.out _ (Below.refl _ _) [104]).mono ?_
     rintro e w5 ⟨rfl,hb5⟩
     rw [HLH.out]
     dsimp only [Option.getD_some,Option.isSome_some]
     obtain ⟨hh,hhh⟩:∃ hh,4+Im.szs ws = hh:=⟨_,rfl⟩
     rw [hhh]
     have hh5:hh≤100004:=by have:=HSB.out;omega
     have CRD:=Lib.hid (fun W gm gb R m hR hm h4 hs hM=>(dread_wds W gm gb ws R m HFR.out HSB.out hR hm h4 hs hM))
     rw [hhh] at CRD
     have HB5:=Lib.hid hb5
     obtain ⟨x0,x1⟩:=HBX.out w5 hb5
     have HB5w:=Lib.hid (HB4.out.trans (hb5.mono HB4.out.size))
     clear hb5 hw4
     generalize w3.heap.size = gx at *
     obtain ⟨qq,s1,s2,s3,s4⟩:=Dc.bt_size HM4.out (show ib.length≤100000 by have:=HLN.out;omega)
     have CM:=Lib.hid (dmem_any w5 (.slice Ab ib.length cb) ib (ib.length+4) (Dc.rd_bytes (HRB.out.kept HB5.out)) (by omega) (by omega) (by have:=HLN.out;omega) (by have:=HM4.out;omega))
     rw [HMI.out] at CM
     obtain ⟨Ln,hLn⟩:∃ Ln,ib.length = Ln:=⟨_,rfl⟩
     rw [hLn] at s1 s2 s4 CM x0 ⊢
     obtain ⟨L4,hL4⟩:∃ L4,Ln+4 = L4:=⟨_,rfl⟩
     rw [hL4] at s4 CM
     clear hL4 hLn
     have HSLT:=Lib.hid (fun (k:Nat) (hk:k < 32)=>Dc.slots_at HFI.out (show 4+Im.szs ws≤130000 by have:=HSB.out;omega) k hk)
     go_wp2_with (go_at_call 34;refine (dnum_any _ _).mono ?_;rintro e w' ⟨rfl,rfl⟩)
     go_at_call 30
     refine CM.out.mono ?_
     rintro e w6 ⟨gm,gb,rfl,hM,hgm,hgb,hb6⟩
     have HB6:=Lib.hid (HB5w.out.trans (hb6.mono HB5w.out.size))
     have HGB:=Lib.hid (show w.heap.size≤gb from Nat.le_trans HB5w.out.size hgb)
     have CR1:=Lib.hid (CRD.out w6 gm gb (Dc.slots ws) ws.length (Dc.slots_len ws) (Nat.le_refl _) (by have:=HWL.out;omega) HSLT.out hM)
     have HM:=Lib.hid hM
     clear hM hgm hgb hb6 s1 s2 s3 s4 x0 x1
     go_wp2_with fail
     go_at_call 31
     refine CR1.out.mono ?_
     rintro e w7 ⟨vw,rfl,hrw,hoff,hb7⟩
     have HB7:=Lib.hid (HB6.out.trans (hb7.mono HB6.out.size))
     have HM7:=Lib.hid (HM.out.kept hb7)
     have HLW:=Lib.hid (show (Dc.wds ws ws.length).length = rs.length by rw [Dc.wds_len,HWL.out])
     obtain ⟨Aw,cw,rfl⟩:=Rd.form hrw
     have HRW:=Lib.hid hrw
     have HOFF:=Lib.hid hoff
     rw [HLW.out]
     rw [HLW.out] at HOFF
     clear hrw hoff hb7
     go_wp2_with (go_at_call 34;refine (dnum_any _ _).mono ?_;rintro e w' ⟨rfl,rfl⟩)
     go_loopw [13] (fun i wy=>∃ jj:Nat,i = .int .i64 (jj:Int)∧jj≤rs.length∧Below w7.heap.size w7 wy) (fun i _=>rs.length - (intOf i).toNat)
     case atStart=>exact ⟨0,rfl,Nat.zero_le _,Below.refl _ _⟩
     case round=>
      obtain ⟨jj,rfl,hjj,hby⟩:=hrel
      have HBY:=Lib.hid hby
      have HBW:=Lib.hid (HB7.out.trans (hby.mono HB7.out.size))
      by_cases hlj:jj < rs.length
      ·as_aux_lemma=>
        have hlj':(jj:Int) < (rs.length:Int):=by omega
        have hj0:(0:Int)≤(jj:Int):=by omega
        obtain ⟨f1,f2,f3,f4,f5⟩:=Dc.word_facts rs HWS.out HFI.out HSB.out (Dc.slots ws) hlj
        obtain ⟨g1,o1,d1,e1,h1⟩:=RdD.cells (Rd.kept HRW.out hby) (j:=jj) (by rw [HLW.out];exact hlj)
        injection e1 with e1 e2 e3
        subst e1 e3
        obtain ⟨g2,o2,d2,e4,hg2,r0,r1,r2,r3⟩:=Im.row_rd (HH.out.kept HBW.out) hlj
        injection e4 with e4 e5 e6
        subst e4 e6
        have hrk:∀ (i:Nat) u,wr.cell? ⟨g2,o2+jj * 4+i,none⟩ = some u→∀ W',Below wr.heap.size wr W'→W'.cell? ⟨g2,o2+jj * 4+i,none⟩ = some u:=fun i u hu W' hW'=>(hW'.cell (p:=⟨g2,o2+jj * 4+i,none⟩) hg2).trans hu
        obtain ⟨a2,b2,m2,p1,p2,p3,p4,p5,p6,p7⟩:=Im.mod2 rs[jj].l
        obtain ⟨a4,b4,m4,t1,t2,t3,t4,t5,t6,t7⟩:=Im.mod4 rs[jj].n
        rw [← p6] at f2
        rw [← t6] at f3
        generalize rs[jj].l = vl at *
        generalize rs[jj].n = vn at *
        obtain ⟨nm,hnm⟩:∃ nm,rs[jj].name = nm:=⟨_,rfl⟩
        rw [hnm] at f1 r0
        obtain ⟨x,hx⟩:∃ x,(Dc.wds ws ws.length).getD jj Dc.w0 = x:=⟨_,rfl⟩
        rw [hx] at f1 f2 f3 f4 f5 h1
        obtain ⟨cd,hcd⟩:∃ cd,(List.replicate m4 Im.nopB).flatten = cd:=⟨_,rfl⟩
        have CN:=Lib.hid (fun W=>nops_any m4 (by omega) W)
        rw [hcd] at f3 CN
        have HS:=Lib.hid (show ∀ W',Below wr.heap.size wr W'→W'.cell? ⟨g1,o1+jj * 7,none⟩ = some (.int .i64 (m2:Int))∧W'.cell? ⟨g1,o1+jj * 7+1,none⟩ = some (.int .u32 (x.at_:Int))∧W'.cell? ⟨g1,o1+jj * 7+2,none⟩ = some (.string ⟨nm.toArray⟩)∧W'.cell? ⟨g1,o1+jj * 7+3,none⟩ = some (.int .i64 (x.h.fl:Int))∧W'.cell? ⟨g1,o1+jj * 7+4,none⟩ = some (.int .u32 (x.h.link:Int))∧W'.cell? ⟨g1,o1+jj * 7+5,none⟩ = some (.int .u32 (x.h.xt:Int))∧W'.cell? ⟨g1,o1+jj * 7+6,none⟩ = some (.int .u32 (x.h.size:Int))∧W'.cell? ⟨g2,o2+jj * 4,none⟩ = some (.string ⟨nm.toArray⟩)∧W'.cell? ⟨g2,o2+jj * 4+2,none⟩ = some (.int .i64 vn)∧W'.cell? ⟨g2,o2+jj * 4+3,none⟩ = some (.int .i64 vl) from fun W' hW'=>by
         have p:=h1 W' hW'
         unfold Dc.Cells at p
         rw [f1,f2] at p
         exact ⟨p.1,p.2.1,p.2.2.1,p.2.2.2.1,p.2.2.2.2.1,p.2.2.2.2.2.1,p.2.2.2.2.2.2,hrk 0 _ r0 W' hW',hrk 2 _ r2 W' hW',hrk 3 _ r3 W' hW'⟩)
        have CO:=Lib.hid (show ∀ W,Below wr.heap.size wr W→Calls Tryz.prog 35 #[.pointer (some ⟨gm,0,none⟩),.agg #[.int .i64 (m2:Int),.int .u32 (x.at_:Int),.string ⟨nm.toArray⟩,.int .i64 (x.h.fl:Int),.int .u32 (x.h.link:Int),.int .u32 (x.h.xt:Int),.int .u32 (x.h.size:Int)]] W fun e w'=>∃ v',e = .returned v'∧RdB w' v' cd∧Below W.heap.size W w' from fun W hW=>by
         rw [← f3]
         exact dcode_any W gm gb (Dc.area ws (Dc.slots ws)) [] m2 x.h.fl ⟨nm.toArray⟩ x.at_ x.h.link x.h.xt x.h.size f4 f5 ((HM7.out.kept hby).kept hW))
        have HK:=Lib.hid hlj
        have wk:IntKind.i64.wrap ((jj:Int)+1) = (jj:Int)+1:=by rw [IntKind.wrap_i64];omega
        clear p6 t6 p7 t7 h1 hx hby hjj hcd f1 f2 f3 f4 f5 r0 r1 r2 r3 hrk hnm CK CS CB CA CM CR1 CRD hlj
        go_wp2_with fail
        refine wp_region_held_drew (S:=fun W'=>W'.cell? ⟨g1,o1+jj * 7,none⟩ = some (.int .i64 (m2:Int))∧W'.cell? ⟨g1,o1+jj * 7+1,none⟩ = some (.int .u32 (x.at_:Int))∧W'.cell? ⟨g1,o1+jj * 7+2,none⟩ = some (.string ⟨nm.toArray⟩)∧W'.cell? ⟨g1,o1+jj * 7+3,none⟩ = some (.int .i64 (x.h.fl:Int))∧W'.cell? ⟨g1,o1+jj * 7+4,none⟩ = some (.int .u32 (x.h.link:Int))∧W'.cell? ⟨g1,o1+jj * 7+5,none⟩ = some (.int .u32 (x.h.xt:Int))∧W'.cell? ⟨g1,o1+jj * 7+6,none⟩ = some (.int .u32 (x.h.size:Int))∧W'.cell? ⟨g2,o2+jj * 4,none⟩ = some (.string ⟨nm.toArray⟩)∧W'.cell? ⟨g2,o2+jj * 4+2,none⟩ = some (.int .i64 vn)∧W'.cell? ⟨g2,o2+jj * 4+3,none⟩ = some (.int .i64 vl)) (by kernel_rfl) (HS.out _ (Below.refl _ _).drew) (fun hHeld=>?_)
        refine wpAnyH_take (i:=0) (v:=?_) rfl (by kernel_rfl) (by kernel_rfl) (by kernel_rfl) (fun _ _ _ h=>h) (Or.inl ⟨by rfl,?_⟩) (by assumption) ?_
        rotate_left
        ·(intro w hSw;(try dsimp only at hSw);simp only [List.getElem_toArray,List.getElem_cons_zero,List.getElem_cons_succ];go_simp;(try with_reducible rfl))
        try simp only [Act.put,List.getElem_toArray,List.getElem_cons_zero,List.getElem_cons_succ,List.setIfInBounds_toArray,List.set_cons_zero,List.set_cons_succ]
        refine wpAnyH_take (i:=1) (v:=?_) rfl (by kernel_rfl) (by kernel_rfl) (by kernel_rfl) (fun _ _ _ h=>h) (Or.inl ⟨by rfl,?_⟩) (by assumption) ?_
        rotate_left
        ·(intro w hSw;(try dsimp only at hSw);simp only [List.getElem_toArray,List.getElem_cons_zero,List.getElem_cons_succ];go_simp;(try with_reducible rfl))
        try simp only [Act.put,List.getElem_toArray,List.getElem_cons_zero,List.getElem_cons_succ,List.setIfInBounds_toArray,List.set_cons_zero,List.set_cons_succ]
        refine wpAnyH_take (i:=2) (v:=?_) rfl (by kernel_rfl) (by kernel_rfl) (by kernel_rfl) (fun _ _ _ h=>h) (Or.inl ⟨by rfl,?_⟩) (by assumption) ?_
        rotate_left
        ·(intro w hSw;(try dsimp only at hSw);simp only [List.getElem_toArray,List.getElem_cons_zero,List.getElem_cons_succ];go_simp;(try with_reducible rfl))
        try simp only [Act.put,List.getElem_toArray,List.getElem_cons_zero,List.getElem_cons_succ,List.setIfInBounds_toArray,List.set_cons_zero,List.set_cons_succ]
        refine wpAnyH_take (i:=3) (v:=?_) rfl (by kernel_rfl) (by kernel_rfl) (by kernel_rfl) (fun _ _ _ h=>h) (Or.inl ⟨by rfl,?_⟩) (by assumption) ?_
        rotate_left
        ·(intro w hSw;(try dsimp only at hSw);simp only [List.getElem_toArray,List.getElem_cons_zero,List.getElem_cons_succ];go_simp;(try with_reducible rfl))
        try simp only [Act.put,List.getElem_toArray,List.getElem_cons_zero,List.getElem_cons_succ,List.setIfInBounds_toArray,List.set_cons_zero,List.set_cons_succ]
        refine wpAnyH_take (i:=4) (v:=?_) rfl (by kernel_rfl) (by kernel_rfl) (by kernel_rfl) (fun _ _ _ h=>h) (Or.inl ⟨by rfl,?_⟩) (by assumption) ?_
        rotate_left
        ·(intro w hSw;(try dsimp only at hSw);simp only [List.getElem_toArray,List.getElem_cons_zero,List.getElem_cons_succ];go_simp;(try with_reducible rfl))
        try simp only [Act.put,List.getElem_toArray,List.getElem_cons_zero,List.getElem_cons_succ,List.setIfInBounds_toArray,List.set_cons_zero,List.set_cons_succ]
        refine wpAnyH_take (i:=5) (v:=?_) rfl (by kernel_rfl) (by kernel_rfl) (by kernel_rfl) (fun _ _ _ h=>h) (Or.inl ⟨by rfl,?_⟩) (by assumption) ?_
        rotate_left
        ·(intro w hSw;(try dsimp only at hSw);simp only [List.getElem_toArray,List.getElem_cons_zero,List.getElem_cons_succ];go_simp;(try with_reducible rfl))
        try simp only [Act.put,List.getElem_toArray,List.getElem_cons_zero,List.getElem_cons_succ,List.setIfInBounds_toArray,List.set_cons_zero,List.set_cons_succ]
        refine wpAnyH_take (i:=6) (v:=?_) rfl (by kernel_rfl) (by kernel_rfl) (by kernel_rfl) (fun _ _ _ h=>h) (Or.inl ⟨by rfl,?_⟩) (by assumption) ?_
        rotate_left
        ·(intro w hSw;(try dsimp only at hSw);simp only [List.getElem_toArray,List.getElem_cons_zero,List.getElem_cons_succ];go_simp;(try with_reducible rfl))
        try simp only [Act.put,List.getElem_toArray,List.getElem_cons_zero,List.getElem_cons_succ,List.setIfInBounds_toArray,List.set_cons_zero,List.set_cons_succ]
        refine wpAnyH_take (i:=7) (v:=?_) rfl (by kernel_rfl) (by kernel_rfl) (by kernel_rfl) (fun _ _ _ h=>h) (Or.inl ⟨by rfl,?_⟩) (by assumption) ?_
        rotate_left
        ·(intro w hSw;(try dsimp only at hSw);simp only [List.getElem_toArray,List.getElem_cons_zero,List.getElem_cons_succ];go_simp;(try with_reducible rfl))
        try simp only [Act.put,List.getElem_toArray,List.getElem_cons_zero,List.getElem_cons_succ,List.setIfInBounds_toArray,List.set_cons_zero,List.set_cons_succ]
        refine wpAnyH_take (i:=8) (v:=?_) rfl (by kernel_rfl) (by kernel_rfl) (by kernel_rfl) (fun _ _ _ h=>h) (Or.inl ⟨by rfl,?_⟩) (by assumption) ?_
        rotate_left
        ·(intro w hSw;(try dsimp only at hSw);simp only [List.getElem_toArray,List.getElem_cons_zero,List.getElem_cons_succ];go_simp;(try with_reducible rfl))
        try simp only [Act.put,List.getElem_toArray,List.getElem_cons_zero,List.getElem_cons_succ,List.setIfInBounds_toArray,List.set_cons_zero,List.set_cons_succ]
        refine wpAnyH_take (i:=9) (v:=?_) rfl (by kernel_rfl) (by kernel_rfl) (by kernel_rfl) (fun _ _ _ h=>h) (Or.inl ⟨by rfl,?_⟩) (by assumption) ?_
        rotate_left
        ·(intro w hSw;(try dsimp only at hSw);simp only [List.getElem_toArray,List.getElem_cons_zero,List.getElem_cons_succ];go_simp;(try with_reducible rfl))
        try simp only [Act.put,List.getElem_toArray,List.getElem_cons_zero,List.getElem_cons_succ,List.setIfInBounds_toArray,List.set_cons_zero,List.set_cons_succ]
        refine wpAnyH_take (i:=10) (v:=?_) rfl (by kernel_rfl) (by kernel_rfl) (by kernel_rfl) (fun _ _ _ h=>h) (Or.inl ⟨by rfl,?_⟩) (by assumption) ?_
        rotate_left
        ·(intro w hSw;(try dsimp only at hSw);simp only [List.getElem_toArray,List.getElem_cons_zero,List.getElem_cons_succ];go_simp;(try with_reducible rfl))
        try simp only [Act.put,List.getElem_toArray,List.getElem_cons_zero,List.getElem_cons_succ,List.setIfInBounds_toArray,List.set_cons_zero,List.set_cons_succ]
        refine wpAnyH_take (i:=11) (v:=?_) rfl (by kernel_rfl) (by kernel_rfl) (by kernel_rfl) (fun _ _ _ h=>h) (Or.inl ⟨by rfl,?_⟩) (by assumption) ?_
        rotate_left
        ·(intro w hSw;(try dsimp only at hSw);simp only [List.getElem_toArray,List.getElem_cons_zero,List.getElem_cons_succ];go_simp;(try with_reducible rfl))
        try simp only [Act.put,List.getElem_toArray,List.getElem_cons_zero,List.getElem_cons_succ,List.setIfInBounds_toArray,List.set_cons_zero,List.set_cons_succ]
        refine wpAnyH_take (i:=12) (v:=?_) rfl (by kernel_rfl) (by kernel_rfl) (by kernel_rfl) (fun _ _ _ h=>h) (Or.inl ⟨by rfl,?_⟩) (by assumption) ?_
        rotate_left
        ·(intro w hSw;(try dsimp only at hSw);simp only [List.getElem_toArray,List.getElem_cons_zero,List.getElem_cons_succ];go_simp;(try with_reducible rfl))
        try simp only [Act.put,List.getElem_toArray,List.getElem_cons_zero,List.getElem_cons_succ,List.setIfInBounds_toArray,List.set_cons_zero,List.set_cons_succ]
        refine wpAnyH_take (i:=13) (v:=?_) rfl (by kernel_rfl) (by kernel_rfl) (by kernel_rfl) (fun _ _ _ h=>h) (Or.inl ⟨by rfl,?_⟩) (by assumption) ?_
        rotate_left
        ·(intro w hSw;(try dsimp only at hSw);simp only [List.getElem_toArray,List.getElem_cons_zero,List.getElem_cons_succ];go_simp;(try with_reducible rfl))
        try simp only [Act.put,List.getElem_toArray,List.getElem_cons_zero,List.getElem_cons_succ,List.setIfInBounds_toArray,List.set_cons_zero,List.set_cons_succ]
        refine wpAnyH_take (i:=14) (v:=?_) rfl (by kernel_rfl) (by kernel_rfl) (by kernel_rfl) (fun _ _ _ h=>h) (Or.inl ⟨by rfl,?_⟩) (by assumption) ?_
        rotate_left
        ·(intro w hSw;(try dsimp only at hSw);simp only [List.getElem_toArray,List.getElem_cons_zero,List.getElem_cons_succ];go_simp;(try with_reducible rfl))
        try simp only [Act.put,List.getElem_toArray,List.getElem_cons_zero,List.getElem_cons_succ,List.setIfInBounds_toArray,List.set_cons_zero,List.set_cons_succ]
        refine wpAnyH_take (i:=15) (v:=?_) rfl (by kernel_rfl) (by kernel_rfl) (by kernel_rfl) (fun _ _ _ h=>h) (Or.inl ⟨by rfl,?_⟩) (by assumption) ?_
        rotate_left
        ·(intro w hSw;(try dsimp only at hSw);simp only [List.getElem_toArray,List.getElem_cons_zero,List.getElem_cons_succ];go_simp;(try with_reducible rfl))
        try simp only [Act.put,List.getElem_toArray,List.getElem_cons_zero,List.getElem_cons_succ,List.setIfInBounds_toArray,List.set_cons_zero,List.set_cons_succ]
        refine wpAnyH_take (i:=16) (v:=?_) rfl (by kernel_rfl) (by kernel_rfl) (by kernel_rfl) (fun _ _ _ h=>h) (Or.inl ⟨by rfl,?_⟩) (by assumption) ?_
        rotate_left
        ·(intro w hSw;(try dsimp only at hSw);simp only [List.getElem_toArray,List.getElem_cons_zero,List.getElem_cons_succ];go_simp;(try with_reducible rfl))
        try simp only [Act.put,List.getElem_toArray,List.getElem_cons_zero,List.getElem_cons_succ,List.setIfInBounds_toArray,List.set_cons_zero,List.set_cons_succ]
        refine wpAnyH_take (i:=17) (v:=?_) rfl (by kernel_rfl) (by kernel_rfl) (by kernel_rfl) (fun _ _ _ h=>h) (Or.inl ⟨by rfl,?_⟩) (by assumption) ?_
        rotate_left
        ·(intro w hSw;(try dsimp only at hSw);simp only [List.getElem_toArray,List.getElem_cons_zero,List.getElem_cons_succ];go_simp;(try with_reducible rfl))
        try simp only [Act.put,List.getElem_toArray,List.getElem_cons_zero,List.getElem_cons_succ,List.setIfInBounds_toArray,List.set_cons_zero,List.set_cons_succ]
        refine wpAnyH_take (i:=18) (v:=?_) rfl (by kernel_rfl) (by kernel_rfl) (by kernel_rfl) (fun _ _ _ h=>h) (Or.inl ⟨by rfl,?_⟩) (by assumption) ?_
        rotate_left
        ·(intro w hSw;(try dsimp only at hSw);simp only [List.getElem_toArray,List.getElem_cons_zero,List.getElem_cons_succ];go_simp;(try with_reducible rfl))
        try simp only [Act.put,List.getElem_toArray,List.getElem_cons_zero,List.getElem_cons_succ,List.setIfInBounds_toArray,List.set_cons_zero,List.set_cons_succ]
        refine wpAnyH_take (i:=19) (v:=?_) rfl (by kernel_rfl) (by kernel_rfl) (by kernel_rfl) (fun _ _ _ h=>h) (Or.inl ⟨by rfl,?_⟩) (by assumption) ?_
        rotate_left
        ·(intro w hSw;(try dsimp only at hSw);simp only [List.getElem_toArray,List.getElem_cons_zero,List.getElem_cons_succ];go_simp;(try with_reducible rfl))
        try simp only [Act.put,List.getElem_toArray,List.getElem_cons_zero,List.getElem_cons_succ,List.setIfInBounds_toArray,List.set_cons_zero,List.set_cons_succ]
        refine wpAnyH_take (i:=20) (v:=?_) rfl (by kernel_rfl) (by kernel_rfl) (by kernel_rfl) (fun _ _ _ h=>h) (Or.inl ⟨by rfl,?_⟩) (by assumption) ?_
        rotate_left
        ·(intro w hSw;(try dsimp only at hSw);simp only [List.getElem_toArray,List.getElem_cons_zero,List.getElem_cons_succ];go_simp;(try with_reducible rfl))
        try simp only [Act.put,List.getElem_toArray,List.getElem_cons_zero,List.getElem_cons_succ,List.setIfInBounds_toArray,List.set_cons_zero,List.set_cons_succ]
        refine wpAnyH_take (i:=21) (v:=?_) rfl (by kernel_rfl) (by kernel_rfl) (by kernel_rfl) (fun _ _ _ h=>h) (Or.inl ⟨by rfl,?_⟩) (by assumption) ?_
        rotate_left
        ·(intro w hSw;(try dsimp only at hSw);simp only [List.getElem_toArray,List.getElem_cons_zero,List.getElem_cons_succ];go_simp;(try with_reducible rfl))
        try simp only [Act.put,List.getElem_toArray,List.getElem_cons_zero,List.getElem_cons_succ,List.setIfInBounds_toArray,List.set_cons_zero,List.set_cons_succ]
        refine wpAnyH_take (i:=22) (v:=?_) rfl (by kernel_rfl) (by kernel_rfl) (by kernel_rfl) (fun _ _ _ h=>h) (Or.inl ⟨by rfl,?_⟩) (by assumption) ?_
        rotate_left
        ·(intro w hSw;(try dsimp only at hSw);simp only [List.getElem_toArray,List.getElem_cons_zero,List.getElem_cons_succ];go_simp;(try with_reducible rfl))
        try simp only [Act.put,List.getElem_toArray,List.getElem_cons_zero,List.getElem_cons_succ,List.setIfInBounds_toArray,List.set_cons_zero,List.set_cons_succ]
        refine wpAnyH_take (i:=23) (v:=?_) rfl (by kernel_rfl) (by kernel_rfl) (by kernel_rfl) (fun _ _ _ h=>h) (Or.inl ⟨by rfl,?_⟩) (by assumption) ?_
        rotate_left
        ·(intro w hSw;(try dsimp only at hSw);simp only [List.getElem_toArray,List.getElem_cons_zero,List.getElem_cons_succ];go_simp;(try with_reducible rfl))
        try simp only [Act.put,List.getElem_toArray,List.getElem_cons_zero,List.getElem_cons_succ,List.setIfInBounds_toArray,List.set_cons_zero,List.set_cons_succ]
        refine wpAnyH_take (i:=24) (v:=?_) rfl (by kernel_rfl) (by kernel_rfl) (by kernel_rfl) (fun _ _ _ h=>h) (Or.inl ⟨by rfl,?_⟩) (by assumption) ?_
        rotate_left
        ·(intro w hSw;(try dsimp only at hSw);simp only [List.getElem_toArray,List.getElem_cons_zero,List.getElem_cons_succ];go_simp;(try with_reducible rfl))
        try simp only [Act.put,List.getElem_toArray,List.getElem_cons_zero,List.getElem_cons_succ,List.setIfInBounds_toArray,List.set_cons_zero,List.set_cons_succ]
        refine wpAnyH_take (i:=25) (v:=?_) rfl (by kernel_rfl) (by kernel_rfl) (by kernel_rfl) (fun _ _ _ h=>h) (Or.inl ⟨by rfl,?_⟩) (by assumption) ?_
        rotate_left
        ·(intro w hSw;(try dsimp only at hSw);simp only [List.getElem_toArray,List.getElem_cons_zero,List.getElem_cons_succ];go_simp;(try with_reducible rfl))
        try simp only [Act.put,List.getElem_toArray,List.getElem_cons_zero,List.getElem_cons_succ,List.setIfInBounds_toArray,List.set_cons_zero,List.set_cons_succ]
        refine wpAnyH_take (i:=26) (v:=?_) rfl (by kernel_rfl) (by kernel_rfl) (by kernel_rfl) (fun _ _ _ h=>h) (Or.inl ⟨by rfl,?_⟩) (by assumption) ?_
        rotate_left
        ·(intro w hSw;(try dsimp only at hSw);simp only [List.getElem_toArray,List.getElem_cons_zero,List.getElem_cons_succ];go_simp;(try with_reducible rfl))
        try simp only [Act.put,List.getElem_toArray,List.getElem_cons_zero,List.getElem_cons_succ,List.setIfInBounds_toArray,List.set_cons_zero,List.set_cons_succ]
        refine wpAnyH_take (i:=27) (v:=?_) rfl (by kernel_rfl) (by kernel_rfl) (by kernel_rfl) (fun _ _ _ h=>h) (Or.inl ⟨by rfl,?_⟩) (by assumption) ?_
        rotate_left
        ·(intro w hSw;(try dsimp only at hSw);simp only [List.getElem_toArray,List.getElem_cons_zero,List.getElem_cons_succ];go_simp;(try with_reducible rfl))
        try simp only [Act.put,List.getElem_toArray,List.getElem_cons_zero,List.getElem_cons_succ,List.setIfInBounds_toArray,List.set_cons_zero,List.set_cons_succ]
        refine wpAnyH_take (i:=28) (v:=?_) rfl (by kernel_rfl) (by kernel_rfl) (by kernel_rfl) (fun _ _ _ h=>h) (Or.inl ⟨by rfl,?_⟩) (by assumption) ?_
        rotate_left
        ·(intro w hSw;(try dsimp only at hSw);simp only [List.getElem_toArray,List.getElem_cons_zero,List.getElem_cons_succ];go_simp;(try with_reducible rfl))
        try simp only [Act.put,List.getElem_toArray,List.getElem_cons_zero,List.getElem_cons_succ,List.setIfInBounds_toArray,List.set_cons_zero,List.set_cons_succ]
        refine wpAnyH_take (i:=29) (v:=?_) rfl (by kernel_rfl) (by kernel_rfl) (by kernel_rfl) (fun _ _ _ h=>h) (Or.inl ⟨by rfl,?_⟩) (by assumption) ?_
        rotate_left
        ·(intro w hSw;(try dsimp only at hSw);simp only [List.getElem_toArray,List.getElem_cons_zero,List.getElem_cons_succ];go_simp;(try with_reducible rfl))
        try simp only [Act.put,List.getElem_toArray,List.getElem_cons_zero,List.getElem_cons_succ,List.setIfInBounds_toArray,List.set_cons_zero,List.set_cons_succ]
        refine wpAnyH_take (i:=30) (v:=?_) rfl (by kernel_rfl) (by kernel_rfl) (by kernel_rfl) (fun _ _ _ h=>h) (Or.inl ⟨by rfl,?_⟩) (by assumption) ?_
        rotate_left
        ·(intro w hSw;(try dsimp only at hSw);simp only [List.getElem_toArray,List.getElem_cons_zero,List.getElem_cons_succ];go_simp;(try with_reducible rfl))
        try simp only [Act.put,List.getElem_toArray,List.getElem_cons_zero,List.getElem_cons_succ,List.setIfInBounds_toArray,List.set_cons_zero,List.set_cons_succ]
        refine wpAnyH_take (i:=31) (v:=?_) rfl (by kernel_rfl) (by kernel_rfl) (by kernel_rfl) (fun _ _ _ h=>h) (Or.inl ⟨by rfl,?_⟩) (by assumption) ?_
        rotate_left
        ·(intro w hSw;(try dsimp only at hSw);simp only [List.getElem_toArray,List.getElem_cons_zero,List.getElem_cons_succ];go_simp;(try with_reducible rfl))
        try simp only [Act.put,List.getElem_toArray,List.getElem_cons_zero,List.getElem_cons_succ,List.setIfInBounds_toArray,List.set_cons_zero,List.set_cons_succ]
        refine wpAnyH_take (i:=32) (v:=?_) rfl (by kernel_rfl) (by kernel_rfl) (by kernel_rfl) (fun _ _ _ h=>h) (Or.inl ⟨by rfl,?_⟩) (by assumption) ?_
        rotate_left
        ·(intro w hSw;(try dsimp only at hSw);simp only [List.getElem_toArray,List.getElem_cons_zero,List.getElem_cons_succ];go_simp;(try with_reducible rfl))
        try simp only [Act.put,List.getElem_toArray,List.getElem_cons_zero,List.getElem_cons_succ,List.setIfInBounds_toArray,List.set_cons_zero,List.set_cons_succ]
        refine wpAnyH_take (i:=33) (v:=?_) rfl (by kernel_rfl) (by kernel_rfl) (by kernel_rfl) (fun _ _ _ h=>h) (Or.inl ⟨by rfl,?_⟩) (by assumption) ?_
        rotate_left
        ·(intro w hSw;(try dsimp only at hSw);simp only [List.getElem_toArray,List.getElem_cons_zero,List.getElem_cons_succ];go_simp;(try with_reducible rfl))
        try simp only [Act.put,List.getElem_toArray,List.getElem_cons_zero,List.getElem_cons_succ,List.setIfInBounds_toArray,List.set_cons_zero,List.set_cons_succ]
        refine wpAnyH_take (i:=36) (v:=?_) rfl (by kernel_rfl) (by kernel_rfl) (by kernel_rfl) (fun _ _ _ h=>h) (Or.inl ⟨by rfl,?_⟩) (by assumption) ?_
        rotate_left
        ·(intro w hSw;(try dsimp only at hSw);simp only [List.getElem_toArray,List.getElem_cons_zero,List.getElem_cons_succ];go_simp;(try with_reducible rfl))
        try simp only [Act.put,List.getElem_toArray,List.getElem_cons_zero,List.getElem_cons_succ,List.setIfInBounds_toArray,List.set_cons_zero,List.set_cons_succ]
        refine wpAnyH_take (i:=37) (v:=?_) rfl (by kernel_rfl) (by kernel_rfl) (by kernel_rfl) (fun _ _ _ h=>h) (Or.inl ⟨by rfl,?_⟩) (by assumption) ?_
        rotate_left
        ·(intro w hSw;(try dsimp only at hSw);simp only [List.getElem_toArray,List.getElem_cons_zero,List.getElem_cons_succ];go_simp;(try with_reducible rfl))
        try simp only [Act.put,List.getElem_toArray,List.getElem_cons_zero,List.getElem_cons_succ,List.setIfInBounds_toArray,List.set_cons_zero,List.set_cons_succ]
        refine wpAnyH_take (i:=38) (v:=?_) rfl (by kernel_rfl) (by kernel_rfl) (by kernel_rfl) (fun _ _ _ h=>h) (Or.inl ⟨by rfl,?_⟩) (by assumption) ?_
        rotate_left
        ·(intro w hSw;(try dsimp only at hSw);simp only [List.getElem_toArray,List.getElem_cons_zero,List.getElem_cons_succ];go_simp;(try with_reducible rfl))
        try simp only [Act.put,List.getElem_toArray,List.getElem_cons_zero,List.getElem_cons_succ,List.setIfInBounds_toArray,List.set_cons_zero,List.set_cons_succ]
        refine wpAnyH_take (i:=39) (v:=?_) rfl (by kernel_rfl) (by kernel_rfl) (by kernel_rfl) (fun _ _ _ h=>h) (Or.inl ⟨by rfl,?_⟩) (by assumption) ?_
        rotate_left
        ·(intro w hSw;(try dsimp only at hSw);simp only [List.getElem_toArray,List.getElem_cons_zero,List.getElem_cons_succ];go_simp;(try with_reducible rfl))
        try simp only [Act.put,List.getElem_toArray,List.getElem_cons_zero,List.getElem_cons_succ,List.setIfInBounds_toArray,List.set_cons_zero,List.set_cons_succ]
        refine wpAnyH_take (i:=40) (v:=?_) rfl (by kernel_rfl) (by kernel_rfl) (by kernel_rfl) (fun _ _ _ h=>h) (Or.inl ⟨by rfl,?_⟩) (by assumption) ?_
        rotate_left
        ·(intro w hSw;(try dsimp only at hSw);simp only [List.getElem_toArray,List.getElem_cons_zero,List.getElem_cons_succ];go_simp;(try with_reducible rfl))
        try simp only [Act.put,List.getElem_toArray,List.getElem_cons_zero,List.getElem_cons_succ,List.setIfInBounds_toArray,List.set_cons_zero,List.set_cons_succ]
        refine wpAnyH_take (i:=41) (v:=?_) rfl (by kernel_rfl) (by kernel_rfl) (by kernel_rfl) (fun _ _ _ h=>h) (Or.inl ⟨by rfl,?_⟩) (by assumption) ?_
        rotate_left
        ·(intro w hSw;(try dsimp only at hSw);simp only [List.getElem_toArray,List.getElem_cons_zero,List.getElem_cons_succ];go_simp;(try with_reducible rfl))
        try simp only [Act.put,List.getElem_toArray,List.getElem_cons_zero,List.getElem_cons_succ,List.setIfInBounds_toArray,List.set_cons_zero,List.set_cons_succ]
        refine wpAnyH_take (i:=42) (v:=?_) rfl (by kernel_rfl) (by kernel_rfl) (by kernel_rfl) (fun _ _ _ h=>h) (Or.inl ⟨by rfl,?_⟩) (by assumption) ?_
        rotate_left
        ·(intro w hSw;(try dsimp only at hSw);simp only [List.getElem_toArray,List.getElem_cons_zero,List.getElem_cons_succ];go_simp;(try with_reducible rfl))
        try simp only [Act.put,List.getElem_toArray,List.getElem_cons_zero,List.getElem_cons_succ,List.setIfInBounds_toArray,List.set_cons_zero,List.set_cons_succ]
        refine wpAnyH_take (i:=43) (v:=?_) rfl (by kernel_rfl) (by kernel_rfl) (by kernel_rfl) (fun _ _ _ h=>h) (Or.inl ⟨by rfl,?_⟩) (by assumption) ?_
        rotate_left
        ·(intro w hSw;(try dsimp only at hSw);simp only [List.getElem_toArray,List.getElem_cons_zero,List.getElem_cons_succ];go_simp;(try with_reducible rfl))
        try simp only [Act.put,List.getElem_toArray,List.getElem_cons_zero,List.getElem_cons_succ,List.setIfInBounds_toArray,List.set_cons_zero,List.set_cons_succ]
        refine wpAnyH_ready (rs:=[34]) (by kernel_rfl) (by simp) ?_
        refine AllReadyH.cons rfl (fun K hK=>?_) AllReadyH.nil
        simp only [List.getElem_toArray,List.getElem_cons_zero,List.getElem_cons_succ]
        rw [if_pos (by rfl)]
        go_simp
        go_at_call 35
        refine (CO.out _ ((Below.refl wr.heap.size wr).drew)).mono ?_
        rintro e wo ⟨vo,rfl,hro,hbo⟩
        have HRo:=Lib.hid hro
        have HBo:=Lib.hid (Below.trans ((Below.refl wr.heap.size wr).drew) (hbo.mono (Below.size ((Below.refl wr.heap.size wr).drew))))
        clear hro hbo
        go_simp
        refine hK.out _ _ (HS.out _ (HBo.out)) (fun hHeld=>?_)
        clear hK K
        try simp only [Act.put,List.getElem_toArray,List.getElem_cons_zero,List.getElem_cons_succ,List.setIfInBounds_toArray,List.set_cons_zero,List.set_cons_succ]
        refine wpAnyH_ready (rs:=[35,44]) (by kernel_rfl) (by simp) ?_
        refine AllReadyH.cons rfl (fun K hK=>?_) (AllReadyH.cons rfl (fun K hK=>?_) AllReadyH.nil)
        ·simp only [List.getElem_toArray,List.getElem_cons_zero,List.getElem_cons_succ]
         rw [if_pos (by rfl)]
         go_simp
         have qo:=run_string_of bt Tryz.underlying9 HRo.out
         go_simp
         refine hK.out _ _ (HS.out _ (HBo.out)) (fun hHeld=>?_)
         clear hK K
         try simp only [Act.put,List.getElem_toArray,List.getElem_cons_zero,List.getElem_cons_succ,List.setIfInBounds_toArray,List.set_cons_zero,List.set_cons_succ]
         refine wpAnyH_ready (rs:=[44]) (by kernel_rfl) (by simp) ?_
         refine AllReadyH.cons rfl (fun K hK=>?_) AllReadyH.nil
         simp only [List.getElem_toArray,List.getElem_cons_zero,List.getElem_cons_succ]
         rw [if_pos (by rfl)]
         go_simp
         go_at_call 40
         refine (CN.out _).mono ?_
         rintro e w' ⟨rfl,rfl⟩
         go_simp
         refine hK.out _ _ (HS.out _ (HBo.out)) (fun hHeld=>?_)
         clear hK K
         try simp only [Act.put,List.getElem_toArray,List.getElem_cons_zero,List.getElem_cons_succ,List.setIfInBounds_toArray,List.set_cons_zero,List.set_cons_succ]
         refine wpAnyH_take (i:=45) (v:=?_) rfl (by kernel_rfl) (by kernel_rfl) (by kernel_rfl) (fun _ _ _ h=>h) (Or.inl ⟨by rfl,?_⟩) (by assumption) ?_
         rotate_left
         ·(intro w hSw;(try dsimp only at hSw);simp only [List.getElem_toArray,List.getElem_cons_zero,List.getElem_cons_succ];go_simp;(try with_reducible rfl))
         try simp only [Act.put,List.getElem_toArray,List.getElem_cons_zero,List.getElem_cons_succ,List.setIfInBounds_toArray,List.set_cons_zero,List.set_cons_succ]
         refine wpAnyH_take (i:=46) (v:=?_) rfl (by kernel_rfl) (by kernel_rfl) (by kernel_rfl) (fun _ _ _ h=>h) (Or.inl ⟨by rfl,?_⟩) (by assumption) ?_
         rotate_left
         ·(intro w hSw;(try dsimp only at hSw);simp only [List.getElem_toArray,List.getElem_cons_zero,List.getElem_cons_succ];go_simp;(try with_reducible rfl))
         try simp only [Act.put,List.getElem_toArray,List.getElem_cons_zero,List.getElem_cons_succ,List.setIfInBounds_toArray,List.set_cons_zero,List.set_cons_succ]
         refine wpAnyH_done (by kernel_rfl) ?_ _
         have HB9:=Lib.hid (HBY.out.trans (Below.mono (HBo.out) HBY.out.size))
         go_wp2_with fail
         go_roundw
         case rel=>exact ⟨jj+1,by push_cast;rfl,by have:=HK.out;omega,HB9.out⟩
         case measure=>
          have:=HK.out
          simp only [intOf]
          omega
        ·simp only [List.getElem_toArray,List.getElem_cons_zero,List.getElem_cons_succ]
         rw [if_pos (by rfl)]
         go_simp
         go_at_call 40
         refine (CN.out _).mono ?_
         rintro e w' ⟨rfl,rfl⟩
         go_simp
         refine hK.out _ _ (HS.out _ (HBo.out)) (fun hHeld=>?_)
         clear hK K
         try simp only [Act.put,List.getElem_toArray,List.getElem_cons_zero,List.getElem_cons_succ,List.setIfInBounds_toArray,List.set_cons_zero,List.set_cons_succ]
         refine wpAnyH_ready (rs:=[35]) (by kernel_rfl) (by simp) ?_
         refine AllReadyH.cons rfl (fun K hK=>?_) AllReadyH.nil
         simp only [List.getElem_toArray,List.getElem_cons_zero,List.getElem_cons_succ]
         rw [if_pos (by rfl)]
         go_simp
         have qo:=run_string_of bt Tryz.underlying9 HRo.out
         go_simp
         refine hK.out _ _ (HS.out _ (HBo.out)) (fun hHeld=>?_)
         clear hK K
         try simp only [Act.put,List.getElem_toArray,List.getElem_cons_zero,List.getElem_cons_succ,List.setIfInBounds_toArray,List.set_cons_zero,List.set_cons_succ]
         refine wpAnyH_take (i:=45) (v:=?_) rfl (by kernel_rfl) (by kernel_rfl) (by kernel_rfl) (fun _ _ _ h=>h) (Or.inl ⟨by rfl,?_⟩) (by assumption) ?_
         rotate_left
         ·(intro w hSw;(try dsimp only at hSw);simp only [List.getElem_toArray,List.getElem_cons_zero,List.getElem_cons_succ];go_simp;(try with_reducible rfl))
         try simp only [Act.put,List.getElem_toArray,List.getElem_cons_zero,List.getElem_cons_succ,List.setIfInBounds_toArray,List.set_cons_zero,List.set_cons_succ]
         refine wpAnyH_take (i:=46) (v:=?_) rfl (by kernel_rfl) (by kernel_rfl) (by kernel_rfl) (fun _ _ _ h=>h) (Or.inl ⟨by rfl,?_⟩) (by assumption) ?_
         rotate_left
         ·(intro w hSw;(try dsimp only at hSw);simp only [List.getElem_toArray,List.getElem_cons_zero,List.getElem_cons_succ];go_simp;(try with_reducible rfl))
         try simp only [Act.put,List.getElem_toArray,List.getElem_cons_zero,List.getElem_cons_succ,List.setIfInBounds_toArray,List.set_cons_zero,List.set_cons_succ]
         refine wpAnyH_done (by kernel_rfl) ?_ _
         have HB9:=Lib.hid (HBY.out.trans (Below.mono (HBo.out) HBY.out.size))
         go_wp2_with fail
         go_roundw
         case rel=>exact ⟨jj+1,by push_cast;rfl,by have:=HK.out;omega,HB9.out⟩
         case measure=>
          have:=HK.out
          simp only [intOf]
          omega
      ·obtain rfl:jj = rs.length:=by omega
       have hlj':¬ (rs.length:Int) < (rs.length:Int):=by omega
       clear hby
       as_aux_lemma=>
        have hLF:=fun (j:Nat) (hj:j < rs.length)=>Dc.last_facts rs HWS.out HFI.out hj
        obtain ⟨N,hN⟩:∃ N,rs.length = N:=⟨_,rfl⟩
        have HLW2:=Lib.hid HLW.out
        have hwN:ws.length = N:=by rw [HWL.out,hN]
        have hNs:N≤20:=by omega
        rw [hN] at HOFF hLF HLW2 ⊢
        have HRW2:=Lib.hid (show Rd w7 7 (.slice Aw N cw) N ((Dc.wds ws ws.length).flatMap Dc.wenc) from by
         have:=HRW.out
         unfold RdD at this
         rwa [HLW2.out] at this)
        clear hn hn' hn20 hlj'
        by_cases h0:N = 0
        ·subst h0
         go_wp2_with fail
         go_ret
         exact ⟨rfl,HBW.out⟩
        ·obtain ⟨N1,hN1⟩:∃ N1,N - 1 = N1:=⟨_,rfl⟩
         have hw1:ws.length - 1 = N1:=by omega
         have hle:N1≤N:=by omega
         have hz:((N:Int) == 0) = false:=by rw [beq_eq_false_iff_ne];omega
         have wd:IntKind.i64.wrap ((N:Int) - 1) = (N1:Int):=by rw [IntKind.wrap_i64];omega
         have hl1:(N1:Int) < (N:Int):=by omega
         have hl0:(0:Int)≤(N1:Int):=by omega
         obtain ⟨f1,f2,f3⟩:=hLF N1 (by omega)
         have hkk:=Dc.key_lt HFI.out (i:=N1) (by omega)
         obtain ⟨g1,o1,d1,e1,h1⟩:=RdD.cells (Rd.kept HRW.out HBY.out) (j:=N1) (by rw [HLW2.out];omega)
         injection e1 with e1 e2 e3
         subst e1 e3
         have CWR:=Lib.hid (fun W hM=>dwrite_cut W gm gb ws HFI.out HSB.out (by omega) hM)
         rw [hw1,hhh] at CWR
         have HCA:=Lib.hid (fun (k:Nat) (hk:k < 32)=>Dc.cut_at HFI.out HSB.out (by omega) k hk)
         rw [hw1] at HCA
         have HCL:=Lib.hid (Dc.cut_len HFI.out (show 0 < ws.length by omega))
         obtain ⟨x,hx⟩:∃ x,(Dc.wds ws ws.length).getD N1 Dc.w0 = x:=⟨_,rfl⟩
         rw [hx] at f1 f2 f3 h1
         clear hx hLF
         obtain ⟨kl,ax,nm,fl,lk,xt,sz⟩:=x
         dsimp only at f1 f2 f3 h1
         obtain ⟨kk,hkd⟩:∃ kk,Dc.key ws N1 = kk:=⟨_,rfl⟩
         rw [hkd] at f1 f2 hkk CWR
         rw [← f2] at CWR
         obtain ⟨kb,hkb⟩:∃ kb,Im.bucket nm = kb:=⟨_,rfl⟩
         have CH:=Lib.hid (fun W=>hash_bucket nm W (show nm.length≤maxLen by unfold maxLen;omega))
         rw [hkb] at CH f1
         obtain ⟨k16,hk16⟩:∃ k16,16 * kl = k16:=⟨_,rfl⟩
         obtain ⟨k4,hk4⟩:∃ k4,4 * kk = k4:=⟨_,rfl⟩
         obtain ⟨pa,hpa⟩:∃ pa,hh+k4 = pa:=⟨_,rfl⟩
         rw [hk4,hpa] at CWR
         have c1:IntKind.i64.wrap (16 * (kl:Int)) = (k16:Int):=by rw [IntKind.wrap_i64];omega
         have c2:IntKind.i64.wrap ((k16:Int)+(kb:Int)) = (kk:Int):=by rw [IntKind.wrap_i64];omega
         have c3:IntKind.i64.wrap (4 * (kk:Int)) = (k4:Int):=by rw [IntKind.wrap_i64];omega
         have c4:IntKind.u32.wrap (k4:Int) = (k4:Int):=by rw [IntKind.wrap_u32];omega
         have c5:IntKind.u32.wrap ((hh:Int)+(k4:Int)) = (pa:Int):=by rw [IntKind.wrap_u32];omega
         obtain ⟨q0,q1,q2,q3,q4,q5,q6⟩:=h1 wr (Below.refl _ _)
         have hal:Below wr.heap.size wr (wr.alloc (.cells #[.int .i64 (kl:Int),.int .u32 (ax:Int),.string ⟨nm.toArray⟩,.int .i64 (fl:Int),.int .u32 (lk:Int),.int .u32 (xt:Int),.int .u32 (sz:Int)] 76)):=(Below.refl _ _).alloc (Nat.le_refl _) _
         have hbk:=Bk.fresh wr 76 #[.int .i64 (kl:Int),.int .u32 (ax:Int),.string ⟨nm.toArray⟩,.int .i64 (fl:Int),.int .u32 (lk:Int),.int .u32 (xt:Int),.int .u32 (sz:Int)]
         obtain ⟨wB,hwB⟩:∃ wB,wr.alloc (.cells #[.int .i64 (kl:Int),.int .u32 (ax:Int),.string ⟨nm.toArray⟩,.int .i64 (fl:Int),.int .u32 (lk:Int),.int .u32 (xt:Int),.int .u32 (sz:Int)] 76) = wB:=⟨_,rfl⟩
         rw [hwB] at hal hbk
         have HDt:=hal.trans ((Below.refl wB.heap.size wB).drew.mono hal.size)
         have HDw:=Lib.hid (HBW.out.trans (HDt.mono HBW.out.size))
         have HDy:=Lib.hid (HBY.out.trans (HDt.mono HBY.out.size))
         clear HDt
         have HS:=Lib.hid (show ∀ W',Below wB.heap.size wB W'→W'.cell? ⟨wr.heap.size,0,none⟩ = some (.int .i64 (kl:Int))∧W'.cell? ⟨wr.heap.size,2,none⟩ = some (.string ⟨nm.toArray⟩) from fun W' hW'=>⟨(hbk.kept hW').cell 0,(hbk.kept hW').cell 2⟩)
         have HC4:=Lib.hid (show ∀ W',Below wB.heap.size wB W'→W'.cell? ⟨wr.heap.size,4,none⟩ = some (.int .u32 (lk:Int)) from fun W' hW'=>(hbk.kept hW').cell 4)
         clear hal hbk h1 h0 hN1 hpa hk4 hk16 f1 f2 f3 hkb hkd hkk hhh CK CS CB CA CM CR1 HX HNL HRES HALL2
         go_wp2_with fail
         clear q0 q1 q2 q3 q4 q5 q6 hwB
         generalize wr.heap.size = gB at HS HC4 ⊢
         refine wp_region_held_drew (S:=fun W'=>W'.cell? ⟨gB,0,none⟩ = some (.int .i64 (kl:Int))∧W'.cell? ⟨gB,2,none⟩ = some (.string ⟨nm.toArray⟩)) (by kernel_rfl) (HS.out _ (Below.refl _ _).drew) (fun hHeld=>?_)
         refine wpAnyH_take (i:=0) (v:=?_) rfl (by kernel_rfl) (by kernel_rfl) (by kernel_rfl) (fun _ _ _ h=>h) (Or.inl ⟨by rfl,?_⟩) (by assumption) ?_
         rotate_left
         ·(intro w hSw;(try dsimp only at hSw);simp only [List.getElem_toArray,List.getElem_cons_zero,List.getElem_cons_succ];go_simp;(try with_reducible rfl))
         try simp only [Act.put,List.getElem_toArray,List.getElem_cons_zero,List.getElem_cons_succ,List.setIfInBounds_toArray,List.set_cons_zero,List.set_cons_succ]
         refine wpAnyH_take (i:=1) (v:=?_) rfl (by kernel_rfl) (by kernel_rfl) (by kernel_rfl) (fun _ _ _ h=>h) (Or.inl ⟨by rfl,?_⟩) (by assumption) ?_
         rotate_left
         ·(intro w hSw;(try dsimp only at hSw);simp only [List.getElem_toArray,List.getElem_cons_zero,List.getElem_cons_succ];go_simp;(try with_reducible rfl))
         try simp only [Act.put,List.getElem_toArray,List.getElem_cons_zero,List.getElem_cons_succ,List.setIfInBounds_toArray,List.set_cons_zero,List.set_cons_succ]
         refine wpAnyH_take (i:=2) (v:=?_) rfl (by kernel_rfl) (by kernel_rfl) (by kernel_rfl) (fun _ _ _ h=>h) (Or.inl ⟨by rfl,?_⟩) (by assumption) ?_
         rotate_left
         ·(intro w hSw;(try dsimp only at hSw);simp only [List.getElem_toArray,List.getElem_cons_zero,List.getElem_cons_succ];go_simp;(try with_reducible rfl))
         try simp only [Act.put,List.getElem_toArray,List.getElem_cons_zero,List.getElem_cons_succ,List.setIfInBounds_toArray,List.set_cons_zero,List.set_cons_succ]
         refine wpAnyH_take (i:=3) (v:=?_) rfl (by kernel_rfl) (by kernel_rfl) (by kernel_rfl) (fun _ _ _ h=>h) (Or.inl ⟨by rfl,?_⟩) (by assumption) ?_
         rotate_left
         ·(intro w hSw;(try dsimp only at hSw);simp only [List.getElem_toArray,List.getElem_cons_zero,List.getElem_cons_succ];go_simp;(try with_reducible rfl))
         try simp only [Act.put,List.getElem_toArray,List.getElem_cons_zero,List.getElem_cons_succ,List.setIfInBounds_toArray,List.set_cons_zero,List.set_cons_succ]
         refine wpAnyH_take (i:=4) (v:=?_) rfl (by kernel_rfl) (by kernel_rfl) (by kernel_rfl) (fun _ _ _ h=>h) (Or.inl ⟨by rfl,?_⟩) (by assumption) ?_
         rotate_left
         ·(intro w hSw;(try dsimp only at hSw);simp only [List.getElem_toArray,List.getElem_cons_zero,List.getElem_cons_succ];go_simp;(try with_reducible rfl))
         try simp only [Act.put,List.getElem_toArray,List.getElem_cons_zero,List.getElem_cons_succ,List.setIfInBounds_toArray,List.set_cons_zero,List.set_cons_succ]
         refine wpAnyH_take (i:=5) (v:=?_) rfl (by kernel_rfl) (by kernel_rfl) (by kernel_rfl) (fun _ _ _ h=>h) (Or.inl ⟨by rfl,?_⟩) (by assumption) ?_
         rotate_left
         ·(intro w hSw;(try dsimp only at hSw);simp only [List.getElem_toArray,List.getElem_cons_zero,List.getElem_cons_succ];go_simp;(try with_reducible rfl))
         try simp only [Act.put,List.getElem_toArray,List.getElem_cons_zero,List.getElem_cons_succ,List.setIfInBounds_toArray,List.set_cons_zero,List.set_cons_succ]
         refine wpAnyH_take (i:=6) (v:=?_) rfl (by kernel_rfl) (by kernel_rfl) (by kernel_rfl) (fun _ _ _ h=>h) (Or.inl ⟨by rfl,?_⟩) (by assumption) ?_
         rotate_left
         ·(intro w hSw;(try dsimp only at hSw);simp only [List.getElem_toArray,List.getElem_cons_zero,List.getElem_cons_succ];go_simp;(try with_reducible rfl))
         try simp only [Act.put,List.getElem_toArray,List.getElem_cons_zero,List.getElem_cons_succ,List.setIfInBounds_toArray,List.set_cons_zero,List.set_cons_succ]
         refine wpAnyH_ready (rs:=[7]) (by kernel_rfl) (by simp) ?_
         refine AllReadyH.cons rfl (fun K hK=>?_) AllReadyH.nil
         simp only [List.getElem_toArray,List.getElem_cons_zero,List.getElem_cons_succ]
         rw [if_pos (by rfl)]
         go_simp
         go_at_call 23
         refine (CH.out _).mono ?_
         rintro e w' ⟨rfl,rfl⟩
         go_simp
         refine hK.out _ _ (HS.out _ ((Below.refl _ _).drew)) (fun hHeld=>?_)
         clear hK K
         try simp only [Act.put,List.getElem_toArray,List.getElem_cons_zero,List.getElem_cons_succ,List.setIfInBounds_toArray,List.set_cons_zero,List.set_cons_succ]
         refine wpAnyH_take (i:=8) (v:=?_) rfl (by kernel_rfl) (by kernel_rfl) (by kernel_rfl) (fun _ _ _ h=>h) (Or.inl ⟨by rfl,?_⟩) (by assumption) ?_
         rotate_left
         ·(intro w hSw;(try dsimp only at hSw);simp only [List.getElem_toArray,List.getElem_cons_zero,List.getElem_cons_succ];go_simp;(try with_reducible rfl))
         try simp only [Act.put,List.getElem_toArray,List.getElem_cons_zero,List.getElem_cons_succ,List.setIfInBounds_toArray,List.set_cons_zero,List.set_cons_succ]
         refine wpAnyH_take (i:=9) (v:=?_) rfl (by kernel_rfl) (by kernel_rfl) (by kernel_rfl) (fun _ _ _ h=>h) (Or.inl ⟨by rfl,?_⟩) (by assumption) ?_
         rotate_left
         ·(intro w hSw;(try dsimp only at hSw);simp only [List.getElem_toArray,List.getElem_cons_zero,List.getElem_cons_succ];go_simp;(try with_reducible rfl))
         try simp only [Act.put,List.getElem_toArray,List.getElem_cons_zero,List.getElem_cons_succ,List.setIfInBounds_toArray,List.set_cons_zero,List.set_cons_succ]
         refine wpAnyH_take (i:=10) (v:=?_) rfl (by kernel_rfl) (by kernel_rfl) (by kernel_rfl) (fun _ _ _ h=>h) (Or.inl ⟨by rfl,?_⟩) (by assumption) ?_
         rotate_left
         ·(intro w hSw;(try dsimp only at hSw);simp only [List.getElem_toArray,List.getElem_cons_zero,List.getElem_cons_succ];go_simp;(try with_reducible rfl))
         try simp only [Act.put,List.getElem_toArray,List.getElem_cons_zero,List.getElem_cons_succ,List.setIfInBounds_toArray,List.set_cons_zero,List.set_cons_succ]
         refine wpAnyH_take (i:=11) (v:=?_) rfl (by kernel_rfl) (by kernel_rfl) (by kernel_rfl) (fun _ _ _ h=>h) (Or.inl ⟨by rfl,?_⟩) (by assumption) ?_
         rotate_left
         ·(intro w hSw;(try dsimp only at hSw);simp only [List.getElem_toArray,List.getElem_cons_zero,List.getElem_cons_succ];go_simp;(try with_reducible rfl))
         try simp only [Act.put,List.getElem_toArray,List.getElem_cons_zero,List.getElem_cons_succ,List.setIfInBounds_toArray,List.set_cons_zero,List.set_cons_succ]
         refine wpAnyH_take (i:=12) (v:=?_) rfl (by kernel_rfl) (by kernel_rfl) (by kernel_rfl) (fun _ _ _ h=>h) (Or.inl ⟨by rfl,?_⟩) (by assumption) ?_
         rotate_left
         ·(intro w hSw;(try dsimp only at hSw);simp only [List.getElem_toArray,List.getElem_cons_zero,List.getElem_cons_succ];go_simp;(try with_reducible rfl))
         try simp only [Act.put,List.getElem_toArray,List.getElem_cons_zero,List.getElem_cons_succ,List.setIfInBounds_toArray,List.set_cons_zero,List.set_cons_succ]
         refine wpAnyH_done (by kernel_rfl) ?_ _
         have y4:=HC4.out _ ((Below.refl wB.heap.size wB).drew)
         generalize wB.drew = wD at HDw HDy y4 ⊢
         go_wp2_with fail
         go_at_call 41
         refine (CWR.out wD (HM7.out.kept HDy.out)).mono ?_
         rintro e w9 ⟨rfl,hM9,hbut⟩
         have HB9:=Lib.hid (HDw.out.trans (hbut.below HGB.out HDw.out.size))
         have hr9:=Rd.but (Rd.kept HRW2.out HDy.out) hbut HOFF.out
         have CR2:=Lib.hid (CRD.out w9 gm gb (Dc.cut ws) N1 HCL.out (by omega) (by omega) HCA.out hM9)
         clear hM9 hbut
         go_wp2_with fail
         go_at_call 31
         refine CR2.out.mono ?_
         rintro e w10 ⟨v2,rfl,hrw2,hoff2,hb10⟩
         have HB10:=Lib.hid (HB9.out.trans (hb10.mono HB9.out.size))
         have hr10:=Rd.kept hr9 hb10
         have HL2:=Lib.hid (show (Dc.wds ws N1).length = N1 from Dc.wds_len ws N1)
         obtain ⟨A2,c2,rfl⟩:=Rd.form hrw2
         have HRW3:=Lib.hid hrw2
         rw [HL2.out] at HRW3 ⊢
         obtain ⟨⟨v1,hsl1,hrd1⟩,_⟩:=Rd.cutAt dwrt hr10 N1 (by omega)
         have hrd2:RdD w10 v1 (Dc.wds ws N1):=by
          have e:(Dc.wds ws N1).flatMap Dc.wenc = ((Dc.wds ws ws.length).flatMap Dc.wenc).take (N1 * 7):=by
           rw [← Dc.wds_take ws ws.length N1 (by omega),Dc.take_flat _ _ (by rw [HLW2.out];exact hle)]
          unfold RdD
          rw [HL2.out,e]
          exact hrd1
         have CF:=Lib.hid (refs_any w10 v1 (Dc.wds ws N1) hrd2 (by rw [HL2.out];omega))
         have HN5:=Lib.hid (show (Dc.wds ws N1).length≤5000 by rw [HL2.out];omega)
         have sl:=hsl1 .i64
         clear hrd1 hrd2 hsl1 hoff2 hb10 hr9 hr10 hrw2
         go_wp2_with (first
          | (go_at_call 34;refine (dnum_any _ _).mono ?_;rintro e w' ⟨rfl,rfl⟩)
          | (go_at_call 42;refine CF.out.mono ?_;rintro e w11 ⟨vr,rfl,hrr,hb11⟩;have CSM:=Lib.hid (dsame_any w11 _ vr (Dc.wds ws N1) (Rd.kept HRW3.out hb11) hrr HN5.out);have HB11:=Lib.hid (HB10.out.trans (hb11.mono HB10.out.size));clear hrr hb11)
          | (go_at_call 33;refine CSM.out.mono ?_;rintro e w12 ⟨rfl,hb12⟩))
         go_ret
         exact ⟨rfl,HB11.out.trans (hb12.mono HB11.out.size)⟩
end Go.Proofs.YtpcpaoeajcjoiaaGreatDoor
