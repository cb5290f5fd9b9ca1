/- Texts joined, what is not reached left out. -/
import Derived.Test.YtpcpaoeajcjoiaaGreatDoorME
import Derived.Test.YtpcpaoeajcjoiaaGreatDoorQAsPiece
import Derived.StillTailTactics
import Derived.Deep.RegionHeld3
set_option linter.unusedVariables false
set_option linter.unusedSimpArgs false
namespace Go.Proofs.YtpcpaoeajcjoiaaGreatDoor
open Go.RowKit Kit
structure As.LOk (x:L6.Line):Prop where
 ll:x.labels.length≤100000
 al:x.args.length≤1000000
 ls:As.Lo x.labels
 sa:As.Lo x.args
def As.FirstPost (w0:World) (gp:Nat) (vl:Value) (a:Nat) (r:As.R (List (List UInt8 × Nat))) (e:Ending) (w':World):Prop:=
 match r with
 | .bad n er=>e = .returned (.tuple #[.int .i64 (n:Int),.int .i64 (er:Int)])∧Below w0.heap.size w0 w'
 | .ok sy=>e = .returned (.tuple #[.int .i64 0,.int .i64 0])∧As.Ms w0.heap.size w' gp vl a [] sy sy∧Below w0.heap.size w0 w'
theorem As.FirstPost.bad {w0 w':World} {gp:Nat} {vl:Value} {a:Nat} {r:As.R (List (List UInt8 × Nat))} {n er:Nat} {i j:Int} (h:r = .bad n er) (hi:i = n) (hj:j = er) (hb:Below w0.heap.size w0 w'):As.FirstPost w0 gp vl a r (.returned (.tuple #[.int .i64 i,.int .i64 j])) w':=by
 subst h hi hj
 exact ⟨rfl,hb⟩
theorem As.labels_len {a:Nat}:∀ {t:List (List UInt8)} {sy sy1:List (List UInt8 × Nat)},As.labels a t sy = some sy1→sy1.length = sy.length+t.length
 | [],sy,sy1,h=>by injection h with h;subst h;rfl
 | s :: t,sy,sy1,h=>by
  unfold As.labels at h
  split at h
  ·cases h
  ·rw [As.labels_len h];simp;omega
theorem As.drop_cons {α:Type} {l:List α} {k:Nat} (h:k < l.length):l.drop k = l[k] :: l.drop (k+1):=(List.drop_eq_getElem_cons h)
set_option maxRecDepth 100000 in
set_option maxHeartbeats 16000000 in
theorem afirst_any {w0 w:World} {gp:Nat} {vl:Value} {ls:List L6.Line} {a:Nat} (hL:RdL w0 vl ls) (hT:L6.Tab w0) (hm:As.Ms w0.heap.size w gp vl a [] [] []) (hb:Below w0.heap.size w0 w) (hls:ls.length≤40000) (hx:∀ x ∈ ls,As.LOk x) (ha:a < 4294967296) :
  Calls Tryz.prog 44 #[.pointer (some ⟨gp,0,none⟩)] w (As.FirstPost w0 gp vl a (As.first a 0 0 [] ls)):=by
 have HL:=Lib.hid hL
 have HT:=Lib.hid hT
 have HM:=Lib.hid hm
 have HB:=Lib.hid hb
 have HLL:=Lib.hid hls
 have HX:=Lib.hid hx
 obtain ⟨b,vb,vs,hat⟩:=hm.at
 have c0:=hat.seen.c0
 obtain ⟨A,c,rfl⟩:=hL.form
 clear hL hT hm hb hls hx hat
 go_enter Tryz.func44,Tryz.ntmps44
 go_wp2_with fail
 go_loopw [4,19] (fun acc i wr=>∃ (k here:Nat) (sy:List (List UInt8 × Nat)),acc = .int .i64 (here:Int)∧i = .int .i64 (k:Int)∧k≤ls.length∧here≤131072∧sy.length≤k * 100000∧As.first a 0 0 [] ls = As.first a k here sy (ls.drop k)∧As.Ms w0.heap.size wr gp (.slice A ls.length c) a [] sy sy∧Below w0.heap.size w0 wr) (fun _ i _=>ls.length - (intOf i).toNat)
 case atStart=>exact ⟨0,0,[],rfl,rfl,Nat.zero_le _,Nat.zero_le _,Nat.zero_le _,rfl,HM.out,HB.out⟩
 case round=>
  obtain ⟨k,here,sy,rfl,rfl,hk,hh,hsl,hfi,hm,hb⟩:=hrel
  have HF:=Lib.hid hfi
  have HM:=Lib.hid hm
  have HB:=Lib.hid hb
  have HSL:=Lib.hid hsl
  clear hfi hm hb hsl
  by_cases hlt:k < ls.length
  ·have hlt':(k:Int) < (ls.length:Int):=by omega
   have hw1:IntKind.i64.wrap ((k:Int)+1) = (k:Int)+1:=by have:=HLL.out;rw [IntKind.wrap_i64];omega
   have HDR:=Lib.hid (show As.first a 0 0 [] ls = As.first a k here sy (ls[k] :: ls.drop (k+1)) from by rw [HF.out,As.drop_cons hlt])
   have HK:=Lib.hid (show k+1≤40000 from by have:=HLL.out;omega)
   obtain ⟨g,off,c',va1,va2,e,hg,d0,d1,d2,r1,r2⟩:=HL.out.at hlt
   injection e with e1 e2 e3
   subst e1 e3
   have HLT:=Lib.hid (show k+1≤ls.length from hlt)
   have HXK:=Lib.hid (HX.out _ (List.getElem_mem hlt))
   generalize ls[k] = X at *
   obtain ⟨xl,xw,xa⟩:=X
   obtain ⟨B1,cc1,rfl⟩:=r1.form
   obtain ⟨B2,cc2,rfl⟩:=r2.form
   dsimp only at d0 d1 d2 r1 r2
   have q0:wr.cell? ⟨g,off+k * 3,none⟩ = some (.slice B1 xl.length cc1):=(HB.out.cell (p:=⟨g,_,none⟩) hg).trans d0
   have q1:wr.cell? ⟨g,off+k * 3+1,none⟩ = some (.string ⟨xw.toArray⟩):=(HB.out.cell (p:=⟨g,_,none⟩) hg).trans d1
   have q2:wr.cell? ⟨g,off+k * 3+2,none⟩ = some (.slice B2 xa.length cc2):=(HB.out.cell (p:=⟨g,_,none⟩) hg).trans d2
   have HR1:=Lib.hid r1
   have HR2:=Lib.hid r2
   have hbk:=Bk.fresh wr 105 #[.slice B1 xl.length cc1,.string ⟨xw.toArray⟩,.slice B2 xa.length cc2]
   have hal:Below wr.heap.size wr (wr.alloc (.cells #[.slice B1 xl.length cc1,.string ⟨xw.toArray⟩,.slice B2 xa.length cc2] 105)):=(Below.refl _ _).alloc (Nat.le_refl _) _
   have HBK:=Lib.hid hbk
   have HM1:=Lib.hid (HM.out.kept hal)
   have HB1:=Lib.hid (show Below w0.heap.size w0 (wr.alloc (.cells #[.slice B1 xl.length cc1,.string ⟨xw.toArray⟩,.slice B2 xa.length cc2] 105)) from HB.out.alloc HB.out.size _)
   have b0:=hbk.cell 0
   have h32:IntKind.u32.wrap (here:Int) = (here:Int):=by rw [IntKind.wrap_u32];omega
   have hat32:IntKind.u32.wrap ((a:Int)+(here:Int)) = ((As.at32 (a+here):Nat):Int):=by unfold As.at32;rw [IntKind.wrap_u32];omega
   have HT32:=Lib.hid (show As.at32 (a+here) < 4294967296 from by unfold As.at32;omega)
   have HFU:=Lib.hid (show As.first a k here sy (⟨xl,xw,xa⟩ :: ls.drop (k+1)) = (match As.labels (As.at32 (a+here)) xl sy with
    | none=>.bad (k+1) 42
    | some sy1=>match As.pieces ⟨xl,xw,xa⟩ (As.at32 (a+here)) with
     | none=>.bad (k+1) 40
     | some p=>if As.lead p = true∧As.at32 (a+here) % 4 ≠ 0 then .bad (k+1) 30 else if 131072 < here+As.size p then .bad (k+1) 6 else As.first a (k+1) (here+As.size p) sy1 (ls.drop (k+1))) from rfl)
   clear d0 d1 d2 r1 r2 hbk hal
   generalize As.at32 (a+here) = T at *
   obtain ⟨b,vb,vs,hat⟩:=HM1.out.at
   have c1:=hat.seen.c1
   clear hat
   go_wp2_with fail
   obtain ⟨W1,hW1⟩:∃ W1,wr.alloc (.cells #[.slice B1 xl.length cc1,.string ⟨xw.toArray⟩,.slice B2 xa.length cc2] 105) = W1:=⟨_,rfl⟩
   rw [hW1] at HBK HM1 HB1 b0 c1 ⊢
   have HW1S:=Lib.hid (show wr.heap.size < W1.heap.size from by rw [← hW1];simp)
   clear hW1 q0 q1 q2 c1
   generalize wr.heap.size = NB at *
   go_loopw [34] (fun j wr=>∃ (m:Nat) (sy1:List (List UInt8 × Nat)),j = .int .i64 (m:Int)∧m≤xl.length∧sy1.length≤sy.length+m∧As.labels T xl sy = As.labels T (xl.drop m) sy1∧As.Ms w0.heap.size wr gp (.slice (some ⟨g,off,none⟩) ls.length c) a [] sy1 sy1∧Below w0.heap.size w0 wr∧Bk wr NB 105 #[.slice B1 xl.length cc1,.string ⟨xw.toArray⟩,.slice B2 xa.length cc2]) (fun j _=>xl.length - (intOf j).toNat)
   case atStart=>exact ⟨0,sy,rfl,Nat.zero_le _,Nat.le_refl _,rfl,HM1.out,HB1.out,HBK.out⟩
   case round=>
    obtain ⟨m,sy1,rfl,hm,hsl1,hla,hms,hb,hbk⟩:=hrel
    have HSL1:=Lib.hid hsl1
    have HLA:=Lib.hid hla
    have HMS:=Lib.hid hms
    have HBY:=Lib.hid hb
    have HKY:=Lib.hid hbk
    clear hsl1 hla hms hb hbk
    by_cases hlm:m < xl.length
    ·have hlm':(m:Int) < (xl.length:Int):=by omega
     have hw2:IntKind.i64.wrap ((m:Int)+1) = (m:Int)+1:=by have:=HXK.out.ll;dsimp only at this;rw [IntKind.wrap_i64];omega
     have HLM:=Lib.hid (show m+1≤xl.length from hlm)
     obtain ⟨gl,ol,cl,el,hgl,hcl⟩:=HR1.out.at hlm
     injection el with el1 el2 el3
     subst el1 el3
     have p0:wr.cell? ⟨gl,ol+m,none⟩ = some (.string ⟨(xl.getD m []).toArray⟩):=(HBY.out.cell (p:=⟨gl,_,none⟩) hgl).trans hcl
     have HSS:=Lib.hid (show (xl.getD m []).length≤maxLen from by
      have:=HXK.out.ls (xl.getD m []) (by rw [List.getD_eq_getElem?_getD,List.getElem?_eq_getElem hlm];exact List.getElem_mem hlm)
      unfold maxLen;omega)
     have HDM:=Lib.hid (show As.labels T xl sy = As.labels T (xl.getD m [] :: xl.drop (m+1)) sy1 from by
      rw [HLA.out,As.drop_cons hlm]
      congr 1
      rw [List.getD_eq_getElem?_getD,List.getElem?_eq_getElem hlm];rfl)
     clear hcl
     generalize xl.getD m [] = s at *
     obtain ⟨b,vb,vs,hat⟩:=HMS.out.at
     have HAT:=Lib.hid hat
     have c2:=hat.seen.c2
     have hlk:=hat.map.run s HSS.out
     clear hat
     cases hlook:As.look sy1 s with
     | some u=>
      rw [hlook] at hlk
      simp only [Option.getD_some,Option.isSome_some] at hlk
      have HBAD:=Lib.hid (show As.first a 0 0 [] ls = .bad (k+1) 42 from by
       rw [HDR.out,HFU.out,HDM.out]
       unfold As.labels
       rw [if_pos (by rw [As.look_any,hlook];rfl)])
      clear hlook
      go_wp2_with fail
      go_ret2
      exact As.FirstPost.bad HBAD.out (by simp) rfl HBY.out
     | none=>
      rw [hlook] at hlk
      simp only [Option.getD_none,Option.isSome_none] at hlk
      have HNX:=Lib.hid (show As.labels T xl sy = As.labels T (xl.drop (m+1)) (sy1 ++ [(s,T)]) from by
       rw [HDM.out]
       conv=>lhs;unfold As.labels
       rw [if_neg (by rw [As.look_any,hlook];decide)])
      have HLK:=Lib.hid hlook
      have HSN:=Lib.hid (show sy1.length≤4100000000 from by have h1:=HSL1.out;have h2:=HSL.out;have h3:=HK.out;have h4:=HXK.out.ll;dsimp only at h4;omega)
      clear hlook
      have HSA:=Lib.hid (show (sy1.length+1) * 24≤140737488355328∧sy1.length+1≤maxLen from by have:=HSN.out;unfold maxLen;omega)
      go_wp2_with (first
       | (at_mapUpdate;refine wpList_store_as rfl _ _ _ rfl b sy1 rfl HAT.out.map (by have:=HSN.out;unfold maxLen;omega) s HSS.out HLK.out rfl T HT32.out rfl ?_;intro w2 hm2 hg2;obtain ⟨hat2,hfr2⟩:=HAT.out.mapped hm2 hg2;have HBW:=Lib.hid (show Below w0.heap.size w0 w2 from HBY.out.trans (hfr2.below (fun k hk=>by rw [hk];exact HAT.out.b) HAT.out.size));have HK2:=Lib.hid (show Bk w2 NB 105 _ from hfr2.bk HKY.out (fun e=>HAT.out.map.bk_ne HKY.out e.symm));obtain ⟨A4,c4',hvs,hkk,ho1,hs1,hz1,hput⟩:=hat2.symroom (s,T);have e4:=hat2.seen.c4;rw [hvs] at e4;dsimp only at ho1 hs1 hput hz1;have HO1:=Lib.hid ho1;have HS1:=Lib.hid hs1;have HZ1:=Lib.hid hz1;have HPUT:=Lib.hid hput;clear hat2 hfr2 ho1 hs1 hz1 hput hkk c2 hlk p0 hm2 hg2)
       | (at_builtin;refine wpList_appendRB rfl _ _ _ _ rfl asyt (by decide) w0.heap.size (.slice A4 sy1.length c4') rfl sy1.length (As.symC sy1) HO1.out _ rfl 1 [.string ⟨s.toArray⟩,.int .u32 (T:Int)] HS1.out HSA.out.1 HSA.out.2 HZ1.out ?_;intro v3 w3 ho3 hb3 hg3 hv3;obtain ⟨⟨A3,c3,rfl⟩,k3,f3,HQ⟩:=HPUT.out v3 w3 ho3 hg3))
      go_roundw
      case rel=>exact ⟨m+1,sy1 ++ [(s,T)],by simp,HLM.out,by have:=HSL1.out;rw [List.length_append];simp;omega,HNX.out,HQ.out.1.ms,HBW.out.trans HQ.out.2.1,HQ.out.2.2 _ _ _ HK2.out (by decide) (by decide)⟩
      case measure=>have:=HLM.out;simp [intOf];omega
    ·obtain rfl:m = xl.length:=by omega
     have HLS:=Lib.hid (show As.labels T xl sy = some sy1 from by rw [HLA.out,List.drop_length];rfl)
     have HFV:=Lib.hid (show As.first a 0 0 [] ls = (match As.pieces ⟨xl,xw,xa⟩ T with
      | none=>.bad (k+1) 40
      | some p=>if As.lead p = true∧T % 4 ≠ 0 then .bad (k+1) 30 else if 131072 < here+As.size p then .bad (k+1) 6 else As.first a (k+1) (here+As.size p) sy1 (ls.drop (k+1))) from by rw [HDR.out,HFU.out,HLS.out])
     have CP:=Lib.hid (apieces_any (.slice B1 xl.length cc1) (.slice B2 xa.length cc2) ⟨xl,xw,xa⟩ T wr (HR2.out.kept HBY.out) (HT.out.kept HBY.out) ⟨_,_,_,rfl⟩ (by have:=HXK.out.al;dsimp only at this ⊢;omega) HXK.out.sa HT32.out)
     have y0:=HKY.out.cell 0
     have y1:=HKY.out.cell 1
     have y2:=HKY.out.cell 2
     clear b0
     cases hp:As.pieces ⟨xl,xw,xa⟩ T with
     | none=>
      rw [hp] at CP
      have HBAD:=Lib.hid (show As.first a 0 0 [] ls = .bad (k+1) 40 from by rw [HFV.out,hp])
      clear hp
      go_wp2_with fail
      go_at_call 84
      refine CP.out.mono ?_
      rintro e w5 ⟨rfl,hb5⟩
      have HB5:=Lib.hid (show Below w0.heap.size w0 w5 from HBY.out.trans (hb5.mono HBY.out.size))
      clear hb5
      go_wp2_with fail
      go_ret2
      exact As.FirstPost.bad HBAD.out (by simp) rfl HB5.out
     | some ps=>
      rw [hp] at CP
      have HFW:=Lib.hid (show As.first a 0 0 [] ls = (if As.lead ps = true∧T % 4 ≠ 0 then .bad (k+1) 30 else if 131072 < here+As.size ps then .bad (k+1) 6 else As.first a (k+1) (here+As.size ps) sy1 (ls.drop (k+1))) from by rw [HFV.out,hp])
      have HOK:=Lib.hid (As.pieces_ok HXK.out.sa hp)
      have HCN:=Lib.hid (show ps.length≤1000002 from by have:=As.pieces_cnt hp;have h2:=HXK.out.al;dsimp only at this h2;omega)
      have HSZ:=Lib.hid (show As.size ps≤3000000000000000 from by have h1:=As.size_le HOK.out;have h2:=HCN.out;omega)
      clear hp
      go_wp2_with fail
      go_at_call 84
      refine CP.out.mono ?_
      rintro e w5 ⟨v5,rfl,hr5,hb5⟩
      have HB5:=Lib.hid (show Below w0.heap.size w0 w5 from HBY.out.trans (hb5.mono HBY.out.size))
      have HM5:=Lib.hid (HMS.out.kept hb5)
      have CS:=Lib.hid (asize_any v5 ps w5 hr5 HOK.out (by have:=HCN.out;omega))
      have HSY:=Lib.hid (show sy1.length≤(k+1) * 100000 from by have h1:=HSL1.out;have h2:=HSL.out;have h4:=HXK.out.ll;dsimp only at h4;omega)
      have hadd:IntKind.i64.wrap ((here:Int)+((As.size ps:Nat):Int)) = ((here+As.size ps:Nat):Int):=by have:=HSZ.out;rw [IntKind.wrap_i64];omega
      clear hb5 y0 y1 y2
      cases hps:ps with
      | nil=>
       have HLD:=Lib.hid (show ¬ (As.lead ps = true∧T % 4 ≠ 0) from fun e=>by rw [hps] at e;exact absurd e.1 (by decide))
       obtain ⟨A5,c5,h5⟩:=hr5.form
       have hn0:(ps.length:Int) = 0:=by rw [hps];rfl
       clear hr5 hps
       subst h5
       generalize ps.length = np at *
       obtain rfl:np = 0:=by omega
       go_wp2_with fail
       go_at_call 85
       refine CS.out.mono ?_
       rintro e w6 ⟨rfl,hb6⟩
       have HB6:=Lib.hid (show Below w0.heap.size w0 w6 from HB5.out.trans (hb6.mono HB5.out.size))
       have HM6:=Lib.hid (HM5.out.kept hb6)
       clear hb6
       by_cases hbig:131072 < here+As.size ps
       ·have HBAD:=Lib.hid (show As.first a 0 0 [] ls = .bad (k+1) 6 from by rw [HFW.out,if_neg HLD.out,if_pos hbig])
        have hbig':(131072:Int) < ((here+As.size ps:Nat):Int):=by omega
        go_wp2_with fail
        go_ret2
        exact As.FirstPost.bad HBAD.out (by simp) rfl HB6.out
       ·have HGO:=Lib.hid (show As.first a 0 0 [] ls = As.first a (k+1) (here+As.size ps) sy1 (ls.drop (k+1)) from by rw [HFW.out,if_neg HLD.out,if_neg hbig])
        have hbig':¬ (131072:Int) < ((here+As.size ps:Nat):Int):=by omega
        have HNB:=Lib.hid hbig
        go_wp2_with fail
        go_roundw
        case rel=>exact ⟨k+1,here+As.size ps,sy1,rfl,by simp,HLT.out,by have:=HNB.out;omega,HSY.out,HGO.out,HM6.out,HB6.out⟩
        case measure=>have:=HLT.out;simp [intOf];omega
      | cons p0 pr=>
       obtain ⟨g5,o5,c5,vb5,h5,hx1,hx2,hcs,hx3,hx4⟩:=hr5.at (k:=0) (by rw [hps];simp)
       have z0:=hcs 0 (by decide)
       have hnp:(0:Int) < (ps.length:Int):=by rw [hps,List.length_cons];omega
       have hp0:ps[0]'(by rw [hps];simp) = p0:=by simp [hps]
       rw [hp0] at z0
       simp only [As.cellsP,List.getElem?_cons_zero,Nat.zero_mul,Nat.add_zero] at z0
       have HLDP:=Lib.hid (show As.lead ps = p0.code from by rw [hps];rfl)
       clear hcs hx1 hx2 hx3 hx4 hp0 hr5 hps
       subst h5
       generalize ps.length = np at *
       obtain ⟨pc,pi,pb,pk,pn,pf⟩:=p0
       dsimp only at z0 HLDP
       cases pc
       ·have HLD:=Lib.hid (show ¬ (As.lead ps = true∧T % 4 ≠ 0) from fun e=>by rw [HLDP.out] at e;cases e.1)
        go_wp2_with fail
        go_at_call 85
        refine CS.out.mono ?_
        rintro e w6 ⟨rfl,hb6⟩
        have HB6:=Lib.hid (show Below w0.heap.size w0 w6 from HB5.out.trans (hb6.mono HB5.out.size))
        have HM6:=Lib.hid (HM5.out.kept hb6)
        clear hb6
        by_cases hbig:131072 < here+As.size ps
        ·have HBAD:=Lib.hid (show As.first a 0 0 [] ls = .bad (k+1) 6 from by rw [HFW.out,if_neg HLD.out,if_pos hbig])
         have hbig':(131072:Int) < ((here+As.size ps:Nat):Int):=by omega
         go_wp2_with fail
         go_ret2
         exact As.FirstPost.bad HBAD.out (by simp) rfl HB6.out
        ·have HGO:=Lib.hid (show As.first a 0 0 [] ls = As.first a (k+1) (here+As.size ps) sy1 (ls.drop (k+1)) from by rw [HFW.out,if_neg HLD.out,if_neg hbig])
         have hbig':¬ (131072:Int) < ((here+As.size ps:Nat):Int):=by omega
         have HNB:=Lib.hid hbig
         go_wp2_with fail
         go_roundw
         case rel=>exact ⟨k+1,here+As.size ps,sy1,rfl,by simp,HLT.out,by have:=HNB.out;omega,HSY.out,HGO.out,HM6.out,HB6.out⟩
         case measure=>have:=HLT.out;simp [intOf];omega
       ·by_cases hal:T % 4 = 0
        ·have HLD:=Lib.hid (show ¬ (As.lead ps = true∧T % 4 ≠ 0) from fun e=>e.2 hal)
         have hrem:Int.tmod (T:Int) 4 = 0:=by rw [Int.tmod_eq_emod_of_nonneg (by omega)];omega
         have hrem2:(T:Int) % 4 = 0:=by omega
         go_wp2_with fail
         go_at_call 85
         refine CS.out.mono ?_
         rintro e w6 ⟨rfl,hb6⟩
         have HB6:=Lib.hid (show Below w0.heap.size w0 w6 from HB5.out.trans (hb6.mono HB5.out.size))
         have HM6:=Lib.hid (HM5.out.kept hb6)
         clear hb6
         by_cases hbig:131072 < here+As.size ps
         ·have HBAD:=Lib.hid (show As.first a 0 0 [] ls = .bad (k+1) 6 from by rw [HFW.out,if_neg HLD.out,if_pos hbig])
          have hbig':(131072:Int) < ((here+As.size ps:Nat):Int):=by omega
          go_wp2_with fail
          go_ret2
          exact As.FirstPost.bad HBAD.out (by simp) rfl HB6.out
         ·have HGO:=Lib.hid (show As.first a 0 0 [] ls = As.first a (k+1) (here+As.size ps) sy1 (ls.drop (k+1)) from by rw [HFW.out,if_neg HLD.out,if_neg hbig])
          have hbig':¬ (131072:Int) < ((here+As.size ps:Nat):Int):=by omega
          have HNB:=Lib.hid hbig
          go_wp2_with fail
          go_roundw
          case rel=>exact ⟨k+1,here+As.size ps,sy1,rfl,by simp,HLT.out,by have:=HNB.out;omega,HSY.out,HGO.out,HM6.out,HB6.out⟩
          case measure=>have:=HLT.out;simp [intOf];omega
        ·have HBAD:=Lib.hid (show As.first a 0 0 [] ls = .bad (k+1) 30 from by rw [HFW.out,if_pos ⟨HLDP.out,hal⟩])
         have hrem:(Int.tmod (T:Int) 4 != 0) = true:=by rw [bne_iff_ne,Int.tmod_eq_emod_of_nonneg (by omega)];omega
         have hrem2:((T:Int) % 4 != 0) = true:=by rw [bne_iff_ne];omega
         go_wp2_with fail
         go_ret2
         exact As.FirstPost.bad HBAD.out (by simp) rfl HB5.out
  ·obtain rfl:k = ls.length:=by omega
   have HEND:=Lib.hid (show As.first a 0 0 [] ls = .ok sy from by rw [HF.out,List.drop_length];rfl)
   go_wp2_with fail
   go_ret2
   rw [HEND.out]
   exact ⟨rfl,HM.out,HB.out⟩
theorem As.size_take_le (ps:List As.P) (m:Nat):As.size (ps.take m)≤As.size ps:=by
 have h:As.size ps = As.size (ps.take m)+As.size (ps.drop m):=by
  unfold As.size
  rw [← List.sum_append,← List.map_append,List.take_append_drop]
 omega
def As.SecondPost (w0:World) (gp:Nat) (vl:Value) (a:Nat) (sy:List (List UInt8 × Nat)) (r:As.R (List UInt8)) (e:Ending) (w':World):Prop:=
 match r with
 | .bad n er=>e = .returned (.tuple #[.int .i64 (n:Int),.int .i64 (er:Int)])∧Below w0.heap.size w0 w'
 | .ok b=>e = .returned (.tuple #[.int .i64 0,.int .i64 0])∧As.Ms w0.heap.size w' gp vl a b sy sy∧Below w0.heap.size w0 w'
theorem As.SecondPost.bad {w0 w':World} {gp:Nat} {vl:Value} {a:Nat} {sy:List (List UInt8 × Nat)} {r:As.R (List UInt8)} {n er:Nat} {i j:Int} (h:r = .bad n er) (hi:i = n) (hj:j = er) (hb:Below w0.heap.size w0 w'):As.SecondPost w0 gp vl a sy r (.returned (.tuple #[.int .i64 i,.int .i64 j])) w':=by
 subst h hi hj
 exact ⟨rfl,hb⟩
structure As.In2 (w0 w5 wr:World) (NB gp:Nat) (vl v5:Value) (a:Nat) (sy:List (List UInt8 × Nat)) (ps:List As.P) (bs:List UInt8) (m:Nat) (bm:List UInt8):Prop where
 le:m≤ps.length
 puts:As.puts sy a ps bs = As.puts sy a (ps.drop m) bm
 len:bm.length = bs.length+As.size (ps.take m)
 ms:∃ b vb vs,As.MsAt w0.heap.size wr gp b vl vb vs a bm sy sy∧∀ k,vb.ownBlock = some k→k < NB ∨ w5.heap.size≤k
 below:Below w0.heap.size w0 wr
 fr:Fr (fun k=>k < NB) w5 wr
set_option maxRecDepth 100000 in
set_option maxHeartbeats 16000000 in
theorem asecond_any {w0 w:World} {gp:Nat} {vl:Value} {ls:List L6.Line} {a:Nat} {sy:List (List UInt8 × Nat)} (hL:RdL w0 vl ls) (hT:L6.Tab w0) (hm:As.Ms w0.heap.size w gp vl a [] sy sy) (hb:Below w0.heap.size w0 w) (hls:ls.length≤40000) (hx:∀ x ∈ ls,As.LOk x) (ha:a < 4294967296) (hfirst:As.first a 0 0 [] ls = .ok sy) :
  Calls Tryz.prog 45 #[.pointer (some ⟨gp,0,none⟩)] w (As.SecondPost w0 gp vl a sy (As.second sy a 0 [] ls)):=by
 have HLOW:=Lib.hid (As.first_low (fun p hp=>by cases hp) hfirst)
 have HFI:=Lib.hid hfirst
 have HL:=Lib.hid hL
 have HT:=Lib.hid hT
 have HM:=Lib.hid hm
 have HB:=Lib.hid hb
 have HLL:=Lib.hid hls
 have HX:=Lib.hid hx
 obtain ⟨b,vb,vs,hat⟩:=hm.at
 have c0:=hat.seen.c0
 obtain ⟨A,c,rfl⟩:=hL.form
 clear hL hT hm hb hls hx hat hfirst
 go_enter Tryz.func45,Tryz.ntmps45
 go_wp2_with fail
 go_loopw [17] (fun i wr=>∃ (k:Nat) (bs:List UInt8) (syk:List (List UInt8 × Nat)),i = .int .i64 (k:Int)∧k≤ls.length∧bs.length≤131072∧As.first a k bs.length syk (ls.drop k) = .ok sy∧As.second sy a 0 [] ls = As.second sy a k bs (ls.drop k)∧As.Ms w0.heap.size wr gp (.slice A ls.length c) a bs sy sy∧Below w0.heap.size w0 wr) (fun i _=>ls.length - (intOf i).toNat)
 case atStart=>exact ⟨0,[],[],rfl,Nat.zero_le _,Nat.zero_le _,HFI.out,rfl,HM.out,HB.out⟩
 case round=>
  obtain ⟨k,bs,syk,rfl,hk,hbs,hfk,hsk,hm,hb⟩:=hrel
  have HF:=Lib.hid hfk
  have HS:=Lib.hid hsk
  have HM:=Lib.hid hm
  have HB:=Lib.hid hb
  clear hfk hsk hm hb
  by_cases hlt:k < ls.length
  ·have hlt':(k:Int) < (ls.length:Int):=by omega
   have hw1:IntKind.i64.wrap ((k:Int)+1) = (k:Int)+1:=by have:=HLL.out;rw [IntKind.wrap_i64];omega
   have HDR:=Lib.hid (show As.second sy a 0 [] ls = As.second sy a k bs (ls[k] :: ls.drop (k+1)) from by rw [HS.out,As.drop_cons hlt])
   have hf:=HF.out
   rw [As.drop_cons hlt] at hf
   obtain ⟨sy1,ps,hla,hps,hsz,hfn⟩:=As.first_step hf
   have HFN:=Lib.hid hfn
   have HSZ:=Lib.hid hsz
   obtain ⟨g,off,c',va1,va2,e,hg,d0,d1,d2,r1,r2⟩:=HL.out.at hlt
   injection e with e1 e2 e3
   subst e1 e3
   have HLT:=Lib.hid (show k+1≤ls.length from hlt)
   have HXK:=Lib.hid (HX.out _ (List.getElem_mem hlt))
   clear hf hla hsz hfn
   generalize ls[k] = X at *
   obtain ⟨xl,xw,xa⟩:=X
   obtain ⟨B1,cc1,rfl⟩:=r1.form
   obtain ⟨B2,cc2,rfl⟩:=r2.form
   dsimp only at d0 d1 d2 r1 r2
   have HSE:=Lib.hid (show As.second sy a k bs (⟨xl,xw,xa⟩ :: ls.drop (k+1)) = if (As.puts sy a ps bs).2 = 0 then As.second sy a (k+1) (As.puts sy a ps bs).1 (ls.drop (k+1)) else .bad (k+1) (As.puts sy a ps bs).2 from by
    conv=>lhs;unfold As.second
    rw [hps]
    rfl)
   have q0:wr.cell? ⟨g,off+k * 3,none⟩ = some (.slice B1 xl.length cc1):=(HB.out.cell (p:=⟨g,_,none⟩) hg).trans d0
   have q1:wr.cell? ⟨g,off+k * 3+1,none⟩ = some (.string ⟨xw.toArray⟩):=(HB.out.cell (p:=⟨g,_,none⟩) hg).trans d1
   have q2:wr.cell? ⟨g,off+k * 3+2,none⟩ = some (.slice B2 xa.length cc2):=(HB.out.cell (p:=⟨g,_,none⟩) hg).trans d2
   have HR2:=Lib.hid r2
   have hbk:=Bk.fresh wr 105 #[.slice B1 xl.length cc1,.string ⟨xw.toArray⟩,.slice B2 xa.length cc2]
   have hal:Below wr.heap.size wr (wr.alloc (.cells #[.slice B1 xl.length cc1,.string ⟨xw.toArray⟩,.slice B2 xa.length cc2] 105)):=(Below.refl _ _).alloc (Nat.le_refl _) _
   have HM1:=Lib.hid (HM.out.kept hal)
   have HB1:=Lib.hid (show Below w0.heap.size w0 (wr.alloc (.cells #[.slice B1 xl.length cc1,.string ⟨xw.toArray⟩,.slice B2 xa.length cc2] 105)) from HB.out.alloc HB.out.size _)
   have b0:=hbk.cell 0
   have b1:=hbk.cell 1
   have b2:=hbk.cell 2
   have hl32:IntKind.u32.wrap (bs.length:Int) = (bs.length:Int):=by rw [IntKind.wrap_u32];omega
   have hat32:IntKind.u32.wrap ((a:Int)+(bs.length:Int)) = ((As.at32 (a+bs.length):Nat):Int):=by unfold As.at32;rw [IntKind.wrap_u32];omega
   have HT32:=Lib.hid (show As.at32 (a+bs.length) < 4294967296 from by unfold As.at32;omega)
   have HOK:=Lib.hid (As.pieces_ok HXK.out.sa hps)
   have HWF:=Lib.hid (As.pieces_wf hps)
   have HCN:=Lib.hid (show ps.length≤1000002 from by have:=As.pieces_cnt hps;have h2:=HXK.out.al;dsimp only at this h2;omega)
   have HBS:=Lib.hid hbs
   have hbk1:=hbk
   clear d0 d1 d2 r1 r2 hbk hal hbs
   generalize hT32:As.at32 (a+bs.length) = T at *
   go_wp2_with fail
   obtain ⟨W1,hW1⟩:∃ W1,wr.alloc (.cells #[.slice B1 xl.length cc1,.string ⟨xw.toArray⟩,.slice B2 xa.length cc2] 105) = W1:=⟨_,rfl⟩
   rw [hW1] at HM1 HB1 b0 b1 b2 hbk1 ⊢
   clear hW1 q0 q1 q2
   generalize wr.heap.size = NW at *
   obtain ⟨b,vb,vs,hat⟩:=HM1.out.at
   have c1:=hat.seen.c1
   have c3:=hat.seen.c3
   have HAT:=Lib.hid hat
   obtain ⟨Ab,cb,rfl⟩:=(Rd.of_own hat.by_).form
   have CP:=Lib.hid (apieces_any (.slice B1 xl.length cc1) (.slice B2 xa.length cc2) ⟨xl,xw,xa⟩ T W1.drew (HR2.out.kept HB1.out.drew) (HT.out.kept HB1.out.drew) ⟨_,_,_,rfl⟩ (by have:=HXK.out.al;dsimp only at this ⊢;omega) HXK.out.sa HT32.out)
   rw [hps] at CP
   clear hat hps hT32
   have HBK1:=Lib.hid hbk1
   go_region_held3 (fun W'=>W'.cell? ⟨NW,0,none⟩ = some (.slice B1 xl.length cc1)∧W'.cell? ⟨NW,1,none⟩ = some (.string ⟨xw.toArray⟩)∧W'.cell? ⟨NW,2,none⟩ = some (.slice B2 xa.length cc2)∧W'.cell? ⟨gp,1,none⟩ = some (.int .u32 (a:Int))∧W'.cell? ⟨gp,3,none⟩ = some (.slice Ab bs.length cb)) (first | exact ⟨b0,b1,b2,c1,c3⟩ | exact ⟨z0,z1,z2,z3,z4⟩ | go_keep)
    ((go_at_call 84;refine CP.out.mono ?_;rintro e w5 ⟨v5,rfl,hr5,hb5⟩;have hk5:=HBK1.out.kept (w':=w5) ((Below.refl _ _).drew.trans hb5);have z0:=hk5.cell 0;have z1:=hk5.cell 1;have z2:=hk5.cell 2;have hm5:=HAT.out.kept (w':=w5) ((Below.refl _ _).drew.trans hb5);have z3:=hm5.seen.c1;have z4:=hm5.seen.c3;obtain ⟨A5,c5,rfl⟩:=hr5.form))
   have HR5:=Lib.hid hr5
   have HM5:=Lib.hid hm5
   have HB5:=Lib.hid (show Below w0.heap.size w0 w5 from HB1.out.drew.trans (hb5.mono HB1.out.size))
   have HNB:=Lib.hid (show W1.heap.size≤w5.heap.size from hb5.size)
   have HVB:=Lib.hid (fun k (hk:(Value.slice Ab bs.length cb).ownBlock = some k)=>own_lt' HAT.out.by_ hk)
   have HGP:=Lib.hid HAT.out.bk.lt
   have hdw:W1.drew.heap.size = W1.heap.size:=rfl
   rw [hdw] at HR5
   clear hr5 hb5 b0 b1 b2 c1 c3 hdw z0 z1 z2 z3 z4 hk5 hm5 hbk1
   generalize W1.heap.size = NB at *
   go_wp2_with fail
   go_loopw [41] (fun j wr=>∃ (m:Nat) (bm:List UInt8),j = .int .i64 (m:Int)∧As.In2 w0 w5 wr NB gp (.slice (some ⟨g,off,none⟩) ls.length c) (.slice A5 ps.length c5) a sy ps bs m bm) (fun j _=>ps.length - (intOf j).toNat)
   case atStart=>exact ⟨0,bs,rfl,⟨Nat.zero_le _,rfl,by simp [As.size],⟨b,_,vs,HM5.out,fun k hk=>.inl (HVB.out k hk)⟩,HB5.out,Fr.refl _ _⟩⟩
   case round=>
    obtain ⟨m,bm,rfl,hin⟩:=hrel
    have HIN:=Lib.hid hin
    obtain ⟨b,vb,vs,hat,hvb⟩:=hin.ms
    have HAT2:=Lib.hid hat
    have HVB2:=Lib.hid hvb
    have hmle:=hin.le
    clear hin hat hvb
    by_cases hlm:m < ps.length
    ·have hlm':(m:Int) < (ps.length:Int):=by omega
     have hw2:IntKind.i64.wrap ((m:Int)+1) = (m:Int)+1:=by have:=HCN.out;rw [IntKind.wrap_i64];omega
     have HLM:=Lib.hid (show m+1≤ps.length from hlm)
     have hrp:RdP NB wr (.slice A5 ps.length c5) ps:=HR5.out.fr HIN.out.fr (fun k h1 h2=>by omega)
     obtain ⟨g5,o5,c5',vbp,h5,hg5,hx2,hcs,hrd,hx4⟩:=hrp.at hlm
     injection h5 with h51 h52 h53
     subst h51 h53
     have HOKP:=Lib.hid (HOK.out _ (List.getElem_mem hlm))
     have HWFP:=Lib.hid (HWF.out _ (List.getElem_mem hlm))
     have HTAKE:=Lib.hid (As.size_take hlm)
     have HBML:=Lib.hid (show bm.length≤2000000000 from by
      have h1:=HIN.out.len
      have h2:=As.size_take_le ps m
      have h3:=HSZ.out
      omega)
     have HPUTS:=Lib.hid (show As.puts sy a ps bs = As.puts sy a (ps[m] :: ps.drop (m+1)) bm from HIN.out.puts.trans (congrArg (fun l=>As.puts sy a l bm) (As.drop_cons hlm)))
     obtain ⟨BB,cbb,rfl⟩:=hrd.form
     have HCS:=Lib.hid hcs
     have HG5:=Lib.hid hg5
     clear hcs hx2 hx4 hrp
     generalize ps[m] = p at *
     have HPL:=Lib.hid (fun (h:(As.piece sy p (As.at32 (a+bm.length))).2 = 0)=>As.piece_len HWFP.out h)
     have HPU:=Lib.hid (show As.puts sy a (p :: ps.drop (m+1)) bm = if (As.piece sy p (As.at32 (a+bm.length))).2 = 0 then As.puts sy a (ps.drop (m+1)) (bm ++ (As.piece sy p (As.at32 (a+bm.length))).1) else (bm,(As.piece sy p (As.at32 (a+bm.length))).2) from rfl)
     have CPC:=Lib.hid (fun (W:World) (hW:Below wr.heap.size wr W)=>apiece_any p (.slice BB p.bytes.length cbb) (show As.PIn w0.heap.size W gp b (.slice (some ⟨g,off,none⟩) ls.length c) vb vs a bm sy sy p (.slice BB p.bytes.length cbb) from ⟨HAT2.out.kept hW,hrd.kept hW,HOKP.out.inst,ha,HBML.out,Nat.le_trans HOKP.out.name (by decide),Nat.le_trans HOKP.out.src (by decide),fun s v hv=>HLOW.out.look hv⟩) HWFP.out)
     clear hrd
     obtain ⟨pc,⟨op,rd,rs1,rs2,imm⟩,pb,pk,pn,pf⟩:=p
     dsimp only at CPC
     have q0:=HCS.out 0 (by decide)
     have q1:=HCS.out 1 (by decide)
     have q2:=HCS.out 2 (by decide)
     have q3:=HCS.out 3 (by decide)
     have q4:=HCS.out 4 (by decide)
     have q5:=HCS.out 5 (by decide)
     have q6:=HCS.out 6 (by decide)
     have q7:=HCS.out 7 (by decide)
     have q8:=HCS.out 8 (by decide)
     have q9:=HCS.out 9 (by decide)
     simp only [As.cellsP,List.getElem?_cons_zero,List.getElem?_cons_succ,Nat.add_zero] at q0 q1 q2 q3 q4 q5 q6 q7 q8 q9
     have hbk:=Bk.fresh wr 176 #[.bool pc,.int .i64 op,.int .i64 rd,.int .i64 rs1,.int .i64 rs2,.int .i64 imm,.slice BB pb.length cbb,.int .i64 (pk:Int),.string ⟨pn.toArray⟩,.string ⟨pf.toArray⟩]
     have b0:=hbk.cell 0
     have b1:=hbk.cell 1
     have b2:=hbk.cell 2
     have b3:=hbk.cell 3
     have b4:=hbk.cell 4
     have b5:=hbk.cell 5
     have b6:=hbk.cell 6
     have b7:=hbk.cell 7
     have b8:=hbk.cell 8
     have b9:=hbk.cell 9
     have hal:Below wr.heap.size wr (wr.alloc (.cells #[.bool pc,.int .i64 op,.int .i64 rd,.int .i64 rs1,.int .i64 rs2,.int .i64 imm,.slice BB pb.length cbb,.int .i64 (pk:Int),.string ⟨pn.toArray⟩,.string ⟨pf.toArray⟩] 176)):=(Below.refl _ _).alloc (Nat.le_refl _) _
     have HAL:=Lib.hid hal
     have CPD:=Lib.hid (CPC.out _ hal)
     clear hbk hal
     generalize hP:As.piece sy ⟨pc,⟨op,rd,rs1,rs2,imm⟩,pb,pk,pn,pf⟩ (As.at32 (a+bm.length)) = PR at *
     obtain ⟨nb,er⟩:=PR
     dsimp only at HPL HPU
     go_wp2_with fail
     go_at_call 86
     refine CPD.out.mono ?_
     rintro e w6 ⟨vn,rfl,hrn,hb6⟩
     have HB6:=Lib.hid (HAL.out.trans (hb6.mono HAL.out.size))
     have HRN:=Lib.hid hrn
     clear hrn hb6 b0 b1 b2 b3 b4 b5 b6 b7 b8 b9 q0 q1 q2 q3 q4 q5 q6 q7 q8 q9
     dsimp only
     by_cases her:er = 0
     ·subst her
      have HNX:=Lib.hid (show As.puts sy a ps bs = As.puts sy a (ps.drop (m+1)) (bm ++ nb) from by rw [HPUTS.out,HPU.out,if_pos rfl])
      have HNL:=Lib.hid (HPL.out rfl)
      have hat6:=HAT2.out.kept HB6.out
      obtain ⟨Ab2,cb2,hvb2,ho1,hz1,hput⟩:=hat6.byteroom (Below.refl _ _) nb
      obtain ⟨An,cn,hvn⟩:=HRN.out.form
      subst hvn
      have c3:=hat6.seen.c3
      rw [hvb2] at c3
      have HO1:=Lib.hid ho1
      have HZ1:=Lib.hid hz1
      have HPUT:=Lib.hid hput
      have HS1:=Lib.hid (Rd.src abyt HRN.out (bv_one nb))
      have HLA1:=Lib.hid (show (bm.length+nb.length) * 1≤140737488355328∧bm.length+nb.length≤maxLen from by
       have h1:=HBML.out
       have h2:=HNL.out
       have h3:=HOKP.out.bytes
       unfold As.size1 at h2
       dsimp only at h2 h3
       unfold maxLen
       split at h2 <;> omega)
      have HV2:=Lib.hid hvb2
      clear hat6 ho1 hz1 hput hvb2
      go_wp2_with (at_builtin;refine wpList_appendRB rfl _ _ _ _ rfl abyt (by decide) w0.heap.size (.slice Ab2 bm.length cb2) rfl bm.length (bv bm) HO1.out _ rfl nb.length (bv nb) HS1.out HLA1.out.1 HLA1.out.2 HZ1.out ?_;intro v7 w7 ho7 hb7 hg7 hv7;obtain ⟨⟨A7,c7,rfl⟩,k7,f7,HQ⟩:=HPUT.out v7 w7 ho7 hg7 hv7)
      go_roundw
      case rel=>
       refine ⟨m+1,bm ++ nb,by simp,⟨HLM.out,HNX.out,?_,⟨b,_,vs,HQ.out.1,fun k hk=>?_⟩,HIN.out.below.trans (HB6.out.mono HIN.out.below.size |>.trans HQ.out.2.2.2),?_⟩⟩
       ·rw [List.length_append,HTAKE.out,HIN.out.len,HNL.out];omega
       ·rcases HQ.out.2.2.1 k hk with h | h
        ·exact HVB2.out k h
        ·exact .inr (Nat.le_trans (Nat.le_trans HIN.out.fr.size HB6.out.size) h)
       ·refine (HIN.out.fr.trans (Fr.of_below (F:=fun _=>False) HB6.out) (fun k hk=>hk.elim)).trans HQ.out.2.1 (fun k hk=>?_)
        rcases hk with hk | hk
        ·exact .inl (by rw [hk];exact HGP.out)
        ·exact HVB2.out k hk
      case measure=>have:=HLM.out;simp [intOf];omega
     ·have hne:(((er:Nat):Int) != 0) = true:=by rw [bne_iff_ne];omega
      have HBAD:=Lib.hid (show As.second sy a 0 [] ls = .bad (k+1) er from by
       rw [HDR.out,HSE.out,HPUTS.out,HPU.out,if_neg her]
       dsimp only
       rw [if_neg her])
      go_wp2_with fail
      go_ret2
      exact As.SecondPost.bad HBAD.out (by simp) rfl (HIN.out.below.trans (HB6.out.mono HIN.out.below.size))
    ·obtain rfl:m = ps.length:=by omega
     have hpu:=HIN.out.puts
     rw [List.drop_length] at hpu
     have HPE:=Lib.hid (show As.puts sy a ps bs = (bm,0) from hpu)
     have hln:=HIN.out.len
     rw [List.take_length] at hln
     have HLN:=Lib.hid hln
     have HGO:=Lib.hid (show As.second sy a 0 [] ls = As.second sy a (k+1) bm (ls.drop (k+1)) from by rw [HDR.out,HSE.out,HPE.out,if_pos rfl])
     clear hpu hln
     go_wp2_with fail
     go_roundw
     case rel=>exact ⟨k+1,bm,sy1,by simp,HLT.out,by rw [HLN.out];exact HSZ.out,by rw [HLN.out];exact HFN.out,HGO.out,HAT2.out.ms,HIN.out.below⟩
     case measure=>have:=HLT.out;simp [intOf];omega
  ·obtain rfl:k = ls.length:=by omega
   have HEND:=Lib.hid (show As.second sy a 0 [] ls = .ok bs from by rw [HS.out,List.drop_length];rfl)
   go_wp2_with fail
   go_ret2
   rw [HEND.out]
   exact ⟨rfl,HM.out,HB.out⟩
theorem As.symC_one (sy:List (List UInt8 × Nat)):∀ u ∈ As.symC sy,u.oneCell' = true:=by
 intro u hu
 unfold As.symC at hu
 obtain ⟨p,_,hu⟩:=List.mem_flatMap.1 hu
 simp only [List.mem_cons,List.not_mem_nil,or_false] at hu
 rcases hu with rfl | rfl <;> rfl
theorem aclone_any (v:Value) (n:Nat) (xs:List Value) (w:World) (h:Rd w 2 v n xs) (hn:n≤5000000000) (h1:∀ u ∈ xs,u.oneCell' = true) :
  Calls Tryz.prog 46 #[v] w fun e w'=>∃ v',e = .returned v'∧Rd w' 2 v' n xs∧(∀ g,g < w.heap.size→Off v' g)∧Below w.heap.size w w':=by
 have hq:∀ (w:World) (a:Option Addr) (n c:Nat),(binOp .eql 27 (.slice a n c) (.slice none 0 0)).run Tryz.prog w = .ok (.bool a.isNone) w:=fun w a n c=>Lib.run_eql_slice_nil w _ _ a n c 0 0 Tryz.underlying27
 obtain ⟨A,c,rfl⟩:=h.form
 cases A with
 | none=>
  have h0:n = 0:=by
   obtain ⟨_,A,c,e,_,_,h4⟩:=h
   rcases Nat.eq_zero_or_pos n with h0 | h0
   ·exact h0
   ·obtain ⟨g,off,hA,_⟩:=h4 h0
    injection e with e;subst e;cases hA
  obtain ⟨hl,_⟩:=h
  subst h0
  obtain rfl:xs = []:=List.eq_nil_of_length_eq_zero (by simpa using hl)
  go_enter Tryz.func46,Tryz.ntmps46
  go_wp2
  go_ret
  exact ⟨_,rfl,Rd.nil _ _,fun g _ k off n c e=>by simp at e,Below.refl _ _⟩
 | some a=>
  have hs:=Lib.hid (fun W hb=>Rd.src asyt (Rd.kept h (w':=W) hb) h1)
  have hb1:=Lib.hid ((Below.refl w.heap.size w).alloc (Nat.le_refl _) (.cells #[] 97))
  clear h h1
  go_enter Tryz.func46,Tryz.ntmps46
  go_wp2_with (at_builtin;refine wpList_append_new rfl _ _ _ _ rfl asyt (by decide) _ rfl _ rfl n xs (hs.out _ hb1.out) (by unfold maxLen;omega) (by omega) ?_;intro v3 w3 hr3 hb3 ho3 h03)
  go_ret
  refine ⟨v3,rfl,hr3,fun g hg=>?_,hb1.out.trans (hb3.mono (by simp))⟩
  intro k off n' c' e hn'
  by_cases h0:0 < n
  ·have:=ho3 h0
   rcases this.2 with ⟨_,hn0⟩ | ⟨g',cap,cur,e',hge,_⟩
   ·omega
   ·rw [e'] at e
    simp at e
    simp at hge
    omega
  ·have:=(h03 (by omega)).1
   rw [this] at e
   simp at e
   omega
theorem As.first_cnt {a:Nat}:∀ {l:List L6.Line} {i here:Nat} {sy sy2:List (List UInt8 × Nat)},(∀ x ∈ l,x.labels.length≤100000)→As.first a i here sy l = .ok sy2→sy2.length≤sy.length+l.length * 100000
 | [],i,here,sy,sy2,hx,e=>by injection e with e;subst e;simp
 | x :: r,i,here,sy,sy2,hx,e=>by
  obtain ⟨sy1,p,h1,_,_,h2⟩:=As.first_step e
  have h3:=As.first_cnt (fun y hy=>hx y (by simp [hy])) h2
  have h4:=As.labels_len h1
  have h5:=hx x (by simp)
  rw [List.length_cons]
  omega
def As.From (B:Nat) (v:Value):Prop:=∀ g off n c,v = .slice (some ⟨g,off,none⟩) n c→0 < n→B≤g
theorem As.From.nil (B:Nat):As.From B (.slice none 0 0):=fun g off n c e hn=>by cases e
theorem As.From.off {B g:Nat} {v:Value} (h:As.From B v) (hg:g < B):Off v g:=fun k off n c e hn=>by have:=h k off n c e hn;omega
theorem As.From.mono {B B':Nat} {v:Value} (h:As.From B v) (hb:B'≤B):As.From B' v:=fun g off n c e hn=>Nat.le_trans hb (h g off n c e hn)
theorem As.From.own {w:World} {B:Nat} {e:TypeId} {size:Nat} {v:Value} {n:Nat} {xs:List Value} (h:w.ownsRow B e size v n xs):As.From B v:=fun g off n' c e' hn=>by
 rcases h.2 with ⟨rfl,_⟩ | ⟨g',cap,cur,rfl,hB,_⟩
 ·cases e'
 ·injection e' with e1 _ _
  injection e1 with e1
  injection e1 with e1 _
  rw [← e1];exact hB
def As.AsmPost (w:World) (r:As.O) (e:Ending) (w':World):Prop:=
 ∃ vb vs,e = .returned (.tuple #[.agg #[vb,vs],.int .i64 (r.line:Int),.int .i64 (r.err:Int)])∧Rd w' 1 vb r.bytes.length (bv r.bytes)∧Rd w' 2 vs r.syms.length (As.symC r.syms)∧As.From w.heap.size vb∧As.From w.heap.size vs∧Below w.heap.size w w'
theorem As.AsmPost.bad {w w':World} {r:As.O} {n er:Nat} {i j:Int} (h:r = ⟨[],[],n,er⟩) (hi:i = n) (hj:j = er) (hb:Below w.heap.size w w'):As.AsmPost w r (.returned (.tuple #[.agg #[.slice none 0 0,.slice none 0 0],.int .i64 i,.int .i64 j])) w':=by
 subst h hi hj
 exact ⟨_,_,rfl,Rd.nil _ _,Rd.nil _ _,As.From.nil _,As.From.nil _,hb⟩
set_option maxRecDepth 100000 in
set_option maxHeartbeats 16000000 in
theorem aassemble_any {w:World} (vl:Value) (ls:List L6.Line) (a:Nat) (hL:RdL w vl ls) (hT:L6.Tab w) (hls:ls.length≤1000000000) (hx:∀ x ∈ ls,As.LOk x) (ha:a < 4294967296) :
  Calls Tryz.prog 11 #[vl,.int .u32 (a:Int)] w (As.AsmPost w (As.assemble ls a)):=by
 obtain ⟨A,c,rfl⟩:=hL.form
 have hal:Below w.heap.size w (w.alloc (.cells #[.slice none 0 0,.slice none 0 0] 29)):=(Below.refl _ _).alloc (Nat.le_refl _) _
 have hbk:=Bk.fresh w 29 #[.slice none 0 0,.slice none 0 0]
 have HBK:=Lib.hid hbk
 have HAL:=Lib.hid hal
 have hrem:Int.tmod (a:Int) 4 = ((a % 4:Nat):Int):=by rw [Int.tmod_eq_emod_of_nonneg (by omega)];omega
 have b0:=hbk.cell 0
 have b1:=hbk.cell 1
 have f0:=hbk.free 0
 have f1:=hbk.free 1
 have HSTO:=Lib.hid (fun (W:World) (hW:Bk W w.heap.size 29 #[.slice none 0 0,.slice none 0 0]) (u1 u2:Value)=>show Below w.heap.size W ((W.setCell ⟨w.heap.size,0,none⟩ u1).setCell ⟨w.heap.size,1,none⟩ u2) from ((Below.refl w.heap.size W).setCell (Nat.le_refl _) u1).setCell (Nat.le_refl _) u2)
 by_cases hn:32768 < ls.length
 ·have HP:=Lib.hid (show As.assemble ls a = ⟨[],[],0,6⟩ from by unfold As.assemble;rw [if_pos (.inl hn)])
  have hn':(32768:Int) < (ls.length:Int):=by omega
  clear hbk hal hL hT hls hx hn
  go_enter Tryz.func11,Tryz.ntmps11
  go_wp2_with fail
  refine bodyPost_ret (v:=.tuple #[.agg #[.slice none 0 0,.slice none 0 0],.int .i64 0,.int .i64 6]) (by simp [results,Tryz.results11,go_sem,b0,b1]) rfl ?_
  exact As.AsmPost.bad HP.out rfl rfl HAL.out
 ·have hn':¬ (32768:Int) < (ls.length:Int):=by omega
  by_cases hm:a % 4 = 0
  ·have hr1:Int.tmod (a:Int) 4 = 0:=by rw [hrem];omega
   have hr2:(a:Int) % 4 = 0:=by omega
   have HP:=Lib.hid (show As.assemble ls a = As.passes ls a from by unfold As.assemble;rw [if_neg (by omega)])
   have hsz1:(w.alloc (.cells #[.slice none 0 0,.slice none 0 0] 29)).heap.size = w.heap.size+1:=by simp
   obtain ⟨w1,hw1⟩:∃ w1,w.alloc (.cells #[.slice none 0 0,.slice none 0 0] 29) = w1:=⟨_,rfl⟩
   have hal1:Below w.heap.size w w1:=by rw [← hw1];exact hal
   have hsz1':w1.heap.size = w.heap.size+1:=by rw [← hw1];exact hsz1
   have hbk1:Bk w1 w.heap.size 29 #[.slice none 0 0,.slice none 0 0]:=by rw [← hw1];exact hbk
   have hb2:Below w1.heap.size w1 ((w1.alloc (.map #[] 0)).alloc (.cells #[.slice A ls.length c,.int .u32 (a:Int),.map (some w1.heap.size),.slice none 0 0,.slice none 0 0] 101)):=((Below.refl _ _).alloc (Nat.le_refl _) _).alloc (by simp) _
   have hms:As.Ms w1.heap.size ((w1.alloc (.map #[] 0)).alloc (.cells #[.slice A ls.length c,.int .u32 (a:Int),.map (some w1.heap.size),.slice none 0 0,.slice none 0 0] 101)) (w1.heap.size+1) (.slice A ls.length c) a [] [] []:=by
    have hf:=Bk.fresh (w1.alloc (.map #[] 0)) 101 #[.slice A ls.length c,.int .u32 (a:Int),.map (some w1.heap.size),.slice none 0 0,.slice none 0 0]
    rw [World.size_alloc] at hf
    exact ⟨⟨w1.heap.size,.slice none 0 0,.slice none 0 0,hf,(As.MapIs.made w1).kept ((Below.refl _ _).alloc (Nat.le_refl _) _),Nat.le_refl _,World.ownsRow_nil _ _ _ _,World.ownsRow_nil _ _ _ _⟩,Nat.le_succ _,by simp;omega⟩
   have hL1:=hL.kept hal1
   have hT1:=hT.kept hal1
   obtain ⟨W2,hW2⟩:∃ W2,(w1.alloc (.map #[] 0)).alloc (.cells #[.slice A ls.length c,.int .u32 (a:Int),.map (some (w.heap.size+1)),.slice none 0 0,.slice none 0 0] 101) = W2:=⟨_,rfl⟩
   have hms2:As.Ms w1.heap.size W2 (w.heap.size+1+1) (.slice A ls.length c) a [] [] []:=by rw [← hW2,← hsz1'];exact hms
   have hb22:Below w1.heap.size w1 W2:=by rw [← hW2,← hsz1'];exact hb2
   have hcf:=afirst_any (w0:=w1) hL1 hT1 hms2 hb22 (by omega) hx ha
   have HX:=Lib.hid hx
   have HL1:=Lib.hid hL1
   have HT1:=Lib.hid hT1
   have HAL1:=Lib.hid hal1
   have HBK1:=Lib.hid hbk1
   have HSZ1:=Lib.hid (show w.heap.size < w1.heap.size from by omega)
   have HLS:=Lib.hid (show ls.length≤32768 from by omega)
   have hmm:=@run_makeMap Tryz.prog
   clear hbk hal hL hT hls hn hsz1 hal1 hbk1 hb2 hms hms2 hb22 hL1 hT1 hrem
   cases hf:As.first a 0 0 [] ls with
   | bad n er=>
    rw [hf] at hcf
    have HF:=Lib.hid hcf
    have HPB:=Lib.hid (show As.assemble ls a = ⟨[],[],n,er⟩ from by rw [HP.out];unfold As.passes;rw [hf])
    have he0:er ≠ 0:=fun e=>by subst e;exact As.first_err hf
    have hne:(((er:Nat):Int) == 0) = false:=by rw [beq_eq_false_iff_ne];omega
    have hne2:(((er:Nat):Int) != 0) = true:=by rw [bne_iff_ne];omega
    clear hcf hf he0 hx
    go_enter Tryz.func11,Tryz.ntmps11
    go_wp2_with fail
    go_at_call 44
    refine HF.out.mono ?_
    rintro e w3 ⟨rfl,hb3⟩
    have hk3:Bk w3 w.heap.size 29 _:=HBK1.out.below hb3 HSZ1.out
    have d0:=hk3.cell 0
    have d1:=hk3.cell 1
    have g0:=hk3.free 0
    have g1:=hk3.free 1
    have HB3:=Lib.hid (show Below w.heap.size w w3 from HAL1.out.trans (hb3.mono (Nat.le_of_lt HSZ1.out)))
    clear hb3 hk3 hW2 hw1
    go_wp2_with fail
    refine bodyPost_ret (v:=.tuple #[.agg #[.slice none 0 0,.slice none 0 0],.int .i64 (n:Int),.int .i64 (er:Int)]) (by simp [results,Tryz.results11,go_sem,d0,d1]) rfl ?_
    exact As.AsmPost.bad HPB.out rfl rfl ((HB3.out.setCell (Nat.le_refl _) _).setCell (Nat.le_refl _) _)
   | ok sy=>
    rw [hf] at hcf
    have HF:=Lib.hid hcf
    have HSE:=Lib.hid (fun (w3:World) (hms:As.Ms w1.heap.size w3 (w.heap.size+1+1) (.slice A ls.length c) a [] sy sy) (hb:Below w1.heap.size w1 w3)=>asecond_any (w0:=w1) HL1.out HT1.out hms hb (by have:=HLS.out;omega) HX.out ha hf)
    have HCN:=Lib.hid (show sy.length≤5000000000 from by have h1:=As.first_cnt (fun x h=>(HX.out x h).ll) hf;have h2:=HLS.out;simp at h1;omega)
    cases hs:As.second sy a 0 [] ls with
    | bad n er=>
     rw [hs] at HSE
     have HPB:=Lib.hid (show As.assemble ls a = ⟨[],[],n,er⟩ from by rw [HP.out];unfold As.passes;rw [hf];dsimp only;rw [hs])
     have he0:er ≠ 0:=fun e=>by subst e;exact As.second_err hs
     have hne:(((er:Nat):Int) == 0) = false:=by rw [beq_eq_false_iff_ne];omega
     have hne2:(((er:Nat):Int) != 0) = true:=by rw [bne_iff_ne];omega
     clear hcf hf hs he0 hx
     go_enter Tryz.func11,Tryz.ntmps11
     go_wp2_with fail
     go_at_call 44
     refine HF.out.mono ?_
     rintro e w3 ⟨rfl,hm3,hb3⟩
     have HM3:=Lib.hid hm3
     have HBB3:=Lib.hid hb3
     clear hm3 hb3 hW2 hw1
     go_wp2_with fail
     go_at_call 45
     refine (HSE.out _ HM3.out HBB3.out).mono ?_
     rintro e w4 ⟨rfl,hb3⟩
     have hk3:Bk w4 w.heap.size 29 _:=HBK1.out.below hb3 HSZ1.out
     have d0:=hk3.cell 0
     have d1:=hk3.cell 1
     have g0:=hk3.free 0
     have g1:=hk3.free 1
     have HB3:=Lib.hid (show Below w.heap.size w w4 from HAL1.out.trans (hb3.mono (Nat.le_of_lt HSZ1.out)))
     clear hb3 hk3
     go_wp2_with fail
     refine bodyPost_ret (v:=.tuple #[.agg #[.slice none 0 0,.slice none 0 0],.int .i64 (n:Int),.int .i64 (er:Int)]) (by simp [results,Tryz.results11,go_sem,d0,d1]) rfl ?_
     exact As.AsmPost.bad HPB.out rfl rfl ((HB3.out.setCell (Nat.le_refl _) _).setCell (Nat.le_refl _) _)
    | ok bs=>
     rw [hs] at HSE
     have HPG:=Lib.hid (show As.assemble ls a = ⟨bs,sy,0,0⟩ from by rw [HP.out];unfold As.passes;rw [hf];dsimp only;rw [hs])
     clear hcf hf hs hx
     go_enter Tryz.func11,Tryz.ntmps11
     go_wp2_with fail
     go_at_call 44
     refine HF.out.mono ?_
     rintro e w3 ⟨rfl,hm3,hb3⟩
     have HM3:=Lib.hid hm3
     have HBB3:=Lib.hid hb3
     clear hm3 hb3 hW2 hw1
     go_wp2_with fail
     go_at_call 45
     refine (HSE.out _ HM3.out HBB3.out).mono ?_
     rintro e w4 ⟨rfl,hm4,hb4⟩
     obtain ⟨b,vb,vs,hat⟩:=hm4.at
     have HAT:=Lib.hid hat
     obtain ⟨Ab,cb,rfl⟩:=(Rd.of_own hat.by_).form
     obtain ⟨As_,cs_,rfl⟩:=(Rd.of_own hat.sy).form
     have hk3:Bk w4 w.heap.size 29 _:=HBK1.out.below hb4 HSZ1.out
     have HK3:=Lib.hid hk3
     have HB4:=Lib.hid (show Below w.heap.size w w4 from HAL1.out.trans (hb4.mono (Nat.le_of_lt HSZ1.out)))
     have c3:=hat.seen.c3
     have c4:=hat.seen.c4
     have d0:=hk3.cell 0
     have d1:=hk3.cell 1
     have g0:=hk3.free 0
     have g1:=hk3.free 1
     have CC:=Lib.hid (aclone_any _ _ _ w4.drew (show Rd w4.drew 2 (.slice As_ sy.length cs_) sy.length (As.symC sy) from Rd.of_own hat.sy) HCN.out (As.symC_one sy))
     clear hm4 hb4 hk3 hat
     go_wp2_with fail
     go_region_held3 (fun W'=>W'.cell? ⟨w.heap.size+1+1,3,none⟩ = some (.slice Ab bs.length cb)∧W'.cell? ⟨w.heap.size+1+1,4,none⟩ = some (.slice As_ sy.length cs_)) (first | exact ⟨c3,c4⟩ | exact ⟨z3,z4⟩ | (constructor <;> (go_simp;first | done | assumption)) | go_keep)
      ((go_at_call 46;refine CC.out.mono ?_;rintro e w5 ⟨v5,rfl,hr5,hof5,hb5⟩;have hm5:=HAT.out.kept (w':=w5) ((Below.refl _ _).drew.trans hb5);have z3:=hm5.seen.c3;have z4:=hm5.seen.c4;have hk5:=HK3.out.kept (w':=w5) ((Below.refl _ _).drew.trans hb5);have y0:=hk5.cell 0;have y1:=hk5.cell 1;have x0:=hk5.free 0;have x1:=hk5.free 1;obtain ⟨A5,c5,rfl⟩:=hr5.form))
     have HK5:=Lib.hid hk5
     have HM5:=Lib.hid hm5
     have HR5:=Lib.hid hr5
     have HOFF:=Lib.hid (hof5 w.heap.size HK3.out.lt)
     have HFS:=Lib.hid (show As.From w.heap.size (.slice A5 sy.length c5) from fun g off n c e hn=>by
      rcases Nat.lt_or_ge g w.heap.size with h | h
      ·exact absurd rfl (hof5 g (Nat.lt_of_lt_of_le h HB4.out.size) g off n c e hn)
      ·exact h)
     have HB5:=Lib.hid (show Below w.heap.size w w5 from HB4.out.trans (((Below.refl w4.heap.size w4).drew.trans hb5).mono HB4.out.size))
     clear hk5 hm5 hr5 hb5 hof5 y0 y1 x0 x1 z3 z4 d0 d1 g0 g1 c3 c4
     go_wp2_with fail
     have hkk:=(HK5.out.set 0 (.slice Ab bs.length cb)).set 1 (.slice A5 sy.length c5)
     have p0:=hkk.cell 0
     have p1:=hkk.cell 1
     refine bodyPost_ret (v:=.tuple #[.agg #[.slice Ab bs.length cb,.slice A5 sy.length c5],.int .i64 0,.int .i64 0]) (by simp [results,Tryz.results11,go_sem,p0,p1]) rfl ?_
     rw [HPG.out]
     have t1:=But.setCell w5 w.heap.size 0 (.slice Ab bs.length cb)
     have t2:=But.setCell (w5.setCell ⟨w.heap.size,0,none⟩ (.slice Ab bs.length cb)) w.heap.size 1 (.slice A5 sy.length c5)
     have hby:=own_but (own_but HM5.out.by_ HK5.out (by decide) t1) (HK5.out.set 0 (.slice Ab bs.length cb)) (by decide) t2
     refine ⟨_,_,rfl,Rd.of_own hby,?_,(As.From.own hby).mono (Nat.le_of_lt HSZ1.out),HFS.out,(HB5.out.setCell (Nat.le_refl _) _).setCell (Nat.le_refl _) _⟩
     exact (HR5.out.but t1 HOFF.out).but t2 HOFF.out
  ·obtain ⟨r,hr⟩:∃ r,a % 4 = r:=⟨_,rfl⟩
   rw [hr] at hrem hm
   have hr2:(a:Int) % 4 = (r:Int):=by omega
   have hr0:((r:Int) != 0) = true:=by rw [bne_iff_ne];omega
   have HP:=Lib.hid (show As.assemble ls a = ⟨[],[],0,6⟩ from by unfold As.assemble;rw [if_pos (.inr (by omega))])
   clear hbk hal hL hT hls hx hn hr
   go_enter Tryz.func11,Tryz.ntmps11
   go_wp2_with fail
   refine bodyPost_ret (v:=.tuple #[.agg #[.slice none 0 0,.slice none 0 0],.int .i64 0,.int .i64 6]) (by simp [results,Tryz.results11,go_sem,b0,b1]) rfl ?_
   exact As.AsmPost.bad HP.out rfl rfl HAL.out
end Go.Proofs.YtpcpaoeajcjoiaaGreatDoor
