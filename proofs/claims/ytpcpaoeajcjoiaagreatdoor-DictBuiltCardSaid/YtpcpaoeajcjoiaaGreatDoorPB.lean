/- Texts joined, what is not reached left out. -/
import Derived.Test.YtpcpaoeajcjoiaaGreatDoorPA
import Derived.Test.YtpcpaoeajcjoiaaGreatDoorLT
import Derived.Lib.AppendZeros
set_option linter.unusedVariables false
set_option linter.unusedSimpArgs false
namespace Go.Proofs.YtpcpaoeajcjoiaaGreatDoor
open Go.RowKit Kit
def Im.argsN (x:L6.Line) (n:Nat) (name:Bool):Nat:=if x.args.length ≠ n then 40 else if (name && !Nm.right (x.args.headD [])) = true then 41 else 0
theorem Im.headD_getD (l:List (List UInt8)):l.headD [] = l.getD 0 []:=by cases l <;> rfl
theorem Im.boxed (w:World) (vl va:Value) (x:L6.Line):Below w.heap.size w (w.alloc (.cells #[vl,.string ⟨x.word.toArray⟩,va] 105)):=(Below.refl _ _).alloc (Nat.le_refl _) _
set_option maxRecDepth 20000 in
set_option maxHeartbeats 4000000 in
theorem iargs_any (vl va:Value) (x:L6.Line) (w:World) (hl:RdS w vl x.labels) (ha:RdS w va x.args) (n:Nat) (name:Bool) (hn:n = 1 ∨ n = 2) (hs:∀ a ∈ x.args,a.length≤maxLen) (hc:x.args.length≤maxLen) :
  Calls Tryz.prog 104 #[.agg #[vl,.string ⟨x.word.toArray⟩,va],.int .i64 (n:Int),.bool name] w fun e w'=>e = .returned (.int .i64 (Im.argsN x n name:Nat))∧Below w.heap.size w w':=by
 have HL0:=Lib.hid ha
 have HB:=Lib.hid (Im.boxed w vl va x)
 obtain ⟨A1,k1,rfl⟩:=hl.form
 obtain ⟨A2,k2,rfl⟩:=ha.form
 by_cases h1:x.args.length = n
 ·have hpos:0 < x.args.length:=by omega
  obtain ⟨g,off,c,he,hg,hc0⟩:=ha.at (k:=0) hpos
  rw [Nat.add_zero] at hc0
  injection he with e1 _ e3
  subst e1 e3
  have HK:=Lib.hid (fun W (hW:Below w.heap.size w W)=>(hW.cell (p:=⟨g,off,none⟩) hg).trans hc0)
  have k0:=HK.out _ HB.out
  have CR:=Lib.hid (fun W=>xright_own ⟨(x.args.getD 0 []).toArray⟩ W (by
   show (x.args.getD 0 []).length≤maxLen
   rw [List.getD_eq_getElem?_getD,List.getElem?_eq_getElem hpos,Option.getD_some]
   exact hs _ (List.getElem_mem _)))
  have HV:=Lib.hid (show Im.argsN x n name = if (name && !Nm.right (x.args.getD 0 [])) = true then 41 else 0 by
   unfold Im.argsN;rw [if_neg (by omega),Im.headD_getD])
  have hii:¬ (x.args.length:Int)≤0:=by omega
  have hneq:((x.args.length:Int) != (n:Int)) = false:=by simp;omega
  have hx:(x.args.length:Int) = (n:Int):=by omega
  cases name
  ·clear ha hl hs h1
   go_enter Tryz.func104,Tryz.ntmps104
   go_wp2_with fail
   go_ret
   exact ⟨by rw [HV.out];rfl,HB.out⟩
  ·clear ha hl hs h1
   generalize x.args.getD 0 [] = a0 at *
   have HRR:=Lib.hid (show Nm.right (⟨a0.toArray⟩:ByteArray).data.toList = Nm.right a0 from rfl)
   rw [HRR.out] at CR
   generalize Nm.right a0 = rr at *
   clear HRR
   cases rr
   ·go_enter Tryz.func104,Tryz.ntmps104
    go_wp2_with (go_at_call 59;refine (CR.out _).mono ?_;rintro e w' ⟨rfl,rfl⟩)
    go_ret
    exact ⟨by rw [HV.out];rfl,HB.out⟩
   ·go_enter Tryz.func104,Tryz.ntmps104
    go_wp2_with (go_at_call 59;refine (CR.out _).mono ?_;rintro e w' ⟨rfl,rfl⟩)
    go_ret
    exact ⟨by rw [HV.out];rfl,HB.out⟩
 ·have HV:=Lib.hid (show Im.argsN x n name = 40 from if_pos h1)
  have hne:¬ ((x.args.length:Int) = (n:Int)):=by omega
  have hne2:((x.args.length:Int) != (n:Int)) = true:=by simpa using hne
  clear ha hl hs h1
  go_enter Tryz.func104,Tryz.ntmps104
  go_wp2_with fail
  go_ret
  exact ⟨by rw [HV.out];rfl,HB.out⟩
set_option maxRecDepth 20000 in
set_option maxHeartbeats 4000000 in
theorem iflags_any (vl va:Value) (x:L6.Line) (w:World) (hl:RdS w vl x.labels) (ha:RdS w va x.args) (hs:∀ a ∈ x.args,a.length≤maxLen) (hc:x.args.length≤maxLen) :
  Calls Tryz.prog 106 #[.agg #[vl,.string ⟨x.word.toArray⟩,va]] w fun e w'=>e = .returned (.bool (Im.flags x))∧Below w.heap.size w w':=by
 have HL0:=Lib.hid ha
 have HB:=Lib.hid (Im.boxed w vl va x)
 obtain ⟨A1,k1,rfl⟩:=hl.form
 obtain ⟨A2,k2,rfl⟩:=ha.form
 by_cases h1:x.args.length = 2
 ·have hpos:1 < x.args.length:=by omega
  obtain ⟨g,off,c,he,hg,hc0⟩:=ha.at (k:=1) hpos
  injection he with e1 _ e3
  subst e1 e3
  have HK:=Lib.hid (fun W (hW:Below w.heap.size w W)=>(hW.cell (p:=⟨g,off+1,none⟩) hg).trans hc0)
  have k0:=HK.out _ HB.out
  have CR:=Lib.hid (fun W=>lnumber_any (x.args.getD 1 []) W (by
   rw [List.getD_eq_getElem?_getD,List.getElem?_eq_getElem hpos,Option.getD_some]
   exact hs _ (List.getElem_mem _)))
  have HV:=Lib.hid (show Im.flags x = ((L6.number (x.args.getD 1 [])).2 && (decide (0≤(L6.number (x.args.getD 1 [])).1) && decide ((L6.number (x.args.getD 1 [])).1≤15))) by
   unfold Im.flags;rw [h1,show decide ((2:Nat) = 2) = true from rfl,Bool.true_and])
  have hii:¬ (x.args.length:Int)≤1:=by omega
  have hneq:((x.args.length:Int) != 2) = false:=by simp;omega
  have hx:(x.args.length:Int) = 2:=by omega
  clear ha hl hs h1 hneq hc
  generalize x.args.getD 1 [] = a1 at *
  generalize L6.number a1 = nn at *
  obtain ⟨n,ok⟩:=nn
  dsimp only at *
  cases ok
  ·go_enter Tryz.func106,Tryz.ntmps106
   go_wp2_with (go_at_call 167;refine (CR.out _).mono ?_;rintro e w' ⟨rfl,rfl⟩)
   go_ret
   exact ⟨by rw [HV.out];rfl,HB.out⟩
  ·by_cases h0:0≤n
   ·have h0':¬ n < 0:=by omega
    go_enter Tryz.func106,Tryz.ntmps106
    go_wp2_with (go_at_call 167;refine (CR.out _).mono ?_;rintro e w' ⟨rfl,rfl⟩)
    go_ret
    exact ⟨by rw [HV.out];simp [h0],HB.out⟩
   ·have h0':n < 0:=by omega
    have HV2:=Lib.hid (show Im.flags x = false by rw [HV.out];simp;omega)
    go_enter Tryz.func106,Tryz.ntmps106
    go_wp2_with (go_at_call 167;refine (CR.out _).mono ?_;rintro e w' ⟨rfl,rfl⟩)
    go_ret
    exact ⟨by rw [HV2.out];rfl,HB.out⟩
 ·have HV:=Lib.hid (show Im.flags x = false by unfold Im.flags;simp [h1])
  have hne:¬ ((x.args.length:Int) = 2):=by omega
  have hne2:((x.args.length:Int) != 2) = true:=by simpa using hne
  clear ha hl hs h1
  go_enter Tryz.func106,Tryz.ntmps106
  go_wp2_with fail
  go_ret
  exact ⟨by rw [HV.out];rfl,HB.out⟩
set_option maxRecDepth 20000 in
set_option maxHeartbeats 4000000 in
theorem igrow_any (n:Nat) (w:World) (hn:n≤2000000):Calls Tryz.prog 166 #[.slice none 0 0,.int .i64 (n:Int)] w fun e w'=>∃ v,e = .returned v∧w'.ownsRow w.heap.size 9 1 v 0 []∧Below w.heap.size w w':=by
 have hw1:IntKind.i64.wrap (n:Int) = (n:Int):=by rw [IntKind.wrap_i64];omega
 have hw2:wrap64 (n:Int) = (n:Int):=by unfold wrap64;omega
 by_cases h0:n = 0
 ·subst h0
  go_enter Tryz.func166,Tryz.ntmps166
  go_wp2_with fail
  go_ret
  exact ⟨_,rfl,World.ownsRow_nil _ _ _ _,Below.refl _ _⟩
 ·obtain ⟨i,z,hi,hz,hs,hb,hzs⟩:=lsrt.info
  have hrun:=Lib.run_append_nil_zeros (P:=Tryz.prog) w 61 3 61 9 i z .i64 .i64 Tryz.underlying61 Tryz.underlying3 hi hz n (by omega) (by omega) (by omega) (by rw [hb];omega)
  have hcap:=grownCap_ge w n 0 9
  have hcm:=grownCap_le_maxLen w n 0 9 (by unfold maxLen;omega)
  obtain ⟨w1,hw⟩:∃ w1,w.drew.alloc (.cells (Builtin.zeroCells z.cells n ++ Builtin.zeroCells z.cells (grownCap w n 0 9 - n)) 9) = w1:=⟨_,rfl⟩
  have hown:w1.ownsRow w.heap.size 9 1 (.slice (some ⟨w.heap.size,0,none⟩) 0 (grownCap w n 0 9)) 0 []:=by
   refine ⟨rfl,.inr ⟨w.heap.size,grownCap w n 0 9,_,rfl,Nat.le_refl _,by rw [← hw];exact heap_alloc_new w.drew _,Nat.zero_le _,hcm,?_,by simp⟩⟩
   simp [Builtin.zeroCells,hzs]
   omega
  have hbel:Below w.heap.size w w1:=by rw [← hw];exact (Below.refl _ _).drew.alloc (Nat.le_refl _) _
  rw [hw] at hrun
  have HO:=Lib.hid hown
  have HB:=Lib.hid hbel
  have HR:=Lib.hid hrun
  have hpos:(0:Int) < (n:Int):=by omega
  clear hrun hown hbel hw h0 hn
  generalize grownCap w n 0 9 = cap at *
  go_enter Tryz.func166,Tryz.ntmps166
  go_wp2_with (at_builtin;refine Lib.wpList_append_run _ rfl _ _ _ _ rfl _ _ rfl rfl _ _ HR.out ?_)
  go_ret
  exact ⟨_,rfl,HO.out,HB.out⟩
set_option maxRecDepth 20000 in
set_option maxHeartbeats 4000000 in
theorem iconcat_any (g:Nat) (T:TypeId) (va vb:Value) (a b:List (List UInt8)) (w:World) (hg:Bk w g T #[va,vb]) (ha:RdS w va a) (hb:RdS w vb b) (hla:a.length≤1000000) (hlb:b.length≤1000000) :
  Calls Tryz.prog 103 #[.slice (some ⟨g,0,none⟩) 2 2] w fun e w'=>∃ v,e = .returned v∧OwnS w.heap.size w' v (a ++ b)∧Below w.heap.size w w':=by
 have HKa:=Lib.hid (fun W (hW:Below w.heap.size w W)=>src_texts (ha.kept hW))
 have HKb:=Lib.hid (fun W (hW:Below w.heap.size w W)=>src_texts (hb.kept hW))
 have HC0:=Lib.hid (fun W (hW:Below w.heap.size w W)=>(hg.kept hW).cell 0)
 have HC1:=Lib.hid (fun W (hW:Below w.heap.size w W)=>(hg.kept hW).cell 1)
 have c0:w.cell? ⟨g,0,none⟩ = some va:=hg.cell 0
 have c1:w.cell? ⟨g,1,none⟩ = some vb:=hg.cell 1
 obtain ⟨A1,k1,rfl⟩:=ha.form
 obtain ⟨A2,k2,rfl⟩:=hb.form
 have CG:=Lib.hid (fun W=>igrow_any (a.length+b.length) W (by omega))
 have hl1:wrap64 (0+(a.length:Int)) = (a.length:Int):=by unfold wrap64;omega
 have hl1':wrap64 ((a.length:Int)) = (a.length:Int):=by unfold wrap64;omega
 have hl2:wrap64 ((a.length:Int)+(b.length:Int)) = ((a.length+b.length:Nat):Int):=by unfold wrap64;omega
 have hn1:¬ (a.length:Int) < 0:=by omega
 have hn2:¬ ((a.length+b.length:Nat):Int) < 0:=by omega
 clear hg ha hb
 go_enter Tryz.func103,Tryz.ntmps103
 go_wp2_with fail
 go_loop [3,11] (fun z i=>∃ k:Nat,k≤2∧i = .int .i64 (k:Int)∧z = .int .i64 ((if k = 0 then 0 else if k = 1 then a.length else a.length+b.length:Nat):Int)) (fun _ i=>2 - (intOf i).toNat)
 case atStart=>exact ⟨0,by omega,rfl,rfl⟩
 case round=>
  obtain ⟨k,hk,rfl,rfl⟩:=hrel
  have hk3:k = 0 ∨ k = 1 ∨ k = 2:=by omega
  clear hk
  rcases hk3 with rfl | rfl | rfl
  ·simp only [if_true,Int.ofNat_zero]
   go_wp2_with fail
   go_round
   case rel=>exact ⟨1,by omega,rfl,rfl⟩
   case measure=>simp [intOf]
  ·simp only [if_true,if_neg (show ¬ (1:Nat) = 0 by decide)]
   go_wp2_with fail
   go_round
   case rel=>exact ⟨2,by omega,rfl,rfl⟩
   case measure=>simp [intOf]
  ·simp only [if_true,if_neg (show ¬ (2:Nat) = 0 by decide),if_neg (show ¬ (2:Nat) = 1 by decide)]
   clear c0 c1
   go_wp2_with (go_at_call 166;refine (CG.out _).mono ?_;rintro e w1 ⟨v1,rfl,ho1,hb1⟩)
   have HOa:=Lib.hid ho1
   have HB1:=Lib.hid hb1
   have HL1:=Lib.hid (show (0+a.length) * 16≤140737488355328∧0+a.length≤maxLen by unfold maxLen;omega)
   have HL2:=Lib.hid (show (a.length+b.length) * 16≤140737488355328∧a.length+b.length≤maxLen by unfold maxLen;omega)
   clear ho1 hb1 hl1 hl1' hl2 hn1 hn2 hla hlb CG
   go_loopw [6,27] (fun v i wr=>∃ (k:Nat) (l:List (List UInt8)),k≤2∧i = .int .i64 (k:Int)∧OwnS w.heap.size wr v l∧Below w.heap.size w wr∧l = (if k = 0 then [] else if k = 1 then a else a ++ b)) (fun _ i _=>2 - (intOf i).toNat)
   case atStart=>exact ⟨0,[],by omega,rfl,HOa.out,HB1.out,rfl⟩
   case round=>
    obtain ⟨k,l,hk,rfl,ho,hb,hll⟩:=hrel
    have HOW:=Lib.hid ho
    have HBR:=Lib.hid hb
    have hk3:k = 0 ∨ k = 1 ∨ k = 2:=by omega
    clear hk
    obtain ⟨A,c,rfl⟩:=ho.form
    clear ho
    rcases hk3 with rfl | rfl | rfl
    ·rw [if_pos rfl] at hll
     subst hll
     have d0:=HC0.out _ hb
     have HS:=Lib.hid (HKa.out _ hb)
     clear hb
     go_wp2_with (refine wpList_appendR (by rfl) _ _ _ _ (by rfl) lsrt (by decide) w.heap.size _ (by rfl) 0 [] HOW.out _ (by rfl) a.length (L6.sv a) HS.out HL1.out.1 HL1.out.2 HBR.out.size ?_;intro v3 w3 ho3 hb3 hg3)
     go_roundw
     case rel=>exact ⟨1,a,by omega,rfl,by rw [Nat.zero_add] at ho3;exact ho3,HBR.out.trans hb3,rfl⟩
     case measure=>simp [intOf]
    ·rw [if_neg (show ¬ (1:Nat) = 0 by decide),if_pos rfl] at hll
     subst hll
     have d0:=HC1.out _ hb
     have HS:=Lib.hid (HKb.out _ hb)
     clear hb
     go_wp2_with (refine wpList_appendR (by rfl) _ _ _ _ (by rfl) lsrt (by decide) w.heap.size _ (by rfl) l.length (L6.sv l) HOW.out _ (by rfl) b.length (L6.sv b) HS.out HL2.out.1 HL2.out.2 HBR.out.size ?_;intro v3 w3 ho3 hb3 hg3)
     go_roundw
     case rel=>exact ⟨2,l ++ b,by omega,rfl,OwnS.many rfl rfl ho3,HBR.out.trans hb3,rfl⟩
     case measure=>simp [intOf]
    ·rw [if_neg (show ¬ (2:Nat) = 0 by decide),if_neg (show ¬ (2:Nat) = 1 by decide)] at hll
     subst hll
     clear hb
     go_wp2_with fail
     go_ret
     exact ⟨_,rfl,HOW.out,HBR.out⟩
end Go.Proofs.YtpcpaoeajcjoiaaGreatDoor
