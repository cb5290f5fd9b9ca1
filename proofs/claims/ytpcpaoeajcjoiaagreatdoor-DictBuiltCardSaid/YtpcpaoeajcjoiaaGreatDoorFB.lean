/- Texts joined, what is not reached left out. -/
import Derived.Test.YtpcpaoeajcjoiaaGreatDoorFA
set_option linter.unusedVariables false
set_option linter.unusedSimpArgs false
namespace Go.Proofs.YtpcpaoeajcjoiaaGreatDoor
open Go.RowKit Kit
def F8.LinePost (B gm:Nat) (w:World) (r:Option F8.St) (e:Ending) (w':World):Prop:=
 match r with
 | none=>e = .returned (.bool false)∧Below B w w'
 | some S'=>e = .returned (.bool true)∧F8.MkO B w' gm w'.heap.size S'∧F8.Stay gm B w w'
structure F8.LineIn (B gm H:Nat) (S:F8.St) (w:World) (vl va:Value) (x:L6.Line):Prop where
 maker:F8.MkO B w gm H S
 tab:F8.TabB B w
 l:OwnZ B w vl x.labels
 a:OwnZ B w va x.args
 new:∀ k,F8.blk vl = some k→H≤k
 ll:x.labels.length≤100000
 out:S.out.length≤90000
 opn:S.opn.length≤90000
 made:S.made≤90000
theorem F8.LineIn.boxed {B gm H:Nat} {S:F8.St} {w w1:World} {vl va:Value} {x:L6.Line} {s:ByteArray} (h:F8.LineIn B gm H S w vl va x) (h1:w.alloc (.cells #[vl,.string s,va] 105) = w1) :
  F8.MkO B w1 gm H S∧F8.Stay gm B w w1∧(∀ W,F8.Stay gm B w1 W→(W.cell? ⟨w.heap.size,0,none⟩ = some vl∧W.cell? ⟨w.heap.size,1,none⟩ = some (.string s)∧W.cell? ⟨w.heap.size,2,none⟩ = some va)∧OwnZ B W vl x.labels∧RdS W va x.args∧F8.TabB B W):=by
 have hal:Below w.heap.size w w1:=by rw [← h1];exact (Below.refl _ _).alloc (Nat.le_refl _) _
 have hbk:Bk w1 w.heap.size 105 #[vl,.string s,va]:=by rw [← h1];exact Bk.fresh w _ _
 have hst:F8.Stay gm B w w1:=F8.Stay.of hal h.maker.size h.maker.lt
 have hf:=h.maker.free hal (Nat.le_refl w.heap.size)
 refine ⟨h.maker.kept hal,hst,fun W hs=>?_⟩
 have hk:=(hs.bk hbk hf).1
 exact ⟨⟨hk.cell 0,hk.cell 1,hk.cell 2⟩,(h.l.stay hst).stay hs,((h.a.stay hst).stay hs).rd,(h.tab.below hst.below).below hs.below⟩
theorem F8.words_new {B gm H:Nat} {S:F8.St} {w:World} (h:F8.MkO B w gm H S) (l:List (List UInt8)) (hl:l.length≤1000) (cs:Array Value) (hc:cs = (L6.sv l).toArray) (n:Nat) (hn:n = l.length) :
  F8.MkO B (w.alloc (.cells cs 9)) gm H S∧F8.Stay gm B w (w.alloc (.cells cs 9))∧RdS (w.alloc (.cells cs 9)) (.slice (some ⟨w.heap.size,0,none⟩) n n) l:=by
 subst hc hn
 have hal:=(Below.refl w.heap.size w).alloc (Nat.le_refl _) (.cells (L6.sv l).toArray 9)
 exact ⟨h.kept hal,F8.Stay.of hal h.size h.lt,(F8.own_of_bk (B:=w.heap.size) (Bk.fresh w _ _) (Nat.le_refl _) (by unfold maxLen;omega)).rd⟩
set_option maxRecDepth 100000 in
set_option maxHeartbeats 4000000 in
theorem fline_if {B gm H:Nat} {S:F8.St} (w:World) (vl va:Value) (x:L6.Line) (h:F8.LineIn B gm H S w vl va x) (hx:x.word = [105,102]) (h3:x.args.length = 3) :
  Calls Tryz.prog 115 #[.pointer (some ⟨gm,0,none⟩),.agg #[vl,.string ⟨x.word.toArray⟩,va]] w (F8.LinePost B gm w (F8.own .ifK S x)):=by
 obtain ⟨so,sp,sm⟩:=S
 obtain ⟨xl,xw,xa⟩:=x
 dsimp only at hx
 subst hx
 have HI:=Lib.hid h
 obtain ⟨A1,c1,rfl⟩:=h.l.form
 obtain ⟨A2,c2,rfl⟩:=h.a.form
 obtain ⟨w1,hw1⟩:∃ w1,w.alloc (.cells #[.slice A1 xl.length c1,.string ⟨#[105,102]⟩,.slice A2 xa.length c2] 105) = w1:=⟨_,rfl⟩
 obtain ⟨hm1,hs1,hbx⟩:=h.boxed hw1
 have HM0:=Lib.hid hm1
 have HST:=Lib.hid hs1
 have HS0:=Lib.hid (F8.Stay.refl gm B w1)
 have HBX:=Lib.hid hbx
 obtain ⟨⟨q0,q1,q2⟩,_⟩:=hbx w1 (F8.Stay.refl gm B w1)
 have hno:so.length≤90000:=h.out
 have hnp:sp.length≤90000:=h.opn
 have hnm:sm≤90000:=h.made
 have HNO:=Lib.hid hno
 have HNP:=Lib.hid hnp
 have HNM:=Lib.hid hnm
 have HNW:=Lib.hid h.new
 have HLL:=Lib.hid (show xl.length≤100000 from h.ll)
 clear hm1 hs1 hbx hno hnp hnm
 have H3:=Lib.hid (show xa.length = 3 from h3)
 clear h h3
 go_enter Tryz.func115,Tryz.ntmps115
 go_wp2_with (first
  | (go_at_call 174;with_reducible refine (flabel_any _ HM0.out (by have:=HNO.out;have:=HNP.out;have:=HNM.out;simp only [List.length_append,List.length_cons,List.length_nil];omega) (.inr (HBX.out _ HS0.out).2.2.2)).mono ?_;rintro e w2 ⟨rfl,hm1,hs1⟩;have HM1:=Lib.hid hm1;have HS1:=Lib.hid (HS0.out.trans hs1);clear hm1 hs1;obtain ⟨⟨q10,q11,q12⟩,_⟩:=HBX.out _ HS1.out)
  | (go_at_call 173;with_reducible refine (fbranch_any _ HM1.out _ _ _ ⟨xl,[],xa⟩ (F8.lab sm) (HBX.out _ HS1.out).2.1 HNW.out (HBX.out _ HS1.out).2.2.1 H3.out (by have:=HNO.out;have:=HNP.out;have:=HNM.out;simp only [List.length_append,List.length_cons,List.length_nil];omega)).mono ?_;rintro e w3 ⟨rfl,hm2,hs2⟩;have HM2:=Lib.hid hm2;have HS2:=Lib.hid (HS1.out.trans hs2);clear hm2 hs2;obtain ⟨⟨q20,q21,q22⟩,_⟩:=HBX.out _ HS2.out)
  | (go_at_call 175;with_reducible refine (fwait_any _ HM2.out [105,102] (F8.lab sm) (by have:=HNO.out;have:=HNP.out;have:=HNM.out;simp only [List.length_append,List.length_cons,List.length_nil];omega)).mono ?_;rintro e w4 ⟨rfl,hm3,hs3⟩;have HM3:=Lib.hid hm3;have HS3:=Lib.hid (HS2.out.trans hs3);clear hm3 hs3;obtain ⟨⟨q30,q31,q32⟩,_⟩:=HBX.out _ HS3.out))
 go_ret
 exact ⟨rfl,HM3.out.later HM3.out.le (Nat.le_refl _),HST.out.trans HS3.out⟩
set_option maxRecDepth 100000 in
set_option maxHeartbeats 4000000 in
theorem fline_begin {B gm H:Nat} {S:F8.St} (w:World) (vl va:Value) (x:L6.Line) (h:F8.LineIn B gm H S w vl va x) (hx:x.word = [98,101,103,105,110]) :
  Calls Tryz.prog 115 #[.pointer (some ⟨gm,0,none⟩),.agg #[vl,.string ⟨x.word.toArray⟩,va]] w (F8.LinePost B gm w (F8.own .beginK S x)):=by
 obtain ⟨so,sp,sm⟩:=S
 obtain ⟨xl,xw,xa⟩:=x
 dsimp only at hx
 subst hx
 have HI:=Lib.hid h
 obtain ⟨A1,c1,rfl⟩:=h.l.form
 obtain ⟨A2,c2,rfl⟩:=h.a.form
 obtain ⟨w1,hw1⟩:∃ w1,w.alloc (.cells #[.slice A1 xl.length c1,.string ⟨#[98,101,103,105,110]⟩,.slice A2 xa.length c2] 105) = w1:=⟨_,rfl⟩
 obtain ⟨hm1,hs1,hbx⟩:=h.boxed hw1
 have HM0:=Lib.hid hm1
 have HST:=Lib.hid hs1
 have HS0:=Lib.hid (F8.Stay.refl gm B w1)
 have HBX:=Lib.hid hbx
 obtain ⟨⟨q0,q1,q2⟩,_⟩:=hbx w1 (F8.Stay.refl gm B w1)
 have hno:so.length≤90000:=h.out
 have hnp:sp.length≤90000:=h.opn
 have hnm:sm≤90000:=h.made
 have HNO:=Lib.hid hno
 have HNP:=Lib.hid hnp
 have HNM:=Lib.hid hnm
 have HNW:=Lib.hid h.new
 have HLL:=Lib.hid (show xl.length≤100000 from h.ll)
 clear hm1 hs1 hbx hno hnp hnm
 clear h
 go_enter Tryz.func115,Tryz.ntmps115
 go_wp2_with (first
  | (go_at_call 174;with_reducible refine (flabel_any _ HM0.out (by have:=HNO.out;have:=HNP.out;have:=HNM.out;simp only [List.length_append,List.length_cons,List.length_nil];omega) (.inr (HBX.out _ HS0.out).2.2.2)).mono ?_;rintro e w2 ⟨rfl,hm1,hs1⟩;have HM1:=Lib.hid hm1;have HS1:=Lib.hid (HS0.out.trans hs1);clear hm1 hs1;obtain ⟨⟨q10,q11,q12⟩,_⟩:=HBX.out _ HS1.out)
  | (go_at_call 178;with_reducible refine (fhere_any _ HM1.out _ _ _ xl (F8.lab sm) (HBX.out _ HS1.out).2.1.rd HLL.out ⟨_,_,_,rfl⟩ (by have:=HNO.out;have:=HNP.out;have:=HNM.out;simp only [List.length_append,List.length_cons,List.length_nil];omega)).mono ?_;rintro e w3 ⟨rfl,hm2,hs2⟩;have HM2:=Lib.hid hm2;have HS2:=Lib.hid (HS1.out.trans hs2);clear hm2 hs2;obtain ⟨⟨q20,q21,q22⟩,_⟩:=HBX.out _ HS2.out)
  | (go_at_call 175;with_reducible refine (fwait_any _ HM2.out [98,101,103,105,110] (F8.lab sm) (by have:=HNO.out;have:=HNP.out;have:=HNM.out;simp only [List.length_append,List.length_cons,List.length_nil];omega)).mono ?_;rintro e w4 ⟨rfl,hm3,hs3⟩;have HM3:=Lib.hid hm3;have HS3:=Lib.hid (HS2.out.trans hs3);clear hm3 hs3;obtain ⟨⟨q30,q31,q32⟩,_⟩:=HBX.out _ HS3.out))
 go_ret
 exact ⟨rfl,HM3.out.later HM3.out.le (Nat.le_refl _),HST.out.trans HS3.out⟩
set_option maxRecDepth 100000 in
set_option maxHeartbeats 4000000 in
theorem fline_else {B gm H:Nat} {S:F8.St} (w:World) (vl va:Value) (x:L6.Line) (h:F8.LineIn B gm H S w vl va x) (hx:x.word = [101,108,115,101]) :
  Calls Tryz.prog 115 #[.pointer (some ⟨gm,0,none⟩),.agg #[vl,.string ⟨x.word.toArray⟩,va]] w (F8.LinePost B gm w (F8.own .elseK S x)):=by
 obtain ⟨so,sp,sm⟩:=S
 obtain ⟨xl,xw,xa⟩:=x
 dsimp only at hx
 subst hx
 have HI:=Lib.hid h
 obtain ⟨A1,c1,rfl⟩:=h.l.form
 obtain ⟨A2,c2,rfl⟩:=h.a.form
 obtain ⟨w1,hw1⟩:∃ w1,w.alloc (.cells #[.slice A1 xl.length c1,.string ⟨#[101,108,115,101]⟩,.slice A2 xa.length c2] 105) = w1:=⟨_,rfl⟩
 obtain ⟨hm1,hs1,hbx⟩:=h.boxed hw1
 have HM0:=Lib.hid hm1
 have HST:=Lib.hid hs1
 have HS0:=Lib.hid (F8.Stay.refl gm B w1)
 have HBX:=Lib.hid hbx
 obtain ⟨⟨q0,q1,q2⟩,_⟩:=hbx w1 (F8.Stay.refl gm B w1)
 have hno:so.length≤90000:=h.out
 have hnp:sp.length≤90000:=h.opn
 have hnm:sm≤90000:=h.made
 have HNO:=Lib.hid hno
 have HNP:=Lib.hid hnp
 have HNM:=Lib.hid hnm
 have HNW:=Lib.hid h.new
 have HLL:=Lib.hid (show xl.length≤100000 from h.ll)
 clear hm1 hs1 hbx hno hnp hnm
 clear h
 obtain ⟨w2,hw2⟩:∃ w2,w1.alloc (.cells #[.string ⟨#[105,102]⟩] 9) = w2:=⟨_,rfl⟩
 obtain ⟨hm1,hs1,hr1⟩:=F8.words_new HM0.out [F8.wIf] (by decide) #[.string ⟨#[105,102]⟩] rfl 1 rfl
 rw [hw2] at hm1 hs1 hr1
 have HM1:=Lib.hid hm1
 have HS1:=Lib.hid hs1
 have HR1:=Lib.hid hr1
 obtain ⟨⟨q10,q11,q12⟩,_⟩:=HBX.out _ hs1
 clear hm1 hs1 hr1
 by_cases hop:∃ w k r,sp = (w,k) :: r∧(w = F8.wIf)
 ·obtain ⟨wt,kt,r,rfl,hwt⟩:=hop
  have HMEM:=Lib.hid (show wt ∈ [F8.wIf] from by simp only [List.mem_cons,List.not_mem_nil,or_false];exact hwt)
  have HRL:=Lib.hid (show r.length≤90000 from by have:=HNP.out;simp at this;omega)
  have HOWN:=Lib.hid hwt
  clear hwt
  have HR:=Lib.hid (show F8.own .elseK ⟨so,(wt,kt) :: r,sm⟩ ⟨xl,[101,108,115,101],xa⟩ = some ⟨so ++ [F8.jmp xl (F8.lab sm)] ++ [F8.at_ [] kt],(F8.wElse,F8.lab sm) :: r,sm+1⟩ from by simp only [F8.own];rw [if_pos HOWN.out])
  go_enter Tryz.func115,Tryz.ntmps115
  go_wp2_with (first
   | (go_at_call 176;with_reducible refine (fclose_some _ HM1.out _ [F8.wIf] HR1.out (by decide) (by have:=HRL.out;omega) HMEM.out).mono ?_;rintro e w3 ⟨rfl,hm2,hs2⟩;have HM2:=Lib.hid hm2;have HS2:=Lib.hid (HS1.out.trans hs2);clear hm2 hs2;obtain ⟨⟨q20,q21,q22⟩,_⟩:=HBX.out _ HS2.out)
   | (go_at_call 174;with_reducible refine (flabel_any _ HM2.out (by have:=HNO.out;have:=HRL.out;have:=HNM.out;simp only [List.length_append,List.length_cons,List.length_nil];omega) (.inr (HBX.out _ HS2.out).2.2.2)).mono ?_;rintro e w4 ⟨rfl,hm3,hs3⟩;have HM3:=Lib.hid hm3;have HS3:=Lib.hid (HS2.out.trans hs3);clear hm3 hs3;obtain ⟨⟨q30,q31,q32⟩,_⟩:=HBX.out _ HS3.out)
   | (go_at_call 177;with_reducible refine (fjump_any _ HM3.out _ _ _ xl (F8.lab sm) (HBX.out _ HS3.out).2.1 HNW.out ⟨_,_,_,rfl⟩ (by have:=HNO.out;have:=HRL.out;have:=HNM.out;simp only [List.length_append,List.length_cons,List.length_nil];omega)).mono ?_;rintro e w5 ⟨rfl,hm4,hs4⟩;have HM4:=Lib.hid hm4;have HS4:=Lib.hid (HS3.out.trans hs4);clear hm4 hs4;obtain ⟨⟨q40,q41,q42⟩,_⟩:=HBX.out _ HS4.out)
   | (go_at_call 178;with_reducible refine (fhere_any _ HM4.out (.slice none 0 0) (.slice none 0 0) ⟨#[]⟩ [] kt (OwnS.nil 0 _).rd (Nat.zero_le _) ⟨_,_,_,rfl⟩ (by have:=HNO.out;have:=HRL.out;have:=HNM.out;simp only [List.length_append,List.length_cons,List.length_nil];omega)).mono ?_;rintro e w6 ⟨rfl,hm5,hs5⟩;have HM5:=Lib.hid hm5;have HS5:=Lib.hid (HS4.out.trans hs5);clear hm5 hs5;obtain ⟨⟨q50,q51,q52⟩,_⟩:=HBX.out _ HS5.out)
   | (go_at_call 175;with_reducible refine (fwait_any _ HM5.out [101,108,115,101] (F8.lab sm) (by have:=HNO.out;have:=HRL.out;have:=HNM.out;simp only [List.length_append,List.length_cons,List.length_nil];omega)).mono ?_;rintro e w7 ⟨rfl,hm6,hs6⟩;have HM6:=Lib.hid hm6;have HS6:=Lib.hid (HS5.out.trans hs6);clear hm6 hs6;obtain ⟨⟨q60,q61,q62⟩,_⟩:=HBX.out _ HS6.out))
  go_ret
  rw [HR.out]
  exact ⟨rfl,HM6.out.later HM6.out.le (Nat.le_refl _),HST.out.trans HS6.out⟩
 ·have HNONE:=Lib.hid (show ∀ x k r,sp = (x,k) :: r→x ∉ [F8.wIf] from fun x k r e hx=>hop ⟨x,k,r,e,by simp only [List.mem_cons,List.not_mem_nil,or_false] at hx;exact hx⟩)
  have HR:=Lib.hid (show F8.own .elseK ⟨so,sp,sm⟩ ⟨xl,[101,108,115,101],xa⟩ = none from by
   cases sp with
   | nil=>rfl
   | cons q r=>
    obtain ⟨a,b⟩:=q
    simp only [F8.own]
    rw [if_neg (fun e=>hop ⟨a,b,r,rfl,e⟩)])
  clear hop
  go_enter Tryz.func115,Tryz.ntmps115
  go_wp2_with (first
   | (go_at_call 176;refine (fclose_none _ HM1.out _ [F8.wIf] HR1.out (by decide) (by have:=HNO.out;have:=HNP.out;have:=HNM.out;simp only [List.length_append,List.length_cons,List.length_nil];omega) HNONE.out).mono ?_;rintro e w' ⟨rfl,rfl⟩))
  go_ret
  rw [HR.out]
  exact ⟨rfl,HST.out.below.trans HS1.out.below⟩
set_option maxRecDepth 100000 in
set_option maxHeartbeats 4000000 in
theorem fline_then {B gm H:Nat} {S:F8.St} (w:World) (vl va:Value) (x:L6.Line) (h:F8.LineIn B gm H S w vl va x) (hx:x.word = [116,104,101,110]) :
  Calls Tryz.prog 115 #[.pointer (some ⟨gm,0,none⟩),.agg #[vl,.string ⟨x.word.toArray⟩,va]] w (F8.LinePost B gm w (F8.own .thenK S x)):=by
 obtain ⟨so,sp,sm⟩:=S
 obtain ⟨xl,xw,xa⟩:=x
 dsimp only at hx
 subst hx
 have HI:=Lib.hid h
 obtain ⟨A1,c1,rfl⟩:=h.l.form
 obtain ⟨A2,c2,rfl⟩:=h.a.form
 obtain ⟨w1,hw1⟩:∃ w1,w.alloc (.cells #[.slice A1 xl.length c1,.string ⟨#[116,104,101,110]⟩,.slice A2 xa.length c2] 105) = w1:=⟨_,rfl⟩
 obtain ⟨hm1,hs1,hbx⟩:=h.boxed hw1
 have HM0:=Lib.hid hm1
 have HST:=Lib.hid hs1
 have HS0:=Lib.hid (F8.Stay.refl gm B w1)
 have HBX:=Lib.hid hbx
 obtain ⟨⟨q0,q1,q2⟩,_⟩:=hbx w1 (F8.Stay.refl gm B w1)
 have hno:so.length≤90000:=h.out
 have hnp:sp.length≤90000:=h.opn
 have hnm:sm≤90000:=h.made
 have HNO:=Lib.hid hno
 have HNP:=Lib.hid hnp
 have HNM:=Lib.hid hnm
 have HNW:=Lib.hid h.new
 have HLL:=Lib.hid (show xl.length≤100000 from h.ll)
 clear hm1 hs1 hbx hno hnp hnm
 clear h
 obtain ⟨w2,hw2⟩:∃ w2,w1.alloc (.cells #[.string ⟨#[105,102]⟩,.string ⟨#[101,108,115,101]⟩] 9) = w2:=⟨_,rfl⟩
 obtain ⟨hm1,hs1,hr1⟩:=F8.words_new HM0.out [F8.wIf,F8.wElse] (by decide) #[.string ⟨#[105,102]⟩,.string ⟨#[101,108,115,101]⟩] rfl 2 rfl
 rw [hw2] at hm1 hs1 hr1
 have HM1:=Lib.hid hm1
 have HS1:=Lib.hid hs1
 have HR1:=Lib.hid hr1
 obtain ⟨⟨q10,q11,q12⟩,_⟩:=HBX.out _ hs1
 clear hm1 hs1 hr1
 by_cases hop:∃ w k r,sp = (w,k) :: r∧(w = F8.wIf ∨ w = F8.wElse)
 ·obtain ⟨wt,kt,r,rfl,hwt⟩:=hop
  have HMEM:=Lib.hid (show wt ∈ [F8.wIf,F8.wElse] from by simp only [List.mem_cons,List.not_mem_nil,or_false];exact hwt)
  have HRL:=Lib.hid (show r.length≤90000 from by have:=HNP.out;simp at this;omega)
  have HOWN:=Lib.hid hwt
  clear hwt
  have HR:=Lib.hid (show F8.own .thenK ⟨so,(wt,kt) :: r,sm⟩ ⟨xl,[116,104,101,110],xa⟩ = some ⟨so ++ [F8.at_ xl kt],r,sm⟩ from by simp only [F8.own];rw [if_pos HOWN.out])
  go_enter Tryz.func115,Tryz.ntmps115
  go_wp2_with (first
   | (go_at_call 176;with_reducible refine (fclose_some _ HM1.out _ [F8.wIf,F8.wElse] HR1.out (by decide) (by have:=HRL.out;omega) HMEM.out).mono ?_;rintro e w3 ⟨rfl,hm2,hs2⟩;have HM2:=Lib.hid hm2;have HS2:=Lib.hid (HS1.out.trans hs2);clear hm2 hs2;obtain ⟨⟨q20,q21,q22⟩,_⟩:=HBX.out _ HS2.out)
   | (go_at_call 178;with_reducible refine (fhere_any _ HM2.out _ _ _ xl kt (HBX.out _ HS2.out).2.1.rd HLL.out ⟨_,_,_,rfl⟩ (by have:=HNO.out;have:=HRL.out;have:=HNM.out;simp only [List.length_append,List.length_cons,List.length_nil];omega)).mono ?_;rintro e w4 ⟨rfl,hm3,hs3⟩;have HM3:=Lib.hid hm3;have HS3:=Lib.hid (HS2.out.trans hs3);clear hm3 hs3;obtain ⟨⟨q30,q31,q32⟩,_⟩:=HBX.out _ HS3.out))
  go_ret
  rw [HR.out]
  exact ⟨rfl,HM3.out.later HM3.out.le (Nat.le_refl _),HST.out.trans HS3.out⟩
 ·have HNONE:=Lib.hid (show ∀ x k r,sp = (x,k) :: r→x ∉ [F8.wIf,F8.wElse] from fun x k r e hx=>hop ⟨x,k,r,e,by simp only [List.mem_cons,List.not_mem_nil,or_false] at hx;exact hx⟩)
  have HR:=Lib.hid (show F8.own .thenK ⟨so,sp,sm⟩ ⟨xl,[116,104,101,110],xa⟩ = none from by
   cases sp with
   | nil=>rfl
   | cons q r=>
    obtain ⟨a,b⟩:=q
    simp only [F8.own]
    rw [if_neg (fun e=>hop ⟨a,b,r,rfl,e⟩)])
  clear hop
  go_enter Tryz.func115,Tryz.ntmps115
  go_wp2_with (first
   | (go_at_call 176;refine (fclose_none _ HM1.out _ [F8.wIf,F8.wElse] HR1.out (by decide) (by have:=HNO.out;have:=HNP.out;have:=HNM.out;simp only [List.length_append,List.length_cons,List.length_nil];omega) HNONE.out).mono ?_;rintro e w' ⟨rfl,rfl⟩))
  go_ret
  rw [HR.out]
  exact ⟨rfl,HST.out.below.trans HS1.out.below⟩
set_option maxRecDepth 100000 in
set_option maxHeartbeats 4000000 in
theorem fline_while {B gm H:Nat} {S:F8.St} (w:World) (vl va:Value) (x:L6.Line) (h:F8.LineIn B gm H S w vl va x) (hx:x.word = [119,104,105,108,101]) (h3:x.args.length = 3) :
  Calls Tryz.prog 115 #[.pointer (some ⟨gm,0,none⟩),.agg #[vl,.string ⟨x.word.toArray⟩,va]] w (F8.LinePost B gm w (F8.own .whileK S x)):=by
 obtain ⟨so,sp,sm⟩:=S
 obtain ⟨xl,xw,xa⟩:=x
 dsimp only at hx
 subst hx
 have HI:=Lib.hid h
 obtain ⟨A1,c1,rfl⟩:=h.l.form
 obtain ⟨A2,c2,rfl⟩:=h.a.form
 obtain ⟨w1,hw1⟩:∃ w1,w.alloc (.cells #[.slice A1 xl.length c1,.string ⟨#[119,104,105,108,101]⟩,.slice A2 xa.length c2] 105) = w1:=⟨_,rfl⟩
 obtain ⟨hm1,hs1,hbx⟩:=h.boxed hw1
 have HM0:=Lib.hid hm1
 have HST:=Lib.hid hs1
 have HS0:=Lib.hid (F8.Stay.refl gm B w1)
 have HBX:=Lib.hid hbx
 obtain ⟨⟨q0,q1,q2⟩,_⟩:=hbx w1 (F8.Stay.refl gm B w1)
 have hno:so.length≤90000:=h.out
 have hnp:sp.length≤90000:=h.opn
 have hnm:sm≤90000:=h.made
 have HNO:=Lib.hid hno
 have HNP:=Lib.hid hnp
 have HNM:=Lib.hid hnm
 have HNW:=Lib.hid h.new
 have HLL:=Lib.hid (show xl.length≤100000 from h.ll)
 clear hm1 hs1 hbx hno hnp hnm
 have H3:=Lib.hid (show xa.length = 3 from h3)
 clear h h3
 obtain ⟨w2,hw2⟩:∃ w2,w1.alloc (.cells #[.string ⟨#[98,101,103,105,110]⟩] 9) = w2:=⟨_,rfl⟩
 obtain ⟨hm1,hs1,hr1⟩:=F8.words_new HM0.out [F8.wBegin] (by decide) #[.string ⟨#[98,101,103,105,110]⟩] rfl 1 rfl
 rw [hw2] at hm1 hs1 hr1
 have HM1:=Lib.hid hm1
 have HS1:=Lib.hid hs1
 have HR1:=Lib.hid hr1
 obtain ⟨⟨q10,q11,q12⟩,_⟩:=HBX.out _ hs1
 clear hm1 hs1 hr1
 by_cases hop:∃ w k r,sp = (w,k) :: r∧(w = F8.wBegin)
 ·obtain ⟨wt,kt,r,rfl,hwt⟩:=hop
  have HMEM:=Lib.hid (show wt ∈ [F8.wBegin] from by simp only [List.mem_cons,List.not_mem_nil,or_false];exact hwt)
  have HRL:=Lib.hid (show r.length≤90000 from by have:=HNP.out;simp at this;omega)
  have HOWN:=Lib.hid hwt
  clear hwt
  have HR:=Lib.hid (show F8.own .whileK ⟨so,(wt,kt) :: r,sm⟩ ⟨xl,[119,104,105,108,101],xa⟩ = some ⟨so ++ [F8.br ⟨xl,[119,104,105,108,101],xa⟩ (F8.lab sm)],(F8.wWhile,F8.lab sm) :: (F8.wBegun,kt) :: r,sm+1⟩ from by simp only [F8.own];rw [if_pos HOWN.out])
  go_enter Tryz.func115,Tryz.ntmps115
  go_wp2_with (first
   | (go_at_call 176;with_reducible refine (fclose_some _ HM1.out _ [F8.wBegin] HR1.out (by decide) (by have:=HRL.out;omega) HMEM.out).mono ?_;rintro e w3 ⟨rfl,hm2,hs2⟩;have HM2:=Lib.hid hm2;have HS2:=Lib.hid (HS1.out.trans hs2);clear hm2 hs2;obtain ⟨⟨q20,q21,q22⟩,_⟩:=HBX.out _ HS2.out)
   | (go_at_call 174;with_reducible refine (flabel_any _ HM2.out (by have:=HNO.out;have:=HRL.out;have:=HNM.out;simp only [List.length_append,List.length_cons,List.length_nil];omega) (.inr (HBX.out _ HS2.out).2.2.2)).mono ?_;rintro e w4 ⟨rfl,hm3,hs3⟩;have HM3:=Lib.hid hm3;have HS3:=Lib.hid (HS2.out.trans hs3);clear hm3 hs3;obtain ⟨⟨q30,q31,q32⟩,_⟩:=HBX.out _ HS3.out)
   | (go_at_call 173;with_reducible refine (fbranch_any _ HM3.out _ _ _ ⟨xl,[],xa⟩ (F8.lab sm) (HBX.out _ HS3.out).2.1 HNW.out (HBX.out _ HS3.out).2.2.1 H3.out (by have:=HNO.out;have:=HRL.out;have:=HNM.out;simp only [List.length_append,List.length_cons,List.length_nil];omega)).mono ?_;rintro e w5 ⟨rfl,hm4,hs4⟩;have HM4:=Lib.hid hm4;have HS4:=Lib.hid (HS3.out.trans hs4);clear hm4 hs4;obtain ⟨⟨q40,q41,q42⟩,_⟩:=HBX.out _ HS4.out)
   | (go_at_call 175;with_reducible refine (fwait_any _ HM4.out [98,101,103,117,110] kt (by have:=HNO.out;have:=HRL.out;have:=HNM.out;simp only [List.length_append,List.length_cons,List.length_nil];omega)).mono ?_;rintro e w6 ⟨rfl,hm5,hs5⟩;have HM5:=Lib.hid hm5;have HS5:=Lib.hid (HS4.out.trans hs5);clear hm5 hs5;obtain ⟨⟨q50,q51,q52⟩,_⟩:=HBX.out _ HS5.out)
   | (go_at_call 175;with_reducible refine (fwait_any _ HM5.out [119,104,105,108,101] (F8.lab sm) (by have:=HNO.out;have:=HRL.out;have:=HNM.out;simp only [List.length_append,List.length_cons,List.length_nil];omega)).mono ?_;rintro e w7 ⟨rfl,hm6,hs6⟩;have HM6:=Lib.hid hm6;have HS6:=Lib.hid (HS5.out.trans hs6);clear hm6 hs6;obtain ⟨⟨q60,q61,q62⟩,_⟩:=HBX.out _ HS6.out))
  go_ret
  rw [HR.out]
  exact ⟨rfl,HM6.out.later HM6.out.le (Nat.le_refl _),HST.out.trans HS6.out⟩
 ·have HNONE:=Lib.hid (show ∀ x k r,sp = (x,k) :: r→x ∉ [F8.wBegin] from fun x k r e hx=>hop ⟨x,k,r,e,by simp only [List.mem_cons,List.not_mem_nil,or_false] at hx;exact hx⟩)
  have HR:=Lib.hid (show F8.own .whileK ⟨so,sp,sm⟩ ⟨xl,[119,104,105,108,101],xa⟩ = none from by
   cases sp with
   | nil=>rfl
   | cons q r=>
    obtain ⟨a,b⟩:=q
    simp only [F8.own]
    rw [if_neg (fun e=>hop ⟨a,b,r,rfl,e⟩)])
  clear hop
  go_enter Tryz.func115,Tryz.ntmps115
  go_wp2_with (first
   | (go_at_call 176;refine (fclose_none _ HM1.out _ [F8.wBegin] HR1.out (by decide) (by have:=HNO.out;have:=HNP.out;have:=HNM.out;simp only [List.length_append,List.length_cons,List.length_nil];omega) HNONE.out).mono ?_;rintro e w' ⟨rfl,rfl⟩))
  go_ret
  rw [HR.out]
  exact ⟨rfl,HST.out.below.trans HS1.out.below⟩
set_option maxRecDepth 100000 in
set_option maxHeartbeats 4000000 in
theorem fline_until {B gm H:Nat} {S:F8.St} (w:World) (vl va:Value) (x:L6.Line) (h:F8.LineIn B gm H S w vl va x) (hx:x.word = [117,110,116,105,108]) (h3:x.args.length = 3) :
  Calls Tryz.prog 115 #[.pointer (some ⟨gm,0,none⟩),.agg #[vl,.string ⟨x.word.toArray⟩,va]] w (F8.LinePost B gm w (F8.own .untilK S x)):=by
 obtain ⟨so,sp,sm⟩:=S
 obtain ⟨xl,xw,xa⟩:=x
 dsimp only at hx
 subst hx
 have HI:=Lib.hid h
 obtain ⟨A1,c1,rfl⟩:=h.l.form
 obtain ⟨A2,c2,rfl⟩:=h.a.form
 obtain ⟨w1,hw1⟩:∃ w1,w.alloc (.cells #[.slice A1 xl.length c1,.string ⟨#[117,110,116,105,108]⟩,.slice A2 xa.length c2] 105) = w1:=⟨_,rfl⟩
 obtain ⟨hm1,hs1,hbx⟩:=h.boxed hw1
 have HM0:=Lib.hid hm1
 have HST:=Lib.hid hs1
 have HS0:=Lib.hid (F8.Stay.refl gm B w1)
 have HBX:=Lib.hid hbx
 obtain ⟨⟨q0,q1,q2⟩,_⟩:=hbx w1 (F8.Stay.refl gm B w1)
 have hno:so.length≤90000:=h.out
 have hnp:sp.length≤90000:=h.opn
 have hnm:sm≤90000:=h.made
 have HNO:=Lib.hid hno
 have HNP:=Lib.hid hnp
 have HNM:=Lib.hid hnm
 have HNW:=Lib.hid h.new
 have HLL:=Lib.hid (show xl.length≤100000 from h.ll)
 clear hm1 hs1 hbx hno hnp hnm
 have H3:=Lib.hid (show xa.length = 3 from h3)
 clear h h3
 obtain ⟨w2,hw2⟩:∃ w2,w1.alloc (.cells #[.string ⟨#[98,101,103,105,110]⟩] 9) = w2:=⟨_,rfl⟩
 obtain ⟨hm1,hs1,hr1⟩:=F8.words_new HM0.out [F8.wBegin] (by decide) #[.string ⟨#[98,101,103,105,110]⟩] rfl 1 rfl
 rw [hw2] at hm1 hs1 hr1
 have HM1:=Lib.hid hm1
 have HS1:=Lib.hid hs1
 have HR1:=Lib.hid hr1
 obtain ⟨⟨q10,q11,q12⟩,_⟩:=HBX.out _ hs1
 clear hm1 hs1 hr1
 by_cases hop:∃ w k r,sp = (w,k) :: r∧(w = F8.wBegin)
 ·obtain ⟨wt,kt,r,rfl,hwt⟩:=hop
  have HMEM:=Lib.hid (show wt ∈ [F8.wBegin] from by simp only [List.mem_cons,List.not_mem_nil,or_false];exact hwt)
  have HRL:=Lib.hid (show r.length≤90000 from by have:=HNP.out;simp at this;omega)
  have HOWN:=Lib.hid hwt
  clear hwt
  have HR:=Lib.hid (show F8.own .untilK ⟨so,(wt,kt) :: r,sm⟩ ⟨xl,[117,110,116,105,108],xa⟩ = some ⟨so ++ [F8.br ⟨xl,[117,110,116,105,108],xa⟩ kt],r,sm⟩ from by simp only [F8.own];rw [if_pos HOWN.out])
  go_enter Tryz.func115,Tryz.ntmps115
  go_wp2_with (first
   | (go_at_call 176;with_reducible refine (fclose_some _ HM1.out _ [F8.wBegin] HR1.out (by decide) (by have:=HRL.out;omega) HMEM.out).mono ?_;rintro e w3 ⟨rfl,hm2,hs2⟩;have HM2:=Lib.hid hm2;have HS2:=Lib.hid (HS1.out.trans hs2);clear hm2 hs2;obtain ⟨⟨q20,q21,q22⟩,_⟩:=HBX.out _ HS2.out)
   | (go_at_call 173;with_reducible refine (fbranch_any _ HM2.out _ _ _ ⟨xl,[],xa⟩ kt (HBX.out _ HS2.out).2.1 HNW.out (HBX.out _ HS2.out).2.2.1 H3.out (by have:=HNO.out;have:=HRL.out;have:=HNM.out;simp only [List.length_append,List.length_cons,List.length_nil];omega)).mono ?_;rintro e w4 ⟨rfl,hm3,hs3⟩;have HM3:=Lib.hid hm3;have HS3:=Lib.hid (HS2.out.trans hs3);clear hm3 hs3;obtain ⟨⟨q30,q31,q32⟩,_⟩:=HBX.out _ HS3.out))
  go_ret
  rw [HR.out]
  exact ⟨rfl,HM3.out.later HM3.out.le (Nat.le_refl _),HST.out.trans HS3.out⟩
 ·have HNONE:=Lib.hid (show ∀ x k r,sp = (x,k) :: r→x ∉ [F8.wBegin] from fun x k r e hx=>hop ⟨x,k,r,e,by simp only [List.mem_cons,List.not_mem_nil,or_false] at hx;exact hx⟩)
  have HR:=Lib.hid (show F8.own .untilK ⟨so,sp,sm⟩ ⟨xl,[117,110,116,105,108],xa⟩ = none from by
   cases sp with
   | nil=>rfl
   | cons q r=>
    obtain ⟨a,b⟩:=q
    simp only [F8.own]
    rw [if_neg (fun e=>hop ⟨a,b,r,rfl,e⟩)])
  clear hop
  go_enter Tryz.func115,Tryz.ntmps115
  go_wp2_with (first
   | (go_at_call 176;refine (fclose_none _ HM1.out _ [F8.wBegin] HR1.out (by decide) (by have:=HNO.out;have:=HNP.out;have:=HNM.out;simp only [List.length_append,List.length_cons,List.length_nil];omega) HNONE.out).mono ?_;rintro e w' ⟨rfl,rfl⟩))
  go_ret
  rw [HR.out]
  exact ⟨rfl,HST.out.below.trans HS1.out.below⟩
set_option maxRecDepth 100000 in
set_option maxHeartbeats 4000000 in
theorem fline_again {B gm H:Nat} {S:F8.St} (w:World) (vl va:Value) (x:L6.Line) (h:F8.LineIn B gm H S w vl va x) (hx:x.word = [97,103,97,105,110]) :
  Calls Tryz.prog 115 #[.pointer (some ⟨gm,0,none⟩),.agg #[vl,.string ⟨x.word.toArray⟩,va]] w (F8.LinePost B gm w (F8.own .againK S x)):=by
 obtain ⟨so,sp,sm⟩:=S
 obtain ⟨xl,xw,xa⟩:=x
 dsimp only at hx
 subst hx
 have HI:=Lib.hid h
 obtain ⟨A1,c1,rfl⟩:=h.l.form
 obtain ⟨A2,c2,rfl⟩:=h.a.form
 obtain ⟨w1,hw1⟩:∃ w1,w.alloc (.cells #[.slice A1 xl.length c1,.string ⟨#[97,103,97,105,110]⟩,.slice A2 xa.length c2] 105) = w1:=⟨_,rfl⟩
 obtain ⟨hm1,hs1,hbx⟩:=h.boxed hw1
 have HM0:=Lib.hid hm1
 have HST:=Lib.hid hs1
 have HS0:=Lib.hid (F8.Stay.refl gm B w1)
 have HBX:=Lib.hid hbx
 obtain ⟨⟨q0,q1,q2⟩,_⟩:=hbx w1 (F8.Stay.refl gm B w1)
 have hno:so.length≤90000:=h.out
 have hnp:sp.length≤90000:=h.opn
 have hnm:sm≤90000:=h.made
 have HNO:=Lib.hid hno
 have HNP:=Lib.hid hnp
 have HNM:=Lib.hid hnm
 have HNW:=Lib.hid h.new
 have HLL:=Lib.hid (show xl.length≤100000 from h.ll)
 clear hm1 hs1 hbx hno hnp hnm
 clear h
 obtain ⟨w2,hw2⟩:∃ w2,w1.alloc (.cells #[.string ⟨#[98,101,103,105,110]⟩] 9) = w2:=⟨_,rfl⟩
 obtain ⟨hm1,hs1,hr1⟩:=F8.words_new HM0.out [F8.wBegin] (by decide) #[.string ⟨#[98,101,103,105,110]⟩] rfl 1 rfl
 rw [hw2] at hm1 hs1 hr1
 have HM1:=Lib.hid hm1
 have HS1:=Lib.hid hs1
 have HR1:=Lib.hid hr1
 obtain ⟨⟨q10,q11,q12⟩,_⟩:=HBX.out _ hs1
 clear hm1 hs1 hr1
 by_cases hop:∃ w k r,sp = (w,k) :: r∧(w = F8.wBegin)
 ·obtain ⟨wt,kt,r,rfl,hwt⟩:=hop
  have HMEM:=Lib.hid (show wt ∈ [F8.wBegin] from by simp only [List.mem_cons,List.not_mem_nil,or_false];exact hwt)
  have HRL:=Lib.hid (show r.length≤90000 from by have:=HNP.out;simp at this;omega)
  have HOWN:=Lib.hid hwt
  clear hwt
  have HR:=Lib.hid (show F8.own .againK ⟨so,(wt,kt) :: r,sm⟩ ⟨xl,[97,103,97,105,110],xa⟩ = some ⟨so ++ [F8.jmp xl kt],r,sm⟩ from by simp only [F8.own];rw [if_pos HOWN.out])
  go_enter Tryz.func115,Tryz.ntmps115
  go_wp2_with (first
   | (go_at_call 176;with_reducible refine (fclose_some _ HM1.out _ [F8.wBegin] HR1.out (by decide) (by have:=HRL.out;omega) HMEM.out).mono ?_;rintro e w3 ⟨rfl,hm2,hs2⟩;have HM2:=Lib.hid hm2;have HS2:=Lib.hid (HS1.out.trans hs2);clear hm2 hs2;obtain ⟨⟨q20,q21,q22⟩,_⟩:=HBX.out _ HS2.out)
   | (go_at_call 177;with_reducible refine (fjump_any _ HM2.out _ _ _ xl kt (HBX.out _ HS2.out).2.1 HNW.out ⟨_,_,_,rfl⟩ (by have:=HNO.out;have:=HRL.out;have:=HNM.out;simp only [List.length_append,List.length_cons,List.length_nil];omega)).mono ?_;rintro e w4 ⟨rfl,hm3,hs3⟩;have HM3:=Lib.hid hm3;have HS3:=Lib.hid (HS2.out.trans hs3);clear hm3 hs3;obtain ⟨⟨q30,q31,q32⟩,_⟩:=HBX.out _ HS3.out))
  go_ret
  rw [HR.out]
  exact ⟨rfl,HM3.out.later HM3.out.le (Nat.le_refl _),HST.out.trans HS3.out⟩
 ·have HNONE:=Lib.hid (show ∀ x k r,sp = (x,k) :: r→x ∉ [F8.wBegin] from fun x k r e hx=>hop ⟨x,k,r,e,by simp only [List.mem_cons,List.not_mem_nil,or_false] at hx;exact hx⟩)
  have HR:=Lib.hid (show F8.own .againK ⟨so,sp,sm⟩ ⟨xl,[97,103,97,105,110],xa⟩ = none from by
   cases sp with
   | nil=>rfl
   | cons q r=>
    obtain ⟨a,b⟩:=q
    simp only [F8.own]
    rw [if_neg (fun e=>hop ⟨a,b,r,rfl,e⟩)])
  clear hop
  go_enter Tryz.func115,Tryz.ntmps115
  go_wp2_with (first
   | (go_at_call 176;refine (fclose_none _ HM1.out _ [F8.wBegin] HR1.out (by decide) (by have:=HNO.out;have:=HNP.out;have:=HNM.out;simp only [List.length_append,List.length_cons,List.length_nil];omega) HNONE.out).mono ?_;rintro e w' ⟨rfl,rfl⟩))
  go_ret
  rw [HR.out]
  exact ⟨rfl,HST.out.below.trans HS1.out.below⟩
set_option maxRecDepth 100000 in
set_option maxHeartbeats 4000000 in
theorem fline_repeat {B gm H:Nat} {S:F8.St} (w:World) (vl va:Value) (x:L6.Line) (h:F8.LineIn B gm H S w vl va x) (hx:x.word = [114,101,112,101,97,116]) :
  Calls Tryz.prog 115 #[.pointer (some ⟨gm,0,none⟩),.agg #[vl,.string ⟨x.word.toArray⟩,va]] w (F8.LinePost B gm w (F8.own .repeatK S x)):=by
 obtain ⟨so,sp,sm⟩:=S
 obtain ⟨xl,xw,xa⟩:=x
 dsimp only at hx
 subst hx
 have HI:=Lib.hid h
 obtain ⟨A1,c1,rfl⟩:=h.l.form
 obtain ⟨A2,c2,rfl⟩:=h.a.form
 obtain ⟨w1,hw1⟩:∃ w1,w.alloc (.cells #[.slice A1 xl.length c1,.string ⟨#[114,101,112,101,97,116]⟩,.slice A2 xa.length c2] 105) = w1:=⟨_,rfl⟩
 obtain ⟨hm1,hs1,hbx⟩:=h.boxed hw1
 have HM0:=Lib.hid hm1
 have HST:=Lib.hid hs1
 have HS0:=Lib.hid (F8.Stay.refl gm B w1)
 have HBX:=Lib.hid hbx
 obtain ⟨⟨q0,q1,q2⟩,_⟩:=hbx w1 (F8.Stay.refl gm B w1)
 have hno:so.length≤90000:=h.out
 have hnp:sp.length≤90000:=h.opn
 have hnm:sm≤90000:=h.made
 have HNO:=Lib.hid hno
 have HNP:=Lib.hid hnp
 have HNM:=Lib.hid hnm
 have HNW:=Lib.hid h.new
 have HLL:=Lib.hid (show xl.length≤100000 from h.ll)
 clear hm1 hs1 hbx hno hnp hnm
 clear h
 obtain ⟨w2,hw2⟩:∃ w2,w1.alloc (.cells #[.string ⟨#[119,104,105,108,101]⟩] 9) = w2:=⟨_,rfl⟩
 obtain ⟨hm1,hs1,hr1⟩:=F8.words_new HM0.out [F8.wWhile] (by decide) #[.string ⟨#[119,104,105,108,101]⟩] rfl 1 rfl
 rw [hw2] at hm1 hs1 hr1
 have HM1:=Lib.hid hm1
 have HS1:=Lib.hid hs1
 have HR1:=Lib.hid hr1
 obtain ⟨⟨q10,q11,q12⟩,_⟩:=HBX.out _ hs1
 clear hm1 hs1 hr1
 by_cases hop:∃ w k r,sp = (w,k) :: r∧(w = F8.wWhile)
 ·obtain ⟨wt,kt,r,rfl,hwt⟩:=hop
  have HMEM:=Lib.hid (show wt ∈ [F8.wWhile] from by simp only [List.mem_cons,List.not_mem_nil,or_false];exact hwt)
  have HRL:=Lib.hid (show r.length≤90000 from by have:=HNP.out;simp at this;omega)
  have HOWN:=Lib.hid hwt
  clear hwt
  by_cases hop2:∃ k r2,r = (F8.wBegun,k) :: r2
  ·obtain ⟨k2,r2,rfl⟩:=hop2
   have HRL2:=Lib.hid (show r2.length≤90000 from by have:=HRL.out;simp at this;omega)
   have HMEM2:=Lib.hid (show F8.wBegun ∈ [F8.wBegun] from by simp)
   have HR:=Lib.hid (show F8.own .repeatK ⟨so,(wt,kt) :: (F8.wBegun,k2) :: r2,sm⟩ ⟨xl,[114,101,112,101,97,116],xa⟩ = some ⟨so ++ [F8.jmp xl k2] ++ [F8.at_ [] kt],r2,sm⟩ from by simp only [F8.own];rw [if_pos HOWN.out];rfl)
   go_enter Tryz.func115,Tryz.ntmps115
   go_wp2_with (first
    | (go_at_call 176;with_reducible refine (fclose_some _ HM1.out _ [F8.wWhile] HR1.out (by decide) (by have:=HRL.out;omega) HMEM.out).mono ?_;rintro e w3 ⟨rfl,hm2,hs2⟩;have HM2:=Lib.hid hm2;have HS2:=Lib.hid (HS1.out.trans hs2);clear hm2 hs2;obtain ⟨⟨q20,q21,q22⟩,_⟩:=HBX.out _ HS2.out;obtain ⟨hm3,hs3,hr3⟩:=F8.words_new HM2.out [F8.wBegun] (by decide) #[.string ⟨#[98,101,103,117,110]⟩] rfl 1 rfl;have HM3:=Lib.hid hm3;have HS3:=Lib.hid (HS2.out.trans hs3);have HR3:=Lib.hid hr3;clear hm3 hs3 hr3;obtain ⟨⟨q30,q31,q32⟩,_⟩:=HBX.out _ HS3.out)
    | (go_at_call 176;with_reducible refine (fclose_some _ HM3.out _ [F8.wBegun] HR3.out (by decide) (by have:=HRL2.out;omega) HMEM2.out).mono ?_;rintro e w5 ⟨rfl,hm4,hs4⟩;have HM4:=Lib.hid hm4;have HS4:=Lib.hid (HS3.out.trans hs4);clear hm4 hs4;obtain ⟨⟨q40,q41,q42⟩,_⟩:=HBX.out _ HS4.out)
    | (go_at_call 177;with_reducible refine (fjump_any _ HM4.out _ _ _ xl k2 (HBX.out _ HS4.out).2.1 HNW.out ⟨_,_,_,rfl⟩ (by have:=HNO.out;have:=HRL.out;have:=HNM.out;simp only [List.length_append,List.length_cons,List.length_nil];omega)).mono ?_;rintro e w6 ⟨rfl,hm5,hs5⟩;have HM5:=Lib.hid hm5;have HS5:=Lib.hid (HS4.out.trans hs5);clear hm5 hs5;obtain ⟨⟨q50,q51,q52⟩,_⟩:=HBX.out _ HS5.out)
    | (go_at_call 178;with_reducible refine (fhere_any _ HM5.out (.slice none 0 0) (.slice none 0 0) ⟨#[]⟩ [] kt (OwnS.nil 0 _).rd (Nat.zero_le _) ⟨_,_,_,rfl⟩ (by have:=HNO.out;have:=HRL.out;have:=HNM.out;simp only [List.length_append,List.length_cons,List.length_nil];omega)).mono ?_;rintro e w7 ⟨rfl,hm6,hs6⟩;have HM6:=Lib.hid hm6;have HS6:=Lib.hid (HS5.out.trans hs6);clear hm6 hs6;obtain ⟨⟨q60,q61,q62⟩,_⟩:=HBX.out _ HS6.out))
   go_ret
   rw [HR.out]
   exact ⟨rfl,HM6.out.later HM6.out.le (Nat.le_refl _),HST.out.trans HS6.out⟩
  ·have HNONE2:=Lib.hid (show ∀ x k r',r = (x,k) :: r'→x ∉ [F8.wBegun] from fun x k r' e hx=>hop2 ⟨k,r',by simp only [List.mem_cons,List.not_mem_nil,or_false] at hx;rw [e,hx]⟩)
   have HR:=Lib.hid (show F8.own .repeatK ⟨so,(wt,kt) :: r,sm⟩ ⟨xl,[114,101,112,101,97,116],xa⟩ = some ⟨so ++ [F8.jmp xl []] ++ [F8.at_ [] kt],r,sm⟩ from by
    simp only [F8.own]
    rw [if_pos HOWN.out]
    cases r with
    | nil=>rfl
    | cons q r'=>
     obtain ⟨a,b⟩:=q
     dsimp only
     rw [if_neg (fun e=>hop2 ⟨b,r',by rw [e]⟩)])
   clear hop2
   go_enter Tryz.func115,Tryz.ntmps115
   go_wp2_with (first
    | (go_at_call 176;with_reducible refine (fclose_some _ HM1.out _ [F8.wWhile] HR1.out (by decide) (by have:=HRL.out;omega) HMEM.out).mono ?_;rintro e w3 ⟨rfl,hm2,hs2⟩;have HM2:=Lib.hid hm2;have HS2:=Lib.hid (HS1.out.trans hs2);clear hm2 hs2;obtain ⟨⟨q20,q21,q22⟩,_⟩:=HBX.out _ HS2.out;obtain ⟨hm3,hs3,hr3⟩:=F8.words_new HM2.out [F8.wBegun] (by decide) #[.string ⟨#[98,101,103,117,110]⟩] rfl 1 rfl;have HM3:=Lib.hid hm3;have HS3:=Lib.hid (HS2.out.trans hs3);have HR3:=Lib.hid hr3;clear hm3 hs3 hr3;obtain ⟨⟨q30,q31,q32⟩,_⟩:=HBX.out _ HS3.out)
    | (go_at_call 176;refine (fclose_none _ HM3.out _ [F8.wBegun] HR3.out (by decide) (by have:=HRL.out;show r.length≤100000;omega) HNONE2.out).mono ?_;rintro e w' ⟨rfl,rfl⟩)
    | (go_at_call 177;with_reducible refine (fjump_any _ HM3.out _ _ _ xl [] (HBX.out _ HS3.out).2.1 HNW.out ⟨_,_,_,rfl⟩ (by have:=HNO.out;have:=HRL.out;have:=HNM.out;simp only [List.length_append,List.length_cons,List.length_nil];omega)).mono ?_;rintro e w6 ⟨rfl,hm5,hs5⟩;have HM5:=Lib.hid hm5;have HS5:=Lib.hid (HS3.out.trans hs5);clear hm5 hs5;obtain ⟨⟨q50,q51,q52⟩,_⟩:=HBX.out _ HS5.out)
    | (go_at_call 178;with_reducible refine (fhere_any _ HM5.out (.slice none 0 0) (.slice none 0 0) ⟨#[]⟩ [] kt (OwnS.nil 0 _).rd (Nat.zero_le _) ⟨_,_,_,rfl⟩ (by have:=HNO.out;have:=HRL.out;have:=HNM.out;simp only [List.length_append,List.length_cons,List.length_nil];omega)).mono ?_;rintro e w7 ⟨rfl,hm6,hs6⟩;have HM6:=Lib.hid hm6;have HS6:=Lib.hid (HS5.out.trans hs6);clear hm6 hs6;obtain ⟨⟨q60,q61,q62⟩,_⟩:=HBX.out _ HS6.out))
   go_ret
   rw [HR.out]
   exact ⟨rfl,HM6.out.later HM6.out.le (Nat.le_refl _),HST.out.trans HS6.out⟩
 ·have HNONE:=Lib.hid (show ∀ x k r,sp = (x,k) :: r→x ∉ [F8.wWhile] from fun x k r e hx=>hop ⟨x,k,r,e,by simp only [List.mem_cons,List.not_mem_nil,or_false] at hx;exact hx⟩)
  have HR:=Lib.hid (show F8.own .repeatK ⟨so,sp,sm⟩ ⟨xl,[114,101,112,101,97,116],xa⟩ = none from by
   cases sp with
   | nil=>rfl
   | cons q r=>
    obtain ⟨a,b⟩:=q
    simp only [F8.own]
    rw [if_neg (fun e=>hop ⟨a,b,r,rfl,e⟩)])
  clear hop
  go_enter Tryz.func115,Tryz.ntmps115
  go_wp2_with (first
   | (go_at_call 176;refine (fclose_none _ HM1.out _ [F8.wWhile] HR1.out (by decide) (by have:=HNO.out;have:=HNP.out;have:=HNM.out;simp only [List.length_append,List.length_cons,List.length_nil];omega) HNONE.out).mono ?_;rintro e w' ⟨rfl,rfl⟩))
  go_ret
  rw [HR.out]
  exact ⟨rfl,HST.out.below.trans HS1.out.below⟩
theorem F8.made_prefix (s:List UInt8):Lib.hasPrefix s [64] = F8.made s:=by
 unfold F8.made
 cases s with
 | nil=>rfl
 | cons c t=>
  unfold Lib.hasPrefix
  simp only [List.isPrefixOf,Bool.and_true,List.headD_cons]
  rw [Bool.eq_iff_iff,beq_iff_eq,beq_iff_eq]
  exact ⟨fun h=>h.symm,fun h=>h.symm⟩
theorem fmade_any (s:List UInt8) (w:World) (hs:s.length≤1000000000):Calls Tryz.prog 113 #[.string ⟨s.toArray⟩] w fun e w'=>e = .returned (.bool (F8.made s))∧Below w.heap.size w w':=by
 have CP:=Lib.hid (fun W=>Tryz.strings_HasPrefix ⟨s.toArray⟩ ⟨#[64]⟩ W)
 have HP:=Lib.hid (F8.made_prefix s)
 go_enter Tryz.func113,Tryz.ntmps113
 go_wp2_with (go_at_call 114;refine (CP.out _).mono ?_;rintro e w1 ⟨rfl,rfl⟩)
 go_ret
 exact ⟨lret_bool HP.out,Below.refl _ _⟩
set_option maxRecDepth 20000 in
set_option maxHeartbeats 1000000 in
theorem findex_made (v:Value) (l:List (List UInt8)) (w:World) (h:RdS w v l) (hl:l.length≤1000000000) (hs:∀ x ∈ l,x.length≤1000000000) :
  Calls Tryz.prog 171 #[v,.func (.func 113) #[] #[]] w fun e w'=>e = .returned (.int .i64 (L6.idx (F8.made) l))∧Below w.heap.size w w':=by
 have HH:=Lib.hid h
 have HL:=Lib.hid hl
 have HS:=Lib.hid hs
 have HY:=Lib.hid (fun (k:Nat) hk h hno=>L6.idx_yes (p:=F8.made) (l:=l) (k:=k) hk h hno)
 have HNO:=Lib.hid (fun hno=>L6.idx_no (p:=F8.made) (l:=l) hno)
 obtain ⟨A,c,rfl⟩:=h.form
 clear h hl hs
 go_enter Tryz.func171,Tryz.ntmps171
 go_wp2_with fail
 go_loopw [8] (fun i wr=>∃ k:Nat,k≤l.length∧i = .int .i64 (k:Int)∧(∀ j,j < k→(F8.made) (l.getD j []) = false)∧Below w.heap.size w wr) (fun i _=>l.length - (intOf i).toNat)
 case atStart=>exact ⟨0,Nat.zero_le _,rfl,fun j hj=>absurd hj (by omega),Below.refl _ _⟩
 case round=>
  obtain ⟨k,hk,rfl,hno,hbr⟩:=hrel
  have HN:=Lib.hid hno
  have HBR:=Lib.hid hbr
  clear hno hbr
  by_cases hlt:k < l.length
  ·have hlt':(k:Int) < (l.length:Int):=by omega
   have hw1:IntKind.i64.wrap ((k:Int)+1) = (k:Int)+1:=by have:=HL.out;rw [IntKind.wrap_i64];omega
   obtain ⟨g,off,c',e,hg,hcell⟩:=HH.out.at hlt
   injection e with e1 e2 e3
   subst e1 e3
   have hcr:wr.cell? ⟨g,off+k,none⟩ = some (.string ⟨(l.getD k []).toArray⟩):=(HBR.out.cell (p:=⟨g,off+k,none⟩) hg).trans hcell
   have hxl:(l.getD k []).length≤1000000000:=HS.out _ (by rw [List.getD,List.getElem?_eq_getElem hlt];exact List.getElem_mem hlt)
   have HLT:=Lib.hid hlt
   have HYK:=Lib.hid (fun h=>HY.out k HLT.out h HN.out)
   have HNK:=Lib.hid (fun (h:(F8.made) (l.getD k []) = false) j (hj:j < k+1)=>show (F8.made) (l.getD j []) = false from by
    by_cases e:j = k
    ·rw [e];exact h
    ·exact HN.out j (by omega))
   clear hcell hlt
   generalize l.getD k [] = x at *
   have CB:=Lib.hid (fmade_any x wr hxl)
   cases hb:(F8.made) x
   ·have CF:=Lib.hid (CB.out.mono (R':=fun e w'=>e = .returned (.bool false)∧Below wr.heap.size wr w') (fun e w' hh=>⟨hh.1.trans (lret_bool hb),hh.2⟩))
    have HK:=Lib.hid (HNK.out hb)
    clear hb CB HNK HYK
    go_wp2_with (go_at_call 113;refine CF.out.mono ?_;rintro e w1 ⟨rfl,hb1⟩)
    go_roundw
    case rel=>exact ⟨k+1,HLT.out,by simp,HK.out,HBR.out.trans (hb1.mono HBR.out.size)⟩
    case measure=>simp [intOf];have:=HLT.out;omega
   ·have CF:=Lib.hid (CB.out.mono (R':=fun e w'=>e = .returned (.bool true)∧Below wr.heap.size wr w') (fun e w' hh=>⟨hh.1.trans (lret_bool hb),hh.2⟩))
    have HK:=Lib.hid (HYK.out hb)
    clear hb CB HNK HYK
    go_wp2_with (go_at_call 113;refine CF.out.mono ?_;rintro e w1 ⟨rfl,hb1⟩)
    go_ret
    exact ⟨lret_int HK.out.symm,HBR.out.trans (hb1.mono HBR.out.size)⟩
  ·obtain rfl:k = l.length:=by omega
   have HR:=Lib.hid (HNO.out HN.out)
   go_wp2_with fail
   go_ret
   exact ⟨lret_int HR.out.symm,HBR.out⟩
theorem fcontains_made (v:Value) (l:List (List UInt8)) (w:World) (h:RdS w v l) (hl:l.length≤1000000000) (hs:∀ x ∈ l,x.length≤1000000000) :
  Calls Tryz.prog 112 #[v,.func (.func 113) #[] #[]] w fun e w'=>e = .returned (.bool (l.any (F8.made)))∧Below w.heap.size w w':=by
 have CI:=Lib.hid (findex_made v l w h hl hs)
 have HA:=Lib.hid (L6.idx_any (F8.made) l)
 obtain ⟨A,c,rfl⟩:=h.form
 go_enter Tryz.func112,Tryz.ntmps112
 go_wp2_with (go_at_call 171;refine CI.out.mono ?_;rintro e w1 ⟨rfl,hb1⟩)
 go_ret
 exact ⟨lret_bool HA.out,hb1⟩
theorem own_but_ne {base g:Nat} {w w':World} {e:TypeId} {v:Value} {size n:Nat} {xs:List Value} (h:w.ownsRow base e size v n xs) (hne:v.ownBlock ≠ some g) (hb:But g w w'):w'.ownsRow base e size v n xs:=by
 obtain ⟨h1,h2⟩:=h
 refine ⟨h1,?_⟩
 rcases h2 with h2 | ⟨g',cap,cur,rfl,hb',hh,rest⟩
 ·exact .inl h2
 ·exact .inr ⟨g',cap,cur,rfl,hb',(hb.block (Array.getElem?_eq_some_iff.1 hh).1 (fun e=>hne (by simp [Value.ownBlock,e]))).trans hh,rest⟩
theorem F8.Mk.but {own:Bool} {TM TL TO:TypeId} {B:Nat} {W W':World} {gm H gx:Nat} {S:F8.St} {T:TypeId} {cx:Array Value} (h:F8.Mk own TM TL TO B W gm H S) (hb:But gx W W') (hf:F8.Free gm W gx) (hk:Bk W gx T cx) (hT:T ≠ 9) (hB:B≤gx) :
  F8.Mk own TM TL TO B W' gm H S∧Below B W W'∧(∀ {base:Nat} {v:Value} {l:List (List UInt8)},OwnZ base W v l→OwnZ base W' v l):=by
 obtain ⟨vo,vp,cs,h1,h2,h3,h4,h5⟩:=h.obj
 have hbl:Below B W W':=hb.below hB h.size
 have hz:∀ {base:Nat} {v:Value} {l:List (List UInt8)},OwnZ base W v l→OwnZ base W' v l:=by
  intro base v l hz
  rcases hz with hz | hz
  ·exact .inl (own_but hz hk hT hb)
  ·exact .inr hz
 refine ⟨⟨Nat.le_trans h.size hb.size,h.ge,Nat.le_trans h.le hb.size,⟨vo,vp,cs,hb.bk h1 (Ne.symm hf.1),own_but_ne h2 (hf.2.1 vo (h1.cell 0)) hb,h3.map fun v l hz0=>?_,own_but_ne h4 (hf.2.2 vp (h1.cell 1)) hb,h5⟩⟩,hbl,hz⟩
 rcases hz0 with hz0 | ⟨e1,e2,e3⟩
 ·exact .inl (hz hz0)
 ·exact .inr ⟨e1,Rd.keep e2 hb.size fun g off c e hn hg=>hbl.block g (e3 g off _ c e hn),e3⟩
theorem fline_any {B gm H:Nat} {S:F8.St} (w:World) (vl va:Value) (x:L6.Line) (h:F8.LineIn B gm H S w vl va x) {k:F8.K} (hk:F8.kind x.word = some k) (hf:F8.fine k x = true) :
  Calls Tryz.prog 115 #[.pointer (some ⟨gm,0,none⟩),.agg #[vl,.string ⟨x.word.toArray⟩,va]] w (F8.LinePost B gm w (F8.own k S x)):=by
 have hx:=F8.word_kind hk
 have h3:F8.cond k = true→x.args.length = 3:=fun hc=>by
  unfold F8.fine at hf
  rw [if_pos hc] at hf
  simp at hf
  exact hf.1
 cases k
 ·exact fline_if w vl va x h hx (h3 rfl)
 ·exact fline_else w vl va x h hx
 ·exact fline_then w vl va x h hx
 ·exact fline_begin w vl va x h hx
 ·exact fline_while w vl va x h hx (h3 rfl)
 ·exact fline_repeat w vl va x h hx
 ·exact fline_until w vl va x h hx (h3 rfl)
 ·exact fline_again w vl va x h hx
def F8.OwnD (B:Nat) (w:World) (v:Value) (ls:List L6.Line):Prop:=∃ cs H,w.ownsRow B 105 3 v ls.length cs∧F8.Ls (OwnZ B w) ls cs∧F8.Apart H cs
theorem F8.OwnD.nil (B:Nat) (w:World):F8.OwnD B w (.slice none 0 0) []:=⟨[],0,World.ownsRow_nil w B _ _,rfl,by simp [F8.blks],by simp [F8.blks]⟩
theorem F8.OwnD.rd {B:Nat} {w:World} {v:Value} {ls:List L6.Line} (h:F8.OwnD B w v ls):RdL w v ls:=by
 obtain ⟨cs,H,h1,h2,h3⟩:=h
 exact ⟨cs,Rd.of_own h1,F8.Ls.rd (fun _ _ hz=>hz.rd) h2⟩
theorem F8.OwnD.kept {B:Nat} {w w':World} {v:Value} {ls:List L6.Line} (h:F8.OwnD B w v ls) (hb:Below w.heap.size w w'):F8.OwnD B w' v ls:=by
 obtain ⟨cs,H,h1,h2,h3⟩:=h
 exact ⟨cs,H,own_kept h1 hb,h2.map fun _ _ hz=>hz.kept hb,h3⟩
def F8.PlainPost (w:World) (r:List L6.Line × Nat × Nat) (e:Ending) (w':World):Prop:=∃ v,e = .returned (.tuple #[v,.int .i64 (r.2.1:Int),.int .i64 (r.2.2:Int)])∧F8.OwnD w.heap.size w' v r.1∧Below w.heap.size w w'
theorem F8.plain_bad {ls:List L6.Line} {n e:Nat} (h:F8.run F8.own 0 F8.start ls = .inl (n,e)):F8.plain ls = ([],n,e):=by unfold F8.plain;rw [h];rfl
theorem F8.post_bad {w w':World} {ls:List L6.Line} {n e:Nat} {i j:Int} (h:F8.run F8.own 0 F8.start ls = .inl (n,e)) (hi:i = n) (hj:j = e) (hb:Below w.heap.size w w'):F8.PlainPost w (F8.plain ls) (.returned (.tuple #[.slice none 0 0,.int .i64 i,.int .i64 j])) w':=by
 rw [F8.plain_bad h,hi,hj]
 exact ⟨_,rfl,F8.OwnD.nil _ _,hb⟩
def F8.Fit (x:L6.Line):Prop:=x.labels.length≤100000∧x.args.length≤100000∧∀ s ∈ x.labels,s.length≤1000000000
theorem F8.mk_start (w:World):F8.MkO w.heap.size (w.alloc (.cells #[.slice none 0 0,.slice none 0 0,.int .i64 0] 214)) w.heap.size (w.alloc (.cells #[.slice none 0 0,.slice none 0 0,.int .i64 0] 214)).heap.size F8.start:=
 ⟨by simp,Nat.le_refl _,Nat.le_refl _,⟨.slice none 0 0,.slice none 0 0,[],Bk.fresh w _ _,World.ownsRow_nil _ _ _ _,rfl,World.ownsRow_nil _ _ _ _,F8.Sep.nil _ _⟩⟩
set_option maxRecDepth 100000 in
set_option maxHeartbeats 8000000 in
theorem fplain_any (v:Value) (ls:List L6.Line) (w:World) (h:RdL w v ls) (hl:ls.length≤40000) (hx:∀ x ∈ ls,F8.Fit x) (hT:L6.Tab w) :
  Calls Tryz.prog 54 #[v] w (F8.PlainPost w (F8.plain ls)):=by
 have HH:=Lib.hid h
 have HX:=Lib.hid hx
 have HLL:=Lib.hid hl
 have HTB:=Lib.hid (show F8.TabB w.heap.size w from ⟨hT,F8.tab_lt hT⟩)
 obtain ⟨A,c,rfl⟩:=h.form
 have hm0:=F8.mk_start w
 have hb0:Below w.heap.size w (w.alloc (.cells #[.slice none 0 0,.slice none 0 0,.int .i64 0] 214)):=(Below.refl _ _).alloc (Nat.le_refl _) _
 have HM0:=Lib.hid hm0
 have HB0:=Lib.hid hb0
 clear h hx hl hT hm0 hb0
 go_enter Tryz.func54,Tryz.ntmps54
 go_wp2_with fail
 go_loopw [14] (fun i wr=>∃ (k:Nat) (S:F8.St),i = .int .i64 (k:Int)∧k≤ls.length∧F8.run F8.own 0 F8.start (ls.take k) = .inr S∧F8.MkO w.heap.size wr w.heap.size wr.heap.size S∧Below w.heap.size w wr) (fun i _=>ls.length - (intOf i).toNat)
 case atStart=>exact ⟨0,F8.start,rfl,Nat.zero_le _,rfl,HM0.out,HB0.out⟩
 case round=>
  obtain ⟨k,S,rfl,hk,hrun,hm,hbr⟩:=hrel
  have HRUN:=Lib.hid hrun
  have HM:=Lib.hid hm
  have HBR:=Lib.hid hbr
  have hsz:=F8.run_size _ _ _ _ hrun
  have HSZ:=Lib.hid (show S.out.length≤80000∧S.opn.length≤40000∧S.made≤40000 from by have:=HLL.out;simp [F8.start] at hsz;omega)
  clear hrun hm hbr hsz
  by_cases hlt:k < ls.length
  ·have hlt':(k:Int) < (ls.length:Int):=by omega
   have hw1:IntKind.i64.wrap ((k:Int)+1) = (k:Int)+1:=by have:=HLL.out;rw [IntKind.wrap_i64];omega
   have HTK:=Lib.hid (F8.run_take F8.own ls hlt 0 F8.start S HRUN.out)
   obtain ⟨g,off,c',va1,va2,e,hg,c0,c1,c2,r1,r2⟩:=HH.out.at hlt
   injection e with e1 e2 e3
   subst e1 e3
   have HLT:=Lib.hid (show k+1≤ls.length from hlt)
   have f1:=HX.out _ (List.getElem_mem hlt)
   generalize ls[k] = X at *
   obtain ⟨xl,xw,xa⟩:=X
   obtain ⟨B1,cc1,rfl⟩:=r1.form
   obtain ⟨B2,cc2,rfl⟩:=r2.form
   dsimp only at c0 c1 c2 r1 r2 f1
   have HF:=Lib.hid f1
   have q0:wr.cell? ⟨g,off+k * 3,none⟩ = some (.slice B1 xl.length cc1):=(HBR.out.cell (p:=⟨g,_,none⟩) hg).trans c0
   have q1:wr.cell? ⟨g,off+k * 3+1,none⟩ = some (.string ⟨xw.toArray⟩):=(HBR.out.cell (p:=⟨g,_,none⟩) hg).trans c1
   have q2:wr.cell? ⟨g,off+k * 3+2,none⟩ = some (.slice B2 xa.length cc2):=(HBR.out.cell (p:=⟨g,_,none⟩) hg).trans c2
   obtain ⟨w1,hw1e⟩:∃ w1,wr.alloc (.cells #[.slice B1 xl.length cc1,.string ⟨xw.toArray⟩,.slice B2 xa.length cc2] 105) = w1:=⟨_,rfl⟩
   have hal:Below wr.heap.size wr w1:=by rw [← hw1e];exact (Below.refl _ _).alloc (Nat.le_refl _) _
   have hsz1:w1.heap.size = wr.heap.size+1:=by rw [← hw1e];simp
   have hbk1:Bk w1 wr.heap.size 105 #[.slice B1 xl.length cc1,.string ⟨xw.toArray⟩,.slice B2 xa.length cc2]:=by rw [← hw1e];exact Bk.fresh wr _ _
   have hbe1:Below w.heap.size w w1:=HBR.out.trans (hal.mono HBR.out.size)
   have CCL:=Lib.hid (fclone_any _ _ ⟨xl,xw,xa⟩ w1 ((r1.kept HBR.out).kept hal) ((r2.kept HBR.out).kept hal) (Nat.le_trans (show xl.length≤100000 from f1.1) (by decide)) (Nat.le_trans (show xa.length≤100000 from f1.2.1) (by decide)))
   have b0:=hbk1.cell 0
   have b1:=hbk1.cell 1
   have b2:=hbk1.cell 2
   have HM1:=Lib.hid (HM.out.kept hal)
   have HBE1:=Lib.hid hbe1
   have HSZ1:=Lib.hid hsz1
   have HBK1:=Lib.hid hbk1
   have HFR:=Lib.hid (HM.out.free hal (Nat.le_refl wr.heap.size))
   have HAL:=Lib.hid hal
   clear c0 c1 c2 r1 r2 f1 hal hsz1 hbk1 hbe1
   go_wp2_with (go_at_call 110;refine CCL.out.mono ?_)
   rintro e w2 ⟨vl,va,rfl,hol,hoa,hdis,hb2⟩
   obtain ⟨A3,c3,rfl⟩:=hol.form
   obtain ⟨A4,c4,rfl⟩:=hoa.form
   dsimp only at hol hoa hdis
   have hk2:=HBK1.out.kept hb2
   have d0:=hk2.cell 0
   have d1:=hk2.cell 1
   have d2:=hk2.cell 2
   have e0:=hk2.free 0
   have e1:=hk2.free 1
   have e2:=hk2.free 2
   have hbut:=((But.setCell w2 wr.heap.size 0 (.slice A3 xl.length c3)).trans (But.setCell _ _ 1 (.string ⟨xw.toArray⟩))).trans (But.setCell _ _ 2 (.slice A4 xa.length c4))
   have hk3:=((hk2.set 0 (.slice A3 xl.length c3)).set 1 (.string ⟨xw.toArray⟩)).set 2 (.slice A4 xa.length c4)
   simp only [List.setIfInBounds_toArray,List.set_cons_zero,List.set_cons_succ] at hk3
   obtain ⟨hm3,hbl3,hz3⟩:=(HM1.out.kept hb2).but hbut ((HM1.out.kept hb2).free (W:=w2) (Below.refl _ _) (Nat.le_refl _) |> fun _=>HFR.out.same (hb2.block _ HM1.out.lt)) hk2 (by decide) HBR.out.size
   obtain ⟨w3,hw3⟩:∃ w3,((w2.setCell ⟨wr.heap.size,0,none⟩ (.slice A3 xl.length c3)).setCell ⟨wr.heap.size,1,none⟩ (.string ⟨xw.toArray⟩)).setCell ⟨wr.heap.size,2,none⟩ (.slice A4 xa.length c4) = w3:=⟨_,rfl⟩
   rw [hw3] at hk3 hm3 hbl3 hz3 hbut
   have hol3:=hz3 (.inl hol)
   have hoa3:=hz3 (.inl hoa)
   have k0:=hk3.cell 0
   have k1:=hk3.cell 1
   have k2:=hk3.cell 2
   have HM3:=Lib.hid hm3
   have HK3:=Lib.hid hk3
   have HOL:=Lib.hid hol3
   have HOA:=Lib.hid hoa3
   have HDIS:=Lib.hid hdis
   have HBE3:=Lib.hid (show Below w.heap.size w w3 from (HBE1.out.trans (hb2.mono HBE1.out.size)).trans hbl3)
   have HFR3:=Lib.hid ((HFR.out.same (hb2.block _ HM1.out.lt)).same (hbut.block (Nat.lt_of_lt_of_le HM1.out.lt hb2.size) (Ne.symm HFR.out.1)))
   have CR:=Lib.hid (fright_any (.slice A3 xl.length c3) (.slice A4 xa.length c4) ⟨xl,xw,xa⟩ w3 ⟨_,_,_,rfl⟩ hoa3.rd (Nat.le_trans (show xa.length≤100000 from HF.out.2.1) (by decide)))
   clear hol hoa hdis hk2 hbut hk3 hm3 hbl3 hz3 hol3 hoa3 hb2 b0 b1 b2
   go_wp2_with (go_at_call 111;refine CR.out.mono ?_)
   rintro e w4 ⟨rfl,hb4⟩
   obtain ⟨fine,is,hask⟩:∃ a b,F8.ask ⟨xl,xw,xa⟩ = (a,b):=⟨_,_,rfl⟩
   have HASK:=Lib.hid hask
   rw [hask]
   dsimp only
   have hk4:=HK3.out.kept hb4
   have g0:=hk4.cell 0
   have g1:=hk4.cell 1
   have g2:=hk4.cell 2
   have HK4:=Lib.hid hk4
   have HB4:=Lib.hid hb4
   have CM:=Lib.hid (fcontains_made (.slice A3 xl.length c3) xl w4 (HOL.out.rd.kept hb4) (Nat.le_trans (show xl.length≤100000 from HF.out.1) (by decide)) (fun x hx=>HF.out.2.2 x hx))
   clear hb4 hk4 hask
   go_wp2_with (go_at_call 112;refine CM.out.mono ?_)
   rintro e w5 ⟨rfl,hb5⟩
   have hb35:=HB4.out.trans (hb5.mono HB4.out.size)
   have hk5:=HK3.out.kept hb35
   have i0:=hk5.cell 0
   have i1:=hk5.cell 1
   have i2:=hk5.cell 2
   have HM5:=Lib.hid (HM3.out.kept hb35)
   have HOL5:=Lib.hid (HOL.out.kept hb35)
   have HOA5:=Lib.hid (HOA.out.kept hb35)
   have HBE5:=Lib.hid (show Below w.heap.size w w5 from HBE3.out.trans (hb35.mono HBE3.out.size))
   clear hb5 hb35 hk5
   cases hmd:xl.any F8.made
   ·have HLS:=Lib.hid (show F8.step F8.own S ⟨xl,xw,xa⟩ = (match F8.kind xw with | none=>.ok ⟨S.out ++ [⟨xl,xw,xa⟩],S.opn,S.made⟩ | some k=>if F8.fine k ⟨xl,xw,xa⟩ then (match F8.own k S ⟨xl,xw,xa⟩ with | some S'=>.ok S' | none=>.bad 44) else .bad 40) from by unfold F8.step;rw [if_neg (by rw [hmd];decide)];rfl)
    clear hmd
    have HZ1:=Lib.hid (show wr.heap.size≤w1.heap.size from by rw [HSZ1.out];exact Nat.le_succ _)
    cases hkd:F8.kind xw with
    | none=>
     have ha:=HASK.out
     rw [F8.ask_none hkd] at ha
     injection ha with ha1 ha2
     subst ha1 ha2
     have hst:F8.step F8.own S ⟨xl,xw,xa⟩ = .ok ⟨S.out ++ [⟨xl,xw,xa⟩],S.opn,S.made⟩:=by rw [HLS.out,hkd]
     have hnx:=HTK.out.1
     rw [hst] at hnx
     have HNX:=Lib.hid hnx
     have hnew:F8.New wr.heap.size w5.heap.size (.slice A3 xl.length c3) (.slice A4 xa.length c4):=
      ⟨fun j hj=>⟨Nat.le_trans HZ1.out (HOL5.out.blk_lt hj).1,(HOL5.out.blk_lt hj).2⟩,fun j hj=>⟨Nat.le_trans HZ1.out (HOA5.out.blk_lt hj).1,(HOA5.out.blk_lt hj).2⟩,HDIS.out⟩
     obtain ⟨A,cA,cs,k0',f0,hkk,hoo1,hs1,hz1,hput⟩:=F8.Mk.room F8.uo llrt HM5.out ⟨xl,xw,xa⟩ (.inl (HOL5.out.rebase (Nat.le_trans HBR.out.size HZ1.out))) (.inl (HOA5.out.rebase (Nat.le_trans HBR.out.size HZ1.out))) (fun _=>hnew)
     have ka:(w5.alloc (.cells #[.slice A3 xl.length c3,.string ⟨xw.toArray⟩,.slice A4 xa.length c4] 105)).cell? ⟨w.heap.size,0,none⟩ = some (.slice A S.out.length cA):=hkk _ ((Below.refl _ _).alloc (Nat.le_refl _) _)
     clear hkk
     have HO1:=Lib.hid hoo1
     have HS1:=Lib.hid hs1
     have HZZ1:=Lib.hid hz1
     have HPUT:=Lib.hid hput
     have HL1:=Lib.hid (show (S.out.length+1) * 64≤140737488355328 by have:=HSZ.out.1;omega)
     have HL2:=Lib.hid (show S.out.length+1≤maxLen by have:=HSZ.out.1;unfold maxLen;omega)
     clear hoo1 hs1 hz1 hput hnew hnx hst hkd k0 k1 k2 g0 g1 g2
     go_wp2_with fail
     go_region_law (refine step_appendRB (by rfl) _ _ _ _ (by rfl) llrt (by decide) w.heap.size (.slice A S.out.length cA) (by rfl) S.out.length cs HO1.out _ (by rfl) 1 [.slice A3 xl.length c3,.string ⟨xw.toArray⟩,.slice A4 xa.length c4] HS1.out HL1.out HL2.out HZZ1.out ?_;intro v6 w6 ho6 hb6 hg6 hv6;obtain ⟨⟨A6,c6,rfl⟩,k6,f6,HM6⟩:=HPUT.out v6 w6 ho6 hb6 hg6 hv6)
     all_goals go_wp2_with fail
     all_goals go_roundw
     all_goals first
      | (case rel=>exact ⟨k+1,_,by simp,HLT.out,HNX.out,HM6.out.1.later HM6.out.1.le (Nat.le_refl _),HBE5.out.trans HM6.out.2.below⟩)
      | (case measure=>have:=HLT.out;simp [intOf];omega)
    | some kd=>
     have ha:=HASK.out
     rw [F8.ask_kind (F8.word_kind hkd)] at ha
     injection ha with ha1 ha2
     subst ha2
     cases hf:F8.fine kd ⟨xl,xw,xa⟩
     ·rw [hf] at ha1
      subst ha1
      have hst:F8.step F8.own S ⟨xl,xw,xa⟩ = .bad 40:=by rw [HLS.out,hkd];dsimp only;rw [if_neg (by rw [hf];decide)]
      have HBAD:=Lib.hid (HTK.out.2 40 hst)
      clear hst hf hkd
      go_wp2_with fail
      go_ret3
      exact F8.post_bad HBAD.out (by simp) rfl HBE5.out
     ·rw [hf] at ha1
      subst ha1
      have hst:F8.step F8.own S ⟨xl,xw,xa⟩ = (match F8.own kd S ⟨xl,xw,xa⟩ with | some S'=>.ok S' | none=>.bad 44):=by rw [HLS.out,hkd];dsimp only;rw [if_pos hf]
      have hin:F8.LineIn w.heap.size w.heap.size wr.heap.size S w5 (.slice A3 xl.length c3) (.slice A4 xa.length c4) ⟨xl,xw,xa⟩:=
       ⟨HM5.out,HTB.out.below HBE5.out,HOL5.out.rebase (Nat.le_trans HBR.out.size HZ1.out),HOA5.out.rebase (Nat.le_trans HBR.out.size HZ1.out),fun j hj=>Nat.le_trans HZ1.out (HOL5.out.blk_lt hj).1,HF.out.1,Nat.le_trans HSZ.out.1 (by decide),Nat.le_trans HSZ.out.2.1 (by decide),Nat.le_trans HSZ.out.2.2 (by decide)⟩
      have hcl:=fline_any w5 _ _ ⟨xl,xw,xa⟩ hin hkd hf
      cases ho:F8.own kd S ⟨xl,xw,xa⟩ with
      | none=>
       rw [ho] at hst hcl
       have CLN:=Lib.hid hcl
       have HBAD:=Lib.hid (HTK.out.2 44 hst)
       clear hst hf hkd hin hcl ho
       go_wp2_with (go_at_call 115;refine CLN.out.mono ?_;rintro e w6 ⟨rfl,hb6⟩)
       go_ret3
       exact F8.post_bad HBAD.out (by simp) rfl (HBE5.out.trans hb6)
      | some S'=>
       rw [ho] at hst hcl
       have CLN:=Lib.hid hcl
       have hnx:=HTK.out.1
       rw [hst] at hnx
       have HNX:=Lib.hid hnx
       clear hst hf hkd hin hcl ho hnx
       go_wp2_with (go_at_call 115;refine CLN.out.mono ?_;rintro e w6 ⟨rfl,hm6,hs6⟩;have HM6:=Lib.hid hm6;have HS6:=Lib.hid hs6;clear hm6 hs6)
       go_roundw
       case rel=>exact ⟨k+1,_,by simp,HLT.out,HNX.out,HM6.out,HBE5.out.trans HS6.out.below⟩
       case measure=>have:=HLT.out;simp [intOf];omega
   ·have HST:=Lib.hid (show F8.step F8.own S ⟨xl,xw,xa⟩ = .bad 41 from by unfold F8.step;rw [if_pos hmd])
    have HBAD:=Lib.hid (HTK.out.2 41 HST.out)
    clear hmd
    go_wp2_with fail
    go_ret3
    exact F8.post_bad HBAD.out (by simp) rfl HBE5.out
  ·obtain rfl:k = ls.length:=by omega
   have hrun:=HRUN.out
   rw [List.take_length] at hrun
   obtain ⟨so,sp,sm⟩:=S
   obtain ⟨vo,vp,cs,h1,h2,h3,h4,h5⟩:=HM.out.obj
   dsimp only at h1 h2 h3 h4
   have c0:=h1.cell 0
   have c1:=h1.cell 1
   obtain ⟨A1,cc1,rfl⟩:=(Rd.of_own h2).form
   obtain ⟨A2,cc2,rfl⟩:=(Rd.of_own h4).form
   have HOUT:=Lib.hid (show F8.OwnD w.heap.size wr (.slice A1 so.length cc1) so from ⟨cs,wr.heap.size,h2,h3.map (fun _ _ hz=>hz.own),h5.apart⟩)
   have hw1:IntKind.i64.wrap ((ls.length:Int)+1) = (ls.length:Int)+1:=by have:=HLL.out;rw [IntKind.wrap_i64];omega
   cases sp with
   | nil=>
    have HP:=Lib.hid (show F8.plain ls = (so,0,0) from by unfold F8.plain;rw [hrun];rfl)
    clear h1 h2 h3 h4 h5 hrun
    go_wp2_with fail
    go_ret3
    rw [HP.out]
    exact ⟨_,rfl,HOUT.out,HBR.out⟩
   | cons q r=>
    have HP:=Lib.hid (show F8.plain ls = ([],ls.length+1,44) from by unfold F8.plain;rw [hrun];rfl)
    have hpos:(0:Int) < ((q :: r).length:Int):=by rw [List.length_cons];omega
    generalize (q :: r).length = np at *
    clear h1 h2 h3 h4 h5 hrun
    go_wp2_with fail
    go_ret3
    rw [HP.out]
    exact ⟨_,by simp,F8.OwnD.nil _ _,HBR.out⟩
end Go.Proofs.YtpcpaoeajcjoiaaGreatDoor
