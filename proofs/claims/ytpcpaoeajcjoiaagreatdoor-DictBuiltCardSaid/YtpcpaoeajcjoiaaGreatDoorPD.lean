/- Texts joined, what is not reached left out. -/
import Derived.Test.YtpcpaoeajcjoiaaGreatDoorQImDef
import Derived.Test.YtpcpaoeajcjoiaaGreatDoorQShelf
set_option linter.unusedVariables false
set_option linter.unusedSimpArgs false
namespace Go.Proofs.YtpcpaoeajcjoiaaGreatDoor
open Go.RowKit Kit
def Im.LPost (F:Nat→Prop) (w:World) (gm:Nat) (r:Im.R) (e:Ending) (w':World):Prop:=
 match r with
 | .bad n=>e = .returned (.int .i64 (n:Int))∧Below w.heap.size w w'
 | .ok S=>e = .returned (.int .i64 0)∧Im.To F w gm S w'
def Im.zz:List ByteArray:=[⟨#[48]⟩,⟨#[49]⟩]
theorem Im.ba_ne {a b:List UInt8} (h:a ≠ b):(⟨a.toArray⟩:ByteArray) ≠ ⟨b.toArray⟩:=fun e=>by
 injection e with e
 exact h (by simpa using congrArg Array.toList e)
theorem Im.idx_none (s:List UInt8) (h0:s ≠ [48]) (h1:s ≠ [49]):Lib.idxOfS (Im.zz.take 2) ⟨s.toArray⟩ = -1:=by
 have e0:(⟨#[48]⟩:ByteArray) ≠ ⟨s.toArray⟩:=Im.ba_ne (a:=[48]) (Ne.symm h0)
 have e1:(⟨#[49]⟩:ByteArray) ≠ ⟨s.toArray⟩:=Im.ba_ne (a:=[49]) (Ne.symm h1)
 simp [Im.zz,Lib.idxOfS,Lib.idxFromS,e0,e1]
theorem Im.idx_zero:Lib.idxOfS (Im.zz.take 2) ⟨([48]:List UInt8).toArray⟩ = 0:=by simp [Im.zz,Lib.idxOfS,Lib.idxFromS]
theorem Im.idx_one:Lib.idxOfS (Im.zz.take 2) ⟨([49]:List UInt8).toArray⟩ = 1:=by
 have e0:(⟨#[48]⟩:ByteArray) ≠ ⟨#[49]⟩:=Im.ba_ne (a:=[48]) (b:=[49]) (by decide)
 simp [Im.zz,Lib.idxOfS,Lib.idxFromS,e0]
theorem Im.list_cases (xl xa:List (List UInt8)) (S:Im.St) (E:Nat) (I:Int) (hE:Im.argsN ⟨xl,Im.tList,xa⟩ 1 false = E) (hI:Lib.idxOfS (Im.zz.take 2) ⟨((xa ++ [[]]).getD 0 []).toArray⟩ = I) :
  (E = 40∧Im.line ⟨xl,Im.tList,xa⟩ S = .bad 40) ∨ (E = 0∧I = -1∧Im.line ⟨xl,Im.tList,xa⟩ S = .bad 40) ∨ (E = 0∧I = 0∧Im.line ⟨xl,Im.tList,xa⟩ S = .ok (Im.put ⟨xl,[],[]⟩ (Im.at_ 0 S))) ∨ (E = 0∧I = 1∧Im.line ⟨xl,Im.tList,xa⟩ S = .ok (Im.put ⟨xl,[],[]⟩ (Im.at_ 1 S))):=by
 unfold Im.line
 rw [if_pos rfl]
 unfold Im.argsN at hE
 dsimp only at *
 match xa with
 | []=>left;exact ⟨by rw [← hE];rfl,by rw [if_neg (by simp),if_neg (by simp)]⟩
 | [a]=>
  right
  have hE0:E = 0:=by rw [← hE];rfl
  have hI2:Lib.idxOfS (Im.zz.take 2) ⟨a.toArray⟩ = I:=hI
  by_cases h0:a = [48]
  ·subst h0;right;left;exact ⟨hE0,by rw [← hI2,Im.idx_zero],by rw [if_pos rfl]⟩
  ·by_cases h1:a = [49]
   ·subst h1;right;right;exact ⟨hE0,by rw [← hI2,Im.idx_one],by rw [if_neg (by simp),if_pos rfl]⟩
   ·left;exact ⟨hE0,by rw [← hI2,Im.idx_none a h0 h1],by rw [if_neg (by simpa using h0),if_neg (by simpa using h1)]⟩
 | a :: b :: r=>left;exact ⟨by rw [← hE];rw [if_pos (by simp)],by rw [if_neg (by simp),if_neg (by simp)]⟩
set_option maxRecDepth 100000 in
set_option maxHeartbeats 8000000 in
theorem iline_list {F:Nat→Prop} {w:World} {gm:Nat} {S:Im.St} (h:Im.Mk F w gm S) (vl va:Value) (xl xa:List (List UInt8)) (hl:As.Rs F w vl xl) (ha:As.Rs F w va xa) (hc:xl.length≤100000∧xa.length≤100000) (hs:∀ a ∈ xa,a.length≤maxLen) (ho:S.out.length≤900000) :
  Calls Tryz.prog 51 #[.pointer (some ⟨gm,0,none⟩),.agg #[vl,.string ⟨#[108,105,115,116]⟩,va]] w (Im.LPost F w gm (Im.line ⟨xl,Im.tList,xa⟩ S)):=by
 have HM:=Lib.hid h
 have HL:=Lib.hid hl
 have HA:=Lib.hid ha
 have HC:=Lib.hid hc
 have HO:=Lib.hid ho
 have HS:=Lib.hid hs
 obtain ⟨Al,kl,hvl⟩:=Rd.form hl.1
 obtain ⟨Aa,ka,hva⟩:=Rd.form ha.1
 subst hvl hva
 obtain ⟨E,hE⟩:∃ E,Im.argsN ⟨xl,Im.tList,xa⟩ 1 false = E:=⟨_,rfl⟩
 obtain ⟨s0,hs0⟩:∃ s,(xa ++ [[]]).getD 0 [] = s:=⟨_,rfl⟩
 obtain ⟨I,hI⟩:∃ I,Lib.idxOfS (Im.zz.take 2) ⟨((xa ++ [[]]).getD 0 []).toArray⟩ = I:=⟨_,rfl⟩
 have HCASE:=Lib.hid (Im.list_cases xl xa S E I hE hI)
 rw [hs0] at hI
 generalize Im.line ⟨xl,Im.tList,xa⟩ S = R at *
 obtain ⟨w0,hw0⟩:∃ a,w.alloc (.cells #[.slice Al xl.length kl,.string ⟨#[108,105,115,116]⟩,.slice Aa xa.length ka] 105) = a:=⟨_,rfl⟩
 have HB0:=Lib.hid (show Below w.heap.size w w0 from hw0 ▸ Im.alloc_below w _)
 have HK0:=Lib.hid (show Bk w0 w.heap.size 105 #[.slice Al xl.length kl,.string ⟨#[108,105,115,116]⟩,.slice Aa xa.length ka] from hw0 ▸ Bk.fresh w _ _)
 have HZ0:=Lib.hid (show w0.heap.size = w.heap.size+1 by rw [← hw0];simp)
 have HM0:=Lib.hid (h.kept HB0.out)
 have HRA:=Lib.hid (show ∀ W,Below w0.heap.size w0 W→RdS W (.slice Aa xa.length ka) xa from fun W hW=>RdS.kept (RdS.kept ha.1 HB0.out) hW)
 have HRL:=Lib.hid (show ∀ W,Below w0.heap.size w0 W→RdS W (.slice Al xl.length kl) xl from fun W hW=>RdS.kept (RdS.kept hl.1 HB0.out) hW)
 have CA:=Lib.hid (show ∀ W,Below w0.heap.size w0 W→Calls Tryz.prog 104 #[.agg #[.slice Al xl.length kl,.string ⟨#[108,105,115,116]⟩,.slice Aa xa.length ka],.int .i64 1,.bool false] W fun e w'=>e = .returned (.int .i64 (E:Nat))∧Below W.heap.size W w' from fun W hW=>by
  rw [← hE]
  exact iargs_any _ _ ⟨xl,Im.tList,xa⟩ W (HRL.out W hW) (HRA.out W hW) 1 false (.inl rfl) hs (show xa.length≤maxLen by have:=hc.2;unfold maxLen;omega))
 have HBK:=Lib.hid (show ∀ W,Below w0.heap.size w0 W→∀ i,W.cell? ⟨w.heap.size,i,none⟩ = (#[.slice Al xl.length kl,.string ⟨#[108,105,115,116]⟩,.slice Aa xa.length ka]:Array Value)[i]? from fun W hW i=>(HK0.out.kept hW).cell i)
 obtain ⟨w1,hw1⟩:∃ a,w0.alloc (.cells #[.string ⟨#[48]⟩,.string ⟨#[49]⟩] 9) = a:=⟨_,rfl⟩
 have HB1:=Lib.hid (show Below w0.heap.size w0 w1 from hw1 ▸ Im.alloc_below w0 _)
 have HZ1:=Lib.hid (show w1.heap.size = w0.heap.size+1 by rw [← hw1];simp)
 have HKZ:=Lib.hid (show Bk w1 w0.heap.size 9 #[.string ⟨#[48]⟩,.string ⟨#[49]⟩] from hw1 ▸ Bk.fresh w0 _ _)
 have CC:=Lib.hid (Im.cat_at (w:=w0) (W0:=w1) (W2:=w1.alloc (Im.cA [])) (W4:=(w1.alloc (Im.cA [])).alloc (Im.cB (.slice Aa xa.length ka) w1.heap.size)) (vl:=.slice Aa xa.length ka) (labels:=xa) (head:=[]) (g1:=w1.heap.size) (g2:=w1.heap.size+1) (HRA.out w0 (Below.refl _ _)) HB1.out rfl (Below.refl _ _) (by simp) (Below.refl _ _) hc.2)
 have hxp:0 < (xa ++ [[]]).length:=by simp
 generalize xa ++ [[]] = xz at *
 have CIX:=Lib.hid (show ∀ W,Below w1.heap.size w1 W→Calls Tryz.prog 102 #[.slice (some ⟨w0.heap.size,0,none⟩) 2 2,.string ⟨s0.toArray⟩] W fun e w'=>e = .returned (.int .i64 I)∧w' = W from fun W hW=>by
  have:=Tryz.slices_Index_string w0.heap.size 0 2 2 Im.zz ⟨s0.toArray⟩ W (by decide) (by decide) (fun j hj=>by
   have hb:=(HKZ.out.kept hW).cell j
   rw [Nat.zero_add,hb]
   have h2:j < 2:=hj
   match j,h2 with
   | 0,_=>rfl
   | 1,_=>rfl)
  rw [hI] at this
  exact this)
 clear h hl ha hc hs ho hE
 go_enter Tryz.func51,Tryz.ntmps51
 go_upto_region 1 with fail
 clear hw0
 have b0:=HBK.out w0 (Below.refl _ _) 0
 have b1:=HBK.out w0 (Below.refl _ _) 1
 have b2:=HBK.out w0 (Below.refl _ _) 2
 simp at b0 b1 b2
 have d2:=HBK.out w1 HB1.out 2
 simp at d2
 have hxq:¬ (xz.length:Int)≤0:=by omega
 go_upto_region 6 with (first
  | (go_at_call 103;(with_reducible refine CC.out.mono ?_);rintro e w5 ⟨v5,rfl,ho5,hb45,hb5⟩;obtain ⟨g5,off5,c5,hv5,hg5,hc5⟩:=RdS.at (k:=0) ho5.rd hxp;subst hv5;rw [Nat.add_zero,hs0] at hc5;have HB5:=Lib.hid hb5;have HB15:=Lib.hid (show Below w1.heap.size w1 w5 from ((Im.alloc_below w1 _).alloc (by simp) _).trans (hb45.mono (by simp;omega)));have b5:=HBK.out w5 HB5.out 0;have b6:=HBK.out w5 HB5.out 1;have b7:=HBK.out w5 HB5.out 2;simp at b5 b6 b7;clear ho5 hb45 hb5)
  | (go_at_call 102;refine (CIX.out _ HB15.out).mono ?_;rintro e w6 ⟨rfl,rfl⟩)
  | (go_at_call 104;refine (CA.out _ HB5.out).mono ?_;rintro e w7 ⟨rfl,hb7⟩;have HB7:=Lib.hid hb7;clear hb7))
 have HBW:=Lib.hid (show Below w0.heap.size w0 w7 from HB5.out.trans (HB7.out.mono HB5.out.size))
 have HBX:=Lib.hid (show Below w.heap.size w w7 from HB0.out.trans (HBW.out.mono HB0.out.size))
 have hcase:=HCASE.out
 clear b0 b1 b2 d2 b5 b6 b7 hxq
 rcases hcase with ⟨rfl,rfl⟩ | ⟨rfl,rfl,rfl⟩ | ⟨rfl,rfl,rfl⟩ | ⟨rfl,rfl,rfl⟩
 ·go_wp2_with fail
  go_ret
  exact ⟨rfl,HBX.out⟩
 ·go_wp2_with fail
  go_ret
  exact ⟨rfl,HBX.out⟩
 ·have HM7:=Lib.hid (HM0.out.kept HBW.out)
  obtain ⟨A7,c7,hs7⟩:=HM7.out.seen
  have q7:=hs7.list
  have f7:=hs7.f 1
  obtain ⟨F8,m8,s8⟩:=HM7.out.toList 0 (by decide)
  have HM8:=Lib.hid m8
  have HS8:=Lib.hid s8
  clear hs7 m8 s8
  go_upto_region 9 with fail
  obtain ⟨w8,hw8⟩:∃ a,w7.setCell ⟨gm,1,none⟩ (.int .i64 ((0:Nat):Int)) = a:=⟨_,rfl⟩
  rw [hw8] at HM8 HS8
  rw [show w7.setCell ⟨gm,1,none⟩ (.int .i64 0) = w8 from hw8]
  have HK8:=Lib.hid (show Bk w8 w.heap.size 105 #[.slice Al xl.length kl,.string ⟨#[108,105,115,116]⟩,.slice Aa xa.length ka] from
   (HS8.out.fr.block _ (HK0.out.kept HBW.out).lt (fun e=>Nat.lt_irrefl _ (HM.out.lt _ e))).trans (HK0.out.kept HBW.out))
  have b8:=HK8.out.cell 0
  have f8:=HK8.out.free 0
  simp at b8
  have HL8:=Lib.hid (show As.Rs F8 w8 (.slice Al xl.length kl) xl from (HL.out.step (Step.of_below HBX.out)).step HS8.out)
  clear hw8 q7 f7
  go_wp2_with fail
  refine (show Calls Tryz.prog 105 #[.pointer (some ⟨gm,0,none⟩),.slice Al xl.length kl,.string ⟨#[]⟩,.slice none 0 0] w8 _ from iput_any HM8.out (.slice Al xl.length kl) (.slice none 0 0) ⟨xl,[],[]⟩ HL8.out.1 (Im.rs_nil F8 w8) (by have:=HC.out.1;show xl.length≤_;omega) (by have:=HO.out;show S.out.length≤_;omega)).mono ?_
  rintro e w9 ⟨rfl,hto⟩
  have HTO:=Lib.hid ((hto.after HS8.out).after (Step.of_below HBX.out))
  clear hto
  go_wp2_with fail
  go_ret
  exact ⟨rfl,HTO.out⟩
 ·have HM7:=Lib.hid (HM0.out.kept HBW.out)
  obtain ⟨A7,c7,hs7⟩:=HM7.out.seen
  have q7:=hs7.list
  have f7:=hs7.f 1
  obtain ⟨F8,m8,s8⟩:=HM7.out.toList 1 (by decide)
  have HM8:=Lib.hid m8
  have HS8:=Lib.hid s8
  clear hs7 m8 s8
  go_upto_region 9 with fail
  obtain ⟨w8,hw8⟩:∃ a,w7.setCell ⟨gm,1,none⟩ (.int .i64 ((1:Nat):Int)) = a:=⟨_,rfl⟩
  rw [hw8] at HM8 HS8
  rw [show w7.setCell ⟨gm,1,none⟩ (.int .i64 1) = w8 from hw8]
  have HK8:=Lib.hid (show Bk w8 w.heap.size 105 #[.slice Al xl.length kl,.string ⟨#[108,105,115,116]⟩,.slice Aa xa.length ka] from
   (HS8.out.fr.block _ (HK0.out.kept HBW.out).lt (fun e=>Nat.lt_irrefl _ (HM.out.lt _ e))).trans (HK0.out.kept HBW.out))
  have b8:=HK8.out.cell 0
  have f8:=HK8.out.free 0
  simp at b8
  have HL8:=Lib.hid (show As.Rs F8 w8 (.slice Al xl.length kl) xl from (HL.out.step (Step.of_below HBX.out)).step HS8.out)
  clear hw8 q7 f7
  go_wp2_with fail
  refine (show Calls Tryz.prog 105 #[.pointer (some ⟨gm,0,none⟩),.slice Al xl.length kl,.string ⟨#[]⟩,.slice none 0 0] w8 _ from iput_any HM8.out (.slice Al xl.length kl) (.slice none 0 0) ⟨xl,[],[]⟩ HL8.out.1 (Im.rs_nil F8 w8) (by have:=HC.out.1;show xl.length≤_;omega) (by have:=HO.out;show S.out.length≤_;omega)).mono ?_
  rintro e w9 ⟨rfl,hto⟩
  have HTO:=Lib.hid ((hto.after HS8.out).after (Step.of_below HBX.out))
  clear hto
  go_wp2_with fail
  go_ret
  exact ⟨rfl,HTO.out⟩
structure Im.Box (F:Nat→Prop) (W:World) (gl:Nat) (cs:Array Value):Prop where
 bk:Bk W gl 105 cs
 no:¬ F gl
theorem Im.Box.step {F F':Nat→Prop} {W W':World} {gl:Nat} {cs:Array Value} (h:Im.Box F W gl cs) (s:Step F W F' W'):Im.Box F' W' gl cs:=
 ⟨(s.fr.block _ h.bk.lt h.no).trans h.bk,fun e=>(s.new _ e).elim h.no (fun e=>absurd h.bk.lt (by omega))⟩
theorem Im.Box.kept {F:Nat→Prop} {W W':World} {gl:Nat} {cs:Array Value} (h:Im.Box F W gl cs) (hb:Below W.heap.size W W'):Im.Box F W' gl cs:=h.step (Step.of_below hb)
theorem Im.line_def (xl xa:List (List UInt8)) (S:Im.St):Im.line ⟨xl,Im.tDef,xa⟩ S = if Im.flags ⟨xl,Im.tDef,xa⟩ = false then .bad 40 else if Nm.right (xa.getD 0 []) = false then .bad 41 else .ok (Im.def_ xl (xa.getD 0 []) (xa.getD 1 []) S):=by
 unfold Im.line
 rw [if_neg (show ¬ Im.tDef = Im.tList by decide),if_pos rfl,Im.headD_getD]
theorem Im.line_part (xl xa:List (List UInt8)) (S:Im.St):Im.line ⟨xl,Im.tPart,xa⟩ S = if xa.length ≠ 1 then .bad 40 else if Nm.right (xa.getD 0 []) = false then .bad 41 else .ok (Im.begin_ (xa.getD 0 []) (Im.put ⟨xl,As.tWord,[[48]]⟩ (Im.put ⟨[],As.tAlign,[]⟩ (Im.end_ S)))):=by
 unfold Im.line
 rw [if_neg (show ¬ Im.tPart = Im.tList by decide),if_neg (show ¬ Im.tPart = Im.tDef by decide),if_pos rfl,Im.headD_getD]
 simp [Im.puts,Im.put,List.append_assoc]
theorem Im.right_len {l:List UInt8} (h:Nm.right l = true):l.length≤31:=by
 unfold Nm.right at h
 simp at h
 exact h.2.2
theorem Im.flags_len {x:L6.Line} (h:Im.flags x = true):x.args.length = 2:=by
 unfold Im.flags at h
 simp at h
 exact h.1
set_option maxRecDepth 100000 in
set_option maxHeartbeats 8000000 in
theorem iline_def {F:Nat→Prop} {w:World} {gm:Nat} {S:Im.St} (h:Im.Mk F w gm S) (vl va:Value) (xl xa:List (List UInt8)) (hl:As.Rs F w vl xl) (ha:As.Rs F w va xa) (hc:xl.length≤100000∧xa.length≤100000) (hs:∀ a ∈ xa,a.length≤maxLen) (ho:S.out.length≤900000) (hop:S.opn.length≤1000000000) (hT:As.Tb F w) :
  Calls Tryz.prog 51 #[.pointer (some ⟨gm,0,none⟩),.agg #[vl,.string ⟨#[100,101,102]⟩,va]] w (Im.LPost F w gm (Im.line ⟨xl,Im.tDef,xa⟩ S)):=by
 have HM:=Lib.hid h
 have HL:=Lib.hid hl
 have HA:=Lib.hid ha
 have HC:=Lib.hid hc
 have HO:=Lib.hid ho
 have HS:=Lib.hid hs
 have HOP:=Lib.hid hop
 have HT:=Lib.hid hT
 obtain ⟨Al,kl,hvl⟩:=Rd.form hl.1
 obtain ⟨Aa,ka,hva⟩:=Rd.form ha.1
 subst hvl hva
 obtain ⟨w0,hw0⟩:∃ a,w.alloc (.cells #[.slice Al xl.length kl,.string ⟨#[100,101,102]⟩,.slice Aa xa.length ka] 105) = a:=⟨_,rfl⟩
 have HB0:=Lib.hid (show Below w.heap.size w w0 from hw0 ▸ Im.alloc_below w _)
 have HX0:=Lib.hid (show Im.Box F w0 w.heap.size #[.slice Al xl.length kl,.string ⟨#[100,101,102]⟩,.slice Aa xa.length ka] from ⟨hw0 ▸ Bk.fresh w _ _,fun e=>Nat.lt_irrefl _ (h.lt _ e)⟩)
 have HM0:=Lib.hid (h.kept HB0.out)
 have HRA:=Lib.hid (show ∀ W,Below w0.heap.size w0 W→RdS W (.slice Aa xa.length ka) xa from fun W hW=>RdS.kept (RdS.kept ha.1 HB0.out) hW)
 have HRL:=Lib.hid (show ∀ W,Below w0.heap.size w0 W→RdS W (.slice Al xl.length kl) xl from fun W hW=>RdS.kept (RdS.kept hl.1 HB0.out) hW)
 have HBK:=Lib.hid (show ∀ W,Below w0.heap.size w0 W→∀ i,W.cell? ⟨w.heap.size,i,none⟩ = (#[.slice Al xl.length kl,.string ⟨#[100,101,102]⟩,.slice Aa xa.length ka]:Array Value)[i]? from fun W hW i=>(HX0.out.kept hW).bk.cell i)
 have CF:=Lib.hid (show ∀ W,Below w0.heap.size w0 W→Calls Tryz.prog 106 #[.agg #[.slice Al xl.length kl,.string ⟨#[100,101,102]⟩,.slice Aa xa.length ka]] W fun e w'=>e = .returned (.bool (Im.flags ⟨xl,Im.tDef,xa⟩))∧Below W.heap.size W w' from fun W hW=>
  iflags_any _ _ ⟨xl,Im.tDef,xa⟩ W (HRL.out W hW) (HRA.out W hW) hs (show xa.length≤maxLen by have:=hc.2;unfold maxLen;omega))
 have CA:=Lib.hid (show ∀ W,Below w0.heap.size w0 W→Calls Tryz.prog 104 #[.agg #[.slice Al xl.length kl,.string ⟨#[100,101,102]⟩,.slice Aa xa.length ka],.int .i64 2,.bool true] W fun e w'=>e = .returned (.int .i64 (Im.argsN ⟨xl,Im.tDef,xa⟩ 2 true:Nat))∧Below W.heap.size W w' from fun W hW=>
  iargs_any _ _ ⟨xl,Im.tDef,xa⟩ W (HRL.out W hW) (HRA.out W hW) 2 true (.inr rfl) hs (show xa.length≤maxLen by have:=hc.2;unfold maxLen;omega))
 have HV:=Lib.hid (Im.line_def xl xa S)
 have hfl:Im.flags ⟨xl,Im.tDef,xa⟩ = true→xa.length = 2:=fun e=>Im.flags_len e
 have hAN:xa.length = 2→Im.argsN ⟨xl,Im.tDef,xa⟩ 2 true = if Nm.right (xa.getD 0 []) = false then 41 else 0:=fun e=>by
  unfold Im.argsN
  rw [if_neg (by simp [e]),Im.headD_getD]
  cases Nm.right (xa.getD 0 []) <;> rfl
 generalize Im.argsN ⟨xl,Im.tDef,xa⟩ 2 true = E at *
 generalize Im.line ⟨xl,Im.tDef,xa⟩ S = R at *
 cases hf:Im.flags ⟨xl,Im.tDef,xa⟩
 ·rw [hf,if_pos rfl] at HV
  rw [hf] at CF
  have hR:=HV.out
  subst hR
  clear h hl ha hc hs ho hop hT hfl hAN hf HV
  go_enter Tryz.func51,Tryz.ntmps51
  go_upto_region 1 with fail
  clear hw0
  have b0:=HBK.out w0 (Below.refl _ _) 0
  have b1:=HBK.out w0 (Below.refl _ _) 1
  have b2:=HBK.out w0 (Below.refl _ _) 2
  simp at b0 b1 b2
  go_wp2_with (go_at_call 106;refine (CF.out _ (Below.refl _ _)).mono ?_;rintro e w1 ⟨rfl,hb1⟩;have HB1:=Lib.hid hb1;have b5:=HBK.out w1 hb1 0;have b6:=HBK.out w1 hb1 1;have b7:=HBK.out w1 hb1 2;simp at b5 b6 b7;clear hb1)
  go_ret
  exact ⟨rfl,HB0.out.trans (HB1.out.mono HB0.out.size)⟩
 ·have hl2:=hfl hf
  have hE:=hAN hl2
  rw [hf] at CF
  rw [hf,if_neg (by decide)] at HV
  cases hr:Nm.right (xa.getD 0 [])
  ·rw [hr,if_pos rfl] at hE HV
   subst hE
   have hR:=HV.out
   subst hR
   clear h hl ha hc hs ho hop hT hfl hAN hf HV hl2 hr
   go_enter Tryz.func51,Tryz.ntmps51
   go_upto_region 1 with fail
   clear hw0
   have b0:=HBK.out w0 (Below.refl _ _) 0
   have b1:=HBK.out w0 (Below.refl _ _) 1
   have b2:=HBK.out w0 (Below.refl _ _) 2
   simp at b0 b1 b2
   go_wp2_with (first | (go_at_call 106;refine (CF.out _ (Below.refl _ _)).mono ?_;rintro e w1 ⟨rfl,hb1⟩;have HB1:=Lib.hid hb1;have b5:=HBK.out w1 hb1 0;have b6:=HBK.out w1 hb1 1;have b7:=HBK.out w1 hb1 2;simp at b5 b6 b7;clear hb1) | (go_at_call 104;refine (CA.out _ HB1.out).mono ?_;rintro e w2 ⟨rfl,hb2⟩;have HB2:=Lib.hid (HB1.out.trans (hb2.mono HB1.out.size));clear hb2;clear b0 b1 b2 b5 b6 b7;have b0:=HBK.out w2 HB2.out 0;have b1:=HBK.out w2 HB2.out 1;have b2:=HBK.out w2 HB2.out 2;simp at b0 b1 b2))
   go_ret
   exact ⟨rfl,HB0.out.trans (HB2.out.mono HB0.out.size)⟩
  ·rw [hr,if_neg (by decide)] at hE HV
   subst hE
   have hnl:=Im.right_len (l:=xa.getD 0 []) hr
   obtain ⟨g,off,c,he,hg,hc0⟩:=(HRA.out w0 (Below.refl _ _)).at (k:=0) (by omega)
   obtain ⟨g',off',c',he',hg',hc1⟩:=(HRA.out w0 (Below.refl _ _)).at (k:=1) (by omega)
   injection he with e1 e2 e3
   injection he' with e1' e2' e3'
   subst e1 e3
   injection e1' with e1'
   injection e1' with e4 e5 e6
   subst e4 e5
   clear e6 e3'
   rw [Nat.add_zero] at hc0
   have HN0:=Lib.hid (fun W (hW:Below w0.heap.size w0 W)=>(hW.cell (p:=⟨g,off,none⟩) hg).trans hc0)
   have HN1:=Lib.hid (fun W (hW:Below w0.heap.size w0 W)=>(hW.cell (p:=⟨g,off+1,none⟩) hg).trans hc1)
   have CD:=Lib.hid (show ∀ W,Below w0.heap.size w0 W→Calls Tryz.prog 107 #[.pointer (some ⟨gm,0,none⟩),.slice Al xl.length kl,.string ⟨(xa.getD 0 []).toArray⟩,.string ⟨(xa.getD 1 []).toArray⟩] W fun e w'=>e = .returned (.tuple #[])∧Hid (Im.To F w gm (Im.def_ xl (xa.getD 0 []) (xa.getD 1 []) S) w') from fun W hW=>by
    have hst:Step F w F W:=Step.of_below (HB0.out.trans (hW.mono HB0.out.size))
    refine (idef_any (HM0.out.kept hW) _ xl (xa.getD 0 []) (xa.getD 1 []) (HL.out.step hst) (HT.out.step hst) hc.1 hnl (by omega) hop).mono ?_
    rintro e w' ⟨he,hto⟩
    exact ⟨he,Lib.hid (hto.after hst)⟩)
   have hR:=HV.out
   subst hR
   generalize xa.getD 0 [] = n0 at *
   generalize xa.getD 1 [] = n1 at *
   rw [hl2] at CF CA HBK hw0
   rw [hl2]
   clear h hl ha hc hs ho hop hT hfl hAN hf HV hl2 hr hnl hc0 hc1 e2 e2' hg hg'
   go_enter Tryz.func51,Tryz.ntmps51
   go_upto_region 1 with fail
   clear hw0
   have b0:=HBK.out w0 (Below.refl _ _) 0
   have b1:=HBK.out w0 (Below.refl _ _) 1
   have b2:=HBK.out w0 (Below.refl _ _) 2
   simp at b0 b1 b2
   go_upto_region 16 with (first | (go_at_call 106;refine (CF.out _ (Below.refl _ _)).mono ?_;rintro e w1 ⟨rfl,hb1⟩;have HB1:=Lib.hid hb1;have b5:=HBK.out w1 hb1 0;have b6:=HBK.out w1 hb1 1;have b7:=HBK.out w1 hb1 2;simp at b5 b6 b7;clear hb1) | (go_at_call 104;refine (CA.out _ HB1.out).mono ?_;rintro e w2 ⟨rfl,hb2⟩;have HB2:=Lib.hid (HB1.out.trans (hb2.mono HB1.out.size));clear hb2;clear b0 b1 b2 b5 b6 b7;have b0:=HBK.out w2 HB2.out 0;have b1:=HBK.out w2 HB2.out 1;have b2:=HBK.out w2 HB2.out 2;simp at b0 b1 b2))
   have n0c:=HN0.out w2 HB2.out
   have n1c:=HN1.out w2 HB2.out
   have CD2:=Lib.hid (CD.out w2.drew HB2.out.drew)
   go_region_law (go_simp;go_at_call 107;refine CD2.out.mono ?_;rintro e w3 ⟨rfl,HTO⟩)
   all_goals go_wp2_with fail
   all_goals go_ret
   all_goals exact ⟨rfl,HTO.out⟩
theorem Im.at0 {W:World} {g off n c:Nat} {xa:List (List UInt8)} (h:RdS W (.slice (some ⟨g,off,none⟩) n c) xa) (hp:0 < xa.length):W.cell? ⟨g,off,none⟩ = some (.string ⟨(xa.getD 0 []).toArray⟩):=by
 obtain ⟨g',off',c',he,_,hc⟩:=h.at (k:=0) hp
 injection he with e1 _ _
 injection e1 with e1
 injection e1 with e1 e2 _
 subst e1 e2
 exact hc
set_option maxRecDepth 100000 in
set_option maxHeartbeats 8000000 in
theorem iline_part {F:Nat→Prop} {w:World} {gm:Nat} {S:Im.St} (h:Im.Mk F w gm S) (vl va:Value) (xl xa:List (List UInt8)) (hl:As.Rs F w vl xl) (ha:As.Rs F w va xa) (hc:xl.length≤100000∧xa.length≤100000) (hs:∀ a ∈ xa,a.length≤maxLen) (ho:S.out.length≤900000) (hop:S.opn.length≤1000000000) (hT:As.Tb F w) :
  Calls Tryz.prog 51 #[.pointer (some ⟨gm,0,none⟩),.agg #[vl,.string ⟨#[112,97,114,116]⟩,va]] w (Im.LPost F w gm (Im.line ⟨xl,Im.tPart,xa⟩ S)):=by
 have HM:=Lib.hid h
 have HL:=Lib.hid hl
 have HA:=Lib.hid ha
 have HC:=Lib.hid hc
 have HO:=Lib.hid ho
 have HS:=Lib.hid hs
 have HOP:=Lib.hid hop
 have HT:=Lib.hid hT
 obtain ⟨Al,kl,hvl⟩:=Rd.form hl.1
 obtain ⟨Aa,ka,hva⟩:=Rd.form ha.1
 subst hvl hva
 obtain ⟨w0,hw0⟩:∃ a,w.alloc (.cells #[.slice Al xl.length kl,.string ⟨#[112,97,114,116]⟩,.slice Aa xa.length ka] 105) = a:=⟨_,rfl⟩
 have HB0:=Lib.hid (show Below w.heap.size w w0 from hw0 ▸ Im.alloc_below w _)
 have HX0:=Lib.hid (show Im.Box F w0 w.heap.size #[.slice Al xl.length kl,.string ⟨#[112,97,114,116]⟩,.slice Aa xa.length ka] from ⟨hw0 ▸ Bk.fresh w _ _,fun e=>Nat.lt_irrefl _ (h.lt _ e)⟩)
 have HM0:=Lib.hid (h.kept HB0.out)
 have HRA:=Lib.hid (show ∀ W,Below w0.heap.size w0 W→RdS W (.slice Aa xa.length ka) xa from fun W hW=>RdS.kept (RdS.kept ha.1 HB0.out) hW)
 have HRL:=Lib.hid (show ∀ W,Below w0.heap.size w0 W→RdS W (.slice Al xl.length kl) xl from fun W hW=>RdS.kept (RdS.kept hl.1 HB0.out) hW)
 have HBK:=Lib.hid (show ∀ W,Below w0.heap.size w0 W→∀ i,W.cell? ⟨w.heap.size,i,none⟩ = (#[.slice Al xl.length kl,.string ⟨#[112,97,114,116]⟩,.slice Aa xa.length ka]:Array Value)[i]? from fun W hW i=>(HX0.out.kept hW).bk.cell i)
 have CA:=Lib.hid (show ∀ W,Below w0.heap.size w0 W→Calls Tryz.prog 104 #[.agg #[.slice Al xl.length kl,.string ⟨#[112,97,114,116]⟩,.slice Aa xa.length ka],.int .i64 1,.bool true] W fun e w'=>e = .returned (.int .i64 (Im.argsN ⟨xl,Im.tPart,xa⟩ 1 true:Nat))∧Below W.heap.size W w' from fun W hW=>
  iargs_any _ _ ⟨xl,Im.tPart,xa⟩ W (HRL.out W hW) (HRA.out W hW) 1 true (.inl rfl) hs (show xa.length≤maxLen by have:=hc.2;unfold maxLen;omega))
 have HV:=Lib.hid (Im.line_part xl xa S)
 have hA0:xa.length ≠ 1→Im.argsN ⟨xl,Im.tPart,xa⟩ 1 true = 40:=fun e=>if_pos e
 have hAN:xa.length = 1→Im.argsN ⟨xl,Im.tPart,xa⟩ 1 true = if Nm.right (xa.getD 0 []) = false then 41 else 0:=fun e=>by
  unfold Im.argsN
  rw [if_neg (by simp [e]),Im.headD_getD]
  cases Nm.right (xa.getD 0 []) <;> rfl
 generalize Im.argsN ⟨xl,Im.tPart,xa⟩ 1 true = E at *
 generalize Im.line ⟨xl,Im.tPart,xa⟩ S = R at *
 by_cases hlen:xa.length = 1
 ·have hE:=hAN hlen
  rw [if_neg (by simpa using hlen)] at HV
  cases hr:Nm.right (xa.getD 0 [])
  ·rw [hr,if_pos rfl] at hE HV
   subst hE
   have hR:=HV.out
   subst hR
   rw [hlen] at CA HBK hw0
   rw [hlen]
   clear h hl ha hc hs ho hop hT hAN hA0 HV hlen hr
   go_enter Tryz.func51,Tryz.ntmps51
   go_upto_region 1 with fail
   clear hw0
   have b0:=HBK.out w0 (Below.refl _ _) 0
   have b1:=HBK.out w0 (Below.refl _ _) 1
   have b2:=HBK.out w0 (Below.refl _ _) 2
   simp at b0 b1 b2
   go_wp2_with (go_at_call 104;refine (CA.out _ (Below.refl _ _)).mono ?_;rintro e w1 ⟨rfl,hb1⟩;have HB1:=Lib.hid hb1;clear hb1)
   go_ret
   exact ⟨rfl,HB0.out.trans (HB1.out.mono HB0.out.size)⟩
  ·rw [hr,if_neg (by decide)] at hE HV
   subst hE
   have hnl:=Im.right_len (l:=xa.getD 0 []) hr
   obtain ⟨g,off,c,he,hg,hc0⟩:=(HRA.out w0 (Below.refl _ _)).at (k:=0) (by omega)
   injection he with e1 e2 e3
   subst e1 e3
   have HAT:=Lib.hid (show ∀ W,RdS W (.slice (some ⟨g,off,none⟩) xa.length ka) xa→W.cell? ⟨g,off,none⟩ = some (.string ⟨(xa.getD 0 []).toArray⟩) from fun W hW=>Im.at0 hW (by omega))
   have HNL:=Lib.hid hnl
   generalize xa.getD 0 [] = n0 at *
   have CE:=Lib.hid (show ∀ W,Below w0.heap.size w0 W→Calls Tryz.prog 52 #[.pointer (some ⟨gm,0,none⟩)] W fun e w'=>e = .returned (.tuple #[])∧Im.To F W gm (Im.end_ S) w' from fun W hW=>iend_any (HM0.out.kept hW) (by omega) hop)
   have HLE:=Lib.hid (Im.out_end S)
   rw [hlen] at CA HBK hw0 HX0 HA HAT
   rw [hlen]
   clear h hl ha hc hs ho hop hT hAN hA0 hlen hr hnl hc0 e2 hg
   go_enter Tryz.func51,Tryz.ntmps51
   go_upto_region 1 with fail
   clear hw0
   have b0:=HBK.out w0 (Below.refl _ _) 0
   have b1:=HBK.out w0 (Below.refl _ _) 1
   have b2:=HBK.out w0 (Below.refl _ _) 2
   simp at b0 b1 b2
   go_upto_region 22 with (first | (go_at_call 104;refine (CA.out _ (Below.refl _ _)).mono ?_;rintro e w1 ⟨rfl,hb1⟩;have HB1:=Lib.hid hb1;clear hb1) | (go_at_call 52;refine (CE.out _ HB1.out).mono ?_;rintro e w2 ⟨rfl,F2,m2,s2⟩))
   have HSW:=Lib.hid (show Step F w F w1 from Step.of_below (HB0.out.trans (HB1.out.mono HB0.out.size)))
   have HM2:=Lib.hid m2
   have HS2:=Lib.hid (HSW.out.trans s2)
   have HX2:=Lib.hid ((HX0.out.kept HB1.out).step s2)
   obtain ⟨S2,hS2⟩:∃ a,Im.end_ S = a:=⟨_,rfl⟩
   rw [hS2] at HLE HM2 HV
   clear m2 s2 b0 b1 b2 hS2
   go_wp2_with fail
   refine (show Calls Tryz.prog 105 #[.pointer (some ⟨gm,0,none⟩),.slice none 0 0,.string ⟨#[97,108,105,103,110]⟩,.slice none 0 0] w2 _ from iput_nil HM2.out As.tAlign (by have:=HLE.out.2.2;have:=HO.out;omega)).mono ?_
   rintro e w3 ⟨rfl,F3,m3,s3⟩
   have HM3:=Lib.hid m3
   have HS3:=Lib.hid (HS2.out.trans s3)
   have HX3:=Lib.hid (HX2.out.step s3)
   have HLN3:=Lib.hid (show (Im.put ⟨[],As.tAlign,[]⟩ S2).out.length≤S.out.length+2 by
    have:=HLE.out.2.2
    show (S2.out ++ [_]).length≤_
    simp;omega)
   generalize Im.put ⟨[],As.tAlign,[]⟩ S2 = S3 at *
   clear m3 s3
   have x0:=HX3.out.bk.cell 0
   simp at x0
   have HL3:=Lib.hid (HL.out.step HS3.out)
   have hal:Below w3.heap.size w3 (w3.alloc (.cells #[.string ⟨#[48]⟩] 9)):=Im.alloc_below w3 _
   have CP3:=Lib.hid (iput_any (HM3.out.kept hal) (.slice Al xl.length kl) (.slice (some ⟨w3.heap.size,0,none⟩) 1 1) ⟨xl,As.tWord,[[48]]⟩ (RdS.kept HL3.out.1 hal) ⟨Im.rd_one w3 [48],Im.clear_new HM3.out.lt 1 1⟩ (show xl.length≤1000000 by have:=HC.out.1;omega) (by have:=HLN3.out;have:=HO.out;omega))
   clear hal
   go_wp2_with fail
   refine (show Calls Tryz.prog 105 #[.pointer (some ⟨gm,0,none⟩),.slice Al xl.length kl,.string ⟨#[119,111,114,100]⟩,.slice (some ⟨w3.heap.size,0,none⟩) 1 1] (w3.alloc (.cells #[.string ⟨#[48]⟩] 9)) _ from CP3.out).mono ?_
   rintro e w4 ⟨rfl,F4,m4,s4⟩
   have HM4:=Lib.hid m4
   have s4':=(Step.of_below (Im.alloc_below w3 (.cells #[.string ⟨#[48]⟩] 9))).trans s4
   have HS4:=Lib.hid (HS3.out.trans s4')
   have HX4:=Lib.hid (HX3.out.step s4')
   have HLN4:=Lib.hid (show (Im.put ⟨xl,As.tWord,[[48]]⟩ S3).out.length≤S.out.length+3 by
    have:=HLN3.out
    show (S3.out ++ [_]).length≤_
    simp;omega)
   generalize Im.put ⟨xl,As.tWord,[[48]]⟩ S3 = S4 at *
   have y2:=HX4.out.bk.cell 2
   simp at y2
   have y0:=HAT.out w4 (HA.out.step HS4.out).1
   have CB:=Lib.hid (ibegin_any m4 n0 (by have:=HNL.out;omega) (by have:=HLN4.out;have:=HO.out;omega))
   clear m4 s4 s4' x0 CP3
   go_wp2_with (go_at_call 108;refine CB.out.mono ?_;rintro e w5 ⟨rfl,hto⟩;have HTO:=Lib.hid hto;clear hto)
   go_ret
   rw [HV.out]
   exact ⟨rfl,HTO.out.after HS4.out⟩
 ·rw [if_pos hlen] at HV
  have hE:=hA0 hlen
  subst hE
  have hR:=HV.out
  subst hR
  clear h hl ha hc hs ho hop hT hAN hA0 HV hlen
  go_enter Tryz.func51,Tryz.ntmps51
  go_upto_region 1 with fail
  clear hw0
  have b0:=HBK.out w0 (Below.refl _ _) 0
  have b1:=HBK.out w0 (Below.refl _ _) 1
  have b2:=HBK.out w0 (Below.refl _ _) 2
  simp at b0 b1 b2
  go_wp2_with (go_at_call 104;refine (CA.out _ (Below.refl _ _)).mono ?_;rintro e w1 ⟨rfl,hb1⟩;have HB1:=Lib.hid hb1;clear hb1)
  go_ret
  exact ⟨rfl,HB0.out.trans (HB1.out.mono HB0.out.size)⟩
theorem Im.line_head (xl xa:List (List UInt8)) (S:Im.St):Im.line ⟨xl,Im.tHead,xa⟩ S = .bad 40:=by
 unfold Im.line
 rw [if_neg (show ¬ Im.tHead = Im.tList by decide),if_neg (show ¬ Im.tHead = Im.tDef by decide),if_neg (show ¬ Im.tHead = Im.tPart by decide),if_neg (show ¬ Im.tHead = Im.tHeads by decide),if_pos rfl]
theorem Im.line_other (xl xw xa) (S:Im.St) (h1:xw ≠ Im.tList) (h2:xw ≠ Im.tDef) (h3:xw ≠ Im.tPart) (h4:xw ≠ Im.tHeads) (h5:xw ≠ Im.tHead):Im.line ⟨xl,xw,xa⟩ S = .ok (Im.put ⟨xl,xw,xa⟩ S):=by
 unfold Im.line
 rw [if_neg h1,if_neg h2,if_neg h3,if_neg h4,if_neg h5]
set_option maxRecDepth 100000 in
set_option maxHeartbeats 8000000 in
theorem iline_head {F:Nat→Prop} {w:World} {gm:Nat} {S:Im.St} (h:Im.Mk F w gm S) (vl va:Value) (xl xa:List (List UInt8)) (hl:As.Rs F w vl xl) (ha:As.Rs F w va xa) (hc:xl.length≤100000∧xa.length≤100000) (hs:∀ a ∈ xa,a.length≤maxLen) (ho:S.out.length≤900000) :
  Calls Tryz.prog 51 #[.pointer (some ⟨gm,0,none⟩),.agg #[vl,.string ⟨#[104,101,97,100]⟩,va]] w (Im.LPost F w gm (Im.line ⟨xl,Im.tHead,xa⟩ S)):=by
 have HM:=Lib.hid h
 have HL:=Lib.hid hl
 have HA:=Lib.hid ha
 have HC:=Lib.hid hc
 have HO:=Lib.hid ho
 have HS:=Lib.hid hs
 obtain ⟨Al,kl,hvl⟩:=Rd.form hl.1
 obtain ⟨Aa,ka,hva⟩:=Rd.form ha.1
 subst hvl hva
 obtain ⟨w0,hw0⟩:∃ a,w.alloc (.cells #[.slice Al xl.length kl,.string ⟨#[104,101,97,100]⟩,.slice Aa xa.length ka] 105) = a:=⟨_,rfl⟩
 have HB0:=Lib.hid (show Below w.heap.size w w0 from hw0 ▸ Im.alloc_below w _)
 have HX0:=Lib.hid (show Im.Box F w0 w.heap.size #[.slice Al xl.length kl,.string ⟨#[104,101,97,100]⟩,.slice Aa xa.length ka] from ⟨hw0 ▸ Bk.fresh w _ _,fun e=>Nat.lt_irrefl _ (h.lt _ e)⟩)
 have HM0:=Lib.hid (h.kept HB0.out)
 have HRA:=Lib.hid (show ∀ W,Below w0.heap.size w0 W→RdS W (.slice Aa xa.length ka) xa from fun W hW=>RdS.kept (RdS.kept ha.1 HB0.out) hW)
 have HRL:=Lib.hid (show ∀ W,Below w0.heap.size w0 W→RdS W (.slice Al xl.length kl) xl from fun W hW=>RdS.kept (RdS.kept hl.1 HB0.out) hW)
 have HBK:=Lib.hid (show ∀ W,Below w0.heap.size w0 W→∀ i,W.cell? ⟨w.heap.size,i,none⟩ = (#[.slice Al xl.length kl,.string ⟨#[104,101,97,100]⟩,.slice Aa xa.length ka]:Array Value)[i]? from fun W hW i=>(HX0.out.kept hW).bk.cell i)
 have HV:=Lib.hid (Im.line_head xl xa S)
 generalize Im.line ⟨xl,Im.tHead,xa⟩ S = R at *
 have hR:=HV.out
 subst hR
 clear h hl ha hc hs ho HV
 go_enter Tryz.func51,Tryz.ntmps51
 go_upto_region 1 with fail
 clear hw0
 have b0:=HBK.out w0 (Below.refl _ _) 0
 have b1:=HBK.out w0 (Below.refl _ _) 1
 have b2:=HBK.out w0 (Below.refl _ _) 2
 simp at b0 b1 b2
 go_wp2_with fail
 go_ret
 exact ⟨rfl,HB0.out⟩
set_option maxRecDepth 100000 in
set_option maxHeartbeats 8000000 in
theorem iline_other {F:Nat→Prop} {w:World} {gm:Nat} {S:Im.St} (h:Im.Mk F w gm S) (vl va:Value) (xl:List (List UInt8)) (xw:List UInt8) (xa:List (List UInt8)) (hl:As.Rs F w vl xl) (ha:As.Rs F w va xa) (ho:S.out.length≤900000) (h1:xw ≠ Im.tList) (h2:xw ≠ Im.tDef) (h3:xw ≠ Im.tPart) (h4:xw ≠ Im.tHeads) (h5:xw ≠ Im.tHead) :
  Calls Tryz.prog 51 #[.pointer (some ⟨gm,0,none⟩),.agg #[vl,.string ⟨xw.toArray⟩,va]] w (Im.LPost F w gm (Im.line ⟨xl,xw,xa⟩ S)):=by
 have HV:=Lib.hid (Im.line_other xl xw xa S h1 h2 h3 h4 h5)
 have e1:(xw == [108,105,115,116]) = false:=by simpa [Im.tList] using h1
 have e2:(xw == [100,101,102]) = false:=by simpa [Im.tDef] using h2
 have e3:(xw == [112,97,114,116]) = false:=by simpa [Im.tPart] using h3
 have e4:(xw == [104,101,97,100,115]) = false:=by simpa [Im.tHeads] using h4
 have e5:(xw == [104,101,97,100]) = false:=by simpa [Im.tHead] using h5
 obtain ⟨Al,kl,hvl⟩:=Rd.form hl.1
 obtain ⟨Aa,ka,hva⟩:=Rd.form ha.1
 subst hvl hva
 obtain ⟨w0,hw0⟩:∃ a,w.alloc (.cells #[.slice Al xl.length kl,.string ⟨xw.toArray⟩,.slice Aa xa.length ka] 105) = a:=⟨_,rfl⟩
 have HB0:=Lib.hid (show Below w.heap.size w w0 from hw0 ▸ Im.alloc_below w _)
 have HX0:=Lib.hid (show Im.Box F w0 w.heap.size #[.slice Al xl.length kl,.string ⟨xw.toArray⟩,.slice Aa xa.length ka] from ⟨hw0 ▸ Bk.fresh w _ _,fun e=>Nat.lt_irrefl _ (h.lt _ e)⟩)
 have HM0:=Lib.hid (h.kept HB0.out)
 have HL0:=Lib.hid (hl.step (Step.of_below HB0.out))
 have HA0:=Lib.hid (ha.step (Step.of_below HB0.out))
 have hdr:Below w0.heap.size w0 w0.drew:=(Below.refl _ _).drew
 obtain ⟨A,c,cs,q0,qk,qo,qs,qput⟩:=HM0.out.room hdr ⟨xl,xw,xa⟩ (RdS.kept HL0.out.1 hdr) HL0.out.2 (RdS.kept HA0.out.1 hdr) HA0.out.2
 dsimp only at qo qs qput
 have HO:=Lib.hid qo
 have HS:=Lib.hid qs
 have HP:=Lib.hid qput
 have HLo:=Lib.hid (show (S.out.length+1) * 64≤140737488355328∧S.out.length+1≤maxLen from by unfold maxLen;omega)
 have m0:w0.cell? ⟨gm,0,none⟩ = some (.slice A S.out.length c):=q0
 have m1:=qk ((w0.drew).alloc (.cells #[.slice Al xl.length kl,.string ⟨xw.toArray⟩,.slice Aa xa.length ka] 105)) (Im.alloc_below _ _)
 have m2:(w0.alloc (.cells #[.slice Al xl.length kl,.string ⟨xw.toArray⟩,.slice Aa xa.length ka] 105)).cell? ⟨gm,0,none⟩ = some (.slice A S.out.length c):=m1
 clear h hl ha ho h1 h2 h3 h4 h5 qo qs qput q0 qk hdr m1
 generalize Im.line ⟨xl,xw,xa⟩ S = R at *
 go_enter Tryz.func51,Tryz.ntmps51
 go_upto_region 1 with fail
 clear hw0
 have b0:=HX0.out.bk.cell 0
 have b1:=HX0.out.bk.cell 1
 have b2:=HX0.out.bk.cell 2
 simp at b0 b1 b2
 go_upto_region 2 with fail
 go_region_law (refine step_appendRB (by rfl) _ _ _ _ (by rfl) llrt (by decide) 0 (.slice A S.out.length c) (by rfl) S.out.length cs HO.out _ (by rfl) 1 [.slice Al xl.length kl,.string ⟨xw.toArray⟩,.slice Aa xa.length ka] HS.out HLo.out.1 HLo.out.2 (Nat.zero_le _) ?_;intro v5 w5 ho5 hb5 hg5 hv5;obtain ⟨⟨A5,c5,rfl⟩,p0,p1,HM⟩:=HP.out v5 w5 ho5 hg5 hv5)
 all_goals go_wp2_with fail
 all_goals go_ret
 all_goals (rw [HV.out];exact ⟨rfl,HM.out.after (Step.of_below HB0.out)⟩)
end Go.Proofs.YtpcpaoeajcjoiaaGreatDoor
