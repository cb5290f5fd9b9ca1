/- Texts joined, what is not reached left out. -/
import Derived.Test.YtpcpaoeajcjoiaaGreatDoorQF8Base
set_option linter.unusedVariables false
set_option linter.unusedSimpArgs false
namespace Go.Proofs.YtpcpaoeajcjoiaaGreatDoor
open Go.RowKit Kit
theorem F8.own_of_bk {w:World} {g B:Nat} {l:List (List UInt8)} (h:Bk w g 9 (L6.sv l).toArray) (hB:B≤g) (hm:l.length≤maxLen):OwnS B w (.slice (some ⟨g,0,none⟩) l.length l.length) l:=
 ⟨by rw [L6.sv_length,Nat.mul_one],.inr ⟨g,l.length,_,rfl,hB,h,Nat.le_refl _,hm,by simp [L6.sv_length],by simp only [List.toList_toArray,Nat.mul_one];rw [← L6.sv_length l,List.take_length]⟩⟩
theorem F8.new_of {w w':World} {B H:Nat} {vl va:Value} {ls la:List (List UInt8)} (hl:OwnZ B w vl ls) (hn:∀ k,F8.blk vl = some k→H≤k) (ha:OwnZ w.heap.size w' va la) (hH:H≤w.heap.size) (hs:w.heap.size≤w'.heap.size):F8.New H w'.heap.size vl va:=
 ⟨fun k hk=>⟨hn k hk,Nat.lt_of_lt_of_le (hl.blk_lt hk).2 hs⟩,fun k hk=>⟨Nat.le_trans hH (ha.blk_lt hk).1,(ha.blk_lt hk).2⟩,fun k hk e=>by have:=(hl.blk_lt hk).2;have:=(ha.blk_lt e).1;omega⟩
set_option maxRecDepth 100000 in
set_option maxHeartbeats 2000000 in
theorem fjump_any {B gm H:Nat} {S:F8.St} (w:World) (h:F8.MkO B w gm H S) (vl va:Value) (s:ByteArray) (ls:List (List UInt8)) (tt:List UInt8) (hl:OwnZ B w vl ls) (hn:∀ k,F8.blk vl = some k→H≤k) (hva:∃ A n c,va = .slice A n c) (ho:S.out.length≤100000) :
  Calls Tryz.prog 177 #[.pointer (some ⟨gm,0,none⟩),.agg #[vl,.string s,va],.string ⟨tt.toArray⟩] w fun e w'=>e = .returned (.tuple #[])∧F8.MkO B w' gm w'.heap.size ⟨S.out ++ [F8.jmp ls tt],S.opn,S.made⟩∧F8.Stay gm B w w':=by
 obtain ⟨A0,n0,c0,rfl⟩:=hva
 have HH:=Lib.hid h
 have HL:=Lib.hid hl
 have HN:=Lib.hid hn
 have HO:=Lib.hid ho
 obtain ⟨A1,c1,rfl⟩:=hl.form
 clear h hl hn ho
 go_enter Tryz.func177,Tryz.ntmps177
 go_wp2_with fail
 obtain ⟨W3,hW3⟩:∃ W3,(w.alloc (.cells #[.slice A1 ls.length c1,.string ⟨#[106]⟩,.slice (some ⟨w.heap.size+1,0,none⟩) 1 1] 105)).alloc (.cells #[.string ⟨tt.toArray⟩] 9) = W3:=⟨_,rfl⟩
 rw [hW3]
 have hbe:Below w.heap.size w W3:=by rw [← hW3];exact ((Below.refl _ _).alloc (Nat.le_refl _) _).alloc (by simp) _
 have hsz:W3.heap.size = w.heap.size+2:=by rw [← hW3];simp
 have hbs:Bk W3 (w.heap.size+1) 9 (L6.sv [tt]).toArray:=by rw [← hW3];have:=Bk.fresh (w.alloc (.cells #[.slice A1 ls.length c1,.string ⟨#[106]⟩,.slice (some ⟨w.heap.size+1,0,none⟩) 1 1] 105)) 9 #[.string ⟨tt.toArray⟩];simpa [L6.sv] using this
 have hbl:Bk W3 w.heap.size 105 #[.slice A1 ls.length c1,.string ⟨#[106]⟩,.slice (some ⟨w.heap.size+1,0,none⟩) 1 1]:=by rw [← hW3];exact (Bk.fresh w _ _).kept ((Below.refl _ _).alloc (Nat.le_refl _) _)
 have hza:OwnZ w.heap.size W3 (.slice (some ⟨w.heap.size+1,0,none⟩) 1 1) [tt]:=.inl (F8.own_of_bk hbs (Nat.le_succ _) (by unfold maxLen;simp))
 have hst:=F8.Stay.of hbe HH.out.size HH.out.lt
 have hzl:=HL.out.stay hst
 have hnew:=F8.new_of HL.out HN.out hza HH.out.le hbe.size
 obtain ⟨A,c,cs,k0,f0,hkk,ho1,hs1,hz1,hput⟩:=F8.Mk.room F8.uo llrt (HH.out.kept hbe) ⟨ls,[106],[tt]⟩ (.inl hzl) (.inl (hza.rebase HH.out.size)) (fun _=>hnew)
 have b0:=hbl.cell 0
 have b1:=hbl.cell 1
 have b2:=hbl.cell 2
 have ka:(W3.alloc (.cells #[.slice A1 ls.length c1,.string ⟨#[106]⟩,.slice (some ⟨w.heap.size+1,0,none⟩) 1 1] 105)).cell? ⟨gm,0,none⟩ = some (.slice A S.out.length c):=hkk _ ((Below.refl _ _).alloc (Nat.le_refl _) _)
 clear hkk
 have HO1:=Lib.hid ho1
 have HS1:=Lib.hid hs1
 have HZ1:=Lib.hid hz1
 have HPUT:=Lib.hid hput
 have HST:=Lib.hid hst
 have HL1:=Lib.hid (show (S.out.length+1) * 64≤140737488355328 by have:=HO.out;omega)
 have HL2:=Lib.hid (show S.out.length+1≤maxLen by have:=HO.out;unfold maxLen;omega)
 clear hbe hsz hbs hbl hza hst hzl hnew ho1 hs1 hz1 hput hW3
 go_region_law (refine step_appendRB (by rfl) _ _ _ _ (by rfl) llrt (by decide) B (.slice A S.out.length c) (by rfl) S.out.length cs HO1.out _ (by rfl) 1 [.slice A1 ls.length c1,.string ⟨#[106]⟩,.slice (some ⟨w.heap.size+1,0,none⟩) 1 1] HS1.out HL1.out HL2.out HZ1.out ?_;intro v3 w3 ho3 hb3 hg3 hv3;obtain ⟨⟨A3,c3,rfl⟩,k3,f3,HM⟩:=HPUT.out v3 w3 ho3 hb3 hg3 hv3)
 all_goals go_wp2_with fail
 all_goals go_end0
 all_goals exact ⟨rfl,HM.out.1.later HM.out.1.le (Nat.le_refl _),HST.out.trans HM.out.2⟩
theorem F8.below_via {W0 W w2:World} (h:Below W0.heap.size W0 W) (hb:Below W.heap.size W w2):Below W0.heap.size W0 w2:=h.trans (hb.mono h.size)
theorem F8.clone_fin {w W0 w4:World} {T:Array Value} {xl xa:List (List UInt8)} {v2 v4:Value} (hb4:Bk w4 (w.heap.size+1) 105 T) (ho2:w4.ownsRow W0.drew.heap.size 9 1 v2 xl.length (L6.sv xl)) (ho4:w4.ownsRow W0.heap.size 9 1 v4 xa.length (L6.sv xa)) (hbe:Below w.heap.size w W0) (hb:Below W0.heap.size W0 w4) (u u' u2:Value) :
  OwnS w.heap.size (((w4.setCell ⟨w.heap.size+1,0,none⟩ u).setCell ⟨w.heap.size+1,1,none⟩ u').setCell ⟨w.heap.size+1,2,none⟩ u2) v2 xl∧OwnS w.heap.size (((w4.setCell ⟨w.heap.size+1,0,none⟩ u).setCell ⟨w.heap.size+1,1,none⟩ u').setCell ⟨w.heap.size+1,2,none⟩ u2) v4 xa∧Below w.heap.size w (((w4.setCell ⟨w.heap.size+1,0,none⟩ u).setCell ⟨w.heap.size+1,1,none⟩ u').setCell ⟨w.heap.size+1,2,none⟩ u2):=by
 have hle:w.heap.size≤W0.heap.size:=hbe.size
 have hbut:=((But.setCell w4 (w.heap.size+1) 0 u).trans (But.setCell _ _ 1 u')).trans (But.setCell _ _ 2 u2)
 refine ⟨own_rebase (own_but ho2 hb4 (by decide) hbut) hle,own_rebase (own_but ho4 hb4 (by decide) hbut) hle,?_⟩
 exact (hbe.trans (hb.mono hle)).trans (hbut.below (Nat.le_succ _) (Nat.le_trans hle hb.size))
def F8.ClonePost (w:World) (x:L6.Line) (e:Ending) (w':World):Prop:=∃ vl va,e = .returned (.agg #[vl,.string ⟨x.word.toArray⟩,va])∧OwnS w.heap.size w' vl x.labels∧OwnS w.heap.size w' va x.args∧(∀ k,F8.blk vl = some k→F8.blk va ≠ some k)∧Below w.heap.size w w'
set_option maxRecDepth 100000 in
set_option maxHeartbeats 4000000 in
theorem fclone_any (vl va:Value) (x:L6.Line) (w:World) (hl:RdS w vl x.labels) (ha:RdS w va x.args) (h1:x.labels.length≤1000000) (h2:x.args.length≤1000000) :
  Calls Tryz.prog 110 #[.agg #[vl,.string ⟨x.word.toArray⟩,va]] w (F8.ClonePost w x):=by
 obtain ⟨xl,xw,xa⟩:=x
 dsimp only at hl ha h1 h2 ⊢
 obtain ⟨A1,c1,rfl⟩:=hl.form
 obtain ⟨A2,c2,rfl⟩:=ha.form
 obtain ⟨W0,hW0⟩:∃ W0,(w.alloc (.cells #[.slice A1 xl.length c1,.string ⟨xw.toArray⟩,.slice A2 xa.length c2] 105)).alloc (.cells #[.slice none 0 0,.string ⟨#[]⟩,.slice none 0 0] 105) = W0:=⟨_,rfl⟩
 have hbe:Below w.heap.size w W0:=by rw [← hW0];exact ((Below.refl _ _).alloc (Nat.le_refl _) _).alloc (by simp) _
 have hsz:W0.heap.size = w.heap.size+2:=by rw [← hW0];simp
 have hbl:Bk W0 w.heap.size 105 #[.slice A1 xl.length c1,.string ⟨xw.toArray⟩,.slice A2 xa.length c2]:=by rw [← hW0];exact (Bk.fresh w _ _).kept ((Below.refl _ _).alloc (Nat.le_refl _) _)
 have hbr:Bk W0 (w.heap.size+1) 105 #[.slice none 0 0,.string ⟨#[]⟩,.slice none 0 0]:=by
  rw [← hW0];have:=Bk.fresh (w.alloc (.cells #[.slice A1 xl.length c1,.string ⟨xw.toArray⟩,.slice A2 xa.length c2] 105)) 105 #[.slice none 0 0,.string ⟨#[]⟩,.slice none 0 0];rw [World.size_alloc] at this;exact this
 have HC:=Lib.hid (fun W (hW:Below W0.heap.size W0 W)=>show W.cell? ⟨w.heap.size,0,none⟩ = some (.slice A1 xl.length c1)∧W.cell? ⟨w.heap.size,1,none⟩ = some (.string ⟨xw.toArray⟩)∧W.cell? ⟨w.heap.size,2,none⟩ = some (.slice A2 xa.length c2) ∧
  W.cell? ⟨w.heap.size+1,0,none⟩ = some (.slice none 0 0)∧W.cell? ⟨w.heap.size+1,1,none⟩ = some (.string ⟨#[]⟩)∧W.cell? ⟨w.heap.size+1,2,none⟩ = some (.slice none 0 0)∧W.frozen? ⟨w.heap.size+1,0,none⟩ = false∧W.frozen? ⟨w.heap.size+1,1,none⟩ = false∧W.frozen? ⟨w.heap.size+1,2,none⟩ = false from
  ⟨(hbl.kept hW).cell 0,(hbl.kept hW).cell 1,(hbl.kept hW).cell 2,(hbr.kept hW).cell 0,(hbr.kept hW).cell 1,(hbr.kept hW).cell 2,(hbr.kept hW).free 0,(hbr.kept hW).free 1,(hbr.kept hW).free 2⟩)
 have hl0:=hl.kept hbe
 have ha0:=ha.kept hbe
 have CL:=Lib.hid (fun W (hW:Below W0.heap.size W0 W)=>lclone_any (.slice A1 xl.length c1) xl W (hl0.kept hW) (by omega))
 have CA:=Lib.hid (fun W (hW:Below W0.heap.size W0 W)=>lclone_any (.slice A2 xa.length c2) xa W (ha0.kept hW) (by omega))
 have HBE:=Lib.hid hbe
 have HSZ:=Lib.hid hsz
 have HBR:=Lib.hid hbr
 clear hl ha hl0 ha0 hbe hsz hbl hbr h1 h2
 generalize xl.length = n1 at *
 generalize xa.length = n2 at *
 go_enter Tryz.func110,Tryz.ntmps110
 go_wp2_with fail
 obtain ⟨k0,k1,k2,k3,k4,k5,k6,k7,k8⟩:=HC.out _ (Below.refl _ _)
 go_region_held3 (fun W'=>W'.cell? ⟨w.heap.size,0,none⟩ = some (.slice A1 n1 c1)∧W'.cell? ⟨w.heap.size,1,none⟩ = some (.string ⟨xw.toArray⟩)∧W'.cell? ⟨w.heap.size,2,none⟩ = some (.slice A2 n2 c2))
  (first | with_reducible exact HKEEP2.out | with_reducible exact HKEEP1.out | go_keep)
  (first
   | ((go_at_call 165;with_reducible refine (CL.out _ (Below.refl _ _).drew).mono ?_;rintro e w2 ⟨v2,rfl,hv2,hb2⟩;have HB2:=Lib.hid (show Below W0.heap.size W0 w2 from F8.below_via (W0:=W0) (Below.refl _ _).drew hb2);have HKEEP1:=Lib.hid (show w2.cell? ⟨w.heap.size,0,none⟩ = some (.slice A1 n1 c1)∧w2.cell? ⟨w.heap.size,1,none⟩ = some (.string ⟨xw.toArray⟩)∧w2.cell? ⟨w.heap.size,2,none⟩ = some (.slice A2 n2 c2) from ⟨(HC.out _ HB2.out).1,(HC.out _ HB2.out).2.1,(HC.out _ HB2.out).2.2.1⟩);have HV2:=Lib.hid hv2;obtain ⟨A3,c3,rfl⟩:=hv2.form;clear hv2 hb2))
   | ((go_at_call 165;with_reducible refine (CA.out _ HB2.out).mono ?_;rintro e w4 ⟨v4,rfl,hv4,hb4⟩;have HB4:=Lib.hid (show Below W0.heap.size W0 w4 from F8.below_via (W0:=W0) HB2.out hb4);have HKEEP2:=Lib.hid (show w4.cell? ⟨w.heap.size,0,none⟩ = some (.slice A1 n1 c1)∧w4.cell? ⟨w.heap.size,1,none⟩ = some (.string ⟨xw.toArray⟩)∧w4.cell? ⟨w.heap.size,2,none⟩ = some (.slice A2 n2 c2) from ⟨(HC.out _ HB4.out).1,(HC.out _ HB4.out).2.1,(HC.out _ HB4.out).2.2.1⟩);have HV4:=Lib.hid hv4;obtain ⟨A4,c4,rfl⟩:=hv4.form;obtain ⟨j0,j1,j2,j3,j4,j5,j6,j7,j8⟩:=HC.out _ HB4.out;have HK4:=Lib.hid hb4;clear hv4 hb4)))
 all_goals go_wp2_with fail
 all_goals refine bodyPost_ret (v:=.agg #[.slice A3 xl.length c3,.string ⟨xw.toArray⟩,.slice A4 xa.length c4]) (by simp [results,Tryz.results110,go_sem,j3,j4,j5]) rfl ?_
 all_goals obtain ⟨g1,g2,g3⟩:=F8.clone_fin (xl:=xl) (xa:=xa) (HBR.out.kept HB4.out) (own_kept HV2.out HK4.out) (own_rebase HV4.out HB2.out.size) HBE.out HB4.out (.slice A3 xl.length c3) (.string ⟨xw.toArray⟩) (.slice A4 xa.length c4)
 all_goals refine ⟨_,_,rfl,g1,g2,fun k hk e=>?_,g3⟩
 all_goals have q1:=(OwnZ.blk_lt (.inl HV2.out) hk).2
 all_goals have q2:=(OwnZ.blk_lt (.inl HV4.out) e).1
 all_goals omega
theorem F8.bk_drew {w:World} {g:Nat} {t:TypeId} {cs:Array Value} (h:Bk w g t cs):Bk w.drew g t cs:=h
theorem F8.three {w:World} {v:Value} {l:List (List UInt8)} (h:RdS w v l) (hl:l.length = 3) :
  ∃ g off c,v = .slice (some ⟨g,off,none⟩) 3 c∧g < w.heap.size∧w.cell? ⟨g,off,none⟩ = some (.string ⟨(l.getD 0 []).toArray⟩)∧w.cell? ⟨g,off+1,none⟩ = some (.string ⟨(l.getD 1 []).toArray⟩)∧w.cell? ⟨g,off+2,none⟩ = some (.string ⟨(l.getD 2 []).toArray⟩):=by
 match l,hl with
 | [a,b,d],_=>
  obtain ⟨h1,A,c,rfl,h2,h3,h4⟩:=h
  obtain ⟨g,off,rfl,hg,hc⟩:=h4 (by simp)
  exact ⟨g,off,c,rfl,hg,by simpa using hc 0 (.string ⟨a.toArray⟩) rfl,hc 1 (.string ⟨b.toArray⟩) rfl,hc 2 (.string ⟨d.toArray⟩) rfl⟩
theorem F8.cat_b (o:List UInt8):(⟨#[98]⟩:ByteArray) ++ ⟨o.toArray⟩ = ⟨(98 :: o).toArray⟩:=app_eq [98] o
theorem F8.opp_len (c:List UInt8):((F8.opp c).getD []).length≤3:=by
 unfold F8.opp
 repeat' split
 all_goals decide
set_option maxRecDepth 100000 in
set_option maxHeartbeats 4000000 in
theorem fbranch_any {B gm H:Nat} {S:F8.St} (w:World) (h:F8.MkO B w gm H S) (vl va:Value) (s:ByteArray) (x:L6.Line) (tt:List UInt8) (hl:OwnZ B w vl x.labels) (hn:∀ k,F8.blk vl = some k→H≤k) (ha:RdS w va x.args) (h3:x.args.length = 3) (ho:S.out.length≤100000) :
  Calls Tryz.prog 173 #[.pointer (some ⟨gm,0,none⟩),.agg #[vl,.string s,va],.string ⟨tt.toArray⟩] w fun e w'=>e = .returned (.tuple #[])∧F8.MkO B w' gm w'.heap.size ⟨S.out ++ [F8.br x tt],S.opn,S.made⟩∧F8.Stay gm B w w':=by
 obtain ⟨xl,xw,xa⟩:=x
 dsimp only at hl ha h3 ⊢
 have HH:=Lib.hid h
 have HL:=Lib.hid hl
 have HN:=Lib.hid hn
 have HO:=Lib.hid ho
 obtain ⟨A1,c1,rfl⟩:=hl.form
 obtain ⟨g,off,ca,rfl,hg,a0,a1,a2⟩:=F8.three ha h3
 have CO:=Lib.hid (fun W=>fopp_any (xa.getD 1 []) W)
 have HBR:=Lib.hid (show F8.br ⟨xl,xw,xa⟩ tt = ⟨xl,98 :: (F8.opp (xa.getD 1 [])).getD [],[xa.getD 0 [],xa.getD 2 [],tt]⟩ from rfl)
 have hol:=F8.opp_len (xa.getD 1 [])
 clear h hl hn ho ha h3
 generalize xa.getD 0 [] = y0 at *
 generalize xa.getD 1 [] = y1 at *
 generalize xa.getD 2 [] = y2 at *
 generalize (F8.opp y1).getD [] = o at *
 generalize (F8.opp y1).isSome = ob at *
 have hlen:¬ 9223372036854775807 < 1+o.length:=by omega
 have hgl:w.heap.size ≠ g:=by omega
 have hgl2:g ≠ w.heap.size:=by omega
 have hgl3:g ≠ w.heap.size+1:=by omega
 have HA:=Lib.hid (fun W (hW:Below w.heap.size w W)=>show W.cell? ⟨g,off,none⟩ = some (.string ⟨y0.toArray⟩)∧W.cell? ⟨g,off+2,none⟩ = some (.string ⟨y2.toArray⟩) from ⟨(hW.cell (p:=⟨g,off,none⟩) hg).trans a0,(hW.cell (p:=⟨g,off+2,none⟩) hg).trans a2⟩)
 go_enter Tryz.func173,Tryz.ntmps173
 go_wp2_with (go_at_call 170;refine (CO.out _).mono ?_;rintro e w' ⟨rfl,rfl⟩)
 go_region
 go_wp2_with fail
 rw [F8.cat_b]
 obtain ⟨W3,hW3⟩:∃ W3,((w.alloc (.cells #[.slice A1 xl.length c1,.string ⟨(98 :: o).toArray⟩,.slice (some ⟨w.heap.size+1,0,none⟩) 3 3] 105)).alloc (.cells #[.string ⟨y0.toArray⟩,.string ⟨y2.toArray⟩,.string ⟨tt.toArray⟩] 9)).drew = W3:=⟨_,rfl⟩
 rw [hW3]
 have hbe:Below w.heap.size w W3:=by rw [← hW3];exact (((Below.refl _ _).alloc (Nat.le_refl _) _).alloc (by simp) _).drew
 have hsz:W3.heap.size = w.heap.size+2:=by rw [← hW3];simp
 have hbs:Bk W3 (w.heap.size+1) 9 (L6.sv [y0,y2,tt]).toArray:=by rw [← hW3];have:=F8.bk_drew (Bk.fresh (w.alloc (.cells #[.slice A1 xl.length c1,.string ⟨(98 :: o).toArray⟩,.slice (some ⟨w.heap.size+1,0,none⟩) 3 3] 105)) 9 #[.string ⟨y0.toArray⟩,.string ⟨y2.toArray⟩,.string ⟨tt.toArray⟩]);rw [World.size_alloc] at this;exact this
 have hbl:Bk W3 w.heap.size 105 #[.slice A1 xl.length c1,.string ⟨(98 :: o).toArray⟩,.slice (some ⟨w.heap.size+1,0,none⟩) 3 3]:=by rw [← hW3];exact F8.bk_drew ((Bk.fresh w _ _).kept ((Below.refl _ _).alloc (Nat.le_refl _) _))
 have hza:OwnZ w.heap.size W3 (.slice (some ⟨w.heap.size+1,0,none⟩) 3 3) [y0,y2,tt]:=.inl (F8.own_of_bk hbs (Nat.le_succ _) (by unfold maxLen;simp))
 have hst:=F8.Stay.of hbe HH.out.size HH.out.lt
 have hzl:=HL.out.stay hst
 have hnew:=F8.new_of HL.out HN.out hza HH.out.le hbe.size
 obtain ⟨A,c,cs,k0,f0,hkk,hoo1,hs1,hz1,hput⟩:=F8.Mk.room F8.uo llrt (HH.out.kept hbe) ⟨xl,98 :: o,[y0,y2,tt]⟩ (.inl hzl) (.inl (hza.rebase HH.out.size)) (fun _=>hnew)
 have b0:=hbl.cell 0
 have b1:=hbl.cell 1
 have b2:=hbl.cell 2
 have ka:(W3.alloc (.cells #[.slice A1 xl.length c1,.string ⟨(98 :: o).toArray⟩,.slice (some ⟨w.heap.size+1,0,none⟩) 3 3] 105)).cell? ⟨gm,0,none⟩ = some (.slice A S.out.length c):=hkk _ ((Below.refl _ _).alloc (Nat.le_refl _) _)
 clear hkk
 have HO1:=Lib.hid hoo1
 have HS1:=Lib.hid hs1
 have HZ1:=Lib.hid hz1
 have HPUT:=Lib.hid hput
 have HST:=Lib.hid hst
 have HL1:=Lib.hid (show (S.out.length+1) * 64≤140737488355328 by have:=HO.out;omega)
 have HL2:=Lib.hid (show S.out.length+1≤maxLen by have:=HO.out;unfold maxLen;omega)
 clear hbe hsz hbs hbl hza hst hzl hnew hoo1 hs1 hz1 hput hW3 a0 a1 a2 hg hgl hgl2 hgl3
 go_region_law (refine step_appendRB (by rfl) _ _ _ _ (by rfl) llrt (by decide) B (.slice A S.out.length c) (by rfl) S.out.length cs HO1.out _ (by rfl) 1 [.slice A1 xl.length c1,.string ⟨(98 :: o).toArray⟩,.slice (some ⟨w.heap.size+1,0,none⟩) 3 3] HS1.out HL1.out HL2.out HZ1.out ?_;intro v3 w3 ho3 hb3 hg3 hv3;obtain ⟨⟨A3,c3,rfl⟩,k3,f3,HM⟩:=HPUT.out v3 w3 ho3 hb3 hg3 hv3)
 all_goals go_wp2_with fail
 all_goals go_end0
 all_goals exact ⟨rfl,by rw [HBR.out];exact HM.out.1.later HM.out.1.le (Nat.le_refl _),HST.out.trans HM.out.2⟩
def F8.ask (x:L6.Line):Bool × Bool:=match F8.kind x.word with | none=>(false,false) | some k=>(F8.fine k x,true)
theorem fret_bb {a a' b b':Bool} (h1:a = a') (h2:b = b'):Ending.returned (.tuple #[.bool a,.bool b]) = .returned (.tuple #[.bool a',.bool b']):=by rw [h1,h2]
theorem F8.ask_kind {x:L6.Line} {k:F8.K} (h:x.word = F8.word k):F8.ask x = (F8.fine k x,true):=by unfold F8.ask;rw [h,F8.kind_word]
theorem F8.ask_none {x:L6.Line} (h:F8.kind x.word = none):F8.ask x = (false,false):=by unfold F8.ask;rw [h]
theorem F8.fine_short {k:F8.K} {x:L6.Line} (hk:F8.cond k = true) (h:x.args.length ≠ 3):F8.fine k x = false:=by unfold F8.fine;rw [if_pos hk,decide_eq_false h];rfl
theorem F8.fine_cond {k:F8.K} {x:L6.Line} (hk:F8.cond k = true) (h:x.args.length = 3):F8.fine k x = (F8.opp (x.args.getD 1 [])).isSome:=by unfold F8.fine;rw [if_pos hk,decide_eq_true h];rfl
theorem F8.fine_bare {k:F8.K} {x:L6.Line} (hk:F8.cond k = false):F8.fine k x = decide (x.args.length = 0):=by unfold F8.fine;rw [if_neg (by rw [hk];decide)]
theorem F8.no_kind {s:List UInt8} (h1:s ≠ F8.wIf) (h2:s ≠ F8.wElse) (h3:s ≠ F8.wThen) (h4:s ≠ F8.wBegin) (h5:s ≠ F8.wWhile) (h6:s ≠ F8.wRepeat) (h7:s ≠ F8.wUntil) (h8:s ≠ F8.wAgain):F8.kind s = none:=by
 unfold F8.kind
 rw [if_neg h1,if_neg h2,if_neg h3,if_neg h4,if_neg h5,if_neg h6,if_neg h7,if_neg h8]
set_option maxRecDepth 100000 in
set_option maxHeartbeats 4000000 in
theorem fright_any (vl va:Value) (x:L6.Line) (w:World) (hl:∃ A n c,vl = .slice A n c) (ha:RdS w va x.args) (hn:x.args.length≤1000000) :
  Calls Tryz.prog 111 #[.agg #[vl,.string ⟨x.word.toArray⟩,va]] w fun e w'=>e = .returned (.tuple #[.bool (F8.ask x).1,.bool (F8.ask x).2])∧Below w.heap.size w w':=by
 obtain ⟨A0,n0,c0,rfl⟩:=hl
 by_cases h1:x.word = [105,102]
 ·have HK:=Lib.hid (F8.ask_kind (k:=.ifK) h1)
  rw [h1]
  by_cases a3:x.args.length = 3
  ·obtain ⟨g,off,ca,rfl,hg,a0,a1,a2⟩:=F8.three ha a3
   have HR:=Lib.hid (show F8.ask x = ((F8.opp (x.args.getD 1 [])).isSome,true) from by rw [HK.out,F8.fine_cond rfl a3])
   have CO:=Lib.hid (fun W=>fopp_any (x.args.getD 1 []) W)
   have hal:=(Below.refl w.heap.size w).alloc (Nat.le_refl _) (.cells #[.slice A0 n0 c0,.string ⟨[105,102].toArray⟩,.slice (some ⟨g,off,none⟩) 3 ca] 105)
   have HAL:=Lib.hid hal
   clear hal HK ha
   generalize x.args.getD 1 [] = y1 at *
   generalize (F8.opp y1).getD [] = o at *
   generalize (F8.opp y1).isSome = ob at *
   clear a0 a2 a3
   go_enter Tryz.func111,Tryz.ntmps111
   go_wp2_with (go_at_call 170;refine (CO.out _).mono ?_;rintro e w' ⟨rfl,rfl⟩)
   go_ret2
   exact ⟨fret_bb (by rw [HR.out]) (by rw [HR.out]),HAL.out⟩
  ·obtain ⟨A1,c1,rfl⟩:=ha.form
   have HR:=Lib.hid (show F8.ask x = (false,true) from by rw [HK.out,F8.fine_short rfl a3])
   have b3:((x.args.length:Int) == 3) = false:=by rw [beq_eq_false_iff_ne];omega
   have b4:((x.args.length:Int) != 3) = true:=by simp [bne,b3]
   have HAL:=Lib.hid ((Below.refl w.heap.size w).alloc (Nat.le_refl _) (.cells #[.slice A0 n0 c0,.string ⟨[105,102].toArray⟩,.slice A1 x.args.length c1] 105))
   clear HK ha a3
   generalize x.args.length = n1 at *
   go_enter Tryz.func111,Tryz.ntmps111
   go_wp2_with fail
   go_ret2
   exact ⟨fret_bb (by rw [HR.out]) (by rw [HR.out]),HAL.out⟩
 by_cases h2:x.word = [101,108,115,101]
 ·have HK:=Lib.hid (F8.ask_kind (k:=.elseK) h2)
  rw [h2]
  obtain ⟨A1,c1,rfl⟩:=ha.form
  have HR:=Lib.hid (show F8.ask x = (decide (x.args.length = 0),true) from by rw [HK.out,F8.fine_bare rfl])
  have HAL:=Lib.hid ((Below.refl w.heap.size w).alloc (Nat.le_refl _) (.cells #[.slice A0 n0 c0,.string ⟨[101,108,115,101].toArray⟩,.slice A1 x.args.length c1] 105))
  clear HK ha
  generalize x.args.length = n1 at *
  by_cases z:n1 = 0
  ·subst z
   go_enter Tryz.func111,Tryz.ntmps111
   go_wp2_with fail
   go_ret2
   exact ⟨fret_bb (by rw [HR.out];rfl) (by rw [HR.out]),HAL.out⟩
  ·have b3:((n1:Int) == 0) = false:=by rw [beq_eq_false_iff_ne];omega
   have HR2:=Lib.hid (show F8.ask x = (false,true) from by rw [HR.out,decide_eq_false z])
   clear z HR
   go_enter Tryz.func111,Tryz.ntmps111
   go_wp2_with fail
   go_ret2
   exact ⟨fret_bb (by rw [HR2.out]) (by rw [HR2.out]),HAL.out⟩
 by_cases h3:x.word = [116,104,101,110]
 ·have HK:=Lib.hid (F8.ask_kind (k:=.thenK) h3)
  rw [h3]
  obtain ⟨A1,c1,rfl⟩:=ha.form
  have HR:=Lib.hid (show F8.ask x = (decide (x.args.length = 0),true) from by rw [HK.out,F8.fine_bare rfl])
  have HAL:=Lib.hid ((Below.refl w.heap.size w).alloc (Nat.le_refl _) (.cells #[.slice A0 n0 c0,.string ⟨[116,104,101,110].toArray⟩,.slice A1 x.args.length c1] 105))
  clear HK ha
  generalize x.args.length = n1 at *
  by_cases z:n1 = 0
  ·subst z
   go_enter Tryz.func111,Tryz.ntmps111
   go_wp2_with fail
   go_ret2
   exact ⟨fret_bb (by rw [HR.out];rfl) (by rw [HR.out]),HAL.out⟩
  ·have b3:((n1:Int) == 0) = false:=by rw [beq_eq_false_iff_ne];omega
   have HR2:=Lib.hid (show F8.ask x = (false,true) from by rw [HR.out,decide_eq_false z])
   clear z HR
   go_enter Tryz.func111,Tryz.ntmps111
   go_wp2_with fail
   go_ret2
   exact ⟨fret_bb (by rw [HR2.out]) (by rw [HR2.out]),HAL.out⟩
 by_cases h4:x.word = [98,101,103,105,110]
 ·have HK:=Lib.hid (F8.ask_kind (k:=.beginK) h4)
  rw [h4]
  obtain ⟨A1,c1,rfl⟩:=ha.form
  have HR:=Lib.hid (show F8.ask x = (decide (x.args.length = 0),true) from by rw [HK.out,F8.fine_bare rfl])
  have HAL:=Lib.hid ((Below.refl w.heap.size w).alloc (Nat.le_refl _) (.cells #[.slice A0 n0 c0,.string ⟨[98,101,103,105,110].toArray⟩,.slice A1 x.args.length c1] 105))
  clear HK ha
  generalize x.args.length = n1 at *
  by_cases z:n1 = 0
  ·subst z
   go_enter Tryz.func111,Tryz.ntmps111
   go_wp2_with fail
   go_ret2
   exact ⟨fret_bb (by rw [HR.out];rfl) (by rw [HR.out]),HAL.out⟩
  ·have b3:((n1:Int) == 0) = false:=by rw [beq_eq_false_iff_ne];omega
   have HR2:=Lib.hid (show F8.ask x = (false,true) from by rw [HR.out,decide_eq_false z])
   clear z HR
   go_enter Tryz.func111,Tryz.ntmps111
   go_wp2_with fail
   go_ret2
   exact ⟨fret_bb (by rw [HR2.out]) (by rw [HR2.out]),HAL.out⟩
 by_cases h5:x.word = [119,104,105,108,101]
 ·have HK:=Lib.hid (F8.ask_kind (k:=.whileK) h5)
  rw [h5]
  by_cases a3:x.args.length = 3
  ·obtain ⟨g,off,ca,rfl,hg,a0,a1,a2⟩:=F8.three ha a3
   have HR:=Lib.hid (show F8.ask x = ((F8.opp (x.args.getD 1 [])).isSome,true) from by rw [HK.out,F8.fine_cond rfl a3])
   have CO:=Lib.hid (fun W=>fopp_any (x.args.getD 1 []) W)
   have hal:=(Below.refl w.heap.size w).alloc (Nat.le_refl _) (.cells #[.slice A0 n0 c0,.string ⟨[119,104,105,108,101].toArray⟩,.slice (some ⟨g,off,none⟩) 3 ca] 105)
   have HAL:=Lib.hid hal
   clear hal HK ha
   generalize x.args.getD 1 [] = y1 at *
   generalize (F8.opp y1).getD [] = o at *
   generalize (F8.opp y1).isSome = ob at *
   clear a0 a2 a3
   go_enter Tryz.func111,Tryz.ntmps111
   go_wp2_with (go_at_call 170;refine (CO.out _).mono ?_;rintro e w' ⟨rfl,rfl⟩)
   go_ret2
   exact ⟨fret_bb (by rw [HR.out]) (by rw [HR.out]),HAL.out⟩
  ·obtain ⟨A1,c1,rfl⟩:=ha.form
   have HR:=Lib.hid (show F8.ask x = (false,true) from by rw [HK.out,F8.fine_short rfl a3])
   have b3:((x.args.length:Int) == 3) = false:=by rw [beq_eq_false_iff_ne];omega
   have b4:((x.args.length:Int) != 3) = true:=by simp [bne,b3]
   have HAL:=Lib.hid ((Below.refl w.heap.size w).alloc (Nat.le_refl _) (.cells #[.slice A0 n0 c0,.string ⟨[119,104,105,108,101].toArray⟩,.slice A1 x.args.length c1] 105))
   clear HK ha a3
   generalize x.args.length = n1 at *
   go_enter Tryz.func111,Tryz.ntmps111
   go_wp2_with fail
   go_ret2
   exact ⟨fret_bb (by rw [HR.out]) (by rw [HR.out]),HAL.out⟩
 by_cases h6:x.word = [114,101,112,101,97,116]
 ·have HK:=Lib.hid (F8.ask_kind (k:=.repeatK) h6)
  rw [h6]
  obtain ⟨A1,c1,rfl⟩:=ha.form
  have HR:=Lib.hid (show F8.ask x = (decide (x.args.length = 0),true) from by rw [HK.out,F8.fine_bare rfl])
  have HAL:=Lib.hid ((Below.refl w.heap.size w).alloc (Nat.le_refl _) (.cells #[.slice A0 n0 c0,.string ⟨[114,101,112,101,97,116].toArray⟩,.slice A1 x.args.length c1] 105))
  clear HK ha
  generalize x.args.length = n1 at *
  by_cases z:n1 = 0
  ·subst z
   go_enter Tryz.func111,Tryz.ntmps111
   go_wp2_with fail
   go_ret2
   exact ⟨fret_bb (by rw [HR.out];rfl) (by rw [HR.out]),HAL.out⟩
  ·have b3:((n1:Int) == 0) = false:=by rw [beq_eq_false_iff_ne];omega
   have HR2:=Lib.hid (show F8.ask x = (false,true) from by rw [HR.out,decide_eq_false z])
   clear z HR
   go_enter Tryz.func111,Tryz.ntmps111
   go_wp2_with fail
   go_ret2
   exact ⟨fret_bb (by rw [HR2.out]) (by rw [HR2.out]),HAL.out⟩
 by_cases h7:x.word = [117,110,116,105,108]
 ·have HK:=Lib.hid (F8.ask_kind (k:=.untilK) h7)
  rw [h7]
  by_cases a3:x.args.length = 3
  ·obtain ⟨g,off,ca,rfl,hg,a0,a1,a2⟩:=F8.three ha a3
   have HR:=Lib.hid (show F8.ask x = ((F8.opp (x.args.getD 1 [])).isSome,true) from by rw [HK.out,F8.fine_cond rfl a3])
   have CO:=Lib.hid (fun W=>fopp_any (x.args.getD 1 []) W)
   have hal:=(Below.refl w.heap.size w).alloc (Nat.le_refl _) (.cells #[.slice A0 n0 c0,.string ⟨[117,110,116,105,108].toArray⟩,.slice (some ⟨g,off,none⟩) 3 ca] 105)
   have HAL:=Lib.hid hal
   clear hal HK ha
   generalize x.args.getD 1 [] = y1 at *
   generalize (F8.opp y1).getD [] = o at *
   generalize (F8.opp y1).isSome = ob at *
   clear a0 a2 a3
   go_enter Tryz.func111,Tryz.ntmps111
   go_wp2_with (go_at_call 170;refine (CO.out _).mono ?_;rintro e w' ⟨rfl,rfl⟩)
   go_ret2
   exact ⟨fret_bb (by rw [HR.out]) (by rw [HR.out]),HAL.out⟩
  ·obtain ⟨A1,c1,rfl⟩:=ha.form
   have HR:=Lib.hid (show F8.ask x = (false,true) from by rw [HK.out,F8.fine_short rfl a3])
   have b3:((x.args.length:Int) == 3) = false:=by rw [beq_eq_false_iff_ne];omega
   have b4:((x.args.length:Int) != 3) = true:=by simp [bne,b3]
   have HAL:=Lib.hid ((Below.refl w.heap.size w).alloc (Nat.le_refl _) (.cells #[.slice A0 n0 c0,.string ⟨[117,110,116,105,108].toArray⟩,.slice A1 x.args.length c1] 105))
   clear HK ha a3
   generalize x.args.length = n1 at *
   go_enter Tryz.func111,Tryz.ntmps111
   go_wp2_with fail
   go_ret2
   exact ⟨fret_bb (by rw [HR.out]) (by rw [HR.out]),HAL.out⟩
 by_cases h8:x.word = [97,103,97,105,110]
 ·have HK:=Lib.hid (F8.ask_kind (k:=.againK) h8)
  rw [h8]
  obtain ⟨A1,c1,rfl⟩:=ha.form
  have HR:=Lib.hid (show F8.ask x = (decide (x.args.length = 0),true) from by rw [HK.out,F8.fine_bare rfl])
  have HAL:=Lib.hid ((Below.refl w.heap.size w).alloc (Nat.le_refl _) (.cells #[.slice A0 n0 c0,.string ⟨[97,103,97,105,110].toArray⟩,.slice A1 x.args.length c1] 105))
  clear HK ha
  generalize x.args.length = n1 at *
  by_cases z:n1 = 0
  ·subst z
   go_enter Tryz.func111,Tryz.ntmps111
   go_wp2_with fail
   go_ret2
   exact ⟨fret_bb (by rw [HR.out];rfl) (by rw [HR.out]),HAL.out⟩
  ·have b3:((n1:Int) == 0) = false:=by rw [beq_eq_false_iff_ne];omega
   have HR2:=Lib.hid (show F8.ask x = (false,true) from by rw [HR.out,decide_eq_false z])
   clear z HR
   go_enter Tryz.func111,Tryz.ntmps111
   go_wp2_with fail
   go_ret2
   exact ⟨fret_bb (by rw [HR2.out]) (by rw [HR2.out]),HAL.out⟩
 have HR:=Lib.hid (F8.ask_none (F8.no_kind h1 h2 h3 h4 h5 h6 h7 h8))
 obtain ⟨A1,c1,rfl⟩:=ha.form
 have e1:(x.word == [105,102]) = false:=by simpa using h1
 have e2:(x.word == [101,108,115,101]) = false:=by simpa using h2
 have e3:(x.word == [116,104,101,110]) = false:=by simpa using h3
 have e4:(x.word == [98,101,103,105,110]) = false:=by simpa using h4
 have e5:(x.word == [119,104,105,108,101]) = false:=by simpa using h5
 have e6:(x.word == [114,101,112,101,97,116]) = false:=by simpa using h6
 have e7:(x.word == [117,110,116,105,108]) = false:=by simpa using h7
 have e8:(x.word == [97,103,97,105,110]) = false:=by simpa using h8
 have HAL:=Lib.hid ((Below.refl w.heap.size w).alloc (Nat.le_refl _) (.cells #[.slice A0 n0 c0,.string ⟨x.word.toArray⟩,.slice A1 x.args.length c1] 105))
 clear h1 h2 h3 h4 h5 h6 h7 h8 ha hn
 generalize x.args.length = n1 at *
 generalize hs:x.word = s at *
 clear hs
 go_enter Tryz.func111,Tryz.ntmps111
 go_wp2_with fail
 go_ret2
 exact ⟨fret_bb (by rw [HR.out]) (by rw [HR.out]),HAL.out⟩
theorem F8.here_room {B gm H:Nat} {S:F8.St} {W0:World} (h:F8.MkO B W0 gm H S) {AM:Option Addr} {cM:Nat} {ls:List (List UInt8)} {k:List UInt8} (hc:∀ W,Below W0.heap.size W0 W→W.cell? ⟨gm,0,none⟩ = some (.slice AM S.out.length cM)) (w3:World) (v3:Value) (hb:Below W0.heap.size W0 w3)
  (ho:w3.ownsRow W0.heap.size 9 1 v3 (ls.length+1) (L6.sv ls ++ [.string ⟨k.toArray⟩])) :
  (∃ A3 c3,v3 = .slice A3 (ls.length+1) c3)∧(∀ W',Below w3.heap.size w3 W'→W'.cell? ⟨gm,0,none⟩ = some (.slice AM S.out.length cM))∧w3.frozen? ⟨gm,0,none⟩ = false∧∃ cs,(w3.alloc (.cells #[v3,.string ⟨#[]⟩,.slice none 0 0] 105)).ownsRow B 105 3 (.slice AM S.out.length cM) S.out.length cs ∧
   Src Tryz.prog 3 33 (.slice (some ⟨w3.heap.size,0,none⟩) 1 1) 1 [v3,.string ⟨#[]⟩,.slice none 0 0] (w3.alloc (.cells #[v3,.string ⟨#[]⟩,.slice none 0 0] 105))∧B≤(w3.alloc (.cells #[v3,.string ⟨#[]⟩,.slice none 0 0] 105)).heap.size ∧
   ∀ v' w',w'.ownsRow B 105 3 v' (S.out.length+1) (cs ++ [v3,.string ⟨#[]⟩,.slice none 0 0])→Below B (w3.alloc (.cells #[v3,.string ⟨#[]⟩,.slice none 0 0] 105)) w'→(w3.alloc (.cells #[v3,.string ⟨#[]⟩,.slice none 0 0] 105)).grownBy w' (Value.slice AM S.out.length cM).ownBlock→F8.Where (Value.slice AM S.out.length cM) v' (w3.alloc (.cells #[v3,.string ⟨#[]⟩,.slice none 0 0] 105)).heap.size →
    (∃ A' c',v' = .slice A' (S.out.length+1) c')∧w'.cell? ⟨gm,0,none⟩ = some (.slice AM S.out.length cM)∧w'.frozen? ⟨gm,0,none⟩ = false ∧
    Hid (F8.MkO B (w'.setCell ⟨gm,0,none⟩ v') gm (w'.setCell ⟨gm,0,none⟩ v').heap.size ⟨S.out ++ [F8.at_ ls k],S.opn,S.made⟩∧F8.Stay gm B W0 (w'.setCell ⟨gm,0,none⟩ v')):=by
 have hz3:OwnZ W0.heap.size w3 v3 (ls ++ [k]):=.inl (by unfold OwnS;simpa [L6.sv_append,L6.sv] using ho)
 have hnew:F8.New H w3.heap.size v3 (.slice none 0 0):=⟨fun j hj=>⟨Nat.le_trans h.le (hz3.blk_lt hj).1,(hz3.blk_lt hj).2⟩,(fun j hj=>by cases hj),(fun j _ e=>by cases e)⟩
 obtain ⟨A,c,cs,k0,f0,hkk,ho1,hs1,hz1,hput⟩:=F8.Mk.room0 F8.uo llrt (h.kept hb) ⟨ls ++ [k],[],[]⟩ (.inl (hz3.rebase h.size)) (.inl (.inl (OwnS.nil B w3))) (fun _=>hnew)
 have e:=(hc w3 hb).symm.trans k0
 injection e with e
 injection e with e1 e2 e3
 subst e1 e3
 refine ⟨(Rd.of_own ho).form,hkk,f0,cs,ho1,hs1,hz1,fun v' w' g1 g2 g3 g4=>?_⟩
 obtain ⟨a1,a2,a3,a4⟩:=hput v' w' g1 g2 g3 g4
 exact ⟨a1,a2,a3,Lib.hid ⟨a4.out.1.later a4.out.1.le (Nat.le_refl _),(F8.Stay.of hb h.size h.lt).trans a4.out.2⟩⟩
set_option maxRecDepth 100000 in
set_option maxHeartbeats 4000000 in
theorem fhere_any {B gm H:Nat} {S:F8.St} (w:World) (h:F8.MkO B w gm H S) (vl va:Value) (s:ByteArray) (ls:List (List UInt8)) (k:List UInt8) (hl:RdS w vl ls) (hll:ls.length≤100000) (hva:∃ A n c,va = .slice A n c) (ho:S.out.length≤100000) :
  Calls Tryz.prog 178 #[.pointer (some ⟨gm,0,none⟩),.agg #[vl,.string s,va],.string ⟨k.toArray⟩] w fun e w'=>e = .returned (.tuple #[])∧F8.MkO B w' gm w'.heap.size ⟨S.out ++ [F8.at_ ls k],S.opn,S.made⟩∧F8.Stay gm B w w':=by
 obtain ⟨A0,n0,c0,rfl⟩:=hva
 obtain ⟨A1,c1,rfl⟩:=hl.form
 obtain ⟨W0,hW0⟩:∃ W0,w.alloc (.cells #[.slice A1 ls.length c1,.string s,.slice A0 n0 c0] 105) = W0:=⟨_,rfl⟩
 have hbe:Below w.heap.size w W0:=by rw [← hW0];exact (Below.refl _ _).alloc (Nat.le_refl _) _
 have hbl:Bk W0 w.heap.size 105 #[.slice A1 ls.length c1,.string s,.slice A0 n0 c0]:=by rw [← hW0];exact Bk.fresh w _ _
 have HM0:=Lib.hid (h.kept hbe)
 have HST0:=Lib.hid (F8.Stay.of hbe h.size h.lt)
 have hl0:RdS W0 (.slice A1 ls.length c1) ls:=hl.kept hbe
 have CC:=Lib.hid (fun W (hW:Below W0.heap.size W0 W)=>lclone_any (.slice A1 ls.length c1) ls W (hl0.kept hW) (by omega))
 obtain ⟨vo,vp,cs0,q1,q2,q3,q4,q5⟩:=HM0.out.obj
 obtain ⟨AM,cM,rfl⟩:=(Rd.of_own q2).form
 have HC:=Lib.hid (fun W (hW:Below W0.heap.size W0 W)=>show W.cell? ⟨gm,0,none⟩ = some (.slice AM S.out.length cM)∧W.cell? ⟨w.heap.size,0,none⟩ = some (.slice A1 ls.length c1) from ⟨(q1.kept hW).cell 0,(hbl.kept hW).cell 0⟩)
 have HLs:=Lib.hid (show (ls.length+1) * 16≤140737488355328∧ls.length+1≤maxLen from by unfold maxLen;omega)
 have HLo:=Lib.hid (show (S.out.length+1) * 64≤140737488355328∧S.out.length+1≤maxLen from by unfold maxLen;omega)
 clear h hl hbe hbl hl0 q1 q2 q3 q4 q5 hll ho
 go_enter Tryz.func178,Tryz.ntmps178
 go_wp2_with fail
 obtain ⟨k0,k1⟩:=HC.out _ (Below.refl _ _)
 obtain ⟨j0,j1⟩:=HC.out _ ((Below.refl _ _).alloc (Nat.le_refl _) (.cells #[.string ⟨k.toArray⟩] 9))
 have HR:=Lib.hid (F8.here_room (ls:=ls) (k:=k) HM0.out (fun W hW=>(HC.out W hW).1))
 go_region_law (first
  | (go_simp;go_at_call 165;refine (CC.out _ (by first | exact (Below.refl _ _).drew | exact (Below.refl _ _).drew.alloc (Nat.le_refl _) _ | exact ((Below.refl _ _).alloc (Nat.le_refl _) _).drew)).mono ?_;rintro e w2 ⟨v2,rfl,hv2,hb2⟩;obtain ⟨A2,c2,rfl⟩:=hv2.form;have HB2:=Lib.hid (show Below W0.heap.size W0 w2 from F8.below_via (W0:=W0) (by first | exact (Below.refl _ _).drew | exact (Below.refl _ _).drew.alloc (Nat.le_refl _) _ | exact ((Below.refl _ _).alloc (Nat.le_refl _) _).drew) hb2);have HV2:=Lib.hid (show w2.ownsRow W0.heap.size 9 1 (.slice A2 ls.length c2) ls.length (L6.sv ls) from own_rebase hv2 (by first | exact Nat.le_refl _ | simp));obtain ⟨i0,i1⟩:=HC.out _ HB2.out;obtain ⟨g0,g1⟩:=HC.out _ (HB2.out.alloc HB2.out.size (.cells #[.string ⟨k.toArray⟩] 9));(first | (have HSB:=Lib.hid (show Bk w2 W0.heap.size 9 #[.string ⟨k.toArray⟩] from (show Bk (W0.alloc (.cells #[.string ⟨k.toArray⟩] 9)).drew W0.heap.size 9 #[.string ⟨k.toArray⟩] from Bk.fresh W0 _ _).kept hb2)) | skip))
  | (refine step_appendR (by rfl) _ _ _ _ (by rfl) lsrt (by decide) W0.heap.size (.slice A2 ls.length c2) (by rfl) ls.length (L6.sv ls) (by first | exact HV2.out | exact own_kept HV2.out ((Below.refl _ _).alloc (Nat.le_refl _) _)) _ (by rfl) 1 [.string ⟨k.toArray⟩] (by first | exact src_one w2 k | exact Rd.src lsrt (Rd.built HSB.out rfl) (by intro u hu;simp at hu;subst hu;rfl)) HLs.out.1 HLs.out.2 (by first | exact HB2.out.size | (have:=HB2.out.size;simp;omega)) ?_;intro v3 w3 ho3 hb3 hg3;have HB3:=Lib.hid (show Below W0.heap.size W0 w3 from by first | exact HB2.out.trans hb3 | exact (HB2.out.alloc HB2.out.size _).trans hb3);obtain ⟨⟨A3,c3,rfl⟩,hkk,hff,cs,ho4,hs4,hz4,hput⟩:=HR.out w3 v3 HB3.out ho3;have l0:=hkk _ (Below.refl _ _);have l1:=hkk _ ((Below.refl _ _).alloc (Nat.le_refl _) (.cells #[.slice A3 (ls.length+1) c3,.string ⟨#[]⟩,.slice none 0 0] 105));have HO4:=Lib.hid ho4;have HS4:=Lib.hid hs4;have HZ4:=Lib.hid hz4;have HPUT:=Lib.hid hput;clear ho3 hb3 hg3 ho4 hs4 hz4 hput hkk)
  | (refine step_appendRB (by rfl) _ _ _ _ (by rfl) llrt (by decide) B (.slice AM S.out.length cM) (by rfl) S.out.length cs HO4.out _ (by rfl) 1 [.slice A3 (ls.length+1) c3,.string ⟨#[]⟩,.slice none 0 0] HS4.out HLo.out.1 HLo.out.2 HZ4.out ?_;intro v5 w5 ho5 hb5 hg5 hv5;obtain ⟨⟨A5,c5,rfl⟩,m0,m1,HM⟩:=HPUT.out v5 w5 ho5 hb5 hg5 hv5))
 all_goals go_wp2_with fail
 all_goals go_end0
 all_goals exact ⟨rfl,HM.out.1,HST0.out.trans HM.out.2⟩
end Go.Proofs.YtpcpaoeajcjoiaaGreatDoor
