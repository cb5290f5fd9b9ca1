/- Texts joined, what is not reached left out. -/
import Derived.Test.YtpcpaoeajcjoiaaGreatDoorPD
import Derived.OneCell
set_option linter.unusedVariables false
set_option linter.unusedSimpArgs false
namespace Go.Proofs.YtpcpaoeajcjoiaaGreatDoor
open Go.RowKit Kit
theorem Im.cells_ask (S:Im.St) (vo va v':Value) (hl:S.last.length = 32):(Im.cells S vo va).set 35 v' = Im.cells (Im.ask S) vo v':=by
 rw [Im.cells_eq,Im.cells_eq,List.set_cons_succ,List.set_cons_succ,List.set_append_right _ _ (by rw [List.length_map,hl];omega),List.length_map,hl]
 rfl
theorem Im.Mk.roomA {F:Nat→Prop} {W Wa:World} {gm:Nat} {S:Im.St} (h:Im.Mk F W gm S) (hb:Below W.heap.size W Wa) :
  ∃ A c Ao co,Wa.cell? ⟨gm,35,none⟩ = some (.slice A S.asks.length c)∧(∀ W',Below Wa.heap.size Wa W'→W'.cell? ⟨gm,35,none⟩ = some (.slice A S.asks.length c))∧Wa.cell? ⟨gm,0,none⟩ = some (.slice Ao S.out.length co)∧(∀ W',Below Wa.heap.size Wa W'→W'.cell? ⟨gm,0,none⟩ = some (.slice Ao S.out.length co)) ∧
   (Wa.alloc (.cells #[.int .i64 (S.out.length:Int)] 3)).ownsRow 0 3 1 (.slice A S.asks.length c) S.asks.length (Im.askC S.asks) ∧
   Src Tryz.prog 1 60 (.slice (some ⟨Wa.heap.size,0,none⟩) 1 1) 1 [.int .i64 (S.out.length:Int)] (Wa.alloc (.cells #[.int .i64 (S.out.length:Int)] 3)) ∧
   ∀ v' w',w'.ownsRow 0 3 1 v' (S.asks.length+1) (Im.askC S.asks ++ [.int .i64 (S.out.length:Int)])→(Wa.alloc (.cells #[.int .i64 (S.out.length:Int)] 3)).grownBy w' (Value.slice A S.asks.length c).ownBlock→F8.Where (Value.slice A S.asks.length c) v' (Wa.alloc (.cells #[.int .i64 (S.out.length:Int)] 3)).heap.size →
    (∃ A' c',v' = .slice A' (S.asks.length+1) c')∧w'.cell? ⟨gm,35,none⟩ = some (.slice A S.asks.length c)∧w'.frozen? ⟨gm,35,none⟩ = false∧Hid (Im.To F W gm (Im.ask S) (w'.setCell ⟨gm,35,none⟩ v')):=by
 obtain ⟨vo,vk,cs,h1,h2,h3,h4,h5,h6⟩:=h.obj
 obtain ⟨A,c,rfl⟩:=(Rd.of_own h4).form
 obtain ⟨Ao,co,rfl⟩:=(Rd.of_own h2).form
 have hal:Below Wa.heap.size Wa (Wa.alloc (.cells #[.int .i64 (S.out.length:Int)] 3)):=(Below.refl _ _).alloc (Nat.le_refl _) _
 have hal2:Below W.heap.size W (Wa.alloc (.cells #[.int .i64 (S.out.length:Int)] 3)):=hb.trans (hal.mono hb.size)
 refine ⟨A,c,Ao,co,((h1.kept hb).cell 35).trans (Im.cell_asks S _ _ h.last),fun W' hb'=>(((h1.kept hb).kept hb').cell 35).trans (Im.cell_asks S _ _ h.last),((h1.kept hb).cell 0).trans (Im.cell_out S _ _),fun W' hb'=>(((h1.kept hb).kept hb').cell 0).trans (Im.cell_out S _ _),own_kept h4 hal2,?_,fun v' w' ho hg hv=>?_⟩
 ·have hbk:=Bk.fresh Wa 3 #[.int .i64 (S.out.length:Int)]
  refine Rd.src iirt ⟨rfl,some ⟨Wa.heap.size,0,none⟩,1,rfl,Nat.le_refl _,by unfold maxLen;omega,fun _=>⟨_,0,rfl,hbk.lt,fun j u hu=>?_⟩⟩ (fun u hu=>by
   simp only [List.mem_cons,List.not_mem_nil,or_false] at hu
   subst hu
   rfl)
  rw [Nat.zero_add,hbk.cell j]
  simpa using hu
 ·have hk4:=own_kept h4 hal2
  have hgm2:=h1.kept hal2
  have hgm1:Bk w' gm 124 _:=(hg.block gm hgm2.lt (fun e=>own_bk_ne hk4 hgm2 (by decide) e.symm)).trans hgm2
  have hs:=But.setCell w' gm 35 v'
  have f1:Fr F W (Wa.alloc (.cells #[.int .i64 (S.out.length:Int)] 3)):=Fr.of_below hal2
  have f2:Fr F (Wa.alloc (.cells #[.int .i64 (S.out.length:Int)] 3)) w':=Fr.of_grown hg h6
  have f3:Fr F w' (w'.setCell ⟨gm,35,none⟩ v'):=Fr.of_but hs h.gm
  have f23:Fr F (Wa.alloc (.cells #[.int .i64 (S.out.length:Int)] 3)) (w'.setCell ⟨gm,35,none⟩ v'):=f2.trans f3 (fun k hk=>.inl hk)
  have hG:∀ g,g < (Wa.alloc (.cells #[.int .i64 (S.out.length:Int)] 3)).heap.size→(F g ∨ v'.ownBlock = some g)→F g:=fun g hlt hg'=>hg'.elim id (fun e=>(hv g e).elim (h6 g) (fun e=>absurd hlt (by omega)))
  refine ⟨(Rd.of_own ho).form,(hgm1.cell 35).trans (Im.cell_asks S _ _ h.last),hgm1.free 35,Lib.hid ⟨fun k=>F k ∨ v'.ownBlock = some k,⟨⟨.slice Ao S.out.length co,v',cs,?_,?_,?_,?_,fun k hk=>.inl (h5 k hk),fun k hk=>.inr hk⟩,h.last,h.list,.inl h.gm,fun k hk=>?_⟩,f1.trans f23 (fun k hk=>.inl hk),fun k hk=>?_⟩⟩
  ·have hbs:=hgm1.set 35 v'
   rw [List.setIfInBounds_toArray,Im.cells_ask S _ _ v' h.last] at hbs
   exact hbs
  ·exact own_but (own_other (by decide) hk4 hg (own_kept h2 hal2)) hgm1 (by decide) hs
  ·exact h3.map fun u l hu=>(hu.fr f1 (G:=F) (fun _ _ h=>h)).fr f23 hG
  ·show World.ownsRow _ 0 _ 1 _ (S.asks ++ [S.out.length]).length (Im.askC (S.asks ++ [S.out.length]))
   rw [List.length_append,List.length_cons,List.length_nil,Nat.zero_add,show Im.askC (S.asks ++ [S.out.length]) = Im.askC S.asks ++ [.int .i64 (S.out.length:Int)] by simp [Im.askC]]
   exact own_but ho hgm1 (by decide) hs
  ·have e:(w'.setCell ⟨gm,35,none⟩ v').heap.size = w'.heap.size:=by simp [World.setCell]
   rw [e]
   rcases hk with hk | hk
   ·exact Nat.lt_of_lt_of_le (h.lt k hk) (Nat.le_trans hal2.size hg.size)
   ·exact own_lt' ho hk
  ·rcases hk with hk | hk
   ·exact .inl hk
   ·rcases hv k hk with e | e
    ·exact .inl (h6 k e)
    ·exact .inr (Nat.le_trans hal2.size e)
theorem RdS.setS {W:World} {v:Value} {l:List (List UInt8)} (h:RdS W v l) {a:Addr} {A:Option Addr} {n c:Nat} (ha:W.cell? a = some (.slice A n c)) (u:Value):RdS (W.setCell a u) v l:=by
 obtain ⟨h0,A',c',e,h1,h2,h3⟩:=h
 refine ⟨h0,A',c',e,h1,h2,fun hp=>?_⟩
 obtain ⟨g,off,e2,hg,hc⟩:=h3 hp
 refine ⟨g,off,e2,by simpa [World.setCell] using hg,fun j x hx=>?_⟩
 have hj:=hc j x hx
 rw [World.cell?_setCell_other]
 ·exact hj
 ·intro e3
  rw [← e3,ha] at hj
  injection hj with hj
  subst hj
  unfold L6.sv at hx
  rw [List.getElem?_map] at hx
  cases hq:l[j]? with
  | none=>rw [hq] at hx;cases hx
  | some s=>rw [hq] at hx;injection hx with hx;cases hx
theorem As.Rs.setS {F:Nat→Prop} {W:World} {v:Value} {l:List (List UInt8)} (h:As.Rs F W v l) {a:Addr} {A:Option Addr} {n c:Nat} (ha:W.cell? a = some (.slice A n c)) (u:Value):As.Rs F (W.setCell a u) v l:=⟨RdS.setS h.1 ha u,h.2⟩
theorem Im.size_set (W:World) (a:Addr) (u:Value):(W.setCell a u).heap.size = W.heap.size:=by simp [World.setCell]
theorem Im.Mk.setBox {F:Nat→Prop} {W:World} {gm gl:Nat} {S:Im.St} (h:Im.Mk F W gm S) {A:Option Addr} {n c:Nat} {x y:Value} (hk:Im.Box F W gl #[.slice A n c,x,y]) (u:Value):Im.Mk F (W.setCell ⟨gl,0,none⟩ u) gm S:=by
 obtain ⟨vo,va,cs,h1,h2,h3,h4,h5,h6⟩:=h.obj
 have hc:W.cell? ⟨gl,0,none⟩ = some (.slice A n c):=hk.bk.cell 0
 refine ⟨⟨vo,va,cs,(But.setCell W gl 0 u).bk h1 (fun e=>hk.no (e ▸ h.gm)),?_,h3.map fun v l hv=>hv.setS hc u,?_,h5,h6⟩,h.last,h.list,h.gm,fun k hk'=>by rw [Im.size_set];exact h.lt k hk'⟩
 ·exact ownsRow_setCell_other h2 (fun e=>hk.no (h5 _ e)) u
 ·exact ownsRow_setCell_other h4 (fun e=>hk.no (h6 _ e)) u
theorem Im.Box.set {F:Nat→Prop} {W:World} {gl:Nat} {a x y:Value} (h:Im.Box F W gl #[a,x,y]) (u:Value):Im.Box F (W.setCell ⟨gl,0,none⟩ u) gl #[u,x,y]:=by
 refine ⟨?_,h.no⟩
 have:=h.bk.set 0 u
 simpa using this
theorem Step.setNew {F F':Nat→Prop} {w W:World} (h:Step F w F' W) {g i:Nat} (hg:w.heap.size≤g) (u:Value):Step F w F' (W.setCell ⟨g,i,none⟩ u):=
 ⟨⟨h.fr.os,h.fr.tape,h.fr.output,by rw [Im.size_set];exact h.fr.size,fun k hk hn=>by
  rw [Below.heap_setCell W _ u k (fun e=>by
   have:k = g:=by first | exact e | exact e.symm
   omega)]
  exact h.fr.block k hk hn⟩,h.new⟩
theorem Im.line_heads (xl xa:List (List UInt8)) (S:Im.St):Im.line ⟨xl,Im.tHeads,xa⟩ S = if xa ≠ [] then .bad 40 else .ok (Im.puts (Im.heads xl) (Im.ask (Im.end_ S))):=by
 unfold Im.line
 rw [if_neg (show ¬ Im.tHeads = Im.tList by decide),if_neg (show ¬ Im.tHeads = Im.tDef by decide),if_neg (show ¬ Im.tHeads = Im.tPart by decide),if_pos rfl]
theorem Im.heads_len (xl:List (List UInt8)):(Im.heads xl).length = 32:=by simp [Im.heads]
theorem Im.heads_all (xl:List (List UInt8)):(Im.heads xl).take 32 = Im.heads xl:=by rw [List.take_of_length_le (by rw [Im.heads_len];exact Nat.le_refl _)]
theorem Im.heads_first (xl:List (List UInt8)) (S:Im.St):Im.put ⟨xl,As.tWord,[[48]]⟩ (Im.puts ((Im.heads xl).take 0) S) = Im.puts ((Im.heads xl).take 1) S:=by
 simp [Im.put,Im.puts,Im.heads]
theorem Im.heads_next (xl:List (List UInt8)) (S:Im.St) (k:Nat) (h0:k ≠ 0) (h:k < 32):Im.put ⟨[],As.tWord,[[48]]⟩ (Im.puts ((Im.heads xl).take k) S) = Im.puts ((Im.heads xl).take (k+1)) S:=by
 have e:(Im.heads xl)[k]? = some ⟨[],As.tWord,[[48]]⟩:=by
  obtain ⟨j,rfl⟩:∃ j,k = j+1:=⟨k - 1,by omega⟩
  unfold Im.heads
  rw [List.getElem?_cons_succ,List.getElem?_replicate,if_pos (by omega)]
 rw [List.take_add_one,e]
 simp [Im.put,Im.puts,List.append_assoc]
theorem Im.asks_end (S:Im.St):(Im.end_ S).asks = S.asks:=by
 unfold Im.end_
 split <;> rfl
theorem Im.puts_len (l:List L6.Line) (S:Im.St):(Im.puts l S).out.length = S.out.length+l.length:=by simp [Im.puts]
set_option maxRecDepth 100000 in
set_option maxHeartbeats 8000000 in
theorem iline_heads {F:Nat→Prop} {w:World} {gm:Nat} {S:Im.St} (h:Im.Mk F w gm S) (vl va:Value) (xl xa:List (List UInt8)) (hl:As.Rs F w vl xl) (ha:As.Rs F w va xa) (hc:xl.length≤100000∧xa.length≤100000) (hs:∀ a ∈ xa,a.length≤maxLen) (ho:S.out.length≤900000) (hop:S.opn.length≤1000000000) (hT:As.Tb F w) (hal:S.asks.length≤1000000) :
  Calls Tryz.prog 51 #[.pointer (some ⟨gm,0,none⟩),.agg #[vl,.string ⟨#[104,101,97,100,115]⟩,va]] w (Im.LPost F w gm (Im.line ⟨xl,Im.tHeads,xa⟩ S)):=by
 have HM:=Lib.hid h
 have HL:=Lib.hid hl
 have HA:=Lib.hid ha
 have HC:=Lib.hid hc
 have HO:=Lib.hid ho
 have HS:=Lib.hid hs
 have HOP:=Lib.hid hop
 have HT:=Lib.hid hT
 obtain ⟨Al,kl,hvl⟩:=Rd.form hl.1
 obtain ⟨Aa,ka,hva⟩:=Rd.form ha.1
 subst hvl hva
 obtain ⟨w0,hw0⟩:∃ a,w.alloc (.cells #[.slice Al xl.length kl,.string ⟨#[104,101,97,100,115]⟩,.slice Aa xa.length ka] 105) = a:=⟨_,rfl⟩
 have HB0:=Lib.hid (show Below w.heap.size w w0 from hw0 ▸ Im.alloc_below w _)
 have HX0:=Lib.hid (show Im.Box F w0 w.heap.size #[.slice Al xl.length kl,.string ⟨#[104,101,97,100,115]⟩,.slice Aa xa.length ka] from ⟨hw0 ▸ Bk.fresh w _ _,fun e=>Nat.lt_irrefl _ (h.lt _ e)⟩)
 have HM0:=Lib.hid (h.kept HB0.out)
 have HRA:=Lib.hid (show ∀ W,Below w0.heap.size w0 W→RdS W (.slice Aa xa.length ka) xa from fun W hW=>RdS.kept (RdS.kept ha.1 HB0.out) hW)
 have HRL:=Lib.hid (show ∀ W,Below w0.heap.size w0 W→RdS W (.slice Al xl.length kl) xl from fun W hW=>RdS.kept (RdS.kept hl.1 HB0.out) hW)
 have HBK:=Lib.hid (show ∀ W,Below w0.heap.size w0 W→∀ i,W.cell? ⟨w.heap.size,i,none⟩ = (#[.slice Al xl.length kl,.string ⟨#[104,101,97,100,115]⟩,.slice Aa xa.length ka]:Array Value)[i]? from fun W hW i=>(HX0.out.kept hW).bk.cell i)
 have HAL:=Lib.hid (show ((Im.end_ S).asks.length+1) * 8≤140737488355328∧(Im.end_ S).asks.length+1≤maxLen by rw [Im.asks_end];unfold maxLen;omega)
 have HV:=Lib.hid (Im.line_heads xl xa S)
 generalize Im.line ⟨xl,Im.tHeads,xa⟩ S = R at *
 by_cases hxa:xa = []
 ·subst hxa
  rw [if_neg (by simp)] at HV
  simp only [List.length_nil] at hw0 HBK HX0
  rw [List.length_nil]
  have CE:=Lib.hid (show ∀ W,Below w0.heap.size w0 W→Calls Tryz.prog 52 #[.pointer (some ⟨gm,0,none⟩)] W fun e w'=>e = .returned (.tuple #[])∧Im.To F W gm (Im.end_ S) w' from fun W hW=>iend_any (HM0.out.kept hW) (by omega) hop)
  have HLE:=Lib.hid (Im.out_end S)
  clear h hl ha hc hs ho hop hT hal
  go_enter Tryz.func51,Tryz.ntmps51
  go_upto_region 1 with fail
  clear hw0
  have b0:=HBK.out w0 (Below.refl _ _) 0
  have b1:=HBK.out w0 (Below.refl _ _) 1
  have b2:=HBK.out w0 (Below.refl _ _) 2
  simp at b0 b1 b2
  go_upto_region 29 with (go_at_call 52;refine (CE.out _ (Below.refl _ _)).mono ?_;rintro e w2 ⟨rfl,F2,m2,s2⟩)
  have HM2:=Lib.hid m2
  have HS2:=Lib.hid ((show Step F w F w0 from Step.of_below HB0.out).trans s2)
  have HX2:=Lib.hid (HX0.out.step s2)
  obtain ⟨S2,hS2⟩:∃ a,Im.end_ S = a:=⟨_,rfl⟩
  rw [hS2] at HLE HM2 HV HAL
  clear m2 s2 b0 b1 b2 hS2
  have hdr:Below w2.heap.size w2 w2.drew:=(Below.refl _ _).drew
  obtain ⟨A,c,Ao,co,q0,qk,r0,rk,qo,qs,qput⟩:=HM2.out.roomA hdr
  have HO1:=Lib.hid qo
  have HS1:=Lib.hid qs
  have HP1:=Lib.hid qput
  have m0:w2.cell? ⟨gm,35,none⟩ = some (.slice A S2.asks.length c):=q0
  have m1:w2.cell? ⟨gm,0,none⟩ = some (.slice Ao S2.out.length co):=r0
  have m2:(w2.alloc (.cells #[.int .i64 (S2.out.length:Int)] 3)).cell? ⟨gm,35,none⟩ = some (.slice A S2.asks.length c):=qk ((w2.drew).alloc (.cells #[.int .i64 (S2.out.length:Int)] 3)) (Im.alloc_below _ _)
  have m3:(w2.alloc (.cells #[.int .i64 (S2.out.length:Int)] 3)).cell? ⟨gm,0,none⟩ = some (.slice Ao S2.out.length co):=rk ((w2.drew).alloc (.cells #[.int .i64 (S2.out.length:Int)] 3)) (Im.alloc_below _ _)
  clear q0 qk r0 rk qo qs qput hdr
  have HLo:=Lib.hid (show (S2.asks.length+1) * 8≤140737488355328∧S2.asks.length+1≤maxLen from HAL.out)
  go_cut [] from 101 to 114 (fun wx=>Hid (Im.To F2 w2 gm (Im.ask S2) wx))
  case first=>
   go_region_law (refine step_appendRB (by rfl) _ _ _ _ (by rfl) iirt (by decide) 0 (.slice A S2.asks.length c) (by rfl) S2.asks.length (Im.askC S2.asks) HO1.out _ (by rfl) 1 [.int .i64 (S2.out.length:Int)] HS1.out HLo.out.1 HLo.out.2 (Nat.zero_le _) ?_;intro v5 w5 ho5 hb5 hg5 hv5;obtain ⟨⟨A5,c5,rfl⟩,p0,p1,HM⟩:=HP1.out v5 w5 ho5 hg5 hv5)
   all_goals go_wp2_with fail
   all_goals go_meet
   all_goals exact HM
  case rest=>
   obtain ⟨F3,m3',s3⟩:=hcut.out
   have HM3:=Lib.hid m3'
   have HS3:=Lib.hid (HS2.out.trans s3)
   have HX3:=Lib.hid (HX2.out.step s3)
   clear hcut m3' s3 m0 m1 m2 m3 HO1 HS1 HP1
   obtain ⟨S3,hS3⟩:∃ a,Im.ask S2 = a:=⟨_,rfl⟩
   have HL3:=Lib.hid (show S3.out.length≤S.out.length+1 by rw [← hS3];exact HLE.out.2.2)
   rw [hS3] at HM3 HV
   clear hS3
   go_wp2_with fail
   go_loopw [115] (fun i wr=>∃ (k:Nat) (F':Nat→Prop) (A:Option Addr) (n c:Nat),k≤32∧i = .int .i64 (k:Int)∧Im.Mk F' wr gm (Im.puts ((Im.heads xl).take k) S3)∧Step F w F' wr∧Im.Box F' wr w.heap.size #[.slice A n c,.string ⟨#[104,101,97,100,115]⟩,.slice Aa 0 ka]∧(k = 0→Value.slice A n c = .slice Al xl.length kl)) (fun i _=>32 - (intOf i).toNat)
   case atStart=>exact ⟨0,F3,Al,xl.length,kl,by omega,rfl,by rw [List.take_zero,show Im.puts [] S3 = S3 by simp [Im.puts]];exact HM3.out,HS3.out,HX3.out,fun _=>rfl⟩
   case round=>
    obtain ⟨k,F',A,n,c,hk,rfl,hm,hst,hbx,hv⟩:=hrel
    have HMk:=Lib.hid hm
    have HSk:=Lib.hid hst
    have HBk:=Lib.hid hbx
    have hol:(Im.puts ((Im.heads xl).take k) S3).out.length≤1000000:=by
     rw [Im.puts_len,List.length_take,Im.heads_len]
     have:=HL3.out
     have:=HO.out
     omega
    by_cases h32:k < 32
    ·by_cases h0:k = 0
     ·subst h0
      have hva:=hv rfl
      injection hva with e1 e2 e3
      have e1:=e1.symm
      have e3:=e3.symm
      subst e1 e2 e3
      have x0:=hbx.bk.cell 0
      simp at x0
      have hal:Below wr.heap.size wr (wr.alloc (.cells #[.string ⟨#[48]⟩] 9)):=Im.alloc_below wr _
      have HLr:=Lib.hid (HL.out.step hst)
      have CP:=Lib.hid (iput_any (hm.kept hal) (.slice Al xl.length kl) (.slice (some ⟨wr.heap.size,0,none⟩) 1 1) ⟨xl,As.tWord,[[48]]⟩ (RdS.kept HLr.out.1 hal) ⟨Im.rd_one wr [48],Im.clear_new hm.lt 1 1⟩ (show xl.length≤1000000 by have:=HC.out.1;omega) hol)
      clear hm hst hbx hv hal hol hk h32
      go_wp2_with fail
      refine (show Calls Tryz.prog 105 #[.pointer (some ⟨gm,0,none⟩),.slice Al xl.length kl,.string ⟨#[119,111,114,100]⟩,.slice (some ⟨wr.heap.size,0,none⟩) 1 1] (wr.alloc (.cells #[.string ⟨#[48]⟩] 9)) _ from CP.out).mono ?_
      rintro e w5 ⟨rfl,F5,m5,s5⟩
      have s5':=(Step.of_below (Im.alloc_below wr (.cells #[.string ⟨#[48]⟩] 9))).trans s5
      rw [Im.heads_first] at m5
      have HM5:=Lib.hid m5
      have HS5:=Lib.hid (HSk.out.trans s5')
      have HX5:=Lib.hid (HBk.out.step s5')
      clear m5 s5 s5' x0 CP
      go_wp2_with fail
      go_roundw
      case rel=>exact ⟨1,F5,Al,xl.length,kl,by omega,rfl,HM5.out,HS5.out,HX5.out,fun e=>absurd e (by decide)⟩
      case measure=>simp [intOf]
     ·have x0:=hbx.bk.cell 0
      have f0:=hbx.bk.free 0
      simp at x0
      have hmS:=hm.setBox hbx (.slice none 0 0)
      have HSS:=Lib.hid (Step.setNew hst (g:=w.heap.size) (i:=0) (Nat.le_refl _) (.slice none 0 0))
      have HXS:=Lib.hid (hbx.set (.slice none 0 0))
      have HMS:=Lib.hid hmS
      have kp:(0:Int) < (k:Int):=by omega
      have kq:((k:Int) < 32):=by omega
      clear hm hst hbx hv hmS
      go_upto_region 35 with fail
      obtain ⟨w5,hw5⟩:∃ a,wr.setCell ⟨w.heap.size,0,none⟩ (.slice none 0 0) = a:=⟨_,rfl⟩
      rw [hw5] at HSS HXS HMS
      rw [hw5]
      clear hw5 x0 f0
      have x1:=HXS.out.bk.cell 0
      simp at x1
      have CP:=Lib.hid (iput_one HMS.out As.tWord [48] hol)
      go_wp2_with fail
      refine (show Calls Tryz.prog 105 #[.pointer (some ⟨gm,0,none⟩),.slice none 0 0,.string ⟨#[119,111,114,100]⟩,.slice (some ⟨w5.heap.size,0,none⟩) 1 1] (w5.alloc (.cells #[.string ⟨#[48]⟩] 9)) _ from CP.out).mono ?_
      rintro e w6 ⟨rfl,F6,m6,s6⟩
      rw [Im.heads_next xl S3 k h0 h32] at m6
      have HM6:=Lib.hid m6
      have HS6:=Lib.hid (HSS.out.trans s6)
      have HX6:=Lib.hid (HXS.out.step s6)
      clear m6 s6 x1 CP
      go_wp2_with fail
      go_roundw
      case rel=>exact ⟨k+1,F6,none,0,0,by omega,by go_num,HM6.out,HS6.out,HX6.out,fun e=>absurd e (by omega)⟩
      case measure=>simp [intOf];omega
    ·have hke:k = 32:=by omega
     subst hke
     rw [Im.heads_all] at HMk
     clear hm hst hbx hv hol
     go_wp2_with fail
     go_ret
     rw [HV.out]
     exact ⟨rfl,_,HMk.out,HSk.out⟩
 ·rw [if_pos hxa] at HV
  have hR:=HV.out
  subst hR
  have hpos:0 < xa.length:=by
   rcases xa with _ | ⟨a,r⟩
   ·exact absurd rfl hxa
   ·simp
  have hp1:(0:Int) < (xa.length:Int):=by omega
  have hp2:¬ (xa.length:Int)≤0:=by omega
  clear h hl ha hc hs ho hop hT hal HV hxa
  go_enter Tryz.func51,Tryz.ntmps51
  go_upto_region 1 with fail
  clear hw0
  have b0:=HBK.out w0 (Below.refl _ _) 0
  have b1:=HBK.out w0 (Below.refl _ _) 1
  have b2:=HBK.out w0 (Below.refl _ _) 2
  simp at b0 b1 b2
  go_wp2_with fail
  go_ret
  exact ⟨rfl,HB0.out⟩
def Im.LOk (x:L6.Line):Prop:=(x.labels.length≤100000∧x.args.length≤100000)∧∀ a ∈ x.args,a.length≤maxLen
theorem iline_any {F:Nat→Prop} {w:World} {gm:Nat} {S:Im.St} (h:Im.Mk F w gm S) (vl va:Value) (x:L6.Line) (hl:As.Rs F w vl x.labels) (ha:As.Rs F w va x.args) (hT:As.Tb F w) (hx:Im.LOk x) (ho:S.out.length≤900000) (hop:S.opn.length≤1000000000) (hal:S.asks.length≤1000000) :
  Calls Tryz.prog 51 #[.pointer (some ⟨gm,0,none⟩),.agg #[vl,.string ⟨x.word.toArray⟩,va]] w (Im.LPost F w gm (Im.line x S)):=by
 obtain ⟨xl,xw,xa⟩:=x
 dsimp only at *
 obtain ⟨hc,hs⟩:=hx
 by_cases h1:xw = Im.tList
 ·subst h1;exact iline_list h vl va xl xa hl ha hc hs ho
 by_cases h2:xw = Im.tDef
 ·subst h2;exact iline_def h vl va xl xa hl ha hc hs ho hop hT
 by_cases h3:xw = Im.tPart
 ·subst h3;exact iline_part h vl va xl xa hl ha hc hs ho hop hT
 by_cases h4:xw = Im.tHeads
 ·subst h4;exact iline_heads h vl va xl xa hl ha hc hs ho hop hT hal
 by_cases h5:xw = Im.tHead
 ·subst h5;exact iline_head h vl va xl xa hl ha hc hs ho
 ·exact iline_other h vl va xl xw xa hl ha ho h1 h2 h3 h4 h5
def Im.Sm (k:Nat) (S:Im.St):Prop:=S.out.length≤40 * k∧S.asks.length≤k∧S.opn.length≤1000∧S.list≤1
theorem Im.Sm.start:Im.Sm 0 Im.start:=⟨Nat.le_refl _,Nat.le_refl _,by decide,by decide⟩
theorem Im.end_len (S:Im.St):(Im.end_ S).opn = []:=by
 unfold Im.end_
 split
 ·assumption
 ·rfl
theorem Im.label_len (n:Nat) (s:List UInt8) (hn:n≤1) (hs:s.length≤31):(Im.label n s).length≤1000:=by
 have:=Im.dec_len n (by omega)
 unfold Im.label
 simp only [List.length_cons,List.length_append]
 omega
theorem Im.line_sm {k:Nat} {x:L6.Line} {S S':Im.St} (h:Im.Sm k S) (e:Im.line x S = .ok S'):Im.Sm (k+1) S':=by
 obtain ⟨h1,h2,h3,h4⟩:=h
 have hE:=Im.out_end S
 have hA:=Im.asks_end S
 have hO:=Im.end_len S
 unfold Im.line at e
 split at e
 ·split at e
  ·injection e with e;subst e
   refine ⟨?_,Nat.le_succ_of_le h2,h3,by first | exact Nat.zero_le 1 | exact Nat.le_refl 1⟩
   show (S.out ++ [_]).length≤_
   simp;omega
  ·split at e
   ·injection e with e;subst e
    refine ⟨?_,Nat.le_succ_of_le h2,h3,by first | exact Nat.zero_le 1 | exact Nat.le_refl 1⟩
    show (S.out ++ [_]).length≤_
    simp;omega
   ·cases e
 ·split at e
  ·split at e
   ·cases e
   ·split at e
    ·cases e
    ·rename_i hr
     injection e with e;subst e
     have hn:=Im.right_len (l:=x.args.headD []) (by simpa using hr)
     refine ⟨?_,?_,Im.label_len _ _ (by show (Im.end_ S).list≤1;omega) hn,by show (Im.end_ S).list≤1;omega⟩
     ·show (((Im.end_ S).out ++ Im.defs _ _ _ _ _) ++ [_]).length≤_
      simp [Im.defs];omega
     ·show (Im.end_ S).asks.length≤_
      rw [hA];omega
  ·split at e
   ·split at e
    ·cases e
    ·split at e
     ·cases e
     ·rename_i hr
      injection e with e;subst e
      have hn:=Im.right_len (l:=x.args.headD []) (by simpa using hr)
      refine ⟨?_,?_,Im.label_len _ _ (by show (Im.end_ S).list≤1;omega) hn,by show (Im.end_ S).list≤1;omega⟩
      ·show (((Im.end_ S).out ++ [_,_]) ++ [_]).length≤_
       simp;omega
      ·show (Im.end_ S).asks.length≤_
       rw [hA];omega
   ·split at e
    ·split at e
     ·cases e
     ·injection e with e;subst e
      refine ⟨?_,?_,by show (Im.end_ S).opn.length≤_;rw [hO];decide,by show (Im.end_ S).list≤1;omega⟩
      ·show ((Im.end_ S).out ++ Im.heads _).length≤_
       rw [List.length_append,Im.heads_len];omega
      ·show ((Im.end_ S).asks ++ [_]).length≤_
       rw [List.length_append,hA];simp;omega
    ·split at e
     ·cases e
     ·injection e with e;subst e
      refine ⟨?_,Nat.le_succ_of_le h2,h3,h4⟩
      show (S.out ++ [_]).length≤_
      simp;omega
end Go.Proofs.YtpcpaoeajcjoiaaGreatDoor
