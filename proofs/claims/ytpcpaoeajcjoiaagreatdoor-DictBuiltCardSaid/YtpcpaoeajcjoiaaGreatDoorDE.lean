/- Texts joined, what is not reached left out. -/
import Derived.Test.YtpcpaoeajcjoiaaGreatDoorQDcRead
import Derived.Test.YtpcpaoeajcjoiaaGreatDoorNP
import Derived.Deep.RegionLaw
import Derived.Test.YtpcpaoeajcjoiaaGreatDoorPJ
set_option linter.unusedVariables false
set_option linter.unusedSimpArgs false
namespace Go.Proofs.YtpcpaoeajcjoiaaGreatDoor
open Go.RowKit Kit
theorem Dc.u64n {n:Nat} (h:n < 4294967296):IntKind.u64.wrap (n:Int) = (n:Int)∧IntKind.i64.wrap (n:Int) = (n:Int):=by
 rw [IntKind.wrap_u64,IntKind.wrap_i64]
 omega
abbrev Dc.wv (L:Int) (at_:Nat) (nm:ByteArray) (fl:Int) (lk xt sz:Nat):Value:=.agg #[.int .i64 L,.int .u32 (at_:Int),.string nm,.int .i64 fl,.int .u32 (lk:Int),.int .u32 (xt:Int),.int .u32 (sz:Int)]
def Dc.code (b:List UInt8) (xt sz:Nat):List UInt8:=if b.length < sz then [] else Mm.bytesL b xt sz
set_option maxHeartbeats 2000000 in
set_option maxRecDepth 100000 in
theorem dcode_any (w:World) (gm gb:Nat) (b:List UInt8) (hs:List (Nat × Nat)) (L fl:Int) (nm:ByteArray) (at_ lk xt sz:Nat) (hxt:xt < 4294967296) (hsz:sz < 4294967296) (h:OwnM w gm gb b hs) :
  Calls Tryz.prog 35 #[.pointer (some ⟨gm,0,none⟩),Dc.wv L at_ nm fl lk xt sz] w fun e w'=>∃ v,e = .returned v∧RdB w' v (Dc.code b xt sz)∧Below w.heap.size w w':=by
 have hal:Below w.heap.size w (w.alloc (.cells #[.int .i64 L,.int .u32 (at_:Int),.string nm,.int .i64 fl,.int .u32 (lk:Int),.int .u32 (xt:Int),.int .u32 (sz:Int)] 76)):=(Below.refl _ _).alloc (Nat.le_refl _) _
 have hbk:=Bk.fresh w 76 #[.int .i64 L,.int .u32 (at_:Int),.string nm,.int .i64 fl,.int .u32 (lk:Int),.int .u32 (xt:Int),.int .u32 (sz:Int)]
 obtain ⟨w1,hw1⟩:∃ w1,w.alloc (.cells #[.int .i64 L,.int .u32 (at_:Int),.string nm,.int .i64 fl,.int .u32 (lk:Int),.int .u32 (xt:Int),.int .u32 (sz:Int)] 76) = w1:=⟨_,rfl⟩
 rw [hw1] at hal hbk
 have hM:=h.kept hal
 have hhi:=h.hi
 have CS:=Lib.hid (fun W (hW:Below w1.heap.size w1 W)=>size_own W gm gb b hs (hM.kept hW))
 have CB:=Lib.hid (fun W (hW:Below w1.heap.size w1 W)=>bytes_own W gm gb b hs xt (sz:Int) hxt (hM.kept hW))
 have HAL:=Lib.hid hal
 have x3:=hbk.cell 5
 have x4:=hbk.cell 6
 obtain ⟨s1,s2⟩:=Dc.u64n hsz
 obtain ⟨s3,s4⟩:=Dc.u64n (show b.length < 4294967296 by omega)
 have HC:=Lib.hid (show Dc.code b xt sz = if b.length < sz then [] else Mm.bytesL b xt sz from rfl)
 by_cases hlt:b.length < sz
 ·have hlt':decide (b.length < sz) = true:=by rw [decide_eq_true_iff];omega
  have HCE:=Lib.hid (show Dc.code b xt sz = [] from by rw [HC.out,if_pos hlt])
  clear h hal hM hbk
  go_enter Tryz.func35,Tryz.ntmps35
  go_wp2_with fail
  refine wp_region_still_lit (by kernel_rfl) (by kernel_rfl) ?_
  rw [show ∀ W:World,{W with drawn:=W.drawn+1} = W.drew from fun _=>rfl]
  repeat ((with_reducible refine wpStill_step (fun K hK=>?_));go_simp;(try go_bits);(with_reducible refine hK _ ?_);clear hK K)
  still_call (still_of (CS.out _ (Below.refl _ _).drew))
  repeat ((with_reducible refine wpStill_step (fun K hK=>?_));go_simp;(try go_bits);(with_reducible refine hK _ ?_);clear hK K)
  refine wpStill_nil ?_
  go_wp2_with fail
  go_ret
  exact ⟨_,rfl,by rw [HCE.out];exact .inl ⟨none,0,rfl,rfl⟩,HAL.out.drew⟩
 ·have hlt':decide (b.length < sz) = false:=by rw [decide_eq_false_iff_not];omega
  have HCE:=Lib.hid (show Dc.code b xt sz = Mm.bytesL b xt sz from by rw [HC.out,if_neg hlt])
  clear h hal hM
  have z3:=(hbk.kept (Below.refl _ _).drew).cell 5
  have z4:=(hbk.kept (Below.refl _ _).drew).cell 6
  clear hbk
  go_enter Tryz.func35,Tryz.ntmps35
  go_wp2_with fail
  refine wp_region_still_lit (by kernel_rfl) (by kernel_rfl) ?_
  rw [show ∀ W:World,{W with drawn:=W.drawn+1} = W.drew from fun _=>rfl]
  repeat ((with_reducible refine wpStill_step (fun K hK=>?_));go_simp;(try go_bits);(with_reducible refine hK _ ?_);clear hK K)
  still_call (still_of (CS.out _ (Below.refl _ _).drew))
  repeat ((with_reducible refine wpStill_step (fun K hK=>?_));go_simp;(try go_bits);(with_reducible refine hK _ ?_);clear hK K)
  refine wpStill_nil ?_
  go_wp2_with fail
  go_at_call 37
  refine (CB.out _ (Below.refl _ _).drew).mono ?_
  rintro e w2 ⟨v,rfl,hv,hb2⟩
  go_wp2_with fail
  go_ret
  exact ⟨_,rfl,by rw [HCE.out];exact hv.rd,HAL.out.drew.trans (hb2.mono HAL.out.size)⟩
theorem Dc.bk7 {w:World} {z r:Nat} {t:TypeId} {cs:Array Value} {a0 a1 a2 a3 a4 a5 a6:Value} (h:Bk w z t cs) (hne:z ≠ r) :
  Bk (((((((w.setCell ⟨r,0,none⟩ a0).setCell ⟨r,1,none⟩ a1).setCell ⟨r,2,none⟩ a2).setCell ⟨r,3,none⟩ a3).setCell ⟨r,4,none⟩ a4).setCell ⟨r,5,none⟩ a5).setCell ⟨r,6,none⟩ a6) z t cs:=
 (But.setCell _ r 6 a6).bk ((But.setCell _ r 5 a5).bk ((But.setCell _ r 4 a4).bk ((But.setCell _ r 3 a3).bk ((But.setCell _ r 2 a2).bk ((But.setCell _ r 1 a1).bk ((But.setCell _ r 0 a0).bk h hne) hne) hne) hne) hne) hne) hne
set_option maxRecDepth 100000 in
set_option maxHeartbeats 4000000 in
theorem dref_any (w:World) (L fl:Int) (nm:ByteArray) (at_ lk xt sz:Nat) :
  Calls Tryz.prog 78 #[Dc.wv L at_ nm fl lk xt sz] w fun e w'=>e = .returned (Dc.wv L at_ nm fl lk xt sz)∧Below w.heap.size w w':=by
 have h1:Below w.heap.size w (w.alloc (.cells #[.int .i64 L,.int .u32 (at_:Int),.string nm,.int .i64 fl,.int .u32 (lk:Int),.int .u32 (xt:Int),.int .u32 (sz:Int)] 76)):=(Below.refl _ _).alloc (Nat.le_refl _) _
 have hal:Below w.heap.size w ((w.alloc (.cells #[.int .i64 L,.int .u32 (at_:Int),.string nm,.int .i64 fl,.int .u32 (lk:Int),.int .u32 (xt:Int),.int .u32 (sz:Int)] 76)).alloc (.cells #[.int .i64 0,.int .u32 0,.string ⟨#[]⟩,.int .i64 0,.int .u32 0,.int .u32 0,.int .u32 0] 80)):=h1.alloc (by simp) _
 have hbx:Bk ((w.alloc (.cells #[.int .i64 L,.int .u32 (at_:Int),.string nm,.int .i64 fl,.int .u32 (lk:Int),.int .u32 (xt:Int),.int .u32 (sz:Int)] 76)).alloc (.cells #[.int .i64 0,.int .u32 0,.string ⟨#[]⟩,.int .i64 0,.int .u32 0,.int .u32 0,.int .u32 0] 80)) w.heap.size 76 #[.int .i64 L,.int .u32 (at_:Int),.string nm,.int .i64 fl,.int .u32 (lk:Int),.int .u32 (xt:Int),.int .u32 (sz:Int)]:=(Bk.fresh w _ _).kept ((Below.refl _ _).alloc (Nat.le_refl _) _)
 have hrb:Bk ((w.alloc (.cells #[.int .i64 L,.int .u32 (at_:Int),.string nm,.int .i64 fl,.int .u32 (lk:Int),.int .u32 (xt:Int),.int .u32 (sz:Int)] 76)).alloc (.cells #[.int .i64 0,.int .u32 0,.string ⟨#[]⟩,.int .i64 0,.int .u32 0,.int .u32 0,.int .u32 0] 80)) (w.heap.size+1) 80 #[.int .i64 0,.int .u32 0,.string ⟨#[]⟩,.int .i64 0,.int .u32 0,.int .u32 0,.int .u32 0]:=by
  have:=Bk.fresh (w.alloc (.cells #[.int .i64 L,.int .u32 (at_:Int),.string nm,.int .i64 fl,.int .u32 (lk:Int),.int .u32 (xt:Int),.int .u32 (sz:Int)] 76)) 80 #[.int .i64 0,.int .u32 0,.string ⟨#[]⟩,.int .i64 0,.int .u32 0,.int .u32 0,.int .u32 0]
  rwa [World.size_alloc] at this
 obtain ⟨w1,hw1⟩:∃ w1,(w.alloc (.cells #[.int .i64 L,.int .u32 (at_:Int),.string nm,.int .i64 fl,.int .u32 (lk:Int),.int .u32 (xt:Int),.int .u32 (sz:Int)] 76)).alloc (.cells #[.int .i64 0,.int .u32 0,.string ⟨#[]⟩,.int .i64 0,.int .u32 0,.int .u32 0,.int .u32 0] 80) = w1:=⟨_,rfl⟩
 rw [hw1] at hal hbx hrb
 have HBX:=Lib.hid hbx
 have HRB:=Lib.hid hrb
 have HAL:=Lib.hid hal
 clear h1 hal hbx hrb
 go_enter Tryz.func78,Tryz.ntmps78
 go_wp2_with fail
 refine wp_region_held_drew (S:=fun W'=>Bk W' w.heap.size 76 #[.int .i64 L,.int .u32 (at_:Int),.string nm,.int .i64 fl,.int .u32 (lk:Int),.int .u32 (xt:Int),.int .u32 (sz:Int)]) (by kernel_rfl) (HBX.out) (fun hHeld=>?_)
 refine wpAnyH_take (i:=0) (v:=?_) rfl (by kernel_rfl) (by kernel_rfl) (by kernel_rfl) (fun _ _ _ h=>h) (Or.inl ⟨by rfl,?_⟩) (by assumption) ?_
 rotate_left
 ·(intro w hSw;have c0:=hSw.cell 0;have c1:=hSw.cell 1;have c2:=hSw.cell 2;have c3:=hSw.cell 3;have c4:=hSw.cell 4;have c5:=hSw.cell 5;have c6:=hSw.cell 6;simp only [List.getElem_toArray,List.getElem_cons_zero,List.getElem_cons_succ];go_simp;(try with_reducible rfl))
 try simp only [Act.put,List.getElem_toArray,List.getElem_cons_zero,List.getElem_cons_succ,List.setIfInBounds_toArray,List.set_cons_zero,List.set_cons_succ]
 refine wpAnyH_take (i:=1) (v:=?_) rfl (by kernel_rfl) (by kernel_rfl) (by kernel_rfl) (fun _ _ _ h=>h) (Or.inl ⟨by rfl,?_⟩) (by assumption) ?_
 rotate_left
 ·(intro w hSw;have c0:=hSw.cell 0;have c1:=hSw.cell 1;have c2:=hSw.cell 2;have c3:=hSw.cell 3;have c4:=hSw.cell 4;have c5:=hSw.cell 5;have c6:=hSw.cell 6;simp only [List.getElem_toArray,List.getElem_cons_zero,List.getElem_cons_succ];go_simp;(try with_reducible rfl))
 try simp only [Act.put,List.getElem_toArray,List.getElem_cons_zero,List.getElem_cons_succ,List.setIfInBounds_toArray,List.set_cons_zero,List.set_cons_succ]
 refine wpAnyH_take (i:=2) (v:=?_) rfl (by kernel_rfl) (by kernel_rfl) (by kernel_rfl) (fun _ _ _ h=>h) (Or.inl ⟨by rfl,?_⟩) (by assumption) ?_
 rotate_left
 ·(intro w hSw;have c0:=hSw.cell 0;have c1:=hSw.cell 1;have c2:=hSw.cell 2;have c3:=hSw.cell 3;have c4:=hSw.cell 4;have c5:=hSw.cell 5;have c6:=hSw.cell 6;simp only [List.getElem_toArray,List.getElem_cons_zero,List.getElem_cons_succ];go_simp;(try with_reducible rfl))
 try simp only [Act.put,List.getElem_toArray,List.getElem_cons_zero,List.getElem_cons_succ,List.setIfInBounds_toArray,List.set_cons_zero,List.set_cons_succ]
 refine wpAnyH_take (i:=3) (v:=?_) rfl (by kernel_rfl) (by kernel_rfl) (by kernel_rfl) (fun _ _ _ h=>h) (Or.inl ⟨by rfl,?_⟩) (by assumption) ?_
 rotate_left
 ·(intro w hSw;have c0:=hSw.cell 0;have c1:=hSw.cell 1;have c2:=hSw.cell 2;have c3:=hSw.cell 3;have c4:=hSw.cell 4;have c5:=hSw.cell 5;have c6:=hSw.cell 6;simp only [List.getElem_toArray,List.getElem_cons_zero,List.getElem_cons_succ];go_simp;(try with_reducible rfl))
 try simp only [Act.put,List.getElem_toArray,List.getElem_cons_zero,List.getElem_cons_succ,List.setIfInBounds_toArray,List.set_cons_zero,List.set_cons_succ]
 refine wpAnyH_take (i:=4) (v:=?_) rfl (by kernel_rfl) (by kernel_rfl) (by kernel_rfl) (fun _ _ _ h=>h) (Or.inl ⟨by rfl,?_⟩) (by assumption) ?_
 rotate_left
 ·(intro w hSw;have c0:=hSw.cell 0;have c1:=hSw.cell 1;have c2:=hSw.cell 2;have c3:=hSw.cell 3;have c4:=hSw.cell 4;have c5:=hSw.cell 5;have c6:=hSw.cell 6;simp only [List.getElem_toArray,List.getElem_cons_zero,List.getElem_cons_succ];go_simp;(try with_reducible rfl))
 try simp only [Act.put,List.getElem_toArray,List.getElem_cons_zero,List.getElem_cons_succ,List.setIfInBounds_toArray,List.set_cons_zero,List.set_cons_succ]
 refine wpAnyH_take (i:=5) (v:=?_) rfl (by kernel_rfl) (by kernel_rfl) (by kernel_rfl) (fun _ _ _ h=>h) (Or.inl ⟨by rfl,?_⟩) (by assumption) ?_
 rotate_left
 ·(intro w hSw;have c0:=hSw.cell 0;have c1:=hSw.cell 1;have c2:=hSw.cell 2;have c3:=hSw.cell 3;have c4:=hSw.cell 4;have c5:=hSw.cell 5;have c6:=hSw.cell 6;simp only [List.getElem_toArray,List.getElem_cons_zero,List.getElem_cons_succ];go_simp;(try with_reducible rfl))
 try simp only [Act.put,List.getElem_toArray,List.getElem_cons_zero,List.getElem_cons_succ,List.setIfInBounds_toArray,List.set_cons_zero,List.set_cons_succ]
 refine wpAnyH_ready (rs:=[6]) (by kernel_rfl) (by simp) ?_
 refine AllReadyH.cons rfl (fun K hK=>?_) AllReadyH.nil
 simp only [List.getElem_toArray,List.getElem_cons_zero,List.getElem_cons_succ]
 rw [if_pos (by rfl)]
 go_simp
 go_at_call 136
 refine (refOf_any nm fl lk xt sz _).mono ?_
 rintro e w9 ⟨rfl,hb9⟩
 have HB9:=Lib.hid (HAL.out.drew.trans (hb9.mono (by have:=HAL.out.size;simpa using this)))
 have HR9:=Lib.hid (HRB.out.kept (show Below w1.heap.size w1 w9 from (Below.refl _ _).drew.trans hb9))
 have HX9:=Lib.hid (HBX.out.kept (show Below w1.heap.size w1 w9 from (Below.refl _ _).drew.trans hb9))
 have y0:=HR9.out.cell 0
 have y1:=HR9.out.cell 1
 have y2:=HR9.out.cell 2
 have y3:=HR9.out.cell 3
 have y4:=HR9.out.cell 4
 have y5:=HR9.out.cell 5
 have y6:=HR9.out.cell 6
 have f0:=HR9.out.free 0
 have f1:=HR9.out.free 1
 have f2:=HR9.out.free 2
 have f3:=HR9.out.free 3
 have f4:=HR9.out.free 4
 have f5:=HR9.out.free 5
 have f6:=HR9.out.free 6
 clear hb9
 refine hK.out _ _ (HX9.out) (fun hHeld=>?_)
 clear hK K
 try simp only [Act.put,List.getElem_toArray,List.getElem_cons_zero,List.getElem_cons_succ,List.setIfInBounds_toArray,List.set_cons_zero,List.set_cons_succ]
 refine wpAnyH_take (i:=7) (v:=?_) rfl (by kernel_rfl) (by kernel_rfl) (by kernel_rfl) (fun _ _ _ h=>h) (Or.inl ⟨by rfl,?_⟩) (by assumption) ?_
 rotate_left
 ·(intro w hSw;have c0:=hSw.cell 0;have c1:=hSw.cell 1;have c2:=hSw.cell 2;have c3:=hSw.cell 3;have c4:=hSw.cell 4;have c5:=hSw.cell 5;have c6:=hSw.cell 6;simp only [List.getElem_toArray,List.getElem_cons_zero,List.getElem_cons_succ];go_simp;(try with_reducible rfl))
 try simp only [Act.put,List.getElem_toArray,List.getElem_cons_zero,List.getElem_cons_succ,List.setIfInBounds_toArray,List.set_cons_zero,List.set_cons_succ]
 refine wpAnyH_ready (rs:=[8]) (by kernel_rfl) (by simp) ?_
 refine AllReadyH.cons rfl (fun K hK=>?_) AllReadyH.nil
 simp only [List.getElem_toArray,List.getElem_cons_zero,List.getElem_cons_succ]
 rw [if_pos (by rfl)]
 go_simp
 refine hK.out _ _ (Dc.bk7 HX9.out (by omega)) (fun hHeld=>?_)
 clear hK K
 try simp only [Act.put,List.getElem_toArray,List.getElem_cons_zero,List.getElem_cons_succ,List.setIfInBounds_toArray,List.set_cons_zero,List.set_cons_succ]
 refine wpAnyH_done (by kernel_rfl) ?_ _
 go_wp2_with fail
 have hk:=((((((HR9.out.set 0 (.int .i64 L)).set 1 (.int .u32 (at_:Int))).set 2 (.string nm)).set 3 (.int .i64 fl)).set 4 (.int .u32 (lk:Int))).set 5 (.int .u32 (xt:Int))).set 6 (.int .u32 (sz:Int))
 have p0:=hk.cell 0
 have p1:=hk.cell 1
 have p2:=hk.cell 2
 have p3:=hk.cell 3
 have p4:=hk.cell 4
 have p5:=hk.cell 5
 have p6:=hk.cell 6
 refine bodyPost_ret (v:=Dc.wv L at_ nm fl lk xt sz) (by simp [results,Tryz.results78,go_sem,p0,p1,p2,p3,p4,p5,p6]) rfl ?_
 exact ⟨rfl,((((((HB9.out.setCell (by simp) _).setCell (by simp) _).setCell (by simp) _).setCell (by simp) _).setCell (by simp) _).setCell (by simp) _).setCell (by simp) _⟩
theorem dnum_any (c:Int) (w:World):Calls Tryz.prog 34 #[.int .i64 c] w fun e w'=>e = .returned (.int .i64 c)∧w = w':=by
 go_enter Tryz.func34,Tryz.ntmps34
 go_wp2_with fail
 go_ret
 exact ⟨rfl,rfl⟩
def Dc.mem (b:List UInt8) (n:Nat):List UInt8:=b ++ List.replicate (n - b.length) 0
theorem Dc.mem_put (b:List UInt8) (n:Nat) (h:b.length≤n):Mm.putB (List.replicate n 0) 0 b = Dc.mem b n:=by
 unfold Mm.putB Dc.mem Mm.put
 rw [if_pos (by rw [List.length_replicate];omega),List.take_zero,List.nil_append,Nat.zero_add,List.drop_replicate]
theorem Dc.mem_len (b:List UInt8) (n:Nat) (h:b.length≤n):(Dc.mem b n).length = n:=by
 unfold Dc.mem
 rw [List.length_append,List.length_replicate]
 omega
theorem dmem_any (w:World) (v:Value) (b:List UInt8) (n:Nat) (hv:RdB w v b) (hb:b.length≤n) (h4:4≤n) (hn:n≤1048576) (hm:n % 4 = 0) :
  Calls Tryz.prog 30 #[v,.int .i64 (n:Int)] w fun e w'=>∃ gm gb,e = .returned (.pointer (some ⟨gm,0,none⟩))∧OwnM w' gm gb (Dc.mem b n) []∧w.heap.size≤gm∧w.heap.size≤gb∧Below w.heap.size w w':=by
 have CN:=Lib.hid (new_ok w n none 0 [] (Rd.nil w 2) (fun j hj=>absurd hj (by simp)) (by
  simp only [Mm.newOk,Bool.and_eq_true,decide_eq_true_eq]
  refine ⟨by omega,by omega,by omega,by simp,by simp⟩))
 have HV:=Lib.hid hv
 have HM:=Lib.hid (Dc.mem_put b n hb)
 have HB:=Lib.hid hb
 have HN:=Lib.hid hn
 clear hv h4 hm hn hb
 go_enter Tryz.func30,Tryz.ntmps30
 go_wp2_with fail
 go_at_call 68
 refine CN.out.mono ?_
 rintro e w2 ⟨_,rfl,gm,gb,rfl,hM,hgm,hgb,hb2,-⟩
 have CP:=Lib.hid (put_own w2 gm gb (List.replicate n 0) [] 0 v b (by decide) hM (HV.out.below hb2) (by have:=HB.out;have:=HN.out;unfold maxLen;omega))
 have HE:=Lib.hid (show Mm.putE (List.replicate n (0:UInt8)).length 0 b.length = 0 from by unfold Mm.putE;rw [if_pos (by rw [List.length_replicate];have:=HB.out;omega)])
 rw [HM.out,HE.out] at CP
 have HB2:=Lib.hid hb2
 have HG:=Lib.hid (And.intro hgm hgb)
 clear hM hgm hgb hb2
 go_wp2_with (first | (go_at_call 34;refine (dnum_any _ _).mono ?_;rintro e w' ⟨rfl,rfl⟩) | (go_at_call 69;refine CP.out.mono ?_;rintro e w3 ⟨rfl,hM3,hb3⟩))
 go_ret
 exact ⟨gm,gb,rfl,hM3,HG.out.1,HG.out.2,HB2.out.trans (hb3.below HG.out.2 HB2.out.size)⟩
theorem Dc.tail_some {b:List UInt8} {heads:Nat} {c:Nat→List Dc.Wd} (h:∀ k,k < 32→Dc.chain b (k % 16) (k / 16) (Dc.first b heads k) 4294967295 = some (c k)):∀ n,n≤32→Dc.tail b heads n = some ((List.range' (32 - n) n).flatMap c)
 | 0,_=>rfl
 | n+1,hn=>by
  rw [Dc.tail,h (31 - n) (by omega),Dc.tail_some h n (by omega),show 32 - (n+1) = 31 - n by omega,List.range'_succ,List.flatMap_cons,show 31 - n+1 = 32 - n by omega]
  rfl
theorem Dc.all_some {b:List UInt8} {heads:Nat} {c:Nat→List Dc.Wd} (h:∀ k,k < 32→Dc.chain b (k % 16) (k / 16) (Dc.first b heads k) 4294967295 = some (c k)):Dc.all b heads = some ((List.range' 0 32).flatMap c):=Dc.tail_some h 32 (Nat.le_refl _)
def Dc.knS:List UInt8:=[110,111,112,10,100,101,102,32,65,32,48,10,114,101,116,10,104,58,32,104,101,97,100,115]
def Dc.knL:List L6.Line:=[⟨[],[110,111,112],[]⟩,⟨[],Im.tDef,[[65],[48]]⟩,⟨[],As.tRet,[]⟩,⟨[[104]],Im.tHeads,[]⟩]
def Dc.knM:Im.St:=Im.stOf (Im.run Im.start Dc.knL)
def Dc.knP:List L6.Line:=Im.fill (Im.end_ Dc.knM)
theorem Dc.kn_parse:L6.parse Dc.knS = (Dc.knL,0,0):=by decide +kernel
theorem Dc.kn_run:Im.run Im.start Dc.knL = .ok Dc.knM:=by kernel_rfl
theorem Dc.kn_plain:F8.plain Dc.knP = (Dc.knP,0,0):=by kernel_rfl
theorem Dc.kn_len:Dc.knP.length≤1000:=by decide +kernel
theorem Dc.kn_fit:∀ x ∈ Dc.knP,x.labels.length≤100∧x.args.length≤100∧(∀ s ∈ x.labels,s.length≤100)∧(∀ s ∈ x.args,s.length≤100):=by decide +kernel
theorem Dc.kn_lok:∀ x ∈ Dc.knL,(x.labels.length≤100∧x.args.length≤100)∧∀ a ∈ x.args,a.length≤100:=by decide +kernel
def Dc.knO:As.O:=As.assemble Dc.knP 0
theorem Dc.kn_err:Dc.knO.err = 0:=by kernel_rfl
theorem Dc.kn_bytes:Dc.knO.bytes.length = 156:=by decide +kernel
def Dc.knB:List UInt8:=Dc.mem Dc.knO.bytes 256
def Dc.knW:Dc.Wd:=⟨0,4,⟨[65],0,0,24,4⟩⟩
theorem Dc.kn_firsts:∀ k,k < 32→Dc.first Dc.knB 28 k = if k = 5 then 4 else 0:=by decide +kernel
theorem Dc.kn_ok:Dc.ok Dc.knB 5 4 4294967295 = true:=by decide +kernel
theorem Dc.kn_here:Dc.here Dc.knB 4 = ⟨[65],0,0,24,4⟩:=by kernel_rfl
theorem Dc.kn_code:(Dc.code Dc.knB 24 4).length = 4:=by decide +kernel
theorem Dc.kn_fits:Dc.fits Dc.knB 28:=by
 have:Dc.knB.length = 256:=Dc.mem_len _ _ (by rw [Dc.kn_bytes];decide)
 exact ⟨by omega,by decide,by omega⟩
theorem Dc.kn_all:Dc.all Dc.knB 28 = some [Dc.knW]:=by
 rw [Dc.all_some (c:=fun k=>if k = 5 then [Dc.knW] else []) (fun k hk=>by
  rw [Dc.kn_firsts k hk]
  by_cases h:k = 5
  ·subst h
   rw [if_pos rfl,if_pos rfl,Dc.chain_ok _ (by decide) Dc.kn_ok,Dc.kn_here,Dc.chain_zero]
   rfl
  ·rw [if_neg h,if_neg h,Dc.chain_zero])]
 rfl
theorem dknb_any {w:World} (hT:L6.Tab w):Calls Tryz.prog 18 #[.string ⟨Dc.knS.toArray⟩,.int .u32 0] w (Im.BPost w (Im.ofA Dc.knO)):=
 ibuild_any Dc.knS 0 Dc.knL Dc.knP Dc.knM hT (by decide) Dc.kn_parse Dc.kn_run (by decide) (fun x hx=>by
  obtain ⟨⟨h1,h2⟩,h3⟩:=Dc.kn_lok x hx
  exact ⟨⟨by omega,by omega⟩,fun a ha=>Nat.le_trans (h3 a ha) (by decide)⟩) Dc.kn_plain (fun x hx=>by
  obtain ⟨h1,h2,h3,h4⟩:=Dc.kn_fit x hx
  exact ⟨by omega,by omega,fun s hs=>Nat.le_trans (h3 s hs) (by decide)⟩) (Nat.le_trans Dc.kn_len (by decide)) (fun x hx=>by
  obtain ⟨h1,h2,h3,h4⟩:=Dc.kn_fit x hx
  exact ⟨by omega,by omega,fun s hs=>Nat.le_trans (h3 s hs) (by decide),fun s hs=>Nat.le_trans (h4 s hs) (by decide)⟩) (by decide)
theorem RdD.word {W:World} {A:Option Addr} {n c:Nat} {l:List Dc.Wd} (h:RdD W (.slice A n c) l) {j:Nat} (hj:j < l.length):n = l.length∧∃ g off,A = some ⟨g,off,none⟩∧g < W.heap.size∧∀ j,j < l.length→∀ i u,(Dc.wenc (l.getD j Dc.w0))[i]? = some u→W.cell? ⟨g,off+j * 7+i,none⟩ = some u:=by
 obtain ⟨_,A',c',he,h1,h2,h3⟩:=h
 injection he with e1 e2 e3
 subst e1 e2 e3
 obtain ⟨g,off,rfl,hg,hc⟩:=h3 (by omega)
 refine ⟨rfl,g,off,rfl,hg,fun j hj i u hu=>?_⟩
 have hi:i < 7:=by have:=(List.getElem?_eq_some_iff.1 hu).1;rwa [Dc.wenc_len] at this
 rw [Nat.add_assoc]
 exact hc _ _ ((flat_at Dc.wenc 7 Dc.wenc_len l j i Dc.w0 hj hi).trans hu)
theorem Dc.Post.good {w w':World} {b:List UInt8} {heads:Nat} {e:Ending} {l0:List Dc.Wd} (h:Dc.Post w b heads e w') (hf:Dc.fits b heads) (hg:Dc.Good b heads l0) :
  Below w.heap.size w w'∧∃ l' v,l'.Perm l0∧l'.Pairwise (fun x y=>x.at_ < y.at_)∧e = .returned (.tuple #[v,.int .i64 0])∧RdD w' v l'∧∀ x,v.ownBlock = some x→w.heap.size≤x:=by
 obtain ⟨hb,⟨h1,_⟩ | ⟨_,h1,_⟩ | ⟨_,l,l',v,h1,h2,h3,h4,h5⟩⟩:=h
 ·exact absurd hf h1
 ·exact absurd hg (h1 l0)
 ·have e1:l = l0:=by have:=h1.all;rw [hg.all] at this;exact (Option.some.inj this).symm
  subst e1
  exact ⟨hb,l',v,h2,h3,h4,h5⟩
theorem Dc.kn_good:Dc.Good Dc.knB 28 [Dc.knW]:=⟨Dc.kn_all,by decide,by decide⟩
theorem Dc.rd_bytes {w:World} {v:Value} {l:List UInt8} (h:Rd w 1 v l.length (bv l)):RdB w v l:=by
 obtain ⟨hl,A,c,rfl,h2,h3,h4⟩:=h
 by_cases h0:l = []
 ·subst h0
  exact .inl ⟨A,c,rfl,rfl⟩
 ·have hp:0 < l.length:=List.length_pos_iff.2 h0
  obtain ⟨g,off,rfl,hg,hc⟩:=h4 hp
  refine .inr ⟨g,off,c,rfl,hg,h2,h3,fun j hj=>hc j _ ?_⟩
  unfold bv
  rw [List.getElem?_map,List.getD_eq_getElem?_getD,List.getElem?_eq_getElem hj]
  rfl
set_option maxRecDepth 100000 in
set_option maxHeartbeats 4000000 in
theorem dknows_any (w:World) (hT:L6.Tab w):Calls Tryz.prog 29 #[] w fun e w'=>e = .returned (.bool true)∧Below w.heap.size w w':=by
 have CB:=dknb_any hT
 have e0:Im.ofA Dc.knO = ⟨Dc.knO.bytes,Dc.knO.syms,0⟩:=by unfold Im.ofA;rw [if_pos Dc.kn_err]
 rw [e0] at CB
 have hB:Dc.mem Dc.knO.bytes 256 = Dc.knB:=rfl
 have hbl:=Dc.kn_bytes
 generalize Dc.knO = O at *
 have CB:=Lib.hid CB
 have HB:=Lib.hid hB
 have HL:=Lib.hid hbl
 clear e0 hT hB hbl
 go_enter Tryz.func29,Tryz.ntmps29
 go_wp2_with fail
 go_at_call 18
 refine CB.out.mono ?_
 rintro e w2 ⟨vb,vs,rfl,hrb,hrs,hfb,hfs,hb2⟩
 dsimp only at hrb hrs ⊢
 obtain ⟨As_,cs,rfl⟩:=hrs.form
 have hbr:RdB w2 vb O.bytes:=Dc.rd_bytes hrb
 obtain ⟨Ab,cb,rfl⟩:=hbr.length
 have hal:Below w2.heap.size w2 (w2.alloc (.cells #[.slice Ab O.bytes.length cb,.slice As_ O.syms.length cs] 45)):=(Below.refl _ _).alloc (Nat.le_refl _) _
 have hbk:=Bk.fresh w2 45 #[.slice Ab O.bytes.length cb,.slice As_ O.syms.length cs]
 obtain ⟨w3,hw3⟩:∃ w3,w2.alloc (.cells #[.slice Ab O.bytes.length cb,.slice As_ O.syms.length cs] 45) = w3:=⟨_,rfl⟩
 rw [hw3] at hal hbk
 have x0:=hbk.cell 0
 have CM:=dmem_any w3 (.slice Ab O.bytes.length cb) O.bytes 256 (hbr.below hal) (by rw [HL.out];decide) (by decide) (by decide) (by decide)
 rw [HB.out] at CM
 have CM:=Lib.hid CM
 have HB3:=Lib.hid (hb2.trans (hal.mono hb2.size))
 clear hrb hrs hfb hfs hb2 hbr hal hbk
 go_wp2_with fail
 go_at_call 30
 refine CM.out.mono ?_
 rintro e w4 ⟨gm,gb,rfl,hM,hgm,hgb,hb4⟩
 have CR:=Lib.hid (dread_any w4 gm gb Dc.knB [] 28 (by decide) hM)
 have HM:=Lib.hid hM
 have HB4:=Lib.hid hb4
 clear hM hgm hgb hb4 hw3 x0
 go_wp2_with (go_at_call 34;refine (dnum_any _ _).mono ?_;rintro e w' ⟨rfl,rfl⟩)
 go_at_call 31
 refine CR.out.mono ?_
 rintro e w5 hP
 obtain ⟨hb5,l',v,hp,_,rfl,hrd,_⟩:=hP.good Dc.kn_fits Dc.kn_good
 obtain rfl:=List.perm_singleton.1 hp
 obtain ⟨A5,c5,rfl⟩:=Rd.form hrd
 obtain ⟨_,g,off,rfl,hg,hc⟩:=hrd.word (j:=0) (by decide)
 have c1:w5.cell? ⟨g,off+1,none⟩ = some (.int .u32 4):=hc 0 (by decide) 1 _ rfl
 have c0:w5.cell? ⟨g,off,none⟩ = some (.int .i64 0):=hc 0 (by decide) 0 _ rfl
 have c2:w5.cell? ⟨g,off+2,none⟩ = some (.string ⟨#[65]⟩):=hc 0 (by decide) 2 _ rfl
 have c3:w5.cell? ⟨g,off+3,none⟩ = some (.int .i64 0):=hc 0 (by decide) 3 _ rfl
 have c4:w5.cell? ⟨g,off+4,none⟩ = some (.int .u32 0):=hc 0 (by decide) 4 _ rfl
 have c5':w5.cell? ⟨g,off+5,none⟩ = some (.int .u32 24):=hc 0 (by decide) 5 _ rfl
 have c6:w5.cell? ⟨g,off+6,none⟩ = some (.int .u32 4):=hc 0 (by decide) 6 _ rfl
 have CC:=Lib.hid (dcode_any w5 gm gb Dc.knB [] 0 0 ⟨#[65]⟩ 4 0 24 4 (by decide) (by decide) (HM.out.kept hb5))
 have HB5:=Lib.hid (HB4.out.trans (hb5.mono HB4.out.size))
 have hcl:=Dc.kn_code
 clear hP hrd hc hb5 hp hg
 go_wp2_with (first | (go_at_call 34;refine (dnum_any _ _).mono ?_;rintro e w' ⟨rfl,rfl⟩) | (go_at_call 35;refine CC.out.mono ?_;rintro e w6 ⟨v6,rfl,hv6,hb6⟩;obtain ⟨a6,cp6,rfl⟩:=hv6.length))
 go_ret
 exact ⟨rfl,HB3.out.trans ((HB5.out.trans (hb6.mono HB5.out.size)).mono HB3.out.size)⟩
end Go.Proofs.YtpcpaoeajcjoiaaGreatDoor
