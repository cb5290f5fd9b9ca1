/- Texts joined, what is not reached left out. -/
import Derived.Test.YtpcpaoeajcjoiaaGreatDoorDA
import Derived.Deep.RegionLaw
set_option linter.unusedVariables false
set_option linter.unusedSimpArgs false
namespace Go.Proofs.YtpcpaoeajcjoiaaGreatDoor
open Go.RowKit Kit
def Dc.back (b:List UInt8) (a:Nat):Option Nat:=Dc.wd b ((Dc.aft b a+4294967292) % 4294967296)
def Dc.okR (b:List UInt8) (a k:Nat):Bool:=
 Dc.okH b a && (decide (Im.bucket (Dc.hd (Dc.win b a)).name = k) && (decide ((Dc.hd (Dc.win b a)).xt = Dc.aft b a) && ((Dc.back b a).isSome && (decide ((Dc.back b a).getD 0 = a) && decide (Dc.aft b a+(Dc.hd (Dc.win b a)).size≤b.length)))))
theorem Dc.right_ret {H:Dc.H} {nm:List UInt8} {fl lk xt sz:Nat} {o o':Bool} (h:H = ⟨nm,fl,lk,xt,sz⟩) (h3:o' = o) :
  Ending.returned (.tuple #[.agg #[.string ⟨nm.toArray⟩,.int .i64 (fl:Int),.int .u32 (lk:Int),.int .u32 (xt:Int),.int .u32 (sz:Int)],.bool o]) = .returned (.tuple #[H.v,.bool o']):=by
 subst h h3
 rfl
theorem Dc.name_len (b:List UInt8) (a:Nat):(Dc.hd (Dc.win b a)).name.length≤48:=by
 have:=Dc.win_len b a
 unfold Dc.hd
 split
 ·unfold Nm.name
  dsimp only
  rw [List.length_take,List.length_drop]
  omega
 ·exact Nat.zero_le _
theorem Dc.down4 (n:Nat) (h:n < 4294967296):IntKind.u32.wrap ((n:Int) - 4) = (((n+4294967292) % 4294967296:Nat):Int):=by
 rw [IntKind.wrap_u32]
 omega
theorem Dc.sz_lt (b:List UInt8) (a:Nat):(Dc.hd (Dc.win b a)).size < 4294967296∧(Dc.hd (Dc.win b a)).xt < 4294967296∧(Dc.hd (Dc.win b a)).link < 4294967296:=by
 have hw:∀ (l:List UInt8) k,Nm.wat l k < 4294967296:=fun l k=>by
  have h0:=(l.getD k 0).toNat_lt
  have h1:=(l.getD (k+1) 0).toNat_lt
  have h2:=(l.getD (k+2) 0).toNat_lt
  have h3:=(l.getD (k+3) 0).toNat_lt
  unfold Nm.wat Nm.wordN
  omega
 unfold Dc.hd
 split
 ·exact ⟨hw _ _,hw _ _,hw _ _⟩
 ·exact ⟨by decide,by decide,by decide⟩
set_option maxRecDepth 20000 in
set_option maxHeartbeats 16000000 in
theorem dright_any (w:World) (gm gb:Nat) (b:List UInt8) (hs:List (Nat × Nat)) (a k:Nat) (ha:a < 4294967296) (h:OwnM w gm gb b hs) :
  Calls Tryz.prog 131 #[Dc.rv gm,.int .u32 (a:Int),.int .i64 (k:Int)] w fun e w'=>e = .returned (.tuple #[(Dc.hd (Dc.win b a)).v,.bool (Dc.okR b a k)])∧Below w.heap.size w w':=by
 have hal:Below w.heap.size w ((w.alloc (.cells #[.pointer (some ⟨gm,0,none⟩)] 153)).alloc (.cells #[.string ⟨#[]⟩,.int .i64 0,.int .u32 0,.int .u32 0,.int .u32 0] 55)):=((Below.refl _ _).alloc (Nat.le_refl _) _).alloc (by simp) _
 have hM:=h.kept hal
 have hhi:=h.hi
 obtain ⟨w1,hw1⟩:∃ w1,(w.alloc (.cells #[.pointer (some ⟨gm,0,none⟩)] 153)).alloc (.cells #[.string ⟨#[]⟩,.int .i64 0,.int .u32 0,.int .u32 0,.int .u32 0] 55) = w1:=⟨_,rfl⟩
 rw [hw1] at hal hM
 have CH:=dhead_any w1 gm gb b hs a ha hM
 have HAL:=Lib.hid hal
 have bkr:Bk w1 w.heap.size 153 #[.pointer (some ⟨gm,0,none⟩)]:=by
  rw [← hw1]
  exact (Bk.fresh w _ _).kept ((Below.refl _ _).alloc (Nat.le_refl _) _)
 have bk4:Bk w1 (w.heap.size+1) 55 #[.string ⟨#[]⟩,.int .i64 0,.int .u32 0,.int .u32 0,.int .u32 0]:=by
  rw [← hw1]
  have:=Bk.fresh (w.alloc (.cells #[.pointer (some ⟨gm,0,none⟩)] 153)) 55 #[.string ⟨#[]⟩,.int .i64 0,.int .u32 0,.int .u32 0,.int .u32 0]
  rw [World.size_alloc] at this
  exact this
 have bx:=bkr.cell 0
 have HM:=Lib.hid hM
 have hnl:=Dc.name_len b a
 obtain ⟨hs1,hs2,hs3⟩:=Dc.sz_lt b a
 have haf1:Dc.aft b a < 4294967296:=by unfold Dc.aft;omega
 have HR:=Lib.hid (show Dc.okR b a k = (Dc.okH b a && (decide (Im.bucket (Dc.hd (Dc.win b a)).name = k) && (decide ((Dc.hd (Dc.win b a)).xt = Dc.aft b a) && ((Dc.back b a).isSome && (decide ((Dc.back b a).getD 0 = a) && decide (Dc.aft b a+(Dc.hd (Dc.win b a)).size≤b.length)))))) from rfl)
 have CW:=Lib.hid (fun W (hW:Below w1.heap.size w1 W)=>show Calls Tryz.prog 71 #[Dc.rv gm,.int .u32 (((Dc.aft b a+4294967292) % 4294967296:Nat):Int)] W fun e w'=>e = .returned (.tuple #[.int .u32 (((Dc.back b a).getD 0:Nat):Int),.bool (Dc.back b a).isSome])∧Below W.heap.size W w' from dword_any W gm gb b hs _ (by omega) (hM.kept hW))
 have CS:=Lib.hid (fun W (hW:Below w1.heap.size w1 W)=>size_own W gm gb b hs (hM.kept hW))
 obtain ⟨okr,hokr⟩:∃ q,Dc.okR b a k = q:=⟨_,rfl⟩
 obtain ⟨Hd,hHd⟩:∃ q,Dc.hd (Dc.win b a) = q:=⟨_,rfl⟩
 rw [hokr] at HR
 rw [hHd] at CH HR hs1 hs2 hs3 hnl
 have HOE:=Lib.hid hokr
 have d4:=Dc.down4 (Dc.aft b a) haf1
 generalize Dc.okH b a = okh at *
 generalize Dc.aft b a = af at *
 obtain ⟨af4,haf4⟩:∃ q,(af+4294967292) % 4294967296 = q:=⟨_,rfl⟩
 rw [haf4] at d4 CW
 generalize Dc.back b a = bko at *
 obtain ⟨nm,fl,lk,xt,sz⟩:=Hd
 dsimp only [Dc.H.v] at CH HR hs1 hs2 hs3 hnl
 have HHD:=Lib.hid hHd
 have CHS:=Lib.hid (fun W=>show Calls Tryz.prog 168 #[.string ⟨nm.toArray⟩] W fun e w'=>e = .returned (.int .i64 (Im.bucket nm:Nat))∧Below W.heap.size W w' from hash_own ⟨nm.toArray⟩ W (Nat.le_trans hnl (by decide)))
 generalize Im.bucket nm = bu at *
 have CH:=Lib.hid CH
 have HBR:=Lib.hid bkr
 have HB4a:=Lib.hid bk4
 clear h hal hM bkr bk4 hnl hokr hHd haf4
 go_enter Tryz.func131,Tryz.ntmps131
 go_wp2_with fail
 go_at_call 193
 refine CH.out.mono ?_
 rintro e w3 ⟨rfl,hb3⟩
 clear hw1 bx
 have HB3:=Lib.hid (HAL.out.trans (hb3.mono HAL.out.size))
 have HK3:=Lib.hid (HB4a.out.kept hb3)
 have HR3:=Lib.hid (HBR.out.kept hb3)
 have hlt:=HK3.out.lt
 have hal:Below w3.heap.size w3 (w3.alloc (.cells #[.string ⟨nm.toArray⟩,.int .i64 (fl:Int),.int .u32 (lk:Int),.int .u32 (xt:Int),.int .u32 (sz:Int)] 55)):=(Below.refl _ _).alloc (Nat.le_refl _) _
 have hbk:=Bk.fresh w3 55 #[.string ⟨nm.toArray⟩,.int .i64 (fl:Int),.int .u32 (lk:Int),.int .u32 (xt:Int),.int .u32 (sz:Int)]
 have HKa:=Lib.hid (HK3.out.kept hal)
 have HRa:=Lib.hid (HR3.out.kept hal)
 have HBa:=Lib.hid (HB3.out.trans (hal.mono HB3.out.size))
 have HWa:=Lib.hid (hb3.trans (hal.mono hb3.size))
 obtain ⟨wa,hwa⟩:∃ wa,w3.alloc (.cells #[.string ⟨nm.toArray⟩,.int .i64 (fl:Int),.int .u32 (lk:Int),.int .u32 (xt:Int),.int .u32 (sz:Int)] 55) = wa:=⟨_,rfl⟩
 rw [hwa] at hbk HKa HBa HRa HWa
 have HBX:=Lib.hid hbk
 have x0:=hbk.cell 0
 have x1:=hbk.cell 1
 have x2:=hbk.cell 2
 have x3:=hbk.cell 3
 have x4:=hbk.cell 4
 have hne:w3.heap.size ≠ w.heap.size+1:=by omega
 clear hb3 hal hbk hlt
 cases okh
 ·have HO:=Lib.hid (show Dc.okR b a k = false from HOE.out.trans HR.out)
  have HK4:=HKa
  have HB4:=HBa
  have y0:=HK4.out.free 0
  have y1:=HK4.out.free 1
  have y2:=HK4.out.free 2
  have y3:=HK4.out.free 3
  have y4:=HK4.out.free 4
  have z0:=HK4.out.cell 0
  have z1:=HK4.out.cell 1
  have z2:=HK4.out.cell 2
  have z3:=HK4.out.cell 3
  have z4:=HK4.out.cell 4
  go_wp2_with fail
  have hk5:=((((HK4.out.set 0 (.string ⟨nm.toArray⟩)).set 1 (.int .i64 (fl:Int))).set 2 (.int .u32 (lk:Int))).set 3 (.int .u32 (xt:Int))).set 4 (.int .u32 (sz:Int))
  have p0:=hk5.cell 0
  have p1:=hk5.cell 1
  have p2:=hk5.cell 2
  have p3:=hk5.cell 3
  have p4:=hk5.cell 4
  refine bodyPost_ret (v:=.tuple #[.agg #[.string ⟨nm.toArray⟩,.int .i64 (fl:Int),.int .u32 (lk:Int),.int .u32 (xt:Int),.int .u32 (sz:Int)],.bool false]) (by simp [results,Tryz.results131,go_sem,p0,p1,p2,p3,p4]) rfl ?_
  exact ⟨Dc.right_ret HHD.out HO.out,((((HB4.out.setCell (Nat.le_succ _) _).setCell (Nat.le_succ _) _).setCell (Nat.le_succ _) _).setCell (Nat.le_succ _) _).setCell (Nat.le_succ _) _⟩
 ·by_cases hbu:bu = k
  ·subst hbu
   by_cases hxt:xt = af
   ·subst hxt
    have hbl:IntKind.u64.wrap (b.length:Int) = (b.length:Int):=Im.wrap_u64 _ (by omega)
    have hxl:IntKind.u64.wrap (xt:Int) = (xt:Int):=Im.wrap_u64 _ (by omega)
    have hsl:IntKind.u64.wrap (sz:Int) = (sz:Int):=Im.wrap_u64 _ (by omega)
    have hxs:IntKind.u64.wrap ((xt:Int)+(sz:Int)) = (xt:Int)+(sz:Int):=Im.wrap_u64 (xt+sz) (by omega)
    go_wp2_with fail
    go_at_call 168
    refine (CHS.out _).mono ?_
    rintro e w4 ⟨rfl,hb4⟩
    have HX4:=Lib.hid (HBX.out.kept hb4)
    have HRc:=Lib.hid (HRa.out.kept hb4)
    have HWc:=Lib.hid (HWa.out.trans (hb4.mono HWa.out.size))
    have v3:=HX4.out.cell 3
    have vr:=HRc.out.cell 0
    have HKb:=Lib.hid (HKa.out.kept hb4)
    have HBb:=Lib.hid (HBa.out.trans (hb4.mono HBa.out.size))
    clear x0 x1 x2 x3 x4
    go_wp2_with fail
    go_at_call 71
    refine (CW.out _ HWc.out).mono ?_
    rintro e w5 ⟨rfl,hb5⟩
    have HK4:=Lib.hid (HKb.out.kept hb5)
    have HB4:=Lib.hid (HBb.out.trans (hb5.mono HBb.out.size))
    have HX5:=Lib.hid (HX4.out.kept hb5)
    have HR5:=Lib.hid (HRc.out.kept hb5)
    have HW5:=Lib.hid (HWc.out.trans (hb5.mono HWc.out.size))
    have x0:=HX5.out.cell 0
    have x1:=HX5.out.cell 1
    have x2:=HX5.out.cell 2
    have x3:=HX5.out.cell 3
    have x4:=HX5.out.cell 4
    have xr:=HR5.out.cell 0
    have y0:=HK4.out.free 0
    have y1:=HK4.out.free 1
    have y2:=HK4.out.free 2
    have y3:=HK4.out.free 3
    have y4:=HK4.out.free 4
    have z0:=HK4.out.cell 0
    have z1:=HK4.out.cell 1
    have z2:=HK4.out.cell 2
    have z3:=HK4.out.cell 3
    have z4:=HK4.out.cell 4
    clear v3 vr hb4 hb5
    have CSS2:=Lib.hid (CS.out w5.drew (HW5.out.drew))
    have HKd:=Lib.hid (HK4.out.kept (Below.refl _ _).drew)
    have HBd:=Lib.hid (HB4.out.drew)
    have hneg:w3.heap.size ≠ w.heap.size:=by have:=HK3.out.lt;omega
    have HSS:=Lib.hid (show (((w5.drew.cell? ⟨w3.heap.size,0,none⟩ = some (.string ⟨nm.toArray⟩)∧w5.drew.cell? ⟨w3.heap.size,1,none⟩ = some (.int .i64 (fl:Int))∧w5.drew.cell? ⟨w3.heap.size,2,none⟩ = some (.int .u32 (lk:Int))∧w5.drew.cell? ⟨w3.heap.size,3,none⟩ = some (.int .u32 (xt:Int))∧w5.drew.cell? ⟨w3.heap.size,4,none⟩ = some (.int .u32 (sz:Int)))∧w5.drew.cell? ⟨w.heap.size,0,none⟩ = some (.pointer (some ⟨gm,0,none⟩)))) from ⟨⟨x0,x1,x2,x3,x4⟩,xr⟩)
    have HS2:=Lib.hid (show ((((((((w5.drew.setCell ⟨w.heap.size+1,0,none⟩ (.string ⟨nm.toArray⟩)).setCell ⟨w.heap.size+1,1,none⟩ (.int .i64 (fl:Int))).setCell ⟨w.heap.size+1,2,none⟩ (.int .u32 (lk:Int))).setCell ⟨w.heap.size+1,3,none⟩ (.int .u32 (xt:Int))).setCell ⟨w.heap.size+1,4,none⟩ (.int .u32 (sz:Int))).cell? ⟨w3.heap.size,0,none⟩ = some (.string ⟨nm.toArray⟩)∧(((((w5.drew.setCell ⟨w.heap.size+1,0,none⟩ (.string ⟨nm.toArray⟩)).setCell ⟨w.heap.size+1,1,none⟩ (.int .i64 (fl:Int))).setCell ⟨w.heap.size+1,2,none⟩ (.int .u32 (lk:Int))).setCell ⟨w.heap.size+1,3,none⟩ (.int .u32 (xt:Int))).setCell ⟨w.heap.size+1,4,none⟩ (.int .u32 (sz:Int))).cell? ⟨w3.heap.size,1,none⟩ = some (.int .i64 (fl:Int))∧(((((w5.drew.setCell ⟨w.heap.size+1,0,none⟩ (.string ⟨nm.toArray⟩)).setCell ⟨w.heap.size+1,1,none⟩ (.int .i64 (fl:Int))).setCell ⟨w.heap.size+1,2,none⟩ (.int .u32 (lk:Int))).setCell ⟨w.heap.size+1,3,none⟩ (.int .u32 (xt:Int))).setCell ⟨w.heap.size+1,4,none⟩ (.int .u32 (sz:Int))).cell? ⟨w3.heap.size,2,none⟩ = some (.int .u32 (lk:Int))∧(((((w5.drew.setCell ⟨w.heap.size+1,0,none⟩ (.string ⟨nm.toArray⟩)).setCell ⟨w.heap.size+1,1,none⟩ (.int .i64 (fl:Int))).setCell ⟨w.heap.size+1,2,none⟩ (.int .u32 (lk:Int))).setCell ⟨w.heap.size+1,3,none⟩ (.int .u32 (xt:Int))).setCell ⟨w.heap.size+1,4,none⟩ (.int .u32 (sz:Int))).cell? ⟨w3.heap.size,3,none⟩ = some (.int .u32 (xt:Int))∧(((((w5.drew.setCell ⟨w.heap.size+1,0,none⟩ (.string ⟨nm.toArray⟩)).setCell ⟨w.heap.size+1,1,none⟩ (.int .i64 (fl:Int))).setCell ⟨w.heap.size+1,2,none⟩ (.int .u32 (lk:Int))).setCell ⟨w.heap.size+1,3,none⟩ (.int .u32 (xt:Int))).setCell ⟨w.heap.size+1,4,none⟩ (.int .u32 (sz:Int))).cell? ⟨w3.heap.size,4,none⟩ = some (.int .u32 (sz:Int)))∧(((((w5.drew.setCell ⟨w.heap.size+1,0,none⟩ (.string ⟨nm.toArray⟩)).setCell ⟨w.heap.size+1,1,none⟩ (.int .i64 (fl:Int))).setCell ⟨w.heap.size+1,2,none⟩ (.int .u32 (lk:Int))).setCell ⟨w.heap.size+1,3,none⟩ (.int .u32 (xt:Int))).setCell ⟨w.heap.size+1,4,none⟩ (.int .u32 (sz:Int))).cell? ⟨w.heap.size,0,none⟩ = some (.pointer (some ⟨gm,0,none⟩)))) from by
     have b1:=(((((But.setCell w5.drew (w.heap.size+1) 0 (.string ⟨nm.toArray⟩)).trans (But.setCell _ _ 1 (.int .i64 (fl:Int)))).trans (But.setCell _ _ 2 (.int .u32 (lk:Int)))).trans (But.setCell _ _ 3 (.int .u32 (xt:Int)))).trans (But.setCell _ _ 4 (.int .u32 (sz:Int))))
     have k1:=b1.bk (HX5.out.kept (Below.refl _ _).drew) hne
     have k2:=b1.bk (HR5.out.kept (Below.refl _ _).drew) (Nat.ne_of_lt (Nat.lt_succ_self _))
     exact ⟨⟨k1.cell 0,k1.cell 1,k1.cell 2,k1.cell 3,k1.cell 4⟩,k2.cell 0⟩)
    clear x0 x1 x2 x3 x4 xr
    have y0:=HKd.out.free 0
    have y1:=HKd.out.free 1
    have y2:=HKd.out.free 2
    have y3:=HKd.out.free 3
    have y4:=HKd.out.free 4
    have z0:=HKd.out.cell 0
    have z1:=HKd.out.cell 1
    have z2:=HKd.out.cell 2
    have z3:=HKd.out.cell 3
    have z4:=HKd.out.cell 4
    cases bko with
    | none=>
     dsimp only [Option.getD_none,Option.isSome_none]
     have HO:=Lib.hid (show Dc.okR b a bu = false from HOE.out.trans (by rw [HR.out];simp))
     go_upto_region 5 with fail
     refine wp_region_held_drew (S:=fun W'=>(W'.cell? ⟨w3.heap.size,0,none⟩ = some (.string ⟨nm.toArray⟩)∧W'.cell? ⟨w3.heap.size,1,none⟩ = some (.int .i64 (fl:Int))∧W'.cell? ⟨w3.heap.size,2,none⟩ = some (.int .u32 (lk:Int))∧W'.cell? ⟨w3.heap.size,3,none⟩ = some (.int .u32 (xt:Int))∧W'.cell? ⟨w3.heap.size,4,none⟩ = some (.int .u32 (sz:Int)))∧W'.cell? ⟨w.heap.size,0,none⟩ = some (.pointer (some ⟨gm,0,none⟩))) (by kernel_rfl) (HSS.out) (fun hHeld=>?_)
     refine wpAnyH_take (i:=0) (v:=?_) rfl (by kernel_rfl) (by kernel_rfl) (by kernel_rfl) (fun _ _ _ h=>h) (Or.inl ⟨by rfl,?_⟩) (by assumption) ?_
     rotate_left
     ·(intro w hSw;(try dsimp only at hSw);simp only [List.getElem_toArray,List.getElem_cons_zero,List.getElem_cons_succ];go_simp;(try with_reducible rfl))
     try simp only [Act.put,List.getElem_toArray,List.getElem_cons_zero,List.getElem_cons_succ,List.setIfInBounds_toArray,List.set_cons_zero,List.set_cons_succ]
     refine wpAnyH_take (i:=1) (v:=?_) rfl (by kernel_rfl) (by kernel_rfl) (by kernel_rfl) (fun _ _ _ h=>h) (Or.inl ⟨by rfl,?_⟩) (by assumption) ?_
     rotate_left
     ·(intro w hSw;(try dsimp only at hSw);simp only [List.getElem_toArray,List.getElem_cons_zero,List.getElem_cons_succ];go_simp;(try with_reducible rfl))
     try simp only [Act.put,List.getElem_toArray,List.getElem_cons_zero,List.getElem_cons_succ,List.setIfInBounds_toArray,List.set_cons_zero,List.set_cons_succ]
     refine wpAnyH_take (i:=2) (v:=?_) rfl (by kernel_rfl) (by kernel_rfl) (by kernel_rfl) (fun _ _ _ h=>h) (Or.inl ⟨by rfl,?_⟩) (by assumption) ?_
     rotate_left
     ·(intro w hSw;(try dsimp only at hSw);simp only [List.getElem_toArray,List.getElem_cons_zero,List.getElem_cons_succ];go_simp;(try with_reducible rfl))
     try simp only [Act.put,List.getElem_toArray,List.getElem_cons_zero,List.getElem_cons_succ,List.setIfInBounds_toArray,List.set_cons_zero,List.set_cons_succ]
     refine wpAnyH_take (i:=3) (v:=undef) rfl (by kernel_rfl) (by kernel_rfl) (by kernel_rfl) (fun _ _ _ h=>h) (Or.inr ⟨by rfl,rfl⟩) (by assumption) ?_
     try simp only [Act.put,List.getElem_toArray,List.getElem_cons_zero,List.getElem_cons_succ,List.setIfInBounds_toArray,List.set_cons_zero,List.set_cons_succ]
     refine wpAnyH_take (i:=4) (v:=undef) rfl (by kernel_rfl) (by kernel_rfl) (by kernel_rfl) (fun _ _ _ h=>h) (Or.inr ⟨by rfl,rfl⟩) (by assumption) ?_
     try simp only [Act.put,List.getElem_toArray,List.getElem_cons_zero,List.getElem_cons_succ,List.setIfInBounds_toArray,List.set_cons_zero,List.set_cons_succ]
     refine wpAnyH_take (i:=5) (v:=undef) rfl (by kernel_rfl) (by kernel_rfl) (by kernel_rfl) (fun _ _ _ h=>h) (Or.inr ⟨by rfl,rfl⟩) (by assumption) ?_
     try simp only [Act.put,List.getElem_toArray,List.getElem_cons_zero,List.getElem_cons_succ,List.setIfInBounds_toArray,List.set_cons_zero,List.set_cons_succ]
     refine wpAnyH_take (i:=6) (v:=?_) rfl (by kernel_rfl) (by kernel_rfl) (by kernel_rfl) (fun _ _ _ h=>h) (Or.inl ⟨by rfl,?_⟩) (by assumption) ?_
     rotate_left
     ·(intro w hSw;(try dsimp only at hSw);simp only [List.getElem_toArray,List.getElem_cons_zero,List.getElem_cons_succ];go_simp;(try with_reducible rfl))
     try simp only [Act.put,List.getElem_toArray,List.getElem_cons_zero,List.getElem_cons_succ,List.setIfInBounds_toArray,List.set_cons_zero,List.set_cons_succ]
     refine wpAnyH_take (i:=7) (v:=?_) rfl (by kernel_rfl) (by kernel_rfl) (by kernel_rfl) (fun _ _ _ h=>h) (Or.inl ⟨by rfl,?_⟩) (by assumption) ?_
     rotate_left
     ·(intro w hSw;(try dsimp only at hSw);simp only [List.getElem_toArray,List.getElem_cons_zero,List.getElem_cons_succ];go_simp;(try with_reducible rfl))
     try simp only [Act.put,List.getElem_toArray,List.getElem_cons_zero,List.getElem_cons_succ,List.setIfInBounds_toArray,List.set_cons_zero,List.set_cons_succ]
     refine wpAnyH_take (i:=8) (v:=undef) rfl (by kernel_rfl) (by kernel_rfl) (by kernel_rfl) (fun _ _ _ h=>h) (Or.inr ⟨by rfl,rfl⟩) (by assumption) ?_
     try simp only [Act.put,List.getElem_toArray,List.getElem_cons_zero,List.getElem_cons_succ,List.setIfInBounds_toArray,List.set_cons_zero,List.set_cons_succ]
     refine wpAnyH_take (i:=9) (v:=undef) rfl (by kernel_rfl) (by kernel_rfl) (by kernel_rfl) (fun _ _ _ h=>h) (Or.inr ⟨by rfl,rfl⟩) (by assumption) ?_
     try simp only [Act.put,List.getElem_toArray,List.getElem_cons_zero,List.getElem_cons_succ,List.setIfInBounds_toArray,List.set_cons_zero,List.set_cons_succ]
     refine wpAnyH_take (i:=10) (v:=undef) rfl (by kernel_rfl) (by kernel_rfl) (by kernel_rfl) (fun _ _ _ h=>h) (Or.inr ⟨by rfl,rfl⟩) (by assumption) ?_
     try simp only [Act.put,List.getElem_toArray,List.getElem_cons_zero,List.getElem_cons_succ,List.setIfInBounds_toArray,List.set_cons_zero,List.set_cons_succ]
     refine wpAnyH_take (i:=11) (v:=undef) rfl (by kernel_rfl) (by kernel_rfl) (by kernel_rfl) (fun _ _ _ h=>h) (Or.inr ⟨by rfl,rfl⟩) (by assumption) ?_
     try simp only [Act.put,List.getElem_toArray,List.getElem_cons_zero,List.getElem_cons_succ,List.setIfInBounds_toArray,List.set_cons_zero,List.set_cons_succ]
     refine wpAnyH_take (i:=12) (v:=undef) rfl (by kernel_rfl) (by kernel_rfl) (by kernel_rfl) (fun _ _ _ h=>h) (Or.inr ⟨by rfl,rfl⟩) (by assumption) ?_
     try simp only [Act.put,List.getElem_toArray,List.getElem_cons_zero,List.getElem_cons_succ,List.setIfInBounds_toArray,List.set_cons_zero,List.set_cons_succ]
     refine wpAnyH_take (i:=13) (v:=undef) rfl (by kernel_rfl) (by kernel_rfl) (by kernel_rfl) (fun _ _ _ h=>h) (Or.inr ⟨by rfl,rfl⟩) (by assumption) ?_
     try simp only [Act.put,List.getElem_toArray,List.getElem_cons_zero,List.getElem_cons_succ,List.setIfInBounds_toArray,List.set_cons_zero,List.set_cons_succ]
     refine wpAnyH_take (i:=14) (v:=undef) rfl (by kernel_rfl) (by kernel_rfl) (by kernel_rfl) (fun _ _ _ h=>h) (Or.inr ⟨by rfl,rfl⟩) (by assumption) ?_
     try simp only [Act.put,List.getElem_toArray,List.getElem_cons_zero,List.getElem_cons_succ,List.setIfInBounds_toArray,List.set_cons_zero,List.set_cons_succ]
     refine wpAnyH_take (i:=15) (v:=undef) rfl (by kernel_rfl) (by kernel_rfl) (by kernel_rfl) (fun _ _ _ h=>h) (Or.inr ⟨by rfl,rfl⟩) (by assumption) ?_
     try simp only [Act.put,List.getElem_toArray,List.getElem_cons_zero,List.getElem_cons_succ,List.setIfInBounds_toArray,List.set_cons_zero,List.set_cons_succ]
     refine wpAnyH_take (i:=16) (v:=undef) rfl (by kernel_rfl) (by kernel_rfl) (by kernel_rfl) (fun _ _ _ h=>h) (Or.inr ⟨by rfl,rfl⟩) (by assumption) ?_
     try simp only [Act.put,List.getElem_toArray,List.getElem_cons_zero,List.getElem_cons_succ,List.setIfInBounds_toArray,List.set_cons_zero,List.set_cons_succ]
     refine wpAnyH_take (i:=17) (v:=undef) rfl (by kernel_rfl) (by kernel_rfl) (by kernel_rfl) (fun _ _ _ h=>h) (Or.inr ⟨by rfl,rfl⟩) (by assumption) ?_
     try simp only [Act.put,List.getElem_toArray,List.getElem_cons_zero,List.getElem_cons_succ,List.setIfInBounds_toArray,List.set_cons_zero,List.set_cons_succ]
     refine wpAnyH_take (i:=18) (v:=undef) rfl (by kernel_rfl) (by kernel_rfl) (by kernel_rfl) (fun _ _ _ h=>h) (Or.inr ⟨by rfl,rfl⟩) (by assumption) ?_
     try simp only [Act.put,List.getElem_toArray,List.getElem_cons_zero,List.getElem_cons_succ,List.setIfInBounds_toArray,List.set_cons_zero,List.set_cons_succ]
     refine wpAnyH_take (i:=19) (v:=?_) rfl (by kernel_rfl) (by kernel_rfl) (by kernel_rfl) (fun _ _ _ h=>h) (Or.inl ⟨by rfl,?_⟩) (by assumption) ?_
     rotate_left
     ·(intro w hSw;(try dsimp only at hSw);simp only [List.getElem_toArray,List.getElem_cons_zero,List.getElem_cons_succ];go_simp;(try with_reducible rfl))
     try simp only [Act.put,List.getElem_toArray,List.getElem_cons_zero,List.getElem_cons_succ,List.setIfInBounds_toArray,List.set_cons_zero,List.set_cons_succ]
     refine wpAnyH_ready (rs:=[20]) (by kernel_rfl) (by simp) ?_
     refine AllReadyH.cons rfl (fun K hK=>?_) AllReadyH.nil
     simp only [List.getElem_toArray,List.getElem_cons_zero,List.getElem_cons_succ]
     rw [if_pos (by rfl)]
     go_simp
     refine hK.out _ _ (HS2.out) (fun hHeld=>?_)
     clear hK K
     try simp only [Act.put,List.getElem_toArray,List.getElem_cons_zero,List.getElem_cons_succ,List.setIfInBounds_toArray,List.set_cons_zero,List.set_cons_succ]
     refine wpAnyH_take (i:=21) (v:=?_) rfl (by kernel_rfl) (by kernel_rfl) (by kernel_rfl) (fun _ _ _ h=>h) (Or.inl ⟨by rfl,?_⟩) (by assumption) ?_
     rotate_left
     ·(intro w hSw;(try dsimp only at hSw);simp only [List.getElem_toArray,List.getElem_cons_zero,List.getElem_cons_succ];go_simp;(try with_reducible rfl))
     try simp only [Act.put,List.getElem_toArray,List.getElem_cons_zero,List.getElem_cons_succ,List.setIfInBounds_toArray,List.set_cons_zero,List.set_cons_succ]
     refine wpAnyH_done (by kernel_rfl) ?_ _
     go_wp2_with fail
     have hk5:=((((HK4.out.set 0 (.string ⟨nm.toArray⟩)).set 1 (.int .i64 (fl:Int))).set 2 (.int .u32 (lk:Int))).set 3 (.int .u32 (xt:Int))).set 4 (.int .u32 (sz:Int))
     have p0:=hk5.cell 0
     have p1:=hk5.cell 1
     have p2:=hk5.cell 2
     have p3:=hk5.cell 3
     have p4:=hk5.cell 4
     refine bodyPost_ret (v:=.tuple #[.agg #[.string ⟨nm.toArray⟩,.int .i64 (fl:Int),.int .u32 (lk:Int),.int .u32 (xt:Int),.int .u32 (sz:Int)],.bool false]) (by simp [results,Tryz.results131,go_sem,p0,p1,p2,p3,p4]) rfl ?_
     exact ⟨Dc.right_ret HHD.out HO.out,((((HB4.out.setCell (Nat.le_succ _) _).setCell (Nat.le_succ _) _).setCell (Nat.le_succ _) _).setCell (Nat.le_succ _) _).setCell (Nat.le_succ _) _ |>.drew⟩
    | some bk=>
     dsimp only [Option.getD_some,Option.isSome_some]
     by_cases hba:bk = a
     ·subst hba
      have hle:decide (((xt:Int)+(sz:Int))≤(b.length:Int)) = decide (xt+sz≤b.length):=by rw [decide_eq_decide];omega
      have HO:=Lib.hid (show Dc.okR b bk bu = decide (xt+sz≤b.length) from HOE.out.trans (by rw [HR.out];simp))
      go_upto_region 5 with fail
      refine wp_region_held_drew (S:=fun W'=>(W'.cell? ⟨w3.heap.size,0,none⟩ = some (.string ⟨nm.toArray⟩)∧W'.cell? ⟨w3.heap.size,1,none⟩ = some (.int .i64 (fl:Int))∧W'.cell? ⟨w3.heap.size,2,none⟩ = some (.int .u32 (lk:Int))∧W'.cell? ⟨w3.heap.size,3,none⟩ = some (.int .u32 (xt:Int))∧W'.cell? ⟨w3.heap.size,4,none⟩ = some (.int .u32 (sz:Int)))∧W'.cell? ⟨w.heap.size,0,none⟩ = some (.pointer (some ⟨gm,0,none⟩))) (by kernel_rfl) (HSS.out) (fun hHeld=>?_)
      refine wpAnyH_take (i:=0) (v:=?_) rfl (by kernel_rfl) (by kernel_rfl) (by kernel_rfl) (fun _ _ _ h=>h) (Or.inl ⟨by rfl,?_⟩) (by assumption) ?_
      rotate_left
      ·(intro w hSw;(try dsimp only at hSw);simp only [List.getElem_toArray,List.getElem_cons_zero,List.getElem_cons_succ];go_simp;(try with_reducible rfl))
      try simp only [Act.put,List.getElem_toArray,List.getElem_cons_zero,List.getElem_cons_succ,List.setIfInBounds_toArray,List.set_cons_zero,List.set_cons_succ]
      refine wpAnyH_take (i:=1) (v:=?_) rfl (by kernel_rfl) (by kernel_rfl) (by kernel_rfl) (fun _ _ _ h=>h) (Or.inl ⟨by rfl,?_⟩) (by assumption) ?_
      rotate_left
      ·(intro w hSw;(try dsimp only at hSw);simp only [List.getElem_toArray,List.getElem_cons_zero,List.getElem_cons_succ];go_simp;(try with_reducible rfl))
      try simp only [Act.put,List.getElem_toArray,List.getElem_cons_zero,List.getElem_cons_succ,List.setIfInBounds_toArray,List.set_cons_zero,List.set_cons_succ]
      refine wpAnyH_take (i:=2) (v:=?_) rfl (by kernel_rfl) (by kernel_rfl) (by kernel_rfl) (fun _ _ _ h=>h) (Or.inl ⟨by rfl,?_⟩) (by assumption) ?_
      rotate_left
      ·(intro w hSw;(try dsimp only at hSw);simp only [List.getElem_toArray,List.getElem_cons_zero,List.getElem_cons_succ];go_simp;(try with_reducible rfl))
      try simp only [Act.put,List.getElem_toArray,List.getElem_cons_zero,List.getElem_cons_succ,List.setIfInBounds_toArray,List.set_cons_zero,List.set_cons_succ]
      refine wpAnyH_take (i:=3) (v:=?_) rfl (by kernel_rfl) (by kernel_rfl) (by kernel_rfl) (fun _ _ _ h=>h) (Or.inl ⟨by rfl,?_⟩) (by assumption) ?_
      rotate_left
      ·(intro w hSw;(try dsimp only at hSw);simp only [List.getElem_toArray,List.getElem_cons_zero,List.getElem_cons_succ];go_simp;(try with_reducible rfl))
      try simp only [Act.put,List.getElem_toArray,List.getElem_cons_zero,List.getElem_cons_succ,List.setIfInBounds_toArray,List.set_cons_zero,List.set_cons_succ]
      refine wpAnyH_take (i:=4) (v:=?_) rfl (by kernel_rfl) (by kernel_rfl) (by kernel_rfl) (fun _ _ _ h=>h) (Or.inl ⟨by rfl,?_⟩) (by assumption) ?_
      rotate_left
      ·(intro w hSw;(try dsimp only at hSw);simp only [List.getElem_toArray,List.getElem_cons_zero,List.getElem_cons_succ];go_simp;(try with_reducible rfl))
      try simp only [Act.put,List.getElem_toArray,List.getElem_cons_zero,List.getElem_cons_succ,List.setIfInBounds_toArray,List.set_cons_zero,List.set_cons_succ]
      refine wpAnyH_take (i:=5) (v:=?_) rfl (by kernel_rfl) (by kernel_rfl) (by kernel_rfl) (fun _ _ _ h=>h) (Or.inl ⟨by rfl,?_⟩) (by assumption) ?_
      rotate_left
      ·(intro w hSw;(try dsimp only at hSw);simp only [List.getElem_toArray,List.getElem_cons_zero,List.getElem_cons_succ];go_simp;(try with_reducible rfl))
      try simp only [Act.put,List.getElem_toArray,List.getElem_cons_zero,List.getElem_cons_succ,List.setIfInBounds_toArray,List.set_cons_zero,List.set_cons_succ]
      refine wpAnyH_take (i:=6) (v:=?_) rfl (by kernel_rfl) (by kernel_rfl) (by kernel_rfl) (fun _ _ _ h=>h) (Or.inl ⟨by rfl,?_⟩) (by assumption) ?_
      rotate_left
      ·(intro w hSw;(try dsimp only at hSw);simp only [List.getElem_toArray,List.getElem_cons_zero,List.getElem_cons_succ];go_simp;(try with_reducible rfl))
      try simp only [Act.put,List.getElem_toArray,List.getElem_cons_zero,List.getElem_cons_succ,List.setIfInBounds_toArray,List.set_cons_zero,List.set_cons_succ]
      refine wpAnyH_take (i:=7) (v:=?_) rfl (by kernel_rfl) (by kernel_rfl) (by kernel_rfl) (fun _ _ _ h=>h) (Or.inl ⟨by rfl,?_⟩) (by assumption) ?_
      rotate_left
      ·(intro w hSw;(try dsimp only at hSw);simp only [List.getElem_toArray,List.getElem_cons_zero,List.getElem_cons_succ];go_simp;(try with_reducible rfl))
      try simp only [Act.put,List.getElem_toArray,List.getElem_cons_zero,List.getElem_cons_succ,List.setIfInBounds_toArray,List.set_cons_zero,List.set_cons_succ]
      refine wpAnyH_take (i:=8) (v:=?_) rfl (by kernel_rfl) (by kernel_rfl) (by kernel_rfl) (fun _ _ _ h=>h) (Or.inl ⟨by rfl,?_⟩) (by assumption) ?_
      rotate_left
      ·(intro w hSw;(try dsimp only at hSw);simp only [List.getElem_toArray,List.getElem_cons_zero,List.getElem_cons_succ];go_simp;(try with_reducible rfl))
      try simp only [Act.put,List.getElem_toArray,List.getElem_cons_zero,List.getElem_cons_succ,List.setIfInBounds_toArray,List.set_cons_zero,List.set_cons_succ]
      refine wpAnyH_take (i:=9) (v:=?_) rfl (by kernel_rfl) (by kernel_rfl) (by kernel_rfl) (fun _ _ _ h=>h) (Or.inl ⟨by rfl,?_⟩) (by assumption) ?_
      rotate_left
      ·(intro w hSw;(try dsimp only at hSw);simp only [List.getElem_toArray,List.getElem_cons_zero,List.getElem_cons_succ];go_simp;(try with_reducible rfl))
      try simp only [Act.put,List.getElem_toArray,List.getElem_cons_zero,List.getElem_cons_succ,List.setIfInBounds_toArray,List.set_cons_zero,List.set_cons_succ]
      refine wpAnyH_take (i:=10) (v:=?_) rfl (by kernel_rfl) (by kernel_rfl) (by kernel_rfl) (fun _ _ _ h=>h) (Or.inl ⟨by rfl,?_⟩) (by assumption) ?_
      rotate_left
      ·(intro w hSw;(try dsimp only at hSw);simp only [List.getElem_toArray,List.getElem_cons_zero,List.getElem_cons_succ];go_simp;(try with_reducible rfl))
      try simp only [Act.put,List.getElem_toArray,List.getElem_cons_zero,List.getElem_cons_succ,List.setIfInBounds_toArray,List.set_cons_zero,List.set_cons_succ]
      refine wpAnyH_take (i:=11) (v:=?_) rfl (by kernel_rfl) (by kernel_rfl) (by kernel_rfl) (fun _ _ _ h=>h) (Or.inl ⟨by rfl,?_⟩) (by assumption) ?_
      rotate_left
      ·(intro w hSw;(try dsimp only at hSw);simp only [List.getElem_toArray,List.getElem_cons_zero,List.getElem_cons_succ];go_simp;(try with_reducible rfl))
      try simp only [Act.put,List.getElem_toArray,List.getElem_cons_zero,List.getElem_cons_succ,List.setIfInBounds_toArray,List.set_cons_zero,List.set_cons_succ]
      refine wpAnyH_take (i:=12) (v:=?_) rfl (by kernel_rfl) (by kernel_rfl) (by kernel_rfl) (fun _ _ _ h=>h) (Or.inl ⟨by rfl,?_⟩) (by assumption) ?_
      rotate_left
      ·(intro w hSw;(try dsimp only at hSw);simp only [List.getElem_toArray,List.getElem_cons_zero,List.getElem_cons_succ];go_simp;(try with_reducible rfl))
      try simp only [Act.put,List.getElem_toArray,List.getElem_cons_zero,List.getElem_cons_succ,List.setIfInBounds_toArray,List.set_cons_zero,List.set_cons_succ]
      refine wpAnyH_take (i:=13) (v:=?_) rfl (by kernel_rfl) (by kernel_rfl) (by kernel_rfl) (fun _ _ _ h=>h) (Or.inl ⟨by rfl,?_⟩) (by assumption) ?_
      rotate_left
      ·(intro w hSw;(try dsimp only at hSw);simp only [List.getElem_toArray,List.getElem_cons_zero,List.getElem_cons_succ];go_simp;(try with_reducible rfl))
      try simp only [Act.put,List.getElem_toArray,List.getElem_cons_zero,List.getElem_cons_succ,List.setIfInBounds_toArray,List.set_cons_zero,List.set_cons_succ]
      refine wpAnyH_take (i:=14) (v:=?_) rfl (by kernel_rfl) (by kernel_rfl) (by kernel_rfl) (fun _ _ _ h=>h) (Or.inl ⟨by rfl,?_⟩) (by assumption) ?_
      rotate_left
      ·(intro w hSw;(try dsimp only at hSw);simp only [List.getElem_toArray,List.getElem_cons_zero,List.getElem_cons_succ];go_simp;(try with_reducible rfl))
      try simp only [Act.put,List.getElem_toArray,List.getElem_cons_zero,List.getElem_cons_succ,List.setIfInBounds_toArray,List.set_cons_zero,List.set_cons_succ]
      refine wpAnyH_take (i:=15) (v:=?_) rfl (by kernel_rfl) (by kernel_rfl) (by kernel_rfl) (fun _ _ _ h=>h) (Or.inl ⟨by rfl,?_⟩) (by assumption) ?_
      rotate_left
      ·(intro w hSw;(try dsimp only at hSw);simp only [List.getElem_toArray,List.getElem_cons_zero,List.getElem_cons_succ];go_simp;(try with_reducible rfl))
      try simp only [Act.put,List.getElem_toArray,List.getElem_cons_zero,List.getElem_cons_succ,List.setIfInBounds_toArray,List.set_cons_zero,List.set_cons_succ]
      refine wpAnyH_ready (rs:=[16]) (by kernel_rfl) (by simp) ?_
      refine AllReadyH.cons rfl (fun K hK=>?_) AllReadyH.nil
      simp only [List.getElem_toArray,List.getElem_cons_zero,List.getElem_cons_succ]
      rw [if_pos (by rfl)]
      go_simp
      go_at_call 70
      refine CSS2.out.mono ?_
      rintro e w' ⟨rfl,rfl⟩
      go_simp
      refine hK.out _ _ (HSS.out) (fun hHeld=>?_)
      clear hK K
      try simp only [Act.put,List.getElem_toArray,List.getElem_cons_zero,List.getElem_cons_succ,List.setIfInBounds_toArray,List.set_cons_zero,List.set_cons_succ]
      refine wpAnyH_take (i:=17) (v:=?_) rfl (by kernel_rfl) (by kernel_rfl) (by kernel_rfl) (fun _ _ _ h=>h) (Or.inl ⟨by rfl,?_⟩) (by assumption) ?_
      rotate_left
      ·(intro w hSw;(try dsimp only at hSw);simp only [List.getElem_toArray,List.getElem_cons_zero,List.getElem_cons_succ];go_simp;(try with_reducible rfl))
      try simp only [Act.put,List.getElem_toArray,List.getElem_cons_zero,List.getElem_cons_succ,List.setIfInBounds_toArray,List.set_cons_zero,List.set_cons_succ]
      refine wpAnyH_take (i:=18) (v:=?_) rfl (by kernel_rfl) (by kernel_rfl) (by kernel_rfl) (fun _ _ _ h=>h) (Or.inl ⟨by rfl,?_⟩) (by assumption) ?_
      rotate_left
      ·(intro w hSw;(try dsimp only at hSw);simp only [List.getElem_toArray,List.getElem_cons_zero,List.getElem_cons_succ];go_simp;(try with_reducible rfl))
      try simp only [Act.put,List.getElem_toArray,List.getElem_cons_zero,List.getElem_cons_succ,List.setIfInBounds_toArray,List.set_cons_zero,List.set_cons_succ]
      refine wpAnyH_take (i:=19) (v:=?_) rfl (by kernel_rfl) (by kernel_rfl) (by kernel_rfl) (fun _ _ _ h=>h) (Or.inl ⟨by rfl,?_⟩) (by assumption) ?_
      rotate_left
      ·(intro w hSw;(try dsimp only at hSw);simp only [List.getElem_toArray,List.getElem_cons_zero,List.getElem_cons_succ];go_simp;(try with_reducible rfl))
      try simp only [Act.put,List.getElem_toArray,List.getElem_cons_zero,List.getElem_cons_succ,List.setIfInBounds_toArray,List.set_cons_zero,List.set_cons_succ]
      refine wpAnyH_ready (rs:=[20]) (by kernel_rfl) (by simp) ?_
      refine AllReadyH.cons rfl (fun K hK=>?_) AllReadyH.nil
      simp only [List.getElem_toArray,List.getElem_cons_zero,List.getElem_cons_succ]
      rw [if_pos (by rfl)]
      go_simp
      refine hK.out _ _ (HS2.out) (fun hHeld=>?_)
      clear hK K
      try simp only [Act.put,List.getElem_toArray,List.getElem_cons_zero,List.getElem_cons_succ,List.setIfInBounds_toArray,List.set_cons_zero,List.set_cons_succ]
      refine wpAnyH_take (i:=21) (v:=?_) rfl (by kernel_rfl) (by kernel_rfl) (by kernel_rfl) (fun _ _ _ h=>h) (Or.inl ⟨by rfl,?_⟩) (by assumption) ?_
      rotate_left
      ·(intro w hSw;(try dsimp only at hSw);simp only [List.getElem_toArray,List.getElem_cons_zero,List.getElem_cons_succ];go_simp;(try with_reducible rfl))
      try simp only [Act.put,List.getElem_toArray,List.getElem_cons_zero,List.getElem_cons_succ,List.setIfInBounds_toArray,List.set_cons_zero,List.set_cons_succ]
      refine wpAnyH_done (by kernel_rfl) ?_ _
      go_wp2_with fail
      have hk5:=((((HK4.out.set 0 (.string ⟨nm.toArray⟩)).set 1 (.int .i64 (fl:Int))).set 2 (.int .u32 (lk:Int))).set 3 (.int .u32 (xt:Int))).set 4 (.int .u32 (sz:Int))
      have p0:=hk5.cell 0
      have p1:=hk5.cell 1
      have p2:=hk5.cell 2
      have p3:=hk5.cell 3
      have p4:=hk5.cell 4
      refine bodyPost_ret (v:=.tuple #[.agg #[.string ⟨nm.toArray⟩,.int .i64 (fl:Int),.int .u32 (lk:Int),.int .u32 (xt:Int),.int .u32 (sz:Int)],.bool (decide (xt+sz≤b.length))]) (by simp [results,Tryz.results131,go_sem,p0,p1,p2,p3,p4]) rfl ?_
      exact ⟨Dc.right_ret HHD.out HO.out,((((HB4.out.setCell (Nat.le_succ _) _).setCell (Nat.le_succ _) _).setCell (Nat.le_succ _) _).setCell (Nat.le_succ _) _).setCell (Nat.le_succ _) _ |>.drew⟩
     ·have hb2:((bk:Int) == (a:Int)) = false:=by rw [beq_eq_false_iff_ne];omega
      have HO:=Lib.hid (show Dc.okR b a bu = false from HOE.out.trans (by rw [HR.out];simp [hba]))
      go_upto_region 5 with fail
      refine wp_region_held_drew (S:=fun W'=>(W'.cell? ⟨w3.heap.size,0,none⟩ = some (.string ⟨nm.toArray⟩)∧W'.cell? ⟨w3.heap.size,1,none⟩ = some (.int .i64 (fl:Int))∧W'.cell? ⟨w3.heap.size,2,none⟩ = some (.int .u32 (lk:Int))∧W'.cell? ⟨w3.heap.size,3,none⟩ = some (.int .u32 (xt:Int))∧W'.cell? ⟨w3.heap.size,4,none⟩ = some (.int .u32 (sz:Int)))∧W'.cell? ⟨w.heap.size,0,none⟩ = some (.pointer (some ⟨gm,0,none⟩))) (by kernel_rfl) (HSS.out) (fun hHeld=>?_)
      refine wpAnyH_take (i:=0) (v:=?_) rfl (by kernel_rfl) (by kernel_rfl) (by kernel_rfl) (fun _ _ _ h=>h) (Or.inl ⟨by rfl,?_⟩) (by assumption) ?_
      rotate_left
      ·(intro w hSw;(try dsimp only at hSw);simp only [List.getElem_toArray,List.getElem_cons_zero,List.getElem_cons_succ];go_simp;(try with_reducible rfl))
      try simp only [Act.put,List.getElem_toArray,List.getElem_cons_zero,List.getElem_cons_succ,List.setIfInBounds_toArray,List.set_cons_zero,List.set_cons_succ]
      refine wpAnyH_take (i:=1) (v:=?_) rfl (by kernel_rfl) (by kernel_rfl) (by kernel_rfl) (fun _ _ _ h=>h) (Or.inl ⟨by rfl,?_⟩) (by assumption) ?_
      rotate_left
      ·(intro w hSw;(try dsimp only at hSw);simp only [List.getElem_toArray,List.getElem_cons_zero,List.getElem_cons_succ];go_simp;(try with_reducible rfl))
      try simp only [Act.put,List.getElem_toArray,List.getElem_cons_zero,List.getElem_cons_succ,List.setIfInBounds_toArray,List.set_cons_zero,List.set_cons_succ]
      refine wpAnyH_take (i:=2) (v:=?_) rfl (by kernel_rfl) (by kernel_rfl) (by kernel_rfl) (fun _ _ _ h=>h) (Or.inl ⟨by rfl,?_⟩) (by assumption) ?_
      rotate_left
      ·(intro w hSw;(try dsimp only at hSw);simp only [List.getElem_toArray,List.getElem_cons_zero,List.getElem_cons_succ];go_simp;(try with_reducible rfl))
      try simp only [Act.put,List.getElem_toArray,List.getElem_cons_zero,List.getElem_cons_succ,List.setIfInBounds_toArray,List.set_cons_zero,List.set_cons_succ]
      refine wpAnyH_take (i:=3) (v:=?_) rfl (by kernel_rfl) (by kernel_rfl) (by kernel_rfl) (fun _ _ _ h=>h) (Or.inl ⟨by rfl,?_⟩) (by assumption) ?_
      rotate_left
      ·(intro w hSw;(try dsimp only at hSw);simp only [List.getElem_toArray,List.getElem_cons_zero,List.getElem_cons_succ];go_simp;(try with_reducible rfl))
      try simp only [Act.put,List.getElem_toArray,List.getElem_cons_zero,List.getElem_cons_succ,List.setIfInBounds_toArray,List.set_cons_zero,List.set_cons_succ]
      refine wpAnyH_take (i:=4) (v:=?_) rfl (by kernel_rfl) (by kernel_rfl) (by kernel_rfl) (fun _ _ _ h=>h) (Or.inl ⟨by rfl,?_⟩) (by assumption) ?_
      rotate_left
      ·(intro w hSw;(try dsimp only at hSw);simp only [List.getElem_toArray,List.getElem_cons_zero,List.getElem_cons_succ];go_simp;(try with_reducible rfl))
      try simp only [Act.put,List.getElem_toArray,List.getElem_cons_zero,List.getElem_cons_succ,List.setIfInBounds_toArray,List.set_cons_zero,List.set_cons_succ]
      refine wpAnyH_take (i:=5) (v:=?_) rfl (by kernel_rfl) (by kernel_rfl) (by kernel_rfl) (fun _ _ _ h=>h) (Or.inl ⟨by rfl,?_⟩) (by assumption) ?_
      rotate_left
      ·(intro w hSw;(try dsimp only at hSw);simp only [List.getElem_toArray,List.getElem_cons_zero,List.getElem_cons_succ];go_simp;(try with_reducible rfl))
      try simp only [Act.put,List.getElem_toArray,List.getElem_cons_zero,List.getElem_cons_succ,List.setIfInBounds_toArray,List.set_cons_zero,List.set_cons_succ]
      refine wpAnyH_take (i:=6) (v:=?_) rfl (by kernel_rfl) (by kernel_rfl) (by kernel_rfl) (fun _ _ _ h=>h) (Or.inl ⟨by rfl,?_⟩) (by assumption) ?_
      rotate_left
      ·(intro w hSw;(try dsimp only at hSw);simp only [List.getElem_toArray,List.getElem_cons_zero,List.getElem_cons_succ];go_simp;(try with_reducible rfl))
      try simp only [Act.put,List.getElem_toArray,List.getElem_cons_zero,List.getElem_cons_succ,List.setIfInBounds_toArray,List.set_cons_zero,List.set_cons_succ]
      refine wpAnyH_take (i:=7) (v:=?_) rfl (by kernel_rfl) (by kernel_rfl) (by kernel_rfl) (fun _ _ _ h=>h) (Or.inl ⟨by rfl,?_⟩) (by assumption) ?_
      rotate_left
      ·(intro w hSw;(try dsimp only at hSw);simp only [List.getElem_toArray,List.getElem_cons_zero,List.getElem_cons_succ];go_simp;(try with_reducible rfl))
      try simp only [Act.put,List.getElem_toArray,List.getElem_cons_zero,List.getElem_cons_succ,List.setIfInBounds_toArray,List.set_cons_zero,List.set_cons_succ]
      refine wpAnyH_take (i:=8) (v:=undef) rfl (by kernel_rfl) (by kernel_rfl) (by kernel_rfl) (fun _ _ _ h=>h) (Or.inr ⟨by rfl,rfl⟩) (by assumption) ?_
      try simp only [Act.put,List.getElem_toArray,List.getElem_cons_zero,List.getElem_cons_succ,List.setIfInBounds_toArray,List.set_cons_zero,List.set_cons_succ]
      refine wpAnyH_take (i:=9) (v:=undef) rfl (by kernel_rfl) (by kernel_rfl) (by kernel_rfl) (fun _ _ _ h=>h) (Or.inr ⟨by rfl,rfl⟩) (by assumption) ?_
      try simp only [Act.put,List.getElem_toArray,List.getElem_cons_zero,List.getElem_cons_succ,List.setIfInBounds_toArray,List.set_cons_zero,List.set_cons_succ]
      refine wpAnyH_take (i:=10) (v:=undef) rfl (by kernel_rfl) (by kernel_rfl) (by kernel_rfl) (fun _ _ _ h=>h) (Or.inr ⟨by rfl,rfl⟩) (by assumption) ?_
      try simp only [Act.put,List.getElem_toArray,List.getElem_cons_zero,List.getElem_cons_succ,List.setIfInBounds_toArray,List.set_cons_zero,List.set_cons_succ]
      refine wpAnyH_take (i:=11) (v:=undef) rfl (by kernel_rfl) (by kernel_rfl) (by kernel_rfl) (fun _ _ _ h=>h) (Or.inr ⟨by rfl,rfl⟩) (by assumption) ?_
      try simp only [Act.put,List.getElem_toArray,List.getElem_cons_zero,List.getElem_cons_succ,List.setIfInBounds_toArray,List.set_cons_zero,List.set_cons_succ]
      refine wpAnyH_take (i:=12) (v:=undef) rfl (by kernel_rfl) (by kernel_rfl) (by kernel_rfl) (fun _ _ _ h=>h) (Or.inr ⟨by rfl,rfl⟩) (by assumption) ?_
      try simp only [Act.put,List.getElem_toArray,List.getElem_cons_zero,List.getElem_cons_succ,List.setIfInBounds_toArray,List.set_cons_zero,List.set_cons_succ]
      refine wpAnyH_take (i:=13) (v:=undef) rfl (by kernel_rfl) (by kernel_rfl) (by kernel_rfl) (fun _ _ _ h=>h) (Or.inr ⟨by rfl,rfl⟩) (by assumption) ?_
      try simp only [Act.put,List.getElem_toArray,List.getElem_cons_zero,List.getElem_cons_succ,List.setIfInBounds_toArray,List.set_cons_zero,List.set_cons_succ]
      refine wpAnyH_take (i:=14) (v:=undef) rfl (by kernel_rfl) (by kernel_rfl) (by kernel_rfl) (fun _ _ _ h=>h) (Or.inr ⟨by rfl,rfl⟩) (by assumption) ?_
      try simp only [Act.put,List.getElem_toArray,List.getElem_cons_zero,List.getElem_cons_succ,List.setIfInBounds_toArray,List.set_cons_zero,List.set_cons_succ]
      refine wpAnyH_take (i:=15) (v:=undef) rfl (by kernel_rfl) (by kernel_rfl) (by kernel_rfl) (fun _ _ _ h=>h) (Or.inr ⟨by rfl,rfl⟩) (by assumption) ?_
      try simp only [Act.put,List.getElem_toArray,List.getElem_cons_zero,List.getElem_cons_succ,List.setIfInBounds_toArray,List.set_cons_zero,List.set_cons_succ]
      refine wpAnyH_take (i:=16) (v:=undef) rfl (by kernel_rfl) (by kernel_rfl) (by kernel_rfl) (fun _ _ _ h=>h) (Or.inr ⟨by rfl,rfl⟩) (by assumption) ?_
      try simp only [Act.put,List.getElem_toArray,List.getElem_cons_zero,List.getElem_cons_succ,List.setIfInBounds_toArray,List.set_cons_zero,List.set_cons_succ]
      refine wpAnyH_take (i:=17) (v:=undef) rfl (by kernel_rfl) (by kernel_rfl) (by kernel_rfl) (fun _ _ _ h=>h) (Or.inr ⟨by rfl,rfl⟩) (by assumption) ?_
      try simp only [Act.put,List.getElem_toArray,List.getElem_cons_zero,List.getElem_cons_succ,List.setIfInBounds_toArray,List.set_cons_zero,List.set_cons_succ]
      refine wpAnyH_take (i:=18) (v:=undef) rfl (by kernel_rfl) (by kernel_rfl) (by kernel_rfl) (fun _ _ _ h=>h) (Or.inr ⟨by rfl,rfl⟩) (by assumption) ?_
      try simp only [Act.put,List.getElem_toArray,List.getElem_cons_zero,List.getElem_cons_succ,List.setIfInBounds_toArray,List.set_cons_zero,List.set_cons_succ]
      refine wpAnyH_take (i:=19) (v:=?_) rfl (by kernel_rfl) (by kernel_rfl) (by kernel_rfl) (fun _ _ _ h=>h) (Or.inl ⟨by rfl,?_⟩) (by assumption) ?_
      rotate_left
      ·(intro w hSw;(try dsimp only at hSw);simp only [List.getElem_toArray,List.getElem_cons_zero,List.getElem_cons_succ];go_simp;(try with_reducible rfl))
      try simp only [Act.put,List.getElem_toArray,List.getElem_cons_zero,List.getElem_cons_succ,List.setIfInBounds_toArray,List.set_cons_zero,List.set_cons_succ]
      refine wpAnyH_ready (rs:=[20]) (by kernel_rfl) (by simp) ?_
      refine AllReadyH.cons rfl (fun K hK=>?_) AllReadyH.nil
      simp only [List.getElem_toArray,List.getElem_cons_zero,List.getElem_cons_succ]
      rw [if_pos (by rfl)]
      go_simp
      refine hK.out _ _ (HS2.out) (fun hHeld=>?_)
      clear hK K
      try simp only [Act.put,List.getElem_toArray,List.getElem_cons_zero,List.getElem_cons_succ,List.setIfInBounds_toArray,List.set_cons_zero,List.set_cons_succ]
      refine wpAnyH_take (i:=21) (v:=?_) rfl (by kernel_rfl) (by kernel_rfl) (by kernel_rfl) (fun _ _ _ h=>h) (Or.inl ⟨by rfl,?_⟩) (by assumption) ?_
      rotate_left
      ·(intro w hSw;(try dsimp only at hSw);simp only [List.getElem_toArray,List.getElem_cons_zero,List.getElem_cons_succ];go_simp;(try with_reducible rfl))
      try simp only [Act.put,List.getElem_toArray,List.getElem_cons_zero,List.getElem_cons_succ,List.setIfInBounds_toArray,List.set_cons_zero,List.set_cons_succ]
      refine wpAnyH_done (by kernel_rfl) ?_ _
      go_wp2_with fail
      have hk5:=((((HK4.out.set 0 (.string ⟨nm.toArray⟩)).set 1 (.int .i64 (fl:Int))).set 2 (.int .u32 (lk:Int))).set 3 (.int .u32 (xt:Int))).set 4 (.int .u32 (sz:Int))
      have p0:=hk5.cell 0
      have p1:=hk5.cell 1
      have p2:=hk5.cell 2
      have p3:=hk5.cell 3
      have p4:=hk5.cell 4
      refine bodyPost_ret (v:=.tuple #[.agg #[.string ⟨nm.toArray⟩,.int .i64 (fl:Int),.int .u32 (lk:Int),.int .u32 (xt:Int),.int .u32 (sz:Int)],.bool false]) (by simp [results,Tryz.results131,go_sem,p0,p1,p2,p3,p4]) rfl ?_
      exact ⟨Dc.right_ret HHD.out HO.out,((((HB4.out.setCell (Nat.le_succ _) _).setCell (Nat.le_succ _) _).setCell (Nat.le_succ _) _).setCell (Nat.le_succ _) _).setCell (Nat.le_succ _) _ |>.drew⟩
   ·have hx2:((xt:Int) != (af:Int)) = true:=by rw [bne_iff_ne];omega
    have HO:=Lib.hid (show Dc.okR b a bu = false from HOE.out.trans (by rw [HR.out];simp [hxt]))
    go_wp2_with fail
    go_at_call 168
    refine (CHS.out _).mono ?_
    rintro e w4 ⟨rfl,hb4⟩
    have HK4:=Lib.hid (HKa.out.kept hb4)
    have HB4:=Lib.hid (HBa.out.trans (hb4.mono HBa.out.size))
    have HX4:=Lib.hid (HBX.out.kept hb4)
    have v0:=HX4.out.cell 0
    have v1:=HX4.out.cell 1
    have v2:=HX4.out.cell 2
    have v3:=HX4.out.cell 3
    have v4:=HX4.out.cell 4
    clear x0 x1 x2 x3 x4
    have y0:=HK4.out.free 0
    have y1:=HK4.out.free 1
    have y2:=HK4.out.free 2
    have y3:=HK4.out.free 3
    have y4:=HK4.out.free 4
    have z0:=HK4.out.cell 0
    have z1:=HK4.out.cell 1
    have z2:=HK4.out.cell 2
    have z3:=HK4.out.cell 3
    have z4:=HK4.out.cell 4
    go_wp2_with fail
    have hk5:=((((HK4.out.set 0 (.string ⟨nm.toArray⟩)).set 1 (.int .i64 (fl:Int))).set 2 (.int .u32 (lk:Int))).set 3 (.int .u32 (xt:Int))).set 4 (.int .u32 (sz:Int))
    have p0:=hk5.cell 0
    have p1:=hk5.cell 1
    have p2:=hk5.cell 2
    have p3:=hk5.cell 3
    have p4:=hk5.cell 4
    refine bodyPost_ret (v:=.tuple #[.agg #[.string ⟨nm.toArray⟩,.int .i64 (fl:Int),.int .u32 (lk:Int),.int .u32 (xt:Int),.int .u32 (sz:Int)],.bool false]) (by simp [results,Tryz.results131,go_sem,p0,p1,p2,p3,p4]) rfl ?_
    exact ⟨Dc.right_ret HHD.out HO.out,((((HB4.out.setCell (Nat.le_succ _) _).setCell (Nat.le_succ _) _).setCell (Nat.le_succ _) _).setCell (Nat.le_succ _) _).setCell (Nat.le_succ _) _⟩
  ·have hx2:((bu:Int) != (k:Int)) = true:=by rw [bne_iff_ne];omega
   have HO:=Lib.hid (show Dc.okR b a k = false from HOE.out.trans (by rw [HR.out];simp [hbu]))
   go_wp2_with fail
   go_at_call 168
   refine (CHS.out _).mono ?_
   rintro e w4 ⟨rfl,hb4⟩
   have HK4:=Lib.hid (HKa.out.kept hb4)
   have HB4:=Lib.hid (HBa.out.trans (hb4.mono HBa.out.size))
   have HX4:=Lib.hid (HBX.out.kept hb4)
   have v0:=HX4.out.cell 0
   have v1:=HX4.out.cell 1
   have v2:=HX4.out.cell 2
   have v3:=HX4.out.cell 3
   have v4:=HX4.out.cell 4
   clear x0 x1 x2 x3 x4
   have y0:=HK4.out.free 0
   have y1:=HK4.out.free 1
   have y2:=HK4.out.free 2
   have y3:=HK4.out.free 3
   have y4:=HK4.out.free 4
   have z0:=HK4.out.cell 0
   have z1:=HK4.out.cell 1
   have z2:=HK4.out.cell 2
   have z3:=HK4.out.cell 3
   have z4:=HK4.out.cell 4
   go_wp2_with fail
   have hk5:=((((HK4.out.set 0 (.string ⟨nm.toArray⟩)).set 1 (.int .i64 (fl:Int))).set 2 (.int .u32 (lk:Int))).set 3 (.int .u32 (xt:Int))).set 4 (.int .u32 (sz:Int))
   have p0:=hk5.cell 0
   have p1:=hk5.cell 1
   have p2:=hk5.cell 2
   have p3:=hk5.cell 3
   have p4:=hk5.cell 4
   refine bodyPost_ret (v:=.tuple #[.agg #[.string ⟨nm.toArray⟩,.int .i64 (fl:Int),.int .u32 (lk:Int),.int .u32 (xt:Int),.int .u32 (sz:Int)],.bool false]) (by simp [results,Tryz.results131,go_sem,p0,p1,p2,p3,p4]) rfl ?_
   exact ⟨Dc.right_ret HHD.out HO.out,((((HB4.out.setCell (Nat.le_succ _) _).setCell (Nat.le_succ _) _).setCell (Nat.le_succ _) _).setCell (Nat.le_succ _) _).setCell (Nat.le_succ _) _⟩
end Go.Proofs.YtpcpaoeajcjoiaaGreatDoor
