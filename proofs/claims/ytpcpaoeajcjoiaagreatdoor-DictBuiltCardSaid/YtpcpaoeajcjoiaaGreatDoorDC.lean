/- Texts joined, what is not reached left out. -/
import Derived.Test.YtpcpaoeajcjoiaaGreatDoorQDcRight
import Derived.Test.YtpcpaoeajcjoiaaGreatDoorQKitF
import Derived.Shelf.SlSortCmp.WholeK
import Derived.Test.YtpcpaoeajcjoiaaGreatDoorProg
import Derived.Shelf.SlSortCmp.NoneTotal
set_option linter.unusedVariables false
set_option linter.unusedSimpArgs false
namespace Go.Proofs.YtpcpaoeajcjoiaaGreatDoor
open Go.RowKit Go.Shelf Kit
attribute [local go_sem] Oper.semAt_some
structure Dc.Wd where
 list:Nat
 at_:Nat
 h:Dc.H
abbrev Dc.Wd.v (x:Dc.Wd):Value:=.agg #[.int .i64 (x.list:Int),.int .u32 (x.at_:Int),.string ⟨x.h.name.toArray⟩,.int .i64 (x.h.fl:Int),.int .u32 (x.h.link:Int),.int .u32 (x.h.xt:Int),.int .u32 (x.h.size:Int)]
abbrev Dc.zero:Value:=.agg #[.int .i64 0,.int .u32 0,.string ⟨#[]⟩,.int .i64 0,.int .u32 0,.int .u32 0,.int .u32 0]
def Dc.here (b:List UInt8) (a:Nat):Dc.H:=Dc.hd (Dc.win b a)
def Dc.ok (b:List UInt8) (k a last:Nat):Bool:=Dc.okR b a k && decide (a < last)
structure Dc.Cap (gm:Nat) (first list k bf br bk bl:Nat) (W:World):Prop where
 f:W.cell? ⟨bf,0,none⟩ = some (.int .u32 (first:Int))
 r:W.cell? ⟨br,0,none⟩ = some (.pointer (some ⟨gm,0,none⟩))
 k:W.cell? ⟨bk,0,none⟩ = some (.int .i64 (k:Int))
 l:W.cell? ⟨bl,0,none⟩ = some (.int .i64 (list:Int))
set_option maxRecDepth 100000 in
set_option maxHeartbeats 4000000 in
theorem chain1_in (n l:Nat) (hn:1≤n) {gm gb:Nat} {b:List UInt8} {hs:List (Nat × Nat)} (first list k bf br bk bl:Nat) (hf32:first < 4294967296) (J:Nat→Nat→World→Prop) (Jx:World→Prop)
  (hJm:∀ a last W,J a last W→OwnM W gm gb b hs) (hJd:∀ a last W,J a last W→J a last W.drew) (hJc:∀ a last W,J a last W→Dc.Cap gm first list k bf br bk bl W)
  (hY:∀ a last W0 W,a ≠ 0→a < 4294967296→J a last W0→Below W0.heap.size W0 W→(Dc.ok b k a last = true→YieldAt Fence.wide (n - 1) Tryz.prog l #[(⟨list,a,Dc.here b a⟩:Dc.Wd).v] W fun e W'=>((e = .returned (.bool true)∧J (Dc.here b a).link a W') ∨ (e = .returned (.bool false)∧Jx W'))∧∀ g,W0.heap.size≤g→g < W.heap.size→W'.heap[g]? = W.heap[g]?) ∧
   (Dc.ok b k a last = false→YieldAt Fence.wide (n - 1) Tryz.prog l #[Dc.zero] W fun e W'=>∃ q,e = .returned (.bool q)∧Jx W'))
  (W:World) (h0:J first 4294967295 W) :
  CallsIn Fence.wide n Tryz.prog 130 #[.func (.yield l) #[] #[],.pointer (some ⟨bf,0,none⟩),.pointer (some ⟨br,0,none⟩),.pointer (some ⟨bk,0,none⟩),.pointer (some ⟨bl,0,none⟩)] W fun e W'=>(∃ v,e = .returned v)∧((∃ last,J 0 last W') ∨ Jx W'):=by
 refine callsIn_of_wp Tryz.func130 rfl trivial ?_ rfl
 simp only [Tryz.ntmps130,List.size_toArray,List.length_cons,List.length_nil,Nat.reduceAdd,Nat.reduceSub,Array.replicate_succ,Array.replicate_zero,List.push_toArray,List.append_toArray,List.nil_append,List.cons_append]
 have HJ0:=Lib.hid h0
 have HJM:=Lib.hid hJm
 have HJC:=Lib.hid hJc
 have HJD:=Lib.hid hJd
 have HY:=Lib.hid hY
 have HF:=Lib.hid hf32
 obtain ⟨c1,c2,c3,c4⟩:=hJc _ _ _ h0
 clear h0 hJm hJd hJc hY hf32
 gi_wp2
 clear c1 c2 c3 c4
 gi_loopw [6,7] (fun last a wr=>∃ (la aa:Nat),last = .int .u32 (la:Int)∧a = .int .u32 (aa:Int)∧aa < 4294967296∧J aa la wr) (fun last _ _=>(intOf last).toNat)
 case atStart=>exact ⟨4294967295,first,rfl,rfl,HF.out,HJ0.out⟩
 case round=>
  obtain ⟨la,aa,rfl,rfl,ha,hJ⟩:=hrel
  have HJ:=Lib.hid hJ
  obtain ⟨c1,c2,c3,c4⟩:=HJC.out _ _ _ hJ
  have CR:=Lib.hid (dright_any wr gm gb b hs aa k ha (HJM.out _ _ _ hJ))
  clear hJ
  by_cases h0:aa = 0
  ·subst h0
   gi_wp2
   go_end0
   exact ⟨⟨_,rfl⟩,.inl ⟨la,HJ.out⟩⟩
  ·have hne:((aa:Int) != 0) = true:=by rw [bne_iff_ne];omega
   have HN0:=Lib.hid h0
   have HA:=Lib.hid ha
   obtain ⟨Hd,hHd⟩:∃ q,Dc.hd (Dc.win b aa) = q:=⟨_,rfl⟩
   rw [hHd] at CR
   have HHD:=Lib.hid (show Dc.here b aa = Hd from hHd)
   have hsl:=(Dc.sz_lt b aa).2.2
   rw [hHd] at hsl
   obtain ⟨nm,fl,lk,xt,sz⟩:=Hd
   dsimp only [Dc.H.v] at CR hsl
   have HOK:=Lib.hid (show Dc.ok b k aa la = (Dc.okR b aa k && decide (aa < la)) from rfl)
   generalize Dc.okR b aa k = okr at *
   clear hHd h0
   have HYY:=Lib.hid (fun W0=>HY.out aa la wr W0 HN0.out HA.out HJ.out)
   cases hok:Dc.ok b k aa la
   ·rw [hok] at HOK
    have HOKF:=Lib.hid hok
    cases okr
    ·gi_upto_region 4 with (refine ⟨trivial,?_⟩;gi_at_call 131;refine (callsIn_wide.2 CR.out).mono ?_;rintro e w2 ⟨rfl,hb2⟩)
     have hb3:Below wr.heap.size wr (w2.alloc (.cells #[.string ⟨nm.toArray⟩,.int .i64 (fl:Int),.int .u32 (lk:Int),.int .u32 (xt:Int),.int .u32 (sz:Int)] 55)):=hb2.alloc hb2.size _
     obtain ⟨fn,tmps,assign,body,hy,hR⟩:=(HYY.out _ hb3).2 HOKF.out
     dsimp only [Dc.zero] at hy hR
     gi_wp2
     refine hR.mono ?_
     rintro e W3 ⟨q,rfl,hx⟩
     gi_wp2
     refine bodyPost_ret (results_none rfl _ _ _) rfl ?_
     exact ⟨⟨_,rfl⟩,.inr hx⟩
    ·have hle:la≤aa:=by
      have h:=HOK.out
      simp only [Bool.true_and] at h
      have:=of_decide_eq_false h.symm
      omega
     have hle2:(la:Int)≤(aa:Int):=by omega
     gi_upto_region 4 with (refine ⟨trivial,?_⟩;gi_at_call 131;refine (callsIn_wide.2 CR.out).mono ?_;rintro e w2 ⟨rfl,hb2⟩)
     have hb3:Below wr.heap.size wr (w2.alloc (.cells #[.string ⟨nm.toArray⟩,.int .i64 (fl:Int),.int .u32 (lk:Int),.int .u32 (xt:Int),.int .u32 (sz:Int)] 55)):=hb2.alloc hb2.size _
     obtain ⟨fn,tmps,assign,body,hy,hR⟩:=(HYY.out _ hb3).2 HOKF.out
     dsimp only [Dc.zero] at hy hR
     gi_wp2
     refine hR.mono ?_
     rintro e W3 ⟨q,rfl,hx⟩
     gi_wp2
     refine bodyPost_ret (results_none rfl _ _ _) rfl ?_
     exact ⟨⟨_,rfl⟩,.inr hx⟩
   ·rw [hok] at HOK
    have HOKT:=Lib.hid hok
    have hok2:=HOK.out.symm
    simp only [Bool.and_eq_true,decide_eq_true_eq] at hok2
    obtain ⟨hok3,hlt⟩:=hok2
    subst hok3
    have hlt2:¬ (la:Int)≤(aa:Int):=by omega
    gi_upto_region 4 with (refine ⟨trivial,?_⟩;gi_at_call 131;refine (callsIn_wide.2 CR.out).mono ?_;rintro e w2 ⟨rfl,hb2⟩)
    have hb3:Below wr.heap.size wr (w2.alloc (.cells #[.string ⟨nm.toArray⟩,.int .i64 (fl:Int),.int .u32 (lk:Int),.int .u32 (xt:Int),.int .u32 (sz:Int)] 55)):=hb2.alloc hb2.size _
    obtain ⟨fn,tmps,assign,body,hy,hR⟩:=(HYY.out _ hb3).1 HOKT.out
    rw [HHD.out] at hy hR
    dsimp only [Dc.Wd.v] at hy hR
    have hbx:=Bk.fresh w2 55 #[.string ⟨nm.toArray⟩,.int .i64 (fl:Int),.int .u32 (lk:Int),.int .u32 (xt:Int),.int .u32 (sz:Int)]
    have k4:=(HJC.out _ _ _ HJ.out).l
    have q4:(w2.alloc (.cells #[.string ⟨nm.toArray⟩,.int .i64 (fl:Int),.int .u32 (lk:Int),.int .u32 (xt:Int),.int .u32 (sz:Int)] 55)).cell? ⟨bl,0,none⟩ = some (.int .i64 (list:Int)):=(hb3.cell (p:=⟨bl,0,none⟩) (World.block_lt_of_cell? _ _ k4)).trans k4
    have x0:=hbx.cell 0
    have x1:=hbx.cell 1
    have x2:=hbx.cell 2
    have x3:=hbx.cell 3
    have x4:=hbx.cell 4
    have HBX:=Lib.hid hbx
    have HB3:=Lib.hid hb3
    have HZ:=Lib.hid (show wr.heap.size≤w2.heap.size from hb2.size)
    clear k4 hb3 hbx
    gi_wp2
    refine hR.mono ?_
    rintro e W3 ⟨⟨rfl,hJ3⟩ | ⟨rfl,hJx3⟩,hkeep⟩
    ·have hbx3:Bk W3 w2.heap.size 55 #[.string ⟨nm.toArray⟩,.int .i64 (fl:Int),.int .u32 (lk:Int),.int .u32 (xt:Int),.int .u32 (sz:Int)]:=(hkeep w2.heap.size HZ.out (by simp)).trans HBX.out
     have z2:=hbx3.cell 2
     have HJ3:=Lib.hid hJ3
     clear hkeep hbx3 hJ3 x0 x1 x2 x3 x4 q4
     have HLT:=Lib.hid hlt
     have HSL:=Lib.hid hsl
     clear hlt hsl hlt2
     have mixed:Tryz.prog.follows .mixedOrders = true:=by kernel_rfl
     gi_wp2_with fail
     gi_region_o
     gi_wp2
     go_roundw
     case rel=>exact ⟨aa,lk,rfl,rfl,HSL.out,HJD.out _ _ _ (by first | exact HJ3.out | (have:=HJ3.out;rw [HHD.out] at this;exact this))⟩
     case measure=>
      have:=HLT.out
      simp only [intOf]
      omega
    ·gi_wp2
     refine bodyPost_ret (results_none rfl _ _ _) rfl ?_
     exact ⟨⟨_,rfl⟩,.inr hJx3⟩
theorem dchain_any (w:World) (gm first list k:Nat) :
  Calls Tryz.prog 72 #[Dc.rv gm,.int .u32 (first:Int),.int .i64 (list:Int),.int .i64 (k:Int)] w fun e w'=>
   e = .returned (.func (.func 130) #[] #[.pointer (some ⟨w.heap.size+1,0,none⟩),.pointer (some ⟨w.heap.size,0,none⟩),.pointer (some ⟨w.heap.size+3,0,none⟩),.pointer (some ⟨w.heap.size+2,0,none⟩)]) ∧
   Dc.Cap gm first list k (w.heap.size+1) w.heap.size (w.heap.size+3) (w.heap.size+2) w'∧Below w.heap.size w w'∧w'.heap.size = w.heap.size+4:=by
 have h1:Below w.heap.size w (w.alloc (.cells #[.pointer (some ⟨gm,0,none⟩)] 153)):=(Below.refl _ _).alloc (Nat.le_refl _) _
 have r0:=Bk.fresh w 153 #[.pointer (some ⟨gm,0,none⟩)]
 have z1:(w.alloc (.cells #[.pointer (some ⟨gm,0,none⟩)] 153)).heap.size = w.heap.size+1:=World.size_alloc _ _
 have HF:∀ W1:World,W1.heap.size = w.heap.size+1→Bk W1 w.heap.size 153 #[.pointer (some ⟨gm,0,none⟩)]→Below w.heap.size w W1 →
   Dc.Cap gm first list k (w.heap.size+1) w.heap.size (w.heap.size+3) (w.heap.size+2) (((W1.alloc (.cells #[.int .u32 (first:Int)] 23)).alloc (.cells #[.int .i64 (list:Int)] 3)).alloc (.cells #[.int .i64 (k:Int)] 3)) ∧
   Below w.heap.size w (((W1.alloc (.cells #[.int .u32 (first:Int)] 23)).alloc (.cells #[.int .i64 (list:Int)] 3)).alloc (.cells #[.int .i64 (k:Int)] 3)) ∧
   (((W1.alloc (.cells #[.int .u32 (first:Int)] 23)).alloc (.cells #[.int .i64 (list:Int)] 3)).alloc (.cells #[.int .i64 (k:Int)] 3)).heap.size = w.heap.size+4:=by
  intro W1 hz hr hb
  have r1:=Bk.fresh W1 23 #[.int .u32 (first:Int)]
  have b2:Below W1.heap.size W1 (W1.alloc (.cells #[.int .u32 (first:Int)] 23)):=(Below.refl _ _).alloc (Nat.le_refl _) _
  have z2:(W1.alloc (.cells #[.int .u32 (first:Int)] 23)).heap.size = w.heap.size+2:=by rw [World.size_alloc,hz]
  rw [hz] at r1
  generalize W1.alloc (.cells #[.int .u32 (first:Int)] 23) = W2 at r1 b2 z2 ⊢
  have r2:=Bk.fresh W2 3 #[.int .i64 (list:Int)]
  have b3:Below W2.heap.size W2 (W2.alloc (.cells #[.int .i64 (list:Int)] 3)):=(Below.refl _ _).alloc (Nat.le_refl _) _
  have z3:(W2.alloc (.cells #[.int .i64 (list:Int)] 3)).heap.size = w.heap.size+3:=by rw [World.size_alloc,z2]
  rw [z2] at r2
  generalize W2.alloc (.cells #[.int .i64 (list:Int)] 3) = W3 at r2 b3 z3 ⊢
  have r3:=Bk.fresh W3 3 #[.int .i64 (k:Int)]
  have b4:Below W3.heap.size W3 (W3.alloc (.cells #[.int .i64 (k:Int)] 3)):=(Below.refl _ _).alloc (Nat.le_refl _) _
  have z4:(W3.alloc (.cells #[.int .i64 (k:Int)] 3)).heap.size = w.heap.size+4:=by rw [World.size_alloc,z3]
  rw [z3] at r3
  generalize W3.alloc (.cells #[.int .i64 (k:Int)] 3) = W4 at r3 b4 z4 ⊢
  exact ⟨⟨((r1.kept b3).kept b4).cell 0,(((hr.kept b2).kept b3).kept b4).cell 0,r3.cell 0,(r2.kept b4).cell 0⟩,((hb.trans (b2.mono (by omega))).trans (b3.mono (by omega))).trans (b4.mono (by omega)),z4⟩
 have HG:=Lib.hid (HF _ z1 r0 h1)
 clear HF r0 z1 h1
 go_enter Tryz.func72,Tryz.ntmps72
 go_wp2_with fail
 go_ret
 exact ⟨rfl,HG.out⟩
end Go.Proofs.YtpcpaoeajcjoiaaGreatDoor
namespace Go.Proofs.YtpcpaoeajcjoiaaGreatDoor
open Go.RowKit Kit
theorem Dc.ok_lt {b:List UInt8} {k a last:Nat} (h:Dc.ok b k a last = true):a < last:=by
 unfold Dc.ok at h
 simp only [Bool.and_eq_true,decide_eq_true_eq] at h
 exact h.2
def Dc.chainF (b:List UInt8) (k list:Nat):Nat→Nat→Nat→Option (List Dc.Wd)
 | 0,a,last=>if a = 0 then some [] else none
 | f+1,a,last=>if a = 0 then some [] else if Dc.ok b k a last = true then (Dc.chainF b k list f (Dc.here b a).link a).map (fun c=>⟨list,a,Dc.here b a⟩ :: c) else none
def Dc.chain (b:List UInt8) (k list:Nat) (a last:Nat):Option (List Dc.Wd):=Dc.chainF b k list last a last
theorem Dc.chain_enough (b:List UInt8) (k list:Nat):∀ (f a last:Nat),last≤f→Dc.chainF b k list f a last = Dc.chainF b k list last a last:=by
 intro f
 induction f using Nat.strongRecOn with
 | ind f ih=>
  intro a last hl
  match f,last,hl with
  | 0,last,hl=>
   obtain rfl:last = 0:=by omega
   rfl
  | f+1,0,hl=>
   rw [Dc.chainF,Dc.chainF]
   by_cases ha:a = 0
   ·rw [if_pos ha,if_pos ha]
   ·rw [if_neg ha,if_neg ha,if_neg (fun h=>by have:=Dc.ok_lt h;omega)]
  | f+1,l+1,hl=>
   rw [Dc.chainF,Dc.chainF]
   by_cases ha:a = 0
   ·rw [if_pos ha,if_pos ha]
   ·rw [if_neg ha,if_neg ha]
    by_cases hok:Dc.ok b k a (l+1) = true
    ·have hlt:=Dc.ok_lt hok
     rw [if_pos hok,if_pos hok,ih f (by omega) _ a (by omega),ih l (by omega) _ a (by omega)]
    ·rw [if_neg hok,if_neg hok]
theorem Dc.chain_zero (b:List UInt8) (k list last:Nat):Dc.chain b k list 0 last = some []:=by
 unfold Dc.chain
 cases last <;> (rw [Dc.chainF,if_pos rfl])
theorem Dc.chain_ok {b:List UInt8} {k a last:Nat} (list:Nat) (ha:a ≠ 0) (h:Dc.ok b k a last = true):Dc.chain b k list a last = (Dc.chain b k list (Dc.here b a).link a).map (fun c=>⟨list,a,Dc.here b a⟩ :: c):=by
 have hlt:=Dc.ok_lt h
 unfold Dc.chain
 cases last with
 | zero=>omega
 | succ l=>
  rw [Dc.chainF,if_neg ha,if_pos h,Dc.chain_enough b k list l _ a (by omega)]
theorem Dc.chain_bad {b:List UInt8} {k a last:Nat} (list:Nat) (ha:a ≠ 0) (h:Dc.ok b k a last = false):Dc.chain b k list a last = none:=by
 unfold Dc.chain
 cases last with
 | zero=>rw [Dc.chainF,if_neg ha]
 | succ l=>rw [Dc.chainF,if_neg ha,if_neg (by rw [h];decide)]
def Dc.first (b:List UInt8) (heads k:Nat):Nat:=(Dc.wd b ((heads+4 * k) % 4294967296)).getD 0
def Dc.tail (b:List UInt8) (heads:Nat):Nat→Option (List Dc.Wd)
 | 0=>some []
 | n+1=>(Dc.chain b ((31 - n) % 16) ((31 - n) / 16) (Dc.first b heads (31 - n)) 4294967295).bind fun c=>(Dc.tail b heads n).map (c ++ ·)
def Dc.all (b:List UInt8) (heads:Nat):Option (List Dc.Wd):=Dc.tail b heads 32
def Dc.At (b:List UInt8) (heads:Nat) (pre:List Dc.Wd) (k:Nat):Prop:=Dc.all b heads = (Dc.tail b heads (32 - k)).map (pre ++ ·)
def Dc.In (b:List UInt8) (heads:Nat) (pre:List Dc.Wd) (k a last:Nat):Prop:=
 Dc.all b heads = ((Dc.chain b (k % 16) (k / 16) a last).bind fun c=>(Dc.tail b heads (31 - k)).map (c ++ ·)).map (pre ++ ·)
theorem Dc.At.start (b:List UInt8) (heads:Nat):Dc.At b heads [] 0:=by
 unfold Dc.At Dc.all
 cases Dc.tail b heads 32 <;> rfl
theorem Dc.At.into {b:List UInt8} {heads:Nat} {pre:List Dc.Wd} {k:Nat} (h:Dc.At b heads pre k) (hk:k < 32):Dc.In b heads pre k (Dc.first b heads k) 4294967295:=by
 unfold Dc.At at h
 unfold Dc.In
 rw [h,show 32 - k = (31 - k)+1 by omega,Dc.tail,show 31 - (31 - k) = k by omega]
theorem Dc.In.out {b:List UInt8} {heads:Nat} {pre:List Dc.Wd} {k last:Nat} (h:Dc.In b heads pre k 0 last):Dc.At b heads pre (k+1):=by
 unfold Dc.In at h
 unfold Dc.At
 rw [h,Dc.chain_zero,show 32 - (k+1) = 31 - k by omega]
 cases Dc.tail b heads (31 - k) <;> rfl
theorem Dc.In.step {b:List UInt8} {heads:Nat} {pre:List Dc.Wd} {k a last:Nat} (h:Dc.In b heads pre k a last) (ha:a ≠ 0) (hok:Dc.ok b (k % 16) a last = true) :
  Dc.In b heads (pre ++ [⟨k / 16,a,Dc.here b a⟩]) k (Dc.here b a).link a:=by
 unfold Dc.In at h ⊢
 rw [h,Dc.chain_ok _ ha hok]
 cases Dc.chain b (k % 16) (k / 16) (Dc.here b a).link a <;> cases Dc.tail b heads (31 - k) <;> simp
theorem Dc.In.bad {b:List UInt8} {heads:Nat} {pre:List Dc.Wd} {k a last:Nat} (h:Dc.In b heads pre k a last) (ha:a ≠ 0) (hok:Dc.ok b (k % 16) a last = false):Dc.all b heads = none:=by
 unfold Dc.In at h
 rw [h,Dc.chain_bad _ ha hok]
 rfl
theorem Dc.In.full {b:List UInt8} {heads:Nat} {pre:List Dc.Wd} {k a last:Nat} (h:Dc.In b heads pre k a last) (ha:a ≠ 0) (hok:Dc.ok b (k % 16) a last = true) (hf:4096≤pre.length):∀ l,Dc.all b heads = some l→4096 < l.length:=by
 intro l hl
 have hs:=h.step ha hok
 unfold Dc.In at hs
 rw [hl] at hs
 obtain ⟨c,_,rfl⟩:=Option.map_eq_some_iff.1 hs.symm
 simp only [List.length_append,List.length_cons,List.length_nil]
 omega
theorem Dc.tail_none (b:List UInt8) (heads:Nat) {n:Nat} (h:n = 0):Dc.tail b heads n = some []:=by
 subst h
 rfl
theorem Dc.At.done {b:List UInt8} {heads:Nat} {pre:List Dc.Wd} {k:Nat} (h:Dc.At b heads pre k) (hk:32≤k):Dc.all b heads = some pre:=by
 unfold Dc.At at h
 rw [h,Dc.tail_none b heads (by omega)]
 simp only [Option.map_some,List.append_nil]
structure Dc.Good (b:List UInt8) (heads:Nat) (l:List Dc.Wd):Prop where
 all:Dc.all b heads = some l
 most:l.length≤4096
 once:(l.map Dc.Wd.at_).Nodup
abbrev Dc.fits (b:List UInt8) (heads:Nat):Prop:=128≤b.length∧heads % 4 = 0∧heads+128≤b.length
theorem Dc.wat_lt (l:List UInt8) (k:Nat):Nm.wat l k < 4294967296:=by
 have h0:=(l.getD k 0).toNat_lt
 have h1:=(l.getD (k+1) 0).toNat_lt
 have h2:=(l.getD (k+2) 0).toNat_lt
 have h3:=(l.getD (k+3) 0).toNat_lt
 unfold Nm.wat Nm.wordN
 omega
theorem Dc.wd_lt (b:List UInt8) (a:Nat):(Dc.wd b a).getD 0 < 4294967296:=by
 have h:=Dc.wat_lt b a
 by_cases hx:a+4≤b.length
 ·rw [show Dc.wd b a = some (Nm.wat b a) from by unfold Dc.wd;rw [if_pos hx],Option.getD_some]
  exact h
 ·rw [show Dc.wd b a = none from by unfold Dc.wd;rw [if_neg hx],Option.getD_none]
  omega
theorem Dc.first_lt (b:List UInt8) (heads k:Nat):Dc.first b heads k < 4294967296:=Dc.wd_lt _ _
def Dc.wenc (x:Dc.Wd):List Value:=[.int .i64 (x.list:Int),.int .u32 (x.at_:Int),.string ⟨x.h.name.toArray⟩,.int .i64 (x.h.fl:Int),.int .u32 (x.h.link:Int),.int .u32 (x.h.xt:Int),.int .u32 (x.h.size:Int)]
theorem Dc.wenc_len (x:Dc.Wd):(Dc.wenc x).length = 7:=rfl
theorem dwrt:RowTy Tryz.prog 67 76 7 56:=
 ⟨Tryz.underlying67,by
  have h:(Tryz.prog.info? 76).map (fun i=>(i.zero,i.size,i.bytes)) = some (some (.agg #[.int .i64 0,.int .u32 0,.string ByteArray.empty,.int .i64 0,.int .u32 0,.int .u32 0,.int .u32 0]),7,56):=by kernel_rfl
  obtain ⟨i,h1,h2,h3,h4⟩:=info_parts h
  exact ⟨i,_,h1,h2,h3,h4,by kernel_rfl⟩⟩
end Go.Proofs.YtpcpaoeajcjoiaaGreatDoor
namespace Go.Proofs
open Go.Shelf
def Tryz.sortWord_ren:Go.Shelf.Ren:=⟨fun | 6=>73 | 15=>133 | 14=>132 | 28=>202 | 29=>203 | 20=>194 | 21=>195 | 22=>196 | 23=>197 | 24=>198 | 25=>199 | 26=>200 | 27=>201 | 46=>249 | 47=>250 | 48=>251 | 49=>252 | 50=>253 | 57=>270 | n=>n,fun | 22=>67 | 24=>76 | 25=>159 | 3=>3 | 39=>129 | 0=>0 | 53=>23 | 55=>53 | 4=>4 | 46=>293 | 45=>292 | 50=>185 | 5=>5 | 9=>9 | 66=>336 | 70=>340 | 76=>352 | 77=>192 | n=>n,fun | n=>n⟩
theorem Tryz.sortWord:Go.Proofs.SlLaysF0.n6 Tryz.prog Tryz.sortWord_ren:={
 mixed:=by kernel_rfl
 f6:=⟨Tryz.f73.name,by decide,Tryz.func73.trans (congrArg some (by kernel_rfl))⟩
 f14:=⟨Tryz.f132.name,by decide,Tryz.func132.trans (congrArg some (by kernel_rfl))⟩
 f15:=Tryz.func133.trans (congrArg some (by kernel_rfl))
 f20:=⟨Tryz.f194.name,by decide,Tryz.func194.trans (congrArg some (by kernel_rfl))⟩
 f21:=⟨Tryz.f195.name,by decide,Tryz.func195.trans (congrArg some (by kernel_rfl))⟩
 f22:=⟨Tryz.f196.name,by decide,Tryz.func196.trans (congrArg some (by kernel_rfl))⟩
 f23:=⟨Tryz.f197.name,by decide,Tryz.func197.trans (congrArg some (by kernel_rfl))⟩
 f24:=⟨Tryz.f198.name,by decide,Tryz.func198.trans (congrArg some (by kernel_rfl))⟩
 f25:=⟨Tryz.f199.name,by decide,Tryz.func199.trans (congrArg some (by kernel_rfl))⟩
 f26:=⟨Tryz.f200.name,by decide,Tryz.func200.trans (congrArg some (by kernel_rfl))⟩
 f27:=⟨Tryz.f201.name,by decide,Tryz.func201.trans (congrArg some (by kernel_rfl))⟩
 f28:=Tryz.func202.trans (congrArg some (by kernel_rfl))
 f29:=Tryz.func203.trans (congrArg some (by kernel_rfl))
 f46:=⟨Tryz.f249.name,by decide,Tryz.func249.trans (congrArg some (by kernel_rfl))⟩
 f47:=Tryz.func250.trans (congrArg some (by kernel_rfl))
 f48:=Tryz.func251.trans (congrArg some (by kernel_rfl))
 f49:=⟨Tryz.f252.name,by decide,Tryz.func252.trans (congrArg some (by kernel_rfl))⟩
 f50:=⟨Tryz.f253.name,by decide,Tryz.func253.trans (congrArg some (by kernel_rfl))⟩
 f57:=⟨Tryz.f270.name,by decide,Tryz.func270.trans (congrArg some (by kernel_rfl))⟩
 t0:=Tryz.underlying0
 a0:=Tryz.isAgg0
 z0:=Tryz.sizeOf0
 v0:=Tryz.zeroValue0
 t3:=Tryz.underlying3
 a3:=Tryz.isAgg3
 z3:=Tryz.sizeOf3
 v3:=Tryz.zeroValue3
 t4:=Tryz.underlying4
 a4:=Tryz.isAgg4
 z4:=Tryz.sizeOf4
 v4:=Tryz.zeroValue4
 t5:=Tryz.underlying5
 a5:=Tryz.isAgg5
 z5:=Tryz.sizeOf5
 v5:=Tryz.zeroValue5
 t9:=Tryz.underlying9
 a9:=Tryz.isAgg9
 z9:=Tryz.sizeOf9
 v9:=Tryz.zeroValue9
 t22:=Tryz.underlying67
 a22:=Tryz.isAgg67
 z22:=Tryz.sizeOf67
 v22:=Tryz.zeroValue67
 t25:=Tryz.underlying159
 a25:=Tryz.isAgg159
 z25:=Tryz.sizeOf159
 v25:=Tryz.zeroValue159
 t39:=Tryz.underlying129
 a39:=Tryz.isAgg129
 z39:=Tryz.sizeOf129
 v39:=Tryz.zeroValue129
 t45:=Tryz.underlying292
 a45:=Tryz.isAgg292
 z45:=Tryz.sizeOf292
 v45:=Tryz.zeroValue292
 t46:=Tryz.underlying293
 a46:=Tryz.isAgg293
 z46:=Tryz.sizeOf293
 v46:=Tryz.zeroValue293
 t50:=Tryz.underlying185
 a50:=Tryz.isAgg185
 z50:=Tryz.sizeOf185
 v50:=Tryz.zeroValue185
 t53:=Tryz.underlying23
 a53:=Tryz.isAgg23
 z53:=Tryz.sizeOf23
 v53:=Tryz.zeroValue23
 t55:=Tryz.underlying53
 a55:=Tryz.isAgg53
 z55:=Tryz.sizeOf53
 v55:=Tryz.zeroValue53
 t66:=Tryz.underlying336
 a66:=Tryz.isAgg336
 z66:=Tryz.sizeOf336
 v66:=Tryz.zeroValue336
 t70:=Tryz.underlying340
 a70:=Tryz.isAgg340
 z70:=Tryz.sizeOf340
 v70:=Tryz.zeroValue340
 t76:=Tryz.underlying352
 a76:=Tryz.isAgg352
 z76:=Tryz.sizeOf352
 v76:=Tryz.zeroValue352
 t77:=Tryz.underlying192
 a77:=Tryz.isAgg192
 z77:=Tryz.sizeOf192
 v77:=Tryz.zeroValue192 }
end Go.Proofs
namespace Go.Proofs.YtpcpaoeajcjoiaaGreatDoor
open Go.RowKit Go.Sort Kit
instance:Inhabited Dc.Wd:=⟨⟨0,0,⟨[],0,0,0,0⟩⟩⟩
theorem dnan_any (x:Int) (W:World):Calls Tryz.prog 204 #[.int .u32 x] W fun e w'=>e = .returned (.bool false)∧W = w':=by
 go_enter Tryz.func204,Tryz.ntmps204
 go_wp2_with fail
 go_ret
 exact ⟨by simp,rfl⟩
theorem dcmp_any (x y:Int) (W:World):Calls Tryz.prog 134 #[.int .u32 x,.int .u32 y] W fun e w'=>e = .returned (.int .i64 (Lib.compareInt x y))∧W = w':=by
 go_enter Tryz.func134,Tryz.ntmps134
 go_wp2_with (go_at_call 204;refine (dnan_any _ _).mono ?_;rintro e w' ⟨rfl,rfl⟩)
 all_goals (go_ret;refine ⟨?_,rfl⟩;unfold Lib.compareInt;(repeat' split) <;> first | rfl | (exfalso;omega))
def Dc.cf (x y:Dc.Wd):Int:=Lib.compareInt x.at_ y.at_
set_option maxHeartbeats 1000000 in
theorem dby_any (x y:Dc.Wd) (W:World):Calls Tryz.prog 74 #[.agg (Dc.wenc x).toArray,.agg (Dc.wenc y).toArray] W fun e w'=>e = .returned (.int .i64 (Dc.cf x y))∧∃ q os',w' = grow (W.drewN q) os':=by
 have CC:=Lib.hid (fun W=>dcmp_any x.at_ y.at_ W)
 have HC:=Lib.hid (show Dc.cf x y = Lib.compareInt x.at_ y.at_ from rfl)
 generalize Lib.compareInt x.at_ y.at_ = r at *
 unfold Dc.wenc
 go_enter Tryz.func74,Tryz.ntmps74
 go_wp2_with (go_at_call 134;refine (CC.out _).mono ?_;rintro e w' ⟨rfl,rfl⟩)
 go_ret
 exact ⟨by rw [HC.out];rfl,0,_,by rw [alloc_eq_grow,alloc_eq_grow,grow_grow];rfl⟩
theorem Dc.lt_eq (x y:Dc.Wd):ltOf Dc.cf x y = decide (x.at_ < y.at_):=by
 unfold ltOf Dc.cf Lib.compareInt
 by_cases h1:x.at_ < y.at_
 ·have:(x.at_:Int) < y.at_:=by omega
  simp [h1,this]
 ·have:¬ (x.at_:Int) < y.at_:=by omega
  by_cases h2:y.at_ < x.at_
  ·have:(y.at_:Int) < x.at_:=by omega
   simp [h1, *]
  ·have:¬ (y.at_:Int) < x.at_:=by omega
   simp [h1, *]
theorem Dc.swo:SWO (ltOf Dc.cf) where
 irrefl x:=by rw [Dc.lt_eq];simp
 trans x y z h1 h2:=by rw [Dc.lt_eq] at *;simp at *;omega
 ntrans x y z h1 h2:=by rw [Dc.lt_eq] at *;simp at *;omega
def RdD (w:World) (v:Value) (l:List Dc.Wd):Prop:=Rd w 7 v l.length (l.flatMap Dc.wenc)
theorem Dc.at_cell (l:List Dc.Wd) (j:Nat) (hj:j < l.length * 7):(l.flatMap Dc.wenc)[j]? = some (Dc.wenc l.toArray[j / 7]!)[j % 7]!:=by
 have h1:j / 7 < l.length:=by omega
 have h2:j % 7 < 7:=by omega
 have h:=flat_at Dc.wenc 7 Dc.wenc_len l (j / 7) (j % 7) default h1 h2
 rw [show j / 7 * 7+j % 7 = j by omega] at h
 rw [h]
 have e:l.getD (j / 7) default = l.toArray[j / 7]!:=by
  rw [getElem!_pos l.toArray _ (by simpa using h1)]
  simp [List.getD,List.getElem?_eq_getElem h1]
 have key:∀ m:List Value,j % 7 < m.length→m[j % 7]? = some m[j % 7]!:=fun m hm=>by rw [List.getElem?_eq_getElem hm,getElem!_pos m _ hm]
 rw [e,key _ (by rw [Dc.wenc_len];exact h2)]
theorem Dc.holds {w:World} {g:Nat} {t:TypeId} {cur:Array Value} {l:List Dc.Wd} (hbk:Bk w g t cur) (htake:cur.toList.take (l.length * 7) = l.flatMap Dc.wenc):HoldsK Dc.wenc 7 w g 0 l.toArray:=by
 intro j hj
 rw [size_flatK,List.size_toArray] at hj
 rw [get_flatK Dc.wenc 7 l.toArray j (by rw [List.size_toArray];exact hj),Nat.zero_add]
 refine ⟨?_,hbk.free j⟩
 show _ = some (Dc.wenc l.toArray[j / 7]!)[j % 7]!
 rw [hbk.cell j,← Dc.at_cell l j hj,← htake,List.getElem?_take,if_pos hj,Array.getElem?_toList]
theorem Dc.rd_holds {w:World} {g cap:Nat} {l:List Dc.Wd} (h:HoldsK Dc.wenc 7 w g 0 l.toArray) (hg:g < w.heap.size) (hc:l.length≤cap) (hm:cap≤maxLen):RdD w (.slice (some ⟨g,0,none⟩) l.length cap) l:=by
 refine ⟨flat_length _ _ Dc.wenc_len l,_,cap,rfl,hc,hm,fun _=>⟨g,0,rfl,hg,fun j u hu=>?_⟩⟩
 have hj:j < l.length * 7:=by have:=(List.getElem?_eq_some_iff.1 hu).1;rwa [flat_length _ _ Dc.wenc_len] at this
 have h1:=(h j (by rw [size_flatK,List.size_toArray];exact hj)).1
 rw [get_flatK Dc.wenc 7 l.toArray j (by rw [List.size_toArray];exact hj)] at h1
 rw [h1,← hu,Dc.at_cell l j hj]
 rfl
theorem Dc.one (x:Dc.Wd) (v:Value) (hv:v ∈ Dc.wenc x):v.oneCell' = true:=by
 simp only [Dc.wenc,List.mem_cons,List.not_mem_nil,or_false] at hv
 rcases hv with rfl | rfl | rfl | rfl | rfl | rfl | rfl <;> rfl
theorem Dc.kept_sort (w:World) (g n:Nat) (d:Array Dc.Wd) (os:Array Obj) (hg:g < w.heap.size):(∀ k,k < w.heap.size→k ≠ g→(sortWorldK Dc.wenc 7 w g 0 n d os).heap[k]? = w.heap[k]?) ∧
  (sortWorldK Dc.wenc 7 w g 0 n d os).os = w.os∧(sortWorldK Dc.wenc 7 w g 0 n d os).tape = w.tape∧(sortWorldK Dc.wenc 7 w g 0 n d os).output = w.output∧w.heap.size≤(sortWorldK Dc.wenc 7 w g 0 n d os).heap.size:=by
 refine ⟨fun k hk hne=>?_,?_,?_,?_,size_sortWorldK_c Dc.wenc 7 w g 0 n d os⟩
 ·unfold sortWorldK
  rw [heap_grow_old _ _ (by rw [size_putRowK];exact hk)]
  unfold putRowK putRow mapBlock
  show (Array.modify w.heap g _)[k]? = _
  rw [Array.getElem?_modify,if_neg (fun e=>hne e.symm)]
 ·rfl
 ·rfl
 ·rfl
theorem dsort_any (w:World) (g cap:Nat) (l:List Dc.Wd) (hown:w.ownsRow 0 76 7 (.slice (some ⟨g,0,none⟩) l.length cap) l.length (l.flatMap Dc.wenc)) (hl:l.length≤1000000) :
  Calls Tryz.prog 73 #[.slice (some ⟨g,0,none⟩) l.length cap,.func (.func 74) #[] #[]] w fun e w'=>e = .returned (.tuple #[]) ∧
   ∃ l',l'.Perm l∧l'.Pairwise (fun x y=>x.at_≤y.at_)∧RdD w' (.slice (some ⟨g,0,none⟩) l.length cap) l'∧(∀ k,k < w.heap.size→k ≠ g→w'.heap[k]? = w.heap[k]?)∧w'.os = w.os∧w'.tape = w.tape∧w'.output = w.output∧w.heap.size≤w'.heap.size:=by
 obtain ⟨_,h | ⟨g',cap',cur,he,_,hg,hnc,hcm,hcs,htake⟩⟩:=hown
 ·cases h.1
 injection he with e1 _ e3
 injection e1 with e1
 injection e1 with e1 _ _
 subst e1 e3
 have hlt:g < w.heap.size:=(Array.getElem?_eq_some_iff.1 hg).1
 have hH:=Dc.holds (w:=w) (g:=g) (t:=76) (cur:=cur) hg htake
 have eg:∀ args w,(callFunc 74 args).run Tryz.prog w = .ok (.enter 74 args) w:=enters_of Tryz.func74 (by kernel_rfl) rfl
 have hcon:=AnyQ.slices_SortFunc Tryz.sortWord 7 Tryz.isAgg76 Tryz.sizeOf76 Dc.wenc Dc.wenc_len Dc.one Dc.cf Dc.swo 74 #[] g 0 cap l.toArray w eg (fun m os dk _ x y=>dby_any x y _) hH hlt (by simp;omega)
 change Calls Tryz.prog 73 _ _ _ at hcon
 rw [List.size_toArray] at hcon
 refine hcon.mono ?_
 rintro e w' ⟨rfl,d',n,os,hp,hs,rfl⟩
 obtain ⟨k1,k2,k3,k4,k5⟩:=Dc.kept_sort w g n d' os hlt
 obtain ⟨p1,_,p3⟩:=hp
 have q1:d'.size = l.length:=by simpa using p1
 have e1:d'.extract 0 l.length = d':=by rw [← q1];simp
 have e2:l.toArray.extract 0 l.length = l.toArray:=by simp
 rw [e1,e2] at p3
 have hdl:d'.toList.length = l.length:=q1
 have hH2:=holdsK_sortWorldK_c Dc.wenc 7 w g 0 l.toArray d' n os hH hlt (by rw [q1,List.size_toArray])
 refine ⟨rfl,d'.toList,p3,?_,?_,k1,k2,k3,k4,k5⟩
 ·rw [List.pairwise_iff_getElem]
  intro i j hi hj hij
  have:=hs i j (Nat.zero_le _) hij (by omega)
  rw [Dc.lt_eq,getElem!_pos d' j (by simpa using hj),getElem!_pos d' i (by simpa using hi)] at this
  simpa using of_decide_eq_false this
 ·have:=Dc.rd_holds (l:=d'.toList) (cap:=cap) hH2 (Nat.lt_of_lt_of_le hlt k5) (by rw [hdl];exact hnc) hcm
  rwa [hdl] at this
theorem dsort_all (w:World) (base:Nat) (v:Value) (l:List Dc.Wd) (hown:w.ownsRow base 76 7 v l.length (l.flatMap Dc.wenc)) (hl:l.length≤1000000) :
  Calls Tryz.prog 73 #[v,.func (.func 74) #[] #[]] w fun e w'=>e = .returned (.tuple #[]) ∧
   ∃ l',l'.Perm l∧l'.Pairwise (fun x y=>x.at_≤y.at_)∧RdD w' v l'∧(∀ k,k < w.heap.size→v.ownBlock ≠ some k→w'.heap[k]? = w.heap[k]?)∧w'.os = w.os∧w'.tape = w.tape∧w'.output = w.output∧w.heap.size≤w'.heap.size:=by
 have h0:=hown
 obtain ⟨hln,⟨rfl,hz⟩ | ⟨g,cap,cur,rfl,hb,hg,hnc,hcm,hcs,htake⟩⟩:=hown
 ·obtain rfl:l = []:=List.eq_nil_of_length_eq_zero hz
  have hcon:=AnyF.slices_SortFunc_none Tryz.sortWord none 0 (.func (.func 74) #[] #[]) w
  change Calls Tryz.prog 73 _ _ _ at hcon
  refine hcon.mono ?_
  rintro e w' ⟨rfl,rfl⟩
  exact ⟨rfl,[],.refl _,.nil,Rd.nil _ _,fun _ _ _=>rfl,rfl,rfl,rfl,Nat.le_refl _⟩
 ·refine (dsort_any w g cap l ⟨hln,.inr ⟨g,cap,cur,rfl,Nat.zero_le _,hg,hnc,hcm,hcs,htake⟩⟩ hl).mono ?_
  rintro e w' ⟨rfl,l',h1,h2,h3,h4,h5⟩
  exact ⟨rfl,l',h1,h2,h3,fun k hk hne=>h4 k hk (fun e=>hne (by subst e;rfl)),h5⟩
end Go.Proofs.YtpcpaoeajcjoiaaGreatDoor
